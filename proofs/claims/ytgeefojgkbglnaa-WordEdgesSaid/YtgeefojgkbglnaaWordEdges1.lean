/-
  Texts laid together: LfR, Gt, Gu, PlR, LfD, PlH, LfWordEdges, PlWordEdges. Nothing is assumed.
-/
import Derived.Test.YtgeefojgkbglnaaWc2
import Derived.Test.YtgeefojgkbglnaaWc4
import Derived.Test.YtgeefojgkbglnaaWc5
import Derived.Test.YtgeefojgkbglnaaWc3
namespace Go.Proofs.Ytgeefojgkbglnaa
open Go.RowKit Go.Lib
set_option linter.unusedVariables false
set_option linter.unusedSimpArgs false
def runes_Width_v (r1 : Int) : Option Int := joinK (fun (j1 : Option Int) => bcond ((r1 : Int) != 65533) ( bcond (decide (Utf8.encode r1 = (⟨#[239, 191, 189]⟩ : ByteArray))) ( some 0
) ( j1
)
) ( j1
)
) ( some ((Utf8.encode r1).size : Int)
)
set_option maxRecDepth 100000 in
set_option maxHeartbeats 4000000 in
theorem runes_Width_fn {r1 : Int} {r : Int} (h : runes_Width_v r1 = some r) : FnP Try.prog 80 [.int .i32 r1] (.int .i64 r) := by
 unfold runes_Width_v at h
 refine FnP.intro Try.func80 rfl Try.ntmps80 (by simp) ?_
 intro w0 K
 obtain ⟨j1, hj1, h⟩ := joinE h
 refine TC.cutN (β := Unit) 1 rfl (fun b => j1 = some r) (fun b => []) (fun b => [(0, .int .i32 r1)]) (fun b => []) (fun cut => ?_) ?_
 ·
  refine TC.seq (TC.region (TO.assign rfl (by decide) rfl (TO.nil (TX.next (cut (TC.seq (TC.region (TO.move rfl (by decide) rfl (TO.bin rfl (by decide) rfl rfl bin_neq (TO.move rfl (by decide) rfl ?_))))))))))
  refine TO.split (s := 5) rfl (fun hb1 => ?_) (fun hb1 => ?_)
  ·
   have h := condT hb1 h
   refine TO.move rfl (by decide) rfl (TO.conv rfl (by decide) rfl (conv_rune Try.underlying21 Try.underlying9) (TO.bin rfl (by decide) rfl rfl bin_seql (TO.pick (b := true) rfl (by decide) rfl rfl (TO.nil (TX.next ?_)))))
   refine TC.condB rfl (fun hb2 => ?_) (fun hb2 => ?_)
   ·
    have h := condT hb2 h
    refine TC.seq (TC.region (TO.assign rfl (by decide) rfl (TO.nil (TX.next (TC.ret (TX.thenRet ?_))))))
    cases h
    exact TX.fin (rs := [.tmp 2]) () (.inl rfl) Try.results80 (.cons (.tmp rfl) .nil) rfl Splits.nil
   ·
    have h := condF hb2 h
    refine TC.skip ?_
    exact TX.meetD () h rfl (Sbs.cons rfl (Sbs.nil)) Splits.nil
  ·
   have h := condF hb1 h
   refine TO.skip rfl (by decide) (TO.skip rfl (by decide) (TO.skip rfl (by decide) (TO.pick (b := false) rfl (by decide) rfl rfl (TO.nil (TX.next (TC.condF rfl (TC.skip ?_)))))))
   exact TX.meetD () h rfl (Sbs.cons rfl (Sbs.nil)) Splits.nil
 ·
  rintro _ h
  subst hj1
  show TC _ _ _ _ _ ([]) _ _ [(0, .int .i32 r1)] []
  refine TC.seq (TC.region (TO.move rfl (by decide) rfl (TO.conv rfl (by decide) rfl (conv_rune Try.underlying21 Try.underlying9) (TO.lenStr rfl (by decide) rfl Try.underlying9 (TO.assign rfl (by decide) rfl (TO.nil (TX.next (TC.ret ?_))))))))
  cases h
  exact TX.fin (rs := [.tmp 2]) () (.inl rfl) Try.results80 (.cons (.tmp rfl) .nil) rfl Splits.nil
def runes_read_s1 (s1 : ByteArray) (at1 : Int) (j1 : Option Gapi_Piece) (ag1 : Option Gapi_Piece) : Option Gapi_Piece := bcond (decide (0 < (pcs (cutB s1 at1 (s1.size : Int)).data.toList).length)) ( andThen ((pcs (cutB s1 at1 (s1.size : Int)).data.toList)[0]?) fun (p1 : Pc) => joinK (fun (j2 : Int → Option Gapi_Piece) => andThen (runes_Width_v (p1.r : Int)) fun (r1 : Int) => bcond (((p1.r : Int) : Int) == 65533) ( grd (I64 ((s1.size : Int) - at1)) <| bcond (decide ((((s1.size : Int) - at1) : Int) < 3)) ( some (⟨at1, 1, 65533, true⟩ : Gapi_Piece)
) ( grd (I64 (at1 + 3)) <| grd (0 ≤ (at1 : Int) ∧ (at1 : Int) ≤ (at1 + 3) ∧ (at1 + 3 : Int) ≤ (s1.size : Int)) <| bcond (!decide (cutB s1 at1 (at1 + 3) = (⟨#[239, 191, 189]⟩ : ByteArray))) ( some (⟨at1, 1, 65533, true⟩ : Gapi_Piece)
) ( j2 r1
)
)
) ( j2 r1
)
) (fun (n2 : Int) => some (⟨at1, n2, (p1.r : Int), false⟩ : Gapi_Piece)
)
) ( j1
)
def runes_read_v (s1 : ByteArray) (at1 : Int) : Option Gapi_Piece := joinK (fun (j1 : Option Gapi_Piece) => grd (0 ≤ (at1 : Int) ∧ (at1 : Int) ≤ (s1.size : Int) ∧ ((s1.size : Int) : Int) ≤ (s1.size : Int)) <| loopG none (runes_read_s1 s1 at1 j1) fuel
) ( some (⟨0, 0, 0, false⟩ : Gapi_Piece)
)
set_option maxRecDepth 100000 in
set_option maxHeartbeats 4000000 in
theorem runes_read_fn {s1 : ByteArray} {at1 : Int} {r : Gapi_Piece} (h : runes_read_v s1 at1 = some r) : FnP Try.prog 68 [.string s1, .int .i64 at1] (.agg #[.int .i64 r.At, .int .i64 r.Width, .int .i32 r.Rune, .bool r.Broken]) := by
 unfold runes_read_v at h
 refine FnP.intro Try.func68 rfl Try.ntmps68 (by simp) ?_
 intro w0 K
 obtain ⟨j1, hj1, h⟩ := joinE h
 refine TC.cutN (β := Nat) 1 rfl (fun b => j1 = some r) (fun b => []) (fun b => [(4, .pointer (some ⟨b, 0, none⟩))]) (fun b => [cells b [.int .i64 0, .int .i64 0, .int .i32 0, .bool false] 78]) (fun cut => ?_) ?_
 ·
  refine TC.seq (TC.region ?_)
  refine TO.alloc zr_78 rfl (by decide) (fun b2 => ?_)
  refine TO.nil (TX.next (cut (TC.seq (TC.region (TO.move rfl (by decide) rfl (TO.move rfl (by decide) rfl ?_))))))
  obtain ⟨hg1, h⟩ := grdE h
  refine TO.slice rfl (by decide) rfl rfl rfl (slice_stringI (i := at1) (j := (s1.size : Int)) Try.underlying9 (.inr rfl) (.inl ⟨rfl, rfl⟩) hg1) ?_
  refine TO.rangeStr Try.underlying9 rfl (by decide) rfl (fun b3 => ?_)
  show TO _ _ _ _ _ _ _ _ _ _ [cells b2 [.int .i64 0, .int .i64 0, .int .i32 0, .bool false] 78, obj b3 (.stringIter (cutB s1 at1 (s1.size : Int)) (posAt (cutB s1 at1 (s1.size : Int)) 0))]
  refine TO.nil (TX.next (TC.block ?_))
  refine TC.loopD (β := Nat) (fun b => loopG none (runes_read_s1 s1 at1 j1) b = some r) (fun b => []) (fun b => [(0, .string s1), (1, .int .i64 at1), (4, .pointer (some ⟨b2, 0, none⟩)), (11, .pointer (some ⟨b3, 0, none⟩))]) (fun b => [cells b2 [.int .i64 0, .int .i64 0, .int .i32 0, .bool false] 78, obj b3 (.stringIter (cutB s1 at1 (s1.size : Int)) (posAt (cutB s1 at1 (s1.size : Int)) 0))]) (fun b => b) fuel h rfl (Sbs.cons rfl (Sbs.cons rfl (Sbs.cons rfl (Sbs.cons rfl (Sbs.nil))))) (Splits.of [0, 1] (by as_aux_lemma => kernel_rfl) rfl) ?_
  rintro n1 h
  cases n1 with
  | zero => exact noneE h
  | succ n1 =>
   obtain ⟨ag1, hag1⟩ : ∃ ag, ag = loopG none (runes_read_s1 s1 at1 j1) n1 := ⟨_, rfl⟩
   have h : runes_read_s1 s1 at1 j1 ag1 = some r := by rw [hag1]; exact h
   unfold runes_read_s1 at h
   show TC _ _ _ _ _ ([]) _ _ [(0, .string s1), (1, .int .i64 at1), (4, .pointer (some ⟨b2, 0, none⟩)), (11, .pointer (some ⟨b3, 0, none⟩))] [cells b2 [.int .i64 0, .int .i64 0, .int .i32 0, .bool false] 78, obj b3 (.stringIter (cutB s1 at1 (s1.size : Int)) (posAt (cutB s1 at1 (s1.size : Int)) 0))]
   refine TC.seq (TC.region ?_)
   refine TO.bySplit (b := decide (0 < (pcs (cutB s1 at1 (s1.size : Int)).data.toList).length)) (fun hb1 => ?_) (fun hb1 => ?_)
   ·
    have h := condT hb1 h
    obtain ⟨p1, hq1, h⟩ := andE h
    refine TO.nextStr (k := 1) (m := 0) (p := p1) rfl (by decide) rfl rfl hq1 (TO.extract rfl (by decide) rfl rfl (TO.nil (TX.next (TC.seq (TC.condT rfl (TC.skip (TX.next (TC.block ?_))))))))
    obtain ⟨j2, hj2, h⟩ := joinE h
    refine TC.cutN (β := Int) 2 rfl (fun b => j2 b = some r) (fun b => []) (fun b => [(1, .int .i64 at1), (4, .pointer (some ⟨b2, 0, none⟩)), (6, .int .i32 (p1.r : Int)), (7, .int .i64 b)]) (fun b => [cells b2 [.int .i64 0, .int .i64 0, .int .i32 0, .bool false] 78]) (fun cut => ?_) ?_
    ·
     refine TC.seq (TC.region (TO.extract rfl (by decide) rfl rfl (TO.assign rfl (by decide) rfl (TO.nil (TX.next (TC.seq (TC.region (TO.move rfl (by decide) rfl ?_))))))))
     obtain ⟨r1, hq2, h⟩ := andE h
     refine TO.callP (v := .int .i64 r1) (vs := [.int .i32 (p1.r : Int)]) rfl (by decide) rfl rfl rfl en_80 (runes_Width_fn hq2) (TO.assign rfl (by decide) rfl (TO.nil (TX.next (cut (TC.seq (TC.region (TO.move rfl (by decide) rfl (TO.bin rfl (by decide) rfl rfl bin_eql (TO.move rfl (by decide) rfl ?_)))))))))
     refine TO.split (s := 19) rfl (fun hb2 => ?_) (fun hb2 => ?_)
     ·
      have h := condT hb2 h
      refine TO.move rfl (by decide) rfl (TO.lenStr rfl (by decide) rfl Try.underlying9 (TO.move rfl (by decide) rfl ?_))
      obtain ⟨hg2, h⟩ := grdE h
      refine TO.bin rfl (by decide) rfl rfl (bin_sub (r := (s1.size : Int) - at1) (IntWalk.i64_in _ hg2)) (TO.bin rfl (by decide) rfl rfl bin_lss (TO.move rfl (by decide) rfl ?_))
      refine TO.split (s := 25) rfl (fun hb3 => ?_) (fun hb3 => ?_)
      ·
       have h := condT hb3 h
       refine TO.skip rfl (by decide) (TO.skip rfl (by decide) (TO.skip rfl (by decide) (TO.skip rfl (by decide) (TO.skip rfl (by decide) (TO.skip rfl (by decide) (TO.pick (b := true) rfl (by decide) rfl rfl (TO.pick (b := true) rfl (by decide) rfl rfl (TO.nil (TX.next (TC.condT rfl (TC.seq (TC.region (TO.move rfl (by decide) rfl ?_)))))))))))))
       refine TO.build (v := .agg #[.int .i64 at1, .int .i64 1, .int .i32 65533, .bool true]) (ps := [(0, .tmp 34), (1, .const (.int .i64 1)), (2, .const (.int .i32 65533)), (3, .const (.bool true))]) rfl (by decide) rfl (fun _ => by kernel_rfl) ?_
       refine TO.stores (k := 0) (vs := [.int .i64 at1, .int .i64 1, .int .i32 65533, .bool true]) (l' := [.int .i64 at1, .int .i64 1, .int .i32 65533, .bool true]) sz_78 rfl rfl rfl rfl rfl (show _ ≤ _ by simp) rfl rfl ?_
       show TO _ _ _ _ _ _ _ _ _ _ [cells b2 [.int .i64 at1, .int .i64 1, .int .i32 65533, .bool true] 78, obj b3 (.stringIter (cutB s1 at1 (s1.size : Int)) (posAt (cutB s1 at1 (s1.size : Int)) (0 + 1)))]
       refine TO.nil (TX.next (TC.ret (TX.thenRet (TX.blockRet (TX.thenRet (TX.blockRet (TX.thenRet ?_)))))))
       cases h
       exact TX.fin (rs := [.cell 4 78]) () (.inl rfl) Try.results68 (.cons (.cells rw_78 (k := 0) rfl rfl rfl) .nil) rfl Splits.nil
      ·
       have h := condF hb3 h
       refine TO.move rfl (by decide) rfl (TO.move rfl (by decide) rfl (TO.move rfl (by decide) rfl ?_))
       obtain ⟨hg3, h⟩ := grdE h
       refine TO.bin rfl (by decide) rfl rfl (bin_add (r := at1 + 3) (IntWalk.i64_in _ hg3)) ?_
       obtain ⟨hg4, h⟩ := grdE h
       refine TO.slice rfl (by decide) rfl rfl rfl (slice_stringI (i := at1) (j := at1 + 3) Try.underlying9 (.inr rfl) (.inr rfl) hg4) (TO.bin rfl (by decide) rfl rfl bin_sneq (TO.pick (b := false) rfl (by decide) rfl rfl (TO.pick (b := true) rfl (by decide) rfl rfl (TO.nil (TX.next ?_)))))
       refine TC.condB rfl (fun hb4 => ?_) (fun hb4 => ?_)
       ·
        have h := condT hb4 h
        refine TC.seq (TC.region (TO.move rfl (by decide) rfl ?_))
        refine TO.build (v := .agg #[.int .i64 at1, .int .i64 1, .int .i32 65533, .bool true]) (ps := [(0, .tmp 34), (1, .const (.int .i64 1)), (2, .const (.int .i32 65533)), (3, .const (.bool true))]) rfl (by decide) rfl (fun _ => by kernel_rfl) ?_
        refine TO.stores (k := 0) (vs := [.int .i64 at1, .int .i64 1, .int .i32 65533, .bool true]) (l' := [.int .i64 at1, .int .i64 1, .int .i32 65533, .bool true]) sz_78 rfl rfl rfl rfl rfl (show _ ≤ _ by simp) rfl rfl ?_
        show TO _ _ _ _ _ _ _ _ _ _ [cells b2 [.int .i64 at1, .int .i64 1, .int .i32 65533, .bool true] 78, obj b3 (.stringIter (cutB s1 at1 (s1.size : Int)) (posAt (cutB s1 at1 (s1.size : Int)) (0 + 1)))]
        refine TO.nil (TX.next (TC.ret (TX.thenRet (TX.blockRet (TX.thenRet (TX.blockRet (TX.thenRet ?_)))))))
        cases h
        exact TX.fin (rs := [.cell 4 78]) () (.inl rfl) Try.results68 (.cons (.cells rw_78 (k := 0) rfl rfl rfl) .nil) rfl Splits.nil
       ·
        have h := condF hb4 h
        refine TC.skip ?_
        exact TX.meetD r1 h rfl (Sbs.cons rfl (Sbs.cons rfl (Sbs.cons rfl (Sbs.cons rfl (Sbs.nil))))) (Splits.of [0] (by as_aux_lemma => kernel_rfl) rfl)
     ·
      have h := condF hb2 h
      refine TO.skip rfl (by decide) (TO.skip rfl (by decide) (TO.skip rfl (by decide) (TO.skip rfl (by decide) (TO.skip rfl (by decide) (TO.skip rfl (by decide) (TO.skip rfl (by decide) (TO.skip rfl (by decide) (TO.skip rfl (by decide) (TO.skip rfl (by decide) (TO.skip rfl (by decide) (TO.skip rfl (by decide) (TO.skip rfl (by decide) (TO.pick (b := false) rfl (by decide) rfl rfl ?_)))))))))))))
      refine TO.nil (TX.next (TC.condF rfl (TC.skip ?_)))
      exact TX.meetD r1 h rfl (Sbs.cons rfl (Sbs.cons rfl (Sbs.cons rfl (Sbs.cons rfl (Sbs.nil))))) (Splits.of [0] (by as_aux_lemma => kernel_rfl) rfl)
    ·
     rintro n2 h
     subst hj2
     show TC _ _ _ _ _ ([]) _ _ [(1, .int .i64 at1), (4, .pointer (some ⟨b2, 0, none⟩)), (6, .int .i32 (p1.r : Int)), (7, .int .i64 n2)] [cells b2 [.int .i64 0, .int .i64 0, .int .i32 0, .bool false] 78]
     refine TC.seq (TC.region (TO.move rfl (by decide) rfl (TO.move rfl (by decide) rfl (TO.move rfl (by decide) rfl ?_))))
     refine TO.build (v := .agg #[.int .i64 at1, .int .i64 n2, .int .i32 (p1.r : Int), .bool false]) (ps := [(0, .tmp 36), (1, .tmp 37), (2, .tmp 38)]) rfl (by decide) rfl (fun _ => by kernel_rfl) ?_
     refine TO.stores (k := 0) (vs := [.int .i64 at1, .int .i64 n2, .int .i32 (p1.r : Int), .bool false]) (l' := [.int .i64 at1, .int .i64 n2, .int .i32 (p1.r : Int), .bool false]) sz_78 rfl rfl rfl rfl rfl (show _ ≤ _ by simp) rfl rfl (TO.nil (TX.next (TC.ret (TX.blockRet (TX.thenRet (TX.blockRet (TX.thenRet ?_)))))))
     cases h
     exact TX.fin (rs := [.cell 4 78]) () (.inl rfl) Try.results68 (.cons (.cells rw_78 (k := 0) rfl rfl rfl) .nil) rfl Splits.nil
   ·
    have h := condF hb1 h
    refine TO.nextEnd (k := 1) (m := 0) rfl (by decide) rfl rfl (Nat.le_of_not_lt (of_decide_eq_false hb1)) (TO.extract rfl (by decide) rfl rfl (TO.nil (TX.next (TC.seq (TC.condF rfl (TC.exit (TX.thenExit (TX.thenExit (TX.blockHere ?_)))))))))
    exact TX.meetD b2 h rfl (Sbs.cons rfl (Sbs.nil)) (Splits.of [0] (by as_aux_lemma => kernel_rfl) rfl)
 ·
  rintro b1 h
  subst hj1
  show TC _ _ _ _ _ ([]) _ _ [(4, .pointer (some ⟨b1, 0, none⟩))] [cells b1 [.int .i64 0, .int .i64 0, .int .i32 0, .bool false] 78]
  refine TC.seq (TC.region ?_)
  refine TO.build (v := .agg #[.int .i64 0, .int .i64 0, .int .i32 0, .bool false]) (ps := []) rfl (by decide) rfl (fun _ => by kernel_rfl) ?_
  refine TO.stores (k := 0) (vs := [.int .i64 0, .int .i64 0, .int .i32 0, .bool false]) (l' := [.int .i64 0, .int .i64 0, .int .i32 0, .bool false]) sz_78 rfl rfl rfl rfl rfl (show _ ≤ _ by simp) rfl rfl (TO.nil (TX.next (TC.ret ?_)))
  cases h
  exact TX.fin (rs := [.cell 4 78]) () (.inl rfl) Try.results68 (.cons (.cells rw_78 (k := 0) rfl rfl rfl) .nil) rfl Splits.nil
def runes_within_s1 (s1 : ByteArray) (at1 : Int) (j1 : Option (Gapi_Piece × Bool)) (ag1 : Int → Option (Gapi_Piece × Bool)) (from3 : Int) : Option (Gapi_Piece × Bool) := bcond (decide ((from3 : Int) < at1)) ( joinK (fun (j2 : Option (Gapi_Piece × Bool)) => andThen (runes_read_v s1 from3) fun (r1 : Gapi_Piece) => grd (I64 (from3 + r1.Width)) <| bcond (decide ((at1 : Int) < (from3 + r1.Width))) ( bcond (!r1.Broken) ( some (r1, true)
) ( j2
)
) ( j2
)
) ( grd (I64 (from3 + 1)) <| ag1 (from3 + 1)
)
) ( j1
)
def runes_within_v (s1 : ByteArray) (at1 : Int) : Option (Gapi_Piece × Bool) := joinK (fun (j1 : Option (Gapi_Piece × Bool)) => grd (I64 (at1 - 3)) <| loopG (fun _ => none) (runes_within_s1 s1 at1 j1) fuel (max (at1 - 3) 0)
) ( some ((⟨0, 0, 0, false⟩ : Gapi_Piece), false)
)
set_option maxRecDepth 100000 in
set_option maxHeartbeats 4000000 in
theorem runes_within_fn {s1 : ByteArray} {at1 : Int} {r : (Gapi_Piece × Bool)} (h : runes_within_v s1 at1 = some r) : FnP Try.prog 52 [.string s1, .int .i64 at1] (.tuple #[.agg #[.int .i64 r.1.At, .int .i64 r.1.Width, .int .i32 r.1.Rune, .bool r.1.Broken], .bool r.2]) := by
 unfold runes_within_v at h
 refine FnP.intro Try.func52 rfl Try.ntmps52 (by simp) ?_
 intro w0 K
 obtain ⟨j1, hj1, h⟩ := joinE h
 refine TC.cutN (β := Nat) 1 rfl (fun b => j1 = some r) (fun b => []) (fun b => [(4, .pointer (some ⟨b, 0, none⟩))]) (fun b => [cells b [.int .i64 0, .int .i64 0, .int .i32 0, .bool false] 78]) (fun cut => ?_) ?_
 ·
  refine TC.seq (TC.region ?_)
  refine TO.alloc zr_78 rfl (by decide) (fun b2 => ?_)
  refine TO.assign rfl (by decide) rfl (TO.nil (TX.next (cut (TC.seq (TC.region (TO.move rfl (by decide) rfl ?_))))))
  obtain ⟨hg1, h⟩ := grdE h
  refine TO.bin rfl (by decide) rfl rfl (bin_sub (r := at1 - 3) (IntWalk.i64_in _ hg1)) (TO.max2 rfl (by decide) rfl rfl (TO.assign rfl (by decide) rfl (TO.nil (TX.next (TC.block ?_)))))
  refine TC.loopD (β := Nat × Int) (fun b => loopG (fun _ => none) (runes_within_s1 s1 at1 j1) b.1 b.2 = some r) (fun b => []) (fun b => [(0, .string s1), (1, .int .i64 at1), (4, .pointer (some ⟨b2, 0, none⟩)), (6, .int .i64 b.2)]) (fun b => [cells b2 [.int .i64 0, .int .i64 0, .int .i32 0, .bool false] 78]) (fun b => b.1) (fuel, max (at1 - 3) 0) h rfl (Sbs.cons rfl (Sbs.cons rfl (Sbs.cons rfl (Sbs.cons rfl (Sbs.nil))))) (Splits.of [0] (by as_aux_lemma => kernel_rfl) rfl) ?_
  rintro ⟨n1, from3⟩ h
  cases n1 with
  | zero => exact noneE h
  | succ n1 =>
   obtain ⟨ag1, hag1⟩ : ∃ ag, ag = loopG (fun _ => none) (runes_within_s1 s1 at1 j1) n1 := ⟨_, rfl⟩
   have h : runes_within_s1 s1 at1 j1 ag1 from3 = some r := by rw [hag1]; exact h
   unfold runes_within_s1 at h
   show TC _ _ _ _ _ ([]) _ _ [(0, .string s1), (1, .int .i64 at1), (4, .pointer (some ⟨b2, 0, none⟩)), (6, .int .i64 from3)] [cells b2 [.int .i64 0, .int .i64 0, .int .i32 0, .bool false] 78]
   refine TC.seq (TC.seq (TC.region (TO.move rfl (by decide) rfl (TO.move rfl (by decide) rfl (TO.bin rfl (by decide) rfl rfl bin_lss (TO.nil (TX.next ?_)))))))
   refine TC.condB rfl (fun hb1 => ?_) (fun hb1 => ?_)
   ·
    have h := condT hb1 h
    refine TC.skip (TX.next ?_)
    obtain ⟨j2, hj2, h⟩ := joinE h
    refine TC.cutN (β := Unit) 0 rfl (fun b => j2 = some r) (fun b => []) (fun b => [(0, .string s1), (1, .int .i64 at1), (4, .pointer (some ⟨b2, 0, none⟩)), (6, .int .i64 from3)]) (fun b => [cells b2 [.int .i64 0, .int .i64 0, .int .i32 0, .bool false] 78]) (fun cut => ?_) ?_
    ·
     refine cut (TC.block (TC.seq (TC.region (TO.move rfl (by decide) rfl (TO.move rfl (by decide) rfl ?_)))))
     obtain ⟨r1, hq1, h⟩ := andE h
     refine TO.callP (v := .agg #[.int .i64 r1.At, .int .i64 r1.Width, .int .i32 r1.Rune, .bool r1.Broken]) (vs := [.string s1, .int .i64 from3]) rfl (by decide) rfl rfl rfl en_68 (runes_read_fn hq1) ?_
     refine TO.alloc zr_78 rfl (by decide) (fun b3 => ?_)
     refine TO.stores (k := 1) (vs := [.int .i64 r1.At, .int .i64 r1.Width, .int .i32 r1.Rune, .bool r1.Broken]) (l' := [.int .i64 r1.At, .int .i64 r1.Width, .int .i32 r1.Rune, .bool r1.Broken]) sz_78 rfl rfl rfl rfl rfl (show _ ≤ _ by simp) rfl rfl ?_
     show TO _ _ _ _ _ _ _ _ _ _ [cells b2 [.int .i64 0, .int .i64 0, .int .i32 0, .bool false] 78, cells b3 [.int .i64 r1.At, .int .i64 r1.Width, .int .i32 r1.Rune, .bool r1.Broken] 78]
     refine TO.nil (TX.next (TC.seq (TC.region (TO.move rfl (by decide) rfl (TO.fieldAddr fl_78_1 rfl (by decide) rfl (show _ = 1 from rfl) (TO.load (k := 1) sc_3 rfl (by decide) rfl rfl rfl ?_))))))
     obtain ⟨hg2, h⟩ := grdE h
     refine TO.bin rfl (by decide) rfl rfl (bin_add (r := from3 + r1.Width) (IntWalk.i64_in _ hg2)) (TO.move rfl (by decide) rfl (TO.bin rfl (by decide) rfl rfl bin_gtr (TO.move rfl (by decide) rfl ?_)))
     refine TO.split (s := 25) rfl (fun hb2 => ?_) (fun hb2 => ?_)
     ·
      have h := condT hb2 h
      refine TO.fieldAddr fl_78_3 rfl (by decide) rfl (show _ = 3 from rfl) (TO.load (k := 1) sc_4 rfl (by decide) rfl rfl rfl (TO.un rfl (by decide) rfl un_not (TO.pick (b := true) rfl (by decide) rfl rfl (TO.nil (TX.next ?_)))))
      refine TC.condB rfl (fun hb3 => ?_) (fun hb3 => ?_)
      ·
       have h := condT hb3 h
       refine TC.seq (TC.region (TO.loads (k := 1) (cs := [.int .i64 r1.At, .int .i64 r1.Width, .int .i32 r1.Rune, .bool r1.Broken]) rw_78 rfl (by decide) rfl rfl rfl rfl (TO.stores (k := 0) (vs := [.int .i64 r1.At, .int .i64 r1.Width, .int .i32 r1.Rune, .bool r1.Broken]) (l' := [.int .i64 r1.At, .int .i64 r1.Width, .int .i32 r1.Rune, .bool r1.Broken]) sz_78 rfl rfl rfl rfl rfl (show _ ≤ _ by simp) rfl rfl (TO.assign rfl (by decide) rfl (TO.nil (TX.next (TC.ret (TX.blockRet (TX.thenRet (TX.thenRet (TX.blockRet (TX.thenRet ?_))))))))))))
       cases h
       exact TX.fin (rs := [.cell 4 78, .tmp 5]) () (.inl rfl) Try.results52 (.cons (.cells rw_78 (k := 0) rfl rfl rfl) (.cons (.tmp rfl) .nil)) rfl Splits.nil
      ·
       have h := condF hb3 h
       refine TC.skip (TX.blockNormal ?_)
       exact TX.meetD () h rfl (Sbs.cons rfl (Sbs.cons rfl (Sbs.cons rfl (Sbs.cons rfl (Sbs.nil))))) (Splits.of [0] (by as_aux_lemma => kernel_rfl) rfl)
     ·
      have h := condF hb2 h
      refine TO.skip rfl (by decide) (TO.skip rfl (by decide) (TO.skip rfl (by decide) (TO.pick (b := false) rfl (by decide) rfl rfl (TO.nil (TX.next (TC.condF rfl (TC.skip (TX.blockNormal ?_))))))))
      exact TX.meetD () h rfl (Sbs.cons rfl (Sbs.cons rfl (Sbs.cons rfl (Sbs.cons rfl (Sbs.nil))))) (Splits.of [0] (by as_aux_lemma => kernel_rfl) rfl)
    ·
     rintro _ h
     subst hj2
     show TC _ _ _ _ _ ([]) _ _ [(0, .string s1), (1, .int .i64 at1), (4, .pointer (some ⟨b2, 0, none⟩)), (6, .int .i64 from3)] [cells b2 [.int .i64 0, .int .i64 0, .int .i32 0, .bool false] 78]
     refine TC.region (TO.move rfl (by decide) rfl ?_)
     obtain ⟨hg3, h⟩ := grdE h
     refine TO.bin rfl (by decide) rfl rfl (bin_add (r := from3 + 1) (IntWalk.i64_in _ hg3)) (TO.assign rfl (by decide) rfl (TO.nil ?_))
     subst hag1
     exact TX.againD (n1, from3 + 1) h (Nat.lt_succ_self _) rfl (Sbs.cons rfl (Sbs.cons rfl (Sbs.cons rfl (Sbs.cons rfl (Sbs.nil))))) (Splits.of [0] (by as_aux_lemma => kernel_rfl) rfl)
   ·
    have h := condF hb1 h
    refine TC.exit (TX.thenExit (TX.thenExit (TX.blockHere ?_)))
    exact TX.meetD b2 h rfl (Sbs.cons rfl (Sbs.nil)) (Splits.of [0] (by as_aux_lemma => kernel_rfl) rfl)
 ·
  rintro b1 h
  subst hj1
  show TC _ _ _ _ _ ([]) _ _ [(4, .pointer (some ⟨b1, 0, none⟩))] [cells b1 [.int .i64 0, .int .i64 0, .int .i32 0, .bool false] 78]
  refine TC.seq (TC.region ?_)
  refine TO.build (v := .agg #[.int .i64 0, .int .i64 0, .int .i32 0, .bool false]) (ps := []) rfl (by decide) rfl (fun _ => by kernel_rfl) ?_
  refine TO.stores (k := 0) (vs := [.int .i64 0, .int .i64 0, .int .i32 0, .bool false]) (l' := [.int .i64 0, .int .i64 0, .int .i32 0, .bool false]) sz_78 rfl rfl rfl rfl rfl (show _ ≤ _ by simp) rfl rfl (TO.assign rfl (by decide) rfl (TO.nil (TX.next (TC.ret ?_))))
  cases h
  exact TX.fin (rs := [.cell 4 78, .tmp 5]) () (.inl rfl) Try.results52 (.cons (.cells rw_78 (k := 0) rfl rfl rfl) (.cons (.tmp rfl) .nil)) rfl Splits.nil
def runes_Boundary_v (s1 : ByteArray) (at1 : Int) : Option Bool := bcond (decide ((at1 : Int) < 0)) ( some false
) ( bcond (decide (((s1.size : Int) : Int) < at1)) ( some false
) ( andThen (runes_within_v s1 at1) fun (r1 : (Gapi_Piece × Bool)) => some (!r1.2)
)
)
set_option maxRecDepth 100000 in
set_option maxHeartbeats 4000000 in
theorem runes_Boundary_fn {s1 : ByteArray} {at1 : Int} {r : Bool} (h : runes_Boundary_v s1 at1 = some r) : FnP Try.prog 25 [.string s1, .int .i64 at1] (.bool r) := by
 unfold runes_Boundary_v at h
 refine FnP.intro Try.func25 rfl Try.ntmps25 (by simp) ?_
 intro w0 K
 refine TC.seq (TC.region (TO.assign rfl (by decide) rfl (TO.nil (TX.next (TC.seq (TC.seq (TC.region (TO.move rfl (by decide) rfl (TO.bin rfl (by decide) rfl rfl bin_lss (TO.move rfl (by decide) rfl ?_))))))))))
 refine TO.split (s := 9) rfl (fun hb1 => ?_) (fun hb1 => ?_)
 ·
  have h := condT hb1 h
  refine TO.skip rfl (by decide) (TO.skip rfl (by decide) (TO.skip rfl (by decide) (TO.skip rfl (by decide) (TO.pick (b := true) rfl (by decide) rfl rfl (TO.nil (TX.next (TC.condT rfl (TC.seq (TC.region (TO.assign rfl (by decide) rfl (TO.nil (TX.next (TC.ret ?_)))))))))))))
  refine TX.thenRet ?_
  cases h
  exact TX.fin (rs := [.tmp 4]) () (.inl rfl) Try.results25 (.cons (.tmp rfl) .nil) rfl Splits.nil
 ·
  have h := condF hb1 h
  refine TO.move rfl (by decide) rfl (TO.move rfl (by decide) rfl (TO.lenStr rfl (by decide) rfl Try.underlying9 (TO.bin rfl (by decide) rfl rfl bin_gtr (TO.pick (b := false) rfl (by decide) rfl rfl (TO.nil (TX.next ?_))))))
  refine TC.condB rfl (fun hb2 => ?_) (fun hb2 => ?_)
  ·
   have h := condT hb2 h
   refine TC.seq (TC.region (TO.assign rfl (by decide) rfl (TO.nil (TX.next (TC.ret (TX.thenRet ?_))))))
   cases h
   exact TX.fin (rs := [.tmp 4]) () (.inl rfl) Try.results25 (.cons (.tmp rfl) .nil) rfl Splits.nil
  ·
   have h := condF hb2 h
   refine TC.skip (TX.next (TC.seq (TC.region (TO.move rfl (by decide) rfl (TO.move rfl (by decide) rfl ?_)))))
   obtain ⟨r1, hq1, h⟩ := andE h
   refine TO.callP (v := .tuple #[.agg #[.int .i64 r1.1.At, .int .i64 r1.1.Width, .int .i32 r1.1.Rune, .bool r1.1.Broken], .bool r1.2]) (vs := [.string s1, .int .i64 at1]) rfl (by decide) rfl rfl rfl en_52 (runes_within_fn hq1) (TO.move rfl (by decide) rfl (TO.extract rfl (by decide) rfl rfl (TO.extract rfl (by decide) rfl rfl ?_)))
   refine TO.alloc zr_78 rfl (by decide) (fun b1 => ?_)
   refine TO.stores (k := 0) (vs := [.int .i64 r1.1.At, .int .i64 r1.1.Width, .int .i32 r1.1.Rune, .bool r1.1.Broken]) (l' := [.int .i64 r1.1.At, .int .i64 r1.1.Width, .int .i32 r1.1.Rune, .bool r1.1.Broken]) sz_78 rfl rfl rfl rfl rfl (show _ ≤ _ by simp) rfl rfl ?_
   show TO _ _ _ _ _ _ _ _ _ _ [cells b1 [.int .i64 r1.1.At, .int .i64 r1.1.Width, .int .i32 r1.1.Rune, .bool r1.1.Broken] 78]
   refine TO.assign rfl (by decide) rfl (TO.nil (TX.next (TC.seq (TC.region (TO.move rfl (by decide) rfl (TO.un rfl (by decide) rfl un_not (TO.assign rfl (by decide) rfl (TO.nil (TX.next (TC.ret ?_))))))))))
   cases h
   exact TX.fin (rs := [.tmp 4]) () (.inl rfl) Try.results25 (.cons (.tmp rfl) .nil) rfl Splits.nil
end Go.Proofs.Ytgeefojgkbglnaa
namespace Go.Proofs.Ytgeefojgkbglnaa
open Go.RowKit Go.Lib
set_option linter.unusedVariables false
set_option linter.unusedSimpArgs false
/-! ### A text's prefix -/
theorem dec_take {x y : List UInt8} (hx : x ≠ []) (hw : (decodeL (x ++ y)).2 ≤ x.length) : decodeL x = decodeL (x ++ y) := by
  have hl : x ++ y ≠ [] := by simp [hx]
  have hd := decOk _ hl
  have hd2 := decOk _ hx
  by_cases hb : (decodeL (x ++ y)).1 = 65533 ∧ (decodeL (x ++ y)).2 = 1
  · by_cases hb2 : (decodeL x).1 = 65533 ∧ (decodeL x).2 = 1
    · exact Prod.ext (by rw [hb.1, hb2.1]) (by rw [hb.2, hb2.2])
    · exfalso
      have h5 := hd2.bytes hb2
      have h6 := dec_enc _ hd2.valid (x.drop (decodeL x).2 ++ y)
      rw [h5, ← List.append_assoc, List.take_append_drop] at h6
      rw [h6] at hb
      have h7 := hd2.width hb2
      rw [h5] at h7
      rw [h7] at hb
      exact hb2 hb
  · have h5 := hd.bytes hb
    rw [List.take_append_of_le_length hw] at h5
    have h6 := dec_enc _ hd.valid (x.drop (decodeL (x ++ y)).2)
    rw [h5, List.take_append_drop] at h6
    rw [h6, List.length_take, Nat.min_eq_left hw]
theorem good_take {a b : List Tok} (h : Good (a ++ b)) : Good a := by
  induction a with
  | nil => unfold Good; rw [flat_nil, toks_nil]
  | cons t a ih =>
    have ih : toks (flat a) = a := ih (good_tail h)
    have hne := bs_ne (good_ok h t (by simp))
    unfold Good at *
    rw [List.cons_append, flat_cons, flat_append, ← List.append_assoc] at h
    have hl2 : t.bs ++ flat a ≠ [] := by simp [hne]
    have hl : t.bs ++ flat a ++ flat b ≠ [] := by simp [hne]
    rw [toks_cons _ hl] at h
    obtain ⟨e1, e2⟩ := List.cons.inj h
    have hbs := congrArg Tok.bs e1
    have hr := congrArg Tok.r e1
    simp only at hbs hr
    have hle := dec_le _ hl
    have hwl : (decodeL (t.bs ++ flat a ++ flat b)).2 = t.bs.length := by
      have := congrArg List.length hbs
      rw [List.length_take, Nat.min_eq_left hle] at this; exact this
    have hdec := dec_take hl2 (y := flat b) (by rw [hwl]; simp)
    rw [flat_cons, toks_cons _ hl2, hdec, hr, hwl, List.take_left, List.drop_left, ih]
/-! ### Units by what they hold -/
def tkd (t : Tok) : Int := kindOf t.broken t.r
def isMk (t : Tok) : Bool := tkd t == 2
structure GU where
  k : Int
  r : Nat
  c : List Tok
def gun : List Tok → List GU
  | [] => []
  | t :: ts => if ubare (tkd t) = true then ⟨tkd t, t.r, [t]⟩ :: gun ts else ⟨tkd t, t.r, t :: ts.takeWhile isMk⟩ :: gun (ts.dropWhile isMk)
termination_by ts => ts.length
decreasing_by
  all_goals simp only [List.length_cons]
  · omega
  · have := List.dropWhile_suffix isMk (l := ts) |>.length_le; omega
def gl (g : GU) : Nat := (flat g.c).length
def posU : Nat → List GU → List Un
  | _, [] => []
  | i, g :: gs => ⟨g.k, g.r, i, i + gl g, g.c.length == 1⟩ :: posU (i + gl g) gs
def GOk (g : GU) : Prop := ∃ t m, g.c = t :: m ∧ g.k = tkd t ∧ g.r = t.r ∧ (∀ x ∈ m, isMk x = true) ∧ (ubare g.k = true → m = [])
theorem gun_flat : ∀ (n : Nat) (ts : List Tok), ts.length ≤ n → (gun ts).flatMap GU.c = ts
  | _, [], _ => by rw [gun]; rfl
  | 0, t :: ts, h => by simp at h
  | n + 1, t :: ts, h => by
    rw [gun]
    split
    · rw [List.flatMap_cons, gun_flat n ts (by simpa using h)]; rfl
    · have := List.dropWhile_suffix isMk (l := ts) |>.length_le
      rw [List.flatMap_cons, gun_flat n _ (by simp at h; omega)]
      show t :: ts.takeWhile isMk ++ ts.dropWhile isMk = _
      rw [List.cons_append, List.takeWhile_append_dropWhile]
theorem gun_ok : ∀ (n : Nat) (ts : List Tok), ts.length ≤ n → ∀ g ∈ gun ts, GOk g
  | _, [], _, g, hg => by rw [gun] at hg; cases hg
  | 0, t :: ts, h, g, hg => by simp at h
  | n + 1, t :: ts, h, g, hg => by
    rw [gun] at hg
    split at hg
    · rcases List.mem_cons.1 hg with rfl | hg
      · exact ⟨t, [], rfl, rfl, rfl, by simp, fun _ => rfl⟩
      · exact gun_ok n ts (by simpa using h) g hg
    · rename_i hb
      have := List.dropWhile_suffix isMk (l := ts) |>.length_le
      rcases List.mem_cons.1 hg with rfl | hg
      · exact ⟨t, _, rfl, rfl, rfl, fun x hx => List.all_eq_true.1 List.all_takeWhile x hx, fun h => absurd h hb⟩
      · exact gun_ok n _ (by simp at h; omega) g hg
/-- The head of what stands behind a unit is no mark, if the unit may take marks. -/
def NoMk (l : List Tok) : Prop := ∀ t, l.head? = some t → isMk t = false
theorem gun_one (g : GU) (h : GOk g) (rest : List Tok) (hr : ubare g.k = false → NoMk rest) : gun (g.c ++ rest) = g :: gun rest := by
  obtain ⟨t, m, h1, h2, h3, h4, h5⟩ := h
  rcases g with ⟨k, r, c⟩
  simp only at *
  subst h1; subst h2; subst h3
  rw [List.cons_append, gun]
  split
  · rename_i hb
    rw [h5 hb]; rfl
  · rename_i hb
    have hb' : ubare (tkd t) = false := by simpa using hb
    have hn := hr hb'
    have e1 : (m ++ rest).takeWhile isMk = m := by
      rw [List.takeWhile_append_of_pos h4]
      rcases rest with _ | ⟨x, rest⟩
      · simp
      · rw [List.takeWhile_cons, if_neg (by rw [hn x rfl]; simp)]; simp
    have e2 : (m ++ rest).dropWhile isMk = rest := by
      rw [List.dropWhile_append_of_pos h4]
      rcases rest with _ | ⟨x, rest⟩
      · rfl
      · rw [List.dropWhile_cons, if_neg (by rw [hn x rfl]; simp)]
    rw [e1, e2]
/-- Units follow each other as a text's do. -/
def Seq : List GU → Prop
  | [] => True
  | g :: gs => GOk g ∧ (ubare g.k = false → ∀ h, gs.head? = some h → h.k ≠ 2) ∧ Seq gs
theorem head_c (gs : List GU) (h : ∀ g ∈ gs, GOk g) : NoMk (gs.flatMap GU.c) ↔ ∀ g, gs.head? = some g → g.k ≠ 2 := by
  rcases gs with _ | ⟨g, gs⟩
  · simp [NoMk]
  · obtain ⟨t, m, h1, h2, _⟩ := h g (by simp)
    simp only [NoMk, List.flatMap_cons, h1, List.cons_append, List.head?_cons, Option.some.injEq]
    constructor
    · intro hh g' hg'; subst hg'
      have := hh t rfl
      unfold isMk at this; rw [h2]; simpa using this
    · intro hh t' ht'; subst ht'
      have := hh g rfl
      unfold isMk; rw [← h2]; simpa using this
theorem Seq.ok : ∀ {gs : List GU}, Seq gs → ∀ g ∈ gs, GOk g
  | [], _, g, hg => by cases hg
  | x :: gs, h, g, hg => by
    rcases List.mem_cons.1 hg with rfl | hg
    · exact h.1
    · exact Seq.ok h.2.2 g hg
theorem gun_seq : ∀ {gs : List GU}, Seq gs → gun (gs.flatMap GU.c) = gs
  | [], _ => by rw [List.flatMap_nil, gun]
  | g :: gs, h => by
    rw [List.flatMap_cons, gun_one g h.1 _ (fun hb => (head_c gs h.2.2.ok).2 (h.2.1 hb)), gun_seq h.2.2]
theorem seq_gun : ∀ (n : Nat) (ts : List Tok), ts.length ≤ n → Seq (gun ts)
  | _, [], _ => by rw [gun]; trivial
  | 0, t :: ts, h => by simp at h
  | n + 1, t :: ts, h => by
    have hok := gun_ok (n + 1) (t :: ts) h
    rw [gun] at hok ⊢
    split
    · rename_i hb
      rw [if_pos hb] at hok
      exact ⟨hok _ (by simp), fun h0 => absurd (hb.symm.trans h0) (by decide), seq_gun n ts (by simpa using h)⟩
    · rename_i hb
      rw [if_neg hb] at hok
      have hl := List.dropWhile_suffix isMk (l := ts) |>.length_le
      refine ⟨hok _ (by simp), fun _ => ?_, seq_gun n _ (by simp at h; omega)⟩
      refine (head_c _ (gun_ok n _ (by simp at h; omega))).1 ?_
      rw [gun_flat n _ (by simp at h; omega)]
      intro x hx
      have := List.head?_dropWhile_not isMk ts
      rw [hx] at this; simpa using this
theorem Seq.append_left : ∀ {a b : List GU}, Seq (a ++ b) → Seq a
  | [], _, _ => trivial
  | g :: a, b, h => ⟨h.1, fun hb x hx => h.2.1 hb x (by rcases a with _ | ⟨y, a⟩; cases hx; exact hx), Seq.append_left h.2.2⟩
theorem Seq.append_right : ∀ {a b : List GU}, Seq (a ++ b) → Seq b
  | [], _, h => h
  | g :: a, b, h => Seq.append_right (a := a) h.2.2
/-! ### Units with their places -/
theorem ustp_push {E : List Un} {n : Un} {p : Pc} (h : ¬ (pk p = 2 ∧ ubare n.k = false)) : ustp (E ++ [n]) p = E ++ [n] ++ [unew p] := by
  unfold ustp; rw [List.getLast?_concat]; simp only; rw [if_neg h]
theorem ustp_ext {E : List Un} {n : Un} {p : Pc} (h : pk p = 2 ∧ ubare n.k = false) : ustp (E ++ [n]) p = E ++ [⟨n.k, n.r, n.f, n.t + p.w, false⟩] := by
  unfold ustp; rw [List.getLast?_concat]; simp only; rw [if_pos h, List.dropLast_concat]
theorem pk_place (i : Nat) (t : Tok) : pk ⟨i, t.bs.length, t.r⟩ = tkd t := rfl
theorem fold_marks (E : List Un) : ∀ (m : List Tok) (i : Nat) (n : Un), (∀ x ∈ m, isMk x = true) → ubare n.k = false → (place i m).foldl ustp (E ++ [n]) = E ++ [⟨n.k, n.r, n.f, n.t + (flat m).length, n.al && m.isEmpty⟩]
  | [], i, n, _, _ => by simp [place, flat]
  | x :: m, i, n, hm, hb => by
    have hx : tkd x = 2 := by have := hm x (by simp); unfold isMk at this; simpa using this
    simp only [place, List.foldl_cons]
    rw [ustp_ext ⟨by rw [pk_place]; exact hx, hb⟩, fold_marks E m _ ⟨n.k, n.r, n.f, n.t + x.bs.length, false⟩ (fun y hy => hm y (by simp [hy])) hb, flat_cons]
    simp [Nat.add_assoc]
theorem fold_gs : ∀ (gs : List GU), Seq gs → ∀ (E : List Un) (i : Nat), (∀ n, E.getLast? = some n → ubare n.k = false → ∀ g, gs.head? = some g → g.k ≠ 2) → (place i (gs.flatMap GU.c)).foldl ustp E = E ++ posU i gs
  | [], _, E, i, _ => by simp [place, posU]
  | g :: gs, hs, E, i, hE => by
    obtain ⟨t, m, h1, h2, h3, h4, h5⟩ := hs.1
    have hgl : gl g = t.bs.length + (flat m).length := by unfold gl; rw [h1, flat_cons, List.length_append]
    rw [List.flatMap_cons, place_append, List.foldl_append, h1]
    have hfirst : ustp E ⟨i, t.bs.length, t.r⟩ = E ++ [unew ⟨i, t.bs.length, t.r⟩] := by
      rcases List.eq_nil_or_concat E with rfl | ⟨D, n, rfl⟩
      · rfl
      · rw [List.concat_eq_append] at *
        refine ustp_push fun ⟨a, b⟩ => hE n (by rw [List.getLast?_concat]) b g rfl ?_
        rw [h2]; exact a
    have hbody : (place i (t :: m)).foldl ustp E = E ++ [⟨g.k, g.r, i, i + gl g, g.c.length == 1⟩] := by
      simp only [place, List.foldl_cons]
      rw [hfirst]
      by_cases hb : ubare g.k = true
      · have hm := h5 hb
        subst hm
        simp [place, unew, pk_place, h2, h3, hgl, h1, flat]
      · have hb' : ubare (unew ⟨i, t.bs.length, t.r⟩).k = false := by
          show ubare (tkd t) = false
          rw [← h2]; simpa using hb
        rw [fold_marks E m _ _ h4 hb']
        simp only [unew, pk_place, h2, h3, hgl, h1]
        rcases m with _ | ⟨x, m⟩ <;> simp [Nat.add_assoc]
    rw [hbody]
    have e : (flat (t :: m)).length = gl g := by unfold gl; rw [h1]
    rw [e, fold_gs gs hs.2.2 _ _ (by
      intro n hn hb x hx
      rw [List.getLast?_concat] at hn
      cases hn
      exact hs.2.1 hb x hx), posU, List.append_assoc]; rfl
theorem units_fold (L : List Pc) : units L = L.foldl ustp [] := by
  have key : ∀ L : List Pc, units L.reverse = L.reverse.foldl ustp [] := by
    intro L
    induction L with
    | nil => rfl
    | cons p L ih => rw [List.reverse_cons, units_snoc, List.foldl_append, ih]; rfl
  have := key L.reverse
  rwa [List.reverse_reverse] at this
theorem us_pos (s : ByteArray) : usOf s = posU 0 (gun (toks s.data.toList)) := by
  have hs := seq_gun _ (toks s.data.toList) (Nat.le_refl _)
  have := fold_gs _ hs [] 0 (by intro n hn; cases hn)
  rw [gun_flat _ _ (Nat.le_refl _), List.nil_append] at this
  rw [← this, ← units_fold, ← pcs_place]; rfl
/-! ### Tokens by what they hold -/
def sh (g : GU) : Un := ⟨g.k, g.r, 0, 0, g.c.length == 1⟩
def gbh (g : GU) (gs : List GU) : Nat := behind (sh g) (gs.map sh)
def key (u : Un) : Int × Nat × Bool := (u.k, u.r, u.al)
theorem isK_key {us vs : List Un} (k : Int) (h : us.map key = vs.map key) : isK us k = isK vs k := by
  rcases us with _ | ⟨u, us⟩ <;> rcases vs with _ | ⟨v, vs⟩ <;> simp [key] at h <;> simp [isK, h]
theorem runN_key (kd : Int) (js : List Nat) : ∀ (us vs : List Un), us.map key = vs.map key → runN kd js us = runN kd js vs
  | [], [], _ => rfl
  | [], v :: vs, h => by simp at h
  | u :: us, [], h => by simp at h
  | u :: us, v :: vs, h => by
    obtain ⟨h1, h2⟩ := List.cons.inj (by simpa using h : key u :: us.map key = key v :: vs.map key)
    have hk := isK_key kd h2
    have ih := runN_key kd js us vs h2
    obtain ⟨k, r, f, t, al⟩ := u
    obtain ⟨k', r', f', t', al'⟩ := v
    simp only [key, Prod.mk.injEq] at h1
    obtain ⟨rfl, rfl, rfl⟩ := h1
    simp only [runN, oneOf]
    rw [hk, ih]
    rfl
theorem behind_key {u v : Un} {us vs : List Un} (h1 : key u = key v) (h2 : us.map key = vs.map key) : behind u us = behind v vs := by
  obtain ⟨k, r, f, t, al⟩ := u
  obtain ⟨k', r', f', t', al'⟩ := v
  simp only [key, Prod.mk.injEq] at h1
  obtain ⟨rfl, rfl, rfl⟩ := h1
  have hr := fun kd js => runN_key kd js us vs h2
  rcases us with _ | ⟨a, us⟩ <;> rcases vs with _ | ⟨b, vs⟩
  · rfl
  · simp at h2
  · simp at h2
  · obtain ⟨h3, h4⟩ := List.cons.inj (by simpa using h2 : key a :: us.map key = key b :: vs.map key)
    obtain ⟨ka, ra, fa, ta, ala⟩ := a
    obtain ⟨kb, rb, fb, tb, alb⟩ := b
    simp only [key, Prod.mk.injEq] at h3
    obtain ⟨rfl, rfl, rfl⟩ := h3
    unfold behind
    rw [hr, hr, hr, hr]
theorem posU_key : ∀ (gs : List GU) (i : Nat), (posU i gs).map key = (gs.map sh).map key
  | [], _ => rfl
  | g :: gs, i => by simp only [posU, List.map_cons, posU_key gs]; rfl
theorem behind_pos (g : GU) (gs : List GU) (i j : Nat) (u : Un) (h : key u = key (sh g)) : behind u (posU j gs) = gbh g gs := behind_key h (posU_key gs j)
abbrev GT := Int × List GU
def gtok : List GU → List GT
  | [] => []
  | g :: gs => ((begins (sh g)).2, g :: gs.take (gbh g gs)) :: gtok (gs.drop (gbh g gs))
termination_by gs => gs.length
decreasing_by simp only [List.length_drop, List.length_cons]; omega
def tl (x : GT) : Nat := (x.2.map gl).sum
def posT : Nat → List GT → List Tk
  | _, [] => []
  | i, x :: xs => ⟨x.1, i, i + tl x⟩ :: posT (i + tl x) xs
theorem posU_drop : ∀ (gs : List GU) (n i : Nat), (posU i gs).drop n = posU (i + ((gs.take n).map gl).sum) (gs.drop n)
  | [], n, i => by simp [posU]
  | g :: gs, 0, i => by simp
  | g :: gs, n + 1, i => by simp [posU, posU_drop gs n, Nat.add_assoc]
theorem endOf_pos : ∀ (gs : List GU) (n i : Nat), n ≤ gs.length → endOf i (posU i gs) n = i + ((gs.take n).map gl).sum
  | gs, 0, i, _ => by simp [endOf]
  | [], n + 1, i, h => by simp at h
  | g :: gs, n + 1, i, h => by
    have ih := endOf_pos gs n (i + gl g) (by simpa using h)
    simp only [posU, endOf, ih, List.take_succ_cons, List.map_cons, List.sum_cons, Nat.add_assoc]
theorem posU_len : ∀ (gs : List GU) (i : Nat), (posU i gs).length = gs.length
  | [], _ => rfl
  | g :: gs, i => by simp [posU, posU_len gs]
theorem toksR_pos : ∀ (n : Nat) (gs : List GU) (i : Nat), gs.length ≤ n → toksR (posU i gs) = posT i (gtok gs)
  | _, [], i, _ => by rw [posU, toksR, gtok]; rfl
  | 0, g :: gs, i, h => by simp at h
  | n + 1, g :: gs, i, h => by
    have hb := behind_pos g gs i (i + gl g) ⟨g.k, g.r, i, i + gl g, g.c.length == 1⟩ rfl
    have hle := behind_le ⟨g.k, g.r, i, i + gl g, g.c.length == 1⟩ (posU (i + gl g) gs)
    rw [hb, posU_len] at hle
    have hbg : (begins ⟨g.k, g.r, i, i + gl g, g.c.length == 1⟩).2 = (begins (sh g)).2 := rfl
    rw [posU, toksR, gtok, posT, hb, hbg, endOf_pos _ _ _ hle, posU_drop, toksR_pos n _ _ (by simp at h ⊢; omega)]
    have e : tl ((begins (sh g)).2, g :: gs.take (gbh g gs)) = gl g + ((gs.take (gbh g gs)).map gl).sum := by simp [tl]
    rw [e]
    simp [Nat.add_assoc]
def G (ts : List Tok) : List GT := gtok (gun ts)
theorem tks_pos (s : ByteArray) : tksOf s = posT 0 (G (toks s.data.toList)) := by
  have e : tksOf s = toksR (usOf s) := scan_toksR _ (units_wf s)
  rw [e, us_pos, toksR_pos _ _ _ (Nat.le_refl _)]; rfl
end Go.Proofs.Ytgeefojgkbglnaa
namespace Go.Proofs.Ytgeefojgkbglnaa
open Go.RowKit Go.Lib
set_option linter.unusedVariables false
set_option linter.unusedSimpArgs false
theorem runN_take (kd : Int) (js : List Nat) : ∀ (us : List Un) (m : Nat), runN kd js us ≤ m → runN kd js (us.take m) = runN kd js us
  | [], m, _ => by simp
  | u :: us, 0, h => by
    rw [List.take_zero]
    have : runN kd js (u :: us) = 0 := by omega
    rw [this]; rfl
  | u :: us, m + 1, h => by
    rw [List.take_succ_cons]
    simp only [runN] at h ⊢
    by_cases h1 : u.k = kd
    · rw [if_pos h1] at h ⊢
      rw [if_pos h1, runN_take kd js us m (by omega)]
    · rw [if_neg h1] at h ⊢
      rw [if_neg h1]
      by_cases h2 : oneOf js u = true ∧ isK us kd = true
      · rw [if_pos h2] at h ⊢
        rcases us with _ | ⟨v, vs⟩
        · simp [isK] at h2
        · have hv : v.k = kd := by simpa [isK] using h2.2
          have h3 : runN kd js (v :: vs) = 1 + runN kd js vs := by simp [runN, hv]
          rcases m with _ | m
          · omega
          · rw [if_pos ⟨h2.1, by simpa [isK] using hv⟩, runN_take kd js (v :: vs) (m + 1) (by omega)]
      · rw [if_neg h2]
        rw [if_neg]
        rintro ⟨a, b⟩
        refine h2 ⟨a, ?_⟩
        rcases us with _ | ⟨v, vs⟩
        · simp [isK] at b
        · rcases m with _ | m
          · simp [isK] at b
          · simpa [isK] using b
theorem runN_stop (kd : Int) (js : List Nat) : ∀ us : List Un, isK (us.drop (runN kd js us)) kd = false
  | [] => rfl
  | u :: us => by
    have ih := runN_stop kd js us
    simp only [runN]
    by_cases h1 : u.k = kd
    · rw [if_pos h1, Nat.add_comm, List.drop_succ_cons]; exact ih
    · rw [if_neg h1]
      by_cases h2 : oneOf js u = true ∧ isK us kd = true
      · rw [if_pos h2, Nat.add_comm, List.drop_succ_cons]; exact ih
      · rw [if_neg h2, List.drop_zero]; simpa [isK] using h1
theorem behind_take (u : Un) (us : List Un) (m : Nat) (h : behind u us ≤ m) : behind u (us.take m) = behind u us := by
  unfold behind at h ⊢
  by_cases h1 : u.k = 1
  · rw [if_pos h1] at h ⊢; rw [if_pos h1]; exact runN_take _ _ _ _ h
  rw [if_neg h1] at h ⊢; rw [if_neg h1]
  by_cases h3 : u.k = 3
  · rw [if_pos h3] at h ⊢; rw [if_pos h3]; exact runN_take _ _ _ _ h
  rw [if_neg h3] at h ⊢; rw [if_neg h3]
  by_cases h5 : u.k = 5
  · rw [if_pos h5] at h ⊢; rw [if_pos h5]; exact runN_take _ _ _ _ h
  rw [if_neg h5] at h ⊢; rw [if_neg h5]
  by_cases h11 : u.k = 11
  · rw [if_pos h11] at h ⊢; rw [if_pos h11]; exact runN_take _ _ _ _ h
  rw [if_neg h11] at h ⊢; rw [if_neg h11]
  by_cases h4 : u.k = 4
  · rw [if_pos h4] at h ⊢; rw [if_pos h4]
    rcases us with _ | ⟨v, vs⟩
    · rw [List.take_nil]
    · rcases m with _ | m
      · rw [List.take_zero]
        simp only at h ⊢
        omega
      · rw [List.take_succ_cons]
  · rw [if_neg h4]; rw [if_neg h4]
theorem gbh_take (g : GU) (gs : List GU) (m : Nat) (h : gbh g gs ≤ m) : gbh g (gs.take m) = gbh g gs := by
  unfold gbh at *
  rw [List.map_take]; exact behind_take _ _ _ h
theorem gbh_le (g : GU) (gs : List GU) : gbh g gs ≤ gs.length := by
  have := behind_le (sh g) (gs.map sh); simpa [gbh] using this
theorem gtok_cons (g : GU) (gs : List GU) : gtok (g :: gs) = ((begins (sh g)).2, g :: gs.take (gbh g gs)) :: gtok (gs.drop (gbh g gs)) := by rw [gtok]
theorem gtok_nil : gtok [] = [] := by rw [gtok]
def fl2 (A : List GT) : List GU := A.flatMap Prod.snd
theorem gtok_flat : ∀ (n : Nat) (gs : List GU), gs.length ≤ n → fl2 (gtok gs) = gs
  | _, [], _ => by rw [gtok_nil]; rfl
  | 0, g :: gs, h => by simp at h
  | n + 1, g :: gs, h => by
    rw [gtok_cons]
    show (g :: gs.take (gbh g gs)) ++ fl2 (gtok (gs.drop (gbh g gs))) = _
    rw [gtok_flat n _ (by simp at h ⊢; omega), List.cons_append, List.take_append_drop]
/-- A row of units falls apart at a token's end. -/
theorem gtok_split : ∀ (A : List GT) (gs : List GU) (B : List GT), gtok gs = A ++ B → gtok (fl2 A) = A ∧ gtok (fl2 B) = B ∧ gs = fl2 A ++ fl2 B
  | [], gs, B, h => by
    rw [List.nil_append] at h
    have := gtok_flat _ gs (Nat.le_refl _)
    rw [h] at this
    exact ⟨gtok_nil, by rw [this]; exact h, by rw [this]; rfl⟩
  | x :: A, [], B, h => by rw [gtok_nil] at h; cases h
  | x :: A, g :: gs, B, h => by
    rw [gtok_cons, List.cons_append] at h
    obtain ⟨rfl, h2⟩ := List.cons.inj h
    obtain ⟨i1, i2, i3⟩ := gtok_split A _ B h2
    have hle := gbh_le g gs
    have e1 : fl2 (((begins (sh g)).2, g :: gs.take (gbh g gs)) :: A) = g :: (gs.take (gbh g gs) ++ fl2 A) := rfl
    have e2 : gs.take (gbh g gs) ++ fl2 A = gs.take (gbh g gs + (fl2 A).length) := by
      rw [List.take_add, i3, List.take_left]
    have e3 : gbh g (gs.take (gbh g gs) ++ fl2 A) = gbh g gs := by rw [e2]; exact gbh_take _ _ _ (by omega)
    have hl : (gs.take (gbh g gs)).length = gbh g gs := by simp; omega
    refine ⟨?_, i2, ?_⟩
    · rw [e1, gtok_cons, e3]
      have t1 : (gs.take (gbh g gs) ++ fl2 A).take (gbh g gs) = gs.take (gbh g gs) := List.take_left' hl
      have t2 : (gs.take (gbh g gs) ++ fl2 A).drop (gbh g gs) = fl2 A := List.drop_left' hl
      rw [t1, t2, i1]
    · rw [e1, List.cons_append, List.append_assoc, ← i3, List.take_append_drop]
def cont (A : List GT) : List Tok := (fl2 A).flatMap GU.c
theorem fl2_append (A B : List GT) : fl2 (A ++ B) = fl2 A ++ fl2 B := by simp [fl2]
theorem cont_append (A B : List GT) : cont (A ++ B) = cont A ++ cont B := by simp [cont, fl2_append]
/-- So does a text. -/
theorem G_split (ts : List Tok) (A B : List GT) (h : G ts = A ++ B) : G (cont A) = A ∧ G (cont B) = B ∧ ts = cont A ++ cont B := by
  obtain ⟨h1, h2, h3⟩ := gtok_split A _ B h
  have hs := seq_gun _ ts (Nat.le_refl _)
  have hf := gun_flat _ ts (Nat.le_refl _)
  rw [h3] at hs hf
  refine ⟨?_, ?_, ?_⟩
  · unfold G cont; rw [gun_seq hs.append_left]; exact h1
  · unfold G cont; rw [gun_seq hs.append_right]; exact h2
  · rw [← hf, List.flatMap_append]; rfl
def tot (A : List GT) : Nat := (A.map tl).sum
theorem gu_len (gs : List GU) : (flat (gs.flatMap GU.c)).length = (gs.map gl).sum := by
  induction gs with
  | nil => rfl
  | cons g gs ih => rw [List.flatMap_cons, flat_append, List.length_append, ih]; rfl
theorem tot_len (A : List GT) : (flat (cont A)).length = tot A := by
  unfold cont; rw [gu_len]
  induction A with
  | nil => rfl
  | cons x A ih =>
    show ((x.2 ++ fl2 A).map gl).sum = _
    rw [List.map_append, List.sum_append, ih]; rfl
theorem posT_append : ∀ (A B : List GT) (i : Nat), posT i (A ++ B) = posT i A ++ posT (i + tot A) B
  | [], B, i => rfl
  | x :: A, B, i => by
    have e : i + tl x + tot A = i + tot (x :: A) := by simp [tot, Nat.add_assoc]
    simp only [List.cons_append, posT, posT_append A B, e]
theorem posT_len : ∀ (A : List GT) (i : Nat), (posT i A).length = A.length
  | [], _ => rfl
  | x :: A, i => by simp [posT, posT_len A]
/-- What stands in a text ahead of and behind a token's end. -/
theorem tks_split (s : ByteArray) (j : Nat) (hj : j ≤ (tksOf s).length) : ∃ A B, G (toks s.data.toList) = A ++ B ∧ A.length = j ∧ tksOf s = posT 0 A ++ posT (tot A) B ∧ s.data.toList = flat (cont A) ++ flat (cont B) ∧ Good (cont A) ∧ Good (cont B) ∧ G (cont A) = A ∧ G (cont B) = B := by
  have e := tks_pos s
  have hl : (tksOf s).length = (G (toks s.data.toList)).length := by rw [e, posT_len]
  have h0 : G (toks s.data.toList) = (G (toks s.data.toList)).take j ++ (G (toks s.data.toList)).drop j := (List.take_append_drop _ _).symm
  obtain ⟨h1, h2, h3⟩ := G_split _ _ _ h0
  have hg := good_toks s.data.toList
  rw [h3] at hg
  refine ⟨_, _, h0, by simp; omega, ?_, ?_, good_take hg, good_drop hg, h1, h2⟩
  · rw [e, h0, posT_append, Nat.zero_add, ← h0]
  · rw [← flat_append, ← h3, flat_toks]
theorem tks_of (s : ByteArray) (A : List GT) (hd : s.data.toList = flat (cont A)) (hg : Good (cont A)) (hG : G (cont A) = A) : tksOf s = posT 0 A := by
  rw [tks_pos, hd, hg, hG]
theorem posT_shift : ∀ (A : List GT) (i j : Nat), posT (i + j) A = (posT i A).map fun x => ⟨x.k, x.f + j, x.t + j⟩
  | [], _, _ => rfl
  | x :: A, i, j => by
    have e : i + j + tl x = i + tl x + j := by omega
    simp only [posT, List.map_cons, e, posT_shift A]
/-! ### Kinds -/
theorem begins_rng (u : Un) : 1 ≤ (begins u).2 ∧ (begins u).2 ≤ 7 := by
  unfold begins; repeat' split
  all_goals simp
theorem begins_3 (u : Un) : (begins u).2 = 3 ↔ u.k = 5 := by
  unfold begins; repeat' split
  all_goals simp_all
theorem begins_7 (u : Un) : (begins u).2 = 7 ↔ u.k = 11 := by
  unfold begins; repeat' split
  all_goals simp_all
theorem gtok_next : ∀ (n : Nat) (gs : List GU), gs.length ≤ n → ∀ (A : List GT) (x y : GT) (B : List GT), gtok gs = A ++ x :: y :: B → ¬ (x.1 = 3 ∧ y.1 = 3) ∧ ¬ (x.1 = 7 ∧ y.1 = 7)
  | _, [], _, A, x, y, B, h => by rw [gtok_nil] at h; simp at h
  | 0, g :: gs, h, _, _, _, _, _ => by simp at h
  | n + 1, g :: gs, hl, A, x, y, B, h => by
    rw [gtok_cons] at h
    rcases A with _ | ⟨z, A⟩
    · rw [List.nil_append] at h
      obtain ⟨rfl, h2⟩ := List.cons.inj h
      rcases hd : gs.drop (gbh g gs) with _ | ⟨w, ws⟩
      · rw [hd, gtok_nil] at h2; cases h2
      · rw [hd, gtok_cons] at h2
        obtain ⟨rfl, _⟩ := List.cons.inj h2
        have hw : ∀ kd js, gbh g gs = runN kd js (gs.map sh) → w.k ≠ kd := fun kd js e => by
          have h5 := runN_stop kd js (gs.map sh)
          rw [← e, ← List.map_drop, hd] at h5
          simpa [isK, sh] using h5
        refine ⟨fun ⟨a, b⟩ => ?_, fun ⟨a, b⟩ => ?_⟩
        · have a' : g.k = 5 := (begins_3 _).1 a
          have b' : w.k = 5 := (begins_3 _).1 b
          exact hw 5 [] (by simp [gbh, behind, sh, a']) b'
        · have a' : g.k = 11 := (begins_7 _).1 a
          have b' : w.k = 11 := (begins_7 _).1 b
          exact hw 11 [] (by simp [gbh, behind, sh, a']) b'
    · obtain ⟨_, h2⟩ := List.cons.inj (by simpa using h)
      exact gtok_next n _ (by simp at hl ⊢; omega) A x y B h2
theorem gtok_rng : ∀ (n : Nat) (gs : List GU), gs.length ≤ n → ∀ x ∈ gtok gs, 1 ≤ x.1 ∧ x.1 ≤ 7 ∧ x.2 ≠ []
  | _, [], _, x, h => by rw [gtok_nil] at h; cases h
  | 0, g :: gs, h, _, _ => by simp at h
  | n + 1, g :: gs, hl, x, h => by
    rw [gtok_cons] at h
    rcases List.mem_cons.1 h with rfl | h
    · exact ⟨(begins_rng _).1, (begins_rng _).2, by simp⟩
    · exact gtok_rng n _ (by simp at hl ⊢; omega) x h
/-! ### Boundaries -/
theorem dec_cont {b : UInt8} {l : List UInt8} (h : contB b = true) : decodeL (b :: l) = (65533, 1) := by
  rw [decodeL_N]
  have hb : b.toNat / 64 = 2 := by simpa [contB] using h
  have e : ((b :: l).getD 0 0).toNat = b.toNat := rfl
  unfold decodeN
  rw [e, if_neg (by omega), if_neg (by omega), if_neg (by omega), if_neg (by omega)]
theorem enc_tail (r : Nat) (hv : r < 55296 ∨ (57343 < r ∧ r ≤ 1114111)) (i : Nat) (b : UInt8) (hi : 0 < i) (h : (encodeRune r)[i]? = some b) : contB b = true := by
  unfold encodeRune at h
  rw [List.getElem?_map, Option.map_eq_some_iff] at h
  obtain ⟨z, hz, rfl⟩ := h
  have key : 128 ≤ z ∧ z < 192 := by
    rcases encZ_shape r hv with ⟨_, e⟩ | ⟨_, _, e⟩ | ⟨_, _, e⟩ | ⟨_, _, e⟩ <;> rw [e] at hz
    · rcases i with _ | i
      · omega
      · simp at hz
    · rcases i with _ | _ | i
      · omega
      · simp at hz; omega
      · simp at hz
    · rcases i with _ | _ | _ | i
      · omega
      · simp at hz; omega
      · simp at hz; omega
      · simp at hz
    · rcases i with _ | _ | _ | _ | i
      · omega
      · simp at hz; omega
      · simp at hz; omega
      · simp at hz; omega
      · simp at hz
  unfold contB
  rw [u8_toNat z (by omega) (by omega)]
  simp; omega
/-- No form goes over a boundary. -/
theorem no_over : ∀ (a b : List Tok), Good (a ++ b) → ∀ m, m < (flat a).length → ¬ ((decodeL ((flat (a ++ b)).drop m)).1 = 65533 ∧ (decodeL ((flat (a ++ b)).drop m)).2 = 1) → m + (decodeL ((flat (a ++ b)).drop m)).2 ≤ (flat a).length
  | [], b, _, m, hm, _ => by simp [flat] at hm
  | t :: a, b, hg, m, hm, hb => by
    have hok := good_ok hg t (by simp)
    have hne := bs_ne hok
    have hlt : 0 < t.bs.length := List.length_pos_iff.2 hne
    have hfl : flat (t :: a ++ b) = t.bs ++ flat (a ++ b) := by rw [List.cons_append, flat_cons]
    have hfa : (flat (t :: a)).length = t.bs.length + (flat a).length := by rw [flat_cons, List.length_append]
    rw [hfl] at hb ⊢
    rw [hfa] at hm ⊢
    by_cases h0 : m = 0
    · subst h0
      have h : toks (flat (t :: a ++ b)) = t :: (a ++ b) := hg
      rw [hfl, toks_cons _ (by simp [hne])] at h
      have h1 := congrArg Tok.bs (List.cons.inj h).1
      simp only at h1
      have h2 := dec_le (t.bs ++ flat (a ++ b)) (by simp [hne])
      have h3 := congrArg List.length h1
      rw [List.length_take, Nat.min_eq_left h2] at h3
      rw [List.drop_zero]; omega
    · by_cases h1 : m < t.bs.length
      · exfalso
        rcases hok with hv | hbr
        · have hget : (encodeRune t.r)[m]? = some (t.bs[m]) := by rw [← hv.2]; exact List.getElem?_eq_getElem h1
          have hc := enc_tail t.r hv.1 m _ (by omega) hget
          have hd : (t.bs ++ flat (a ++ b)).drop m = t.bs[m] :: (t.bs ++ flat (a ++ b)).drop (m + 1) := by
            rw [List.drop_eq_getElem_cons (by simp; omega), List.getElem_append_left h1]
          rw [hd, dec_cont hc] at hb
          exact hb ⟨rfl, rfl⟩
        · unfold Tok.broken at hbr
          simp at hbr; omega
      · have e : (t.bs ++ flat (a ++ b)).drop m = (flat (a ++ b)).drop (m - t.bs.length) := by
          rw [List.drop_append, List.drop_eq_nil_of_le (by omega), List.nil_append]
        rw [e] at hb ⊢
        have := no_over a b (good_tail hg) (m - t.bs.length) (by omega) hb
        omega
end Go.Proofs.Ytgeefojgkbglnaa
namespace Go.Proofs.Ytgeefojgkbglnaa
open Go.RowKit Go.Lib
set_option linter.unusedVariables false
set_option linter.unusedSimpArgs false
theorem rwidth_v (r : Int) (hv : vr r) : runes_Width_v r = some ((Utf8.encode r).size : Int) := by
  unfold runes_Width_v
  refine joinI ?_
  by_cases h : r = 65533
  · exact condFI (bne_eq_false_iff_eq.2 h) rfl
  · exact condTI (bne_iff_ne.2 h) (condFI (decide_eq_false (enc_ne_lost r (by unfold vr at hv; omega) h)) rfl)
theorem read_v (s : ByteArray) (a : Nat) (ha : a < s.size) (hsz : s.size ≤ 9223372036854775000) : runes_read_v s (a : Int) = some (pcG ⟨a, (decodeL (s.data.toList.drop a)).2, (decodeL (s.data.toList.drop a)).1⟩) := by
  unfold runes_read_v
  obtain ⟨F, hF, _⟩ := fuel_eq 1 (by omega)
  rw [hF]
  refine joinI (grdI ⟨by omega, by omega, by omega⟩ ?_)
  rw [loopI]
  generalize loopG _ _ F = ag
  unfold runes_read_s1
  have hne : s.data.toList.drop a ≠ [] := by
    intro h; have := congrArg List.length h; simp at this; omega
  have hok := decOk _ hne
  have hlen : (s.data.toList.drop a).length = s.size - a := by simp
  have hle := hok.le
  have e : (cutB s (a : Int) (s.size : Int)).data.toList = s.data.toList.drop a := by unfold cutB; exact ext_end s a
  have hp : pcs (cutB s (a : Int) (s.size : Int)).data.toList = ⟨0, (decodeL (s.data.toList.drop a)).2, (decodeL (s.data.toList.drop a)).1⟩ :: pcsFrom (0 + (decodeL (s.data.toList.drop a)).2) ((s.data.toList.drop a).drop (decodeL (s.data.toList.drop a)).2) := by
    rw [e]; unfold pcs; rw [pcsFrom_cons _ _ hne]
  have hvr : vr ((decodeL (s.data.toList.drop a)).1 : Int) := by have := hok.valid; unfold vr; omega
  refine condTI (decide_eq_true (by rw [hp]; simp)) (thenI (by rw [hp]; rfl) (joinI (thenI (rwidth_v _ hvr) ?_)))
  simp only
  unfold pcG Pc.broken
  have hw := hok.width
  have hl3 := hok.lost_ok
  have hl1 := hok.lost_bad
  generalize decodeL (s.data.toList.drop a) = d at *
  rcases d with ⟨r, w⟩
  simp only at *
  by_cases hr : r = 65533
  · subst hr
    refine condTI (by decide) (grdI ⟨by omega, by omega⟩ ?_)
    by_cases h3 : (s.size : Int) - a < 3
    · refine condTI (decide_eq_true h3) ?_
      have hw1 : w = 1 := by
        by_cases hw1 : w = 1
        · exact hw1
        · have := (hl3 rfl hw1).2; omega
      subst hw1; rfl
    · have e3 := cutB_list s a 3
      refine condFI (decide_eq_false h3) (grdI ⟨by omega, by omega⟩ (grdI ⟨by omega, by omega, by omega⟩ ?_))
      by_cases hw1 : w = 1
      · refine condTI ?_ (by subst hw1; rfl)
        rw [decide_eq_false]
        · rfl
        · intro h
          exact hl1 rfl hw1 (by rw [← e3]; exact congrArg (fun b : ByteArray => b.data.toList) h)
      · obtain ⟨h4, h5⟩ := hl3 rfl hw1
        refine condFI ?_ ?_
        · rw [decide_eq_true]
          · rfl
          · apply ByteArray.ext; apply Array.toList_inj.1; rw [show ((a : Int) + 3) = (a : Int) + (3 : Nat) from rfl, e3, h4]
        · rw [encode_size, hw (by omega)]
          subst h5; rfl
  · refine condFI (by rw [beq_eq_false_iff_ne]; omega) ?_
    rw [encode_size, hw (by omega)]
    have : (r == 65533 && w == 1) = false := by simp [hr]
    rw [this]
/-- Nothing goes over a boundary. -/
theorem boundary_v (s : ByteArray) (a b : List Tok) (hd : s.data.toList = flat (a ++ b)) (hg : Good (a ++ b)) (hsz : s.size ≤ 9223372036854775000) : runes_Boundary_v s ((flat a).length : Int) = some true := by
  have hn : (flat a).length ≤ s.size := by
    have h1 : s.data.toList.length = s.size := by simp
    rw [← h1, hd, flat_append, List.length_append]; omega
  unfold runes_Boundary_v
  refine condFI (decide_eq_false (by omega)) (condFI (decide_eq_false (by omega)) (thenI (a := ((⟨0, 0, 0, false⟩ : Gapi_Piece), false)) ?_ rfl))
  unfold runes_within_v
  refine joinI (grdI ⟨by omega, by omega⟩ ?_)
  have key : ∀ n m : Nat, m ≤ (flat a).length → (flat a).length - m < n → loopG (fun _ => none) (runes_within_s1 s ((flat a).length : Int) (some ((⟨0, 0, 0, false⟩ : Gapi_Piece), false))) n (m : Int) = some ((⟨0, 0, 0, false⟩ : Gapi_Piece), false) := by
    intro n
    induction n with
    | zero => intro m _ h; omega
    | succ n ih =>
      intro m hm hn2
      rw [loopI]
      generalize hag : loopG _ _ n = ag at ih ⊢
      unfold runes_within_s1
      by_cases h : m < (flat a).length
      · have hne : s.data.toList.drop m ≠ [] := by
          intro h; have := congrArg List.length h; simp at this; omega
        have hle := dec_le _ hne
        have hlen : (s.data.toList.drop m).length = s.size - m := by simp
        have ho := no_over a b hg m h
        rw [← hd] at ho
        refine condTI (decide_eq_true (by omega)) (joinI (thenI (read_v s m (by omega) hsz) (grdI ⟨by simp only [pcG]; omega, by simp only [pcG]; omega⟩ ?_)))
        have tail : (grd (I64 ((m : Int) + 1)) <| ag ((m : Int) + 1)) = some ((⟨0, 0, 0, false⟩ : Gapi_Piece), false) := grdI ⟨by omega, by omega⟩ (ih (m + 1) (by omega) (by omega))
        by_cases hb : (decodeL (s.data.toList.drop m)).1 = 65533 ∧ (decodeL (s.data.toList.drop m)).2 = 1
        · have hbr : (pcG ⟨m, (decodeL (s.data.toList.drop m)).2, (decodeL (s.data.toList.drop m)).1⟩).Broken = true := by simp [pcG, Pc.broken, hb]
          cases decide (((flat a).length : Int) < (m : Int) + (pcG ⟨m, (decodeL (s.data.toList.drop m)).2, (decodeL (s.data.toList.drop m)).1⟩).Width)
          · exact condFI rfl tail
          · exact condTI rfl (condFI (by rw [hbr]; rfl) tail)
        · exact condFI (decide_eq_false (by have := ho hb; simp only [pcG]; omega)) tail
      · exact condFI (decide_eq_false (by omega)) rfl
  obtain ⟨m, hm, hm2⟩ : ∃ m : Nat, max (((flat a).length : Int) - 3) 0 = m ∧ m ≤ (flat a).length := ⟨(flat a).length - 3, by omega, by omega⟩
  rw [hm]
  exact key fuel m hm2 (by unfold fuel; omega)
end Go.Proofs.Ytgeefojgkbglnaa
namespace Go.Proofs.Ytgeefojgkbglnaa
open Go.RowKit Go.Lib
set_option linter.unusedVariables false
set_option linter.unusedSimpArgs false
def law07_tokens_s1 (x1 : Tk) (ag1 : (List Gapi_Token) → Option (List Gapi_Token)) (l4 : List Gapi_Token) : Option (List Gapi_Token) := grd (l4.length + 1 ≤ 2147483648) <| ag1 (l4 ++ [(⟨x1.k, (x1.f : Int), (x1.t : Int)⟩ : Gapi_Token)])
def law07_tokens_v (s1 : ByteArray) : Option (List Gapi_Token) := joinK (fun (j1 : (List Gapi_Token) → Option (List Gapi_Token)) => grd (s1.size ≤ 4611686018427387904) <| joinK (fun (d1 : (List Gapi_Token) → Option (List Gapi_Token)) => rangeG d1 (law07_tokens_s1) (tksOf s1) ([] : List Gapi_Token)
) (fun (l4 : List Gapi_Token) => j1 l4
)
) (fun (l1 : List Gapi_Token) => some l1
)
set_option maxRecDepth 100000 in
set_option maxHeartbeats 4000000 in
theorem law07_tokens_fn {s1 : ByteArray} {r : (List Gapi_Token)} (h : law07_tokens_v s1 = some r) : Fn Try.prog 24 [.string s1] [] (fun v0 : Value => v0) (fun v0 => [vec enc_Gapi_Token 36 3 v0 r]) := by
 unfold law07_tokens_v at h
 refine Fn.intro Try.func24 rfl Try.ntmps24 (by simp) ?_
 intro w0 K
 refine TC.star0 ?_
 show TC _ _ _ _ _ _ _ _ _ [star ((([] : List Nat) : List Nat).map mark)]
 obtain ⟨j1, hj1, h⟩ := joinE h
 refine TC.cutN (β := (List Gapi_Token) × Nat × Value × (List Nat)) 2 rfl (fun b => j1 b.1 = some r) (fun b => marksOf b.2.2.2) (fun b => [(3, .pointer (some ⟨b.2.1, 0, none⟩))]) (fun b => [cells b.2.1 [b.2.2.1] 23, vec enc_Gapi_Token 36 3 b.2.2.1 b.1, star ((b.2.2.2 : List Nat).map mark)]) (fun cut => ?_) ?_
 ·
  refine TC.seq (TC.region (TO.assign rfl (by decide) rfl (TO.nil (TX.next (TC.seq (TC.region ?_))))))
  refine TO.alloc zr_23 rfl (by decide) (fun b2 => ?_)
  refine TO.nil (TX.next (cut (TC.seq (TC.region (TO.move rfl (by decide) rfl (TO.call (vs := [.string s1]) rfl (by decide) rfl rfl rfl en_15 (scan_fn s1) Splits.nil ?_))))))
  rintro b3
  show TO _ _ _ _ _ _ _ _ _ _ [star ((([] : List Nat) : List Nat).map mark), cells b2 [.slice none 0 0] 23, cells b3 [.string s1] 9]
  refine TO.nil (TX.next (TC.block ?_))
  obtain ⟨hg1, h⟩ := grdE h
  refine TC.newVec (enc := enc_Gapi_Token) (e := 36) (size := 3) ?_
  show TC _ _ _ _ _ _ _ _ _ [star ((([] : List Nat) : List Nat).map mark), cells b2 [.slice none 0 0] 23, cells b3 [.string s1] 9, vec enc_Gapi_Token 36 3 (.slice none 0 0) ([] : List Gapi_Token)]
  obtain ⟨d1, hd1, h⟩ := joinE h
  refine TC.range (α := Tk) (β := (List Gapi_Token) × Value) (γ := Unit) (δ := Nat) (ps := [7]) Ro.nil rfl en_46 (scan1_itr s1 hg1 b3) (fun pre b => ∀ post, tksOf s1 = pre ++ post → rangeG d1 (law07_tokens_s1) post b.1 = some r) (fun pre b => [cells b2 [b.2] 23, vec enc_Gapi_Token 36 3 b.2 b.1]) (fun c pre g => False) (fun c pre g => []) (fun pre x b j => [(2, .slice none 0 0), (3, .pointer (some ⟨b2, 0, none⟩)), (6, .func (.func 46) #[] #[.pointer (some ⟨b3, 0, none⟩)]), (4, .pointer (some ⟨j, 0, none⟩))]) (fun pre x b j => [cells b2 [b.2] 23, vec enc_Gapi_Token 36 3 b.2 b.1, cells j [.int .i64 x.k, .int .i64 (x.f : Int), .int .i64 (x.t : Int)] 36]) (([] : List Gapi_Token), (.slice none 0 0)) (fun post e => by rw [List.nil_append] at e; subst e; exact h) (Splits.of [1, 3] (by as_aux_lemma => kernel_rfl) rfl) ⟨.inl ⟨2, rfl⟩, trivial⟩ (fun _ => rfl) (by decide) ?_ ?_ ?_ ?_
  ·
   rintro lp rc pre x1 post ⟨l4, v4⟩ w1 K1 hxs1 hext hro hinv
   refine TC.region ?_
   refine TO.alloc zr_36 rfl (by decide) (fun b4 => ?_)
   refine TO.stores (k := 2) (vs := [.int .i64 x1.k, .int .i64 (x1.f : Int), .int .i64 (x1.t : Int)]) (l' := [.int .i64 x1.k, .int .i64 (x1.f : Int), .int .i64 (x1.t : Int)]) sz_36 rfl rfl rfl rfl rfl (show _ ≤ _ by simp) rfl rfl ?_
   show TO _ _ _ _ _ _ _ _ _ _ [cells b2 [v4] 23, vec enc_Gapi_Token 36 3 v4 l4, cells b4 [.int .i64 x1.k, .int .i64 (x1.f : Int), .int .i64 (x1.t : Int)] 36]
   refine TO.nil ?_
   exact fun a w ha hw => ⟨b4, (Sbs.cons rfl (Sbs.cons rfl (Sbs.cons rfl (Sbs.cons rfl (Sbs.nil))))) _ _ _ ha, hw.weaken (Splits.of [0, 1, 2] (by as_aux_lemma => kernel_rfl) rfl)⟩
  ·
   rintro lp rc pre x1 post1 ⟨l4, v4⟩ jb1 w1 K1 hxs1 hext hro hinv
   have h := hinv (x1 :: post1) hxs1
   obtain ⟨ag1, hag1⟩ : ∃ ag, ag = rangeG d1 (law07_tokens_s1) post1 := ⟨_, rfl⟩
   have h : law07_tokens_s1 x1 ag1 l4 = some r := by rw [hag1]; exact h
   unfold law07_tokens_s1 at h
   show TC _ _ _ _ _ _ _ _ [(2, .slice none 0 0), (3, .pointer (some ⟨b2, 0, none⟩)), (6, .func (.func 46) #[] #[.pointer (some ⟨b3, 0, none⟩)]), (4, .pointer (some ⟨jb1, 0, none⟩))] [cells b2 [v4] 23, vec enc_Gapi_Token 36 3 v4 l4, cells jb1 [.int .i64 x1.k, .int .i64 (x1.f : Int), .int .i64 (x1.t : Int)] 36]
   refine TC.block (TC.region (TO.load (k := 0) sc_23 rfl (by decide) rfl rfl rfl (TO.loads (k := 2) (cs := [.int .i64 x1.k, .int .i64 (x1.f : Int), .int .i64 (x1.t : Int)]) rw_36 rfl (by decide) rfl rfl rfl rfl ?_)))
   refine TO.buildSlice (cs := [.int .i64 x1.k, .int .i64 (x1.f : Int), .int .i64 (x1.t : Int)]) (te := 36) (ps := [(0, .tmp 9)]) rfl (by decide) rfl (fun _ => by kernel_rfl) (fun b5 => ?_)
   obtain ⟨hg2, h⟩ := grdE h
   refine TO.appendVec (k := 1) (k2 := 3) (ys := [(⟨x1.k, (x1.f : Int), (x1.t : Int)⟩ : Gapi_Token)]) Try.underlying23 el_36 enc_Gapi_Token_len enc_Gapi_Token_one rfl (by decide) rfl rfl rfl rfl rfl rfl hg2 (fun v5 => ?_)
   show TO _ _ _ _ _ _ _ _ _ _ [cells b2 [v4] 23, vec enc_Gapi_Token 36 3 v5 (l4 ++ [(⟨x1.k, (x1.f : Int), (x1.t : Int)⟩ : Gapi_Token)]), cells jb1 [.int .i64 x1.k, .int .i64 (x1.f : Int), .int .i64 (x1.t : Int)] 36, cells b5 [.int .i64 x1.k, .int .i64 (x1.f : Int), .int .i64 (x1.t : Int)] 36]
   refine TO.store (k := 0) (l' := [v5]) sz_23 rfl rfl rfl rfl rfl (fun _ h => one_vec h (k := 1) rfl) rfl ?_
   refine TO.nil (TX.blockNormal ?_)
   exact TX.round (l4 ++ [(⟨x1.k, (x1.f : Int), (x1.t : Int)⟩ : Gapi_Token)], v5) (fun post2 e2 => by have e9 := snoc_post hxs1 e2; subst e9; subst hag1; exact h) (Splits.of [0, 1] (by as_aux_lemma => kernel_rfl) rfl)
  ·
   rintro dm1 ⟨l4, v4⟩ hinv
   have h : d1 l4 = some r := hinv [] (List.append_nil _).symm
   subst hd1
   show TX _ _ _ _ _ _ _ [star ((([] : List Nat) : List Nat).map mark), emp, cells b3 [.string s1] 9, emp, cells b2 [v4] 23, vec enc_Gapi_Token 36 3 v4 l4, mark dm1]
   refine TX.starCons (k := 6) (j := 0) rfl rfl (by decide) ?_
   show TX _ _ _ _ _ _ _ [star ((dm1 :: ([] : List Nat) : List Nat).map mark), emp, cells b3 [.string s1] 9, emp, cells b2 [v4] 23, vec enc_Gapi_Token 36 3 v4 l4, emp]
   refine TX.blockNormal ?_
   exact TX.meetD (l4, b2, v4, dm1 :: ([] : List Nat)) h rfl (Sbs.cons rfl (Sbs.nil)) (Splits.of [4, 5, 0] (by as_aux_lemma => kernel_rfl) rfl)
  ·
   rintro dm1 c pre x1 post g hxs hX
   exact (show False from hX).elim
 ·
  rintro ⟨l1, b1, v1, ds1⟩ h
  subst hj1
  show TC _ _ _ _ _ (marksOf ds1) _ _ [(3, .pointer (some ⟨b1, 0, none⟩))] [cells b1 [v1] 23, vec enc_Gapi_Token 36 3 v1 l1, star ((ds1 : List Nat).map mark)]
  refine TC.seq (TC.region (TO.load (k := 0) sc_23 rfl (by decide) rfl rfl rfl (TO.assign rfl (by decide) rfl (TO.nil (TX.next (TC.ret ?_))))))
  cases h
  exact TX.finM (rs := [.tmp 2]) ds1 v1 (.inl rfl) (Splits.open0 (k := 2) rfl) Try.results24 (.cons (.tmp rfl) .nil) rfl (Splits.of [1] (by as_aux_lemma => kernel_rfl) rfl)
def law07_cut_v (s1 : ByteArray) : Option ByteArray := bcond (decide ((2048 : Int) < (s1.size : Int))) ( grd (0 ≤ (0 : Int) ∧ (0 : Int) ≤ 2048 ∧ (2048 : Int) ≤ (s1.size : Int)) <| some (cutB s1 0 2048)
) ( some s1
)
set_option maxRecDepth 100000 in
set_option maxHeartbeats 4000000 in
theorem law07_cut_fn {s1 : ByteArray} {r : ByteArray} (h : law07_cut_v s1 = some r) : FnP Try.prog 23 [.string s1] (.string r) := by
 unfold law07_cut_v at h
 refine FnP.intro Try.func23 rfl Try.ntmps23 (by simp) ?_
 intro w0 K
 refine TC.seq (TC.region (TO.assign rfl (by decide) rfl (TO.nil (TX.next (TC.seq (TC.seq (TC.region (TO.move rfl (by decide) rfl (TO.lenStr rfl (by decide) rfl Try.underlying9 (TO.bin rfl (by decide) rfl rfl bin_gtr (TO.nil (TX.next ?_))))))))))))
 refine TC.condB rfl (fun hb1 => ?_) (fun hb1 => ?_)
 ·
  have h := condT hb1 h
  refine TC.seq (TC.region (TO.move rfl (by decide) rfl ?_))
  obtain ⟨hg1, h⟩ := grdE h
  refine TO.slice rfl (by decide) rfl rfl rfl (slice_stringI (i := 0) (j := 2048) Try.underlying9 (.inl ⟨rfl, rfl⟩) (.inr rfl) hg1) (TO.assign rfl (by decide) rfl (TO.nil (TX.next (TC.ret (TX.thenRet ?_)))))
  cases h
  exact TX.fin (rs := [.tmp 2]) () (.inl rfl) Try.results23 (.cons (.tmp rfl) .nil) rfl Splits.nil
 ·
  have h := condF hb1 h
  refine TC.skip (TX.next (TC.seq (TC.region (TO.move rfl (by decide) rfl (TO.assign rfl (by decide) rfl (TO.nil (TX.next (TC.ret ?_))))))))
  cases h
  exact TX.fin (rs := [.tmp 2]) () (.inl rfl) Try.results23 (.cons (.tmp rfl) .nil) rfl Splits.nil
end Go.Proofs.Ytgeefojgkbglnaa
namespace Go.Proofs.Ytgeefojgkbglnaa
open Go.RowKit Go.Lib
set_option linter.unusedVariables false
set_option linter.unusedSimpArgs false
theorem tokens_v (s : ByteArray) (hs : s.size ≤ 1000000000) : law07_tokens_v s = some ((tksOf s).map tkG) := by
  unfold law07_tokens_v
  refine joinI (grdI (by omega) (joinI ?_))
  have key : ∀ (xs : List Tk) (l : List Gapi_Token) (K : List Gapi_Token → Option (List Gapi_Token)), l.length + xs.length ≤ 2147483648 → rangeG K law07_tokens_s1 xs l = K (l ++ xs.map tkG) := by
    intro xs
    induction xs with
    | nil => intro l K _; simp [rangeG_nil]
    | cons x xs ih =>
      intro l K h
      rw [rangeG_cons]
      unfold law07_tokens_s1
      simp only [List.length_cons] at h
      refine grdI (by omega) ?_
      show rangeG K law07_tokens_s1 xs (l ++ [tkG x]) = _
      rw [ih _ _ (by simp; omega)]; simp
  have hl := tks_len s
  rw [key _ _ _ (by simp; omega)]; simp
theorem cut_v (s : ByteArray) : ∃ t, law07_cut_v s = some t ∧ t.size ≤ 2048 := by
  unfold law07_cut_v
  by_cases h : s.size ≤ 2048
  · exact ⟨s, condFI (decide_eq_false (by omega)) rfl, h⟩
  · refine ⟨_, condTI (decide_eq_true (by omega)) (grdI ⟨by omega, by omega, by omega⟩ rfl), ?_⟩
    unfold cutB; rw [ByteArray.size_extract]; simp; omega
theorem cutB_app {s : ByteArray} {x y z : List UInt8} {i j : Int} (h : s.data.toList = x ++ (y ++ z)) (hi : i = x.length) (hj : j = x.length + y.length) : (cutB s i j).data.toList = y := by
  subst hi; subst hj
  have e := cutB_list s x.length y.length
  rw [e, h, List.drop_left' rfl, List.take_left' rfl]
/-- The k-th token of a text, and what stands ahead of and behind it. -/
theorem tks_mid (s : ByteArray) (k : Nat) (hk : k < (tksOf s).length) : ∃ A x B, G (toks s.data.toList) = A ++ x :: B ∧ A.length = k ∧ (tksOf s)[k]? = some ⟨x.1, tot A, tot A + tl x⟩ ∧
    s.data.toList = flat (cont A) ++ (flat (cont [x]) ++ flat (cont B)) ∧ Good (cont (A ++ [x]) ++ cont B) ∧ G (cont [x]) = [x] ∧ Good (cont [x]) ∧ (tksOf s)[k + 1]? = (posT (tot A + tl x) B)[0]? := by
  have e := tks_pos s
  have hl : (tksOf s).length = (G (toks s.data.toList)).length := by rw [e, posT_len]
  have hk' : k < (G (toks s.data.toList)).length := by omega
  have h0 : G (toks s.data.toList) = (G (toks s.data.toList)).take k ++ (G (toks s.data.toList))[k] :: (G (toks s.data.toList)).drop (k + 1) := by
    rw [← List.drop_eq_getElem_cons hk', List.take_append_drop]
  obtain ⟨A, x, B, hA, hG⟩ : ∃ A x B, A.length = k ∧ G (toks s.data.toList) = A ++ x :: B := ⟨_, _, _, by simp; omega, h0⟩
  have hG2 : G (toks s.data.toList) = (A ++ [x]) ++ B := by rw [hG]; simp
  obtain ⟨h1, h2, h3⟩ := G_split _ _ _ hG2
  obtain ⟨h4, h5, h6⟩ := G_split _ _ _ h1
  have hg := good_toks s.data.toList
  rw [h3] at hg
  have hg1 : Good (cont (A ++ [x])) := good_take hg
  have hg2 : Good (cont [x]) := by rw [h6] at hg1; exact good_drop hg1
  refine ⟨A, x, B, hG, hA, ?_, ?_, hg, h5, hg2, ?_⟩
  · rw [e, hG, posT_append, List.getElem?_append_right (by rw [posT_len]; omega), posT_len, hA, Nat.sub_self, Nat.zero_add]; rfl
  · rw [← List.append_assoc, ← flat_append, ← cont_append, ← flat_append, ← h3, flat_toks]
  · rw [e, hG, posT_append, List.getElem?_append_right (by rw [posT_len]; omega), posT_len, hA, Nat.zero_add, show k + 1 - k = 0 + 1 by omega]; rfl
theorem tot_one (x : GT) : tot [x] = tl x := by simp [tot]
theorem tot_append (A B : List GT) : tot (A ++ B) = tot A + tot B := by simp [tot]
end Go.Proofs.Ytgeefojgkbglnaa
namespace Go.Proofs.Ytgeefojgkbglnaa
open Go.RowKit Go.Lib
set_option linter.unusedVariables false
set_option linter.unusedSimpArgs false
def law07_WordEdges_s1 (q1 : Gapi_Token) (j1 : (List Gapi_Token) → Option Bool) (r6 : (List Gapi_Token)) (ag1 : (List Gapi_Token) → Int → Option Bool) (both4 : List Gapi_Token) (x3 : Int) : Option Bool := bcond (decide ((x3 : Int) < (r6.length : Int))) ( andThen (getO r6 x3) fun (q2 : Gapi_Token) => grd (I64 (q2.Span_From + q1.Span_To)) <| grd (I64 (q2.Span_To + q1.Span_To)) <| grd (both4.length + 1 ≤ 2147483648) <| grd (I64 (x3 + 1)) <| ag1 (both4 ++ [(⟨q2.Kind, q2.Span_From + q1.Span_To, q2.Span_To + q1.Span_To⟩ : Gapi_Token)]) (x3 + 1)
) ( j1 both4
)
def law07_WordEdges_s2 (r3 : (List Gapi_Token)) (both1 : List Gapi_Token) (j2 : Option Bool) (ag2 : Int → Option Bool) (x6 : Int) : Option Bool := bcond (decide ((x6 : Int) < (r3.length : Int))) ( andThen (getO r3 x6) fun (q3 : Gapi_Token) => andThen (getO both1 x6) fun (q4 : Gapi_Token) => bcond (!(eq_Gapi_Token q3 q4)) ( some false
) ( grd (I64 (x6 + 1)) <| ag2 (x6 + 1)
)
) ( j2
)
def law07_WordEdges_s4 (r2 : ByteArray) (j5 : Option Bool) (q5 : Gapi_Token) (ag4 : Int → Option Bool) (k3 : Int) : Option Bool := bcond (decide ((k3 : Int) < q5.Span_To)) ( grd (r2.size ≤ 140737488351232) <| grd (r2.size ≤ 140737488351232) <| bcond (edge (tksOf r2) k3) ( some false
) ( bcond ((((atG (tokAt (tksOf r2) k3)).2) : Int) != 0) ( some false
) ( bcond (!(eq_Gapi_Token ((atG (tokAt (tksOf r2) k3)).1) q5)) ( some false
) ( grd (I64 (k3 + 1)) <| ag4 (k3 + 1)
)
)
)
) ( j5
)
def law07_WordEdges_s3 (r2 : ByteArray) (r3 : (List Gapi_Token)) (j3 : Option Bool) (ag3 : Int → Option Bool) (x9 : Int) : Option Bool := bcond (decide ((x9 : Int) < (r3.length : Int))) ( joinK (fun (j4 : Option Bool) => joinK (fun (j5 : Option Bool) => andThen (getO r3 x9) fun (q5 : Gapi_Token) => grd (I64 (q5.Span_From + 1)) <| loopG (fun _ => none) (law07_WordEdges_s4 r2 j5 q5) fuel (q5.Span_From + 1)
) ( bcond (decide ((100 : Int) < x9)) ( j3
) ( j4
)
)
) ( grd (I64 (x9 + 1)) <| ag3 (x9 + 1)
)
) ( j3
)
def law07_WordEdges_v (s1 : ByteArray) (at1 : Int) : Option Bool := andThen (law07_wakes_v) fun (r1 : Bool) => bcond (!r1) ( some false
) ( andThen (law07_cut_v s1) fun (r2 : ByteArray) => andThen (law07_tokens_v r2) fun (r3 : (List Gapi_Token)) => bcond (((r3.length : Int) : Int) == 0) ( bcond (((r2.size : Int) : Int) == 0) ( grd (r2.size ≤ 140737488351232) <| bcond (!(edge (tksOf r2) 0)) ( andThen (law07_wakes_v) fun (r4 : Bool) => some r4
) ( some false
)
) ( some false
)
) ( grd ((IntKind.u64.wrap (r3.length : Int)) ≠ 0) <| andThen (getO r3 (IntKind.i64.wrap (Int.tmod (IntKind.u64.wrap at1) (IntKind.u64.wrap (r3.length : Int))))) fun (q1 : Gapi_Token) => grd (r2.size ≤ 140737488351232) <| bcond (!(edge (tksOf r2) q1.Span_To)) ( some false
) ( joinK (fun (j1 : (List Gapi_Token) → Option Bool) => grd (0 ≤ (0 : Int) ∧ (0 : Int) ≤ q1.Span_To ∧ (q1.Span_To : Int) ≤ (r2.size : Int)) <| andThen (law07_tokens_v (cutB r2 0 q1.Span_To)) fun (r5 : (List Gapi_Token)) => grd (0 ≤ (q1.Span_To : Int) ∧ (q1.Span_To : Int) ≤ (r2.size : Int) ∧ ((r2.size : Int) : Int) ≤ (r2.size : Int)) <| andThen (law07_tokens_v (cutB r2 q1.Span_To (r2.size : Int))) fun (r6 : (List Gapi_Token)) => loopG (fun _ _ => none) (law07_WordEdges_s1 q1 j1 r6) fuel r5 0
) (fun (both1 : List Gapi_Token) => bcond (((both1.length : Int) : Int) != (r3.length : Int)) ( some false
) ( joinK (fun (j2 : Option Bool) => loopG (fun _ => none) (law07_WordEdges_s2 r3 both1 j2) fuel 0
) ( joinK (fun (j3 : Option Bool) => loopG (fun _ => none) (law07_WordEdges_s3 r2 r3 j3) fuel 0
) ( andThen (law07_wakes_v) fun (r7 : Bool) => some r7
)
)
)
)
)
)
)
set_option maxRecDepth 100000 in
set_option maxHeartbeats 4000000 in
theorem law07_WordEdges_fn {s1 : ByteArray} {at1 : Int} {r : Bool} (h : law07_WordEdges_v s1 at1 = some r) : FnP Try.prog 6 [.string s1, .int .i64 at1] (.bool r) := by
 unfold law07_WordEdges_v at h
 refine FnP.intro Try.func6 rfl Try.ntmps6 (by simp) ?_
 intro w0 K
 refine TC.seq (TC.region (TO.assign rfl (by decide) rfl (TO.nil (TX.next (TC.seq (TC.seq (TC.region ?_)))))))
 obtain ⟨r1, hq1, h⟩ := andE h
 refine TO.callP (v := .bool r1) (vs := []) rfl (by decide) rfl rfl rfl en_12 (law07_wakes_fn hq1) (TO.un rfl (by decide) rfl un_not (TO.nil (TX.next ?_)))
 refine TC.condB rfl (fun hb1 => ?_) (fun hb1 => ?_)
 ·
  have h := condT hb1 h
  refine TC.seq (TC.region (TO.assign rfl (by decide) rfl (TO.nil (TX.next (TC.ret (TX.thenRet ?_))))))
  cases h
  exact TX.fin (rs := [.tmp 4]) () (.inl rfl) Try.results6 (.cons (.tmp rfl) .nil) rfl Splits.nil
 ·
  have h := condF hb1 h
  refine TC.skip (TX.next (TC.seq (TC.region (TO.move rfl (by decide) rfl ?_))))
  obtain ⟨r2, hq2, h⟩ := andE h
  refine TO.callP (v := .string r2) (vs := [.string s1]) rfl (by decide) rfl rfl rfl en_23 (law07_cut_fn hq2) (TO.assign rfl (by decide) rfl (TO.nil (TX.next (TC.seq (TC.region (TO.move rfl (by decide) rfl ?_))))))
  obtain ⟨r3, hq3, h⟩ := andE h
  refine TO.call (vs := [.string r2]) rfl (by decide) rfl rfl rfl en_24 (law07_tokens_fn hq3) Splits.nil ?_
  rintro v1
  show TO _ _ _ _ _ _ _ _ _ _ [vec enc_Gapi_Token 36 3 v1 r3]
  refine TO.assign rfl (by decide) rfl (TO.nil (TX.next (TC.seq (TC.seq (TC.region (TO.move rfl (by decide) rfl (TO.lenVec (k := 0) rfl (by decide) rfl rfl Try.underlying23 (TO.bin rfl (by decide) rfl rfl bin_eql (TO.nil (TX.next ?_))))))))))
  refine TC.condB rfl (fun hb2 => ?_) (fun hb2 => ?_)
  ·
   have h := condT hb2 h
   refine TC.seq (TC.region (TO.move rfl (by decide) rfl (TO.lenStr rfl (by decide) rfl Try.underlying9 (TO.bin rfl (by decide) rfl rfl bin_eql (TO.move rfl (by decide) rfl ?_)))))
   refine TO.split (s := 27) rfl (fun hb3 => ?_) (fun hb3 => ?_)
   ·
    have h := condT hb3 h
    refine TO.move rfl (by decide) rfl ?_
    obtain ⟨hg1, h⟩ := grdE h
    refine TO.callP (v := .bool (edge (tksOf r2) 0)) (vs := [.string r2, .int .i64 0]) rfl (by decide) rfl rfl rfl en_26 (wedge_c r2 hg1 0) (TO.un rfl (by decide) rfl un_not (TO.pick (b := true) rfl (by decide) rfl rfl (TO.move rfl (by decide) rfl ?_)))
    refine TO.split (s := 32) rfl (fun hb4 => ?_) (fun hb4 => ?_)
    ·
     have h := condT hb4 h
     obtain ⟨r4, hq4, h⟩ := andE h
     refine TO.callP (v := .bool r4) (vs := []) rfl (by decide) rfl rfl rfl en_12 (law07_wakes_fn hq4) (TO.pick (b := true) rfl (by decide) rfl rfl (TO.assign rfl (by decide) rfl (TO.nil (TX.next (TC.ret (TX.thenRet ?_))))))
     cases h
     exact TX.fin (rs := [.tmp 4]) () (.inl rfl) Try.results6 (.cons (.tmp rfl) .nil) rfl Splits.nil
    ·
     have h := condF hb4 h
     refine TO.skip rfl (by decide) (TO.pick (b := false) rfl (by decide) rfl rfl (TO.assign rfl (by decide) rfl (TO.nil (TX.next (TC.ret (TX.thenRet ?_))))))
     cases h
     exact TX.fin (rs := [.tmp 4]) () (.inl rfl) Try.results6 (.cons (.tmp rfl) .nil) rfl Splits.nil
   ·
    have h := condF hb3 h
    refine TO.skip rfl (by decide) (TO.skip rfl (by decide) (TO.skip rfl (by decide) (TO.pick (b := false) rfl (by decide) rfl rfl (TO.move rfl (by decide) rfl (TO.skip rfl (by decide) (TO.pick (b := false) rfl (by decide) rfl rfl (TO.assign rfl (by decide) rfl (TO.nil (TX.next (TC.ret (TX.thenRet ?_)))))))))))
    cases h
    exact TX.fin (rs := [.tmp 4]) () (.inl rfl) Try.results6 (.cons (.tmp rfl) .nil) rfl Splits.nil
  ·
   have h := condF hb2 h
   refine TC.skip (TX.next (TC.seq (TC.region (TO.move rfl (by decide) rfl (TO.move rfl (by decide) rfl (TO.conv rfl (by decide) rfl (conv_wrap Try.underlying3 Try.underlying45) (TO.move rfl (by decide) rfl (TO.lenVec (k := 0) rfl (by decide) rfl rfl Try.underlying23 (TO.conv rfl (by decide) rfl (conv_wrap Try.underlying3 Try.underlying45) ?_)))))))))
   obtain ⟨hg2, h⟩ := grdE h
   refine TO.bin rfl (by decide) rfl rfl (bin_rem hg2 rfl) (TO.conv rfl (by decide) rfl (conv_wrap Try.underlying45 Try.underlying3) ?_)
   obtain ⟨q1, hq5, h⟩ := andE h
   refine TO.indexVecI (k := 0) hq5 Try.underlying23 sz_36 rfl (by decide) rfl rfl rfl rfl (TO.fieldAddr fl_36_1 rfl (by decide) rfl (show _ = ((IntKind.i64.wrap (Int.tmod (IntKind.u64.wrap at1) (IntKind.u64.wrap (r3.length : Int))) : Int).toNat) * 3 + 1 from rfl) (TO.fieldAddr fl_34_1 rfl (by decide) rfl (show _ = ((IntKind.i64.wrap (Int.tmod (IntKind.u64.wrap at1) (IntKind.u64.wrap (r3.length : Int))) : Int).toNat) * 3 + 2 from rfl) (TO.loadVec (i := (IntKind.i64.wrap (Int.tmod (IntKind.u64.wrap at1) (IntKind.u64.wrap (r3.length : Int))) : Int).toNat) (j := 2) (k := 0) (q := q1) sc_3 enc_Gapi_Token_len rfl (by decide) rfl rfl (getO_get hq5) rfl (by decide) rfl (TO.assign rfl (by decide) rfl (TO.nil (TX.next (TC.seq (TC.seq (TC.region (TO.move rfl (by decide) rfl (TO.move rfl (by decide) rfl ?_)))))))))))
   obtain ⟨hg3, h⟩ := grdE h
   refine TO.callP (v := .bool (edge (tksOf r2) q1.Span_To)) (vs := [.string r2, .int .i64 q1.Span_To]) rfl (by decide) rfl rfl rfl en_26 (wedge_c r2 hg3 q1.Span_To) (TO.un rfl (by decide) rfl un_not (TO.nil (TX.next ?_)))
   refine TC.condB rfl (fun hb5 => ?_) (fun hb5 => ?_)
   ·
    have h := condT hb5 h
    refine TC.seq (TC.region (TO.assign rfl (by decide) rfl (TO.nil (TX.next (TC.ret (TX.thenRet ?_))))))
    cases h
    exact TX.fin (rs := [.tmp 4]) () (.inl rfl) Try.results6 (.cons (.tmp rfl) .nil) rfl Splits.nil
   ·
    have h := condF hb5 h
    refine TC.skip (TX.next ?_)
    obtain ⟨j1, hj1, h⟩ := joinE h
    refine TC.cutN (β := (List Gapi_Token) × Value) 1 rfl (fun b => j1 b.1 = some r) (fun b => []) (fun b => [(0, .string r2), (5, v1), (6, b.2)]) (fun b => [vec enc_Gapi_Token 36 3 v1 r3, vec enc_Gapi_Token 36 3 b.2 b.1]) (fun cut => ?_) ?_
    ·
     refine TC.seq (TC.region (TO.move rfl (by decide) rfl (TO.move rfl (by decide) rfl ?_)))
     obtain ⟨hg4, h⟩ := grdE h
     refine TO.slice rfl (by decide) rfl rfl rfl (slice_stringI (i := 0) (j := q1.Span_To) Try.underlying9 (.inl ⟨rfl, rfl⟩) (.inr rfl) hg4) ?_
     obtain ⟨r5, hq6, h⟩ := andE h
     refine TO.call (vs := [.string (cutB r2 0 q1.Span_To)]) rfl (by decide) rfl rfl rfl en_24 (law07_tokens_fn hq6) Splits.nil ?_
     rintro v3
     show TO _ _ _ _ _ _ _ _ _ _ [vec enc_Gapi_Token 36 3 v1 r3, vec enc_Gapi_Token 36 3 v3 r5]
     refine TO.assign rfl (by decide) rfl (TO.nil (TX.next (cut (TC.seq (TC.region (TO.move rfl (by decide) rfl (TO.move rfl (by decide) rfl ?_)))))))
     obtain ⟨hg5, h⟩ := grdE h
     refine TO.slice rfl (by decide) rfl rfl rfl (slice_stringI (i := q1.Span_To) (j := (r2.size : Int)) Try.underlying9 (.inr rfl) (.inl ⟨rfl, rfl⟩) hg5) ?_
     obtain ⟨r6, hq7, h⟩ := andE h
     refine TO.call (vs := [.string (cutB r2 q1.Span_To (r2.size : Int))]) rfl (by decide) rfl rfl rfl en_24 (law07_tokens_fn hq7) Splits.nil ?_
     rintro v4
     show TO _ _ _ _ _ _ _ _ _ _ [vec enc_Gapi_Token 36 3 v1 r3, vec enc_Gapi_Token 36 3 v3 r5, vec enc_Gapi_Token 36 3 v4 r6]
     refine TO.lenVec (k := 2) rfl (by decide) rfl rfl Try.underlying23 (TO.move rfl (by decide) rfl (TO.nil (TX.next (TC.block ?_))))
     refine TC.loopD (β := Nat × (List Gapi_Token) × Int × Value) (fun b => loopG (fun _ _ => none) (law07_WordEdges_s1 q1 j1 r6) b.1 b.2.1 b.2.2.1 = some r) (fun b => []) (fun b => [(0, .string r2), (1, .int .i64 q1.Span_To), (5, v1), (6, b.2.2.2), (58, v4), (59, .int .i64 (r6.length : Int)), (60, .int .i64 b.2.2.1)]) (fun b => [vec enc_Gapi_Token 36 3 v1 r3, vec enc_Gapi_Token 36 3 b.2.2.2 b.2.1, vec enc_Gapi_Token 36 3 v4 r6]) (fun b => b.1) (fuel, r5, 0, v3) h rfl (Sbs.cons rfl (Sbs.cons rfl (Sbs.cons rfl (Sbs.cons rfl (Sbs.cons rfl (Sbs.cons rfl (Sbs.cons rfl (Sbs.nil)))))))) (Splits.of [0, 1, 2] (by as_aux_lemma => kernel_rfl) rfl) ?_
     rintro ⟨n1, both4, x3, v7⟩ h
     cases n1 with
     | zero => exact noneE h
     | succ n1 =>
      obtain ⟨ag1, hag1⟩ : ∃ ag, ag = loopG (fun _ _ => none) (law07_WordEdges_s1 q1 j1 r6) n1 := ⟨_, rfl⟩
      have h : law07_WordEdges_s1 q1 j1 r6 ag1 both4 x3 = some r := by rw [hag1]; exact h
      unfold law07_WordEdges_s1 at h
      show TC _ _ _ _ _ ([]) _ _ [(0, .string r2), (1, .int .i64 q1.Span_To), (5, v1), (6, v7), (58, v4), (59, .int .i64 (r6.length : Int)), (60, .int .i64 x3)] [vec enc_Gapi_Token 36 3 v1 r3, vec enc_Gapi_Token 36 3 v7 both4, vec enc_Gapi_Token 36 3 v4 r6]
      refine TC.seq (TC.region (TO.bin rfl (by decide) rfl rfl bin_lss (TO.nil (TX.next (TC.seq ?_)))))
      refine TC.condB rfl (fun hb6 => ?_) (fun hb6 => ?_)
      ·
       have h := condT hb6 h
       refine TC.skip (TX.next (TC.seq (TC.block (TC.seq (TC.region ?_)))))
       obtain ⟨q2, hq8, h⟩ := andE h
       refine TO.indexVecI (k := 2) hq8 Try.underlying23 sz_36 rfl (by decide) rfl rfl rfl rfl (TO.loadsVec (i := (x3 : Int).toNat) (j := 0) (k := 2) (q := q2) (cs := [.int .i64 q2.Kind, .int .i64 q2.Span_From, .int .i64 q2.Span_To]) rw_36 enc_Gapi_Token_len rfl (by decide) rfl rfl (getO_get hq8) rfl rfl rfl ?_)
       refine TO.alloc zr_36 rfl (by decide) (fun b1 => ?_)
       refine TO.stores (k := 3) (vs := [.int .i64 q2.Kind, .int .i64 q2.Span_From, .int .i64 q2.Span_To]) (l' := [.int .i64 q2.Kind, .int .i64 q2.Span_From, .int .i64 q2.Span_To]) sz_36 rfl rfl rfl rfl rfl (show _ ≤ _ by simp) rfl rfl ?_
       show TO _ _ _ _ _ _ _ _ _ _ [vec enc_Gapi_Token 36 3 v1 r3, vec enc_Gapi_Token 36 3 v7 both4, vec enc_Gapi_Token 36 3 v4 r6, cells b1 [.int .i64 q2.Kind, .int .i64 q2.Span_From, .int .i64 q2.Span_To] 36]
       refine TO.nil (TX.next (TC.seq (TC.region (TO.fieldAddr fl_36_1 rfl (by decide) rfl (show _ = 1 from rfl) (TO.fieldAddr fl_34_0 rfl (by decide) rfl (show _ = 1 from rfl) (TO.load (k := 3) sc_3 rfl (by decide) rfl rfl rfl (TO.move rfl (by decide) rfl ?_)))))))
       obtain ⟨hg6, h⟩ := grdE h
       refine TO.bin rfl (by decide) rfl rfl (bin_add (r := q2.Span_From + q1.Span_To) (IntWalk.i64_in _ hg6)) (TO.fieldAddr fl_36_1 rfl (by decide) rfl (show _ = 1 from rfl) (TO.fieldAddr fl_34_0 rfl (by decide) rfl (show _ = 1 from rfl) ?_))
       refine TO.store (k := 3) (l' := [.int .i64 q2.Kind, .int .i64 (q2.Span_From + q1.Span_To), .int .i64 q2.Span_To]) sz_3 rfl rfl rfl rfl rfl (fun _ _ => rfl) rfl ?_
       refine TO.nil (TX.next (TC.seq (TC.region (TO.fieldAddr fl_36_1 rfl (by decide) rfl (show _ = 1 from rfl) (TO.fieldAddr fl_34_1 rfl (by decide) rfl (show _ = 2 from rfl) (TO.load (k := 3) sc_3 rfl (by decide) rfl rfl rfl (TO.move rfl (by decide) rfl ?_)))))))
       obtain ⟨hg7, h⟩ := grdE h
       refine TO.bin rfl (by decide) rfl rfl (bin_add (r := q2.Span_To + q1.Span_To) (IntWalk.i64_in _ hg7)) (TO.fieldAddr fl_36_1 rfl (by decide) rfl (show _ = 1 from rfl) (TO.fieldAddr fl_34_1 rfl (by decide) rfl (show _ = 2 from rfl) ?_))
       refine TO.store (k := 3) (l' := [.int .i64 q2.Kind, .int .i64 (q2.Span_From + q1.Span_To), .int .i64 (q2.Span_To + q1.Span_To)]) sz_3 rfl rfl rfl rfl rfl (fun _ _ => rfl) rfl ?_
       show TO _ _ _ _ _ _ _ _ _ _ [vec enc_Gapi_Token 36 3 v1 r3, vec enc_Gapi_Token 36 3 v7 both4, vec enc_Gapi_Token 36 3 v4 r6, cells b1 [.int .i64 q2.Kind, .int .i64 (q2.Span_From + q1.Span_To), .int .i64 (q2.Span_To + q1.Span_To)] 36]
       refine TO.nil (TX.next (TC.region (TO.move rfl (by decide) rfl (TO.loads (k := 3) (cs := [.int .i64 q2.Kind, .int .i64 (q2.Span_From + q1.Span_To), .int .i64 (q2.Span_To + q1.Span_To)]) rw_36 rfl (by decide) rfl rfl rfl rfl ?_))))
       refine TO.buildSlice (cs := [.int .i64 q2.Kind, .int .i64 (q2.Span_From + q1.Span_To), .int .i64 (q2.Span_To + q1.Span_To)]) (te := 36) (ps := [(0, .tmp 79)]) rfl (by decide) rfl (fun _ => by kernel_rfl) (fun b2 => ?_)
       obtain ⟨hg8, h⟩ := grdE h
       refine TO.appendVec (k := 1) (k2 := 4) (ys := [(⟨q2.Kind, q2.Span_From + q1.Span_To, q2.Span_To + q1.Span_To⟩ : Gapi_Token)]) Try.underlying23 el_36 enc_Gapi_Token_len enc_Gapi_Token_one rfl (by decide) rfl rfl rfl rfl rfl rfl hg8 (fun v8 => ?_)
       show TO _ _ _ _ _ _ _ _ _ _ [vec enc_Gapi_Token 36 3 v1 r3, vec enc_Gapi_Token 36 3 v8 (both4 ++ [(⟨q2.Kind, q2.Span_From + q1.Span_To, q2.Span_To + q1.Span_To⟩ : Gapi_Token)]), vec enc_Gapi_Token 36 3 v4 r6, cells b1 [.int .i64 q2.Kind, .int .i64 (q2.Span_From + q1.Span_To), .int .i64 (q2.Span_To + q1.Span_To)] 36, cells b2 [.int .i64 q2.Kind, .int .i64 (q2.Span_From + q1.Span_To), .int .i64 (q2.Span_To + q1.Span_To)] 36]
       refine TO.assign rfl (by decide) rfl (TO.nil (TX.blockNormal (TX.next (TC.region ?_))))
       obtain ⟨hg9, h⟩ := grdE h
       refine TO.bin rfl (by decide) rfl rfl (bin_add (r := x3 + 1) (IntWalk.i64_in _ hg9)) (TO.move rfl (by decide) rfl (TO.nil ?_))
       subst hag1
       exact TX.againD (n1, both4 ++ [(⟨q2.Kind, q2.Span_From + q1.Span_To, q2.Span_To + q1.Span_To⟩ : Gapi_Token)], x3 + 1, v8) h (Nat.lt_succ_self _) rfl (Sbs.cons rfl (Sbs.cons rfl (Sbs.cons rfl (Sbs.cons rfl (Sbs.cons rfl (Sbs.cons rfl (Sbs.cons rfl (Sbs.nil)))))))) (Splits.of [0, 1, 2] (by as_aux_lemma => kernel_rfl) rfl)
      ·
       have h := condF hb6 h
       refine TC.exit (TX.thenExit (TX.thenExit (TX.blockHere ?_)))
       exact TX.meetD (both4, v7) h rfl (Sbs.cons rfl (Sbs.cons rfl (Sbs.cons rfl (Sbs.nil)))) (Splits.of [0, 1] (by as_aux_lemma => kernel_rfl) rfl)
    ·
     rintro ⟨both1, v2⟩ h
     subst hj1
     show TC _ _ _ _ _ ([]) _ _ [(0, .string r2), (5, v1), (6, v2)] [vec enc_Gapi_Token 36 3 v1 r3, vec enc_Gapi_Token 36 3 v2 both1]
     refine TC.seq (TC.seq (TC.region (TO.move rfl (by decide) rfl (TO.lenVec (k := 1) rfl (by decide) rfl rfl Try.underlying23 (TO.move rfl (by decide) rfl (TO.lenVec (k := 0) rfl (by decide) rfl rfl Try.underlying23 (TO.bin rfl (by decide) rfl rfl bin_neq (TO.nil (TX.next ?_)))))))))
     refine TC.condB rfl (fun hb7 => ?_) (fun hb7 => ?_)
     ·
      have h := condT hb7 h
      refine TC.seq (TC.region (TO.assign rfl (by decide) rfl (TO.nil (TX.next (TC.ret (TX.thenRet ?_))))))
      cases h
      exact TX.fin (rs := [.tmp 4]) () (.inl rfl) Try.results6 (.cons (.tmp rfl) .nil) rfl Splits.nil
     ·
      have h := condF hb7 h
      refine TC.skip (TX.next ?_)
      obtain ⟨j2, hj2, h⟩ := joinE h
      refine TC.cutN (β := Unit) 0 rfl (fun b => j2 = some r) (fun b => []) (fun b => [(0, .string r2), (5, v1)]) (fun b => [vec enc_Gapi_Token 36 3 v1 r3]) (fun cut => ?_) ?_
      ·
       refine cut (TC.seq (TC.region (TO.move rfl (by decide) rfl (TO.lenVec (k := 0) rfl (by decide) rfl rfl Try.underlying23 (TO.move rfl (by decide) rfl (TO.nil (TX.next (TC.block ?_))))))))
       refine TC.loopD (β := Nat × Int) (fun b => loopG (fun _ => none) (law07_WordEdges_s2 r3 both1 j2) b.1 b.2 = some r) (fun b => []) (fun b => [(0, .string r2), (5, v1), (6, v2), (89, .int .i64 (r3.length : Int)), (90, .int .i64 b.2)]) (fun b => [vec enc_Gapi_Token 36 3 v1 r3, vec enc_Gapi_Token 36 3 v2 both1]) (fun b => b.1) (fuel, 0) h rfl (Sbs.cons rfl (Sbs.cons rfl (Sbs.cons rfl (Sbs.cons rfl (Sbs.cons rfl (Sbs.nil)))))) (Splits.of [0, 1] (by as_aux_lemma => kernel_rfl) rfl) ?_
       rintro ⟨n2, x6⟩ h
       cases n2 with
       | zero => exact noneE h
       | succ n2 =>
        obtain ⟨ag2, hag2⟩ : ∃ ag, ag = loopG (fun _ => none) (law07_WordEdges_s2 r3 both1 j2) n2 := ⟨_, rfl⟩
        have h : law07_WordEdges_s2 r3 both1 j2 ag2 x6 = some r := by rw [hag2]; exact h
        unfold law07_WordEdges_s2 at h
        show TC _ _ _ _ _ ([]) _ _ [(0, .string r2), (5, v1), (6, v2), (89, .int .i64 (r3.length : Int)), (90, .int .i64 x6)] [vec enc_Gapi_Token 36 3 v1 r3, vec enc_Gapi_Token 36 3 v2 both1]
        refine TC.seq (TC.region (TO.bin rfl (by decide) rfl rfl bin_lss (TO.nil (TX.next (TC.seq ?_)))))
        refine TC.condB rfl (fun hb8 => ?_) (fun hb8 => ?_)
        ·
         have h := condT hb8 h
         refine TC.skip (TX.next (TC.seq (TC.block (TC.seq (TC.region (TO.move rfl (by decide) rfl (TO.assign rfl (by decide) rfl (TO.nil (TX.next (TC.seq ?_))))))))))
         obtain ⟨q3, hq9, h⟩ := andE h
         obtain ⟨q4, hq10, h⟩ := andE h
         refine TC.drawN 8 [(0, 93, v1), (1, 94, .int .i64 x6), (2, 95, .pointer (some ⟨vblk v1, (x6 : Int).toNat * 3, none⟩)), (3, 96, .agg #[.int .i64 q3.Kind, .int .i64 q3.Span_From, .int .i64 q3.Span_To]), (4, 97, v2), (5, 98, .int .i64 x6), (6, 99, .pointer (some ⟨vblk v2, (x6 : Int).toNat * 3, none⟩)), (7, 100, .agg #[.int .i64 q4.Kind, .int .i64 q4.Span_From, .int .i64 q4.Span_To])] mixed (by as_aux_lemma => kernel_rfl) (by as_aux_lemma => kernel_rfl) (by decide) (by rfl) (by as_aux_lemma => kernel_rfl) (by as_aux_lemma => kernel_rfl) (DrawPre.cons ?_ (DrawPre.cons ?_ (DrawPre.cons ?_ (DrawPre.cons ?_ (DrawPre.cons ?_ (DrawPre.cons ?_ (DrawPre.cons ?_ (DrawPre.cons ?_ DrawPre.nil)))))))) ?_
         ·
          intro D hn hd hcl hu hi
          refine TO.move rfl (by decide) (dl_old (by rfl) rfl) ?_
          exact TX.quiet 0 hu hi rfl
         ·
          intro D hn hd hcl hu hi
          refine TO.move rfl (by decide) (dl_old (by rfl) rfl) ?_
          exact TX.quiet 1 hu hi rfl
         ·
          intro D hn hd hcl hu hi
          refine TO.indexVecI (k := 0) hq9 Try.underlying23 sz_36 rfl (by decide) (dl_lookup (m := 0) hu rfl (hd 0 (by decide))) (dl_lookup (m := 1) hu rfl (hd 1 (by decide))) rfl rfl ?_
          exact TX.quiet 2 hu hi rfl
         ·
          intro D hn hd hcl hu hi
          refine TO.loadsVec (i := (x6 : Int).toNat) (j := 0) (k := 0) (q := q3) (cs := [.int .i64 q3.Kind, .int .i64 q3.Span_From, .int .i64 q3.Span_To]) rw_36 enc_Gapi_Token_len rfl (by decide) (dl_lookup (m := 2) hu rfl (hd 2 (by decide))) rfl (getO_get hq9) rfl rfl rfl ?_
          exact TX.quiet 3 hu hi rfl
         ·
          intro D hn hd hcl hu hi
          refine TO.move rfl (by decide) (dl_old (by rfl) rfl) ?_
          exact TX.quiet 4 hu hi rfl
         ·
          intro D hn hd hcl hu hi
          refine TO.move rfl (by decide) (dl_old (by rfl) rfl) ?_
          exact TX.quiet 5 hu hi rfl
         ·
          intro D hn hd hcl hu hi
          refine TO.indexVecI (k := 1) hq10 Try.underlying23 sz_36 rfl (by decide) (dl_lookup (m := 4) hu rfl (hd 4 (by decide))) (dl_lookup (m := 5) hu rfl (hd 5 (by decide))) rfl rfl ?_
          exact TX.quiet 6 hu hi rfl
         ·
          intro D hn hd hcl hu hi
          refine TO.loadsVec (i := (x6 : Int).toNat) (j := 0) (k := 1) (q := q4) (cs := [.int .i64 q4.Kind, .int .i64 q4.Span_From, .int .i64 q4.Span_To]) rw_36 enc_Gapi_Token_len rfl (by decide) (dl_lookup (m := 6) hu rfl (hd 6 (by decide))) rfl (getO_get hq10) rfl rfl rfl ?_
          exact TX.quiet 7 hu hi rfl
         refine TO.bin rfl (by decide) rfl rfl (bin_neq_36 q3 q4) (TO.nil (TX.next ?_))
         refine TC.condB rfl (fun hb9 => ?_) (fun hb9 => ?_)
         ·
          have h := condT hb9 h
          refine TC.seq (TC.region (TO.assign rfl (by decide) rfl (TO.nil (TX.next (TC.ret (TX.blockRet (TX.thenRet (TX.thenRet (TX.blockRet (TX.thenRet ?_))))))))))
          cases h
          exact TX.fin (rs := [.tmp 4]) () (.inl rfl) Try.results6 (.cons (.tmp rfl) .nil) rfl Splits.nil
         ·
          have h := condF hb9 h
          refine TC.skip (TX.blockNormal (TX.next (TC.region ?_)))
          obtain ⟨hg10, h⟩ := grdE h
          refine TO.bin rfl (by decide) rfl rfl (bin_add (r := x6 + 1) (IntWalk.i64_in _ hg10)) (TO.move rfl (by decide) rfl (TO.nil ?_))
          subst hag2
          exact TX.againD (n2, x6 + 1) h (Nat.lt_succ_self _) rfl (Sbs.cons rfl (Sbs.cons rfl (Sbs.cons rfl (Sbs.cons rfl (Sbs.cons rfl (Sbs.nil)))))) (Splits.of [0, 1] (by as_aux_lemma => kernel_rfl) rfl)
        ·
         have h := condF hb8 h
         refine TC.exit (TX.thenExit (TX.thenExit (TX.blockHere ?_)))
         exact TX.meetD () h rfl (Sbs.cons rfl (Sbs.cons rfl (Sbs.nil))) (Splits.of [0] (by as_aux_lemma => kernel_rfl) rfl)
      ·
       rintro _ h
       subst hj2
       show TC _ _ _ _ _ ([]) _ _ [(0, .string r2), (5, v1)] [vec enc_Gapi_Token 36 3 v1 r3]
       obtain ⟨j3, hj3, h⟩ := joinE h
       refine TC.cutN (β := Unit) 0 rfl (fun b => j3 = some r) (fun b => []) (fun b => []) (fun b => []) (fun cut => ?_) ?_
       ·
        refine cut (TC.seq (TC.region (TO.move rfl (by decide) rfl (TO.lenVec (k := 0) rfl (by decide) rfl rfl Try.underlying23 (TO.move rfl (by decide) rfl (TO.nil (TX.next (TC.block ?_))))))))
        refine TC.loopD (β := Nat × Int) (fun b => loopG (fun _ => none) (law07_WordEdges_s3 r2 r3 j3) b.1 b.2 = some r) (fun b => []) (fun b => [(0, .string r2), (103, v1), (104, .int .i64 (r3.length : Int)), (105, .int .i64 b.2)]) (fun b => [vec enc_Gapi_Token 36 3 v1 r3]) (fun b => b.1) (fuel, 0) h rfl (Sbs.cons rfl (Sbs.cons rfl (Sbs.cons rfl (Sbs.cons rfl (Sbs.nil))))) (Splits.of [0] (by as_aux_lemma => kernel_rfl) rfl) ?_
        rintro ⟨n3, x9⟩ h
        cases n3 with
        | zero => exact noneE h
        | succ n3 =>
         obtain ⟨ag3, hag3⟩ : ∃ ag, ag = loopG (fun _ => none) (law07_WordEdges_s3 r2 r3 j3) n3 := ⟨_, rfl⟩
         have h : law07_WordEdges_s3 r2 r3 j3 ag3 x9 = some r := by rw [hag3]; exact h
         unfold law07_WordEdges_s3 at h
         show TC _ _ _ _ _ ([]) _ _ [(0, .string r2), (103, v1), (104, .int .i64 (r3.length : Int)), (105, .int .i64 x9)] [vec enc_Gapi_Token 36 3 v1 r3]
         refine TC.seq (TC.region (TO.bin rfl (by decide) rfl rfl bin_lss (TO.nil (TX.next (TC.seq ?_)))))
         refine TC.condB rfl (fun hb10 => ?_) (fun hb10 => ?_)
         ·
          have h := condT hb10 h
          refine TC.skip (TX.next ?_)
          obtain ⟨j4, hj4, h⟩ := joinE h
          refine TC.cutN (β := Unit) 0 rfl (fun b => j4 = some r) (fun b => []) (fun b => [(0, .string r2), (103, v1), (104, .int .i64 (r3.length : Int)), (105, .int .i64 x9)]) (fun b => [vec enc_Gapi_Token 36 3 v1 r3]) (fun cut => ?_) ?_
          ·
           refine cut (TC.block ?_)
           obtain ⟨j5, hj5, h⟩ := joinE h
           refine TC.cutN (β := Unit) 1 rfl (fun b => j5 = some r) (fun b => []) (fun b => [(0, .string r2), (10, .int .i64 x9), (103, v1), (104, .int .i64 (r3.length : Int)), (105, .int .i64 x9)]) (fun b => [vec enc_Gapi_Token 36 3 v1 r3]) (fun cut => ?_) ?_
           ·
            refine TC.seq (TC.region (TO.move rfl (by decide) rfl ?_))
            obtain ⟨q5, hq11, h⟩ := andE h
            refine TO.indexVecI (k := 0) hq11 Try.underlying23 sz_36 rfl (by decide) rfl rfl rfl rfl (TO.loadsVec (i := (x9 : Int).toNat) (j := 0) (k := 0) (q := q5) (cs := [.int .i64 q5.Kind, .int .i64 q5.Span_From, .int .i64 q5.Span_To]) rw_36 enc_Gapi_Token_len rfl (by decide) rfl rfl (getO_get hq11) rfl rfl rfl ?_)
            refine TO.alloc zr_36 rfl (by decide) (fun b3 => ?_)
            refine TO.assign rfl (by decide) rfl (TO.stores (k := 1) (vs := [.int .i64 q5.Kind, .int .i64 q5.Span_From, .int .i64 q5.Span_To]) (l' := [.int .i64 q5.Kind, .int .i64 q5.Span_From, .int .i64 q5.Span_To]) sz_36 rfl rfl rfl rfl rfl (show _ ≤ _ by simp) rfl rfl ?_)
            show TO _ _ _ _ _ _ _ _ _ _ [vec enc_Gapi_Token 36 3 v1 r3, cells b3 [.int .i64 q5.Kind, .int .i64 q5.Span_From, .int .i64 q5.Span_To] 36]
            refine TO.nil (TX.next (cut (TC.seq (TC.region (TO.fieldAddr fl_36_1 rfl (by decide) rfl (show _ = 1 from rfl) (TO.fieldAddr fl_34_0 rfl (by decide) rfl (show _ = 1 from rfl) (TO.load (k := 1) sc_3 rfl (by decide) rfl rfl rfl ?_)))))))
            obtain ⟨hg11, h⟩ := grdE h
            refine TO.bin rfl (by decide) rfl rfl (bin_add (r := q5.Span_From + 1) (IntWalk.i64_in _ hg11)) (TO.assign rfl (by decide) rfl (TO.nil (TX.next (TC.block ?_))))
            refine TC.loopD (β := Nat × Int) (fun b => loopG (fun _ => none) (law07_WordEdges_s4 r2 j5 q5) b.1 b.2 = some r) (fun b => []) (fun b => [(0, .string r2), (10, .int .i64 x9), (11, .pointer (some ⟨b3, 0, none⟩)), (12, .int .i64 b.2), (103, v1), (104, .int .i64 (r3.length : Int)), (105, .int .i64 x9)]) (fun b => [cells b3 [.int .i64 q5.Kind, .int .i64 q5.Span_From, .int .i64 q5.Span_To] 36, vec enc_Gapi_Token 36 3 v1 r3]) (fun b => b.1) (fuel, q5.Span_From + 1) h rfl (Sbs.cons rfl (Sbs.cons rfl (Sbs.cons rfl (Sbs.cons rfl (Sbs.cons rfl (Sbs.cons rfl (Sbs.cons rfl (Sbs.nil)))))))) (Splits.of [1, 0] (by as_aux_lemma => kernel_rfl) rfl) ?_
            rintro ⟨n4, k3⟩ h
            cases n4 with
            | zero => exact noneE h
            | succ n4 =>
             obtain ⟨ag4, hag4⟩ : ∃ ag, ag = loopG (fun _ => none) (law07_WordEdges_s4 r2 j5 q5) n4 := ⟨_, rfl⟩
             have h : law07_WordEdges_s4 r2 j5 q5 ag4 k3 = some r := by rw [hag4]; exact h
             unfold law07_WordEdges_s4 at h
             show TC _ _ _ _ _ ([]) _ _ [(0, .string r2), (10, .int .i64 x9), (11, .pointer (some ⟨b3, 0, none⟩)), (12, .int .i64 k3), (103, v1), (104, .int .i64 (r3.length : Int)), (105, .int .i64 x9)] [cells b3 [.int .i64 q5.Kind, .int .i64 q5.Span_From, .int .i64 q5.Span_To] 36, vec enc_Gapi_Token 36 3 v1 r3]
             refine TC.seq (TC.seq (TC.region (TO.move rfl (by decide) rfl (TO.fieldAddr fl_36_1 rfl (by decide) rfl (show _ = 1 from rfl) (TO.fieldAddr fl_34_1 rfl (by decide) rfl (show _ = 2 from rfl) (TO.load (k := 0) sc_3 rfl (by decide) rfl rfl rfl (TO.bin rfl (by decide) rfl rfl bin_lss (TO.nil (TX.next ?_)))))))))
             refine TC.condB rfl (fun hb11 => ?_) (fun hb11 => ?_)
             ·
              have h := condT hb11 h
              refine TC.skip (TX.next (TC.seq (TC.block (TC.seq (TC.region (TO.move rfl (by decide) rfl (TO.move rfl (by decide) rfl ?_)))))))
              obtain ⟨hg12, h⟩ := grdE h
              refine TO.callP (v := .tuple #[.agg #[.int .i64 ((atG (tokAt (tksOf r2) k3)).1.Kind), .int .i64 ((atG (tokAt (tksOf r2) k3)).1.Span_From), .int .i64 ((atG (tokAt (tksOf r2) k3)).1.Span_To)], .int .i64 ((atG (tokAt (tksOf r2) k3)).2)]) (vs := [.string r2, .int .i64 k3]) rfl (by decide) rfl rfl rfl en_27 (wat_c r2 hg12 k3) (TO.move rfl (by decide) rfl (TO.extract rfl (by decide) rfl rfl (TO.extract rfl (by decide) rfl rfl ?_)))
              refine TO.alloc zr_36 rfl (by decide) (fun b4 => ?_)
              refine TO.stores (k := 2) (vs := [.int .i64 ((atG (tokAt (tksOf r2) k3)).1.Kind), .int .i64 ((atG (tokAt (tksOf r2) k3)).1.Span_From), .int .i64 ((atG (tokAt (tksOf r2) k3)).1.Span_To)]) (l' := [.int .i64 ((atG (tokAt (tksOf r2) k3)).1.Kind), .int .i64 ((atG (tokAt (tksOf r2) k3)).1.Span_From), .int .i64 ((atG (tokAt (tksOf r2) k3)).1.Span_To)]) sz_36 rfl rfl rfl rfl rfl (show _ ≤ _ by simp) rfl rfl ?_
              show TO _ _ _ _ _ _ _ _ _ _ [cells b3 [.int .i64 q5.Kind, .int .i64 q5.Span_From, .int .i64 q5.Span_To] 36, vec enc_Gapi_Token 36 3 v1 r3, cells b4 [.int .i64 ((atG (tokAt (tksOf r2) k3)).1.Kind), .int .i64 ((atG (tokAt (tksOf r2) k3)).1.Span_From), .int .i64 ((atG (tokAt (tksOf r2) k3)).1.Span_To)] 36]
              refine TO.assign rfl (by decide) rfl (TO.nil (TX.next (TC.seq (TC.region (TO.move rfl (by decide) rfl (TO.move rfl (by decide) rfl ?_))))))
              obtain ⟨hg13, h⟩ := grdE h
              refine TO.callP (v := .bool (edge (tksOf r2) k3)) (vs := [.string r2, .int .i64 k3]) rfl (by decide) rfl rfl rfl en_26 (wedge_c r2 hg13 k3) (TO.move rfl (by decide) rfl ?_)
              refine TO.split (s := 130) rfl (fun hb12 => ?_) (fun hb12 => ?_)
              ·
               have h := condT hb12 h
               refine TO.skip rfl (by decide) (TO.skip rfl (by decide) (TO.pick (b := true) rfl (by decide) rfl rfl (TO.move rfl (by decide) rfl (TO.skip rfl (by decide) (TO.skip rfl (by decide) (TO.skip rfl (by decide) (TO.pick (b := true) rfl (by decide) rfl rfl (TO.nil (TX.next (TC.condT rfl (TC.seq (TC.region (TO.assign rfl (by decide) rfl ?_)))))))))))))
               refine TO.nil (TX.next (TC.ret (TX.blockRet (TX.thenRet (TX.thenRet (TX.blockRet (TX.thenRet (TX.blockRet (TX.thenRet (TX.thenRet (TX.blockRet (TX.thenRet ?_))))))))))))
               cases h
               exact TX.fin (rs := [.tmp 4]) () (.inl rfl) Try.results6 (.cons (.tmp rfl) .nil) rfl Splits.nil
              ·
               have h := condF hb12 h
               refine TO.move rfl (by decide) rfl (TO.bin rfl (by decide) rfl rfl bin_neq (TO.pick (b := false) rfl (by decide) rfl rfl (TO.move rfl (by decide) rfl ?_)))
               refine TO.split (s := 134) rfl (fun hb13 => ?_) (fun hb13 => ?_)
               ·
                have h := condT hb13 h
                refine TO.skip rfl (by decide) (TO.skip rfl (by decide) (TO.skip rfl (by decide) (TO.pick (b := true) rfl (by decide) rfl rfl (TO.nil (TX.next (TC.condT rfl (TC.seq (TC.region (TO.assign rfl (by decide) rfl (TO.nil (TX.next (TC.ret (TX.blockRet ?_)))))))))))))
                refine TX.thenRet (TX.thenRet (TX.blockRet (TX.thenRet (TX.blockRet (TX.thenRet (TX.thenRet (TX.blockRet (TX.thenRet ?_))))))))
                cases h
                exact TX.fin (rs := [.tmp 4]) () (.inl rfl) Try.results6 (.cons (.tmp rfl) .nil) rfl Splits.nil
               ·
                have h := condF hb13 h
                refine TO.loads (k := 2) (cs := [.int .i64 ((atG (tokAt (tksOf r2) k3)).1.Kind), .int .i64 ((atG (tokAt (tksOf r2) k3)).1.Span_From), .int .i64 ((atG (tokAt (tksOf r2) k3)).1.Span_To)]) rw_36 rfl (by decide) rfl rfl rfl rfl (TO.loads (k := 0) (cs := [.int .i64 q5.Kind, .int .i64 q5.Span_From, .int .i64 q5.Span_To]) rw_36 rfl (by decide) rfl rfl rfl rfl (TO.bin rfl (by decide) rfl rfl (bin_neq_36 ((atG (tokAt (tksOf r2) k3)).1) q5) (TO.pick (b := false) rfl (by decide) rfl rfl (TO.nil (TX.next ?_)))))
                refine TC.condB rfl (fun hb14 => ?_) (fun hb14 => ?_)
                ·
                 have h := condT hb14 h
                 refine TC.seq (TC.region (TO.assign rfl (by decide) rfl (TO.nil (TX.next (TC.ret (TX.blockRet (TX.thenRet (TX.thenRet (TX.blockRet (TX.thenRet (TX.blockRet (TX.thenRet (TX.thenRet ?_)))))))))))))
                 refine TX.blockRet (TX.thenRet ?_)
                 cases h
                 exact TX.fin (rs := [.tmp 4]) () (.inl rfl) Try.results6 (.cons (.tmp rfl) .nil) rfl Splits.nil
                ·
                 have h := condF hb14 h
                 refine TC.skip (TX.blockNormal (TX.next (TC.region (TO.move rfl (by decide) rfl ?_))))
                 obtain ⟨hg14, h⟩ := grdE h
                 refine TO.bin rfl (by decide) rfl rfl (bin_add (r := k3 + 1) (IntWalk.i64_in _ hg14)) (TO.assign rfl (by decide) rfl (TO.nil ?_))
                 subst hag4
                 exact TX.againD (n4, k3 + 1) h (Nat.lt_succ_self _) rfl (Sbs.cons rfl (Sbs.cons rfl (Sbs.cons rfl (Sbs.cons rfl (Sbs.cons rfl (Sbs.cons rfl (Sbs.cons rfl (Sbs.nil)))))))) (Splits.of [0, 1] (by as_aux_lemma => kernel_rfl) rfl)
             ·
              have h := condF hb11 h
              refine TC.exit (TX.thenExit (TX.thenExit (TX.blockHere ?_)))
              exact TX.meetD () h rfl (Sbs.cons rfl (Sbs.cons rfl (Sbs.cons rfl (Sbs.cons rfl (Sbs.cons rfl (Sbs.nil)))))) (Splits.of [1] (by as_aux_lemma => kernel_rfl) rfl)
           ·
            rintro _ h
            subst hj5
            show TC _ _ _ _ _ ([]) _ _ [(0, .string r2), (10, .int .i64 x9), (103, v1), (104, .int .i64 (r3.length : Int)), (105, .int .i64 x9)] [vec enc_Gapi_Token 36 3 v1 r3]
            refine TC.seq (TC.region (TO.move rfl (by decide) rfl (TO.bin rfl (by decide) rfl rfl bin_gtr (TO.nil (TX.next ?_)))))
            refine TC.condB rfl (fun hb15 => ?_) (fun hb15 => ?_)
            ·
             have h := condT hb15 h
             refine TC.exit (TX.blockOn (by decide) (TX.thenExit (TX.thenExit (TX.blockHere ?_))))
             exact TX.meetD () h rfl (Sbs.nil) Splits.nil
            ·
             have h := condF hb15 h
             refine TC.skip (TX.blockNormal ?_)
             exact TX.meetD () h rfl (Sbs.cons rfl (Sbs.cons rfl (Sbs.cons rfl (Sbs.cons rfl (Sbs.nil))))) (Splits.of [0] (by as_aux_lemma => kernel_rfl) rfl)
          ·
           rintro _ h
           subst hj4
           show TC _ _ _ _ _ ([]) _ _ [(0, .string r2), (103, v1), (104, .int .i64 (r3.length : Int)), (105, .int .i64 x9)] [vec enc_Gapi_Token 36 3 v1 r3]
           refine TC.region ?_
           obtain ⟨hg15, h⟩ := grdE h
           refine TO.bin rfl (by decide) rfl rfl (bin_add (r := x9 + 1) (IntWalk.i64_in _ hg15)) (TO.move rfl (by decide) rfl (TO.nil ?_))
           subst hag3
           exact TX.againD (n3, x9 + 1) h (Nat.lt_succ_self _) rfl (Sbs.cons rfl (Sbs.cons rfl (Sbs.cons rfl (Sbs.cons rfl (Sbs.nil))))) (Splits.of [0] (by as_aux_lemma => kernel_rfl) rfl)
         ·
          have h := condF hb10 h
          refine TC.exit (TX.thenExit (TX.thenExit (TX.blockHere ?_)))
          exact TX.meetD () h rfl (Sbs.nil) Splits.nil
       ·
        rintro _ h
        subst hj3
        show TC _ _ _ _ _ ([]) _ _ [] []
        refine TC.seq (TC.region ?_)
        obtain ⟨r7, hq12, h⟩ := andE h
        refine TO.callP (v := .bool r7) (vs := []) rfl (by decide) rfl rfl rfl en_12 (law07_wakes_fn hq12) (TO.assign rfl (by decide) rfl (TO.nil (TX.next (TC.ret ?_))))
        cases h
        exact TX.fin (rs := [.tmp 4]) () (.inl rfl) Try.results6 (.cons (.tmp rfl) .nil) rfl Splits.nil
end Go.Proofs.Ytgeefojgkbglnaa
namespace Go.Proofs.Ytgeefojgkbglnaa
open Go.RowKit Go.Lib
set_option linter.unusedVariables false
set_option linter.unusedSimpArgs false
theorem loop_same {R : Type} {x : Option R} {bot : Int → Option R} {step : (Int → Option R) → Int → Option R} (lo N : Nat) (hs : ∀ (ag : Int → Option R) (k : Nat), lo ≤ k → k < N → ag ((k + 1 : Nat) : Int) = x → step ag (k : Int) = x) (he : ∀ ag, step ag (N : Int) = x) :
    ∀ (n a : Nat), lo ≤ a → a ≤ N → N - a < n → loopG bot step n (a : Int) = x := by
  intro n
  induction n with
  | zero => intro a _ _ h; omega
  | succ n ih =>
    intro a hlo ha h
    rw [loopS]
    by_cases h1 : a < N
    · exact hs _ a hlo h1 (ih (a + 1) (by omega) (by omega) (by omega))
    · rw [show a = N by omega]; exact he _
theorem ch_in : ∀ {l : List Tk} {a b : Nat}, Ch Tk.f Tk.t a l b → ∀ x ∈ l, ∀ n : Nat, x.f < n → n < x.t → edge l (n : Int) = false ∧ l.find? (fun p => decide ((n : Int) < (p.t : Int))) = some x
  | [], _, _, _, x, hx, _, _, _ => by cases hx
  | y :: l, a, b, h, x, hx, n, h1, h2 => by
    have hm := h.2.2.mem
    have hy := h.2.1
    rcases List.mem_cons.1 hx with rfl | hx
    · refine ⟨?_, ?_⟩
      · unfold edge
        refine List.any_eq_false.2 (fun z hz => ?_)
        rcases List.mem_cons.1 hz with rfl | hz
        · simp; omega
        · have := hm z hz; simp; omega
      · rw [List.find?_cons, decide_eq_true (by omega)]
    · have hx2 := hm x hx
      obtain ⟨i1, i2⟩ := ch_in h.2.2 x hx n h1 h2
      refine ⟨?_, ?_⟩
      · unfold edge at i1 ⊢
        rw [List.any_cons, i1, Bool.or_false]
        simp; omega
      · rw [List.find?_cons, decide_eq_false (by omega)]; exact i2
theorem wrap_idx (a : Int) (n : Nat) (h : 0 < n) (hn : n ≤ 1000000000) : ∃ k : Nat, k < n ∧ IntKind.i64.wrap (Int.tmod (IntKind.u64.wrap a) (IntKind.u64.wrap (n : Int))) = (k : Int) := by
  rw [u64w (n : Int) (by omega)]
  have h0 : 0 ≤ IntKind.u64.wrap a := by
    have e : IntKind.u64.wrap a = a % 18446744073709551616 := by
      unfold IntKind.wrap; simp [IntKind.bits, IntKind.signed]
    rw [e]; omega
  rw [Int.tmod_eq_emod_of_nonneg h0]
  have h1 := Int.emod_nonneg (IntKind.u64.wrap a) (b := (n : Int)) (by omega)
  have h2 := Int.emod_lt_of_pos (IntKind.u64.wrap a) (b := (n : Int)) (by omega)
  refine ⟨(IntKind.u64.wrap a % (n : Int)).toNat, by omega, ?_⟩
  rw [IntWalk.i64_in _ (by omega)]; omega
theorem edges_app (q1 : Gapi_Token) (J : List Gapi_Token → Option Bool) (r6 : List Gapi_Token) (hr : ∀ x ∈ r6, 0 ≤ x.Span_From ∧ x.Span_From ≤ 10000 ∧ 0 ≤ x.Span_To ∧ x.Span_To ≤ 10000) (hq : 0 ≤ q1.Span_To ∧ q1.Span_To ≤ 10000) (r5 : List Gapi_Token) (h6 : r5.length + r6.length ≤ 1000000) {n : Nat} (hn : r6.length < n) :
    loopG (fun _ _ => none) (law07_WordEdges_s1 q1 J r6) n r5 0 = J (r5 ++ r6.map fun x => ⟨x.Kind, x.Span_From + q1.Span_To, x.Span_To + q1.Span_To⟩) := by
  refine loop_to1 r6.length (fun k => r5 ++ (r6.take k).map fun x => ⟨x.Kind, x.Span_From + q1.Span_To, x.Span_To + q1.Span_To⟩) (fun ag k hk => ?_) (fun ag => ?_) (by simp) hn
  · unfold law07_WordEdges_s1
    have hx := hr _ (List.getElem_mem hk)
    refine condTI (decide_eq_true (by omega)) (thenI (getO_nat (List.getElem?_eq_getElem hk)) (grdI ⟨by omega, by omega⟩ (grdI ⟨by omega, by omega⟩ (grdI (by simp; omega) (grdI ⟨by omega, by omega⟩ ?_)))))
    rw [List.take_add_one, List.getElem?_eq_getElem hk, List.map_append, ← List.append_assoc]
    rfl
  · unfold law07_WordEdges_s1
    refine condFI (decide_eq_false (by omega)) ?_
    rw [List.take_length]
theorem edges_law (s : ByteArray) (a : Int) : law07_WordEdges_v s a = some true := by
  unfold law07_WordEdges_v
  obtain ⟨t, ht, hs⟩ := cut_v s
  have hl := tks_len t
  refine thenI wakes_v (condFI rfl (thenI ht (thenI (tokens_v t (by omega)) ?_)))
  have hch := tks_ch t
  by_cases h0 : (tksOf t).length = 0
  · have h00 : tksOf t = [] := List.length_eq_zero_iff.1 h0
    have hz : t.size = 0 := by rw [h00] at hch; exact hch.symm
    refine condTI (by rw [List.length_map, h0]; rfl) (condTI (by rw [hz]; rfl) (grdI (by omega) (condTI (by rw [h00]; rfl) wakesK)))
  · obtain ⟨k, hk, hidx⟩ := wrap_idx a (tksOf t).length (by omega) (by omega)
    obtain ⟨A, x, B, hG, hA, hq, hd, hg, h5, hg2, hnx⟩ := tks_mid t k hk
    have hm := hch.mem _ (List.mem_of_getElem? hq)
    simp only at hm
    have hc1 : (flat (cont A)).length = tot A := tot_len A
    have hc2 : (flat (cont [x])).length = tl x := by rw [tot_len, tot_one]
    have hG2 : G (toks t.data.toList) = (A ++ [x]) ++ B := by rw [hG]; simp
    obtain ⟨g1, g2, g3⟩ := G_split _ _ _ hG2
    have e1 : tksOf (cutB t 0 ((tot A + tl x : Nat) : Int)) = posT 0 (A ++ [x]) := by
      refine tks_of _ _ ?_ (good_take hg) g1
      refine cutB_app (x := []) (z := flat (cont B)) (by rw [hd, cont_append, flat_append]; simp) rfl ?_
      rw [cont_append, flat_append, List.length_append, hc1, hc2]; simp
    have hsz : (flat (cont A)).length + ((flat (cont [x])).length + (flat (cont B)).length) = t.size := by
      have := congrArg List.length hd
      simp only [List.length_append] at this
      rw [← this]; simp
    have e2 : tksOf (cutB t ((tot A + tl x : Nat) : Int) (t.size : Int)) = posT 0 B := by
      refine tks_of _ _ ?_ (good_drop hg) g2
      refine cutB_app (x := flat (cont A) ++ flat (cont [x])) (z := []) ?_ ?_ ?_
      · rw [hd]; simp
      · rw [List.length_append, hc1, hc2]
      · rw [List.length_append]; omega
    have e3 : tksOf t = posT 0 (A ++ [x]) ++ (posT 0 B).map fun y => ⟨y.k, y.f + (tot A + tl x), y.t + (tot A + tl x)⟩ := by
      rw [tks_pos, hG2, posT_append, ← posT_shift, tot_append, tot_one, Nat.zero_add]
    refine condFI (by rw [List.length_map, beq_eq_false_iff_ne]; omega) (grdI (by rw [List.length_map, u64w _ (by omega)]; omega) (thenI (a := ⟨x.1, tot A, (tot A + tl x : Nat)⟩) (by rw [List.length_map, hidx]; exact getO_nat (by rw [List.getElem?_map, hq]; rfl)) (grdI (by omega) ?_)))
    simp only
    have hedge : edge (tksOf t) ((tot A + tl x : Nat) : Int) = true := by
      unfold edge
      exact List.any_eq_true.2 ⟨_, List.mem_of_getElem? hq, by simp⟩
    have z1 : (cutB t 0 ((tot A + tl x : Nat) : Int)).size ≤ 1000000000 := by unfold cutB; rw [ByteArray.size_extract]; omega
    have z2 : (cutB t ((tot A + tl x : Nat) : Int) (t.size : Int)).size ≤ 1000000000 := by unfold cutB; rw [ByteArray.size_extract]; omega
    refine condFI (by rw [hedge]; rfl) (joinI (grdI ⟨by omega, by omega, by omega⟩ (thenI (tokens_v _ z1) (grdI ⟨by omega, by omega, by omega⟩ (thenI (tokens_v _ z2) ?_)))))
    rw [e1, e2]
    have hB : ∀ y ∈ posT 0 B, y.f ≤ 2048 ∧ y.t ≤ 2048 := fun y hy => by
      have := hch.mem ⟨y.k, y.f + (tot A + tl x), y.t + (tot A + tl x)⟩ (by rw [e3]; exact List.mem_append_right _ (List.mem_map.2 ⟨y, hy, rfl⟩))
      simp only at this; omega
    have hlen := congrArg List.length e3
    rw [List.length_append, List.length_map] at hlen
    rw [edges_app _ _ _ (fun y hy => by
      obtain ⟨z, hz, rfl⟩ := List.mem_map.1 hy
      have := hB z hz
      simp only [tkG]; omega) ⟨by simp only; omega, by simp only; omega⟩ _ (by simp only [List.length_map]; omega) (by rw [List.length_map]; unfold fuel; omega)]
    have e4 : (posT 0 (A ++ [x])).map tkG ++ ((posT 0 B).map tkG).map (fun y : Gapi_Token => (⟨y.Kind, y.Span_From + ((tot A + tl x : Nat) : Int), y.Span_To + ((tot A + tl x : Nat) : Int)⟩ : Gapi_Token)) = (tksOf t).map tkG := by
      rw [e3, List.map_append, List.map_map, List.map_map]
      congr 1
    simp only
    rw [e4]
    refine condFI (bne_same rfl) (joinI ?_)
    have hlm : ((tksOf t).map tkG).length = (tksOf t).length := List.length_map _
    refine (loop_same 0 (tksOf t).length (fun ag k _ hk h => ?_) (fun ag => ?_) fuel 0 (by omega) (by omega) (by unfold fuel; omega))
    · unfold law07_WordEdges_s2
      have hgt : getO ((tksOf t).map tkG) (k : Int) = some (tkG (tksOf t)[k]) := getO_nat (by rw [List.getElem?_map, List.getElem?_eq_getElem hk]; rfl)
      exact condTI (decide_eq_true (by omega)) (thenI hgt (thenI hgt (condFI (eqr_tok _) (grdI ⟨by omega, by omega⟩ h))))
    · unfold law07_WordEdges_s2
      refine condFI (decide_eq_false (by omega)) (joinI ?_)
      refine (loop_same 0 (tksOf t).length (fun ag k _ hk h => ?_) (fun ag => ?_) fuel 0 (by omega) (by omega) (by unfold fuel; omega))
      · unfold law07_WordEdges_s3
        have hgt : getO ((tksOf t).map tkG) (k : Int) = some (tkG (tksOf t)[k]) := getO_nat (by rw [List.getElem?_map, List.getElem?_eq_getElem hk]; rfl)
        have hmem : (tksOf t)[k] ∈ tksOf t := List.getElem_mem hk
        have hm2 := hch.mem _ hmem
        generalize (tksOf t)[k] = y at hgt hmem hm2
        refine condTI (decide_eq_true (by omega)) (joinI (joinI (thenI hgt (grdI ⟨by simp only [tkG]; omega, by simp only [tkG]; omega⟩ ?_))))
        refine (loop_same (y.f + 1) y.t (fun ag2 n hlo hn h2 => ?_) (fun ag2 => ?_) fuel (y.f + 1) (by omega) (by omega) (by unfold fuel; omega))
        · obtain ⟨i1, i2⟩ := ch_in hch y hmem n (by omega) hn
          unfold law07_WordEdges_s4
          have i3 : atG (tokAt (tksOf t) (n : Int)) = (tkG y, 0) := by
            unfold tokAt; rw [if_neg (by omega), i2]; rfl
          refine condTI (decide_eq_true (by simp only [tkG]; omega)) (grdI (by omega) (grdI (by omega) (condFI i1 ?_)))
          rw [i3]
          exact condFI rfl (condFI (eqr_tok _) (grdI ⟨by omega, by omega⟩ h2))
        · unfold law07_WordEdges_s4
          refine condFI (decide_eq_false (by simp only [tkG]; omega)) ?_
          by_cases h100 : 100 < k
          · exact condTI (decide_eq_true (by omega)) wakesK
          · exact condFI (decide_eq_false (by omega)) (grdI ⟨by omega, by omega⟩ h)
      · unfold law07_WordEdges_s3
        exact condFI (decide_eq_false (by omega)) wakesK
theorem wordEdges_any (s : ByteArray) (a : Int) (w : World) (h0 : s.size ≤ 140737488351232) (h1 : -9223372036854775808 ≤ a) (h2 : a ≤ 9223372036854775807) : Calls Try.prog 6 #[.string s, .int .i64 a] w fun e w' => e = .returned (.bool true) ∧ Below w.heap.size w w' := law07_WordEdges_fn (edges_law s a) w
end Go.Proofs.Ytgeefojgkbglnaa
