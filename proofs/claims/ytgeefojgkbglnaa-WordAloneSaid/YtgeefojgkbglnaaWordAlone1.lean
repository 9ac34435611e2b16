/-
  Texts laid together: LfR, Gt, Gu, PlR, Gv, Gw, LfD, PlH, LfWordAlone, PlWordAlone. Nothing is assumed.
-/
import Derived.Test.YtgeefojgkbglnaaWc2
import Derived.Test.YtgeefojgkbglnaaWc4
import Derived.Test.YtgeefojgkbglnaaWc5
import Derived.Test.YtgeefojgkbglnaaWc3
namespace Go.Proofs.Ytgeefojgkbglnaa
open Go.RowKit Go.Lib
set_option linter.unusedVariables false
set_option linter.unusedSimpArgs false
def runes_Width_v (r1 : Int) : Option Int := joinK (fun (j1 : Option Int) => bcond ((r1 : Int) != 65533) ( bcond (decide (Utf8.encode r1 = (⟨#[239, 191, 189]⟩ : ByteArray))) ( some 0
) ( j1
)
) ( j1
)
) ( some ((Utf8.encode r1).size : Int)
)
set_option maxRecDepth 100000 in
set_option maxHeartbeats 4000000 in
theorem runes_Width_fn {r1 : Int} {r : Int} (h : runes_Width_v r1 = some r) : FnP Try.prog 80 [.int .i32 r1] (.int .i64 r) := by
 unfold runes_Width_v at h
 refine FnP.intro Try.func80 rfl Try.ntmps80 (by simp) ?_
 intro w0 K
 obtain ⟨j1, hj1, h⟩ := joinE h
 refine TC.cutN (β := Unit) 1 rfl (fun b => j1 = some r) (fun b => []) (fun b => [(0, .int .i32 r1)]) (fun b => []) (fun cut => ?_) ?_
 ·
  refine TC.seq (TC.region (TO.assign rfl (by decide) rfl (TO.nil (TX.next (cut (TC.seq (TC.region (TO.move rfl (by decide) rfl (TO.bin rfl (by decide) rfl rfl bin_neq (TO.move rfl (by decide) rfl ?_))))))))))
  refine TO.split (s := 5) rfl (fun hb1 => ?_) (fun hb1 => ?_)
  ·
   have h := condT hb1 h
   refine TO.move rfl (by decide) rfl (TO.conv rfl (by decide) rfl (conv_rune Try.underlying21 Try.underlying9) (TO.bin rfl (by decide) rfl rfl bin_seql (TO.pick (b := true) rfl (by decide) rfl rfl (TO.nil (TX.next ?_)))))
   refine TC.condB rfl (fun hb2 => ?_) (fun hb2 => ?_)
   ·
    have h := condT hb2 h
    refine TC.seq (TC.region (TO.assign rfl (by decide) rfl (TO.nil (TX.next (TC.ret (TX.thenRet ?_))))))
    cases h
    exact TX.fin (rs := [.tmp 2]) () (.inl rfl) Try.results80 (.cons (.tmp rfl) .nil) rfl Splits.nil
   ·
    have h := condF hb2 h
    refine TC.skip ?_
    exact TX.meetD () h rfl (Sbs.cons rfl (Sbs.nil)) Splits.nil
  ·
   have h := condF hb1 h
   refine TO.skip rfl (by decide) (TO.skip rfl (by decide) (TO.skip rfl (by decide) (TO.pick (b := false) rfl (by decide) rfl rfl (TO.nil (TX.next (TC.condF rfl (TC.skip ?_)))))))
   exact TX.meetD () h rfl (Sbs.cons rfl (Sbs.nil)) Splits.nil
 ·
  rintro _ h
  subst hj1
  show TC _ _ _ _ _ ([]) _ _ [(0, .int .i32 r1)] []
  refine TC.seq (TC.region (TO.move rfl (by decide) rfl (TO.conv rfl (by decide) rfl (conv_rune Try.underlying21 Try.underlying9) (TO.lenStr rfl (by decide) rfl Try.underlying9 (TO.assign rfl (by decide) rfl (TO.nil (TX.next (TC.ret ?_))))))))
  cases h
  exact TX.fin (rs := [.tmp 2]) () (.inl rfl) Try.results80 (.cons (.tmp rfl) .nil) rfl Splits.nil
def runes_read_s1 (s1 : ByteArray) (at1 : Int) (j1 : Option Gapi_Piece) (ag1 : Option Gapi_Piece) : Option Gapi_Piece := bcond (decide (0 < (pcs (cutB s1 at1 (s1.size : Int)).data.toList).length)) ( andThen ((pcs (cutB s1 at1 (s1.size : Int)).data.toList)[0]?) fun (p1 : Pc) => joinK (fun (j2 : Int → Option Gapi_Piece) => andThen (runes_Width_v (p1.r : Int)) fun (r1 : Int) => bcond (((p1.r : Int) : Int) == 65533) ( grd (I64 ((s1.size : Int) - at1)) <| bcond (decide ((((s1.size : Int) - at1) : Int) < 3)) ( some (⟨at1, 1, 65533, true⟩ : Gapi_Piece)
) ( grd (I64 (at1 + 3)) <| grd (0 ≤ (at1 : Int) ∧ (at1 : Int) ≤ (at1 + 3) ∧ (at1 + 3 : Int) ≤ (s1.size : Int)) <| bcond (!decide (cutB s1 at1 (at1 + 3) = (⟨#[239, 191, 189]⟩ : ByteArray))) ( some (⟨at1, 1, 65533, true⟩ : Gapi_Piece)
) ( j2 r1
)
)
) ( j2 r1
)
) (fun (n2 : Int) => some (⟨at1, n2, (p1.r : Int), false⟩ : Gapi_Piece)
)
) ( j1
)
def runes_read_v (s1 : ByteArray) (at1 : Int) : Option Gapi_Piece := joinK (fun (j1 : Option Gapi_Piece) => grd (0 ≤ (at1 : Int) ∧ (at1 : Int) ≤ (s1.size : Int) ∧ ((s1.size : Int) : Int) ≤ (s1.size : Int)) <| loopG none (runes_read_s1 s1 at1 j1) fuel
) ( some (⟨0, 0, 0, false⟩ : Gapi_Piece)
)
set_option maxRecDepth 100000 in
set_option maxHeartbeats 4000000 in
theorem runes_read_fn {s1 : ByteArray} {at1 : Int} {r : Gapi_Piece} (h : runes_read_v s1 at1 = some r) : FnP Try.prog 68 [.string s1, .int .i64 at1] (.agg #[.int .i64 r.At, .int .i64 r.Width, .int .i32 r.Rune, .bool r.Broken]) := by
 unfold runes_read_v at h
 refine FnP.intro Try.func68 rfl Try.ntmps68 (by simp) ?_
 intro w0 K
 obtain ⟨j1, hj1, h⟩ := joinE h
 refine TC.cutN (β := Nat) 1 rfl (fun b => j1 = some r) (fun b => []) (fun b => [(4, .pointer (some ⟨b, 0, none⟩))]) (fun b => [cells b [.int .i64 0, .int .i64 0, .int .i32 0, .bool false] 78]) (fun cut => ?_) ?_
 ·
  refine TC.seq (TC.region ?_)
  refine TO.alloc zr_78 rfl (by decide) (fun b2 => ?_)
  refine TO.nil (TX.next (cut (TC.seq (TC.region (TO.move rfl (by decide) rfl (TO.move rfl (by decide) rfl ?_))))))
  obtain ⟨hg1, h⟩ := grdE h
  refine TO.slice rfl (by decide) rfl rfl rfl (slice_stringI (i := at1) (j := (s1.size : Int)) Try.underlying9 (.inr rfl) (.inl ⟨rfl, rfl⟩) hg1) ?_
  refine TO.rangeStr Try.underlying9 rfl (by decide) rfl (fun b3 => ?_)
  show TO _ _ _ _ _ _ _ _ _ _ [cells b2 [.int .i64 0, .int .i64 0, .int .i32 0, .bool false] 78, obj b3 (.stringIter (cutB s1 at1 (s1.size : Int)) (posAt (cutB s1 at1 (s1.size : Int)) 0))]
  refine TO.nil (TX.next (TC.block ?_))
  refine TC.loopD (β := Nat) (fun b => loopG none (runes_read_s1 s1 at1 j1) b = some r) (fun b => []) (fun b => [(0, .string s1), (1, .int .i64 at1), (4, .pointer (some ⟨b2, 0, none⟩)), (11, .pointer (some ⟨b3, 0, none⟩))]) (fun b => [cells b2 [.int .i64 0, .int .i64 0, .int .i32 0, .bool false] 78, obj b3 (.stringIter (cutB s1 at1 (s1.size : Int)) (posAt (cutB s1 at1 (s1.size : Int)) 0))]) (fun b => b) fuel h rfl (Sbs.cons rfl (Sbs.cons rfl (Sbs.cons rfl (Sbs.cons rfl (Sbs.nil))))) (Splits.of [0, 1] (by as_aux_lemma => kernel_rfl) rfl) ?_
  rintro n1 h
  cases n1 with
  | zero => exact noneE h
  | succ n1 =>
   obtain ⟨ag1, hag1⟩ : ∃ ag, ag = loopG none (runes_read_s1 s1 at1 j1) n1 := ⟨_, rfl⟩
   have h : runes_read_s1 s1 at1 j1 ag1 = some r := by rw [hag1]; exact h
   unfold runes_read_s1 at h
   show TC _ _ _ _ _ ([]) _ _ [(0, .string s1), (1, .int .i64 at1), (4, .pointer (some ⟨b2, 0, none⟩)), (11, .pointer (some ⟨b3, 0, none⟩))] [cells b2 [.int .i64 0, .int .i64 0, .int .i32 0, .bool false] 78, obj b3 (.stringIter (cutB s1 at1 (s1.size : Int)) (posAt (cutB s1 at1 (s1.size : Int)) 0))]
   refine TC.seq (TC.region ?_)
   refine TO.bySplit (b := decide (0 < (pcs (cutB s1 at1 (s1.size : Int)).data.toList).length)) (fun hb1 => ?_) (fun hb1 => ?_)
   ·
    have h := condT hb1 h
    obtain ⟨p1, hq1, h⟩ := andE h
    refine TO.nextStr (k := 1) (m := 0) (p := p1) rfl (by decide) rfl rfl hq1 (TO.extract rfl (by decide) rfl rfl (TO.nil (TX.next (TC.seq (TC.condT rfl (TC.skip (TX.next (TC.block ?_))))))))
    obtain ⟨j2, hj2, h⟩ := joinE h
    refine TC.cutN (β := Int) 2 rfl (fun b => j2 b = some r) (fun b => []) (fun b => [(1, .int .i64 at1), (4, .pointer (some ⟨b2, 0, none⟩)), (6, .int .i32 (p1.r : Int)), (7, .int .i64 b)]) (fun b => [cells b2 [.int .i64 0, .int .i64 0, .int .i32 0, .bool false] 78]) (fun cut => ?_) ?_
    ·
     refine TC.seq (TC.region (TO.extract rfl (by decide) rfl rfl (TO.assign rfl (by decide) rfl (TO.nil (TX.next (TC.seq (TC.region (TO.move rfl (by decide) rfl ?_))))))))
     obtain ⟨r1, hq2, h⟩ := andE h
     refine TO.callP (v := .int .i64 r1) (vs := [.int .i32 (p1.r : Int)]) rfl (by decide) rfl rfl rfl en_80 (runes_Width_fn hq2) (TO.assign rfl (by decide) rfl (TO.nil (TX.next (cut (TC.seq (TC.region (TO.move rfl (by decide) rfl (TO.bin rfl (by decide) rfl rfl bin_eql (TO.move rfl (by decide) rfl ?_)))))))))
     refine TO.split (s := 19) rfl (fun hb2 => ?_) (fun hb2 => ?_)
     ·
      have h := condT hb2 h
      refine TO.move rfl (by decide) rfl (TO.lenStr rfl (by decide) rfl Try.underlying9 (TO.move rfl (by decide) rfl ?_))
      obtain ⟨hg2, h⟩ := grdE h
      refine TO.bin rfl (by decide) rfl rfl (bin_sub (r := (s1.size : Int) - at1) (IntWalk.i64_in _ hg2)) (TO.bin rfl (by decide) rfl rfl bin_lss (TO.move rfl (by decide) rfl ?_))
      refine TO.split (s := 25) rfl (fun hb3 => ?_) (fun hb3 => ?_)
      ·
       have h := condT hb3 h
       refine TO.skip rfl (by decide) (TO.skip rfl (by decide) (TO.skip rfl (by decide) (TO.skip rfl (by decide) (TO.skip rfl (by decide) (TO.skip rfl (by decide) (TO.pick (b := true) rfl (by decide) rfl rfl (TO.pick (b := true) rfl (by decide) rfl rfl (TO.nil (TX.next (TC.condT rfl (TC.seq (TC.region (TO.move rfl (by decide) rfl ?_)))))))))))))
       refine TO.build (v := .agg #[.int .i64 at1, .int .i64 1, .int .i32 65533, .bool true]) (ps := [(0, .tmp 34), (1, .const (.int .i64 1)), (2, .const (.int .i32 65533)), (3, .const (.bool true))]) rfl (by decide) rfl (fun _ => by kernel_rfl) ?_
       refine TO.stores (k := 0) (vs := [.int .i64 at1, .int .i64 1, .int .i32 65533, .bool true]) (l' := [.int .i64 at1, .int .i64 1, .int .i32 65533, .bool true]) sz_78 rfl rfl rfl rfl rfl (show _ ≤ _ by simp) rfl rfl ?_
       show TO _ _ _ _ _ _ _ _ _ _ [cells b2 [.int .i64 at1, .int .i64 1, .int .i32 65533, .bool true] 78, obj b3 (.stringIter (cutB s1 at1 (s1.size : Int)) (posAt (cutB s1 at1 (s1.size : Int)) (0 + 1)))]
       refine TO.nil (TX.next (TC.ret (TX.thenRet (TX.blockRet (TX.thenRet (TX.blockRet (TX.thenRet ?_)))))))
       cases h
       exact TX.fin (rs := [.cell 4 78]) () (.inl rfl) Try.results68 (.cons (.cells rw_78 (k := 0) rfl rfl rfl) .nil) rfl Splits.nil
      ·
       have h := condF hb3 h
       refine TO.move rfl (by decide) rfl (TO.move rfl (by decide) rfl (TO.move rfl (by decide) rfl ?_))
       obtain ⟨hg3, h⟩ := grdE h
       refine TO.bin rfl (by decide) rfl rfl (bin_add (r := at1 + 3) (IntWalk.i64_in _ hg3)) ?_
       obtain ⟨hg4, h⟩ := grdE h
       refine TO.slice rfl (by decide) rfl rfl rfl (slice_stringI (i := at1) (j := at1 + 3) Try.underlying9 (.inr rfl) (.inr rfl) hg4) (TO.bin rfl (by decide) rfl rfl bin_sneq (TO.pick (b := false) rfl (by decide) rfl rfl (TO.pick (b := true) rfl (by decide) rfl rfl (TO.nil (TX.next ?_)))))
       refine TC.condB rfl (fun hb4 => ?_) (fun hb4 => ?_)
       ·
        have h := condT hb4 h
        refine TC.seq (TC.region (TO.move rfl (by decide) rfl ?_))
        refine TO.build (v := .agg #[.int .i64 at1, .int .i64 1, .int .i32 65533, .bool true]) (ps := [(0, .tmp 34), (1, .const (.int .i64 1)), (2, .const (.int .i32 65533)), (3, .const (.bool true))]) rfl (by decide) rfl (fun _ => by kernel_rfl) ?_
        refine TO.stores (k := 0) (vs := [.int .i64 at1, .int .i64 1, .int .i32 65533, .bool true]) (l' := [.int .i64 at1, .int .i64 1, .int .i32 65533, .bool true]) sz_78 rfl rfl rfl rfl rfl (show _ ≤ _ by simp) rfl rfl ?_
        show TO _ _ _ _ _ _ _ _ _ _ [cells b2 [.int .i64 at1, .int .i64 1, .int .i32 65533, .bool true] 78, obj b3 (.stringIter (cutB s1 at1 (s1.size : Int)) (posAt (cutB s1 at1 (s1.size : Int)) (0 + 1)))]
        refine TO.nil (TX.next (TC.ret (TX.thenRet (TX.blockRet (TX.thenRet (TX.blockRet (TX.thenRet ?_)))))))
        cases h
        exact TX.fin (rs := [.cell 4 78]) () (.inl rfl) Try.results68 (.cons (.cells rw_78 (k := 0) rfl rfl rfl) .nil) rfl Splits.nil
       ·
        have h := condF hb4 h
        refine TC.skip ?_
        exact TX.meetD r1 h rfl (Sbs.cons rfl (Sbs.cons rfl (Sbs.cons rfl (Sbs.cons rfl (Sbs.nil))))) (Splits.of [0] (by as_aux_lemma => kernel_rfl) rfl)
     ·
      have h := condF hb2 h
      refine TO.skip rfl (by decide) (TO.skip rfl (by decide) (TO.skip rfl (by decide) (TO.skip rfl (by decide) (TO.skip rfl (by decide) (TO.skip rfl (by decide) (TO.skip rfl (by decide) (TO.skip rfl (by decide) (TO.skip rfl (by decide) (TO.skip rfl (by decide) (TO.skip rfl (by decide) (TO.skip rfl (by decide) (TO.skip rfl (by decide) (TO.pick (b := false) rfl (by decide) rfl rfl ?_)))))))))))))
      refine TO.nil (TX.next (TC.condF rfl (TC.skip ?_)))
      exact TX.meetD r1 h rfl (Sbs.cons rfl (Sbs.cons rfl (Sbs.cons rfl (Sbs.cons rfl (Sbs.nil))))) (Splits.of [0] (by as_aux_lemma => kernel_rfl) rfl)
    ·
     rintro n2 h
     subst hj2
     show TC _ _ _ _ _ ([]) _ _ [(1, .int .i64 at1), (4, .pointer (some ⟨b2, 0, none⟩)), (6, .int .i32 (p1.r : Int)), (7, .int .i64 n2)] [cells b2 [.int .i64 0, .int .i64 0, .int .i32 0, .bool false] 78]
     refine TC.seq (TC.region (TO.move rfl (by decide) rfl (TO.move rfl (by decide) rfl (TO.move rfl (by decide) rfl ?_))))
     refine TO.build (v := .agg #[.int .i64 at1, .int .i64 n2, .int .i32 (p1.r : Int), .bool false]) (ps := [(0, .tmp 36), (1, .tmp 37), (2, .tmp 38)]) rfl (by decide) rfl (fun _ => by kernel_rfl) ?_
     refine TO.stores (k := 0) (vs := [.int .i64 at1, .int .i64 n2, .int .i32 (p1.r : Int), .bool false]) (l' := [.int .i64 at1, .int .i64 n2, .int .i32 (p1.r : Int), .bool false]) sz_78 rfl rfl rfl rfl rfl (show _ ≤ _ by simp) rfl rfl (TO.nil (TX.next (TC.ret (TX.blockRet (TX.thenRet (TX.blockRet (TX.thenRet ?_)))))))
     cases h
     exact TX.fin (rs := [.cell 4 78]) () (.inl rfl) Try.results68 (.cons (.cells rw_78 (k := 0) rfl rfl rfl) .nil) rfl Splits.nil
   ·
    have h := condF hb1 h
    refine TO.nextEnd (k := 1) (m := 0) rfl (by decide) rfl rfl (Nat.le_of_not_lt (of_decide_eq_false hb1)) (TO.extract rfl (by decide) rfl rfl (TO.nil (TX.next (TC.seq (TC.condF rfl (TC.exit (TX.thenExit (TX.thenExit (TX.blockHere ?_)))))))))
    exact TX.meetD b2 h rfl (Sbs.cons rfl (Sbs.nil)) (Splits.of [0] (by as_aux_lemma => kernel_rfl) rfl)
 ·
  rintro b1 h
  subst hj1
  show TC _ _ _ _ _ ([]) _ _ [(4, .pointer (some ⟨b1, 0, none⟩))] [cells b1 [.int .i64 0, .int .i64 0, .int .i32 0, .bool false] 78]
  refine TC.seq (TC.region ?_)
  refine TO.build (v := .agg #[.int .i64 0, .int .i64 0, .int .i32 0, .bool false]) (ps := []) rfl (by decide) rfl (fun _ => by kernel_rfl) ?_
  refine TO.stores (k := 0) (vs := [.int .i64 0, .int .i64 0, .int .i32 0, .bool false]) (l' := [.int .i64 0, .int .i64 0, .int .i32 0, .bool false]) sz_78 rfl rfl rfl rfl rfl (show _ ≤ _ by simp) rfl rfl (TO.nil (TX.next (TC.ret ?_)))
  cases h
  exact TX.fin (rs := [.cell 4 78]) () (.inl rfl) Try.results68 (.cons (.cells rw_78 (k := 0) rfl rfl rfl) .nil) rfl Splits.nil
def runes_within_s1 (s1 : ByteArray) (at1 : Int) (j1 : Option (Gapi_Piece × Bool)) (ag1 : Int → Option (Gapi_Piece × Bool)) (from3 : Int) : Option (Gapi_Piece × Bool) := bcond (decide ((from3 : Int) < at1)) ( joinK (fun (j2 : Option (Gapi_Piece × Bool)) => andThen (runes_read_v s1 from3) fun (r1 : Gapi_Piece) => grd (I64 (from3 + r1.Width)) <| bcond (decide ((at1 : Int) < (from3 + r1.Width))) ( bcond (!r1.Broken) ( some (r1, true)
) ( j2
)
) ( j2
)
) ( grd (I64 (from3 + 1)) <| ag1 (from3 + 1)
)
) ( j1
)
def runes_within_v (s1 : ByteArray) (at1 : Int) : Option (Gapi_Piece × Bool) := joinK (fun (j1 : Option (Gapi_Piece × Bool)) => grd (I64 (at1 - 3)) <| loopG (fun _ => none) (runes_within_s1 s1 at1 j1) fuel (max (at1 - 3) 0)
) ( some ((⟨0, 0, 0, false⟩ : Gapi_Piece), false)
)
set_option maxRecDepth 100000 in
set_option maxHeartbeats 4000000 in
theorem runes_within_fn {s1 : ByteArray} {at1 : Int} {r : (Gapi_Piece × Bool)} (h : runes_within_v s1 at1 = some r) : FnP Try.prog 52 [.string s1, .int .i64 at1] (.tuple #[.agg #[.int .i64 r.1.At, .int .i64 r.1.Width, .int .i32 r.1.Rune, .bool r.1.Broken], .bool r.2]) := by
 unfold runes_within_v at h
 refine FnP.intro Try.func52 rfl Try.ntmps52 (by simp) ?_
 intro w0 K
 obtain ⟨j1, hj1, h⟩ := joinE h
 refine TC.cutN (β := Nat) 1 rfl (fun b => j1 = some r) (fun b => []) (fun b => [(4, .pointer (some ⟨b, 0, none⟩))]) (fun b => [cells b [.int .i64 0, .int .i64 0, .int .i32 0, .bool false] 78]) (fun cut => ?_) ?_
 ·
  refine TC.seq (TC.region ?_)
  refine TO.alloc zr_78 rfl (by decide) (fun b2 => ?_)
  refine TO.assign rfl (by decide) rfl (TO.nil (TX.next (cut (TC.seq (TC.region (TO.move rfl (by decide) rfl ?_))))))
  obtain ⟨hg1, h⟩ := grdE h
  refine TO.bin rfl (by decide) rfl rfl (bin_sub (r := at1 - 3) (IntWalk.i64_in _ hg1)) (TO.max2 rfl (by decide) rfl rfl (TO.assign rfl (by decide) rfl (TO.nil (TX.next (TC.block ?_)))))
  refine TC.loopD (β := Nat × Int) (fun b => loopG (fun _ => none) (runes_within_s1 s1 at1 j1) b.1 b.2 = some r) (fun b => []) (fun b => [(0, .string s1), (1, .int .i64 at1), (4, .pointer (some ⟨b2, 0, none⟩)), (6, .int .i64 b.2)]) (fun b => [cells b2 [.int .i64 0, .int .i64 0, .int .i32 0, .bool false] 78]) (fun b => b.1) (fuel, max (at1 - 3) 0) h rfl (Sbs.cons rfl (Sbs.cons rfl (Sbs.cons rfl (Sbs.cons rfl (Sbs.nil))))) (Splits.of [0] (by as_aux_lemma => kernel_rfl) rfl) ?_
  rintro ⟨n1, from3⟩ h
  cases n1 with
  | zero => exact noneE h
  | succ n1 =>
   obtain ⟨ag1, hag1⟩ : ∃ ag, ag = loopG (fun _ => none) (runes_within_s1 s1 at1 j1) n1 := ⟨_, rfl⟩
   have h : runes_within_s1 s1 at1 j1 ag1 from3 = some r := by rw [hag1]; exact h
   unfold runes_within_s1 at h
   show TC _ _ _ _ _ ([]) _ _ [(0, .string s1), (1, .int .i64 at1), (4, .pointer (some ⟨b2, 0, none⟩)), (6, .int .i64 from3)] [cells b2 [.int .i64 0, .int .i64 0, .int .i32 0, .bool false] 78]
   refine TC.seq (TC.seq (TC.region (TO.move rfl (by decide) rfl (TO.move rfl (by decide) rfl (TO.bin rfl (by decide) rfl rfl bin_lss (TO.nil (TX.next ?_)))))))
   refine TC.condB rfl (fun hb1 => ?_) (fun hb1 => ?_)
   ·
    have h := condT hb1 h
    refine TC.skip (TX.next ?_)
    obtain ⟨j2, hj2, h⟩ := joinE h
    refine TC.cutN (β := Unit) 0 rfl (fun b => j2 = some r) (fun b => []) (fun b => [(0, .string s1), (1, .int .i64 at1), (4, .pointer (some ⟨b2, 0, none⟩)), (6, .int .i64 from3)]) (fun b => [cells b2 [.int .i64 0, .int .i64 0, .int .i32 0, .bool false] 78]) (fun cut => ?_) ?_
    ·
     refine cut (TC.block (TC.seq (TC.region (TO.move rfl (by decide) rfl (TO.move rfl (by decide) rfl ?_)))))
     obtain ⟨r1, hq1, h⟩ := andE h
     refine TO.callP (v := .agg #[.int .i64 r1.At, .int .i64 r1.Width, .int .i32 r1.Rune, .bool r1.Broken]) (vs := [.string s1, .int .i64 from3]) rfl (by decide) rfl rfl rfl en_68 (runes_read_fn hq1) ?_
     refine TO.alloc zr_78 rfl (by decide) (fun b3 => ?_)
     refine TO.stores (k := 1) (vs := [.int .i64 r1.At, .int .i64 r1.Width, .int .i32 r1.Rune, .bool r1.Broken]) (l' := [.int .i64 r1.At, .int .i64 r1.Width, .int .i32 r1.Rune, .bool r1.Broken]) sz_78 rfl rfl rfl rfl rfl (show _ ≤ _ by simp) rfl rfl ?_
     show TO _ _ _ _ _ _ _ _ _ _ [cells b2 [.int .i64 0, .int .i64 0, .int .i32 0, .bool false] 78, cells b3 [.int .i64 r1.At, .int .i64 r1.Width, .int .i32 r1.Rune, .bool r1.Broken] 78]
     refine TO.nil (TX.next (TC.seq (TC.region (TO.move rfl (by decide) rfl (TO.fieldAddr fl_78_1 rfl (by decide) rfl (show _ = 1 from rfl) (TO.load (k := 1) sc_3 rfl (by decide) rfl rfl rfl ?_))))))
     obtain ⟨hg2, h⟩ := grdE h
     refine TO.bin rfl (by decide) rfl rfl (bin_add (r := from3 + r1.Width) (IntWalk.i64_in _ hg2)) (TO.move rfl (by decide) rfl (TO.bin rfl (by decide) rfl rfl bin_gtr (TO.move rfl (by decide) rfl ?_)))
     refine TO.split (s := 25) rfl (fun hb2 => ?_) (fun hb2 => ?_)
     ·
      have h := condT hb2 h
      refine TO.fieldAddr fl_78_3 rfl (by decide) rfl (show _ = 3 from rfl) (TO.load (k := 1) sc_4 rfl (by decide) rfl rfl rfl (TO.un rfl (by decide) rfl un_not (TO.pick (b := true) rfl (by decide) rfl rfl (TO.nil (TX.next ?_)))))
      refine TC.condB rfl (fun hb3 => ?_) (fun hb3 => ?_)
      ·
       have h := condT hb3 h
       refine TC.seq (TC.region (TO.loads (k := 1) (cs := [.int .i64 r1.At, .int .i64 r1.Width, .int .i32 r1.Rune, .bool r1.Broken]) rw_78 rfl (by decide) rfl rfl rfl rfl (TO.stores (k := 0) (vs := [.int .i64 r1.At, .int .i64 r1.Width, .int .i32 r1.Rune, .bool r1.Broken]) (l' := [.int .i64 r1.At, .int .i64 r1.Width, .int .i32 r1.Rune, .bool r1.Broken]) sz_78 rfl rfl rfl rfl rfl (show _ ≤ _ by simp) rfl rfl (TO.assign rfl (by decide) rfl (TO.nil (TX.next (TC.ret (TX.blockRet (TX.thenRet (TX.thenRet (TX.blockRet (TX.thenRet ?_))))))))))))
       cases h
       exact TX.fin (rs := [.cell 4 78, .tmp 5]) () (.inl rfl) Try.results52 (.cons (.cells rw_78 (k := 0) rfl rfl rfl) (.cons (.tmp rfl) .nil)) rfl Splits.nil
      ·
       have h := condF hb3 h
       refine TC.skip (TX.blockNormal ?_)
       exact TX.meetD () h rfl (Sbs.cons rfl (Sbs.cons rfl (Sbs.cons rfl (Sbs.cons rfl (Sbs.nil))))) (Splits.of [0] (by as_aux_lemma => kernel_rfl) rfl)
     ·
      have h := condF hb2 h
      refine TO.skip rfl (by decide) (TO.skip rfl (by decide) (TO.skip rfl (by decide) (TO.pick (b := false) rfl (by decide) rfl rfl (TO.nil (TX.next (TC.condF rfl (TC.skip (TX.blockNormal ?_))))))))
      exact TX.meetD () h rfl (Sbs.cons rfl (Sbs.cons rfl (Sbs.cons rfl (Sbs.cons rfl (Sbs.nil))))) (Splits.of [0] (by as_aux_lemma => kernel_rfl) rfl)
    ·
     rintro _ h
     subst hj2
     show TC _ _ _ _ _ ([]) _ _ [(0, .string s1), (1, .int .i64 at1), (4, .pointer (some ⟨b2, 0, none⟩)), (6, .int .i64 from3)] [cells b2 [.int .i64 0, .int .i64 0, .int .i32 0, .bool false] 78]
     refine TC.region (TO.move rfl (by decide) rfl ?_)
     obtain ⟨hg3, h⟩ := grdE h
     refine TO.bin rfl (by decide) rfl rfl (bin_add (r := from3 + 1) (IntWalk.i64_in _ hg3)) (TO.assign rfl (by decide) rfl (TO.nil ?_))
     subst hag1
     exact TX.againD (n1, from3 + 1) h (Nat.lt_succ_self _) rfl (Sbs.cons rfl (Sbs.cons rfl (Sbs.cons rfl (Sbs.cons rfl (Sbs.nil))))) (Splits.of [0] (by as_aux_lemma => kernel_rfl) rfl)
   ·
    have h := condF hb1 h
    refine TC.exit (TX.thenExit (TX.thenExit (TX.blockHere ?_)))
    exact TX.meetD b2 h rfl (Sbs.cons rfl (Sbs.nil)) (Splits.of [0] (by as_aux_lemma => kernel_rfl) rfl)
 ·
  rintro b1 h
  subst hj1
  show TC _ _ _ _ _ ([]) _ _ [(4, .pointer (some ⟨b1, 0, none⟩))] [cells b1 [.int .i64 0, .int .i64 0, .int .i32 0, .bool false] 78]
  refine TC.seq (TC.region ?_)
  refine TO.build (v := .agg #[.int .i64 0, .int .i64 0, .int .i32 0, .bool false]) (ps := []) rfl (by decide) rfl (fun _ => by kernel_rfl) ?_
  refine TO.stores (k := 0) (vs := [.int .i64 0, .int .i64 0, .int .i32 0, .bool false]) (l' := [.int .i64 0, .int .i64 0, .int .i32 0, .bool false]) sz_78 rfl rfl rfl rfl rfl (show _ ≤ _ by simp) rfl rfl (TO.assign rfl (by decide) rfl (TO.nil (TX.next (TC.ret ?_))))
  cases h
  exact TX.fin (rs := [.cell 4 78, .tmp 5]) () (.inl rfl) Try.results52 (.cons (.cells rw_78 (k := 0) rfl rfl rfl) (.cons (.tmp rfl) .nil)) rfl Splits.nil
def runes_Boundary_v (s1 : ByteArray) (at1 : Int) : Option Bool := bcond (decide ((at1 : Int) < 0)) ( some false
) ( bcond (decide (((s1.size : Int) : Int) < at1)) ( some false
) ( andThen (runes_within_v s1 at1) fun (r1 : (Gapi_Piece × Bool)) => some (!r1.2)
)
)
set_option maxRecDepth 100000 in
set_option maxHeartbeats 4000000 in
theorem runes_Boundary_fn {s1 : ByteArray} {at1 : Int} {r : Bool} (h : runes_Boundary_v s1 at1 = some r) : FnP Try.prog 25 [.string s1, .int .i64 at1] (.bool r) := by
 unfold runes_Boundary_v at h
 refine FnP.intro Try.func25 rfl Try.ntmps25 (by simp) ?_
 intro w0 K
 refine TC.seq (TC.region (TO.assign rfl (by decide) rfl (TO.nil (TX.next (TC.seq (TC.seq (TC.region (TO.move rfl (by decide) rfl (TO.bin rfl (by decide) rfl rfl bin_lss (TO.move rfl (by decide) rfl ?_))))))))))
 refine TO.split (s := 9) rfl (fun hb1 => ?_) (fun hb1 => ?_)
 ·
  have h := condT hb1 h
  refine TO.skip rfl (by decide) (TO.skip rfl (by decide) (TO.skip rfl (by decide) (TO.skip rfl (by decide) (TO.pick (b := true) rfl (by decide) rfl rfl (TO.nil (TX.next (TC.condT rfl (TC.seq (TC.region (TO.assign rfl (by decide) rfl (TO.nil (TX.next (TC.ret ?_)))))))))))))
  refine TX.thenRet ?_
  cases h
  exact TX.fin (rs := [.tmp 4]) () (.inl rfl) Try.results25 (.cons (.tmp rfl) .nil) rfl Splits.nil
 ·
  have h := condF hb1 h
  refine TO.move rfl (by decide) rfl (TO.move rfl (by decide) rfl (TO.lenStr rfl (by decide) rfl Try.underlying9 (TO.bin rfl (by decide) rfl rfl bin_gtr (TO.pick (b := false) rfl (by decide) rfl rfl (TO.nil (TX.next ?_))))))
  refine TC.condB rfl (fun hb2 => ?_) (fun hb2 => ?_)
  ·
   have h := condT hb2 h
   refine TC.seq (TC.region (TO.assign rfl (by decide) rfl (TO.nil (TX.next (TC.ret (TX.thenRet ?_))))))
   cases h
   exact TX.fin (rs := [.tmp 4]) () (.inl rfl) Try.results25 (.cons (.tmp rfl) .nil) rfl Splits.nil
  ·
   have h := condF hb2 h
   refine TC.skip (TX.next (TC.seq (TC.region (TO.move rfl (by decide) rfl (TO.move rfl (by decide) rfl ?_)))))
   obtain ⟨r1, hq1, h⟩ := andE h
   refine TO.callP (v := .tuple #[.agg #[.int .i64 r1.1.At, .int .i64 r1.1.Width, .int .i32 r1.1.Rune, .bool r1.1.Broken], .bool r1.2]) (vs := [.string s1, .int .i64 at1]) rfl (by decide) rfl rfl rfl en_52 (runes_within_fn hq1) (TO.move rfl (by decide) rfl (TO.extract rfl (by decide) rfl rfl (TO.extract rfl (by decide) rfl rfl ?_)))
   refine TO.alloc zr_78 rfl (by decide) (fun b1 => ?_)
   refine TO.stores (k := 0) (vs := [.int .i64 r1.1.At, .int .i64 r1.1.Width, .int .i32 r1.1.Rune, .bool r1.1.Broken]) (l' := [.int .i64 r1.1.At, .int .i64 r1.1.Width, .int .i32 r1.1.Rune, .bool r1.1.Broken]) sz_78 rfl rfl rfl rfl rfl (show _ ≤ _ by simp) rfl rfl ?_
   show TO _ _ _ _ _ _ _ _ _ _ [cells b1 [.int .i64 r1.1.At, .int .i64 r1.1.Width, .int .i32 r1.1.Rune, .bool r1.1.Broken] 78]
   refine TO.assign rfl (by decide) rfl (TO.nil (TX.next (TC.seq (TC.region (TO.move rfl (by decide) rfl (TO.un rfl (by decide) rfl un_not (TO.assign rfl (by decide) rfl (TO.nil (TX.next (TC.ret ?_))))))))))
   cases h
   exact TX.fin (rs := [.tmp 4]) () (.inl rfl) Try.results25 (.cons (.tmp rfl) .nil) rfl Splits.nil
end Go.Proofs.Ytgeefojgkbglnaa
namespace Go.Proofs.Ytgeefojgkbglnaa
open Go.RowKit Go.Lib
set_option linter.unusedVariables false
set_option linter.unusedSimpArgs false
/-! ### A text's prefix -/
theorem dec_take {x y : List UInt8} (hx : x ≠ []) (hw : (decodeL (x ++ y)).2 ≤ x.length) : decodeL x = decodeL (x ++ y) := by
  have hl : x ++ y ≠ [] := by simp [hx]
  have hd := decOk _ hl
  have hd2 := decOk _ hx
  by_cases hb : (decodeL (x ++ y)).1 = 65533 ∧ (decodeL (x ++ y)).2 = 1
  · by_cases hb2 : (decodeL x).1 = 65533 ∧ (decodeL x).2 = 1
    · exact Prod.ext (by rw [hb.1, hb2.1]) (by rw [hb.2, hb2.2])
    · exfalso
      have h5 := hd2.bytes hb2
      have h6 := dec_enc _ hd2.valid (x.drop (decodeL x).2 ++ y)
      rw [h5, ← List.append_assoc, List.take_append_drop] at h6
      rw [h6] at hb
      have h7 := hd2.width hb2
      rw [h5] at h7
      rw [h7] at hb
      exact hb2 hb
  · have h5 := hd.bytes hb
    rw [List.take_append_of_le_length hw] at h5
    have h6 := dec_enc _ hd.valid (x.drop (decodeL (x ++ y)).2)
    rw [h5, List.take_append_drop] at h6
    rw [h6, List.length_take, Nat.min_eq_left hw]
theorem good_take {a b : List Tok} (h : Good (a ++ b)) : Good a := by
  induction a with
  | nil => unfold Good; rw [flat_nil, toks_nil]
  | cons t a ih =>
    have ih : toks (flat a) = a := ih (good_tail h)
    have hne := bs_ne (good_ok h t (by simp))
    unfold Good at *
    rw [List.cons_append, flat_cons, flat_append, ← List.append_assoc] at h
    have hl2 : t.bs ++ flat a ≠ [] := by simp [hne]
    have hl : t.bs ++ flat a ++ flat b ≠ [] := by simp [hne]
    rw [toks_cons _ hl] at h
    obtain ⟨e1, e2⟩ := List.cons.inj h
    have hbs := congrArg Tok.bs e1
    have hr := congrArg Tok.r e1
    simp only at hbs hr
    have hle := dec_le _ hl
    have hwl : (decodeL (t.bs ++ flat a ++ flat b)).2 = t.bs.length := by
      have := congrArg List.length hbs
      rw [List.length_take, Nat.min_eq_left hle] at this; exact this
    have hdec := dec_take hl2 (y := flat b) (by rw [hwl]; simp)
    rw [flat_cons, toks_cons _ hl2, hdec, hr, hwl, List.take_left, List.drop_left, ih]
/-! ### Units by what they hold -/
def tkd (t : Tok) : Int := kindOf t.broken t.r
def isMk (t : Tok) : Bool := tkd t == 2
structure GU where
  k : Int
  r : Nat
  c : List Tok
def gun : List Tok → List GU
  | [] => []
  | t :: ts => if ubare (tkd t) = true then ⟨tkd t, t.r, [t]⟩ :: gun ts else ⟨tkd t, t.r, t :: ts.takeWhile isMk⟩ :: gun (ts.dropWhile isMk)
termination_by ts => ts.length
decreasing_by
  all_goals simp only [List.length_cons]
  · omega
  · have := List.dropWhile_suffix isMk (l := ts) |>.length_le; omega
def gl (g : GU) : Nat := (flat g.c).length
def posU : Nat → List GU → List Un
  | _, [] => []
  | i, g :: gs => ⟨g.k, g.r, i, i + gl g, g.c.length == 1⟩ :: posU (i + gl g) gs
def GOk (g : GU) : Prop := ∃ t m, g.c = t :: m ∧ g.k = tkd t ∧ g.r = t.r ∧ (∀ x ∈ m, isMk x = true) ∧ (ubare g.k = true → m = [])
theorem gun_flat : ∀ (n : Nat) (ts : List Tok), ts.length ≤ n → (gun ts).flatMap GU.c = ts
  | _, [], _ => by rw [gun]; rfl
  | 0, t :: ts, h => by simp at h
  | n + 1, t :: ts, h => by
    rw [gun]
    split
    · rw [List.flatMap_cons, gun_flat n ts (by simpa using h)]; rfl
    · have := List.dropWhile_suffix isMk (l := ts) |>.length_le
      rw [List.flatMap_cons, gun_flat n _ (by simp at h; omega)]
      show t :: ts.takeWhile isMk ++ ts.dropWhile isMk = _
      rw [List.cons_append, List.takeWhile_append_dropWhile]
theorem gun_ok : ∀ (n : Nat) (ts : List Tok), ts.length ≤ n → ∀ g ∈ gun ts, GOk g
  | _, [], _, g, hg => by rw [gun] at hg; cases hg
  | 0, t :: ts, h, g, hg => by simp at h
  | n + 1, t :: ts, h, g, hg => by
    rw [gun] at hg
    split at hg
    · rcases List.mem_cons.1 hg with rfl | hg
      · exact ⟨t, [], rfl, rfl, rfl, by simp, fun _ => rfl⟩
      · exact gun_ok n ts (by simpa using h) g hg
    · rename_i hb
      have := List.dropWhile_suffix isMk (l := ts) |>.length_le
      rcases List.mem_cons.1 hg with rfl | hg
      · exact ⟨t, _, rfl, rfl, rfl, fun x hx => List.all_eq_true.1 List.all_takeWhile x hx, fun h => absurd h hb⟩
      · exact gun_ok n _ (by simp at h; omega) g hg
/-- The head of what stands behind a unit is no mark, if the unit may take marks. -/
def NoMk (l : List Tok) : Prop := ∀ t, l.head? = some t → isMk t = false
theorem gun_one (g : GU) (h : GOk g) (rest : List Tok) (hr : ubare g.k = false → NoMk rest) : gun (g.c ++ rest) = g :: gun rest := by
  obtain ⟨t, m, h1, h2, h3, h4, h5⟩ := h
  rcases g with ⟨k, r, c⟩
  simp only at *
  subst h1; subst h2; subst h3
  rw [List.cons_append, gun]
  split
  · rename_i hb
    rw [h5 hb]; rfl
  · rename_i hb
    have hb' : ubare (tkd t) = false := by simpa using hb
    have hn := hr hb'
    have e1 : (m ++ rest).takeWhile isMk = m := by
      rw [List.takeWhile_append_of_pos h4]
      rcases rest with _ | ⟨x, rest⟩
      · simp
      · rw [List.takeWhile_cons, if_neg (by rw [hn x rfl]; simp)]; simp
    have e2 : (m ++ rest).dropWhile isMk = rest := by
      rw [List.dropWhile_append_of_pos h4]
      rcases rest with _ | ⟨x, rest⟩
      · rfl
      · rw [List.dropWhile_cons, if_neg (by rw [hn x rfl]; simp)]
    rw [e1, e2]
/-- Units follow each other as a text's do. -/
def Seq : List GU → Prop
  | [] => True
  | g :: gs => GOk g ∧ (ubare g.k = false → ∀ h, gs.head? = some h → h.k ≠ 2) ∧ Seq gs
theorem head_c (gs : List GU) (h : ∀ g ∈ gs, GOk g) : NoMk (gs.flatMap GU.c) ↔ ∀ g, gs.head? = some g → g.k ≠ 2 := by
  rcases gs with _ | ⟨g, gs⟩
  · simp [NoMk]
  · obtain ⟨t, m, h1, h2, _⟩ := h g (by simp)
    simp only [NoMk, List.flatMap_cons, h1, List.cons_append, List.head?_cons, Option.some.injEq]
    constructor
    · intro hh g' hg'; subst hg'
      have := hh t rfl
      unfold isMk at this; rw [h2]; simpa using this
    · intro hh t' ht'; subst ht'
      have := hh g rfl
      unfold isMk; rw [← h2]; simpa using this
theorem Seq.ok : ∀ {gs : List GU}, Seq gs → ∀ g ∈ gs, GOk g
  | [], _, g, hg => by cases hg
  | x :: gs, h, g, hg => by
    rcases List.mem_cons.1 hg with rfl | hg
    · exact h.1
    · exact Seq.ok h.2.2 g hg
theorem gun_seq : ∀ {gs : List GU}, Seq gs → gun (gs.flatMap GU.c) = gs
  | [], _ => by rw [List.flatMap_nil, gun]
  | g :: gs, h => by
    rw [List.flatMap_cons, gun_one g h.1 _ (fun hb => (head_c gs h.2.2.ok).2 (h.2.1 hb)), gun_seq h.2.2]
theorem seq_gun : ∀ (n : Nat) (ts : List Tok), ts.length ≤ n → Seq (gun ts)
  | _, [], _ => by rw [gun]; trivial
  | 0, t :: ts, h => by simp at h
  | n + 1, t :: ts, h => by
    have hok := gun_ok (n + 1) (t :: ts) h
    rw [gun] at hok ⊢
    split
    · rename_i hb
      rw [if_pos hb] at hok
      exact ⟨hok _ (by simp), fun h0 => absurd (hb.symm.trans h0) (by decide), seq_gun n ts (by simpa using h)⟩
    · rename_i hb
      rw [if_neg hb] at hok
      have hl := List.dropWhile_suffix isMk (l := ts) |>.length_le
      refine ⟨hok _ (by simp), fun _ => ?_, seq_gun n _ (by simp at h; omega)⟩
      refine (head_c _ (gun_ok n _ (by simp at h; omega))).1 ?_
      rw [gun_flat n _ (by simp at h; omega)]
      intro x hx
      have := List.head?_dropWhile_not isMk ts
      rw [hx] at this; simpa using this
theorem Seq.append_left : ∀ {a b : List GU}, Seq (a ++ b) → Seq a
  | [], _, _ => trivial
  | g :: a, b, h => ⟨h.1, fun hb x hx => h.2.1 hb x (by rcases a with _ | ⟨y, a⟩; cases hx; exact hx), Seq.append_left h.2.2⟩
theorem Seq.append_right : ∀ {a b : List GU}, Seq (a ++ b) → Seq b
  | [], _, h => h
  | g :: a, b, h => Seq.append_right (a := a) h.2.2
/-! ### Units with their places -/
theorem ustp_push {E : List Un} {n : Un} {p : Pc} (h : ¬ (pk p = 2 ∧ ubare n.k = false)) : ustp (E ++ [n]) p = E ++ [n] ++ [unew p] := by
  unfold ustp; rw [List.getLast?_concat]; simp only; rw [if_neg h]
theorem ustp_ext {E : List Un} {n : Un} {p : Pc} (h : pk p = 2 ∧ ubare n.k = false) : ustp (E ++ [n]) p = E ++ [⟨n.k, n.r, n.f, n.t + p.w, false⟩] := by
  unfold ustp; rw [List.getLast?_concat]; simp only; rw [if_pos h, List.dropLast_concat]
theorem pk_place (i : Nat) (t : Tok) : pk ⟨i, t.bs.length, t.r⟩ = tkd t := rfl
theorem fold_marks (E : List Un) : ∀ (m : List Tok) (i : Nat) (n : Un), (∀ x ∈ m, isMk x = true) → ubare n.k = false → (place i m).foldl ustp (E ++ [n]) = E ++ [⟨n.k, n.r, n.f, n.t + (flat m).length, n.al && m.isEmpty⟩]
  | [], i, n, _, _ => by simp [place, flat]
  | x :: m, i, n, hm, hb => by
    have hx : tkd x = 2 := by have := hm x (by simp); unfold isMk at this; simpa using this
    simp only [place, List.foldl_cons]
    rw [ustp_ext ⟨by rw [pk_place]; exact hx, hb⟩, fold_marks E m _ ⟨n.k, n.r, n.f, n.t + x.bs.length, false⟩ (fun y hy => hm y (by simp [hy])) hb, flat_cons]
    simp [Nat.add_assoc]
theorem fold_gs : ∀ (gs : List GU), Seq gs → ∀ (E : List Un) (i : Nat), (∀ n, E.getLast? = some n → ubare n.k = false → ∀ g, gs.head? = some g → g.k ≠ 2) → (place i (gs.flatMap GU.c)).foldl ustp E = E ++ posU i gs
  | [], _, E, i, _ => by simp [place, posU]
  | g :: gs, hs, E, i, hE => by
    obtain ⟨t, m, h1, h2, h3, h4, h5⟩ := hs.1
    have hgl : gl g = t.bs.length + (flat m).length := by unfold gl; rw [h1, flat_cons, List.length_append]
    rw [List.flatMap_cons, place_append, List.foldl_append, h1]
    have hfirst : ustp E ⟨i, t.bs.length, t.r⟩ = E ++ [unew ⟨i, t.bs.length, t.r⟩] := by
      rcases List.eq_nil_or_concat E with rfl | ⟨D, n, rfl⟩
      · rfl
      · rw [List.concat_eq_append] at *
        refine ustp_push fun ⟨a, b⟩ => hE n (by rw [List.getLast?_concat]) b g rfl ?_
        rw [h2]; exact a
    have hbody : (place i (t :: m)).foldl ustp E = E ++ [⟨g.k, g.r, i, i + gl g, g.c.length == 1⟩] := by
      simp only [place, List.foldl_cons]
      rw [hfirst]
      by_cases hb : ubare g.k = true
      · have hm := h5 hb
        subst hm
        simp [place, unew, pk_place, h2, h3, hgl, h1, flat]
      · have hb' : ubare (unew ⟨i, t.bs.length, t.r⟩).k = false := by
          show ubare (tkd t) = false
          rw [← h2]; simpa using hb
        rw [fold_marks E m _ _ h4 hb']
        simp only [unew, pk_place, h2, h3, hgl, h1]
        rcases m with _ | ⟨x, m⟩ <;> simp [Nat.add_assoc]
    rw [hbody]
    have e : (flat (t :: m)).length = gl g := by unfold gl; rw [h1]
    rw [e, fold_gs gs hs.2.2 _ _ (by
      intro n hn hb x hx
      rw [List.getLast?_concat] at hn
      cases hn
      exact hs.2.1 hb x hx), posU, List.append_assoc]; rfl
theorem units_fold (L : List Pc) : units L = L.foldl ustp [] := by
  have key : ∀ L : List Pc, units L.reverse = L.reverse.foldl ustp [] := by
    intro L
    induction L with
    | nil => rfl
    | cons p L ih => rw [List.reverse_cons, units_snoc, List.foldl_append, ih]; rfl
  have := key L.reverse
  rwa [List.reverse_reverse] at this
theorem us_pos (s : ByteArray) : usOf s = posU 0 (gun (toks s.data.toList)) := by
  have hs := seq_gun _ (toks s.data.toList) (Nat.le_refl _)
  have := fold_gs _ hs [] 0 (by intro n hn; cases hn)
  rw [gun_flat _ _ (Nat.le_refl _), List.nil_append] at this
  rw [← this, ← units_fold, ← pcs_place]; rfl
/-! ### Tokens by what they hold -/
def sh (g : GU) : Un := ⟨g.k, g.r, 0, 0, g.c.length == 1⟩
def gbh (g : GU) (gs : List GU) : Nat := behind (sh g) (gs.map sh)
def key (u : Un) : Int × Nat × Bool := (u.k, u.r, u.al)
theorem isK_key {us vs : List Un} (k : Int) (h : us.map key = vs.map key) : isK us k = isK vs k := by
  rcases us with _ | ⟨u, us⟩ <;> rcases vs with _ | ⟨v, vs⟩ <;> simp [key] at h <;> simp [isK, h]
theorem runN_key (kd : Int) (js : List Nat) : ∀ (us vs : List Un), us.map key = vs.map key → runN kd js us = runN kd js vs
  | [], [], _ => rfl
  | [], v :: vs, h => by simp at h
  | u :: us, [], h => by simp at h
  | u :: us, v :: vs, h => by
    obtain ⟨h1, h2⟩ := List.cons.inj (by simpa using h : key u :: us.map key = key v :: vs.map key)
    have hk := isK_key kd h2
    have ih := runN_key kd js us vs h2
    obtain ⟨k, r, f, t, al⟩ := u
    obtain ⟨k', r', f', t', al'⟩ := v
    simp only [key, Prod.mk.injEq] at h1
    obtain ⟨rfl, rfl, rfl⟩ := h1
    simp only [runN, oneOf]
    rw [hk, ih]
    rfl
theorem behind_key {u v : Un} {us vs : List Un} (h1 : key u = key v) (h2 : us.map key = vs.map key) : behind u us = behind v vs := by
  obtain ⟨k, r, f, t, al⟩ := u
  obtain ⟨k', r', f', t', al'⟩ := v
  simp only [key, Prod.mk.injEq] at h1
  obtain ⟨rfl, rfl, rfl⟩ := h1
  have hr := fun kd js => runN_key kd js us vs h2
  rcases us with _ | ⟨a, us⟩ <;> rcases vs with _ | ⟨b, vs⟩
  · rfl
  · simp at h2
  · simp at h2
  · obtain ⟨h3, h4⟩ := List.cons.inj (by simpa using h2 : key a :: us.map key = key b :: vs.map key)
    obtain ⟨ka, ra, fa, ta, ala⟩ := a
    obtain ⟨kb, rb, fb, tb, alb⟩ := b
    simp only [key, Prod.mk.injEq] at h3
    obtain ⟨rfl, rfl, rfl⟩ := h3
    unfold behind
    rw [hr, hr, hr, hr]
theorem posU_key : ∀ (gs : List GU) (i : Nat), (posU i gs).map key = (gs.map sh).map key
  | [], _ => rfl
  | g :: gs, i => by simp only [posU, List.map_cons, posU_key gs]; rfl
theorem behind_pos (g : GU) (gs : List GU) (i j : Nat) (u : Un) (h : key u = key (sh g)) : behind u (posU j gs) = gbh g gs := behind_key h (posU_key gs j)
abbrev GT := Int × List GU
def gtok : List GU → List GT
  | [] => []
  | g :: gs => ((begins (sh g)).2, g :: gs.take (gbh g gs)) :: gtok (gs.drop (gbh g gs))
termination_by gs => gs.length
decreasing_by simp only [List.length_drop, List.length_cons]; omega
def tl (x : GT) : Nat := (x.2.map gl).sum
def posT : Nat → List GT → List Tk
  | _, [] => []
  | i, x :: xs => ⟨x.1, i, i + tl x⟩ :: posT (i + tl x) xs
theorem posU_drop : ∀ (gs : List GU) (n i : Nat), (posU i gs).drop n = posU (i + ((gs.take n).map gl).sum) (gs.drop n)
  | [], n, i => by simp [posU]
  | g :: gs, 0, i => by simp
  | g :: gs, n + 1, i => by simp [posU, posU_drop gs n, Nat.add_assoc]
theorem endOf_pos : ∀ (gs : List GU) (n i : Nat), n ≤ gs.length → endOf i (posU i gs) n = i + ((gs.take n).map gl).sum
  | gs, 0, i, _ => by simp [endOf]
  | [], n + 1, i, h => by simp at h
  | g :: gs, n + 1, i, h => by
    have ih := endOf_pos gs n (i + gl g) (by simpa using h)
    simp only [posU, endOf, ih, List.take_succ_cons, List.map_cons, List.sum_cons, Nat.add_assoc]
theorem posU_len : ∀ (gs : List GU) (i : Nat), (posU i gs).length = gs.length
  | [], _ => rfl
  | g :: gs, i => by simp [posU, posU_len gs]
theorem toksR_pos : ∀ (n : Nat) (gs : List GU) (i : Nat), gs.length ≤ n → toksR (posU i gs) = posT i (gtok gs)
  | _, [], i, _ => by rw [posU, toksR, gtok]; rfl
  | 0, g :: gs, i, h => by simp at h
  | n + 1, g :: gs, i, h => by
    have hb := behind_pos g gs i (i + gl g) ⟨g.k, g.r, i, i + gl g, g.c.length == 1⟩ rfl
    have hle := behind_le ⟨g.k, g.r, i, i + gl g, g.c.length == 1⟩ (posU (i + gl g) gs)
    rw [hb, posU_len] at hle
    have hbg : (begins ⟨g.k, g.r, i, i + gl g, g.c.length == 1⟩).2 = (begins (sh g)).2 := rfl
    rw [posU, toksR, gtok, posT, hb, hbg, endOf_pos _ _ _ hle, posU_drop, toksR_pos n _ _ (by simp at h ⊢; omega)]
    have e : tl ((begins (sh g)).2, g :: gs.take (gbh g gs)) = gl g + ((gs.take (gbh g gs)).map gl).sum := by simp [tl]
    rw [e]
    simp [Nat.add_assoc]
def G (ts : List Tok) : List GT := gtok (gun ts)
theorem tks_pos (s : ByteArray) : tksOf s = posT 0 (G (toks s.data.toList)) := by
  have e : tksOf s = toksR (usOf s) := scan_toksR _ (units_wf s)
  rw [e, us_pos, toksR_pos _ _ _ (Nat.le_refl _)]; rfl
end Go.Proofs.Ytgeefojgkbglnaa
namespace Go.Proofs.Ytgeefojgkbglnaa
open Go.RowKit Go.Lib
set_option linter.unusedVariables false
set_option linter.unusedSimpArgs false
theorem runN_take (kd : Int) (js : List Nat) : ∀ (us : List Un) (m : Nat), runN kd js us ≤ m → runN kd js (us.take m) = runN kd js us
  | [], m, _ => by simp
  | u :: us, 0, h => by
    rw [List.take_zero]
    have : runN kd js (u :: us) = 0 := by omega
    rw [this]; rfl
  | u :: us, m + 1, h => by
    rw [List.take_succ_cons]
    simp only [runN] at h ⊢
    by_cases h1 : u.k = kd
    · rw [if_pos h1] at h ⊢
      rw [if_pos h1, runN_take kd js us m (by omega)]
    · rw [if_neg h1] at h ⊢
      rw [if_neg h1]
      by_cases h2 : oneOf js u = true ∧ isK us kd = true
      · rw [if_pos h2] at h ⊢
        rcases us with _ | ⟨v, vs⟩
        · simp [isK] at h2
        · have hv : v.k = kd := by simpa [isK] using h2.2
          have h3 : runN kd js (v :: vs) = 1 + runN kd js vs := by simp [runN, hv]
          rcases m with _ | m
          · omega
          · rw [if_pos ⟨h2.1, by simpa [isK] using hv⟩, runN_take kd js (v :: vs) (m + 1) (by omega)]
      · rw [if_neg h2]
        rw [if_neg]
        rintro ⟨a, b⟩
        refine h2 ⟨a, ?_⟩
        rcases us with _ | ⟨v, vs⟩
        · simp [isK] at b
        · rcases m with _ | m
          · simp [isK] at b
          · simpa [isK] using b
theorem runN_stop (kd : Int) (js : List Nat) : ∀ us : List Un, isK (us.drop (runN kd js us)) kd = false
  | [] => rfl
  | u :: us => by
    have ih := runN_stop kd js us
    simp only [runN]
    by_cases h1 : u.k = kd
    · rw [if_pos h1, Nat.add_comm, List.drop_succ_cons]; exact ih
    · rw [if_neg h1]
      by_cases h2 : oneOf js u = true ∧ isK us kd = true
      · rw [if_pos h2, Nat.add_comm, List.drop_succ_cons]; exact ih
      · rw [if_neg h2, List.drop_zero]; simpa [isK] using h1
theorem behind_take (u : Un) (us : List Un) (m : Nat) (h : behind u us ≤ m) : behind u (us.take m) = behind u us := by
  unfold behind at h ⊢
  by_cases h1 : u.k = 1
  · rw [if_pos h1] at h ⊢; rw [if_pos h1]; exact runN_take _ _ _ _ h
  rw [if_neg h1] at h ⊢; rw [if_neg h1]
  by_cases h3 : u.k = 3
  · rw [if_pos h3] at h ⊢; rw [if_pos h3]; exact runN_take _ _ _ _ h
  rw [if_neg h3] at h ⊢; rw [if_neg h3]
  by_cases h5 : u.k = 5
  · rw [if_pos h5] at h ⊢; rw [if_pos h5]; exact runN_take _ _ _ _ h
  rw [if_neg h5] at h ⊢; rw [if_neg h5]
  by_cases h11 : u.k = 11
  · rw [if_pos h11] at h ⊢; rw [if_pos h11]; exact runN_take _ _ _ _ h
  rw [if_neg h11] at h ⊢; rw [if_neg h11]
  by_cases h4 : u.k = 4
  · rw [if_pos h4] at h ⊢; rw [if_pos h4]
    rcases us with _ | ⟨v, vs⟩
    · rw [List.take_nil]
    · rcases m with _ | m
      · rw [List.take_zero]
        simp only at h ⊢
        omega
      · rw [List.take_succ_cons]
  · rw [if_neg h4]; rw [if_neg h4]
theorem gbh_take (g : GU) (gs : List GU) (m : Nat) (h : gbh g gs ≤ m) : gbh g (gs.take m) = gbh g gs := by
  unfold gbh at *
  rw [List.map_take]; exact behind_take _ _ _ h
theorem gbh_le (g : GU) (gs : List GU) : gbh g gs ≤ gs.length := by
  have := behind_le (sh g) (gs.map sh); simpa [gbh] using this
theorem gtok_cons (g : GU) (gs : List GU) : gtok (g :: gs) = ((begins (sh g)).2, g :: gs.take (gbh g gs)) :: gtok (gs.drop (gbh g gs)) := by rw [gtok]
theorem gtok_nil : gtok [] = [] := by rw [gtok]
def fl2 (A : List GT) : List GU := A.flatMap Prod.snd
theorem gtok_flat : ∀ (n : Nat) (gs : List GU), gs.length ≤ n → fl2 (gtok gs) = gs
  | _, [], _ => by rw [gtok_nil]; rfl
  | 0, g :: gs, h => by simp at h
  | n + 1, g :: gs, h => by
    rw [gtok_cons]
    show (g :: gs.take (gbh g gs)) ++ fl2 (gtok (gs.drop (gbh g gs))) = _
    rw [gtok_flat n _ (by simp at h ⊢; omega), List.cons_append, List.take_append_drop]
/-- A row of units falls apart at a token's end. -/
theorem gtok_split : ∀ (A : List GT) (gs : List GU) (B : List GT), gtok gs = A ++ B → gtok (fl2 A) = A ∧ gtok (fl2 B) = B ∧ gs = fl2 A ++ fl2 B
  | [], gs, B, h => by
    rw [List.nil_append] at h
    have := gtok_flat _ gs (Nat.le_refl _)
    rw [h] at this
    exact ⟨gtok_nil, by rw [this]; exact h, by rw [this]; rfl⟩
  | x :: A, [], B, h => by rw [gtok_nil] at h; cases h
  | x :: A, g :: gs, B, h => by
    rw [gtok_cons, List.cons_append] at h
    obtain ⟨rfl, h2⟩ := List.cons.inj h
    obtain ⟨i1, i2, i3⟩ := gtok_split A _ B h2
    have hle := gbh_le g gs
    have e1 : fl2 (((begins (sh g)).2, g :: gs.take (gbh g gs)) :: A) = g :: (gs.take (gbh g gs) ++ fl2 A) := rfl
    have e2 : gs.take (gbh g gs) ++ fl2 A = gs.take (gbh g gs + (fl2 A).length) := by
      rw [List.take_add, i3, List.take_left]
    have e3 : gbh g (gs.take (gbh g gs) ++ fl2 A) = gbh g gs := by rw [e2]; exact gbh_take _ _ _ (by omega)
    have hl : (gs.take (gbh g gs)).length = gbh g gs := by simp; omega
    refine ⟨?_, i2, ?_⟩
    · rw [e1, gtok_cons, e3]
      have t1 : (gs.take (gbh g gs) ++ fl2 A).take (gbh g gs) = gs.take (gbh g gs) := List.take_left' hl
      have t2 : (gs.take (gbh g gs) ++ fl2 A).drop (gbh g gs) = fl2 A := List.drop_left' hl
      rw [t1, t2, i1]
    · rw [e1, List.cons_append, List.append_assoc, ← i3, List.take_append_drop]
def cont (A : List GT) : List Tok := (fl2 A).flatMap GU.c
theorem fl2_append (A B : List GT) : fl2 (A ++ B) = fl2 A ++ fl2 B := by simp [fl2]
theorem cont_append (A B : List GT) : cont (A ++ B) = cont A ++ cont B := by simp [cont, fl2_append]
/-- So does a text. -/
theorem G_split (ts : List Tok) (A B : List GT) (h : G ts = A ++ B) : G (cont A) = A ∧ G (cont B) = B ∧ ts = cont A ++ cont B := by
  obtain ⟨h1, h2, h3⟩ := gtok_split A _ B h
  have hs := seq_gun _ ts (Nat.le_refl _)
  have hf := gun_flat _ ts (Nat.le_refl _)
  rw [h3] at hs hf
  refine ⟨?_, ?_, ?_⟩
  · unfold G cont; rw [gun_seq hs.append_left]; exact h1
  · unfold G cont; rw [gun_seq hs.append_right]; exact h2
  · rw [← hf, List.flatMap_append]; rfl
def tot (A : List GT) : Nat := (A.map tl).sum
theorem gu_len (gs : List GU) : (flat (gs.flatMap GU.c)).length = (gs.map gl).sum := by
  induction gs with
  | nil => rfl
  | cons g gs ih => rw [List.flatMap_cons, flat_append, List.length_append, ih]; rfl
theorem tot_len (A : List GT) : (flat (cont A)).length = tot A := by
  unfold cont; rw [gu_len]
  induction A with
  | nil => rfl
  | cons x A ih =>
    show ((x.2 ++ fl2 A).map gl).sum = _
    rw [List.map_append, List.sum_append, ih]; rfl
theorem posT_append : ∀ (A B : List GT) (i : Nat), posT i (A ++ B) = posT i A ++ posT (i + tot A) B
  | [], B, i => rfl
  | x :: A, B, i => by
    have e : i + tl x + tot A = i + tot (x :: A) := by simp [tot, Nat.add_assoc]
    simp only [List.cons_append, posT, posT_append A B, e]
theorem posT_len : ∀ (A : List GT) (i : Nat), (posT i A).length = A.length
  | [], _ => rfl
  | x :: A, i => by simp [posT, posT_len A]
/-- What stands in a text ahead of and behind a token's end. -/
theorem tks_split (s : ByteArray) (j : Nat) (hj : j ≤ (tksOf s).length) : ∃ A B, G (toks s.data.toList) = A ++ B ∧ A.length = j ∧ tksOf s = posT 0 A ++ posT (tot A) B ∧ s.data.toList = flat (cont A) ++ flat (cont B) ∧ Good (cont A) ∧ Good (cont B) ∧ G (cont A) = A ∧ G (cont B) = B := by
  have e := tks_pos s
  have hl : (tksOf s).length = (G (toks s.data.toList)).length := by rw [e, posT_len]
  have h0 : G (toks s.data.toList) = (G (toks s.data.toList)).take j ++ (G (toks s.data.toList)).drop j := (List.take_append_drop _ _).symm
  obtain ⟨h1, h2, h3⟩ := G_split _ _ _ h0
  have hg := good_toks s.data.toList
  rw [h3] at hg
  refine ⟨_, _, h0, by simp; omega, ?_, ?_, good_take hg, good_drop hg, h1, h2⟩
  · rw [e, h0, posT_append, Nat.zero_add, ← h0]
  · rw [← flat_append, ← h3, flat_toks]
theorem tks_of (s : ByteArray) (A : List GT) (hd : s.data.toList = flat (cont A)) (hg : Good (cont A)) (hG : G (cont A) = A) : tksOf s = posT 0 A := by
  rw [tks_pos, hd, hg, hG]
theorem posT_shift : ∀ (A : List GT) (i j : Nat), posT (i + j) A = (posT i A).map fun x => ⟨x.k, x.f + j, x.t + j⟩
  | [], _, _ => rfl
  | x :: A, i, j => by
    have e : i + j + tl x = i + tl x + j := by omega
    simp only [posT, List.map_cons, e, posT_shift A]
/-! ### Kinds -/
theorem begins_rng (u : Un) : 1 ≤ (begins u).2 ∧ (begins u).2 ≤ 7 := by
  unfold begins; repeat' split
  all_goals simp
theorem begins_3 (u : Un) : (begins u).2 = 3 ↔ u.k = 5 := by
  unfold begins; repeat' split
  all_goals simp_all
theorem begins_7 (u : Un) : (begins u).2 = 7 ↔ u.k = 11 := by
  unfold begins; repeat' split
  all_goals simp_all
theorem gtok_next : ∀ (n : Nat) (gs : List GU), gs.length ≤ n → ∀ (A : List GT) (x y : GT) (B : List GT), gtok gs = A ++ x :: y :: B → ¬ (x.1 = 3 ∧ y.1 = 3) ∧ ¬ (x.1 = 7 ∧ y.1 = 7)
  | _, [], _, A, x, y, B, h => by rw [gtok_nil] at h; simp at h
  | 0, g :: gs, h, _, _, _, _, _ => by simp at h
  | n + 1, g :: gs, hl, A, x, y, B, h => by
    rw [gtok_cons] at h
    rcases A with _ | ⟨z, A⟩
    · rw [List.nil_append] at h
      obtain ⟨rfl, h2⟩ := List.cons.inj h
      rcases hd : gs.drop (gbh g gs) with _ | ⟨w, ws⟩
      · rw [hd, gtok_nil] at h2; cases h2
      · rw [hd, gtok_cons] at h2
        obtain ⟨rfl, _⟩ := List.cons.inj h2
        have hw : ∀ kd js, gbh g gs = runN kd js (gs.map sh) → w.k ≠ kd := fun kd js e => by
          have h5 := runN_stop kd js (gs.map sh)
          rw [← e, ← List.map_drop, hd] at h5
          simpa [isK, sh] using h5
        refine ⟨fun ⟨a, b⟩ => ?_, fun ⟨a, b⟩ => ?_⟩
        · have a' : g.k = 5 := (begins_3 _).1 a
          have b' : w.k = 5 := (begins_3 _).1 b
          exact hw 5 [] (by simp [gbh, behind, sh, a']) b'
        · have a' : g.k = 11 := (begins_7 _).1 a
          have b' : w.k = 11 := (begins_7 _).1 b
          exact hw 11 [] (by simp [gbh, behind, sh, a']) b'
    · obtain ⟨_, h2⟩ := List.cons.inj (by simpa using h)
      exact gtok_next n _ (by simp at hl ⊢; omega) A x y B h2
theorem gtok_rng : ∀ (n : Nat) (gs : List GU), gs.length ≤ n → ∀ x ∈ gtok gs, 1 ≤ x.1 ∧ x.1 ≤ 7 ∧ x.2 ≠ []
  | _, [], _, x, h => by rw [gtok_nil] at h; cases h
  | 0, g :: gs, h, _, _ => by simp at h
  | n + 1, g :: gs, hl, x, h => by
    rw [gtok_cons] at h
    rcases List.mem_cons.1 h with rfl | h
    · exact ⟨(begins_rng _).1, (begins_rng _).2, by simp⟩
    · exact gtok_rng n _ (by simp at hl ⊢; omega) x h
/-! ### Boundaries -/
theorem dec_cont {b : UInt8} {l : List UInt8} (h : contB b = true) : decodeL (b :: l) = (65533, 1) := by
  rw [decodeL_N]
  have hb : b.toNat / 64 = 2 := by simpa [contB] using h
  have e : ((b :: l).getD 0 0).toNat = b.toNat := rfl
  unfold decodeN
  rw [e, if_neg (by omega), if_neg (by omega), if_neg (by omega), if_neg (by omega)]
theorem enc_tail (r : Nat) (hv : r < 55296 ∨ (57343 < r ∧ r ≤ 1114111)) (i : Nat) (b : UInt8) (hi : 0 < i) (h : (encodeRune r)[i]? = some b) : contB b = true := by
  unfold encodeRune at h
  rw [List.getElem?_map, Option.map_eq_some_iff] at h
  obtain ⟨z, hz, rfl⟩ := h
  have key : 128 ≤ z ∧ z < 192 := by
    rcases encZ_shape r hv with ⟨_, e⟩ | ⟨_, _, e⟩ | ⟨_, _, e⟩ | ⟨_, _, e⟩ <;> rw [e] at hz
    · rcases i with _ | i
      · omega
      · simp at hz
    · rcases i with _ | _ | i
      · omega
      · simp at hz; omega
      · simp at hz
    · rcases i with _ | _ | _ | i
      · omega
      · simp at hz; omega
      · simp at hz; omega
      · simp at hz
    · rcases i with _ | _ | _ | _ | i
      · omega
      · simp at hz; omega
      · simp at hz; omega
      · simp at hz; omega
      · simp at hz
  unfold contB
  rw [u8_toNat z (by omega) (by omega)]
  simp; omega
/-- No form goes over a boundary. -/
theorem no_over : ∀ (a b : List Tok), Good (a ++ b) → ∀ m, m < (flat a).length → ¬ ((decodeL ((flat (a ++ b)).drop m)).1 = 65533 ∧ (decodeL ((flat (a ++ b)).drop m)).2 = 1) → m + (decodeL ((flat (a ++ b)).drop m)).2 ≤ (flat a).length
  | [], b, _, m, hm, _ => by simp [flat] at hm
  | t :: a, b, hg, m, hm, hb => by
    have hok := good_ok hg t (by simp)
    have hne := bs_ne hok
    have hlt : 0 < t.bs.length := List.length_pos_iff.2 hne
    have hfl : flat (t :: a ++ b) = t.bs ++ flat (a ++ b) := by rw [List.cons_append, flat_cons]
    have hfa : (flat (t :: a)).length = t.bs.length + (flat a).length := by rw [flat_cons, List.length_append]
    rw [hfl] at hb ⊢
    rw [hfa] at hm ⊢
    by_cases h0 : m = 0
    · subst h0
      have h : toks (flat (t :: a ++ b)) = t :: (a ++ b) := hg
      rw [hfl, toks_cons _ (by simp [hne])] at h
      have h1 := congrArg Tok.bs (List.cons.inj h).1
      simp only at h1
      have h2 := dec_le (t.bs ++ flat (a ++ b)) (by simp [hne])
      have h3 := congrArg List.length h1
      rw [List.length_take, Nat.min_eq_left h2] at h3
      rw [List.drop_zero]; omega
    · by_cases h1 : m < t.bs.length
      · exfalso
        rcases hok with hv | hbr
        · have hget : (encodeRune t.r)[m]? = some (t.bs[m]) := by rw [← hv.2]; exact List.getElem?_eq_getElem h1
          have hc := enc_tail t.r hv.1 m _ (by omega) hget
          have hd : (t.bs ++ flat (a ++ b)).drop m = t.bs[m] :: (t.bs ++ flat (a ++ b)).drop (m + 1) := by
            rw [List.drop_eq_getElem_cons (by simp; omega), List.getElem_append_left h1]
          rw [hd, dec_cont hc] at hb
          exact hb ⟨rfl, rfl⟩
        · unfold Tok.broken at hbr
          simp at hbr; omega
      · have e : (t.bs ++ flat (a ++ b)).drop m = (flat (a ++ b)).drop (m - t.bs.length) := by
          rw [List.drop_append, List.drop_eq_nil_of_le (by omega), List.nil_append]
        rw [e] at hb ⊢
        have := no_over a b (good_tail hg) (m - t.bs.length) (by omega) hb
        omega
end Go.Proofs.Ytgeefojgkbglnaa
namespace Go.Proofs.Ytgeefojgkbglnaa
open Go.RowKit Go.Lib
set_option linter.unusedVariables false
set_option linter.unusedSimpArgs false
theorem rwidth_v (r : Int) (hv : vr r) : runes_Width_v r = some ((Utf8.encode r).size : Int) := by
  unfold runes_Width_v
  refine joinI ?_
  by_cases h : r = 65533
  · exact condFI (bne_eq_false_iff_eq.2 h) rfl
  · exact condTI (bne_iff_ne.2 h) (condFI (decide_eq_false (enc_ne_lost r (by unfold vr at hv; omega) h)) rfl)
theorem read_v (s : ByteArray) (a : Nat) (ha : a < s.size) (hsz : s.size ≤ 9223372036854775000) : runes_read_v s (a : Int) = some (pcG ⟨a, (decodeL (s.data.toList.drop a)).2, (decodeL (s.data.toList.drop a)).1⟩) := by
  unfold runes_read_v
  obtain ⟨F, hF, _⟩ := fuel_eq 1 (by omega)
  rw [hF]
  refine joinI (grdI ⟨by omega, by omega, by omega⟩ ?_)
  rw [loopI]
  generalize loopG _ _ F = ag
  unfold runes_read_s1
  have hne : s.data.toList.drop a ≠ [] := by
    intro h; have := congrArg List.length h; simp at this; omega
  have hok := decOk _ hne
  have hlen : (s.data.toList.drop a).length = s.size - a := by simp
  have hle := hok.le
  have e : (cutB s (a : Int) (s.size : Int)).data.toList = s.data.toList.drop a := by unfold cutB; exact ext_end s a
  have hp : pcs (cutB s (a : Int) (s.size : Int)).data.toList = ⟨0, (decodeL (s.data.toList.drop a)).2, (decodeL (s.data.toList.drop a)).1⟩ :: pcsFrom (0 + (decodeL (s.data.toList.drop a)).2) ((s.data.toList.drop a).drop (decodeL (s.data.toList.drop a)).2) := by
    rw [e]; unfold pcs; rw [pcsFrom_cons _ _ hne]
  have hvr : vr ((decodeL (s.data.toList.drop a)).1 : Int) := by have := hok.valid; unfold vr; omega
  refine condTI (decide_eq_true (by rw [hp]; simp)) (thenI (by rw [hp]; rfl) (joinI (thenI (rwidth_v _ hvr) ?_)))
  simp only
  unfold pcG Pc.broken
  have hw := hok.width
  have hl3 := hok.lost_ok
  have hl1 := hok.lost_bad
  generalize decodeL (s.data.toList.drop a) = d at *
  rcases d with ⟨r, w⟩
  simp only at *
  by_cases hr : r = 65533
  · subst hr
    refine condTI (by decide) (grdI ⟨by omega, by omega⟩ ?_)
    by_cases h3 : (s.size : Int) - a < 3
    · refine condTI (decide_eq_true h3) ?_
      have hw1 : w = 1 := by
        by_cases hw1 : w = 1
        · exact hw1
        · have := (hl3 rfl hw1).2; omega
      subst hw1; rfl
    · have e3 := cutB_list s a 3
      refine condFI (decide_eq_false h3) (grdI ⟨by omega, by omega⟩ (grdI ⟨by omega, by omega, by omega⟩ ?_))
      by_cases hw1 : w = 1
      · refine condTI ?_ (by subst hw1; rfl)
        rw [decide_eq_false]
        · rfl
        · intro h
          exact hl1 rfl hw1 (by rw [← e3]; exact congrArg (fun b : ByteArray => b.data.toList) h)
      · obtain ⟨h4, h5⟩ := hl3 rfl hw1
        refine condFI ?_ ?_
        · rw [decide_eq_true]
          · rfl
          · apply ByteArray.ext; apply Array.toList_inj.1; rw [show ((a : Int) + 3) = (a : Int) + (3 : Nat) from rfl, e3, h4]
        · rw [encode_size, hw (by omega)]
          subst h5; rfl
  · refine condFI (by rw [beq_eq_false_iff_ne]; omega) ?_
    rw [encode_size, hw (by omega)]
    have : (r == 65533 && w == 1) = false := by simp [hr]
    rw [this]
/-- Nothing goes over a boundary. -/
theorem boundary_v (s : ByteArray) (a b : List Tok) (hd : s.data.toList = flat (a ++ b)) (hg : Good (a ++ b)) (hsz : s.size ≤ 9223372036854775000) : runes_Boundary_v s ((flat a).length : Int) = some true := by
  have hn : (flat a).length ≤ s.size := by
    have h1 : s.data.toList.length = s.size := by simp
    rw [← h1, hd, flat_append, List.length_append]; omega
  unfold runes_Boundary_v
  refine condFI (decide_eq_false (by omega)) (condFI (decide_eq_false (by omega)) (thenI (a := ((⟨0, 0, 0, false⟩ : Gapi_Piece), false)) ?_ rfl))
  unfold runes_within_v
  refine joinI (grdI ⟨by omega, by omega⟩ ?_)
  have key : ∀ n m : Nat, m ≤ (flat a).length → (flat a).length - m < n → loopG (fun _ => none) (runes_within_s1 s ((flat a).length : Int) (some ((⟨0, 0, 0, false⟩ : Gapi_Piece), false))) n (m : Int) = some ((⟨0, 0, 0, false⟩ : Gapi_Piece), false) := by
    intro n
    induction n with
    | zero => intro m _ h; omega
    | succ n ih =>
      intro m hm hn2
      rw [loopI]
      generalize hag : loopG _ _ n = ag at ih ⊢
      unfold runes_within_s1
      by_cases h : m < (flat a).length
      · have hne : s.data.toList.drop m ≠ [] := by
          intro h; have := congrArg List.length h; simp at this; omega
        have hle := dec_le _ hne
        have hlen : (s.data.toList.drop m).length = s.size - m := by simp
        have ho := no_over a b hg m h
        rw [← hd] at ho
        refine condTI (decide_eq_true (by omega)) (joinI (thenI (read_v s m (by omega) hsz) (grdI ⟨by simp only [pcG]; omega, by simp only [pcG]; omega⟩ ?_)))
        have tail : (grd (I64 ((m : Int) + 1)) <| ag ((m : Int) + 1)) = some ((⟨0, 0, 0, false⟩ : Gapi_Piece), false) := grdI ⟨by omega, by omega⟩ (ih (m + 1) (by omega) (by omega))
        by_cases hb : (decodeL (s.data.toList.drop m)).1 = 65533 ∧ (decodeL (s.data.toList.drop m)).2 = 1
        · have hbr : (pcG ⟨m, (decodeL (s.data.toList.drop m)).2, (decodeL (s.data.toList.drop m)).1⟩).Broken = true := by simp [pcG, Pc.broken, hb]
          cases decide (((flat a).length : Int) < (m : Int) + (pcG ⟨m, (decodeL (s.data.toList.drop m)).2, (decodeL (s.data.toList.drop m)).1⟩).Width)
          · exact condFI rfl tail
          · exact condTI rfl (condFI (by rw [hbr]; rfl) tail)
        · exact condFI (decide_eq_false (by have := ho hb; simp only [pcG]; omega)) tail
      · exact condFI (decide_eq_false (by omega)) rfl
  obtain ⟨m, hm, hm2⟩ : ∃ m : Nat, max (((flat a).length : Int) - 3) 0 = m ∧ m ≤ (flat a).length := ⟨(flat a).length - 3, by omega, by omega⟩
  rw [hm]
  exact key fuel m hm2 (by unfold fuel; omega)
end Go.Proofs.Ytgeefojgkbglnaa
namespace Go.Proofs.Ytgeefojgkbglnaa
open Go.RowKit Go.Lib
set_option linter.unusedVariables false
set_option linter.unusedSimpArgs false
theorem cont_one (x : GT) : cont [x] = x.2.flatMap GU.c := by simp [cont, fl2]
theorem cont_cons (x : GT) (A : List GT) : cont (x :: A) = cont [x] ++ cont A := cont_append [x] A
/-- A word's units: letters, and between them single joints. -/
inductive WG : List GU → Prop
  | one (l : List GU) (h : l ≠ []) (hl : ∀ g ∈ l, g.k = 1) : WG l
  | more (l : List GU) (j : GU) (r : List GU) (h : l ≠ []) (hl : ∀ g ∈ l, g.k = 1) (hj : j.k ≠ 1) (hj2 : oneOf JW (sh j) = true) (hr : WG r) : WG (l ++ j :: r)
theorem WG.cons {g : GU} {l : List GU} (hg : g.k = 1) (h : WG l) : WG (g :: l) := by
  cases h with
  | one _ h hl => exact .one _ (by simp) (fun x hx => by rcases List.mem_cons.1 hx with rfl | hx; exact hg; exact hl x hx)
  | more l j r h hl hj hj2 hr => exact .more (g :: l) j r (by simp) (fun x hx => by rcases List.mem_cons.1 hx with rfl | hx; exact hg; exact hl x hx) hj hj2 hr
theorem WG.head {l : List GU} (h : WG l) : ∃ g gs, l = g :: gs ∧ g.k = 1 := by
  cases h with
  | one _ h hl => rcases l with _ | ⟨g, gs⟩; exact absurd rfl h; exact ⟨g, gs, rfl, hl g (by simp)⟩
  | more l j r h hl hj hj2 hr => rcases l with _ | ⟨g, gs⟩; exact absurd rfl h; exact ⟨g, gs ++ j :: r, rfl, hl g (by simp)⟩
theorem WG.mem {l : List GU} (h : WG l) : ∀ g ∈ l, g.k ≠ 11 := by
  induction h with
  | one l h hl => intro g hg; rw [hl g hg]; decide
  | more l j r h hl hj hj2 hr ih =>
    intro g hg
    rcases List.mem_append.1 hg with hg | hg
    · rw [hl g hg]; decide
    · rcases List.mem_cons.1 hg with rfl | hg
      · simp [oneOf, sh] at hj2; exact hj2.1.2
      · exact ih g hg
theorem isK_map (gs : List GU) (k : Int) (h : isK (gs.map sh) k = true) : ∃ v vs, gs = v :: vs ∧ v.k = k := by
  rcases gs with _ | ⟨v, vs⟩
  · simp [isK] at h
  · exact ⟨v, vs, rfl, by simpa [isK, sh] using h⟩
theorem wg_take : ∀ (n : Nat) (gs : List GU), gs.length ≤ n → ∀ g : GU, g.k = 1 → WG (g :: gs.take (runN 1 JW (gs.map sh)))
  | _, [], _, g, hg => .one _ (by simp) (by simpa using hg)
  | 0, h :: hs, hn, _, _ => by simp at hn
  | n + 1, h :: hs, hn, g, hg => by
    simp only [List.length_cons] at hn
    simp only [List.map_cons, runN]
    by_cases h1 : (sh h).k = 1
    · rw [if_pos h1, Nat.add_comm, List.take_succ_cons]
      exact .cons hg (wg_take n hs (by omega) h h1)
    · rw [if_neg h1]
      by_cases h2 : oneOf JW (sh h) = true ∧ isK (hs.map sh) 1 = true
      · obtain ⟨v, vs, rfl, hv⟩ := isK_map hs 1 h2.2
        have hr : runN 1 JW ((v :: vs).map sh) = 1 + runN 1 JW (vs.map sh) := by
          simp only [List.map_cons, runN]; rw [if_pos (show (sh v).k = 1 from hv)]
        rw [if_pos h2, hr, Nat.add_comm, List.take_succ_cons, Nat.add_comm, List.take_succ_cons]
        simp only [List.length_cons] at hn
        exact .more [g] h _ (by simp) (by simpa using hg) h1 h2.1 (wg_take n vs (by omega) v hv)
      · rw [if_neg h2]; exact .one _ (by simp) (by simpa using hg)
theorem run_letters (rest : List GU) : ∀ l : List GU, (∀ g ∈ l, g.k = 1) → runN 1 JW ((l ++ rest).map sh) = l.length + runN 1 JW (rest.map sh)
  | [], _ => by simp
  | g :: l, h => by
    have ih := run_letters rest l (fun x hx => h x (by simp [hx]))
    simp only [List.cons_append, List.map_cons, runN, List.length_cons]
    rw [if_pos (show (sh g).k = 1 from h g (by simp)), ih]; omega
theorem run_wg {l : List GU} (h : WG l) (rest : List GU) (hr : runN 1 JW (rest.map sh) = 0) : runN 1 JW ((l ++ rest).map sh) = l.length := by
  induction h with
  | one l h hl => rw [run_letters rest l hl, hr]; rfl
  | more l j r h hl hj hj2 hw ih =>
    rw [List.append_assoc, run_letters _ l hl, List.length_append]
    obtain ⟨v, vs, rfl, hv⟩ := hw.head
    simp only [List.cons_append, List.map_cons, runN, List.length_cons] at ih ⊢
    rw [if_pos (show (sh v).k = 1 from hv)] at ih
    rw [if_neg (show ¬ (sh j).k = 1 from hj), if_pos ⟨hj2, by simp [isK, sh, hv]⟩, if_pos (show (sh v).k = 1 from hv)]; omega
theorem gtok_word {l : List GU} (h : WG l) (rest : List GU) (hr : runN 1 JW (rest.map sh) = 0) : gtok (l ++ rest) = (1, l) :: gtok rest := by
  have hrun := run_wg h rest hr
  obtain ⟨g, gs, rfl, hg⟩ := h.head
  have hb : gbh g (gs ++ rest) = gs.length := by
    unfold gbh behind
    rw [if_pos (show (sh g).k = 1 from hg)]
    simp only [List.cons_append, List.map_cons, runN, List.length_cons] at hrun
    rw [if_pos (show (sh g).k = 1 from hg)] at hrun; omega
  have hbg : (begins (sh g)).2 = 1 := by unfold begins; rw [if_pos (show (sh g).k = 1 from hg)]
  rw [List.cons_append, gtok_cons, hb, hbg, List.take_left, List.drop_left]
theorem begins_1 (u : Un) : (begins u).2 = 1 ↔ u.k = 1 := by
  unfold begins; repeat' split
  all_goals simp_all
theorem gtok_wg : ∀ (n : Nat) (gs : List GU), gs.length ≤ n → ∀ x ∈ gtok gs, x.1 = 1 → WG x.2
  | _, [], _, x, h, _ => by rw [gtok_nil] at h; cases h
  | 0, g :: gs, h, _, _, _ => by simp at h
  | n + 1, g :: gs, hl, x, h, h1 => by
    rw [gtok_cons] at h
    rcases List.mem_cons.1 h with rfl | h
    · have hg : g.k = 1 := (begins_1 _).1 h1
      have e : gbh g gs = runN 1 JW (gs.map sh) := by unfold gbh behind; rw [if_pos (show (sh g).k = 1 from hg)]
      show WG (g :: gs.take (gbh g gs))
      rw [e]; exact wg_take _ gs (Nat.le_refl _) g hg
    · exact gtok_wg n _ (by simp at hl ⊢; omega) x h h1
/-! ### Blanks between words -/
def blU : GU := ⟨5, 32, [⟨32, [32]⟩]⟩
def bl : GT := (3, [blU])
def jt : List GT → List GT
  | [] => []
  | x :: xs => bl :: x :: jt xs
def jn : List GT → List GT
  | [] => []
  | x :: xs => x :: jt xs
def Wd (x : GT) : Prop := x.1 = 1 ∧ WG x.2 ∧ Seq x.2 ∧ ∀ t ∈ cont [x], t.valid
theorem fl2_cons (x : GT) (A : List GT) : fl2 (x :: A) = x.2 ++ fl2 A := rfl
theorem gtok_jt : ∀ W : List GT, (∀ x ∈ W, Wd x) → gtok (fl2 (jt W)) = jt W ∧ runN 1 JW ((fl2 (jt W)).map sh) = 0 ∧ Seq (fl2 (jt W)) ∧ (∀ t ∈ cont (jt W), t.valid) ∧ ∀ h, (fl2 (jt W)).head? = some h → h.k ≠ 2
  | [], _ => ⟨by show gtok [] = []; rw [gtok_nil], rfl, trivial, by simp [jt, cont, fl2], by simp [jt, fl2]⟩
  | x :: W, h => by
    obtain ⟨i1, i2, i3, i4, i5⟩ := gtok_jt W (fun y hy => h y (by simp [hy]))
    obtain ⟨h1, h2, h3, h4⟩ := h x (by simp)
    have e : fl2 (jt (x :: W)) = blU :: (x.2 ++ fl2 (jt W)) := rfl
    obtain ⟨g, gs, hx, hg⟩ := h2.head
    have hgb : gbh blU (x.2 ++ fl2 (jt W)) = 0 := by
      rw [hx]
      unfold gbh behind
      rw [if_neg (by decide), if_neg (by decide), if_pos (by decide)]
      simp only [List.cons_append, List.map_cons, runN]
      rw [if_neg (by show ¬ g.k = 5; omega), if_neg]
      simp [oneOf]
    refine ⟨?_, ?_, ?_, ?_, ?_⟩
    · rw [e, gtok_cons, hgb, List.drop_zero, List.take_zero, gtok_word h2 _ i2, i1]
      show (_ : GT) :: (1, x.2) :: jt W = bl :: x :: jt W
      rw [← h1]; rfl
    · rw [e]
      simp only [List.map_cons, runN]
      rw [if_neg (by decide), if_neg]
      rintro ⟨a, _⟩
      revert a; decide
    · rw [e]
      refine ⟨⟨⟨32, [32]⟩, [], rfl, by decide +kernel, rfl, by simp, fun _ => rfl⟩, fun _ y hy => ?_, ?_⟩
      · rw [hx] at hy; simp at hy; subst hy; omega
      · have : ∀ (a b : List GU), Seq a → Seq b → (∀ h, b.head? = some h → h.k ≠ 2) → Seq (a ++ b) := by
          intro a b ha hb hh
          induction a with
          | nil => exact hb
          | cons y a ih =>
            refine ⟨ha.1, fun hu z hz => ?_, ih ha.2.2⟩
            rcases a with _ | ⟨c, a⟩
            · exact hh z hz
            · exact ha.2.1 hu z hz
        exact this _ _ h3 i3 i5
    · intro t ht
      have e2 : cont (jt (x :: W)) = ⟨32, [32]⟩ :: (cont [x] ++ cont (jt W)) := by
        show cont (bl :: x :: jt W) = _
        rw [cont_cons, cont_cons x]; rfl
      rw [e2] at ht
      rcases List.mem_cons.1 ht with rfl | ht
      · exact ⟨.inl (by decide), by decide⟩
      · rcases List.mem_append.1 ht with ht | ht
        · exact h4 t ht
        · exact i4 t ht
    · intro y hy
      rw [e] at hy; simp at hy; subst hy; decide
theorem good_valid {ts : List Tok} (h : ∀ t ∈ ts, t.valid) : Good ts := by
  have := toks_valids h []
  rw [List.append_nil, toks_nil, List.append_nil] at this; exact this
theorem jn_G (W : List GT) (h : ∀ x ∈ W, Wd x) : G (cont (jn W)) = jn W ∧ Good (cont (jn W)) := by
  rcases W with _ | ⟨x, W⟩
  · refine ⟨?_, good_valid (by simp [jn, cont, fl2])⟩
    show gtok (gun []) = []
    rw [gun, gtok_nil]
  · obtain ⟨i1, i2, i3, i4, i5⟩ := gtok_jt W (fun y hy => h y (by simp [hy]))
    obtain ⟨h1, h2, h3, h4⟩ := h x (by simp)
    refine ⟨?_, good_valid ?_⟩
    · have hs : Seq (x.2 ++ fl2 (jt W)) := by
        have hb : Seq (fl2 (jt (x :: W))) := (gtok_jt (x :: W) h).2.2.1
        exact hb.2.2
      have e : cont (jn (x :: W)) = (x.2 ++ fl2 (jt W)).flatMap GU.c := rfl
      unfold G
      rw [e, gun_seq hs, gtok_word h2 _ i2, i1]
      show (1, x.2) :: jt W = x :: jt W
      rw [← h1]
    · intro t ht
      have e : cont (jn (x :: W)) = cont [x] ++ cont (jt W) := cont_cons x (jt W)
      rw [e] at ht
      rcases List.mem_append.1 ht with ht | ht
      · exact h4 t ht
      · exact i4 t ht
def wf1 (x : GT) : Bool := x.1 == 1
theorem jt_filter : ∀ W : List GT, (∀ x ∈ W, Wd x) → (jt W).filter wf1 = W
  | [], _ => rfl
  | x :: W, h => by
    have h1 : wf1 x = true := by simp [wf1, (h x (by simp)).1]
    show (bl :: x :: jt W).filter wf1 = _
    rw [List.filter_cons_of_neg (by decide), List.filter_cons_of_pos h1, jt_filter W (fun y hy => h y (by simp [hy]))]
theorem jn_filter (W : List GT) (h : ∀ x ∈ W, Wd x) : (jn W).filter wf1 = W := by
  rcases W with _ | ⟨x, W⟩
  · rfl
  · have h1 : wf1 x = true := by simp [wf1, (h x (by simp)).1]
    show (x :: jt W).filter wf1 = _
    rw [List.filter_cons_of_pos h1, jt_filter W (fun y hy => h y (by simp [hy]))]
/-- A text's words. -/
theorem wd_of (ts : List Tok) (hg : Good ts) (x : GT) (hx : x ∈ G ts) (h1 : x.1 = 1) : Wd x := by
  have hw := gtok_wg _ _ (Nat.le_refl _) x hx h1
  obtain ⟨A, B, hAB⟩ := List.append_of_mem hx
  have hs := seq_gun _ ts (Nat.le_refl _)
  obtain ⟨_, _, h3⟩ := gtok_split A _ (x :: B) hAB
  rw [h3, fl2_cons] at hs
  have hsx : Seq x.2 := hs.append_right.append_left
  refine ⟨h1, hw, hsx, fun t ht => ?_⟩
  obtain ⟨_, _, h4⟩ := G_split ts A (x :: B) hAB
  have hmem : t ∈ ts := by rw [h4, cont_cons]; simp [ht]
  rcases good_ok hg t hmem with h | h
  · exact h
  · exfalso
    rw [cont_one] at ht
    obtain ⟨g, hgm, htg⟩ := List.mem_flatMap.1 ht
    have hk := hw.mem g hgm
    obtain ⟨t0, m, e1, e2, e3, e4, e5⟩ := hsx.ok g hgm
    have hb : tkd t = 11 := by unfold tkd kindOf; rw [h]; rfl
    rw [e1] at htg
    rcases List.mem_cons.1 htg with rfl | htg
    · omega
    · have := e4 t htg
      unfold isMk at this; rw [hb] at this; simp at this
theorem Wd.alone {x : GT} (h : Wd x) : G (cont [x]) = [x] ∧ Good (cont [x]) := by
  obtain ⟨h1, h2, h3, h4⟩ := h
  refine ⟨?_, good_valid h4⟩
  unfold G
  rw [cont_one, gun_seq h3]
  have := gtok_word h2 [] rfl
  rw [List.append_nil] at this
  rw [this, gtok_nil, ← h1]
theorem Wd.part {x : GT} (h : Wd x) (A l B : List GU) (hx : x.2 = A ++ (l ++ B)) (hn : l ≠ []) (hl : ∀ g ∈ l, g.k = 1) : Wd (1, l) := by
  obtain ⟨h1, h2, h3, h4⟩ := h
  refine ⟨rfl, .one l hn hl, ?_, fun t ht => h4 t ?_⟩
  · rw [hx] at h3; exact h3.append_right.append_left
  · rw [cont_one] at ht ⊢
    rw [hx]; simp only [List.flatMap_append, List.mem_append]
    exact .inr (.inl ht)
end Go.Proofs.Ytgeefojgkbglnaa
namespace Go.Proofs.Ytgeefojgkbglnaa
open Go.RowKit Go.Lib
set_option linter.unusedVariables false
set_option linter.unusedSimpArgs false
theorem cutB_app {s : ByteArray} {x y z : List UInt8} {i j : Int} (h : s.data.toList = x ++ (y ++ z)) (hi : i = x.length) (hj : j = x.length + y.length) : (cutB s i j).data.toList = y := by
  subst hi; subst hj
  have e := cutB_list s x.length y.length
  rw [e, h, List.drop_left' rfl, List.take_left' rfl]
theorem ba_eq {a b : ByteArray} (h : a.data.toList = b.data.toList) : a = b := by
  apply ByteArray.ext; exact Array.toList_inj.1 h
/-- A word's text. -/
def txB (x : GT) : ByteArray := ⟨(flat (cont [x])).toArray⟩
theorem txB_list (x : GT) : (txB x).data.toList = flat (cont [x]) := by simp [txB]
theorem txB_size (x : GT) : (txB x).size = tl x := by
  have h : (txB x).size = (txB x).data.toList.length := by simp
  rw [h, txB_list, tot_len]; simp [tot]
def cw (s : ByteArray) (w : Nat × Nat) : ByteArray := cutB s (w.1 : Int) (w.2 : Int)
theorem wds_txt (s : ByteArray) (L : List GT) (hd : s.data.toList = flat (cont L)) : ∀ (B A : List GT), L = A ++ B → (wds (posT (tot A) B)).map (cw s) = (B.filter wf1).map txB
  | [], A, _ => rfl
  | x :: B, A, h => by
    have ih := wds_txt s L hd B (A ++ [x]) (by rw [h]; simp)
    have ht : tot (A ++ [x]) = tot A + tl x := by simp [tot]
    rw [ht] at ih
    by_cases hk : x.1 = 1
    · have e : wds (posT (tot A) (x :: B)) = (tot A, tot A + tl x) :: wds (posT (tot A + tl x) B) := by
        show wds (⟨x.1, tot A, tot A + tl x⟩ :: posT (tot A + tl x) B) = _
        simp [wds, hk]
      have e2 : cw s (tot A, tot A + tl x) = txB x := by
        apply ba_eq
        rw [txB_list]
        refine cutB_app (x := flat (cont A)) (z := flat (cont B)) ?_ (by rw [tot_len]) ?_
        · rw [hd, h, cont_append, flat_append, cont_cons x B, flat_append]
        · rw [tot_len, tot_len]; simp [tot]
      rw [e, List.map_cons, ih, e2, List.filter_cons_of_pos (by simp [wf1, hk])]; rfl
    · have e : wds (posT (tot A) (x :: B)) = wds (posT (tot A + tl x) B) := by
        show wds (⟨x.1, tot A, tot A + tl x⟩ :: posT (tot A + tl x) B) = _
        simp [wds, hk]
      rw [e, ih, List.filter_cons_of_neg (by simp [wf1, hk])]
theorem ws_txt (s : ByteArray) (L : List GT) (hd : s.data.toList = flat (cont L)) (ht : tksOf s = posT 0 L) : (wsOf s).map (cw s) = (L.filter wf1).map txB := by
  unfold wsOf; rw [ht]; exact wds_txt s L hd L [] rfl
def pst (o b : ByteArray) : ByteArray := (if 0 < o.size then o ++ ⟨#[32]⟩ else o) ++ b
theorem plF_cw (s : ByteArray) (l : List (Nat × Nat)) : plF s l = (l.map (cw s)).foldl pst ⟨#[]⟩ := by
  rw [List.foldl_map]; rfl
theorem pst_jt : ∀ (W : List GT) (o : ByteArray), 0 < o.size → ((W.map txB).foldl pst o).data.toList = o.data.toList ++ flat (cont (jt W))
  | [], o, _ => by simp [jt, cont, fl2, flat]
  | x :: W, o, ho => by
    have e2 : cont (jt (x :: W)) = ⟨32, [32]⟩ :: (cont [x] ++ cont (jt W)) := by
      show cont (bl :: x :: jt W) = _
      rw [cont_cons, cont_cons x]; rfl
    rw [List.map_cons, List.foldl_cons, pst_jt W (pst o (txB x)) (by unfold pst; rw [if_pos ho]; simp [ByteArray.size_append]; omega), e2, flat_cons, flat_append]
    unfold pst
    rw [if_pos ho]
    simp [txB_list]
theorem pst_jn (W : List GT) (h : ∀ x ∈ W, Wd x) : ((W.map txB).foldl pst ⟨#[]⟩).data.toList = flat (cont (jn W)) := by
  rcases W with _ | ⟨x, W⟩
  · simp [jn, cont, fl2, flat]
  · have hpos : 0 < tl x := by
      obtain ⟨g, gs, hx, hg⟩ := (h x (by simp)).2.1.head
      obtain ⟨t, m, e1, _⟩ := (h x (by simp)).2.2.1.ok g (by rw [hx]; simp)
      have hv := (h x (by simp)).2.2.2 t (by rw [cont_one, hx, List.flatMap_cons, e1]; simp)
      have hne := bs_ne (.inl hv)
      have : 0 < t.bs.length := List.length_pos_iff.2 hne
      have e : gl g = t.bs.length + (flat m).length := by unfold gl; rw [e1, flat_cons, List.length_append]
      unfold tl; rw [hx, List.map_cons, List.sum_cons, e]; omega
    have e0 : pst ⟨#[]⟩ (txB x) = txB x := by
      apply ba_eq; unfold pst; rw [if_neg (by decide)]; simp
    rw [List.map_cons, List.foldl_cons, e0, pst_jt W _ (by rw [txB_size]; exact hpos), txB_list, ← flat_append]
    exact congrArg flat (cont_cons x (jt W)).symm
/-! ### A word's parts -/
theorem isw_of (x : GT) (h : Wd x) (q : ByteArray) (hq : q.data.toList = flat (cont [x])) : tksOf q = [⟨1, 0, tl x⟩] ∧ isWord (tksOf q) q.size = true := by
  obtain ⟨h1, h2⟩ := h.alone
  have e := tks_of q [x] hq h2 h1
  have e2 : posT 0 [x] = [⟨1, 0, tl x⟩] := by simp [posT, h.1]
  rw [e2] at e
  exact ⟨e, (isWord_iff q).2 ⟨_, e, rfl⟩⟩
theorem us_word (x : GT) (h : Wd x) (q : ByteArray) (hq : q.data.toList = flat (cont [x])) : usOf q = posU 0 x.2 := by
  have h2 : toks (flat (cont [x])) = cont [x] := h.alone.2
  rw [us_pos, hq, h2, cont_one, gun_seq h.2.2.1]
def gsum (l : List GU) : Nat := (l.map gl).sum
theorem gsum_append (a b : List GU) : gsum (a ++ b) = gsum a + gsum b := by simp [gsum]
theorem fold_letters (M : List (Nat × Nat)) (i : Nat) : ∀ (l : List GU) (j z : Nat), l ≠ [] → (∀ g ∈ l, g.k = 1) → (posU j l).foldl ptstep (M ++ [(i, z)]) = M ++ [(i, j + gsum l)]
  | [], _, _, h, _ => absurd rfl h
  | g :: l, j, z, _, hl => by
    have e : ptstep (M ++ [(i, z)]) ⟨g.k, g.r, j, j + gl g, g.c.length == 1⟩ = M ++ [(i, j + gl g)] := by
      unfold ptstep
      rw [if_pos (hl g (by simp))]; simp
    simp only [posU, List.foldl_cons]
    rw [e]
    rcases l with _ | ⟨g', l⟩
    · simp [posU, gsum]
    · rw [fold_letters M i (g' :: l) _ _ (by simp) (fun y hy => hl y (by simp [hy]))]
      simp [gsum, Nat.add_assoc]
theorem posU_append : ∀ (a b : List GU) (i : Nat), posU i (a ++ b) = posU i a ++ posU (i + gsum a) b
  | [], b, i => by simp [posU, gsum]
  | g :: a, b, i => by
    simp only [List.cons_append, posU, posU_append a b]
    simp [gsum, Nat.add_assoc]
theorem parts_wg {l : List GU} (h : WG l) : ∀ (M : List (Nat × Nat)) (i z : Nat), ∃ P, (posU i l).foldl ptstep (M ++ [(i, z)]) = M ++ P ∧ (∃ t P', P = (i, t) :: P') ∧ (∃ f P', P = P' ++ [(f, i + gsum l)]) ∧
    ∀ q ∈ P, ∃ A m B, l = A ++ (m ++ B) ∧ m ≠ [] ∧ (∀ g ∈ m, g.k = 1) ∧ q = (i + gsum A, i + gsum A + gsum m) := by
  induction h with
  | one l h hl =>
    intro M i z
    refine ⟨_, fold_letters M i l i z h hl, ⟨_, _, rfl⟩, ⟨i, [], rfl⟩, fun q hq => ⟨[], l, [], by simp, h, hl, ?_⟩⟩
    simp at hq; rw [hq]; simp [gsum]
  | more l j r h hl hj hj2 hr ih =>
    intro M i z
    obtain ⟨P, h1, ⟨t, P1, h2⟩, ⟨f, P2, h3⟩, h4⟩ := ih (M ++ [(i, i + gsum l)]) (i + gsum l + gl j) 0
    refine ⟨(i, i + gsum l) :: P, ?_, ⟨_, _, rfl⟩, ⟨f, (i, i + gsum l) :: P2, ?_⟩, ?_⟩
    · rw [posU_append, List.foldl_append, fold_letters M i l i z h hl]
      simp only [posU, List.foldl_cons]
      have e : ptstep (M ++ [(i, i + gsum l)]) ⟨j.k, j.r, i + gsum l, i + gsum l + gl j, j.c.length == 1⟩ = M ++ [(i, i + gsum l)] ++ [(i + gsum l + gl j, 0)] := by
        unfold ptstep; rw [if_neg hj]
      rw [e, h1]; simp
    · rw [h3]
      have : i + gsum (l ++ j :: r) = i + gsum l + gl j + gsum r := by rw [gsum_append]; simp [gsum, Nat.add_assoc]
      rw [this]; rfl
    · intro q hq
      rcases List.mem_cons.1 hq with rfl | hq
      · exact ⟨[], l, j :: r, by simp, h, hl, by simp [gsum]⟩
      · obtain ⟨A, m, B, e1, e2, e3, e4⟩ := h4 q hq
        refine ⟨l ++ j :: A, m, B, by rw [e1]; simp, e2, e3, ?_⟩
        rw [e4, gsum_append]
        have : gsum (j :: A) = gl j + gsum A := by simp [gsum]
        rw [this]; simp [Nat.add_assoc]
/-- A word's parts: they go from its beginning to its end, and each of them is a word. -/
theorem parts_word (x : GT) (h : Wd x) (q : ByteArray) (hq : q.data.toList = flat (cont [x])) : ∃ P, ptsG q = (P.map spG, 0) ∧ (∃ t P', P = (0, t) :: P') ∧ (∃ f P', P = P' ++ [(f, q.size)]) ∧
    ∀ w ∈ P, w.1 ≤ w.2 ∧ w.2 ≤ q.size ∧ isWord (tksOf (cw q w)) (cw q w).size = true := by
  obtain ⟨P, h1, h2, ⟨f, P', h3⟩, h4⟩ := parts_wg h.2.1 [] 0 0
  have hsz : q.size = gsum x.2 := by
    have e : q.size = q.data.toList.length := by simp
    rw [e, hq, cont_one, gu_len]; rfl
  rw [Nat.zero_add] at h3
  refine ⟨P, ?_, h2, ⟨f, P', by rw [h3, hsz]⟩, fun w hw => ?_⟩
  · unfold ptsG
    rw [if_pos (isw_of x h q hq).2, us_word x h q hq]
    have e : partsF (posU 0 x.2) = P := by unfold partsF; rw [← List.nil_append [(0, 0)], h1]; rfl
    rw [e]
  · obtain ⟨A, m, B, e1, e2, e3, rfl⟩ := h4 w hw
    have hg : gsum x.2 = gsum A + (gsum m + gsum B) := by rw [e1, gsum_append, gsum_append]
    refine ⟨by simp only; omega, by simp only; omega, ?_⟩
    refine (isw_of (1, m) (h.part A m B e1 e2 e3) _ ?_).2
    have hfl : ∀ l : List GU, (flat (l.flatMap GU.c)).length = gsum l := fun l => gu_len l
    refine cutB_app (x := flat (A.flatMap GU.c)) (z := flat (B.flatMap GU.c)) ?_ ?_ ?_
    · rw [hq, cont_one, cont_one, e1]
      simp only [List.flatMap_append, flat_append]
    · rw [hfl]; simp
    · rw [hfl, cont_one, hfl]; simp
/-! ### Trim -/
def gap (x : GT) : Prop := x.1 = 3 ∨ x.1 = 4
instance (x : GT) : Decidable (gap x) := by unfold gap; infer_instance
theorem gaps (L : List GT) : (∀ x ∈ L, gap x) ∨ ∃ A M y B, L = A ++ (M ++ y :: B) ∧ (∀ x ∈ A, gap x) ∧ (∀ x ∈ B, gap x) ∧ ¬ gap y ∧ ∀ x, (M ++ [y]).head? = some x → ¬ gap x := by
  induction L with
  | nil => left; simp
  | cons x L ih =>
    by_cases hx : gap x
    · rcases ih with h | ⟨A, M, y, B, h1, h2, h3, h4, h5⟩
      · left; intro z hz
        rcases List.mem_cons.1 hz with rfl | hz
        · exact hx
        · exact h z hz
      · right
        refine ⟨x :: A, M, y, B, by rw [h1]; rfl, fun z hz => ?_, h3, h4, h5⟩
        rcases List.mem_cons.1 hz with rfl | hz
        · exact hx
        · exact h2 z hz
    · right
      rcases ih with h | ⟨A, M, y, B, h1, h2, h3, h4, h5⟩
      · exact ⟨[], [], x, L, rfl, by simp, h, hx, by simpa using hx⟩
      · exact ⟨[], x :: (A ++ M), y, B, by rw [h1]; simp, by simp, h3, h4, by simpa using hx⟩
theorem trim_gaps : ∀ (B : List GT) (i : Nat) (S : Bool × Nat × Nat), (∀ x ∈ B, gap x) → (posT i B).foldl tstep S = S
  | [], _, _, _ => rfl
  | x :: B, i, S, h => by
    simp only [posT, List.foldl_cons]
    have e : tstep S ⟨x.1, i, i + tl x⟩ = S := by unfold tstep; rw [if_pos (show x.1 = 3 ∨ x.1 = 4 from h x (by simp))]
    rw [e, trim_gaps B _ S (fun y hy => h y (by simp [hy]))]
theorem trim_keep (a : Nat) : ∀ (B : List GT) (i b : Nat), ∃ b', (posT i B).foldl tstep (true, a, b) = (true, a, b')
  | [], _, b => ⟨b, rfl⟩
  | x :: B, i, b => by
    simp only [posT, List.foldl_cons]
    by_cases hk : gap x
    · have e : tstep (true, a, b) ⟨x.1, i, i + tl x⟩ = (true, a, b) := by unfold tstep; rw [if_pos (show x.1 = 3 ∨ x.1 = 4 from hk)]
      rw [e]; exact trim_keep a B _ b
    · have e : tstep (true, a, b) ⟨x.1, i, i + tl x⟩ = (true, a, i + tl x) := by unfold tstep; rw [if_neg (show ¬ (x.1 = 3 ∨ x.1 = 4) from hk)]; rfl
      rw [e]; exact trim_keep a B _ _
theorem trim_mid (M : List GT) (y : GT) (i : Nat) (hy : ¬ gap y) (hh : ∀ x, (M ++ [y]).head? = some x → ¬ gap x) : (posT i (M ++ [y])).foldl tstep (false, 0, 0) = (true, i, i + tot (M ++ [y])) := by
  have ht : tot (M ++ [y]) = tot M + tl y := by simp [tot]
  rw [posT_append, List.foldl_append]
  have last : ∀ S, (posT (i + tot M) [y]).foldl tstep S = (true, if S.1 = true then S.2.1 else i + tot M, i + tot M + tl y) := fun S => by
    show tstep S ⟨y.1, i + tot M, i + tot M + tl y⟩ = _
    unfold tstep; rw [if_neg (show ¬ (y.1 = 3 ∨ y.1 = 4) from hy)]
  rw [last, ht]
  rcases M with _ | ⟨x, M⟩
  · simp [posT, tot]
  · have hx : ¬ gap x := hh x rfl
    have e : tstep (false, 0, 0) ⟨x.1, i, i + tl x⟩ = (true, i, i + tl x) := by unfold tstep; rw [if_neg (show ¬ (x.1 = 3 ∨ x.1 = 4) from hx)]; rfl
    obtain ⟨b', hb⟩ := trim_keep i M (i + tl x) (i + tl x)
    have e2 : (posT i (x :: M)).foldl tstep (false, 0, 0) = (true, i, b') := by
      simp only [posT, List.foldl_cons]
      rw [e, hb]
    rw [e2]; simp [Nat.add_assoc]
/-- Trimmed: once is enough, and the words stay. -/
theorem trim_law (s : ByteArray) : trimS (trimS s) = trimS s ∧ ∃ L, (trimS s).data.toList = flat (cont L) ∧ tksOf (trimS s) = posT 0 L ∧ L.filter wf1 = (G (toks s.data.toList)).filter wf1 := by
  have hdef : ∀ q : ByteArray, trimS q = q.extract (trimF (tksOf q)).2.1 (trimF (tksOf q)).2.2 := fun _ => rfl
  rcases gaps (G (toks s.data.toList)) with h | ⟨A, M, y, B, hL, hA, hB, hy, hh⟩
  · have e : trimF (tksOf s) = (false, 0, 0) := by rw [tks_pos]; exact trim_gaps _ _ _ h
    have e2 : trimS s = ⟨#[]⟩ := by rw [hdef, e]; apply ba_eq; simp
    have e3 : tksOf (⟨#[]⟩ : ByteArray) = posT 0 [] := by
      rw [tks_pos]
      show posT 0 (gtok (gun (toks []))) = _
      rw [toks_nil, gun, gtok_nil]
    rw [e2]
    refine ⟨?_, [], rfl, e3, ?_⟩
    · rw [hdef, e3]; apply ba_eq; simp [posT, trimF]
    · rw [List.filter_nil, eq_comm, List.filter_eq_nil_iff]
      intro x hx
      have := h x hx
      unfold gap at this
      simp [wf1]; omega
  · have hL2 : G (toks s.data.toList) = A ++ ((M ++ [y]) ++ B) := by rw [hL]; simp
    obtain ⟨g1, g2, g3⟩ := G_split _ _ _ hL2
    obtain ⟨g4, g5, g6⟩ := G_split _ _ _ g2
    have hg := good_toks s.data.toList
    rw [g3, g6] at hg
    have hgM : Good (cont (M ++ [y])) := good_take (good_drop hg)
    have hd : s.data.toList = flat (cont A) ++ (flat (cont (M ++ [y])) ++ flat (cont B)) := by
      rw [← flat_append, ← flat_append, ← g6, ← g3, flat_toks]
    have e : trimF (tksOf s) = (true, tot A, tot A + tot (M ++ [y])) := by
      unfold trimF
      rw [tks_pos, hL2, posT_append, List.foldl_append, trim_gaps A _ _ hA, posT_append, List.foldl_append, Nat.zero_add, trim_mid M y _ hy hh, trim_gaps B _ _ hB]
    have e2 : (trimS s).data.toList = flat (cont (M ++ [y])) := by
      rw [hdef, e]
      have := cutB_app (i := (tot A : Int)) (j := ((tot A + tot (M ++ [y]) : Nat) : Int)) hd (by rw [tot_len]) (by rw [tot_len, tot_len]; simp)
      exact this
    have e3 := tks_of (trimS s) _ e2 hgM g4
    refine ⟨?_, M ++ [y], e2, e3, ?_⟩
    · apply ba_eq
      have e4 : trimF (tksOf (trimS s)) = (true, 0, tot (M ++ [y])) := by
        unfold trimF; rw [e3, trim_mid M y 0 hy hh, Nat.zero_add]
      rw [hdef (trimS s), e4]
      have := cutB_app (s := trimS s) (x := []) (y := flat (cont (M ++ [y]))) (z := []) (i := ((0 : Nat) : Int)) (j := ((tot (M ++ [y]) : Nat) : Int)) (by rw [e2]; simp) rfl (by rw [tot_len]; simp)
      rw [e2]
      exact this
    · have hn : ∀ l : List GT, (∀ x ∈ l, gap x) → l.filter wf1 = [] := fun l hl => by
        rw [List.filter_eq_nil_iff]
        intro x hx
        have := hl x hx
        unfold gap at this
        simp [wf1]; omega
      rw [hL2]; simp only [List.filter_append]; rw [hn A hA, hn B hB]; simp
end Go.Proofs.Ytgeefojgkbglnaa
namespace Go.Proofs.Ytgeefojgkbglnaa
open Go.RowKit Go.Lib
set_option linter.unusedVariables false
set_option linter.unusedSimpArgs false
def law07_tokens_s1 (x1 : Tk) (ag1 : (List Gapi_Token) → Option (List Gapi_Token)) (l4 : List Gapi_Token) : Option (List Gapi_Token) := grd (l4.length + 1 ≤ 2147483648) <| ag1 (l4 ++ [(⟨x1.k, (x1.f : Int), (x1.t : Int)⟩ : Gapi_Token)])
def law07_tokens_v (s1 : ByteArray) : Option (List Gapi_Token) := joinK (fun (j1 : (List Gapi_Token) → Option (List Gapi_Token)) => grd (s1.size ≤ 4611686018427387904) <| joinK (fun (d1 : (List Gapi_Token) → Option (List Gapi_Token)) => rangeG d1 (law07_tokens_s1) (tksOf s1) ([] : List Gapi_Token)
) (fun (l4 : List Gapi_Token) => j1 l4
)
) (fun (l1 : List Gapi_Token) => some l1
)
set_option maxRecDepth 100000 in
set_option maxHeartbeats 4000000 in
theorem law07_tokens_fn {s1 : ByteArray} {r : (List Gapi_Token)} (h : law07_tokens_v s1 = some r) : Fn Try.prog 24 [.string s1] [] (fun v0 : Value => v0) (fun v0 => [vec enc_Gapi_Token 36 3 v0 r]) := by
 unfold law07_tokens_v at h
 refine Fn.intro Try.func24 rfl Try.ntmps24 (by simp) ?_
 intro w0 K
 refine TC.star0 ?_
 show TC _ _ _ _ _ _ _ _ _ [star ((([] : List Nat) : List Nat).map mark)]
 obtain ⟨j1, hj1, h⟩ := joinE h
 refine TC.cutN (β := (List Gapi_Token) × Nat × Value × (List Nat)) 2 rfl (fun b => j1 b.1 = some r) (fun b => marksOf b.2.2.2) (fun b => [(3, .pointer (some ⟨b.2.1, 0, none⟩))]) (fun b => [cells b.2.1 [b.2.2.1] 23, vec enc_Gapi_Token 36 3 b.2.2.1 b.1, star ((b.2.2.2 : List Nat).map mark)]) (fun cut => ?_) ?_
 ·
  refine TC.seq (TC.region (TO.assign rfl (by decide) rfl (TO.nil (TX.next (TC.seq (TC.region ?_))))))
  refine TO.alloc zr_23 rfl (by decide) (fun b2 => ?_)
  refine TO.nil (TX.next (cut (TC.seq (TC.region (TO.move rfl (by decide) rfl (TO.call (vs := [.string s1]) rfl (by decide) rfl rfl rfl en_15 (scan_fn s1) Splits.nil ?_))))))
  rintro b3
  show TO _ _ _ _ _ _ _ _ _ _ [star ((([] : List Nat) : List Nat).map mark), cells b2 [.slice none 0 0] 23, cells b3 [.string s1] 9]
  refine TO.nil (TX.next (TC.block ?_))
  obtain ⟨hg1, h⟩ := grdE h
  refine TC.newVec (enc := enc_Gapi_Token) (e := 36) (size := 3) ?_
  show TC _ _ _ _ _ _ _ _ _ [star ((([] : List Nat) : List Nat).map mark), cells b2 [.slice none 0 0] 23, cells b3 [.string s1] 9, vec enc_Gapi_Token 36 3 (.slice none 0 0) ([] : List Gapi_Token)]
  obtain ⟨d1, hd1, h⟩ := joinE h
  refine TC.range (α := Tk) (β := (List Gapi_Token) × Value) (γ := Unit) (δ := Nat) (ps := [7]) Ro.nil rfl en_46 (scan1_itr s1 hg1 b3) (fun pre b => ∀ post, tksOf s1 = pre ++ post → rangeG d1 (law07_tokens_s1) post b.1 = some r) (fun pre b => [cells b2 [b.2] 23, vec enc_Gapi_Token 36 3 b.2 b.1]) (fun c pre g => False) (fun c pre g => []) (fun pre x b j => [(2, .slice none 0 0), (3, .pointer (some ⟨b2, 0, none⟩)), (6, .func (.func 46) #[] #[.pointer (some ⟨b3, 0, none⟩)]), (4, .pointer (some ⟨j, 0, none⟩))]) (fun pre x b j => [cells b2 [b.2] 23, vec enc_Gapi_Token 36 3 b.2 b.1, cells j [.int .i64 x.k, .int .i64 (x.f : Int), .int .i64 (x.t : Int)] 36]) (([] : List Gapi_Token), (.slice none 0 0)) (fun post e => by rw [List.nil_append] at e; subst e; exact h) (Splits.of [1, 3] (by as_aux_lemma => kernel_rfl) rfl) ⟨.inl ⟨2, rfl⟩, trivial⟩ (fun _ => rfl) (by decide) ?_ ?_ ?_ ?_
  ·
   rintro lp rc pre x1 post ⟨l4, v4⟩ w1 K1 hxs1 hext hro hinv
   refine TC.region ?_
   refine TO.alloc zr_36 rfl (by decide) (fun b4 => ?_)
   refine TO.stores (k := 2) (vs := [.int .i64 x1.k, .int .i64 (x1.f : Int), .int .i64 (x1.t : Int)]) (l' := [.int .i64 x1.k, .int .i64 (x1.f : Int), .int .i64 (x1.t : Int)]) sz_36 rfl rfl rfl rfl rfl (show _ ≤ _ by simp) rfl rfl ?_
   show TO _ _ _ _ _ _ _ _ _ _ [cells b2 [v4] 23, vec enc_Gapi_Token 36 3 v4 l4, cells b4 [.int .i64 x1.k, .int .i64 (x1.f : Int), .int .i64 (x1.t : Int)] 36]
   refine TO.nil ?_
   exact fun a w ha hw => ⟨b4, (Sbs.cons rfl (Sbs.cons rfl (Sbs.cons rfl (Sbs.cons rfl (Sbs.nil))))) _ _ _ ha, hw.weaken (Splits.of [0, 1, 2] (by as_aux_lemma => kernel_rfl) rfl)⟩
  ·
   rintro lp rc pre x1 post1 ⟨l4, v4⟩ jb1 w1 K1 hxs1 hext hro hinv
   have h := hinv (x1 :: post1) hxs1
   obtain ⟨ag1, hag1⟩ : ∃ ag, ag = rangeG d1 (law07_tokens_s1) post1 := ⟨_, rfl⟩
   have h : law07_tokens_s1 x1 ag1 l4 = some r := by rw [hag1]; exact h
   unfold law07_tokens_s1 at h
   show TC _ _ _ _ _ _ _ _ [(2, .slice none 0 0), (3, .pointer (some ⟨b2, 0, none⟩)), (6, .func (.func 46) #[] #[.pointer (some ⟨b3, 0, none⟩)]), (4, .pointer (some ⟨jb1, 0, none⟩))] [cells b2 [v4] 23, vec enc_Gapi_Token 36 3 v4 l4, cells jb1 [.int .i64 x1.k, .int .i64 (x1.f : Int), .int .i64 (x1.t : Int)] 36]
   refine TC.block (TC.region (TO.load (k := 0) sc_23 rfl (by decide) rfl rfl rfl (TO.loads (k := 2) (cs := [.int .i64 x1.k, .int .i64 (x1.f : Int), .int .i64 (x1.t : Int)]) rw_36 rfl (by decide) rfl rfl rfl rfl ?_)))
   refine TO.buildSlice (cs := [.int .i64 x1.k, .int .i64 (x1.f : Int), .int .i64 (x1.t : Int)]) (te := 36) (ps := [(0, .tmp 9)]) rfl (by decide) rfl (fun _ => by kernel_rfl) (fun b5 => ?_)
   obtain ⟨hg2, h⟩ := grdE h
   refine TO.appendVec (k := 1) (k2 := 3) (ys := [(⟨x1.k, (x1.f : Int), (x1.t : Int)⟩ : Gapi_Token)]) Try.underlying23 el_36 enc_Gapi_Token_len enc_Gapi_Token_one rfl (by decide) rfl rfl rfl rfl rfl rfl hg2 (fun v5 => ?_)
   show TO _ _ _ _ _ _ _ _ _ _ [cells b2 [v4] 23, vec enc_Gapi_Token 36 3 v5 (l4 ++ [(⟨x1.k, (x1.f : Int), (x1.t : Int)⟩ : Gapi_Token)]), cells jb1 [.int .i64 x1.k, .int .i64 (x1.f : Int), .int .i64 (x1.t : Int)] 36, cells b5 [.int .i64 x1.k, .int .i64 (x1.f : Int), .int .i64 (x1.t : Int)] 36]
   refine TO.store (k := 0) (l' := [v5]) sz_23 rfl rfl rfl rfl rfl (fun _ h => one_vec h (k := 1) rfl) rfl ?_
   refine TO.nil (TX.blockNormal ?_)
   exact TX.round (l4 ++ [(⟨x1.k, (x1.f : Int), (x1.t : Int)⟩ : Gapi_Token)], v5) (fun post2 e2 => by have e9 := snoc_post hxs1 e2; subst e9; subst hag1; exact h) (Splits.of [0, 1] (by as_aux_lemma => kernel_rfl) rfl)
  ·
   rintro dm1 ⟨l4, v4⟩ hinv
   have h : d1 l4 = some r := hinv [] (List.append_nil _).symm
   subst hd1
   show TX _ _ _ _ _ _ _ [star ((([] : List Nat) : List Nat).map mark), emp, cells b3 [.string s1] 9, emp, cells b2 [v4] 23, vec enc_Gapi_Token 36 3 v4 l4, mark dm1]
   refine TX.starCons (k := 6) (j := 0) rfl rfl (by decide) ?_
   show TX _ _ _ _ _ _ _ [star ((dm1 :: ([] : List Nat) : List Nat).map mark), emp, cells b3 [.string s1] 9, emp, cells b2 [v4] 23, vec enc_Gapi_Token 36 3 v4 l4, emp]
   refine TX.blockNormal ?_
   exact TX.meetD (l4, b2, v4, dm1 :: ([] : List Nat)) h rfl (Sbs.cons rfl (Sbs.nil)) (Splits.of [4, 5, 0] (by as_aux_lemma => kernel_rfl) rfl)
  ·
   rintro dm1 c pre x1 post g hxs hX
   exact (show False from hX).elim
 ·
  rintro ⟨l1, b1, v1, ds1⟩ h
  subst hj1
  show TC _ _ _ _ _ (marksOf ds1) _ _ [(3, .pointer (some ⟨b1, 0, none⟩))] [cells b1 [v1] 23, vec enc_Gapi_Token 36 3 v1 l1, star ((ds1 : List Nat).map mark)]
  refine TC.seq (TC.region (TO.load (k := 0) sc_23 rfl (by decide) rfl rfl rfl (TO.assign rfl (by decide) rfl (TO.nil (TX.next (TC.ret ?_))))))
  cases h
  exact TX.finM (rs := [.tmp 2]) ds1 v1 (.inl rfl) (Splits.open0 (k := 2) rfl) Try.results24 (.cons (.tmp rfl) .nil) rfl (Splits.of [1] (by as_aux_lemma => kernel_rfl) rfl)
def law07_cut_v (s1 : ByteArray) : Option ByteArray := bcond (decide ((2048 : Int) < (s1.size : Int))) ( grd (0 ≤ (0 : Int) ∧ (0 : Int) ≤ 2048 ∧ (2048 : Int) ≤ (s1.size : Int)) <| some (cutB s1 0 2048)
) ( some s1
)
set_option maxRecDepth 100000 in
set_option maxHeartbeats 4000000 in
theorem law07_cut_fn {s1 : ByteArray} {r : ByteArray} (h : law07_cut_v s1 = some r) : FnP Try.prog 23 [.string s1] (.string r) := by
 unfold law07_cut_v at h
 refine FnP.intro Try.func23 rfl Try.ntmps23 (by simp) ?_
 intro w0 K
 refine TC.seq (TC.region (TO.assign rfl (by decide) rfl (TO.nil (TX.next (TC.seq (TC.seq (TC.region (TO.move rfl (by decide) rfl (TO.lenStr rfl (by decide) rfl Try.underlying9 (TO.bin rfl (by decide) rfl rfl bin_gtr (TO.nil (TX.next ?_))))))))))))
 refine TC.condB rfl (fun hb1 => ?_) (fun hb1 => ?_)
 ·
  have h := condT hb1 h
  refine TC.seq (TC.region (TO.move rfl (by decide) rfl ?_))
  obtain ⟨hg1, h⟩ := grdE h
  refine TO.slice rfl (by decide) rfl rfl rfl (slice_stringI (i := 0) (j := 2048) Try.underlying9 (.inl ⟨rfl, rfl⟩) (.inr rfl) hg1) (TO.assign rfl (by decide) rfl (TO.nil (TX.next (TC.ret (TX.thenRet ?_)))))
  cases h
  exact TX.fin (rs := [.tmp 2]) () (.inl rfl) Try.results23 (.cons (.tmp rfl) .nil) rfl Splits.nil
 ·
  have h := condF hb1 h
  refine TC.skip (TX.next (TC.seq (TC.region (TO.move rfl (by decide) rfl (TO.assign rfl (by decide) rfl (TO.nil (TX.next (TC.ret ?_))))))))
  cases h
  exact TX.fin (rs := [.tmp 2]) () (.inl rfl) Try.results23 (.cons (.tmp rfl) .nil) rfl Splits.nil
end Go.Proofs.Ytgeefojgkbglnaa
namespace Go.Proofs.Ytgeefojgkbglnaa
open Go.RowKit Go.Lib
set_option linter.unusedVariables false
set_option linter.unusedSimpArgs false
theorem tokens_v (s : ByteArray) (hs : s.size ≤ 1000000000) : law07_tokens_v s = some ((tksOf s).map tkG) := by
  unfold law07_tokens_v
  refine joinI (grdI (by omega) (joinI ?_))
  have key : ∀ (xs : List Tk) (l : List Gapi_Token) (K : List Gapi_Token → Option (List Gapi_Token)), l.length + xs.length ≤ 2147483648 → rangeG K law07_tokens_s1 xs l = K (l ++ xs.map tkG) := by
    intro xs
    induction xs with
    | nil => intro l K _; simp [rangeG_nil]
    | cons x xs ih =>
      intro l K h
      rw [rangeG_cons]
      unfold law07_tokens_s1
      simp only [List.length_cons] at h
      refine grdI (by omega) ?_
      show rangeG K law07_tokens_s1 xs (l ++ [tkG x]) = _
      rw [ih _ _ (by simp; omega)]; simp
  have hl := tks_len s
  rw [key _ _ _ (by simp; omega)]; simp
theorem cut_v (s : ByteArray) : ∃ t, law07_cut_v s = some t ∧ t.size ≤ 2048 := by
  unfold law07_cut_v
  by_cases h : s.size ≤ 2048
  · exact ⟨s, condFI (decide_eq_false (by omega)) rfl, h⟩
  · refine ⟨_, condTI (decide_eq_true (by omega)) (grdI ⟨by omega, by omega, by omega⟩ rfl), ?_⟩
    unfold cutB; rw [ByteArray.size_extract]; simp; omega
/-- The k-th token of a text, and what stands ahead of and behind it. -/
theorem tks_mid (s : ByteArray) (k : Nat) (hk : k < (tksOf s).length) : ∃ A x B, G (toks s.data.toList) = A ++ x :: B ∧ A.length = k ∧ (tksOf s)[k]? = some ⟨x.1, tot A, tot A + tl x⟩ ∧
    s.data.toList = flat (cont A) ++ (flat (cont [x]) ++ flat (cont B)) ∧ Good (cont (A ++ [x]) ++ cont B) ∧ G (cont [x]) = [x] ∧ Good (cont [x]) ∧ (tksOf s)[k + 1]? = (posT (tot A + tl x) B)[0]? := by
  have e := tks_pos s
  have hl : (tksOf s).length = (G (toks s.data.toList)).length := by rw [e, posT_len]
  have hk' : k < (G (toks s.data.toList)).length := by omega
  have h0 : G (toks s.data.toList) = (G (toks s.data.toList)).take k ++ (G (toks s.data.toList))[k] :: (G (toks s.data.toList)).drop (k + 1) := by
    rw [← List.drop_eq_getElem_cons hk', List.take_append_drop]
  obtain ⟨A, x, B, hA, hG⟩ : ∃ A x B, A.length = k ∧ G (toks s.data.toList) = A ++ x :: B := ⟨_, _, _, by simp; omega, h0⟩
  have hG2 : G (toks s.data.toList) = (A ++ [x]) ++ B := by rw [hG]; simp
  obtain ⟨h1, h2, h3⟩ := G_split _ _ _ hG2
  obtain ⟨h4, h5, h6⟩ := G_split _ _ _ h1
  have hg := good_toks s.data.toList
  rw [h3] at hg
  have hg1 : Good (cont (A ++ [x])) := good_take hg
  have hg2 : Good (cont [x]) := by rw [h6] at hg1; exact good_drop hg1
  refine ⟨A, x, B, hG, hA, ?_, ?_, hg, h5, hg2, ?_⟩
  · rw [e, hG, posT_append, List.getElem?_append_right (by rw [posT_len]; omega), posT_len, hA, Nat.sub_self, Nat.zero_add]; rfl
  · rw [← List.append_assoc, ← flat_append, ← cont_append, ← flat_append, ← h3, flat_toks]
  · rw [e, hG, posT_append, List.getElem?_append_right (by rw [posT_len]; omega), posT_len, hA, Nat.zero_add, show k + 1 - k = 0 + 1 by omega]; rfl
theorem tot_one (x : GT) : tot [x] = tl x := by simp [tot]
theorem tot_append (A B : List GT) : tot (A ++ B) = tot A + tot B := by simp [tot]
end Go.Proofs.Ytgeefojgkbglnaa
namespace Go.Proofs.Ytgeefojgkbglnaa
open Go.RowKit Go.Lib
set_option linter.unusedVariables false
set_option linter.unusedSimpArgs false
def law07_WordAlone_s1 (r2 : ByteArray) (x1 : Nat × Nat) (ag1 : (List ByteArray) → Option Bool) (l4 : List ByteArray) : Option Bool := grd (0 ≤ ((x1.1 : Int) : Int) ∧ ((x1.1 : Int) : Int) ≤ (x1.2 : Int) ∧ ((x1.2 : Int) : Int) ≤ ((plF r2 (wsOf r2)).size : Int)) <| grd (l4.length + 1 ≤ 2147483648) <| ag1 (l4 ++ [cutB (plF r2 (wsOf r2)) (x1.1 : Int) (x1.2 : Int)])
def law07_WordAlone_s3 (l1 : List ByteArray) (e1 : Int → Option Bool) (n4 : Int) (q2 : ByteArray) (j3 : Option Bool) (ag3 : Int → Option Bool) (x5 : Int) : Option Bool := bcond (decide ((x5 : Int) < (((ptsG q2).1).length : Int))) ( andThen (getO ((ptsG q2).1) x5) fun (q6 : Gapi_Span) => andThen (getO l1 n4) fun (q7 : ByteArray) => grd (0 ≤ (q6.From : Int) ∧ (q6.From : Int) ≤ q6.To ∧ (q6.To : Int) ≤ (q7.size : Int)) <| grd ((cutB q7 q6.From q6.To).size ≤ 140737488351232) <| bcond (!(isWord (tksOf (cutB q7 q6.From q6.To)) (cutB q7 q6.From q6.To).size)) ( e1 n4
) ( grd (I64 (x5 + 1)) <| ag3 (x5 + 1)
)
) ( j3
)
def law07_WordAlone_s2 (r2 : ByteArray) (l1 : List ByteArray) (e1 : Int → Option Bool) (x2 : Nat × Nat) (ag2 : Int → Option Bool) (n4 : Int) : Option Bool := bcond (decide (((l1.length : Int) : Int) ≤ n4)) ( e1 n4
) ( grd (0 ≤ ((x2.1 : Int) : Int) ∧ ((x2.1 : Int) : Int) ≤ (x2.2 : Int) ∧ ((x2.2 : Int) : Int) ≤ (r2.size : Int)) <| andThen (getO l1 n4) fun (q1 : ByteArray) => bcond (!decide (cutB r2 (x2.1 : Int) (x2.2 : Int) = q1)) ( e1 n4
) ( grd (q1.size ≤ 140737488351232) <| bcond (!(isWord (tksOf q1) q1.size)) ( e1 n4
) ( andThen (getO l1 n4) fun (q2 : ByteArray) => grd (q2.size ≤ 1073741824) <| bcond ((((ptsG q2).2) : Int) != 0) ( e1 n4
) ( bcond (decide (((((ptsG q2).1).length : Int) : Int) < 1)) ( e1 n4
) ( andThen (getO ((ptsG q2).1) 0) fun (q3 : Gapi_Span) => bcond ((q3.From : Int) != 0) ( e1 n4
) ( grd (I64 ((((ptsG q2).1).length : Int) - 1)) <| andThen (getO ((ptsG q2).1) ((((ptsG q2).1).length : Int) - 1)) fun (q4 : Gapi_Span) => andThen (getO l1 n4) fun (q5 : ByteArray) => bcond ((q4.To : Int) != (q5.size : Int)) ( e1 n4
) ( joinK (fun (j3 : Option Bool) => loopG (fun _ => none) (law07_WordAlone_s3 l1 e1 n4 q2 j3) fuel 0
) ( grd (I64 (n4 + 1)) <| ag2 (n4 + 1)
)
)
)
)
)
)
)
)
def law07_WordAlone_v (s1 : ByteArray) : Option Bool := andThen (law07_wakes_v) fun (r1 : Bool) => bcond (!r1) ( some false
) ( andThen (law07_cut_v s1) fun (r2 : ByteArray) => grd (r2.size ≤ 1099511627776) <| grd (r2.size ≤ 140737488351232) <| grd ((plF r2 (wsOf r2)).size ≤ 1099511627776) <| bcond (!decide (plF (plF r2 (wsOf r2)) (wsOf (plF r2 (wsOf r2))) = plF r2 (wsOf r2))) ( some false
) ( grd ((trimS r2).size ≤ 140737488351232) <| bcond (!decide (trimS (trimS r2) = trimS r2)) ( some false
) ( grd ((trimS r2).size ≤ 1099511627776) <| bcond (!decide (plF (trimS r2) (wsOf (trimS r2)) = plF r2 (wsOf r2))) ( some false
) ( joinK (fun (j1 : (List ByteArray) → Option Bool) => grd ((plF r2 (wsOf r2)).size ≤ 4611686018427387904) <| joinK (fun (d1 : (List ByteArray) → Option Bool) => rangeG d1 (law07_WordAlone_s1 r2) (wsOf (plF r2 (wsOf r2))) ([] : List ByteArray)
) (fun (l4 : List ByteArray) => j1 l4
)
) (fun (l1 : List ByteArray) => joinK (fun (j2 : Int → Option Bool) => grd (r2.size ≤ 4611686018427387904) <| joinK (fun (e1 : Int → Option Bool) => joinK (fun (d2 : Int → Option Bool) => rangeG d2 (law07_WordAlone_s2 r2 l1 e1) (wsOf r2) 0
) (fun (n4 : Int) => j2 n4
)
) (fun (n5 : Int) => some false
)
) (fun (n1 : Int) => bcond ((n1 : Int) == (l1.length : Int)) ( andThen (law07_wakes_v) fun (r3 : Bool) => some r3
) ( some false
)
)
)
)
)
)
)
set_option maxRecDepth 100000 in
set_option maxHeartbeats 4000000 in
theorem law07_WordAlone_fn {s1 : ByteArray} {r : Bool} (h : law07_WordAlone_v s1 = some r) : FnP Try.prog 10 [.string s1] (.bool r) := by
 unfold law07_WordAlone_v at h
 refine FnP.intro Try.func10 rfl Try.ntmps10 (by simp) ?_
 intro w0 K
 refine TC.star0 ?_
 show TC _ _ _ _ _ _ _ _ _ [star ((([] : List Nat) : List Nat).map mark)]
 refine TC.seq (TC.region ?_)
 refine TO.box rfl (by decide) rfl (fun b1 => ?_)
 refine TO.alloc zr_4 rfl (by decide) (fun b2 => ?_)
 show TO _ _ _ _ _ _ _ _ _ _ [star ((([] : List Nat) : List Nat).map mark), cells b1 [.string s1] 9, cells b2 [.bool false] 4]
 refine TO.nil (TX.next (TC.seq (TC.seq (TC.region ?_))))
 obtain ⟨r1, hq1, h⟩ := andE h
 refine TO.callP (v := .bool r1) (vs := []) rfl (by decide) rfl rfl rfl en_12 (law07_wakes_fn hq1) (TO.un rfl (by decide) rfl un_not (TO.nil (TX.next ?_)))
 refine TC.condB rfl (fun hb1 => ?_) (fun hb1 => ?_)
 ·
  have h := condT hb1 h
  refine TC.seq (TC.region ?_)
  refine TO.store (k := 2) (l' := [.bool false]) sz_4 rfl rfl rfl rfl rfl (fun _ _ => rfl) rfl ?_
  refine TO.nil (TX.next (TC.ret (TX.thenRet ?_)))
  cases h
  exact TX.finM (rs := [.cell 2 4]) ([] : List Nat) () (.inl rfl) (Splits.open0 (k := 0) rfl) Try.results10 (.cons (.cell sc_4 (k := 2) rfl rfl) .nil) rfl Splits.nil
 ·
  have h := condF hb1 h
  refine TC.skip (TX.next (TC.seq (TC.region (TO.load (k := 1) sc_9 rfl (by decide) rfl rfl rfl ?_))))
  obtain ⟨r2, hq2, h⟩ := andE h
  refine TO.callP (v := .string r2) (vs := [.string s1]) rfl (by decide) rfl rfl rfl en_23 (law07_cut_fn hq2) ?_
  refine TO.store (k := 1) (l' := [.string r2]) sz_9 rfl rfl rfl rfl rfl (fun _ _ => rfl) rfl ?_
  refine TO.nil (TX.next (TC.seq (TC.region (TO.load (k := 1) sc_9 rfl (by decide) rfl rfl rfl ?_))))
  obtain ⟨hg1, h⟩ := grdE h
  refine TO.callP (v := .string (plF r2 (wsOf r2))) (vs := [.string r2]) rfl (by decide) rfl rfl rfl en_32 (wplain_c r2 hg1) ?_
  refine TO.alloc zr_9 rfl (by decide) (fun b3 => ?_)
  show TO _ _ _ _ _ _ _ _ _ _ [star ((([] : List Nat) : List Nat).map mark), cells b1 [.string r2] 9, cells b2 [.bool false] 4, cells b3 [.string ByteArray.empty] 9]
  refine TO.store (k := 3) (l' := [.string (plF r2 (wsOf r2))]) sz_9 rfl rfl rfl rfl rfl (fun _ _ => rfl) rfl ?_
  refine TO.nil (TX.next (TC.seq (TC.region (TO.load (k := 1) sc_9 rfl (by decide) rfl rfl rfl ?_))))
  obtain ⟨hg2, h⟩ := grdE h
  refine TO.callP (v := .string (trimS r2)) (vs := [.string r2]) rfl (by decide) rfl rfl rfl en_30 (wtrim_c r2 hg2) (TO.assign rfl (by decide) rfl (TO.nil (TX.next (TC.seq (TC.seq ?_)))))
  obtain ⟨hg3, h⟩ := grdE h
  refine TC.bySplit (b := !decide (plF (plF r2 (wsOf r2)) (wsOf (plF r2 (wsOf r2))) = plF r2 (wsOf r2))) (fun hb2 => ?_) (fun hb2 => ?_)
  ·
   have h := condT hb2 h
   refine TC.drawN 14 [(0, 21, .string (plF r2 (wsOf r2))), (1, 22, .string (plF (plF r2 (wsOf r2)) (wsOf (plF r2 (wsOf r2))))), (2, 23, .string (plF r2 (wsOf r2))), (3, 24, .bool true), (4, 25, .bool true), (5, 26, undef), (6, 27, undef), (7, 28, undef), (8, 29, undef), (9, 30, .bool true), (10, 31, .bool true), (11, 32, undef), (12, 33, undef), (13, 34, undef)] mixed (by as_aux_lemma => kernel_rfl) (by as_aux_lemma => kernel_rfl) (by decide) (by rfl) (by as_aux_lemma => kernel_rfl) (by as_aux_lemma => kernel_rfl) (DrawPre.cons ?_ (DrawPre.cons ?_ (DrawPre.cons ?_ (DrawPre.cons ?_ (DrawPre.cons ?_ (DrawPre.cons ?_ (DrawPre.cons ?_ (DrawPre.cons ?_ (DrawPre.cons ?_ (DrawPre.cons ?_ (DrawPre.cons ?_ (DrawPre.cons ?_ (DrawPre.cons ?_ (DrawPre.cons ?_ DrawPre.nil)))))))))))))) ?_
   ·
    intro D hn hd hcl hu hi
    refine TO.load (k := 3) sc_9 rfl (by decide) (dl_old (by rfl) rfl) rfl rfl ?_
    exact TX.quiet 0 hu hi rfl
   ·
    intro D hn hd hcl hu hi
    refine TO.callP (v := .string (plF (plF r2 (wsOf r2)) (wsOf (plF r2 (wsOf r2))))) (vs := [.string (plF r2 (wsOf r2))]) rfl (by decide) rfl (evL.cons (dl_lookup (m := 0) hu rfl (hd 0 (by decide))) evL.nil) rfl en_32 (wplain_c (plF r2 (wsOf r2)) hg3) ?_
    exact TX.quiet 1 hu hi rfl
   ·
    intro D hn hd hcl hu hi
    refine TO.load (k := 3) sc_9 rfl (by decide) (dl_old (by rfl) rfl) rfl rfl ?_
    exact TX.quiet 2 hu hi rfl
   ·
    intro D hn hd hcl hu hi
    refine TO.bin rfl (by decide) (dl_lookup (m := 1) hu rfl (hd 1 (by decide))) (dl_lookup (m := 2) hu rfl (hd 2 (by decide))) bin_sneq (TO.rewH (show Value.bool (!decide (plF (plF r2 (wsOf r2)) (wsOf (plF r2 (wsOf r2))) = plF r2 (wsOf r2))) = Value.bool true from congrArg Value.bool hb2) ?_)
    exact TX.quiet 3 hu hi rfl
   ·
    intro D hn hd hcl hu hi
    refine TO.move rfl (by decide) (dl_lookup (m := 3) hu rfl (hd 3 (by decide))) ?_
    exact TX.quiet 4 hu hi rfl
   ·
    intro D hn hd hcl hu hi
    refine TO.skip (gd_F rfl (dl_lookup (m := 4) hu rfl (hd 4 (by decide)))) (by decide) ?_
    exact TX.quiet 5 hu hi rfl
   ·
    intro D hn hd hcl hu hi
    refine TO.skip (gd_F rfl (dl_lookup (m := 4) hu rfl (hd 4 (by decide)))) (by decide) ?_
    exact TX.quiet 6 hu hi rfl
   ·
    intro D hn hd hcl hu hi
    refine TO.skip (gd_F rfl (dl_lookup (m := 4) hu rfl (hd 4 (by decide)))) (by decide) ?_
    exact TX.quiet 7 hu hi rfl
   ·
    intro D hn hd hcl hu hi
    refine TO.skip (gd_F rfl (dl_lookup (m := 4) hu rfl (hd 4 (by decide)))) (by decide) ?_
    exact TX.quiet 8 hu hi rfl
   ·
    intro D hn hd hcl hu hi
    refine TO.pick (b := true) rfl (by decide) (dl_lookup (m := 4) hu rfl (hd 4 (by decide))) rfl ?_
    exact TX.quiet 9 hu hi rfl
   ·
    intro D hn hd hcl hu hi
    refine TO.move rfl (by decide) (dl_lookup (m := 9) hu rfl (hd 9 (by decide))) ?_
    exact TX.quiet 10 hu hi rfl
   ·
    intro D hn hd hcl hu hi
    refine TO.skip (gd_F rfl (dl_lookup (m := 10) hu rfl (hd 10 (by decide)))) (by decide) ?_
    exact TX.quiet 11 hu hi rfl
   ·
    intro D hn hd hcl hu hi
    refine TO.skip (gd_F rfl (dl_lookup (m := 10) hu rfl (hd 10 (by decide)))) (by decide) ?_
    exact TX.quiet 12 hu hi rfl
   ·
    intro D hn hd hcl hu hi
    refine TO.skip (gd_F rfl (dl_lookup (m := 10) hu rfl (hd 10 (by decide)))) (by decide) ?_
    exact TX.quiet 13 hu hi rfl
   refine TO.skip rfl (by decide) (TO.pick (b := true) rfl (by decide) rfl rfl (TO.nil (TX.next (TC.condT rfl (TC.seq (TC.region ?_))))))
   refine TO.store (k := 2) (l' := [.bool false]) sz_4 rfl rfl rfl rfl rfl (fun _ _ => rfl) rfl ?_
   show TO _ _ _ _ _ _ _ _ _ _ [star ((([] : List Nat) : List Nat).map mark), cells b1 [.string r2] 9, cells b2 [.bool false] 4, cells b3 [.string (plF r2 (wsOf r2))] 9]
   refine TO.nil (TX.next (TC.ret (TX.thenRet ?_)))
   cases h
   exact TX.finM (rs := [.cell 2 4]) ([] : List Nat) () (.inl rfl) (Splits.open0 (k := 0) rfl) Try.results10 (.cons (.cell sc_4 (k := 2) rfl rfl) .nil) rfl Splits.nil
  ·
   have h := condF hb2 h
   obtain ⟨hg4, h⟩ := grdE h
   refine TC.bySplit (b := !decide (trimS (trimS r2) = trimS r2)) (fun hb3 => ?_) (fun hb3 => ?_)
   ·
    have h := condT hb3 h
    refine TC.drawN 14 [(0, 21, .string (plF r2 (wsOf r2))), (1, 22, .string (plF (plF r2 (wsOf r2)) (wsOf (plF r2 (wsOf r2))))), (2, 23, .string (plF r2 (wsOf r2))), (3, 24, .bool false), (4, 25, .bool false), (5, 26, .string (trimS r2)), (6, 27, .string (trimS (trimS r2))), (7, 28, .string (trimS r2)), (8, 29, .bool true), (9, 30, .bool true), (10, 31, .bool true), (11, 32, undef), (12, 33, undef), (13, 34, undef)] mixed (by as_aux_lemma => kernel_rfl) (by as_aux_lemma => kernel_rfl) (by decide) (by rfl) (by as_aux_lemma => kernel_rfl) (by as_aux_lemma => kernel_rfl) (DrawPre.cons ?_ (DrawPre.cons ?_ (DrawPre.cons ?_ (DrawPre.cons ?_ (DrawPre.cons ?_ (DrawPre.cons ?_ (DrawPre.cons ?_ (DrawPre.cons ?_ (DrawPre.cons ?_ (DrawPre.cons ?_ (DrawPre.cons ?_ (DrawPre.cons ?_ (DrawPre.cons ?_ (DrawPre.cons ?_ DrawPre.nil)))))))))))))) ?_
    ·
     intro D hn hd hcl hu hi
     refine TO.load (k := 3) sc_9 rfl (by decide) (dl_old (by rfl) rfl) rfl rfl ?_
     exact TX.quiet 0 hu hi rfl
    ·
     intro D hn hd hcl hu hi
     refine TO.callP (v := .string (plF (plF r2 (wsOf r2)) (wsOf (plF r2 (wsOf r2))))) (vs := [.string (plF r2 (wsOf r2))]) rfl (by decide) rfl (evL.cons (dl_lookup (m := 0) hu rfl (hd 0 (by decide))) evL.nil) rfl en_32 (wplain_c (plF r2 (wsOf r2)) hg3) ?_
     exact TX.quiet 1 hu hi rfl
    ·
     intro D hn hd hcl hu hi
     refine TO.load (k := 3) sc_9 rfl (by decide) (dl_old (by rfl) rfl) rfl rfl ?_
     exact TX.quiet 2 hu hi rfl
    ·
     intro D hn hd hcl hu hi
     refine TO.bin rfl (by decide) (dl_lookup (m := 1) hu rfl (hd 1 (by decide))) (dl_lookup (m := 2) hu rfl (hd 2 (by decide))) bin_sneq (TO.rewH (show Value.bool (!decide (plF (plF r2 (wsOf r2)) (wsOf (plF r2 (wsOf r2))) = plF r2 (wsOf r2))) = Value.bool false from congrArg Value.bool hb2) ?_)
     exact TX.quiet 3 hu hi rfl
    ·
     intro D hn hd hcl hu hi
     refine TO.move rfl (by decide) (dl_lookup (m := 3) hu rfl (hd 3 (by decide))) ?_
     exact TX.quiet 4 hu hi rfl
    ·
     intro D hn hd hcl hu hi
     refine TO.move (gd_T rfl (dl_lookup (m := 4) hu rfl (hd 4 (by decide)))) (by decide) (dl_old (by rfl) rfl) ?_
     exact TX.quiet 5 hu hi rfl
    ·
     intro D hn hd hcl hu hi
     refine TO.callP (v := .string (trimS (trimS r2))) (vs := [.string (trimS r2)]) (gd_T rfl (dl_lookup (m := 4) hu rfl (hd 4 (by decide)))) (by decide) rfl (evL.cons (dl_lookup (m := 5) hu rfl (hd 5 (by decide))) evL.nil) rfl en_30 (wtrim_c (trimS r2) hg4) ?_
     exact TX.quiet 6 hu hi rfl
    ·
     intro D hn hd hcl hu hi
     refine TO.move (gd_T rfl (dl_lookup (m := 4) hu rfl (hd 4 (by decide)))) (by decide) (dl_old (by rfl) rfl) ?_
     exact TX.quiet 7 hu hi rfl
    ·
     intro D hn hd hcl hu hi
     refine TO.bin (gd_T rfl (dl_lookup (m := 4) hu rfl (hd 4 (by decide)))) (by decide) (dl_lookup (m := 6) hu rfl (hd 6 (by decide))) (dl_lookup (m := 7) hu rfl (hd 7 (by decide))) bin_sneq (TO.rewH (show Value.bool (!decide (trimS (trimS r2) = trimS r2)) = Value.bool true from congrArg Value.bool hb3) ?_)
     exact TX.quiet 8 hu hi rfl
    ·
     intro D hn hd hcl hu hi
     refine TO.pick (b := false) rfl (by decide) (dl_lookup (m := 4) hu rfl (hd 4 (by decide))) (dl_lookup (m := 8) hu rfl (hd 8 (by decide))) ?_
     exact TX.quiet 9 hu hi rfl
    ·
     intro D hn hd hcl hu hi
     refine TO.move rfl (by decide) (dl_lookup (m := 9) hu rfl (hd 9 (by decide))) ?_
     exact TX.quiet 10 hu hi rfl
    ·
     intro D hn hd hcl hu hi
     refine TO.skip (gd_F rfl (dl_lookup (m := 10) hu rfl (hd 10 (by decide)))) (by decide) ?_
     exact TX.quiet 11 hu hi rfl
    ·
     intro D hn hd hcl hu hi
     refine TO.skip (gd_F rfl (dl_lookup (m := 10) hu rfl (hd 10 (by decide)))) (by decide) ?_
     exact TX.quiet 12 hu hi rfl
    ·
     intro D hn hd hcl hu hi
     refine TO.skip (gd_F rfl (dl_lookup (m := 10) hu rfl (hd 10 (by decide)))) (by decide) ?_
     exact TX.quiet 13 hu hi rfl
    refine TO.skip rfl (by decide) (TO.pick (b := true) rfl (by decide) rfl rfl (TO.nil (TX.next (TC.condT rfl (TC.seq (TC.region ?_))))))
    refine TO.store (k := 2) (l' := [.bool false]) sz_4 rfl rfl rfl rfl rfl (fun _ _ => rfl) rfl ?_
    show TO _ _ _ _ _ _ _ _ _ _ [star ((([] : List Nat) : List Nat).map mark), cells b1 [.string r2] 9, cells b2 [.bool false] 4, cells b3 [.string (plF r2 (wsOf r2))] 9]
    refine TO.nil (TX.next (TC.ret (TX.thenRet ?_)))
    cases h
    exact TX.finM (rs := [.cell 2 4]) ([] : List Nat) () (.inl rfl) (Splits.open0 (k := 0) rfl) Try.results10 (.cons (.cell sc_4 (k := 2) rfl rfl) .nil) rfl Splits.nil
   ·
    have h := condF hb3 h
    obtain ⟨hg5, h⟩ := grdE h
    refine TC.drawN 14 [(0, 21, .string (plF r2 (wsOf r2))), (1, 22, .string (plF (plF r2 (wsOf r2)) (wsOf (plF r2 (wsOf r2))))), (2, 23, .string (plF r2 (wsOf r2))), (3, 24, .bool false), (4, 25, .bool false), (5, 26, .string (trimS r2)), (6, 27, .string (trimS (trimS r2))), (7, 28, .string (trimS r2)), (8, 29, .bool false), (9, 30, .bool false), (10, 31, .bool false), (11, 32, .string (trimS r2)), (12, 33, .string (plF (trimS r2) (wsOf (trimS r2)))), (13, 34, .string (plF r2 (wsOf r2)))] mixed (by as_aux_lemma => kernel_rfl) (by as_aux_lemma => kernel_rfl) (by decide) (by rfl) (by as_aux_lemma => kernel_rfl) (by as_aux_lemma => kernel_rfl) (DrawPre.cons ?_ (DrawPre.cons ?_ (DrawPre.cons ?_ (DrawPre.cons ?_ (DrawPre.cons ?_ (DrawPre.cons ?_ (DrawPre.cons ?_ (DrawPre.cons ?_ (DrawPre.cons ?_ (DrawPre.cons ?_ (DrawPre.cons ?_ (DrawPre.cons ?_ (DrawPre.cons ?_ (DrawPre.cons ?_ DrawPre.nil)))))))))))))) ?_
    ·
     intro D hn hd hcl hu hi
     refine TO.load (k := 3) sc_9 rfl (by decide) (dl_old (by rfl) rfl) rfl rfl ?_
     exact TX.quiet 0 hu hi rfl
    ·
     intro D hn hd hcl hu hi
     refine TO.callP (v := .string (plF (plF r2 (wsOf r2)) (wsOf (plF r2 (wsOf r2))))) (vs := [.string (plF r2 (wsOf r2))]) rfl (by decide) rfl (evL.cons (dl_lookup (m := 0) hu rfl (hd 0 (by decide))) evL.nil) rfl en_32 (wplain_c (plF r2 (wsOf r2)) hg3) ?_
     exact TX.quiet 1 hu hi rfl
    ·
     intro D hn hd hcl hu hi
     refine TO.load (k := 3) sc_9 rfl (by decide) (dl_old (by rfl) rfl) rfl rfl ?_
     exact TX.quiet 2 hu hi rfl
    ·
     intro D hn hd hcl hu hi
     refine TO.bin rfl (by decide) (dl_lookup (m := 1) hu rfl (hd 1 (by decide))) (dl_lookup (m := 2) hu rfl (hd 2 (by decide))) bin_sneq (TO.rewH (show Value.bool (!decide (plF (plF r2 (wsOf r2)) (wsOf (plF r2 (wsOf r2))) = plF r2 (wsOf r2))) = Value.bool false from congrArg Value.bool hb2) ?_)
     exact TX.quiet 3 hu hi rfl
    ·
     intro D hn hd hcl hu hi
     refine TO.move rfl (by decide) (dl_lookup (m := 3) hu rfl (hd 3 (by decide))) ?_
     exact TX.quiet 4 hu hi rfl
    ·
     intro D hn hd hcl hu hi
     refine TO.move (gd_T rfl (dl_lookup (m := 4) hu rfl (hd 4 (by decide)))) (by decide) (dl_old (by rfl) rfl) ?_
     exact TX.quiet 5 hu hi rfl
    ·
     intro D hn hd hcl hu hi
     refine TO.callP (v := .string (trimS (trimS r2))) (vs := [.string (trimS r2)]) (gd_T rfl (dl_lookup (m := 4) hu rfl (hd 4 (by decide)))) (by decide) rfl (evL.cons (dl_lookup (m := 5) hu rfl (hd 5 (by decide))) evL.nil) rfl en_30 (wtrim_c (trimS r2) hg4) ?_
     exact TX.quiet 6 hu hi rfl
    ·
     intro D hn hd hcl hu hi
     refine TO.move (gd_T rfl (dl_lookup (m := 4) hu rfl (hd 4 (by decide)))) (by decide) (dl_old (by rfl) rfl) ?_
     exact TX.quiet 7 hu hi rfl
    ·
     intro D hn hd hcl hu hi
     refine TO.bin (gd_T rfl (dl_lookup (m := 4) hu rfl (hd 4 (by decide)))) (by decide) (dl_lookup (m := 6) hu rfl (hd 6 (by decide))) (dl_lookup (m := 7) hu rfl (hd 7 (by decide))) bin_sneq (TO.rewH (show Value.bool (!decide (trimS (trimS r2) = trimS r2)) = Value.bool false from congrArg Value.bool hb3) ?_)
     exact TX.quiet 8 hu hi rfl
    ·
     intro D hn hd hcl hu hi
     refine TO.pick (b := false) rfl (by decide) (dl_lookup (m := 4) hu rfl (hd 4 (by decide))) (dl_lookup (m := 8) hu rfl (hd 8 (by decide))) ?_
     exact TX.quiet 9 hu hi rfl
    ·
     intro D hn hd hcl hu hi
     refine TO.move rfl (by decide) (dl_lookup (m := 9) hu rfl (hd 9 (by decide))) ?_
     exact TX.quiet 10 hu hi rfl
    ·
     intro D hn hd hcl hu hi
     refine TO.move (gd_T rfl (dl_lookup (m := 10) hu rfl (hd 10 (by decide)))) (by decide) (dl_old (by rfl) rfl) ?_
     exact TX.quiet 11 hu hi rfl
    ·
     intro D hn hd hcl hu hi
     refine TO.callP (v := .string (plF (trimS r2) (wsOf (trimS r2)))) (vs := [.string (trimS r2)]) (gd_T rfl (dl_lookup (m := 10) hu rfl (hd 10 (by decide)))) (by decide) rfl (evL.cons (dl_lookup (m := 11) hu rfl (hd 11 (by decide))) evL.nil) rfl en_32 (wplain_c (trimS r2) hg5) ?_
     exact TX.quiet 12 hu hi rfl
    ·
     intro D hn hd hcl hu hi
     refine TO.load (k := 3) sc_9 (gd_T rfl (dl_lookup (m := 10) hu rfl (hd 10 (by decide)))) (by decide) (dl_old (by rfl) rfl) rfl rfl ?_
     exact TX.quiet 13 hu hi rfl
    refine TO.bin rfl (by decide) rfl rfl bin_sneq (TO.pick (b := false) rfl (by decide) rfl rfl (TO.nil (TX.next ?_)))
    refine TC.condB rfl (fun hb4 => ?_) (fun hb4 => ?_)
    ·
     have h := condT hb4 h
     refine TC.seq (TC.region ?_)
     refine TO.store (k := 2) (l' := [.bool false]) sz_4 rfl rfl rfl rfl rfl (fun _ _ => rfl) rfl ?_
     show TO _ _ _ _ _ _ _ _ _ _ [star ((([] : List Nat) : List Nat).map mark), cells b1 [.string r2] 9, cells b2 [.bool false] 4, cells b3 [.string (plF r2 (wsOf r2))] 9]
     refine TO.nil (TX.next (TC.ret (TX.thenRet ?_)))
     cases h
     exact TX.finM (rs := [.cell 2 4]) ([] : List Nat) () (.inl rfl) (Splits.open0 (k := 0) rfl) Try.results10 (.cons (.cell sc_4 (k := 2) rfl rfl) .nil) rfl Splits.nil
    ·
     have h := condF hb4 h
     refine TC.skip (TX.next ?_)
     obtain ⟨j1, hj1, h⟩ := joinE h
     refine TC.cutN (β := (List ByteArray) × Nat × Value × (List Nat)) 1 rfl (fun b => j1 b.1 = some r) (fun b => marksOf b.2.2.2) (fun b => [(1, .pointer (some ⟨b1, 0, none⟩)), (2, .pointer (some ⟨b2, 0, none⟩)), (5, .pointer (some ⟨b.2.1, 0, none⟩))]) (fun b => [cells b1 [.string r2] 9, cells b2 [.bool false] 4, cells b.2.1 [b.2.2.1] 55, vec encS 9 1 b.2.2.1 b.1, star ((b.2.2.2 : List Nat).map mark)]) (fun cut => ?_) ?_
     ·
      refine TC.seq (TC.region ?_)
      refine TO.alloc zr_55 rfl (by decide) (fun b5 => ?_)
      show TO _ _ _ _ _ _ _ _ _ _ [star ((([] : List Nat) : List Nat).map mark), cells b1 [.string r2] 9, cells b2 [.bool false] 4, cells b3 [.string (plF r2 (wsOf r2))] 9, cells b5 [.slice none 0 0] 55]
      refine TO.nil (TX.next (cut (TC.seq (TC.region (TO.load (k := 3) sc_9 rfl (by decide) rfl rfl rfl (TO.call (vs := [.string (plF r2 (wsOf r2))]) rfl (by decide) rfl rfl rfl en_16 (words_fn (plF r2 (wsOf r2))) Splits.nil ?_))))))
      rintro b6
      show TO _ _ _ _ _ _ _ _ _ _ [star ((([] : List Nat) : List Nat).map mark), cells b1 [.string r2] 9, cells b2 [.bool false] 4, cells b3 [.string (plF r2 (wsOf r2))] 9, cells b5 [.slice none 0 0] 55, cells b6 [.string (plF r2 (wsOf r2))] 9]
      refine TO.nil (TX.next (TC.block ?_))
      obtain ⟨hg6, h⟩ := grdE h
      refine TC.newVec (enc := encS) (e := 9) (size := 1) ?_
      show TC _ _ _ _ _ _ _ _ _ [star ((([] : List Nat) : List Nat).map mark), cells b1 [.string r2] 9, cells b2 [.bool false] 4, cells b3 [.string (plF r2 (wsOf r2))] 9, cells b5 [.slice none 0 0] 55, cells b6 [.string (plF r2 (wsOf r2))] 9, vec encS 9 1 (.slice none 0 0) ([] : List ByteArray)]
      obtain ⟨d1, hd1, h⟩ := joinE h
      refine TC.range (α := Nat × Nat) (β := (List ByteArray) × Value) (γ := Unit) (δ := Nat) (ps := [39]) Ro.nil rfl en_51 (words1_itr (plF r2 (wsOf r2)) hg6 b6) (fun pre b => ∀ post, wsOf (plF r2 (wsOf r2)) = pre ++ post → rangeG d1 (law07_WordAlone_s1 r2) post b.1 = some r) (fun pre b => [cells b1 [.string r2] 9, cells b2 [.bool false] 4, cells b3 [.string (plF r2 (wsOf r2))] 9, cells b5 [b.2] 55, vec encS 9 1 b.2 b.1]) (fun c pre g => False) (fun c pre g => []) (fun pre x b j => [(1, .pointer (some ⟨b1, 0, none⟩)), (2, .pointer (some ⟨b2, 0, none⟩)), (3, .pointer (some ⟨b3, 0, none⟩)), (5, .pointer (some ⟨b5, 0, none⟩)), (38, .func (.func 51) #[] #[.pointer (some ⟨b6, 0, none⟩)]), (6, .pointer (some ⟨j, 0, none⟩))]) (fun pre x b j => [cells b1 [.string r2] 9, cells b2 [.bool false] 4, cells b3 [.string (plF r2 (wsOf r2))] 9, cells b5 [b.2] 55, vec encS 9 1 b.2 b.1, cells j [.int .i64 (x.1 : Int), .int .i64 (x.2 : Int)] 34]) (([] : List ByteArray), (.slice none 0 0)) (fun post e => by rw [List.nil_append] at e; subst e; exact h) (Splits.of [1, 2, 3, 4, 6] (by as_aux_lemma => kernel_rfl) rfl) ⟨.inl ⟨5, rfl⟩, trivial⟩ (fun _ => rfl) (by decide) ?_ ?_ ?_ ?_
      ·
       rintro lp rc pre x1 post ⟨l4, v4⟩ w1 K1 hxs1 hext hro hinv
       refine TC.region ?_
       refine TO.alloc zr_34 rfl (by decide) (fun b7 => ?_)
       refine TO.stores (k := 5) (vs := [.int .i64 (x1.1 : Int), .int .i64 (x1.2 : Int)]) (l' := [.int .i64 (x1.1 : Int), .int .i64 (x1.2 : Int)]) sz_34 rfl rfl rfl rfl rfl (show _ ≤ _ by simp) rfl rfl ?_
       show TO _ _ _ _ _ _ _ _ _ _ [cells b1 [.string r2] 9, cells b2 [.bool false] 4, cells b3 [.string (plF r2 (wsOf r2))] 9, cells b5 [v4] 55, vec encS 9 1 v4 l4, cells b7 [.int .i64 (x1.1 : Int), .int .i64 (x1.2 : Int)] 34]
       refine TO.nil ?_
       exact fun a w ha hw => ⟨b7, (Sbs.cons rfl (Sbs.cons rfl (Sbs.cons rfl (Sbs.cons rfl (Sbs.cons rfl (Sbs.cons rfl (Sbs.nil))))))) _ _ _ ha, hw.weaken (Splits.of [0, 1, 2, 3, 4, 5] (by as_aux_lemma => kernel_rfl) rfl)⟩
      ·
       rintro lp rc pre x1 post1 ⟨l4, v4⟩ jb1 w1 K1 hxs1 hext hro hinv
       have h := hinv (x1 :: post1) hxs1
       obtain ⟨ag1, hag1⟩ : ∃ ag, ag = rangeG d1 (law07_WordAlone_s1 r2) post1 := ⟨_, rfl⟩
       have h : law07_WordAlone_s1 r2 x1 ag1 l4 = some r := by rw [hag1]; exact h
       unfold law07_WordAlone_s1 at h
       show TC _ _ _ _ _ _ _ _ [(1, .pointer (some ⟨b1, 0, none⟩)), (2, .pointer (some ⟨b2, 0, none⟩)), (3, .pointer (some ⟨b3, 0, none⟩)), (5, .pointer (some ⟨b5, 0, none⟩)), (38, .func (.func 51) #[] #[.pointer (some ⟨b6, 0, none⟩)]), (6, .pointer (some ⟨jb1, 0, none⟩))] [cells b1 [.string r2] 9, cells b2 [.bool false] 4, cells b3 [.string (plF r2 (wsOf r2))] 9, cells b5 [v4] 55, vec encS 9 1 v4 l4, cells jb1 [.int .i64 (x1.1 : Int), .int .i64 (x1.2 : Int)] 34]
       refine TC.block ?_
       obtain ⟨hg7, h⟩ := grdE h
       obtain ⟨hg8, h⟩ := grdE h
       refine TC.drawB (β := Nat) 8 7 _ [(0, 40, v4), (1, 41, .string (plF r2 (wsOf r2))), (2, 42, .pointer (some ⟨jb1, 0, none⟩)), (3, 43, .int .i64 (x1.1 : Int)), (4, 44, .pointer (some ⟨jb1, 1, none⟩)), (5, 45, .int .i64 (x1.2 : Int)), (6, 46, .string (cutB (plF r2 (wsOf r2)) (x1.1 : Int) (x1.2 : Int)))] (fun b8 => [(47, .slice (some ⟨b8, 0, none⟩) 1 1)]) (fun b8 => [cells b1 [.string r2] 9, cells b2 [.bool false] 4, cells b3 [.string (plF r2 (wsOf r2))] 9, cells b5 [v4] 55, vec encS 9 1 v4 l4, cells jb1 [.int .i64 (x1.1 : Int), .int .i64 (x1.2 : Int)] 34, cells b8 [.string (cutB (plF r2 (wsOf r2)) (x1.1 : Int) (x1.2 : Int))] 9]) mixed (by as_aux_lemma => kernel_rfl) (by as_aux_lemma => kernel_rfl) rfl (by decide) (by decide) (by rfl) (by as_aux_lemma => kernel_rfl) (by as_aux_lemma => kernel_rfl) (DrawPreX.cons ?_ (DrawPreX.cons ?_ (DrawPreX.cons ?_ (DrawPreX.cons ?_ (DrawPreX.cons ?_ (DrawPreX.cons ?_ (DrawPreX.cons ?_ (DrawPreX.here DrawPreX.nil)))))))) (fun b8 => (DrawPreX.cons ?_ (DrawPreX.cons ?_ (DrawPreX.cons ?_ (DrawPreX.cons ?_ (DrawPreX.cons ?_ (DrawPreX.cons ?_ (DrawPreX.cons ?_ (DrawPreX.here DrawPreX.nil))))))))) ?_ ?_
       ·
        intro D hn hd hcl hu hi
        refine TO.load (k := 3) sc_55 rfl (by decide) (dl_old (by rfl) rfl) rfl rfl ?_
        exact TX.quiet 0 hu hi rfl
       ·
        intro D hn hd hcl hu hi
        refine TO.load (k := 2) sc_9 rfl (by decide) (dl_old (by rfl) rfl) rfl rfl ?_
        exact TX.quiet 1 hu hi rfl
       ·
        intro D hn hd hcl hu hi
        refine TO.fieldAddr fl_34_0 rfl (by decide) (dl_old (by rfl) rfl) (show _ = 0 from rfl) ?_
        exact TX.quiet 2 hu hi rfl
       ·
        intro D hn hd hcl hu hi
        refine TO.load (k := 5) sc_3 rfl (by decide) (dl_lookup (m := 2) hu rfl (hd 2 (by decide))) rfl rfl ?_
        exact TX.quiet 3 hu hi rfl
       ·
        intro D hn hd hcl hu hi
        refine TO.fieldAddr fl_34_1 rfl (by decide) (dl_old (by rfl) rfl) (show _ = 1 from rfl) ?_
        exact TX.quiet 4 hu hi rfl
       ·
        intro D hn hd hcl hu hi
        refine TO.load (k := 5) sc_3 rfl (by decide) (dl_lookup (m := 4) hu rfl (hd 4 (by decide))) rfl rfl ?_
        exact TX.quiet 5 hu hi rfl
       ·
        intro D hn hd hcl hu hi
        refine TO.slice rfl (by decide) (dl_lookup (m := 1) hu rfl (hd 1 (by decide))) (evO.some (dl_lookup (m := 3) hu rfl (hd 3 (by decide)))) (evO.some (dl_lookup (m := 5) hu rfl (hd 5 (by decide)))) (slice_stringI (i := (x1.1 : Int)) (j := (x1.2 : Int)) Try.underlying9 (.inr rfl) (.inr rfl) hg7) ?_
        exact TX.quiet 6 hu hi rfl
       ·
        intro D hn hd hcl hu hi
        refine TO.load (k := 3) sc_55 rfl (by decide) (dl_old (by rfl) rfl) rfl rfl ?_
        exact TX.quiet 0 hu hi rfl
       ·
        intro D hn hd hcl hu hi
        refine TO.load (k := 2) sc_9 rfl (by decide) (dl_old (by rfl) rfl) rfl rfl ?_
        exact TX.quiet 1 hu hi rfl
       ·
        intro D hn hd hcl hu hi
        refine TO.fieldAddr fl_34_0 rfl (by decide) (dl_old (by rfl) rfl) (show _ = 0 from rfl) ?_
        exact TX.quiet 2 hu hi rfl
       ·
        intro D hn hd hcl hu hi
        refine TO.load (k := 5) sc_3 rfl (by decide) (dl_lookup (m := 2) hu rfl (hd 2 (by decide))) rfl rfl ?_
        exact TX.quiet 3 hu hi rfl
       ·
        intro D hn hd hcl hu hi
        refine TO.fieldAddr fl_34_1 rfl (by decide) (dl_old (by rfl) rfl) (show _ = 1 from rfl) ?_
        exact TX.quiet 4 hu hi rfl
       ·
        intro D hn hd hcl hu hi
        refine TO.load (k := 5) sc_3 rfl (by decide) (dl_lookup (m := 4) hu rfl (hd 4 (by decide))) rfl rfl ?_
        exact TX.quiet 5 hu hi rfl
       ·
        intro D hn hd hcl hu hi
        refine TO.slice rfl (by decide) (dl_lookup (m := 1) hu rfl (hd 1 (by decide))) (evO.some (dl_lookup (m := 3) hu rfl (hd 3 (by decide)))) (evO.some (dl_lookup (m := 5) hu rfl (hd 5 (by decide)))) (slice_stringI (i := (x1.1 : Int)) (j := (x1.2 : Int)) Try.underlying9 (.inr rfl) (.inr rfl) hg7) ?_
        exact TX.quiet 6 hu hi rfl
       ·
        intro D hn hd hcl
        refine TO.buildSlice (cs := [.string (cutB (plF r2 (wsOf r2)) (x1.1 : Int) (x1.2 : Int))]) (te := 9) (ps := [(0, .tmp 46)]) rfl (by decide) (evP.cons (dl_lookup (m := 6) (by as_aux_lemma => kernel_rfl) rfl (hd 6 (by decide))) evP.nil) (fun _ => by kernel_rfl) (fun b8 => ?_)
        exact fun a w ha hw => ⟨b8, Sbs.mid (by rfl) _ _ _ ha, hw⟩
       intro b8
       show TO _ _ _ _ _ _ _ _ _ _ [cells b1 [.string r2] 9, cells b2 [.bool false] 4, cells b3 [.string (plF r2 (wsOf r2))] 9, cells b5 [v4] 55, vec encS 9 1 v4 l4, cells jb1 [.int .i64 (x1.1 : Int), .int .i64 (x1.2 : Int)] 34, cells b8 [.string (cutB (plF r2 (wsOf r2)) (x1.1 : Int) (x1.2 : Int))] 9]
       refine TO.appendVec (k := 4) (k2 := 6) (ys := [cutB (plF r2 (wsOf r2)) (x1.1 : Int) (x1.2 : Int)]) Try.underlying55 el_9 encS_len encS_one rfl (by decide) rfl rfl rfl rfl rfl rfl hg8 (fun v5 => ?_)
       refine TO.store (k := 3) (l' := [v5]) sz_55 rfl rfl rfl rfl rfl (fun _ h => one_vec h (k := 4) rfl) rfl ?_
       show TO _ _ _ _ _ _ _ _ _ _ [cells b1 [.string r2] 9, cells b2 [.bool false] 4, cells b3 [.string (plF r2 (wsOf r2))] 9, cells b5 [v5] 55, vec encS 9 1 v5 (l4 ++ [cutB (plF r2 (wsOf r2)) (x1.1 : Int) (x1.2 : Int)]), cells jb1 [.int .i64 (x1.1 : Int), .int .i64 (x1.2 : Int)] 34, cells b8 [.string (cutB (plF r2 (wsOf r2)) (x1.1 : Int) (x1.2 : Int))] 9]
       refine TO.nil (TX.blockNormal ?_)
       exact TX.round (l4 ++ [cutB (plF r2 (wsOf r2)) (x1.1 : Int) (x1.2 : Int)], v5) (fun post2 e2 => by have e9 := snoc_post hxs1 e2; subst e9; subst hag1; exact h) (Splits.of [0, 1, 2, 3, 4] (by as_aux_lemma => kernel_rfl) rfl)
      ·
       rintro dm1 ⟨l4, v4⟩ hinv
       have h : d1 l4 = some r := hinv [] (List.append_nil _).symm
       subst hd1
       show TX _ _ _ _ _ _ _ [star ((([] : List Nat) : List Nat).map mark), emp, emp, emp, emp, cells b6 [.string (plF r2 (wsOf r2))] 9, emp, cells b1 [.string r2] 9, cells b2 [.bool false] 4, cells b3 [.string (plF r2 (wsOf r2))] 9, cells b5 [v4] 55, vec encS 9 1 v4 l4, mark dm1]
       refine TX.starCons (k := 12) (j := 0) rfl rfl (by decide) ?_
       show TX _ _ _ _ _ _ _ [star ((dm1 :: ([] : List Nat) : List Nat).map mark), emp, emp, emp, emp, cells b6 [.string (plF r2 (wsOf r2))] 9, emp, cells b1 [.string r2] 9, cells b2 [.bool false] 4, cells b3 [.string (plF r2 (wsOf r2))] 9, cells b5 [v4] 55, vec encS 9 1 v4 l4, emp]
       refine TX.blockNormal ?_
       exact TX.meetD (l4, b5, v4, dm1 :: ([] : List Nat)) h rfl (Sbs.cons rfl (Sbs.cons rfl (Sbs.cons rfl (Sbs.nil)))) (Splits.of [7, 8, 10, 11, 0] (by as_aux_lemma => kernel_rfl) rfl)
      ·
       rintro dm1 c pre x1 post g hxs hX
       exact (show False from hX).elim
     ·
      rintro ⟨l1, b4, v1, ds1⟩ h
      subst hj1
      show TC _ _ _ _ _ (marksOf ds1) _ _ [(1, .pointer (some ⟨b1, 0, none⟩)), (2, .pointer (some ⟨b2, 0, none⟩)), (5, .pointer (some ⟨b4, 0, none⟩))] [cells b1 [.string r2] 9, cells b2 [.bool false] 4, cells b4 [v1] 55, vec encS 9 1 v1 l1, star ((ds1 : List Nat).map mark)]
      obtain ⟨j2, hj2, h⟩ := joinE h
      refine TC.cutN (β := Int × Nat × (List Nat)) 1 rfl (fun b => j2 b.1 = some r) (fun b => marksOf b.2.2) (fun b => [(2, .pointer (some ⟨b2, 0, none⟩)), (5, .pointer (some ⟨b4, 0, none⟩)), (7, .pointer (some ⟨b.2.1, 0, none⟩))]) (fun b => [cells b2 [.bool false] 4, cells b4 [v1] 55, vec encS 9 1 v1 l1, cells b.2.1 [.int .i64 b.1] 3, star ((b.2.2 : List Nat).map mark)]) (fun cut => ?_) ?_
      ·
       refine TC.seq (TC.region ?_)
       refine TO.alloc zr_3 rfl (by decide) (fun b10 => ?_)
       refine TO.store (k := 5) (l' := [.int .i64 0]) sz_3 rfl rfl rfl rfl rfl (fun _ _ => rfl) rfl ?_
       show TO _ _ _ _ _ _ _ _ _ _ [cells b1 [.string r2] 9, cells b2 [.bool false] 4, cells b4 [v1] 55, vec encS 9 1 v1 l1, star ((ds1 : List Nat).map mark), cells b10 [.int .i64 0] 3]
       refine TO.nil (TX.next (cut (TC.seq (TC.region (TO.load (k := 0) sc_9 rfl (by decide) rfl rfl rfl (TO.call (vs := [.string r2]) rfl (by decide) rfl rfl rfl en_16 (words_fn r2) Splits.nil ?_))))))
       rintro b11
       show TO _ _ _ _ _ _ _ _ _ _ [cells b1 [.string r2] 9, cells b2 [.bool false] 4, cells b4 [v1] 55, vec encS 9 1 v1 l1, star ((ds1 : List Nat).map mark), cells b10 [.int .i64 0] 3, cells b11 [.string r2] 9]
       refine TO.nil (TX.next (TC.block ?_))
       obtain ⟨hg9, h⟩ := grdE h
       obtain ⟨e1, he1, h⟩ := joinE h
       obtain ⟨d2, hd2, h⟩ := joinE h
       refine TC.range (α := Nat × Nat) (β := Int) (γ := Int) (δ := Nat) (ps := [51]) Ro.nil rfl en_51 (words1_itr r2 hg9 b11) (fun pre b => ∀ post, wsOf r2 = pre ++ post → rangeG d2 (law07_WordAlone_s2 r2 l1 e1) post b = some r) (fun pre b => [cells b1 [.string r2] 9, cells b2 [.bool false] 4, cells b4 [v1] 55, vec encS 9 1 v1 l1, cells b10 [.int .i64 b] 3]) (fun c pre g => (fun g => c = .ret ∧ e1 g = some r) g) (fun c pre g => (fun g => [cells b1 [.string r2] 9, cells b2 [.bool false] 4, cells b4 [v1] 55, vec encS 9 1 v1 l1, cells b10 [.int .i64 g] 3]) g) (fun pre x b j => [(1, .pointer (some ⟨b1, 0, none⟩)), (2, .pointer (some ⟨b2, 0, none⟩)), (5, .pointer (some ⟨b4, 0, none⟩)), (7, .pointer (some ⟨b10, 0, none⟩)), (50, .func (.func 51) #[] #[.pointer (some ⟨b11, 0, none⟩)]), (8, .pointer (some ⟨j, 0, none⟩))]) (fun pre x b j => [cells b1 [.string r2] 9, cells b2 [.bool false] 4, cells b4 [v1] 55, vec encS 9 1 v1 l1, cells b10 [.int .i64 b] 3, cells j [.int .i64 (x.1 : Int), .int .i64 (x.2 : Int)] 34]) 0 (fun post e => by rw [List.nil_append] at e; subst e; exact h) (Splits.of [0, 1, 2, 3, 5] (by as_aux_lemma => kernel_rfl) rfl) ⟨.inl ⟨6, rfl⟩, trivial⟩ (fun _ => rfl) (by decide) ?_ ?_ ?_ ?_
       ·
        rintro lp rc pre x2 post n4 w1 K1 hxs2 hext hro hinv
        refine TC.region ?_
        refine TO.alloc zr_34 rfl (by decide) (fun b12 => ?_)
        refine TO.stores (k := 5) (vs := [.int .i64 (x2.1 : Int), .int .i64 (x2.2 : Int)]) (l' := [.int .i64 (x2.1 : Int), .int .i64 (x2.2 : Int)]) sz_34 rfl rfl rfl rfl rfl (show _ ≤ _ by simp) rfl rfl ?_
        show TO _ _ _ _ _ _ _ _ _ _ [cells b1 [.string r2] 9, cells b2 [.bool false] 4, cells b4 [v1] 55, vec encS 9 1 v1 l1, cells b10 [.int .i64 n4] 3, cells b12 [.int .i64 (x2.1 : Int), .int .i64 (x2.2 : Int)] 34]
        refine TO.nil ?_
        exact fun a w ha hw => ⟨b12, (Sbs.cons rfl (Sbs.cons rfl (Sbs.cons rfl (Sbs.cons rfl (Sbs.cons rfl (Sbs.cons rfl (Sbs.nil))))))) _ _ _ ha, hw.weaken (Splits.of [0, 1, 2, 3, 4, 5] (by as_aux_lemma => kernel_rfl) rfl)⟩
       ·
        rintro lp rc pre x2 post2 n4 jb2 w1 K1 hxs2 hext hro hinv
        have h := hinv (x2 :: post2) hxs2
        obtain ⟨ag2, hag2⟩ : ∃ ag, ag = rangeG d2 (law07_WordAlone_s2 r2 l1 e1) post2 := ⟨_, rfl⟩
        have h : law07_WordAlone_s2 r2 l1 e1 x2 ag2 n4 = some r := by rw [hag2]; exact h
        unfold law07_WordAlone_s2 at h
        show TC _ _ _ _ _ _ _ _ [(1, .pointer (some ⟨b1, 0, none⟩)), (2, .pointer (some ⟨b2, 0, none⟩)), (5, .pointer (some ⟨b4, 0, none⟩)), (7, .pointer (some ⟨b10, 0, none⟩)), (50, .func (.func 51) #[] #[.pointer (some ⟨b11, 0, none⟩)]), (8, .pointer (some ⟨jb2, 0, none⟩))] [cells b1 [.string r2] 9, cells b2 [.bool false] 4, cells b4 [v1] 55, vec encS 9 1 v1 l1, cells b10 [.int .i64 n4] 3, cells jb2 [.int .i64 (x2.1 : Int), .int .i64 (x2.2 : Int)] 34]
        refine TC.block (TC.seq (TC.seq ?_))
        refine TC.bySplit (b := decide (((l1.length : Int) : Int) ≤ n4)) (fun hb5 => ?_) (fun hb5 => ?_)
        ·
         have h := condT hb5 h
         refine TC.drawN 20 [(0, 52, .int .i64 n4), (1, 53, v1), (2, 54, .int .i64 (l1.length : Int)), (3, 55, .bool true), (4, 56, .bool true), (5, 57, undef), (6, 58, undef), (7, 59, undef), (8, 60, undef), (9, 61, undef), (10, 62, undef), (11, 63, undef), (12, 64, undef), (13, 65, undef), (14, 66, undef), (15, 67, undef), (16, 68, .bool true), (17, 69, .bool true), (18, 70, undef), (19, 71, undef)] mixed (by as_aux_lemma => kernel_rfl) (by as_aux_lemma => kernel_rfl) (by decide) (by rfl) (by as_aux_lemma => kernel_rfl) (by as_aux_lemma => kernel_rfl) (DrawPre.cons ?_ (DrawPre.cons ?_ (DrawPre.cons ?_ (DrawPre.cons ?_ (DrawPre.cons ?_ (DrawPre.cons ?_ (DrawPre.cons ?_ (DrawPre.cons ?_ (DrawPre.cons ?_ (DrawPre.cons ?_ (DrawPre.cons ?_ (DrawPre.cons ?_ (DrawPre.cons ?_ (DrawPre.cons ?_ (DrawPre.cons ?_ (DrawPre.cons ?_ (DrawPre.cons ?_ (DrawPre.cons ?_ (DrawPre.cons ?_ (DrawPre.cons ?_ DrawPre.nil)))))))))))))))))))) ?_
         ·
          intro D hn hd hcl hu hi
          refine TO.load (k := 4) sc_3 rfl (by decide) (dl_old (by rfl) rfl) rfl rfl ?_
          exact TX.quiet 0 hu hi rfl
         ·
          intro D hn hd hcl hu hi
          refine TO.load (k := 2) sc_55 rfl (by decide) (dl_old (by rfl) rfl) rfl rfl ?_
          exact TX.quiet 1 hu hi rfl
         ·
          intro D hn hd hcl hu hi
          refine TO.lenVec (k := 3) rfl (by decide) (dl_lookup (m := 1) hu rfl (hd 1 (by decide))) rfl Try.underlying55 ?_
          exact TX.quiet 2 hu hi rfl
         ·
          intro D hn hd hcl hu hi
          refine TO.bin rfl (by decide) (dl_lookup (m := 0) hu rfl (hd 0 (by decide))) (dl_lookup (m := 2) hu rfl (hd 2 (by decide))) bin_geq (TO.rewH (show Value.bool (decide (((l1.length : Int) : Int) ≤ n4)) = Value.bool true from congrArg Value.bool hb5) ?_)
          exact TX.quiet 3 hu hi rfl
         ·
          intro D hn hd hcl hu hi
          refine TO.move rfl (by decide) (dl_lookup (m := 3) hu rfl (hd 3 (by decide))) ?_
          exact TX.quiet 4 hu hi rfl
         ·
          intro D hn hd hcl hu hi
          refine TO.skip (gd_F rfl (dl_lookup (m := 4) hu rfl (hd 4 (by decide)))) (by decide) ?_
          exact TX.quiet 5 hu hi rfl
         ·
          intro D hn hd hcl hu hi
          refine TO.skip (gd_F rfl (dl_lookup (m := 4) hu rfl (hd 4 (by decide)))) (by decide) ?_
          exact TX.quiet 6 hu hi rfl
         ·
          intro D hn hd hcl hu hi
          refine TO.skip (gd_F rfl (dl_lookup (m := 4) hu rfl (hd 4 (by decide)))) (by decide) ?_
          exact TX.quiet 7 hu hi rfl
         ·
          intro D hn hd hcl hu hi
          refine TO.skip (gd_F rfl (dl_lookup (m := 4) hu rfl (hd 4 (by decide)))) (by decide) ?_
          exact TX.quiet 8 hu hi rfl
         ·
          intro D hn hd hcl hu hi
          refine TO.skip (gd_F rfl (dl_lookup (m := 4) hu rfl (hd 4 (by decide)))) (by decide) ?_
          exact TX.quiet 9 hu hi rfl
         ·
          intro D hn hd hcl hu hi
          refine TO.skip (gd_F rfl (dl_lookup (m := 4) hu rfl (hd 4 (by decide)))) (by decide) ?_
          exact TX.quiet 10 hu hi rfl
         ·
          intro D hn hd hcl hu hi
          refine TO.skip (gd_F rfl (dl_lookup (m := 4) hu rfl (hd 4 (by decide)))) (by decide) ?_
          exact TX.quiet 11 hu hi rfl
         ·
          intro D hn hd hcl hu hi
          refine TO.skip (gd_F rfl (dl_lookup (m := 4) hu rfl (hd 4 (by decide)))) (by decide) ?_
          exact TX.quiet 12 hu hi rfl
         ·
          intro D hn hd hcl hu hi
          refine TO.skip (gd_F rfl (dl_lookup (m := 4) hu rfl (hd 4 (by decide)))) (by decide) ?_
          exact TX.quiet 13 hu hi rfl
         ·
          intro D hn hd hcl hu hi
          refine TO.skip (gd_F rfl (dl_lookup (m := 4) hu rfl (hd 4 (by decide)))) (by decide) ?_
          exact TX.quiet 14 hu hi rfl
         ·
          intro D hn hd hcl hu hi
          refine TO.skip (gd_F rfl (dl_lookup (m := 4) hu rfl (hd 4 (by decide)))) (by decide) ?_
          exact TX.quiet 15 hu hi rfl
         ·
          intro D hn hd hcl hu hi
          refine TO.pick (b := true) rfl (by decide) (dl_lookup (m := 4) hu rfl (hd 4 (by decide))) rfl ?_
          exact TX.quiet 16 hu hi rfl
         ·
          intro D hn hd hcl hu hi
          refine TO.move rfl (by decide) (dl_lookup (m := 16) hu rfl (hd 16 (by decide))) ?_
          exact TX.quiet 17 hu hi rfl
         ·
          intro D hn hd hcl hu hi
          refine TO.skip (gd_F rfl (dl_lookup (m := 17) hu rfl (hd 17 (by decide)))) (by decide) ?_
          exact TX.quiet 18 hu hi rfl
         ·
          intro D hn hd hcl hu hi
          refine TO.skip (gd_F rfl (dl_lookup (m := 17) hu rfl (hd 17 (by decide)))) (by decide) ?_
          exact TX.quiet 19 hu hi rfl
         refine TO.skip rfl (by decide) (TO.skip rfl (by decide) (TO.skip rfl (by decide) (TO.skip rfl (by decide) (TO.pick (b := true) rfl (by decide) rfl rfl (TO.nil (TX.next (TC.condT rfl (TC.seq (TC.region ?_)))))))))
         refine TO.store (k := 1) (l' := [.bool false]) sz_4 rfl rfl rfl rfl rfl (fun _ _ => rfl) rfl ?_
         refine TO.nil (TX.next (TC.ret (TX.thenRet (TX.blockRet ?_))))
         exact TX.roundRet n4 (show _ ∧ _ from ⟨rfl, h⟩) (Splits.of [0, 1, 2, 3, 4] (by as_aux_lemma => kernel_rfl) rfl)
        ·
         have h := condF hb5 h
         obtain ⟨hg10, h⟩ := grdE h
         obtain ⟨q1, hq3, h⟩ := andE h
         refine TC.bySplit (b := !decide (cutB r2 (x2.1 : Int) (x2.2 : Int) = q1)) (fun hb6 => ?_) (fun hb6 => ?_)
         ·
          have h := condT hb6 h
          refine TC.drawN 20 [(0, 52, .int .i64 n4), (1, 53, v1), (2, 54, .int .i64 (l1.length : Int)), (3, 55, .bool false), (4, 56, .bool false), (5, 57, .string r2), (6, 58, .pointer (some ⟨jb2, 0, none⟩)), (7, 59, .int .i64 (x2.1 : Int)), (8, 60, .pointer (some ⟨jb2, 1, none⟩)), (9, 61, .int .i64 (x2.2 : Int)), (10, 62, .string (cutB r2 (x2.1 : Int) (x2.2 : Int))), (11, 63, v1), (12, 64, .int .i64 n4), (13, 65, .pointer (some ⟨vblk v1, (n4 : Int).toNat * 1, none⟩)), (14, 66, .string q1), (15, 67, .bool true), (16, 68, .bool true), (17, 69, .bool true), (18, 70, undef), (19, 71, undef)] mixed (by as_aux_lemma => kernel_rfl) (by as_aux_lemma => kernel_rfl) (by decide) (by rfl) (by as_aux_lemma => kernel_rfl) (by as_aux_lemma => kernel_rfl) (DrawPre.cons ?_ (DrawPre.cons ?_ (DrawPre.cons ?_ (DrawPre.cons ?_ (DrawPre.cons ?_ (DrawPre.cons ?_ (DrawPre.cons ?_ (DrawPre.cons ?_ (DrawPre.cons ?_ (DrawPre.cons ?_ (DrawPre.cons ?_ (DrawPre.cons ?_ (DrawPre.cons ?_ (DrawPre.cons ?_ (DrawPre.cons ?_ (DrawPre.cons ?_ (DrawPre.cons ?_ (DrawPre.cons ?_ (DrawPre.cons ?_ (DrawPre.cons ?_ DrawPre.nil)))))))))))))))))))) ?_
          ·
           intro D hn hd hcl hu hi
           refine TO.load (k := 4) sc_3 rfl (by decide) (dl_old (by rfl) rfl) rfl rfl ?_
           exact TX.quiet 0 hu hi rfl
          ·
           intro D hn hd hcl hu hi
           refine TO.load (k := 2) sc_55 rfl (by decide) (dl_old (by rfl) rfl) rfl rfl ?_
           exact TX.quiet 1 hu hi rfl
          ·
           intro D hn hd hcl hu hi
           refine TO.lenVec (k := 3) rfl (by decide) (dl_lookup (m := 1) hu rfl (hd 1 (by decide))) rfl Try.underlying55 ?_
           exact TX.quiet 2 hu hi rfl
          ·
           intro D hn hd hcl hu hi
           refine TO.bin rfl (by decide) (dl_lookup (m := 0) hu rfl (hd 0 (by decide))) (dl_lookup (m := 2) hu rfl (hd 2 (by decide))) bin_geq (TO.rewH (show Value.bool (decide (((l1.length : Int) : Int) ≤ n4)) = Value.bool false from congrArg Value.bool hb5) ?_)
           exact TX.quiet 3 hu hi rfl
          ·
           intro D hn hd hcl hu hi
           refine TO.move rfl (by decide) (dl_lookup (m := 3) hu rfl (hd 3 (by decide))) ?_
           exact TX.quiet 4 hu hi rfl
          ·
           intro D hn hd hcl hu hi
           refine TO.load (k := 0) sc_9 (gd_T rfl (dl_lookup (m := 4) hu rfl (hd 4 (by decide)))) (by decide) (dl_old (by rfl) rfl) rfl rfl ?_
           exact TX.quiet 5 hu hi rfl
          ·
           intro D hn hd hcl hu hi
           refine TO.fieldAddr fl_34_0 (gd_T rfl (dl_lookup (m := 4) hu rfl (hd 4 (by decide)))) (by decide) (dl_old (by rfl) rfl) (show _ = 0 from rfl) ?_
           exact TX.quiet 6 hu hi rfl
          ·
           intro D hn hd hcl hu hi
           refine TO.load (k := 5) sc_3 (gd_T rfl (dl_lookup (m := 4) hu rfl (hd 4 (by decide)))) (by decide) (dl_lookup (m := 6) hu rfl (hd 6 (by decide))) rfl rfl ?_
           exact TX.quiet 7 hu hi rfl
          ·
           intro D hn hd hcl hu hi
           refine TO.fieldAddr fl_34_1 (gd_T rfl (dl_lookup (m := 4) hu rfl (hd 4 (by decide)))) (by decide) (dl_old (by rfl) rfl) (show _ = 1 from rfl) ?_
           exact TX.quiet 8 hu hi rfl
          ·
           intro D hn hd hcl hu hi
           refine TO.load (k := 5) sc_3 (gd_T rfl (dl_lookup (m := 4) hu rfl (hd 4 (by decide)))) (by decide) (dl_lookup (m := 8) hu rfl (hd 8 (by decide))) rfl rfl ?_
           exact TX.quiet 9 hu hi rfl
          ·
           intro D hn hd hcl hu hi
           refine TO.slice (gd_T rfl (dl_lookup (m := 4) hu rfl (hd 4 (by decide)))) (by decide) (dl_lookup (m := 5) hu rfl (hd 5 (by decide))) (evO.some (dl_lookup (m := 7) hu rfl (hd 7 (by decide)))) (evO.some (dl_lookup (m := 9) hu rfl (hd 9 (by decide)))) (slice_stringI (i := (x2.1 : Int)) (j := (x2.2 : Int)) Try.underlying9 (.inr rfl) (.inr rfl) hg10) ?_
           exact TX.quiet 10 hu hi rfl
          ·
           intro D hn hd hcl hu hi
           refine TO.load (k := 2) sc_55 (gd_T rfl (dl_lookup (m := 4) hu rfl (hd 4 (by decide)))) (by decide) (dl_old (by rfl) rfl) rfl rfl ?_
           exact TX.quiet 11 hu hi rfl
          ·
           intro D hn hd hcl hu hi
           refine TO.load (k := 4) sc_3 (gd_T rfl (dl_lookup (m := 4) hu rfl (hd 4 (by decide)))) (by decide) (dl_old (by rfl) rfl) rfl rfl ?_
           exact TX.quiet 12 hu hi rfl
          ·
           intro D hn hd hcl hu hi
           refine TO.indexVecI (k := 3) hq3 Try.underlying55 sz_9 (gd_T rfl (dl_lookup (m := 4) hu rfl (hd 4 (by decide)))) (by decide) (dl_lookup (m := 11) hu rfl (hd 11 (by decide))) (dl_lookup (m := 12) hu rfl (hd 12 (by decide))) rfl rfl ?_
           exact TX.quiet 13 hu hi rfl
          ·
           intro D hn hd hcl hu hi
           refine TO.loadVec (i := (n4 : Int).toNat) (j := 0) (k := 3) (q := q1) sc_9 encS_len (gd_T rfl (dl_lookup (m := 4) hu rfl (hd 4 (by decide)))) (by decide) (dl_lookup (m := 13) hu rfl (hd 13 (by decide))) rfl (getO_get hq3) rfl (by decide) rfl ?_
           exact TX.quiet 14 hu hi rfl
          ·
           intro D hn hd hcl hu hi
           refine TO.bin (gd_T rfl (dl_lookup (m := 4) hu rfl (hd 4 (by decide)))) (by decide) (dl_lookup (m := 10) hu rfl (hd 10 (by decide))) (dl_lookup (m := 14) hu rfl (hd 14 (by decide))) bin_sneq (TO.rewH (show Value.bool (!decide (cutB r2 (x2.1 : Int) (x2.2 : Int) = q1)) = Value.bool true from congrArg Value.bool hb6) ?_)
           exact TX.quiet 15 hu hi rfl
          ·
           intro D hn hd hcl hu hi
           refine TO.pick (b := false) rfl (by decide) (dl_lookup (m := 4) hu rfl (hd 4 (by decide))) (dl_lookup (m := 15) hu rfl (hd 15 (by decide))) ?_
           exact TX.quiet 16 hu hi rfl
          ·
           intro D hn hd hcl hu hi
           refine TO.move rfl (by decide) (dl_lookup (m := 16) hu rfl (hd 16 (by decide))) ?_
           exact TX.quiet 17 hu hi rfl
          ·
           intro D hn hd hcl hu hi
           refine TO.skip (gd_F rfl (dl_lookup (m := 17) hu rfl (hd 17 (by decide)))) (by decide) ?_
           exact TX.quiet 18 hu hi rfl
          ·
           intro D hn hd hcl hu hi
           refine TO.skip (gd_F rfl (dl_lookup (m := 17) hu rfl (hd 17 (by decide)))) (by decide) ?_
           exact TX.quiet 19 hu hi rfl
          refine TO.skip rfl (by decide) (TO.skip rfl (by decide) (TO.skip rfl (by decide) (TO.skip rfl (by decide) (TO.pick (b := true) rfl (by decide) rfl rfl (TO.nil (TX.next (TC.condT rfl (TC.seq (TC.region ?_)))))))))
          refine TO.store (k := 1) (l' := [.bool false]) sz_4 rfl rfl rfl rfl rfl (fun _ _ => rfl) rfl ?_
          refine TO.nil (TX.next (TC.ret (TX.thenRet (TX.blockRet ?_))))
          exact TX.roundRet n4 (show _ ∧ _ from ⟨rfl, h⟩) (Splits.of [0, 1, 2, 3, 4] (by as_aux_lemma => kernel_rfl) rfl)
         ·
          have h := condF hb6 h
          obtain ⟨hg11, h⟩ := grdE h
          refine TC.drawN 20 [(0, 52, .int .i64 n4), (1, 53, v1), (2, 54, .int .i64 (l1.length : Int)), (3, 55, .bool false), (4, 56, .bool false), (5, 57, .string r2), (6, 58, .pointer (some ⟨jb2, 0, none⟩)), (7, 59, .int .i64 (x2.1 : Int)), (8, 60, .pointer (some ⟨jb2, 1, none⟩)), (9, 61, .int .i64 (x2.2 : Int)), (10, 62, .string (cutB r2 (x2.1 : Int) (x2.2 : Int))), (11, 63, v1), (12, 64, .int .i64 n4), (13, 65, .pointer (some ⟨vblk v1, (n4 : Int).toNat * 1, none⟩)), (14, 66, .string q1), (15, 67, .bool false), (16, 68, .bool false), (17, 69, .bool false), (18, 70, v1), (19, 71, .int .i64 n4)] mixed (by as_aux_lemma => kernel_rfl) (by as_aux_lemma => kernel_rfl) (by decide) (by rfl) (by as_aux_lemma => kernel_rfl) (by as_aux_lemma => kernel_rfl) (DrawPre.cons ?_ (DrawPre.cons ?_ (DrawPre.cons ?_ (DrawPre.cons ?_ (DrawPre.cons ?_ (DrawPre.cons ?_ (DrawPre.cons ?_ (DrawPre.cons ?_ (DrawPre.cons ?_ (DrawPre.cons ?_ (DrawPre.cons ?_ (DrawPre.cons ?_ (DrawPre.cons ?_ (DrawPre.cons ?_ (DrawPre.cons ?_ (DrawPre.cons ?_ (DrawPre.cons ?_ (DrawPre.cons ?_ (DrawPre.cons ?_ (DrawPre.cons ?_ DrawPre.nil)))))))))))))))))))) ?_
          ·
           intro D hn hd hcl hu hi
           refine TO.load (k := 4) sc_3 rfl (by decide) (dl_old (by rfl) rfl) rfl rfl ?_
           exact TX.quiet 0 hu hi rfl
          ·
           intro D hn hd hcl hu hi
           refine TO.load (k := 2) sc_55 rfl (by decide) (dl_old (by rfl) rfl) rfl rfl ?_
           exact TX.quiet 1 hu hi rfl
          ·
           intro D hn hd hcl hu hi
           refine TO.lenVec (k := 3) rfl (by decide) (dl_lookup (m := 1) hu rfl (hd 1 (by decide))) rfl Try.underlying55 ?_
           exact TX.quiet 2 hu hi rfl
          ·
           intro D hn hd hcl hu hi
           refine TO.bin rfl (by decide) (dl_lookup (m := 0) hu rfl (hd 0 (by decide))) (dl_lookup (m := 2) hu rfl (hd 2 (by decide))) bin_geq (TO.rewH (show Value.bool (decide (((l1.length : Int) : Int) ≤ n4)) = Value.bool false from congrArg Value.bool hb5) ?_)
           exact TX.quiet 3 hu hi rfl
          ·
           intro D hn hd hcl hu hi
           refine TO.move rfl (by decide) (dl_lookup (m := 3) hu rfl (hd 3 (by decide))) ?_
           exact TX.quiet 4 hu hi rfl
          ·
           intro D hn hd hcl hu hi
           refine TO.load (k := 0) sc_9 (gd_T rfl (dl_lookup (m := 4) hu rfl (hd 4 (by decide)))) (by decide) (dl_old (by rfl) rfl) rfl rfl ?_
           exact TX.quiet 5 hu hi rfl
          ·
           intro D hn hd hcl hu hi
           refine TO.fieldAddr fl_34_0 (gd_T rfl (dl_lookup (m := 4) hu rfl (hd 4 (by decide)))) (by decide) (dl_old (by rfl) rfl) (show _ = 0 from rfl) ?_
           exact TX.quiet 6 hu hi rfl
          ·
           intro D hn hd hcl hu hi
           refine TO.load (k := 5) sc_3 (gd_T rfl (dl_lookup (m := 4) hu rfl (hd 4 (by decide)))) (by decide) (dl_lookup (m := 6) hu rfl (hd 6 (by decide))) rfl rfl ?_
           exact TX.quiet 7 hu hi rfl
          ·
           intro D hn hd hcl hu hi
           refine TO.fieldAddr fl_34_1 (gd_T rfl (dl_lookup (m := 4) hu rfl (hd 4 (by decide)))) (by decide) (dl_old (by rfl) rfl) (show _ = 1 from rfl) ?_
           exact TX.quiet 8 hu hi rfl
          ·
           intro D hn hd hcl hu hi
           refine TO.load (k := 5) sc_3 (gd_T rfl (dl_lookup (m := 4) hu rfl (hd 4 (by decide)))) (by decide) (dl_lookup (m := 8) hu rfl (hd 8 (by decide))) rfl rfl ?_
           exact TX.quiet 9 hu hi rfl
          ·
           intro D hn hd hcl hu hi
           refine TO.slice (gd_T rfl (dl_lookup (m := 4) hu rfl (hd 4 (by decide)))) (by decide) (dl_lookup (m := 5) hu rfl (hd 5 (by decide))) (evO.some (dl_lookup (m := 7) hu rfl (hd 7 (by decide)))) (evO.some (dl_lookup (m := 9) hu rfl (hd 9 (by decide)))) (slice_stringI (i := (x2.1 : Int)) (j := (x2.2 : Int)) Try.underlying9 (.inr rfl) (.inr rfl) hg10) ?_
           exact TX.quiet 10 hu hi rfl
          ·
           intro D hn hd hcl hu hi
           refine TO.load (k := 2) sc_55 (gd_T rfl (dl_lookup (m := 4) hu rfl (hd 4 (by decide)))) (by decide) (dl_old (by rfl) rfl) rfl rfl ?_
           exact TX.quiet 11 hu hi rfl
          ·
           intro D hn hd hcl hu hi
           refine TO.load (k := 4) sc_3 (gd_T rfl (dl_lookup (m := 4) hu rfl (hd 4 (by decide)))) (by decide) (dl_old (by rfl) rfl) rfl rfl ?_
           exact TX.quiet 12 hu hi rfl
          ·
           intro D hn hd hcl hu hi
           refine TO.indexVecI (k := 3) hq3 Try.underlying55 sz_9 (gd_T rfl (dl_lookup (m := 4) hu rfl (hd 4 (by decide)))) (by decide) (dl_lookup (m := 11) hu rfl (hd 11 (by decide))) (dl_lookup (m := 12) hu rfl (hd 12 (by decide))) rfl rfl ?_
           exact TX.quiet 13 hu hi rfl
          ·
           intro D hn hd hcl hu hi
           refine TO.loadVec (i := (n4 : Int).toNat) (j := 0) (k := 3) (q := q1) sc_9 encS_len (gd_T rfl (dl_lookup (m := 4) hu rfl (hd 4 (by decide)))) (by decide) (dl_lookup (m := 13) hu rfl (hd 13 (by decide))) rfl (getO_get hq3) rfl (by decide) rfl ?_
           exact TX.quiet 14 hu hi rfl
          ·
           intro D hn hd hcl hu hi
           refine TO.bin (gd_T rfl (dl_lookup (m := 4) hu rfl (hd 4 (by decide)))) (by decide) (dl_lookup (m := 10) hu rfl (hd 10 (by decide))) (dl_lookup (m := 14) hu rfl (hd 14 (by decide))) bin_sneq (TO.rewH (show Value.bool (!decide (cutB r2 (x2.1 : Int) (x2.2 : Int) = q1)) = Value.bool false from congrArg Value.bool hb6) ?_)
           exact TX.quiet 15 hu hi rfl
          ·
           intro D hn hd hcl hu hi
           refine TO.pick (b := false) rfl (by decide) (dl_lookup (m := 4) hu rfl (hd 4 (by decide))) (dl_lookup (m := 15) hu rfl (hd 15 (by decide))) ?_
           exact TX.quiet 16 hu hi rfl
          ·
           intro D hn hd hcl hu hi
           refine TO.move rfl (by decide) (dl_lookup (m := 16) hu rfl (hd 16 (by decide))) ?_
           exact TX.quiet 17 hu hi rfl
          ·
           intro D hn hd hcl hu hi
           refine TO.load (k := 2) sc_55 (gd_T rfl (dl_lookup (m := 17) hu rfl (hd 17 (by decide)))) (by decide) (dl_old (by rfl) rfl) rfl rfl ?_
           exact TX.quiet 18 hu hi rfl
          ·
           intro D hn hd hcl hu hi
           refine TO.load (k := 4) sc_3 (gd_T rfl (dl_lookup (m := 17) hu rfl (hd 17 (by decide)))) (by decide) (dl_old (by rfl) rfl) rfl rfl ?_
           exact TX.quiet 19 hu hi rfl
          refine TO.indexVecI (k := 3) hq3 Try.underlying55 sz_9 rfl (by decide) rfl rfl rfl rfl (TO.loadVec (i := (n4 : Int).toNat) (j := 0) (k := 3) (q := q1) sc_9 encS_len rfl (by decide) rfl rfl (getO_get hq3) rfl (by decide) rfl (TO.callP (v := .bool (isWord (tksOf q1) q1.size)) (vs := [.string q1]) rfl (by decide) rfl rfl rfl en_19 (wis_c q1 hg11) (TO.un rfl (by decide) rfl un_not (TO.pick (b := false) rfl (by decide) rfl rfl (TO.nil (TX.next ?_))))))
          refine TC.condB rfl (fun hb7 => ?_) (fun hb7 => ?_)
          ·
           have h := condT hb7 h
           refine TC.seq (TC.region ?_)
           refine TO.store (k := 1) (l' := [.bool false]) sz_4 rfl rfl rfl rfl rfl (fun _ _ => rfl) rfl ?_
           refine TO.nil (TX.next (TC.ret (TX.thenRet (TX.blockRet ?_))))
           exact TX.roundRet n4 (show _ ∧ _ from ⟨rfl, h⟩) (Splits.of [0, 1, 2, 3, 4] (by as_aux_lemma => kernel_rfl) rfl)
          ·
           have h := condF hb7 h
           refine TC.skip (TX.next (TC.seq (TC.region (TO.load (k := 2) sc_55 rfl (by decide) rfl rfl rfl (TO.load (k := 4) sc_3 rfl (by decide) rfl rfl rfl ?_)))))
           obtain ⟨q2, hq4, h⟩ := andE h
           refine TO.indexVecI (k := 3) hq4 Try.underlying55 sz_9 rfl (by decide) rfl rfl rfl rfl (TO.loadVec (i := (n4 : Int).toNat) (j := 0) (k := 3) (q := q2) sc_9 encS_len rfl (by decide) rfl rfl (getO_get hq4) rfl (by decide) rfl ?_)
           obtain ⟨hg12, h⟩ := grdE h
           refine TO.call (vs := [.string q2]) rfl (by decide) rfl rfl rfl en_21 (wparts_c q2 hg12) Splits.nil ?_
           rintro v6
           show TO _ _ _ _ _ _ _ _ _ _ [cells b1 [.string r2] 9, cells b2 [.bool false] 4, cells b4 [v1] 55, vec encS 9 1 v1 l1, cells b10 [.int .i64 n4] 3, cells jb2 [.int .i64 (x2.1 : Int), .int .i64 (x2.2 : Int)] 34, vec enc_Gapi_Span 34 2 v6 ((ptsG q2).1)]
           refine TO.move rfl (by decide) rfl (TO.extract rfl (by decide) rfl rfl (TO.extract rfl (by decide) rfl rfl (TO.assign rfl (by decide) rfl (TO.assign rfl (by decide) rfl (TO.nil (TX.next (TC.seq (TC.seq ?_))))))))
           refine TC.bySplit (b := (((ptsG q2).2) : Int) != 0) (fun hb8 => ?_) (fun hb8 => ?_)
           ·
            have h := condT hb8 h
            refine TC.drawN 27 [(0, 85, .int .i64 ((ptsG q2).2)), (1, 86, .bool true), (2, 87, .bool true), (3, 88, undef), (4, 89, undef), (5, 90, undef), (6, 91, .bool true), (7, 92, .bool true), (8, 93, undef), (9, 94, undef), (10, 95, undef), (11, 96, undef), (12, 97, undef), (13, 98, .bool true), (14, 99, .bool true), (15, 100, undef), (16, 101, undef), (17, 102, undef), (18, 103, undef), (19, 104, undef), (20, 105, undef), (21, 106, undef), (22, 107, undef), (23, 108, undef), (24, 109, undef), (25, 110, undef), (26, 111, undef)] mixed (by as_aux_lemma => kernel_rfl) (by as_aux_lemma => kernel_rfl) (by decide) (by rfl) (by as_aux_lemma => kernel_rfl) (by as_aux_lemma => kernel_rfl) (DrawPre.cons ?_ (DrawPre.cons ?_ (DrawPre.cons ?_ (DrawPre.cons ?_ (DrawPre.cons ?_ (DrawPre.cons ?_ (DrawPre.cons ?_ (DrawPre.cons ?_ (DrawPre.cons ?_ (DrawPre.cons ?_ (DrawPre.cons ?_ (DrawPre.cons ?_ (DrawPre.cons ?_ (DrawPre.cons ?_ (DrawPre.cons ?_ (DrawPre.cons ?_ (DrawPre.cons ?_ (DrawPre.cons ?_ (DrawPre.cons ?_ (DrawPre.cons ?_ (DrawPre.cons ?_ (DrawPre.cons ?_ (DrawPre.cons ?_ (DrawPre.cons ?_ (DrawPre.cons ?_ (DrawPre.cons ?_ (DrawPre.cons ?_ DrawPre.nil))))))))))))))))))))))))))) ?_
            ·
             intro D hn hd hcl hu hi
             refine TO.move rfl (by decide) (dl_old (by rfl) rfl) ?_
             exact TX.quiet 0 hu hi rfl
            ·
             intro D hn hd hcl hu hi
             refine TO.bin rfl (by decide) (dl_lookup (m := 0) hu rfl (hd 0 (by decide))) rfl bin_neq (TO.rewH (show Value.bool ((((ptsG q2).2) : Int) != 0) = Value.bool true from congrArg Value.bool hb8) ?_)
             exact TX.quiet 1 hu hi rfl
            ·
             intro D hn hd hcl hu hi
             refine TO.move rfl (by decide) (dl_lookup (m := 1) hu rfl (hd 1 (by decide))) ?_
             exact TX.quiet 2 hu hi rfl
            ·
             intro D hn hd hcl hu hi
             refine TO.skip (gd_F rfl (dl_lookup (m := 2) hu rfl (hd 2 (by decide)))) (by decide) ?_
             exact TX.quiet 3 hu hi rfl
            ·
             intro D hn hd hcl hu hi
             refine TO.skip (gd_F rfl (dl_lookup (m := 2) hu rfl (hd 2 (by decide)))) (by decide) ?_
             exact TX.quiet 4 hu hi rfl
            ·
             intro D hn hd hcl hu hi
             refine TO.skip (gd_F rfl (dl_lookup (m := 2) hu rfl (hd 2 (by decide)))) (by decide) ?_
             exact TX.quiet 5 hu hi rfl
            ·
             intro D hn hd hcl hu hi
             refine TO.pick (b := true) rfl (by decide) (dl_lookup (m := 2) hu rfl (hd 2 (by decide))) rfl ?_
             exact TX.quiet 6 hu hi rfl
            ·
             intro D hn hd hcl hu hi
             refine TO.move rfl (by decide) (dl_lookup (m := 6) hu rfl (hd 6 (by decide))) ?_
             exact TX.quiet 7 hu hi rfl
            ·
             intro D hn hd hcl hu hi
             refine TO.skip (gd_F rfl (dl_lookup (m := 7) hu rfl (hd 7 (by decide)))) (by decide) ?_
             exact TX.quiet 8 hu hi rfl
            ·
             intro D hn hd hcl hu hi
             refine TO.skip (gd_F rfl (dl_lookup (m := 7) hu rfl (hd 7 (by decide)))) (by decide) ?_
             exact TX.quiet 9 hu hi rfl
            ·
             intro D hn hd hcl hu hi
             refine TO.skip (gd_F rfl (dl_lookup (m := 7) hu rfl (hd 7 (by decide)))) (by decide) ?_
             exact TX.quiet 10 hu hi rfl
            ·
             intro D hn hd hcl hu hi
             refine TO.skip (gd_F rfl (dl_lookup (m := 7) hu rfl (hd 7 (by decide)))) (by decide) ?_
             exact TX.quiet 11 hu hi rfl
            ·
             intro D hn hd hcl hu hi
             refine TO.skip (gd_F rfl (dl_lookup (m := 7) hu rfl (hd 7 (by decide)))) (by decide) ?_
             exact TX.quiet 12 hu hi rfl
            ·
             intro D hn hd hcl hu hi
             refine TO.pick (b := true) rfl (by decide) (dl_lookup (m := 7) hu rfl (hd 7 (by decide))) rfl ?_
             exact TX.quiet 13 hu hi rfl
            ·
             intro D hn hd hcl hu hi
             refine TO.move rfl (by decide) (dl_lookup (m := 13) hu rfl (hd 13 (by decide))) ?_
             exact TX.quiet 14 hu hi rfl
            ·
             intro D hn hd hcl hu hi
             refine TO.skip (gd_F rfl (dl_lookup (m := 14) hu rfl (hd 14 (by decide)))) (by decide) ?_
             exact TX.quiet 15 hu hi rfl
            ·
             intro D hn hd hcl hu hi
             refine TO.skip (gd_F rfl (dl_lookup (m := 14) hu rfl (hd 14 (by decide)))) (by decide) ?_
             exact TX.quiet 16 hu hi rfl
            ·
             intro D hn hd hcl hu hi
             refine TO.skip (gd_F rfl (dl_lookup (m := 14) hu rfl (hd 14 (by decide)))) (by decide) ?_
             exact TX.quiet 17 hu hi rfl
            ·
             intro D hn hd hcl hu hi
             refine TO.skip (gd_F rfl (dl_lookup (m := 14) hu rfl (hd 14 (by decide)))) (by decide) ?_
             exact TX.quiet 18 hu hi rfl
            ·
             intro D hn hd hcl hu hi
             refine TO.skip (gd_F rfl (dl_lookup (m := 14) hu rfl (hd 14 (by decide)))) (by decide) ?_
             exact TX.quiet 19 hu hi rfl
            ·
             intro D hn hd hcl hu hi
             refine TO.skip (gd_F rfl (dl_lookup (m := 14) hu rfl (hd 14 (by decide)))) (by decide) ?_
             exact TX.quiet 20 hu hi rfl
            ·
             intro D hn hd hcl hu hi
             refine TO.skip (gd_F rfl (dl_lookup (m := 14) hu rfl (hd 14 (by decide)))) (by decide) ?_
             exact TX.quiet 21 hu hi rfl
            ·
             intro D hn hd hcl hu hi
             refine TO.skip (gd_F rfl (dl_lookup (m := 14) hu rfl (hd 14 (by decide)))) (by decide) ?_
             exact TX.quiet 22 hu hi rfl
            ·
             intro D hn hd hcl hu hi
             refine TO.skip (gd_F rfl (dl_lookup (m := 14) hu rfl (hd 14 (by decide)))) (by decide) ?_
             exact TX.quiet 23 hu hi rfl
            ·
             intro D hn hd hcl hu hi
             refine TO.skip (gd_F rfl (dl_lookup (m := 14) hu rfl (hd 14 (by decide)))) (by decide) ?_
             exact TX.quiet 24 hu hi rfl
            ·
             intro D hn hd hcl hu hi
             refine TO.skip (gd_F rfl (dl_lookup (m := 14) hu rfl (hd 14 (by decide)))) (by decide) ?_
             exact TX.quiet 25 hu hi rfl
            ·
             intro D hn hd hcl hu hi
             refine TO.skip (gd_F rfl (dl_lookup (m := 14) hu rfl (hd 14 (by decide)))) (by decide) ?_
             exact TX.quiet 26 hu hi rfl
            refine TO.skip rfl (by decide) (TO.pick (b := true) rfl (by decide) rfl rfl (TO.nil (TX.next (TC.condT rfl (TC.seq (TC.region ?_))))))
            refine TO.store (k := 1) (l' := [.bool false]) sz_4 rfl rfl rfl rfl rfl (fun _ _ => rfl) rfl ?_
            refine TO.nil (TX.next (TC.ret (TX.thenRet (TX.blockRet ?_))))
            exact TX.roundRet n4 (show _ ∧ _ from ⟨rfl, h⟩) (Splits.of [0, 1, 2, 3, 4] (by as_aux_lemma => kernel_rfl) rfl)
           ·
            have h := condF hb8 h
            refine TC.bySplit (b := decide (((((ptsG q2).1).length : Int) : Int) < 1)) (fun hb9 => ?_) (fun hb9 => ?_)
            ·
             have h := condT hb9 h
             refine TC.drawN 27 [(0, 85, .int .i64 ((ptsG q2).2)), (1, 86, .bool false), (2, 87, .bool false), (3, 88, v6), (4, 89, .int .i64 (((ptsG q2).1).length : Int)), (5, 90, .bool true), (6, 91, .bool true), (7, 92, .bool true), (8, 93, undef), (9, 94, undef), (10, 95, undef), (11, 96, undef), (12, 97, undef), (13, 98, .bool true), (14, 99, .bool true), (15, 100, undef), (16, 101, undef), (17, 102, undef), (18, 103, undef), (19, 104, undef), (20, 105, undef), (21, 106, undef), (22, 107, undef), (23, 108, undef), (24, 109, undef), (25, 110, undef), (26, 111, undef)] mixed (by as_aux_lemma => kernel_rfl) (by as_aux_lemma => kernel_rfl) (by decide) (by rfl) (by as_aux_lemma => kernel_rfl) (by as_aux_lemma => kernel_rfl) (DrawPre.cons ?_ (DrawPre.cons ?_ (DrawPre.cons ?_ (DrawPre.cons ?_ (DrawPre.cons ?_ (DrawPre.cons ?_ (DrawPre.cons ?_ (DrawPre.cons ?_ (DrawPre.cons ?_ (DrawPre.cons ?_ (DrawPre.cons ?_ (DrawPre.cons ?_ (DrawPre.cons ?_ (DrawPre.cons ?_ (DrawPre.cons ?_ (DrawPre.cons ?_ (DrawPre.cons ?_ (DrawPre.cons ?_ (DrawPre.cons ?_ (DrawPre.cons ?_ (DrawPre.cons ?_ (DrawPre.cons ?_ (DrawPre.cons ?_ (DrawPre.cons ?_ (DrawPre.cons ?_ (DrawPre.cons ?_ (DrawPre.cons ?_ DrawPre.nil))))))))))))))))))))))))))) ?_
             ·
              intro D hn hd hcl hu hi
              refine TO.move rfl (by decide) (dl_old (by rfl) rfl) ?_
              exact TX.quiet 0 hu hi rfl
             ·
              intro D hn hd hcl hu hi
              refine TO.bin rfl (by decide) (dl_lookup (m := 0) hu rfl (hd 0 (by decide))) rfl bin_neq (TO.rewH (show Value.bool ((((ptsG q2).2) : Int) != 0) = Value.bool false from congrArg Value.bool hb8) ?_)
              exact TX.quiet 1 hu hi rfl
             ·
              intro D hn hd hcl hu hi
              refine TO.move rfl (by decide) (dl_lookup (m := 1) hu rfl (hd 1 (by decide))) ?_
              exact TX.quiet 2 hu hi rfl
             ·
              intro D hn hd hcl hu hi
              refine TO.move (gd_T rfl (dl_lookup (m := 2) hu rfl (hd 2 (by decide)))) (by decide) (dl_old (by rfl) rfl) ?_
              exact TX.quiet 3 hu hi rfl
             ·
              intro D hn hd hcl hu hi
              refine TO.lenVec (k := 6) (gd_T rfl (dl_lookup (m := 2) hu rfl (hd 2 (by decide)))) (by decide) (dl_lookup (m := 3) hu rfl (hd 3 (by decide))) rfl Try.underlying25 ?_
              exact TX.quiet 4 hu hi rfl
             ·
              intro D hn hd hcl hu hi
              refine TO.bin (gd_T rfl (dl_lookup (m := 2) hu rfl (hd 2 (by decide)))) (by decide) (dl_lookup (m := 4) hu rfl (hd 4 (by decide))) rfl bin_lss (TO.rewH (show Value.bool (decide (((((ptsG q2).1).length : Int) : Int) < 1)) = Value.bool true from congrArg Value.bool hb9) ?_)
              exact TX.quiet 5 hu hi rfl
             ·
              intro D hn hd hcl hu hi
              refine TO.pick (b := false) rfl (by decide) (dl_lookup (m := 2) hu rfl (hd 2 (by decide))) (dl_lookup (m := 5) hu rfl (hd 5 (by decide))) ?_
              exact TX.quiet 6 hu hi rfl
             ·
              intro D hn hd hcl hu hi
              refine TO.move rfl (by decide) (dl_lookup (m := 6) hu rfl (hd 6 (by decide))) ?_
              exact TX.quiet 7 hu hi rfl
             ·
              intro D hn hd hcl hu hi
              refine TO.skip (gd_F rfl (dl_lookup (m := 7) hu rfl (hd 7 (by decide)))) (by decide) ?_
              exact TX.quiet 8 hu hi rfl
             ·
              intro D hn hd hcl hu hi
              refine TO.skip (gd_F rfl (dl_lookup (m := 7) hu rfl (hd 7 (by decide)))) (by decide) ?_
              exact TX.quiet 9 hu hi rfl
             ·
              intro D hn hd hcl hu hi
              refine TO.skip (gd_F rfl (dl_lookup (m := 7) hu rfl (hd 7 (by decide)))) (by decide) ?_
              exact TX.quiet 10 hu hi rfl
             ·
              intro D hn hd hcl hu hi
              refine TO.skip (gd_F rfl (dl_lookup (m := 7) hu rfl (hd 7 (by decide)))) (by decide) ?_
              exact TX.quiet 11 hu hi rfl
             ·
              intro D hn hd hcl hu hi
              refine TO.skip (gd_F rfl (dl_lookup (m := 7) hu rfl (hd 7 (by decide)))) (by decide) ?_
              exact TX.quiet 12 hu hi rfl
             ·
              intro D hn hd hcl hu hi
              refine TO.pick (b := true) rfl (by decide) (dl_lookup (m := 7) hu rfl (hd 7 (by decide))) rfl ?_
              exact TX.quiet 13 hu hi rfl
             ·
              intro D hn hd hcl hu hi
              refine TO.move rfl (by decide) (dl_lookup (m := 13) hu rfl (hd 13 (by decide))) ?_
              exact TX.quiet 14 hu hi rfl
             ·
              intro D hn hd hcl hu hi
              refine TO.skip (gd_F rfl (dl_lookup (m := 14) hu rfl (hd 14 (by decide)))) (by decide) ?_
              exact TX.quiet 15 hu hi rfl
             ·
              intro D hn hd hcl hu hi
              refine TO.skip (gd_F rfl (dl_lookup (m := 14) hu rfl (hd 14 (by decide)))) (by decide) ?_
              exact TX.quiet 16 hu hi rfl
             ·
              intro D hn hd hcl hu hi
              refine TO.skip (gd_F rfl (dl_lookup (m := 14) hu rfl (hd 14 (by decide)))) (by decide) ?_
              exact TX.quiet 17 hu hi rfl
             ·
              intro D hn hd hcl hu hi
              refine TO.skip (gd_F rfl (dl_lookup (m := 14) hu rfl (hd 14 (by decide)))) (by decide) ?_
              exact TX.quiet 18 hu hi rfl
             ·
              intro D hn hd hcl hu hi
              refine TO.skip (gd_F rfl (dl_lookup (m := 14) hu rfl (hd 14 (by decide)))) (by decide) ?_
              exact TX.quiet 19 hu hi rfl
             ·
              intro D hn hd hcl hu hi
              refine TO.skip (gd_F rfl (dl_lookup (m := 14) hu rfl (hd 14 (by decide)))) (by decide) ?_
              exact TX.quiet 20 hu hi rfl
             ·
              intro D hn hd hcl hu hi
              refine TO.skip (gd_F rfl (dl_lookup (m := 14) hu rfl (hd 14 (by decide)))) (by decide) ?_
              exact TX.quiet 21 hu hi rfl
             ·
              intro D hn hd hcl hu hi
              refine TO.skip (gd_F rfl (dl_lookup (m := 14) hu rfl (hd 14 (by decide)))) (by decide) ?_
              exact TX.quiet 22 hu hi rfl
             ·
              intro D hn hd hcl hu hi
              refine TO.skip (gd_F rfl (dl_lookup (m := 14) hu rfl (hd 14 (by decide)))) (by decide) ?_
              exact TX.quiet 23 hu hi rfl
             ·
              intro D hn hd hcl hu hi
              refine TO.skip (gd_F rfl (dl_lookup (m := 14) hu rfl (hd 14 (by decide)))) (by decide) ?_
              exact TX.quiet 24 hu hi rfl
             ·
              intro D hn hd hcl hu hi
              refine TO.skip (gd_F rfl (dl_lookup (m := 14) hu rfl (hd 14 (by decide)))) (by decide) ?_
              exact TX.quiet 25 hu hi rfl
             ·
              intro D hn hd hcl hu hi
              refine TO.skip (gd_F rfl (dl_lookup (m := 14) hu rfl (hd 14 (by decide)))) (by decide) ?_
              exact TX.quiet 26 hu hi rfl
             refine TO.skip rfl (by decide) (TO.pick (b := true) rfl (by decide) rfl rfl (TO.nil (TX.next (TC.condT rfl (TC.seq (TC.region ?_))))))
             refine TO.store (k := 1) (l' := [.bool false]) sz_4 rfl rfl rfl rfl rfl (fun _ _ => rfl) rfl ?_
             refine TO.nil (TX.next (TC.ret (TX.thenRet (TX.blockRet ?_))))
             exact TX.roundRet n4 (show _ ∧ _ from ⟨rfl, h⟩) (Splits.of [0, 1, 2, 3, 4] (by as_aux_lemma => kernel_rfl) rfl)
            ·
             have h := condF hb9 h
             obtain ⟨q3, hq5, h⟩ := andE h
             refine TC.bySplit (b := (q3.From : Int) != 0) (fun hb10 => ?_) (fun hb10 => ?_)
             ·
              have h := condT hb10 h
              refine TC.drawN 27 [(0, 85, .int .i64 ((ptsG q2).2)), (1, 86, .bool false), (2, 87, .bool false), (3, 88, v6), (4, 89, .int .i64 (((ptsG q2).1).length : Int)), (5, 90, .bool false), (6, 91, .bool false), (7, 92, .bool false), (8, 93, v6), (9, 94, .pointer (some ⟨vblk v6, (0 : Int).toNat * 2, none⟩)), (10, 95, .pointer (some ⟨vblk v6, ((0 : Int).toNat) * 2, none⟩)), (11, 96, .int .i64 q3.From), (12, 97, .bool true), (13, 98, .bool true), (14, 99, .bool true), (15, 100, undef), (16, 101, undef), (17, 102, undef), (18, 103, undef), (19, 104, undef), (20, 105, undef), (21, 106, undef), (22, 107, undef), (23, 108, undef), (24, 109, undef), (25, 110, undef), (26, 111, undef)] mixed (by as_aux_lemma => kernel_rfl) (by as_aux_lemma => kernel_rfl) (by decide) (by rfl) (by as_aux_lemma => kernel_rfl) (by as_aux_lemma => kernel_rfl) (DrawPre.cons ?_ (DrawPre.cons ?_ (DrawPre.cons ?_ (DrawPre.cons ?_ (DrawPre.cons ?_ (DrawPre.cons ?_ (DrawPre.cons ?_ (DrawPre.cons ?_ (DrawPre.cons ?_ (DrawPre.cons ?_ (DrawPre.cons ?_ (DrawPre.cons ?_ (DrawPre.cons ?_ (DrawPre.cons ?_ (DrawPre.cons ?_ (DrawPre.cons ?_ (DrawPre.cons ?_ (DrawPre.cons ?_ (DrawPre.cons ?_ (DrawPre.cons ?_ (DrawPre.cons ?_ (DrawPre.cons ?_ (DrawPre.cons ?_ (DrawPre.cons ?_ (DrawPre.cons ?_ (DrawPre.cons ?_ (DrawPre.cons ?_ DrawPre.nil))))))))))))))))))))))))))) ?_
              ·
               intro D hn hd hcl hu hi
               refine TO.move rfl (by decide) (dl_old (by rfl) rfl) ?_
               exact TX.quiet 0 hu hi rfl
              ·
               intro D hn hd hcl hu hi
               refine TO.bin rfl (by decide) (dl_lookup (m := 0) hu rfl (hd 0 (by decide))) rfl bin_neq (TO.rewH (show Value.bool ((((ptsG q2).2) : Int) != 0) = Value.bool false from congrArg Value.bool hb8) ?_)
               exact TX.quiet 1 hu hi rfl
              ·
               intro D hn hd hcl hu hi
               refine TO.move rfl (by decide) (dl_lookup (m := 1) hu rfl (hd 1 (by decide))) ?_
               exact TX.quiet 2 hu hi rfl
              ·
               intro D hn hd hcl hu hi
               refine TO.move (gd_T rfl (dl_lookup (m := 2) hu rfl (hd 2 (by decide)))) (by decide) (dl_old (by rfl) rfl) ?_
               exact TX.quiet 3 hu hi rfl
              ·
               intro D hn hd hcl hu hi
               refine TO.lenVec (k := 6) (gd_T rfl (dl_lookup (m := 2) hu rfl (hd 2 (by decide)))) (by decide) (dl_lookup (m := 3) hu rfl (hd 3 (by decide))) rfl Try.underlying25 ?_
               exact TX.quiet 4 hu hi rfl
              ·
               intro D hn hd hcl hu hi
               refine TO.bin (gd_T rfl (dl_lookup (m := 2) hu rfl (hd 2 (by decide)))) (by decide) (dl_lookup (m := 4) hu rfl (hd 4 (by decide))) rfl bin_lss (TO.rewH (show Value.bool (decide (((((ptsG q2).1).length : Int) : Int) < 1)) = Value.bool false from congrArg Value.bool hb9) ?_)
               exact TX.quiet 5 hu hi rfl
              ·
               intro D hn hd hcl hu hi
               refine TO.pick (b := false) rfl (by decide) (dl_lookup (m := 2) hu rfl (hd 2 (by decide))) (dl_lookup (m := 5) hu rfl (hd 5 (by decide))) ?_
               exact TX.quiet 6 hu hi rfl
              ·
               intro D hn hd hcl hu hi
               refine TO.move rfl (by decide) (dl_lookup (m := 6) hu rfl (hd 6 (by decide))) ?_
               exact TX.quiet 7 hu hi rfl
              ·
               intro D hn hd hcl hu hi
               refine TO.move (gd_T rfl (dl_lookup (m := 7) hu rfl (hd 7 (by decide)))) (by decide) (dl_old (by rfl) rfl) ?_
               exact TX.quiet 8 hu hi rfl
              ·
               intro D hn hd hcl hu hi
               refine TO.indexVecI (k := 6) hq5 Try.underlying25 sz_34 (gd_T rfl (dl_lookup (m := 7) hu rfl (hd 7 (by decide)))) (by decide) (dl_lookup (m := 8) hu rfl (hd 8 (by decide))) rfl rfl rfl ?_
               exact TX.quiet 9 hu hi rfl
              ·
               intro D hn hd hcl hu hi
               refine TO.fieldAddr fl_34_0 (gd_T rfl (dl_lookup (m := 7) hu rfl (hd 7 (by decide)))) (by decide) (dl_lookup (m := 9) hu rfl (hd 9 (by decide))) (show _ = ((0 : Int).toNat) * 2 from rfl) ?_
               exact TX.quiet 10 hu hi rfl
              ·
               intro D hn hd hcl hu hi
               refine TO.loadVec (i := (0 : Int).toNat) (j := 0) (k := 6) (q := q3) sc_3 enc_Gapi_Span_len (gd_T rfl (dl_lookup (m := 7) hu rfl (hd 7 (by decide)))) (by decide) (dl_lookup (m := 10) hu rfl (hd 10 (by decide))) rfl (getO_get hq5) rfl (by decide) rfl ?_
               exact TX.quiet 11 hu hi rfl
              ·
               intro D hn hd hcl hu hi
               refine TO.bin (gd_T rfl (dl_lookup (m := 7) hu rfl (hd 7 (by decide)))) (by decide) (dl_lookup (m := 11) hu rfl (hd 11 (by decide))) rfl bin_neq (TO.rewH (show Value.bool ((q3.From : Int) != 0) = Value.bool true from congrArg Value.bool hb10) ?_)
               exact TX.quiet 12 hu hi rfl
              ·
               intro D hn hd hcl hu hi
               refine TO.pick (b := false) rfl (by decide) (dl_lookup (m := 7) hu rfl (hd 7 (by decide))) (dl_lookup (m := 12) hu rfl (hd 12 (by decide))) ?_
               exact TX.quiet 13 hu hi rfl
              ·
               intro D hn hd hcl hu hi
               refine TO.move rfl (by decide) (dl_lookup (m := 13) hu rfl (hd 13 (by decide))) ?_
               exact TX.quiet 14 hu hi rfl
              ·
               intro D hn hd hcl hu hi
               refine TO.skip (gd_F rfl (dl_lookup (m := 14) hu rfl (hd 14 (by decide)))) (by decide) ?_
               exact TX.quiet 15 hu hi rfl
              ·
               intro D hn hd hcl hu hi
               refine TO.skip (gd_F rfl (dl_lookup (m := 14) hu rfl (hd 14 (by decide)))) (by decide) ?_
               exact TX.quiet 16 hu hi rfl
              ·
               intro D hn hd hcl hu hi
               refine TO.skip (gd_F rfl (dl_lookup (m := 14) hu rfl (hd 14 (by decide)))) (by decide) ?_
               exact TX.quiet 17 hu hi rfl
              ·
               intro D hn hd hcl hu hi
               refine TO.skip (gd_F rfl (dl_lookup (m := 14) hu rfl (hd 14 (by decide)))) (by decide) ?_
               exact TX.quiet 18 hu hi rfl
              ·
               intro D hn hd hcl hu hi
               refine TO.skip (gd_F rfl (dl_lookup (m := 14) hu rfl (hd 14 (by decide)))) (by decide) ?_
               exact TX.quiet 19 hu hi rfl
              ·
               intro D hn hd hcl hu hi
               refine TO.skip (gd_F rfl (dl_lookup (m := 14) hu rfl (hd 14 (by decide)))) (by decide) ?_
               exact TX.quiet 20 hu hi rfl
              ·
               intro D hn hd hcl hu hi
               refine TO.skip (gd_F rfl (dl_lookup (m := 14) hu rfl (hd 14 (by decide)))) (by decide) ?_
               exact TX.quiet 21 hu hi rfl
              ·
               intro D hn hd hcl hu hi
               refine TO.skip (gd_F rfl (dl_lookup (m := 14) hu rfl (hd 14 (by decide)))) (by decide) ?_
               exact TX.quiet 22 hu hi rfl
              ·
               intro D hn hd hcl hu hi
               refine TO.skip (gd_F rfl (dl_lookup (m := 14) hu rfl (hd 14 (by decide)))) (by decide) ?_
               exact TX.quiet 23 hu hi rfl
              ·
               intro D hn hd hcl hu hi
               refine TO.skip (gd_F rfl (dl_lookup (m := 14) hu rfl (hd 14 (by decide)))) (by decide) ?_
               exact TX.quiet 24 hu hi rfl
              ·
               intro D hn hd hcl hu hi
               refine TO.skip (gd_F rfl (dl_lookup (m := 14) hu rfl (hd 14 (by decide)))) (by decide) ?_
               exact TX.quiet 25 hu hi rfl
              ·
               intro D hn hd hcl hu hi
               refine TO.skip (gd_F rfl (dl_lookup (m := 14) hu rfl (hd 14 (by decide)))) (by decide) ?_
               exact TX.quiet 26 hu hi rfl
              refine TO.skip rfl (by decide) (TO.pick (b := true) rfl (by decide) rfl rfl (TO.nil (TX.next (TC.condT rfl (TC.seq (TC.region ?_))))))
              refine TO.store (k := 1) (l' := [.bool false]) sz_4 rfl rfl rfl rfl rfl (fun _ _ => rfl) rfl ?_
              refine TO.nil (TX.next (TC.ret (TX.thenRet (TX.blockRet ?_))))
              exact TX.roundRet n4 (show _ ∧ _ from ⟨rfl, h⟩) (Splits.of [0, 1, 2, 3, 4] (by as_aux_lemma => kernel_rfl) rfl)
             ·
              have h := condF hb10 h
              obtain ⟨hg13, h⟩ := grdE h
              obtain ⟨q4, hq6, h⟩ := andE h
              obtain ⟨q5, hq7, h⟩ := andE h
              refine TC.drawN 27 [(0, 85, .int .i64 ((ptsG q2).2)), (1, 86, .bool false), (2, 87, .bool false), (3, 88, v6), (4, 89, .int .i64 (((ptsG q2).1).length : Int)), (5, 90, .bool false), (6, 91, .bool false), (7, 92, .bool false), (8, 93, v6), (9, 94, .pointer (some ⟨vblk v6, (0 : Int).toNat * 2, none⟩)), (10, 95, .pointer (some ⟨vblk v6, ((0 : Int).toNat) * 2, none⟩)), (11, 96, .int .i64 q3.From), (12, 97, .bool false), (13, 98, .bool false), (14, 99, .bool false), (15, 100, v6), (16, 101, v6), (17, 102, .int .i64 (((ptsG q2).1).length : Int)), (18, 103, .int .i64 ((((ptsG q2).1).length : Int) - 1)), (19, 104, .pointer (some ⟨vblk v6, ((((ptsG q2).1).length : Int) - 1 : Int).toNat * 2, none⟩)), (20, 105, .pointer (some ⟨vblk v6, (((((ptsG q2).1).length : Int) - 1 : Int).toNat) * 2 + 1, none⟩)), (21, 106, .int .i64 q4.To), (22, 107, v1), (23, 108, .int .i64 n4), (24, 109, .pointer (some ⟨vblk v1, (n4 : Int).toNat * 1, none⟩)), (25, 110, .string q5), (26, 111, .int .i64 (q5.size : Int))] mixed (by as_aux_lemma => kernel_rfl) (by as_aux_lemma => kernel_rfl) (by decide) (by rfl) (by as_aux_lemma => kernel_rfl) (by as_aux_lemma => kernel_rfl) (DrawPre.cons ?_ (DrawPre.cons ?_ (DrawPre.cons ?_ (DrawPre.cons ?_ (DrawPre.cons ?_ (DrawPre.cons ?_ (DrawPre.cons ?_ (DrawPre.cons ?_ (DrawPre.cons ?_ (DrawPre.cons ?_ (DrawPre.cons ?_ (DrawPre.cons ?_ (DrawPre.cons ?_ (DrawPre.cons ?_ (DrawPre.cons ?_ (DrawPre.cons ?_ (DrawPre.cons ?_ (DrawPre.cons ?_ (DrawPre.cons ?_ (DrawPre.cons ?_ (DrawPre.cons ?_ (DrawPre.cons ?_ (DrawPre.cons ?_ (DrawPre.cons ?_ (DrawPre.cons ?_ (DrawPre.cons ?_ (DrawPre.cons ?_ DrawPre.nil))))))))))))))))))))))))))) ?_
              ·
               intro D hn hd hcl hu hi
               refine TO.move rfl (by decide) (dl_old (by rfl) rfl) ?_
               exact TX.quiet 0 hu hi rfl
              ·
               intro D hn hd hcl hu hi
               refine TO.bin rfl (by decide) (dl_lookup (m := 0) hu rfl (hd 0 (by decide))) rfl bin_neq (TO.rewH (show Value.bool ((((ptsG q2).2) : Int) != 0) = Value.bool false from congrArg Value.bool hb8) ?_)
               exact TX.quiet 1 hu hi rfl
              ·
               intro D hn hd hcl hu hi
               refine TO.move rfl (by decide) (dl_lookup (m := 1) hu rfl (hd 1 (by decide))) ?_
               exact TX.quiet 2 hu hi rfl
              ·
               intro D hn hd hcl hu hi
               refine TO.move (gd_T rfl (dl_lookup (m := 2) hu rfl (hd 2 (by decide)))) (by decide) (dl_old (by rfl) rfl) ?_
               exact TX.quiet 3 hu hi rfl
              ·
               intro D hn hd hcl hu hi
               refine TO.lenVec (k := 6) (gd_T rfl (dl_lookup (m := 2) hu rfl (hd 2 (by decide)))) (by decide) (dl_lookup (m := 3) hu rfl (hd 3 (by decide))) rfl Try.underlying25 ?_
               exact TX.quiet 4 hu hi rfl
              ·
               intro D hn hd hcl hu hi
               refine TO.bin (gd_T rfl (dl_lookup (m := 2) hu rfl (hd 2 (by decide)))) (by decide) (dl_lookup (m := 4) hu rfl (hd 4 (by decide))) rfl bin_lss (TO.rewH (show Value.bool (decide (((((ptsG q2).1).length : Int) : Int) < 1)) = Value.bool false from congrArg Value.bool hb9) ?_)
               exact TX.quiet 5 hu hi rfl
              ·
               intro D hn hd hcl hu hi
               refine TO.pick (b := false) rfl (by decide) (dl_lookup (m := 2) hu rfl (hd 2 (by decide))) (dl_lookup (m := 5) hu rfl (hd 5 (by decide))) ?_
               exact TX.quiet 6 hu hi rfl
              ·
               intro D hn hd hcl hu hi
               refine TO.move rfl (by decide) (dl_lookup (m := 6) hu rfl (hd 6 (by decide))) ?_
               exact TX.quiet 7 hu hi rfl
              ·
               intro D hn hd hcl hu hi
               refine TO.move (gd_T rfl (dl_lookup (m := 7) hu rfl (hd 7 (by decide)))) (by decide) (dl_old (by rfl) rfl) ?_
               exact TX.quiet 8 hu hi rfl
              ·
               intro D hn hd hcl hu hi
               refine TO.indexVecI (k := 6) hq5 Try.underlying25 sz_34 (gd_T rfl (dl_lookup (m := 7) hu rfl (hd 7 (by decide)))) (by decide) (dl_lookup (m := 8) hu rfl (hd 8 (by decide))) rfl rfl rfl ?_
               exact TX.quiet 9 hu hi rfl
              ·
               intro D hn hd hcl hu hi
               refine TO.fieldAddr fl_34_0 (gd_T rfl (dl_lookup (m := 7) hu rfl (hd 7 (by decide)))) (by decide) (dl_lookup (m := 9) hu rfl (hd 9 (by decide))) (show _ = ((0 : Int).toNat) * 2 from rfl) ?_
               exact TX.quiet 10 hu hi rfl
              ·
               intro D hn hd hcl hu hi
               refine TO.loadVec (i := (0 : Int).toNat) (j := 0) (k := 6) (q := q3) sc_3 enc_Gapi_Span_len (gd_T rfl (dl_lookup (m := 7) hu rfl (hd 7 (by decide)))) (by decide) (dl_lookup (m := 10) hu rfl (hd 10 (by decide))) rfl (getO_get hq5) rfl (by decide) rfl ?_
               exact TX.quiet 11 hu hi rfl
              ·
               intro D hn hd hcl hu hi
               refine TO.bin (gd_T rfl (dl_lookup (m := 7) hu rfl (hd 7 (by decide)))) (by decide) (dl_lookup (m := 11) hu rfl (hd 11 (by decide))) rfl bin_neq (TO.rewH (show Value.bool ((q3.From : Int) != 0) = Value.bool false from congrArg Value.bool hb10) ?_)
               exact TX.quiet 12 hu hi rfl
              ·
               intro D hn hd hcl hu hi
               refine TO.pick (b := false) rfl (by decide) (dl_lookup (m := 7) hu rfl (hd 7 (by decide))) (dl_lookup (m := 12) hu rfl (hd 12 (by decide))) ?_
               exact TX.quiet 13 hu hi rfl
              ·
               intro D hn hd hcl hu hi
               refine TO.move rfl (by decide) (dl_lookup (m := 13) hu rfl (hd 13 (by decide))) ?_
               exact TX.quiet 14 hu hi rfl
              ·
               intro D hn hd hcl hu hi
               refine TO.move (gd_T rfl (dl_lookup (m := 14) hu rfl (hd 14 (by decide)))) (by decide) (dl_old (by rfl) rfl) ?_
               exact TX.quiet 15 hu hi rfl
              ·
               intro D hn hd hcl hu hi
               refine TO.move (gd_T rfl (dl_lookup (m := 14) hu rfl (hd 14 (by decide)))) (by decide) (dl_old (by rfl) rfl) ?_
               exact TX.quiet 16 hu hi rfl
              ·
               intro D hn hd hcl hu hi
               refine TO.lenVec (k := 6) (gd_T rfl (dl_lookup (m := 14) hu rfl (hd 14 (by decide)))) (by decide) (dl_lookup (m := 16) hu rfl (hd 16 (by decide))) rfl Try.underlying25 ?_
               exact TX.quiet 17 hu hi rfl
              ·
               intro D hn hd hcl hu hi
               refine TO.bin (gd_T rfl (dl_lookup (m := 14) hu rfl (hd 14 (by decide)))) (by decide) (dl_lookup (m := 17) hu rfl (hd 17 (by decide))) rfl (bin_sub (r := (((ptsG q2).1).length : Int) - 1) (IntWalk.i64_in _ hg13)) ?_
               exact TX.quiet 18 hu hi rfl
              ·
               intro D hn hd hcl hu hi
               refine TO.indexVecI (k := 6) hq6 Try.underlying25 sz_34 (gd_T rfl (dl_lookup (m := 14) hu rfl (hd 14 (by decide)))) (by decide) (dl_lookup (m := 15) hu rfl (hd 15 (by decide))) (dl_lookup (m := 18) hu rfl (hd 18 (by decide))) rfl rfl ?_
               exact TX.quiet 19 hu hi rfl
              ·
               intro D hn hd hcl hu hi
               refine TO.fieldAddr fl_34_1 (gd_T rfl (dl_lookup (m := 14) hu rfl (hd 14 (by decide)))) (by decide) (dl_lookup (m := 19) hu rfl (hd 19 (by decide))) (show _ = (((((ptsG q2).1).length : Int) - 1 : Int).toNat) * 2 + 1 from rfl) ?_
               exact TX.quiet 20 hu hi rfl
              ·
               intro D hn hd hcl hu hi
               refine TO.loadVec (i := ((((ptsG q2).1).length : Int) - 1 : Int).toNat) (j := 1) (k := 6) (q := q4) sc_3 enc_Gapi_Span_len (gd_T rfl (dl_lookup (m := 14) hu rfl (hd 14 (by decide)))) (by decide) (dl_lookup (m := 20) hu rfl (hd 20 (by decide))) rfl (getO_get hq6) rfl (by decide) rfl ?_
               exact TX.quiet 21 hu hi rfl
              ·
               intro D hn hd hcl hu hi
               refine TO.load (k := 2) sc_55 (gd_T rfl (dl_lookup (m := 14) hu rfl (hd 14 (by decide)))) (by decide) (dl_old (by rfl) rfl) rfl rfl ?_
               exact TX.quiet 22 hu hi rfl
              ·
               intro D hn hd hcl hu hi
               refine TO.load (k := 4) sc_3 (gd_T rfl (dl_lookup (m := 14) hu rfl (hd 14 (by decide)))) (by decide) (dl_old (by rfl) rfl) rfl rfl ?_
               exact TX.quiet 23 hu hi rfl
              ·
               intro D hn hd hcl hu hi
               refine TO.indexVecI (k := 3) hq7 Try.underlying55 sz_9 (gd_T rfl (dl_lookup (m := 14) hu rfl (hd 14 (by decide)))) (by decide) (dl_lookup (m := 22) hu rfl (hd 22 (by decide))) (dl_lookup (m := 23) hu rfl (hd 23 (by decide))) rfl rfl ?_
               exact TX.quiet 24 hu hi rfl
              ·
               intro D hn hd hcl hu hi
               refine TO.loadVec (i := (n4 : Int).toNat) (j := 0) (k := 3) (q := q5) sc_9 encS_len (gd_T rfl (dl_lookup (m := 14) hu rfl (hd 14 (by decide)))) (by decide) (dl_lookup (m := 24) hu rfl (hd 24 (by decide))) rfl (getO_get hq7) rfl (by decide) rfl ?_
               exact TX.quiet 25 hu hi rfl
              ·
               intro D hn hd hcl hu hi
               refine TO.lenStr (gd_T rfl (dl_lookup (m := 14) hu rfl (hd 14 (by decide)))) (by decide) (dl_lookup (m := 25) hu rfl (hd 25 (by decide))) Try.underlying9 ?_
               exact TX.quiet 26 hu hi rfl
              refine TO.bin rfl (by decide) rfl rfl bin_neq (TO.pick (b := false) rfl (by decide) rfl rfl (TO.nil (TX.next ?_)))
              refine TC.condB rfl (fun hb11 => ?_) (fun hb11 => ?_)
              ·
               have h := condT hb11 h
               refine TC.seq (TC.region ?_)
               refine TO.store (k := 1) (l' := [.bool false]) sz_4 rfl rfl rfl rfl rfl (fun _ _ => rfl) rfl ?_
               refine TO.nil (TX.next (TC.ret (TX.thenRet (TX.blockRet ?_))))
               exact TX.roundRet n4 (show _ ∧ _ from ⟨rfl, h⟩) (Splits.of [0, 1, 2, 3, 4] (by as_aux_lemma => kernel_rfl) rfl)
              ·
               have h := condF hb11 h
               refine TC.skip (TX.next ?_)
               obtain ⟨j3, hj3, h⟩ := joinE h
               refine TC.cutN (β := Unit) 0 rfl (fun b => j3 = some r) (fun b => []) (fun b => [(1, .pointer (some ⟨b1, 0, none⟩)), (2, .pointer (some ⟨b2, 0, none⟩)), (5, .pointer (some ⟨b4, 0, none⟩)), (7, .pointer (some ⟨b10, 0, none⟩)), (50, .func (.func 51) #[] #[.pointer (some ⟨b11, 0, none⟩)])]) (fun b => [cells b1 [.string r2] 9, cells b2 [.bool false] 4, cells b4 [v1] 55, vec encS 9 1 v1 l1, cells b10 [.int .i64 n4] 3]) (fun cut => ?_) ?_
               ·
                refine cut (TC.seq (TC.region (TO.move rfl (by decide) rfl (TO.lenVec (k := 6) rfl (by decide) rfl rfl Try.underlying25 (TO.move rfl (by decide) rfl (TO.nil (TX.next (TC.block ?_))))))))
                refine TC.loopD (β := Nat × Int) (fun b => loopG (fun _ => none) (law07_WordAlone_s3 l1 e1 n4 q2 j3) b.1 b.2 = some r) (fun b => []) (fun b => [(1, .pointer (some ⟨b1, 0, none⟩)), (2, .pointer (some ⟨b2, 0, none⟩)), (5, .pointer (some ⟨b4, 0, none⟩)), (7, .pointer (some ⟨b10, 0, none⟩)), (50, .func (.func 51) #[] #[.pointer (some ⟨b11, 0, none⟩)]), (114, v6), (115, .int .i64 (((ptsG q2).1).length : Int)), (116, .int .i64 b.2)]) (fun b => [cells b1 [.string r2] 9, cells b2 [.bool false] 4, cells b4 [v1] 55, vec encS 9 1 v1 l1, cells b10 [.int .i64 n4] 3, vec enc_Gapi_Span 34 2 v6 ((ptsG q2).1)]) (fun b => b.1) (fuel, 0) h rfl (Sbs.cons rfl (Sbs.cons rfl (Sbs.cons rfl (Sbs.cons rfl (Sbs.cons rfl (Sbs.cons rfl (Sbs.cons rfl (Sbs.cons rfl (Sbs.nil))))))))) (Splits.of [0, 1, 2, 3, 4, 6] (by as_aux_lemma => kernel_rfl) rfl) ?_
                rintro ⟨n6, x5⟩ h
                cases n6 with
                | zero => exact noneE h
                | succ n6 =>
                 obtain ⟨ag3, hag3⟩ : ∃ ag, ag = loopG (fun _ => none) (law07_WordAlone_s3 l1 e1 n4 q2 j3) n6 := ⟨_, rfl⟩
                 have h : law07_WordAlone_s3 l1 e1 n4 q2 j3 ag3 x5 = some r := by rw [hag3]; exact h
                 unfold law07_WordAlone_s3 at h
                 show TC _ _ _ _ _ ([]) _ _ [(1, .pointer (some ⟨b1, 0, none⟩)), (2, .pointer (some ⟨b2, 0, none⟩)), (5, .pointer (some ⟨b4, 0, none⟩)), (7, .pointer (some ⟨b10, 0, none⟩)), (50, .func (.func 51) #[] #[.pointer (some ⟨b11, 0, none⟩)]), (114, v6), (115, .int .i64 (((ptsG q2).1).length : Int)), (116, .int .i64 x5)] [cells b1 [.string r2] 9, cells b2 [.bool false] 4, cells b4 [v1] 55, vec encS 9 1 v1 l1, cells b10 [.int .i64 n4] 3, vec enc_Gapi_Span 34 2 v6 ((ptsG q2).1)]
                 refine TC.seq (TC.region (TO.bin rfl (by decide) rfl rfl bin_lss (TO.nil (TX.next (TC.seq ?_)))))
                 refine TC.condB rfl (fun hb12 => ?_) (fun hb12 => ?_)
                 ·
                  have h := condT hb12 h
                  refine TC.skip (TX.next (TC.seq (TC.block (TC.seq (TC.region ?_)))))
                  obtain ⟨q6, hq8, h⟩ := andE h
                  refine TO.indexVecI (k := 5) hq8 Try.underlying25 sz_34 rfl (by decide) rfl rfl rfl rfl (TO.loadsVec (i := (x5 : Int).toNat) (j := 0) (k := 5) (q := q6) (cs := [.int .i64 q6.From, .int .i64 q6.To]) rw_34 enc_Gapi_Span_len rfl (by decide) rfl rfl (getO_get hq8) rfl rfl rfl ?_)
                  refine TO.alloc zr_34 rfl (by decide) (fun b13 => ?_)
                  refine TO.stores (k := 6) (vs := [.int .i64 q6.From, .int .i64 q6.To]) (l' := [.int .i64 q6.From, .int .i64 q6.To]) sz_34 rfl rfl rfl rfl rfl (show _ ≤ _ by simp) rfl rfl ?_
                  show TO _ _ _ _ _ _ _ _ _ _ [cells b1 [.string r2] 9, cells b2 [.bool false] 4, cells b4 [v1] 55, vec encS 9 1 v1 l1, cells b10 [.int .i64 n4] 3, vec enc_Gapi_Span 34 2 v6 ((ptsG q2).1), cells b13 [.int .i64 q6.From, .int .i64 q6.To] 34]
                  refine TO.nil (TX.next (TC.seq ?_))
                  obtain ⟨q7, hq9, h⟩ := andE h
                  obtain ⟨hg14, h⟩ := grdE h
                  obtain ⟨hg15, h⟩ := grdE h
                  refine TC.drawN 8 [(0, 120, v1), (1, 121, .int .i64 n4), (2, 122, .pointer (some ⟨vblk v1, (n4 : Int).toNat * 1, none⟩)), (3, 123, .string q7), (4, 124, .pointer (some ⟨b13, 0, none⟩)), (5, 125, .int .i64 q6.From), (6, 126, .pointer (some ⟨b13, 1, none⟩)), (7, 127, .int .i64 q6.To)] mixed (by as_aux_lemma => kernel_rfl) (by as_aux_lemma => kernel_rfl) (by decide) (by rfl) (by as_aux_lemma => kernel_rfl) (by as_aux_lemma => kernel_rfl) (DrawPre.cons ?_ (DrawPre.cons ?_ (DrawPre.cons ?_ (DrawPre.cons ?_ (DrawPre.cons ?_ (DrawPre.cons ?_ (DrawPre.cons ?_ (DrawPre.cons ?_ DrawPre.nil)))))))) ?_
                  ·
                   intro D hn hd hcl hu hi
                   refine TO.load (k := 2) sc_55 rfl (by decide) (dl_old (by rfl) rfl) rfl rfl ?_
                   exact TX.quiet 0 hu hi rfl
                  ·
                   intro D hn hd hcl hu hi
                   refine TO.load (k := 4) sc_3 rfl (by decide) (dl_old (by rfl) rfl) rfl rfl ?_
                   exact TX.quiet 1 hu hi rfl
                  ·
                   intro D hn hd hcl hu hi
                   refine TO.indexVecI (k := 3) hq9 Try.underlying55 sz_9 rfl (by decide) (dl_lookup (m := 0) hu rfl (hd 0 (by decide))) (dl_lookup (m := 1) hu rfl (hd 1 (by decide))) rfl rfl ?_
                   exact TX.quiet 2 hu hi rfl
                  ·
                   intro D hn hd hcl hu hi
                   refine TO.loadVec (i := (n4 : Int).toNat) (j := 0) (k := 3) (q := q7) sc_9 encS_len rfl (by decide) (dl_lookup (m := 2) hu rfl (hd 2 (by decide))) rfl (getO_get hq9) rfl (by decide) rfl ?_
                   exact TX.quiet 3 hu hi rfl
                  ·
                   intro D hn hd hcl hu hi
                   refine TO.fieldAddr fl_34_0 rfl (by decide) (dl_old (by rfl) rfl) (show _ = 0 from rfl) ?_
                   exact TX.quiet 4 hu hi rfl
                  ·
                   intro D hn hd hcl hu hi
                   refine TO.load (k := 6) sc_3 rfl (by decide) (dl_lookup (m := 4) hu rfl (hd 4 (by decide))) rfl rfl ?_
                   exact TX.quiet 5 hu hi rfl
                  ·
                   intro D hn hd hcl hu hi
                   refine TO.fieldAddr fl_34_1 rfl (by decide) (dl_old (by rfl) rfl) (show _ = 1 from rfl) ?_
                   exact TX.quiet 6 hu hi rfl
                  ·
                   intro D hn hd hcl hu hi
                   refine TO.load (k := 6) sc_3 rfl (by decide) (dl_lookup (m := 6) hu rfl (hd 6 (by decide))) rfl rfl ?_
                   exact TX.quiet 7 hu hi rfl
                  refine TO.slice rfl (by decide) rfl rfl rfl (slice_stringI (i := q6.From) (j := q6.To) Try.underlying9 (.inr rfl) (.inr rfl) hg14) (TO.callP (v := .bool (isWord (tksOf (cutB q7 q6.From q6.To)) (cutB q7 q6.From q6.To).size)) (vs := [.string (cutB q7 q6.From q6.To)]) rfl (by decide) rfl rfl rfl en_19 (wis_c (cutB q7 q6.From q6.To) hg15) (TO.un rfl (by decide) rfl un_not (TO.nil (TX.next ?_))))
                  refine TC.condB rfl (fun hb13 => ?_) (fun hb13 => ?_)
                  ·
                   have h := condT hb13 h
                   refine TC.seq (TC.region ?_)
                   refine TO.store (k := 1) (l' := [.bool false]) sz_4 rfl rfl rfl rfl rfl (fun _ _ => rfl) rfl ?_
                   refine TO.nil (TX.next (TC.ret (TX.blockRet (TX.thenRet (TX.thenRet (TX.blockRet (TX.thenRet (TX.blockRet ?_))))))))
                   exact TX.roundRet n4 (show _ ∧ _ from ⟨rfl, h⟩) (Splits.of [0, 1, 2, 3, 4] (by as_aux_lemma => kernel_rfl) rfl)
                  ·
                   have h := condF hb13 h
                   refine TC.skip (TX.blockNormal (TX.next (TC.region ?_)))
                   obtain ⟨hg16, h⟩ := grdE h
                   refine TO.bin rfl (by decide) rfl rfl (bin_add (r := x5 + 1) (IntWalk.i64_in _ hg16)) (TO.move rfl (by decide) rfl (TO.nil ?_))
                   subst hag3
                   exact TX.againD (n6, x5 + 1) h (Nat.lt_succ_self _) rfl (Sbs.cons rfl (Sbs.cons rfl (Sbs.cons rfl (Sbs.cons rfl (Sbs.cons rfl (Sbs.cons rfl (Sbs.cons rfl (Sbs.cons rfl (Sbs.nil))))))))) (Splits.of [0, 1, 2, 3, 4, 5] (by as_aux_lemma => kernel_rfl) rfl)
                 ·
                  have h := condF hb12 h
                  refine TC.exit (TX.thenExit (TX.thenExit (TX.blockHere ?_)))
                  exact TX.meetD () h rfl (Sbs.cons rfl (Sbs.cons rfl (Sbs.cons rfl (Sbs.cons rfl (Sbs.cons rfl (Sbs.nil)))))) (Splits.of [0, 1, 2, 3, 4] (by as_aux_lemma => kernel_rfl) rfl)
               ·
                rintro _ h
                subst hj3
                show TC _ _ _ _ _ ([]) _ _ [(1, .pointer (some ⟨b1, 0, none⟩)), (2, .pointer (some ⟨b2, 0, none⟩)), (5, .pointer (some ⟨b4, 0, none⟩)), (7, .pointer (some ⟨b10, 0, none⟩)), (50, .func (.func 51) #[] #[.pointer (some ⟨b11, 0, none⟩)])] [cells b1 [.string r2] 9, cells b2 [.bool false] 4, cells b4 [v1] 55, vec encS 9 1 v1 l1, cells b10 [.int .i64 n4] 3]
                refine TC.region (TO.load (k := 4) sc_3 rfl (by decide) rfl rfl rfl ?_)
                obtain ⟨hg17, h⟩ := grdE h
                refine TO.bin rfl (by decide) rfl rfl (bin_add (r := n4 + 1) (IntWalk.i64_in _ hg17)) ?_
                refine TO.store (k := 4) (l' := [.int .i64 (n4 + 1)]) sz_3 rfl rfl rfl rfl rfl (fun _ _ => rfl) rfl ?_
                refine TO.nil (TX.blockNormal ?_)
                exact TX.round (n4 + 1) (fun post2 e2 => by have e9 := snoc_post hxs2 e2; subst e9; subst hag2; exact h) (Splits.of [0, 1, 2, 3, 4] (by as_aux_lemma => kernel_rfl) rfl)
       ·
        rintro dm2 n4 hinv
        have h : d2 n4 = some r := hinv [] (List.append_nil _).symm
        subst hd2
        show TX _ _ _ _ _ _ _ [emp, emp, emp, emp, star ((ds1 : List Nat).map mark), emp, cells b11 [.string r2] 9, cells b1 [.string r2] 9, cells b2 [.bool false] 4, cells b4 [v1] 55, vec encS 9 1 v1 l1, cells b10 [.int .i64 n4] 3, mark dm2]
        refine TX.starCons (k := 12) (j := 4) rfl rfl (by decide) ?_
        show TX _ _ _ _ _ _ _ [emp, emp, emp, emp, star ((dm2 :: ds1 : List Nat).map mark), emp, cells b11 [.string r2] 9, cells b1 [.string r2] 9, cells b2 [.bool false] 4, cells b4 [v1] 55, vec encS 9 1 v1 l1, cells b10 [.int .i64 n4] 3, emp]
        refine TX.blockNormal ?_
        exact TX.meetD (n4, b10, dm2 :: ds1) h rfl (Sbs.cons rfl (Sbs.cons rfl (Sbs.cons rfl (Sbs.nil)))) (Splits.of [8, 9, 10, 11, 4] (by as_aux_lemma => kernel_rfl) rfl)
       ·
        rintro dm2 c pre x2 post g hxs hX
        obtain ⟨rfl, h⟩ := (show _ ∧ _ from hX)
        generalize g = n5 at *
        subst he1
        show TC _ _ _ _ _ _ _ _ _ [emp, emp, emp, emp, star ((ds1 : List Nat).map mark), emp, cells b11 [.string r2] 9, cells b1 [.string r2] 9, cells b2 [.bool false] 4, cells b4 [v1] 55, vec encS 9 1 v1 l1, cells b10 [.int .i64 n5] 3, mark dm2]
        refine TC.starCons (k := 12) (j := 4) rfl rfl (by decide) ?_
        show TC _ _ _ _ _ _ _ _ _ [emp, emp, emp, emp, star ((dm2 :: ds1 : List Nat).map mark), emp, cells b11 [.string r2] 9, cells b1 [.string r2] 9, cells b2 [.bool false] 4, cells b4 [v1] 55, vec encS 9 1 v1 l1, cells b10 [.int .i64 n5] 3, emp]
        refine TC.ret (TX.blockRet (TX.thenRet ?_))
        cases h
        exact TX.finM (rs := [.cell 2 4]) (dm2 :: ds1) () (.inl rfl) (Splits.open0 (k := 4) rfl) Try.results10 (.cons (.cell sc_4 (k := 8) rfl rfl) .nil) rfl Splits.nil
      ·
       rintro ⟨n1, b9, ds2⟩ h
       subst hj2
       show TC _ _ _ _ _ (marksOf ds2) _ _ [(2, .pointer (some ⟨b2, 0, none⟩)), (5, .pointer (some ⟨b4, 0, none⟩)), (7, .pointer (some ⟨b9, 0, none⟩))] [cells b2 [.bool false] 4, cells b4 [v1] 55, vec encS 9 1 v1 l1, cells b9 [.int .i64 n1] 3, star ((ds2 : List Nat).map mark)]
       refine TC.seq (TC.region (TO.load (k := 3) sc_3 rfl (by decide) rfl rfl rfl (TO.load (k := 1) sc_55 rfl (by decide) rfl rfl rfl (TO.lenVec (k := 2) rfl (by decide) rfl rfl Try.underlying55 (TO.bin rfl (by decide) rfl rfl bin_eql (TO.move rfl (by decide) rfl ?_))))))
       refine TO.split (s := 138) rfl (fun hb14 => ?_) (fun hb14 => ?_)
       ·
        have h := condT hb14 h
        obtain ⟨r3, hq10, h⟩ := andE h
        refine TO.callP (v := .bool r3) (vs := []) rfl (by decide) rfl rfl rfl en_12 (law07_wakes_fn hq10) (TO.pick (b := true) rfl (by decide) rfl rfl ?_)
        refine TO.store (k := 0) (l' := [.bool r3]) sz_4 rfl rfl rfl rfl rfl (fun _ _ => rfl) rfl ?_
        refine TO.nil (TX.next (TC.ret ?_))
        cases h
        exact TX.finM (rs := [.cell 2 4]) ds2 () (.inl rfl) (Splits.open0 (k := 4) rfl) Try.results10 (.cons (.cell sc_4 (k := 0) rfl rfl) .nil) rfl Splits.nil
       ·
        have h := condF hb14 h
        refine TO.skip rfl (by decide) (TO.pick (b := false) rfl (by decide) rfl rfl ?_)
        refine TO.store (k := 0) (l' := [.bool false]) sz_4 rfl rfl rfl rfl rfl (fun _ _ => rfl) rfl ?_
        refine TO.nil (TX.next (TC.ret ?_))
        cases h
        exact TX.finM (rs := [.cell 2 4]) ds2 () (.inl rfl) (Splits.open0 (k := 4) rfl) Try.results10 (.cons (.cell sc_4 (k := 0) rfl rfl) .nil) rfl Splits.nil
end Go.Proofs.Ytgeefojgkbglnaa
namespace Go.Proofs.Ytgeefojgkbglnaa
open Go.RowKit Go.Lib
set_option linter.unusedVariables false
set_option linter.unusedSimpArgs false
theorem alone_loop {α : Type} {R : Type} (xs : List α) {K : Int → Option R} {step : α → (Int → Option R) → Int → Option R} (hs : ∀ (ag : Int → Option R) (k : Nat) (x : α), xs[k]? = some x → step x ag (k : Int) = ag ((k + 1 : Nat) : Int)) : rangeG K step xs 0 = K (xs.length : Int) := by
  have key : ∀ (post pre : List α), xs = pre ++ post → rangeG K step post (pre.length : Int) = K (xs.length : Int) := by
    intro post
    induction post with
    | nil => intro pre h; rw [rangeG_nil, h]; simp
    | cons x post ih =>
      intro pre h
      rw [rangeG_cons, hs _ pre.length x (by rw [h]; simp)]
      have := ih (pre ++ [x]) (by rw [h]; simp)
      simpa using this
  exact key xs [] rfl
theorem alone_for {R : Type} {x : Option R} {bot : Int → Option R} {step : (Int → Option R) → Int → Option R} (N : Nat) (hs : ∀ (ag : Int → Option R) (k : Nat), k < N → step ag (k : Int) = ag ((k + 1 : Nat) : Int)) (he : ∀ ag, step ag (N : Int) = x) {n : Nat} (hn : N < n) : loopG bot step n 0 = x := loop_to0 N hs he hn
theorem alone_acc (r2 : ByteArray) : ∀ (xs : List (Nat × Nat)) (l : List ByteArray) (K : List ByteArray → Option Bool), (∀ w ∈ xs, w.1 ≤ w.2 ∧ w.2 ≤ (plF r2 (wsOf r2)).size) → l.length + xs.length ≤ 2147483648 → rangeG K (law07_WordAlone_s1 r2) xs l = K (l ++ xs.map (cw (plF r2 (wsOf r2))))
  | [], l, K, _, _ => by simp [rangeG_nil]
  | x :: xs, l, K, hx, h => by
    rw [rangeG_cons]
    simp only [List.length_cons] at h
    have ih := alone_acc r2 xs (l ++ [cw (plF r2 (wsOf r2)) x]) K (fun w hw => hx w (by simp [hw])) (by simp; omega)
    generalize rangeG K (law07_WordAlone_s1 r2) xs = ag at ih ⊢
    unfold law07_WordAlone_s1
    have h1 := hx x (by simp)
    refine grdI ⟨by omega, by omega, by omega⟩ (grdI (by omega) (ih.trans ?_))
    simp
theorem alone_step (t : ByteArray) (hs : t.size ≤ 2048) (W : List GT) (hW : ∀ x ∈ W, Wd x) (hws : (wsOf t).map (cw t) = W.map txB) (e1 : Int → Option Bool) (ag : Int → Option Bool) (k : Nat) (w : Nat × Nat) (hk : (wsOf t)[k]? = some w) :
    law07_WordAlone_s2 t (W.map txB) e1 w ag (k : Int) = ag ((k + 1 : Nat) : Int) := by
  have hlen := congrArg List.length hws
  rw [List.length_map, List.length_map] at hlen
  have hkl := (List.getElem?_eq_some_iff.1 hk).1
  have hwl := ws_len t
  have hb := wds_bound t w (List.mem_of_getElem? hk)
  have hx0 : (W.map txB)[k]? = some (cw t w) := by rw [← hws, List.getElem?_map, hk]; rfl
  obtain ⟨x, hx, hxe⟩ : ∃ x, x ∈ W ∧ txB x = cw t w := by
    have := List.mem_of_getElem? hx0
    obtain ⟨x, h1, h2⟩ := List.mem_map.1 this
    exact ⟨x, h1, h2⟩
  have hq : (cw t w).data.toList = flat (cont [x]) := by rw [← hxe, txB_list]
  have hqs : (cw t w).size ≤ 2048 := by unfold cw cutB; rw [ByteArray.size_extract]; omega
  have hi := (isw_of x (hW x hx) _ hq).2
  obtain ⟨P, hP, ⟨t1, P1, h1⟩, ⟨f, P2, h2⟩, h3⟩ := parts_word x (hW x hx) _ hq
  have hPl : P.length ≤ 100000 := by
    have hh : (ptsG (cw t w)).1.length = P.length := by rw [hP]; simp
    unfold ptsG at hh
    rw [if_pos hi] at hh
    simp only [List.length_map] at hh
    have := partsF_len (usOf (cw t w))
    have h4 : (usOf (cw t w)).length ≤ 10000 := by
      have a1 := units_len (cw t w)
      unfold usOf psOf
      omega
    omega
  have hg : getO (W.map txB) (k : Int) = some (cw t w) := getO_nat hx0
  unfold law07_WordAlone_s2
  refine condFI (decide_eq_false (by rw [List.length_map]; omega)) (grdI ⟨by omega, by omega, by omega⟩ (thenI hg (condFI ?_ (grdI (by omega) (condFI (by rw [hi]; rfl) (thenI hg (grdI (by omega) ?_)))))))
  · rw [decide_eq_true (show cutB t (w.1 : Int) (w.2 : Int) = cw t w from rfl)]; rfl
  rw [hP]
  simp only [List.length_map]
  have hP1 : 1 ≤ P.length := by rw [h1]; simp
  refine condFI rfl (condFI (decide_eq_false (by omega)) (thenI (a := ⟨0, (t1 : Int)⟩) (by rw [h1]; rfl) (condFI rfl (grdI ⟨by omega, by omega⟩ ?_))))
  have hlast : getO (P.map spG) ((P.length : Int) - 1) = some ⟨(f : Int), ((cw t w).size : Int)⟩ := by
    refine getO_of (n := P.length - 1) (by omega) ?_
    rw [List.getElem?_map]
    have : P[P.length - 1]? = some (f, (cw t w).size) := by rw [h2]; simp
    rw [this]; rfl
  refine thenI hlast (thenI hg (condFI (bne_same rfl) (joinI ?_)))
  refine alone_for P.length (fun ag2 n hn => ?_) (fun ag2 => ?_) (by unfold fuel; omega)
  · unfold law07_WordAlone_s3
    have hgp : getO (P.map spG) (n : Int) = some (spG P[n]) := getO_nat (by rw [List.getElem?_map, List.getElem?_eq_getElem hn]; rfl)
    obtain ⟨a1, a2, a3⟩ := h3 P[n] (List.getElem_mem hn)
    rw [hP]
    refine condTI (decide_eq_true (by simp only [List.length_map]; omega)) (thenI hgp (thenI hg ?_))
    generalize P[n] = v at a1 a2 a3 ⊢
    refine grdI ⟨by simp only [spG]; omega, by simp only [spG]; omega, by simp only [spG]; omega⟩ (grdI ?_ (condFI ?_ (grdI ⟨by omega, by omega⟩ rfl)))
    · show (cw (cw t w) v).size ≤ _
      unfold cw at *; unfold cutB at *; rw [ByteArray.size_extract]; omega
    · rw [show cutB (cw t w) (spG v).From (spG v).To = cw (cw t w) v from rfl, a3]; rfl
  · unfold law07_WordAlone_s3
    rw [hP]
    exact condFI (decide_eq_false (by simp)) (grdI ⟨by omega, by omega⟩ rfl)
theorem alone_law (s : ByteArray) : law07_WordAlone_v s = some true := by
  unfold law07_WordAlone_v
  obtain ⟨t, ht, hs⟩ := cut_v s
  have hcont : t.data.toList = flat (cont (G (toks t.data.toList))) := by
    have := G_split (toks t.data.toList) (G (toks t.data.toList)) [] (by simp)
    rw [← (show toks t.data.toList = cont (G (toks t.data.toList)) by
      conv => lhs; rw [this.2.2]
      simp [cont, fl2]), flat_toks]
  have hws := ws_txt t _ hcont (tks_pos t)
  have hWd : ∀ x ∈ (G (toks t.data.toList)).filter wf1, Wd x := fun x hx => by
    obtain ⟨h1, h2⟩ := List.mem_filter.1 hx
    exact wd_of _ (good_toks _) x h1 (by simpa [wf1] using h2)
  have hpl := plF_cw t (wsOf t)
  rw [hws] at hpl
  obtain ⟨tr1, L, tr2, tr3, tr4⟩ := trim_law t
  have hwtr := ws_txt (trimS t) L tr2 tr3
  rw [tr4] at hwtr
  have htr5 : plF (trimS t) (wsOf (trimS t)) = plF t (wsOf t) := by rw [plF_cw, hwtr, ← hpl]
  have htrs : (trimS t).size ≤ 2048 := by unfold trimS; rw [ByteArray.size_extract]; omega
  generalize (G (toks t.data.toList)).filter wf1 = W at *
  obtain ⟨j1, j2⟩ := jn_G W hWd
  have hpd : (plF t (wsOf t)).data.toList = flat (cont (jn W)) := by rw [hpl]; exact pst_jn W hWd
  have htp := tks_of (plF t (wsOf t)) (jn W) hpd j2 j1
  have hwp := ws_txt (plF t (wsOf t)) (jn W) hpd htp
  rw [jn_filter W hWd] at hwp
  have hpp : plF (plF t (wsOf t)) (wsOf (plF t (wsOf t))) = plF t (wsOf t) := by
    rw [plF_cw (plF t (wsOf t)), hwp, ← hpl]
  have hwl := ws_len t
  have hps : (plF t (wsOf t)).size ≤ 10000 := by
    have h1 := plF_len t (wsOf t)
    have h2 : sumW (wsOf t) ≤ t.size := sum_le t
    omega
  have hwpl := ws_len (plF t (wsOf t))
  refine thenI wakes_v (condFI rfl (thenI ht (grdI (by omega) (grdI (by omega) (grdI (by omega) (condFI (by rw [decide_eq_true hpp]; rfl) (grdI (by omega) (condFI (by rw [decide_eq_true tr1]; rfl) (grdI (by omega) (condFI (by rw [decide_eq_true htr5]; rfl) (joinI (grdI (by omega) (joinI ?_)))))))))))))
  rw [alone_acc t _ [] _ (fun w hw => by have := wds_bound _ w hw; omega) (by simp; omega), List.nil_append, hwp]
  simp only
  refine joinI (grdI (by omega) (joinI (joinI ?_)))
  rw [alone_loop (wsOf t) (fun ag k w hk => alone_step t hs W hWd hws _ ag k w hk)]
  have hlen := congrArg List.length hws
  rw [List.length_map, List.length_map] at hlen
  exact condTI (by rw [List.length_map, beq_iff_eq]; omega) wakesK
theorem wordAlone_any (s : ByteArray) (w : World) (h0 : s.size ≤ 140737488351232) : Calls Try.prog 10 #[.string s] w fun e w' => e = .returned (.bool true) ∧ Below w.heap.size w w' := law07_WordAlone_fn (alone_law s) w
end Go.Proofs.Ytgeefojgkbglnaa
