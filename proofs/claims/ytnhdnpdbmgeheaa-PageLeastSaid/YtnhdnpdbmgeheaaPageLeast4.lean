/-
  Texts laid together: LpK, Pe, LpF, LpG, LpH, Pf, Ro, LfPageLeast, Sh, PlPageLeast. Nothing is assumed.
-/
import Derived.Test.YtnhdnpdbmgeheaaPageLeast3
import Derived.Test.YtnhdnpdbmgeheaaPageLeast2
import Derived.OpenShut
import Derived.SliceStrings
import Derived.ProofKit
namespace Go.Proofs.Ytnhdnpdbmgeheaa
open Go.RowKit Go.Lib
set_option linter.unusedVariables false
set_option linter.unusedSimpArgs false
def page_Cost_s1 (rows1 : List ByteArray) (j1 : Option (Int × Int)) (ag1 : Int → Int → Option (Int × Int)) (size3 : Int) (x3 : Int) : Option (Int × Int) := bcond (decide ((x3 : Int) < (rows1.length : Int))) ( andThen (getO rows1 x3) fun (q1 : ByteArray) => grd (I64 (size3 + (q1.size : Int))) <| bcond (decide ((1024 : Int) < (size3 + (q1.size : Int)))) ( some (0, 2)
) ( grd (I64 (x3 + 1)) <| ag1 (size3 + (q1.size : Int)) (x3 + 1)
)
) ( j1
)
def page_Cost_s3 (r3 : Gpage_turner) (j4 : ByteArray → Int → Int → Option (Int × Int)) (q2 : ByteArray) (ag3 : Int → Int → Option (Int × Int)) (to4 : Int) (n6 : Int) : Option (Int × Int) := bcond (decide ((to4 : Int) < (r3.cells.length : Int))) ( bcond (decide ((n6 : Int) < (q2.size : Int))) ( andThen (getO r3.cells to4) fun (q3 : Gapi_Cell) => grd (I64 (q3.Span_To - q3.Span_From)) <| grd (I64 (n6 + (q3.Span_To - q3.Span_From))) <| grd (I64 (to4 + 1)) <| ag3 (to4 + 1) (n6 + (q3.Span_To - q3.Span_From))
) ( j4 q2 to4 n6
)
) ( j4 q2 to4 n6
)
def page_Cost_s2 (rows1 : List ByteArray) (j2 : Int → Option (Int × Int)) (r3 : Gpage_turner) (ag2 : Int → Int → Int → Option (Int × Int)) (cost4 : Int) (from3 : Int) (x6 : Int) : Option (Int × Int) := bcond (decide ((x6 : Int) < (rows1.length : Int))) ( joinK (fun (j3 : Int → Int → Int → ByteArray → Int → Bool → Int → Bool → Bool → Option (Int × Int)) => joinK (fun (j4 : ByteArray → Int → Int → Option (Int × Int)) => andThen (getO rows1 x6) fun (q2 : ByteArray) => loopG (fun _ _ => none) (page_Cost_s3 r3 j4 q2) fuel from3 0
) (fun (s1 : ByteArray) (to1 : Int) (n3 : Int) => bcond (decide (s1 = (⟨#[]⟩ : ByteArray))) ( some (0, 2)
) ( bcond ((n3 : Int) != (s1.size : Int)) ( some (0, 2)
) ( andThen (page_turner_row_v r3 from3 to1) fun (r4 : Bool) => bcond (!r4) ( some (0, 2)
) ( joinK (fun (j5 : Int → Option (Int × Int)) => grd (I64 ((rows1.length : Int) - 1)) <| bcond (decide ((x6 : Int) < ((rows1.length : Int) - 1))) ( andThen (page_turner_cost_v r3 from3 to1) fun (r5 : Int) => grd (I64 (cost4 + r5)) <| j5 (cost4 + r5)
) ( j5 cost4
)
) (fun (cost6 : Int) => j3 cost6 to1 n3 s1 (s1.size : Int) ((n3 : Int) != (s1.size : Int)) to1 r4 (!r4)
)
)
)
)
)
) (fun (cost5 : Int) (from4 : Int) (x7 : Int) (x8 : ByteArray) (x9 : Int) (x10 : Bool) (x11 : Int) (x12 : Bool) (x13 : Bool) => grd (I64 (x6 + 1)) <| ag2 cost5 from4 (x6 + 1)
)
) ( j2 cost4
)
def page_Cost_v (rows1 : List ByteArray) (indent1 : Int) (l1 : Gapi_Layout) : Option (Int × Int) := joinK (fun (j1 : Option (Int × Int)) => loopG (fun _ _ => none) (page_Cost_s1 rows1 j1) fuel 0 0
) ( andThen (page_may_v l1) fun (r1 : Bool) => bcond (!r1) ( some (0, 2)
) ( bcond (decide ((indent1 : Int) < 0)) ( some (0, 2)
) ( bcond (decide ((1024 : Int) < indent1)) ( some (0, 2)
) ( joinK (fun (j2 : Int → Option (Int × Int)) => andThen (strings_Join_v rows1 (⟨#[]⟩ : ByteArray)) fun (r2 : ByteArray) => andThen (page_newTurner_v r2 indent1 l1) fun (r3 : Gpage_turner) => loopG (fun _ _ _ => none) (page_Cost_s2 rows1 j2 r3) fuel 0 0 0
) (fun (cost1 : Int) => some (cost1, 0)
)
)
)
)
)
set_option maxRecDepth 100000 in
set_option maxHeartbeats 4000000 in
theorem page_Cost_fn {vvrows1 vrows1 : Value} {Lrows1 : List ByteArray} {krows1 : Nat} {rows1 : List ByteArray} (hwrows1 : Vw vvrows1 Lrows1 1 krows1 vrows1 rows1) {indent1 : Int} {l1 : Gapi_Layout} {r : (Int × Int)} (h : page_Cost_v rows1 indent1 l1 = some r) : Fn Try.prog 11 [vrows1, .int .i64 indent1, .agg #[.int .i64 l1.Width, .int .i64 l1.Height, .int .i64 l1.Turn, .int .i64 l1.Every]] [vec encS 9 1 vvrows1 Lrows1] (fun _b : Unit => .tuple #[.int .i64 r.1, .int .i64 r.2]) (fun _b => [vec encS 9 1 vvrows1 Lrows1]) := by
 unfold page_Cost_v at h
 refine Fn.intro Try.func11 rfl Try.ntmps11 (by simp) ?_
 intro w0 K
 obtain ⟨j1, hj1, h⟩ := joinE h
 refine TC.cutN (β := Nat) 2 rfl (fun b => j1 = some r) (fun b => []) (fun b => [(0, vrows1), (1, .int .i64 indent1), (5, .pointer (some ⟨b, 0, none⟩))]) (fun b => [vec encS 9 1 vvrows1 Lrows1, cells b [.int .i64 l1.Width, .int .i64 l1.Height, .int .i64 l1.Turn, .int .i64 l1.Every] 23]) (fun cut => ?_) ?_
 ·
  refine TC.seq (TC.region ?_)
  refine TO.box rfl dc rfl (fun b2 => ?_)
  refine TO.assign rfl dc rfl (TO.assign rfl dc rfl (TO.nil (TX.next (TC.seq (TC.region (TO.assign rfl dc rfl (TO.nil (TX.next (cut (TC.seq (TC.region (TO.move rfl dc rfl (TO.lenVw hwrows1 rfl dc rfl Try.underlying25 ?_)))))))))))))
  refine TO.move rfl dc rfl (TO.nil (TX.next (TC.block ?_)))
  refine TC.loopD (β := Nat × Int × Int) (fun b => loopG (fun _ _ => none) (page_Cost_s1 rows1 j1) b.1 b.2.1 b.2.2 = some r) (fun b => []) (fun b => [(0, vrows1), (1, .int .i64 indent1), (5, .pointer (some ⟨b2, 0, none⟩)), (8, .int .i64 b.2.1), (18, vrows1), (19, .int .i64 (rows1.length : Int)), (20, .int .i64 b.2.2)]) (fun b => [vec encS 9 1 vvrows1 Lrows1, cells b2 [.int .i64 l1.Width, .int .i64 l1.Height, .int .i64 l1.Turn, .int .i64 l1.Every] 23]) (fun b => b.1) (fuel, 0, 0) h rfl (Sbs.cons rfl (Sbs.cons rfl (Sbs.cons rfl (Sbs.cons rfl (Sbs.cons rfl (Sbs.cons rfl (Sbs.cons rfl (Sbs.nil)))))))) (Splits.of [0, 1] kr rfl) ?_
  rintro ⟨n1, size3, x3⟩ h
  cases n1 with
  | zero => exact noneE h
  | succ n1 =>
   obtain ⟨ag1, hag1⟩ : ∃ ag, ag = loopG (fun _ _ => none) (page_Cost_s1 rows1 j1) n1 := ⟨_, rfl⟩
   have h : page_Cost_s1 rows1 j1 ag1 size3 x3 = some r := by rw [hag1]; exact h
   unfold page_Cost_s1 at h
   show TC _ _ _ _ _ ([]) _ _ [(0, vrows1), (1, .int .i64 indent1), (5, .pointer (some ⟨b2, 0, none⟩)), (8, .int .i64 size3), (18, vrows1), (19, .int .i64 (rows1.length : Int)), (20, .int .i64 x3)] [vec encS 9 1 vvrows1 Lrows1, cells b2 [.int .i64 l1.Width, .int .i64 l1.Height, .int .i64 l1.Turn, .int .i64 l1.Every] 23]
   refine TC.seq (TC.region (TO.bin rfl dc rfl rfl bin_lss (TO.nil (TX.next (TC.seq ?_)))))
   refine TC.condB rfl (fun hb1 => ?_) (fun hb1 => ?_)
   ·
    have h := condT hb1 h
    refine TC.skip (TX.next (TC.seq (TC.block (TC.seq (TC.region ?_)))))
    obtain ⟨q1, hq1, h⟩ := andE h
    refine TO.indexVw hwrows1 hq1 Try.underlying25 sz_9 rfl dc rfl rfl rfl (TO.loadVec (i := krows1 + (x3 : Int).toNat) (j := 0) (k := 0) (q := q1) sc_9 encS_len rfl dc rfl rfl (Vw.get hwrows1 hq1) rfl dc rfl (TO.assign rfl dc rfl (TO.nil (TX.next (TC.seq (TC.region (TO.move rfl dc rfl (TO.move rfl dc rfl (TO.lenStr rfl dc rfl Try.underlying9 ?_)))))))))
    obtain ⟨hg1, h⟩ := grdE h
    refine TO.bin rfl dc rfl rfl (bin_add (r := size3 + (q1.size : Int)) (IntWalk.i64_in _ hg1)) (TO.assign rfl dc rfl (TO.nil (TX.next (TC.seq (TC.region (TO.move rfl dc rfl (TO.bin rfl dc rfl rfl bin_gtr (TO.nil (TX.next ?_)))))))))
    refine TC.condB rfl (fun hb2 => ?_) (fun hb2 => ?_)
    ·
     have h := condT hb2 h
     refine TC.seq (TC.region (TO.assign rfl dc rfl (TO.assign rfl dc rfl (TO.nil (TX.next (TC.ret (TX.blockRet (TX.thenRet (TX.thenRet (TX.blockRet (TX.thenRet ?_)))))))))))
     cases h
     exact TX.fin (rs := [.tmp 6, .tmp 7]) () (.inl rfl) Try.results11 (.cons (.tmp rfl) (.cons (.tmp rfl) .nil)) rfl (Splits.of [0] kr rfl)
    ·
     have h := condF hb2 h
     refine TC.skip (TX.blockNormal (TX.next (TC.region ?_)))
     obtain ⟨hg2, h⟩ := grdE h
     refine TO.bin rfl dc rfl rfl (bin_add (r := x3 + 1) (IntWalk.i64_in _ hg2)) (TO.move rfl dc rfl (TO.nil ?_))
     subst hag1
     exact TX.againD (n1, size3 + (q1.size : Int), x3 + 1) h (Nat.lt_succ_self _) rfl (Sbs.cons rfl (Sbs.cons rfl (Sbs.cons rfl (Sbs.cons rfl (Sbs.cons rfl (Sbs.cons rfl (Sbs.cons rfl (Sbs.nil)))))))) (Splits.of [0, 1] kr rfl)
   ·
    have h := condF hb1 h
    refine TC.exit (TX.thenExit (TX.thenExit (TX.blockHere ?_)))
    exact TX.meetD b2 h rfl (Sbs.cons rfl (Sbs.cons rfl (Sbs.cons rfl (Sbs.nil)))) (Splits.of [0, 1] kr rfl)
 ·
  rintro b1 h
  rw [hj1] at h
  show TC _ _ _ _ _ ([]) _ _ [(0, vrows1), (1, .int .i64 indent1), (5, .pointer (some ⟨b1, 0, none⟩))] [vec encS 9 1 vvrows1 Lrows1, cells b1 [.int .i64 l1.Width, .int .i64 l1.Height, .int .i64 l1.Turn, .int .i64 l1.Every] 23]
  refine TC.seq (TC.seq (TC.region (TO.loads (k := 1) (cs := [.int .i64 l1.Width, .int .i64 l1.Height, .int .i64 l1.Turn, .int .i64 l1.Every]) rw_23 rfl dc rfl rfl rfl rfl ?_)))
  obtain ⟨r1, hq2, h⟩ := andE h
  refine TO.callP (v := .bool r1) (vs := [.agg #[.int .i64 l1.Width, .int .i64 l1.Height, .int .i64 l1.Turn, .int .i64 l1.Every]]) rfl dc rfl rfl rfl en_13 (page_may_fn (l1 := l1) hq2) (TO.un rfl dc rfl un_not (TO.move rfl dc rfl ?_))
  refine TO.split (s := 34) rfl (fun hb3 => ?_) (fun hb3 => ?_)
  ·
   have h := condT hb3 h
   refine TO.skip rfl dc (TO.skip rfl dc (TO.pick (b := true) rfl dc rfl rfl (TO.move rfl dc rfl (TO.skip rfl dc (TO.skip rfl dc (TO.pick (b := true) rfl dc rfl rfl (TO.nil (TX.next (TC.condT rfl (TC.seq (TC.region (TO.assign rfl dc rfl (TO.assign rfl dc rfl ?_)))))))))))))
   refine TO.nil (TX.next (TC.ret (TX.thenRet ?_)))
   cases h
   exact TX.fin (rs := [.tmp 6, .tmp 7]) () (.inl rfl) Try.results11 (.cons (.tmp rfl) (.cons (.tmp rfl) .nil)) rfl (Splits.of [0] kr rfl)
  ·
   have h := condF hb3 h
   refine TO.move rfl dc rfl (TO.bin rfl dc rfl rfl bin_lss (TO.pick (b := false) rfl dc rfl rfl (TO.move rfl dc rfl ?_)))
   refine TO.split (s := 38) rfl (fun hb4 => ?_) (fun hb4 => ?_)
   ·
    have h := condT hb4 h
    refine TO.skip rfl dc (TO.skip rfl dc (TO.pick (b := true) rfl dc rfl rfl (TO.nil (TX.next (TC.condT rfl (TC.seq (TC.region (TO.assign rfl dc rfl (TO.assign rfl dc rfl (TO.nil (TX.next (TC.ret (TX.thenRet ?_)))))))))))))
    cases h
    exact TX.fin (rs := [.tmp 6, .tmp 7]) () (.inl rfl) Try.results11 (.cons (.tmp rfl) (.cons (.tmp rfl) .nil)) rfl (Splits.of [0] kr rfl)
   ·
    have h := condF hb4 h
    refine TO.move rfl dc rfl (TO.bin rfl dc rfl rfl bin_gtr (TO.pick (b := false) rfl dc rfl rfl (TO.nil (TX.next ?_))))
    refine TC.condB rfl (fun hb5 => ?_) (fun hb5 => ?_)
    ·
     have h := condT hb5 h
     refine TC.seq (TC.region (TO.assign rfl dc rfl (TO.assign rfl dc rfl (TO.nil (TX.next (TC.ret (TX.thenRet ?_)))))))
     cases h
     exact TX.fin (rs := [.tmp 6, .tmp 7]) () (.inl rfl) Try.results11 (.cons (.tmp rfl) (.cons (.tmp rfl) .nil)) rfl (Splits.of [0] kr rfl)
    ·
     have h := condF hb5 h
     refine TC.skip (TX.next ?_)
     obtain ⟨j2, hj2, h⟩ := joinE h
     refine TC.cutN (β := Int) 2 rfl (fun b => j2 b = some r) (fun b => []) (fun b => [(12, .int .i64 b)]) (fun b => [vec encS 9 1 vvrows1 Lrows1]) (fun cut => ?_) ?_
     ·
      refine TC.seq ?_
      obtain ⟨r2, hq3, h⟩ := andE h
      obtain ⟨r3, hq4, h⟩ := andE h
      refine TC.drawN 4 [(0, 42, vrows1), (1, 43, .string r2), (2, 44, .int .i64 indent1), (3, 45, .agg #[.int .i64 l1.Width, .int .i64 l1.Height, .int .i64 l1.Turn, .int .i64 l1.Every])] mixed kr kr dc (by rfl) kr kr (DrawPre.cons ?_ (DrawPre.cons ?_ (DrawPre.cons ?_ (DrawPre.cons ?_ DrawPre.nil)))) ?_
      ·
       intro D hn hd hcl hu hi
       refine TO.move rfl dc (dl_old (by rfl) rfl) ?_
       exact TX.quiet 0 hu hi rfl
      ·
       intro D hn hd hcl hu hi
       refine TO.callK (v := .string r2) (vs := [vrows1, .string (⟨#[]⟩ : ByteArray)]) rfl dc rfl (evL.cons (dl_lookup (m := 0) hu rfl (hd 0 dc)) (evL.cons rfl evL.nil)) rfl en_21 (strings_Join_fn hwrows1 hq3) [0] kr rfl ?_
       exact TX.quiet 1 hu hi rfl
      ·
       intro D hn hd hcl hu hi
       refine TO.move rfl dc (dl_old (by rfl) rfl) ?_
       exact TX.quiet 2 hu hi rfl
      ·
       intro D hn hd hcl hu hi
       refine TO.loads (k := 1) (cs := [.int .i64 l1.Width, .int .i64 l1.Height, .int .i64 l1.Turn, .int .i64 l1.Every]) rw_23 rfl dc (dl_old (by rfl) rfl) rfl rfl rfl ?_
       exact TX.quiet 3 hu hi rfl
      refine TO.call (vs := [.string r2, .int .i64 indent1, .agg #[.int .i64 l1.Width, .int .i64 l1.Height, .int .i64 l1.Turn, .int .i64 l1.Every]]) rfl dc rfl rfl rfl en_20 (page_newTurner_fn (l1 := l1) hq4) Splits.nil ?_
      rintro ⟨b3, hd1, hd2, hd3⟩
      show TO _ _ _ _ _ _ _ _ _ _ [vec encS 9 1 vvrows1 Lrows1, cells b1 [.int .i64 l1.Width, .int .i64 l1.Height, .int .i64 l1.Turn, .int .i64 l1.Every] 23, cells b3 [.string r3.s, hd1.v, hd2.v, hd3.v, .int .i64 r3.first, .int .i64 r3.rest] 57, vec enc_Gapi_Cell 52 3 hd1.v r3.cells, vec (encI (.i64)) 3 1 hd2.v r3.wide, vec (encI (.i64)) 3 1 hd3.v r3.ends]
      refine TO.weakenL (L' := [vec encS 9 1 vvrows1 Lrows1, cells b1 [.int .i64 l1.Width, .int .i64 l1.Height, .int .i64 l1.Turn, .int .i64 l1.Every] 23, cells b3 [.string r3.s, hd1.v, hd2.v, hd3.v, .int .i64 r3.first, .int .i64 r3.rest] 57, vec enc_Gapi_Cell 52 3 hd1.v r3.cells, vec (encI (.i64)) 3 1 hd2.v r3.wide, vec (encI (.i64)) 3 1 hd3.v r3.ends]) (Splits.of [0, 1, 2, 3, 4, 5] kr rfl) (TO.assign rfl dc rfl (TO.nil (TX.next (TC.seq (TC.region (TO.assign rfl dc rfl (TO.assign rfl dc rfl (TO.nil (TX.next (cut (TC.seq (TC.region (TO.move rfl dc rfl ?_)))))))))))))
      refine TO.lenVw hwrows1 rfl dc rfl Try.underlying25 (TO.move rfl dc rfl (TO.nil (TX.next (TC.block ?_))))
      refine TC.loopD (β := Nat × Int × Int × Int) (fun b => loopG (fun _ _ _ => none) (page_Cost_s2 rows1 j2 r3) b.1 b.2.1 b.2.2.1 b.2.2.2 = some r) (fun b => []) (fun b => [(0, vrows1), (11, .pointer (some ⟨b3, 0, none⟩)), (12, .int .i64 b.2.1), (13, .int .i64 b.2.2.1), (47, vrows1), (48, .int .i64 (rows1.length : Int)), (49, .int .i64 b.2.2.2)]) (fun b => [vec encS 9 1 vvrows1 Lrows1, cells b3 [.string r3.s, hd1.v, hd2.v, hd3.v, .int .i64 r3.first, .int .i64 r3.rest] 57, vec enc_Gapi_Cell 52 3 hd1.v r3.cells, vec (encI (.i64)) 3 1 hd2.v r3.wide, vec (encI (.i64)) 3 1 hd3.v r3.ends]) (fun b => b.1) (fuel, 0, 0, 0) h rfl (Sbs.cons rfl (Sbs.cons rfl (Sbs.cons rfl (Sbs.cons rfl (Sbs.cons rfl (Sbs.cons rfl (Sbs.cons rfl (Sbs.nil)))))))) (Splits.of [0, 2, 3, 4, 5] kr rfl) ?_
      rintro ⟨n2, cost4, from3, x6⟩ h
      cases n2 with
      | zero => exact noneE h
      | succ n2 =>
       obtain ⟨ag2, hag2⟩ : ∃ ag, ag = loopG (fun _ _ _ => none) (page_Cost_s2 rows1 j2 r3) n2 := ⟨_, rfl⟩
       have h : page_Cost_s2 rows1 j2 r3 ag2 cost4 from3 x6 = some r := by rw [hag2]; exact h
       unfold page_Cost_s2 at h
       show TC _ _ _ _ _ ([]) _ _ [(0, vrows1), (11, .pointer (some ⟨b3, 0, none⟩)), (12, .int .i64 cost4), (13, .int .i64 from3), (47, vrows1), (48, .int .i64 (rows1.length : Int)), (49, .int .i64 x6)] [vec encS 9 1 vvrows1 Lrows1, cells b3 [.string r3.s, hd1.v, hd2.v, hd3.v, .int .i64 r3.first, .int .i64 r3.rest] 57, vec enc_Gapi_Cell 52 3 hd1.v r3.cells, vec (encI (.i64)) 3 1 hd2.v r3.wide, vec (encI (.i64)) 3 1 hd3.v r3.ends]
       refine TC.seq (TC.region (TO.bin rfl dc rfl rfl bin_lss (TO.nil (TX.next (TC.seq ?_)))))
       refine TC.condB rfl (fun hb6 => ?_) (fun hb6 => ?_)
       ·
        have h := condT hb6 h
        refine TC.skip (TX.next ?_)
        obtain ⟨j3, hj3, h⟩ := joinE h
        refine TC.cutN (β := Int × Int × Int × ByteArray × Int × Bool × Int × Bool × Bool) 0 rfl (fun b => j3 b.1 b.2.1 b.2.2.1 b.2.2.2.1 b.2.2.2.2.1 b.2.2.2.2.2.1 b.2.2.2.2.2.2.1 b.2.2.2.2.2.2.2.1 b.2.2.2.2.2.2.2.2 = some r) (fun b => []) (fun b => [(0, vrows1), (11, .pointer (some ⟨b3, 0, none⟩)), (12, .int .i64 b.1), (13, .int .i64 b.2.1), (47, vrows1), (48, .int .i64 (rows1.length : Int)), (49, .int .i64 x6), (94, .int .i64 b.2.2.1), (95, .string b.2.2.2.1), (96, .int .i64 b.2.2.2.2.1), (97, .bool b.2.2.2.2.2.1), (100, .pointer (some ⟨b3, 0, none⟩)), (101, .int .i64 from3), (102, .int .i64 b.2.2.2.2.2.2.1), (103, .bool b.2.2.2.2.2.2.2.1), (104, .bool b.2.2.2.2.2.2.2.2)]) (fun b => [vec encS 9 1 vvrows1 Lrows1, cells b3 [.string r3.s, hd1.v, hd2.v, hd3.v, .int .i64 r3.first, .int .i64 r3.rest] 57, vec enc_Gapi_Cell 52 3 hd1.v r3.cells, vec (encI (.i64)) 3 1 hd2.v r3.wide, vec (encI (.i64)) 3 1 hd3.v r3.ends]) (fun cut => ?_) ?_
        ·
         refine cut (TC.block ?_)
         obtain ⟨j4, hj4, h⟩ := joinE h
         refine TC.cutN (β := ByteArray × Int × Int) 2 rfl (fun b => j4 b.1 b.2.1 b.2.2 = some r) (fun b => []) (fun b => [(0, vrows1), (11, .pointer (some ⟨b3, 0, none⟩)), (12, .int .i64 cost4), (13, .int .i64 from3), (14, .int .i64 x6), (15, .string b.1), (16, .int .i64 b.2.1), (17, .int .i64 b.2.2), (47, vrows1), (48, .int .i64 (rows1.length : Int)), (49, .int .i64 x6)]) (fun b => [vec encS 9 1 vvrows1 Lrows1, cells b3 [.string r3.s, hd1.v, hd2.v, hd3.v, .int .i64 r3.first, .int .i64 r3.rest] 57, vec enc_Gapi_Cell 52 3 hd1.v r3.cells, vec (encI (.i64)) 3 1 hd2.v r3.wide, vec (encI (.i64)) 3 1 hd3.v r3.ends]) (fun cut => ?_) ?_
         ·
          refine TC.seq (TC.region (TO.move rfl dc rfl ?_))
          obtain ⟨q2, hq5, h⟩ := andE h
          refine TO.indexVw hwrows1 hq5 Try.underlying25 sz_9 rfl dc rfl rfl rfl (TO.loadVec (i := krows1 + (x6 : Int).toNat) (j := 0) (k := 0) (q := q2) sc_9 encS_len rfl dc rfl rfl (Vw.get hwrows1 hq5) rfl dc rfl (TO.assign rfl dc rfl (TO.assign rfl dc rfl (TO.nil (TX.next (TC.seq (TC.region (TO.move rfl dc rfl (TO.assign rfl dc rfl (TO.assign rfl dc rfl (TO.nil (TX.next (cut ?_)))))))))))))
          refine TC.block ?_
          refine TC.loopD (β := Nat × Int × Int) (fun b => loopG (fun _ _ => none) (page_Cost_s3 r3 j4 q2) b.1 b.2.1 b.2.2 = some r) (fun b => []) (fun b => [(0, vrows1), (11, .pointer (some ⟨b3, 0, none⟩)), (12, .int .i64 cost4), (13, .int .i64 from3), (14, .int .i64 x6), (15, .string q2), (16, .int .i64 b.2.1), (17, .int .i64 b.2.2), (47, vrows1), (48, .int .i64 (rows1.length : Int)), (49, .int .i64 x6)]) (fun b => [vec encS 9 1 vvrows1 Lrows1, cells b3 [.string r3.s, hd1.v, hd2.v, hd3.v, .int .i64 r3.first, .int .i64 r3.rest] 57, vec enc_Gapi_Cell 52 3 hd1.v r3.cells, vec (encI (.i64)) 3 1 hd2.v r3.wide, vec (encI (.i64)) 3 1 hd3.v r3.ends]) (fun b => b.1) (fuel, from3, 0) h rfl (Sbs.cons rfl (Sbs.cons rfl (Sbs.cons rfl (Sbs.cons rfl (Sbs.cons rfl (Sbs.cons rfl (Sbs.cons rfl (Sbs.cons rfl (Sbs.cons rfl (Sbs.cons rfl (Sbs.cons rfl (Sbs.nil)))))))))))) (Splits.of [0, 1, 2, 3, 4] kr rfl) ?_
          rintro ⟨n7, to4, n6⟩ h
          cases n7 with
          | zero => exact noneE h
          | succ n7 =>
           obtain ⟨ag3, hag3⟩ : ∃ ag, ag = loopG (fun _ _ => none) (page_Cost_s3 r3 j4 q2) n7 := ⟨_, rfl⟩
           have h : page_Cost_s3 r3 j4 q2 ag3 to4 n6 = some r := by rw [hag3]; exact h
           unfold page_Cost_s3 at h
           show TC _ _ _ _ _ ([]) _ _ [(0, vrows1), (11, .pointer (some ⟨b3, 0, none⟩)), (12, .int .i64 cost4), (13, .int .i64 from3), (14, .int .i64 x6), (15, .string q2), (16, .int .i64 to4), (17, .int .i64 n6), (47, vrows1), (48, .int .i64 (rows1.length : Int)), (49, .int .i64 x6)] [vec encS 9 1 vvrows1 Lrows1, cells b3 [.string r3.s, hd1.v, hd2.v, hd3.v, .int .i64 r3.first, .int .i64 r3.rest] 57, vec enc_Gapi_Cell 52 3 hd1.v r3.cells, vec (encI (.i64)) 3 1 hd2.v r3.wide, vec (encI (.i64)) 3 1 hd3.v r3.ends]
           refine TC.seq (TC.seq (TC.region (TO.move rfl dc rfl (TO.move rfl dc rfl (TO.nilCheck rfl dc rfl (TO.fieldAddr fl_57_1 rfl dc rfl (show _ = 1 from rfl) (TO.load (k := 1) sc_44 rfl dc rfl rfl rfl (TO.lenVec (k := 2) rfl dc rfl rfl Try.underlying44 (TO.bin rfl dc rfl rfl bin_lss (TO.move rfl dc rfl ?_))))))))))
           refine TO.split (s := 62) rfl (fun hb7 => ?_) (fun hb7 => ?_)
           ·
            have h := condT hb7 h
            refine TO.move rfl dc rfl (TO.move rfl dc rfl (TO.lenStr rfl dc rfl Try.underlying9 (TO.bin rfl dc rfl rfl bin_lss (TO.pick (b := true) rfl dc rfl rfl (TO.nil (TX.next ?_))))))
            refine TC.condB rfl (fun hb8 => ?_) (fun hb8 => ?_)
            ·
             have h := condT hb8 h
             refine TC.skip (TX.next (TC.block (TC.seq ?_)))
             obtain ⟨q3, hq6, h⟩ := andE h
             obtain ⟨hg3, h⟩ := grdE h
             obtain ⟨hg4, h⟩ := grdE h
             refine TC.drawN 20 [(0, 68, .int .i64 n6), (1, 69, .pointer (some ⟨b3, 0, none⟩)), (2, 70, .pointer (some ⟨b3, 0, none⟩)), (3, 71, .pointer (some ⟨b3, 1, none⟩)), (4, 72, hd1.v), (5, 73, .int .i64 to4), (6, 74, .pointer (some ⟨vblk hd1.v, (to4 : Int).toNat * 3, none⟩)), (7, 75, .pointer (some ⟨vblk hd1.v, ((to4 : Int).toNat) * 3, none⟩)), (8, 76, .pointer (some ⟨vblk hd1.v, ((to4 : Int).toNat) * 3 + 1, none⟩)), (9, 77, .int .i64 q3.Span_To), (10, 78, .pointer (some ⟨b3, 0, none⟩)), (11, 79, .pointer (some ⟨b3, 0, none⟩)), (12, 80, .pointer (some ⟨b3, 1, none⟩)), (13, 81, hd1.v), (14, 82, .int .i64 to4), (15, 83, .pointer (some ⟨vblk hd1.v, (to4 : Int).toNat * 3, none⟩)), (16, 84, .pointer (some ⟨vblk hd1.v, ((to4 : Int).toNat) * 3, none⟩)), (17, 85, .pointer (some ⟨vblk hd1.v, ((to4 : Int).toNat) * 3, none⟩)), (18, 86, .int .i64 q3.Span_From), (19, 87, .int .i64 (q3.Span_To - q3.Span_From))] mixed kr kr dc (by rfl) kr kr (DrawPre.cons ?_ (DrawPre.cons ?_ (DrawPre.cons ?_ (DrawPre.cons ?_ (DrawPre.cons ?_ (DrawPre.cons ?_ (DrawPre.cons ?_ (DrawPre.cons ?_ (DrawPre.cons ?_ (DrawPre.cons ?_ (DrawPre.cons ?_ (DrawPre.cons ?_ (DrawPre.cons ?_ (DrawPre.cons ?_ (DrawPre.cons ?_ (DrawPre.cons ?_ (DrawPre.cons ?_ (DrawPre.cons ?_ (DrawPre.cons ?_ (DrawPre.cons ?_ DrawPre.nil)))))))))))))))))))) ?_
             ·
              intro D hn hd hcl hu hi
              refine TO.move rfl dc (dl_old (by rfl) rfl) ?_
              exact TX.quiet 0 hu hi rfl
             ·
              intro D hn hd hcl hu hi
              refine TO.move rfl dc (dl_old (by rfl) rfl) ?_
              exact TX.quiet 1 hu hi rfl
             ·
              intro D hn hd hcl hu hi
              refine TO.nilCheck rfl dc (dl_lookup (m := 1) hu rfl (hd 1 dc)) ?_
              exact TX.quiet 2 hu hi rfl
             ·
              intro D hn hd hcl hu hi
              refine TO.fieldAddr fl_57_1 rfl dc (dl_lookup (m := 2) hu rfl (hd 2 dc)) (show _ = 1 from rfl) ?_
              exact TX.quiet 3 hu hi rfl
             ·
              intro D hn hd hcl hu hi
              refine TO.load (k := 1) sc_44 rfl dc (dl_lookup (m := 3) hu rfl (hd 3 dc)) rfl rfl ?_
              exact TX.quiet 4 hu hi rfl
             ·
              intro D hn hd hcl hu hi
              refine TO.move rfl dc (dl_old (by rfl) rfl) ?_
              exact TX.quiet 5 hu hi rfl
             ·
              intro D hn hd hcl hu hi
              refine TO.indexVecI (k := 2) hq6 Try.underlying44 sz_52 rfl dc (dl_lookup (m := 4) hu rfl (hd 4 dc)) (dl_lookup (m := 5) hu rfl (hd 5 dc)) rfl rfl ?_
              exact TX.quiet 6 hu hi rfl
             ·
              intro D hn hd hcl hu hi
              refine TO.fieldAddr fl_52_0 rfl dc (dl_lookup (m := 6) hu rfl (hd 6 dc)) (show _ = ((to4 : Int).toNat) * 3 from rfl) ?_
              exact TX.quiet 7 hu hi rfl
             ·
              intro D hn hd hcl hu hi
              refine TO.fieldAddr fl_50_1 rfl dc (dl_lookup (m := 7) hu rfl (hd 7 dc)) (show _ = ((to4 : Int).toNat) * 3 + 1 from rfl) ?_
              exact TX.quiet 8 hu hi rfl
             ·
              intro D hn hd hcl hu hi
              refine TO.loadVec (i := (to4 : Int).toNat) (j := 1) (k := 2) (q := q3) sc_3 enc_Gapi_Cell_len rfl dc (dl_lookup (m := 8) hu rfl (hd 8 dc)) rfl (getO_get hq6) rfl dc rfl ?_
              exact TX.quiet 9 hu hi rfl
             ·
              intro D hn hd hcl hu hi
              refine TO.move rfl dc (dl_old (by rfl) rfl) ?_
              exact TX.quiet 10 hu hi rfl
             ·
              intro D hn hd hcl hu hi
              refine TO.nilCheck rfl dc (dl_lookup (m := 10) hu rfl (hd 10 dc)) ?_
              exact TX.quiet 11 hu hi rfl
             ·
              intro D hn hd hcl hu hi
              refine TO.fieldAddr fl_57_1 rfl dc (dl_lookup (m := 11) hu rfl (hd 11 dc)) (show _ = 1 from rfl) ?_
              exact TX.quiet 12 hu hi rfl
             ·
              intro D hn hd hcl hu hi
              refine TO.load (k := 1) sc_44 rfl dc (dl_lookup (m := 12) hu rfl (hd 12 dc)) rfl rfl ?_
              exact TX.quiet 13 hu hi rfl
             ·
              intro D hn hd hcl hu hi
              refine TO.move rfl dc (dl_old (by rfl) rfl) ?_
              exact TX.quiet 14 hu hi rfl
             ·
              intro D hn hd hcl hu hi
              refine TO.indexVecI (k := 2) hq6 Try.underlying44 sz_52 rfl dc (dl_lookup (m := 13) hu rfl (hd 13 dc)) (dl_lookup (m := 14) hu rfl (hd 14 dc)) rfl rfl ?_
              exact TX.quiet 15 hu hi rfl
             ·
              intro D hn hd hcl hu hi
              refine TO.fieldAddr fl_52_0 rfl dc (dl_lookup (m := 15) hu rfl (hd 15 dc)) (show _ = ((to4 : Int).toNat) * 3 from rfl) ?_
              exact TX.quiet 16 hu hi rfl
             ·
              intro D hn hd hcl hu hi
              refine TO.fieldAddr fl_50_0 rfl dc (dl_lookup (m := 16) hu rfl (hd 16 dc)) (show _ = ((to4 : Int).toNat) * 3 from rfl) ?_
              exact TX.quiet 17 hu hi rfl
             ·
              intro D hn hd hcl hu hi
              refine TO.loadVec (i := (to4 : Int).toNat) (j := 0) (k := 2) (q := q3) sc_3 enc_Gapi_Cell_len rfl dc (dl_lookup (m := 17) hu rfl (hd 17 dc)) rfl (getO_get hq6) rfl dc rfl ?_
              exact TX.quiet 18 hu hi rfl
             ·
              intro D hn hd hcl hu hi
              refine TO.bin rfl dc (dl_lookup (m := 9) hu rfl (hd 9 dc)) (dl_lookup (m := 18) hu rfl (hd 18 dc)) (bin_sub (r := q3.Span_To - q3.Span_From) (IntWalk.i64_in _ hg3)) ?_
              exact TX.quiet 19 hu hi rfl
             refine TO.bin rfl dc rfl rfl (bin_add (r := n6 + (q3.Span_To - q3.Span_From)) (IntWalk.i64_in _ hg4)) (TO.assign rfl dc rfl (TO.nil (TX.next (TC.region (TO.move rfl dc rfl ?_)))))
             obtain ⟨hg5, h⟩ := grdE h
             refine TO.bin rfl dc rfl rfl (bin_add (r := to4 + 1) (IntWalk.i64_in _ hg5)) (TO.assign rfl dc rfl (TO.nil (TX.blockNormal ?_)))
             subst hag3
             exact TX.againD (n7, to4 + 1, n6 + (q3.Span_To - q3.Span_From)) h (Nat.lt_succ_self _) rfl (Sbs.cons rfl (Sbs.cons rfl (Sbs.cons rfl (Sbs.cons rfl (Sbs.cons rfl (Sbs.cons rfl (Sbs.cons rfl (Sbs.cons rfl (Sbs.cons rfl (Sbs.cons rfl (Sbs.cons rfl (Sbs.nil)))))))))))) (Splits.of [0, 1, 2, 3, 4] kr rfl)
            ·
             have h := condF hb8 h
             refine TC.exit (TX.thenExit (TX.thenExit (TX.blockHere ?_)))
             exact TX.meetD (q2, to4, n6) h rfl (Sbs.cons rfl (Sbs.cons rfl (Sbs.cons rfl (Sbs.cons rfl (Sbs.cons rfl (Sbs.cons rfl (Sbs.cons rfl (Sbs.cons rfl (Sbs.cons rfl (Sbs.cons rfl (Sbs.cons rfl (Sbs.nil)))))))))))) (Splits.of [0, 1, 2, 3, 4] kr rfl)
           ·
            have h := condF hb7 h
            refine TO.skip rfl dc (TO.skip rfl dc (TO.skip rfl dc (TO.skip rfl dc (TO.pick (b := false) rfl dc rfl rfl (TO.nil (TX.next (TC.condF rfl (TC.exit (TX.thenExit (TX.thenExit (TX.blockHere ?_)))))))))))
            exact TX.meetD (q2, to4, n6) h rfl (Sbs.cons rfl (Sbs.cons rfl (Sbs.cons rfl (Sbs.cons rfl (Sbs.cons rfl (Sbs.cons rfl (Sbs.cons rfl (Sbs.cons rfl (Sbs.cons rfl (Sbs.cons rfl (Sbs.cons rfl (Sbs.nil)))))))))))) (Splits.of [0, 1, 2, 3, 4] kr rfl)
         ·
          rintro ⟨s1, to1, n3⟩ h
          rw [hj4] at h
          show TC _ _ _ _ _ ([]) _ _ [(0, vrows1), (11, .pointer (some ⟨b3, 0, none⟩)), (12, .int .i64 cost4), (13, .int .i64 from3), (14, .int .i64 x6), (15, .string s1), (16, .int .i64 to1), (17, .int .i64 n3), (47, vrows1), (48, .int .i64 (rows1.length : Int)), (49, .int .i64 x6)] [vec encS 9 1 vvrows1 Lrows1, cells b3 [.string r3.s, hd1.v, hd2.v, hd3.v, .int .i64 r3.first, .int .i64 r3.rest] 57, vec enc_Gapi_Cell 52 3 hd1.v r3.cells, vec (encI (.i64)) 3 1 hd2.v r3.wide, vec (encI (.i64)) 3 1 hd3.v r3.ends]
          refine TC.seq (TC.seq (TC.region (TO.move rfl dc rfl (TO.bin rfl dc rfl rfl bin_seql (TO.move rfl dc rfl ?_)))))
          refine TO.split (s := 93) rfl (fun hb9 => ?_) (fun hb9 => ?_)
          ·
           have h := condT hb9 h
           refine TO.skip rfl dc (TO.skip rfl dc (TO.skip rfl dc (TO.skip rfl dc (TO.pick (b := true) rfl dc rfl rfl (TO.move rfl dc rfl (TO.skip rfl dc (TO.skip rfl dc (TO.skip rfl dc (TO.skip rfl dc (TO.skip rfl dc (TO.pick (b := true) rfl dc rfl rfl (TO.nil (TX.next ?_)))))))))))))
           refine TC.condT rfl (TC.seq (TC.region (TO.assign rfl dc rfl (TO.assign rfl dc rfl (TO.nil (TX.next (TC.ret (TX.thenRet (TX.blockRet (TX.thenRet (TX.thenRet (TX.blockRet (TX.thenRet ?_)))))))))))))
           cases h
           exact TX.fin (rs := [.tmp 6, .tmp 7]) () (.inl rfl) Try.results11 (.cons (.tmp rfl) (.cons (.tmp rfl) .nil)) rfl (Splits.of [0] kr rfl)
          ·
           have h := condF hb9 h
           refine TO.move rfl dc rfl (TO.move rfl dc rfl (TO.lenStr rfl dc rfl Try.underlying9 (TO.bin rfl dc rfl rfl bin_neq (TO.pick (b := false) rfl dc rfl rfl (TO.move rfl dc rfl ?_)))))
           refine TO.split (s := 99) rfl (fun hb10 => ?_) (fun hb10 => ?_)
           ·
            have h := condT hb10 h
            refine TO.skip rfl dc (TO.skip rfl dc (TO.skip rfl dc (TO.skip rfl dc (TO.skip rfl dc (TO.pick (b := true) rfl dc rfl rfl (TO.nil (TX.next (TC.condT rfl (TC.seq (TC.region (TO.assign rfl dc rfl (TO.assign rfl dc rfl (TO.nil ?_)))))))))))))
            refine TX.next (TC.ret (TX.thenRet (TX.blockRet (TX.thenRet (TX.thenRet (TX.blockRet (TX.thenRet ?_)))))))
            cases h
            exact TX.fin (rs := [.tmp 6, .tmp 7]) () (.inl rfl) Try.results11 (.cons (.tmp rfl) (.cons (.tmp rfl) .nil)) rfl (Splits.of [0] kr rfl)
           ·
            have h := condF hb10 h
            refine TO.move rfl dc rfl (TO.move rfl dc rfl (TO.move rfl dc rfl ?_))
            obtain ⟨r4, hq7, h⟩ := andE h
            refine TO.callPR (v := .bool r4) (vs := [.pointer (some ⟨b3, 0, none⟩), .int .i64 from3, .int .i64 to1]) (Rd.nil : Rd _ _ []) rfl dc rfl rfl rfl en_22 (page_turner_row_fn (bt1 := b3) (t1 := r3) (t1_h0 := hd1) (t1_h1 := hd2) (t1_h2 := hd3) hq7) (.own (Splits.of [1] (by kernel_rfl) rfl) (fun _ _ h => sepL.one1.1 h) (.own (Splits.of [2] (by kernel_rfl) rfl) (fun _ _ h => sepL.one1.1 h) (.own (Splits.of [3] (by kernel_rfl) rfl) (fun _ _ h => sepL.one1.1 h) (.own (Splits.of [4] (by kernel_rfl) rfl) (fun _ _ h => sepL.one1.1 h) .nil)))) ?_
            refine TO.un rfl dc rfl un_not (TO.pick (b := false) rfl dc rfl rfl (TO.nil (TX.next ?_)))
            refine TC.condB rfl (fun hb11 => ?_) (fun hb11 => ?_)
            ·
             have h := condT hb11 h
             refine TC.seq (TC.region (TO.assign rfl dc rfl (TO.assign rfl dc rfl (TO.nil (TX.next (TC.ret (TX.thenRet (TX.blockRet (TX.thenRet (TX.thenRet (TX.blockRet (TX.thenRet ?_))))))))))))
             cases h
             exact TX.fin (rs := [.tmp 6, .tmp 7]) () (.inl rfl) Try.results11 (.cons (.tmp rfl) (.cons (.tmp rfl) .nil)) rfl (Splits.of [0] kr rfl)
            ·
             have h := condF hb11 h
             refine TC.skip (TX.next ?_)
             obtain ⟨j5, hj5, h⟩ := joinE h
             refine TC.cutN (β := Int) 0 rfl (fun b => j5 b = some r) (fun b => []) (fun b => [(0, vrows1), (11, .pointer (some ⟨b3, 0, none⟩)), (12, .int .i64 b), (16, .int .i64 to1), (47, vrows1), (48, .int .i64 (rows1.length : Int)), (49, .int .i64 x6), (94, .int .i64 n3), (95, .string s1), (96, .int .i64 (s1.size : Int)), (97, .bool ((n3 : Int) != (s1.size : Int))), (100, .pointer (some ⟨b3, 0, none⟩)), (101, .int .i64 from3), (102, .int .i64 to1), (103, .bool r4), (104, .bool (!r4))]) (fun b => [vec encS 9 1 vvrows1 Lrows1, cells b3 [.string r3.s, hd1.v, hd2.v, hd3.v, .int .i64 r3.first, .int .i64 r3.rest] 57, vec enc_Gapi_Cell 52 3 hd1.v r3.cells, vec (encI (.i64)) 3 1 hd2.v r3.wide, vec (encI (.i64)) 3 1 hd3.v r3.ends]) (fun cut => ?_) ?_
             ·
              refine cut (TC.seq (TC.region (TO.move rfl dc rfl (TO.move rfl dc rfl (TO.lenVw hwrows1 rfl dc rfl Try.underlying25 ?_)))))
              obtain ⟨hg6, h⟩ := grdE h
              refine TO.bin rfl dc rfl rfl (bin_sub (r := (rows1.length : Int) - 1) (IntWalk.i64_in _ hg6)) (TO.bin rfl dc rfl rfl bin_lss (TO.nil (TX.next ?_)))
              refine TC.condB rfl (fun hb12 => ?_) (fun hb12 => ?_)
              ·
               have h := condT hb12 h
               refine TC.region (TO.move rfl dc rfl (TO.move rfl dc rfl (TO.move rfl dc rfl (TO.move rfl dc rfl ?_))))
               obtain ⟨r5, hq8, h⟩ := andE h
               refine TO.callPR (v := .int .i64 r5) (vs := [.pointer (some ⟨b3, 0, none⟩), .int .i64 from3, .int .i64 to1]) (Rd.nil : Rd _ _ []) rfl dc rfl rfl rfl en_23 (page_turner_cost_fn (bt1 := b3) (t1 := r3) (t1_h0 := hd1) (t1_h1 := hd2) (t1_h2 := hd3) hq8) (.own (Splits.of [1] (by kernel_rfl) rfl) (fun _ _ h => sepL.one1.1 h) (.own (Splits.of [2] (by kernel_rfl) rfl) (fun _ _ h => sepL.one1.1 h) (.own (Splits.of [3] (by kernel_rfl) rfl) (fun _ _ h => sepL.one1.1 h) (.own (Splits.of [4] (by kernel_rfl) rfl) (fun _ _ h => sepL.one1.1 h) .nil)))) ?_
               obtain ⟨hg7, h⟩ := grdE h
               refine TO.bin rfl dc rfl rfl (bin_add (r := cost4 + r5) (IntWalk.i64_in _ hg7)) (TO.assign rfl dc rfl (TO.nil ?_))
               exact TX.meetD (cost4 + r5) h rfl (Sbs.cons rfl (Sbs.cons rfl (Sbs.cons rfl (Sbs.cons rfl (Sbs.cons rfl (Sbs.cons rfl (Sbs.cons rfl (Sbs.cons rfl (Sbs.cons rfl (Sbs.cons rfl (Sbs.cons rfl (Sbs.cons rfl (Sbs.cons rfl (Sbs.cons rfl (Sbs.cons rfl (Sbs.cons rfl (Sbs.nil))))))))))))))))) (Splits.of [0, 1, 2, 3, 4] kr rfl)
              ·
               have h := condF hb12 h
               refine TC.skip ?_
               exact TX.meetD cost4 h rfl (Sbs.cons rfl (Sbs.cons rfl (Sbs.cons rfl (Sbs.cons rfl (Sbs.cons rfl (Sbs.cons rfl (Sbs.cons rfl (Sbs.cons rfl (Sbs.cons rfl (Sbs.cons rfl (Sbs.cons rfl (Sbs.cons rfl (Sbs.cons rfl (Sbs.cons rfl (Sbs.cons rfl (Sbs.cons rfl (Sbs.nil))))))))))))))))) (Splits.of [0, 1, 2, 3, 4] kr rfl)
             ·
              rintro cost6 h
              rw [hj5] at h
              show TC _ _ _ _ _ ([]) _ _ [(0, vrows1), (11, .pointer (some ⟨b3, 0, none⟩)), (12, .int .i64 cost6), (16, .int .i64 to1), (47, vrows1), (48, .int .i64 (rows1.length : Int)), (49, .int .i64 x6), (94, .int .i64 n3), (95, .string s1), (96, .int .i64 (s1.size : Int)), (97, .bool ((n3 : Int) != (s1.size : Int))), (100, .pointer (some ⟨b3, 0, none⟩)), (101, .int .i64 from3), (102, .int .i64 to1), (103, .bool r4), (104, .bool (!r4))] [vec encS 9 1 vvrows1 Lrows1, cells b3 [.string r3.s, hd1.v, hd2.v, hd3.v, .int .i64 r3.first, .int .i64 r3.rest] 57, vec enc_Gapi_Cell 52 3 hd1.v r3.cells, vec (encI (.i64)) 3 1 hd2.v r3.wide, vec (encI (.i64)) 3 1 hd3.v r3.ends]
              refine TC.region (TO.move rfl dc rfl (TO.assign rfl dc rfl (TO.nil (TX.blockNormal ?_))))
              exact TX.meetD (cost6, to1, n3, s1, (s1.size : Int), (n3 : Int) != (s1.size : Int), to1, r4, !r4) h rfl (Sbs.cons rfl (Sbs.cons rfl (Sbs.cons rfl (Sbs.cons rfl (Sbs.cons rfl (Sbs.cons rfl (Sbs.cons rfl (Sbs.cons rfl (Sbs.cons rfl (Sbs.cons rfl (Sbs.cons rfl (Sbs.cons rfl (Sbs.cons rfl (Sbs.cons rfl (Sbs.cons rfl (Sbs.cons rfl (Sbs.nil))))))))))))))))) (Splits.of [0, 1, 2, 3, 4] kr rfl)
        ·
         rintro ⟨cost5, from4, x7, x8, x9, x10, x11, x12, x13⟩ h
         rw [hj3] at h
         show TC _ _ _ _ _ ([]) _ _ [(0, vrows1), (11, .pointer (some ⟨b3, 0, none⟩)), (12, .int .i64 cost5), (13, .int .i64 from4), (47, vrows1), (48, .int .i64 (rows1.length : Int)), (49, .int .i64 x6), (94, .int .i64 x7), (95, .string x8), (96, .int .i64 x9), (97, .bool x10), (100, .pointer (some ⟨b3, 0, none⟩)), (101, .int .i64 from3), (102, .int .i64 x11), (103, .bool x12), (104, .bool x13)] [vec encS 9 1 vvrows1 Lrows1, cells b3 [.string r3.s, hd1.v, hd2.v, hd3.v, .int .i64 r3.first, .int .i64 r3.rest] 57, vec enc_Gapi_Cell 52 3 hd1.v r3.cells, vec (encI (.i64)) 3 1 hd2.v r3.wide, vec (encI (.i64)) 3 1 hd3.v r3.ends]
         refine TC.region ?_
         obtain ⟨hg8, h⟩ := grdE h
         refine TO.bin rfl dc rfl rfl (bin_add (r := x6 + 1) (IntWalk.i64_in _ hg8)) (TO.move rfl dc rfl (TO.nil ?_))
         subst hag2
         exact TX.againD (n2, cost5, from4, x6 + 1) h (Nat.lt_succ_self _) rfl (Sbs.cons rfl (Sbs.cons rfl (Sbs.cons rfl (Sbs.cons rfl (Sbs.cons rfl (Sbs.cons rfl (Sbs.cons rfl (Sbs.nil)))))))) (Splits.of [0, 1, 2, 3, 4] kr rfl)
       ·
        have h := condF hb6 h
        refine TC.exit (TX.thenExit (TX.thenExit (TX.blockHere ?_)))
        exact TX.meetD cost4 h rfl (Sbs.cons rfl (Sbs.nil)) (Splits.of [0] kr rfl)
     ·
      rintro cost1 h
      rw [hj2] at h
      show TC _ _ _ _ _ ([]) _ _ [(12, .int .i64 cost1)] [vec encS 9 1 vvrows1 Lrows1]
      refine TC.seq (TC.region (TO.move rfl dc rfl (TO.assign rfl dc rfl (TO.assign rfl dc rfl (TO.nil (TX.next (TC.ret ?_)))))))
      cases h
      exact TX.fin (rs := [.tmp 6, .tmp 7]) () (.inl rfl) Try.results11 (.cons (.tmp rfl) (.cons (.tmp rfl) .nil)) rfl (Splits.of [0] kr rfl)
end Go.Proofs.Ytnhdnpdbmgeheaa
namespace Go.Proofs.Ytnhdnpdbmgeheaa
open Go.RowKit Go.Lib
set_option linter.unusedVariables false
set_option linter.unusedSimpArgs false
def catL : List ByteArray → ByteArray
  | [] => ⟨#[]⟩
  | x :: xs => x ++ catL xs
def sizL : List ByteArray → Nat
  | [] => 0
  | x :: xs => x.size + sizL xs
theorem catL_size : ∀ L : List ByteArray, (catL L).size = sizL L
  | [] => rfl
  | x :: L => by show (x ++ catL L).size = x.size + sizL L; rw [ByteArray.size_append, catL_size L]
theorem empty_app (x : ByteArray) : (⟨#[]⟩ : ByteArray) ++ x = x := ByteArray.empty_append ..
theorem app_empty (x : ByteArray) : x ++ (⟨#[]⟩ : ByteArray) = x := ByteArray.append_empty ..
/-! ### strings.Join -/
theorem join_len (L : List ByteArray) (hl : L.length ≤ 1000000) (hz : sizL L ≤ 100000000) (j : Int → Option ByteArray) : ∀ (ts pre : List ByteArray) (m : Nat), L = pre ++ ts → ts.length < m → loopG (fun _ _ => none) (strings_Join_s1 L j) m (sizL pre : Int) (pre.length : Int) = j (sizL L : Int)
  | [], pre, m, h, hm => by
    obtain ⟨m, rfl⟩ : ∃ q, m = q + 1 := ⟨m - 1, by simp at hm; omega⟩
    rw [List.append_nil] at h; subst h
    rw [loopI]
    generalize loopG (fun _ _ => none) (strings_Join_s1 L j) m = ag
    unfold strings_Join_s1
    exact condFI lp_ge rfl
  | t :: ts, pre, m, h, hm => by
    obtain ⟨m, rfl⟩ : ∃ q, m = q + 1 := ⟨m - 1, by simp at hm; omega⟩
    have hsz : ∀ A B : List ByteArray, sizL (A ++ B) = sizL A + sizL B := by
      intro A B
      induction A with
      | nil => show sizL B = 0 + sizL B; omega
      | cons x A ih => show x.size + sizL (A ++ B) = x.size + sizL A + sizL B; rw [ih]; omega
    have h1 : sizL (pre ++ [t]) = sizL pre + t.size := by rw [hsz]; show sizL pre + (t.size + 0) = _; omega
    have h2 : sizL L = sizL pre + (t.size + sizL ts) := by rw [h, hsz]; rfl
    have ih := join_len L hl hz j ts (pre ++ [t]) m (by rw [h]; simp) (by simp at hm; omega)
    rw [loopI]
    generalize loopG (fun _ _ => none) (strings_Join_s1 L j) m = ag at ih ⊢
    have hg : L[pre.length]? = some t := by rw [h]; simp
    have hpl := lp_lt' hg
    rw [h1, show (((pre ++ [t]).length : Nat) : Int) = (pre.length : Int) + 1 by simp] at ih
    unfold strings_Join_s1
    refine condTI (lp_lt hg) (thenI (lp_get hg) (grdI ⟨by omega, by omega⟩ (condFI (decide_eq_false (by omega)) (grdI ⟨by omega, by omega⟩ (grdI ⟨by omega, by omega⟩ ?_)))))
    rw [show (sizL pre : Int) + (t.size : Int) = ((sizL pre + t.size : Nat) : Int) by omega]
    exact ih
theorem join_cat (L : List ByteArray) (q : ByteArray) (T : List ByteArray) (hL : L = q :: T) (hl : L.length ≤ 1000000) (hz : sizL L ≤ 100000000) (j : ByteArray → Option ByteArray) : ∀ (ts pre : List ByteArray) (m : Nat) (b : ByteArray), T = pre ++ ts → ts.length < m → b.size + sizL ts ≤ 100000000 →
    loopG (fun _ _ => none) (strings_Join_s2 L ⟨#[]⟩ j) m b (pre.length : Int) = j (b ++ catL ts)
  | [], pre, m, b, h, hm, hb => by
    obtain ⟨m, rfl⟩ : ∃ q, m = q + 1 := ⟨m - 1, by simp at hm; omega⟩
    rw [loopI]
    generalize loopG (fun _ _ => none) (strings_Join_s2 L ⟨#[]⟩ j) m = ag
    unfold strings_Join_s2
    have hc : cutL L 1 (L.length : Int) = T := by rw [hL]; unfold cutL; simp
    rw [hc]
    refine condFI (decide_eq_false (by rw [h]; simp)) ?_
    show j b = j (b ++ (⟨#[]⟩ : ByteArray))
    rw [app_empty]
  | t :: ts, pre, m, b, h, hm, hb => by
    obtain ⟨m, rfl⟩ : ∃ q, m = q + 1 := ⟨m - 1, by simp at hm; omega⟩
    have hb' : b.size + (t.size + sizL ts) ≤ 100000000 := hb
    have ih := join_cat L q T hL hl hz j ts (pre ++ [t]) m (b ++ t) (by rw [h]; simp) (by simp at hm; omega) (by rw [ByteArray.size_append]; omega)
    rw [loopI]
    generalize loopG (fun _ _ => none) (strings_Join_s2 L ⟨#[]⟩ j) m = ag at ih ⊢
    have hc : cutL L 1 (L.length : Int) = T := by rw [hL]; unfold cutL; simp
    have hg : T[pre.length]? = some t := by rw [h]; simp
    have hpl := lp_lt' hg
    have hTl : T.length ≤ 1000000 := by rw [hL] at hl; simp at hl; omega
    rw [show (((pre ++ [t]).length : Nat) : Int) = (pre.length : Int) + 1 by simp] at ih
    unfold strings_Join_s2
    rw [hc, app_empty]
    refine condTI (lp_lt hg) (thenI (lp_get hg) (grdI (by show b.size + 0 ≤ _; omega) (grdI (by omega) (grdI ⟨by omega, by omega⟩ ?_))))
    rw [ih, ByteArray.append_assoc]; rfl
theorem join_v (L : List ByteArray) (hl : L.length ≤ 1000000) (hz : sizL L ≤ 100000000) : strings_Join_v L ⟨#[]⟩ = some (catL L) := by
  unfold strings_Join_v
  cases L with
  | nil => exact condTI rfl rfl
  | cons q T =>
    refine condFI (beqF (by rw [List.length_cons]; omega)) ?_
    by_cases h1 : T = []
    · subst h1
      refine condTI rfl (thenI (getO_of (n := 0) rfl rfl) ?_)
      show some q = some (q ++ (⟨#[]⟩ : ByteArray))
      rw [app_empty]
    · obtain ⟨t, ts, rfl⟩ := List.exists_cons_of_ne_nil h1
      refine condFI (beqF (by simp only [List.length_cons]; omega)) (joinI (condFI rfl (joinI ?_)))
      have hq : q.size ≤ sizL (q :: t :: ts) := by show q.size ≤ q.size + _; omega
      have h1 := join_len (q :: t :: ts) hl hz (fun (n2 : Int) => joinK (fun (j3 : ByteArray → Option ByteArray) => grd (0 ≤ (n2 : Int) ∧ (n2 : Int) ≤ 140737488355328) <| andThen (getO (q :: t :: ts) 0) fun (q3 : ByteArray) => grd ((⟨#[]⟩ : ByteArray).size + q3.size ≤ 140737488355328) <| grd (0 ≤ (1 : Int) ∧ (1 : Int) ≤ ((q :: t :: ts).length : Int) ∧ (((q :: t :: ts).length : Int) : Int) ≤ ((q :: t :: ts).length : Int)) <| loopG (fun _ _ => none) (strings_Join_s2 (q :: t :: ts) ⟨#[]⟩ j3) fuel ((⟨#[]⟩ : ByteArray) ++ q3) 0) (fun (b2 : ByteArray) => some b2)) (q :: t :: ts) [] fuel rfl (by have := big_fuel (n := (q :: t :: ts).length) (by omega); omega)
      refine h1.trans (joinI (grdI ⟨by omega, by omega⟩ (thenI (getO_of (n := 0) rfl rfl) (grdI (by show 0 + q.size ≤ _; omega) (grdI ⟨by omega, by rw [List.length_cons]; omega, by omega⟩ ?_)))))
      rw [empty_app]
      have h2 := join_cat (q :: t :: ts) q (t :: ts) rfl hl hz (fun (b2 : ByteArray) => some b2) (t :: ts) [] fuel q rfl (by have := big_fuel (n := (q :: t :: ts).length) (by omega); rw [List.length_cons] at this; omega) (by show q.size + sizL (t :: ts) ≤ _; exact hz)
      exact h2
/-! ### What rows cost -/
theorem stN_inj {s : ByteArray} {i j : Nat} (hi : i ≤ (cellsS s).length) (hj : j ≤ (cellsS s).length) (h : stN s i = stN s j) : i = j := by
  rcases Nat.lt_or_ge i j with h1 | h1
  · have := stN_le s (j - i) i (by omega)
    rw [show i + (j - i) = j by omega] at this; omega
  · rcases Nat.lt_or_ge j i with h2 | h2
    · have := stN_le s (i - j) j (by omega)
      rw [show j + (i - j) = i by omega] at this; omega
    · omega
def seekN (s : ByteArray) (g : Int) : Nat → Nat → Nat
  | 0, t => t
  | d + 1, t => if stN s t < g then seekN s g d (t + 1) else t
theorem seek_facts (s : ByteArray) (g : Int) : ∀ (d t : Nat), t ≤ seekN s g d t ∧ seekN s g d t ≤ t + d ∧ (seekN s g d t = t + d ∨ g ≤ stN s (seekN s g d t)) ∧ ∀ j, t ≤ j → j < seekN s g d t → stN s j < g
  | 0, t => ⟨Nat.le_refl _, Nat.le_refl _, .inl rfl, fun j h1 h2 => absurd h2 (by show ¬ j < t; omega)⟩
  | d + 1, t => by
    unfold seekN
    split
    · rename_i h
      obtain ⟨h1, h2, h3, h4⟩ := seek_facts s g d (t + 1)
      refine ⟨by omega, by omega, h3.imp (fun e => by omega) id, fun j a b => ?_⟩
      by_cases e : j = t
      · rw [e]; exact h
      · exact h4 j (by omega) b
    · rename_i h
      exact ⟨Nat.le_refl _, by omega, .inr (by omega), fun j a b => by omega⟩
def costF (s : ByteArray) (a b : Int) : Nat → List ByteArray → Option Int
  | _, [] => some 0
  | f, q :: L => if q = (⟨#[]⟩ : ByteArray) then none else
      let t := seekN s (stN s f + (q.size : Int)) ((cellsS s).length - f) f
      if stN s t - stN s f ≠ (q.size : Int) then none else if Rs s a b f t = true then (costF s a b t L).map (fun c => (if L = [] then 0 else Ks s a b f t) + c) else none
section
variable {s : ByteArray} {a b : Int} (hs : s.size ≤ 100000) (ha : 0 ≤ a ∧ a ≤ 1000000) (hb : 0 ≤ b ∧ b ≤ 1000000)
theorem cost_in (f : Nat) (q : ByteArray) (j4 : ByteArray → Int → Int → Option (Int × Int)) (hs : s.size ≤ 100000) : ∀ (d t m : Nat), t + d = (cellsS s).length → f ≤ t → d < m → loopG (fun _ _ => none) (page_Cost_s3 (turnT s a b) j4 q) m (t : Int) (stN s t - stN s f) =
    j4 q (seekN s (stN s f + (q.size : Int)) d t : Int) (stN s (seekN s (stN s f + (q.size : Int)) d t) - stN s f) := by
  have hle := cs_le hs
  intro d
  induction d with
  | zero =>
    intro t m ht hf hm
    obtain ⟨m, rfl⟩ : ∃ q, m = q + 1 := ⟨m - 1, by omega⟩
    rw [loopI]
    generalize loopG (fun _ _ => none) (page_Cost_s3 (turnT s a b) j4 q) m = ag
    unfold page_Cost_s3
    exact condFI (decide_eq_false (by show ¬ ((t : Int) < ((cellsS s).length : Int)); omega)) rfl
  | succ d ih =>
    intro t m ht hf hm
    obtain ⟨m, rfl⟩ : ∃ q, m = q + 1 := ⟨m - 1, by omega⟩
    have ih' := ih (t + 1) m (by omega) (by omega) (by omega)
    rw [loopI]
    generalize loopG (fun _ _ => none) (page_Cost_s3 (turnT s a b) j4 q) m = ag at ih' ⊢
    have hx : (cellsS s)[t]? = some (cellsS s)[t] := List.getElem?_eq_getElem (by omega)
    obtain ⟨h1, h2, h3, h4, h5⟩ := stN_to s hx
    have hf0 := stN_rng s (k := f) (by omega)
    unfold page_Cost_s3 seekN
    refine condTI (decide_eq_true (by show (t : Int) < ((cellsS s).length : Int); omega)) ?_
    by_cases h : stN s t < stN s f + (q.size : Int)
    · rw [if_pos h]
      refine condTI (decide_eq_true (by omega)) (thenI (lp_get hx) (grdI ⟨by omega, by omega⟩ (grdI ⟨by omega, by omega⟩ (grdI ⟨by omega, by omega⟩ ?_))))
      rw [show stN s t - stN s f + ((cellsS s)[t].Span_To - (cellsS s)[t].Span_From) = stN s (t + 1) - stN s f by omega, show (t : Int) + 1 = ((t + 1 : Nat) : Int) by omega]
      exact ih'
    · rw [if_neg h]
      exact condFI (decide_eq_false (by omega)) rfl
def cRes (j : Int → Option (Int × Int)) (c : Int) : Option Int → Option (Int × Int)
  | none => some (0, 2)
  | some x => j (c + x)
include hs ha hb
theorem cost_go (rows : List ByteArray) (hl : rows.length ≤ 100000) (j2 : Int → Option (Int × Int)) : ∀ (L pre : List ByteArray) (f m : Nat) (c : Int), rows = pre ++ L → f ≤ (cellsS s).length → L.length < m → 0 ≤ c ∧ c ≤ 2000000000000 * pre.length →
    loopG (fun _ _ _ => none) (page_Cost_s2 rows j2 (turnT s a b)) m c (f : Int) (pre.length : Int) = cRes j2 c (costF s a b f L)
  | [], pre, f, m, c, h, hf, hm, hc => by
    obtain ⟨m, rfl⟩ : ∃ q, m = q + 1 := ⟨m - 1, by simp at hm; omega⟩
    rw [List.append_nil] at h; subst h
    rw [loopI]
    generalize loopG (fun _ _ _ => none) (page_Cost_s2 rows j2 (turnT s a b)) m = ag
    unfold page_Cost_s2
    refine condFI lp_ge ?_
    show j2 c = j2 (c + 0)
    rw [Int.add_zero]
  | q :: L, pre, f, m, c, h, hf, hm, hc => by
    obtain ⟨m, rfl⟩ : ∃ q, m = q + 1 := ⟨m - 1, by simp at hm; omega⟩
    have hle := cs_le hs
    obtain ⟨g1, g2, g3, g4⟩ := seek_facts s (stN s f + (q.size : Int)) ((cellsS s).length - f) f
    have ih := fun c' hc' => cost_go rows hl j2 L (pre ++ [q]) (seekN s (stN s f + (q.size : Int)) ((cellsS s).length - f) f) m c' (by rw [h]; simp) (by omega) (by simp at hm; omega) hc'
    have hin := fun j4 => cost_in (s := s) (a := a) (b := b) f q j4 hs ((cellsS s).length - f) f fuel (by omega) (Nat.le_refl _) (by have := big_fuel (n := (cellsS s).length) (by omega); omega)
    have hK := costN_rng hs ha hb f (seekN s (stN s f + (q.size : Int)) ((cellsS s).length - f) f)
    have hg : rows[pre.length]? = some q := by rw [h]; simp
    have hpl := lp_lt' hg
    rw [loopI]
    rw [show (((pre ++ [q]).length : Nat) : Int) = (pre.length : Int) + 1 by simp] at ih
    generalize loopG (fun _ _ _ => none) (page_Cost_s2 rows j2 (turnT s a b)) m = ag at ih ⊢
    unfold page_Cost_s2 costF
    refine condTI (lp_lt hg) (joinI (joinI (thenI (lp_get hg) ?_)))
    rw [Int.sub_self] at hin
    rw [hin]
    generalize seekN s (stN s f + (q.size : Int)) ((cellsS s).length - f) f = t at *
    by_cases he : q = (⟨#[]⟩ : ByteArray)
    · rw [if_pos he]; exact condTI (decide_eq_true he) rfl
    rw [if_neg he]
    refine condFI (decide_eq_false he) ?_
    simp only
    by_cases hz : stN s t - stN s f = (q.size : Int)
    · have hqs : 0 < q.size := by
        rcases Nat.eq_zero_or_pos q.size with h0 | h0
        · exact absurd (ByteArray.ext (Array.eq_empty_of_size_eq_zero h0)) he
        · exact h0
      have hft : f < t := by
        rcases Nat.lt_or_ge f t with h' | h'
        · exact h'
        · have : t = f := by omega
          rw [this] at hz; omega
      rw [if_neg (by omega)]
      refine condFI (neqF hz) (thenI (rowT_v hs f t hft (by omega)) ?_)
      have hRs : Rs s a b f t = rowN (spB s) (cellsS s) a b f t := rfl
      rw [hRs]
      cases hR : rowN (spB s) (cellsS s) a b f t with
      | false => exact condTI rfl (by rw [if_neg (by decide)]; rfl)
      | true =>
        rw [if_pos rfl]
        refine condFI rfl (joinI (grdI ⟨by omega, by omega⟩ ?_))
        by_cases hL : L = []
        · rw [if_pos hL]
          refine condFI (decide_eq_false (by rw [h, hL]; simp)) (grdI ⟨by omega, by omega⟩ ?_)
          rw [ih c ⟨hc.1, by omega⟩]
          cases costF s a b t L with
          | none => rfl
          | some x => show j2 (c + x) = j2 (c + (0 + x)); rw [Int.zero_add]
        · rw [if_neg hL]
          have hLl : 0 < L.length := List.length_pos_iff.2 hL
          have hrl : rows.length = pre.length + (1 + L.length) := by rw [h]; simp; omega
          refine condTI (decide_eq_true (by omega)) (thenI (costT_v hs ha hb f t hft (by omega)) (grdI ⟨by omega, by omega⟩ (grdI ⟨by omega, by omega⟩ ?_)))
          rw [ih (c + costN (spB s) (cellsS s) a b f t) ⟨by omega, by omega⟩]
          cases costF s a b t L with
          | none => rfl
          | some x => show j2 (c + _ + x) = j2 (c + (_ + x)); rw [Int.add_assoc]
    · rw [if_pos hz]
      exact condTI (neqI hz) rfl
/-- **No rows cost less.** -/
theorem cost_least : ∀ (L : List ByteArray) (f : Nat) (c : Int), f ≤ (cellsS s).length → stN s f + sizL L = (s.size : Int) → costF s a b f L = some c → (L = [] ∧ f = (cellsS s).length) ∨ (f < (cellsS s).length ∧ 0 ≤ (TT s a b f).rows ∧ (TT s a b f).cost ≤ c)
  | [], f, c, hf, hz, h => by
    refine .inl ⟨rfl, stN_inj hf (Nat.le_refl _) ?_⟩
    rw [stN_n]
    have : stN s f + ((0 : Nat) : Int) = (s.size : Int) := hz
    omega
  | q :: L, f, c, hf, hz, h => by
    obtain ⟨g1, g2, g3, g4⟩ := seek_facts s (stN s f + (q.size : Int)) ((cellsS s).length - f) f
    unfold costF at h
    split at h
    · cases h
    rename_i he
    simp only at h
    generalize seekN s (stN s f + (q.size : Int)) ((cellsS s).length - f) f = t at *
    split at h
    · cases h
    rename_i hq
    split at h
    · rename_i hR
      have hqs : 0 < q.size := by
        rcases Nat.eq_zero_or_pos q.size with h0 | h0
        · exact absurd (ByteArray.ext (Array.eq_empty_of_size_eq_zero h0)) he
        · exact h0
      have hq' : stN s t - stN s f = (q.size : Int) := by omega
      have hft : f < t := by
        rcases Nat.lt_or_ge f t with h' | h'
        · exact h'
        · have : t = f := by omega
          rw [this] at hq'; omega
      have hz' : stN s f + ((q.size + sizL L : Nat) : Int) = (s.size : Int) := hz
      have hm := BB_min (R := Rs s a b) (K := Ks s a b) (n := (cellsS s).length) (costN_rng hs ha hb) hft (by omega) hR
      cases hc : costF s a b t L with
      | none => rw [hc] at h; cases h
      | some c' =>
        rw [hc] at h
        have e := Option.some.inj h
        simp only at e
        refine .inr ⟨by omega, ?_⟩
        rcases cost_least L t c' (by omega) (by omega) hc with ⟨h1, h2⟩ | ⟨h1, h2, h3⟩
        · rw [if_pos h1] at e
          have h0 : c' = 0 := by rw [h1] at hc; exact (Option.some.inj hc).symm
          have := hm.1 h2
          exact ⟨this.1, by show (BB (Rs s a b) (Ks s a b) (cellsS s).length f).cost ≤ c; omega⟩
        · have h9 : (BB (Rs s a b) (Ks s a b) (cellsS s).length t).cost ≤ c' := h3
          have hL : L ≠ [] := by
            intro e0
            rw [e0] at hz'
            have h0 : stN s f + ((q.size + 0 : Nat) : Int) = (s.size : Int) := hz'
            have : stN s t = stN s (cellsS s).length := by rw [stN_n]; omega
            have := stN_inj (by omega) (Nat.le_refl _) this
            omega
          rw [if_neg hL] at e
          have := hm.2 h1 h2
          exact ⟨this.1, by show (BB (Rs s a b) (Ks s a b) (cellsS s).length f).cost ≤ c; omega⟩
    · cases h
end
end Go.Proofs.Ytnhdnpdbmgeheaa
namespace Go.Proofs.Ytnhdnpdbmgeheaa
open Go.RowKit Go.Lib
set_option linter.unusedVariables false
set_option linter.unusedSimpArgs false
end Go.Proofs.Ytnhdnpdbmgeheaa
namespace Go.Proofs.Ytnhdnpdbmgeheaa
open Go.RowKit Go.Lib
set_option linter.unusedVariables false
set_option linter.unusedSimpArgs false
def ref30_May_v (l1 : Gapi_Layout) : Option Bool := bcond (decide ((8 : Int) ≤ l1.Width)) ( bcond (decide ((l1.Width : Int) ≤ 256)) ( bcond (decide ((4 : Int) ≤ l1.Height)) ( bcond (decide ((l1.Height : Int) ≤ 200)) ( bcond (decide ((0 : Int) ≤ l1.Turn)) ( bcond (decide ((l1.Turn : Int) ≤ 7)) ( bcond (decide ((0 : Int) ≤ l1.Every)) ( some (decide ((l1.Every : Int) ≤ 512))
) ( some false
)
) ( some false
)
) ( some false
)
) ( some false
)
) ( some false
)
) ( some false
)
) ( some false
)
set_option maxRecDepth 100000 in
set_option maxHeartbeats 4000000 in
theorem ref30_May_fn {l1 : Gapi_Layout} {r : Bool} (h : ref30_May_v l1 = some r) : FnP Try.prog 15 [.agg #[.int .i64 l1.Width, .int .i64 l1.Height, .int .i64 l1.Turn, .int .i64 l1.Every]] (.bool r) := by
 unfold ref30_May_v at h
 refine FnP.intro Try.func15 rfl Try.ntmps15 (by simp) ?_
 intro w0 K
 refine TC.seq (TC.region ?_)
 refine TO.box rfl dc rfl (fun b1 => ?_)
 refine TO.assign rfl dc rfl (TO.nil (TX.next (TC.seq (TC.region (TO.fieldAddr fl_23_0 rfl dc rfl (show _ = 0 from rfl) (TO.load (k := 0) sc_3 rfl dc rfl rfl rfl (TO.bin rfl dc rfl rfl bin_geq (TO.move rfl dc rfl ?_))))))))
 refine TO.split (s := 6) rfl (fun hb1 => ?_) (fun hb1 => ?_)
 ·
  have h := condT hb1 h
  refine TO.fieldAddr fl_23_0 rfl dc rfl (show _ = 0 from rfl) (TO.load (k := 0) sc_3 rfl dc rfl rfl rfl (TO.bin rfl dc rfl rfl bin_leq (TO.pick (b := true) rfl dc rfl rfl (TO.move rfl dc rfl ?_))))
  refine TO.split (s := 11) rfl (fun hb2 => ?_) (fun hb2 => ?_)
  ·
   have h := condT hb2 h
   refine TO.fieldAddr fl_23_1 rfl dc rfl (show _ = 1 from rfl) (TO.load (k := 0) sc_3 rfl dc rfl rfl rfl (TO.bin rfl dc rfl rfl bin_geq (TO.pick (b := true) rfl dc rfl rfl (TO.move rfl dc rfl ?_))))
   refine TO.split (s := 16) rfl (fun hb3 => ?_) (fun hb3 => ?_)
   ·
    have h := condT hb3 h
    refine TO.fieldAddr fl_23_1 rfl dc rfl (show _ = 1 from rfl) (TO.load (k := 0) sc_3 rfl dc rfl rfl rfl (TO.bin rfl dc rfl rfl bin_leq (TO.pick (b := true) rfl dc rfl rfl (TO.move rfl dc rfl ?_))))
    refine TO.split (s := 21) rfl (fun hb4 => ?_) (fun hb4 => ?_)
    ·
     have h := condT hb4 h
     refine TO.fieldAddr fl_23_2 rfl dc rfl (show _ = 2 from rfl) (TO.load (k := 0) sc_3 rfl dc rfl rfl rfl (TO.bin rfl dc rfl rfl bin_geq (TO.pick (b := true) rfl dc rfl rfl (TO.move rfl dc rfl ?_))))
     refine TO.split (s := 26) rfl (fun hb5 => ?_) (fun hb5 => ?_)
     ·
      have h := condT hb5 h
      refine TO.fieldAddr fl_23_2 rfl dc rfl (show _ = 2 from rfl) (TO.load (k := 0) sc_3 rfl dc rfl rfl rfl (TO.bin rfl dc rfl rfl bin_leq (TO.pick (b := true) rfl dc rfl rfl (TO.move rfl dc rfl ?_))))
      refine TO.split (s := 31) rfl (fun hb6 => ?_) (fun hb6 => ?_)
      ·
       have h := condT hb6 h
       refine TO.fieldAddr fl_23_3 rfl dc rfl (show _ = 3 from rfl) (TO.load (k := 0) sc_3 rfl dc rfl rfl rfl (TO.bin rfl dc rfl rfl bin_geq (TO.pick (b := true) rfl dc rfl rfl (TO.move rfl dc rfl ?_))))
       refine TO.split (s := 36) rfl (fun hb7 => ?_) (fun hb7 => ?_)
       ·
        have h := condT hb7 h
        refine TO.fieldAddr fl_23_3 rfl dc rfl (show _ = 3 from rfl) (TO.load (k := 0) sc_3 rfl dc rfl rfl rfl (TO.bin rfl dc rfl rfl bin_leq (TO.pick (b := true) rfl dc rfl rfl (TO.assign rfl dc rfl (TO.nil (TX.next (TC.ret ?_)))))))
        cases h
        exact TX.fin (rs := [.tmp 2]) () (.inl rfl) Try.results15 (.cons (.tmp rfl) .nil) rfl Splits.nil
       ·
        have h := condF hb7 h
        refine TO.skip rfl dc (TO.skip rfl dc (TO.skip rfl dc (TO.pick (b := false) rfl dc rfl rfl (TO.assign rfl dc rfl (TO.nil (TX.next (TC.ret ?_)))))))
        cases h
        exact TX.fin (rs := [.tmp 2]) () (.inl rfl) Try.results15 (.cons (.tmp rfl) .nil) rfl Splits.nil
      ·
       have h := condF hb6 h
       refine TO.skip rfl dc (TO.skip rfl dc (TO.skip rfl dc (TO.pick (b := false) rfl dc rfl rfl (TO.move rfl dc rfl (TO.skip rfl dc (TO.skip rfl dc (TO.skip rfl dc (TO.pick (b := false) rfl dc rfl rfl (TO.assign rfl dc rfl (TO.nil (TX.next (TC.ret ?_))))))))))))
       cases h
       exact TX.fin (rs := [.tmp 2]) () (.inl rfl) Try.results15 (.cons (.tmp rfl) .nil) rfl Splits.nil
     ·
      have h := condF hb5 h
      refine TO.skip rfl dc (TO.skip rfl dc (TO.skip rfl dc (TO.pick (b := false) rfl dc rfl rfl (TO.move rfl dc rfl (TO.skip rfl dc (TO.skip rfl dc (TO.skip rfl dc (TO.pick (b := false) rfl dc rfl rfl (TO.move rfl dc rfl (TO.skip rfl dc (TO.skip rfl dc (TO.skip rfl dc (TO.pick (b := false) rfl dc rfl rfl ?_)))))))))))))
      refine TO.assign rfl dc rfl (TO.nil (TX.next (TC.ret ?_)))
      cases h
      exact TX.fin (rs := [.tmp 2]) () (.inl rfl) Try.results15 (.cons (.tmp rfl) .nil) rfl Splits.nil
    ·
     have h := condF hb4 h
     refine TO.skip rfl dc (TO.skip rfl dc (TO.skip rfl dc (TO.pick (b := false) rfl dc rfl rfl (TO.move rfl dc rfl (TO.skip rfl dc (TO.skip rfl dc (TO.skip rfl dc (TO.pick (b := false) rfl dc rfl rfl (TO.move rfl dc rfl (TO.skip rfl dc (TO.skip rfl dc (TO.skip rfl dc (TO.pick (b := false) rfl dc rfl rfl ?_)))))))))))))
     refine TO.move rfl dc rfl (TO.skip rfl dc (TO.skip rfl dc (TO.skip rfl dc (TO.pick (b := false) rfl dc rfl rfl (TO.assign rfl dc rfl (TO.nil (TX.next (TC.ret ?_))))))))
     cases h
     exact TX.fin (rs := [.tmp 2]) () (.inl rfl) Try.results15 (.cons (.tmp rfl) .nil) rfl Splits.nil
   ·
    have h := condF hb3 h
    refine TO.skip rfl dc (TO.skip rfl dc (TO.skip rfl dc (TO.pick (b := false) rfl dc rfl rfl (TO.move rfl dc rfl (TO.skip rfl dc (TO.skip rfl dc (TO.skip rfl dc (TO.pick (b := false) rfl dc rfl rfl (TO.move rfl dc rfl (TO.skip rfl dc (TO.skip rfl dc (TO.skip rfl dc (TO.pick (b := false) rfl dc rfl rfl ?_)))))))))))))
    refine TO.move rfl dc rfl (TO.skip rfl dc (TO.skip rfl dc (TO.skip rfl dc (TO.pick (b := false) rfl dc rfl rfl (TO.move rfl dc rfl (TO.skip rfl dc (TO.skip rfl dc (TO.skip rfl dc (TO.pick (b := false) rfl dc rfl rfl (TO.assign rfl dc rfl (TO.nil (TX.next (TC.ret ?_)))))))))))))
    cases h
    exact TX.fin (rs := [.tmp 2]) () (.inl rfl) Try.results15 (.cons (.tmp rfl) .nil) rfl Splits.nil
  ·
   have h := condF hb2 h
   refine TO.skip rfl dc (TO.skip rfl dc (TO.skip rfl dc (TO.pick (b := false) rfl dc rfl rfl (TO.move rfl dc rfl (TO.skip rfl dc (TO.skip rfl dc (TO.skip rfl dc (TO.pick (b := false) rfl dc rfl rfl (TO.move rfl dc rfl (TO.skip rfl dc (TO.skip rfl dc (TO.skip rfl dc (TO.pick (b := false) rfl dc rfl rfl ?_)))))))))))))
   refine TO.move rfl dc rfl (TO.skip rfl dc (TO.skip rfl dc (TO.skip rfl dc (TO.pick (b := false) rfl dc rfl rfl (TO.move rfl dc rfl (TO.skip rfl dc (TO.skip rfl dc (TO.skip rfl dc (TO.pick (b := false) rfl dc rfl rfl (TO.move rfl dc rfl (TO.skip rfl dc (TO.skip rfl dc (TO.skip rfl dc ?_)))))))))))))
   refine TO.pick (b := false) rfl dc rfl rfl (TO.assign rfl dc rfl (TO.nil (TX.next (TC.ret ?_))))
   cases h
   exact TX.fin (rs := [.tmp 2]) () (.inl rfl) Try.results15 (.cons (.tmp rfl) .nil) rfl Splits.nil
 ·
  have h := condF hb1 h
  refine TO.skip rfl dc (TO.skip rfl dc (TO.skip rfl dc (TO.pick (b := false) rfl dc rfl rfl (TO.move rfl dc rfl (TO.skip rfl dc (TO.skip rfl dc (TO.skip rfl dc (TO.pick (b := false) rfl dc rfl rfl (TO.move rfl dc rfl (TO.skip rfl dc (TO.skip rfl dc (TO.skip rfl dc (TO.pick (b := false) rfl dc rfl rfl ?_)))))))))))))
  refine TO.move rfl dc rfl (TO.skip rfl dc (TO.skip rfl dc (TO.skip rfl dc (TO.pick (b := false) rfl dc rfl rfl (TO.move rfl dc rfl (TO.skip rfl dc (TO.skip rfl dc (TO.skip rfl dc (TO.pick (b := false) rfl dc rfl rfl (TO.move rfl dc rfl (TO.skip rfl dc (TO.skip rfl dc (TO.skip rfl dc ?_)))))))))))))
  refine TO.pick (b := false) rfl dc rfl rfl (TO.move rfl dc rfl (TO.skip rfl dc (TO.skip rfl dc (TO.skip rfl dc (TO.pick (b := false) rfl dc rfl rfl (TO.assign rfl dc rfl (TO.nil (TX.next (TC.ret ?_)))))))))
  cases h
  exact TX.fin (rs := [.tmp 2]) () (.inl rfl) Try.results15 (.cons (.tmp rfl) .nil) rfl Splits.nil
end Go.Proofs.Ytnhdnpdbmgeheaa
namespace Go.Proofs.Ytnhdnpdbmgeheaa
open Go.RowKit Go.Lib
set_option linter.unusedVariables false
set_option linter.unusedSimpArgs false
def law30_live_v  : Option Bool := andThen (page_Turn_v (⟨#[111, 110, 101, 32, 116, 119, 111, 32, 116, 104, 114, 101, 101]⟩ : ByteArray) 0 (⟨8, 4, 2, 0⟩ : Gapi_Layout)) fun (r1 : ((List ByteArray) × Int × Int)) => bcond (((r1.1.length : Int) : Int) == 2) ( andThen (getO r1.1 0) fun (q1 : ByteArray) => bcond (decide (q1 = (⟨#[111, 110, 101, 32, 116, 119, 111, 32]⟩ : ByteArray))) ( bcond ((r1.2.1 : Int) == 1) ( some ((r1.2.2 : Int) == 0)
) ( some false
)
) ( some false
)
) ( some false
)
set_option maxRecDepth 100000 in
set_option maxHeartbeats 4000000 in
theorem law30_live_fn  {r : Bool} (h : law30_live_v = some r) : FnP Try.prog 6 [] (.bool r) := by
 unfold law30_live_v at h
 refine FnP.intro Try.func6 rfl Try.ntmps6 (by simp) ?_
 intro w0 K
 refine TC.seq (TC.region (TO.assign rfl dc rfl (TO.nil (TX.next (TC.seq (TC.region ?_))))))
 refine TO.build (v := .agg #[.int .i64 8, .int .i64 4, .int .i64 2, .int .i64 0]) (ps := [(0, .const (.int .i64 8)), (1, .const (.int .i64 4)), (2, .const (.int .i64 2))]) rfl dc rfl (fun _ => by kernel_rfl) ?_
 obtain ⟨r1, hq1, h⟩ := andE h
 refine TO.call (vs := [.string (⟨#[111, 110, 101, 32, 116, 119, 111, 32, 116, 104, 114, 101, 101]⟩ : ByteArray), .int .i64 0, .agg #[.int .i64 8, .int .i64 4, .int .i64 2, .int .i64 0]]) rfl dc rfl rfl rfl en_7 (page_Turn_fn (l1 := (⟨8, 4, 2, 0⟩ : Gapi_Layout)) hq1) Splits.nil ?_
 rintro v1
 show TO _ _ _ _ _ _ _ _ _ _ [vec encS 9 1 v1 r1.1]
 refine TO.move rfl dc rfl (TO.extract rfl dc rfl rfl (TO.extract rfl dc rfl rfl (TO.extract rfl dc rfl rfl (TO.assign rfl dc rfl (TO.assign rfl dc rfl (TO.assign rfl dc rfl (TO.nil (TX.next (TC.seq (TC.region (TO.move rfl dc rfl (TO.lenVec (k := 0) rfl dc rfl rfl Try.underlying25 (TO.bin rfl dc rfl rfl bin_eql ?_)))))))))))))
 refine TO.move rfl dc rfl ?_
 refine TO.split (s := 13) rfl (fun hb1 => ?_) (fun hb1 => ?_)
 ·
  have h := condT hb1 h
  refine TO.move rfl dc rfl ?_
  obtain ⟨q1, hq2, h⟩ := andE h
  refine TO.indexVecI (k := 0) hq2 Try.underlying25 sz_9 rfl dc rfl rfl rfl rfl (TO.loadVec (i := (0 : Int).toNat) (j := 0) (k := 0) (q := q1) sc_9 encS_len rfl dc rfl rfl (getO_get hq2) rfl dc rfl (TO.bin rfl dc rfl rfl bin_seql (TO.pick (b := true) rfl dc rfl rfl (TO.move rfl dc rfl ?_))))
  refine TO.split (s := 19) rfl (fun hb2 => ?_) (fun hb2 => ?_)
  ·
   have h := condT hb2 h
   refine TO.move rfl dc rfl (TO.bin rfl dc rfl rfl bin_eql (TO.pick (b := true) rfl dc rfl rfl (TO.move rfl dc rfl ?_)))
   refine TO.split (s := 23) rfl (fun hb3 => ?_) (fun hb3 => ?_)
   ·
    have h := condT hb3 h
    refine TO.move rfl dc rfl (TO.bin rfl dc rfl rfl bin_eql (TO.pick (b := true) rfl dc rfl rfl (TO.assign rfl dc rfl (TO.nil (TX.next (TC.ret ?_))))))
    cases h
    exact TX.fin (rs := [.tmp 0]) () (.inl rfl) Try.results6 (.cons (.tmp rfl) .nil) rfl Splits.nil
   ·
    have h := condF hb3 h
    refine TO.skip rfl dc (TO.skip rfl dc (TO.pick (b := false) rfl dc rfl rfl (TO.assign rfl dc rfl (TO.nil (TX.next (TC.ret ?_))))))
    cases h
    exact TX.fin (rs := [.tmp 0]) () (.inl rfl) Try.results6 (.cons (.tmp rfl) .nil) rfl Splits.nil
  ·
   have h := condF hb2 h
   refine TO.skip rfl dc (TO.skip rfl dc (TO.pick (b := false) rfl dc rfl rfl (TO.move rfl dc rfl (TO.skip rfl dc (TO.skip rfl dc (TO.pick (b := false) rfl dc rfl rfl (TO.assign rfl dc rfl (TO.nil (TX.next (TC.ret ?_))))))))))
   cases h
   exact TX.fin (rs := [.tmp 0]) () (.inl rfl) Try.results6 (.cons (.tmp rfl) .nil) rfl Splits.nil
 ·
  have h := condF hb1 h
  refine TO.skip rfl dc (TO.skip rfl dc (TO.skip rfl dc (TO.skip rfl dc (TO.pick (b := false) rfl dc rfl rfl (TO.move rfl dc rfl (TO.skip rfl dc (TO.skip rfl dc (TO.pick (b := false) rfl dc rfl rfl (TO.move rfl dc rfl (TO.skip rfl dc (TO.skip rfl dc (TO.pick (b := false) rfl dc rfl rfl (TO.assign rfl dc rfl ?_)))))))))))))
  refine TO.nil (TX.next (TC.ret ?_))
  cases h
  exact TX.fin (rs := [.tmp 0]) () (.inl rfl) Try.results6 (.cons (.tmp rfl) .nil) rfl Splits.nil
def law30_fine_v (n1 : Int) (indent1 : Int) (l1 : Gapi_Layout) : Option Bool := andThen (ref30_May_v l1) fun (r1 : Bool) => bcond (r1) ( bcond (decide ((0 : Int) ≤ indent1)) ( bcond (decide ((indent1 : Int) ≤ 1024)) ( some (decide ((n1 : Int) ≤ 1024))
) ( some false
)
) ( some false
)
) ( some false
)
set_option maxRecDepth 100000 in
set_option maxHeartbeats 4000000 in
theorem law30_fine_fn {n1 : Int} {indent1 : Int} {l1 : Gapi_Layout} {r : Bool} (h : law30_fine_v n1 indent1 l1 = some r) : FnP Try.prog 8 [.int .i64 n1, .int .i64 indent1, .agg #[.int .i64 l1.Width, .int .i64 l1.Height, .int .i64 l1.Turn, .int .i64 l1.Every]] (.bool r) := by
 unfold law30_fine_v at h
 refine FnP.intro Try.func8 rfl Try.ntmps8 (by simp) ?_
 intro w0 K
 refine TC.seq (TC.region ?_)
 refine TO.box rfl dc rfl (fun b1 => ?_)
 refine TO.assign rfl dc rfl (TO.nil (TX.next (TC.seq (TC.region (TO.loads (k := 0) (cs := [.int .i64 l1.Width, .int .i64 l1.Height, .int .i64 l1.Turn, .int .i64 l1.Every]) rw_23 rfl dc rfl rfl rfl rfl ?_)))))
 obtain ⟨r1, hq1, h⟩ := andE h
 refine TO.callP (v := .bool r1) (vs := [.agg #[.int .i64 l1.Width, .int .i64 l1.Height, .int .i64 l1.Turn, .int .i64 l1.Every]]) rfl dc rfl rfl rfl en_15 (ref30_May_fn (l1 := l1) hq1) (TO.move rfl dc rfl ?_)
 refine TO.split (s := 9) rfl (fun hb1 => ?_) (fun hb1 => ?_)
 ·
  have h := condT hb1 h
  refine TO.move rfl dc rfl (TO.bin rfl dc rfl rfl bin_geq (TO.pick (b := true) rfl dc rfl rfl (TO.move rfl dc rfl ?_)))
  refine TO.split (s := 13) rfl (fun hb2 => ?_) (fun hb2 => ?_)
  ·
   have h := condT hb2 h
   refine TO.move rfl dc rfl (TO.bin rfl dc rfl rfl bin_leq (TO.pick (b := true) rfl dc rfl rfl (TO.move rfl dc rfl ?_)))
   refine TO.split (s := 17) rfl (fun hb3 => ?_) (fun hb3 => ?_)
   ·
    have h := condT hb3 h
    refine TO.move rfl dc rfl (TO.bin rfl dc rfl rfl bin_leq (TO.pick (b := true) rfl dc rfl rfl (TO.assign rfl dc rfl (TO.nil (TX.next (TC.ret ?_))))))
    cases h
    exact TX.fin (rs := [.tmp 6]) () (.inl rfl) Try.results8 (.cons (.tmp rfl) .nil) rfl Splits.nil
   ·
    have h := condF hb3 h
    refine TO.skip rfl dc (TO.skip rfl dc (TO.pick (b := false) rfl dc rfl rfl (TO.assign rfl dc rfl (TO.nil (TX.next (TC.ret ?_))))))
    cases h
    exact TX.fin (rs := [.tmp 6]) () (.inl rfl) Try.results8 (.cons (.tmp rfl) .nil) rfl Splits.nil
  ·
   have h := condF hb2 h
   refine TO.skip rfl dc (TO.skip rfl dc (TO.pick (b := false) rfl dc rfl rfl (TO.move rfl dc rfl (TO.skip rfl dc (TO.skip rfl dc (TO.pick (b := false) rfl dc rfl rfl (TO.assign rfl dc rfl (TO.nil (TX.next (TC.ret ?_))))))))))
   cases h
   exact TX.fin (rs := [.tmp 6]) () (.inl rfl) Try.results8 (.cons (.tmp rfl) .nil) rfl Splits.nil
 ·
  have h := condF hb1 h
  refine TO.skip rfl dc (TO.skip rfl dc (TO.pick (b := false) rfl dc rfl rfl (TO.move rfl dc rfl (TO.skip rfl dc (TO.skip rfl dc (TO.pick (b := false) rfl dc rfl rfl (TO.move rfl dc rfl (TO.skip rfl dc (TO.skip rfl dc (TO.pick (b := false) rfl dc rfl rfl (TO.assign rfl dc rfl (TO.nil (TX.next ?_)))))))))))))
  refine TC.ret ?_
  cases h
  exact TX.fin (rs := [.tmp 6]) () (.inl rfl) Try.results8 (.cons (.tmp rfl) .nil) rfl Splits.nil
end Go.Proofs.Ytnhdnpdbmgeheaa
namespace Go.Proofs.Ytnhdnpdbmgeheaa
open Go.RowKit Go.Lib
set_option linter.unusedVariables false
set_option linter.unusedSimpArgs false
def mayB (l : Gapi_Layout) : Bool := decide ((8 : Int) ≤ l.Width) && (decide ((l.Width : Int) ≤ 256) && (decide ((4 : Int) ≤ l.Height) && (decide ((l.Height : Int) ≤ 200) && (decide ((0 : Int) ≤ l.Turn) && (decide ((l.Turn : Int) ≤ 7) && (decide ((0 : Int) ≤ l.Every) && decide ((l.Every : Int) ≤ 512)))))))
theorem bcand (c d : Bool) (r : Option Bool) (h : r = some d) : bcond c r (some false) = some (c && d) := by
  cases c
  · rfl
  · exact h
theorem may_v (l : Gapi_Layout) : page_may_v l = some (mayB l) := by
  unfold page_may_v mayB
  exact bcand _ _ _ (bcand _ _ _ (bcand _ _ _ (bcand _ _ _ (bcand _ _ _ (bcand _ _ _ (bcand _ _ _ rfl))))))
theorem rmay_v (l : Gapi_Layout) : ref30_May_v l = some (mayB l) := by
  unfold ref30_May_v mayB
  exact bcand _ _ _ (bcand _ _ _ (bcand _ _ _ (bcand _ _ _ (bcand _ _ _ (bcand _ _ _ (bcand _ _ _ rfl))))))
theorem fine_v (n i : Int) (l : Gapi_Layout) : law30_fine_v n i l = some (mayB l && (decide ((0 : Int) ≤ i) && (decide ((i : Int) ≤ 1024) && decide ((n : Int) ≤ 1024)))) := by
  unfold law30_fine_v
  exact thenI (rmay_v l) (bcand _ _ _ (bcand _ _ _ (bcand _ _ _ rfl)))
theorem mayB_rng {l : Gapi_Layout} (h : mayB l = true) : (8 ≤ l.Width ∧ l.Width ≤ 256) ∧ 0 ≤ l.Turn ∧ l.Turn ≤ 7 := by
  unfold mayB at h
  simp only [Bool.and_eq_true, decide_eq_true_eq] at h
  omega
/-! ### The rows of a line -/
abbrev fstW (i : Int) (l : Gapi_Layout) : Int := max 1 (l.Width - i)
abbrev nxtW (l : Gapi_Layout) : Int := l.Width - l.Turn
theorem w_rng {i : Int} {l : Gapi_Layout} (hm : mayB l = true) (hi : 0 ≤ i ∧ i ≤ 1024) : I64 (l.Width - i) ∧ (0 ≤ fstW i l ∧ fstW i l ≤ 1000000) ∧ (0 ≤ nxtW l ∧ nxtW l ≤ 1000000) := by
  have := mayB_rng hm
  refine ⟨⟨by omega, by omega⟩, ?_, ?_⟩
  · show 0 ≤ max 1 (l.Width - i) ∧ max 1 (l.Width - i) ≤ 1000000
    omega
  · show 0 ≤ l.Width - l.Turn ∧ l.Width - l.Turn ≤ 1000000
    omega
abbrev rowsS (s : ByteArray) (i : Int) (l : Gapi_Layout) : List ByteArray := textsF s 0 (endsS s (fstW i l) (nxtW l))
theorem Turn_v (s : ByteArray) (i : Int) (l : Gapi_Layout) : page_Turn_v s i l = some (if mayB l = true ∧ 0 ≤ i ∧ i ≤ 1024 ∧ s.size ≤ 1024 then (rowsS s i l, (TT s (fstW i l) (nxtW l) 0).cost, 0) else ([], 0, 2)) := by
  unfold page_Turn_v
  refine thenI (may_v l) ?_
  cases hm : mayB l with
  | false => exact condTI rfl (by rw [if_neg (fun h => by cases h.1)])
  | true =>
    refine condFI rfl ?_
    by_cases h1 : i < 0
    · exact condTI (decide_eq_true h1) (by rw [if_neg (fun h => by omega)])
    refine condFI (decide_eq_false h1) ?_
    by_cases h2 : 1024 < i
    · exact condTI (decide_eq_true h2) (by rw [if_neg (fun h => by omega)])
    refine condFI (decide_eq_false h2) ?_
    by_cases h3 : (1024 : Int) < (s.size : Int)
    · exact condTI (decide_eq_true h3) (by rw [if_neg (fun h => by omega)])
    refine condFI (decide_eq_false h3) ?_
    obtain ⟨g1, g2, g3⟩ := w_rng hm (i := i) ⟨by omega, by omega⟩
    refine thenI (turn_v s (by omega) i l g1 g2 g3) ?_
    rw [if_pos ⟨rfl, by omega, by omega, by omega⟩]
/-! ### page.Cost -/
theorem sizL_app : ∀ A B : List ByteArray, sizL (A ++ B) = sizL A + sizL B
  | [], B => by show sizL B = 0 + sizL B; omega
  | x :: A, B => by show x.size + sizL (A ++ B) = x.size + sizL A + sizL B; rw [sizL_app A B]; omega
theorem cost_sz (L : List ByteArray) (hl : L.length ≤ 2147483648) (hb : ∀ x ∈ L, x.size ≤ 140737488355328) (j : Option (Int × Int)) : ∀ (ts pre : List ByteArray) (m : Nat), L = pre ++ ts → ts.length < m → sizL pre ≤ 1024 →
    loopG (fun _ _ => none) (page_Cost_s1 L j) m (sizL pre : Int) (pre.length : Int) = if sizL L ≤ 1024 then j else some (0, 2)
  | [], pre, m, h, hm, hp => by
    obtain ⟨m, rfl⟩ : ∃ q, m = q + 1 := ⟨m - 1, by simp at hm; omega⟩
    rw [List.append_nil] at h; subst h
    rw [loopI]
    generalize loopG (fun _ _ => none) (page_Cost_s1 L j) m = ag
    unfold page_Cost_s1
    rw [if_pos hp]
    exact condFI lp_ge rfl
  | t :: ts, pre, m, h, hm, hp => by
    obtain ⟨m, rfl⟩ : ∃ q, m = q + 1 := ⟨m - 1, by simp at hm; omega⟩
    have h1 : sizL (pre ++ [t]) = sizL pre + t.size := by rw [sizL_app]; show sizL pre + (t.size + 0) = _; omega
    have h2 : sizL L = sizL pre + (t.size + sizL ts) := by rw [h, sizL_app]; rfl
    have ih := fun q => cost_sz L hl hb j ts (pre ++ [t]) m (by rw [h]; simp) (by simp at hm; omega) q
    rw [loopI]
    generalize loopG (fun _ _ => none) (page_Cost_s1 L j) m = ag at ih ⊢
    have hg : L[pre.length]? = some t := by rw [h]; simp
    have hpl := lp_lt' hg
    have hbt := hb t (List.mem_of_getElem? hg)
    rw [h1, show (((pre ++ [t]).length : Nat) : Int) = (pre.length : Int) + 1 by simp] at ih
    unfold page_Cost_s1
    refine condTI (lp_lt hg) (thenI (lp_get hg) (grdI ⟨by omega, by omega⟩ ?_))
    by_cases hc : (1024 : Int) < (sizL pre : Int) + (t.size : Int)
    · refine condTI (decide_eq_true hc) ?_
      rw [if_neg (by omega)]
    · refine condFI (decide_eq_false hc) (grdI ⟨by omega, by omega⟩ ?_)
      rw [show (sizL pre : Int) + (t.size : Int) = ((sizL pre + t.size : Nat) : Int) by omega]
      exact ih (by omega)
def cOut : Option Int → Int × Int
  | none => (0, 2)
  | some c => (c, 0)
theorem Cost_v (L : List ByteArray) (hl : L.length ≤ 100000) (hb : ∀ x ∈ L, x.size ≤ 140737488355328) (i : Int) (l : Gapi_Layout) : page_Cost_v L i l = some (if mayB l = true ∧ 0 ≤ i ∧ i ≤ 1024 ∧ sizL L ≤ 1024 then cOut (costF (catL L) (fstW i l) (nxtW l) 0 L) else (0, 2)) := by
  unfold page_Cost_v
  have hz := fun j => cost_sz L (by omega) hb j L [] fuel rfl (by have := big_fuel (n := L.length) (by omega); omega) (Nat.zero_le _)
  refine joinI ((hz _).trans ?_)
  by_cases hs : sizL L ≤ 1024
  · rw [if_pos hs]
    refine thenI (may_v l) ?_
    cases hm : mayB l with
    | false => exact condTI rfl (by rw [if_neg (fun h => by cases h.1)])
    | true =>
      refine condFI rfl ?_
      by_cases h1 : i < 0
      · exact condTI (decide_eq_true h1) (by rw [if_neg (fun h => by omega)])
      refine condFI (decide_eq_false h1) ?_
      by_cases h2 : 1024 < i
      · exact condTI (decide_eq_true h2) (by rw [if_neg (fun h => by omega)])
      refine condFI (decide_eq_false h2) (joinI (thenI (join_v L (by omega) (by omega)) ?_))
      obtain ⟨g1, g2, g3⟩ := w_rng hm (i := i) ⟨by omega, by omega⟩
      have hcs := catL_size L
      have hmr := mayB_rng hm
      refine thenI (newTurner_v (catL L) (by omega) i l g1 ⟨by omega, by omega⟩) ?_
      have := cost_go (s := catL L) (a := fstW i l) (b := nxtW l) (by omega) g2 g3 L hl (fun (cost1 : Int) => some (cost1, 0)) L [] 0 fuel 0 rfl (Nat.zero_le _) (by have := big_fuel (n := L.length) (by omega); omega) ⟨Int.le_refl _, by simp⟩
      rw [if_pos ⟨rfl, by omega, by omega, hs⟩]
      refine this.trans ?_
      cases costF (catL L) (fstW i l) (nxtW l) 0 L with
      | none => rfl
      | some x => show some ((0 : Int) + x, (0 : Int)) = some (x, 0); rw [Int.zero_add]
  · rw [if_neg hs, if_neg (fun h => hs h.2.2.2)]
theorem live_v : law30_live_v = some true := by decide +kernel
end Go.Proofs.Ytnhdnpdbmgeheaa
namespace Go.Proofs.Ytnhdnpdbmgeheaa
open Go.RowKit Go.Lib
set_option linter.unusedVariables false
set_option linter.unusedSimpArgs false
section
variable {α : Type} {enc : α → List Value} {size k : Nat} {vv : Value} {xs : List α}
/-- From record k on, the records xs lie in vv's block. -/
def roRow (enc : α → List Value) (size : Nat) (vv : Value) (k : Nat) (xs : List α) : Asn :=
  ⟨fun C w => (∀ b, C b → b < w.heap.size) ∧ ∀ i x j v, k ≤ i → xs[i]? = some x → (enc x)[j]? = some v → C (vblk vv) ∧ w.cell? ⟨vblk vv, i * size + j, none⟩ = some v,
   fun h b hb => h.1 b hb,
   fun {C w w'} h hs hk => ⟨fun b hb => Nat.lt_of_lt_of_le (h.1 b hb) hs, fun i x j v hi hx hv => by
     obtain ⟨h1, h2⟩ := h.2 i x j v hi hx hv
     refine ⟨h1, ?_⟩
     rw [← h2]
     unfold World.cell?
     simp only [hk _ h1]⟩⟩
variable {F : Fence} {P : Program} {w0 : World} {K : Nat → Prop} {N : Nat} {dfs : List Deferred} {ops : Array Oper} {Q : Exit → Act → World → Prop} {rest : List Oper} {σ : List (Nat × Value)} {L RD : List Asn} {v : Value}
  {d i : Nat} {t ty : TypeId} {pos : String} {aft : Array Edge} {g : Option (Nat × Bool)} {x : Operand}
theorem TO.loadRowRd [WideF F] {n j off : Nat} {q : α} (hr : Rd w0 K RD) (hi : RD[i]? = some (roRow enc size vv k xs)) (hle : k ≤ n) (hT : ScalarOk P t) (hg : gd ops σ g = some true) (hd : d < N) (hx : ev σ x = some (.pointer (some ⟨vblk vv, off, none⟩)))
    (hq : xs[n]? = some q) (ho : off = n * size + j) (hv : (enc q)[j]? = some v) (h : TO F P w0 K N dfs ops Q rest ((d, v) :: σ) L) :
    TO F P w0 K N dfs ops Q (⟨some d, .load t x, ty, pos, aft, g⟩ :: rest) σ L := by
  subst ho
  obtain ⟨dd, hu, hr'⟩ := hT
  refine TO.val hg hd (by simp) (fun a w ha hw => ?_) h
  obtain ⟨C, hC⟩ := hr.at hw hi
  have hc := (hC.2 n q j v hle hq hv).2
  have h1 := ha.ev hx
  cases dd <;> simp_all [execOp, Instr.loadAt, Instr.sureAddr, loadVar, isAgg, Sem.run_bind, run_underlying hu]
end
end Go.Proofs.Ytnhdnpdbmgeheaa
namespace Go.Proofs.Ytnhdnpdbmgeheaa
open Go.RowKit Go.Lib
set_option linter.unusedVariables false
set_option linter.unusedSimpArgs false
def law30_PageLeast_s1 (x1 : Glaw30_Line) (j1 : (List ByteArray) → Int → Option Bool) (ag1 : (List ByteArray) → Int → Int → Option Bool) (rows4 : List ByteArray) (from4 : Int) (i3 : Int) : Option Bool := bcond (decide ((i3 : Int) < (x1.Cuts.length : Int))) ( joinK (fun (j2 : (List ByteArray) → Int → Option Bool) => andThen (getO x1.Cuts i3) fun (q1 : Int) => bcond (decide ((from4 : Int) < q1)) ( bcond (decide ((q1 : Int) < (x1.Text.size : Int))) ( andThen (getO x1.Cuts i3) fun (q2 : Int) => grd (0 ≤ (from4 : Int) ∧ (from4 : Int) ≤ q2 ∧ (q2 : Int) ≤ (x1.Text.size : Int)) <| grd (rows4.length + 1 ≤ 2147483648) <| andThen (getO x1.Cuts i3) fun (q3 : Int) => j2 (rows4 ++ [cutB x1.Text from4 q2]) q3
) ( j2 rows4 from4
)
) ( j2 rows4 from4
)
) (fun (rows5 : List ByteArray) (from5 : Int) => grd (I64 (i3 + 1)) <| ag1 rows5 from5 (i3 + 1)
)
) ( j1 rows4 from4
)
def law30_PageLeast_v (x1 : Glaw30_Line) : Option Bool := andThen (law30_live_v) fun (r1 : Bool) => bcond (!r1) ( some false
) ( bcond (decide ((400 : Int) < (x1.Text.size : Int))) ( some true
) ( andThen (law30_fine_v (x1.Text.size : Int) x1.Indent (⟨x1.L_Width, x1.L_Height, x1.L_Turn, x1.L_Every⟩ : Gapi_Layout)) fun (r2 : Bool) => bcond (!r2) ( some true
) ( andThen (page_Turn_v x1.Text x1.Indent (⟨x1.L_Width, x1.L_Height, x1.L_Turn, x1.L_Every⟩ : Gapi_Layout)) fun (r3 : ((List ByteArray) × Int × Int)) => bcond ((r3.2.2 : Int) != 0) ( some false
) ( andThen (law30_live_v) fun (r4 : Bool) => bcond (!r4) ( some false
) ( joinK (fun (j1 : (List ByteArray) → Int → Option Bool) => loopG (fun _ _ _ => none) (law30_PageLeast_s1 x1 j1) fuel ([] : List ByteArray) 0 0
) (fun (rows1 : List ByteArray) (from1 : Int) => joinK (fun (j3 : (List ByteArray) → Option Bool) => bcond (decide ((from1 : Int) < (x1.Text.size : Int))) ( grd (0 ≤ (from1 : Int) ∧ (from1 : Int) ≤ (x1.Text.size : Int) ∧ ((x1.Text.size : Int) : Int) ≤ (x1.Text.size : Int)) <| grd (rows1.length + 1 ≤ 2147483648) <| j3 (rows1 ++ [cutB x1.Text from1 (x1.Text.size : Int)])
) ( j3 rows1
)
) (fun (rows6 : List ByteArray) => andThen (page_Cost_v rows6 x1.Indent (⟨x1.L_Width, x1.L_Height, x1.L_Turn, x1.L_Every⟩ : Gapi_Layout)) fun (r5 : (Int × Int)) => bcond ((r5.2 : Int) == 2) ( bcond ((r5.1 : Int) == 0) ( some true
) ( bcond ((r5.2 : Int) == 0) ( some (decide ((r3.2.1 : Int) ≤ r5.1))
) ( some false
)
)
) ( bcond ((r5.2 : Int) == 0) ( some (decide ((r3.2.1 : Int) ≤ r5.1))
) ( some false
)
)
)
)
)
)
)
)
)
set_option maxRecDepth 100000 in
set_option maxHeartbeats 4000000 in
theorem law30_PageLeast_fn {x1 : Glaw30_Line} {x1_h0 : Hd} {vvx10 : Value} {kx10 : Nat} {Lx10 : List Int} (hwx10 : Vw vvx10 Lx10 1 kx10 x1_h0.v x1.Cuts) {r : Bool} (h : law30_PageLeast_v x1 = some r) : FnR Try.prog 5 [.agg #[.string x1.Text, x1_h0.v, .int .i64 x1.Indent, .int .i64 x1.L_Width, .int .i64 x1.L_Height, .int .i64 x1.L_Turn, .int .i64 x1.L_Every]] [roRow (encI (.i64)) 1 vvx10 kx10 Lx10] [] (fun _ : Unit => (.bool r)) (fun _ => []) := by
 unfold law30_PageLeast_v at h
 refine FnR.intro Try.func5 rfl Try.ntmps5 (by simp) ?_
 intro w0 K hrd
 refine TC.seq (TC.region ?_)
 refine TO.box rfl dc rfl (fun b1 => ?_)
 refine TO.assign rfl dc rfl (TO.nil (TX.next (TC.seq (TC.seq (TC.region ?_)))))
 obtain ⟨r1, hq1, h⟩ := andE h
 refine TO.callP (v := .bool r1) (vs := []) rfl dc rfl rfl rfl en_6 (law30_live_fn hq1) (TO.un rfl dc rfl un_not (TO.nil (TX.next ?_)))
 refine TC.condB rfl (fun hb1 => ?_) (fun hb1 => ?_)
 ·
  have h := condT hb1 h
  refine TC.seq (TC.region (TO.assign rfl dc rfl (TO.nil (TX.next (TC.ret (TX.thenRet ?_))))))
  cases h
  exact TX.fin (rs := [.tmp 2]) () (.inl rfl) Try.results5 (.cons (.tmp rfl) .nil) rfl Splits.nil
 ·
  have h := condF hb1 h
  refine TC.skip (TX.next (TC.seq ?_))
  refine TC.drawB (β := Nat) 12 8 _ [(0, 17, .pointer (some ⟨b1, 0, none⟩)), (1, 18, .string x1.Text), (2, 19, .pointer (some ⟨b1, 1, none⟩)), (3, 20, x1_h0.v), (4, 21, .pointer (some ⟨b1, 2, none⟩)), (5, 22, .int .i64 x1.Indent), (6, 23, .pointer (some ⟨b1, 3, none⟩)), (7, 24, .agg #[.int .i64 x1.L_Width, .int .i64 x1.L_Height, .int .i64 x1.L_Turn, .int .i64 x1.L_Every]), (9, 3, .string x1.Text), (10, 4, x1_h0.v), (11, 5, .int .i64 x1.Indent)] (fun b2 => [(6, .pointer (some ⟨b2, 0, none⟩))]) (fun b2 => [cells b1 [.string x1.Text, x1_h0.v, .int .i64 x1.Indent, .int .i64 x1.L_Width, .int .i64 x1.L_Height, .int .i64 x1.L_Turn, .int .i64 x1.L_Every] 41, cells b2 [.int .i64 0, .int .i64 0, .int .i64 0, .int .i64 0] 23]) mixed kr kr rfl dc dc (by rfl) kr kr (DrawPreX.cons ?_ (DrawPreX.cons ?_ (DrawPreX.cons ?_ (DrawPreX.cons ?_ (DrawPreX.cons ?_ (DrawPreX.cons ?_ (DrawPreX.cons ?_ (DrawPreX.cons ?_ (DrawPreX.here (DrawPreX.cons ?_ (DrawPreX.cons ?_ (DrawPreX.cons ?_ DrawPreX.nil)))))))))))) (fun b2 => (DrawPreX.cons ?_ (DrawPreX.cons ?_ (DrawPreX.cons ?_ (DrawPreX.cons ?_ (DrawPreX.cons ?_ (DrawPreX.cons ?_ (DrawPreX.cons ?_ (DrawPreX.cons ?_ (DrawPreX.here (DrawPreX.cons ?_ (DrawPreX.cons ?_ (DrawPreX.cons ?_ DrawPreX.nil))))))))))))) ?_ ?_
  ·
   intro D hn hd hcl hu hi
   refine TO.fieldAddr fl_41_0 rfl dc (dl_old (by rfl) rfl) (show _ = 0 from rfl) ?_
   exact TX.quiet 0 hu hi rfl
  ·
   intro D hn hd hcl hu hi
   refine TO.load (k := 0) sc_9 rfl dc (dl_lookup (m := 0) hu rfl (hd 0 dc)) rfl rfl ?_
   exact TX.quiet 1 hu hi rfl
  ·
   intro D hn hd hcl hu hi
   refine TO.fieldAddr fl_41_1 rfl dc (dl_old (by rfl) rfl) (show _ = 1 from rfl) ?_
   exact TX.quiet 2 hu hi rfl
  ·
   intro D hn hd hcl hu hi
   refine TO.load (k := 0) sc_39 rfl dc (dl_lookup (m := 2) hu rfl (hd 2 dc)) rfl rfl ?_
   exact TX.quiet 3 hu hi rfl
  ·
   intro D hn hd hcl hu hi
   refine TO.fieldAddr fl_41_2 rfl dc (dl_old (by rfl) rfl) (show _ = 2 from rfl) ?_
   exact TX.quiet 4 hu hi rfl
  ·
   intro D hn hd hcl hu hi
   refine TO.load (k := 0) sc_3 rfl dc (dl_lookup (m := 4) hu rfl (hd 4 dc)) rfl rfl ?_
   exact TX.quiet 5 hu hi rfl
  ·
   intro D hn hd hcl hu hi
   refine TO.fieldAddr fl_41_3 rfl dc (dl_old (by rfl) rfl) (show _ = 3 from rfl) ?_
   exact TX.quiet 6 hu hi rfl
  ·
   intro D hn hd hcl hu hi
   refine TO.loads (k := 0) (cs := [.int .i64 x1.L_Width, .int .i64 x1.L_Height, .int .i64 x1.L_Turn, .int .i64 x1.L_Every]) rw_23 rfl dc (dl_lookup (m := 6) hu rfl (hd 6 dc)) rfl rfl rfl ?_
   exact TX.quiet 7 hu hi rfl
  ·
   intro D hn hd hcl hu hi
   refine TO.assign rfl dc (dl_lookup (m := 1) hu rfl (hd 1 dc)) ?_
   exact TX.quiet 8 hu hi rfl
  ·
   intro D hn hd hcl hu hi
   refine TO.assign rfl dc (dl_lookup (m := 3) hu rfl (hd 3 dc)) ?_
   exact TX.quiet 9 hu hi rfl
  ·
   intro D hn hd hcl hu hi
   refine TO.assign rfl dc (dl_lookup (m := 5) hu rfl (hd 5 dc)) ?_
   exact TX.quiet 10 hu hi rfl
  ·
   intro D hn hd hcl hu hi
   refine TO.fieldAddr fl_41_0 rfl dc (dl_old (by rfl) rfl) (show _ = 0 from rfl) ?_
   exact TX.quiet 0 hu hi rfl
  ·
   intro D hn hd hcl hu hi
   refine TO.load (k := 0) sc_9 rfl dc (dl_lookup (m := 0) hu rfl (hd 0 dc)) rfl rfl ?_
   exact TX.quiet 1 hu hi rfl
  ·
   intro D hn hd hcl hu hi
   refine TO.fieldAddr fl_41_1 rfl dc (dl_old (by rfl) rfl) (show _ = 1 from rfl) ?_
   exact TX.quiet 2 hu hi rfl
  ·
   intro D hn hd hcl hu hi
   refine TO.load (k := 0) sc_39 rfl dc (dl_lookup (m := 2) hu rfl (hd 2 dc)) rfl rfl ?_
   exact TX.quiet 3 hu hi rfl
  ·
   intro D hn hd hcl hu hi
   refine TO.fieldAddr fl_41_2 rfl dc (dl_old (by rfl) rfl) (show _ = 2 from rfl) ?_
   exact TX.quiet 4 hu hi rfl
  ·
   intro D hn hd hcl hu hi
   refine TO.load (k := 0) sc_3 rfl dc (dl_lookup (m := 4) hu rfl (hd 4 dc)) rfl rfl ?_
   exact TX.quiet 5 hu hi rfl
  ·
   intro D hn hd hcl hu hi
   refine TO.fieldAddr fl_41_3 rfl dc (dl_old (by rfl) rfl) (show _ = 3 from rfl) ?_
   exact TX.quiet 6 hu hi rfl
  ·
   intro D hn hd hcl hu hi
   refine TO.loads (k := 0) (cs := [.int .i64 x1.L_Width, .int .i64 x1.L_Height, .int .i64 x1.L_Turn, .int .i64 x1.L_Every]) rw_23 rfl dc (dl_lookup (m := 6) hu rfl (hd 6 dc)) rfl rfl rfl ?_
   exact TX.quiet 7 hu hi rfl
  ·
   intro D hn hd hcl hu hi
   refine TO.assign rfl dc (dl_lookup (m := 1) hu rfl (hd 1 dc)) ?_
   exact TX.quiet 8 hu hi rfl
  ·
   intro D hn hd hcl hu hi
   refine TO.assign rfl dc (dl_lookup (m := 3) hu rfl (hd 3 dc)) ?_
   exact TX.quiet 9 hu hi rfl
  ·
   intro D hn hd hcl hu hi
   refine TO.assign rfl dc (dl_lookup (m := 5) hu rfl (hd 5 dc)) ?_
   exact TX.quiet 10 hu hi rfl
  ·
   intro D hn hd hcl
   refine TO.alloc zr_23 rfl dc (fun b2 => ?_)
   show TO _ _ _ _ _ _ _ _ _ _ [cells b1 [.string x1.Text, x1_h0.v, .int .i64 x1.Indent, .int .i64 x1.L_Width, .int .i64 x1.L_Height, .int .i64 x1.L_Turn, .int .i64 x1.L_Every] 41, cells b2 [.int .i64 0, .int .i64 0, .int .i64 0, .int .i64 0] 23]
   exact fun a w ha hw => ⟨b2, Sbs.mid (by rfl) _ _ _ ha, hw⟩
  intro b2
  show TO _ _ _ _ _ _ _ _ _ _ [cells b1 [.string x1.Text, x1_h0.v, .int .i64 x1.Indent, .int .i64 x1.L_Width, .int .i64 x1.L_Height, .int .i64 x1.L_Turn, .int .i64 x1.L_Every] 41, cells b2 [.int .i64 0, .int .i64 0, .int .i64 0, .int .i64 0] 23]
  refine TO.stores (k := 1) (vs := [.int .i64 x1.L_Width, .int .i64 x1.L_Height, .int .i64 x1.L_Turn, .int .i64 x1.L_Every]) (l' := [.int .i64 x1.L_Width, .int .i64 x1.L_Height, .int .i64 x1.L_Turn, .int .i64 x1.L_Every]) sz_23 rfl rfl rfl rfl rfl (show _ ≤ _ by simp) rfl rfl (TO.nil (TX.next (TC.seq (TC.seq (TC.region (TO.move rfl dc rfl (TO.lenStr rfl dc rfl Try.underlying9 (TO.bin rfl dc rfl rfl bin_gtr (TO.move rfl dc rfl ?_)))))))))
  refine TO.split (s := 28) rfl (fun hb2 => ?_) (fun hb2 => ?_)
  ·
   have h := condT hb2 h
   refine TO.skip rfl dc (TO.skip rfl dc (TO.skip rfl dc (TO.skip rfl dc (TO.skip rfl dc (TO.skip rfl dc (TO.pick (b := true) rfl dc rfl rfl (TO.nil (TX.next (TC.condT rfl (TC.seq (TC.region (TO.assign rfl dc rfl (TO.nil ?_)))))))))))))
   refine TX.next (TC.ret (TX.thenRet ?_))
   cases h
   exact TX.fin (rs := [.tmp 2]) () (.inl rfl) Try.results5 (.cons (.tmp rfl) .nil) rfl Splits.nil
  ·
   have h := condF hb2 h
   refine TO.move rfl dc rfl (TO.lenStr rfl dc rfl Try.underlying9 (TO.move rfl dc rfl (TO.loads (k := 1) (cs := [.int .i64 x1.L_Width, .int .i64 x1.L_Height, .int .i64 x1.L_Turn, .int .i64 x1.L_Every]) rw_23 rfl dc rfl rfl rfl rfl ?_)))
   obtain ⟨r2, hq2, h⟩ := andE h
   refine TO.callP (v := .bool r2) (vs := [.int .i64 (x1.Text.size : Int), .int .i64 x1.Indent, .agg #[.int .i64 x1.L_Width, .int .i64 x1.L_Height, .int .i64 x1.L_Turn, .int .i64 x1.L_Every]]) rfl dc rfl rfl rfl en_8 (law30_fine_fn (l1 := (⟨x1.L_Width, x1.L_Height, x1.L_Turn, x1.L_Every⟩ : Gapi_Layout)) hq2) (TO.un rfl dc rfl un_not (TO.pick (b := false) rfl dc rfl rfl (TO.nil (TX.next ?_))))
   refine TC.condB rfl (fun hb3 => ?_) (fun hb3 => ?_)
   ·
    have h := condT hb3 h
    refine TC.seq (TC.region (TO.assign rfl dc rfl (TO.nil (TX.next (TC.ret (TX.thenRet ?_))))))
    cases h
    exact TX.fin (rs := [.tmp 2]) () (.inl rfl) Try.results5 (.cons (.tmp rfl) .nil) rfl Splits.nil
   ·
    have h := condF hb3 h
    refine TC.skip (TX.next (TC.seq (TC.region (TO.move rfl dc rfl (TO.move rfl dc rfl (TO.loads (k := 1) (cs := [.int .i64 x1.L_Width, .int .i64 x1.L_Height, .int .i64 x1.L_Turn, .int .i64 x1.L_Every]) rw_23 rfl dc rfl rfl rfl rfl ?_))))))
    obtain ⟨r3, hq3, h⟩ := andE h
    refine TO.call (vs := [.string x1.Text, .int .i64 x1.Indent, .agg #[.int .i64 x1.L_Width, .int .i64 x1.L_Height, .int .i64 x1.L_Turn, .int .i64 x1.L_Every]]) rfl dc rfl rfl rfl en_7 (page_Turn_fn (l1 := (⟨x1.L_Width, x1.L_Height, x1.L_Turn, x1.L_Every⟩ : Gapi_Layout)) hq3) Splits.nil ?_
    rintro v1
    show TO _ _ _ _ _ _ _ _ _ _ [cells b1 [.string x1.Text, x1_h0.v, .int .i64 x1.Indent, .int .i64 x1.L_Width, .int .i64 x1.L_Height, .int .i64 x1.L_Turn, .int .i64 x1.L_Every] 41, cells b2 [.int .i64 x1.L_Width, .int .i64 x1.L_Height, .int .i64 x1.L_Turn, .int .i64 x1.L_Every] 23, vec encS 9 1 v1 r3.1]
    refine TO.weakenL (L' := [cells b1 [.string x1.Text, x1_h0.v, .int .i64 x1.Indent, .int .i64 x1.L_Width, .int .i64 x1.L_Height, .int .i64 x1.L_Turn, .int .i64 x1.L_Every] 41, cells b2 [.int .i64 x1.L_Width, .int .i64 x1.L_Height, .int .i64 x1.L_Turn, .int .i64 x1.L_Every] 23, vec encS 9 1 v1 r3.1]) (Splits.of [0, 1, 2] kr rfl) ?_
    refine TO.nameHd (k := 2) rfl (fun hd1 he1 => ?_)
    subst he1
    refine TO.move rfl dc rfl (TO.extract rfl dc rfl rfl (TO.extract rfl dc rfl rfl (TO.extract rfl dc rfl rfl (TO.assign rfl dc rfl (TO.assign rfl dc rfl (TO.assign rfl dc rfl (TO.nil (TX.next (TC.seq (TC.seq (TC.region (TO.move rfl dc rfl (TO.bin rfl dc rfl rfl bin_neq ?_)))))))))))))
    refine TO.move rfl dc rfl ?_
    refine TO.split (s := 46) rfl (fun hb4 => ?_) (fun hb4 => ?_)
    ·
     have h := condT hb4 h
     refine TO.skip rfl dc (TO.skip rfl dc (TO.pick (b := true) rfl dc rfl rfl (TO.nil (TX.next (TC.condT rfl (TC.seq (TC.region (TO.assign rfl dc rfl (TO.nil (TX.next (TC.ret (TX.thenRet ?_))))))))))))
     cases h
     exact TX.fin (rs := [.tmp 2]) () (.inl rfl) Try.results5 (.cons (.tmp rfl) .nil) rfl Splits.nil
    ·
     have h := condF hb4 h
     obtain ⟨r4, hq4, h⟩ := andE h
     refine TO.callP (v := .bool r4) (vs := []) rfl dc rfl rfl rfl en_6 (law30_live_fn hq4) (TO.un rfl dc rfl un_not (TO.pick (b := false) rfl dc rfl rfl (TO.nil (TX.next ?_))))
     refine TC.condB rfl (fun hb5 => ?_) (fun hb5 => ?_)
     ·
      have h := condT hb5 h
      refine TC.seq (TC.region (TO.assign rfl dc rfl (TO.nil (TX.next (TC.ret (TX.thenRet ?_))))))
      cases h
      exact TX.fin (rs := [.tmp 2]) () (.inl rfl) Try.results5 (.cons (.tmp rfl) .nil) rfl Splits.nil
     ·
      have h := condF hb5 h
      refine TC.skip (TX.next ?_)
      obtain ⟨j1, hj1, h⟩ := joinE h
      refine TC.cutN (β := (List ByteArray) × Int × Hd) 2 rfl (fun b => j1 b.1 b.2.1 = some r) (fun b => []) (fun b => [(3, .string x1.Text), (5, .int .i64 x1.Indent), (6, .pointer (some ⟨b2, 0, none⟩)), (8, .int .i64 r3.2.1), (10, b.2.2.v), (11, .int .i64 b.2.1)]) (fun b => [cells b2 [.int .i64 x1.L_Width, .int .i64 x1.L_Height, .int .i64 x1.L_Turn, .int .i64 x1.L_Every] 23, vec encS 9 1 b.2.2.v b.1]) (fun cut => ?_) ?_
      ·
       refine TC.seq (TC.region (TO.assign rfl dc rfl (TO.nil (TX.next (TC.seq (TC.region (TO.assign rfl dc rfl (TO.nil (TX.next (cut (TC.seq (TC.region (TO.assign rfl dc rfl ?_)))))))))))))
       refine TO.nil (TX.next (TC.block (TC.newVec (enc := encS) (e := 9) (size := 1) ?_)))
       show TC _ _ _ _ _ _ _ _ _ [cells b1 [.string x1.Text, x1_h0.v, .int .i64 x1.Indent, .int .i64 x1.L_Width, .int .i64 x1.L_Height, .int .i64 x1.L_Turn, .int .i64 x1.L_Every] 41, cells b2 [.int .i64 x1.L_Width, .int .i64 x1.L_Height, .int .i64 x1.L_Turn, .int .i64 x1.L_Every] 23, vec encS 9 1 hd1.v r3.1, vec encS 9 1 (.slice none 0 0) ([] : List ByteArray)]
       refine TC.loopD (β := Nat × (List ByteArray) × Int × Int × Hd) (fun b => loopG (fun _ _ _ => none) (law30_PageLeast_s1 x1 j1) b.1 b.2.1 b.2.2.1 b.2.2.2.1 = some r) (fun b => []) (fun b => [(3, .string x1.Text), (4, x1_h0.v), (5, .int .i64 x1.Indent), (6, .pointer (some ⟨b2, 0, none⟩)), (8, .int .i64 r3.2.1), (10, b.2.2.2.2.v), (11, .int .i64 b.2.2.1), (12, .int .i64 b.2.2.2.1)]) (fun b => [cells b2 [.int .i64 x1.L_Width, .int .i64 x1.L_Height, .int .i64 x1.L_Turn, .int .i64 x1.L_Every] 23, vec encS 9 1 b.2.2.2.2.v b.2.1]) (fun b => b.1) (fuel, ([] : List ByteArray), 0, 0, Hd.nil) h rfl (Sbs.cons rfl (Sbs.cons rfl (Sbs.cons rfl (Sbs.cons rfl (Sbs.cons rfl (Sbs.cons rfl (Sbs.cons rfl (Sbs.cons rfl (Sbs.nil))))))))) (Splits.of [1, 3] kr rfl) ?_
       rintro ⟨n1, rows4, from4, i3, hd5⟩ h
       cases n1 with
       | zero => exact noneE h
       | succ n1 =>
        obtain ⟨ag1, hag1⟩ : ∃ ag, ag = loopG (fun _ _ _ => none) (law30_PageLeast_s1 x1 j1) n1 := ⟨_, rfl⟩
        have h : law30_PageLeast_s1 x1 j1 ag1 rows4 from4 i3 = some r := by rw [hag1]; exact h
        unfold law30_PageLeast_s1 at h
        show TC _ _ _ _ _ ([]) _ _ [(3, .string x1.Text), (4, x1_h0.v), (5, .int .i64 x1.Indent), (6, .pointer (some ⟨b2, 0, none⟩)), (8, .int .i64 r3.2.1), (10, hd5.v), (11, .int .i64 from4), (12, .int .i64 i3)] [cells b2 [.int .i64 x1.L_Width, .int .i64 x1.L_Height, .int .i64 x1.L_Turn, .int .i64 x1.L_Every] 23, vec encS 9 1 hd5.v rows4]
        refine TC.seq (TC.seq (TC.region (TO.move rfl dc rfl (TO.move rfl dc rfl (TO.lenVw hwx10 rfl dc rfl Try.underlying39 (TO.bin rfl dc rfl rfl bin_lss (TO.nil (TX.next ?_))))))))
        refine TC.condB rfl (fun hb6 => ?_) (fun hb6 => ?_)
        ·
         have h := condT hb6 h
         refine TC.skip (TX.next ?_)
         obtain ⟨j2, hj2, h⟩ := joinE h
         refine TC.cutN (β := (List ByteArray) × Int × Hd) 0 rfl (fun b => j2 b.1 b.2.1 = some r) (fun b => []) (fun b => [(3, .string x1.Text), (4, x1_h0.v), (5, .int .i64 x1.Indent), (6, .pointer (some ⟨b2, 0, none⟩)), (8, .int .i64 r3.2.1), (10, b.2.2.v), (11, .int .i64 b.2.1), (12, .int .i64 i3)]) (fun b => [cells b2 [.int .i64 x1.L_Width, .int .i64 x1.L_Height, .int .i64 x1.L_Turn, .int .i64 x1.L_Every] 23, vec encS 9 1 b.2.2.v b.1]) (fun cut => ?_) ?_
         ·
          refine cut (TC.block (TC.seq (TC.region (TO.move rfl dc rfl (TO.move rfl dc rfl ?_)))))
          obtain ⟨q1, hq5, h⟩ := andE h
          refine TO.indexVw hwx10 hq5 Try.underlying39 sz_3 rfl dc rfl rfl rfl (TO.loadRowRd (n := kx10 + (i3 : Int).toNat) (j := 0) (i := 0) (q := q1) hrd rfl (Nat.le_add_right _ _) sc_3 rfl dc rfl (Vw.get hwx10 hq5) rfl rfl (TO.move rfl dc rfl (TO.bin rfl dc rfl rfl bin_gtr (TO.move rfl dc rfl ?_))))
          refine TO.split (s := 62) rfl (fun hb7 => ?_) (fun hb7 => ?_)
          ·
           have h := condT hb7 h
           refine TO.move rfl dc rfl (TO.move rfl dc rfl (TO.indexVw hwx10 hq5 Try.underlying39 sz_3 rfl dc rfl rfl rfl (TO.loadRowRd (n := kx10 + (i3 : Int).toNat) (j := 0) (i := 0) (q := q1) hrd rfl (Nat.le_add_right _ _) sc_3 rfl dc rfl (Vw.get hwx10 hq5) rfl rfl (TO.move rfl dc rfl (TO.lenStr rfl dc rfl Try.underlying9 (TO.bin rfl dc rfl rfl bin_lss (TO.pick (b := true) rfl dc rfl rfl (TO.nil (TX.next ?_)))))))))
           refine TC.condB rfl (fun hb8 => ?_) (fun hb8 => ?_)
           ·
            have h := condT hb8 h
            refine TC.seq (TC.region (TO.move rfl dc rfl (TO.move rfl dc rfl (TO.move rfl dc rfl (TO.move rfl dc rfl (TO.move rfl dc rfl ?_))))))
            obtain ⟨q2, hq6, h⟩ := andE h
            refine TO.indexVw hwx10 hq6 Try.underlying39 sz_3 rfl dc rfl rfl rfl (TO.loadRowRd (n := kx10 + (i3 : Int).toNat) (j := 0) (i := 0) (q := q2) hrd rfl (Nat.le_add_right _ _) sc_3 rfl dc rfl (Vw.get hwx10 hq6) rfl rfl ?_)
            obtain ⟨hg1, h⟩ := grdE h
            refine TO.slice rfl dc rfl rfl rfl (slice_stringI (i := from4) (j := q2) Try.underlying9 (.inr rfl) (.inr rfl) hg1) ?_
            refine TO.buildSlice (cs := [.string (cutB x1.Text from4 q2)]) (te := 9) (ps := [(0, .tmp 78)]) rfl dc rfl (fun _ => by kernel_rfl) (fun b3 => ?_)
            obtain ⟨hg2, h⟩ := grdE h
            refine TO.appendVec (k := 1) (k2 := 2) (ys := [cutB x1.Text from4 q2]) Try.underlying25 el_9 encS_len encS_one rfl dc rfl rfl rfl rfl rfl rfl hg2 (fun v2 => ?_)
            refine TO.nameHd (k := 1) rfl (fun hd7 he2 => ?_)
            subst he2
            show TO _ _ _ _ _ _ _ _ _ _ [cells b2 [.int .i64 x1.L_Width, .int .i64 x1.L_Height, .int .i64 x1.L_Turn, .int .i64 x1.L_Every] 23, vec encS 9 1 hd7.v (rows4 ++ [cutB x1.Text from4 q2]), cells b3 [.string (cutB x1.Text from4 q2)] 9]
            refine TO.assign rfl dc rfl (TO.nil (TX.next (TC.region (TO.move rfl dc rfl (TO.move rfl dc rfl ?_)))))
            obtain ⟨q3, hq7, h⟩ := andE h
            refine TO.indexVw hwx10 hq7 Try.underlying39 sz_3 rfl dc rfl rfl rfl (TO.loadRowRd (n := kx10 + (i3 : Int).toNat) (j := 0) (i := 0) (q := q3) hrd rfl (Nat.le_add_right _ _) sc_3 rfl dc rfl (Vw.get hwx10 hq7) rfl rfl (TO.assign rfl dc rfl (TO.nil (TX.blockNormal ?_))))
            exact TX.meetD (rows4 ++ [cutB x1.Text from4 q2], q3, hd7) h rfl (Sbs.cons rfl (Sbs.cons rfl (Sbs.cons rfl (Sbs.cons rfl (Sbs.cons rfl (Sbs.cons rfl (Sbs.cons rfl (Sbs.cons rfl (Sbs.nil))))))))) (Splits.of [0, 1] kr rfl)
           ·
            have h := condF hb8 h
            refine TC.skip (TX.blockNormal ?_)
            exact TX.meetD (rows4, from4, hd5) h rfl (Sbs.cons rfl (Sbs.cons rfl (Sbs.cons rfl (Sbs.cons rfl (Sbs.cons rfl (Sbs.cons rfl (Sbs.cons rfl (Sbs.cons rfl (Sbs.nil))))))))) (Splits.of [0, 1] kr rfl)
          ·
           have h := condF hb7 h
           refine TO.skip rfl dc (TO.skip rfl dc (TO.skip rfl dc (TO.skip rfl dc (TO.skip rfl dc (TO.skip rfl dc (TO.skip rfl dc (TO.pick (b := false) rfl dc rfl rfl (TO.nil (TX.next (TC.condF rfl (TC.skip (TX.blockNormal ?_))))))))))))
           exact TX.meetD (rows4, from4, hd5) h rfl (Sbs.cons rfl (Sbs.cons rfl (Sbs.cons rfl (Sbs.cons rfl (Sbs.cons rfl (Sbs.cons rfl (Sbs.cons rfl (Sbs.cons rfl (Sbs.nil))))))))) (Splits.of [0, 1] kr rfl)
         ·
          rintro ⟨rows5, from5, hd6⟩ h
          rw [hj2] at h
          show TC _ _ _ _ _ ([]) _ _ [(3, .string x1.Text), (4, x1_h0.v), (5, .int .i64 x1.Indent), (6, .pointer (some ⟨b2, 0, none⟩)), (8, .int .i64 r3.2.1), (10, hd6.v), (11, .int .i64 from5), (12, .int .i64 i3)] [cells b2 [.int .i64 x1.L_Width, .int .i64 x1.L_Height, .int .i64 x1.L_Turn, .int .i64 x1.L_Every] 23, vec encS 9 1 hd6.v rows5]
          refine TC.region (TO.move rfl dc rfl ?_)
          obtain ⟨hg3, h⟩ := grdE h
          refine TO.bin rfl dc rfl rfl (bin_add (r := i3 + 1) (IntWalk.i64_in _ hg3)) (TO.assign rfl dc rfl (TO.nil ?_))
          subst hag1
          exact TX.againD (n1, rows5, from5, i3 + 1, hd6) h (Nat.lt_succ_self _) rfl (Sbs.cons rfl (Sbs.cons rfl (Sbs.cons rfl (Sbs.cons rfl (Sbs.cons rfl (Sbs.cons rfl (Sbs.cons rfl (Sbs.cons rfl (Sbs.nil))))))))) (Splits.of [0, 1] kr rfl)
        ·
         have h := condF hb6 h
         refine TC.exit (TX.thenExit (TX.thenExit (TX.blockHere ?_)))
         exact TX.meetD (rows4, from4, hd5) h rfl (Sbs.cons rfl (Sbs.cons rfl (Sbs.cons rfl (Sbs.cons rfl (Sbs.cons rfl (Sbs.cons rfl (Sbs.nil))))))) (Splits.of [0, 1] kr rfl)
      ·
       rintro ⟨rows1, from1, hd2⟩ h
       rw [hj1] at h
       show TC _ _ _ _ _ ([]) _ _ [(3, .string x1.Text), (5, .int .i64 x1.Indent), (6, .pointer (some ⟨b2, 0, none⟩)), (8, .int .i64 r3.2.1), (10, hd2.v), (11, .int .i64 from1)] [cells b2 [.int .i64 x1.L_Width, .int .i64 x1.L_Height, .int .i64 x1.L_Turn, .int .i64 x1.L_Every] 23, vec encS 9 1 hd2.v rows1]
       obtain ⟨j3, hj3, h⟩ := joinE h
       refine TC.cutN (β := (List ByteArray) × Hd) 0 rfl (fun b => j3 b.1 = some r) (fun b => []) (fun b => [(5, .int .i64 x1.Indent), (6, .pointer (some ⟨b2, 0, none⟩)), (8, .int .i64 r3.2.1), (10, b.2.v)]) (fun b => [cells b2 [.int .i64 x1.L_Width, .int .i64 x1.L_Height, .int .i64 x1.L_Turn, .int .i64 x1.L_Every] 23, vec encS 9 1 b.2.v b.1]) (fun cut => ?_) ?_
       ·
        refine cut (TC.seq (TC.region (TO.move rfl dc rfl (TO.move rfl dc rfl (TO.lenStr rfl dc rfl Try.underlying9 (TO.bin rfl dc rfl rfl bin_lss (TO.nil (TX.next ?_))))))))
        refine TC.condB rfl (fun hb9 => ?_) (fun hb9 => ?_)
        ·
         have h := condT hb9 h
         refine TC.region (TO.move rfl dc rfl (TO.move rfl dc rfl (TO.move rfl dc rfl ?_)))
         obtain ⟨hg4, h⟩ := grdE h
         refine TO.slice rfl dc rfl rfl rfl (slice_stringI (i := from1) (j := (x1.Text.size : Int)) Try.underlying9 (.inr rfl) (.inl ⟨rfl, rfl⟩) hg4) ?_
         refine TO.buildSlice (cs := [.string (cutB x1.Text from1 (x1.Text.size : Int))]) (te := 9) (ps := [(0, .tmp 92)]) rfl dc rfl (fun _ => by kernel_rfl) (fun b4 => ?_)
         obtain ⟨hg5, h⟩ := grdE h
         refine TO.appendVec (k := 1) (k2 := 2) (ys := [cutB x1.Text from1 (x1.Text.size : Int)]) Try.underlying25 el_9 encS_len encS_one rfl dc rfl rfl rfl rfl rfl rfl hg5 (fun v3 => ?_)
         refine TO.nameHd (k := 1) rfl (fun hd9 he3 => ?_)
         subst he3
         show TO _ _ _ _ _ _ _ _ _ _ [cells b2 [.int .i64 x1.L_Width, .int .i64 x1.L_Height, .int .i64 x1.L_Turn, .int .i64 x1.L_Every] 23, vec encS 9 1 hd9.v (rows1 ++ [cutB x1.Text from1 (x1.Text.size : Int)]), cells b4 [.string (cutB x1.Text from1 (x1.Text.size : Int))] 9]
         refine TO.assign rfl dc rfl (TO.nil ?_)
         exact TX.meetD (rows1 ++ [cutB x1.Text from1 (x1.Text.size : Int)], hd9) h rfl (Sbs.cons rfl (Sbs.cons rfl (Sbs.cons rfl (Sbs.cons rfl (Sbs.nil))))) (Splits.of [0, 1] kr rfl)
        ·
         have h := condF hb9 h
         refine TC.skip ?_
         exact TX.meetD (rows1, hd2) h rfl (Sbs.cons rfl (Sbs.cons rfl (Sbs.cons rfl (Sbs.cons rfl (Sbs.nil))))) (Splits.of [0, 1] kr rfl)
       ·
        rintro ⟨rows6, hd8⟩ h
        rw [hj3] at h
        show TC _ _ _ _ _ ([]) _ _ [(5, .int .i64 x1.Indent), (6, .pointer (some ⟨b2, 0, none⟩)), (8, .int .i64 r3.2.1), (10, hd8.v)] [cells b2 [.int .i64 x1.L_Width, .int .i64 x1.L_Height, .int .i64 x1.L_Turn, .int .i64 x1.L_Every] 23, vec encS 9 1 hd8.v rows6]
        refine TC.seq (TC.region (TO.move rfl dc rfl (TO.move rfl dc rfl (TO.loads (k := 0) (cs := [.int .i64 x1.L_Width, .int .i64 x1.L_Height, .int .i64 x1.L_Turn, .int .i64 x1.L_Every]) rw_23 rfl dc rfl rfl rfl rfl ?_))))
        refine TO.vecVw (k := 1) rfl (fun hw1 => ?_)
        obtain ⟨r5, hq8, h⟩ := andE h
        refine TO.callK (v := .tuple #[.int .i64 r5.1, .int .i64 r5.2]) (vs := [hd8.v, .int .i64 x1.Indent, .agg #[.int .i64 x1.L_Width, .int .i64 x1.L_Height, .int .i64 x1.L_Turn, .int .i64 x1.L_Every]]) rfl dc rfl rfl rfl en_11 (page_Cost_fn (l1 := (⟨x1.L_Width, x1.L_Height, x1.L_Turn, x1.L_Every⟩ : Gapi_Layout)) hw1 hq8) [1] kr rfl (TO.move rfl dc rfl (TO.extract rfl dc rfl rfl (TO.extract rfl dc rfl rfl (TO.assign rfl dc rfl (TO.assign rfl dc rfl (TO.nil (TX.next (TC.seq (TC.region (TO.move rfl dc rfl (TO.bin rfl dc rfl rfl bin_eql (TO.move rfl dc rfl ?_))))))))))))
        refine TO.split (s := 104) rfl (fun hb10 => ?_) (fun hb10 => ?_)
        ·
         have h := condT hb10 h
         refine TO.move rfl dc rfl (TO.bin rfl dc rfl rfl bin_eql (TO.pick (b := true) rfl dc rfl rfl (TO.move rfl dc rfl ?_)))
         refine TO.split (s := 108) rfl (fun hb11 => ?_) (fun hb11 => ?_)
         ·
          have h := condT hb11 h
          refine TO.skip rfl dc (TO.skip rfl dc (TO.skip rfl dc (TO.skip rfl dc (TO.skip rfl dc (TO.skip rfl dc (TO.skip rfl dc (TO.pick (b := true) rfl dc rfl rfl (TO.assign rfl dc rfl (TO.nil (TX.next (TC.ret ?_)))))))))))
          cases h
          exact TX.fin (rs := [.tmp 2]) () (.inl rfl) Try.results5 (.cons (.tmp rfl) .nil) rfl Splits.nil
         ·
          have h := condF hb11 h
          refine TO.move rfl dc rfl (TO.bin rfl dc rfl rfl bin_eql (TO.move rfl dc rfl ?_))
          refine TO.split (s := 111) rfl (fun hb12 => ?_) (fun hb12 => ?_)
          ·
           have h := condT hb12 h
           refine TO.move rfl dc rfl (TO.move rfl dc rfl (TO.bin rfl dc rfl rfl bin_geq (TO.pick (b := true) rfl dc rfl rfl (TO.pick (b := false) rfl dc rfl rfl (TO.assign rfl dc rfl (TO.nil (TX.next (TC.ret ?_))))))))
           cases h
           exact TX.fin (rs := [.tmp 2]) () (.inl rfl) Try.results5 (.cons (.tmp rfl) .nil) rfl Splits.nil
          ·
           have h := condF hb12 h
           refine TO.skip rfl dc (TO.skip rfl dc (TO.skip rfl dc (TO.pick (b := false) rfl dc rfl rfl (TO.pick (b := false) rfl dc rfl rfl (TO.assign rfl dc rfl (TO.nil (TX.next (TC.ret ?_))))))))
           cases h
           exact TX.fin (rs := [.tmp 2]) () (.inl rfl) Try.results5 (.cons (.tmp rfl) .nil) rfl Splits.nil
        ·
         have h := condF hb10 h
         refine TO.skip rfl dc (TO.skip rfl dc (TO.pick (b := false) rfl dc rfl rfl (TO.move rfl dc rfl (TO.move rfl dc rfl (TO.bin rfl dc rfl rfl bin_eql (TO.move rfl dc rfl ?_))))))
         refine TO.split (s := 111) rfl (fun hb13 => ?_) (fun hb13 => ?_)
         ·
          have h := condT hb13 h
          refine TO.move rfl dc rfl (TO.move rfl dc rfl (TO.bin rfl dc rfl rfl bin_geq (TO.pick (b := true) rfl dc rfl rfl (TO.pick (b := false) rfl dc rfl rfl (TO.assign rfl dc rfl (TO.nil (TX.next (TC.ret ?_))))))))
          cases h
          exact TX.fin (rs := [.tmp 2]) () (.inl rfl) Try.results5 (.cons (.tmp rfl) .nil) rfl Splits.nil
         ·
          have h := condF hb13 h
          refine TO.skip rfl dc (TO.skip rfl dc (TO.skip rfl dc (TO.pick (b := false) rfl dc rfl rfl (TO.pick (b := false) rfl dc rfl rfl (TO.assign rfl dc rfl (TO.nil (TX.next (TC.ret ?_))))))))
          cases h
          exact TX.fin (rs := [.tmp 2]) () (.inl rfl) Try.results5 (.cons (.tmp rfl) .nil) rfl Splits.nil
end Go.Proofs.Ytnhdnpdbmgeheaa
namespace Go.Proofs.Ytnhdnpdbmgeheaa
open Go.RowKit Go.Lib Go.ChangeShapes Go.WideShapes
set_option linter.unusedVariables false
set_option linter.unusedSimpArgs false
theorem FnR.p {P : Program} {f : FuncId} {vs : List Value} {RD : List Asn} {v : Value} (h : FnR P f vs RD [] (fun _ : Unit => v) (fun _ => [])) (w : World) (hr : Rd w (fun _ => False) RD) : Calls P f vs.toArray w fun e w' => e = .returned v ∧ Below w.heap.size w w' :=
  (h w (fun _ => False) hr (fun _ h => h)).mono fun e w' ⟨_, h1, C', h2, h3⟩ => ⟨h1, h3.toBelow (Nat.le_refl _) (fun _ _ h => h)⟩
theorem cell_lt {w : World} {b j : Nat} {v : Value} (h : w.cell? ⟨b, j, none⟩ = some v) : b < w.heap.size := by
  rcases Nat.lt_or_ge b w.heap.size with h1 | h1
  · exact h1
  · have : w.heap[b]? = none := Array.getElem?_eq_none h1
    simp [World.cell?, this] at h
/-- A slice that can be read can be read. -/
theorem see_row {α : Type} {enc : α → List Value} {m : α → Value} (hm : ∀ x, enc x = [m x]) {w : World} {a : Addr} {ys : List α} {cap : Nat} (hl : ys.length ≤ cap) (hc : ∀ i y, ys[i]? = some y → w.cell? (a.add i) = some (m y)) :
    ∃ vv k L, Vw vv L 1 k (.slice (some a) ys.length cap) ys ∧ (roRow enc 1 vv k L).P (fun b => b < w.heap.size) w := by
  cases ys with
  | nil =>
    refine ⟨.slice none 0 0, 0, [], ⟨Nat.le_refl _, rfl, _, _, rfl, hl, fun h => absurd rfl h⟩, fun b hb => hb, fun i x j v hi hx => by simp at hx⟩
  | cons y ys =>
    obtain ⟨b, off, spot⟩ := a
    have hspot : spot = none := by simpa [Addr.add] using World.cell?_spot (hc 0 y rfl)
    subst hspot
    refine ⟨.slice (some ⟨b, 0, none⟩) 0 0, off, List.replicate off y ++ (y :: ys), ⟨by simp, ?_, _, _, rfl, hl, fun _ => by simp [vblk]⟩, fun b hb => hb, fun i x j v hi hx hv => ?_⟩
    · rw [List.drop_left' (by simp), List.take_length]
    · rw [List.getElem?_append_right (by simpa using hi), List.length_replicate] at hx
      have h1 := hc _ _ hx
      rw [add_plain, show off + (i - off) = i by omega] at h1
      rw [hm] at hv
      have hj : j = 0 := by
        cases j with
        | zero => rfl
        | succ j => simp at hv
      subst hj
      have hv' : m x = v := by simpa using hv
      subst hv'
      show b < w.heap.size ∧ w.cell? ⟨b, i * 1 + 0, none⟩ = some (m x)
      rw [Nat.mul_one, Nat.add_zero]
      exact ⟨cell_lt h1, h1⟩
section
variable {H : Type} {enc : TypeId × Value → H} {P : Program} {w : World} {base : Nat} {held : Bool} {fuel : Nat} {t e : TypeId} {cs : List Value} {x : DataW H × List MemPlace}
theorem see_ints {q : IntKind} (ht : P.underlying t = some (.slice e)) (he : P.underlying e = some (.int q)) (hc : P.cellsOf e = 1) (h : DataW.trod enc P w base (fun _ => true) held fuel t cs = some x) :
    ∃ (hd : Hd) (zs : List Int) (vv : Value) (k : Nat) (L : List Int), cs = [hd.v] ∧ Vw vv L 1 k hd.v zs ∧ (roRow (encI q) 1 vv k L).P (fun b => b < w.heap.size) w ∧ (∀ n ∈ zs, (Lit.int q n).wf = true) ∧ ((x.1 = .nil ∧ zs = []) ∨ ∃ A B, x.1 = .slice A B ∧ A.length = zs.length) := by
  rcases open_ints ht he hc h with ⟨rfl, rfl⟩ | ⟨a, len, cap, zs, rfl, hb, hl, hm, hz, rfl, hcell, hw⟩
  · exact ⟨Hd.nil, [], .slice none 0 0, 0, [], rfl, ⟨Nat.le_refl _, rfl, none, 0, rfl, Nat.le_refl _, fun h => absurd rfl h⟩, ⟨fun b hb => hb, fun i x j v hi hx => by simp at hx⟩, fun n hn => (by cases hn), .inl ⟨rfl, rfl⟩⟩
  · rw [if_pos rfl] at hz
    have hlen : (zs.take len).length = len := by rw [List.length_take]; omega
    have hr := see_row (enc := encI q) (m := fun x => .int q x) (fun _ => rfl) (w := w) (a := a) (ys := zs.take len) (cap := cap) (by omega) (fun i y hy => by
      rw [List.getElem?_take] at hy
      split at hy
      · have hi : i < zs.length := (List.getElem?_eq_some_iff.1 hy).1
        rw [hcell i hi, List.getD, hy]; rfl
      · cases hy)
    obtain ⟨vv, k, L, h1, h2⟩ := hr
    rw [hlen] at h1
    exact ⟨⟨some a, len, cap⟩, zs.take len, vv, k, L, rfl, h1, h2, fun n hn => hw n (List.mem_of_mem_take hn), .inr ⟨_, _, rfl, by simp [lits]⟩⟩
/-- A record of four whole numbers. -/
theorem see_four {q : IntKind} {fs : Array Field} (ht : P.underlying t = some (.struct fs)) (hfs : fs.toList.map (fun f => (f.type, f.offset)) = [(e, 0), (e, 1), (e, 2), (e, 3)]) (hsz : P.cellsOf t = 4) (h1 : P.cellsOf e = 1) (he : P.underlying e = some (.int q)) {sp : Nat → Bool} (h : DataW.trod enc P w base sp held fuel t cs = some x) :
    ∃ a b c d : Int, cs = [.int q a, .int q b, .int q c, .int q d] ∧ (Lit.int q a).wf = true ∧ (Lit.int q b).wf = true ∧ (Lit.int q c).wf = true ∧ (Lit.int q d).wf = true := by
  obtain ⟨xs, n, rfl, rfl, hl, hx, hf⟩ := DataW.trod_struct ht h
  rw [hsz] at hl
  have key : ∀ i, i < 4 → ∃ z, DataW.trod enc P w base sp held n e ((cs.drop i).take 1) = some z := by
    intro i hi
    have hg : (fs.toList.map (fun f => (f.type, f.offset)))[i]? = some (e, i) := by
      rw [hfs]
      have : i = 0 ∨ i = 1 ∨ i = 2 ∨ i = 3 := by omega
      rcases this with rfl | rfl | rfl | rfl <;> rfl
    rw [List.getElem?_map] at hg
    cases hq : fs.toList[i]? with
    | none => rw [hq] at hg; cases hg
    | some f =>
      rw [hq] at hg
      have hfe : (f.type, f.offset) = (e, i) := Option.some.inj hg
      have h2 := hf i f (by rw [← Array.getElem?_toList]; exact hq)
      rw [(Prod.mk.inj hfe).1, (Prod.mk.inj hfe).2, h1] at h2
      have hsz4 : fs.size = 4 := by have := congrArg List.length hfs; simpa using this
      rw [List.getElem?_eq_getElem (by omega)] at h2
      exact ⟨_, h2⟩
  match cs, hl with
  | [c0, c1, c2, c3], _ =>
    obtain ⟨z0, k0⟩ := key 0 (by decide)
    obtain ⟨z1, k1⟩ := key 1 (by decide)
    obtain ⟨z2, k2⟩ := key 2 (by decide)
    obtain ⟨z3, k3⟩ := key 3 (by decide)
    obtain ⟨a, ea, _, wa⟩ := DataW.trod_int he k0
    obtain ⟨b, eb, _, wb⟩ := DataW.trod_int he k1
    obtain ⟨c, ec, _, wc⟩ := DataW.trod_int he k2
    obtain ⟨d, ed, _, wd⟩ := DataW.trod_int he k3
    simp at ea eb ec ed
    exact ⟨a, b, c, d, by rw [ea, eb, ec, ed], wa, wb, wc, wd⟩
/-- A field of a record. -/
theorem see_field {fs : Array Field} {l : List (TypeId × Nat)} {n : Nat} {sp : Nat → Bool} {xs : List (DataW H × List MemPlace)} (hfs : fs.toList.map (fun f => (f.type, f.offset)) = l) (hx : xs.length = fs.size)
    (hf : ∀ (i : Nat) (f : Field), fs[i]? = some f → DataW.trod enc P w base sp held n f.type ((cs.drop f.offset).take (P.cellsOf f.type)) = xs[i]?) {i o c : Nat} (hi : l[i]? = some (e, o)) (hc : P.cellsOf e = c) :
    ∃ z, xs[i]? = some z ∧ DataW.trod enc P w base sp held n e ((cs.drop o).take c) = some z := by
  have hg : (fs.toList.map (fun f => (f.type, f.offset)))[i]? = some (e, o) := by rw [hfs]; exact hi
  rw [List.getElem?_map] at hg
  cases hq : fs.toList[i]? with
  | none => rw [hq] at hg; cases hg
  | some f =>
    rw [hq] at hg
    have hfe : (f.type, f.offset) = (e, o) := Option.some.inj hg
    have h2 := hf i f (by rw [← Array.getElem?_toList]; exact hq)
    rw [(Prod.mk.inj hfe).1, (Prod.mk.inj hfe).2, hc] at h2
    have hlt : i < fs.size := by have := (List.getElem?_eq_some_iff.1 hq).1; simpa using this
    rw [List.getElem?_eq_getElem (by omega)] at h2
    exact ⟨_, List.getElem?_eq_getElem (by omega), h2⟩
/-- A record: a string, a slice of whole numbers, a whole number, four of them. -/
theorem see_line {ts tc tl : TypeId} {fs fl : Array Field} {v : Value} {d : DataW H} {ps : List MemPlace} {r : Reach} {b0 : Nat} (ht : P.underlying t = some (.struct fs)) (hfs : fs.toList.map (fun f => (f.type, f.offset)) = [(ts, 0), (tc, 1), (e, 2), (tl, 3)]) (h7 : P.cellsOf t = 7)
    (hs : P.underlying ts = some .string) (hs1 : P.cellsOf ts = 1) (hc : P.underlying tc = some (.slice e)) (hc1 : P.cellsOf tc = 1) (he : P.underlying e = some (.int .i64)) (he1 : P.cellsOf e = 1)
    (hl : P.underlying tl = some (.struct fl)) (hfl : fl.toList.map (fun f => (f.type, f.offset)) = [(e, 0), (e, 1), (e, 2), (e, 3)]) (hl4 : P.cellsOf tl = 4) (hval : Value.okWide P w r b0 t v) (h : DataW.Trod enc P w base (fun _ => true) held t v d ps) :
    ∃ (s : ByteArray) (hd : Hd) (zs : List Int) (i a b c g : Int) (vv : Value) (k : Nat) (L : List Int) (y0 y1 y2 y3 : DataW H), v = .agg #[.string s, hd.v, .int .i64 i, .int .i64 a, .int .i64 b, .int .i64 c, .int .i64 g] ∧ Vw vv L 1 k hd.v zs ∧ (roRow (encI .i64) 1 vv k L).P (fun b => b < w.heap.size) w ∧
      d = .agg [y0, y1, y2, y3] ∧ ((y1 = .nil ∧ zs = []) ∨ ∃ A B, y1 = .slice A B ∧ A.length = zs.length) := by
  obtain ⟨cs, rfl, hcs⟩ := okWide_struct ht hval
  obtain ⟨fuel, h⟩ := h
  have h : DataW.trod enc P w base (fun _ => true) held fuel t cs.toList = some (d, ps) := h
  obtain ⟨xs, n, rfl, hx, hl7, hxl, hf⟩ := DataW.trod_struct ht h
  rw [h7] at hl7
  have h4 : fs.size = 4 := by have := congrArg List.length hfs; simpa using this
  obtain ⟨l⟩ := cs
  match l, hl7 with
  | [c0, c1, c2, c3, c4, c5, c6], _ =>
    obtain ⟨z0, x0, k0⟩ := see_field (i := 0) hfs hxl hf rfl hs1
    obtain ⟨z1, x1, k1⟩ := see_field (i := 1) hfs hxl hf rfl hc1
    obtain ⟨z2, x2, k2⟩ := see_field (i := 2) hfs hxl hf rfl he1
    obtain ⟨z3, x3, k3⟩ := see_field (i := 3) hfs hxl hf rfl hl4
    obtain ⟨s, e0, _, _⟩ := DataW.trod_string hs k0
    obtain ⟨hd, zs, vv, k, L, e1, g1, g2, _, g3⟩ := see_ints hc he he1 k1
    obtain ⟨i, e2, _, _⟩ := DataW.trod_int he k2
    obtain ⟨a, b, c, g, e3, _⟩ := see_four hl hfl hl4 he1 he k3
    simp at e0 e1 e2 e3
    obtain ⟨ea, eb, ec, eg⟩ := e3
    subst e0 e1 e2 ea eb ec eg
    match xs, hxl.trans h4 with
    | [w0, w1, w2, w3], _ =>
      simp at x0 x1 x2 x3
      refine ⟨s, hd, zs, i, a, b, c, g, vv, k, L, w0.1, w1.1, w2.1, w3.1, rfl, g1, g2, (Prod.mk.inj hx).1, ?_⟩
      rw [x1]; exact g3
end
end Go.Proofs.Ytnhdnpdbmgeheaa
namespace Go.Proofs.Ytnhdnpdbmgeheaa
open Go.RowKit Go.Lib
set_option linter.unusedVariables false
set_option linter.unusedSimpArgs false
theorem catL_app : ∀ A B : List ByteArray, catL (A ++ B) = catL A ++ catL B
  | [], B => (empty_app _).symm
  | x :: A, B => by show x ++ catL (A ++ B) = (x ++ catL A) ++ catL B; rw [catL_app A B, ByteArray.append_assoc]
theorem cut_full (s : ByteArray) : cutB s 0 (s.size : Int) = s := by
  apply ByteArray.ext; apply Array.toList_inj.1
  have := cutB_list s 0 s.size
  rw [show ((0 : Nat) : Int) = 0 from rfl, Int.zero_add, List.drop_zero] at this
  rw [this, List.take_of_length_le (by simp)]
theorem cut_two (s : ByteArray) (a b : Int) (h : 0 ≤ a ∧ a ≤ b ∧ b ≤ (s.size : Int)) : cutB s 0 a ++ cutB s a b = cutB s 0 b := by
  obtain ⟨m, rfl⟩ : ∃ m : Nat, a = m := ⟨a.toNat, by omega⟩
  obtain ⟨n, rfl⟩ : ∃ n : Nat, b = (m : Int) + n := ⟨(b - m).toNat, by omega⟩
  apply ByteArray.ext; apply Array.toList_inj.1
  have h1 := cutB_list s 0 m
  have h2 := cutB_list s m n
  have h3 := cutB_list s 0 (m + n)
  rw [show ((0 : Nat) : Int) = 0 from rfl, Int.zero_add, List.drop_zero] at h1 h3
  rw [show (m : Int) + n = ((m + n : Nat) : Int) by omega] at h2 ⊢
  rw [ByteArray.data_append, Array.toList_append, h1, h2, h3, List.take_add]
/-- Rows of the text up to a place. -/
def okR (s : ByteArray) (rows : List ByteArray) (f : Int) : Prop := 0 ≤ f ∧ f ≤ (s.size : Int) ∧ catL rows = cutB s 0 f ∧ (rows.length : Int) ≤ f
theorem okR_add {s : ByteArray} {rows : List ByteArray} {f g : Int} (h : okR s rows f) (h1 : f < g) (h2 : g ≤ (s.size : Int)) : okR s (rows ++ [cutB s f g]) g := by
  obtain ⟨a, b, c, d⟩ := h
  refine ⟨by omega, h2, ?_, by rw [List.length_append]; show ((rows.length + 1 : Nat) : Int) ≤ g; omega⟩
  rw [catL_app, c]
  show cutB s 0 f ++ (cutB s f g ++ (⟨#[]⟩ : ByteArray)) = _
  rw [app_empty, cut_two s f g ⟨a, by omega, h2⟩]
theorem sizL_mem : ∀ (L : List ByteArray) (x : ByteArray), x ∈ L → x.size ≤ sizL L
  | y :: L, x, h => by
    show x.size ≤ y.size + sizL L
    rcases List.mem_cons.1 h with rfl | h
    · omega
    · have := sizL_mem L x h; omega
theorem least_loop (x : Glaw30_Line) (hs : x.Text.size ≤ 400) (hc : x.Cuts.length ≤ 140737488355328) (j : List ByteArray → Int → Option Bool) (hj : ∀ rows f, okR x.Text rows f → j rows f = some true) : ∀ (d i m : Nat) (rows : List ByteArray) (f : Int), i + d = x.Cuts.length → d < m → okR x.Text rows f →
    loopG (fun _ _ _ => none) (law30_PageLeast_s1 x j) m rows f (i : Int) = some true := by
  intro d
  induction d with
  | zero =>
    intro i m rows f hi hm ho
    obtain ⟨m, rfl⟩ : ∃ q, m = q + 1 := ⟨m - 1, by omega⟩
    rw [loopI]
    generalize loopG (fun _ _ _ => none) (law30_PageLeast_s1 x j) m = ag
    unfold law30_PageLeast_s1
    exact condFI (decide_eq_false (by omega)) (hj rows f ho)
  | succ d ih =>
    intro i m rows f hi hm ho
    obtain ⟨m, rfl⟩ : ∃ q, m = q + 1 := ⟨m - 1, by omega⟩
    have ih' := fun rows f ho => ih (i + 1) m rows f (by omega) (by omega) ho
    rw [loopI]
    rw [show ((i + 1 : Nat) : Int) = (i : Int) + 1 by omega] at ih'
    generalize loopG (fun _ _ _ => none) (law30_PageLeast_s1 x j) m = ag at ih' ⊢
    have hx : x.Cuts[i]? = some x.Cuts[i] := List.getElem?_eq_getElem (by omega)
    obtain ⟨o1, o2, o3, o4⟩ := id ho
    unfold law30_PageLeast_s1
    refine condTI (decide_eq_true (by omega)) (joinI (thenI (lp_get hx) ?_))
    by_cases h1 : f < x.Cuts[i]
    · refine condTI (decide_eq_true h1) ?_
      by_cases h2 : x.Cuts[i] < (x.Text.size : Int)
      · refine condTI (decide_eq_true h2) (thenI (lp_get hx) (grdI ⟨by omega, by omega, by omega⟩ (grdI (by omega) (thenI (lp_get hx) (grdI ⟨by omega, by omega⟩ ?_)))))
        exact ih' _ _ (okR_add ho h1 (by omega))
      · exact condFI (decide_eq_false h2) (grdI ⟨by omega, by omega⟩ (ih' _ _ ho))
    · exact condFI (decide_eq_false h1) (grdI ⟨by omega, by omega⟩ (ih' _ _ ho))
theorem pageLeast_v (x : Glaw30_Line) (hc : x.Cuts.length ≤ 140737488355328) : law30_PageLeast_v x = some true := by
  unfold law30_PageLeast_v
  refine thenI live_v (condFI rfl ?_)
  by_cases hs : (400 : Int) < (x.Text.size : Int)
  · exact condTI (decide_eq_true hs) rfl
  refine condFI (decide_eq_false hs) (thenI (fine_v _ _ _) ?_)
  generalize hl : (⟨x.L_Width, x.L_Height, x.L_Turn, x.L_Every⟩ : Gapi_Layout) = l
  cases hfi : (mayB l && (decide ((0 : Int) ≤ x.Indent) && (decide ((x.Indent : Int) ≤ 1024) && decide ((x.Text.size : Int) ≤ 1024)))) with
  | false => exact condTI rfl rfl
  | true =>
    simp only [Bool.and_eq_true, decide_eq_true_eq] at hfi
    obtain ⟨f1, f2, f3, f4⟩ := hfi
    have hT := Turn_v x.Text x.Indent l
    rw [if_pos ⟨f1, f2, f3, by omega⟩] at hT
    refine condFI rfl (thenI hT (condFI rfl (thenI live_v (condFI rfl (joinI ?_)))))
    refine least_loop x (by omega) hc _ ?_ x.Cuts.length 0 fuel [] 0 (by omega) (big_fuel (by omega)) ⟨Int.le_refl _, by omega, ?_, Int.le_refl _⟩
    · intro rows f ho
      have hend : ∀ rows : List ByteArray, okR x.Text rows (x.Text.size : Int) → (andThen (page_Cost_v rows x.Indent l) fun (r5 : (Int × Int)) => bcond ((r5.2 : Int) == 2) (bcond ((r5.1 : Int) == 0) (some true) (bcond ((r5.2 : Int) == 0) (some (decide (((TT x.Text (fstW x.Indent l) (nxtW l) 0).cost : Int) ≤ r5.1))) (some false))) (bcond ((r5.2 : Int) == 0) (some (decide (((TT x.Text (fstW x.Indent l) (nxtW l) 0).cost : Int) ≤ r5.1))) (some false))) = some true := by
        intro rows ho
        obtain ⟨o1, o2, o3, o4⟩ := ho
        rw [cut_full] at o3
        have hz := catL_size rows
        rw [o3] at hz
        have hC := Cost_v rows (by omega) (fun y hy => by have := sizL_mem rows y hy; omega) x.Indent l
        rw [if_pos ⟨f1, f2, f3, by omega⟩, o3] at hC
        refine thenI hC ?_
        cases hcf : costF x.Text (fstW x.Indent l) (nxtW l) 0 rows with
        | none => exact condTI rfl (condTI rfl rfl)
        | some c =>
          refine condFI rfl (condTI rfl ?_)
          show some (decide ((TT x.Text (fstW x.Indent l) (nxtW l) 0).cost ≤ c)) = some true
          obtain ⟨g1, g2, g3⟩ := w_rng f1 (i := x.Indent) ⟨f2, f3⟩
          refine congrArg some (decide_eq_true ?_)
          rcases cost_least (s := x.Text) (a := fstW x.Indent l) (b := nxtW l) (by omega) g2 g3 rows 0 c (Nat.zero_le _) (by rw [stN_0]; omega) hcf with ⟨h1, h2⟩ | ⟨_, _, h3⟩
          · subst h1
            have h0 : (0 : Int) = c := Option.some.inj hcf
            have : TT x.Text (fstW x.Indent l) (nxtW l) 0 = b0 := by
              show BB _ _ (cellsS x.Text).length 0 = b0
              rw [← h2]; exact BB_n ..
            rw [this, ← h0]; exact Int.le_refl _
          · exact h3
      obtain ⟨o1, o2, o3, o4⟩ := id ho
      refine joinI ?_
      by_cases hf : f < (x.Text.size : Int)
      · refine condTI (decide_eq_true hf) (grdI ⟨by omega, by omega, by omega⟩ (grdI (by omega) ?_))
        exact hend _ (okR_add ho hf (Int.le_refl _))
      · refine condFI (decide_eq_false hf) (hend _ ?_)
        have : f = (x.Text.size : Int) := by omega
        rw [this] at ho; exact ho
    · have := cutB_list x.Text 0 0
      apply ByteArray.ext; apply Array.toList_inj.1
      rw [show ((0 : Nat) : Int) = 0 from rfl, Int.zero_add] at this
      rw [this]; rfl
theorem pageLeast_any (x : Glaw30_Line) (hd : Hd) {vv : Value} {k : Nat} {L : List Int} (w : World) (hw : Vw vv L 1 k hd.v x.Cuts) (hr : (roRow (encI .i64) 1 vv k L).P (fun b => b < w.heap.size) w) (hc : x.Cuts.length ≤ 140737488355328) :
    Calls Try.prog 5 #[.agg #[.string x.Text, hd.v, .int .i64 x.Indent, .int .i64 x.L_Width, .int .i64 x.L_Height, .int .i64 x.L_Turn, .int .i64 x.L_Every]] w fun e w' => e = .returned (.bool true) ∧ Below w.heap.size w w' :=
  FnR.p (law30_PageLeast_fn hw (pageLeast_v x hc)) w (fun A hA => by
    rcases List.mem_singleton.1 hA with rfl
    exact ⟨_, hr, fun _ _ h => h⟩)
end Go.Proofs.Ytnhdnpdbmgeheaa
