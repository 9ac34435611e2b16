/-
  Texts laid together: LpK, Pe, LpF. Nothing is assumed.
-/
import Derived.Test.YtnhdnpdbmgeheaaPageTurns3
import Derived.Test.YtnhdnpdbmgeheaaPageTurns2
namespace Go.Proofs.Ytnhdnpdbmgeheaa
open Go.RowKit Go.Lib
set_option linter.unusedVariables false
set_option linter.unusedSimpArgs false
def page_Cost_s1 (rows1 : List ByteArray) (j1 : Option (Int × Int)) (ag1 : Int → Int → Option (Int × Int)) (size3 : Int) (x3 : Int) : Option (Int × Int) := bcond (decide ((x3 : Int) < (rows1.length : Int))) ( andThen (getO rows1 x3) fun (q1 : ByteArray) => grd (I64 (size3 + (q1.size : Int))) <| bcond (decide ((1024 : Int) < (size3 + (q1.size : Int)))) ( some (0, 2)
) ( grd (I64 (x3 + 1)) <| ag1 (size3 + (q1.size : Int)) (x3 + 1)
)
) ( j1
)
def page_Cost_s3 (r3 : Gpage_turner) (j4 : ByteArray → Int → Int → Option (Int × Int)) (q2 : ByteArray) (ag3 : Int → Int → Option (Int × Int)) (to4 : Int) (n6 : Int) : Option (Int × Int) := bcond (decide ((to4 : Int) < (r3.cells.length : Int))) ( bcond (decide ((n6 : Int) < (q2.size : Int))) ( andThen (getO r3.cells to4) fun (q3 : Gapi_Cell) => grd (I64 (q3.Span_To - q3.Span_From)) <| grd (I64 (n6 + (q3.Span_To - q3.Span_From))) <| grd (I64 (to4 + 1)) <| ag3 (to4 + 1) (n6 + (q3.Span_To - q3.Span_From))
) ( j4 q2 to4 n6
)
) ( j4 q2 to4 n6
)
def page_Cost_s2 (rows1 : List ByteArray) (j2 : Int → Option (Int × Int)) (r3 : Gpage_turner) (ag2 : Int → Int → Int → Option (Int × Int)) (cost4 : Int) (from3 : Int) (x6 : Int) : Option (Int × Int) := bcond (decide ((x6 : Int) < (rows1.length : Int))) ( joinK (fun (j3 : Int → Int → Int → ByteArray → Int → Bool → Int → Bool → Bool → Option (Int × Int)) => joinK (fun (j4 : ByteArray → Int → Int → Option (Int × Int)) => andThen (getO rows1 x6) fun (q2 : ByteArray) => loopG (fun _ _ => none) (page_Cost_s3 r3 j4 q2) fuel from3 0
) (fun (s1 : ByteArray) (to1 : Int) (n3 : Int) => bcond (decide (s1 = (⟨#[]⟩ : ByteArray))) ( some (0, 2)
) ( bcond ((n3 : Int) != (s1.size : Int)) ( some (0, 2)
) ( andThen (page_turner_row_v r3 from3 to1) fun (r4 : Bool) => bcond (!r4) ( some (0, 2)
) ( joinK (fun (j5 : Int → Option (Int × Int)) => grd (I64 ((rows1.length : Int) - 1)) <| bcond (decide ((x6 : Int) < ((rows1.length : Int) - 1))) ( andThen (page_turner_cost_v r3 from3 to1) fun (r5 : Int) => grd (I64 (cost4 + r5)) <| j5 (cost4 + r5)
) ( j5 cost4
)
) (fun (cost6 : Int) => j3 cost6 to1 n3 s1 (s1.size : Int) ((n3 : Int) != (s1.size : Int)) to1 r4 (!r4)
)
)
)
)
)
) (fun (cost5 : Int) (from4 : Int) (x7 : Int) (x8 : ByteArray) (x9 : Int) (x10 : Bool) (x11 : Int) (x12 : Bool) (x13 : Bool) => grd (I64 (x6 + 1)) <| ag2 cost5 from4 (x6 + 1)
)
) ( j2 cost4
)
def page_Cost_v (rows1 : List ByteArray) (indent1 : Int) (l1 : Gapi_Layout) : Option (Int × Int) := joinK (fun (j1 : Option (Int × Int)) => loopG (fun _ _ => none) (page_Cost_s1 rows1 j1) fuel 0 0
) ( andThen (page_may_v l1) fun (r1 : Bool) => bcond (!r1) ( some (0, 2)
) ( bcond (decide ((indent1 : Int) < 0)) ( some (0, 2)
) ( bcond (decide ((1024 : Int) < indent1)) ( some (0, 2)
) ( joinK (fun (j2 : Int → Option (Int × Int)) => andThen (strings_Join_v rows1 (⟨#[]⟩ : ByteArray)) fun (r2 : ByteArray) => andThen (page_newTurner_v r2 indent1 l1) fun (r3 : Gpage_turner) => loopG (fun _ _ _ => none) (page_Cost_s2 rows1 j2 r3) fuel 0 0 0
) (fun (cost1 : Int) => some (cost1, 0)
)
)
)
)
)
set_option maxRecDepth 100000 in
set_option maxHeartbeats 4000000 in
theorem page_Cost_fn {vvrows1 vrows1 : Value} {Lrows1 : List ByteArray} {krows1 : Nat} {rows1 : List ByteArray} (hwrows1 : Vw vvrows1 Lrows1 1 krows1 vrows1 rows1) {indent1 : Int} {l1 : Gapi_Layout} {r : (Int × Int)} (h : page_Cost_v rows1 indent1 l1 = some r) : Fn Try.prog 11 [vrows1, .int .i64 indent1, .agg #[.int .i64 l1.Width, .int .i64 l1.Height, .int .i64 l1.Turn, .int .i64 l1.Every]] [vec encS 9 1 vvrows1 Lrows1] (fun _b : Unit => .tuple #[.int .i64 r.1, .int .i64 r.2]) (fun _b => [vec encS 9 1 vvrows1 Lrows1]) := by
 unfold page_Cost_v at h
 refine Fn.intro Try.func11 rfl Try.ntmps11 (by simp) ?_
 intro w0 K
 obtain ⟨j1, hj1, h⟩ := joinE h
 refine TC.cutN (β := Nat) 2 rfl (fun b => j1 = some r) (fun b => []) (fun b => [(0, vrows1), (1, .int .i64 indent1), (5, .pointer (some ⟨b, 0, none⟩))]) (fun b => [vec encS 9 1 vvrows1 Lrows1, cells b [.int .i64 l1.Width, .int .i64 l1.Height, .int .i64 l1.Turn, .int .i64 l1.Every] 23]) (fun cut => ?_) ?_
 ·
  refine TC.seq (TC.region ?_)
  refine TO.box rfl dc rfl (fun b2 => ?_)
  refine TO.assign rfl dc rfl (TO.assign rfl dc rfl (TO.nil (TX.next (TC.seq (TC.region (TO.assign rfl dc rfl (TO.nil (TX.next (cut (TC.seq (TC.region (TO.move rfl dc rfl (TO.lenVw hwrows1 rfl dc rfl Try.underlying25 ?_)))))))))))))
  refine TO.move rfl dc rfl (TO.nil (TX.next (TC.block ?_)))
  refine TC.loopD (β := Nat × Int × Int) (fun b => loopG (fun _ _ => none) (page_Cost_s1 rows1 j1) b.1 b.2.1 b.2.2 = some r) (fun b => []) (fun b => [(0, vrows1), (1, .int .i64 indent1), (5, .pointer (some ⟨b2, 0, none⟩)), (8, .int .i64 b.2.1), (18, vrows1), (19, .int .i64 (rows1.length : Int)), (20, .int .i64 b.2.2)]) (fun b => [vec encS 9 1 vvrows1 Lrows1, cells b2 [.int .i64 l1.Width, .int .i64 l1.Height, .int .i64 l1.Turn, .int .i64 l1.Every] 23]) (fun b => b.1) (fuel, 0, 0) h rfl (Sbs.cons rfl (Sbs.cons rfl (Sbs.cons rfl (Sbs.cons rfl (Sbs.cons rfl (Sbs.cons rfl (Sbs.cons rfl (Sbs.nil)))))))) (Splits.of [0, 1] kr rfl) ?_
  rintro ⟨n1, size3, x3⟩ h
  cases n1 with
  | zero => exact noneE h
  | succ n1 =>
   obtain ⟨ag1, hag1⟩ : ∃ ag, ag = loopG (fun _ _ => none) (page_Cost_s1 rows1 j1) n1 := ⟨_, rfl⟩
   have h : page_Cost_s1 rows1 j1 ag1 size3 x3 = some r := by rw [hag1]; exact h
   unfold page_Cost_s1 at h
   show TC _ _ _ _ _ ([]) _ _ [(0, vrows1), (1, .int .i64 indent1), (5, .pointer (some ⟨b2, 0, none⟩)), (8, .int .i64 size3), (18, vrows1), (19, .int .i64 (rows1.length : Int)), (20, .int .i64 x3)] [vec encS 9 1 vvrows1 Lrows1, cells b2 [.int .i64 l1.Width, .int .i64 l1.Height, .int .i64 l1.Turn, .int .i64 l1.Every] 23]
   refine TC.seq (TC.region (TO.bin rfl dc rfl rfl bin_lss (TO.nil (TX.next (TC.seq ?_)))))
   refine TC.condB rfl (fun hb1 => ?_) (fun hb1 => ?_)
   ·
    have h := condT hb1 h
    refine TC.skip (TX.next (TC.seq (TC.block (TC.seq (TC.region ?_)))))
    obtain ⟨q1, hq1, h⟩ := andE h
    refine TO.indexVw hwrows1 hq1 Try.underlying25 sz_9 rfl dc rfl rfl rfl (TO.loadVec (i := krows1 + (x3 : Int).toNat) (j := 0) (k := 0) (q := q1) sc_9 encS_len rfl dc rfl rfl (Vw.get hwrows1 hq1) rfl dc rfl (TO.assign rfl dc rfl (TO.nil (TX.next (TC.seq (TC.region (TO.move rfl dc rfl (TO.move rfl dc rfl (TO.lenStr rfl dc rfl Try.underlying9 ?_)))))))))
    obtain ⟨hg1, h⟩ := grdE h
    refine TO.bin rfl dc rfl rfl (bin_add (r := size3 + (q1.size : Int)) (IntWalk.i64_in _ hg1)) (TO.assign rfl dc rfl (TO.nil (TX.next (TC.seq (TC.region (TO.move rfl dc rfl (TO.bin rfl dc rfl rfl bin_gtr (TO.nil (TX.next ?_)))))))))
    refine TC.condB rfl (fun hb2 => ?_) (fun hb2 => ?_)
    ·
     have h := condT hb2 h
     refine TC.seq (TC.region (TO.assign rfl dc rfl (TO.assign rfl dc rfl (TO.nil (TX.next (TC.ret (TX.blockRet (TX.thenRet (TX.thenRet (TX.blockRet (TX.thenRet ?_)))))))))))
     cases h
     exact TX.fin (rs := [.tmp 6, .tmp 7]) () (.inl rfl) Try.results11 (.cons (.tmp rfl) (.cons (.tmp rfl) .nil)) rfl (Splits.of [0] kr rfl)
    ·
     have h := condF hb2 h
     refine TC.skip (TX.blockNormal (TX.next (TC.region ?_)))
     obtain ⟨hg2, h⟩ := grdE h
     refine TO.bin rfl dc rfl rfl (bin_add (r := x3 + 1) (IntWalk.i64_in _ hg2)) (TO.move rfl dc rfl (TO.nil ?_))
     subst hag1
     exact TX.againD (n1, size3 + (q1.size : Int), x3 + 1) h (Nat.lt_succ_self _) rfl (Sbs.cons rfl (Sbs.cons rfl (Sbs.cons rfl (Sbs.cons rfl (Sbs.cons rfl (Sbs.cons rfl (Sbs.cons rfl (Sbs.nil)))))))) (Splits.of [0, 1] kr rfl)
   ·
    have h := condF hb1 h
    refine TC.exit (TX.thenExit (TX.thenExit (TX.blockHere ?_)))
    exact TX.meetD b2 h rfl (Sbs.cons rfl (Sbs.cons rfl (Sbs.cons rfl (Sbs.nil)))) (Splits.of [0, 1] kr rfl)
 ·
  rintro b1 h
  rw [hj1] at h
  show TC _ _ _ _ _ ([]) _ _ [(0, vrows1), (1, .int .i64 indent1), (5, .pointer (some ⟨b1, 0, none⟩))] [vec encS 9 1 vvrows1 Lrows1, cells b1 [.int .i64 l1.Width, .int .i64 l1.Height, .int .i64 l1.Turn, .int .i64 l1.Every] 23]
  refine TC.seq (TC.seq (TC.region (TO.loads (k := 1) (cs := [.int .i64 l1.Width, .int .i64 l1.Height, .int .i64 l1.Turn, .int .i64 l1.Every]) rw_23 rfl dc rfl rfl rfl rfl ?_)))
  obtain ⟨r1, hq2, h⟩ := andE h
  refine TO.callP (v := .bool r1) (vs := [.agg #[.int .i64 l1.Width, .int .i64 l1.Height, .int .i64 l1.Turn, .int .i64 l1.Every]]) rfl dc rfl rfl rfl en_13 (page_may_fn (l1 := l1) hq2) (TO.un rfl dc rfl un_not (TO.move rfl dc rfl ?_))
  refine TO.split (s := 34) rfl (fun hb3 => ?_) (fun hb3 => ?_)
  ·
   have h := condT hb3 h
   refine TO.skip rfl dc (TO.skip rfl dc (TO.pick (b := true) rfl dc rfl rfl (TO.move rfl dc rfl (TO.skip rfl dc (TO.skip rfl dc (TO.pick (b := true) rfl dc rfl rfl (TO.nil (TX.next (TC.condT rfl (TC.seq (TC.region (TO.assign rfl dc rfl (TO.assign rfl dc rfl ?_)))))))))))))
   refine TO.nil (TX.next (TC.ret (TX.thenRet ?_)))
   cases h
   exact TX.fin (rs := [.tmp 6, .tmp 7]) () (.inl rfl) Try.results11 (.cons (.tmp rfl) (.cons (.tmp rfl) .nil)) rfl (Splits.of [0] kr rfl)
  ·
   have h := condF hb3 h
   refine TO.move rfl dc rfl (TO.bin rfl dc rfl rfl bin_lss (TO.pick (b := false) rfl dc rfl rfl (TO.move rfl dc rfl ?_)))
   refine TO.split (s := 38) rfl (fun hb4 => ?_) (fun hb4 => ?_)
   ·
    have h := condT hb4 h
    refine TO.skip rfl dc (TO.skip rfl dc (TO.pick (b := true) rfl dc rfl rfl (TO.nil (TX.next (TC.condT rfl (TC.seq (TC.region (TO.assign rfl dc rfl (TO.assign rfl dc rfl (TO.nil (TX.next (TC.ret (TX.thenRet ?_)))))))))))))
    cases h
    exact TX.fin (rs := [.tmp 6, .tmp 7]) () (.inl rfl) Try.results11 (.cons (.tmp rfl) (.cons (.tmp rfl) .nil)) rfl (Splits.of [0] kr rfl)
   ·
    have h := condF hb4 h
    refine TO.move rfl dc rfl (TO.bin rfl dc rfl rfl bin_gtr (TO.pick (b := false) rfl dc rfl rfl (TO.nil (TX.next ?_))))
    refine TC.condB rfl (fun hb5 => ?_) (fun hb5 => ?_)
    ·
     have h := condT hb5 h
     refine TC.seq (TC.region (TO.assign rfl dc rfl (TO.assign rfl dc rfl (TO.nil (TX.next (TC.ret (TX.thenRet ?_)))))))
     cases h
     exact TX.fin (rs := [.tmp 6, .tmp 7]) () (.inl rfl) Try.results11 (.cons (.tmp rfl) (.cons (.tmp rfl) .nil)) rfl (Splits.of [0] kr rfl)
    ·
     have h := condF hb5 h
     refine TC.skip (TX.next ?_)
     obtain ⟨j2, hj2, h⟩ := joinE h
     refine TC.cutN (β := Int) 2 rfl (fun b => j2 b = some r) (fun b => []) (fun b => [(12, .int .i64 b)]) (fun b => [vec encS 9 1 vvrows1 Lrows1]) (fun cut => ?_) ?_
     ·
      refine TC.seq ?_
      obtain ⟨r2, hq3, h⟩ := andE h
      obtain ⟨r3, hq4, h⟩ := andE h
      refine TC.drawN 4 [(0, 42, vrows1), (1, 43, .string r2), (2, 44, .int .i64 indent1), (3, 45, .agg #[.int .i64 l1.Width, .int .i64 l1.Height, .int .i64 l1.Turn, .int .i64 l1.Every])] mixed kr kr dc (by rfl) kr kr (DrawPre.cons ?_ (DrawPre.cons ?_ (DrawPre.cons ?_ (DrawPre.cons ?_ DrawPre.nil)))) ?_
      ·
       intro D hn hd hcl hu hi
       refine TO.move rfl dc (dl_old (by rfl) rfl) ?_
       exact TX.quiet 0 hu hi rfl
      ·
       intro D hn hd hcl hu hi
       refine TO.callK (v := .string r2) (vs := [vrows1, .string (⟨#[]⟩ : ByteArray)]) rfl dc rfl (evL.cons (dl_lookup (m := 0) hu rfl (hd 0 dc)) (evL.cons rfl evL.nil)) rfl en_21 (strings_Join_fn hwrows1 hq3) [0] kr rfl ?_
       exact TX.quiet 1 hu hi rfl
      ·
       intro D hn hd hcl hu hi
       refine TO.move rfl dc (dl_old (by rfl) rfl) ?_
       exact TX.quiet 2 hu hi rfl
      ·
       intro D hn hd hcl hu hi
       refine TO.loads (k := 1) (cs := [.int .i64 l1.Width, .int .i64 l1.Height, .int .i64 l1.Turn, .int .i64 l1.Every]) rw_23 rfl dc (dl_old (by rfl) rfl) rfl rfl rfl ?_
       exact TX.quiet 3 hu hi rfl
      refine TO.call (vs := [.string r2, .int .i64 indent1, .agg #[.int .i64 l1.Width, .int .i64 l1.Height, .int .i64 l1.Turn, .int .i64 l1.Every]]) rfl dc rfl rfl rfl en_20 (page_newTurner_fn (l1 := l1) hq4) Splits.nil ?_
      rintro ⟨b3, hd1, hd2, hd3⟩
      show TO _ _ _ _ _ _ _ _ _ _ [vec encS 9 1 vvrows1 Lrows1, cells b1 [.int .i64 l1.Width, .int .i64 l1.Height, .int .i64 l1.Turn, .int .i64 l1.Every] 23, cells b3 [.string r3.s, hd1.v, hd2.v, hd3.v, .int .i64 r3.first, .int .i64 r3.rest] 57, vec enc_Gapi_Cell 52 3 hd1.v r3.cells, vec (encI (.i64)) 3 1 hd2.v r3.wide, vec (encI (.i64)) 3 1 hd3.v r3.ends]
      refine TO.weakenL (L' := [vec encS 9 1 vvrows1 Lrows1, cells b1 [.int .i64 l1.Width, .int .i64 l1.Height, .int .i64 l1.Turn, .int .i64 l1.Every] 23, cells b3 [.string r3.s, hd1.v, hd2.v, hd3.v, .int .i64 r3.first, .int .i64 r3.rest] 57, vec enc_Gapi_Cell 52 3 hd1.v r3.cells, vec (encI (.i64)) 3 1 hd2.v r3.wide, vec (encI (.i64)) 3 1 hd3.v r3.ends]) (Splits.of [0, 1, 2, 3, 4, 5] kr rfl) (TO.assign rfl dc rfl (TO.nil (TX.next (TC.seq (TC.region (TO.assign rfl dc rfl (TO.assign rfl dc rfl (TO.nil (TX.next (cut (TC.seq (TC.region (TO.move rfl dc rfl ?_)))))))))))))
      refine TO.lenVw hwrows1 rfl dc rfl Try.underlying25 (TO.move rfl dc rfl (TO.nil (TX.next (TC.block ?_))))
      refine TC.loopD (β := Nat × Int × Int × Int) (fun b => loopG (fun _ _ _ => none) (page_Cost_s2 rows1 j2 r3) b.1 b.2.1 b.2.2.1 b.2.2.2 = some r) (fun b => []) (fun b => [(0, vrows1), (11, .pointer (some ⟨b3, 0, none⟩)), (12, .int .i64 b.2.1), (13, .int .i64 b.2.2.1), (47, vrows1), (48, .int .i64 (rows1.length : Int)), (49, .int .i64 b.2.2.2)]) (fun b => [vec encS 9 1 vvrows1 Lrows1, cells b3 [.string r3.s, hd1.v, hd2.v, hd3.v, .int .i64 r3.first, .int .i64 r3.rest] 57, vec enc_Gapi_Cell 52 3 hd1.v r3.cells, vec (encI (.i64)) 3 1 hd2.v r3.wide, vec (encI (.i64)) 3 1 hd3.v r3.ends]) (fun b => b.1) (fuel, 0, 0, 0) h rfl (Sbs.cons rfl (Sbs.cons rfl (Sbs.cons rfl (Sbs.cons rfl (Sbs.cons rfl (Sbs.cons rfl (Sbs.cons rfl (Sbs.nil)))))))) (Splits.of [0, 2, 3, 4, 5] kr rfl) ?_
      rintro ⟨n2, cost4, from3, x6⟩ h
      cases n2 with
      | zero => exact noneE h
      | succ n2 =>
       obtain ⟨ag2, hag2⟩ : ∃ ag, ag = loopG (fun _ _ _ => none) (page_Cost_s2 rows1 j2 r3) n2 := ⟨_, rfl⟩
       have h : page_Cost_s2 rows1 j2 r3 ag2 cost4 from3 x6 = some r := by rw [hag2]; exact h
       unfold page_Cost_s2 at h
       show TC _ _ _ _ _ ([]) _ _ [(0, vrows1), (11, .pointer (some ⟨b3, 0, none⟩)), (12, .int .i64 cost4), (13, .int .i64 from3), (47, vrows1), (48, .int .i64 (rows1.length : Int)), (49, .int .i64 x6)] [vec encS 9 1 vvrows1 Lrows1, cells b3 [.string r3.s, hd1.v, hd2.v, hd3.v, .int .i64 r3.first, .int .i64 r3.rest] 57, vec enc_Gapi_Cell 52 3 hd1.v r3.cells, vec (encI (.i64)) 3 1 hd2.v r3.wide, vec (encI (.i64)) 3 1 hd3.v r3.ends]
       refine TC.seq (TC.region (TO.bin rfl dc rfl rfl bin_lss (TO.nil (TX.next (TC.seq ?_)))))
       refine TC.condB rfl (fun hb6 => ?_) (fun hb6 => ?_)
       ·
        have h := condT hb6 h
        refine TC.skip (TX.next ?_)
        obtain ⟨j3, hj3, h⟩ := joinE h
        refine TC.cutN (β := Int × Int × Int × ByteArray × Int × Bool × Int × Bool × Bool) 0 rfl (fun b => j3 b.1 b.2.1 b.2.2.1 b.2.2.2.1 b.2.2.2.2.1 b.2.2.2.2.2.1 b.2.2.2.2.2.2.1 b.2.2.2.2.2.2.2.1 b.2.2.2.2.2.2.2.2 = some r) (fun b => []) (fun b => [(0, vrows1), (11, .pointer (some ⟨b3, 0, none⟩)), (12, .int .i64 b.1), (13, .int .i64 b.2.1), (47, vrows1), (48, .int .i64 (rows1.length : Int)), (49, .int .i64 x6), (94, .int .i64 b.2.2.1), (95, .string b.2.2.2.1), (96, .int .i64 b.2.2.2.2.1), (97, .bool b.2.2.2.2.2.1), (100, .pointer (some ⟨b3, 0, none⟩)), (101, .int .i64 from3), (102, .int .i64 b.2.2.2.2.2.2.1), (103, .bool b.2.2.2.2.2.2.2.1), (104, .bool b.2.2.2.2.2.2.2.2)]) (fun b => [vec encS 9 1 vvrows1 Lrows1, cells b3 [.string r3.s, hd1.v, hd2.v, hd3.v, .int .i64 r3.first, .int .i64 r3.rest] 57, vec enc_Gapi_Cell 52 3 hd1.v r3.cells, vec (encI (.i64)) 3 1 hd2.v r3.wide, vec (encI (.i64)) 3 1 hd3.v r3.ends]) (fun cut => ?_) ?_
        ·
         refine cut (TC.block ?_)
         obtain ⟨j4, hj4, h⟩ := joinE h
         refine TC.cutN (β := ByteArray × Int × Int) 2 rfl (fun b => j4 b.1 b.2.1 b.2.2 = some r) (fun b => []) (fun b => [(0, vrows1), (11, .pointer (some ⟨b3, 0, none⟩)), (12, .int .i64 cost4), (13, .int .i64 from3), (14, .int .i64 x6), (15, .string b.1), (16, .int .i64 b.2.1), (17, .int .i64 b.2.2), (47, vrows1), (48, .int .i64 (rows1.length : Int)), (49, .int .i64 x6)]) (fun b => [vec encS 9 1 vvrows1 Lrows1, cells b3 [.string r3.s, hd1.v, hd2.v, hd3.v, .int .i64 r3.first, .int .i64 r3.rest] 57, vec enc_Gapi_Cell 52 3 hd1.v r3.cells, vec (encI (.i64)) 3 1 hd2.v r3.wide, vec (encI (.i64)) 3 1 hd3.v r3.ends]) (fun cut => ?_) ?_
         ·
          refine TC.seq (TC.region (TO.move rfl dc rfl ?_))
          obtain ⟨q2, hq5, h⟩ := andE h
          refine TO.indexVw hwrows1 hq5 Try.underlying25 sz_9 rfl dc rfl rfl rfl (TO.loadVec (i := krows1 + (x6 : Int).toNat) (j := 0) (k := 0) (q := q2) sc_9 encS_len rfl dc rfl rfl (Vw.get hwrows1 hq5) rfl dc rfl (TO.assign rfl dc rfl (TO.assign rfl dc rfl (TO.nil (TX.next (TC.seq (TC.region (TO.move rfl dc rfl (TO.assign rfl dc rfl (TO.assign rfl dc rfl (TO.nil (TX.next (cut ?_)))))))))))))
          refine TC.block ?_
          refine TC.loopD (β := Nat × Int × Int) (fun b => loopG (fun _ _ => none) (page_Cost_s3 r3 j4 q2) b.1 b.2.1 b.2.2 = some r) (fun b => []) (fun b => [(0, vrows1), (11, .pointer (some ⟨b3, 0, none⟩)), (12, .int .i64 cost4), (13, .int .i64 from3), (14, .int .i64 x6), (15, .string q2), (16, .int .i64 b.2.1), (17, .int .i64 b.2.2), (47, vrows1), (48, .int .i64 (rows1.length : Int)), (49, .int .i64 x6)]) (fun b => [vec encS 9 1 vvrows1 Lrows1, cells b3 [.string r3.s, hd1.v, hd2.v, hd3.v, .int .i64 r3.first, .int .i64 r3.rest] 57, vec enc_Gapi_Cell 52 3 hd1.v r3.cells, vec (encI (.i64)) 3 1 hd2.v r3.wide, vec (encI (.i64)) 3 1 hd3.v r3.ends]) (fun b => b.1) (fuel, from3, 0) h rfl (Sbs.cons rfl (Sbs.cons rfl (Sbs.cons rfl (Sbs.cons rfl (Sbs.cons rfl (Sbs.cons rfl (Sbs.cons rfl (Sbs.cons rfl (Sbs.cons rfl (Sbs.cons rfl (Sbs.cons rfl (Sbs.nil)))))))))))) (Splits.of [0, 1, 2, 3, 4] kr rfl) ?_
          rintro ⟨n7, to4, n6⟩ h
          cases n7 with
          | zero => exact noneE h
          | succ n7 =>
           obtain ⟨ag3, hag3⟩ : ∃ ag, ag = loopG (fun _ _ => none) (page_Cost_s3 r3 j4 q2) n7 := ⟨_, rfl⟩
           have h : page_Cost_s3 r3 j4 q2 ag3 to4 n6 = some r := by rw [hag3]; exact h
           unfold page_Cost_s3 at h
           show TC _ _ _ _ _ ([]) _ _ [(0, vrows1), (11, .pointer (some ⟨b3, 0, none⟩)), (12, .int .i64 cost4), (13, .int .i64 from3), (14, .int .i64 x6), (15, .string q2), (16, .int .i64 to4), (17, .int .i64 n6), (47, vrows1), (48, .int .i64 (rows1.length : Int)), (49, .int .i64 x6)] [vec encS 9 1 vvrows1 Lrows1, cells b3 [.string r3.s, hd1.v, hd2.v, hd3.v, .int .i64 r3.first, .int .i64 r3.rest] 57, vec enc_Gapi_Cell 52 3 hd1.v r3.cells, vec (encI (.i64)) 3 1 hd2.v r3.wide, vec (encI (.i64)) 3 1 hd3.v r3.ends]
           refine TC.seq (TC.seq (TC.region (TO.move rfl dc rfl (TO.move rfl dc rfl (TO.nilCheck rfl dc rfl (TO.fieldAddr fl_57_1 rfl dc rfl (show _ = 1 from rfl) (TO.load (k := 1) sc_44 rfl dc rfl rfl rfl (TO.lenVec (k := 2) rfl dc rfl rfl Try.underlying44 (TO.bin rfl dc rfl rfl bin_lss (TO.move rfl dc rfl ?_))))))))))
           refine TO.split (s := 62) rfl (fun hb7 => ?_) (fun hb7 => ?_)
           ·
            have h := condT hb7 h
            refine TO.move rfl dc rfl (TO.move rfl dc rfl (TO.lenStr rfl dc rfl Try.underlying9 (TO.bin rfl dc rfl rfl bin_lss (TO.pick (b := true) rfl dc rfl rfl (TO.nil (TX.next ?_))))))
            refine TC.condB rfl (fun hb8 => ?_) (fun hb8 => ?_)
            ·
             have h := condT hb8 h
             refine TC.skip (TX.next (TC.block (TC.seq ?_)))
             obtain ⟨q3, hq6, h⟩ := andE h
             obtain ⟨hg3, h⟩ := grdE h
             obtain ⟨hg4, h⟩ := grdE h
             refine TC.drawN 20 [(0, 68, .int .i64 n6), (1, 69, .pointer (some ⟨b3, 0, none⟩)), (2, 70, .pointer (some ⟨b3, 0, none⟩)), (3, 71, .pointer (some ⟨b3, 1, none⟩)), (4, 72, hd1.v), (5, 73, .int .i64 to4), (6, 74, .pointer (some ⟨vblk hd1.v, (to4 : Int).toNat * 3, none⟩)), (7, 75, .pointer (some ⟨vblk hd1.v, ((to4 : Int).toNat) * 3, none⟩)), (8, 76, .pointer (some ⟨vblk hd1.v, ((to4 : Int).toNat) * 3 + 1, none⟩)), (9, 77, .int .i64 q3.Span_To), (10, 78, .pointer (some ⟨b3, 0, none⟩)), (11, 79, .pointer (some ⟨b3, 0, none⟩)), (12, 80, .pointer (some ⟨b3, 1, none⟩)), (13, 81, hd1.v), (14, 82, .int .i64 to4), (15, 83, .pointer (some ⟨vblk hd1.v, (to4 : Int).toNat * 3, none⟩)), (16, 84, .pointer (some ⟨vblk hd1.v, ((to4 : Int).toNat) * 3, none⟩)), (17, 85, .pointer (some ⟨vblk hd1.v, ((to4 : Int).toNat) * 3, none⟩)), (18, 86, .int .i64 q3.Span_From), (19, 87, .int .i64 (q3.Span_To - q3.Span_From))] mixed kr kr dc (by rfl) kr kr (DrawPre.cons ?_ (DrawPre.cons ?_ (DrawPre.cons ?_ (DrawPre.cons ?_ (DrawPre.cons ?_ (DrawPre.cons ?_ (DrawPre.cons ?_ (DrawPre.cons ?_ (DrawPre.cons ?_ (DrawPre.cons ?_ (DrawPre.cons ?_ (DrawPre.cons ?_ (DrawPre.cons ?_ (DrawPre.cons ?_ (DrawPre.cons ?_ (DrawPre.cons ?_ (DrawPre.cons ?_ (DrawPre.cons ?_ (DrawPre.cons ?_ (DrawPre.cons ?_ DrawPre.nil)))))))))))))))))))) ?_
             ·
              intro D hn hd hcl hu hi
              refine TO.move rfl dc (dl_old (by rfl) rfl) ?_
              exact TX.quiet 0 hu hi rfl
             ·
              intro D hn hd hcl hu hi
              refine TO.move rfl dc (dl_old (by rfl) rfl) ?_
              exact TX.quiet 1 hu hi rfl
             ·
              intro D hn hd hcl hu hi
              refine TO.nilCheck rfl dc (dl_lookup (m := 1) hu rfl (hd 1 dc)) ?_
              exact TX.quiet 2 hu hi rfl
             ·
              intro D hn hd hcl hu hi
              refine TO.fieldAddr fl_57_1 rfl dc (dl_lookup (m := 2) hu rfl (hd 2 dc)) (show _ = 1 from rfl) ?_
              exact TX.quiet 3 hu hi rfl
             ·
              intro D hn hd hcl hu hi
              refine TO.load (k := 1) sc_44 rfl dc (dl_lookup (m := 3) hu rfl (hd 3 dc)) rfl rfl ?_
              exact TX.quiet 4 hu hi rfl
             ·
              intro D hn hd hcl hu hi
              refine TO.move rfl dc (dl_old (by rfl) rfl) ?_
              exact TX.quiet 5 hu hi rfl
             ·
              intro D hn hd hcl hu hi
              refine TO.indexVecI (k := 2) hq6 Try.underlying44 sz_52 rfl dc (dl_lookup (m := 4) hu rfl (hd 4 dc)) (dl_lookup (m := 5) hu rfl (hd 5 dc)) rfl rfl ?_
              exact TX.quiet 6 hu hi rfl
             ·
              intro D hn hd hcl hu hi
              refine TO.fieldAddr fl_52_0 rfl dc (dl_lookup (m := 6) hu rfl (hd 6 dc)) (show _ = ((to4 : Int).toNat) * 3 from rfl) ?_
              exact TX.quiet 7 hu hi rfl
             ·
              intro D hn hd hcl hu hi
              refine TO.fieldAddr fl_50_1 rfl dc (dl_lookup (m := 7) hu rfl (hd 7 dc)) (show _ = ((to4 : Int).toNat) * 3 + 1 from rfl) ?_
              exact TX.quiet 8 hu hi rfl
             ·
              intro D hn hd hcl hu hi
              refine TO.loadVec (i := (to4 : Int).toNat) (j := 1) (k := 2) (q := q3) sc_3 enc_Gapi_Cell_len rfl dc (dl_lookup (m := 8) hu rfl (hd 8 dc)) rfl (getO_get hq6) rfl dc rfl ?_
              exact TX.quiet 9 hu hi rfl
             ·
              intro D hn hd hcl hu hi
              refine TO.move rfl dc (dl_old (by rfl) rfl) ?_
              exact TX.quiet 10 hu hi rfl
             ·
              intro D hn hd hcl hu hi
              refine TO.nilCheck rfl dc (dl_lookup (m := 10) hu rfl (hd 10 dc)) ?_
              exact TX.quiet 11 hu hi rfl
             ·
              intro D hn hd hcl hu hi
              refine TO.fieldAddr fl_57_1 rfl dc (dl_lookup (m := 11) hu rfl (hd 11 dc)) (show _ = 1 from rfl) ?_
              exact TX.quiet 12 hu hi rfl
             ·
              intro D hn hd hcl hu hi
              refine TO.load (k := 1) sc_44 rfl dc (dl_lookup (m := 12) hu rfl (hd 12 dc)) rfl rfl ?_
              exact TX.quiet 13 hu hi rfl
             ·
              intro D hn hd hcl hu hi
              refine TO.move rfl dc (dl_old (by rfl) rfl) ?_
              exact TX.quiet 14 hu hi rfl
             ·
              intro D hn hd hcl hu hi
              refine TO.indexVecI (k := 2) hq6 Try.underlying44 sz_52 rfl dc (dl_lookup (m := 13) hu rfl (hd 13 dc)) (dl_lookup (m := 14) hu rfl (hd 14 dc)) rfl rfl ?_
              exact TX.quiet 15 hu hi rfl
             ·
              intro D hn hd hcl hu hi
              refine TO.fieldAddr fl_52_0 rfl dc (dl_lookup (m := 15) hu rfl (hd 15 dc)) (show _ = ((to4 : Int).toNat) * 3 from rfl) ?_
              exact TX.quiet 16 hu hi rfl
             ·
              intro D hn hd hcl hu hi
              refine TO.fieldAddr fl_50_0 rfl dc (dl_lookup (m := 16) hu rfl (hd 16 dc)) (show _ = ((to4 : Int).toNat) * 3 from rfl) ?_
              exact TX.quiet 17 hu hi rfl
             ·
              intro D hn hd hcl hu hi
              refine TO.loadVec (i := (to4 : Int).toNat) (j := 0) (k := 2) (q := q3) sc_3 enc_Gapi_Cell_len rfl dc (dl_lookup (m := 17) hu rfl (hd 17 dc)) rfl (getO_get hq6) rfl dc rfl ?_
              exact TX.quiet 18 hu hi rfl
             ·
              intro D hn hd hcl hu hi
              refine TO.bin rfl dc (dl_lookup (m := 9) hu rfl (hd 9 dc)) (dl_lookup (m := 18) hu rfl (hd 18 dc)) (bin_sub (r := q3.Span_To - q3.Span_From) (IntWalk.i64_in _ hg3)) ?_
              exact TX.quiet 19 hu hi rfl
             refine TO.bin rfl dc rfl rfl (bin_add (r := n6 + (q3.Span_To - q3.Span_From)) (IntWalk.i64_in _ hg4)) (TO.assign rfl dc rfl (TO.nil (TX.next (TC.region (TO.move rfl dc rfl ?_)))))
             obtain ⟨hg5, h⟩ := grdE h
             refine TO.bin rfl dc rfl rfl (bin_add (r := to4 + 1) (IntWalk.i64_in _ hg5)) (TO.assign rfl dc rfl (TO.nil (TX.blockNormal ?_)))
             subst hag3
             exact TX.againD (n7, to4 + 1, n6 + (q3.Span_To - q3.Span_From)) h (Nat.lt_succ_self _) rfl (Sbs.cons rfl (Sbs.cons rfl (Sbs.cons rfl (Sbs.cons rfl (Sbs.cons rfl (Sbs.cons rfl (Sbs.cons rfl (Sbs.cons rfl (Sbs.cons rfl (Sbs.cons rfl (Sbs.cons rfl (Sbs.nil)))))))))))) (Splits.of [0, 1, 2, 3, 4] kr rfl)
            ·
             have h := condF hb8 h
             refine TC.exit (TX.thenExit (TX.thenExit (TX.blockHere ?_)))
             exact TX.meetD (q2, to4, n6) h rfl (Sbs.cons rfl (Sbs.cons rfl (Sbs.cons rfl (Sbs.cons rfl (Sbs.cons rfl (Sbs.cons rfl (Sbs.cons rfl (Sbs.cons rfl (Sbs.cons rfl (Sbs.cons rfl (Sbs.cons rfl (Sbs.nil)))))))))))) (Splits.of [0, 1, 2, 3, 4] kr rfl)
           ·
            have h := condF hb7 h
            refine TO.skip rfl dc (TO.skip rfl dc (TO.skip rfl dc (TO.skip rfl dc (TO.pick (b := false) rfl dc rfl rfl (TO.nil (TX.next (TC.condF rfl (TC.exit (TX.thenExit (TX.thenExit (TX.blockHere ?_)))))))))))
            exact TX.meetD (q2, to4, n6) h rfl (Sbs.cons rfl (Sbs.cons rfl (Sbs.cons rfl (Sbs.cons rfl (Sbs.cons rfl (Sbs.cons rfl (Sbs.cons rfl (Sbs.cons rfl (Sbs.cons rfl (Sbs.cons rfl (Sbs.cons rfl (Sbs.nil)))))))))))) (Splits.of [0, 1, 2, 3, 4] kr rfl)
         ·
          rintro ⟨s1, to1, n3⟩ h
          rw [hj4] at h
          show TC _ _ _ _ _ ([]) _ _ [(0, vrows1), (11, .pointer (some ⟨b3, 0, none⟩)), (12, .int .i64 cost4), (13, .int .i64 from3), (14, .int .i64 x6), (15, .string s1), (16, .int .i64 to1), (17, .int .i64 n3), (47, vrows1), (48, .int .i64 (rows1.length : Int)), (49, .int .i64 x6)] [vec encS 9 1 vvrows1 Lrows1, cells b3 [.string r3.s, hd1.v, hd2.v, hd3.v, .int .i64 r3.first, .int .i64 r3.rest] 57, vec enc_Gapi_Cell 52 3 hd1.v r3.cells, vec (encI (.i64)) 3 1 hd2.v r3.wide, vec (encI (.i64)) 3 1 hd3.v r3.ends]
          refine TC.seq (TC.seq (TC.region (TO.move rfl dc rfl (TO.bin rfl dc rfl rfl bin_seql (TO.move rfl dc rfl ?_)))))
          refine TO.split (s := 93) rfl (fun hb9 => ?_) (fun hb9 => ?_)
          ·
           have h := condT hb9 h
           refine TO.skip rfl dc (TO.skip rfl dc (TO.skip rfl dc (TO.skip rfl dc (TO.pick (b := true) rfl dc rfl rfl (TO.move rfl dc rfl (TO.skip rfl dc (TO.skip rfl dc (TO.skip rfl dc (TO.skip rfl dc (TO.skip rfl dc (TO.pick (b := true) rfl dc rfl rfl (TO.nil (TX.next ?_)))))))))))))
           refine TC.condT rfl (TC.seq (TC.region (TO.assign rfl dc rfl (TO.assign rfl dc rfl (TO.nil (TX.next (TC.ret (TX.thenRet (TX.blockRet (TX.thenRet (TX.thenRet (TX.blockRet (TX.thenRet ?_)))))))))))))
           cases h
           exact TX.fin (rs := [.tmp 6, .tmp 7]) () (.inl rfl) Try.results11 (.cons (.tmp rfl) (.cons (.tmp rfl) .nil)) rfl (Splits.of [0] kr rfl)
          ·
           have h := condF hb9 h
           refine TO.move rfl dc rfl (TO.move rfl dc rfl (TO.lenStr rfl dc rfl Try.underlying9 (TO.bin rfl dc rfl rfl bin_neq (TO.pick (b := false) rfl dc rfl rfl (TO.move rfl dc rfl ?_)))))
           refine TO.split (s := 99) rfl (fun hb10 => ?_) (fun hb10 => ?_)
           ·
            have h := condT hb10 h
            refine TO.skip rfl dc (TO.skip rfl dc (TO.skip rfl dc (TO.skip rfl dc (TO.skip rfl dc (TO.pick (b := true) rfl dc rfl rfl (TO.nil (TX.next (TC.condT rfl (TC.seq (TC.region (TO.assign rfl dc rfl (TO.assign rfl dc rfl (TO.nil ?_)))))))))))))
            refine TX.next (TC.ret (TX.thenRet (TX.blockRet (TX.thenRet (TX.thenRet (TX.blockRet (TX.thenRet ?_)))))))
            cases h
            exact TX.fin (rs := [.tmp 6, .tmp 7]) () (.inl rfl) Try.results11 (.cons (.tmp rfl) (.cons (.tmp rfl) .nil)) rfl (Splits.of [0] kr rfl)
           ·
            have h := condF hb10 h
            refine TO.move rfl dc rfl (TO.move rfl dc rfl (TO.move rfl dc rfl ?_))
            obtain ⟨r4, hq7, h⟩ := andE h
            refine TO.callPR (v := .bool r4) (vs := [.pointer (some ⟨b3, 0, none⟩), .int .i64 from3, .int .i64 to1]) (Rd.nil : Rd _ _ []) rfl dc rfl rfl rfl en_22 (page_turner_row_fn (bt1 := b3) (t1 := r3) (t1_h0 := hd1) (t1_h1 := hd2) (t1_h2 := hd3) hq7) (.own (Splits.of [1] (by kernel_rfl) rfl) (fun _ _ h => sepL.one1.1 h) (.own (Splits.of [2] (by kernel_rfl) rfl) (fun _ _ h => sepL.one1.1 h) (.own (Splits.of [3] (by kernel_rfl) rfl) (fun _ _ h => sepL.one1.1 h) (.own (Splits.of [4] (by kernel_rfl) rfl) (fun _ _ h => sepL.one1.1 h) .nil)))) ?_
            refine TO.un rfl dc rfl un_not (TO.pick (b := false) rfl dc rfl rfl (TO.nil (TX.next ?_)))
            refine TC.condB rfl (fun hb11 => ?_) (fun hb11 => ?_)
            ·
             have h := condT hb11 h
             refine TC.seq (TC.region (TO.assign rfl dc rfl (TO.assign rfl dc rfl (TO.nil (TX.next (TC.ret (TX.thenRet (TX.blockRet (TX.thenRet (TX.thenRet (TX.blockRet (TX.thenRet ?_))))))))))))
             cases h
             exact TX.fin (rs := [.tmp 6, .tmp 7]) () (.inl rfl) Try.results11 (.cons (.tmp rfl) (.cons (.tmp rfl) .nil)) rfl (Splits.of [0] kr rfl)
            ·
             have h := condF hb11 h
             refine TC.skip (TX.next ?_)
             obtain ⟨j5, hj5, h⟩ := joinE h
             refine TC.cutN (β := Int) 0 rfl (fun b => j5 b = some r) (fun b => []) (fun b => [(0, vrows1), (11, .pointer (some ⟨b3, 0, none⟩)), (12, .int .i64 b), (16, .int .i64 to1), (47, vrows1), (48, .int .i64 (rows1.length : Int)), (49, .int .i64 x6), (94, .int .i64 n3), (95, .string s1), (96, .int .i64 (s1.size : Int)), (97, .bool ((n3 : Int) != (s1.size : Int))), (100, .pointer (some ⟨b3, 0, none⟩)), (101, .int .i64 from3), (102, .int .i64 to1), (103, .bool r4), (104, .bool (!r4))]) (fun b => [vec encS 9 1 vvrows1 Lrows1, cells b3 [.string r3.s, hd1.v, hd2.v, hd3.v, .int .i64 r3.first, .int .i64 r3.rest] 57, vec enc_Gapi_Cell 52 3 hd1.v r3.cells, vec (encI (.i64)) 3 1 hd2.v r3.wide, vec (encI (.i64)) 3 1 hd3.v r3.ends]) (fun cut => ?_) ?_
             ·
              refine cut (TC.seq (TC.region (TO.move rfl dc rfl (TO.move rfl dc rfl (TO.lenVw hwrows1 rfl dc rfl Try.underlying25 ?_)))))
              obtain ⟨hg6, h⟩ := grdE h
              refine TO.bin rfl dc rfl rfl (bin_sub (r := (rows1.length : Int) - 1) (IntWalk.i64_in _ hg6)) (TO.bin rfl dc rfl rfl bin_lss (TO.nil (TX.next ?_)))
              refine TC.condB rfl (fun hb12 => ?_) (fun hb12 => ?_)
              ·
               have h := condT hb12 h
               refine TC.region (TO.move rfl dc rfl (TO.move rfl dc rfl (TO.move rfl dc rfl (TO.move rfl dc rfl ?_))))
               obtain ⟨r5, hq8, h⟩ := andE h
               refine TO.callPR (v := .int .i64 r5) (vs := [.pointer (some ⟨b3, 0, none⟩), .int .i64 from3, .int .i64 to1]) (Rd.nil : Rd _ _ []) rfl dc rfl rfl rfl en_23 (page_turner_cost_fn (bt1 := b3) (t1 := r3) (t1_h0 := hd1) (t1_h1 := hd2) (t1_h2 := hd3) hq8) (.own (Splits.of [1] (by kernel_rfl) rfl) (fun _ _ h => sepL.one1.1 h) (.own (Splits.of [2] (by kernel_rfl) rfl) (fun _ _ h => sepL.one1.1 h) (.own (Splits.of [3] (by kernel_rfl) rfl) (fun _ _ h => sepL.one1.1 h) (.own (Splits.of [4] (by kernel_rfl) rfl) (fun _ _ h => sepL.one1.1 h) .nil)))) ?_
               obtain ⟨hg7, h⟩ := grdE h
               refine TO.bin rfl dc rfl rfl (bin_add (r := cost4 + r5) (IntWalk.i64_in _ hg7)) (TO.assign rfl dc rfl (TO.nil ?_))
               exact TX.meetD (cost4 + r5) h rfl (Sbs.cons rfl (Sbs.cons rfl (Sbs.cons rfl (Sbs.cons rfl (Sbs.cons rfl (Sbs.cons rfl (Sbs.cons rfl (Sbs.cons rfl (Sbs.cons rfl (Sbs.cons rfl (Sbs.cons rfl (Sbs.cons rfl (Sbs.cons rfl (Sbs.cons rfl (Sbs.cons rfl (Sbs.cons rfl (Sbs.nil))))))))))))))))) (Splits.of [0, 1, 2, 3, 4] kr rfl)
              ·
               have h := condF hb12 h
               refine TC.skip ?_
               exact TX.meetD cost4 h rfl (Sbs.cons rfl (Sbs.cons rfl (Sbs.cons rfl (Sbs.cons rfl (Sbs.cons rfl (Sbs.cons rfl (Sbs.cons rfl (Sbs.cons rfl (Sbs.cons rfl (Sbs.cons rfl (Sbs.cons rfl (Sbs.cons rfl (Sbs.cons rfl (Sbs.cons rfl (Sbs.cons rfl (Sbs.cons rfl (Sbs.nil))))))))))))))))) (Splits.of [0, 1, 2, 3, 4] kr rfl)
             ·
              rintro cost6 h
              rw [hj5] at h
              show TC _ _ _ _ _ ([]) _ _ [(0, vrows1), (11, .pointer (some ⟨b3, 0, none⟩)), (12, .int .i64 cost6), (16, .int .i64 to1), (47, vrows1), (48, .int .i64 (rows1.length : Int)), (49, .int .i64 x6), (94, .int .i64 n3), (95, .string s1), (96, .int .i64 (s1.size : Int)), (97, .bool ((n3 : Int) != (s1.size : Int))), (100, .pointer (some ⟨b3, 0, none⟩)), (101, .int .i64 from3), (102, .int .i64 to1), (103, .bool r4), (104, .bool (!r4))] [vec encS 9 1 vvrows1 Lrows1, cells b3 [.string r3.s, hd1.v, hd2.v, hd3.v, .int .i64 r3.first, .int .i64 r3.rest] 57, vec enc_Gapi_Cell 52 3 hd1.v r3.cells, vec (encI (.i64)) 3 1 hd2.v r3.wide, vec (encI (.i64)) 3 1 hd3.v r3.ends]
              refine TC.region (TO.move rfl dc rfl (TO.assign rfl dc rfl (TO.nil (TX.blockNormal ?_))))
              exact TX.meetD (cost6, to1, n3, s1, (s1.size : Int), (n3 : Int) != (s1.size : Int), to1, r4, !r4) h rfl (Sbs.cons rfl (Sbs.cons rfl (Sbs.cons rfl (Sbs.cons rfl (Sbs.cons rfl (Sbs.cons rfl (Sbs.cons rfl (Sbs.cons rfl (Sbs.cons rfl (Sbs.cons rfl (Sbs.cons rfl (Sbs.cons rfl (Sbs.cons rfl (Sbs.cons rfl (Sbs.cons rfl (Sbs.cons rfl (Sbs.nil))))))))))))))))) (Splits.of [0, 1, 2, 3, 4] kr rfl)
        ·
         rintro ⟨cost5, from4, x7, x8, x9, x10, x11, x12, x13⟩ h
         rw [hj3] at h
         show TC _ _ _ _ _ ([]) _ _ [(0, vrows1), (11, .pointer (some ⟨b3, 0, none⟩)), (12, .int .i64 cost5), (13, .int .i64 from4), (47, vrows1), (48, .int .i64 (rows1.length : Int)), (49, .int .i64 x6), (94, .int .i64 x7), (95, .string x8), (96, .int .i64 x9), (97, .bool x10), (100, .pointer (some ⟨b3, 0, none⟩)), (101, .int .i64 from3), (102, .int .i64 x11), (103, .bool x12), (104, .bool x13)] [vec encS 9 1 vvrows1 Lrows1, cells b3 [.string r3.s, hd1.v, hd2.v, hd3.v, .int .i64 r3.first, .int .i64 r3.rest] 57, vec enc_Gapi_Cell 52 3 hd1.v r3.cells, vec (encI (.i64)) 3 1 hd2.v r3.wide, vec (encI (.i64)) 3 1 hd3.v r3.ends]
         refine TC.region ?_
         obtain ⟨hg8, h⟩ := grdE h
         refine TO.bin rfl dc rfl rfl (bin_add (r := x6 + 1) (IntWalk.i64_in _ hg8)) (TO.move rfl dc rfl (TO.nil ?_))
         subst hag2
         exact TX.againD (n2, cost5, from4, x6 + 1) h (Nat.lt_succ_self _) rfl (Sbs.cons rfl (Sbs.cons rfl (Sbs.cons rfl (Sbs.cons rfl (Sbs.cons rfl (Sbs.cons rfl (Sbs.cons rfl (Sbs.nil)))))))) (Splits.of [0, 1, 2, 3, 4] kr rfl)
       ·
        have h := condF hb6 h
        refine TC.exit (TX.thenExit (TX.thenExit (TX.blockHere ?_)))
        exact TX.meetD cost4 h rfl (Sbs.cons rfl (Sbs.nil)) (Splits.of [0] kr rfl)
     ·
      rintro cost1 h
      rw [hj2] at h
      show TC _ _ _ _ _ ([]) _ _ [(12, .int .i64 cost1)] [vec encS 9 1 vvrows1 Lrows1]
      refine TC.seq (TC.region (TO.move rfl dc rfl (TO.assign rfl dc rfl (TO.assign rfl dc rfl (TO.nil (TX.next (TC.ret ?_)))))))
      cases h
      exact TX.fin (rs := [.tmp 6, .tmp 7]) () (.inl rfl) Try.results11 (.cons (.tmp rfl) (.cons (.tmp rfl) .nil)) rfl (Splits.of [0] kr rfl)
end Go.Proofs.Ytnhdnpdbmgeheaa
namespace Go.Proofs.Ytnhdnpdbmgeheaa
open Go.RowKit Go.Lib
set_option linter.unusedVariables false
set_option linter.unusedSimpArgs false
def catL : List ByteArray → ByteArray
  | [] => ⟨#[]⟩
  | x :: xs => x ++ catL xs
def sizL : List ByteArray → Nat
  | [] => 0
  | x :: xs => x.size + sizL xs
theorem catL_size : ∀ L : List ByteArray, (catL L).size = sizL L
  | [] => rfl
  | x :: L => by show (x ++ catL L).size = x.size + sizL L; rw [ByteArray.size_append, catL_size L]
theorem empty_app (x : ByteArray) : (⟨#[]⟩ : ByteArray) ++ x = x := ByteArray.empty_append ..
theorem app_empty (x : ByteArray) : x ++ (⟨#[]⟩ : ByteArray) = x := ByteArray.append_empty ..
/-! ### strings.Join -/
theorem join_len (L : List ByteArray) (hl : L.length ≤ 1000000) (hz : sizL L ≤ 100000000) (j : Int → Option ByteArray) : ∀ (ts pre : List ByteArray) (m : Nat), L = pre ++ ts → ts.length < m → loopG (fun _ _ => none) (strings_Join_s1 L j) m (sizL pre : Int) (pre.length : Int) = j (sizL L : Int)
  | [], pre, m, h, hm => by
    obtain ⟨m, rfl⟩ : ∃ q, m = q + 1 := ⟨m - 1, by simp at hm; omega⟩
    rw [List.append_nil] at h; subst h
    rw [loopI]
    generalize loopG (fun _ _ => none) (strings_Join_s1 L j) m = ag
    unfold strings_Join_s1
    exact condFI lp_ge rfl
  | t :: ts, pre, m, h, hm => by
    obtain ⟨m, rfl⟩ : ∃ q, m = q + 1 := ⟨m - 1, by simp at hm; omega⟩
    have hsz : ∀ A B : List ByteArray, sizL (A ++ B) = sizL A + sizL B := by
      intro A B
      induction A with
      | nil => show sizL B = 0 + sizL B; omega
      | cons x A ih => show x.size + sizL (A ++ B) = x.size + sizL A + sizL B; rw [ih]; omega
    have h1 : sizL (pre ++ [t]) = sizL pre + t.size := by rw [hsz]; show sizL pre + (t.size + 0) = _; omega
    have h2 : sizL L = sizL pre + (t.size + sizL ts) := by rw [h, hsz]; rfl
    have ih := join_len L hl hz j ts (pre ++ [t]) m (by rw [h]; simp) (by simp at hm; omega)
    rw [loopI]
    generalize loopG (fun _ _ => none) (strings_Join_s1 L j) m = ag at ih ⊢
    have hg : L[pre.length]? = some t := by rw [h]; simp
    have hpl := lp_lt' hg
    rw [h1, show (((pre ++ [t]).length : Nat) : Int) = (pre.length : Int) + 1 by simp] at ih
    unfold strings_Join_s1
    refine condTI (lp_lt hg) (thenI (lp_get hg) (grdI ⟨by omega, by omega⟩ (condFI (decide_eq_false (by omega)) (grdI ⟨by omega, by omega⟩ (grdI ⟨by omega, by omega⟩ ?_)))))
    rw [show (sizL pre : Int) + (t.size : Int) = ((sizL pre + t.size : Nat) : Int) by omega]
    exact ih
theorem join_cat (L : List ByteArray) (q : ByteArray) (T : List ByteArray) (hL : L = q :: T) (hl : L.length ≤ 1000000) (hz : sizL L ≤ 100000000) (j : ByteArray → Option ByteArray) : ∀ (ts pre : List ByteArray) (m : Nat) (b : ByteArray), T = pre ++ ts → ts.length < m → b.size + sizL ts ≤ 100000000 →
    loopG (fun _ _ => none) (strings_Join_s2 L ⟨#[]⟩ j) m b (pre.length : Int) = j (b ++ catL ts)
  | [], pre, m, b, h, hm, hb => by
    obtain ⟨m, rfl⟩ : ∃ q, m = q + 1 := ⟨m - 1, by simp at hm; omega⟩
    rw [loopI]
    generalize loopG (fun _ _ => none) (strings_Join_s2 L ⟨#[]⟩ j) m = ag
    unfold strings_Join_s2
    have hc : cutL L 1 (L.length : Int) = T := by rw [hL]; unfold cutL; simp
    rw [hc]
    refine condFI (decide_eq_false (by rw [h]; simp)) ?_
    show j b = j (b ++ (⟨#[]⟩ : ByteArray))
    rw [app_empty]
  | t :: ts, pre, m, b, h, hm, hb => by
    obtain ⟨m, rfl⟩ : ∃ q, m = q + 1 := ⟨m - 1, by simp at hm; omega⟩
    have hb' : b.size + (t.size + sizL ts) ≤ 100000000 := hb
    have ih := join_cat L q T hL hl hz j ts (pre ++ [t]) m (b ++ t) (by rw [h]; simp) (by simp at hm; omega) (by rw [ByteArray.size_append]; omega)
    rw [loopI]
    generalize loopG (fun _ _ => none) (strings_Join_s2 L ⟨#[]⟩ j) m = ag at ih ⊢
    have hc : cutL L 1 (L.length : Int) = T := by rw [hL]; unfold cutL; simp
    have hg : T[pre.length]? = some t := by rw [h]; simp
    have hpl := lp_lt' hg
    have hTl : T.length ≤ 1000000 := by rw [hL] at hl; simp at hl; omega
    rw [show (((pre ++ [t]).length : Nat) : Int) = (pre.length : Int) + 1 by simp] at ih
    unfold strings_Join_s2
    rw [hc, app_empty]
    refine condTI (lp_lt hg) (thenI (lp_get hg) (grdI (by show b.size + 0 ≤ _; omega) (grdI (by omega) (grdI ⟨by omega, by omega⟩ ?_))))
    rw [ih, ByteArray.append_assoc]; rfl
theorem join_v (L : List ByteArray) (hl : L.length ≤ 1000000) (hz : sizL L ≤ 100000000) : strings_Join_v L ⟨#[]⟩ = some (catL L) := by
  unfold strings_Join_v
  cases L with
  | nil => exact condTI rfl rfl
  | cons q T =>
    refine condFI (beqF (by rw [List.length_cons]; omega)) ?_
    by_cases h1 : T = []
    · subst h1
      refine condTI rfl (thenI (getO_of (n := 0) rfl rfl) ?_)
      show some q = some (q ++ (⟨#[]⟩ : ByteArray))
      rw [app_empty]
    · obtain ⟨t, ts, rfl⟩ := List.exists_cons_of_ne_nil h1
      refine condFI (beqF (by simp only [List.length_cons]; omega)) (joinI (condFI rfl (joinI ?_)))
      have hq : q.size ≤ sizL (q :: t :: ts) := by show q.size ≤ q.size + _; omega
      have h1 := join_len (q :: t :: ts) hl hz (fun (n2 : Int) => joinK (fun (j3 : ByteArray → Option ByteArray) => grd (0 ≤ (n2 : Int) ∧ (n2 : Int) ≤ 140737488355328) <| andThen (getO (q :: t :: ts) 0) fun (q3 : ByteArray) => grd ((⟨#[]⟩ : ByteArray).size + q3.size ≤ 140737488355328) <| grd (0 ≤ (1 : Int) ∧ (1 : Int) ≤ ((q :: t :: ts).length : Int) ∧ (((q :: t :: ts).length : Int) : Int) ≤ ((q :: t :: ts).length : Int)) <| loopG (fun _ _ => none) (strings_Join_s2 (q :: t :: ts) ⟨#[]⟩ j3) fuel ((⟨#[]⟩ : ByteArray) ++ q3) 0) (fun (b2 : ByteArray) => some b2)) (q :: t :: ts) [] fuel rfl (by have := big_fuel (n := (q :: t :: ts).length) (by omega); omega)
      refine h1.trans (joinI (grdI ⟨by omega, by omega⟩ (thenI (getO_of (n := 0) rfl rfl) (grdI (by show 0 + q.size ≤ _; omega) (grdI ⟨by omega, by rw [List.length_cons]; omega, by omega⟩ ?_)))))
      rw [empty_app]
      have h2 := join_cat (q :: t :: ts) q (t :: ts) rfl hl hz (fun (b2 : ByteArray) => some b2) (t :: ts) [] fuel q rfl (by have := big_fuel (n := (q :: t :: ts).length) (by omega); rw [List.length_cons] at this; omega) (by show q.size + sizL (t :: ts) ≤ _; exact hz)
      exact h2
def seekN (s : ByteArray) (g : Int) : Nat → Nat → Nat
  | 0, t => t
  | d + 1, t => if stN s t < g then seekN s g d (t + 1) else t
theorem seek_facts (s : ByteArray) (g : Int) : ∀ (d t : Nat), t ≤ seekN s g d t ∧ seekN s g d t ≤ t + d ∧ (seekN s g d t = t + d ∨ g ≤ stN s (seekN s g d t)) ∧ ∀ j, t ≤ j → j < seekN s g d t → stN s j < g
  | 0, t => ⟨Nat.le_refl _, Nat.le_refl _, .inl rfl, fun j h1 h2 => absurd h2 (by show ¬ j < t; omega)⟩
  | d + 1, t => by
    unfold seekN
    split
    · rename_i h
      obtain ⟨h1, h2, h3, h4⟩ := seek_facts s g d (t + 1)
      refine ⟨by omega, by omega, h3.imp (fun e => by omega) id, fun j a b => ?_⟩
      by_cases e : j = t
      · rw [e]; exact h
      · exact h4 j (by omega) b
    · rename_i h
      exact ⟨Nat.le_refl _, by omega, .inr (by omega), fun j a b => by omega⟩
def costF (s : ByteArray) (a b : Int) : Nat → List ByteArray → Option Int
  | _, [] => some 0
  | f, q :: L => if q = (⟨#[]⟩ : ByteArray) then none else
      let t := seekN s (stN s f + (q.size : Int)) ((cellsS s).length - f) f
      if stN s t - stN s f ≠ (q.size : Int) then none else if Rs s a b f t = true then (costF s a b t L).map (fun c => (if L = [] then 0 else Ks s a b f t) + c) else none
section
variable {s : ByteArray} {a b : Int} (hs : s.size ≤ 100000) (ha : 0 ≤ a ∧ a ≤ 1000000) (hb : 0 ≤ b ∧ b ≤ 1000000)
theorem cost_in (f : Nat) (q : ByteArray) (j4 : ByteArray → Int → Int → Option (Int × Int)) (hs : s.size ≤ 100000) : ∀ (d t m : Nat), t + d = (cellsS s).length → f ≤ t → d < m → loopG (fun _ _ => none) (page_Cost_s3 (turnT s a b) j4 q) m (t : Int) (stN s t - stN s f) =
    j4 q (seekN s (stN s f + (q.size : Int)) d t : Int) (stN s (seekN s (stN s f + (q.size : Int)) d t) - stN s f) := by
  have hle := cs_le hs
  intro d
  induction d with
  | zero =>
    intro t m ht hf hm
    obtain ⟨m, rfl⟩ : ∃ q, m = q + 1 := ⟨m - 1, by omega⟩
    rw [loopI]
    generalize loopG (fun _ _ => none) (page_Cost_s3 (turnT s a b) j4 q) m = ag
    unfold page_Cost_s3
    exact condFI (decide_eq_false (by show ¬ ((t : Int) < ((cellsS s).length : Int)); omega)) rfl
  | succ d ih =>
    intro t m ht hf hm
    obtain ⟨m, rfl⟩ : ∃ q, m = q + 1 := ⟨m - 1, by omega⟩
    have ih' := ih (t + 1) m (by omega) (by omega) (by omega)
    rw [loopI]
    generalize loopG (fun _ _ => none) (page_Cost_s3 (turnT s a b) j4 q) m = ag at ih' ⊢
    have hx : (cellsS s)[t]? = some (cellsS s)[t] := List.getElem?_eq_getElem (by omega)
    obtain ⟨h1, h2, h3, h4, h5⟩ := stN_to s hx
    have hf0 := stN_rng s (k := f) (by omega)
    unfold page_Cost_s3 seekN
    refine condTI (decide_eq_true (by show (t : Int) < ((cellsS s).length : Int); omega)) ?_
    by_cases h : stN s t < stN s f + (q.size : Int)
    · rw [if_pos h]
      refine condTI (decide_eq_true (by omega)) (thenI (lp_get hx) (grdI ⟨by omega, by omega⟩ (grdI ⟨by omega, by omega⟩ (grdI ⟨by omega, by omega⟩ ?_))))
      rw [show stN s t - stN s f + ((cellsS s)[t].Span_To - (cellsS s)[t].Span_From) = stN s (t + 1) - stN s f by omega, show (t : Int) + 1 = ((t + 1 : Nat) : Int) by omega]
      exact ih'
    · rw [if_neg h]
      exact condFI (decide_eq_false (by omega)) rfl
def cRes (j : Int → Option (Int × Int)) (c : Int) : Option Int → Option (Int × Int)
  | none => some (0, 2)
  | some x => j (c + x)
include hs ha hb
theorem cost_go (rows : List ByteArray) (hl : rows.length ≤ 100000) (j2 : Int → Option (Int × Int)) : ∀ (L pre : List ByteArray) (f m : Nat) (c : Int), rows = pre ++ L → f ≤ (cellsS s).length → L.length < m → 0 ≤ c ∧ c ≤ 2000000000000 * pre.length →
    loopG (fun _ _ _ => none) (page_Cost_s2 rows j2 (turnT s a b)) m c (f : Int) (pre.length : Int) = cRes j2 c (costF s a b f L)
  | [], pre, f, m, c, h, hf, hm, hc => by
    obtain ⟨m, rfl⟩ : ∃ q, m = q + 1 := ⟨m - 1, by simp at hm; omega⟩
    rw [List.append_nil] at h; subst h
    rw [loopI]
    generalize loopG (fun _ _ _ => none) (page_Cost_s2 rows j2 (turnT s a b)) m = ag
    unfold page_Cost_s2
    refine condFI lp_ge ?_
    show j2 c = j2 (c + 0)
    rw [Int.add_zero]
  | q :: L, pre, f, m, c, h, hf, hm, hc => by
    obtain ⟨m, rfl⟩ : ∃ q, m = q + 1 := ⟨m - 1, by simp at hm; omega⟩
    have hle := cs_le hs
    obtain ⟨g1, g2, g3, g4⟩ := seek_facts s (stN s f + (q.size : Int)) ((cellsS s).length - f) f
    have ih := fun c' hc' => cost_go rows hl j2 L (pre ++ [q]) (seekN s (stN s f + (q.size : Int)) ((cellsS s).length - f) f) m c' (by rw [h]; simp) (by omega) (by simp at hm; omega) hc'
    have hin := fun j4 => cost_in (s := s) (a := a) (b := b) f q j4 hs ((cellsS s).length - f) f fuel (by omega) (Nat.le_refl _) (by have := big_fuel (n := (cellsS s).length) (by omega); omega)
    have hK := costN_rng hs ha hb f (seekN s (stN s f + (q.size : Int)) ((cellsS s).length - f) f)
    have hg : rows[pre.length]? = some q := by rw [h]; simp
    have hpl := lp_lt' hg
    rw [loopI]
    rw [show (((pre ++ [q]).length : Nat) : Int) = (pre.length : Int) + 1 by simp] at ih
    generalize loopG (fun _ _ _ => none) (page_Cost_s2 rows j2 (turnT s a b)) m = ag at ih ⊢
    unfold page_Cost_s2 costF
    refine condTI (lp_lt hg) (joinI (joinI (thenI (lp_get hg) ?_)))
    rw [Int.sub_self] at hin
    rw [hin]
    generalize seekN s (stN s f + (q.size : Int)) ((cellsS s).length - f) f = t at *
    by_cases he : q = (⟨#[]⟩ : ByteArray)
    · rw [if_pos he]; exact condTI (decide_eq_true he) rfl
    rw [if_neg he]
    refine condFI (decide_eq_false he) ?_
    simp only
    by_cases hz : stN s t - stN s f = (q.size : Int)
    · have hqs : 0 < q.size := by
        rcases Nat.eq_zero_or_pos q.size with h0 | h0
        · exact absurd (ByteArray.ext (Array.eq_empty_of_size_eq_zero h0)) he
        · exact h0
      have hft : f < t := by
        rcases Nat.lt_or_ge f t with h' | h'
        · exact h'
        · have : t = f := by omega
          rw [this] at hz; omega
      rw [if_neg (by omega)]
      refine condFI (neqF hz) (thenI (rowT_v hs f t hft (by omega)) ?_)
      have hRs : Rs s a b f t = rowN (spB s) (cellsS s) a b f t := rfl
      rw [hRs]
      cases hR : rowN (spB s) (cellsS s) a b f t with
      | false => exact condTI rfl (by rw [if_neg (by decide)]; rfl)
      | true =>
        rw [if_pos rfl]
        refine condFI rfl (joinI (grdI ⟨by omega, by omega⟩ ?_))
        by_cases hL : L = []
        · rw [if_pos hL]
          refine condFI (decide_eq_false (by rw [h, hL]; simp)) (grdI ⟨by omega, by omega⟩ ?_)
          rw [ih c ⟨hc.1, by omega⟩]
          cases costF s a b t L with
          | none => rfl
          | some x => show j2 (c + x) = j2 (c + (0 + x)); rw [Int.zero_add]
        · rw [if_neg hL]
          have hLl : 0 < L.length := List.length_pos_iff.2 hL
          have hrl : rows.length = pre.length + (1 + L.length) := by rw [h]; simp; omega
          refine condTI (decide_eq_true (by omega)) (thenI (costT_v hs ha hb f t hft (by omega)) (grdI ⟨by omega, by omega⟩ (grdI ⟨by omega, by omega⟩ ?_)))
          rw [ih (c + costN (spB s) (cellsS s) a b f t) ⟨by omega, by omega⟩]
          cases costF s a b t L with
          | none => rfl
          | some x => show j2 (c + _ + x) = j2 (c + (_ + x)); rw [Int.add_assoc]
    · rw [if_pos hz]
      exact condTI (neqI hz) rfl
end
end Go.Proofs.Ytnhdnpdbmgeheaa
namespace Go.Proofs.Ytnhdnpdbmgeheaa
open Go.RowKit Go.Lib
set_option linter.unusedVariables false
set_option linter.unusedSimpArgs false
def ref02_Pieces_s1 (s1 : ByteArray) (j1 : (List Gref02_Piece) → Option (List Gref02_Piece)) (ag1 : (List Gref02_Piece) → Nat → Option (List Gref02_Piece)) (l4 : List Gref02_Piece) (m3 : Nat) : Option (List Gref02_Piece) := bcond (decide (m3 < (pcs s1.data.toList).length)) ( andThen ((pcs s1.data.toList)[m3]?) fun (p1 : Pc) => joinK (fun (j2 : (List Gref02_Piece) → Option (List Gref02_Piece)) => bcond (decide ((0 : Int) < (l4.length : Int))) ( grd (I64 ((l4.length : Int) - 1)) <| grd (I64 ((l4.length : Int) - 1)) <| andThen (getO l4 ((l4.length : Int) - 1)) fun (q1 : Gref02_Piece) => grd (I64 ((p1.i : Int) - q1.At)) <| j2 (l4.set ((l4.length : Int) - 1 : Int).toNat (⟨q1.At, (p1.i : Int) - q1.At, q1.Rune⟩ : Gref02_Piece))
) ( j2 l4
)
) (fun (l5 : List Gref02_Piece) => grd (l5.length + 1 ≤ 2147483648) <| ag1 (l5 ++ [(⟨(p1.i : Int), 0, (p1.r : Int)⟩ : Gref02_Piece)]) (m3 + 1)
)
) ( j1 l4
)
def ref02_Pieces_v (s1 : ByteArray) : Option (List Gref02_Piece) := joinK (fun (j1 : (List Gref02_Piece) → Option (List Gref02_Piece)) => loopG (fun _ _ => none) (ref02_Pieces_s1 s1 j1) fuel ([] : List Gref02_Piece) 0
) (fun (l1 : List Gref02_Piece) => joinK (fun (j3 : (List Gref02_Piece) → Option (List Gref02_Piece)) => bcond (decide ((0 : Int) < (l1.length : Int))) ( grd (I64 ((l1.length : Int) - 1)) <| grd (I64 ((l1.length : Int) - 1)) <| andThen (getO l1 ((l1.length : Int) - 1)) fun (q2 : Gref02_Piece) => grd (I64 ((s1.size : Int) - q2.At)) <| j3 (l1.set ((l1.length : Int) - 1 : Int).toNat (⟨q2.At, (s1.size : Int) - q2.At, q2.Rune⟩ : Gref02_Piece))
) ( j3 l1
)
) (fun (l6 : List Gref02_Piece) => some l6
)
)
set_option maxRecDepth 100000 in
set_option maxHeartbeats 4000000 in
theorem ref02_Pieces_fn {s1 : ByteArray} {r : (List Gref02_Piece)} (h : ref02_Pieces_v s1 = some r) : Fn Try.prog 36 [.string s1] [] (fun v0 : Value => v0) (fun v0 => [vec enc_Gref02_Piece 90 3 v0 r]) := by
 unfold ref02_Pieces_v at h
 refine Fn.intro Try.func36 rfl Try.ntmps36 (by simp) ?_
 intro w0 K
 obtain ⟨j1, hj1, h⟩ := joinE h
 refine TC.cutN (β := (List Gref02_Piece) × Value) 2 rfl (fun b => j1 b.1 = some r) (fun b => []) (fun b => [(0, .string s1), (3, b.2)]) (fun b => [vec enc_Gref02_Piece 90 3 b.2 b.1]) (fun cut => ?_) ?_
 ·
  refine TC.seq (TC.region (TO.assign rfl dc rfl (TO.nil (TX.next (TC.seq (TC.region (TO.assign rfl dc rfl (TO.nil (TX.next (cut (TC.seq (TC.region (TO.move rfl dc rfl ?_)))))))))))))
  refine TO.rangeStr Try.underlying9 rfl dc rfl (fun b1 => ?_)
  refine TO.nil (TX.next (TC.block (TC.newVec (enc := enc_Gref02_Piece) (e := 90) (size := 3) ?_)))
  show TC _ _ _ _ _ _ _ _ _ [obj b1 (.stringIter s1 (posAt s1 0)), vec enc_Gref02_Piece 90 3 (.slice none 0 0) ([] : List Gref02_Piece)]
  refine TC.loopD (β := Nat × (List Gref02_Piece) × Nat × Value) (fun b => loopG (fun _ _ => none) (ref02_Pieces_s1 s1 j1) b.1 b.2.1 b.2.2.1 = some r) (fun b => []) (fun b => [(0, .string s1), (3, b.2.2.2), (7, .pointer (some ⟨b1, 0, none⟩))]) (fun b => [vec enc_Gref02_Piece 90 3 b.2.2.2 b.2.1, obj b1 (.stringIter s1 (posAt s1 b.2.2.1))]) (fun b => b.1) (fuel, ([] : List Gref02_Piece), 0, (.slice none 0 0)) h rfl (Sbs.cons rfl (Sbs.cons rfl (Sbs.cons rfl (Sbs.nil)))) (Splits.of [1, 0] kr rfl) ?_
  rintro ⟨n1, l4, m3, v4⟩ h
  cases n1 with
  | zero => exact noneE h
  | succ n1 =>
   obtain ⟨ag1, hag1⟩ : ∃ ag, ag = loopG (fun _ _ => none) (ref02_Pieces_s1 s1 j1) n1 := ⟨_, rfl⟩
   have h : ref02_Pieces_s1 s1 j1 ag1 l4 m3 = some r := by rw [hag1]; exact h
   unfold ref02_Pieces_s1 at h
   show TC _ _ _ _ _ ([]) _ _ [(0, .string s1), (3, v4), (7, .pointer (some ⟨b1, 0, none⟩))] [vec enc_Gref02_Piece 90 3 v4 l4, obj b1 (.stringIter s1 (posAt s1 m3))]
   refine TC.seq (TC.region ?_)
   refine TO.bySplit (b := decide (m3 < (pcs s1.data.toList).length)) (fun hb1 => ?_) (fun hb1 => ?_)
   ·
    have h := condT hb1 h
    obtain ⟨p1, hq1, h⟩ := andE h
    refine TO.nextStr (k := 1) (m := m3) (p := p1) rfl dc rfl rfl hq1 (TO.extract rfl dc rfl rfl (TO.nil (TX.next (TC.seq (TC.condT rfl (TC.skip (TX.next (TC.block ?_))))))))
    obtain ⟨j2, hj2, h⟩ := joinE h
    refine TC.cutN (β := (List Gref02_Piece)) 1 rfl (fun b => j2 b = some r) (fun b => []) (fun b => [(0, .string s1), (3, v4), (4, .int .i64 (p1.i : Int)), (5, .int .i32 (p1.r : Int)), (7, .pointer (some ⟨b1, 0, none⟩))]) (fun b => [vec enc_Gref02_Piece 90 3 v4 b, obj b1 (.stringIter s1 (posAt s1 (m3 + 1)))]) (fun cut => ?_) ?_
    ·
     refine TC.seq (TC.region (TO.extract rfl dc rfl rfl (TO.extract rfl dc rfl rfl (TO.assign rfl dc rfl (TO.assign rfl dc rfl (TO.nil (TX.next (cut (TC.seq (TC.region (TO.move rfl dc rfl (TO.lenVec (k := 0) rfl dc rfl rfl Try.underlying87 (TO.bin rfl dc rfl rfl bin_gtr ?_)))))))))))))
     refine TO.nil (TX.next ?_)
     refine TC.condB rfl (fun hb2 => ?_) (fun hb2 => ?_)
     ·
      have h := condT hb2 h
      refine TC.region (TO.move rfl dc rfl (TO.move rfl dc rfl (TO.lenVec (k := 0) rfl dc rfl rfl Try.underlying87 ?_)))
      obtain ⟨hg1, h⟩ := grdE h
      refine TO.bin rfl dc rfl rfl (bin_sub (r := (l4.length : Int) - 1) (IntWalk.i64_in _ hg1)) (TO.move rfl dc rfl (TO.move rfl dc rfl (TO.move rfl dc rfl (TO.lenVec (k := 0) rfl dc rfl rfl Try.underlying87 ?_))))
      obtain ⟨hg2, h⟩ := grdE h
      refine TO.bin rfl dc rfl rfl (bin_sub (r := (l4.length : Int) - 1) (IntWalk.i64_in _ hg2)) ?_
      obtain ⟨q1, hq2, h⟩ := andE h
      refine TO.indexVecI (k := 0) hq2 Try.underlying87 sz_90 rfl dc rfl rfl rfl rfl (TO.fieldAddr fl_90_0 rfl dc rfl (show _ = (((l4.length : Int) - 1 : Int).toNat) * 3 from rfl) (TO.loadVec (i := ((l4.length : Int) - 1 : Int).toNat) (j := 0) (k := 0) (q := q1) sc_3 enc_Gref02_Piece_len rfl dc rfl rfl (getO_get hq2) rfl dc rfl ?_))
      obtain ⟨hg3, h⟩ := grdE h
      refine TO.bin rfl dc rfl rfl (bin_sub (r := (p1.i : Int) - q1.At) (IntWalk.i64_in _ hg3)) (TO.indexVecI (k := 0) hq2 Try.underlying87 sz_90 rfl dc rfl rfl rfl rfl (TO.fieldAddr fl_90_1 rfl dc rfl (show _ = (((l4.length : Int) - 1 : Int).toNat) * 3 + 1 from rfl) ?_))
      refine TO.storeVec (i := ((l4.length : Int) - 1 : Int).toNat) (j := 1) (k := 0) (q := q1) (q' := (⟨q1.At, (p1.i : Int) - q1.At, q1.Rune⟩ : Gref02_Piece)) sz_3 enc_Gref02_Piece_len rfl rfl rfl rfl (getO_get hq2) rfl dc rfl (fun _ _ => rfl) ?_
      show TO _ _ _ _ _ _ _ _ _ _ [vec enc_Gref02_Piece 90 3 v4 (l4.set ((l4.length : Int) - 1 : Int).toNat (⟨q1.At, (p1.i : Int) - q1.At, q1.Rune⟩ : Gref02_Piece)), obj b1 (.stringIter s1 (posAt s1 (m3 + 1)))]
      refine TO.nil ?_
      exact TX.meetD (l4.set ((l4.length : Int) - 1 : Int).toNat (⟨q1.At, (p1.i : Int) - q1.At, q1.Rune⟩ : Gref02_Piece)) h rfl (Sbs.cons rfl (Sbs.cons rfl (Sbs.cons rfl (Sbs.cons rfl (Sbs.cons rfl (Sbs.nil)))))) (Splits.of [0, 1] kr rfl)
     ·
      have h := condF hb2 h
      refine TC.skip ?_
      exact TX.meetD l4 h rfl (Sbs.cons rfl (Sbs.cons rfl (Sbs.cons rfl (Sbs.cons rfl (Sbs.cons rfl (Sbs.nil)))))) (Splits.of [0, 1] kr rfl)
    ·
     rintro l5 h
     rw [hj2] at h
     show TC _ _ _ _ _ ([]) _ _ [(0, .string s1), (3, v4), (4, .int .i64 (p1.i : Int)), (5, .int .i32 (p1.r : Int)), (7, .pointer (some ⟨b1, 0, none⟩))] [vec enc_Gref02_Piece 90 3 v4 l5, obj b1 (.stringIter s1 (posAt s1 (m3 + 1)))]
     refine TC.region (TO.move rfl dc rfl (TO.move rfl dc rfl (TO.move rfl dc rfl ?_)))
     refine TO.build (v := .agg #[.int .i64 (p1.i : Int), .int .i64 0, .int .i32 (p1.r : Int)]) (ps := [(0, .tmp 31), (2, .tmp 32)]) rfl dc rfl (fun _ => by kernel_rfl) ?_
     refine TO.buildSlice (cs := [.int .i64 (p1.i : Int), .int .i64 0, .int .i32 (p1.r : Int)]) (te := 90) (ps := [(0, .tmp 33)]) rfl dc rfl (fun _ => by kernel_rfl) (fun b2 => ?_)
     obtain ⟨hg4, h⟩ := grdE h
     refine TO.appendVec (k := 0) (k2 := 2) (ys := [(⟨(p1.i : Int), 0, (p1.r : Int)⟩ : Gref02_Piece)]) Try.underlying87 el_90 enc_Gref02_Piece_len enc_Gref02_Piece_one rfl dc rfl rfl rfl rfl rfl rfl hg4 (fun v5 => ?_)
     show TO _ _ _ _ _ _ _ _ _ _ [vec enc_Gref02_Piece 90 3 v5 (l5 ++ [(⟨(p1.i : Int), 0, (p1.r : Int)⟩ : Gref02_Piece)]), obj b1 (.stringIter s1 (posAt s1 (m3 + 1))), cells b2 [.int .i64 (p1.i : Int), .int .i64 0, .int .i32 (p1.r : Int)] 90]
     refine TO.assign rfl dc rfl (TO.nil (TX.blockNormal ?_))
     subst hag1
     exact TX.againD (n1, l5 ++ [(⟨(p1.i : Int), 0, (p1.r : Int)⟩ : Gref02_Piece)], m3 + 1, v5) h (Nat.lt_succ_self _) rfl (Sbs.cons rfl (Sbs.cons rfl (Sbs.cons rfl (Sbs.nil)))) (Splits.of [0, 1] kr rfl)
   ·
    have h := condF hb1 h
    refine TO.nextEnd (k := 1) (m := m3) rfl dc rfl rfl (Nat.le_of_not_lt (of_decide_eq_false hb1)) (TO.extract rfl dc rfl rfl (TO.nil (TX.next (TC.seq (TC.condF rfl (TC.exit (TX.thenExit (TX.thenExit (TX.blockHere ?_)))))))))
    exact TX.meetD (l4, v4) h rfl (Sbs.cons rfl (Sbs.cons rfl (Sbs.nil))) (Splits.of [0] kr rfl)
 ·
  rintro ⟨l1, v1⟩ h
  rw [hj1] at h
  show TC _ _ _ _ _ ([]) _ _ [(0, .string s1), (3, v1)] [vec enc_Gref02_Piece 90 3 v1 l1]
  obtain ⟨j3, hj3, h⟩ := joinE h
  refine TC.cutN (β := (List Gref02_Piece)) 0 rfl (fun b => j3 b = some r) (fun b => []) (fun b => [(3, v1)]) (fun b => [vec enc_Gref02_Piece 90 3 v1 b]) (fun cut => ?_) ?_
  ·
   refine cut (TC.seq (TC.region (TO.move rfl dc rfl (TO.lenVec (k := 0) rfl dc rfl rfl Try.underlying87 (TO.bin rfl dc rfl rfl bin_gtr (TO.nil (TX.next ?_)))))))
   refine TC.condB rfl (fun hb3 => ?_) (fun hb3 => ?_)
   ·
    have h := condT hb3 h
    refine TC.region (TO.move rfl dc rfl (TO.move rfl dc rfl (TO.lenVec (k := 0) rfl dc rfl rfl Try.underlying87 ?_)))
    obtain ⟨hg5, h⟩ := grdE h
    refine TO.bin rfl dc rfl rfl (bin_sub (r := (l1.length : Int) - 1) (IntWalk.i64_in _ hg5)) (TO.move rfl dc rfl (TO.lenStr rfl dc rfl Try.underlying9 (TO.move rfl dc rfl (TO.move rfl dc rfl (TO.lenVec (k := 0) rfl dc rfl rfl Try.underlying87 ?_)))))
    obtain ⟨hg6, h⟩ := grdE h
    refine TO.bin rfl dc rfl rfl (bin_sub (r := (l1.length : Int) - 1) (IntWalk.i64_in _ hg6)) ?_
    obtain ⟨q2, hq3, h⟩ := andE h
    refine TO.indexVecI (k := 0) hq3 Try.underlying87 sz_90 rfl dc rfl rfl rfl rfl (TO.fieldAddr fl_90_0 rfl dc rfl (show _ = (((l1.length : Int) - 1 : Int).toNat) * 3 from rfl) (TO.loadVec (i := ((l1.length : Int) - 1 : Int).toNat) (j := 0) (k := 0) (q := q2) sc_3 enc_Gref02_Piece_len rfl dc rfl rfl (getO_get hq3) rfl dc rfl ?_))
    obtain ⟨hg7, h⟩ := grdE h
    refine TO.bin rfl dc rfl rfl (bin_sub (r := (s1.size : Int) - q2.At) (IntWalk.i64_in _ hg7)) (TO.indexVecI (k := 0) hq3 Try.underlying87 sz_90 rfl dc rfl rfl rfl rfl (TO.fieldAddr fl_90_1 rfl dc rfl (show _ = (((l1.length : Int) - 1 : Int).toNat) * 3 + 1 from rfl) ?_))
    refine TO.storeVec (i := ((l1.length : Int) - 1 : Int).toNat) (j := 1) (k := 0) (q := q2) (q' := (⟨q2.At, (s1.size : Int) - q2.At, q2.Rune⟩ : Gref02_Piece)) sz_3 enc_Gref02_Piece_len rfl rfl rfl rfl (getO_get hq3) rfl dc rfl (fun _ _ => rfl) ?_
    refine TO.nil ?_
    exact TX.meetD (l1.set ((l1.length : Int) - 1 : Int).toNat (⟨q2.At, (s1.size : Int) - q2.At, q2.Rune⟩ : Gref02_Piece)) h rfl (Sbs.cons rfl (Sbs.nil)) (Splits.of [0] kr rfl)
   ·
    have h := condF hb3 h
    refine TC.skip ?_
    exact TX.meetD l1 h rfl (Sbs.cons rfl (Sbs.nil)) (Splits.of [0] kr rfl)
  ·
   rintro l6 h
   rw [hj3] at h
   show TC _ _ _ _ _ ([]) _ _ [(3, v1)] [vec enc_Gref02_Piece 90 3 v1 l6]
   refine TC.seq (TC.region (TO.move rfl dc rfl (TO.assign rfl dc rfl (TO.nil (TX.next (TC.ret ?_))))))
   cases h
   exact TX.fin (rs := [.tmp 2]) v1 (.inl rfl) Try.results36 (.cons (.tmp rfl) .nil) rfl (Splits.of [0] kr rfl)
def ref05_wide_s1 (r1 : Int) (j1 : Option Bool) (ag1 : Int → Option Bool) (i3 : Int) : Option Bool := bcond (decide ((i3 : Int) < 12)) ( joinK (fun (j2 : Option Bool) => andThen (getO ([4352, 11904, 12353, 19968, 44032, 63744, 65072, 65280, 65504, 127744, 129280, 131072] : List Int) i3) fun (q1 : Int) => bcond (decide ((q1 : Int) ≤ r1)) ( andThen (getO ([4447, 12350, 19903, 42191, 55203, 64255, 65135, 65376, 65510, 128591, 129535, 262141] : List Int) i3) fun (q2 : Int) => bcond (decide ((r1 : Int) ≤ q2)) ( some true
) ( j2
)
) ( j2
)
) ( grd (I64 (i3 + 1)) <| ag1 (i3 + 1)
)
) ( j1
)
def ref05_wide_v (r1 : Int) : Option Bool := joinK (fun (j1 : Option Bool) => loopG (fun _ => none) (ref05_wide_s1 r1 j1) fuel 0
) ( some false
)
set_option maxRecDepth 100000 in
set_option maxHeartbeats 4000000 in
theorem ref05_wide_fn {r1 : Int} {r : Bool} (h : ref05_wide_v r1 = some r) : FnP Try.prog 38 [.int .i32 r1] (.bool r) := by
 unfold ref05_wide_v at h
 refine FnP.intro Try.func38 rfl Try.ntmps38 (by simp) ?_
 intro w0 K
 obtain ⟨j1, hj1, h⟩ := joinE h
 refine TC.cutN (β := Unit) 3 rfl (fun b => j1 = some r) (fun b => []) (fun b => []) (fun b => []) (fun cut => ?_) ?_
 ·
  refine TC.seq (TC.region (TO.assign rfl dc rfl (TO.nil (TX.next (TC.seq (TC.region ?_))))))
  refine TO.build (v := .agg #[.int .i32 4352, .int .i32 11904, .int .i32 12353, .int .i32 19968, .int .i32 44032, .int .i32 63744, .int .i32 65072, .int .i32 65280, .int .i32 65504, .int .i32 127744, .int .i32 129280, .int .i32 131072]) (ps := [(0, .const (.int .i32 4352)), (1, .const (.int .i32 11904)), (2, .const (.int .i32 12353)), (3, .const (.int .i32 19968)), (4, .const (.int .i32 44032)), (5, .const (.int .i32 63744)), (6, .const (.int .i32 65072)), (7, .const (.int .i32 65280)), (8, .const (.int .i32 65504)), (9, .const (.int .i32 127744)), (10, .const (.int .i32 129280)), (11, .const (.int .i32 131072))]) rfl dc rfl (fun _ => by kernel_rfl) ?_
  refine TO.alloc zr_105 rfl dc (fun b1 => ?_)
  refine TO.stores (k := 0) (vs := [.int .i32 4352, .int .i32 11904, .int .i32 12353, .int .i32 19968, .int .i32 44032, .int .i32 63744, .int .i32 65072, .int .i32 65280, .int .i32 65504, .int .i32 127744, .int .i32 129280, .int .i32 131072]) (l' := [.int .i32 4352, .int .i32 11904, .int .i32 12353, .int .i32 19968, .int .i32 44032, .int .i32 63744, .int .i32 65072, .int .i32 65280, .int .i32 65504, .int .i32 127744, .int .i32 129280, .int .i32 131072]) sz_105 rfl rfl rfl rfl rfl (show _ ≤ _ by simp) rfl rfl ?_
  show TO _ _ _ _ _ _ _ _ _ _ [cells b1 [.int .i32 4352, .int .i32 11904, .int .i32 12353, .int .i32 19968, .int .i32 44032, .int .i32 63744, .int .i32 65072, .int .i32 65280, .int .i32 65504, .int .i32 127744, .int .i32 129280, .int .i32 131072] 105]
  refine TO.nil (TX.next (TC.seq (TC.region ?_)))
  refine TO.build (v := .agg #[.int .i32 4447, .int .i32 12350, .int .i32 19903, .int .i32 42191, .int .i32 55203, .int .i32 64255, .int .i32 65135, .int .i32 65376, .int .i32 65510, .int .i32 128591, .int .i32 129535, .int .i32 262141]) (ps := [(0, .const (.int .i32 4447)), (1, .const (.int .i32 12350)), (2, .const (.int .i32 19903)), (3, .const (.int .i32 42191)), (4, .const (.int .i32 55203)), (5, .const (.int .i32 64255)), (6, .const (.int .i32 65135)), (7, .const (.int .i32 65376)), (8, .const (.int .i32 65510)), (9, .const (.int .i32 128591)), (10, .const (.int .i32 129535)), (11, .const (.int .i32 262141))]) rfl dc rfl (fun _ => by kernel_rfl) ?_
  refine TO.alloc zr_105 rfl dc (fun b2 => ?_)
  refine TO.stores (k := 1) (vs := [.int .i32 4447, .int .i32 12350, .int .i32 19903, .int .i32 42191, .int .i32 55203, .int .i32 64255, .int .i32 65135, .int .i32 65376, .int .i32 65510, .int .i32 128591, .int .i32 129535, .int .i32 262141]) (l' := [.int .i32 4447, .int .i32 12350, .int .i32 19903, .int .i32 42191, .int .i32 55203, .int .i32 64255, .int .i32 65135, .int .i32 65376, .int .i32 65510, .int .i32 128591, .int .i32 129535, .int .i32 262141]) sz_105 rfl rfl rfl rfl rfl (show _ ≤ _ by simp) rfl rfl ?_
  show TO _ _ _ _ _ _ _ _ _ _ [cells b1 [.int .i32 4352, .int .i32 11904, .int .i32 12353, .int .i32 19968, .int .i32 44032, .int .i32 63744, .int .i32 65072, .int .i32 65280, .int .i32 65504, .int .i32 127744, .int .i32 129280, .int .i32 131072] 105, cells b2 [.int .i32 4447, .int .i32 12350, .int .i32 19903, .int .i32 42191, .int .i32 55203, .int .i32 64255, .int .i32 65135, .int .i32 65376, .int .i32 65510, .int .i32 128591, .int .i32 129535, .int .i32 262141] 105]
  refine TO.nil (TX.next (cut (TC.seq (TC.region (TO.assign rfl dc rfl (TO.nil (TX.next (TC.block ?_))))))))
  refine TC.loopD (β := Nat × Int) (fun b => loopG (fun _ => none) (ref05_wide_s1 r1 j1) b.1 b.2 = some r) (fun b => []) (fun b => [(0, .int .i32 r1), (3, .pointer (some ⟨b1, 0, none⟩)), (4, .pointer (some ⟨b2, 0, none⟩)), (5, .int .i64 b.2)]) (fun b => [cells b1 [.int .i32 4352, .int .i32 11904, .int .i32 12353, .int .i32 19968, .int .i32 44032, .int .i32 63744, .int .i32 65072, .int .i32 65280, .int .i32 65504, .int .i32 127744, .int .i32 129280, .int .i32 131072] 105, cells b2 [.int .i32 4447, .int .i32 12350, .int .i32 19903, .int .i32 42191, .int .i32 55203, .int .i32 64255, .int .i32 65135, .int .i32 65376, .int .i32 65510, .int .i32 128591, .int .i32 129535, .int .i32 262141] 105]) (fun b => b.1) (fuel, 0) h rfl (Sbs.cons rfl (Sbs.cons rfl (Sbs.cons rfl (Sbs.cons rfl (Sbs.nil))))) (Splits.of [0, 1] kr rfl) ?_
  rintro ⟨n1, i3⟩ h
  cases n1 with
  | zero => exact noneE h
  | succ n1 =>
   obtain ⟨ag1, hag1⟩ : ∃ ag, ag = loopG (fun _ => none) (ref05_wide_s1 r1 j1) n1 := ⟨_, rfl⟩
   have h : ref05_wide_s1 r1 j1 ag1 i3 = some r := by rw [hag1]; exact h
   unfold ref05_wide_s1 at h
   show TC _ _ _ _ _ ([]) _ _ [(0, .int .i32 r1), (3, .pointer (some ⟨b1, 0, none⟩)), (4, .pointer (some ⟨b2, 0, none⟩)), (5, .int .i64 i3)] [cells b1 [.int .i32 4352, .int .i32 11904, .int .i32 12353, .int .i32 19968, .int .i32 44032, .int .i32 63744, .int .i32 65072, .int .i32 65280, .int .i32 65504, .int .i32 127744, .int .i32 129280, .int .i32 131072] 105, cells b2 [.int .i32 4447, .int .i32 12350, .int .i32 19903, .int .i32 42191, .int .i32 55203, .int .i32 64255, .int .i32 65135, .int .i32 65376, .int .i32 65510, .int .i32 128591, .int .i32 129535, .int .i32 262141] 105]
   refine TC.seq (TC.seq (TC.region (TO.move rfl dc rfl (TO.bin rfl dc rfl rfl bin_lss (TO.nil (TX.next ?_))))))
   refine TC.condB rfl (fun hb1 => ?_) (fun hb1 => ?_)
   ·
    have h := condT hb1 h
    refine TC.skip (TX.next ?_)
    obtain ⟨j2, hj2, h⟩ := joinE h
    refine TC.cutN (β := Unit) 0 rfl (fun b => j2 = some r) (fun b => []) (fun b => [(0, .int .i32 r1), (3, .pointer (some ⟨b1, 0, none⟩)), (4, .pointer (some ⟨b2, 0, none⟩)), (5, .int .i64 i3)]) (fun b => [cells b1 [.int .i32 4352, .int .i32 11904, .int .i32 12353, .int .i32 19968, .int .i32 44032, .int .i32 63744, .int .i32 65072, .int .i32 65280, .int .i32 65504, .int .i32 127744, .int .i32 129280, .int .i32 131072] 105, cells b2 [.int .i32 4447, .int .i32 12350, .int .i32 19903, .int .i32 42191, .int .i32 55203, .int .i32 64255, .int .i32 65135, .int .i32 65376, .int .i32 65510, .int .i32 128591, .int .i32 129535, .int .i32 262141] 105]) (fun cut => ?_) ?_
    ·
     refine cut (TC.block (TC.seq (TC.region (TO.move rfl dc rfl ?_))))
     obtain ⟨q1, hq1, h⟩ := andE h
     refine TO.indexArr (getO_pos hq1) Try.underlying105 sz_21 rfl dc rfl rfl (Nat.zero_add _) (TO.toVec (enc := (encI (.i32))) (size := 1) ([4352, 11904, 12353, 19968, 44032, 63744, 65072, 65280, 65504, 127744, 129280, 131072] : List Int) (k := 0) rfl encI_len rfl (show 12 ≤ maxLen by decide) ?_)
     show TO _ _ _ _ _ _ _ _ _ _ [vec (encI (.i32)) 105 1 (.slice (some ⟨b1, 0, none⟩) 12 12) ([4352, 11904, 12353, 19968, 44032, 63744, 65072, 65280, 65504, 127744, 129280, 131072] : List Int), cells b2 [.int .i32 4447, .int .i32 12350, .int .i32 19903, .int .i32 42191, .int .i32 55203, .int .i32 64255, .int .i32 65135, .int .i32 65376, .int .i32 65510, .int .i32 128591, .int .i32 129535, .int .i32 262141] 105]
     refine TO.loadVec (i := (i3 : Int).toNat) (j := 0) (k := 0) (q := q1) sc_21 encI_len rfl dc rfl rfl (getO_get hq1) rfl dc rfl (TO.ent (k := 0) rfl (Ent.fromVecs (by rfl)) ?_)
     show TO _ _ _ _ _ _ _ _ _ _ [cells b1 [.int .i32 4352, .int .i32 11904, .int .i32 12353, .int .i32 19968, .int .i32 44032, .int .i32 63744, .int .i32 65072, .int .i32 65280, .int .i32 65504, .int .i32 127744, .int .i32 129280, .int .i32 131072] 105, cells b2 [.int .i32 4447, .int .i32 12350, .int .i32 19903, .int .i32 42191, .int .i32 55203, .int .i32 64255, .int .i32 65135, .int .i32 65376, .int .i32 65510, .int .i32 128591, .int .i32 129535, .int .i32 262141] 105]
     refine TO.move rfl dc rfl (TO.bin rfl dc rfl rfl bin_leq (TO.move rfl dc rfl ?_))
     refine TO.split (s := 17) rfl (fun hb2 => ?_) (fun hb2 => ?_)
     ·
      have h := condT hb2 h
      refine TO.move rfl dc rfl (TO.move rfl dc rfl ?_)
      obtain ⟨q2, hq2, h⟩ := andE h
      refine TO.indexArr (getO_pos hq2) Try.underlying105 sz_21 rfl dc rfl rfl (Nat.zero_add _) (TO.toVec (enc := (encI (.i32))) (size := 1) ([4447, 12350, 19903, 42191, 55203, 64255, 65135, 65376, 65510, 128591, 129535, 262141] : List Int) (k := 1) rfl encI_len rfl (show 12 ≤ maxLen by decide) ?_)
      show TO _ _ _ _ _ _ _ _ _ _ [cells b1 [.int .i32 4352, .int .i32 11904, .int .i32 12353, .int .i32 19968, .int .i32 44032, .int .i32 63744, .int .i32 65072, .int .i32 65280, .int .i32 65504, .int .i32 127744, .int .i32 129280, .int .i32 131072] 105, vec (encI (.i32)) 105 1 (.slice (some ⟨b2, 0, none⟩) 12 12) ([4447, 12350, 19903, 42191, 55203, 64255, 65135, 65376, 65510, 128591, 129535, 262141] : List Int)]
      refine TO.loadVec (i := (i3 : Int).toNat) (j := 0) (k := 1) (q := q2) sc_21 encI_len rfl dc rfl rfl (getO_get hq2) rfl dc rfl (TO.ent (k := 1) rfl (Ent.fromVecs (by rfl)) ?_)
      show TO _ _ _ _ _ _ _ _ _ _ [cells b1 [.int .i32 4352, .int .i32 11904, .int .i32 12353, .int .i32 19968, .int .i32 44032, .int .i32 63744, .int .i32 65072, .int .i32 65280, .int .i32 65504, .int .i32 127744, .int .i32 129280, .int .i32 131072] 105, cells b2 [.int .i32 4447, .int .i32 12350, .int .i32 19903, .int .i32 42191, .int .i32 55203, .int .i32 64255, .int .i32 65135, .int .i32 65376, .int .i32 65510, .int .i32 128591, .int .i32 129535, .int .i32 262141] 105]
      refine TO.bin rfl dc rfl rfl bin_leq (TO.pick (b := true) rfl dc rfl rfl (TO.nil (TX.next ?_)))
      refine TC.condB rfl (fun hb3 => ?_) (fun hb3 => ?_)
      ·
       have h := condT hb3 h
       refine TC.seq (TC.region (TO.assign rfl dc rfl (TO.nil (TX.next (TC.ret (TX.blockRet (TX.thenRet (TX.thenRet (TX.blockRet (TX.thenRet ?_))))))))))
       cases h
       exact TX.fin (rs := [.tmp 2]) () (.inl rfl) Try.results38 (.cons (.tmp rfl) .nil) rfl Splits.nil
      ·
       have h := condF hb3 h
       refine TC.skip (TX.blockNormal ?_)
       exact TX.meetD () h rfl (Sbs.cons rfl (Sbs.cons rfl (Sbs.cons rfl (Sbs.cons rfl (Sbs.nil))))) (Splits.of [0, 1] kr rfl)
     ·
      have h := condF hb2 h
      refine TO.skip rfl dc (TO.skip rfl dc (TO.skip rfl dc (TO.skip rfl dc (TO.skip rfl dc (TO.pick (b := false) rfl dc rfl rfl (TO.nil (TX.next (TC.condF rfl (TC.skip (TX.blockNormal ?_))))))))))
      exact TX.meetD () h rfl (Sbs.cons rfl (Sbs.cons rfl (Sbs.cons rfl (Sbs.cons rfl (Sbs.nil))))) (Splits.of [0, 1] kr rfl)
    ·
     rintro _ h
     rw [hj2] at h
     show TC _ _ _ _ _ ([]) _ _ [(0, .int .i32 r1), (3, .pointer (some ⟨b1, 0, none⟩)), (4, .pointer (some ⟨b2, 0, none⟩)), (5, .int .i64 i3)] [cells b1 [.int .i32 4352, .int .i32 11904, .int .i32 12353, .int .i32 19968, .int .i32 44032, .int .i32 63744, .int .i32 65072, .int .i32 65280, .int .i32 65504, .int .i32 127744, .int .i32 129280, .int .i32 131072] 105, cells b2 [.int .i32 4447, .int .i32 12350, .int .i32 19903, .int .i32 42191, .int .i32 55203, .int .i32 64255, .int .i32 65135, .int .i32 65376, .int .i32 65510, .int .i32 128591, .int .i32 129535, .int .i32 262141] 105]
     refine TC.region (TO.move rfl dc rfl ?_)
     obtain ⟨hg1, h⟩ := grdE h
     refine TO.bin rfl dc rfl rfl (bin_add (r := i3 + 1) (IntWalk.i64_in _ hg1)) (TO.assign rfl dc rfl (TO.nil ?_))
     subst hag1
     exact TX.againD (n1, i3 + 1) h (Nat.lt_succ_self _) rfl (Sbs.cons rfl (Sbs.cons rfl (Sbs.cons rfl (Sbs.cons rfl (Sbs.nil))))) (Splits.of [0, 1] kr rfl)
   ·
    have h := condF hb1 h
    refine TC.exit (TX.thenExit (TX.thenExit (TX.blockHere ?_)))
    exact TX.meetD () h rfl (Sbs.nil) Splits.nil
 ·
  rintro _ h
  rw [hj1] at h
  show TC _ _ _ _ _ ([]) _ _ [] []
  refine TC.seq (TC.region (TO.assign rfl dc rfl (TO.nil (TX.next (TC.ret ?_)))))
  cases h
  exact TX.fin (rs := [.tmp 2]) () (.inl rfl) Try.results38 (.cons (.tmp rfl) .nil) rfl Splits.nil
def ref05_Pieces_s1 (j1 : (List Gref05_Piece) → Option (List Gref05_Piece)) (r1 : (List Gref02_Piece)) (ag1 : (List Gref05_Piece) → Int → Option (List Gref05_Piece)) (out4 : List Gref05_Piece) (i3 : Int) : Option (List Gref05_Piece) := bcond (decide ((i3 : Int) < (r1.length : Int))) ( joinK (fun (j2 : Int → Int → Int → Bool → Int → Option (List Gref05_Piece)) => andThen (getO r1 i3) fun (q1 : Gref02_Piece) => grd (I64 (q1.At + q1.Width)) <| andThen (getO r1 i3) fun (q2 : Gref02_Piece) => bcond ((q2.Rune : Int) == 65533) ( bcond ((q2.Width : Int) == 1) ( j2 q1.At (q1.At + q1.Width) 11 false 1
) ( andThen (getO r1 i3) fun (q3 : Gref02_Piece) => grd (I32 q3.Rune) <| andThen (getO r1 i3) fun (q4 : Gref02_Piece) => bcond ((q4.Rune : Int) == 8205) ( j2 q1.At (q1.At + q1.Width) (kind q3.Rune) ((q4.Rune : Int) == 8205) 0
) ( bcond (((kind q3.Rune) : Int) == 2) ( j2 q1.At (q1.At + q1.Width) (kind q3.Rune) ((q4.Rune : Int) == 8205) 0
) ( bcond (((kind q3.Rune) : Int) == 4) ( j2 q1.At (q1.At + q1.Width) (kind q3.Rune) ((q4.Rune : Int) == 8205) 0
) ( bcond (((kind q3.Rune) : Int) == 9) ( j2 q1.At (q1.At + q1.Width) (kind q3.Rune) ((q4.Rune : Int) == 8205) 0
) ( andThen (getO r1 i3) fun (q5 : Gref02_Piece) => andThen (ref05_wide_v q5.Rune) fun (r2 : Bool) => bcond (r2) ( j2 q1.At (q1.At + q1.Width) (kind q3.Rune) ((q4.Rune : Int) == 8205) 2
) ( j2 q1.At (q1.At + q1.Width) (kind q3.Rune) ((q4.Rune : Int) == 8205) 1
)
)
)
)
)
)
) ( andThen (getO r1 i3) fun (q6 : Gref02_Piece) => grd (I32 q6.Rune) <| andThen (getO r1 i3) fun (q7 : Gref02_Piece) => bcond ((q7.Rune : Int) == 8205) ( j2 q1.At (q1.At + q1.Width) (kind q6.Rune) ((q7.Rune : Int) == 8205) 0
) ( bcond (((kind q6.Rune) : Int) == 2) ( j2 q1.At (q1.At + q1.Width) (kind q6.Rune) ((q7.Rune : Int) == 8205) 0
) ( bcond (((kind q6.Rune) : Int) == 4) ( j2 q1.At (q1.At + q1.Width) (kind q6.Rune) ((q7.Rune : Int) == 8205) 0
) ( bcond (((kind q6.Rune) : Int) == 9) ( j2 q1.At (q1.At + q1.Width) (kind q6.Rune) ((q7.Rune : Int) == 8205) 0
) ( andThen (getO r1 i3) fun (q8 : Gref02_Piece) => andThen (ref05_wide_v q8.Rune) fun (r3 : Bool) => bcond (r3) ( j2 q1.At (q1.At + q1.Width) (kind q6.Rune) ((q7.Rune : Int) == 8205) 2
) ( j2 q1.At (q1.At + q1.Width) (kind q6.Rune) ((q7.Rune : Int) == 8205) 1
)
)
)
)
)
)
) (fun (p1 : Int) (p2 : Int) (p3 : Int) (p4 : Bool) (p5 : Int) => grd (out4.length + 1 ≤ 2147483648) <| grd (I64 (i3 + 1)) <| ag1 (out4 ++ [(⟨p1, p2, p3, p4, p5⟩ : Gref05_Piece)]) (i3 + 1)
)
) ( j1 out4
)
def ref05_Pieces_v (s1 : ByteArray) : Option (List Gref05_Piece) := joinK (fun (j1 : (List Gref05_Piece) → Option (List Gref05_Piece)) => andThen (ref02_Pieces_v s1) fun (r1 : (List Gref02_Piece)) => loopG (fun _ _ => none) (ref05_Pieces_s1 j1 r1) fuel ([] : List Gref05_Piece) 0
) (fun (out1 : List Gref05_Piece) => some out1
)
set_option maxRecDepth 100000 in
set_option maxHeartbeats 4000000 in
theorem ref05_Pieces_fn {s1 : ByteArray} {r : (List Gref05_Piece)} (h : ref05_Pieces_v s1 = some r) : Fn Try.prog 26 [.string s1] [] (fun v0 : Value => v0) (fun v0 => [vec enc_Gref05_Piece 66 5 v0 r]) := by
 unfold ref05_Pieces_v at h
 refine Fn.intro Try.func26 rfl Try.ntmps26 (by simp) ?_
 intro w0 K
 obtain ⟨j1, hj1, h⟩ := joinE h
 refine TC.cutN (β := (List Gref05_Piece) × Value) 3 rfl (fun b => j1 b.1 = some r) (fun b => []) (fun b => [(4, b.2)]) (fun b => [vec enc_Gref05_Piece 66 5 b.2 b.1]) (fun cut => ?_) ?_
 ·
  refine TC.seq (TC.region (TO.assign rfl dc rfl (TO.nil (TX.next (TC.seq (TC.region (TO.move rfl dc rfl ?_)))))))
  obtain ⟨r1, hq1, h⟩ := andE h
  refine TO.call (vs := [.string s1]) rfl dc rfl rfl rfl en_36 (ref02_Pieces_fn hq1) Splits.nil ?_
  rintro v2
  show TO _ _ _ _ _ _ _ _ _ _ [vec enc_Gref02_Piece 90 3 v2 r1]
  refine TO.assign rfl dc rfl (TO.nil (TX.next (TC.seq (TC.region (TO.assign rfl dc rfl (TO.nil (TX.next (cut (TC.seq (TC.region (TO.assign rfl dc rfl (TO.nil (TX.next ?_)))))))))))))
  refine TC.block (TC.newVec (enc := enc_Gref05_Piece) (e := 66) (size := 5) ?_)
  show TC _ _ _ _ _ _ _ _ _ [vec enc_Gref02_Piece 90 3 v2 r1, vec enc_Gref05_Piece 66 5 (.slice none 0 0) ([] : List Gref05_Piece)]
  refine TC.loopD (β := Nat × (List Gref05_Piece) × Int × Value) (fun b => loopG (fun _ _ => none) (ref05_Pieces_s1 j1 r1) b.1 b.2.1 b.2.2.1 = some r) (fun b => []) (fun b => [(3, v2), (4, b.2.2.2), (5, .int .i64 b.2.2.1)]) (fun b => [vec enc_Gref02_Piece 90 3 v2 r1, vec enc_Gref05_Piece 66 5 b.2.2.2 b.2.1]) (fun b => b.1) (fuel, ([] : List Gref05_Piece), 0, (.slice none 0 0)) h rfl (Sbs.cons rfl (Sbs.cons rfl (Sbs.cons rfl (Sbs.nil)))) (Splits.of [0, 1] kr rfl) ?_
  rintro ⟨n1, out4, i3, v5⟩ h
  cases n1 with
  | zero => exact noneE h
  | succ n1 =>
   obtain ⟨ag1, hag1⟩ : ∃ ag, ag = loopG (fun _ _ => none) (ref05_Pieces_s1 j1 r1) n1 := ⟨_, rfl⟩
   have h : ref05_Pieces_s1 j1 r1 ag1 out4 i3 = some r := by rw [hag1]; exact h
   unfold ref05_Pieces_s1 at h
   show TC _ _ _ _ _ ([]) _ _ [(3, v2), (4, v5), (5, .int .i64 i3)] [vec enc_Gref02_Piece 90 3 v2 r1, vec enc_Gref05_Piece 66 5 v5 out4]
   refine TC.seq (TC.seq (TC.region (TO.move rfl dc rfl (TO.move rfl dc rfl (TO.lenVec (k := 0) rfl dc rfl rfl Try.underlying87 (TO.bin rfl dc rfl rfl bin_lss (TO.nil (TX.next ?_))))))))
   refine TC.condB rfl (fun hb1 => ?_) (fun hb1 => ?_)
   ·
    have h := condT hb1 h
    refine TC.skip (TX.next (TC.seq (TC.block ?_)))
    obtain ⟨j2, hj2, h⟩ := joinE h
    refine TC.cutN (β := Int × Int × Int × Bool × Int × Nat) 1 rfl (fun b => j2 b.1 b.2.1 b.2.2.1 b.2.2.2.1 b.2.2.2.2.1 = some r) (fun b => []) (fun b => [(3, v2), (4, v5), (5, .int .i64 i3), (6, .pointer (some ⟨b.2.2.2.2.2, 0, none⟩))]) (fun b => [vec enc_Gref02_Piece 90 3 v2 r1, vec enc_Gref05_Piece 66 5 v5 out4, cells b.2.2.2.2.2 [.int .i64 b.1, .int .i64 b.2.1, .int .i64 b.2.2.1, .bool b.2.2.2.1, .int .i64 b.2.2.2.2.1] 66]) (fun cut => ?_) ?_
    ·
     refine TC.seq ?_
     obtain ⟨q1, hq2, h⟩ := andE h
     obtain ⟨hg1, h⟩ := grdE h
     refine TC.drawB (β := Nat) 19 18 _ [(0, 15, v2), (1, 16, .int .i64 i3), (2, 17, .pointer (some ⟨vblk v2, (i3 : Int).toNat * 3, none⟩)), (3, 18, .pointer (some ⟨vblk v2, ((i3 : Int).toNat) * 3, none⟩)), (4, 19, .int .i64 q1.At), (5, 20, v2), (6, 21, .int .i64 i3), (7, 22, .pointer (some ⟨vblk v2, (i3 : Int).toNat * 3, none⟩)), (8, 23, .pointer (some ⟨vblk v2, ((i3 : Int).toNat) * 3, none⟩)), (9, 24, .int .i64 q1.At), (10, 25, v2), (11, 26, .int .i64 i3), (12, 27, .pointer (some ⟨vblk v2, (i3 : Int).toNat * 3, none⟩)), (13, 28, .pointer (some ⟨vblk v2, ((i3 : Int).toNat) * 3 + 1, none⟩)), (14, 29, .int .i64 q1.Width), (15, 30, .int .i64 (q1.At + q1.Width)), (16, 31, .agg #[.int .i64 q1.At, .int .i64 (q1.At + q1.Width)]), (17, 32, .agg #[.int .i64 q1.At, .int .i64 (q1.At + q1.Width), .int .i64 0, .bool false, .int .i64 1])] (fun b2 => [(6, .pointer (some ⟨b2, 0, none⟩))]) (fun b2 => [vec enc_Gref02_Piece 90 3 v2 r1, vec enc_Gref05_Piece 66 5 v5 out4, cells b2 [.int .i64 0, .int .i64 0, .int .i64 0, .bool false, .int .i64 0] 66]) mixed kr kr rfl dc dc (by rfl) kr kr (DrawPreX.cons ?_ (DrawPreX.cons ?_ (DrawPreX.cons ?_ (DrawPreX.cons ?_ (DrawPreX.cons ?_ (DrawPreX.cons ?_ (DrawPreX.cons ?_ (DrawPreX.cons ?_ (DrawPreX.cons ?_ (DrawPreX.cons ?_ (DrawPreX.cons ?_ (DrawPreX.cons ?_ (DrawPreX.cons ?_ (DrawPreX.cons ?_ (DrawPreX.cons ?_ (DrawPreX.cons ?_ (DrawPreX.cons ?_ (DrawPreX.cons ?_ (DrawPreX.here DrawPreX.nil))))))))))))))))))) (fun b2 => (DrawPreX.cons ?_ (DrawPreX.cons ?_ (DrawPreX.cons ?_ (DrawPreX.cons ?_ (DrawPreX.cons ?_ (DrawPreX.cons ?_ (DrawPreX.cons ?_ (DrawPreX.cons ?_ (DrawPreX.cons ?_ (DrawPreX.cons ?_ (DrawPreX.cons ?_ (DrawPreX.cons ?_ (DrawPreX.cons ?_ (DrawPreX.cons ?_ (DrawPreX.cons ?_ (DrawPreX.cons ?_ (DrawPreX.cons ?_ (DrawPreX.cons ?_ (DrawPreX.here DrawPreX.nil)))))))))))))))))))) ?_ ?_
     ·
      intro D hn hd hcl hu hi
      refine TO.move rfl dc (dl_old (by rfl) rfl) ?_
      exact TX.quiet 0 hu hi rfl
     ·
      intro D hn hd hcl hu hi
      refine TO.move rfl dc (dl_old (by rfl) rfl) ?_
      exact TX.quiet 1 hu hi rfl
     ·
      intro D hn hd hcl hu hi
      refine TO.indexVecI (k := 0) hq2 Try.underlying87 sz_90 rfl dc (dl_lookup (m := 0) hu rfl (hd 0 dc)) (dl_lookup (m := 1) hu rfl (hd 1 dc)) rfl rfl ?_
      exact TX.quiet 2 hu hi rfl
     ·
      intro D hn hd hcl hu hi
      refine TO.fieldAddr fl_90_0 rfl dc (dl_lookup (m := 2) hu rfl (hd 2 dc)) (show _ = ((i3 : Int).toNat) * 3 from rfl) ?_
      exact TX.quiet 3 hu hi rfl
     ·
      intro D hn hd hcl hu hi
      refine TO.loadVec (i := (i3 : Int).toNat) (j := 0) (k := 0) (q := q1) sc_3 enc_Gref02_Piece_len rfl dc (dl_lookup (m := 3) hu rfl (hd 3 dc)) rfl (getO_get hq2) rfl dc rfl ?_
      exact TX.quiet 4 hu hi rfl
     ·
      intro D hn hd hcl hu hi
      refine TO.move rfl dc (dl_old (by rfl) rfl) ?_
      exact TX.quiet 5 hu hi rfl
     ·
      intro D hn hd hcl hu hi
      refine TO.move rfl dc (dl_old (by rfl) rfl) ?_
      exact TX.quiet 6 hu hi rfl
     ·
      intro D hn hd hcl hu hi
      refine TO.indexVecI (k := 0) hq2 Try.underlying87 sz_90 rfl dc (dl_lookup (m := 5) hu rfl (hd 5 dc)) (dl_lookup (m := 6) hu rfl (hd 6 dc)) rfl rfl ?_
      exact TX.quiet 7 hu hi rfl
     ·
      intro D hn hd hcl hu hi
      refine TO.fieldAddr fl_90_0 rfl dc (dl_lookup (m := 7) hu rfl (hd 7 dc)) (show _ = ((i3 : Int).toNat) * 3 from rfl) ?_
      exact TX.quiet 8 hu hi rfl
     ·
      intro D hn hd hcl hu hi
      refine TO.loadVec (i := (i3 : Int).toNat) (j := 0) (k := 0) (q := q1) sc_3 enc_Gref02_Piece_len rfl dc (dl_lookup (m := 8) hu rfl (hd 8 dc)) rfl (getO_get hq2) rfl dc rfl ?_
      exact TX.quiet 9 hu hi rfl
     ·
      intro D hn hd hcl hu hi
      refine TO.move rfl dc (dl_old (by rfl) rfl) ?_
      exact TX.quiet 10 hu hi rfl
     ·
      intro D hn hd hcl hu hi
      refine TO.move rfl dc (dl_old (by rfl) rfl) ?_
      exact TX.quiet 11 hu hi rfl
     ·
      intro D hn hd hcl hu hi
      refine TO.indexVecI (k := 0) hq2 Try.underlying87 sz_90 rfl dc (dl_lookup (m := 10) hu rfl (hd 10 dc)) (dl_lookup (m := 11) hu rfl (hd 11 dc)) rfl rfl ?_
      exact TX.quiet 12 hu hi rfl
     ·
      intro D hn hd hcl hu hi
      refine TO.fieldAddr fl_90_1 rfl dc (dl_lookup (m := 12) hu rfl (hd 12 dc)) (show _ = ((i3 : Int).toNat) * 3 + 1 from rfl) ?_
      exact TX.quiet 13 hu hi rfl
     ·
      intro D hn hd hcl hu hi
      refine TO.loadVec (i := (i3 : Int).toNat) (j := 1) (k := 0) (q := q1) sc_3 enc_Gref02_Piece_len rfl dc (dl_lookup (m := 13) hu rfl (hd 13 dc)) rfl (getO_get hq2) rfl dc rfl ?_
      exact TX.quiet 14 hu hi rfl
     ·
      intro D hn hd hcl hu hi
      refine TO.bin rfl dc (dl_lookup (m := 9) hu rfl (hd 9 dc)) (dl_lookup (m := 14) hu rfl (hd 14 dc)) (bin_add (r := q1.At + q1.Width) (IntWalk.i64_in _ hg1)) ?_
      exact TX.quiet 15 hu hi rfl
     ·
      intro D hn hd hcl hu hi
      refine TO.build (v := .agg #[.int .i64 q1.At, .int .i64 (q1.At + q1.Width)]) (ps := [(0, .tmp 19), (1, .tmp 30)]) rfl dc (evP.cons (dl_lookup (m := 4) hu rfl (hd 4 dc)) (evP.cons (dl_lookup (m := 15) hu rfl (hd 15 dc)) evP.nil)) (fun _ => by kernel_rfl) ?_
      exact TX.quiet 16 hu hi rfl
     ·
      intro D hn hd hcl hu hi
      refine TO.build (v := .agg #[.int .i64 q1.At, .int .i64 (q1.At + q1.Width), .int .i64 0, .bool false, .int .i64 1]) (ps := [(0, .tmp 31), (3, .const (.int .i64 1))]) rfl dc (evP.cons (dl_lookup (m := 16) hu rfl (hd 16 dc)) (evP.cons rfl evP.nil)) (fun _ => by kernel_rfl) ?_
      exact TX.quiet 17 hu hi rfl
     ·
      intro D hn hd hcl hu hi
      refine TO.move rfl dc (dl_old (by rfl) rfl) ?_
      exact TX.quiet 0 hu hi rfl
     ·
      intro D hn hd hcl hu hi
      refine TO.move rfl dc (dl_old (by rfl) rfl) ?_
      exact TX.quiet 1 hu hi rfl
     ·
      intro D hn hd hcl hu hi
      refine TO.indexVecI (k := 0) hq2 Try.underlying87 sz_90 rfl dc (dl_lookup (m := 0) hu rfl (hd 0 dc)) (dl_lookup (m := 1) hu rfl (hd 1 dc)) rfl rfl ?_
      exact TX.quiet 2 hu hi rfl
     ·
      intro D hn hd hcl hu hi
      refine TO.fieldAddr fl_90_0 rfl dc (dl_lookup (m := 2) hu rfl (hd 2 dc)) (show _ = ((i3 : Int).toNat) * 3 from rfl) ?_
      exact TX.quiet 3 hu hi rfl
     ·
      intro D hn hd hcl hu hi
      refine TO.loadVec (i := (i3 : Int).toNat) (j := 0) (k := 0) (q := q1) sc_3 enc_Gref02_Piece_len rfl dc (dl_lookup (m := 3) hu rfl (hd 3 dc)) rfl (getO_get hq2) rfl dc rfl ?_
      exact TX.quiet 4 hu hi rfl
     ·
      intro D hn hd hcl hu hi
      refine TO.move rfl dc (dl_old (by rfl) rfl) ?_
      exact TX.quiet 5 hu hi rfl
     ·
      intro D hn hd hcl hu hi
      refine TO.move rfl dc (dl_old (by rfl) rfl) ?_
      exact TX.quiet 6 hu hi rfl
     ·
      intro D hn hd hcl hu hi
      refine TO.indexVecI (k := 0) hq2 Try.underlying87 sz_90 rfl dc (dl_lookup (m := 5) hu rfl (hd 5 dc)) (dl_lookup (m := 6) hu rfl (hd 6 dc)) rfl rfl ?_
      exact TX.quiet 7 hu hi rfl
     ·
      intro D hn hd hcl hu hi
      refine TO.fieldAddr fl_90_0 rfl dc (dl_lookup (m := 7) hu rfl (hd 7 dc)) (show _ = ((i3 : Int).toNat) * 3 from rfl) ?_
      exact TX.quiet 8 hu hi rfl
     ·
      intro D hn hd hcl hu hi
      refine TO.loadVec (i := (i3 : Int).toNat) (j := 0) (k := 0) (q := q1) sc_3 enc_Gref02_Piece_len rfl dc (dl_lookup (m := 8) hu rfl (hd 8 dc)) rfl (getO_get hq2) rfl dc rfl ?_
      exact TX.quiet 9 hu hi rfl
     ·
      intro D hn hd hcl hu hi
      refine TO.move rfl dc (dl_old (by rfl) rfl) ?_
      exact TX.quiet 10 hu hi rfl
     ·
      intro D hn hd hcl hu hi
      refine TO.move rfl dc (dl_old (by rfl) rfl) ?_
      exact TX.quiet 11 hu hi rfl
     ·
      intro D hn hd hcl hu hi
      refine TO.indexVecI (k := 0) hq2 Try.underlying87 sz_90 rfl dc (dl_lookup (m := 10) hu rfl (hd 10 dc)) (dl_lookup (m := 11) hu rfl (hd 11 dc)) rfl rfl ?_
      exact TX.quiet 12 hu hi rfl
     ·
      intro D hn hd hcl hu hi
      refine TO.fieldAddr fl_90_1 rfl dc (dl_lookup (m := 12) hu rfl (hd 12 dc)) (show _ = ((i3 : Int).toNat) * 3 + 1 from rfl) ?_
      exact TX.quiet 13 hu hi rfl
     ·
      intro D hn hd hcl hu hi
      refine TO.loadVec (i := (i3 : Int).toNat) (j := 1) (k := 0) (q := q1) sc_3 enc_Gref02_Piece_len rfl dc (dl_lookup (m := 13) hu rfl (hd 13 dc)) rfl (getO_get hq2) rfl dc rfl ?_
      exact TX.quiet 14 hu hi rfl
     ·
      intro D hn hd hcl hu hi
      refine TO.bin rfl dc (dl_lookup (m := 9) hu rfl (hd 9 dc)) (dl_lookup (m := 14) hu rfl (hd 14 dc)) (bin_add (r := q1.At + q1.Width) (IntWalk.i64_in _ hg1)) ?_
      exact TX.quiet 15 hu hi rfl
     ·
      intro D hn hd hcl hu hi
      refine TO.build (v := .agg #[.int .i64 q1.At, .int .i64 (q1.At + q1.Width)]) (ps := [(0, .tmp 19), (1, .tmp 30)]) rfl dc (evP.cons (dl_lookup (m := 4) hu rfl (hd 4 dc)) (evP.cons (dl_lookup (m := 15) hu rfl (hd 15 dc)) evP.nil)) (fun _ => by kernel_rfl) ?_
      exact TX.quiet 16 hu hi rfl
     ·
      intro D hn hd hcl hu hi
      refine TO.build (v := .agg #[.int .i64 q1.At, .int .i64 (q1.At + q1.Width), .int .i64 0, .bool false, .int .i64 1]) (ps := [(0, .tmp 31), (3, .const (.int .i64 1))]) rfl dc (evP.cons (dl_lookup (m := 16) hu rfl (hd 16 dc)) (evP.cons rfl evP.nil)) (fun _ => by kernel_rfl) ?_
      exact TX.quiet 17 hu hi rfl
     ·
      intro D hn hd hcl
      refine TO.alloc zr_66 rfl dc (fun b2 => ?_)
      exact fun a w ha hw => ⟨b2, Sbs.mid (by rfl) _ _ _ ha, hw⟩
     intro b2
     show TO _ _ _ _ _ _ _ _ _ _ [vec enc_Gref02_Piece 90 3 v2 r1, vec enc_Gref05_Piece 66 5 v5 out4, cells b2 [.int .i64 0, .int .i64 0, .int .i64 0, .bool false, .int .i64 0] 66]
     refine TO.stores (k := 2) (vs := [.int .i64 q1.At, .int .i64 (q1.At + q1.Width), .int .i64 0, .bool false, .int .i64 1]) (l' := [.int .i64 q1.At, .int .i64 (q1.At + q1.Width), .int .i64 0, .bool false, .int .i64 1]) sz_66 rfl rfl rfl rfl rfl (show _ ≤ _ by simp) rfl rfl (TO.nil (TX.next (cut (TC.block (TC.seq (TC.region (TO.move rfl dc rfl (TO.move rfl dc rfl ?_))))))))
     obtain ⟨q2, hq3, h⟩ := andE h
     refine TO.indexVecI (k := 0) hq3 Try.underlying87 sz_90 rfl dc rfl rfl rfl rfl (TO.fieldAddr fl_90_2 rfl dc rfl (show _ = ((i3 : Int).toNat) * 3 + 2 from rfl) (TO.loadVec (i := (i3 : Int).toNat) (j := 2) (k := 0) (q := q2) sc_21 enc_Gref02_Piece_len rfl dc rfl rfl (getO_get hq3) rfl dc rfl (TO.bin rfl dc rfl rfl bin_eql (TO.move rfl dc rfl ?_))))
     refine TO.split (s := 81) rfl (fun hb2 => ?_) (fun hb2 => ?_)
     ·
      have h := condT hb2 h
      refine TO.move rfl dc rfl (TO.move rfl dc rfl (TO.indexVecI (k := 0) hq3 Try.underlying87 sz_90 rfl dc rfl rfl rfl rfl (TO.fieldAddr fl_90_1 rfl dc rfl (show _ = ((i3 : Int).toNat) * 3 + 1 from rfl) (TO.loadVec (i := (i3 : Int).toNat) (j := 1) (k := 0) (q := q2) sc_3 enc_Gref02_Piece_len rfl dc rfl rfl (getO_get hq3) rfl dc rfl (TO.bin rfl dc rfl rfl bin_eql (TO.pick (b := true) rfl dc rfl rfl (TO.assign rfl dc rfl (TO.nil (TX.next ?_)))))))))
      refine TC.condB rfl (fun hb3 => ?_) (fun hb3 => ?_)
      ·
       have h := condT hb3 h
       refine TC.region (TO.fieldAddr fl_66_1 rfl dc rfl (show _ = 2 from rfl) ?_)
       refine TO.store (k := 2) (l' := [.int .i64 q1.At, .int .i64 (q1.At + q1.Width), .int .i64 11, .bool false, .int .i64 1]) sz_3 rfl rfl rfl rfl rfl (fun _ _ => rfl) rfl ?_
       show TO _ _ _ _ _ _ _ _ _ _ [vec enc_Gref02_Piece 90 3 v2 r1, vec enc_Gref05_Piece 66 5 v5 out4, cells b2 [.int .i64 q1.At, .int .i64 (q1.At + q1.Width), .int .i64 11, .bool false, .int .i64 1] 66]
       refine TO.nil (TX.blockNormal ?_)
       exact TX.meetD (q1.At, q1.At + q1.Width, 11, false, 1, b2) h rfl (Sbs.cons rfl (Sbs.cons rfl (Sbs.cons rfl (Sbs.cons rfl (Sbs.nil))))) (Splits.of [0, 1, 2] kr rfl)
      ·
       have h := condF hb3 h
       refine TC.seq (TC.region (TO.move rfl dc rfl (TO.move rfl dc rfl ?_)))
       obtain ⟨q3, hq4, h⟩ := andE h
       refine TO.indexVecI (k := 0) hq4 Try.underlying87 sz_90 rfl dc rfl rfl rfl rfl (TO.fieldAddr fl_90_2 rfl dc rfl (show _ = ((i3 : Int).toNat) * 3 + 2 from rfl) (TO.loadVec (i := (i3 : Int).toNat) (j := 2) (k := 0) (q := q3) sc_21 enc_Gref02_Piece_len rfl dc rfl rfl (getO_get hq4) rfl dc rfl ?_))
       obtain ⟨hg2, h⟩ := grdE h
       refine TO.callP (v := .int .i64 (kind q3.Rune)) (vs := [.int .i32 q3.Rune]) rfl dc rfl rfl rfl en_37 (FnP.of_same fun w => rkind_any q3.Rune w hg2.1 hg2.2) ?_
       refine TO.fieldAddr fl_66_1 rfl dc rfl (show _ = 2 from rfl) ?_
       refine TO.store (k := 2) (l' := [.int .i64 q1.At, .int .i64 (q1.At + q1.Width), .int .i64 (kind q3.Rune), .bool false, .int .i64 1]) sz_3 rfl rfl rfl rfl rfl (fun _ _ => rfl) rfl ?_
       show TO _ _ _ _ _ _ _ _ _ _ [vec enc_Gref02_Piece 90 3 v2 r1, vec enc_Gref05_Piece 66 5 v5 out4, cells b2 [.int .i64 q1.At, .int .i64 (q1.At + q1.Width), .int .i64 (kind q3.Rune), .bool false, .int .i64 1] 66]
       refine TO.nil (TX.next (TC.seq (TC.region (TO.move rfl dc rfl (TO.move rfl dc rfl ?_)))))
       obtain ⟨q4, hq5, h⟩ := andE h
       refine TO.indexVecI (k := 0) hq5 Try.underlying87 sz_90 rfl dc rfl rfl rfl rfl (TO.fieldAddr fl_90_2 rfl dc rfl (show _ = ((i3 : Int).toNat) * 3 + 2 from rfl) (TO.loadVec (i := (i3 : Int).toNat) (j := 2) (k := 0) (q := q4) sc_21 enc_Gref02_Piece_len rfl dc rfl rfl (getO_get hq5) rfl dc rfl (TO.bin rfl dc rfl rfl bin_eql (TO.fieldAddr fl_66_2 rfl dc rfl (show _ = 3 from rfl) ?_))))
       refine TO.store (k := 2) (l' := [.int .i64 q1.At, .int .i64 (q1.At + q1.Width), .int .i64 (kind q3.Rune), .bool ((q4.Rune : Int) == 8205), .int .i64 1]) sz_4 rfl rfl rfl rfl rfl (fun _ _ => rfl) rfl ?_
       refine TO.nil (TX.next (TC.block (TC.seq (TC.region (TO.fieldAddr fl_66_2 rfl dc rfl (show _ = 3 from rfl) (TO.load (k := 2) sc_4 rfl dc rfl rfl rfl (TO.move rfl dc rfl ?_)))))))
       refine TO.split (s := 50) rfl (fun hb4 => ?_) (fun hb4 => ?_)
       ·
        have h := condT hb4 h
        refine TO.skip rfl dc (TO.skip rfl dc (TO.skip rfl dc (TO.pick (b := true) rfl dc rfl rfl (TO.move rfl dc rfl (TO.skip rfl dc (TO.skip rfl dc (TO.skip rfl dc (TO.pick (b := true) rfl dc rfl rfl (TO.move rfl dc rfl (TO.skip rfl dc (TO.skip rfl dc (TO.skip rfl dc (TO.pick (b := true) rfl dc rfl rfl ?_)))))))))))))
        refine TO.assign rfl dc rfl (TO.nil (TX.next (TC.condT rfl (TC.region (TO.fieldAddr fl_66_3 rfl dc rfl (show _ = 4 from rfl) ?_)))))
        refine TO.store (k := 2) (l' := [.int .i64 q1.At, .int .i64 (q1.At + q1.Width), .int .i64 (kind q3.Rune), .bool ((q4.Rune : Int) == 8205), .int .i64 0]) sz_3 rfl rfl rfl rfl rfl (fun _ _ => rfl) rfl ?_
        show TO _ _ _ _ _ _ _ _ _ _ [vec enc_Gref02_Piece 90 3 v2 r1, vec enc_Gref05_Piece 66 5 v5 out4, cells b2 [.int .i64 q1.At, .int .i64 (q1.At + q1.Width), .int .i64 (kind q3.Rune), .bool ((q4.Rune : Int) == 8205), .int .i64 0] 66]
        refine TO.nil (TX.blockNormal (TX.blockNormal ?_))
        exact TX.meetD (q1.At, q1.At + q1.Width, kind q3.Rune, (q4.Rune : Int) == 8205, 0, b2) h rfl (Sbs.cons rfl (Sbs.cons rfl (Sbs.cons rfl (Sbs.cons rfl (Sbs.nil))))) (Splits.of [0, 1, 2] kr rfl)
       ·
        have h := condF hb4 h
        refine TO.fieldAddr fl_66_1 rfl dc rfl (show _ = 2 from rfl) (TO.load (k := 2) sc_3 rfl dc rfl rfl rfl (TO.bin rfl dc rfl rfl bin_eql (TO.pick (b := false) rfl dc rfl rfl (TO.move rfl dc rfl ?_))))
        refine TO.split (s := 55) rfl (fun hb5 => ?_) (fun hb5 => ?_)
        ·
         have h := condT hb5 h
         refine TO.skip rfl dc (TO.skip rfl dc (TO.skip rfl dc (TO.pick (b := true) rfl dc rfl rfl (TO.move rfl dc rfl (TO.skip rfl dc (TO.skip rfl dc (TO.skip rfl dc (TO.pick (b := true) rfl dc rfl rfl (TO.assign rfl dc rfl (TO.nil (TX.next (TC.condT rfl (TC.region ?_)))))))))))))
         refine TO.fieldAddr fl_66_3 rfl dc rfl (show _ = 4 from rfl) ?_
         refine TO.store (k := 2) (l' := [.int .i64 q1.At, .int .i64 (q1.At + q1.Width), .int .i64 (kind q3.Rune), .bool ((q4.Rune : Int) == 8205), .int .i64 0]) sz_3 rfl rfl rfl rfl rfl (fun _ _ => rfl) rfl ?_
         show TO _ _ _ _ _ _ _ _ _ _ [vec enc_Gref02_Piece 90 3 v2 r1, vec enc_Gref05_Piece 66 5 v5 out4, cells b2 [.int .i64 q1.At, .int .i64 (q1.At + q1.Width), .int .i64 (kind q3.Rune), .bool ((q4.Rune : Int) == 8205), .int .i64 0] 66]
         refine TO.nil (TX.blockNormal (TX.blockNormal ?_))
         exact TX.meetD (q1.At, q1.At + q1.Width, kind q3.Rune, (q4.Rune : Int) == 8205, 0, b2) h rfl (Sbs.cons rfl (Sbs.cons rfl (Sbs.cons rfl (Sbs.cons rfl (Sbs.nil))))) (Splits.of [0, 1, 2] kr rfl)
        ·
         have h := condF hb5 h
         refine TO.fieldAddr fl_66_1 rfl dc rfl (show _ = 2 from rfl) (TO.load (k := 2) sc_3 rfl dc rfl rfl rfl (TO.bin rfl dc rfl rfl bin_eql (TO.pick (b := false) rfl dc rfl rfl (TO.move rfl dc rfl ?_))))
         refine TO.split (s := 60) rfl (fun hb6 => ?_) (fun hb6 => ?_)
         ·
          have h := condT hb6 h
          refine TO.skip rfl dc (TO.skip rfl dc (TO.skip rfl dc (TO.pick (b := true) rfl dc rfl rfl (TO.assign rfl dc rfl (TO.nil (TX.next (TC.condT rfl (TC.region (TO.fieldAddr fl_66_3 rfl dc rfl (show _ = 4 from rfl) ?_)))))))))
          refine TO.store (k := 2) (l' := [.int .i64 q1.At, .int .i64 (q1.At + q1.Width), .int .i64 (kind q3.Rune), .bool ((q4.Rune : Int) == 8205), .int .i64 0]) sz_3 rfl rfl rfl rfl rfl (fun _ _ => rfl) rfl ?_
          show TO _ _ _ _ _ _ _ _ _ _ [vec enc_Gref02_Piece 90 3 v2 r1, vec enc_Gref05_Piece 66 5 v5 out4, cells b2 [.int .i64 q1.At, .int .i64 (q1.At + q1.Width), .int .i64 (kind q3.Rune), .bool ((q4.Rune : Int) == 8205), .int .i64 0] 66]
          refine TO.nil (TX.blockNormal (TX.blockNormal ?_))
          exact TX.meetD (q1.At, q1.At + q1.Width, kind q3.Rune, (q4.Rune : Int) == 8205, 0, b2) h rfl (Sbs.cons rfl (Sbs.cons rfl (Sbs.cons rfl (Sbs.cons rfl (Sbs.nil))))) (Splits.of [0, 1, 2] kr rfl)
         ·
          have h := condF hb6 h
          refine TO.fieldAddr fl_66_1 rfl dc rfl (show _ = 2 from rfl) (TO.load (k := 2) sc_3 rfl dc rfl rfl rfl (TO.bin rfl dc rfl rfl bin_eql (TO.pick (b := false) rfl dc rfl rfl (TO.assign rfl dc rfl (TO.nil (TX.next ?_))))))
          refine TC.condB rfl (fun hb7 => ?_) (fun hb7 => ?_)
          ·
           have h := condT hb7 h
           refine TC.region (TO.fieldAddr fl_66_3 rfl dc rfl (show _ = 4 from rfl) ?_)
           refine TO.store (k := 2) (l' := [.int .i64 q1.At, .int .i64 (q1.At + q1.Width), .int .i64 (kind q3.Rune), .bool ((q4.Rune : Int) == 8205), .int .i64 0]) sz_3 rfl rfl rfl rfl rfl (fun _ _ => rfl) rfl ?_
           show TO _ _ _ _ _ _ _ _ _ _ [vec enc_Gref02_Piece 90 3 v2 r1, vec enc_Gref05_Piece 66 5 v5 out4, cells b2 [.int .i64 q1.At, .int .i64 (q1.At + q1.Width), .int .i64 (kind q3.Rune), .bool ((q4.Rune : Int) == 8205), .int .i64 0] 66]
           refine TO.nil (TX.blockNormal (TX.blockNormal ?_))
           exact TX.meetD (q1.At, q1.At + q1.Width, kind q3.Rune, (q4.Rune : Int) == 8205, 0, b2) h rfl (Sbs.cons rfl (Sbs.cons rfl (Sbs.cons rfl (Sbs.cons rfl (Sbs.nil))))) (Splits.of [0, 1, 2] kr rfl)
          ·
           have h := condF hb7 h
           refine TC.seq (TC.region (TO.move rfl dc rfl (TO.move rfl dc rfl ?_)))
           obtain ⟨q5, hq6, h⟩ := andE h
           refine TO.indexVecI (k := 0) hq6 Try.underlying87 sz_90 rfl dc rfl rfl rfl rfl (TO.fieldAddr fl_90_2 rfl dc rfl (show _ = ((i3 : Int).toNat) * 3 + 2 from rfl) (TO.loadVec (i := (i3 : Int).toNat) (j := 2) (k := 0) (q := q5) sc_21 enc_Gref02_Piece_len rfl dc rfl rfl (getO_get hq6) rfl dc rfl ?_))
           obtain ⟨r2, hq7, h⟩ := andE h
           refine TO.callP (v := .bool r2) (vs := [.int .i32 q5.Rune]) rfl dc rfl rfl rfl en_38 (ref05_wide_fn hq7) (TO.assign rfl dc rfl (TO.nil (TX.next ?_)))
           refine TC.condB rfl (fun hb8 => ?_) (fun hb8 => ?_)
           ·
            have h := condT hb8 h
            refine TC.region (TO.fieldAddr fl_66_3 rfl dc rfl (show _ = 4 from rfl) ?_)
            refine TO.store (k := 2) (l' := [.int .i64 q1.At, .int .i64 (q1.At + q1.Width), .int .i64 (kind q3.Rune), .bool ((q4.Rune : Int) == 8205), .int .i64 2]) sz_3 rfl rfl rfl rfl rfl (fun _ _ => rfl) rfl ?_
            show TO _ _ _ _ _ _ _ _ _ _ [vec enc_Gref02_Piece 90 3 v2 r1, vec enc_Gref05_Piece 66 5 v5 out4, cells b2 [.int .i64 q1.At, .int .i64 (q1.At + q1.Width), .int .i64 (kind q3.Rune), .bool ((q4.Rune : Int) == 8205), .int .i64 2] 66]
            refine TO.nil (TX.blockNormal (TX.blockNormal ?_))
            exact TX.meetD (q1.At, q1.At + q1.Width, kind q3.Rune, (q4.Rune : Int) == 8205, 2, b2) h rfl (Sbs.cons rfl (Sbs.cons rfl (Sbs.cons rfl (Sbs.cons rfl (Sbs.nil))))) (Splits.of [0, 1, 2] kr rfl)
           ·
            have h := condF hb8 h
            refine TC.skip (TX.blockNormal (TX.blockNormal ?_))
            exact TX.meetD (q1.At, q1.At + q1.Width, kind q3.Rune, (q4.Rune : Int) == 8205, 1, b2) h rfl (Sbs.cons rfl (Sbs.cons rfl (Sbs.cons rfl (Sbs.cons rfl (Sbs.nil))))) (Splits.of [0, 1, 2] kr rfl)
     ·
      have h := condF hb2 h
      refine TO.skip rfl dc (TO.skip rfl dc (TO.skip rfl dc (TO.skip rfl dc (TO.skip rfl dc (TO.skip rfl dc (TO.pick (b := false) rfl dc rfl rfl (TO.assign rfl dc rfl (TO.nil (TX.next (TC.condF rfl (TC.seq (TC.region (TO.move rfl dc rfl ?_)))))))))))))
      refine TO.move rfl dc rfl ?_
      obtain ⟨q6, hq8, h⟩ := andE h
      refine TO.indexVecI (k := 0) hq8 Try.underlying87 sz_90 rfl dc rfl rfl rfl rfl (TO.fieldAddr fl_90_2 rfl dc rfl (show _ = ((i3 : Int).toNat) * 3 + 2 from rfl) (TO.loadVec (i := (i3 : Int).toNat) (j := 2) (k := 0) (q := q6) sc_21 enc_Gref02_Piece_len rfl dc rfl rfl (getO_get hq8) rfl dc rfl ?_))
      obtain ⟨hg3, h⟩ := grdE h
      refine TO.callP (v := .int .i64 (kind q6.Rune)) (vs := [.int .i32 q6.Rune]) rfl dc rfl rfl rfl en_37 (FnP.of_same fun w => rkind_any q6.Rune w hg3.1 hg3.2) ?_
      refine TO.fieldAddr fl_66_1 rfl dc rfl (show _ = 2 from rfl) ?_
      refine TO.store (k := 2) (l' := [.int .i64 q1.At, .int .i64 (q1.At + q1.Width), .int .i64 (kind q6.Rune), .bool false, .int .i64 1]) sz_3 rfl rfl rfl rfl rfl (fun _ _ => rfl) rfl ?_
      show TO _ _ _ _ _ _ _ _ _ _ [vec enc_Gref02_Piece 90 3 v2 r1, vec enc_Gref05_Piece 66 5 v5 out4, cells b2 [.int .i64 q1.At, .int .i64 (q1.At + q1.Width), .int .i64 (kind q6.Rune), .bool false, .int .i64 1] 66]
      refine TO.nil (TX.next (TC.seq (TC.region (TO.move rfl dc rfl (TO.move rfl dc rfl ?_)))))
      obtain ⟨q7, hq9, h⟩ := andE h
      refine TO.indexVecI (k := 0) hq9 Try.underlying87 sz_90 rfl dc rfl rfl rfl rfl (TO.fieldAddr fl_90_2 rfl dc rfl (show _ = ((i3 : Int).toNat) * 3 + 2 from rfl) (TO.loadVec (i := (i3 : Int).toNat) (j := 2) (k := 0) (q := q7) sc_21 enc_Gref02_Piece_len rfl dc rfl rfl (getO_get hq9) rfl dc rfl (TO.bin rfl dc rfl rfl bin_eql (TO.fieldAddr fl_66_2 rfl dc rfl (show _ = 3 from rfl) ?_))))
      refine TO.store (k := 2) (l' := [.int .i64 q1.At, .int .i64 (q1.At + q1.Width), .int .i64 (kind q6.Rune), .bool ((q7.Rune : Int) == 8205), .int .i64 1]) sz_4 rfl rfl rfl rfl rfl (fun _ _ => rfl) rfl ?_
      refine TO.nil (TX.next (TC.block (TC.seq (TC.region (TO.fieldAddr fl_66_2 rfl dc rfl (show _ = 3 from rfl) (TO.load (k := 2) sc_4 rfl dc rfl rfl rfl (TO.move rfl dc rfl ?_)))))))
      refine TO.split (s := 50) rfl (fun hb9 => ?_) (fun hb9 => ?_)
      ·
       have h := condT hb9 h
       refine TO.skip rfl dc (TO.skip rfl dc (TO.skip rfl dc (TO.pick (b := true) rfl dc rfl rfl (TO.move rfl dc rfl (TO.skip rfl dc (TO.skip rfl dc (TO.skip rfl dc (TO.pick (b := true) rfl dc rfl rfl (TO.move rfl dc rfl (TO.skip rfl dc (TO.skip rfl dc (TO.skip rfl dc (TO.pick (b := true) rfl dc rfl rfl ?_)))))))))))))
       refine TO.assign rfl dc rfl (TO.nil (TX.next (TC.condT rfl (TC.region (TO.fieldAddr fl_66_3 rfl dc rfl (show _ = 4 from rfl) ?_)))))
       refine TO.store (k := 2) (l' := [.int .i64 q1.At, .int .i64 (q1.At + q1.Width), .int .i64 (kind q6.Rune), .bool ((q7.Rune : Int) == 8205), .int .i64 0]) sz_3 rfl rfl rfl rfl rfl (fun _ _ => rfl) rfl ?_
       show TO _ _ _ _ _ _ _ _ _ _ [vec enc_Gref02_Piece 90 3 v2 r1, vec enc_Gref05_Piece 66 5 v5 out4, cells b2 [.int .i64 q1.At, .int .i64 (q1.At + q1.Width), .int .i64 (kind q6.Rune), .bool ((q7.Rune : Int) == 8205), .int .i64 0] 66]
       refine TO.nil (TX.blockNormal (TX.blockNormal ?_))
       exact TX.meetD (q1.At, q1.At + q1.Width, kind q6.Rune, (q7.Rune : Int) == 8205, 0, b2) h rfl (Sbs.cons rfl (Sbs.cons rfl (Sbs.cons rfl (Sbs.cons rfl (Sbs.nil))))) (Splits.of [0, 1, 2] kr rfl)
      ·
       have h := condF hb9 h
       refine TO.fieldAddr fl_66_1 rfl dc rfl (show _ = 2 from rfl) (TO.load (k := 2) sc_3 rfl dc rfl rfl rfl (TO.bin rfl dc rfl rfl bin_eql (TO.pick (b := false) rfl dc rfl rfl (TO.move rfl dc rfl ?_))))
       refine TO.split (s := 55) rfl (fun hb10 => ?_) (fun hb10 => ?_)
       ·
        have h := condT hb10 h
        refine TO.skip rfl dc (TO.skip rfl dc (TO.skip rfl dc (TO.pick (b := true) rfl dc rfl rfl (TO.move rfl dc rfl (TO.skip rfl dc (TO.skip rfl dc (TO.skip rfl dc (TO.pick (b := true) rfl dc rfl rfl (TO.assign rfl dc rfl (TO.nil (TX.next (TC.condT rfl (TC.region ?_)))))))))))))
        refine TO.fieldAddr fl_66_3 rfl dc rfl (show _ = 4 from rfl) ?_
        refine TO.store (k := 2) (l' := [.int .i64 q1.At, .int .i64 (q1.At + q1.Width), .int .i64 (kind q6.Rune), .bool ((q7.Rune : Int) == 8205), .int .i64 0]) sz_3 rfl rfl rfl rfl rfl (fun _ _ => rfl) rfl ?_
        show TO _ _ _ _ _ _ _ _ _ _ [vec enc_Gref02_Piece 90 3 v2 r1, vec enc_Gref05_Piece 66 5 v5 out4, cells b2 [.int .i64 q1.At, .int .i64 (q1.At + q1.Width), .int .i64 (kind q6.Rune), .bool ((q7.Rune : Int) == 8205), .int .i64 0] 66]
        refine TO.nil (TX.blockNormal (TX.blockNormal ?_))
        exact TX.meetD (q1.At, q1.At + q1.Width, kind q6.Rune, (q7.Rune : Int) == 8205, 0, b2) h rfl (Sbs.cons rfl (Sbs.cons rfl (Sbs.cons rfl (Sbs.cons rfl (Sbs.nil))))) (Splits.of [0, 1, 2] kr rfl)
       ·
        have h := condF hb10 h
        refine TO.fieldAddr fl_66_1 rfl dc rfl (show _ = 2 from rfl) (TO.load (k := 2) sc_3 rfl dc rfl rfl rfl (TO.bin rfl dc rfl rfl bin_eql (TO.pick (b := false) rfl dc rfl rfl (TO.move rfl dc rfl ?_))))
        refine TO.split (s := 60) rfl (fun hb11 => ?_) (fun hb11 => ?_)
        ·
         have h := condT hb11 h
         refine TO.skip rfl dc (TO.skip rfl dc (TO.skip rfl dc (TO.pick (b := true) rfl dc rfl rfl (TO.assign rfl dc rfl (TO.nil (TX.next (TC.condT rfl (TC.region (TO.fieldAddr fl_66_3 rfl dc rfl (show _ = 4 from rfl) ?_)))))))))
         refine TO.store (k := 2) (l' := [.int .i64 q1.At, .int .i64 (q1.At + q1.Width), .int .i64 (kind q6.Rune), .bool ((q7.Rune : Int) == 8205), .int .i64 0]) sz_3 rfl rfl rfl rfl rfl (fun _ _ => rfl) rfl ?_
         show TO _ _ _ _ _ _ _ _ _ _ [vec enc_Gref02_Piece 90 3 v2 r1, vec enc_Gref05_Piece 66 5 v5 out4, cells b2 [.int .i64 q1.At, .int .i64 (q1.At + q1.Width), .int .i64 (kind q6.Rune), .bool ((q7.Rune : Int) == 8205), .int .i64 0] 66]
         refine TO.nil (TX.blockNormal (TX.blockNormal ?_))
         exact TX.meetD (q1.At, q1.At + q1.Width, kind q6.Rune, (q7.Rune : Int) == 8205, 0, b2) h rfl (Sbs.cons rfl (Sbs.cons rfl (Sbs.cons rfl (Sbs.cons rfl (Sbs.nil))))) (Splits.of [0, 1, 2] kr rfl)
        ·
         have h := condF hb11 h
         refine TO.fieldAddr fl_66_1 rfl dc rfl (show _ = 2 from rfl) (TO.load (k := 2) sc_3 rfl dc rfl rfl rfl (TO.bin rfl dc rfl rfl bin_eql (TO.pick (b := false) rfl dc rfl rfl (TO.assign rfl dc rfl (TO.nil (TX.next ?_))))))
         refine TC.condB rfl (fun hb12 => ?_) (fun hb12 => ?_)
         ·
          have h := condT hb12 h
          refine TC.region (TO.fieldAddr fl_66_3 rfl dc rfl (show _ = 4 from rfl) ?_)
          refine TO.store (k := 2) (l' := [.int .i64 q1.At, .int .i64 (q1.At + q1.Width), .int .i64 (kind q6.Rune), .bool ((q7.Rune : Int) == 8205), .int .i64 0]) sz_3 rfl rfl rfl rfl rfl (fun _ _ => rfl) rfl ?_
          show TO _ _ _ _ _ _ _ _ _ _ [vec enc_Gref02_Piece 90 3 v2 r1, vec enc_Gref05_Piece 66 5 v5 out4, cells b2 [.int .i64 q1.At, .int .i64 (q1.At + q1.Width), .int .i64 (kind q6.Rune), .bool ((q7.Rune : Int) == 8205), .int .i64 0] 66]
          refine TO.nil (TX.blockNormal (TX.blockNormal ?_))
          exact TX.meetD (q1.At, q1.At + q1.Width, kind q6.Rune, (q7.Rune : Int) == 8205, 0, b2) h rfl (Sbs.cons rfl (Sbs.cons rfl (Sbs.cons rfl (Sbs.cons rfl (Sbs.nil))))) (Splits.of [0, 1, 2] kr rfl)
         ·
          have h := condF hb12 h
          refine TC.seq (TC.region (TO.move rfl dc rfl (TO.move rfl dc rfl ?_)))
          obtain ⟨q8, hq10, h⟩ := andE h
          refine TO.indexVecI (k := 0) hq10 Try.underlying87 sz_90 rfl dc rfl rfl rfl rfl (TO.fieldAddr fl_90_2 rfl dc rfl (show _ = ((i3 : Int).toNat) * 3 + 2 from rfl) (TO.loadVec (i := (i3 : Int).toNat) (j := 2) (k := 0) (q := q8) sc_21 enc_Gref02_Piece_len rfl dc rfl rfl (getO_get hq10) rfl dc rfl ?_))
          obtain ⟨r3, hq11, h⟩ := andE h
          refine TO.callP (v := .bool r3) (vs := [.int .i32 q8.Rune]) rfl dc rfl rfl rfl en_38 (ref05_wide_fn hq11) (TO.assign rfl dc rfl (TO.nil (TX.next ?_)))
          refine TC.condB rfl (fun hb13 => ?_) (fun hb13 => ?_)
          ·
           have h := condT hb13 h
           refine TC.region (TO.fieldAddr fl_66_3 rfl dc rfl (show _ = 4 from rfl) ?_)
           refine TO.store (k := 2) (l' := [.int .i64 q1.At, .int .i64 (q1.At + q1.Width), .int .i64 (kind q6.Rune), .bool ((q7.Rune : Int) == 8205), .int .i64 2]) sz_3 rfl rfl rfl rfl rfl (fun _ _ => rfl) rfl ?_
           show TO _ _ _ _ _ _ _ _ _ _ [vec enc_Gref02_Piece 90 3 v2 r1, vec enc_Gref05_Piece 66 5 v5 out4, cells b2 [.int .i64 q1.At, .int .i64 (q1.At + q1.Width), .int .i64 (kind q6.Rune), .bool ((q7.Rune : Int) == 8205), .int .i64 2] 66]
           refine TO.nil (TX.blockNormal (TX.blockNormal ?_))
           exact TX.meetD (q1.At, q1.At + q1.Width, kind q6.Rune, (q7.Rune : Int) == 8205, 2, b2) h rfl (Sbs.cons rfl (Sbs.cons rfl (Sbs.cons rfl (Sbs.cons rfl (Sbs.nil))))) (Splits.of [0, 1, 2] kr rfl)
          ·
           have h := condF hb13 h
           refine TC.skip (TX.blockNormal (TX.blockNormal ?_))
           exact TX.meetD (q1.At, q1.At + q1.Width, kind q6.Rune, (q7.Rune : Int) == 8205, 1, b2) h rfl (Sbs.cons rfl (Sbs.cons rfl (Sbs.cons rfl (Sbs.cons rfl (Sbs.nil))))) (Splits.of [0, 1, 2] kr rfl)
    ·
     rintro ⟨p1, p2, p3, p4, p5, b1⟩ h
     rw [hj2] at h
     show TC _ _ _ _ _ ([]) _ _ [(3, v2), (4, v5), (5, .int .i64 i3), (6, .pointer (some ⟨b1, 0, none⟩))] [vec enc_Gref02_Piece 90 3 v2 r1, vec enc_Gref05_Piece 66 5 v5 out4, cells b1 [.int .i64 p1, .int .i64 p2, .int .i64 p3, .bool p4, .int .i64 p5] 66]
     refine TC.region (TO.move rfl dc rfl (TO.loads (k := 2) (cs := [.int .i64 p1, .int .i64 p2, .int .i64 p3, .bool p4, .int .i64 p5]) rw_66 rfl dc rfl rfl rfl rfl ?_))
     refine TO.buildSlice (cs := [.int .i64 p1, .int .i64 p2, .int .i64 p3, .bool p4, .int .i64 p5]) (te := 66) (ps := [(0, .tmp 91)]) rfl dc rfl (fun _ => by kernel_rfl) (fun b3 => ?_)
     obtain ⟨hg4, h⟩ := grdE h
     refine TO.appendVec (k := 1) (k2 := 3) (ys := [(⟨p1, p2, p3, p4, p5⟩ : Gref05_Piece)]) Try.underlying63 el_66 enc_Gref05_Piece_len enc_Gref05_Piece_one rfl dc rfl rfl rfl rfl rfl rfl hg4 (fun v6 => ?_)
     show TO _ _ _ _ _ _ _ _ _ _ [vec enc_Gref02_Piece 90 3 v2 r1, vec enc_Gref05_Piece 66 5 v6 (out4 ++ [(⟨p1, p2, p3, p4, p5⟩ : Gref05_Piece)]), cells b1 [.int .i64 p1, .int .i64 p2, .int .i64 p3, .bool p4, .int .i64 p5] 66, cells b3 [.int .i64 p1, .int .i64 p2, .int .i64 p3, .bool p4, .int .i64 p5] 66]
     refine TO.assign rfl dc rfl (TO.nil (TX.blockNormal (TX.next (TC.region (TO.move rfl dc rfl ?_)))))
     obtain ⟨hg5, h⟩ := grdE h
     refine TO.bin rfl dc rfl rfl (bin_add (r := i3 + 1) (IntWalk.i64_in _ hg5)) (TO.assign rfl dc rfl (TO.nil ?_))
     subst hag1
     exact TX.againD (n1, out4 ++ [(⟨p1, p2, p3, p4, p5⟩ : Gref05_Piece)], i3 + 1, v6) h (Nat.lt_succ_self _) rfl (Sbs.cons rfl (Sbs.cons rfl (Sbs.cons rfl (Sbs.nil)))) (Splits.of [0, 1] kr rfl)
   ·
    have h := condF hb1 h
    refine TC.exit (TX.thenExit (TX.thenExit (TX.blockHere ?_)))
    exact TX.meetD (out4, v5) h rfl (Sbs.cons rfl (Sbs.nil)) (Splits.of [1] kr rfl)
 ·
  rintro ⟨out1, v1⟩ h
  rw [hj1] at h
  show TC _ _ _ _ _ ([]) _ _ [(4, v1)] [vec enc_Gref05_Piece 66 5 v1 out1]
  refine TC.seq (TC.region (TO.move rfl dc rfl (TO.assign rfl dc rfl (TO.nil (TX.next (TC.ret ?_))))))
  cases h
  exact TX.fin (rs := [.tmp 2]) v1 (.inl rfl) Try.results26 (.cons (.tmp rfl) .nil) rfl (Splits.of [0] kr rfl)
def ref05_Cells_s2 (r1 : (List Gref05_Piece)) (j2 : Int → Option (List Gapi_Cell)) (q1 : Gref05_Piece) (ag2 : Int → Option (List Gapi_Cell)) (k4 : Int) : Option (List Gapi_Cell) := joinK (fun (j3 : Int → Bool → Bool → Bool → Bool → Bool → Option (List Gapi_Cell)) => bcond (decide ((k4 : Int) < (r1.length : Int))) ( andThen (getO r1 k4) fun (q4 : Gref05_Piece) => bcond ((q4.Kind : Int) == 2) ( j3 q4.Kind ((q4.Kind : Int) == 2) true true true true
) ( bcond (q4.Joiner) ( j3 q4.Kind ((q4.Kind : Int) == 2) false q4.Joiner true true
) ( bcond ((q1.Kind : Int) == 10) ( bcond ((q4.Kind : Int) == 10) ( grd (I64 (k4 - 1)) <| andThen (getO r1 (k4 - 1)) fun (q5 : Gref05_Piece) => bcond (q5.Joiner) ( j3 q4.Kind ((q4.Kind : Int) == 2) false q4.Joiner false q5.Joiner
) ( j2 k4
)
) ( j2 k4
)
) ( j2 k4
)
)
)
) ( j2 k4
)
) (fun (x1 : Int) (x2 : Bool) (x3 : Bool) (x4 : Bool) (x5 : Bool) (x6 : Bool) => grd (I64 (k4 + 1)) <| ag2 (k4 + 1)
)
def ref05_Cells_s3 (r1 : (List Gref05_Piece)) (j2 : Int → Option (List Gapi_Cell)) (q1 : Gref05_Piece) (ag3 : Int → Option (List Gapi_Cell)) (k7 : Int) : Option (List Gapi_Cell) := joinK (fun (j4 : Int → Bool → Bool → Bool → Bool → Bool → Option (List Gapi_Cell)) => bcond (decide ((k7 : Int) < (r1.length : Int))) ( andThen (getO r1 k7) fun (q6 : Gref05_Piece) => bcond ((q6.Kind : Int) == 2) ( j4 q6.Kind ((q6.Kind : Int) == 2) true true true true
) ( bcond (q6.Joiner) ( j4 q6.Kind ((q6.Kind : Int) == 2) false q6.Joiner true true
) ( bcond ((q1.Kind : Int) == 10) ( bcond ((q6.Kind : Int) == 10) ( grd (I64 (k7 - 1)) <| andThen (getO r1 (k7 - 1)) fun (q7 : Gref05_Piece) => bcond (q7.Joiner) ( j4 q6.Kind ((q6.Kind : Int) == 2) false q6.Joiner false q7.Joiner
) ( j2 k7
)
) ( j2 k7
)
) ( j2 k7
)
)
)
) ( j2 k7
)
) (fun (x7 : Int) (x8 : Bool) (x9 : Bool) (x10 : Bool) (x11 : Bool) (x12 : Bool) => grd (I64 (k7 + 1)) <| ag3 (k7 + 1)
)
def ref05_Cells_s4 (r1 : (List Gref05_Piece)) (j2 : Int → Option (List Gapi_Cell)) (q1 : Gref05_Piece) (ag4 : Int → Option (List Gapi_Cell)) (k10 : Int) : Option (List Gapi_Cell) := joinK (fun (j5 : Int → Bool → Bool → Bool → Bool → Bool → Option (List Gapi_Cell)) => bcond (decide ((k10 : Int) < (r1.length : Int))) ( andThen (getO r1 k10) fun (q8 : Gref05_Piece) => bcond ((q8.Kind : Int) == 2) ( j5 q8.Kind ((q8.Kind : Int) == 2) true true true true
) ( bcond (q8.Joiner) ( j5 q8.Kind ((q8.Kind : Int) == 2) false q8.Joiner true true
) ( bcond ((q1.Kind : Int) == 10) ( bcond ((q8.Kind : Int) == 10) ( grd (I64 (k10 - 1)) <| andThen (getO r1 (k10 - 1)) fun (q9 : Gref05_Piece) => bcond (q9.Joiner) ( j5 q8.Kind ((q8.Kind : Int) == 2) false q8.Joiner false q9.Joiner
) ( j2 k10
)
) ( j2 k10
)
) ( j2 k10
)
)
)
) ( j2 k10
)
) (fun (x13 : Int) (x14 : Bool) (x15 : Bool) (x16 : Bool) (x17 : Bool) (x18 : Bool) => grd (I64 (k10 + 1)) <| ag4 (k10 + 1)
)
def ref05_Cells_s5 (r1 : (List Gref05_Piece)) (k1 : Int) (j6 : Int → Int → Int → Int → Option (List Gapi_Cell)) (q10 : Gref05_Piece) (q11 : Gref05_Piece) (ag5 : Int → Int → Option (List Gapi_Cell)) (i7 : Int) (c8 : Int) : Option (List Gapi_Cell) := bcond (decide ((i7 : Int) < k1)) ( andThen (getO r1 i7) fun (q12 : Gref05_Piece) => grd (I64 (i7 + 1)) <| ag5 (i7 + 1) (max c8 q12.Columns)
) ( j6 i7 q10.Span_From q11.Span_To c8
)
def ref05_Cells_s1 (s1 : ByteArray) (j1 : (List Gapi_Cell) → Option (List Gapi_Cell)) (r1 : (List Gref05_Piece)) (ag1 : (List Gapi_Cell) → Int → Option (List Gapi_Cell)) (out4 : List Gapi_Cell) (i3 : Int) : Option (List Gapi_Cell) := bcond (decide ((i3 : Int) < (r1.length : Int))) ( joinK (fun (j2 : Int → Option (List Gapi_Cell)) => grd (I64 (i3 + 1)) <| andThen (getO r1 i3) fun (q1 : Gref05_Piece) => andThen (getO r1 i3) fun (q2 : Gref05_Piece) => andThen (getB s1 q2.Span_From) fun (c1 : Int) => bcond ((c1 : Int) == 13) ( bcond (decide (((i3 + 1) : Int) < (r1.length : Int))) ( andThen (getO r1 (i3 + 1)) fun (q3 : Gref05_Piece) => andThen (getB s1 q3.Span_From) fun (c2 : Int) => bcond ((c2 : Int) == 10) ( grd (I64 ((i3 + 1) + 1)) <| j2 ((i3 + 1) + 1)
) ( bcond ((q1.Kind : Int) == 11) ( j2 (i3 + 1)
) ( bcond ((q1.Kind : Int) == 4) ( j2 (i3 + 1)
) ( bcond ((q1.Kind : Int) == 9) ( j2 (i3 + 1)
) ( loopG (fun _ => none) (ref05_Cells_s2 r1 j2 q1) fuel (i3 + 1)
)
)
)
)
) ( bcond ((q1.Kind : Int) == 11) ( j2 (i3 + 1)
) ( bcond ((q1.Kind : Int) == 4) ( j2 (i3 + 1)
) ( bcond ((q1.Kind : Int) == 9) ( j2 (i3 + 1)
) ( loopG (fun _ => none) (ref05_Cells_s3 r1 j2 q1) fuel (i3 + 1)
)
)
)
)
) ( bcond ((q1.Kind : Int) == 11) ( j2 (i3 + 1)
) ( bcond ((q1.Kind : Int) == 4) ( j2 (i3 + 1)
) ( bcond ((q1.Kind : Int) == 9) ( j2 (i3 + 1)
) ( loopG (fun _ => none) (ref05_Cells_s4 r1 j2 q1) fuel (i3 + 1)
)
)
)
)
) (fun (k1 : Int) => joinK (fun (j6 : Int → Int → Int → Int → Option (List Gapi_Cell)) => andThen (getO r1 i3) fun (q10 : Gref05_Piece) => grd (I64 (k1 - 1)) <| andThen (getO r1 (k1 - 1)) fun (q11 : Gref05_Piece) => loopG (fun _ _ => none) (ref05_Cells_s5 r1 k1 j6 q10 q11) fuel i3 0
) (fun (i4 : Int) (c3 : Int) (c4 : Int) (c5 : Int) => grd (out4.length + 1 ≤ 2147483648) <| ag1 (out4 ++ [(⟨c3, c4, c5⟩ : Gapi_Cell)]) i4
)
)
) ( j1 out4
)
def ref05_Cells_v (s1 : ByteArray) : Option (List Gapi_Cell) := joinK (fun (j1 : (List Gapi_Cell) → Option (List Gapi_Cell)) => andThen (ref05_Pieces_v s1) fun (r1 : (List Gref05_Piece)) => loopG (fun _ _ => none) (ref05_Cells_s1 s1 j1 r1) fuel ([] : List Gapi_Cell) 0
) (fun (out1 : List Gapi_Cell) => some out1
)
set_option maxRecDepth 100000 in
set_option maxHeartbeats 4000000 in
theorem ref05_Cells_fn {s1 : ByteArray} {r : (List Gapi_Cell)} (h : ref05_Cells_v s1 = some r) : Fn Try.prog 16 [.string s1] [] (fun v0 : Value => v0) (fun v0 => [vec enc_Gapi_Cell 52 3 v0 r]) := by
 unfold ref05_Cells_v at h
 refine Fn.intro Try.func16 rfl Try.ntmps16 (by simp) ?_
 intro w0 K
 obtain ⟨j1, hj1, h⟩ := joinE h
 refine TC.cutN (β := (List Gapi_Cell) × Value) 4 rfl (fun b => j1 b.1 = some r) (fun b => []) (fun b => [(4, b.2)]) (fun b => [vec enc_Gapi_Cell 52 3 b.2 b.1]) (fun cut => ?_) ?_
 ·
  refine TC.seq (TC.region (TO.assign rfl dc rfl (TO.nil (TX.next (TC.seq (TC.region (TO.move rfl dc rfl ?_)))))))
  obtain ⟨r1, hq1, h⟩ := andE h
  refine TO.call (vs := [.string s1]) rfl dc rfl rfl rfl en_26 (ref05_Pieces_fn hq1) Splits.nil ?_
  rintro v2
  show TO _ _ _ _ _ _ _ _ _ _ [vec enc_Gref05_Piece 66 5 v2 r1]
  refine TO.assign rfl dc rfl (TO.nil (TX.next (TC.seq (TC.region (TO.assign rfl dc rfl (TO.nil (TX.next (TC.seq (TC.region (TO.assign rfl dc rfl (TO.nil (TX.next (cut ?_)))))))))))))
  refine TC.block (TC.newVec (enc := enc_Gapi_Cell) (e := 52) (size := 3) ?_)
  show TC _ _ _ _ _ _ _ _ _ [vec enc_Gref05_Piece 66 5 v2 r1, vec enc_Gapi_Cell 52 3 (.slice none 0 0) ([] : List Gapi_Cell)]
  refine TC.loopD (β := Nat × (List Gapi_Cell) × Int × Value) (fun b => loopG (fun _ _ => none) (ref05_Cells_s1 s1 j1 r1) b.1 b.2.1 b.2.2.1 = some r) (fun b => []) (fun b => [(0, .string s1), (3, v2), (4, b.2.2.2), (5, .int .i64 b.2.2.1)]) (fun b => [vec enc_Gref05_Piece 66 5 v2 r1, vec enc_Gapi_Cell 52 3 b.2.2.2 b.2.1]) (fun b => b.1) (fuel, ([] : List Gapi_Cell), 0, (.slice none 0 0)) h rfl (Sbs.cons rfl (Sbs.cons rfl (Sbs.cons rfl (Sbs.cons rfl (Sbs.nil))))) (Splits.of [0, 1] kr rfl) ?_
  rintro ⟨n1, out4, i3, v5⟩ h
  cases n1 with
  | zero => exact noneE h
  | succ n1 =>
   obtain ⟨ag1, hag1⟩ : ∃ ag, ag = loopG (fun _ _ => none) (ref05_Cells_s1 s1 j1 r1) n1 := ⟨_, rfl⟩
   have h : ref05_Cells_s1 s1 j1 r1 ag1 out4 i3 = some r := by rw [hag1]; exact h
   unfold ref05_Cells_s1 at h
   show TC _ _ _ _ _ ([]) _ _ [(0, .string s1), (3, v2), (4, v5), (5, .int .i64 i3)] [vec enc_Gref05_Piece 66 5 v2 r1, vec enc_Gapi_Cell 52 3 v5 out4]
   refine TC.seq (TC.seq (TC.region (TO.move rfl dc rfl (TO.move rfl dc rfl (TO.lenVec (k := 0) rfl dc rfl rfl Try.underlying63 (TO.bin rfl dc rfl rfl bin_lss (TO.nil (TX.next ?_))))))))
   refine TC.condB rfl (fun hb1 => ?_) (fun hb1 => ?_)
   ·
    have h := condT hb1 h
    refine TC.skip (TX.next (TC.block ?_))
    obtain ⟨j2, hj2, h⟩ := joinE h
    refine TC.cutN (β := Int) 2 rfl (fun b => j2 b = some r) (fun b => []) (fun b => [(0, .string s1), (3, v2), (4, v5), (5, .int .i64 i3), (6, .int .i64 b)]) (fun b => [vec enc_Gref05_Piece 66 5 v2 r1, vec enc_Gapi_Cell 52 3 v5 out4]) (fun cut => ?_) ?_
    ·
     refine TC.seq (TC.region (TO.move rfl dc rfl ?_))
     obtain ⟨hg1, h⟩ := grdE h
     refine TO.bin rfl dc rfl rfl (bin_add (r := i3 + 1) (IntWalk.i64_in _ hg1)) (TO.assign rfl dc rfl (TO.nil (TX.next (TC.seq (TC.region (TO.move rfl dc rfl (TO.move rfl dc rfl ?_)))))))
     obtain ⟨q1, hq2, h⟩ := andE h
     refine TO.indexVecI (k := 0) hq2 Try.underlying63 sz_66 rfl dc rfl rfl rfl rfl (TO.fieldAddr fl_66_1 rfl dc rfl (show _ = ((i3 : Int).toNat) * 5 + 2 from rfl) (TO.loadVec (i := (i3 : Int).toNat) (j := 2) (k := 0) (q := q1) sc_3 enc_Gref05_Piece_len rfl dc rfl rfl (getO_get hq2) rfl dc rfl (TO.assign rfl dc rfl (TO.nil (TX.next (cut (TC.block (TC.seq (TC.region (TO.move rfl dc rfl (TO.move rfl dc rfl (TO.move rfl dc rfl ?_))))))))))))
     obtain ⟨q2, hq3, h⟩ := andE h
     refine TO.indexVecI (k := 0) hq3 Try.underlying63 sz_66 rfl dc rfl rfl rfl rfl (TO.fieldAddr fl_66_0 rfl dc rfl (show _ = ((i3 : Int).toNat) * 5 from rfl) (TO.fieldAddr fl_50_0 rfl dc rfl (show _ = ((i3 : Int).toNat) * 5 from rfl) (TO.loadVec (i := (i3 : Int).toNat) (j := 0) (k := 0) (q := q2) sc_3 enc_Gref05_Piece_len rfl dc rfl rfl (getO_get hq3) rfl dc rfl ?_)))
     obtain ⟨c1, hq4, h⟩ := andE h
     refine TO.index rfl dc rfl rfl (index_stringI Try.underlying9 hq4) (TO.bin rfl dc rfl rfl bin_eql (TO.move rfl dc rfl ?_))
     refine TO.split (s := 73) rfl (fun hb2 => ?_) (fun hb2 => ?_)
     ·
      have h := condT hb2 h
      refine TO.move rfl dc rfl (TO.move rfl dc rfl (TO.lenVec (k := 0) rfl dc rfl rfl Try.underlying63 (TO.bin rfl dc rfl rfl bin_lss (TO.pick (b := true) rfl dc rfl rfl (TO.move rfl dc rfl ?_)))))
      refine TO.split (s := 79) rfl (fun hb3 => ?_) (fun hb3 => ?_)
      ·
       have h := condT hb3 h
       refine TO.move rfl dc rfl (TO.move rfl dc rfl (TO.move rfl dc rfl ?_))
       obtain ⟨q3, hq5, h⟩ := andE h
       refine TO.indexVecI (k := 0) hq5 Try.underlying63 sz_66 rfl dc rfl rfl rfl rfl (TO.fieldAddr fl_66_0 rfl dc rfl (show _ = ((i3 + 1 : Int).toNat) * 5 from rfl) (TO.fieldAddr fl_50_0 rfl dc rfl (show _ = ((i3 + 1 : Int).toNat) * 5 from rfl) (TO.loadVec (i := (i3 + 1 : Int).toNat) (j := 0) (k := 0) (q := q3) sc_3 enc_Gref05_Piece_len rfl dc rfl rfl (getO_get hq5) rfl dc rfl ?_)))
       obtain ⟨c2, hq6, h⟩ := andE h
       refine TO.index rfl dc rfl rfl (index_stringI Try.underlying9 hq6) (TO.bin rfl dc rfl rfl bin_eql (TO.pick (b := true) rfl dc rfl rfl (TO.assign rfl dc rfl (TO.nil (TX.next ?_)))))
       refine TC.condB rfl (fun hb4 => ?_) (fun hb4 => ?_)
       ·
        have h := condT hb4 h
        refine TC.region (TO.move rfl dc rfl ?_)
        obtain ⟨hg2, h⟩ := grdE h
        refine TO.bin rfl dc rfl rfl (bin_add (r := (i3 + 1) + 1) (IntWalk.i64_in _ hg2)) (TO.assign rfl dc rfl (TO.nil (TX.blockNormal ?_)))
        exact TX.meetD ((i3 + 1) + 1) h rfl (Sbs.cons rfl (Sbs.cons rfl (Sbs.cons rfl (Sbs.cons rfl (Sbs.cons rfl (Sbs.nil)))))) (Splits.of [0, 1] kr rfl)
       ·
        have h := condF hb4 h
        refine TC.seq (TC.region (TO.move rfl dc rfl (TO.bin rfl dc rfl rfl bin_eql (TO.move rfl dc rfl ?_))))
        refine TO.split (s := 95) rfl (fun hb5 => ?_) (fun hb5 => ?_)
        ·
         have h := condT hb5 h
         refine TO.skip rfl dc (TO.skip rfl dc (TO.pick (b := true) rfl dc rfl rfl (TO.move rfl dc rfl (TO.skip rfl dc (TO.skip rfl dc (TO.pick (b := true) rfl dc rfl rfl (TO.assign rfl dc rfl (TO.nil (TX.next (TC.condT rfl (TC.skip (TX.blockNormal ?_))))))))))))
         exact TX.meetD (i3 + 1) h rfl (Sbs.cons rfl (Sbs.cons rfl (Sbs.cons rfl (Sbs.cons rfl (Sbs.cons rfl (Sbs.nil)))))) (Splits.of [0, 1] kr rfl)
        ·
         have h := condF hb5 h
         refine TO.move rfl dc rfl (TO.bin rfl dc rfl rfl bin_eql (TO.pick (b := false) rfl dc rfl rfl (TO.move rfl dc rfl ?_)))
         refine TO.split (s := 99) rfl (fun hb6 => ?_) (fun hb6 => ?_)
         ·
          have h := condT hb6 h
          refine TO.skip rfl dc (TO.skip rfl dc (TO.pick (b := true) rfl dc rfl rfl (TO.assign rfl dc rfl (TO.nil (TX.next (TC.condT rfl (TC.skip (TX.blockNormal ?_))))))))
          exact TX.meetD (i3 + 1) h rfl (Sbs.cons rfl (Sbs.cons rfl (Sbs.cons rfl (Sbs.cons rfl (Sbs.cons rfl (Sbs.nil)))))) (Splits.of [0, 1] kr rfl)
         ·
          have h := condF hb6 h
          refine TO.move rfl dc rfl (TO.bin rfl dc rfl rfl bin_eql (TO.pick (b := false) rfl dc rfl rfl (TO.assign rfl dc rfl (TO.nil (TX.next ?_)))))
          refine TC.condB rfl (fun hb7 => ?_) (fun hb7 => ?_)
          ·
           have h := condT hb7 h
           refine TC.skip (TX.blockNormal ?_)
           exact TX.meetD (i3 + 1) h rfl (Sbs.cons rfl (Sbs.cons rfl (Sbs.cons rfl (Sbs.cons rfl (Sbs.cons rfl (Sbs.nil)))))) (Splits.of [0, 1] kr rfl)
          ·
           have h := condF hb7 h
           refine TC.block ?_
           refine TC.loopD (β := Nat × Int) (fun b => loopG (fun _ => none) (ref05_Cells_s2 r1 j2 q1) b.1 b.2 = some r) (fun b => []) (fun b => [(0, .string s1), (3, v2), (4, v5), (5, .int .i64 i3), (6, .int .i64 b.2), (7, .int .i64 q1.Kind), (74, .int .i64 (i3 + 1)), (75, v2), (76, .int .i64 (r1.length : Int)), (77, .bool (decide (((i3 + 1) : Int) < (r1.length : Int)))), (80, .string s1), (81, v2), (82, .int .i64 (i3 + 1)), (83, .pointer (some ⟨vblk v2, (i3 + 1 : Int).toNat * 5, none⟩)), (84, .pointer (some ⟨vblk v2, ((i3 + 1 : Int).toNat) * 5, none⟩)), (85, .pointer (some ⟨vblk v2, ((i3 + 1 : Int).toNat) * 5, none⟩)), (86, .int .i64 q3.Span_From), (87, .int .u8 c2), (88, .bool ((c2 : Int) == 10)), (96, .int .i64 q1.Kind), (97, .bool ((q1.Kind : Int) == 4)), (100, .int .i64 q1.Kind), (101, .bool ((q1.Kind : Int) == 9))]) (fun b => [vec enc_Gref05_Piece 66 5 v2 r1, vec enc_Gapi_Cell 52 3 v5 out4]) (fun b => b.1) (fuel, i3 + 1) h rfl (Sbs.cons rfl (Sbs.cons rfl (Sbs.cons rfl (Sbs.cons rfl (Sbs.cons rfl (Sbs.cons rfl (Sbs.cons rfl (Sbs.cons rfl (Sbs.cons rfl (Sbs.cons rfl (Sbs.cons rfl (Sbs.cons rfl (Sbs.cons rfl (Sbs.cons rfl (Sbs.cons rfl (Sbs.cons rfl (Sbs.cons rfl (Sbs.cons rfl (Sbs.cons rfl (Sbs.cons rfl (Sbs.cons rfl (Sbs.cons rfl (Sbs.cons rfl (Sbs.nil)))))))))))))))))))))))) (Splits.of [0, 1] kr rfl) ?_
           rintro ⟨n2, k4⟩ h
           cases n2 with
           | zero => exact noneE h
           | succ n2 =>
            obtain ⟨ag2, hag2⟩ : ∃ ag, ag = loopG (fun _ => none) (ref05_Cells_s2 r1 j2 q1) n2 := ⟨_, rfl⟩
            have h : ref05_Cells_s2 r1 j2 q1 ag2 k4 = some r := by rw [hag2]; exact h
            unfold ref05_Cells_s2 at h
            show TC _ _ _ _ _ ([]) _ _ [(0, .string s1), (3, v2), (4, v5), (5, .int .i64 i3), (6, .int .i64 k4), (7, .int .i64 q1.Kind), (74, .int .i64 (i3 + 1)), (75, v2), (76, .int .i64 (r1.length : Int)), (77, .bool (decide (((i3 + 1) : Int) < (r1.length : Int)))), (80, .string s1), (81, v2), (82, .int .i64 (i3 + 1)), (83, .pointer (some ⟨vblk v2, (i3 + 1 : Int).toNat * 5, none⟩)), (84, .pointer (some ⟨vblk v2, ((i3 + 1 : Int).toNat) * 5, none⟩)), (85, .pointer (some ⟨vblk v2, ((i3 + 1 : Int).toNat) * 5, none⟩)), (86, .int .i64 q3.Span_From), (87, .int .u8 c2), (88, .bool ((c2 : Int) == 10)), (96, .int .i64 q1.Kind), (97, .bool ((q1.Kind : Int) == 4)), (100, .int .i64 q1.Kind), (101, .bool ((q1.Kind : Int) == 9))] [vec enc_Gref05_Piece 66 5 v2 r1, vec enc_Gapi_Cell 52 3 v5 out4]
            obtain ⟨j3, hj3, h⟩ := joinE h
            refine TC.cutN (β := Int × Bool × Bool × Bool × Bool × Bool) 0 rfl (fun b => j3 b.1 b.2.1 b.2.2.1 b.2.2.2.1 b.2.2.2.2.1 b.2.2.2.2.2 = some r) (fun b => []) (fun b => [(0, .string s1), (3, v2), (4, v5), (5, .int .i64 i3), (6, .int .i64 k4), (7, .int .i64 q1.Kind), (27, v2), (28, .int .i64 k4), (29, .pointer (some ⟨vblk v2, (k4 : Int).toNat * 5, none⟩)), (30, .pointer (some ⟨vblk v2, ((k4 : Int).toNat) * 5 + 2, none⟩)), (31, .int .i64 b.1), (32, .bool b.2.1), (33, .bool b.2.2.1), (39, .bool b.2.2.2.1), (40, .bool b.2.2.2.2.1), (59, .bool b.2.2.2.2.2), (74, .int .i64 (i3 + 1)), (75, v2), (76, .int .i64 (r1.length : Int)), (77, .bool (decide (((i3 + 1) : Int) < (r1.length : Int)))), (80, .string s1), (81, v2), (82, .int .i64 (i3 + 1)), (83, .pointer (some ⟨vblk v2, (i3 + 1 : Int).toNat * 5, none⟩)), (84, .pointer (some ⟨vblk v2, ((i3 + 1 : Int).toNat) * 5, none⟩)), (85, .pointer (some ⟨vblk v2, ((i3 + 1 : Int).toNat) * 5, none⟩)), (86, .int .i64 q3.Span_From), (87, .int .u8 c2), (88, .bool ((c2 : Int) == 10)), (96, .int .i64 q1.Kind), (97, .bool ((q1.Kind : Int) == 4)), (100, .int .i64 q1.Kind), (101, .bool ((q1.Kind : Int) == 9))]) (fun b => [vec enc_Gref05_Piece 66 5 v2 r1, vec enc_Gapi_Cell 52 3 v5 out4]) (fun cut => ?_) ?_
            ·
             refine cut (TC.seq (TC.region (TO.move rfl dc rfl (TO.move rfl dc rfl (TO.lenVec (k := 0) rfl dc rfl rfl Try.underlying63 (TO.bin rfl dc rfl rfl bin_lss (TO.move rfl dc rfl ?_)))))))
             refine TO.split (s := 26) rfl (fun hb8 => ?_) (fun hb8 => ?_)
             ·
              have h := condT hb8 h
              refine TO.move rfl dc rfl (TO.move rfl dc rfl ?_)
              obtain ⟨q4, hq7, h⟩ := andE h
              refine TO.indexVecI (k := 0) hq7 Try.underlying63 sz_66 rfl dc rfl rfl rfl rfl (TO.fieldAddr fl_66_1 rfl dc rfl (show _ = ((k4 : Int).toNat) * 5 + 2 from rfl) (TO.loadVec (i := (k4 : Int).toNat) (j := 2) (k := 0) (q := q4) sc_3 enc_Gref05_Piece_len rfl dc rfl rfl (getO_get hq7) rfl dc rfl (TO.bin rfl dc rfl rfl bin_eql (TO.move rfl dc rfl ?_))))
              refine TO.split (s := 33) rfl (fun hb9 => ?_) (fun hb9 => ?_)
              ·
               have h := condT hb9 h
               refine TO.skip rfl dc (TO.skip rfl dc (TO.skip rfl dc (TO.skip rfl dc (TO.skip rfl dc (TO.pick (b := true) rfl dc rfl rfl (TO.move rfl dc rfl (TO.skip rfl dc (TO.skip rfl dc (TO.skip rfl dc (TO.skip rfl dc (TO.skip rfl dc (TO.skip rfl dc (TO.skip rfl dc ?_)))))))))))))
               refine TO.skip rfl dc (TO.skip rfl dc (TO.skip rfl dc (TO.skip rfl dc (TO.skip rfl dc (TO.skip rfl dc (TO.skip rfl dc (TO.skip rfl dc (TO.skip rfl dc (TO.skip rfl dc (TO.skip rfl dc (TO.pick (b := true) rfl dc rfl rfl (TO.pick (b := true) rfl dc rfl rfl (TO.nil ?_)))))))))))))
               refine TX.next (TC.condT rfl (TC.skip ?_))
               exact TX.meetD (q4.Kind, (q4.Kind : Int) == 2, true, true, true, true) h rfl (Sbs.cons rfl (Sbs.cons rfl (Sbs.cons rfl (Sbs.cons rfl (Sbs.cons rfl (Sbs.cons rfl (Sbs.cons rfl (Sbs.cons rfl (Sbs.cons rfl (Sbs.cons rfl (Sbs.cons rfl (Sbs.cons rfl (Sbs.cons rfl (Sbs.cons rfl (Sbs.cons rfl (Sbs.cons rfl (Sbs.cons rfl (Sbs.cons rfl (Sbs.cons rfl (Sbs.cons rfl (Sbs.cons rfl (Sbs.cons rfl (Sbs.cons rfl (Sbs.cons rfl (Sbs.cons rfl (Sbs.cons rfl (Sbs.cons rfl (Sbs.cons rfl (Sbs.cons rfl (Sbs.cons rfl (Sbs.cons rfl (Sbs.cons rfl (Sbs.cons rfl (Sbs.nil)))))))))))))))))))))))))))))))))) (Splits.of [0, 1] kr rfl)
              ·
               have h := condF hb9 h
               refine TO.move rfl dc rfl (TO.move rfl dc rfl (TO.indexVecI (k := 0) hq7 Try.underlying63 sz_66 rfl dc rfl rfl rfl rfl (TO.fieldAddr fl_66_2 rfl dc rfl (show _ = ((k4 : Int).toNat) * 5 + 3 from rfl) (TO.loadVec (i := (k4 : Int).toNat) (j := 3) (k := 0) (q := q4) sc_4 enc_Gref05_Piece_len rfl dc rfl rfl (getO_get hq7) rfl dc rfl (TO.pick (b := false) rfl dc rfl rfl (TO.move rfl dc rfl ?_))))))
               refine TO.split (s := 40) rfl (fun hb10 => ?_) (fun hb10 => ?_)
               ·
                have h := condT hb10 h
                refine TO.skip rfl dc (TO.skip rfl dc (TO.skip rfl dc (TO.skip rfl dc (TO.skip rfl dc (TO.skip rfl dc (TO.skip rfl dc (TO.skip rfl dc (TO.skip rfl dc (TO.skip rfl dc (TO.skip rfl dc (TO.skip rfl dc (TO.skip rfl dc (TO.skip rfl dc ?_)))))))))))))
                refine TO.skip rfl dc (TO.skip rfl dc (TO.skip rfl dc (TO.skip rfl dc (TO.pick (b := true) rfl dc rfl rfl (TO.pick (b := true) rfl dc rfl rfl (TO.nil (TX.next (TC.condT rfl (TC.skip ?_)))))))))
                exact TX.meetD (q4.Kind, (q4.Kind : Int) == 2, false, q4.Joiner, true, true) h rfl (Sbs.cons rfl (Sbs.cons rfl (Sbs.cons rfl (Sbs.cons rfl (Sbs.cons rfl (Sbs.cons rfl (Sbs.cons rfl (Sbs.cons rfl (Sbs.cons rfl (Sbs.cons rfl (Sbs.cons rfl (Sbs.cons rfl (Sbs.cons rfl (Sbs.cons rfl (Sbs.cons rfl (Sbs.cons rfl (Sbs.cons rfl (Sbs.cons rfl (Sbs.cons rfl (Sbs.cons rfl (Sbs.cons rfl (Sbs.cons rfl (Sbs.cons rfl (Sbs.cons rfl (Sbs.cons rfl (Sbs.cons rfl (Sbs.cons rfl (Sbs.cons rfl (Sbs.cons rfl (Sbs.cons rfl (Sbs.cons rfl (Sbs.cons rfl (Sbs.cons rfl (Sbs.nil)))))))))))))))))))))))))))))))))) (Splits.of [0, 1] kr rfl)
               ·
                have h := condF hb10 h
                refine TO.move rfl dc rfl (TO.bin rfl dc rfl rfl bin_eql (TO.move rfl dc rfl ?_))
                refine TO.split (s := 43) rfl (fun hb11 => ?_) (fun hb11 => ?_)
                ·
                 have h := condT hb11 h
                 refine TO.move rfl dc rfl (TO.move rfl dc rfl (TO.indexVecI (k := 0) hq7 Try.underlying63 sz_66 rfl dc rfl rfl rfl rfl (TO.fieldAddr fl_66_1 rfl dc rfl (show _ = ((k4 : Int).toNat) * 5 + 2 from rfl) (TO.loadVec (i := (k4 : Int).toNat) (j := 2) (k := 0) (q := q4) sc_3 enc_Gref05_Piece_len rfl dc rfl rfl (getO_get hq7) rfl dc rfl (TO.bin rfl dc rfl rfl bin_eql (TO.pick (b := true) rfl dc rfl rfl (TO.move rfl dc rfl ?_)))))))
                 refine TO.split (s := 51) rfl (fun hb12 => ?_) (fun hb12 => ?_)
                 ·
                  have h := condT hb12 h
                  refine TO.move rfl dc rfl (TO.move rfl dc rfl ?_)
                  obtain ⟨hg3, h⟩ := grdE h
                  refine TO.bin rfl dc rfl rfl (bin_sub (r := k4 - 1) (IntWalk.i64_in _ hg3)) ?_
                  obtain ⟨q5, hq8, h⟩ := andE h
                  refine TO.indexVecI (k := 0) hq8 Try.underlying63 sz_66 rfl dc rfl rfl rfl rfl (TO.fieldAddr fl_66_2 rfl dc rfl (show _ = ((k4 - 1 : Int).toNat) * 5 + 3 from rfl) (TO.loadVec (i := (k4 - 1 : Int).toNat) (j := 3) (k := 0) (q := q5) sc_4 enc_Gref05_Piece_len rfl dc rfl rfl (getO_get hq8) rfl dc rfl (TO.pick (b := true) rfl dc rfl rfl (TO.pick (b := false) rfl dc rfl rfl (TO.pick (b := true) rfl dc rfl rfl (TO.nil (TX.next ?_)))))))
                  refine TC.condB rfl (fun hb13 => ?_) (fun hb13 => ?_)
                  ·
                   have h := condT hb13 h
                   refine TC.skip ?_
                   exact TX.meetD (q4.Kind, (q4.Kind : Int) == 2, false, q4.Joiner, false, q5.Joiner) h rfl (Sbs.cons rfl (Sbs.cons rfl (Sbs.cons rfl (Sbs.cons rfl (Sbs.cons rfl (Sbs.cons rfl (Sbs.cons rfl (Sbs.cons rfl (Sbs.cons rfl (Sbs.cons rfl (Sbs.cons rfl (Sbs.cons rfl (Sbs.cons rfl (Sbs.cons rfl (Sbs.cons rfl (Sbs.cons rfl (Sbs.cons rfl (Sbs.cons rfl (Sbs.cons rfl (Sbs.cons rfl (Sbs.cons rfl (Sbs.cons rfl (Sbs.cons rfl (Sbs.cons rfl (Sbs.cons rfl (Sbs.cons rfl (Sbs.cons rfl (Sbs.cons rfl (Sbs.cons rfl (Sbs.cons rfl (Sbs.cons rfl (Sbs.cons rfl (Sbs.cons rfl (Sbs.nil)))))))))))))))))))))))))))))))))) (Splits.of [0, 1] kr rfl)
                  ·
                   have h := condF hb13 h
                   refine TC.exit (TX.thenExit (TX.thenExit (TX.blockHere (TX.blockNormal ?_))))
                   exact TX.meetD k4 h rfl (Sbs.cons rfl (Sbs.cons rfl (Sbs.cons rfl (Sbs.cons rfl (Sbs.cons rfl (Sbs.nil)))))) (Splits.of [0, 1] kr rfl)
                 ·
                  have h := condF hb12 h
                  refine TO.skip rfl dc (TO.skip rfl dc (TO.skip rfl dc (TO.skip rfl dc (TO.skip rfl dc (TO.skip rfl dc (TO.pick (b := false) rfl dc rfl rfl (TO.pick (b := false) rfl dc rfl rfl (TO.pick (b := true) rfl dc rfl rfl (TO.nil (TX.next (TC.condF rfl (TC.exit (TX.thenExit ?_)))))))))))))
                  refine TX.thenExit (TX.blockHere (TX.blockNormal ?_))
                  exact TX.meetD k4 h rfl (Sbs.cons rfl (Sbs.cons rfl (Sbs.cons rfl (Sbs.cons rfl (Sbs.cons rfl (Sbs.nil)))))) (Splits.of [0, 1] kr rfl)
                ·
                 have h := condF hb11 h
                 refine TO.skip rfl dc (TO.skip rfl dc (TO.skip rfl dc (TO.skip rfl dc (TO.skip rfl dc (TO.skip rfl dc (TO.pick (b := false) rfl dc rfl rfl (TO.move rfl dc rfl (TO.skip rfl dc (TO.skip rfl dc (TO.skip rfl dc (TO.skip rfl dc (TO.skip rfl dc (TO.skip rfl dc ?_)))))))))))))
                 refine TO.pick (b := false) rfl dc rfl rfl (TO.pick (b := false) rfl dc rfl rfl (TO.pick (b := true) rfl dc rfl rfl (TO.nil (TX.next (TC.condF rfl (TC.exit (TX.thenExit (TX.thenExit (TX.blockHere (TX.blockNormal ?_))))))))))
                 exact TX.meetD k4 h rfl (Sbs.cons rfl (Sbs.cons rfl (Sbs.cons rfl (Sbs.cons rfl (Sbs.cons rfl (Sbs.nil)))))) (Splits.of [0, 1] kr rfl)
             ·
              have h := condF hb8 h
              refine TO.skip rfl dc (TO.skip rfl dc (TO.skip rfl dc (TO.skip rfl dc (TO.skip rfl dc (TO.skip rfl dc (TO.skip rfl dc (TO.skip rfl dc (TO.skip rfl dc (TO.skip rfl dc (TO.skip rfl dc (TO.skip rfl dc (TO.skip rfl dc (TO.skip rfl dc ?_)))))))))))))
              refine TO.skip rfl dc (TO.skip rfl dc (TO.skip rfl dc (TO.skip rfl dc (TO.skip rfl dc (TO.skip rfl dc (TO.skip rfl dc (TO.skip rfl dc (TO.skip rfl dc (TO.skip rfl dc (TO.skip rfl dc (TO.skip rfl dc (TO.skip rfl dc (TO.skip rfl dc ?_)))))))))))))
              refine TO.skip rfl dc (TO.skip rfl dc (TO.skip rfl dc (TO.skip rfl dc (TO.skip rfl dc (TO.pick (b := false) rfl dc rfl rfl (TO.nil (TX.next (TC.condF rfl (TC.exit (TX.thenExit (TX.thenExit (TX.blockHere (TX.blockNormal ?_)))))))))))))
              exact TX.meetD k4 h rfl (Sbs.cons rfl (Sbs.cons rfl (Sbs.cons rfl (Sbs.cons rfl (Sbs.cons rfl (Sbs.nil)))))) (Splits.of [0, 1] kr rfl)
            ·
             rintro ⟨x1, x2, x3, x4, x5, x6⟩ h
             rw [hj3] at h
             show TC _ _ _ _ _ ([]) _ _ [(0, .string s1), (3, v2), (4, v5), (5, .int .i64 i3), (6, .int .i64 k4), (7, .int .i64 q1.Kind), (27, v2), (28, .int .i64 k4), (29, .pointer (some ⟨vblk v2, (k4 : Int).toNat * 5, none⟩)), (30, .pointer (some ⟨vblk v2, ((k4 : Int).toNat) * 5 + 2, none⟩)), (31, .int .i64 x1), (32, .bool x2), (33, .bool x3), (39, .bool x4), (40, .bool x5), (59, .bool x6), (74, .int .i64 (i3 + 1)), (75, v2), (76, .int .i64 (r1.length : Int)), (77, .bool (decide (((i3 + 1) : Int) < (r1.length : Int)))), (80, .string s1), (81, v2), (82, .int .i64 (i3 + 1)), (83, .pointer (some ⟨vblk v2, (i3 + 1 : Int).toNat * 5, none⟩)), (84, .pointer (some ⟨vblk v2, ((i3 + 1 : Int).toNat) * 5, none⟩)), (85, .pointer (some ⟨vblk v2, ((i3 + 1 : Int).toNat) * 5, none⟩)), (86, .int .i64 q3.Span_From), (87, .int .u8 c2), (88, .bool ((c2 : Int) == 10)), (96, .int .i64 q1.Kind), (97, .bool ((q1.Kind : Int) == 4)), (100, .int .i64 q1.Kind), (101, .bool ((q1.Kind : Int) == 9))] [vec enc_Gref05_Piece 66 5 v2 r1, vec enc_Gapi_Cell 52 3 v5 out4]
             refine TC.block (TC.region (TO.move rfl dc rfl ?_))
             obtain ⟨hg4, h⟩ := grdE h
             refine TO.bin rfl dc rfl rfl (bin_add (r := k4 + 1) (IntWalk.i64_in _ hg4)) (TO.assign rfl dc rfl (TO.nil (TX.blockNormal ?_)))
             subst hag2
             exact TX.againD (n2, k4 + 1) h (Nat.lt_succ_self _) rfl (Sbs.cons rfl (Sbs.cons rfl (Sbs.cons rfl (Sbs.cons rfl (Sbs.cons rfl (Sbs.cons rfl (Sbs.cons rfl (Sbs.cons rfl (Sbs.cons rfl (Sbs.cons rfl (Sbs.cons rfl (Sbs.cons rfl (Sbs.cons rfl (Sbs.cons rfl (Sbs.cons rfl (Sbs.cons rfl (Sbs.cons rfl (Sbs.cons rfl (Sbs.cons rfl (Sbs.cons rfl (Sbs.cons rfl (Sbs.cons rfl (Sbs.cons rfl (Sbs.nil)))))))))))))))))))))))) (Splits.of [0, 1] kr rfl)
      ·
       have h := condF hb3 h
       refine TO.skip rfl dc (TO.skip rfl dc (TO.skip rfl dc (TO.skip rfl dc (TO.skip rfl dc (TO.skip rfl dc (TO.skip rfl dc (TO.skip rfl dc (TO.skip rfl dc (TO.pick (b := false) rfl dc rfl rfl (TO.assign rfl dc rfl (TO.nil (TX.next (TC.condF rfl ?_)))))))))))))
       refine TC.seq (TC.region (TO.move rfl dc rfl (TO.bin rfl dc rfl rfl bin_eql (TO.move rfl dc rfl ?_))))
       refine TO.split (s := 95) rfl (fun hb14 => ?_) (fun hb14 => ?_)
       ·
        have h := condT hb14 h
        refine TO.skip rfl dc (TO.skip rfl dc (TO.pick (b := true) rfl dc rfl rfl (TO.move rfl dc rfl (TO.skip rfl dc (TO.skip rfl dc (TO.pick (b := true) rfl dc rfl rfl (TO.assign rfl dc rfl (TO.nil (TX.next (TC.condT rfl (TC.skip (TX.blockNormal ?_))))))))))))
        exact TX.meetD (i3 + 1) h rfl (Sbs.cons rfl (Sbs.cons rfl (Sbs.cons rfl (Sbs.cons rfl (Sbs.cons rfl (Sbs.nil)))))) (Splits.of [0, 1] kr rfl)
       ·
        have h := condF hb14 h
        refine TO.move rfl dc rfl (TO.bin rfl dc rfl rfl bin_eql (TO.pick (b := false) rfl dc rfl rfl (TO.move rfl dc rfl ?_)))
        refine TO.split (s := 99) rfl (fun hb15 => ?_) (fun hb15 => ?_)
        ·
         have h := condT hb15 h
         refine TO.skip rfl dc (TO.skip rfl dc (TO.pick (b := true) rfl dc rfl rfl (TO.assign rfl dc rfl (TO.nil (TX.next (TC.condT rfl (TC.skip (TX.blockNormal ?_))))))))
         exact TX.meetD (i3 + 1) h rfl (Sbs.cons rfl (Sbs.cons rfl (Sbs.cons rfl (Sbs.cons rfl (Sbs.cons rfl (Sbs.nil)))))) (Splits.of [0, 1] kr rfl)
        ·
         have h := condF hb15 h
         refine TO.move rfl dc rfl (TO.bin rfl dc rfl rfl bin_eql (TO.pick (b := false) rfl dc rfl rfl (TO.assign rfl dc rfl (TO.nil (TX.next ?_)))))
         refine TC.condB rfl (fun hb16 => ?_) (fun hb16 => ?_)
         ·
          have h := condT hb16 h
          refine TC.skip (TX.blockNormal ?_)
          exact TX.meetD (i3 + 1) h rfl (Sbs.cons rfl (Sbs.cons rfl (Sbs.cons rfl (Sbs.cons rfl (Sbs.cons rfl (Sbs.nil)))))) (Splits.of [0, 1] kr rfl)
         ·
          have h := condF hb16 h
          refine TC.block ?_
          refine TC.loopD (β := Nat × Int) (fun b => loopG (fun _ => none) (ref05_Cells_s3 r1 j2 q1) b.1 b.2 = some r) (fun b => []) (fun b => [(0, .string s1), (3, v2), (4, v5), (5, .int .i64 i3), (6, .int .i64 b.2), (7, .int .i64 q1.Kind), (74, .int .i64 (i3 + 1)), (75, v2), (76, .int .i64 (r1.length : Int)), (77, .bool (decide (((i3 + 1) : Int) < (r1.length : Int)))), (80, undef), (81, undef), (82, undef), (83, undef), (84, undef), (85, undef), (86, undef), (87, undef), (88, undef), (96, .int .i64 q1.Kind), (97, .bool ((q1.Kind : Int) == 4)), (100, .int .i64 q1.Kind), (101, .bool ((q1.Kind : Int) == 9))]) (fun b => [vec enc_Gref05_Piece 66 5 v2 r1, vec enc_Gapi_Cell 52 3 v5 out4]) (fun b => b.1) (fuel, i3 + 1) h rfl (Sbs.cons rfl (Sbs.cons rfl (Sbs.cons rfl (Sbs.cons rfl (Sbs.cons rfl (Sbs.cons rfl (Sbs.cons rfl (Sbs.cons rfl (Sbs.cons rfl (Sbs.cons rfl (Sbs.cons rfl (Sbs.cons rfl (Sbs.cons rfl (Sbs.cons rfl (Sbs.cons rfl (Sbs.cons rfl (Sbs.cons rfl (Sbs.cons rfl (Sbs.cons rfl (Sbs.cons rfl (Sbs.cons rfl (Sbs.cons rfl (Sbs.cons rfl (Sbs.nil)))))))))))))))))))))))) (Splits.of [0, 1] kr rfl) ?_
          rintro ⟨n3, k7⟩ h
          cases n3 with
          | zero => exact noneE h
          | succ n3 =>
           obtain ⟨ag3, hag3⟩ : ∃ ag, ag = loopG (fun _ => none) (ref05_Cells_s3 r1 j2 q1) n3 := ⟨_, rfl⟩
           have h : ref05_Cells_s3 r1 j2 q1 ag3 k7 = some r := by rw [hag3]; exact h
           unfold ref05_Cells_s3 at h
           show TC _ _ _ _ _ ([]) _ _ [(0, .string s1), (3, v2), (4, v5), (5, .int .i64 i3), (6, .int .i64 k7), (7, .int .i64 q1.Kind), (74, .int .i64 (i3 + 1)), (75, v2), (76, .int .i64 (r1.length : Int)), (77, .bool (decide (((i3 + 1) : Int) < (r1.length : Int)))), (80, undef), (81, undef), (82, undef), (83, undef), (84, undef), (85, undef), (86, undef), (87, undef), (88, undef), (96, .int .i64 q1.Kind), (97, .bool ((q1.Kind : Int) == 4)), (100, .int .i64 q1.Kind), (101, .bool ((q1.Kind : Int) == 9))] [vec enc_Gref05_Piece 66 5 v2 r1, vec enc_Gapi_Cell 52 3 v5 out4]
           obtain ⟨j4, hj4, h⟩ := joinE h
           refine TC.cutN (β := Int × Bool × Bool × Bool × Bool × Bool) 0 rfl (fun b => j4 b.1 b.2.1 b.2.2.1 b.2.2.2.1 b.2.2.2.2.1 b.2.2.2.2.2 = some r) (fun b => []) (fun b => [(0, .string s1), (3, v2), (4, v5), (5, .int .i64 i3), (6, .int .i64 k7), (7, .int .i64 q1.Kind), (27, v2), (28, .int .i64 k7), (29, .pointer (some ⟨vblk v2, (k7 : Int).toNat * 5, none⟩)), (30, .pointer (some ⟨vblk v2, ((k7 : Int).toNat) * 5 + 2, none⟩)), (31, .int .i64 b.1), (32, .bool b.2.1), (33, .bool b.2.2.1), (39, .bool b.2.2.2.1), (40, .bool b.2.2.2.2.1), (59, .bool b.2.2.2.2.2), (74, .int .i64 (i3 + 1)), (75, v2), (76, .int .i64 (r1.length : Int)), (77, .bool (decide (((i3 + 1) : Int) < (r1.length : Int)))), (80, undef), (81, undef), (82, undef), (83, undef), (84, undef), (85, undef), (86, undef), (87, undef), (88, undef), (96, .int .i64 q1.Kind), (97, .bool ((q1.Kind : Int) == 4)), (100, .int .i64 q1.Kind), (101, .bool ((q1.Kind : Int) == 9))]) (fun b => [vec enc_Gref05_Piece 66 5 v2 r1, vec enc_Gapi_Cell 52 3 v5 out4]) (fun cut => ?_) ?_
           ·
            refine cut (TC.seq (TC.region (TO.move rfl dc rfl (TO.move rfl dc rfl (TO.lenVec (k := 0) rfl dc rfl rfl Try.underlying63 (TO.bin rfl dc rfl rfl bin_lss (TO.move rfl dc rfl ?_)))))))
            refine TO.split (s := 26) rfl (fun hb17 => ?_) (fun hb17 => ?_)
            ·
             have h := condT hb17 h
             refine TO.move rfl dc rfl (TO.move rfl dc rfl ?_)
             obtain ⟨q6, hq9, h⟩ := andE h
             refine TO.indexVecI (k := 0) hq9 Try.underlying63 sz_66 rfl dc rfl rfl rfl rfl (TO.fieldAddr fl_66_1 rfl dc rfl (show _ = ((k7 : Int).toNat) * 5 + 2 from rfl) (TO.loadVec (i := (k7 : Int).toNat) (j := 2) (k := 0) (q := q6) sc_3 enc_Gref05_Piece_len rfl dc rfl rfl (getO_get hq9) rfl dc rfl (TO.bin rfl dc rfl rfl bin_eql (TO.move rfl dc rfl ?_))))
             refine TO.split (s := 33) rfl (fun hb18 => ?_) (fun hb18 => ?_)
             ·
              have h := condT hb18 h
              refine TO.skip rfl dc (TO.skip rfl dc (TO.skip rfl dc (TO.skip rfl dc (TO.skip rfl dc (TO.pick (b := true) rfl dc rfl rfl (TO.move rfl dc rfl (TO.skip rfl dc (TO.skip rfl dc (TO.skip rfl dc (TO.skip rfl dc (TO.skip rfl dc (TO.skip rfl dc (TO.skip rfl dc ?_)))))))))))))
              refine TO.skip rfl dc (TO.skip rfl dc (TO.skip rfl dc (TO.skip rfl dc (TO.skip rfl dc (TO.skip rfl dc (TO.skip rfl dc (TO.skip rfl dc (TO.skip rfl dc (TO.skip rfl dc (TO.skip rfl dc (TO.pick (b := true) rfl dc rfl rfl (TO.pick (b := true) rfl dc rfl rfl (TO.nil ?_)))))))))))))
              refine TX.next (TC.condT rfl (TC.skip ?_))
              exact TX.meetD (q6.Kind, (q6.Kind : Int) == 2, true, true, true, true) h rfl (Sbs.cons rfl (Sbs.cons rfl (Sbs.cons rfl (Sbs.cons rfl (Sbs.cons rfl (Sbs.cons rfl (Sbs.cons rfl (Sbs.cons rfl (Sbs.cons rfl (Sbs.cons rfl (Sbs.cons rfl (Sbs.cons rfl (Sbs.cons rfl (Sbs.cons rfl (Sbs.cons rfl (Sbs.cons rfl (Sbs.cons rfl (Sbs.cons rfl (Sbs.cons rfl (Sbs.cons rfl (Sbs.cons rfl (Sbs.cons rfl (Sbs.cons rfl (Sbs.cons rfl (Sbs.cons rfl (Sbs.cons rfl (Sbs.cons rfl (Sbs.cons rfl (Sbs.cons rfl (Sbs.cons rfl (Sbs.cons rfl (Sbs.cons rfl (Sbs.cons rfl (Sbs.nil)))))))))))))))))))))))))))))))))) (Splits.of [0, 1] kr rfl)
             ·
              have h := condF hb18 h
              refine TO.move rfl dc rfl (TO.move rfl dc rfl (TO.indexVecI (k := 0) hq9 Try.underlying63 sz_66 rfl dc rfl rfl rfl rfl (TO.fieldAddr fl_66_2 rfl dc rfl (show _ = ((k7 : Int).toNat) * 5 + 3 from rfl) (TO.loadVec (i := (k7 : Int).toNat) (j := 3) (k := 0) (q := q6) sc_4 enc_Gref05_Piece_len rfl dc rfl rfl (getO_get hq9) rfl dc rfl (TO.pick (b := false) rfl dc rfl rfl (TO.move rfl dc rfl ?_))))))
              refine TO.split (s := 40) rfl (fun hb19 => ?_) (fun hb19 => ?_)
              ·
               have h := condT hb19 h
               refine TO.skip rfl dc (TO.skip rfl dc (TO.skip rfl dc (TO.skip rfl dc (TO.skip rfl dc (TO.skip rfl dc (TO.skip rfl dc (TO.skip rfl dc (TO.skip rfl dc (TO.skip rfl dc (TO.skip rfl dc (TO.skip rfl dc (TO.skip rfl dc (TO.skip rfl dc ?_)))))))))))))
               refine TO.skip rfl dc (TO.skip rfl dc (TO.skip rfl dc (TO.skip rfl dc (TO.pick (b := true) rfl dc rfl rfl (TO.pick (b := true) rfl dc rfl rfl (TO.nil (TX.next (TC.condT rfl (TC.skip ?_)))))))))
               exact TX.meetD (q6.Kind, (q6.Kind : Int) == 2, false, q6.Joiner, true, true) h rfl (Sbs.cons rfl (Sbs.cons rfl (Sbs.cons rfl (Sbs.cons rfl (Sbs.cons rfl (Sbs.cons rfl (Sbs.cons rfl (Sbs.cons rfl (Sbs.cons rfl (Sbs.cons rfl (Sbs.cons rfl (Sbs.cons rfl (Sbs.cons rfl (Sbs.cons rfl (Sbs.cons rfl (Sbs.cons rfl (Sbs.cons rfl (Sbs.cons rfl (Sbs.cons rfl (Sbs.cons rfl (Sbs.cons rfl (Sbs.cons rfl (Sbs.cons rfl (Sbs.cons rfl (Sbs.cons rfl (Sbs.cons rfl (Sbs.cons rfl (Sbs.cons rfl (Sbs.cons rfl (Sbs.cons rfl (Sbs.cons rfl (Sbs.cons rfl (Sbs.cons rfl (Sbs.nil)))))))))))))))))))))))))))))))))) (Splits.of [0, 1] kr rfl)
              ·
               have h := condF hb19 h
               refine TO.move rfl dc rfl (TO.bin rfl dc rfl rfl bin_eql (TO.move rfl dc rfl ?_))
               refine TO.split (s := 43) rfl (fun hb20 => ?_) (fun hb20 => ?_)
               ·
                have h := condT hb20 h
                refine TO.move rfl dc rfl (TO.move rfl dc rfl (TO.indexVecI (k := 0) hq9 Try.underlying63 sz_66 rfl dc rfl rfl rfl rfl (TO.fieldAddr fl_66_1 rfl dc rfl (show _ = ((k7 : Int).toNat) * 5 + 2 from rfl) (TO.loadVec (i := (k7 : Int).toNat) (j := 2) (k := 0) (q := q6) sc_3 enc_Gref05_Piece_len rfl dc rfl rfl (getO_get hq9) rfl dc rfl (TO.bin rfl dc rfl rfl bin_eql (TO.pick (b := true) rfl dc rfl rfl (TO.move rfl dc rfl ?_)))))))
                refine TO.split (s := 51) rfl (fun hb21 => ?_) (fun hb21 => ?_)
                ·
                 have h := condT hb21 h
                 refine TO.move rfl dc rfl (TO.move rfl dc rfl ?_)
                 obtain ⟨hg5, h⟩ := grdE h
                 refine TO.bin rfl dc rfl rfl (bin_sub (r := k7 - 1) (IntWalk.i64_in _ hg5)) ?_
                 obtain ⟨q7, hq10, h⟩ := andE h
                 refine TO.indexVecI (k := 0) hq10 Try.underlying63 sz_66 rfl dc rfl rfl rfl rfl (TO.fieldAddr fl_66_2 rfl dc rfl (show _ = ((k7 - 1 : Int).toNat) * 5 + 3 from rfl) (TO.loadVec (i := (k7 - 1 : Int).toNat) (j := 3) (k := 0) (q := q7) sc_4 enc_Gref05_Piece_len rfl dc rfl rfl (getO_get hq10) rfl dc rfl (TO.pick (b := true) rfl dc rfl rfl (TO.pick (b := false) rfl dc rfl rfl (TO.pick (b := true) rfl dc rfl rfl (TO.nil (TX.next ?_)))))))
                 refine TC.condB rfl (fun hb22 => ?_) (fun hb22 => ?_)
                 ·
                  have h := condT hb22 h
                  refine TC.skip ?_
                  exact TX.meetD (q6.Kind, (q6.Kind : Int) == 2, false, q6.Joiner, false, q7.Joiner) h rfl (Sbs.cons rfl (Sbs.cons rfl (Sbs.cons rfl (Sbs.cons rfl (Sbs.cons rfl (Sbs.cons rfl (Sbs.cons rfl (Sbs.cons rfl (Sbs.cons rfl (Sbs.cons rfl (Sbs.cons rfl (Sbs.cons rfl (Sbs.cons rfl (Sbs.cons rfl (Sbs.cons rfl (Sbs.cons rfl (Sbs.cons rfl (Sbs.cons rfl (Sbs.cons rfl (Sbs.cons rfl (Sbs.cons rfl (Sbs.cons rfl (Sbs.cons rfl (Sbs.cons rfl (Sbs.cons rfl (Sbs.cons rfl (Sbs.cons rfl (Sbs.cons rfl (Sbs.cons rfl (Sbs.cons rfl (Sbs.cons rfl (Sbs.cons rfl (Sbs.cons rfl (Sbs.nil)))))))))))))))))))))))))))))))))) (Splits.of [0, 1] kr rfl)
                 ·
                  have h := condF hb22 h
                  refine TC.exit (TX.thenExit (TX.thenExit (TX.blockHere (TX.blockNormal ?_))))
                  exact TX.meetD k7 h rfl (Sbs.cons rfl (Sbs.cons rfl (Sbs.cons rfl (Sbs.cons rfl (Sbs.cons rfl (Sbs.nil)))))) (Splits.of [0, 1] kr rfl)
                ·
                 have h := condF hb21 h
                 refine TO.skip rfl dc (TO.skip rfl dc (TO.skip rfl dc (TO.skip rfl dc (TO.skip rfl dc (TO.skip rfl dc (TO.pick (b := false) rfl dc rfl rfl (TO.pick (b := false) rfl dc rfl rfl (TO.pick (b := true) rfl dc rfl rfl (TO.nil (TX.next (TC.condF rfl (TC.exit (TX.thenExit ?_)))))))))))))
                 refine TX.thenExit (TX.blockHere (TX.blockNormal ?_))
                 exact TX.meetD k7 h rfl (Sbs.cons rfl (Sbs.cons rfl (Sbs.cons rfl (Sbs.cons rfl (Sbs.cons rfl (Sbs.nil)))))) (Splits.of [0, 1] kr rfl)
               ·
                have h := condF hb20 h
                refine TO.skip rfl dc (TO.skip rfl dc (TO.skip rfl dc (TO.skip rfl dc (TO.skip rfl dc (TO.skip rfl dc (TO.pick (b := false) rfl dc rfl rfl (TO.move rfl dc rfl (TO.skip rfl dc (TO.skip rfl dc (TO.skip rfl dc (TO.skip rfl dc (TO.skip rfl dc (TO.skip rfl dc ?_)))))))))))))
                refine TO.pick (b := false) rfl dc rfl rfl (TO.pick (b := false) rfl dc rfl rfl (TO.pick (b := true) rfl dc rfl rfl (TO.nil (TX.next (TC.condF rfl (TC.exit (TX.thenExit (TX.thenExit (TX.blockHere (TX.blockNormal ?_))))))))))
                exact TX.meetD k7 h rfl (Sbs.cons rfl (Sbs.cons rfl (Sbs.cons rfl (Sbs.cons rfl (Sbs.cons rfl (Sbs.nil)))))) (Splits.of [0, 1] kr rfl)
            ·
             have h := condF hb17 h
             refine TO.skip rfl dc (TO.skip rfl dc (TO.skip rfl dc (TO.skip rfl dc (TO.skip rfl dc (TO.skip rfl dc (TO.skip rfl dc (TO.skip rfl dc (TO.skip rfl dc (TO.skip rfl dc (TO.skip rfl dc (TO.skip rfl dc (TO.skip rfl dc (TO.skip rfl dc ?_)))))))))))))
             refine TO.skip rfl dc (TO.skip rfl dc (TO.skip rfl dc (TO.skip rfl dc (TO.skip rfl dc (TO.skip rfl dc (TO.skip rfl dc (TO.skip rfl dc (TO.skip rfl dc (TO.skip rfl dc (TO.skip rfl dc (TO.skip rfl dc (TO.skip rfl dc (TO.skip rfl dc ?_)))))))))))))
             refine TO.skip rfl dc (TO.skip rfl dc (TO.skip rfl dc (TO.skip rfl dc (TO.skip rfl dc (TO.pick (b := false) rfl dc rfl rfl (TO.nil (TX.next (TC.condF rfl (TC.exit (TX.thenExit (TX.thenExit (TX.blockHere (TX.blockNormal ?_)))))))))))))
             exact TX.meetD k7 h rfl (Sbs.cons rfl (Sbs.cons rfl (Sbs.cons rfl (Sbs.cons rfl (Sbs.cons rfl (Sbs.nil)))))) (Splits.of [0, 1] kr rfl)
           ·
            rintro ⟨x7, x8, x9, x10, x11, x12⟩ h
            rw [hj4] at h
            show TC _ _ _ _ _ ([]) _ _ [(0, .string s1), (3, v2), (4, v5), (5, .int .i64 i3), (6, .int .i64 k7), (7, .int .i64 q1.Kind), (27, v2), (28, .int .i64 k7), (29, .pointer (some ⟨vblk v2, (k7 : Int).toNat * 5, none⟩)), (30, .pointer (some ⟨vblk v2, ((k7 : Int).toNat) * 5 + 2, none⟩)), (31, .int .i64 x7), (32, .bool x8), (33, .bool x9), (39, .bool x10), (40, .bool x11), (59, .bool x12), (74, .int .i64 (i3 + 1)), (75, v2), (76, .int .i64 (r1.length : Int)), (77, .bool (decide (((i3 + 1) : Int) < (r1.length : Int)))), (80, undef), (81, undef), (82, undef), (83, undef), (84, undef), (85, undef), (86, undef), (87, undef), (88, undef), (96, .int .i64 q1.Kind), (97, .bool ((q1.Kind : Int) == 4)), (100, .int .i64 q1.Kind), (101, .bool ((q1.Kind : Int) == 9))] [vec enc_Gref05_Piece 66 5 v2 r1, vec enc_Gapi_Cell 52 3 v5 out4]
            refine TC.block (TC.region (TO.move rfl dc rfl ?_))
            obtain ⟨hg6, h⟩ := grdE h
            refine TO.bin rfl dc rfl rfl (bin_add (r := k7 + 1) (IntWalk.i64_in _ hg6)) (TO.assign rfl dc rfl (TO.nil (TX.blockNormal ?_)))
            subst hag3
            exact TX.againD (n3, k7 + 1) h (Nat.lt_succ_self _) rfl (Sbs.cons rfl (Sbs.cons rfl (Sbs.cons rfl (Sbs.cons rfl (Sbs.cons rfl (Sbs.cons rfl (Sbs.cons rfl (Sbs.cons rfl (Sbs.cons rfl (Sbs.cons rfl (Sbs.cons rfl (Sbs.cons rfl (Sbs.cons rfl (Sbs.cons rfl (Sbs.cons rfl (Sbs.cons rfl (Sbs.cons rfl (Sbs.cons rfl (Sbs.cons rfl (Sbs.cons rfl (Sbs.cons rfl (Sbs.cons rfl (Sbs.cons rfl (Sbs.nil)))))))))))))))))))))))) (Splits.of [0, 1] kr rfl)
     ·
      have h := condF hb2 h
      refine TO.skip rfl dc (TO.skip rfl dc (TO.skip rfl dc (TO.skip rfl dc (TO.pick (b := false) rfl dc rfl rfl (TO.move rfl dc rfl (TO.skip rfl dc (TO.skip rfl dc (TO.skip rfl dc (TO.skip rfl dc (TO.skip rfl dc (TO.skip rfl dc (TO.skip rfl dc (TO.skip rfl dc ?_)))))))))))))
      refine TO.skip rfl dc (TO.pick (b := false) rfl dc rfl rfl (TO.assign rfl dc rfl (TO.nil (TX.next (TC.condF rfl (TC.seq (TC.region (TO.move rfl dc rfl (TO.bin rfl dc rfl rfl bin_eql (TO.move rfl dc rfl ?_))))))))))
      refine TO.split (s := 95) rfl (fun hb23 => ?_) (fun hb23 => ?_)
      ·
       have h := condT hb23 h
       refine TO.skip rfl dc (TO.skip rfl dc (TO.pick (b := true) rfl dc rfl rfl (TO.move rfl dc rfl (TO.skip rfl dc (TO.skip rfl dc (TO.pick (b := true) rfl dc rfl rfl (TO.assign rfl dc rfl (TO.nil (TX.next (TC.condT rfl (TC.skip (TX.blockNormal ?_))))))))))))
       exact TX.meetD (i3 + 1) h rfl (Sbs.cons rfl (Sbs.cons rfl (Sbs.cons rfl (Sbs.cons rfl (Sbs.cons rfl (Sbs.nil)))))) (Splits.of [0, 1] kr rfl)
      ·
       have h := condF hb23 h
       refine TO.move rfl dc rfl (TO.bin rfl dc rfl rfl bin_eql (TO.pick (b := false) rfl dc rfl rfl (TO.move rfl dc rfl ?_)))
       refine TO.split (s := 99) rfl (fun hb24 => ?_) (fun hb24 => ?_)
       ·
        have h := condT hb24 h
        refine TO.skip rfl dc (TO.skip rfl dc (TO.pick (b := true) rfl dc rfl rfl (TO.assign rfl dc rfl (TO.nil (TX.next (TC.condT rfl (TC.skip (TX.blockNormal ?_))))))))
        exact TX.meetD (i3 + 1) h rfl (Sbs.cons rfl (Sbs.cons rfl (Sbs.cons rfl (Sbs.cons rfl (Sbs.cons rfl (Sbs.nil)))))) (Splits.of [0, 1] kr rfl)
       ·
        have h := condF hb24 h
        refine TO.move rfl dc rfl (TO.bin rfl dc rfl rfl bin_eql (TO.pick (b := false) rfl dc rfl rfl (TO.assign rfl dc rfl (TO.nil (TX.next ?_)))))
        refine TC.condB rfl (fun hb25 => ?_) (fun hb25 => ?_)
        ·
         have h := condT hb25 h
         refine TC.skip (TX.blockNormal ?_)
         exact TX.meetD (i3 + 1) h rfl (Sbs.cons rfl (Sbs.cons rfl (Sbs.cons rfl (Sbs.cons rfl (Sbs.cons rfl (Sbs.nil)))))) (Splits.of [0, 1] kr rfl)
        ·
         have h := condF hb25 h
         refine TC.block ?_
         refine TC.loopD (β := Nat × Int) (fun b => loopG (fun _ => none) (ref05_Cells_s4 r1 j2 q1) b.1 b.2 = some r) (fun b => []) (fun b => [(0, .string s1), (3, v2), (4, v5), (5, .int .i64 i3), (6, .int .i64 b.2), (7, .int .i64 q1.Kind), (74, undef), (75, undef), (76, undef), (77, undef), (80, undef), (81, undef), (82, undef), (83, undef), (84, undef), (85, undef), (86, undef), (87, undef), (88, undef), (96, .int .i64 q1.Kind), (97, .bool ((q1.Kind : Int) == 4)), (100, .int .i64 q1.Kind), (101, .bool ((q1.Kind : Int) == 9))]) (fun b => [vec enc_Gref05_Piece 66 5 v2 r1, vec enc_Gapi_Cell 52 3 v5 out4]) (fun b => b.1) (fuel, i3 + 1) h rfl (Sbs.cons rfl (Sbs.cons rfl (Sbs.cons rfl (Sbs.cons rfl (Sbs.cons rfl (Sbs.cons rfl (Sbs.cons rfl (Sbs.cons rfl (Sbs.cons rfl (Sbs.cons rfl (Sbs.cons rfl (Sbs.cons rfl (Sbs.cons rfl (Sbs.cons rfl (Sbs.cons rfl (Sbs.cons rfl (Sbs.cons rfl (Sbs.cons rfl (Sbs.cons rfl (Sbs.cons rfl (Sbs.cons rfl (Sbs.cons rfl (Sbs.cons rfl (Sbs.nil)))))))))))))))))))))))) (Splits.of [0, 1] kr rfl) ?_
         rintro ⟨n4, k10⟩ h
         cases n4 with
         | zero => exact noneE h
         | succ n4 =>
          obtain ⟨ag4, hag4⟩ : ∃ ag, ag = loopG (fun _ => none) (ref05_Cells_s4 r1 j2 q1) n4 := ⟨_, rfl⟩
          have h : ref05_Cells_s4 r1 j2 q1 ag4 k10 = some r := by rw [hag4]; exact h
          unfold ref05_Cells_s4 at h
          show TC _ _ _ _ _ ([]) _ _ [(0, .string s1), (3, v2), (4, v5), (5, .int .i64 i3), (6, .int .i64 k10), (7, .int .i64 q1.Kind), (74, undef), (75, undef), (76, undef), (77, undef), (80, undef), (81, undef), (82, undef), (83, undef), (84, undef), (85, undef), (86, undef), (87, undef), (88, undef), (96, .int .i64 q1.Kind), (97, .bool ((q1.Kind : Int) == 4)), (100, .int .i64 q1.Kind), (101, .bool ((q1.Kind : Int) == 9))] [vec enc_Gref05_Piece 66 5 v2 r1, vec enc_Gapi_Cell 52 3 v5 out4]
          obtain ⟨j5, hj5, h⟩ := joinE h
          refine TC.cutN (β := Int × Bool × Bool × Bool × Bool × Bool) 0 rfl (fun b => j5 b.1 b.2.1 b.2.2.1 b.2.2.2.1 b.2.2.2.2.1 b.2.2.2.2.2 = some r) (fun b => []) (fun b => [(0, .string s1), (3, v2), (4, v5), (5, .int .i64 i3), (6, .int .i64 k10), (7, .int .i64 q1.Kind), (27, v2), (28, .int .i64 k10), (29, .pointer (some ⟨vblk v2, (k10 : Int).toNat * 5, none⟩)), (30, .pointer (some ⟨vblk v2, ((k10 : Int).toNat) * 5 + 2, none⟩)), (31, .int .i64 b.1), (32, .bool b.2.1), (33, .bool b.2.2.1), (39, .bool b.2.2.2.1), (40, .bool b.2.2.2.2.1), (59, .bool b.2.2.2.2.2), (74, undef), (75, undef), (76, undef), (77, undef), (80, undef), (81, undef), (82, undef), (83, undef), (84, undef), (85, undef), (86, undef), (87, undef), (88, undef), (96, .int .i64 q1.Kind), (97, .bool ((q1.Kind : Int) == 4)), (100, .int .i64 q1.Kind), (101, .bool ((q1.Kind : Int) == 9))]) (fun b => [vec enc_Gref05_Piece 66 5 v2 r1, vec enc_Gapi_Cell 52 3 v5 out4]) (fun cut => ?_) ?_
          ·
           refine cut (TC.seq (TC.region (TO.move rfl dc rfl (TO.move rfl dc rfl (TO.lenVec (k := 0) rfl dc rfl rfl Try.underlying63 (TO.bin rfl dc rfl rfl bin_lss (TO.move rfl dc rfl ?_)))))))
           refine TO.split (s := 26) rfl (fun hb26 => ?_) (fun hb26 => ?_)
           ·
            have h := condT hb26 h
            refine TO.move rfl dc rfl (TO.move rfl dc rfl ?_)
            obtain ⟨q8, hq11, h⟩ := andE h
            refine TO.indexVecI (k := 0) hq11 Try.underlying63 sz_66 rfl dc rfl rfl rfl rfl (TO.fieldAddr fl_66_1 rfl dc rfl (show _ = ((k10 : Int).toNat) * 5 + 2 from rfl) (TO.loadVec (i := (k10 : Int).toNat) (j := 2) (k := 0) (q := q8) sc_3 enc_Gref05_Piece_len rfl dc rfl rfl (getO_get hq11) rfl dc rfl (TO.bin rfl dc rfl rfl bin_eql (TO.move rfl dc rfl ?_))))
            refine TO.split (s := 33) rfl (fun hb27 => ?_) (fun hb27 => ?_)
            ·
             have h := condT hb27 h
             refine TO.skip rfl dc (TO.skip rfl dc (TO.skip rfl dc (TO.skip rfl dc (TO.skip rfl dc (TO.pick (b := true) rfl dc rfl rfl (TO.move rfl dc rfl (TO.skip rfl dc (TO.skip rfl dc (TO.skip rfl dc (TO.skip rfl dc (TO.skip rfl dc (TO.skip rfl dc (TO.skip rfl dc ?_)))))))))))))
             refine TO.skip rfl dc (TO.skip rfl dc (TO.skip rfl dc (TO.skip rfl dc (TO.skip rfl dc (TO.skip rfl dc (TO.skip rfl dc (TO.skip rfl dc (TO.skip rfl dc (TO.skip rfl dc (TO.skip rfl dc (TO.pick (b := true) rfl dc rfl rfl (TO.pick (b := true) rfl dc rfl rfl (TO.nil ?_)))))))))))))
             refine TX.next (TC.condT rfl (TC.skip ?_))
             exact TX.meetD (q8.Kind, (q8.Kind : Int) == 2, true, true, true, true) h rfl (Sbs.cons rfl (Sbs.cons rfl (Sbs.cons rfl (Sbs.cons rfl (Sbs.cons rfl (Sbs.cons rfl (Sbs.cons rfl (Sbs.cons rfl (Sbs.cons rfl (Sbs.cons rfl (Sbs.cons rfl (Sbs.cons rfl (Sbs.cons rfl (Sbs.cons rfl (Sbs.cons rfl (Sbs.cons rfl (Sbs.cons rfl (Sbs.cons rfl (Sbs.cons rfl (Sbs.cons rfl (Sbs.cons rfl (Sbs.cons rfl (Sbs.cons rfl (Sbs.cons rfl (Sbs.cons rfl (Sbs.cons rfl (Sbs.cons rfl (Sbs.cons rfl (Sbs.cons rfl (Sbs.cons rfl (Sbs.cons rfl (Sbs.cons rfl (Sbs.cons rfl (Sbs.nil)))))))))))))))))))))))))))))))))) (Splits.of [0, 1] kr rfl)
            ·
             have h := condF hb27 h
             refine TO.move rfl dc rfl (TO.move rfl dc rfl (TO.indexVecI (k := 0) hq11 Try.underlying63 sz_66 rfl dc rfl rfl rfl rfl (TO.fieldAddr fl_66_2 rfl dc rfl (show _ = ((k10 : Int).toNat) * 5 + 3 from rfl) (TO.loadVec (i := (k10 : Int).toNat) (j := 3) (k := 0) (q := q8) sc_4 enc_Gref05_Piece_len rfl dc rfl rfl (getO_get hq11) rfl dc rfl (TO.pick (b := false) rfl dc rfl rfl (TO.move rfl dc rfl ?_))))))
             refine TO.split (s := 40) rfl (fun hb28 => ?_) (fun hb28 => ?_)
             ·
              have h := condT hb28 h
              refine TO.skip rfl dc (TO.skip rfl dc (TO.skip rfl dc (TO.skip rfl dc (TO.skip rfl dc (TO.skip rfl dc (TO.skip rfl dc (TO.skip rfl dc (TO.skip rfl dc (TO.skip rfl dc (TO.skip rfl dc (TO.skip rfl dc (TO.skip rfl dc (TO.skip rfl dc ?_)))))))))))))
              refine TO.skip rfl dc (TO.skip rfl dc (TO.skip rfl dc (TO.skip rfl dc (TO.pick (b := true) rfl dc rfl rfl (TO.pick (b := true) rfl dc rfl rfl (TO.nil (TX.next (TC.condT rfl (TC.skip ?_)))))))))
              exact TX.meetD (q8.Kind, (q8.Kind : Int) == 2, false, q8.Joiner, true, true) h rfl (Sbs.cons rfl (Sbs.cons rfl (Sbs.cons rfl (Sbs.cons rfl (Sbs.cons rfl (Sbs.cons rfl (Sbs.cons rfl (Sbs.cons rfl (Sbs.cons rfl (Sbs.cons rfl (Sbs.cons rfl (Sbs.cons rfl (Sbs.cons rfl (Sbs.cons rfl (Sbs.cons rfl (Sbs.cons rfl (Sbs.cons rfl (Sbs.cons rfl (Sbs.cons rfl (Sbs.cons rfl (Sbs.cons rfl (Sbs.cons rfl (Sbs.cons rfl (Sbs.cons rfl (Sbs.cons rfl (Sbs.cons rfl (Sbs.cons rfl (Sbs.cons rfl (Sbs.cons rfl (Sbs.cons rfl (Sbs.cons rfl (Sbs.cons rfl (Sbs.cons rfl (Sbs.nil)))))))))))))))))))))))))))))))))) (Splits.of [0, 1] kr rfl)
             ·
              have h := condF hb28 h
              refine TO.move rfl dc rfl (TO.bin rfl dc rfl rfl bin_eql (TO.move rfl dc rfl ?_))
              refine TO.split (s := 43) rfl (fun hb29 => ?_) (fun hb29 => ?_)
              ·
               have h := condT hb29 h
               refine TO.move rfl dc rfl (TO.move rfl dc rfl (TO.indexVecI (k := 0) hq11 Try.underlying63 sz_66 rfl dc rfl rfl rfl rfl (TO.fieldAddr fl_66_1 rfl dc rfl (show _ = ((k10 : Int).toNat) * 5 + 2 from rfl) (TO.loadVec (i := (k10 : Int).toNat) (j := 2) (k := 0) (q := q8) sc_3 enc_Gref05_Piece_len rfl dc rfl rfl (getO_get hq11) rfl dc rfl (TO.bin rfl dc rfl rfl bin_eql (TO.pick (b := true) rfl dc rfl rfl (TO.move rfl dc rfl ?_)))))))
               refine TO.split (s := 51) rfl (fun hb30 => ?_) (fun hb30 => ?_)
               ·
                have h := condT hb30 h
                refine TO.move rfl dc rfl (TO.move rfl dc rfl ?_)
                obtain ⟨hg7, h⟩ := grdE h
                refine TO.bin rfl dc rfl rfl (bin_sub (r := k10 - 1) (IntWalk.i64_in _ hg7)) ?_
                obtain ⟨q9, hq12, h⟩ := andE h
                refine TO.indexVecI (k := 0) hq12 Try.underlying63 sz_66 rfl dc rfl rfl rfl rfl (TO.fieldAddr fl_66_2 rfl dc rfl (show _ = ((k10 - 1 : Int).toNat) * 5 + 3 from rfl) (TO.loadVec (i := (k10 - 1 : Int).toNat) (j := 3) (k := 0) (q := q9) sc_4 enc_Gref05_Piece_len rfl dc rfl rfl (getO_get hq12) rfl dc rfl (TO.pick (b := true) rfl dc rfl rfl (TO.pick (b := false) rfl dc rfl rfl (TO.pick (b := true) rfl dc rfl rfl (TO.nil (TX.next ?_)))))))
                refine TC.condB rfl (fun hb31 => ?_) (fun hb31 => ?_)
                ·
                 have h := condT hb31 h
                 refine TC.skip ?_
                 exact TX.meetD (q8.Kind, (q8.Kind : Int) == 2, false, q8.Joiner, false, q9.Joiner) h rfl (Sbs.cons rfl (Sbs.cons rfl (Sbs.cons rfl (Sbs.cons rfl (Sbs.cons rfl (Sbs.cons rfl (Sbs.cons rfl (Sbs.cons rfl (Sbs.cons rfl (Sbs.cons rfl (Sbs.cons rfl (Sbs.cons rfl (Sbs.cons rfl (Sbs.cons rfl (Sbs.cons rfl (Sbs.cons rfl (Sbs.cons rfl (Sbs.cons rfl (Sbs.cons rfl (Sbs.cons rfl (Sbs.cons rfl (Sbs.cons rfl (Sbs.cons rfl (Sbs.cons rfl (Sbs.cons rfl (Sbs.cons rfl (Sbs.cons rfl (Sbs.cons rfl (Sbs.cons rfl (Sbs.cons rfl (Sbs.cons rfl (Sbs.cons rfl (Sbs.cons rfl (Sbs.nil)))))))))))))))))))))))))))))))))) (Splits.of [0, 1] kr rfl)
                ·
                 have h := condF hb31 h
                 refine TC.exit (TX.thenExit (TX.thenExit (TX.blockHere (TX.blockNormal ?_))))
                 exact TX.meetD k10 h rfl (Sbs.cons rfl (Sbs.cons rfl (Sbs.cons rfl (Sbs.cons rfl (Sbs.cons rfl (Sbs.nil)))))) (Splits.of [0, 1] kr rfl)
               ·
                have h := condF hb30 h
                refine TO.skip rfl dc (TO.skip rfl dc (TO.skip rfl dc (TO.skip rfl dc (TO.skip rfl dc (TO.skip rfl dc (TO.pick (b := false) rfl dc rfl rfl (TO.pick (b := false) rfl dc rfl rfl (TO.pick (b := true) rfl dc rfl rfl (TO.nil (TX.next (TC.condF rfl (TC.exit (TX.thenExit ?_)))))))))))))
                refine TX.thenExit (TX.blockHere (TX.blockNormal ?_))
                exact TX.meetD k10 h rfl (Sbs.cons rfl (Sbs.cons rfl (Sbs.cons rfl (Sbs.cons rfl (Sbs.cons rfl (Sbs.nil)))))) (Splits.of [0, 1] kr rfl)
              ·
               have h := condF hb29 h
               refine TO.skip rfl dc (TO.skip rfl dc (TO.skip rfl dc (TO.skip rfl dc (TO.skip rfl dc (TO.skip rfl dc (TO.pick (b := false) rfl dc rfl rfl (TO.move rfl dc rfl (TO.skip rfl dc (TO.skip rfl dc (TO.skip rfl dc (TO.skip rfl dc (TO.skip rfl dc (TO.skip rfl dc ?_)))))))))))))
               refine TO.pick (b := false) rfl dc rfl rfl (TO.pick (b := false) rfl dc rfl rfl (TO.pick (b := true) rfl dc rfl rfl (TO.nil (TX.next (TC.condF rfl (TC.exit (TX.thenExit (TX.thenExit (TX.blockHere (TX.blockNormal ?_))))))))))
               exact TX.meetD k10 h rfl (Sbs.cons rfl (Sbs.cons rfl (Sbs.cons rfl (Sbs.cons rfl (Sbs.cons rfl (Sbs.nil)))))) (Splits.of [0, 1] kr rfl)
           ·
            have h := condF hb26 h
            refine TO.skip rfl dc (TO.skip rfl dc (TO.skip rfl dc (TO.skip rfl dc (TO.skip rfl dc (TO.skip rfl dc (TO.skip rfl dc (TO.skip rfl dc (TO.skip rfl dc (TO.skip rfl dc (TO.skip rfl dc (TO.skip rfl dc (TO.skip rfl dc (TO.skip rfl dc ?_)))))))))))))
            refine TO.skip rfl dc (TO.skip rfl dc (TO.skip rfl dc (TO.skip rfl dc (TO.skip rfl dc (TO.skip rfl dc (TO.skip rfl dc (TO.skip rfl dc (TO.skip rfl dc (TO.skip rfl dc (TO.skip rfl dc (TO.skip rfl dc (TO.skip rfl dc (TO.skip rfl dc ?_)))))))))))))
            refine TO.skip rfl dc (TO.skip rfl dc (TO.skip rfl dc (TO.skip rfl dc (TO.skip rfl dc (TO.pick (b := false) rfl dc rfl rfl (TO.nil (TX.next (TC.condF rfl (TC.exit (TX.thenExit (TX.thenExit (TX.blockHere (TX.blockNormal ?_)))))))))))))
            exact TX.meetD k10 h rfl (Sbs.cons rfl (Sbs.cons rfl (Sbs.cons rfl (Sbs.cons rfl (Sbs.cons rfl (Sbs.nil)))))) (Splits.of [0, 1] kr rfl)
          ·
           rintro ⟨x13, x14, x15, x16, x17, x18⟩ h
           rw [hj5] at h
           show TC _ _ _ _ _ ([]) _ _ [(0, .string s1), (3, v2), (4, v5), (5, .int .i64 i3), (6, .int .i64 k10), (7, .int .i64 q1.Kind), (27, v2), (28, .int .i64 k10), (29, .pointer (some ⟨vblk v2, (k10 : Int).toNat * 5, none⟩)), (30, .pointer (some ⟨vblk v2, ((k10 : Int).toNat) * 5 + 2, none⟩)), (31, .int .i64 x13), (32, .bool x14), (33, .bool x15), (39, .bool x16), (40, .bool x17), (59, .bool x18), (74, undef), (75, undef), (76, undef), (77, undef), (80, undef), (81, undef), (82, undef), (83, undef), (84, undef), (85, undef), (86, undef), (87, undef), (88, undef), (96, .int .i64 q1.Kind), (97, .bool ((q1.Kind : Int) == 4)), (100, .int .i64 q1.Kind), (101, .bool ((q1.Kind : Int) == 9))] [vec enc_Gref05_Piece 66 5 v2 r1, vec enc_Gapi_Cell 52 3 v5 out4]
           refine TC.block (TC.region (TO.move rfl dc rfl ?_))
           obtain ⟨hg8, h⟩ := grdE h
           refine TO.bin rfl dc rfl rfl (bin_add (r := k10 + 1) (IntWalk.i64_in _ hg8)) (TO.assign rfl dc rfl (TO.nil (TX.blockNormal ?_)))
           subst hag4
           exact TX.againD (n4, k10 + 1) h (Nat.lt_succ_self _) rfl (Sbs.cons rfl (Sbs.cons rfl (Sbs.cons rfl (Sbs.cons rfl (Sbs.cons rfl (Sbs.cons rfl (Sbs.cons rfl (Sbs.cons rfl (Sbs.cons rfl (Sbs.cons rfl (Sbs.cons rfl (Sbs.cons rfl (Sbs.cons rfl (Sbs.cons rfl (Sbs.cons rfl (Sbs.cons rfl (Sbs.cons rfl (Sbs.cons rfl (Sbs.cons rfl (Sbs.cons rfl (Sbs.cons rfl (Sbs.cons rfl (Sbs.cons rfl (Sbs.nil)))))))))))))))))))))))) (Splits.of [0, 1] kr rfl)
    ·
     rintro k1 h
     rw [hj2] at h
     show TC _ _ _ _ _ ([]) _ _ [(0, .string s1), (3, v2), (4, v5), (5, .int .i64 i3), (6, .int .i64 k1)] [vec enc_Gref05_Piece 66 5 v2 r1, vec enc_Gapi_Cell 52 3 v5 out4]
     obtain ⟨j6, hj6, h⟩ := joinE h
     refine TC.cutN (β := Int × Int × Int × Int × Nat) 1 rfl (fun b => j6 b.1 b.2.1 b.2.2.1 b.2.2.2.1 = some r) (fun b => []) (fun b => [(0, .string s1), (3, v2), (4, v5), (5, .int .i64 b.1), (8, .pointer (some ⟨b.2.2.2.2, 0, none⟩))]) (fun b => [vec enc_Gref05_Piece 66 5 v2 r1, vec enc_Gapi_Cell 52 3 v5 out4, cells b.2.2.2.2 [.int .i64 b.2.1, .int .i64 b.2.2.1, .int .i64 b.2.2.2.1] 52]) (fun cut => ?_) ?_
     ·
      refine TC.seq ?_
      obtain ⟨q10, hq13, h⟩ := andE h
      obtain ⟨hg9, h⟩ := grdE h
      obtain ⟨q11, hq14, h⟩ := andE h
      refine TC.drawB (β := Nat) 16 15 _ [(0, 103, v2), (1, 104, .int .i64 i3), (2, 105, .pointer (some ⟨vblk v2, (i3 : Int).toNat * 5, none⟩)), (3, 106, .pointer (some ⟨vblk v2, ((i3 : Int).toNat) * 5, none⟩)), (4, 107, .pointer (some ⟨vblk v2, ((i3 : Int).toNat) * 5, none⟩)), (5, 108, .int .i64 q10.Span_From), (6, 109, v2), (7, 110, .int .i64 k1), (8, 111, .int .i64 (k1 - 1)), (9, 112, .pointer (some ⟨vblk v2, (k1 - 1 : Int).toNat * 5, none⟩)), (10, 113, .pointer (some ⟨vblk v2, ((k1 - 1 : Int).toNat) * 5, none⟩)), (11, 114, .pointer (some ⟨vblk v2, ((k1 - 1 : Int).toNat) * 5 + 1, none⟩)), (12, 115, .int .i64 q11.Span_To), (13, 116, .agg #[.int .i64 q10.Span_From, .int .i64 q11.Span_To]), (14, 117, .agg #[.int .i64 q10.Span_From, .int .i64 q11.Span_To, .int .i64 0])] (fun b2 => [(8, .pointer (some ⟨b2, 0, none⟩))]) (fun b2 => [vec enc_Gref05_Piece 66 5 v2 r1, vec enc_Gapi_Cell 52 3 v5 out4, cells b2 [.int .i64 0, .int .i64 0, .int .i64 0] 52]) mixed kr kr rfl dc dc (by rfl) kr kr (DrawPreX.cons ?_ (DrawPreX.cons ?_ (DrawPreX.cons ?_ (DrawPreX.cons ?_ (DrawPreX.cons ?_ (DrawPreX.cons ?_ (DrawPreX.cons ?_ (DrawPreX.cons ?_ (DrawPreX.cons ?_ (DrawPreX.cons ?_ (DrawPreX.cons ?_ (DrawPreX.cons ?_ (DrawPreX.cons ?_ (DrawPreX.cons ?_ (DrawPreX.cons ?_ (DrawPreX.here DrawPreX.nil)))))))))))))))) (fun b2 => (DrawPreX.cons ?_ (DrawPreX.cons ?_ (DrawPreX.cons ?_ (DrawPreX.cons ?_ (DrawPreX.cons ?_ (DrawPreX.cons ?_ (DrawPreX.cons ?_ (DrawPreX.cons ?_ (DrawPreX.cons ?_ (DrawPreX.cons ?_ (DrawPreX.cons ?_ (DrawPreX.cons ?_ (DrawPreX.cons ?_ (DrawPreX.cons ?_ (DrawPreX.cons ?_ (DrawPreX.here DrawPreX.nil))))))))))))))))) ?_ ?_
      ·
       intro D hn hd hcl hu hi
       refine TO.move rfl dc (dl_old (by rfl) rfl) ?_
       exact TX.quiet 0 hu hi rfl
      ·
       intro D hn hd hcl hu hi
       refine TO.move rfl dc (dl_old (by rfl) rfl) ?_
       exact TX.quiet 1 hu hi rfl
      ·
       intro D hn hd hcl hu hi
       refine TO.indexVecI (k := 0) hq13 Try.underlying63 sz_66 rfl dc (dl_lookup (m := 0) hu rfl (hd 0 dc)) (dl_lookup (m := 1) hu rfl (hd 1 dc)) rfl rfl ?_
       exact TX.quiet 2 hu hi rfl
      ·
       intro D hn hd hcl hu hi
       refine TO.fieldAddr fl_66_0 rfl dc (dl_lookup (m := 2) hu rfl (hd 2 dc)) (show _ = ((i3 : Int).toNat) * 5 from rfl) ?_
       exact TX.quiet 3 hu hi rfl
      ·
       intro D hn hd hcl hu hi
       refine TO.fieldAddr fl_50_0 rfl dc (dl_lookup (m := 3) hu rfl (hd 3 dc)) (show _ = ((i3 : Int).toNat) * 5 from rfl) ?_
       exact TX.quiet 4 hu hi rfl
      ·
       intro D hn hd hcl hu hi
       refine TO.loadVec (i := (i3 : Int).toNat) (j := 0) (k := 0) (q := q10) sc_3 enc_Gref05_Piece_len rfl dc (dl_lookup (m := 4) hu rfl (hd 4 dc)) rfl (getO_get hq13) rfl dc rfl ?_
       exact TX.quiet 5 hu hi rfl
      ·
       intro D hn hd hcl hu hi
       refine TO.move rfl dc (dl_old (by rfl) rfl) ?_
       exact TX.quiet 6 hu hi rfl
      ·
       intro D hn hd hcl hu hi
       refine TO.move rfl dc (dl_old (by rfl) rfl) ?_
       exact TX.quiet 7 hu hi rfl
      ·
       intro D hn hd hcl hu hi
       refine TO.bin rfl dc (dl_lookup (m := 7) hu rfl (hd 7 dc)) rfl (bin_sub (r := k1 - 1) (IntWalk.i64_in _ hg9)) ?_
       exact TX.quiet 8 hu hi rfl
      ·
       intro D hn hd hcl hu hi
       refine TO.indexVecI (k := 0) hq14 Try.underlying63 sz_66 rfl dc (dl_lookup (m := 6) hu rfl (hd 6 dc)) (dl_lookup (m := 8) hu rfl (hd 8 dc)) rfl rfl ?_
       exact TX.quiet 9 hu hi rfl
      ·
       intro D hn hd hcl hu hi
       refine TO.fieldAddr fl_66_0 rfl dc (dl_lookup (m := 9) hu rfl (hd 9 dc)) (show _ = ((k1 - 1 : Int).toNat) * 5 from rfl) ?_
       exact TX.quiet 10 hu hi rfl
      ·
       intro D hn hd hcl hu hi
       refine TO.fieldAddr fl_50_1 rfl dc (dl_lookup (m := 10) hu rfl (hd 10 dc)) (show _ = ((k1 - 1 : Int).toNat) * 5 + 1 from rfl) ?_
       exact TX.quiet 11 hu hi rfl
      ·
       intro D hn hd hcl hu hi
       refine TO.loadVec (i := (k1 - 1 : Int).toNat) (j := 1) (k := 0) (q := q11) sc_3 enc_Gref05_Piece_len rfl dc (dl_lookup (m := 11) hu rfl (hd 11 dc)) rfl (getO_get hq14) rfl dc rfl ?_
       exact TX.quiet 12 hu hi rfl
      ·
       intro D hn hd hcl hu hi
       refine TO.build (v := .agg #[.int .i64 q10.Span_From, .int .i64 q11.Span_To]) (ps := [(0, .tmp 108), (1, .tmp 115)]) rfl dc (evP.cons (dl_lookup (m := 5) hu rfl (hd 5 dc)) (evP.cons (dl_lookup (m := 12) hu rfl (hd 12 dc)) evP.nil)) (fun _ => by kernel_rfl) ?_
       exact TX.quiet 13 hu hi rfl
      ·
       intro D hn hd hcl hu hi
       refine TO.build (v := .agg #[.int .i64 q10.Span_From, .int .i64 q11.Span_To, .int .i64 0]) (ps := [(0, .tmp 116)]) rfl dc (evP.cons (dl_lookup (m := 13) hu rfl (hd 13 dc)) evP.nil) (fun _ => by kernel_rfl) ?_
       exact TX.quiet 14 hu hi rfl
      ·
       intro D hn hd hcl hu hi
       refine TO.move rfl dc (dl_old (by rfl) rfl) ?_
       exact TX.quiet 0 hu hi rfl
      ·
       intro D hn hd hcl hu hi
       refine TO.move rfl dc (dl_old (by rfl) rfl) ?_
       exact TX.quiet 1 hu hi rfl
      ·
       intro D hn hd hcl hu hi
       refine TO.indexVecI (k := 0) hq13 Try.underlying63 sz_66 rfl dc (dl_lookup (m := 0) hu rfl (hd 0 dc)) (dl_lookup (m := 1) hu rfl (hd 1 dc)) rfl rfl ?_
       exact TX.quiet 2 hu hi rfl
      ·
       intro D hn hd hcl hu hi
       refine TO.fieldAddr fl_66_0 rfl dc (dl_lookup (m := 2) hu rfl (hd 2 dc)) (show _ = ((i3 : Int).toNat) * 5 from rfl) ?_
       exact TX.quiet 3 hu hi rfl
      ·
       intro D hn hd hcl hu hi
       refine TO.fieldAddr fl_50_0 rfl dc (dl_lookup (m := 3) hu rfl (hd 3 dc)) (show _ = ((i3 : Int).toNat) * 5 from rfl) ?_
       exact TX.quiet 4 hu hi rfl
      ·
       intro D hn hd hcl hu hi
       refine TO.loadVec (i := (i3 : Int).toNat) (j := 0) (k := 0) (q := q10) sc_3 enc_Gref05_Piece_len rfl dc (dl_lookup (m := 4) hu rfl (hd 4 dc)) rfl (getO_get hq13) rfl dc rfl ?_
       exact TX.quiet 5 hu hi rfl
      ·
       intro D hn hd hcl hu hi
       refine TO.move rfl dc (dl_old (by rfl) rfl) ?_
       exact TX.quiet 6 hu hi rfl
      ·
       intro D hn hd hcl hu hi
       refine TO.move rfl dc (dl_old (by rfl) rfl) ?_
       exact TX.quiet 7 hu hi rfl
      ·
       intro D hn hd hcl hu hi
       refine TO.bin rfl dc (dl_lookup (m := 7) hu rfl (hd 7 dc)) rfl (bin_sub (r := k1 - 1) (IntWalk.i64_in _ hg9)) ?_
       exact TX.quiet 8 hu hi rfl
      ·
       intro D hn hd hcl hu hi
       refine TO.indexVecI (k := 0) hq14 Try.underlying63 sz_66 rfl dc (dl_lookup (m := 6) hu rfl (hd 6 dc)) (dl_lookup (m := 8) hu rfl (hd 8 dc)) rfl rfl ?_
       exact TX.quiet 9 hu hi rfl
      ·
       intro D hn hd hcl hu hi
       refine TO.fieldAddr fl_66_0 rfl dc (dl_lookup (m := 9) hu rfl (hd 9 dc)) (show _ = ((k1 - 1 : Int).toNat) * 5 from rfl) ?_
       exact TX.quiet 10 hu hi rfl
      ·
       intro D hn hd hcl hu hi
       refine TO.fieldAddr fl_50_1 rfl dc (dl_lookup (m := 10) hu rfl (hd 10 dc)) (show _ = ((k1 - 1 : Int).toNat) * 5 + 1 from rfl) ?_
       exact TX.quiet 11 hu hi rfl
      ·
       intro D hn hd hcl hu hi
       refine TO.loadVec (i := (k1 - 1 : Int).toNat) (j := 1) (k := 0) (q := q11) sc_3 enc_Gref05_Piece_len rfl dc (dl_lookup (m := 11) hu rfl (hd 11 dc)) rfl (getO_get hq14) rfl dc rfl ?_
       exact TX.quiet 12 hu hi rfl
      ·
       intro D hn hd hcl hu hi
       refine TO.build (v := .agg #[.int .i64 q10.Span_From, .int .i64 q11.Span_To]) (ps := [(0, .tmp 108), (1, .tmp 115)]) rfl dc (evP.cons (dl_lookup (m := 5) hu rfl (hd 5 dc)) (evP.cons (dl_lookup (m := 12) hu rfl (hd 12 dc)) evP.nil)) (fun _ => by kernel_rfl) ?_
       exact TX.quiet 13 hu hi rfl
      ·
       intro D hn hd hcl hu hi
       refine TO.build (v := .agg #[.int .i64 q10.Span_From, .int .i64 q11.Span_To, .int .i64 0]) (ps := [(0, .tmp 116)]) rfl dc (evP.cons (dl_lookup (m := 13) hu rfl (hd 13 dc)) evP.nil) (fun _ => by kernel_rfl) ?_
       exact TX.quiet 14 hu hi rfl
      ·
       intro D hn hd hcl
       refine TO.alloc zr_52 rfl dc (fun b2 => ?_)
       exact fun a w ha hw => ⟨b2, Sbs.mid (by rfl) _ _ _ ha, hw⟩
      intro b2
      show TO _ _ _ _ _ _ _ _ _ _ [vec enc_Gref05_Piece 66 5 v2 r1, vec enc_Gapi_Cell 52 3 v5 out4, cells b2 [.int .i64 0, .int .i64 0, .int .i64 0] 52]
      refine TO.stores (k := 2) (vs := [.int .i64 q10.Span_From, .int .i64 q11.Span_To, .int .i64 0]) (l' := [.int .i64 q10.Span_From, .int .i64 q11.Span_To, .int .i64 0]) sz_52 rfl rfl rfl rfl rfl (show _ ≤ _ by simp) rfl rfl (TO.nil (TX.next (cut (TC.block ?_))))
      refine TC.loopD (β := Nat × Int × Int) (fun b => loopG (fun _ _ => none) (ref05_Cells_s5 r1 k1 j6 q10 q11) b.1 b.2.1 b.2.2 = some r) (fun b => []) (fun b => [(0, .string s1), (3, v2), (4, v5), (5, .int .i64 b.2.1), (6, .int .i64 k1), (8, .pointer (some ⟨b2, 0, none⟩))]) (fun b => [vec enc_Gref05_Piece 66 5 v2 r1, vec enc_Gapi_Cell 52 3 v5 out4, cells b2 [.int .i64 q10.Span_From, .int .i64 q11.Span_To, .int .i64 b.2.2] 52]) (fun b => b.1) (fuel, i3, 0) h rfl (Sbs.cons rfl (Sbs.cons rfl (Sbs.cons rfl (Sbs.cons rfl (Sbs.cons rfl (Sbs.cons rfl (Sbs.nil))))))) (Splits.of [0, 1, 2] kr rfl) ?_
      rintro ⟨n5, i7, c8⟩ h
      cases n5 with
      | zero => exact noneE h
      | succ n5 =>
       obtain ⟨ag5, hag5⟩ : ∃ ag, ag = loopG (fun _ _ => none) (ref05_Cells_s5 r1 k1 j6 q10 q11) n5 := ⟨_, rfl⟩
       have h : ref05_Cells_s5 r1 k1 j6 q10 q11 ag5 i7 c8 = some r := by rw [hag5]; exact h
       unfold ref05_Cells_s5 at h
       show TC _ _ _ _ _ ([]) _ _ [(0, .string s1), (3, v2), (4, v5), (5, .int .i64 i7), (6, .int .i64 k1), (8, .pointer (some ⟨b2, 0, none⟩))] [vec enc_Gref05_Piece 66 5 v2 r1, vec enc_Gapi_Cell 52 3 v5 out4, cells b2 [.int .i64 q10.Span_From, .int .i64 q11.Span_To, .int .i64 c8] 52]
       refine TC.seq (TC.seq (TC.region (TO.move rfl dc rfl (TO.move rfl dc rfl (TO.bin rfl dc rfl rfl bin_lss (TO.nil (TX.next ?_)))))))
       refine TC.condB rfl (fun hb32 => ?_) (fun hb32 => ?_)
       ·
        have h := condT hb32 h
        refine TC.skip (TX.next (TC.block (TC.seq ?_)))
        obtain ⟨q12, hq15, h⟩ := andE h
        refine TC.drawN 7 [(0, 121, .pointer (some ⟨b2, 2, none⟩)), (1, 122, .int .i64 c8), (2, 123, v2), (3, 124, .int .i64 i7), (4, 125, .pointer (some ⟨vblk v2, (i7 : Int).toNat * 5, none⟩)), (5, 126, .pointer (some ⟨vblk v2, ((i7 : Int).toNat) * 5 + 4, none⟩)), (6, 127, .int .i64 q12.Columns)] mixed kr kr dc (by rfl) kr kr (DrawPre.cons ?_ (DrawPre.cons ?_ (DrawPre.cons ?_ (DrawPre.cons ?_ (DrawPre.cons ?_ (DrawPre.cons ?_ (DrawPre.cons ?_ DrawPre.nil))))))) ?_
        ·
         intro D hn hd hcl hu hi
         refine TO.fieldAddr fl_52_1 rfl dc (dl_old (by rfl) rfl) (show _ = 2 from rfl) ?_
         exact TX.quiet 0 hu hi rfl
        ·
         intro D hn hd hcl hu hi
         refine TO.load (k := 2) sc_3 rfl dc (dl_lookup (m := 0) hu rfl (hd 0 dc)) rfl rfl ?_
         exact TX.quiet 1 hu hi rfl
        ·
         intro D hn hd hcl hu hi
         refine TO.move rfl dc (dl_old (by rfl) rfl) ?_
         exact TX.quiet 2 hu hi rfl
        ·
         intro D hn hd hcl hu hi
         refine TO.move rfl dc (dl_old (by rfl) rfl) ?_
         exact TX.quiet 3 hu hi rfl
        ·
         intro D hn hd hcl hu hi
         refine TO.indexVecI (k := 0) hq15 Try.underlying63 sz_66 rfl dc (dl_lookup (m := 2) hu rfl (hd 2 dc)) (dl_lookup (m := 3) hu rfl (hd 3 dc)) rfl rfl ?_
         exact TX.quiet 4 hu hi rfl
        ·
         intro D hn hd hcl hu hi
         refine TO.fieldAddr fl_66_3 rfl dc (dl_lookup (m := 4) hu rfl (hd 4 dc)) (show _ = ((i7 : Int).toNat) * 5 + 4 from rfl) ?_
         exact TX.quiet 5 hu hi rfl
        ·
         intro D hn hd hcl hu hi
         refine TO.loadVec (i := (i7 : Int).toNat) (j := 4) (k := 0) (q := q12) sc_3 enc_Gref05_Piece_len rfl dc (dl_lookup (m := 5) hu rfl (hd 5 dc)) rfl (getO_get hq15) rfl dc rfl ?_
         exact TX.quiet 6 hu hi rfl
        refine TO.max2 rfl dc rfl rfl (TO.fieldAddr fl_52_1 rfl dc rfl (show _ = 2 from rfl) ?_)
        refine TO.store (k := 2) (l' := [.int .i64 q10.Span_From, .int .i64 q11.Span_To, .int .i64 (max c8 q12.Columns)]) sz_3 rfl rfl rfl rfl rfl (fun _ _ => rfl) rfl ?_
        refine TO.nil (TX.next (TC.region (TO.move rfl dc rfl ?_)))
        obtain ⟨hg10, h⟩ := grdE h
        refine TO.bin rfl dc rfl rfl (bin_add (r := i7 + 1) (IntWalk.i64_in _ hg10)) (TO.assign rfl dc rfl (TO.nil (TX.blockNormal ?_)))
        subst hag5
        exact TX.againD (n5, i7 + 1, max c8 q12.Columns) h (Nat.lt_succ_self _) rfl (Sbs.cons rfl (Sbs.cons rfl (Sbs.cons rfl (Sbs.cons rfl (Sbs.cons rfl (Sbs.cons rfl (Sbs.nil))))))) (Splits.of [0, 1, 2] kr rfl)
       ·
        have h := condF hb32 h
        refine TC.exit (TX.thenExit (TX.thenExit (TX.blockHere ?_)))
        exact TX.meetD (i7, q10.Span_From, q11.Span_To, c8, b2) h rfl (Sbs.cons rfl (Sbs.cons rfl (Sbs.cons rfl (Sbs.cons rfl (Sbs.cons rfl (Sbs.nil)))))) (Splits.of [0, 1, 2] kr rfl)
     ·
      rintro ⟨i4, c3, c4, c5, b1⟩ h
      rw [hj6] at h
      show TC _ _ _ _ _ ([]) _ _ [(0, .string s1), (3, v2), (4, v5), (5, .int .i64 i4), (8, .pointer (some ⟨b1, 0, none⟩))] [vec enc_Gref05_Piece 66 5 v2 r1, vec enc_Gapi_Cell 52 3 v5 out4, cells b1 [.int .i64 c3, .int .i64 c4, .int .i64 c5] 52]
      refine TC.region (TO.move rfl dc rfl (TO.loads (k := 2) (cs := [.int .i64 c3, .int .i64 c4, .int .i64 c5]) rw_52 rfl dc rfl rfl rfl rfl ?_))
      refine TO.buildSlice (cs := [.int .i64 c3, .int .i64 c4, .int .i64 c5]) (te := 52) (ps := [(0, .tmp 133)]) rfl dc rfl (fun _ => by kernel_rfl) (fun b3 => ?_)
      obtain ⟨hg11, h⟩ := grdE h
      refine TO.appendVec (k := 1) (k2 := 3) (ys := [(⟨c3, c4, c5⟩ : Gapi_Cell)]) Try.underlying44 el_52 enc_Gapi_Cell_len enc_Gapi_Cell_one rfl dc rfl rfl rfl rfl rfl rfl hg11 (fun v6 => ?_)
      show TO _ _ _ _ _ _ _ _ _ _ [vec enc_Gref05_Piece 66 5 v2 r1, vec enc_Gapi_Cell 52 3 v6 (out4 ++ [(⟨c3, c4, c5⟩ : Gapi_Cell)]), cells b1 [.int .i64 c3, .int .i64 c4, .int .i64 c5] 52, cells b3 [.int .i64 c3, .int .i64 c4, .int .i64 c5] 52]
      refine TO.assign rfl dc rfl (TO.nil (TX.blockNormal ?_))
      subst hag1
      exact TX.againD (n1, out4 ++ [(⟨c3, c4, c5⟩ : Gapi_Cell)], i4, v6) h (Nat.lt_succ_self _) rfl (Sbs.cons rfl (Sbs.cons rfl (Sbs.cons rfl (Sbs.cons rfl (Sbs.nil))))) (Splits.of [0, 1] kr rfl)
   ·
    have h := condF hb1 h
    refine TC.exit (TX.thenExit (TX.thenExit (TX.blockHere ?_)))
    exact TX.meetD (out4, v5) h rfl (Sbs.cons rfl (Sbs.nil)) (Splits.of [1] kr rfl)
 ·
  rintro ⟨out1, v1⟩ h
  rw [hj1] at h
  show TC _ _ _ _ _ ([]) _ _ [(4, v1)] [vec enc_Gapi_Cell 52 3 v1 out1]
  refine TC.seq (TC.region (TO.move rfl dc rfl (TO.assign rfl dc rfl (TO.nil (TX.next (TC.ret ?_))))))
  cases h
  exact TX.fin (rs := [.tmp 2]) v1 (.inl rfl) Try.results16 (.cons (.tmp rfl) .nil) rfl (Splits.of [0] kr rfl)
end Go.Proofs.Ytnhdnpdbmgeheaa
