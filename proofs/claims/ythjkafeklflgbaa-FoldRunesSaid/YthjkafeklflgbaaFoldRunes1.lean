/-
  Texts laid together: Qw, LfLi, Qm, LfFoldRunes, PlFoldRunes. Nothing is assumed.
-/
import Derived.Test.YthjkafeklflgbaaFb5
import Derived.Test.YthjkafeklflgbaaFb4
namespace Go.Proofs.Ythjkafeklflgbaa
open Go.RowKit Go.Lib
set_option linter.unusedVariables false
set_option linter.unusedSimpArgs false
set_option maxRecDepth 100000 in
theorem wake1 : foldS ⟨#[83, 116, 114, 97, 195, 159, 101, 204, 129]⟩ = ⟨#[115, 116, 114, 97, 115, 115, 101]⟩ := by decide +kernel
set_option maxRecDepth 100000 in
theorem wake2 : foldS ⟨#[195, 137]⟩ = foldS ⟨#[101]⟩ := by decide +kernel
theorem wakes_v : law04_wakes_v = some true :=
  thenI ((fold_v _ (by decide)).trans (congrArg some wake1)) (condTI (decide_eq_true rfl) (thenI (same_v _ _ (by decide) (by decide)) (congrArg some (decide_eq_true wake2))))
theorem cut_le (s : ByteArray) (n : Nat) : (cutB s 0 (min (s.size : Int) n)).size ≤ n := by
  unfold cutB; rw [ByteArray.size_extract]; omega
theorem cut_le' (s : ByteArray) (n : Nat) : (cutB s 0 (n : Int)).size ≤ n := by
  unfold cutB; rw [ByteArray.size_extract]; omega
end Go.Proofs.Ythjkafeklflgbaa
namespace Go.Proofs.Ythjkafeklflgbaa
open Go.RowKit Go.Lib
set_option linter.unusedVariables false
set_option linter.unusedSimpArgs false
def law04_ints_s1 (a1 : List Int) (b1 : List Int) (j1 : Option Bool) (ag1 : Int → Option Bool) (x3 : Int) : Option Bool := bcond (decide ((x3 : Int) < (a1.length : Int))) ( andThen (getO a1 x3) fun (q1 : Int) => andThen (getO b1 x3) fun (q2 : Int) => bcond ((q1 : Int) != q2) ( some false
) ( grd (I64 (x3 + 1)) <| ag1 (x3 + 1)
)
) ( j1
)
def law04_ints_v (a1 : List Int) (b1 : List Int) : Option Bool := bcond (((a1.length : Int) : Int) != (b1.length : Int)) ( some false
) ( joinK (fun (j1 : Option Bool) => loopG (fun _ => none) (law04_ints_s1 a1 b1 j1) fuel 0
) ( some true
)
)
set_option maxRecDepth 100000 in
set_option maxHeartbeats 4000000 in
theorem law04_ints_fn {vva1 va1 : Value} {La1 : List Int} {ka1 : Nat} {a1 : List Int} (hwa1 : Vw vva1 La1 1 ka1 va1 a1) {vvb1 vb1 : Value} {Lb1 : List Int} {kb1 : Nat} {b1 : List Int} (hwb1 : Vw vvb1 Lb1 1 kb1 vb1 b1) {r : Bool} (h : law04_ints_v a1 b1 = some r) : Fn Try.prog 18 [va1, vb1] [vec (encI (.i64)) 3 1 vva1 La1, vec (encI (.i64)) 3 1 vvb1 Lb1] (fun _b : Unit => .bool r) (fun _b => [vec (encI (.i64)) 3 1 vva1 La1, vec (encI (.i64)) 3 1 vvb1 Lb1]) := by
 unfold law04_ints_v at h
 refine Fn.intro Try.func18 rfl Try.ntmps18 (by simp) ?_
 intro w0 K
 refine TC.seq (TC.region (TO.assign rfl dc rfl (TO.nil (TX.next (TC.seq (TC.seq (TC.region (TO.move rfl dc rfl (TO.lenVw hwa1 rfl dc rfl Try.underlying30 (TO.move rfl dc rfl (TO.lenVw hwb1 rfl dc rfl Try.underlying30 (TO.bin rfl dc rfl rfl bin_neq (TO.nil ?_)))))))))))))
 refine TX.next ?_
 refine TC.condB rfl (fun hb1 => ?_) (fun hb1 => ?_)
 ·
  have h := condT hb1 h
  refine TC.seq (TC.region (TO.assign rfl dc rfl (TO.nil (TX.next (TC.ret (TX.thenRet ?_))))))
  cases h
  exact TX.fin (rs := [.tmp 4]) () (.inl rfl) Try.results18 (.cons (.tmp rfl) .nil) rfl (Splits.of [0, 1] kr rfl)
 ·
  have h := condF hb1 h
  refine TC.skip (TX.next ?_)
  obtain ⟨j1, hj1, h⟩ := joinE h
  refine TC.cutN (β := Unit) 0 rfl (fun b => j1 = some r) (fun b => []) (fun b => []) (fun b => [vec (encI (.i64)) 3 1 vvb1 Lb1, vec (encI (.i64)) 3 1 vva1 La1]) (fun cut => ?_) ?_
  ·
   refine cut (TC.seq (TC.region (TO.move rfl dc rfl (TO.lenVw hwa1 rfl dc rfl Try.underlying30 (TO.move rfl dc rfl (TO.nil (TX.next (TC.block ?_))))))))
   refine TC.loopD (β := Nat × Int) (fun b => loopG (fun _ => none) (law04_ints_s1 a1 b1 j1) b.1 b.2 = some r) (fun b => []) (fun b => [(0, va1), (1, vb1), (12, .int .i64 (a1.length : Int)), (13, .int .i64 b.2)]) (fun b => [vec (encI (.i64)) 3 1 vvb1 Lb1, vec (encI (.i64)) 3 1 vva1 La1]) (fun b => b.1) (fuel, 0) h rfl (Sbs.cons rfl (Sbs.cons rfl (Sbs.cons rfl (Sbs.cons rfl (Sbs.nil))))) (Splits.of [1, 0] kr rfl) ?_
   rintro ⟨n1, x3⟩ h
   cases n1 with
   | zero => exact noneE h
   | succ n1 =>
    obtain ⟨ag1, hag1⟩ : ∃ ag, ag = loopG (fun _ => none) (law04_ints_s1 a1 b1 j1) n1 := ⟨_, rfl⟩
    have h : law04_ints_s1 a1 b1 j1 ag1 x3 = some r := by rw [hag1]; exact h
    unfold law04_ints_s1 at h
    show TC _ _ _ _ _ ([]) _ _ [(0, va1), (1, vb1), (12, .int .i64 (a1.length : Int)), (13, .int .i64 x3)] [vec (encI (.i64)) 3 1 vvb1 Lb1, vec (encI (.i64)) 3 1 vva1 La1]
    refine TC.seq (TC.region (TO.bin rfl dc rfl rfl bin_lss (TO.nil (TX.next (TC.seq ?_)))))
    refine TC.condB rfl (fun hb2 => ?_) (fun hb2 => ?_)
    ·
     have h := condT hb2 h
     refine TC.skip (TX.next (TC.seq (TC.block (TC.seq (TC.region (TO.move rfl dc rfl (TO.assign rfl dc rfl (TO.nil (TX.next (TC.seq ?_))))))))))
     obtain ⟨q1, hq1, h⟩ := andE h
     obtain ⟨q2, hq2, h⟩ := andE h
     refine TC.drawN 8 [(0, 16, va1), (1, 17, .int .i64 x3), (2, 18, .pointer (some ⟨vblk vva1, (ka1 + (x3 : Int).toNat) * 1, none⟩)), (3, 19, .int .i64 q1), (4, 20, vb1), (5, 21, .int .i64 x3), (6, 22, .pointer (some ⟨vblk vvb1, (kb1 + (x3 : Int).toNat) * 1, none⟩)), (7, 23, .int .i64 q2)] mixed kr kr dc (by rfl) kr kr (DrawPre.cons ?_ (DrawPre.cons ?_ (DrawPre.cons ?_ (DrawPre.cons ?_ (DrawPre.cons ?_ (DrawPre.cons ?_ (DrawPre.cons ?_ (DrawPre.cons ?_ DrawPre.nil)))))))) ?_
     ·
      intro D hn hd hcl hu hi
      refine TO.move rfl dc (dl_old (by rfl) rfl) ?_
      exact TX.quiet 0 hu hi rfl
     ·
      intro D hn hd hcl hu hi
      refine TO.move rfl dc (dl_old (by rfl) rfl) ?_
      exact TX.quiet 1 hu hi rfl
     ·
      intro D hn hd hcl hu hi
      refine TO.indexVw hwa1 hq1 Try.underlying30 sz_3 rfl dc (dl_lookup (m := 0) hu rfl (hd 0 dc)) (dl_lookup (m := 1) hu rfl (hd 1 dc)) rfl ?_
      exact TX.quiet 2 hu hi rfl
     ·
      intro D hn hd hcl hu hi
      refine TO.loadVec (i := ka1 + (x3 : Int).toNat) (j := 0) (k := 1) (q := q1) sc_3 encI_len rfl dc (dl_lookup (m := 2) hu rfl (hd 2 dc)) rfl (Vw.get hwa1 hq1) rfl dc rfl ?_
      exact TX.quiet 3 hu hi rfl
     ·
      intro D hn hd hcl hu hi
      refine TO.move rfl dc (dl_old (by rfl) rfl) ?_
      exact TX.quiet 4 hu hi rfl
     ·
      intro D hn hd hcl hu hi
      refine TO.move rfl dc (dl_old (by rfl) rfl) ?_
      exact TX.quiet 5 hu hi rfl
     ·
      intro D hn hd hcl hu hi
      refine TO.indexVw hwb1 hq2 Try.underlying30 sz_3 rfl dc (dl_lookup (m := 4) hu rfl (hd 4 dc)) (dl_lookup (m := 5) hu rfl (hd 5 dc)) rfl ?_
      exact TX.quiet 6 hu hi rfl
     ·
      intro D hn hd hcl hu hi
      refine TO.loadVec (i := kb1 + (x3 : Int).toNat) (j := 0) (k := 0) (q := q2) sc_3 encI_len rfl dc (dl_lookup (m := 6) hu rfl (hd 6 dc)) rfl (Vw.get hwb1 hq2) rfl dc rfl ?_
      exact TX.quiet 7 hu hi rfl
     refine TO.bin rfl dc rfl rfl bin_neq (TO.nil (TX.next ?_))
     refine TC.condB rfl (fun hb3 => ?_) (fun hb3 => ?_)
     ·
      have h := condT hb3 h
      refine TC.seq (TC.region (TO.assign rfl dc rfl (TO.nil (TX.next (TC.ret (TX.blockRet (TX.thenRet (TX.thenRet (TX.blockRet (TX.thenRet ?_))))))))))
      cases h
      exact TX.fin (rs := [.tmp 4]) () (.inl rfl) Try.results18 (.cons (.tmp rfl) .nil) rfl (Splits.of [1, 0] kr rfl)
     ·
      have h := condF hb3 h
      refine TC.skip (TX.blockNormal (TX.next (TC.region ?_)))
      obtain ⟨hg1, h⟩ := grdE h
      refine TO.bin rfl dc rfl rfl (bin_add (r := x3 + 1) (IntWalk.i64_in _ hg1)) (TO.move rfl dc rfl (TO.nil ?_))
      subst hag1
      exact TX.againD (n1, x3 + 1) h (Nat.lt_succ_self _) rfl (Sbs.cons rfl (Sbs.cons rfl (Sbs.cons rfl (Sbs.cons rfl (Sbs.nil))))) (Splits.of [0, 1] kr rfl)
    ·
     have h := condF hb2 h
     refine TC.exit (TX.thenExit (TX.thenExit (TX.blockHere ?_)))
     exact TX.meetD () h rfl (Sbs.nil) (Splits.of [0, 1] kr rfl)
  ·
   rintro _ h
   rw [hj1] at h
   show TC _ _ _ _ _ ([]) _ _ [] [vec (encI (.i64)) 3 1 vvb1 Lb1, vec (encI (.i64)) 3 1 vva1 La1]
   refine TC.seq (TC.region (TO.assign rfl dc rfl (TO.nil (TX.next (TC.ret ?_)))))
   cases h
   exact TX.fin (rs := [.tmp 4]) () (.inl rfl) Try.results18 (.cons (.tmp rfl) .nil) rfl (Splits.of [1, 0] kr rfl)
def law04_row_s1 (a1 : List Int) (b1 : List Int) (j1 : Option Bool) (ag1 : Int → Option Bool) (x3 : Int) : Option Bool := bcond (decide ((x3 : Int) < (a1.length : Int))) ( andThen (getO a1 x3) fun (q1 : Int) => andThen (getO b1 x3) fun (q2 : Int) => bcond ((q1 : Int) != q2) ( some false
) ( grd (I64 (x3 + 1)) <| ag1 (x3 + 1)
)
) ( j1
)
def law04_row_v (a1 : List Int) (b1 : List Int) : Option Bool := bcond (((a1.length : Int) : Int) != (b1.length : Int)) ( some false
) ( joinK (fun (j1 : Option Bool) => loopG (fun _ => none) (law04_row_s1 a1 b1 j1) fuel 0
) ( some true
)
)
set_option maxRecDepth 100000 in
set_option maxHeartbeats 4000000 in
theorem law04_row_fn {vva1 va1 : Value} {La1 : List Int} {ka1 : Nat} {a1 : List Int} (hwa1 : Vw vva1 La1 1 ka1 va1 a1) {vvb1 vb1 : Value} {Lb1 : List Int} {kb1 : Nat} {b1 : List Int} (hwb1 : Vw vvb1 Lb1 1 kb1 vb1 b1) {r : Bool} (h : law04_row_v a1 b1 = some r) : Fn Try.prog 32 [va1, vb1] [vec (encI (.i32)) 21 1 vva1 La1, vec (encI (.i32)) 21 1 vvb1 Lb1] (fun _b : Unit => .bool r) (fun _b => [vec (encI (.i32)) 21 1 vva1 La1, vec (encI (.i32)) 21 1 vvb1 Lb1]) := by
 unfold law04_row_v at h
 refine Fn.intro Try.func32 rfl Try.ntmps32 (by simp) ?_
 intro w0 K
 refine TC.seq (TC.region (TO.assign rfl dc rfl (TO.nil (TX.next (TC.seq (TC.seq (TC.region (TO.move rfl dc rfl (TO.lenVw hwa1 rfl dc rfl Try.underlying25 (TO.move rfl dc rfl (TO.lenVw hwb1 rfl dc rfl Try.underlying25 (TO.bin rfl dc rfl rfl bin_neq (TO.nil ?_)))))))))))))
 refine TX.next ?_
 refine TC.condB rfl (fun hb1 => ?_) (fun hb1 => ?_)
 ·
  have h := condT hb1 h
  refine TC.seq (TC.region (TO.assign rfl dc rfl (TO.nil (TX.next (TC.ret (TX.thenRet ?_))))))
  cases h
  exact TX.fin (rs := [.tmp 4]) () (.inl rfl) Try.results32 (.cons (.tmp rfl) .nil) rfl (Splits.of [0, 1] kr rfl)
 ·
  have h := condF hb1 h
  refine TC.skip (TX.next ?_)
  obtain ⟨j1, hj1, h⟩ := joinE h
  refine TC.cutN (β := Unit) 0 rfl (fun b => j1 = some r) (fun b => []) (fun b => []) (fun b => [vec (encI (.i32)) 21 1 vvb1 Lb1, vec (encI (.i32)) 21 1 vva1 La1]) (fun cut => ?_) ?_
  ·
   refine cut (TC.seq (TC.region (TO.move rfl dc rfl (TO.lenVw hwa1 rfl dc rfl Try.underlying25 (TO.move rfl dc rfl (TO.nil (TX.next (TC.block ?_))))))))
   refine TC.loopD (β := Nat × Int) (fun b => loopG (fun _ => none) (law04_row_s1 a1 b1 j1) b.1 b.2 = some r) (fun b => []) (fun b => [(0, va1), (1, vb1), (12, .int .i64 (a1.length : Int)), (13, .int .i64 b.2)]) (fun b => [vec (encI (.i32)) 21 1 vvb1 Lb1, vec (encI (.i32)) 21 1 vva1 La1]) (fun b => b.1) (fuel, 0) h rfl (Sbs.cons rfl (Sbs.cons rfl (Sbs.cons rfl (Sbs.cons rfl (Sbs.nil))))) (Splits.of [1, 0] kr rfl) ?_
   rintro ⟨n1, x3⟩ h
   cases n1 with
   | zero => exact noneE h
   | succ n1 =>
    obtain ⟨ag1, hag1⟩ : ∃ ag, ag = loopG (fun _ => none) (law04_row_s1 a1 b1 j1) n1 := ⟨_, rfl⟩
    have h : law04_row_s1 a1 b1 j1 ag1 x3 = some r := by rw [hag1]; exact h
    unfold law04_row_s1 at h
    show TC _ _ _ _ _ ([]) _ _ [(0, va1), (1, vb1), (12, .int .i64 (a1.length : Int)), (13, .int .i64 x3)] [vec (encI (.i32)) 21 1 vvb1 Lb1, vec (encI (.i32)) 21 1 vva1 La1]
    refine TC.seq (TC.region (TO.bin rfl dc rfl rfl bin_lss (TO.nil (TX.next (TC.seq ?_)))))
    refine TC.condB rfl (fun hb2 => ?_) (fun hb2 => ?_)
    ·
     have h := condT hb2 h
     refine TC.skip (TX.next (TC.seq (TC.block (TC.seq (TC.region (TO.move rfl dc rfl (TO.assign rfl dc rfl (TO.nil (TX.next (TC.seq ?_))))))))))
     obtain ⟨q1, hq1, h⟩ := andE h
     obtain ⟨q2, hq2, h⟩ := andE h
     refine TC.drawN 8 [(0, 16, va1), (1, 17, .int .i64 x3), (2, 18, .pointer (some ⟨vblk vva1, (ka1 + (x3 : Int).toNat) * 1, none⟩)), (3, 19, .int .i32 q1), (4, 20, vb1), (5, 21, .int .i64 x3), (6, 22, .pointer (some ⟨vblk vvb1, (kb1 + (x3 : Int).toNat) * 1, none⟩)), (7, 23, .int .i32 q2)] mixed kr kr dc (by rfl) kr kr (DrawPre.cons ?_ (DrawPre.cons ?_ (DrawPre.cons ?_ (DrawPre.cons ?_ (DrawPre.cons ?_ (DrawPre.cons ?_ (DrawPre.cons ?_ (DrawPre.cons ?_ DrawPre.nil)))))))) ?_
     ·
      intro D hn hd hcl hu hi
      refine TO.move rfl dc (dl_old (by rfl) rfl) ?_
      exact TX.quiet 0 hu hi rfl
     ·
      intro D hn hd hcl hu hi
      refine TO.move rfl dc (dl_old (by rfl) rfl) ?_
      exact TX.quiet 1 hu hi rfl
     ·
      intro D hn hd hcl hu hi
      refine TO.indexVw hwa1 hq1 Try.underlying25 sz_21 rfl dc (dl_lookup (m := 0) hu rfl (hd 0 dc)) (dl_lookup (m := 1) hu rfl (hd 1 dc)) rfl ?_
      exact TX.quiet 2 hu hi rfl
     ·
      intro D hn hd hcl hu hi
      refine TO.loadVec (i := ka1 + (x3 : Int).toNat) (j := 0) (k := 1) (q := q1) sc_21 encI_len rfl dc (dl_lookup (m := 2) hu rfl (hd 2 dc)) rfl (Vw.get hwa1 hq1) rfl dc rfl ?_
      exact TX.quiet 3 hu hi rfl
     ·
      intro D hn hd hcl hu hi
      refine TO.move rfl dc (dl_old (by rfl) rfl) ?_
      exact TX.quiet 4 hu hi rfl
     ·
      intro D hn hd hcl hu hi
      refine TO.move rfl dc (dl_old (by rfl) rfl) ?_
      exact TX.quiet 5 hu hi rfl
     ·
      intro D hn hd hcl hu hi
      refine TO.indexVw hwb1 hq2 Try.underlying25 sz_21 rfl dc (dl_lookup (m := 4) hu rfl (hd 4 dc)) (dl_lookup (m := 5) hu rfl (hd 5 dc)) rfl ?_
      exact TX.quiet 6 hu hi rfl
     ·
      intro D hn hd hcl hu hi
      refine TO.loadVec (i := kb1 + (x3 : Int).toNat) (j := 0) (k := 0) (q := q2) sc_21 encI_len rfl dc (dl_lookup (m := 6) hu rfl (hd 6 dc)) rfl (Vw.get hwb1 hq2) rfl dc rfl ?_
      exact TX.quiet 7 hu hi rfl
     refine TO.bin rfl dc rfl rfl bin_neq (TO.nil (TX.next ?_))
     refine TC.condB rfl (fun hb3 => ?_) (fun hb3 => ?_)
     ·
      have h := condT hb3 h
      refine TC.seq (TC.region (TO.assign rfl dc rfl (TO.nil (TX.next (TC.ret (TX.blockRet (TX.thenRet (TX.thenRet (TX.blockRet (TX.thenRet ?_))))))))))
      cases h
      exact TX.fin (rs := [.tmp 4]) () (.inl rfl) Try.results32 (.cons (.tmp rfl) .nil) rfl (Splits.of [1, 0] kr rfl)
     ·
      have h := condF hb3 h
      refine TC.skip (TX.blockNormal (TX.next (TC.region ?_)))
      obtain ⟨hg1, h⟩ := grdE h
      refine TO.bin rfl dc rfl rfl (bin_add (r := x3 + 1) (IntWalk.i64_in _ hg1)) (TO.move rfl dc rfl (TO.nil ?_))
      subst hag1
      exact TX.againD (n1, x3 + 1) h (Nat.lt_succ_self _) rfl (Sbs.cons rfl (Sbs.cons rfl (Sbs.cons rfl (Sbs.cons rfl (Sbs.nil))))) (Splits.of [0, 1] kr rfl)
    ·
     have h := condF hb2 h
     refine TC.exit (TX.thenExit (TX.thenExit (TX.blockHere ?_)))
     exact TX.meetD () h rfl (Sbs.nil) (Splits.of [0, 1] kr rfl)
  ·
   rintro _ h
   rw [hj1] at h
   show TC _ _ _ _ _ ([]) _ _ [] [vec (encI (.i32)) 21 1 vvb1 Lb1, vec (encI (.i32)) 21 1 vva1 La1]
   refine TC.seq (TC.region (TO.assign rfl dc rfl (TO.nil (TX.next (TC.ret ?_)))))
   cases h
   exact TX.fin (rs := [.tmp 4]) () (.inl rfl) Try.results32 (.cons (.tmp rfl) .nil) rfl (Splits.of [1, 0] kr rfl)
end Go.Proofs.Ythjkafeklflgbaa
namespace Go.Proofs.Ythjkafeklflgbaa
open Go.RowKit Go.Lib
set_option linter.unusedVariables false
set_option linter.unusedSimpArgs false
theorem and63 : ∀ n : Fin 256, andI .u8 ((n.val : Nat) : Int) 63 = ((n.val % 64 : Nat) : Int) := by decide +kernel
theorem or128 : ∀ n : Fin 64, orI .u8 ((n.val : Nat) : Int) 128 = ((n.val + 128 : Nat) : Int) := by decide +kernel
theorem or192 : ∀ n : Fin 32, orI .u8 192 ((n.val : Nat) : Int) = ((n.val + 192 : Nat) : Int) := by decide +kernel
theorem or224 : ∀ n : Fin 16, orI .u8 224 ((n.val : Nat) : Int) = ((n.val + 224 : Nat) : Int) := by decide +kernel
theorem or240 : ∀ n : Fin 8, orI .u8 240 ((n.val : Nat) : Int) = ((n.val + 240 : Nat) : Int) := by decide +kernel
theorem wrapU8 (n : Nat) : IntKind.u8.wrap (n : Int) = ((n % 256 : Nat) : Int) := by
  simp [IntKind.wrap, IntKind.bits, IntKind.signed]
theorem tailV (n : Nat) : runes_tail_v (n : Int) = some ((n % 64 + 128 : Nat) : Int) := by
  unfold runes_tail_v
  rw [wrapU8]
  have h1 := and63 ⟨n % 256, by omega⟩
  simp only at h1
  rw [h1]
  have h2 := or128 ⟨n % 256 % 64, by omega⟩
  simp only at h2
  rw [h2, show n % 256 % 64 = n % 64 by omega]
theorem shr6 (n : Nat) : shrI .i32 (n : Int) 6 = ((n / 64 : Nat) : Int) := by
  show Int.fdiv (n : Int) 64 = _
  rw [Int.fdiv_eq_ediv_of_nonneg _ (by decide)]; omega
theorem shr12 (n : Nat) : shrI .i32 (n : Int) 12 = ((n / 4096 : Nat) : Int) := by
  show Int.fdiv (n : Int) 4096 = _
  rw [Int.fdiv_eq_ediv_of_nonneg _ (by decide)]; omega
theorem shr18 (n : Nat) : shrI .i32 (n : Int) 18 = ((n / 262144 : Nat) : Int) := by
  show Int.fdiv (n : Int) 262144 = _
  rw [Int.fdiv_eq_ediv_of_nonneg _ (by decide)]; omega
theorem u8s {l : List Int} (h : ∀ x ∈ l, 0 ≤ x ∧ x ≤ 255) : ∀ x ∈ l, U8 x := h
/-- The bytes of a rune that has a form. -/
theorem encP (n : Nat) (hv : n < 55296 ∨ (57343 < n ∧ n ≤ 1114111)) : (bcond (decide (((n : Int) : Int) < 128)) (grd (∀ x ∈ ([IntKind.u8.wrap (n : Int)] : List Int), U8 x) <| some (bytesOf ([IntKind.u8.wrap (n : Int)] : List Int)))
    (bcond (decide (((n : Int) : Int) < 2048)) (andThen (runes_tail_v (n : Int)) fun (r4 : Int) => grd (∀ x ∈ ([orI .u8 192 (IntKind.u8.wrap (shrI .i32 (n : Int) 6)), r4] : List Int), U8 x) <| some (bytesOf ([orI .u8 192 (IntKind.u8.wrap (shrI .i32 (n : Int) 6)), r4] : List Int)))
    (bcond (decide (((n : Int) : Int) < 65536)) (andThen (runes_tail_v (shrI .i32 (n : Int) 6)) fun (r5 : Int) => andThen (runes_tail_v (n : Int)) fun (r6 : Int) => grd (∀ x ∈ ([orI .u8 224 (IntKind.u8.wrap (shrI .i32 (n : Int) 12)), r5, r6] : List Int), U8 x) <| some (bytesOf ([orI .u8 224 (IntKind.u8.wrap (shrI .i32 (n : Int) 12)), r5, r6] : List Int)))
    (andThen (runes_tail_v (shrI .i32 (n : Int) 12)) fun (r7 : Int) => andThen (runes_tail_v (shrI .i32 (n : Int) 6)) fun (r8 : Int) => andThen (runes_tail_v (n : Int)) fun (r9 : Int) => grd (∀ x ∈ ([orI .u8 240 (IntKind.u8.wrap (shrI .i32 (n : Int) 18)), r7, r8, r9] : List Int), U8 x) <| some (bytesOf ([orI .u8 240 (IntKind.u8.wrap (shrI .i32 (n : Int) 18)), r7, r8, r9] : List Int)))))) = some (Utf8.encode (n : Int)) := by
  have hw : encodeRune (n : Int) = (encodeRuneZ (n : Int)).map fun x => x.toNat.toUInt8 := rfl
  rcases encZ_shape n hv with ⟨h, e⟩ | ⟨h, h', e⟩ | ⟨h, h', e⟩ | ⟨h, h', e⟩
  · refine condTI (decide_eq_true (by omega)) ?_
    rw [wrapU8]
    refine grdI (by intro x hx; simp only [List.mem_singleton] at hx; subst hx; exact ⟨by omega, by omega⟩) (congrArg some (bytesOf_eq ?_))
    rw [encode_list, hw, e, show n % 256 = n by omega]
  · refine condFI (decide_eq_false (by omega)) (condTI (decide_eq_true (by omega)) (thenI (tailV n) ?_))
    have h1 := or192 ⟨n / 64, by omega⟩
    simp only at h1
    rw [shr6, wrapU8, show n / 64 % 256 = n / 64 by omega, h1]
    refine grdI (by intro x hx; simp only [List.mem_cons, List.not_mem_nil, or_false] at hx; rcases hx with rfl | rfl <;> exact ⟨by omega, by omega⟩) (congrArg some (bytesOf_eq ?_))
    rw [encode_list, hw, e, show ((n / 64 + 192 : Nat) : Int) = 192 + (n : Int) / 64 by omega, show ((n % 64 + 128 : Nat) : Int) = 128 + (n : Int) % 64 by omega]
  · refine condFI (decide_eq_false (by omega)) (condFI (decide_eq_false (by omega)) (condTI (decide_eq_true (by omega)) ?_))
    have h1 := or224 ⟨n / 4096, by omega⟩
    simp only at h1
    rw [shr6, shr12, wrapU8, show n / 4096 % 256 = n / 4096 by omega, h1]
    refine thenI (tailV _) (thenI (tailV _) ?_)
    refine grdI (by intro x hx; simp only [List.mem_cons, List.not_mem_nil, or_false] at hx; rcases hx with rfl | rfl | rfl <;> exact ⟨by omega, by omega⟩) (congrArg some (bytesOf_eq ?_))
    rw [encode_list, hw, e, show ((n / 4096 + 224 : Nat) : Int) = 224 + (n : Int) / 4096 by omega, show ((n / 64 % 64 + 128 : Nat) : Int) = 128 + (n : Int) / 64 % 64 by omega, show ((n % 64 + 128 : Nat) : Int) = 128 + (n : Int) % 64 by omega]
  · refine condFI (decide_eq_false (by omega)) (condFI (decide_eq_false (by omega)) (condFI (decide_eq_false (by omega)) ?_))
    have h1 := or240 ⟨n / 262144, by omega⟩
    simp only at h1
    rw [shr6, shr12, shr18, wrapU8, show n / 262144 % 256 = n / 262144 by omega, h1]
    refine thenI (tailV _) (thenI (tailV _) (thenI (tailV _) ?_))
    refine grdI (by intro x hx; simp only [List.mem_cons, List.not_mem_nil, or_false] at hx; rcases hx with rfl | rfl | rfl | rfl <;> exact ⟨by omega, by omega⟩) (congrArg some (bytesOf_eq ?_))
    rw [encode_list, hw, e, show ((n / 262144 + 240 : Nat) : Int) = 240 + (n : Int) / 262144 by omega, show ((n / 4096 % 64 + 128 : Nat) : Int) = 128 + (n : Int) / 4096 % 64 by omega, show ((n / 64 % 64 + 128 : Nat) : Int) = 128 + (n : Int) / 64 % 64 by omega, show ((n % 64 + 128 : Nat) : Int) = 128 + (n : Int) % 64 by omega]
theorem enc_bad {r : Int} (h : ¬ vr r) : Utf8.encode r = Utf8.encode 65533 := by
  apply ByteArray.ext; apply Array.toList_inj.1
  rw [encode_list, encode_list]
  unfold encodeRune
  congr 1
  unfold vr at h
  unfold encodeRuneZ
  (repeat' split) <;> first | rfl | (exfalso; omega)
theorem encodeV (r : Int) : runes_Encode_v r = some (Utf8.encode r) := by
  unfold runes_Encode_v
  refine joinI ?_
  by_cases hv : vr r
  · refine thenI (rwidthV r hv) ?_
    have hpos : 0 < (Utf8.encode r).size := by rw [encode_size]; exact (encodeRune_len r).1
    refine condFI (by rw [beq_eq_false_iff_ne]; omega) ?_
    obtain ⟨n, rfl⟩ : ∃ n : Nat, r = n := ⟨r.toNat, by unfold vr at hv; omega⟩
    exact encP n (by unfold vr at hv; omega)
  · have hne : r ≠ 65533 := by intro e; subst e; exact hv (by unfold vr; omega)
    have hl : Utf8.encode r = (⟨#[239, 191, 189]⟩ : ByteArray) := by rw [enc_bad hv]; decide
    refine thenI (a := 0) ?_ (condTI rfl ?_)
    · unfold runes_Width_v
      exact joinI (condTI (bne_iff_ne.2 hne) (condTI (decide_eq_true hl) rfl))
    · rw [enc_bad hv]; exact encP 65533 (by omega)
theorem foldRune_v (r : Int) : fold_FoldRune_v r = some (foldS (Utf8.encode r)) := thenI (encodeV r) (thenI (fold_v _ (by have := enc_size4 r; omega)) rfl)
theorem row_v (l : List Int) (hl : l.length ≤ 1000000000) : law04_row_v l l = some true := by
  unfold law04_row_v
  refine condFI (by simp) (joinI ?_)
  have := seek (xs := l) (F := law04_row_s1 l l (some true)) (bot := fun _ => none) (g := fun _ => none) (J := some true) (fun ag k x hx => by
    have hk := lp_lt' hx
    unfold law04_row_s1
    exact condTI (lp_lt hx) (thenI (lp_get hx) (thenI (lp_get hx) (condFI (by simp) (grdI (lp_i64 (by omega)) rfl))))) (fun ag => by unfold law04_row_s1; exact condFI lp_ge rfl) (n := fuel) (big_fuel (by omega))
  rw [this]
  have : l.findSome? (fun _ => (none : Option (Option Bool))) = none := by simp
  rw [this]; rfl
theorem ints_v (l : List Int) (hl : l.length ≤ 1000000000) : law04_ints_v l l = some true := by
  unfold law04_ints_v
  refine condFI (by simp) (joinI ?_)
  have := seek (xs := l) (F := law04_ints_s1 l l (some true)) (bot := fun _ => none) (g := fun _ => none) (J := some true) (fun ag k x hx => by
    have hk := lp_lt' hx
    unfold law04_ints_s1
    exact condTI (lp_lt hx) (thenI (lp_get hx) (thenI (lp_get hx) (condFI (by simp) (grdI (lp_i64 (by omega)) rfl))))) (fun ag => by unfold law04_ints_s1; exact condFI lp_ge rfl) (n := fuel) (big_fuel (by omega))
  rw [this]
  have : l.findSome? (fun _ => (none : Option (Option Bool))) = none := by simp
  rw [this]; rfl
/-- All is set, one number by one. -/
theorem set_all {R : Type} {F : (List Int → Int → Option R) → List Int → Int → Option R} {bot : List Int → Int → Option R} {J : List Int → Option R} (r4 : List Int) (v : Int)
    (hs : ∀ ag (k : Nat) (l : List Int), k < r4.length → l.length = r4.length → F ag l (k : Int) = ag (l.set k v) ((k : Int) + 1)) (he : ∀ ag l, F ag l (r4.length : Int) = J l) {n : Nat} (hn : r4.length < n) : loopG bot F n r4 0 = J (List.replicate r4.length v) := by
  have key : ∀ (n k : Nat) (l : List Int), k ≤ r4.length → r4.length - k < n → l.length = r4.length → (∀ i, i < k → l[i]? = some v) → loopG bot F n l (k : Int) = J (List.replicate r4.length v) := by
    intro n
    induction n with
    | zero => intro k l _ h; omega
    | succ n ih =>
      intro k l hk hn hl hi
      rw [loopI]
      by_cases h : k < r4.length
      · rw [hs _ k l h hl]
        exact ih (k + 1) (l.set k v) (by omega) (by omega) (by simp [hl]) (fun i hi2 => by
          by_cases e : i = k
          · rw [e, List.getElem?_set_self (by omega)]
          · rw [List.getElem?_set_ne (Ne.symm e)]; exact hi i (by omega))
      · have : k = r4.length := by omega
        subst this
        rw [he]
        congr 1
        apply List.ext_getElem?
        intro i
        by_cases h2 : i < r4.length
        · rw [hi i h2, List.getElem?_replicate, if_pos h2]
        · rw [List.getElem?_eq_none (by omega), List.getElem?_replicate, if_neg h2]
  exact key n 0 r4 (Nat.zero_le _) (by omega) rfl (fun i h => absurd h (Nat.not_lt_zero i))
end Go.Proofs.Ythjkafeklflgbaa
namespace Go.Proofs.Ythjkafeklflgbaa
open Go.RowKit Go.Lib
set_option linter.unusedVariables false
set_option linter.unusedSimpArgs false
def law04_FoldRunes_s2 (r4 : (List Int)) (j3 : (List Int) → Option Bool) (ag2 : (List Int) → Int → Option Bool) (l4 : List Int) (x3 : Int) : Option Bool := bcond (decide ((x3 : Int) < (r4.length : Int))) ( andThen (getO l4 x3) fun (q1 : Int) => grd (I64 (x3 + 1)) <| ag2 (l4.set (x3 : Int).toNat (-7)) (x3 + 1)
) ( j3 l4
)
def law04_FoldRunes_s1 (r1 : Int) (j1 : Option Bool) (r3 : (List Int)) (ag1 : Int → Option Bool) (round3 : Int) : Option Bool := bcond (decide ((round3 : Int) < 2)) ( joinK (fun (j2 : Option Bool) => andThen (fold_Split_v r1) fun (r4 : (List Int)) => andThen (law04_row_v r4 r3) fun (r5 : Bool) => bcond (!r5) ( some false
) ( joinK (fun (j3 : (List Int) → Option Bool) => loopG (fun _ _ => none) (law04_FoldRunes_s2 r4 j3) fuel r4 0
) (fun (l1 : List Int) => grd (l1.length + 3 ≤ 2147483648) <| andThen (getO (l1 ++ [(-7), (-7), (-7)]) 0) fun (q2 : Int) => bcond ((q2 : Int) != (-7)) ( some false
) ( j2
)
)
)
) ( grd (I64 (round3 + 1)) <| ag1 (round3 + 1)
)
) ( j1
)
def law04_FoldRunes_s3 (r1 : Int) (mark1 : Int) (j4 : Option Bool) (ag3 : Int → Option Bool) (x6 : Int) : Option Bool := bcond (decide ((x6 : Int) < 3)) ( andThen (getO ([mark1, 769, 776] : List Int) x6) fun (q3 : Int) => andThen (fold_Join_v r1 q3) fun (r6 : (Int × Bool)) => andThen (ref04_Join_v r1 q3) fun (r7 : Int) => bcond ((r6.1 : Int) != r7) ( some false
) ( bcond (r6.2 != ((r7 : Int) != 0)) ( some false
) ( grd (I64 (x6 + 1)) <| ag3 (x6 + 1)
)
)
) ( j4
)
def law04_FoldRunes_v (r1 : Int) (mark1 : Int) : Option Bool := andThen (law04_wakes_v) fun (r2 : Bool) => bcond (!r2) ( some false
) ( joinK (fun (j1 : Option Bool) => andThen (ref04_Split_v r1) fun (r3 : (List Int)) => loopG (fun _ => none) (law04_FoldRunes_s1 r1 j1 r3) fuel 0
) ( joinK (fun (j4 : Option Bool) => loopG (fun _ => none) (law04_FoldRunes_s3 r1 mark1 j4) fuel 0
) ( andThen (fold_Low_v r1) fun (r8 : Bool) => andThen (ref04_Low_v r1) fun (r9 : Bool) => bcond (r8 == r9) ( andThen (fold_Low_v mark1) fun (r10 : Bool) => andThen (ref04_Low_v mark1) fun (r11 : Bool) => bcond (r10 == r11) ( andThen (fold_FoldRune_v r1) fun (r12 : ByteArray) => andThen (ref04_Fold_v (Utf8.encode r1)) fun (r13 : ByteArray) => bcond (decide (r12 = r13)) ( andThen (law04_wakes_v) fun (r14 : Bool) => some r14
) ( some false
)
) ( some false
)
) ( some false
)
)
)
)
set_option maxRecDepth 100000 in
set_option maxHeartbeats 4000000 in
theorem law04_FoldRunes_fn {r1 : Int} {mark1 : Int} {r : Bool} (h : law04_FoldRunes_v r1 mark1 = some r) : FnP Try.prog 8 [.int .i32 r1, .int .i32 mark1] (.bool r) := by
 unfold law04_FoldRunes_v at h
 refine FnP.intro Try.func8 rfl Try.ntmps8 (by simp) ?_
 intro w0 K
 refine TC.seq (TC.region (TO.assign rfl dc rfl (TO.nil (TX.next (TC.seq (TC.seq (TC.region ?_)))))))
 obtain ⟨r2, hq1, h⟩ := andE h
 refine TO.callP (v := .bool r2) (vs := []) rfl dc rfl rfl rfl en_12 (law04_wakes_fn hq1) (TO.un rfl dc rfl un_not (TO.nil (TX.next ?_)))
 refine TC.condB rfl (fun hb1 => ?_) (fun hb1 => ?_)
 ·
  have h := condT hb1 h
  refine TC.seq (TC.region (TO.assign rfl dc rfl (TO.nil (TX.next (TC.ret (TX.thenRet ?_))))))
  cases h
  exact TX.fin (rs := [.tmp 4]) () (.inl rfl) Try.results8 (.cons (.tmp rfl) .nil) rfl Splits.nil
 ·
  have h := condF hb1 h
  refine TC.skip (TX.next ?_)
  obtain ⟨j1, hj1, h⟩ := joinE h
  refine TC.cutN (β := Unit) 1 rfl (fun b => j1 = some r) (fun b => []) (fun b => [(0, .int .i32 r1), (1, .int .i32 mark1)]) (fun b => []) (fun cut => ?_) ?_
  ·
   refine TC.seq (TC.region (TO.move rfl dc rfl ?_))
   obtain ⟨r3, hq2, h⟩ := andE h
   refine TO.call (vs := [.int .i32 r1]) rfl dc rfl rfl rfl en_31 (ref04_Split_fn hq2) Splits.nil ?_
   rintro v1
   show TO _ _ _ _ _ _ _ _ _ _ [vec (encI (.i32)) 21 1 v1 r3]
   refine TO.assign rfl dc rfl (TO.nil (TX.next (cut (TC.seq (TC.region (TO.assign rfl dc rfl (TO.nil (TX.next (TC.block ?_)))))))))
   refine TC.loopD (β := Nat × Int) (fun b => loopG (fun _ => none) (law04_FoldRunes_s1 r1 j1 r3) b.1 b.2 = some r) (fun b => []) (fun b => [(0, .int .i32 r1), (1, .int .i32 mark1), (5, v1), (6, .int .i64 b.2)]) (fun b => [vec (encI (.i32)) 21 1 v1 r3]) (fun b => b.1) (fuel, 0) h rfl (Sbs.cons rfl (Sbs.cons rfl (Sbs.cons rfl (Sbs.cons rfl (Sbs.nil))))) (Splits.of [0] kr rfl) ?_
   rintro ⟨n1, round3⟩ h
   cases n1 with
   | zero => exact noneE h
   | succ n1 =>
    obtain ⟨ag1, hag1⟩ : ∃ ag, ag = loopG (fun _ => none) (law04_FoldRunes_s1 r1 j1 r3) n1 := ⟨_, rfl⟩
    have h : law04_FoldRunes_s1 r1 j1 r3 ag1 round3 = some r := by rw [hag1]; exact h
    unfold law04_FoldRunes_s1 at h
    show TC _ _ _ _ _ ([]) _ _ [(0, .int .i32 r1), (1, .int .i32 mark1), (5, v1), (6, .int .i64 round3)] [vec (encI (.i32)) 21 1 v1 r3]
    refine TC.seq (TC.seq (TC.region (TO.move rfl dc rfl (TO.bin rfl dc rfl rfl bin_lss (TO.nil (TX.next ?_))))))
    refine TC.condB rfl (fun hb2 => ?_) (fun hb2 => ?_)
    ·
     have h := condT hb2 h
     refine TC.skip (TX.next ?_)
     obtain ⟨j2, hj2, h⟩ := joinE h
     refine TC.cutN (β := Unit) 0 rfl (fun b => j2 = some r) (fun b => []) (fun b => [(0, .int .i32 r1), (1, .int .i32 mark1), (5, v1), (6, .int .i64 round3)]) (fun b => [vec (encI (.i32)) 21 1 v1 r3]) (fun cut => ?_) ?_
     ·
      refine cut (TC.block (TC.seq (TC.region (TO.move rfl dc rfl ?_))))
      obtain ⟨r4, hq3, h⟩ := andE h
      refine TO.call (vs := [.int .i32 r1]) rfl dc rfl rfl rfl en_15 (fold_Split_fn hq3) Splits.nil ?_
      rintro v2
      show TO _ _ _ _ _ _ _ _ _ _ [vec (encI (.i32)) 21 1 v1 r3, vec (encI (.i32)) 21 1 v2 r4]
      refine TO.assign rfl dc rfl (TO.nil (TX.next (TC.seq (TC.seq (TC.region (TO.move rfl dc rfl (TO.move rfl dc rfl ?_)))))))
      refine TO.vecVw (k := 1) rfl (fun hw1 => ?_)
      refine TO.vecVw (k := 0) rfl (fun hw2 => ?_)
      obtain ⟨r5, hq4, h⟩ := andE h
      refine TO.callK (v := .bool r5) (vs := [v2, v1]) rfl dc rfl rfl rfl en_32 (law04_row_fn hw1 hw2 hq4) [1, 0] kr rfl (TO.un rfl dc rfl un_not (TO.nil (TX.next ?_)))
      refine TC.condB rfl (fun hb3 => ?_) (fun hb3 => ?_)
      ·
       have h := condT hb3 h
       refine TC.seq (TC.region (TO.assign rfl dc rfl (TO.nil (TX.next (TC.ret (TX.thenRet (TX.blockRet (TX.thenRet (TX.thenRet (TX.blockRet (TX.thenRet ?_)))))))))))
       cases h
       exact TX.fin (rs := [.tmp 4]) () (.inl rfl) Try.results8 (.cons (.tmp rfl) .nil) rfl Splits.nil
      ·
       have h := condF hb3 h
       refine TC.skip (TX.next ?_)
       obtain ⟨j3, hj3, h⟩ := joinE h
       refine TC.cutN (β := (List Int)) 0 rfl (fun b => j3 b = some r) (fun b => []) (fun b => [(0, .int .i32 r1), (1, .int .i32 mark1), (5, v1), (6, .int .i64 round3), (7, v2)]) (fun b => [vec (encI (.i32)) 21 1 v1 r3, vec (encI (.i32)) 21 1 v2 b]) (fun cut => ?_) ?_
       ·
        refine cut (TC.seq (TC.region (TO.move rfl dc rfl (TO.lenVec (k := 1) rfl dc rfl rfl Try.underlying25 (TO.move rfl dc rfl (TO.nil (TX.next (TC.block ?_))))))))
        refine TC.loopD (β := Nat × (List Int) × Int) (fun b => loopG (fun _ _ => none) (law04_FoldRunes_s2 r4 j3) b.1 b.2.1 b.2.2 = some r) (fun b => []) (fun b => [(0, .int .i32 r1), (1, .int .i32 mark1), (5, v1), (6, .int .i64 round3), (7, v2), (29, .int .i64 (r4.length : Int)), (30, .int .i64 b.2.2)]) (fun b => [vec (encI (.i32)) 21 1 v1 r3, vec (encI (.i32)) 21 1 v2 b.2.1]) (fun b => b.1) (fuel, r4, 0) h rfl (Sbs.cons rfl (Sbs.cons rfl (Sbs.cons rfl (Sbs.cons rfl (Sbs.cons rfl (Sbs.cons rfl (Sbs.cons rfl (Sbs.nil)))))))) (Splits.of [0, 1] kr rfl) ?_
        rintro ⟨n2, l4, x3⟩ h
        cases n2 with
        | zero => exact noneE h
        | succ n2 =>
         obtain ⟨ag2, hag2⟩ : ∃ ag, ag = loopG (fun _ _ => none) (law04_FoldRunes_s2 r4 j3) n2 := ⟨_, rfl⟩
         have h : law04_FoldRunes_s2 r4 j3 ag2 l4 x3 = some r := by rw [hag2]; exact h
         unfold law04_FoldRunes_s2 at h
         show TC _ _ _ _ _ ([]) _ _ [(0, .int .i32 r1), (1, .int .i32 mark1), (5, v1), (6, .int .i64 round3), (7, v2), (29, .int .i64 (r4.length : Int)), (30, .int .i64 x3)] [vec (encI (.i32)) 21 1 v1 r3, vec (encI (.i32)) 21 1 v2 l4]
         refine TC.seq (TC.region (TO.bin rfl dc rfl rfl bin_lss (TO.nil (TX.next (TC.seq ?_)))))
         refine TC.condB rfl (fun hb4 => ?_) (fun hb4 => ?_)
         ·
          have h := condT hb4 h
          refine TC.skip (TX.next (TC.seq (TC.block (TC.seq (TC.region (TO.move rfl dc rfl (TO.assign rfl dc rfl (TO.nil (TX.next (TC.region (TO.move rfl dc rfl (TO.move rfl dc rfl ?_))))))))))))
          obtain ⟨q1, hq5, h⟩ := andE h
          refine TO.indexVecI (k := 1) hq5 Try.underlying25 sz_21 rfl dc rfl rfl rfl rfl ?_
          refine TO.storeVec (i := (x3 : Int).toNat) (j := 0) (k := 1) (q := q1) (q' := (-7)) sz_21 encI_len rfl rfl rfl rfl (getO_get hq5) rfl dc rfl (fun _ _ => rfl) ?_
          refine TO.nil (TX.blockNormal (TX.next (TC.region ?_)))
          obtain ⟨hg1, h⟩ := grdE h
          refine TO.bin rfl dc rfl rfl (bin_add (r := x3 + 1) (IntWalk.i64_in _ hg1)) (TO.move rfl dc rfl (TO.nil ?_))
          subst hag2
          exact TX.againD (n2, l4.set (x3 : Int).toNat (-7), x3 + 1) h (Nat.lt_succ_self _) rfl (Sbs.cons rfl (Sbs.cons rfl (Sbs.cons rfl (Sbs.cons rfl (Sbs.cons rfl (Sbs.cons rfl (Sbs.cons rfl (Sbs.nil)))))))) (Splits.of [0, 1] kr rfl)
         ·
          have h := condF hb4 h
          refine TC.exit (TX.thenExit (TX.thenExit (TX.blockHere ?_)))
          exact TX.meetD l4 h rfl (Sbs.cons rfl (Sbs.cons rfl (Sbs.cons rfl (Sbs.cons rfl (Sbs.cons rfl (Sbs.nil)))))) (Splits.of [0, 1] kr rfl)
       ·
        rintro l1 h
        rw [hj3] at h
        show TC _ _ _ _ _ ([]) _ _ [(0, .int .i32 r1), (1, .int .i32 mark1), (5, v1), (6, .int .i64 round3), (7, v2)] [vec (encI (.i32)) 21 1 v1 r3, vec (encI (.i32)) 21 1 v2 l1]
        refine TC.seq (TC.region (TO.move rfl dc rfl ?_))
        refine TO.buildSlice (cs := [.int .i32 (-7), .int .i32 (-7), .int .i32 (-7)]) (te := 21) (ps := [(0, .const (.int .i32 (-7))), (1, .const (.int .i32 (-7))), (2, .const (.int .i32 (-7)))]) rfl dc rfl (fun _ => by kernel_rfl) (fun b1 => ?_)
        obtain ⟨hg2, h⟩ := grdE h
        refine TO.appendVec (k := 1) (k2 := 2) (ys := [(-7), (-7), (-7)]) Try.underlying25 el_21 encI_len encI_one rfl dc rfl rfl rfl rfl rfl rfl hg2 (fun v3 => ?_)
        show TO _ _ _ _ _ _ _ _ _ _ [vec (encI (.i32)) 21 1 v1 r3, vec (encI (.i32)) 21 1 v3 (l1 ++ [(-7), (-7), (-7)]), cells b1 [.int .i32 (-7), .int .i32 (-7), .int .i32 (-7)] 21]
        refine TO.assign rfl dc rfl (TO.nil (TX.next (TC.seq (TC.region (TO.move rfl dc rfl ?_)))))
        obtain ⟨q2, hq6, h⟩ := andE h
        refine TO.indexVecI (k := 1) hq6 Try.underlying25 sz_21 rfl dc rfl rfl rfl rfl (TO.loadVec (i := (0 : Int).toNat) (j := 0) (k := 1) (q := q2) sc_21 encI_len rfl dc rfl rfl (getO_get hq6) rfl dc rfl (TO.bin rfl dc rfl rfl bin_neq (TO.nil (TX.next ?_))))
        refine TC.condB rfl (fun hb5 => ?_) (fun hb5 => ?_)
        ·
         have h := condT hb5 h
         refine TC.seq (TC.region (TO.assign rfl dc rfl (TO.nil (TX.next (TC.ret (TX.blockRet (TX.thenRet (TX.thenRet (TX.blockRet (TX.thenRet ?_))))))))))
         cases h
         exact TX.fin (rs := [.tmp 4]) () (.inl rfl) Try.results8 (.cons (.tmp rfl) .nil) rfl Splits.nil
        ·
         have h := condF hb5 h
         refine TC.skip (TX.blockNormal ?_)
         exact TX.meetD () h rfl (Sbs.cons rfl (Sbs.cons rfl (Sbs.cons rfl (Sbs.cons rfl (Sbs.nil))))) (Splits.of [0] kr rfl)
     ·
      rintro _ h
      rw [hj2] at h
      show TC _ _ _ _ _ ([]) _ _ [(0, .int .i32 r1), (1, .int .i32 mark1), (5, v1), (6, .int .i64 round3)] [vec (encI (.i32)) 21 1 v1 r3]
      refine TC.region (TO.move rfl dc rfl ?_)
      obtain ⟨hg3, h⟩ := grdE h
      refine TO.bin rfl dc rfl rfl (bin_add (r := round3 + 1) (IntWalk.i64_in _ hg3)) (TO.assign rfl dc rfl (TO.nil ?_))
      subst hag1
      exact TX.againD (n1, round3 + 1) h (Nat.lt_succ_self _) rfl (Sbs.cons rfl (Sbs.cons rfl (Sbs.cons rfl (Sbs.cons rfl (Sbs.nil))))) (Splits.of [0] kr rfl)
    ·
     have h := condF hb2 h
     refine TC.exit (TX.thenExit (TX.thenExit (TX.blockHere ?_)))
     exact TX.meetD () h rfl (Sbs.cons rfl (Sbs.cons rfl (Sbs.nil))) Splits.nil
  ·
   rintro _ h
   rw [hj1] at h
   show TC _ _ _ _ _ ([]) _ _ [(0, .int .i32 r1), (1, .int .i32 mark1)] []
   obtain ⟨j4, hj4, h⟩ := joinE h
   refine TC.cutN (β := Unit) 0 rfl (fun b => j4 = some r) (fun b => []) (fun b => [(0, .int .i32 r1), (1, .int .i32 mark1)]) (fun b => []) (fun cut => ?_) ?_
   ·
    refine cut (TC.seq (TC.region (TO.move rfl dc rfl ?_)))
    refine TO.build (v := .agg #[.int .i32 mark1, .int .i32 769, .int .i32 776]) (ps := [(0, .tmp 44), (1, .const (.int .i32 769)), (2, .const (.int .i32 776))]) rfl dc rfl (fun _ => by kernel_rfl) ?_
    refine TO.move rfl dc rfl (TO.nil (TX.next (TC.block ?_)))
    refine TC.loopD (β := Nat × Int) (fun b => loopG (fun _ => none) (law04_FoldRunes_s3 r1 mark1 j4) b.1 b.2 = some r) (fun b => []) (fun b => [(0, .int .i32 r1), (1, .int .i32 mark1), (45, .agg #[.int .i32 mark1, .int .i32 769, .int .i32 776]), (46, .int .i64 b.2)]) (fun b => []) (fun b => b.1) (fuel, 0) h rfl (Sbs.cons rfl (Sbs.cons rfl (Sbs.cons rfl (Sbs.cons rfl (Sbs.nil))))) Splits.nil ?_
    rintro ⟨n3, x6⟩ h
    cases n3 with
    | zero => exact noneE h
    | succ n3 =>
     obtain ⟨ag3, hag3⟩ : ∃ ag, ag = loopG (fun _ => none) (law04_FoldRunes_s3 r1 mark1 j4) n3 := ⟨_, rfl⟩
     have h : law04_FoldRunes_s3 r1 mark1 j4 ag3 x6 = some r := by rw [hag3]; exact h
     unfold law04_FoldRunes_s3 at h
     show TC _ _ _ _ _ ([]) _ _ [(0, .int .i32 r1), (1, .int .i32 mark1), (45, .agg #[.int .i32 mark1, .int .i32 769, .int .i32 776]), (46, .int .i64 x6)] []
     refine TC.seq (TC.region (TO.bin rfl dc rfl rfl bin_lss (TO.nil (TX.next (TC.seq ?_)))))
     refine TC.condB rfl (fun hb6 => ?_) (fun hb6 => ?_)
     ·
      have h := condT hb6 h
      refine TC.skip (TX.next (TC.seq (TC.block (TC.seq (TC.region ?_)))))
      obtain ⟨q3, hq7, h⟩ := andE h
      refine TO.index (v := .int .i32 q3) rfl dc rfl rfl (index_arr (enc := (encI (.i32))) (xs := ([mark1, 769, 776] : List Int)) (q := q3) Try.underlying49 sz_21 rfl encI_len hq7 (fun _ => part_arr (enc := (encI (.i32))) sc_21 encI_len rfl (getO_get hq7))) ?_
      refine TO.assign rfl dc rfl (TO.nil (TX.next (TC.seq (TC.region (TO.move rfl dc rfl (TO.move rfl dc rfl ?_))))))
      obtain ⟨r6, hq8, h⟩ := andE h
      refine TO.callP (v := .tuple #[.int .i32 r6.1, .bool r6.2]) (vs := [.int .i32 r1, .int .i32 q3]) rfl dc rfl rfl rfl en_33 (fold_Join_fn hq8) (TO.move rfl dc rfl (TO.extract rfl dc rfl rfl (TO.extract rfl dc rfl rfl (TO.assign rfl dc rfl (TO.assign rfl dc rfl (TO.nil (TX.next (TC.seq (TC.region (TO.move rfl dc rfl (TO.move rfl dc rfl ?_)))))))))))
      obtain ⟨r7, hq9, h⟩ := andE h
      refine TO.callP (v := .int .i32 r7) (vs := [.int .i32 r1, .int .i32 q3]) rfl dc rfl rfl rfl en_34 (ref04_Join_fn hq9) (TO.assign rfl dc rfl (TO.nil (TX.next (TC.seq (TC.region (TO.move rfl dc rfl (TO.move rfl dc rfl (TO.bin rfl dc rfl rfl bin_neq (TO.move rfl dc rfl ?_)))))))))
      refine TO.split (s := 61) rfl (fun hb7 => ?_) (fun hb7 => ?_)
      ·
       have h := condT hb7 h
       refine TO.skip rfl dc (TO.skip rfl dc (TO.skip rfl dc (TO.skip rfl dc (TO.pick (b := true) rfl dc rfl rfl (TO.nil (TX.next (TC.condT rfl (TC.seq (TC.region (TO.assign rfl dc rfl (TO.nil (TX.next (TC.ret ?_)))))))))))))
       refine TX.blockRet (TX.thenRet (TX.thenRet (TX.blockRet (TX.thenRet ?_))))
       cases h
       exact TX.fin (rs := [.tmp 4]) () (.inl rfl) Try.results8 (.cons (.tmp rfl) .nil) rfl Splits.nil
      ·
       have h := condF hb7 h
       refine TO.move rfl dc rfl (TO.move rfl dc rfl (TO.bin rfl dc rfl rfl bin_neq (TO.bin rfl dc rfl rfl (bin_boolneq Try.underlying4) (TO.pick (b := false) rfl dc rfl rfl (TO.nil (TX.next ?_))))))
       refine TC.condB rfl (fun hb8 => ?_) (fun hb8 => ?_)
       ·
        have h := condT hb8 h
        refine TC.seq (TC.region (TO.assign rfl dc rfl (TO.nil (TX.next (TC.ret (TX.blockRet (TX.thenRet (TX.thenRet (TX.blockRet (TX.thenRet ?_))))))))))
        cases h
        exact TX.fin (rs := [.tmp 4]) () (.inl rfl) Try.results8 (.cons (.tmp rfl) .nil) rfl Splits.nil
       ·
        have h := condF hb8 h
        refine TC.skip (TX.blockNormal (TX.next (TC.region ?_)))
        obtain ⟨hg4, h⟩ := grdE h
        refine TO.bin rfl dc rfl rfl (bin_add (r := x6 + 1) (IntWalk.i64_in _ hg4)) (TO.move rfl dc rfl (TO.nil ?_))
        subst hag3
        exact TX.againD (n3, x6 + 1) h (Nat.lt_succ_self _) rfl (Sbs.cons rfl (Sbs.cons rfl (Sbs.cons rfl (Sbs.cons rfl (Sbs.nil))))) Splits.nil
     ·
      have h := condF hb6 h
      refine TC.exit (TX.thenExit (TX.thenExit (TX.blockHere ?_)))
      exact TX.meetD () h rfl (Sbs.cons rfl (Sbs.cons rfl (Sbs.nil))) Splits.nil
   ·
    rintro _ h
    rw [hj4] at h
    show TC _ _ _ _ _ ([]) _ _ [(0, .int .i32 r1), (1, .int .i32 mark1)] []
    refine TC.seq (TC.region (TO.move rfl dc rfl ?_))
    obtain ⟨r8, hq10, h⟩ := andE h
    refine TO.callP (v := .bool r8) (vs := [.int .i32 r1]) rfl dc rfl rfl rfl en_35 (fold_Low_fn hq10) (TO.move rfl dc rfl ?_)
    obtain ⟨r9, hq11, h⟩ := andE h
    refine TO.callP (v := .bool r9) (vs := [.int .i32 r1]) rfl dc rfl rfl rfl en_36 (ref04_Low_fn hq11) (TO.bin rfl dc rfl rfl (bin_booleql Try.underlying4) (TO.move rfl dc rfl ?_))
    refine TO.split (s := 73) rfl (fun hb9 => ?_) (fun hb9 => ?_)
    ·
     have h := condT hb9 h
     refine TO.move rfl dc rfl ?_
     obtain ⟨r10, hq12, h⟩ := andE h
     refine TO.callP (v := .bool r10) (vs := [.int .i32 mark1]) rfl dc rfl rfl rfl en_35 (fold_Low_fn hq12) (TO.move rfl dc rfl ?_)
     obtain ⟨r11, hq13, h⟩ := andE h
     refine TO.callP (v := .bool r11) (vs := [.int .i32 mark1]) rfl dc rfl rfl rfl en_36 (ref04_Low_fn hq13) (TO.bin rfl dc rfl rfl (bin_booleql Try.underlying4) (TO.pick (b := true) rfl dc rfl rfl (TO.move rfl dc rfl ?_)))
     refine TO.split (s := 80) rfl (fun hb10 => ?_) (fun hb10 => ?_)
     ·
      have h := condT hb10 h
      refine TO.move rfl dc rfl ?_
      obtain ⟨r12, hq14, h⟩ := andE h
      refine TO.callP (v := .string r12) (vs := [.int .i32 r1]) rfl dc rfl rfl rfl en_37 (fold_FoldRune_fn hq14) (TO.move rfl dc rfl (TO.conv rfl dc rfl (conv_rune Try.underlying21 Try.underlying9) ?_))
      obtain ⟨r13, hq15, h⟩ := andE h
      refine TO.callP (v := .string r13) (vs := [.string (Utf8.encode r1)]) rfl dc rfl rfl rfl en_14 (ref04_Fold_fn hq15) (TO.bin rfl dc rfl rfl bin_seql (TO.pick (b := true) rfl dc rfl rfl (TO.move rfl dc rfl ?_)))
      refine TO.split (s := 88) rfl (fun hb11 => ?_) (fun hb11 => ?_)
      ·
       have h := condT hb11 h
       obtain ⟨r14, hq16, h⟩ := andE h
       refine TO.callP (v := .bool r14) (vs := []) rfl dc rfl rfl rfl en_12 (law04_wakes_fn hq16) (TO.pick (b := true) rfl dc rfl rfl (TO.assign rfl dc rfl (TO.nil (TX.next (TC.ret ?_)))))
       cases h
       exact TX.fin (rs := [.tmp 4]) () (.inl rfl) Try.results8 (.cons (.tmp rfl) .nil) rfl Splits.nil
      ·
       have h := condF hb11 h
       refine TO.skip rfl dc (TO.pick (b := false) rfl dc rfl rfl (TO.assign rfl dc rfl (TO.nil (TX.next (TC.ret ?_)))))
       cases h
       exact TX.fin (rs := [.tmp 4]) () (.inl rfl) Try.results8 (.cons (.tmp rfl) .nil) rfl Splits.nil
     ·
      have h := condF hb10 h
      refine TO.skip rfl dc (TO.skip rfl dc (TO.skip rfl dc (TO.skip rfl dc (TO.skip rfl dc (TO.skip rfl dc (TO.pick (b := false) rfl dc rfl rfl (TO.move rfl dc rfl (TO.skip rfl dc (TO.pick (b := false) rfl dc rfl rfl (TO.assign rfl dc rfl (TO.nil (TX.next (TC.ret ?_)))))))))))))
      cases h
      exact TX.fin (rs := [.tmp 4]) () (.inl rfl) Try.results8 (.cons (.tmp rfl) .nil) rfl Splits.nil
    ·
     have h := condF hb9 h
     refine TO.skip rfl dc (TO.skip rfl dc (TO.skip rfl dc (TO.skip rfl dc (TO.skip rfl dc (TO.pick (b := false) rfl dc rfl rfl (TO.move rfl dc rfl (TO.skip rfl dc (TO.skip rfl dc (TO.skip rfl dc (TO.skip rfl dc (TO.skip rfl dc (TO.skip rfl dc (TO.pick (b := false) rfl dc rfl rfl ?_)))))))))))))
     refine TO.move rfl dc rfl (TO.skip rfl dc (TO.pick (b := false) rfl dc rfl rfl (TO.assign rfl dc rfl (TO.nil (TX.next (TC.ret ?_))))))
     cases h
     exact TX.fin (rs := [.tmp 4]) () (.inl rfl) Try.results8 (.cons (.tmp rfl) .nil) rfl Splits.nil
end Go.Proofs.Ythjkafeklflgbaa
namespace Go.Proofs.Ythjkafeklflgbaa
open Go.RowKit Go.Lib
set_option linter.unusedVariables false
set_option linter.unusedSimpArgs false
set_option maxRecDepth 100000 in
theorem tabP_pos0 : (tabP.all fun p => decide (0 < p.2)) = true := by decide +kernel
theorem tabP_pos {b m j : Int} (h : joined b m = some j) : 0 < j := of_decide_eq_true (List.all_eq_true.1 tabP_pos0 _ (getM_mem h))
theorem foldRunes_v (r mark : Int) : law04_FoldRunes_v r mark = some true := by
  unfold law04_FoldRunes_v
  refine thenI wakes_v (condFI rfl (joinI (thenI (rsplit_v r) ?_)))
  have hp := parts_len r
  -- the rounds
  have round : ∀ (X : Option Bool) (ag : Int → Option Bool) (k : Nat), k < 2 → law04_FoldRunes_s1 r X (parts r) ag (k : Int) = ag ((k : Int) + 1) := by
    intro X ag k hk
    unfold law04_FoldRunes_s1
    refine condTI (decide_eq_true (by omega)) (joinI (thenI (split_v r) (thenI (row_v _ (by omega)) (condFI rfl (joinI ?_)))))
    refine (set_all (parts r) (-7) (J := fun (l1 : List Int) => grd (l1.length + 3 ≤ 2147483648) <| andThen (getO (l1 ++ [(-7), (-7), (-7)]) 0) fun (q2 : Int) => bcond ((q2 : Int) != (-7)) (some false) (grd (I64 ((k : Int) + 1)) <| ag ((k : Int) + 1))) ?_ ?_ (big_fuel (by omega))).trans ?_
    · intro ag2 j l hj hl
      have hx : l[j]? = some l[j] := List.getElem?_eq_getElem (by omega)
      unfold law04_FoldRunes_s2
      exact condTI (decide_eq_true (by omega)) (thenI (lp_get hx) (grdI (lp_i64 (by omega)) (by simp)))
    · intro ag2 l; unfold law04_FoldRunes_s2; exact condFI lp_ge rfl
    · refine grdI (by simp; omega) (thenI (a := -7) ?_ (condFI rfl (grdI (lp_i64 (by omega)) rfl)))
      obtain ⟨m, hm⟩ : ∃ m, (parts r).length = m + 1 := ⟨(parts r).length - 1, by omega⟩
      rw [hm, List.replicate_succ]; rfl
  have r0 : ∀ X ag, law04_FoldRunes_s1 r X (parts r) ag 0 = ag 1 := fun X ag => round X ag 0 (by omega)
  have r1 : ∀ X ag, law04_FoldRunes_s1 r X (parts r) ag 1 = ag 2 := fun X ag => round X ag 1 (by omega)
  have r2 : ∀ (X : Option Bool) (ag : Int → Option Bool), law04_FoldRunes_s1 r X (parts r) ag 2 = X := fun X ag => by unfold law04_FoldRunes_s1; exact condFI (by decide) rfl
  have key : ∀ X : Option Bool, loopG (fun _ => none) (law04_FoldRunes_s1 r X (parts r)) fuel 0 = X := by
    intro X
    obtain ⟨n, hn, _⟩ := fuel_eq 3 (by omega)
    rw [hn, loopI, r0, loopI, r1, loopI, r2]
  rw [key]
  refine joinI ?_
  -- the marks
  have marks : ∀ (X : Option Bool), loopG (fun _ => none) (law04_FoldRunes_s3 r mark X) fuel 0 = X := by
    intro X
    have := seek (xs := ([mark, 769, 776] : List Int)) (F := law04_FoldRunes_s3 r mark X) (bot := fun _ => none) (g := fun _ => none) (J := X) (fun ag k x hx => by
      have hk : k < 3 := lp_lt' hx
      unfold law04_FoldRunes_s3
      refine condTI (decide_eq_true (by omega)) (thenI (lp_get hx) (thenI (pjoin_v r x) (thenI (rjoin_v r x) (condFI (by simp) (condFI ?_ (grdI (lp_i64 (by omega)) rfl))))))
      cases hj : joined r x with
      | none => rfl
      | some j =>
        have h0 := tabP_pos hj
        have : (((some j : Option Int).getD 0 : Int) != 0) = true := by rw [Option.getD_some, bne_iff_ne]; omega
        rw [this]; rfl) (fun ag => by unfold law04_FoldRunes_s3; exact condFI (decide_eq_false (by show ¬ ((3 : Nat) : Int) < 3; omega)) rfl) (n := fuel) (big_fuel (by show (3 : Nat) ≤ 4611686018427387904; omega))
    rw [this]; rfl
  rw [marks]
  have he := enc_size4 r
  exact thenI (low_v r) (thenI (rlow_v r) (condTI (beq_self_eq_true _) (thenI (low_v mark) (thenI (rlow_v mark) (condTI (beq_self_eq_true _) (thenI (foldRune_v r) (thenI (rfold_v _ (by omega)) (condTI (decide_eq_true rfl) (thenI wakes_v rfl)))))))))
theorem foldRunes_any (r m : Int) (w : World) (h1 : -2147483648 ≤ r) (h2 : r ≤ 2147483647) (h3 : -2147483648 ≤ m) (h4 : m ≤ 2147483647) : Calls Try.prog 8 #[.int .i32 r, .int .i32 m] w fun e w' => e = .returned (.bool true) ∧ Below w.heap.size w w' :=
  law04_FoldRunes_fn (foldRunes_v r m) w
end Go.Proofs.Ythjkafeklflgbaa
