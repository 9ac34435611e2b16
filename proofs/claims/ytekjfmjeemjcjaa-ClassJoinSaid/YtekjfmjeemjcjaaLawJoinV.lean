/-
  canticlelaw03.seam and the law ClassJoin. Nothing is assumed.
-/
import Derived.Test.YtekjfmjeemjcjaaC1
import Derived.Test.YtekjfmjeemjcjaaJoin
namespace Go.Proofs.Ytekjfmjeemjcjaa
open Go.RowKit Go.Lib
set_option linter.unusedVariables false
set_option linter.unusedSimpArgs false
def seamB (a b : ByteArray) : Bool := (pcs (a ++ b).data.toList).any fun p => decide (p.i < a.size) && decide (a.size < p.i + p.w)
theorem seam_none (a b : ByteArray) (h : seamB a b = false) : ∀ p ∈ pcs (a ++ b).data.toList, ¬ (p.i < a.size ∧ a.size < p.i + p.w) := by
  unfold seamB at h
  rw [List.any_eq_false] at h
  intro p hp hh
  exact h p hp (by simp; exact hh)
theorem low_p (s : ByteArray) (hs : s.size ≤ 2147483647) : FnP Try.prog 25 [.string s] (.string (lowText s)) := fun w => lowText_any s w hs
set_option maxRecDepth 100000 in
set_option maxHeartbeats 4000000 in
theorem seam_p (a b : ByteArray) (hs : a.size + b.size ≤ 2147483647) : FnP Try.prog 22 [.string a, .string b] (.bool (seamB a b)) := by
  refine FnP.intro Try.func22 rfl Try.ntmps22 (by simp) ?_
  intro w0 K
  refine TC.seq ?_
  refine TC.region ?_
  refine TO.assign rfl (by decide) rfl ?_
  refine TO.nil ?_
  refine TX.next ?_
  refine TC.seq ?_
  refine TC.region ?_
  refine TO.move rfl (by decide) rfl ?_
  refine TO.move rfl (by decide) rfl ?_
  refine TO.bin rfl (by decide) rfl rfl (bin_sadd (by omega)) ?_
  refine TO.call (vs := [.string (a ++ b)]) rfl (by decide) rfl rfl rfl en_23 (rpieces_fn (a ++ b) (by simp only [ByteArray.size_append]; omega)) Splits.nil ?_
  rintro l
  show TO _ _ _ _ _ _ _ _ _ _ [vec pcV 47 4 l (pcs (a ++ b).data.toList)]
  refine TO.assign rfl (by decide) rfl ?_
  refine TO.nil ?_
  refine TX.next ?_
  refine TC.seq ?_
  refine TC.seq ?_
  refine TC.region ?_
  refine TO.assign rfl (by decide) rfl ?_
  refine TO.nil ?_
  refine TX.next ?_
  refine TC.block ?_
  refine TC.loop (β := Nat) (fun k => k ≤ (pcs (a ++ b).data.toList).length ∧ ∀ q ∈ (pcs (a ++ b).data.toList).take k, ¬ (q.i < a.size ∧ a.size < q.i + q.w)) (fun k => [(0, .string a), (5, l), (6, .int .i64 (k : Int))]) (fun k => [vec pcV 47 4 l (pcs (a ++ b).data.toList)]) (fun k => (pcs (a ++ b).data.toList).length - k) 0 ⟨Nat.zero_le _, by simp⟩ (Sbs.cons rfl (Sbs.cons rfl (Sbs.cons rfl (Sbs.nil)))) (Splits.of [0] (by as_aux_lemma => kernel_rfl) rfl) ?_
  rintro k hI
  show TC _ _ _ _ _ _ _ _ [(0, .string a), (5, l), (6, .int .i64 (k : Int))] [vec pcV 47 4 l (pcs (a ++ b).data.toList)]
  obtain ⟨hk, hno⟩ := hI
  have hk : k ≤ (pcs (a ++ b).data.toList).length := hk
  have hlen := pcs_len (a ++ b)
  rw [ByteArray.size_append] at hlen
  by_cases hlt : k < (pcs (a ++ b).data.toList).length
  ·
    obtain ⟨p, hp⟩ : ∃ p, (pcs (a ++ b).data.toList)[k]? = some p := ⟨_, List.getElem?_eq_getElem hlt⟩
    have hmem : p ∈ pcs (a ++ b).data.toList := List.mem_of_getElem? hp
    have hv := pcs_valid _ p hmem
    have hend : p.i + p.w ≤ (a ++ b).size := by simpa using (pcs_pos _ p hmem).2.1
    rw [ByteArray.size_append] at hend
    by_cases q1 : p.i < a.size
    ·
      by_cases q2 : a.size < p.i + p.w
      ·
        refine TC.seq ?_
        refine TC.seq ?_
        refine TC.region ?_
        refine TO.move rfl (by decide) rfl ?_
        refine TO.move rfl (by decide) rfl ?_
        refine TO.lenVec (k := 0) rfl (by decide) rfl rfl Try.underlying43 ?_
        refine TO.bin rfl (by decide) rfl rfl (bin_known (congrArg Value.bool (show (decide (((k : Int) : Int) < ((pcs (a ++ b).data.toList).length : Int))) = true from (decide_eq_true (by omega)))) bin_lss) ?_
        refine TO.nil ?_
        refine TX.next ?_
        refine TC.condT rfl ?_
        refine TC.skip ?_
        refine TX.next ?_
        refine TC.seq ?_
        refine TC.block ?_
        refine TC.seq ?_
        refine TC.drawN 22 [(0, 17, l), (1, 18, .int .i64 (k : Int)), (2, 19, .pointer (some ⟨vblk l, k * 4, none⟩)), (3, 20, .pointer (some ⟨vblk l, k * 4, none⟩)), (4, 21, .int .i64 (p.i : Int)), (5, 22, .string a), (6, 23, .int .i64 (a.size : Int)), (7, 24, .bool true), (8, 25, .bool true), (9, 26, l), (10, 27, .int .i64 (k : Int)), (11, 28, .pointer (some ⟨vblk l, k * 4, none⟩)), (12, 29, .pointer (some ⟨vblk l, k * 4, none⟩)), (13, 30, .int .i64 (p.i : Int)), (14, 31, l), (15, 32, .int .i64 (k : Int)), (16, 33, .pointer (some ⟨vblk l, k * 4, none⟩)), (17, 34, .pointer (some ⟨vblk l, k * 4 + 1, none⟩)), (18, 35, .int .i64 (p.w : Int)), (19, 36, .int .i64 ((p.i : Int) + (p.w : Int))), (20, 37, .string a), (21, 38, .int .i64 (a.size : Int))] mixed (by as_aux_lemma => kernel_rfl) (by as_aux_lemma => kernel_rfl) (by decide) (by rfl) (by as_aux_lemma => kernel_rfl) (by as_aux_lemma => kernel_rfl) (DrawPre.cons ?_ (DrawPre.cons ?_ (DrawPre.cons ?_ (DrawPre.cons ?_ (DrawPre.cons ?_ (DrawPre.cons ?_ (DrawPre.cons ?_ (DrawPre.cons ?_ (DrawPre.cons ?_ (DrawPre.cons ?_ (DrawPre.cons ?_ (DrawPre.cons ?_ (DrawPre.cons ?_ (DrawPre.cons ?_ (DrawPre.cons ?_ (DrawPre.cons ?_ (DrawPre.cons ?_ (DrawPre.cons ?_ (DrawPre.cons ?_ (DrawPre.cons ?_ (DrawPre.cons ?_ (DrawPre.cons ?_ DrawPre.nil)))))))))))))))))))))) ?_
        · intro D hn hd hcl hu hi
          refine TO.move rfl (by decide) (dl_old (by rfl) rfl) ?_
          exact TX.quiet 0 hu hi rfl
        · intro D hn hd hcl hu hi
          refine TO.move rfl (by decide) (dl_old (by rfl) rfl) ?_
          exact TX.quiet 1 hu hi rfl
        · intro D hn hd hcl hu hi
          refine TO.indexVec (i := k) (k := 0) Try.underlying43 sz_47 rfl (by decide) (dl_lookup (m := 0) hu rfl (hd 0 (by decide))) (dl_lookup (m := 1) hu rfl (hd 1 (by decide))) rfl (by omega) rfl ?_
          exact TX.quiet 2 hu hi rfl
        · intro D hn hd hcl hu hi
          refine TO.fieldAddr fl_47_0 rfl (by decide) (dl_lookup (m := 2) hu rfl (hd 2 (by decide))) (show _ = k * 4 from rfl) ?_
          exact TX.quiet 3 hu hi rfl
        · intro D hn hd hcl hu hi
          refine TO.loadVec (i := k) (j := 0) (k := 0) (q := p) sc_3 pcV_len rfl (by decide) (dl_lookup (m := 3) hu rfl (hd 3 (by decide))) rfl hp rfl (by decide) rfl ?_
          exact TX.quiet 4 hu hi rfl
        · intro D hn hd hcl hu hi
          refine TO.move rfl (by decide) (dl_old (by rfl) rfl) ?_
          exact TX.quiet 5 hu hi rfl
        · intro D hn hd hcl hu hi
          refine TO.lenStr rfl (by decide) (dl_lookup (m := 5) hu rfl (hd 5 (by decide))) Try.underlying9 ?_
          exact TX.quiet 6 hu hi rfl
        · intro D hn hd hcl hu hi
          refine TO.bin rfl (by decide) (dl_lookup (m := 4) hu rfl (hd 4 (by decide))) (dl_lookup (m := 6) hu rfl (hd 6 (by decide))) (bin_known (congrArg Value.bool (show (decide (((p.i : Int) : Int) < (a.size : Int))) = true from (decide_eq_true (by omega)))) bin_lss) ?_
          exact TX.quiet 7 hu hi rfl
        · intro D hn hd hcl hu hi
          refine TO.move rfl (by decide) (dl_lookup (m := 7) hu rfl (hd 7 (by decide))) ?_
          exact TX.quiet 8 hu hi rfl
        · intro D hn hd hcl hu hi
          refine TO.move (gd_T rfl (dl_lookup (m := 8) hu rfl (hd 8 (by decide)))) (by decide) (dl_old (by rfl) rfl) ?_
          exact TX.quiet 9 hu hi rfl
        · intro D hn hd hcl hu hi
          refine TO.move (gd_T rfl (dl_lookup (m := 8) hu rfl (hd 8 (by decide)))) (by decide) (dl_old (by rfl) rfl) ?_
          exact TX.quiet 10 hu hi rfl
        · intro D hn hd hcl hu hi
          refine TO.indexVec (i := k) (k := 0) Try.underlying43 sz_47 (gd_T rfl (dl_lookup (m := 8) hu rfl (hd 8 (by decide)))) (by decide) (dl_lookup (m := 9) hu rfl (hd 9 (by decide))) (dl_lookup (m := 10) hu rfl (hd 10 (by decide))) rfl (by omega) rfl ?_
          exact TX.quiet 11 hu hi rfl
        · intro D hn hd hcl hu hi
          refine TO.fieldAddr fl_47_0 (gd_T rfl (dl_lookup (m := 8) hu rfl (hd 8 (by decide)))) (by decide) (dl_lookup (m := 11) hu rfl (hd 11 (by decide))) (show _ = k * 4 from rfl) ?_
          exact TX.quiet 12 hu hi rfl
        · intro D hn hd hcl hu hi
          refine TO.loadVec (i := k) (j := 0) (k := 0) (q := p) sc_3 pcV_len (gd_T rfl (dl_lookup (m := 8) hu rfl (hd 8 (by decide)))) (by decide) (dl_lookup (m := 12) hu rfl (hd 12 (by decide))) rfl hp rfl (by decide) rfl ?_
          exact TX.quiet 13 hu hi rfl
        · intro D hn hd hcl hu hi
          refine TO.move (gd_T rfl (dl_lookup (m := 8) hu rfl (hd 8 (by decide)))) (by decide) (dl_old (by rfl) rfl) ?_
          exact TX.quiet 14 hu hi rfl
        · intro D hn hd hcl hu hi
          refine TO.move (gd_T rfl (dl_lookup (m := 8) hu rfl (hd 8 (by decide)))) (by decide) (dl_old (by rfl) rfl) ?_
          exact TX.quiet 15 hu hi rfl
        · intro D hn hd hcl hu hi
          refine TO.indexVec (i := k) (k := 0) Try.underlying43 sz_47 (gd_T rfl (dl_lookup (m := 8) hu rfl (hd 8 (by decide)))) (by decide) (dl_lookup (m := 14) hu rfl (hd 14 (by decide))) (dl_lookup (m := 15) hu rfl (hd 15 (by decide))) rfl (by omega) rfl ?_
          exact TX.quiet 16 hu hi rfl
        · intro D hn hd hcl hu hi
          refine TO.fieldAddr fl_47_1 (gd_T rfl (dl_lookup (m := 8) hu rfl (hd 8 (by decide)))) (by decide) (dl_lookup (m := 16) hu rfl (hd 16 (by decide))) (show _ = k * 4 + 1 from rfl) ?_
          exact TX.quiet 17 hu hi rfl
        · intro D hn hd hcl hu hi
          refine TO.loadVec (i := k) (j := 1) (k := 0) (q := p) sc_3 pcV_len (gd_T rfl (dl_lookup (m := 8) hu rfl (hd 8 (by decide)))) (by decide) (dl_lookup (m := 17) hu rfl (hd 17 (by decide))) rfl hp rfl (by decide) rfl ?_
          exact TX.quiet 18 hu hi rfl
        · intro D hn hd hcl hu hi
          refine TO.bin (gd_T rfl (dl_lookup (m := 8) hu rfl (hd 8 (by decide)))) (by decide) (dl_lookup (m := 13) hu rfl (hd 13 (by decide))) (dl_lookup (m := 18) hu rfl (hd 18 (by decide))) (bin_add (r := (p.i : Int) + (p.w : Int)) (IntWalk.i64_in _ (by omega))) ?_
          exact TX.quiet 19 hu hi rfl
        · intro D hn hd hcl hu hi
          refine TO.move (gd_T rfl (dl_lookup (m := 8) hu rfl (hd 8 (by decide)))) (by decide) (dl_old (by rfl) rfl) ?_
          exact TX.quiet 20 hu hi rfl
        · intro D hn hd hcl hu hi
          refine TO.lenStr (gd_T rfl (dl_lookup (m := 8) hu rfl (hd 8 (by decide)))) (by decide) (dl_lookup (m := 20) hu rfl (hd 20 (by decide))) Try.underlying9 ?_
          exact TX.quiet 21 hu hi rfl
        refine TO.bin rfl (by decide) rfl rfl (bin_known (congrArg Value.bool (show (decide (((a.size : Int) : Int) < ((p.i : Int) + (p.w : Int)))) = true from (decide_eq_true (by omega)))) bin_gtr) ?_
        refine TO.pick (b := true) rfl (by decide) rfl rfl ?_
        refine TO.nil ?_
        refine TX.next ?_
        refine TC.condT rfl ?_
        refine TC.seq ?_
        refine TC.region ?_
        refine TO.assign rfl (by decide) rfl ?_
        refine TO.nil ?_
        refine TX.next ?_
        refine TC.ret ?_
        refine TX.blockRet ?_
        refine TX.thenRet ?_
        refine TX.thenRet ?_
        refine TX.blockRet ?_
        refine TX.thenRet ?_
        have hfin : seamB a b = true := by unfold seamB; rw [List.any_eq_true]; exact ⟨p, hmem, by simp; omega⟩
        exact TX.fin (rs := [.tmp 4]) () (.inl rfl) Try.results22 (.cons (.tmp rfl) .nil) (by rw [hfin]; rfl) Splits.nil
      ·
        refine TC.seq ?_
        refine TC.seq ?_
        refine TC.region ?_
        refine TO.move rfl (by decide) rfl ?_
        refine TO.move rfl (by decide) rfl ?_
        refine TO.lenVec (k := 0) rfl (by decide) rfl rfl Try.underlying43 ?_
        refine TO.bin rfl (by decide) rfl rfl (bin_known (congrArg Value.bool (show (decide (((k : Int) : Int) < ((pcs (a ++ b).data.toList).length : Int))) = true from (decide_eq_true (by omega)))) bin_lss) ?_
        refine TO.nil ?_
        refine TX.next ?_
        refine TC.condT rfl ?_
        refine TC.skip ?_
        refine TX.next ?_
        refine TC.seq ?_
        refine TC.block ?_
        refine TC.seq ?_
        refine TC.drawN 22 [(0, 17, l), (1, 18, .int .i64 (k : Int)), (2, 19, .pointer (some ⟨vblk l, k * 4, none⟩)), (3, 20, .pointer (some ⟨vblk l, k * 4, none⟩)), (4, 21, .int .i64 (p.i : Int)), (5, 22, .string a), (6, 23, .int .i64 (a.size : Int)), (7, 24, .bool true), (8, 25, .bool true), (9, 26, l), (10, 27, .int .i64 (k : Int)), (11, 28, .pointer (some ⟨vblk l, k * 4, none⟩)), (12, 29, .pointer (some ⟨vblk l, k * 4, none⟩)), (13, 30, .int .i64 (p.i : Int)), (14, 31, l), (15, 32, .int .i64 (k : Int)), (16, 33, .pointer (some ⟨vblk l, k * 4, none⟩)), (17, 34, .pointer (some ⟨vblk l, k * 4 + 1, none⟩)), (18, 35, .int .i64 (p.w : Int)), (19, 36, .int .i64 ((p.i : Int) + (p.w : Int))), (20, 37, .string a), (21, 38, .int .i64 (a.size : Int))] mixed (by as_aux_lemma => kernel_rfl) (by as_aux_lemma => kernel_rfl) (by decide) (by rfl) (by as_aux_lemma => kernel_rfl) (by as_aux_lemma => kernel_rfl) (DrawPre.cons ?_ (DrawPre.cons ?_ (DrawPre.cons ?_ (DrawPre.cons ?_ (DrawPre.cons ?_ (DrawPre.cons ?_ (DrawPre.cons ?_ (DrawPre.cons ?_ (DrawPre.cons ?_ (DrawPre.cons ?_ (DrawPre.cons ?_ (DrawPre.cons ?_ (DrawPre.cons ?_ (DrawPre.cons ?_ (DrawPre.cons ?_ (DrawPre.cons ?_ (DrawPre.cons ?_ (DrawPre.cons ?_ (DrawPre.cons ?_ (DrawPre.cons ?_ (DrawPre.cons ?_ (DrawPre.cons ?_ DrawPre.nil)))))))))))))))))))))) ?_
        · intro D hn hd hcl hu hi
          refine TO.move rfl (by decide) (dl_old (by rfl) rfl) ?_
          exact TX.quiet 0 hu hi rfl
        · intro D hn hd hcl hu hi
          refine TO.move rfl (by decide) (dl_old (by rfl) rfl) ?_
          exact TX.quiet 1 hu hi rfl
        · intro D hn hd hcl hu hi
          refine TO.indexVec (i := k) (k := 0) Try.underlying43 sz_47 rfl (by decide) (dl_lookup (m := 0) hu rfl (hd 0 (by decide))) (dl_lookup (m := 1) hu rfl (hd 1 (by decide))) rfl (by omega) rfl ?_
          exact TX.quiet 2 hu hi rfl
        · intro D hn hd hcl hu hi
          refine TO.fieldAddr fl_47_0 rfl (by decide) (dl_lookup (m := 2) hu rfl (hd 2 (by decide))) (show _ = k * 4 from rfl) ?_
          exact TX.quiet 3 hu hi rfl
        · intro D hn hd hcl hu hi
          refine TO.loadVec (i := k) (j := 0) (k := 0) (q := p) sc_3 pcV_len rfl (by decide) (dl_lookup (m := 3) hu rfl (hd 3 (by decide))) rfl hp rfl (by decide) rfl ?_
          exact TX.quiet 4 hu hi rfl
        · intro D hn hd hcl hu hi
          refine TO.move rfl (by decide) (dl_old (by rfl) rfl) ?_
          exact TX.quiet 5 hu hi rfl
        · intro D hn hd hcl hu hi
          refine TO.lenStr rfl (by decide) (dl_lookup (m := 5) hu rfl (hd 5 (by decide))) Try.underlying9 ?_
          exact TX.quiet 6 hu hi rfl
        · intro D hn hd hcl hu hi
          refine TO.bin rfl (by decide) (dl_lookup (m := 4) hu rfl (hd 4 (by decide))) (dl_lookup (m := 6) hu rfl (hd 6 (by decide))) (bin_known (congrArg Value.bool (show (decide (((p.i : Int) : Int) < (a.size : Int))) = true from (decide_eq_true (by omega)))) bin_lss) ?_
          exact TX.quiet 7 hu hi rfl
        · intro D hn hd hcl hu hi
          refine TO.move rfl (by decide) (dl_lookup (m := 7) hu rfl (hd 7 (by decide))) ?_
          exact TX.quiet 8 hu hi rfl
        · intro D hn hd hcl hu hi
          refine TO.move (gd_T rfl (dl_lookup (m := 8) hu rfl (hd 8 (by decide)))) (by decide) (dl_old (by rfl) rfl) ?_
          exact TX.quiet 9 hu hi rfl
        · intro D hn hd hcl hu hi
          refine TO.move (gd_T rfl (dl_lookup (m := 8) hu rfl (hd 8 (by decide)))) (by decide) (dl_old (by rfl) rfl) ?_
          exact TX.quiet 10 hu hi rfl
        · intro D hn hd hcl hu hi
          refine TO.indexVec (i := k) (k := 0) Try.underlying43 sz_47 (gd_T rfl (dl_lookup (m := 8) hu rfl (hd 8 (by decide)))) (by decide) (dl_lookup (m := 9) hu rfl (hd 9 (by decide))) (dl_lookup (m := 10) hu rfl (hd 10 (by decide))) rfl (by omega) rfl ?_
          exact TX.quiet 11 hu hi rfl
        · intro D hn hd hcl hu hi
          refine TO.fieldAddr fl_47_0 (gd_T rfl (dl_lookup (m := 8) hu rfl (hd 8 (by decide)))) (by decide) (dl_lookup (m := 11) hu rfl (hd 11 (by decide))) (show _ = k * 4 from rfl) ?_
          exact TX.quiet 12 hu hi rfl
        · intro D hn hd hcl hu hi
          refine TO.loadVec (i := k) (j := 0) (k := 0) (q := p) sc_3 pcV_len (gd_T rfl (dl_lookup (m := 8) hu rfl (hd 8 (by decide)))) (by decide) (dl_lookup (m := 12) hu rfl (hd 12 (by decide))) rfl hp rfl (by decide) rfl ?_
          exact TX.quiet 13 hu hi rfl
        · intro D hn hd hcl hu hi
          refine TO.move (gd_T rfl (dl_lookup (m := 8) hu rfl (hd 8 (by decide)))) (by decide) (dl_old (by rfl) rfl) ?_
          exact TX.quiet 14 hu hi rfl
        · intro D hn hd hcl hu hi
          refine TO.move (gd_T rfl (dl_lookup (m := 8) hu rfl (hd 8 (by decide)))) (by decide) (dl_old (by rfl) rfl) ?_
          exact TX.quiet 15 hu hi rfl
        · intro D hn hd hcl hu hi
          refine TO.indexVec (i := k) (k := 0) Try.underlying43 sz_47 (gd_T rfl (dl_lookup (m := 8) hu rfl (hd 8 (by decide)))) (by decide) (dl_lookup (m := 14) hu rfl (hd 14 (by decide))) (dl_lookup (m := 15) hu rfl (hd 15 (by decide))) rfl (by omega) rfl ?_
          exact TX.quiet 16 hu hi rfl
        · intro D hn hd hcl hu hi
          refine TO.fieldAddr fl_47_1 (gd_T rfl (dl_lookup (m := 8) hu rfl (hd 8 (by decide)))) (by decide) (dl_lookup (m := 16) hu rfl (hd 16 (by decide))) (show _ = k * 4 + 1 from rfl) ?_
          exact TX.quiet 17 hu hi rfl
        · intro D hn hd hcl hu hi
          refine TO.loadVec (i := k) (j := 1) (k := 0) (q := p) sc_3 pcV_len (gd_T rfl (dl_lookup (m := 8) hu rfl (hd 8 (by decide)))) (by decide) (dl_lookup (m := 17) hu rfl (hd 17 (by decide))) rfl hp rfl (by decide) rfl ?_
          exact TX.quiet 18 hu hi rfl
        · intro D hn hd hcl hu hi
          refine TO.bin (gd_T rfl (dl_lookup (m := 8) hu rfl (hd 8 (by decide)))) (by decide) (dl_lookup (m := 13) hu rfl (hd 13 (by decide))) (dl_lookup (m := 18) hu rfl (hd 18 (by decide))) (bin_add (r := (p.i : Int) + (p.w : Int)) (IntWalk.i64_in _ (by omega))) ?_
          exact TX.quiet 19 hu hi rfl
        · intro D hn hd hcl hu hi
          refine TO.move (gd_T rfl (dl_lookup (m := 8) hu rfl (hd 8 (by decide)))) (by decide) (dl_old (by rfl) rfl) ?_
          exact TX.quiet 20 hu hi rfl
        · intro D hn hd hcl hu hi
          refine TO.lenStr (gd_T rfl (dl_lookup (m := 8) hu rfl (hd 8 (by decide)))) (by decide) (dl_lookup (m := 20) hu rfl (hd 20 (by decide))) Try.underlying9 ?_
          exact TX.quiet 21 hu hi rfl
        refine TO.bin rfl (by decide) rfl rfl (bin_known (congrArg Value.bool (show (decide (((a.size : Int) : Int) < ((p.i : Int) + (p.w : Int)))) = false from (decide_eq_false (by omega)))) bin_gtr) ?_
        refine TO.pick (b := true) rfl (by decide) rfl rfl ?_
        refine TO.nil ?_
        refine TX.next ?_
        refine TC.condF rfl ?_
        refine TC.skip ?_
        refine TX.blockNormal ?_
        refine TX.next ?_
        refine TC.region ?_
        refine TO.move rfl (by decide) rfl ?_
        refine TO.bin rfl (by decide) rfl rfl (bin_add (r := (k : Int) + 1) (IntWalk.i64_in _ (by omega))) ?_
        refine TO.assign rfl (by decide) rfl ?_
        refine TO.nil ?_
        exact TX.again (k + 1) ⟨by omega, fun q hq => by rw [take_snoc _ _ _ hp] at hq; rcases List.mem_append.1 hq with hq | hq; exact hno q hq; rw [List.mem_singleton.1 hq]; omega⟩ (by omega) (Sbs.cons rfl (Sbs.cons rfl (Sbs.cons (congrArg (fun z : Int => some (Value.int .i64 z)) (show (k : Int) + 1 = ((k + 1 : Nat) : Int) by omega)) (Sbs.nil)))) (Splits.of [0] (by as_aux_lemma => kernel_rfl) rfl)
    ·
      refine TC.seq ?_
      refine TC.seq ?_
      refine TC.region ?_
      refine TO.move rfl (by decide) rfl ?_
      refine TO.move rfl (by decide) rfl ?_
      refine TO.lenVec (k := 0) rfl (by decide) rfl rfl Try.underlying43 ?_
      refine TO.bin rfl (by decide) rfl rfl (bin_known (congrArg Value.bool (show (decide (((k : Int) : Int) < ((pcs (a ++ b).data.toList).length : Int))) = true from (decide_eq_true (by omega)))) bin_lss) ?_
      refine TO.nil ?_
      refine TX.next ?_
      refine TC.condT rfl ?_
      refine TC.skip ?_
      refine TX.next ?_
      refine TC.seq ?_
      refine TC.block ?_
      refine TC.seq ?_
      refine TC.drawN 22 [(0, 17, l), (1, 18, .int .i64 (k : Int)), (2, 19, .pointer (some ⟨vblk l, k * 4, none⟩)), (3, 20, .pointer (some ⟨vblk l, k * 4, none⟩)), (4, 21, .int .i64 (p.i : Int)), (5, 22, .string a), (6, 23, .int .i64 (a.size : Int)), (7, 24, .bool false), (8, 25, .bool false), (9, 26, undef), (10, 27, undef), (11, 28, undef), (12, 29, undef), (13, 30, undef), (14, 31, undef), (15, 32, undef), (16, 33, undef), (17, 34, undef), (18, 35, undef), (19, 36, undef), (20, 37, undef), (21, 38, undef)] mixed (by as_aux_lemma => kernel_rfl) (by as_aux_lemma => kernel_rfl) (by decide) (by rfl) (by as_aux_lemma => kernel_rfl) (by as_aux_lemma => kernel_rfl) (DrawPre.cons ?_ (DrawPre.cons ?_ (DrawPre.cons ?_ (DrawPre.cons ?_ (DrawPre.cons ?_ (DrawPre.cons ?_ (DrawPre.cons ?_ (DrawPre.cons ?_ (DrawPre.cons ?_ (DrawPre.cons ?_ (DrawPre.cons ?_ (DrawPre.cons ?_ (DrawPre.cons ?_ (DrawPre.cons ?_ (DrawPre.cons ?_ (DrawPre.cons ?_ (DrawPre.cons ?_ (DrawPre.cons ?_ (DrawPre.cons ?_ (DrawPre.cons ?_ (DrawPre.cons ?_ (DrawPre.cons ?_ DrawPre.nil)))))))))))))))))))))) ?_
      · intro D hn hd hcl hu hi
        refine TO.move rfl (by decide) (dl_old (by rfl) rfl) ?_
        exact TX.quiet 0 hu hi rfl
      · intro D hn hd hcl hu hi
        refine TO.move rfl (by decide) (dl_old (by rfl) rfl) ?_
        exact TX.quiet 1 hu hi rfl
      · intro D hn hd hcl hu hi
        refine TO.indexVec (i := k) (k := 0) Try.underlying43 sz_47 rfl (by decide) (dl_lookup (m := 0) hu rfl (hd 0 (by decide))) (dl_lookup (m := 1) hu rfl (hd 1 (by decide))) rfl (by omega) rfl ?_
        exact TX.quiet 2 hu hi rfl
      · intro D hn hd hcl hu hi
        refine TO.fieldAddr fl_47_0 rfl (by decide) (dl_lookup (m := 2) hu rfl (hd 2 (by decide))) (show _ = k * 4 from rfl) ?_
        exact TX.quiet 3 hu hi rfl
      · intro D hn hd hcl hu hi
        refine TO.loadVec (i := k) (j := 0) (k := 0) (q := p) sc_3 pcV_len rfl (by decide) (dl_lookup (m := 3) hu rfl (hd 3 (by decide))) rfl hp rfl (by decide) rfl ?_
        exact TX.quiet 4 hu hi rfl
      · intro D hn hd hcl hu hi
        refine TO.move rfl (by decide) (dl_old (by rfl) rfl) ?_
        exact TX.quiet 5 hu hi rfl
      · intro D hn hd hcl hu hi
        refine TO.lenStr rfl (by decide) (dl_lookup (m := 5) hu rfl (hd 5 (by decide))) Try.underlying9 ?_
        exact TX.quiet 6 hu hi rfl
      · intro D hn hd hcl hu hi
        refine TO.bin rfl (by decide) (dl_lookup (m := 4) hu rfl (hd 4 (by decide))) (dl_lookup (m := 6) hu rfl (hd 6 (by decide))) (bin_known (congrArg Value.bool (show (decide (((p.i : Int) : Int) < (a.size : Int))) = false from (decide_eq_false (by omega)))) bin_lss) ?_
        exact TX.quiet 7 hu hi rfl
      · intro D hn hd hcl hu hi
        refine TO.move rfl (by decide) (dl_lookup (m := 7) hu rfl (hd 7 (by decide))) ?_
        exact TX.quiet 8 hu hi rfl
      · intro D hn hd hcl hu hi
        refine TO.skip (gd_F rfl (dl_lookup (m := 8) hu rfl (hd 8 (by decide)))) (by decide) ?_
        exact TX.quiet 9 hu hi rfl
      · intro D hn hd hcl hu hi
        refine TO.skip (gd_F rfl (dl_lookup (m := 8) hu rfl (hd 8 (by decide)))) (by decide) ?_
        exact TX.quiet 10 hu hi rfl
      · intro D hn hd hcl hu hi
        refine TO.skip (gd_F rfl (dl_lookup (m := 8) hu rfl (hd 8 (by decide)))) (by decide) ?_
        exact TX.quiet 11 hu hi rfl
      · intro D hn hd hcl hu hi
        refine TO.skip (gd_F rfl (dl_lookup (m := 8) hu rfl (hd 8 (by decide)))) (by decide) ?_
        exact TX.quiet 12 hu hi rfl
      · intro D hn hd hcl hu hi
        refine TO.skip (gd_F rfl (dl_lookup (m := 8) hu rfl (hd 8 (by decide)))) (by decide) ?_
        exact TX.quiet 13 hu hi rfl
      · intro D hn hd hcl hu hi
        refine TO.skip (gd_F rfl (dl_lookup (m := 8) hu rfl (hd 8 (by decide)))) (by decide) ?_
        exact TX.quiet 14 hu hi rfl
      · intro D hn hd hcl hu hi
        refine TO.skip (gd_F rfl (dl_lookup (m := 8) hu rfl (hd 8 (by decide)))) (by decide) ?_
        exact TX.quiet 15 hu hi rfl
      · intro D hn hd hcl hu hi
        refine TO.skip (gd_F rfl (dl_lookup (m := 8) hu rfl (hd 8 (by decide)))) (by decide) ?_
        exact TX.quiet 16 hu hi rfl
      · intro D hn hd hcl hu hi
        refine TO.skip (gd_F rfl (dl_lookup (m := 8) hu rfl (hd 8 (by decide)))) (by decide) ?_
        exact TX.quiet 17 hu hi rfl
      · intro D hn hd hcl hu hi
        refine TO.skip (gd_F rfl (dl_lookup (m := 8) hu rfl (hd 8 (by decide)))) (by decide) ?_
        exact TX.quiet 18 hu hi rfl
      · intro D hn hd hcl hu hi
        refine TO.skip (gd_F rfl (dl_lookup (m := 8) hu rfl (hd 8 (by decide)))) (by decide) ?_
        exact TX.quiet 19 hu hi rfl
      · intro D hn hd hcl hu hi
        refine TO.skip (gd_F rfl (dl_lookup (m := 8) hu rfl (hd 8 (by decide)))) (by decide) ?_
        exact TX.quiet 20 hu hi rfl
      · intro D hn hd hcl hu hi
        refine TO.skip (gd_F rfl (dl_lookup (m := 8) hu rfl (hd 8 (by decide)))) (by decide) ?_
        exact TX.quiet 21 hu hi rfl
      refine TO.skip rfl (by decide) ?_
      refine TO.pick (b := false) rfl (by decide) rfl rfl ?_
      refine TO.nil ?_
      refine TX.next ?_
      refine TC.condF rfl ?_
      refine TC.skip ?_
      refine TX.blockNormal ?_
      refine TX.next ?_
      refine TC.region ?_
      refine TO.move rfl (by decide) rfl ?_
      refine TO.bin rfl (by decide) rfl rfl (bin_add (r := (k : Int) + 1) (IntWalk.i64_in _ (by omega))) ?_
      refine TO.assign rfl (by decide) rfl ?_
      refine TO.nil ?_
      exact TX.again (k + 1) ⟨by omega, fun q hq => by rw [take_snoc _ _ _ hp] at hq; rcases List.mem_append.1 hq with hq | hq; exact hno q hq; rw [List.mem_singleton.1 hq]; omega⟩ (by omega) (Sbs.cons rfl (Sbs.cons rfl (Sbs.cons (congrArg (fun z : Int => some (Value.int .i64 z)) (show (k : Int) + 1 = ((k + 1 : Nat) : Int) by omega)) (Sbs.nil)))) (Splits.of [0] (by as_aux_lemma => kernel_rfl) rfl)
  ·
    have hfin : seamB a b = false := by
      unfold seamB; rw [List.any_eq_false]; intro p hp; rw [← List.take_of_length_le (Nat.le_of_not_lt hlt)] at hp; have := hno p hp; simp; omega
    refine TC.seq ?_
    refine TC.seq ?_
    refine TC.region ?_
    refine TO.move rfl (by decide) rfl ?_
    refine TO.move rfl (by decide) rfl ?_
    refine TO.lenVec (k := 0) rfl (by decide) rfl rfl Try.underlying43 ?_
    refine TO.bin rfl (by decide) rfl rfl (bin_known (congrArg Value.bool (show (decide (((k : Int) : Int) < ((pcs (a ++ b).data.toList).length : Int))) = false from (decide_eq_false (by omega)))) bin_lss) ?_
    refine TO.nil ?_
    refine TX.next ?_
    refine TC.condF rfl ?_
    refine TC.exit ?_
    refine TX.thenExit ?_
    refine TX.thenExit ?_
    refine TX.blockHere ?_
    refine TX.next ?_
    refine TC.seq ?_
    refine TC.region ?_
    refine TO.assign rfl (by decide) rfl ?_
    refine TO.nil ?_
    refine TX.next ?_
    refine TC.ret ?_
    exact TX.fin (rs := [.tmp 4]) () (.inl rfl) Try.results22 (.cons (.tmp rfl) .nil) (by rw [hfin]; rfl) Splits.nil
set_option maxRecDepth 100000 in
set_option maxHeartbeats 4000000 in
theorem lawJoin_p (a b : ByteArray) (ha : a.size ≤ 140737488351232) (hb : b.size ≤ 140737488351232) : FnP Try.prog 8 [.string a, .string b] (.bool true) := by
  refine FnP.intro Try.func8 rfl Try.ntmps8 (by simp) ?_
  intro w0 K
  refine TC.seq ?_
  refine TC.region ?_
  refine TO.assign rfl (by decide) rfl ?_
  refine TO.nil ?_
  refine TX.next ?_
  refine TC.seq ?_
  refine TC.seq ?_
  refine TC.region ?_
  refine TO.callP (v := .bool true) (vs := []) rfl (by decide) rfl rfl rfl en_12 live_p ?_
  refine TO.un rfl (by decide) rfl un_not ?_
  refine TO.nil ?_
  refine TX.next ?_
  refine TC.condF rfl ?_
  refine TC.skip ?_
  refine TX.next ?_
  refine TC.seq ?_
  refine TC.seq ?_
  refine TC.region ?_
  refine TO.move rfl (by decide) rfl ?_
  refine TO.lenStr rfl (by decide) rfl Try.underlying9 ?_
  refine TO.move rfl (by decide) rfl ?_
  refine TO.lenStr rfl (by decide) rfl Try.underlying9 ?_
  refine TO.bin rfl (by decide) rfl rfl (bin_add (r := (a.size : Int) + (b.size : Int)) (IntWalk.i64_in _ (by omega))) ?_
  refine TO.callP (v := .bool (decide (2147483647 < (a.size : Int) + (b.size : Int)))) (vs := [.int .i64 ((a.size : Int) + (b.size : Int))]) rfl (by decide) rfl rfl rfl en_15 (beyond_p _) ?_
  refine TO.move rfl (by decide) rfl ?_
  refine TO.split (s := 18) rfl (fun h1 => ?_) (fun h1 => ?_)
  · -- yes
    have h1 := of_decide_eq_true h1
    refine TO.skip rfl (by decide) ?_
    refine TO.skip rfl (by decide) ?_
    refine TO.skip rfl (by decide) ?_
    refine TO.pick (b := true) rfl (by decide) rfl rfl ?_
    refine TO.nil ?_
    refine TX.next ?_
    refine TC.condT rfl ?_
    refine TC.seq ?_
    refine TC.region ?_
    refine TO.assign rfl (by decide) rfl ?_
    refine TO.nil ?_
    refine TX.next ?_
    refine TC.ret ?_
    refine TX.thenRet ?_
    exact TX.fin (rs := [.tmp 4]) () (.inl rfl) Try.results8 (.cons (.tmp rfl) .nil) rfl Splits.nil
  · -- no
    have h1 := of_decide_eq_false h1
    have hs : a.size + b.size ≤ 2147483647 := by omega
    refine TO.move rfl (by decide) rfl ?_
    refine TO.move rfl (by decide) rfl ?_
    refine TO.callP (v := .bool (seamB a b)) (vs := [.string a, .string b]) rfl (by decide) rfl rfl rfl en_22 (seam_p a b (by omega)) ?_
    refine TO.pick (b := false) rfl (by decide) rfl rfl ?_
    refine TO.nil ?_
    refine TX.next ?_
    refine TC.condB rfl (fun h2 => ?_) (fun h2 => ?_)
    · -- yes
      refine TC.seq ?_
      refine TC.region ?_
      refine TO.assign rfl (by decide) rfl ?_
      refine TO.nil ?_
      refine TX.next ?_
      refine TC.ret ?_
      refine TX.thenRet ?_
      exact TX.fin (rs := [.tmp 4]) () (.inl rfl) Try.results8 (.cons (.tmp rfl) .nil) rfl Splits.nil
    · -- no
      have hsm : seamB a b = false := h2
      refine TC.skip ?_
      refine TX.next ?_
      refine TC.seq ?_
      refine TC.seq ?_
      refine TC.region ?_
      refine TO.callP (v := .bool true) (vs := []) rfl (by decide) rfl rfl rfl en_12 live_p ?_
      refine TO.un rfl (by decide) rfl un_not ?_
      refine TO.nil ?_
      refine TX.next ?_
      refine TC.condF rfl ?_
      refine TC.skip ?_
      refine TX.next ?_
      refine TC.seq ?_
      refine TC.region ?_
      refine TO.move rfl (by decide) rfl ?_
      refine TO.call (vs := [.string a]) rfl (by decide) rfl rfl rfl en_23 (rpieces_fn a (by omega)) Splits.nil ?_
      rintro la
      show TO _ _ _ _ _ _ _ _ _ _ [vec pcV 47 4 la (pcs a.data.toList)]
      refine TO.move rfl (by decide) rfl ?_
      refine TO.call (vs := [.string b]) rfl (by decide) rfl rfl rfl en_23 (rpieces_fn b (by omega)) Splits.nil ?_
      rintro lb
      show TO _ _ _ _ _ _ _ _ _ _ [vec pcV 47 4 la (pcs a.data.toList), vec pcV 47 4 lb (pcs b.data.toList)]
      refine TO.assign rfl (by decide) rfl ?_
      refine TO.assign rfl (by decide) rfl ?_
      refine TO.nil ?_
      refine TX.next ?_
      refine TC.seq ?_
      refine TC.region ?_
      refine TO.move rfl (by decide) rfl ?_
      refine TO.lenVec (k := 0) rfl (by decide) rfl rfl Try.underlying43 ?_
      refine TO.bin rfl (by decide) rfl rfl bin_eql ?_
      refine TO.move rfl (by decide) rfl ?_
      refine TO.split (s := 32) rfl (fun h3 => ?_) (fun h3 => ?_)
      · -- yes
        have h3 := beq_iff_eq.1 h3
        refine TO.skip rfl (by decide) ?_
        refine TO.skip rfl (by decide) ?_
        refine TO.skip rfl (by decide) ?_
        refine TO.pick (b := true) rfl (by decide) rfl rfl ?_
        refine TO.assign rfl (by decide) rfl ?_
        refine TO.nil ?_
        refine TX.next ?_
        refine TC.cut (β := Bool) (fun c => (c = true → pcs a.data.toList = [] ∨ pcs b.data.toList = [] ∨ (∃ p, (pcs a.data.toList).getLast? = some p ∧ pk p ≠ 1 ∧ pk p ≠ 2) ∨ (∃ p, (pcs b.data.toList)[0]? = some p ∧ pk p ≠ 1 ∧ pk p ≠ 2))) (fun c => [(0, .string a), (1, .string b), (7, .bool c)]) (fun c => []) ?_ ?_
        ·
          refine TC.seq ?_
          refine TC.region ?_
          refine TO.move rfl (by decide) rfl ?_
          refine TO.un rfl (by decide) rfl un_not ?_
          refine TO.nil ?_
          refine TX.next ?_
          refine TC.condF rfl ?_
          refine TC.skip ?_
          exact TX.meet true (fun h => by first | exact .inl (List.eq_nil_of_length_eq_zero (by omega)) | exact .inr (.inl (List.eq_nil_of_length_eq_zero (by simp at h; omega))) | exact .inr (.inr (.inl ⟨p, hlast, by omega, by omega⟩)) | exact .inr (.inr (.inr ⟨q, hq, by omega, by simpa using h⟩)) | exact absurd h (by simp)) (Sbs.cons rfl (Sbs.cons rfl (Sbs.cons rfl (Sbs.nil)))) Splits.nil
        ·
          rintro (_ | _) hI
          ·
            refine TC.seq ?_
            refine TC.region ?_
            refine TO.move rfl (by decide) rfl ?_
            refine TO.un rfl (by decide) rfl un_not ?_
            refine TO.move rfl (by decide) rfl ?_
            refine TO.skip rfl (by decide) ?_
            refine TO.skip rfl (by decide) ?_
            refine TO.skip rfl (by decide) ?_
            refine TO.skip rfl (by decide) ?_
            refine TO.skip rfl (by decide) ?_
            refine TO.skip rfl (by decide) ?_
            refine TO.skip rfl (by decide) ?_
            refine TO.skip rfl (by decide) ?_
            refine TO.skip rfl (by decide) ?_
            refine TO.skip rfl (by decide) ?_
            refine TO.pick (b := true) rfl (by decide) rfl rfl ?_
            refine TO.assign rfl (by decide) rfl ?_
            refine TO.nil ?_
            refine TX.next ?_
            refine TC.ret ?_
            exact TX.fin (rs := [.tmp 4]) () (.inl rfl) Try.results8 (.cons (.tmp rfl) .nil) rfl Splits.nil
          ·
            refine TC.seq ?_
            refine TC.region ?_
            refine TO.move rfl (by decide) rfl ?_
            refine TO.un rfl (by decide) rfl un_not ?_
            refine TO.move rfl (by decide) rfl ?_
            refine TO.move rfl (by decide) rfl ?_
            refine TO.move rfl (by decide) rfl ?_
            refine TO.bin rfl (by decide) rfl rfl (bin_sadd (by omega)) ?_
            refine TO.callP (v := .string (lowText (a ++ b))) (vs := [.string (a ++ b)]) rfl (by decide) rfl rfl rfl en_25 (low_p (a ++ b) (by (try simp only [ByteArray.size_append]); omega)) ?_
            refine TO.move rfl (by decide) rfl ?_
            refine TO.callP (v := .string (lowText (a))) (vs := [.string a]) rfl (by decide) rfl rfl rfl en_25 (low_p (a) (by (try simp only [ByteArray.size_append]); omega)) ?_
            refine TO.move rfl (by decide) rfl ?_
            refine TO.callP (v := .string (lowText (b))) (vs := [.string b]) rfl (by decide) rfl rfl rfl en_25 (low_p (b) (by (try simp only [ByteArray.size_append]); omega)) ?_
            refine TO.bin rfl (by decide) rfl rfl (bin_sadd (by have h1 := low_size a; have h2 := low_size b; omega)) ?_
            refine TO.bin rfl (by decide) rfl rfl (bin_known (congrArg Value.bool (show (decide (lowText (a ++ b) = (lowText (a)) ++ (lowText (b)))) = true from (by rw [decide_eq_true_eq]; exact low_append a b (seam_none a b hsm) (hI rfl)))) bin_seql) ?_
            refine TO.pick (b := false) rfl (by decide) rfl rfl ?_
            refine TO.assign rfl (by decide) rfl ?_
            refine TO.nil ?_
            refine TX.next ?_
            refine TC.ret ?_
            exact TX.fin (rs := [.tmp 4]) () (.inl rfl) Try.results8 (.cons (.tmp rfl) .nil) rfl Splits.nil
      · -- no
        have h3 := beq_eq_false_iff_ne.1 h3
        refine TO.move rfl (by decide) rfl ?_
        refine TO.lenVec (k := 1) rfl (by decide) rfl rfl Try.underlying43 ?_
        refine TO.bin rfl (by decide) rfl rfl bin_eql ?_
        refine TO.pick (b := false) rfl (by decide) rfl rfl ?_
        refine TO.assign rfl (by decide) rfl ?_
        refine TO.nil ?_
        refine TX.next ?_
        refine TC.cut (β := Bool) (fun c => (c = true → pcs a.data.toList = [] ∨ pcs b.data.toList = [] ∨ (∃ p, (pcs a.data.toList).getLast? = some p ∧ pk p ≠ 1 ∧ pk p ≠ 2) ∨ (∃ p, (pcs b.data.toList)[0]? = some p ∧ pk p ≠ 1 ∧ pk p ≠ 2))) (fun c => [(0, .string a), (1, .string b), (7, .bool c)]) (fun c => []) ?_ ?_
        ·
          refine TC.seq ?_
          refine TC.region ?_
          refine TO.move rfl (by decide) rfl ?_
          refine TO.un rfl (by decide) rfl un_not ?_
          refine TO.nil ?_
          refine TX.next ?_
          refine TC.condB rfl (fun h4 => ?_) (fun h4 => ?_)
          · -- yes
            have h4 := not_T h4
            have h4 := beq_eq_false_iff_ne.1 h4
            refine TC.seq ?_
            have na : (pcs a.data.toList).length ≠ 0 := fun h => by simp_all
            have nb : (pcs b.data.toList).length ≠ 0 := fun h => by simp_all
            have hla := pcs_len a
            obtain ⟨p, hp⟩ : ∃ p, (pcs a.data.toList)[(pcs a.data.toList).length - 1]? = some p := ⟨_, List.getElem?_eq_getElem (by omega)⟩
            obtain ⟨q, hq⟩ : ∃ q, (pcs b.data.toList)[0]? = some q := ⟨_, List.getElem?_eq_getElem (by omega)⟩
            have vp := pcs_valid _ p (List.mem_of_getElem? hp)
            have vq := pcs_valid _ q (List.mem_of_getElem? hq)
            have hlast : (pcs a.data.toList).getLast? = some p := by rw [List.getLast?_eq_getElem?]; exact hp
            refine TC.drawN 10 [(0, 39, la), (1, 40, la), (2, 41, .int .i64 ((pcs a.data.toList).length : Int)), (3, 42, .int .i64 (((pcs a.data.toList).length - 1 : Nat) : Int)), (4, 43, .pointer (some ⟨vblk la, ((pcs a.data.toList).length - 1) * 4, none⟩)), (5, 44, .agg #[.int .i64 (p.i : Int), .int .i64 (p.w : Int), .int .i32 (p.r : Int), .bool p.broken]), (6, 45, .int .i64 (pk p)), (7, 46, lb), (8, 47, .pointer (some ⟨vblk lb, 0 * 4, none⟩)), (9, 48, .agg #[.int .i64 (q.i : Int), .int .i64 (q.w : Int), .int .i32 (q.r : Int), .bool q.broken])] mixed (by as_aux_lemma => kernel_rfl) (by as_aux_lemma => kernel_rfl) (by decide) (by rfl) (by as_aux_lemma => kernel_rfl) (by as_aux_lemma => kernel_rfl) (DrawPre.cons ?_ (DrawPre.cons ?_ (DrawPre.cons ?_ (DrawPre.cons ?_ (DrawPre.cons ?_ (DrawPre.cons ?_ (DrawPre.cons ?_ (DrawPre.cons ?_ (DrawPre.cons ?_ (DrawPre.cons ?_ DrawPre.nil)))))))))) ?_
            · intro D hn hd hcl hu hi
              refine TO.move rfl (by decide) (dl_old (by rfl) rfl) ?_
              exact TX.quiet 0 hu hi rfl
            · intro D hn hd hcl hu hi
              refine TO.move rfl (by decide) (dl_old (by rfl) rfl) ?_
              exact TX.quiet 1 hu hi rfl
            · intro D hn hd hcl hu hi
              refine TO.lenVec (k := 0) rfl (by decide) (dl_lookup (m := 1) hu rfl (hd 1 (by decide))) rfl Try.underlying43 ?_
              exact TX.quiet 2 hu hi rfl
            · intro D hn hd hcl hu hi
              refine TO.bin rfl (by decide) (dl_lookup (m := 2) hu rfl (hd 2 (by decide))) rfl (bin_sub (r := (((pcs a.data.toList).length - 1 : Nat) : Int)) (by rw [IntWalk.i64_in _ (by omega)]; omega)) ?_
              exact TX.quiet 3 hu hi rfl
            · intro D hn hd hcl hu hi
              refine TO.indexVec (i := (pcs a.data.toList).length - 1) (k := 0) Try.underlying43 sz_47 rfl (by decide) (dl_lookup (m := 0) hu rfl (hd 0 (by decide))) (dl_lookup (m := 3) hu rfl (hd 3 (by decide))) rfl (by omega) rfl ?_
              exact TX.quiet 4 hu hi rfl
            · intro D hn hd hcl hu hi
              refine TO.loadsVec (i := (pcs a.data.toList).length - 1) (j := 0) (k := 0) (q := p) (cs := [.int .i64 (p.i : Int), .int .i64 (p.w : Int), .int .i32 (p.r : Int), .bool p.broken]) rw_47 pcV_len rfl (by decide) (dl_lookup (m := 4) hu rfl (hd 4 (by decide))) rfl hp rfl rfl rfl ?_
              exact TX.quiet 5 hu hi rfl
            · intro D hn hd hcl hu hi
              refine TO.callP (v := .int .i64 (pk p)) (vs := [.agg #[.int .i64 (p.i : Int), .int .i64 (p.w : Int), .int .i32 (p.r : Int), .bool p.broken]]) rfl (by decide) rfl (evL.cons (dl_lookup (m := 5) hu rfl (hd 5 (by decide))) evL.nil) rfl en_24 (rof_p _ _ _ _ (by omega) (by omega)) ?_
              exact TX.quiet 6 hu hi rfl
            · intro D hn hd hcl hu hi
              refine TO.move rfl (by decide) (dl_old (by rfl) rfl) ?_
              exact TX.quiet 7 hu hi rfl
            · intro D hn hd hcl hu hi
              refine TO.indexVec (i := 0) (k := 1) Try.underlying43 sz_47 rfl (by decide) (dl_lookup (m := 7) hu rfl (hd 7 (by decide))) rfl rfl (by omega) rfl ?_
              exact TX.quiet 8 hu hi rfl
            · intro D hn hd hcl hu hi
              refine TO.loadsVec (i := 0) (j := 0) (k := 1) (q := q) (cs := [.int .i64 (q.i : Int), .int .i64 (q.w : Int), .int .i32 (q.r : Int), .bool q.broken]) rw_47 pcV_len rfl (by decide) (dl_lookup (m := 8) hu rfl (hd 8 (by decide))) rfl hq rfl rfl rfl ?_
              exact TX.quiet 9 hu hi rfl
            refine TO.callP (v := .int .i64 (pk q)) (vs := [.agg #[.int .i64 (q.i : Int), .int .i64 (q.w : Int), .int .i32 (q.r : Int), .bool q.broken]]) rfl (by decide) rfl rfl rfl en_24 (rof_p _ _ _ _ (by omega) (by omega)) ?_
            refine TO.assign rfl (by decide) rfl ?_
            refine TO.assign rfl (by decide) rfl ?_
            refine TO.nil ?_
            refine TX.next ?_
            refine TC.region ?_
            refine TO.move rfl (by decide) rfl ?_
            refine TO.bin rfl (by decide) rfl rfl bin_neq ?_
            refine TO.move rfl (by decide) rfl ?_
            refine TO.split (s := 52) rfl (fun h5 => ?_) (fun h5 => ?_)
            · -- yes
              have h5 := bne_iff_ne.1 h5
              refine TO.move rfl (by decide) rfl ?_
              refine TO.bin rfl (by decide) rfl rfl bin_neq ?_
              refine TO.pick (b := true) rfl (by decide) rfl rfl ?_
              refine TO.move rfl (by decide) rfl ?_
              refine TO.split (s := 56) rfl (fun h6 => ?_) (fun h6 => ?_)
              · -- yes
                have h6 := bne_iff_ne.1 h6
                refine TO.skip rfl (by decide) ?_
                refine TO.skip rfl (by decide) ?_
                refine TO.skip rfl (by decide) ?_
                refine TO.skip rfl (by decide) ?_
                refine TO.skip rfl (by decide) ?_
                refine TO.skip rfl (by decide) ?_
                refine TO.pick (b := true) rfl (by decide) rfl rfl ?_
                refine TO.assign rfl (by decide) rfl ?_
                refine TO.nil ?_
                exact TX.meet true (fun h => by first | exact .inl (List.eq_nil_of_length_eq_zero (by omega)) | exact .inr (.inl (List.eq_nil_of_length_eq_zero (by simp at h; omega))) | exact .inr (.inr (.inl ⟨p, hlast, by omega, by omega⟩)) | exact .inr (.inr (.inr ⟨q, hq, by omega, by simpa using h⟩)) | exact absurd h (by simp)) (Sbs.cons rfl (Sbs.cons rfl (Sbs.cons rfl (Sbs.nil)))) Splits.nil
              · -- no
                have h6 := bne_eq_false_iff_eq.1 h6
                refine TO.move rfl (by decide) rfl ?_
                refine TO.bin rfl (by decide) rfl rfl bin_neq ?_
                refine TO.move rfl (by decide) rfl ?_
                refine TO.split (s := 59) rfl (fun h7 => ?_) (fun h7 => ?_)
                · -- yes
                  have h7 := bne_iff_ne.1 h7
                  refine TO.move rfl (by decide) rfl ?_
                  refine TO.bin rfl (by decide) rfl rfl bin_neq ?_
                  refine TO.pick (b := true) rfl (by decide) rfl rfl ?_
                  refine TO.pick (b := false) rfl (by decide) rfl rfl ?_
                  refine TO.assign rfl (by decide) rfl ?_
                  refine TO.nil ?_
                  exact TX.meet (((pk q) : Int) != 2) (fun h => by first | exact .inl (List.eq_nil_of_length_eq_zero (by omega)) | exact .inr (.inl (List.eq_nil_of_length_eq_zero (by simp at h; omega))) | exact .inr (.inr (.inl ⟨p, hlast, by omega, by omega⟩)) | exact .inr (.inr (.inr ⟨q, hq, by omega, by simpa using h⟩)) | exact absurd h (by simp)) (Sbs.cons rfl (Sbs.cons rfl (Sbs.cons rfl (Sbs.nil)))) Splits.nil
                · -- no
                  have h7 := bne_eq_false_iff_eq.1 h7
                  refine TO.skip rfl (by decide) ?_
                  refine TO.skip rfl (by decide) ?_
                  refine TO.pick (b := false) rfl (by decide) rfl rfl ?_
                  refine TO.pick (b := false) rfl (by decide) rfl rfl ?_
                  refine TO.assign rfl (by decide) rfl ?_
                  refine TO.nil ?_
                  exact TX.meet false (fun h => by first | exact .inl (List.eq_nil_of_length_eq_zero (by omega)) | exact .inr (.inl (List.eq_nil_of_length_eq_zero (by simp at h; omega))) | exact .inr (.inr (.inl ⟨p, hlast, by omega, by omega⟩)) | exact .inr (.inr (.inr ⟨q, hq, by omega, by simpa using h⟩)) | exact absurd h (by simp)) (Sbs.cons rfl (Sbs.cons rfl (Sbs.cons rfl (Sbs.nil)))) Splits.nil
            · -- no
              have h5 := bne_eq_false_iff_eq.1 h5
              refine TO.skip rfl (by decide) ?_
              refine TO.skip rfl (by decide) ?_
              refine TO.pick (b := false) rfl (by decide) rfl rfl ?_
              refine TO.move rfl (by decide) rfl ?_
              refine TO.move rfl (by decide) rfl ?_
              refine TO.bin rfl (by decide) rfl rfl bin_neq ?_
              refine TO.move rfl (by decide) rfl ?_
              refine TO.split (s := 59) rfl (fun h8 => ?_) (fun h8 => ?_)
              · -- yes
                have h8 := bne_iff_ne.1 h8
                refine TO.move rfl (by decide) rfl ?_
                refine TO.bin rfl (by decide) rfl rfl bin_neq ?_
                refine TO.pick (b := true) rfl (by decide) rfl rfl ?_
                refine TO.pick (b := false) rfl (by decide) rfl rfl ?_
                refine TO.assign rfl (by decide) rfl ?_
                refine TO.nil ?_
                exact TX.meet (((pk q) : Int) != 2) (fun h => by first | exact .inl (List.eq_nil_of_length_eq_zero (by omega)) | exact .inr (.inl (List.eq_nil_of_length_eq_zero (by simp at h; omega))) | exact .inr (.inr (.inl ⟨p, hlast, by omega, by omega⟩)) | exact .inr (.inr (.inr ⟨q, hq, by omega, by simpa using h⟩)) | exact absurd h (by simp)) (Sbs.cons rfl (Sbs.cons rfl (Sbs.cons rfl (Sbs.nil)))) Splits.nil
              · -- no
                have h8 := bne_eq_false_iff_eq.1 h8
                refine TO.skip rfl (by decide) ?_
                refine TO.skip rfl (by decide) ?_
                refine TO.pick (b := false) rfl (by decide) rfl rfl ?_
                refine TO.pick (b := false) rfl (by decide) rfl rfl ?_
                refine TO.assign rfl (by decide) rfl ?_
                refine TO.nil ?_
                exact TX.meet false (fun h => by first | exact .inl (List.eq_nil_of_length_eq_zero (by omega)) | exact .inr (.inl (List.eq_nil_of_length_eq_zero (by simp at h; omega))) | exact .inr (.inr (.inl ⟨p, hlast, by omega, by omega⟩)) | exact .inr (.inr (.inr ⟨q, hq, by omega, by simpa using h⟩)) | exact absurd h (by simp)) (Sbs.cons rfl (Sbs.cons rfl (Sbs.cons rfl (Sbs.nil)))) Splits.nil
          · -- no
            have h4 := not_F h4
            have h4 := beq_iff_eq.1 h4
            refine TC.skip ?_
            exact TX.meet ((((pcs b.data.toList).length : Int) : Int) == 0) (fun h => by first | exact .inl (List.eq_nil_of_length_eq_zero (by omega)) | exact .inr (.inl (List.eq_nil_of_length_eq_zero (by simp at h; omega))) | exact .inr (.inr (.inl ⟨p, hlast, by omega, by omega⟩)) | exact .inr (.inr (.inr ⟨q, hq, by omega, by simpa using h⟩)) | exact absurd h (by simp)) (Sbs.cons rfl (Sbs.cons rfl (Sbs.cons rfl (Sbs.nil)))) Splits.nil
        ·
          rintro (_ | _) hI
          ·
            refine TC.seq ?_
            refine TC.region ?_
            refine TO.move rfl (by decide) rfl ?_
            refine TO.un rfl (by decide) rfl un_not ?_
            refine TO.move rfl (by decide) rfl ?_
            refine TO.skip rfl (by decide) ?_
            refine TO.skip rfl (by decide) ?_
            refine TO.skip rfl (by decide) ?_
            refine TO.skip rfl (by decide) ?_
            refine TO.skip rfl (by decide) ?_
            refine TO.skip rfl (by decide) ?_
            refine TO.skip rfl (by decide) ?_
            refine TO.skip rfl (by decide) ?_
            refine TO.skip rfl (by decide) ?_
            refine TO.skip rfl (by decide) ?_
            refine TO.pick (b := true) rfl (by decide) rfl rfl ?_
            refine TO.assign rfl (by decide) rfl ?_
            refine TO.nil ?_
            refine TX.next ?_
            refine TC.ret ?_
            exact TX.fin (rs := [.tmp 4]) () (.inl rfl) Try.results8 (.cons (.tmp rfl) .nil) rfl Splits.nil
          ·
            refine TC.seq ?_
            refine TC.region ?_
            refine TO.move rfl (by decide) rfl ?_
            refine TO.un rfl (by decide) rfl un_not ?_
            refine TO.move rfl (by decide) rfl ?_
            refine TO.move rfl (by decide) rfl ?_
            refine TO.move rfl (by decide) rfl ?_
            refine TO.bin rfl (by decide) rfl rfl (bin_sadd (by omega)) ?_
            refine TO.callP (v := .string (lowText (a ++ b))) (vs := [.string (a ++ b)]) rfl (by decide) rfl rfl rfl en_25 (low_p (a ++ b) (by (try simp only [ByteArray.size_append]); omega)) ?_
            refine TO.move rfl (by decide) rfl ?_
            refine TO.callP (v := .string (lowText (a))) (vs := [.string a]) rfl (by decide) rfl rfl rfl en_25 (low_p (a) (by (try simp only [ByteArray.size_append]); omega)) ?_
            refine TO.move rfl (by decide) rfl ?_
            refine TO.callP (v := .string (lowText (b))) (vs := [.string b]) rfl (by decide) rfl rfl rfl en_25 (low_p (b) (by (try simp only [ByteArray.size_append]); omega)) ?_
            refine TO.bin rfl (by decide) rfl rfl (bin_sadd (by have h1 := low_size a; have h2 := low_size b; omega)) ?_
            refine TO.bin rfl (by decide) rfl rfl (bin_known (congrArg Value.bool (show (decide (lowText (a ++ b) = (lowText (a)) ++ (lowText (b)))) = true from (by rw [decide_eq_true_eq]; exact low_append a b (seam_none a b hsm) (hI rfl)))) bin_seql) ?_
            refine TO.pick (b := false) rfl (by decide) rfl rfl ?_
            refine TO.assign rfl (by decide) rfl ?_
            refine TO.nil ?_
            refine TX.next ?_
            refine TC.ret ?_
            exact TX.fin (rs := [.tmp 4]) () (.inl rfl) Try.results8 (.cons (.tmp rfl) .nil) rfl Splits.nil
theorem lawJoin_any (a b : ByteArray) (w : World) (h0 : a.size ≤ 140737488351232) (h1 : b.size ≤ 140737488351232) :
    Calls Try.prog 8 #[.string a, .string b] w fun e w' => e = .returned (.bool true) ∧ Below w.heap.size w w' := lawJoin_p a b h0 h1 w
end Go.Proofs.Ytekjfmjeemjcjaa
