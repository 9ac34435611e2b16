/-
  canticleref03.Runs gives the rows of pieces of one kind. Nothing is assumed.
-/
import Derived.Test.YtekjfmjeemjcjaaC1
namespace Go.Proofs.Ytekjfmjeemjcjaa
open Go.RowKit Go.Lib
set_option linter.unusedVariables false
set_option linter.unusedSimpArgs false
theorem rout_len (L : List Pc) : (rout (rfold L)).length ≤ L.length := by
  have key : ∀ (n : Nat) (L : List Pc), L.length ≤ n → (rout (rfold L)).length ≤ L.length := by
    intro n
    induction n with
    | zero => intro L h; have : L = [] := List.eq_nil_of_length_eq_zero (by omega); subst this; simp [rfold, rout]
    | succ n ih =>
      intro L h
      rcases List.eq_nil_or_concat L with rfl | ⟨M, p, rfl⟩
      · simp [rfold, rout]
      · rw [List.concat_eq_append] at h ⊢
        have := ih M (by simp at h; omega)
        rw [rfold_snoc]
        rcases hr : rfold M with ⟨E, _ | n⟩ <;> rw [hr] at this
        · simp [rstep, rout] at this ⊢; omega
        · by_cases h : n.k = pk p <;> simp [rstep, rout, h] at this ⊢ <;> omega
  exact key _ L (Nat.le_refl _)
set_option maxRecDepth 100000 in
set_option maxHeartbeats 4000000 in
theorem rruns_fn (s : ByteArray) (hs : s.size ≤ 2147483647) : Fn Try.prog 16 [.string s] [] (fun v : Value => v) (fun v => [vec rnC 36 3 v (runs (pcs s.data.toList))]) := by
  refine Fn.intro Try.func16 rfl Try.ntmps16 (by simp) ?_
  intro w0 K
  refine TC.seq ?_
  refine TC.region ?_
  refine TO.assign rfl (by decide) rfl ?_
  refine TO.nil ?_
  refine TX.next ?_
  refine TC.seq ?_
  refine TC.region ?_
  refine TO.move rfl (by decide) rfl ?_
  refine TO.call (vs := [.string s]) rfl (by decide) rfl rfl rfl en_23 (rpieces_fn s hs) Splits.nil ?_
  rintro l
  show TO _ _ _ _ _ _ _ _ _ _ [vec pcV 47 4 l (pcs s.data.toList)]
  refine TO.assign rfl (by decide) rfl ?_
  refine TO.nil ?_
  refine TX.next ?_
  refine TC.seq ?_
  refine TC.newVec (enc := rnC) (e := 36) (size := 3) ?_
  refine TC.region ?_
  refine TO.assign rfl (by decide) rfl ?_
  refine TO.nil ?_
  refine TX.next ?_
  refine TC.seq ?_
  refine TC.seq ?_
  refine TC.region ?_
  refine TO.assign rfl (by decide) rfl ?_
  refine TO.nil ?_
  refine TX.next ?_
  refine TC.block ?_
  refine TC.loop (β := Nat × Value) (fun b => (b.1 ≤ (pcs s.data.toList).length) ∧ True) (fun b => [(3, l), (4, b.2), (5, .int .i64 (b.1 : Int))]) (fun b => [vec pcV 47 4 l (pcs s.data.toList), vec rnC 36 3 b.2 (rout (rfold ((pcs s.data.toList).take b.1)))]) (fun b => (pcs s.data.toList).length - b.1) (0, .slice none 0 0) ⟨Nat.zero_le _, trivial⟩ (Sub.cons rfl (Sub.cons rfl (Sub.cons rfl (Sub.nil)))) (Splits.of [0, 1] (by as_aux_lemma => kernel_rfl) rfl) ?_
  rintro ⟨k, v⟩ hI
  show TC _ _ _ _ _ _ _ _ [(3, l), (4, v), (5, .int .i64 (k : Int))] [vec pcV 47 4 l (pcs s.data.toList), vec rnC 36 3 v (rout (rfold ((pcs s.data.toList).take k)))]
  have hk := hI.1
  obtain ⟨hk⟩ := hI
  by_cases hlt : k < (pcs s.data.toList).length
  ·
    obtain ⟨p, hp⟩ : ∃ p, (pcs s.data.toList)[k]? = some p := ⟨_, List.getElem?_eq_getElem hlt⟩
    have hmem : p ∈ pcs s.data.toList := List.mem_of_getElem? hp
    have hv := pcs_valid _ p hmem
    have hend : p.i + p.w ≤ s.size := by simpa using (pcs_pos _ p hmem).2.1
    have hlen := pcs_len s
    have hst : rfold ((pcs s.data.toList).take (k + 1)) = rstep (rfold ((pcs s.data.toList).take k)) p := by rw [take_snoc _ _ _ hp, rfold_snoc]
    have hout := rout_len ((pcs s.data.toList).take k)
    rw [List.length_take] at hout
    show TC _ _ _ _ _ _ _ _ [(3, l), (4, v), (5, .int .i64 (k : Int))] [vec pcV 47 4 l (pcs s.data.toList), vec rnC 36 3 v (rout (rfold ((pcs s.data.toList).take k)))]
    rcases hr : rfold ((pcs s.data.toList).take k) with ⟨E, _ | n⟩
    ·
      obtain ⟨_, rfl⟩ := runs_nil _ _ hr
      rw [hr] at hst hout
      simp only [rout, List.length_nil] at hout
      show TC _ _ _ _ _ _ _ _ [(3, l), (4, v), (5, .int .i64 (k : Int))] [vec pcV 47 4 l (pcs s.data.toList), vec rnC 36 3 v ([] : List Rn)]
      refine TC.seq ?_
      refine TC.seq ?_
      refine TC.region ?_
      refine TO.move rfl (by decide) rfl ?_
      refine TO.move rfl (by decide) rfl ?_
      refine TO.lenVec (k := 0) rfl (by decide) rfl rfl Try.underlying43 ?_
      refine TO.bin rfl (by decide) rfl rfl (bin_known (congrArg Value.bool (show (decide (((k : Int) : Int) < ((pcs s.data.toList).length : Int))) = true from (by simp <;> omega))) bin_lss) ?_
      refine TO.nil ?_
      refine TX.next ?_
      refine TC.condT rfl ?_
      refine TC.skip ?_
      refine TX.next ?_
      refine TC.seq ?_
      refine TC.block ?_
      refine TC.seq ?_
      refine TC.region ?_
      refine TO.move rfl (by decide) rfl ?_
      refine TO.lenVec (k := 1) rfl (by decide) rfl rfl Try.underlying25 ?_
      refine TO.assign rfl (by decide) rfl ?_
      refine TO.nil ?_
      refine TX.next ?_
      refine TC.seq ?_
      refine TC.seq ?_
      refine TC.drawN 14 [(0, 17, .int .i64 (([] : List Rn).length : Int)), (1, 18, .bool true), (2, 19, .bool true), (3, 20, undef), (4, 21, undef), (5, 22, undef), (6, 23, undef), (7, 24, undef), (8, 25, undef), (9, 26, undef), (10, 27, undef), (11, 28, undef), (12, 29, undef), (13, 30, undef)] mixed (by as_aux_lemma => kernel_rfl) (by as_aux_lemma => kernel_rfl) (by decide) (by rfl) (by as_aux_lemma => kernel_rfl) (by as_aux_lemma => kernel_rfl) (DrawPre.cons ?_ (DrawPre.cons ?_ (DrawPre.cons ?_ (DrawPre.cons ?_ (DrawPre.cons ?_ (DrawPre.cons ?_ (DrawPre.cons ?_ (DrawPre.cons ?_ (DrawPre.cons ?_ (DrawPre.cons ?_ (DrawPre.cons ?_ (DrawPre.cons ?_ (DrawPre.cons ?_ (DrawPre.cons ?_ DrawPre.nil)))))))))))))) ?_
      · intro D hn hd hcl hu hi
        refine TO.move rfl (by decide) (dl_old (by rfl) rfl) ?_
        exact TX.quiet 0 hu hi rfl
      · intro D hn hd hcl hu hi
        refine TO.bin rfl (by decide) (dl_lookup (m := 0) hu rfl (hd 0 (by decide))) rfl (bin_known (congrArg Value.bool (show (((([] : List Rn).length : Int) : Int) == 0) = true from (by simp))) bin_eql) ?_
        exact TX.quiet 1 hu hi rfl
      · intro D hn hd hcl hu hi
        refine TO.move rfl (by decide) (dl_lookup (m := 1) hu rfl (hd 1 (by decide))) ?_
        exact TX.quiet 2 hu hi rfl
      · intro D hn hd hcl hu hi
        refine TO.skip (gd_F rfl (dl_lookup (m := 2) hu rfl (hd 2 (by decide)))) (by decide) ?_
        exact TX.quiet 3 hu hi rfl
      · intro D hn hd hcl hu hi
        refine TO.skip (gd_F rfl (dl_lookup (m := 2) hu rfl (hd 2 (by decide)))) (by decide) ?_
        exact TX.quiet 4 hu hi rfl
      · intro D hn hd hcl hu hi
        refine TO.skip (gd_F rfl (dl_lookup (m := 2) hu rfl (hd 2 (by decide)))) (by decide) ?_
        exact TX.quiet 5 hu hi rfl
      · intro D hn hd hcl hu hi
        refine TO.skip (gd_F rfl (dl_lookup (m := 2) hu rfl (hd 2 (by decide)))) (by decide) ?_
        exact TX.quiet 6 hu hi rfl
      · intro D hn hd hcl hu hi
        refine TO.skip (gd_F rfl (dl_lookup (m := 2) hu rfl (hd 2 (by decide)))) (by decide) ?_
        exact TX.quiet 7 hu hi rfl
      · intro D hn hd hcl hu hi
        refine TO.skip (gd_F rfl (dl_lookup (m := 2) hu rfl (hd 2 (by decide)))) (by decide) ?_
        exact TX.quiet 8 hu hi rfl
      · intro D hn hd hcl hu hi
        refine TO.skip (gd_F rfl (dl_lookup (m := 2) hu rfl (hd 2 (by decide)))) (by decide) ?_
        exact TX.quiet 9 hu hi rfl
      · intro D hn hd hcl hu hi
        refine TO.skip (gd_F rfl (dl_lookup (m := 2) hu rfl (hd 2 (by decide)))) (by decide) ?_
        exact TX.quiet 10 hu hi rfl
      · intro D hn hd hcl hu hi
        refine TO.skip (gd_F rfl (dl_lookup (m := 2) hu rfl (hd 2 (by decide)))) (by decide) ?_
        exact TX.quiet 11 hu hi rfl
      · intro D hn hd hcl hu hi
        refine TO.skip (gd_F rfl (dl_lookup (m := 2) hu rfl (hd 2 (by decide)))) (by decide) ?_
        exact TX.quiet 12 hu hi rfl
      · intro D hn hd hcl hu hi
        refine TO.skip (gd_F rfl (dl_lookup (m := 2) hu rfl (hd 2 (by decide)))) (by decide) ?_
        exact TX.quiet 13 hu hi rfl
      refine TO.skip rfl (by decide) ?_
      refine TO.pick (b := true) rfl (by decide) rfl rfl ?_
      refine TO.nil ?_
      refine TX.next ?_
      refine TC.condT rfl ?_
      refine TC.seq ?_
      refine TC.drawB (β := Nat) 17 _ [(0, 33, v), (1, 34, l), (2, 35, .int .i64 (k : Int)), (3, 36, .pointer (some ⟨vblk l, k * 4, none⟩)), (4, 37, .pointer (some ⟨vblk l, k * 4, none⟩)), (5, 38, .int .i64 (p.i : Int)), (6, 39, l), (7, 40, .int .i64 (k : Int)), (8, 41, .pointer (some ⟨vblk l, k * 4, none⟩)), (9, 42, .pointer (some ⟨vblk l, k * 4, none⟩)), (10, 43, .int .i64 (p.i : Int)), (11, 44, l), (12, 45, .int .i64 (k : Int)), (13, 46, .pointer (some ⟨vblk l, k * 4, none⟩)), (14, 47, .agg #[.int .i64 (p.i : Int), .int .i64 (p.w : Int), .int .i32 (p.r : Int), .bool p.broken]), (15, 48, .int .i64 (kindOf p.broken p.r)), (16, 49, .agg #[.int .i64 (p.i : Int), .int .i64 (p.i : Int), .int .i64 (kindOf p.broken p.r)])] (fun b901 => [(50, .slice (some ⟨b901, 0, none⟩) 1 1)]) (fun b901 => [vec pcV 47 4 l (pcs s.data.toList), vec rnC 36 3 v ([] : List Rn), cells b901 [.int .i64 (p.i : Int), .int .i64 (p.i : Int), .int .i64 (kindOf p.broken p.r)] 36]) mixed (by as_aux_lemma => kernel_rfl) (by as_aux_lemma => kernel_rfl) rfl (by rfl) (by as_aux_lemma => kernel_rfl) (by as_aux_lemma => kernel_rfl) (DrawPre.cons ?_ (DrawPre.cons ?_ (DrawPre.cons ?_ (DrawPre.cons ?_ (DrawPre.cons ?_ (DrawPre.cons ?_ (DrawPre.cons ?_ (DrawPre.cons ?_ (DrawPre.cons ?_ (DrawPre.cons ?_ (DrawPre.cons ?_ (DrawPre.cons ?_ (DrawPre.cons ?_ (DrawPre.cons ?_ (DrawPre.cons ?_ (DrawPre.cons ?_ (DrawPre.cons ?_ DrawPre.nil))))))))))))))))) (fun b901 => (DrawPre.cons ?_ (DrawPre.cons ?_ (DrawPre.cons ?_ (DrawPre.cons ?_ (DrawPre.cons ?_ (DrawPre.cons ?_ (DrawPre.cons ?_ (DrawPre.cons ?_ (DrawPre.cons ?_ (DrawPre.cons ?_ (DrawPre.cons ?_ (DrawPre.cons ?_ (DrawPre.cons ?_ (DrawPre.cons ?_ (DrawPre.cons ?_ (DrawPre.cons ?_ (DrawPre.cons ?_ DrawPre.nil)))))))))))))))))) ?_ ?_
      · intro D hn hd hcl hu hi
        refine TO.move rfl (by decide) (dl_old (by rfl) rfl) ?_
        exact TX.quiet 0 hu hi rfl
      · intro D hn hd hcl hu hi
        refine TO.move rfl (by decide) (dl_old (by rfl) rfl) ?_
        exact TX.quiet 1 hu hi rfl
      · intro D hn hd hcl hu hi
        refine TO.move rfl (by decide) (dl_old (by rfl) rfl) ?_
        exact TX.quiet 2 hu hi rfl
      · intro D hn hd hcl hu hi
        refine TO.indexVec (i := k) (k := 0) Try.underlying43 sz_47 rfl (by decide) (dl_lookup (m := 1) hu rfl (hd 1 (by decide))) (dl_lookup (m := 2) hu rfl (hd 2 (by decide))) rfl (by omega) rfl ?_
        exact TX.quiet 3 hu hi rfl
      · intro D hn hd hcl hu hi
        refine TO.fieldAddr fl_47_0 rfl (by decide) (dl_lookup (m := 3) hu rfl (hd 3 (by decide))) (show _ = k * 4 from rfl) ?_
        exact TX.quiet 4 hu hi rfl
      · intro D hn hd hcl hu hi
        refine TO.loadVec (i := k) (j := 0) (k := 0) (q := p) sc_3 pcV_len rfl (by decide) (dl_lookup (m := 4) hu rfl (hd 4 (by decide))) rfl hp rfl (by decide) rfl ?_
        exact TX.quiet 5 hu hi rfl
      · intro D hn hd hcl hu hi
        refine TO.move rfl (by decide) (dl_old (by rfl) rfl) ?_
        exact TX.quiet 6 hu hi rfl
      · intro D hn hd hcl hu hi
        refine TO.move rfl (by decide) (dl_old (by rfl) rfl) ?_
        exact TX.quiet 7 hu hi rfl
      · intro D hn hd hcl hu hi
        refine TO.indexVec (i := k) (k := 0) Try.underlying43 sz_47 rfl (by decide) (dl_lookup (m := 6) hu rfl (hd 6 (by decide))) (dl_lookup (m := 7) hu rfl (hd 7 (by decide))) rfl (by omega) rfl ?_
        exact TX.quiet 8 hu hi rfl
      · intro D hn hd hcl hu hi
        refine TO.fieldAddr fl_47_0 rfl (by decide) (dl_lookup (m := 8) hu rfl (hd 8 (by decide))) (show _ = k * 4 from rfl) ?_
        exact TX.quiet 9 hu hi rfl
      · intro D hn hd hcl hu hi
        refine TO.loadVec (i := k) (j := 0) (k := 0) (q := p) sc_3 pcV_len rfl (by decide) (dl_lookup (m := 9) hu rfl (hd 9 (by decide))) rfl hp rfl (by decide) rfl ?_
        exact TX.quiet 10 hu hi rfl
      · intro D hn hd hcl hu hi
        refine TO.move rfl (by decide) (dl_old (by rfl) rfl) ?_
        exact TX.quiet 11 hu hi rfl
      · intro D hn hd hcl hu hi
        refine TO.move rfl (by decide) (dl_old (by rfl) rfl) ?_
        exact TX.quiet 12 hu hi rfl
      · intro D hn hd hcl hu hi
        refine TO.indexVec (i := k) (k := 0) Try.underlying43 sz_47 rfl (by decide) (dl_lookup (m := 11) hu rfl (hd 11 (by decide))) (dl_lookup (m := 12) hu rfl (hd 12 (by decide))) rfl (by omega) rfl ?_
        exact TX.quiet 13 hu hi rfl
      · intro D hn hd hcl hu hi
        refine TO.loadsVec (i := k) (j := 0) (k := 0) (q := p) (cs := [.int .i64 (p.i : Int), .int .i64 (p.w : Int), .int .i32 (p.r : Int), .bool p.broken]) rw_47 pcV_len rfl (by decide) (dl_lookup (m := 13) hu rfl (hd 13 (by decide))) rfl hp rfl rfl rfl ?_
        exact TX.quiet 14 hu hi rfl
      · intro D hn hd hcl hu hi
        refine TO.callP (v := .int .i64 (kindOf p.broken p.r)) (vs := [.agg #[.int .i64 (p.i : Int), .int .i64 (p.w : Int), .int .i32 (p.r : Int), .bool p.broken]]) rfl (by decide) rfl (evL.cons (dl_lookup (m := 14) hu rfl (hd 14 (by decide))) evL.nil) rfl en_24 (rof_p _ _ _ _ (by omega) (by omega)) ?_
        exact TX.quiet 15 hu hi rfl
      · intro D hn hd hcl hu hi
        refine TO.build (v := .agg #[.int .i64 (p.i : Int), .int .i64 (p.i : Int), .int .i64 (kindOf p.broken p.r)]) (ps := [(0, .tmp 38), (1, .tmp 43), (2, .tmp 48)]) rfl (by decide) (evP.cons (dl_lookup (m := 5) hu rfl (hd 5 (by decide))) (evP.cons (dl_lookup (m := 10) hu rfl (hd 10 (by decide))) (evP.cons (dl_lookup (m := 15) hu rfl (hd 15 (by decide))) evP.nil))) (fun _ => by kernel_rfl) ?_
        exact TX.quiet 16 hu hi rfl
      · intro D hn hd hcl hu hi
        refine TO.move rfl (by decide) (dl_old (by rfl) rfl) ?_
        exact TX.quiet 0 hu hi rfl
      · intro D hn hd hcl hu hi
        refine TO.move rfl (by decide) (dl_old (by rfl) rfl) ?_
        exact TX.quiet 1 hu hi rfl
      · intro D hn hd hcl hu hi
        refine TO.move rfl (by decide) (dl_old (by rfl) rfl) ?_
        exact TX.quiet 2 hu hi rfl
      · intro D hn hd hcl hu hi
        refine TO.indexVec (i := k) (k := 0) Try.underlying43 sz_47 rfl (by decide) (dl_lookup (m := 1) hu rfl (hd 1 (by decide))) (dl_lookup (m := 2) hu rfl (hd 2 (by decide))) rfl (by omega) rfl ?_
        exact TX.quiet 3 hu hi rfl
      · intro D hn hd hcl hu hi
        refine TO.fieldAddr fl_47_0 rfl (by decide) (dl_lookup (m := 3) hu rfl (hd 3 (by decide))) (show _ = k * 4 from rfl) ?_
        exact TX.quiet 4 hu hi rfl
      · intro D hn hd hcl hu hi
        refine TO.loadVec (i := k) (j := 0) (k := 0) (q := p) sc_3 pcV_len rfl (by decide) (dl_lookup (m := 4) hu rfl (hd 4 (by decide))) rfl hp rfl (by decide) rfl ?_
        exact TX.quiet 5 hu hi rfl
      · intro D hn hd hcl hu hi
        refine TO.move rfl (by decide) (dl_old (by rfl) rfl) ?_
        exact TX.quiet 6 hu hi rfl
      · intro D hn hd hcl hu hi
        refine TO.move rfl (by decide) (dl_old (by rfl) rfl) ?_
        exact TX.quiet 7 hu hi rfl
      · intro D hn hd hcl hu hi
        refine TO.indexVec (i := k) (k := 0) Try.underlying43 sz_47 rfl (by decide) (dl_lookup (m := 6) hu rfl (hd 6 (by decide))) (dl_lookup (m := 7) hu rfl (hd 7 (by decide))) rfl (by omega) rfl ?_
        exact TX.quiet 8 hu hi rfl
      · intro D hn hd hcl hu hi
        refine TO.fieldAddr fl_47_0 rfl (by decide) (dl_lookup (m := 8) hu rfl (hd 8 (by decide))) (show _ = k * 4 from rfl) ?_
        exact TX.quiet 9 hu hi rfl
      · intro D hn hd hcl hu hi
        refine TO.loadVec (i := k) (j := 0) (k := 0) (q := p) sc_3 pcV_len rfl (by decide) (dl_lookup (m := 9) hu rfl (hd 9 (by decide))) rfl hp rfl (by decide) rfl ?_
        exact TX.quiet 10 hu hi rfl
      · intro D hn hd hcl hu hi
        refine TO.move rfl (by decide) (dl_old (by rfl) rfl) ?_
        exact TX.quiet 11 hu hi rfl
      · intro D hn hd hcl hu hi
        refine TO.move rfl (by decide) (dl_old (by rfl) rfl) ?_
        exact TX.quiet 12 hu hi rfl
      · intro D hn hd hcl hu hi
        refine TO.indexVec (i := k) (k := 0) Try.underlying43 sz_47 rfl (by decide) (dl_lookup (m := 11) hu rfl (hd 11 (by decide))) (dl_lookup (m := 12) hu rfl (hd 12 (by decide))) rfl (by omega) rfl ?_
        exact TX.quiet 13 hu hi rfl
      · intro D hn hd hcl hu hi
        refine TO.loadsVec (i := k) (j := 0) (k := 0) (q := p) (cs := [.int .i64 (p.i : Int), .int .i64 (p.w : Int), .int .i32 (p.r : Int), .bool p.broken]) rw_47 pcV_len rfl (by decide) (dl_lookup (m := 13) hu rfl (hd 13 (by decide))) rfl hp rfl rfl rfl ?_
        exact TX.quiet 14 hu hi rfl
      · intro D hn hd hcl hu hi
        refine TO.callP (v := .int .i64 (kindOf p.broken p.r)) (vs := [.agg #[.int .i64 (p.i : Int), .int .i64 (p.w : Int), .int .i32 (p.r : Int), .bool p.broken]]) rfl (by decide) rfl (evL.cons (dl_lookup (m := 14) hu rfl (hd 14 (by decide))) evL.nil) rfl en_24 (rof_p _ _ _ _ (by omega) (by omega)) ?_
        exact TX.quiet 15 hu hi rfl
      · intro D hn hd hcl hu hi
        refine TO.build (v := .agg #[.int .i64 (p.i : Int), .int .i64 (p.i : Int), .int .i64 (kindOf p.broken p.r)]) (ps := [(0, .tmp 38), (1, .tmp 43), (2, .tmp 48)]) rfl (by decide) (evP.cons (dl_lookup (m := 5) hu rfl (hd 5 (by decide))) (evP.cons (dl_lookup (m := 10) hu rfl (hd 10 (by decide))) (evP.cons (dl_lookup (m := 15) hu rfl (hd 15 (by decide))) evP.nil))) (fun _ => by kernel_rfl) ?_
        exact TX.quiet 16 hu hi rfl
      · intro D hn hd hcl
        refine TO.buildSlice (cs := [.int .i64 (p.i : Int), .int .i64 (p.i : Int), .int .i64 (kindOf p.broken p.r)]) (te := 36) (ps := [(0, .tmp 49)]) rfl (by decide) (evP.cons (dl_lookup (m := 16) (by as_aux_lemma => kernel_rfl) rfl (hd 16 (by decide))) evP.nil) (fun _ => by kernel_rfl) (fun b901 => ?_)
        exact fun a w ha hw => ⟨b901, Sub.mid (by rfl) _ _ _ ha, hw⟩
      intro b901
      refine TO.appendVec (k := 1) (k2 := 2) (ys := [(⟨p.i, p.i, kindOf p.broken p.r⟩ : Rn)]) Try.underlying25 el_36 rnC_len rnC_one rfl (by decide) rfl rfl rfl rfl rfl rfl (by simp <;> omega) (fun v1 => ?_)
      refine TO.assign rfl (by decide) rfl ?_
      refine TO.nil ?_
      refine TX.next ?_
      refine TC.region ?_
      refine TO.move rfl (by decide) rfl ?_
      refine TO.bin rfl (by decide) rfl rfl (bin_add (r := (([] : List Rn).length : Int) + 1) (IntWalk.i64_in _ (by simp <;> (try omega)))) ?_
      refine TO.assign rfl (by decide) rfl ?_
      refine TO.nil ?_
      refine TX.next ?_
      refine TC.drawN 14 [(0, 54, v1), (1, 55, .int .i64 ((([] : List Rn).length : Int) + 1)), (2, 56, .int .i64 ((0 : Nat) : Int)), (3, 57, l), (4, 58, .int .i64 (k : Int)), (5, 59, .pointer (some ⟨vblk l, k * 4, none⟩)), (6, 60, .pointer (some ⟨vblk l, k * 4, none⟩)), (7, 61, .int .i64 (p.i : Int)), (8, 62, l), (9, 63, .int .i64 (k : Int)), (10, 64, .pointer (some ⟨vblk l, k * 4, none⟩)), (11, 65, .pointer (some ⟨vblk l, k * 4 + 1, none⟩)), (12, 66, .int .i64 (p.w : Int)), (13, 67, .int .i64 ((p.i : Int) + (p.w : Int)))] mixed (by as_aux_lemma => kernel_rfl) (by as_aux_lemma => kernel_rfl) (by decide) (by rfl) (by as_aux_lemma => kernel_rfl) (by as_aux_lemma => kernel_rfl) (DrawPre.cons ?_ (DrawPre.cons ?_ (DrawPre.cons ?_ (DrawPre.cons ?_ (DrawPre.cons ?_ (DrawPre.cons ?_ (DrawPre.cons ?_ (DrawPre.cons ?_ (DrawPre.cons ?_ (DrawPre.cons ?_ (DrawPre.cons ?_ (DrawPre.cons ?_ (DrawPre.cons ?_ (DrawPre.cons ?_ DrawPre.nil)))))))))))))) ?_
      · intro D hn hd hcl hu hi
        refine TO.move rfl (by decide) (dl_old (by rfl) rfl) ?_
        exact TX.quiet 0 hu hi rfl
      · intro D hn hd hcl hu hi
        refine TO.move rfl (by decide) (dl_old (by rfl) rfl) ?_
        exact TX.quiet 1 hu hi rfl
      · intro D hn hd hcl hu hi
        refine TO.bin rfl (by decide) (dl_lookup (m := 1) hu rfl (hd 1 (by decide))) rfl (bin_sub (r := ((0 : Nat) : Int)) (by rw [IntWalk.i64_in _ (by simp)]; simp)) ?_
        exact TX.quiet 2 hu hi rfl
      · intro D hn hd hcl hu hi
        refine TO.move rfl (by decide) (dl_old (by rfl) rfl) ?_
        exact TX.quiet 3 hu hi rfl
      · intro D hn hd hcl hu hi
        refine TO.move rfl (by decide) (dl_old (by rfl) rfl) ?_
        exact TX.quiet 4 hu hi rfl
      · intro D hn hd hcl hu hi
        refine TO.indexVec (i := k) (k := 0) Try.underlying43 sz_47 rfl (by decide) (dl_lookup (m := 3) hu rfl (hd 3 (by decide))) (dl_lookup (m := 4) hu rfl (hd 4 (by decide))) rfl (by omega) rfl ?_
        exact TX.quiet 5 hu hi rfl
      · intro D hn hd hcl hu hi
        refine TO.fieldAddr fl_47_0 rfl (by decide) (dl_lookup (m := 5) hu rfl (hd 5 (by decide))) (show _ = k * 4 from rfl) ?_
        exact TX.quiet 6 hu hi rfl
      · intro D hn hd hcl hu hi
        refine TO.loadVec (i := k) (j := 0) (k := 0) (q := p) sc_3 pcV_len rfl (by decide) (dl_lookup (m := 6) hu rfl (hd 6 (by decide))) rfl hp rfl (by decide) rfl ?_
        exact TX.quiet 7 hu hi rfl
      · intro D hn hd hcl hu hi
        refine TO.move rfl (by decide) (dl_old (by rfl) rfl) ?_
        exact TX.quiet 8 hu hi rfl
      · intro D hn hd hcl hu hi
        refine TO.move rfl (by decide) (dl_old (by rfl) rfl) ?_
        exact TX.quiet 9 hu hi rfl
      · intro D hn hd hcl hu hi
        refine TO.indexVec (i := k) (k := 0) Try.underlying43 sz_47 rfl (by decide) (dl_lookup (m := 8) hu rfl (hd 8 (by decide))) (dl_lookup (m := 9) hu rfl (hd 9 (by decide))) rfl (by omega) rfl ?_
        exact TX.quiet 10 hu hi rfl
      · intro D hn hd hcl hu hi
        refine TO.fieldAddr fl_47_1 rfl (by decide) (dl_lookup (m := 10) hu rfl (hd 10 (by decide))) (show _ = k * 4 + 1 from rfl) ?_
        exact TX.quiet 11 hu hi rfl
      · intro D hn hd hcl hu hi
        refine TO.loadVec (i := k) (j := 1) (k := 0) (q := p) sc_3 pcV_len rfl (by decide) (dl_lookup (m := 11) hu rfl (hd 11 (by decide))) rfl hp rfl (by decide) rfl ?_
        exact TX.quiet 12 hu hi rfl
      · intro D hn hd hcl hu hi
        refine TO.bin rfl (by decide) (dl_lookup (m := 7) hu rfl (hd 7 (by decide))) (dl_lookup (m := 12) hu rfl (hd 12 (by decide))) (bin_add (r := (p.i : Int) + (p.w : Int)) (IntWalk.i64_in _ (by omega))) ?_
        exact TX.quiet 13 hu hi rfl
      refine TO.indexVec (i := 0) (k := 1) Try.underlying25 sz_36 rfl (by decide) rfl rfl rfl (by simp) rfl ?_
      refine TO.fieldAddr fl_36_1 rfl (by decide) rfl (show _ = 0 * 3 + 1 from rfl) ?_
      refine TO.storeVec (i := 0) (j := 1) (k := 1) (q := ⟨p.i, p.i, kindOf p.broken p.r⟩) (q' := (⟨p.i, p.i + p.w, kindOf p.broken p.r⟩ : Rn)) sz_3 rnC_len rfl rfl rfl rfl (by simp) rfl (by decide) rfl (fun _ _ => rfl) ?_
      show TO _ _ _ _ _ _ _ _ _ _ [vec pcV 47 4 l (pcs s.data.toList), vec rnC 36 3 v1 ((([] : List Rn) ++ ([(⟨p.i, p.i, kindOf p.broken p.r⟩ : Rn)])).set 0 (⟨p.i, p.i + p.w, kindOf p.broken p.r⟩ : Rn)), cells b901 [.int .i64 (p.i : Int), .int .i64 (p.i : Int), .int .i64 (kindOf p.broken p.r)] 36]
      refine TO.nil ?_
      refine TX.blockNormal ?_
      refine TX.next ?_
      refine TC.region ?_
      refine TO.move rfl (by decide) rfl ?_
      refine TO.bin rfl (by decide) rfl rfl (bin_add (r := (k : Int) + 1) (IntWalk.i64_in _ (by omega))) ?_
      refine TO.assign rfl (by decide) rfl ?_
      refine TO.nil ?_
      have hset : (([] : List Rn) ++ ([(⟨p.i, p.i, kindOf p.broken p.r⟩ : Rn)])).set 0 (⟨p.i, p.i + p.w, kindOf p.broken p.r⟩ : Rn) = rout (rfold ((pcs s.data.toList).take (k + 1))) := (by rw [hst]; simp [rstep, rout, rnew, pk])
      refine TX.rewE (k := 1) rfl (show vec rnC 36 3 v1 ((([] : List Rn) ++ ([(⟨p.i, p.i, kindOf p.broken p.r⟩ : Rn)])).set 0 (⟨p.i, p.i + p.w, kindOf p.broken p.r⟩ : Rn)) = vec rnC 36 3 v1 (rout (rfold ((pcs s.data.toList).take (k + 1)))) from (congrArg (fun z => vec rnC 36 3 v1 z) hset)) ?_
      show TX _ _ _ _ _ _ _ [vec pcV 47 4 l (pcs s.data.toList), vec rnC 36 3 v1 (rout (rfold ((pcs s.data.toList).take (k + 1)))), cells b901 [.int .i64 (p.i : Int), .int .i64 (p.i : Int), .int .i64 (kindOf p.broken p.r)] 36]
      exact TX.again (k + 1, v1) ⟨by simp only; omega, trivial⟩ (by simp only; omega) (Sub.cons rfl (Sub.cons rfl (Sub.cons (congrArg (fun z => some (Value.int .i64 z)) (by simp)) (Sub.nil)))) (Splits.of [0, 1] (by as_aux_lemma => kernel_rfl) rfl)
    ·
      rw [hr] at hst hout
      simp only [rout, List.length_append, List.length_cons, List.length_nil] at hout
      show TC _ _ _ _ _ _ _ _ [(3, l), (4, v), (5, .int .i64 (k : Int))] [vec pcV 47 4 l (pcs s.data.toList), vec rnC 36 3 v (E ++ [n])]
      by_cases heq : n.k = kindOf p.broken p.r
      ·
        refine TC.seq ?_
        refine TC.seq ?_
        refine TC.region ?_
        refine TO.move rfl (by decide) rfl ?_
        refine TO.move rfl (by decide) rfl ?_
        refine TO.lenVec (k := 0) rfl (by decide) rfl rfl Try.underlying43 ?_
        refine TO.bin rfl (by decide) rfl rfl (bin_known (congrArg Value.bool (show (decide (((k : Int) : Int) < ((pcs s.data.toList).length : Int))) = true from (by simp <;> omega))) bin_lss) ?_
        refine TO.nil ?_
        refine TX.next ?_
        refine TC.condT rfl ?_
        refine TC.skip ?_
        refine TX.next ?_
        refine TC.seq ?_
        refine TC.block ?_
        refine TC.seq ?_
        refine TC.region ?_
        refine TO.move rfl (by decide) rfl ?_
        refine TO.lenVec (k := 1) rfl (by decide) rfl rfl Try.underlying25 ?_
        refine TO.assign rfl (by decide) rfl ?_
        refine TO.nil ?_
        refine TX.next ?_
        refine TC.seq ?_
        refine TC.seq ?_
        refine TC.drawN 14 [(0, 17, .int .i64 ((E ++ [n]).length : Int)), (1, 18, .bool false), (2, 19, .bool false), (3, 20, v), (4, 21, .int .i64 ((E ++ [n]).length : Int)), (5, 22, .int .i64 ((E.length : Nat) : Int)), (6, 23, .pointer (some ⟨vblk v, E.length * 3, none⟩)), (7, 24, .pointer (some ⟨vblk v, E.length * 3 + 2, none⟩)), (8, 25, .int .i64 n.k), (9, 26, l), (10, 27, .int .i64 (k : Int)), (11, 28, .pointer (some ⟨vblk l, k * 4, none⟩)), (12, 29, .agg #[.int .i64 (p.i : Int), .int .i64 (p.w : Int), .int .i32 (p.r : Int), .bool p.broken]), (13, 30, .int .i64 (kindOf p.broken p.r))] mixed (by as_aux_lemma => kernel_rfl) (by as_aux_lemma => kernel_rfl) (by decide) (by rfl) (by as_aux_lemma => kernel_rfl) (by as_aux_lemma => kernel_rfl) (DrawPre.cons ?_ (DrawPre.cons ?_ (DrawPre.cons ?_ (DrawPre.cons ?_ (DrawPre.cons ?_ (DrawPre.cons ?_ (DrawPre.cons ?_ (DrawPre.cons ?_ (DrawPre.cons ?_ (DrawPre.cons ?_ (DrawPre.cons ?_ (DrawPre.cons ?_ (DrawPre.cons ?_ (DrawPre.cons ?_ DrawPre.nil)))))))))))))) ?_
        · intro D hn hd hcl hu hi
          refine TO.move rfl (by decide) (dl_old (by rfl) rfl) ?_
          exact TX.quiet 0 hu hi rfl
        · intro D hn hd hcl hu hi
          refine TO.bin rfl (by decide) (dl_lookup (m := 0) hu rfl (hd 0 (by decide))) rfl (bin_known (congrArg Value.bool (show ((((E ++ [n]).length : Int) : Int) == 0) = false from (by simp <;> omega))) bin_eql) ?_
          exact TX.quiet 1 hu hi rfl
        · intro D hn hd hcl hu hi
          refine TO.move rfl (by decide) (dl_lookup (m := 1) hu rfl (hd 1 (by decide))) ?_
          exact TX.quiet 2 hu hi rfl
        · intro D hn hd hcl hu hi
          refine TO.move (gd_T rfl (dl_lookup (m := 2) hu rfl (hd 2 (by decide)))) (by decide) (dl_old (by rfl) rfl) ?_
          exact TX.quiet 3 hu hi rfl
        · intro D hn hd hcl hu hi
          refine TO.move (gd_T rfl (dl_lookup (m := 2) hu rfl (hd 2 (by decide)))) (by decide) (dl_old (by rfl) rfl) ?_
          exact TX.quiet 4 hu hi rfl
        · intro D hn hd hcl hu hi
          refine TO.bin (gd_T rfl (dl_lookup (m := 2) hu rfl (hd 2 (by decide)))) (by decide) (dl_lookup (m := 4) hu rfl (hd 4 (by decide))) rfl (bin_sub (r := ((E.length : Nat) : Int)) (by rw [IntWalk.i64_in _ (by simp <;> omega)]; simp)) ?_
          exact TX.quiet 5 hu hi rfl
        · intro D hn hd hcl hu hi
          refine TO.indexVec (i := E.length) (k := 1) Try.underlying25 sz_36 (gd_T rfl (dl_lookup (m := 2) hu rfl (hd 2 (by decide)))) (by decide) (dl_lookup (m := 3) hu rfl (hd 3 (by decide))) (dl_lookup (m := 5) hu rfl (hd 5 (by decide))) rfl (by simp) rfl ?_
          exact TX.quiet 6 hu hi rfl
        · intro D hn hd hcl hu hi
          refine TO.fieldAddr fl_36_2 (gd_T rfl (dl_lookup (m := 2) hu rfl (hd 2 (by decide)))) (by decide) (dl_lookup (m := 6) hu rfl (hd 6 (by decide))) (show _ = E.length * 3 + 2 from rfl) ?_
          exact TX.quiet 7 hu hi rfl
        · intro D hn hd hcl hu hi
          refine TO.loadVec (i := E.length) (j := 2) (k := 1) (q := n) sc_3 rnC_len (gd_T rfl (dl_lookup (m := 2) hu rfl (hd 2 (by decide)))) (by decide) (dl_lookup (m := 7) hu rfl (hd 7 (by decide))) rfl (by simp) rfl (by decide) rfl ?_
          exact TX.quiet 8 hu hi rfl
        · intro D hn hd hcl hu hi
          refine TO.move (gd_T rfl (dl_lookup (m := 2) hu rfl (hd 2 (by decide)))) (by decide) (dl_old (by rfl) rfl) ?_
          exact TX.quiet 9 hu hi rfl
        · intro D hn hd hcl hu hi
          refine TO.move (gd_T rfl (dl_lookup (m := 2) hu rfl (hd 2 (by decide)))) (by decide) (dl_old (by rfl) rfl) ?_
          exact TX.quiet 10 hu hi rfl
        · intro D hn hd hcl hu hi
          refine TO.indexVec (i := k) (k := 0) Try.underlying43 sz_47 (gd_T rfl (dl_lookup (m := 2) hu rfl (hd 2 (by decide)))) (by decide) (dl_lookup (m := 9) hu rfl (hd 9 (by decide))) (dl_lookup (m := 10) hu rfl (hd 10 (by decide))) rfl (by omega) rfl ?_
          exact TX.quiet 11 hu hi rfl
        · intro D hn hd hcl hu hi
          refine TO.loadsVec (i := k) (j := 0) (k := 0) (q := p) (cs := [.int .i64 (p.i : Int), .int .i64 (p.w : Int), .int .i32 (p.r : Int), .bool p.broken]) rw_47 pcV_len (gd_T rfl (dl_lookup (m := 2) hu rfl (hd 2 (by decide)))) (by decide) (dl_lookup (m := 11) hu rfl (hd 11 (by decide))) rfl hp rfl rfl rfl ?_
          exact TX.quiet 12 hu hi rfl
        · intro D hn hd hcl hu hi
          refine TO.callP (v := .int .i64 (kindOf p.broken p.r)) (vs := [.agg #[.int .i64 (p.i : Int), .int .i64 (p.w : Int), .int .i32 (p.r : Int), .bool p.broken]]) (gd_T rfl (dl_lookup (m := 2) hu rfl (hd 2 (by decide)))) (by decide) rfl (evL.cons (dl_lookup (m := 12) hu rfl (hd 12 (by decide))) evL.nil) rfl en_24 (rof_p _ _ _ _ (by omega) (by omega)) ?_
          exact TX.quiet 13 hu hi rfl
        refine TO.bin rfl (by decide) rfl rfl (bin_known (congrArg Value.bool (show ((n.k : Int) != (kindOf p.broken p.r)) = false from (by simp [heq]))) bin_neq) ?_
        refine TO.pick (b := false) rfl (by decide) rfl rfl ?_
        refine TO.nil ?_
        refine TX.next ?_
        refine TC.condF rfl ?_
        refine TC.skip ?_
        refine TX.next ?_
        refine TC.drawN 14 [(0, 54, v), (1, 55, .int .i64 ((E ++ [n]).length : Int)), (2, 56, .int .i64 ((E.length : Nat) : Int)), (3, 57, l), (4, 58, .int .i64 (k : Int)), (5, 59, .pointer (some ⟨vblk l, k * 4, none⟩)), (6, 60, .pointer (some ⟨vblk l, k * 4, none⟩)), (7, 61, .int .i64 (p.i : Int)), (8, 62, l), (9, 63, .int .i64 (k : Int)), (10, 64, .pointer (some ⟨vblk l, k * 4, none⟩)), (11, 65, .pointer (some ⟨vblk l, k * 4 + 1, none⟩)), (12, 66, .int .i64 (p.w : Int)), (13, 67, .int .i64 ((p.i : Int) + (p.w : Int)))] mixed (by as_aux_lemma => kernel_rfl) (by as_aux_lemma => kernel_rfl) (by decide) (by rfl) (by as_aux_lemma => kernel_rfl) (by as_aux_lemma => kernel_rfl) (DrawPre.cons ?_ (DrawPre.cons ?_ (DrawPre.cons ?_ (DrawPre.cons ?_ (DrawPre.cons ?_ (DrawPre.cons ?_ (DrawPre.cons ?_ (DrawPre.cons ?_ (DrawPre.cons ?_ (DrawPre.cons ?_ (DrawPre.cons ?_ (DrawPre.cons ?_ (DrawPre.cons ?_ (DrawPre.cons ?_ DrawPre.nil)))))))))))))) ?_
        · intro D hn hd hcl hu hi
          refine TO.move rfl (by decide) (dl_old (by rfl) rfl) ?_
          exact TX.quiet 0 hu hi rfl
        · intro D hn hd hcl hu hi
          refine TO.move rfl (by decide) (dl_old (by rfl) rfl) ?_
          exact TX.quiet 1 hu hi rfl
        · intro D hn hd hcl hu hi
          refine TO.bin rfl (by decide) (dl_lookup (m := 1) hu rfl (hd 1 (by decide))) rfl (bin_sub (r := ((E.length : Nat) : Int)) (by rw [IntWalk.i64_in _ (by simp <;> omega)]; simp)) ?_
          exact TX.quiet 2 hu hi rfl
        · intro D hn hd hcl hu hi
          refine TO.move rfl (by decide) (dl_old (by rfl) rfl) ?_
          exact TX.quiet 3 hu hi rfl
        · intro D hn hd hcl hu hi
          refine TO.move rfl (by decide) (dl_old (by rfl) rfl) ?_
          exact TX.quiet 4 hu hi rfl
        · intro D hn hd hcl hu hi
          refine TO.indexVec (i := k) (k := 0) Try.underlying43 sz_47 rfl (by decide) (dl_lookup (m := 3) hu rfl (hd 3 (by decide))) (dl_lookup (m := 4) hu rfl (hd 4 (by decide))) rfl (by omega) rfl ?_
          exact TX.quiet 5 hu hi rfl
        · intro D hn hd hcl hu hi
          refine TO.fieldAddr fl_47_0 rfl (by decide) (dl_lookup (m := 5) hu rfl (hd 5 (by decide))) (show _ = k * 4 from rfl) ?_
          exact TX.quiet 6 hu hi rfl
        · intro D hn hd hcl hu hi
          refine TO.loadVec (i := k) (j := 0) (k := 0) (q := p) sc_3 pcV_len rfl (by decide) (dl_lookup (m := 6) hu rfl (hd 6 (by decide))) rfl hp rfl (by decide) rfl ?_
          exact TX.quiet 7 hu hi rfl
        · intro D hn hd hcl hu hi
          refine TO.move rfl (by decide) (dl_old (by rfl) rfl) ?_
          exact TX.quiet 8 hu hi rfl
        · intro D hn hd hcl hu hi
          refine TO.move rfl (by decide) (dl_old (by rfl) rfl) ?_
          exact TX.quiet 9 hu hi rfl
        · intro D hn hd hcl hu hi
          refine TO.indexVec (i := k) (k := 0) Try.underlying43 sz_47 rfl (by decide) (dl_lookup (m := 8) hu rfl (hd 8 (by decide))) (dl_lookup (m := 9) hu rfl (hd 9 (by decide))) rfl (by omega) rfl ?_
          exact TX.quiet 10 hu hi rfl
        · intro D hn hd hcl hu hi
          refine TO.fieldAddr fl_47_1 rfl (by decide) (dl_lookup (m := 10) hu rfl (hd 10 (by decide))) (show _ = k * 4 + 1 from rfl) ?_
          exact TX.quiet 11 hu hi rfl
        · intro D hn hd hcl hu hi
          refine TO.loadVec (i := k) (j := 1) (k := 0) (q := p) sc_3 pcV_len rfl (by decide) (dl_lookup (m := 11) hu rfl (hd 11 (by decide))) rfl hp rfl (by decide) rfl ?_
          exact TX.quiet 12 hu hi rfl
        · intro D hn hd hcl hu hi
          refine TO.bin rfl (by decide) (dl_lookup (m := 7) hu rfl (hd 7 (by decide))) (dl_lookup (m := 12) hu rfl (hd 12 (by decide))) (bin_add (r := (p.i : Int) + (p.w : Int)) (IntWalk.i64_in _ (by omega))) ?_
          exact TX.quiet 13 hu hi rfl
        refine TO.indexVec (i := E.length) (k := 1) Try.underlying25 sz_36 rfl (by decide) rfl rfl rfl (by simp) rfl ?_
        refine TO.fieldAddr fl_36_1 rfl (by decide) rfl (show _ = E.length * 3 + 1 from rfl) ?_
        refine TO.storeVec (i := E.length) (j := 1) (k := 1) (q := n) (q' := (⟨n.f, p.i + p.w, n.k⟩ : Rn)) sz_3 rnC_len rfl rfl rfl rfl (by simp) rfl (by decide) rfl (fun _ _ => rfl) ?_
        refine TO.nil ?_
        refine TX.blockNormal ?_
        refine TX.next ?_
        refine TC.region ?_
        refine TO.move rfl (by decide) rfl ?_
        refine TO.bin rfl (by decide) rfl rfl (bin_add (r := (k : Int) + 1) (IntWalk.i64_in _ (by omega))) ?_
        refine TO.assign rfl (by decide) rfl ?_
        refine TO.nil ?_
        have hset : (E ++ [n]).set E.length (⟨n.f, p.i + p.w, n.k⟩ : Rn) = rout (rfold ((pcs s.data.toList).take (k + 1))) := (by rw [hst]; simp [rstep, rout, pk, heq])
        refine TX.rewE (k := 1) rfl (show vec rnC 36 3 v ((E ++ [n]).set E.length (⟨n.f, p.i + p.w, n.k⟩ : Rn)) = vec rnC 36 3 v (rout (rfold ((pcs s.data.toList).take (k + 1)))) from (congrArg (fun z => vec rnC 36 3 v z) hset)) ?_
        show TX _ _ _ _ _ _ _ [vec pcV 47 4 l (pcs s.data.toList), vec rnC 36 3 v (rout (rfold ((pcs s.data.toList).take (k + 1))))]
        exact TX.again (k + 1, v) ⟨by simp only; omega, trivial⟩ (by simp only; omega) (Sub.cons rfl (Sub.cons rfl (Sub.cons (congrArg (fun z => some (Value.int .i64 z)) (by simp)) (Sub.nil)))) (Splits.of [0, 1] (by as_aux_lemma => kernel_rfl) rfl)
      ·
        refine TC.seq ?_
        refine TC.seq ?_
        refine TC.region ?_
        refine TO.move rfl (by decide) rfl ?_
        refine TO.move rfl (by decide) rfl ?_
        refine TO.lenVec (k := 0) rfl (by decide) rfl rfl Try.underlying43 ?_
        refine TO.bin rfl (by decide) rfl rfl (bin_known (congrArg Value.bool (show (decide (((k : Int) : Int) < ((pcs s.data.toList).length : Int))) = true from (by simp <;> omega))) bin_lss) ?_
        refine TO.nil ?_
        refine TX.next ?_
        refine TC.condT rfl ?_
        refine TC.skip ?_
        refine TX.next ?_
        refine TC.seq ?_
        refine TC.block ?_
        refine TC.seq ?_
        refine TC.region ?_
        refine TO.move rfl (by decide) rfl ?_
        refine TO.lenVec (k := 1) rfl (by decide) rfl rfl Try.underlying25 ?_
        refine TO.assign rfl (by decide) rfl ?_
        refine TO.nil ?_
        refine TX.next ?_
        refine TC.seq ?_
        refine TC.seq ?_
        refine TC.drawN 14 [(0, 17, .int .i64 ((E ++ [n]).length : Int)), (1, 18, .bool false), (2, 19, .bool false), (3, 20, v), (4, 21, .int .i64 ((E ++ [n]).length : Int)), (5, 22, .int .i64 ((E.length : Nat) : Int)), (6, 23, .pointer (some ⟨vblk v, E.length * 3, none⟩)), (7, 24, .pointer (some ⟨vblk v, E.length * 3 + 2, none⟩)), (8, 25, .int .i64 n.k), (9, 26, l), (10, 27, .int .i64 (k : Int)), (11, 28, .pointer (some ⟨vblk l, k * 4, none⟩)), (12, 29, .agg #[.int .i64 (p.i : Int), .int .i64 (p.w : Int), .int .i32 (p.r : Int), .bool p.broken]), (13, 30, .int .i64 (kindOf p.broken p.r))] mixed (by as_aux_lemma => kernel_rfl) (by as_aux_lemma => kernel_rfl) (by decide) (by rfl) (by as_aux_lemma => kernel_rfl) (by as_aux_lemma => kernel_rfl) (DrawPre.cons ?_ (DrawPre.cons ?_ (DrawPre.cons ?_ (DrawPre.cons ?_ (DrawPre.cons ?_ (DrawPre.cons ?_ (DrawPre.cons ?_ (DrawPre.cons ?_ (DrawPre.cons ?_ (DrawPre.cons ?_ (DrawPre.cons ?_ (DrawPre.cons ?_ (DrawPre.cons ?_ (DrawPre.cons ?_ DrawPre.nil)))))))))))))) ?_
        · intro D hn hd hcl hu hi
          refine TO.move rfl (by decide) (dl_old (by rfl) rfl) ?_
          exact TX.quiet 0 hu hi rfl
        · intro D hn hd hcl hu hi
          refine TO.bin rfl (by decide) (dl_lookup (m := 0) hu rfl (hd 0 (by decide))) rfl (bin_known (congrArg Value.bool (show ((((E ++ [n]).length : Int) : Int) == 0) = false from (by simp <;> omega))) bin_eql) ?_
          exact TX.quiet 1 hu hi rfl
        · intro D hn hd hcl hu hi
          refine TO.move rfl (by decide) (dl_lookup (m := 1) hu rfl (hd 1 (by decide))) ?_
          exact TX.quiet 2 hu hi rfl
        · intro D hn hd hcl hu hi
          refine TO.move (gd_T rfl (dl_lookup (m := 2) hu rfl (hd 2 (by decide)))) (by decide) (dl_old (by rfl) rfl) ?_
          exact TX.quiet 3 hu hi rfl
        · intro D hn hd hcl hu hi
          refine TO.move (gd_T rfl (dl_lookup (m := 2) hu rfl (hd 2 (by decide)))) (by decide) (dl_old (by rfl) rfl) ?_
          exact TX.quiet 4 hu hi rfl
        · intro D hn hd hcl hu hi
          refine TO.bin (gd_T rfl (dl_lookup (m := 2) hu rfl (hd 2 (by decide)))) (by decide) (dl_lookup (m := 4) hu rfl (hd 4 (by decide))) rfl (bin_sub (r := ((E.length : Nat) : Int)) (by rw [IntWalk.i64_in _ (by simp <;> omega)]; simp)) ?_
          exact TX.quiet 5 hu hi rfl
        · intro D hn hd hcl hu hi
          refine TO.indexVec (i := E.length) (k := 1) Try.underlying25 sz_36 (gd_T rfl (dl_lookup (m := 2) hu rfl (hd 2 (by decide)))) (by decide) (dl_lookup (m := 3) hu rfl (hd 3 (by decide))) (dl_lookup (m := 5) hu rfl (hd 5 (by decide))) rfl (by simp) rfl ?_
          exact TX.quiet 6 hu hi rfl
        · intro D hn hd hcl hu hi
          refine TO.fieldAddr fl_36_2 (gd_T rfl (dl_lookup (m := 2) hu rfl (hd 2 (by decide)))) (by decide) (dl_lookup (m := 6) hu rfl (hd 6 (by decide))) (show _ = E.length * 3 + 2 from rfl) ?_
          exact TX.quiet 7 hu hi rfl
        · intro D hn hd hcl hu hi
          refine TO.loadVec (i := E.length) (j := 2) (k := 1) (q := n) sc_3 rnC_len (gd_T rfl (dl_lookup (m := 2) hu rfl (hd 2 (by decide)))) (by decide) (dl_lookup (m := 7) hu rfl (hd 7 (by decide))) rfl (by simp) rfl (by decide) rfl ?_
          exact TX.quiet 8 hu hi rfl
        · intro D hn hd hcl hu hi
          refine TO.move (gd_T rfl (dl_lookup (m := 2) hu rfl (hd 2 (by decide)))) (by decide) (dl_old (by rfl) rfl) ?_
          exact TX.quiet 9 hu hi rfl
        · intro D hn hd hcl hu hi
          refine TO.move (gd_T rfl (dl_lookup (m := 2) hu rfl (hd 2 (by decide)))) (by decide) (dl_old (by rfl) rfl) ?_
          exact TX.quiet 10 hu hi rfl
        · intro D hn hd hcl hu hi
          refine TO.indexVec (i := k) (k := 0) Try.underlying43 sz_47 (gd_T rfl (dl_lookup (m := 2) hu rfl (hd 2 (by decide)))) (by decide) (dl_lookup (m := 9) hu rfl (hd 9 (by decide))) (dl_lookup (m := 10) hu rfl (hd 10 (by decide))) rfl (by omega) rfl ?_
          exact TX.quiet 11 hu hi rfl
        · intro D hn hd hcl hu hi
          refine TO.loadsVec (i := k) (j := 0) (k := 0) (q := p) (cs := [.int .i64 (p.i : Int), .int .i64 (p.w : Int), .int .i32 (p.r : Int), .bool p.broken]) rw_47 pcV_len (gd_T rfl (dl_lookup (m := 2) hu rfl (hd 2 (by decide)))) (by decide) (dl_lookup (m := 11) hu rfl (hd 11 (by decide))) rfl hp rfl rfl rfl ?_
          exact TX.quiet 12 hu hi rfl
        · intro D hn hd hcl hu hi
          refine TO.callP (v := .int .i64 (kindOf p.broken p.r)) (vs := [.agg #[.int .i64 (p.i : Int), .int .i64 (p.w : Int), .int .i32 (p.r : Int), .bool p.broken]]) (gd_T rfl (dl_lookup (m := 2) hu rfl (hd 2 (by decide)))) (by decide) rfl (evL.cons (dl_lookup (m := 12) hu rfl (hd 12 (by decide))) evL.nil) rfl en_24 (rof_p _ _ _ _ (by omega) (by omega)) ?_
          exact TX.quiet 13 hu hi rfl
        refine TO.bin rfl (by decide) rfl rfl (bin_known (congrArg Value.bool (show ((n.k : Int) != (kindOf p.broken p.r)) = true from (by simp [heq]))) bin_neq) ?_
        refine TO.pick (b := false) rfl (by decide) rfl rfl ?_
        refine TO.nil ?_
        refine TX.next ?_
        refine TC.condT rfl ?_
        refine TC.seq ?_
        refine TC.drawB (β := Nat) 17 _ [(0, 33, v), (1, 34, l), (2, 35, .int .i64 (k : Int)), (3, 36, .pointer (some ⟨vblk l, k * 4, none⟩)), (4, 37, .pointer (some ⟨vblk l, k * 4, none⟩)), (5, 38, .int .i64 (p.i : Int)), (6, 39, l), (7, 40, .int .i64 (k : Int)), (8, 41, .pointer (some ⟨vblk l, k * 4, none⟩)), (9, 42, .pointer (some ⟨vblk l, k * 4, none⟩)), (10, 43, .int .i64 (p.i : Int)), (11, 44, l), (12, 45, .int .i64 (k : Int)), (13, 46, .pointer (some ⟨vblk l, k * 4, none⟩)), (14, 47, .agg #[.int .i64 (p.i : Int), .int .i64 (p.w : Int), .int .i32 (p.r : Int), .bool p.broken]), (15, 48, .int .i64 (kindOf p.broken p.r)), (16, 49, .agg #[.int .i64 (p.i : Int), .int .i64 (p.i : Int), .int .i64 (kindOf p.broken p.r)])] (fun b901 => [(50, .slice (some ⟨b901, 0, none⟩) 1 1)]) (fun b901 => [vec pcV 47 4 l (pcs s.data.toList), vec rnC 36 3 v (E ++ [n]), cells b901 [.int .i64 (p.i : Int), .int .i64 (p.i : Int), .int .i64 (kindOf p.broken p.r)] 36]) mixed (by as_aux_lemma => kernel_rfl) (by as_aux_lemma => kernel_rfl) rfl (by rfl) (by as_aux_lemma => kernel_rfl) (by as_aux_lemma => kernel_rfl) (DrawPre.cons ?_ (DrawPre.cons ?_ (DrawPre.cons ?_ (DrawPre.cons ?_ (DrawPre.cons ?_ (DrawPre.cons ?_ (DrawPre.cons ?_ (DrawPre.cons ?_ (DrawPre.cons ?_ (DrawPre.cons ?_ (DrawPre.cons ?_ (DrawPre.cons ?_ (DrawPre.cons ?_ (DrawPre.cons ?_ (DrawPre.cons ?_ (DrawPre.cons ?_ (DrawPre.cons ?_ DrawPre.nil))))))))))))))))) (fun b901 => (DrawPre.cons ?_ (DrawPre.cons ?_ (DrawPre.cons ?_ (DrawPre.cons ?_ (DrawPre.cons ?_ (DrawPre.cons ?_ (DrawPre.cons ?_ (DrawPre.cons ?_ (DrawPre.cons ?_ (DrawPre.cons ?_ (DrawPre.cons ?_ (DrawPre.cons ?_ (DrawPre.cons ?_ (DrawPre.cons ?_ (DrawPre.cons ?_ (DrawPre.cons ?_ (DrawPre.cons ?_ DrawPre.nil)))))))))))))))))) ?_ ?_
        · intro D hn hd hcl hu hi
          refine TO.move rfl (by decide) (dl_old (by rfl) rfl) ?_
          exact TX.quiet 0 hu hi rfl
        · intro D hn hd hcl hu hi
          refine TO.move rfl (by decide) (dl_old (by rfl) rfl) ?_
          exact TX.quiet 1 hu hi rfl
        · intro D hn hd hcl hu hi
          refine TO.move rfl (by decide) (dl_old (by rfl) rfl) ?_
          exact TX.quiet 2 hu hi rfl
        · intro D hn hd hcl hu hi
          refine TO.indexVec (i := k) (k := 0) Try.underlying43 sz_47 rfl (by decide) (dl_lookup (m := 1) hu rfl (hd 1 (by decide))) (dl_lookup (m := 2) hu rfl (hd 2 (by decide))) rfl (by omega) rfl ?_
          exact TX.quiet 3 hu hi rfl
        · intro D hn hd hcl hu hi
          refine TO.fieldAddr fl_47_0 rfl (by decide) (dl_lookup (m := 3) hu rfl (hd 3 (by decide))) (show _ = k * 4 from rfl) ?_
          exact TX.quiet 4 hu hi rfl
        · intro D hn hd hcl hu hi
          refine TO.loadVec (i := k) (j := 0) (k := 0) (q := p) sc_3 pcV_len rfl (by decide) (dl_lookup (m := 4) hu rfl (hd 4 (by decide))) rfl hp rfl (by decide) rfl ?_
          exact TX.quiet 5 hu hi rfl
        · intro D hn hd hcl hu hi
          refine TO.move rfl (by decide) (dl_old (by rfl) rfl) ?_
          exact TX.quiet 6 hu hi rfl
        · intro D hn hd hcl hu hi
          refine TO.move rfl (by decide) (dl_old (by rfl) rfl) ?_
          exact TX.quiet 7 hu hi rfl
        · intro D hn hd hcl hu hi
          refine TO.indexVec (i := k) (k := 0) Try.underlying43 sz_47 rfl (by decide) (dl_lookup (m := 6) hu rfl (hd 6 (by decide))) (dl_lookup (m := 7) hu rfl (hd 7 (by decide))) rfl (by omega) rfl ?_
          exact TX.quiet 8 hu hi rfl
        · intro D hn hd hcl hu hi
          refine TO.fieldAddr fl_47_0 rfl (by decide) (dl_lookup (m := 8) hu rfl (hd 8 (by decide))) (show _ = k * 4 from rfl) ?_
          exact TX.quiet 9 hu hi rfl
        · intro D hn hd hcl hu hi
          refine TO.loadVec (i := k) (j := 0) (k := 0) (q := p) sc_3 pcV_len rfl (by decide) (dl_lookup (m := 9) hu rfl (hd 9 (by decide))) rfl hp rfl (by decide) rfl ?_
          exact TX.quiet 10 hu hi rfl
        · intro D hn hd hcl hu hi
          refine TO.move rfl (by decide) (dl_old (by rfl) rfl) ?_
          exact TX.quiet 11 hu hi rfl
        · intro D hn hd hcl hu hi
          refine TO.move rfl (by decide) (dl_old (by rfl) rfl) ?_
          exact TX.quiet 12 hu hi rfl
        · intro D hn hd hcl hu hi
          refine TO.indexVec (i := k) (k := 0) Try.underlying43 sz_47 rfl (by decide) (dl_lookup (m := 11) hu rfl (hd 11 (by decide))) (dl_lookup (m := 12) hu rfl (hd 12 (by decide))) rfl (by omega) rfl ?_
          exact TX.quiet 13 hu hi rfl
        · intro D hn hd hcl hu hi
          refine TO.loadsVec (i := k) (j := 0) (k := 0) (q := p) (cs := [.int .i64 (p.i : Int), .int .i64 (p.w : Int), .int .i32 (p.r : Int), .bool p.broken]) rw_47 pcV_len rfl (by decide) (dl_lookup (m := 13) hu rfl (hd 13 (by decide))) rfl hp rfl rfl rfl ?_
          exact TX.quiet 14 hu hi rfl
        · intro D hn hd hcl hu hi
          refine TO.callP (v := .int .i64 (kindOf p.broken p.r)) (vs := [.agg #[.int .i64 (p.i : Int), .int .i64 (p.w : Int), .int .i32 (p.r : Int), .bool p.broken]]) rfl (by decide) rfl (evL.cons (dl_lookup (m := 14) hu rfl (hd 14 (by decide))) evL.nil) rfl en_24 (rof_p _ _ _ _ (by omega) (by omega)) ?_
          exact TX.quiet 15 hu hi rfl
        · intro D hn hd hcl hu hi
          refine TO.build (v := .agg #[.int .i64 (p.i : Int), .int .i64 (p.i : Int), .int .i64 (kindOf p.broken p.r)]) (ps := [(0, .tmp 38), (1, .tmp 43), (2, .tmp 48)]) rfl (by decide) (evP.cons (dl_lookup (m := 5) hu rfl (hd 5 (by decide))) (evP.cons (dl_lookup (m := 10) hu rfl (hd 10 (by decide))) (evP.cons (dl_lookup (m := 15) hu rfl (hd 15 (by decide))) evP.nil))) (fun _ => by kernel_rfl) ?_
          exact TX.quiet 16 hu hi rfl
        · intro D hn hd hcl hu hi
          refine TO.move rfl (by decide) (dl_old (by rfl) rfl) ?_
          exact TX.quiet 0 hu hi rfl
        · intro D hn hd hcl hu hi
          refine TO.move rfl (by decide) (dl_old (by rfl) rfl) ?_
          exact TX.quiet 1 hu hi rfl
        · intro D hn hd hcl hu hi
          refine TO.move rfl (by decide) (dl_old (by rfl) rfl) ?_
          exact TX.quiet 2 hu hi rfl
        · intro D hn hd hcl hu hi
          refine TO.indexVec (i := k) (k := 0) Try.underlying43 sz_47 rfl (by decide) (dl_lookup (m := 1) hu rfl (hd 1 (by decide))) (dl_lookup (m := 2) hu rfl (hd 2 (by decide))) rfl (by omega) rfl ?_
          exact TX.quiet 3 hu hi rfl
        · intro D hn hd hcl hu hi
          refine TO.fieldAddr fl_47_0 rfl (by decide) (dl_lookup (m := 3) hu rfl (hd 3 (by decide))) (show _ = k * 4 from rfl) ?_
          exact TX.quiet 4 hu hi rfl
        · intro D hn hd hcl hu hi
          refine TO.loadVec (i := k) (j := 0) (k := 0) (q := p) sc_3 pcV_len rfl (by decide) (dl_lookup (m := 4) hu rfl (hd 4 (by decide))) rfl hp rfl (by decide) rfl ?_
          exact TX.quiet 5 hu hi rfl
        · intro D hn hd hcl hu hi
          refine TO.move rfl (by decide) (dl_old (by rfl) rfl) ?_
          exact TX.quiet 6 hu hi rfl
        · intro D hn hd hcl hu hi
          refine TO.move rfl (by decide) (dl_old (by rfl) rfl) ?_
          exact TX.quiet 7 hu hi rfl
        · intro D hn hd hcl hu hi
          refine TO.indexVec (i := k) (k := 0) Try.underlying43 sz_47 rfl (by decide) (dl_lookup (m := 6) hu rfl (hd 6 (by decide))) (dl_lookup (m := 7) hu rfl (hd 7 (by decide))) rfl (by omega) rfl ?_
          exact TX.quiet 8 hu hi rfl
        · intro D hn hd hcl hu hi
          refine TO.fieldAddr fl_47_0 rfl (by decide) (dl_lookup (m := 8) hu rfl (hd 8 (by decide))) (show _ = k * 4 from rfl) ?_
          exact TX.quiet 9 hu hi rfl
        · intro D hn hd hcl hu hi
          refine TO.loadVec (i := k) (j := 0) (k := 0) (q := p) sc_3 pcV_len rfl (by decide) (dl_lookup (m := 9) hu rfl (hd 9 (by decide))) rfl hp rfl (by decide) rfl ?_
          exact TX.quiet 10 hu hi rfl
        · intro D hn hd hcl hu hi
          refine TO.move rfl (by decide) (dl_old (by rfl) rfl) ?_
          exact TX.quiet 11 hu hi rfl
        · intro D hn hd hcl hu hi
          refine TO.move rfl (by decide) (dl_old (by rfl) rfl) ?_
          exact TX.quiet 12 hu hi rfl
        · intro D hn hd hcl hu hi
          refine TO.indexVec (i := k) (k := 0) Try.underlying43 sz_47 rfl (by decide) (dl_lookup (m := 11) hu rfl (hd 11 (by decide))) (dl_lookup (m := 12) hu rfl (hd 12 (by decide))) rfl (by omega) rfl ?_
          exact TX.quiet 13 hu hi rfl
        · intro D hn hd hcl hu hi
          refine TO.loadsVec (i := k) (j := 0) (k := 0) (q := p) (cs := [.int .i64 (p.i : Int), .int .i64 (p.w : Int), .int .i32 (p.r : Int), .bool p.broken]) rw_47 pcV_len rfl (by decide) (dl_lookup (m := 13) hu rfl (hd 13 (by decide))) rfl hp rfl rfl rfl ?_
          exact TX.quiet 14 hu hi rfl
        · intro D hn hd hcl hu hi
          refine TO.callP (v := .int .i64 (kindOf p.broken p.r)) (vs := [.agg #[.int .i64 (p.i : Int), .int .i64 (p.w : Int), .int .i32 (p.r : Int), .bool p.broken]]) rfl (by decide) rfl (evL.cons (dl_lookup (m := 14) hu rfl (hd 14 (by decide))) evL.nil) rfl en_24 (rof_p _ _ _ _ (by omega) (by omega)) ?_
          exact TX.quiet 15 hu hi rfl
        · intro D hn hd hcl hu hi
          refine TO.build (v := .agg #[.int .i64 (p.i : Int), .int .i64 (p.i : Int), .int .i64 (kindOf p.broken p.r)]) (ps := [(0, .tmp 38), (1, .tmp 43), (2, .tmp 48)]) rfl (by decide) (evP.cons (dl_lookup (m := 5) hu rfl (hd 5 (by decide))) (evP.cons (dl_lookup (m := 10) hu rfl (hd 10 (by decide))) (evP.cons (dl_lookup (m := 15) hu rfl (hd 15 (by decide))) evP.nil))) (fun _ => by kernel_rfl) ?_
          exact TX.quiet 16 hu hi rfl
        · intro D hn hd hcl
          refine TO.buildSlice (cs := [.int .i64 (p.i : Int), .int .i64 (p.i : Int), .int .i64 (kindOf p.broken p.r)]) (te := 36) (ps := [(0, .tmp 49)]) rfl (by decide) (evP.cons (dl_lookup (m := 16) (by as_aux_lemma => kernel_rfl) rfl (hd 16 (by decide))) evP.nil) (fun _ => by kernel_rfl) (fun b901 => ?_)
          exact fun a w ha hw => ⟨b901, Sub.mid (by rfl) _ _ _ ha, hw⟩
        intro b901
        refine TO.appendVec (k := 1) (k2 := 2) (ys := [(⟨p.i, p.i, kindOf p.broken p.r⟩ : Rn)]) Try.underlying25 el_36 rnC_len rnC_one rfl (by decide) rfl rfl rfl rfl rfl rfl (by simp <;> omega) (fun v2 => ?_)
        refine TO.assign rfl (by decide) rfl ?_
        refine TO.nil ?_
        refine TX.next ?_
        refine TC.region ?_
        refine TO.move rfl (by decide) rfl ?_
        refine TO.bin rfl (by decide) rfl rfl (bin_add (r := ((E ++ [n]).length : Int) + 1) (IntWalk.i64_in _ (by simp <;> (try omega)))) ?_
        refine TO.assign rfl (by decide) rfl ?_
        refine TO.nil ?_
        refine TX.next ?_
        refine TC.drawN 14 [(0, 54, v2), (1, 55, .int .i64 (((E ++ [n]).length : Int) + 1)), (2, 56, .int .i64 ((E.length + 1 : Nat) : Int)), (3, 57, l), (4, 58, .int .i64 (k : Int)), (5, 59, .pointer (some ⟨vblk l, k * 4, none⟩)), (6, 60, .pointer (some ⟨vblk l, k * 4, none⟩)), (7, 61, .int .i64 (p.i : Int)), (8, 62, l), (9, 63, .int .i64 (k : Int)), (10, 64, .pointer (some ⟨vblk l, k * 4, none⟩)), (11, 65, .pointer (some ⟨vblk l, k * 4 + 1, none⟩)), (12, 66, .int .i64 (p.w : Int)), (13, 67, .int .i64 ((p.i : Int) + (p.w : Int)))] mixed (by as_aux_lemma => kernel_rfl) (by as_aux_lemma => kernel_rfl) (by decide) (by rfl) (by as_aux_lemma => kernel_rfl) (by as_aux_lemma => kernel_rfl) (DrawPre.cons ?_ (DrawPre.cons ?_ (DrawPre.cons ?_ (DrawPre.cons ?_ (DrawPre.cons ?_ (DrawPre.cons ?_ (DrawPre.cons ?_ (DrawPre.cons ?_ (DrawPre.cons ?_ (DrawPre.cons ?_ (DrawPre.cons ?_ (DrawPre.cons ?_ (DrawPre.cons ?_ (DrawPre.cons ?_ DrawPre.nil)))))))))))))) ?_
        · intro D hn hd hcl hu hi
          refine TO.move rfl (by decide) (dl_old (by rfl) rfl) ?_
          exact TX.quiet 0 hu hi rfl
        · intro D hn hd hcl hu hi
          refine TO.move rfl (by decide) (dl_old (by rfl) rfl) ?_
          exact TX.quiet 1 hu hi rfl
        · intro D hn hd hcl hu hi
          refine TO.bin rfl (by decide) (dl_lookup (m := 1) hu rfl (hd 1 (by decide))) rfl (bin_sub (r := ((E.length + 1 : Nat) : Int)) (by rw [IntWalk.i64_in _ (by simp <;> omega)]; simp)) ?_
          exact TX.quiet 2 hu hi rfl
        · intro D hn hd hcl hu hi
          refine TO.move rfl (by decide) (dl_old (by rfl) rfl) ?_
          exact TX.quiet 3 hu hi rfl
        · intro D hn hd hcl hu hi
          refine TO.move rfl (by decide) (dl_old (by rfl) rfl) ?_
          exact TX.quiet 4 hu hi rfl
        · intro D hn hd hcl hu hi
          refine TO.indexVec (i := k) (k := 0) Try.underlying43 sz_47 rfl (by decide) (dl_lookup (m := 3) hu rfl (hd 3 (by decide))) (dl_lookup (m := 4) hu rfl (hd 4 (by decide))) rfl (by omega) rfl ?_
          exact TX.quiet 5 hu hi rfl
        · intro D hn hd hcl hu hi
          refine TO.fieldAddr fl_47_0 rfl (by decide) (dl_lookup (m := 5) hu rfl (hd 5 (by decide))) (show _ = k * 4 from rfl) ?_
          exact TX.quiet 6 hu hi rfl
        · intro D hn hd hcl hu hi
          refine TO.loadVec (i := k) (j := 0) (k := 0) (q := p) sc_3 pcV_len rfl (by decide) (dl_lookup (m := 6) hu rfl (hd 6 (by decide))) rfl hp rfl (by decide) rfl ?_
          exact TX.quiet 7 hu hi rfl
        · intro D hn hd hcl hu hi
          refine TO.move rfl (by decide) (dl_old (by rfl) rfl) ?_
          exact TX.quiet 8 hu hi rfl
        · intro D hn hd hcl hu hi
          refine TO.move rfl (by decide) (dl_old (by rfl) rfl) ?_
          exact TX.quiet 9 hu hi rfl
        · intro D hn hd hcl hu hi
          refine TO.indexVec (i := k) (k := 0) Try.underlying43 sz_47 rfl (by decide) (dl_lookup (m := 8) hu rfl (hd 8 (by decide))) (dl_lookup (m := 9) hu rfl (hd 9 (by decide))) rfl (by omega) rfl ?_
          exact TX.quiet 10 hu hi rfl
        · intro D hn hd hcl hu hi
          refine TO.fieldAddr fl_47_1 rfl (by decide) (dl_lookup (m := 10) hu rfl (hd 10 (by decide))) (show _ = k * 4 + 1 from rfl) ?_
          exact TX.quiet 11 hu hi rfl
        · intro D hn hd hcl hu hi
          refine TO.loadVec (i := k) (j := 1) (k := 0) (q := p) sc_3 pcV_len rfl (by decide) (dl_lookup (m := 11) hu rfl (hd 11 (by decide))) rfl hp rfl (by decide) rfl ?_
          exact TX.quiet 12 hu hi rfl
        · intro D hn hd hcl hu hi
          refine TO.bin rfl (by decide) (dl_lookup (m := 7) hu rfl (hd 7 (by decide))) (dl_lookup (m := 12) hu rfl (hd 12 (by decide))) (bin_add (r := (p.i : Int) + (p.w : Int)) (IntWalk.i64_in _ (by omega))) ?_
          exact TX.quiet 13 hu hi rfl
        refine TO.indexVec (i := E.length + 1) (k := 1) Try.underlying25 sz_36 rfl (by decide) rfl rfl rfl (by simp) rfl ?_
        refine TO.fieldAddr fl_36_1 rfl (by decide) rfl (show _ = (E.length + 1) * 3 + 1 from rfl) ?_
        refine TO.storeVec (i := E.length + 1) (j := 1) (k := 1) (q := ⟨p.i, p.i, kindOf p.broken p.r⟩) (q' := (⟨p.i, p.i + p.w, kindOf p.broken p.r⟩ : Rn)) sz_3 rnC_len rfl rfl rfl rfl (by simp) rfl (by decide) rfl (fun _ _ => rfl) ?_
        show TO _ _ _ _ _ _ _ _ _ _ [vec pcV 47 4 l (pcs s.data.toList), vec rnC 36 3 v2 (((E ++ [n]) ++ ([(⟨p.i, p.i, kindOf p.broken p.r⟩ : Rn)])).set (E.length + 1) (⟨p.i, p.i + p.w, kindOf p.broken p.r⟩ : Rn)), cells b901 [.int .i64 (p.i : Int), .int .i64 (p.i : Int), .int .i64 (kindOf p.broken p.r)] 36]
        refine TO.nil ?_
        refine TX.blockNormal ?_
        refine TX.next ?_
        refine TC.region ?_
        refine TO.move rfl (by decide) rfl ?_
        refine TO.bin rfl (by decide) rfl rfl (bin_add (r := (k : Int) + 1) (IntWalk.i64_in _ (by omega))) ?_
        refine TO.assign rfl (by decide) rfl ?_
        refine TO.nil ?_
        have hset : ((E ++ [n]) ++ ([(⟨p.i, p.i, kindOf p.broken p.r⟩ : Rn)])).set (E.length + 1) (⟨p.i, p.i + p.w, kindOf p.broken p.r⟩ : Rn) = rout (rfold ((pcs s.data.toList).take (k + 1))) := (by rw [hst]; simp [rstep, rout, rnew, pk, heq])
        refine TX.rewE (k := 1) rfl (show vec rnC 36 3 v2 (((E ++ [n]) ++ ([(⟨p.i, p.i, kindOf p.broken p.r⟩ : Rn)])).set (E.length + 1) (⟨p.i, p.i + p.w, kindOf p.broken p.r⟩ : Rn)) = vec rnC 36 3 v2 (rout (rfold ((pcs s.data.toList).take (k + 1)))) from (congrArg (fun z => vec rnC 36 3 v2 z) hset)) ?_
        show TX _ _ _ _ _ _ _ [vec pcV 47 4 l (pcs s.data.toList), vec rnC 36 3 v2 (rout (rfold ((pcs s.data.toList).take (k + 1)))), cells b901 [.int .i64 (p.i : Int), .int .i64 (p.i : Int), .int .i64 (kindOf p.broken p.r)] 36]
        exact TX.again (k + 1, v2) ⟨by simp only; omega, trivial⟩ (by simp only; omega) (Sub.cons rfl (Sub.cons rfl (Sub.cons (congrArg (fun z => some (Value.int .i64 z)) (by simp)) (Sub.nil)))) (Splits.of [0, 1] (by as_aux_lemma => kernel_rfl) rfl)
  ·
    have hkk : k = (pcs s.data.toList).length := by omega
    have hfin : rout (rfold ((pcs s.data.toList).take k)) = runs (pcs s.data.toList) := by rw [hkk, List.take_length]; rfl
    show TC _ _ _ _ _ _ _ _ [(3, l), (4, v), (5, .int .i64 (k : Int))] [vec pcV 47 4 l (pcs s.data.toList), vec rnC 36 3 v (rout (rfold ((pcs s.data.toList).take k)))]
    rw [hfin]
    show TC _ _ _ _ _ _ _ _ [(3, l), (4, v), (5, .int .i64 (k : Int))] [vec pcV 47 4 l (pcs s.data.toList), vec rnC 36 3 v (runs (pcs s.data.toList))]
    refine TC.seq ?_
    refine TC.seq ?_
    refine TC.region ?_
    refine TO.move rfl (by decide) rfl ?_
    refine TO.move rfl (by decide) rfl ?_
    refine TO.lenVec (k := 0) rfl (by decide) rfl rfl Try.underlying43 ?_
    refine TO.bin rfl (by decide) rfl rfl (bin_known (congrArg Value.bool (show (decide (((k : Int) : Int) < ((pcs s.data.toList).length : Int))) = false from (by simp <;> omega))) bin_lss) ?_
    refine TO.nil ?_
    refine TX.next ?_
    refine TC.condF rfl ?_
    refine TC.exit ?_
    refine TX.thenExit ?_
    refine TX.thenExit ?_
    refine TX.blockHere ?_
    refine TX.next ?_
    refine TC.seq ?_
    refine TC.region ?_
    refine TO.move rfl (by decide) rfl ?_
    refine TO.assign rfl (by decide) rfl ?_
    refine TO.nil ?_
    refine TX.next ?_
    refine TC.ret ?_
    exact TX.fin (rs := [.tmp 2]) v (.inl rfl) Try.results16 (.cons (.tmp rfl) .nil) rfl (Splits.of [1] (by as_aux_lemma => kernel_rfl) rfl)
end Go.Proofs.Ytekjfmjeemjcjaa
