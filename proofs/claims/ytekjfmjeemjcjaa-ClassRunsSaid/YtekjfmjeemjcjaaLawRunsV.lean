/-
  class.Runs and the law ClassRuns. Nothing is assumed.
-/
import Derived.Test.YtekjfmjeemjcjaaRunsV
import Derived.Test.YtekjfmjeemjcjaaRefRunsV
namespace Go.Proofs.Ytekjfmjeemjcjaa
open Go.RowKit Go.Lib
set_option linter.unusedVariables false
set_option linter.unusedSimpArgs false
theorem cruns_fn (s : ByteArray) : Fn Try.prog 17 [.string s] [] (fun b : Nat => .func (.func 37) #[] #[.pointer (some ⟨b, 0, none⟩)]) (fun b => [cells b [.string s] 9]) := by
  refine Fn.intro Try.func17 rfl Try.ntmps17 (by simp) ?_
  intro w0 K
  refine TC.seq ?_
  refine TC.region ?_
  refine TO.box rfl (by decide) rfl (fun b1 => ?_)
  refine TO.assign rfl (by decide) rfl ?_
  refine TO.nil ?_
  refine TX.next ?_
  refine TC.seq ?_
  refine TC.region ?_
  refine TO.makeFunc (x1 := []) (x2 := [.tmp 1]) rfl (by decide) rfl rfl ?_
  refine TO.assign rfl (by decide) rfl ?_
  refine TO.nil ?_
  refine TX.next ?_
  refine TC.ret ?_
  exact TX.fin (rs := [.tmp 2]) b1 (.inl rfl) Try.results17 (.cons (.tmp rfl) .nil) rfl (Splits.of [0] (by as_aux_lemma => kernel_rfl) rfl)
set_option maxRecDepth 100000 in
set_option maxHeartbeats 4000000 in
theorem lawRuns_p (s : ByteArray) (stop : Int) : FnP Try.prog 4 [.string s, .int .i64 stop] (.bool true) := by
  refine FnP.intro Try.func4 rfl Try.ntmps4 (by simp) ?_
  intro w0 K
  refine TC.seq ?_
  refine TC.region ?_
  refine TO.box rfl (by decide) rfl (fun b1 => ?_)
  refine TO.alloc zr_4 rfl (by decide) (fun b2 => ?_)
  refine TO.nil ?_
  refine TX.next ?_
  refine TC.seq ?_
  refine TC.seq ?_
  refine TC.region ?_
  refine TO.callP (v := .bool true) (vs := []) rfl (by decide) rfl rfl rfl en_12 live_p ?_
  refine TO.un rfl (by decide) rfl un_not ?_
  refine TO.nil ?_
  refine TX.next ?_
  refine TC.condF rfl ?_
  refine TC.skip ?_
  refine TX.next ?_
  refine TC.seq ?_
  refine TC.seq ?_
  refine TC.region ?_
  refine TO.move rfl (by decide) rfl ?_
  refine TO.lenStr rfl (by decide) rfl Try.underlying9 ?_
  refine TO.callP (v := .bool (decide (2147483647 < (s.size : Int)))) (vs := [.int .i64 (s.size : Int)]) rfl (by decide) rfl rfl rfl en_15 (beyond_p _) ?_
  refine TO.nil ?_
  refine TX.next ?_
  refine TC.condB rfl (fun h1 => ?_) (fun h1 => ?_)
  · -- yes
    have h1 := of_decide_eq_true h1
    refine TC.seq ?_
    refine TC.region ?_
    refine TO.store (k := 1) (l' := [.bool true]) sz_4 rfl rfl rfl rfl rfl (fun _ _ => rfl) rfl ?_
    show TO _ _ _ _ _ _ _ _ _ _ [cells b1 [.int .i64 stop] 3, cells b2 [.bool true] 4]
    refine TO.nil ?_
    refine TX.next ?_
    refine TC.ret ?_
    refine TX.thenRet ?_
    exact TX.fin (rs := [.cell 4 4]) () (.inl rfl) Try.results4 (.cons (.cell sc_4 (k := 1) rfl rfl) .nil) rfl Splits.nil
  · -- no
    have h1 := of_decide_eq_false h1
    have hs : s.size ≤ 2147483647 := by omega
    refine TC.skip ?_
    refine TX.next ?_
    refine TC.seq ?_
    refine TC.region ?_
    refine TO.move rfl (by decide) rfl ?_
    refine TO.call (vs := [.string s]) rfl (by decide) rfl rfl rfl en_16 (rruns_fn s hs) Splits.nil ?_
    rintro v
    show TO _ _ _ _ _ _ _ _ _ _ [cells b1 [.int .i64 stop] 3, cells b2 [.bool false] 4, vec rnC 36 3 v (runs (pcs s.data.toList))]
    refine TO.alloc zr_25 rfl (by decide) (fun b3 => ?_)
    refine TO.store (k := 3) (l' := [v]) sz_25 rfl rfl rfl rfl rfl (fun _ h => one_vec h (k := 2) rfl) rfl ?_
    show TO _ _ _ _ _ _ _ _ _ _ [cells b1 [.int .i64 stop] 3, cells b2 [.bool false] 4, vec rnC 36 3 v (runs (pcs s.data.toList)), cells b3 [v] 25]
    refine TO.nil ?_
    refine TX.next ?_
    refine TC.seq ?_
    refine TC.region ?_
    refine TO.move rfl (by decide) rfl ?_
    refine TO.call (vs := [.string s]) rfl (by decide) rfl rfl rfl en_17 (cruns_fn s) Splits.nil ?_
    rintro bs
    show TO _ _ _ _ _ _ _ _ _ _ [cells b1 [.int .i64 stop] 3, cells b2 [.bool false] 4, vec rnC 36 3 v (runs (pcs s.data.toList)), cells b3 [v] 25, cells bs [.string s] 9]
    refine TO.assign rfl (by decide) rfl ?_
    refine TO.nil ?_
    refine TX.next ?_
    refine TC.seq ?_
    refine TC.seq ?_
    refine TC.region ?_
    refine TO.move rfl (by decide) rfl ?_
    refine TO.bin rfl (by decide) rfl rfl (bin_funcnil Try.underlying28 rfl) ?_
    refine TO.nil ?_
    refine TX.next ?_
    refine TC.condF rfl ?_
    refine TC.skip ?_
    refine TX.next ?_
    refine TC.seq ?_
    refine TC.seq ?_
    refine TC.region ?_
    refine TO.alloc zr_3 rfl (by decide) (fun b4 => ?_)
    refine TO.store (k := 5) (l' := [.int .i64 0]) sz_3 rfl rfl rfl rfl rfl (fun _ _ => rfl) rfl ?_
    show TO _ _ _ _ _ _ _ _ _ _ [cells b1 [.int .i64 stop] 3, cells b2 [.bool false] 4, vec rnC 36 3 v (runs (pcs s.data.toList)), cells b3 [v] 25, cells bs [.string s] 9, cells b4 [.int .i64 0] 3]
    refine TO.nil ?_
    refine TX.next ?_
    refine TC.block ?_
    refine TC.star0 ?_
    show TC _ _ _ _ _ _ _ _ _ [cells b1 [.int .i64 stop] 3, cells b2 [.bool false] 4, vec rnC 36 3 v (runs (pcs s.data.toList)), cells b3 [v] 25, cells bs [.string s] 9, cells b4 [.int .i64 0] 3, star (([] : List Nat).map mark)]
    refine TC.loopD (β := Nat × Nat × List Nat) (fun b => True) (fun b => marksOf b.2.2) (fun b => [(3, .pointer (some ⟨b1, 0, none⟩)), (4, .pointer (some ⟨b2, 0, none⟩)), (5, .pointer (some ⟨b3, 0, none⟩)), (6, .func (.func 37) #[] #[.pointer (some ⟨bs, 0, none⟩)]), (7, .pointer (some ⟨b.2.1, 0, none⟩))]) (fun b => [cells b1 [.int .i64 stop] 3, cells b2 [.bool false] 4, vec rnC 36 3 v (runs (pcs s.data.toList)), cells b3 [v] 25, cells bs [.string s] 9, cells b.2.1 [.int .i64 (b.1 : Int)] 3, star (b.2.2.map mark)]) (fun b => 2 - b.1) (0, b4, []) trivial rfl (Sub.cons rfl (Sub.cons rfl (Sub.cons rfl (Sub.cons rfl (Sub.cons rfl (Sub.nil)))))) (Splits.of [0, 1, 2, 3, 4, 5, 6] (by as_aux_lemma => kernel_rfl) rfl) ?_
    rintro ⟨r, bR, ds⟩ hI
    show TC _ _ _ _ _ _ _ _ [(3, .pointer (some ⟨b1, 0, none⟩)), (4, .pointer (some ⟨b2, 0, none⟩)), (5, .pointer (some ⟨b3, 0, none⟩)), (6, .func (.func 37) #[] #[.pointer (some ⟨bs, 0, none⟩)]), (7, .pointer (some ⟨bR, 0, none⟩))] [cells b1 [.int .i64 stop] 3, cells b2 [.bool false] 4, vec rnC 36 3 v (runs (pcs s.data.toList)), cells b3 [v] 25, cells bs [.string s] 9, cells bR [.int .i64 (r : Int)] 3, star (ds.map mark)]
    by_cases hr : r < 2
    ·
      refine TC.seq ?_
      refine TC.seq ?_
      refine TC.region ?_
      refine TO.load (k := 5) sc_3 rfl (by decide) rfl rfl rfl ?_
      refine TO.bin rfl (by decide) rfl rfl (bin_known (congrArg Value.bool (show (decide (((r : Int) : Int) < 2)) = true from (by simp; omega))) bin_lss) ?_
      refine TO.nil ?_
      refine TX.next ?_
      refine TC.condT rfl ?_
      refine TC.skip ?_
      refine TX.next ?_
      refine TC.seq ?_
      refine TC.block ?_
      refine TC.seq ?_
      refine TC.region ?_
      refine TO.alloc zr_3 rfl (by decide) (fun b5 => ?_)
      refine TO.store (k := 7) (l' := [.int .i64 0]) sz_3 rfl rfl rfl rfl rfl (fun _ _ => rfl) rfl ?_
      show TO _ _ _ _ _ _ _ _ _ _ [cells b1 [.int .i64 stop] 3, cells b2 [.bool false] 4, vec rnC 36 3 v (runs (pcs s.data.toList)), cells b3 [v] 25, cells bs [.string s] 9, cells bR [.int .i64 (r : Int)] 3, star (ds.map mark), cells b5 [.int .i64 0] 3]
      refine TO.nil ?_
      refine TX.next ?_
      refine TC.seq ?_
      refine TC.seq ?_
      refine TC.region ?_
      refine TO.move rfl (by decide) rfl ?_
      refine TO.nil ?_
      refine TX.next ?_
      refine TC.block ?_
      refine TC.range (α := Rn) (β := Unit) (γ := Unit) (δ := Nat) (ps := [26]) Ro.nil rfl en_37 (runs1_itr s hs bs) (fun pre b => True) (fun pre b => [cells b1 [.int .i64 stop] 3, vec rnC 36 3 v (runs (pcs s.data.toList)), cells b3 [v] 25, cells bR [.int .i64 (r : Int)] 3, cells b5 [.int .i64 (pre.length : Int)] 3]) (fun c pre g => c = .exit 2 ∧ r = 0 ∧ (pre.length : Int) = stop) (fun c pre g => [cells b1 [.int .i64 stop] 3, vec rnC 36 3 v (runs (pcs s.data.toList)), cells b3 [v] 25, cells bR [.int .i64 (r : Int)] 3, cells b5 [.int .i64 (pre.length : Int)] 3]) (fun pre x b j => [(3, .pointer (some ⟨b1, 0, none⟩)), (4, .pointer (some ⟨b2, 0, none⟩)), (5, .pointer (some ⟨b3, 0, none⟩)), (6, .func (.func 37) #[] #[.pointer (some ⟨bs, 0, none⟩)]), (7, .pointer (some ⟨bR, 0, none⟩)), (8, .pointer (some ⟨b5, 0, none⟩)), (9, .pointer (some ⟨j, 0, none⟩))]) (fun pre x b j => [cells b1 [.int .i64 stop] 3, vec rnC 36 3 v (runs (pcs s.data.toList)), cells b3 [v] 25, cells bR [.int .i64 (r : Int)] 3, cells b5 [.int .i64 (pre.length : Int)] 3, cells j [.int .i64 (x.f : Int), .int .i64 (x.t : Int), .int .i64 x.k] 34]) () trivial (Splits.of [0, 2, 3, 5, 7] (by as_aux_lemma => kernel_rfl) rfl) ⟨.inl ⟨4, rfl⟩, trivial⟩ (fun _ => rfl) (by decide) ?_ ?_ ?_ ?_
      · rintro lp rc pre x post b w1 K1 hxs hext hro hinv
        refine TC.region ?_
        refine TO.alloc zr_34 rfl (by decide) (fun b6 => ?_)
        refine TO.stores (k := 5) (vs := [.int .i64 (x.f : Int), .int .i64 (x.t : Int), .int .i64 x.k]) (l' := [.int .i64 (x.f : Int), .int .i64 (x.t : Int), .int .i64 x.k]) sz_34 rfl rfl rfl rfl rfl (show _ ≤ _ by simp) rfl rfl ?_
        show TO _ _ _ _ _ _ _ _ _ _ [cells b1 [.int .i64 stop] 3, vec rnC 36 3 v (runs (pcs s.data.toList)), cells b3 [v] 25, cells bR [.int .i64 (r : Int)] 3, cells b5 [.int .i64 (pre.length : Int)] 3, cells b6 [.int .i64 (x.f : Int), .int .i64 (x.t : Int), .int .i64 x.k] 34]
        refine TO.nil ?_
        exact fun a w ha hw => ⟨b6, (Sub.cons rfl (Sub.cons rfl (Sub.cons rfl (Sub.cons rfl (Sub.cons rfl (Sub.cons rfl (Sub.cons rfl (Sub.nil)))))))) _ _ _ ha, hw.weaken (Splits.of [0, 1, 2, 3, 4, 5] (by as_aux_lemma => kernel_rfl) rfl)⟩
      · rintro lp rc pre x post b j w1 K1 hxs hext hro hinv
        have hx : (runs (pcs s.data.toList))[pre.length]? = some x := by rw [hxs]; simp
        have hlen : pre.length < (runs (pcs s.data.toList)).length := by rw [hxs]; simp
        have hmx : (runs (pcs s.data.toList)).length ≤ 2147483647 := by have h1 := rout_len (pcs s.data.toList); have h2 := pcs_len s; unfold runs; omega
        refine TC.block ?_
        refine TC.seq ?_
        refine TC.seq ?_
        refine TC.drawN 34 [(0, 27, .int .i64 (pre.length : Int)), (1, 28, v), (2, 29, .int .i64 ((runs (pcs s.data.toList)).length : Int)), (3, 30, .bool false), (4, 31, .bool false), (5, 32, .pointer (some ⟨j, 0, none⟩)), (6, 33, .pointer (some ⟨j, 0, none⟩)), (7, 34, .int .i64 (x.f : Int)), (8, 35, v), (9, 36, .int .i64 (pre.length : Int)), (10, 37, .pointer (some ⟨vblk v, pre.length * 3, none⟩)), (11, 38, .pointer (some ⟨vblk v, pre.length * 3, none⟩)), (12, 39, .int .i64 (x.f : Int)), (13, 40, .bool false), (14, 41, .bool false), (15, 42, .bool false), (16, 43, .pointer (some ⟨j, 0, none⟩)), (17, 44, .pointer (some ⟨j, 1, none⟩)), (18, 45, .int .i64 (x.t : Int)), (19, 46, v), (20, 47, .int .i64 (pre.length : Int)), (21, 48, .pointer (some ⟨vblk v, pre.length * 3, none⟩)), (22, 49, .pointer (some ⟨vblk v, pre.length * 3 + 1, none⟩)), (23, 50, .int .i64 (x.t : Int)), (24, 51, .bool false), (25, 52, .bool false), (26, 53, .bool false), (27, 54, .pointer (some ⟨j, 2, none⟩)), (28, 55, .int .i64 x.k), (29, 56, v), (30, 57, .int .i64 (pre.length : Int)), (31, 58, .pointer (some ⟨vblk v, pre.length * 3, none⟩)), (32, 59, .pointer (some ⟨vblk v, pre.length * 3 + 2, none⟩)), (33, 60, .int .i64 x.k)] mixed (by as_aux_lemma => kernel_rfl) (by as_aux_lemma => kernel_rfl) (by decide) (by rfl) (by as_aux_lemma => kernel_rfl) (by as_aux_lemma => kernel_rfl) (DrawPre.cons ?_ (DrawPre.cons ?_ (DrawPre.cons ?_ (DrawPre.cons ?_ (DrawPre.cons ?_ (DrawPre.cons ?_ (DrawPre.cons ?_ (DrawPre.cons ?_ (DrawPre.cons ?_ (DrawPre.cons ?_ (DrawPre.cons ?_ (DrawPre.cons ?_ (DrawPre.cons ?_ (DrawPre.cons ?_ (DrawPre.cons ?_ (DrawPre.cons ?_ (DrawPre.cons ?_ (DrawPre.cons ?_ (DrawPre.cons ?_ (DrawPre.cons ?_ (DrawPre.cons ?_ (DrawPre.cons ?_ (DrawPre.cons ?_ (DrawPre.cons ?_ (DrawPre.cons ?_ (DrawPre.cons ?_ (DrawPre.cons ?_ (DrawPre.cons ?_ (DrawPre.cons ?_ (DrawPre.cons ?_ (DrawPre.cons ?_ (DrawPre.cons ?_ (DrawPre.cons ?_ (DrawPre.cons ?_ DrawPre.nil)))))))))))))))))))))))))))))))))) ?_
        · intro D hn hd hcl hu hi
          refine TO.load (k := 4) sc_3 rfl (by decide) (dl_old (by rfl) rfl) rfl rfl ?_
          exact TX.quiet 0 hu hi rfl
        · intro D hn hd hcl hu hi
          refine TO.load (k := 2) sc_25 rfl (by decide) (dl_old (by rfl) rfl) rfl rfl ?_
          exact TX.quiet 1 hu hi rfl
        · intro D hn hd hcl hu hi
          refine TO.lenVec (k := 1) rfl (by decide) (dl_lookup (m := 1) hu rfl (hd 1 (by decide))) rfl Try.underlying25 ?_
          exact TX.quiet 2 hu hi rfl
        · intro D hn hd hcl hu hi
          refine TO.bin rfl (by decide) (dl_lookup (m := 0) hu rfl (hd 0 (by decide))) (dl_lookup (m := 2) hu rfl (hd 2 (by decide))) (bin_known (congrArg Value.bool (show (decide ((((runs (pcs s.data.toList)).length : Int) : Int) ≤ (pre.length : Int))) = false from (by simp; omega))) bin_geq) ?_
          exact TX.quiet 3 hu hi rfl
        · intro D hn hd hcl hu hi
          refine TO.move rfl (by decide) (dl_lookup (m := 3) hu rfl (hd 3 (by decide))) ?_
          exact TX.quiet 4 hu hi rfl
        · intro D hn hd hcl hu hi
          refine TO.fieldAddr fl_34_0 (gd_T rfl (dl_lookup (m := 4) hu rfl (hd 4 (by decide)))) (by decide) (dl_old (by rfl) rfl) (show _ = 0 from rfl) ?_
          exact TX.quiet 5 hu hi rfl
        · intro D hn hd hcl hu hi
          refine TO.fieldAddr fl_31_0 (gd_T rfl (dl_lookup (m := 4) hu rfl (hd 4 (by decide)))) (by decide) (dl_lookup (m := 5) hu rfl (hd 5 (by decide))) (show _ = 0 from rfl) ?_
          exact TX.quiet 6 hu hi rfl
        · intro D hn hd hcl hu hi
          refine TO.load (k := 5) sc_3 (gd_T rfl (dl_lookup (m := 4) hu rfl (hd 4 (by decide)))) (by decide) (dl_lookup (m := 6) hu rfl (hd 6 (by decide))) rfl rfl ?_
          exact TX.quiet 7 hu hi rfl
        · intro D hn hd hcl hu hi
          refine TO.load (k := 2) sc_25 (gd_T rfl (dl_lookup (m := 4) hu rfl (hd 4 (by decide)))) (by decide) (dl_old (by rfl) rfl) rfl rfl ?_
          exact TX.quiet 8 hu hi rfl
        · intro D hn hd hcl hu hi
          refine TO.load (k := 4) sc_3 (gd_T rfl (dl_lookup (m := 4) hu rfl (hd 4 (by decide)))) (by decide) (dl_old (by rfl) rfl) rfl rfl ?_
          exact TX.quiet 9 hu hi rfl
        · intro D hn hd hcl hu hi
          refine TO.indexVec (i := pre.length) (k := 1) Try.underlying25 sz_36 (gd_T rfl (dl_lookup (m := 4) hu rfl (hd 4 (by decide)))) (by decide) (dl_lookup (m := 8) hu rfl (hd 8 (by decide))) (dl_lookup (m := 9) hu rfl (hd 9 (by decide))) rfl (by omega) rfl ?_
          exact TX.quiet 10 hu hi rfl
        · intro D hn hd hcl hu hi
          refine TO.fieldAddr fl_36_0 (gd_T rfl (dl_lookup (m := 4) hu rfl (hd 4 (by decide)))) (by decide) (dl_lookup (m := 10) hu rfl (hd 10 (by decide))) (show _ = pre.length * 3 from rfl) ?_
          exact TX.quiet 11 hu hi rfl
        · intro D hn hd hcl hu hi
          refine TO.loadVec (i := pre.length) (j := 0) (k := 1) (q := x) sc_3 rnC_len (gd_T rfl (dl_lookup (m := 4) hu rfl (hd 4 (by decide)))) (by decide) (dl_lookup (m := 11) hu rfl (hd 11 (by decide))) rfl hx rfl (by decide) rfl ?_
          exact TX.quiet 12 hu hi rfl
        · intro D hn hd hcl hu hi
          refine TO.bin (gd_T rfl (dl_lookup (m := 4) hu rfl (hd 4 (by decide)))) (by decide) (dl_lookup (m := 7) hu rfl (hd 7 (by decide))) (dl_lookup (m := 12) hu rfl (hd 12 (by decide))) (bin_known (congrArg Value.bool (show (((x.f : Int) : Int) != (x.f : Int)) = false from (by simp))) bin_neq) ?_
          exact TX.quiet 13 hu hi rfl
        · intro D hn hd hcl hu hi
          refine TO.pick (b := false) rfl (by decide) (dl_lookup (m := 4) hu rfl (hd 4 (by decide))) (dl_lookup (m := 13) hu rfl (hd 13 (by decide))) ?_
          exact TX.quiet 14 hu hi rfl
        · intro D hn hd hcl hu hi
          refine TO.move rfl (by decide) (dl_lookup (m := 14) hu rfl (hd 14 (by decide))) ?_
          exact TX.quiet 15 hu hi rfl
        · intro D hn hd hcl hu hi
          refine TO.fieldAddr fl_34_0 (gd_T rfl (dl_lookup (m := 15) hu rfl (hd 15 (by decide)))) (by decide) (dl_old (by rfl) rfl) (show _ = 0 from rfl) ?_
          exact TX.quiet 16 hu hi rfl
        · intro D hn hd hcl hu hi
          refine TO.fieldAddr fl_31_1 (gd_T rfl (dl_lookup (m := 15) hu rfl (hd 15 (by decide)))) (by decide) (dl_lookup (m := 16) hu rfl (hd 16 (by decide))) (show _ = 1 from rfl) ?_
          exact TX.quiet 17 hu hi rfl
        · intro D hn hd hcl hu hi
          refine TO.load (k := 5) sc_3 (gd_T rfl (dl_lookup (m := 15) hu rfl (hd 15 (by decide)))) (by decide) (dl_lookup (m := 17) hu rfl (hd 17 (by decide))) rfl rfl ?_
          exact TX.quiet 18 hu hi rfl
        · intro D hn hd hcl hu hi
          refine TO.load (k := 2) sc_25 (gd_T rfl (dl_lookup (m := 15) hu rfl (hd 15 (by decide)))) (by decide) (dl_old (by rfl) rfl) rfl rfl ?_
          exact TX.quiet 19 hu hi rfl
        · intro D hn hd hcl hu hi
          refine TO.load (k := 4) sc_3 (gd_T rfl (dl_lookup (m := 15) hu rfl (hd 15 (by decide)))) (by decide) (dl_old (by rfl) rfl) rfl rfl ?_
          exact TX.quiet 20 hu hi rfl
        · intro D hn hd hcl hu hi
          refine TO.indexVec (i := pre.length) (k := 1) Try.underlying25 sz_36 (gd_T rfl (dl_lookup (m := 15) hu rfl (hd 15 (by decide)))) (by decide) (dl_lookup (m := 19) hu rfl (hd 19 (by decide))) (dl_lookup (m := 20) hu rfl (hd 20 (by decide))) rfl (by omega) rfl ?_
          exact TX.quiet 21 hu hi rfl
        · intro D hn hd hcl hu hi
          refine TO.fieldAddr fl_36_1 (gd_T rfl (dl_lookup (m := 15) hu rfl (hd 15 (by decide)))) (by decide) (dl_lookup (m := 21) hu rfl (hd 21 (by decide))) (show _ = pre.length * 3 + 1 from rfl) ?_
          exact TX.quiet 22 hu hi rfl
        · intro D hn hd hcl hu hi
          refine TO.loadVec (i := pre.length) (j := 1) (k := 1) (q := x) sc_3 rnC_len (gd_T rfl (dl_lookup (m := 15) hu rfl (hd 15 (by decide)))) (by decide) (dl_lookup (m := 22) hu rfl (hd 22 (by decide))) rfl hx rfl (by decide) rfl ?_
          exact TX.quiet 23 hu hi rfl
        · intro D hn hd hcl hu hi
          refine TO.bin (gd_T rfl (dl_lookup (m := 15) hu rfl (hd 15 (by decide)))) (by decide) (dl_lookup (m := 18) hu rfl (hd 18 (by decide))) (dl_lookup (m := 23) hu rfl (hd 23 (by decide))) (bin_known (congrArg Value.bool (show (((x.t : Int) : Int) != (x.t : Int)) = false from (by simp))) bin_neq) ?_
          exact TX.quiet 24 hu hi rfl
        · intro D hn hd hcl hu hi
          refine TO.pick (b := false) rfl (by decide) (dl_lookup (m := 15) hu rfl (hd 15 (by decide))) (dl_lookup (m := 24) hu rfl (hd 24 (by decide))) ?_
          exact TX.quiet 25 hu hi rfl
        · intro D hn hd hcl hu hi
          refine TO.move rfl (by decide) (dl_lookup (m := 25) hu rfl (hd 25 (by decide))) ?_
          exact TX.quiet 26 hu hi rfl
        · intro D hn hd hcl hu hi
          refine TO.fieldAddr fl_34_1 (gd_T rfl (dl_lookup (m := 26) hu rfl (hd 26 (by decide)))) (by decide) (dl_old (by rfl) rfl) (show _ = 2 from rfl) ?_
          exact TX.quiet 27 hu hi rfl
        · intro D hn hd hcl hu hi
          refine TO.load (k := 5) sc_32 (gd_T rfl (dl_lookup (m := 26) hu rfl (hd 26 (by decide)))) (by decide) (dl_lookup (m := 27) hu rfl (hd 27 (by decide))) rfl rfl ?_
          exact TX.quiet 28 hu hi rfl
        · intro D hn hd hcl hu hi
          refine TO.load (k := 2) sc_25 (gd_T rfl (dl_lookup (m := 26) hu rfl (hd 26 (by decide)))) (by decide) (dl_old (by rfl) rfl) rfl rfl ?_
          exact TX.quiet 29 hu hi rfl
        · intro D hn hd hcl hu hi
          refine TO.load (k := 4) sc_3 (gd_T rfl (dl_lookup (m := 26) hu rfl (hd 26 (by decide)))) (by decide) (dl_old (by rfl) rfl) rfl rfl ?_
          exact TX.quiet 30 hu hi rfl
        · intro D hn hd hcl hu hi
          refine TO.indexVec (i := pre.length) (k := 1) Try.underlying25 sz_36 (gd_T rfl (dl_lookup (m := 26) hu rfl (hd 26 (by decide)))) (by decide) (dl_lookup (m := 29) hu rfl (hd 29 (by decide))) (dl_lookup (m := 30) hu rfl (hd 30 (by decide))) rfl (by omega) rfl ?_
          exact TX.quiet 31 hu hi rfl
        · intro D hn hd hcl hu hi
          refine TO.fieldAddr fl_36_2 (gd_T rfl (dl_lookup (m := 26) hu rfl (hd 26 (by decide)))) (by decide) (dl_lookup (m := 31) hu rfl (hd 31 (by decide))) (show _ = pre.length * 3 + 2 from rfl) ?_
          exact TX.quiet 32 hu hi rfl
        · intro D hn hd hcl hu hi
          refine TO.loadVec (i := pre.length) (j := 2) (k := 1) (q := x) sc_3 rnC_len (gd_T rfl (dl_lookup (m := 26) hu rfl (hd 26 (by decide)))) (by decide) (dl_lookup (m := 32) hu rfl (hd 32 (by decide))) rfl hx rfl (by decide) rfl ?_
          exact TX.quiet 33 hu hi rfl
        refine TO.bin rfl (by decide) rfl rfl (bin_known (congrArg Value.bool (show ((x.k : Int) != x.k) = false from (by simp))) bin_neq) ?_
        refine TO.pick (b := false) rfl (by decide) rfl rfl ?_
        refine TO.nil ?_
        refine TX.next ?_
        refine TC.condF rfl ?_
        refine TC.skip ?_
        refine TX.next ?_
        refine TC.seq ?_
        refine TC.region ?_
        refine TO.load (k := 4) sc_3 rfl (by decide) rfl rfl rfl ?_
        refine TO.bin rfl (by decide) rfl rfl (bin_add (r := (pre.length : Int) + 1) (IntWalk.i64_in _ (by omega))) ?_
        refine TO.store (k := 4) (l' := [.int .i64 ((pre.length : Int) + 1)]) sz_3 rfl rfl rfl rfl rfl (fun _ _ => rfl) rfl ?_
        refine TO.nil ?_
        refine TX.next ?_
        refine TC.seq ?_
        refine TC.region ?_
        refine TO.load (k := 3) sc_3 rfl (by decide) rfl rfl rfl ?_
        refine TO.bin rfl (by decide) rfl rfl bin_eql ?_
        refine TO.move rfl (by decide) rfl ?_
        refine TO.split (s := 67) rfl (fun h2 => ?_) (fun h2 => ?_)
        · -- yes
          have h2 := beq_iff_eq.1 h2
          refine TO.load (k := 4) sc_3 rfl (by decide) rfl rfl rfl ?_
          refine TO.load (k := 0) sc_3 rfl (by decide) rfl rfl rfl ?_
          refine TO.bin rfl (by decide) rfl rfl bin_eql ?_
          refine TO.pick (b := true) rfl (by decide) rfl rfl ?_
          refine TO.nil ?_
          refine TX.next ?_
          refine TC.condB rfl (fun h3 => ?_) (fun h3 => ?_)
          · -- yes
            have h3 := beq_iff_eq.1 h3
            refine TC.exit ?_
            refine TX.blockOn (by decide) ?_
            refine TX.rewE (k := 4) rfl (show cells b5 [.int .i64 ((pre.length : Int) + 1)] 3 = cells b5 [.int .i64 ((pre ++ [x]).length : Int)] 3 from (congrArg (fun z : Int => cells b5 [.int .i64 z] 3) (show (pre.length : Int) + 1 = ((pre ++ [x]).length : Int) by simp))) ?_
            show TX _ _ _ _ _ _ _ [cells b1 [.int .i64 stop] 3, vec rnC 36 3 v (runs (pcs s.data.toList)), cells b3 [v] 25, cells bR [.int .i64 (r : Int)] 3, cells b5 [.int .i64 ((pre ++ [x]).length : Int)] 3, cells j [.int .i64 (x.f : Int), .int .i64 (x.t : Int), .int .i64 x.k] 34]
            exact TX.roundExit () ⟨rfl, by omega, by simp; omega⟩ (Splits.of [0, 1, 2, 3, 4] (by as_aux_lemma => kernel_rfl) rfl)
          · -- no
            have h3 := beq_eq_false_iff_ne.1 h3
            refine TC.skip ?_
            refine TX.blockNormal ?_
            refine TX.rewE (k := 4) rfl (show cells b5 [.int .i64 ((pre.length : Int) + 1)] 3 = cells b5 [.int .i64 ((pre ++ [x]).length : Int)] 3 from (congrArg (fun z : Int => cells b5 [.int .i64 z] 3) (show (pre.length : Int) + 1 = ((pre ++ [x]).length : Int) by simp))) ?_
            show TX _ _ _ _ _ _ _ [cells b1 [.int .i64 stop] 3, vec rnC 36 3 v (runs (pcs s.data.toList)), cells b3 [v] 25, cells bR [.int .i64 (r : Int)] 3, cells b5 [.int .i64 ((pre ++ [x]).length : Int)] 3, cells j [.int .i64 (x.f : Int), .int .i64 (x.t : Int), .int .i64 x.k] 34]
            exact TX.round () trivial (Splits.of [0, 1, 2, 3, 4] (by as_aux_lemma => kernel_rfl) rfl)
        · -- no
          have h2 := beq_eq_false_iff_ne.1 h2
          refine TO.skip rfl (by decide) ?_
          refine TO.skip rfl (by decide) ?_
          refine TO.skip rfl (by decide) ?_
          refine TO.pick (b := false) rfl (by decide) rfl rfl ?_
          refine TO.nil ?_
          refine TX.next ?_
          refine TC.condF rfl ?_
          refine TC.skip ?_
          refine TX.blockNormal ?_
          refine TX.rewE (k := 4) rfl (show cells b5 [.int .i64 ((pre.length : Int) + 1)] 3 = cells b5 [.int .i64 ((pre ++ [x]).length : Int)] 3 from (congrArg (fun z : Int => cells b5 [.int .i64 z] 3) (show (pre.length : Int) + 1 = ((pre ++ [x]).length : Int) by simp))) ?_
          show TX _ _ _ _ _ _ _ [cells b1 [.int .i64 stop] 3, vec rnC 36 3 v (runs (pcs s.data.toList)), cells b3 [v] 25, cells bR [.int .i64 (r : Int)] 3, cells b5 [.int .i64 ((pre ++ [x]).length : Int)] 3, cells j [.int .i64 (x.f : Int), .int .i64 (x.t : Int), .int .i64 x.k] 34]
          exact TX.round () trivial (Splits.of [0, 1, 2, 3, 4] (by as_aux_lemma => kernel_rfl) rfl)
      · rintro d b hinv
        show TX _ _ _ _ _ _ _ [emp, cells b2 [.bool false] 4, emp, emp, cells bs [.string s] 9, emp, star (ds.map mark), emp, cells b1 [.int .i64 stop] 3, vec rnC 36 3 v (runs (pcs s.data.toList)), cells b3 [v] 25, cells bR [.int .i64 (r : Int)] 3, cells b5 [.int .i64 ((runs (pcs s.data.toList)).length : Int)] 3, mark d]
        refine TX.blockNormal ?_
        refine TX.next ?_
        refine TC.seq ?_
        refine TC.region ?_
        refine TO.load (k := 12) sc_3 rfl (by decide) rfl rfl rfl ?_
        refine TO.load (k := 10) sc_25 rfl (by decide) rfl rfl rfl ?_
        refine TO.lenVec (k := 9) rfl (by decide) rfl rfl Try.underlying25 ?_
        refine TO.bin rfl (by decide) rfl rfl (bin_known (congrArg Value.bool (show ((((runs (pcs s.data.toList)).length : Int) : Int) != ((runs (pcs s.data.toList)).length : Int)) = false from (by simp))) bin_neq) ?_
        refine TO.move rfl (by decide) rfl ?_
        refine TO.skip rfl (by decide) ?_
        refine TO.skip rfl (by decide) ?_
        refine TO.skip rfl (by decide) ?_
        refine TO.skip rfl (by decide) ?_
        refine TO.skip rfl (by decide) ?_
        refine TO.skip rfl (by decide) ?_
        refine TO.skip rfl (by decide) ?_
        refine TO.skip rfl (by decide) ?_
        refine TO.pick (b := false) rfl (by decide) rfl rfl ?_
        refine TO.nil ?_
        refine TX.next ?_
        refine TC.condF rfl ?_
        refine TC.skip ?_
        refine TX.blockNormal ?_
        refine TX.next ?_
        refine TC.seq ?_
        refine TC.seq ?_
        refine TC.region ?_
        refine TO.load (k := 11) sc_3 rfl (by decide) rfl rfl rfl ?_
        refine TO.nil ?_
        refine TX.next ?_
        refine TC.region ?_
        refine TO.alloc zr_3 rfl (by decide) (fun b7 => ?_)
        refine TO.store (k := 14) (l' := [.int .i64 (r : Int)]) sz_3 rfl rfl rfl rfl rfl (fun _ _ => rfl) rfl ?_
        show TO _ _ _ _ _ _ _ _ _ _ [emp, cells b2 [.bool false] 4, emp, emp, cells bs [.string s] 9, emp, star (ds.map mark), emp, cells b1 [.int .i64 stop] 3, vec rnC 36 3 v (runs (pcs s.data.toList)), cells b3 [v] 25, cells bR [.int .i64 (r : Int)] 3, cells b5 [.int .i64 ((runs (pcs s.data.toList)).length : Int)] 3, mark d, cells b7 [.int .i64 (r : Int)] 3]
        refine TO.nil ?_
        refine TX.next ?_
        refine TC.region ?_
        refine TO.load (k := 14) sc_3 rfl (by decide) rfl rfl rfl ?_
        refine TO.bin rfl (by decide) rfl rfl (bin_add (r := (r : Int) + 1) (IntWalk.i64_in _ (by omega))) ?_
        refine TO.store (k := 14) (l' := [.int .i64 ((r : Int) + 1)]) sz_3 rfl rfl rfl rfl rfl (fun _ _ => rfl) rfl ?_
        refine TO.nil ?_
        refine TX.rewE (k := 14) rfl (show cells b7 [.int .i64 ((r : Int) + 1)] 3 = cells b7 [.int .i64 ((r + 1 : Nat) : Int)] 3 from congrArg (fun z : Int => cells b7 [.int .i64 z] 3) (show (r : Int) + 1 = ((r + 1 : Nat) : Int) by omega)) ?_
        show TX _ _ _ _ _ _ _ [emp, cells b2 [.bool false] 4, emp, emp, cells bs [.string s] 9, emp, star (ds.map mark), emp, cells b1 [.int .i64 stop] 3, vec rnC 36 3 v (runs (pcs s.data.toList)), cells b3 [v] 25, cells bR [.int .i64 (r : Int)] 3, cells b5 [.int .i64 ((runs (pcs s.data.toList)).length : Int)] 3, mark d, cells b7 [.int .i64 ((r + 1 : Nat) : Int)] 3]
        refine TX.starCons (k := 13) (j := 6) rfl rfl (by decide) ?_
        show TX _ _ _ _ _ _ _ [emp, cells b2 [.bool false] 4, emp, emp, cells bs [.string s] 9, emp, star ((d :: ds).map mark), emp, cells b1 [.int .i64 stop] 3, vec rnC 36 3 v (runs (pcs s.data.toList)), cells b3 [v] 25, cells bR [.int .i64 (r : Int)] 3, cells b5 [.int .i64 ((runs (pcs s.data.toList)).length : Int)] 3, emp, cells b7 [.int .i64 ((r + 1 : Nat) : Int)] 3]
        exact TX.againD (r + 1, b7, d :: ds) trivial (by simp only; omega) rfl (Sub.cons rfl (Sub.cons rfl (Sub.cons rfl (Sub.cons rfl (Sub.cons rfl Sub.nil))))) (Splits.of [8, 1, 9, 10, 4, 14, 6] (by as_aux_lemma => kernel_rfl) rfl)
      · rintro d c pre x post g hxs hX
        show TC _ _ _ _ _ _ _ _ _ [emp, cells b2 [.bool false] 4, emp, emp, cells bs [.string s] 9, emp, star (ds.map mark), emp, cells b1 [.int .i64 stop] 3, vec rnC 36 3 v (runs (pcs s.data.toList)), cells b3 [v] 25, cells bR [.int .i64 (r : Int)] 3, cells b5 [.int .i64 ((pre ++ [x]).length : Int)] 3, mark d]
        obtain ⟨rfl, hr0, hst⟩ := hX
        refine TC.exit ?_
        refine TX.blockHere ?_
        refine TX.next ?_
        refine TC.seq ?_
        refine TC.region ?_
        refine TO.load (k := 12) sc_3 rfl (by decide) rfl rfl rfl ?_
        refine TO.load (k := 10) sc_25 rfl (by decide) rfl rfl rfl ?_
        refine TO.lenVec (k := 9) rfl (by decide) rfl rfl Try.underlying25 ?_
        refine TO.bin rfl (by decide) rfl rfl bin_neq ?_
        refine TO.move rfl (by decide) rfl ?_
        refine TO.split (s := 76) rfl (fun h4 => ?_) (fun h4 => ?_)
        · -- yes
          have h4 := bne_iff_ne.1 h4
          refine TO.load (k := 11) sc_3 rfl (by decide) rfl rfl rfl ?_
          refine TO.bin rfl (by decide) rfl rfl (bin_known (congrArg Value.bool (show (((r : Int) : Int) == 0) = true from (by simp [hr0]))) bin_eql) ?_
          refine TO.move rfl (by decide) rfl ?_
          refine TO.load (k := 12) sc_3 rfl (by decide) rfl rfl rfl ?_
          refine TO.load (k := 8) sc_3 rfl (by decide) rfl rfl rfl ?_
          refine TO.bin rfl (by decide) rfl rfl (bin_known (congrArg Value.bool (show ((((pre ++ [x]).length : Int) : Int) == stop) = true from (by simpa using hst))) bin_eql) ?_
          refine TO.pick (b := true) rfl (by decide) rfl rfl ?_
          refine TO.un rfl (by decide) rfl un_not ?_
          refine TO.pick (b := true) rfl (by decide) rfl rfl ?_
          refine TO.nil ?_
          refine TX.next ?_
          refine TC.condF rfl ?_
          refine TC.skip ?_
          refine TX.blockNormal ?_
          refine TX.next ?_
          refine TC.seq ?_
          refine TC.seq ?_
          refine TC.region ?_
          refine TO.load (k := 11) sc_3 rfl (by decide) rfl rfl rfl ?_
          refine TO.nil ?_
          refine TX.next ?_
          refine TC.region ?_
          refine TO.alloc zr_3 rfl (by decide) (fun b8 => ?_)
          refine TO.store (k := 14) (l' := [.int .i64 (r : Int)]) sz_3 rfl rfl rfl rfl rfl (fun _ _ => rfl) rfl ?_
          show TO _ _ _ _ _ _ _ _ _ _ [emp, cells b2 [.bool false] 4, emp, emp, cells bs [.string s] 9, emp, star (ds.map mark), emp, cells b1 [.int .i64 stop] 3, vec rnC 36 3 v (runs (pcs s.data.toList)), cells b3 [v] 25, cells bR [.int .i64 (r : Int)] 3, cells b5 [.int .i64 ((pre ++ [x]).length : Int)] 3, mark d, cells b8 [.int .i64 (r : Int)] 3]
          refine TO.nil ?_
          refine TX.next ?_
          refine TC.region ?_
          refine TO.load (k := 14) sc_3 rfl (by decide) rfl rfl rfl ?_
          refine TO.bin rfl (by decide) rfl rfl (bin_add (r := (r : Int) + 1) (IntWalk.i64_in _ (by omega))) ?_
          refine TO.store (k := 14) (l' := [.int .i64 ((r : Int) + 1)]) sz_3 rfl rfl rfl rfl rfl (fun _ _ => rfl) rfl ?_
          refine TO.nil ?_
          refine TX.rewE (k := 14) rfl (show cells b8 [.int .i64 ((r : Int) + 1)] 3 = cells b8 [.int .i64 ((r + 1 : Nat) : Int)] 3 from congrArg (fun z : Int => cells b8 [.int .i64 z] 3) (show (r : Int) + 1 = ((r + 1 : Nat) : Int) by omega)) ?_
          show TX _ _ _ _ _ _ _ [emp, cells b2 [.bool false] 4, emp, emp, cells bs [.string s] 9, emp, star (ds.map mark), emp, cells b1 [.int .i64 stop] 3, vec rnC 36 3 v (runs (pcs s.data.toList)), cells b3 [v] 25, cells bR [.int .i64 (r : Int)] 3, cells b5 [.int .i64 ((pre ++ [x]).length : Int)] 3, mark d, cells b8 [.int .i64 ((r + 1 : Nat) : Int)] 3]
          refine TX.starCons (k := 13) (j := 6) rfl rfl (by decide) ?_
          show TX _ _ _ _ _ _ _ [emp, cells b2 [.bool false] 4, emp, emp, cells bs [.string s] 9, emp, star ((d :: ds).map mark), emp, cells b1 [.int .i64 stop] 3, vec rnC 36 3 v (runs (pcs s.data.toList)), cells b3 [v] 25, cells bR [.int .i64 (r : Int)] 3, cells b5 [.int .i64 ((pre ++ [x]).length : Int)] 3, emp, cells b8 [.int .i64 ((r + 1 : Nat) : Int)] 3]
          exact TX.againD (r + 1, b8, d :: ds) trivial (by simp only; omega) rfl (Sub.cons rfl (Sub.cons rfl (Sub.cons rfl (Sub.cons rfl (Sub.cons rfl Sub.nil))))) (Splits.of [8, 1, 9, 10, 4, 14, 6] (by as_aux_lemma => kernel_rfl) rfl)
        · -- no
          have h4 := bne_eq_false_iff_eq.1 h4
          refine TO.skip rfl (by decide) ?_
          refine TO.skip rfl (by decide) ?_
          refine TO.skip rfl (by decide) ?_
          refine TO.skip rfl (by decide) ?_
          refine TO.skip rfl (by decide) ?_
          refine TO.skip rfl (by decide) ?_
          refine TO.skip rfl (by decide) ?_
          refine TO.skip rfl (by decide) ?_
          refine TO.pick (b := false) rfl (by decide) rfl rfl ?_
          refine TO.nil ?_
          refine TX.next ?_
          refine TC.condF rfl ?_
          refine TC.skip ?_
          refine TX.blockNormal ?_
          refine TX.next ?_
          refine TC.seq ?_
          refine TC.seq ?_
          refine TC.region ?_
          refine TO.load (k := 11) sc_3 rfl (by decide) rfl rfl rfl ?_
          refine TO.nil ?_
          refine TX.next ?_
          refine TC.region ?_
          refine TO.alloc zr_3 rfl (by decide) (fun b9 => ?_)
          refine TO.store (k := 14) (l' := [.int .i64 (r : Int)]) sz_3 rfl rfl rfl rfl rfl (fun _ _ => rfl) rfl ?_
          show TO _ _ _ _ _ _ _ _ _ _ [emp, cells b2 [.bool false] 4, emp, emp, cells bs [.string s] 9, emp, star (ds.map mark), emp, cells b1 [.int .i64 stop] 3, vec rnC 36 3 v (runs (pcs s.data.toList)), cells b3 [v] 25, cells bR [.int .i64 (r : Int)] 3, cells b5 [.int .i64 ((pre ++ [x]).length : Int)] 3, mark d, cells b9 [.int .i64 (r : Int)] 3]
          refine TO.nil ?_
          refine TX.next ?_
          refine TC.region ?_
          refine TO.load (k := 14) sc_3 rfl (by decide) rfl rfl rfl ?_
          refine TO.bin rfl (by decide) rfl rfl (bin_add (r := (r : Int) + 1) (IntWalk.i64_in _ (by omega))) ?_
          refine TO.store (k := 14) (l' := [.int .i64 ((r : Int) + 1)]) sz_3 rfl rfl rfl rfl rfl (fun _ _ => rfl) rfl ?_
          refine TO.nil ?_
          refine TX.rewE (k := 14) rfl (show cells b9 [.int .i64 ((r : Int) + 1)] 3 = cells b9 [.int .i64 ((r + 1 : Nat) : Int)] 3 from congrArg (fun z : Int => cells b9 [.int .i64 z] 3) (show (r : Int) + 1 = ((r + 1 : Nat) : Int) by omega)) ?_
          show TX _ _ _ _ _ _ _ [emp, cells b2 [.bool false] 4, emp, emp, cells bs [.string s] 9, emp, star (ds.map mark), emp, cells b1 [.int .i64 stop] 3, vec rnC 36 3 v (runs (pcs s.data.toList)), cells b3 [v] 25, cells bR [.int .i64 (r : Int)] 3, cells b5 [.int .i64 ((pre ++ [x]).length : Int)] 3, mark d, cells b9 [.int .i64 ((r + 1 : Nat) : Int)] 3]
          refine TX.starCons (k := 13) (j := 6) rfl rfl (by decide) ?_
          show TX _ _ _ _ _ _ _ [emp, cells b2 [.bool false] 4, emp, emp, cells bs [.string s] 9, emp, star ((d :: ds).map mark), emp, cells b1 [.int .i64 stop] 3, vec rnC 36 3 v (runs (pcs s.data.toList)), cells b3 [v] 25, cells bR [.int .i64 (r : Int)] 3, cells b5 [.int .i64 ((pre ++ [x]).length : Int)] 3, emp, cells b9 [.int .i64 ((r + 1 : Nat) : Int)] 3]
          exact TX.againD (r + 1, b9, d :: ds) trivial (by simp only; omega) rfl (Sub.cons rfl (Sub.cons rfl (Sub.cons rfl (Sub.cons rfl (Sub.cons rfl Sub.nil))))) (Splits.of [8, 1, 9, 10, 4, 14, 6] (by as_aux_lemma => kernel_rfl) rfl)
    ·
      refine TC.seq ?_
      refine TC.seq ?_
      refine TC.region ?_
      refine TO.load (k := 5) sc_3 rfl (by decide) rfl rfl rfl ?_
      refine TO.bin rfl (by decide) rfl rfl (bin_known (congrArg Value.bool (show (decide (((r : Int) : Int) < 2)) = false from (by simp; omega))) bin_lss) ?_
      refine TO.nil ?_
      refine TX.next ?_
      refine TC.condF rfl ?_
      refine TC.exit ?_
      refine TX.thenExit ?_
      refine TX.thenExit ?_
      refine TX.blockHere ?_
      refine TX.next ?_
      refine TC.seq ?_
      refine TC.region ?_
      refine TO.store (k := 1) (l' := [.bool true]) sz_4 rfl rfl rfl rfl rfl (fun _ _ => rfl) rfl ?_
      refine TO.nil ?_
      refine TX.next ?_
      refine TC.ret ?_
      exact TX.finM (rs := [.cell 4 4]) ds () (.inl rfl) (Splits.open0 (k := 6) rfl) Try.results4 (.cons (.cell sc_4 (k := 1) rfl rfl) .nil) rfl Splits.nil
theorem lawRuns_any (s : ByteArray) (stop : Int) (w : World) (h0 : s.size ≤ 140737488351232) (h1 : -9223372036854775808 ≤ stop) (h2 : stop ≤ 9223372036854775807) :
    Calls Try.prog 4 #[.string s, .int .i64 stop] w fun e w' => e = .returned (.bool true) ∧ Below w.heap.size w w' := lawRuns_p s stop w
end Go.Proofs.Ytekjfmjeemjcjaa
