/-
  class.Runs$1 is an iterator over the rows of pieces of one kind. Nothing is assumed.
-/
import Derived.Test.YtekjfmjeemjcjaaC1
namespace Go.Proofs.Ytekjfmjeemjcjaa
open Go.RowKit Go.Lib
set_option linter.unusedVariables false
set_option maxRecDepth 100000 in
set_option maxHeartbeats 4000000 in
theorem runs1_itr (s : ByteArray) (hs : s.size ≤ 2147483647) (Bs : Nat) : Itr Try.prog 37 [.pointer (some ⟨Bs, 0, none⟩)] rnV (runs (pcs s.data.toList)) [(Bs, .cells #[.string s] 9 (0, 0))] := by
  refine Itr.intro Try.func37 rfl Try.ntmps37 (by simp) ?_
  intro l w0 K I X hRo hy
  refine TC.seq ?_
  refine TC.region ?_
  refine TO.box rfl (by decide) rfl (fun b1 => ?_)
  refine TO.nil ?_
  refine TX.next ?_
  refine TC.seq ?_
  refine TC.region ?_
  refine TO.alloc zr_34 rfl (by decide) (fun b2 => ?_)
  refine TO.nil ?_
  refine TX.next ?_
  refine TC.seq ?_
  refine TC.seq ?_
  refine TC.region ?_
  refine TO.loadRo (i := 0) hRo sc_9 rfl (by decide) rfl rfl rfl ?_
  refine TO.call (vs := [.string s]) rfl (by decide) rfl rfl rfl en_38 (pieces_fn s) Splits.nil ?_
  rintro bp
  show TO _ _ _ _ _ _ _ _ _ _ [I [], cells b1 [.func (.yield l) #[] #[]] 57, cells b2 [.int .i64 0, .int .i64 0, .int .i64 0] 34, cells bp [.string s] 9]
  refine TO.nil ?_
  refine TX.next ?_
  refine TC.block ?_
  refine TC.range (α := Pc) (β := List Rn × Option Rn) (γ := List Rn × Rn × List Rn) (δ := Nat) (ps := [9]) hRo rfl en_63 (pieces1_itr s (by omega) bp) (fun pre b => rfold pre = b) (fun pre b => [cells b1 [.func (.yield l) #[] #[]] 57, cells b2 [.int .i64 (nowF b.2), .int .i64 (nowT b.2), .int .i64 (nowK b.2)] 34, I b.1]) (fun c pre g => c = .ret ∧ runs (pcs s.data.toList) = g.1 ++ g.2.1 :: g.2.2) (fun c pre g => [X (g.1 ++ [g.2.1])]) (fun pre x b j => [(2, .pointer (some ⟨b1, 0, none⟩)), (3, .pointer (some ⟨b2, 0, none⟩)), (4, .pointer (some ⟨j, 0, none⟩))]) (fun pre x b j => [cells b1 [.func (.yield l) #[] #[]] 57, cells b2 [.int .i64 (nowF b.2), .int .i64 (nowT b.2), .int .i64 (nowK b.2)] 34, I b.1, cells j [.int .i64 (x.i : Int), .int .i64 (x.w : Int), .int .i32 (x.r : Int), .bool x.broken] 51]) ([], none) rfl (Splits.of [1, 2, 0] (by as_aux_lemma => kernel_rfl) rfl) ⟨.inl ⟨3, rfl⟩, trivial⟩ (fun _ => rfl) (by decide) ?_ ?_ ?_ ?_
  · rintro lp rc pre x post b w1 K1 hxs hext hro hinv
    refine TC.region ?_
    refine TO.alloc zr_51 rfl (by decide) (fun b3 => ?_)
    refine TO.stores (k := 3) (vs := [.int .i64 (x.i : Int), .int .i64 (x.w : Int), .int .i32 (x.r : Int), .bool x.broken]) (l' := [.int .i64 (x.i : Int), .int .i64 (x.w : Int), .int .i32 (x.r : Int), .bool x.broken]) sz_51 rfl rfl rfl rfl rfl (show _ ≤ _ by simp) rfl rfl ?_
    show TO _ _ _ _ _ _ _ _ _ _ [cells b1 [.func (.yield l) #[] #[]] 57, cells b2 [.int .i64 (nowF b.2), .int .i64 (nowT b.2), .int .i64 (nowK b.2)] 34, I b.1, cells b3 [.int .i64 (x.i : Int), .int .i64 (x.w : Int), .int .i32 (x.r : Int), .bool x.broken] 51]
    refine TO.nil ?_
    exact fun a w ha hw => ⟨b3, (Sub.cons rfl (Sub.cons rfl (Sub.cons rfl (Sub.nil)))) _ _ _ ha, hw.weaken (Splits.of [0, 1, 2, 3] (by as_aux_lemma => kernel_rfl) rfl)⟩
  · rintro lp rc pre x post b j w1 K1 hxs hext hro hinv
    have hmem : x ∈ pcs s.data.toList := by rw [hxs]; simp
    have hv := pcs_valid _ x hmem
    have hend : x.i + x.w ≤ s.size := by simpa using (pcs_pos _ x hmem).2.1
    have hsn := rfold_snoc pre x
    obtain ⟨E, o⟩ := b
    have hinv : rfold pre = (E, o) := hinv
    rw [hinv] at hsn
    rcases o with _ | n
    ·
      show TC _ _ _ _ _ _ _ _ _ [cells b1 [.func (.yield l) #[] #[]] 57, cells b2 [.int .i64 0, .int .i64 0, .int .i64 0] 34, I E, cells j [.int .i64 (x.i : Int), .int .i64 (x.w : Int), .int .i32 (x.r : Int), .bool x.broken] 51]
      refine TC.block ?_
      refine TC.seq ?_
      refine TC.drawN 8 [(0, 10, .agg #[.int .i64 (x.i : Int), .int .i64 (x.w : Int), .int .i32 (x.r : Int), .bool x.broken]), (1, 11, .int .i64 (kindOf x.broken x.r)), (2, 12, .pointer (some ⟨j, 0, none⟩)), (3, 13, .int .i64 (x.i : Int)), (4, 14, .pointer (some ⟨j, 1, none⟩)), (5, 15, .int .i64 (x.w : Int)), (6, 16, .int .i64 ((x.i : Int) + (x.w : Int))), (7, 5, .int .i64 (kindOf x.broken x.r))] mixed (by as_aux_lemma => kernel_rfl) (by as_aux_lemma => kernel_rfl) (by decide) (by rfl) (by as_aux_lemma => kernel_rfl) (by as_aux_lemma => kernel_rfl) (DrawPre.cons ?_ (DrawPre.cons ?_ (DrawPre.cons ?_ (DrawPre.cons ?_ (DrawPre.cons ?_ (DrawPre.cons ?_ (DrawPre.cons ?_ (DrawPre.cons ?_ DrawPre.nil)))))))) ?_
      · intro D hn hd hcl hu hi
        refine TO.loads (k := 3) (cs := [.int .i64 (x.i : Int), .int .i64 (x.w : Int), .int .i32 (x.r : Int), .bool x.broken]) rw_51 rfl (by decide) (dl_old (by rfl) rfl) rfl rfl rfl ?_
        exact TX.quiet 0 hu hi rfl
      · intro D hn hd hcl hu hi
        refine TO.callP (v := .int .i64 (kindOf x.broken x.r)) (vs := [.agg #[.int .i64 (x.i : Int), .int .i64 (x.w : Int), .int .i32 (x.r : Int), .bool x.broken]]) rfl (by decide) rfl (evL.cons (dl_lookup (m := 0) hu rfl (hd 0 (by decide))) evL.nil) rfl en_34 (of_p _ _ _ _ (by omega) (by omega)) ?_
        exact TX.quiet 1 hu hi rfl
      · intro D hn hd hcl hu hi
        refine TO.fieldAddr fl_51_0 rfl (by decide) (dl_old (by rfl) rfl) (show _ = 0 from rfl) ?_
        exact TX.quiet 2 hu hi rfl
      · intro D hn hd hcl hu hi
        refine TO.load (k := 3) sc_3 rfl (by decide) (dl_lookup (m := 2) hu rfl (hd 2 (by decide))) rfl rfl ?_
        exact TX.quiet 3 hu hi rfl
      · intro D hn hd hcl hu hi
        refine TO.fieldAddr fl_51_1 rfl (by decide) (dl_old (by rfl) rfl) (show _ = 1 from rfl) ?_
        exact TX.quiet 4 hu hi rfl
      · intro D hn hd hcl hu hi
        refine TO.load (k := 3) sc_3 rfl (by decide) (dl_lookup (m := 4) hu rfl (hd 4 (by decide))) rfl rfl ?_
        exact TX.quiet 5 hu hi rfl
      · intro D hn hd hcl hu hi
        refine TO.bin rfl (by decide) (dl_lookup (m := 3) hu rfl (hd 3 (by decide))) (dl_lookup (m := 5) hu rfl (hd 5 (by decide))) (bin_add (r := (x.i : Int) + (x.w : Int)) (IntWalk.i64_in _ (by omega))) ?_
        exact TX.quiet 6 hu hi rfl
      · intro D hn hd hcl hu hi
        refine TO.assign rfl (by decide) (dl_lookup (m := 1) hu rfl (hd 1 (by decide))) ?_
        exact TX.quiet 7 hu hi rfl
      refine TO.assign rfl (by decide) rfl ?_
      refine TO.nil ?_
      refine TX.next ?_
      refine TC.seq ?_
      refine TC.seq ?_
      refine TC.region ?_
      refine TO.fieldAddr fl_34_0 rfl (by decide) rfl (show _ = 0 from rfl) ?_
      refine TO.fieldAddr fl_31_1 rfl (by decide) rfl (show _ = 1 from rfl) ?_
      refine TO.load (k := 1) sc_3 rfl (by decide) rfl rfl rfl ?_
      refine TO.fieldAddr fl_34_0 rfl (by decide) rfl (show _ = 0 from rfl) ?_
      refine TO.fieldAddr fl_31_0 rfl (by decide) rfl (show _ = 0 from rfl) ?_
      refine TO.load (k := 1) sc_3 rfl (by decide) rfl rfl rfl ?_
      refine TO.bin rfl (by decide) rfl rfl bin_gtr ?_
      refine TO.move rfl (by decide) rfl ?_
      refine TO.split (s := 24) rfl (fun h1 => ?_) (fun h1 => ?_)
      · -- yes
        have h1 := of_decide_eq_true h1
        exact absurd h1 (by omega)
      · -- no
        have h1 := of_decide_eq_false h1
        refine TO.skip rfl (by decide) ?_
        refine TO.skip rfl (by decide) ?_
        refine TO.skip rfl (by decide) ?_
        refine TO.skip rfl (by decide) ?_
        refine TO.pick (b := false) rfl (by decide) rfl rfl ?_
        refine TO.nil ?_
        refine TX.next ?_
        refine TC.condF rfl ?_
        refine TC.skip ?_
        refine TX.next ?_
        refine TC.seq ?_
        refine TC.seq ?_
        refine TC.region ?_
        refine TO.fieldAddr fl_34_0 rfl (by decide) rfl (show _ = 0 from rfl) ?_
        refine TO.fieldAddr fl_31_1 rfl (by decide) rfl (show _ = 1 from rfl) ?_
        refine TO.load (k := 1) sc_3 rfl (by decide) rfl rfl rfl ?_
        refine TO.fieldAddr fl_34_0 rfl (by decide) rfl (show _ = 0 from rfl) ?_
        refine TO.fieldAddr fl_31_0 rfl (by decide) rfl (show _ = 0 from rfl) ?_
        refine TO.load (k := 1) sc_3 rfl (by decide) rfl rfl rfl ?_
        refine TO.bin rfl (by decide) rfl rfl bin_gtr ?_
        refine TO.move rfl (by decide) rfl ?_
        refine TO.split (s := 40) rfl (fun h2 => ?_) (fun h2 => ?_)
        · -- yes
          have h2 := of_decide_eq_true h2
          exact absurd h2 (by omega)
        · -- no
          have h2 := of_decide_eq_false h2
          refine TO.skip rfl (by decide) ?_
          refine TO.skip rfl (by decide) ?_
          refine TO.skip rfl (by decide) ?_
          refine TO.skip rfl (by decide) ?_
          refine TO.pick (b := false) rfl (by decide) rfl rfl ?_
          refine TO.nil ?_
          refine TX.next ?_
          refine TC.condF rfl ?_
          refine TC.skip ?_
          refine TX.next ?_
          refine TC.region ?_
          refine TO.fieldAddr fl_51_0 rfl (by decide) rfl (show _ = 0 from rfl) ?_
          refine TO.load (k := 3) sc_3 rfl (by decide) rfl rfl rfl ?_
          refine TO.move rfl (by decide) rfl ?_
          refine TO.build (v := .agg #[.int .i64 (x.i : Int), .int .i64 ((x.i : Int) + (x.w : Int))]) (ps := [(0, .tmp 47), (1, .tmp 48)]) rfl (by decide) rfl (fun _ => by kernel_rfl) ?_
          refine TO.move rfl (by decide) rfl ?_
          refine TO.build (v := .agg #[.int .i64 (x.i : Int), .int .i64 ((x.i : Int) + (x.w : Int)), .int .i64 (kindOf x.broken x.r)]) (ps := [(0, .tmp 49), (1, .tmp 50)]) rfl (by decide) rfl (fun _ => by kernel_rfl) ?_
          refine TO.stores (k := 1) (vs := [.int .i64 (x.i : Int), .int .i64 ((x.i : Int) + (x.w : Int)), .int .i64 (kindOf x.broken x.r)]) (l' := [.int .i64 (x.i : Int), .int .i64 ((x.i : Int) + (x.w : Int)), .int .i64 (kindOf x.broken x.r)]) sz_34 rfl rfl rfl rfl rfl (show _ ≤ _ by simp) rfl rfl ?_
          refine TO.nil ?_
          refine TX.blockNormal ?_
          exact TX.round (E, some (rnew x)) (by show rfold (pre ++ [x]) = _; rw [hsn]; rfl) (Splits.of [0, 1, 2] (by as_aux_lemma => kernel_rfl) rfl)
    ·
      have hwf : (n.f : Int) < n.t := by have := (rfold_wf s.data.toList _ pre (x :: post) (Nat.le_refl _) hxs E n hinv).1; omega
      show TC _ _ _ _ _ _ _ _ _ [cells b1 [.func (.yield l) #[] #[]] 57, cells b2 [.int .i64 (n.f : Int), .int .i64 (n.t : Int), .int .i64 n.k] 34, I E, cells j [.int .i64 (x.i : Int), .int .i64 (x.w : Int), .int .i32 (x.r : Int), .bool x.broken] 51]
      refine TC.block ?_
      refine TC.seq ?_
      refine TC.drawN 8 [(0, 10, .agg #[.int .i64 (x.i : Int), .int .i64 (x.w : Int), .int .i32 (x.r : Int), .bool x.broken]), (1, 11, .int .i64 (kindOf x.broken x.r)), (2, 12, .pointer (some ⟨j, 0, none⟩)), (3, 13, .int .i64 (x.i : Int)), (4, 14, .pointer (some ⟨j, 1, none⟩)), (5, 15, .int .i64 (x.w : Int)), (6, 16, .int .i64 ((x.i : Int) + (x.w : Int))), (7, 5, .int .i64 (kindOf x.broken x.r))] mixed (by as_aux_lemma => kernel_rfl) (by as_aux_lemma => kernel_rfl) (by decide) (by rfl) (by as_aux_lemma => kernel_rfl) (by as_aux_lemma => kernel_rfl) (DrawPre.cons ?_ (DrawPre.cons ?_ (DrawPre.cons ?_ (DrawPre.cons ?_ (DrawPre.cons ?_ (DrawPre.cons ?_ (DrawPre.cons ?_ (DrawPre.cons ?_ DrawPre.nil)))))))) ?_
      · intro D hn hd hcl hu hi
        refine TO.loads (k := 3) (cs := [.int .i64 (x.i : Int), .int .i64 (x.w : Int), .int .i32 (x.r : Int), .bool x.broken]) rw_51 rfl (by decide) (dl_old (by rfl) rfl) rfl rfl rfl ?_
        exact TX.quiet 0 hu hi rfl
      · intro D hn hd hcl hu hi
        refine TO.callP (v := .int .i64 (kindOf x.broken x.r)) (vs := [.agg #[.int .i64 (x.i : Int), .int .i64 (x.w : Int), .int .i32 (x.r : Int), .bool x.broken]]) rfl (by decide) rfl (evL.cons (dl_lookup (m := 0) hu rfl (hd 0 (by decide))) evL.nil) rfl en_34 (of_p _ _ _ _ (by omega) (by omega)) ?_
        exact TX.quiet 1 hu hi rfl
      · intro D hn hd hcl hu hi
        refine TO.fieldAddr fl_51_0 rfl (by decide) (dl_old (by rfl) rfl) (show _ = 0 from rfl) ?_
        exact TX.quiet 2 hu hi rfl
      · intro D hn hd hcl hu hi
        refine TO.load (k := 3) sc_3 rfl (by decide) (dl_lookup (m := 2) hu rfl (hd 2 (by decide))) rfl rfl ?_
        exact TX.quiet 3 hu hi rfl
      · intro D hn hd hcl hu hi
        refine TO.fieldAddr fl_51_1 rfl (by decide) (dl_old (by rfl) rfl) (show _ = 1 from rfl) ?_
        exact TX.quiet 4 hu hi rfl
      · intro D hn hd hcl hu hi
        refine TO.load (k := 3) sc_3 rfl (by decide) (dl_lookup (m := 4) hu rfl (hd 4 (by decide))) rfl rfl ?_
        exact TX.quiet 5 hu hi rfl
      · intro D hn hd hcl hu hi
        refine TO.bin rfl (by decide) (dl_lookup (m := 3) hu rfl (hd 3 (by decide))) (dl_lookup (m := 5) hu rfl (hd 5 (by decide))) (bin_add (r := (x.i : Int) + (x.w : Int)) (IntWalk.i64_in _ (by omega))) ?_
        exact TX.quiet 6 hu hi rfl
      · intro D hn hd hcl hu hi
        refine TO.assign rfl (by decide) (dl_lookup (m := 1) hu rfl (hd 1 (by decide))) ?_
        exact TX.quiet 7 hu hi rfl
      refine TO.assign rfl (by decide) rfl ?_
      refine TO.nil ?_
      refine TX.next ?_
      refine TC.seq ?_
      refine TC.seq ?_
      refine TC.region ?_
      refine TO.fieldAddr fl_34_0 rfl (by decide) rfl (show _ = 0 from rfl) ?_
      refine TO.fieldAddr fl_31_1 rfl (by decide) rfl (show _ = 1 from rfl) ?_
      refine TO.load (k := 1) sc_3 rfl (by decide) rfl rfl rfl ?_
      refine TO.fieldAddr fl_34_0 rfl (by decide) rfl (show _ = 0 from rfl) ?_
      refine TO.fieldAddr fl_31_0 rfl (by decide) rfl (show _ = 0 from rfl) ?_
      refine TO.load (k := 1) sc_3 rfl (by decide) rfl rfl rfl ?_
      refine TO.bin rfl (by decide) rfl rfl bin_gtr ?_
      refine TO.move rfl (by decide) rfl ?_
      refine TO.split (s := 24) rfl (fun h3 => ?_) (fun h3 => ?_)
      · -- yes
        have h3 := of_decide_eq_true h3
        refine TO.move rfl (by decide) rfl ?_
        refine TO.fieldAddr fl_34_1 rfl (by decide) rfl (show _ = 2 from rfl) ?_
        refine TO.load (k := 1) sc_32 rfl (by decide) rfl rfl rfl ?_
        refine TO.bin rfl (by decide) rfl rfl bin_eql ?_
        refine TO.pick (b := true) rfl (by decide) rfl rfl ?_
        refine TO.nil ?_
        refine TX.next ?_
        refine TC.condB rfl (fun h4 => ?_) (fun h4 => ?_)
        · -- yes
          have h4 := beq_iff_eq.1 h4
          have heq : n.k = kindOf x.broken x.r := h4.symm
          refine TC.seq ?_
          refine TC.region ?_
          refine TO.move rfl (by decide) rfl ?_
          refine TO.fieldAddr fl_34_0 rfl (by decide) rfl (show _ = 0 from rfl) ?_
          refine TO.fieldAddr fl_31_1 rfl (by decide) rfl (show _ = 1 from rfl) ?_
          refine TO.store (k := 1) (l' := [.int .i64 (n.f : Int), .int .i64 ((x.i : Int) + (x.w : Int)), .int .i64 n.k]) sz_3 rfl rfl rfl rfl rfl (fun _ _ => rfl) rfl ?_
          refine TO.nil ?_
          refine TX.next ?_
          refine TC.exit ?_
          refine TX.thenExit ?_
          refine TX.blockHere ?_
          exact TX.round (E, some ⟨n.f, x.i + x.w, n.k⟩) (by show rfold (pre ++ [x]) = _; rw [hsn]; simp only [rstep]; rw [if_pos (show n.k = pk x from heq)]) (Splits.of [0, 1, 2] (by as_aux_lemma => kernel_rfl) rfl)
        · -- no
          have h4 := beq_eq_false_iff_ne.1 h4
          have hne : n.k ≠ pk x := fun h => h4 h.symm
          refine TC.skip ?_
          refine TX.next ?_
          refine TC.seq ?_
          refine TC.seq ?_
          refine TC.region ?_
          refine TO.fieldAddr fl_34_0 rfl (by decide) rfl (show _ = 0 from rfl) ?_
          refine TO.fieldAddr fl_31_1 rfl (by decide) rfl (show _ = 1 from rfl) ?_
          refine TO.load (k := 1) sc_3 rfl (by decide) rfl rfl rfl ?_
          refine TO.fieldAddr fl_34_0 rfl (by decide) rfl (show _ = 0 from rfl) ?_
          refine TO.fieldAddr fl_31_0 rfl (by decide) rfl (show _ = 0 from rfl) ?_
          refine TO.load (k := 1) sc_3 rfl (by decide) rfl rfl rfl ?_
          refine TO.bin rfl (by decide) rfl rfl bin_gtr ?_
          refine TO.move rfl (by decide) rfl ?_
          refine TO.split (s := 40) rfl (fun h5 => ?_) (fun h5 => ?_)
          · -- yes
            have h5 := of_decide_eq_true h5
            refine TO.load (k := 0) sc_57 rfl (by decide) rfl rfl rfl ?_
            refine TO.loads (k := 1) (cs := [.int .i64 (n.f : Int), .int .i64 (n.t : Int), .int .i64 n.k]) rw_34 rfl (by decide) rfl rfl rfl rfl ?_
            obtain ⟨q, hq⟩ := runs_at pre post x E n hinv hne
            refine TO.yield (hy.later hext) rfl (by decide) rfl (hxs ▸ hq) rfl (k := 2) rfl ?_ ?_
            · -- yes
              refine TO.un rfl (by decide) rfl un_not ?_
              refine TO.pick (b := true) rfl (by decide) rfl rfl ?_
              refine TO.nil ?_
              refine TX.next ?_
              refine TC.condF rfl ?_
              refine TC.skip ?_
              refine TX.next ?_
              refine TC.region ?_
              refine TO.fieldAddr fl_51_0 rfl (by decide) rfl (show _ = 0 from rfl) ?_
              refine TO.load (k := 3) sc_3 rfl (by decide) rfl rfl rfl ?_
              refine TO.move rfl (by decide) rfl ?_
              refine TO.build (v := .agg #[.int .i64 (x.i : Int), .int .i64 ((x.i : Int) + (x.w : Int))]) (ps := [(0, .tmp 47), (1, .tmp 48)]) rfl (by decide) rfl (fun _ => by kernel_rfl) ?_
              refine TO.move rfl (by decide) rfl ?_
              refine TO.build (v := .agg #[.int .i64 (x.i : Int), .int .i64 ((x.i : Int) + (x.w : Int)), .int .i64 (kindOf x.broken x.r)]) (ps := [(0, .tmp 49), (1, .tmp 50)]) rfl (by decide) rfl (fun _ => by kernel_rfl) ?_
              refine TO.stores (k := 1) (vs := [.int .i64 (x.i : Int), .int .i64 ((x.i : Int) + (x.w : Int)), .int .i64 (kindOf x.broken x.r)]) (l' := [.int .i64 (x.i : Int), .int .i64 ((x.i : Int) + (x.w : Int)), .int .i64 (kindOf x.broken x.r)]) sz_34 rfl rfl rfl rfl rfl (show _ ≤ _ by simp) rfl rfl ?_
              refine TO.nil ?_
              refine TX.blockNormal ?_
              exact TX.round (E ++ [n], some (rnew x)) (by show rfold (pre ++ [x]) = _; rw [hsn]; simp only [rstep]; rw [if_neg hne]) (Splits.of [0, 1, 2] (by as_aux_lemma => kernel_rfl) rfl)
            · -- no
              refine TO.un rfl (by decide) rfl un_not ?_
              refine TO.pick (b := true) rfl (by decide) rfl rfl ?_
              refine TO.nil ?_
              refine TX.next ?_
              refine TC.condT rfl ?_
              refine TC.ret ?_
              refine TX.thenRet ?_
              refine TX.blockRet ?_
              exact TX.roundRet (E, n, q) ⟨rfl, (hxs ▸ hq)⟩ (Splits.of [2] (by as_aux_lemma => kernel_rfl) rfl)
          · -- no
            have h5 := of_decide_eq_false h5
            exact absurd hwf h5
      · -- no
        have h3 := of_decide_eq_false h3
        exact absurd hwf h3
  · rintro d b hinv
    show TX _ _ _ _ _ _ _ [emp, emp, emp, cells bp [.string s] 9, cells b1 [.func (.yield l) #[] #[]] 57, cells b2 [.int .i64 (nowF b.2), .int .i64 (nowT b.2), .int .i64 (nowK b.2)] 34, I b.1, mark d]
    obtain ⟨E, o⟩ := b
    have hinv : rfold (pcs s.data.toList) = (E, o) := hinv
    rcases o with _ | n
    ·
      show TX _ _ _ _ _ _ _ [emp, emp, emp, cells bp [.string s] 9, cells b1 [.func (.yield l) #[] #[]] 57, cells b2 [.int .i64 0, .int .i64 0, .int .i64 0] 34, I E, mark d]
      refine TX.blockNormal ?_
      refine TX.next ?_
      refine TC.seq ?_
      refine TC.region ?_
      refine TO.fieldAddr fl_34_0 rfl (by decide) rfl (show _ = 0 from rfl) ?_
      refine TO.fieldAddr fl_31_1 rfl (by decide) rfl (show _ = 1 from rfl) ?_
      refine TO.load (k := 5) sc_3 rfl (by decide) rfl rfl rfl ?_
      refine TO.fieldAddr fl_34_0 rfl (by decide) rfl (show _ = 0 from rfl) ?_
      refine TO.fieldAddr fl_31_0 rfl (by decide) rfl (show _ = 0 from rfl) ?_
      refine TO.load (k := 5) sc_3 rfl (by decide) rfl rfl rfl ?_
      refine TO.bin rfl (by decide) rfl rfl bin_gtr ?_
      refine TO.nil ?_
      refine TX.next ?_
      refine TC.condB rfl (fun h6 => ?_) (fun h6 => ?_)
      · -- yes
        have h6 := of_decide_eq_true h6
        exact absurd h6 (by omega)
      · -- no
        have h6 := of_decide_eq_false h6
        refine TC.skip ?_
        have he : I (runs (pcs s.data.toList)) = I E := by unfold runs; rw [hinv]; rfl
        skip
        exact TX.finY (ds := [d]) (.inr rfl) (Splits.of [7] (by as_aux_lemma => kernel_rfl) rfl) Try.results37 he (Splits.of [6] (by as_aux_lemma => kernel_rfl) rfl)
    ·
      have hwf : (n.f : Int) < n.t := by have := (rfold_wf s.data.toList _ (pcs s.data.toList) [] (Nat.le_refl _) (by simp) E n hinv).1; omega
      show TX _ _ _ _ _ _ _ [emp, emp, emp, cells bp [.string s] 9, cells b1 [.func (.yield l) #[] #[]] 57, cells b2 [.int .i64 (n.f : Int), .int .i64 (n.t : Int), .int .i64 n.k] 34, I E, mark d]
      refine TX.blockNormal ?_
      refine TX.next ?_
      refine TC.seq ?_
      refine TC.region ?_
      refine TO.fieldAddr fl_34_0 rfl (by decide) rfl (show _ = 0 from rfl) ?_
      refine TO.fieldAddr fl_31_1 rfl (by decide) rfl (show _ = 1 from rfl) ?_
      refine TO.load (k := 5) sc_3 rfl (by decide) rfl rfl rfl ?_
      refine TO.fieldAddr fl_34_0 rfl (by decide) rfl (show _ = 0 from rfl) ?_
      refine TO.fieldAddr fl_31_0 rfl (by decide) rfl (show _ = 0 from rfl) ?_
      refine TO.load (k := 5) sc_3 rfl (by decide) rfl rfl rfl ?_
      refine TO.bin rfl (by decide) rfl rfl bin_gtr ?_
      refine TO.nil ?_
      refine TX.next ?_
      refine TC.condB rfl (fun h7 => ?_) (fun h7 => ?_)
      · -- yes
        have h7 := of_decide_eq_true h7
        refine TC.region ?_
        refine TO.load (k := 4) sc_57 rfl (by decide) rfl rfl rfl ?_
        refine TO.loads (k := 5) (cs := [.int .i64 (n.f : Int), .int .i64 (n.t : Int), .int .i64 n.k]) rw_34 rfl (by decide) rfl rfl rfl rfl ?_
        refine TO.yield hy rfl (by decide) rfl (pre := E) (e := n) (post := []) (runs_last _ E n hinv) rfl (k := 6) rfl ?_ ?_
        · -- yes
          refine TO.nil ?_
          have he : I (runs (pcs s.data.toList)) = I (E ++ [n]) := by rw [runs_last _ E n hinv]
          exact TX.finY (ds := [d]) (.inr rfl) (Splits.of [7] (by as_aux_lemma => kernel_rfl) rfl) Try.results37 he (Splits.of [6] (by as_aux_lemma => kernel_rfl) rfl)
        · -- no
          refine TO.nil ?_
          exact TX.finX (ds := [d]) E n [] (runs_last _ E n hinv) (.inr rfl) (Splits.of [7] (by as_aux_lemma => kernel_rfl) rfl) Try.results37 (Splits.of [6] (by as_aux_lemma => kernel_rfl) rfl)
      · -- no
        have h7 := of_decide_eq_false h7
        exact absurd hwf h7
  · rintro d c pre x post g hxs hX
    show TC _ _ _ _ _ _ _ _ _ [emp, emp, emp, cells bp [.string s] 9, X (g.1 ++ [g.2.1]), mark d]
    obtain ⟨E, n, q⟩ := g
    obtain ⟨rfl, hq⟩ := hX
    refine TC.ret ?_
    refine TX.blockRet ?_
    refine TX.thenRet ?_
    exact TX.finX (ds := [d]) E n q hq (.inl rfl) (Splits.of [5] (by as_aux_lemma => kernel_rfl) rfl) Try.results37 (Splits.of [4] (by as_aux_lemma => kernel_rfl) rfl)
end Go.Proofs.Ytekjfmjeemjcjaa
