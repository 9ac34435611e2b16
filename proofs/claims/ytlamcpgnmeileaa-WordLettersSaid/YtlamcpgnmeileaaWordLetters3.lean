/-
  Texts laid together: WordC, WordD, WordE, WordP, Vow, RefW, RefW3, Wa, LfB, PlA, PlB, PlC, PlD, PlE, Gt, Gu, Gv, Gw, Ql, LfF. Nothing is assumed.
-/
import Derived.Test.YtlamcpgnmeileaaWordLetters2
import Derived.Test.YtlamcpgnmeileaaWordLetters1
namespace Go.Proofs.Ytlamcpgnmeileaa
open Go.RowKit Go.Lib
set_option linter.unusedVariables false
set_option linter.unusedSimpArgs false
def scV (s : Sc) : List Value := [.int .i64 s.st, .int .i64 s.tk.k, .int .i64 s.tk.f, .int .i64 s.tk.t, .int .i64 s.h.k, .int .i32 s.h.r, .int .i64 s.h.f, .int .i64 s.h.t, .bool s.h.al]
def tkV (t : Tk) : List Value := [.int .i64 t.k, .int .i64 t.f, .int .i64 t.t]
def tkA (t : Tk) : List Value := [.agg (tkV t).toArray]
def fitted (s : Sc) (u : Un) : Sc := ⟨(fits s.st u).1, s.tk, if (fits s.st u).2 = 2 then u else s.h⟩
theorem Holds.fact {w0 w : World} {K : Nat → Prop} {L : List Asn} {p : Prop} (h : Holds w0 K L w) (hp : p) : Holds w0 K (L ++ [fact p]) w :=
  h.grow (C' := fun _ => False) (Ext.refl _ _) (sepL.one (A := Go.Proofs.Ytlamcpgnmeileaa.fact p) ⟨fun _ h => h, hp⟩)
theorem TX.finE {P : Program} {F : Fence} {w0 : World} {K : Nat → Prop} {N : Nat} {σ : List (Nat × Value)} {L R As : List Asn} {fn : Func} {rs : List ResultVar} {vs : List Value} {β : Type} {V : β → Value} {Bs : β → List Asn} {e : Exit} {p : Prop} (b : β)
    (he : e = .ret ∨ e = .normal) (hrs : fn.results = rs.toArray) (hres : ResOks P σ L rs vs) (hv : resVal vs = V b) (hs : Splits L As R) (hp : p) (hB : Bs b = As ++ [fact p] := by rfl) :
    TX w0 K N [] (bodyPostM F 0 P fn (FR P V Bs w0 K)) e σ L := by
  intro a w ha hw
  have h1 := results_run hrs hres ha hw
  have h2 : LeavesInM F 0 P fn a.tmps (FR P V Bs w0 K) a.defers .returning w := by
    rw [ha.2.1]
    exact ⟨resVal vs, h1, b, by rw [hv], by rw [hB]; exact (hw.weaken hs).fact hp⟩
  rcases he with rfl | rfl <;> exact h2
set_option maxRecDepth 100000 in
set_option maxHeartbeats 4000000 in
theorem fits_fn (b : Nat) (s : Sc) (u : Un) : Fn Try.prog 62 [.pointer (some ⟨b, 0, none⟩), .agg #[.int .i64 u.k, .int .i32 u.r, .int .i64 u.f, .int .i64 u.t, .bool u.al]] [cells b (scV s) 92] (fun _ : Unit => .int .i64 (fits s.st u).2) (fun _ => [cells b (scV (fitted s u)) 92]) := by
 refine Fn.intro Try.func62 rfl Try.ntmps62 (by simp) ?_
 intro w0 K
 show TC _ _ _ _ _ _ _ _ _ [cells b [.int .i64 s.st, .int .i64 s.tk.k, .int .i64 (s.tk.f : Int), .int .i64 (s.tk.t : Int), .int .i64 s.h.k, .int .i32 (s.h.r : Int), .int .i64 (s.h.f : Int), .int .i64 (s.h.t : Int), .bool s.h.al] 92]
 refine TC.seq (TC.region ?_)
 refine TO.box rfl (by decide) rfl (fun b1 => ?_)
 refine TO.assign rfl (by decide) rfl (TO.nil (TX.next (TC.seq (TC.region (TO.fieldAddr fl_90_0 rfl (by decide) rfl (show _ = 0 from rfl) (TO.load (k := 1) sc_37 rfl (by decide) rfl rfl rfl (TO.assign rfl (by decide) rfl (TO.nil (TX.next (TC.seq (TC.seq (TC.region (TO.move rfl (by decide) rfl ?_)))))))))))))
 refine TO.nilCheck rfl (by decide) rfl (TO.fieldAddr fl_92_0 rfl (by decide) rfl (show _ = 0 from rfl) (TO.load (k := 0) sc_3 rfl (by decide) rfl rfl rfl (TO.nil (TX.next (TC.block (TC.seq (TC.seq (TC.region (TO.bin rfl (by decide) rfl rfl bin_eql (TO.assign rfl (by decide) rfl (TO.nil (TX.next ?_))))))))))))
 refine TC.condB rfl (fun h1 => ?_) (fun h1 => ?_)
 ·
  -- yes
  have h1 := beq_iff_eq.1 h1
  refine TC.skip (TX.next ?_)
  refine TC.condB rfl (fun h2 => ?_) (fun h2 => ?_)
  ·
   -- yes
   have h2 := beq_iff_eq.1 h2
   refine TC.seq (TC.seq (TC.region (TO.move rfl (by decide) rfl (TO.bin rfl (by decide) rfl rfl bin_eql (TO.nil (TX.next ?_))))))
   refine TC.condB rfl (fun h3 => ?_) (fun h3 => ?_)
   ·
    -- yes
    have h3 := beq_iff_eq.1 h3
    refine TC.seq (TC.region (TO.move rfl (by decide) rfl (TO.nilCheck rfl (by decide) rfl (TO.fieldAddr fl_92_0 rfl (by decide) rfl (show _ = 0 from rfl) ?_))))
    refine TO.store (k := 0) (l' := [.int .i64 1, .int .i64 s.tk.k, .int .i64 (s.tk.f : Int), .int .i64 (s.tk.t : Int), .int .i64 s.h.k, .int .i32 (s.h.r : Int), .int .i64 (s.h.f : Int), .int .i64 (s.h.t : Int), .bool s.h.al]) sz_3 rfl rfl rfl rfl rfl (fun _ _ => rfl) rfl ?_
    refine TO.nil (TX.next (TC.seq (TC.region (TO.assign rfl (by decide) rfl (TO.nil (TX.next (TC.ret (TX.thenRet (TX.blockRet (TX.thenRet ?_))))))))))
    have hfit : fits s.st u = (1, 1) := by unfold fits; simp_all <;> omega
    have hB : [.int .i64 1, .int .i64 s.tk.k, .int .i64 (s.tk.f : Int), .int .i64 (s.tk.t : Int), .int .i64 s.h.k, .int .i32 (s.h.r : Int), .int .i64 (s.h.f : Int), .int .i64 (s.h.t : Int), .bool s.h.al] = scV (fitted s u) := by unfold fitted; rw [hfit]; rfl
    refine TX.rewE (k := 0) rfl (show cells b [.int .i64 1, .int .i64 s.tk.k, .int .i64 (s.tk.f : Int), .int .i64 (s.tk.t : Int), .int .i64 s.h.k, .int .i32 (s.h.r : Int), .int .i64 (s.h.f : Int), .int .i64 (s.h.t : Int), .bool s.h.al] 92 = cells b (scV (fitted s u)) 92 from (congrArg (fun z => cells b z 92) hB)) ?_
    show TX _ _ _ _ _ _ _ [cells b (scV (fitted s u)) 92, cells b1 [.int .i64 u.k, .int .i32 (u.r : Int), .int .i64 (u.f : Int), .int .i64 (u.t : Int), .bool u.al] 90]
    exact TX.fin (rs := [.tmp 4]) () (.inl rfl) Try.results62 (.cons (.tmp rfl) .nil) (by rw [hfit]; rfl) (Splits.of [0] (by as_aux_lemma => kernel_rfl) rfl)
   ·
    -- no
    have h3 := beq_eq_false_iff_ne.1 h3
    refine TC.skip (TX.next (TC.seq (TC.region (TO.move rfl (by decide) rfl (TO.nilCheck rfl (by decide) rfl (TO.fieldAddr fl_92_0 rfl (by decide) rfl (show _ = 0 from rfl) (TO.load (k := 0) sc_3 rfl (by decide) rfl rfl rfl (TO.bin rfl (by decide) rfl rfl bin_eql (TO.move rfl (by decide) rfl ?_)))))))))
    refine TO.split (s := 25) rfl (fun h4 => ?_) (fun h4 => ?_)
    ·
     -- yes
     have h4 := beq_iff_eq.1 h4
     refine TO.loads (k := 1) (cs := [.int .i64 u.k, .int .i32 (u.r : Int), .int .i64 (u.f : Int), .int .i64 (u.t : Int), .bool u.al]) rw_90 rfl (by decide) rfl rfl rfl rfl (TO.callP (v := .bool (joint u)) (vs := [.agg #[.int .i64 u.k, .int .i32 (u.r : Int), .int .i64 (u.f : Int), .int .i64 (u.t : Int), .bool u.al]]) rfl (by decide) rfl rfl rfl en_84 (joint_p u) (TO.pick (b := true) rfl (by decide) rfl rfl (TO.nil (TX.next ?_))))
     refine TC.condB rfl (fun h5 => ?_) (fun h5 => ?_)
     ·
      -- yes
      refine TC.seq ?_
      refine TC.drawB (β := Unit) 6 5 _ [(0, 29, .pointer (some ⟨b, 0, none⟩)), (1, 30, .pointer (some ⟨b, 0, none⟩)), (2, 31, .agg #[.int .i64 u.k, .int .i32 (u.r : Int), .int .i64 (u.f : Int), .int .i64 (u.t : Int), .bool u.al]), (3, 32, .pointer (some ⟨b, 0, none⟩)), (4, 33, .pointer (some ⟨b, 0, none⟩))] (fun _b => []) (fun _b => [cells b [.int .i64 2, .int .i64 s.tk.k, .int .i64 (s.tk.f : Int), .int .i64 (s.tk.t : Int), .int .i64 s.h.k, .int .i32 (s.h.r : Int), .int .i64 (s.h.f : Int), .int .i64 (s.h.t : Int), .bool s.h.al] 92, cells b1 [.int .i64 u.k, .int .i32 (u.r : Int), .int .i64 (u.f : Int), .int .i64 (u.t : Int), .bool u.al] 90]) mixed (by as_aux_lemma => kernel_rfl) (by as_aux_lemma => kernel_rfl) rfl (by decide) (by decide) (by rfl) (by as_aux_lemma => kernel_rfl) (by as_aux_lemma => kernel_rfl) (DrawPreX.cons ?_ (DrawPreX.cons ?_ (DrawPreX.cons ?_ (DrawPreX.cons ?_ (DrawPreX.cons ?_ (DrawPreX.here DrawPreX.nil)))))) (fun _b => (DrawPreX.cons ?_ (DrawPreX.cons ?_ (DrawPreX.cons ?_ (DrawPreX.cons ?_ (DrawPreX.cons ?_ (DrawPreX.here DrawPreX.nil))))))) ?_ ?_
      ·
       intro D hn hd hcl hu hi
       refine TO.move rfl (by decide) (dl_old (by rfl) rfl) ?_
       exact TX.quiet 0 hu hi rfl
      ·
       intro D hn hd hcl hu hi
       refine TO.move rfl (by decide) (dl_old (by rfl) rfl) ?_
       exact TX.quiet 1 hu hi rfl
      ·
       intro D hn hd hcl hu hi
       refine TO.loads (k := 1) (cs := [.int .i64 u.k, .int .i32 (u.r : Int), .int .i64 (u.f : Int), .int .i64 (u.t : Int), .bool u.al]) rw_90 rfl (by decide) (dl_old (by rfl) rfl) rfl rfl rfl ?_
       exact TX.quiet 2 hu hi rfl
      ·
       intro D hn hd hcl hu hi
       refine TO.nilCheck rfl (by decide) (dl_lookup (m := 0) hu rfl (hd 0 (by decide))) ?_
       exact TX.quiet 3 hu hi rfl
      ·
       intro D hn hd hcl hu hi
       refine TO.fieldAddr fl_92_0 rfl (by decide) (dl_lookup (m := 3) hu rfl (hd 3 (by decide))) (show _ = 0 from rfl) ?_
       exact TX.quiet 4 hu hi rfl
      ·
       intro D hn hd hcl hu hi
       refine TO.move rfl (by decide) (dl_old (by rfl) rfl) ?_
       exact TX.quiet 0 hu hi rfl
      ·
       intro D hn hd hcl hu hi
       refine TO.move rfl (by decide) (dl_old (by rfl) rfl) ?_
       exact TX.quiet 1 hu hi rfl
      ·
       intro D hn hd hcl hu hi
       refine TO.loads (k := 1) (cs := [.int .i64 u.k, .int .i32 (u.r : Int), .int .i64 (u.f : Int), .int .i64 (u.t : Int), .bool u.al]) rw_90 rfl (by decide) (dl_old (by rfl) rfl) rfl rfl rfl ?_
       exact TX.quiet 2 hu hi rfl
      ·
       intro D hn hd hcl hu hi
       refine TO.nilCheck rfl (by decide) (dl_lookup (m := 0) hu rfl (hd 0 (by decide))) ?_
       exact TX.quiet 3 hu hi rfl
      ·
       intro D hn hd hcl hu hi
       refine TO.fieldAddr fl_92_0 rfl (by decide) (dl_lookup (m := 3) hu rfl (hd 3 (by decide))) (show _ = 0 from rfl) ?_
       exact TX.quiet 4 hu hi rfl
      ·
       intro D hn hd hcl
       refine TO.store (k := 0) (l' := [.int .i64 2, .int .i64 s.tk.k, .int .i64 (s.tk.f : Int), .int .i64 (s.tk.t : Int), .int .i64 s.h.k, .int .i32 (s.h.r : Int), .int .i64 (s.h.f : Int), .int .i64 (s.h.t : Int), .bool s.h.al]) sz_3 rfl (dl_lookup (m := 4) (by as_aux_lemma => kernel_rfl) rfl (hd 4 (by decide))) rfl rfl rfl (fun _ _ => rfl) rfl ?_
       exact fun a w ha hw => ⟨(), ha, hw⟩
      intro _b
      show TO _ _ _ _ _ _ _ _ _ _ [cells b [.int .i64 2, .int .i64 s.tk.k, .int .i64 (s.tk.f : Int), .int .i64 (s.tk.t : Int), .int .i64 s.h.k, .int .i32 (s.h.r : Int), .int .i64 (s.h.f : Int), .int .i64 (s.h.t : Int), .bool s.h.al] 92, cells b1 [.int .i64 u.k, .int .i32 (u.r : Int), .int .i64 (u.f : Int), .int .i64 (u.t : Int), .bool u.al] 90]
      refine TO.nilCheck rfl (by decide) rfl (TO.fieldAddr fl_92_2 rfl (by decide) rfl (show _ = 4 from rfl) (TO.stores (k := 0) (vs := [.int .i64 u.k, .int .i32 (u.r : Int), .int .i64 (u.f : Int), .int .i64 (u.t : Int), .bool u.al]) (l' := [.int .i64 2, .int .i64 s.tk.k, .int .i64 (s.tk.f : Int), .int .i64 (s.tk.t : Int), .int .i64 u.k, .int .i32 (u.r : Int), .int .i64 (u.f : Int), .int .i64 (u.t : Int), .bool u.al]) sz_90 rfl rfl rfl rfl rfl (show _ ≤ _ by simp) rfl rfl (TO.nil (TX.next (TC.seq (TC.region (TO.assign rfl (by decide) rfl (TO.nil (TX.next (TC.ret (TX.blockRet (TX.thenRet ?_))))))))))))
      have hfit : fits s.st u = (2, 2) := by unfold fits; simp_all <;> omega
      have hB : [.int .i64 2, .int .i64 s.tk.k, .int .i64 (s.tk.f : Int), .int .i64 (s.tk.t : Int), .int .i64 u.k, .int .i32 (u.r : Int), .int .i64 (u.f : Int), .int .i64 (u.t : Int), .bool u.al] = scV (fitted s u) := by unfold fitted; rw [hfit]; rfl
      refine TX.rewE (k := 0) rfl (show cells b [.int .i64 2, .int .i64 s.tk.k, .int .i64 (s.tk.f : Int), .int .i64 (s.tk.t : Int), .int .i64 u.k, .int .i32 (u.r : Int), .int .i64 (u.f : Int), .int .i64 (u.t : Int), .bool u.al] 92 = cells b (scV (fitted s u)) 92 from (congrArg (fun z => cells b z 92) hB)) ?_
      show TX _ _ _ _ _ _ _ [cells b (scV (fitted s u)) 92, cells b1 [.int .i64 u.k, .int .i32 (u.r : Int), .int .i64 (u.f : Int), .int .i64 (u.t : Int), .bool u.al] 90]
      exact TX.fin (rs := [.tmp 4]) () (.inl rfl) Try.results62 (.cons (.tmp rfl) .nil) (by rw [hfit]; rfl) (Splits.of [0] (by as_aux_lemma => kernel_rfl) rfl)
     ·
      -- no
      refine TC.skip (TX.blockNormal (TX.next (TC.seq (TC.region (TO.assign rfl (by decide) rfl (TO.nil (TX.next (TC.ret ?_))))))))
      have hfit : fits s.st u = (s.st, 0) := by unfold fits; simp_all <;> omega
      have hB : [.int .i64 s.st, .int .i64 s.tk.k, .int .i64 (s.tk.f : Int), .int .i64 (s.tk.t : Int), .int .i64 s.h.k, .int .i32 (s.h.r : Int), .int .i64 (s.h.f : Int), .int .i64 (s.h.t : Int), .bool s.h.al] = scV (fitted s u) := by unfold fitted; rw [hfit]; rfl
      refine TX.rewE (k := 0) rfl (show cells b [.int .i64 s.st, .int .i64 s.tk.k, .int .i64 (s.tk.f : Int), .int .i64 (s.tk.t : Int), .int .i64 s.h.k, .int .i32 (s.h.r : Int), .int .i64 (s.h.f : Int), .int .i64 (s.h.t : Int), .bool s.h.al] 92 = cells b (scV (fitted s u)) 92 from (congrArg (fun z => cells b z 92) hB)) ?_
      show TX _ _ _ _ _ _ _ [cells b (scV (fitted s u)) 92, cells b1 [.int .i64 u.k, .int .i32 (u.r : Int), .int .i64 (u.f : Int), .int .i64 (u.t : Int), .bool u.al] 90]
      exact TX.fin (rs := [.tmp 4]) () (.inl rfl) Try.results62 (.cons (.tmp rfl) .nil) (by rw [hfit]; rfl) (Splits.of [0] (by as_aux_lemma => kernel_rfl) rfl)
    ·
     -- no
     have h4 := beq_eq_false_iff_ne.1 h4
     refine TO.skip rfl (by decide) (TO.skip rfl (by decide) (TO.pick (b := false) rfl (by decide) rfl rfl (TO.nil (TX.next (TC.condF rfl (TC.skip (TX.blockNormal (TX.next (TC.seq (TC.region (TO.assign rfl (by decide) rfl (TO.nil (TX.next ?_)))))))))))))
     refine TC.ret ?_
     have hfit : fits s.st u = (s.st, 0) := by unfold fits; simp_all <;> omega
     have hB : [.int .i64 s.st, .int .i64 s.tk.k, .int .i64 (s.tk.f : Int), .int .i64 (s.tk.t : Int), .int .i64 s.h.k, .int .i32 (s.h.r : Int), .int .i64 (s.h.f : Int), .int .i64 (s.h.t : Int), .bool s.h.al] = scV (fitted s u) := by unfold fitted; rw [hfit]; rfl
     refine TX.rewE (k := 0) rfl (show cells b [.int .i64 s.st, .int .i64 s.tk.k, .int .i64 (s.tk.f : Int), .int .i64 (s.tk.t : Int), .int .i64 s.h.k, .int .i32 (s.h.r : Int), .int .i64 (s.h.f : Int), .int .i64 (s.h.t : Int), .bool s.h.al] 92 = cells b (scV (fitted s u)) 92 from (congrArg (fun z => cells b z 92) hB)) ?_
     show TX _ _ _ _ _ _ _ [cells b (scV (fitted s u)) 92, cells b1 [.int .i64 u.k, .int .i32 (u.r : Int), .int .i64 (u.f : Int), .int .i64 (u.t : Int), .bool u.al] 90]
     exact TX.fin (rs := [.tmp 4]) () (.inl rfl) Try.results62 (.cons (.tmp rfl) .nil) (by rw [hfit]; rfl) (Splits.of [0] (by as_aux_lemma => kernel_rfl) rfl)
  ·
   -- no
   have h2 := beq_eq_false_iff_ne.1 h2
   refine TC.seq (TC.seq (TC.region (TO.bin rfl (by decide) rfl rfl bin_eql (TO.assign rfl (by decide) rfl (TO.nil (TX.next ?_))))))
   refine TC.condB rfl (fun h6 => ?_) (fun h6 => ?_)
   ·
    -- yes
    have h6 := beq_iff_eq.1 h6
    refine TC.skip (TX.next ?_)
    refine TC.condB rfl (fun h7 => ?_) (fun h7 => ?_)
    ·
     -- yes
     have h7 := beq_iff_eq.1 h7
     refine TC.seq (TC.seq (TC.region (TO.move rfl (by decide) rfl (TO.bin rfl (by decide) rfl rfl bin_eql (TO.nil (TX.next ?_))))))
     refine TC.condB rfl (fun h8 => ?_) (fun h8 => ?_)
     ·
      -- yes
      have h8 := beq_iff_eq.1 h8
      refine TC.seq (TC.region (TO.move rfl (by decide) rfl (TO.nilCheck rfl (by decide) rfl (TO.fieldAddr fl_92_0 rfl (by decide) rfl (show _ = 0 from rfl) ?_))))
      refine TO.store (k := 0) (l' := [.int .i64 3, .int .i64 s.tk.k, .int .i64 (s.tk.f : Int), .int .i64 (s.tk.t : Int), .int .i64 s.h.k, .int .i32 (s.h.r : Int), .int .i64 (s.h.f : Int), .int .i64 (s.h.t : Int), .bool s.h.al]) sz_3 rfl rfl rfl rfl rfl (fun _ _ => rfl) rfl ?_
      refine TO.nil (TX.next (TC.seq (TC.region (TO.assign rfl (by decide) rfl (TO.nil (TX.next (TC.ret (TX.thenRet (TX.blockRet (TX.thenRet ?_))))))))))
      have hfit : fits s.st u = (3, 1) := by unfold fits; simp_all <;> omega
      have hB : [.int .i64 3, .int .i64 s.tk.k, .int .i64 (s.tk.f : Int), .int .i64 (s.tk.t : Int), .int .i64 s.h.k, .int .i32 (s.h.r : Int), .int .i64 (s.h.f : Int), .int .i64 (s.h.t : Int), .bool s.h.al] = scV (fitted s u) := by unfold fitted; rw [hfit]; rfl
      refine TX.rewE (k := 0) rfl (show cells b [.int .i64 3, .int .i64 s.tk.k, .int .i64 (s.tk.f : Int), .int .i64 (s.tk.t : Int), .int .i64 s.h.k, .int .i32 (s.h.r : Int), .int .i64 (s.h.f : Int), .int .i64 (s.h.t : Int), .bool s.h.al] 92 = cells b (scV (fitted s u)) 92 from (congrArg (fun z => cells b z 92) hB)) ?_
      show TX _ _ _ _ _ _ _ [cells b (scV (fitted s u)) 92, cells b1 [.int .i64 u.k, .int .i32 (u.r : Int), .int .i64 (u.f : Int), .int .i64 (u.t : Int), .bool u.al] 90]
      exact TX.fin (rs := [.tmp 4]) () (.inl rfl) Try.results62 (.cons (.tmp rfl) .nil) (by rw [hfit]; rfl) (Splits.of [0] (by as_aux_lemma => kernel_rfl) rfl)
     ·
      -- no
      have h8 := beq_eq_false_iff_ne.1 h8
      refine TC.skip (TX.next (TC.seq (TC.region (TO.move rfl (by decide) rfl (TO.nilCheck rfl (by decide) rfl (TO.fieldAddr fl_92_0 rfl (by decide) rfl (show _ = 0 from rfl) (TO.load (k := 0) sc_3 rfl (by decide) rfl rfl rfl (TO.bin rfl (by decide) rfl rfl bin_eql (TO.move rfl (by decide) rfl ?_)))))))))
      refine TO.split (s := 49) rfl (fun h9 => ?_) (fun h9 => ?_)
      ·
       -- yes
       have h9 := beq_iff_eq.1 h9
       refine TO.loads (k := 1) (cs := [.int .i64 u.k, .int .i32 (u.r : Int), .int .i64 (u.f : Int), .int .i64 (u.t : Int), .bool u.al]) rw_90 rfl (by decide) rfl rfl rfl rfl (TO.callP (v := .bool (dot u)) (vs := [.agg #[.int .i64 u.k, .int .i32 (u.r : Int), .int .i64 (u.f : Int), .int .i64 (u.t : Int), .bool u.al]]) rfl (by decide) rfl rfl rfl en_85 (dot_p u) (TO.pick (b := true) rfl (by decide) rfl rfl (TO.nil (TX.next ?_))))
       refine TC.condB rfl (fun h10 => ?_) (fun h10 => ?_)
       ·
        -- yes
        refine TC.seq ?_
        refine TC.drawB (β := Unit) 6 5 _ [(0, 53, .pointer (some ⟨b, 0, none⟩)), (1, 54, .pointer (some ⟨b, 0, none⟩)), (2, 55, .agg #[.int .i64 u.k, .int .i32 (u.r : Int), .int .i64 (u.f : Int), .int .i64 (u.t : Int), .bool u.al]), (3, 56, .pointer (some ⟨b, 0, none⟩)), (4, 57, .pointer (some ⟨b, 0, none⟩))] (fun _b => []) (fun _b => [cells b [.int .i64 4, .int .i64 s.tk.k, .int .i64 (s.tk.f : Int), .int .i64 (s.tk.t : Int), .int .i64 s.h.k, .int .i32 (s.h.r : Int), .int .i64 (s.h.f : Int), .int .i64 (s.h.t : Int), .bool s.h.al] 92, cells b1 [.int .i64 u.k, .int .i32 (u.r : Int), .int .i64 (u.f : Int), .int .i64 (u.t : Int), .bool u.al] 90]) mixed (by as_aux_lemma => kernel_rfl) (by as_aux_lemma => kernel_rfl) rfl (by decide) (by decide) (by rfl) (by as_aux_lemma => kernel_rfl) (by as_aux_lemma => kernel_rfl) (DrawPreX.cons ?_ (DrawPreX.cons ?_ (DrawPreX.cons ?_ (DrawPreX.cons ?_ (DrawPreX.cons ?_ (DrawPreX.here DrawPreX.nil)))))) (fun _b => (DrawPreX.cons ?_ (DrawPreX.cons ?_ (DrawPreX.cons ?_ (DrawPreX.cons ?_ (DrawPreX.cons ?_ (DrawPreX.here DrawPreX.nil))))))) ?_ ?_
        ·
         intro D hn hd hcl hu hi
         refine TO.move rfl (by decide) (dl_old (by rfl) rfl) ?_
         exact TX.quiet 0 hu hi rfl
        ·
         intro D hn hd hcl hu hi
         refine TO.move rfl (by decide) (dl_old (by rfl) rfl) ?_
         exact TX.quiet 1 hu hi rfl
        ·
         intro D hn hd hcl hu hi
         refine TO.loads (k := 1) (cs := [.int .i64 u.k, .int .i32 (u.r : Int), .int .i64 (u.f : Int), .int .i64 (u.t : Int), .bool u.al]) rw_90 rfl (by decide) (dl_old (by rfl) rfl) rfl rfl rfl ?_
         exact TX.quiet 2 hu hi rfl
        ·
         intro D hn hd hcl hu hi
         refine TO.nilCheck rfl (by decide) (dl_lookup (m := 0) hu rfl (hd 0 (by decide))) ?_
         exact TX.quiet 3 hu hi rfl
        ·
         intro D hn hd hcl hu hi
         refine TO.fieldAddr fl_92_0 rfl (by decide) (dl_lookup (m := 3) hu rfl (hd 3 (by decide))) (show _ = 0 from rfl) ?_
         exact TX.quiet 4 hu hi rfl
        ·
         intro D hn hd hcl hu hi
         refine TO.move rfl (by decide) (dl_old (by rfl) rfl) ?_
         exact TX.quiet 0 hu hi rfl
        ·
         intro D hn hd hcl hu hi
         refine TO.move rfl (by decide) (dl_old (by rfl) rfl) ?_
         exact TX.quiet 1 hu hi rfl
        ·
         intro D hn hd hcl hu hi
         refine TO.loads (k := 1) (cs := [.int .i64 u.k, .int .i32 (u.r : Int), .int .i64 (u.f : Int), .int .i64 (u.t : Int), .bool u.al]) rw_90 rfl (by decide) (dl_old (by rfl) rfl) rfl rfl rfl ?_
         exact TX.quiet 2 hu hi rfl
        ·
         intro D hn hd hcl hu hi
         refine TO.nilCheck rfl (by decide) (dl_lookup (m := 0) hu rfl (hd 0 (by decide))) ?_
         exact TX.quiet 3 hu hi rfl
        ·
         intro D hn hd hcl hu hi
         refine TO.fieldAddr fl_92_0 rfl (by decide) (dl_lookup (m := 3) hu rfl (hd 3 (by decide))) (show _ = 0 from rfl) ?_
         exact TX.quiet 4 hu hi rfl
        ·
         intro D hn hd hcl
         refine TO.store (k := 0) (l' := [.int .i64 4, .int .i64 s.tk.k, .int .i64 (s.tk.f : Int), .int .i64 (s.tk.t : Int), .int .i64 s.h.k, .int .i32 (s.h.r : Int), .int .i64 (s.h.f : Int), .int .i64 (s.h.t : Int), .bool s.h.al]) sz_3 rfl (dl_lookup (m := 4) (by as_aux_lemma => kernel_rfl) rfl (hd 4 (by decide))) rfl rfl rfl (fun _ _ => rfl) rfl ?_
         exact fun a w ha hw => ⟨(), ha, hw⟩
        intro _b
        show TO _ _ _ _ _ _ _ _ _ _ [cells b [.int .i64 4, .int .i64 s.tk.k, .int .i64 (s.tk.f : Int), .int .i64 (s.tk.t : Int), .int .i64 s.h.k, .int .i32 (s.h.r : Int), .int .i64 (s.h.f : Int), .int .i64 (s.h.t : Int), .bool s.h.al] 92, cells b1 [.int .i64 u.k, .int .i32 (u.r : Int), .int .i64 (u.f : Int), .int .i64 (u.t : Int), .bool u.al] 90]
        refine TO.nilCheck rfl (by decide) rfl (TO.fieldAddr fl_92_2 rfl (by decide) rfl (show _ = 4 from rfl) (TO.stores (k := 0) (vs := [.int .i64 u.k, .int .i32 (u.r : Int), .int .i64 (u.f : Int), .int .i64 (u.t : Int), .bool u.al]) (l' := [.int .i64 4, .int .i64 s.tk.k, .int .i64 (s.tk.f : Int), .int .i64 (s.tk.t : Int), .int .i64 u.k, .int .i32 (u.r : Int), .int .i64 (u.f : Int), .int .i64 (u.t : Int), .bool u.al]) sz_90 rfl rfl rfl rfl rfl (show _ ≤ _ by simp) rfl rfl (TO.nil (TX.next (TC.seq (TC.region (TO.assign rfl (by decide) rfl (TO.nil (TX.next (TC.ret (TX.blockRet (TX.thenRet ?_))))))))))))
        have hfit : fits s.st u = (4, 2) := by unfold fits; simp_all <;> omega
        have hB : [.int .i64 4, .int .i64 s.tk.k, .int .i64 (s.tk.f : Int), .int .i64 (s.tk.t : Int), .int .i64 u.k, .int .i32 (u.r : Int), .int .i64 (u.f : Int), .int .i64 (u.t : Int), .bool u.al] = scV (fitted s u) := by unfold fitted; rw [hfit]; rfl
        refine TX.rewE (k := 0) rfl (show cells b [.int .i64 4, .int .i64 s.tk.k, .int .i64 (s.tk.f : Int), .int .i64 (s.tk.t : Int), .int .i64 u.k, .int .i32 (u.r : Int), .int .i64 (u.f : Int), .int .i64 (u.t : Int), .bool u.al] 92 = cells b (scV (fitted s u)) 92 from (congrArg (fun z => cells b z 92) hB)) ?_
        show TX _ _ _ _ _ _ _ [cells b (scV (fitted s u)) 92, cells b1 [.int .i64 u.k, .int .i32 (u.r : Int), .int .i64 (u.f : Int), .int .i64 (u.t : Int), .bool u.al] 90]
        exact TX.fin (rs := [.tmp 4]) () (.inl rfl) Try.results62 (.cons (.tmp rfl) .nil) (by rw [hfit]; rfl) (Splits.of [0] (by as_aux_lemma => kernel_rfl) rfl)
       ·
        -- no
        refine TC.skip (TX.blockNormal (TX.next (TC.seq (TC.region (TO.assign rfl (by decide) rfl (TO.nil (TX.next (TC.ret ?_))))))))
        have hfit : fits s.st u = (s.st, 0) := by unfold fits; simp_all <;> omega
        have hB : [.int .i64 s.st, .int .i64 s.tk.k, .int .i64 (s.tk.f : Int), .int .i64 (s.tk.t : Int), .int .i64 s.h.k, .int .i32 (s.h.r : Int), .int .i64 (s.h.f : Int), .int .i64 (s.h.t : Int), .bool s.h.al] = scV (fitted s u) := by unfold fitted; rw [hfit]; rfl
        refine TX.rewE (k := 0) rfl (show cells b [.int .i64 s.st, .int .i64 s.tk.k, .int .i64 (s.tk.f : Int), .int .i64 (s.tk.t : Int), .int .i64 s.h.k, .int .i32 (s.h.r : Int), .int .i64 (s.h.f : Int), .int .i64 (s.h.t : Int), .bool s.h.al] 92 = cells b (scV (fitted s u)) 92 from (congrArg (fun z => cells b z 92) hB)) ?_
        show TX _ _ _ _ _ _ _ [cells b (scV (fitted s u)) 92, cells b1 [.int .i64 u.k, .int .i32 (u.r : Int), .int .i64 (u.f : Int), .int .i64 (u.t : Int), .bool u.al] 90]
        exact TX.fin (rs := [.tmp 4]) () (.inl rfl) Try.results62 (.cons (.tmp rfl) .nil) (by rw [hfit]; rfl) (Splits.of [0] (by as_aux_lemma => kernel_rfl) rfl)
      ·
       -- no
       have h9 := beq_eq_false_iff_ne.1 h9
       refine TO.skip rfl (by decide) (TO.skip rfl (by decide) (TO.pick (b := false) rfl (by decide) rfl rfl (TO.nil (TX.next (TC.condF rfl (TC.skip (TX.blockNormal (TX.next (TC.seq (TC.region (TO.assign rfl (by decide) rfl (TO.nil (TX.next ?_)))))))))))))
       refine TC.ret ?_
       have hfit : fits s.st u = (s.st, 0) := by unfold fits; simp_all <;> omega
       have hB : [.int .i64 s.st, .int .i64 s.tk.k, .int .i64 (s.tk.f : Int), .int .i64 (s.tk.t : Int), .int .i64 s.h.k, .int .i32 (s.h.r : Int), .int .i64 (s.h.f : Int), .int .i64 (s.h.t : Int), .bool s.h.al] = scV (fitted s u) := by unfold fitted; rw [hfit]; rfl
       refine TX.rewE (k := 0) rfl (show cells b [.int .i64 s.st, .int .i64 s.tk.k, .int .i64 (s.tk.f : Int), .int .i64 (s.tk.t : Int), .int .i64 s.h.k, .int .i32 (s.h.r : Int), .int .i64 (s.h.f : Int), .int .i64 (s.h.t : Int), .bool s.h.al] 92 = cells b (scV (fitted s u)) 92 from (congrArg (fun z => cells b z 92) hB)) ?_
       show TX _ _ _ _ _ _ _ [cells b (scV (fitted s u)) 92, cells b1 [.int .i64 u.k, .int .i32 (u.r : Int), .int .i64 (u.f : Int), .int .i64 (u.t : Int), .bool u.al] 90]
       exact TX.fin (rs := [.tmp 4]) () (.inl rfl) Try.results62 (.cons (.tmp rfl) .nil) (by rw [hfit]; rfl) (Splits.of [0] (by as_aux_lemma => kernel_rfl) rfl)
    ·
     -- no
     have h7 := beq_eq_false_iff_ne.1 h7
     refine TC.seq (TC.region (TO.bin rfl (by decide) rfl rfl bin_eql (TO.assign rfl (by decide) rfl (TO.nil (TX.next ?_)))))
     refine TC.condB rfl (fun h11 => ?_) (fun h11 => ?_)
     ·
      -- yes
      have h11 := beq_iff_eq.1 h11
      refine TC.seq (TC.region (TO.move rfl (by decide) rfl (TO.bin rfl (by decide) rfl rfl bin_eql (TO.nil (TX.next ?_)))))
      refine TC.condB rfl (fun h12 => ?_) (fun h12 => ?_)
      ·
       -- yes
       have h12 := beq_iff_eq.1 h12
       refine TC.seq (TC.region (TO.assign rfl (by decide) rfl (TO.nil (TX.next (TC.ret (TX.blockRet (TX.thenRet ?_)))))))
       have hfit : fits s.st u = (s.st, 1) := by unfold fits; simp_all <;> omega
       have hB : [.int .i64 s.st, .int .i64 s.tk.k, .int .i64 (s.tk.f : Int), .int .i64 (s.tk.t : Int), .int .i64 s.h.k, .int .i32 (s.h.r : Int), .int .i64 (s.h.f : Int), .int .i64 (s.h.t : Int), .bool s.h.al] = scV (fitted s u) := by unfold fitted; rw [hfit]; rfl
       refine TX.rewE (k := 0) rfl (show cells b [.int .i64 s.st, .int .i64 s.tk.k, .int .i64 (s.tk.f : Int), .int .i64 (s.tk.t : Int), .int .i64 s.h.k, .int .i32 (s.h.r : Int), .int .i64 (s.h.f : Int), .int .i64 (s.h.t : Int), .bool s.h.al] 92 = cells b (scV (fitted s u)) 92 from (congrArg (fun z => cells b z 92) hB)) ?_
       show TX _ _ _ _ _ _ _ [cells b (scV (fitted s u)) 92, cells b1 [.int .i64 u.k, .int .i32 (u.r : Int), .int .i64 (u.f : Int), .int .i64 (u.t : Int), .bool u.al] 90]
       exact TX.fin (rs := [.tmp 4]) () (.inl rfl) Try.results62 (.cons (.tmp rfl) .nil) (by rw [hfit]; rfl) (Splits.of [0] (by as_aux_lemma => kernel_rfl) rfl)
      ·
       -- no
       have h12 := beq_eq_false_iff_ne.1 h12
       refine TC.skip (TX.blockNormal (TX.next (TC.seq (TC.region (TO.assign rfl (by decide) rfl (TO.nil (TX.next (TC.ret ?_))))))))
       have hfit : fits s.st u = (s.st, 0) := by unfold fits; simp_all <;> omega
       have hB : [.int .i64 s.st, .int .i64 s.tk.k, .int .i64 (s.tk.f : Int), .int .i64 (s.tk.t : Int), .int .i64 s.h.k, .int .i32 (s.h.r : Int), .int .i64 (s.h.f : Int), .int .i64 (s.h.t : Int), .bool s.h.al] = scV (fitted s u) := by unfold fitted; rw [hfit]; rfl
       refine TX.rewE (k := 0) rfl (show cells b [.int .i64 s.st, .int .i64 s.tk.k, .int .i64 (s.tk.f : Int), .int .i64 (s.tk.t : Int), .int .i64 s.h.k, .int .i32 (s.h.r : Int), .int .i64 (s.h.f : Int), .int .i64 (s.h.t : Int), .bool s.h.al] 92 = cells b (scV (fitted s u)) 92 from (congrArg (fun z => cells b z 92) hB)) ?_
       show TX _ _ _ _ _ _ _ [cells b (scV (fitted s u)) 92, cells b1 [.int .i64 u.k, .int .i32 (u.r : Int), .int .i64 (u.f : Int), .int .i64 (u.t : Int), .bool u.al] 90]
       exact TX.fin (rs := [.tmp 4]) () (.inl rfl) Try.results62 (.cons (.tmp rfl) .nil) (by rw [hfit]; rfl) (Splits.of [0] (by as_aux_lemma => kernel_rfl) rfl)
     ·
      -- no
      have h11 := beq_eq_false_iff_ne.1 h11
      refine TC.seq (TC.region (TO.bin rfl (by decide) rfl rfl bin_eql (TO.assign rfl (by decide) rfl (TO.nil (TX.next ?_)))))
      refine TC.condB rfl (fun h13 => ?_) (fun h13 => ?_)
      ·
       -- yes
       have h13 := beq_iff_eq.1 h13
       refine TC.seq (TC.region (TO.move rfl (by decide) rfl (TO.bin rfl (by decide) rfl rfl bin_eql (TO.nil (TX.next ?_)))))
       refine TC.condB rfl (fun h14 => ?_) (fun h14 => ?_)
       ·
        -- yes
        have h14 := beq_iff_eq.1 h14
        refine TC.seq (TC.region (TO.assign rfl (by decide) rfl (TO.nil (TX.next (TC.ret (TX.blockRet (TX.thenRet ?_)))))))
        have hfit : fits s.st u = (s.st, 1) := by unfold fits; simp_all <;> omega
        have hB : [.int .i64 s.st, .int .i64 s.tk.k, .int .i64 (s.tk.f : Int), .int .i64 (s.tk.t : Int), .int .i64 s.h.k, .int .i32 (s.h.r : Int), .int .i64 (s.h.f : Int), .int .i64 (s.h.t : Int), .bool s.h.al] = scV (fitted s u) := by unfold fitted; rw [hfit]; rfl
        refine TX.rewE (k := 0) rfl (show cells b [.int .i64 s.st, .int .i64 s.tk.k, .int .i64 (s.tk.f : Int), .int .i64 (s.tk.t : Int), .int .i64 s.h.k, .int .i32 (s.h.r : Int), .int .i64 (s.h.f : Int), .int .i64 (s.h.t : Int), .bool s.h.al] 92 = cells b (scV (fitted s u)) 92 from (congrArg (fun z => cells b z 92) hB)) ?_
        show TX _ _ _ _ _ _ _ [cells b (scV (fitted s u)) 92, cells b1 [.int .i64 u.k, .int .i32 (u.r : Int), .int .i64 (u.f : Int), .int .i64 (u.t : Int), .bool u.al] 90]
        exact TX.fin (rs := [.tmp 4]) () (.inl rfl) Try.results62 (.cons (.tmp rfl) .nil) (by rw [hfit]; rfl) (Splits.of [0] (by as_aux_lemma => kernel_rfl) rfl)
       ·
        -- no
        have h14 := beq_eq_false_iff_ne.1 h14
        refine TC.skip (TX.blockNormal (TX.next (TC.seq (TC.region (TO.assign rfl (by decide) rfl (TO.nil (TX.next (TC.ret ?_))))))))
        have hfit : fits s.st u = (s.st, 0) := by unfold fits; simp_all <;> omega
        have hB : [.int .i64 s.st, .int .i64 s.tk.k, .int .i64 (s.tk.f : Int), .int .i64 (s.tk.t : Int), .int .i64 s.h.k, .int .i32 (s.h.r : Int), .int .i64 (s.h.f : Int), .int .i64 (s.h.t : Int), .bool s.h.al] = scV (fitted s u) := by unfold fitted; rw [hfit]; rfl
        refine TX.rewE (k := 0) rfl (show cells b [.int .i64 s.st, .int .i64 s.tk.k, .int .i64 (s.tk.f : Int), .int .i64 (s.tk.t : Int), .int .i64 s.h.k, .int .i32 (s.h.r : Int), .int .i64 (s.h.f : Int), .int .i64 (s.h.t : Int), .bool s.h.al] 92 = cells b (scV (fitted s u)) 92 from (congrArg (fun z => cells b z 92) hB)) ?_
        show TX _ _ _ _ _ _ _ [cells b (scV (fitted s u)) 92, cells b1 [.int .i64 u.k, .int .i32 (u.r : Int), .int .i64 (u.f : Int), .int .i64 (u.t : Int), .bool u.al] 90]
        exact TX.fin (rs := [.tmp 4]) () (.inl rfl) Try.results62 (.cons (.tmp rfl) .nil) (by rw [hfit]; rfl) (Splits.of [0] (by as_aux_lemma => kernel_rfl) rfl)
      ·
       -- no
       have h13 := beq_eq_false_iff_ne.1 h13
       refine TC.seq (TC.region (TO.bin rfl (by decide) rfl rfl bin_eql (TO.assign rfl (by decide) rfl (TO.nil (TX.next ?_)))))
       refine TC.condB rfl (fun h15 => ?_) (fun h15 => ?_)
       ·
        -- yes
        have h15 := beq_iff_eq.1 h15
        refine TC.seq (TC.region (TO.move rfl (by decide) rfl (TO.bin rfl (by decide) rfl rfl bin_eql (TO.move rfl (by decide) rfl ?_))))
        refine TO.split (s := 72) rfl (fun h16 => ?_) (fun h16 => ?_)
        ·
         -- yes
         have h16 := beq_iff_eq.1 h16
         refine TO.fieldAddr fl_90_1 rfl (by decide) rfl (show _ = 1 from rfl) (TO.load (k := 1) sc_21 rfl (by decide) rfl rfl rfl (TO.bin rfl (by decide) rfl rfl bin_eql (TO.pick (b := true) rfl (by decide) rfl rfl (TO.nil (TX.next ?_)))))
         refine TC.condB rfl (fun h17 => ?_) (fun h17 => ?_)
         ·
          -- yes
          have h17 := beq_iff_eq.1 h17
          refine TC.seq (TC.region (TO.move rfl (by decide) rfl (TO.nilCheck rfl (by decide) rfl (TO.fieldAddr fl_92_0 rfl (by decide) rfl (show _ = 0 from rfl) ?_))))
          refine TO.store (k := 0) (l' := [.int .i64 7, .int .i64 s.tk.k, .int .i64 (s.tk.f : Int), .int .i64 (s.tk.t : Int), .int .i64 s.h.k, .int .i32 (s.h.r : Int), .int .i64 (s.h.f : Int), .int .i64 (s.h.t : Int), .bool s.h.al]) sz_3 rfl rfl rfl rfl rfl (fun _ _ => rfl) rfl ?_
          refine TO.nil (TX.next (TC.seq (TC.region (TO.assign rfl (by decide) rfl (TO.nil (TX.next (TC.ret (TX.blockRet (TX.thenRet ?_)))))))))
          have hfit : fits s.st u = (7, 1) := by unfold fits; simp_all <;> omega
          have hB : [.int .i64 7, .int .i64 s.tk.k, .int .i64 (s.tk.f : Int), .int .i64 (s.tk.t : Int), .int .i64 s.h.k, .int .i32 (s.h.r : Int), .int .i64 (s.h.f : Int), .int .i64 (s.h.t : Int), .bool s.h.al] = scV (fitted s u) := by unfold fitted; rw [hfit]; rfl
          refine TX.rewE (k := 0) rfl (show cells b [.int .i64 7, .int .i64 s.tk.k, .int .i64 (s.tk.f : Int), .int .i64 (s.tk.t : Int), .int .i64 s.h.k, .int .i32 (s.h.r : Int), .int .i64 (s.h.f : Int), .int .i64 (s.h.t : Int), .bool s.h.al] 92 = cells b (scV (fitted s u)) 92 from (congrArg (fun z => cells b z 92) hB)) ?_
          show TX _ _ _ _ _ _ _ [cells b (scV (fitted s u)) 92, cells b1 [.int .i64 u.k, .int .i32 (u.r : Int), .int .i64 (u.f : Int), .int .i64 (u.t : Int), .bool u.al] 90]
          exact TX.fin (rs := [.tmp 4]) () (.inl rfl) Try.results62 (.cons (.tmp rfl) .nil) (by rw [hfit]; rfl) (Splits.of [0] (by as_aux_lemma => kernel_rfl) rfl)
         ·
          -- no
          have h17 := beq_eq_false_iff_ne.1 h17
          refine TC.skip (TX.blockNormal (TX.next (TC.seq (TC.region (TO.assign rfl (by decide) rfl (TO.nil (TX.next (TC.ret ?_))))))))
          have hfit : fits s.st u = (s.st, 0) := by unfold fits; simp_all <;> omega
          have hB : [.int .i64 s.st, .int .i64 s.tk.k, .int .i64 (s.tk.f : Int), .int .i64 (s.tk.t : Int), .int .i64 s.h.k, .int .i32 (s.h.r : Int), .int .i64 (s.h.f : Int), .int .i64 (s.h.t : Int), .bool s.h.al] = scV (fitted s u) := by unfold fitted; rw [hfit]; rfl
          refine TX.rewE (k := 0) rfl (show cells b [.int .i64 s.st, .int .i64 s.tk.k, .int .i64 (s.tk.f : Int), .int .i64 (s.tk.t : Int), .int .i64 s.h.k, .int .i32 (s.h.r : Int), .int .i64 (s.h.f : Int), .int .i64 (s.h.t : Int), .bool s.h.al] 92 = cells b (scV (fitted s u)) 92 from (congrArg (fun z => cells b z 92) hB)) ?_
          show TX _ _ _ _ _ _ _ [cells b (scV (fitted s u)) 92, cells b1 [.int .i64 u.k, .int .i32 (u.r : Int), .int .i64 (u.f : Int), .int .i64 (u.t : Int), .bool u.al] 90]
          exact TX.fin (rs := [.tmp 4]) () (.inl rfl) Try.results62 (.cons (.tmp rfl) .nil) (by rw [hfit]; rfl) (Splits.of [0] (by as_aux_lemma => kernel_rfl) rfl)
        ·
         -- no
         have h16 := beq_eq_false_iff_ne.1 h16
         refine TO.skip rfl (by decide) (TO.skip rfl (by decide) (TO.skip rfl (by decide) (TO.pick (b := false) rfl (by decide) rfl rfl (TO.nil (TX.next (TC.condF rfl (TC.skip (TX.blockNormal (TX.next (TC.seq (TC.region (TO.assign rfl (by decide) rfl (TO.nil ?_)))))))))))))
         refine TX.next (TC.ret ?_)
         have hfit : fits s.st u = (s.st, 0) := by unfold fits; simp_all <;> omega
         have hB : [.int .i64 s.st, .int .i64 s.tk.k, .int .i64 (s.tk.f : Int), .int .i64 (s.tk.t : Int), .int .i64 s.h.k, .int .i32 (s.h.r : Int), .int .i64 (s.h.f : Int), .int .i64 (s.h.t : Int), .bool s.h.al] = scV (fitted s u) := by unfold fitted; rw [hfit]; rfl
         refine TX.rewE (k := 0) rfl (show cells b [.int .i64 s.st, .int .i64 s.tk.k, .int .i64 (s.tk.f : Int), .int .i64 (s.tk.t : Int), .int .i64 s.h.k, .int .i32 (s.h.r : Int), .int .i64 (s.h.f : Int), .int .i64 (s.h.t : Int), .bool s.h.al] 92 = cells b (scV (fitted s u)) 92 from (congrArg (fun z => cells b z 92) hB)) ?_
         show TX _ _ _ _ _ _ _ [cells b (scV (fitted s u)) 92, cells b1 [.int .i64 u.k, .int .i32 (u.r : Int), .int .i64 (u.f : Int), .int .i64 (u.t : Int), .bool u.al] 90]
         exact TX.fin (rs := [.tmp 4]) () (.inl rfl) Try.results62 (.cons (.tmp rfl) .nil) (by rw [hfit]; rfl) (Splits.of [0] (by as_aux_lemma => kernel_rfl) rfl)
       ·
        -- no
        have h15 := beq_eq_false_iff_ne.1 h15
        refine TC.skip (TX.blockNormal (TX.next (TC.seq (TC.region (TO.assign rfl (by decide) rfl (TO.nil (TX.next (TC.ret ?_))))))))
        have hfit : fits s.st u = (s.st, 0) := by unfold fits; simp_all <;> omega
        have hB : [.int .i64 s.st, .int .i64 s.tk.k, .int .i64 (s.tk.f : Int), .int .i64 (s.tk.t : Int), .int .i64 s.h.k, .int .i32 (s.h.r : Int), .int .i64 (s.h.f : Int), .int .i64 (s.h.t : Int), .bool s.h.al] = scV (fitted s u) := by unfold fitted; rw [hfit]; rfl
        refine TX.rewE (k := 0) rfl (show cells b [.int .i64 s.st, .int .i64 s.tk.k, .int .i64 (s.tk.f : Int), .int .i64 (s.tk.t : Int), .int .i64 s.h.k, .int .i32 (s.h.r : Int), .int .i64 (s.h.f : Int), .int .i64 (s.h.t : Int), .bool s.h.al] 92 = cells b (scV (fitted s u)) 92 from (congrArg (fun z => cells b z 92) hB)) ?_
        show TX _ _ _ _ _ _ _ [cells b (scV (fitted s u)) 92, cells b1 [.int .i64 u.k, .int .i32 (u.r : Int), .int .i64 (u.f : Int), .int .i64 (u.t : Int), .bool u.al] 90]
        exact TX.fin (rs := [.tmp 4]) () (.inl rfl) Try.results62 (.cons (.tmp rfl) .nil) (by rw [hfit]; rfl) (Splits.of [0] (by as_aux_lemma => kernel_rfl) rfl)
   ·
    -- no
    have h6 := beq_eq_false_iff_ne.1 h6
    refine TC.region (TO.bin rfl (by decide) rfl rfl bin_eql (TO.assign rfl (by decide) rfl (TO.nil (TX.next ?_))))
    refine TC.condB rfl (fun h18 => ?_) (fun h18 => ?_)
    ·
     -- yes
     have h18 := beq_iff_eq.1 h18
     refine TC.seq (TC.seq (TC.region (TO.move rfl (by decide) rfl (TO.bin rfl (by decide) rfl rfl bin_eql (TO.nil (TX.next ?_))))))
     refine TC.condB rfl (fun h19 => ?_) (fun h19 => ?_)
     ·
      -- yes
      have h19 := beq_iff_eq.1 h19
      refine TC.seq (TC.region (TO.move rfl (by decide) rfl (TO.nilCheck rfl (by decide) rfl (TO.fieldAddr fl_92_0 rfl (by decide) rfl (show _ = 0 from rfl) ?_))))
      refine TO.store (k := 0) (l' := [.int .i64 3, .int .i64 s.tk.k, .int .i64 (s.tk.f : Int), .int .i64 (s.tk.t : Int), .int .i64 s.h.k, .int .i32 (s.h.r : Int), .int .i64 (s.h.f : Int), .int .i64 (s.h.t : Int), .bool s.h.al]) sz_3 rfl rfl rfl rfl rfl (fun _ _ => rfl) rfl ?_
      refine TO.nil (TX.next (TC.seq (TC.region (TO.assign rfl (by decide) rfl (TO.nil (TX.next (TC.ret (TX.thenRet (TX.blockRet (TX.thenRet ?_))))))))))
      have hfit : fits s.st u = (3, 1) := by unfold fits; simp_all <;> omega
      have hB : [.int .i64 3, .int .i64 s.tk.k, .int .i64 (s.tk.f : Int), .int .i64 (s.tk.t : Int), .int .i64 s.h.k, .int .i32 (s.h.r : Int), .int .i64 (s.h.f : Int), .int .i64 (s.h.t : Int), .bool s.h.al] = scV (fitted s u) := by unfold fitted; rw [hfit]; rfl
      refine TX.rewE (k := 0) rfl (show cells b [.int .i64 3, .int .i64 s.tk.k, .int .i64 (s.tk.f : Int), .int .i64 (s.tk.t : Int), .int .i64 s.h.k, .int .i32 (s.h.r : Int), .int .i64 (s.h.f : Int), .int .i64 (s.h.t : Int), .bool s.h.al] 92 = cells b (scV (fitted s u)) 92 from (congrArg (fun z => cells b z 92) hB)) ?_
      show TX _ _ _ _ _ _ _ [cells b (scV (fitted s u)) 92, cells b1 [.int .i64 u.k, .int .i32 (u.r : Int), .int .i64 (u.f : Int), .int .i64 (u.t : Int), .bool u.al] 90]
      exact TX.fin (rs := [.tmp 4]) () (.inl rfl) Try.results62 (.cons (.tmp rfl) .nil) (by rw [hfit]; rfl) (Splits.of [0] (by as_aux_lemma => kernel_rfl) rfl)
     ·
      -- no
      have h19 := beq_eq_false_iff_ne.1 h19
      refine TC.skip (TX.next (TC.seq (TC.region (TO.move rfl (by decide) rfl (TO.nilCheck rfl (by decide) rfl (TO.fieldAddr fl_92_0 rfl (by decide) rfl (show _ = 0 from rfl) (TO.load (k := 0) sc_3 rfl (by decide) rfl rfl rfl (TO.bin rfl (by decide) rfl rfl bin_eql (TO.move rfl (by decide) rfl ?_)))))))))
      refine TO.split (s := 49) rfl (fun h20 => ?_) (fun h20 => ?_)
      ·
       -- yes
       have h20 := beq_iff_eq.1 h20
       refine TO.loads (k := 1) (cs := [.int .i64 u.k, .int .i32 (u.r : Int), .int .i64 (u.f : Int), .int .i64 (u.t : Int), .bool u.al]) rw_90 rfl (by decide) rfl rfl rfl rfl (TO.callP (v := .bool (dot u)) (vs := [.agg #[.int .i64 u.k, .int .i32 (u.r : Int), .int .i64 (u.f : Int), .int .i64 (u.t : Int), .bool u.al]]) rfl (by decide) rfl rfl rfl en_85 (dot_p u) (TO.pick (b := true) rfl (by decide) rfl rfl (TO.nil (TX.next ?_))))
       refine TC.condB rfl (fun h21 => ?_) (fun h21 => ?_)
       ·
        -- yes
        refine TC.seq ?_
        refine TC.drawB (β := Unit) 6 5 _ [(0, 53, .pointer (some ⟨b, 0, none⟩)), (1, 54, .pointer (some ⟨b, 0, none⟩)), (2, 55, .agg #[.int .i64 u.k, .int .i32 (u.r : Int), .int .i64 (u.f : Int), .int .i64 (u.t : Int), .bool u.al]), (3, 56, .pointer (some ⟨b, 0, none⟩)), (4, 57, .pointer (some ⟨b, 0, none⟩))] (fun _b => []) (fun _b => [cells b [.int .i64 4, .int .i64 s.tk.k, .int .i64 (s.tk.f : Int), .int .i64 (s.tk.t : Int), .int .i64 s.h.k, .int .i32 (s.h.r : Int), .int .i64 (s.h.f : Int), .int .i64 (s.h.t : Int), .bool s.h.al] 92, cells b1 [.int .i64 u.k, .int .i32 (u.r : Int), .int .i64 (u.f : Int), .int .i64 (u.t : Int), .bool u.al] 90]) mixed (by as_aux_lemma => kernel_rfl) (by as_aux_lemma => kernel_rfl) rfl (by decide) (by decide) (by rfl) (by as_aux_lemma => kernel_rfl) (by as_aux_lemma => kernel_rfl) (DrawPreX.cons ?_ (DrawPreX.cons ?_ (DrawPreX.cons ?_ (DrawPreX.cons ?_ (DrawPreX.cons ?_ (DrawPreX.here DrawPreX.nil)))))) (fun _b => (DrawPreX.cons ?_ (DrawPreX.cons ?_ (DrawPreX.cons ?_ (DrawPreX.cons ?_ (DrawPreX.cons ?_ (DrawPreX.here DrawPreX.nil))))))) ?_ ?_
        ·
         intro D hn hd hcl hu hi
         refine TO.move rfl (by decide) (dl_old (by rfl) rfl) ?_
         exact TX.quiet 0 hu hi rfl
        ·
         intro D hn hd hcl hu hi
         refine TO.move rfl (by decide) (dl_old (by rfl) rfl) ?_
         exact TX.quiet 1 hu hi rfl
        ·
         intro D hn hd hcl hu hi
         refine TO.loads (k := 1) (cs := [.int .i64 u.k, .int .i32 (u.r : Int), .int .i64 (u.f : Int), .int .i64 (u.t : Int), .bool u.al]) rw_90 rfl (by decide) (dl_old (by rfl) rfl) rfl rfl rfl ?_
         exact TX.quiet 2 hu hi rfl
        ·
         intro D hn hd hcl hu hi
         refine TO.nilCheck rfl (by decide) (dl_lookup (m := 0) hu rfl (hd 0 (by decide))) ?_
         exact TX.quiet 3 hu hi rfl
        ·
         intro D hn hd hcl hu hi
         refine TO.fieldAddr fl_92_0 rfl (by decide) (dl_lookup (m := 3) hu rfl (hd 3 (by decide))) (show _ = 0 from rfl) ?_
         exact TX.quiet 4 hu hi rfl
        ·
         intro D hn hd hcl hu hi
         refine TO.move rfl (by decide) (dl_old (by rfl) rfl) ?_
         exact TX.quiet 0 hu hi rfl
        ·
         intro D hn hd hcl hu hi
         refine TO.move rfl (by decide) (dl_old (by rfl) rfl) ?_
         exact TX.quiet 1 hu hi rfl
        ·
         intro D hn hd hcl hu hi
         refine TO.loads (k := 1) (cs := [.int .i64 u.k, .int .i32 (u.r : Int), .int .i64 (u.f : Int), .int .i64 (u.t : Int), .bool u.al]) rw_90 rfl (by decide) (dl_old (by rfl) rfl) rfl rfl rfl ?_
         exact TX.quiet 2 hu hi rfl
        ·
         intro D hn hd hcl hu hi
         refine TO.nilCheck rfl (by decide) (dl_lookup (m := 0) hu rfl (hd 0 (by decide))) ?_
         exact TX.quiet 3 hu hi rfl
        ·
         intro D hn hd hcl hu hi
         refine TO.fieldAddr fl_92_0 rfl (by decide) (dl_lookup (m := 3) hu rfl (hd 3 (by decide))) (show _ = 0 from rfl) ?_
         exact TX.quiet 4 hu hi rfl
        ·
         intro D hn hd hcl
         refine TO.store (k := 0) (l' := [.int .i64 4, .int .i64 s.tk.k, .int .i64 (s.tk.f : Int), .int .i64 (s.tk.t : Int), .int .i64 s.h.k, .int .i32 (s.h.r : Int), .int .i64 (s.h.f : Int), .int .i64 (s.h.t : Int), .bool s.h.al]) sz_3 rfl (dl_lookup (m := 4) (by as_aux_lemma => kernel_rfl) rfl (hd 4 (by decide))) rfl rfl rfl (fun _ _ => rfl) rfl ?_
         exact fun a w ha hw => ⟨(), ha, hw⟩
        intro _b
        show TO _ _ _ _ _ _ _ _ _ _ [cells b [.int .i64 4, .int .i64 s.tk.k, .int .i64 (s.tk.f : Int), .int .i64 (s.tk.t : Int), .int .i64 s.h.k, .int .i32 (s.h.r : Int), .int .i64 (s.h.f : Int), .int .i64 (s.h.t : Int), .bool s.h.al] 92, cells b1 [.int .i64 u.k, .int .i32 (u.r : Int), .int .i64 (u.f : Int), .int .i64 (u.t : Int), .bool u.al] 90]
        refine TO.nilCheck rfl (by decide) rfl (TO.fieldAddr fl_92_2 rfl (by decide) rfl (show _ = 4 from rfl) (TO.stores (k := 0) (vs := [.int .i64 u.k, .int .i32 (u.r : Int), .int .i64 (u.f : Int), .int .i64 (u.t : Int), .bool u.al]) (l' := [.int .i64 4, .int .i64 s.tk.k, .int .i64 (s.tk.f : Int), .int .i64 (s.tk.t : Int), .int .i64 u.k, .int .i32 (u.r : Int), .int .i64 (u.f : Int), .int .i64 (u.t : Int), .bool u.al]) sz_90 rfl rfl rfl rfl rfl (show _ ≤ _ by simp) rfl rfl (TO.nil (TX.next (TC.seq (TC.region (TO.assign rfl (by decide) rfl (TO.nil (TX.next (TC.ret (TX.blockRet (TX.thenRet ?_))))))))))))
        have hfit : fits s.st u = (4, 2) := by unfold fits; simp_all <;> omega
        have hB : [.int .i64 4, .int .i64 s.tk.k, .int .i64 (s.tk.f : Int), .int .i64 (s.tk.t : Int), .int .i64 u.k, .int .i32 (u.r : Int), .int .i64 (u.f : Int), .int .i64 (u.t : Int), .bool u.al] = scV (fitted s u) := by unfold fitted; rw [hfit]; rfl
        refine TX.rewE (k := 0) rfl (show cells b [.int .i64 4, .int .i64 s.tk.k, .int .i64 (s.tk.f : Int), .int .i64 (s.tk.t : Int), .int .i64 u.k, .int .i32 (u.r : Int), .int .i64 (u.f : Int), .int .i64 (u.t : Int), .bool u.al] 92 = cells b (scV (fitted s u)) 92 from (congrArg (fun z => cells b z 92) hB)) ?_
        show TX _ _ _ _ _ _ _ [cells b (scV (fitted s u)) 92, cells b1 [.int .i64 u.k, .int .i32 (u.r : Int), .int .i64 (u.f : Int), .int .i64 (u.t : Int), .bool u.al] 90]
        exact TX.fin (rs := [.tmp 4]) () (.inl rfl) Try.results62 (.cons (.tmp rfl) .nil) (by rw [hfit]; rfl) (Splits.of [0] (by as_aux_lemma => kernel_rfl) rfl)
       ·
        -- no
        refine TC.skip (TX.blockNormal (TX.next (TC.seq (TC.region (TO.assign rfl (by decide) rfl (TO.nil (TX.next (TC.ret ?_))))))))
        have hfit : fits s.st u = (s.st, 0) := by unfold fits; simp_all <;> omega
        have hB : [.int .i64 s.st, .int .i64 s.tk.k, .int .i64 (s.tk.f : Int), .int .i64 (s.tk.t : Int), .int .i64 s.h.k, .int .i32 (s.h.r : Int), .int .i64 (s.h.f : Int), .int .i64 (s.h.t : Int), .bool s.h.al] = scV (fitted s u) := by unfold fitted; rw [hfit]; rfl
        refine TX.rewE (k := 0) rfl (show cells b [.int .i64 s.st, .int .i64 s.tk.k, .int .i64 (s.tk.f : Int), .int .i64 (s.tk.t : Int), .int .i64 s.h.k, .int .i32 (s.h.r : Int), .int .i64 (s.h.f : Int), .int .i64 (s.h.t : Int), .bool s.h.al] 92 = cells b (scV (fitted s u)) 92 from (congrArg (fun z => cells b z 92) hB)) ?_
        show TX _ _ _ _ _ _ _ [cells b (scV (fitted s u)) 92, cells b1 [.int .i64 u.k, .int .i32 (u.r : Int), .int .i64 (u.f : Int), .int .i64 (u.t : Int), .bool u.al] 90]
        exact TX.fin (rs := [.tmp 4]) () (.inl rfl) Try.results62 (.cons (.tmp rfl) .nil) (by rw [hfit]; rfl) (Splits.of [0] (by as_aux_lemma => kernel_rfl) rfl)
      ·
       -- no
       have h20 := beq_eq_false_iff_ne.1 h20
       refine TO.skip rfl (by decide) (TO.skip rfl (by decide) (TO.pick (b := false) rfl (by decide) rfl rfl (TO.nil (TX.next (TC.condF rfl (TC.skip (TX.blockNormal (TX.next (TC.seq (TC.region (TO.assign rfl (by decide) rfl (TO.nil (TX.next ?_)))))))))))))
       refine TC.ret ?_
       have hfit : fits s.st u = (s.st, 0) := by unfold fits; simp_all <;> omega
       have hB : [.int .i64 s.st, .int .i64 s.tk.k, .int .i64 (s.tk.f : Int), .int .i64 (s.tk.t : Int), .int .i64 s.h.k, .int .i32 (s.h.r : Int), .int .i64 (s.h.f : Int), .int .i64 (s.h.t : Int), .bool s.h.al] = scV (fitted s u) := by unfold fitted; rw [hfit]; rfl
       refine TX.rewE (k := 0) rfl (show cells b [.int .i64 s.st, .int .i64 s.tk.k, .int .i64 (s.tk.f : Int), .int .i64 (s.tk.t : Int), .int .i64 s.h.k, .int .i32 (s.h.r : Int), .int .i64 (s.h.f : Int), .int .i64 (s.h.t : Int), .bool s.h.al] 92 = cells b (scV (fitted s u)) 92 from (congrArg (fun z => cells b z 92) hB)) ?_
       show TX _ _ _ _ _ _ _ [cells b (scV (fitted s u)) 92, cells b1 [.int .i64 u.k, .int .i32 (u.r : Int), .int .i64 (u.f : Int), .int .i64 (u.t : Int), .bool u.al] 90]
       exact TX.fin (rs := [.tmp 4]) () (.inl rfl) Try.results62 (.cons (.tmp rfl) .nil) (by rw [hfit]; rfl) (Splits.of [0] (by as_aux_lemma => kernel_rfl) rfl)
    ·
     -- no
     have h18 := beq_eq_false_iff_ne.1 h18
     refine TC.seq (TC.region (TO.bin rfl (by decide) rfl rfl bin_eql (TO.assign rfl (by decide) rfl (TO.nil (TX.next ?_)))))
     refine TC.condB rfl (fun h22 => ?_) (fun h22 => ?_)
     ·
      -- yes
      have h22 := beq_iff_eq.1 h22
      refine TC.seq (TC.region (TO.move rfl (by decide) rfl (TO.bin rfl (by decide) rfl rfl bin_eql (TO.nil (TX.next ?_)))))
      refine TC.condB rfl (fun h23 => ?_) (fun h23 => ?_)
      ·
       -- yes
       have h23 := beq_iff_eq.1 h23
       refine TC.seq (TC.region (TO.assign rfl (by decide) rfl (TO.nil (TX.next (TC.ret (TX.blockRet (TX.thenRet ?_)))))))
       have hfit : fits s.st u = (s.st, 1) := by unfold fits; simp_all <;> omega
       have hB : [.int .i64 s.st, .int .i64 s.tk.k, .int .i64 (s.tk.f : Int), .int .i64 (s.tk.t : Int), .int .i64 s.h.k, .int .i32 (s.h.r : Int), .int .i64 (s.h.f : Int), .int .i64 (s.h.t : Int), .bool s.h.al] = scV (fitted s u) := by unfold fitted; rw [hfit]; rfl
       refine TX.rewE (k := 0) rfl (show cells b [.int .i64 s.st, .int .i64 s.tk.k, .int .i64 (s.tk.f : Int), .int .i64 (s.tk.t : Int), .int .i64 s.h.k, .int .i32 (s.h.r : Int), .int .i64 (s.h.f : Int), .int .i64 (s.h.t : Int), .bool s.h.al] 92 = cells b (scV (fitted s u)) 92 from (congrArg (fun z => cells b z 92) hB)) ?_
       show TX _ _ _ _ _ _ _ [cells b (scV (fitted s u)) 92, cells b1 [.int .i64 u.k, .int .i32 (u.r : Int), .int .i64 (u.f : Int), .int .i64 (u.t : Int), .bool u.al] 90]
       exact TX.fin (rs := [.tmp 4]) () (.inl rfl) Try.results62 (.cons (.tmp rfl) .nil) (by rw [hfit]; rfl) (Splits.of [0] (by as_aux_lemma => kernel_rfl) rfl)
      ·
       -- no
       have h23 := beq_eq_false_iff_ne.1 h23
       refine TC.skip (TX.blockNormal (TX.next (TC.seq (TC.region (TO.assign rfl (by decide) rfl (TO.nil (TX.next (TC.ret ?_))))))))
       have hfit : fits s.st u = (s.st, 0) := by unfold fits; simp_all <;> omega
       have hB : [.int .i64 s.st, .int .i64 s.tk.k, .int .i64 (s.tk.f : Int), .int .i64 (s.tk.t : Int), .int .i64 s.h.k, .int .i32 (s.h.r : Int), .int .i64 (s.h.f : Int), .int .i64 (s.h.t : Int), .bool s.h.al] = scV (fitted s u) := by unfold fitted; rw [hfit]; rfl
       refine TX.rewE (k := 0) rfl (show cells b [.int .i64 s.st, .int .i64 s.tk.k, .int .i64 (s.tk.f : Int), .int .i64 (s.tk.t : Int), .int .i64 s.h.k, .int .i32 (s.h.r : Int), .int .i64 (s.h.f : Int), .int .i64 (s.h.t : Int), .bool s.h.al] 92 = cells b (scV (fitted s u)) 92 from (congrArg (fun z => cells b z 92) hB)) ?_
       show TX _ _ _ _ _ _ _ [cells b (scV (fitted s u)) 92, cells b1 [.int .i64 u.k, .int .i32 (u.r : Int), .int .i64 (u.f : Int), .int .i64 (u.t : Int), .bool u.al] 90]
       exact TX.fin (rs := [.tmp 4]) () (.inl rfl) Try.results62 (.cons (.tmp rfl) .nil) (by rw [hfit]; rfl) (Splits.of [0] (by as_aux_lemma => kernel_rfl) rfl)
     ·
      -- no
      have h22 := beq_eq_false_iff_ne.1 h22
      refine TC.seq (TC.region (TO.bin rfl (by decide) rfl rfl bin_eql (TO.assign rfl (by decide) rfl (TO.nil (TX.next ?_)))))
      refine TC.condB rfl (fun h24 => ?_) (fun h24 => ?_)
      ·
       -- yes
       have h24 := beq_iff_eq.1 h24
       refine TC.seq (TC.region (TO.move rfl (by decide) rfl (TO.bin rfl (by decide) rfl rfl bin_eql (TO.nil (TX.next ?_)))))
       refine TC.condB rfl (fun h25 => ?_) (fun h25 => ?_)
       ·
        -- yes
        have h25 := beq_iff_eq.1 h25
        refine TC.seq (TC.region (TO.assign rfl (by decide) rfl (TO.nil (TX.next (TC.ret (TX.blockRet (TX.thenRet ?_)))))))
        have hfit : fits s.st u = (s.st, 1) := by unfold fits; simp_all <;> omega
        have hB : [.int .i64 s.st, .int .i64 s.tk.k, .int .i64 (s.tk.f : Int), .int .i64 (s.tk.t : Int), .int .i64 s.h.k, .int .i32 (s.h.r : Int), .int .i64 (s.h.f : Int), .int .i64 (s.h.t : Int), .bool s.h.al] = scV (fitted s u) := by unfold fitted; rw [hfit]; rfl
        refine TX.rewE (k := 0) rfl (show cells b [.int .i64 s.st, .int .i64 s.tk.k, .int .i64 (s.tk.f : Int), .int .i64 (s.tk.t : Int), .int .i64 s.h.k, .int .i32 (s.h.r : Int), .int .i64 (s.h.f : Int), .int .i64 (s.h.t : Int), .bool s.h.al] 92 = cells b (scV (fitted s u)) 92 from (congrArg (fun z => cells b z 92) hB)) ?_
        show TX _ _ _ _ _ _ _ [cells b (scV (fitted s u)) 92, cells b1 [.int .i64 u.k, .int .i32 (u.r : Int), .int .i64 (u.f : Int), .int .i64 (u.t : Int), .bool u.al] 90]
        exact TX.fin (rs := [.tmp 4]) () (.inl rfl) Try.results62 (.cons (.tmp rfl) .nil) (by rw [hfit]; rfl) (Splits.of [0] (by as_aux_lemma => kernel_rfl) rfl)
       ·
        -- no
        have h25 := beq_eq_false_iff_ne.1 h25
        refine TC.skip (TX.blockNormal (TX.next (TC.seq (TC.region (TO.assign rfl (by decide) rfl (TO.nil (TX.next (TC.ret ?_))))))))
        have hfit : fits s.st u = (s.st, 0) := by unfold fits; simp_all <;> omega
        have hB : [.int .i64 s.st, .int .i64 s.tk.k, .int .i64 (s.tk.f : Int), .int .i64 (s.tk.t : Int), .int .i64 s.h.k, .int .i32 (s.h.r : Int), .int .i64 (s.h.f : Int), .int .i64 (s.h.t : Int), .bool s.h.al] = scV (fitted s u) := by unfold fitted; rw [hfit]; rfl
        refine TX.rewE (k := 0) rfl (show cells b [.int .i64 s.st, .int .i64 s.tk.k, .int .i64 (s.tk.f : Int), .int .i64 (s.tk.t : Int), .int .i64 s.h.k, .int .i32 (s.h.r : Int), .int .i64 (s.h.f : Int), .int .i64 (s.h.t : Int), .bool s.h.al] 92 = cells b (scV (fitted s u)) 92 from (congrArg (fun z => cells b z 92) hB)) ?_
        show TX _ _ _ _ _ _ _ [cells b (scV (fitted s u)) 92, cells b1 [.int .i64 u.k, .int .i32 (u.r : Int), .int .i64 (u.f : Int), .int .i64 (u.t : Int), .bool u.al] 90]
        exact TX.fin (rs := [.tmp 4]) () (.inl rfl) Try.results62 (.cons (.tmp rfl) .nil) (by rw [hfit]; rfl) (Splits.of [0] (by as_aux_lemma => kernel_rfl) rfl)
      ·
       -- no
       have h24 := beq_eq_false_iff_ne.1 h24
       refine TC.seq (TC.region (TO.bin rfl (by decide) rfl rfl bin_eql (TO.assign rfl (by decide) rfl (TO.nil (TX.next ?_)))))
       refine TC.condB rfl (fun h26 => ?_) (fun h26 => ?_)
       ·
        -- yes
        have h26 := beq_iff_eq.1 h26
        refine TC.seq (TC.region (TO.move rfl (by decide) rfl (TO.bin rfl (by decide) rfl rfl bin_eql (TO.move rfl (by decide) rfl ?_))))
        refine TO.split (s := 72) rfl (fun h27 => ?_) (fun h27 => ?_)
        ·
         -- yes
         have h27 := beq_iff_eq.1 h27
         refine TO.fieldAddr fl_90_1 rfl (by decide) rfl (show _ = 1 from rfl) (TO.load (k := 1) sc_21 rfl (by decide) rfl rfl rfl (TO.bin rfl (by decide) rfl rfl bin_eql (TO.pick (b := true) rfl (by decide) rfl rfl (TO.nil (TX.next ?_)))))
         refine TC.condB rfl (fun h28 => ?_) (fun h28 => ?_)
         ·
          -- yes
          have h28 := beq_iff_eq.1 h28
          refine TC.seq (TC.region (TO.move rfl (by decide) rfl (TO.nilCheck rfl (by decide) rfl (TO.fieldAddr fl_92_0 rfl (by decide) rfl (show _ = 0 from rfl) ?_))))
          refine TO.store (k := 0) (l' := [.int .i64 7, .int .i64 s.tk.k, .int .i64 (s.tk.f : Int), .int .i64 (s.tk.t : Int), .int .i64 s.h.k, .int .i32 (s.h.r : Int), .int .i64 (s.h.f : Int), .int .i64 (s.h.t : Int), .bool s.h.al]) sz_3 rfl rfl rfl rfl rfl (fun _ _ => rfl) rfl ?_
          refine TO.nil (TX.next (TC.seq (TC.region (TO.assign rfl (by decide) rfl (TO.nil (TX.next (TC.ret (TX.blockRet (TX.thenRet ?_)))))))))
          have hfit : fits s.st u = (7, 1) := by unfold fits; simp_all <;> omega
          have hB : [.int .i64 7, .int .i64 s.tk.k, .int .i64 (s.tk.f : Int), .int .i64 (s.tk.t : Int), .int .i64 s.h.k, .int .i32 (s.h.r : Int), .int .i64 (s.h.f : Int), .int .i64 (s.h.t : Int), .bool s.h.al] = scV (fitted s u) := by unfold fitted; rw [hfit]; rfl
          refine TX.rewE (k := 0) rfl (show cells b [.int .i64 7, .int .i64 s.tk.k, .int .i64 (s.tk.f : Int), .int .i64 (s.tk.t : Int), .int .i64 s.h.k, .int .i32 (s.h.r : Int), .int .i64 (s.h.f : Int), .int .i64 (s.h.t : Int), .bool s.h.al] 92 = cells b (scV (fitted s u)) 92 from (congrArg (fun z => cells b z 92) hB)) ?_
          show TX _ _ _ _ _ _ _ [cells b (scV (fitted s u)) 92, cells b1 [.int .i64 u.k, .int .i32 (u.r : Int), .int .i64 (u.f : Int), .int .i64 (u.t : Int), .bool u.al] 90]
          exact TX.fin (rs := [.tmp 4]) () (.inl rfl) Try.results62 (.cons (.tmp rfl) .nil) (by rw [hfit]; rfl) (Splits.of [0] (by as_aux_lemma => kernel_rfl) rfl)
         ·
          -- no
          have h28 := beq_eq_false_iff_ne.1 h28
          refine TC.skip (TX.blockNormal (TX.next (TC.seq (TC.region (TO.assign rfl (by decide) rfl (TO.nil (TX.next (TC.ret ?_))))))))
          have hfit : fits s.st u = (s.st, 0) := by unfold fits; simp_all <;> omega
          have hB : [.int .i64 s.st, .int .i64 s.tk.k, .int .i64 (s.tk.f : Int), .int .i64 (s.tk.t : Int), .int .i64 s.h.k, .int .i32 (s.h.r : Int), .int .i64 (s.h.f : Int), .int .i64 (s.h.t : Int), .bool s.h.al] = scV (fitted s u) := by unfold fitted; rw [hfit]; rfl
          refine TX.rewE (k := 0) rfl (show cells b [.int .i64 s.st, .int .i64 s.tk.k, .int .i64 (s.tk.f : Int), .int .i64 (s.tk.t : Int), .int .i64 s.h.k, .int .i32 (s.h.r : Int), .int .i64 (s.h.f : Int), .int .i64 (s.h.t : Int), .bool s.h.al] 92 = cells b (scV (fitted s u)) 92 from (congrArg (fun z => cells b z 92) hB)) ?_
          show TX _ _ _ _ _ _ _ [cells b (scV (fitted s u)) 92, cells b1 [.int .i64 u.k, .int .i32 (u.r : Int), .int .i64 (u.f : Int), .int .i64 (u.t : Int), .bool u.al] 90]
          exact TX.fin (rs := [.tmp 4]) () (.inl rfl) Try.results62 (.cons (.tmp rfl) .nil) (by rw [hfit]; rfl) (Splits.of [0] (by as_aux_lemma => kernel_rfl) rfl)
        ·
         -- no
         have h27 := beq_eq_false_iff_ne.1 h27
         refine TO.skip rfl (by decide) (TO.skip rfl (by decide) (TO.skip rfl (by decide) (TO.pick (b := false) rfl (by decide) rfl rfl (TO.nil (TX.next (TC.condF rfl (TC.skip (TX.blockNormal (TX.next (TC.seq (TC.region (TO.assign rfl (by decide) rfl (TO.nil ?_)))))))))))))
         refine TX.next (TC.ret ?_)
         have hfit : fits s.st u = (s.st, 0) := by unfold fits; simp_all <;> omega
         have hB : [.int .i64 s.st, .int .i64 s.tk.k, .int .i64 (s.tk.f : Int), .int .i64 (s.tk.t : Int), .int .i64 s.h.k, .int .i32 (s.h.r : Int), .int .i64 (s.h.f : Int), .int .i64 (s.h.t : Int), .bool s.h.al] = scV (fitted s u) := by unfold fitted; rw [hfit]; rfl
         refine TX.rewE (k := 0) rfl (show cells b [.int .i64 s.st, .int .i64 s.tk.k, .int .i64 (s.tk.f : Int), .int .i64 (s.tk.t : Int), .int .i64 s.h.k, .int .i32 (s.h.r : Int), .int .i64 (s.h.f : Int), .int .i64 (s.h.t : Int), .bool s.h.al] 92 = cells b (scV (fitted s u)) 92 from (congrArg (fun z => cells b z 92) hB)) ?_
         show TX _ _ _ _ _ _ _ [cells b (scV (fitted s u)) 92, cells b1 [.int .i64 u.k, .int .i32 (u.r : Int), .int .i64 (u.f : Int), .int .i64 (u.t : Int), .bool u.al] 90]
         exact TX.fin (rs := [.tmp 4]) () (.inl rfl) Try.results62 (.cons (.tmp rfl) .nil) (by rw [hfit]; rfl) (Splits.of [0] (by as_aux_lemma => kernel_rfl) rfl)
       ·
        -- no
        have h26 := beq_eq_false_iff_ne.1 h26
        refine TC.skip (TX.blockNormal (TX.next (TC.seq (TC.region (TO.assign rfl (by decide) rfl (TO.nil (TX.next (TC.ret ?_))))))))
        have hfit : fits s.st u = (s.st, 0) := by unfold fits; simp_all <;> omega
        have hB : [.int .i64 s.st, .int .i64 s.tk.k, .int .i64 (s.tk.f : Int), .int .i64 (s.tk.t : Int), .int .i64 s.h.k, .int .i32 (s.h.r : Int), .int .i64 (s.h.f : Int), .int .i64 (s.h.t : Int), .bool s.h.al] = scV (fitted s u) := by unfold fitted; rw [hfit]; rfl
        refine TX.rewE (k := 0) rfl (show cells b [.int .i64 s.st, .int .i64 s.tk.k, .int .i64 (s.tk.f : Int), .int .i64 (s.tk.t : Int), .int .i64 s.h.k, .int .i32 (s.h.r : Int), .int .i64 (s.h.f : Int), .int .i64 (s.h.t : Int), .bool s.h.al] 92 = cells b (scV (fitted s u)) 92 from (congrArg (fun z => cells b z 92) hB)) ?_
        show TX _ _ _ _ _ _ _ [cells b (scV (fitted s u)) 92, cells b1 [.int .i64 u.k, .int .i32 (u.r : Int), .int .i64 (u.f : Int), .int .i64 (u.t : Int), .bool u.al] 90]
        exact TX.fin (rs := [.tmp 4]) () (.inl rfl) Try.results62 (.cons (.tmp rfl) .nil) (by rw [hfit]; rfl) (Splits.of [0] (by as_aux_lemma => kernel_rfl) rfl)
 ·
  -- no
  have h1 := beq_eq_false_iff_ne.1 h1
  refine TC.region (TO.bin rfl (by decide) rfl rfl bin_eql (TO.assign rfl (by decide) rfl (TO.nil (TX.next ?_))))
  refine TC.condB rfl (fun h29 => ?_) (fun h29 => ?_)
  ·
   -- yes
   have h29 := beq_iff_eq.1 h29
   refine TC.seq (TC.seq (TC.region (TO.move rfl (by decide) rfl (TO.bin rfl (by decide) rfl rfl bin_eql (TO.nil (TX.next ?_))))))
   refine TC.condB rfl (fun h30 => ?_) (fun h30 => ?_)
   ·
    -- yes
    have h30 := beq_iff_eq.1 h30
    refine TC.seq (TC.region (TO.move rfl (by decide) rfl (TO.nilCheck rfl (by decide) rfl (TO.fieldAddr fl_92_0 rfl (by decide) rfl (show _ = 0 from rfl) ?_))))
    refine TO.store (k := 0) (l' := [.int .i64 1, .int .i64 s.tk.k, .int .i64 (s.tk.f : Int), .int .i64 (s.tk.t : Int), .int .i64 s.h.k, .int .i32 (s.h.r : Int), .int .i64 (s.h.f : Int), .int .i64 (s.h.t : Int), .bool s.h.al]) sz_3 rfl rfl rfl rfl rfl (fun _ _ => rfl) rfl ?_
    refine TO.nil (TX.next (TC.seq (TC.region (TO.assign rfl (by decide) rfl (TO.nil (TX.next (TC.ret (TX.thenRet (TX.blockRet (TX.thenRet ?_))))))))))
    have hfit : fits s.st u = (1, 1) := by unfold fits; simp_all <;> omega
    have hB : [.int .i64 1, .int .i64 s.tk.k, .int .i64 (s.tk.f : Int), .int .i64 (s.tk.t : Int), .int .i64 s.h.k, .int .i32 (s.h.r : Int), .int .i64 (s.h.f : Int), .int .i64 (s.h.t : Int), .bool s.h.al] = scV (fitted s u) := by unfold fitted; rw [hfit]; rfl
    refine TX.rewE (k := 0) rfl (show cells b [.int .i64 1, .int .i64 s.tk.k, .int .i64 (s.tk.f : Int), .int .i64 (s.tk.t : Int), .int .i64 s.h.k, .int .i32 (s.h.r : Int), .int .i64 (s.h.f : Int), .int .i64 (s.h.t : Int), .bool s.h.al] 92 = cells b (scV (fitted s u)) 92 from (congrArg (fun z => cells b z 92) hB)) ?_
    show TX _ _ _ _ _ _ _ [cells b (scV (fitted s u)) 92, cells b1 [.int .i64 u.k, .int .i32 (u.r : Int), .int .i64 (u.f : Int), .int .i64 (u.t : Int), .bool u.al] 90]
    exact TX.fin (rs := [.tmp 4]) () (.inl rfl) Try.results62 (.cons (.tmp rfl) .nil) (by rw [hfit]; rfl) (Splits.of [0] (by as_aux_lemma => kernel_rfl) rfl)
   ·
    -- no
    have h30 := beq_eq_false_iff_ne.1 h30
    refine TC.skip (TX.next (TC.seq (TC.region (TO.move rfl (by decide) rfl (TO.nilCheck rfl (by decide) rfl (TO.fieldAddr fl_92_0 rfl (by decide) rfl (show _ = 0 from rfl) (TO.load (k := 0) sc_3 rfl (by decide) rfl rfl rfl (TO.bin rfl (by decide) rfl rfl bin_eql (TO.move rfl (by decide) rfl ?_)))))))))
    refine TO.split (s := 25) rfl (fun h31 => ?_) (fun h31 => ?_)
    ·
     -- yes
     have h31 := beq_iff_eq.1 h31
     refine TO.loads (k := 1) (cs := [.int .i64 u.k, .int .i32 (u.r : Int), .int .i64 (u.f : Int), .int .i64 (u.t : Int), .bool u.al]) rw_90 rfl (by decide) rfl rfl rfl rfl (TO.callP (v := .bool (joint u)) (vs := [.agg #[.int .i64 u.k, .int .i32 (u.r : Int), .int .i64 (u.f : Int), .int .i64 (u.t : Int), .bool u.al]]) rfl (by decide) rfl rfl rfl en_84 (joint_p u) (TO.pick (b := true) rfl (by decide) rfl rfl (TO.nil (TX.next ?_))))
     refine TC.condB rfl (fun h32 => ?_) (fun h32 => ?_)
     ·
      -- yes
      refine TC.seq ?_
      refine TC.drawB (β := Unit) 6 5 _ [(0, 29, .pointer (some ⟨b, 0, none⟩)), (1, 30, .pointer (some ⟨b, 0, none⟩)), (2, 31, .agg #[.int .i64 u.k, .int .i32 (u.r : Int), .int .i64 (u.f : Int), .int .i64 (u.t : Int), .bool u.al]), (3, 32, .pointer (some ⟨b, 0, none⟩)), (4, 33, .pointer (some ⟨b, 0, none⟩))] (fun _b => []) (fun _b => [cells b [.int .i64 2, .int .i64 s.tk.k, .int .i64 (s.tk.f : Int), .int .i64 (s.tk.t : Int), .int .i64 s.h.k, .int .i32 (s.h.r : Int), .int .i64 (s.h.f : Int), .int .i64 (s.h.t : Int), .bool s.h.al] 92, cells b1 [.int .i64 u.k, .int .i32 (u.r : Int), .int .i64 (u.f : Int), .int .i64 (u.t : Int), .bool u.al] 90]) mixed (by as_aux_lemma => kernel_rfl) (by as_aux_lemma => kernel_rfl) rfl (by decide) (by decide) (by rfl) (by as_aux_lemma => kernel_rfl) (by as_aux_lemma => kernel_rfl) (DrawPreX.cons ?_ (DrawPreX.cons ?_ (DrawPreX.cons ?_ (DrawPreX.cons ?_ (DrawPreX.cons ?_ (DrawPreX.here DrawPreX.nil)))))) (fun _b => (DrawPreX.cons ?_ (DrawPreX.cons ?_ (DrawPreX.cons ?_ (DrawPreX.cons ?_ (DrawPreX.cons ?_ (DrawPreX.here DrawPreX.nil))))))) ?_ ?_
      ·
       intro D hn hd hcl hu hi
       refine TO.move rfl (by decide) (dl_old (by rfl) rfl) ?_
       exact TX.quiet 0 hu hi rfl
      ·
       intro D hn hd hcl hu hi
       refine TO.move rfl (by decide) (dl_old (by rfl) rfl) ?_
       exact TX.quiet 1 hu hi rfl
      ·
       intro D hn hd hcl hu hi
       refine TO.loads (k := 1) (cs := [.int .i64 u.k, .int .i32 (u.r : Int), .int .i64 (u.f : Int), .int .i64 (u.t : Int), .bool u.al]) rw_90 rfl (by decide) (dl_old (by rfl) rfl) rfl rfl rfl ?_
       exact TX.quiet 2 hu hi rfl
      ·
       intro D hn hd hcl hu hi
       refine TO.nilCheck rfl (by decide) (dl_lookup (m := 0) hu rfl (hd 0 (by decide))) ?_
       exact TX.quiet 3 hu hi rfl
      ·
       intro D hn hd hcl hu hi
       refine TO.fieldAddr fl_92_0 rfl (by decide) (dl_lookup (m := 3) hu rfl (hd 3 (by decide))) (show _ = 0 from rfl) ?_
       exact TX.quiet 4 hu hi rfl
      ·
       intro D hn hd hcl hu hi
       refine TO.move rfl (by decide) (dl_old (by rfl) rfl) ?_
       exact TX.quiet 0 hu hi rfl
      ·
       intro D hn hd hcl hu hi
       refine TO.move rfl (by decide) (dl_old (by rfl) rfl) ?_
       exact TX.quiet 1 hu hi rfl
      ·
       intro D hn hd hcl hu hi
       refine TO.loads (k := 1) (cs := [.int .i64 u.k, .int .i32 (u.r : Int), .int .i64 (u.f : Int), .int .i64 (u.t : Int), .bool u.al]) rw_90 rfl (by decide) (dl_old (by rfl) rfl) rfl rfl rfl ?_
       exact TX.quiet 2 hu hi rfl
      ·
       intro D hn hd hcl hu hi
       refine TO.nilCheck rfl (by decide) (dl_lookup (m := 0) hu rfl (hd 0 (by decide))) ?_
       exact TX.quiet 3 hu hi rfl
      ·
       intro D hn hd hcl hu hi
       refine TO.fieldAddr fl_92_0 rfl (by decide) (dl_lookup (m := 3) hu rfl (hd 3 (by decide))) (show _ = 0 from rfl) ?_
       exact TX.quiet 4 hu hi rfl
      ·
       intro D hn hd hcl
       refine TO.store (k := 0) (l' := [.int .i64 2, .int .i64 s.tk.k, .int .i64 (s.tk.f : Int), .int .i64 (s.tk.t : Int), .int .i64 s.h.k, .int .i32 (s.h.r : Int), .int .i64 (s.h.f : Int), .int .i64 (s.h.t : Int), .bool s.h.al]) sz_3 rfl (dl_lookup (m := 4) (by as_aux_lemma => kernel_rfl) rfl (hd 4 (by decide))) rfl rfl rfl (fun _ _ => rfl) rfl ?_
       exact fun a w ha hw => ⟨(), ha, hw⟩
      intro _b
      show TO _ _ _ _ _ _ _ _ _ _ [cells b [.int .i64 2, .int .i64 s.tk.k, .int .i64 (s.tk.f : Int), .int .i64 (s.tk.t : Int), .int .i64 s.h.k, .int .i32 (s.h.r : Int), .int .i64 (s.h.f : Int), .int .i64 (s.h.t : Int), .bool s.h.al] 92, cells b1 [.int .i64 u.k, .int .i32 (u.r : Int), .int .i64 (u.f : Int), .int .i64 (u.t : Int), .bool u.al] 90]
      refine TO.nilCheck rfl (by decide) rfl (TO.fieldAddr fl_92_2 rfl (by decide) rfl (show _ = 4 from rfl) (TO.stores (k := 0) (vs := [.int .i64 u.k, .int .i32 (u.r : Int), .int .i64 (u.f : Int), .int .i64 (u.t : Int), .bool u.al]) (l' := [.int .i64 2, .int .i64 s.tk.k, .int .i64 (s.tk.f : Int), .int .i64 (s.tk.t : Int), .int .i64 u.k, .int .i32 (u.r : Int), .int .i64 (u.f : Int), .int .i64 (u.t : Int), .bool u.al]) sz_90 rfl rfl rfl rfl rfl (show _ ≤ _ by simp) rfl rfl (TO.nil (TX.next (TC.seq (TC.region (TO.assign rfl (by decide) rfl (TO.nil (TX.next (TC.ret (TX.blockRet (TX.thenRet ?_))))))))))))
      have hfit : fits s.st u = (2, 2) := by unfold fits; simp_all <;> omega
      have hB : [.int .i64 2, .int .i64 s.tk.k, .int .i64 (s.tk.f : Int), .int .i64 (s.tk.t : Int), .int .i64 u.k, .int .i32 (u.r : Int), .int .i64 (u.f : Int), .int .i64 (u.t : Int), .bool u.al] = scV (fitted s u) := by unfold fitted; rw [hfit]; rfl
      refine TX.rewE (k := 0) rfl (show cells b [.int .i64 2, .int .i64 s.tk.k, .int .i64 (s.tk.f : Int), .int .i64 (s.tk.t : Int), .int .i64 u.k, .int .i32 (u.r : Int), .int .i64 (u.f : Int), .int .i64 (u.t : Int), .bool u.al] 92 = cells b (scV (fitted s u)) 92 from (congrArg (fun z => cells b z 92) hB)) ?_
      show TX _ _ _ _ _ _ _ [cells b (scV (fitted s u)) 92, cells b1 [.int .i64 u.k, .int .i32 (u.r : Int), .int .i64 (u.f : Int), .int .i64 (u.t : Int), .bool u.al] 90]
      exact TX.fin (rs := [.tmp 4]) () (.inl rfl) Try.results62 (.cons (.tmp rfl) .nil) (by rw [hfit]; rfl) (Splits.of [0] (by as_aux_lemma => kernel_rfl) rfl)
     ·
      -- no
      refine TC.skip (TX.blockNormal (TX.next (TC.seq (TC.region (TO.assign rfl (by decide) rfl (TO.nil (TX.next (TC.ret ?_))))))))
      have hfit : fits s.st u = (s.st, 0) := by unfold fits; simp_all <;> omega
      have hB : [.int .i64 s.st, .int .i64 s.tk.k, .int .i64 (s.tk.f : Int), .int .i64 (s.tk.t : Int), .int .i64 s.h.k, .int .i32 (s.h.r : Int), .int .i64 (s.h.f : Int), .int .i64 (s.h.t : Int), .bool s.h.al] = scV (fitted s u) := by unfold fitted; rw [hfit]; rfl
      refine TX.rewE (k := 0) rfl (show cells b [.int .i64 s.st, .int .i64 s.tk.k, .int .i64 (s.tk.f : Int), .int .i64 (s.tk.t : Int), .int .i64 s.h.k, .int .i32 (s.h.r : Int), .int .i64 (s.h.f : Int), .int .i64 (s.h.t : Int), .bool s.h.al] 92 = cells b (scV (fitted s u)) 92 from (congrArg (fun z => cells b z 92) hB)) ?_
      show TX _ _ _ _ _ _ _ [cells b (scV (fitted s u)) 92, cells b1 [.int .i64 u.k, .int .i32 (u.r : Int), .int .i64 (u.f : Int), .int .i64 (u.t : Int), .bool u.al] 90]
      exact TX.fin (rs := [.tmp 4]) () (.inl rfl) Try.results62 (.cons (.tmp rfl) .nil) (by rw [hfit]; rfl) (Splits.of [0] (by as_aux_lemma => kernel_rfl) rfl)
    ·
     -- no
     have h31 := beq_eq_false_iff_ne.1 h31
     refine TO.skip rfl (by decide) (TO.skip rfl (by decide) (TO.pick (b := false) rfl (by decide) rfl rfl (TO.nil (TX.next (TC.condF rfl (TC.skip (TX.blockNormal (TX.next (TC.seq (TC.region (TO.assign rfl (by decide) rfl (TO.nil (TX.next ?_)))))))))))))
     refine TC.ret ?_
     have hfit : fits s.st u = (s.st, 0) := by unfold fits; simp_all <;> omega
     have hB : [.int .i64 s.st, .int .i64 s.tk.k, .int .i64 (s.tk.f : Int), .int .i64 (s.tk.t : Int), .int .i64 s.h.k, .int .i32 (s.h.r : Int), .int .i64 (s.h.f : Int), .int .i64 (s.h.t : Int), .bool s.h.al] = scV (fitted s u) := by unfold fitted; rw [hfit]; rfl
     refine TX.rewE (k := 0) rfl (show cells b [.int .i64 s.st, .int .i64 s.tk.k, .int .i64 (s.tk.f : Int), .int .i64 (s.tk.t : Int), .int .i64 s.h.k, .int .i32 (s.h.r : Int), .int .i64 (s.h.f : Int), .int .i64 (s.h.t : Int), .bool s.h.al] 92 = cells b (scV (fitted s u)) 92 from (congrArg (fun z => cells b z 92) hB)) ?_
     show TX _ _ _ _ _ _ _ [cells b (scV (fitted s u)) 92, cells b1 [.int .i64 u.k, .int .i32 (u.r : Int), .int .i64 (u.f : Int), .int .i64 (u.t : Int), .bool u.al] 90]
     exact TX.fin (rs := [.tmp 4]) () (.inl rfl) Try.results62 (.cons (.tmp rfl) .nil) (by rw [hfit]; rfl) (Splits.of [0] (by as_aux_lemma => kernel_rfl) rfl)
  ·
   -- no
   have h29 := beq_eq_false_iff_ne.1 h29
   refine TC.seq (TC.seq (TC.region (TO.bin rfl (by decide) rfl rfl bin_eql (TO.assign rfl (by decide) rfl (TO.nil (TX.next ?_))))))
   refine TC.condB rfl (fun h33 => ?_) (fun h33 => ?_)
   ·
    -- yes
    have h33 := beq_iff_eq.1 h33
    refine TC.skip (TX.next ?_)
    refine TC.condB rfl (fun h34 => ?_) (fun h34 => ?_)
    ·
     -- yes
     have h34 := beq_iff_eq.1 h34
     refine TC.seq (TC.seq (TC.region (TO.move rfl (by decide) rfl (TO.bin rfl (by decide) rfl rfl bin_eql (TO.nil (TX.next ?_))))))
     refine TC.condB rfl (fun h35 => ?_) (fun h35 => ?_)
     ·
      -- yes
      have h35 := beq_iff_eq.1 h35
      refine TC.seq (TC.region (TO.move rfl (by decide) rfl (TO.nilCheck rfl (by decide) rfl (TO.fieldAddr fl_92_0 rfl (by decide) rfl (show _ = 0 from rfl) ?_))))
      refine TO.store (k := 0) (l' := [.int .i64 3, .int .i64 s.tk.k, .int .i64 (s.tk.f : Int), .int .i64 (s.tk.t : Int), .int .i64 s.h.k, .int .i32 (s.h.r : Int), .int .i64 (s.h.f : Int), .int .i64 (s.h.t : Int), .bool s.h.al]) sz_3 rfl rfl rfl rfl rfl (fun _ _ => rfl) rfl ?_
      refine TO.nil (TX.next (TC.seq (TC.region (TO.assign rfl (by decide) rfl (TO.nil (TX.next (TC.ret (TX.thenRet (TX.blockRet (TX.thenRet ?_))))))))))
      have hfit : fits s.st u = (3, 1) := by unfold fits; simp_all <;> omega
      have hB : [.int .i64 3, .int .i64 s.tk.k, .int .i64 (s.tk.f : Int), .int .i64 (s.tk.t : Int), .int .i64 s.h.k, .int .i32 (s.h.r : Int), .int .i64 (s.h.f : Int), .int .i64 (s.h.t : Int), .bool s.h.al] = scV (fitted s u) := by unfold fitted; rw [hfit]; rfl
      refine TX.rewE (k := 0) rfl (show cells b [.int .i64 3, .int .i64 s.tk.k, .int .i64 (s.tk.f : Int), .int .i64 (s.tk.t : Int), .int .i64 s.h.k, .int .i32 (s.h.r : Int), .int .i64 (s.h.f : Int), .int .i64 (s.h.t : Int), .bool s.h.al] 92 = cells b (scV (fitted s u)) 92 from (congrArg (fun z => cells b z 92) hB)) ?_
      show TX _ _ _ _ _ _ _ [cells b (scV (fitted s u)) 92, cells b1 [.int .i64 u.k, .int .i32 (u.r : Int), .int .i64 (u.f : Int), .int .i64 (u.t : Int), .bool u.al] 90]
      exact TX.fin (rs := [.tmp 4]) () (.inl rfl) Try.results62 (.cons (.tmp rfl) .nil) (by rw [hfit]; rfl) (Splits.of [0] (by as_aux_lemma => kernel_rfl) rfl)
     ·
      -- no
      have h35 := beq_eq_false_iff_ne.1 h35
      refine TC.skip (TX.next (TC.seq (TC.region (TO.move rfl (by decide) rfl (TO.nilCheck rfl (by decide) rfl (TO.fieldAddr fl_92_0 rfl (by decide) rfl (show _ = 0 from rfl) (TO.load (k := 0) sc_3 rfl (by decide) rfl rfl rfl (TO.bin rfl (by decide) rfl rfl bin_eql (TO.move rfl (by decide) rfl ?_)))))))))
      refine TO.split (s := 49) rfl (fun h36 => ?_) (fun h36 => ?_)
      ·
       -- yes
       have h36 := beq_iff_eq.1 h36
       refine TO.loads (k := 1) (cs := [.int .i64 u.k, .int .i32 (u.r : Int), .int .i64 (u.f : Int), .int .i64 (u.t : Int), .bool u.al]) rw_90 rfl (by decide) rfl rfl rfl rfl (TO.callP (v := .bool (dot u)) (vs := [.agg #[.int .i64 u.k, .int .i32 (u.r : Int), .int .i64 (u.f : Int), .int .i64 (u.t : Int), .bool u.al]]) rfl (by decide) rfl rfl rfl en_85 (dot_p u) (TO.pick (b := true) rfl (by decide) rfl rfl (TO.nil (TX.next ?_))))
       refine TC.condB rfl (fun h37 => ?_) (fun h37 => ?_)
       ·
        -- yes
        refine TC.seq ?_
        refine TC.drawB (β := Unit) 6 5 _ [(0, 53, .pointer (some ⟨b, 0, none⟩)), (1, 54, .pointer (some ⟨b, 0, none⟩)), (2, 55, .agg #[.int .i64 u.k, .int .i32 (u.r : Int), .int .i64 (u.f : Int), .int .i64 (u.t : Int), .bool u.al]), (3, 56, .pointer (some ⟨b, 0, none⟩)), (4, 57, .pointer (some ⟨b, 0, none⟩))] (fun _b => []) (fun _b => [cells b [.int .i64 4, .int .i64 s.tk.k, .int .i64 (s.tk.f : Int), .int .i64 (s.tk.t : Int), .int .i64 s.h.k, .int .i32 (s.h.r : Int), .int .i64 (s.h.f : Int), .int .i64 (s.h.t : Int), .bool s.h.al] 92, cells b1 [.int .i64 u.k, .int .i32 (u.r : Int), .int .i64 (u.f : Int), .int .i64 (u.t : Int), .bool u.al] 90]) mixed (by as_aux_lemma => kernel_rfl) (by as_aux_lemma => kernel_rfl) rfl (by decide) (by decide) (by rfl) (by as_aux_lemma => kernel_rfl) (by as_aux_lemma => kernel_rfl) (DrawPreX.cons ?_ (DrawPreX.cons ?_ (DrawPreX.cons ?_ (DrawPreX.cons ?_ (DrawPreX.cons ?_ (DrawPreX.here DrawPreX.nil)))))) (fun _b => (DrawPreX.cons ?_ (DrawPreX.cons ?_ (DrawPreX.cons ?_ (DrawPreX.cons ?_ (DrawPreX.cons ?_ (DrawPreX.here DrawPreX.nil))))))) ?_ ?_
        ·
         intro D hn hd hcl hu hi
         refine TO.move rfl (by decide) (dl_old (by rfl) rfl) ?_
         exact TX.quiet 0 hu hi rfl
        ·
         intro D hn hd hcl hu hi
         refine TO.move rfl (by decide) (dl_old (by rfl) rfl) ?_
         exact TX.quiet 1 hu hi rfl
        ·
         intro D hn hd hcl hu hi
         refine TO.loads (k := 1) (cs := [.int .i64 u.k, .int .i32 (u.r : Int), .int .i64 (u.f : Int), .int .i64 (u.t : Int), .bool u.al]) rw_90 rfl (by decide) (dl_old (by rfl) rfl) rfl rfl rfl ?_
         exact TX.quiet 2 hu hi rfl
        ·
         intro D hn hd hcl hu hi
         refine TO.nilCheck rfl (by decide) (dl_lookup (m := 0) hu rfl (hd 0 (by decide))) ?_
         exact TX.quiet 3 hu hi rfl
        ·
         intro D hn hd hcl hu hi
         refine TO.fieldAddr fl_92_0 rfl (by decide) (dl_lookup (m := 3) hu rfl (hd 3 (by decide))) (show _ = 0 from rfl) ?_
         exact TX.quiet 4 hu hi rfl
        ·
         intro D hn hd hcl hu hi
         refine TO.move rfl (by decide) (dl_old (by rfl) rfl) ?_
         exact TX.quiet 0 hu hi rfl
        ·
         intro D hn hd hcl hu hi
         refine TO.move rfl (by decide) (dl_old (by rfl) rfl) ?_
         exact TX.quiet 1 hu hi rfl
        ·
         intro D hn hd hcl hu hi
         refine TO.loads (k := 1) (cs := [.int .i64 u.k, .int .i32 (u.r : Int), .int .i64 (u.f : Int), .int .i64 (u.t : Int), .bool u.al]) rw_90 rfl (by decide) (dl_old (by rfl) rfl) rfl rfl rfl ?_
         exact TX.quiet 2 hu hi rfl
        ·
         intro D hn hd hcl hu hi
         refine TO.nilCheck rfl (by decide) (dl_lookup (m := 0) hu rfl (hd 0 (by decide))) ?_
         exact TX.quiet 3 hu hi rfl
        ·
         intro D hn hd hcl hu hi
         refine TO.fieldAddr fl_92_0 rfl (by decide) (dl_lookup (m := 3) hu rfl (hd 3 (by decide))) (show _ = 0 from rfl) ?_
         exact TX.quiet 4 hu hi rfl
        ·
         intro D hn hd hcl
         refine TO.store (k := 0) (l' := [.int .i64 4, .int .i64 s.tk.k, .int .i64 (s.tk.f : Int), .int .i64 (s.tk.t : Int), .int .i64 s.h.k, .int .i32 (s.h.r : Int), .int .i64 (s.h.f : Int), .int .i64 (s.h.t : Int), .bool s.h.al]) sz_3 rfl (dl_lookup (m := 4) (by as_aux_lemma => kernel_rfl) rfl (hd 4 (by decide))) rfl rfl rfl (fun _ _ => rfl) rfl ?_
         exact fun a w ha hw => ⟨(), ha, hw⟩
        intro _b
        show TO _ _ _ _ _ _ _ _ _ _ [cells b [.int .i64 4, .int .i64 s.tk.k, .int .i64 (s.tk.f : Int), .int .i64 (s.tk.t : Int), .int .i64 s.h.k, .int .i32 (s.h.r : Int), .int .i64 (s.h.f : Int), .int .i64 (s.h.t : Int), .bool s.h.al] 92, cells b1 [.int .i64 u.k, .int .i32 (u.r : Int), .int .i64 (u.f : Int), .int .i64 (u.t : Int), .bool u.al] 90]
        refine TO.nilCheck rfl (by decide) rfl (TO.fieldAddr fl_92_2 rfl (by decide) rfl (show _ = 4 from rfl) (TO.stores (k := 0) (vs := [.int .i64 u.k, .int .i32 (u.r : Int), .int .i64 (u.f : Int), .int .i64 (u.t : Int), .bool u.al]) (l' := [.int .i64 4, .int .i64 s.tk.k, .int .i64 (s.tk.f : Int), .int .i64 (s.tk.t : Int), .int .i64 u.k, .int .i32 (u.r : Int), .int .i64 (u.f : Int), .int .i64 (u.t : Int), .bool u.al]) sz_90 rfl rfl rfl rfl rfl (show _ ≤ _ by simp) rfl rfl (TO.nil (TX.next (TC.seq (TC.region (TO.assign rfl (by decide) rfl (TO.nil (TX.next (TC.ret (TX.blockRet (TX.thenRet ?_))))))))))))
        have hfit : fits s.st u = (4, 2) := by unfold fits; simp_all <;> omega
        have hB : [.int .i64 4, .int .i64 s.tk.k, .int .i64 (s.tk.f : Int), .int .i64 (s.tk.t : Int), .int .i64 u.k, .int .i32 (u.r : Int), .int .i64 (u.f : Int), .int .i64 (u.t : Int), .bool u.al] = scV (fitted s u) := by unfold fitted; rw [hfit]; rfl
        refine TX.rewE (k := 0) rfl (show cells b [.int .i64 4, .int .i64 s.tk.k, .int .i64 (s.tk.f : Int), .int .i64 (s.tk.t : Int), .int .i64 u.k, .int .i32 (u.r : Int), .int .i64 (u.f : Int), .int .i64 (u.t : Int), .bool u.al] 92 = cells b (scV (fitted s u)) 92 from (congrArg (fun z => cells b z 92) hB)) ?_
        show TX _ _ _ _ _ _ _ [cells b (scV (fitted s u)) 92, cells b1 [.int .i64 u.k, .int .i32 (u.r : Int), .int .i64 (u.f : Int), .int .i64 (u.t : Int), .bool u.al] 90]
        exact TX.fin (rs := [.tmp 4]) () (.inl rfl) Try.results62 (.cons (.tmp rfl) .nil) (by rw [hfit]; rfl) (Splits.of [0] (by as_aux_lemma => kernel_rfl) rfl)
       ·
        -- no
        refine TC.skip (TX.blockNormal (TX.next (TC.seq (TC.region (TO.assign rfl (by decide) rfl (TO.nil (TX.next (TC.ret ?_))))))))
        have hfit : fits s.st u = (s.st, 0) := by unfold fits; simp_all <;> omega
        have hB : [.int .i64 s.st, .int .i64 s.tk.k, .int .i64 (s.tk.f : Int), .int .i64 (s.tk.t : Int), .int .i64 s.h.k, .int .i32 (s.h.r : Int), .int .i64 (s.h.f : Int), .int .i64 (s.h.t : Int), .bool s.h.al] = scV (fitted s u) := by unfold fitted; rw [hfit]; rfl
        refine TX.rewE (k := 0) rfl (show cells b [.int .i64 s.st, .int .i64 s.tk.k, .int .i64 (s.tk.f : Int), .int .i64 (s.tk.t : Int), .int .i64 s.h.k, .int .i32 (s.h.r : Int), .int .i64 (s.h.f : Int), .int .i64 (s.h.t : Int), .bool s.h.al] 92 = cells b (scV (fitted s u)) 92 from (congrArg (fun z => cells b z 92) hB)) ?_
        show TX _ _ _ _ _ _ _ [cells b (scV (fitted s u)) 92, cells b1 [.int .i64 u.k, .int .i32 (u.r : Int), .int .i64 (u.f : Int), .int .i64 (u.t : Int), .bool u.al] 90]
        exact TX.fin (rs := [.tmp 4]) () (.inl rfl) Try.results62 (.cons (.tmp rfl) .nil) (by rw [hfit]; rfl) (Splits.of [0] (by as_aux_lemma => kernel_rfl) rfl)
      ·
       -- no
       have h36 := beq_eq_false_iff_ne.1 h36
       refine TO.skip rfl (by decide) (TO.skip rfl (by decide) (TO.pick (b := false) rfl (by decide) rfl rfl (TO.nil (TX.next (TC.condF rfl (TC.skip (TX.blockNormal (TX.next (TC.seq (TC.region (TO.assign rfl (by decide) rfl (TO.nil (TX.next ?_)))))))))))))
       refine TC.ret ?_
       have hfit : fits s.st u = (s.st, 0) := by unfold fits; simp_all <;> omega
       have hB : [.int .i64 s.st, .int .i64 s.tk.k, .int .i64 (s.tk.f : Int), .int .i64 (s.tk.t : Int), .int .i64 s.h.k, .int .i32 (s.h.r : Int), .int .i64 (s.h.f : Int), .int .i64 (s.h.t : Int), .bool s.h.al] = scV (fitted s u) := by unfold fitted; rw [hfit]; rfl
       refine TX.rewE (k := 0) rfl (show cells b [.int .i64 s.st, .int .i64 s.tk.k, .int .i64 (s.tk.f : Int), .int .i64 (s.tk.t : Int), .int .i64 s.h.k, .int .i32 (s.h.r : Int), .int .i64 (s.h.f : Int), .int .i64 (s.h.t : Int), .bool s.h.al] 92 = cells b (scV (fitted s u)) 92 from (congrArg (fun z => cells b z 92) hB)) ?_
       show TX _ _ _ _ _ _ _ [cells b (scV (fitted s u)) 92, cells b1 [.int .i64 u.k, .int .i32 (u.r : Int), .int .i64 (u.f : Int), .int .i64 (u.t : Int), .bool u.al] 90]
       exact TX.fin (rs := [.tmp 4]) () (.inl rfl) Try.results62 (.cons (.tmp rfl) .nil) (by rw [hfit]; rfl) (Splits.of [0] (by as_aux_lemma => kernel_rfl) rfl)
    ·
     -- no
     have h34 := beq_eq_false_iff_ne.1 h34
     refine TC.seq (TC.region (TO.bin rfl (by decide) rfl rfl bin_eql (TO.assign rfl (by decide) rfl (TO.nil (TX.next ?_)))))
     refine TC.condB rfl (fun h38 => ?_) (fun h38 => ?_)
     ·
      -- yes
      have h38 := beq_iff_eq.1 h38
      refine TC.seq (TC.region (TO.move rfl (by decide) rfl (TO.bin rfl (by decide) rfl rfl bin_eql (TO.nil (TX.next ?_)))))
      refine TC.condB rfl (fun h39 => ?_) (fun h39 => ?_)
      ·
       -- yes
       have h39 := beq_iff_eq.1 h39
       refine TC.seq (TC.region (TO.assign rfl (by decide) rfl (TO.nil (TX.next (TC.ret (TX.blockRet (TX.thenRet ?_)))))))
       have hfit : fits s.st u = (s.st, 1) := by unfold fits; simp_all <;> omega
       have hB : [.int .i64 s.st, .int .i64 s.tk.k, .int .i64 (s.tk.f : Int), .int .i64 (s.tk.t : Int), .int .i64 s.h.k, .int .i32 (s.h.r : Int), .int .i64 (s.h.f : Int), .int .i64 (s.h.t : Int), .bool s.h.al] = scV (fitted s u) := by unfold fitted; rw [hfit]; rfl
       refine TX.rewE (k := 0) rfl (show cells b [.int .i64 s.st, .int .i64 s.tk.k, .int .i64 (s.tk.f : Int), .int .i64 (s.tk.t : Int), .int .i64 s.h.k, .int .i32 (s.h.r : Int), .int .i64 (s.h.f : Int), .int .i64 (s.h.t : Int), .bool s.h.al] 92 = cells b (scV (fitted s u)) 92 from (congrArg (fun z => cells b z 92) hB)) ?_
       show TX _ _ _ _ _ _ _ [cells b (scV (fitted s u)) 92, cells b1 [.int .i64 u.k, .int .i32 (u.r : Int), .int .i64 (u.f : Int), .int .i64 (u.t : Int), .bool u.al] 90]
       exact TX.fin (rs := [.tmp 4]) () (.inl rfl) Try.results62 (.cons (.tmp rfl) .nil) (by rw [hfit]; rfl) (Splits.of [0] (by as_aux_lemma => kernel_rfl) rfl)
      ·
       -- no
       have h39 := beq_eq_false_iff_ne.1 h39
       refine TC.skip (TX.blockNormal (TX.next (TC.seq (TC.region (TO.assign rfl (by decide) rfl (TO.nil (TX.next (TC.ret ?_))))))))
       have hfit : fits s.st u = (s.st, 0) := by unfold fits; simp_all <;> omega
       have hB : [.int .i64 s.st, .int .i64 s.tk.k, .int .i64 (s.tk.f : Int), .int .i64 (s.tk.t : Int), .int .i64 s.h.k, .int .i32 (s.h.r : Int), .int .i64 (s.h.f : Int), .int .i64 (s.h.t : Int), .bool s.h.al] = scV (fitted s u) := by unfold fitted; rw [hfit]; rfl
       refine TX.rewE (k := 0) rfl (show cells b [.int .i64 s.st, .int .i64 s.tk.k, .int .i64 (s.tk.f : Int), .int .i64 (s.tk.t : Int), .int .i64 s.h.k, .int .i32 (s.h.r : Int), .int .i64 (s.h.f : Int), .int .i64 (s.h.t : Int), .bool s.h.al] 92 = cells b (scV (fitted s u)) 92 from (congrArg (fun z => cells b z 92) hB)) ?_
       show TX _ _ _ _ _ _ _ [cells b (scV (fitted s u)) 92, cells b1 [.int .i64 u.k, .int .i32 (u.r : Int), .int .i64 (u.f : Int), .int .i64 (u.t : Int), .bool u.al] 90]
       exact TX.fin (rs := [.tmp 4]) () (.inl rfl) Try.results62 (.cons (.tmp rfl) .nil) (by rw [hfit]; rfl) (Splits.of [0] (by as_aux_lemma => kernel_rfl) rfl)
     ·
      -- no
      have h38 := beq_eq_false_iff_ne.1 h38
      refine TC.seq (TC.region (TO.bin rfl (by decide) rfl rfl bin_eql (TO.assign rfl (by decide) rfl (TO.nil (TX.next ?_)))))
      refine TC.condB rfl (fun h40 => ?_) (fun h40 => ?_)
      ·
       -- yes
       have h40 := beq_iff_eq.1 h40
       refine TC.seq (TC.region (TO.move rfl (by decide) rfl (TO.bin rfl (by decide) rfl rfl bin_eql (TO.nil (TX.next ?_)))))
       refine TC.condB rfl (fun h41 => ?_) (fun h41 => ?_)
       ·
        -- yes
        have h41 := beq_iff_eq.1 h41
        refine TC.seq (TC.region (TO.assign rfl (by decide) rfl (TO.nil (TX.next (TC.ret (TX.blockRet (TX.thenRet ?_)))))))
        have hfit : fits s.st u = (s.st, 1) := by unfold fits; simp_all <;> omega
        have hB : [.int .i64 s.st, .int .i64 s.tk.k, .int .i64 (s.tk.f : Int), .int .i64 (s.tk.t : Int), .int .i64 s.h.k, .int .i32 (s.h.r : Int), .int .i64 (s.h.f : Int), .int .i64 (s.h.t : Int), .bool s.h.al] = scV (fitted s u) := by unfold fitted; rw [hfit]; rfl
        refine TX.rewE (k := 0) rfl (show cells b [.int .i64 s.st, .int .i64 s.tk.k, .int .i64 (s.tk.f : Int), .int .i64 (s.tk.t : Int), .int .i64 s.h.k, .int .i32 (s.h.r : Int), .int .i64 (s.h.f : Int), .int .i64 (s.h.t : Int), .bool s.h.al] 92 = cells b (scV (fitted s u)) 92 from (congrArg (fun z => cells b z 92) hB)) ?_
        show TX _ _ _ _ _ _ _ [cells b (scV (fitted s u)) 92, cells b1 [.int .i64 u.k, .int .i32 (u.r : Int), .int .i64 (u.f : Int), .int .i64 (u.t : Int), .bool u.al] 90]
        exact TX.fin (rs := [.tmp 4]) () (.inl rfl) Try.results62 (.cons (.tmp rfl) .nil) (by rw [hfit]; rfl) (Splits.of [0] (by as_aux_lemma => kernel_rfl) rfl)
       ·
        -- no
        have h41 := beq_eq_false_iff_ne.1 h41
        refine TC.skip (TX.blockNormal (TX.next (TC.seq (TC.region (TO.assign rfl (by decide) rfl (TO.nil (TX.next (TC.ret ?_))))))))
        have hfit : fits s.st u = (s.st, 0) := by unfold fits; simp_all <;> omega
        have hB : [.int .i64 s.st, .int .i64 s.tk.k, .int .i64 (s.tk.f : Int), .int .i64 (s.tk.t : Int), .int .i64 s.h.k, .int .i32 (s.h.r : Int), .int .i64 (s.h.f : Int), .int .i64 (s.h.t : Int), .bool s.h.al] = scV (fitted s u) := by unfold fitted; rw [hfit]; rfl
        refine TX.rewE (k := 0) rfl (show cells b [.int .i64 s.st, .int .i64 s.tk.k, .int .i64 (s.tk.f : Int), .int .i64 (s.tk.t : Int), .int .i64 s.h.k, .int .i32 (s.h.r : Int), .int .i64 (s.h.f : Int), .int .i64 (s.h.t : Int), .bool s.h.al] 92 = cells b (scV (fitted s u)) 92 from (congrArg (fun z => cells b z 92) hB)) ?_
        show TX _ _ _ _ _ _ _ [cells b (scV (fitted s u)) 92, cells b1 [.int .i64 u.k, .int .i32 (u.r : Int), .int .i64 (u.f : Int), .int .i64 (u.t : Int), .bool u.al] 90]
        exact TX.fin (rs := [.tmp 4]) () (.inl rfl) Try.results62 (.cons (.tmp rfl) .nil) (by rw [hfit]; rfl) (Splits.of [0] (by as_aux_lemma => kernel_rfl) rfl)
      ·
       -- no
       have h40 := beq_eq_false_iff_ne.1 h40
       refine TC.seq (TC.region (TO.bin rfl (by decide) rfl rfl bin_eql (TO.assign rfl (by decide) rfl (TO.nil (TX.next ?_)))))
       refine TC.condB rfl (fun h42 => ?_) (fun h42 => ?_)
       ·
        -- yes
        have h42 := beq_iff_eq.1 h42
        refine TC.seq (TC.region (TO.move rfl (by decide) rfl (TO.bin rfl (by decide) rfl rfl bin_eql (TO.move rfl (by decide) rfl ?_))))
        refine TO.split (s := 72) rfl (fun h43 => ?_) (fun h43 => ?_)
        ·
         -- yes
         have h43 := beq_iff_eq.1 h43
         refine TO.fieldAddr fl_90_1 rfl (by decide) rfl (show _ = 1 from rfl) (TO.load (k := 1) sc_21 rfl (by decide) rfl rfl rfl (TO.bin rfl (by decide) rfl rfl bin_eql (TO.pick (b := true) rfl (by decide) rfl rfl (TO.nil (TX.next ?_)))))
         refine TC.condB rfl (fun h44 => ?_) (fun h44 => ?_)
         ·
          -- yes
          have h44 := beq_iff_eq.1 h44
          refine TC.seq (TC.region (TO.move rfl (by decide) rfl (TO.nilCheck rfl (by decide) rfl (TO.fieldAddr fl_92_0 rfl (by decide) rfl (show _ = 0 from rfl) ?_))))
          refine TO.store (k := 0) (l' := [.int .i64 7, .int .i64 s.tk.k, .int .i64 (s.tk.f : Int), .int .i64 (s.tk.t : Int), .int .i64 s.h.k, .int .i32 (s.h.r : Int), .int .i64 (s.h.f : Int), .int .i64 (s.h.t : Int), .bool s.h.al]) sz_3 rfl rfl rfl rfl rfl (fun _ _ => rfl) rfl ?_
          refine TO.nil (TX.next (TC.seq (TC.region (TO.assign rfl (by decide) rfl (TO.nil (TX.next (TC.ret (TX.blockRet (TX.thenRet ?_)))))))))
          have hfit : fits s.st u = (7, 1) := by unfold fits; simp_all <;> omega
          have hB : [.int .i64 7, .int .i64 s.tk.k, .int .i64 (s.tk.f : Int), .int .i64 (s.tk.t : Int), .int .i64 s.h.k, .int .i32 (s.h.r : Int), .int .i64 (s.h.f : Int), .int .i64 (s.h.t : Int), .bool s.h.al] = scV (fitted s u) := by unfold fitted; rw [hfit]; rfl
          refine TX.rewE (k := 0) rfl (show cells b [.int .i64 7, .int .i64 s.tk.k, .int .i64 (s.tk.f : Int), .int .i64 (s.tk.t : Int), .int .i64 s.h.k, .int .i32 (s.h.r : Int), .int .i64 (s.h.f : Int), .int .i64 (s.h.t : Int), .bool s.h.al] 92 = cells b (scV (fitted s u)) 92 from (congrArg (fun z => cells b z 92) hB)) ?_
          show TX _ _ _ _ _ _ _ [cells b (scV (fitted s u)) 92, cells b1 [.int .i64 u.k, .int .i32 (u.r : Int), .int .i64 (u.f : Int), .int .i64 (u.t : Int), .bool u.al] 90]
          exact TX.fin (rs := [.tmp 4]) () (.inl rfl) Try.results62 (.cons (.tmp rfl) .nil) (by rw [hfit]; rfl) (Splits.of [0] (by as_aux_lemma => kernel_rfl) rfl)
         ·
          -- no
          have h44 := beq_eq_false_iff_ne.1 h44
          refine TC.skip (TX.blockNormal (TX.next (TC.seq (TC.region (TO.assign rfl (by decide) rfl (TO.nil (TX.next (TC.ret ?_))))))))
          have hfit : fits s.st u = (s.st, 0) := by unfold fits; simp_all <;> omega
          have hB : [.int .i64 s.st, .int .i64 s.tk.k, .int .i64 (s.tk.f : Int), .int .i64 (s.tk.t : Int), .int .i64 s.h.k, .int .i32 (s.h.r : Int), .int .i64 (s.h.f : Int), .int .i64 (s.h.t : Int), .bool s.h.al] = scV (fitted s u) := by unfold fitted; rw [hfit]; rfl
          refine TX.rewE (k := 0) rfl (show cells b [.int .i64 s.st, .int .i64 s.tk.k, .int .i64 (s.tk.f : Int), .int .i64 (s.tk.t : Int), .int .i64 s.h.k, .int .i32 (s.h.r : Int), .int .i64 (s.h.f : Int), .int .i64 (s.h.t : Int), .bool s.h.al] 92 = cells b (scV (fitted s u)) 92 from (congrArg (fun z => cells b z 92) hB)) ?_
          show TX _ _ _ _ _ _ _ [cells b (scV (fitted s u)) 92, cells b1 [.int .i64 u.k, .int .i32 (u.r : Int), .int .i64 (u.f : Int), .int .i64 (u.t : Int), .bool u.al] 90]
          exact TX.fin (rs := [.tmp 4]) () (.inl rfl) Try.results62 (.cons (.tmp rfl) .nil) (by rw [hfit]; rfl) (Splits.of [0] (by as_aux_lemma => kernel_rfl) rfl)
        ·
         -- no
         have h43 := beq_eq_false_iff_ne.1 h43
         refine TO.skip rfl (by decide) (TO.skip rfl (by decide) (TO.skip rfl (by decide) (TO.pick (b := false) rfl (by decide) rfl rfl (TO.nil (TX.next (TC.condF rfl (TC.skip (TX.blockNormal (TX.next (TC.seq (TC.region (TO.assign rfl (by decide) rfl (TO.nil ?_)))))))))))))
         refine TX.next (TC.ret ?_)
         have hfit : fits s.st u = (s.st, 0) := by unfold fits; simp_all <;> omega
         have hB : [.int .i64 s.st, .int .i64 s.tk.k, .int .i64 (s.tk.f : Int), .int .i64 (s.tk.t : Int), .int .i64 s.h.k, .int .i32 (s.h.r : Int), .int .i64 (s.h.f : Int), .int .i64 (s.h.t : Int), .bool s.h.al] = scV (fitted s u) := by unfold fitted; rw [hfit]; rfl
         refine TX.rewE (k := 0) rfl (show cells b [.int .i64 s.st, .int .i64 s.tk.k, .int .i64 (s.tk.f : Int), .int .i64 (s.tk.t : Int), .int .i64 s.h.k, .int .i32 (s.h.r : Int), .int .i64 (s.h.f : Int), .int .i64 (s.h.t : Int), .bool s.h.al] 92 = cells b (scV (fitted s u)) 92 from (congrArg (fun z => cells b z 92) hB)) ?_
         show TX _ _ _ _ _ _ _ [cells b (scV (fitted s u)) 92, cells b1 [.int .i64 u.k, .int .i32 (u.r : Int), .int .i64 (u.f : Int), .int .i64 (u.t : Int), .bool u.al] 90]
         exact TX.fin (rs := [.tmp 4]) () (.inl rfl) Try.results62 (.cons (.tmp rfl) .nil) (by rw [hfit]; rfl) (Splits.of [0] (by as_aux_lemma => kernel_rfl) rfl)
       ·
        -- no
        have h42 := beq_eq_false_iff_ne.1 h42
        refine TC.skip (TX.blockNormal (TX.next (TC.seq (TC.region (TO.assign rfl (by decide) rfl (TO.nil (TX.next (TC.ret ?_))))))))
        have hfit : fits s.st u = (s.st, 0) := by unfold fits; simp_all <;> omega
        have hB : [.int .i64 s.st, .int .i64 s.tk.k, .int .i64 (s.tk.f : Int), .int .i64 (s.tk.t : Int), .int .i64 s.h.k, .int .i32 (s.h.r : Int), .int .i64 (s.h.f : Int), .int .i64 (s.h.t : Int), .bool s.h.al] = scV (fitted s u) := by unfold fitted; rw [hfit]; rfl
        refine TX.rewE (k := 0) rfl (show cells b [.int .i64 s.st, .int .i64 s.tk.k, .int .i64 (s.tk.f : Int), .int .i64 (s.tk.t : Int), .int .i64 s.h.k, .int .i32 (s.h.r : Int), .int .i64 (s.h.f : Int), .int .i64 (s.h.t : Int), .bool s.h.al] 92 = cells b (scV (fitted s u)) 92 from (congrArg (fun z => cells b z 92) hB)) ?_
        show TX _ _ _ _ _ _ _ [cells b (scV (fitted s u)) 92, cells b1 [.int .i64 u.k, .int .i32 (u.r : Int), .int .i64 (u.f : Int), .int .i64 (u.t : Int), .bool u.al] 90]
        exact TX.fin (rs := [.tmp 4]) () (.inl rfl) Try.results62 (.cons (.tmp rfl) .nil) (by rw [hfit]; rfl) (Splits.of [0] (by as_aux_lemma => kernel_rfl) rfl)
   ·
    -- no
    have h33 := beq_eq_false_iff_ne.1 h33
    refine TC.region (TO.bin rfl (by decide) rfl rfl bin_eql (TO.assign rfl (by decide) rfl (TO.nil (TX.next ?_))))
    refine TC.condB rfl (fun h45 => ?_) (fun h45 => ?_)
    ·
     -- yes
     have h45 := beq_iff_eq.1 h45
     refine TC.seq (TC.seq (TC.region (TO.move rfl (by decide) rfl (TO.bin rfl (by decide) rfl rfl bin_eql (TO.nil (TX.next ?_))))))
     refine TC.condB rfl (fun h46 => ?_) (fun h46 => ?_)
     ·
      -- yes
      have h46 := beq_iff_eq.1 h46
      refine TC.seq (TC.region (TO.move rfl (by decide) rfl (TO.nilCheck rfl (by decide) rfl (TO.fieldAddr fl_92_0 rfl (by decide) rfl (show _ = 0 from rfl) ?_))))
      refine TO.store (k := 0) (l' := [.int .i64 3, .int .i64 s.tk.k, .int .i64 (s.tk.f : Int), .int .i64 (s.tk.t : Int), .int .i64 s.h.k, .int .i32 (s.h.r : Int), .int .i64 (s.h.f : Int), .int .i64 (s.h.t : Int), .bool s.h.al]) sz_3 rfl rfl rfl rfl rfl (fun _ _ => rfl) rfl ?_
      refine TO.nil (TX.next (TC.seq (TC.region (TO.assign rfl (by decide) rfl (TO.nil (TX.next (TC.ret (TX.thenRet (TX.blockRet (TX.thenRet ?_))))))))))
      have hfit : fits s.st u = (3, 1) := by unfold fits; simp_all <;> omega
      have hB : [.int .i64 3, .int .i64 s.tk.k, .int .i64 (s.tk.f : Int), .int .i64 (s.tk.t : Int), .int .i64 s.h.k, .int .i32 (s.h.r : Int), .int .i64 (s.h.f : Int), .int .i64 (s.h.t : Int), .bool s.h.al] = scV (fitted s u) := by unfold fitted; rw [hfit]; rfl
      refine TX.rewE (k := 0) rfl (show cells b [.int .i64 3, .int .i64 s.tk.k, .int .i64 (s.tk.f : Int), .int .i64 (s.tk.t : Int), .int .i64 s.h.k, .int .i32 (s.h.r : Int), .int .i64 (s.h.f : Int), .int .i64 (s.h.t : Int), .bool s.h.al] 92 = cells b (scV (fitted s u)) 92 from (congrArg (fun z => cells b z 92) hB)) ?_
      show TX _ _ _ _ _ _ _ [cells b (scV (fitted s u)) 92, cells b1 [.int .i64 u.k, .int .i32 (u.r : Int), .int .i64 (u.f : Int), .int .i64 (u.t : Int), .bool u.al] 90]
      exact TX.fin (rs := [.tmp 4]) () (.inl rfl) Try.results62 (.cons (.tmp rfl) .nil) (by rw [hfit]; rfl) (Splits.of [0] (by as_aux_lemma => kernel_rfl) rfl)
     ·
      -- no
      have h46 := beq_eq_false_iff_ne.1 h46
      refine TC.skip (TX.next (TC.seq (TC.region (TO.move rfl (by decide) rfl (TO.nilCheck rfl (by decide) rfl (TO.fieldAddr fl_92_0 rfl (by decide) rfl (show _ = 0 from rfl) (TO.load (k := 0) sc_3 rfl (by decide) rfl rfl rfl (TO.bin rfl (by decide) rfl rfl bin_eql (TO.move rfl (by decide) rfl ?_)))))))))
      refine TO.split (s := 49) rfl (fun h47 => ?_) (fun h47 => ?_)
      ·
       -- yes
       have h47 := beq_iff_eq.1 h47
       refine TO.loads (k := 1) (cs := [.int .i64 u.k, .int .i32 (u.r : Int), .int .i64 (u.f : Int), .int .i64 (u.t : Int), .bool u.al]) rw_90 rfl (by decide) rfl rfl rfl rfl (TO.callP (v := .bool (dot u)) (vs := [.agg #[.int .i64 u.k, .int .i32 (u.r : Int), .int .i64 (u.f : Int), .int .i64 (u.t : Int), .bool u.al]]) rfl (by decide) rfl rfl rfl en_85 (dot_p u) (TO.pick (b := true) rfl (by decide) rfl rfl (TO.nil (TX.next ?_))))
       refine TC.condB rfl (fun h48 => ?_) (fun h48 => ?_)
       ·
        -- yes
        refine TC.seq ?_
        refine TC.drawB (β := Unit) 6 5 _ [(0, 53, .pointer (some ⟨b, 0, none⟩)), (1, 54, .pointer (some ⟨b, 0, none⟩)), (2, 55, .agg #[.int .i64 u.k, .int .i32 (u.r : Int), .int .i64 (u.f : Int), .int .i64 (u.t : Int), .bool u.al]), (3, 56, .pointer (some ⟨b, 0, none⟩)), (4, 57, .pointer (some ⟨b, 0, none⟩))] (fun _b => []) (fun _b => [cells b [.int .i64 4, .int .i64 s.tk.k, .int .i64 (s.tk.f : Int), .int .i64 (s.tk.t : Int), .int .i64 s.h.k, .int .i32 (s.h.r : Int), .int .i64 (s.h.f : Int), .int .i64 (s.h.t : Int), .bool s.h.al] 92, cells b1 [.int .i64 u.k, .int .i32 (u.r : Int), .int .i64 (u.f : Int), .int .i64 (u.t : Int), .bool u.al] 90]) mixed (by as_aux_lemma => kernel_rfl) (by as_aux_lemma => kernel_rfl) rfl (by decide) (by decide) (by rfl) (by as_aux_lemma => kernel_rfl) (by as_aux_lemma => kernel_rfl) (DrawPreX.cons ?_ (DrawPreX.cons ?_ (DrawPreX.cons ?_ (DrawPreX.cons ?_ (DrawPreX.cons ?_ (DrawPreX.here DrawPreX.nil)))))) (fun _b => (DrawPreX.cons ?_ (DrawPreX.cons ?_ (DrawPreX.cons ?_ (DrawPreX.cons ?_ (DrawPreX.cons ?_ (DrawPreX.here DrawPreX.nil))))))) ?_ ?_
        ·
         intro D hn hd hcl hu hi
         refine TO.move rfl (by decide) (dl_old (by rfl) rfl) ?_
         exact TX.quiet 0 hu hi rfl
        ·
         intro D hn hd hcl hu hi
         refine TO.move rfl (by decide) (dl_old (by rfl) rfl) ?_
         exact TX.quiet 1 hu hi rfl
        ·
         intro D hn hd hcl hu hi
         refine TO.loads (k := 1) (cs := [.int .i64 u.k, .int .i32 (u.r : Int), .int .i64 (u.f : Int), .int .i64 (u.t : Int), .bool u.al]) rw_90 rfl (by decide) (dl_old (by rfl) rfl) rfl rfl rfl ?_
         exact TX.quiet 2 hu hi rfl
        ·
         intro D hn hd hcl hu hi
         refine TO.nilCheck rfl (by decide) (dl_lookup (m := 0) hu rfl (hd 0 (by decide))) ?_
         exact TX.quiet 3 hu hi rfl
        ·
         intro D hn hd hcl hu hi
         refine TO.fieldAddr fl_92_0 rfl (by decide) (dl_lookup (m := 3) hu rfl (hd 3 (by decide))) (show _ = 0 from rfl) ?_
         exact TX.quiet 4 hu hi rfl
        ·
         intro D hn hd hcl hu hi
         refine TO.move rfl (by decide) (dl_old (by rfl) rfl) ?_
         exact TX.quiet 0 hu hi rfl
        ·
         intro D hn hd hcl hu hi
         refine TO.move rfl (by decide) (dl_old (by rfl) rfl) ?_
         exact TX.quiet 1 hu hi rfl
        ·
         intro D hn hd hcl hu hi
         refine TO.loads (k := 1) (cs := [.int .i64 u.k, .int .i32 (u.r : Int), .int .i64 (u.f : Int), .int .i64 (u.t : Int), .bool u.al]) rw_90 rfl (by decide) (dl_old (by rfl) rfl) rfl rfl rfl ?_
         exact TX.quiet 2 hu hi rfl
        ·
         intro D hn hd hcl hu hi
         refine TO.nilCheck rfl (by decide) (dl_lookup (m := 0) hu rfl (hd 0 (by decide))) ?_
         exact TX.quiet 3 hu hi rfl
        ·
         intro D hn hd hcl hu hi
         refine TO.fieldAddr fl_92_0 rfl (by decide) (dl_lookup (m := 3) hu rfl (hd 3 (by decide))) (show _ = 0 from rfl) ?_
         exact TX.quiet 4 hu hi rfl
        ·
         intro D hn hd hcl
         refine TO.store (k := 0) (l' := [.int .i64 4, .int .i64 s.tk.k, .int .i64 (s.tk.f : Int), .int .i64 (s.tk.t : Int), .int .i64 s.h.k, .int .i32 (s.h.r : Int), .int .i64 (s.h.f : Int), .int .i64 (s.h.t : Int), .bool s.h.al]) sz_3 rfl (dl_lookup (m := 4) (by as_aux_lemma => kernel_rfl) rfl (hd 4 (by decide))) rfl rfl rfl (fun _ _ => rfl) rfl ?_
         exact fun a w ha hw => ⟨(), ha, hw⟩
        intro _b
        show TO _ _ _ _ _ _ _ _ _ _ [cells b [.int .i64 4, .int .i64 s.tk.k, .int .i64 (s.tk.f : Int), .int .i64 (s.tk.t : Int), .int .i64 s.h.k, .int .i32 (s.h.r : Int), .int .i64 (s.h.f : Int), .int .i64 (s.h.t : Int), .bool s.h.al] 92, cells b1 [.int .i64 u.k, .int .i32 (u.r : Int), .int .i64 (u.f : Int), .int .i64 (u.t : Int), .bool u.al] 90]
        refine TO.nilCheck rfl (by decide) rfl (TO.fieldAddr fl_92_2 rfl (by decide) rfl (show _ = 4 from rfl) (TO.stores (k := 0) (vs := [.int .i64 u.k, .int .i32 (u.r : Int), .int .i64 (u.f : Int), .int .i64 (u.t : Int), .bool u.al]) (l' := [.int .i64 4, .int .i64 s.tk.k, .int .i64 (s.tk.f : Int), .int .i64 (s.tk.t : Int), .int .i64 u.k, .int .i32 (u.r : Int), .int .i64 (u.f : Int), .int .i64 (u.t : Int), .bool u.al]) sz_90 rfl rfl rfl rfl rfl (show _ ≤ _ by simp) rfl rfl (TO.nil (TX.next (TC.seq (TC.region (TO.assign rfl (by decide) rfl (TO.nil (TX.next (TC.ret (TX.blockRet (TX.thenRet ?_))))))))))))
        have hfit : fits s.st u = (4, 2) := by unfold fits; simp_all <;> omega
        have hB : [.int .i64 4, .int .i64 s.tk.k, .int .i64 (s.tk.f : Int), .int .i64 (s.tk.t : Int), .int .i64 u.k, .int .i32 (u.r : Int), .int .i64 (u.f : Int), .int .i64 (u.t : Int), .bool u.al] = scV (fitted s u) := by unfold fitted; rw [hfit]; rfl
        refine TX.rewE (k := 0) rfl (show cells b [.int .i64 4, .int .i64 s.tk.k, .int .i64 (s.tk.f : Int), .int .i64 (s.tk.t : Int), .int .i64 u.k, .int .i32 (u.r : Int), .int .i64 (u.f : Int), .int .i64 (u.t : Int), .bool u.al] 92 = cells b (scV (fitted s u)) 92 from (congrArg (fun z => cells b z 92) hB)) ?_
        show TX _ _ _ _ _ _ _ [cells b (scV (fitted s u)) 92, cells b1 [.int .i64 u.k, .int .i32 (u.r : Int), .int .i64 (u.f : Int), .int .i64 (u.t : Int), .bool u.al] 90]
        exact TX.fin (rs := [.tmp 4]) () (.inl rfl) Try.results62 (.cons (.tmp rfl) .nil) (by rw [hfit]; rfl) (Splits.of [0] (by as_aux_lemma => kernel_rfl) rfl)
       ·
        -- no
        refine TC.skip (TX.blockNormal (TX.next (TC.seq (TC.region (TO.assign rfl (by decide) rfl (TO.nil (TX.next (TC.ret ?_))))))))
        have hfit : fits s.st u = (s.st, 0) := by unfold fits; simp_all <;> omega
        have hB : [.int .i64 s.st, .int .i64 s.tk.k, .int .i64 (s.tk.f : Int), .int .i64 (s.tk.t : Int), .int .i64 s.h.k, .int .i32 (s.h.r : Int), .int .i64 (s.h.f : Int), .int .i64 (s.h.t : Int), .bool s.h.al] = scV (fitted s u) := by unfold fitted; rw [hfit]; rfl
        refine TX.rewE (k := 0) rfl (show cells b [.int .i64 s.st, .int .i64 s.tk.k, .int .i64 (s.tk.f : Int), .int .i64 (s.tk.t : Int), .int .i64 s.h.k, .int .i32 (s.h.r : Int), .int .i64 (s.h.f : Int), .int .i64 (s.h.t : Int), .bool s.h.al] 92 = cells b (scV (fitted s u)) 92 from (congrArg (fun z => cells b z 92) hB)) ?_
        show TX _ _ _ _ _ _ _ [cells b (scV (fitted s u)) 92, cells b1 [.int .i64 u.k, .int .i32 (u.r : Int), .int .i64 (u.f : Int), .int .i64 (u.t : Int), .bool u.al] 90]
        exact TX.fin (rs := [.tmp 4]) () (.inl rfl) Try.results62 (.cons (.tmp rfl) .nil) (by rw [hfit]; rfl) (Splits.of [0] (by as_aux_lemma => kernel_rfl) rfl)
      ·
       -- no
       have h47 := beq_eq_false_iff_ne.1 h47
       refine TO.skip rfl (by decide) (TO.skip rfl (by decide) (TO.pick (b := false) rfl (by decide) rfl rfl (TO.nil (TX.next (TC.condF rfl (TC.skip (TX.blockNormal (TX.next (TC.seq (TC.region (TO.assign rfl (by decide) rfl (TO.nil (TX.next ?_)))))))))))))
       refine TC.ret ?_
       have hfit : fits s.st u = (s.st, 0) := by unfold fits; simp_all <;> omega
       have hB : [.int .i64 s.st, .int .i64 s.tk.k, .int .i64 (s.tk.f : Int), .int .i64 (s.tk.t : Int), .int .i64 s.h.k, .int .i32 (s.h.r : Int), .int .i64 (s.h.f : Int), .int .i64 (s.h.t : Int), .bool s.h.al] = scV (fitted s u) := by unfold fitted; rw [hfit]; rfl
       refine TX.rewE (k := 0) rfl (show cells b [.int .i64 s.st, .int .i64 s.tk.k, .int .i64 (s.tk.f : Int), .int .i64 (s.tk.t : Int), .int .i64 s.h.k, .int .i32 (s.h.r : Int), .int .i64 (s.h.f : Int), .int .i64 (s.h.t : Int), .bool s.h.al] 92 = cells b (scV (fitted s u)) 92 from (congrArg (fun z => cells b z 92) hB)) ?_
       show TX _ _ _ _ _ _ _ [cells b (scV (fitted s u)) 92, cells b1 [.int .i64 u.k, .int .i32 (u.r : Int), .int .i64 (u.f : Int), .int .i64 (u.t : Int), .bool u.al] 90]
       exact TX.fin (rs := [.tmp 4]) () (.inl rfl) Try.results62 (.cons (.tmp rfl) .nil) (by rw [hfit]; rfl) (Splits.of [0] (by as_aux_lemma => kernel_rfl) rfl)
    ·
     -- no
     have h45 := beq_eq_false_iff_ne.1 h45
     refine TC.seq (TC.region (TO.bin rfl (by decide) rfl rfl bin_eql (TO.assign rfl (by decide) rfl (TO.nil (TX.next ?_)))))
     refine TC.condB rfl (fun h49 => ?_) (fun h49 => ?_)
     ·
      -- yes
      have h49 := beq_iff_eq.1 h49
      refine TC.seq (TC.region (TO.move rfl (by decide) rfl (TO.bin rfl (by decide) rfl rfl bin_eql (TO.nil (TX.next ?_)))))
      refine TC.condB rfl (fun h50 => ?_) (fun h50 => ?_)
      ·
       -- yes
       have h50 := beq_iff_eq.1 h50
       refine TC.seq (TC.region (TO.assign rfl (by decide) rfl (TO.nil (TX.next (TC.ret (TX.blockRet (TX.thenRet ?_)))))))
       have hfit : fits s.st u = (s.st, 1) := by unfold fits; simp_all <;> omega
       have hB : [.int .i64 s.st, .int .i64 s.tk.k, .int .i64 (s.tk.f : Int), .int .i64 (s.tk.t : Int), .int .i64 s.h.k, .int .i32 (s.h.r : Int), .int .i64 (s.h.f : Int), .int .i64 (s.h.t : Int), .bool s.h.al] = scV (fitted s u) := by unfold fitted; rw [hfit]; rfl
       refine TX.rewE (k := 0) rfl (show cells b [.int .i64 s.st, .int .i64 s.tk.k, .int .i64 (s.tk.f : Int), .int .i64 (s.tk.t : Int), .int .i64 s.h.k, .int .i32 (s.h.r : Int), .int .i64 (s.h.f : Int), .int .i64 (s.h.t : Int), .bool s.h.al] 92 = cells b (scV (fitted s u)) 92 from (congrArg (fun z => cells b z 92) hB)) ?_
       show TX _ _ _ _ _ _ _ [cells b (scV (fitted s u)) 92, cells b1 [.int .i64 u.k, .int .i32 (u.r : Int), .int .i64 (u.f : Int), .int .i64 (u.t : Int), .bool u.al] 90]
       exact TX.fin (rs := [.tmp 4]) () (.inl rfl) Try.results62 (.cons (.tmp rfl) .nil) (by rw [hfit]; rfl) (Splits.of [0] (by as_aux_lemma => kernel_rfl) rfl)
      ·
       -- no
       have h50 := beq_eq_false_iff_ne.1 h50
       refine TC.skip (TX.blockNormal (TX.next (TC.seq (TC.region (TO.assign rfl (by decide) rfl (TO.nil (TX.next (TC.ret ?_))))))))
       have hfit : fits s.st u = (s.st, 0) := by unfold fits; simp_all <;> omega
       have hB : [.int .i64 s.st, .int .i64 s.tk.k, .int .i64 (s.tk.f : Int), .int .i64 (s.tk.t : Int), .int .i64 s.h.k, .int .i32 (s.h.r : Int), .int .i64 (s.h.f : Int), .int .i64 (s.h.t : Int), .bool s.h.al] = scV (fitted s u) := by unfold fitted; rw [hfit]; rfl
       refine TX.rewE (k := 0) rfl (show cells b [.int .i64 s.st, .int .i64 s.tk.k, .int .i64 (s.tk.f : Int), .int .i64 (s.tk.t : Int), .int .i64 s.h.k, .int .i32 (s.h.r : Int), .int .i64 (s.h.f : Int), .int .i64 (s.h.t : Int), .bool s.h.al] 92 = cells b (scV (fitted s u)) 92 from (congrArg (fun z => cells b z 92) hB)) ?_
       show TX _ _ _ _ _ _ _ [cells b (scV (fitted s u)) 92, cells b1 [.int .i64 u.k, .int .i32 (u.r : Int), .int .i64 (u.f : Int), .int .i64 (u.t : Int), .bool u.al] 90]
       exact TX.fin (rs := [.tmp 4]) () (.inl rfl) Try.results62 (.cons (.tmp rfl) .nil) (by rw [hfit]; rfl) (Splits.of [0] (by as_aux_lemma => kernel_rfl) rfl)
     ·
      -- no
      have h49 := beq_eq_false_iff_ne.1 h49
      refine TC.seq (TC.region (TO.bin rfl (by decide) rfl rfl bin_eql (TO.assign rfl (by decide) rfl (TO.nil (TX.next ?_)))))
      refine TC.condB rfl (fun h51 => ?_) (fun h51 => ?_)
      ·
       -- yes
       have h51 := beq_iff_eq.1 h51
       refine TC.seq (TC.region (TO.move rfl (by decide) rfl (TO.bin rfl (by decide) rfl rfl bin_eql (TO.nil (TX.next ?_)))))
       refine TC.condB rfl (fun h52 => ?_) (fun h52 => ?_)
       ·
        -- yes
        have h52 := beq_iff_eq.1 h52
        refine TC.seq (TC.region (TO.assign rfl (by decide) rfl (TO.nil (TX.next (TC.ret (TX.blockRet (TX.thenRet ?_)))))))
        have hfit : fits s.st u = (s.st, 1) := by unfold fits; simp_all <;> omega
        have hB : [.int .i64 s.st, .int .i64 s.tk.k, .int .i64 (s.tk.f : Int), .int .i64 (s.tk.t : Int), .int .i64 s.h.k, .int .i32 (s.h.r : Int), .int .i64 (s.h.f : Int), .int .i64 (s.h.t : Int), .bool s.h.al] = scV (fitted s u) := by unfold fitted; rw [hfit]; rfl
        refine TX.rewE (k := 0) rfl (show cells b [.int .i64 s.st, .int .i64 s.tk.k, .int .i64 (s.tk.f : Int), .int .i64 (s.tk.t : Int), .int .i64 s.h.k, .int .i32 (s.h.r : Int), .int .i64 (s.h.f : Int), .int .i64 (s.h.t : Int), .bool s.h.al] 92 = cells b (scV (fitted s u)) 92 from (congrArg (fun z => cells b z 92) hB)) ?_
        show TX _ _ _ _ _ _ _ [cells b (scV (fitted s u)) 92, cells b1 [.int .i64 u.k, .int .i32 (u.r : Int), .int .i64 (u.f : Int), .int .i64 (u.t : Int), .bool u.al] 90]
        exact TX.fin (rs := [.tmp 4]) () (.inl rfl) Try.results62 (.cons (.tmp rfl) .nil) (by rw [hfit]; rfl) (Splits.of [0] (by as_aux_lemma => kernel_rfl) rfl)
       ·
        -- no
        have h52 := beq_eq_false_iff_ne.1 h52
        refine TC.skip (TX.blockNormal (TX.next (TC.seq (TC.region (TO.assign rfl (by decide) rfl (TO.nil (TX.next (TC.ret ?_))))))))
        have hfit : fits s.st u = (s.st, 0) := by unfold fits; simp_all <;> omega
        have hB : [.int .i64 s.st, .int .i64 s.tk.k, .int .i64 (s.tk.f : Int), .int .i64 (s.tk.t : Int), .int .i64 s.h.k, .int .i32 (s.h.r : Int), .int .i64 (s.h.f : Int), .int .i64 (s.h.t : Int), .bool s.h.al] = scV (fitted s u) := by unfold fitted; rw [hfit]; rfl
        refine TX.rewE (k := 0) rfl (show cells b [.int .i64 s.st, .int .i64 s.tk.k, .int .i64 (s.tk.f : Int), .int .i64 (s.tk.t : Int), .int .i64 s.h.k, .int .i32 (s.h.r : Int), .int .i64 (s.h.f : Int), .int .i64 (s.h.t : Int), .bool s.h.al] 92 = cells b (scV (fitted s u)) 92 from (congrArg (fun z => cells b z 92) hB)) ?_
        show TX _ _ _ _ _ _ _ [cells b (scV (fitted s u)) 92, cells b1 [.int .i64 u.k, .int .i32 (u.r : Int), .int .i64 (u.f : Int), .int .i64 (u.t : Int), .bool u.al] 90]
        exact TX.fin (rs := [.tmp 4]) () (.inl rfl) Try.results62 (.cons (.tmp rfl) .nil) (by rw [hfit]; rfl) (Splits.of [0] (by as_aux_lemma => kernel_rfl) rfl)
      ·
       -- no
       have h51 := beq_eq_false_iff_ne.1 h51
       refine TC.seq (TC.region (TO.bin rfl (by decide) rfl rfl bin_eql (TO.assign rfl (by decide) rfl (TO.nil (TX.next ?_)))))
       refine TC.condB rfl (fun h53 => ?_) (fun h53 => ?_)
       ·
        -- yes
        have h53 := beq_iff_eq.1 h53
        refine TC.seq (TC.region (TO.move rfl (by decide) rfl (TO.bin rfl (by decide) rfl rfl bin_eql (TO.move rfl (by decide) rfl ?_))))
        refine TO.split (s := 72) rfl (fun h54 => ?_) (fun h54 => ?_)
        ·
         -- yes
         have h54 := beq_iff_eq.1 h54
         refine TO.fieldAddr fl_90_1 rfl (by decide) rfl (show _ = 1 from rfl) (TO.load (k := 1) sc_21 rfl (by decide) rfl rfl rfl (TO.bin rfl (by decide) rfl rfl bin_eql (TO.pick (b := true) rfl (by decide) rfl rfl (TO.nil (TX.next ?_)))))
         refine TC.condB rfl (fun h55 => ?_) (fun h55 => ?_)
         ·
          -- yes
          have h55 := beq_iff_eq.1 h55
          refine TC.seq (TC.region (TO.move rfl (by decide) rfl (TO.nilCheck rfl (by decide) rfl (TO.fieldAddr fl_92_0 rfl (by decide) rfl (show _ = 0 from rfl) ?_))))
          refine TO.store (k := 0) (l' := [.int .i64 7, .int .i64 s.tk.k, .int .i64 (s.tk.f : Int), .int .i64 (s.tk.t : Int), .int .i64 s.h.k, .int .i32 (s.h.r : Int), .int .i64 (s.h.f : Int), .int .i64 (s.h.t : Int), .bool s.h.al]) sz_3 rfl rfl rfl rfl rfl (fun _ _ => rfl) rfl ?_
          refine TO.nil (TX.next (TC.seq (TC.region (TO.assign rfl (by decide) rfl (TO.nil (TX.next (TC.ret (TX.blockRet (TX.thenRet ?_)))))))))
          have hfit : fits s.st u = (7, 1) := by unfold fits; simp_all <;> omega
          have hB : [.int .i64 7, .int .i64 s.tk.k, .int .i64 (s.tk.f : Int), .int .i64 (s.tk.t : Int), .int .i64 s.h.k, .int .i32 (s.h.r : Int), .int .i64 (s.h.f : Int), .int .i64 (s.h.t : Int), .bool s.h.al] = scV (fitted s u) := by unfold fitted; rw [hfit]; rfl
          refine TX.rewE (k := 0) rfl (show cells b [.int .i64 7, .int .i64 s.tk.k, .int .i64 (s.tk.f : Int), .int .i64 (s.tk.t : Int), .int .i64 s.h.k, .int .i32 (s.h.r : Int), .int .i64 (s.h.f : Int), .int .i64 (s.h.t : Int), .bool s.h.al] 92 = cells b (scV (fitted s u)) 92 from (congrArg (fun z => cells b z 92) hB)) ?_
          show TX _ _ _ _ _ _ _ [cells b (scV (fitted s u)) 92, cells b1 [.int .i64 u.k, .int .i32 (u.r : Int), .int .i64 (u.f : Int), .int .i64 (u.t : Int), .bool u.al] 90]
          exact TX.fin (rs := [.tmp 4]) () (.inl rfl) Try.results62 (.cons (.tmp rfl) .nil) (by rw [hfit]; rfl) (Splits.of [0] (by as_aux_lemma => kernel_rfl) rfl)
         ·
          -- no
          have h55 := beq_eq_false_iff_ne.1 h55
          refine TC.skip (TX.blockNormal (TX.next (TC.seq (TC.region (TO.assign rfl (by decide) rfl (TO.nil (TX.next (TC.ret ?_))))))))
          have hfit : fits s.st u = (s.st, 0) := by unfold fits; simp_all <;> omega
          have hB : [.int .i64 s.st, .int .i64 s.tk.k, .int .i64 (s.tk.f : Int), .int .i64 (s.tk.t : Int), .int .i64 s.h.k, .int .i32 (s.h.r : Int), .int .i64 (s.h.f : Int), .int .i64 (s.h.t : Int), .bool s.h.al] = scV (fitted s u) := by unfold fitted; rw [hfit]; rfl
          refine TX.rewE (k := 0) rfl (show cells b [.int .i64 s.st, .int .i64 s.tk.k, .int .i64 (s.tk.f : Int), .int .i64 (s.tk.t : Int), .int .i64 s.h.k, .int .i32 (s.h.r : Int), .int .i64 (s.h.f : Int), .int .i64 (s.h.t : Int), .bool s.h.al] 92 = cells b (scV (fitted s u)) 92 from (congrArg (fun z => cells b z 92) hB)) ?_
          show TX _ _ _ _ _ _ _ [cells b (scV (fitted s u)) 92, cells b1 [.int .i64 u.k, .int .i32 (u.r : Int), .int .i64 (u.f : Int), .int .i64 (u.t : Int), .bool u.al] 90]
          exact TX.fin (rs := [.tmp 4]) () (.inl rfl) Try.results62 (.cons (.tmp rfl) .nil) (by rw [hfit]; rfl) (Splits.of [0] (by as_aux_lemma => kernel_rfl) rfl)
        ·
         -- no
         have h54 := beq_eq_false_iff_ne.1 h54
         refine TO.skip rfl (by decide) (TO.skip rfl (by decide) (TO.skip rfl (by decide) (TO.pick (b := false) rfl (by decide) rfl rfl (TO.nil (TX.next (TC.condF rfl (TC.skip (TX.blockNormal (TX.next (TC.seq (TC.region (TO.assign rfl (by decide) rfl (TO.nil ?_)))))))))))))
         refine TX.next (TC.ret ?_)
         have hfit : fits s.st u = (s.st, 0) := by unfold fits; simp_all <;> omega
         have hB : [.int .i64 s.st, .int .i64 s.tk.k, .int .i64 (s.tk.f : Int), .int .i64 (s.tk.t : Int), .int .i64 s.h.k, .int .i32 (s.h.r : Int), .int .i64 (s.h.f : Int), .int .i64 (s.h.t : Int), .bool s.h.al] = scV (fitted s u) := by unfold fitted; rw [hfit]; rfl
         refine TX.rewE (k := 0) rfl (show cells b [.int .i64 s.st, .int .i64 s.tk.k, .int .i64 (s.tk.f : Int), .int .i64 (s.tk.t : Int), .int .i64 s.h.k, .int .i32 (s.h.r : Int), .int .i64 (s.h.f : Int), .int .i64 (s.h.t : Int), .bool s.h.al] 92 = cells b (scV (fitted s u)) 92 from (congrArg (fun z => cells b z 92) hB)) ?_
         show TX _ _ _ _ _ _ _ [cells b (scV (fitted s u)) 92, cells b1 [.int .i64 u.k, .int .i32 (u.r : Int), .int .i64 (u.f : Int), .int .i64 (u.t : Int), .bool u.al] 90]
         exact TX.fin (rs := [.tmp 4]) () (.inl rfl) Try.results62 (.cons (.tmp rfl) .nil) (by rw [hfit]; rfl) (Splits.of [0] (by as_aux_lemma => kernel_rfl) rfl)
       ·
        -- no
        have h53 := beq_eq_false_iff_ne.1 h53
        refine TC.skip (TX.blockNormal (TX.next (TC.seq (TC.region (TO.assign rfl (by decide) rfl (TO.nil (TX.next (TC.ret ?_))))))))
        have hfit : fits s.st u = (s.st, 0) := by unfold fits; simp_all <;> omega
        have hB : [.int .i64 s.st, .int .i64 s.tk.k, .int .i64 (s.tk.f : Int), .int .i64 (s.tk.t : Int), .int .i64 s.h.k, .int .i32 (s.h.r : Int), .int .i64 (s.h.f : Int), .int .i64 (s.h.t : Int), .bool s.h.al] = scV (fitted s u) := by unfold fitted; rw [hfit]; rfl
        refine TX.rewE (k := 0) rfl (show cells b [.int .i64 s.st, .int .i64 s.tk.k, .int .i64 (s.tk.f : Int), .int .i64 (s.tk.t : Int), .int .i64 s.h.k, .int .i32 (s.h.r : Int), .int .i64 (s.h.f : Int), .int .i64 (s.h.t : Int), .bool s.h.al] 92 = cells b (scV (fitted s u)) 92 from (congrArg (fun z => cells b z 92) hB)) ?_
        show TX _ _ _ _ _ _ _ [cells b (scV (fitted s u)) 92, cells b1 [.int .i64 u.k, .int .i32 (u.r : Int), .int .i64 (u.f : Int), .int .i64 (u.t : Int), .bool u.al] 90]
        exact TX.fin (rs := [.tmp 4]) () (.inl rfl) Try.results62 (.cons (.tmp rfl) .nil) (by rw [hfit]; rfl) (Splits.of [0] (by as_aux_lemma => kernel_rfl) rfl)

set_option maxRecDepth 100000 in
set_option maxHeartbeats 4000000 in
theorem begin_fn (b : Nat) (s : Sc) (u : Un) : Fn Try.prog 64 [.pointer (some ⟨b, 0, none⟩), .agg #[.int .i64 u.k, .int .i32 u.r, .int .i64 u.f, .int .i64 u.t, .bool u.al]] [cells b (scV s) 92] (fun _ : Unit => .tuple #[]) (fun _ => [cells b (scV (began s u)) 92]) := by
 refine Fn.intro Try.func64 rfl Try.ntmps64 (by simp) ?_
 intro w0 K
 show TC _ _ _ _ _ _ _ _ _ [cells b [.int .i64 s.st, .int .i64 s.tk.k, .int .i64 (s.tk.f : Int), .int .i64 (s.tk.t : Int), .int .i64 s.h.k, .int .i32 (s.h.r : Int), .int .i64 (s.h.f : Int), .int .i64 (s.h.t : Int), .bool s.h.al] 92]
 refine TC.seq (TC.region ?_)
 refine TO.box rfl (by decide) rfl (fun b1 => ?_)
 refine TO.nil (TX.next (TC.seq (TC.region (TO.move rfl (by decide) rfl (TO.fieldAddr fl_90_2 rfl (by decide) rfl (show _ = 2 from rfl) (TO.loads (k := 1) (cs := [.int .i64 (u.f : Int), .int .i64 (u.t : Int)]) rw_26 rfl (by decide) rfl rfl rfl rfl ?_))))))
 refine TO.build (v := .agg #[.int .i64 6, .int .i64 (u.f : Int), .int .i64 (u.t : Int)]) (ps := [(0, .const (.int .i64 6)), (1, .tmp 6)]) rfl (by decide) rfl (fun _ => by kernel_rfl) ?_
 refine TO.nilCheck rfl (by decide) rfl (TO.fieldAddr fl_92_1 rfl (by decide) rfl (show _ = 1 from rfl) (TO.stores (k := 0) (vs := [.int .i64 6, .int .i64 (u.f : Int), .int .i64 (u.t : Int)]) (l' := [.int .i64 s.st, .int .i64 6, .int .i64 (u.f : Int), .int .i64 (u.t : Int), .int .i64 s.h.k, .int .i32 (s.h.r : Int), .int .i64 (s.h.f : Int), .int .i64 (s.h.t : Int), .bool s.h.al]) sz_65 rfl rfl rfl rfl rfl (show _ ≤ _ by simp) rfl rfl (TO.nil (TX.next (TC.seq (TC.region (TO.move rfl (by decide) rfl (TO.nilCheck rfl (by decide) rfl (TO.fieldAddr fl_92_0 rfl (by decide) rfl (show _ = 0 from rfl) ?_)))))))))
 refine TO.store (k := 0) (l' := [.int .i64 9, .int .i64 6, .int .i64 (u.f : Int), .int .i64 (u.t : Int), .int .i64 s.h.k, .int .i32 (s.h.r : Int), .int .i64 (s.h.f : Int), .int .i64 (s.h.t : Int), .bool s.h.al]) sz_3 rfl rfl rfl rfl rfl (fun _ _ => rfl) rfl ?_
 show TO _ _ _ _ _ _ _ _ _ _ [cells b [.int .i64 9, .int .i64 6, .int .i64 (u.f : Int), .int .i64 (u.t : Int), .int .i64 s.h.k, .int .i32 (s.h.r : Int), .int .i64 (s.h.f : Int), .int .i64 (s.h.t : Int), .bool s.h.al] 92, cells b1 [.int .i64 u.k, .int .i32 (u.r : Int), .int .i64 (u.f : Int), .int .i64 (u.t : Int), .bool u.al] 90]
 refine TO.nil (TX.next (TC.seq (TC.region (TO.fieldAddr fl_90_0 rfl (by decide) rfl (show _ = 0 from rfl) (TO.load (k := 1) sc_37 rfl (by decide) rfl rfl rfl (TO.nil (TX.next (TC.block (TC.seq (TC.region (TO.bin rfl (by decide) rfl rfl bin_eql (TO.assign rfl (by decide) rfl (TO.nil ?_)))))))))))))
 refine TX.next ?_
 refine TC.condB rfl (fun h1 => ?_) (fun h1 => ?_)
 ·
  -- yes
  have h1 := beq_iff_eq.1 h1
  refine TC.region (TO.move rfl (by decide) rfl (TO.move rfl (by decide) rfl (TO.nilCheck rfl (by decide) rfl (TO.fieldAddr fl_92_1 rfl (by decide) rfl (show _ = 1 from rfl) (TO.fieldAddr fl_65_0 rfl (by decide) rfl (show _ = 1 from rfl) ?_)))))
  refine TO.store (k := 0) (l' := [.int .i64 9, .int .i64 1, .int .i64 (u.f : Int), .int .i64 (u.t : Int), .int .i64 s.h.k, .int .i32 (s.h.r : Int), .int .i64 (s.h.f : Int), .int .i64 (s.h.t : Int), .bool s.h.al]) sz_3 rfl rfl rfl rfl rfl (fun _ _ => rfl) rfl ?_
  refine TO.nilCheck rfl (by decide) rfl (TO.fieldAddr fl_92_0 rfl (by decide) rfl (show _ = 0 from rfl) ?_)
  refine TO.store (k := 0) (l' := [.int .i64 1, .int .i64 1, .int .i64 (u.f : Int), .int .i64 (u.t : Int), .int .i64 s.h.k, .int .i32 (s.h.r : Int), .int .i64 (s.h.f : Int), .int .i64 (s.h.t : Int), .bool s.h.al]) sz_3 rfl rfl rfl rfl rfl (fun _ _ => rfl) rfl ?_
  show TO _ _ _ _ _ _ _ _ _ _ [cells b [.int .i64 1, .int .i64 1, .int .i64 (u.f : Int), .int .i64 (u.t : Int), .int .i64 s.h.k, .int .i32 (s.h.r : Int), .int .i64 (s.h.f : Int), .int .i64 (s.h.t : Int), .bool s.h.al] 92, cells b1 [.int .i64 u.k, .int .i32 (u.r : Int), .int .i64 (u.f : Int), .int .i64 (u.t : Int), .bool u.al] 90]
  refine TO.nil (TX.blockNormal ?_)
  have hB : [.int .i64 1, .int .i64 1, .int .i64 (u.f : Int), .int .i64 (u.t : Int), .int .i64 s.h.k, .int .i32 (s.h.r : Int), .int .i64 (s.h.f : Int), .int .i64 (s.h.t : Int), .bool s.h.al] = scV (began s u) := by simp_all [began, begins, scV] <;> omega
  refine TX.rewE (k := 0) rfl (show cells b [.int .i64 1, .int .i64 1, .int .i64 (u.f : Int), .int .i64 (u.t : Int), .int .i64 s.h.k, .int .i32 (s.h.r : Int), .int .i64 (s.h.f : Int), .int .i64 (s.h.t : Int), .bool s.h.al] 92 = cells b (scV (began s u)) 92 from (congrArg (fun z => cells b z 92) hB)) ?_
  show TX _ _ _ _ _ _ _ [cells b (scV (began s u)) 92, cells b1 [.int .i64 u.k, .int .i32 (u.r : Int), .int .i64 (u.f : Int), .int .i64 (u.t : Int), .bool u.al] 90]
  exact TX.fin (rs := []) () (.inr rfl) Try.results64 .nil rfl (Splits.of [0] (by as_aux_lemma => kernel_rfl) rfl)
 ·
  -- no
  have h1 := beq_eq_false_iff_ne.1 h1
  refine TC.seq (TC.region (TO.bin rfl (by decide) rfl rfl bin_eql (TO.assign rfl (by decide) rfl (TO.nil (TX.next ?_)))))
  refine TC.condB rfl (fun h2 => ?_) (fun h2 => ?_)
  ·
   -- yes
   have h2 := beq_iff_eq.1 h2
   refine TC.region (TO.move rfl (by decide) rfl (TO.move rfl (by decide) rfl (TO.nilCheck rfl (by decide) rfl (TO.fieldAddr fl_92_1 rfl (by decide) rfl (show _ = 1 from rfl) (TO.fieldAddr fl_65_0 rfl (by decide) rfl (show _ = 1 from rfl) ?_)))))
   refine TO.store (k := 0) (l' := [.int .i64 9, .int .i64 2, .int .i64 (u.f : Int), .int .i64 (u.t : Int), .int .i64 s.h.k, .int .i32 (s.h.r : Int), .int .i64 (s.h.f : Int), .int .i64 (s.h.t : Int), .bool s.h.al]) sz_3 rfl rfl rfl rfl rfl (fun _ _ => rfl) rfl ?_
   refine TO.nilCheck rfl (by decide) rfl (TO.fieldAddr fl_92_0 rfl (by decide) rfl (show _ = 0 from rfl) ?_)
   refine TO.store (k := 0) (l' := [.int .i64 3, .int .i64 2, .int .i64 (u.f : Int), .int .i64 (u.t : Int), .int .i64 s.h.k, .int .i32 (s.h.r : Int), .int .i64 (s.h.f : Int), .int .i64 (s.h.t : Int), .bool s.h.al]) sz_3 rfl rfl rfl rfl rfl (fun _ _ => rfl) rfl ?_
   show TO _ _ _ _ _ _ _ _ _ _ [cells b [.int .i64 3, .int .i64 2, .int .i64 (u.f : Int), .int .i64 (u.t : Int), .int .i64 s.h.k, .int .i32 (s.h.r : Int), .int .i64 (s.h.f : Int), .int .i64 (s.h.t : Int), .bool s.h.al] 92, cells b1 [.int .i64 u.k, .int .i32 (u.r : Int), .int .i64 (u.f : Int), .int .i64 (u.t : Int), .bool u.al] 90]
   refine TO.nil (TX.blockNormal ?_)
   have hB : [.int .i64 3, .int .i64 2, .int .i64 (u.f : Int), .int .i64 (u.t : Int), .int .i64 s.h.k, .int .i32 (s.h.r : Int), .int .i64 (s.h.f : Int), .int .i64 (s.h.t : Int), .bool s.h.al] = scV (began s u) := by simp_all [began, begins, scV] <;> omega
   refine TX.rewE (k := 0) rfl (show cells b [.int .i64 3, .int .i64 2, .int .i64 (u.f : Int), .int .i64 (u.t : Int), .int .i64 s.h.k, .int .i32 (s.h.r : Int), .int .i64 (s.h.f : Int), .int .i64 (s.h.t : Int), .bool s.h.al] 92 = cells b (scV (began s u)) 92 from (congrArg (fun z => cells b z 92) hB)) ?_
   show TX _ _ _ _ _ _ _ [cells b (scV (began s u)) 92, cells b1 [.int .i64 u.k, .int .i32 (u.r : Int), .int .i64 (u.f : Int), .int .i64 (u.t : Int), .bool u.al] 90]
   exact TX.fin (rs := []) () (.inr rfl) Try.results64 .nil rfl (Splits.of [0] (by as_aux_lemma => kernel_rfl) rfl)
  ·
   -- no
   have h2 := beq_eq_false_iff_ne.1 h2
   refine TC.seq (TC.region (TO.bin rfl (by decide) rfl rfl bin_eql (TO.assign rfl (by decide) rfl (TO.nil (TX.next ?_)))))
   refine TC.condB rfl (fun h3 => ?_) (fun h3 => ?_)
   ·
    -- yes
    have h3 := beq_iff_eq.1 h3
    refine TC.region (TO.move rfl (by decide) rfl (TO.move rfl (by decide) rfl (TO.nilCheck rfl (by decide) rfl (TO.fieldAddr fl_92_1 rfl (by decide) rfl (show _ = 1 from rfl) (TO.fieldAddr fl_65_0 rfl (by decide) rfl (show _ = 1 from rfl) ?_)))))
    refine TO.store (k := 0) (l' := [.int .i64 9, .int .i64 3, .int .i64 (u.f : Int), .int .i64 (u.t : Int), .int .i64 s.h.k, .int .i32 (s.h.r : Int), .int .i64 (s.h.f : Int), .int .i64 (s.h.t : Int), .bool s.h.al]) sz_3 rfl rfl rfl rfl rfl (fun _ _ => rfl) rfl ?_
    refine TO.nilCheck rfl (by decide) rfl (TO.fieldAddr fl_92_0 rfl (by decide) rfl (show _ = 0 from rfl) ?_)
    refine TO.store (k := 0) (l' := [.int .i64 5, .int .i64 3, .int .i64 (u.f : Int), .int .i64 (u.t : Int), .int .i64 s.h.k, .int .i32 (s.h.r : Int), .int .i64 (s.h.f : Int), .int .i64 (s.h.t : Int), .bool s.h.al]) sz_3 rfl rfl rfl rfl rfl (fun _ _ => rfl) rfl ?_
    show TO _ _ _ _ _ _ _ _ _ _ [cells b [.int .i64 5, .int .i64 3, .int .i64 (u.f : Int), .int .i64 (u.t : Int), .int .i64 s.h.k, .int .i32 (s.h.r : Int), .int .i64 (s.h.f : Int), .int .i64 (s.h.t : Int), .bool s.h.al] 92, cells b1 [.int .i64 u.k, .int .i32 (u.r : Int), .int .i64 (u.f : Int), .int .i64 (u.t : Int), .bool u.al] 90]
    refine TO.nil (TX.blockNormal ?_)
    have hB : [.int .i64 5, .int .i64 3, .int .i64 (u.f : Int), .int .i64 (u.t : Int), .int .i64 s.h.k, .int .i32 (s.h.r : Int), .int .i64 (s.h.f : Int), .int .i64 (s.h.t : Int), .bool s.h.al] = scV (began s u) := by simp_all [began, begins, scV] <;> omega
    refine TX.rewE (k := 0) rfl (show cells b [.int .i64 5, .int .i64 3, .int .i64 (u.f : Int), .int .i64 (u.t : Int), .int .i64 s.h.k, .int .i32 (s.h.r : Int), .int .i64 (s.h.f : Int), .int .i64 (s.h.t : Int), .bool s.h.al] 92 = cells b (scV (began s u)) 92 from (congrArg (fun z => cells b z 92) hB)) ?_
    show TX _ _ _ _ _ _ _ [cells b (scV (began s u)) 92, cells b1 [.int .i64 u.k, .int .i32 (u.r : Int), .int .i64 (u.f : Int), .int .i64 (u.t : Int), .bool u.al] 90]
    exact TX.fin (rs := []) () (.inr rfl) Try.results64 .nil rfl (Splits.of [0] (by as_aux_lemma => kernel_rfl) rfl)
   ·
    -- no
    have h3 := beq_eq_false_iff_ne.1 h3
    refine TC.seq (TC.region (TO.bin rfl (by decide) rfl rfl bin_eql (TO.assign rfl (by decide) rfl (TO.nil (TX.next ?_)))))
    refine TC.condB rfl (fun h4 => ?_) (fun h4 => ?_)
    ·
     -- yes
     have h4 := beq_iff_eq.1 h4
     refine TC.region (TO.move rfl (by decide) rfl (TO.move rfl (by decide) rfl (TO.nilCheck rfl (by decide) rfl (TO.fieldAddr fl_92_1 rfl (by decide) rfl (show _ = 1 from rfl) (TO.fieldAddr fl_65_0 rfl (by decide) rfl (show _ = 1 from rfl) ?_)))))
     refine TO.store (k := 0) (l' := [.int .i64 9, .int .i64 7, .int .i64 (u.f : Int), .int .i64 (u.t : Int), .int .i64 s.h.k, .int .i32 (s.h.r : Int), .int .i64 (s.h.f : Int), .int .i64 (s.h.t : Int), .bool s.h.al]) sz_3 rfl rfl rfl rfl rfl (fun _ _ => rfl) rfl ?_
     refine TO.nilCheck rfl (by decide) rfl (TO.fieldAddr fl_92_0 rfl (by decide) rfl (show _ = 0 from rfl) ?_)
     refine TO.store (k := 0) (l' := [.int .i64 6, .int .i64 7, .int .i64 (u.f : Int), .int .i64 (u.t : Int), .int .i64 s.h.k, .int .i32 (s.h.r : Int), .int .i64 (s.h.f : Int), .int .i64 (s.h.t : Int), .bool s.h.al]) sz_3 rfl rfl rfl rfl rfl (fun _ _ => rfl) rfl ?_
     show TO _ _ _ _ _ _ _ _ _ _ [cells b [.int .i64 6, .int .i64 7, .int .i64 (u.f : Int), .int .i64 (u.t : Int), .int .i64 s.h.k, .int .i32 (s.h.r : Int), .int .i64 (s.h.f : Int), .int .i64 (s.h.t : Int), .bool s.h.al] 92, cells b1 [.int .i64 u.k, .int .i32 (u.r : Int), .int .i64 (u.f : Int), .int .i64 (u.t : Int), .bool u.al] 90]
     refine TO.nil (TX.blockNormal ?_)
     have hB : [.int .i64 6, .int .i64 7, .int .i64 (u.f : Int), .int .i64 (u.t : Int), .int .i64 s.h.k, .int .i32 (s.h.r : Int), .int .i64 (s.h.f : Int), .int .i64 (s.h.t : Int), .bool s.h.al] = scV (began s u) := by simp_all [began, begins, scV] <;> omega
     refine TX.rewE (k := 0) rfl (show cells b [.int .i64 6, .int .i64 7, .int .i64 (u.f : Int), .int .i64 (u.t : Int), .int .i64 s.h.k, .int .i32 (s.h.r : Int), .int .i64 (s.h.f : Int), .int .i64 (s.h.t : Int), .bool s.h.al] 92 = cells b (scV (began s u)) 92 from (congrArg (fun z => cells b z 92) hB)) ?_
     show TX _ _ _ _ _ _ _ [cells b (scV (began s u)) 92, cells b1 [.int .i64 u.k, .int .i32 (u.r : Int), .int .i64 (u.f : Int), .int .i64 (u.t : Int), .bool u.al] 90]
     exact TX.fin (rs := []) () (.inr rfl) Try.results64 .nil rfl (Splits.of [0] (by as_aux_lemma => kernel_rfl) rfl)
    ·
     -- no
     have h4 := beq_eq_false_iff_ne.1 h4
     refine TC.seq (TC.region (TO.bin rfl (by decide) rfl rfl bin_eql (TO.assign rfl (by decide) rfl (TO.nil (TX.next ?_)))))
     refine TC.condB rfl (fun h5 => ?_) (fun h5 => ?_)
     ·
      -- yes
      have h5 := beq_iff_eq.1 h5
      refine TC.seq (TC.region (TO.move rfl (by decide) rfl (TO.move rfl (by decide) rfl (TO.nilCheck rfl (by decide) rfl (TO.fieldAddr fl_92_1 rfl (by decide) rfl (show _ = 1 from rfl) (TO.fieldAddr fl_65_0 rfl (by decide) rfl (show _ = 1 from rfl) ?_))))))
      refine TO.store (k := 0) (l' := [.int .i64 9, .int .i64 4, .int .i64 (u.f : Int), .int .i64 (u.t : Int), .int .i64 s.h.k, .int .i32 (s.h.r : Int), .int .i64 (s.h.f : Int), .int .i64 (s.h.t : Int), .bool s.h.al]) sz_3 rfl rfl rfl rfl rfl (fun _ _ => rfl) rfl ?_
      refine TO.nilCheck rfl (by decide) rfl (TO.fieldAddr fl_92_0 rfl (by decide) rfl (show _ = 0 from rfl) ?_)
      refine TO.store (k := 0) (l' := [.int .i64 7, .int .i64 4, .int .i64 (u.f : Int), .int .i64 (u.t : Int), .int .i64 s.h.k, .int .i32 (s.h.r : Int), .int .i64 (s.h.f : Int), .int .i64 (s.h.t : Int), .bool s.h.al]) sz_3 rfl rfl rfl rfl rfl (fun _ _ => rfl) rfl ?_
      show TO _ _ _ _ _ _ _ _ _ _ [cells b [.int .i64 7, .int .i64 4, .int .i64 (u.f : Int), .int .i64 (u.t : Int), .int .i64 s.h.k, .int .i32 (s.h.r : Int), .int .i64 (s.h.f : Int), .int .i64 (s.h.t : Int), .bool s.h.al] 92, cells b1 [.int .i64 u.k, .int .i32 (u.r : Int), .int .i64 (u.f : Int), .int .i64 (u.t : Int), .bool u.al] 90]
      refine TO.nil (TX.next (TC.seq (TC.region (TO.fieldAddr fl_90_1 rfl (by decide) rfl (show _ = 1 from rfl) (TO.load (k := 1) sc_21 rfl (by decide) rfl rfl rfl (TO.bin rfl (by decide) rfl rfl bin_eql (TO.nil (TX.next ?_))))))))
      refine TC.condB rfl (fun h6 => ?_) (fun h6 => ?_)
      ·
       -- yes
       have h6 := beq_iff_eq.1 h6
       refine TC.region (TO.move rfl (by decide) rfl (TO.nilCheck rfl (by decide) rfl (TO.fieldAddr fl_92_0 rfl (by decide) rfl (show _ = 0 from rfl) ?_)))
       refine TO.store (k := 0) (l' := [.int .i64 8, .int .i64 4, .int .i64 (u.f : Int), .int .i64 (u.t : Int), .int .i64 s.h.k, .int .i32 (s.h.r : Int), .int .i64 (s.h.f : Int), .int .i64 (s.h.t : Int), .bool s.h.al]) sz_3 rfl rfl rfl rfl rfl (fun _ _ => rfl) rfl ?_
       refine TO.nil (TX.blockNormal ?_)
       have hB : [.int .i64 8, .int .i64 4, .int .i64 (u.f : Int), .int .i64 (u.t : Int), .int .i64 s.h.k, .int .i32 (s.h.r : Int), .int .i64 (s.h.f : Int), .int .i64 (s.h.t : Int), .bool s.h.al] = scV (began s u) := by simp_all [began, begins, scV] <;> omega
       refine TX.rewE (k := 0) rfl (show cells b [.int .i64 8, .int .i64 4, .int .i64 (u.f : Int), .int .i64 (u.t : Int), .int .i64 s.h.k, .int .i32 (s.h.r : Int), .int .i64 (s.h.f : Int), .int .i64 (s.h.t : Int), .bool s.h.al] 92 = cells b (scV (began s u)) 92 from (congrArg (fun z => cells b z 92) hB)) ?_
       show TX _ _ _ _ _ _ _ [cells b (scV (began s u)) 92, cells b1 [.int .i64 u.k, .int .i32 (u.r : Int), .int .i64 (u.f : Int), .int .i64 (u.t : Int), .bool u.al] 90]
       exact TX.fin (rs := []) () (.inr rfl) Try.results64 .nil rfl (Splits.of [0] (by as_aux_lemma => kernel_rfl) rfl)
      ·
       -- no
       have h6 := beq_eq_false_iff_ne.1 h6
       refine TC.skip (TX.blockNormal ?_)
       have hB : [.int .i64 7, .int .i64 4, .int .i64 (u.f : Int), .int .i64 (u.t : Int), .int .i64 s.h.k, .int .i32 (s.h.r : Int), .int .i64 (s.h.f : Int), .int .i64 (s.h.t : Int), .bool s.h.al] = scV (began s u) := by simp_all [began, begins, scV] <;> omega
       refine TX.rewE (k := 0) rfl (show cells b [.int .i64 7, .int .i64 4, .int .i64 (u.f : Int), .int .i64 (u.t : Int), .int .i64 s.h.k, .int .i32 (s.h.r : Int), .int .i64 (s.h.f : Int), .int .i64 (s.h.t : Int), .bool s.h.al] 92 = cells b (scV (began s u)) 92 from (congrArg (fun z => cells b z 92) hB)) ?_
       show TX _ _ _ _ _ _ _ [cells b (scV (began s u)) 92, cells b1 [.int .i64 u.k, .int .i32 (u.r : Int), .int .i64 (u.f : Int), .int .i64 (u.t : Int), .bool u.al] 90]
       exact TX.fin (rs := []) () (.inr rfl) Try.results64 .nil rfl (Splits.of [0] (by as_aux_lemma => kernel_rfl) rfl)
     ·
      -- no
      have h5 := beq_eq_false_iff_ne.1 h5
      refine TC.seq (TC.seq (TC.region (TO.bin rfl (by decide) rfl rfl bin_eql (TO.assign rfl (by decide) rfl (TO.nil (TX.next ?_))))))
      refine TC.condB rfl (fun h7 => ?_) (fun h7 => ?_)
      ·
       -- yes
       have h7 := beq_iff_eq.1 h7
       refine TC.skip (TX.next ?_)
       refine TC.condB rfl (fun h8 => ?_) (fun h8 => ?_)
       ·
        -- yes
        have h8 := beq_iff_eq.1 h8
        refine TC.region (TO.move rfl (by decide) rfl (TO.nilCheck rfl (by decide) rfl (TO.fieldAddr fl_92_1 rfl (by decide) rfl (show _ = 1 from rfl) (TO.fieldAddr fl_65_0 rfl (by decide) rfl (show _ = 1 from rfl) ?_))))
        refine TO.store (k := 0) (l' := [.int .i64 9, .int .i64 5, .int .i64 (u.f : Int), .int .i64 (u.t : Int), .int .i64 s.h.k, .int .i32 (s.h.r : Int), .int .i64 (s.h.f : Int), .int .i64 (s.h.t : Int), .bool s.h.al]) sz_3 rfl rfl rfl rfl rfl (fun _ _ => rfl) rfl ?_
        refine TO.nil (TX.blockNormal ?_)
        have hB : [.int .i64 9, .int .i64 5, .int .i64 (u.f : Int), .int .i64 (u.t : Int), .int .i64 s.h.k, .int .i32 (s.h.r : Int), .int .i64 (s.h.f : Int), .int .i64 (s.h.t : Int), .bool s.h.al] = scV (began s u) := by simp_all [began, begins, scV] <;> omega
        refine TX.rewE (k := 0) rfl (show cells b [.int .i64 9, .int .i64 5, .int .i64 (u.f : Int), .int .i64 (u.t : Int), .int .i64 s.h.k, .int .i32 (s.h.r : Int), .int .i64 (s.h.f : Int), .int .i64 (s.h.t : Int), .bool s.h.al] 92 = cells b (scV (began s u)) 92 from (congrArg (fun z => cells b z 92) hB)) ?_
        show TX _ _ _ _ _ _ _ [cells b (scV (began s u)) 92, cells b1 [.int .i64 u.k, .int .i32 (u.r : Int), .int .i64 (u.f : Int), .int .i64 (u.t : Int), .bool u.al] 90]
        exact TX.fin (rs := []) () (.inr rfl) Try.results64 .nil rfl (Splits.of [0] (by as_aux_lemma => kernel_rfl) rfl)
       ·
        -- no
        have h8 := beq_eq_false_iff_ne.1 h8
        refine TC.skip (TX.blockNormal ?_)
        have hB : [.int .i64 9, .int .i64 6, .int .i64 (u.f : Int), .int .i64 (u.t : Int), .int .i64 s.h.k, .int .i32 (s.h.r : Int), .int .i64 (s.h.f : Int), .int .i64 (s.h.t : Int), .bool s.h.al] = scV (began s u) := by simp_all [began, begins, scV] <;> omega
        refine TX.rewE (k := 0) rfl (show cells b [.int .i64 9, .int .i64 6, .int .i64 (u.f : Int), .int .i64 (u.t : Int), .int .i64 s.h.k, .int .i32 (s.h.r : Int), .int .i64 (s.h.f : Int), .int .i64 (s.h.t : Int), .bool s.h.al] 92 = cells b (scV (began s u)) 92 from (congrArg (fun z => cells b z 92) hB)) ?_
        show TX _ _ _ _ _ _ _ [cells b (scV (began s u)) 92, cells b1 [.int .i64 u.k, .int .i32 (u.r : Int), .int .i64 (u.f : Int), .int .i64 (u.t : Int), .bool u.al] 90]
        exact TX.fin (rs := []) () (.inr rfl) Try.results64 .nil rfl (Splits.of [0] (by as_aux_lemma => kernel_rfl) rfl)
      ·
       -- no
       have h7 := beq_eq_false_iff_ne.1 h7
       refine TC.seq (TC.region (TO.bin rfl (by decide) rfl rfl bin_eql (TO.assign rfl (by decide) rfl (TO.nil (TX.next ?_)))))
       refine TC.condB rfl (fun h9 => ?_) (fun h9 => ?_)
       ·
        -- yes
        have h9 := beq_iff_eq.1 h9
        refine TC.skip (TX.next ?_)
        refine TC.condB rfl (fun h10 => ?_) (fun h10 => ?_)
        ·
         -- yes
         have h10 := beq_iff_eq.1 h10
         refine TC.region (TO.move rfl (by decide) rfl (TO.nilCheck rfl (by decide) rfl (TO.fieldAddr fl_92_1 rfl (by decide) rfl (show _ = 1 from rfl) (TO.fieldAddr fl_65_0 rfl (by decide) rfl (show _ = 1 from rfl) ?_))))
         refine TO.store (k := 0) (l' := [.int .i64 9, .int .i64 5, .int .i64 (u.f : Int), .int .i64 (u.t : Int), .int .i64 s.h.k, .int .i32 (s.h.r : Int), .int .i64 (s.h.f : Int), .int .i64 (s.h.t : Int), .bool s.h.al]) sz_3 rfl rfl rfl rfl rfl (fun _ _ => rfl) rfl ?_
         refine TO.nil (TX.blockNormal ?_)
         have hB : [.int .i64 9, .int .i64 5, .int .i64 (u.f : Int), .int .i64 (u.t : Int), .int .i64 s.h.k, .int .i32 (s.h.r : Int), .int .i64 (s.h.f : Int), .int .i64 (s.h.t : Int), .bool s.h.al] = scV (began s u) := by simp_all [began, begins, scV] <;> omega
         refine TX.rewE (k := 0) rfl (show cells b [.int .i64 9, .int .i64 5, .int .i64 (u.f : Int), .int .i64 (u.t : Int), .int .i64 s.h.k, .int .i32 (s.h.r : Int), .int .i64 (s.h.f : Int), .int .i64 (s.h.t : Int), .bool s.h.al] 92 = cells b (scV (began s u)) 92 from (congrArg (fun z => cells b z 92) hB)) ?_
         show TX _ _ _ _ _ _ _ [cells b (scV (began s u)) 92, cells b1 [.int .i64 u.k, .int .i32 (u.r : Int), .int .i64 (u.f : Int), .int .i64 (u.t : Int), .bool u.al] 90]
         exact TX.fin (rs := []) () (.inr rfl) Try.results64 .nil rfl (Splits.of [0] (by as_aux_lemma => kernel_rfl) rfl)
        ·
         -- no
         have h10 := beq_eq_false_iff_ne.1 h10
         refine TC.skip (TX.blockNormal ?_)
         have hB : [.int .i64 9, .int .i64 6, .int .i64 (u.f : Int), .int .i64 (u.t : Int), .int .i64 s.h.k, .int .i32 (s.h.r : Int), .int .i64 (s.h.f : Int), .int .i64 (s.h.t : Int), .bool s.h.al] = scV (began s u) := by simp_all [began, begins, scV] <;> omega
         refine TX.rewE (k := 0) rfl (show cells b [.int .i64 9, .int .i64 6, .int .i64 (u.f : Int), .int .i64 (u.t : Int), .int .i64 s.h.k, .int .i32 (s.h.r : Int), .int .i64 (s.h.f : Int), .int .i64 (s.h.t : Int), .bool s.h.al] 92 = cells b (scV (began s u)) 92 from (congrArg (fun z => cells b z 92) hB)) ?_
         show TX _ _ _ _ _ _ _ [cells b (scV (began s u)) 92, cells b1 [.int .i64 u.k, .int .i32 (u.r : Int), .int .i64 (u.f : Int), .int .i64 (u.t : Int), .bool u.al] 90]
         exact TX.fin (rs := []) () (.inr rfl) Try.results64 .nil rfl (Splits.of [0] (by as_aux_lemma => kernel_rfl) rfl)
       ·
        -- no
        have h9 := beq_eq_false_iff_ne.1 h9
        refine TC.region (TO.bin rfl (by decide) rfl rfl bin_eql (TO.assign rfl (by decide) rfl (TO.nil (TX.next ?_))))
        refine TC.condB rfl (fun h11 => ?_) (fun h11 => ?_)
        ·
         -- yes
         have h11 := beq_iff_eq.1 h11
         refine TC.region (TO.move rfl (by decide) rfl (TO.nilCheck rfl (by decide) rfl (TO.fieldAddr fl_92_1 rfl (by decide) rfl (show _ = 1 from rfl) (TO.fieldAddr fl_65_0 rfl (by decide) rfl (show _ = 1 from rfl) ?_))))
         refine TO.store (k := 0) (l' := [.int .i64 9, .int .i64 5, .int .i64 (u.f : Int), .int .i64 (u.t : Int), .int .i64 s.h.k, .int .i32 (s.h.r : Int), .int .i64 (s.h.f : Int), .int .i64 (s.h.t : Int), .bool s.h.al]) sz_3 rfl rfl rfl rfl rfl (fun _ _ => rfl) rfl ?_
         refine TO.nil (TX.blockNormal ?_)
         have hB : [.int .i64 9, .int .i64 5, .int .i64 (u.f : Int), .int .i64 (u.t : Int), .int .i64 s.h.k, .int .i32 (s.h.r : Int), .int .i64 (s.h.f : Int), .int .i64 (s.h.t : Int), .bool s.h.al] = scV (began s u) := by simp_all [began, begins, scV] <;> omega
         refine TX.rewE (k := 0) rfl (show cells b [.int .i64 9, .int .i64 5, .int .i64 (u.f : Int), .int .i64 (u.t : Int), .int .i64 s.h.k, .int .i32 (s.h.r : Int), .int .i64 (s.h.f : Int), .int .i64 (s.h.t : Int), .bool s.h.al] 92 = cells b (scV (began s u)) 92 from (congrArg (fun z => cells b z 92) hB)) ?_
         show TX _ _ _ _ _ _ _ [cells b (scV (began s u)) 92, cells b1 [.int .i64 u.k, .int .i32 (u.r : Int), .int .i64 (u.f : Int), .int .i64 (u.t : Int), .bool u.al] 90]
         exact TX.fin (rs := []) () (.inr rfl) Try.results64 .nil rfl (Splits.of [0] (by as_aux_lemma => kernel_rfl) rfl)
        ·
         -- no
         have h11 := beq_eq_false_iff_ne.1 h11
         refine TC.skip (TX.blockNormal ?_)
         have hB : [.int .i64 9, .int .i64 6, .int .i64 (u.f : Int), .int .i64 (u.t : Int), .int .i64 s.h.k, .int .i32 (s.h.r : Int), .int .i64 (s.h.f : Int), .int .i64 (s.h.t : Int), .bool s.h.al] = scV (began s u) := by simp_all [began, begins, scV] <;> omega
         refine TX.rewE (k := 0) rfl (show cells b [.int .i64 9, .int .i64 6, .int .i64 (u.f : Int), .int .i64 (u.t : Int), .int .i64 s.h.k, .int .i32 (s.h.r : Int), .int .i64 (s.h.f : Int), .int .i64 (s.h.t : Int), .bool s.h.al] 92 = cells b (scV (began s u)) 92 from (congrArg (fun z => cells b z 92) hB)) ?_
         show TX _ _ _ _ _ _ _ [cells b (scV (began s u)) 92, cells b1 [.int .i64 u.k, .int .i32 (u.r : Int), .int .i64 (u.f : Int), .int .i64 (u.t : Int), .bool u.al] 90]
         exact TX.fin (rs := []) () (.inr rfl) Try.results64 .nil rfl (Splits.of [0] (by as_aux_lemma => kernel_rfl) rfl)

set_option maxRecDepth 100000 in
set_option maxHeartbeats 4000000 in
theorem end_w {l : Nat} {zs : List Tk} {I X : List Tk → Asn} {w : World} {C : Nat → Prop} (hy : YC Try.prog l tkA zs I X w C) (b : Nat) (s : Sc) (pre post : List Tk) (hz : zs = pre ++ ended s ++ post) :
  FnW Try.prog 63 [.pointer (some ⟨b, 0, none⟩), .func (.yield l) #[] #[]] [cells b (scV s) 92, I pre] (fun x : Option (List Tk × Tk × List Tk) => .bool x.isNone)
   (fun x => match x with | none => [cells b (scV s) 92, I (pre ++ ended s)] | some g => [cells b (scV s) 92, X (pre ++ g.1 ++ [g.2.1]), fact (ended s = g.1 ++ g.2.1 :: g.2.2)]) w C := by
 refine FnW.intro Try.func63 rfl Try.ntmps63 (by simp) ?_
 show TC _ _ _ _ _ _ _ _ _ [cells b [.int .i64 s.st, .int .i64 s.tk.k, .int .i64 (s.tk.f : Int), .int .i64 (s.tk.t : Int), .int .i64 s.h.k, .int .i32 (s.h.r : Int), .int .i64 (s.h.f : Int), .int .i64 (s.h.t : Int), .bool s.h.al] 92, I pre]
 refine TC.seq (TC.region (TO.assign rfl (by decide) rfl (TO.nil (TX.next (TC.seq (TC.seq (TC.region (TO.move rfl (by decide) rfl (TO.nilCheck rfl (by decide) rfl (TO.fieldAddr fl_92_0 rfl (by decide) rfl (show _ = 0 from rfl) (TO.load (k := 0) sc_3 rfl (by decide) rfl rfl rfl (TO.nil (TX.next ?_)))))))))))))
 refine TC.block (TC.seq (TC.region (TO.bin rfl (by decide) rfl rfl bin_eql (TO.assign rfl (by decide) rfl (TO.nil (TX.next ?_))))))
 refine TC.condB rfl (fun h1 => ?_) (fun h1 => ?_)
 ·
  -- yes
  have h1 := beq_iff_eq.1 h1
  refine TC.seq (TC.region (TO.assign rfl (by decide) rfl (TO.nil (TX.next (TC.ret (TX.blockRet (TX.thenRet ?_)))))))
  have hen : ended s = [] := by unfold ended; simp_all
  refine TX.rewE (k := 1) rfl (show I pre = I (pre ++ ended s) from (by simp [hen])) ?_
  show TX _ _ _ _ _ _ _ [cells b [.int .i64 s.st, .int .i64 s.tk.k, .int .i64 (s.tk.f : Int), .int .i64 (s.tk.t : Int), .int .i64 s.h.k, .int .i32 (s.h.r : Int), .int .i64 (s.h.f : Int), .int .i64 (s.h.t : Int), .bool s.h.al] 92, I (pre ++ ended s)]
  exact TX.fin (rs := [.tmp 4]) (none : Option (List Tk × Tk × List Tk)) (.inl rfl) Try.results63 (.cons (.tmp rfl) .nil) rfl (Splits.of [0, 1] (by as_aux_lemma => kernel_rfl) rfl)
 ·
  -- no
  have h1 := beq_eq_false_iff_ne.1 h1
  refine TC.seq (TC.seq (TC.region (TO.bin rfl (by decide) rfl rfl bin_eql (TO.assign rfl (by decide) rfl (TO.nil (TX.next ?_))))))
  refine TC.condB rfl (fun h2 => ?_) (fun h2 => ?_)
  ·
   -- yes
   have h2 := beq_iff_eq.1 h2
   refine TC.skip (TX.next ?_)
   refine TC.condB rfl (fun h3 => ?_) (fun h3 => ?_)
   ·
    -- yes
    have h3 := beq_iff_eq.1 h3
    refine TC.seq ?_
    have hen : ended s = [s.tk, ⟨5, s.h.f, s.h.t⟩] := by unfold ended; simp_all
    refine TC.region (TO.move rfl (by decide) rfl (TO.move rfl (by decide) rfl (TO.nilCheck rfl (by decide) rfl (TO.fieldAddr fl_92_1 rfl (by decide) rfl (show _ = 1 from rfl) (TO.loads (k := 0) (cs := [.int .i64 s.tk.k, .int .i64 (s.tk.f : Int), .int .i64 (s.tk.t : Int)]) rw_65 rfl (by decide) rfl rfl rfl rfl ?_)))))
    refine TO.yield hy rfl (by decide) rfl (pre := pre) (e := s.tk) (post := [⟨5, s.h.f, s.h.t⟩] ++ post) (by rw [hz, hen]; simp) rfl (k := 1) rfl ?_ ?_
    ·
     -- yes
     refine TO.move rfl (by decide) rfl (TO.move rfl (by decide) rfl (TO.move rfl (by decide) rfl (TO.nilCheck rfl (by decide) rfl (TO.fieldAddr fl_92_2 rfl (by decide) rfl (show _ = 4 from rfl) (TO.fieldAddr fl_90_2 rfl (by decide) rfl (show _ = 6 from rfl) (TO.loads (k := 0) (cs := [.int .i64 (s.h.f : Int), .int .i64 (s.h.t : Int)]) rw_26 rfl (by decide) rfl rfl rfl rfl ?_))))))
     refine TO.build (v := .agg #[.int .i64 5, .int .i64 (s.h.f : Int), .int .i64 (s.h.t : Int)]) (ps := [(0, .const (.int .i64 5)), (1, .tmp 26)]) rfl (by decide) rfl (fun _ => by kernel_rfl) ?_
     refine TO.yield hy rfl (by decide) rfl (pre := (pre ++ [s.tk])) (e := (⟨5, s.h.f, s.h.t⟩ : Tk)) (post := post) (by rw [hz, hen]; simp) rfl (k := 1) rfl ?_ ?_
     ·
      -- yes
      refine TO.pick (b := true) rfl (by decide) rfl rfl (TO.assign rfl (by decide) rfl (TO.nil (TX.next (TC.ret (TX.blockRet (TX.thenRet (TX.rewE (k := 1) rfl (show I ((pre ++ [s.tk]) ++ [(⟨5, s.h.f, s.h.t⟩ : Tk)]) = I (pre ++ ended s) from (by simp [hen])) ?_)))))))
      show TX _ _ _ _ _ _ _ [cells b [.int .i64 s.st, .int .i64 s.tk.k, .int .i64 (s.tk.f : Int), .int .i64 (s.tk.t : Int), .int .i64 s.h.k, .int .i32 (s.h.r : Int), .int .i64 (s.h.f : Int), .int .i64 (s.h.t : Int), .bool s.h.al] 92, I (pre ++ ended s)]
      exact TX.fin (rs := [.tmp 4]) (none : Option (List Tk × Tk × List Tk)) (.inl rfl) Try.results63 (.cons (.tmp rfl) .nil) rfl (Splits.of [0, 1] (by as_aux_lemma => kernel_rfl) rfl)
     ·
      -- no
      refine TO.pick (b := true) rfl (by decide) rfl rfl (TO.assign rfl (by decide) rfl (TO.nil (TX.next (TC.ret (TX.blockRet (TX.thenRet (TX.rewE (k := 1) rfl (show X ((pre ++ [s.tk]) ++ [(⟨5, s.h.f, s.h.t⟩ : Tk)]) = X (pre ++ (([s.tk], (⟨5, s.h.f, s.h.t⟩ : Tk), []) : List Tk × Tk × List Tk).1 ++ [(([s.tk], (⟨5, s.h.f, s.h.t⟩ : Tk), []) : List Tk × Tk × List Tk).2.1]) from (by simp)) ?_)))))))
      show TX _ _ _ _ _ _ _ [cells b [.int .i64 s.st, .int .i64 s.tk.k, .int .i64 (s.tk.f : Int), .int .i64 (s.tk.t : Int), .int .i64 s.h.k, .int .i32 (s.h.r : Int), .int .i64 (s.h.f : Int), .int .i64 (s.h.t : Int), .bool s.h.al] 92, X (pre ++ (([s.tk], (⟨5, s.h.f, s.h.t⟩ : Tk), []) : List Tk × Tk × List Tk).1 ++ [(([s.tk], (⟨5, s.h.f, s.h.t⟩ : Tk), []) : List Tk × Tk × List Tk).2.1])]
      exact TX.finE (rs := [.tmp 4]) (As := [cells b (scV s) 92, X (pre ++ (([s.tk], (⟨5, s.h.f, s.h.t⟩ : Tk), []) : List Tk × Tk × List Tk).1 ++ [(([s.tk], (⟨5, s.h.f, s.h.t⟩ : Tk), []) : List Tk × Tk × List Tk).2.1])]) (p := ended s = (([s.tk], (⟨5, s.h.f, s.h.t⟩ : Tk), []) : List Tk × Tk × List Tk).1 ++ (([s.tk], (⟨5, s.h.f, s.h.t⟩ : Tk), []) : List Tk × Tk × List Tk).2.1 :: (([s.tk], (⟨5, s.h.f, s.h.t⟩ : Tk), []) : List Tk × Tk × List Tk).2.2) (some (([s.tk], (⟨5, s.h.f, s.h.t⟩ : Tk), []) : List Tk × Tk × List Tk)) (.inl rfl) Try.results63 (.cons (.tmp rfl) .nil) rfl (Splits.of [0, 1] (by as_aux_lemma => kernel_rfl) rfl) (by rw [hen]; rfl)
    ·
     -- no
     refine TO.move rfl (by decide) rfl (TO.skip rfl (by decide) (TO.skip rfl (by decide) (TO.skip rfl (by decide) (TO.skip rfl (by decide) (TO.skip rfl (by decide) (TO.skip rfl (by decide) (TO.skip rfl (by decide) (TO.skip rfl (by decide) (TO.pick (b := false) rfl (by decide) rfl rfl (TO.assign rfl (by decide) rfl (TO.nil (TX.next (TC.ret ?_)))))))))))))
     refine TX.blockRet (TX.thenRet (TX.rewE (k := 1) rfl (show X (pre ++ [s.tk]) = X (pre ++ (([], s.tk, [(⟨5, s.h.f, s.h.t⟩ : Tk)]) : List Tk × Tk × List Tk).1 ++ [(([], s.tk, [(⟨5, s.h.f, s.h.t⟩ : Tk)]) : List Tk × Tk × List Tk).2.1]) from (by simp)) ?_))
     show TX _ _ _ _ _ _ _ [cells b [.int .i64 s.st, .int .i64 s.tk.k, .int .i64 (s.tk.f : Int), .int .i64 (s.tk.t : Int), .int .i64 s.h.k, .int .i32 (s.h.r : Int), .int .i64 (s.h.f : Int), .int .i64 (s.h.t : Int), .bool s.h.al] 92, X (pre ++ (([], s.tk, [(⟨5, s.h.f, s.h.t⟩ : Tk)]) : List Tk × Tk × List Tk).1 ++ [(([], s.tk, [(⟨5, s.h.f, s.h.t⟩ : Tk)]) : List Tk × Tk × List Tk).2.1])]
     exact TX.finE (rs := [.tmp 4]) (As := [cells b (scV s) 92, X (pre ++ (([], s.tk, [(⟨5, s.h.f, s.h.t⟩ : Tk)]) : List Tk × Tk × List Tk).1 ++ [(([], s.tk, [(⟨5, s.h.f, s.h.t⟩ : Tk)]) : List Tk × Tk × List Tk).2.1])]) (p := ended s = (([], s.tk, [(⟨5, s.h.f, s.h.t⟩ : Tk)]) : List Tk × Tk × List Tk).1 ++ (([], s.tk, [(⟨5, s.h.f, s.h.t⟩ : Tk)]) : List Tk × Tk × List Tk).2.1 :: (([], s.tk, [(⟨5, s.h.f, s.h.t⟩ : Tk)]) : List Tk × Tk × List Tk).2.2) (some (([], s.tk, [(⟨5, s.h.f, s.h.t⟩ : Tk)]) : List Tk × Tk × List Tk)) (.inl rfl) Try.results63 (.cons (.tmp rfl) .nil) rfl (Splits.of [0, 1] (by as_aux_lemma => kernel_rfl) rfl) (by rw [hen]; rfl)
   ·
    -- no
    have h3 := beq_eq_false_iff_ne.1 h3
    refine TC.skip (TX.blockNormal (TX.next (TC.seq ?_)))
    have hen : ended s = [s.tk] := by unfold ended; simp_all
    refine TC.region (TO.move rfl (by decide) rfl (TO.move rfl (by decide) rfl (TO.nilCheck rfl (by decide) rfl (TO.fieldAddr fl_92_1 rfl (by decide) rfl (show _ = 1 from rfl) (TO.loads (k := 0) (cs := [.int .i64 s.tk.k, .int .i64 (s.tk.f : Int), .int .i64 (s.tk.t : Int)]) rw_65 rfl (by decide) rfl rfl rfl rfl ?_)))))
    refine TO.yield hy rfl (by decide) rfl (pre := pre) (e := s.tk) (post := post) (by rw [hz, hen]; simp) rfl (k := 1) rfl ?_ ?_
    ·
     -- yes
     refine TO.assign rfl (by decide) rfl (TO.nil (TX.next (TC.ret (TX.rewE (k := 1) rfl (show I (pre ++ [s.tk]) = I (pre ++ ended s) from (by simp [hen])) ?_))))
     show TX _ _ _ _ _ _ _ [cells b [.int .i64 s.st, .int .i64 s.tk.k, .int .i64 (s.tk.f : Int), .int .i64 (s.tk.t : Int), .int .i64 s.h.k, .int .i32 (s.h.r : Int), .int .i64 (s.h.f : Int), .int .i64 (s.h.t : Int), .bool s.h.al] 92, I (pre ++ ended s)]
     exact TX.fin (rs := [.tmp 4]) (none : Option (List Tk × Tk × List Tk)) (.inl rfl) Try.results63 (.cons (.tmp rfl) .nil) rfl (Splits.of [0, 1] (by as_aux_lemma => kernel_rfl) rfl)
    ·
     -- no
     refine TO.assign rfl (by decide) rfl (TO.nil (TX.next (TC.ret (TX.rewE (k := 1) rfl (show X (pre ++ [s.tk]) = X (pre ++ (([], s.tk, []) : List Tk × Tk × List Tk).1 ++ [(([], s.tk, []) : List Tk × Tk × List Tk).2.1]) from (by simp)) ?_))))
     show TX _ _ _ _ _ _ _ [cells b [.int .i64 s.st, .int .i64 s.tk.k, .int .i64 (s.tk.f : Int), .int .i64 (s.tk.t : Int), .int .i64 s.h.k, .int .i32 (s.h.r : Int), .int .i64 (s.h.f : Int), .int .i64 (s.h.t : Int), .bool s.h.al] 92, X (pre ++ (([], s.tk, []) : List Tk × Tk × List Tk).1 ++ [(([], s.tk, []) : List Tk × Tk × List Tk).2.1])]
     exact TX.finE (rs := [.tmp 4]) (As := [cells b (scV s) 92, X (pre ++ (([], s.tk, []) : List Tk × Tk × List Tk).1 ++ [(([], s.tk, []) : List Tk × Tk × List Tk).2.1])]) (p := ended s = (([], s.tk, []) : List Tk × Tk × List Tk).1 ++ (([], s.tk, []) : List Tk × Tk × List Tk).2.1 :: (([], s.tk, []) : List Tk × Tk × List Tk).2.2) (some (([], s.tk, []) : List Tk × Tk × List Tk)) (.inl rfl) Try.results63 (.cons (.tmp rfl) .nil) rfl (Splits.of [0, 1] (by as_aux_lemma => kernel_rfl) rfl) (by rw [hen]; rfl)
  ·
   -- no
   have h2 := beq_eq_false_iff_ne.1 h2
   refine TC.region (TO.bin rfl (by decide) rfl rfl bin_eql (TO.assign rfl (by decide) rfl (TO.nil (TX.next ?_))))
   refine TC.condB rfl (fun h4 => ?_) (fun h4 => ?_)
   ·
    -- yes
    have h4 := beq_iff_eq.1 h4
    refine TC.seq ?_
    have hen : ended s = [s.tk, ⟨5, s.h.f, s.h.t⟩] := by unfold ended; simp_all
    refine TC.region (TO.move rfl (by decide) rfl (TO.move rfl (by decide) rfl (TO.nilCheck rfl (by decide) rfl (TO.fieldAddr fl_92_1 rfl (by decide) rfl (show _ = 1 from rfl) (TO.loads (k := 0) (cs := [.int .i64 s.tk.k, .int .i64 (s.tk.f : Int), .int .i64 (s.tk.t : Int)]) rw_65 rfl (by decide) rfl rfl rfl rfl ?_)))))
    refine TO.yield hy rfl (by decide) rfl (pre := pre) (e := s.tk) (post := [⟨5, s.h.f, s.h.t⟩] ++ post) (by rw [hz, hen]; simp) rfl (k := 1) rfl ?_ ?_
    ·
     -- yes
     refine TO.move rfl (by decide) rfl (TO.move rfl (by decide) rfl (TO.move rfl (by decide) rfl (TO.nilCheck rfl (by decide) rfl (TO.fieldAddr fl_92_2 rfl (by decide) rfl (show _ = 4 from rfl) (TO.fieldAddr fl_90_2 rfl (by decide) rfl (show _ = 6 from rfl) (TO.loads (k := 0) (cs := [.int .i64 (s.h.f : Int), .int .i64 (s.h.t : Int)]) rw_26 rfl (by decide) rfl rfl rfl rfl ?_))))))
     refine TO.build (v := .agg #[.int .i64 5, .int .i64 (s.h.f : Int), .int .i64 (s.h.t : Int)]) (ps := [(0, .const (.int .i64 5)), (1, .tmp 26)]) rfl (by decide) rfl (fun _ => by kernel_rfl) ?_
     refine TO.yield hy rfl (by decide) rfl (pre := (pre ++ [s.tk])) (e := (⟨5, s.h.f, s.h.t⟩ : Tk)) (post := post) (by rw [hz, hen]; simp) rfl (k := 1) rfl ?_ ?_
     ·
      -- yes
      refine TO.pick (b := true) rfl (by decide) rfl rfl (TO.assign rfl (by decide) rfl (TO.nil (TX.next (TC.ret (TX.blockRet (TX.thenRet (TX.rewE (k := 1) rfl (show I ((pre ++ [s.tk]) ++ [(⟨5, s.h.f, s.h.t⟩ : Tk)]) = I (pre ++ ended s) from (by simp [hen])) ?_)))))))
      show TX _ _ _ _ _ _ _ [cells b [.int .i64 s.st, .int .i64 s.tk.k, .int .i64 (s.tk.f : Int), .int .i64 (s.tk.t : Int), .int .i64 s.h.k, .int .i32 (s.h.r : Int), .int .i64 (s.h.f : Int), .int .i64 (s.h.t : Int), .bool s.h.al] 92, I (pre ++ ended s)]
      exact TX.fin (rs := [.tmp 4]) (none : Option (List Tk × Tk × List Tk)) (.inl rfl) Try.results63 (.cons (.tmp rfl) .nil) rfl (Splits.of [0, 1] (by as_aux_lemma => kernel_rfl) rfl)
     ·
      -- no
      refine TO.pick (b := true) rfl (by decide) rfl rfl (TO.assign rfl (by decide) rfl (TO.nil (TX.next (TC.ret (TX.blockRet (TX.thenRet (TX.rewE (k := 1) rfl (show X ((pre ++ [s.tk]) ++ [(⟨5, s.h.f, s.h.t⟩ : Tk)]) = X (pre ++ (([s.tk], (⟨5, s.h.f, s.h.t⟩ : Tk), []) : List Tk × Tk × List Tk).1 ++ [(([s.tk], (⟨5, s.h.f, s.h.t⟩ : Tk), []) : List Tk × Tk × List Tk).2.1]) from (by simp)) ?_)))))))
      show TX _ _ _ _ _ _ _ [cells b [.int .i64 s.st, .int .i64 s.tk.k, .int .i64 (s.tk.f : Int), .int .i64 (s.tk.t : Int), .int .i64 s.h.k, .int .i32 (s.h.r : Int), .int .i64 (s.h.f : Int), .int .i64 (s.h.t : Int), .bool s.h.al] 92, X (pre ++ (([s.tk], (⟨5, s.h.f, s.h.t⟩ : Tk), []) : List Tk × Tk × List Tk).1 ++ [(([s.tk], (⟨5, s.h.f, s.h.t⟩ : Tk), []) : List Tk × Tk × List Tk).2.1])]
      exact TX.finE (rs := [.tmp 4]) (As := [cells b (scV s) 92, X (pre ++ (([s.tk], (⟨5, s.h.f, s.h.t⟩ : Tk), []) : List Tk × Tk × List Tk).1 ++ [(([s.tk], (⟨5, s.h.f, s.h.t⟩ : Tk), []) : List Tk × Tk × List Tk).2.1])]) (p := ended s = (([s.tk], (⟨5, s.h.f, s.h.t⟩ : Tk), []) : List Tk × Tk × List Tk).1 ++ (([s.tk], (⟨5, s.h.f, s.h.t⟩ : Tk), []) : List Tk × Tk × List Tk).2.1 :: (([s.tk], (⟨5, s.h.f, s.h.t⟩ : Tk), []) : List Tk × Tk × List Tk).2.2) (some (([s.tk], (⟨5, s.h.f, s.h.t⟩ : Tk), []) : List Tk × Tk × List Tk)) (.inl rfl) Try.results63 (.cons (.tmp rfl) .nil) rfl (Splits.of [0, 1] (by as_aux_lemma => kernel_rfl) rfl) (by rw [hen]; rfl)
    ·
     -- no
     refine TO.move rfl (by decide) rfl (TO.skip rfl (by decide) (TO.skip rfl (by decide) (TO.skip rfl (by decide) (TO.skip rfl (by decide) (TO.skip rfl (by decide) (TO.skip rfl (by decide) (TO.skip rfl (by decide) (TO.skip rfl (by decide) (TO.pick (b := false) rfl (by decide) rfl rfl (TO.assign rfl (by decide) rfl (TO.nil (TX.next (TC.ret ?_)))))))))))))
     refine TX.blockRet (TX.thenRet (TX.rewE (k := 1) rfl (show X (pre ++ [s.tk]) = X (pre ++ (([], s.tk, [(⟨5, s.h.f, s.h.t⟩ : Tk)]) : List Tk × Tk × List Tk).1 ++ [(([], s.tk, [(⟨5, s.h.f, s.h.t⟩ : Tk)]) : List Tk × Tk × List Tk).2.1]) from (by simp)) ?_))
     show TX _ _ _ _ _ _ _ [cells b [.int .i64 s.st, .int .i64 s.tk.k, .int .i64 (s.tk.f : Int), .int .i64 (s.tk.t : Int), .int .i64 s.h.k, .int .i32 (s.h.r : Int), .int .i64 (s.h.f : Int), .int .i64 (s.h.t : Int), .bool s.h.al] 92, X (pre ++ (([], s.tk, [(⟨5, s.h.f, s.h.t⟩ : Tk)]) : List Tk × Tk × List Tk).1 ++ [(([], s.tk, [(⟨5, s.h.f, s.h.t⟩ : Tk)]) : List Tk × Tk × List Tk).2.1])]
     exact TX.finE (rs := [.tmp 4]) (As := [cells b (scV s) 92, X (pre ++ (([], s.tk, [(⟨5, s.h.f, s.h.t⟩ : Tk)]) : List Tk × Tk × List Tk).1 ++ [(([], s.tk, [(⟨5, s.h.f, s.h.t⟩ : Tk)]) : List Tk × Tk × List Tk).2.1])]) (p := ended s = (([], s.tk, [(⟨5, s.h.f, s.h.t⟩ : Tk)]) : List Tk × Tk × List Tk).1 ++ (([], s.tk, [(⟨5, s.h.f, s.h.t⟩ : Tk)]) : List Tk × Tk × List Tk).2.1 :: (([], s.tk, [(⟨5, s.h.f, s.h.t⟩ : Tk)]) : List Tk × Tk × List Tk).2.2) (some (([], s.tk, [(⟨5, s.h.f, s.h.t⟩ : Tk)]) : List Tk × Tk × List Tk)) (.inl rfl) Try.results63 (.cons (.tmp rfl) .nil) rfl (Splits.of [0, 1] (by as_aux_lemma => kernel_rfl) rfl) (by rw [hen]; rfl)
   ·
    -- no
    have h4 := beq_eq_false_iff_ne.1 h4
    refine TC.skip (TX.blockNormal (TX.next (TC.seq ?_)))
    have hen : ended s = [s.tk] := by unfold ended; simp_all
    refine TC.region (TO.move rfl (by decide) rfl (TO.move rfl (by decide) rfl (TO.nilCheck rfl (by decide) rfl (TO.fieldAddr fl_92_1 rfl (by decide) rfl (show _ = 1 from rfl) (TO.loads (k := 0) (cs := [.int .i64 s.tk.k, .int .i64 (s.tk.f : Int), .int .i64 (s.tk.t : Int)]) rw_65 rfl (by decide) rfl rfl rfl rfl ?_)))))
    refine TO.yield hy rfl (by decide) rfl (pre := pre) (e := s.tk) (post := post) (by rw [hz, hen]; simp) rfl (k := 1) rfl ?_ ?_
    ·
     -- yes
     refine TO.assign rfl (by decide) rfl (TO.nil (TX.next (TC.ret (TX.rewE (k := 1) rfl (show I (pre ++ [s.tk]) = I (pre ++ ended s) from (by simp [hen])) ?_))))
     show TX _ _ _ _ _ _ _ [cells b [.int .i64 s.st, .int .i64 s.tk.k, .int .i64 (s.tk.f : Int), .int .i64 (s.tk.t : Int), .int .i64 s.h.k, .int .i32 (s.h.r : Int), .int .i64 (s.h.f : Int), .int .i64 (s.h.t : Int), .bool s.h.al] 92, I (pre ++ ended s)]
     exact TX.fin (rs := [.tmp 4]) (none : Option (List Tk × Tk × List Tk)) (.inl rfl) Try.results63 (.cons (.tmp rfl) .nil) rfl (Splits.of [0, 1] (by as_aux_lemma => kernel_rfl) rfl)
    ·
     -- no
     refine TO.assign rfl (by decide) rfl (TO.nil (TX.next (TC.ret (TX.rewE (k := 1) rfl (show X (pre ++ [s.tk]) = X (pre ++ (([], s.tk, []) : List Tk × Tk × List Tk).1 ++ [(([], s.tk, []) : List Tk × Tk × List Tk).2.1]) from (by simp)) ?_))))
     show TX _ _ _ _ _ _ _ [cells b [.int .i64 s.st, .int .i64 s.tk.k, .int .i64 (s.tk.f : Int), .int .i64 (s.tk.t : Int), .int .i64 s.h.k, .int .i32 (s.h.r : Int), .int .i64 (s.h.f : Int), .int .i64 (s.h.t : Int), .bool s.h.al] 92, X (pre ++ (([], s.tk, []) : List Tk × Tk × List Tk).1 ++ [(([], s.tk, []) : List Tk × Tk × List Tk).2.1])]
     exact TX.finE (rs := [.tmp 4]) (As := [cells b (scV s) 92, X (pre ++ (([], s.tk, []) : List Tk × Tk × List Tk).1 ++ [(([], s.tk, []) : List Tk × Tk × List Tk).2.1])]) (p := ended s = (([], s.tk, []) : List Tk × Tk × List Tk).1 ++ (([], s.tk, []) : List Tk × Tk × List Tk).2.1 :: (([], s.tk, []) : List Tk × Tk × List Tk).2.2) (some (([], s.tk, []) : List Tk × Tk × List Tk)) (.inl rfl) Try.results63 (.cons (.tmp rfl) .nil) rfl (Splits.of [0, 1] (by as_aux_lemma => kernel_rfl) rfl) (by rw [hen]; rfl)
end Go.Proofs.Ytlamcpgnmeileaa
namespace Go.Proofs.Ytlamcpgnmeileaa
open Go.RowKit Go.Lib
set_option linter.unusedVariables false
set_option linter.unusedSimpArgs false
theorem TO.fact {F : Fence} {P : Program} {w0 : World} {K : Nat → Prop} {N : Nat} {dfs : List Deferred} {ops : Array Oper} {Q : Exit → Act → World → Prop} {rest : List Oper} {σ : List (Nat × Value)} {L : List Asn} {k : Nat} {p : Prop}
    (hk : L[k]? = some (Go.Proofs.Ytlamcpgnmeileaa.fact p)) (h : p → TO F P w0 K N dfs ops Q rest σ L) : TO F P w0 K N dfs ops Q rest σ L := fun a w ha hw => by
  obtain ⟨C1, _, h2, _⟩ := hw.focus' hk
  exact h h2.2 a w ha hw
theorem fitted_zero (s : Sc) (u : Un) (h2 : (fits s.st u).2 ≠ 2) (h1 : (fits s.st u).2 ≠ 1) : fitted s u = s := by
  have h3 : (fits s.st u).1 = s.st := by
    revert h2 h1
    unfold fits
    repeat' split
    all_goals simp_all
  unfold fitted
  rw [if_neg h2, h3]
set_option maxRecDepth 100000 in
set_option maxHeartbeats 4000000 in
theorem scan1_itr (s : ByteArray) (hs : s.size ≤ 4611686018427387904) (Bs : Nat) : Itr Try.prog 60 [.pointer (some ⟨Bs, 0, none⟩)] tkA (scan (units (pcs s.data.toList))) [(Bs, .cells #[.string s] 9 (0, 0))] := by
 refine Itr.intro Try.func60 rfl Try.ntmps60 (by simp) ?_
 intro l w0 K I X hRo hy
 refine TC.seq (TC.region ?_)
 refine TO.box rfl (by decide) rfl (fun b1 => ?_)
 refine TO.nil (TX.next (TC.seq (TC.region ?_)))
 refine TO.alloc zr_92 rfl (by decide) (fun b2 => ?_)
 refine TO.nil (TX.next (TC.seq (TC.seq (TC.region (TO.loadRo (i := 0) hRo sc_9 rfl (by decide) rfl rfl rfl (TO.call (vs := [.string s]) rfl (by decide) rfl rfl rfl en_61 (units_fn s) Splits.nil ?_))))))
 rintro bp
 show TO _ _ _ _ _ _ _ _ _ _ [I [], cells b1 [.func (.yield l) #[] #[]] 88, cells b2 [.int .i64 0, .int .i64 0, .int .i64 0, .int .i64 0, .int .i64 0, .int .i32 0, .int .i64 0, .int .i64 0, .bool false] 92, cells bp [.string s] 9]
 refine TO.nil (TX.next (TC.block ?_))
 refine TC.range (α := Un) (β := List Tk × Sc) (γ := List Tk × Tk × List Tk) (δ := Nat) (ps := [7]) hRo rfl en_82 (units1_itr s (by omega) bp) (fun pre b => mfold pre = b) (fun pre b => [cells b1 [.func (.yield l) #[] #[]] 88, cells b2 [.int .i64 b.2.st, .int .i64 b.2.tk.k, .int .i64 (b.2.tk.f : Int), .int .i64 (b.2.tk.t : Int), .int .i64 b.2.h.k, .int .i32 (b.2.h.r : Int), .int .i64 (b.2.h.f : Int), .int .i64 (b.2.h.t : Int), .bool b.2.h.al] 92, I b.1]) (fun c pre g => c = .ret ∧ scan (units (pcs s.data.toList)) = g.1 ++ g.2.1 :: g.2.2) (fun c pre g => [X (g.1 ++ [g.2.1])]) (fun pre x b j => [(2, .pointer (some ⟨b1, 0, none⟩)), (3, .pointer (some ⟨b2, 0, none⟩)), (4, .pointer (some ⟨j, 0, none⟩))]) (fun pre x b j => [cells b1 [.func (.yield l) #[] #[]] 88, cells b2 [.int .i64 b.2.st, .int .i64 b.2.tk.k, .int .i64 (b.2.tk.f : Int), .int .i64 (b.2.tk.t : Int), .int .i64 b.2.h.k, .int .i32 (b.2.h.r : Int), .int .i64 (b.2.h.f : Int), .int .i64 (b.2.h.t : Int), .bool b.2.h.al] 92, I b.1, cells j [.int .i64 x.k, .int .i32 (x.r : Int), .int .i64 (x.f : Int), .int .i64 (x.t : Int), .bool x.al] 90]) ([], sc0) rfl (Splits.of [1, 2, 0] (by as_aux_lemma => kernel_rfl) rfl) ⟨.inl ⟨3, rfl⟩, trivial⟩ (fun _ => rfl) (by decide) ?_ ?_ ?_ ?_
 ·
  rintro lp rc pre x post b w1 K1 hxs hext hro hinv
  refine TC.region ?_
  refine TO.alloc zr_90 rfl (by decide) (fun b3 => ?_)
  refine TO.stores (k := 3) (vs := [.int .i64 x.k, .int .i32 (x.r : Int), .int .i64 (x.f : Int), .int .i64 (x.t : Int), .bool x.al]) (l' := [.int .i64 x.k, .int .i32 (x.r : Int), .int .i64 (x.f : Int), .int .i64 (x.t : Int), .bool x.al]) sz_90 rfl rfl rfl rfl rfl (show _ ≤ _ by simp) rfl rfl ?_
  show TO _ _ _ _ _ _ _ _ _ _ [cells b1 [.func (.yield l) #[] #[]] 88, cells b2 [.int .i64 b.2.st, .int .i64 b.2.tk.k, .int .i64 (b.2.tk.f : Int), .int .i64 (b.2.tk.t : Int), .int .i64 b.2.h.k, .int .i32 (b.2.h.r : Int), .int .i64 (b.2.h.f : Int), .int .i64 (b.2.h.t : Int), .bool b.2.h.al] 92, I b.1, cells b3 [.int .i64 x.k, .int .i32 (x.r : Int), .int .i64 (x.f : Int), .int .i64 (x.t : Int), .bool x.al] 90]
  refine TO.nil ?_
  exact fun a w ha hw => ⟨b3, (Sbs.cons rfl (Sbs.cons rfl (Sbs.cons rfl (Sbs.nil)))) _ _ _ ha, hw.weaken (Splits.of [0, 1, 2, 3] (by as_aux_lemma => kernel_rfl) rfl)⟩
 ·
  rintro lp rc pre x post b j w1 K1 hxs hext hro hinv
  obtain ⟨E, sc⟩ := b
  have hinv : mfold pre = (E, sc) := hinv
  have hsn := mfold_snoc pre x
  rw [hinv] at hsn
  show TC _ _ _ _ _ _ _ _ _ [cells b1 [.func (.yield l) #[] #[]] 88, cells b2 [.int .i64 sc.st, .int .i64 sc.tk.k, .int .i64 (sc.tk.f : Int), .int .i64 (sc.tk.t : Int), .int .i64 sc.h.k, .int .i32 (sc.h.r : Int), .int .i64 (sc.h.f : Int), .int .i64 (sc.h.t : Int), .bool sc.h.al] 92, I E, cells j [.int .i64 x.k, .int .i32 (x.r : Int), .int .i64 (x.f : Int), .int .i64 (x.t : Int), .bool x.al] 90]
  by_cases h2 : (fits sc.st x).2 = 2
  ·
   refine TC.block ?_
   refine TC.scope (β := Unit) (l := 0) (fun _ => False) (fun _ => [(2, .pointer (some ⟨b1, 0, none⟩)), (3, .pointer (some ⟨b2, 0, none⟩)), (4, .pointer (some ⟨j, 0, none⟩))]) (fun _ => [cells b1 [.func (.yield l) #[] #[]] 88, cells b2 [.int .i64 ((fitted sc x).st), .int .i64 ((fitted sc x).tk.k), .int .i64 ((fitted sc x).tk.f : Int), .int .i64 ((fitted sc x).tk.t : Int), .int .i64 ((fitted sc x).h.k), .int .i32 ((fitted sc x).h.r : Int), .int .i64 ((fitted sc x).h.f : Int), .int .i64 ((fitted sc x).h.t : Int), .bool ((fitted sc x).h.al)] 92, I E, cells j [.int .i64 x.k, .int .i32 (x.r : Int), .int .i64 (x.f : Int), .int .i64 (x.t : Int), .bool x.al] 90]) rfl ?_ ?_
   ·
    refine TC.seq (TC.seq (TC.region (TO.loads (k := 3) (cs := [.int .i64 x.k, .int .i32 (x.r : Int), .int .i64 (x.f : Int), .int .i64 (x.t : Int), .bool x.al]) rw_90 rfl (by decide) rfl rfl rfl rfl (TO.call (vs := [.pointer (some ⟨b2, 0, none⟩), .agg #[.int .i64 x.k, .int .i32 (x.r : Int), .int .i64 (x.f : Int), .int .i64 (x.t : Int), .bool x.al]]) rfl (by decide) rfl rfl rfl en_62 (fits_fn b2 sc x) (Splits.of [1] (by as_aux_lemma => kernel_rfl) rfl) ?_))))
    rintro ⟨⟩
    show TO _ _ _ _ _ _ _ _ _ _ [cells b1 [.func (.yield l) #[] #[]] 88, emp, I E, cells j [.int .i64 x.k, .int .i32 (x.r : Int), .int .i64 (x.f : Int), .int .i64 (x.t : Int), .bool x.al] 90, cells b2 [.int .i64 ((fitted sc x).st), .int .i64 ((fitted sc x).tk.k), .int .i64 ((fitted sc x).tk.f : Int), .int .i64 ((fitted sc x).tk.t : Int), .int .i64 ((fitted sc x).h.k), .int .i32 ((fitted sc x).h.r : Int), .int .i64 ((fitted sc x).h.f : Int), .int .i64 ((fitted sc x).h.t : Int), .bool ((fitted sc x).h.al)] 92]
    refine TO.nil (TX.next (TC.block (TC.seq (TC.region (TO.bin rfl (by decide) rfl rfl (bin_known (congrArg Value.bool (show ((((fits sc.st x).2) : Int) == 2) = true from (beq_iff_eq.2 h2))) bin_eql) (TO.assign rfl (by decide) rfl (TO.nil (TX.next (TC.condT rfl (TC.exit (TX.blockOn (by decide) (TX.thenExit (TX.jumpOn (by simp) ?_)))))))))))))
    refine TX.blockHere ?_
    exact TX.round (E, fitted sc x) (by show mfold (pre ++ [x]) = _; rw [hsn]; simp only [mstep, fitted]; rw [if_pos h2, if_pos h2]) (Splits.of [0, 4, 2] (by as_aux_lemma => kernel_rfl) rfl)
   ·
    rintro ⟨⟩ hI
    show TC _ _ _ _ _ _ _ _ _ [cells b1 [.func (.yield l) #[] #[]] 88, cells b2 [.int .i64 ((fitted sc x).st), .int .i64 ((fitted sc x).tk.k), .int .i64 ((fitted sc x).tk.f : Int), .int .i64 ((fitted sc x).tk.t : Int), .int .i64 ((fitted sc x).h.k), .int .i32 ((fitted sc x).h.r : Int), .int .i64 ((fitted sc x).h.f : Int), .int .i64 ((fitted sc x).h.t : Int), .bool ((fitted sc x).h.al)] 92, I E, cells j [.int .i64 x.k, .int .i32 (x.r : Int), .int .i64 (x.f : Int), .int .i64 (x.t : Int), .bool x.al] 90]
    exact hI.elim
  ·
   by_cases h1 : (fits sc.st x).2 = 1
   ·
    refine TC.block ?_
    refine TC.scope (β := Unit) (l := 0) (fun _ => True) (fun _ => [(2, .pointer (some ⟨b1, 0, none⟩)), (3, .pointer (some ⟨b2, 0, none⟩)), (4, .pointer (some ⟨j, 0, none⟩))]) (fun _ => [cells b1 [.func (.yield l) #[] #[]] 88, cells b2 [.int .i64 ((fitted sc x).st), .int .i64 ((fitted sc x).tk.k), .int .i64 ((fitted sc x).tk.f : Int), .int .i64 ((fitted sc x).tk.t : Int), .int .i64 ((fitted sc x).h.k), .int .i32 ((fitted sc x).h.r : Int), .int .i64 ((fitted sc x).h.f : Int), .int .i64 ((fitted sc x).h.t : Int), .bool ((fitted sc x).h.al)] 92, I E, cells j [.int .i64 x.k, .int .i32 (x.r : Int), .int .i64 (x.f : Int), .int .i64 (x.t : Int), .bool x.al] 90]) rfl ?_ ?_
    ·
     refine TC.seq (TC.seq (TC.region (TO.loads (k := 3) (cs := [.int .i64 x.k, .int .i32 (x.r : Int), .int .i64 (x.f : Int), .int .i64 (x.t : Int), .bool x.al]) rw_90 rfl (by decide) rfl rfl rfl rfl (TO.call (vs := [.pointer (some ⟨b2, 0, none⟩), .agg #[.int .i64 x.k, .int .i32 (x.r : Int), .int .i64 (x.f : Int), .int .i64 (x.t : Int), .bool x.al]]) rfl (by decide) rfl rfl rfl en_62 (fits_fn b2 sc x) (Splits.of [1] (by as_aux_lemma => kernel_rfl) rfl) ?_))))
     rintro ⟨⟩
     show TO _ _ _ _ _ _ _ _ _ _ [cells b1 [.func (.yield l) #[] #[]] 88, emp, I E, cells j [.int .i64 x.k, .int .i32 (x.r : Int), .int .i64 (x.f : Int), .int .i64 (x.t : Int), .bool x.al] 90, cells b2 [.int .i64 ((fitted sc x).st), .int .i64 ((fitted sc x).tk.k), .int .i64 ((fitted sc x).tk.f : Int), .int .i64 ((fitted sc x).tk.t : Int), .int .i64 ((fitted sc x).h.k), .int .i32 ((fitted sc x).h.r : Int), .int .i64 ((fitted sc x).h.f : Int), .int .i64 ((fitted sc x).h.t : Int), .bool ((fitted sc x).h.al)] 92]
     refine TO.nil (TX.next (TC.block (TC.seq (TC.region (TO.bin rfl (by decide) rfl rfl (bin_known (congrArg Value.bool (show ((((fits sc.st x).2) : Int) == 2) = false from (beq_eq_false_iff_ne.2 h2))) bin_eql) (TO.assign rfl (by decide) rfl (TO.nil (TX.next (TC.condF rfl (TC.seq (TC.region (TO.bin rfl (by decide) rfl rfl (bin_known (congrArg Value.bool (show ((((fits sc.st x).2) : Int) == 1) = true from (beq_iff_eq.2 h1))) bin_eql) (TO.assign rfl (by decide) rfl ?_)))))))))))))
     refine TO.nil (TX.next (TC.condT rfl (TC.goto (TX.blockGoto (TX.thenGoto ?_)))))
     exact TX.jump () trivial (Sbs.cons rfl (Sbs.cons rfl (Sbs.cons rfl (Sbs.nil)))) (Splits.of [0, 4, 2, 3] (by as_aux_lemma => kernel_rfl) rfl)
    ·
     rintro ⟨⟩ hI
     show TC _ _ _ _ _ _ _ _ _ [cells b1 [.func (.yield l) #[] #[]] 88, cells b2 [.int .i64 ((fitted sc x).st), .int .i64 ((fitted sc x).tk.k), .int .i64 ((fitted sc x).tk.f : Int), .int .i64 ((fitted sc x).tk.t : Int), .int .i64 ((fitted sc x).h.k), .int .i32 ((fitted sc x).h.r : Int), .int .i64 ((fitted sc x).h.f : Int), .int .i64 ((fitted sc x).h.t : Int), .bool ((fitted sc x).h.al)] 92, I E, cells j [.int .i64 x.k, .int .i32 (x.r : Int), .int .i64 (x.f : Int), .int .i64 (x.t : Int), .bool x.al] 90]
     refine TC.seq (TC.skip (TX.next (TC.region (TO.fieldAddr fl_90_2 rfl (by decide) rfl (show _ = 2 from rfl) (TO.fieldAddr fl_26_1 rfl (by decide) rfl (show _ = 3 from rfl) (TO.load (k := 3) sc_3 rfl (by decide) rfl rfl rfl (TO.fieldAddr fl_92_1 rfl (by decide) rfl (show _ = 1 from rfl) (TO.fieldAddr fl_65_1 rfl (by decide) rfl (show _ = 2 from rfl) (TO.fieldAddr fl_26_1 rfl (by decide) rfl (show _ = 3 from rfl) ?_)))))))))
     refine TO.store (k := 1) (l' := [.int .i64 ((fitted sc x).st), .int .i64 ((fitted sc x).tk.k), .int .i64 ((fitted sc x).tk.f : Int), .int .i64 (x.t : Int), .int .i64 ((fitted sc x).h.k), .int .i32 ((fitted sc x).h.r : Int), .int .i64 ((fitted sc x).h.f : Int), .int .i64 ((fitted sc x).h.t : Int), .bool ((fitted sc x).h.al)]) sz_3 rfl rfl rfl rfl rfl (fun _ _ => rfl) rfl ?_
     refine TO.nil (TX.noGoto (by simp) (TX.blockNormal ?_))
     exact TX.round (E, ⟨(fits sc.st x).1, ⟨sc.tk.k, sc.tk.f, x.t⟩, (fitted sc x).h⟩) (by show mfold (pre ++ [x]) = _; rw [hsn]; simp only [mstep, fitted]; rw [if_neg h2, if_pos h1, if_neg h2]) (Splits.of [0, 1, 2] (by as_aux_lemma => kernel_rfl) rfl)
   ·
    refine TC.block ?_
    refine TC.scope (β := Unit) (l := 0) (fun _ => False) (fun _ => [(2, .pointer (some ⟨b1, 0, none⟩)), (3, .pointer (some ⟨b2, 0, none⟩)), (4, .pointer (some ⟨j, 0, none⟩))]) (fun _ => [cells b1 [.func (.yield l) #[] #[]] 88, cells b2 [.int .i64 ((fitted sc x).st), .int .i64 ((fitted sc x).tk.k), .int .i64 ((fitted sc x).tk.f : Int), .int .i64 ((fitted sc x).tk.t : Int), .int .i64 ((fitted sc x).h.k), .int .i32 ((fitted sc x).h.r : Int), .int .i64 ((fitted sc x).h.f : Int), .int .i64 ((fitted sc x).h.t : Int), .bool ((fitted sc x).h.al)] 92, I E, cells j [.int .i64 x.k, .int .i32 (x.r : Int), .int .i64 (x.f : Int), .int .i64 (x.t : Int), .bool x.al] 90]) rfl ?_ ?_
    ·
     refine TC.seq (TC.seq (TC.region (TO.loads (k := 3) (cs := [.int .i64 x.k, .int .i32 (x.r : Int), .int .i64 (x.f : Int), .int .i64 (x.t : Int), .bool x.al]) rw_90 rfl (by decide) rfl rfl rfl rfl (TO.call (vs := [.pointer (some ⟨b2, 0, none⟩), .agg #[.int .i64 x.k, .int .i32 (x.r : Int), .int .i64 (x.f : Int), .int .i64 (x.t : Int), .bool x.al]]) rfl (by decide) rfl rfl rfl en_62 (fits_fn b2 sc x) (Splits.of [1] (by as_aux_lemma => kernel_rfl) rfl) ?_))))
     rintro ⟨⟩
     show TO _ _ _ _ _ _ _ _ _ _ [cells b1 [.func (.yield l) #[] #[]] 88, emp, I E, cells j [.int .i64 x.k, .int .i32 (x.r : Int), .int .i64 (x.f : Int), .int .i64 (x.t : Int), .bool x.al] 90, cells b2 [.int .i64 ((fitted sc x).st), .int .i64 ((fitted sc x).tk.k), .int .i64 ((fitted sc x).tk.f : Int), .int .i64 ((fitted sc x).tk.t : Int), .int .i64 ((fitted sc x).h.k), .int .i32 ((fitted sc x).h.r : Int), .int .i64 ((fitted sc x).h.f : Int), .int .i64 ((fitted sc x).h.t : Int), .bool ((fitted sc x).h.al)] 92]
     refine TO.nil (TX.next (TC.block (TC.seq (TC.region (TO.bin rfl (by decide) rfl rfl (bin_known (congrArg Value.bool (show ((((fits sc.st x).2) : Int) == 2) = false from (beq_eq_false_iff_ne.2 h2))) bin_eql) (TO.assign rfl (by decide) rfl (TO.nil (TX.next (TC.condF rfl (TC.seq (TC.region (TO.bin rfl (by decide) rfl rfl (bin_known (congrArg Value.bool (show ((((fits sc.st x).2) : Int) == 1) = false from (beq_eq_false_iff_ne.2 h1))) bin_eql) (TO.assign rfl (by decide) rfl ?_)))))))))))))
     refine TO.nil (TX.next (TC.condF rfl (TC.skip (TX.blockNormal (TX.next (TC.seq (TC.seq (TC.region (TO.load (k := 0) sc_88 rfl (by decide) rfl rfl rfl ?_)))))))))
     refine TO.rewE (k := 4) rfl (show cells b2 [.int .i64 ((fitted sc x).st), .int .i64 ((fitted sc x).tk.k), .int .i64 ((fitted sc x).tk.f : Int), .int .i64 ((fitted sc x).tk.t : Int), .int .i64 ((fitted sc x).h.k), .int .i32 ((fitted sc x).h.r : Int), .int .i64 ((fitted sc x).h.f : Int), .int .i64 ((fitted sc x).h.t : Int), .bool ((fitted sc x).h.al)] 92 = cells b2 [.int .i64 sc.st, .int .i64 sc.tk.k, .int .i64 (sc.tk.f : Int), .int .i64 (sc.tk.t : Int), .int .i64 sc.h.k, .int .i32 (sc.h.r : Int), .int .i64 (sc.h.f : Int), .int .i64 (sc.h.t : Int), .bool sc.h.al] 92 from (congrArg (fun z => cells b2 (scV z) 92) (fitted_zero sc x h2 h1))) ?_
     show TO _ _ _ _ _ _ _ _ _ _ [cells b1 [.func (.yield l) #[] #[]] 88, emp, I E, cells j [.int .i64 x.k, .int .i32 (x.r : Int), .int .i64 (x.f : Int), .int .i64 (x.t : Int), .bool x.al] 90, cells b2 [.int .i64 sc.st, .int .i64 sc.tk.k, .int .i64 (sc.tk.f : Int), .int .i64 (sc.tk.t : Int), .int .i64 sc.h.k, .int .i32 (sc.h.r : Int), .int .i64 (sc.h.f : Int), .int .i64 (sc.h.t : Int), .bool sc.h.al] 92]
     obtain ⟨q, hq⟩ := scan_at pre post x (by rw [hinv]; exact ⟨h2, h1⟩)
     rw [hinv, ← hxs] at hq
     refine TO.callW (vs := [.pointer (some ⟨b2, 0, none⟩), .func (.yield l) #[] #[]]) rfl (by decide) rfl rfl rfl en_63 (fun w C hx => end_w (hy.later (hext.trans hx)) b2 sc E q hq) (Splits.of [4, 2] (by as_aux_lemma => kernel_rfl) rfl) ?_
     rintro (_ | g)
     ·
      -- yes
      show TO _ _ _ _ _ _ _ _ _ _ [cells b1 [.func (.yield l) #[] #[]] 88, emp, emp, cells j [.int .i64 x.k, .int .i32 (x.r : Int), .int .i64 (x.f : Int), .int .i64 (x.t : Int), .bool x.al] 90, emp, cells b2 [.int .i64 sc.st, .int .i64 sc.tk.k, .int .i64 (sc.tk.f : Int), .int .i64 (sc.tk.t : Int), .int .i64 sc.h.k, .int .i32 (sc.h.r : Int), .int .i64 (sc.h.f : Int), .int .i64 (sc.h.t : Int), .bool sc.h.al] 92, I (E ++ ended sc)]
      refine TO.un rfl (by decide) rfl un_not (TO.nil (TX.next (TC.condF rfl (TC.skip (TX.next (TC.seq (TC.region (TO.loads (k := 3) (cs := [.int .i64 x.k, .int .i32 (x.r : Int), .int .i64 (x.f : Int), .int .i64 (x.t : Int), .bool x.al]) rw_90 rfl (by decide) rfl rfl rfl rfl (TO.call (vs := [.pointer (some ⟨b2, 0, none⟩), .agg #[.int .i64 x.k, .int .i32 (x.r : Int), .int .i64 (x.f : Int), .int .i64 (x.t : Int), .bool x.al]]) rfl (by decide) rfl rfl rfl en_64 (begin_fn b2 sc x) (Splits.of [5] (by as_aux_lemma => kernel_rfl) rfl) ?_)))))))))
      rintro ⟨⟩
      show TO _ _ _ _ _ _ _ _ _ _ [cells b1 [.func (.yield l) #[] #[]] 88, emp, emp, cells j [.int .i64 x.k, .int .i32 (x.r : Int), .int .i64 (x.f : Int), .int .i64 (x.t : Int), .bool x.al] 90, emp, emp, I (E ++ ended sc), cells b2 [.int .i64 ((began sc x).st), .int .i64 ((began sc x).tk.k), .int .i64 ((began sc x).tk.f : Int), .int .i64 ((began sc x).tk.t : Int), .int .i64 ((began sc x).h.k), .int .i32 ((began sc x).h.r : Int), .int .i64 ((began sc x).h.f : Int), .int .i64 ((began sc x).h.t : Int), .bool ((began sc x).h.al)] 92]
      refine TO.nil (TX.next (TC.seq (TC.exit (TX.thenExit (TX.jumpOn (by simp) (TX.blockHere ?_))))))
      exact TX.round (E ++ ended sc, began sc x) (by show mfold (pre ++ [x]) = _; rw [hsn, mstep_begin (E, sc) x h2 h1]) (Splits.of [0, 7, 6] (by as_aux_lemma => kernel_rfl) rfl)
     ·
      -- no
      show TO _ _ _ _ _ _ _ _ _ _ [cells b1 [.func (.yield l) #[] #[]] 88, emp, emp, cells j [.int .i64 x.k, .int .i32 (x.r : Int), .int .i64 (x.f : Int), .int .i64 (x.t : Int), .bool x.al] 90, emp, cells b2 [.int .i64 sc.st, .int .i64 sc.tk.k, .int .i64 (sc.tk.f : Int), .int .i64 (sc.tk.t : Int), .int .i64 sc.h.k, .int .i32 (sc.h.r : Int), .int .i64 (sc.h.f : Int), .int .i64 (sc.h.t : Int), .bool sc.h.al] 92, X (E ++ g.1 ++ [g.2.1]), fact (ended sc = g.1 ++ g.2.1 :: g.2.2)]
      refine TO.fact (k := 7) rfl (fun hg => ?_)
      refine TO.un rfl (by decide) rfl un_not (TO.nil (TX.next (TC.condT rfl (TC.ret (TX.thenRet (TX.jumpOn (by simp) (TX.blockRet ?_)))))))
      exact TX.roundRet (E ++ g.1, g.2.1, g.2.2 ++ q) ⟨rfl, by rw [hq, hg]; simp⟩ (Splits.of [6] (by as_aux_lemma => kernel_rfl) rfl)
    ·
     rintro ⟨⟩ hI
     show TC _ _ _ _ _ _ _ _ _ [cells b1 [.func (.yield l) #[] #[]] 88, cells b2 [.int .i64 ((fitted sc x).st), .int .i64 ((fitted sc x).tk.k), .int .i64 ((fitted sc x).tk.f : Int), .int .i64 ((fitted sc x).tk.t : Int), .int .i64 ((fitted sc x).h.k), .int .i32 ((fitted sc x).h.r : Int), .int .i64 ((fitted sc x).h.f : Int), .int .i64 ((fitted sc x).h.t : Int), .bool ((fitted sc x).h.al)] 92, I E, cells j [.int .i64 x.k, .int .i32 (x.r : Int), .int .i64 (x.f : Int), .int .i64 (x.t : Int), .bool x.al] 90]
     exact hI.elim
 ·
  rintro d b hinv
  show TX _ _ _ _ _ _ _ [emp, emp, emp, cells bp [.string s] 9, cells b1 [.func (.yield l) #[] #[]] 88, cells b2 [.int .i64 b.2.st, .int .i64 b.2.tk.k, .int .i64 (b.2.tk.f : Int), .int .i64 (b.2.tk.t : Int), .int .i64 b.2.h.k, .int .i32 (b.2.h.r : Int), .int .i64 (b.2.h.f : Int), .int .i64 (b.2.h.t : Int), .bool b.2.h.al] 92, I b.1, mark d]
  obtain ⟨E, sc⟩ := b
  have hinv : mfold (units (pcs s.data.toList)) = (E, sc) := hinv
  show TX _ _ _ _ _ _ _ [emp, emp, emp, cells bp [.string s] 9, cells b1 [.func (.yield l) #[] #[]] 88, cells b2 [.int .i64 sc.st, .int .i64 sc.tk.k, .int .i64 (sc.tk.f : Int), .int .i64 (sc.tk.t : Int), .int .i64 sc.h.k, .int .i32 (sc.h.r : Int), .int .i64 (sc.h.f : Int), .int .i64 (sc.h.t : Int), .bool sc.h.al] 92, I E, mark d]
  refine TX.blockNormal (TX.next (TC.region (TO.load (k := 4) sc_88 rfl (by decide) rfl rfl rfl ?_)))
  have hq : scan (units (pcs s.data.toList)) = E ++ ended sc ++ [] := by rw [List.append_nil]; unfold scan; rw [hinv]
  refine TO.callW (vs := [.pointer (some ⟨b2, 0, none⟩), .func (.yield l) #[] #[]]) rfl (by decide) rfl rfl rfl en_63 (fun w C hx => end_w (hy.later hx) b2 sc E [] hq) (Splits.of [5, 6] (by as_aux_lemma => kernel_rfl) rfl) ?_
  rintro (_ | g)
  ·
   -- yes
   show TO _ _ _ _ _ _ _ _ _ _ [emp, emp, emp, cells bp [.string s] 9, cells b1 [.func (.yield l) #[] #[]] 88, emp, emp, mark d, cells b2 [.int .i64 sc.st, .int .i64 sc.tk.k, .int .i64 (sc.tk.f : Int), .int .i64 (sc.tk.t : Int), .int .i64 sc.h.k, .int .i32 (sc.h.r : Int), .int .i64 (sc.h.f : Int), .int .i64 (sc.h.t : Int), .bool sc.h.al] 92, I (E ++ ended sc)]
   refine TO.nil ?_
   have he : I (scan (units (pcs s.data.toList))) = I (E ++ ended sc) := by rw [hq, List.append_nil]
   exact TX.finY (ds := [d]) (.inr rfl) (Splits.of [7] (by as_aux_lemma => kernel_rfl) rfl) Try.results60 he (Splits.of [9] (by as_aux_lemma => kernel_rfl) rfl)
  ·
   -- no
   show TO _ _ _ _ _ _ _ _ _ _ [emp, emp, emp, cells bp [.string s] 9, cells b1 [.func (.yield l) #[] #[]] 88, emp, emp, mark d, cells b2 [.int .i64 sc.st, .int .i64 sc.tk.k, .int .i64 (sc.tk.f : Int), .int .i64 (sc.tk.t : Int), .int .i64 sc.h.k, .int .i32 (sc.h.r : Int), .int .i64 (sc.h.f : Int), .int .i64 (sc.h.t : Int), .bool sc.h.al] 92, X (E ++ g.1 ++ [g.2.1]), fact (ended sc = g.1 ++ g.2.1 :: g.2.2)]
   refine TO.fact (k := 10) rfl (fun hg => ?_)
   refine TO.nil ?_
   exact TX.finX (ds := [d]) (E ++ g.1) g.2.1 g.2.2 (by rw [hq, hg]; simp) (.inr rfl) (Splits.of [7] (by as_aux_lemma => kernel_rfl) rfl) Try.results60 (Splits.of [9] (by as_aux_lemma => kernel_rfl) rfl)
 ·
  rintro d c pre x post g hxs hX
  show TC _ _ _ _ _ _ _ _ _ [emp, emp, emp, cells bp [.string s] 9, X (g.1 ++ [g.2.1]), mark d]
  obtain ⟨E, n, q⟩ := g
  obtain ⟨rfl, hq⟩ := hX
  refine TC.ret (TX.blockRet (TX.thenRet ?_))
  exact TX.finX (ds := [d]) E n q hq (.inl rfl) (Splits.of [5] (by as_aux_lemma => kernel_rfl) rfl) Try.results60 (Splits.of [4] (by as_aux_lemma => kernel_rfl) rfl)

theorem scan_fn (s : ByteArray) : Fn Try.prog 35 [.string s] [] (fun b : Nat => .func (.func 60) #[] #[.pointer (some ⟨b, 0, none⟩)]) (fun b => [cells b [.string s] 9]) := by
 refine Fn.intro Try.func35 rfl Try.ntmps35 (by simp) ?_
 intro w0 K
 refine TC.seq (TC.region ?_)
 refine TO.box rfl (by decide) rfl (fun b1 => ?_)
 refine TO.assign rfl (by decide) rfl (TO.nil (TX.next (TC.seq (TC.region (TO.makeFunc (x1 := []) (x2 := [.tmp 1]) rfl (by decide) rfl rfl (TO.assign rfl (by decide) rfl (TO.nil (TX.next (TC.ret ?_)))))))))
 exact TX.fin (rs := [.tmp 2]) b1 (.inl rfl) Try.results35 (.cons (.tmp rfl) .nil) rfl (Splits.of [0] (by as_aux_lemma => kernel_rfl) rfl)
end Go.Proofs.Ytlamcpgnmeileaa
namespace Go.Proofs.Ytlamcpgnmeileaa
open Go.RowKit Go.Lib
set_option linter.unusedVariables false
set_option linter.unusedSimpArgs false
/-- The words' spans. -/
def wds (l : List Tk) : List (Nat × Nat) := l.filterMap fun t => if t.k = 1 then some (t.f, t.t) else none
def spV (p : Nat × Nat) : List Value := [.int .i64 (p.1 : Int), .int .i64 (p.2 : Int)]
def spA (p : Nat × Nat) : List Value := [.agg (spV p).toArray]
set_option maxRecDepth 100000 in
set_option maxHeartbeats 4000000 in
theorem words1_itr (s : ByteArray) (hs : s.size ≤ 4611686018427387904) (Bs : Nat) : Itr Try.prog 34 [.pointer (some ⟨Bs, 0, none⟩)] spA (wds (scan (units (pcs s.data.toList)))) [(Bs, .cells #[.string s] 9 (0, 0))] := by
 refine Itr.intro Try.func34 rfl Try.ntmps34 (by simp) ?_
 intro l w0 K I X hRo hy
 refine TC.seq (TC.region ?_)
 refine TO.box rfl (by decide) rfl (fun b1 => ?_)
 refine TO.nil (TX.next (TC.seq (TC.region (TO.loadRo (i := 0) hRo sc_9 rfl (by decide) rfl rfl rfl (TO.call (vs := [.string s]) rfl (by decide) rfl rfl rfl en_35 (scan_fn s) Splits.nil ?_)))))
 rintro bp
 show TO _ _ _ _ _ _ _ _ _ _ [I [], cells b1 [.func (.yield l) #[] #[]] 60, cells bp [.string s] 9]
 refine TO.nil (TX.next (TC.block ?_))
 refine TC.range (α := Tk) (β := Unit) (γ := List (Nat × Nat) × (Nat × Nat) × List (Nat × Nat)) (δ := Nat) (ps := [6]) hRo rfl en_60 (scan1_itr s (by omega) bp) (fun pre b => True) (fun pre b => [cells b1 [.func (.yield l) #[] #[]] 60, I (wds pre)]) (fun c pre g => c = .ret ∧ wds (scan (units (pcs s.data.toList))) = g.1 ++ g.2.1 :: g.2.2) (fun c pre g => [X (g.1 ++ [g.2.1])]) (fun pre x b j => [(2, .pointer (some ⟨b1, 0, none⟩)), (3, .pointer (some ⟨j, 0, none⟩))]) (fun pre x b j => [cells b1 [.func (.yield l) #[] #[]] 60, I (wds pre), cells j [.int .i64 x.k, .int .i64 (x.f : Int), .int .i64 (x.t : Int)] 65]) () trivial (Splits.of [1, 0] (by as_aux_lemma => kernel_rfl) rfl) ⟨.inl ⟨2, rfl⟩, trivial⟩ (fun _ => rfl) (by decide) ?_ ?_ ?_ ?_
 ·
  rintro lp rc pre x post b w1 K1 hxs hext hro hinv
  refine TC.region ?_
  refine TO.alloc zr_65 rfl (by decide) (fun b2 => ?_)
  refine TO.stores (k := 2) (vs := [.int .i64 x.k, .int .i64 (x.f : Int), .int .i64 (x.t : Int)]) (l' := [.int .i64 x.k, .int .i64 (x.f : Int), .int .i64 (x.t : Int)]) sz_65 rfl rfl rfl rfl rfl (show _ ≤ _ by simp) rfl rfl ?_
  show TO _ _ _ _ _ _ _ _ _ _ [cells b1 [.func (.yield l) #[] #[]] 60, I (wds pre), cells b2 [.int .i64 x.k, .int .i64 (x.f : Int), .int .i64 (x.t : Int)] 65]
  refine TO.nil ?_
  exact fun a w ha hw => ⟨b2, (Sbs.cons rfl (Sbs.cons rfl (Sbs.nil))) _ _ _ ha, hw.weaken (Splits.of [0, 1, 2] (by as_aux_lemma => kernel_rfl) rfl)⟩
 ·
  rintro lp rc pre x post b j w1 K1 hxs hext hro hinv
  by_cases hk : x.k = 1
  ·
   refine TC.block (TC.seq (TC.region (TO.fieldAddr fl_65_0 rfl (by decide) rfl (show _ = 0 from rfl) (TO.load (k := 2) sc_3 rfl (by decide) rfl rfl rfl (TO.bin rfl (by decide) rfl rfl (bin_known (congrArg Value.bool (show ((x.k : Int) == 1) = true from (beq_iff_eq.2 hk))) bin_eql) (TO.move rfl (by decide) rfl (TO.load (k := 0) sc_60 rfl (by decide) rfl rfl rfl (TO.fieldAddr fl_65_1 rfl (by decide) rfl (show _ = 1 from rfl) (TO.loads (k := 2) (cs := [.int .i64 (x.f : Int), .int .i64 (x.t : Int)]) rw_26 rfl (by decide) rfl rfl rfl rfl ?_)))))))))
   have hq : wds (scan (units (pcs s.data.toList))) = wds pre ++ (x.f, x.t) :: wds post := by rw [hxs]; simp [wds, hk]
   refine TO.yield (hy.later hext) rfl (by decide) rfl hq rfl (k := 1) rfl ?_ ?_
   ·
    -- yes
    refine TO.un rfl (by decide) rfl un_not (TO.pick (b := true) rfl (by decide) rfl rfl (TO.nil (TX.next (TC.condF rfl (TC.skip (TX.blockNormal (TX.rewE (k := 1) rfl (show I (wds pre ++ [(x.f, x.t)]) = I (wds (pre ++ [x])) from (by simp [wds, hk])) ?_)))))))
    show TX _ _ _ _ _ _ _ [cells b1 [.func (.yield l) #[] #[]] 60, I (wds (pre ++ [x])), cells j [.int .i64 x.k, .int .i64 (x.f : Int), .int .i64 (x.t : Int)] 65]
    exact TX.round () trivial (Splits.of [0, 1] (by as_aux_lemma => kernel_rfl) rfl)
   ·
    -- no
    refine TO.un rfl (by decide) rfl un_not (TO.pick (b := true) rfl (by decide) rfl rfl (TO.nil (TX.next (TC.condT rfl (TC.ret (TX.blockRet ?_))))))
    exact TX.roundRet (wds pre, (x.f, x.t), wds post) ⟨rfl, hq⟩ (Splits.of [1] (by as_aux_lemma => kernel_rfl) rfl)
  ·
   refine TC.block (TC.seq (TC.region (TO.fieldAddr fl_65_0 rfl (by decide) rfl (show _ = 0 from rfl) (TO.load (k := 2) sc_3 rfl (by decide) rfl rfl rfl (TO.bin rfl (by decide) rfl rfl (bin_known (congrArg Value.bool (show ((x.k : Int) == 1) = false from (beq_eq_false_iff_ne.2 hk))) bin_eql) (TO.move rfl (by decide) rfl (TO.skip rfl (by decide) (TO.skip rfl (by decide) (TO.skip rfl (by decide) (TO.skip rfl (by decide) (TO.skip rfl (by decide) (TO.pick (b := false) rfl (by decide) rfl rfl (TO.nil ?_)))))))))))))
   refine TX.next (TC.condF rfl (TC.skip (TX.blockNormal (TX.rewE (k := 1) rfl (show I (wds pre) = I (wds (pre ++ [x])) from (by simp [wds, hk])) ?_))))
   show TX _ _ _ _ _ _ _ [cells b1 [.func (.yield l) #[] #[]] 60, I (wds (pre ++ [x])), cells j [.int .i64 x.k, .int .i64 (x.f : Int), .int .i64 (x.t : Int)] 65]
   exact TX.round () trivial (Splits.of [0, 1] (by as_aux_lemma => kernel_rfl) rfl)
 ·
  rintro d b hinv
  show TX _ _ _ _ _ _ _ [emp, emp, cells bp [.string s] 9, cells b1 [.func (.yield l) #[] #[]] 60, I (wds (scan (units (pcs s.data.toList)))), mark d]
  refine TX.blockNormal ?_
  exact TX.finY (ds := [d]) (.inr rfl) (Splits.of [5] (by as_aux_lemma => kernel_rfl) rfl) Try.results34 rfl (Splits.of [4] (by as_aux_lemma => kernel_rfl) rfl)
 ·
  rintro d c pre x post g hxs hX
  show TC _ _ _ _ _ _ _ _ _ [emp, emp, cells bp [.string s] 9, X (g.1 ++ [g.2.1]), mark d]
  obtain ⟨E, n, q⟩ := g
  obtain ⟨rfl, hq⟩ := hX
  refine TC.ret (TX.blockRet ?_)
  exact TX.finX (ds := [d]) E n q hq (.inl rfl) (Splits.of [4] (by as_aux_lemma => kernel_rfl) rfl) Try.results34 (Splits.of [3] (by as_aux_lemma => kernel_rfl) rfl)

theorem words_fn (s : ByteArray) : Fn Try.prog 15 [.string s] [] (fun b : Nat => .func (.func 34) #[] #[.pointer (some ⟨b, 0, none⟩)]) (fun b => [cells b [.string s] 9]) := by
 refine Fn.intro Try.func15 rfl Try.ntmps15 (by simp) ?_
 intro w0 K
 refine TC.seq (TC.region ?_)
 refine TO.box rfl (by decide) rfl (fun b1 => ?_)
 refine TO.assign rfl (by decide) rfl (TO.nil (TX.next (TC.seq (TC.region (TO.makeFunc (x1 := []) (x2 := [.tmp 1]) rfl (by decide) rfl rfl (TO.assign rfl (by decide) rfl (TO.nil (TX.next (TC.ret ?_)))))))))
 exact TX.fin (rs := [.tmp 2]) b1 (.inl rfl) Try.results15 (.cons (.tmp rfl) .nil) rfl (Splits.of [0] (by as_aux_lemma => kernel_rfl) rfl)
end Go.Proofs.Ytlamcpgnmeileaa
namespace Go.Proofs.Ytlamcpgnmeileaa
open Go.RowKit Go.Lib
set_option linter.unusedVariables false
set_option linter.unusedSimpArgs false
/-- From a to b without a gap; none is empty. -/
def Ch {α : Type} (f t : α → Nat) : Nat → List α → Nat → Prop
  | a, [], b => a = b
  | a, u :: us, b => f u = a ∧ f u < t u ∧ Ch f t (t u) us b
theorem Ch.app {α : Type} {f t : α → Nat} : ∀ {l : List α} {a b c : Nat} {m : List α}, Ch f t a l b → Ch f t b m c → Ch f t a (l ++ m) c
  | [], a, b, c, m, h, h2 => by cases h; exact h2
  | u :: l, a, b, c, m, h, h2 => ⟨h.1, h.2.1, Ch.app h.2.2 h2⟩
theorem Ch.one {α : Type} {f t : α → Nat} {u : α} (h : f u < t u) : Ch f t (f u) [u] (t u) := ⟨rfl, h, rfl⟩
theorem Ch.le {α : Type} {f t : α → Nat} : ∀ {l : List α} {a b : Nat}, Ch f t a l b → a ≤ b
  | [], a, b, h => Nat.le_of_eq h
  | u :: l, a, b, h => by have h1 := Ch.le h.2.2; have h2 := h.1; have h3 := h.2.1; omega
theorem Ch.mem {α : Type} {f t : α → Nat} : ∀ {l : List α} {a b : Nat}, Ch f t a l b → ∀ u ∈ l, a ≤ f u ∧ f u < t u ∧ t u ≤ b
  | [], a, b, h, u, hu => by cases hu
  | v :: l, a, b, h, u, hu => by
    have h1 := Ch.le h.2.2
    have h2 := h.1
    have h3 := h.2.1
    rcases List.mem_cons.1 hu with rfl | hu
    · omega
    · have h4 := Ch.mem h.2.2 u hu
      omega
theorem pcs_first (l : List UInt8) (p : Pc) (B : List Pc) (h : pcs l = p :: B) : p.i = 0 := by
  by_cases hl : l = []
  · subst hl; simp [pcs, pcsFrom_nil] at h
  · have h1 := pcsFrom_cons 0 l hl
    have h2 : pcs l = pcsFrom 0 l := rfl
    rw [← h2, h] at h1
    rw [(List.cons.inj h1).1]
theorem pcs_empty (l : List UInt8) (h : pcs l = []) : l = [] := by
  by_cases hl : l = []
  · exact hl
  · have h1 := pcsFrom_cons 0 l hl
    have h2 : pcs l = pcsFrom 0 l := rfl
    rw [← h2, h] at h1
    cases h1
theorem ufold_ch (l : List UInt8) : ∀ (k : Nat) (L B : List Pc), L.length ≤ k → pcs l = L ++ B → ∀ E n, ufold L = (E, some n) → Ch Un.f Un.t 0 E n.f := by
  intro k
  induction k with
  | zero =>
    intro L B hk hl E n h
    have h0 : L = [] := List.length_eq_zero_iff.1 (by omega)
    subst h0; cases h
  | succ k ih =>
    intro L B hk hl E n h
    rcases List.eq_nil_or_concat L with rfl | ⟨D, p, rfl⟩
    · cases h
    · rw [List.concat_eq_append] at *
      rw [ufold_snoc] at h
      have hl2 : pcs l = D ++ (p :: B) := by rw [hl]; simp
      have hkD : D.length ≤ k := by simp at hk; omega
      rcases hD : ufold D with ⟨E0, o⟩
      rw [hD] at h
      rcases o with _ | m
      · obtain ⟨h1, h2⟩ := units_nil D E0 hD
        subst h1; subst h2
        simp only [ustep] at h
        cases h
        have h3 := pcs_first l p B (by simpa using hl2)
        exact h3.symm
      · have hm := ih D (p :: B) hkD hl2 E0 m hD
        have hw := ufold_end l D.length D (p :: B) (Nat.le_refl _) hl2 E0 m hD
        have hp : p.i = m.t := hw.2.2.1 p rfl
        simp only [ustep] at h
        split at h
        · cases h; exact hm
        · cases h
          have h5 := Ch.app hm (Ch.one (f := Un.f) (t := Un.t) hw.1)
          show Ch _ _ _ _ p.i
          rw [hp]; exact h5
theorem units_ch (l : List UInt8) : Ch Un.f Un.t 0 (units (pcs l)) l.length := by
  rcases hD : ufold (pcs l) with ⟨E, o⟩
  rcases o with _ | n
  · obtain ⟨h1, h2⟩ := units_nil _ E hD
    have h3 : l = [] := pcs_empty l h1
    subst h3
    rw [h1]; rfl
  · rw [units_last _ E n hD]
    have h1 := ufold_ch l _ (pcs l) [] (Nat.le_refl _) (by simp) E n hD
    have h2 := ufold_end l _ (pcs l) [] (Nat.le_refl _) (by simp) E n hD
    have h3 := Ch.app h1 (Ch.one (f := Un.f) (t := Un.t) h2.1)
    rw [h2.2.2.2 rfl] at h3
    exact h3
def ScI (a : Nat) (S : List Tk × Sc) (c : Nat) : Prop :=
  (S.2.st = 0 ∧ S.1 = [] ∧ c = a) ∨ (S.2.st ≠ 0 ∧ Ch Tk.f Tk.t a S.1 S.2.tk.f ∧ S.2.tk.f < S.2.tk.t ∧
    (((S.2.st = 2 ∨ S.2.st = 4) ∧ S.2.h.f = S.2.tk.t ∧ S.2.h.f < S.2.h.t ∧ S.2.h.t = c) ∨ (¬ (S.2.st = 2 ∨ S.2.st = 4) ∧ S.2.tk.t = c)))
theorem fits_two {st : Int} {u : Un} (h : (fits st u).2 = 2) : (st = 1 ∧ (fits st u).1 = 2) ∨ (st = 3 ∧ (fits st u).1 = 4) := by
  revert h; unfold fits
  repeat' split
  all_goals simp_all
theorem fits_one {st : Int} {u : Un} (h : (fits st u).2 = 1) : st ≠ 0 ∧ (fits st u).1 ≠ 0 ∧ (fits st u).1 ≠ 2 ∧ (fits st u).1 ≠ 4 := by
  revert h; unfold fits
  repeat' split
  all_goals simp_all
  all_goals omega
theorem begins_st (u : Un) : (begins u).1 ≠ 0 ∧ (begins u).1 ≠ 2 ∧ (begins u).1 ≠ 4 := by
  unfold begins
  repeat' split
  all_goals simp_all
theorem ended_ch {a c : Nat} {S : List Tk × Sc} (h : ScI a S c) : Ch Tk.f Tk.t a (S.1 ++ ended S.2) c := by
  rcases h with ⟨h1, h2, h3⟩ | ⟨h1, h2, h3, h4⟩
  · rw [h2, h3]; unfold ended; rw [if_pos h1]; rfl
  · unfold ended
    rw [if_neg h1]
    rcases h4 with ⟨h5, h6, h7, h8⟩ | ⟨h5, h6⟩
    · rw [if_pos h5]
      exact h2.app ⟨rfl, h3, h6, h7, h8⟩
    · rw [if_neg h5]
      exact h2.app ⟨rfl, h3, h6⟩
theorem mstep_ch {a c : Nat} {S : List Tk × Sc} {u : Un} (h : ScI a S c) (hf : u.f = c) (hl : u.f < u.t) : ScI a (mstep S u) u.t := by
  by_cases h2 : (fits S.2.st u).2 = 2
  · have h3 := fits_two h2
    unfold mstep; rw [if_pos h2]
    rcases h with ⟨h4, _⟩ | ⟨h4, h5, h6, h7⟩
    · omega
    · right
      refine ⟨by show (fits S.2.st u).1 ≠ 0; omega, h5, h6, .inl ⟨by show (fits S.2.st u).1 = 2 ∨ (fits S.2.st u).1 = 4; omega, ?_, hl, rfl⟩⟩
      show u.f = S.2.tk.t
      rcases h7 with ⟨h8, _⟩ | ⟨_, h8⟩ <;> omega
  · by_cases h1 : (fits S.2.st u).2 = 1
    · have h3 := fits_one h1
      unfold mstep; rw [if_neg h2, if_pos h1]
      rcases h with ⟨h4, _⟩ | ⟨h4, h5, h6, h7⟩
      · omega
      · right
        refine ⟨h3.2.1, h5, ?_, .inr ⟨by show ¬ ((fits S.2.st u).1 = 2 ∨ (fits S.2.st u).1 = 4); omega, rfl⟩⟩
        show S.2.tk.f < u.t
        rcases h7 with ⟨_, h8, h9, h10⟩ | ⟨_, h8⟩ <;> omega
    · rw [mstep_begin S u h2 h1]
      have h3 := begins_st u
      have h4 := ended_ch h
      right
      refine ⟨h3.1, ?_, hl, .inr ⟨by show ¬ ((begins u).1 = 2 ∨ (begins u).1 = 4); omega, rfl⟩⟩
      show Ch _ _ _ _ u.f
      rw [hf]; exact h4
theorem mfold_ch : ∀ (us : List Un) {a b c : Nat} {S : List Tk × Sc}, ScI a S c → Ch Un.f Un.t c us b → ScI a (us.foldl mstep S) b
  | [], a, b, c, S, h, hc => by cases hc; exact h
  | u :: us, a, b, c, S, h, hc => mfold_ch us (mstep_ch h hc.1 hc.2.1) hc.2.2
/-- The tokens cover the text. -/
theorem scan_ch (l : List UInt8) : Ch Tk.f Tk.t 0 (scan (units (pcs l))) l.length :=
  ended_ch (mfold_ch (units (pcs l)) (S := ([], sc0)) (.inl ⟨rfl, rfl, rfl⟩) (units_ch l))
end Go.Proofs.Ytlamcpgnmeileaa
namespace Go.Proofs.Ytlamcpgnmeileaa
open Go.RowKit Go.Lib Go.Shelf
set_option linter.unusedVariables false
set_option linter.unusedSimpArgs false

def vowelRunes : List Int := [0x101, 0x103, 0x105, 0x113, 0x115, 0x117, 0x119, 0x11b, 0x129, 0x12b, 0x12d, 0x12f, 0x131, 0x14d, 0x14f, 0x151, 0x153, 0x169, 0x16b, 0x16d, 0x16f, 0x171, 0x173, 0x177,
  0x390, 0x3ac, 0x3ad, 0x3ae, 0x3af, 0x3b0, 0x3b1, 0x3b5, 0x3b7, 0x3b9, 0x3bf, 0x3c5, 0x3c9, 0x3ca, 0x3cb, 0x3cc, 0x3cd, 0x3ce,
  0x430, 0x435, 0x438, 0x43e, 0x443, 0x44b, 0x44d, 0x44e, 0x44f, 0x450, 0x451, 0x454, 0x456, 0x457, 0x45d]
def vowelS : ByteArray := ⟨#[196, 129, 196, 131, 196, 133, 196, 147, 196, 149, 196, 151, 196, 153, 196, 155, 196, 169, 196, 171, 196, 173, 196, 175, 196, 177, 197, 141, 197, 143, 197, 145, 197, 147, 197, 169, 197, 171, 197, 173, 197, 175, 197, 177, 197, 179, 197, 183, 206, 144, 206, 172, 206, 173, 206, 174, 206, 175, 206, 176, 206, 177, 206, 181, 206, 183, 206, 185, 206, 191, 207, 133, 207, 137, 207, 138, 207, 139, 207, 140, 207, 141, 207, 142, 208, 176, 208, 181, 208, 184, 208, 190, 209, 131, 209, 139, 209, 141, 209, 142, 209, 143, 209, 144, 209, 145, 209, 148, 209, 150, 209, 151, 209, 157]⟩
theorem vowelS_runes : (pcs vowelS.data.toList).map (fun p => (p.r : Int)) = vowelRunes := by decide +kernel
/-- A range over vowelS that looks for a rune: at a round's head. -/
def VowRel (w : World) (x : Int) (wr : World) : Prop :=
  ∃ pre pos, pcs vowelS.data.toList = pre ++ pcsFrom pos (vowelS.data.toList.drop pos) ∧ pos ≤ vowelS.size ∧ (∀ p ∈ pre, (Pc.r p : Int) ≠ x) ∧ Below w.heap.size w wr ∧ wr.heap[w.heap.size]? = some (.stringIter vowelS pos)
theorem VowRel.start (w : World) (x : Int) : VowRel w x (w.iter vowelS 0) :=
  ⟨[], 0, rfl, Nat.zero_le _, by simp, (Below.refl _ _).alloc (Nat.le_refl _) _, World.iter_heap w vowelS 0⟩
theorem VowRel.round {P : Program} {w wr : World} {x : Int} (h : VowRel w x wr) :
    (∃ (pos r : Nat) (W1 : World), (∀ ty, (Instr.next (.pointer (some ⟨w.heap.size, 0, none⟩)) true ty).run P wr = .ok (.tuple #[.bool true, .int .i64 pos, .int .i32 r]) W1) ∧ Below w.heap.size w W1 ∧
      (((r : Int) = x ∧ vowelRunes.contains x = true) ∨ ((r : Int) ≠ x ∧ VowRel w x W1 ∧ vowelS.size - W1.iterPos w.heap.size < vowelS.size - wr.iterPos w.heap.size))) ∨
    ((∀ ty, (Instr.next (.pointer (some ⟨w.heap.size, 0, none⟩)) true ty).run P wr = .ok (.tuple #[.bool false]) wr) ∧ Below w.heap.size w wr ∧ vowelRunes.contains x = false) := by
  obtain ⟨pre, pos, hx, hpos, hpre, hb, hit⟩ := h
  by_cases hlt : pos < vowelS.size
  · obtain ⟨r, wd, W1, hn, hf, hit1, hsz, hok, hp, hle, h1⟩ := next_some P wr w.heap.size vowelS pos hit hlt
    have hb1 : Below w.heap.size w W1 := hb.trans (hf.toBelow hb.size (by intro k hk; omega))
    refine .inl ⟨pos, r, W1, hn, hb1, ?_⟩
    rw [hp] at hx
    by_cases he : (r : Int) = x
    · refine .inl ⟨he, ?_⟩
      rw [← vowelS_runes, hx, List.contains_iff_mem, List.mem_map]
      exact ⟨⟨pos, wd, r⟩, by simp, he⟩
    · refine .inr ⟨he, ⟨pre ++ [⟨pos, wd, r⟩], pos + wd, by rw [hx]; simp, hle, ?_, hb1, hit1⟩, ?_⟩
      · intro p hp
        rcases List.mem_append.1 hp with h | h
        · exact hpre p h
        · simp at h; subst h; exact he
      · rw [iterPos_at hit, iterPos_at hit1]; omega
  · obtain ⟨hn, hp⟩ := next_none P wr w.heap.size vowelS pos hit hlt
    refine .inr ⟨hn, hb, ?_⟩
    rw [hp, List.append_nil] at hx
    rw [← vowelS_runes, hx, ← Bool.not_eq_true, List.contains_iff_mem, List.mem_map]
    rintro ⟨p, hm, he⟩
    exact hpre p hm he

end Go.Proofs.Ytlamcpgnmeileaa
namespace Go.Proofs.Ytlamcpgnmeileaa
open Go.RowKit Go.Lib Go.Shelf
set_option linter.unusedVariables false
set_option linter.unusedSimpArgs false

end Go.Proofs.Ytlamcpgnmeileaa
namespace Go.Proofs.Ytlamcpgnmeileaa
open Go.RowKit Go.Lib Go.Shelf
set_option linter.unusedVariables false
set_option linter.unusedSimpArgs false

end Go.Proofs.Ytlamcpgnmeileaa
namespace Go.Proofs.Ytlamcpgnmeileaa
open Go.RowKit Go.Lib
set_option linter.unusedVariables false
set_option linter.unusedSimpArgs false
/-- A text's pieces, units, tokens, words. -/
def psOf (s : ByteArray) : List Pc := pcs s.data.toList
def usOf (s : ByteArray) : List Un := units (psOf s)
def tksOf (s : ByteArray) : List Tk := scan (usOf s)
def wsOf (s : ByteArray) : List (Nat × Nat) := wds (tksOf s)
def spG (p : Nat × Nat) : Gapi_Span := ⟨p.1, p.2⟩
end Go.Proofs.Ytlamcpgnmeileaa
namespace Go.Proofs.Ytlamcpgnmeileaa
open Go.RowKit Go.Lib
set_option linter.unusedVariables false
set_option linter.unusedSimpArgs false

end Go.Proofs.Ytlamcpgnmeileaa
namespace Go.Proofs.Ytlamcpgnmeileaa
open Go.RowKit Go.Lib
set_option linter.unusedVariables false
set_option linter.unusedSimpArgs false
section
variable {R S : Type} {c : Prop} [Decidable c] {o x z : Option R} {p : Option S} {f : S → Option R} {b : Bool} {y : Option R}
theorem grdI (h : c) (ho : o = x) : grd c o = x := (grd_pos h).trans ho
theorem thenI {a : S} (h : p = some a) (hf : f a = x) : andThen p f = x := (and_some h).trans hf
theorem condTI (hb : b = true) (h : x = z) : bcond b x y = z := (bcond_T hb).trans h
theorem condFI (hb : b = false) (h : y = z) : bcond b x y = z := (bcond_F hb).trans h
theorem joinI {T : Type} {t : T → Option R} {k : T} (h : t k = x) : joinK t k = x := h
theorem loopI {T : Type} {bot : T} {step : T → T} {n : Nat} : loopG bot step (n + 1) = step (loopG bot step n) := rfl
theorem fuel_eq (k : Nat) (h : k ≤ 1000) : ∃ n, fuel = n + k ∧ 18446744073709550000 ≤ n := ⟨18446744073709551616 - k, by unfold fuel; omega, by omega⟩
end
/-- A rune that has a form. -/
def vr (r : Int) : Prop := (0 ≤ r ∧ r < 55296) ∨ (57343 < r ∧ r ≤ 1114111)
instance (r : Int) : Decidable (vr r) := by unfold vr; infer_instance
def wd (r : Int) : Int := if vr r then (if r < 128 then 1 else if r < 2048 then 2 else if r < 65536 then 3 else 4) else 0
end Go.Proofs.Ytlamcpgnmeileaa
namespace Go.Proofs.Ytlamcpgnmeileaa
open Go.RowKit Go.Lib
set_option linter.unusedVariables false
set_option linter.unusedSimpArgs false
/-- The i-th byte of a text from a place on, as a number. -/
def byI (l : List UInt8) (i : Nat) : Int := ((l.getD i 0).toNat : Int)
def cand (l : List UInt8) : Nat → Int
  | 1 => byI l 0
  | 2 => (byI l 0 - 192) * 64 + byI l 1 - 128
  | 3 => ((byI l 0 - 224) * 64 + byI l 1 - 128) * 64 + byI l 2 - 128
  | 4 => (((byI l 0 - 240) * 64 + byI l 1 - 128) * 64 + byI l 2 - 128) * 64 + byI l 3 - 128
  | _ => 0
def acc (s : ByteArray) (a n : Nat) : Prop := vr (cand (s.data.toList.drop a) n) ∧ wd (cand (s.data.toList.drop a) n) = n ∧ Utf8.encode (cand (s.data.toList.drop a) n) = cutB s a ((a : Int) + n)
theorem cutB_list (s : ByteArray) (a n : Nat) : (cutB s a ((a : Int) + n)).data.toList = (s.data.toList.drop a).take n := by
  unfold cutB
  rw [extract_data]
  simp only [Int.toNat_natCast, show ((a : Int) + (n : Int)).toNat = a + n by omega]
  rw [show a + n - a = n by omega]
/-- A piece, as the reference has it. -/
def pcG (p : Pc) : Gapi_Piece := ⟨p.i, p.w, p.r, p.broken⟩
end Go.Proofs.Ytlamcpgnmeileaa
namespace Go.Proofs.Ytlamcpgnmeileaa
open Go.RowKit Go.Lib
set_option linter.unusedVariables false
set_option linter.unusedSimpArgs false
/-! ### Loops by number -/
section
variable {R : Type} {x : Option R}
end
/-! ### Units -/
/-- One more piece, to units. -/
def ustp (l : List Un) (p : Pc) : List Un := match l.getLast? with
  | some n => if pk p = 2 ∧ ubare n.k = false then l.dropLast ++ [⟨n.k, n.r, n.f, n.t + p.w, false⟩] else l ++ [unew p]
  | none => [unew p]
theorem uout_step (S : List Un × Option Un) (p : Pc) (h : S.2 = none → S.1 = []) : uout (ustep S p) = ustp (uout S) p := by
  rcases S with ⟨E, _ | n⟩
  · have h : E = [] := h rfl
    rw [h]; rfl
  · simp only [ustep, ustp, uout]
    rw [List.getLast?_concat]
    by_cases hk : pk p = 2 ∧ ubare n.k = false
    · simp only [if_pos hk, List.dropLast_concat]
    · simp only [if_neg hk]
theorem units_snoc (L : List Pc) (p : Pc) : units (L ++ [p]) = ustp (units L) p := by
  unfold units
  rw [ufold_snoc]
  refine uout_step _ _ fun h => ?_
  have := units_nil L (ufold L).1 (by rw [← h])
  exact this.2
theorem units_wf (s : ByteArray) : ∀ v ∈ units (pcs s.data.toList), WF v := by
  have key : ∀ L : List Pc, (∀ v ∈ units L.reverse, WF v) := by
    intro L
    induction L with
    | nil => intro v hv; simp [units, ufold, uout] at hv
    | cons p L ih =>
      rw [List.reverse_cons, units_snoc]
      intro v hv
      have hn : WF (unew p) := by
        unfold WF unew pk kindOf
        by_cases hb : p.broken = true
        · left; simp only [hb, if_true]
          unfold Pc.broken at hb; simp at hb; exact ⟨trivial, hb.1⟩
        · right; simp [hb]
      unfold ustp at hv
      split at hv
      · rename_i n hlast
        have hmem : n ∈ units L.reverse := List.mem_of_getLast? hlast
        split at hv
        · rcases List.mem_append.1 hv with hv | hv
          · exact ih v (List.dropLast_subset _ hv)
          · simp at hv; subst hv; exact ih n hmem
        · rcases List.mem_append.1 hv with hv | hv
          · exact ih v hv
          · simp at hv; subst hv; exact hn
      · simp at hv; subst hv; exact hn
  have := key (pcs s.data.toList).reverse
  rwa [List.reverse_reverse] at this
end Go.Proofs.Ytlamcpgnmeileaa
namespace Go.Proofs.Ytlamcpgnmeileaa
open Go.RowKit Go.Lib
set_option linter.unusedVariables false
set_option linter.unusedSimpArgs false
theorem runN_le (kd : Int) (js : List Nat) : ∀ us : List Un, runN kd js us ≤ us.length
  | [] => by simp [runN]
  | u :: us => by
    have := runN_le kd js us
    simp only [runN, List.length_cons]
    split
    · omega
    · split <;> omega
theorem behind_le (u : Un) (us : List Un) : behind u us ≤ us.length := by
  unfold behind
  repeat' split
  all_goals first | exact runN_le _ _ _ | simp
end Go.Proofs.Ytlamcpgnmeileaa
namespace Go.Proofs.Ytlamcpgnmeileaa
open Go.RowKit Go.Lib
set_option linter.unusedVariables false
set_option linter.unusedSimpArgs false
theorem tks_ch (s : ByteArray) : Ch Tk.f Tk.t 0 (tksOf s) s.size := by
  have h := scan_ch s.data.toList
  have h2 : s.data.toList.length = s.size := by simp
  rw [h2] at h; exact h
/-! ### The last word -/
/-- Words stand in order. -/
def Inc : Nat → List (Nat × Nat) → Prop
  | _, [] => True
  | a, x :: l => a ≤ x.1 ∧ x.1 < x.2 ∧ Inc x.2 l
theorem Inc.weak : ∀ {l : List (Nat × Nat)} {a b : Nat}, Inc b l → a ≤ b → Inc a l
  | [], _, _, _, _ => trivial
  | x :: l, a, b, h, hab => ⟨Nat.le_trans hab h.1, h.2.1, h.2.2⟩
theorem wds_inc : ∀ {l : List Tk} {a b : Nat}, Ch Tk.f Tk.t a l b → Inc a (wds l)
  | [], a, b, _ => trivial
  | x :: l, a, b, h => by
    have ih := wds_inc h.2.2
    have h1 := h.1; have h2 := h.2.1
    by_cases hk : x.k = 1
    · have : wds (x :: l) = (x.f, x.t) :: wds l := by simp [wds, hk]
      rw [this]; exact ⟨by show a ≤ x.f; omega, h2, ih⟩
    · have : wds (x :: l) = wds l := by simp [wds, hk]
      rw [this]; exact ih.weak (by omega)
theorem ws_inc (s : ByteArray) : Inc 0 (wsOf s) := wds_inc (tks_ch s)
theorem Inc.lt : ∀ {l : List (Nat × Nat)} {a : Nat}, Inc a l → ∀ x ∈ l, a < x.2
  | [], _, _, x, hx => by cases hx
  | y :: l, a, h, x, hx => by
    have h1 := h.1; have h2 := h.2.1
    rcases List.mem_cons.1 hx with rfl | hx
    · omega
    · have := Inc.lt h.2.2 x hx; omega
end Go.Proofs.Ytlamcpgnmeileaa
namespace Go.Proofs.Ytlamcpgnmeileaa
open Go.RowKit Go.Lib
set_option linter.unusedVariables false
set_option linter.unusedSimpArgs false
/-! ### A text's prefix -/
theorem dec_take {x y : List UInt8} (hx : x ≠ []) (hw : (decodeL (x ++ y)).2 ≤ x.length) : decodeL x = decodeL (x ++ y) := by
  have hl : x ++ y ≠ [] := by simp [hx]
  have hd := decOk _ hl
  have hd2 := decOk _ hx
  by_cases hb : (decodeL (x ++ y)).1 = 65533 ∧ (decodeL (x ++ y)).2 = 1
  · by_cases hb2 : (decodeL x).1 = 65533 ∧ (decodeL x).2 = 1
    · exact Prod.ext (by rw [hb.1, hb2.1]) (by rw [hb.2, hb2.2])
    · exfalso
      have h5 := hd2.bytes hb2
      have h6 := dec_enc _ hd2.valid (x.drop (decodeL x).2 ++ y)
      rw [h5, ← List.append_assoc, List.take_append_drop] at h6
      rw [h6] at hb
      have h7 := hd2.width hb2
      rw [h5] at h7
      rw [h7] at hb
      exact hb2 hb
  · have h5 := hd.bytes hb
    rw [List.take_append_of_le_length hw] at h5
    have h6 := dec_enc _ hd.valid (x.drop (decodeL (x ++ y)).2)
    rw [h5, List.take_append_drop] at h6
    rw [h6, List.length_take, Nat.min_eq_left hw]
theorem good_take {a b : List Tok} (h : Good (a ++ b)) : Good a := by
  induction a with
  | nil => unfold Good; rw [flat_nil, toks_nil]
  | cons t a ih =>
    have ih : toks (flat a) = a := ih (good_tail h)
    have hne := bs_ne (good_ok h t (by simp))
    unfold Good at *
    rw [List.cons_append, flat_cons, flat_append, ← List.append_assoc] at h
    have hl2 : t.bs ++ flat a ≠ [] := by simp [hne]
    have hl : t.bs ++ flat a ++ flat b ≠ [] := by simp [hne]
    rw [toks_cons _ hl] at h
    obtain ⟨e1, e2⟩ := List.cons.inj h
    have hbs := congrArg Tok.bs e1
    have hr := congrArg Tok.r e1
    simp only at hbs hr
    have hle := dec_le _ hl
    have hwl : (decodeL (t.bs ++ flat a ++ flat b)).2 = t.bs.length := by
      have := congrArg List.length hbs
      rw [List.length_take, Nat.min_eq_left hle] at this; exact this
    have hdec := dec_take hl2 (y := flat b) (by rw [hwl]; simp)
    rw [flat_cons, toks_cons _ hl2, hdec, hr, hwl, List.take_left, List.drop_left, ih]
/-! ### Units by what they hold -/
def tkd (t : Tok) : Int := kindOf t.broken t.r
def isMk (t : Tok) : Bool := tkd t == 2
structure GU where
  k : Int
  r : Nat
  c : List Tok
def gun : List Tok → List GU
  | [] => []
  | t :: ts => if ubare (tkd t) = true then ⟨tkd t, t.r, [t]⟩ :: gun ts else ⟨tkd t, t.r, t :: ts.takeWhile isMk⟩ :: gun (ts.dropWhile isMk)
termination_by ts => ts.length
decreasing_by
  all_goals simp only [List.length_cons]
  · omega
  · have := List.dropWhile_suffix isMk (l := ts) |>.length_le; omega
def gl (g : GU) : Nat := (flat g.c).length
def posU : Nat → List GU → List Un
  | _, [] => []
  | i, g :: gs => ⟨g.k, g.r, i, i + gl g, g.c.length == 1⟩ :: posU (i + gl g) gs
def GOk (g : GU) : Prop := ∃ t m, g.c = t :: m ∧ g.k = tkd t ∧ g.r = t.r ∧ (∀ x ∈ m, isMk x = true) ∧ (ubare g.k = true → m = [])
theorem gun_flat : ∀ (n : Nat) (ts : List Tok), ts.length ≤ n → (gun ts).flatMap GU.c = ts
  | _, [], _ => by rw [gun]; rfl
  | 0, t :: ts, h => by simp at h
  | n + 1, t :: ts, h => by
    rw [gun]
    split
    · rw [List.flatMap_cons, gun_flat n ts (by simpa using h)]; rfl
    · have := List.dropWhile_suffix isMk (l := ts) |>.length_le
      rw [List.flatMap_cons, gun_flat n _ (by simp at h; omega)]
      show t :: ts.takeWhile isMk ++ ts.dropWhile isMk = _
      rw [List.cons_append, List.takeWhile_append_dropWhile]
theorem gun_ok : ∀ (n : Nat) (ts : List Tok), ts.length ≤ n → ∀ g ∈ gun ts, GOk g
  | _, [], _, g, hg => by rw [gun] at hg; cases hg
  | 0, t :: ts, h, g, hg => by simp at h
  | n + 1, t :: ts, h, g, hg => by
    rw [gun] at hg
    split at hg
    · rcases List.mem_cons.1 hg with rfl | hg
      · exact ⟨t, [], rfl, rfl, rfl, by simp, fun _ => rfl⟩
      · exact gun_ok n ts (by simpa using h) g hg
    · rename_i hb
      have := List.dropWhile_suffix isMk (l := ts) |>.length_le
      rcases List.mem_cons.1 hg with rfl | hg
      · exact ⟨t, _, rfl, rfl, rfl, fun x hx => List.all_eq_true.1 List.all_takeWhile x hx, fun h => absurd h hb⟩
      · exact gun_ok n _ (by simp at h; omega) g hg
/-- The head of what stands behind a unit is no mark, if the unit may take marks. -/
def NoMk (l : List Tok) : Prop := ∀ t, l.head? = some t → isMk t = false
theorem gun_one (g : GU) (h : GOk g) (rest : List Tok) (hr : ubare g.k = false → NoMk rest) : gun (g.c ++ rest) = g :: gun rest := by
  obtain ⟨t, m, h1, h2, h3, h4, h5⟩ := h
  rcases g with ⟨k, r, c⟩
  simp only at *
  subst h1; subst h2; subst h3
  rw [List.cons_append, gun]
  split
  · rename_i hb
    rw [h5 hb]; rfl
  · rename_i hb
    have hb' : ubare (tkd t) = false := by simpa using hb
    have hn := hr hb'
    have e1 : (m ++ rest).takeWhile isMk = m := by
      rw [List.takeWhile_append_of_pos h4]
      rcases rest with _ | ⟨x, rest⟩
      · simp
      · rw [List.takeWhile_cons, if_neg (by rw [hn x rfl]; simp)]; simp
    have e2 : (m ++ rest).dropWhile isMk = rest := by
      rw [List.dropWhile_append_of_pos h4]
      rcases rest with _ | ⟨x, rest⟩
      · rfl
      · rw [List.dropWhile_cons, if_neg (by rw [hn x rfl]; simp)]
    rw [e1, e2]
/-- Units follow each other as a text's do. -/
def Seq : List GU → Prop
  | [] => True
  | g :: gs => GOk g ∧ (ubare g.k = false → ∀ h, gs.head? = some h → h.k ≠ 2) ∧ Seq gs
theorem head_c (gs : List GU) (h : ∀ g ∈ gs, GOk g) : NoMk (gs.flatMap GU.c) ↔ ∀ g, gs.head? = some g → g.k ≠ 2 := by
  rcases gs with _ | ⟨g, gs⟩
  · simp [NoMk]
  · obtain ⟨t, m, h1, h2, _⟩ := h g (by simp)
    simp only [NoMk, List.flatMap_cons, h1, List.cons_append, List.head?_cons, Option.some.injEq]
    constructor
    · intro hh g' hg'; subst hg'
      have := hh t rfl
      unfold isMk at this; rw [h2]; simpa using this
    · intro hh t' ht'; subst ht'
      have := hh g rfl
      unfold isMk; rw [← h2]; simpa using this
theorem Seq.ok : ∀ {gs : List GU}, Seq gs → ∀ g ∈ gs, GOk g
  | [], _, g, hg => by cases hg
  | x :: gs, h, g, hg => by
    rcases List.mem_cons.1 hg with rfl | hg
    · exact h.1
    · exact Seq.ok h.2.2 g hg
theorem gun_seq : ∀ {gs : List GU}, Seq gs → gun (gs.flatMap GU.c) = gs
  | [], _ => by rw [List.flatMap_nil, gun]
  | g :: gs, h => by
    rw [List.flatMap_cons, gun_one g h.1 _ (fun hb => (head_c gs h.2.2.ok).2 (h.2.1 hb)), gun_seq h.2.2]
theorem seq_gun : ∀ (n : Nat) (ts : List Tok), ts.length ≤ n → Seq (gun ts)
  | _, [], _ => by rw [gun]; trivial
  | 0, t :: ts, h => by simp at h
  | n + 1, t :: ts, h => by
    have hok := gun_ok (n + 1) (t :: ts) h
    rw [gun] at hok ⊢
    split
    · rename_i hb
      rw [if_pos hb] at hok
      exact ⟨hok _ (by simp), fun h0 => absurd (hb.symm.trans h0) (by decide), seq_gun n ts (by simpa using h)⟩
    · rename_i hb
      rw [if_neg hb] at hok
      have hl := List.dropWhile_suffix isMk (l := ts) |>.length_le
      refine ⟨hok _ (by simp), fun _ => ?_, seq_gun n _ (by simp at h; omega)⟩
      refine (head_c _ (gun_ok n _ (by simp at h; omega))).1 ?_
      rw [gun_flat n _ (by simp at h; omega)]
      intro x hx
      have := List.head?_dropWhile_not isMk ts
      rw [hx] at this; simpa using this
theorem Seq.append_left : ∀ {a b : List GU}, Seq (a ++ b) → Seq a
  | [], _, _ => trivial
  | g :: a, b, h => ⟨h.1, fun hb x hx => h.2.1 hb x (by rcases a with _ | ⟨y, a⟩; cases hx; exact hx), Seq.append_left h.2.2⟩
theorem Seq.append_right : ∀ {a b : List GU}, Seq (a ++ b) → Seq b
  | [], _, h => h
  | g :: a, b, h => Seq.append_right (a := a) h.2.2
/-! ### Units with their places -/
theorem ustp_push {E : List Un} {n : Un} {p : Pc} (h : ¬ (pk p = 2 ∧ ubare n.k = false)) : ustp (E ++ [n]) p = E ++ [n] ++ [unew p] := by
  unfold ustp; rw [List.getLast?_concat]; simp only; rw [if_neg h]
theorem ustp_ext {E : List Un} {n : Un} {p : Pc} (h : pk p = 2 ∧ ubare n.k = false) : ustp (E ++ [n]) p = E ++ [⟨n.k, n.r, n.f, n.t + p.w, false⟩] := by
  unfold ustp; rw [List.getLast?_concat]; simp only; rw [if_pos h, List.dropLast_concat]
theorem pk_place (i : Nat) (t : Tok) : pk ⟨i, t.bs.length, t.r⟩ = tkd t := rfl
theorem fold_marks (E : List Un) : ∀ (m : List Tok) (i : Nat) (n : Un), (∀ x ∈ m, isMk x = true) → ubare n.k = false → (place i m).foldl ustp (E ++ [n]) = E ++ [⟨n.k, n.r, n.f, n.t + (flat m).length, n.al && m.isEmpty⟩]
  | [], i, n, _, _ => by simp [place, flat]
  | x :: m, i, n, hm, hb => by
    have hx : tkd x = 2 := by have := hm x (by simp); unfold isMk at this; simpa using this
    simp only [place, List.foldl_cons]
    rw [ustp_ext ⟨by rw [pk_place]; exact hx, hb⟩, fold_marks E m _ ⟨n.k, n.r, n.f, n.t + x.bs.length, false⟩ (fun y hy => hm y (by simp [hy])) hb, flat_cons]
    simp [Nat.add_assoc]
theorem fold_gs : ∀ (gs : List GU), Seq gs → ∀ (E : List Un) (i : Nat), (∀ n, E.getLast? = some n → ubare n.k = false → ∀ g, gs.head? = some g → g.k ≠ 2) → (place i (gs.flatMap GU.c)).foldl ustp E = E ++ posU i gs
  | [], _, E, i, _ => by simp [place, posU]
  | g :: gs, hs, E, i, hE => by
    obtain ⟨t, m, h1, h2, h3, h4, h5⟩ := hs.1
    have hgl : gl g = t.bs.length + (flat m).length := by unfold gl; rw [h1, flat_cons, List.length_append]
    rw [List.flatMap_cons, place_append, List.foldl_append, h1]
    have hfirst : ustp E ⟨i, t.bs.length, t.r⟩ = E ++ [unew ⟨i, t.bs.length, t.r⟩] := by
      rcases List.eq_nil_or_concat E with rfl | ⟨D, n, rfl⟩
      · rfl
      · rw [List.concat_eq_append] at *
        refine ustp_push fun ⟨a, b⟩ => hE n (by rw [List.getLast?_concat]) b g rfl ?_
        rw [h2]; exact a
    have hbody : (place i (t :: m)).foldl ustp E = E ++ [⟨g.k, g.r, i, i + gl g, g.c.length == 1⟩] := by
      simp only [place, List.foldl_cons]
      rw [hfirst]
      by_cases hb : ubare g.k = true
      · have hm := h5 hb
        subst hm
        simp [place, unew, pk_place, h2, h3, hgl, h1, flat]
      · have hb' : ubare (unew ⟨i, t.bs.length, t.r⟩).k = false := by
          show ubare (tkd t) = false
          rw [← h2]; simpa using hb
        rw [fold_marks E m _ _ h4 hb']
        simp only [unew, pk_place, h2, h3, hgl, h1]
        rcases m with _ | ⟨x, m⟩ <;> simp [Nat.add_assoc]
    rw [hbody]
    have e : (flat (t :: m)).length = gl g := by unfold gl; rw [h1]
    rw [e, fold_gs gs hs.2.2 _ _ (by
      intro n hn hb x hx
      rw [List.getLast?_concat] at hn
      cases hn
      exact hs.2.1 hb x hx), posU, List.append_assoc]; rfl
theorem units_foldG (L : List Pc) : units L = L.foldl ustp [] := by
  have key : ∀ L : List Pc, units L.reverse = L.reverse.foldl ustp [] := by
    intro L
    induction L with
    | nil => rfl
    | cons p L ih => rw [List.reverse_cons, units_snoc, List.foldl_append, ih]; rfl
  have := key L.reverse
  rwa [List.reverse_reverse] at this
theorem us_pos (s : ByteArray) : usOf s = posU 0 (gun (toks s.data.toList)) := by
  have hs := seq_gun _ (toks s.data.toList) (Nat.le_refl _)
  have := fold_gs _ hs [] 0 (by intro n hn; cases hn)
  rw [gun_flat _ _ (Nat.le_refl _), List.nil_append] at this
  rw [← this, ← units_foldG, ← pcs_place]; rfl
/-! ### Tokens by what they hold -/
def sh (g : GU) : Un := ⟨g.k, g.r, 0, 0, g.c.length == 1⟩
def gbh (g : GU) (gs : List GU) : Nat := behind (sh g) (gs.map sh)
def key (u : Un) : Int × Nat × Bool := (u.k, u.r, u.al)
theorem isK_key {us vs : List Un} (k : Int) (h : us.map key = vs.map key) : isK us k = isK vs k := by
  rcases us with _ | ⟨u, us⟩ <;> rcases vs with _ | ⟨v, vs⟩ <;> simp [key] at h <;> simp [isK, h]
theorem runN_key (kd : Int) (js : List Nat) : ∀ (us vs : List Un), us.map key = vs.map key → runN kd js us = runN kd js vs
  | [], [], _ => rfl
  | [], v :: vs, h => by simp at h
  | u :: us, [], h => by simp at h
  | u :: us, v :: vs, h => by
    obtain ⟨h1, h2⟩ := List.cons.inj (by simpa using h : key u :: us.map key = key v :: vs.map key)
    have hk := isK_key kd h2
    have ih := runN_key kd js us vs h2
    obtain ⟨k, r, f, t, al⟩ := u
    obtain ⟨k', r', f', t', al'⟩ := v
    simp only [key, Prod.mk.injEq] at h1
    obtain ⟨rfl, rfl, rfl⟩ := h1
    simp only [runN, oneOf]
    rw [hk, ih]
    rfl
theorem behind_key {u v : Un} {us vs : List Un} (h1 : key u = key v) (h2 : us.map key = vs.map key) : behind u us = behind v vs := by
  obtain ⟨k, r, f, t, al⟩ := u
  obtain ⟨k', r', f', t', al'⟩ := v
  simp only [key, Prod.mk.injEq] at h1
  obtain ⟨rfl, rfl, rfl⟩ := h1
  have hr := fun kd js => runN_key kd js us vs h2
  rcases us with _ | ⟨a, us⟩ <;> rcases vs with _ | ⟨b, vs⟩
  · rfl
  · simp at h2
  · simp at h2
  · obtain ⟨h3, h4⟩ := List.cons.inj (by simpa using h2 : key a :: us.map key = key b :: vs.map key)
    obtain ⟨ka, ra, fa, ta, ala⟩ := a
    obtain ⟨kb, rb, fb, tb, alb⟩ := b
    simp only [key, Prod.mk.injEq] at h3
    obtain ⟨rfl, rfl, rfl⟩ := h3
    unfold behind
    rw [hr, hr, hr, hr]
theorem posU_key : ∀ (gs : List GU) (i : Nat), (posU i gs).map key = (gs.map sh).map key
  | [], _ => rfl
  | g :: gs, i => by simp only [posU, List.map_cons, posU_key gs]; rfl
theorem behind_pos (g : GU) (gs : List GU) (i j : Nat) (u : Un) (h : key u = key (sh g)) : behind u (posU j gs) = gbh g gs := behind_key h (posU_key gs j)
abbrev GT := Int × List GU
def gtok : List GU → List GT
  | [] => []
  | g :: gs => ((begins (sh g)).2, g :: gs.take (gbh g gs)) :: gtok (gs.drop (gbh g gs))
termination_by gs => gs.length
decreasing_by simp only [List.length_drop, List.length_cons]; omega
def tl (x : GT) : Nat := (x.2.map gl).sum
def posT : Nat → List GT → List Tk
  | _, [] => []
  | i, x :: xs => ⟨x.1, i, i + tl x⟩ :: posT (i + tl x) xs
theorem posU_drop : ∀ (gs : List GU) (n i : Nat), (posU i gs).drop n = posU (i + ((gs.take n).map gl).sum) (gs.drop n)
  | [], n, i => by simp [posU]
  | g :: gs, 0, i => by simp
  | g :: gs, n + 1, i => by simp [posU, posU_drop gs n, Nat.add_assoc]
theorem endOf_pos : ∀ (gs : List GU) (n i : Nat), n ≤ gs.length → endOf i (posU i gs) n = i + ((gs.take n).map gl).sum
  | gs, 0, i, _ => by simp [endOf]
  | [], n + 1, i, h => by simp at h
  | g :: gs, n + 1, i, h => by
    have ih := endOf_pos gs n (i + gl g) (by simpa using h)
    simp only [posU, endOf, ih, List.take_succ_cons, List.map_cons, List.sum_cons, Nat.add_assoc]
theorem posU_len : ∀ (gs : List GU) (i : Nat), (posU i gs).length = gs.length
  | [], _ => rfl
  | g :: gs, i => by simp [posU, posU_len gs]
theorem toksR_pos : ∀ (n : Nat) (gs : List GU) (i : Nat), gs.length ≤ n → toksR (posU i gs) = posT i (gtok gs)
  | _, [], i, _ => by rw [posU, toksR, gtok]; rfl
  | 0, g :: gs, i, h => by simp at h
  | n + 1, g :: gs, i, h => by
    have hb := behind_pos g gs i (i + gl g) ⟨g.k, g.r, i, i + gl g, g.c.length == 1⟩ rfl
    have hle := behind_le ⟨g.k, g.r, i, i + gl g, g.c.length == 1⟩ (posU (i + gl g) gs)
    rw [hb, posU_len] at hle
    have hbg : (begins ⟨g.k, g.r, i, i + gl g, g.c.length == 1⟩).2 = (begins (sh g)).2 := rfl
    rw [posU, toksR, gtok, posT, hb, hbg, endOf_pos _ _ _ hle, posU_drop, toksR_pos n _ _ (by simp at h ⊢; omega)]
    have e : tl ((begins (sh g)).2, g :: gs.take (gbh g gs)) = gl g + ((gs.take (gbh g gs)).map gl).sum := by simp [tl]
    rw [e]
    simp [Nat.add_assoc]
def G (ts : List Tok) : List GT := gtok (gun ts)
theorem tks_pos (s : ByteArray) : tksOf s = posT 0 (G (toks s.data.toList)) := by
  have e : tksOf s = toksR (usOf s) := scan_toksR _ (units_wf s)
  rw [e, us_pos, toksR_pos _ _ _ (Nat.le_refl _)]; rfl
end Go.Proofs.Ytlamcpgnmeileaa
namespace Go.Proofs.Ytlamcpgnmeileaa
open Go.RowKit Go.Lib
set_option linter.unusedVariables false
set_option linter.unusedSimpArgs false
theorem gtok_cons (g : GU) (gs : List GU) : gtok (g :: gs) = ((begins (sh g)).2, g :: gs.take (gbh g gs)) :: gtok (gs.drop (gbh g gs)) := by rw [gtok]
theorem gtok_nil : gtok [] = [] := by rw [gtok]
def fl2 (A : List GT) : List GU := A.flatMap Prod.snd
theorem gtok_flat : ∀ (n : Nat) (gs : List GU), gs.length ≤ n → fl2 (gtok gs) = gs
  | _, [], _ => by rw [gtok_nil]; rfl
  | 0, g :: gs, h => by simp at h
  | n + 1, g :: gs, h => by
    rw [gtok_cons]
    show (g :: gs.take (gbh g gs)) ++ fl2 (gtok (gs.drop (gbh g gs))) = _
    rw [gtok_flat n _ (by simp at h ⊢; omega), List.cons_append, List.take_append_drop]
def cont (A : List GT) : List Tok := (fl2 A).flatMap GU.c
theorem fl2_append (A B : List GT) : fl2 (A ++ B) = fl2 A ++ fl2 B := by simp [fl2]
theorem cont_append (A B : List GT) : cont (A ++ B) = cont A ++ cont B := by simp [cont, fl2_append]
def tot (A : List GT) : Nat := (A.map tl).sum
theorem gu_len (gs : List GU) : (flat (gs.flatMap GU.c)).length = (gs.map gl).sum := by
  induction gs with
  | nil => rfl
  | cons g gs ih => rw [List.flatMap_cons, flat_append, List.length_append, ih]; rfl
theorem tot_len (A : List GT) : (flat (cont A)).length = tot A := by
  unfold cont; rw [gu_len]
  induction A with
  | nil => rfl
  | cons x A ih =>
    show ((x.2 ++ fl2 A).map gl).sum = _
    rw [List.map_append, List.sum_append, ih]; rfl
end Go.Proofs.Ytlamcpgnmeileaa
namespace Go.Proofs.Ytlamcpgnmeileaa
open Go.RowKit Go.Lib
set_option linter.unusedVariables false
set_option linter.unusedSimpArgs false
theorem cont_one (x : GT) : cont [x] = x.2.flatMap GU.c := by simp [cont, fl2]
theorem cont_cons (x : GT) (A : List GT) : cont (x :: A) = cont [x] ++ cont A := cont_append [x] A
/-- A word's units: letters, and between them single joints. -/
inductive WG : List GU → Prop
  | one (l : List GU) (h : l ≠ []) (hl : ∀ g ∈ l, g.k = 1) : WG l
  | more (l : List GU) (j : GU) (r : List GU) (h : l ≠ []) (hl : ∀ g ∈ l, g.k = 1) (hj : j.k ≠ 1) (hj2 : oneOf JW (sh j) = true) (hr : WG r) : WG (l ++ j :: r)
theorem WG.cons {g : GU} {l : List GU} (hg : g.k = 1) (h : WG l) : WG (g :: l) := by
  cases h with
  | one _ h hl => exact .one _ (by simp) (fun x hx => by rcases List.mem_cons.1 hx with rfl | hx; exact hg; exact hl x hx)
  | more l j r h hl hj hj2 hr => exact .more (g :: l) j r (by simp) (fun x hx => by rcases List.mem_cons.1 hx with rfl | hx; exact hg; exact hl x hx) hj hj2 hr
theorem WG.head {l : List GU} (h : WG l) : ∃ g gs, l = g :: gs ∧ g.k = 1 := by
  cases h with
  | one _ h hl => rcases l with _ | ⟨g, gs⟩; exact absurd rfl h; exact ⟨g, gs, rfl, hl g (by simp)⟩
  | more l j r h hl hj hj2 hr => rcases l with _ | ⟨g, gs⟩; exact absurd rfl h; exact ⟨g, gs ++ j :: r, rfl, hl g (by simp)⟩
theorem WG.mem {l : List GU} (h : WG l) : ∀ g ∈ l, g.k ≠ 11 := by
  induction h with
  | one l h hl => intro g hg; rw [hl g hg]; decide
  | more l j r h hl hj hj2 hr ih =>
    intro g hg
    rcases List.mem_append.1 hg with hg | hg
    · rw [hl g hg]; decide
    · rcases List.mem_cons.1 hg with rfl | hg
      · simp [oneOf, sh] at hj2; exact hj2.1.2
      · exact ih g hg
theorem isK_map (gs : List GU) (k : Int) (h : isK (gs.map sh) k = true) : ∃ v vs, gs = v :: vs ∧ v.k = k := by
  rcases gs with _ | ⟨v, vs⟩
  · simp [isK] at h
  · exact ⟨v, vs, rfl, by simpa [isK, sh] using h⟩
theorem wg_take : ∀ (n : Nat) (gs : List GU), gs.length ≤ n → ∀ g : GU, g.k = 1 → WG (g :: gs.take (runN 1 JW (gs.map sh)))
  | _, [], _, g, hg => .one _ (by simp) (by simpa using hg)
  | 0, h :: hs, hn, _, _ => by simp at hn
  | n + 1, h :: hs, hn, g, hg => by
    simp only [List.length_cons] at hn
    simp only [List.map_cons, runN]
    by_cases h1 : (sh h).k = 1
    · rw [if_pos h1, Nat.add_comm, List.take_succ_cons]
      exact .cons hg (wg_take n hs (by omega) h h1)
    · rw [if_neg h1]
      by_cases h2 : oneOf JW (sh h) = true ∧ isK (hs.map sh) 1 = true
      · obtain ⟨v, vs, rfl, hv⟩ := isK_map hs 1 h2.2
        have hr : runN 1 JW ((v :: vs).map sh) = 1 + runN 1 JW (vs.map sh) := by
          simp only [List.map_cons, runN]; rw [if_pos (show (sh v).k = 1 from hv)]
        rw [if_pos h2, hr, Nat.add_comm, List.take_succ_cons, Nat.add_comm, List.take_succ_cons]
        simp only [List.length_cons] at hn
        exact .more [g] h _ (by simp) (by simpa using hg) h1 h2.1 (wg_take n vs (by omega) v hv)
      · rw [if_neg h2]; exact .one _ (by simp) (by simpa using hg)
theorem run_letters (rest : List GU) : ∀ l : List GU, (∀ g ∈ l, g.k = 1) → runN 1 JW ((l ++ rest).map sh) = l.length + runN 1 JW (rest.map sh)
  | [], _ => by simp
  | g :: l, h => by
    have ih := run_letters rest l (fun x hx => h x (by simp [hx]))
    simp only [List.cons_append, List.map_cons, runN, List.length_cons]
    rw [if_pos (show (sh g).k = 1 from h g (by simp)), ih]; omega
theorem run_wg {l : List GU} (h : WG l) (rest : List GU) (hr : runN 1 JW (rest.map sh) = 0) : runN 1 JW ((l ++ rest).map sh) = l.length := by
  induction h with
  | one l h hl => rw [run_letters rest l hl, hr]; rfl
  | more l j r h hl hj hj2 hw ih =>
    rw [List.append_assoc, run_letters _ l hl, List.length_append]
    obtain ⟨v, vs, rfl, hv⟩ := hw.head
    simp only [List.cons_append, List.map_cons, runN, List.length_cons] at ih ⊢
    rw [if_pos (show (sh v).k = 1 from hv)] at ih
    rw [if_neg (show ¬ (sh j).k = 1 from hj), if_pos ⟨hj2, by simp [isK, sh, hv]⟩, if_pos (show (sh v).k = 1 from hv)]; omega
theorem gtok_word {l : List GU} (h : WG l) (rest : List GU) (hr : runN 1 JW (rest.map sh) = 0) : gtok (l ++ rest) = (1, l) :: gtok rest := by
  have hrun := run_wg h rest hr
  obtain ⟨g, gs, rfl, hg⟩ := h.head
  have hb : gbh g (gs ++ rest) = gs.length := by
    unfold gbh behind
    rw [if_pos (show (sh g).k = 1 from hg)]
    simp only [List.cons_append, List.map_cons, runN, List.length_cons] at hrun
    rw [if_pos (show (sh g).k = 1 from hg)] at hrun; omega
  have hbg : (begins (sh g)).2 = 1 := by unfold begins; rw [if_pos (show (sh g).k = 1 from hg)]
  rw [List.cons_append, gtok_cons, hb, hbg, List.take_left, List.drop_left]
theorem begins_1 (u : Un) : (begins u).2 = 1 ↔ u.k = 1 := by
  unfold begins; repeat' split
  all_goals simp_all
theorem gtok_wg : ∀ (n : Nat) (gs : List GU), gs.length ≤ n → ∀ x ∈ gtok gs, x.1 = 1 → WG x.2
  | _, [], _, x, h, _ => by rw [gtok_nil] at h; cases h
  | 0, g :: gs, h, _, _, _ => by simp at h
  | n + 1, g :: gs, hl, x, h, h1 => by
    rw [gtok_cons] at h
    rcases List.mem_cons.1 h with rfl | h
    · have hg : g.k = 1 := (begins_1 _).1 h1
      have e : gbh g gs = runN 1 JW (gs.map sh) := by unfold gbh behind; rw [if_pos (show (sh g).k = 1 from hg)]
      show WG (g :: gs.take (gbh g gs))
      rw [e]; exact wg_take _ gs (Nat.le_refl _) g hg
    · exact gtok_wg n _ (by simp at hl ⊢; omega) x h h1
/-! ### Blanks between words -/
def blU : GU := ⟨5, 32, [⟨32, [32]⟩]⟩
def bl : GT := (3, [blU])
def jt : List GT → List GT
  | [] => []
  | x :: xs => bl :: x :: jt xs
def Wd (x : GT) : Prop := x.1 = 1 ∧ WG x.2 ∧ Seq x.2 ∧ ∀ t ∈ cont [x], t.valid
theorem good_valid {ts : List Tok} (h : ∀ t ∈ ts, t.valid) : Good ts := by
  have := toks_valids h []
  rw [List.append_nil, toks_nil, List.append_nil] at this; exact this
def wf1 (x : GT) : Bool := x.1 == 1
theorem Wd.alone {x : GT} (h : Wd x) : G (cont [x]) = [x] ∧ Good (cont [x]) := by
  obtain ⟨h1, h2, h3, h4⟩ := h
  refine ⟨?_, good_valid h4⟩
  unfold G
  rw [cont_one, gun_seq h3]
  have := gtok_word h2 [] rfl
  rw [List.append_nil] at this
  rw [this, gtok_nil, ← h1]
theorem Wd.part {x : GT} (h : Wd x) (A l B : List GU) (hx : x.2 = A ++ (l ++ B)) (hn : l ≠ []) (hl : ∀ g ∈ l, g.k = 1) : Wd (1, l) := by
  obtain ⟨h1, h2, h3, h4⟩ := h
  refine ⟨rfl, .one l hn hl, ?_, fun t ht => h4 t ?_⟩
  · rw [hx] at h3; exact h3.append_right.append_left
  · rw [cont_one] at ht ⊢
    rw [hx]; simp only [List.flatMap_append, List.mem_append]
    exact .inr (.inl ht)
end Go.Proofs.Ytlamcpgnmeileaa
namespace Go.Proofs.Ytlamcpgnmeileaa
open Go.RowKit Go.Lib
set_option linter.unusedVariables false
set_option linter.unusedSimpArgs false
theorem cutB_app {s : ByteArray} {x y z : List UInt8} {i j : Int} (h : s.data.toList = x ++ (y ++ z)) (hi : i = x.length) (hj : j = x.length + y.length) : (cutB s i j).data.toList = y := by
  subst hi; subst hj
  have e := cutB_list s x.length y.length
  rw [e, h, List.drop_left' rfl, List.take_left' rfl]
theorem ba_eq {a b : ByteArray} (h : a.data.toList = b.data.toList) : a = b := by
  apply ByteArray.ext; exact Array.toList_inj.1 h
/-- A word's text. -/
def txB (x : GT) : ByteArray := ⟨(flat (cont [x])).toArray⟩
theorem txB_list (x : GT) : (txB x).data.toList = flat (cont [x]) := by simp [txB]
def cw (s : ByteArray) (w : Nat × Nat) : ByteArray := cutB s (w.1 : Int) (w.2 : Int)
theorem wds_txt (s : ByteArray) (L : List GT) (hd : s.data.toList = flat (cont L)) : ∀ (B A : List GT), L = A ++ B → (wds (posT (tot A) B)).map (cw s) = (B.filter wf1).map txB
  | [], A, _ => rfl
  | x :: B, A, h => by
    have ih := wds_txt s L hd B (A ++ [x]) (by rw [h]; simp)
    have ht : tot (A ++ [x]) = tot A + tl x := by simp [tot]
    rw [ht] at ih
    by_cases hk : x.1 = 1
    · have e : wds (posT (tot A) (x :: B)) = (tot A, tot A + tl x) :: wds (posT (tot A + tl x) B) := by
        show wds (⟨x.1, tot A, tot A + tl x⟩ :: posT (tot A + tl x) B) = _
        simp [wds, hk]
      have e2 : cw s (tot A, tot A + tl x) = txB x := by
        apply ba_eq
        rw [txB_list]
        refine cutB_app (x := flat (cont A)) (z := flat (cont B)) ?_ (by rw [tot_len]) ?_
        · rw [hd, h, cont_append, flat_append, cont_cons x B, flat_append]
        · rw [tot_len, tot_len]; simp [tot]
      rw [e, List.map_cons, ih, e2, List.filter_cons_of_pos (by simp [wf1, hk])]; rfl
    · have e : wds (posT (tot A) (x :: B)) = wds (posT (tot A + tl x) B) := by
        show wds (⟨x.1, tot A, tot A + tl x⟩ :: posT (tot A + tl x) B) = _
        simp [wds, hk]
      rw [e, ih, List.filter_cons_of_neg (by simp [wf1, hk])]
theorem ws_txt (s : ByteArray) (L : List GT) (hd : s.data.toList = flat (cont L)) (ht : tksOf s = posT 0 L) : (wsOf s).map (cw s) = (L.filter wf1).map txB := by
  unfold wsOf; rw [ht]; exact wds_txt s L hd L [] rfl
/-! ### Trim -/
def gap (x : GT) : Prop := x.1 = 3 ∨ x.1 = 4
instance (x : GT) : Decidable (gap x) := by unfold gap; infer_instance
end Go.Proofs.Ytlamcpgnmeileaa
namespace Go.Proofs.Ytlamcpgnmeileaa
open Go.RowKit Go.Lib
set_option linter.unusedVariables false
set_option linter.unusedSimpArgs false
section
variable {R X A B : Type} {xs : List X}
theorem lp_get {k : Nat} {x : X} (h : xs[k]? = some x) : getO xs (k : Int) = some x := getO_nat h
theorem lp_lt {k : Nat} {x : X} (h : xs[k]? = some x) : decide ((k : Int) < (xs.length : Int)) = true := decide_eq_true (by have := (List.getElem?_eq_some_iff.1 h).1; omega)
theorem lp_ge : decide ((xs.length : Int) < (xs.length : Int)) = false := decide_eq_false (by omega)
theorem lp_i64 {k : Nat} (h : k ≤ 4611686018427387904) : I64 ((k : Int) + 1) := ⟨by omega, by omega⟩
theorem lp_lt' {k : Nat} {x : X} (h : xs[k]? = some x) : k < xs.length := (List.getElem?_eq_some_iff.1 h).1
/-- One thing goes through the loop. -/
theorem loop1 {F : (A → Int → Option R) → A → Int → Option R} {bot : A → Int → Option R} {f : A → X → A} {J : A → Option R} (Inv : Nat → A → Prop)
    (hs : ∀ ag k x a, xs[k]? = some x → Inv k a → F ag a (k : Int) = ag (f a x) ((k : Int) + 1)) (hI : ∀ k x a, xs[k]? = some x → Inv k a → Inv (k + 1) (f a x))
    (he : ∀ ag a, Inv xs.length a → F ag a (xs.length : Int) = J a) {n : Nat} (hn : xs.length < n) {a : A} (h0 : Inv 0 a) : loopG bot F n a 0 = J (xs.foldl f a) := by
  have key : ∀ (n k : Nat) (a : A), k ≤ xs.length → xs.length - k < n → Inv k a → loopG bot F n a (k : Int) = J ((xs.drop k).foldl f a) := by
    intro n
    induction n with
    | zero => intro k a _ h; omega
    | succ n ih =>
      intro k a hk hn hi
      rw [loopI]
      by_cases h : k < xs.length
      · have hx : xs[k]? = some xs[k] := List.getElem?_eq_getElem h
        rw [hs _ k _ a hx hi, List.drop_eq_getElem_cons h, List.foldl_cons]
        exact ih (k + 1) _ (by omega) (by omega) (hI k _ a hx hi)
      · have : k = xs.length := by omega
        subst this
        rw [he _ a hi, List.drop_length]; rfl
  have := key n 0 a (Nat.zero_le _) (by omega) h0
  simpa using this
end
theorem big_fuel {n : Nat} (h : n ≤ 4611686018427387904) : n < fuel := by unfold fuel; omega
end Go.Proofs.Ytlamcpgnmeileaa
namespace Go.Proofs.Ytlamcpgnmeileaa
open Go.RowKit Go.Lib
set_option linter.unusedVariables false
set_option linter.unusedSimpArgs false
end Go.Proofs.Ytlamcpgnmeileaa
