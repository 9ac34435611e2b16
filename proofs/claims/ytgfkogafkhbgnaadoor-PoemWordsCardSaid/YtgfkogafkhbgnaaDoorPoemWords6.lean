/-
  Texts laid together: WordC, WordD, WordE, WordP, Wd, LqW. Nothing is assumed.
-/
import Derived.Test.YtgfkogafkhbgnaaDoorPoemWords5
import Derived.Test.YtgfkogafkhbgnaaDoorPoemWords1
import Derived.Test.YtgfkogafkhbgnaaDoorPoemWords2
namespace Go.Proofs.YtgfkogafkhbgnaaDoor
open Go.RowKit Go.Lib
set_option linter.unusedVariables false
set_option linter.unusedSimpArgs false
def scV (s : Sc) : List Value := [.int .i64 s.st, .int .i64 s.tk.k, .int .i64 s.tk.f, .int .i64 s.tk.t, .int .i64 s.h.k, .int .i32 s.h.r, .int .i64 s.h.f, .int .i64 s.h.t, .bool s.h.al]
def tkV (t : Tk) : List Value := [.int .i64 t.k, .int .i64 t.f, .int .i64 t.t]
def tkA (t : Tk) : List Value := [.agg (tkV t).toArray]
def fitted (s : Sc) (u : Un) : Sc := ⟨(fits s.st u).1, s.tk, if (fits s.st u).2 = 2 then u else s.h⟩
theorem Holds.fact {w0 w : World} {K : Nat → Prop} {L : List Asn} {p : Prop} (h : Holds w0 K L w) (hp : p) : Holds w0 K (L ++ [fact p]) w :=
  h.grow (C' := fun _ => False) (Ext.refl _ _) (sepL.one (A := Go.Proofs.YtgfkogafkhbgnaaDoor.fact p) ⟨fun _ h => h, hp⟩)
theorem TX.finE {P : Program} {F : Fence} {w0 : World} {K : Nat → Prop} {N : Nat} {σ : List (Nat × Value)} {L R As : List Asn} {fn : Func} {rs : List ResultVar} {vs : List Value} {β : Type} {V : β → Value} {Bs : β → List Asn} {e : Exit} {p : Prop} (b : β)
    (he : e = .ret ∨ e = .normal) (hrs : fn.results = rs.toArray) (hres : ResOks P σ L rs vs) (hv : resVal vs = V b) (hs : Splits L As R) (hp : p) (hB : Bs b = As ++ [fact p] := by rfl) :
    TX w0 K N [] (bodyPostM F 0 P fn (FR P V Bs w0 K)) e σ L := by
  intro a w ha hw
  have h1 := results_run hrs hres ha hw
  have h2 : LeavesInM F 0 P fn a.tmps (FR P V Bs w0 K) a.defers .returning w := by
    rw [ha.2.1]
    exact ⟨resVal vs, h1, b, by rw [hv], by rw [hB]; exact (hw.weaken hs).fact hp⟩
  rcases he with rfl | rfl <;> exact h2
set_option maxRecDepth 100000 in
set_option maxHeartbeats 4000000 in
theorem fits_fn (b : Nat) (s : Sc) (u : Un) : Fn Tryd.prog 88 [.pointer (some ⟨b, 0, none⟩), .agg #[.int .i64 u.k, .int .i32 u.r, .int .i64 u.f, .int .i64 u.t, .bool u.al]] [cells b (scV s) 152] (fun _ : Unit => .int .i64 (fits s.st u).2) (fun _ => [cells b (scV (fitted s u)) 152]) := by
 refine Fn.intro Tryd.func88 rfl Tryd.ntmps88 (by simp) ?_
 intro w0 K
 show TC _ _ _ _ _ _ _ _ _ [cells b [.int .i64 s.st, .int .i64 s.tk.k, .int .i64 (s.tk.f : Int), .int .i64 (s.tk.t : Int), .int .i64 s.h.k, .int .i32 (s.h.r : Int), .int .i64 (s.h.f : Int), .int .i64 (s.h.t : Int), .bool s.h.al] 152]
 refine TC.seq (TC.region ?_)
 refine TO.box rfl (by decide) rfl (fun b1 => ?_)
 refine TO.assign rfl (by decide) rfl (TO.nil (TX.next (TC.seq (TC.region (TO.fieldAddr fl_150_0 rfl (by decide) rfl (show _ = 0 from rfl) (TO.load (k := 1) sc_148 rfl (by decide) rfl rfl rfl (TO.assign rfl (by decide) rfl (TO.nil (TX.next (TC.seq (TC.seq (TC.region (TO.move rfl (by decide) rfl ?_)))))))))))))
 refine TO.nilCheck rfl (by decide) rfl (TO.fieldAddr fl_152_0 rfl (by decide) rfl (show _ = 0 from rfl) (TO.load (k := 0) sc_3 rfl (by decide) rfl rfl rfl (TO.nil (TX.next (TC.block (TC.seq (TC.seq (TC.region (TO.bin rfl (by decide) rfl rfl bin_eql (TO.assign rfl (by decide) rfl (TO.nil (TX.next ?_))))))))))))
 refine TC.condB rfl (fun h1 => ?_) (fun h1 => ?_)
 ·
  -- yes
  have h1 := beq_iff_eq.1 h1
  refine TC.skip (TX.next ?_)
  refine TC.condB rfl (fun h2 => ?_) (fun h2 => ?_)
  ·
   -- yes
   have h2 := beq_iff_eq.1 h2
   refine TC.seq (TC.seq (TC.region (TO.move rfl (by decide) rfl (TO.bin rfl (by decide) rfl rfl bin_eql (TO.nil (TX.next ?_))))))
   refine TC.condB rfl (fun h3 => ?_) (fun h3 => ?_)
   ·
    -- yes
    have h3 := beq_iff_eq.1 h3
    refine TC.seq (TC.region (TO.move rfl (by decide) rfl (TO.nilCheck rfl (by decide) rfl (TO.fieldAddr fl_152_0 rfl (by decide) rfl (show _ = 0 from rfl) ?_))))
    refine TO.store (k := 0) (l' := [.int .i64 1, .int .i64 s.tk.k, .int .i64 (s.tk.f : Int), .int .i64 (s.tk.t : Int), .int .i64 s.h.k, .int .i32 (s.h.r : Int), .int .i64 (s.h.f : Int), .int .i64 (s.h.t : Int), .bool s.h.al]) sz_3 rfl rfl rfl rfl rfl (fun _ _ => rfl) rfl ?_
    refine TO.nil (TX.next (TC.seq (TC.region (TO.assign rfl (by decide) rfl (TO.nil (TX.next (TC.ret (TX.thenRet (TX.blockRet (TX.thenRet ?_))))))))))
    have hfit : fits s.st u = (1, 1) := by unfold fits; simp_all <;> omega
    have hB : [.int .i64 1, .int .i64 s.tk.k, .int .i64 (s.tk.f : Int), .int .i64 (s.tk.t : Int), .int .i64 s.h.k, .int .i32 (s.h.r : Int), .int .i64 (s.h.f : Int), .int .i64 (s.h.t : Int), .bool s.h.al] = scV (fitted s u) := by unfold fitted; rw [hfit]; rfl
    refine TX.rewE (k := 0) rfl (show cells b [.int .i64 1, .int .i64 s.tk.k, .int .i64 (s.tk.f : Int), .int .i64 (s.tk.t : Int), .int .i64 s.h.k, .int .i32 (s.h.r : Int), .int .i64 (s.h.f : Int), .int .i64 (s.h.t : Int), .bool s.h.al] 152 = cells b (scV (fitted s u)) 152 from (congrArg (fun z => cells b z 152) hB)) ?_
    show TX _ _ _ _ _ _ _ [cells b (scV (fitted s u)) 152, cells b1 [.int .i64 u.k, .int .i32 (u.r : Int), .int .i64 (u.f : Int), .int .i64 (u.t : Int), .bool u.al] 150]
    exact TX.fin (rs := [.tmp 4]) () (.inl rfl) Tryd.results88 (.cons (.tmp rfl) .nil) (by rw [hfit]; rfl) (Splits.of [0] (by as_aux_lemma => kernel_rfl) rfl)
   ·
    -- no
    have h3 := beq_eq_false_iff_ne.1 h3
    refine TC.skip (TX.next (TC.seq (TC.region (TO.move rfl (by decide) rfl (TO.nilCheck rfl (by decide) rfl (TO.fieldAddr fl_152_0 rfl (by decide) rfl (show _ = 0 from rfl) (TO.load (k := 0) sc_3 rfl (by decide) rfl rfl rfl (TO.bin rfl (by decide) rfl rfl bin_eql (TO.move rfl (by decide) rfl ?_)))))))))
    refine TO.split (s := 25) rfl (fun h4 => ?_) (fun h4 => ?_)
    ·
     -- yes
     have h4 := beq_iff_eq.1 h4
     refine TO.loads (k := 1) (cs := [.int .i64 u.k, .int .i32 (u.r : Int), .int .i64 (u.f : Int), .int .i64 (u.t : Int), .bool u.al]) rw_150 rfl (by decide) rfl rfl rfl rfl (TO.callP (v := .bool (joint u)) (vs := [.agg #[.int .i64 u.k, .int .i32 (u.r : Int), .int .i64 (u.f : Int), .int .i64 (u.t : Int), .bool u.al]]) rfl (by decide) rfl rfl rfl en_107 (joint_p u) (TO.pick (b := true) rfl (by decide) rfl rfl (TO.nil (TX.next ?_))))
     refine TC.condB rfl (fun h5 => ?_) (fun h5 => ?_)
     ·
      -- yes
      refine TC.seq ?_
      refine TC.drawB (β := Unit) 6 5 _ [(0, 29, .pointer (some ⟨b, 0, none⟩)), (1, 30, .pointer (some ⟨b, 0, none⟩)), (2, 31, .agg #[.int .i64 u.k, .int .i32 (u.r : Int), .int .i64 (u.f : Int), .int .i64 (u.t : Int), .bool u.al]), (3, 32, .pointer (some ⟨b, 0, none⟩)), (4, 33, .pointer (some ⟨b, 0, none⟩))] (fun _b => []) (fun _b => [cells b [.int .i64 2, .int .i64 s.tk.k, .int .i64 (s.tk.f : Int), .int .i64 (s.tk.t : Int), .int .i64 s.h.k, .int .i32 (s.h.r : Int), .int .i64 (s.h.f : Int), .int .i64 (s.h.t : Int), .bool s.h.al] 152, cells b1 [.int .i64 u.k, .int .i32 (u.r : Int), .int .i64 (u.f : Int), .int .i64 (u.t : Int), .bool u.al] 150]) mixed (by as_aux_lemma => kernel_rfl) (by as_aux_lemma => kernel_rfl) rfl (by decide) (by decide) (by rfl) (by as_aux_lemma => kernel_rfl) (by as_aux_lemma => kernel_rfl) (DrawPreX.cons ?_ (DrawPreX.cons ?_ (DrawPreX.cons ?_ (DrawPreX.cons ?_ (DrawPreX.cons ?_ (DrawPreX.here DrawPreX.nil)))))) (fun _b => (DrawPreX.cons ?_ (DrawPreX.cons ?_ (DrawPreX.cons ?_ (DrawPreX.cons ?_ (DrawPreX.cons ?_ (DrawPreX.here DrawPreX.nil))))))) ?_ ?_
      ·
       intro D hn hd hcl hu hi
       refine TO.move rfl (by decide) (dl_old (by rfl) rfl) ?_
       exact TX.quiet 0 hu hi rfl
      ·
       intro D hn hd hcl hu hi
       refine TO.move rfl (by decide) (dl_old (by rfl) rfl) ?_
       exact TX.quiet 1 hu hi rfl
      ·
       intro D hn hd hcl hu hi
       refine TO.loads (k := 1) (cs := [.int .i64 u.k, .int .i32 (u.r : Int), .int .i64 (u.f : Int), .int .i64 (u.t : Int), .bool u.al]) rw_150 rfl (by decide) (dl_old (by rfl) rfl) rfl rfl rfl ?_
       exact TX.quiet 2 hu hi rfl
      ·
       intro D hn hd hcl hu hi
       refine TO.nilCheck rfl (by decide) (dl_lookup (m := 0) hu rfl (hd 0 (by decide))) ?_
       exact TX.quiet 3 hu hi rfl
      ·
       intro D hn hd hcl hu hi
       refine TO.fieldAddr fl_152_0 rfl (by decide) (dl_lookup (m := 3) hu rfl (hd 3 (by decide))) (show _ = 0 from rfl) ?_
       exact TX.quiet 4 hu hi rfl
      ·
       intro D hn hd hcl hu hi
       refine TO.move rfl (by decide) (dl_old (by rfl) rfl) ?_
       exact TX.quiet 0 hu hi rfl
      ·
       intro D hn hd hcl hu hi
       refine TO.move rfl (by decide) (dl_old (by rfl) rfl) ?_
       exact TX.quiet 1 hu hi rfl
      ·
       intro D hn hd hcl hu hi
       refine TO.loads (k := 1) (cs := [.int .i64 u.k, .int .i32 (u.r : Int), .int .i64 (u.f : Int), .int .i64 (u.t : Int), .bool u.al]) rw_150 rfl (by decide) (dl_old (by rfl) rfl) rfl rfl rfl ?_
       exact TX.quiet 2 hu hi rfl
      ·
       intro D hn hd hcl hu hi
       refine TO.nilCheck rfl (by decide) (dl_lookup (m := 0) hu rfl (hd 0 (by decide))) ?_
       exact TX.quiet 3 hu hi rfl
      ·
       intro D hn hd hcl hu hi
       refine TO.fieldAddr fl_152_0 rfl (by decide) (dl_lookup (m := 3) hu rfl (hd 3 (by decide))) (show _ = 0 from rfl) ?_
       exact TX.quiet 4 hu hi rfl
      ·
       intro D hn hd hcl
       refine TO.store (k := 0) (l' := [.int .i64 2, .int .i64 s.tk.k, .int .i64 (s.tk.f : Int), .int .i64 (s.tk.t : Int), .int .i64 s.h.k, .int .i32 (s.h.r : Int), .int .i64 (s.h.f : Int), .int .i64 (s.h.t : Int), .bool s.h.al]) sz_3 rfl (dl_lookup (m := 4) (by as_aux_lemma => kernel_rfl) rfl (hd 4 (by decide))) rfl rfl rfl (fun _ _ => rfl) rfl ?_
       exact fun a w ha hw => ⟨(), ha, hw⟩
      intro _b
      show TO _ _ _ _ _ _ _ _ _ _ [cells b [.int .i64 2, .int .i64 s.tk.k, .int .i64 (s.tk.f : Int), .int .i64 (s.tk.t : Int), .int .i64 s.h.k, .int .i32 (s.h.r : Int), .int .i64 (s.h.f : Int), .int .i64 (s.h.t : Int), .bool s.h.al] 152, cells b1 [.int .i64 u.k, .int .i32 (u.r : Int), .int .i64 (u.f : Int), .int .i64 (u.t : Int), .bool u.al] 150]
      refine TO.nilCheck rfl (by decide) rfl (TO.fieldAddr fl_152_2 rfl (by decide) rfl (show _ = 4 from rfl) (TO.stores (k := 0) (vs := [.int .i64 u.k, .int .i32 (u.r : Int), .int .i64 (u.f : Int), .int .i64 (u.t : Int), .bool u.al]) (l' := [.int .i64 2, .int .i64 s.tk.k, .int .i64 (s.tk.f : Int), .int .i64 (s.tk.t : Int), .int .i64 u.k, .int .i32 (u.r : Int), .int .i64 (u.f : Int), .int .i64 (u.t : Int), .bool u.al]) sz_150 rfl rfl rfl rfl rfl (show _ ≤ _ by simp) rfl rfl (TO.nil (TX.next (TC.seq (TC.region (TO.assign rfl (by decide) rfl (TO.nil (TX.next (TC.ret (TX.blockRet (TX.thenRet ?_))))))))))))
      have hfit : fits s.st u = (2, 2) := by unfold fits; simp_all <;> omega
      have hB : [.int .i64 2, .int .i64 s.tk.k, .int .i64 (s.tk.f : Int), .int .i64 (s.tk.t : Int), .int .i64 u.k, .int .i32 (u.r : Int), .int .i64 (u.f : Int), .int .i64 (u.t : Int), .bool u.al] = scV (fitted s u) := by unfold fitted; rw [hfit]; rfl
      refine TX.rewE (k := 0) rfl (show cells b [.int .i64 2, .int .i64 s.tk.k, .int .i64 (s.tk.f : Int), .int .i64 (s.tk.t : Int), .int .i64 u.k, .int .i32 (u.r : Int), .int .i64 (u.f : Int), .int .i64 (u.t : Int), .bool u.al] 152 = cells b (scV (fitted s u)) 152 from (congrArg (fun z => cells b z 152) hB)) ?_
      show TX _ _ _ _ _ _ _ [cells b (scV (fitted s u)) 152, cells b1 [.int .i64 u.k, .int .i32 (u.r : Int), .int .i64 (u.f : Int), .int .i64 (u.t : Int), .bool u.al] 150]
      exact TX.fin (rs := [.tmp 4]) () (.inl rfl) Tryd.results88 (.cons (.tmp rfl) .nil) (by rw [hfit]; rfl) (Splits.of [0] (by as_aux_lemma => kernel_rfl) rfl)
     ·
      -- no
      refine TC.skip (TX.blockNormal (TX.next (TC.seq (TC.region (TO.assign rfl (by decide) rfl (TO.nil (TX.next (TC.ret ?_))))))))
      have hfit : fits s.st u = (s.st, 0) := by unfold fits; simp_all <;> omega
      have hB : [.int .i64 s.st, .int .i64 s.tk.k, .int .i64 (s.tk.f : Int), .int .i64 (s.tk.t : Int), .int .i64 s.h.k, .int .i32 (s.h.r : Int), .int .i64 (s.h.f : Int), .int .i64 (s.h.t : Int), .bool s.h.al] = scV (fitted s u) := by unfold fitted; rw [hfit]; rfl
      refine TX.rewE (k := 0) rfl (show cells b [.int .i64 s.st, .int .i64 s.tk.k, .int .i64 (s.tk.f : Int), .int .i64 (s.tk.t : Int), .int .i64 s.h.k, .int .i32 (s.h.r : Int), .int .i64 (s.h.f : Int), .int .i64 (s.h.t : Int), .bool s.h.al] 152 = cells b (scV (fitted s u)) 152 from (congrArg (fun z => cells b z 152) hB)) ?_
      show TX _ _ _ _ _ _ _ [cells b (scV (fitted s u)) 152, cells b1 [.int .i64 u.k, .int .i32 (u.r : Int), .int .i64 (u.f : Int), .int .i64 (u.t : Int), .bool u.al] 150]
      exact TX.fin (rs := [.tmp 4]) () (.inl rfl) Tryd.results88 (.cons (.tmp rfl) .nil) (by rw [hfit]; rfl) (Splits.of [0] (by as_aux_lemma => kernel_rfl) rfl)
    ·
     -- no
     have h4 := beq_eq_false_iff_ne.1 h4
     refine TO.skip rfl (by decide) (TO.skip rfl (by decide) (TO.pick (b := false) rfl (by decide) rfl rfl (TO.nil (TX.next (TC.condF rfl (TC.skip (TX.blockNormal (TX.next (TC.seq (TC.region (TO.assign rfl (by decide) rfl (TO.nil (TX.next ?_)))))))))))))
     refine TC.ret ?_
     have hfit : fits s.st u = (s.st, 0) := by unfold fits; simp_all <;> omega
     have hB : [.int .i64 s.st, .int .i64 s.tk.k, .int .i64 (s.tk.f : Int), .int .i64 (s.tk.t : Int), .int .i64 s.h.k, .int .i32 (s.h.r : Int), .int .i64 (s.h.f : Int), .int .i64 (s.h.t : Int), .bool s.h.al] = scV (fitted s u) := by unfold fitted; rw [hfit]; rfl
     refine TX.rewE (k := 0) rfl (show cells b [.int .i64 s.st, .int .i64 s.tk.k, .int .i64 (s.tk.f : Int), .int .i64 (s.tk.t : Int), .int .i64 s.h.k, .int .i32 (s.h.r : Int), .int .i64 (s.h.f : Int), .int .i64 (s.h.t : Int), .bool s.h.al] 152 = cells b (scV (fitted s u)) 152 from (congrArg (fun z => cells b z 152) hB)) ?_
     show TX _ _ _ _ _ _ _ [cells b (scV (fitted s u)) 152, cells b1 [.int .i64 u.k, .int .i32 (u.r : Int), .int .i64 (u.f : Int), .int .i64 (u.t : Int), .bool u.al] 150]
     exact TX.fin (rs := [.tmp 4]) () (.inl rfl) Tryd.results88 (.cons (.tmp rfl) .nil) (by rw [hfit]; rfl) (Splits.of [0] (by as_aux_lemma => kernel_rfl) rfl)
  ·
   -- no
   have h2 := beq_eq_false_iff_ne.1 h2
   refine TC.seq (TC.seq (TC.region (TO.bin rfl (by decide) rfl rfl bin_eql (TO.assign rfl (by decide) rfl (TO.nil (TX.next ?_))))))
   refine TC.condB rfl (fun h6 => ?_) (fun h6 => ?_)
   ·
    -- yes
    have h6 := beq_iff_eq.1 h6
    refine TC.skip (TX.next ?_)
    refine TC.condB rfl (fun h7 => ?_) (fun h7 => ?_)
    ·
     -- yes
     have h7 := beq_iff_eq.1 h7
     refine TC.seq (TC.seq (TC.region (TO.move rfl (by decide) rfl (TO.bin rfl (by decide) rfl rfl bin_eql (TO.nil (TX.next ?_))))))
     refine TC.condB rfl (fun h8 => ?_) (fun h8 => ?_)
     ·
      -- yes
      have h8 := beq_iff_eq.1 h8
      refine TC.seq (TC.region (TO.move rfl (by decide) rfl (TO.nilCheck rfl (by decide) rfl (TO.fieldAddr fl_152_0 rfl (by decide) rfl (show _ = 0 from rfl) ?_))))
      refine TO.store (k := 0) (l' := [.int .i64 3, .int .i64 s.tk.k, .int .i64 (s.tk.f : Int), .int .i64 (s.tk.t : Int), .int .i64 s.h.k, .int .i32 (s.h.r : Int), .int .i64 (s.h.f : Int), .int .i64 (s.h.t : Int), .bool s.h.al]) sz_3 rfl rfl rfl rfl rfl (fun _ _ => rfl) rfl ?_
      refine TO.nil (TX.next (TC.seq (TC.region (TO.assign rfl (by decide) rfl (TO.nil (TX.next (TC.ret (TX.thenRet (TX.blockRet (TX.thenRet ?_))))))))))
      have hfit : fits s.st u = (3, 1) := by unfold fits; simp_all <;> omega
      have hB : [.int .i64 3, .int .i64 s.tk.k, .int .i64 (s.tk.f : Int), .int .i64 (s.tk.t : Int), .int .i64 s.h.k, .int .i32 (s.h.r : Int), .int .i64 (s.h.f : Int), .int .i64 (s.h.t : Int), .bool s.h.al] = scV (fitted s u) := by unfold fitted; rw [hfit]; rfl
      refine TX.rewE (k := 0) rfl (show cells b [.int .i64 3, .int .i64 s.tk.k, .int .i64 (s.tk.f : Int), .int .i64 (s.tk.t : Int), .int .i64 s.h.k, .int .i32 (s.h.r : Int), .int .i64 (s.h.f : Int), .int .i64 (s.h.t : Int), .bool s.h.al] 152 = cells b (scV (fitted s u)) 152 from (congrArg (fun z => cells b z 152) hB)) ?_
      show TX _ _ _ _ _ _ _ [cells b (scV (fitted s u)) 152, cells b1 [.int .i64 u.k, .int .i32 (u.r : Int), .int .i64 (u.f : Int), .int .i64 (u.t : Int), .bool u.al] 150]
      exact TX.fin (rs := [.tmp 4]) () (.inl rfl) Tryd.results88 (.cons (.tmp rfl) .nil) (by rw [hfit]; rfl) (Splits.of [0] (by as_aux_lemma => kernel_rfl) rfl)
     ·
      -- no
      have h8 := beq_eq_false_iff_ne.1 h8
      refine TC.skip (TX.next (TC.seq (TC.region (TO.move rfl (by decide) rfl (TO.nilCheck rfl (by decide) rfl (TO.fieldAddr fl_152_0 rfl (by decide) rfl (show _ = 0 from rfl) (TO.load (k := 0) sc_3 rfl (by decide) rfl rfl rfl (TO.bin rfl (by decide) rfl rfl bin_eql (TO.move rfl (by decide) rfl ?_)))))))))
      refine TO.split (s := 49) rfl (fun h9 => ?_) (fun h9 => ?_)
      ·
       -- yes
       have h9 := beq_iff_eq.1 h9
       refine TO.loads (k := 1) (cs := [.int .i64 u.k, .int .i32 (u.r : Int), .int .i64 (u.f : Int), .int .i64 (u.t : Int), .bool u.al]) rw_150 rfl (by decide) rfl rfl rfl rfl (TO.callP (v := .bool (dot u)) (vs := [.agg #[.int .i64 u.k, .int .i32 (u.r : Int), .int .i64 (u.f : Int), .int .i64 (u.t : Int), .bool u.al]]) rfl (by decide) rfl rfl rfl en_108 (dot_p u) (TO.pick (b := true) rfl (by decide) rfl rfl (TO.nil (TX.next ?_))))
       refine TC.condB rfl (fun h10 => ?_) (fun h10 => ?_)
       ·
        -- yes
        refine TC.seq ?_
        refine TC.drawB (β := Unit) 6 5 _ [(0, 53, .pointer (some ⟨b, 0, none⟩)), (1, 54, .pointer (some ⟨b, 0, none⟩)), (2, 55, .agg #[.int .i64 u.k, .int .i32 (u.r : Int), .int .i64 (u.f : Int), .int .i64 (u.t : Int), .bool u.al]), (3, 56, .pointer (some ⟨b, 0, none⟩)), (4, 57, .pointer (some ⟨b, 0, none⟩))] (fun _b => []) (fun _b => [cells b [.int .i64 4, .int .i64 s.tk.k, .int .i64 (s.tk.f : Int), .int .i64 (s.tk.t : Int), .int .i64 s.h.k, .int .i32 (s.h.r : Int), .int .i64 (s.h.f : Int), .int .i64 (s.h.t : Int), .bool s.h.al] 152, cells b1 [.int .i64 u.k, .int .i32 (u.r : Int), .int .i64 (u.f : Int), .int .i64 (u.t : Int), .bool u.al] 150]) mixed (by as_aux_lemma => kernel_rfl) (by as_aux_lemma => kernel_rfl) rfl (by decide) (by decide) (by rfl) (by as_aux_lemma => kernel_rfl) (by as_aux_lemma => kernel_rfl) (DrawPreX.cons ?_ (DrawPreX.cons ?_ (DrawPreX.cons ?_ (DrawPreX.cons ?_ (DrawPreX.cons ?_ (DrawPreX.here DrawPreX.nil)))))) (fun _b => (DrawPreX.cons ?_ (DrawPreX.cons ?_ (DrawPreX.cons ?_ (DrawPreX.cons ?_ (DrawPreX.cons ?_ (DrawPreX.here DrawPreX.nil))))))) ?_ ?_
        ·
         intro D hn hd hcl hu hi
         refine TO.move rfl (by decide) (dl_old (by rfl) rfl) ?_
         exact TX.quiet 0 hu hi rfl
        ·
         intro D hn hd hcl hu hi
         refine TO.move rfl (by decide) (dl_old (by rfl) rfl) ?_
         exact TX.quiet 1 hu hi rfl
        ·
         intro D hn hd hcl hu hi
         refine TO.loads (k := 1) (cs := [.int .i64 u.k, .int .i32 (u.r : Int), .int .i64 (u.f : Int), .int .i64 (u.t : Int), .bool u.al]) rw_150 rfl (by decide) (dl_old (by rfl) rfl) rfl rfl rfl ?_
         exact TX.quiet 2 hu hi rfl
        ·
         intro D hn hd hcl hu hi
         refine TO.nilCheck rfl (by decide) (dl_lookup (m := 0) hu rfl (hd 0 (by decide))) ?_
         exact TX.quiet 3 hu hi rfl
        ·
         intro D hn hd hcl hu hi
         refine TO.fieldAddr fl_152_0 rfl (by decide) (dl_lookup (m := 3) hu rfl (hd 3 (by decide))) (show _ = 0 from rfl) ?_
         exact TX.quiet 4 hu hi rfl
        ·
         intro D hn hd hcl hu hi
         refine TO.move rfl (by decide) (dl_old (by rfl) rfl) ?_
         exact TX.quiet 0 hu hi rfl
        ·
         intro D hn hd hcl hu hi
         refine TO.move rfl (by decide) (dl_old (by rfl) rfl) ?_
         exact TX.quiet 1 hu hi rfl
        ·
         intro D hn hd hcl hu hi
         refine TO.loads (k := 1) (cs := [.int .i64 u.k, .int .i32 (u.r : Int), .int .i64 (u.f : Int), .int .i64 (u.t : Int), .bool u.al]) rw_150 rfl (by decide) (dl_old (by rfl) rfl) rfl rfl rfl ?_
         exact TX.quiet 2 hu hi rfl
        ·
         intro D hn hd hcl hu hi
         refine TO.nilCheck rfl (by decide) (dl_lookup (m := 0) hu rfl (hd 0 (by decide))) ?_
         exact TX.quiet 3 hu hi rfl
        ·
         intro D hn hd hcl hu hi
         refine TO.fieldAddr fl_152_0 rfl (by decide) (dl_lookup (m := 3) hu rfl (hd 3 (by decide))) (show _ = 0 from rfl) ?_
         exact TX.quiet 4 hu hi rfl
        ·
         intro D hn hd hcl
         refine TO.store (k := 0) (l' := [.int .i64 4, .int .i64 s.tk.k, .int .i64 (s.tk.f : Int), .int .i64 (s.tk.t : Int), .int .i64 s.h.k, .int .i32 (s.h.r : Int), .int .i64 (s.h.f : Int), .int .i64 (s.h.t : Int), .bool s.h.al]) sz_3 rfl (dl_lookup (m := 4) (by as_aux_lemma => kernel_rfl) rfl (hd 4 (by decide))) rfl rfl rfl (fun _ _ => rfl) rfl ?_
         exact fun a w ha hw => ⟨(), ha, hw⟩
        intro _b
        show TO _ _ _ _ _ _ _ _ _ _ [cells b [.int .i64 4, .int .i64 s.tk.k, .int .i64 (s.tk.f : Int), .int .i64 (s.tk.t : Int), .int .i64 s.h.k, .int .i32 (s.h.r : Int), .int .i64 (s.h.f : Int), .int .i64 (s.h.t : Int), .bool s.h.al] 152, cells b1 [.int .i64 u.k, .int .i32 (u.r : Int), .int .i64 (u.f : Int), .int .i64 (u.t : Int), .bool u.al] 150]
        refine TO.nilCheck rfl (by decide) rfl (TO.fieldAddr fl_152_2 rfl (by decide) rfl (show _ = 4 from rfl) (TO.stores (k := 0) (vs := [.int .i64 u.k, .int .i32 (u.r : Int), .int .i64 (u.f : Int), .int .i64 (u.t : Int), .bool u.al]) (l' := [.int .i64 4, .int .i64 s.tk.k, .int .i64 (s.tk.f : Int), .int .i64 (s.tk.t : Int), .int .i64 u.k, .int .i32 (u.r : Int), .int .i64 (u.f : Int), .int .i64 (u.t : Int), .bool u.al]) sz_150 rfl rfl rfl rfl rfl (show _ ≤ _ by simp) rfl rfl (TO.nil (TX.next (TC.seq (TC.region (TO.assign rfl (by decide) rfl (TO.nil (TX.next (TC.ret (TX.blockRet (TX.thenRet ?_))))))))))))
        have hfit : fits s.st u = (4, 2) := by unfold fits; simp_all <;> omega
        have hB : [.int .i64 4, .int .i64 s.tk.k, .int .i64 (s.tk.f : Int), .int .i64 (s.tk.t : Int), .int .i64 u.k, .int .i32 (u.r : Int), .int .i64 (u.f : Int), .int .i64 (u.t : Int), .bool u.al] = scV (fitted s u) := by unfold fitted; rw [hfit]; rfl
        refine TX.rewE (k := 0) rfl (show cells b [.int .i64 4, .int .i64 s.tk.k, .int .i64 (s.tk.f : Int), .int .i64 (s.tk.t : Int), .int .i64 u.k, .int .i32 (u.r : Int), .int .i64 (u.f : Int), .int .i64 (u.t : Int), .bool u.al] 152 = cells b (scV (fitted s u)) 152 from (congrArg (fun z => cells b z 152) hB)) ?_
        show TX _ _ _ _ _ _ _ [cells b (scV (fitted s u)) 152, cells b1 [.int .i64 u.k, .int .i32 (u.r : Int), .int .i64 (u.f : Int), .int .i64 (u.t : Int), .bool u.al] 150]
        exact TX.fin (rs := [.tmp 4]) () (.inl rfl) Tryd.results88 (.cons (.tmp rfl) .nil) (by rw [hfit]; rfl) (Splits.of [0] (by as_aux_lemma => kernel_rfl) rfl)
       ·
        -- no
        refine TC.skip (TX.blockNormal (TX.next (TC.seq (TC.region (TO.assign rfl (by decide) rfl (TO.nil (TX.next (TC.ret ?_))))))))
        have hfit : fits s.st u = (s.st, 0) := by unfold fits; simp_all <;> omega
        have hB : [.int .i64 s.st, .int .i64 s.tk.k, .int .i64 (s.tk.f : Int), .int .i64 (s.tk.t : Int), .int .i64 s.h.k, .int .i32 (s.h.r : Int), .int .i64 (s.h.f : Int), .int .i64 (s.h.t : Int), .bool s.h.al] = scV (fitted s u) := by unfold fitted; rw [hfit]; rfl
        refine TX.rewE (k := 0) rfl (show cells b [.int .i64 s.st, .int .i64 s.tk.k, .int .i64 (s.tk.f : Int), .int .i64 (s.tk.t : Int), .int .i64 s.h.k, .int .i32 (s.h.r : Int), .int .i64 (s.h.f : Int), .int .i64 (s.h.t : Int), .bool s.h.al] 152 = cells b (scV (fitted s u)) 152 from (congrArg (fun z => cells b z 152) hB)) ?_
        show TX _ _ _ _ _ _ _ [cells b (scV (fitted s u)) 152, cells b1 [.int .i64 u.k, .int .i32 (u.r : Int), .int .i64 (u.f : Int), .int .i64 (u.t : Int), .bool u.al] 150]
        exact TX.fin (rs := [.tmp 4]) () (.inl rfl) Tryd.results88 (.cons (.tmp rfl) .nil) (by rw [hfit]; rfl) (Splits.of [0] (by as_aux_lemma => kernel_rfl) rfl)
      ·
       -- no
       have h9 := beq_eq_false_iff_ne.1 h9
       refine TO.skip rfl (by decide) (TO.skip rfl (by decide) (TO.pick (b := false) rfl (by decide) rfl rfl (TO.nil (TX.next (TC.condF rfl (TC.skip (TX.blockNormal (TX.next (TC.seq (TC.region (TO.assign rfl (by decide) rfl (TO.nil (TX.next ?_)))))))))))))
       refine TC.ret ?_
       have hfit : fits s.st u = (s.st, 0) := by unfold fits; simp_all <;> omega
       have hB : [.int .i64 s.st, .int .i64 s.tk.k, .int .i64 (s.tk.f : Int), .int .i64 (s.tk.t : Int), .int .i64 s.h.k, .int .i32 (s.h.r : Int), .int .i64 (s.h.f : Int), .int .i64 (s.h.t : Int), .bool s.h.al] = scV (fitted s u) := by unfold fitted; rw [hfit]; rfl
       refine TX.rewE (k := 0) rfl (show cells b [.int .i64 s.st, .int .i64 s.tk.k, .int .i64 (s.tk.f : Int), .int .i64 (s.tk.t : Int), .int .i64 s.h.k, .int .i32 (s.h.r : Int), .int .i64 (s.h.f : Int), .int .i64 (s.h.t : Int), .bool s.h.al] 152 = cells b (scV (fitted s u)) 152 from (congrArg (fun z => cells b z 152) hB)) ?_
       show TX _ _ _ _ _ _ _ [cells b (scV (fitted s u)) 152, cells b1 [.int .i64 u.k, .int .i32 (u.r : Int), .int .i64 (u.f : Int), .int .i64 (u.t : Int), .bool u.al] 150]
       exact TX.fin (rs := [.tmp 4]) () (.inl rfl) Tryd.results88 (.cons (.tmp rfl) .nil) (by rw [hfit]; rfl) (Splits.of [0] (by as_aux_lemma => kernel_rfl) rfl)
    ·
     -- no
     have h7 := beq_eq_false_iff_ne.1 h7
     refine TC.seq (TC.region (TO.bin rfl (by decide) rfl rfl bin_eql (TO.assign rfl (by decide) rfl (TO.nil (TX.next ?_)))))
     refine TC.condB rfl (fun h11 => ?_) (fun h11 => ?_)
     ·
      -- yes
      have h11 := beq_iff_eq.1 h11
      refine TC.seq (TC.region (TO.move rfl (by decide) rfl (TO.bin rfl (by decide) rfl rfl bin_eql (TO.nil (TX.next ?_)))))
      refine TC.condB rfl (fun h12 => ?_) (fun h12 => ?_)
      ·
       -- yes
       have h12 := beq_iff_eq.1 h12
       refine TC.seq (TC.region (TO.assign rfl (by decide) rfl (TO.nil (TX.next (TC.ret (TX.blockRet (TX.thenRet ?_)))))))
       have hfit : fits s.st u = (s.st, 1) := by unfold fits; simp_all <;> omega
       have hB : [.int .i64 s.st, .int .i64 s.tk.k, .int .i64 (s.tk.f : Int), .int .i64 (s.tk.t : Int), .int .i64 s.h.k, .int .i32 (s.h.r : Int), .int .i64 (s.h.f : Int), .int .i64 (s.h.t : Int), .bool s.h.al] = scV (fitted s u) := by unfold fitted; rw [hfit]; rfl
       refine TX.rewE (k := 0) rfl (show cells b [.int .i64 s.st, .int .i64 s.tk.k, .int .i64 (s.tk.f : Int), .int .i64 (s.tk.t : Int), .int .i64 s.h.k, .int .i32 (s.h.r : Int), .int .i64 (s.h.f : Int), .int .i64 (s.h.t : Int), .bool s.h.al] 152 = cells b (scV (fitted s u)) 152 from (congrArg (fun z => cells b z 152) hB)) ?_
       show TX _ _ _ _ _ _ _ [cells b (scV (fitted s u)) 152, cells b1 [.int .i64 u.k, .int .i32 (u.r : Int), .int .i64 (u.f : Int), .int .i64 (u.t : Int), .bool u.al] 150]
       exact TX.fin (rs := [.tmp 4]) () (.inl rfl) Tryd.results88 (.cons (.tmp rfl) .nil) (by rw [hfit]; rfl) (Splits.of [0] (by as_aux_lemma => kernel_rfl) rfl)
      ·
       -- no
       have h12 := beq_eq_false_iff_ne.1 h12
       refine TC.skip (TX.blockNormal (TX.next (TC.seq (TC.region (TO.assign rfl (by decide) rfl (TO.nil (TX.next (TC.ret ?_))))))))
       have hfit : fits s.st u = (s.st, 0) := by unfold fits; simp_all <;> omega
       have hB : [.int .i64 s.st, .int .i64 s.tk.k, .int .i64 (s.tk.f : Int), .int .i64 (s.tk.t : Int), .int .i64 s.h.k, .int .i32 (s.h.r : Int), .int .i64 (s.h.f : Int), .int .i64 (s.h.t : Int), .bool s.h.al] = scV (fitted s u) := by unfold fitted; rw [hfit]; rfl
       refine TX.rewE (k := 0) rfl (show cells b [.int .i64 s.st, .int .i64 s.tk.k, .int .i64 (s.tk.f : Int), .int .i64 (s.tk.t : Int), .int .i64 s.h.k, .int .i32 (s.h.r : Int), .int .i64 (s.h.f : Int), .int .i64 (s.h.t : Int), .bool s.h.al] 152 = cells b (scV (fitted s u)) 152 from (congrArg (fun z => cells b z 152) hB)) ?_
       show TX _ _ _ _ _ _ _ [cells b (scV (fitted s u)) 152, cells b1 [.int .i64 u.k, .int .i32 (u.r : Int), .int .i64 (u.f : Int), .int .i64 (u.t : Int), .bool u.al] 150]
       exact TX.fin (rs := [.tmp 4]) () (.inl rfl) Tryd.results88 (.cons (.tmp rfl) .nil) (by rw [hfit]; rfl) (Splits.of [0] (by as_aux_lemma => kernel_rfl) rfl)
     ·
      -- no
      have h11 := beq_eq_false_iff_ne.1 h11
      refine TC.seq (TC.region (TO.bin rfl (by decide) rfl rfl bin_eql (TO.assign rfl (by decide) rfl (TO.nil (TX.next ?_)))))
      refine TC.condB rfl (fun h13 => ?_) (fun h13 => ?_)
      ·
       -- yes
       have h13 := beq_iff_eq.1 h13
       refine TC.seq (TC.region (TO.move rfl (by decide) rfl (TO.bin rfl (by decide) rfl rfl bin_eql (TO.nil (TX.next ?_)))))
       refine TC.condB rfl (fun h14 => ?_) (fun h14 => ?_)
       ·
        -- yes
        have h14 := beq_iff_eq.1 h14
        refine TC.seq (TC.region (TO.assign rfl (by decide) rfl (TO.nil (TX.next (TC.ret (TX.blockRet (TX.thenRet ?_)))))))
        have hfit : fits s.st u = (s.st, 1) := by unfold fits; simp_all <;> omega
        have hB : [.int .i64 s.st, .int .i64 s.tk.k, .int .i64 (s.tk.f : Int), .int .i64 (s.tk.t : Int), .int .i64 s.h.k, .int .i32 (s.h.r : Int), .int .i64 (s.h.f : Int), .int .i64 (s.h.t : Int), .bool s.h.al] = scV (fitted s u) := by unfold fitted; rw [hfit]; rfl
        refine TX.rewE (k := 0) rfl (show cells b [.int .i64 s.st, .int .i64 s.tk.k, .int .i64 (s.tk.f : Int), .int .i64 (s.tk.t : Int), .int .i64 s.h.k, .int .i32 (s.h.r : Int), .int .i64 (s.h.f : Int), .int .i64 (s.h.t : Int), .bool s.h.al] 152 = cells b (scV (fitted s u)) 152 from (congrArg (fun z => cells b z 152) hB)) ?_
        show TX _ _ _ _ _ _ _ [cells b (scV (fitted s u)) 152, cells b1 [.int .i64 u.k, .int .i32 (u.r : Int), .int .i64 (u.f : Int), .int .i64 (u.t : Int), .bool u.al] 150]
        exact TX.fin (rs := [.tmp 4]) () (.inl rfl) Tryd.results88 (.cons (.tmp rfl) .nil) (by rw [hfit]; rfl) (Splits.of [0] (by as_aux_lemma => kernel_rfl) rfl)
       ·
        -- no
        have h14 := beq_eq_false_iff_ne.1 h14
        refine TC.skip (TX.blockNormal (TX.next (TC.seq (TC.region (TO.assign rfl (by decide) rfl (TO.nil (TX.next (TC.ret ?_))))))))
        have hfit : fits s.st u = (s.st, 0) := by unfold fits; simp_all <;> omega
        have hB : [.int .i64 s.st, .int .i64 s.tk.k, .int .i64 (s.tk.f : Int), .int .i64 (s.tk.t : Int), .int .i64 s.h.k, .int .i32 (s.h.r : Int), .int .i64 (s.h.f : Int), .int .i64 (s.h.t : Int), .bool s.h.al] = scV (fitted s u) := by unfold fitted; rw [hfit]; rfl
        refine TX.rewE (k := 0) rfl (show cells b [.int .i64 s.st, .int .i64 s.tk.k, .int .i64 (s.tk.f : Int), .int .i64 (s.tk.t : Int), .int .i64 s.h.k, .int .i32 (s.h.r : Int), .int .i64 (s.h.f : Int), .int .i64 (s.h.t : Int), .bool s.h.al] 152 = cells b (scV (fitted s u)) 152 from (congrArg (fun z => cells b z 152) hB)) ?_
        show TX _ _ _ _ _ _ _ [cells b (scV (fitted s u)) 152, cells b1 [.int .i64 u.k, .int .i32 (u.r : Int), .int .i64 (u.f : Int), .int .i64 (u.t : Int), .bool u.al] 150]
        exact TX.fin (rs := [.tmp 4]) () (.inl rfl) Tryd.results88 (.cons (.tmp rfl) .nil) (by rw [hfit]; rfl) (Splits.of [0] (by as_aux_lemma => kernel_rfl) rfl)
      ·
       -- no
       have h13 := beq_eq_false_iff_ne.1 h13
       refine TC.seq (TC.region (TO.bin rfl (by decide) rfl rfl bin_eql (TO.assign rfl (by decide) rfl (TO.nil (TX.next ?_)))))
       refine TC.condB rfl (fun h15 => ?_) (fun h15 => ?_)
       ·
        -- yes
        have h15 := beq_iff_eq.1 h15
        refine TC.seq (TC.region (TO.move rfl (by decide) rfl (TO.bin rfl (by decide) rfl rfl bin_eql (TO.move rfl (by decide) rfl ?_))))
        refine TO.split (s := 72) rfl (fun h16 => ?_) (fun h16 => ?_)
        ·
         -- yes
         have h16 := beq_iff_eq.1 h16
         refine TO.fieldAddr fl_150_1 rfl (by decide) rfl (show _ = 1 from rfl) (TO.load (k := 1) sc_21 rfl (by decide) rfl rfl rfl (TO.bin rfl (by decide) rfl rfl bin_eql (TO.pick (b := true) rfl (by decide) rfl rfl (TO.nil (TX.next ?_)))))
         refine TC.condB rfl (fun h17 => ?_) (fun h17 => ?_)
         ·
          -- yes
          have h17 := beq_iff_eq.1 h17
          refine TC.seq (TC.region (TO.move rfl (by decide) rfl (TO.nilCheck rfl (by decide) rfl (TO.fieldAddr fl_152_0 rfl (by decide) rfl (show _ = 0 from rfl) ?_))))
          refine TO.store (k := 0) (l' := [.int .i64 7, .int .i64 s.tk.k, .int .i64 (s.tk.f : Int), .int .i64 (s.tk.t : Int), .int .i64 s.h.k, .int .i32 (s.h.r : Int), .int .i64 (s.h.f : Int), .int .i64 (s.h.t : Int), .bool s.h.al]) sz_3 rfl rfl rfl rfl rfl (fun _ _ => rfl) rfl ?_
          refine TO.nil (TX.next (TC.seq (TC.region (TO.assign rfl (by decide) rfl (TO.nil (TX.next (TC.ret (TX.blockRet (TX.thenRet ?_)))))))))
          have hfit : fits s.st u = (7, 1) := by unfold fits; simp_all <;> omega
          have hB : [.int .i64 7, .int .i64 s.tk.k, .int .i64 (s.tk.f : Int), .int .i64 (s.tk.t : Int), .int .i64 s.h.k, .int .i32 (s.h.r : Int), .int .i64 (s.h.f : Int), .int .i64 (s.h.t : Int), .bool s.h.al] = scV (fitted s u) := by unfold fitted; rw [hfit]; rfl
          refine TX.rewE (k := 0) rfl (show cells b [.int .i64 7, .int .i64 s.tk.k, .int .i64 (s.tk.f : Int), .int .i64 (s.tk.t : Int), .int .i64 s.h.k, .int .i32 (s.h.r : Int), .int .i64 (s.h.f : Int), .int .i64 (s.h.t : Int), .bool s.h.al] 152 = cells b (scV (fitted s u)) 152 from (congrArg (fun z => cells b z 152) hB)) ?_
          show TX _ _ _ _ _ _ _ [cells b (scV (fitted s u)) 152, cells b1 [.int .i64 u.k, .int .i32 (u.r : Int), .int .i64 (u.f : Int), .int .i64 (u.t : Int), .bool u.al] 150]
          exact TX.fin (rs := [.tmp 4]) () (.inl rfl) Tryd.results88 (.cons (.tmp rfl) .nil) (by rw [hfit]; rfl) (Splits.of [0] (by as_aux_lemma => kernel_rfl) rfl)
         ·
          -- no
          have h17 := beq_eq_false_iff_ne.1 h17
          refine TC.skip (TX.blockNormal (TX.next (TC.seq (TC.region (TO.assign rfl (by decide) rfl (TO.nil (TX.next (TC.ret ?_))))))))
          have hfit : fits s.st u = (s.st, 0) := by unfold fits; simp_all <;> omega
          have hB : [.int .i64 s.st, .int .i64 s.tk.k, .int .i64 (s.tk.f : Int), .int .i64 (s.tk.t : Int), .int .i64 s.h.k, .int .i32 (s.h.r : Int), .int .i64 (s.h.f : Int), .int .i64 (s.h.t : Int), .bool s.h.al] = scV (fitted s u) := by unfold fitted; rw [hfit]; rfl
          refine TX.rewE (k := 0) rfl (show cells b [.int .i64 s.st, .int .i64 s.tk.k, .int .i64 (s.tk.f : Int), .int .i64 (s.tk.t : Int), .int .i64 s.h.k, .int .i32 (s.h.r : Int), .int .i64 (s.h.f : Int), .int .i64 (s.h.t : Int), .bool s.h.al] 152 = cells b (scV (fitted s u)) 152 from (congrArg (fun z => cells b z 152) hB)) ?_
          show TX _ _ _ _ _ _ _ [cells b (scV (fitted s u)) 152, cells b1 [.int .i64 u.k, .int .i32 (u.r : Int), .int .i64 (u.f : Int), .int .i64 (u.t : Int), .bool u.al] 150]
          exact TX.fin (rs := [.tmp 4]) () (.inl rfl) Tryd.results88 (.cons (.tmp rfl) .nil) (by rw [hfit]; rfl) (Splits.of [0] (by as_aux_lemma => kernel_rfl) rfl)
        ·
         -- no
         have h16 := beq_eq_false_iff_ne.1 h16
         refine TO.skip rfl (by decide) (TO.skip rfl (by decide) (TO.skip rfl (by decide) (TO.pick (b := false) rfl (by decide) rfl rfl (TO.nil (TX.next (TC.condF rfl (TC.skip (TX.blockNormal (TX.next (TC.seq (TC.region (TO.assign rfl (by decide) rfl (TO.nil ?_)))))))))))))
         refine TX.next (TC.ret ?_)
         have hfit : fits s.st u = (s.st, 0) := by unfold fits; simp_all <;> omega
         have hB : [.int .i64 s.st, .int .i64 s.tk.k, .int .i64 (s.tk.f : Int), .int .i64 (s.tk.t : Int), .int .i64 s.h.k, .int .i32 (s.h.r : Int), .int .i64 (s.h.f : Int), .int .i64 (s.h.t : Int), .bool s.h.al] = scV (fitted s u) := by unfold fitted; rw [hfit]; rfl
         refine TX.rewE (k := 0) rfl (show cells b [.int .i64 s.st, .int .i64 s.tk.k, .int .i64 (s.tk.f : Int), .int .i64 (s.tk.t : Int), .int .i64 s.h.k, .int .i32 (s.h.r : Int), .int .i64 (s.h.f : Int), .int .i64 (s.h.t : Int), .bool s.h.al] 152 = cells b (scV (fitted s u)) 152 from (congrArg (fun z => cells b z 152) hB)) ?_
         show TX _ _ _ _ _ _ _ [cells b (scV (fitted s u)) 152, cells b1 [.int .i64 u.k, .int .i32 (u.r : Int), .int .i64 (u.f : Int), .int .i64 (u.t : Int), .bool u.al] 150]
         exact TX.fin (rs := [.tmp 4]) () (.inl rfl) Tryd.results88 (.cons (.tmp rfl) .nil) (by rw [hfit]; rfl) (Splits.of [0] (by as_aux_lemma => kernel_rfl) rfl)
       ·
        -- no
        have h15 := beq_eq_false_iff_ne.1 h15
        refine TC.skip (TX.blockNormal (TX.next (TC.seq (TC.region (TO.assign rfl (by decide) rfl (TO.nil (TX.next (TC.ret ?_))))))))
        have hfit : fits s.st u = (s.st, 0) := by unfold fits; simp_all <;> omega
        have hB : [.int .i64 s.st, .int .i64 s.tk.k, .int .i64 (s.tk.f : Int), .int .i64 (s.tk.t : Int), .int .i64 s.h.k, .int .i32 (s.h.r : Int), .int .i64 (s.h.f : Int), .int .i64 (s.h.t : Int), .bool s.h.al] = scV (fitted s u) := by unfold fitted; rw [hfit]; rfl
        refine TX.rewE (k := 0) rfl (show cells b [.int .i64 s.st, .int .i64 s.tk.k, .int .i64 (s.tk.f : Int), .int .i64 (s.tk.t : Int), .int .i64 s.h.k, .int .i32 (s.h.r : Int), .int .i64 (s.h.f : Int), .int .i64 (s.h.t : Int), .bool s.h.al] 152 = cells b (scV (fitted s u)) 152 from (congrArg (fun z => cells b z 152) hB)) ?_
        show TX _ _ _ _ _ _ _ [cells b (scV (fitted s u)) 152, cells b1 [.int .i64 u.k, .int .i32 (u.r : Int), .int .i64 (u.f : Int), .int .i64 (u.t : Int), .bool u.al] 150]
        exact TX.fin (rs := [.tmp 4]) () (.inl rfl) Tryd.results88 (.cons (.tmp rfl) .nil) (by rw [hfit]; rfl) (Splits.of [0] (by as_aux_lemma => kernel_rfl) rfl)
   ·
    -- no
    have h6 := beq_eq_false_iff_ne.1 h6
    refine TC.region (TO.bin rfl (by decide) rfl rfl bin_eql (TO.assign rfl (by decide) rfl (TO.nil (TX.next ?_))))
    refine TC.condB rfl (fun h18 => ?_) (fun h18 => ?_)
    ·
     -- yes
     have h18 := beq_iff_eq.1 h18
     refine TC.seq (TC.seq (TC.region (TO.move rfl (by decide) rfl (TO.bin rfl (by decide) rfl rfl bin_eql (TO.nil (TX.next ?_))))))
     refine TC.condB rfl (fun h19 => ?_) (fun h19 => ?_)
     ·
      -- yes
      have h19 := beq_iff_eq.1 h19
      refine TC.seq (TC.region (TO.move rfl (by decide) rfl (TO.nilCheck rfl (by decide) rfl (TO.fieldAddr fl_152_0 rfl (by decide) rfl (show _ = 0 from rfl) ?_))))
      refine TO.store (k := 0) (l' := [.int .i64 3, .int .i64 s.tk.k, .int .i64 (s.tk.f : Int), .int .i64 (s.tk.t : Int), .int .i64 s.h.k, .int .i32 (s.h.r : Int), .int .i64 (s.h.f : Int), .int .i64 (s.h.t : Int), .bool s.h.al]) sz_3 rfl rfl rfl rfl rfl (fun _ _ => rfl) rfl ?_
      refine TO.nil (TX.next (TC.seq (TC.region (TO.assign rfl (by decide) rfl (TO.nil (TX.next (TC.ret (TX.thenRet (TX.blockRet (TX.thenRet ?_))))))))))
      have hfit : fits s.st u = (3, 1) := by unfold fits; simp_all <;> omega
      have hB : [.int .i64 3, .int .i64 s.tk.k, .int .i64 (s.tk.f : Int), .int .i64 (s.tk.t : Int), .int .i64 s.h.k, .int .i32 (s.h.r : Int), .int .i64 (s.h.f : Int), .int .i64 (s.h.t : Int), .bool s.h.al] = scV (fitted s u) := by unfold fitted; rw [hfit]; rfl
      refine TX.rewE (k := 0) rfl (show cells b [.int .i64 3, .int .i64 s.tk.k, .int .i64 (s.tk.f : Int), .int .i64 (s.tk.t : Int), .int .i64 s.h.k, .int .i32 (s.h.r : Int), .int .i64 (s.h.f : Int), .int .i64 (s.h.t : Int), .bool s.h.al] 152 = cells b (scV (fitted s u)) 152 from (congrArg (fun z => cells b z 152) hB)) ?_
      show TX _ _ _ _ _ _ _ [cells b (scV (fitted s u)) 152, cells b1 [.int .i64 u.k, .int .i32 (u.r : Int), .int .i64 (u.f : Int), .int .i64 (u.t : Int), .bool u.al] 150]
      exact TX.fin (rs := [.tmp 4]) () (.inl rfl) Tryd.results88 (.cons (.tmp rfl) .nil) (by rw [hfit]; rfl) (Splits.of [0] (by as_aux_lemma => kernel_rfl) rfl)
     ·
      -- no
      have h19 := beq_eq_false_iff_ne.1 h19
      refine TC.skip (TX.next (TC.seq (TC.region (TO.move rfl (by decide) rfl (TO.nilCheck rfl (by decide) rfl (TO.fieldAddr fl_152_0 rfl (by decide) rfl (show _ = 0 from rfl) (TO.load (k := 0) sc_3 rfl (by decide) rfl rfl rfl (TO.bin rfl (by decide) rfl rfl bin_eql (TO.move rfl (by decide) rfl ?_)))))))))
      refine TO.split (s := 49) rfl (fun h20 => ?_) (fun h20 => ?_)
      ·
       -- yes
       have h20 := beq_iff_eq.1 h20
       refine TO.loads (k := 1) (cs := [.int .i64 u.k, .int .i32 (u.r : Int), .int .i64 (u.f : Int), .int .i64 (u.t : Int), .bool u.al]) rw_150 rfl (by decide) rfl rfl rfl rfl (TO.callP (v := .bool (dot u)) (vs := [.agg #[.int .i64 u.k, .int .i32 (u.r : Int), .int .i64 (u.f : Int), .int .i64 (u.t : Int), .bool u.al]]) rfl (by decide) rfl rfl rfl en_108 (dot_p u) (TO.pick (b := true) rfl (by decide) rfl rfl (TO.nil (TX.next ?_))))
       refine TC.condB rfl (fun h21 => ?_) (fun h21 => ?_)
       ·
        -- yes
        refine TC.seq ?_
        refine TC.drawB (β := Unit) 6 5 _ [(0, 53, .pointer (some ⟨b, 0, none⟩)), (1, 54, .pointer (some ⟨b, 0, none⟩)), (2, 55, .agg #[.int .i64 u.k, .int .i32 (u.r : Int), .int .i64 (u.f : Int), .int .i64 (u.t : Int), .bool u.al]), (3, 56, .pointer (some ⟨b, 0, none⟩)), (4, 57, .pointer (some ⟨b, 0, none⟩))] (fun _b => []) (fun _b => [cells b [.int .i64 4, .int .i64 s.tk.k, .int .i64 (s.tk.f : Int), .int .i64 (s.tk.t : Int), .int .i64 s.h.k, .int .i32 (s.h.r : Int), .int .i64 (s.h.f : Int), .int .i64 (s.h.t : Int), .bool s.h.al] 152, cells b1 [.int .i64 u.k, .int .i32 (u.r : Int), .int .i64 (u.f : Int), .int .i64 (u.t : Int), .bool u.al] 150]) mixed (by as_aux_lemma => kernel_rfl) (by as_aux_lemma => kernel_rfl) rfl (by decide) (by decide) (by rfl) (by as_aux_lemma => kernel_rfl) (by as_aux_lemma => kernel_rfl) (DrawPreX.cons ?_ (DrawPreX.cons ?_ (DrawPreX.cons ?_ (DrawPreX.cons ?_ (DrawPreX.cons ?_ (DrawPreX.here DrawPreX.nil)))))) (fun _b => (DrawPreX.cons ?_ (DrawPreX.cons ?_ (DrawPreX.cons ?_ (DrawPreX.cons ?_ (DrawPreX.cons ?_ (DrawPreX.here DrawPreX.nil))))))) ?_ ?_
        ·
         intro D hn hd hcl hu hi
         refine TO.move rfl (by decide) (dl_old (by rfl) rfl) ?_
         exact TX.quiet 0 hu hi rfl
        ·
         intro D hn hd hcl hu hi
         refine TO.move rfl (by decide) (dl_old (by rfl) rfl) ?_
         exact TX.quiet 1 hu hi rfl
        ·
         intro D hn hd hcl hu hi
         refine TO.loads (k := 1) (cs := [.int .i64 u.k, .int .i32 (u.r : Int), .int .i64 (u.f : Int), .int .i64 (u.t : Int), .bool u.al]) rw_150 rfl (by decide) (dl_old (by rfl) rfl) rfl rfl rfl ?_
         exact TX.quiet 2 hu hi rfl
        ·
         intro D hn hd hcl hu hi
         refine TO.nilCheck rfl (by decide) (dl_lookup (m := 0) hu rfl (hd 0 (by decide))) ?_
         exact TX.quiet 3 hu hi rfl
        ·
         intro D hn hd hcl hu hi
         refine TO.fieldAddr fl_152_0 rfl (by decide) (dl_lookup (m := 3) hu rfl (hd 3 (by decide))) (show _ = 0 from rfl) ?_
         exact TX.quiet 4 hu hi rfl
        ·
         intro D hn hd hcl hu hi
         refine TO.move rfl (by decide) (dl_old (by rfl) rfl) ?_
         exact TX.quiet 0 hu hi rfl
        ·
         intro D hn hd hcl hu hi
         refine TO.move rfl (by decide) (dl_old (by rfl) rfl) ?_
         exact TX.quiet 1 hu hi rfl
        ·
         intro D hn hd hcl hu hi
         refine TO.loads (k := 1) (cs := [.int .i64 u.k, .int .i32 (u.r : Int), .int .i64 (u.f : Int), .int .i64 (u.t : Int), .bool u.al]) rw_150 rfl (by decide) (dl_old (by rfl) rfl) rfl rfl rfl ?_
         exact TX.quiet 2 hu hi rfl
        ·
         intro D hn hd hcl hu hi
         refine TO.nilCheck rfl (by decide) (dl_lookup (m := 0) hu rfl (hd 0 (by decide))) ?_
         exact TX.quiet 3 hu hi rfl
        ·
         intro D hn hd hcl hu hi
         refine TO.fieldAddr fl_152_0 rfl (by decide) (dl_lookup (m := 3) hu rfl (hd 3 (by decide))) (show _ = 0 from rfl) ?_
         exact TX.quiet 4 hu hi rfl
        ·
         intro D hn hd hcl
         refine TO.store (k := 0) (l' := [.int .i64 4, .int .i64 s.tk.k, .int .i64 (s.tk.f : Int), .int .i64 (s.tk.t : Int), .int .i64 s.h.k, .int .i32 (s.h.r : Int), .int .i64 (s.h.f : Int), .int .i64 (s.h.t : Int), .bool s.h.al]) sz_3 rfl (dl_lookup (m := 4) (by as_aux_lemma => kernel_rfl) rfl (hd 4 (by decide))) rfl rfl rfl (fun _ _ => rfl) rfl ?_
         exact fun a w ha hw => ⟨(), ha, hw⟩
        intro _b
        show TO _ _ _ _ _ _ _ _ _ _ [cells b [.int .i64 4, .int .i64 s.tk.k, .int .i64 (s.tk.f : Int), .int .i64 (s.tk.t : Int), .int .i64 s.h.k, .int .i32 (s.h.r : Int), .int .i64 (s.h.f : Int), .int .i64 (s.h.t : Int), .bool s.h.al] 152, cells b1 [.int .i64 u.k, .int .i32 (u.r : Int), .int .i64 (u.f : Int), .int .i64 (u.t : Int), .bool u.al] 150]
        refine TO.nilCheck rfl (by decide) rfl (TO.fieldAddr fl_152_2 rfl (by decide) rfl (show _ = 4 from rfl) (TO.stores (k := 0) (vs := [.int .i64 u.k, .int .i32 (u.r : Int), .int .i64 (u.f : Int), .int .i64 (u.t : Int), .bool u.al]) (l' := [.int .i64 4, .int .i64 s.tk.k, .int .i64 (s.tk.f : Int), .int .i64 (s.tk.t : Int), .int .i64 u.k, .int .i32 (u.r : Int), .int .i64 (u.f : Int), .int .i64 (u.t : Int), .bool u.al]) sz_150 rfl rfl rfl rfl rfl (show _ ≤ _ by simp) rfl rfl (TO.nil (TX.next (TC.seq (TC.region (TO.assign rfl (by decide) rfl (TO.nil (TX.next (TC.ret (TX.blockRet (TX.thenRet ?_))))))))))))
        have hfit : fits s.st u = (4, 2) := by unfold fits; simp_all <;> omega
        have hB : [.int .i64 4, .int .i64 s.tk.k, .int .i64 (s.tk.f : Int), .int .i64 (s.tk.t : Int), .int .i64 u.k, .int .i32 (u.r : Int), .int .i64 (u.f : Int), .int .i64 (u.t : Int), .bool u.al] = scV (fitted s u) := by unfold fitted; rw [hfit]; rfl
        refine TX.rewE (k := 0) rfl (show cells b [.int .i64 4, .int .i64 s.tk.k, .int .i64 (s.tk.f : Int), .int .i64 (s.tk.t : Int), .int .i64 u.k, .int .i32 (u.r : Int), .int .i64 (u.f : Int), .int .i64 (u.t : Int), .bool u.al] 152 = cells b (scV (fitted s u)) 152 from (congrArg (fun z => cells b z 152) hB)) ?_
        show TX _ _ _ _ _ _ _ [cells b (scV (fitted s u)) 152, cells b1 [.int .i64 u.k, .int .i32 (u.r : Int), .int .i64 (u.f : Int), .int .i64 (u.t : Int), .bool u.al] 150]
        exact TX.fin (rs := [.tmp 4]) () (.inl rfl) Tryd.results88 (.cons (.tmp rfl) .nil) (by rw [hfit]; rfl) (Splits.of [0] (by as_aux_lemma => kernel_rfl) rfl)
       ·
        -- no
        refine TC.skip (TX.blockNormal (TX.next (TC.seq (TC.region (TO.assign rfl (by decide) rfl (TO.nil (TX.next (TC.ret ?_))))))))
        have hfit : fits s.st u = (s.st, 0) := by unfold fits; simp_all <;> omega
        have hB : [.int .i64 s.st, .int .i64 s.tk.k, .int .i64 (s.tk.f : Int), .int .i64 (s.tk.t : Int), .int .i64 s.h.k, .int .i32 (s.h.r : Int), .int .i64 (s.h.f : Int), .int .i64 (s.h.t : Int), .bool s.h.al] = scV (fitted s u) := by unfold fitted; rw [hfit]; rfl
        refine TX.rewE (k := 0) rfl (show cells b [.int .i64 s.st, .int .i64 s.tk.k, .int .i64 (s.tk.f : Int), .int .i64 (s.tk.t : Int), .int .i64 s.h.k, .int .i32 (s.h.r : Int), .int .i64 (s.h.f : Int), .int .i64 (s.h.t : Int), .bool s.h.al] 152 = cells b (scV (fitted s u)) 152 from (congrArg (fun z => cells b z 152) hB)) ?_
        show TX _ _ _ _ _ _ _ [cells b (scV (fitted s u)) 152, cells b1 [.int .i64 u.k, .int .i32 (u.r : Int), .int .i64 (u.f : Int), .int .i64 (u.t : Int), .bool u.al] 150]
        exact TX.fin (rs := [.tmp 4]) () (.inl rfl) Tryd.results88 (.cons (.tmp rfl) .nil) (by rw [hfit]; rfl) (Splits.of [0] (by as_aux_lemma => kernel_rfl) rfl)
      ·
       -- no
       have h20 := beq_eq_false_iff_ne.1 h20
       refine TO.skip rfl (by decide) (TO.skip rfl (by decide) (TO.pick (b := false) rfl (by decide) rfl rfl (TO.nil (TX.next (TC.condF rfl (TC.skip (TX.blockNormal (TX.next (TC.seq (TC.region (TO.assign rfl (by decide) rfl (TO.nil (TX.next ?_)))))))))))))
       refine TC.ret ?_
       have hfit : fits s.st u = (s.st, 0) := by unfold fits; simp_all <;> omega
       have hB : [.int .i64 s.st, .int .i64 s.tk.k, .int .i64 (s.tk.f : Int), .int .i64 (s.tk.t : Int), .int .i64 s.h.k, .int .i32 (s.h.r : Int), .int .i64 (s.h.f : Int), .int .i64 (s.h.t : Int), .bool s.h.al] = scV (fitted s u) := by unfold fitted; rw [hfit]; rfl
       refine TX.rewE (k := 0) rfl (show cells b [.int .i64 s.st, .int .i64 s.tk.k, .int .i64 (s.tk.f : Int), .int .i64 (s.tk.t : Int), .int .i64 s.h.k, .int .i32 (s.h.r : Int), .int .i64 (s.h.f : Int), .int .i64 (s.h.t : Int), .bool s.h.al] 152 = cells b (scV (fitted s u)) 152 from (congrArg (fun z => cells b z 152) hB)) ?_
       show TX _ _ _ _ _ _ _ [cells b (scV (fitted s u)) 152, cells b1 [.int .i64 u.k, .int .i32 (u.r : Int), .int .i64 (u.f : Int), .int .i64 (u.t : Int), .bool u.al] 150]
       exact TX.fin (rs := [.tmp 4]) () (.inl rfl) Tryd.results88 (.cons (.tmp rfl) .nil) (by rw [hfit]; rfl) (Splits.of [0] (by as_aux_lemma => kernel_rfl) rfl)
    ·
     -- no
     have h18 := beq_eq_false_iff_ne.1 h18
     refine TC.seq (TC.region (TO.bin rfl (by decide) rfl rfl bin_eql (TO.assign rfl (by decide) rfl (TO.nil (TX.next ?_)))))
     refine TC.condB rfl (fun h22 => ?_) (fun h22 => ?_)
     ·
      -- yes
      have h22 := beq_iff_eq.1 h22
      refine TC.seq (TC.region (TO.move rfl (by decide) rfl (TO.bin rfl (by decide) rfl rfl bin_eql (TO.nil (TX.next ?_)))))
      refine TC.condB rfl (fun h23 => ?_) (fun h23 => ?_)
      ·
       -- yes
       have h23 := beq_iff_eq.1 h23
       refine TC.seq (TC.region (TO.assign rfl (by decide) rfl (TO.nil (TX.next (TC.ret (TX.blockRet (TX.thenRet ?_)))))))
       have hfit : fits s.st u = (s.st, 1) := by unfold fits; simp_all <;> omega
       have hB : [.int .i64 s.st, .int .i64 s.tk.k, .int .i64 (s.tk.f : Int), .int .i64 (s.tk.t : Int), .int .i64 s.h.k, .int .i32 (s.h.r : Int), .int .i64 (s.h.f : Int), .int .i64 (s.h.t : Int), .bool s.h.al] = scV (fitted s u) := by unfold fitted; rw [hfit]; rfl
       refine TX.rewE (k := 0) rfl (show cells b [.int .i64 s.st, .int .i64 s.tk.k, .int .i64 (s.tk.f : Int), .int .i64 (s.tk.t : Int), .int .i64 s.h.k, .int .i32 (s.h.r : Int), .int .i64 (s.h.f : Int), .int .i64 (s.h.t : Int), .bool s.h.al] 152 = cells b (scV (fitted s u)) 152 from (congrArg (fun z => cells b z 152) hB)) ?_
       show TX _ _ _ _ _ _ _ [cells b (scV (fitted s u)) 152, cells b1 [.int .i64 u.k, .int .i32 (u.r : Int), .int .i64 (u.f : Int), .int .i64 (u.t : Int), .bool u.al] 150]
       exact TX.fin (rs := [.tmp 4]) () (.inl rfl) Tryd.results88 (.cons (.tmp rfl) .nil) (by rw [hfit]; rfl) (Splits.of [0] (by as_aux_lemma => kernel_rfl) rfl)
      ·
       -- no
       have h23 := beq_eq_false_iff_ne.1 h23
       refine TC.skip (TX.blockNormal (TX.next (TC.seq (TC.region (TO.assign rfl (by decide) rfl (TO.nil (TX.next (TC.ret ?_))))))))
       have hfit : fits s.st u = (s.st, 0) := by unfold fits; simp_all <;> omega
       have hB : [.int .i64 s.st, .int .i64 s.tk.k, .int .i64 (s.tk.f : Int), .int .i64 (s.tk.t : Int), .int .i64 s.h.k, .int .i32 (s.h.r : Int), .int .i64 (s.h.f : Int), .int .i64 (s.h.t : Int), .bool s.h.al] = scV (fitted s u) := by unfold fitted; rw [hfit]; rfl
       refine TX.rewE (k := 0) rfl (show cells b [.int .i64 s.st, .int .i64 s.tk.k, .int .i64 (s.tk.f : Int), .int .i64 (s.tk.t : Int), .int .i64 s.h.k, .int .i32 (s.h.r : Int), .int .i64 (s.h.f : Int), .int .i64 (s.h.t : Int), .bool s.h.al] 152 = cells b (scV (fitted s u)) 152 from (congrArg (fun z => cells b z 152) hB)) ?_
       show TX _ _ _ _ _ _ _ [cells b (scV (fitted s u)) 152, cells b1 [.int .i64 u.k, .int .i32 (u.r : Int), .int .i64 (u.f : Int), .int .i64 (u.t : Int), .bool u.al] 150]
       exact TX.fin (rs := [.tmp 4]) () (.inl rfl) Tryd.results88 (.cons (.tmp rfl) .nil) (by rw [hfit]; rfl) (Splits.of [0] (by as_aux_lemma => kernel_rfl) rfl)
     ·
      -- no
      have h22 := beq_eq_false_iff_ne.1 h22
      refine TC.seq (TC.region (TO.bin rfl (by decide) rfl rfl bin_eql (TO.assign rfl (by decide) rfl (TO.nil (TX.next ?_)))))
      refine TC.condB rfl (fun h24 => ?_) (fun h24 => ?_)
      ·
       -- yes
       have h24 := beq_iff_eq.1 h24
       refine TC.seq (TC.region (TO.move rfl (by decide) rfl (TO.bin rfl (by decide) rfl rfl bin_eql (TO.nil (TX.next ?_)))))
       refine TC.condB rfl (fun h25 => ?_) (fun h25 => ?_)
       ·
        -- yes
        have h25 := beq_iff_eq.1 h25
        refine TC.seq (TC.region (TO.assign rfl (by decide) rfl (TO.nil (TX.next (TC.ret (TX.blockRet (TX.thenRet ?_)))))))
        have hfit : fits s.st u = (s.st, 1) := by unfold fits; simp_all <;> omega
        have hB : [.int .i64 s.st, .int .i64 s.tk.k, .int .i64 (s.tk.f : Int), .int .i64 (s.tk.t : Int), .int .i64 s.h.k, .int .i32 (s.h.r : Int), .int .i64 (s.h.f : Int), .int .i64 (s.h.t : Int), .bool s.h.al] = scV (fitted s u) := by unfold fitted; rw [hfit]; rfl
        refine TX.rewE (k := 0) rfl (show cells b [.int .i64 s.st, .int .i64 s.tk.k, .int .i64 (s.tk.f : Int), .int .i64 (s.tk.t : Int), .int .i64 s.h.k, .int .i32 (s.h.r : Int), .int .i64 (s.h.f : Int), .int .i64 (s.h.t : Int), .bool s.h.al] 152 = cells b (scV (fitted s u)) 152 from (congrArg (fun z => cells b z 152) hB)) ?_
        show TX _ _ _ _ _ _ _ [cells b (scV (fitted s u)) 152, cells b1 [.int .i64 u.k, .int .i32 (u.r : Int), .int .i64 (u.f : Int), .int .i64 (u.t : Int), .bool u.al] 150]
        exact TX.fin (rs := [.tmp 4]) () (.inl rfl) Tryd.results88 (.cons (.tmp rfl) .nil) (by rw [hfit]; rfl) (Splits.of [0] (by as_aux_lemma => kernel_rfl) rfl)
       ·
        -- no
        have h25 := beq_eq_false_iff_ne.1 h25
        refine TC.skip (TX.blockNormal (TX.next (TC.seq (TC.region (TO.assign rfl (by decide) rfl (TO.nil (TX.next (TC.ret ?_))))))))
        have hfit : fits s.st u = (s.st, 0) := by unfold fits; simp_all <;> omega
        have hB : [.int .i64 s.st, .int .i64 s.tk.k, .int .i64 (s.tk.f : Int), .int .i64 (s.tk.t : Int), .int .i64 s.h.k, .int .i32 (s.h.r : Int), .int .i64 (s.h.f : Int), .int .i64 (s.h.t : Int), .bool s.h.al] = scV (fitted s u) := by unfold fitted; rw [hfit]; rfl
        refine TX.rewE (k := 0) rfl (show cells b [.int .i64 s.st, .int .i64 s.tk.k, .int .i64 (s.tk.f : Int), .int .i64 (s.tk.t : Int), .int .i64 s.h.k, .int .i32 (s.h.r : Int), .int .i64 (s.h.f : Int), .int .i64 (s.h.t : Int), .bool s.h.al] 152 = cells b (scV (fitted s u)) 152 from (congrArg (fun z => cells b z 152) hB)) ?_
        show TX _ _ _ _ _ _ _ [cells b (scV (fitted s u)) 152, cells b1 [.int .i64 u.k, .int .i32 (u.r : Int), .int .i64 (u.f : Int), .int .i64 (u.t : Int), .bool u.al] 150]
        exact TX.fin (rs := [.tmp 4]) () (.inl rfl) Tryd.results88 (.cons (.tmp rfl) .nil) (by rw [hfit]; rfl) (Splits.of [0] (by as_aux_lemma => kernel_rfl) rfl)
      ·
       -- no
       have h24 := beq_eq_false_iff_ne.1 h24
       refine TC.seq (TC.region (TO.bin rfl (by decide) rfl rfl bin_eql (TO.assign rfl (by decide) rfl (TO.nil (TX.next ?_)))))
       refine TC.condB rfl (fun h26 => ?_) (fun h26 => ?_)
       ·
        -- yes
        have h26 := beq_iff_eq.1 h26
        refine TC.seq (TC.region (TO.move rfl (by decide) rfl (TO.bin rfl (by decide) rfl rfl bin_eql (TO.move rfl (by decide) rfl ?_))))
        refine TO.split (s := 72) rfl (fun h27 => ?_) (fun h27 => ?_)
        ·
         -- yes
         have h27 := beq_iff_eq.1 h27
         refine TO.fieldAddr fl_150_1 rfl (by decide) rfl (show _ = 1 from rfl) (TO.load (k := 1) sc_21 rfl (by decide) rfl rfl rfl (TO.bin rfl (by decide) rfl rfl bin_eql (TO.pick (b := true) rfl (by decide) rfl rfl (TO.nil (TX.next ?_)))))
         refine TC.condB rfl (fun h28 => ?_) (fun h28 => ?_)
         ·
          -- yes
          have h28 := beq_iff_eq.1 h28
          refine TC.seq (TC.region (TO.move rfl (by decide) rfl (TO.nilCheck rfl (by decide) rfl (TO.fieldAddr fl_152_0 rfl (by decide) rfl (show _ = 0 from rfl) ?_))))
          refine TO.store (k := 0) (l' := [.int .i64 7, .int .i64 s.tk.k, .int .i64 (s.tk.f : Int), .int .i64 (s.tk.t : Int), .int .i64 s.h.k, .int .i32 (s.h.r : Int), .int .i64 (s.h.f : Int), .int .i64 (s.h.t : Int), .bool s.h.al]) sz_3 rfl rfl rfl rfl rfl (fun _ _ => rfl) rfl ?_
          refine TO.nil (TX.next (TC.seq (TC.region (TO.assign rfl (by decide) rfl (TO.nil (TX.next (TC.ret (TX.blockRet (TX.thenRet ?_)))))))))
          have hfit : fits s.st u = (7, 1) := by unfold fits; simp_all <;> omega
          have hB : [.int .i64 7, .int .i64 s.tk.k, .int .i64 (s.tk.f : Int), .int .i64 (s.tk.t : Int), .int .i64 s.h.k, .int .i32 (s.h.r : Int), .int .i64 (s.h.f : Int), .int .i64 (s.h.t : Int), .bool s.h.al] = scV (fitted s u) := by unfold fitted; rw [hfit]; rfl
          refine TX.rewE (k := 0) rfl (show cells b [.int .i64 7, .int .i64 s.tk.k, .int .i64 (s.tk.f : Int), .int .i64 (s.tk.t : Int), .int .i64 s.h.k, .int .i32 (s.h.r : Int), .int .i64 (s.h.f : Int), .int .i64 (s.h.t : Int), .bool s.h.al] 152 = cells b (scV (fitted s u)) 152 from (congrArg (fun z => cells b z 152) hB)) ?_
          show TX _ _ _ _ _ _ _ [cells b (scV (fitted s u)) 152, cells b1 [.int .i64 u.k, .int .i32 (u.r : Int), .int .i64 (u.f : Int), .int .i64 (u.t : Int), .bool u.al] 150]
          exact TX.fin (rs := [.tmp 4]) () (.inl rfl) Tryd.results88 (.cons (.tmp rfl) .nil) (by rw [hfit]; rfl) (Splits.of [0] (by as_aux_lemma => kernel_rfl) rfl)
         ·
          -- no
          have h28 := beq_eq_false_iff_ne.1 h28
          refine TC.skip (TX.blockNormal (TX.next (TC.seq (TC.region (TO.assign rfl (by decide) rfl (TO.nil (TX.next (TC.ret ?_))))))))
          have hfit : fits s.st u = (s.st, 0) := by unfold fits; simp_all <;> omega
          have hB : [.int .i64 s.st, .int .i64 s.tk.k, .int .i64 (s.tk.f : Int), .int .i64 (s.tk.t : Int), .int .i64 s.h.k, .int .i32 (s.h.r : Int), .int .i64 (s.h.f : Int), .int .i64 (s.h.t : Int), .bool s.h.al] = scV (fitted s u) := by unfold fitted; rw [hfit]; rfl
          refine TX.rewE (k := 0) rfl (show cells b [.int .i64 s.st, .int .i64 s.tk.k, .int .i64 (s.tk.f : Int), .int .i64 (s.tk.t : Int), .int .i64 s.h.k, .int .i32 (s.h.r : Int), .int .i64 (s.h.f : Int), .int .i64 (s.h.t : Int), .bool s.h.al] 152 = cells b (scV (fitted s u)) 152 from (congrArg (fun z => cells b z 152) hB)) ?_
          show TX _ _ _ _ _ _ _ [cells b (scV (fitted s u)) 152, cells b1 [.int .i64 u.k, .int .i32 (u.r : Int), .int .i64 (u.f : Int), .int .i64 (u.t : Int), .bool u.al] 150]
          exact TX.fin (rs := [.tmp 4]) () (.inl rfl) Tryd.results88 (.cons (.tmp rfl) .nil) (by rw [hfit]; rfl) (Splits.of [0] (by as_aux_lemma => kernel_rfl) rfl)
        ·
         -- no
         have h27 := beq_eq_false_iff_ne.1 h27
         refine TO.skip rfl (by decide) (TO.skip rfl (by decide) (TO.skip rfl (by decide) (TO.pick (b := false) rfl (by decide) rfl rfl (TO.nil (TX.next (TC.condF rfl (TC.skip (TX.blockNormal (TX.next (TC.seq (TC.region (TO.assign rfl (by decide) rfl (TO.nil ?_)))))))))))))
         refine TX.next (TC.ret ?_)
         have hfit : fits s.st u = (s.st, 0) := by unfold fits; simp_all <;> omega
         have hB : [.int .i64 s.st, .int .i64 s.tk.k, .int .i64 (s.tk.f : Int), .int .i64 (s.tk.t : Int), .int .i64 s.h.k, .int .i32 (s.h.r : Int), .int .i64 (s.h.f : Int), .int .i64 (s.h.t : Int), .bool s.h.al] = scV (fitted s u) := by unfold fitted; rw [hfit]; rfl
         refine TX.rewE (k := 0) rfl (show cells b [.int .i64 s.st, .int .i64 s.tk.k, .int .i64 (s.tk.f : Int), .int .i64 (s.tk.t : Int), .int .i64 s.h.k, .int .i32 (s.h.r : Int), .int .i64 (s.h.f : Int), .int .i64 (s.h.t : Int), .bool s.h.al] 152 = cells b (scV (fitted s u)) 152 from (congrArg (fun z => cells b z 152) hB)) ?_
         show TX _ _ _ _ _ _ _ [cells b (scV (fitted s u)) 152, cells b1 [.int .i64 u.k, .int .i32 (u.r : Int), .int .i64 (u.f : Int), .int .i64 (u.t : Int), .bool u.al] 150]
         exact TX.fin (rs := [.tmp 4]) () (.inl rfl) Tryd.results88 (.cons (.tmp rfl) .nil) (by rw [hfit]; rfl) (Splits.of [0] (by as_aux_lemma => kernel_rfl) rfl)
       ·
        -- no
        have h26 := beq_eq_false_iff_ne.1 h26
        refine TC.skip (TX.blockNormal (TX.next (TC.seq (TC.region (TO.assign rfl (by decide) rfl (TO.nil (TX.next (TC.ret ?_))))))))
        have hfit : fits s.st u = (s.st, 0) := by unfold fits; simp_all <;> omega
        have hB : [.int .i64 s.st, .int .i64 s.tk.k, .int .i64 (s.tk.f : Int), .int .i64 (s.tk.t : Int), .int .i64 s.h.k, .int .i32 (s.h.r : Int), .int .i64 (s.h.f : Int), .int .i64 (s.h.t : Int), .bool s.h.al] = scV (fitted s u) := by unfold fitted; rw [hfit]; rfl
        refine TX.rewE (k := 0) rfl (show cells b [.int .i64 s.st, .int .i64 s.tk.k, .int .i64 (s.tk.f : Int), .int .i64 (s.tk.t : Int), .int .i64 s.h.k, .int .i32 (s.h.r : Int), .int .i64 (s.h.f : Int), .int .i64 (s.h.t : Int), .bool s.h.al] 152 = cells b (scV (fitted s u)) 152 from (congrArg (fun z => cells b z 152) hB)) ?_
        show TX _ _ _ _ _ _ _ [cells b (scV (fitted s u)) 152, cells b1 [.int .i64 u.k, .int .i32 (u.r : Int), .int .i64 (u.f : Int), .int .i64 (u.t : Int), .bool u.al] 150]
        exact TX.fin (rs := [.tmp 4]) () (.inl rfl) Tryd.results88 (.cons (.tmp rfl) .nil) (by rw [hfit]; rfl) (Splits.of [0] (by as_aux_lemma => kernel_rfl) rfl)
 ·
  -- no
  have h1 := beq_eq_false_iff_ne.1 h1
  refine TC.region (TO.bin rfl (by decide) rfl rfl bin_eql (TO.assign rfl (by decide) rfl (TO.nil (TX.next ?_))))
  refine TC.condB rfl (fun h29 => ?_) (fun h29 => ?_)
  ·
   -- yes
   have h29 := beq_iff_eq.1 h29
   refine TC.seq (TC.seq (TC.region (TO.move rfl (by decide) rfl (TO.bin rfl (by decide) rfl rfl bin_eql (TO.nil (TX.next ?_))))))
   refine TC.condB rfl (fun h30 => ?_) (fun h30 => ?_)
   ·
    -- yes
    have h30 := beq_iff_eq.1 h30
    refine TC.seq (TC.region (TO.move rfl (by decide) rfl (TO.nilCheck rfl (by decide) rfl (TO.fieldAddr fl_152_0 rfl (by decide) rfl (show _ = 0 from rfl) ?_))))
    refine TO.store (k := 0) (l' := [.int .i64 1, .int .i64 s.tk.k, .int .i64 (s.tk.f : Int), .int .i64 (s.tk.t : Int), .int .i64 s.h.k, .int .i32 (s.h.r : Int), .int .i64 (s.h.f : Int), .int .i64 (s.h.t : Int), .bool s.h.al]) sz_3 rfl rfl rfl rfl rfl (fun _ _ => rfl) rfl ?_
    refine TO.nil (TX.next (TC.seq (TC.region (TO.assign rfl (by decide) rfl (TO.nil (TX.next (TC.ret (TX.thenRet (TX.blockRet (TX.thenRet ?_))))))))))
    have hfit : fits s.st u = (1, 1) := by unfold fits; simp_all <;> omega
    have hB : [.int .i64 1, .int .i64 s.tk.k, .int .i64 (s.tk.f : Int), .int .i64 (s.tk.t : Int), .int .i64 s.h.k, .int .i32 (s.h.r : Int), .int .i64 (s.h.f : Int), .int .i64 (s.h.t : Int), .bool s.h.al] = scV (fitted s u) := by unfold fitted; rw [hfit]; rfl
    refine TX.rewE (k := 0) rfl (show cells b [.int .i64 1, .int .i64 s.tk.k, .int .i64 (s.tk.f : Int), .int .i64 (s.tk.t : Int), .int .i64 s.h.k, .int .i32 (s.h.r : Int), .int .i64 (s.h.f : Int), .int .i64 (s.h.t : Int), .bool s.h.al] 152 = cells b (scV (fitted s u)) 152 from (congrArg (fun z => cells b z 152) hB)) ?_
    show TX _ _ _ _ _ _ _ [cells b (scV (fitted s u)) 152, cells b1 [.int .i64 u.k, .int .i32 (u.r : Int), .int .i64 (u.f : Int), .int .i64 (u.t : Int), .bool u.al] 150]
    exact TX.fin (rs := [.tmp 4]) () (.inl rfl) Tryd.results88 (.cons (.tmp rfl) .nil) (by rw [hfit]; rfl) (Splits.of [0] (by as_aux_lemma => kernel_rfl) rfl)
   ·
    -- no
    have h30 := beq_eq_false_iff_ne.1 h30
    refine TC.skip (TX.next (TC.seq (TC.region (TO.move rfl (by decide) rfl (TO.nilCheck rfl (by decide) rfl (TO.fieldAddr fl_152_0 rfl (by decide) rfl (show _ = 0 from rfl) (TO.load (k := 0) sc_3 rfl (by decide) rfl rfl rfl (TO.bin rfl (by decide) rfl rfl bin_eql (TO.move rfl (by decide) rfl ?_)))))))))
    refine TO.split (s := 25) rfl (fun h31 => ?_) (fun h31 => ?_)
    ·
     -- yes
     have h31 := beq_iff_eq.1 h31
     refine TO.loads (k := 1) (cs := [.int .i64 u.k, .int .i32 (u.r : Int), .int .i64 (u.f : Int), .int .i64 (u.t : Int), .bool u.al]) rw_150 rfl (by decide) rfl rfl rfl rfl (TO.callP (v := .bool (joint u)) (vs := [.agg #[.int .i64 u.k, .int .i32 (u.r : Int), .int .i64 (u.f : Int), .int .i64 (u.t : Int), .bool u.al]]) rfl (by decide) rfl rfl rfl en_107 (joint_p u) (TO.pick (b := true) rfl (by decide) rfl rfl (TO.nil (TX.next ?_))))
     refine TC.condB rfl (fun h32 => ?_) (fun h32 => ?_)
     ·
      -- yes
      refine TC.seq ?_
      refine TC.drawB (β := Unit) 6 5 _ [(0, 29, .pointer (some ⟨b, 0, none⟩)), (1, 30, .pointer (some ⟨b, 0, none⟩)), (2, 31, .agg #[.int .i64 u.k, .int .i32 (u.r : Int), .int .i64 (u.f : Int), .int .i64 (u.t : Int), .bool u.al]), (3, 32, .pointer (some ⟨b, 0, none⟩)), (4, 33, .pointer (some ⟨b, 0, none⟩))] (fun _b => []) (fun _b => [cells b [.int .i64 2, .int .i64 s.tk.k, .int .i64 (s.tk.f : Int), .int .i64 (s.tk.t : Int), .int .i64 s.h.k, .int .i32 (s.h.r : Int), .int .i64 (s.h.f : Int), .int .i64 (s.h.t : Int), .bool s.h.al] 152, cells b1 [.int .i64 u.k, .int .i32 (u.r : Int), .int .i64 (u.f : Int), .int .i64 (u.t : Int), .bool u.al] 150]) mixed (by as_aux_lemma => kernel_rfl) (by as_aux_lemma => kernel_rfl) rfl (by decide) (by decide) (by rfl) (by as_aux_lemma => kernel_rfl) (by as_aux_lemma => kernel_rfl) (DrawPreX.cons ?_ (DrawPreX.cons ?_ (DrawPreX.cons ?_ (DrawPreX.cons ?_ (DrawPreX.cons ?_ (DrawPreX.here DrawPreX.nil)))))) (fun _b => (DrawPreX.cons ?_ (DrawPreX.cons ?_ (DrawPreX.cons ?_ (DrawPreX.cons ?_ (DrawPreX.cons ?_ (DrawPreX.here DrawPreX.nil))))))) ?_ ?_
      ·
       intro D hn hd hcl hu hi
       refine TO.move rfl (by decide) (dl_old (by rfl) rfl) ?_
       exact TX.quiet 0 hu hi rfl
      ·
       intro D hn hd hcl hu hi
       refine TO.move rfl (by decide) (dl_old (by rfl) rfl) ?_
       exact TX.quiet 1 hu hi rfl
      ·
       intro D hn hd hcl hu hi
       refine TO.loads (k := 1) (cs := [.int .i64 u.k, .int .i32 (u.r : Int), .int .i64 (u.f : Int), .int .i64 (u.t : Int), .bool u.al]) rw_150 rfl (by decide) (dl_old (by rfl) rfl) rfl rfl rfl ?_
       exact TX.quiet 2 hu hi rfl
      ·
       intro D hn hd hcl hu hi
       refine TO.nilCheck rfl (by decide) (dl_lookup (m := 0) hu rfl (hd 0 (by decide))) ?_
       exact TX.quiet 3 hu hi rfl
      ·
       intro D hn hd hcl hu hi
       refine TO.fieldAddr fl_152_0 rfl (by decide) (dl_lookup (m := 3) hu rfl (hd 3 (by decide))) (show _ = 0 from rfl) ?_
       exact TX.quiet 4 hu hi rfl
      ·
       intro D hn hd hcl hu hi
       refine TO.move rfl (by decide) (dl_old (by rfl) rfl) ?_
       exact TX.quiet 0 hu hi rfl
      ·
       intro D hn hd hcl hu hi
       refine TO.move rfl (by decide) (dl_old (by rfl) rfl) ?_
       exact TX.quiet 1 hu hi rfl
      ·
       intro D hn hd hcl hu hi
       refine TO.loads (k := 1) (cs := [.int .i64 u.k, .int .i32 (u.r : Int), .int .i64 (u.f : Int), .int .i64 (u.t : Int), .bool u.al]) rw_150 rfl (by decide) (dl_old (by rfl) rfl) rfl rfl rfl ?_
       exact TX.quiet 2 hu hi rfl
      ·
       intro D hn hd hcl hu hi
       refine TO.nilCheck rfl (by decide) (dl_lookup (m := 0) hu rfl (hd 0 (by decide))) ?_
       exact TX.quiet 3 hu hi rfl
      ·
       intro D hn hd hcl hu hi
       refine TO.fieldAddr fl_152_0 rfl (by decide) (dl_lookup (m := 3) hu rfl (hd 3 (by decide))) (show _ = 0 from rfl) ?_
       exact TX.quiet 4 hu hi rfl
      ·
       intro D hn hd hcl
       refine TO.store (k := 0) (l' := [.int .i64 2, .int .i64 s.tk.k, .int .i64 (s.tk.f : Int), .int .i64 (s.tk.t : Int), .int .i64 s.h.k, .int .i32 (s.h.r : Int), .int .i64 (s.h.f : Int), .int .i64 (s.h.t : Int), .bool s.h.al]) sz_3 rfl (dl_lookup (m := 4) (by as_aux_lemma => kernel_rfl) rfl (hd 4 (by decide))) rfl rfl rfl (fun _ _ => rfl) rfl ?_
       exact fun a w ha hw => ⟨(), ha, hw⟩
      intro _b
      show TO _ _ _ _ _ _ _ _ _ _ [cells b [.int .i64 2, .int .i64 s.tk.k, .int .i64 (s.tk.f : Int), .int .i64 (s.tk.t : Int), .int .i64 s.h.k, .int .i32 (s.h.r : Int), .int .i64 (s.h.f : Int), .int .i64 (s.h.t : Int), .bool s.h.al] 152, cells b1 [.int .i64 u.k, .int .i32 (u.r : Int), .int .i64 (u.f : Int), .int .i64 (u.t : Int), .bool u.al] 150]
      refine TO.nilCheck rfl (by decide) rfl (TO.fieldAddr fl_152_2 rfl (by decide) rfl (show _ = 4 from rfl) (TO.stores (k := 0) (vs := [.int .i64 u.k, .int .i32 (u.r : Int), .int .i64 (u.f : Int), .int .i64 (u.t : Int), .bool u.al]) (l' := [.int .i64 2, .int .i64 s.tk.k, .int .i64 (s.tk.f : Int), .int .i64 (s.tk.t : Int), .int .i64 u.k, .int .i32 (u.r : Int), .int .i64 (u.f : Int), .int .i64 (u.t : Int), .bool u.al]) sz_150 rfl rfl rfl rfl rfl (show _ ≤ _ by simp) rfl rfl (TO.nil (TX.next (TC.seq (TC.region (TO.assign rfl (by decide) rfl (TO.nil (TX.next (TC.ret (TX.blockRet (TX.thenRet ?_))))))))))))
      have hfit : fits s.st u = (2, 2) := by unfold fits; simp_all <;> omega
      have hB : [.int .i64 2, .int .i64 s.tk.k, .int .i64 (s.tk.f : Int), .int .i64 (s.tk.t : Int), .int .i64 u.k, .int .i32 (u.r : Int), .int .i64 (u.f : Int), .int .i64 (u.t : Int), .bool u.al] = scV (fitted s u) := by unfold fitted; rw [hfit]; rfl
      refine TX.rewE (k := 0) rfl (show cells b [.int .i64 2, .int .i64 s.tk.k, .int .i64 (s.tk.f : Int), .int .i64 (s.tk.t : Int), .int .i64 u.k, .int .i32 (u.r : Int), .int .i64 (u.f : Int), .int .i64 (u.t : Int), .bool u.al] 152 = cells b (scV (fitted s u)) 152 from (congrArg (fun z => cells b z 152) hB)) ?_
      show TX _ _ _ _ _ _ _ [cells b (scV (fitted s u)) 152, cells b1 [.int .i64 u.k, .int .i32 (u.r : Int), .int .i64 (u.f : Int), .int .i64 (u.t : Int), .bool u.al] 150]
      exact TX.fin (rs := [.tmp 4]) () (.inl rfl) Tryd.results88 (.cons (.tmp rfl) .nil) (by rw [hfit]; rfl) (Splits.of [0] (by as_aux_lemma => kernel_rfl) rfl)
     ·
      -- no
      refine TC.skip (TX.blockNormal (TX.next (TC.seq (TC.region (TO.assign rfl (by decide) rfl (TO.nil (TX.next (TC.ret ?_))))))))
      have hfit : fits s.st u = (s.st, 0) := by unfold fits; simp_all <;> omega
      have hB : [.int .i64 s.st, .int .i64 s.tk.k, .int .i64 (s.tk.f : Int), .int .i64 (s.tk.t : Int), .int .i64 s.h.k, .int .i32 (s.h.r : Int), .int .i64 (s.h.f : Int), .int .i64 (s.h.t : Int), .bool s.h.al] = scV (fitted s u) := by unfold fitted; rw [hfit]; rfl
      refine TX.rewE (k := 0) rfl (show cells b [.int .i64 s.st, .int .i64 s.tk.k, .int .i64 (s.tk.f : Int), .int .i64 (s.tk.t : Int), .int .i64 s.h.k, .int .i32 (s.h.r : Int), .int .i64 (s.h.f : Int), .int .i64 (s.h.t : Int), .bool s.h.al] 152 = cells b (scV (fitted s u)) 152 from (congrArg (fun z => cells b z 152) hB)) ?_
      show TX _ _ _ _ _ _ _ [cells b (scV (fitted s u)) 152, cells b1 [.int .i64 u.k, .int .i32 (u.r : Int), .int .i64 (u.f : Int), .int .i64 (u.t : Int), .bool u.al] 150]
      exact TX.fin (rs := [.tmp 4]) () (.inl rfl) Tryd.results88 (.cons (.tmp rfl) .nil) (by rw [hfit]; rfl) (Splits.of [0] (by as_aux_lemma => kernel_rfl) rfl)
    ·
     -- no
     have h31 := beq_eq_false_iff_ne.1 h31
     refine TO.skip rfl (by decide) (TO.skip rfl (by decide) (TO.pick (b := false) rfl (by decide) rfl rfl (TO.nil (TX.next (TC.condF rfl (TC.skip (TX.blockNormal (TX.next (TC.seq (TC.region (TO.assign rfl (by decide) rfl (TO.nil (TX.next ?_)))))))))))))
     refine TC.ret ?_
     have hfit : fits s.st u = (s.st, 0) := by unfold fits; simp_all <;> omega
     have hB : [.int .i64 s.st, .int .i64 s.tk.k, .int .i64 (s.tk.f : Int), .int .i64 (s.tk.t : Int), .int .i64 s.h.k, .int .i32 (s.h.r : Int), .int .i64 (s.h.f : Int), .int .i64 (s.h.t : Int), .bool s.h.al] = scV (fitted s u) := by unfold fitted; rw [hfit]; rfl
     refine TX.rewE (k := 0) rfl (show cells b [.int .i64 s.st, .int .i64 s.tk.k, .int .i64 (s.tk.f : Int), .int .i64 (s.tk.t : Int), .int .i64 s.h.k, .int .i32 (s.h.r : Int), .int .i64 (s.h.f : Int), .int .i64 (s.h.t : Int), .bool s.h.al] 152 = cells b (scV (fitted s u)) 152 from (congrArg (fun z => cells b z 152) hB)) ?_
     show TX _ _ _ _ _ _ _ [cells b (scV (fitted s u)) 152, cells b1 [.int .i64 u.k, .int .i32 (u.r : Int), .int .i64 (u.f : Int), .int .i64 (u.t : Int), .bool u.al] 150]
     exact TX.fin (rs := [.tmp 4]) () (.inl rfl) Tryd.results88 (.cons (.tmp rfl) .nil) (by rw [hfit]; rfl) (Splits.of [0] (by as_aux_lemma => kernel_rfl) rfl)
  ·
   -- no
   have h29 := beq_eq_false_iff_ne.1 h29
   refine TC.seq (TC.seq (TC.region (TO.bin rfl (by decide) rfl rfl bin_eql (TO.assign rfl (by decide) rfl (TO.nil (TX.next ?_))))))
   refine TC.condB rfl (fun h33 => ?_) (fun h33 => ?_)
   ·
    -- yes
    have h33 := beq_iff_eq.1 h33
    refine TC.skip (TX.next ?_)
    refine TC.condB rfl (fun h34 => ?_) (fun h34 => ?_)
    ·
     -- yes
     have h34 := beq_iff_eq.1 h34
     refine TC.seq (TC.seq (TC.region (TO.move rfl (by decide) rfl (TO.bin rfl (by decide) rfl rfl bin_eql (TO.nil (TX.next ?_))))))
     refine TC.condB rfl (fun h35 => ?_) (fun h35 => ?_)
     ·
      -- yes
      have h35 := beq_iff_eq.1 h35
      refine TC.seq (TC.region (TO.move rfl (by decide) rfl (TO.nilCheck rfl (by decide) rfl (TO.fieldAddr fl_152_0 rfl (by decide) rfl (show _ = 0 from rfl) ?_))))
      refine TO.store (k := 0) (l' := [.int .i64 3, .int .i64 s.tk.k, .int .i64 (s.tk.f : Int), .int .i64 (s.tk.t : Int), .int .i64 s.h.k, .int .i32 (s.h.r : Int), .int .i64 (s.h.f : Int), .int .i64 (s.h.t : Int), .bool s.h.al]) sz_3 rfl rfl rfl rfl rfl (fun _ _ => rfl) rfl ?_
      refine TO.nil (TX.next (TC.seq (TC.region (TO.assign rfl (by decide) rfl (TO.nil (TX.next (TC.ret (TX.thenRet (TX.blockRet (TX.thenRet ?_))))))))))
      have hfit : fits s.st u = (3, 1) := by unfold fits; simp_all <;> omega
      have hB : [.int .i64 3, .int .i64 s.tk.k, .int .i64 (s.tk.f : Int), .int .i64 (s.tk.t : Int), .int .i64 s.h.k, .int .i32 (s.h.r : Int), .int .i64 (s.h.f : Int), .int .i64 (s.h.t : Int), .bool s.h.al] = scV (fitted s u) := by unfold fitted; rw [hfit]; rfl
      refine TX.rewE (k := 0) rfl (show cells b [.int .i64 3, .int .i64 s.tk.k, .int .i64 (s.tk.f : Int), .int .i64 (s.tk.t : Int), .int .i64 s.h.k, .int .i32 (s.h.r : Int), .int .i64 (s.h.f : Int), .int .i64 (s.h.t : Int), .bool s.h.al] 152 = cells b (scV (fitted s u)) 152 from (congrArg (fun z => cells b z 152) hB)) ?_
      show TX _ _ _ _ _ _ _ [cells b (scV (fitted s u)) 152, cells b1 [.int .i64 u.k, .int .i32 (u.r : Int), .int .i64 (u.f : Int), .int .i64 (u.t : Int), .bool u.al] 150]
      exact TX.fin (rs := [.tmp 4]) () (.inl rfl) Tryd.results88 (.cons (.tmp rfl) .nil) (by rw [hfit]; rfl) (Splits.of [0] (by as_aux_lemma => kernel_rfl) rfl)
     ·
      -- no
      have h35 := beq_eq_false_iff_ne.1 h35
      refine TC.skip (TX.next (TC.seq (TC.region (TO.move rfl (by decide) rfl (TO.nilCheck rfl (by decide) rfl (TO.fieldAddr fl_152_0 rfl (by decide) rfl (show _ = 0 from rfl) (TO.load (k := 0) sc_3 rfl (by decide) rfl rfl rfl (TO.bin rfl (by decide) rfl rfl bin_eql (TO.move rfl (by decide) rfl ?_)))))))))
      refine TO.split (s := 49) rfl (fun h36 => ?_) (fun h36 => ?_)
      ·
       -- yes
       have h36 := beq_iff_eq.1 h36
       refine TO.loads (k := 1) (cs := [.int .i64 u.k, .int .i32 (u.r : Int), .int .i64 (u.f : Int), .int .i64 (u.t : Int), .bool u.al]) rw_150 rfl (by decide) rfl rfl rfl rfl (TO.callP (v := .bool (dot u)) (vs := [.agg #[.int .i64 u.k, .int .i32 (u.r : Int), .int .i64 (u.f : Int), .int .i64 (u.t : Int), .bool u.al]]) rfl (by decide) rfl rfl rfl en_108 (dot_p u) (TO.pick (b := true) rfl (by decide) rfl rfl (TO.nil (TX.next ?_))))
       refine TC.condB rfl (fun h37 => ?_) (fun h37 => ?_)
       ·
        -- yes
        refine TC.seq ?_
        refine TC.drawB (β := Unit) 6 5 _ [(0, 53, .pointer (some ⟨b, 0, none⟩)), (1, 54, .pointer (some ⟨b, 0, none⟩)), (2, 55, .agg #[.int .i64 u.k, .int .i32 (u.r : Int), .int .i64 (u.f : Int), .int .i64 (u.t : Int), .bool u.al]), (3, 56, .pointer (some ⟨b, 0, none⟩)), (4, 57, .pointer (some ⟨b, 0, none⟩))] (fun _b => []) (fun _b => [cells b [.int .i64 4, .int .i64 s.tk.k, .int .i64 (s.tk.f : Int), .int .i64 (s.tk.t : Int), .int .i64 s.h.k, .int .i32 (s.h.r : Int), .int .i64 (s.h.f : Int), .int .i64 (s.h.t : Int), .bool s.h.al] 152, cells b1 [.int .i64 u.k, .int .i32 (u.r : Int), .int .i64 (u.f : Int), .int .i64 (u.t : Int), .bool u.al] 150]) mixed (by as_aux_lemma => kernel_rfl) (by as_aux_lemma => kernel_rfl) rfl (by decide) (by decide) (by rfl) (by as_aux_lemma => kernel_rfl) (by as_aux_lemma => kernel_rfl) (DrawPreX.cons ?_ (DrawPreX.cons ?_ (DrawPreX.cons ?_ (DrawPreX.cons ?_ (DrawPreX.cons ?_ (DrawPreX.here DrawPreX.nil)))))) (fun _b => (DrawPreX.cons ?_ (DrawPreX.cons ?_ (DrawPreX.cons ?_ (DrawPreX.cons ?_ (DrawPreX.cons ?_ (DrawPreX.here DrawPreX.nil))))))) ?_ ?_
        ·
         intro D hn hd hcl hu hi
         refine TO.move rfl (by decide) (dl_old (by rfl) rfl) ?_
         exact TX.quiet 0 hu hi rfl
        ·
         intro D hn hd hcl hu hi
         refine TO.move rfl (by decide) (dl_old (by rfl) rfl) ?_
         exact TX.quiet 1 hu hi rfl
        ·
         intro D hn hd hcl hu hi
         refine TO.loads (k := 1) (cs := [.int .i64 u.k, .int .i32 (u.r : Int), .int .i64 (u.f : Int), .int .i64 (u.t : Int), .bool u.al]) rw_150 rfl (by decide) (dl_old (by rfl) rfl) rfl rfl rfl ?_
         exact TX.quiet 2 hu hi rfl
        ·
         intro D hn hd hcl hu hi
         refine TO.nilCheck rfl (by decide) (dl_lookup (m := 0) hu rfl (hd 0 (by decide))) ?_
         exact TX.quiet 3 hu hi rfl
        ·
         intro D hn hd hcl hu hi
         refine TO.fieldAddr fl_152_0 rfl (by decide) (dl_lookup (m := 3) hu rfl (hd 3 (by decide))) (show _ = 0 from rfl) ?_
         exact TX.quiet 4 hu hi rfl
        ·
         intro D hn hd hcl hu hi
         refine TO.move rfl (by decide) (dl_old (by rfl) rfl) ?_
         exact TX.quiet 0 hu hi rfl
        ·
         intro D hn hd hcl hu hi
         refine TO.move rfl (by decide) (dl_old (by rfl) rfl) ?_
         exact TX.quiet 1 hu hi rfl
        ·
         intro D hn hd hcl hu hi
         refine TO.loads (k := 1) (cs := [.int .i64 u.k, .int .i32 (u.r : Int), .int .i64 (u.f : Int), .int .i64 (u.t : Int), .bool u.al]) rw_150 rfl (by decide) (dl_old (by rfl) rfl) rfl rfl rfl ?_
         exact TX.quiet 2 hu hi rfl
        ·
         intro D hn hd hcl hu hi
         refine TO.nilCheck rfl (by decide) (dl_lookup (m := 0) hu rfl (hd 0 (by decide))) ?_
         exact TX.quiet 3 hu hi rfl
        ·
         intro D hn hd hcl hu hi
         refine TO.fieldAddr fl_152_0 rfl (by decide) (dl_lookup (m := 3) hu rfl (hd 3 (by decide))) (show _ = 0 from rfl) ?_
         exact TX.quiet 4 hu hi rfl
        ·
         intro D hn hd hcl
         refine TO.store (k := 0) (l' := [.int .i64 4, .int .i64 s.tk.k, .int .i64 (s.tk.f : Int), .int .i64 (s.tk.t : Int), .int .i64 s.h.k, .int .i32 (s.h.r : Int), .int .i64 (s.h.f : Int), .int .i64 (s.h.t : Int), .bool s.h.al]) sz_3 rfl (dl_lookup (m := 4) (by as_aux_lemma => kernel_rfl) rfl (hd 4 (by decide))) rfl rfl rfl (fun _ _ => rfl) rfl ?_
         exact fun a w ha hw => ⟨(), ha, hw⟩
        intro _b
        show TO _ _ _ _ _ _ _ _ _ _ [cells b [.int .i64 4, .int .i64 s.tk.k, .int .i64 (s.tk.f : Int), .int .i64 (s.tk.t : Int), .int .i64 s.h.k, .int .i32 (s.h.r : Int), .int .i64 (s.h.f : Int), .int .i64 (s.h.t : Int), .bool s.h.al] 152, cells b1 [.int .i64 u.k, .int .i32 (u.r : Int), .int .i64 (u.f : Int), .int .i64 (u.t : Int), .bool u.al] 150]
        refine TO.nilCheck rfl (by decide) rfl (TO.fieldAddr fl_152_2 rfl (by decide) rfl (show _ = 4 from rfl) (TO.stores (k := 0) (vs := [.int .i64 u.k, .int .i32 (u.r : Int), .int .i64 (u.f : Int), .int .i64 (u.t : Int), .bool u.al]) (l' := [.int .i64 4, .int .i64 s.tk.k, .int .i64 (s.tk.f : Int), .int .i64 (s.tk.t : Int), .int .i64 u.k, .int .i32 (u.r : Int), .int .i64 (u.f : Int), .int .i64 (u.t : Int), .bool u.al]) sz_150 rfl rfl rfl rfl rfl (show _ ≤ _ by simp) rfl rfl (TO.nil (TX.next (TC.seq (TC.region (TO.assign rfl (by decide) rfl (TO.nil (TX.next (TC.ret (TX.blockRet (TX.thenRet ?_))))))))))))
        have hfit : fits s.st u = (4, 2) := by unfold fits; simp_all <;> omega
        have hB : [.int .i64 4, .int .i64 s.tk.k, .int .i64 (s.tk.f : Int), .int .i64 (s.tk.t : Int), .int .i64 u.k, .int .i32 (u.r : Int), .int .i64 (u.f : Int), .int .i64 (u.t : Int), .bool u.al] = scV (fitted s u) := by unfold fitted; rw [hfit]; rfl
        refine TX.rewE (k := 0) rfl (show cells b [.int .i64 4, .int .i64 s.tk.k, .int .i64 (s.tk.f : Int), .int .i64 (s.tk.t : Int), .int .i64 u.k, .int .i32 (u.r : Int), .int .i64 (u.f : Int), .int .i64 (u.t : Int), .bool u.al] 152 = cells b (scV (fitted s u)) 152 from (congrArg (fun z => cells b z 152) hB)) ?_
        show TX _ _ _ _ _ _ _ [cells b (scV (fitted s u)) 152, cells b1 [.int .i64 u.k, .int .i32 (u.r : Int), .int .i64 (u.f : Int), .int .i64 (u.t : Int), .bool u.al] 150]
        exact TX.fin (rs := [.tmp 4]) () (.inl rfl) Tryd.results88 (.cons (.tmp rfl) .nil) (by rw [hfit]; rfl) (Splits.of [0] (by as_aux_lemma => kernel_rfl) rfl)
       ·
        -- no
        refine TC.skip (TX.blockNormal (TX.next (TC.seq (TC.region (TO.assign rfl (by decide) rfl (TO.nil (TX.next (TC.ret ?_))))))))
        have hfit : fits s.st u = (s.st, 0) := by unfold fits; simp_all <;> omega
        have hB : [.int .i64 s.st, .int .i64 s.tk.k, .int .i64 (s.tk.f : Int), .int .i64 (s.tk.t : Int), .int .i64 s.h.k, .int .i32 (s.h.r : Int), .int .i64 (s.h.f : Int), .int .i64 (s.h.t : Int), .bool s.h.al] = scV (fitted s u) := by unfold fitted; rw [hfit]; rfl
        refine TX.rewE (k := 0) rfl (show cells b [.int .i64 s.st, .int .i64 s.tk.k, .int .i64 (s.tk.f : Int), .int .i64 (s.tk.t : Int), .int .i64 s.h.k, .int .i32 (s.h.r : Int), .int .i64 (s.h.f : Int), .int .i64 (s.h.t : Int), .bool s.h.al] 152 = cells b (scV (fitted s u)) 152 from (congrArg (fun z => cells b z 152) hB)) ?_
        show TX _ _ _ _ _ _ _ [cells b (scV (fitted s u)) 152, cells b1 [.int .i64 u.k, .int .i32 (u.r : Int), .int .i64 (u.f : Int), .int .i64 (u.t : Int), .bool u.al] 150]
        exact TX.fin (rs := [.tmp 4]) () (.inl rfl) Tryd.results88 (.cons (.tmp rfl) .nil) (by rw [hfit]; rfl) (Splits.of [0] (by as_aux_lemma => kernel_rfl) rfl)
      ·
       -- no
       have h36 := beq_eq_false_iff_ne.1 h36
       refine TO.skip rfl (by decide) (TO.skip rfl (by decide) (TO.pick (b := false) rfl (by decide) rfl rfl (TO.nil (TX.next (TC.condF rfl (TC.skip (TX.blockNormal (TX.next (TC.seq (TC.region (TO.assign rfl (by decide) rfl (TO.nil (TX.next ?_)))))))))))))
       refine TC.ret ?_
       have hfit : fits s.st u = (s.st, 0) := by unfold fits; simp_all <;> omega
       have hB : [.int .i64 s.st, .int .i64 s.tk.k, .int .i64 (s.tk.f : Int), .int .i64 (s.tk.t : Int), .int .i64 s.h.k, .int .i32 (s.h.r : Int), .int .i64 (s.h.f : Int), .int .i64 (s.h.t : Int), .bool s.h.al] = scV (fitted s u) := by unfold fitted; rw [hfit]; rfl
       refine TX.rewE (k := 0) rfl (show cells b [.int .i64 s.st, .int .i64 s.tk.k, .int .i64 (s.tk.f : Int), .int .i64 (s.tk.t : Int), .int .i64 s.h.k, .int .i32 (s.h.r : Int), .int .i64 (s.h.f : Int), .int .i64 (s.h.t : Int), .bool s.h.al] 152 = cells b (scV (fitted s u)) 152 from (congrArg (fun z => cells b z 152) hB)) ?_
       show TX _ _ _ _ _ _ _ [cells b (scV (fitted s u)) 152, cells b1 [.int .i64 u.k, .int .i32 (u.r : Int), .int .i64 (u.f : Int), .int .i64 (u.t : Int), .bool u.al] 150]
       exact TX.fin (rs := [.tmp 4]) () (.inl rfl) Tryd.results88 (.cons (.tmp rfl) .nil) (by rw [hfit]; rfl) (Splits.of [0] (by as_aux_lemma => kernel_rfl) rfl)
    ·
     -- no
     have h34 := beq_eq_false_iff_ne.1 h34
     refine TC.seq (TC.region (TO.bin rfl (by decide) rfl rfl bin_eql (TO.assign rfl (by decide) rfl (TO.nil (TX.next ?_)))))
     refine TC.condB rfl (fun h38 => ?_) (fun h38 => ?_)
     ·
      -- yes
      have h38 := beq_iff_eq.1 h38
      refine TC.seq (TC.region (TO.move rfl (by decide) rfl (TO.bin rfl (by decide) rfl rfl bin_eql (TO.nil (TX.next ?_)))))
      refine TC.condB rfl (fun h39 => ?_) (fun h39 => ?_)
      ·
       -- yes
       have h39 := beq_iff_eq.1 h39
       refine TC.seq (TC.region (TO.assign rfl (by decide) rfl (TO.nil (TX.next (TC.ret (TX.blockRet (TX.thenRet ?_)))))))
       have hfit : fits s.st u = (s.st, 1) := by unfold fits; simp_all <;> omega
       have hB : [.int .i64 s.st, .int .i64 s.tk.k, .int .i64 (s.tk.f : Int), .int .i64 (s.tk.t : Int), .int .i64 s.h.k, .int .i32 (s.h.r : Int), .int .i64 (s.h.f : Int), .int .i64 (s.h.t : Int), .bool s.h.al] = scV (fitted s u) := by unfold fitted; rw [hfit]; rfl
       refine TX.rewE (k := 0) rfl (show cells b [.int .i64 s.st, .int .i64 s.tk.k, .int .i64 (s.tk.f : Int), .int .i64 (s.tk.t : Int), .int .i64 s.h.k, .int .i32 (s.h.r : Int), .int .i64 (s.h.f : Int), .int .i64 (s.h.t : Int), .bool s.h.al] 152 = cells b (scV (fitted s u)) 152 from (congrArg (fun z => cells b z 152) hB)) ?_
       show TX _ _ _ _ _ _ _ [cells b (scV (fitted s u)) 152, cells b1 [.int .i64 u.k, .int .i32 (u.r : Int), .int .i64 (u.f : Int), .int .i64 (u.t : Int), .bool u.al] 150]
       exact TX.fin (rs := [.tmp 4]) () (.inl rfl) Tryd.results88 (.cons (.tmp rfl) .nil) (by rw [hfit]; rfl) (Splits.of [0] (by as_aux_lemma => kernel_rfl) rfl)
      ·
       -- no
       have h39 := beq_eq_false_iff_ne.1 h39
       refine TC.skip (TX.blockNormal (TX.next (TC.seq (TC.region (TO.assign rfl (by decide) rfl (TO.nil (TX.next (TC.ret ?_))))))))
       have hfit : fits s.st u = (s.st, 0) := by unfold fits; simp_all <;> omega
       have hB : [.int .i64 s.st, .int .i64 s.tk.k, .int .i64 (s.tk.f : Int), .int .i64 (s.tk.t : Int), .int .i64 s.h.k, .int .i32 (s.h.r : Int), .int .i64 (s.h.f : Int), .int .i64 (s.h.t : Int), .bool s.h.al] = scV (fitted s u) := by unfold fitted; rw [hfit]; rfl
       refine TX.rewE (k := 0) rfl (show cells b [.int .i64 s.st, .int .i64 s.tk.k, .int .i64 (s.tk.f : Int), .int .i64 (s.tk.t : Int), .int .i64 s.h.k, .int .i32 (s.h.r : Int), .int .i64 (s.h.f : Int), .int .i64 (s.h.t : Int), .bool s.h.al] 152 = cells b (scV (fitted s u)) 152 from (congrArg (fun z => cells b z 152) hB)) ?_
       show TX _ _ _ _ _ _ _ [cells b (scV (fitted s u)) 152, cells b1 [.int .i64 u.k, .int .i32 (u.r : Int), .int .i64 (u.f : Int), .int .i64 (u.t : Int), .bool u.al] 150]
       exact TX.fin (rs := [.tmp 4]) () (.inl rfl) Tryd.results88 (.cons (.tmp rfl) .nil) (by rw [hfit]; rfl) (Splits.of [0] (by as_aux_lemma => kernel_rfl) rfl)
     ·
      -- no
      have h38 := beq_eq_false_iff_ne.1 h38
      refine TC.seq (TC.region (TO.bin rfl (by decide) rfl rfl bin_eql (TO.assign rfl (by decide) rfl (TO.nil (TX.next ?_)))))
      refine TC.condB rfl (fun h40 => ?_) (fun h40 => ?_)
      ·
       -- yes
       have h40 := beq_iff_eq.1 h40
       refine TC.seq (TC.region (TO.move rfl (by decide) rfl (TO.bin rfl (by decide) rfl rfl bin_eql (TO.nil (TX.next ?_)))))
       refine TC.condB rfl (fun h41 => ?_) (fun h41 => ?_)
       ·
        -- yes
        have h41 := beq_iff_eq.1 h41
        refine TC.seq (TC.region (TO.assign rfl (by decide) rfl (TO.nil (TX.next (TC.ret (TX.blockRet (TX.thenRet ?_)))))))
        have hfit : fits s.st u = (s.st, 1) := by unfold fits; simp_all <;> omega
        have hB : [.int .i64 s.st, .int .i64 s.tk.k, .int .i64 (s.tk.f : Int), .int .i64 (s.tk.t : Int), .int .i64 s.h.k, .int .i32 (s.h.r : Int), .int .i64 (s.h.f : Int), .int .i64 (s.h.t : Int), .bool s.h.al] = scV (fitted s u) := by unfold fitted; rw [hfit]; rfl
        refine TX.rewE (k := 0) rfl (show cells b [.int .i64 s.st, .int .i64 s.tk.k, .int .i64 (s.tk.f : Int), .int .i64 (s.tk.t : Int), .int .i64 s.h.k, .int .i32 (s.h.r : Int), .int .i64 (s.h.f : Int), .int .i64 (s.h.t : Int), .bool s.h.al] 152 = cells b (scV (fitted s u)) 152 from (congrArg (fun z => cells b z 152) hB)) ?_
        show TX _ _ _ _ _ _ _ [cells b (scV (fitted s u)) 152, cells b1 [.int .i64 u.k, .int .i32 (u.r : Int), .int .i64 (u.f : Int), .int .i64 (u.t : Int), .bool u.al] 150]
        exact TX.fin (rs := [.tmp 4]) () (.inl rfl) Tryd.results88 (.cons (.tmp rfl) .nil) (by rw [hfit]; rfl) (Splits.of [0] (by as_aux_lemma => kernel_rfl) rfl)
       ·
        -- no
        have h41 := beq_eq_false_iff_ne.1 h41
        refine TC.skip (TX.blockNormal (TX.next (TC.seq (TC.region (TO.assign rfl (by decide) rfl (TO.nil (TX.next (TC.ret ?_))))))))
        have hfit : fits s.st u = (s.st, 0) := by unfold fits; simp_all <;> omega
        have hB : [.int .i64 s.st, .int .i64 s.tk.k, .int .i64 (s.tk.f : Int), .int .i64 (s.tk.t : Int), .int .i64 s.h.k, .int .i32 (s.h.r : Int), .int .i64 (s.h.f : Int), .int .i64 (s.h.t : Int), .bool s.h.al] = scV (fitted s u) := by unfold fitted; rw [hfit]; rfl
        refine TX.rewE (k := 0) rfl (show cells b [.int .i64 s.st, .int .i64 s.tk.k, .int .i64 (s.tk.f : Int), .int .i64 (s.tk.t : Int), .int .i64 s.h.k, .int .i32 (s.h.r : Int), .int .i64 (s.h.f : Int), .int .i64 (s.h.t : Int), .bool s.h.al] 152 = cells b (scV (fitted s u)) 152 from (congrArg (fun z => cells b z 152) hB)) ?_
        show TX _ _ _ _ _ _ _ [cells b (scV (fitted s u)) 152, cells b1 [.int .i64 u.k, .int .i32 (u.r : Int), .int .i64 (u.f : Int), .int .i64 (u.t : Int), .bool u.al] 150]
        exact TX.fin (rs := [.tmp 4]) () (.inl rfl) Tryd.results88 (.cons (.tmp rfl) .nil) (by rw [hfit]; rfl) (Splits.of [0] (by as_aux_lemma => kernel_rfl) rfl)
      ·
       -- no
       have h40 := beq_eq_false_iff_ne.1 h40
       refine TC.seq (TC.region (TO.bin rfl (by decide) rfl rfl bin_eql (TO.assign rfl (by decide) rfl (TO.nil (TX.next ?_)))))
       refine TC.condB rfl (fun h42 => ?_) (fun h42 => ?_)
       ·
        -- yes
        have h42 := beq_iff_eq.1 h42
        refine TC.seq (TC.region (TO.move rfl (by decide) rfl (TO.bin rfl (by decide) rfl rfl bin_eql (TO.move rfl (by decide) rfl ?_))))
        refine TO.split (s := 72) rfl (fun h43 => ?_) (fun h43 => ?_)
        ·
         -- yes
         have h43 := beq_iff_eq.1 h43
         refine TO.fieldAddr fl_150_1 rfl (by decide) rfl (show _ = 1 from rfl) (TO.load (k := 1) sc_21 rfl (by decide) rfl rfl rfl (TO.bin rfl (by decide) rfl rfl bin_eql (TO.pick (b := true) rfl (by decide) rfl rfl (TO.nil (TX.next ?_)))))
         refine TC.condB rfl (fun h44 => ?_) (fun h44 => ?_)
         ·
          -- yes
          have h44 := beq_iff_eq.1 h44
          refine TC.seq (TC.region (TO.move rfl (by decide) rfl (TO.nilCheck rfl (by decide) rfl (TO.fieldAddr fl_152_0 rfl (by decide) rfl (show _ = 0 from rfl) ?_))))
          refine TO.store (k := 0) (l' := [.int .i64 7, .int .i64 s.tk.k, .int .i64 (s.tk.f : Int), .int .i64 (s.tk.t : Int), .int .i64 s.h.k, .int .i32 (s.h.r : Int), .int .i64 (s.h.f : Int), .int .i64 (s.h.t : Int), .bool s.h.al]) sz_3 rfl rfl rfl rfl rfl (fun _ _ => rfl) rfl ?_
          refine TO.nil (TX.next (TC.seq (TC.region (TO.assign rfl (by decide) rfl (TO.nil (TX.next (TC.ret (TX.blockRet (TX.thenRet ?_)))))))))
          have hfit : fits s.st u = (7, 1) := by unfold fits; simp_all <;> omega
          have hB : [.int .i64 7, .int .i64 s.tk.k, .int .i64 (s.tk.f : Int), .int .i64 (s.tk.t : Int), .int .i64 s.h.k, .int .i32 (s.h.r : Int), .int .i64 (s.h.f : Int), .int .i64 (s.h.t : Int), .bool s.h.al] = scV (fitted s u) := by unfold fitted; rw [hfit]; rfl
          refine TX.rewE (k := 0) rfl (show cells b [.int .i64 7, .int .i64 s.tk.k, .int .i64 (s.tk.f : Int), .int .i64 (s.tk.t : Int), .int .i64 s.h.k, .int .i32 (s.h.r : Int), .int .i64 (s.h.f : Int), .int .i64 (s.h.t : Int), .bool s.h.al] 152 = cells b (scV (fitted s u)) 152 from (congrArg (fun z => cells b z 152) hB)) ?_
          show TX _ _ _ _ _ _ _ [cells b (scV (fitted s u)) 152, cells b1 [.int .i64 u.k, .int .i32 (u.r : Int), .int .i64 (u.f : Int), .int .i64 (u.t : Int), .bool u.al] 150]
          exact TX.fin (rs := [.tmp 4]) () (.inl rfl) Tryd.results88 (.cons (.tmp rfl) .nil) (by rw [hfit]; rfl) (Splits.of [0] (by as_aux_lemma => kernel_rfl) rfl)
         ·
          -- no
          have h44 := beq_eq_false_iff_ne.1 h44
          refine TC.skip (TX.blockNormal (TX.next (TC.seq (TC.region (TO.assign rfl (by decide) rfl (TO.nil (TX.next (TC.ret ?_))))))))
          have hfit : fits s.st u = (s.st, 0) := by unfold fits; simp_all <;> omega
          have hB : [.int .i64 s.st, .int .i64 s.tk.k, .int .i64 (s.tk.f : Int), .int .i64 (s.tk.t : Int), .int .i64 s.h.k, .int .i32 (s.h.r : Int), .int .i64 (s.h.f : Int), .int .i64 (s.h.t : Int), .bool s.h.al] = scV (fitted s u) := by unfold fitted; rw [hfit]; rfl
          refine TX.rewE (k := 0) rfl (show cells b [.int .i64 s.st, .int .i64 s.tk.k, .int .i64 (s.tk.f : Int), .int .i64 (s.tk.t : Int), .int .i64 s.h.k, .int .i32 (s.h.r : Int), .int .i64 (s.h.f : Int), .int .i64 (s.h.t : Int), .bool s.h.al] 152 = cells b (scV (fitted s u)) 152 from (congrArg (fun z => cells b z 152) hB)) ?_
          show TX _ _ _ _ _ _ _ [cells b (scV (fitted s u)) 152, cells b1 [.int .i64 u.k, .int .i32 (u.r : Int), .int .i64 (u.f : Int), .int .i64 (u.t : Int), .bool u.al] 150]
          exact TX.fin (rs := [.tmp 4]) () (.inl rfl) Tryd.results88 (.cons (.tmp rfl) .nil) (by rw [hfit]; rfl) (Splits.of [0] (by as_aux_lemma => kernel_rfl) rfl)
        ·
         -- no
         have h43 := beq_eq_false_iff_ne.1 h43
         refine TO.skip rfl (by decide) (TO.skip rfl (by decide) (TO.skip rfl (by decide) (TO.pick (b := false) rfl (by decide) rfl rfl (TO.nil (TX.next (TC.condF rfl (TC.skip (TX.blockNormal (TX.next (TC.seq (TC.region (TO.assign rfl (by decide) rfl (TO.nil ?_)))))))))))))
         refine TX.next (TC.ret ?_)
         have hfit : fits s.st u = (s.st, 0) := by unfold fits; simp_all <;> omega
         have hB : [.int .i64 s.st, .int .i64 s.tk.k, .int .i64 (s.tk.f : Int), .int .i64 (s.tk.t : Int), .int .i64 s.h.k, .int .i32 (s.h.r : Int), .int .i64 (s.h.f : Int), .int .i64 (s.h.t : Int), .bool s.h.al] = scV (fitted s u) := by unfold fitted; rw [hfit]; rfl
         refine TX.rewE (k := 0) rfl (show cells b [.int .i64 s.st, .int .i64 s.tk.k, .int .i64 (s.tk.f : Int), .int .i64 (s.tk.t : Int), .int .i64 s.h.k, .int .i32 (s.h.r : Int), .int .i64 (s.h.f : Int), .int .i64 (s.h.t : Int), .bool s.h.al] 152 = cells b (scV (fitted s u)) 152 from (congrArg (fun z => cells b z 152) hB)) ?_
         show TX _ _ _ _ _ _ _ [cells b (scV (fitted s u)) 152, cells b1 [.int .i64 u.k, .int .i32 (u.r : Int), .int .i64 (u.f : Int), .int .i64 (u.t : Int), .bool u.al] 150]
         exact TX.fin (rs := [.tmp 4]) () (.inl rfl) Tryd.results88 (.cons (.tmp rfl) .nil) (by rw [hfit]; rfl) (Splits.of [0] (by as_aux_lemma => kernel_rfl) rfl)
       ·
        -- no
        have h42 := beq_eq_false_iff_ne.1 h42
        refine TC.skip (TX.blockNormal (TX.next (TC.seq (TC.region (TO.assign rfl (by decide) rfl (TO.nil (TX.next (TC.ret ?_))))))))
        have hfit : fits s.st u = (s.st, 0) := by unfold fits; simp_all <;> omega
        have hB : [.int .i64 s.st, .int .i64 s.tk.k, .int .i64 (s.tk.f : Int), .int .i64 (s.tk.t : Int), .int .i64 s.h.k, .int .i32 (s.h.r : Int), .int .i64 (s.h.f : Int), .int .i64 (s.h.t : Int), .bool s.h.al] = scV (fitted s u) := by unfold fitted; rw [hfit]; rfl
        refine TX.rewE (k := 0) rfl (show cells b [.int .i64 s.st, .int .i64 s.tk.k, .int .i64 (s.tk.f : Int), .int .i64 (s.tk.t : Int), .int .i64 s.h.k, .int .i32 (s.h.r : Int), .int .i64 (s.h.f : Int), .int .i64 (s.h.t : Int), .bool s.h.al] 152 = cells b (scV (fitted s u)) 152 from (congrArg (fun z => cells b z 152) hB)) ?_
        show TX _ _ _ _ _ _ _ [cells b (scV (fitted s u)) 152, cells b1 [.int .i64 u.k, .int .i32 (u.r : Int), .int .i64 (u.f : Int), .int .i64 (u.t : Int), .bool u.al] 150]
        exact TX.fin (rs := [.tmp 4]) () (.inl rfl) Tryd.results88 (.cons (.tmp rfl) .nil) (by rw [hfit]; rfl) (Splits.of [0] (by as_aux_lemma => kernel_rfl) rfl)
   ·
    -- no
    have h33 := beq_eq_false_iff_ne.1 h33
    refine TC.region (TO.bin rfl (by decide) rfl rfl bin_eql (TO.assign rfl (by decide) rfl (TO.nil (TX.next ?_))))
    refine TC.condB rfl (fun h45 => ?_) (fun h45 => ?_)
    ·
     -- yes
     have h45 := beq_iff_eq.1 h45
     refine TC.seq (TC.seq (TC.region (TO.move rfl (by decide) rfl (TO.bin rfl (by decide) rfl rfl bin_eql (TO.nil (TX.next ?_))))))
     refine TC.condB rfl (fun h46 => ?_) (fun h46 => ?_)
     ·
      -- yes
      have h46 := beq_iff_eq.1 h46
      refine TC.seq (TC.region (TO.move rfl (by decide) rfl (TO.nilCheck rfl (by decide) rfl (TO.fieldAddr fl_152_0 rfl (by decide) rfl (show _ = 0 from rfl) ?_))))
      refine TO.store (k := 0) (l' := [.int .i64 3, .int .i64 s.tk.k, .int .i64 (s.tk.f : Int), .int .i64 (s.tk.t : Int), .int .i64 s.h.k, .int .i32 (s.h.r : Int), .int .i64 (s.h.f : Int), .int .i64 (s.h.t : Int), .bool s.h.al]) sz_3 rfl rfl rfl rfl rfl (fun _ _ => rfl) rfl ?_
      refine TO.nil (TX.next (TC.seq (TC.region (TO.assign rfl (by decide) rfl (TO.nil (TX.next (TC.ret (TX.thenRet (TX.blockRet (TX.thenRet ?_))))))))))
      have hfit : fits s.st u = (3, 1) := by unfold fits; simp_all <;> omega
      have hB : [.int .i64 3, .int .i64 s.tk.k, .int .i64 (s.tk.f : Int), .int .i64 (s.tk.t : Int), .int .i64 s.h.k, .int .i32 (s.h.r : Int), .int .i64 (s.h.f : Int), .int .i64 (s.h.t : Int), .bool s.h.al] = scV (fitted s u) := by unfold fitted; rw [hfit]; rfl
      refine TX.rewE (k := 0) rfl (show cells b [.int .i64 3, .int .i64 s.tk.k, .int .i64 (s.tk.f : Int), .int .i64 (s.tk.t : Int), .int .i64 s.h.k, .int .i32 (s.h.r : Int), .int .i64 (s.h.f : Int), .int .i64 (s.h.t : Int), .bool s.h.al] 152 = cells b (scV (fitted s u)) 152 from (congrArg (fun z => cells b z 152) hB)) ?_
      show TX _ _ _ _ _ _ _ [cells b (scV (fitted s u)) 152, cells b1 [.int .i64 u.k, .int .i32 (u.r : Int), .int .i64 (u.f : Int), .int .i64 (u.t : Int), .bool u.al] 150]
      exact TX.fin (rs := [.tmp 4]) () (.inl rfl) Tryd.results88 (.cons (.tmp rfl) .nil) (by rw [hfit]; rfl) (Splits.of [0] (by as_aux_lemma => kernel_rfl) rfl)
     ·
      -- no
      have h46 := beq_eq_false_iff_ne.1 h46
      refine TC.skip (TX.next (TC.seq (TC.region (TO.move rfl (by decide) rfl (TO.nilCheck rfl (by decide) rfl (TO.fieldAddr fl_152_0 rfl (by decide) rfl (show _ = 0 from rfl) (TO.load (k := 0) sc_3 rfl (by decide) rfl rfl rfl (TO.bin rfl (by decide) rfl rfl bin_eql (TO.move rfl (by decide) rfl ?_)))))))))
      refine TO.split (s := 49) rfl (fun h47 => ?_) (fun h47 => ?_)
      ·
       -- yes
       have h47 := beq_iff_eq.1 h47
       refine TO.loads (k := 1) (cs := [.int .i64 u.k, .int .i32 (u.r : Int), .int .i64 (u.f : Int), .int .i64 (u.t : Int), .bool u.al]) rw_150 rfl (by decide) rfl rfl rfl rfl (TO.callP (v := .bool (dot u)) (vs := [.agg #[.int .i64 u.k, .int .i32 (u.r : Int), .int .i64 (u.f : Int), .int .i64 (u.t : Int), .bool u.al]]) rfl (by decide) rfl rfl rfl en_108 (dot_p u) (TO.pick (b := true) rfl (by decide) rfl rfl (TO.nil (TX.next ?_))))
       refine TC.condB rfl (fun h48 => ?_) (fun h48 => ?_)
       ·
        -- yes
        refine TC.seq ?_
        refine TC.drawB (β := Unit) 6 5 _ [(0, 53, .pointer (some ⟨b, 0, none⟩)), (1, 54, .pointer (some ⟨b, 0, none⟩)), (2, 55, .agg #[.int .i64 u.k, .int .i32 (u.r : Int), .int .i64 (u.f : Int), .int .i64 (u.t : Int), .bool u.al]), (3, 56, .pointer (some ⟨b, 0, none⟩)), (4, 57, .pointer (some ⟨b, 0, none⟩))] (fun _b => []) (fun _b => [cells b [.int .i64 4, .int .i64 s.tk.k, .int .i64 (s.tk.f : Int), .int .i64 (s.tk.t : Int), .int .i64 s.h.k, .int .i32 (s.h.r : Int), .int .i64 (s.h.f : Int), .int .i64 (s.h.t : Int), .bool s.h.al] 152, cells b1 [.int .i64 u.k, .int .i32 (u.r : Int), .int .i64 (u.f : Int), .int .i64 (u.t : Int), .bool u.al] 150]) mixed (by as_aux_lemma => kernel_rfl) (by as_aux_lemma => kernel_rfl) rfl (by decide) (by decide) (by rfl) (by as_aux_lemma => kernel_rfl) (by as_aux_lemma => kernel_rfl) (DrawPreX.cons ?_ (DrawPreX.cons ?_ (DrawPreX.cons ?_ (DrawPreX.cons ?_ (DrawPreX.cons ?_ (DrawPreX.here DrawPreX.nil)))))) (fun _b => (DrawPreX.cons ?_ (DrawPreX.cons ?_ (DrawPreX.cons ?_ (DrawPreX.cons ?_ (DrawPreX.cons ?_ (DrawPreX.here DrawPreX.nil))))))) ?_ ?_
        ·
         intro D hn hd hcl hu hi
         refine TO.move rfl (by decide) (dl_old (by rfl) rfl) ?_
         exact TX.quiet 0 hu hi rfl
        ·
         intro D hn hd hcl hu hi
         refine TO.move rfl (by decide) (dl_old (by rfl) rfl) ?_
         exact TX.quiet 1 hu hi rfl
        ·
         intro D hn hd hcl hu hi
         refine TO.loads (k := 1) (cs := [.int .i64 u.k, .int .i32 (u.r : Int), .int .i64 (u.f : Int), .int .i64 (u.t : Int), .bool u.al]) rw_150 rfl (by decide) (dl_old (by rfl) rfl) rfl rfl rfl ?_
         exact TX.quiet 2 hu hi rfl
        ·
         intro D hn hd hcl hu hi
         refine TO.nilCheck rfl (by decide) (dl_lookup (m := 0) hu rfl (hd 0 (by decide))) ?_
         exact TX.quiet 3 hu hi rfl
        ·
         intro D hn hd hcl hu hi
         refine TO.fieldAddr fl_152_0 rfl (by decide) (dl_lookup (m := 3) hu rfl (hd 3 (by decide))) (show _ = 0 from rfl) ?_
         exact TX.quiet 4 hu hi rfl
        ·
         intro D hn hd hcl hu hi
         refine TO.move rfl (by decide) (dl_old (by rfl) rfl) ?_
         exact TX.quiet 0 hu hi rfl
        ·
         intro D hn hd hcl hu hi
         refine TO.move rfl (by decide) (dl_old (by rfl) rfl) ?_
         exact TX.quiet 1 hu hi rfl
        ·
         intro D hn hd hcl hu hi
         refine TO.loads (k := 1) (cs := [.int .i64 u.k, .int .i32 (u.r : Int), .int .i64 (u.f : Int), .int .i64 (u.t : Int), .bool u.al]) rw_150 rfl (by decide) (dl_old (by rfl) rfl) rfl rfl rfl ?_
         exact TX.quiet 2 hu hi rfl
        ·
         intro D hn hd hcl hu hi
         refine TO.nilCheck rfl (by decide) (dl_lookup (m := 0) hu rfl (hd 0 (by decide))) ?_
         exact TX.quiet 3 hu hi rfl
        ·
         intro D hn hd hcl hu hi
         refine TO.fieldAddr fl_152_0 rfl (by decide) (dl_lookup (m := 3) hu rfl (hd 3 (by decide))) (show _ = 0 from rfl) ?_
         exact TX.quiet 4 hu hi rfl
        ·
         intro D hn hd hcl
         refine TO.store (k := 0) (l' := [.int .i64 4, .int .i64 s.tk.k, .int .i64 (s.tk.f : Int), .int .i64 (s.tk.t : Int), .int .i64 s.h.k, .int .i32 (s.h.r : Int), .int .i64 (s.h.f : Int), .int .i64 (s.h.t : Int), .bool s.h.al]) sz_3 rfl (dl_lookup (m := 4) (by as_aux_lemma => kernel_rfl) rfl (hd 4 (by decide))) rfl rfl rfl (fun _ _ => rfl) rfl ?_
         exact fun a w ha hw => ⟨(), ha, hw⟩
        intro _b
        show TO _ _ _ _ _ _ _ _ _ _ [cells b [.int .i64 4, .int .i64 s.tk.k, .int .i64 (s.tk.f : Int), .int .i64 (s.tk.t : Int), .int .i64 s.h.k, .int .i32 (s.h.r : Int), .int .i64 (s.h.f : Int), .int .i64 (s.h.t : Int), .bool s.h.al] 152, cells b1 [.int .i64 u.k, .int .i32 (u.r : Int), .int .i64 (u.f : Int), .int .i64 (u.t : Int), .bool u.al] 150]
        refine TO.nilCheck rfl (by decide) rfl (TO.fieldAddr fl_152_2 rfl (by decide) rfl (show _ = 4 from rfl) (TO.stores (k := 0) (vs := [.int .i64 u.k, .int .i32 (u.r : Int), .int .i64 (u.f : Int), .int .i64 (u.t : Int), .bool u.al]) (l' := [.int .i64 4, .int .i64 s.tk.k, .int .i64 (s.tk.f : Int), .int .i64 (s.tk.t : Int), .int .i64 u.k, .int .i32 (u.r : Int), .int .i64 (u.f : Int), .int .i64 (u.t : Int), .bool u.al]) sz_150 rfl rfl rfl rfl rfl (show _ ≤ _ by simp) rfl rfl (TO.nil (TX.next (TC.seq (TC.region (TO.assign rfl (by decide) rfl (TO.nil (TX.next (TC.ret (TX.blockRet (TX.thenRet ?_))))))))))))
        have hfit : fits s.st u = (4, 2) := by unfold fits; simp_all <;> omega
        have hB : [.int .i64 4, .int .i64 s.tk.k, .int .i64 (s.tk.f : Int), .int .i64 (s.tk.t : Int), .int .i64 u.k, .int .i32 (u.r : Int), .int .i64 (u.f : Int), .int .i64 (u.t : Int), .bool u.al] = scV (fitted s u) := by unfold fitted; rw [hfit]; rfl
        refine TX.rewE (k := 0) rfl (show cells b [.int .i64 4, .int .i64 s.tk.k, .int .i64 (s.tk.f : Int), .int .i64 (s.tk.t : Int), .int .i64 u.k, .int .i32 (u.r : Int), .int .i64 (u.f : Int), .int .i64 (u.t : Int), .bool u.al] 152 = cells b (scV (fitted s u)) 152 from (congrArg (fun z => cells b z 152) hB)) ?_
        show TX _ _ _ _ _ _ _ [cells b (scV (fitted s u)) 152, cells b1 [.int .i64 u.k, .int .i32 (u.r : Int), .int .i64 (u.f : Int), .int .i64 (u.t : Int), .bool u.al] 150]
        exact TX.fin (rs := [.tmp 4]) () (.inl rfl) Tryd.results88 (.cons (.tmp rfl) .nil) (by rw [hfit]; rfl) (Splits.of [0] (by as_aux_lemma => kernel_rfl) rfl)
       ·
        -- no
        refine TC.skip (TX.blockNormal (TX.next (TC.seq (TC.region (TO.assign rfl (by decide) rfl (TO.nil (TX.next (TC.ret ?_))))))))
        have hfit : fits s.st u = (s.st, 0) := by unfold fits; simp_all <;> omega
        have hB : [.int .i64 s.st, .int .i64 s.tk.k, .int .i64 (s.tk.f : Int), .int .i64 (s.tk.t : Int), .int .i64 s.h.k, .int .i32 (s.h.r : Int), .int .i64 (s.h.f : Int), .int .i64 (s.h.t : Int), .bool s.h.al] = scV (fitted s u) := by unfold fitted; rw [hfit]; rfl
        refine TX.rewE (k := 0) rfl (show cells b [.int .i64 s.st, .int .i64 s.tk.k, .int .i64 (s.tk.f : Int), .int .i64 (s.tk.t : Int), .int .i64 s.h.k, .int .i32 (s.h.r : Int), .int .i64 (s.h.f : Int), .int .i64 (s.h.t : Int), .bool s.h.al] 152 = cells b (scV (fitted s u)) 152 from (congrArg (fun z => cells b z 152) hB)) ?_
        show TX _ _ _ _ _ _ _ [cells b (scV (fitted s u)) 152, cells b1 [.int .i64 u.k, .int .i32 (u.r : Int), .int .i64 (u.f : Int), .int .i64 (u.t : Int), .bool u.al] 150]
        exact TX.fin (rs := [.tmp 4]) () (.inl rfl) Tryd.results88 (.cons (.tmp rfl) .nil) (by rw [hfit]; rfl) (Splits.of [0] (by as_aux_lemma => kernel_rfl) rfl)
      ·
       -- no
       have h47 := beq_eq_false_iff_ne.1 h47
       refine TO.skip rfl (by decide) (TO.skip rfl (by decide) (TO.pick (b := false) rfl (by decide) rfl rfl (TO.nil (TX.next (TC.condF rfl (TC.skip (TX.blockNormal (TX.next (TC.seq (TC.region (TO.assign rfl (by decide) rfl (TO.nil (TX.next ?_)))))))))))))
       refine TC.ret ?_
       have hfit : fits s.st u = (s.st, 0) := by unfold fits; simp_all <;> omega
       have hB : [.int .i64 s.st, .int .i64 s.tk.k, .int .i64 (s.tk.f : Int), .int .i64 (s.tk.t : Int), .int .i64 s.h.k, .int .i32 (s.h.r : Int), .int .i64 (s.h.f : Int), .int .i64 (s.h.t : Int), .bool s.h.al] = scV (fitted s u) := by unfold fitted; rw [hfit]; rfl
       refine TX.rewE (k := 0) rfl (show cells b [.int .i64 s.st, .int .i64 s.tk.k, .int .i64 (s.tk.f : Int), .int .i64 (s.tk.t : Int), .int .i64 s.h.k, .int .i32 (s.h.r : Int), .int .i64 (s.h.f : Int), .int .i64 (s.h.t : Int), .bool s.h.al] 152 = cells b (scV (fitted s u)) 152 from (congrArg (fun z => cells b z 152) hB)) ?_
       show TX _ _ _ _ _ _ _ [cells b (scV (fitted s u)) 152, cells b1 [.int .i64 u.k, .int .i32 (u.r : Int), .int .i64 (u.f : Int), .int .i64 (u.t : Int), .bool u.al] 150]
       exact TX.fin (rs := [.tmp 4]) () (.inl rfl) Tryd.results88 (.cons (.tmp rfl) .nil) (by rw [hfit]; rfl) (Splits.of [0] (by as_aux_lemma => kernel_rfl) rfl)
    ·
     -- no
     have h45 := beq_eq_false_iff_ne.1 h45
     refine TC.seq (TC.region (TO.bin rfl (by decide) rfl rfl bin_eql (TO.assign rfl (by decide) rfl (TO.nil (TX.next ?_)))))
     refine TC.condB rfl (fun h49 => ?_) (fun h49 => ?_)
     ·
      -- yes
      have h49 := beq_iff_eq.1 h49
      refine TC.seq (TC.region (TO.move rfl (by decide) rfl (TO.bin rfl (by decide) rfl rfl bin_eql (TO.nil (TX.next ?_)))))
      refine TC.condB rfl (fun h50 => ?_) (fun h50 => ?_)
      ·
       -- yes
       have h50 := beq_iff_eq.1 h50
       refine TC.seq (TC.region (TO.assign rfl (by decide) rfl (TO.nil (TX.next (TC.ret (TX.blockRet (TX.thenRet ?_)))))))
       have hfit : fits s.st u = (s.st, 1) := by unfold fits; simp_all <;> omega
       have hB : [.int .i64 s.st, .int .i64 s.tk.k, .int .i64 (s.tk.f : Int), .int .i64 (s.tk.t : Int), .int .i64 s.h.k, .int .i32 (s.h.r : Int), .int .i64 (s.h.f : Int), .int .i64 (s.h.t : Int), .bool s.h.al] = scV (fitted s u) := by unfold fitted; rw [hfit]; rfl
       refine TX.rewE (k := 0) rfl (show cells b [.int .i64 s.st, .int .i64 s.tk.k, .int .i64 (s.tk.f : Int), .int .i64 (s.tk.t : Int), .int .i64 s.h.k, .int .i32 (s.h.r : Int), .int .i64 (s.h.f : Int), .int .i64 (s.h.t : Int), .bool s.h.al] 152 = cells b (scV (fitted s u)) 152 from (congrArg (fun z => cells b z 152) hB)) ?_
       show TX _ _ _ _ _ _ _ [cells b (scV (fitted s u)) 152, cells b1 [.int .i64 u.k, .int .i32 (u.r : Int), .int .i64 (u.f : Int), .int .i64 (u.t : Int), .bool u.al] 150]
       exact TX.fin (rs := [.tmp 4]) () (.inl rfl) Tryd.results88 (.cons (.tmp rfl) .nil) (by rw [hfit]; rfl) (Splits.of [0] (by as_aux_lemma => kernel_rfl) rfl)
      ·
       -- no
       have h50 := beq_eq_false_iff_ne.1 h50
       refine TC.skip (TX.blockNormal (TX.next (TC.seq (TC.region (TO.assign rfl (by decide) rfl (TO.nil (TX.next (TC.ret ?_))))))))
       have hfit : fits s.st u = (s.st, 0) := by unfold fits; simp_all <;> omega
       have hB : [.int .i64 s.st, .int .i64 s.tk.k, .int .i64 (s.tk.f : Int), .int .i64 (s.tk.t : Int), .int .i64 s.h.k, .int .i32 (s.h.r : Int), .int .i64 (s.h.f : Int), .int .i64 (s.h.t : Int), .bool s.h.al] = scV (fitted s u) := by unfold fitted; rw [hfit]; rfl
       refine TX.rewE (k := 0) rfl (show cells b [.int .i64 s.st, .int .i64 s.tk.k, .int .i64 (s.tk.f : Int), .int .i64 (s.tk.t : Int), .int .i64 s.h.k, .int .i32 (s.h.r : Int), .int .i64 (s.h.f : Int), .int .i64 (s.h.t : Int), .bool s.h.al] 152 = cells b (scV (fitted s u)) 152 from (congrArg (fun z => cells b z 152) hB)) ?_
       show TX _ _ _ _ _ _ _ [cells b (scV (fitted s u)) 152, cells b1 [.int .i64 u.k, .int .i32 (u.r : Int), .int .i64 (u.f : Int), .int .i64 (u.t : Int), .bool u.al] 150]
       exact TX.fin (rs := [.tmp 4]) () (.inl rfl) Tryd.results88 (.cons (.tmp rfl) .nil) (by rw [hfit]; rfl) (Splits.of [0] (by as_aux_lemma => kernel_rfl) rfl)
     ·
      -- no
      have h49 := beq_eq_false_iff_ne.1 h49
      refine TC.seq (TC.region (TO.bin rfl (by decide) rfl rfl bin_eql (TO.assign rfl (by decide) rfl (TO.nil (TX.next ?_)))))
      refine TC.condB rfl (fun h51 => ?_) (fun h51 => ?_)
      ·
       -- yes
       have h51 := beq_iff_eq.1 h51
       refine TC.seq (TC.region (TO.move rfl (by decide) rfl (TO.bin rfl (by decide) rfl rfl bin_eql (TO.nil (TX.next ?_)))))
       refine TC.condB rfl (fun h52 => ?_) (fun h52 => ?_)
       ·
        -- yes
        have h52 := beq_iff_eq.1 h52
        refine TC.seq (TC.region (TO.assign rfl (by decide) rfl (TO.nil (TX.next (TC.ret (TX.blockRet (TX.thenRet ?_)))))))
        have hfit : fits s.st u = (s.st, 1) := by unfold fits; simp_all <;> omega
        have hB : [.int .i64 s.st, .int .i64 s.tk.k, .int .i64 (s.tk.f : Int), .int .i64 (s.tk.t : Int), .int .i64 s.h.k, .int .i32 (s.h.r : Int), .int .i64 (s.h.f : Int), .int .i64 (s.h.t : Int), .bool s.h.al] = scV (fitted s u) := by unfold fitted; rw [hfit]; rfl
        refine TX.rewE (k := 0) rfl (show cells b [.int .i64 s.st, .int .i64 s.tk.k, .int .i64 (s.tk.f : Int), .int .i64 (s.tk.t : Int), .int .i64 s.h.k, .int .i32 (s.h.r : Int), .int .i64 (s.h.f : Int), .int .i64 (s.h.t : Int), .bool s.h.al] 152 = cells b (scV (fitted s u)) 152 from (congrArg (fun z => cells b z 152) hB)) ?_
        show TX _ _ _ _ _ _ _ [cells b (scV (fitted s u)) 152, cells b1 [.int .i64 u.k, .int .i32 (u.r : Int), .int .i64 (u.f : Int), .int .i64 (u.t : Int), .bool u.al] 150]
        exact TX.fin (rs := [.tmp 4]) () (.inl rfl) Tryd.results88 (.cons (.tmp rfl) .nil) (by rw [hfit]; rfl) (Splits.of [0] (by as_aux_lemma => kernel_rfl) rfl)
       ·
        -- no
        have h52 := beq_eq_false_iff_ne.1 h52
        refine TC.skip (TX.blockNormal (TX.next (TC.seq (TC.region (TO.assign rfl (by decide) rfl (TO.nil (TX.next (TC.ret ?_))))))))
        have hfit : fits s.st u = (s.st, 0) := by unfold fits; simp_all <;> omega
        have hB : [.int .i64 s.st, .int .i64 s.tk.k, .int .i64 (s.tk.f : Int), .int .i64 (s.tk.t : Int), .int .i64 s.h.k, .int .i32 (s.h.r : Int), .int .i64 (s.h.f : Int), .int .i64 (s.h.t : Int), .bool s.h.al] = scV (fitted s u) := by unfold fitted; rw [hfit]; rfl
        refine TX.rewE (k := 0) rfl (show cells b [.int .i64 s.st, .int .i64 s.tk.k, .int .i64 (s.tk.f : Int), .int .i64 (s.tk.t : Int), .int .i64 s.h.k, .int .i32 (s.h.r : Int), .int .i64 (s.h.f : Int), .int .i64 (s.h.t : Int), .bool s.h.al] 152 = cells b (scV (fitted s u)) 152 from (congrArg (fun z => cells b z 152) hB)) ?_
        show TX _ _ _ _ _ _ _ [cells b (scV (fitted s u)) 152, cells b1 [.int .i64 u.k, .int .i32 (u.r : Int), .int .i64 (u.f : Int), .int .i64 (u.t : Int), .bool u.al] 150]
        exact TX.fin (rs := [.tmp 4]) () (.inl rfl) Tryd.results88 (.cons (.tmp rfl) .nil) (by rw [hfit]; rfl) (Splits.of [0] (by as_aux_lemma => kernel_rfl) rfl)
      ·
       -- no
       have h51 := beq_eq_false_iff_ne.1 h51
       refine TC.seq (TC.region (TO.bin rfl (by decide) rfl rfl bin_eql (TO.assign rfl (by decide) rfl (TO.nil (TX.next ?_)))))
       refine TC.condB rfl (fun h53 => ?_) (fun h53 => ?_)
       ·
        -- yes
        have h53 := beq_iff_eq.1 h53
        refine TC.seq (TC.region (TO.move rfl (by decide) rfl (TO.bin rfl (by decide) rfl rfl bin_eql (TO.move rfl (by decide) rfl ?_))))
        refine TO.split (s := 72) rfl (fun h54 => ?_) (fun h54 => ?_)
        ·
         -- yes
         have h54 := beq_iff_eq.1 h54
         refine TO.fieldAddr fl_150_1 rfl (by decide) rfl (show _ = 1 from rfl) (TO.load (k := 1) sc_21 rfl (by decide) rfl rfl rfl (TO.bin rfl (by decide) rfl rfl bin_eql (TO.pick (b := true) rfl (by decide) rfl rfl (TO.nil (TX.next ?_)))))
         refine TC.condB rfl (fun h55 => ?_) (fun h55 => ?_)
         ·
          -- yes
          have h55 := beq_iff_eq.1 h55
          refine TC.seq (TC.region (TO.move rfl (by decide) rfl (TO.nilCheck rfl (by decide) rfl (TO.fieldAddr fl_152_0 rfl (by decide) rfl (show _ = 0 from rfl) ?_))))
          refine TO.store (k := 0) (l' := [.int .i64 7, .int .i64 s.tk.k, .int .i64 (s.tk.f : Int), .int .i64 (s.tk.t : Int), .int .i64 s.h.k, .int .i32 (s.h.r : Int), .int .i64 (s.h.f : Int), .int .i64 (s.h.t : Int), .bool s.h.al]) sz_3 rfl rfl rfl rfl rfl (fun _ _ => rfl) rfl ?_
          refine TO.nil (TX.next (TC.seq (TC.region (TO.assign rfl (by decide) rfl (TO.nil (TX.next (TC.ret (TX.blockRet (TX.thenRet ?_)))))))))
          have hfit : fits s.st u = (7, 1) := by unfold fits; simp_all <;> omega
          have hB : [.int .i64 7, .int .i64 s.tk.k, .int .i64 (s.tk.f : Int), .int .i64 (s.tk.t : Int), .int .i64 s.h.k, .int .i32 (s.h.r : Int), .int .i64 (s.h.f : Int), .int .i64 (s.h.t : Int), .bool s.h.al] = scV (fitted s u) := by unfold fitted; rw [hfit]; rfl
          refine TX.rewE (k := 0) rfl (show cells b [.int .i64 7, .int .i64 s.tk.k, .int .i64 (s.tk.f : Int), .int .i64 (s.tk.t : Int), .int .i64 s.h.k, .int .i32 (s.h.r : Int), .int .i64 (s.h.f : Int), .int .i64 (s.h.t : Int), .bool s.h.al] 152 = cells b (scV (fitted s u)) 152 from (congrArg (fun z => cells b z 152) hB)) ?_
          show TX _ _ _ _ _ _ _ [cells b (scV (fitted s u)) 152, cells b1 [.int .i64 u.k, .int .i32 (u.r : Int), .int .i64 (u.f : Int), .int .i64 (u.t : Int), .bool u.al] 150]
          exact TX.fin (rs := [.tmp 4]) () (.inl rfl) Tryd.results88 (.cons (.tmp rfl) .nil) (by rw [hfit]; rfl) (Splits.of [0] (by as_aux_lemma => kernel_rfl) rfl)
         ·
          -- no
          have h55 := beq_eq_false_iff_ne.1 h55
          refine TC.skip (TX.blockNormal (TX.next (TC.seq (TC.region (TO.assign rfl (by decide) rfl (TO.nil (TX.next (TC.ret ?_))))))))
          have hfit : fits s.st u = (s.st, 0) := by unfold fits; simp_all <;> omega
          have hB : [.int .i64 s.st, .int .i64 s.tk.k, .int .i64 (s.tk.f : Int), .int .i64 (s.tk.t : Int), .int .i64 s.h.k, .int .i32 (s.h.r : Int), .int .i64 (s.h.f : Int), .int .i64 (s.h.t : Int), .bool s.h.al] = scV (fitted s u) := by unfold fitted; rw [hfit]; rfl
          refine TX.rewE (k := 0) rfl (show cells b [.int .i64 s.st, .int .i64 s.tk.k, .int .i64 (s.tk.f : Int), .int .i64 (s.tk.t : Int), .int .i64 s.h.k, .int .i32 (s.h.r : Int), .int .i64 (s.h.f : Int), .int .i64 (s.h.t : Int), .bool s.h.al] 152 = cells b (scV (fitted s u)) 152 from (congrArg (fun z => cells b z 152) hB)) ?_
          show TX _ _ _ _ _ _ _ [cells b (scV (fitted s u)) 152, cells b1 [.int .i64 u.k, .int .i32 (u.r : Int), .int .i64 (u.f : Int), .int .i64 (u.t : Int), .bool u.al] 150]
          exact TX.fin (rs := [.tmp 4]) () (.inl rfl) Tryd.results88 (.cons (.tmp rfl) .nil) (by rw [hfit]; rfl) (Splits.of [0] (by as_aux_lemma => kernel_rfl) rfl)
        ·
         -- no
         have h54 := beq_eq_false_iff_ne.1 h54
         refine TO.skip rfl (by decide) (TO.skip rfl (by decide) (TO.skip rfl (by decide) (TO.pick (b := false) rfl (by decide) rfl rfl (TO.nil (TX.next (TC.condF rfl (TC.skip (TX.blockNormal (TX.next (TC.seq (TC.region (TO.assign rfl (by decide) rfl (TO.nil ?_)))))))))))))
         refine TX.next (TC.ret ?_)
         have hfit : fits s.st u = (s.st, 0) := by unfold fits; simp_all <;> omega
         have hB : [.int .i64 s.st, .int .i64 s.tk.k, .int .i64 (s.tk.f : Int), .int .i64 (s.tk.t : Int), .int .i64 s.h.k, .int .i32 (s.h.r : Int), .int .i64 (s.h.f : Int), .int .i64 (s.h.t : Int), .bool s.h.al] = scV (fitted s u) := by unfold fitted; rw [hfit]; rfl
         refine TX.rewE (k := 0) rfl (show cells b [.int .i64 s.st, .int .i64 s.tk.k, .int .i64 (s.tk.f : Int), .int .i64 (s.tk.t : Int), .int .i64 s.h.k, .int .i32 (s.h.r : Int), .int .i64 (s.h.f : Int), .int .i64 (s.h.t : Int), .bool s.h.al] 152 = cells b (scV (fitted s u)) 152 from (congrArg (fun z => cells b z 152) hB)) ?_
         show TX _ _ _ _ _ _ _ [cells b (scV (fitted s u)) 152, cells b1 [.int .i64 u.k, .int .i32 (u.r : Int), .int .i64 (u.f : Int), .int .i64 (u.t : Int), .bool u.al] 150]
         exact TX.fin (rs := [.tmp 4]) () (.inl rfl) Tryd.results88 (.cons (.tmp rfl) .nil) (by rw [hfit]; rfl) (Splits.of [0] (by as_aux_lemma => kernel_rfl) rfl)
       ·
        -- no
        have h53 := beq_eq_false_iff_ne.1 h53
        refine TC.skip (TX.blockNormal (TX.next (TC.seq (TC.region (TO.assign rfl (by decide) rfl (TO.nil (TX.next (TC.ret ?_))))))))
        have hfit : fits s.st u = (s.st, 0) := by unfold fits; simp_all <;> omega
        have hB : [.int .i64 s.st, .int .i64 s.tk.k, .int .i64 (s.tk.f : Int), .int .i64 (s.tk.t : Int), .int .i64 s.h.k, .int .i32 (s.h.r : Int), .int .i64 (s.h.f : Int), .int .i64 (s.h.t : Int), .bool s.h.al] = scV (fitted s u) := by unfold fitted; rw [hfit]; rfl
        refine TX.rewE (k := 0) rfl (show cells b [.int .i64 s.st, .int .i64 s.tk.k, .int .i64 (s.tk.f : Int), .int .i64 (s.tk.t : Int), .int .i64 s.h.k, .int .i32 (s.h.r : Int), .int .i64 (s.h.f : Int), .int .i64 (s.h.t : Int), .bool s.h.al] 152 = cells b (scV (fitted s u)) 152 from (congrArg (fun z => cells b z 152) hB)) ?_
        show TX _ _ _ _ _ _ _ [cells b (scV (fitted s u)) 152, cells b1 [.int .i64 u.k, .int .i32 (u.r : Int), .int .i64 (u.f : Int), .int .i64 (u.t : Int), .bool u.al] 150]
        exact TX.fin (rs := [.tmp 4]) () (.inl rfl) Tryd.results88 (.cons (.tmp rfl) .nil) (by rw [hfit]; rfl) (Splits.of [0] (by as_aux_lemma => kernel_rfl) rfl)

set_option maxRecDepth 100000 in
set_option maxHeartbeats 4000000 in
theorem begin_fn (b : Nat) (s : Sc) (u : Un) : Fn Tryd.prog 90 [.pointer (some ⟨b, 0, none⟩), .agg #[.int .i64 u.k, .int .i32 u.r, .int .i64 u.f, .int .i64 u.t, .bool u.al]] [cells b (scV s) 152] (fun _ : Unit => .tuple #[]) (fun _ => [cells b (scV (began s u)) 152]) := by
 refine Fn.intro Tryd.func90 rfl Tryd.ntmps90 (by simp) ?_
 intro w0 K
 show TC _ _ _ _ _ _ _ _ _ [cells b [.int .i64 s.st, .int .i64 s.tk.k, .int .i64 (s.tk.f : Int), .int .i64 (s.tk.t : Int), .int .i64 s.h.k, .int .i32 (s.h.r : Int), .int .i64 (s.h.f : Int), .int .i64 (s.h.t : Int), .bool s.h.al] 152]
 refine TC.seq (TC.region ?_)
 refine TO.box rfl (by decide) rfl (fun b1 => ?_)
 refine TO.nil (TX.next (TC.seq (TC.region (TO.move rfl (by decide) rfl (TO.fieldAddr fl_150_2 rfl (by decide) rfl (show _ = 2 from rfl) (TO.loads (k := 1) (cs := [.int .i64 (u.f : Int), .int .i64 (u.t : Int)]) rw_34 rfl (by decide) rfl rfl rfl rfl ?_))))))
 refine TO.build (v := .agg #[.int .i64 6, .int .i64 (u.f : Int), .int .i64 (u.t : Int)]) (ps := [(0, .const (.int .i64 6)), (1, .tmp 6)]) rfl (by decide) rfl (fun _ => by kernel_rfl) ?_
 refine TO.nilCheck rfl (by decide) rfl (TO.fieldAddr fl_152_1 rfl (by decide) rfl (show _ = 1 from rfl) (TO.stores (k := 0) (vs := [.int .i64 6, .int .i64 (u.f : Int), .int .i64 (u.t : Int)]) (l' := [.int .i64 s.st, .int .i64 6, .int .i64 (u.f : Int), .int .i64 (u.t : Int), .int .i64 s.h.k, .int .i32 (s.h.r : Int), .int .i64 (s.h.f : Int), .int .i64 (s.h.t : Int), .bool s.h.al]) sz_123 rfl rfl rfl rfl rfl (show _ ≤ _ by simp) rfl rfl (TO.nil (TX.next (TC.seq (TC.region (TO.move rfl (by decide) rfl (TO.nilCheck rfl (by decide) rfl (TO.fieldAddr fl_152_0 rfl (by decide) rfl (show _ = 0 from rfl) ?_)))))))))
 refine TO.store (k := 0) (l' := [.int .i64 9, .int .i64 6, .int .i64 (u.f : Int), .int .i64 (u.t : Int), .int .i64 s.h.k, .int .i32 (s.h.r : Int), .int .i64 (s.h.f : Int), .int .i64 (s.h.t : Int), .bool s.h.al]) sz_3 rfl rfl rfl rfl rfl (fun _ _ => rfl) rfl ?_
 show TO _ _ _ _ _ _ _ _ _ _ [cells b [.int .i64 9, .int .i64 6, .int .i64 (u.f : Int), .int .i64 (u.t : Int), .int .i64 s.h.k, .int .i32 (s.h.r : Int), .int .i64 (s.h.f : Int), .int .i64 (s.h.t : Int), .bool s.h.al] 152, cells b1 [.int .i64 u.k, .int .i32 (u.r : Int), .int .i64 (u.f : Int), .int .i64 (u.t : Int), .bool u.al] 150]
 refine TO.nil (TX.next (TC.seq (TC.region (TO.fieldAddr fl_150_0 rfl (by decide) rfl (show _ = 0 from rfl) (TO.load (k := 1) sc_148 rfl (by decide) rfl rfl rfl (TO.nil (TX.next (TC.block (TC.seq (TC.region (TO.bin rfl (by decide) rfl rfl bin_eql (TO.assign rfl (by decide) rfl (TO.nil ?_)))))))))))))
 refine TX.next ?_
 refine TC.condB rfl (fun h1 => ?_) (fun h1 => ?_)
 ·
  -- yes
  have h1 := beq_iff_eq.1 h1
  refine TC.region (TO.move rfl (by decide) rfl (TO.move rfl (by decide) rfl (TO.nilCheck rfl (by decide) rfl (TO.fieldAddr fl_152_1 rfl (by decide) rfl (show _ = 1 from rfl) (TO.fieldAddr fl_123_0 rfl (by decide) rfl (show _ = 1 from rfl) ?_)))))
  refine TO.store (k := 0) (l' := [.int .i64 9, .int .i64 1, .int .i64 (u.f : Int), .int .i64 (u.t : Int), .int .i64 s.h.k, .int .i32 (s.h.r : Int), .int .i64 (s.h.f : Int), .int .i64 (s.h.t : Int), .bool s.h.al]) sz_3 rfl rfl rfl rfl rfl (fun _ _ => rfl) rfl ?_
  refine TO.nilCheck rfl (by decide) rfl (TO.fieldAddr fl_152_0 rfl (by decide) rfl (show _ = 0 from rfl) ?_)
  refine TO.store (k := 0) (l' := [.int .i64 1, .int .i64 1, .int .i64 (u.f : Int), .int .i64 (u.t : Int), .int .i64 s.h.k, .int .i32 (s.h.r : Int), .int .i64 (s.h.f : Int), .int .i64 (s.h.t : Int), .bool s.h.al]) sz_3 rfl rfl rfl rfl rfl (fun _ _ => rfl) rfl ?_
  show TO _ _ _ _ _ _ _ _ _ _ [cells b [.int .i64 1, .int .i64 1, .int .i64 (u.f : Int), .int .i64 (u.t : Int), .int .i64 s.h.k, .int .i32 (s.h.r : Int), .int .i64 (s.h.f : Int), .int .i64 (s.h.t : Int), .bool s.h.al] 152, cells b1 [.int .i64 u.k, .int .i32 (u.r : Int), .int .i64 (u.f : Int), .int .i64 (u.t : Int), .bool u.al] 150]
  refine TO.nil (TX.blockNormal ?_)
  have hB : [.int .i64 1, .int .i64 1, .int .i64 (u.f : Int), .int .i64 (u.t : Int), .int .i64 s.h.k, .int .i32 (s.h.r : Int), .int .i64 (s.h.f : Int), .int .i64 (s.h.t : Int), .bool s.h.al] = scV (began s u) := by simp_all [began, begins, scV] <;> omega
  refine TX.rewE (k := 0) rfl (show cells b [.int .i64 1, .int .i64 1, .int .i64 (u.f : Int), .int .i64 (u.t : Int), .int .i64 s.h.k, .int .i32 (s.h.r : Int), .int .i64 (s.h.f : Int), .int .i64 (s.h.t : Int), .bool s.h.al] 152 = cells b (scV (began s u)) 152 from (congrArg (fun z => cells b z 152) hB)) ?_
  show TX _ _ _ _ _ _ _ [cells b (scV (began s u)) 152, cells b1 [.int .i64 u.k, .int .i32 (u.r : Int), .int .i64 (u.f : Int), .int .i64 (u.t : Int), .bool u.al] 150]
  exact TX.fin (rs := []) () (.inr rfl) Tryd.results90 .nil rfl (Splits.of [0] (by as_aux_lemma => kernel_rfl) rfl)
 ·
  -- no
  have h1 := beq_eq_false_iff_ne.1 h1
  refine TC.seq (TC.region (TO.bin rfl (by decide) rfl rfl bin_eql (TO.assign rfl (by decide) rfl (TO.nil (TX.next ?_)))))
  refine TC.condB rfl (fun h2 => ?_) (fun h2 => ?_)
  ·
   -- yes
   have h2 := beq_iff_eq.1 h2
   refine TC.region (TO.move rfl (by decide) rfl (TO.move rfl (by decide) rfl (TO.nilCheck rfl (by decide) rfl (TO.fieldAddr fl_152_1 rfl (by decide) rfl (show _ = 1 from rfl) (TO.fieldAddr fl_123_0 rfl (by decide) rfl (show _ = 1 from rfl) ?_)))))
   refine TO.store (k := 0) (l' := [.int .i64 9, .int .i64 2, .int .i64 (u.f : Int), .int .i64 (u.t : Int), .int .i64 s.h.k, .int .i32 (s.h.r : Int), .int .i64 (s.h.f : Int), .int .i64 (s.h.t : Int), .bool s.h.al]) sz_3 rfl rfl rfl rfl rfl (fun _ _ => rfl) rfl ?_
   refine TO.nilCheck rfl (by decide) rfl (TO.fieldAddr fl_152_0 rfl (by decide) rfl (show _ = 0 from rfl) ?_)
   refine TO.store (k := 0) (l' := [.int .i64 3, .int .i64 2, .int .i64 (u.f : Int), .int .i64 (u.t : Int), .int .i64 s.h.k, .int .i32 (s.h.r : Int), .int .i64 (s.h.f : Int), .int .i64 (s.h.t : Int), .bool s.h.al]) sz_3 rfl rfl rfl rfl rfl (fun _ _ => rfl) rfl ?_
   show TO _ _ _ _ _ _ _ _ _ _ [cells b [.int .i64 3, .int .i64 2, .int .i64 (u.f : Int), .int .i64 (u.t : Int), .int .i64 s.h.k, .int .i32 (s.h.r : Int), .int .i64 (s.h.f : Int), .int .i64 (s.h.t : Int), .bool s.h.al] 152, cells b1 [.int .i64 u.k, .int .i32 (u.r : Int), .int .i64 (u.f : Int), .int .i64 (u.t : Int), .bool u.al] 150]
   refine TO.nil (TX.blockNormal ?_)
   have hB : [.int .i64 3, .int .i64 2, .int .i64 (u.f : Int), .int .i64 (u.t : Int), .int .i64 s.h.k, .int .i32 (s.h.r : Int), .int .i64 (s.h.f : Int), .int .i64 (s.h.t : Int), .bool s.h.al] = scV (began s u) := by simp_all [began, begins, scV] <;> omega
   refine TX.rewE (k := 0) rfl (show cells b [.int .i64 3, .int .i64 2, .int .i64 (u.f : Int), .int .i64 (u.t : Int), .int .i64 s.h.k, .int .i32 (s.h.r : Int), .int .i64 (s.h.f : Int), .int .i64 (s.h.t : Int), .bool s.h.al] 152 = cells b (scV (began s u)) 152 from (congrArg (fun z => cells b z 152) hB)) ?_
   show TX _ _ _ _ _ _ _ [cells b (scV (began s u)) 152, cells b1 [.int .i64 u.k, .int .i32 (u.r : Int), .int .i64 (u.f : Int), .int .i64 (u.t : Int), .bool u.al] 150]
   exact TX.fin (rs := []) () (.inr rfl) Tryd.results90 .nil rfl (Splits.of [0] (by as_aux_lemma => kernel_rfl) rfl)
  ·
   -- no
   have h2 := beq_eq_false_iff_ne.1 h2
   refine TC.seq (TC.region (TO.bin rfl (by decide) rfl rfl bin_eql (TO.assign rfl (by decide) rfl (TO.nil (TX.next ?_)))))
   refine TC.condB rfl (fun h3 => ?_) (fun h3 => ?_)
   ·
    -- yes
    have h3 := beq_iff_eq.1 h3
    refine TC.region (TO.move rfl (by decide) rfl (TO.move rfl (by decide) rfl (TO.nilCheck rfl (by decide) rfl (TO.fieldAddr fl_152_1 rfl (by decide) rfl (show _ = 1 from rfl) (TO.fieldAddr fl_123_0 rfl (by decide) rfl (show _ = 1 from rfl) ?_)))))
    refine TO.store (k := 0) (l' := [.int .i64 9, .int .i64 3, .int .i64 (u.f : Int), .int .i64 (u.t : Int), .int .i64 s.h.k, .int .i32 (s.h.r : Int), .int .i64 (s.h.f : Int), .int .i64 (s.h.t : Int), .bool s.h.al]) sz_3 rfl rfl rfl rfl rfl (fun _ _ => rfl) rfl ?_
    refine TO.nilCheck rfl (by decide) rfl (TO.fieldAddr fl_152_0 rfl (by decide) rfl (show _ = 0 from rfl) ?_)
    refine TO.store (k := 0) (l' := [.int .i64 5, .int .i64 3, .int .i64 (u.f : Int), .int .i64 (u.t : Int), .int .i64 s.h.k, .int .i32 (s.h.r : Int), .int .i64 (s.h.f : Int), .int .i64 (s.h.t : Int), .bool s.h.al]) sz_3 rfl rfl rfl rfl rfl (fun _ _ => rfl) rfl ?_
    show TO _ _ _ _ _ _ _ _ _ _ [cells b [.int .i64 5, .int .i64 3, .int .i64 (u.f : Int), .int .i64 (u.t : Int), .int .i64 s.h.k, .int .i32 (s.h.r : Int), .int .i64 (s.h.f : Int), .int .i64 (s.h.t : Int), .bool s.h.al] 152, cells b1 [.int .i64 u.k, .int .i32 (u.r : Int), .int .i64 (u.f : Int), .int .i64 (u.t : Int), .bool u.al] 150]
    refine TO.nil (TX.blockNormal ?_)
    have hB : [.int .i64 5, .int .i64 3, .int .i64 (u.f : Int), .int .i64 (u.t : Int), .int .i64 s.h.k, .int .i32 (s.h.r : Int), .int .i64 (s.h.f : Int), .int .i64 (s.h.t : Int), .bool s.h.al] = scV (began s u) := by simp_all [began, begins, scV] <;> omega
    refine TX.rewE (k := 0) rfl (show cells b [.int .i64 5, .int .i64 3, .int .i64 (u.f : Int), .int .i64 (u.t : Int), .int .i64 s.h.k, .int .i32 (s.h.r : Int), .int .i64 (s.h.f : Int), .int .i64 (s.h.t : Int), .bool s.h.al] 152 = cells b (scV (began s u)) 152 from (congrArg (fun z => cells b z 152) hB)) ?_
    show TX _ _ _ _ _ _ _ [cells b (scV (began s u)) 152, cells b1 [.int .i64 u.k, .int .i32 (u.r : Int), .int .i64 (u.f : Int), .int .i64 (u.t : Int), .bool u.al] 150]
    exact TX.fin (rs := []) () (.inr rfl) Tryd.results90 .nil rfl (Splits.of [0] (by as_aux_lemma => kernel_rfl) rfl)
   ·
    -- no
    have h3 := beq_eq_false_iff_ne.1 h3
    refine TC.seq (TC.region (TO.bin rfl (by decide) rfl rfl bin_eql (TO.assign rfl (by decide) rfl (TO.nil (TX.next ?_)))))
    refine TC.condB rfl (fun h4 => ?_) (fun h4 => ?_)
    ·
     -- yes
     have h4 := beq_iff_eq.1 h4
     refine TC.region (TO.move rfl (by decide) rfl (TO.move rfl (by decide) rfl (TO.nilCheck rfl (by decide) rfl (TO.fieldAddr fl_152_1 rfl (by decide) rfl (show _ = 1 from rfl) (TO.fieldAddr fl_123_0 rfl (by decide) rfl (show _ = 1 from rfl) ?_)))))
     refine TO.store (k := 0) (l' := [.int .i64 9, .int .i64 7, .int .i64 (u.f : Int), .int .i64 (u.t : Int), .int .i64 s.h.k, .int .i32 (s.h.r : Int), .int .i64 (s.h.f : Int), .int .i64 (s.h.t : Int), .bool s.h.al]) sz_3 rfl rfl rfl rfl rfl (fun _ _ => rfl) rfl ?_
     refine TO.nilCheck rfl (by decide) rfl (TO.fieldAddr fl_152_0 rfl (by decide) rfl (show _ = 0 from rfl) ?_)
     refine TO.store (k := 0) (l' := [.int .i64 6, .int .i64 7, .int .i64 (u.f : Int), .int .i64 (u.t : Int), .int .i64 s.h.k, .int .i32 (s.h.r : Int), .int .i64 (s.h.f : Int), .int .i64 (s.h.t : Int), .bool s.h.al]) sz_3 rfl rfl rfl rfl rfl (fun _ _ => rfl) rfl ?_
     show TO _ _ _ _ _ _ _ _ _ _ [cells b [.int .i64 6, .int .i64 7, .int .i64 (u.f : Int), .int .i64 (u.t : Int), .int .i64 s.h.k, .int .i32 (s.h.r : Int), .int .i64 (s.h.f : Int), .int .i64 (s.h.t : Int), .bool s.h.al] 152, cells b1 [.int .i64 u.k, .int .i32 (u.r : Int), .int .i64 (u.f : Int), .int .i64 (u.t : Int), .bool u.al] 150]
     refine TO.nil (TX.blockNormal ?_)
     have hB : [.int .i64 6, .int .i64 7, .int .i64 (u.f : Int), .int .i64 (u.t : Int), .int .i64 s.h.k, .int .i32 (s.h.r : Int), .int .i64 (s.h.f : Int), .int .i64 (s.h.t : Int), .bool s.h.al] = scV (began s u) := by simp_all [began, begins, scV] <;> omega
     refine TX.rewE (k := 0) rfl (show cells b [.int .i64 6, .int .i64 7, .int .i64 (u.f : Int), .int .i64 (u.t : Int), .int .i64 s.h.k, .int .i32 (s.h.r : Int), .int .i64 (s.h.f : Int), .int .i64 (s.h.t : Int), .bool s.h.al] 152 = cells b (scV (began s u)) 152 from (congrArg (fun z => cells b z 152) hB)) ?_
     show TX _ _ _ _ _ _ _ [cells b (scV (began s u)) 152, cells b1 [.int .i64 u.k, .int .i32 (u.r : Int), .int .i64 (u.f : Int), .int .i64 (u.t : Int), .bool u.al] 150]
     exact TX.fin (rs := []) () (.inr rfl) Tryd.results90 .nil rfl (Splits.of [0] (by as_aux_lemma => kernel_rfl) rfl)
    ·
     -- no
     have h4 := beq_eq_false_iff_ne.1 h4
     refine TC.seq (TC.region (TO.bin rfl (by decide) rfl rfl bin_eql (TO.assign rfl (by decide) rfl (TO.nil (TX.next ?_)))))
     refine TC.condB rfl (fun h5 => ?_) (fun h5 => ?_)
     ·
      -- yes
      have h5 := beq_iff_eq.1 h5
      refine TC.seq (TC.region (TO.move rfl (by decide) rfl (TO.move rfl (by decide) rfl (TO.nilCheck rfl (by decide) rfl (TO.fieldAddr fl_152_1 rfl (by decide) rfl (show _ = 1 from rfl) (TO.fieldAddr fl_123_0 rfl (by decide) rfl (show _ = 1 from rfl) ?_))))))
      refine TO.store (k := 0) (l' := [.int .i64 9, .int .i64 4, .int .i64 (u.f : Int), .int .i64 (u.t : Int), .int .i64 s.h.k, .int .i32 (s.h.r : Int), .int .i64 (s.h.f : Int), .int .i64 (s.h.t : Int), .bool s.h.al]) sz_3 rfl rfl rfl rfl rfl (fun _ _ => rfl) rfl ?_
      refine TO.nilCheck rfl (by decide) rfl (TO.fieldAddr fl_152_0 rfl (by decide) rfl (show _ = 0 from rfl) ?_)
      refine TO.store (k := 0) (l' := [.int .i64 7, .int .i64 4, .int .i64 (u.f : Int), .int .i64 (u.t : Int), .int .i64 s.h.k, .int .i32 (s.h.r : Int), .int .i64 (s.h.f : Int), .int .i64 (s.h.t : Int), .bool s.h.al]) sz_3 rfl rfl rfl rfl rfl (fun _ _ => rfl) rfl ?_
      show TO _ _ _ _ _ _ _ _ _ _ [cells b [.int .i64 7, .int .i64 4, .int .i64 (u.f : Int), .int .i64 (u.t : Int), .int .i64 s.h.k, .int .i32 (s.h.r : Int), .int .i64 (s.h.f : Int), .int .i64 (s.h.t : Int), .bool s.h.al] 152, cells b1 [.int .i64 u.k, .int .i32 (u.r : Int), .int .i64 (u.f : Int), .int .i64 (u.t : Int), .bool u.al] 150]
      refine TO.nil (TX.next (TC.seq (TC.region (TO.fieldAddr fl_150_1 rfl (by decide) rfl (show _ = 1 from rfl) (TO.load (k := 1) sc_21 rfl (by decide) rfl rfl rfl (TO.bin rfl (by decide) rfl rfl bin_eql (TO.nil (TX.next ?_))))))))
      refine TC.condB rfl (fun h6 => ?_) (fun h6 => ?_)
      ·
       -- yes
       have h6 := beq_iff_eq.1 h6
       refine TC.region (TO.move rfl (by decide) rfl (TO.nilCheck rfl (by decide) rfl (TO.fieldAddr fl_152_0 rfl (by decide) rfl (show _ = 0 from rfl) ?_)))
       refine TO.store (k := 0) (l' := [.int .i64 8, .int .i64 4, .int .i64 (u.f : Int), .int .i64 (u.t : Int), .int .i64 s.h.k, .int .i32 (s.h.r : Int), .int .i64 (s.h.f : Int), .int .i64 (s.h.t : Int), .bool s.h.al]) sz_3 rfl rfl rfl rfl rfl (fun _ _ => rfl) rfl ?_
       refine TO.nil (TX.blockNormal ?_)
       have hB : [.int .i64 8, .int .i64 4, .int .i64 (u.f : Int), .int .i64 (u.t : Int), .int .i64 s.h.k, .int .i32 (s.h.r : Int), .int .i64 (s.h.f : Int), .int .i64 (s.h.t : Int), .bool s.h.al] = scV (began s u) := by simp_all [began, begins, scV] <;> omega
       refine TX.rewE (k := 0) rfl (show cells b [.int .i64 8, .int .i64 4, .int .i64 (u.f : Int), .int .i64 (u.t : Int), .int .i64 s.h.k, .int .i32 (s.h.r : Int), .int .i64 (s.h.f : Int), .int .i64 (s.h.t : Int), .bool s.h.al] 152 = cells b (scV (began s u)) 152 from (congrArg (fun z => cells b z 152) hB)) ?_
       show TX _ _ _ _ _ _ _ [cells b (scV (began s u)) 152, cells b1 [.int .i64 u.k, .int .i32 (u.r : Int), .int .i64 (u.f : Int), .int .i64 (u.t : Int), .bool u.al] 150]
       exact TX.fin (rs := []) () (.inr rfl) Tryd.results90 .nil rfl (Splits.of [0] (by as_aux_lemma => kernel_rfl) rfl)
      ·
       -- no
       have h6 := beq_eq_false_iff_ne.1 h6
       refine TC.skip (TX.blockNormal ?_)
       have hB : [.int .i64 7, .int .i64 4, .int .i64 (u.f : Int), .int .i64 (u.t : Int), .int .i64 s.h.k, .int .i32 (s.h.r : Int), .int .i64 (s.h.f : Int), .int .i64 (s.h.t : Int), .bool s.h.al] = scV (began s u) := by simp_all [began, begins, scV] <;> omega
       refine TX.rewE (k := 0) rfl (show cells b [.int .i64 7, .int .i64 4, .int .i64 (u.f : Int), .int .i64 (u.t : Int), .int .i64 s.h.k, .int .i32 (s.h.r : Int), .int .i64 (s.h.f : Int), .int .i64 (s.h.t : Int), .bool s.h.al] 152 = cells b (scV (began s u)) 152 from (congrArg (fun z => cells b z 152) hB)) ?_
       show TX _ _ _ _ _ _ _ [cells b (scV (began s u)) 152, cells b1 [.int .i64 u.k, .int .i32 (u.r : Int), .int .i64 (u.f : Int), .int .i64 (u.t : Int), .bool u.al] 150]
       exact TX.fin (rs := []) () (.inr rfl) Tryd.results90 .nil rfl (Splits.of [0] (by as_aux_lemma => kernel_rfl) rfl)
     ·
      -- no
      have h5 := beq_eq_false_iff_ne.1 h5
      refine TC.seq (TC.seq (TC.region (TO.bin rfl (by decide) rfl rfl bin_eql (TO.assign rfl (by decide) rfl (TO.nil (TX.next ?_))))))
      refine TC.condB rfl (fun h7 => ?_) (fun h7 => ?_)
      ·
       -- yes
       have h7 := beq_iff_eq.1 h7
       refine TC.skip (TX.next ?_)
       refine TC.condB rfl (fun h8 => ?_) (fun h8 => ?_)
       ·
        -- yes
        have h8 := beq_iff_eq.1 h8
        refine TC.region (TO.move rfl (by decide) rfl (TO.nilCheck rfl (by decide) rfl (TO.fieldAddr fl_152_1 rfl (by decide) rfl (show _ = 1 from rfl) (TO.fieldAddr fl_123_0 rfl (by decide) rfl (show _ = 1 from rfl) ?_))))
        refine TO.store (k := 0) (l' := [.int .i64 9, .int .i64 5, .int .i64 (u.f : Int), .int .i64 (u.t : Int), .int .i64 s.h.k, .int .i32 (s.h.r : Int), .int .i64 (s.h.f : Int), .int .i64 (s.h.t : Int), .bool s.h.al]) sz_3 rfl rfl rfl rfl rfl (fun _ _ => rfl) rfl ?_
        refine TO.nil (TX.blockNormal ?_)
        have hB : [.int .i64 9, .int .i64 5, .int .i64 (u.f : Int), .int .i64 (u.t : Int), .int .i64 s.h.k, .int .i32 (s.h.r : Int), .int .i64 (s.h.f : Int), .int .i64 (s.h.t : Int), .bool s.h.al] = scV (began s u) := by simp_all [began, begins, scV] <;> omega
        refine TX.rewE (k := 0) rfl (show cells b [.int .i64 9, .int .i64 5, .int .i64 (u.f : Int), .int .i64 (u.t : Int), .int .i64 s.h.k, .int .i32 (s.h.r : Int), .int .i64 (s.h.f : Int), .int .i64 (s.h.t : Int), .bool s.h.al] 152 = cells b (scV (began s u)) 152 from (congrArg (fun z => cells b z 152) hB)) ?_
        show TX _ _ _ _ _ _ _ [cells b (scV (began s u)) 152, cells b1 [.int .i64 u.k, .int .i32 (u.r : Int), .int .i64 (u.f : Int), .int .i64 (u.t : Int), .bool u.al] 150]
        exact TX.fin (rs := []) () (.inr rfl) Tryd.results90 .nil rfl (Splits.of [0] (by as_aux_lemma => kernel_rfl) rfl)
       ·
        -- no
        have h8 := beq_eq_false_iff_ne.1 h8
        refine TC.skip (TX.blockNormal ?_)
        have hB : [.int .i64 9, .int .i64 6, .int .i64 (u.f : Int), .int .i64 (u.t : Int), .int .i64 s.h.k, .int .i32 (s.h.r : Int), .int .i64 (s.h.f : Int), .int .i64 (s.h.t : Int), .bool s.h.al] = scV (began s u) := by simp_all [began, begins, scV] <;> omega
        refine TX.rewE (k := 0) rfl (show cells b [.int .i64 9, .int .i64 6, .int .i64 (u.f : Int), .int .i64 (u.t : Int), .int .i64 s.h.k, .int .i32 (s.h.r : Int), .int .i64 (s.h.f : Int), .int .i64 (s.h.t : Int), .bool s.h.al] 152 = cells b (scV (began s u)) 152 from (congrArg (fun z => cells b z 152) hB)) ?_
        show TX _ _ _ _ _ _ _ [cells b (scV (began s u)) 152, cells b1 [.int .i64 u.k, .int .i32 (u.r : Int), .int .i64 (u.f : Int), .int .i64 (u.t : Int), .bool u.al] 150]
        exact TX.fin (rs := []) () (.inr rfl) Tryd.results90 .nil rfl (Splits.of [0] (by as_aux_lemma => kernel_rfl) rfl)
      ·
       -- no
       have h7 := beq_eq_false_iff_ne.1 h7
       refine TC.seq (TC.region (TO.bin rfl (by decide) rfl rfl bin_eql (TO.assign rfl (by decide) rfl (TO.nil (TX.next ?_)))))
       refine TC.condB rfl (fun h9 => ?_) (fun h9 => ?_)
       ·
        -- yes
        have h9 := beq_iff_eq.1 h9
        refine TC.skip (TX.next ?_)
        refine TC.condB rfl (fun h10 => ?_) (fun h10 => ?_)
        ·
         -- yes
         have h10 := beq_iff_eq.1 h10
         refine TC.region (TO.move rfl (by decide) rfl (TO.nilCheck rfl (by decide) rfl (TO.fieldAddr fl_152_1 rfl (by decide) rfl (show _ = 1 from rfl) (TO.fieldAddr fl_123_0 rfl (by decide) rfl (show _ = 1 from rfl) ?_))))
         refine TO.store (k := 0) (l' := [.int .i64 9, .int .i64 5, .int .i64 (u.f : Int), .int .i64 (u.t : Int), .int .i64 s.h.k, .int .i32 (s.h.r : Int), .int .i64 (s.h.f : Int), .int .i64 (s.h.t : Int), .bool s.h.al]) sz_3 rfl rfl rfl rfl rfl (fun _ _ => rfl) rfl ?_
         refine TO.nil (TX.blockNormal ?_)
         have hB : [.int .i64 9, .int .i64 5, .int .i64 (u.f : Int), .int .i64 (u.t : Int), .int .i64 s.h.k, .int .i32 (s.h.r : Int), .int .i64 (s.h.f : Int), .int .i64 (s.h.t : Int), .bool s.h.al] = scV (began s u) := by simp_all [began, begins, scV] <;> omega
         refine TX.rewE (k := 0) rfl (show cells b [.int .i64 9, .int .i64 5, .int .i64 (u.f : Int), .int .i64 (u.t : Int), .int .i64 s.h.k, .int .i32 (s.h.r : Int), .int .i64 (s.h.f : Int), .int .i64 (s.h.t : Int), .bool s.h.al] 152 = cells b (scV (began s u)) 152 from (congrArg (fun z => cells b z 152) hB)) ?_
         show TX _ _ _ _ _ _ _ [cells b (scV (began s u)) 152, cells b1 [.int .i64 u.k, .int .i32 (u.r : Int), .int .i64 (u.f : Int), .int .i64 (u.t : Int), .bool u.al] 150]
         exact TX.fin (rs := []) () (.inr rfl) Tryd.results90 .nil rfl (Splits.of [0] (by as_aux_lemma => kernel_rfl) rfl)
        ·
         -- no
         have h10 := beq_eq_false_iff_ne.1 h10
         refine TC.skip (TX.blockNormal ?_)
         have hB : [.int .i64 9, .int .i64 6, .int .i64 (u.f : Int), .int .i64 (u.t : Int), .int .i64 s.h.k, .int .i32 (s.h.r : Int), .int .i64 (s.h.f : Int), .int .i64 (s.h.t : Int), .bool s.h.al] = scV (began s u) := by simp_all [began, begins, scV] <;> omega
         refine TX.rewE (k := 0) rfl (show cells b [.int .i64 9, .int .i64 6, .int .i64 (u.f : Int), .int .i64 (u.t : Int), .int .i64 s.h.k, .int .i32 (s.h.r : Int), .int .i64 (s.h.f : Int), .int .i64 (s.h.t : Int), .bool s.h.al] 152 = cells b (scV (began s u)) 152 from (congrArg (fun z => cells b z 152) hB)) ?_
         show TX _ _ _ _ _ _ _ [cells b (scV (began s u)) 152, cells b1 [.int .i64 u.k, .int .i32 (u.r : Int), .int .i64 (u.f : Int), .int .i64 (u.t : Int), .bool u.al] 150]
         exact TX.fin (rs := []) () (.inr rfl) Tryd.results90 .nil rfl (Splits.of [0] (by as_aux_lemma => kernel_rfl) rfl)
       ·
        -- no
        have h9 := beq_eq_false_iff_ne.1 h9
        refine TC.region (TO.bin rfl (by decide) rfl rfl bin_eql (TO.assign rfl (by decide) rfl (TO.nil (TX.next ?_))))
        refine TC.condB rfl (fun h11 => ?_) (fun h11 => ?_)
        ·
         -- yes
         have h11 := beq_iff_eq.1 h11
         refine TC.region (TO.move rfl (by decide) rfl (TO.nilCheck rfl (by decide) rfl (TO.fieldAddr fl_152_1 rfl (by decide) rfl (show _ = 1 from rfl) (TO.fieldAddr fl_123_0 rfl (by decide) rfl (show _ = 1 from rfl) ?_))))
         refine TO.store (k := 0) (l' := [.int .i64 9, .int .i64 5, .int .i64 (u.f : Int), .int .i64 (u.t : Int), .int .i64 s.h.k, .int .i32 (s.h.r : Int), .int .i64 (s.h.f : Int), .int .i64 (s.h.t : Int), .bool s.h.al]) sz_3 rfl rfl rfl rfl rfl (fun _ _ => rfl) rfl ?_
         refine TO.nil (TX.blockNormal ?_)
         have hB : [.int .i64 9, .int .i64 5, .int .i64 (u.f : Int), .int .i64 (u.t : Int), .int .i64 s.h.k, .int .i32 (s.h.r : Int), .int .i64 (s.h.f : Int), .int .i64 (s.h.t : Int), .bool s.h.al] = scV (began s u) := by simp_all [began, begins, scV] <;> omega
         refine TX.rewE (k := 0) rfl (show cells b [.int .i64 9, .int .i64 5, .int .i64 (u.f : Int), .int .i64 (u.t : Int), .int .i64 s.h.k, .int .i32 (s.h.r : Int), .int .i64 (s.h.f : Int), .int .i64 (s.h.t : Int), .bool s.h.al] 152 = cells b (scV (began s u)) 152 from (congrArg (fun z => cells b z 152) hB)) ?_
         show TX _ _ _ _ _ _ _ [cells b (scV (began s u)) 152, cells b1 [.int .i64 u.k, .int .i32 (u.r : Int), .int .i64 (u.f : Int), .int .i64 (u.t : Int), .bool u.al] 150]
         exact TX.fin (rs := []) () (.inr rfl) Tryd.results90 .nil rfl (Splits.of [0] (by as_aux_lemma => kernel_rfl) rfl)
        ·
         -- no
         have h11 := beq_eq_false_iff_ne.1 h11
         refine TC.skip (TX.blockNormal ?_)
         have hB : [.int .i64 9, .int .i64 6, .int .i64 (u.f : Int), .int .i64 (u.t : Int), .int .i64 s.h.k, .int .i32 (s.h.r : Int), .int .i64 (s.h.f : Int), .int .i64 (s.h.t : Int), .bool s.h.al] = scV (began s u) := by simp_all [began, begins, scV] <;> omega
         refine TX.rewE (k := 0) rfl (show cells b [.int .i64 9, .int .i64 6, .int .i64 (u.f : Int), .int .i64 (u.t : Int), .int .i64 s.h.k, .int .i32 (s.h.r : Int), .int .i64 (s.h.f : Int), .int .i64 (s.h.t : Int), .bool s.h.al] 152 = cells b (scV (began s u)) 152 from (congrArg (fun z => cells b z 152) hB)) ?_
         show TX _ _ _ _ _ _ _ [cells b (scV (began s u)) 152, cells b1 [.int .i64 u.k, .int .i32 (u.r : Int), .int .i64 (u.f : Int), .int .i64 (u.t : Int), .bool u.al] 150]
         exact TX.fin (rs := []) () (.inr rfl) Tryd.results90 .nil rfl (Splits.of [0] (by as_aux_lemma => kernel_rfl) rfl)

set_option maxRecDepth 100000 in
set_option maxHeartbeats 4000000 in
theorem end_w {l : Nat} {zs : List Tk} {I X : List Tk → Asn} {w : World} {C : Nat → Prop} (hy : YC Tryd.prog l tkA zs I X w C) (b : Nat) (s : Sc) (pre post : List Tk) (hz : zs = pre ++ ended s ++ post) :
  FnW Tryd.prog 89 [.pointer (some ⟨b, 0, none⟩), .func (.yield l) #[] #[]] [cells b (scV s) 152, I pre] (fun x : Option (List Tk × Tk × List Tk) => .bool x.isNone)
   (fun x => match x with | none => [cells b (scV s) 152, I (pre ++ ended s)] | some g => [cells b (scV s) 152, X (pre ++ g.1 ++ [g.2.1]), fact (ended s = g.1 ++ g.2.1 :: g.2.2)]) w C := by
 refine FnW.intro Tryd.func89 rfl Tryd.ntmps89 (by simp) ?_
 show TC _ _ _ _ _ _ _ _ _ [cells b [.int .i64 s.st, .int .i64 s.tk.k, .int .i64 (s.tk.f : Int), .int .i64 (s.tk.t : Int), .int .i64 s.h.k, .int .i32 (s.h.r : Int), .int .i64 (s.h.f : Int), .int .i64 (s.h.t : Int), .bool s.h.al] 152, I pre]
 refine TC.seq (TC.region (TO.assign rfl (by decide) rfl (TO.nil (TX.next (TC.seq (TC.seq (TC.region (TO.move rfl (by decide) rfl (TO.nilCheck rfl (by decide) rfl (TO.fieldAddr fl_152_0 rfl (by decide) rfl (show _ = 0 from rfl) (TO.load (k := 0) sc_3 rfl (by decide) rfl rfl rfl (TO.nil (TX.next ?_)))))))))))))
 refine TC.block (TC.seq (TC.region (TO.bin rfl (by decide) rfl rfl bin_eql (TO.assign rfl (by decide) rfl (TO.nil (TX.next ?_))))))
 refine TC.condB rfl (fun h1 => ?_) (fun h1 => ?_)
 ·
  -- yes
  have h1 := beq_iff_eq.1 h1
  refine TC.seq (TC.region (TO.assign rfl (by decide) rfl (TO.nil (TX.next (TC.ret (TX.blockRet (TX.thenRet ?_)))))))
  have hen : ended s = [] := by unfold ended; simp_all
  refine TX.rewE (k := 1) rfl (show I pre = I (pre ++ ended s) from (by simp [hen])) ?_
  show TX _ _ _ _ _ _ _ [cells b [.int .i64 s.st, .int .i64 s.tk.k, .int .i64 (s.tk.f : Int), .int .i64 (s.tk.t : Int), .int .i64 s.h.k, .int .i32 (s.h.r : Int), .int .i64 (s.h.f : Int), .int .i64 (s.h.t : Int), .bool s.h.al] 152, I (pre ++ ended s)]
  exact TX.fin (rs := [.tmp 4]) (none : Option (List Tk × Tk × List Tk)) (.inl rfl) Tryd.results89 (.cons (.tmp rfl) .nil) rfl (Splits.of [0, 1] (by as_aux_lemma => kernel_rfl) rfl)
 ·
  -- no
  have h1 := beq_eq_false_iff_ne.1 h1
  refine TC.seq (TC.seq (TC.region (TO.bin rfl (by decide) rfl rfl bin_eql (TO.assign rfl (by decide) rfl (TO.nil (TX.next ?_))))))
  refine TC.condB rfl (fun h2 => ?_) (fun h2 => ?_)
  ·
   -- yes
   have h2 := beq_iff_eq.1 h2
   refine TC.skip (TX.next ?_)
   refine TC.condB rfl (fun h3 => ?_) (fun h3 => ?_)
   ·
    -- yes
    have h3 := beq_iff_eq.1 h3
    refine TC.seq ?_
    have hen : ended s = [s.tk, ⟨5, s.h.f, s.h.t⟩] := by unfold ended; simp_all
    refine TC.region (TO.move rfl (by decide) rfl (TO.move rfl (by decide) rfl (TO.nilCheck rfl (by decide) rfl (TO.fieldAddr fl_152_1 rfl (by decide) rfl (show _ = 1 from rfl) (TO.loads (k := 0) (cs := [.int .i64 s.tk.k, .int .i64 (s.tk.f : Int), .int .i64 (s.tk.t : Int)]) rw_123 rfl (by decide) rfl rfl rfl rfl ?_)))))
    refine TO.yield hy rfl (by decide) rfl (pre := pre) (e := s.tk) (post := [⟨5, s.h.f, s.h.t⟩] ++ post) (by rw [hz, hen]; simp) rfl (k := 1) rfl ?_ ?_
    ·
     -- yes
     refine TO.move rfl (by decide) rfl (TO.move rfl (by decide) rfl (TO.move rfl (by decide) rfl (TO.nilCheck rfl (by decide) rfl (TO.fieldAddr fl_152_2 rfl (by decide) rfl (show _ = 4 from rfl) (TO.fieldAddr fl_150_2 rfl (by decide) rfl (show _ = 6 from rfl) (TO.loads (k := 0) (cs := [.int .i64 (s.h.f : Int), .int .i64 (s.h.t : Int)]) rw_34 rfl (by decide) rfl rfl rfl rfl ?_))))))
     refine TO.build (v := .agg #[.int .i64 5, .int .i64 (s.h.f : Int), .int .i64 (s.h.t : Int)]) (ps := [(0, .const (.int .i64 5)), (1, .tmp 26)]) rfl (by decide) rfl (fun _ => by kernel_rfl) ?_
     refine TO.yield hy rfl (by decide) rfl (pre := (pre ++ [s.tk])) (e := (⟨5, s.h.f, s.h.t⟩ : Tk)) (post := post) (by rw [hz, hen]; simp) rfl (k := 1) rfl ?_ ?_
     ·
      -- yes
      refine TO.pick (b := true) rfl (by decide) rfl rfl (TO.assign rfl (by decide) rfl (TO.nil (TX.next (TC.ret (TX.blockRet (TX.thenRet (TX.rewE (k := 1) rfl (show I ((pre ++ [s.tk]) ++ [(⟨5, s.h.f, s.h.t⟩ : Tk)]) = I (pre ++ ended s) from (by simp [hen])) ?_)))))))
      show TX _ _ _ _ _ _ _ [cells b [.int .i64 s.st, .int .i64 s.tk.k, .int .i64 (s.tk.f : Int), .int .i64 (s.tk.t : Int), .int .i64 s.h.k, .int .i32 (s.h.r : Int), .int .i64 (s.h.f : Int), .int .i64 (s.h.t : Int), .bool s.h.al] 152, I (pre ++ ended s)]
      exact TX.fin (rs := [.tmp 4]) (none : Option (List Tk × Tk × List Tk)) (.inl rfl) Tryd.results89 (.cons (.tmp rfl) .nil) rfl (Splits.of [0, 1] (by as_aux_lemma => kernel_rfl) rfl)
     ·
      -- no
      refine TO.pick (b := true) rfl (by decide) rfl rfl (TO.assign rfl (by decide) rfl (TO.nil (TX.next (TC.ret (TX.blockRet (TX.thenRet (TX.rewE (k := 1) rfl (show X ((pre ++ [s.tk]) ++ [(⟨5, s.h.f, s.h.t⟩ : Tk)]) = X (pre ++ (([s.tk], (⟨5, s.h.f, s.h.t⟩ : Tk), []) : List Tk × Tk × List Tk).1 ++ [(([s.tk], (⟨5, s.h.f, s.h.t⟩ : Tk), []) : List Tk × Tk × List Tk).2.1]) from (by simp)) ?_)))))))
      show TX _ _ _ _ _ _ _ [cells b [.int .i64 s.st, .int .i64 s.tk.k, .int .i64 (s.tk.f : Int), .int .i64 (s.tk.t : Int), .int .i64 s.h.k, .int .i32 (s.h.r : Int), .int .i64 (s.h.f : Int), .int .i64 (s.h.t : Int), .bool s.h.al] 152, X (pre ++ (([s.tk], (⟨5, s.h.f, s.h.t⟩ : Tk), []) : List Tk × Tk × List Tk).1 ++ [(([s.tk], (⟨5, s.h.f, s.h.t⟩ : Tk), []) : List Tk × Tk × List Tk).2.1])]
      exact TX.finE (rs := [.tmp 4]) (As := [cells b (scV s) 152, X (pre ++ (([s.tk], (⟨5, s.h.f, s.h.t⟩ : Tk), []) : List Tk × Tk × List Tk).1 ++ [(([s.tk], (⟨5, s.h.f, s.h.t⟩ : Tk), []) : List Tk × Tk × List Tk).2.1])]) (p := ended s = (([s.tk], (⟨5, s.h.f, s.h.t⟩ : Tk), []) : List Tk × Tk × List Tk).1 ++ (([s.tk], (⟨5, s.h.f, s.h.t⟩ : Tk), []) : List Tk × Tk × List Tk).2.1 :: (([s.tk], (⟨5, s.h.f, s.h.t⟩ : Tk), []) : List Tk × Tk × List Tk).2.2) (some (([s.tk], (⟨5, s.h.f, s.h.t⟩ : Tk), []) : List Tk × Tk × List Tk)) (.inl rfl) Tryd.results89 (.cons (.tmp rfl) .nil) rfl (Splits.of [0, 1] (by as_aux_lemma => kernel_rfl) rfl) (by rw [hen]; rfl)
    ·
     -- no
     refine TO.move rfl (by decide) rfl (TO.skip rfl (by decide) (TO.skip rfl (by decide) (TO.skip rfl (by decide) (TO.skip rfl (by decide) (TO.skip rfl (by decide) (TO.skip rfl (by decide) (TO.skip rfl (by decide) (TO.skip rfl (by decide) (TO.pick (b := false) rfl (by decide) rfl rfl (TO.assign rfl (by decide) rfl (TO.nil (TX.next (TC.ret ?_)))))))))))))
     refine TX.blockRet (TX.thenRet (TX.rewE (k := 1) rfl (show X (pre ++ [s.tk]) = X (pre ++ (([], s.tk, [(⟨5, s.h.f, s.h.t⟩ : Tk)]) : List Tk × Tk × List Tk).1 ++ [(([], s.tk, [(⟨5, s.h.f, s.h.t⟩ : Tk)]) : List Tk × Tk × List Tk).2.1]) from (by simp)) ?_))
     show TX _ _ _ _ _ _ _ [cells b [.int .i64 s.st, .int .i64 s.tk.k, .int .i64 (s.tk.f : Int), .int .i64 (s.tk.t : Int), .int .i64 s.h.k, .int .i32 (s.h.r : Int), .int .i64 (s.h.f : Int), .int .i64 (s.h.t : Int), .bool s.h.al] 152, X (pre ++ (([], s.tk, [(⟨5, s.h.f, s.h.t⟩ : Tk)]) : List Tk × Tk × List Tk).1 ++ [(([], s.tk, [(⟨5, s.h.f, s.h.t⟩ : Tk)]) : List Tk × Tk × List Tk).2.1])]
     exact TX.finE (rs := [.tmp 4]) (As := [cells b (scV s) 152, X (pre ++ (([], s.tk, [(⟨5, s.h.f, s.h.t⟩ : Tk)]) : List Tk × Tk × List Tk).1 ++ [(([], s.tk, [(⟨5, s.h.f, s.h.t⟩ : Tk)]) : List Tk × Tk × List Tk).2.1])]) (p := ended s = (([], s.tk, [(⟨5, s.h.f, s.h.t⟩ : Tk)]) : List Tk × Tk × List Tk).1 ++ (([], s.tk, [(⟨5, s.h.f, s.h.t⟩ : Tk)]) : List Tk × Tk × List Tk).2.1 :: (([], s.tk, [(⟨5, s.h.f, s.h.t⟩ : Tk)]) : List Tk × Tk × List Tk).2.2) (some (([], s.tk, [(⟨5, s.h.f, s.h.t⟩ : Tk)]) : List Tk × Tk × List Tk)) (.inl rfl) Tryd.results89 (.cons (.tmp rfl) .nil) rfl (Splits.of [0, 1] (by as_aux_lemma => kernel_rfl) rfl) (by rw [hen]; rfl)
   ·
    -- no
    have h3 := beq_eq_false_iff_ne.1 h3
    refine TC.skip (TX.blockNormal (TX.next (TC.seq ?_)))
    have hen : ended s = [s.tk] := by unfold ended; simp_all
    refine TC.region (TO.move rfl (by decide) rfl (TO.move rfl (by decide) rfl (TO.nilCheck rfl (by decide) rfl (TO.fieldAddr fl_152_1 rfl (by decide) rfl (show _ = 1 from rfl) (TO.loads (k := 0) (cs := [.int .i64 s.tk.k, .int .i64 (s.tk.f : Int), .int .i64 (s.tk.t : Int)]) rw_123 rfl (by decide) rfl rfl rfl rfl ?_)))))
    refine TO.yield hy rfl (by decide) rfl (pre := pre) (e := s.tk) (post := post) (by rw [hz, hen]; simp) rfl (k := 1) rfl ?_ ?_
    ·
     -- yes
     refine TO.assign rfl (by decide) rfl (TO.nil (TX.next (TC.ret (TX.rewE (k := 1) rfl (show I (pre ++ [s.tk]) = I (pre ++ ended s) from (by simp [hen])) ?_))))
     show TX _ _ _ _ _ _ _ [cells b [.int .i64 s.st, .int .i64 s.tk.k, .int .i64 (s.tk.f : Int), .int .i64 (s.tk.t : Int), .int .i64 s.h.k, .int .i32 (s.h.r : Int), .int .i64 (s.h.f : Int), .int .i64 (s.h.t : Int), .bool s.h.al] 152, I (pre ++ ended s)]
     exact TX.fin (rs := [.tmp 4]) (none : Option (List Tk × Tk × List Tk)) (.inl rfl) Tryd.results89 (.cons (.tmp rfl) .nil) rfl (Splits.of [0, 1] (by as_aux_lemma => kernel_rfl) rfl)
    ·
     -- no
     refine TO.assign rfl (by decide) rfl (TO.nil (TX.next (TC.ret (TX.rewE (k := 1) rfl (show X (pre ++ [s.tk]) = X (pre ++ (([], s.tk, []) : List Tk × Tk × List Tk).1 ++ [(([], s.tk, []) : List Tk × Tk × List Tk).2.1]) from (by simp)) ?_))))
     show TX _ _ _ _ _ _ _ [cells b [.int .i64 s.st, .int .i64 s.tk.k, .int .i64 (s.tk.f : Int), .int .i64 (s.tk.t : Int), .int .i64 s.h.k, .int .i32 (s.h.r : Int), .int .i64 (s.h.f : Int), .int .i64 (s.h.t : Int), .bool s.h.al] 152, X (pre ++ (([], s.tk, []) : List Tk × Tk × List Tk).1 ++ [(([], s.tk, []) : List Tk × Tk × List Tk).2.1])]
     exact TX.finE (rs := [.tmp 4]) (As := [cells b (scV s) 152, X (pre ++ (([], s.tk, []) : List Tk × Tk × List Tk).1 ++ [(([], s.tk, []) : List Tk × Tk × List Tk).2.1])]) (p := ended s = (([], s.tk, []) : List Tk × Tk × List Tk).1 ++ (([], s.tk, []) : List Tk × Tk × List Tk).2.1 :: (([], s.tk, []) : List Tk × Tk × List Tk).2.2) (some (([], s.tk, []) : List Tk × Tk × List Tk)) (.inl rfl) Tryd.results89 (.cons (.tmp rfl) .nil) rfl (Splits.of [0, 1] (by as_aux_lemma => kernel_rfl) rfl) (by rw [hen]; rfl)
  ·
   -- no
   have h2 := beq_eq_false_iff_ne.1 h2
   refine TC.region (TO.bin rfl (by decide) rfl rfl bin_eql (TO.assign rfl (by decide) rfl (TO.nil (TX.next ?_))))
   refine TC.condB rfl (fun h4 => ?_) (fun h4 => ?_)
   ·
    -- yes
    have h4 := beq_iff_eq.1 h4
    refine TC.seq ?_
    have hen : ended s = [s.tk, ⟨5, s.h.f, s.h.t⟩] := by unfold ended; simp_all
    refine TC.region (TO.move rfl (by decide) rfl (TO.move rfl (by decide) rfl (TO.nilCheck rfl (by decide) rfl (TO.fieldAddr fl_152_1 rfl (by decide) rfl (show _ = 1 from rfl) (TO.loads (k := 0) (cs := [.int .i64 s.tk.k, .int .i64 (s.tk.f : Int), .int .i64 (s.tk.t : Int)]) rw_123 rfl (by decide) rfl rfl rfl rfl ?_)))))
    refine TO.yield hy rfl (by decide) rfl (pre := pre) (e := s.tk) (post := [⟨5, s.h.f, s.h.t⟩] ++ post) (by rw [hz, hen]; simp) rfl (k := 1) rfl ?_ ?_
    ·
     -- yes
     refine TO.move rfl (by decide) rfl (TO.move rfl (by decide) rfl (TO.move rfl (by decide) rfl (TO.nilCheck rfl (by decide) rfl (TO.fieldAddr fl_152_2 rfl (by decide) rfl (show _ = 4 from rfl) (TO.fieldAddr fl_150_2 rfl (by decide) rfl (show _ = 6 from rfl) (TO.loads (k := 0) (cs := [.int .i64 (s.h.f : Int), .int .i64 (s.h.t : Int)]) rw_34 rfl (by decide) rfl rfl rfl rfl ?_))))))
     refine TO.build (v := .agg #[.int .i64 5, .int .i64 (s.h.f : Int), .int .i64 (s.h.t : Int)]) (ps := [(0, .const (.int .i64 5)), (1, .tmp 26)]) rfl (by decide) rfl (fun _ => by kernel_rfl) ?_
     refine TO.yield hy rfl (by decide) rfl (pre := (pre ++ [s.tk])) (e := (⟨5, s.h.f, s.h.t⟩ : Tk)) (post := post) (by rw [hz, hen]; simp) rfl (k := 1) rfl ?_ ?_
     ·
      -- yes
      refine TO.pick (b := true) rfl (by decide) rfl rfl (TO.assign rfl (by decide) rfl (TO.nil (TX.next (TC.ret (TX.blockRet (TX.thenRet (TX.rewE (k := 1) rfl (show I ((pre ++ [s.tk]) ++ [(⟨5, s.h.f, s.h.t⟩ : Tk)]) = I (pre ++ ended s) from (by simp [hen])) ?_)))))))
      show TX _ _ _ _ _ _ _ [cells b [.int .i64 s.st, .int .i64 s.tk.k, .int .i64 (s.tk.f : Int), .int .i64 (s.tk.t : Int), .int .i64 s.h.k, .int .i32 (s.h.r : Int), .int .i64 (s.h.f : Int), .int .i64 (s.h.t : Int), .bool s.h.al] 152, I (pre ++ ended s)]
      exact TX.fin (rs := [.tmp 4]) (none : Option (List Tk × Tk × List Tk)) (.inl rfl) Tryd.results89 (.cons (.tmp rfl) .nil) rfl (Splits.of [0, 1] (by as_aux_lemma => kernel_rfl) rfl)
     ·
      -- no
      refine TO.pick (b := true) rfl (by decide) rfl rfl (TO.assign rfl (by decide) rfl (TO.nil (TX.next (TC.ret (TX.blockRet (TX.thenRet (TX.rewE (k := 1) rfl (show X ((pre ++ [s.tk]) ++ [(⟨5, s.h.f, s.h.t⟩ : Tk)]) = X (pre ++ (([s.tk], (⟨5, s.h.f, s.h.t⟩ : Tk), []) : List Tk × Tk × List Tk).1 ++ [(([s.tk], (⟨5, s.h.f, s.h.t⟩ : Tk), []) : List Tk × Tk × List Tk).2.1]) from (by simp)) ?_)))))))
      show TX _ _ _ _ _ _ _ [cells b [.int .i64 s.st, .int .i64 s.tk.k, .int .i64 (s.tk.f : Int), .int .i64 (s.tk.t : Int), .int .i64 s.h.k, .int .i32 (s.h.r : Int), .int .i64 (s.h.f : Int), .int .i64 (s.h.t : Int), .bool s.h.al] 152, X (pre ++ (([s.tk], (⟨5, s.h.f, s.h.t⟩ : Tk), []) : List Tk × Tk × List Tk).1 ++ [(([s.tk], (⟨5, s.h.f, s.h.t⟩ : Tk), []) : List Tk × Tk × List Tk).2.1])]
      exact TX.finE (rs := [.tmp 4]) (As := [cells b (scV s) 152, X (pre ++ (([s.tk], (⟨5, s.h.f, s.h.t⟩ : Tk), []) : List Tk × Tk × List Tk).1 ++ [(([s.tk], (⟨5, s.h.f, s.h.t⟩ : Tk), []) : List Tk × Tk × List Tk).2.1])]) (p := ended s = (([s.tk], (⟨5, s.h.f, s.h.t⟩ : Tk), []) : List Tk × Tk × List Tk).1 ++ (([s.tk], (⟨5, s.h.f, s.h.t⟩ : Tk), []) : List Tk × Tk × List Tk).2.1 :: (([s.tk], (⟨5, s.h.f, s.h.t⟩ : Tk), []) : List Tk × Tk × List Tk).2.2) (some (([s.tk], (⟨5, s.h.f, s.h.t⟩ : Tk), []) : List Tk × Tk × List Tk)) (.inl rfl) Tryd.results89 (.cons (.tmp rfl) .nil) rfl (Splits.of [0, 1] (by as_aux_lemma => kernel_rfl) rfl) (by rw [hen]; rfl)
    ·
     -- no
     refine TO.move rfl (by decide) rfl (TO.skip rfl (by decide) (TO.skip rfl (by decide) (TO.skip rfl (by decide) (TO.skip rfl (by decide) (TO.skip rfl (by decide) (TO.skip rfl (by decide) (TO.skip rfl (by decide) (TO.skip rfl (by decide) (TO.pick (b := false) rfl (by decide) rfl rfl (TO.assign rfl (by decide) rfl (TO.nil (TX.next (TC.ret ?_)))))))))))))
     refine TX.blockRet (TX.thenRet (TX.rewE (k := 1) rfl (show X (pre ++ [s.tk]) = X (pre ++ (([], s.tk, [(⟨5, s.h.f, s.h.t⟩ : Tk)]) : List Tk × Tk × List Tk).1 ++ [(([], s.tk, [(⟨5, s.h.f, s.h.t⟩ : Tk)]) : List Tk × Tk × List Tk).2.1]) from (by simp)) ?_))
     show TX _ _ _ _ _ _ _ [cells b [.int .i64 s.st, .int .i64 s.tk.k, .int .i64 (s.tk.f : Int), .int .i64 (s.tk.t : Int), .int .i64 s.h.k, .int .i32 (s.h.r : Int), .int .i64 (s.h.f : Int), .int .i64 (s.h.t : Int), .bool s.h.al] 152, X (pre ++ (([], s.tk, [(⟨5, s.h.f, s.h.t⟩ : Tk)]) : List Tk × Tk × List Tk).1 ++ [(([], s.tk, [(⟨5, s.h.f, s.h.t⟩ : Tk)]) : List Tk × Tk × List Tk).2.1])]
     exact TX.finE (rs := [.tmp 4]) (As := [cells b (scV s) 152, X (pre ++ (([], s.tk, [(⟨5, s.h.f, s.h.t⟩ : Tk)]) : List Tk × Tk × List Tk).1 ++ [(([], s.tk, [(⟨5, s.h.f, s.h.t⟩ : Tk)]) : List Tk × Tk × List Tk).2.1])]) (p := ended s = (([], s.tk, [(⟨5, s.h.f, s.h.t⟩ : Tk)]) : List Tk × Tk × List Tk).1 ++ (([], s.tk, [(⟨5, s.h.f, s.h.t⟩ : Tk)]) : List Tk × Tk × List Tk).2.1 :: (([], s.tk, [(⟨5, s.h.f, s.h.t⟩ : Tk)]) : List Tk × Tk × List Tk).2.2) (some (([], s.tk, [(⟨5, s.h.f, s.h.t⟩ : Tk)]) : List Tk × Tk × List Tk)) (.inl rfl) Tryd.results89 (.cons (.tmp rfl) .nil) rfl (Splits.of [0, 1] (by as_aux_lemma => kernel_rfl) rfl) (by rw [hen]; rfl)
   ·
    -- no
    have h4 := beq_eq_false_iff_ne.1 h4
    refine TC.skip (TX.blockNormal (TX.next (TC.seq ?_)))
    have hen : ended s = [s.tk] := by unfold ended; simp_all
    refine TC.region (TO.move rfl (by decide) rfl (TO.move rfl (by decide) rfl (TO.nilCheck rfl (by decide) rfl (TO.fieldAddr fl_152_1 rfl (by decide) rfl (show _ = 1 from rfl) (TO.loads (k := 0) (cs := [.int .i64 s.tk.k, .int .i64 (s.tk.f : Int), .int .i64 (s.tk.t : Int)]) rw_123 rfl (by decide) rfl rfl rfl rfl ?_)))))
    refine TO.yield hy rfl (by decide) rfl (pre := pre) (e := s.tk) (post := post) (by rw [hz, hen]; simp) rfl (k := 1) rfl ?_ ?_
    ·
     -- yes
     refine TO.assign rfl (by decide) rfl (TO.nil (TX.next (TC.ret (TX.rewE (k := 1) rfl (show I (pre ++ [s.tk]) = I (pre ++ ended s) from (by simp [hen])) ?_))))
     show TX _ _ _ _ _ _ _ [cells b [.int .i64 s.st, .int .i64 s.tk.k, .int .i64 (s.tk.f : Int), .int .i64 (s.tk.t : Int), .int .i64 s.h.k, .int .i32 (s.h.r : Int), .int .i64 (s.h.f : Int), .int .i64 (s.h.t : Int), .bool s.h.al] 152, I (pre ++ ended s)]
     exact TX.fin (rs := [.tmp 4]) (none : Option (List Tk × Tk × List Tk)) (.inl rfl) Tryd.results89 (.cons (.tmp rfl) .nil) rfl (Splits.of [0, 1] (by as_aux_lemma => kernel_rfl) rfl)
    ·
     -- no
     refine TO.assign rfl (by decide) rfl (TO.nil (TX.next (TC.ret (TX.rewE (k := 1) rfl (show X (pre ++ [s.tk]) = X (pre ++ (([], s.tk, []) : List Tk × Tk × List Tk).1 ++ [(([], s.tk, []) : List Tk × Tk × List Tk).2.1]) from (by simp)) ?_))))
     show TX _ _ _ _ _ _ _ [cells b [.int .i64 s.st, .int .i64 s.tk.k, .int .i64 (s.tk.f : Int), .int .i64 (s.tk.t : Int), .int .i64 s.h.k, .int .i32 (s.h.r : Int), .int .i64 (s.h.f : Int), .int .i64 (s.h.t : Int), .bool s.h.al] 152, X (pre ++ (([], s.tk, []) : List Tk × Tk × List Tk).1 ++ [(([], s.tk, []) : List Tk × Tk × List Tk).2.1])]
     exact TX.finE (rs := [.tmp 4]) (As := [cells b (scV s) 152, X (pre ++ (([], s.tk, []) : List Tk × Tk × List Tk).1 ++ [(([], s.tk, []) : List Tk × Tk × List Tk).2.1])]) (p := ended s = (([], s.tk, []) : List Tk × Tk × List Tk).1 ++ (([], s.tk, []) : List Tk × Tk × List Tk).2.1 :: (([], s.tk, []) : List Tk × Tk × List Tk).2.2) (some (([], s.tk, []) : List Tk × Tk × List Tk)) (.inl rfl) Tryd.results89 (.cons (.tmp rfl) .nil) rfl (Splits.of [0, 1] (by as_aux_lemma => kernel_rfl) rfl) (by rw [hen]; rfl)
end Go.Proofs.YtgfkogafkhbgnaaDoor
namespace Go.Proofs.YtgfkogafkhbgnaaDoor
open Go.RowKit Go.Lib
set_option linter.unusedVariables false
set_option linter.unusedSimpArgs false
theorem TO.fact {F : Fence} {P : Program} {w0 : World} {K : Nat → Prop} {N : Nat} {dfs : List Deferred} {ops : Array Oper} {Q : Exit → Act → World → Prop} {rest : List Oper} {σ : List (Nat × Value)} {L : List Asn} {k : Nat} {p : Prop}
    (hk : L[k]? = some (Go.Proofs.YtgfkogafkhbgnaaDoor.fact p)) (h : p → TO F P w0 K N dfs ops Q rest σ L) : TO F P w0 K N dfs ops Q rest σ L := fun a w ha hw => by
  obtain ⟨C1, _, h2, _⟩ := hw.focus' hk
  exact h h2.2 a w ha hw
theorem fitted_zero (s : Sc) (u : Un) (h2 : (fits s.st u).2 ≠ 2) (h1 : (fits s.st u).2 ≠ 1) : fitted s u = s := by
  have h3 : (fits s.st u).1 = s.st := by
    revert h2 h1
    unfold fits
    repeat' split
    all_goals simp_all
  unfold fitted
  rw [if_neg h2, h3]
set_option maxRecDepth 100000 in
set_option maxHeartbeats 4000000 in
theorem scan1_itr (s : ByteArray) (hs : s.size ≤ 4611686018427387904) (Bs : Nat) : Itr Tryd.prog 86 [.pointer (some ⟨Bs, 0, none⟩)] tkA (scan (units (pcs s.data.toList))) [(Bs, .cells #[.string s] 9 (0, 0))] := by
 refine Itr.intro Tryd.func86 rfl Tryd.ntmps86 (by simp) ?_
 intro l w0 K I X hRo hy
 refine TC.seq (TC.region ?_)
 refine TO.box rfl (by decide) rfl (fun b1 => ?_)
 refine TO.nil (TX.next (TC.seq (TC.region ?_)))
 refine TO.alloc zr_152 rfl (by decide) (fun b2 => ?_)
 refine TO.nil (TX.next (TC.seq (TC.seq (TC.region (TO.loadRo (i := 0) hRo sc_9 rfl (by decide) rfl rfl rfl (TO.call (vs := [.string s]) rfl (by decide) rfl rfl rfl en_87 (units_fn s) Splits.nil ?_))))))
 rintro bp
 show TO _ _ _ _ _ _ _ _ _ _ [I [], cells b1 [.func (.yield l) #[] #[]] 147, cells b2 [.int .i64 0, .int .i64 0, .int .i64 0, .int .i64 0, .int .i64 0, .int .i32 0, .int .i64 0, .int .i64 0, .bool false] 152, cells bp [.string s] 9]
 refine TO.nil (TX.next (TC.block ?_))
 refine TC.range (α := Un) (β := List Tk × Sc) (γ := List Tk × Tk × List Tk) (δ := Nat) (ps := [7]) hRo rfl en_103 (units1_itr s (by omega) bp) (fun pre b => mfold pre = b) (fun pre b => [cells b1 [.func (.yield l) #[] #[]] 147, cells b2 [.int .i64 b.2.st, .int .i64 b.2.tk.k, .int .i64 (b.2.tk.f : Int), .int .i64 (b.2.tk.t : Int), .int .i64 b.2.h.k, .int .i32 (b.2.h.r : Int), .int .i64 (b.2.h.f : Int), .int .i64 (b.2.h.t : Int), .bool b.2.h.al] 152, I b.1]) (fun c pre g => c = .ret ∧ scan (units (pcs s.data.toList)) = g.1 ++ g.2.1 :: g.2.2) (fun c pre g => [X (g.1 ++ [g.2.1])]) (fun pre x b j => [(2, .pointer (some ⟨b1, 0, none⟩)), (3, .pointer (some ⟨b2, 0, none⟩)), (4, .pointer (some ⟨j, 0, none⟩))]) (fun pre x b j => [cells b1 [.func (.yield l) #[] #[]] 147, cells b2 [.int .i64 b.2.st, .int .i64 b.2.tk.k, .int .i64 (b.2.tk.f : Int), .int .i64 (b.2.tk.t : Int), .int .i64 b.2.h.k, .int .i32 (b.2.h.r : Int), .int .i64 (b.2.h.f : Int), .int .i64 (b.2.h.t : Int), .bool b.2.h.al] 152, I b.1, cells j [.int .i64 x.k, .int .i32 (x.r : Int), .int .i64 (x.f : Int), .int .i64 (x.t : Int), .bool x.al] 150]) ([], sc0) rfl (Splits.of [1, 2, 0] (by as_aux_lemma => kernel_rfl) rfl) ⟨.inl ⟨3, rfl⟩, trivial⟩ (fun _ => rfl) (by decide) ?_ ?_ ?_ ?_
 ·
  rintro lp rc pre x post b w1 K1 hxs hext hro hinv
  refine TC.region ?_
  refine TO.alloc zr_150 rfl (by decide) (fun b3 => ?_)
  refine TO.stores (k := 3) (vs := [.int .i64 x.k, .int .i32 (x.r : Int), .int .i64 (x.f : Int), .int .i64 (x.t : Int), .bool x.al]) (l' := [.int .i64 x.k, .int .i32 (x.r : Int), .int .i64 (x.f : Int), .int .i64 (x.t : Int), .bool x.al]) sz_150 rfl rfl rfl rfl rfl (show _ ≤ _ by simp) rfl rfl ?_
  show TO _ _ _ _ _ _ _ _ _ _ [cells b1 [.func (.yield l) #[] #[]] 147, cells b2 [.int .i64 b.2.st, .int .i64 b.2.tk.k, .int .i64 (b.2.tk.f : Int), .int .i64 (b.2.tk.t : Int), .int .i64 b.2.h.k, .int .i32 (b.2.h.r : Int), .int .i64 (b.2.h.f : Int), .int .i64 (b.2.h.t : Int), .bool b.2.h.al] 152, I b.1, cells b3 [.int .i64 x.k, .int .i32 (x.r : Int), .int .i64 (x.f : Int), .int .i64 (x.t : Int), .bool x.al] 150]
  refine TO.nil ?_
  exact fun a w ha hw => ⟨b3, (Sbs.cons rfl (Sbs.cons rfl (Sbs.cons rfl (Sbs.nil)))) _ _ _ ha, hw.weaken (Splits.of [0, 1, 2, 3] (by as_aux_lemma => kernel_rfl) rfl)⟩
 ·
  rintro lp rc pre x post b j w1 K1 hxs hext hro hinv
  obtain ⟨E, sc⟩ := b
  have hinv : mfold pre = (E, sc) := hinv
  have hsn := mfold_snoc pre x
  rw [hinv] at hsn
  show TC _ _ _ _ _ _ _ _ _ [cells b1 [.func (.yield l) #[] #[]] 147, cells b2 [.int .i64 sc.st, .int .i64 sc.tk.k, .int .i64 (sc.tk.f : Int), .int .i64 (sc.tk.t : Int), .int .i64 sc.h.k, .int .i32 (sc.h.r : Int), .int .i64 (sc.h.f : Int), .int .i64 (sc.h.t : Int), .bool sc.h.al] 152, I E, cells j [.int .i64 x.k, .int .i32 (x.r : Int), .int .i64 (x.f : Int), .int .i64 (x.t : Int), .bool x.al] 150]
  by_cases h2 : (fits sc.st x).2 = 2
  ·
   refine TC.block ?_
   refine TC.scope (β := Unit) (l := 0) (fun _ => False) (fun _ => [(2, .pointer (some ⟨b1, 0, none⟩)), (3, .pointer (some ⟨b2, 0, none⟩)), (4, .pointer (some ⟨j, 0, none⟩))]) (fun _ => [cells b1 [.func (.yield l) #[] #[]] 147, cells b2 [.int .i64 ((fitted sc x).st), .int .i64 ((fitted sc x).tk.k), .int .i64 ((fitted sc x).tk.f : Int), .int .i64 ((fitted sc x).tk.t : Int), .int .i64 ((fitted sc x).h.k), .int .i32 ((fitted sc x).h.r : Int), .int .i64 ((fitted sc x).h.f : Int), .int .i64 ((fitted sc x).h.t : Int), .bool ((fitted sc x).h.al)] 152, I E, cells j [.int .i64 x.k, .int .i32 (x.r : Int), .int .i64 (x.f : Int), .int .i64 (x.t : Int), .bool x.al] 150]) rfl ?_ ?_
   ·
    refine TC.seq (TC.seq (TC.region (TO.loads (k := 3) (cs := [.int .i64 x.k, .int .i32 (x.r : Int), .int .i64 (x.f : Int), .int .i64 (x.t : Int), .bool x.al]) rw_150 rfl (by decide) rfl rfl rfl rfl (TO.call (vs := [.pointer (some ⟨b2, 0, none⟩), .agg #[.int .i64 x.k, .int .i32 (x.r : Int), .int .i64 (x.f : Int), .int .i64 (x.t : Int), .bool x.al]]) rfl (by decide) rfl rfl rfl en_88 (fits_fn b2 sc x) (Splits.of [1] (by as_aux_lemma => kernel_rfl) rfl) ?_))))
    rintro ⟨⟩
    show TO _ _ _ _ _ _ _ _ _ _ [cells b1 [.func (.yield l) #[] #[]] 147, emp, I E, cells j [.int .i64 x.k, .int .i32 (x.r : Int), .int .i64 (x.f : Int), .int .i64 (x.t : Int), .bool x.al] 150, cells b2 [.int .i64 ((fitted sc x).st), .int .i64 ((fitted sc x).tk.k), .int .i64 ((fitted sc x).tk.f : Int), .int .i64 ((fitted sc x).tk.t : Int), .int .i64 ((fitted sc x).h.k), .int .i32 ((fitted sc x).h.r : Int), .int .i64 ((fitted sc x).h.f : Int), .int .i64 ((fitted sc x).h.t : Int), .bool ((fitted sc x).h.al)] 152]
    refine TO.nil (TX.next (TC.block (TC.seq (TC.region (TO.bin rfl (by decide) rfl rfl (bin_known (congrArg Value.bool (show ((((fits sc.st x).2) : Int) == 2) = true from (beq_iff_eq.2 h2))) bin_eql) (TO.assign rfl (by decide) rfl (TO.nil (TX.next (TC.condT rfl (TC.exit (TX.blockOn (by decide) (TX.thenExit (TX.jumpOn (by simp) ?_)))))))))))))
    refine TX.blockHere ?_
    exact TX.round (E, fitted sc x) (by show mfold (pre ++ [x]) = _; rw [hsn]; simp only [mstep, fitted]; rw [if_pos h2, if_pos h2]) (Splits.of [0, 4, 2] (by as_aux_lemma => kernel_rfl) rfl)
   ·
    rintro ⟨⟩ hI
    show TC _ _ _ _ _ _ _ _ _ [cells b1 [.func (.yield l) #[] #[]] 147, cells b2 [.int .i64 ((fitted sc x).st), .int .i64 ((fitted sc x).tk.k), .int .i64 ((fitted sc x).tk.f : Int), .int .i64 ((fitted sc x).tk.t : Int), .int .i64 ((fitted sc x).h.k), .int .i32 ((fitted sc x).h.r : Int), .int .i64 ((fitted sc x).h.f : Int), .int .i64 ((fitted sc x).h.t : Int), .bool ((fitted sc x).h.al)] 152, I E, cells j [.int .i64 x.k, .int .i32 (x.r : Int), .int .i64 (x.f : Int), .int .i64 (x.t : Int), .bool x.al] 150]
    exact hI.elim
  ·
   by_cases h1 : (fits sc.st x).2 = 1
   ·
    refine TC.block ?_
    refine TC.scope (β := Unit) (l := 0) (fun _ => True) (fun _ => [(2, .pointer (some ⟨b1, 0, none⟩)), (3, .pointer (some ⟨b2, 0, none⟩)), (4, .pointer (some ⟨j, 0, none⟩))]) (fun _ => [cells b1 [.func (.yield l) #[] #[]] 147, cells b2 [.int .i64 ((fitted sc x).st), .int .i64 ((fitted sc x).tk.k), .int .i64 ((fitted sc x).tk.f : Int), .int .i64 ((fitted sc x).tk.t : Int), .int .i64 ((fitted sc x).h.k), .int .i32 ((fitted sc x).h.r : Int), .int .i64 ((fitted sc x).h.f : Int), .int .i64 ((fitted sc x).h.t : Int), .bool ((fitted sc x).h.al)] 152, I E, cells j [.int .i64 x.k, .int .i32 (x.r : Int), .int .i64 (x.f : Int), .int .i64 (x.t : Int), .bool x.al] 150]) rfl ?_ ?_
    ·
     refine TC.seq (TC.seq (TC.region (TO.loads (k := 3) (cs := [.int .i64 x.k, .int .i32 (x.r : Int), .int .i64 (x.f : Int), .int .i64 (x.t : Int), .bool x.al]) rw_150 rfl (by decide) rfl rfl rfl rfl (TO.call (vs := [.pointer (some ⟨b2, 0, none⟩), .agg #[.int .i64 x.k, .int .i32 (x.r : Int), .int .i64 (x.f : Int), .int .i64 (x.t : Int), .bool x.al]]) rfl (by decide) rfl rfl rfl en_88 (fits_fn b2 sc x) (Splits.of [1] (by as_aux_lemma => kernel_rfl) rfl) ?_))))
     rintro ⟨⟩
     show TO _ _ _ _ _ _ _ _ _ _ [cells b1 [.func (.yield l) #[] #[]] 147, emp, I E, cells j [.int .i64 x.k, .int .i32 (x.r : Int), .int .i64 (x.f : Int), .int .i64 (x.t : Int), .bool x.al] 150, cells b2 [.int .i64 ((fitted sc x).st), .int .i64 ((fitted sc x).tk.k), .int .i64 ((fitted sc x).tk.f : Int), .int .i64 ((fitted sc x).tk.t : Int), .int .i64 ((fitted sc x).h.k), .int .i32 ((fitted sc x).h.r : Int), .int .i64 ((fitted sc x).h.f : Int), .int .i64 ((fitted sc x).h.t : Int), .bool ((fitted sc x).h.al)] 152]
     refine TO.nil (TX.next (TC.block (TC.seq (TC.region (TO.bin rfl (by decide) rfl rfl (bin_known (congrArg Value.bool (show ((((fits sc.st x).2) : Int) == 2) = false from (beq_eq_false_iff_ne.2 h2))) bin_eql) (TO.assign rfl (by decide) rfl (TO.nil (TX.next (TC.condF rfl (TC.seq (TC.region (TO.bin rfl (by decide) rfl rfl (bin_known (congrArg Value.bool (show ((((fits sc.st x).2) : Int) == 1) = true from (beq_iff_eq.2 h1))) bin_eql) (TO.assign rfl (by decide) rfl ?_)))))))))))))
     refine TO.nil (TX.next (TC.condT rfl (TC.goto (TX.blockGoto (TX.thenGoto ?_)))))
     exact TX.jump () trivial (Sbs.cons rfl (Sbs.cons rfl (Sbs.cons rfl (Sbs.nil)))) (Splits.of [0, 4, 2, 3] (by as_aux_lemma => kernel_rfl) rfl)
    ·
     rintro ⟨⟩ hI
     show TC _ _ _ _ _ _ _ _ _ [cells b1 [.func (.yield l) #[] #[]] 147, cells b2 [.int .i64 ((fitted sc x).st), .int .i64 ((fitted sc x).tk.k), .int .i64 ((fitted sc x).tk.f : Int), .int .i64 ((fitted sc x).tk.t : Int), .int .i64 ((fitted sc x).h.k), .int .i32 ((fitted sc x).h.r : Int), .int .i64 ((fitted sc x).h.f : Int), .int .i64 ((fitted sc x).h.t : Int), .bool ((fitted sc x).h.al)] 152, I E, cells j [.int .i64 x.k, .int .i32 (x.r : Int), .int .i64 (x.f : Int), .int .i64 (x.t : Int), .bool x.al] 150]
     refine TC.seq (TC.skip (TX.next (TC.region (TO.fieldAddr fl_150_2 rfl (by decide) rfl (show _ = 2 from rfl) (TO.fieldAddr fl_34_1 rfl (by decide) rfl (show _ = 3 from rfl) (TO.load (k := 3) sc_3 rfl (by decide) rfl rfl rfl (TO.fieldAddr fl_152_1 rfl (by decide) rfl (show _ = 1 from rfl) (TO.fieldAddr fl_123_1 rfl (by decide) rfl (show _ = 2 from rfl) (TO.fieldAddr fl_34_1 rfl (by decide) rfl (show _ = 3 from rfl) ?_)))))))))
     refine TO.store (k := 1) (l' := [.int .i64 ((fitted sc x).st), .int .i64 ((fitted sc x).tk.k), .int .i64 ((fitted sc x).tk.f : Int), .int .i64 (x.t : Int), .int .i64 ((fitted sc x).h.k), .int .i32 ((fitted sc x).h.r : Int), .int .i64 ((fitted sc x).h.f : Int), .int .i64 ((fitted sc x).h.t : Int), .bool ((fitted sc x).h.al)]) sz_3 rfl rfl rfl rfl rfl (fun _ _ => rfl) rfl ?_
     refine TO.nil (TX.noGoto (by simp) (TX.blockNormal ?_))
     exact TX.round (E, ⟨(fits sc.st x).1, ⟨sc.tk.k, sc.tk.f, x.t⟩, (fitted sc x).h⟩) (by show mfold (pre ++ [x]) = _; rw [hsn]; simp only [mstep, fitted]; rw [if_neg h2, if_pos h1, if_neg h2]) (Splits.of [0, 1, 2] (by as_aux_lemma => kernel_rfl) rfl)
   ·
    refine TC.block ?_
    refine TC.scope (β := Unit) (l := 0) (fun _ => False) (fun _ => [(2, .pointer (some ⟨b1, 0, none⟩)), (3, .pointer (some ⟨b2, 0, none⟩)), (4, .pointer (some ⟨j, 0, none⟩))]) (fun _ => [cells b1 [.func (.yield l) #[] #[]] 147, cells b2 [.int .i64 ((fitted sc x).st), .int .i64 ((fitted sc x).tk.k), .int .i64 ((fitted sc x).tk.f : Int), .int .i64 ((fitted sc x).tk.t : Int), .int .i64 ((fitted sc x).h.k), .int .i32 ((fitted sc x).h.r : Int), .int .i64 ((fitted sc x).h.f : Int), .int .i64 ((fitted sc x).h.t : Int), .bool ((fitted sc x).h.al)] 152, I E, cells j [.int .i64 x.k, .int .i32 (x.r : Int), .int .i64 (x.f : Int), .int .i64 (x.t : Int), .bool x.al] 150]) rfl ?_ ?_
    ·
     refine TC.seq (TC.seq (TC.region (TO.loads (k := 3) (cs := [.int .i64 x.k, .int .i32 (x.r : Int), .int .i64 (x.f : Int), .int .i64 (x.t : Int), .bool x.al]) rw_150 rfl (by decide) rfl rfl rfl rfl (TO.call (vs := [.pointer (some ⟨b2, 0, none⟩), .agg #[.int .i64 x.k, .int .i32 (x.r : Int), .int .i64 (x.f : Int), .int .i64 (x.t : Int), .bool x.al]]) rfl (by decide) rfl rfl rfl en_88 (fits_fn b2 sc x) (Splits.of [1] (by as_aux_lemma => kernel_rfl) rfl) ?_))))
     rintro ⟨⟩
     show TO _ _ _ _ _ _ _ _ _ _ [cells b1 [.func (.yield l) #[] #[]] 147, emp, I E, cells j [.int .i64 x.k, .int .i32 (x.r : Int), .int .i64 (x.f : Int), .int .i64 (x.t : Int), .bool x.al] 150, cells b2 [.int .i64 ((fitted sc x).st), .int .i64 ((fitted sc x).tk.k), .int .i64 ((fitted sc x).tk.f : Int), .int .i64 ((fitted sc x).tk.t : Int), .int .i64 ((fitted sc x).h.k), .int .i32 ((fitted sc x).h.r : Int), .int .i64 ((fitted sc x).h.f : Int), .int .i64 ((fitted sc x).h.t : Int), .bool ((fitted sc x).h.al)] 152]
     refine TO.nil (TX.next (TC.block (TC.seq (TC.region (TO.bin rfl (by decide) rfl rfl (bin_known (congrArg Value.bool (show ((((fits sc.st x).2) : Int) == 2) = false from (beq_eq_false_iff_ne.2 h2))) bin_eql) (TO.assign rfl (by decide) rfl (TO.nil (TX.next (TC.condF rfl (TC.seq (TC.region (TO.bin rfl (by decide) rfl rfl (bin_known (congrArg Value.bool (show ((((fits sc.st x).2) : Int) == 1) = false from (beq_eq_false_iff_ne.2 h1))) bin_eql) (TO.assign rfl (by decide) rfl ?_)))))))))))))
     refine TO.nil (TX.next (TC.condF rfl (TC.skip (TX.blockNormal (TX.next (TC.seq (TC.seq (TC.region (TO.load (k := 0) sc_147 rfl (by decide) rfl rfl rfl ?_)))))))))
     refine TO.rewE (k := 4) rfl (show cells b2 [.int .i64 ((fitted sc x).st), .int .i64 ((fitted sc x).tk.k), .int .i64 ((fitted sc x).tk.f : Int), .int .i64 ((fitted sc x).tk.t : Int), .int .i64 ((fitted sc x).h.k), .int .i32 ((fitted sc x).h.r : Int), .int .i64 ((fitted sc x).h.f : Int), .int .i64 ((fitted sc x).h.t : Int), .bool ((fitted sc x).h.al)] 152 = cells b2 [.int .i64 sc.st, .int .i64 sc.tk.k, .int .i64 (sc.tk.f : Int), .int .i64 (sc.tk.t : Int), .int .i64 sc.h.k, .int .i32 (sc.h.r : Int), .int .i64 (sc.h.f : Int), .int .i64 (sc.h.t : Int), .bool sc.h.al] 152 from (congrArg (fun z => cells b2 (scV z) 152) (fitted_zero sc x h2 h1))) ?_
     show TO _ _ _ _ _ _ _ _ _ _ [cells b1 [.func (.yield l) #[] #[]] 147, emp, I E, cells j [.int .i64 x.k, .int .i32 (x.r : Int), .int .i64 (x.f : Int), .int .i64 (x.t : Int), .bool x.al] 150, cells b2 [.int .i64 sc.st, .int .i64 sc.tk.k, .int .i64 (sc.tk.f : Int), .int .i64 (sc.tk.t : Int), .int .i64 sc.h.k, .int .i32 (sc.h.r : Int), .int .i64 (sc.h.f : Int), .int .i64 (sc.h.t : Int), .bool sc.h.al] 152]
     obtain ⟨q, hq⟩ := scan_at pre post x (by rw [hinv]; exact ⟨h2, h1⟩)
     rw [hinv, ← hxs] at hq
     refine TO.callW (vs := [.pointer (some ⟨b2, 0, none⟩), .func (.yield l) #[] #[]]) rfl (by decide) rfl rfl rfl en_89 (fun w C hx => end_w (hy.later (hext.trans hx)) b2 sc E q hq) (Splits.of [4, 2] (by as_aux_lemma => kernel_rfl) rfl) ?_
     rintro (_ | g)
     ·
      -- yes
      show TO _ _ _ _ _ _ _ _ _ _ [cells b1 [.func (.yield l) #[] #[]] 147, emp, emp, cells j [.int .i64 x.k, .int .i32 (x.r : Int), .int .i64 (x.f : Int), .int .i64 (x.t : Int), .bool x.al] 150, emp, cells b2 [.int .i64 sc.st, .int .i64 sc.tk.k, .int .i64 (sc.tk.f : Int), .int .i64 (sc.tk.t : Int), .int .i64 sc.h.k, .int .i32 (sc.h.r : Int), .int .i64 (sc.h.f : Int), .int .i64 (sc.h.t : Int), .bool sc.h.al] 152, I (E ++ ended sc)]
      refine TO.un rfl (by decide) rfl un_not (TO.nil (TX.next (TC.condF rfl (TC.skip (TX.next (TC.seq (TC.region (TO.loads (k := 3) (cs := [.int .i64 x.k, .int .i32 (x.r : Int), .int .i64 (x.f : Int), .int .i64 (x.t : Int), .bool x.al]) rw_150 rfl (by decide) rfl rfl rfl rfl (TO.call (vs := [.pointer (some ⟨b2, 0, none⟩), .agg #[.int .i64 x.k, .int .i32 (x.r : Int), .int .i64 (x.f : Int), .int .i64 (x.t : Int), .bool x.al]]) rfl (by decide) rfl rfl rfl en_90 (begin_fn b2 sc x) (Splits.of [5] (by as_aux_lemma => kernel_rfl) rfl) ?_)))))))))
      rintro ⟨⟩
      show TO _ _ _ _ _ _ _ _ _ _ [cells b1 [.func (.yield l) #[] #[]] 147, emp, emp, cells j [.int .i64 x.k, .int .i32 (x.r : Int), .int .i64 (x.f : Int), .int .i64 (x.t : Int), .bool x.al] 150, emp, emp, I (E ++ ended sc), cells b2 [.int .i64 ((began sc x).st), .int .i64 ((began sc x).tk.k), .int .i64 ((began sc x).tk.f : Int), .int .i64 ((began sc x).tk.t : Int), .int .i64 ((began sc x).h.k), .int .i32 ((began sc x).h.r : Int), .int .i64 ((began sc x).h.f : Int), .int .i64 ((began sc x).h.t : Int), .bool ((began sc x).h.al)] 152]
      refine TO.nil (TX.next (TC.seq (TC.exit (TX.thenExit (TX.jumpOn (by simp) (TX.blockHere ?_))))))
      exact TX.round (E ++ ended sc, began sc x) (by show mfold (pre ++ [x]) = _; rw [hsn, mstep_begin (E, sc) x h2 h1]) (Splits.of [0, 7, 6] (by as_aux_lemma => kernel_rfl) rfl)
     ·
      -- no
      show TO _ _ _ _ _ _ _ _ _ _ [cells b1 [.func (.yield l) #[] #[]] 147, emp, emp, cells j [.int .i64 x.k, .int .i32 (x.r : Int), .int .i64 (x.f : Int), .int .i64 (x.t : Int), .bool x.al] 150, emp, cells b2 [.int .i64 sc.st, .int .i64 sc.tk.k, .int .i64 (sc.tk.f : Int), .int .i64 (sc.tk.t : Int), .int .i64 sc.h.k, .int .i32 (sc.h.r : Int), .int .i64 (sc.h.f : Int), .int .i64 (sc.h.t : Int), .bool sc.h.al] 152, X (E ++ g.1 ++ [g.2.1]), fact (ended sc = g.1 ++ g.2.1 :: g.2.2)]
      refine TO.fact (k := 7) rfl (fun hg => ?_)
      refine TO.un rfl (by decide) rfl un_not (TO.nil (TX.next (TC.condT rfl (TC.ret (TX.thenRet (TX.jumpOn (by simp) (TX.blockRet ?_)))))))
      exact TX.roundRet (E ++ g.1, g.2.1, g.2.2 ++ q) ⟨rfl, by rw [hq, hg]; simp⟩ (Splits.of [6] (by as_aux_lemma => kernel_rfl) rfl)
    ·
     rintro ⟨⟩ hI
     show TC _ _ _ _ _ _ _ _ _ [cells b1 [.func (.yield l) #[] #[]] 147, cells b2 [.int .i64 ((fitted sc x).st), .int .i64 ((fitted sc x).tk.k), .int .i64 ((fitted sc x).tk.f : Int), .int .i64 ((fitted sc x).tk.t : Int), .int .i64 ((fitted sc x).h.k), .int .i32 ((fitted sc x).h.r : Int), .int .i64 ((fitted sc x).h.f : Int), .int .i64 ((fitted sc x).h.t : Int), .bool ((fitted sc x).h.al)] 152, I E, cells j [.int .i64 x.k, .int .i32 (x.r : Int), .int .i64 (x.f : Int), .int .i64 (x.t : Int), .bool x.al] 150]
     exact hI.elim
 ·
  rintro d b hinv
  show TX _ _ _ _ _ _ _ [emp, emp, emp, cells bp [.string s] 9, cells b1 [.func (.yield l) #[] #[]] 147, cells b2 [.int .i64 b.2.st, .int .i64 b.2.tk.k, .int .i64 (b.2.tk.f : Int), .int .i64 (b.2.tk.t : Int), .int .i64 b.2.h.k, .int .i32 (b.2.h.r : Int), .int .i64 (b.2.h.f : Int), .int .i64 (b.2.h.t : Int), .bool b.2.h.al] 152, I b.1, mark d]
  obtain ⟨E, sc⟩ := b
  have hinv : mfold (units (pcs s.data.toList)) = (E, sc) := hinv
  show TX _ _ _ _ _ _ _ [emp, emp, emp, cells bp [.string s] 9, cells b1 [.func (.yield l) #[] #[]] 147, cells b2 [.int .i64 sc.st, .int .i64 sc.tk.k, .int .i64 (sc.tk.f : Int), .int .i64 (sc.tk.t : Int), .int .i64 sc.h.k, .int .i32 (sc.h.r : Int), .int .i64 (sc.h.f : Int), .int .i64 (sc.h.t : Int), .bool sc.h.al] 152, I E, mark d]
  refine TX.blockNormal (TX.next (TC.region (TO.load (k := 4) sc_147 rfl (by decide) rfl rfl rfl ?_)))
  have hq : scan (units (pcs s.data.toList)) = E ++ ended sc ++ [] := by rw [List.append_nil]; unfold scan; rw [hinv]
  refine TO.callW (vs := [.pointer (some ⟨b2, 0, none⟩), .func (.yield l) #[] #[]]) rfl (by decide) rfl rfl rfl en_89 (fun w C hx => end_w (hy.later hx) b2 sc E [] hq) (Splits.of [5, 6] (by as_aux_lemma => kernel_rfl) rfl) ?_
  rintro (_ | g)
  ·
   -- yes
   show TO _ _ _ _ _ _ _ _ _ _ [emp, emp, emp, cells bp [.string s] 9, cells b1 [.func (.yield l) #[] #[]] 147, emp, emp, mark d, cells b2 [.int .i64 sc.st, .int .i64 sc.tk.k, .int .i64 (sc.tk.f : Int), .int .i64 (sc.tk.t : Int), .int .i64 sc.h.k, .int .i32 (sc.h.r : Int), .int .i64 (sc.h.f : Int), .int .i64 (sc.h.t : Int), .bool sc.h.al] 152, I (E ++ ended sc)]
   refine TO.nil ?_
   have he : I (scan (units (pcs s.data.toList))) = I (E ++ ended sc) := by rw [hq, List.append_nil]
   exact TX.finY (ds := [d]) (.inr rfl) (Splits.of [7] (by as_aux_lemma => kernel_rfl) rfl) Tryd.results86 he (Splits.of [9] (by as_aux_lemma => kernel_rfl) rfl)
  ·
   -- no
   show TO _ _ _ _ _ _ _ _ _ _ [emp, emp, emp, cells bp [.string s] 9, cells b1 [.func (.yield l) #[] #[]] 147, emp, emp, mark d, cells b2 [.int .i64 sc.st, .int .i64 sc.tk.k, .int .i64 (sc.tk.f : Int), .int .i64 (sc.tk.t : Int), .int .i64 sc.h.k, .int .i32 (sc.h.r : Int), .int .i64 (sc.h.f : Int), .int .i64 (sc.h.t : Int), .bool sc.h.al] 152, X (E ++ g.1 ++ [g.2.1]), fact (ended sc = g.1 ++ g.2.1 :: g.2.2)]
   refine TO.fact (k := 10) rfl (fun hg => ?_)
   refine TO.nil ?_
   exact TX.finX (ds := [d]) (E ++ g.1) g.2.1 g.2.2 (by rw [hq, hg]; simp) (.inr rfl) (Splits.of [7] (by as_aux_lemma => kernel_rfl) rfl) Tryd.results86 (Splits.of [9] (by as_aux_lemma => kernel_rfl) rfl)
 ·
  rintro d c pre x post g hxs hX
  show TC _ _ _ _ _ _ _ _ _ [emp, emp, emp, cells bp [.string s] 9, X (g.1 ++ [g.2.1]), mark d]
  obtain ⟨E, n, q⟩ := g
  obtain ⟨rfl, hq⟩ := hX
  refine TC.ret (TX.blockRet (TX.thenRet ?_))
  exact TX.finX (ds := [d]) E n q hq (.inl rfl) (Splits.of [5] (by as_aux_lemma => kernel_rfl) rfl) Tryd.results86 (Splits.of [4] (by as_aux_lemma => kernel_rfl) rfl)

theorem scan_fn (s : ByteArray) : Fn Tryd.prog 73 [.string s] [] (fun b : Nat => .func (.func 86) #[] #[.pointer (some ⟨b, 0, none⟩)]) (fun b => [cells b [.string s] 9]) := by
 refine Fn.intro Tryd.func73 rfl Tryd.ntmps73 (by simp) ?_
 intro w0 K
 refine TC.seq (TC.region ?_)
 refine TO.box rfl (by decide) rfl (fun b1 => ?_)
 refine TO.assign rfl (by decide) rfl (TO.nil (TX.next (TC.seq (TC.region (TO.makeFunc (x1 := []) (x2 := [.tmp 1]) rfl (by decide) rfl rfl (TO.assign rfl (by decide) rfl (TO.nil (TX.next (TC.ret ?_)))))))))
 exact TX.fin (rs := [.tmp 2]) b1 (.inl rfl) Tryd.results73 (.cons (.tmp rfl) .nil) rfl (Splits.of [0] (by as_aux_lemma => kernel_rfl) rfl)
end Go.Proofs.YtgfkogafkhbgnaaDoor
namespace Go.Proofs.YtgfkogafkhbgnaaDoor
open Go.RowKit Go.Lib
set_option linter.unusedVariables false
set_option linter.unusedSimpArgs false
/-- The words' spans. -/
def wds (l : List Tk) : List (Nat × Nat) := l.filterMap fun t => if t.k = 1 then some (t.f, t.t) else none
def spV (p : Nat × Nat) : List Value := [.int .i64 (p.1 : Int), .int .i64 (p.2 : Int)]
def spA (p : Nat × Nat) : List Value := [.agg (spV p).toArray]
set_option maxRecDepth 100000 in
set_option maxHeartbeats 4000000 in
theorem words1_itr (s : ByteArray) (hs : s.size ≤ 4611686018427387904) (Bs : Nat) : Itr Tryd.prog 72 [.pointer (some ⟨Bs, 0, none⟩)] spA (wds (scan (units (pcs s.data.toList)))) [(Bs, .cells #[.string s] 9 (0, 0))] := by
 refine Itr.intro Tryd.func72 rfl Tryd.ntmps72 (by simp) ?_
 intro l w0 K I X hRo hy
 refine TC.seq (TC.region ?_)
 refine TO.box rfl (by decide) rfl (fun b1 => ?_)
 refine TO.nil (TX.next (TC.seq (TC.region (TO.loadRo (i := 0) hRo sc_9 rfl (by decide) rfl rfl rfl (TO.call (vs := [.string s]) rfl (by decide) rfl rfl rfl en_73 (scan_fn s) Splits.nil ?_)))))
 rintro bp
 show TO _ _ _ _ _ _ _ _ _ _ [I [], cells b1 [.func (.yield l) #[] #[]] 118, cells bp [.string s] 9]
 refine TO.nil (TX.next (TC.block ?_))
 refine TC.range (α := Tk) (β := Unit) (γ := List (Nat × Nat) × (Nat × Nat) × List (Nat × Nat)) (δ := Nat) (ps := [6]) hRo rfl en_86 (scan1_itr s (by omega) bp) (fun pre b => True) (fun pre b => [cells b1 [.func (.yield l) #[] #[]] 118, I (wds pre)]) (fun c pre g => c = .ret ∧ wds (scan (units (pcs s.data.toList))) = g.1 ++ g.2.1 :: g.2.2) (fun c pre g => [X (g.1 ++ [g.2.1])]) (fun pre x b j => [(2, .pointer (some ⟨b1, 0, none⟩)), (3, .pointer (some ⟨j, 0, none⟩))]) (fun pre x b j => [cells b1 [.func (.yield l) #[] #[]] 118, I (wds pre), cells j [.int .i64 x.k, .int .i64 (x.f : Int), .int .i64 (x.t : Int)] 123]) () trivial (Splits.of [1, 0] (by as_aux_lemma => kernel_rfl) rfl) ⟨.inl ⟨2, rfl⟩, trivial⟩ (fun _ => rfl) (by decide) ?_ ?_ ?_ ?_
 ·
  rintro lp rc pre x post b w1 K1 hxs hext hro hinv
  refine TC.region ?_
  refine TO.alloc zr_123 rfl (by decide) (fun b2 => ?_)
  refine TO.stores (k := 2) (vs := [.int .i64 x.k, .int .i64 (x.f : Int), .int .i64 (x.t : Int)]) (l' := [.int .i64 x.k, .int .i64 (x.f : Int), .int .i64 (x.t : Int)]) sz_123 rfl rfl rfl rfl rfl (show _ ≤ _ by simp) rfl rfl ?_
  show TO _ _ _ _ _ _ _ _ _ _ [cells b1 [.func (.yield l) #[] #[]] 118, I (wds pre), cells b2 [.int .i64 x.k, .int .i64 (x.f : Int), .int .i64 (x.t : Int)] 123]
  refine TO.nil ?_
  exact fun a w ha hw => ⟨b2, (Sbs.cons rfl (Sbs.cons rfl (Sbs.nil))) _ _ _ ha, hw.weaken (Splits.of [0, 1, 2] (by as_aux_lemma => kernel_rfl) rfl)⟩
 ·
  rintro lp rc pre x post b j w1 K1 hxs hext hro hinv
  by_cases hk : x.k = 1
  ·
   refine TC.block (TC.seq (TC.region (TO.fieldAddr fl_123_0 rfl (by decide) rfl (show _ = 0 from rfl) (TO.load (k := 2) sc_3 rfl (by decide) rfl rfl rfl (TO.bin rfl (by decide) rfl rfl (bin_known (congrArg Value.bool (show ((x.k : Int) == 1) = true from (beq_iff_eq.2 hk))) bin_eql) (TO.move rfl (by decide) rfl (TO.load (k := 0) sc_118 rfl (by decide) rfl rfl rfl (TO.fieldAddr fl_123_1 rfl (by decide) rfl (show _ = 1 from rfl) (TO.loads (k := 2) (cs := [.int .i64 (x.f : Int), .int .i64 (x.t : Int)]) rw_34 rfl (by decide) rfl rfl rfl rfl ?_)))))))))
   have hq : wds (scan (units (pcs s.data.toList))) = wds pre ++ (x.f, x.t) :: wds post := by rw [hxs]; simp [wds, hk]
   refine TO.yield (hy.later hext) rfl (by decide) rfl hq rfl (k := 1) rfl ?_ ?_
   ·
    -- yes
    refine TO.un rfl (by decide) rfl un_not (TO.pick (b := true) rfl (by decide) rfl rfl (TO.nil (TX.next (TC.condF rfl (TC.skip (TX.blockNormal (TX.rewE (k := 1) rfl (show I (wds pre ++ [(x.f, x.t)]) = I (wds (pre ++ [x])) from (by simp [wds, hk])) ?_)))))))
    show TX _ _ _ _ _ _ _ [cells b1 [.func (.yield l) #[] #[]] 118, I (wds (pre ++ [x])), cells j [.int .i64 x.k, .int .i64 (x.f : Int), .int .i64 (x.t : Int)] 123]
    exact TX.round () trivial (Splits.of [0, 1] (by as_aux_lemma => kernel_rfl) rfl)
   ·
    -- no
    refine TO.un rfl (by decide) rfl un_not (TO.pick (b := true) rfl (by decide) rfl rfl (TO.nil (TX.next (TC.condT rfl (TC.ret (TX.blockRet ?_))))))
    exact TX.roundRet (wds pre, (x.f, x.t), wds post) ⟨rfl, hq⟩ (Splits.of [1] (by as_aux_lemma => kernel_rfl) rfl)
  ·
   refine TC.block (TC.seq (TC.region (TO.fieldAddr fl_123_0 rfl (by decide) rfl (show _ = 0 from rfl) (TO.load (k := 2) sc_3 rfl (by decide) rfl rfl rfl (TO.bin rfl (by decide) rfl rfl (bin_known (congrArg Value.bool (show ((x.k : Int) == 1) = false from (beq_eq_false_iff_ne.2 hk))) bin_eql) (TO.move rfl (by decide) rfl (TO.skip rfl (by decide) (TO.skip rfl (by decide) (TO.skip rfl (by decide) (TO.skip rfl (by decide) (TO.skip rfl (by decide) (TO.pick (b := false) rfl (by decide) rfl rfl (TO.nil ?_)))))))))))))
   refine TX.next (TC.condF rfl (TC.skip (TX.blockNormal (TX.rewE (k := 1) rfl (show I (wds pre) = I (wds (pre ++ [x])) from (by simp [wds, hk])) ?_))))
   show TX _ _ _ _ _ _ _ [cells b1 [.func (.yield l) #[] #[]] 118, I (wds (pre ++ [x])), cells j [.int .i64 x.k, .int .i64 (x.f : Int), .int .i64 (x.t : Int)] 123]
   exact TX.round () trivial (Splits.of [0, 1] (by as_aux_lemma => kernel_rfl) rfl)
 ·
  rintro d b hinv
  show TX _ _ _ _ _ _ _ [emp, emp, cells bp [.string s] 9, cells b1 [.func (.yield l) #[] #[]] 118, I (wds (scan (units (pcs s.data.toList)))), mark d]
  refine TX.blockNormal ?_
  exact TX.finY (ds := [d]) (.inr rfl) (Splits.of [5] (by as_aux_lemma => kernel_rfl) rfl) Tryd.results72 rfl (Splits.of [4] (by as_aux_lemma => kernel_rfl) rfl)
 ·
  rintro d c pre x post g hxs hX
  show TC _ _ _ _ _ _ _ _ _ [emp, emp, cells bp [.string s] 9, X (g.1 ++ [g.2.1]), mark d]
  obtain ⟨E, n, q⟩ := g
  obtain ⟨rfl, hq⟩ := hX
  refine TC.ret (TX.blockRet ?_)
  exact TX.finX (ds := [d]) E n q hq (.inl rfl) (Splits.of [4] (by as_aux_lemma => kernel_rfl) rfl) Tryd.results72 (Splits.of [3] (by as_aux_lemma => kernel_rfl) rfl)

theorem words_fn (s : ByteArray) : Fn Tryd.prog 42 [.string s] [] (fun b : Nat => .func (.func 72) #[] #[.pointer (some ⟨b, 0, none⟩)]) (fun b => [cells b [.string s] 9]) := by
 refine Fn.intro Tryd.func42 rfl Tryd.ntmps42 (by simp) ?_
 intro w0 K
 refine TC.seq (TC.region ?_)
 refine TO.box rfl (by decide) rfl (fun b1 => ?_)
 refine TO.assign rfl (by decide) rfl (TO.nil (TX.next (TC.seq (TC.region (TO.makeFunc (x1 := []) (x2 := [.tmp 1]) rfl (by decide) rfl rfl (TO.assign rfl (by decide) rfl (TO.nil (TX.next (TC.ret ?_)))))))))
 exact TX.fin (rs := [.tmp 2]) b1 (.inl rfl) Tryd.results42 (.cons (.tmp rfl) .nil) rfl (Splits.of [0] (by as_aux_lemma => kernel_rfl) rfl)
end Go.Proofs.YtgfkogafkhbgnaaDoor
namespace Go.Proofs.YtgfkogafkhbgnaaDoor
open Go.RowKit Go.Lib
set_option linter.unusedVariables false
set_option linter.unusedSimpArgs false
/-- From a to b without a gap; none is empty. -/
def Ch {α : Type} (f t : α → Nat) : Nat → List α → Nat → Prop
  | a, [], b => a = b
  | a, u :: us, b => f u = a ∧ f u < t u ∧ Ch f t (t u) us b
theorem Ch.app {α : Type} {f t : α → Nat} : ∀ {l : List α} {a b c : Nat} {m : List α}, Ch f t a l b → Ch f t b m c → Ch f t a (l ++ m) c
  | [], a, b, c, m, h, h2 => by cases h; exact h2
  | u :: l, a, b, c, m, h, h2 => ⟨h.1, h.2.1, Ch.app h.2.2 h2⟩
theorem Ch.one {α : Type} {f t : α → Nat} {u : α} (h : f u < t u) : Ch f t (f u) [u] (t u) := ⟨rfl, h, rfl⟩
theorem Ch.le {α : Type} {f t : α → Nat} : ∀ {l : List α} {a b : Nat}, Ch f t a l b → a ≤ b
  | [], a, b, h => Nat.le_of_eq h
  | u :: l, a, b, h => by have h1 := Ch.le h.2.2; have h2 := h.1; have h3 := h.2.1; omega
theorem Ch.mem {α : Type} {f t : α → Nat} : ∀ {l : List α} {a b : Nat}, Ch f t a l b → ∀ u ∈ l, a ≤ f u ∧ f u < t u ∧ t u ≤ b
  | [], a, b, h, u, hu => by cases hu
  | v :: l, a, b, h, u, hu => by
    have h1 := Ch.le h.2.2
    have h2 := h.1
    have h3 := h.2.1
    rcases List.mem_cons.1 hu with rfl | hu
    · omega
    · have h4 := Ch.mem h.2.2 u hu
      omega
theorem pcs_first (l : List UInt8) (p : Pc) (B : List Pc) (h : pcs l = p :: B) : p.i = 0 := by
  by_cases hl : l = []
  · subst hl; simp [pcs, pcsFrom_nil] at h
  · have h1 := pcsFrom_cons 0 l hl
    have h2 : pcs l = pcsFrom 0 l := rfl
    rw [← h2, h] at h1
    rw [(List.cons.inj h1).1]
theorem pcs_empty (l : List UInt8) (h : pcs l = []) : l = [] := by
  by_cases hl : l = []
  · exact hl
  · have h1 := pcsFrom_cons 0 l hl
    have h2 : pcs l = pcsFrom 0 l := rfl
    rw [← h2, h] at h1
    cases h1
theorem ufold_ch (l : List UInt8) : ∀ (k : Nat) (L B : List Pc), L.length ≤ k → pcs l = L ++ B → ∀ E n, ufold L = (E, some n) → Ch Un.f Un.t 0 E n.f := by
  intro k
  induction k with
  | zero =>
    intro L B hk hl E n h
    have h0 : L = [] := List.length_eq_zero_iff.1 (by omega)
    subst h0; cases h
  | succ k ih =>
    intro L B hk hl E n h
    rcases List.eq_nil_or_concat L with rfl | ⟨D, p, rfl⟩
    · cases h
    · rw [List.concat_eq_append] at *
      rw [ufold_snoc] at h
      have hl2 : pcs l = D ++ (p :: B) := by rw [hl]; simp
      have hkD : D.length ≤ k := by simp at hk; omega
      rcases hD : ufold D with ⟨E0, o⟩
      rw [hD] at h
      rcases o with _ | m
      · obtain ⟨h1, h2⟩ := units_nil D E0 hD
        subst h1; subst h2
        simp only [ustep] at h
        cases h
        have h3 := pcs_first l p B (by simpa using hl2)
        exact h3.symm
      · have hm := ih D (p :: B) hkD hl2 E0 m hD
        have hw := ufold_end l D.length D (p :: B) (Nat.le_refl _) hl2 E0 m hD
        have hp : p.i = m.t := hw.2.2.1 p rfl
        simp only [ustep] at h
        split at h
        · cases h; exact hm
        · cases h
          have h5 := Ch.app hm (Ch.one (f := Un.f) (t := Un.t) hw.1)
          show Ch _ _ _ _ p.i
          rw [hp]; exact h5
theorem units_ch (l : List UInt8) : Ch Un.f Un.t 0 (units (pcs l)) l.length := by
  rcases hD : ufold (pcs l) with ⟨E, o⟩
  rcases o with _ | n
  · obtain ⟨h1, h2⟩ := units_nil _ E hD
    have h3 : l = [] := pcs_empty l h1
    subst h3
    rw [h1]; rfl
  · rw [units_last _ E n hD]
    have h1 := ufold_ch l _ (pcs l) [] (Nat.le_refl _) (by simp) E n hD
    have h2 := ufold_end l _ (pcs l) [] (Nat.le_refl _) (by simp) E n hD
    have h3 := Ch.app h1 (Ch.one (f := Un.f) (t := Un.t) h2.1)
    rw [h2.2.2.2 rfl] at h3
    exact h3
def ScI (a : Nat) (S : List Tk × Sc) (c : Nat) : Prop :=
  (S.2.st = 0 ∧ S.1 = [] ∧ c = a) ∨ (S.2.st ≠ 0 ∧ Ch Tk.f Tk.t a S.1 S.2.tk.f ∧ S.2.tk.f < S.2.tk.t ∧
    (((S.2.st = 2 ∨ S.2.st = 4) ∧ S.2.h.f = S.2.tk.t ∧ S.2.h.f < S.2.h.t ∧ S.2.h.t = c) ∨ (¬ (S.2.st = 2 ∨ S.2.st = 4) ∧ S.2.tk.t = c)))
theorem fits_two {st : Int} {u : Un} (h : (fits st u).2 = 2) : (st = 1 ∧ (fits st u).1 = 2) ∨ (st = 3 ∧ (fits st u).1 = 4) := by
  revert h; unfold fits
  repeat' split
  all_goals simp_all
theorem fits_one {st : Int} {u : Un} (h : (fits st u).2 = 1) : st ≠ 0 ∧ (fits st u).1 ≠ 0 ∧ (fits st u).1 ≠ 2 ∧ (fits st u).1 ≠ 4 := by
  revert h; unfold fits
  repeat' split
  all_goals simp_all
  all_goals omega
theorem begins_st (u : Un) : (begins u).1 ≠ 0 ∧ (begins u).1 ≠ 2 ∧ (begins u).1 ≠ 4 := by
  unfold begins
  repeat' split
  all_goals simp_all
theorem ended_ch {a c : Nat} {S : List Tk × Sc} (h : ScI a S c) : Ch Tk.f Tk.t a (S.1 ++ ended S.2) c := by
  rcases h with ⟨h1, h2, h3⟩ | ⟨h1, h2, h3, h4⟩
  · rw [h2, h3]; unfold ended; rw [if_pos h1]; rfl
  · unfold ended
    rw [if_neg h1]
    rcases h4 with ⟨h5, h6, h7, h8⟩ | ⟨h5, h6⟩
    · rw [if_pos h5]
      exact h2.app ⟨rfl, h3, h6, h7, h8⟩
    · rw [if_neg h5]
      exact h2.app ⟨rfl, h3, h6⟩
theorem mstep_ch {a c : Nat} {S : List Tk × Sc} {u : Un} (h : ScI a S c) (hf : u.f = c) (hl : u.f < u.t) : ScI a (mstep S u) u.t := by
  by_cases h2 : (fits S.2.st u).2 = 2
  · have h3 := fits_two h2
    unfold mstep; rw [if_pos h2]
    rcases h with ⟨h4, _⟩ | ⟨h4, h5, h6, h7⟩
    · omega
    · right
      refine ⟨by show (fits S.2.st u).1 ≠ 0; omega, h5, h6, .inl ⟨by show (fits S.2.st u).1 = 2 ∨ (fits S.2.st u).1 = 4; omega, ?_, hl, rfl⟩⟩
      show u.f = S.2.tk.t
      rcases h7 with ⟨h8, _⟩ | ⟨_, h8⟩ <;> omega
  · by_cases h1 : (fits S.2.st u).2 = 1
    · have h3 := fits_one h1
      unfold mstep; rw [if_neg h2, if_pos h1]
      rcases h with ⟨h4, _⟩ | ⟨h4, h5, h6, h7⟩
      · omega
      · right
        refine ⟨h3.2.1, h5, ?_, .inr ⟨by show ¬ ((fits S.2.st u).1 = 2 ∨ (fits S.2.st u).1 = 4); omega, rfl⟩⟩
        show S.2.tk.f < u.t
        rcases h7 with ⟨_, h8, h9, h10⟩ | ⟨_, h8⟩ <;> omega
    · rw [mstep_begin S u h2 h1]
      have h3 := begins_st u
      have h4 := ended_ch h
      right
      refine ⟨h3.1, ?_, hl, .inr ⟨by show ¬ ((begins u).1 = 2 ∨ (begins u).1 = 4); omega, rfl⟩⟩
      show Ch _ _ _ _ u.f
      rw [hf]; exact h4
theorem mfold_ch : ∀ (us : List Un) {a b c : Nat} {S : List Tk × Sc}, ScI a S c → Ch Un.f Un.t c us b → ScI a (us.foldl mstep S) b
  | [], a, b, c, S, h, hc => by cases hc; exact h
  | u :: us, a, b, c, S, h, hc => mfold_ch us (mstep_ch h hc.1 hc.2.1) hc.2.2
/-- The tokens cover the text. -/
theorem scan_ch (l : List UInt8) : Ch Tk.f Tk.t 0 (scan (units (pcs l))) l.length :=
  ended_ch (mfold_ch (units (pcs l)) (S := ([], sc0)) (.inl ⟨rfl, rfl, rfl⟩) (units_ch l))
end Go.Proofs.YtgfkogafkhbgnaaDoor
namespace Go.Proofs.YtgfkogafkhbgnaaDoor
open Go.RowKit Go.Lib
set_option linter.unusedVariables false
set_option linter.unusedSimpArgs false
def wsOf (s : ByteArray) : List (Nat × Nat) := wds (scan (units (pcs s.data.toList)))
theorem ch_in_ : ∀ {l : List Tk} {a b : Nat}, Ch Tk.f Tk.t a l b → l.length + a ≤ b ∧ ∀ x ∈ l, x.f ≤ x.t ∧ x.t ≤ b
  | [], a, b, h => by cases h; exact ⟨by simp, fun x hx => by cases hx⟩
  | y :: l, a, b, h => by
    obtain ⟨h1, h2⟩ := ch_in_ h.2.2
    have h3 := h.1
    have h4 := h.2.1
    refine ⟨by rw [List.length_cons]; omega, fun x hx => ?_⟩
    rcases List.mem_cons.1 hx with rfl | hx
    · exact ⟨by omega, by omega⟩
    · exact h2 x hx
theorem wsOf_ok (s : ByteArray) : ∀ p ∈ wsOf s, p.1 ≤ p.2 ∧ p.2 ≤ s.size := by
  intro p hp
  have h := (ch_in_ (scan_ch s.data.toList)).2
  obtain ⟨t, ht, he⟩ := List.mem_filterMap.1 hp
  split at he
  · cases he
    have := h t ht
    rw [Array.length_toList] at this
    exact this
  · cases he
theorem wsOf_len (s : ByteArray) : (wsOf s).length ≤ s.size := by
  have h := (ch_in_ (scan_ch s.data.toList)).1
  have h2 : (wsOf s).length ≤ (scan (units (pcs s.data.toList))).length := List.length_filterMap_le _ _
  have h3 : s.data.toList.length = s.data.size := Array.length_toList
  show _ ≤ s.data.size
  omega
end Go.Proofs.YtgfkogafkhbgnaaDoor
namespace Go.Proofs.YtgfkogafkhbgnaaDoor
open Go.RowKit Go.Lib
set_option linter.unusedVariables false
set_option linter.unusedSimpArgs false
def poem_Poem_Words_1_s2 (x1 : Int × Gapi_Verse) (x2 : Nat × Nat) (ag2 : Option (List (Int × ByteArray))) : Option (List (Int × ByteArray)) :=
grd (0 ≤ ((x2.1 : Int) : Int) ∧ ((x2.1 : Int) : Int) ≤ (x2.2 : Int) ∧ ((x2.2 : Int) : Int) ≤ (x1.2.Text.size : Int)) <|
consO (x1.1, cutB x1.2.Text (x2.1 : Int) (x2.2 : Int)) <|
ag2
def poem_Poem_Words_1_s1 (x1 : Int × Gapi_Verse) (ag1 : Option (List (Int × ByteArray))) : Option (List (Int × ByteArray)) :=
grd (x1.2.Text.size ≤ 4611686018427387904) <|
joinK (fun (dn2 : Option (List (Int × ByteArray))) =>
rangeG dn2 (poem_Poem_Words_1_s2 x1) (wsOf x1.2.Text)
) (
ag1
)
def poem_Poem_Words_1_v (c0 : Gpoem_Poem) : Option (List (Int × ByteArray)) :=
andThen (poem_Poem_Each_v c0) fun (r1 : Unit) =>
andThen (poem_Poem_Each_1_v c0) fun (its1 : (List (Int × Gapi_Verse))) =>
joinK (fun (dn1 : Option (List (Int × ByteArray))) =>
rangeG dn1 (poem_Poem_Words_1_s1) its1
) (
some []
)
set_option maxRecDepth 100000 in
set_option maxHeartbeats 4000000 in
theorem poem_Poem_Words_1_itr {b_c0 p_c0 : Nat} {c0 : Gpoem_Poem} {c0_h0 c0_h1 : Hd} {xs : (List (Int × ByteArray))} (h : poem_Poem_Words_1_v c0 = some xs) : ItrR Tryd.prog 74 [.pointer (some ⟨b_c0, 0, none⟩)] (fun q : Int × ByteArray => [.int .i64 q.1, .string q.2]) xs [cells b_c0 [.pointer (some ⟨p_c0, 0, none⟩)] 23, cells p_c0 [.string c0.told_title, c0_h0.v, c0_h1.v, .string c0.source] 93, vec enc_Gapi_Verse 36 6 c0_h0.v c0.told_lines, vec enc_Gapi_Span 34 2 c0_h1.v c0.told_stanzas] := by
 unfold poem_Poem_Words_1_v at h
 refine ItrR.intro Tryd.func74 rfl Tryd.ntmps74 (by simp) ?_
 intro l w0 K I X hrd hy
 obtain ⟨r0, hx0⟩ : ∃ r, xs = [] ++ r := ⟨xs, rfl⟩
 have hr0 : xs = r0 := hx0
 rw [hr0] at h
 refine TC.star0 ?_
 show TC _ _ _ _ _ _ _ _ _ [I [], star ((([] : List Nat) : List Nat).map mark)]
 refine TC.seq (TC.region ?_)
 refine TO.box rfl dc rfl (fun b1 => ?_)
 refine TO.nil (TX.next (TC.seq (TC.region (TO.loadRd (i := 0) hrd rfl sc_23 rfl dc rfl rfl ?_))))
 obtain ⟨r1, hq1, h⟩ := andE h
 refine TO.callR (vs := [.pointer (some ⟨p_c0, 0, none⟩)]) hrd rfl dc rfl rfl rfl en_14 (poem_Poem_Each_fn (bp1 := p_c0) (p1 := c0) (p1_h0 := c0_h0) (p1_h1 := c0_h1) hq1) Splits.nil (.ro 1 rfl (.ro 2 rfl (.ro 3 rfl .nil))) ?_
 rintro b2
 show TO _ _ _ _ _ _ _ _ _ _ [I [], star ((([] : List Nat) : List Nat).map mark), cells b1 [.func (.yield l) #[] #[]] 124, cells b2 [.pointer (some ⟨p_c0, 0, none⟩)] 23]
 refine TO.weakenL (L' := [I [], star ((([] : List Nat) : List Nat).map mark), cells b1 [.func (.yield l) #[] #[]] 124, cells b2 [.pointer (some ⟨p_c0, 0, none⟩)] 23]) (Splits.of [0, 1, 2, 3] kr rfl) (TO.nil (TX.next (TC.block ?_)))
 obtain ⟨its1, hq2, h⟩ := andE h
 obtain ⟨dn1, hdn1, h⟩ := joinE h
 refine TC.rangeR (α := Int × Gapi_Verse) (β := (List (Int × ByteArray)) × (List (Int × ByteArray))) (γ := (List (Int × ByteArray) × (Int × ByteArray) × List (Int × ByteArray))) (δ := Nat × Nat) (ps := [8, 9]) hrd Ro.nil rfl en_52 (poem_Poem_Each_1_itr hq2) (fun pre b => (∀ post, its1 = pre ++ post → rangeG dn1 (poem_Poem_Words_1_s1) post = some b.2) ∧ xs = b.1 ++ b.2) (fun pre b => [I b.1, cells b1 [.func (.yield l) #[] #[]] 124]) (fun c pre g => (fun g => c = Code.ret ∧ xs = g.1 ++ g.2.1 :: g.2.2) g) (fun c pre g => (fun g => [X (g.1 ++ [g.2.1])]) g) (fun pre x b j => [(2, .pointer (some ⟨b1, 0, none⟩)), (7, .func (.func 52) #[] #[.pointer (some ⟨b2, 0, none⟩)]), (3, .pointer (some ⟨j.1, 0, none⟩)), (4, .pointer (some ⟨j.2, 0, none⟩))]) (fun pre x b j => [I b.1, cells b1 [.func (.yield l) #[] #[]] 124, cells j.1 [.int .i64 x.1] 3, cells j.2 [.string x.2.Text, .int .i64 x.2.Indent, .int .i64 x.2.Stanza, .int .i64 x.2.In, .int .i64 x.2.Span_From, .int .i64 x.2.Span_To] 36]) (([] : List (Int × ByteArray)), r0) ⟨fun post e => (by rw [List.nil_append] at e; subst e; exact h), hx0⟩ (Splits.of [0, 2] kr rfl) (.own (As := [cells b2 [.pointer (some ⟨p_c0, 0, none⟩)] 23]) (Splits.of [3] (by kernel_rfl) rfl) (fun _ _ h => sepL.one1.1 h) (.ro 1 rfl (.ro 2 rfl (.ro 3 rfl .nil)))) (fun _ => rfl) dc ?_ ?_ ?_ ?_
 ·
  rintro lp rc pre x1 post ⟨acc3, rr3⟩ w1 K1 hxs1 hext hro hinv
  have hrd := hrd.ext hext
  have hy := hy.later hext
  refine TC.seq (TC.region ?_)
  refine TO.alloc zr_3 rfl dc (fun b3 => ?_)
  refine TO.store (k := 2) (l' := [.int .i64 x1.1]) sz_3 rfl rfl rfl rfl rfl (fun _ _ => rfl) rfl ?_
  show TO _ _ _ _ _ _ _ _ _ _ [I acc3, cells b1 [.func (.yield l) #[] #[]] 124, cells b3 [.int .i64 x1.1] 3]
  refine TO.nil (TX.next (TC.region ?_))
  refine TO.alloc zr_36 rfl dc (fun b4 => ?_)
  refine TO.stores (k := 3) (vs := [.string x1.2.Text, .int .i64 x1.2.Indent, .int .i64 x1.2.Stanza, .int .i64 x1.2.In, .int .i64 x1.2.Span_From, .int .i64 x1.2.Span_To]) (l' := [.string x1.2.Text, .int .i64 x1.2.Indent, .int .i64 x1.2.Stanza, .int .i64 x1.2.In, .int .i64 x1.2.Span_From, .int .i64 x1.2.Span_To]) sz_36 rfl rfl rfl rfl rfl (show _ ≤ _ by simp) rfl rfl ?_
  show TO _ _ _ _ _ _ _ _ _ _ [I acc3, cells b1 [.func (.yield l) #[] #[]] 124, cells b3 [.int .i64 x1.1] 3, cells b4 [.string x1.2.Text, .int .i64 x1.2.Indent, .int .i64 x1.2.Stanza, .int .i64 x1.2.In, .int .i64 x1.2.Span_From, .int .i64 x1.2.Span_To] 36]
  refine TO.nil ?_
  exact fun a w ha hw => ⟨(b3, b4), (Sbs.cons rfl (Sbs.cons rfl (Sbs.cons rfl (Sbs.cons rfl (Sbs.nil))))) _ _ _ ha, hw.weaken (Splits.of [0, 1, 2, 3] kr rfl)⟩
 ·
  rintro lp rc pre x1 post1 ⟨acc3, rr3⟩ ⟨jb1, jb2⟩ w1 K1 hxs1 hext hro hinv
  have hrd := hrd.ext hext
  have hy := hy.later hext
  obtain ⟨hinv, hx3⟩ := hinv
  have h := hinv (x1 :: post1) hxs1
  obtain ⟨ag1, hag1⟩ : ∃ ag, ag = rangeG dn1 (poem_Poem_Words_1_s1) post1 := ⟨_, rfl⟩
  have h : poem_Poem_Words_1_s1 x1 ag1 = some rr3 := by rw [hag1]; exact h
  unfold poem_Poem_Words_1_s1 at h
  show TC _ _ _ _ _ _ _ _ [(2, .pointer (some ⟨b1, 0, none⟩)), (7, .func (.func 52) #[] #[.pointer (some ⟨b2, 0, none⟩)]), (3, .pointer (some ⟨jb1, 0, none⟩)), (4, .pointer (some ⟨jb2, 0, none⟩))] [I acc3, cells b1 [.func (.yield l) #[] #[]] 124, cells jb1 [.int .i64 x1.1] 3, cells jb2 [.string x1.2.Text, .int .i64 x1.2.Indent, .int .i64 x1.2.Stanza, .int .i64 x1.2.In, .int .i64 x1.2.Span_From, .int .i64 x1.2.Span_To] 36]
  refine TC.block (TC.seq (TC.region (TO.fieldAddr fl_36_0 rfl dc rfl (show _ = 0 from rfl) (TO.load (k := 3) sc_9 rfl dc rfl rfl rfl (TO.call (vs := [.string x1.2.Text]) rfl dc rfl rfl rfl en_42 (words_fn x1.2.Text) Splits.nil ?_)))))
  rintro b5
  show TO _ _ _ _ _ _ _ _ _ _ [I acc3, cells b1 [.func (.yield l) #[] #[]] 124, cells jb1 [.int .i64 x1.1] 3, cells jb2 [.string x1.2.Text, .int .i64 x1.2.Indent, .int .i64 x1.2.Stanza, .int .i64 x1.2.In, .int .i64 x1.2.Span_From, .int .i64 x1.2.Span_To] 36, cells b5 [.string x1.2.Text] 9]
  refine TO.nil (TX.next (TC.block ?_))
  obtain ⟨hg1, h⟩ := grdE h
  obtain ⟨dn2, hdn2, h⟩ := joinE h
  refine TC.rangeIn (α := Nat × Nat) (β := (List (Int × ByteArray)) × (List (Int × ByteArray))) (γ := (List (Int × ByteArray) × (Int × ByteArray) × List (Int × ByteArray))) (δ := Nat) (ps := [13]) hro (i₀ := 0) rfl rfl en_72 (words1_itr x1.2.Text hg1 b5) (fun pre b => (∀ post, wsOf x1.2.Text = pre ++ post → rangeG dn2 (poem_Poem_Words_1_s2 x1) post = some b.2) ∧ xs = b.1 ++ b.2) (fun pre b => [I b.1, cells b1 [.func (.yield l) #[] #[]] 124, cells jb1 [.int .i64 x1.1] 3, cells jb2 [.string x1.2.Text, .int .i64 x1.2.Indent, .int .i64 x1.2.Stanza, .int .i64 x1.2.In, .int .i64 x1.2.Span_From, .int .i64 x1.2.Span_To] 36]) (fun c pre g => (fun g => c = Code.ret ∧ xs = g.1 ++ g.2.1 :: g.2.2) g) (fun c pre g => (fun g => [X (g.1 ++ [g.2.1])]) g) (fun pre x b j => [(2, .pointer (some ⟨b1, 0, none⟩)), (7, .func (.func 52) #[] #[.pointer (some ⟨b2, 0, none⟩)]), (3, .pointer (some ⟨jb1, 0, none⟩)), (4, .pointer (some ⟨jb2, 0, none⟩)), (12, .func (.func 72) #[] #[.pointer (some ⟨b5, 0, none⟩)]), (5, .pointer (some ⟨j, 0, none⟩))]) (fun pre x b j => [I b.1, cells b1 [.func (.yield l) #[] #[]] 124, cells jb1 [.int .i64 x1.1] 3, cells jb2 [.string x1.2.Text, .int .i64 x1.2.Indent, .int .i64 x1.2.Stanza, .int .i64 x1.2.In, .int .i64 x1.2.Span_From, .int .i64 x1.2.Span_To] 36, cells j [.int .i64 (x.1 : Int), .int .i64 (x.2 : Int)] 34]) (acc3, rr3) ⟨fun post e => (by rw [List.nil_append] at e; subst e; exact h), hx3⟩ (Splits.of [0, 1, 2, 3] kr rfl) ⟨.inl ⟨4, rfl⟩, trivial⟩ (fun _ => rfl) dc ?_ ?_ ?_ ?_
  ·
   rintro lp rc pre x2 post ⟨acc6, rr6⟩ w1 K1 hxs2 hext hro hinv
   have hrd := hrd.ext hext
   have hy := hy.later hext
   refine TC.region ?_
   refine TO.alloc zr_34 rfl dc (fun b6 => ?_)
   refine TO.stores (k := 4) (vs := [.int .i64 (x2.1 : Int), .int .i64 (x2.2 : Int)]) (l' := [.int .i64 (x2.1 : Int), .int .i64 (x2.2 : Int)]) sz_34 rfl rfl rfl rfl rfl (show _ ≤ _ by simp) rfl rfl ?_
   show TO _ _ _ _ _ _ _ _ _ _ [I acc6, cells b1 [.func (.yield l) #[] #[]] 124, cells jb1 [.int .i64 x1.1] 3, cells jb2 [.string x1.2.Text, .int .i64 x1.2.Indent, .int .i64 x1.2.Stanza, .int .i64 x1.2.In, .int .i64 x1.2.Span_From, .int .i64 x1.2.Span_To] 36, cells b6 [.int .i64 (x2.1 : Int), .int .i64 (x2.2 : Int)] 34]
   refine TO.nil ?_
   exact fun a w ha hw => ⟨b6, (Sbs.cons rfl (Sbs.cons rfl (Sbs.cons rfl (Sbs.cons rfl (Sbs.cons rfl (Sbs.cons rfl (Sbs.nil))))))) _ _ _ ha, hw.weaken (Splits.of [0, 1, 2, 3, 4] kr rfl)⟩
  ·
   rintro lp rc pre x2 post2 ⟨acc6, rr6⟩ jb3 w1 K1 hxs2 hext hro hinv
   have hrd := hrd.ext hext
   have hy := hy.later hext
   obtain ⟨hinv, hx6⟩ := hinv
   have h := hinv (x2 :: post2) hxs2
   obtain ⟨ag2, hag2⟩ : ∃ ag, ag = rangeG dn2 (poem_Poem_Words_1_s2 x1) post2 := ⟨_, rfl⟩
   have h : poem_Poem_Words_1_s2 x1 x2 ag2 = some rr6 := by rw [hag2]; exact h
   unfold poem_Poem_Words_1_s2 at h
   show TC _ _ _ _ _ _ _ _ [(2, .pointer (some ⟨b1, 0, none⟩)), (7, .func (.func 52) #[] #[.pointer (some ⟨b2, 0, none⟩)]), (3, .pointer (some ⟨jb1, 0, none⟩)), (4, .pointer (some ⟨jb2, 0, none⟩)), (12, .func (.func 72) #[] #[.pointer (some ⟨b5, 0, none⟩)]), (5, .pointer (some ⟨jb3, 0, none⟩))] [I acc6, cells b1 [.func (.yield l) #[] #[]] 124, cells jb1 [.int .i64 x1.1] 3, cells jb2 [.string x1.2.Text, .int .i64 x1.2.Indent, .int .i64 x1.2.Stanza, .int .i64 x1.2.In, .int .i64 x1.2.Span_From, .int .i64 x1.2.Span_To] 36, cells jb3 [.int .i64 (x2.1 : Int), .int .i64 (x2.2 : Int)] 34]
   refine TC.block (TC.seq ?_)
   obtain ⟨hg2, h⟩ := grdE h
   refine TC.drawN 9 [(0, 14, .func (.yield l) #[] #[]), (1, 15, .int .i64 x1.1), (2, 16, .pointer (some ⟨jb2, 0, none⟩)), (3, 17, .string x1.2.Text), (4, 18, .pointer (some ⟨jb3, 0, none⟩)), (5, 19, .int .i64 (x2.1 : Int)), (6, 20, .pointer (some ⟨jb3, 1, none⟩)), (7, 21, .int .i64 (x2.2 : Int)), (8, 22, .string (cutB x1.2.Text (x2.1 : Int) (x2.2 : Int)))] mixed kr kr dc (by rfl) kr kr (DrawPre.cons ?_ (DrawPre.cons ?_ (DrawPre.cons ?_ (DrawPre.cons ?_ (DrawPre.cons ?_ (DrawPre.cons ?_ (DrawPre.cons ?_ (DrawPre.cons ?_ (DrawPre.cons ?_ DrawPre.nil))))))))) ?_
   ·
    intro D hn hd hcl hu hi
    refine TO.load (k := 1) sc_124 rfl dc (dl_old (by rfl) rfl) rfl rfl ?_
    exact TX.quiet 0 hu hi rfl
   ·
    intro D hn hd hcl hu hi
    refine TO.load (k := 2) sc_3 rfl dc (dl_old (by rfl) rfl) rfl rfl ?_
    exact TX.quiet 1 hu hi rfl
   ·
    intro D hn hd hcl hu hi
    refine TO.fieldAddr fl_36_0 rfl dc (dl_old (by rfl) rfl) (show _ = 0 from rfl) ?_
    exact TX.quiet 2 hu hi rfl
   ·
    intro D hn hd hcl hu hi
    refine TO.load (k := 3) sc_9 rfl dc (dl_lookup (m := 2) hu rfl (hd 2 dc)) rfl rfl ?_
    exact TX.quiet 3 hu hi rfl
   ·
    intro D hn hd hcl hu hi
    refine TO.fieldAddr fl_34_0 rfl dc (dl_old (by rfl) rfl) (show _ = 0 from rfl) ?_
    exact TX.quiet 4 hu hi rfl
   ·
    intro D hn hd hcl hu hi
    refine TO.load (k := 4) sc_3 rfl dc (dl_lookup (m := 4) hu rfl (hd 4 dc)) rfl rfl ?_
    exact TX.quiet 5 hu hi rfl
   ·
    intro D hn hd hcl hu hi
    refine TO.fieldAddr fl_34_1 rfl dc (dl_old (by rfl) rfl) (show _ = 1 from rfl) ?_
    exact TX.quiet 6 hu hi rfl
   ·
    intro D hn hd hcl hu hi
    refine TO.load (k := 4) sc_3 rfl dc (dl_lookup (m := 6) hu rfl (hd 6 dc)) rfl rfl ?_
    exact TX.quiet 7 hu hi rfl
   ·
    intro D hn hd hcl hu hi
    refine TO.slice rfl dc (dl_lookup (m := 3) hu rfl (hd 3 dc)) (evO.some (dl_lookup (m := 5) hu rfl (hd 5 dc))) (evO.some (dl_lookup (m := 7) hu rfl (hd 7 dc))) (slice_stringI (i := (x2.1 : Int)) (j := (x2.2 : Int)) Tryd.underlying9 (.inr rfl) (.inr rfl) hg2) ?_
    exact TX.quiet 8 hu hi rfl
   obtain ⟨rr7, hr1, h⟩ := consE h
   have hx7 : xs = acc6 ++ (x1.1, cutB x1.2.Text (x2.1 : Int) (x2.2 : Int)) :: rr7 := by rw [hx6, hr1]
   refine TO.yield hy rfl dc rfl hx7 rfl (k := 0) rfl ?_ ?_
   ·
    have hx8 : xs = (acc6 ++ [(x1.1, cutB x1.2.Text (x2.1 : Int) (x2.2 : Int))]) ++ rr7 := by rw [hx7]; simp
    show TO _ _ _ _ _ _ _ _ _ _ [I (acc6 ++ [(x1.1, cutB x1.2.Text (x2.1 : Int) (x2.2 : Int))]), cells b1 [.func (.yield l) #[] #[]] 124, cells jb1 [.int .i64 x1.1] 3, cells jb2 [.string x1.2.Text, .int .i64 x1.2.Indent, .int .i64 x1.2.Stanza, .int .i64 x1.2.In, .int .i64 x1.2.Span_From, .int .i64 x1.2.Span_To] 36, cells jb3 [.int .i64 (x2.1 : Int), .int .i64 (x2.2 : Int)] 34]
    refine TO.un rfl dc rfl un_not (TO.nil (TX.next (TC.condF rfl (TC.skip (TX.blockNormal ?_)))))
    exact TX.round (acc6 ++ [(x1.1, cutB x1.2.Text (x2.1 : Int) (x2.2 : Int))], rr7) ⟨fun post2 e2 => (by have e9 := snoc_post hxs2 e2; subst e9; subst hag2; exact h), hx8⟩ (Splits.of [0, 1, 2, 3] kr rfl)
   ·
    show TO _ _ _ _ _ _ _ _ _ _ [X (acc6 ++ [(x1.1, cutB x1.2.Text (x2.1 : Int) (x2.2 : Int))]), cells b1 [.func (.yield l) #[] #[]] 124, cells jb1 [.int .i64 x1.1] 3, cells jb2 [.string x1.2.Text, .int .i64 x1.2.Indent, .int .i64 x1.2.Stanza, .int .i64 x1.2.In, .int .i64 x1.2.Span_From, .int .i64 x1.2.Span_To] 36, cells jb3 [.int .i64 (x2.1 : Int), .int .i64 (x2.2 : Int)] 34]
    refine TO.un rfl dc rfl un_not (TO.nil (TX.next (TC.condT rfl (TC.ret (TX.blockRet ?_)))))
    exact TX.roundRet (acc6, (x1.1, cutB x1.2.Text (x2.1 : Int) (x2.2 : Int)), rr7) (show _ ∧ _ from ⟨rfl, hx7⟩) (Splits.of [0] kr rfl)
  ·
   rintro ⟨acc6, rr6⟩ hinv
   obtain ⟨hinv, hx6⟩ := hinv
   have h : dn2 = some rr6 := hinv [] (List.append_nil _).symm
   rw [hdn2] at h
   show TX _ _ _ _ _ _ _ [emp, emp, emp, emp, cells b5 [.string x1.2.Text] 9, I acc6, cells b1 [.func (.yield l) #[] #[]] 124, cells jb1 [.int .i64 x1.1] 3, cells jb2 [.string x1.2.Text, .int .i64 x1.2.Indent, .int .i64 x1.2.Stanza, .int .i64 x1.2.In, .int .i64 x1.2.Span_From, .int .i64 x1.2.Span_To] 36]
   refine TX.blockNormal (TX.blockNormal ?_)
   exact TX.round (acc6, rr6) ⟨fun post2 e2 => (by have e9 := snoc_post hxs1 e2; subst e9; subst hag1; exact h), hx6⟩ (Splits.of [5, 6] kr rfl)
  ·
   rintro c pre x2 post g hxs hX
   obtain ⟨ta1, tq1, tr1⟩ := g
   obtain ⟨rfl, hx9⟩ := (show _ ∧ _ from hX)
   show TC _ _ _ _ _ _ _ _ _ [emp, emp, emp, emp, cells b5 [.string x1.2.Text] 9, X (ta1 ++ [tq1])]
   refine TC.ret (TX.blockRet (TX.blockRet ?_))
   exact TX.roundRet (ta1, tq1, tr1) (show _ ∧ _ from ⟨rfl, hx9⟩) (Splits.of [5] kr rfl)
 ·
  rintro dm2 ⟨acc3, rr3⟩ hinv
  obtain ⟨hinv, hx3⟩ := hinv
  have h : dn1 = some rr3 := hinv [] (List.append_nil _).symm
  rw [hdn1] at h
  show TX _ _ _ _ _ _ _ [emp, star ((([] : List Nat) : List Nat).map mark), emp, cells b2 [.pointer (some ⟨p_c0, 0, none⟩)] 23, I acc3, cells b1 [.func (.yield l) #[] #[]] 124, mark dm2]
  refine TX.starCons (k := 6) (j := 1) rfl rfl dc ?_
  show TX _ _ _ _ _ _ _ [emp, star ((dm2 :: ([] : List Nat) : List Nat).map mark), emp, cells b2 [.pointer (some ⟨p_c0, 0, none⟩)] 23, I acc3, cells b1 [.func (.yield l) #[] #[]] 124, emp]
  refine TX.blockNormal ?_
  cases h
  exact TX.finY (ds := (dm2 :: ([] : List Nat))) (.inr rfl) (Splits.open0 (k := 1) rfl) Tryd.results74 (congrArg I (hx3.trans (List.append_nil _))) (Splits.of [4] kr rfl)
 ·
  rintro dm2 c pre x1 post g hxs hX
  obtain ⟨ta2, tq2, tr2⟩ := g
  obtain ⟨rfl, hx10⟩ := (show _ ∧ _ from hX)
  show TC _ _ _ _ _ _ _ _ _ [emp, star ((([] : List Nat) : List Nat).map mark), emp, cells b2 [.pointer (some ⟨p_c0, 0, none⟩)] 23, X (ta2 ++ [tq2]), mark dm2]
  refine TC.starCons (k := 5) (j := 1) rfl rfl dc ?_
  show TC _ _ _ _ _ _ _ _ _ [emp, star ((dm2 :: ([] : List Nat) : List Nat).map mark), emp, cells b2 [.pointer (some ⟨p_c0, 0, none⟩)] 23, X (ta2 ++ [tq2]), emp]
  refine TC.ret (TX.blockRet ?_)
  exact TX.finX (ds := (dm2 :: ([] : List Nat))) ta2 tq2 tr2 hx10 (.inl rfl) (Splits.open0 (k := 1) rfl) Tryd.results74 (Splits.of [4] kr rfl)
def poem_Poem_Words_v (p1 : Gpoem_Poem) : Option Unit :=
some ()
set_option maxRecDepth 100000 in
set_option maxHeartbeats 4000000 in
theorem poem_Poem_Words_fn {bp1 : Nat} {p1 : Gpoem_Poem} {p1_h0 p1_h1 : Hd} {r : Unit} (h : poem_Poem_Words_v p1 = some r) : FnR Tryd.prog 43 [.pointer (some ⟨bp1, 0, none⟩)] [cells bp1 [.string p1.told_title, p1_h0.v, p1_h1.v, .string p1.source] 93, vec enc_Gapi_Verse 36 6 p1_h0.v p1.told_lines, vec enc_Gapi_Span 34 2 p1_h1.v p1.told_stanzas] [] (fun v0 : Nat => .func (.func 74) #[] #[.pointer (some ⟨v0, 0, none⟩)]) (fun v0 => [cells v0 [.pointer (some ⟨bp1, 0, none⟩)] 23]) := by
 unfold poem_Poem_Words_v at h
 refine FnR.intro Tryd.func43 rfl Tryd.ntmps43 (by simp) ?_
 intro w0 K hrd
 refine TC.seq (TC.region ?_)
 refine TO.box rfl dc rfl (fun b1 => ?_)
 refine TO.assign rfl dc rfl (TO.nil (TX.next (TC.seq (TC.region (TO.makeFunc (x1 := []) (x2 := [.tmp 1]) rfl dc rfl rfl (TO.assign rfl dc rfl (TO.nil (TX.next (TC.ret ?_)))))))))
 cases h
 exact TX.fin (rs := [.tmp 2]) b1 (.inl rfl) Tryd.results43 (.cons (.tmp rfl) .nil) rfl (Splits.of [0] kr rfl)
end Go.Proofs.YtgfkogafkhbgnaaDoor
