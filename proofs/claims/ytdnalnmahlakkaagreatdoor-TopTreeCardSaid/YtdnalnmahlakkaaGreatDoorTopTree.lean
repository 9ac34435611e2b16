/-
  The card TopTreeCard of the given program: the statement, proved for every input; its tie is the given one.
-/
import Derived.Test.YtdnalnmahlakkaaGreatDoorCdt
import Derived.Test.YtdnalnmahlakkaaGreatDoorTopTree6
import Derived.OpenShut
import Derived.ShutString
import Derived.ChangeOld
import Derived.Carry
import Derived.SizedLaws
import Derived.Lib.LaidU8
namespace Go.Proofs.YtdnalnmahlakkaaGreatDoor.topTree
open Go.ChangeShapes Go.WideShapes Go.ChangeAt Go.RowKit
open Go.ChangeMaps (open_string shut_string)
open Go.Shelf
set_option linter.unusedVariables false

theorem own : ownKnob Tryz.prog.godebug = none := by kernel_rfl
theorem laidOut : laidOutB Tryz.prog = true := by kernel_rfl
theorem cellLt {w : World} {b j : Nat} {v : Value} (h : w.cell? ⟨b, j, none⟩ = some v) : b < w.heap.size := by
  rcases Nat.lt_or_ge b w.heap.size with h1 | h1
  · exact h1
  · have : w.heap[b]? = none := Array.getElem?_eq_none h1
    simp [World.cell?, this] at h
/-- A slice that can be read can be read. -/
theorem g64 : Tryz.prog.globalNamed "math/bits.deBruijn64tab" = some (Tryz.laysNm727_ren.g 1) := by kernel_rfl
theorem met64 {W : World} (h : laidMetH Tryz.prog Rows.topTreeRow.laid W) : laidMet Tryz.prog Rows.topTreeRow.laid W := h
theorem tz_laid {W : World} (h : laidMetH Tryz.prog Rows.topTreeRow.laid W) : tz64A.P (fun k => k = Tryz.laysNm727_ren.g 1) W := by
  obtain ⟨g, t, cs, fuel, p, hg, hty, hvar, hd⟩ := Lib.laidMet.reads (met64 h) (n := "math/bits.deBruijn64tab") (d := Rows.laid_math_bits_deBruijn64tab) (.tail _ (.head _))
  obtain rfl := Option.some.inj (g64.symm.trans hg)
  have hT : (Tryz.prog.globals[Tryz.laysNm727_ren.g 1]?).map (·.type) = some 182 := by kernel_rfl
  obtain rfl := Option.some.inj (hT.symm.trans hty)
  have hcs := Lib.cells_of_tab (k := .u8) (zs := Lib.deBruijn64tab.map fun n : Nat => (n : Int)) Tryz.underlying182 Tryz.underlying5 (by kernel_rfl) (by kernel_rfl) hd
  have hcell := fun j => World.var?_cell hg hvar j
  refine ⟨fun k => Iff.rfl, ?_, fun j hj => ?_⟩
  · have h0 := hcell 0
    rw [← Array.getElem?_toList, hcs] at h0
    have h1 : W.cell? ⟨Tryz.laysNm727_ren.g 1, 0, none⟩ = some (.int .u8 0) := h0
    exact cellLt h1
  · rw [hcell j, ← Array.getElem?_toList, hcs, List.getElem?_map, List.getElem?_map, List.getElem?_eq_getElem hj, List.getD_eq_getElem?_getD, List.getElem?_eq_getElem hj]
    rfl
set_option maxRecDepth 100000 in
theorem contract (H : Type) (enc : TypeId × Value → H) (W : World) (base : Nat) (args : Array Value) (ds gs : List (DataW H)) (before : List MemPlace)
    (hval0 : ∀ (j : Nat) t v, Tryz.f3.params[j]? = some t → args[j]? = some v → Value.okWide Tryz.prog W .any base t v)
    (hW : DataW.Whole enc Tryz.prog Tryz.f3.params.toList Rows.topTreeSpec.vars false W args.toList ds gs before)
    (hsz0 : (DataW.weightsEach Tryz.prog (Tryz.f3.params.toList ++ Rows.topTreeSpec.plain.varTypes Tryz.prog) (ds ++ gs)).all (· ≤ reachBytes) = true) (hL0 : laidMetH Tryz.prog Rows.topTreeRow.laid W) :
    Calls Tryz.prog 3 args W fun e W' => ∃ v, e = .returned v ∧ Rows.topTreeSpec.post enc Tryz.prog Tryz.f3 false true false false W args v W' := by
  have hval : ∀ (j : Nat) t v, Tryz.f3.params[j]? = some t → args[j]? = some v → Value.okWide Tryz.prog W .any base t v := hval0
  have hW' := hW
  obtain ⟨p, q, hA0, hV, rfl, hfz, hnd⟩ := hW
  have hA : DataW.TrodAll enc Tryz.prog W 0 (fun _ => true) true Tryz.f3.params.toList args.toList ds p := hA0
  have hsz : (DataW.weightsEach Tryz.prog (Tryz.f3.params.toList ++ Rows.topTreeSpec.plain.varTypes Tryz.prog) (ds ++ gs)).all (· ≤ reachBytes) = true := hsz0
  rw [Tryz.params3] at hA hval hsz
  obtain ⟨v0, vs0, d0, ds0, p0, q0, hargs, rfl, rfl, h0, r0⟩ := trodAll_cons hA
  obtain ⟨v1, vs1, d1, ds1, p1, q1, rfl, rfl, rfl, h1, r1⟩ := trodAll_cons r0
  obtain ⟨rfl, rfl, rfl⟩ := trodAll_nil r1
  obtain rfl : args = #[v0, v1] := by cases args; simp_all
  obtain ⟨rfl, rfl⟩ := trodVars_none hV
  have hlt0 : ∀ x ∈ p0, x.block < W.heap.size := fun x hx => by simpa using hW'.lt x (by simp [hx])
  have h0k := h0
  obtain ⟨a1, rfl, rfl, rfl, w1⟩ := open_string Tryz.underlying9 (hval 1 9 v1 rfl rfl) h1
  have b1 : a1.size ≤ 140737488351232 := by have := sized_string hsz (j := 1) (t := 9) rfl rfl; simp only [reachBytes, Array.length_toList] at this; exact this
  obtain ⟨y0a, y0b, y0c, rfl⟩ := okWide_slice Tryz.underlying22 (hval 0 22 v0 rfl rfl)
  obtain ⟨fu0, h0⟩ := h0
  obtain ⟨hd0, zs0, vv0, o0, hh0, hw0, hr0, hy0⟩ := see_eachO (en := enc_Gapi_Witness) (n := 2) (by decide) enc_Gapi_Witness_len (fun z y => y = .agg [.lit (.string z.Name.data.toList), .lit (.string z.Text.data.toList)]) Tryz.underlying22 (by kernel_rfl) (fun n cs y hy => by
    obtain ⟨a, b, g1, g2⟩ := see_wit Tryz.underlying30 (by kernel_rfl) (by kernel_rfl) (by kernel_rfl) Tryz.underlying9 hy
    exact ⟨⟨a, b⟩, g1, g2⟩) h0
  have hh0 : Value.slice y0a y0b y0c = hd0.v := (List.cons.inj hh0).1
  rw [hh0] at h0k hW' ⊢
  have b0 : ∀ r ∈ zs0, r.Name.size ≤ 140737488351232 := by
    rcases hy0 with ⟨_, rfl⟩ | ⟨A, B, hAB, hAl, hq⟩
    · exact fun r hr => by (cases hr)
    · intro r hr
      have hAB : d0 = .slice A B := hAB
      obtain ⟨i, hi⟩ := List.getElem?_of_mem hr
      obtain ⟨y, hy, rfl⟩ := hq i r hi
      have hm2 := weight_wits (ts := 9) (B := B) (P := Tryz.prog) Tryz.underlying22 Tryz.underlying30 (by kernel_rfl) (List.mem_of_getElem? hy)
      have : r.Name.data.toList.length ≤ 140737488351232 := of_decide_eq_true (List.all_eq_true.1 hsz _ (DataW.weights_mem_each (j := 0) rfl (by rw [hAB]; rfl) _ hm2))
      rw [Array.length_toList] at this
      exact this
  have c0 : zs0.length * 32 ≤ 140737488351232 := by
    rcases hy0 with ⟨_, rfl⟩ | ⟨A, B, hAB, hAl, _⟩
    · exact Nat.zero_le _
    · have hAB : d0 = .slice A B := hAB
      have hb : Tryz.prog.bytesOf 30 = 32 := by kernel_rfl
      have hm2 : (A.length + B.length) * Tryz.prog.bytesOf 30 ∈ DataW.weights Tryz.prog 22 (.slice A B : DataW H) := by simp [DataW.weights, Tryz.underlying22]
      have : (A.length + B.length) * Tryz.prog.bytesOf 30 ≤ 140737488351232 := of_decide_eq_true (List.all_eq_true.1 hsz _ (DataW.weights_mem_each (j := 0) rfl (by rw [hAB]; rfl) _ hm2))
      rw [hb] at this
      omega
  clear hA0 hval0
  simp only [List.append_nil] at hW'
  refine (topTree_any hd0 zs0 a1 W hw0 hr0 b0 c0 b1 (tz_laid hL0)).mono fun e W' ⟨he, bel⟩ => ?_
  subst he
  exact ⟨_, rfl, _, _, _, [], _, [], hW', trodAll_mk1 (shut_bool Tryz.underlying4 _), (trodAll_cons_mk (Below.trod laidOut (by kernel_rfl) (of_decide_eq_true (by kernel_rfl)) h0k bel hlt0) (trodAll_cons_mk (shut_string Tryz.underlying9 w1) trodAll_mk0)), rfl, bel.frame _, fun h => by cases h⟩
theorem laid_met (os : Os) : laidMet Tryz.prog Rows.topTreeRow.laid ((laidWorld os).forCall (fun _ _ => 0) ⟨#[], #[.slice none 0 0, .string ByteArray.empty], []⟩).memory :=
  laidMet_of_run' 8 (by kernel_rfl) (by kernel_rfl)
theorem reads (os : Os) {H : Type} (enc : TypeId × Value → H) : ∃ places, DataW.whole enc Tryz.prog ((laidWorld os).forCall (fun _ _ => 0) ⟨#[], #[.slice none 0 0, .string ByteArray.empty], []⟩).memory Tryz.f3.params.toList Rows.topTreeSpec.vars false (#[.slice none 0 0, .string ByteArray.empty] : Array Value).toList 8 = some ([.nil, .lit (.string [])], [], places) :=
  ⟨[], by kernel_rfl⟩
set_option maxRecDepth 100000 in
theorem lifted (os : Os) (started : os.Started) (H : Type) (enc : TypeId × Value → H) (F : Stop.Interp) :
    ReturnsInHanded {} Tryz.checked os 3 .any ((OpenSpec.ofChange Rows.topTreeSpec).preRow enc Tryz.prog Tryz.f3 Rows.topTreeRow.domain false Rows.topTreeRow.laid) (((OpenSpec.ofChange Rows.topTreeSpec).at F).post enc Tryz.prog Tryz.f3 false true false false) := by
  obtain ⟨places, hx⟩ := reads os enc
  refine returnsInHanded_of_row (C := Tryz.checked) (s := OpenSpec.ofChange Rows.topTreeSpec) own started (by kernel_rfl) Tryz.func3
    (witness_row_at (enc := enc) (C := Tryz.checked) false (laidWorld os) #[.slice none 0 0, .string ByteArray.empty] rfl (by kernel_rfl) (by kernel_rfl) (by kernel_rfl)
      (OpenSpec.preRow_of_cond 8 hx (by kernel_rfl) (fun k hk => by cases hk) (by kernel_rfl) (laid_met os))) ?_
  intro W base args ds gs before hval hW _ hcond hsz hL _ _
  exact contract H enc W base args ds gs before hval hW hsz hL
theorem said : Rows.TopTreeSaid :=
  OpenClaim.holds_of_cond 3 Tryz.f3 rfl rfl rfl rfl rfl rfl rfl ⟨rfl, rfl, rfl, rfl, rfl⟩ rfl rfl rfl rfl rfl (by kernel_rfl) Tryz.func3 (by kernel_rfl)
    (of_decide_eq_true (by kernel_rfl)) (by unfold Func.isWrapper; first | (rw [if_pos (by decide +kernel)]; kernel_rfl) | (rw [if_neg (by decide +kernel)]; exact ⟨rfl, rfl⟩))
    (fun os started H enc _ F => by rw [OpenClaim.pre_eq_preRow]; exact lifted os started H enc F)
theorem plain (f : FuncId) (fn : Func) (hf : Tryz.pinned.checked.prog.funcNamed "canticle/canticletop.TopTree" = some f) (hfn : Tryz.pinned.checked.prog.funcs[f]? = some fn) :
    true = Tryz.pinned.checked.prog.looks [] ∧ ∀ (j : Nat) t, fn.params[j]? = some t → Tryz.pinned.checked.prog.wantsStandIn t = false := by
  obtain rfl : f = 3 := Option.some.inj ((show Tryz.prog.funcNamed "canticle/canticletop.TopTree" = some 3 by kernel_rfl).symm.trans hf) |>.symm
  obtain rfl : fn = Tryz.f3 := (Option.some.inj (Tryz.func3.symm.trans hfn)).symm
  refine ⟨by kernel_rfl, fun j t ht => ?_⟩
  rw [Tryz.params3] at ht
  have hm : t ∈ [22, 9] := by simpa using Array.mem_of_getElem? ht
  have hall : ([22, 9].all fun u => !Tryz.prog.wantsStandIn u) = true := by kernel_rfl
  exact (show Tryz.prog.wantsStandIn t = false by simpa using List.all_eq_true.1 hall t hm)
theorem proved : Rows.TopTreeCardSaid :=
  Claim7.holds_tied_plain_at .later [] _ _ _ _ said (fun _ h => by cases h) (by kernel_rfl) (fun _ h => by cases h) topTree_row_tie rfl ⟨rfl, rfl⟩ (by kernel_rfl) rfl plain (by kernel_rfl)
#print axioms proved
end Go.Proofs.YtdnalnmahlakkaaGreatDoor.topTree
