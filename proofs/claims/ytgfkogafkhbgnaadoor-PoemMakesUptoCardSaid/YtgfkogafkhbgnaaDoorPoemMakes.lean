/-
  The card PoemMakesUptoCard of the given program: the statement's second form, proved for every input whose values and letters are together at most 1,048,576; its tie is the given one.
-/
import Derived.Test.YtgfkogafkhbgnaaDoorCd
import Derived.Test.YtgfkogafkhbgnaaDoorPoemMakes5

import Derived.OpenShut
import Derived.ShutString
import Derived.ChangeOld
import Derived.Carry
namespace Go.Proofs.YtgfkogafkhbgnaaDoor.poemMakes
open Go.ChangeShapes Go.WideShapes Go.ChangeAt Go.RowKit
open Go.ChangeMaps (open_string shut_string)
set_option linter.unusedVariables false

theorem own : ownKnob Tryd.prog.godebug = none := by kernel_rfl
theorem laidOut : laidOutB Tryd.prog = true := by kernel_rfl
theorem wtR_mem : ∀ (r : Row) (x : List UInt8), x ∈ r → x.length + 1 ≤ wtR r
  | y :: r, x, h => by
    have e : wtR (y :: r) = y.length + 1 + wtR r := by unfold wtR; rw [List.map_cons, List.sum_cons]
    rcases List.mem_cons.1 h with rfl | h
    · omega
    · have := wtR_mem r x h; omega
theorem wtZ_mem : ∀ (z : List Row) (r : Row), r ∈ z → 1 + wtR r ≤ wtZ z
  | y :: z, r, h => by
    rw [wtZ_cons]
    rcases List.mem_cons.1 h with rfl | h
    · omega
    · have := wtZ_mem z r h; omega
theorem bulk_strs {H : Type} : ∀ (l : List ByteArray), wtR (l.map (·.data.toList)) = Rows.uptoBulkAll (strs l : List (DataW H))
  | [] => rfl
  | x :: l => by
    have ih := bulk_strs (H := H) l
    have e1 : Rows.uptoBulkAll (strs (x :: l) : List (DataW H)) = Rows.uptoBulk (DataW.lit (H := H) (.string x.data.toList)) + Rows.uptoBulkAll (strs l : List (DataW H)) := rfl
    have e2 : Rows.uptoBulk (DataW.lit (H := H) (.string x.data.toList)) = x.data.toList.length + 1 := by simp [Rows.uptoBulk]
    have e3 : wtR ((x :: l).map (·.data.toList)) = x.data.toList.length + 1 + wtR (l.map (·.data.toList)) := by unfold wtR; rw [List.map_cons, List.map_cons, List.sum_cons]
    rw [e1, e2, e3, ih]
/-- What is told of an element's reading. -/
def Seen {H : Type} (w : World) (z : List ByteArray × Hd) (y : DataW H) : Prop :=
  (∃ vv k L, Vw vv L 1 k z.2.v z.1 ∧ (roRow encS 1 vv k L).P (fun b => b < w.heap.size) w) ∧ ((y = .nil ∧ z.1 = []) ∨ ∃ B, y = .slice (strs z.1) B)
theorem bulk_wt {H : Type} {w : World} : ∀ (A : List (DataW H)) (zs : List (List ByteArray × Hd)), A.length = zs.length → (∀ (i : Nat) (z : List ByteArray × Hd), zs[i]? = some z → ∃ y, A[i]? = some y ∧ Seen w z y) → wtZ ((zs.map Prod.fst).map (·.map (·.data.toList))) ≤ Rows.uptoBulkAll A
  | _, [], _, _ => Nat.zero_le _
  | [], z :: zs, h, _ => by simp at h
  | y :: A, z :: zs, h, hq => by
    have ih := bulk_wt A zs (by simpa using h) fun i z hz => hq (i + 1) z (by simpa using hz)
    obtain ⟨y', hy', _, hs⟩ := hq 0 z rfl
    obtain rfl : y = y' := Option.some.inj hy'
    have e1 : Rows.uptoBulkAll (y :: A) = Rows.uptoBulk y + Rows.uptoBulkAll A := rfl
    rw [List.map_cons, List.map_cons, wtZ_cons, e1]
    have : 1 + wtR (z.1.map (·.data.toList)) ≤ Rows.uptoBulk y := by
      rcases hs with ⟨rfl, h0⟩ | ⟨B, rfl⟩
      · rw [h0]; simp [Rows.uptoBulk, wtR]
      · rw [bulk_strs (H := H)]; simp only [Rows.uptoBulk]; omega
    omega
theorem mkB_list (x : ByteArray) : mkB x.data.toList = x := by cases x; simp [mkB]
theorem mkZ_list (z : List (List ByteArray)) : mkZ (z.map (·.map (·.data.toList))) = z := by
  unfold mkZ
  rw [List.map_map]
  refine (List.map_congr_left fun r _ => ?_).trans (List.map_id _)
  show (r.map (·.data.toList)).map mkB = r
  rw [List.map_map]
  exact (List.map_congr_left fun x _ => mkB_list x).trans (List.map_id _)
theorem poemMakes_any (t : ByteArray) (hd : Hd) (zs : List (List ByteArray × Hd)) {vv : Value} {k : Nat} {L : List (List ByteArray × Hd)} (W : World) (hw : Vw vv L 1 k hd.v zs) (hr : (roRow encN_T_string 1 vv k L).P (fun b => b < W.heap.size) W) (ho : (rdOwn nestR_T_string L).P (fun b => b < W.heap.size) W) (ht : t.size ≤ 1048576) (hb : wtZ ((zs.map Prod.fst).map (·.map (·.data.toList))) ≤ 1048576) :
    Calls Tryd.prog 9 #[.string t, hd.v] W fun e w' => e = .returned (.bool true) ∧ Below W.heap.size W w' := by
  have hv := poemMakes_v t.data.toList ((zs.map Prod.fst).map (·.map (·.data.toList)))
  rw [mkB_list, mkZ_list] at hv
  generalize hz : (zs.map Prod.fst).map (·.map (·.data.toList)) = z at hv hb
  have hl := wtZ_len z
  have hv := hv (by omega) (fun r h => by
    have h1 := wtZ_mem z r h
    have h2 := wtR_len r
    refine ⟨by omega, fun x hx => ?_⟩
    have := wtR_mem r x hx
    omega) (by show t.data.toList.length ≤ _; rw [Array.length_toList]; exact Nat.le_trans ht (by decide)) (by omega)
  exact FnR.p (law17_PoemMakes_fn hw rfl hv) W (fun A hA => by
    simp only [List.mem_cons, List.not_mem_nil, or_false] at hA
    rcases hA with rfl | rfl
    · exact ⟨_, hr, fun _ _ h => h⟩
    · exact ⟨_, ho, fun _ _ h => h⟩)
set_option maxRecDepth 100000 in
theorem contract (H : Type) (enc : TypeId × Value → H) (W : World) (base : Nat) (args : Array Value) (ds gs : List (DataW H)) (before : List MemPlace)
    (hval0 : ∀ (j : Nat) t v, Tryd.f9.params[j]? = some t → args[j]? = some v → Value.okWide Tryd.prog W .any base t v)
    (hW : DataW.Whole enc Tryd.prog Tryd.f9.params.toList Rows.poemMakesSpec.vars false W args.toList ds gs before)
    (hk : Rows.uptoSmall H (ds ++ gs) = true) :
    Calls Tryd.prog 9 args W fun e W' => ∃ v, e = .returned v ∧ Rows.poemMakesSpec.post enc Tryd.prog Tryd.f9 false true false false W args v W' := by
  have hval : ∀ (j : Nat) t v, Tryd.f9.params[j]? = some t → args[j]? = some v → Value.okWide Tryd.prog W .any base t v := hval0
  have hW' := hW
  obtain ⟨p, q, hA0, hV, rfl, hfz, hnd⟩ := hW
  have hA : DataW.TrodAll enc Tryd.prog W 0 (fun _ => true) true Tryd.f9.params.toList args.toList ds p := hA0
  rw [Tryd.params9] at hA hval
  obtain ⟨v0, vs0, d0, ds0, p0, q0, hargs, rfl, rfl, h0, r0⟩ := trodAll_cons hA
  obtain ⟨v1, vs1, d1, ds1, p1, q1, rfl, rfl, rfl, h1, r1⟩ := trodAll_cons r0
  obtain ⟨rfl, rfl, rfl⟩ := trodAll_nil r1
  obtain rfl : args = #[v0, v1] := by cases args; simp_all
  obtain ⟨rfl, rfl⟩ := trodVars_none hV
  have hlt1 : ∀ x ∈ p1, x.block < W.heap.size := fun x hx => by simpa using hW'.lt x (by simp [hx])
  obtain ⟨a0, rfl, rfl, rfl, w0⟩ := open_string Tryd.underlying9 (hval 0 9 v0 rfl rfl) h0
  have h1k := h1
  obtain ⟨z1, z2, z3, rfl⟩ := okWide_slice Tryd.underlying54 (hval 1 54 v1 rfl rfl)
  obtain ⟨fu, h1⟩ := h1
  obtain ⟨hd, zs, vv, k, L, hhd, hw, hr, hm, hy⟩ := see_each (en := encN_T_string) (m := fun z => z.2.v) (fun z => rfl) (Seen (H := H) W) Tryd.underlying54 (by kernel_rfl) (fun n cs y hy => by
    obtain ⟨hd, zs, vv, k, L, g1, g2, g3, g4⟩ := see_strings Tryd.underlying48 Tryd.underlying9 (by kernel_rfl) hy
    exact ⟨(zs, hd), g1, ⟨vv, k, L, g2, g3⟩, g4⟩) h1
  have hhd : Value.slice z1 z2 z3 = hd.v := (List.cons.inj hhd).1
  rw [hhd] at h1k hW' ⊢
  have hk : Rows.uptoBulkAll ([.lit (.string a0.data.toList), d1] ++ [] : List (DataW H)) ≤ 1048576 := of_decide_eq_true hk
  have e : Rows.uptoBulkAll ([.lit (.string a0.data.toList), d1] ++ [] : List (DataW H)) = Rows.uptoBulk (DataW.lit (H := H) (.string a0.data.toList)) + (Rows.uptoBulk d1 + 0) := rfl
  have e0 : Rows.uptoBulk (DataW.lit (H := H) (.string a0.data.toList)) = a0.size + 1 := by simp [Rows.uptoBulk]
  have hown : (rdOwn nestR_T_string L).P (fun b => b < W.heap.size) W := by
    refine ⟨fun b hb => hb, fun z hz A hA => ?_⟩
    obtain ⟨i, hi⟩ := List.getElem?_of_mem (hm z hz)
    rcases hy with ⟨_, rfl⟩ | ⟨A', B', _, _, hq⟩
    · simp at hi
    · obtain ⟨y, _, ⟨vv2, k2, L2, g1, g2⟩, _⟩ := hq i z hi
      simp only [nestR_T_string, List.mem_cons, List.not_mem_nil, or_false] at hA
      subst hA
      exact ⟨_, rdSl_see g1 g2, fun _ h => h⟩
  have hbulk : wtZ ((zs.map Prod.fst).map (·.map (·.data.toList))) ≤ Rows.uptoBulk d1 := by
    rcases hy with ⟨_, rfl⟩ | ⟨A', B', h5, h6, hq⟩
    · exact Nat.zero_le _
    · have h5 : d1 = .slice A' B' := h5
      have := bulk_wt A' zs h6 hq
      rw [h5]; simp only [Rows.uptoBulk]; omega
  clear hA0 hval0 hval
  simp only [List.append_nil] at hW'
  refine (poemMakes_any a0 hd zs W hw hr hown (by omega) (by omega)).mono fun e W' ⟨he, bel⟩ => ?_
  subst he
  exact ⟨_, rfl, _, _, _, [], _, [], hW', trodAll_mk1 (shut_bool Tryd.underlying4 _), (trodAll_cons_mk (shut_string Tryd.underlying9 w0) (trodAll_cons_mk (Below.trod laidOut (by kernel_rfl) (of_decide_eq_true (by kernel_rfl)) h1k bel hlt1) trodAll_mk0)), rfl, bel.frame _, fun h => by cases h⟩
theorem laid_met (os : Os) : laidMet Tryd.prog Rows.poemMakesUptoRow.laid ((laidWorld os).forCall (fun _ _ => 0) ⟨#[], #[.string ByteArray.empty, .slice none 0 0], []⟩).memory :=
  laidMet_of_run' 8 (by kernel_rfl) (by kernel_rfl)
theorem reads (os : Os) {H : Type} (enc : TypeId × Value → H) : ∃ places, DataW.whole enc Tryd.prog ((laidWorld os).forCall (fun _ _ => 0) ⟨#[], #[.string ByteArray.empty, .slice none 0 0], []⟩).memory Tryd.f9.params.toList Rows.poemMakesSpec.vars false (#[.string ByteArray.empty, .slice none 0 0] : Array Value).toList 8 = some ([.lit (.string []), .nil], [], places) :=
  ⟨[], by kernel_rfl⟩
set_option maxRecDepth 100000 in
theorem lifted (os : Os) (started : os.Started) (H : Type) (enc : TypeId × Value → H) (F : Stop.Interp) :
    ReturnsInHanded {} Tryd.checked os 9 .any ((Rows.OpenSpec.upto Rows.poemMakesSpec).preRow enc Tryd.prog Tryd.f9 Rows.poemMakesUptoRow.domain false Rows.poemMakesUptoRow.laid) (((Rows.OpenSpec.upto Rows.poemMakesSpec).at F).post enc Tryd.prog Tryd.f9 false true false false) := by
  obtain ⟨places, hx⟩ := reads os enc
  refine returnsInHanded_of_row (C := Tryd.checked) (s := Rows.OpenSpec.upto Rows.poemMakesSpec) own started (by kernel_rfl) Tryd.func9
    (witness_row_at (enc := enc) (C := Tryd.checked) false (laidWorld os) #[.string ByteArray.empty, .slice none 0 0] rfl (by kernel_rfl) (by kernel_rfl) (by kernel_rfl)
      (OpenSpec.preRow_of_cond 8 hx (by kernel_rfl) (fun k hk => by cases hk; kernel_rfl) (by kernel_rfl) (laid_met os))) ?_
  intro W base args ds gs before hval hW _ hcond hsz hL _ _
  exact contract H enc W base args ds gs before hval hW (hcond _ rfl)
theorem said : Rows.PoemMakesUptoSaid :=
  OpenClaim.holds_of_cond 9 Tryd.f9 rfl rfl rfl rfl rfl rfl rfl ⟨rfl, rfl, rfl, rfl, rfl⟩ rfl rfl rfl rfl rfl (by kernel_rfl) Tryd.func9 (by kernel_rfl)
    (of_decide_eq_true (by kernel_rfl)) (by unfold Func.isWrapper; first | (rw [if_pos (by decide +kernel)]; kernel_rfl) | (rw [if_neg (by decide +kernel)]; exact ⟨rfl, rfl⟩))
    (fun os started H enc _ F => by rw [OpenClaim.pre_eq_preRow]; exact lifted os started H enc F)
theorem plain (f : FuncId) (fn : Func) (hf : Tryd.pinned.checked.prog.funcNamed "canticle/canticlelaw17.PoemMakes" = some f) (hfn : Tryd.pinned.checked.prog.funcs[f]? = some fn) :
    false = Tryd.pinned.checked.prog.looks [] ∧ ∀ (j : Nat) t, fn.params[j]? = some t → Tryd.pinned.checked.prog.wantsStandIn t = false := by
  obtain rfl : f = 9 := Option.some.inj ((show Tryd.prog.funcNamed "canticle/canticlelaw17.PoemMakes" = some 9 by kernel_rfl).symm.trans hf) |>.symm
  obtain rfl : fn = Tryd.f9 := (Option.some.inj (Tryd.func9.symm.trans hfn)).symm
  refine ⟨by kernel_rfl, fun j t ht => ?_⟩
  rw [Tryd.params9] at ht
  have hm : t ∈ [9, 54] := by simpa using Array.mem_of_getElem? ht
  have hall : ([9, 54].all fun u => !Tryd.prog.wantsStandIn u) = true := by kernel_rfl
  exact (show Tryd.prog.wantsStandIn t = false by simpa using List.all_eq_true.1 hall t hm)
theorem proved : Rows.PoemMakesUptoCardSaid :=
  Claim7.holds_tied_plain_at .later [] _ _ _ _ said (fun _ h => by cases h) (by kernel_rfl) (fun _ h => by cases h) poemMakesUpto_row_tie rfl ⟨rfl, rfl⟩ (by kernel_rfl) rfl plain (by kernel_rfl)
#print axioms proved
end Go.Proofs.YtgfkogafkhbgnaaDoor.poemMakes
