/-
  The statement PageLeast of the given program, proved for every input. No condition.
-/
import Derived.Test.YtnhdnpdbmgeheaaRows
import Derived.Test.YtnhdnpdbmgeheaaPageLeast4
import Derived.ProofKit
import Derived.OpenShut
import Derived.ShutString
import Derived.ChangeOld
import Derived.Carry
import Derived.SizedLaws
namespace Go.Proofs.Ytnhdnpdbmgeheaa.pageLeast
open Go.ChangeShapes Go.WideShapes Go.ChangeAt Go.RowKit
open Go.ChangeMaps (open_string shut_string)
set_option linter.unusedVariables false

theorem laidOut : laidOutB Try.prog = true := by kernel_rfl
theorem own : ownKnob Try.prog.godebug = none := by kernel_rfl

set_option maxRecDepth 100000 in
theorem lifted (os : Os) (started : os.Started) (H : Type) (enc : TypeId × Value → H) :
    ReturnsInHanded {} Try.checked os 5 .any (Rows.pageLeastSpec.pre6 enc Try.prog Try.f5 Rows.pageLeastRow.domain false) (Rows.pageLeastSpec.post enc Try.prog Try.f5 false true false false) := by
  refine returnsInHanded_of_change_sized (C := Try.checked) own started (by kernel_rfl) Try.func5
    (ChangeSpec.witness6 (enc := enc) (C := Try.checked) false ⟨#[], #[.agg #[.string ByteArray.empty, .slice none 0 0, .int .i64 0, .int .i64 0, .int .i64 0, .int .i64 0, .int .i64 0]], []⟩ 8 (by kernel_rfl) (by kernel_rfl) (by kernel_rfl) (by kernel_rfl)) ?_
  intro W base args ds gs before hval0 hW hcnd hsz0 _
  have hval : ∀ (j : Nat) t v, Try.f5.params[j]? = some t → args[j]? = some v → Value.okWide Try.prog W .any base t v := hval0
  have hW' := hW
  obtain ⟨p, q, hA0, hV, rfl, hfz, hnd⟩ := hW
  have hA : DataW.TrodAll enc Try.prog W 0 (fun _ => true) true Try.f5.params.toList args.toList ds p := hA0
  have hsz : (DataW.weightsEach Try.prog (Try.f5.params.toList ++ Rows.pageLeastSpec.plain.varTypes Try.prog) (ds ++ gs)).all (· ≤ reachBytes) = true := hsz0
  rw [Try.params5] at hA hval hsz
  obtain ⟨v0, vs0, d0, ds0, p0, q0, hargs, rfl, rfl, h0, r0⟩ := trodAll_cons hA
  obtain ⟨rfl, rfl, rfl⟩ := trodAll_nil r0
  obtain rfl : args = #[v0] := by cases args; simp_all
  obtain ⟨rfl, rfl⟩ := trodVars_none hV
  have hlt : ∀ x ∈ p0, x.block < W.heap.size := fun x hx => by simpa using hW'.lt x (by simpa using hx)
  have h0k := h0
  obtain ⟨s, hd, zs, i, a, b, c, g, vv, k, L, y0, y1, y2, y3, rfl, hw, hr, hd0, hy⟩ := see_line Try.underlying41 (by kernel_rfl) (by kernel_rfl) Try.underlying9 (by kernel_rfl) Try.underlying39 (by kernel_rfl) Try.underlying3 (by kernel_rfl) Try.underlying23 (by kernel_rfl) (by kernel_rfl) (hval 0 41 v0 rfl rfl) h0
  have hlen : zs.length ≤ 140737488355328 := by
    rcases hy with ⟨_, rfl⟩ | ⟨A, B, rfl, hAl⟩
    · exact Nat.zero_le _
    · have hb : Try.prog.bytesOf 3 = 8 := by kernel_rfl
      have hm := DataW.weights_mem_each (P := Try.prog) (ts := [9, 39, 3, 23]) (ds := [y0, .slice A B, y2, y3]) (j := 1) rfl rfl ((A.length + B.length) * Try.prog.bytesOf 3) (by simp [DataW.weights, Try.underlying39])
      have hm2 : (A.length + B.length) * Try.prog.bytesOf 3 ∈ DataW.weights Try.prog 41 (.agg [y0, .slice A B, y2, y3]) := by
        unfold DataW.weights
        rw [Try.underlying41]
        exact hm
      have : (A.length + B.length) * Try.prog.bytesOf 3 ≤ 140737488351232 := of_decide_eq_true (List.all_eq_true.1 hsz _ (DataW.weights_mem_each (j := 0) rfl (by rw [hd0]; rfl) _ hm2))
      rw [hb] at this
      omega
  clear hA0 hval0
  simp only [List.append_nil] at hW'
  refine (pageLeast_any ⟨s, zs, i, a, b, c, g⟩ hd W hw hr hlen).mono fun e W' ⟨he, bel⟩ => ?_
  subst he
  exact ⟨_, rfl, _, _, _, [], _, [], hW', trodAll_mk1 (shut_bool Try.underlying4 _), (trodAll_cons_mk (Below.trod laidOut (by kernel_rfl) (of_decide_eq_true (by kernel_rfl)) h0k bel hlt) trodAll_mk0), rfl, bel.frame _, fun h => by cases h⟩

theorem proved : Rows.PageLeastSaid :=
  OpenClaim.holds_of_wide 5 Try.f5 rfl rfl rfl rfl rfl rfl rfl ⟨rfl, rfl, rfl, rfl, rfl⟩ rfl rfl rfl rfl rfl (by kernel_rfl) Try.func5 (by kernel_rfl)
    (of_decide_eq_true (by kernel_rfl)) (by unfold Func.isWrapper; first | (rw [if_pos (by decide +kernel)]; kernel_rfl) | (rw [if_neg (by decide +kernel)]; exact ⟨rfl, rfl⟩))
    (fun os started H enc _ => lifted os started H enc)
#print axioms proved
end Go.Proofs.Ytnhdnpdbmgeheaa.pageLeast
