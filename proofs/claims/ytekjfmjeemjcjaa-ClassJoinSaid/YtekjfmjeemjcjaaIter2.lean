/-
  More lemmas on footprints, cells and owned rows. No program is named here. Nothing is assumed.
-/
import Derived.Test.YtekjfmjeemjcjaaIter
namespace Go.Proofs.Ytekjfmjeemjcjaa
open Go.RowKit Go.Lib

theorem Ext.sub {C C1 C2 : Nat → Prop} {W W' : World} (h : Ext C C1 W W') (hs : ∀ k, C2 k → C1 k) : Ext C C2 W W' := ⟨h.1, fun k hk => h.2 k (hs k hk)⟩
theorem Ext.weaken {C C' C2 : Nat → Prop} {W W' : World} (h : Ext C C' W W') (hs : ∀ k, C k → C2 k) : Ext C2 C' W W' :=
  ⟨h.1.weaken (fun _ _ => hs _), fun k hk => (h.2 k hk).imp (hs k) id⟩
theorem Ext.below {C : Nat → Prop} {W W' : World} (h : Below W.heap.size W W') : Ext C C W W' := Ext.of_fr ((Fr.refl _ _).below h)
theorem cell_at {w : World} {b j : Nat} {cs : Array Value} {t : TypeId} {fz : Nat × Nat} {v : Value} (h : w.heap[b]? = some (.cells cs t fz)) (hv : cs[j]? = some v) : w.cell? ⟨b, j, none⟩ = some v := by
  simp [World.cell?, h, hv]
theorem frozen_at {w : World} {b : Nat} {cs : Array Value} {t : TypeId} (h : w.heap[b]? = some (.cells cs t (0, 0))) (j : Nat) : w.frozen? ⟨b, j, none⟩ = false := by
  simp [World.frozen?, h]
theorem Local.at {β : Type} {I : β → (Nat → Prop) → World → Prop} (hI : Local I) {s : β} {C : Nat → Prop} {W W' : World} (hi : I s C W) (hb : Below W.heap.size W W') (hC : ∀ k, C k → k < W.heap.size) : I s C W' :=
  hI s C W W' hi hb.size (fun k hk => hb.block k (hC k hk))
theorem some_lt {w w' : World} {k : Nat} {o : Obj} (hk : w.heap[k]? = some o) (hb : Below w.heap.size w w') : w'.heap[k]? = some o := (hb.block k (lt_of_some hk)).trans hk

/-- A function value is not nil. -/
theorem run_equalIn_func_nil {P : Program} (w : World) (d : Nat) {t : TypeId} {ps rs : Array TypeId} {v : Bool} (f : Fn) (x y : Array Value) (ht : P.underlying t = some (.func ps rs v)) :
    (Op.equalIn (d + 1) t (.func f x y) .nilFunc).run P w = .ok false w := by
  simp [Op.equalIn, run_underlying ht]
theorem run_eql_func_nil {P : Program} (w : World) {t : TypeId} {ps rs : Array TypeId} {v : Bool} (f : Fn) (x y : Array Value) (ht : P.underlying t = some (.func ps rs v)) :
    (binOp .eql t (.func f x y) .nilFunc).run P w = .ok (.bool false) w := by
  have h : (Op.equal t (.func f x y) .nilFunc).run P w = .ok false w := run_equalIn_func_nil w _ f x y ht
  simp only [binOp]
  simp [h]

end Go.Proofs.Ytekjfmjeemjcjaa
