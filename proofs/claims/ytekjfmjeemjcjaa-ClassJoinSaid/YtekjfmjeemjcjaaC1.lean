/-
  Contracts of class's functions in the logic of triples. Nothing is assumed.
-/
import Derived.Test.YtekjfmjeemjcjaaTab
import Derived.Test.YtekjfmjeemjcjaaOnes
import Derived.Test.YtekjfmjeemjcjaaRuns
import Derived.Test.YtekjfmjeemjcjaaLawPcs
import Derived.Test.YtekjfmjeemjcjaaLawRunes
namespace Go.Proofs.Ytekjfmjeemjcjaa
open Go.RowKit Go.Lib
set_option linter.unusedVariables false

/-- A piece's cells. -/
def pcV (p : Pc) : List Value := [.int .i64 p.i, .int .i64 p.w, .int .i32 p.r, .bool p.broken]
def pcA (p : Pc) : List Value := [.agg (pcV p).toArray]
theorem pieces_fn (s : ByteArray) : Fn Try.prog 38 [.string s] [] (fun b : Nat => .func (.func 63) #[] #[.pointer (some ⟨b, 0, none⟩)]) (fun b => [cells b [.string s] 9]) := fun w C hC =>
  (pieces_any s w).mono fun e w' ⟨h1, h2⟩ => ⟨w.heap.size, h1, fun k => k = w.heap.size, by
    subst h2
    exact sepL.one ⟨fun k => Iff.rfl, World.alloc_heap_new w _⟩, by
    subst h2
    exact ⟨(Fr.refl _ _).alloc _, fun k hk => .inr ⟨by omega, by simp; omega⟩⟩⟩
theorem Itr.of1 {P : Program} {gf : FuncId} {caps : List Value} {α : Type} {enc : α → List Value} {xs : List α} {b : Nat} {o : Obj} (h : ∀ W0 : World, W0.heap[b]? = some o → Yields P gf caps.toArray (fun x => (enc x).toArray) xs (fun k => k = b) W0) :
    Itr P gf caps enc xs [(b, o)] := by
  intro w hw
  have : (fun k => ∃ p ∈ [(b, o)], p.1 = k) = (fun k => k = b) := by
    funext k; apply propext; simp; exact ⟨fun h => h.symm, fun h => h.symm⟩
  rw [this]
  exact h w (hw (b, o) (by simp))
theorem pieces1_itr (s : ByteArray) (hs : s.size ≤ 4611686018427387904) (b : Nat) : Itr Try.prog 63 [.pointer (some ⟨b, 0, none⟩)] pcA (pcs s.data.toList) [(b, .cells #[.string s] 9 (0, 0))] :=
  Itr.of1 fun W0 h => pieces1_yields s hs b W0 h
theorem of_p (i wd r : Int) (b : Bool) (h0 : -2147483648 ≤ r) (h1 : r ≤ 2147483647) : FnP Try.prog 34 [.agg #[.int .i64 i, .int .i64 wd, .int .i32 r, .bool b]] (.int .i64 (kindOf b r)) := fun w => of_any i wd r b w h0 h1

theorem Rw.vec {α : Type} {enc : α → List Value} {e : TypeId} {size : Nat} {v : Value} {L : List α} {w w' : World} (h : Rw enc w' w.heap.size e size v L) (hb : Below w.heap.size w w') :
    ∃ C', sepL [vec enc e size v L] C' w' ∧ Ext (fun _ => False) C' w w' := by
  refine ⟨fun k => v.ownBlock = some k, sepL.one ⟨Rw.base h (Nat.zero_le _), rfl⟩, (Fr.of_below hb).weaken (fun i hi h => by omega), fun k hk => .inr ?_⟩
  rcases h.shape with ⟨rfl, _⟩ | ⟨g, cap, rfl, h1, h2, _⟩
  · simp [Value.ownBlock] at hk
  · simp [Value.ownBlock] at hk; omega
theorem pcV_len (p : Pc) : (pcV p).length = 4 := rfl
theorem pcV_one (p : Pc) : ∀ u ∈ pcV p, u.oneCell' = true := by
  intro u hu; simp [pcV] at hu; rcases hu with rfl | rfl | rfl | rfl <;> rfl
theorem rw_pcV {w : World} {base : Nat} {e : TypeId} {v : Value} {L : List Pc} (h : Rw enc4 w base e 4 v (L.map fun p => (p, p.broken))) : Rw pcV w base e 4 v L := by
  unfold Rw at h ⊢
  have : (L.map fun p => (p, p.broken)).flatMap enc4 = L.flatMap pcV := by rw [List.flatMap_map]; rfl
  rwa [this, List.length_map] at h
theorem rpieces_fn (s : ByteArray) (hs : s.size ≤ 2147483647) : Fn Try.prog 23 [.string s] [] (fun v : Value => v) (fun v => [vec pcV 47 4 v (pcs s.data.toList)]) := fun w C hC =>
  (rpieces_any s w hs).mono fun e w' ⟨v, h1, h2, h3⟩ => by
    obtain ⟨C', h4, h5⟩ := Rw.vec (rw_pcV h2) h3
    have : C = fun _ => False := funext fun k => propext ⟨fun h => hC k h, fun h => h.elim⟩
    exact ⟨v, h1, C', h4, this ▸ h5⟩
theorem rof_p (i wd r : Int) (b : Bool) (h0 : -2147483648 ≤ r) (h1 : r ≤ 2147483647) : FnP Try.prog 24 [.agg #[.int .i64 i, .int .i64 wd, .int .i32 r, .bool b]] (.int .i64 (kindOf b r)) := fun w => rof_any i wd r b w h0 h1
def rnC (n : Rn) : List Value := [.int .i64 n.f, .int .i64 n.t, .int .i64 n.k]
theorem rnC_len (n : Rn) : (rnC n).length = 3 := rfl
theorem rnC_one (n : Rn) : ∀ u ∈ rnC n, u.oneCell' = true := by
  intro u hu; simp [rnC] at hu; rcases hu with rfl | rfl | rfl <;> rfl

/-- The open row, as it lies in memory. -/
def nowF : Option Rn → Int | none => 0 | some n => n.f
def nowT : Option Rn → Int | none => 0 | some n => n.t
def nowK : Option Rn → Int | none => 0 | some n => n.k
def rnV (n : Rn) : List Value := [.agg #[.int .i64 n.f, .int .i64 n.t, .int .i64 n.k]]
theorem live_p : FnP Try.prog 12 [] (.bool true) := FnP.of_same live_any
theorem beyond_p (n : Int) : FnP Try.prog 15 [.int .i64 n] (.bool (decide (2147483647 < n))) := FnP.of_same (beyond_any n)
theorem bin_funcnil {P : Program} {t : TypeId} {x y : Operand} {u : TypeDesc} {fn : Go.Fn} {a b : Array Value} (hu : P.underlying t = some u) (hf : (match u with | .func .. => true | _ => false) = true) (w : World) :
    (do eqGuard .eql t x y (.func fn a b) .nilFunc; binOp .eql t (.func fn a b) .nilFunc : Sem Value).run P w = .ok (.bool false) w := by
  cases u <;> simp at hf
  have h : ∀ d, (Op.equalIn (d + 1) t (.func fn a b) .nilFunc).run P w = .ok false w := fun d => by simp [Op.equalIn, run_underlying hu]
  have h' : (Op.equalIn Op.maxDepth t (.func fn a b) .nilFunc).run P w = .ok false w := h 9999
  simp [eqGuard, binOp, Op.equal, h']
end Go.Proofs.Ytekjfmjeemjcjaa
