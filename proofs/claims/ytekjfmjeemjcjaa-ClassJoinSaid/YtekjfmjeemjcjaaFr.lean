/-
  Plain lemmas on worlds: a frame that names the blocks that a piece of code may change. No program is named here. Nothing is assumed.
-/
import Derived.RangeFuncNested
import Derived.RangeFuncBound
import Derived.RangeFuncCalls
import Derived.RangeFuncLeaves
import Derived.Shelf.Abstract
import Derived.Shelf.RegionOpen
import Derived.WalkKit
import Derived.WalkSpells
import Derived.WalkLawsBesides
import Derived.OwnWalkIn
import Derived.TacticsInMore
import Derived.LoopNIn
import Derived.LoopIn
import Derived.Lib.OthersKept
import Derived.Lib.MapLaws
import Derived.Lib.ValidLaws
import Derived.Lib.TrimUEq
import Derived.Lib.RuneCountTail
import Derived.Lib.Hide
import Derived.Lib.Bytealg
import Derived.Deep.Light
import Derived.Deep.QuietTactic
import Derived.BigQuiet
import Derived.Deep.LoopGhost
import Derived.Lib.QuoteLoop
namespace Go.Proofs.Ytekjfmjeemjcjaa
open Go.RowKit Go.Lib

/-- Only blocks that C names, and new blocks, may differ. -/
structure Fr (C : Nat → Prop) (w w' : World) : Prop where
  os : w'.os = w.os
  tape : w'.tape = w.tape
  output : w'.output = w.output
  size : w.heap.size ≤ w'.heap.size
  keep : ∀ k, k < w.heap.size → ¬ C k → w'.heap[k]? = w.heap[k]?

theorem Fr.refl (C : Nat → Prop) (w : World) : Fr C w w := ⟨rfl, rfl, rfl, Nat.le_refl _, fun _ _ _ => rfl⟩
theorem Fr.trans' {C C' : Nat → Prop} {a b c : World} (h : Fr C a b) (k : Fr C' b c) (hc : ∀ i, i < a.heap.size → C' i → C i) : Fr C a c :=
  ⟨k.os.trans h.os, k.tape.trans h.tape, k.output.trans h.output, Nat.le_trans h.size k.size,
    fun i hi hn => (k.keep i (Nat.lt_of_lt_of_le hi h.size) (fun h' => hn (hc i hi h'))).trans (h.keep i hi hn)⟩
theorem Fr.trans {C : Nat → Prop} {a b c : World} (h : Fr C a b) (k : Fr C b c) : Fr C a c := h.trans' k (fun _ _ h => h)
theorem Fr.weaken {C C' : Nat → Prop} {a b : World} (h : Fr C a b) (hc : ∀ i, i < a.heap.size → C i → C' i) : Fr C' a b :=
  ⟨h.os, h.tape, h.output, h.size, fun i hi hn => h.keep i hi (fun h' => hn (hc i hi h'))⟩
theorem Fr.alloc {C : Nat → Prop} {a w : World} (h : Fr C a w) (o : Obj) : Fr C a (w.alloc o) :=
  ⟨h.os, h.tape, h.output, by have := h.size; simp; omega, fun i hi hn => (Below.heap_alloc w o i (Nat.lt_of_lt_of_le hi h.size)).trans (h.keep i hi hn)⟩
theorem Fr.drew {C : Nat → Prop} {a w : World} (h : Fr C a w) : Fr C a w.drew := ⟨h.os, h.tape, h.output, h.size, h.keep⟩
theorem Fr.setCell {C : Nat → Prop} {a w : World} (h : Fr C a w) {p : Addr} (hp : C p.block ∨ a.heap.size ≤ p.block) (u : Value) : Fr C a (w.setCell p u) :=
  ⟨h.os, h.tape, h.output, by simpa [World.setCell] using h.size, fun i hi hn =>
    (Below.heap_setCell w p u i (by rintro rfl; rcases hp with hp | hp; exact hn hp; omega)).trans (h.keep i hi hn)⟩
theorem Fr.putObj {C : Nat → Prop} {a w : World} (h : Fr C a w) {r : Nat} (hp : C r ∨ a.heap.size ≤ r) (o : Obj) : Fr C a (w.putObj r o) :=
  ⟨h.os, h.tape, h.output, by simpa using h.size, fun i hi hn =>
    (World.putObj_heap_other (by rintro rfl; rcases hp with hp | hp; exact hn hp; omega)).trans (h.keep i hi hn)⟩
theorem Fr.iterAt {C : Nat → Prop} {a w : World} (h : Fr C a w) {k : Nat} (hp : C k ∨ a.heap.size ≤ k) (s : ByteArray) (pos : Nat) : Fr C a (w.iterAt k s pos) :=
  ⟨h.os, h.tape, h.output, by rw [iterAt_size]; exact h.size, fun i hi hn =>
    (iterAt_other w k i s pos (by rintro rfl; rcases hp with hp | hp; exact hn hp; omega)).trans (h.keep i hi hn)⟩
theorem Fr.grown {C : Nat → Prop} {a w w' : World} {row : Option Nat} (h : Fr C a w) (hg : w.grownBy w' row) (hr : ∀ r, row = some r → C r ∨ a.heap.size ≤ r) : Fr C a w' :=
  ⟨hg.os.trans h.os, hg.tape.trans h.tape, hg.output.trans h.output, Nat.le_trans h.size hg.size, fun i hi hn =>
    (hg.block i (Nat.lt_of_lt_of_le hi h.size) (fun e => by rcases hr i e.symm with h' | h'; exact hn h'; omega)).trans (h.keep i hi hn)⟩
/-- A call that keeps all that lay when it began. -/
theorem Fr.below {C : Nat → Prop} {a w w' : World} (h : Fr C a w) (hb : Below w.heap.size w w') : Fr C a w' :=
  ⟨hb.os.trans h.os, hb.tape.trans h.tape, hb.output.trans h.output, Nat.le_trans h.size hb.size, fun i hi hn =>
    (hb.block i (Nat.lt_of_lt_of_le hi h.size)).trans (h.keep i hi hn)⟩
theorem Fr.toBelow {C : Nat → Prop} {B : Nat} {w w' : World} (h : Fr C w w') (hB : B ≤ w.heap.size) (hC : ∀ k, k < B → ¬ C k) : Below B w w' :=
  ⟨h.os, h.tape, h.output, h.size, fun k hk => h.keep k (by omega) (hC k hk)⟩
theorem Fr.of_below {B : Nat} {w w' : World} (h : Below B w w') : Fr (fun k => B ≤ k) w w' :=
  ⟨h.os, h.tape, h.output, h.size, fun k _ hn => h.block k (by omega)⟩

/-- A block that lies as it lay. -/
theorem Fr.at {C : Nat → Prop} {w w' : World} (h : Fr C w w') {k : Nat} {o : Obj} (hk : w.heap[k]? = some o) (hn : ¬ C k) : w'.heap[k]? = some o :=
  (h.keep k (Array.getElem?_eq_some_iff.1 hk).1 hn).trans hk
theorem lt_of_some {w : World} {k : Nat} {o : Obj} (hk : w.heap[k]? = some o) : k < w.heap.size := (Array.getElem?_eq_some_iff.1 hk).1
theorem Below.at {B : Nat} {w w' : World} (h : Below B w w') {k : Nat} {o : Obj} (hk : w.heap[k]? = some o) (hn : k < B) : w'.heap[k]? = some o := (h.block k hn).trans hk

end Go.Proofs.Ytekjfmjeemjcjaa
