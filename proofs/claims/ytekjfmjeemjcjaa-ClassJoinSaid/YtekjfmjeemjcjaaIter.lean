/-
  The contract of an iterator function over a list, with the blocks that each side may change named; the rules for a range over such a function. No program is named here. Nothing is assumed.
-/
import Derived.Test.YtekjfmjeemjcjaaFr
namespace Go.Proofs.Ytekjfmjeemjcjaa
open Go.RowKit Go.Lib

/-- From W with footprint C to W' with footprint C'. -/
def Ext (C C' : Nat → Prop) (W W' : World) : Prop := Fr C W W' ∧ ∀ k, C' k → C k ∨ (W.heap.size ≤ k ∧ k < W'.heap.size)
theorem Ext.refl (C : Nat → Prop) (W : World) : Ext C C W W := ⟨Fr.refl _ _, fun _ h => .inl h⟩
theorem Ext.trans {C C1 C2 : Nat → Prop} {W W1 W2 : World} (h : Ext C C1 W W1) (k : Ext C1 C2 W1 W2) : Ext C C2 W W2 := by
  refine ⟨h.1.trans' k.1 (fun i hi hc => (h.2 i hc).resolve_right (by omega)), fun i hi => ?_⟩
  have h1 := h.1.size; have h2 := k.1.size
  rcases k.2 i hi with h' | h'
  · rcases h.2 i h' with h'' | h''
    · exact .inl h''
    · exact .inr (by omega)
  · exact .inr (by omega)
theorem Ext.of_fr {C : Nat → Prop} {W W' : World} (h : Fr C W W') : Ext C C W W' := ⟨h, fun _ h => .inl h⟩
/-- A step by a party whose blocks are none of C's. -/
theorem Ext.not {C C' : Nat → Prop} {W W' : World} (h : Ext C C' W W') {k : Nat} (hk : k < W.heap.size) (hn : ¬ C k) : ¬ C' k := fun h' => by
  rcases h.2 k h' with h'' | h''
  · exact hn h''
  · omega

/-- What a party says of the world hangs on the blocks of its footprint alone. -/
def Local {β : Type} (I : β → (Nat → Prop) → World → Prop) : Prop :=
  ∀ s C W W', I s C W → W.heap.size ≤ W'.heap.size → (∀ k, C k → W'.heap[k]? = W.heap[k]?) → I s C W'

/-- A step of the iterator's own: it changes blocks of its own alone. -/
theorem Ext.own {C0 C M : Nat → Prop} {W wr w' : World} (h : Ext C0 C W wr) (hM : Fr M wr w') (hMn : ∀ k, M k → W.heap.size ≤ k) : Ext C0 C W w' :=
  ⟨h.1.trans' hM (fun i hi hm => absurd (hMn i hm) (by omega)), fun k hk => by
    have := hM.size
    rcases h.2 k hk with h' | h'
    · exact .inl h'
    · exact .inr (by omega)⟩
theorem Ext.lt {C0 C : Nat → Prop} {W wr : World} (h : Ext C0 C W wr) (hC0 : ∀ k, C0 k → k < W.heap.size) : ∀ k, C k → k < wr.heap.size := fun k hk => by
  have := h.1.size
  rcases h.2 k hk with h' | h'
  · have := hC0 k h'; omega
  · omega
theorem Local.own {β : Type} {I : β → (Nat → Prop) → World → Prop} (hI : Local I) {s : β} {C0 C M : Nat → Prop} {W wr w' : World} (hi : I s C wr) (h : Ext C0 C W wr) (hC0 : ∀ k, C0 k → k < W.heap.size)
    (hM : Fr M wr w') (hMC : ∀ k, M k → ¬ C k) : I s C w' :=
  hI _ _ _ _ hi hM.size (fun k hk => hM.keep k (h.lt hC0 k hk) (fun hm => hMC k hm hk))

/-- One call of yield. -/
def YAt (P : Program) (l : Nat) (args : Array Value) (W : World) (R : Bool → World → Prop) : Prop :=
  ∃ fn tmps assign body, (Instr.yield l args).run P W = .ok (.round l fn tmps assign body) W ∧
    RoundIn Fence.wide 0 P l fn tmps assign body W fun e W' => ∃ b, e = .returned (.bool b) ∧ R b W'

/-- **AN ITERATOR FUNCTION THAT GIVES xs.** D: the blocks that it reads and that nobody may change while it runs. -/
def Yields {α : Type} (P : Program) (g : FuncId) (lb : Array Value) (enc : α → Array Value) (xs : List α) (D : Nat → Prop) (W0 : World) : Prop :=
  ∀ (l : Nat) (I X : List α → (Nat → Prop) → World → Prop) (C0 : Nat → Prop) (W : World),
    (∀ k, D k → k < W0.heap.size ∧ W.heap[k]? = W0.heap[k]?) → W0.heap.size ≤ W.heap.size → (∀ k, C0 k → k < W.heap.size ∧ ¬ D k) →
    Local I → Local X →
    (∀ pre x post C W1, xs = pre ++ x :: post → Ext C0 C W W1 → I pre C W1 →
      YAt P l (enc x) W1 fun b W2 => ∃ C', Ext C C' W1 W2 ∧ ((b = true ∧ I (pre ++ [x]) C' W2) ∨ (b = false ∧ X (pre ++ [x]) C' W2))) →
    I [] C0 W →
    Calls P g (#[.func (.yield l) #[] #[]] ++ lb) W fun e W' => (∃ v, e = .returned v) ∧
      ∃ C', Ext C0 C' W W' ∧ (I xs C' W' ∨ ∃ pre x post, xs = pre ++ x :: post ∧ X (pre ++ [x]) C' W')

theorem Yields.later {α : Type} {P : Program} {g : FuncId} {lb : Array Value} {enc : α → Array Value} {xs : List α} {D : Nat → Prop} {W0 W1 : World}
    (h : Yields P g lb enc xs D W0) (hs : W0.heap.size ≤ W1.heap.size) (hD : ∀ k, D k → W1.heap[k]? = W0.heap[k]?) (hlt : ∀ k, D k → k < W0.heap.size) : Yields P g lb enc xs D W1 :=
  fun l I X C0 W hD' hs' => h l I X C0 W (fun k hk => ⟨hlt k hk, (hD' k hk).2.trans (hD k hk)⟩) (Nat.le_trans hs hs')

theorem room_wide' (n : Nat) : Fence.wide.room n := room_wide n

/-- How a round may be left. -/
def RPost {α : Type} (I : List α → (Nat → Prop) → World → Prop) (X : Code → List α → (Nat → Prop) → World → Prop) (xs : List α) (C : Nat → Prop) (W : World) : Exit → Act → World → Prop
  | .normal, _, W' => ∃ C', Ext C C' W W' ∧ I xs C' W'
  | .ret, _, W' => ∃ C', Ext C C' W W' ∧ X .ret xs C' W'
  | .exit id, _, W' => ∃ C', Ext C C' W W' ∧ X (.exit id) xs C' W'
  | .goto t, _, W' => ∃ C', Ext C C' W W' ∧ X (.goto t) xs C' W'
  | .panic _, _, _ => False
  | .outgrown, _, _ => False

theorem wide_fn (f : FuncId) : Fence.wide.fn f = True := rfl
theorem wide_in_fn (l : Nat) (f : FuncId) : (Fence.wide.inRound l).fn f = True := rfl
theorem wide_depth : Fence.wide.depth = none := rfl

section
variable {P : Program}

/-- The heart of both rules: what the iterator's contract is handed, the loop's record being block l. -/
theorem range_core {α : Type} {gf : FuncId} {lb : Array Value} {enc : α → Array Value} {xs : List α} {D : Nat → Prop} {W0 : World} (hY : Yields P gf lb enc xs D W0)
    {fn : FuncId} {tmps : Array Value} {ps : Array Tmp} {assign body : Code} {dblk : Nat} (hps : ∀ x, (enc x).size = ps.size)
    (I : List α → (Nat → Prop) → World → Prop) (X : Code → List α → (Nat → Prop) → World → Prop) (J : List α → α → Act → (Nat → Prop) → World → Prop)
    (hI : Local I) (hX : ∀ c, Local (X c)) (hJ : ∀ pre x a, Local (fun (_ : Unit) => J pre x a)) (C0 : Nat → Prop) (W : World) (l : Nat)
    (hl : W.heap[l]? = some (.loop { state := .ready, pending := none, fn, tmps, params := ps, assign, body, defers := dblk })) (hlC : ¬ C0 l) (hlD : ¬ D l)
    (hD : ∀ k, D k → k < W0.heap.size ∧ W.heap[k]? = W0.heap[k]?) (hs : W0.heap.size ≤ W.heap.size) (hC0 : ∀ k, C0 k → k < W.heap.size ∧ ¬ D k) (h0 : I [] C0 W)
    (hassign : ∀ pre x post C W1, xs = pre ++ x :: post → Ext (fun k => C0 k ∨ k = l) (fun k => C k ∨ k = l) W W1 → I pre C W1 → ¬ C l → (∃ r, W1.heap[l]? = some (.loop r) ∧ r.defers = dblk) →
      assign.wpIn (Fence.wide.inRound l) 0 P (Exit.then (fun a1 W2 => ∃ C1, Ext C C1 W1 W2 ∧ J pre x a1 C1 W2) (fun _ _ _ => False))
        { tmps := (ps.zip (enc x)).foldl (fun t (p, v) => t.setIfInBounds p v) tmps, defers := [] } W1)
    (hbody : ∀ pre x post C W1 a1, xs = pre ++ x :: post → Ext (fun k => C0 k ∨ k = l) (fun k => C k ∨ k = l) W W1 → J pre x a1 C W1 → ¬ C l → (∃ r, W1.heap[l]? = some (.loop r) ∧ r.defers = dblk) →
      body.wpIn (Fence.wide.inRound l) 0 P (RPost I X (pre ++ [x]) C W1) a1 W1) :
    Calls P gf (#[.func (.yield l) #[] #[]] ++ lb) W fun e W' => (∃ v, e = .returned v) ∧
      ∃ C' st pe, Ext (fun k => C0 k ∨ k = l) (fun k => C' k ∨ k = l) W W' ∧ ¬ C' l ∧ W'.heap[l]? = some (.loop { state := st, pending := pe, fn, tmps, params := ps, assign, body, defers := dblk }) ∧ st ≠ .busy ∧
        ((pe = none ∧ I xs C' W') ∨ ∃ c pre x post, pe = some c ∧ xs = pre ++ x :: post ∧ X c (pre ++ [x]) C' W') := by
  have hlt : l < W.heap.size := lt_of_some hl
  refine (hY l
    (fun pre Cc W1 => ∃ C, Cc = (fun k => C k ∨ k = l) ∧ ¬ C l ∧ I pre C W1 ∧ W1.heap[l]? = some (.loop { state := .ready, pending := none, fn, tmps, params := ps, assign, body, defers := dblk }))
    (fun pre Cc W1 => ∃ C c, Cc = (fun k => C k ∨ k = l) ∧ ¬ C l ∧ X c pre C W1 ∧ W1.heap[l]? = some (.loop { state := .done, pending := some c, fn, tmps, params := ps, assign, body, defers := dblk }))
    (fun k => C0 k ∨ k = l) W hD hs ?_ ?_ ?_ ?_ ?_).mono ?_
  · rintro k (h | rfl)
    · exact hC0 k h
    · exact ⟨hlt, hlD⟩
  · rintro pre Cc W1 W2 ⟨C, rfl, hn, hi, hr⟩ hsz hk
    exact ⟨C, rfl, hn, hI _ _ _ _ hi hsz (fun k h => hk k (.inl h)), (hk l (.inr rfl)).trans hr⟩
  · rintro pre Cc W1 W2 ⟨C, c, rfl, hn, hi, hr⟩ hsz hk
    exact ⟨C, c, rfl, hn, hX c _ _ _ _ hi hsz (fun k h => hk k (.inl h)), (hk l (.inr rfl)).trans hr⟩
  · rintro pre x post Cc W1 hxs hext ⟨C, rfl, hn, hi, hr⟩
    have hlt1 : l < W1.heap.size := lt_of_some hr
    have hy := run_yield (P := P) (args := enc x) hr (hps x)
    refine ⟨fn, _, assign, body, hy, roundIn_of_wpIn (F := Fence.wide) trivial (wpIn_mono (hassign pre x post C W1 hxs hext hi hn ⟨_, hr, rfl⟩) ?_)⟩
    clear hy
    rintro e a1 W2 hp
    cases e with
    | normal =>
      obtain ⟨C1, hx1, hj⟩ := hp
      have hn1 : ¬ C1 l := hx1.not hlt1 hn
      have hr2 : W2.heap[l]? = _ := hx1.1.at hr hn
      have hlt2 : l < W2.heap.size := lt_of_some hr2
      refine ⟨_, run_beginRound hr2 rfl, ?_⟩
      have hr3 := World.putObj_heap_same (w := W2) (o := .loop { state := .busy, pending := none, fn, tmps, params := ps, assign, body, defers := dblk }) hlt2
      have hother : ∀ (Cz : Nat → Prop) (Wz : World) (o : Obj), ¬ Cz l → ∀ k, Cz k → (Wz.putObj l o).heap[k]? = Wz.heap[k]? := fun Cz Wz o hz k hk => World.putObj_heap_other (by rintro rfl; exact hz hk)
      have hj3 := hJ pre x a1 () C1 W2 (W2.putObj l (.loop { state := .busy, pending := none, fn, tmps, params := ps, assign, body, defers := dblk })) hj (by simp) (hother C1 W2 _ hn1)
      have e12 : Ext (fun k => C k ∨ k = l) (fun k => C1 k ∨ k = l) W1 (W2.putObj l (.loop { state := .busy, pending := none, fn, tmps, params := ps, assign, body, defers := dblk })) :=
        ⟨(hx1.1.weaken (fun _ _ h => .inl h)).putObj (.inl (.inr rfl)) _, fun k hk => by
          rcases hk with hk | rfl
          · rcases hx1.2 k hk with h' | h'
            · exact .inl (.inl h')
            · exact .inr (by simpa using h')
          · exact .inl (.inr rfl)⟩
      refine wpIn_mono (hbody pre x post C1 _ a1 hxs (hext.trans e12) hj3 hn1 ⟨_, hr3, rfl⟩) ?_
      have fin : ∀ (jump : Option Code) (C' : Nat → Prop) (W4 : World), Ext C1 C' (W2.putObj l (.loop { state := .busy, pending := none, fn, tmps, params := ps, assign, body, defers := dblk })) W4 →
          ¬ C' l ∧ (Instr.endRound l jump).run P W4 = .ok (.bool jump.isNone) (W4.putObj l (.loop { state := if jump.isNone then .ready else .done, pending := jump, fn, tmps, params := ps, assign, body, defers := dblk })) ∧
          (W4.putObj l (.loop { state := if jump.isNone then .ready else .done, pending := jump, fn, tmps, params := ps, assign, body, defers := dblk })).heap[l]? = some (.loop { state := if jump.isNone then .ready else .done, pending := jump, fn, tmps, params := ps, assign, body, defers := dblk }) ∧
          Ext (fun k => C k ∨ k = l) (fun k => C' k ∨ k = l) W1 (W4.putObj l (.loop { state := if jump.isNone then .ready else .done, pending := jump, fn, tmps, params := ps, assign, body, defers := dblk })) := by
        intro jump C' W4 hx4
        have hn4 : ¬ C' l := hx4.not (by simpa using hlt2) hn1
        have hr4 := hx4.1.at hr3 hn1
        have hlt4 : l < W4.heap.size := lt_of_some hr4
        refine ⟨hn4, run_endRound (P := P) jump hr4, World.putObj_heap_same hlt4, e12.trans ⟨(hx4.1.weaken (fun _ _ h => .inl h)).putObj (.inl (.inr rfl)) _, ?_⟩⟩
        rintro k (hk | rfl)
        · rcases hx4.2 k hk with h' | h'
          · exact .inl (.inl h')
          · exact .inr (by simpa using h')
        · exact .inl (.inr rfl)
      rintro e a3 W4 hp4
      cases e with
      | normal =>
        obtain ⟨C', hx4, hi4⟩ := hp4
        obtain ⟨q1, q2, q3, q4⟩ := fin none C' W4 hx4
        exact ⟨_, _, q2, true, rfl, _, q4, .inl ⟨rfl, C', rfl, q1, hI _ _ _ _ hi4 (by simp) (hother C' W4 _ q1), q3⟩⟩
      | ret =>
        obtain ⟨C', hx4, hi4⟩ := hp4
        obtain ⟨q1, q2, q3, q4⟩ := fin (some .ret) C' W4 hx4
        exact ⟨_, _, q2, false, rfl, _, q4, .inr ⟨rfl, C', _, rfl, q1, hX _ _ _ _ _ hi4 (by simp) (hother C' W4 _ q1), q3⟩⟩
      | exit id =>
        obtain ⟨C', hx4, hi4⟩ := hp4
        obtain ⟨q1, q2, q3, q4⟩ := fin (some (.exit id)) C' W4 hx4
        exact ⟨_, _, q2, false, rfl, _, q4, .inr ⟨rfl, C', _, rfl, q1, hX _ _ _ _ _ hi4 (by simp) (hother C' W4 _ q1), q3⟩⟩
      | goto t =>
        obtain ⟨C', hx4, hi4⟩ := hp4
        obtain ⟨q1, q2, q3, q4⟩ := fin (some (.goto t)) C' W4 hx4
        exact ⟨_, _, q2, false, rfl, _, q4, .inr ⟨rfl, C', _, rfl, q1, hX _ _ _ _ _ hi4 (by simp) (hother C' W4 _ q1), q3⟩⟩
      | panic ch => exact hp4.elim
      | outgrown => exact hp4.elim
    | ret => exact hp.elim
    | exit id => exact hp.elim
    | goto t => exact hp.elim
    | panic ch => exact hp.elim
    | outgrown => exact hp.elim
  · exact ⟨C0, rfl, hlC, h0, hl⟩
  · rintro e W' ⟨hv, C', hext, ⟨C, rfl, hn, hi, hr⟩ | ⟨pre, x, post, hxs, C, c, rfl, hn, hi, hr⟩⟩
    · exact ⟨hv, C, _, _, hext, hn, hr, by simp, .inl ⟨rfl, hi⟩⟩
    · exact ⟨hv, C, _, _, hext, hn, hr, by simp, .inr ⟨c, pre, x, post, rfl, hxs, hi⟩⟩

/-- **A RANGE OVER AN ITERATOR, IN A FUNCTION's OWN BODY** (no round about it). -/
theorem wp_range {α : Type} {g : Operand} {ps : Array Tmp} {assign body : Code} {Q : Exit → Act → World → Prop} {a : Act} {w : World}
    {gf : FuncId} {lb : Array Value} (hg : a.eval g = .func (.func gf) #[] lb) (eg : ∀ args w, (callFunc gf args).run P w = .ok (.enter gf args) w)
    {enc : α → Array Value} {xs : List α} {D : Nat → Prop} {W0 : World} (hY : Yields P gf lb enc xs D W0)
    (hD : ∀ k, D k → k < W0.heap.size ∧ w.heap[k]? = W0.heap[k]?) (hs : W0.heap.size ≤ w.heap.size) (hps : ∀ x, (enc x).size = ps.size)
    (I : List α → (Nat → Prop) → World → Prop) (X : Code → List α → (Nat → Prop) → World → Prop) (J : List α → α → Act → (Nat → Prop) → World → Prop)
    (hI : Local I) (hX : ∀ c, Local (X c)) (hJ : ∀ pre x a, Local (fun (_ : Unit) => J pre x a)) (C0 : Nat → Prop)
    (hC0 : ∀ k, C0 k → k < w.heap.size ∧ ¬ D k) (h0 : I [] C0 w)
    (hassign : ∀ l pre x post C W1, xs = pre ++ x :: post → Ext C0 C w W1 → I pre C W1 → ¬ C l → w.heap.size ≤ l → (∃ r, W1.heap[l]? = some (.loop r)) →
      assign.wpIn (Fence.wide.inRound l) 0 P (Exit.then (fun a1 W2 => ∃ C1, Ext C C1 W1 W2 ∧ J pre x a1 C1 W2) (fun _ _ _ => False))
        { tmps := (ps.zip (enc x)).foldl (fun t (p, v) => t.setIfInBounds p v) a.tmps, defers := [] } W1)
    (hbody : ∀ l pre x post C W1 a1, xs = pre ++ x :: post → Ext C0 C w W1 → J pre x a1 C W1 → ¬ C l → w.heap.size ≤ l → (∃ r, W1.heap[l]? = some (.loop r)) →
      body.wpIn (Fence.wide.inRound l) 0 P (RPost I X (pre ++ [x]) C W1) a1 W1)
    (hdone : ∀ (d : Nat) (C : Nat → Prop) (W : World), Ext C0 C w W → I xs C W → w.heap.size ≤ d → ¬ C d → W.heap[d]? = some (.deferred (some [])) → Q .normal { a with defers := { target := .collected d, args := #[] } :: a.defers } W)
    (hstop : ∀ (d : Nat) (c : Code) (pre : List α) (x : α) (post : List α) (C : Nat → Prop) (W : World), xs = pre ++ x :: post → Ext C0 C w W → X c (pre ++ [x]) C W → w.heap.size ≤ d → ¬ C d → W.heap[d]? = some (.deferred (some [])) →
      c.wpIn Fence.wide 0 P Q { a with defers := { target := .collected d, args := #[] } :: a.defers } W) :
    (Code.rangeFunc g ps assign body).wpIn Fence.wide 0 P Q a w := by
  refine wpIn_rangeFunc ?_
  intro fn hfn
  obtain ⟨W1, hW1⟩ : ∃ W1, (w.alloc (.deferred (some []))).alloc (.loop { state := .ready, pending := none, fn, tmps := a.tmps, params := ps, assign, body, defers := w.heap.size }) = W1 := ⟨_, rfl⟩
  have hL1 : W1.heap[w.heap.size + 1]? = some (.loop { state := .ready, pending := none, fn, tmps := a.tmps, params := ps, assign, body, defers := w.heap.size }) := by
    rw [← hW1]; have := World.alloc_heap_new (w.alloc (.deferred (some []))) (.loop { state := .ready, pending := none, fn, tmps := a.tmps, params := ps, assign, body, defers := w.heap.size }); rwa [World.size_alloc] at this
  have hK1 : W1.heap[w.heap.size]? = some (.deferred (some [])) := by
    rw [← hW1]; exact (Below.heap_alloc _ _ _ (by simp)).trans (World.alloc_heap_new w _)
  have hF1 : Fr C0 w W1 := by rw [← hW1]; exact ((Fr.refl C0 w).alloc _).alloc _
  have hsz : W1.heap.size = w.heap.size + 2 := by rw [← hW1]; simp
  have hold : ∀ k, k < w.heap.size → W1.heap[k]? = w.heap[k]? := fun k hk => by rw [← hW1]; exact (Below.heap_alloc _ _ _ (by simp; omega)).trans (Below.heap_alloc _ _ _ hk)
  have hI1 : I [] C0 W1 := hI _ _ _ _ h0 hF1.size (fun k hk => hold k (hC0 k hk).1)
  have hpull : ∀ {C : Nat → Prop} {W2 : World}, Ext (fun k => C0 k ∨ k = w.heap.size + 1) (fun k => C k ∨ k = w.heap.size + 1) W1 W2 → ¬ C (w.heap.size + 1) → Ext C0 C w W2 ∧ ¬ C w.heap.size ∧ W2.heap[w.heap.size]? = some (.deferred (some [])) := by
    intro C W2 h hn
    have hnd : ¬ C w.heap.size := fun hc => by
      rcases h.2 _ (.inl hc) with (h' | h') | h'
      · have := (hC0 _ h').1; omega
      · omega
      · omega
    refine ⟨⟨hF1.trans' h.1 (fun i hi hc => hc.resolve_right (by omega)), fun k hk => ?_⟩, hnd, h.1.at hK1 (fun hc => ?_)⟩
    · have h2 := h.1.size
      rcases h.2 k (.inl hk) with (h' | h') | h'
      · exact .inl h'
      · exact absurd (h' ▸ hk) hn
      · exact .inr (by omega)
    · rcases hc with hc | hc
      · have := (hC0 _ hc).1; omega
      · omega
  refine ⟨w.heap.size + 1, [{ target := .collected w.heap.size, args := #[] }], W1, { target := .fn (.func gf) lb, args := #[.func (.yield (w.heap.size + 1)) #[] #[]] }, W1, gf,
    #[.func (.yield (w.heap.size + 1)) #[] #[]] ++ lb, W1, ?_, ?_, ?_, ?_, fun h => by simp [Fence.wide] at h, callsIn_wide.2 ?_⟩
  · rw [← hW1]; exact run_enterLoop_outer _ _ _ _ _
  · simp only [resolve, hg]
    simp [go_sem]
  · intro f' hf'; trivial
  · simp [invoke, go_sem, eg]
  · refine (range_core hY hps I X J hI hX hJ C0 W1 (w.heap.size + 1) hL1 (fun h => by have := (hC0 _ h).1; omega) (fun h => by have := (hD _ h).1; omega)
      (fun k hk => ⟨(hD k hk).1, (hold k (by have := (hD k hk).1; omega)).trans (hD k hk).2⟩) (by omega) (fun k hk => ⟨by have := (hC0 k hk).1; omega, (hC0 k hk).2⟩) hI1 ?_ ?_).mono ?_
    · rintro pre x post C W2 hxs hext hi hn ⟨r, hr, _⟩
      exact hassign _ pre x post C W2 hxs (hpull hext hn).1 hi hn (by omega) ⟨r, hr⟩
    · rintro pre x post C W2 a1 hxs hext hj hn ⟨r, hr, _⟩
      exact hbody _ pre x post C W2 a1 hxs (hpull hext hn).1 hj hn (by omega) ⟨r, hr⟩
    · rintro e W2 ⟨⟨v, rfl⟩, C', st, pe, hext, hn, hr, hst, h⟩
      obtain ⟨q1, q2, q3⟩ := hpull hext hn
      have hlt2 : w.heap.size + 1 < W2.heap.size := lt_of_some hr
      have e1 : ∀ o, Ext C0 C' w (W2.putObj (w.heap.size + 1) o) := fun o => ⟨q1.1.putObj (.inr (by omega)) _, fun k hk => by have := q1.2 k hk; simpa using this⟩
      have hk1 : ∀ o, ∀ k, C' k → (W2.putObj (w.heap.size + 1) o).heap[k]? = W2.heap[k]? := fun o k hk => World.putObj_heap_other (by rintro rfl; exact hn hk)
      have hd1 : ∀ o, (W2.putObj (w.heap.size + 1) o).heap[w.heap.size]? = some (.deferred (some [])) := fun o => (World.putObj_heap_other (by omega)).trans q3
      rcases h with ⟨rfl, hi⟩ | ⟨c, pre, x, post, rfl, hxs, hx⟩
      · exact ⟨none, _, run_endLoop (P := P) hr hst, hdone _ C' _ (e1 _) (hI _ _ _ _ hi (by simp) (hk1 _)) (Nat.le_refl _) q2 (hd1 _)⟩
      · exact ⟨some c, _, run_endLoop (P := P) hr hst, hstop _ c pre x post C' _ hxs (e1 _) (hX _ _ _ _ _ hx (by simp) (hk1 _)) (Nat.le_refl _) q2 (hd1 _)⟩

/-- **A RANGE OVER AN ITERATOR, IN THE BODY OF ANOTHER ONE.** -/
theorem wp_range_in {α : Type} {g : Operand} {ps : Array Tmp} {assign body : Code} {Q : Exit → Act → World → Prop} {a : Act} {w : World} {l₀ : Nat}
    (hl₀ : ∃ r, w.heap[l₀]? = some (.loop r))
    {gf : FuncId} {lb : Array Value} (hg : a.eval g = .func (.func gf) #[] lb) (eg : ∀ args w, (callFunc gf args).run P w = .ok (.enter gf args) w)
    {enc : α → Array Value} {xs : List α} {D : Nat → Prop} {W0 : World} (hY : Yields P gf lb enc xs D W0)
    (hD : ∀ k, D k → k < W0.heap.size ∧ w.heap[k]? = W0.heap[k]?) (hs : W0.heap.size ≤ w.heap.size) (hps : ∀ x, (enc x).size = ps.size)
    (I : List α → (Nat → Prop) → World → Prop) (X : Code → List α → (Nat → Prop) → World → Prop) (J : List α → α → Act → (Nat → Prop) → World → Prop)
    (hI : Local I) (hX : ∀ c, Local (X c)) (hJ : ∀ pre x a, Local (fun (_ : Unit) => J pre x a)) (C0 : Nat → Prop)
    (hC0 : ∀ k, C0 k → k < w.heap.size ∧ ¬ D k) (h0 : I [] C0 w)
    (hassign : ∀ l pre x post C W1, xs = pre ++ x :: post → Ext C0 C w W1 → I pre C W1 → ¬ C l → w.heap.size ≤ l → (∃ r, W1.heap[l]? = some (.loop r)) →
      assign.wpIn (Fence.wide.inRound l) 0 P (Exit.then (fun a1 W2 => ∃ C1, Ext C C1 W1 W2 ∧ J pre x a1 C1 W2) (fun _ _ _ => False))
        { tmps := (ps.zip (enc x)).foldl (fun t (p, v) => t.setIfInBounds p v) a.tmps, defers := [] } W1)
    (hbody : ∀ l pre x post C W1 a1, xs = pre ++ x :: post → Ext C0 C w W1 → J pre x a1 C W1 → ¬ C l → w.heap.size ≤ l → (∃ r, W1.heap[l]? = some (.loop r)) →
      body.wpIn (Fence.wide.inRound l) 0 P (RPost I X (pre ++ [x]) C W1) a1 W1)
    (hdone : ∀ (C : Nat → Prop) (W : World), Ext C0 C w W → I xs C W → Q .normal a W)
    (hstop : ∀ (c : Code) (pre : List α) (x : α) (post : List α) (C : Nat → Prop) (W : World), xs = pre ++ x :: post → Ext C0 C w W → X c (pre ++ [x]) C W → c.wpIn (Fence.wide.inRound l₀) 0 P Q a W) :
    (Code.rangeFunc g ps assign body).wpIn (Fence.wide.inRound l₀) 0 P Q a w := by
  obtain ⟨r₀, hl₀⟩ := hl₀
  refine wpIn_rangeFunc ?_
  intro fn hfn
  obtain ⟨W1, hW1⟩ : ∃ W1, w.alloc (.loop { state := .ready, pending := none, fn, tmps := a.tmps, params := ps, assign, body, defers := r₀.defers }) = W1 := ⟨_, rfl⟩
  have hL1 : W1.heap[w.heap.size]? = some (.loop { state := .ready, pending := none, fn, tmps := a.tmps, params := ps, assign, body, defers := r₀.defers }) := by
    rw [← hW1]; exact World.alloc_heap_new w _
  have hF1 : Fr C0 w W1 := by rw [← hW1]; exact (Fr.refl C0 w).alloc _
  have hsz : W1.heap.size = w.heap.size + 1 := by rw [← hW1]; simp
  have hold : ∀ k, k < w.heap.size → W1.heap[k]? = w.heap[k]? := fun k hk => by rw [← hW1]; exact Below.heap_alloc _ _ _ hk
  have hI1 : I [] C0 W1 := hI _ _ _ _ h0 hF1.size (fun k hk => hold k (hC0 k hk).1)
  have hpull : ∀ {C : Nat → Prop} {W2 : World}, Ext (fun k => C0 k ∨ k = w.heap.size) (fun k => C k ∨ k = w.heap.size) W1 W2 → ¬ C w.heap.size → Ext C0 C w W2 := by
    intro C W2 h hn
    refine ⟨hF1.trans' h.1 (fun i hi hc => hc.resolve_right (by omega)), fun k hk => ?_⟩
    have h2 := h.1.size
    rcases h.2 k (.inl hk) with (h' | h') | h'
    · exact .inl h'
    · exact absurd (h' ▸ hk) hn
    · exact .inr (by omega)
  refine ⟨w.heap.size, [], W1, { target := .fn (.func gf) lb, args := #[.func (.yield w.heap.size) #[] #[]] }, W1, gf,
    #[.func (.yield w.heap.size) #[] #[]] ++ lb, W1, ?_, ?_, ?_, ?_, fun h => by simp [Fence.wide] at h, CallsIn.inRound l₀ (callsIn_wide.2 ?_)⟩
  · rw [← hW1]; exact run_enterLoop_inner hl₀ _ _ _ _ _
  · simp only [resolve, hg]
    simp [go_sem]
  · intro f' hf'; trivial
  · simp [invoke, go_sem, eg]
  · refine (range_core hY hps I X J hI hX hJ C0 W1 w.heap.size hL1 (fun h => by have := (hC0 _ h).1; omega) (fun h => by have := (hD _ h).1; omega)
      (fun k hk => ⟨(hD k hk).1, (hold k (by have := (hD k hk).1; omega)).trans (hD k hk).2⟩) (by omega) (fun k hk => ⟨by have := (hC0 k hk).1; omega, (hC0 k hk).2⟩) hI1 ?_ ?_).mono ?_
    · rintro pre x post C W2 hxs hext hi hn ⟨r, hr, _⟩
      exact hassign _ pre x post C W2 hxs (hpull hext hn) hi hn (by omega) ⟨r, hr⟩
    · rintro pre x post C W2 a1 hxs hext hj hn ⟨r, hr, _⟩
      exact hbody _ pre x post C W2 a1 hxs (hpull hext hn) hj hn (by omega) ⟨r, hr⟩
    · rintro e W2 ⟨⟨v, rfl⟩, C', st, pe, hext, hn, hr, hst, h⟩
      have q1 := hpull hext hn
      have e1 : ∀ o, Ext C0 C' w (W2.putObj w.heap.size o) := fun o => ⟨q1.1.putObj (.inr (by omega)) _, fun k hk => by have := q1.2 k hk; simpa using this⟩
      have hk1 : ∀ o, ∀ k, C' k → (W2.putObj w.heap.size o).heap[k]? = W2.heap[k]? := fun o k hk => World.putObj_heap_other (by rintro rfl; exact hn hk)
      rcases h with ⟨rfl, hi⟩ | ⟨c, pre, x, post, rfl, hxs, hx⟩
      · exact ⟨none, _, run_endLoop (P := P) hr hst, hdone C' _ (e1 _) (hI _ _ _ _ hi (by simp) (hk1 _))⟩
      · exact ⟨some c, _, run_endLoop (P := P) hr hst, hstop c pre x post C' _ hxs (e1 _) (hX _ _ _ _ _ hx (by simp) (hk1 _))⟩

/-- A round's start where the loop's variable lies in a block of its own. -/
def JBox {α : Type} (I : List α → (Nat → Prop) → World → Prop) (t : TypeId) (cells : α → Array Value) (act : α → Nat → Act) (pre : List α) (x : α) (a : Act) (C1 : Nat → Prop) (W : World) : Prop :=
  ∃ (C : Nat → Prop) (b : Nat), C1 = (fun k => C k ∨ k = b) ∧ ¬ C b ∧ I pre C W ∧ W.heap[b]? = some (.cells (cells x) t (0, 0)) ∧ a = act x b
theorem JBox.local {α : Type} {I : List α → (Nat → Prop) → World → Prop} (hI : Local I) {t : TypeId} {cells : α → Array Value} {act : α → Nat → Act} (pre : List α) (x : α) (a : Act) :
    Local (fun (_ : Unit) => JBox I t cells act pre x a) := by
  rintro _ C1 W W' ⟨C, b, rfl, hn, hi, hb, ha⟩ hs hk
  exact ⟨C, b, rfl, hn, hI _ _ _ _ hi hs (fun k h => hk k (.inl h)), (hk b (.inr rfl)).trans hb, ha⟩
/-- What the assignment owes where it lays such a block. -/
theorem JBox.assign {α : Type} {I : List α → (Nat → Prop) → World → Prop} (hI : Local I) {t : TypeId} {cells : α → Array Value} {act : α → Nat → Act} {pre : List α} {x : α} {C : Nat → Prop} {W W' : World} {a : Act}
    (hi : I pre C W) (hC : ∀ k, C k → k < W.heap.size) (hW : W' = W.alloc (.cells (cells x) t)) (ha : ∀ b, b = W.heap.size → a = act x b) :
    ∃ C1, Ext C C1 W W' ∧ JBox I t cells act pre x a C1 W' := by
  subst hW
  refine ⟨fun k => C k ∨ k = W.heap.size, ⟨(Fr.refl _ _).alloc _, ?_⟩, C, W.heap.size, rfl, fun h => by have := hC _ h; omega, ?_, World.alloc_heap_new W _, ha _ rfl⟩
  · rintro k (h | rfl)
    · exact .inl h
    · exact .inr ⟨Nat.le_refl _, by simp⟩
  · exact hI _ _ _ _ hi (by simp) (fun k h => Below.heap_alloc W _ k (hC k h))
/-- A round's start where the loop's variables lie in slots. -/
def JTmp {α : Type} (I : List α → (Nat → Prop) → World → Prop) (act : α → Act) (pre : List α) (x : α) (a : Act) (C1 : Nat → Prop) (W : World) : Prop := I pre C1 W ∧ a = act x
theorem JTmp.local {α : Type} {I : List α → (Nat → Prop) → World → Prop} (hI : Local I) {act : α → Act} (pre : List α) (x : α) (a : Act) : Local (fun (_ : Unit) => JTmp I act pre x a) := by
  rintro _ C1 W W' ⟨hi, ha⟩ hs hk
  exact ⟨hI _ _ _ _ hi hs hk, ha⟩
theorem JTmp.assign {α : Type} {I : List α → (Nat → Prop) → World → Prop} {act : α → Act} {pre : List α} {x : α} {C : Nat → Prop} {W : World} (hi : I pre C W) :
    ∃ C1, Ext C C1 W W ∧ JTmp I act pre x (act x) C1 W := ⟨C, Ext.refl _ _, hi, rfl⟩

/-! ### The end of a function whose body holds ranges over iterators -/
def marksOf (l : List Nat) : List Deferred := l.map fun d => { target := .collected d, args := #[] }

theorem leaves_marks {fn : Func} {tmps : Array Value} {R : Ending → World → Prop} : ∀ (l : List Nat) (w : World), l.Nodup → (∀ d ∈ l, w.heap[d]? = some (.deferred (some []))) →
    (∀ w', Fr (fun k => k ∈ l) w w' → w'.heap.size = w.heap.size → ∃ v, (results fn tmps).run P w' = .ok v w' ∧ R (.returned v) w') →
    LeavesInM Fence.wide 0 P fn tmps R (marksOf l) .returning w
  | [], w, _, _, h => by
    obtain ⟨v, h1, h2⟩ := h w (Fr.refl _ _) rfl
    exact ⟨v, h1, h2⟩
  | d :: l, w, hn, hd, h => by
    have hnd := List.nodup_cons.1 hn
    refine ⟨by simp, .inl ⟨d, _, rfl, run_takeDeferred (hd d (by simp)), ?_⟩⟩
    refine leaves_marks l _ hnd.2 (fun e he => (World.putObj_heap_other (by rintro rfl; exact hnd.1 he)).trans (hd e (by simp [he]))) (fun w' hw hs => ?_)
    refine h w' ?_ (by rw [hs]; simp)
    exact ((Fr.refl _ _).putObj (.inl (by simp)) _).trans' hw (fun i _ hi => by simp [hi])

/-- A function's own frame: its contract out of its body, in the wide fence. -/
theorem calls_of_body {f : FuncId} {fn : Func} {c : Code} {args : Array Value} {w : World} {R : Ending → World → Prop}
    (hf : P.funcs[f]? = some fn) (hb : fn.body = some c)
    (h : c.wpIn Fence.wide 0 P (bodyPostM Fence.wide 0 P fn R) { tmps := args ++ Array.replicate (fn.ntmps - args.size) undef, defers := [] } w) : Calls P f args w R :=
  (callsIn_wide (n := 0)).1 (callsIn_of_wp_marks hf hb trivial h)
end
end Go.Proofs.Ytekjfmjeemjcjaa
