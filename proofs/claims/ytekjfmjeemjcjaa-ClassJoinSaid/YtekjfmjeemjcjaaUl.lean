/-
  A logic of triples over symbolic slots and owned blocks: function bodies, iterators, ranges over them. No program is named here. Nothing is assumed.
-/
import Derived.Test.YtekjfmjeemjcjaaTl
namespace Go.Proofs.Ytekjfmjeemjcjaa
open Go.RowKit Go.Lib
set_option linter.unusedVariables false
set_option linter.unusedSimpArgs false

def argSlots (vs : List Value) : List (Nat × Value) := vs.zipIdx.map fun p => (p.2, p.1)
theorem lookup_zipIdx : ∀ (vs : List Value) (k t : Nat) (v : Value), ((vs.zipIdx k).map fun p => (p.2, p.1)).lookup t = some v → k ≤ t ∧ vs[t - k]? = some v
  | [], k, t, v, h => by simp at h
  | u :: vs, k, t, v, h => by
    simp only [List.zipIdx_cons, List.map_cons, List.lookup] at h
    split at h
    · rename_i e
      have : t = k := by simpa using e
      subst this; cases h
      simp
    · rename_i e
      have hne : t ≠ k := by simpa using e
      obtain ⟨h1, h2⟩ := lookup_zipIdx vs (k + 1) t v h
      refine ⟨by omega, ?_⟩
      rw [show t - k = (t - (k + 1)) + 1 by omega]
      simpa using h2
theorem At.start {N : Nat} (vs : List Value) (hN : vs.length ≤ N) : At N [] (argSlots vs) { tmps := vs.toArray ++ Array.replicate (N - vs.toArray.size) undef, defers := [] } := by
  refine ⟨by simp; omega, rfl, fun t v h => ?_⟩
  obtain ⟨_, h2⟩ := lookup_zipIdx vs 0 t v h
  have h3 : vs[t]? = some v := by simpa using h2
  have hl : t < vs.length := (List.getElem?_eq_some_iff.1 h3).1
  have h4 : (vs.toArray ++ Array.replicate (N - vs.toArray.size) undef)[t]? = some v := by
    rw [Array.getElem?_append_left (by simpa using hl)]; simpa using h3
  rw [Array.getD_eq_getD_getElem?, h4]; rfl

/-- How a function that takes As may end. -/
def FR (P : Program) {β : Type} (V : β → Value) (Bs : β → List Asn) (w0 : World) (K : Nat → Prop) (e : Ending) (w : World) : Prop := ∃ x : β, e = .returned (V x) ∧ Holds w0 K (Bs x) w

section
variable {F : Fence} {P : Program} {w0 : World} {K : Nat → Prop} {N : Nat} {dfs : List Deferred} {ops : Array Oper} {Q : Exit → Act → World → Prop} {rest : List Oper} {σ σ' : List (Nat × Value)} {L L' R As Bs : List Asn} {o : Oper} {v : Value}
  {d : Nat} {t : TypeId} {op : Op} {ty : TypeId} {pos : String} {aft : Array Edge} {g : Option (Nat × Bool)} {x y z : Operand} {c c1 c2 : Code} {k : Nat} {A B : Asn} {RO : List (Nat × Obj)}

theorem Fn.intro {f : FuncId} {fn : Func} {vs : List Value} {β : Type} {V : β → Value} {Bs : β → List Asn} (hf : P.funcs[f]? = some fn) (hb : fn.body = some c) (hn : fn.ntmps = N) (hN : vs.length ≤ N)
    (h : ∀ w0 K, TC Fence.wide P w0 K N [] (bodyPostM Fence.wide 0 P fn (FR P V Bs w0 K)) c (argSlots vs) As) : Fn P f vs As V Bs := by
  subst hn
  intro w C hA
  refine (calls_of_body hf hb (h w C _ w (At.start vs hN) ⟨C, hA, Ext.refl _ _⟩)).mono ?_
  rintro e w' ⟨x, rfl, C', hB, hx⟩
  exact ⟨x, rfl, C', hB, hx⟩
theorem FnP.intro {f : FuncId} {fn : Func} {vs : List Value} (hf : P.funcs[f]? = some fn) (hb : fn.body = some c) (hn : fn.ntmps = N) (hN : vs.length ≤ N)
    (h : ∀ w0 K, TC Fence.wide P w0 K N [] (bodyPostM Fence.wide 0 P fn (FR P (fun _ : Unit => v) (fun _ => []) w0 K)) c (argSlots vs) []) : FnP P f vs v := Fn.p (Fn.intro hf hb hn hN h)

/-- One result. -/
inductive ResOk (P : Program) (σ : List (Nat × Value)) (L : List Asn) : ResultVar → Value → Prop
  | tmp {t : Nat} {v : Value} (h : σ.lookup t = some v) : ResOk P σ L (.tmp t) v
  | cell {s b : Nat} {t : TypeId} {k : Nat} {v : Value} {e : TypeId} (hT : ScalarOk P t) (hs : σ.lookup s = some (.pointer (some ⟨b, 0, none⟩))) (hk : L[k]? = some (cells b [v] e)) : ResOk P σ L (.cell s t) v
  | cells {s b n : Nat} {t : TypeId} {k : Nat} {cs : List Value} {e : TypeId} (hT : RowOk P t n) (hs : σ.lookup s = some (.pointer (some ⟨b, 0, none⟩))) (hk : L[k]? = some (Go.Proofs.Ytekjfmjeemjcjaa.cells b cs e)) (hn : cs.length = n) : ResOk P σ L (.cell s t) (.agg cs.toArray)
inductive ResOks (P : Program) (σ : List (Nat × Value)) (L : List Asn) : List ResultVar → List Value → Prop
  | nil : ResOks P σ L [] []
  | cons {r : ResultVar} {rs : List ResultVar} {v : Value} {vs : List Value} (h : ResOk P σ L r v) (hs : ResOks P σ L rs vs) : ResOks P σ L (r :: rs) (v :: vs)
def resVal : List Value → Value
  | [v] => v
  | vs => .tuple vs.toArray
def resOne (tmps : Array Value) : ResultVar → Sem Value
  | .tmp t => pure (tmps.getD t undef)
  | .cell a t => do loadVar t (← asAddr (tmps.getD a undef))
theorem ResOk.run {r : ResultVar} (h : ResOk P σ L r v) {a : Act} {w : World} (ha : At N dfs σ a) (hw : Holds w0 K L w) : (resOne a.tmps r).run P w = .ok v w := by
  cases h with
  | tmp h => simp [resOne, ha.2.2 _ _ h]
  | @cell s b t k v e hT hs hk =>
    obtain ⟨dd, hu, hr⟩ := hT
    have hc := hw.cell hk (j := 0) (v := v) rfl
    have := ha.2.2 _ _ hs
    cases dd <;> simp_all [resOne, asAddr, loadVar, isAgg, Sem.run_bind, run_underlying hu]
  | @cells s b n t k cs e hT hs hk hn =>
    subst hn
    obtain ⟨dd, hu, hr, hi⟩ := hT
    have hc : w.rangeAt b 0 cs := fun i u hu => hw.cell hk (by simpa using hu)
    have := ha.2.2 _ _ hs
    simp [resOne, asAddr, Sem.run_bind, this, run_loadVar_mid w b 0 t cs dd hc hu hr hi]
theorem ResOks.run {rs : List ResultVar} {vs : List Value} (h : ResOks P σ L rs vs) {a : Act} {w : World} (ha : At N dfs σ a) (hw : Holds w0 K L w) : (rs.mapM (resOne a.tmps)).run P w = .ok vs w := by
  induction h with
  | nil => simp
  | cons h hs ih => simp [List.mapM_cons, Sem.run_bind, h.run ha hw, ih]
theorem results_run {fn : Func} {rs : List ResultVar} {vs : List Value} (hrs : fn.results = rs.toArray) (h : ResOks P σ L rs vs) {a : Act} {w : World} (ha : At N dfs σ a) (hw : Holds w0 K L w) : (results fn a.tmps).run P w = .ok (resVal vs) w := by
  have h1 := h.run ha hw
  have h2 : (fn.results.mapM (resOne a.tmps)).run P w = .ok vs.toArray w := by
    rw [hrs, List.mapM_toArray, map_eq_pure_bind, Sem.run_bind, h1]; rfl
  have h3 : results fn a.tmps = (do let vs ← fn.results.mapM (resOne a.tmps); pure (if h : vs.size = 1 then vs[0] else .tuple vs)) := rfl
  rw [h3, Sem.run_bind, h2]
  rcases vs with _ | ⟨v, _ | ⟨u, vs⟩⟩
  · rfl
  · rfl
  · simp [resVal]
/-- A function's end. -/
theorem TX.fin {fn : Func} {rs : List ResultVar} {vs : List Value} {β : Type} {V : β → Value} {Bs : β → List Asn} {e : Exit} (b : β) (he : e = .ret ∨ e = .normal) (hrs : fn.results = rs.toArray) (hres : ResOks P σ L rs vs) (hv : resVal vs = V b) (hs : Splits L (Bs b) R) :
    TX w0 K N [] (bodyPostM F 0 P fn (FR P V Bs w0 K)) e σ L := by
  intro a w ha hw
  have h1 := results_run hrs hres ha hw
  have h2 : LeavesInM F 0 P fn a.tmps (FR P V Bs w0 K) a.defers .returning w := by
    rw [ha.2.1]
    exact ⟨resVal vs, h1, b, by rw [hv], hw.weaken hs⟩
  rcases he with rfl | rfl <;> exact h2
def mark (d : Nat) : Asn := obj d (.deferred (some []))
theorem sepL.marks {w : World} : ∀ {ds : List Nat} {C : Nat → Prop}, sepL (ds.map mark) C w → ds.Nodup ∧ (∀ d ∈ ds, w.heap[d]? = some (.deferred (some []))) ∧ ∀ k, C k ↔ k ∈ ds
  | [], C, h => ⟨List.nodup_nil, by simp, fun k => by simp; exact h k⟩
  | d :: ds, C, ⟨C1, C2, h1, h2, h3, h4⟩ => by
    obtain ⟨g1, g2, g3⟩ := sepL.marks h2
    have hd : ∀ k, C1 k ↔ k = d := h1.1
    refine ⟨List.nodup_cons.2 ⟨fun hm => h3 d ((hd d).2 rfl) ((g3 d).2 hm), g1⟩, ?_, fun k => by rw [h4, hd, g3]; simp⟩
    intro e he
    rcases List.mem_cons.1 he with rfl | he
    · exact h1.2
    · exact g2 e he
theorem leavesM {fn : Func} {tmps : Array Value} {Rr : Ending → World → Prop} (ds : List Nat) {w : World} (hm : Splits L (ds.map mark) L') (hw : Holds w0 K L w)
    (h : ∀ w', Holds w0 K L' w' → ∃ v, (results fn tmps).run P w' = .ok v w' ∧ Rr (.returned v) w') : LeavesInM Fence.wide 0 P fn tmps Rr (marksOf ds) .returning w := by
  obtain ⟨C, hL, hx⟩ := hw
  obtain ⟨C1, C2, h1, h2, h3, h4⟩ := hm C w hL
  obtain ⟨g1, g2, g3⟩ := sepL.marks h1
  refine leaves_marks ds w g1 g2 fun w' hf hsz => h w' ?_
  refine ⟨C2, h2.loc (by omega) (fun j hj => hf.keep j (h2.lt j hj) (fun hmem => h3 j ((g3 j).2 hmem) hj)), hx.1.trans' hf (fun i hi hmem => ?_), fun j hj => ?_⟩
  · rcases hx.2 i ((h4 i).2 (.inl ((g3 i).2 hmem))) with h | h
    · exact h
    · omega
  · rcases hx.2 j ((h4 j).2 (.inr hj)) with h | h
    · exact .inl h
    · exact .inr (by omega)
/-- A function's end where ranges over iterators have left marks. -/
theorem TX.finM {fn : Func} {rs : List ResultVar} {vs : List Value} {β : Type} {V : β → Value} {Bs : β → List Asn} {e : Exit} (ds : List Nat) (b : β) (he : e = .ret ∨ e = .normal) (hm : Splits L (ds.map mark) L') (hrs : fn.results = rs.toArray)
    (hres : ResOks P σ L' rs vs) (hv : resVal vs = V b) (hs : Splits L' (Bs b) R) : TX w0 K N (marksOf ds) (bodyPostM Fence.wide 0 P fn (FR P V Bs w0 K)) e σ L := by
  intro a w ha hw
  have h2 : LeavesInM Fence.wide 0 P fn a.tmps (FR P V Bs w0 K) a.defers .returning w := by
    rw [ha.2.1]
    exact leavesM ds hm hw fun w' hw' => ⟨resVal vs, results_run hrs hres ha hw', b, by rw [hv], hw'.weaken hs⟩
  rcases he with rfl | rfl <;> exact h2

/-! ### Iterators -/
/-- g over caps goes through xs; it reads the blocks RO. -/
def Itr (P : Program) (gf : FuncId) (caps : List Value) {α : Type} (enc : α → List Value) (xs : List α) (RO : List (Nat × Obj)) : Prop :=
  ∀ w, (∀ p ∈ RO, w.heap[p.1]? = some p.2) → Yields P gf caps.toArray (fun x => (enc x).toArray) xs (fun k => ∃ p ∈ RO, p.1 = k) w
/-- An assertion out of a local predicate; C is bounded. -/
def locA (I : (Nat → Prop) → World → Prop) (hI : ∀ C W W', I C W → W.heap.size ≤ W'.heap.size → (∀ k, C k → W'.heap[k]? = W.heap[k]?) → I C W') : Asn :=
  ⟨fun C w => I C w ∧ ∀ k, C k → k < w.heap.size, fun h => h.2, fun h hs hk => ⟨hI _ _ _ h.1 hs hk, fun k hC => Nat.lt_of_lt_of_le (h.2 k hC) hs⟩⟩
/-- How an iterator function may end. -/
def FY {α : Type} (xs : List α) (I X : List α → Asn) (w0 : World) (K : Nat → Prop) (e : Ending) (w : World) : Prop :=
  (∃ v, e = .returned v) ∧ (Holds w0 K [I xs] w ∨ ∃ pre x post, xs = pre ++ x :: post ∧ Holds w0 K [X (pre ++ [x])] w)
theorem Itr.intro {gf : FuncId} {fn : Func} {caps : List Value} {α : Type} {enc : α → List Value} {xs : List α} (hf : P.funcs[gf]? = some fn) (hb : fn.body = some c) (hn : fn.ntmps = N) (hN : caps.length + 1 ≤ N)
    (h : ∀ l w0 K (I X : List α → Asn), Ro w0 K RO → YC P l enc xs I X w0 K →
      TC Fence.wide P w0 K N [] (bodyPostM Fence.wide 0 P fn (FY xs I X w0 K)) c (argSlots (.func (.yield l) #[] #[] :: caps)) [I []]) : Itr P gf caps enc xs RO := by
  subst hn
  intro w hRO l I X C0 W hD hsz hC0 hIl hXl hy h0
  have hRo : Ro W C0 RO := fun p hp => ⟨(hD p.1 ⟨p, hp, rfl⟩).2.trans (hRO p hp), fun hc => (hC0 _ hc).2 ⟨p, hp, rfl⟩⟩
  have := h l W C0 (fun pre => locA (I pre) (fun C W W' => hIl pre C W W')) (fun pre => locA (X pre) (fun C W W' => hXl pre C W W')) hRo (fun pre x post C W1 hxs he hi => by
    obtain ⟨f1, t1, a1, b1, hr1, hr2⟩ := hy pre x post C W1 hxs he hi.1
    refine ⟨f1, t1, a1, b1, hr1, hr2.mono ?_⟩
    rintro e w2 ⟨b, rfl, C', hx, hc⟩
    have hlt : ∀ k, C' k → k < w2.heap.size := fun k hk => by
      have := hx.1.size
      rcases hx.2 k hk with h | h
      · have := hi.2 k h; omega
      · exact h.2
    exact ⟨b, rfl, C', hx, hc.imp (fun h => ⟨h.1, h.2, hlt⟩) (fun h => ⟨h.1, h.2, hlt⟩)⟩)
  have hs : (Value.func (.yield l) #[] #[] :: caps).toArray = #[.func (.yield l) #[] #[]] ++ caps.toArray := by simp
  rw [← hs]
  refine (calls_of_body hf hb (this _ W (At.start _ (by simpa using hN)) ⟨C0, sepL.one ⟨h0, fun k hk => (hC0 k hk).1⟩, Ext.refl _ _⟩)).mono ?_
  rintro e w' ⟨he, hh⟩
  refine ⟨he, ?_⟩
  rcases hh with ⟨C', hh, hx⟩ | ⟨pre, x, post, hxs, C', hh, hx⟩
  · obtain ⟨C1, C2, g1, g2, _, g4⟩ := hh
    have : C' = C1 := funext fun k => propext (by rw [g4]; exact ⟨fun h => h.resolve_right (g2 k), .inl⟩)
    subst this
    exact ⟨C', hx, .inl g1.1⟩
  · obtain ⟨C1, C2, g1, g2, _, g4⟩ := hh
    have : C' = C1 := funext fun k => propext (by rw [g4]; exact ⟨fun h => h.resolve_right (g2 k), .inl⟩)
    subst this
    exact ⟨C', hx, .inr ⟨pre, x, post, hxs, g1.1⟩⟩
/-- An iterator function's end: gone through all. -/
theorem TX.finY {fn : Func} {α : Type} {xs : List α} {I X : List α → Asn} {e : Exit} (ds : List Nat) (he : e = .ret ∨ e = .normal) (hm : Splits L (ds.map mark) L') (hrs : fn.results = #[]) (hA : I xs = A) (hs : Splits L' [A] R) :
    TX w0 K N (marksOf ds) (bodyPostM Fence.wide 0 P fn (FY xs I X w0 K)) e σ L := by
  subst hA
  intro a w ha hw
  have h2 : LeavesInM Fence.wide 0 P fn a.tmps (FY xs I X w0 K) a.defers .returning w := by
    rw [ha.2.1]
    exact leavesM ds hm hw fun w' hw' => ⟨_, results_run (rs := []) hrs .nil ha hw', ⟨_, rfl⟩, .inl (hw'.weaken hs)⟩
  rcases he with rfl | rfl <;> exact h2
/-- An iterator function's end: told to stop. -/
theorem TX.finX {fn : Func} {α : Type} {xs : List α} {I X : List α → Asn} {e : Exit} (ds : List Nat) (pre : List α) (x : α) (post : List α) (hxs : xs = pre ++ x :: post) (he : e = .ret ∨ e = .normal) (hm : Splits L (ds.map mark) L') (hrs : fn.results = #[]) (hs : Splits L' [X (pre ++ [x])] R) :
    TX w0 K N (marksOf ds) (bodyPostM Fence.wide 0 P fn (FY xs I X w0 K)) e σ L := by
  intro a w ha hw
  have h2 : LeavesInM Fence.wide 0 P fn a.tmps (FY xs I X w0 K) a.defers .returning w := by
    rw [ha.2.1]
    exact leavesM ds hm hw fun w' hw' => ⟨_, results_run (rs := []) hrs .nil ha hw', ⟨_, rfl⟩, .inr ⟨pre, x, post, hxs, hw'.weaken hs⟩⟩
  rcases he with rfl | rfl <;> exact h2

/-! ### Ranges over iterators -/
/-- How a round may be left: Inv, LI: what holds when it goes on; X, LX: when it leaves by a jump. -/
def RQ {α β γ : Type} (Inv : List α → β → Prop) (LI : List α → β → List Asn) (X : Code → List α → γ → Prop) (LX : Code → List α → γ → List Asn) (pre : List α) (w1 : World) (K1 : Nat → Prop) : Exit → Act → World → Prop
  | .normal, _, w => ∃ b, Inv pre b ∧ Holds w1 K1 (LI pre b) w
  | .ret, _, w => ∃ b, X .ret pre b ∧ Holds w1 K1 (LX .ret pre b) w
  | .exit id, _, w => ∃ b, X (.exit id) pre b ∧ Holds w1 K1 (LX (.exit id) pre b) w
  | .goto l, _, w => ∃ b, X (.goto l) pre b ∧ Holds w1 K1 (LX (.goto l) pre b) w
  | .panic _, _, _ => False
  | .outgrown, _, _ => False
section
variable {α β γ : Type} {Inv : List α → β → Prop} {LI : List α → β → List Asn} {X : Code → List α → γ → Prop} {LX : Code → List α → γ → List Asn} {pre : List α}
theorem TX.round (b : β) (h : Inv pre b) (hs : Splits L (LI pre b) R) : TX w0 K N dfs (RQ Inv LI X LX pre w0 K) .normal σ L := fun a w ha hw => ⟨b, h, hw.weaken hs⟩
theorem TX.roundRet (b : γ) (h : X .ret pre b) (hs : Splits L (LX .ret pre b) R) : TX w0 K N dfs (RQ Inv LI X LX pre w0 K) .ret σ L := fun a w ha hw => ⟨b, h, hw.weaken hs⟩
theorem TX.roundExit {id : Nat} (b : γ) (h : X (.exit id) pre b) (hs : Splits L (LX (.exit id) pre b) R) : TX w0 K N dfs (RQ Inv LI X LX pre w0 K) (.exit id) σ L := fun a w ha hw => ⟨b, h, hw.weaken hs⟩
end
def zipSlots (ps : List Nat) (vs : List Value) (σ : List (Nat × Value)) : List (Nat × Value) := (ps.zip vs).foldl (fun σ p => p :: σ) σ
theorem At.zip {a : Act} (h : At N dfs σ a) (ps : List Nat) (vs : List Value) (hp : ∀ p ∈ ps, p < N) : At N [] (zipSlots ps vs σ) { tmps := (ps.toArray.zip vs.toArray).foldl (fun t p => t.setIfInBounds p.1 p.2) a.tmps, defers := [] } := by
  have key : ∀ (l : List (Nat × Value)) (σ : List (Nat × Value)) (tm : Array Value), (∀ p ∈ l, p.1 < N) → At N [] σ { tmps := tm, defers := [] } →
      At N [] (l.foldl (fun σ p => p :: σ) σ) { tmps := l.foldl (fun t p => t.setIfInBounds p.1 p.2) tm, defers := [] } := by
    intro l
    induction l with
    | nil => intro σ tm _ h; exact h
    | cons p l ih =>
      intro σ tm hp h
      simp only [List.foldl_cons]
      exact ih _ _ (fun q hq => hp q (List.mem_cons_of_mem _ hq)) (h.put (hp p (List.mem_cons_self ..)) p.2)
  have := key (ps.zip vs) σ a.tmps (fun p hp' => hp _ (List.of_mem_zip hp').1) ⟨h.1, rfl, h.2.2⟩
  simpa [zipSlots] using this

theorem Holds.split2 {w : World} (h : Holds w0 K L w) (hs : Splits L As R) : ∃ C1 C2, sepL As C1 w ∧ sepL R C2 w ∧ (∀ k, C1 k → ¬ C2 k) ∧ Ext K C1 w0 w ∧ ∀ Bs C1' w', Ext C1 C1' w w' → sepL Bs C1' w' → Holds w0 K (R ++ Bs) w' := by
  have h0 := h
  obtain ⟨C, hL, hx⟩ := h
  obtain ⟨C1, C2, h1, h2, h3, h4⟩ := hs C w hL
  refine ⟨C1, C2, h1, h2, h3, ⟨hx.1, fun k hk => hx.2 k ((h4 k).2 (.inl hk))⟩, fun Bs C1' w' he hB => ?_⟩
  have hsz := he.1.size
  have h2' : sepL R C2 w' := h2.loc hsz (fun k hk => he.1.keep k (h2.lt k hk) (fun h => h3 k h hk))
  have hd : ∀ k, C2 k → ¬ C1' k := fun k hk h' => by
    rcases he.2 k h' with h | h
    · exact h3 k h hk
    · have := h2.lt k hk; omega
  refine ⟨_, h2'.append hB hd, hx.1.trans' he.1 (fun i hi hc => ?_), fun k hk => ?_⟩
  · rcases hx.2 i ((h4 i).2 (.inl hc)) with h | h
    · exact h
    · omega
  · have := hx.1.size
    rcases hk with hk | hk
    · rcases hx.2 k ((h4 k).2 (.inr hk)) with h | h
      · exact .inl h
      · exact .inr (by omega)
    · rcases he.2 k hk with h | h
      · rcases hx.2 k ((h4 k).2 (.inl h)) with h | h
        · exact .inl h
        · exact .inr (by omega)
      · exact .inr (by omega)
/-- The blocks that an iterator reads: one's own, or read-only ones. -/
def Reads (R : List Asn) (RO : List (Nat × Obj)) : List (Nat × Obj) → Prop
  | [] => True
  | p :: ps => ((∃ k : Nat, R[k]? = some (obj p.1 p.2)) ∨ ∃ k : Nat, RO[k]? = some p) ∧ Reads R RO ps
theorem Reads.mem {R : List Asn} {RO : List (Nat × Obj)} : ∀ {D : List (Nat × Obj)}, Reads R RO D → ∀ p ∈ D, ((∃ k : Nat, R[k]? = some (obj p.1 p.2)) ∨ ∃ k : Nat, RO[k]? = some p)
  | [], _, p, hp => by cases hp
  | q :: D, h, p, hp => by
    rcases List.mem_cons.1 hp with rfl | hp
    · exact h.1
    · exact Reads.mem h.2 p hp
theorem sepL.mem {b : Nat} {o : Obj} : ∀ {R : List Asn} {C : Nat → Prop} {w : World} {k : Nat}, R[k]? = some (obj b o) → sepL R C w → w.heap[b]? = some o ∧ C b := by
  intro R C w k hk h
  obtain ⟨C1, C2, h1, _, _, h4⟩ := sepL.take hk h
  exact ⟨h1.2, (h4 b).2 (.inl ((h1.1 b).2 rfl))⟩
theorem Ro.snoc {RO : List (Nat × Obj)} {b : Nat} {o : Obj} (h : Ro w0 K RO) (hb : w0.heap[b]? = some o) (hn : ¬ K b) : Ro w0 K (RO ++ [(b, o)]) := fun p hp => by
  rcases List.mem_append.1 hp with hp | hp
  · exact h p hp
  · rw [List.mem_singleton.1 hp]; exact ⟨hb, hn⟩
section
variable {α β γ δ : Type}
/-- **A range over an iterator, in a function's own body.** -/
theorem TC.range {gf : FuncId} {caps : List Value} {enc : α → List Value} {xs : List α} {D : List (Nat × Obj)} {ps : List Nat} {assign body : Code} (hRo : Ro w0 K RO)
    (hg : ev σ x = some (.func (.func gf) #[] caps.toArray)) (hent : ∀ args w, (callFunc gf args).run P w = .ok (.enter gf args) w) (hY : Itr P gf caps enc xs D)
    (Inv : List α → β → Prop) (LI : List α → β → List Asn) (X : Code → List α → γ → Prop) (LX : Code → List α → γ → List Asn) (σJ : List α → α → β → δ → List (Nat × Value)) (LJ : List α → α → β → δ → List Asn) (b0 : β)
    (h0 : Inv [] b0) (hs : Splits L (LI [] b0) R) (hD : Reads R RO D) (hps : ∀ x, (enc x).length = ps.length) (hpN : ∀ p ∈ ps, p < N)
    (hassign : ∀ l r pre e post b w1 K1, xs = pre ++ e :: post → Ext K K1 w0 w1 → Ro w1 K1 (RO ++ [(l, .loop r)]) → Inv pre b →
      TC (Fence.wide.inRound l) P w1 K1 N [] (Exit.then (fun a w => ∃ j, St w1 K1 N [] (σJ pre e b j) (LJ pre e b j) a w) (fun _ _ _ => False)) assign (zipSlots ps (enc e) σ) (LI pre b))
    (hbody : ∀ l r pre e post b j w1 K1, xs = pre ++ e :: post → Ext K K1 w0 w1 → Ro w1 K1 (RO ++ [(l, .loop r)]) → Inv pre b → TC (Fence.wide.inRound l) P w1 K1 N [] (RQ Inv LI X LX (pre ++ [e]) w1 K1) body (σJ pre e b j) (LJ pre e b j))
    (hdone : ∀ d b, Inv xs b → TX w0 K N ({ target := .collected d, args := #[] } :: dfs) Q .normal σ (R ++ (LI xs b ++ [mark d])))
    (hstop : ∀ d c pre e post b, xs = pre ++ e :: post → X c (pre ++ [e]) b → TC Fence.wide P w0 K N ({ target := .collected d, args := #[] } :: dfs) Q c σ (R ++ (LX c (pre ++ [e]) b ++ [mark d]))) :
    TC Fence.wide P w0 K N dfs Q (.rangeFunc x ps.toArray assign body) σ L := by
  intro a w ha hw
  obtain ⟨C1, C2, g1, g2, g3, gx, hstep⟩ := hw.split2 hs
  have hDh : ∀ p ∈ D, w.heap[p.1]? = some p.2 ∧ ¬ C1 p.1 := fun p hp => by
    rcases hD.mem p hp with ⟨k, hk⟩ | ⟨k, hk⟩
    · obtain ⟨h1, h2⟩ := sepL.mem hk g2
      exact ⟨h1, fun h => g3 _ h h2⟩
    · refine ⟨hw.ro hRo hk, fun h => ?_⟩
      obtain ⟨h1, h2⟩ := hRo _ (List.mem_of_getElem? hk)
      rcases gx.2 _ h with h | h
      · exact h2 h
      · have := lt_of_some h1; omega
  have hlt1 := g1.lt
  have hro1 : ∀ {C : Nat → Prop} {W : World}, Ext K C w0 W → Ro W C RO := fun {C W} hx p hp => by
    obtain ⟨h1, h2⟩ := hRo p hp
    refine ⟨hx.1.at h1 h2, fun h => ?_⟩
    rcases hx.2 _ h with h | h
    · exact h2 h
    · have := lt_of_some h1; omega
  refine wp_range (gf := gf) (lb := caps.toArray) (ha.ev hg) hent (hY w (fun p hp => (hDh p hp).1)) (fun k ⟨p, hp, hk⟩ => ⟨hk ▸ lt_of_some (hDh p hp).1, rfl⟩) (Nat.le_refl _) (fun e => by simp [hps])
    (fun pre C W => ∃ b, Inv pre b ∧ sepL (LI pre b) C W) (fun c pre C W => ∃ b, X c pre b ∧ sepL (LX c pre b) C W)
    (fun pre e a1 C W => ∃ b j, Inv pre b ∧ At N [] (σJ pre e b j) a1 ∧ sepL (LJ pre e b j) C W) ?_ ?_ ?_ C1 (fun k hk => ⟨hlt1 k hk, fun ⟨p, hp, e⟩ => (hDh p hp).2 (e ▸ hk)⟩) ⟨b0, h0, g1⟩ ?_ ?_ ?_ ?_
  · rintro pre C W W' ⟨b, h1, h2⟩ hs hk; exact ⟨b, h1, h2.loc hs hk⟩
  · rintro c pre C W W' ⟨b, h1, h2⟩ hs hk; exact ⟨b, h1, h2.loc hs hk⟩
  · rintro pre e a1 _ C W W' ⟨b, j, h1, h2, h3⟩ hs hk; exact ⟨b, j, h1, h2, h3.loc hs hk⟩
  · rintro l pre e post C W1 hxs hext ⟨b, hb, hi⟩ hn hl ⟨r, hr⟩
    have hx1 : Ext K C w0 W1 := gx.trans hext
    refine wpIn_mono (hassign l r pre e post b W1 C hxs hx1 ((hro1 hx1).snoc hr hn) hb _ W1 (ha.zip ps (enc e) hpN) ⟨C, hi, Ext.refl _ _⟩) ?_
    rintro ex a' w' hq
    cases ex with
    | normal =>
      obtain ⟨j, hj, C', hL', hx'⟩ := hq
      exact ⟨C', hx', b, j, hb, hj, hL'⟩
    | _ => exact hq
  · rintro l pre e post C W1 a1 hxs hext ⟨b, j, hb, hat, hi⟩ hn hl ⟨r, hr⟩
    have hx1 : Ext K C w0 W1 := gx.trans hext
    refine wpIn_mono (hbody l r pre e post b j W1 C hxs hx1 ((hro1 hx1).snoc hr hn) hb a1 W1 hat ⟨C, hi, Ext.refl _ _⟩) ?_
    rintro ex a' w' hq
    cases ex with
    | normal => obtain ⟨b', h1, C', h2, h3⟩ := hq; exact ⟨C', h3, b', h1, h2⟩
    | ret => obtain ⟨b', h1, C', h2, h3⟩ := hq; exact ⟨C', h3, b', h1, h2⟩
    | exit id => obtain ⟨b', h1, C', h2, h3⟩ := hq; exact ⟨C', h3, b', h1, h2⟩
    | goto id => obtain ⟨b', h1, C', h2, h3⟩ := hq; exact ⟨C', h3, b', h1, h2⟩
    | panic _ => exact hq
    | outgrown => exact hq
  · rintro d C W hext ⟨b, hb, hi⟩ hd hCd hdef
    refine hdone d b hb _ W ⟨ha.1, by rw [← ha.2.1], ha.2.2⟩ (hstep _ (fun k => C k ∨ k = d) W ⟨hext.1, fun k hk => ?_⟩ ?_)
    · rcases hk with hk | rfl
      · exact hext.2 k hk
      · exact .inr ⟨hd, lt_of_some hdef⟩
    · exact hi.append (sepL.one ⟨fun k => Iff.rfl, hdef⟩) (fun k hk e => hCd (e ▸ hk))
  · rintro d c pre e post C W hxs hext ⟨b, hb, hi⟩ hd hCd hdef
    refine hstop d c pre e post b hxs hb _ W ⟨ha.1, by rw [← ha.2.1], ha.2.2⟩ (hstep _ (fun k => C k ∨ k = d) W ⟨hext.1, fun k hk => ?_⟩ ?_)
    · rcases hk with hk | rfl
      · exact hext.2 k hk
      · exact .inr ⟨hd, lt_of_some hdef⟩
    · exact hi.append (sepL.one ⟨fun k => Iff.rfl, hdef⟩) (fun k hk e => hCd (e ▸ hk))
/-- **A range over an iterator, in a round.** -/
theorem TC.rangeIn {l₀ i₀ : Nat} {r₀ : Loop} {gf : FuncId} {caps : List Value} {enc : α → List Value} {xs : List α} {D : List (Nat × Obj)} {ps : List Nat} {assign body : Code} (hRo : Ro w0 K RO) (hl₀ : RO[i₀]? = some (l₀, .loop r₀))
    (hg : ev σ x = some (.func (.func gf) #[] caps.toArray)) (hent : ∀ args w, (callFunc gf args).run P w = .ok (.enter gf args) w) (hY : Itr P gf caps enc xs D)
    (Inv : List α → β → Prop) (LI : List α → β → List Asn) (X : Code → List α → γ → Prop) (LX : Code → List α → γ → List Asn) (σJ : List α → α → β → δ → List (Nat × Value)) (LJ : List α → α → β → δ → List Asn) (b0 : β)
    (h0 : Inv [] b0) (hs : Splits L (LI [] b0) R) (hD : Reads R RO D) (hps : ∀ x, (enc x).length = ps.length) (hpN : ∀ p ∈ ps, p < N)
    (hassign : ∀ l r pre e post b w1 K1, xs = pre ++ e :: post → Ext K K1 w0 w1 → Ro w1 K1 (RO ++ [(l, .loop r)]) → Inv pre b →
      TC (Fence.wide.inRound l) P w1 K1 N [] (Exit.then (fun a w => ∃ j, St w1 K1 N [] (σJ pre e b j) (LJ pre e b j) a w) (fun _ _ _ => False)) assign (zipSlots ps (enc e) σ) (LI pre b))
    (hbody : ∀ l r pre e post b j w1 K1, xs = pre ++ e :: post → Ext K K1 w0 w1 → Ro w1 K1 (RO ++ [(l, .loop r)]) → Inv pre b → TC (Fence.wide.inRound l) P w1 K1 N [] (RQ Inv LI X LX (pre ++ [e]) w1 K1) body (σJ pre e b j) (LJ pre e b j))
    (hdone : ∀ b, Inv xs b → TX w0 K N dfs Q .normal σ (R ++ LI xs b))
    (hstop : ∀ c pre e post b, xs = pre ++ e :: post → X c (pre ++ [e]) b → TC (Fence.wide.inRound l₀) P w0 K N dfs Q c σ (R ++ LX c (pre ++ [e]) b)) :
    TC (Fence.wide.inRound l₀) P w0 K N dfs Q (.rangeFunc x ps.toArray assign body) σ L := by
  intro a w ha hw
  obtain ⟨C1, C2, g1, g2, g3, gx, hstep⟩ := hw.split2 hs
  have hDh : ∀ p ∈ D, w.heap[p.1]? = some p.2 ∧ ¬ C1 p.1 := fun p hp => by
    rcases hD.mem p hp with ⟨k, hk⟩ | ⟨k, hk⟩
    · obtain ⟨h1, h2⟩ := sepL.mem hk g2
      exact ⟨h1, fun h => g3 _ h h2⟩
    · refine ⟨hw.ro hRo hk, fun h => ?_⟩
      obtain ⟨h1, h2⟩ := hRo _ (List.mem_of_getElem? hk)
      rcases gx.2 _ h with h | h
      · exact h2 h
      · have := lt_of_some h1; omega
  have hlt1 := g1.lt
  have hro1 : ∀ {C : Nat → Prop} {W : World}, Ext K C w0 W → Ro W C RO := fun {C W} hx p hp => by
    obtain ⟨h1, h2⟩ := hRo p hp
    refine ⟨hx.1.at h1 h2, fun h => ?_⟩
    rcases hx.2 _ h with h | h
    · exact h2 h
    · have := lt_of_some h1; omega
  refine wp_range_in ⟨r₀, hw.ro hRo hl₀⟩ (gf := gf) (lb := caps.toArray) (ha.ev hg) hent (hY w (fun p hp => (hDh p hp).1)) (fun k ⟨p, hp, hk⟩ => ⟨hk ▸ lt_of_some (hDh p hp).1, rfl⟩) (Nat.le_refl _) (fun e => by simp [hps])
    (fun pre C W => ∃ b, Inv pre b ∧ sepL (LI pre b) C W) (fun c pre C W => ∃ b, X c pre b ∧ sepL (LX c pre b) C W)
    (fun pre e a1 C W => ∃ b j, Inv pre b ∧ At N [] (σJ pre e b j) a1 ∧ sepL (LJ pre e b j) C W) ?_ ?_ ?_ C1 (fun k hk => ⟨hlt1 k hk, fun ⟨p, hp, e⟩ => (hDh p hp).2 (e ▸ hk)⟩) ⟨b0, h0, g1⟩ ?_ ?_ ?_ ?_
  · rintro pre C W W' ⟨b, h1, h2⟩ hs hk; exact ⟨b, h1, h2.loc hs hk⟩
  · rintro c pre C W W' ⟨b, h1, h2⟩ hs hk; exact ⟨b, h1, h2.loc hs hk⟩
  · rintro pre e a1 _ C W W' ⟨b, j, h1, h2, h3⟩ hs hk; exact ⟨b, j, h1, h2, h3.loc hs hk⟩
  · rintro l pre e post C W1 hxs hext ⟨b, hb, hi⟩ hn hl ⟨r, hr⟩
    have hx1 : Ext K C w0 W1 := gx.trans hext
    refine wpIn_mono (hassign l r pre e post b W1 C hxs hx1 ((hro1 hx1).snoc hr hn) hb _ W1 (ha.zip ps (enc e) hpN) ⟨C, hi, Ext.refl _ _⟩) ?_
    rintro ex a' w' hq
    cases ex with
    | normal =>
      obtain ⟨j, hj, C', hL', hx'⟩ := hq
      exact ⟨C', hx', b, j, hb, hj, hL'⟩
    | _ => exact hq
  · rintro l pre e post C W1 a1 hxs hext ⟨b, j, hb, hat, hi⟩ hn hl ⟨r, hr⟩
    have hx1 : Ext K C w0 W1 := gx.trans hext
    refine wpIn_mono (hbody l r pre e post b j W1 C hxs hx1 ((hro1 hx1).snoc hr hn) hb a1 W1 hat ⟨C, hi, Ext.refl _ _⟩) ?_
    rintro ex a' w' hq
    cases ex with
    | normal => obtain ⟨b', h1, C', h2, h3⟩ := hq; exact ⟨C', h3, b', h1, h2⟩
    | ret => obtain ⟨b', h1, C', h2, h3⟩ := hq; exact ⟨C', h3, b', h1, h2⟩
    | exit id => obtain ⟨b', h1, C', h2, h3⟩ := hq; exact ⟨C', h3, b', h1, h2⟩
    | goto id => obtain ⟨b', h1, C', h2, h3⟩ := hq; exact ⟨C', h3, b', h1, h2⟩
    | panic _ => exact hq
    | outgrown => exact hq
  · rintro C W hext ⟨b, hb, hi⟩
    exact hdone b hb _ W ha (hstep _ C W hext hi)
  · rintro c pre e post C W hxs hext ⟨b, hb, hi⟩
    exact hstop c pre e post b hxs hb _ W ha (hstep _ C W hext hi)
end
end
end Go.Proofs.Ytekjfmjeemjcjaa
