/-
  A logic of triples over symbolic slots and owned blocks: statements, calls, function bodies. No program is named here. Nothing is assumed.
-/
import Derived.Test.YtekjfmjeemjcjaaRl
namespace Go.Proofs.Ytekjfmjeemjcjaa
open Go.RowKit Go.Lib
set_option linter.unusedVariables false
set_option linter.unusedSimpArgs false

/-- Blocks that lie as they lay at the beginning, and are none of one's own. -/
def Ro (w0 : World) (K : Nat → Prop) (RO : List (Nat × Obj)) : Prop := ∀ p ∈ RO, w0.heap[p.1]? = some p.2 ∧ ¬ K p.1
theorem Ro.nil {w0 : World} {K : Nat → Prop} : Ro w0 K [] := fun p hp => by cases hp
theorem Holds.ro {w0 w : World} {K : Nat → Prop} {L : List Asn} {RO : List (Nat × Obj)} (h : Holds w0 K L w) (hr : Ro w0 K RO) {i b : Nat} {o : Obj} (hi : RO[i]? = some (b, o)) : w.heap[b]? = some o := by
  obtain ⟨C, _, hx⟩ := h
  obtain ⟨h1, h2⟩ := hr _ (List.mem_of_getElem? hi)
  exact hx.1.at h1 h2

def CutQ {β : Type} (w0 : World) (K : Nat → Prop) (N : Nat) (dfs : List Deferred) (I : β → Prop) (σf : β → List (Nat × Value)) (Lf : β → List Asn) (a : Act) (w : World) : Prop := ∃ b, I b ∧ St w0 K N dfs (σf b) (Lf b) a w
def LoopQ {β : Type} (w0 : World) (K : Nat → Prop) (N : Nat) (I : β → Prop) (df : β → List Deferred) (σf : β → List (Nat × Value)) (Lf : β → List Asn) (μ : β → Nat) (b : β) (a : Act) (w : World) : Prop := ∃ b', I b' ∧ μ b' < μ b ∧ St w0 K N (df b') (σf b') (Lf b') a w

section
variable {F : Fence} {P : Program} {w0 : World} {K : Nat → Prop} {N : Nat} {dfs : List Deferred} {ops : Array Oper} {Q : Exit → Act → World → Prop} {rest : List Oper} {σ σ' : List (Nat × Value)} {L L' R As Bs : List Asn} {o : Oper} {v : Value}
  {d : Nat} {t : TypeId} {op : Op} {ty : TypeId} {pos : String} {aft : Array Edge} {g : Option (Nat × Bool)} {x y z : Operand} {c c1 c2 : Code} {k : Nat} {A B : Asn} {RO : List (Nat × Obj)}

/-! ### Statements -/
theorem TC.region {id : Nat} {l : List Oper} (h : TO F P w0 K N dfs l.toArray Q l σ L) : TC F P w0 K N dfs Q (.region id l.toArray false) σ L := fun a w ha hw => wpIn_region_lit (h a w ha hw)
theorem TC.seq (h : TC F P w0 K N dfs (Exit.then (c2.wpIn F 0 P Q) Q) c1 σ L) : TC F P w0 K N dfs Q (.seq c1 c2) σ L := fun a w ha hw => wpIn_seq (h a w ha hw)
theorem TC.skip (h : TX w0 K N dfs Q .normal σ L) : TC F P w0 K N dfs Q .skip σ L := fun a w ha hw => wpIn_skip (h a w ha hw)
theorem TC.exit {id : Nat} (h : TX w0 K N dfs Q (.exit id) σ L) : TC F P w0 K N dfs Q (.exit id) σ L := fun a w ha hw => wpIn_exit (h a w ha hw)
theorem TC.ret (h : TX w0 K N dfs Q .ret σ L) : TC F P w0 K N dfs Q .ret σ L := fun a w ha hw => wpIn_ret (h a w ha hw)
theorem TC.goto {l : Nat} (h : TX w0 K N dfs Q (.goto l) σ L) : TC F P w0 K N dfs Q (.goto l) σ L := fun a w ha hw => wpIn_goto (h a w ha hw)
theorem TC.label {l : Nat} (h : TX w0 K N dfs Q .normal σ L) : TC F P w0 K N dfs Q (.label l) σ L := fun a w ha hw => wpIn_label (h a w ha hw)
theorem TC.block {id : Nat} (h : TC F P w0 K N dfs (Exit.inBlock id Q) c σ L) : TC F P w0 K N dfs Q (.block id c) σ L := fun a w ha hw => wpIn_block (h a w ha hw)
theorem TC.condT (hc : ev σ x = some (.bool true)) (h : TC F P w0 K N dfs Q c1 σ L) : TC F P w0 K N dfs Q (.cond x c1 c2) σ L := fun a w ha hw => wpIn_cond_true (ha.ev hc) (h a w ha hw)
theorem TC.condF (hc : ev σ x = some (.bool false)) (h : TC F P w0 K N dfs Q c2 σ L) : TC F P w0 K N dfs Q (.cond x c1 c2) σ L := fun a w ha hw => wpIn_cond_false (ha.ev hc) (h a w ha hw)
theorem TC.condB {b : Bool} (hc : ev σ x = some (.bool b)) (ht : b = true → TC F P w0 K N dfs Q c1 σ L) (hf : b = false → TC F P w0 K N dfs Q c2 σ L) : TC F P w0 K N dfs Q (.cond x c1 c2) σ L :=
  fun a w ha hw => wpIn_cond_split (ha.ev hc) (fun h => ht h a w ha hw) (fun h => hf h a w ha hw)
theorem TO.split {s : Nat} {b : Bool} (hs : σ.lookup s = some (.bool b)) (ht : b = true → TO F P w0 K N dfs ops Q rest ((s, .bool true) :: σ) L) (hf : b = false → TO F P w0 K N dfs ops Q rest ((s, .bool false) :: σ) L) :
    TO F P w0 K N dfs ops Q rest σ L := by
  cases b with
  | true => exact TO.sub (Sbs.cons hs Sbs.refl) (ht rfl)
  | false => exact TO.sub (Sbs.cons hs Sbs.refl) (hf rfl)
/-- Where ways meet again. -/
theorem TC.cut {β : Type} (I : β → Prop) (σf : β → List (Nat × Value)) (Lf : β → List Asn) (h1 : TC F P w0 K N dfs (Exit.then (CutQ w0 K N dfs I σf Lf) Q) c1 σ L)
    (h2 : ∀ b, I b → TC F P w0 K N dfs Q c2 (σf b) (Lf b)) : TC F P w0 K N dfs Q (.seq c1 c2) σ L := fun a w ha hw => by
  refine wpIn_seq (wpIn_mono (h1 a w ha hw) ?_)
  intro e a' w' hq
  cases e with
  | normal => obtain ⟨b, hb, h3, h4⟩ := hq; exact h2 b hb a' w' h3 h4
  | _ => exact hq
theorem TX.meet {β : Type} {I : β → Prop} {σf : β → List (Nat × Value)} {Lf : β → List Asn} (b : β) (hI : I b) (hσ : Sbs σ (σf b)) (hL : Splits L (Lf b) R) :
    TX w0 K N dfs (Exit.then (CutQ w0 K N dfs I σf Lf) Q) .normal σ L := fun a w ha hw => ⟨b, hI, hσ _ _ _ ha, hw.weaken hL⟩
theorem TX.next (h : TC F P w0 K N dfs Q c σ L) : TX w0 K N dfs (Exit.then (c.wpIn F 0 P Q) Q) .normal σ L := h
theorem TX.thenExit {id : Nat} {q : Act → World → Prop} (h : TX w0 K N dfs Q (.exit id) σ L) : TX w0 K N dfs (Exit.then q Q) (.exit id) σ L := h
theorem TX.thenRet {q : Act → World → Prop} (h : TX w0 K N dfs Q .ret σ L) : TX w0 K N dfs (Exit.then q Q) .ret σ L := h
theorem TX.thenGoto {l : Nat} {q : Act → World → Prop} (h : TX w0 K N dfs Q (.goto l) σ L) : TX w0 K N dfs (Exit.then q Q) (.goto l) σ L := h
theorem TX.blockNormal {id : Nat} (h : TX w0 K N dfs Q .normal σ L) : TX w0 K N dfs (Exit.inBlock id Q) .normal σ L := h
theorem TX.blockRet {id : Nat} (h : TX w0 K N dfs Q .ret σ L) : TX w0 K N dfs (Exit.inBlock id Q) .ret σ L := h
theorem TX.blockGoto {id l : Nat} (h : TX w0 K N dfs Q (.goto l) σ L) : TX w0 K N dfs (Exit.inBlock id Q) (.goto l) σ L := h
theorem TX.blockHere {id : Nat} (h : TX w0 K N dfs Q .normal σ L) : TX w0 K N dfs (Exit.inBlock id Q) (.exit id) σ L := fun a w ha hw => by
  show (if id = id then Q .normal a w else Q (.exit id) a w); rw [if_pos rfl]; exact h a w ha hw
theorem TX.blockOn {id id' : Nat} (hne : id' ≠ id) (h : TX w0 K N dfs Q (.exit id') σ L) : TX w0 K N dfs (Exit.inBlock id Q) (.exit id') σ L := fun a w ha hw => by
  show (if id' = id then Q .normal a w else Q (.exit id') a w); rw [if_neg hne]; exact h a w ha hw

theorem wpIn_loop_ghost (I : Nat → Act → World → Prop) (m : Nat) {a : Act} {w : World} (h₀ : I m a w)
    (round : ∀ m a w, I m a w → c.wpIn F 0 P (Exit.then (fun a' w' => ∃ m' < m, I m' a' w') Q) a w) : (Code.loop c).wpIn F 0 P Q a w := by
  refine wpIn_loop (fun a w => ∃ m, I m a w) (fun a w => leastOf (fun m => I m a w)) ⟨m, h₀⟩ fun a w hI => ?_
  obtain ⟨h1, h2⟩ := leastOf_spec hI
  refine wpIn_mono (round _ a w h1) fun e a' w' hq => ?_
  cases e with
  | normal =>
    obtain ⟨m', hlt, h3⟩ := hq
    exact ⟨⟨m', h3⟩, Nat.lt_of_le_of_lt ((leastOf_spec ⟨m', h3⟩).2 m' h3) hlt⟩
  | _ => exact hq
/-- A loop: what holds at each round's head, for some b; a measure on b. -/
theorem TC.loop {β : Type} (I : β → Prop) (σf : β → List (Nat × Value)) (Lf : β → List Asn) (μ : β → Nat) (b0 : β) (hI : I b0) (hσ : Sbs σ (σf b0)) (hL : Splits L (Lf b0) R)
    (round : ∀ b, I b → TC F P w0 K N dfs (Exit.then (LoopQ w0 K N I (fun _ => dfs) σf Lf μ b) Q) c (σf b) (Lf b)) : TC F P w0 K N dfs Q (.loop c) σ L := fun a w ha hw => by
  refine wpIn_loop_ghost (fun m a w => ∃ b, I b ∧ μ b = m ∧ St w0 K N dfs (σf b) (Lf b) a w) (μ b0) ⟨b0, hI, rfl, hσ _ _ _ ha, hw.weaken hL⟩ ?_
  rintro m a w ⟨b, hb, rfl, h1, h2⟩
  refine wpIn_mono (round b hb a w h1 h2) fun e a' w' hq => ?_
  cases e with
  | normal => obtain ⟨b', h3, h4, h5⟩ := hq; exact ⟨μ b', h4, b', h3, rfl, h5⟩
  | _ => exact hq
theorem TX.again {β : Type} {I : β → Prop} {σf : β → List (Nat × Value)} {Lf : β → List Asn} {μ : β → Nat} {b : β} (b' : β) (hI : I b') (hμ : μ b' < μ b) (hσ : Sbs σ (σf b')) (hL : Splits L (Lf b') R) :
    TX w0 K N dfs (Exit.then (LoopQ w0 K N I (fun _ => dfs) σf Lf μ b) Q) .normal σ L := fun a w ha hw => ⟨b', hI, hμ, hσ _ _ _ ha, hw.weaken hL⟩

/-- The same, the marks among what changes. -/
theorem TC.loopD {β : Type} (I : β → Prop) (df : β → List Deferred) (σf : β → List (Nat × Value)) (Lf : β → List Asn) (μ : β → Nat) (b0 : β) (hI : I b0) (hd : dfs = df b0) (hσ : Sbs σ (σf b0)) (hL : Splits L (Lf b0) R)
    (round : ∀ b, I b → TC F P w0 K N (df b) (Exit.then (LoopQ w0 K N I df σf Lf μ b) Q) c (σf b) (Lf b)) : TC F P w0 K N dfs Q (.loop c) σ L := fun a w ha hw => by
  subst hd
  refine wpIn_loop_ghost (fun m a w => ∃ b, I b ∧ μ b = m ∧ St w0 K N (df b) (σf b) (Lf b) a w) (μ b0) ⟨b0, hI, rfl, hσ _ _ _ ha, hw.weaken hL⟩ ?_
  rintro m a w ⟨b, hb, rfl, h1, h2⟩
  refine wpIn_mono (round b hb a w h1 h2) fun e a' w' hq => ?_
  cases e with
  | normal => obtain ⟨b', h3, h4, h5⟩ := hq; exact ⟨μ b', h4, b', h3, rfl, h5⟩
  | _ => exact hq
theorem TX.againD {β : Type} {I : β → Prop} {df : β → List Deferred} {σf : β → List (Nat × Value)} {Lf : β → List Asn} {μ : β → Nat} {b : β} (b' : β) (hI : I b') (hμ : μ b' < μ b) (hd : dfs = df b') (hσ : Sbs σ (σf b')) (hL : Splits L (Lf b') R) :
    TX w0 K N dfs (Exit.then (LoopQ w0 K N I df σf Lf μ b) Q) .normal σ L := fun a w ha hw => by
  subst hd
  exact ⟨b', hI, hμ, hσ _ _ _ ha, hw.weaken hL⟩

theorem TX.rewE {e : Exit} {A' : Asn} (hk : L[k]? = some A) (he : A = A') (h : TX w0 K N dfs Q e σ (L.set k A')) : TX w0 K N dfs Q e σ L := fun a w ha hw => h a w ha (hw.rewE hk he)
theorem TC.rewE {A' : Asn} (hk : L[k]? = some A) (he : A = A') (h : TC F P w0 K N dfs Q c σ (L.set k A')) : TC F P w0 K N dfs Q c σ L := fun a w ha hw => h a w ha (hw.rewE hk he)
theorem TO.rewE {A' : Asn} (hk : L[k]? = some A) (he : A = A') (h : TO F P w0 K N dfs ops Q rest σ (L.set k A')) : TO F P w0 K N dfs ops Q rest σ L := fun a w ha hw => h a w ha (hw.rewE hk he)
theorem TX.starCons {e : Exit} {j : Nat} {X : List Asn} (hk : L[k]? = some A) (hj : L[j]? = some (star X)) (hne : k ≠ j) (h : TX w0 K N dfs Q e σ ((L.set k emp).set j (star (A :: X)))) : TX w0 K N dfs Q e σ L := fun a w ha hw => h a w ha (hw.starCons hk hj hne)
theorem TC.star0 (h : TC F P w0 K N dfs Q c σ (L ++ [star []])) : TC F P w0 K N dfs Q c σ L := fun a w ha hw => h a w ha hw.star0

/-! ### Read-only blocks -/
theorem TO.loadRo [WideF F] {b j i : Nat} {l : List Value} {e : TypeId} {fz : Nat × Nat} (hr : Ro w0 K RO) (hT : ScalarOk P t) (hg : gd ops σ g = some true) (hd : d < N) (hx : ev σ x = some (.pointer (some ⟨b, j, none⟩)))
    (hi : RO[i]? = some (b, .cells l.toArray e fz)) (hj : l[j]? = some v)
    (h : TO F P w0 K N dfs ops Q rest ((d, v) :: σ) L) : TO F P w0 K N dfs ops Q (⟨some d, .load t x, ty, pos, aft, g⟩ :: rest) σ L := by
  obtain ⟨dd, hu, hrow⟩ := hT
  exact TO.val hg hd (by simp) (fun a w ha hw => by
    have hc : w.cell? ⟨b, j, none⟩ = some v := cell_at (hw.ro hr hi) (by simpa using hj)
    cases dd <;> simp_all [execOp, ha.ev hx, Instr.loadAt, Instr.sureAddr, loadVar, isAgg, Sem.run_bind, run_underlying hu]) h

/-! ### Calls -/
/-- The contract of a function: it takes the blocks As, gives V x and the blocks Bs x, for some x. -/
def Fn (P : Program) (f : FuncId) (vs : List Value) (As : List Asn) {β : Type} (V : β → Value) (Bs : β → List Asn) : Prop :=
  ∀ w C, sepL As C w → Calls P f vs.toArray w fun e w' => ∃ x : β, e = .returned (V x) ∧ ∃ C', sepL (Bs x) C' w' ∧ Ext C C' w w'
/-- A function that makes memory at the most. -/
def FnP (P : Program) (f : FuncId) (vs : List Value) (v : Value) : Prop := ∀ w, Calls P f vs.toArray w fun e w' => e = .returned v ∧ Below w.heap.size w w'
theorem FnP.of_same {f : FuncId} {vs : List Value} {v : Value} (h : ∀ w, Calls P f vs.toArray w fun e w' => e = .returned v ∧ w = w') : FnP P f vs v := fun w => (h w).mono fun e w' ⟨h1, h2⟩ => ⟨h1, h2 ▸ Below.refl _ _⟩
theorem FnP.fn {f : FuncId} {vs : List Value} {v : Value} (h : FnP P f vs v) : Fn P f vs [] (fun _ : Unit => v) (fun _ => []) := fun w C hC =>
  (h w).mono fun e w' ⟨h1, h2⟩ => ⟨(), h1, C, hC, Ext.ofBelow h2⟩
theorem Fn.p {f : FuncId} {vs : List Value} {v : Value} (h : Fn P f vs [] (fun _ : Unit => v) (fun _ => [])) : FnP P f vs v := fun w =>
  (h w (fun _ => False) (fun _ h => h)).mono fun e w' ⟨_, h1, C', h2, h3⟩ => ⟨h1, h3.toBelow (Nat.le_refl _) (fun _ _ h => h)⟩
theorem TO.callAny [WideF F] {xs : List Operand} {ats : Array TypeId} {f : FuncId} {first cap : Array Value} {vs vs' : List Value} {β : Type} {V : β → Value} {Bs : β → List Asn} {dst : Option Nat}
    (hg : gd ops σ g = some true) (hx : ev σ x = some (.func (.func f) first cap)) (hxs : evL σ xs = some vs) (hv : first.toList ++ vs ++ cap.toList = vs')
    (hent : ∀ args w, (callFunc f args).run P w = .ok (.enter f args) w) (hF : Fn P f vs' As V Bs) (hs : Splits L As R)
    (h : ∀ b a w a', a' = a.put dst (V b) → At N dfs σ a → Holds w0 K (R ++ Bs b) w → wpListIn F 0 P ops Q rest a' w) :
    TO F P w0 K N dfs ops Q (⟨dst, .call { callee := .value x, args := xs.toArray, argTypes := ats }, ty, pos, aft, g⟩ :: rest) σ L := by
  intro a w ha hw
  simp only [wpListIn, gd_wanted (o := ⟨dst, .call { callee := .value x, args := xs.toArray, argTypes := ats }, ty, pos, aft, g⟩) ha hg, if_true]
  refine ⟨fun f _ => WideF.fn f, ?_⟩
  have h1 : (execOp a.eval ⟨dst, .call { callee := .value x, args := xs.toArray, argTypes := ats }, ty, pos, aft, g⟩).run P w = .ok (.enter f vs'.toArray) w := by
    have e : first ++ vs.toArray ++ cap = vs'.toArray := by rw [← hv]; simp
    simp only [execOp, resolve, List.map_toArray, ha.evL hxs, ha.ev hx, Deferred.ofValue, Sem.run_bind, Sem.run_pure, Result.andThen_ok, invoke, e, hent]
  rw [Oper.semAt_plain F _ _ (by simp), h1]
  refine ⟨(fun h => by rw [WideF.depth (F := F)] at h; cases h), ?_⟩
  obtain ⟨C1, hA, hstep⟩ := hw.split hs
  refine WideF.calls ((hF w C1 hA).mono ?_)
  rintro e w' ⟨b, rfl, C', hB, hx'⟩
  exact h b a w' _ rfl ha (hstep _ _ _ hx' hB)
theorem TO.call [WideF F] {xs : List Operand} {ats : Array TypeId} {f : FuncId} {first cap : Array Value} {vs vs' : List Value} {β : Type} {V : β → Value} {Bs : β → List Asn}
    (hg : gd ops σ g = some true) (hd : d < N) (hx : ev σ x = some (.func (.func f) first cap)) (hxs : evL σ xs = some vs) (hv : first.toList ++ vs ++ cap.toList = vs')
    (hent : ∀ args w, (callFunc f args).run P w = .ok (.enter f args) w) (hF : Fn P f vs' As V Bs) (hs : Splits L As R)
    (h : ∀ b, TO F P w0 K N dfs ops Q rest ((d, V b) :: σ) (R ++ Bs b)) :
    TO F P w0 K N dfs ops Q (⟨some d, .call { callee := .value x, args := xs.toArray, argTypes := ats }, ty, pos, aft, g⟩ :: rest) σ L :=
  TO.callAny hg hx hxs hv hent hF hs fun b a w a' ha' ha hw => by subst ha'; exact h b _ _ (ha.put hd _) hw
theorem TO.call0 [WideF F] {xs : List Operand} {ats : Array TypeId} {f : FuncId} {first cap : Array Value} {vs vs' : List Value} {β : Type} {V : β → Value} {Bs : β → List Asn}
    (hg : gd ops σ g = some true) (hx : ev σ x = some (.func (.func f) first cap)) (hxs : evL σ xs = some vs) (hv : first.toList ++ vs ++ cap.toList = vs')
    (hent : ∀ args w, (callFunc f args).run P w = .ok (.enter f args) w) (hF : Fn P f vs' As V Bs) (hs : Splits L As R)
    (h : ∀ b, TO F P w0 K N dfs ops Q rest σ (R ++ Bs b)) :
    TO F P w0 K N dfs ops Q (⟨none, .call { callee := .value x, args := xs.toArray, argTypes := ats }, ty, pos, aft, g⟩ :: rest) σ L :=
  TO.callAny hg hx hxs hv hent hF hs fun b a w a' ha' ha hw => by subst ha'; exact h b _ _ ha hw
theorem TO.callP [WideF F] {xs : List Operand} {ats : Array TypeId} {f : FuncId} {first cap : Array Value} {vs vs' : List Value}
    (hg : gd ops σ g = some true) (hd : d < N) (hx : ev σ x = some (.func (.func f) first cap)) (hxs : evL σ xs = some vs) (hv : first.toList ++ vs ++ cap.toList = vs')
    (hent : ∀ args w, (callFunc f args).run P w = .ok (.enter f args) w) (hF : FnP P f vs' v) (h : TO F P w0 K N dfs ops Q rest ((d, v) :: σ) L) :
    TO F P w0 K N dfs ops Q (⟨some d, .call { callee := .value x, args := xs.toArray, argTypes := ats }, ty, pos, aft, g⟩ :: rest) σ L :=
  TO.callAny hg hx hxs hv hent hF.fn Splits.nil fun b a w a' ha' ha hw => by
    subst ha'
    rw [List.append_nil] at hw
    exact h _ _ (ha.put hd _) hw

/-! ### Yield -/
/-- The consumer of an iterator, I pre behind pre; X pre: it has told to stop at pre's last. -/
def YC (P : Program) (l : Nat) {α : Type} (enc : α → List Value) (xs : List α) (I X : List α → Asn) (w0 : World) (K : Nat → Prop) : Prop :=
  ∀ pre x post C W1, xs = pre ++ x :: post → Ext K C w0 W1 → (I pre).P C W1 →
    YAt P l (enc x).toArray W1 fun b W2 => ∃ C', Ext C C' W1 W2 ∧ ((b = true ∧ (I (pre ++ [x])).P C' W2) ∨ (b = false ∧ (X (pre ++ [x])).P C' W2))
theorem YC.later {l : Nat} {α : Type} {enc : α → List Value} {xs : List α} {I X : List α → Asn} {w1 : World} {K1 : Nat → Prop} (h : YC P l enc xs I X w0 K) (hx : Ext K K1 w0 w1) : YC P l enc xs I X w1 K1 :=
  fun pre x post C W1 hxs he hi => h pre x post C W1 hxs (hx.trans he) hi
theorem Holds.focus' {w : World} (h : Holds w0 K L w) (hk : L[k]? = some A) : ∃ C1, Ext K C1 w0 w ∧ A.P C1 w ∧ ∀ B C1' w', Ext C1 C1' w w' → B.P C1' w' → Holds w0 K (L.set k B) w' := by
  obtain ⟨C1, h1, h2⟩ := h.focus hk
  have h' := h
  obtain ⟨C, hL, hx⟩ := h'
  obtain ⟨D1, D2, g1, g2, g3, g4⟩ := sepL.take hk hL
  refine ⟨D1, ⟨hx.1, fun j hj => hx.2 j ((g4 j).2 (.inl hj))⟩, g1, ?_⟩
  intro B C1' w' he hB
  have hlen : k < L.length := (List.getElem?_eq_some_iff.1 hk).1
  have hsz := he.1.size
  have h2' : sepL (L.set k emp) D2 w' := g2.loc hsz (fun k hk => he.1.keep k (g2.lt k hk) (fun h => g3 k h hk))
  have hd : ∀ k, C1' k → ¬ D2 k := fun k h' hk => by
    rcases he.2 k h' with h | h
    · exact g3 k h hk
    · have := g2.lt k hk; omega
  refine ⟨_, sepL.put hlen hB h2' hd (fun k => Iff.rfl), hx.1.trans' he.1 (fun i hi hc => ?_), fun k hk => ?_⟩
  · rcases hx.2 i ((g4 i).2 (.inl hc)) with h | h
    · exact h
    · omega
  · have := hx.1.size
    rcases hk with hk | hk
    · rcases he.2 k hk with h | h
      · rcases hx.2 k ((g4 k).2 (.inl h)) with h | h
        · exact .inl h
        · exact .inr (by omega)
      · exact .inr (by omega)
    · rcases hx.2 k ((g4 k).2 (.inr hk)) with h | h
      · exact .inl h
      · exact .inr (by omega)
theorem TO.yieldAny [WideF F] {xs : List Operand} {ats : Array TypeId} {l : Nat} {α : Type} {enc : α → List Value} {zs : List α} {I X : List α → Asn} {dst : Option Nat} (hy : YC P l enc zs I X w0 K)
    (hg : gd ops σ g = some true) (hx : ev σ x = some (.func (.yield l) #[] #[])) {pre : List α} {e : α} {post : List α} (hz : zs = pre ++ e :: post) (hxs : evL σ xs = some (enc e))
    (hk : L[k]? = some (I pre))
    (ht : ∀ a w a', a' = a.put dst (.bool true) → At N dfs σ a → Holds w0 K (L.set k (I (pre ++ [e]))) w → wpListIn F 0 P ops Q rest a' w)
    (hf : ∀ a w a', a' = a.put dst (.bool false) → At N dfs σ a → Holds w0 K (L.set k (X (pre ++ [e]))) w → wpListIn F 0 P ops Q rest a' w) :
    TO F P w0 K N dfs ops Q (⟨dst, .call { callee := .value x, args := xs.toArray, argTypes := ats }, ty, pos, aft, g⟩ :: rest) σ L := by
  intro a w ha hw
  simp only [wpListIn, gd_wanted (o := ⟨dst, .call { callee := .value x, args := xs.toArray, argTypes := ats }, ty, pos, aft, g⟩) ha hg, if_true]
  refine ⟨fun f _ => WideF.fn f, ?_⟩
  obtain ⟨C1, hext, hi, hstep⟩ := hw.focus' hk
  obtain ⟨fn, tmps, assign, body, hrun, hround⟩ := hy pre e post C1 w hz hext hi
  have h1 : (execOp a.eval ⟨dst, .call { callee := .value x, args := xs.toArray, argTypes := ats }, ty, pos, aft, g⟩).run P w = .ok (.round l fn tmps assign body) w := by
    simp only [execOp, resolve, List.map_toArray, ha.evL hxs, ha.ev hx, Deferred.ofValue, Sem.run_bind, Sem.run_pure, Result.andThen_ok, invoke, Array.empty_append, hrun]
  rw [Oper.semAt_plain F _ _ (by simp), h1]
  refine ⟨(fun h => by rw [WideF.depth (F := F)] at h; cases h), ?_⟩
  have hr : RoundIn F 0 P l fn tmps assign body w _ := WideF.rounds hround
  refine hr.mono ?_
  rintro e' w' ⟨b, rfl, C', hx', h | h⟩
  · obtain ⟨rfl, h⟩ := h
    exact ht a w' _ rfl ha (hstep _ _ _ hx' h)
  · obtain ⟨rfl, h⟩ := h
    exact hf a w' _ rfl ha (hstep _ _ _ hx' h)
theorem TO.yield [WideF F] {xs : List Operand} {ats : Array TypeId} {l : Nat} {α : Type} {enc : α → List Value} {zs : List α} {I X : List α → Asn} (hy : YC P l enc zs I X w0 K)
    (hg : gd ops σ g = some true) (hd : d < N) (hx : ev σ x = some (.func (.yield l) #[] #[])) {pre : List α} {e : α} {post : List α} (hz : zs = pre ++ e :: post) (hxs : evL σ xs = some (enc e))
    (hk : L[k]? = some (I pre)) (ht : TO F P w0 K N dfs ops Q rest ((d, .bool true) :: σ) (L.set k (I (pre ++ [e])))) (hf : TO F P w0 K N dfs ops Q rest ((d, .bool false) :: σ) (L.set k (X (pre ++ [e])))) :
    TO F P w0 K N dfs ops Q (⟨some d, .call { callee := .value x, args := xs.toArray, argTypes := ats }, ty, pos, aft, g⟩ :: rest) σ L :=
  TO.yieldAny hy hg hx hz hxs hk (fun a w a' ha' ha hw => by subst ha'; exact ht _ _ (ha.put hd _) hw) (fun a w a' ha' ha hw => by subst ha'; exact hf _ _ (ha.put hd _) hw)
end
end Go.Proofs.Ytekjfmjeemjcjaa
