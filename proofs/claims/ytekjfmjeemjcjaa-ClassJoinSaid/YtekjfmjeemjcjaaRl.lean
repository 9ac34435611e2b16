/-
  A logic of triples over symbolic slots and owned blocks: the rules for operations and statements. No program is named here. Nothing is assumed.
-/
import Derived.Test.YtekjfmjeemjcjaaSl
import Derived.Deep.MidRow
import Derived.IntWalk
namespace Go.Proofs.Ytekjfmjeemjcjaa
open Go.RowKit Go.Lib
set_option linter.unusedVariables false
set_option linter.unusedSimpArgs false

def TO (F : Fence) (P : Program) (w0 : World) (K : Nat → Prop) (N : Nat) (dfs : List Deferred) (ops : Array Oper) (Q : Exit → Act → World → Prop) (rest : List Oper) (σ : List (Nat × Value)) (L : List Asn) : Prop :=
  ∀ a w, At N dfs σ a → Holds w0 K L w → wpListIn F 0 P ops Q rest a w
def TC (F : Fence) (P : Program) (w0 : World) (K : Nat → Prop) (N : Nat) (dfs : List Deferred) (Q : Exit → Act → World → Prop) (c : Code) (σ : List (Nat × Value)) (L : List Asn) : Prop :=
  ∀ a w, At N dfs σ a → Holds w0 K L w → c.wpIn F 0 P Q a w
/-- At an exit. -/
def TX (w0 : World) (K : Nat → Prop) (N : Nat) (dfs : List Deferred) (Q : Exit → Act → World → Prop) (e : Exit) (σ : List (Nat × Value)) (L : List Asn) : Prop :=
  ∀ a w, At N dfs σ a → Holds w0 K L w → Q e a w
/-- The state σ, L as a predicate. -/
def St (w0 : World) (K : Nat → Prop) (N : Nat) (dfs : List Deferred) (σ : List (Nat × Value)) (L : List Asn) (a : Act) (w : World) : Prop := At N dfs σ a ∧ Holds w0 K L w

def gd (ops : Array Oper) (σ : List (Nat × Value)) : Option (Nat × Bool) → Option Bool
  | none => some true
  | some (j, b) => match (ops[j]?).bind (·.dst) with
    | some t => match σ.lookup t with
      | some (.bool c) => some (c == b)
      | some (.tuple _) => some false
      | _ => none
    | none => none

/-- What the table of types says of a type. -/
def ScalarOk (P : Program) (t : TypeId) : Prop := ∃ d, P.underlying t = some d ∧ d.isRow = false
def RowOk (P : Program) (t : TypeId) (n : Nat) : Prop := ∃ d, P.underlying t = some d ∧ d.isRow = true ∧ (P.info? t).map (·.size) = some n
def SizeOk (P : Program) (t : TypeId) (n : Nat) : Prop := (P.info? t).map (·.size) = some n
def ZeroOk (P : Program) (t : TypeId) (cs : List Value) : Prop := (P.info? t).bind (fun i => i.zero.map (·.cells.toList)) = some cs
def FieldOk (P : Program) (t : TypeId) (f off : Nat) : Prop := ∃ fs fd, P.underlying t = some (.struct fs) ∧ fs[f]? = some fd ∧ fd.offset = off ∧ (P.info? fd.type).map (fun i => i.size != 0) = some true
theorem SizeOk.some {P : Program} {t : TypeId} {n : Nat} (h : SizeOk P t n) : ∃ i, P.info? t = some i ∧ i.size = n := by
  unfold SizeOk at h; cases hi : P.info? t with
  | none => simp [hi] at h
  | some i => exact ⟨i, rfl, by simpa [hi] using h⟩
theorem ZeroOk.some {P : Program} {t : TypeId} {cs : List Value} (h : ZeroOk P t cs) : ∃ i z, P.info? t = some i ∧ i.zero = some z ∧ z.cells.toList = cs := by
  unfold ZeroOk at h; cases hi : P.info? t with
  | none => simp [hi] at h
  | some i =>
    cases hz : i.zero with
    | none => simp [hi, hz] at h
    | some z => exact ⟨i, z, rfl, hz, by simpa [hi, hz] using h⟩

section
variable {F : Fence} {P : Program} {w0 : World} {K : Nat → Prop} {N : Nat} {dfs : List Deferred} {ops : Array Oper} {Q : Exit → Act → World → Prop} {rest : List Oper} {σ σ' : List (Nat × Value)} {L L' R As Bs : List Asn} {o : Oper} {v : Value}
  {d : Nat} {t : TypeId} {op : Op} {ty : TypeId} {pos : String} {aft : Array Edge} {g : Option (Nat × Bool)} {x y z : Operand} {c c1 c2 : Code} {k : Nat} {A B : Asn}

theorem getD_some {a : Act} {N : Nat} (hs : a.tmps.size = N) {t : Nat} {b : Bool} (h : a.tmps.getD t undef = .bool b) : a.tmps[t]? = some (.bool b) := by
  unfold Array.getD at h
  split at h
  · rename_i hl
    have h' : a.tmps[t] = .bool b := h
    simp [hl, h']
  · simp [undef] at h
theorem gd_wanted {a : Act} (ha : At N dfs σ a) (hg : gd ops σ o.guard = some true) : Region.wanted o (yielded ops a.tmps) = true := by
  unfold gd at hg
  unfold Region.wanted
  split at hg
  · rename_i e; rw [e]
  · rename_i j b e
    rw [e]
    split at hg
    · rename_i t ht
      split at hg
      · rename_i c hc
        simp only [Option.some.injEq] at hg
        have hcb : c = b := by simpa using hg
        subst hcb
        have h1 := getD_some ha.1 (ha.2.2 _ _ hc)
        simp [yielded, ht, h1]
      · cases hg
      · cases hg
    · cases hg
theorem getD_tuple {a : Act} {t : Nat} {vs : Array Value} (h : a.tmps.getD t undef = .tuple vs) : ∀ b, a.tmps[t]? ≠ some (.bool b) := by
  intro b hb
  rw [Array.getD_eq_getD_getElem?, hb] at h
  cases h
theorem gd_skip {a : Act} (ha : At N dfs σ a) (hg : gd ops σ o.guard = some false) : Region.wanted o (yielded ops a.tmps) = false := by
  unfold gd at hg
  unfold Region.wanted
  split at hg
  · cases hg
  · rename_i j b e
    rw [e]
    split at hg
    · rename_i t ht
      split at hg
      · rename_i c hc
        simp only [Option.some.injEq] at hg
        have h1 := getD_some ha.1 (ha.2.2 _ _ hc)
        simp [yielded, ht, h1]
        simpa using hg
      · rename_i vs hc
        have h1 := getD_tuple (ha.2.2 _ _ hc)
        have h2 : yielded ops a.tmps j = none := by
          unfold yielded
          rw [ht]
          show (match a.tmps[t]? with | some (.bool b) => some b | _ => none) = none
          split
          · rename_i b h3; exact absurd h3 (h1 b)
          · rfl
        simp [h2]
      · cases hg
    · cases hg
/-- An operation that gives a value. -/
theorem TO.step [WideF F] (hg : gd ops σ o.guard = some true) (hnd : ∀ c, o.op ≠ .defer c)
    (h : ∀ a w, At N dfs σ a → Holds w0 K L w → ∃ v w', (execOp a.eval o).run P w = .ok (.value v) w' ∧ wpListIn F 0 P ops Q rest (a.put o.dst v) w') : TO F P w0 K N dfs ops Q (o :: rest) σ L := by
  intro a w ha hw
  obtain ⟨v, w', h1, h2⟩ := h a w ha hw
  simp only [wpListIn, gd_wanted ha hg, if_true]
  refine ⟨fun f _ => WideF.fn f, ?_⟩
  rw [Oper.semAt_plain F _ _ hnd, h1]
  exact h2
theorem TO.stepSkip [WideF F] (hg : gd ops σ o.guard = some true) (hnd : ∀ c, o.op ≠ .defer c)
    (h : ∀ a w, At N dfs σ a → Holds w0 K L w → ∃ w', (execOp a.eval o).run P w = .ok .skip w' ∧ wpListIn F 0 P ops Q rest (a.put o.dst undef) w') : TO F P w0 K N dfs ops Q (o :: rest) σ L := by
  intro a w ha hw
  obtain ⟨w', h1, h2⟩ := h a w ha hw
  simp only [wpListIn, gd_wanted ha hg, if_true]
  refine ⟨fun f _ => WideF.fn f, ?_⟩
  rw [Oper.semAt_plain F _ _ hnd, h1]
  exact h2
/-- An operation that gives a value and leaves the world alone. -/
theorem TO.val [WideF F] (hg : gd ops σ g = some true) (hd : d < N) (hnd : ∀ c, op ≠ .defer c)
    (hr : ∀ a w, At N dfs σ a → Holds w0 K L w → (execOp a.eval ⟨some d, op, ty, pos, aft, g⟩).run P w = .ok (.value v) w)
    (h : TO F P w0 K N dfs ops Q rest ((d, v) :: σ) L) : TO F P w0 K N dfs ops Q (⟨some d, op, ty, pos, aft, g⟩ :: rest) σ L :=
  TO.step hg hnd fun a w ha hw => ⟨v, w, hr a w ha hw, h _ _ (ha.put hd v) hw⟩
theorem TO.skip [WideF F] (hg : gd ops σ g = some false) (hd : d < N) (h : TO F P w0 K N dfs ops Q rest ((d, undef) :: σ) L) : TO F P w0 K N dfs ops Q (⟨some d, op, ty, pos, aft, g⟩ :: rest) σ L := by
  intro a w ha hw
  simp only [wpListIn, gd_skip (o := ⟨some d, op, ty, pos, aft, g⟩) ha hg]
  exact ⟨fun f _ => WideF.fn f, h _ _ (ha.put hd undef) hw⟩
theorem TO.skip0 [WideF F] (hg : gd ops σ g = some false) (h : TO F P w0 K N dfs ops Q rest σ L) : TO F P w0 K N dfs ops Q (⟨none, op, ty, pos, aft, g⟩ :: rest) σ L := by
  intro a w ha hw
  simp only [wpListIn, gd_skip (o := ⟨none, op, ty, pos, aft, g⟩) ha hg]
  exact ⟨fun f _ => WideF.fn f, h _ _ ha hw⟩
theorem TO.nil (h : TX w0 K N dfs Q .normal σ L) : TO F P w0 K N dfs ops Q [] σ L := fun a w ha hw => h a w ha hw
theorem TO.sub (hs : Sbs σ σ') (h : TO F P w0 K N dfs ops Q rest σ' L) : TO F P w0 K N dfs ops Q rest σ L := fun a w ha hw => h a w (hs _ _ _ ha) hw
theorem TC.sub (hs : Sbs σ σ') (h : TC F P w0 K N dfs Q c σ' L) : TC F P w0 K N dfs Q c σ L := fun a w ha hw => h a w (hs _ _ _ ha) hw
theorem TC.heap (hs : Splits L L' R) (h : TC F P w0 K N dfs Q c σ L') : TC F P w0 K N dfs Q c σ L := fun a w ha hw => h a w ha (hw.weaken hs)
theorem TO.ent (hk : L[k]? = some A) (he : Ent A B) (h : TO F P w0 K N dfs ops Q rest σ (L.set k B)) : TO F P w0 K N dfs ops Q rest σ L := fun a w ha hw => h a w ha (hw.ent hk he)
theorem TC.ent (hk : L[k]? = some A) (he : Ent A B) (h : TC F P w0 K N dfs Q c σ (L.set k B)) : TC F P w0 K N dfs Q c σ L := fun a w ha hw => h a w ha (hw.ent hk he)

/-! ### Values -/
theorem TO.move [WideF F] (hg : gd ops σ g = some true) (hd : d < N) (hx : ev σ x = some v) (h : TO F P w0 K N dfs ops Q rest ((d, v) :: σ) L) : TO F P w0 K N dfs ops Q (⟨some d, .move x, ty, pos, aft, g⟩ :: rest) σ L :=
  TO.val hg hd (by simp) (fun a w ha hw => by simp [execOp, ha.ev hx]) h
theorem TO.assign [WideF F] (hg : gd ops σ g = some true) (hd : d < N) (hx : ev σ x = some v) (h : TO F P w0 K N dfs ops Q rest ((d, v) :: σ) L) : TO F P w0 K N dfs ops Q (⟨some d, .assign x, ty, pos, aft, g⟩ :: rest) σ L :=
  TO.val hg hd (by simp) (fun a w ha hw => by simp [execOp, ha.ev hx]) h
theorem TO.pick [WideF F] {b : Bool} (hg : gd ops σ g = some true) (hd : d < N) (hc : ev σ x = some (.bool b)) (hv : ev σ (if b then y else z) = some v) (h : TO F P w0 K N dfs ops Q rest ((d, v) :: σ) L) :
    TO F P w0 K N dfs ops Q (⟨some d, .pick x y z, ty, pos, aft, g⟩ :: rest) σ L :=
  TO.val hg hd (by simp) (fun a w ha hw => by
    have h1 := ha.ev hc
    have h2 := ha.ev hv
    cases b <;> simp_all [execOp, asBool]) h
theorem TO.bin [WideF F] {b : BinOp} {yt : TypeId} {v1 v2 : Value} (hg : gd ops σ g = some true) (hd : d < N) (hx : ev σ x = some v1) (hy : ev σ y = some v2)
    (hb : ∀ w : World, (do eqGuard b t x y v1 v2; binOp b t v1 v2 : Sem Value).run P w = .ok v w) (h : TO F P w0 K N dfs ops Q rest ((d, v) :: σ) L) :
    TO F P w0 K N dfs ops Q (⟨some d, .binOp b t x y yt, ty, pos, aft, g⟩ :: rest) σ L :=
  TO.val hg hd (by simp) (fun a w ha hw => by
    have := hb w
    simp only [execOp, ha.ev hx, ha.ev hy, Sem.run_bind] at this ⊢
    rw [this]; rfl) h
theorem TO.un [WideF F] {b : UnOp} {v1 : Value} (hg : gd ops σ g = some true) (hd : d < N) (hx : ev σ x = some v1)
    (hb : ∀ w : World, (Op.unary b v1).run P w = .ok v w) (h : TO F P w0 K N dfs ops Q rest ((d, v) :: σ) L) :
    TO F P w0 K N dfs ops Q (⟨some d, .unOp b t x, ty, pos, aft, g⟩ :: rest) σ L :=
  TO.val hg hd (by simp) (fun a w ha hw => by
    simp only [execOp, ha.ev hx, Sem.run_bind, hb w]; rfl) h
theorem TO.conv [WideF F] {s : TypeId} {v1 : Value} (hg : gd ops σ g = some true) (hd : d < N) (hx : ev σ x = some v1)
    (hb : ∀ w : World, (convert s t v1).run P w = .ok v w) (h : TO F P w0 K N dfs ops Q rest ((d, v) :: σ) L) :
    TO F P w0 K N dfs ops Q (⟨some d, .convert s t x, ty, pos, aft, g⟩ :: rest) σ L :=
  TO.val hg hd (by simp) (fun a w ha hw => by
    simp only [execOp, ha.ev hx, Sem.run_bind, hb w]; rfl) h
theorem TO.fieldAddr [WideF F] {b off off' : Nat} {f fo : Nat} (hf : FieldOk P t f fo) (hg : gd ops σ g = some true) (hd : d < N) (hx : ev σ x = some (.pointer (some ⟨b, off, none⟩))) (ho : off + fo = off')
    (h : TO F P w0 K N dfs ops Q rest ((d, .pointer (some ⟨b, off', none⟩)) :: σ) L) :
    TO F P w0 K N dfs ops Q (⟨some d, .fieldAddr t x f, ty, pos, aft, g⟩ :: rest) σ L := by
  subst ho
  obtain ⟨fs, fd, hu, hf, rfl, hz⟩ := hf
  obtain ⟨i, hi, hz⟩ : ∃ i, P.info? fd.type = some i ∧ i.size ≠ 0 := by
    cases hi : P.info? fd.type with
    | none => simp [hi] at hz
    | some i => exact ⟨i, rfl, by simpa [hi] using hz⟩
  refine TO.val hg hd (by simp) (fun a w ha hw => ?_) h
  simp [execOp, ha.ev hx, Instr.fieldAt, Sem.run_bind, run_underlying hu, hf, Instr.sureAddr, fieldPlace, sizeOf, typeInfo, hi, hz, Addr.add_mid]
theorem TO.field [WideF F] {f : Nat} {v1 : Value} (hg : gd ops σ g = some true) (hd : d < N) (hx : ev σ x = some v1)
    (hb : ∀ w : World, (Instr.field t v1 f).run P w = .ok v w) (h : TO F P w0 K N dfs ops Q rest ((d, v) :: σ) L) :
    TO F P w0 K N dfs ops Q (⟨some d, .field t x f, ty, pos, aft, g⟩ :: rest) σ L :=
  TO.val hg hd (by simp) (fun a w ha hw => by simp only [execOp, ha.ev hx, Sem.run_bind, hb w]; rfl) h
theorem TO.extract [WideF F] {f : Nat} {vs : Array Value} (hg : gd ops σ g = some true) (hd : d < N) (hx : ev σ x = some (.tuple vs)) (hv : vs[f]? = some v) (h : TO F P w0 K N dfs ops Q rest ((d, v) :: σ) L) :
    TO F P w0 K N dfs ops Q (⟨some d, .extract x f, ty, pos, aft, g⟩ :: rest) σ L :=
  TO.val hg hd (by simp) (fun a w ha hw => by simp [execOp, ha.ev hx, Instr.extract, hv]) h
theorem TO.index [WideF F] {v1 v2 : Value} (hg : gd ops σ g = some true) (hd : d < N) (hx : ev σ x = some v1) (hy : ev σ y = some v2)
    (hb : ∀ w : World, (Instr.index t v1 v2).run P w = .ok v w) (h : TO F P w0 K N dfs ops Q rest ((d, v) :: σ) L) :
    TO F P w0 K N dfs ops Q (⟨some d, .index t x y, ty, pos, aft, g⟩ :: rest) σ L :=
  TO.val hg hd (by simp) (fun a w ha hw => by simp only [execOp, ha.ev hx, ha.ev hy, Sem.run_bind, hb w]; rfl) h
def evO (σ : List (Nat × Value)) : Option Operand → Option (Option Value)
  | none => some none
  | some x => (ev σ x).map some
theorem At.evO {a : Act} (h : At N dfs σ a) {x : Option Operand} {v : Option Value} (hx : evO σ x = some v) : x.map a.eval = v := by
  cases x with
  | none => simpa [Go.Proofs.Ytekjfmjeemjcjaa.evO] using hx
  | some x =>
    simp only [Go.Proofs.Ytekjfmjeemjcjaa.evO, Option.map_eq_some_iff] at hx
    obtain ⟨u, hu, rfl⟩ := hx
    simp [h.ev hu]
theorem TO.slice [WideF F] {v1 : Value} {lo hi : Option Operand} {lv hv : Option Value} (hg : gd ops σ g = some true) (hd : d < N) (hx : ev σ x = some v1) (hlo : evO σ lo = some lv) (hhi : evO σ hi = some hv)
    (hb : ∀ w : World, (Instr.sliceAt t v1 lv hv none).run P w = .ok v w) (h : TO F P w0 K N dfs ops Q rest ((d, v) :: σ) L) :
    TO F P w0 K N dfs ops Q (⟨some d, .slice t x lo hi none, ty, pos, aft, g⟩ :: rest) σ L :=
  TO.val hg hd (by simp) (fun a w ha hw => by simp only [execOp, ha.ev hx, ha.evO hlo, ha.evO hhi, Option.map_none, Sem.run_bind, hb w]; rfl) h
def evP (σ : List (Nat × Value)) : List (Nat × Operand) → Option (List (Nat × Value))
  | [] => some []
  | (i, x) :: r => match ev σ x, evP σ r with
    | some v, some l => some ((i, v) :: l)
    | _, _ => none
theorem At.evP {a : Act} (h : At N dfs σ a) : ∀ {ps : List (Nat × Operand)} {vs : List (Nat × Value)}, evP σ ps = some vs → ps.map (fun (i, x) => (i, a.eval x)) = vs
  | [], vs, hx => by simpa [Go.Proofs.Ytekjfmjeemjcjaa.evP] using hx
  | (i, x) :: r, vs, hx => by
    simp only [Go.Proofs.Ytekjfmjeemjcjaa.evP] at hx
    split at hx
    · rename_i v l h1 h2
      cases hx
      simp [h.ev h1, At.evP h h2]
    · cases hx
def evL (σ : List (Nat × Value)) : List Operand → Option (List Value)
  | [] => some []
  | x :: r => match ev σ x, evL σ r with
    | some v, some l => some (v :: l)
    | _, _ => none
theorem At.evL {a : Act} (h : At N dfs σ a) : ∀ {ps : List Operand} {vs : List Value}, evL σ ps = some vs → ps.map a.eval = vs
  | [], vs, hx => by simpa [Go.Proofs.Ytekjfmjeemjcjaa.evL] using hx
  | x :: r, vs, hx => by
    simp only [Go.Proofs.Ytekjfmjeemjcjaa.evL] at hx
    split at hx
    · rename_i v l h1 h2
      cases hx
      simp [h.ev h1, At.evL h h2]
    · cases hx
theorem TO.build [WideF F] {ps : List (Nat × Operand)} {vs : List (Nat × Value)} (hg : gd ops σ g = some true) (hd : d < N) (hx : evP σ ps = some vs)
    (hb : ∀ w : World, (Instr.build t vs.toArray).run P w = .ok v w) (h : TO F P w0 K N dfs ops Q rest ((d, v) :: σ) L) :
    TO F P w0 K N dfs ops Q (⟨some d, .build t ps.toArray, ty, pos, aft, g⟩ :: rest) σ L :=
  TO.val hg hd (by simp) (fun a w ha hw => by
    have := hb w
    simp only [execOp, List.map_toArray, ha.evP hx, Sem.run_bind, this]; rfl) h
theorem TO.makeFunc [WideF F] {fn : Fn} {x1 x2 : List Operand} {l1 l2 : List Value} (hg : gd ops σ g = some true) (hd : d < N) (h1 : evL σ x1 = some l1) (h2 : evL σ x2 = some l2)
    (h : TO F P w0 K N dfs ops Q rest ((d, .func fn l1.toArray l2.toArray) :: σ) L) :
    TO F P w0 K N dfs ops Q (⟨some d, .makeFunc fn x1.toArray x2.toArray, ty, pos, aft, g⟩ :: rest) σ L :=
  TO.val hg hd (by simp) (fun a w ha hw => by simp [execOp, Instr.makeFunc, ha.evL h1, ha.evL h2]) h
/-- A slot's value spelled otherwise. -/
theorem TO.rew {s : Nat} {v v' : Value} (hs : σ.lookup s = some v) (he : v = v') (h : TO F P w0 K N dfs ops Q rest ((s, v') :: σ) L) : TO F P w0 K N dfs ops Q rest σ L := by
  subst he
  refine TO.sub (σ' := (s, v) :: σ) ?_ h
  exact Sbs.cons hs Sbs.refl
theorem TC.rew {s : Nat} {v v' : Value} (hs : σ.lookup s = some v) (he : v = v') (h : TC F P w0 K N dfs Q c ((s, v') :: σ) L) : TC F P w0 K N dfs Q c σ L := by
  subst he
  exact TC.sub (Sbs.cons hs Sbs.refl) h

/-! ### Memory -/
theorem TO.box [WideF F] (hg : gd ops σ g = some true) (hd : d < N) (hx : ev σ x = some v)
    (h : ∀ b, TO F P w0 K N dfs ops Q rest ((d, .pointer (some ⟨b, 0, none⟩)) :: σ) (L ++ [cells b v.cells.toList t])) : TO F P w0 K N dfs ops Q (⟨some d, .box t x, ty, pos, aft, g⟩ :: rest) σ L :=
  TO.step hg (by simp) fun a w ha hw => ⟨.pointer (some ⟨w.heap.size, 0, none⟩), w.alloc (.cells v.cells t), by simp [execOp, ha.ev hx, Instr.box, newVar, newRow, Sem.run_bind], h _ _ _ (ha.put hd _) (by simpa [cells] using hw.alloc (.cells v.cells t (0, 0)))⟩
theorem TO.box1 [WideF F] (hone : ∀ w, Holds w0 K L w → v.oneCell' = true) (hg : gd ops σ g = some true) (hd : d < N) (hx : ev σ x = some v)
    (h : ∀ b, TO F P w0 K N dfs ops Q rest ((d, .pointer (some ⟨b, 0, none⟩)) :: σ) (L ++ [cells b [v] t])) : TO F P w0 K N dfs ops Q (⟨some d, .box t x, ty, pos, aft, g⟩ :: rest) σ L :=
  TO.step hg (by simp) fun a w ha hw => ⟨.pointer (some ⟨w.heap.size, 0, none⟩), w.alloc (.cells v.cells t), by simp [execOp, ha.ev hx, Instr.box, newVar, newRow, Sem.run_bind], h _ _ _ (ha.put hd _) (by
    have hvc : v.cells = #[v] := by have := hone w hw; cases v <;> simp_all [Value.cells, Value.oneCell']
    rw [hvc]; simpa [cells] using hw.alloc (.cells #[v] t (0, 0)))⟩
theorem TO.alloc [WideF F] {cs : List Value} (hz : ZeroOk P t cs) (hg : gd ops σ g = some true) (hd : d < N)
    (h : ∀ b, TO F P w0 K N dfs ops Q rest ((d, .pointer (some ⟨b, 0, none⟩)) :: σ) (L ++ [cells b cs t])) : TO F P w0 K N dfs ops Q (⟨some d, .alloc t, ty, pos, aft, g⟩ :: rest) σ L := by
  obtain ⟨i, zv, hi, hz0, rfl⟩ := hz.some
  exact TO.step hg (by simp) fun a w ha hw => ⟨.pointer (some ⟨w.heap.size, 0, none⟩), w.alloc (.cells zv.cells t), by simp [execOp, Instr.alloc, zeroValue, typeInfo, hi, hz0, newVar, newRow, Sem.run_bind], h _ _ _ (ha.put hd _) (by simpa [cells] using hw.alloc (.cells zv.cells t (0, 0)))⟩
/-- Of one cell. -/
theorem TO.load [WideF F] {b j : Nat} {l : List Value} {e : TypeId} (hT : ScalarOk P t) (hg : gd ops σ g = some true) (hd : d < N) (hx : ev σ x = some (.pointer (some ⟨b, j, none⟩))) (hk : L[k]? = some (cells b l e)) (hj : l[j]? = some v)
    (h : TO F P w0 K N dfs ops Q rest ((d, v) :: σ) L) : TO F P w0 K N dfs ops Q (⟨some d, .load t x, ty, pos, aft, g⟩ :: rest) σ L := by
  obtain ⟨dd, hu, hr⟩ := hT
  exact TO.val hg hd (by simp) (fun a w ha hw => by
    have hc := hw.cell hk hj
    cases dd <;> simp_all [execOp, ha.ev hx, Instr.loadAt, Instr.sureAddr, loadVar, isAgg, Sem.run_bind, run_underlying hu]) h
/-- Of a row of cells. -/
theorem TO.loads [WideF F] {b j n : Nat} {l cs : List Value} {e : TypeId} (hT : RowOk P t n) (hg : gd ops σ g = some true) (hd : d < N) (hx : ev σ x = some (.pointer (some ⟨b, j, none⟩))) (hk : L[k]? = some (cells b l e))
    (hcs : (l.drop j).take n = cs) (hn : cs.length = n) (h : TO F P w0 K N dfs ops Q rest ((d, .agg cs.toArray) :: σ) L) :
    TO F P w0 K N dfs ops Q (⟨some d, .load t x, ty, pos, aft, g⟩ :: rest) σ L := by
  subst hn
  obtain ⟨dd, hu, hr, hi⟩ := hT
  exact TO.val hg hd (by simp) (fun a w ha hw => by
    have hc : w.rangeAt b j cs := fun i u hu => by
      refine hw.cell hk ?_
      rw [← hcs] at hu
      rw [List.getElem?_take] at hu
      split at hu
      · rw [List.getElem?_drop] at hu; exact hu
      · cases hu
    simp only [execOp, ha.ev hx, Sem.run_bind, run_loadAt_mid w b j t cs dd hc hu hr hi]; rfl) h
theorem TO.store [WideF F] {b j : Nat} {l l' : List Value} {e : TypeId} {u : Value} (hT : SizeOk P t 1) (hg : gd ops σ g = some true) (hx : ev σ x = some (.pointer (some ⟨b, j, none⟩))) (hy : ev σ y = some v)
    (hk : L[k]? = some (cells b l e)) (hj : l[j]? = some u) (hone : ∀ w, Holds w0 K L w → v.oneCell' = true) (hl : l.set j v = l')
    (h : TO F P w0 K N dfs ops Q rest σ (L.set k (cells b l' e))) : TO F P w0 K N dfs ops Q (⟨none, .store t x y, ty, pos, aft, g⟩ :: rest) σ L := by
  obtain ⟨i, hi, hsz⟩ := hT.some
  exact TO.stepSkip hg (by simp) fun a w ha hw => ⟨_, by
    have h1 := hone w hw
    have hc := hw.cell hk hj
    have hf : w.frozen? ⟨b, j, none⟩ = false := by simp [World.frozen?, hw.obj hk]
    have hvc : v.cells = #[v] := by cases v <;> simp_all [Value.cells, Value.oneCell']
    simp [execOp, ha.ev hx, ha.ev hy, Instr.storeAt, Instr.sureAddr, storeVar, sizeOf, typeInfo, hi, hsz, hvc, storeCells, Sem.run_bind, run_store _ _ _ _ _ h1, hc, hf, Addr.add_mid], h _ _ ha (hw.setCell hk hl)⟩
def setFrom (l : List Value) (j : Nat) : List Value → List Value
  | [] => l
  | v :: vs => setFrom (l.set j v) (j + 1) vs
theorem setFrom_length : ∀ (vs l : List Value) (j : Nat), (setFrom l j vs).length = l.length
  | [], l, j => rfl
  | v :: vs, l, j => by simp [setFrom, setFrom_length vs]
theorem Holds.setCells {b : Nat} {e : TypeId} (hlen : k < L.length) : ∀ (vs : List Value) (j : Nat) (l : List Value) (w : World), Holds w0 K (L.set k (cells b l e)) w → Holds w0 K (L.set k (cells b (setFrom l j vs) e)) (w.setCells b j vs)
  | [], j, l, w, h => h
  | v :: vs, j, l, w, h => by
    have hk : (L.set k (cells b l e))[k]? = some (cells b l e) := by simp [hlen]
    have := h.setCell (j := j) (v := v) hk rfl
    rw [List.set_set] at this
    simp only [World.setCells, setFrom]
    exact Holds.setCells hlen vs (j + 1) _ _ this
theorem set_self {α : Type} {L : List α} {k : Nat} {A : α} (hk : L[k]? = some A) : L.set k A = L := by
  apply List.ext_getElem?
  intro i
  rw [List.getElem?_set]
  split
  · rename_i e
    subst e
    rw [hk]
    simp [(List.getElem?_eq_some_iff.1 hk).1]
  · rfl
theorem TO.stores [WideF F] {b j n : Nat} {l l' vs : List Value} {e : TypeId} (hT : SizeOk P t n) (hg : gd ops σ g = some true) (hx : ev σ x = some (.pointer (some ⟨b, j, none⟩))) (hy : ev σ y = some (.agg vs.toArray))
    (hk : L[k]? = some (cells b l e)) (hn : vs.length = n) (hj : j + n ≤ l.length) (h1 : vs.all (·.oneCell') = true) (hl : setFrom l j vs = l')
    (h : TO F P w0 K N dfs ops Q rest σ (L.set k (cells b l' e))) : TO F P w0 K N dfs ops Q (⟨none, .store t x y, ty, pos, aft, g⟩ :: rest) σ L := by
  subst hl; subst hn
  have hlen : k < L.length := (List.getElem?_eq_some_iff.1 hk).1
  refine TO.stepSkip hg (by simp) fun a w ha hw => ⟨w.setCells b j vs, ?_, h _ _ ha (Holds.setCells hlen vs j l w (by rw [set_self hk]; exact hw))⟩
  have ht : w.there b j vs.toArray.size := fun i hi => by
    have hi' : i < vs.length := by simpa using hi
    have hc := hw.cell hk (List.getElem?_eq_getElem (show j + i < l.length by omega))
    exact ⟨by rw [hc]; rfl, by simp [World.frozen?, hw.obj hk]⟩
  simp only [execOp, ha.ev hx, ha.ev hy, Sem.run_bind, run_storeAt_mid w b j t vs.toArray ht (by simpa [SizeOk] using hT) (by simpa using h1)]; rfl
end
end Go.Proofs.Ytekjfmjeemjcjaa
