/-
  A logic of triples over symbolic slots and owned blocks: numbers, strings, slices. No program is named here. Nothing is assumed.
-/
import Derived.Test.YtekjfmjeemjcjaaDl
namespace Go.Proofs.Ytekjfmjeemjcjaa
open Go.RowKit Go.Lib
set_option linter.unusedVariables false
set_option linter.unusedSimpArgs false

section
variable {P : Program} {t : TypeId} {x y : Operand} {k : IntKind} {m n r : Int} {w : World} {a b : ByteArray}
theorem not_T {b : Bool} (h : (!b) = true) : b = false := by cases b; rfl; cases h
theorem not_F {b : Bool} (h : (!b) = false) : b = true := by cases b; cases h; rfl
theorem bin_known {u v : Value} {m : Sem Value} (h : u = v) (hb : ∀ w : World, m.run P w = .ok u w) (w : World) : m.run P w = .ok v w := h ▸ hb w
theorem bin_add (h : k.wrap (m + n) = r) (w : World) : (do eqGuard .add t x y (.int k m) (.int k n); binOp .add t (.int k m) (.int k n) : Sem Value).run P w = .ok (.int k r) w := by
  subst h; simp [eqGuard, binOp, Op.intArith, Sem.run_bind]
theorem bin_sub (h : k.wrap (m - n) = r) (w : World) : (do eqGuard .sub t x y (.int k m) (.int k n); binOp .sub t (.int k m) (.int k n) : Sem Value).run P w = .ok (.int k r) w := by
  subst h; simp [eqGuard, binOp, Op.intArith, Sem.run_bind]
theorem bin_mul (h : k.wrap (m * n) = r) (w : World) : (do eqGuard .mul t x y (.int k m) (.int k n); binOp .mul t (.int k m) (.int k n) : Sem Value).run P w = .ok (.int k r) w := by
  subst h; simp [eqGuard, binOp, Op.intArith, Sem.run_bind]
theorem bin_lss (w : World) : (do eqGuard .lss t x y (.int k m) (.int k n); binOp .lss t (.int k m) (.int k n) : Sem Value).run P w = .ok (.bool (decide (m < n))) w := by
  simp [eqGuard, binOp, Op.intCmp, Sem.run_bind]
theorem bin_leq (w : World) : (do eqGuard .leq t x y (.int k m) (.int k n); binOp .leq t (.int k m) (.int k n) : Sem Value).run P w = .ok (.bool (decide (m ≤ n))) w := by
  simp [eqGuard, binOp, Op.intCmp, Sem.run_bind]
theorem bin_gtr (w : World) : (do eqGuard .gtr t x y (.int k m) (.int k n); binOp .gtr t (.int k m) (.int k n) : Sem Value).run P w = .ok (.bool (decide (n < m))) w := by
  simp [eqGuard, binOp, Op.intCmp, Sem.run_bind]
theorem bin_geq (w : World) : (do eqGuard .geq t x y (.int k m) (.int k n); binOp .geq t (.int k m) (.int k n) : Sem Value).run P w = .ok (.bool (decide (n ≤ m))) w := by
  simp [eqGuard, binOp, Op.intCmp, Sem.run_bind]
theorem bin_eql (w : World) : (do eqGuard .eql t x y (.int k m) (.int k n); binOp .eql t (.int k m) (.int k n) : Sem Value).run P w = .ok (.bool (m == n)) w := by
  simp [eqGuard, binOp, Op.intCmp, Sem.run_bind]
theorem bin_neq (w : World) : (do eqGuard .neq t x y (.int k m) (.int k n); binOp .neq t (.int k m) (.int k n) : Sem Value).run P w = .ok (.bool (m != n)) w := by
  simp [eqGuard, binOp, Op.intCmp, Sem.run_bind]
theorem bin_quo (hn : n ≠ 0) (h : k.wrap (m.tdiv n) = r) (w : World) : (do eqGuard .quo t x y (.int k m) (.int k n); binOp .quo t (.int k m) (.int k n) : Sem Value).run P w = .ok (.int k r) w := by
  subst h; simp [eqGuard, binOp, Op.intDiv, Sem.run_bind, hn]
theorem bin_rem (hn : n ≠ 0) (h : m.tmod n = r) (w : World) : (do eqGuard .rem t x y (.int k m) (.int k n); binOp .rem t (.int k m) (.int k n) : Sem Value).run P w = .ok (.int k r) w := by
  subst h; simp [eqGuard, binOp, Op.intDiv, Sem.run_bind, hn]
theorem beq_toList (a b : ByteArray) : (a.toList == b.toList) = decide (a = b) := by
  by_cases h : a = b
  · subst h; simp
  · have : ¬ a.toList = b.toList := fun e => h (by
      have : a.data.toList = b.data.toList := by rw [← Go.ByteArray.toList_eq, ← Go.ByteArray.toList_eq]; exact e
      exact ByteArray.ext (Array.toList_inj.1 this))
    simp [h, this]
theorem bin_sadd (h : a.size + b.size ≤ 9223372036854775807) (w : World) : (do eqGuard .add t x y (.string a) (.string b); binOp .add t (.string a) (.string b) : Sem Value).run P w = .ok (.string (a ++ b)) w := by
  have : ¬ (((a.size + b.size : Nat) : Int) > IntKind.i64.max) := by
    show ¬ (((a.size + b.size : Nat) : Int) > 9223372036854775807); omega
  simp only [eqGuard, binOp, Op.stringOp, Sem.run_bind, Sem.run_pure, Result.andThen_ok]
  rw [if_neg this]; rfl
theorem bin_seql (w : World) : (do eqGuard .eql t x y (.string a) (.string b); binOp .eql t (.string a) (.string b) : Sem Value).run P w = .ok (.bool (decide (a = b))) w := by
  rw [← beq_toList]; simp [eqGuard, binOp, Op.stringOp, Sem.run_bind]
theorem bin_sneq (w : World) : (do eqGuard .neq t x y (.string a) (.string b); binOp .neq t (.string a) (.string b) : Sem Value).run P w = .ok (.bool (!decide (a = b))) w := by
  rw [← beq_toList]; simp [eqGuard, binOp, Op.stringOp, Sem.run_bind]
theorem un_not {b : Bool} (w : World) : (Op.unary .not (.bool b)).run P w = .ok (.bool (!b)) w := rfl
theorem un_neg (h : k.wrap (-n) = r) (w : World) : (Op.unary .neg (.int k n)).run P w = .ok (.int k r) w := by
  subst h; simp [Op.unary, Op.intArith]
theorem conv_int {s d : TypeId} {u : TypeDesc} {k' : IntKind} (hs : P.underlying s = some u) (hd : P.underlying d = some (.int k')) (h : k'.wrap n = r) (w : World) : (convert s d (.int k n)).run P w = .ok (.int k' r) w := by
  subst h
  cases u <;> simp [convert, run_underlying hs, run_underlying hd, Sem.run_bind, Conv.intToInt]
theorem conv_rune {s d : TypeId} {k0 : IntKind} (hs : P.underlying s = some (.int k0)) (hd : P.underlying d = some .string) (w : World) : (convert s d (.int k n)).run P w = .ok (.string (Utf8.encode n)) w := by
  simp [convert, run_underlying hs, run_underlying hd, Sem.run_bind, Conv.intToString]
theorem conv_str {s d : TypeId} (hs : P.underlying s = some .string) (hd : P.underlying d = some .string) (w : World) : (convert s d (.string a)).run P w = .ok (.string a) w := by
  simp [convert, run_underlying hs, run_underlying hd, Sem.run_bind]
theorem index_string {i : Nat} (ht : P.underlying t = some .string) (hi : i < a.size) (w : World) : (Instr.index t (.string a) (.int .i64 i)).run P w = .ok (.int .u8 (a[i]'hi).toNat) w := by
  have h1 : a[i]? = some a[i] := by simp [hi]
  simp [Instr.index, asIntOf, run_underlying ht, Sem.run_bind, h1]
theorem slice_string {lo hi : Option Value} {i j : Nat} (ht : P.underlying t = some .string) (hlo : lo = none ∧ i = 0 ∨ lo = some (.int .i64 i)) (hhi : hi = none ∧ j = a.size ∨ hi = some (.int .i64 j)) (h1 : i ≤ j) (h2 : j ≤ a.size) (w : World) :
    (Instr.sliceAt t (.string a) lo hi none).run P w = .ok (.string (a.extract i j)) w := by
  rcases hlo with ⟨rfl, rfl⟩ | rfl <;> rcases hhi with ⟨rfl, rfl⟩ | rfl <;>
    simp [Instr.sliceAt, Instr.slice, Instr.sliceBounds, Instr.sliceBound, asIntOf, run_underlying ht, Sem.run_bind, h1, h2]
end

/-! ### Slices of records -/
def vec {α : Type} (enc : α → List Value) (e : TypeId) (size : Nat) (v : Value) (xs : List α) : Asn :=
  ⟨fun C w => Vec enc e size v xs C w, fun h k hk => h.lt k hk, fun h _ hk => h.local hk⟩
def byt (e : TypeId) (v : Value) (b : ByteArray) : Asn := ⟨fun C w => Byt e v b C w, fun h k hk => h.lt k hk, fun h _ hk => h.local hk⟩
def vblk : Value → Nat
  | .slice (some a) _ _ => a.block
  | _ => 0

section
variable {F : Fence} {P : Program} {w0 : World} {K : Nat → Prop} {N : Nat} {dfs : List Deferred} {ops : Array Oper} {Q : Exit → Act → World → Prop} {rest : List Oper} {σ σ' : List (Nat × Value)} {L L' R As Bs : List Asn} {o : Oper} {v : Value}
  {d : Nat} {t : TypeId} {op : Op} {ty : TypeId} {pos : String} {aft : Array Edge} {g : Option (Nat × Bool)} {x y z : Operand} {c c1 c2 : Code} {k : Nat} {A B : Asn} {RO : List (Nat × Obj)}
  {α : Type} {enc : α → List Value} {e : TypeId} {size : Nat} {xs : List α} {vv : Value}

theorem Holds.vec {w : World} (h : Holds w0 K L w) (hk : L[k]? = some (vec enc e size vv xs)) : ∃ C, Vec enc e size vv xs C w := by
  obtain ⟨C1, h1, _⟩ := h.focus hk; exact ⟨C1, h1⟩
theorem Vec.len {C : Nat → Prop} {w : World} (h : Vec enc e size vv xs C w) : ∃ a c, vv = .slice a xs.length c := by
  rcases h.shape with ⟨rfl, rfl, _⟩ | ⟨g, cap, rfl, _⟩
  · exact ⟨none, 0, rfl⟩
  · exact ⟨_, _, rfl⟩
theorem Vec.ptr {C : Nat → Prop} {w : World} (h : Vec enc e size vv xs C w) (hne : xs ≠ []) : ∃ cap, vv = .slice (some ⟨vblk vv, 0, none⟩) xs.length cap := by
  rcases h.shape with ⟨_, h2, _⟩ | ⟨g, cap, rfl, _⟩
  · exact absurd h2 hne
  · exact ⟨cap, rfl⟩
theorem one_vec {w : World} (h : Holds w0 K L w) (hk : L[k]? = some (vec enc e size vv xs)) : vv.oneCell' = true := by
  obtain ⟨C, hv⟩ := h.vec hk
  obtain ⟨a, c, rfl⟩ := hv.len
  rfl
/-- A nil slice owns nothing. -/
theorem TC.newVec (h : TC F P w0 K N dfs Q c σ (L ++ [vec enc e size (.slice none 0 0) ([] : List α)])) : TC F P w0 K N dfs Q c σ L := fun a w ha hw =>
  h a w ha (hw.grow (C' := fun _ => False) (Ext.refl _ _) (sepL.one (A := vec enc e size (.slice none 0 0) ([] : List α)) Vec.nil))
theorem TO.newVec (h : TO F P w0 K N dfs ops Q rest σ (L ++ [vec enc e size (.slice none 0 0) ([] : List α)])) : TO F P w0 K N dfs ops Q rest σ L := fun a w ha hw =>
  h a w ha (hw.grow (C' := fun _ => False) (Ext.refl _ _) (sepL.one (A := vec enc e size (.slice none 0 0) ([] : List α)) Vec.nil))
theorem TO.newByt (h : TO F P w0 K N dfs ops Q rest σ (L ++ [byt e (.slice none 0 0) ⟨#[]⟩])) : TO F P w0 K N dfs ops Q rest σ L := fun a w ha hw =>
  h a w ha (hw.grow (C' := fun _ => False) (Ext.refl _ _) (sepL.one (A := byt e (.slice none 0 0) ⟨#[]⟩) Byt.nil))
theorem TO.lenVec [WideF F] {tt : TypeId} {te : TypeId} (hg : gd ops σ g = some true) (hd : d < N) (hx : ev σ x = some vv) (hk : L[k]? = some (vec enc e size vv xs)) (ht : P.underlying tt = some (.slice te))
    (h : TO F P w0 K N dfs ops Q rest ((d, .int .i64 xs.length) :: σ) L) : TO F P w0 K N dfs ops Q (⟨some d, .call { callee := .builtin .len, args := #[x], argTypes := #[tt] }, ty, pos, aft, g⟩ :: rest) σ L :=
  TO.val hg hd (by simp) (fun a w ha hw => by
    obtain ⟨C, hv⟩ := hw.vec hk
    obtain ⟨q, cc, hq⟩ := hv.len
    have := ha.ev hx
    simp [execOp, resolve, invoke, builtin, this, hq, Builtin.len_, run_underlying ht, Sem.run_bind, goInt]) h
theorem TO.lenStr [WideF F] {tt : TypeId} {s : ByteArray} (hg : gd ops σ g = some true) (hd : d < N) (hx : ev σ x = some (.string s)) (ht : P.underlying tt = some .string)
    (h : TO F P w0 K N dfs ops Q rest ((d, .int .i64 s.size) :: σ) L) : TO F P w0 K N dfs ops Q (⟨some d, .call { callee := .builtin .len, args := #[x], argTypes := #[tt] }, ty, pos, aft, g⟩ :: rest) σ L :=
  TO.val hg hd (by simp) (fun a w ha hw => by
    have := ha.ev hx
    simp [execOp, resolve, invoke, builtin, this, Builtin.len_, run_underlying ht, Sem.run_bind, goInt]) h
/-- The address of a slice's element. -/
theorem TO.indexVec [WideF F] {i off : Nat} (ht : P.underlying t = some (.slice e)) (hT : SizeOk P e size) (hg : gd ops σ g = some true) (hd : d < N) (hx : ev σ x = some vv) (hy : ev σ y = some (.int .i64 i)) (hk : L[k]? = some (vec enc e size vv xs)) (hi : i < xs.length)
    (ho : i * size = off)
    (h : TO F P w0 K N dfs ops Q rest ((d, .pointer (some ⟨vblk vv, off, none⟩)) :: σ) L) : TO F P w0 K N dfs ops Q (⟨some d, .indexAddr t x y, ty, pos, aft, g⟩ :: rest) σ L := by
  obtain ⟨ii, hu, hs⟩ := hT.some
  subst ho; subst hs
  refine TO.val hg hd (by simp) (fun a w ha hw => ?_) h
  obtain ⟨C, hv⟩ := hw.vec hk
  obtain ⟨cap, hq⟩ := hv.ptr (by intro h; simp [h] at hi)
  generalize hb : vblk vv = bb at hq
  have h1 := ha.ev hx; have h2 := ha.ev hy
  rw [hq] at h1
  have hi' : (i : Int) < (xs.length : Int) := by omega
  simp [execOp, Instr.indexAt, h1, h2, asIntOf, run_underlying ht, Sem.run_bind, hi, sizeOf, typeInfo, hu, Addr.add_mid]
theorem Vec.cellAt {C : Nat → Prop} {w : World} (hz : ∀ x, (enc x).length = size) (h : Vec enc e size vv xs C w) {i j : Nat} {q : α} {u : Value} (hq : xs[i]? = some q) (hj : j < size) (hu : (enc q)[j]? = some u) : w.cell? ⟨vblk vv, i * size + j, none⟩ = some u := by
  obtain ⟨cap, he⟩ := h.ptr (by intro h; simp [h] at hq)
  generalize hb : vblk vv = bb at he
  subst he
  exact h.cell hz rfl hq hj hu
theorem Vec.frozenAt {C : Nat → Prop} {w : World} (h : Vec enc e size vv xs C w) (hne : xs ≠ []) (j : Nat) : w.frozen? ⟨vblk vv, j, none⟩ = false := by
  obtain ⟨cap, he⟩ := h.ptr hne
  generalize hb : vblk vv = bb at he
  subst he
  exact h.frozen rfl j
/-- One cell of an element. -/
theorem TO.loadVec [WideF F] {i j off : Nat} {q : α} (hT : ScalarOk P t) (hz : ∀ x, (enc x).length = size) (hg : gd ops σ g = some true) (hd : d < N) (hx : ev σ x = some (.pointer (some ⟨vblk vv, off, none⟩))) (hk : L[k]? = some (vec enc e size vv xs))
    (hq : xs[i]? = some q) (ho : off = i * size + j) (hj : j < size) (hv : (enc q)[j]? = some v) (h : TO F P w0 K N dfs ops Q rest ((d, v) :: σ) L) :
    TO F P w0 K N dfs ops Q (⟨some d, .load t x, ty, pos, aft, g⟩ :: rest) σ L := by
  subst ho
  obtain ⟨dd, hu, hr⟩ := hT
  refine TO.val hg hd (by simp) (fun a w ha hw => ?_) h
  obtain ⟨C, hV⟩ := hw.vec hk
  have hc := hV.cellAt hz hq hj hv
  have h1 := ha.ev hx
  cases dd <;> simp_all [execOp, Instr.loadAt, Instr.sureAddr, loadVar, isAgg, Sem.run_bind, run_underlying hu]
/-- A row of cells of an element. -/
theorem TO.loadsVec [WideF F] {i j off n : Nat} {q : α} {cs : List Value} (hT : RowOk P t n) (hz : ∀ x, (enc x).length = size) (hg : gd ops σ g = some true) (hd : d < N) (hx : ev σ x = some (.pointer (some ⟨vblk vv, off, none⟩))) (hk : L[k]? = some (vec enc e size vv xs))
    (hq : xs[i]? = some q) (ho : off = i * size + j) (hcs : ((enc q).drop j).take n = cs) (hn : cs.length = n)
    (h : TO F P w0 K N dfs ops Q rest ((d, .agg cs.toArray) :: σ) L) : TO F P w0 K N dfs ops Q (⟨some d, .load t x, ty, pos, aft, g⟩ :: rest) σ L := by
  subst ho; subst hn
  obtain ⟨dd, hu, hr, hi⟩ := hT
  refine TO.val hg hd (by simp) (fun a w ha hw => ?_) h
  obtain ⟨C, hV⟩ := hw.vec hk
  have hc : w.rangeAt (vblk vv) (i * size + j) cs := fun n u hn => by
    rw [← hcs] at hn
    rw [List.getElem?_take] at hn
    split at hn
    · rw [List.getElem?_drop] at hn
      have hl : j + n < size := by rw [← hz q]; exact (List.getElem?_eq_some_iff.1 hn).1
      have := hV.cellAt hz hq hl hn
      rwa [← Nat.add_assoc] at this
    · cases hn
  simp only [execOp, ha.ev hx, Sem.run_bind, run_loadAt_mid w _ _ t cs dd hc hu hr hi]; rfl
/-- A store into one cell of an element. -/
theorem TO.storeVec [WideF F] {i j off : Nat} {q q' : α} (hT : SizeOk P t 1) (hz : ∀ x, (enc x).length = size) (hg : gd ops σ g = some true) (hx : ev σ x = some (.pointer (some ⟨vblk vv, off, none⟩))) (hy : ev σ y = some v) (hk : L[k]? = some (vec enc e size vv xs))
    (hq : xs[i]? = some q) (ho : off = i * size + j) (hj : j < size) (hv : enc q' = (enc q).set j v) (hone : ∀ w, Holds w0 K L w → v.oneCell' = true)
    (h : TO F P w0 K N dfs ops Q rest σ (L.set k (vec enc e size vv (xs.set i q')))) : TO F P w0 K N dfs ops Q (⟨none, .store t x y, ty, pos, aft, g⟩ :: rest) σ L := by
  subst ho
  obtain ⟨ii, hi, hsz⟩ := hT.some
  refine TO.stepSkip hg (by simp) fun a w ha hw => ?_
  have h1 := hone w hw
  obtain ⟨C, hV, hstep⟩ := hw.focus hk
  obtain ⟨u, hu⟩ : ∃ u, (enc q)[j]? = some u := ⟨_, List.getElem?_eq_getElem (by rw [hz]; exact hj)⟩
  have hne : xs ≠ [] := by intro h; simp [h] at hq
  have hV' : Vec enc e size vv xs C w := hV
  have hc := hV'.cellAt hz hq hj hu
  have hf := hV'.frozenAt hne (i * size + j)
  have hvc : v.cells = #[v] := by cases v <;> simp_all [Value.cells, Value.oneCell']
  refine ⟨w.setCell ⟨vblk vv, i * size + j, none⟩ v, by
    simp [execOp, ha.ev hx, ha.ev hy, Instr.storeAt, Instr.sureAddr, storeVar, sizeOf, typeInfo, hi, hsz, hvc, storeCells, Sem.run_bind, run_store _ _ _ _ _ h1, hc, hf, Addr.add_mid], h _ _ ha (hstep _ C _ ?_ ?_)⟩
  · obtain ⟨cap, he⟩ := hV'.ptr hne
    refine (Ext.refl _ _).setCell ?_ _
    obtain ⟨hR, rfl⟩ := hV'
    rw [he]; rfl
  · obtain ⟨cap, he⟩ := hV'.ptr hne
    generalize hb : vblk vv = bb at *
    subst he
    obtain ⟨hR, hC⟩ := hV'
    exact ⟨(Rw.stored hz hR hq hj q' hv).1, hC⟩

/-! ### Append -/
/-- What an append asks of the element's type. -/
def ElemOk (P : Program) (e : TypeId) (size : Nat) : Prop := ∃ (i : TypeInfo) (zv : Value), P.info? e = some i ∧ i.zero = some zv ∧ i.size = size ∧ zv.cells.size = size ∧ 0 < size ∧ i.bytes ≤ 65536
def ByteOk (P : Program) (e : TypeId) : Prop := ∃ i : TypeInfo, P.info? e = some i ∧ i.zero = some (.int .u8 0) ∧ i.size = 1 ∧ i.bytes = 1
theorem ElemOk.mk' {P : Program} {e : TypeId} {size : Nat} (h : (P.info? e).bind (fun i => i.zero.map (fun z => (i.size, z.cells.size, decide (0 < i.size), decide (i.bytes ≤ 65536)))) = some (size, size, true, true)) : ElemOk P e size := by
  cases hi : P.info? e with
  | none => simp [hi] at h
  | some i =>
    cases hz : i.zero with
    | none => simp [hi, hz] at h
    | some z =>
      simp [hi, hz] at h
      obtain ⟨h1, h2, h3, h4⟩ := h
      exact ⟨i, z, hi, hz, h1, h2, by omega, h4⟩
theorem ByteOk.mk' {P : Program} {e : TypeId} (h : (P.info? e).map (fun i => (i.zero, i.size, i.bytes)) = some (some (.int .u8 0), 1, 1)) : ByteOk P e := by
  cases hi : P.info? e with
  | none => simp [hi] at h
  | some i => simp [hi] at h; exact ⟨i, hi, h.1, h.2.1, h.2.2⟩
/-- A slice's literal: a new row of cells. -/
theorem TO.buildSlice [WideF F] {ps : List (Nat × Operand)} {vs : List (Nat × Value)} {te n : Nat} {cs : List Value} (hg : gd ops σ g = some true) (hd : d < N) (hx : evP σ ps = some vs)
    (hb : ∀ w : World, (Instr.buildSlice t n vs.toArray).run P w = .ok (.slice (some ⟨w.heap.size, 0, none⟩) n n) (w.alloc (.cells cs.toArray te)))
    (h : ∀ b, TO F P w0 K N dfs ops Q rest ((d, .slice (some ⟨b, 0, none⟩) n n) :: σ) (L ++ [cells b cs te])) :
    TO F P w0 K N dfs ops Q (⟨some d, .buildSlice t n ps.toArray, ty, pos, aft, g⟩ :: rest) σ L :=
  TO.step hg (by simp) fun a w ha hw => ⟨.slice (some ⟨w.heap.size, 0, none⟩) n n, w.alloc (.cells cs.toArray te), by
    have := hb w
    simp only [execOp, List.map_toArray, ha.evP hx, Sem.run_bind, this]; rfl, h _ _ _ (ha.put hd _) (hw.alloc _)⟩
/-- 'append(s, x..)', the new records laid in a block just ahead. -/
theorem TO.appendVec [WideF F] {s : Operand} {k2 b m cap : Nat} {tt : TypeId} {ys : List α} {te : TypeId} {cs : List Value} (ht : P.underlying tt = some (.slice e)) (hE : ElemOk P e size) (hlen : ∀ x, (enc x).length = size) (h1 : ∀ x, ∀ u ∈ enc x, u.oneCell' = true) (hg : gd ops σ g = some true) (hd : d < N) (hs : ev σ s = some vv) (hx : ev σ x = some (.slice (some ⟨b, 0, none⟩) m cap))
    (hk : L[k]? = some (vec enc e size vv xs)) (hk2 : L[k2]? = some (cells b cs te)) (hm : m = ys.length) (hcs : cs = ys.flatMap enc)
    (hn : xs.length + ys.length ≤ 2147483648)
    (h : ∀ v', TO F P w0 K N dfs ops Q rest ((d, v') :: σ) (L.set k (vec enc e size v' (xs ++ ys)))) :
    TO F P w0 K N dfs ops Q (⟨some d, .call { callee := .builtin .append, args := #[s, x], argTypes := #[tt, tt] }, ty, pos, aft, g⟩ :: rest) σ L := by
  subst hm; subst hcs
  obtain ⟨i, zv, hi, hz, hsize, hzs, hsz, hbytes⟩ := hE
  refine TO.step hg (by simp) fun a w ha hw => ?_
  have hb := hw.obj hk2
  obtain ⟨C, hV, hstep⟩ := hw.focus hk
  obtain ⟨v', w', hr, C', h2, h3⟩ := run_append_vec (P := P) w tt ty e i zv i.bytes ht hi hz hsize rfl hzs hsz hlen h1 vv xs C hV ys b cap te (0, 0) hb hn hbytes
  refine ⟨v', w', ?_, h v' _ _ (ha.put hd _) (hstep _ C' w' h3 h2)⟩
  simp [execOp, resolve, invoke, builtin, ha.ev hs, ha.ev hx, hr, Sem.run_bind]
theorem Holds.byt {w : World} {b : ByteArray} (h : Holds w0 K L w) (hk : L[k]? = some (byt e vv b)) : ∃ C, Byt e vv b C w := by
  obtain ⟨C1, h1, _⟩ := h.focus hk; exact ⟨C1, h1⟩
theorem one_byt {w : World} {b : ByteArray} (h : Holds w0 K L w) (hk : L[k]? = some (byt e vv b)) : vv.oneCell' = true := by
  obtain ⟨C, hv⟩ := h.byt hk
  rcases hv.shape with ⟨rfl, _⟩ | ⟨g, cap, cur, rfl, _⟩ <;> rfl
/-- 'append(b, s...)' of a string. -/
theorem TO.appendStr [WideF F] {sl : Operand} {tt u : TypeId} {b s : ByteArray} (ht : P.underlying tt = some (.slice e)) (hu : P.underlying u = some .string) (hE : ByteOk P e) (hg : gd ops σ g = some true) (hd : d < N) (hs : ev σ sl = some vv) (hx : ev σ x = some (.string s))
    (hk : L[k]? = some (byt e vv b)) (hn : b.size + s.size ≤ 140737488355328)
    (h : ∀ v', TO F P w0 K N dfs ops Q rest ((d, v') :: σ) (L.set k (byt e v' (b ++ s)))) :
    TO F P w0 K N dfs ops Q (⟨some d, .call { callee := .builtin .append, args := #[sl, x], argTypes := #[tt, u] }, ty, pos, aft, g⟩ :: rest) σ L := by
  obtain ⟨i, hi, hz, hsize, hby⟩ := hE
  refine TO.step hg (by simp) fun a w ha hw => ?_
  obtain ⟨C, hV, hstep⟩ := hw.focus hk
  obtain ⟨v', w', hr, C', h2, h3⟩ := run_append_byt (P := P) w tt u ty e i ht hu hi hz hsize hby vv b C hV s hn
  refine ⟨v', w', ?_, h v' _ _ (ha.put hd _) (hstep _ C' w' h3 h2)⟩
  simp [execOp, resolve, invoke, builtin, ha.ev hs, ha.ev hx, hr, Sem.run_bind]
/-- 'append(b, c)' of bytes. -/
theorem TO.appendByt [WideF F] {sl : Operand} {tt : TypeId} {b ys : ByteArray} {k2 bk m cap : Nat} {te : TypeId} {cs : List Value} (ht : P.underlying tt = some (.slice e)) (hE : ByteOk P e) (hg : gd ops σ g = some true) (hd : d < N) (hs : ev σ sl = some vv) (hx : ev σ x = some (.slice (some ⟨bk, 0, none⟩) m cap))
    (hk : L[k]? = some (byt e vv b)) (hk2 : L[k2]? = some (cells bk cs te)) (hcs : cs = strCells ys) (hm : m = ys.size) (hn : b.size + ys.size ≤ 140737488355328)
    (h : ∀ v', TO F P w0 K N dfs ops Q rest ((d, v') :: σ) (L.set k (byt e v' (b ++ ys)))) :
    TO F P w0 K N dfs ops Q (⟨some d, .call { callee := .builtin .append, args := #[sl, x], argTypes := #[tt, tt] }, ty, pos, aft, g⟩ :: rest) σ L := by
  subst hm; subst hcs
  obtain ⟨i, hi, hz, hsize, hby⟩ := hE
  refine TO.step hg (by simp) fun a w ha hw => ?_
  have hb := hw.obj hk2
  obtain ⟨C, hV, hstep⟩ := hw.focus hk
  obtain ⟨v', w', hr, C', h2, h3⟩ := run_append_byts (P := P) w tt ty e i ht hi hz hsize hby vv b C hV ys bk cap te (0, 0) hb hn
  refine ⟨v', w', ?_, h v' _ _ (ha.put hd _) (hstep _ C' w' h3 h2)⟩
  simp [execOp, resolve, invoke, builtin, ha.ev hs, ha.ev hx, hr, Sem.run_bind]
/-- 'string(b)' of bytes. -/
theorem TO.bytStr [WideF F] {s : TypeId} {b : ByteArray} (hg : gd ops σ g = some true) (hd : d < N) (hx : ev σ x = some vv) (hk : L[k]? = some (byt e vv b)) (hs : P.underlying s = some (.slice e)) (he : P.underlying e = some (.int .u8)) (ht : P.underlying t = some .string)
    (h : TO F P w0 K N dfs ops Q rest ((d, .string b) :: σ) L) : TO F P w0 K N dfs ops Q (⟨some d, .convert s t x, ty, pos, aft, g⟩ :: rest) σ L :=
  TO.val hg hd (by simp) (fun a w ha hw => by
    obtain ⟨C, hV⟩ := hw.byt hk
    simp only [execOp, ha.ev hx, Sem.run_bind, hV.conv s t hs he ht]; rfl) h
end
end Go.Proofs.Ytekjfmjeemjcjaa
