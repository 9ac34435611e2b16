/-
  Texts laid together: Ml, Nl, Mm, Dg, Utf, Rn, Ap, Cp, Zn, Mp, Tab, Lt, LfA, Pcs. Nothing is assumed.
-/
import Derived.Test.YthjkafeklflgbaaFb1
import Derived.Laws.MakeOwn
import Derived.Laws.StructEq
import Derived.Laws.Cover4
import Derived.Laws.IdiomStrings
import Derived.Laws.CopyRow
import Derived.Laws.Tables
import Derived.LoopNIn
import Derived.MapKept
import Derived.Test.YthjkafeklflgbaaProg
import Derived.Shelf.Abstract
namespace Go.Proofs.Ythjkafeklflgbaa
open Go.RowKit Go.Lib
set_option linter.unusedVariables false
set_option linter.unusedSimpArgs false

def encI (k : IntKind) (x : Int) : List Value := [.int k x]
def encB (x : Bool) : List Value := [.bool x]
def encS (x : ByteArray) : List Value := [.string x]
theorem encI_len {k : IntKind} (x : Int) : (encI k x).length = 1 := rfl
theorem encB_len (x : Bool) : (encB x).length = 1 := rfl
theorem encS_len (x : ByteArray) : (encS x).length = 1 := rfl
theorem encI_one {k : IntKind} (x : Int) : ∀ u ∈ encI k x, u.oneCell' = true := by
  intro u hu
  simp only [encI, List.mem_cons, List.not_mem_nil, or_false] at hu
  rcases hu with rfl; rfl
theorem encB_one (x : Bool) : ∀ u ∈ encB x, u.oneCell' = true := by
  intro u hu
  simp only [encB, List.mem_cons, List.not_mem_nil, or_false] at hu
  rcases hu with rfl; rfl
theorem encS_one (x : ByteArray) : ∀ u ∈ encS x, u.oneCell' = true := by
  intro u hu
  simp only [encS, List.mem_cons, List.not_mem_nil, or_false] at hu
  rcases hu with rfl; rfl

theorem sepL.back {L As : List Asn} : ∀ (ks : List Nat), pickAll L ks = some As → distinct ks = true → ∀ {C1 C2 : Nat → Prop} {w : World}, sepL As C1 w → sepL (emps L ks) C2 w → (∀ k, C1 k → ¬ C2 k) → sepL L (fun k => C1 k ∨ C2 k) w := by
  intro ks
  induction ks generalizing L As with
  | nil =>
    intro h _ C1 C2 w h1 h2 h3
    simp only [pickAll, Option.some.injEq] at h; subst h
    exact h2.congr (fun k => ⟨fun h => h.resolve_left (h1 k), .inr⟩)
  | cons k ks ih =>
    intro h hd C1 C2 w h1 h2 h3
    simp only [distinct, Bool.and_eq_true, Bool.not_eq_true'] at hd
    simp only [pickAll] at h
    split at h
    · rename_i A As' g1 g2
      cases h
      obtain ⟨D1, D2, e1, e2, e3, e4⟩ := h1
      have hk : k < L.length := (List.getElem?_eq_some_iff.1 g1).1
      have := ih (L := L.set k emp) (As := As') (by rw [pickAll_set hd.1]; exact g2) hd.2 e2 (show sepL (emps (L.set k emp) ks) C2 w from h2) (fun j hj => h3 j ((e4 j).2 (.inr hj)))
      have h5 := sepL.put (C := fun j => C1 j ∨ C2 j) hk e1 this (fun j hj hj' => by
        rcases hj' with h | h
        · exact e3 j hj h
        · exact h3 j ((e4 j).2 (.inl hj)) h) (fun j => by rw [e4, or_assoc])
      rwa [set_self g1] at h5
    · cases h

section
variable {F : Fence} {P : Program} {w0 : World} {K : Nat → Prop} {N : Nat} {dfs : List Deferred} {ops : Array Oper} {Q : Exit → Act → World → Prop} {rest : List Oper} {σ σ' : List (Nat × Value)} {L L' R As Bs : List Asn} {o : Oper} {v : Value}
  {d : Nat} {t : TypeId} {op : Op} {ty : TypeId} {pos : String} {aft : Array Edge} {g : Option (Nat × Bool)} {x y z : Operand} {c c1 c2 c3 : Code} {k : Nat} {A B : Asn} {RO : List (Nat × Obj)}
  {α : Type} {enc : α → List Value} {e : TypeId} {size : Nat} {xs : List α} {vv : Value} {s : ByteArray} {ex : Exit}
/-- A call that gives back the blocks that it takes. -/
theorem TO.callK [WideF F] {xs : List Operand} {ats : Array TypeId} {f : FuncId} {first cap : Array Value} {vs vs' : List Value}
    (hg : gd ops σ g = some true) (hd : d < N) (hx : ev σ x = some (.func (.func f) first cap)) (hxs : evL σ xs = some vs) (hv : first.toList ++ vs ++ cap.toList = vs')
    (hent : ∀ args w, (callFunc f args).run P w = .ok (.enter f args) w) (hF : Fn P f vs' As (fun _ : Unit => v) (fun _ => As)) (ks : List Nat) (hs : pickAll L ks = some As) (hk : distinct ks = true)
    (h : TO F P w0 K N dfs ops Q rest ((d, v) :: σ) L) :
    TO F P w0 K N dfs ops Q (⟨some d, .call { callee := .value x, args := xs.toArray, argTypes := ats }, ty, pos, aft, g⟩ :: rest) σ L := by
  intro a w ha hw
  simp only [wpListIn, gd_wanted (o := ⟨some d, .call { callee := .value x, args := xs.toArray, argTypes := ats }, ty, pos, aft, g⟩) ha hg, if_true]
  refine ⟨fun f _ => WideF.fn f, ?_⟩
  have h1 : (execOp a.eval ⟨some d, .call { callee := .value x, args := xs.toArray, argTypes := ats }, ty, pos, aft, g⟩).run P w = .ok (.enter f vs'.toArray) w := by
    have e : first ++ vs.toArray ++ cap = vs'.toArray := by rw [← hv]; simp
    simp only [execOp, resolve, List.map_toArray, ha.evL hxs, ha.ev hx, Deferred.ofValue, Sem.run_bind, Sem.run_pure, Result.andThen_ok, invoke, e, hent]
  rw [Oper.semAt_plain F _ _ (by simp), h1]
  refine ⟨(fun h => by rw [WideF.depth (F := F)] at h; cases h), ?_⟩
  obtain ⟨C, hL, hx0⟩ := hw
  obtain ⟨C1, C2, g1, g2, g3, g4⟩ := Splits.of ks hs hk C w hL
  refine WideF.calls ((hF w C1 g1).mono ?_)
  rintro e w' ⟨b, rfl, C', hB, hx'⟩
  refine h _ w' (ha.put hd _) ⟨fun j => C' j ∨ C2 j, sepL.back ks hs hk hB (g2.loc hx'.1.size (fun k hk => hx'.1.keep k (g2.lt k hk) (fun h => g3 k h hk))) (fun j hj hj' => ?_), ?_, ?_⟩
  · rcases hx'.2 j hj with h | h
    · exact g3 j h hj'
    · have := g2.lt j hj'; omega
  · exact hx0.1.trans' hx'.1 (fun i hi hc => by
      rcases hx0.2 i ((g4 i).2 (.inl hc)) with h | h
      · exact h
      · omega)
  · intro j hj
    have := hx0.1.size
    have h9 := hx'.1.size
    rcases hj with hj | hj
    · rcases hx'.2 j hj with h | h
      · rcases hx0.2 j ((g4 j).2 (.inl h)) with h | h
        · exact .inl h
        · exact .inr ⟨h.1, by omega⟩
      · exact .inr ⟨by omega, h.2⟩
    · rcases hx0.2 j ((g4 j).2 (.inr hj)) with h | h
      · exact .inl h
      · exact .inr ⟨h.1, by omega⟩
theorem TX.newVec (h : TX w0 K N dfs Q ex σ (L ++ [vec enc e size (.slice none 0 0) ([] : List α)])) : TX w0 K N dfs Q ex σ L := fun a w ha hw =>
  h a w ha (hw.grow (C' := fun _ => False) (Ext.refl _ _) (sepL.one (A := vec enc e size (.slice none 0 0) ([] : List α)) Vec.nil))
theorem TX.newByt (h : TX w0 K N dfs Q ex σ (L ++ [byt e (.slice none 0 0) ⟨#[]⟩])) : TX w0 K N dfs Q ex σ L := fun a w ha hw =>
  h a w ha (hw.grow (C' := fun _ => False) (Ext.refl _ _) (sepL.one (A := byt e (.slice none 0 0) ⟨#[]⟩) Byt.nil))
theorem TX.toVec {b : Nat} {cs : List Value} (ys : List α) (hk : L[k]? = some (cells b cs e)) (hlen : ∀ x, (enc x).length = size) (hcs : cs = ys.flatMap enc) (hm : ys.length ≤ maxLen)
    (h : TX w0 K N dfs Q ex σ (L.set k (vec enc e size (.slice (some ⟨b, 0, none⟩) ys.length ys.length) ys))) : TX w0 K N dfs Q ex σ L := fun a w ha hw => h a w ha (hw.toVec ys hk hlen hcs hm)
theorem TX.vecVw (hk : L[k]? = some (vec enc e size vv xs)) (h : Vw vv xs size 0 vv xs → TX w0 K N dfs Q ex σ L) : TX w0 K N dfs Q ex σ L := fun a w ha hw => h (vec_cap hw hk) a w ha hw
theorem Vw.one {Ls : List α} (h : Vw vv Ls size k v xs) : v.oneCell' = true := by
  obtain ⟨_, _, q, c, rfl, _⟩ := h; rfl
theorem TO.lenNil [WideF F] {tt te : TypeId} (hg : gd ops σ g = some true) (hd : d < N) (hx : ev σ x = some (.slice none 0 0)) (ht : P.underlying tt = some (.slice te))
    (h : TO F P w0 K N dfs ops Q rest ((d, .int .i64 0) :: σ) L) : TO F P w0 K N dfs ops Q (⟨some d, .call { callee := .builtin .len, args := #[x], argTypes := #[tt] }, ty, pos, aft, g⟩ :: rest) σ L :=
  TO.val hg hd (by simp) (fun a w ha hw => by
    have := ha.ev hx
    simp [execOp, resolve, invoke, builtin, this, Builtin.len_, run_underlying ht, Sem.run_bind, goInt]) h
/-! ### Comparisons -/
theorem bin_booleql {m n : Bool} (ht : P.underlying t = some .bool) (w : World) : (do eqGuard .eql t x y (.bool m) (.bool n); binOp .eql t (.bool m) (.bool n) : Sem Value).run P w = .ok (.bool (m == n)) w := by
  simp [eqGuard, binOp, Sem.run_bind, run_equal_bool w t m n ht]
theorem bin_boolneq {m n : Bool} (ht : P.underlying t = some .bool) (w : World) : (do eqGuard .neq t x y (.bool m) (.bool n); binOp .neq t (.bool m) (.bool n) : Sem Value).run P w = .ok (.bool (m != n)) w := by
  simp [eqGuard, binOp, Sem.run_bind, run_equal_bool w t m n ht, bne]
theorem equal_ptrR {e' : TypeId} {a : Addr} {w : World} (ht : P.underlying t = some (.pointer e')) : (Op.equal t (.pointer (some a)) (.pointer none)).run P w = .ok false w := by
  have h : ∀ d, (Op.equalIn (d + 1) t (.pointer (some a)) (.pointer none)).run P w = .ok false w := fun d => by simp [Op.equalIn, run_underlying ht]
  exact h 9999
theorem bin_ptrnileqlR {e' : TypeId} {a : Addr} (ht : P.underlying t = some (.pointer e')) (w : World) : (do eqGuard .eql t x y (.pointer (some a)) (.pointer none); binOp .eql t (.pointer (some a)) (.pointer none) : Sem Value).run P w = .ok (.bool false) w := by
  simp [eqGuard, binOp, Sem.run_bind, equal_ptrR ht]
theorem bin_ptrnilneqR {e' : TypeId} {a : Addr} (ht : P.underlying t = some (.pointer e')) (w : World) : (do eqGuard .neq t x y (.pointer (some a)) (.pointer none); binOp .neq t (.pointer (some a)) (.pointer none) : Sem Value).run P w = .ok (.bool true) w := by
  simp [eqGuard, binOp, Sem.run_bind, equal_ptrR ht]
/-- A test of structs, out of the fields' tests. -/
theorem bin_agg {b : BinOp} {p : Bool} {xs ys : Array Value} (hb : b = .eql ∨ b = .neq) (hm : P.eqGuardType P.depth t = false) (h : ∀ w, (Op.equalIn 10000 t (.agg xs) (.agg ys)).run P w = .ok p w) (w : World) :
    (do eqGuard b t x y (.agg xs) (.agg ys); binOp b t (.agg xs) (.agg ys) : Sem Value).run P w = .ok (.bool (if b = .eql then p else !p)) w := by
  rcases hb with rfl | rfl
  · simp only [Sem.run_bind, run_eqGuard_agg w _ _ _ _ _ _ hm, Result.andThen_ok, run_eql_struct, h]; rfl
  · simp only [Sem.run_bind, run_eqGuard_agg w _ _ _ _ _ _ hm, Result.andThen_ok, run_neq_struct, h]; rfl
theorem eqF_at {dd i off : Nat} {xs ys : Array Value} {t' ft : TypeId} {a b : Value} {p q : Bool} (hf : ((P.fieldsOf t').toList[i]?).map (fun f => (f.name != "_", f.type, f.offset)) = some (true, ft, off))
    (ha : ∀ w : World, (part ft xs off).run P w = .ok a w) (hb : ∀ w : World, (part ft ys off).run P w = .ok b w) (he : ∀ w, (Op.equalIn dd ft a b).run P w = .ok p w)
    (hr : ∀ w, (Op.eqFields dd xs ys ((P.fieldsOf t').toList.drop (i + 1))).run P w = .ok q w) (w : World) : (Op.eqFields dd xs ys ((P.fieldsOf t').toList.drop i)).run P w = .ok (p && q) w := by
  simp only [Option.map_eq_some_iff] at hf
  obtain ⟨f, hf, he'⟩ := hf
  simp only [Prod.mk.injEq] at he'
  obtain ⟨h1, rfl, rfl⟩ := he'
  have hl := (List.getElem?_eq_some_iff.1 hf).1
  have hd : (P.fieldsOf t').toList.drop i = f :: (P.fieldsOf t').toList.drop (i + 1) := by
    rw [List.drop_eq_getElem_cons hl]; congr 1; exact (List.getElem?_eq_some_iff.1 hf).2
  rw [hd, Op.eqFields, if_pos (by simpa using h1)]
  simp only [Sem.run_bind, ha, hb, he, Result.andThen_ok]
  cases p
  · simp
  · simp [hr]
theorem eqF_end {dd n : Nat} {xs ys : Array Value} {t' : TypeId} (h : (P.fieldsOf t').toList.length = n) (w : World) : (Op.eqFields dd xs ys ((P.fieldsOf t').toList.drop n)).run P w = .ok true w := by
  rw [← h, List.drop_length]; rfl
theorem eqF_str {dd : Nat} {a b : ByteArray} (h : P.underlying t = some .string) (w : World) : (Op.equalIn (dd + 1) t (.string a) (.string b)).run P w = .ok (decide (a = b)) w := by
  rw [run_equalIn_string w dd t a b h, beq_toList]
theorem eqF_int {dd : Nat} {k k' : IntKind} {a b : Int} (h : P.underlying t = some (.int k')) (w : World) : (Op.equalIn (dd + 1) t (.int k a) (.int k b)).run P w = .ok (a == b) w := run_equalIn_int w dd t k k' a b h
theorem eqF_bool {dd : Nat} {a b : Bool} (h : P.underlying t = some .bool) (w : World) : (Op.equalIn (dd + 1) t (.bool a) (.bool b)).run P w = .ok (a == b) w := run_equalIn_bool' w dd t a b h
theorem eqF_agg {dd : Nat} {xs ys : Array Value} {p : Bool} (ht : P.underlying t = some (.struct (P.fieldsOf t))) (hp : P.stoodInHeld t = false) (h : ∀ w, (Op.eqFields dd xs ys ((P.fieldsOf t).toList.drop 0)).run P w = .ok p w) (w : World) :
    (Op.equalIn (dd + 1) t (.agg xs) (.agg ys)).run P w = .ok p w := by
  rw [run_equalIn_agg w dd t xs ys ht hp]; simpa using h w
theorem bin_aggE {p q : Bool} {xs ys : Array Value} (hm : P.eqGuardType P.depth t = false) (hq : p = q) (h : ∀ w, (Op.equalIn 10000 t (.agg xs) (.agg ys)).run P w = .ok p w) (w : World) :
    (do eqGuard .eql t x y (.agg xs) (.agg ys); binOp .eql t (.agg xs) (.agg ys) : Sem Value).run P w = .ok (.bool q) w := by
  subst hq; exact bin_agg (.inl rfl) hm h w
theorem bin_aggN {p q : Bool} {xs ys : Array Value} (hm : P.eqGuardType P.depth t = false) (hq : p = q) (h : ∀ w, (Op.equalIn 10000 t (.agg xs) (.agg ys)).run P w = .ok p w) (w : World) :
    (do eqGuard .neq t x y (.agg xs) (.agg ys); binOp .neq t (.agg xs) (.agg ys) : Sem Value).run P w = .ok (.bool (!q)) w := by
  subst hq; exact bin_agg (.inr rfl) hm h w
/-! ### A store of several cells into an element -/
theorem setFrom_get : ∀ (vs l : List Value) (j i : Nat), j + vs.length ≤ l.length → (setFrom l j vs)[i]? = if i < j then l[i]? else if i < j + vs.length then vs[i - j]? else l[i]?
  | [], l, j, i, h => by simp [setFrom]; omega
  | v :: vs, l, j, i, h => by
    simp only [setFrom, List.length_cons] at h ⊢
    rw [setFrom_get vs (l.set j v) (j + 1) i (by simp; omega), List.getElem?_set]
    by_cases h1 : i < j
    · rw [if_pos (by omega), if_neg (by omega), if_pos h1]
    · rw [if_neg h1]
      by_cases h2 : i = j
      · subst h2
        rw [if_pos (by omega), if_pos rfl, if_pos (by omega), if_pos (by omega)]; simp
      · rw [if_neg (by omega)]
        by_cases h3 : i < j + (vs.length + 1)
        · rw [if_pos (by omega), if_pos h3]
          have : i - j = (i - (j + 1)) + 1 := by omega
          rw [this, List.getElem?_cons_succ]
        · rw [if_neg (by omega), if_neg h3, if_neg (by omega)]
theorem holds_storesVec {i : Nat} {q : α} (hz : ∀ x, (enc x).length = size) (hk : k < L.length) (hq : xs[i]? = some q) : ∀ (vs : List Value) (j : Nat) (f : Nat → α) (w : World), j + vs.length ≤ size → (∀ n, n < vs.length → enc (f (n + 1)) = (enc (f n)).set (j + n) (vs.getD n undef)) →
    Holds w0 K (L.set k (vec enc e size vv (xs.set i (f 0)))) w → Holds w0 K (L.set k (vec enc e size vv (xs.set i (f vs.length)))) (w.setCells (vblk vv) (i * size + j) vs)
  | [], j, f, w, hj, hf, h => h
  | v :: vs, j, f, w, hj, hf, h => by
    simp only [World.setCells, List.length_cons] at hj ⊢
    have hi : i < xs.length := (List.getElem?_eq_some_iff.1 hq).1
    have h0 := hf 0 (by simp)
    have hstep : Holds w0 K (L.set k (vec enc e size vv (xs.set i (f 1)))) (w.setCell ⟨vblk vv, i * size + j, none⟩ v) := by
      obtain ⟨C, hV, hs⟩ := h.focus (k := k) (A := vec enc e size vv (xs.set i (f 0))) (by simp [hk])
      have hne : xs.set i (f 0) ≠ [] := by intro h; have := congrArg List.length h; simp at this; simp [this] at hi
      have hV' := hV
      obtain ⟨cap, he⟩ := hV'.ptr hne
      have hx0 : (xs.set i (f 0))[i]? = some (f 0) := by simp [hi]
      rw [← List.set_set (a := f 0) (i := i), ← List.set_set (a := vec enc e size vv (xs.set i (f 0)))]
      refine hs _ C _ ((Ext.refl _ _).setCell ?_ _) ?_
      · obtain ⟨hR, rfl⟩ := hV'
        rw [he]; rfl
      · generalize hb : vblk vv = bb at *
        subst he
        obtain ⟨hR, hC⟩ := hV'
        exact ⟨(Rw.stored hz hR hx0 (by omega) (f 1) (by simpa using h0)).1, hC⟩
    have := holds_storesVec hz hk hq vs (j + 1) (fun n => f (n + 1)) _ (by omega) (fun n hn => by
      have := hf (n + 1) (by simpa using hn)
      rw [show j + 1 + n = j + (n + 1) by omega]; simpa using this) hstep
    simpa [Nat.add_assoc] using this
theorem TO.storesVec [WideF F] {i j off n : Nat} {q q' : α} {vs : List Value} (hT : SizeOk P t n) (hz : ∀ x, (enc x).length = size) (hg : gd ops σ g = some true) (hx : ev σ x = some (.pointer (some ⟨vblk vv, off, none⟩))) (hy : ev σ y = some (.agg vs.toArray)) (hk : L[k]? = some (vec enc e size vv xs))
    (hq : xs[i]? = some q) (ho : off = i * size + j) (hj : j + n ≤ size) (hn : vs.length = n) (h1 : vs.all (·.oneCell') = true) (f : Nat → α) (hf0 : f 0 = q) (hfn : f n = q') (hf : ∀ m, m < n → enc (f (m + 1)) = (enc (f m)).set (j + m) (vs.getD m undef))
    (h : TO F P w0 K N dfs ops Q rest σ (L.set k (vec enc e size vv (xs.set i q')))) : TO F P w0 K N dfs ops Q (⟨none, .store t x y, ty, pos, aft, g⟩ :: rest) σ L := by
  subst ho; subst hn; subst hfn
  have hlen : k < L.length := (List.getElem?_eq_some_iff.1 hk).1
  have hi : i < xs.length := (List.getElem?_eq_some_iff.1 hq).1
  refine TO.stepSkip hg (by simp) fun a w ha hw => ⟨w.setCells (vblk vv) (i * size + j) vs, ?_, h _ _ ha (holds_storesVec hz hlen hq vs j f w hj hf (by
    have e1 : xs.set i (f 0) = xs := by rw [hf0]; exact set_self hq
    rw [e1, set_self hk]; exact hw))⟩
  obtain ⟨C, hV, _⟩ := hw.focus hk
  have ht : w.there (vblk vv) (i * size + j) vs.toArray.size := fun m hm => by
    have hm' : m < vs.length := by simpa using hm
    have hl : j + m < size := by omega
    have hc := hV.cellAt hz hq hl (List.getElem?_eq_getElem (by rw [hz]; exact hl))
    rw [Nat.add_assoc]
    exact ⟨by rw [hc]; rfl, hV.frozenAt (by intro h; simp [h] at hi) _⟩
  simp only [execOp, ha.ev hx, ha.ev hy, Sem.run_bind, run_storeAt_mid w (vblk vv) (i * size + j) t vs.toArray ht (by simpa [SizeOk] using hT) (by simpa using h1)]; rfl
/-! ### Bytes as numbers -/
def ints (b : ByteArray) : List Int := b.data.toList.map (fun c => (c.toNat : Int))
def bytesOf (l : List Int) : ByteArray := ⟨(l.map (fun x => UInt8.ofNat x.toNat)).toArray⟩
theorem ints_length (b : ByteArray) : (ints b).length = b.size := by simp [ints]
theorem bytesOf_size (l : List Int) : (bytesOf l).size = l.length := by
  show ((l.map (fun x => UInt8.ofNat x.toNat)).toArray).size = _; simp
theorem bytesOf_ints (b : ByteArray) : bytesOf (ints b) = b := by
  apply ByteArray.ext
  simp [bytesOf, ints, Function.comp_def]
theorem ints_bytesOf {l : List Int} (h : ∀ x ∈ l, U8 x) : ints (bytesOf l) = l := by
  simp only [ints, bytesOf, List.map_map]
  conv => rhs; rw [← List.map_id l]
  refine List.map_congr_left fun x hx => ?_
  have := h x hx
  simp only [Function.comp, id, UInt8.toNat_ofNat']
  omega
theorem getO_ints {b : ByteArray} {i : Int} : getO (ints b) i = getB b i := by
  unfold getO getB ints; split <;> simp
theorem byt_vec {v : Value} {b : ByteArray} : byt e v b = vec (encI .u8) e 1 v (ints b) := by
  have h1 : strCells b = (ints b).flatMap (encI .u8) := by
    simp only [strCells, ints, encI, List.flatMap_map]
    generalize b.data.toList = l
    induction l with
    | nil => rfl
    | cons c l ih => rw [List.map_cons, ih, List.flatMap_cons]; rfl
  have : ∀ C w, Byt e v b C w ↔ Vec (encI .u8) e 1 v (ints b) C w := fun C w => by
    unfold Byt Vec Rw; rw [ints_length, h1]
  unfold byt vec
  congr 1
  funext C w
  exact propext (this C w)
theorem vec_byt {v : Value} {l : List Int} (h : ∀ x ∈ l, U8 x) : vec (encI .u8) e 1 v l = byt e v (bytesOf l) := by rw [byt_vec, ints_bytesOf h]
theorem makeCells_flat {zv : Value} {enc : α → List Value} {z : α} (hz : zv.cells.toList = enc z) (h0 : zv.cells.size = size) (hp : 0 < size) : ∀ n : Nat, (madeCells zv.cells (n * size)).toList = (List.replicate n z).flatMap enc := by
  have hl : (enc z).length = size := by rw [← hz]; simpa using h0
  intro n
  apply List.ext_getElem?
  intro i
  have hfl : ∀ m, ((List.replicate m z).flatMap enc).length = m * size := fun m => by
    induction m with
    | zero => simp
    | succ m ih => rw [List.replicate_succ, List.flatMap_cons, List.length_append, ih, hl, Nat.add_mul, Nat.one_mul, Nat.add_comm]
  by_cases hi : i < n * size
  · have e1 : ((List.replicate n z).flatMap enc)[i]? = (enc z)[i % size]? := by
      clear h0
      induction n generalizing i with
      | zero => simp at hi
      | succ n ih =>
        rw [List.replicate_succ, List.flatMap_cons]
        by_cases h : i < size
        · rw [List.getElem?_append_left (by omega), Nat.mod_eq_of_lt h]
        · rw [List.getElem?_append_right (by omega), hl, ih (i - size) (by rw [Nat.add_mul] at hi; omega), ← Nat.mod_eq_sub_mod (by omega)]
    rw [e1, ← hz]
    have hm : i % size < zv.cells.size := by rw [h0]; exact Nat.mod_lt _ hp
    simp [madeCells, hi, h0, Array.getElem?_eq_getElem hm]
    rw [getElem!_pos _ _ (by rw [← h0] at hm ⊢; exact hm)]
  · rw [List.getElem?_eq_none (by simp [size_madeCells]; omega), List.getElem?_eq_none (by rw [hfl]; omega)]
/-- 'make([]T, n)'. -/
theorem TO.makeVec [WideF F] {sl : Operand} {tt : TypeId} {z : α} {n : Int} (ht : P.underlying tt = some (.slice e)) (hE : ElemOk P e size) (hZ : ZeroOk P e (enc z)) (hlen : ∀ x, (enc x).length = size) (hg : gd ops σ g = some true) (hd : d < N) (hs : ev σ sl = some (.int .i64 n))
    (hn : 0 ≤ n ∧ n ≤ 2147483648)
    (h : ∀ v', TO F P w0 K N dfs ops Q rest ((d, v') :: σ) (L ++ [vec enc e size v' (List.replicate n.toNat z)])) :
    TO F P w0 K N dfs ops Q (⟨some d, .makeSlice tt sl sl, ty, pos, aft, g⟩ :: rest) σ L := by
  obtain ⟨i, zv, hi, hz0, hsize, hzs, hsz, hbytes⟩ := hE
  obtain ⟨i', z', hi', hz', hzc⟩ := hZ.some
  rw [hi] at hi'; cases hi'
  rw [hz0] at hz'; cases hz'
  refine TO.step hg (by simp) fun a w ha hw => ?_
  have hb : (i.bytes : Int) * n ≤ 281474976710656 := by
    have h1 : (i.bytes : Int) ≤ 65536 := by omega
    calc (i.bytes : Int) * n ≤ 65536 * 2147483648 := Int.mul_le_mul h1 hn.2 hn.1 (by omega)
      _ ≤ _ := by omega
  have hr := run_make (P := P) w tt e i zv ht hi hz0 .i64 .i64 n n hn.1 (Int.le_refl _) hb (by omega)
  refine ⟨_, _, by simp only [execOp, ha.ev hs, Sem.run_bind, hr]; rfl, h _ _ _ (ha.put hd _) ?_⟩
  have h2 := hw.alloc (.cells (madeCells zv.cells (n.toNat * i.size)) e (0, 0))
  have h3 : (Go.Proofs.Ythjkafeklflgbaa.obj w.heap.size (.cells (madeCells zv.cells (n.toNat * i.size)) e (0, 0))) = cells w.heap.size ((List.replicate n.toNat z).flatMap enc) e := by
    unfold cells
    rw [← makeCells_flat hzc hzs hsz, hsize]
  rw [h3] at h2
  have h4 := h2.toVec (k := L.length) (size := size) (List.replicate n.toNat z) (b := w.heap.size) (e := e) (by simp) hlen rfl (by simp [maxLen]; omega)
  simpa using h4
theorem TO.max2 [WideF F] {ats : Array TypeId} {kk : IntKind} {m n : Int} (hg : gd ops σ g = some true) (hd : d < N) (hx : ev σ x = some (.int kk m)) (hy : ev σ y = some (.int kk n))
    (h : TO F P w0 K N dfs ops Q rest ((d, .int kk (max m n)) :: σ) L) : TO F P w0 K N dfs ops Q (⟨some d, .call { callee := .builtin .max, args := #[x, y], argTypes := ats }, ty, pos, aft, g⟩ :: rest) σ L :=
  TO.val hg hd (by simp) (fun a w ha hw => by
    have h1 := ha.ev hx; have h2 := ha.ev hy
    have e : (if n > m then n else m) = max m n := by rw [Int.max_def]; split <;> split <;> omega
    simp [execOp, resolve, invoke, builtin, h1, h2, Builtin.max_, Builtin.max2, Sem.run_bind, e]) h
theorem TO.min2 [WideF F] {ats : Array TypeId} {kk : IntKind} {m n : Int} (hg : gd ops σ g = some true) (hd : d < N) (hx : ev σ x = some (.int kk m)) (hy : ev σ y = some (.int kk n))
    (h : TO F P w0 K N dfs ops Q rest ((d, .int kk (min m n)) :: σ) L) : TO F P w0 K N dfs ops Q (⟨some d, .call { callee := .builtin .min, args := #[x, y], argTypes := ats }, ty, pos, aft, g⟩ :: rest) σ L :=
  TO.val hg hd (by simp) (fun a w ha hw => by
    have h1 := ha.ev hx; have h2 := ha.ev hy
    have e : (if n < m then n else m) = min m n := by rw [Int.min_def]; split <;> split <;> omega
    simp [execOp, resolve, invoke, builtin, h1, h2, Builtin.min_, Builtin.min2, Sem.run_bind, e]) h
theorem TC.starCons {j : Nat} {X : List Asn} (hk : L[k]? = some A) (hj : L[j]? = some (star X)) (hne : k ≠ j) (h : TC F P w0 K N dfs Q c σ ((L.set k emp).set j (star (A :: X)))) : TC F P w0 K N dfs Q c σ L := fun a w ha hw => h a w ha (hw.starCons hk hj hne)
theorem TO.bySplit {b : Bool} (ht : b = true → TO F P w0 K N dfs ops Q rest σ L) (hf : b = false → TO F P w0 K N dfs ops Q rest σ L) : TO F P w0 K N dfs ops Q rest σ L := by
  cases b with
  | true => exact ht rfl
  | false => exact hf rfl
theorem snoc_post {xs pre post post2 : List α} {x : α} (h : xs = pre ++ x :: post) (h2 : xs = pre ++ [x] ++ post2) : post = post2 := by
  rw [h, List.append_assoc] at h2
  have := List.append_cancel_left h2
  simpa using this
end
end Go.Proofs.Ythjkafeklflgbaa
namespace Go.Proofs.Ythjkafeklflgbaa
open Go.RowKit Go.Lib
set_option linter.unusedVariables false
set_option linter.unusedSimpArgs false
/-- There is something of which an assertion holds. -/
def exA {β : Type} (f : β → Asn) : Asn := ⟨fun C w => ∃ b, (f b).P C w, fun ⟨b, h⟩ => (f b).lt h, fun ⟨b, h⟩ hs hk => ⟨b, (f b).loc h hs hk⟩⟩
section
variable {F : Fence} {P : Program} {w0 : World} {K : Nat → Prop} {N : Nat} {dfs : List Deferred} {ops : Array Oper} {Q : Exit → Act → World → Prop} {rest : List Oper} {c : Code} {ex : Exit} {σ : List (Nat × Value)} {L As R : List Asn} {β : Type}
/-- What follows of some entries. -/
def Entl {β : Type} (As : List Asn) (Bs : β → List Asn) (I : β → Prop) : Prop := ∀ C w, sepL As C w → ∃ b, I b ∧ sepL (Bs b) C w
theorem Holds.entl {I : β → Prop} {Bs : β → List Asn} {w : World} (h : Holds w0 K L w) (hs : Splits L As R) (hE : Entl As Bs I) : ∃ b, I b ∧ Holds w0 K (R ++ Bs b) w := by
  obtain ⟨C1, h1, h2⟩ := h.split hs
  obtain ⟨b, hI, hb⟩ := hE C1 w h1
  exact ⟨b, hI, h2 _ C1 w (Ext.refl _ _) hb⟩
theorem TO.entl {I : β → Prop} {Bs : β → List Asn} (hs : Splits L As R) (hE : Entl As Bs I) (h : ∀ b, I b → TO F P w0 K N dfs ops Q rest σ (R ++ Bs b)) : TO F P w0 K N dfs ops Q rest σ L := fun a w ha hw => by
  obtain ⟨b, hI, hb⟩ := hw.entl hs hE; exact h b hI a w ha hb
theorem TC.entl {I : β → Prop} {Bs : β → List Asn} (hs : Splits L As R) (hE : Entl As Bs I) (h : ∀ b, I b → TC F P w0 K N dfs Q c σ (R ++ Bs b)) : TC F P w0 K N dfs Q c σ L := fun a w ha hw => by
  obtain ⟨b, hI, hb⟩ := hw.entl hs hE; exact h b hI a w ha hb
theorem TX.entl {I : β → Prop} {Bs : β → List Asn} (hs : Splits L As R) (hE : Entl As Bs I) (h : ∀ b, I b → TX w0 K N dfs Q ex σ (R ++ Bs b)) : TX w0 K N dfs Q ex σ L := fun a w ha hw => by
  obtain ⟨b, hI, hb⟩ := hw.entl hs hE; exact h b hI a w ha hb
end
/-- A slice's header. -/
structure Hd where
  p : Option Addr
  n : Nat
  c : Nat
def Hd.v (h : Hd) : Value := .slice h.p h.n h.c
def Hd.nil : Hd := ⟨none, 0, 0⟩
section
variable {α η : Type} {enc : α × η → List Value} {nest : α × η → List Asn} {e : TypeId} {size : Nat} {v : Value} {xs : List α} {i : Nat} {x : α}
/-- The slice v owns the records xs, and what these own. -/
def vecN (enc : α × η → List Value) (nest : α × η → List Asn) (e : TypeId) (size : Nat) (v : Value) (xs : List α) : Asn :=
  exA fun zs : {zs : List (α × η) // zs.map Prod.fst = xs} => star [vec enc e size v zs.1, star (zs.1.flatMap nest)]
theorem sepL.perm2 {A B : Asn} {C : Nat → Prop} {w : World} (h : sepL [A, B] C w) : ∃ C1 C2, A.P C1 w ∧ B.P C2 w ∧ (∀ k, C1 k → ¬ C2 k) ∧ ∀ k, C k ↔ C1 k ∨ C2 k := by
  obtain ⟨C1, C2, h1, ⟨D1, D2, g1, g2, g3, g4⟩, h3, h4⟩ := h
  have e : ∀ k, C2 k ↔ D1 k := fun k => by rw [g4]; exact ⟨fun h => h.resolve_right (g2 k), .inl⟩
  exact ⟨C1, D1, h1, g1, fun k h h' => h3 k h ((e k).2 h'), fun k => by rw [h4, e]⟩
theorem sepL.mk2 {A B : Asn} {C C1 C2 : Nat → Prop} {w : World} (h1 : A.P C1 w) (h2 : B.P C2 w) (h3 : ∀ k, C1 k → ¬ C2 k) (h4 : ∀ k, C k ↔ C1 k ∨ C2 k) : sepL [A, B] C w :=
  ⟨C1, C2, h1, ⟨C2, fun _ => False, h2, fun _ h => h, fun _ _ h => h, fun k => by simp⟩, h3, h4⟩
theorem sepL.one1 {A : Asn} {C : Nat → Prop} {w : World} : sepL [A] C w ↔ A.P C w := by
  constructor
  · rintro ⟨C1, C2, h1, h2, _, h4⟩
    have : C1 = C := funext fun k => propext ⟨fun h => (h4 k).2 (.inl h), fun h => ((h4 k).1 h).resolve_right (h2 k)⟩
    rw [← this]; exact h1
  · exact fun h => ⟨C, fun _ => False, h, fun _ h => h, fun _ _ h => h, fun k => by simp⟩
/-- Opened, with names for what its records own. -/
theorem Entl.open : Entl [vecN enc nest e size v xs] (fun zs : List (α × η) => [vec enc e size v zs, star (zs.flatMap nest)]) (fun zs => zs.map Prod.fst = xs) := by
  intro C w h
  obtain ⟨zs, hz⟩ := sepL.one1.1 h
  exact ⟨zs.1, zs.2, hz⟩
theorem Entl.close {zs : List (α × η)} (hz : zs.map Prod.fst = xs) : Entl [vec enc e size v zs, star (zs.flatMap nest)] (fun _ : Unit => [vecN enc nest e size v xs]) (fun _ => True) :=
  fun C w h => ⟨(), trivial, sepL.one1.2 ⟨⟨zs, hz⟩, h⟩⟩
theorem sepL.app {A B : List Asn} {C : Nat → Prop} {w : World} (h : sepL (A ++ B) C w) : ∃ C1 C2, sepL A C1 w ∧ sepL B C2 w ∧ (∀ k, C1 k → ¬ C2 k) ∧ ∀ k, C k ↔ C1 k ∨ C2 k := by
  induction A generalizing C with
  | nil => exact ⟨fun _ => False, C, fun _ h => h, h, fun _ h => h.elim, fun k => by simp⟩
  | cons A L ih =>
    obtain ⟨C1, C2, h1, h2, h3, h4⟩ := h
    obtain ⟨D1, D2, g1, g2, g3, g4⟩ := ih h2
    refine ⟨fun k => C1 k ∨ D1 k, D2, ⟨C1, D1, h1, g1, fun k h h' => h3 k h ((g4 k).2 (.inl h')), fun k => Iff.rfl⟩, g2, fun k h h' => ?_, fun k => ?_⟩
    · rcases h with h | h
      · exact h3 k h ((g4 k).2 (.inr h'))
      · exact g3 k h h'
    · rw [h4, g4, or_assoc]
theorem sepL.append' {A B : List Asn} {C C1 C2 : Nat → Prop} {w : World} (h1 : sepL A C1 w) (h2 : sepL B C2 w) (h3 : ∀ k, C1 k → ¬ C2 k) (h4 : ∀ k, C k ↔ C1 k ∨ C2 k) : sepL (A ++ B) C w := (h1.append h2 h3).congr h4
/-- One element's own, out of all. -/
theorem sepL.pull {zs : List (α × η)} {z : α × η} (hz : zs[i]? = some z) {C : Nat → Prop} {w : World} : sepL (zs.flatMap nest) C w ↔ ∃ C1 C2, sepL (nest z) C1 w ∧ sepL ((zs.eraseIdx i).flatMap nest) C2 w ∧ (∀ k, C1 k → ¬ C2 k) ∧ ∀ k, C k ↔ C1 k ∨ C2 k := by
  induction zs generalizing i C with
  | nil => simp at hz
  | cons y zs ih =>
    rw [List.flatMap_cons]
    rcases i with _ | i
    · simp at hz; subst hz
      constructor
      · exact fun h => sepL.app h
      · rintro ⟨C1, C2, h1, h2, h3, h4⟩; exact sepL.append' h1 h2 h3 h4
    · have hz' : zs[i]? = some z := by simpa using hz
      have e : (y :: zs).eraseIdx (i + 1) = y :: zs.eraseIdx i := rfl
      rw [e, List.flatMap_cons]
      constructor
      · intro h
        obtain ⟨C1, C2, h1, h2, h3, h4⟩ := sepL.app h
        obtain ⟨D1, D2, g1, g2, g3, g4⟩ := (ih hz').1 h2
        refine ⟨D1, fun k => C1 k ∨ D2 k, g1, sepL.append' h1 g2 (fun k h h' => h3 k h ((g4 k).2 (.inr h'))) (fun k => Iff.rfl), fun k h h' => ?_, fun k => ?_⟩
        · rcases h' with h' | h'
          · exact h3 k h' ((g4 k).2 (.inl h))
          · exact g3 k h h'
        · rw [h4, g4]; exact or_left_comm
      · rintro ⟨D1, E1, g1, hE, g3, g4⟩
        obtain ⟨C1, D2, h1, g2, h3, h4⟩ := sepL.app hE
        refine sepL.append' (C1 := C1) (C2 := fun k => D1 k ∨ D2 k) h1 ((ih hz').2 ⟨D1, D2, g1, g2, fun k h h' => g3 k h ((h4 k).2 (.inr h')), fun k => Iff.rfl⟩) (fun k h h' => ?_) (fun k => ?_)
        · rcases h' with h' | h'
          · exact g3 k h' ((h4 k).2 (.inl h))
          · exact h3 k h h'
        · rw [g4, h4]; exact or_left_comm
/-- Opened at an element. -/
theorem Entl.openAt (hx : xs[i]? = some x) : Entl [vecN enc nest e size v xs] (fun b : List (α × η) × η => [vec enc e size v b.1, star ((b.1.eraseIdx i).flatMap nest)] ++ nest (x, b.2)) (fun b => b.1.map Prod.fst = xs ∧ b.1[i]? = some (x, b.2)) := by
  intro C w h
  obtain ⟨⟨zs, hzs⟩, hz⟩ := sepL.one1.1 h
  obtain ⟨C1, C2, h1, h2, h3, h4⟩ := sepL.perm2 hz
  obtain ⟨z, hzi, hzx⟩ : ∃ z, zs[i]? = some z ∧ z.1 = x := by
    rw [← hzs, List.getElem?_map] at hx
    obtain ⟨z, a, b⟩ := Option.map_eq_some_iff.1 hx
    exact ⟨z, a, b⟩
  obtain ⟨x', h⟩ := z
  cases hzx
  obtain ⟨D1, D2, g1, g2, g3, g4⟩ := (sepL.pull hzi).1 h2
  refine ⟨(zs, h), ⟨hzs, hzi⟩, sepL.append' (C1 := fun k => C1 k ∨ D2 k) (C2 := D1) (sepL.mk2 h1 g2 (fun k a b => h3 k a ((g4 k).2 (.inr b))) (fun k => Iff.rfl)) g1 (fun k a b => ?_) (fun k => ?_)⟩
  · rcases a with a | a
    · exact h3 k a ((g4 k).2 (.inl b))
    · exact g3 k b a
  · rw [h4, g4]
    constructor
    · rintro (a | a | a)
      · exact .inl (.inl a)
      · exact .inr a
      · exact .inl (.inr a)
    · rintro ((a | a) | a)
      · exact .inl a
      · exact .inr (.inr a)
      · exact .inr (.inl a)
/-- Closed at an element, whatever it has become. -/
theorem Entl.closeAt {zs : List (α × η)} {x' : α} {h0 h : η} (hz : zs.map Prod.fst = xs) (hi : zs[i]? = some (x, h0)) : Entl ([vec enc e size v (zs.set i (x', h)), star ((zs.eraseIdx i).flatMap nest)] ++ nest (x', h)) (fun _ : Unit => [vecN enc nest e size v (xs.set i x')]) (fun _ => True) := by
  intro C w hC
  obtain ⟨C1, C2, h1, h2, h3, h4⟩ := sepL.app hC
  obtain ⟨D1, D2, g1, g2, g3, g4⟩ := sepL.perm2 h1
  have hlt : i < zs.length := (List.getElem?_eq_some_iff.1 hi).1
  have hs : (zs.set i (x', h))[i]? = some (x', h) := by simp [hlt]
  have he : (zs.set i (x', h)).eraseIdx i = zs.eraseIdx i := by
    rw [List.eraseIdx_set_eq]
  refine ⟨(), trivial, sepL.one1.2 ⟨⟨zs.set i (x', h), by rw [List.map_set, hz]⟩, sepL.mk2 (C1 := D1) (C2 := fun k => C2 k ∨ D2 k) g1 ((sepL.pull hs).2 ⟨C2, D2, h2, by rw [he]; exact g2, fun k a b => h3 k ((g4 k).2 (.inr b)) a, fun k => Iff.rfl⟩) (fun k a b => ?_) (fun k => ?_)⟩⟩
  · rcases b with b | b
    · exact h3 k ((g4 k).2 (.inl a)) b
    · exact g3 k a b
  · rw [h4, g4]
    constructor
    · rintro ((a | a) | a)
      · exact .inl a
      · exact .inr (.inr a)
      · exact .inr (.inl a)
    · rintro (a | a | a)
      · exact .inl (.inl a)
      · exact .inr a
      · exact .inl (.inr a)
theorem Entl.closeSame {zs : List (α × η)} {h : η} (hz : zs.map Prod.fst = xs) (hi : zs[i]? = some (x, h)) : Entl ([vec enc e size v zs, star ((zs.eraseIdx i).flatMap nest)] ++ nest (x, h)) (fun _ : Unit => [vecN enc nest e size v xs]) (fun _ => True) := by
  have e1 : zs.set i (x, h) = zs := by
    obtain ⟨hl, he⟩ := List.getElem?_eq_some_iff.1 hi
    rw [← he]; exact List.set_getElem_self hl
  have hx : xs.set i x = xs := by
    have := congrArg (List.map Prod.fst) e1
    rwa [List.map_set, hz] at this
  have := Entl.closeAt (enc := enc) (nest := nest) (e := e) (size := size) (v := v) (x' := x) (h := h) hz hi
  rwa [e1, hx] at this
/-- Closed behind an append. -/
theorem Entl.closeApp {zs : List (α × η)} {h : η} (hz : zs.map Prod.fst = xs) : Entl ([vec enc e size v (zs ++ [(x, h)]), star (zs.flatMap nest)] ++ nest (x, h)) (fun _ : Unit => [vecN enc nest e size v (xs ++ [x])]) (fun _ => True) := by
  intro C w hC
  obtain ⟨C1, C2, h1, h2, h3, h4⟩ := sepL.app hC
  obtain ⟨D1, D2, g1, g2, g3, g4⟩ := sepL.perm2 h1
  refine ⟨(), trivial, sepL.one1.2 ⟨⟨zs ++ [(x, h)], by rw [List.map_append, hz]; rfl⟩, sepL.mk2 (C1 := D1) (C2 := fun k => D2 k ∨ C2 k) g1 ?_ (fun k a b => ?_) (fun k => ?_)⟩⟩
  · show sepL ((zs ++ [(x, h)]).flatMap nest) _ w
    rw [List.flatMap_append, List.flatMap_cons, List.flatMap_nil, List.append_nil]
    exact sepL.append' g2 h2 (fun k a b => h3 k ((g4 k).2 (.inr a)) b) (fun k => Iff.rfl)
  · rcases b with b | b
    · exact g3 k a b
    · exact h3 k ((g4 k).2 (.inl a)) b
  · rw [h4, g4, or_assoc]
theorem Entl.nilN : Entl ([] : List Asn) (fun _ : Unit => [vecN enc nest e size (.slice none 0 0) ([] : List α)]) (fun _ => True) := by
  intro C w h
  refine ⟨(), trivial, sepL.one1.2 ⟨⟨[], rfl⟩, sepL.mk2 (C1 := fun _ => False) (C2 := C) Vec.nil h (fun _ h => h.elim) (fun k => by simp)⟩⟩
theorem vecN_len {C : Nat → Prop} {w : World} (h : (vecN enc nest e size v xs).P C w) : ∃ a c, v = .slice a xs.length c := by
  obtain ⟨⟨zs, hz⟩, h⟩ := h
  obtain ⟨C1, C2, h1, _⟩ := sepL.perm2 h
  have := Vec.len h1
  rw [← hz, List.length_map]; exact this
end
section
variable {F : Fence} {P : Program} {w0 : World} {K : Nat → Prop} {N : Nat} {dfs : List Deferred} {ops : Array Oper} {Q : Exit → Act → World → Prop} {rest : List Oper} {σ : List (Nat × Value)} {L : List Asn}
  {d : Nat} {ty : TypeId} {pos : String} {aft : Array Edge} {g : Option (Nat × Bool)} {x : Operand} {k : Nat} {α η : Type} {enc : α × η → List Value} {nest : α × η → List Asn} {e : TypeId} {size : Nat} {vv : Value} {xs : List α}
theorem TO.lenVecN [WideF F] {tt te : TypeId} (hg : gd ops σ g = some true) (hd : d < N) (hx : ev σ x = some vv) (hk : L[k]? = some (vecN enc nest e size vv xs)) (ht : P.underlying tt = some (.slice te))
    (h : TO F P w0 K N dfs ops Q rest ((d, .int .i64 xs.length) :: σ) L) : TO F P w0 K N dfs ops Q (⟨some d, .call { callee := .builtin .len, args := #[x], argTypes := #[tt] }, ty, pos, aft, g⟩ :: rest) σ L :=
  TO.val hg hd (by simp) (fun a w ha hw => by
    obtain ⟨C, hv, _⟩ := hw.focus hk
    obtain ⟨q, cc, hq⟩ := vecN_len hv
    have := ha.ev hx
    simp [execOp, resolve, invoke, builtin, this, hq, Builtin.len_, run_underlying ht, Sem.run_bind, goInt]) h
theorem one_vecN {w : World} (h : Holds w0 K L w) (hk : L[k]? = some (vecN enc nest e size vv xs)) : vv.oneCell' = true := by
  obtain ⟨C, hv, _⟩ := h.focus hk
  obtain ⟨q, cc, rfl⟩ := vecN_len hv; rfl
theorem TO.nameHd {ε : Type} {enc1 : ε → List Value} {ys : List ε} (hk : L[k]? = some (vec enc1 e size vv ys)) (h : ∀ hd : Hd, vv = hd.v → TO F P w0 K N dfs ops Q rest σ L) : TO F P w0 K N dfs ops Q rest σ L := fun a w ha hw => by
  obtain ⟨C, hv, _⟩ := hw.focus hk
  obtain ⟨q, cc, he⟩ := Vec.len hv
  exact h ⟨q, ys.length, cc⟩ he a w ha hw
theorem TO.nameHdN (hk : L[k]? = some (vecN enc nest e size vv xs)) (h : ∀ hd : Hd, vv = hd.v → TO F P w0 K N dfs ops Q rest σ L) : TO F P w0 K N dfs ops Q rest σ L := fun a w ha hw => by
  obtain ⟨C, hv, _⟩ := hw.focus hk
  obtain ⟨q, cc, he⟩ := vecN_len hv
  exact h ⟨q, xs.length, cc⟩ he a w ha hw
/-- A box that was read as a slice of one record is a box again. -/
theorem Entl.fromVec {b : Nat} {ε : Type} {enc1 : ε → List Value} {y : ε} (hlen : ∀ x, (enc1 x).length = size) : Entl [vec enc1 e size (.slice (some ⟨b, 0, none⟩) 1 1) [y]] (fun _ : Unit => [cells b (enc1 y) e]) (fun _ => True) := by
  intro C w h
  obtain ⟨h1, rfl⟩ := sepL.one1.1 h
  refine ⟨(), trivial, sepL.one1.2 ⟨fun k => by simp [Value.ownBlock, eq_comm], ?_⟩⟩
  obtain ⟨h2, h3⟩ := h1
  rcases h3 with ⟨h3, _⟩ | ⟨g, cap, cur, he, _, h5, h6, h7, h8, h9⟩
  · cases h3
  · cases he
    have e1 : [y].flatMap enc1 = enc1 y := by simp
    rw [e1] at h9 h2
    have hl : cur.toList.length = size := by simpa using h8
    have : cur.toList = enc1 y := by
      rw [← h9, List.take_of_length_le]
      simp [hl]
    have h10 : cur = (enc1 y).toArray := by rw [← this]
    rw [h5, h10]
end
end Go.Proofs.Ythjkafeklflgbaa
namespace Go.Proofs.Ythjkafeklflgbaa
open Go.RowKit Go.Lib
set_option linter.unusedVariables false
set_option linter.unusedSimpArgs false
section
variable {F : Fence} {P : Program} {w0 : World} {K : Nat → Prop} {N : Nat} {dfs : List Deferred} {ops : Array Oper} {Q : Exit → Act → World → Prop} {rest : List Oper} {σ : List (Nat × Value)} {L : List Asn}
  {d : Nat} {ty : TypeId} {pos : String} {aft : Array Edge} {g : Option (Nat × Bool)} {x y : Operand} {t e : TypeId} {size : Nat}
theorem TO.indexArr [WideF F] {n b o off : Nat} {i : Int} (h0 : 0 ≤ i ∧ i < n) (ht : P.underlying t = some (.array n e)) (hT : SizeOk P e size) (hg : gd ops σ g = some true) (hd : d < N) (hx : ev σ x = some (.pointer (some ⟨b, o, none⟩))) (hy : ev σ y = some (.int .i64 i))
    (ho : o + i.toNat * size = off)
    (h : TO F P w0 K N dfs ops Q rest ((d, .pointer (some ⟨b, off, none⟩)) :: σ) L) : TO F P w0 K N dfs ops Q (⟨some d, .indexAddr t x y, ty, pos, aft, g⟩ :: rest) σ L := by
  obtain ⟨ii, hu, hs⟩ := hT.some
  subst ho; subst hs
  obtain ⟨m, rfl⟩ : ∃ m : Nat, i = m := ⟨i.toNat, by omega⟩
  refine TO.val hg hd (by simp) (fun a w ha hw => ?_) h
  have h1 := ha.ev hx; have h2 := ha.ev hy
  have hi' : m < n := by omega
  simp [execOp, Instr.indexAt, h1, h2, asIntOf, run_underlying ht, Sem.run_bind, hi', sizeOf, typeInfo, hu, Addr.add_mid, Instr.sureAddr]
end
/-- An array that was read as a slice is an array again. -/
theorem Ent.fromVecs {b n : Nat} {ε : Type} {enc1 : ε → List Value} {size : Nat} {e : TypeId} {ys : List ε} (hn : ys.length = n) : Ent (vec enc1 e size (.slice (some ⟨b, 0, none⟩) n n) ys) (cells b (ys.flatMap enc1) e) := by
  intro C w h
  subst hn
  obtain ⟨h1, rfl⟩ := h
  refine ⟨fun k => by simp [Value.ownBlock, eq_comm], ?_⟩
  obtain ⟨h2, h3⟩ := h1
  rcases h3 with ⟨h3, _⟩ | ⟨g, cap, cur, he, _, h5, h6, h7, h8, h9⟩
  · cases h3
  · cases he
    have hl : cur.toList.length = ys.length * size := by simpa using h8
    have : cur.toList = ys.flatMap enc1 := by
      rw [← h9, List.take_of_length_le]
      omega
    have h10 : cur = (ys.flatMap enc1).toArray := by rw [← this]
    rw [h5, h10]
theorem index_arr {P : Program} {t e : TypeId} {α : Type} {enc : α → List Value} {size n : Nat} {xs : List α} {i : Int} {q : α} {v : Value} (ht : P.underlying t = some (.array n e)) (hT : SizeOk P e size) (hn : xs.length = n) (hlen : ∀ x, (enc x).length = size) (hq : getO xs i = some q)
    (hv : ∀ w : World, (part e (xs.flatMap enc).toArray (i.toNat * size)).run P w = .ok v w) (w : World) : (Instr.index t (.agg (xs.flatMap enc).toArray) (.int .i64 i)).run P w = .ok v w := by
  obtain ⟨ii, hu, hs⟩ := hT.some
  subst hs
  obtain ⟨h0, h1⟩ := getO_pos hq
  have h2 : ¬ i < 0 := by omega
  have h3 : i < (n : Int) := by omega
  have := hv w
  simp [Instr.index, asIntOf, run_underlying ht, Sem.run_bind, sizeOf, typeInfo, hu, h0, h3, this]
theorem part_arr {P : Program} {e : TypeId} {α : Type} {enc : α → List Value} {xs : List α} {i : Nat} {q : α} {v : Value} {w : World} (hT : ScalarOk P e) (hlen : ∀ x, (enc x).length = 1) (hv : [v] = enc q) (hq : xs[i]? = some q) :
    (part e (xs.flatMap enc).toArray (i * 1)).run P w = .ok v w := by
  obtain ⟨dd, hu, hr⟩ := hT
  have h1 : (xs.flatMap enc)[i * 1]? = some v := by
    have := flat_get hlen xs i 0 q hq (by omega)
    rw [Nat.add_zero] at this
    rw [this, ← hv]; rfl
  have h2 : (xs.flatMap enc).toArray[i * 1]? = some v := by simpa using h1
  cases dd <;> simp_all [part, isAgg, run_underlying hu, Sem.run_bind]
theorem flat_cut {α : Type} {enc : α → List Value} {size : Nat} (hlen : ∀ x, (enc x).length = size) : ∀ (xs : List α) (i : Nat) (q : α), xs[i]? = some q → ((xs.flatMap enc).drop (i * size)).take size = enc q
  | [], i, q, h => by simp at h
  | y :: xs, 0, q, h => by
    simp at h; subst h
    rw [List.flatMap_cons, Nat.zero_mul, List.drop_zero, List.take_left' (hlen y)]
  | y :: xs, i + 1, q, h => by
    have ih := flat_cut hlen xs i q (by simpa using h)
    rw [List.flatMap_cons, show (i + 1) * size = (enc y).length + i * size by rw [hlen, Nat.add_mul, Nat.one_mul, Nat.add_comm], ← List.drop_drop, List.drop_left]
    exact ih
theorem part_row {P : Program} {e : TypeId} {α : Type} {enc : α → List Value} {xs : List α} {i size : Nat} {q : α} {w : World} (hT : RowOk P e size) (hlen : ∀ x, (enc x).length = size) (hq : xs[i]? = some q) :
    (part e (xs.flatMap enc).toArray (i * size)).run P w = .ok (.agg (enc q).toArray) w := by
  obtain ⟨dd, hu, hr, hs⟩ := hT
  obtain ⟨ii, hi, hsz⟩ := Option.map_eq_some_iff.1 hs
  have h1 := flat_cut hlen xs i q hq
  have h2 : (xs.flatMap enc).toArray.extract (i * size) (i * size + size) = (enc q).toArray := by
    apply Array.toList_inj.1
    rw [Array.toList_extract, List.extract_eq_take_drop]
    simpa using h1
  have h3 : (isAgg e).run P w = .ok true w := by
    cases dd <;> simp_all [isAgg, run_underlying hu, Sem.run_bind, TypeDesc.isRow]
  have h4 : (sizeOf e).run P w = .ok size w := by simp [sizeOf, typeInfo, hi, hsz, Sem.run_bind]
  unfold part
  simp only [Sem.run_bind, h3, Result.andThen, if_true, h4]
  rw [h2]; rfl
end Go.Proofs.Ythjkafeklflgbaa
namespace Go.Proofs.Ythjkafeklflgbaa
open Go.RowKit Go.Lib
set_option linter.unusedVariables false
set_option linter.unusedSimpArgs false
section
variable {F : Fence} {P : Program} {w0 : World} {K : Nat → Prop} {N : Nat} {dfs : List Deferred} {Q : Exit → Act → World → Prop} {σ : List (Nat × Value)} {L : List Asn}
/-- The first n operations in whatever order, by an invariant; then the rest. -/
theorem TC.drawI {id : Nat} {l : List Oper} (n : Nat) (Inv : (Nat → Prop) → Act → World → Prop) (hm : P.follows .mixedOrders = true)
    (hlt : (l.zipIdx.all fun (o, i) => (depsOf o).all fun j => decide (j < i)) = true) (hT : tailOk l n = true) (hnl : n ≤ l.length)
    (h0 : ∀ a w, At N dfs σ a → Holds w0 K L w → Inv (fun _ => False) a w)
    (hstep : ∀ i o, i < n → l[i]? = some o → ∀ D a w, ¬ D i → (∀ j ∈ depsOf o, D j) → Clo l.toArray D → Inv D a w → wpListIn F 0 P l.toArray (Exit.then (Inv (fun j => D j ∨ j = i)) Q) [o] a w)
    (htail : ∀ D a w, (∀ j, j < n → D j) → Inv D a w → wpListIn F 0 P l.toArray Q (l.drop n) a w) : TC F P w0 K N dfs Q (.region id l.toArray true) σ L := by
  intro a w ha hw
  have hT' := tailOk_all hT
  obtain ⟨J, hJ⟩ : ∃ J : (Nat → Prop) → Act → World → Prop, J = (fun D a w => Clo l.toArray D ∧ ((∃ k, n < k ∧ (∀ j, D j ↔ j < k) ∧ wpListIn F 0 P l.toArray Q (l.drop k) a w) ∨
    ((∀ j, D j → j < n) ∧ Inv D a w))) := ⟨_, rfl⟩
  refine wpIn_region_inv hm (by simpa using hlt) J (by subst hJ; exact ⟨fun i o _ h => h.elim, .inr ⟨fun _ h => h.elim, h0 _ _ ha hw.drew⟩⟩) ?_ ?_
  · have all : ∀ (m : List Oper) (k : Nat), (∀ i o, m[i]? = some o → l[k + i]? = some o) → RegSteps F 0 P l.toArray Q J m k := by
      intro m
      induction m with
      | nil => intro k _; trivial
      | cons q m ih =>
        intro k hl
        refine ⟨?_, ih (k + 1) (fun i o' ho' => by have := hl (i + 1) o' (by simpa using ho'); rwa [show k + 1 + i = k + (i + 1) by omega])⟩
        have hq : l[k]? = some q := hl 0 q rfl
        subst hJ
        rintro D a w hn hd ⟨hcl, hI⟩
        have hcl' : Clo l.toArray (fun j => D j ∨ j = k) := hcl.add (by simpa using hq) hd
        have hkl : k < l.length := (List.getElem?_eq_some_iff.1 hq).1
        have hdrop : l.drop k = q :: l.drop (k + 1) := by
          obtain ⟨h1, h2⟩ := List.getElem?_eq_some_iff.1 hq
          rw [← h2]; exact List.drop_eq_getElem_cons h1
        rcases hI with ⟨m, hm0, hD, hwp⟩ | ⟨hD, hI⟩
        · have hkm : k = m := by
            have h1 : ¬ k < m := fun h => hn ((hD k).2 h)
            have h2 := hT' D hcl k q (by omega) hq hd
            by_cases h3 : m < k
            · have := (hD _).1 (h2 _ h3); omega
            · omega
          subst hkm
          rw [hdrop] at hwp
          refine wpListIn_one_mono (fun a' w' h => ⟨hcl', .inl ⟨k + 1, by omega, fun j => ?_, h⟩⟩) (wpList_step hwp)
          show D j ∨ j = k ↔ _
          rw [hD]; omega
        · by_cases hk : k < n
          · refine wpListIn_one_mono (fun a' w' h => ⟨hcl', .inr ⟨fun j hj => ?_, h⟩⟩) (hstep k q hk hq D a w hn hd hcl hI)
            rcases hj with hj | rfl
            · exact hD j hj
            · exact hk
          · have hall := hT' D hcl k q (by omega) hq hd
            have hk' : k = n := by
              by_cases h : n < k
              · have := hD _ (hall _ h); omega
              · omega
            subst hk'
            have hwp := htail D a w hall hI
            rw [hdrop] at hwp
            refine wpListIn_one_mono (fun a' w' h => ⟨hcl', .inl ⟨k + 1, by omega, fun j => ?_, h⟩⟩) (wpList_step hwp)
            refine ⟨fun hj => ?_, fun hj => ?_⟩
            · rcases hj with hj | rfl
              · have := hD j hj; omega
              · omega
            · by_cases h : j = k
              · exact .inr h
              · exact .inl (hall j (by omega))
    exact all _ 0 (fun i o ho => by simpa using ho)
  · subst hJ
    rintro D a w hD ⟨hcl, hI⟩
    have hsz : l.toArray.size = l.length := by simp
    rcases hI with ⟨m, hm0, hDm, hwp⟩ | ⟨hDp, hI⟩
    · have : l.length ≤ m := by
        by_cases h : m < l.length
        · have := (hDm m).1 (hD _ (by rw [hsz]; omega)); omega
        · omega
      rw [List.drop_eq_nil_of_le this] at hwp
      exact hwp
    · have hnn : l.length ≤ n := by
        by_cases h : n < l.length
        · have := hDp n (hD _ (by rw [hsz]; omega)); omega
        · omega
      have := htail D a w (fun j hj => hD j (by rw [hsz]; omega)) hI
      rw [List.drop_eq_nil_of_le (by omega)] at this
      exact this
open Classical in
/-- An entry that operations change: what it is when those in D have been carried out; the latest change first. -/
noncomputable def eD (D : Nat → Prop) (base : Asn) : List (Nat × Asn) → Asn
  | [] => base
  | (i, A) :: r => if D i then A else eD D base r
theorem eD_hit {D : Nat → Prop} {base A B : Asn} {i : Nat} {r : List (Nat × Asn)} (h : D i) (hA : A = B) : eD D base ((i, A) :: r) = B := by unfold eD; rw [if_pos h, hA]
theorem eD_miss {D : Nat → Prop} {base A B : Asn} {i : Nat} {r : List (Nat × Asn)} (h : ¬ D i) (hr : eD D base r = B) : eD D base ((i, A) :: r) = B := by rw [eD, if_neg h]; exact hr
theorem eD_nil {D : Nat → Prop} {base : Asn} : eD D base [] = base := rfl
theorem eD_skip {D : Nat → Prop} {i : Nat} {base : Asn} : ∀ {r : List (Nat × Asn)}, (r.map Prod.fst).contains i = false → eD (fun j => D j ∨ j = i) base r = eD D base r
  | [], _ => rfl
  | (k, A) :: r, h => by
    simp only [List.map_cons, List.contains_cons, Bool.or_eq_false_iff] at h
    have hne : ¬ k = i := by have := h.1; simp at this; exact fun e => this e.symm
    rw [eD, eD, eD_skip h.2]
    by_cases hd : D k
    · rw [if_pos (.inl hd), if_pos hd]
    · rw [if_neg hd, if_neg (by rintro (h | h); exact hd h; exact hne h)]
theorem eD_none {base : Asn} : ∀ {r : List (Nat × Asn)}, eD (fun _ => False) base r = base
  | [] => rfl
  | (k, A) :: r => by rw [eD, if_neg (fun h => h), eD_none]
theorem cons_eq {α : Type} {a a' : α} {l l' : List α} (h : a = a') (hl : l = l') : a :: l = a' :: l' := by rw [h, hl]
theorem dl_nil_eq {D : Nat → Prop} : dl D [] = dl D [] := rfl
theorem dl_cons_eq {D : Nat → Prop} {i t : Nat} {v v' : Value} {r r' : List (Nat × Nat × Value)} (h : D i → v = v') (hr : dl D r = dl D r') : dl D ((i, t, v) :: r) = dl D ((i, t, v') :: r') := by
  simp only [dl, hr]
  by_cases hd : D i
  · rw [if_pos hd, if_pos hd, h hd]
  · rw [if_neg hd, if_neg hd]
/-- What each of the first operations owes. -/
def DrawG {β : Type} (F : Fence) (P : Program) (w0 : World) (K : Nat → Prop) (N : Nat) (dfs : List Deferred) (Q : Exit → Act → World → Prop) (ops : Array Oper) (σ : List (Nat × Value)) (vals : β → List (Nat × Nat × Value)) (LL : (Nat → Prop) → β → List Asn) : List Oper → Nat → Prop
  | [], _ => True
  | o :: rest, i => (∀ (D : Nat → Prop) (b : β), ¬ D i → (∀ j ∈ depsOf o, D j) → Clo ops D →
      TO F P w0 K N dfs ops (Exit.then (fun a w => ∃ b, At N dfs (dl (fun j => D j ∨ j = i) (vals b) ++ σ) a ∧ Holds w0 K (LL (fun j => D j ∨ j = i) b) w) Q) [o] (dl D (vals b) ++ σ) (LL D b)) ∧ DrawG F P w0 K N dfs Q ops σ vals LL rest (i + 1)
theorem DrawG.nil {β : Type} {ops : Array Oper} {vals : β → List (Nat × Nat × Value)} {LL : (Nat → Prop) → β → List Asn} {i : Nat} : DrawG F P w0 K N dfs Q ops σ vals LL [] i := trivial
theorem DrawG.cons {β : Type} {ops : Array Oper} {vals : β → List (Nat × Nat × Value)} {LL : (Nat → Prop) → β → List Asn} {o : Oper} {rest : List Oper} {i : Nat} (h : ∀ (D : Nat → Prop) (b : β), ¬ D i → (∀ j ∈ depsOf o, D j) → Clo ops D →
      TO F P w0 K N dfs ops (Exit.then (fun a w => ∃ b, At N dfs (dl (fun j => D j ∨ j = i) (vals b) ++ σ) a ∧ Holds w0 K (LL (fun j => D j ∨ j = i) b) w) Q) [o] (dl D (vals b) ++ σ) (LL D b)) (hs : DrawG F P w0 K N dfs Q ops σ vals LL rest (i + 1)) :
    DrawG F P w0 K N dfs Q ops σ vals LL (o :: rest) i := ⟨h, hs⟩
theorem DrawG.get {β : Type} {ops : Array Oper} {vals : β → List (Nat × Nat × Value)} {LL : (Nat → Prop) → β → List Asn} : ∀ {l : List Oper} {k : Nat}, DrawG F P w0 K N dfs Q ops σ vals LL l k → ∀ i o, l[i]? = some o → ∀ (D : Nat → Prop) (b : β), ¬ D (k + i) → (∀ j ∈ depsOf o, D j) → Clo ops D →
      TO F P w0 K N dfs ops (Exit.then (fun a w => ∃ b, At N dfs (dl (fun j => D j ∨ j = k + i) (vals b) ++ σ) a ∧ Holds w0 K (LL (fun j => D j ∨ j = k + i) b) w) Q) [o] (dl D (vals b) ++ σ) (LL D b)
  | [], k, _, i, o, h => by simp at h
  | x :: l, k, h, 0, o, ho => by simp at ho; subst ho; exact h.1
  | x :: l, k, h, i + 1, o, ho => by
    have := DrawG.get h.2 i o (by simpa using ho)
    rwa [show k + 1 + i = k + (i + 1) by omega] at this
/-- **A region that draws its order.** -/
theorem TC.drawG {id : Nat} {l : List Oper} {β : Type} (n : Nat) (b0 : β) (vals : β → List (Nat × Nat × Value)) (LL : (Nat → Prop) → β → List Asn) (hm : P.follows .mixedOrders = true)
    (hlt : (l.zipIdx.all fun (o, i) => (depsOf o).all fun j => decide (j < i)) = true) (hT : tailOk l n = true) (hnl : n ≤ l.length)
    (hval : ∀ b, (vals b).all (fun p => decide (p.1 < n)) = true) (h0 : LL (fun _ => False) b0 = L)
    (hpre : DrawG F P w0 K N dfs Q l.toArray σ vals LL (l.take n) 0)
    (htail : ∀ (D : Nat → Prop) b, (∀ j, j < n → D j) → TO F P w0 K N dfs l.toArray Q (l.drop n) ((vals b).map (fun p => p.2) ++ σ) (LL D b)) : TC F P w0 K N dfs Q (.region id l.toArray true) σ L := by
  refine TC.drawI n (fun D a w => ∃ b, At N dfs (dl D (vals b) ++ σ) a ∧ Holds w0 K (LL D b) w) hm hlt hT hnl (fun a w ha hw => ⟨b0, by rw [dl_empty]; exact ha, by rw [h0]; exact hw⟩) ?_ ?_
  · rintro i o hi ho D a w hn hd hcl ⟨b, ha, hw⟩
    have := hpre.get i o (by rw [List.getElem?_take_of_lt hi]; exact ho) D b (by rwa [Nat.zero_add]) hd hcl a w ha hw
    rwa [Nat.zero_add] at this
  · rintro D a w hD ⟨b, ha, hw⟩
    refine htail D b hD a w ?_ hw
    rw [dl_all (fun p hp => hD _ (by have := List.all_eq_true.1 (hval b) p hp; simpa using this))] at ha
    exact ha
/-- The end of an operation of such a region: what it gave is in its slot. -/
theorem TX.valG {β : Type} {ops : Array Oper} {vals : β → List (Nat × Nat × Value)} {LL : (Nat → Prop) → β → List Asn} {D : Nat → Prop} {b : β} (b' : β) (m : Nat) {i t : Nat} {v : Value} {L' : List Asn} (hu : nodupN ((vals b').map (fun p => p.2.1)) = true) (hi : nodupN ((vals b').map (fun p => p.1)) = true)
    (hm : (vals b')[m]? = some (i, t, v)) (hc : dl D (vals b) = dl D (vals b')) (hL : LL (fun j => D j ∨ j = i) b' = L') :
    TO F P w0 K N dfs ops (Exit.then (fun a w => ∃ b, At N dfs (dl (fun j => D j ∨ j = i) (vals b) ++ σ) a ∧ Holds w0 K (LL (fun j => D j ∨ j = i) b) w) Q) [] ((t, v) :: (dl D (vals b) ++ σ)) L' := fun a w ha hw => ⟨b', by rw [hc] at ha; exact Sbs.dl (nodupN_iff hu) (nodupN_iff hi) hm _ _ _ ha, by rw [hL]; exact hw⟩
theorem TX.noneG {β : Type} {ops : Array Oper} {vals : β → List (Nat × Nat × Value)} {LL : (Nat → Prop) → β → List Asn} {D : Nat → Prop} {b : β} (b' : β) {i : Nat} {L' : List Asn} (hm : ((vals b').map (fun p => p.1)).contains i = false) (hc : dl D (vals b) = dl D (vals b')) (hL : LL (fun j => D j ∨ j = i) b' = L') :
    TO F P w0 K N dfs ops (Exit.then (fun a w => ∃ b, At N dfs (dl (fun j => D j ∨ j = i) (vals b) ++ σ) a ∧ Holds w0 K (LL (fun j => D j ∨ j = i) b) w) Q) [] (dl D (vals b) ++ σ) L' := fun a w ha hw => ⟨b', by rw [dl_skip hm, ← hc]; exact ha, by rw [hL]; exact hw⟩
end
section
variable {F : Fence} {P : Program} {w0 : World} {K : Nat → Prop} {N : Nat} {dfs : List Deferred} {ops : Array Oper} {Q : Exit → Act → World → Prop} {rest : List Oper} {σ : List (Nat × Value)} {L L' : List Asn}
theorem TO.rewL (h : L = L') (hs : TO F P w0 K N dfs ops Q rest σ L') : TO F P w0 K N dfs ops Q rest σ L := by rw [h]; exact hs
theorem sepL.emps {w : World} : ∀ n : Nat, sepL (List.replicate n emp) (fun _ => False) w
  | 0 => fun _ h => h
  | n + 1 => ⟨fun _ => False, fun _ => False, fun _ h => h, sepL.emps n, fun _ h => h.elim, fun k => by simp⟩
theorem TC.pad {c : Code} (n : Nat) (hs : TC F P w0 K N dfs Q c σ (L ++ List.replicate n emp)) : TC F P w0 K N dfs Q c σ L := fun a w ha hw => by
  refine hs a w ha ?_
  obtain ⟨C, hL, hx⟩ := hw
  exact ⟨C, sepL.append' hL (sepL.emps n) (fun _ _ h => h) (fun k => by simp), hx⟩
/-- The last entry is laid where nothing stands. -/
theorem TO.place {A : Asn} (p : Nat) (hA : L.getLast? = some A) (hp : L.dropLast[p]? = some emp) (hs : TO F P w0 K N dfs ops Q rest σ (L.dropLast.set p A)) : TO F P w0 K N dfs ops Q rest σ L := fun a w ha hw => by
  refine hs a w ha ?_
  obtain ⟨C, hL, hx⟩ := hw
  refine ⟨C, ?_, hx⟩
  have e : L = L.dropLast ++ [A] := by
    rcases List.eq_nil_or_concat L with rfl | ⟨M, B, rfl⟩
    · simp at hA
    · simp at hA; subst hA; simp
  rw [e] at hL
  obtain ⟨C1, C2, h1, h2, h3, h4⟩ := sepL.app hL
  have h2' := sepL.one1.1 h2
  have hlt : p < L.dropLast.length := (List.getElem?_eq_some_iff.1 hp).1
  have hset : L.dropLast.set p emp = L.dropLast := by
    obtain ⟨_, he⟩ := List.getElem?_eq_some_iff.1 hp
    rw [← he]; exact List.set_getElem_self hlt
  exact sepL.put hlt h2' (by rw [hset]; exact h1) (fun k a b => h3 k b a) (fun k => by rw [h4]; exact Or.comm)
end
end Go.Proofs.Ythjkafeklflgbaa
namespace Go.Proofs.Ythjkafeklflgbaa
open Go.RowKit Go.Lib

theorem ext_end (s : ByteArray) (a : Nat) : (s.extract a s.size).data.toList = s.data.toList.drop a := by
  rw [extract_data]; rw [List.take_of_length_le]; simp
theorem encode_list (r : Int) : (Utf8.encode r).data.toList = encodeRune r := by
  unfold Utf8.encode encodeRune
  rw [validRune_eq]
  by_cases hv : validRune r = true
  · have hv' : (0 ≤ r ∧ r < 55296) ∨ (57343 < r ∧ r ≤ 1114111) := by simpa [validRune] using hv
    rw [hv]
    simp only [if_true]
    obtain ⟨n, rfl⟩ : ∃ n : Nat, r = n := ⟨r.toNat, by omega⟩
    simp only [Int.toNat_natCast]
    by_cases h1 : n < 128
    · rw [encodeRuneZ_one (by omega) (by omega), if_pos h1]; rfl
    · by_cases h2 : n < 2048
      · rw [encodeRuneZ_two (by omega) (by omega), if_neg h1, if_pos h2]
        simp only [List.map_cons, List.map_nil]
        rw [show ((192 : Int) + n / 64).toNat = 192 + n / 64 from by omega, show ((128 : Int) + n % 64).toNat = 128 + n % 64 from by omega]
      · by_cases h3 : n < 65536
        · rw [encodeRuneZ_three (by omega), if_neg h1, if_neg h2, if_pos h3]
          simp only [List.map_cons, List.map_nil]
          rw [show ((224 : Int) + n / 4096).toNat = 224 + n / 4096 from by omega, show ((128 : Int) + n / 64 % 64).toNat = 128 + n / 64 % 64 from by omega, show ((128 : Int) + n % 64).toNat = 128 + n % 64 from by omega]
        · rw [encodeRuneZ_four (by omega) (by omega), if_neg h1, if_neg h2, if_neg h3]
          simp only [List.map_cons, List.map_nil]
          rw [show ((240 : Int) + n / 262144).toNat = 240 + n / 262144 from by omega, show ((128 : Int) + n / 4096 % 64).toNat = 128 + n / 4096 % 64 from by omega, show ((128 : Int) + n / 64 % 64).toNat = 128 + n / 64 % 64 from by omega, show ((128 : Int) + n % 64).toNat = 128 + n % 64 from by omega]
  · have hv' : ¬ ((0 ≤ r ∧ r < 55296) ∨ (57343 < r ∧ r ≤ 1114111)) := by simpa [validRune] using hv
    have hv2 : validRune r = false := by simpa using hv
    rw [hv2, encodeRuneZ_bad (by omega)]
    simp [Utf8.runeError]

theorem encode_size (r : Int) : (Utf8.encode r).size = (encodeRune r).length := by
  rw [← encode_list]; simp
theorem encodeRune_len (r : Int) : 1 ≤ (encodeRune r).length ∧ (encodeRune r).length ≤ 4 := by
  have := encodeRuneZ_length r; simpa [encodeRune] using this

/-- A piece of a text: where it stands, how many bytes it has, its rune. -/
structure Pc where
  i : Nat
  w : Nat
  r : Nat
  deriving DecidableEq
def Pc.broken (p : Pc) : Bool := p.r == 65533 && p.w == 1

def pcsF : Nat → Nat → List UInt8 → List Pc
  | 0, _, _ => []
  | f + 1, i, l => if l = [] then [] else ⟨i, (decodeL l).2, (decodeL l).1⟩ :: pcsF f (i + (decodeL l).2) (l.drop (decodeL l).2)
def pcsFrom (i : Nat) (l : List UInt8) : List Pc := pcsF l.length i l
def pcs (l : List UInt8) : List Pc := pcsFrom 0 l

theorem dec_pos (l : List UInt8) : 1 ≤ (decodeL l).2 := decodeL_width l
theorem dec_le (l : List UInt8) (h : l ≠ []) : (decodeL l).2 ≤ l.length := decodeL_le l h

theorem pcsF_enough : ∀ (f g i : Nat) (l : List UInt8), l.length ≤ f → l.length ≤ g → pcsF f i l = pcsF g i l := by
  intro f
  induction f with
  | zero =>
    intro g i l h1 h2
    have : l = [] := List.eq_nil_of_length_eq_zero (by omega)
    subst this
    cases g <;> simp [pcsF]
  | succ f ih =>
    intro g i l h1 h2
    cases g with
    | zero =>
      have : l = [] := List.eq_nil_of_length_eq_zero (by omega)
      subst this
      simp [pcsF]
    | succ g =>
      by_cases hl : l = []
      · simp [pcsF, hl]
      · simp only [pcsF, hl, if_false]
        have := dec_pos l
        have hlen : 0 < l.length := List.length_pos_iff.2 hl
        rw [ih g _ _ (by simp; omega) (by simp; omega)]

theorem pcsFrom_nil (i : Nat) : pcsFrom i [] = [] := by simp [pcsFrom, pcsF]
theorem pcsFrom_cons (i : Nat) (l : List UInt8) (h : l ≠ []) :
    pcsFrom i l = ⟨i, (decodeL l).2, (decodeL l).1⟩ :: pcsFrom (i + (decodeL l).2) (l.drop (decodeL l).2) := by
  have hlen : 0 < l.length := List.length_pos_iff.2 h
  unfold pcsFrom
  obtain ⟨n, hn⟩ : ∃ n, l.length = n + 1 := ⟨l.length - 1, by omega⟩
  rw [hn]
  simp only [pcsF, h, if_false]
  have := dec_pos l
  rw [pcsF_enough n (l.drop (decodeL l).2).length _ _ (by simp; omega) (Nat.le_refl _)]

/-- What a piece's width is: its rune's form, or one broken byte. -/
theorem dec_width (l : List UInt8) (h : l ≠ []) (hb : ¬ ((decodeL l).1 = 65533 ∧ (decodeL l).2 = 1)) : (encodeRune ((decodeL l).1 : Nat)).length = (decodeL l).2 := by
  rw [encode_decode l h hb]
  have := dec_le l h
  simp; omega
theorem enc_lost : encodeRune ((65533 : Nat) : Int) = [239, 191, 189] := by decide
/-- The lost sign's form, written out, against a broken byte. -/
theorem dec_lost_ok (l : List UInt8) (h : l ≠ []) (hr : (decodeL l).1 = 65533) (hw : (decodeL l).2 ≠ 1) : l.take 3 = [239, 191, 189] ∧ (decodeL l).2 = 3 := by
  have h1 := encode_decode l h (fun h => hw h.2)
  have h2 := dec_width l h (fun h => hw h.2)
  rw [hr, enc_lost] at h1 h2
  simp at h2
  rw [← h2] at h1
  exact ⟨h1.symm, h2.symm⟩
theorem dec_lost_bad (l : List UInt8) (hr : (decodeL l).1 = 65533) (hw : (decodeL l).2 = 1) : l.take 3 ≠ [239, 191, 189] := by
  intro h3
  obtain ⟨t, rfl⟩ : ∃ t, l = 239 :: 191 :: 189 :: t := by
    rcases l with _ | ⟨a, _ | ⟨b, _ | ⟨c, t⟩⟩⟩ <;> simp at h3
    exact ⟨t, by simp [h3]⟩
  rw [decodeL_N] at hw
  simp [decodeN] at hw

theorem dec_rune_le (l : List UInt8) : (decodeL l).1 ≤ 1114111 := decodeL_rune l
theorem dec_valid (l : List UInt8) : (decodeL l).1 < 55296 ∨ (57343 < (decodeL l).1 ∧ (decodeL l).1 ≤ 1114111) := by
  rw [decodeL_N]; exact decodeN_valid _ _ _ _ _ (UInt8.toNat_lt _)

/-- What is known of a piece that begins a text. -/
structure DecOk (l : List UInt8) (r wd : Nat) : Prop where
  eq : decodeL l = (r, wd)
  pos : 1 ≤ wd
  le : wd ≤ l.length
  valid : r < 55296 ∨ (57343 < r ∧ r ≤ 1114111)
  width : ¬ (r = 65533 ∧ wd = 1) → (encodeRune ((r : Nat) : Int)).length = wd
  bytes : ¬ (r = 65533 ∧ wd = 1) → encodeRune ((r : Nat) : Int) = l.take wd
  lost_ok : r = 65533 → wd ≠ 1 → l.take 3 = [239, 191, 189] ∧ wd = 3
  lost_bad : r = 65533 → wd = 1 → l.take 3 ≠ [239, 191, 189]

theorem decOk (l : List UInt8) (h : l ≠ []) : DecOk l (decodeL l).1 (decodeL l).2 :=
  ⟨rfl, dec_pos l, dec_le l h, dec_valid l, dec_width l h, encode_decode l h, dec_lost_ok l h, dec_lost_bad l⟩

/-- One step of a range over a string, in whatever world. -/
theorem next_some (P : Program) (wr : World) (it : Nat) (s : ByteArray) (pos : Nat) (hit : wr.heap[it]? = some (.stringIter s pos)) (hlt : pos < s.size) :
    ∃ (r wd : Nat) (W1 : World), (∀ ty, (Instr.next (.pointer (some ⟨it, 0, none⟩)) true ty).run P wr = .ok (.tuple #[.bool true, .int .i64 pos, .int .i32 r]) W1) ∧
      Fr (fun k => k = it) wr W1 ∧ W1.heap[it]? = some (.stringIter s (pos + wd)) ∧ W1.heap.size = wr.heap.size ∧
      DecOk (s.data.toList.drop pos) r wd ∧ pcsFrom pos (s.data.toList.drop pos) = ⟨pos, wd, r⟩ :: pcsFrom (pos + wd) (s.data.toList.drop (pos + wd)) ∧ pos + wd ≤ s.size ∧ 1 ≤ wd := by
  have hne : s.data.toList.drop pos ≠ [] := by
    intro e; have := congrArg List.length e; simp at this; omega
  have hd := decodeL_drop s pos
  have hok := decOk _ hne
  refine ⟨(decodeL (s.data.toList.drop pos)).1, (decodeL (s.data.toList.drop pos)).2, wr.iterAt it s (pos + (decodeL (s.data.toList.drop pos)).2), ?_, Fr.iterAt (Fr.refl (fun k => k = it) wr) (.inl rfl) s _, iterAt_heap wr it s pos _ hit, iterAt_size .., hok, ?_, ?_, dec_pos _⟩
  · intro ty
    rw [hd]
    exact run_next_any_at wr it s pos ty hit hlt
  · rw [pcsFrom_cons pos _ hne, List.drop_drop]
  · have := hok.le; simp at this; omega
theorem next_none (P : Program) (wr : World) (it : Nat) (s : ByteArray) (pos : Nat) (hit : wr.heap[it]? = some (.stringIter s pos)) (hlt : ¬ pos < s.size) :
    (∀ ty, (Instr.next (.pointer (some ⟨it, 0, none⟩)) true ty).run P wr = .ok (.tuple #[.bool false]) wr) ∧ pcsFrom pos (s.data.toList.drop pos) = [] :=
  ⟨fun ty => run_next_end_at wr it s pos ty hit hlt, by rw [List.drop_eq_nil_of_le (by simp; omega), pcsFrom_nil]⟩
theorem iterPos_at {w : World} {it : Nat} {s : ByteArray} {pos : Nat} (h : w.heap[it]? = some (.stringIter s pos)) : w.iterPos it = pos := by simp [World.iterPos, h]

/-- The runes of a text. -/
def runesL (l : List UInt8) : List Nat := (pcs l).map (·.r)

end Go.Proofs.Ythjkafeklflgbaa
namespace Go.Proofs.Ythjkafeklflgbaa
open Go.RowKit Go.Lib
set_option linter.unusedVariables false
set_option linter.unusedSimpArgs false
/-- A text's runes. -/
def runesOf (s : ByteArray) : List Int := (pcs s.data.toList).map fun p => (p.r : Int)
theorem runesFrom_pcs (s : ByteArray) : ∀ (n i : Nat) (acc : Array Value), s.size - i ≤ n → Conv.runesFrom s n i acc = acc ++ ((pcsFrom i (s.data.toList.drop i)).map fun p => Value.int .i32 (p.r : Int)).toArray
  | 0, i, acc, h => by
    rw [List.drop_eq_nil_of_le (by simp; omega), pcsFrom_nil]; simp [Conv.runesFrom]
  | n + 1, i, acc, h => by
    unfold Conv.runesFrom
    by_cases hi : i < s.size
    · have hne : s.data.toList.drop i ≠ [] := by
        intro e; have := congrArg List.length e; simp at this; omega
      have hd := decodeL_drop s i
      have h1 := dec_pos (s.data.toList.drop i)
      rw [if_pos hi]
      simp only
      rw [← hd, runesFrom_pcs s n _ _ (by omega), pcsFrom_cons _ _ hne, List.drop_drop]
      simp
    · rw [if_neg hi, List.drop_eq_nil_of_le (by simp; omega), pcsFrom_nil]; simp
theorem runesFrom_of (s : ByteArray) : Conv.runesFrom s s.size 0 #[] = ((runesOf s).map (Value.int .i32)).toArray := by
  rw [runesFrom_pcs s s.size 0 #[] (by omega)]
  simp [runesOf, pcs, Function.comp_def]
section
variable {F : Fence} {P : Program} {w0 : World} {K : Nat → Prop} {N : Nat} {dfs : List Deferred} {ops : Array Oper} {Q : Exit → Act → World → Prop} {rest : List Oper} {σ : List (Nat × Value)} {L : List Asn}
  {d : Nat} {ty : TypeId} {pos : String} {aft : Array Edge} {g : Option (Nat × Bool)} {x : Operand} {t e : TypeId} {k : Nat} {vv : Value}
/-- A fresh row with room behind, as an owned slice. -/
theorem Ent.row {ε : Type} {enc1 : ε → List Value} {size b cap : Nat} {arr : Array Value} {ys : List ε} (hlen : ∀ x, (enc1 x).length = size) (ht : arr.toList.take (ys.length * size) = ys.flatMap enc1) (hs : arr.size = cap * size) (hc : ys.length ≤ cap) (hm : cap ≤ maxLen) : Ent (obj b (.cells arr e (0, 0))) (vec enc1 e size (.slice (some ⟨b, 0, none⟩) ys.length cap) ys) := by
  rintro C w ⟨h1, h2⟩
  have hl : (ys.flatMap enc1).length = ys.length * size := flat_len hlen ys
  refine ⟨⟨hl, .inr ⟨b, cap, arr, rfl, Nat.zero_le _, h2, hc, hm, hs, ht⟩⟩, ?_⟩
  funext j; simp [Value.ownBlock, h1, eq_comm]
theorem runesOf_len (s : ByteArray) : (runesOf s).length ≤ s.size := by
  have h := size_runesFrom s s.size 0 #[]
  rw [runesFrom_of] at h
  simpa using h
theorem TO.strRunes [WideF F] {src : TypeId} {s : ByteArray} (hn : s.size ≤ 1073741824) (hg : gd ops σ g = some true) (hd : d < N) (hx : ev σ x = some (.string s)) (hs : P.underlying src = some .string) (ht : P.underlying t = some (.slice e)) (he : P.underlying e = some (.int .i32))
    (h : ∀ v', TO F P w0 K N dfs ops Q rest ((d, v') :: σ) (L ++ [vec (encI .i32) e 1 v' (runesOf s)])) :
    TO F P w0 K N dfs ops Q (⟨some d, .convert src t x, ty, pos, aft, g⟩ :: rest) σ L := by
  refine TO.step hg (by simp) fun a w ha hw => ?_
  have hl := runesOf_len s
  have hr := run_runes_of_string (P := P) w src t e s hs ht he (by rw [runesFrom_of]; simp; omega)
  refine ⟨_, _, by simp only [execOp, ha.ev hx, Sem.run_bind, hr]; rfl, h _ _ _ (ha.put hd _) ?_⟩
  have hz : (Conv.runesFrom s s.size 0 #[]).size = (runesOf s).length := by rw [runesFrom_of]; simp
  rw [hz]
  have hge := grownCap_ge w (runesOf s).length 0 e
  have hle := grownCap_le_maxLen w (runesOf s).length 0 e (by simp only [maxLen]; omega)
  generalize grownCap w (runesOf s).length 0 e = cap at hge hle
  have h2 := hw.drew.alloc (.cells (Conv.runesFrom s s.size 0 #[] ++ Array.replicate (cap - (runesOf s).length) (.int .i32 0)) e (0, 0))
  have hfl : (runesOf s).flatMap (encI .i32) = (runesOf s).map (Value.int .i32) := by
    generalize runesOf s = l
    induction l with
    | nil => rfl
    | cons x l ih => rw [List.flatMap_cons, ih]; rfl
  have h3 := h2.ent (k := L.length) (A := obj w.drew.heap.size (.cells (Conv.runesFrom s s.size 0 #[] ++ Array.replicate (cap - (runesOf s).length) (.int .i32 0)) e (0, 0))) (by simp) (Ent.row (size := 1) (cap := cap) (ys := runesOf s) (encI_len (k := .i32)) (by
    rw [runesFrom_of, hfl]; simp) (by rw [runesFrom_of]; simp; omega) hge hle)
  simpa using h3
/-- The text of runes. -/
def strOf (ns : List Int) : ByteArray := runesBytes ns
theorem TO.runesStr [WideF F] {src : TypeId} {xs : List Int} (hg : gd ops σ g = some true) (hd : d < N) (hx : ev σ x = some vv) (hk : L[k]? = some (vec (encI .i32) e 1 vv xs)) (hs : P.underlying src = some (.slice e)) (he : P.underlying e = some (.int .i32)) (ht : P.underlying t = some .string)
    (h : TO F P w0 K N dfs ops Q rest ((d, .string (strOf xs)) :: σ) L) : TO F P w0 K N dfs ops Q (⟨some d, .convert src t x, ty, pos, aft, g⟩ :: rest) σ L :=
  TO.val hg hd (by simp) (fun a w ha hw => by
    obtain ⟨C, hV⟩ := hw.vec hk
    have hc : (convert src t vv).run P w = .ok (.string (strOf xs)) w := by
      rcases hV.shape with ⟨rfl, rfl, _⟩ | ⟨gb, cap, rfl, _⟩
      · rw [run_convert_runes_string w src t e none 0 0 hs he ht]; simp [Conv.runesToString, strOf, runesBytes]
      · rw [run_convert_runes_string w src t e _ _ _ hs he ht]
        refine run_runesToString w _ _ _ xs ?_
        have := run_loadCells_list (P := P) (w := w) ⟨gb, 0, none⟩ (xs.map (Value.int .i32)) (by
          intro j v hj
          rw [List.getElem?_map, Option.map_eq_some_iff] at hj
          obtain ⟨n, hn, rfl⟩ := hj
          have hadd : (⟨gb, 0, none⟩ : Addr).add j = ⟨gb, j, none⟩ := by unfold Addr.add; split <;> simp_all
          rw [hadd]
          have := hV.cell (i := j) (j := 0) (x := n) (u := .int .i32 n) (encI_len (k := .i32)) rfl hn (by omega) rfl
          simpa using this)
        simpa using this
    simp only [execOp, ha.ev hx, Sem.run_bind, hc]; rfl) h
end
end Go.Proofs.Ythjkafeklflgbaa
namespace Go.Proofs.Ythjkafeklflgbaa
open Go.RowKit Go.Lib
set_option linter.unusedVariables false
set_option linter.unusedSimpArgs false
theorem run_append_src {α : Type} {enc : α → List Value} {size : Nat} {P : Program} (w : World) (t ty e : TypeId) (i : TypeInfo) (z : Value) (bytes : Nat) (ht : P.underlying t = some (.slice e)) (hi : P.info? e = some i) (hz : i.zero = some z)
    (hsize : i.size = size) (hby : i.bytes = bytes) (hzs : z.cells.size = size) (hsz : 0 < size) (hlen : ∀ x, (enc x).length = size) (h1 : ∀ x, ∀ u ∈ enc x, u.oneCell' = true)
    (v : Value) (L : List α) (C : Nat → Prop) (hown : Vec enc e size v L C w) (ys : List α) (a : Addr) (c : Nat)
    (hnews : ∀ j u, (ys.flatMap enc)[j]? = some u → w.cell? (a.add j) = some u) (hn : L.length + ys.length ≤ 2147483648) (hbytes : bytes ≤ 65536) :
    ∃ v' w', (Builtin.append_ #[t, t] ty #[v, .slice (some a) ys.length c]).run P w = .ok v' w' ∧ ∃ C', Vec enc e size v' (L ++ ys) C' w' ∧ Ext C C' w w' := by
  obtain ⟨hown, rfl⟩ := hown
  have hl : (ys.flatMap enc).length = ys.length * size := flat_len hlen ys
  have h1' : ∀ u ∈ ys.flatMap enc, u.oneCell' = true := by
    intro u hu
    obtain ⟨x, hx, hu⟩ := List.mem_flatMap.1 hu
    exact h1 x u hu
  have hbb : (L.length + ys.length) * bytes ≤ 140737488355328 := by
    have : (L.length + ys.length) * bytes ≤ 2147483648 * 65536 := Nat.mul_le_mul (by omega) hbytes
    omega
  obtain ⟨v', w', hr, r1, r2, _⟩ := run_append_own (P := P) w 0 t ty e i z size bytes ht hi hz hsize hby hzs hsz v L.length (L.flatMap enc) hown a ys.length c (ys.flatMap enc) hl hnews h1' (by simp [maxLen]; omega) hbb (Nat.zero_le _)
  have hbl := append_block (P := P) w 0 t ty e i z size bytes ht hi hz hsize hby v L.length (L.flatMap enc) hown a ys.length c (ys.flatMap enc) hl hnews h1' (by simp [maxLen]; omega) hbb hr
  have hR : Rw enc w' 0 e size v' (L ++ ys) := by
    unfold Rw; rw [List.length_append, List.flatMap_append]; exact r1
  exact ⟨v', w', hr, _, ⟨hR, rfl⟩, ext_of_grown r2 hbl (fun g hg => (World.ownsRow.lt hR g hg).2)⟩
theorem run_append_none {P : Program} (w : World) (t ty e : TypeId) (i : TypeInfo) (ht : P.underlying t = some (.slice e)) (hi : P.info? e = some i) (b : Option Addr) (n cap c : Nat) (h : n ≤ cap) :
    (Builtin.append_ #[t, t] ty #[.slice b n cap, .slice none 0 c]).run P w = .ok (.slice b n cap) w := by
  cases b <;> simp [Builtin.append_, run_underlying ht, sizeOf, typeInfo, hi, Builtin.lenOf, h, Builtin.firstCells, storeCells, Sem.run_bind]
section
variable {F : Fence} {P : Program} {w0 : World} {K : Nat → Prop} {N : Nat} {dfs : List Deferred} {ops : Array Oper} {Q : Exit → Act → World → Prop} {rest : List Oper} {σ : List (Nat × Value)} {L : List Asn}
  {d : Nat} {ty : TypeId} {pos : String} {aft : Array Edge} {g : Option (Nat × Bool)} {s x : Operand} {t e e2 : TypeId} {k k2 j size : Nat} {vv v2 v : Value} {α : Type} {enc : α → List Value} {xs ys Ls : List α}
theorem Vw.cells {C : Nat → Prop} {w : World} (hlen : ∀ x, (enc x).length = size) (hs : 0 < size) (h : Vec enc e2 size v2 Ls C w) (hV : Vw v2 Ls size j v ys) (hne : ys ≠ []) : ∃ c, v = .slice (some ⟨vblk v2, j * size, none⟩) ys.length c ∧ ∀ n u, (ys.flatMap enc)[n]? = some u → w.cell? ((⟨vblk v2, j * size, none⟩ : Addr).add n) = some u := by
  have hgt := fun (i : Nat) (q : α) (hq : ys[i]? = some q) => hV.get (i := (i : Int)) (getO_nat hq)
  obtain ⟨_, _, q', c, hq', _, hp⟩ := hV
  have hp := hp hne
  subst hp
  refine ⟨c, hq', fun n u hu => ?_⟩
  have hadd : (⟨vblk v2, j * size, none⟩ : Addr).add n = ⟨vblk v2, j * size + n, none⟩ := by unfold Addr.add; split <;> simp_all
  rw [hadd]
  have hnl : n < ys.length * size := by
    have := (List.getElem?_eq_some_iff.1 hu).1; rwa [flat_len hlen ys] at this
  have hi : n / size < ys.length := Nat.div_lt_of_lt_mul (by rwa [Nat.mul_comm] at hnl)
  have hr : n % size < size := Nat.mod_lt _ hs
  have hdm : n / size * size + n % size = n := Nat.div_add_mod' n size
  have hy : ys[n / size]? = some ys[n / size] := List.getElem?_eq_getElem hi
  have h2 := flat_get hlen ys (n / size) (n % size) _ hy hr
  rw [hdm, hu] at h2
  have h3 := h.cellAt hlen (hgt _ _ hy) hr h2.symm
  have e1 : (j + ((n / size : Nat) : Int).toNat) * size + n % size = j * size + n := by
    rw [Int.toNat_natCast, Nat.add_mul]; omega
  rwa [e1] at h3
theorem TO.appendVw [WideF F] (ht : P.underlying t = some (.slice e)) (hE : ElemOk P e size) (hlen : ∀ x, (enc x).length = size) (h1 : ∀ x, ∀ u ∈ enc x, u.oneCell' = true) (hV : Vw v2 Ls size j v ys) (hg : gd ops σ g = some true) (hd : d < N) (hs : ev σ s = some vv) (hx : ev σ x = some v)
    (hk : L[k]? = some (vec enc e size vv xs)) (hk2 : L[k2]? = some (vec enc e2 size v2 Ls)) (hn : xs.length + ys.length ≤ 2147483648)
    (h : ∀ v', TO F P w0 K N dfs ops Q rest ((d, v') :: σ) (L.set k (vec enc e size v' (xs ++ ys)))) :
    TO F P w0 K N dfs ops Q (⟨some d, .call { callee := .builtin .append, args := #[s, x], argTypes := #[t, t] }, ty, pos, aft, g⟩ :: rest) σ L := by
  obtain ⟨i, zv, hi, hz, hsize, hzs, hsz, hbytes⟩ := hE
  refine TO.step hg (by simp) fun a w ha hw => ?_
  obtain ⟨C2, hV2⟩ := hw.vec hk2
  obtain ⟨C, hV1, hstep⟩ := hw.focus hk
  by_cases hne : ys = []
  · subst hne
    obtain ⟨_, _, q', c, hq', _, _⟩ := hV
    subst hq'
    rw [List.append_nil] at h
    rcases q' with _ | q'
    · obtain ⟨b, cap, hb⟩ := Vec.len hV1
      have hcap : xs.length ≤ cap := by
        rcases hV1.shape with ⟨h3, h4, _⟩ | ⟨gb, cap', h3, _, h4, _⟩
        · rw [h4]; exact Nat.zero_le _
        · rw [hb] at h3; cases h3; exact h4
      have hr := run_append_none (P := P) w t ty e i ht hi b xs.length cap c hcap
      refine ⟨vv, w, ?_, h vv _ _ (ha.put hd _) (hstep _ C w (Ext.refl _ _) hV1)⟩
      subst hb
      simp [execOp, resolve, invoke, builtin, ha.ev hs, ha.ev hx, hr, Sem.run_bind]
    · obtain ⟨v', w', hr, C', h2, h3⟩ := run_append_src (P := P) w t ty e i zv i.bytes ht hi hz hsize rfl hzs hsz hlen h1 vv xs C hV1 [] q' c (by simp) (by simpa using hn) hbytes
      rw [List.append_nil] at h2
      refine ⟨v', w', ?_, h v' _ _ (ha.put hd _) (hstep _ C' w' h3 h2)⟩
      have hr' : (Builtin.append_ #[t, t] ty #[vv, .slice (some q') 0 c]).run P w = .ok v' w' := hr
      simp [execOp, resolve, invoke, builtin, ha.ev hs, ha.ev hx, hr', Sem.run_bind]
  · obtain ⟨c, rfl, hc⟩ := Vw.cells hlen hsz hV2 hV hne
    obtain ⟨v', w', hr, C', h2, h3⟩ := run_append_src (P := P) w t ty e i zv i.bytes ht hi hz hsize rfl hzs hsz hlen h1 vv xs C hV1 ys _ c hc hn hbytes
    refine ⟨v', w', ?_, h v' _ _ (ha.put hd _) (hstep _ C' w' h3 h2)⟩
    simp [execOp, resolve, invoke, builtin, ha.ev hs, ha.ev hx, hr, Sem.run_bind]
end
end Go.Proofs.Ythjkafeklflgbaa
namespace Go.Proofs.Ythjkafeklflgbaa
open Go.RowKit Go.Lib
set_option linter.unusedVariables false
set_option linter.unusedSimpArgs false
theorem flat_take {α : Type} {enc : α → List Value} {size : Nat} (hlen : ∀ x, (enc x).length = size) : ∀ (xs : List α) (i : Nat), (xs.flatMap enc).take (i * size) = (xs.take i).flatMap enc
  | [], i => by simp
  | y :: xs, 0 => by simp
  | y :: xs, i + 1 => by
    rw [List.flatMap_cons, show (i + 1) * size = (enc y).length + i * size by rw [hlen, Nat.add_mul, Nat.one_mul, Nat.add_comm], List.take_length_add_append, flat_take hlen xs i, List.take_succ_cons, List.flatMap_cons]
theorem flat_drop {α : Type} {enc : α → List Value} {size : Nat} (hlen : ∀ x, (enc x).length = size) : ∀ (xs : List α) (i : Nat), (xs.flatMap enc).drop (i * size) = (xs.drop i).flatMap enc
  | [], i => by simp
  | y :: xs, 0 => by simp
  | y :: xs, i + 1 => by
    rw [List.flatMap_cons, show (i + 1) * size = (enc y).length + i * size by rw [hlen, Nat.add_mul, Nat.one_mul, Nat.add_comm], ← List.drop_drop, List.drop_left, flat_drop hlen xs i, List.drop_succ_cons]
theorem run_copy_src {P : Program} (w : World) (dT sT ty e : TypeId) (i : TypeInfo) (ht : P.underlying dT = some (.slice e)) (hi : P.info? e = some i) (g o dLen dCap : Nat) (a : Addr) (sLen sCap : Nat) (cur : Array Value) (t : TypeId)
    (hg : w.heap[g]? = some (.cells cur t (0, 0))) (cs : List Value) (hl : cs.length = Nat.min sLen dLen * i.size) (hsrc : ∀ j v, cs[j]? = some v → w.cell? (a.add j) = some v) (hfit : o + cs.length ≤ cur.size) (h1 : ∀ v ∈ cs, v.oneCell' = true) :
    (Builtin.copy_ #[dT, sT] ty #[.slice (some ⟨g, o, none⟩) dLen dCap, .slice (some a) sLen sCap]).run P w = .ok (goInt (Nat.min sLen dLen)) (w.setRow g (cur.toList.take o ++ cs ++ cur.toList.drop (o + cs.length)).toArray) := by
  have hf := run_firstCells_some (P := P) w i.size (Nat.min sLen dLen) a sLen sCap cs hl hsrc
  have hst := run_storeCells_at P g o t cs 0 cur w hg (by simpa using hfit) h1
  simp only [Nat.add_zero] at hst
  unfold Builtin.copy_
  simp only [List.getElem?_toArray, Sem.run_bind, Array.getElem?_eq_getElem, run_underlying ht]
  simp [run_underlying ht, Builtin.lenOf, sizeOf, typeInfo, hi, hf, hst, Sem.run_bind]
theorem Ext.setRow {w : World} {g : Nat} (cs : Array Value) : Ext (fun k => k = g) (fun k => k = g) w (w.setRow g cs) :=
  ⟨⟨by simp, by simp [World.setRow], by simp [World.setRow], by simp, fun k hk hn => setRow_other w g k cs hn⟩, fun k hk => .inl hk⟩
/-- A part of an owned slice, written over. -/
theorem Vec.over {α : Type} {enc : α → List Value} {size g cap : Nat} {e : TypeId} {w : World} {xs ys : List α} {C : Nat → Prop} (hlen : ∀ x, (enc x).length = size) (h : Vec enc e size (.slice (some ⟨g, 0, none⟩) xs.length cap) xs C w) (j : Nat) (hj : j + ys.length ≤ xs.length) :
    ∃ cur : Array Value, w.heap[g]? = some (.cells cur e (0, 0)) ∧ j * size + (ys.flatMap enc).length ≤ cur.size ∧ C = (fun k => k = g) ∧
      Vec enc e size (.slice (some ⟨g, 0, none⟩) xs.length cap) (xs.take j ++ ys ++ xs.drop (j + ys.length)) C (w.setRow g (cur.toList.take (j * size) ++ ys.flatMap enc ++ cur.toList.drop (j * size + (ys.flatMap enc).length)).toArray) := by
  obtain ⟨⟨h1, h2⟩, rfl⟩ := h
  rcases h2 with ⟨h2, _⟩ | ⟨g', cap', cur, he, _, h5, h6, h7, h8, h9⟩
  · cases h2
  · cases he
    have hy : (ys.flatMap enc).length = ys.length * size := flat_len hlen ys
    have hm : (j + ys.length) * size ≤ xs.length * size := Nat.mul_le_mul_right _ hj
    have hm2 : xs.length * size ≤ cap * size := Nat.mul_le_mul_right _ h6
    have hjm : (j + ys.length) * size = j * size + ys.length * size := Nat.add_mul _ _ _
    have hfit : j * size + (ys.flatMap enc).length ≤ cur.size := by rw [hy, h8]; omega
    refine ⟨cur, h5, hfit, by funext k; simp [Value.ownBlock, eq_comm], ?_⟩
    have hl2 : (xs.take j ++ ys ++ xs.drop (j + ys.length)).length = xs.length := by simp; omega
    refine ⟨?_, by funext k; simp [Value.ownBlock]⟩
    unfold Rw
    rw [hl2]
    refine ⟨by rw [flat_len hlen, hl2], .inr ⟨g, cap, _, rfl, Nat.zero_le _, setRow_heap w g cur _ e (0, 0) h5, h6, h7, ?_, ?_⟩⟩
    · rw [List.size_toArray, List.length_append, List.length_append, List.length_take, List.length_drop, hy, Array.length_toList, h8]
      rw [hy, h8] at hfit
      omega
    · have e1 : cur.toList.take (xs.length * size) = xs.flatMap enc := h9
      have hX : (xs.flatMap enc).length = xs.length * size := flat_len hlen xs
      have hc : cur.toList = xs.flatMap enc ++ cur.toList.drop (xs.length * size) := by rw [← e1, List.take_append_drop]
      have t1 : cur.toList.take (j * size) = (xs.take j).flatMap enc := by
        rw [hc, List.take_append_of_le_length (by rw [hX]; omega), flat_take hlen]
      have t2 : cur.toList.drop (j * size + (ys.flatMap enc).length) = (xs.drop (j + ys.length)).flatMap enc ++ cur.toList.drop (xs.length * size) := by
        conv => lhs; rw [hc]
        rw [hy, ← hjm, List.drop_append_of_le_length (by rw [hX]; exact hm), flat_drop hlen]
      rw [t1, t2, List.flatMap_append, List.flatMap_append, ← List.append_assoc]
      rw [show (List.flatMap enc (List.take j xs) ++ List.flatMap enc ys ++ List.flatMap enc (List.drop (j + ys.length) xs) ++ List.drop (xs.length * size) cur.toList).toArray.toList = _ from rfl]
      rw [List.take_left']
      have := flat_len hlen (xs.take j ++ ys ++ xs.drop (j + ys.length))
      rw [hl2, List.flatMap_append, List.flatMap_append] at this
      exact this
/-- A list, written over from a place on. -/
def overL {α : Type} (xs : List α) (j : Nat) (ys : List α) : List α := xs.take j ++ ys ++ xs.drop (j + ys.length)
theorem overL_nil {α : Type} (xs : List α) (j : Nat) : overL xs j [] = xs := by simp [overL]
theorem run_copy_zero {P : Program} (w : World) (dT sT ty e : TypeId) (i : TypeInfo) (ht : P.underlying dT = some (.slice e)) (hi : P.info? e = some i) (b s : Option Addr) (dl dc sl sc : Nat) (h0 : Nat.min sl dl = 0) :
    (Builtin.copy_ #[dT, sT] ty #[.slice b dl dc, .slice s sl sc]).run P w = .ok (goInt 0) w := by
  cases b <;> cases s <;> simp [Builtin.copy_, run_underlying ht, sizeOf, typeInfo, hi, Builtin.lenOf, h0, Builtin.firstCells, storeCells, loadCells, loadCellsFrom, Sem.run_bind]
section
variable {F : Fence} {P : Program} {w0 : World} {K : Nat → Prop} {N : Nat} {dfs : List Deferred} {ops : Array Oper} {Q : Exit → Act → World → Prop} {rest : List Oper} {σ : List (Nat × Value)} {L : List Asn}
  {d : Nat} {ty : TypeId} {pos : String} {aft : Array Edge} {g : Option (Nat × Bool)} {s x : Operand} {t t2 e e2 : TypeId} {k k2 j j2 size : Nat} {vv v2 v u : Value} {α : Type} {enc : α → List Value} {xs ds ys Ls : List α}
theorem TO.copyVw [WideF F] (ht : P.underlying t = some (.slice e)) (hE : ElemOk P e size) (hlen : ∀ x, (enc x).length = size) (h1 : ∀ x, ∀ u ∈ enc x, u.oneCell' = true) (hV : Vw vv xs size j v ds) (hS : Vw v2 Ls size j2 u ys) (hg : gd ops σ g = some true) (hd : d < N) (hs : ev σ s = some v) (hx : ev σ x = some u)
    (hk : L[k]? = some (vec enc e size vv xs)) (hk2 : L[k2]? = some (vec enc e2 size v2 Ls))
    (h : TO F P w0 K N dfs ops Q rest ((d, .int .i64 ((min ys.length ds.length : Nat) : Int)) :: σ) (L.set k (vec enc e size vv (overL xs j (ys.take ds.length))))) :
    TO F P w0 K N dfs ops Q (⟨some d, .call { callee := .builtin .copy, args := #[s, x], argTypes := #[t, t2] }, ty, pos, aft, g⟩ :: rest) σ L := by
  obtain ⟨i, zv, hi, hz, hsize, hzs, hsz, hbytes⟩ := hE
  refine TO.step hg (by simp) fun a w ha hw => ?_
  obtain ⟨C2, hV2⟩ := hw.vec hk2
  obtain ⟨C, hV1, hstep⟩ := hw.focus hk
  by_cases h0 : min ys.length ds.length = 0
  · have hy : ys.take ds.length = [] := by
      rcases Nat.min_eq_zero_iff.1 h0 with h | h
      · rw [List.length_eq_zero_iff.1 h]; simp
      · rw [h]; simp
    obtain ⟨_, _, q, c, hq, _, _⟩ := hV
    obtain ⟨_, _, q2, c2, hq2, _, _⟩ := hS
    subst hq; subst hq2
    have hr := run_copy_zero (P := P) w t t2 ty e i ht hi q q2 ds.length c ys.length c2 h0
    rw [hy, overL_nil, h0] at h
    refine ⟨.int .i64 0, w, ?_, h _ _ (ha.put hd _) (hstep _ C w (Ext.refl _ _) hV1)⟩
    simp [execOp, resolve, invoke, builtin, ha.ev hs, ha.ev hx, hr, Sem.run_bind, goInt]
  · have hds : ds ≠ [] := by intro h; simp [h] at h0
    have hys : ys ≠ [] := by intro h; simp [h] at h0
    obtain ⟨c2, rfl, hc⟩ := Vw.cells hlen hsz hV2 hS hys
    obtain ⟨hj, hdd, q, c, rfl, _, hp⟩ := hV
    have hp := hp hds
    subst hp
    have hxs : xs ≠ [] := by
      intro h; subst h
      have : 0 < ds.length := List.length_pos_iff.2 hds
      rw [List.length_nil] at hj; omega
    obtain ⟨cap, hcap⟩ := hV1.ptr hxs
    generalize vblk vv = b at hcap
    subst hcap
    have hyl : (ys.take ds.length).length = min ys.length ds.length := by rw [List.length_take, Nat.min_comm]
    obtain ⟨cur, hcur, hfit, hC, hover⟩ := hV1.over hlen (ys := ys.take ds.length) j (by rw [hyl]; omega)
    have hr := run_copy_src (P := P) w t t2 ty e i ht hi b (j * size) ds.length c ⟨vblk v2, j2 * size, none⟩ ys.length c2 cur e hcur ((ys.take ds.length).flatMap enc) (by rw [flat_len hlen, hyl, hsize])
      (fun n u hu => hc n u (by
        rw [← flat_take hlen, List.getElem?_take] at hu
        split at hu
        · exact hu
        · cases hu)) hfit (fun u hu => by
        obtain ⟨y, _, hy⟩ := List.mem_flatMap.1 hu
        exact h1 y u hy)
    subst hC
    refine ⟨_, _, by simp only [execOp, resolve, invoke, builtin, List.map_toArray, List.map_cons, List.map_nil, ha.ev hs, ha.ev hx, Sem.run_bind, Sem.run_pure, Result.andThen, vblk]; simp only [vblk] at hr; rw [hr]; rfl, h _ _ (ha.put hd _) (hstep _ _ _ (Ext.setRow _) hover)⟩
end
/-- An element set, told by its number. -/
theorem set_ifs {α : Type} (ys : List α) (i : Nat) (q : α) : ys.set i q = ys.zipIdx.map (fun p => if i = p.2 then q else p.1) := by
  apply List.ext_getElem?
  intro n
  rw [List.getElem?_set, List.getElem?_map, List.getElem?_zipIdx]
  by_cases h : i = n
  · subst h
    by_cases hl : i < ys.length
    · simp [hl]
    · simp [hl, List.getElem?_eq_none (Nat.le_of_not_lt hl)]
  · cases ys[n]? <;> simp [h]
end Go.Proofs.Ythjkafeklflgbaa
namespace Go.Proofs.Ythjkafeklflgbaa
open Go.RowKit Go.Lib
set_option linter.unusedVariables false
set_option linter.unusedSimpArgs false
/-- Decided. -/
theorem dc {p : Prop} [Decidable p] (h : decide p = true := by rfl) : p := of_decide_eq_true h
/-- The same by computation. -/
theorem kr {α : Sort _} {a b : α} (h : a = b := by as_aux_lemma => kernel_rfl) : a = b := h
/-- What an iterator yields first, and then. -/
def consO {α : Type} (x : α) (o : Option (List α)) : Option (List α) := o.map (x :: ·)
theorem consE {α : Type} {x : α} {o : Option (List α)} {r : List α} (h : consO x o = some r) : ∃ r', r = x :: r' ∧ o = some r' := by
  obtain ⟨r', h1, h2⟩ := Option.map_eq_some_iff.1 h
  exact ⟨r', h2.symm, h1⟩
theorem strCells_of {l : List Int} (h : ∀ x ∈ l, U8 x) : l.map (fun x => Value.int .u8 x) = strCells (bytesOf l) := by
  have e := ints_bytesOf h
  conv => lhs; rw [← e]
  simp [ints, strCells]
section
variable {F : Fence} {P : Program} {w0 : World} {K : Nat → Prop} {N : Nat} {dfs : List Deferred} {ops : Array Oper} {Q : Exit → Act → World → Prop} {rest : List Oper} {c : Code} {ex : Exit} {σ : List (Nat × Value)} {L L' As R : List Asn} {A B : Asn} {k : Nat} {β : Type}
theorem TO.weakenL (hs : Splits L L' R) (h : TO F P w0 K N dfs ops Q rest σ L') : TO F P w0 K N dfs ops Q rest σ L := fun a w ha hw => h a w ha (hw.weaken hs)
theorem TC.weakenL (hs : Splits L L' R) (h : TC F P w0 K N dfs Q c σ L') : TC F P w0 K N dfs Q c σ L := fun a w ha hw => h a w ha (hw.weaken hs)
theorem TX.weakenL (hs : Splits L L' R) (h : TX w0 K N dfs Q ex σ L') : TX w0 K N dfs Q ex σ L := fun a w ha hw => h a w ha (hw.weaken hs)
theorem TX.ent (hk : L[k]? = some A) (he : Ent A B) (h : TX w0 K N dfs Q ex σ (L.set k B)) : TX w0 K N dfs Q ex σ L := fun a w ha hw => h a w ha (hw.ent hk he)
/-- A loop of at most m rounds, round by round. -/
def TR (F : Fence) (P : Program) (w0 : World) (K : Nat → Prop) (N : Nat) (dfs : List Deferred) (Q : Exit → Act → World → Prop) (c : Code) (m : Nat) (σ : List (Nat × Value)) (L : List Asn) : Prop :=
  ∀ a w, At N dfs σ a → Holds w0 K L w → Code.roundsIn F 0 P c Q m a w
theorem TC.loopN (m : Nat) (h : TR F P w0 K N dfs Q c m σ L) : TC F P w0 K N dfs Q (.loop c) σ L := fun a w ha hw => wpIn_loop_rounds m (h a w ha hw)
theorem TR.succ {m : Nat} (h : TC F P w0 K N dfs (Exit.then (Code.roundsIn F 0 P c Q m) Q) c σ L) : TR F P w0 K N dfs Q c (m + 1) σ L := fun a w ha hw => h a w ha hw
theorem TX.nextN {m : Nat} (h : TR F P w0 K N dfs Q c m σ L) : TX w0 K N dfs (Exit.then (Code.roundsIn F 0 P c Q m) Q) .normal σ L := fun a w ha hw => h a w ha hw
/-- The entry k and others become one, at k. -/
theorem Holds.fold1 {w : World} (h : Holds w0 K L w) (hk : L[k]? = some A) (hs : Splits (L.set k emp) As R) (hR : R[k]? = some emp) (hE : ∀ C w, sepL (A :: As) C w → B.P C w) : Holds w0 K (R.set k B) w := by
  obtain ⟨C, hL, hx⟩ := h
  obtain ⟨C1, C2, h1, h2, h3, h4⟩ := sepL.take hk hL
  obtain ⟨D1, D2, g1, g2, g3, g4⟩ := hs C2 w h2
  have hset : R.set k emp = R := by
    obtain ⟨hl, he⟩ := List.getElem?_eq_some_iff.1 hR
    rw [← he]; exact List.set_getElem_self hl
  refine ⟨C, sepL.put (C1 := fun i => C1 i ∨ D1 i) (C2 := D2) (List.getElem?_eq_some_iff.1 hR).1 (hE _ _ ⟨C1, D1, h1, g1, fun i a b => h3 i a ((g4 i).2 (.inl b)), fun i => Iff.rfl⟩) (by rw [hset]; exact g2) (fun i a b => ?_) (fun i => ?_), hx⟩
  · rcases a with a | a
    · exact h3 i a ((g4 i).2 (.inr b))
    · exact g3 i a b
  · rw [h4, g4, or_assoc]
/-- The entry k becomes another and some more, behind. -/
theorem Holds.unfold1 {w : World} {I : β → Prop} {Bf : β → Asn} {Bs : β → List Asn} (h : Holds w0 K L w) (hk : L[k]? = some A) (hE : ∀ C w, A.P C w → ∃ b, I b ∧ sepL (Bf b :: Bs b) C w) : ∃ b, I b ∧ Holds w0 K (L.set k (Bf b) ++ Bs b) w := by
  obtain ⟨C, hL, hx⟩ := h
  obtain ⟨C1, C2, h1, h2, h3, h4⟩ := sepL.take hk hL
  obtain ⟨b, hI, D1, D2, g1, g2, g3, g4⟩ := hE _ _ h1
  refine ⟨b, hI, C, sepL.append' (C1 := fun i => D1 i ∨ C2 i) (C2 := D2) (sepL.put (C1 := D1) (C2 := C2) (List.getElem?_eq_some_iff.1 hk).1 g1 h2 (fun i a b => h3 i ((g4 i).2 (.inl a)) b) (fun i => Iff.rfl)) g2 (fun i a b => ?_) (fun i => ?_), hx⟩
  · rcases a with a | a
    · exact g3 i a b
    · exact h3 i ((g4 i).2 (.inr b)) a
  · rw [h4, g4]
    constructor
    · rintro ((a | a) | a)
      · exact .inl (.inl a)
      · exact .inr a
      · exact .inl (.inr a)
    · rintro ((a | a) | a)
      · exact .inl (.inl a)
      · exact .inr a
      · exact .inl (.inr a)
theorem TO.fold1 (hk : L[k]? = some A) (hs : Splits (L.set k emp) As R) (hR : R[k]? = some emp) (hE : ∀ C w, sepL (A :: As) C w → B.P C w) (h : TO F P w0 K N dfs ops Q rest σ (R.set k B)) : TO F P w0 K N dfs ops Q rest σ L := fun a w ha hw => h a w ha (hw.fold1 hk hs hR hE)
theorem TC.fold1 (hk : L[k]? = some A) (hs : Splits (L.set k emp) As R) (hR : R[k]? = some emp) (hE : ∀ C w, sepL (A :: As) C w → B.P C w) (h : TC F P w0 K N dfs Q c σ (R.set k B)) : TC F P w0 K N dfs Q c σ L := fun a w ha hw => h a w ha (hw.fold1 hk hs hR hE)
theorem TX.fold1 (hk : L[k]? = some A) (hs : Splits (L.set k emp) As R) (hR : R[k]? = some emp) (hE : ∀ C w, sepL (A :: As) C w → B.P C w) (h : TX w0 K N dfs Q ex σ (R.set k B)) : TX w0 K N dfs Q ex σ L := fun a w ha hw => h a w ha (hw.fold1 hk hs hR hE)
theorem TO.unfold1 {I : β → Prop} {Bf : β → Asn} {Bs : β → List Asn} (hk : L[k]? = some A) (hE : ∀ C w, A.P C w → ∃ b, I b ∧ sepL (Bf b :: Bs b) C w) (h : ∀ b, I b → TO F P w0 K N dfs ops Q rest σ (L.set k (Bf b) ++ Bs b)) : TO F P w0 K N dfs ops Q rest σ L := fun a w ha hw => by
  obtain ⟨b, hI, hb⟩ := hw.unfold1 hk hE; exact h b hI a w ha hb
theorem TC.unfold1 {I : β → Prop} {Bf : β → Asn} {Bs : β → List Asn} (hk : L[k]? = some A) (hE : ∀ C w, A.P C w → ∃ b, I b ∧ sepL (Bf b :: Bs b) C w) (h : ∀ b, I b → TC F P w0 K N dfs Q c σ (L.set k (Bf b) ++ Bs b)) : TC F P w0 K N dfs Q c σ L := fun a w ha hw => by
  obtain ⟨b, hI, hb⟩ := hw.unfold1 hk hE; exact h b hI a w ha hb
theorem TX.unfold1 {I : β → Prop} {Bf : β → Asn} {Bs : β → List Asn} (hk : L[k]? = some A) (hE : ∀ C w, A.P C w → ∃ b, I b ∧ sepL (Bf b :: Bs b) C w) (h : ∀ b, I b → TX w0 K N dfs Q ex σ (L.set k (Bf b) ++ Bs b)) : TX w0 K N dfs Q ex σ L := fun a w ha hw => by
  obtain ⟨b, hI, hb⟩ := hw.unfold1 hk hE; exact h b hI a w ha hb
end
section
variable {F : Fence} {P : Program} {w0 : World} {K : Nat → Prop} {N : Nat} {dfs : List Deferred} {ops : Array Oper} {Q : Exit → Act → World → Prop} {rest : List Oper} {c : Code} {ex : Exit} {σ : List (Nat × Value)} {L As R : List Asn} {k : Nat}
  {α η : Type} {enc : α × η → List Value} {nest : α × η → List Asn} {e : TypeId} {size : Nat} {v : Value} {xs : List α} {zs zs' : List (α × η)} {z z' : α × η} {i : Nat} {x x' : α} {h h' : η}
/-- What the records zs own. -/
def own (nest : α × η → List Asn) (zs : List (α × η)) : Asn := star (zs.flatMap nest)
theorem openE (C : Nat → Prop) (w : World) (h : (vecN enc nest e size v xs).P C w) : ∃ zs : List (α × η), zs.map Prod.fst = xs ∧ sepL (vec enc e size v zs :: [own nest zs]) C w := by
  obtain ⟨⟨zs, hz⟩, h⟩ := h; exact ⟨zs, hz, h⟩
theorem closeE (hz : zs.map Prod.fst = xs) (C : Nat → Prop) (w : World) (h : sepL (vec enc e size v zs :: [own nest zs]) C w) : (vecN enc nest e size v xs).P C w := ⟨⟨zs, hz⟩, h⟩
theorem pullE (hz : zs[i]? = some z) (C : Nat → Prop) (w : World) (h : (own nest zs).P C w) : ∃ _u : Unit, True ∧ sepL (own nest (zs.eraseIdx i) :: nest z) C w := by
  obtain ⟨C1, C2, h1, h2, h3, h4⟩ := (sepL.pull hz).1 h
  exact ⟨(), trivial, C2, C1, h2, h1, fun k a b => h3 k b a, fun k => by rw [h4]; exact Or.comm⟩
theorem pushE (hz : zs'[i]? = some z) (he : zs'.eraseIdx i = zs.eraseIdx i) (C : Nat → Prop) (w : World) (h : sepL (own nest (zs.eraseIdx i) :: nest z) C w) : (own nest zs').P C w := by
  obtain ⟨C1, C2, h1, h2, h3, h4⟩ := h
  exact (sepL.pull hz).2 ⟨C2, C1, h2, by rw [he]; exact h1, fun k a b => h3 k b a, fun k => by rw [h4]; exact Or.comm⟩
theorem ownApp (C : Nat → Prop) (w : World) (h : sepL (own nest zs :: nest z) C w) : (own nest (zs ++ [z])).P C w := by
  obtain ⟨C1, C2, h1, h2, h3, h4⟩ := h
  show sepL ((zs ++ [z]).flatMap nest) C w
  rw [List.flatMap_append, List.flatMap_cons, List.flatMap_nil, List.append_nil]
  exact sepL.append' h1 h2 h3 h4
theorem ownOne (C : Nat → Prop) (w : World) (h : sepL (emp :: nest z) C w) : (own nest [z]).P C w := by
  obtain ⟨C1, C2, h1, h2, h3, h4⟩ := h
  show sepL ([z].flatMap nest) C w
  rw [List.flatMap_cons, List.flatMap_nil, List.append_nil]
  exact h2.congr (fun k => by rw [h4]; exact ⟨fun h => h.resolve_left (h1 k), .inr⟩)
theorem ownBack (C : Nat → Prop) (w : World) (h : (own nest [z]).P C w) : ∃ _u : Unit, True ∧ sepL (emp :: nest z) C w := by
  have h' : sepL ([z].flatMap nest) C w := h
  rw [List.flatMap_cons, List.flatMap_nil, List.append_nil] at h'
  exact ⟨(), trivial, fun _ => False, C, fun _ h => h, h', fun _ h => h.elim, fun k => by simp⟩
theorem getO_z {i : Int} (hz : zs.map Prod.fst = xs) (hq : getO xs i = some x) : ∃ h, getO zs i = some (x, h) := by
  subst hz
  unfold getO at hq ⊢
  split at hq
  · rename_i h0
    rw [if_pos h0]
    rw [List.getElem?_map] at hq
    obtain ⟨z, h1, h2⟩ := Option.map_eq_some_iff.1 hq
    exact ⟨z.2, by rw [h1, ← h2]⟩
  · cases hq
theorem cutL_map {i j : Int} (hz : zs.map Prod.fst = xs) : (cutL zs i j).map Prod.fst = cutL xs i j := by
  subst hz; unfold cutL; rw [List.map_take, List.map_drop]
theorem zlen (hz : zs.map Prod.fst = xs) : zs.length = xs.length := by rw [← hz, List.length_map]
theorem zset (hz : zs.map Prod.fst = xs) : (zs.set i (x', h)).map Prod.fst = xs.set i x' := by rw [List.map_set, hz]
theorem zapp (hz : zs.map Prod.fst = xs) : (zs ++ [(x, h)]).map Prod.fst = xs ++ [x] := by rw [List.map_append, hz]; rfl
theorem set_get (hz : zs[i]? = some z) : (zs.set i z')[i]? = some z' := by
  have := (List.getElem?_eq_some_iff.1 hz).1; simp [this]
theorem set_erase : (zs.set i z').eraseIdx i = zs.eraseIdx i := List.eraseIdx_set_eq
theorem zcut {i j : Int} (hz : zs.map Prod.fst = xs) (g : 0 ≤ i ∧ i ≤ j ∧ j ≤ (xs.length : Int)) : 0 ≤ i ∧ i ≤ j ∧ j ≤ (zs.length : Int) := by rw [zlen hz]; exact g
variable {d : Nat} {ty : TypeId} {pos : String} {aft : Array Edge} {g : Option (Nat × Bool)} {o : Operand}
theorem TO.lenVecZ [WideF F] {tt te : TypeId} (hz : zs.map Prod.fst = xs) (hg : gd ops σ g = some true) (hd : d < N) (hx : ev σ o = some v) (hk : L[k]? = some (vec enc e size v zs)) (ht : P.underlying tt = some (.slice te))
    (h : TO F P w0 K N dfs ops Q rest ((d, .int .i64 (xs.length : Int)) :: σ) L) : TO F P w0 K N dfs ops Q (⟨some d, .call { callee := .builtin .len, args := #[o], argTypes := #[tt] }, ty, pos, aft, g⟩ :: rest) σ L :=
  TO.lenVec hg hd hx hk ht (by rw [zlen hz]; exact h)
theorem TO.lenVwZ [WideF F] {tt te : TypeId} {Ls : List (α × η)} {vv : Value} {j : Nat} (hz : zs.map Prod.fst = xs) (hV : Vw vv Ls size j v zs) (hg : gd ops σ g = some true) (hd : d < N) (hx : ev σ o = some v) (ht : P.underlying tt = some (.slice te))
    (h : TO F P w0 K N dfs ops Q rest ((d, .int .i64 (xs.length : Int)) :: σ) L) : TO F P w0 K N dfs ops Q (⟨some d, .call { callee := .builtin .len, args := #[o], argTypes := #[tt] }, ty, pos, aft, g⟩ :: rest) σ L :=
  TO.lenVw hV hg hd hx ht (by rw [zlen hz]; exact h)
theorem TO.lenBy2 [WideF F] {b : ByteArray} {tt : TypeId} {te : TypeId} (hg : gd ops σ g = some true) (hd : d < N) (hx : ev σ o = some v) (hk : L[k]? = some (byt e v b)) (ht : P.underlying tt = some (.slice te))
    (h : TO F P w0 K N dfs ops Q rest ((d, .int .i64 b.size) :: σ) L) : TO F P w0 K N dfs ops Q (⟨some d, .call { callee := .builtin .len, args := #[o], argTypes := #[tt] }, ty, pos, aft, g⟩ :: rest) σ L :=
  TO.val hg hd (by simp) (fun a w ha hw => by
    obtain ⟨C, hv, _⟩ := hw.focus hk
    have hl : ∃ q c, v = .slice q b.size c := by
      rcases Byt.shape hv with ⟨rfl, rfl, _⟩ | ⟨q, cap, cur, rfl, _⟩
      · exact ⟨none, 0, rfl⟩
      · exact ⟨_, _, rfl⟩
    obtain ⟨q, cc, hq⟩ := hl
    have := ha.ev hx
    simp [execOp, resolve, invoke, builtin, this, hq, Builtin.len_, run_underlying ht, Sem.run_bind, goInt]) h
theorem TC.nameHd {ε : Type} {enc1 : ε → List Value} {ys : List ε} (hk : L[k]? = some (vec enc1 e size v ys)) (hh : ∀ hd : Hd, v = hd.v → TC F P w0 K N dfs Q c σ L) : TC F P w0 K N dfs Q c σ L := fun a w ha hw => by
  obtain ⟨C, hv, _⟩ := hw.focus hk
  obtain ⟨q, cc, he⟩ := Vec.len hv
  exact hh ⟨q, ys.length, cc⟩ he a w ha hw
theorem TC.newByt (h : TC F P w0 K N dfs Q c σ (L ++ [byt e (.slice none 0 0) ⟨#[]⟩])) : TC F P w0 K N dfs Q c σ L := fun a w ha hw =>
  h a w ha (hw.grow (C' := fun _ => False) (Ext.refl _ _) (sepL.one (A := byt e (.slice none 0 0) ⟨#[]⟩) Byt.nil))
theorem TX.newN (hh : TX w0 K N dfs Q ex σ (L ++ [vecN enc nest e size (.slice none 0 0) ([] : List α)])) : TX w0 K N dfs Q ex σ L := fun a w ha hw =>
  hh a w ha (hw.grow (C' := fun _ => False) (Ext.refl _ _) (by obtain ⟨_, _, h⟩ := Entl.nilN (enc := enc) (nest := nest) (e := e) (size := size) (fun _ => False) w (fun _ h => h); exact h))
theorem TC.newN (hh : TC F P w0 K N dfs Q c σ (L ++ [vecN enc nest e size (.slice none 0 0) ([] : List α)])) : TC F P w0 K N dfs Q c σ L := fun a w ha hw =>
  hh a w ha (hw.grow (C' := fun _ => False) (Ext.refl _ _) (by obtain ⟨_, _, h⟩ := Entl.nilN (enc := enc) (nest := nest) (e := e) (size := size) (fun _ => False) w (fun _ h => h); exact h))
theorem TO.newN (hh : TO F P w0 K N dfs ops Q rest σ (L ++ [vecN enc nest e size (.slice none 0 0) ([] : List α)])) : TO F P w0 K N dfs ops Q rest σ L := fun a w ha hw =>
  hh a w ha (hw.grow (C' := fun _ => False) (Ext.refl _ _) (by obtain ⟨_, _, h⟩ := Entl.nilN (enc := enc) (nest := nest) (e := e) (size := size) (fun _ => False) w (fun _ h => h); exact h))
theorem TO.padE (h : TO F P w0 K N dfs ops Q rest σ (L ++ [emp])) : TO F P w0 K N dfs ops Q rest σ L := fun a w ha hw => by
  refine h a w ha ?_
  obtain ⟨C, hL, hx⟩ := hw
  exact ⟨C, sepL.append' hL (sepL.emps 1) (fun _ _ h => h) (fun k => by simp), hx⟩
theorem zs_self {ε : Type} {ys : List ε} {y : ε} (hi : ys[i]? = some y) : ys.set i y = ys := by
  obtain ⟨hl, he⟩ := List.getElem?_eq_some_iff.1 hi
  rw [← he]; exact List.set_getElem_self hl
theorem flat_setE {ε : Type} {enc1 : ε → List Value} {q1 q2 : ε} (he : enc1 q1 = enc1 q2) : ∀ (ys : List ε) (i : Nat), (ys.set i q1).flatMap enc1 = (ys.set i q2).flatMap enc1
  | [], i => rfl
  | y :: ys, 0 => by simp [he]
  | y :: ys, i + 1 => by simp [flat_setE he ys i]
/-- What is not to be seen in the cells may differ. -/
theorem vec_setE {ε : Type} {enc1 : ε → List Value} {ys zs : List ε} {q1 q2 : ε} (hz : zs = ys.set i q1) (hlen : ∀ x, (enc1 x).length = size) (he : enc1 q1 = enc1 q2) : Ent (vec enc1 e size v zs) (vec enc1 e size v (ys.set i q2)) := by
  subst hz
  rintro C w ⟨h1, h3⟩
  refine ⟨?_, h3⟩
  have hf := flat_setE he ys i
  have hl : (ys.set i q1).length = (ys.set i q2).length := by simp
  unfold Rw at h1 ⊢
  rw [← hf, ← hl]; exact h1
/-- A slice of one record that was a box is a box again. -/
theorem boxE {b : Nat} {ε : Type} {enc1 : ε → List Value} {y : ε} (hlen : ∀ x, (enc1 x).length = size) : Ent (vec enc1 e size (.slice (some ⟨b, 0, none⟩) 1 1) [y]) (cells b (enc1 y) e) := by
  intro C w h
  obtain ⟨_, _, h'⟩ := Entl.fromVec (enc1 := enc1) (e := e) (size := size) (b := b) (y := y) hlen C w (sepL.one1.2 h)
  exact sepL.one1.1 h'
end
end Go.Proofs.Ythjkafeklflgbaa
namespace Go.Proofs.Ythjkafeklflgbaa
open Go.RowKit Go.Lib Go.MapKept
set_option linter.unusedVariables false
set_option linter.unusedSimpArgs false
/-- A map in plain Lean: the last that is put is found. -/
def getM {κ ν : Type} [DecidableEq κ] (k : κ) : List (κ × ν) → Option ν
  | [] => none
  | p :: l => if k = p.1 then some p.2 else getM k l
def putM {κ ν : Type} [DecidableEq κ] (k : κ) (v : ν) : List (κ × ν) → List (κ × ν)
  | [] => [(k, v)]
  | p :: l => if k = p.1 then (k, v) :: l else p :: putM k v l
def idxM {κ : Type} [DecidableEq κ] (k : κ) : List κ → Nat → Option Nat
  | [], _ => none
  | p :: l, i => if k = p then some i else idxM k l (i + 1)
/-- What is asked of keys. -/
structure KeyOk (P : Program) (kt : TypeId) {κ : Type} [DecidableEq κ] (ek : κ → Value) : Prop where
  check : ∀ em k (w : World), (Instr.checkKey em 10000 kt (ek k)).run P w = .ok () w
  find : ∀ (es : List MapEntry) (ks : List κ) k (w : World), es.map (·.key) = ks.map ek → (Instr.findKey kt (ek k) es).run P w = .ok ((idxM k ks 0).map fun i => (i, ((es[i]?).map (·.val)).getD default)) w
  same : ∀ k, Instr.sameBits 10000 (ek k) (ek k) = true
theorem idxM_succ {κ : Type} [DecidableEq κ] (k : κ) : ∀ (l : List κ) (i : Nat), idxM k l (i + 1) = (idxM k l i).map (· + 1)
  | [], i => rfl
  | p :: l, i => by unfold idxM; split <;> simp [idxM_succ k l (i + 1)]
theorem find_cons {κ : Type} [DecidableEq κ] (k p : κ) (e : MapEntry) (es : List MapEntry) (ks : List κ) (n : Nat) :
    ((idxM k (p :: ks) 0).map fun i => (i + n, (((e :: es)[i]?).map (·.val)).getD default)) = if k = p then some (n, e.val) else (idxM k ks 0).map fun i => (i + (n + 1), ((es[i]?).map (·.val)).getD default) := by
  have e : idxM k (p :: ks) 0 = if k = p then some 0 else idxM k ks (0 + 1) := rfl
  rw [e]
  split
  · simp
  · rw [idxM_succ, Option.map_map]; congr 1; funext i; simp [Nat.add_assoc, Nat.add_comm 1 n]
theorem KeyOk.int {P : Program} {kt : TypeId} {kd : IntKind} (h : P.underlying kt = some (.int kd)) : KeyOk P kt (fun n : Int => Value.int kd n) where
  check := fun em k w => run_checkKey h (show IsKey (.int kd) (.int kd k) by simp [IsKey]) em 9999
  find := fun es ks k w hk => run_findKey h (by
    have : ∀ (es : List MapEntry) (ks : List Int) (n : Nat), es.map (·.key) = ks.map (fun n : Int => Value.int kd n) → Instr.findNow (.int kd) (.int kd k) es n = some ((idxM k ks 0).map fun i => (i + n, ((es[i]?).map (·.val)).getD default)) := by
      intro es
      induction es with
      | nil => intro ks n h; cases ks with
        | nil => rfl
        | cons _ _ => simp at h
      | cons e es ih => intro ks n h; cases ks with
        | nil => simp at h
        | cons p ks =>
          simp only [List.map_cons, List.cons.injEq] at h
          rw [find_cons]
          have hs : Instr.sameNow (.int kd) (.int kd k) e.key = some (k == p) := by rw [h.1]; simp [Instr.sameNow]
          unfold Instr.findNow
          rw [hs]
          by_cases hp : k = p
          · subst hp; simp
          · have : (k == p) = false := by simpa using hp
            rw [this, if_neg hp]; exact ih ks (n + 1) h.2
    exact this es ks 0 hk)
  same := fun k => by simp [Instr.sameBits]
/-- A pair of numbers as an array. -/
theorem part_int0 {P : Program} {t : TypeId} {kd : IntKind} {xs : Array Value} {j : Nat} {v : Value} {w : World} (h : P.underlying t = some (.int kd)) (hv : xs[j]? = some v) : (part t xs j).run P w = .ok v w := by
  simp [part, Sem.run_bind, run_underlying h, hv, isAgg]
theorem run_equal_arr2 {P : Program} {t e : TypeId} {kd : IntKind} (ht : P.underlying t = some (.array 2 e)) (he : P.underlying e = some (.int kd)) (hs : SizeOk P e 1) {a b a' b' : Int} (w : World) :
    (Op.equalIn 10000 t (.agg #[.int kd a, .int kd b]) (.agg #[.int kd a', .int kd b'])).run P w = .ok (a == a' && b == b') w := by
  obtain ⟨i, hi, hsz⟩ := hs.some
  have h1 : ∀ (d : Nat) (x y : Int), (Op.equalIn (d + 1) e (.int kd x) (.int kd y)).run P w = .ok (x == y) w := fun d x y => run_equalIn_int w d e kd kd x y he
  have p1 : ∀ (x y : Int), (part e #[.int kd x, .int kd y] 0).run P w = .ok (.int kd x) w := fun x y => part_int0 he rfl
  have p2 : ∀ (x y : Int), (part e #[.int kd x, .int kd y] 1).run P w = .ok (.int kd y) w := fun x y => part_int0 he rfl
  have hc : P.cellsOf e = 1 := by simp [Program.cellsOf, hi, hsz]
  have key : ∀ d : Nat, (Op.equalIn (d + 1 + 1) t (.agg #[.int kd a, .int kd b]) (.agg #[.int kd a', .int kd b'])).run P w = .ok (a == a' && b == b') w := fun d => by
    unfold Op.equalIn
    simp only [Sem.run_bind, run_underlying ht, Result.andThen_ok, run_sizeOf w hi]
    simp only [Std.Legacy.Range.forIn_eq_forIn_range', Std.Legacy.Range.size, Nat.sub_zero, Nat.add_one_sub_one, Nat.div_one, hsz, List.range'_succ, List.range'_zero, List.forIn_cons, List.forIn_nil, Sem.run_bind, Result.andThen_ok, Nat.zero_mul, Nat.zero_add, Nat.one_mul, p1, p2, h1, Nat.mul_one]
    cases h : (a == a') <;> cases h2 : (b == b') <;> simp [Sem.run_bind, p1, p2, h1, h, h2, hc]
  exact key 9998
theorem KeyOk.arr2 {P : Program} {kt e : TypeId} {kd : IntKind} {κ : Type} [DecidableEq κ] {f0 f1 : κ → Int} (hinj : ∀ a b : κ, f0 a = f0 b → f1 a = f1 b → a = b)
    (ht : P.underlying kt = some (.array 2 e)) (he : P.underlying e = some (.int kd)) (hs : SizeOk P e 1) : KeyOk P kt (fun p : κ => Value.agg #[.int kd (f0 p), .int kd (f1 p)]) where
  check := fun em k w => by
    obtain ⟨i, hi, hsz⟩ := hs.some
    have hc : P.cellsOf e = 1 := by simp [Program.cellsOf, hi, hsz]
    have h1 : ∀ (n : Nat) (x : Int), (Instr.checkKey em (n + 1) e (.int kd x)).run P w = .ok () w := fun n x => run_checkKey he (show IsKey (.int kd) (.int kd x) by simp [IsKey]) em n
    have p1 : ∀ (x y : Int), (part e #[.int kd x, .int kd y] 0).run P w = .ok (.int kd x) w := fun x y => part_int0 he rfl
    have p2 : ∀ (x y : Int), (part e #[.int kd x, .int kd y] 1).run P w = .ok (.int kd y) w := fun x y => part_int0 he rfl
    have key : ∀ n : Nat, (Instr.checkKey em (n + 1 + 1) kt (.agg #[.int kd (f0 k), .int kd (f1 k)])).run P w = .ok () w := fun n => by
      unfold Instr.checkKey
      simp only [Sem.run_bind, run_underlying ht, Result.andThen_ok]
      simp only [Std.Legacy.Range.forIn_eq_forIn_range', Std.Legacy.Range.size, Nat.sub_zero, Nat.add_one_sub_one, Nat.div_one, List.range'_succ, List.range'_zero, List.forIn_cons, List.forIn_nil, Sem.run_bind, run_sizeOf w hi, hsz, Result.andThen_ok, Nat.zero_mul, Nat.zero_add, Nat.one_mul, p1, p2, h1, Nat.mul_one]
      simp [Sem.run_bind, run_sizeOf w hi, hsz, p1, p2, h1, hc]
    exact key 9998
  find := fun es ks k w hk => by
    have hA : ∀ (es : List MapEntry) (ks : List κ) (n : Nat), es.map (·.key) = ks.map (fun p : κ => Value.agg #[.int kd (f0 p), .int kd (f1 p)]) → (Instr.findAsking kt (.agg #[.int kd (f0 k), .int kd (f1 k)]) es n).run P w = .ok ((idxM k ks 0).map fun i => (i + n, ((es[i]?).map (·.val)).getD default)) w := by
      intro es
      induction es with
      | nil => intro ks n h; cases ks with
        | nil => rfl
        | cons _ _ => simp at h
      | cons e' es ih => intro ks n h; cases ks with
        | nil => simp at h
        | cons p ks =>
          simp only [List.map_cons, List.cons.injEq] at h
          rw [find_cons]
          unfold Instr.findAsking
          rw [h.1]
          have he2 : (Op.equal kt (.agg #[.int kd (f0 k), .int kd (f1 k)]) (.agg #[.int kd (f0 p), .int kd (f1 p)])).run P w = .ok (f0 k == f0 p && f1 k == f1 p) w := run_equal_arr2 ht he hs w
          simp only [Sem.run_bind, he2, Result.andThen_ok]
          by_cases hp : k = p
          · subst hp; simp
          · have : (f0 k == f0 p && f1 k == f1 p) = false := by
              cases h' : (f0 k == f0 p && f1 k == f1 p) with
              | false => rfl
              | true => simp at h'; exact absurd (hinj _ _ h'.1 h'.2) hp
            rw [this, if_neg hp]; exact ih ks (n + 1) h.2
    have hA := hA es ks 0 hk
    unfold Instr.findKey
    simp only [Sem.run_bind, run_underlying ht, Result.andThen_ok]
    cases es with
    | nil => cases ks with
      | nil => rfl
      | cons _ _ => simp at hk
    | cons e' es => cases ks with
      | nil => simp at hk
      | cons p ks =>
        simp only [List.map_cons, List.cons.injEq] at hk
        have : Instr.findNow (.array 2 e) (.agg #[.int kd (f0 k), .int kd (f1 k)]) (e' :: es) 0 = none := by
          unfold Instr.findNow; rw [hk.1]; rfl
        rw [this]; exact hA
  same := fun k => by simp [Instr.sameBits]
/-- The map b holds L. -/
def mapA {κ ν : Type} (ek : κ → Value) (ev : ν → Value) (b : Nat) (L : List (κ × ν)) : Asn :=
  exA fun z : {z : Array MapEntry × Nat // z.1.toList.map (fun e => (e.key, e.val)) = L.map (fun p => (ek p.1, ev p.2))} => obj b (.map z.1.1 z.1.2)
theorem getM_idx {κ ν : Type} [DecidableEq κ] (k : κ) : ∀ (L : List (κ × ν)), ((idxM k (L.map Prod.fst) 0).bind fun i => (L[i]?).map Prod.snd) = getM k L
  | [] => rfl
  | p :: L => by
    have e : idxM k ((p :: L).map Prod.fst) 0 = if k = p.1 then some 0 else idxM k (L.map Prod.fst) (0 + 1) := rfl
    rw [e]; unfold getM
    split
    · simp
    · rw [idxM_succ, ← getM_idx k L]; cases idxM k (L.map Prod.fst) 0 <;> simp
theorem idxM_lt {κ : Type} [DecidableEq κ] (k : κ) : ∀ (L : List κ) (i n : Nat), idxM k L i = some n → i ≤ n ∧ n < i + L.length ∧ L[n - i]? = some k
  | [], i, n, h => by cases h
  | p :: L, i, n, h => by
    unfold idxM at h
    split at h
    · rename_i hp; cases h; subst hp; simp
    · obtain ⟨h1, h2, h3⟩ := idxM_lt k L (i + 1) n h
      refine ⟨by omega, by simp; omega, ?_⟩
      rw [show n - i = (n - (i + 1)) + 1 by omega]; simpa using h3
theorem putM_idx {κ ν : Type} [DecidableEq κ] (k : κ) (v : ν) : ∀ (L : List (κ × ν)), putM k v L = match idxM k (L.map Prod.fst) 0 with | some i => L.set i (k, v) | none => L ++ [(k, v)]
  | [] => rfl
  | p :: L => by
    have e : idxM k ((p :: L).map Prod.fst) 0 = if k = p.1 then some 0 else idxM k (L.map Prod.fst) (0 + 1) := rfl
    rw [e]; unfold putM
    by_cases h : k = p.1
    · rw [if_pos h, if_pos h]; rfl
    · rw [if_neg h, if_neg h, idxM_succ, putM_idx k v L]; cases idxM k (L.map Prod.fst) 0 <;> rfl
section
variable {F : Fence} {P : Program} {w0 : World} {K : Nat → Prop} {N : Nat} {dfs : List Deferred} {ops : Array Oper} {Q : Exit → Act → World → Prop} {rest : List Oper} {σ : List (Nat × Value)} {L : List Asn}
  {d : Nat} {ty : TypeId} {pos : String} {aft : Array Edge} {g : Option (Nat × Bool)} {x y z : Operand} {k b : Nat} {κ ν : Type} [DecidableEq κ] {ek : κ → Value} {ev' : ν → Value} {mt kt et : TypeId} {M : List (κ × ν)}
omit [DecidableEq κ] in
theorem TO.makeMap [WideF F] (ek : κ → Value) (ev' : ν → Value) (hg : gd ops σ g = some true) (hd : d < N)
    (h : ∀ b, TO F P w0 K N dfs ops Q rest ((d, .map (some b)) :: σ) (L ++ [mapA ek ev' b []])) : TO F P w0 K N dfs ops Q (⟨some d, .makeMap mt none, ty, pos, aft, g⟩ :: rest) σ L :=
  TO.step hg (by simp) fun a w ha hw => ⟨.map (some w.heap.size), w.alloc (.map #[] 0), by simp [execOp, Instr.makeMap, Sem.run_bind], h _ _ _ (ha.put hd _) (by
    have h1 := hw.alloc (.map #[] 0)
    have h2 := h1.ent (k := L.length) (A := obj w.heap.size (.map #[] 0)) (B := mapA ek ev' w.heap.size []) (by simp) (fun C w' hp => ⟨⟨(#[], 0), rfl⟩, hp⟩)
    simpa using h2)⟩
theorem TO.mapUpdate [WideF F] {kk : κ} {vv : ν} (hK : KeyOk P kt ek) (ht : P.underlying mt = some (.map kt et)) (hg : gd ops σ g = some true) (hx : ev σ x = some (.map (some b))) (hy : ev σ y = some (ek kk)) (hz : ev σ z = some (ev' vv))
    (hk : L[k]? = some (mapA ek ev' b M)) (h : TO F P w0 K N dfs ops Q rest σ (L.set k (mapA ek ev' b (putM kk vv M)))) : TO F P w0 K N dfs ops Q (⟨none, .mapUpdate mt x y z, ty, pos, aft, g⟩ :: rest) σ L :=
  TO.stepSkip hg (by simp) fun a w ha hw => by
    obtain ⟨C1, ⟨⟨⟨es, clock⟩, hes⟩, hC, hb⟩, hset⟩ := hw.focus hk
    have hb : w.heap[b]? = some (.map es clock) := hb
    have hes : es.toList.map (fun e => (e.key, e.val)) = M.map (fun p => (ek p.1, ev' p.2)) := hes
    have hkeys : es.toList.map (·.key) = (M.map Prod.fst).map ek := by
      have := congrArg (List.map Prod.fst) hes
      simpa [List.map_map, Function.comp_def] using this
    have hfind := hK.find es.toList (M.map Prod.fst) kk w hkeys
    have hput := putM_idx kk vv M
    have hlen : es.toList.length = M.length := by have := congrArg List.length hes; simpa using this
    have fin : ∀ o' : Obj, (∀ C' w', (∀ k, C' k ↔ k = b) → w'.heap[b]? = some o' → (mapA ek ev' b (putM kk vv M)).P C' w') → Holds w0 K (L.set k (mapA ek ev' b (putM kk vv M))) (w.putObj b o') := fun o' ho =>
      hset _ C1 _ ⟨(Fr.refl _ _).putObj (.inl ((hC b).2 rfl)) _, fun k hk => .inl hk⟩ (ho _ _ hC (World.putObj_heap_same (lt_of_some hb)))
    have ex := ha.ev hx; have ey := ha.ev hy; have ez := ha.ev hz
    cases hi : idxM kk (M.map Prod.fst) 0 with
    | none =>
      rw [hi] at hfind hput
      refine ⟨w.putObj b (.map (es.push { key := ek kk, val := ev' vv, born := clock }) (clock + 1)), ?_, h _ _ ha (fin _ fun C' w' h1 h2 => ⟨⟨(_, _), ?_⟩, h1, h2⟩)⟩
      · simp [execOp, ex, ey, ez, Instr.mapUpdate, run_underlying ht, Go.MapKept.run_getObj_map hb, hK.check, hfind, run_setObj_map _ hb, Sem.run_bind, World.putObj]
      · simp [hput, hes]
    | some i =>
      rw [hi] at hfind hput
      obtain ⟨_, h2, h3⟩ := idxM_lt kk _ _ _ hi
      simp at h2
      have h3 : (M.map Prod.fst)[i]? = some kk := by simpa using h3
      have hie : i < es.toList.length := by omega
      have hkey : (es[i]?).map (·.key) = some (ek kk) := by
        have := congrArg (fun l => l[i]?) hkeys
        simp only [List.getElem?_map] at this
        rw [show es[i]? = es.toList[i]? by simp, this]
        have h4 : M[i]?.map Prod.fst = some kk := by simpa using h3
        rw [h4]; rfl
      refine ⟨w.putObj b (.map (es.modify i fun e => { e with key := ek kk, val := ev' vv }) clock), ?_, h _ _ ha (fin _ fun C' w' h1 h2 => ⟨⟨(es.modify i fun e => { e with key := ek kk, val := ev' vv }, clock), ?_⟩, h1, h2⟩)⟩
      · have hst : (Instr.keyThatStays (ek kk) (ek kk)).run P w = .ok (ek kk) w := by simp [Instr.keyThatStays, hK.same]
        simp [execOp, ex, ey, ez, Instr.mapUpdate, run_underlying ht, Go.MapKept.run_getObj_map hb, hK.check, hfind, hkey, hst, run_setObj_map _ hb, Sem.run_bind, World.putObj]
      · show List.map (fun e => (e.key, e.val)) (es.modify i fun e => { e with key := ek kk, val := ev' vv }).toList = _
        rw [hput]
        apply List.ext_getElem?
        intro j
        have hj := congrArg (fun l => l[j]?) hes
        simp only [List.getElem?_map] at hj
        simp only [Array.toList_modify, List.getElem?_map, List.getElem?_modify, List.getElem?_set]
        by_cases hji : i = j
        · subst hji
          have h5 : es.toList[i]? = some es.toList[i] := List.getElem?_eq_getElem hie
          simp [h5, show i < M.length by omega] 
        · simp [hji]; simpa using hj
theorem TO.lookupOk [WideF F] {kk : κ} {z0 : ν} (hK : KeyOk P kt ek) (ht : P.underlying mt = some (.map kt et)) (hz0 : (P.info? et).bind (fun i => i.zero) = some (ev' z0)) (hg : gd ops σ g = some true) (hd : d < N) (hx : ev σ x = some (.map (some b))) (hy : ev σ y = some (ek kk))
    (hk : L[k]? = some (mapA ek ev' b M)) (h : TO F P w0 K N dfs ops Q rest ((d, .tuple #[ev' ((getM kk M).getD z0), .bool (getM kk M).isSome]) :: σ) L) : TO F P w0 K N dfs ops Q (⟨some d, .lookup mt x y true, ty, pos, aft, g⟩ :: rest) σ L :=
  TO.val hg hd (by simp) (fun a w ha hw => by
    obtain ⟨C1, ⟨⟨⟨es, clock⟩, hes⟩, hC, hb⟩, hset⟩ := hw.focus hk
    have hb : w.heap[b]? = some (.map es clock) := hb
    have hes : es.toList.map (fun e => (e.key, e.val)) = M.map (fun p => (ek p.1, ev' p.2)) := hes
    have hkeys : es.toList.map (·.key) = (M.map Prod.fst).map ek := by
      have := congrArg (List.map Prod.fst) hes
      simpa [List.map_map, Function.comp_def] using this
    have hfind := hK.find es.toList (M.map Prod.fst) kk w hkeys
    have ex := ha.ev hx; have ey := ha.ev hy
    have hzero : (zeroValue et).run P w = .ok (ev' z0) w := by
      cases hi : P.info? et with
      | none => rw [hi] at hz0; cases hz0
      | some i =>
        rw [hi] at hz0
        have hz1 : i.zero = some (ev' z0) := hz0
        simp [zeroValue, typeInfo, hi, hz1, Sem.run_bind]
    rw [← getM_idx kk M]
    cases hi : idxM kk (M.map Prod.fst) 0 with
    | none =>
      rw [hi] at hfind
      simp [execOp, ex, ey, Instr.lookup, run_underlying ht, Go.MapKept.run_getObj_map hb, hK.check, hfind, hzero, Sem.run_bind]
    | some i =>
      rw [hi] at hfind
      obtain ⟨_, h2, h3⟩ := idxM_lt kk _ _ _ hi
      simp at h2
      have hj := congrArg (fun l => (l[i]?).map Prod.snd) hes
      simp only [List.getElem?_map, Option.map_map, Function.comp_def] at hj
      have hM : M[i]? = some M[i] := List.getElem?_eq_getElem h2
      have hv : (es.toList[i]?).map (·.val) = some (ev' M[i].2) := by rw [hj, hM]; rfl
      have hv2 : (es[i]?).map (·.val) = some (ev' M[i].2) := by simpa using hv
      simp [execOp, ex, ey, Instr.lookup, run_underlying ht, Go.MapKept.run_getObj_map hb, hK.check, hfind, hv2, hM, Sem.run_bind]) h
end
end Go.Proofs.Ythjkafeklflgbaa
namespace Go.Proofs.Ythjkafeklflgbaa
open Go.RowKit Go.Lib Go.Shelf
theorem sc_1 : ScalarOk Try.prog 1 := ⟨_, Try.underlying1, rfl⟩
theorem sz_1 : SizeOk Try.prog 1 1 := by unfold SizeOk; as_aux_lemma => kernel_rfl
theorem zr_1 : ZeroOk Try.prog 1 [.nilFunc] := by unfold ZeroOk; as_aux_lemma => kernel_rfl
theorem el_1 : ElemOk Try.prog 1 1 := ElemOk.mk' (by as_aux_lemma => kernel_rfl)
theorem sc_2 : ScalarOk Try.prog 2 := ⟨_, Try.underlying2, rfl⟩
theorem sz_2 : SizeOk Try.prog 2 1 := by unfold SizeOk; as_aux_lemma => kernel_rfl
theorem zr_2 : ZeroOk Try.prog 2 [.int .i64 0] := by unfold ZeroOk; as_aux_lemma => kernel_rfl
theorem el_2 : ElemOk Try.prog 2 1 := ElemOk.mk' (by as_aux_lemma => kernel_rfl)
theorem sc_3 : ScalarOk Try.prog 3 := ⟨_, Try.underlying3, rfl⟩
theorem sz_3 : SizeOk Try.prog 3 1 := by unfold SizeOk; as_aux_lemma => kernel_rfl
theorem zr_3 : ZeroOk Try.prog 3 [.int .i64 0] := by unfold ZeroOk; as_aux_lemma => kernel_rfl
theorem el_3 : ElemOk Try.prog 3 1 := ElemOk.mk' (by as_aux_lemma => kernel_rfl)
theorem sc_4 : ScalarOk Try.prog 4 := ⟨_, Try.underlying4, rfl⟩
theorem sz_4 : SizeOk Try.prog 4 1 := by unfold SizeOk; as_aux_lemma => kernel_rfl
theorem zr_4 : ZeroOk Try.prog 4 [.bool false] := by unfold ZeroOk; as_aux_lemma => kernel_rfl
theorem el_4 : ElemOk Try.prog 4 1 := ElemOk.mk' (by as_aux_lemma => kernel_rfl)
theorem sc_5 : ScalarOk Try.prog 5 := ⟨_, Try.underlying5, rfl⟩
theorem sz_5 : SizeOk Try.prog 5 1 := by unfold SizeOk; as_aux_lemma => kernel_rfl
theorem zr_5 : ZeroOk Try.prog 5 [.int .u8 0] := by unfold ZeroOk; as_aux_lemma => kernel_rfl
theorem el_5 : ElemOk Try.prog 5 1 := ElemOk.mk' (by as_aux_lemma => kernel_rfl)
theorem by_5 : ByteOk Try.prog 5 := ByteOk.mk' (by as_aux_lemma => kernel_rfl)
theorem sc_6 : ScalarOk Try.prog 6 := ⟨_, Try.underlying6, rfl⟩
theorem sz_6 : SizeOk Try.prog 6 1 := by unfold SizeOk; as_aux_lemma => kernel_rfl
theorem zr_6 : ZeroOk Try.prog 6 [.int .u8 0] := by unfold ZeroOk; as_aux_lemma => kernel_rfl
theorem el_6 : ElemOk Try.prog 6 1 := ElemOk.mk' (by as_aux_lemma => kernel_rfl)
theorem by_6 : ByteOk Try.prog 6 := ByteOk.mk' (by as_aux_lemma => kernel_rfl)
theorem rw_7 : RowOk Try.prog 7 4 := ⟨_, Try.underlying7, rfl, by as_aux_lemma => kernel_rfl⟩
theorem fl_7_0 : FieldOk Try.prog 7 0 0 := ⟨_, _, Try.underlying7, rfl, rfl, by as_aux_lemma => kernel_rfl⟩
theorem fl_7_1 : FieldOk Try.prog 7 1 1 := ⟨_, _, Try.underlying7, rfl, rfl, by as_aux_lemma => kernel_rfl⟩
theorem fl_7_2 : FieldOk Try.prog 7 2 2 := ⟨_, _, Try.underlying7, rfl, rfl, by as_aux_lemma => kernel_rfl⟩
theorem fl_7_3 : FieldOk Try.prog 7 3 3 := ⟨_, _, Try.underlying7, rfl, rfl, by as_aux_lemma => kernel_rfl⟩
theorem sz_7 : SizeOk Try.prog 7 4 := by unfold SizeOk; as_aux_lemma => kernel_rfl
theorem zr_7 : ZeroOk Try.prog 7 [.int .i64 0, .int .i64 0, .bool false, .int .u8 0] := by unfold ZeroOk; as_aux_lemma => kernel_rfl
theorem el_7 : ElemOk Try.prog 7 4 := ElemOk.mk' (by as_aux_lemma => kernel_rfl)
theorem rw_8 : RowOk Try.prog 8 4 := ⟨_, Try.underlying8, rfl, by as_aux_lemma => kernel_rfl⟩
theorem fl_8_0 : FieldOk Try.prog 8 0 0 := ⟨_, _, Try.underlying8, rfl, rfl, by as_aux_lemma => kernel_rfl⟩
theorem fl_8_1 : FieldOk Try.prog 8 1 1 := ⟨_, _, Try.underlying8, rfl, rfl, by as_aux_lemma => kernel_rfl⟩
theorem fl_8_2 : FieldOk Try.prog 8 2 2 := ⟨_, _, Try.underlying8, rfl, rfl, by as_aux_lemma => kernel_rfl⟩
theorem fl_8_3 : FieldOk Try.prog 8 3 3 := ⟨_, _, Try.underlying8, rfl, rfl, by as_aux_lemma => kernel_rfl⟩
theorem sz_8 : SizeOk Try.prog 8 4 := by unfold SizeOk; as_aux_lemma => kernel_rfl
theorem zr_8 : ZeroOk Try.prog 8 [.int .i64 0, .int .i64 0, .bool false, .int .u8 0] := by unfold ZeroOk; as_aux_lemma => kernel_rfl
theorem el_8 : ElemOk Try.prog 8 4 := ElemOk.mk' (by as_aux_lemma => kernel_rfl)
theorem sc_9 : ScalarOk Try.prog 9 := ⟨_, Try.underlying9, rfl⟩
theorem sz_9 : SizeOk Try.prog 9 1 := by unfold SizeOk; as_aux_lemma => kernel_rfl
theorem zr_9 : ZeroOk Try.prog 9 [.string ByteArray.empty] := by unfold ZeroOk; as_aux_lemma => kernel_rfl
theorem el_9 : ElemOk Try.prog 9 1 := ElemOk.mk' (by as_aux_lemma => kernel_rfl)
theorem sc_10 : ScalarOk Try.prog 10 := ⟨_, Try.underlying10, rfl⟩
theorem sz_10 : SizeOk Try.prog 10 1 := by unfold SizeOk; as_aux_lemma => kernel_rfl
theorem zr_10 : ZeroOk Try.prog 10 [.string ByteArray.empty] := by unfold ZeroOk; as_aux_lemma => kernel_rfl
theorem el_10 : ElemOk Try.prog 10 1 := ElemOk.mk' (by as_aux_lemma => kernel_rfl)
theorem sc_11 : ScalarOk Try.prog 11 := ⟨_, Try.underlying11, rfl⟩
theorem sz_11 : SizeOk Try.prog 11 1 := by unfold SizeOk; as_aux_lemma => kernel_rfl
theorem zr_11 : ZeroOk Try.prog 11 [.string ByteArray.empty] := by unfold ZeroOk; as_aux_lemma => kernel_rfl
theorem el_11 : ElemOk Try.prog 11 1 := ElemOk.mk' (by as_aux_lemma => kernel_rfl)
theorem sc_12 : ScalarOk Try.prog 12 := ⟨_, Try.underlying12, rfl⟩
theorem sz_12 : SizeOk Try.prog 12 1 := by unfold SizeOk; as_aux_lemma => kernel_rfl
theorem zr_12 : ZeroOk Try.prog 12 [.int .u64 0] := by unfold ZeroOk; as_aux_lemma => kernel_rfl
theorem el_12 : ElemOk Try.prog 12 1 := ElemOk.mk' (by as_aux_lemma => kernel_rfl)
theorem rw_13 : RowOk Try.prog 13 2 := ⟨_, Try.underlying13, rfl, by as_aux_lemma => kernel_rfl⟩
theorem fl_13_0 : FieldOk Try.prog 13 0 0 := ⟨_, _, Try.underlying13, rfl, rfl, by as_aux_lemma => kernel_rfl⟩
theorem fl_13_1 : FieldOk Try.prog 13 1 1 := ⟨_, _, Try.underlying13, rfl, rfl, by as_aux_lemma => kernel_rfl⟩
theorem sz_13 : SizeOk Try.prog 13 2 := by unfold SizeOk; as_aux_lemma => kernel_rfl
theorem zr_13 : ZeroOk Try.prog 13 [.string ByteArray.empty, .int .u64 0] := by unfold ZeroOk; as_aux_lemma => kernel_rfl
theorem el_13 : ElemOk Try.prog 13 2 := ElemOk.mk' (by as_aux_lemma => kernel_rfl)
theorem rw_14 : RowOk Try.prog 14 2 := ⟨_, Try.underlying14, rfl, by as_aux_lemma => kernel_rfl⟩
theorem fl_14_0 : FieldOk Try.prog 14 0 0 := ⟨_, _, Try.underlying14, rfl, rfl, by as_aux_lemma => kernel_rfl⟩
theorem fl_14_1 : FieldOk Try.prog 14 1 1 := ⟨_, _, Try.underlying14, rfl, rfl, by as_aux_lemma => kernel_rfl⟩
theorem sz_14 : SizeOk Try.prog 14 2 := by unfold SizeOk; as_aux_lemma => kernel_rfl
theorem zr_14 : ZeroOk Try.prog 14 [.string ByteArray.empty, .int .u64 0] := by unfold ZeroOk; as_aux_lemma => kernel_rfl
theorem el_14 : ElemOk Try.prog 14 2 := ElemOk.mk' (by as_aux_lemma => kernel_rfl)
theorem sc_15 : ScalarOk Try.prog 15 := ⟨_, Try.underlying15, rfl⟩
theorem sz_15 : SizeOk Try.prog 15 1 := by unfold SizeOk; as_aux_lemma => kernel_rfl
theorem zr_15 : ZeroOk Try.prog 15 [.pointer none] := by unfold ZeroOk; as_aux_lemma => kernel_rfl
theorem el_15 : ElemOk Try.prog 15 1 := ElemOk.mk' (by as_aux_lemma => kernel_rfl)
theorem sc_16 : ScalarOk Try.prog 16 := ⟨_, Try.underlying16, rfl⟩
theorem sz_16 : SizeOk Try.prog 16 1 := by unfold SizeOk; as_aux_lemma => kernel_rfl
theorem zr_16 : ZeroOk Try.prog 16 [.pointer none] := by unfold ZeroOk; as_aux_lemma => kernel_rfl
theorem el_16 : ElemOk Try.prog 16 1 := ElemOk.mk' (by as_aux_lemma => kernel_rfl)
theorem sc_17 : ScalarOk Try.prog 17 := ⟨_, Try.underlying17, rfl⟩
theorem sz_17 : SizeOk Try.prog 17 1 := by unfold SizeOk; as_aux_lemma => kernel_rfl
theorem zr_17 : ZeroOk Try.prog 17 [.pointer none] := by unfold ZeroOk; as_aux_lemma => kernel_rfl
theorem el_17 : ElemOk Try.prog 17 1 := ElemOk.mk' (by as_aux_lemma => kernel_rfl)
theorem rw_18 : RowOk Try.prog 18 1 := ⟨_, Try.underlying18, rfl, by as_aux_lemma => kernel_rfl⟩
theorem fl_18_0 : FieldOk Try.prog 18 0 0 := ⟨_, _, Try.underlying18, rfl, rfl, by as_aux_lemma => kernel_rfl⟩
theorem sz_18 : SizeOk Try.prog 18 1 := by unfold SizeOk; as_aux_lemma => kernel_rfl
theorem zr_18 : ZeroOk Try.prog 18 [.pointer none] := by unfold ZeroOk; as_aux_lemma => kernel_rfl
theorem el_18 : ElemOk Try.prog 18 1 := ElemOk.mk' (by as_aux_lemma => kernel_rfl)
theorem rw_19 : RowOk Try.prog 19 1 := ⟨_, Try.underlying19, rfl, by as_aux_lemma => kernel_rfl⟩
theorem fl_19_0 : FieldOk Try.prog 19 0 0 := ⟨_, _, Try.underlying19, rfl, rfl, by as_aux_lemma => kernel_rfl⟩
theorem sz_19 : SizeOk Try.prog 19 1 := by unfold SizeOk; as_aux_lemma => kernel_rfl
theorem zr_19 : ZeroOk Try.prog 19 [.pointer none] := by unfold ZeroOk; as_aux_lemma => kernel_rfl
theorem el_19 : ElemOk Try.prog 19 1 := ElemOk.mk' (by as_aux_lemma => kernel_rfl)
theorem sc_21 : ScalarOk Try.prog 21 := ⟨_, Try.underlying21, rfl⟩
theorem sz_21 : SizeOk Try.prog 21 1 := by unfold SizeOk; as_aux_lemma => kernel_rfl
theorem zr_21 : ZeroOk Try.prog 21 [.int .i32 0] := by unfold ZeroOk; as_aux_lemma => kernel_rfl
theorem el_21 : ElemOk Try.prog 21 1 := ElemOk.mk' (by as_aux_lemma => kernel_rfl)
theorem sc_22 : ScalarOk Try.prog 22 := ⟨_, Try.underlying22, rfl⟩
theorem sz_22 : SizeOk Try.prog 22 1 := by unfold SizeOk; as_aux_lemma => kernel_rfl
theorem zr_22 : ZeroOk Try.prog 22 [.nilFunc] := by unfold ZeroOk; as_aux_lemma => kernel_rfl
theorem el_22 : ElemOk Try.prog 22 1 := ElemOk.mk' (by as_aux_lemma => kernel_rfl)
theorem sc_23 : ScalarOk Try.prog 23 := ⟨_, Try.underlying23, rfl⟩
theorem sz_23 : SizeOk Try.prog 23 1 := by unfold SizeOk; as_aux_lemma => kernel_rfl
theorem zr_23 : ZeroOk Try.prog 23 [.nilFunc] := by unfold ZeroOk; as_aux_lemma => kernel_rfl
theorem el_23 : ElemOk Try.prog 23 1 := ElemOk.mk' (by as_aux_lemma => kernel_rfl)
theorem sc_24 : ScalarOk Try.prog 24 := ⟨_, Try.underlying24, rfl⟩
theorem sz_24 : SizeOk Try.prog 24 1 := by unfold SizeOk; as_aux_lemma => kernel_rfl
theorem zr_24 : ZeroOk Try.prog 24 [.nilFunc] := by unfold ZeroOk; as_aux_lemma => kernel_rfl
theorem el_24 : ElemOk Try.prog 24 1 := ElemOk.mk' (by as_aux_lemma => kernel_rfl)
theorem sc_25 : ScalarOk Try.prog 25 := ⟨_, Try.underlying25, rfl⟩
theorem sz_25 : SizeOk Try.prog 25 1 := by unfold SizeOk; as_aux_lemma => kernel_rfl
theorem zr_25 : ZeroOk Try.prog 25 [.slice none 0 0] := by unfold ZeroOk; as_aux_lemma => kernel_rfl
theorem el_25 : ElemOk Try.prog 25 1 := ElemOk.mk' (by as_aux_lemma => kernel_rfl)
theorem sc_26 : ScalarOk Try.prog 26 := ⟨_, Try.underlying26, rfl⟩
theorem sz_26 : SizeOk Try.prog 26 1 := by unfold SizeOk; as_aux_lemma => kernel_rfl
theorem zr_26 : ZeroOk Try.prog 26 [.nilFunc] := by unfold ZeroOk; as_aux_lemma => kernel_rfl
theorem el_26 : ElemOk Try.prog 26 1 := ElemOk.mk' (by as_aux_lemma => kernel_rfl)
theorem sc_27 : ScalarOk Try.prog 27 := ⟨_, Try.underlying27, rfl⟩
theorem sz_27 : SizeOk Try.prog 27 1 := by unfold SizeOk; as_aux_lemma => kernel_rfl
theorem zr_27 : ZeroOk Try.prog 27 [.nilFunc] := by unfold ZeroOk; as_aux_lemma => kernel_rfl
theorem el_27 : ElemOk Try.prog 27 1 := ElemOk.mk' (by as_aux_lemma => kernel_rfl)
theorem rw_28 : RowOk Try.prog 28 2 := ⟨_, Try.underlying28, rfl, by as_aux_lemma => kernel_rfl⟩
theorem fl_28_0 : FieldOk Try.prog 28 0 0 := ⟨_, _, Try.underlying28, rfl, rfl, by as_aux_lemma => kernel_rfl⟩
theorem fl_28_1 : FieldOk Try.prog 28 1 1 := ⟨_, _, Try.underlying28, rfl, rfl, by as_aux_lemma => kernel_rfl⟩
theorem sz_28 : SizeOk Try.prog 28 2 := by unfold SizeOk; as_aux_lemma => kernel_rfl
theorem zr_28 : ZeroOk Try.prog 28 [.int .i64 0, .int .i64 0] := by unfold ZeroOk; as_aux_lemma => kernel_rfl
theorem el_28 : ElemOk Try.prog 28 2 := ElemOk.mk' (by as_aux_lemma => kernel_rfl)
theorem rw_29 : RowOk Try.prog 29 2 := ⟨_, Try.underlying29, rfl, by as_aux_lemma => kernel_rfl⟩
theorem fl_29_0 : FieldOk Try.prog 29 0 0 := ⟨_, _, Try.underlying29, rfl, rfl, by as_aux_lemma => kernel_rfl⟩
theorem fl_29_1 : FieldOk Try.prog 29 1 1 := ⟨_, _, Try.underlying29, rfl, rfl, by as_aux_lemma => kernel_rfl⟩
theorem sz_29 : SizeOk Try.prog 29 2 := by unfold SizeOk; as_aux_lemma => kernel_rfl
theorem zr_29 : ZeroOk Try.prog 29 [.int .i64 0, .int .i64 0] := by unfold ZeroOk; as_aux_lemma => kernel_rfl
theorem el_29 : ElemOk Try.prog 29 2 := ElemOk.mk' (by as_aux_lemma => kernel_rfl)
theorem sc_30 : ScalarOk Try.prog 30 := ⟨_, Try.underlying30, rfl⟩
theorem sz_30 : SizeOk Try.prog 30 1 := by unfold SizeOk; as_aux_lemma => kernel_rfl
theorem zr_30 : ZeroOk Try.prog 30 [.slice none 0 0] := by unfold ZeroOk; as_aux_lemma => kernel_rfl
theorem el_30 : ElemOk Try.prog 30 1 := ElemOk.mk' (by as_aux_lemma => kernel_rfl)
theorem sc_31 : ScalarOk Try.prog 31 := ⟨_, Try.underlying31, rfl⟩
theorem sz_31 : SizeOk Try.prog 31 1 := by unfold SizeOk; as_aux_lemma => kernel_rfl
theorem zr_31 : ZeroOk Try.prog 31 [.nilFunc] := by unfold ZeroOk; as_aux_lemma => kernel_rfl
theorem el_31 : ElemOk Try.prog 31 1 := ElemOk.mk' (by as_aux_lemma => kernel_rfl)
theorem sc_33 : ScalarOk Try.prog 33 := ⟨_, Try.underlying33, rfl⟩
theorem sz_33 : SizeOk Try.prog 33 1 := by unfold SizeOk; as_aux_lemma => kernel_rfl
theorem zr_33 : ZeroOk Try.prog 33 [.nilFunc] := by unfold ZeroOk; as_aux_lemma => kernel_rfl
theorem el_33 : ElemOk Try.prog 33 1 := ElemOk.mk' (by as_aux_lemma => kernel_rfl)
theorem sc_34 : ScalarOk Try.prog 34 := ⟨_, Try.underlying34, rfl⟩
theorem sz_34 : SizeOk Try.prog 34 1 := by unfold SizeOk; as_aux_lemma => kernel_rfl
theorem zr_34 : ZeroOk Try.prog 34 [.nilFunc] := by unfold ZeroOk; as_aux_lemma => kernel_rfl
theorem el_34 : ElemOk Try.prog 34 1 := ElemOk.mk' (by as_aux_lemma => kernel_rfl)
theorem sc_35 : ScalarOk Try.prog 35 := ⟨_, Try.underlying35, rfl⟩
theorem sz_35 : SizeOk Try.prog 35 1 := by unfold SizeOk; as_aux_lemma => kernel_rfl
theorem zr_35 : ZeroOk Try.prog 35 [.int .u64 0] := by unfold ZeroOk; as_aux_lemma => kernel_rfl
theorem el_35 : ElemOk Try.prog 35 1 := ElemOk.mk' (by as_aux_lemma => kernel_rfl)
theorem rw_36 : RowOk Try.prog 36 8 := ⟨_, Try.underlying36, rfl, by as_aux_lemma => kernel_rfl⟩
theorem sz_36 : SizeOk Try.prog 36 8 := by unfold SizeOk; as_aux_lemma => kernel_rfl
theorem zr_36 : ZeroOk Try.prog 36 [.int .i64 0, .int .i64 0, .int .i64 0, .int .i64 0, .int .i64 0, .int .i64 0, .int .i64 0, .int .i64 0] := by unfold ZeroOk; as_aux_lemma => kernel_rfl
theorem el_36 : ElemOk Try.prog 36 8 := ElemOk.mk' (by as_aux_lemma => kernel_rfl)
theorem sc_38 : ScalarOk Try.prog 38 := ⟨_, Try.underlying38, rfl⟩
theorem sz_38 : SizeOk Try.prog 38 1 := by unfold SizeOk; as_aux_lemma => kernel_rfl
theorem zr_38 : ZeroOk Try.prog 38 [.nilFunc] := by unfold ZeroOk; as_aux_lemma => kernel_rfl
theorem el_38 : ElemOk Try.prog 38 1 := ElemOk.mk' (by as_aux_lemma => kernel_rfl)
theorem sc_39 : ScalarOk Try.prog 39 := ⟨_, Try.underlying39, rfl⟩
theorem sz_39 : SizeOk Try.prog 39 1 := by unfold SizeOk; as_aux_lemma => kernel_rfl
theorem zr_39 : ZeroOk Try.prog 39 [.int .i64 0] := by unfold ZeroOk; as_aux_lemma => kernel_rfl
theorem el_39 : ElemOk Try.prog 39 1 := ElemOk.mk' (by as_aux_lemma => kernel_rfl)
theorem sc_41 : ScalarOk Try.prog 41 := ⟨_, Try.underlying41, rfl⟩
theorem sz_41 : SizeOk Try.prog 41 1 := by unfold SizeOk; as_aux_lemma => kernel_rfl
theorem zr_41 : ZeroOk Try.prog 41 [.nilFunc] := by unfold ZeroOk; as_aux_lemma => kernel_rfl
theorem el_41 : ElemOk Try.prog 41 1 := ElemOk.mk' (by as_aux_lemma => kernel_rfl)
theorem sc_42 : ScalarOk Try.prog 42 := ⟨_, Try.underlying42, rfl⟩
theorem sz_42 : SizeOk Try.prog 42 1 := by unfold SizeOk; as_aux_lemma => kernel_rfl
theorem zr_42 : ZeroOk Try.prog 42 [.nilFunc] := by unfold ZeroOk; as_aux_lemma => kernel_rfl
theorem el_42 : ElemOk Try.prog 42 1 := ElemOk.mk' (by as_aux_lemma => kernel_rfl)
theorem sc_43 : ScalarOk Try.prog 43 := ⟨_, Try.underlying43, rfl⟩
theorem sz_43 : SizeOk Try.prog 43 1 := by unfold SizeOk; as_aux_lemma => kernel_rfl
theorem zr_43 : ZeroOk Try.prog 43 [.nilFunc] := by unfold ZeroOk; as_aux_lemma => kernel_rfl
theorem el_43 : ElemOk Try.prog 43 1 := ElemOk.mk' (by as_aux_lemma => kernel_rfl)
theorem rw_44 : RowOk Try.prog 44 4 := ⟨_, Try.underlying44, rfl, by as_aux_lemma => kernel_rfl⟩
theorem sz_44 : SizeOk Try.prog 44 4 := by unfold SizeOk; as_aux_lemma => kernel_rfl
theorem zr_44 : ZeroOk Try.prog 44 [.string ByteArray.empty, .string ByteArray.empty, .string ByteArray.empty, .string ByteArray.empty] := by unfold ZeroOk; as_aux_lemma => kernel_rfl
theorem el_44 : ElemOk Try.prog 44 4 := ElemOk.mk' (by as_aux_lemma => kernel_rfl)
theorem sc_45 : ScalarOk Try.prog 45 := ⟨_, Try.underlying45, rfl⟩
theorem sz_45 : SizeOk Try.prog 45 1 := by unfold SizeOk; as_aux_lemma => kernel_rfl
theorem zr_45 : ZeroOk Try.prog 45 [.nilFunc] := by unfold ZeroOk; as_aux_lemma => kernel_rfl
theorem el_45 : ElemOk Try.prog 45 1 := ElemOk.mk' (by as_aux_lemma => kernel_rfl)
theorem sc_46 : ScalarOk Try.prog 46 := ⟨_, Try.underlying46, rfl⟩
theorem sz_46 : SizeOk Try.prog 46 1 := by unfold SizeOk; as_aux_lemma => kernel_rfl
theorem zr_46 : ZeroOk Try.prog 46 [.int .i64 0] := by unfold ZeroOk; as_aux_lemma => kernel_rfl
theorem el_46 : ElemOk Try.prog 46 1 := ElemOk.mk' (by as_aux_lemma => kernel_rfl)
theorem sc_47 : ScalarOk Try.prog 47 := ⟨_, Try.underlying47, rfl⟩
theorem sz_47 : SizeOk Try.prog 47 1 := by unfold SizeOk; as_aux_lemma => kernel_rfl
theorem zr_47 : ZeroOk Try.prog 47 [.nilFunc] := by unfold ZeroOk; as_aux_lemma => kernel_rfl
theorem el_47 : ElemOk Try.prog 47 1 := ElemOk.mk' (by as_aux_lemma => kernel_rfl)
theorem sc_48 : ScalarOk Try.prog 48 := ⟨_, Try.underlying48, rfl⟩
theorem sz_48 : SizeOk Try.prog 48 1 := by unfold SizeOk; as_aux_lemma => kernel_rfl
theorem zr_48 : ZeroOk Try.prog 48 [.nilFunc] := by unfold ZeroOk; as_aux_lemma => kernel_rfl
theorem el_48 : ElemOk Try.prog 48 1 := ElemOk.mk' (by as_aux_lemma => kernel_rfl)
theorem rw_49 : RowOk Try.prog 49 3 := ⟨_, Try.underlying49, rfl, by as_aux_lemma => kernel_rfl⟩
theorem sz_49 : SizeOk Try.prog 49 3 := by unfold SizeOk; as_aux_lemma => kernel_rfl
theorem zr_49 : ZeroOk Try.prog 49 [.int .i32 0, .int .i32 0, .int .i32 0] := by unfold ZeroOk; as_aux_lemma => kernel_rfl
theorem el_49 : ElemOk Try.prog 49 3 := ElemOk.mk' (by as_aux_lemma => kernel_rfl)
theorem sc_51 : ScalarOk Try.prog 51 := ⟨_, Try.underlying51, rfl⟩
theorem sz_51 : SizeOk Try.prog 51 1 := by unfold SizeOk; as_aux_lemma => kernel_rfl
theorem zr_51 : ZeroOk Try.prog 51 [.nilFunc] := by unfold ZeroOk; as_aux_lemma => kernel_rfl
theorem el_51 : ElemOk Try.prog 51 1 := ElemOk.mk' (by as_aux_lemma => kernel_rfl)
theorem sc_52 : ScalarOk Try.prog 52 := ⟨_, Try.underlying52, rfl⟩
theorem sz_52 : SizeOk Try.prog 52 1 := by unfold SizeOk; as_aux_lemma => kernel_rfl
theorem zr_52 : ZeroOk Try.prog 52 [.nilFunc] := by unfold ZeroOk; as_aux_lemma => kernel_rfl
theorem el_52 : ElemOk Try.prog 52 1 := ElemOk.mk' (by as_aux_lemma => kernel_rfl)
theorem sc_53 : ScalarOk Try.prog 53 := ⟨_, Try.underlying53, rfl⟩
theorem sz_53 : SizeOk Try.prog 53 1 := by unfold SizeOk; as_aux_lemma => kernel_rfl
theorem zr_53 : ZeroOk Try.prog 53 [.nilFunc] := by unfold ZeroOk; as_aux_lemma => kernel_rfl
theorem el_53 : ElemOk Try.prog 53 1 := ElemOk.mk' (by as_aux_lemma => kernel_rfl)
theorem sc_54 : ScalarOk Try.prog 54 := ⟨_, Try.underlying54, rfl⟩
theorem sz_54 : SizeOk Try.prog 54 1 := by unfold SizeOk; as_aux_lemma => kernel_rfl
theorem zr_54 : ZeroOk Try.prog 54 [.nilFunc] := by unfold ZeroOk; as_aux_lemma => kernel_rfl
theorem el_54 : ElemOk Try.prog 54 1 := ElemOk.mk' (by as_aux_lemma => kernel_rfl)
theorem sc_55 : ScalarOk Try.prog 55 := ⟨_, Try.underlying55, rfl⟩
theorem sz_55 : SizeOk Try.prog 55 1 := by unfold SizeOk; as_aux_lemma => kernel_rfl
theorem zr_55 : ZeroOk Try.prog 55 [.nilFunc] := by unfold ZeroOk; as_aux_lemma => kernel_rfl
theorem el_55 : ElemOk Try.prog 55 1 := ElemOk.mk' (by as_aux_lemma => kernel_rfl)
theorem sc_56 : ScalarOk Try.prog 56 := ⟨_, Try.underlying56, rfl⟩
theorem sz_56 : SizeOk Try.prog 56 1 := by unfold SizeOk; as_aux_lemma => kernel_rfl
theorem zr_56 : ZeroOk Try.prog 56 [.nilFunc] := by unfold ZeroOk; as_aux_lemma => kernel_rfl
theorem el_56 : ElemOk Try.prog 56 1 := ElemOk.mk' (by as_aux_lemma => kernel_rfl)
theorem sc_57 : ScalarOk Try.prog 57 := ⟨_, Try.underlying57, rfl⟩
theorem sz_57 : SizeOk Try.prog 57 1 := by unfold SizeOk; as_aux_lemma => kernel_rfl
theorem zr_57 : ZeroOk Try.prog 57 [.nilFunc] := by unfold ZeroOk; as_aux_lemma => kernel_rfl
theorem el_57 : ElemOk Try.prog 57 1 := ElemOk.mk' (by as_aux_lemma => kernel_rfl)
theorem sc_58 : ScalarOk Try.prog 58 := ⟨_, Try.underlying58, rfl⟩
theorem sz_58 : SizeOk Try.prog 58 1 := by unfold SizeOk; as_aux_lemma => kernel_rfl
theorem zr_58 : ZeroOk Try.prog 58 [.nilFunc] := by unfold ZeroOk; as_aux_lemma => kernel_rfl
theorem el_58 : ElemOk Try.prog 58 1 := ElemOk.mk' (by as_aux_lemma => kernel_rfl)
theorem sc_59 : ScalarOk Try.prog 59 := ⟨_, Try.underlying59, rfl⟩
theorem sz_59 : SizeOk Try.prog 59 1 := by unfold SizeOk; as_aux_lemma => kernel_rfl
theorem zr_59 : ZeroOk Try.prog 59 [.nilFunc] := by unfold ZeroOk; as_aux_lemma => kernel_rfl
theorem el_59 : ElemOk Try.prog 59 1 := ElemOk.mk' (by as_aux_lemma => kernel_rfl)
theorem sc_60 : ScalarOk Try.prog 60 := ⟨_, Try.underlying60, rfl⟩
theorem sz_60 : SizeOk Try.prog 60 1 := by unfold SizeOk; as_aux_lemma => kernel_rfl
theorem zr_60 : ZeroOk Try.prog 60 [.slice none 0 0] := by unfold ZeroOk; as_aux_lemma => kernel_rfl
theorem el_60 : ElemOk Try.prog 60 1 := ElemOk.mk' (by as_aux_lemma => kernel_rfl)
theorem sc_61 : ScalarOk Try.prog 61 := ⟨_, Try.underlying61, rfl⟩
theorem sz_61 : SizeOk Try.prog 61 1 := by unfold SizeOk; as_aux_lemma => kernel_rfl
theorem zr_61 : ZeroOk Try.prog 61 [.nilFunc] := by unfold ZeroOk; as_aux_lemma => kernel_rfl
theorem el_61 : ElemOk Try.prog 61 1 := ElemOk.mk' (by as_aux_lemma => kernel_rfl)
theorem sc_62 : ScalarOk Try.prog 62 := ⟨_, Try.underlying62, rfl⟩
theorem sz_62 : SizeOk Try.prog 62 1 := by unfold SizeOk; as_aux_lemma => kernel_rfl
theorem zr_62 : ZeroOk Try.prog 62 [.map none] := by unfold ZeroOk; as_aux_lemma => kernel_rfl
theorem el_62 : ElemOk Try.prog 62 1 := ElemOk.mk' (by as_aux_lemma => kernel_rfl)
theorem sc_63 : ScalarOk Try.prog 63 := ⟨_, Try.underlying63, rfl⟩
theorem sz_63 : SizeOk Try.prog 63 1 := by unfold SizeOk; as_aux_lemma => kernel_rfl
theorem zr_63 : ZeroOk Try.prog 63 [.map none] := by unfold ZeroOk; as_aux_lemma => kernel_rfl
theorem el_63 : ElemOk Try.prog 63 1 := ElemOk.mk' (by as_aux_lemma => kernel_rfl)
theorem sc_65 : ScalarOk Try.prog 65 := ⟨_, Try.underlying65, rfl⟩
theorem sz_65 : SizeOk Try.prog 65 1 := by unfold SizeOk; as_aux_lemma => kernel_rfl
theorem zr_65 : ZeroOk Try.prog 65 [.nilFunc] := by unfold ZeroOk; as_aux_lemma => kernel_rfl
theorem el_65 : ElemOk Try.prog 65 1 := ElemOk.mk' (by as_aux_lemma => kernel_rfl)
theorem sc_66 : ScalarOk Try.prog 66 := ⟨_, Try.underlying66, rfl⟩
theorem sz_66 : SizeOk Try.prog 66 1 := by unfold SizeOk; as_aux_lemma => kernel_rfl
theorem zr_66 : ZeroOk Try.prog 66 [.nilFunc] := by unfold ZeroOk; as_aux_lemma => kernel_rfl
theorem el_66 : ElemOk Try.prog 66 1 := ElemOk.mk' (by as_aux_lemma => kernel_rfl)
theorem rw_67 : RowOk Try.prog 67 3 := ⟨_, Try.underlying67, rfl, by as_aux_lemma => kernel_rfl⟩
theorem fl_67_0 : FieldOk Try.prog 67 0 0 := ⟨_, _, Try.underlying67, rfl, rfl, by as_aux_lemma => kernel_rfl⟩
theorem fl_67_1 : FieldOk Try.prog 67 1 1 := ⟨_, _, Try.underlying67, rfl, rfl, by as_aux_lemma => kernel_rfl⟩
theorem fl_67_2 : FieldOk Try.prog 67 2 2 := ⟨_, _, Try.underlying67, rfl, rfl, by as_aux_lemma => kernel_rfl⟩
theorem sz_67 : SizeOk Try.prog 67 3 := by unfold SizeOk; as_aux_lemma => kernel_rfl
theorem zr_67 : ZeroOk Try.prog 67 [.int .i32 0, .string ByteArray.empty, .int .i64 0] := by unfold ZeroOk; as_aux_lemma => kernel_rfl
theorem el_67 : ElemOk Try.prog 67 3 := ElemOk.mk' (by as_aux_lemma => kernel_rfl)
theorem rw_68 : RowOk Try.prog 68 3 := ⟨_, Try.underlying68, rfl, by as_aux_lemma => kernel_rfl⟩
theorem fl_68_0 : FieldOk Try.prog 68 0 0 := ⟨_, _, Try.underlying68, rfl, rfl, by as_aux_lemma => kernel_rfl⟩
theorem fl_68_1 : FieldOk Try.prog 68 1 1 := ⟨_, _, Try.underlying68, rfl, rfl, by as_aux_lemma => kernel_rfl⟩
theorem fl_68_2 : FieldOk Try.prog 68 2 2 := ⟨_, _, Try.underlying68, rfl, rfl, by as_aux_lemma => kernel_rfl⟩
theorem sz_68 : SizeOk Try.prog 68 3 := by unfold SizeOk; as_aux_lemma => kernel_rfl
theorem zr_68 : ZeroOk Try.prog 68 [.int .i32 0, .string ByteArray.empty, .int .i64 0] := by unfold ZeroOk; as_aux_lemma => kernel_rfl
theorem el_68 : ElemOk Try.prog 68 3 := ElemOk.mk' (by as_aux_lemma => kernel_rfl)
theorem sc_69 : ScalarOk Try.prog 69 := ⟨_, Try.underlying69, rfl⟩
theorem sz_69 : SizeOk Try.prog 69 1 := by unfold SizeOk; as_aux_lemma => kernel_rfl
theorem zr_69 : ZeroOk Try.prog 69 [.slice none 0 0] := by unfold ZeroOk; as_aux_lemma => kernel_rfl
theorem el_69 : ElemOk Try.prog 69 1 := ElemOk.mk' (by as_aux_lemma => kernel_rfl)
theorem sc_70 : ScalarOk Try.prog 70 := ⟨_, Try.underlying70, rfl⟩
theorem sz_70 : SizeOk Try.prog 70 1 := by unfold SizeOk; as_aux_lemma => kernel_rfl
theorem zr_70 : ZeroOk Try.prog 70 [.slice none 0 0] := by unfold ZeroOk; as_aux_lemma => kernel_rfl
theorem el_70 : ElemOk Try.prog 70 1 := ElemOk.mk' (by as_aux_lemma => kernel_rfl)
theorem sc_71 : ScalarOk Try.prog 71 := ⟨_, Try.underlying71, rfl⟩
theorem sz_71 : SizeOk Try.prog 71 1 := by unfold SizeOk; as_aux_lemma => kernel_rfl
theorem zr_71 : ZeroOk Try.prog 71 [.nilFunc] := by unfold ZeroOk; as_aux_lemma => kernel_rfl
theorem el_71 : ElemOk Try.prog 71 1 := ElemOk.mk' (by as_aux_lemma => kernel_rfl)
theorem rw_72 : RowOk Try.prog 72 5 := ⟨_, Try.underlying72, rfl, by as_aux_lemma => kernel_rfl⟩
theorem fl_72_0 : FieldOk Try.prog 72 0 0 := ⟨_, _, Try.underlying72, rfl, rfl, by as_aux_lemma => kernel_rfl⟩
theorem fl_72_1 : FieldOk Try.prog 72 1 1 := ⟨_, _, Try.underlying72, rfl, rfl, by as_aux_lemma => kernel_rfl⟩
theorem fl_72_2 : FieldOk Try.prog 72 2 2 := ⟨_, _, Try.underlying72, rfl, rfl, by as_aux_lemma => kernel_rfl⟩
theorem fl_72_3 : FieldOk Try.prog 72 3 3 := ⟨_, _, Try.underlying72, rfl, rfl, by as_aux_lemma => kernel_rfl⟩
theorem fl_72_4 : FieldOk Try.prog 72 4 4 := ⟨_, _, Try.underlying72, rfl, rfl, by as_aux_lemma => kernel_rfl⟩
theorem sz_72 : SizeOk Try.prog 72 5 := by unfold SizeOk; as_aux_lemma => kernel_rfl
theorem zr_72 : ZeroOk Try.prog 72 [.int .i64 0, .int .u8 0, .int .i32 0, .slice none 0 0, .slice none 0 0] := by unfold ZeroOk; as_aux_lemma => kernel_rfl
theorem el_72 : ElemOk Try.prog 72 5 := ElemOk.mk' (by as_aux_lemma => kernel_rfl)
theorem rw_73 : RowOk Try.prog 73 5 := ⟨_, Try.underlying73, rfl, by as_aux_lemma => kernel_rfl⟩
theorem fl_73_0 : FieldOk Try.prog 73 0 0 := ⟨_, _, Try.underlying73, rfl, rfl, by as_aux_lemma => kernel_rfl⟩
theorem fl_73_1 : FieldOk Try.prog 73 1 1 := ⟨_, _, Try.underlying73, rfl, rfl, by as_aux_lemma => kernel_rfl⟩
theorem fl_73_2 : FieldOk Try.prog 73 2 2 := ⟨_, _, Try.underlying73, rfl, rfl, by as_aux_lemma => kernel_rfl⟩
theorem fl_73_3 : FieldOk Try.prog 73 3 3 := ⟨_, _, Try.underlying73, rfl, rfl, by as_aux_lemma => kernel_rfl⟩
theorem fl_73_4 : FieldOk Try.prog 73 4 4 := ⟨_, _, Try.underlying73, rfl, rfl, by as_aux_lemma => kernel_rfl⟩
theorem sz_73 : SizeOk Try.prog 73 5 := by unfold SizeOk; as_aux_lemma => kernel_rfl
theorem zr_73 : ZeroOk Try.prog 73 [.int .i64 0, .int .u8 0, .int .i32 0, .slice none 0 0, .slice none 0 0] := by unfold ZeroOk; as_aux_lemma => kernel_rfl
theorem el_73 : ElemOk Try.prog 73 5 := ElemOk.mk' (by as_aux_lemma => kernel_rfl)
theorem sc_74 : ScalarOk Try.prog 74 := ⟨_, Try.underlying74, rfl⟩
theorem sz_74 : SizeOk Try.prog 74 1 := by unfold SizeOk; as_aux_lemma => kernel_rfl
theorem zr_74 : ZeroOk Try.prog 74 [.nilFunc] := by unfold ZeroOk; as_aux_lemma => kernel_rfl
theorem el_74 : ElemOk Try.prog 74 1 := ElemOk.mk' (by as_aux_lemma => kernel_rfl)
theorem sc_75 : ScalarOk Try.prog 75 := ⟨_, Try.underlying75, rfl⟩
theorem sz_75 : SizeOk Try.prog 75 1 := by unfold SizeOk; as_aux_lemma => kernel_rfl
theorem zr_75 : ZeroOk Try.prog 75 [.nilFunc] := by unfold ZeroOk; as_aux_lemma => kernel_rfl
theorem el_75 : ElemOk Try.prog 75 1 := ElemOk.mk' (by as_aux_lemma => kernel_rfl)
theorem sc_76 : ScalarOk Try.prog 76 := ⟨_, Try.underlying76, rfl⟩
theorem sz_76 : SizeOk Try.prog 76 1 := by unfold SizeOk; as_aux_lemma => kernel_rfl
theorem zr_76 : ZeroOk Try.prog 76 [.nilFunc] := by unfold ZeroOk; as_aux_lemma => kernel_rfl
theorem el_76 : ElemOk Try.prog 76 1 := ElemOk.mk' (by as_aux_lemma => kernel_rfl)
theorem rw_77 : RowOk Try.prog 77 2 := ⟨_, Try.underlying77, rfl, by as_aux_lemma => kernel_rfl⟩
theorem sz_77 : SizeOk Try.prog 77 2 := by unfold SizeOk; as_aux_lemma => kernel_rfl
theorem zr_77 : ZeroOk Try.prog 77 [.slice none 0 0, .slice none 0 0] := by unfold ZeroOk; as_aux_lemma => kernel_rfl
theorem el_77 : ElemOk Try.prog 77 2 := ElemOk.mk' (by as_aux_lemma => kernel_rfl)
theorem rw_78 : RowOk Try.prog 78 2 := ⟨_, Try.underlying78, rfl, by as_aux_lemma => kernel_rfl⟩
theorem sz_78 : SizeOk Try.prog 78 2 := by unfold SizeOk; as_aux_lemma => kernel_rfl
theorem zr_78 : ZeroOk Try.prog 78 [.int .i32 0, .int .i32 0] := by unfold ZeroOk; as_aux_lemma => kernel_rfl
theorem el_78 : ElemOk Try.prog 78 2 := ElemOk.mk' (by as_aux_lemma => kernel_rfl)
theorem rw_79 : RowOk Try.prog 79 2 := ⟨_, Try.underlying79, rfl, by as_aux_lemma => kernel_rfl⟩
theorem sz_79 : SizeOk Try.prog 79 2 := by unfold SizeOk; as_aux_lemma => kernel_rfl
theorem zr_79 : ZeroOk Try.prog 79 [.int .i32 0, .int .i32 0] := by unfold ZeroOk; as_aux_lemma => kernel_rfl
theorem el_79 : ElemOk Try.prog 79 2 := ElemOk.mk' (by as_aux_lemma => kernel_rfl)
theorem rw_80 : RowOk Try.prog 80 2 := ⟨_, Try.underlying80, rfl, by as_aux_lemma => kernel_rfl⟩
theorem sz_80 : SizeOk Try.prog 80 2 := by unfold SizeOk; as_aux_lemma => kernel_rfl
theorem zr_80 : ZeroOk Try.prog 80 [.bool false, .bool false] := by unfold ZeroOk; as_aux_lemma => kernel_rfl
theorem el_80 : ElemOk Try.prog 80 2 := ElemOk.mk' (by as_aux_lemma => kernel_rfl)
theorem sc_81 : ScalarOk Try.prog 81 := ⟨_, Try.underlying81, rfl⟩
theorem sz_81 : SizeOk Try.prog 81 1 := by unfold SizeOk; as_aux_lemma => kernel_rfl
theorem zr_81 : ZeroOk Try.prog 81 [.nilFunc] := by unfold ZeroOk; as_aux_lemma => kernel_rfl
theorem el_81 : ElemOk Try.prog 81 1 := ElemOk.mk' (by as_aux_lemma => kernel_rfl)
theorem sc_82 : ScalarOk Try.prog 82 := ⟨_, Try.underlying82, rfl⟩
theorem sz_82 : SizeOk Try.prog 82 1 := by unfold SizeOk; as_aux_lemma => kernel_rfl
theorem zr_82 : ZeroOk Try.prog 82 [.nilFunc] := by unfold ZeroOk; as_aux_lemma => kernel_rfl
theorem el_82 : ElemOk Try.prog 82 1 := ElemOk.mk' (by as_aux_lemma => kernel_rfl)
theorem sc_83 : ScalarOk Try.prog 83 := ⟨_, Try.underlying83, rfl⟩
theorem sz_83 : SizeOk Try.prog 83 1 := by unfold SizeOk; as_aux_lemma => kernel_rfl
theorem zr_83 : ZeroOk Try.prog 83 [.slice none 0 0] := by unfold ZeroOk; as_aux_lemma => kernel_rfl
theorem el_83 : ElemOk Try.prog 83 1 := ElemOk.mk' (by as_aux_lemma => kernel_rfl)
theorem sc_84 : ScalarOk Try.prog 84 := ⟨_, Try.underlying84, rfl⟩
theorem sz_84 : SizeOk Try.prog 84 1 := by unfold SizeOk; as_aux_lemma => kernel_rfl
theorem zr_84 : ZeroOk Try.prog 84 [.nilFunc] := by unfold ZeroOk; as_aux_lemma => kernel_rfl
theorem el_84 : ElemOk Try.prog 84 1 := ElemOk.mk' (by as_aux_lemma => kernel_rfl)
theorem rw_85 : RowOk Try.prog 85 3 := ⟨_, Try.underlying85, rfl, by as_aux_lemma => kernel_rfl⟩
theorem sz_85 : SizeOk Try.prog 85 3 := by unfold SizeOk; as_aux_lemma => kernel_rfl
theorem zr_85 : ZeroOk Try.prog 85 [.string ByteArray.empty, .string ByteArray.empty, .string ByteArray.empty] := by unfold ZeroOk; as_aux_lemma => kernel_rfl
theorem el_85 : ElemOk Try.prog 85 3 := ElemOk.mk' (by as_aux_lemma => kernel_rfl)
theorem sc_86 : ScalarOk Try.prog 86 := ⟨_, Try.underlying86, rfl⟩
theorem sz_86 : SizeOk Try.prog 86 1 := by unfold SizeOk; as_aux_lemma => kernel_rfl
theorem zr_86 : ZeroOk Try.prog 86 [.nilFunc] := by unfold ZeroOk; as_aux_lemma => kernel_rfl
theorem el_86 : ElemOk Try.prog 86 1 := ElemOk.mk' (by as_aux_lemma => kernel_rfl)
theorem rw_87 : RowOk Try.prog 87 16 := ⟨_, Try.underlying87, rfl, by as_aux_lemma => kernel_rfl⟩
theorem sz_87 : SizeOk Try.prog 87 16 := by unfold SizeOk; as_aux_lemma => kernel_rfl
theorem zr_87 : ZeroOk Try.prog 87 [.int .i32 0, .int .i32 0, .int .i32 0, .int .i32 0, .int .i32 0, .int .i32 0, .int .i32 0, .int .i32 0, .int .i32 0, .int .i32 0, .int .i32 0, .int .i32 0, .int .i32 0, .int .i32 0, .int .i32 0, .int .i32 0] := by unfold ZeroOk; as_aux_lemma => kernel_rfl
theorem el_87 : ElemOk Try.prog 87 16 := ElemOk.mk' (by as_aux_lemma => kernel_rfl)
theorem rw_88 : RowOk Try.prog 88 4 := ⟨_, Try.underlying88, rfl, by as_aux_lemma => kernel_rfl⟩
theorem fl_88_0 : FieldOk Try.prog 88 0 0 := ⟨_, _, Try.underlying88, rfl, rfl, by as_aux_lemma => kernel_rfl⟩
theorem fl_88_1 : FieldOk Try.prog 88 1 1 := ⟨_, _, Try.underlying88, rfl, rfl, by as_aux_lemma => kernel_rfl⟩
theorem fl_88_2 : FieldOk Try.prog 88 2 2 := ⟨_, _, Try.underlying88, rfl, rfl, by as_aux_lemma => kernel_rfl⟩
theorem fl_88_3 : FieldOk Try.prog 88 3 3 := ⟨_, _, Try.underlying88, rfl, rfl, by as_aux_lemma => kernel_rfl⟩
theorem sz_88 : SizeOk Try.prog 88 4 := by unfold SizeOk; as_aux_lemma => kernel_rfl
theorem zr_88 : ZeroOk Try.prog 88 [.int .i64 0, .int .i64 0, .int .i32 0, .bool false] := by unfold ZeroOk; as_aux_lemma => kernel_rfl
theorem el_88 : ElemOk Try.prog 88 4 := ElemOk.mk' (by as_aux_lemma => kernel_rfl)
theorem rw_89 : RowOk Try.prog 89 4 := ⟨_, Try.underlying89, rfl, by as_aux_lemma => kernel_rfl⟩
theorem fl_89_0 : FieldOk Try.prog 89 0 0 := ⟨_, _, Try.underlying89, rfl, rfl, by as_aux_lemma => kernel_rfl⟩
theorem fl_89_1 : FieldOk Try.prog 89 1 1 := ⟨_, _, Try.underlying89, rfl, rfl, by as_aux_lemma => kernel_rfl⟩
theorem fl_89_2 : FieldOk Try.prog 89 2 2 := ⟨_, _, Try.underlying89, rfl, rfl, by as_aux_lemma => kernel_rfl⟩
theorem fl_89_3 : FieldOk Try.prog 89 3 3 := ⟨_, _, Try.underlying89, rfl, rfl, by as_aux_lemma => kernel_rfl⟩
theorem sz_89 : SizeOk Try.prog 89 4 := by unfold SizeOk; as_aux_lemma => kernel_rfl
theorem zr_89 : ZeroOk Try.prog 89 [.int .i64 0, .int .i64 0, .int .i32 0, .bool false] := by unfold ZeroOk; as_aux_lemma => kernel_rfl
theorem el_89 : ElemOk Try.prog 89 4 := ElemOk.mk' (by as_aux_lemma => kernel_rfl)
theorem sc_91 : ScalarOk Try.prog 91 := ⟨_, Try.underlying91, rfl⟩
theorem sz_91 : SizeOk Try.prog 91 1 := by unfold SizeOk; as_aux_lemma => kernel_rfl
theorem zr_91 : ZeroOk Try.prog 91 [.nilFunc] := by unfold ZeroOk; as_aux_lemma => kernel_rfl
theorem el_91 : ElemOk Try.prog 91 1 := ElemOk.mk' (by as_aux_lemma => kernel_rfl)
theorem sc_92 : ScalarOk Try.prog 92 := ⟨_, Try.underlying92, rfl⟩
theorem sz_92 : SizeOk Try.prog 92 1 := by unfold SizeOk; as_aux_lemma => kernel_rfl
theorem zr_92 : ZeroOk Try.prog 92 [.nilFunc] := by unfold ZeroOk; as_aux_lemma => kernel_rfl
theorem el_92 : ElemOk Try.prog 92 1 := ElemOk.mk' (by as_aux_lemma => kernel_rfl)
theorem sc_94 : ScalarOk Try.prog 94 := ⟨_, Try.underlying94, rfl⟩
theorem sz_94 : SizeOk Try.prog 94 1 := by unfold SizeOk; as_aux_lemma => kernel_rfl
theorem zr_94 : ZeroOk Try.prog 94 [.nilFunc] := by unfold ZeroOk; as_aux_lemma => kernel_rfl
theorem el_94 : ElemOk Try.prog 94 1 := ElemOk.mk' (by as_aux_lemma => kernel_rfl)
theorem sc_95 : ScalarOk Try.prog 95 := ⟨_, Try.underlying95, rfl⟩
theorem sz_95 : SizeOk Try.prog 95 1 := by unfold SizeOk; as_aux_lemma => kernel_rfl
theorem zr_95 : ZeroOk Try.prog 95 [.nilFunc] := by unfold ZeroOk; as_aux_lemma => kernel_rfl
theorem el_95 : ElemOk Try.prog 95 1 := ElemOk.mk' (by as_aux_lemma => kernel_rfl)
theorem sc_96 : ScalarOk Try.prog 96 := ⟨_, Try.underlying96, rfl⟩
theorem sz_96 : SizeOk Try.prog 96 1 := by unfold SizeOk; as_aux_lemma => kernel_rfl
theorem zr_96 : ZeroOk Try.prog 96 [.nilFunc] := by unfold ZeroOk; as_aux_lemma => kernel_rfl
theorem el_96 : ElemOk Try.prog 96 1 := ElemOk.mk' (by as_aux_lemma => kernel_rfl)
theorem sc_97 : ScalarOk Try.prog 97 := ⟨_, Try.underlying97, rfl⟩
theorem sz_97 : SizeOk Try.prog 97 1 := by unfold SizeOk; as_aux_lemma => kernel_rfl
theorem zr_97 : ZeroOk Try.prog 97 [.nilFunc] := by unfold ZeroOk; as_aux_lemma => kernel_rfl
theorem el_97 : ElemOk Try.prog 97 1 := ElemOk.mk' (by as_aux_lemma => kernel_rfl)
theorem sc_98 : ScalarOk Try.prog 98 := ⟨_, Try.underlying98, rfl⟩
theorem sz_98 : SizeOk Try.prog 98 1 := by unfold SizeOk; as_aux_lemma => kernel_rfl
theorem zr_98 : ZeroOk Try.prog 98 [.slice none 0 0] := by unfold ZeroOk; as_aux_lemma => kernel_rfl
theorem el_98 : ElemOk Try.prog 98 1 := ElemOk.mk' (by as_aux_lemma => kernel_rfl)
theorem sc_99 : ScalarOk Try.prog 99 := ⟨_, Try.underlying99, rfl⟩
theorem sz_99 : SizeOk Try.prog 99 1 := by unfold SizeOk; as_aux_lemma => kernel_rfl
theorem zr_99 : ZeroOk Try.prog 99 [.nilFunc] := by unfold ZeroOk; as_aux_lemma => kernel_rfl
theorem el_99 : ElemOk Try.prog 99 1 := ElemOk.mk' (by as_aux_lemma => kernel_rfl)
theorem sc_100 : ScalarOk Try.prog 100 := ⟨_, Try.underlying100, rfl⟩
theorem sz_100 : SizeOk Try.prog 100 1 := by unfold SizeOk; as_aux_lemma => kernel_rfl
theorem zr_100 : ZeroOk Try.prog 100 [.nilFunc] := by unfold ZeroOk; as_aux_lemma => kernel_rfl
theorem el_100 : ElemOk Try.prog 100 1 := ElemOk.mk' (by as_aux_lemma => kernel_rfl)
theorem sc_101 : ScalarOk Try.prog 101 := ⟨_, Try.underlying101, rfl⟩
theorem sz_101 : SizeOk Try.prog 101 1 := by unfold SizeOk; as_aux_lemma => kernel_rfl
theorem zr_101 : ZeroOk Try.prog 101 [.nilFunc] := by unfold ZeroOk; as_aux_lemma => kernel_rfl
theorem el_101 : ElemOk Try.prog 101 1 := ElemOk.mk' (by as_aux_lemma => kernel_rfl)
theorem sc_102 : ScalarOk Try.prog 102 := ⟨_, Try.underlying102, rfl⟩
theorem sz_102 : SizeOk Try.prog 102 1 := by unfold SizeOk; as_aux_lemma => kernel_rfl
theorem zr_102 : ZeroOk Try.prog 102 [.nilFunc] := by unfold ZeroOk; as_aux_lemma => kernel_rfl
theorem el_102 : ElemOk Try.prog 102 1 := ElemOk.mk' (by as_aux_lemma => kernel_rfl)
theorem sc_103 : ScalarOk Try.prog 103 := ⟨_, Try.underlying103, rfl⟩
theorem sz_103 : SizeOk Try.prog 103 1 := by unfold SizeOk; as_aux_lemma => kernel_rfl
theorem zr_103 : ZeroOk Try.prog 103 [.nilFunc] := by unfold ZeroOk; as_aux_lemma => kernel_rfl
theorem el_103 : ElemOk Try.prog 103 1 := ElemOk.mk' (by as_aux_lemma => kernel_rfl)
theorem sc_104 : ScalarOk Try.prog 104 := ⟨_, Try.underlying104, rfl⟩
theorem sz_104 : SizeOk Try.prog 104 1 := by unfold SizeOk; as_aux_lemma => kernel_rfl
theorem zr_104 : ZeroOk Try.prog 104 [.nilFunc] := by unfold ZeroOk; as_aux_lemma => kernel_rfl
theorem el_104 : ElemOk Try.prog 104 1 := ElemOk.mk' (by as_aux_lemma => kernel_rfl)
theorem sc_105 : ScalarOk Try.prog 105 := ⟨_, Try.underlying105, rfl⟩
theorem sz_105 : SizeOk Try.prog 105 1 := by unfold SizeOk; as_aux_lemma => kernel_rfl
theorem zr_105 : ZeroOk Try.prog 105 [.nilFunc] := by unfold ZeroOk; as_aux_lemma => kernel_rfl
theorem el_105 : ElemOk Try.prog 105 1 := ElemOk.mk' (by as_aux_lemma => kernel_rfl)
theorem sc_106 : ScalarOk Try.prog 106 := ⟨_, Try.underlying106, rfl⟩
theorem sz_106 : SizeOk Try.prog 106 1 := by unfold SizeOk; as_aux_lemma => kernel_rfl
theorem zr_106 : ZeroOk Try.prog 106 [.nilFunc] := by unfold ZeroOk; as_aux_lemma => kernel_rfl
theorem el_106 : ElemOk Try.prog 106 1 := ElemOk.mk' (by as_aux_lemma => kernel_rfl)
theorem sc_107 : ScalarOk Try.prog 107 := ⟨_, Try.underlying107, rfl⟩
theorem sz_107 : SizeOk Try.prog 107 1 := by unfold SizeOk; as_aux_lemma => kernel_rfl
theorem zr_107 : ZeroOk Try.prog 107 [.pointer none] := by unfold ZeroOk; as_aux_lemma => kernel_rfl
theorem el_107 : ElemOk Try.prog 107 1 := ElemOk.mk' (by as_aux_lemma => kernel_rfl)
theorem sc_109 : ScalarOk Try.prog 109 := ⟨_, Try.underlying109, rfl⟩
theorem sz_109 : SizeOk Try.prog 109 1 := by unfold SizeOk; as_aux_lemma => kernel_rfl
theorem zr_109 : ZeroOk Try.prog 109 [.nilFunc] := by unfold ZeroOk; as_aux_lemma => kernel_rfl
theorem el_109 : ElemOk Try.prog 109 1 := ElemOk.mk' (by as_aux_lemma => kernel_rfl)
theorem sc_110 : ScalarOk Try.prog 110 := ⟨_, Try.underlying110, rfl⟩
theorem sz_110 : SizeOk Try.prog 110 1 := by unfold SizeOk; as_aux_lemma => kernel_rfl
theorem zr_110 : ZeroOk Try.prog 110 [.nilFunc] := by unfold ZeroOk; as_aux_lemma => kernel_rfl
theorem el_110 : ElemOk Try.prog 110 1 := ElemOk.mk' (by as_aux_lemma => kernel_rfl)
theorem rw_111 : RowOk Try.prog 111 4 := ⟨_, Try.underlying111, rfl, by as_aux_lemma => kernel_rfl⟩
theorem fl_111_0 : FieldOk Try.prog 111 0 0 := ⟨_, _, Try.underlying111, rfl, rfl, by as_aux_lemma => kernel_rfl⟩
theorem fl_111_1 : FieldOk Try.prog 111 1 1 := ⟨_, _, Try.underlying111, rfl, rfl, by as_aux_lemma => kernel_rfl⟩
theorem fl_111_2 : FieldOk Try.prog 111 2 2 := ⟨_, _, Try.underlying111, rfl, rfl, by as_aux_lemma => kernel_rfl⟩
theorem fl_111_3 : FieldOk Try.prog 111 3 3 := ⟨_, _, Try.underlying111, rfl, rfl, by as_aux_lemma => kernel_rfl⟩
theorem sz_111 : SizeOk Try.prog 111 4 := by unfold SizeOk; as_aux_lemma => kernel_rfl
theorem zr_111 : ZeroOk Try.prog 111 [.pointer none, .pointer none, .pointer none, .string ByteArray.empty] := by unfold ZeroOk; as_aux_lemma => kernel_rfl
theorem el_111 : ElemOk Try.prog 111 4 := ElemOk.mk' (by as_aux_lemma => kernel_rfl)
theorem rw_112 : RowOk Try.prog 112 4 := ⟨_, Try.underlying112, rfl, by as_aux_lemma => kernel_rfl⟩
theorem fl_112_0 : FieldOk Try.prog 112 0 0 := ⟨_, _, Try.underlying112, rfl, rfl, by as_aux_lemma => kernel_rfl⟩
theorem fl_112_1 : FieldOk Try.prog 112 1 1 := ⟨_, _, Try.underlying112, rfl, rfl, by as_aux_lemma => kernel_rfl⟩
theorem fl_112_2 : FieldOk Try.prog 112 2 2 := ⟨_, _, Try.underlying112, rfl, rfl, by as_aux_lemma => kernel_rfl⟩
theorem fl_112_3 : FieldOk Try.prog 112 3 3 := ⟨_, _, Try.underlying112, rfl, rfl, by as_aux_lemma => kernel_rfl⟩
theorem sz_112 : SizeOk Try.prog 112 4 := by unfold SizeOk; as_aux_lemma => kernel_rfl
theorem zr_112 : ZeroOk Try.prog 112 [.pointer none, .pointer none, .pointer none, .string ByteArray.empty] := by unfold ZeroOk; as_aux_lemma => kernel_rfl
theorem el_112 : ElemOk Try.prog 112 4 := ElemOk.mk' (by as_aux_lemma => kernel_rfl)
theorem sz_113 : SizeOk Try.prog 113 0 := by unfold SizeOk; as_aux_lemma => kernel_rfl
theorem sz_114 : SizeOk Try.prog 114 0 := by unfold SizeOk; as_aux_lemma => kernel_rfl
theorem sz_115 : SizeOk Try.prog 115 0 := by unfold SizeOk; as_aux_lemma => kernel_rfl
theorem sc_116 : ScalarOk Try.prog 116 := ⟨_, Try.underlying116, rfl⟩
theorem sz_116 : SizeOk Try.prog 116 1 := by unfold SizeOk; as_aux_lemma => kernel_rfl
theorem zr_116 : ZeroOk Try.prog 116 [.nilFunc] := by unfold ZeroOk; as_aux_lemma => kernel_rfl
theorem el_116 : ElemOk Try.prog 116 1 := ElemOk.mk' (by as_aux_lemma => kernel_rfl)
theorem sc_117 : ScalarOk Try.prog 117 := ⟨_, Try.underlying117, rfl⟩
theorem sz_117 : SizeOk Try.prog 117 1 := by unfold SizeOk; as_aux_lemma => kernel_rfl
theorem zr_117 : ZeroOk Try.prog 117 [.int .u32 0] := by unfold ZeroOk; as_aux_lemma => kernel_rfl
theorem el_117 : ElemOk Try.prog 117 1 := ElemOk.mk' (by as_aux_lemma => kernel_rfl)
theorem sc_118 : ScalarOk Try.prog 118 := ⟨_, Try.underlying118, rfl⟩
theorem sz_118 : SizeOk Try.prog 118 1 := by unfold SizeOk; as_aux_lemma => kernel_rfl
theorem zr_118 : ZeroOk Try.prog 118 [.int .u8 0] := by unfold ZeroOk; as_aux_lemma => kernel_rfl
theorem el_118 : ElemOk Try.prog 118 1 := ElemOk.mk' (by as_aux_lemma => kernel_rfl)
theorem by_118 : ByteOk Try.prog 118 := ByteOk.mk' (by as_aux_lemma => kernel_rfl)
theorem sc_119 : ScalarOk Try.prog 119 := ⟨_, Try.underlying119, rfl⟩
theorem sz_119 : SizeOk Try.prog 119 1 := by unfold SizeOk; as_aux_lemma => kernel_rfl
theorem zr_119 : ZeroOk Try.prog 119 [.int .u8 0] := by unfold ZeroOk; as_aux_lemma => kernel_rfl
theorem el_119 : ElemOk Try.prog 119 1 := ElemOk.mk' (by as_aux_lemma => kernel_rfl)
theorem by_119 : ByteOk Try.prog 119 := ByteOk.mk' (by as_aux_lemma => kernel_rfl)
theorem sc_120 : ScalarOk Try.prog 120 := ⟨_, Try.underlying120, rfl⟩
theorem sz_120 : SizeOk Try.prog 120 1 := by unfold SizeOk; as_aux_lemma => kernel_rfl
theorem zr_120 : ZeroOk Try.prog 120 [.nilFunc] := by unfold ZeroOk; as_aux_lemma => kernel_rfl
theorem el_120 : ElemOk Try.prog 120 1 := ElemOk.mk' (by as_aux_lemma => kernel_rfl)
theorem sc_121 : ScalarOk Try.prog 121 := ⟨_, Try.underlying121, rfl⟩
theorem sz_121 : SizeOk Try.prog 121 1 := by unfold SizeOk; as_aux_lemma => kernel_rfl
theorem zr_121 : ZeroOk Try.prog 121 [.pointer none] := by unfold ZeroOk; as_aux_lemma => kernel_rfl
theorem el_121 : ElemOk Try.prog 121 1 := ElemOk.mk' (by as_aux_lemma => kernel_rfl)
theorem sc_122 : ScalarOk Try.prog 122 := ⟨_, Try.underlying122, rfl⟩
theorem sz_122 : SizeOk Try.prog 122 1 := by unfold SizeOk; as_aux_lemma => kernel_rfl
theorem zr_122 : ZeroOk Try.prog 122 [.int .i32 0] := by unfold ZeroOk; as_aux_lemma => kernel_rfl
theorem el_122 : ElemOk Try.prog 122 1 := ElemOk.mk' (by as_aux_lemma => kernel_rfl)
theorem sc_123 : ScalarOk Try.prog 123 := ⟨_, Try.underlying123, rfl⟩
theorem sz_123 : SizeOk Try.prog 123 1 := by unfold SizeOk; as_aux_lemma => kernel_rfl
theorem zr_123 : ZeroOk Try.prog 123 [.int .i32 0] := by unfold ZeroOk; as_aux_lemma => kernel_rfl
theorem el_123 : ElemOk Try.prog 123 1 := ElemOk.mk' (by as_aux_lemma => kernel_rfl)
theorem rw_124 : RowOk Try.prog 124 11 := ⟨_, Try.underlying124, rfl, by as_aux_lemma => kernel_rfl⟩
theorem fl_124_0 : FieldOk Try.prog 124 0 0 := ⟨_, _, Try.underlying124, rfl, rfl, by as_aux_lemma => kernel_rfl⟩
theorem fl_124_1 : FieldOk Try.prog 124 1 1 := ⟨_, _, Try.underlying124, rfl, rfl, by as_aux_lemma => kernel_rfl⟩
theorem fl_124_2 : FieldOk Try.prog 124 2 2 := ⟨_, _, Try.underlying124, rfl, rfl, by as_aux_lemma => kernel_rfl⟩
theorem fl_124_3 : FieldOk Try.prog 124 3 3 := ⟨_, _, Try.underlying124, rfl, rfl, by as_aux_lemma => kernel_rfl⟩
theorem fl_124_4 : FieldOk Try.prog 124 4 4 := ⟨_, _, Try.underlying124, rfl, rfl, by as_aux_lemma => kernel_rfl⟩
theorem fl_124_5 : FieldOk Try.prog 124 5 5 := ⟨_, _, Try.underlying124, rfl, rfl, by as_aux_lemma => kernel_rfl⟩
theorem fl_124_6 : FieldOk Try.prog 124 6 6 := ⟨_, _, Try.underlying124, rfl, rfl, by as_aux_lemma => kernel_rfl⟩
theorem fl_124_7 : FieldOk Try.prog 124 7 7 := ⟨_, _, Try.underlying124, rfl, rfl, by as_aux_lemma => kernel_rfl⟩
theorem fl_124_8 : FieldOk Try.prog 124 8 8 := ⟨_, _, Try.underlying124, rfl, rfl, by as_aux_lemma => kernel_rfl⟩
theorem fl_124_9 : FieldOk Try.prog 124 9 9 := ⟨_, _, Try.underlying124, rfl, rfl, by as_aux_lemma => kernel_rfl⟩
theorem fl_124_10 : FieldOk Try.prog 124 10 10 := ⟨_, _, Try.underlying124, rfl, rfl, by as_aux_lemma => kernel_rfl⟩
theorem sz_124 : SizeOk Try.prog 124 11 := by unfold SizeOk; as_aux_lemma => kernel_rfl
theorem zr_124 : ZeroOk Try.prog 124 [.int .u64 0, .int .u64 0, .int .u32 0, .int .u8 0, .int .u8 0, .int .u8 0, .int .u8 0, .nilFunc, .pointer none, .int .i32 0, .int .i32 0] := by unfold ZeroOk; as_aux_lemma => kernel_rfl
theorem el_124 : ElemOk Try.prog 124 11 := ElemOk.mk' (by as_aux_lemma => kernel_rfl)
theorem rw_125 : RowOk Try.prog 125 11 := ⟨_, Try.underlying125, rfl, by as_aux_lemma => kernel_rfl⟩
theorem fl_125_0 : FieldOk Try.prog 125 0 0 := ⟨_, _, Try.underlying125, rfl, rfl, by as_aux_lemma => kernel_rfl⟩
theorem fl_125_1 : FieldOk Try.prog 125 1 1 := ⟨_, _, Try.underlying125, rfl, rfl, by as_aux_lemma => kernel_rfl⟩
theorem fl_125_2 : FieldOk Try.prog 125 2 2 := ⟨_, _, Try.underlying125, rfl, rfl, by as_aux_lemma => kernel_rfl⟩
theorem fl_125_3 : FieldOk Try.prog 125 3 3 := ⟨_, _, Try.underlying125, rfl, rfl, by as_aux_lemma => kernel_rfl⟩
theorem fl_125_4 : FieldOk Try.prog 125 4 4 := ⟨_, _, Try.underlying125, rfl, rfl, by as_aux_lemma => kernel_rfl⟩
theorem fl_125_5 : FieldOk Try.prog 125 5 5 := ⟨_, _, Try.underlying125, rfl, rfl, by as_aux_lemma => kernel_rfl⟩
theorem fl_125_6 : FieldOk Try.prog 125 6 6 := ⟨_, _, Try.underlying125, rfl, rfl, by as_aux_lemma => kernel_rfl⟩
theorem fl_125_7 : FieldOk Try.prog 125 7 7 := ⟨_, _, Try.underlying125, rfl, rfl, by as_aux_lemma => kernel_rfl⟩
theorem fl_125_8 : FieldOk Try.prog 125 8 8 := ⟨_, _, Try.underlying125, rfl, rfl, by as_aux_lemma => kernel_rfl⟩
theorem fl_125_9 : FieldOk Try.prog 125 9 9 := ⟨_, _, Try.underlying125, rfl, rfl, by as_aux_lemma => kernel_rfl⟩
theorem fl_125_10 : FieldOk Try.prog 125 10 10 := ⟨_, _, Try.underlying125, rfl, rfl, by as_aux_lemma => kernel_rfl⟩
theorem sz_125 : SizeOk Try.prog 125 11 := by unfold SizeOk; as_aux_lemma => kernel_rfl
theorem zr_125 : ZeroOk Try.prog 125 [.int .u64 0, .int .u64 0, .int .u32 0, .int .u8 0, .int .u8 0, .int .u8 0, .int .u8 0, .nilFunc, .pointer none, .int .i32 0, .int .i32 0] := by unfold ZeroOk; as_aux_lemma => kernel_rfl
theorem el_125 : ElemOk Try.prog 125 11 := ElemOk.mk' (by as_aux_lemma => kernel_rfl)
theorem sc_126 : ScalarOk Try.prog 126 := ⟨_, Try.underlying126, rfl⟩
theorem sz_126 : SizeOk Try.prog 126 1 := by unfold SizeOk; as_aux_lemma => kernel_rfl
theorem zr_126 : ZeroOk Try.prog 126 [.pointer none] := by unfold ZeroOk; as_aux_lemma => kernel_rfl
theorem el_126 : ElemOk Try.prog 126 1 := ElemOk.mk' (by as_aux_lemma => kernel_rfl)
theorem en_2 : ∀ args w, (callFunc 2 args).run Try.prog w = .ok (.enter 2 args) w := enters_of Try.func2 (by as_aux_lemma => kernel_rfl) rfl
theorem en_3 : ∀ args w, (callFunc 3 args).run Try.prog w = .ok (.enter 3 args) w := enters_of Try.func3 (by as_aux_lemma => kernel_rfl) rfl
theorem en_4 : ∀ args w, (callFunc 4 args).run Try.prog w = .ok (.enter 4 args) w := enters_of Try.func4 (by as_aux_lemma => kernel_rfl) rfl
theorem en_5 : ∀ args w, (callFunc 5 args).run Try.prog w = .ok (.enter 5 args) w := enters_of Try.func5 (by as_aux_lemma => kernel_rfl) rfl
theorem en_6 : ∀ args w, (callFunc 6 args).run Try.prog w = .ok (.enter 6 args) w := enters_of Try.func6 (by as_aux_lemma => kernel_rfl) rfl
theorem en_7 : ∀ args w, (callFunc 7 args).run Try.prog w = .ok (.enter 7 args) w := enters_of Try.func7 (by as_aux_lemma => kernel_rfl) rfl
theorem en_8 : ∀ args w, (callFunc 8 args).run Try.prog w = .ok (.enter 8 args) w := enters_of Try.func8 (by as_aux_lemma => kernel_rfl) rfl
theorem en_9 : ∀ args w, (callFunc 9 args).run Try.prog w = .ok (.enter 9 args) w := enters_of Try.func9 (by as_aux_lemma => kernel_rfl) rfl
theorem en_10 : ∀ args w, (callFunc 10 args).run Try.prog w = .ok (.enter 10 args) w := enters_of Try.func10 (by as_aux_lemma => kernel_rfl) rfl
theorem en_11 : ∀ args w, (callFunc 11 args).run Try.prog w = .ok (.enter 11 args) w := enters_of Try.func11 (by as_aux_lemma => kernel_rfl) rfl
theorem en_12 : ∀ args w, (callFunc 12 args).run Try.prog w = .ok (.enter 12 args) w := enters_of Try.func12 (by as_aux_lemma => kernel_rfl) rfl
theorem en_13 : ∀ args w, (callFunc 13 args).run Try.prog w = .ok (.enter 13 args) w := enters_of Try.func13 (by as_aux_lemma => kernel_rfl) rfl
theorem en_14 : ∀ args w, (callFunc 14 args).run Try.prog w = .ok (.enter 14 args) w := enters_of Try.func14 (by as_aux_lemma => kernel_rfl) rfl
theorem en_15 : ∀ args w, (callFunc 15 args).run Try.prog w = .ok (.enter 15 args) w := enters_of Try.func15 (by as_aux_lemma => kernel_rfl) rfl
theorem en_16 : ∀ args w, (callFunc 16 args).run Try.prog w = .ok (.enter 16 args) w := enters_of Try.func16 (by as_aux_lemma => kernel_rfl) rfl
theorem en_17 : ∀ args w, (callFunc 17 args).run Try.prog w = .ok (.enter 17 args) w := enters_of Try.func17 (by as_aux_lemma => kernel_rfl) rfl
theorem en_18 : ∀ args w, (callFunc 18 args).run Try.prog w = .ok (.enter 18 args) w := enters_of Try.func18 (by as_aux_lemma => kernel_rfl) rfl
theorem en_19 : ∀ args w, (callFunc 19 args).run Try.prog w = .ok (.enter 19 args) w := enters_of Try.func19 (by as_aux_lemma => kernel_rfl) rfl
theorem en_20 : ∀ args w, (callFunc 20 args).run Try.prog w = .ok (.enter 20 args) w := enters_of Try.func20 (by as_aux_lemma => kernel_rfl) rfl
theorem en_21 : ∀ args w, (callFunc 21 args).run Try.prog w = .ok (.enter 21 args) w := enters_of Try.func21 (by as_aux_lemma => kernel_rfl) rfl
theorem en_22 : ∀ args w, (callFunc 22 args).run Try.prog w = .ok (.enter 22 args) w := enters_of Try.func22 (by as_aux_lemma => kernel_rfl) rfl
theorem en_23 : ∀ args w, (callFunc 23 args).run Try.prog w = .ok (.enter 23 args) w := enters_of Try.func23 (by as_aux_lemma => kernel_rfl) rfl
theorem en_24 : ∀ args w, (callFunc 24 args).run Try.prog w = .ok (.enter 24 args) w := enters_of Try.func24 (by as_aux_lemma => kernel_rfl) rfl
theorem en_25 : ∀ args w, (callFunc 25 args).run Try.prog w = .ok (.enter 25 args) w := enters_of Try.func25 (by as_aux_lemma => kernel_rfl) rfl
theorem en_26 : ∀ args w, (callFunc 26 args).run Try.prog w = .ok (.enter 26 args) w := enters_of Try.func26 (by as_aux_lemma => kernel_rfl) rfl
theorem en_27 : ∀ args w, (callFunc 27 args).run Try.prog w = .ok (.enter 27 args) w := enters_of Try.func27 (by as_aux_lemma => kernel_rfl) rfl
theorem en_28 : ∀ args w, (callFunc 28 args).run Try.prog w = .ok (.enter 28 args) w := enters_of Try.func28 (by as_aux_lemma => kernel_rfl) rfl
theorem en_29 : ∀ args w, (callFunc 29 args).run Try.prog w = .ok (.enter 29 args) w := enters_of Try.func29 (by as_aux_lemma => kernel_rfl) rfl
theorem en_30 : ∀ args w, (callFunc 30 args).run Try.prog w = .ok (.enter 30 args) w := enters_of Try.func30 (by as_aux_lemma => kernel_rfl) rfl
theorem en_31 : ∀ args w, (callFunc 31 args).run Try.prog w = .ok (.enter 31 args) w := enters_of Try.func31 (by as_aux_lemma => kernel_rfl) rfl
theorem en_32 : ∀ args w, (callFunc 32 args).run Try.prog w = .ok (.enter 32 args) w := enters_of Try.func32 (by as_aux_lemma => kernel_rfl) rfl
theorem en_33 : ∀ args w, (callFunc 33 args).run Try.prog w = .ok (.enter 33 args) w := enters_of Try.func33 (by as_aux_lemma => kernel_rfl) rfl
theorem en_34 : ∀ args w, (callFunc 34 args).run Try.prog w = .ok (.enter 34 args) w := enters_of Try.func34 (by as_aux_lemma => kernel_rfl) rfl
theorem en_35 : ∀ args w, (callFunc 35 args).run Try.prog w = .ok (.enter 35 args) w := enters_of Try.func35 (by as_aux_lemma => kernel_rfl) rfl
theorem en_36 : ∀ args w, (callFunc 36 args).run Try.prog w = .ok (.enter 36 args) w := enters_of Try.func36 (by as_aux_lemma => kernel_rfl) rfl
theorem en_37 : ∀ args w, (callFunc 37 args).run Try.prog w = .ok (.enter 37 args) w := enters_of Try.func37 (by as_aux_lemma => kernel_rfl) rfl
theorem en_38 : ∀ args w, (callFunc 38 args).run Try.prog w = .ok (.enter 38 args) w := enters_of Try.func38 (by as_aux_lemma => kernel_rfl) rfl
theorem en_39 : ∀ args w, (callFunc 39 args).run Try.prog w = .ok (.enter 39 args) w := enters_of Try.func39 (by as_aux_lemma => kernel_rfl) rfl
theorem en_40 : ∀ args w, (callFunc 40 args).run Try.prog w = .ok (.enter 40 args) w := enters_of Try.func40 (by as_aux_lemma => kernel_rfl) rfl
theorem en_41 : ∀ args w, (callFunc 41 args).run Try.prog w = .ok (.enter 41 args) w := enters_of Try.func41 (by as_aux_lemma => kernel_rfl) rfl
theorem en_42 : ∀ args w, (callFunc 42 args).run Try.prog w = .ok (.enter 42 args) w := enters_of Try.func42 (by as_aux_lemma => kernel_rfl) rfl
theorem en_43 : ∀ args w, (callFunc 43 args).run Try.prog w = .ok (.enter 43 args) w := enters_of Try.func43 (by as_aux_lemma => kernel_rfl) rfl
theorem en_44 : ∀ args w, (callFunc 44 args).run Try.prog w = .ok (.enter 44 args) w := enters_of Try.func44 (by as_aux_lemma => kernel_rfl) rfl
theorem en_45 : ∀ args w, (callFunc 45 args).run Try.prog w = .ok (.enter 45 args) w := enters_of Try.func45 (by as_aux_lemma => kernel_rfl) rfl
theorem en_46 : ∀ args w, (callFunc 46 args).run Try.prog w = .ok (.enter 46 args) w := enters_of Try.func46 (by as_aux_lemma => kernel_rfl) rfl
theorem en_47 : ∀ args w, (callFunc 47 args).run Try.prog w = .ok (.enter 47 args) w := enters_of Try.func47 (by as_aux_lemma => kernel_rfl) rfl
theorem en_48 : ∀ args w, (callFunc 48 args).run Try.prog w = .ok (.enter 48 args) w := enters_of Try.func48 (by as_aux_lemma => kernel_rfl) rfl
theorem en_49 : ∀ args w, (callFunc 49 args).run Try.prog w = .ok (.enter 49 args) w := enters_of Try.func49 (by as_aux_lemma => kernel_rfl) rfl
theorem en_50 : ∀ args w, (callFunc 50 args).run Try.prog w = .ok (.enter 50 args) w := enters_of Try.func50 (by as_aux_lemma => kernel_rfl) rfl
theorem en_51 : ∀ args w, (callFunc 51 args).run Try.prog w = .ok (.enter 51 args) w := enters_of Try.func51 (by as_aux_lemma => kernel_rfl) rfl
theorem en_52 : ∀ args w, (callFunc 52 args).run Try.prog w = .ok (.enter 52 args) w := enters_of Try.func52 (by as_aux_lemma => kernel_rfl) rfl
theorem en_53 : ∀ args w, (callFunc 53 args).run Try.prog w = .ok (.enter 53 args) w := enters_of Try.func53 (by as_aux_lemma => kernel_rfl) rfl
theorem en_54 : ∀ args w, (callFunc 54 args).run Try.prog w = .ok (.enter 54 args) w := enters_of Try.func54 (by as_aux_lemma => kernel_rfl) rfl
theorem en_55 : ∀ args w, (callFunc 55 args).run Try.prog w = .ok (.enter 55 args) w := enters_of Try.func55 (by as_aux_lemma => kernel_rfl) rfl
theorem en_56 : ∀ args w, (callFunc 56 args).run Try.prog w = .ok (.enter 56 args) w := enters_of Try.func56 (by as_aux_lemma => kernel_rfl) rfl
theorem en_57 : ∀ args w, (callFunc 57 args).run Try.prog w = .ok (.enter 57 args) w := enters_of Try.func57 (by as_aux_lemma => kernel_rfl) rfl
theorem en_58 : ∀ args w, (callFunc 58 args).run Try.prog w = .ok (.enter 58 args) w := enters_of Try.func58 (by as_aux_lemma => kernel_rfl) rfl
theorem en_59 : ∀ args w, (callFunc 59 args).run Try.prog w = .ok (.enter 59 args) w := enters_of Try.func59 (by as_aux_lemma => kernel_rfl) rfl
theorem en_60 : ∀ args w, (callFunc 60 args).run Try.prog w = .ok (.enter 60 args) w := enters_of Try.func60 (by as_aux_lemma => kernel_rfl) rfl
theorem en_61 : ∀ args w, (callFunc 61 args).run Try.prog w = .ok (.enter 61 args) w := enters_of Try.func61 (by as_aux_lemma => kernel_rfl) rfl
theorem en_62 : ∀ args w, (callFunc 62 args).run Try.prog w = .ok (.enter 62 args) w := enters_of Try.func62 (by as_aux_lemma => kernel_rfl) rfl
theorem en_63 : ∀ args w, (callFunc 63 args).run Try.prog w = .ok (.enter 63 args) w := enters_of Try.func63 (by as_aux_lemma => kernel_rfl) rfl
theorem en_64 : ∀ args w, (callFunc 64 args).run Try.prog w = .ok (.enter 64 args) w := enters_of Try.func64 (by as_aux_lemma => kernel_rfl) rfl
theorem en_65 : ∀ args w, (callFunc 65 args).run Try.prog w = .ok (.enter 65 args) w := enters_of Try.func65 (by as_aux_lemma => kernel_rfl) rfl
theorem en_66 : ∀ args w, (callFunc 66 args).run Try.prog w = .ok (.enter 66 args) w := enters_of Try.func66 (by as_aux_lemma => kernel_rfl) rfl
theorem en_67 : ∀ args w, (callFunc 67 args).run Try.prog w = .ok (.enter 67 args) w := enters_of Try.func67 (by as_aux_lemma => kernel_rfl) rfl
theorem en_68 : ∀ args w, (callFunc 68 args).run Try.prog w = .ok (.enter 68 args) w := enters_of Try.func68 (by as_aux_lemma => kernel_rfl) rfl
theorem en_69 : ∀ args w, (callFunc 69 args).run Try.prog w = .ok (.enter 69 args) w := enters_of Try.func69 (by as_aux_lemma => kernel_rfl) rfl
theorem en_70 : ∀ args w, (callFunc 70 args).run Try.prog w = .ok (.enter 70 args) w := enters_of Try.func70 (by as_aux_lemma => kernel_rfl) rfl
theorem en_71 : ∀ args w, (callFunc 71 args).run Try.prog w = .ok (.enter 71 args) w := enters_of Try.func71 (by as_aux_lemma => kernel_rfl) rfl
theorem en_72 : ∀ args w, (callFunc 72 args).run Try.prog w = .ok (.enter 72 args) w := enters_of Try.func72 (by as_aux_lemma => kernel_rfl) rfl
theorem en_73 : ∀ args w, (callFunc 73 args).run Try.prog w = .ok (.enter 73 args) w := enters_of Try.func73 (by as_aux_lemma => kernel_rfl) rfl
theorem en_74 : ∀ args w, (callFunc 74 args).run Try.prog w = .ok (.enter 74 args) w := enters_of Try.func74 (by as_aux_lemma => kernel_rfl) rfl
theorem en_75 : ∀ args w, (callFunc 75 args).run Try.prog w = .ok (.enter 75 args) w := enters_of Try.func75 (by as_aux_lemma => kernel_rfl) rfl
theorem en_76 : ∀ args w, (callFunc 76 args).run Try.prog w = .ok (.enter 76 args) w := enters_of Try.func76 (by as_aux_lemma => kernel_rfl) rfl
theorem en_77 : ∀ args w, (callFunc 77 args).run Try.prog w = .ok (.enter 77 args) w := enters_of Try.func77 (by as_aux_lemma => kernel_rfl) rfl
theorem en_78 : ∀ args w, (callFunc 78 args).run Try.prog w = .ok (.enter 78 args) w := enters_of Try.func78 (by as_aux_lemma => kernel_rfl) rfl
theorem en_79 : ∀ args w, (callFunc 79 args).run Try.prog w = .ok (.enter 79 args) w := enters_of Try.func79 (by as_aux_lemma => kernel_rfl) rfl
theorem en_80 : ∀ args w, (callFunc 80 args).run Try.prog w = .ok (.enter 80 args) w := enters_of Try.func80 (by as_aux_lemma => kernel_rfl) rfl
theorem en_81 : ∀ args w, (callFunc 81 args).run Try.prog w = .ok (.enter 81 args) w := enters_of Try.func81 (by as_aux_lemma => kernel_rfl) rfl
theorem en_82 : ∀ args w, (callFunc 82 args).run Try.prog w = .ok (.enter 82 args) w := enters_of Try.func82 (by as_aux_lemma => kernel_rfl) rfl
theorem en_83 : ∀ args w, (callFunc 83 args).run Try.prog w = .ok (.enter 83 args) w := enters_of Try.func83 (by as_aux_lemma => kernel_rfl) rfl
theorem en_84 : ∀ args w, (callFunc 84 args).run Try.prog w = .ok (.enter 84 args) w := enters_of Try.func84 (by as_aux_lemma => kernel_rfl) rfl
theorem en_85 : ∀ args w, (callFunc 85 args).run Try.prog w = .ok (.enter 85 args) w := enters_of Try.func85 (by as_aux_lemma => kernel_rfl) rfl
theorem en_86 : ∀ args w, (callFunc 86 args).run Try.prog w = .ok (.enter 86 args) w := enters_of Try.func86 (by as_aux_lemma => kernel_rfl) rfl
theorem en_87 : ∀ args w, (callFunc 87 args).run Try.prog w = .ok (.enter 87 args) w := enters_of Try.func87 (by as_aux_lemma => kernel_rfl) rfl
theorem mixed : Try.prog.follows .mixedOrders = true := by as_aux_lemma => kernel_rfl
end Go.Proofs.Ythjkafeklflgbaa
namespace Go.Proofs.Ythjkafeklflgbaa
open Go.RowKit Go.Lib
set_option linter.unusedSimpArgs false
@[ext] structure Gapi_Span where
  From : Int
  To : Int
def enc_Gapi_Span (x : Gapi_Span) : List Value := [.int .i64 x.From, .int .i64 x.To]
theorem enc_Gapi_Span_len (x : Gapi_Span) : (enc_Gapi_Span x).length = 2 := rfl
theorem enc_Gapi_Span_one (x : Gapi_Span) : ∀ u ∈ enc_Gapi_Span x, u.oneCell' = true := by
  intro u hu
  simp only [enc_Gapi_Span, List.mem_cons, List.not_mem_nil, or_false] at hu
  rcases hu with rfl | rfl <;> rfl
def eq_Gapi_Span (a b : Gapi_Span) : Bool := (a.From == b.From) && (a.To == b.To)
theorem eq_Gapi_Span_iff (a b : Gapi_Span) : eq_Gapi_Span a b = true ↔ a = b := by
  rcases a with ⟨a0, a1⟩
  rcases b with ⟨b0, b1⟩
  simp [eq_Gapi_Span, Bool.and_eq_true, and_assoc]
instance : DecidableEq Gapi_Span := fun a b => decidable_of_iff _ (eq_Gapi_Span_iff a b)
@[ext] structure T_4_api_Span where
  e0_From : Int
  e0_To : Int
  e1_From : Int
  e1_To : Int
  e2_From : Int
  e2_To : Int
  e3_From : Int
  e3_To : Int
def enc_T_4_api_Span (x : T_4_api_Span) : List Value := [.int .i64 x.e0_From, .int .i64 x.e0_To, .int .i64 x.e1_From, .int .i64 x.e1_To, .int .i64 x.e2_From, .int .i64 x.e2_To, .int .i64 x.e3_From, .int .i64 x.e3_To]
theorem enc_T_4_api_Span_len (x : T_4_api_Span) : (enc_T_4_api_Span x).length = 8 := rfl
theorem enc_T_4_api_Span_one (x : T_4_api_Span) : ∀ u ∈ enc_T_4_api_Span x, u.oneCell' = true := by
  intro u hu
  simp only [enc_T_4_api_Span, List.mem_cons, List.not_mem_nil, or_false] at hu
  rcases hu with rfl | rfl | rfl | rfl | rfl | rfl | rfl | rfl <;> rfl
def eq_T_4_api_Span (a b : T_4_api_Span) : Bool := (a.e0_From == b.e0_From) && (a.e0_To == b.e0_To) && (a.e1_From == b.e1_From) && (a.e1_To == b.e1_To) && (a.e2_From == b.e2_From) && (a.e2_To == b.e2_To) && (a.e3_From == b.e3_From) && (a.e3_To == b.e3_To)
theorem eq_T_4_api_Span_iff (a b : T_4_api_Span) : eq_T_4_api_Span a b = true ↔ a = b := by
  rcases a with ⟨a0, a1, a2, a3, a4, a5, a6, a7⟩
  rcases b with ⟨b0, b1, b2, b3, b4, b5, b6, b7⟩
  simp [eq_T_4_api_Span, Bool.and_eq_true, and_assoc]
instance : DecidableEq T_4_api_Span := fun a b => decidable_of_iff _ (eq_T_4_api_Span_iff a b)
@[ext] structure T_4_string where
  e0 : ByteArray
  e1 : ByteArray
  e2 : ByteArray
  e3 : ByteArray
def enc_T_4_string (x : T_4_string) : List Value := [.string x.e0, .string x.e1, .string x.e2, .string x.e3]
theorem enc_T_4_string_len (x : T_4_string) : (enc_T_4_string x).length = 4 := rfl
theorem enc_T_4_string_one (x : T_4_string) : ∀ u ∈ enc_T_4_string x, u.oneCell' = true := by
  intro u hu
  simp only [enc_T_4_string, List.mem_cons, List.not_mem_nil, or_false] at hu
  rcases hu with rfl | rfl | rfl | rfl <;> rfl
def eq_T_4_string (a b : T_4_string) : Bool := decide (a.e0 = b.e0) && decide (a.e1 = b.e1) && decide (a.e2 = b.e2) && decide (a.e3 = b.e3)
theorem eq_T_4_string_iff (a b : T_4_string) : eq_T_4_string a b = true ↔ a = b := by
  rcases a with ⟨a0, a1, a2, a3⟩
  rcases b with ⟨b0, b1, b2, b3⟩
  simp [eq_T_4_string, Bool.and_eq_true, and_assoc]
instance : DecidableEq T_4_string := fun a b => decidable_of_iff _ (eq_T_4_string_iff a b)
@[ext] structure T_3_int32 where
  e0 : Int
  e1 : Int
  e2 : Int
def enc_T_3_int32 (x : T_3_int32) : List Value := [.int .i32 x.e0, .int .i32 x.e1, .int .i32 x.e2]
theorem enc_T_3_int32_len (x : T_3_int32) : (enc_T_3_int32 x).length = 3 := rfl
theorem enc_T_3_int32_one (x : T_3_int32) : ∀ u ∈ enc_T_3_int32 x, u.oneCell' = true := by
  intro u hu
  simp only [enc_T_3_int32, List.mem_cons, List.not_mem_nil, or_false] at hu
  rcases hu with rfl | rfl | rfl <;> rfl
def eq_T_3_int32 (a b : T_3_int32) : Bool := (a.e0 == b.e0) && (a.e1 == b.e1) && (a.e2 == b.e2)
theorem eq_T_3_int32_iff (a b : T_3_int32) : eq_T_3_int32 a b = true ↔ a = b := by
  rcases a with ⟨a0, a1, a2⟩
  rcases b with ⟨b0, b1, b2⟩
  simp [eq_T_3_int32, Bool.and_eq_true, and_assoc]
instance : DecidableEq T_3_int32 := fun a b => decidable_of_iff _ (eq_T_3_int32_iff a b)
@[ext] structure Gref04_Item where
  Rune : Int
  Text : ByteArray
  At : Int
def enc_Gref04_Item (x : Gref04_Item) : List Value := [.int .i32 x.Rune, .string x.Text, .int .i64 x.At]
theorem enc_Gref04_Item_len (x : Gref04_Item) : (enc_Gref04_Item x).length = 3 := rfl
theorem enc_Gref04_Item_one (x : Gref04_Item) : ∀ u ∈ enc_Gref04_Item x, u.oneCell' = true := by
  intro u hu
  simp only [enc_Gref04_Item, List.mem_cons, List.not_mem_nil, or_false] at hu
  rcases hu with rfl | rfl | rfl <;> rfl
def eq_Gref04_Item (a b : Gref04_Item) : Bool := (a.Rune == b.Rune) && decide (a.Text = b.Text) && (a.At == b.At)
theorem eq_Gref04_Item_iff (a b : Gref04_Item) : eq_Gref04_Item a b = true ↔ a = b := by
  rcases a with ⟨a0, a1, a2⟩
  rcases b with ⟨b0, b1, b2⟩
  simp [eq_Gref04_Item, Bool.and_eq_true, and_assoc]
instance : DecidableEq Gref04_Item := fun a b => decidable_of_iff _ (eq_Gref04_Item_iff a b)
@[ext] structure T_2_int32 where
  e0 : Int
  e1 : Int
def enc_T_2_int32 (x : T_2_int32) : List Value := [.int .i32 x.e0, .int .i32 x.e1]
theorem enc_T_2_int32_len (x : T_2_int32) : (enc_T_2_int32 x).length = 2 := rfl
theorem enc_T_2_int32_one (x : T_2_int32) : ∀ u ∈ enc_T_2_int32 x, u.oneCell' = true := by
  intro u hu
  simp only [enc_T_2_int32, List.mem_cons, List.not_mem_nil, or_false] at hu
  rcases hu with rfl | rfl <;> rfl
def eq_T_2_int32 (a b : T_2_int32) : Bool := (a.e0 == b.e0) && (a.e1 == b.e1)
theorem eq_T_2_int32_iff (a b : T_2_int32) : eq_T_2_int32 a b = true ↔ a = b := by
  rcases a with ⟨a0, a1⟩
  rcases b with ⟨b0, b1⟩
  simp [eq_T_2_int32, Bool.and_eq_true, and_assoc]
instance : DecidableEq T_2_int32 := fun a b => decidable_of_iff _ (eq_T_2_int32_iff a b)
@[ext] structure Gfold_pair where
  e0 : Int
  e1 : Int
def enc_Gfold_pair (x : Gfold_pair) : List Value := [.int .i32 x.e0, .int .i32 x.e1]
theorem enc_Gfold_pair_len (x : Gfold_pair) : (enc_Gfold_pair x).length = 2 := rfl
theorem enc_Gfold_pair_one (x : Gfold_pair) : ∀ u ∈ enc_Gfold_pair x, u.oneCell' = true := by
  intro u hu
  simp only [enc_Gfold_pair, List.mem_cons, List.not_mem_nil, or_false] at hu
  rcases hu with rfl | rfl <;> rfl
def eq_Gfold_pair (a b : Gfold_pair) : Bool := (a.e0 == b.e0) && (a.e1 == b.e1)
theorem eq_Gfold_pair_iff (a b : Gfold_pair) : eq_Gfold_pair a b = true ↔ a = b := by
  rcases a with ⟨a0, a1⟩
  rcases b with ⟨b0, b1⟩
  simp [eq_Gfold_pair, Bool.and_eq_true, and_assoc]
instance : DecidableEq Gfold_pair := fun a b => decidable_of_iff _ (eq_Gfold_pair_iff a b)
@[ext] structure T_2_bool where
  e0 : Bool
  e1 : Bool
def enc_T_2_bool (x : T_2_bool) : List Value := [.bool x.e0, .bool x.e1]
theorem enc_T_2_bool_len (x : T_2_bool) : (enc_T_2_bool x).length = 2 := rfl
theorem enc_T_2_bool_one (x : T_2_bool) : ∀ u ∈ enc_T_2_bool x, u.oneCell' = true := by
  intro u hu
  simp only [enc_T_2_bool, List.mem_cons, List.not_mem_nil, or_false] at hu
  rcases hu with rfl | rfl <;> rfl
def eq_T_2_bool (a b : T_2_bool) : Bool := (a.e0 == b.e0) && (a.e1 == b.e1)
theorem eq_T_2_bool_iff (a b : T_2_bool) : eq_T_2_bool a b = true ↔ a = b := by
  rcases a with ⟨a0, a1⟩
  rcases b with ⟨b0, b1⟩
  simp [eq_T_2_bool, Bool.and_eq_true, and_assoc]
instance : DecidableEq T_2_bool := fun a b => decidable_of_iff _ (eq_T_2_bool_iff a b)
@[ext] structure T_3_string where
  e0 : ByteArray
  e1 : ByteArray
  e2 : ByteArray
def enc_T_3_string (x : T_3_string) : List Value := [.string x.e0, .string x.e1, .string x.e2]
theorem enc_T_3_string_len (x : T_3_string) : (enc_T_3_string x).length = 3 := rfl
theorem enc_T_3_string_one (x : T_3_string) : ∀ u ∈ enc_T_3_string x, u.oneCell' = true := by
  intro u hu
  simp only [enc_T_3_string, List.mem_cons, List.not_mem_nil, or_false] at hu
  rcases hu with rfl | rfl | rfl <;> rfl
def eq_T_3_string (a b : T_3_string) : Bool := decide (a.e0 = b.e0) && decide (a.e1 = b.e1) && decide (a.e2 = b.e2)
theorem eq_T_3_string_iff (a b : T_3_string) : eq_T_3_string a b = true ↔ a = b := by
  rcases a with ⟨a0, a1, a2⟩
  rcases b with ⟨b0, b1, b2⟩
  simp [eq_T_3_string, Bool.and_eq_true, and_assoc]
instance : DecidableEq T_3_string := fun a b => decidable_of_iff _ (eq_T_3_string_iff a b)
@[ext] structure T_8_2_int32 where
  e0_0 : Int
  e0_1 : Int
  e1_0 : Int
  e1_1 : Int
  e2_0 : Int
  e2_1 : Int
  e3_0 : Int
  e3_1 : Int
  e4_0 : Int
  e4_1 : Int
  e5_0 : Int
  e5_1 : Int
  e6_0 : Int
  e6_1 : Int
  e7_0 : Int
  e7_1 : Int
def enc_T_8_2_int32 (x : T_8_2_int32) : List Value := [.int .i32 x.e0_0, .int .i32 x.e0_1, .int .i32 x.e1_0, .int .i32 x.e1_1, .int .i32 x.e2_0, .int .i32 x.e2_1, .int .i32 x.e3_0, .int .i32 x.e3_1, .int .i32 x.e4_0, .int .i32 x.e4_1, .int .i32 x.e5_0, .int .i32 x.e5_1, .int .i32 x.e6_0, .int .i32 x.e6_1, .int .i32 x.e7_0, .int .i32 x.e7_1]
theorem enc_T_8_2_int32_len (x : T_8_2_int32) : (enc_T_8_2_int32 x).length = 16 := rfl
theorem enc_T_8_2_int32_one (x : T_8_2_int32) : ∀ u ∈ enc_T_8_2_int32 x, u.oneCell' = true := by
  intro u hu
  simp only [enc_T_8_2_int32, List.mem_cons, List.not_mem_nil, or_false] at hu
  rcases hu with rfl | rfl | rfl | rfl | rfl | rfl | rfl | rfl | rfl | rfl | rfl | rfl | rfl | rfl | rfl | rfl <;> rfl
@[ext] structure Gapi_Piece where
  At : Int
  Width : Int
  Rune : Int
  Broken : Bool
def enc_Gapi_Piece (x : Gapi_Piece) : List Value := [.int .i64 x.At, .int .i64 x.Width, .int .i32 x.Rune, .bool x.Broken]
theorem enc_Gapi_Piece_len (x : Gapi_Piece) : (enc_Gapi_Piece x).length = 4 := rfl
theorem enc_Gapi_Piece_one (x : Gapi_Piece) : ∀ u ∈ enc_Gapi_Piece x, u.oneCell' = true := by
  intro u hu
  simp only [enc_Gapi_Piece, List.mem_cons, List.not_mem_nil, or_false] at hu
  rcases hu with rfl | rfl | rfl | rfl <;> rfl
def eq_Gapi_Piece (a b : Gapi_Piece) : Bool := (a.At == b.At) && (a.Width == b.Width) && (a.Rune == b.Rune) && (a.Broken == b.Broken)
theorem eq_Gapi_Piece_iff (a b : Gapi_Piece) : eq_Gapi_Piece a b = true ↔ a = b := by
  rcases a with ⟨a0, a1, a2, a3⟩
  rcases b with ⟨b0, b1, b2, b3⟩
  simp [eq_Gapi_Piece, Bool.and_eq_true, and_assoc]
instance : DecidableEq Gapi_Piece := fun a b => decidable_of_iff _ (eq_Gapi_Piece_iff a b)
theorem bin_eql_29 {x y : Operand} (a b : Gapi_Span) (w : World) : (do eqGuard .eql 29 x y (.agg #[.int .i64 a.From, .int .i64 a.To]) (.agg #[.int .i64 b.From, .int .i64 b.To]); binOp .eql 29 (.agg #[.int .i64 a.From, .int .i64 a.To]) (.agg #[.int .i64 b.From, .int .i64 b.To]) : Sem Value).run Try.prog w = .ok (.bool (eq_Gapi_Span a b)) w :=
  bin_aggE (by as_aux_lemma => kernel_rfl) (show ((a.From == b.From) && ((a.To == b.To) && true)) = eq_Gapi_Span a b by simp [eq_Gapi_Span, Bool.and_assoc]) (eqF_agg (dd := 9999) (by as_aux_lemma => kernel_rfl) (by as_aux_lemma => kernel_rfl) (eqF_at (ft := 3) (off := 0) (a := .int .i64 a.From) (b := .int .i64 b.From) (by as_aux_lemma => kernel_rfl) (fun _ => by kernel_rfl) (fun _ => by kernel_rfl) (eqF_int Try.underlying3) (eqF_at (ft := 3) (off := 1) (a := .int .i64 a.To) (b := .int .i64 b.To) (by as_aux_lemma => kernel_rfl) (fun _ => by kernel_rfl) (fun _ => by kernel_rfl) (eqF_int Try.underlying3) (eqF_end (n := 2) (by as_aux_lemma => kernel_rfl))))) w
theorem bin_neq_29 {x y : Operand} (a b : Gapi_Span) (w : World) : (do eqGuard .neq 29 x y (.agg #[.int .i64 a.From, .int .i64 a.To]) (.agg #[.int .i64 b.From, .int .i64 b.To]); binOp .neq 29 (.agg #[.int .i64 a.From, .int .i64 a.To]) (.agg #[.int .i64 b.From, .int .i64 b.To]) : Sem Value).run Try.prog w = .ok (.bool (!eq_Gapi_Span a b)) w :=
  bin_aggN (by as_aux_lemma => kernel_rfl) (show ((a.From == b.From) && ((a.To == b.To) && true)) = eq_Gapi_Span a b by simp [eq_Gapi_Span, Bool.and_assoc]) (eqF_agg (dd := 9999) (by as_aux_lemma => kernel_rfl) (by as_aux_lemma => kernel_rfl) (eqF_at (ft := 3) (off := 0) (a := .int .i64 a.From) (b := .int .i64 b.From) (by as_aux_lemma => kernel_rfl) (fun _ => by kernel_rfl) (fun _ => by kernel_rfl) (eqF_int Try.underlying3) (eqF_at (ft := 3) (off := 1) (a := .int .i64 a.To) (b := .int .i64 b.To) (by as_aux_lemma => kernel_rfl) (fun _ => by kernel_rfl) (fun _ => by kernel_rfl) (eqF_int Try.underlying3) (eqF_end (n := 2) (by as_aux_lemma => kernel_rfl))))) w
theorem bin_eql_68 {x y : Operand} (a b : Gref04_Item) (w : World) : (do eqGuard .eql 68 x y (.agg #[.int .i32 a.Rune, .string a.Text, .int .i64 a.At]) (.agg #[.int .i32 b.Rune, .string b.Text, .int .i64 b.At]); binOp .eql 68 (.agg #[.int .i32 a.Rune, .string a.Text, .int .i64 a.At]) (.agg #[.int .i32 b.Rune, .string b.Text, .int .i64 b.At]) : Sem Value).run Try.prog w = .ok (.bool (eq_Gref04_Item a b)) w :=
  bin_aggE (by as_aux_lemma => kernel_rfl) (show ((a.Rune == b.Rune) && (decide (a.Text = b.Text) && ((a.At == b.At) && true))) = eq_Gref04_Item a b by simp [eq_Gref04_Item, Bool.and_assoc]) (eqF_agg (dd := 9999) (by as_aux_lemma => kernel_rfl) (by as_aux_lemma => kernel_rfl) (eqF_at (ft := 21) (off := 0) (a := .int .i32 a.Rune) (b := .int .i32 b.Rune) (by as_aux_lemma => kernel_rfl) (fun _ => by kernel_rfl) (fun _ => by kernel_rfl) (eqF_int Try.underlying21) (eqF_at (ft := 9) (off := 1) (a := .string a.Text) (b := .string b.Text) (by as_aux_lemma => kernel_rfl) (fun _ => by kernel_rfl) (fun _ => by kernel_rfl) (eqF_str Try.underlying9) (eqF_at (ft := 3) (off := 2) (a := .int .i64 a.At) (b := .int .i64 b.At) (by as_aux_lemma => kernel_rfl) (fun _ => by kernel_rfl) (fun _ => by kernel_rfl) (eqF_int Try.underlying3) (eqF_end (n := 3) (by as_aux_lemma => kernel_rfl)))))) w
theorem bin_neq_68 {x y : Operand} (a b : Gref04_Item) (w : World) : (do eqGuard .neq 68 x y (.agg #[.int .i32 a.Rune, .string a.Text, .int .i64 a.At]) (.agg #[.int .i32 b.Rune, .string b.Text, .int .i64 b.At]); binOp .neq 68 (.agg #[.int .i32 a.Rune, .string a.Text, .int .i64 a.At]) (.agg #[.int .i32 b.Rune, .string b.Text, .int .i64 b.At]) : Sem Value).run Try.prog w = .ok (.bool (!eq_Gref04_Item a b)) w :=
  bin_aggN (by as_aux_lemma => kernel_rfl) (show ((a.Rune == b.Rune) && (decide (a.Text = b.Text) && ((a.At == b.At) && true))) = eq_Gref04_Item a b by simp [eq_Gref04_Item, Bool.and_assoc]) (eqF_agg (dd := 9999) (by as_aux_lemma => kernel_rfl) (by as_aux_lemma => kernel_rfl) (eqF_at (ft := 21) (off := 0) (a := .int .i32 a.Rune) (b := .int .i32 b.Rune) (by as_aux_lemma => kernel_rfl) (fun _ => by kernel_rfl) (fun _ => by kernel_rfl) (eqF_int Try.underlying21) (eqF_at (ft := 9) (off := 1) (a := .string a.Text) (b := .string b.Text) (by as_aux_lemma => kernel_rfl) (fun _ => by kernel_rfl) (fun _ => by kernel_rfl) (eqF_str Try.underlying9) (eqF_at (ft := 3) (off := 2) (a := .int .i64 a.At) (b := .int .i64 b.At) (by as_aux_lemma => kernel_rfl) (fun _ => by kernel_rfl) (fun _ => by kernel_rfl) (eqF_int Try.underlying3) (eqF_end (n := 3) (by as_aux_lemma => kernel_rfl)))))) w
theorem bin_eql_89 {x y : Operand} (a b : Gapi_Piece) (w : World) : (do eqGuard .eql 89 x y (.agg #[.int .i64 a.At, .int .i64 a.Width, .int .i32 a.Rune, .bool a.Broken]) (.agg #[.int .i64 b.At, .int .i64 b.Width, .int .i32 b.Rune, .bool b.Broken]); binOp .eql 89 (.agg #[.int .i64 a.At, .int .i64 a.Width, .int .i32 a.Rune, .bool a.Broken]) (.agg #[.int .i64 b.At, .int .i64 b.Width, .int .i32 b.Rune, .bool b.Broken]) : Sem Value).run Try.prog w = .ok (.bool (eq_Gapi_Piece a b)) w :=
  bin_aggE (by as_aux_lemma => kernel_rfl) (show ((a.At == b.At) && ((a.Width == b.Width) && ((a.Rune == b.Rune) && ((a.Broken == b.Broken) && true)))) = eq_Gapi_Piece a b by simp [eq_Gapi_Piece, Bool.and_assoc]) (eqF_agg (dd := 9999) (by as_aux_lemma => kernel_rfl) (by as_aux_lemma => kernel_rfl) (eqF_at (ft := 3) (off := 0) (a := .int .i64 a.At) (b := .int .i64 b.At) (by as_aux_lemma => kernel_rfl) (fun _ => by kernel_rfl) (fun _ => by kernel_rfl) (eqF_int Try.underlying3) (eqF_at (ft := 3) (off := 1) (a := .int .i64 a.Width) (b := .int .i64 b.Width) (by as_aux_lemma => kernel_rfl) (fun _ => by kernel_rfl) (fun _ => by kernel_rfl) (eqF_int Try.underlying3) (eqF_at (ft := 21) (off := 2) (a := .int .i32 a.Rune) (b := .int .i32 b.Rune) (by as_aux_lemma => kernel_rfl) (fun _ => by kernel_rfl) (fun _ => by kernel_rfl) (eqF_int Try.underlying21) (eqF_at (ft := 4) (off := 3) (a := .bool a.Broken) (b := .bool b.Broken) (by as_aux_lemma => kernel_rfl) (fun _ => by kernel_rfl) (fun _ => by kernel_rfl) (eqF_bool Try.underlying4) (eqF_end (n := 4) (by as_aux_lemma => kernel_rfl))))))) w
theorem bin_neq_89 {x y : Operand} (a b : Gapi_Piece) (w : World) : (do eqGuard .neq 89 x y (.agg #[.int .i64 a.At, .int .i64 a.Width, .int .i32 a.Rune, .bool a.Broken]) (.agg #[.int .i64 b.At, .int .i64 b.Width, .int .i32 b.Rune, .bool b.Broken]); binOp .neq 89 (.agg #[.int .i64 a.At, .int .i64 a.Width, .int .i32 a.Rune, .bool a.Broken]) (.agg #[.int .i64 b.At, .int .i64 b.Width, .int .i32 b.Rune, .bool b.Broken]) : Sem Value).run Try.prog w = .ok (.bool (!eq_Gapi_Piece a b)) w :=
  bin_aggN (by as_aux_lemma => kernel_rfl) (show ((a.At == b.At) && ((a.Width == b.Width) && ((a.Rune == b.Rune) && ((a.Broken == b.Broken) && true)))) = eq_Gapi_Piece a b by simp [eq_Gapi_Piece, Bool.and_assoc]) (eqF_agg (dd := 9999) (by as_aux_lemma => kernel_rfl) (by as_aux_lemma => kernel_rfl) (eqF_at (ft := 3) (off := 0) (a := .int .i64 a.At) (b := .int .i64 b.At) (by as_aux_lemma => kernel_rfl) (fun _ => by kernel_rfl) (fun _ => by kernel_rfl) (eqF_int Try.underlying3) (eqF_at (ft := 3) (off := 1) (a := .int .i64 a.Width) (b := .int .i64 b.Width) (by as_aux_lemma => kernel_rfl) (fun _ => by kernel_rfl) (fun _ => by kernel_rfl) (eqF_int Try.underlying3) (eqF_at (ft := 21) (off := 2) (a := .int .i32 a.Rune) (b := .int .i32 b.Rune) (by as_aux_lemma => kernel_rfl) (fun _ => by kernel_rfl) (fun _ => by kernel_rfl) (eqF_int Try.underlying21) (eqF_at (ft := 4) (off := 3) (a := .bool a.Broken) (b := .bool b.Broken) (by as_aux_lemma => kernel_rfl) (fun _ => by kernel_rfl) (fun _ => by kernel_rfl) (eqF_bool Try.underlying4) (eqF_end (n := 4) (by as_aux_lemma => kernel_rfl))))))) w
theorem bin_eql_78 {x y : Operand} (a b : T_2_int32) (w : World) : (do eqGuard .eql 78 x y (.agg #[.int .i32 a.e0, .int .i32 a.e1]) (.agg #[.int .i32 b.e0, .int .i32 b.e1]); binOp .eql 78 (.agg #[.int .i32 a.e0, .int .i32 a.e1]) (.agg #[.int .i32 b.e0, .int .i32 b.e1]) : Sem Value).run Try.prog w = .ok (.bool (eq_T_2_int32 a b)) w :=
  bin_aggE (by as_aux_lemma => kernel_rfl) (show _ = eq_T_2_int32 a b from rfl) (fun w => run_equal_arr2 Try.underlying78 Try.underlying21 sz_21 w) w
theorem bin_neq_78 {x y : Operand} (a b : T_2_int32) (w : World) : (do eqGuard .neq 78 x y (.agg #[.int .i32 a.e0, .int .i32 a.e1]) (.agg #[.int .i32 b.e0, .int .i32 b.e1]); binOp .neq 78 (.agg #[.int .i32 a.e0, .int .i32 a.e1]) (.agg #[.int .i32 b.e0, .int .i32 b.e1]) : Sem Value).run Try.prog w = .ok (.bool (!eq_T_2_int32 a b)) w :=
  bin_aggN (by as_aux_lemma => kernel_rfl) (show _ = eq_T_2_int32 a b from rfl) (fun w => run_equal_arr2 Try.underlying78 Try.underlying21 sz_21 w) w
theorem bin_eql_79 {x y : Operand} (a b : Gfold_pair) (w : World) : (do eqGuard .eql 79 x y (.agg #[.int .i32 a.e0, .int .i32 a.e1]) (.agg #[.int .i32 b.e0, .int .i32 b.e1]); binOp .eql 79 (.agg #[.int .i32 a.e0, .int .i32 a.e1]) (.agg #[.int .i32 b.e0, .int .i32 b.e1]) : Sem Value).run Try.prog w = .ok (.bool (eq_Gfold_pair a b)) w :=
  bin_aggE (by as_aux_lemma => kernel_rfl) (show _ = eq_Gfold_pair a b from rfl) (fun w => run_equal_arr2 Try.underlying79 Try.underlying21 sz_21 w) w
theorem bin_neq_79 {x y : Operand} (a b : Gfold_pair) (w : World) : (do eqGuard .neq 79 x y (.agg #[.int .i32 a.e0, .int .i32 a.e1]) (.agg #[.int .i32 b.e0, .int .i32 b.e1]); binOp .neq 79 (.agg #[.int .i32 a.e0, .int .i32 a.e1]) (.agg #[.int .i32 b.e0, .int .i32 b.e1]) : Sem Value).run Try.prog w = .ok (.bool (!eq_Gfold_pair a b)) w :=
  bin_aggN (by as_aux_lemma => kernel_rfl) (show _ = eq_Gfold_pair a b from rfl) (fun w => run_equal_arr2 Try.underlying79 Try.underlying21 sz_21 w) w
structure Gfold_unit where
  at_ : Int
  broken : Int
  base : Int
  low : List Int
  high : List Int
def encN_Gfold_unit (z : Gfold_unit × Hd × Hd) : List Value := [.int .i64 z.1.at_, .int .u8 z.1.broken, .int .i32 z.1.base, z.2.1.v, z.2.2.v]
def nest_Gfold_unit (z : Gfold_unit × Hd × Hd) : List Asn := [vec (encI (.i32)) 21 1 z.2.1.v z.1.low, vec (encI (.i32)) 21 1 z.2.2.v z.1.high]
theorem encN_Gfold_unit_len (z : Gfold_unit × Hd × Hd) : (encN_Gfold_unit z).length = 5 := rfl
theorem encN_Gfold_unit_one (z : Gfold_unit × Hd × Hd) : ∀ u ∈ encN_Gfold_unit z, u.oneCell' = true := by
  intro u hu
  simp only [encN_Gfold_unit, List.mem_cons, List.not_mem_nil, or_false] at hu
  rcases hu with rfl | rfl | rfl | rfl | rfl <;> rfl
end Go.Proofs.Ythjkafeklflgbaa
namespace Go.Proofs.Ythjkafeklflgbaa
open Go.RowKit Go.Lib
set_option linter.unusedVariables false
set_option linter.unusedSimpArgs false
def ref01_None_v (r1 : Int) : Option Bool := bcond (decide ((r1 : Int) < 0)) ( some true
) ( bcond (decide ((1114111 : Int) < r1)) ( some true
) ( bcond (decide ((55296 : Int) ≤ r1)) ( some (decide ((r1 : Int) ≤ 57343))
) ( some false
)
)
)
set_option maxRecDepth 100000 in
set_option maxHeartbeats 4000000 in
theorem ref01_None_fn {r1 : Int} {r : Bool} (h : ref01_None_v r1 = some r) : FnP Try.prog 85 [.int .i32 r1] (.bool r) := by
 unfold ref01_None_v at h
 refine FnP.intro Try.func85 rfl Try.ntmps85 (by simp) ?_
 intro w0 K
 refine TC.seq (TC.region (TO.assign rfl dc rfl (TO.nil (TX.next (TC.seq (TC.region (TO.move rfl dc rfl (TO.bin rfl dc rfl rfl bin_lss (TO.move rfl dc rfl ?_)))))))))
 refine TO.split (s := 5) rfl (fun hb1 => ?_) (fun hb1 => ?_)
 ·
  have h := condT hb1 h
  refine TO.skip rfl dc (TO.skip rfl dc (TO.pick (b := true) rfl dc rfl rfl (TO.move rfl dc rfl (TO.skip rfl dc (TO.skip rfl dc (TO.skip rfl dc (TO.skip rfl dc (TO.skip rfl dc (TO.skip rfl dc (TO.pick (b := true) rfl dc rfl rfl (TO.assign rfl dc rfl (TO.nil (TX.next ?_)))))))))))))
  refine TC.ret ?_
  cases h
  exact TX.fin (rs := [.tmp 2]) () (.inl rfl) Try.results85 (.cons (.tmp rfl) .nil) rfl Splits.nil
 ·
  have h := condF hb1 h
  refine TO.move rfl dc rfl (TO.bin rfl dc rfl rfl bin_gtr (TO.pick (b := false) rfl dc rfl rfl (TO.move rfl dc rfl ?_)))
  refine TO.split (s := 9) rfl (fun hb2 => ?_) (fun hb2 => ?_)
  ·
   have h := condT hb2 h
   refine TO.skip rfl dc (TO.skip rfl dc (TO.skip rfl dc (TO.skip rfl dc (TO.skip rfl dc (TO.skip rfl dc (TO.pick (b := true) rfl dc rfl rfl (TO.assign rfl dc rfl (TO.nil (TX.next (TC.ret ?_))))))))))
   cases h
   exact TX.fin (rs := [.tmp 2]) () (.inl rfl) Try.results85 (.cons (.tmp rfl) .nil) rfl Splits.nil
  ·
   have h := condF hb2 h
   refine TO.move rfl dc rfl (TO.bin rfl dc rfl rfl bin_geq (TO.move rfl dc rfl ?_))
   refine TO.split (s := 12) rfl (fun hb3 => ?_) (fun hb3 => ?_)
   ·
    have h := condT hb3 h
    refine TO.move rfl dc rfl (TO.bin rfl dc rfl rfl bin_leq (TO.pick (b := true) rfl dc rfl rfl (TO.pick (b := false) rfl dc rfl rfl (TO.assign rfl dc rfl (TO.nil (TX.next (TC.ret ?_)))))))
    cases h
    exact TX.fin (rs := [.tmp 2]) () (.inl rfl) Try.results85 (.cons (.tmp rfl) .nil) rfl Splits.nil
   ·
    have h := condF hb3 h
    refine TO.skip rfl dc (TO.skip rfl dc (TO.pick (b := false) rfl dc rfl rfl (TO.pick (b := false) rfl dc rfl rfl (TO.assign rfl dc rfl (TO.nil (TX.next (TC.ret ?_)))))))
    cases h
    exact TX.fin (rs := [.tmp 2]) () (.inl rfl) Try.results85 (.cons (.tmp rfl) .nil) rfl Splits.nil
def ref01_Width_v (r1 : Int) : Option Int := andThen (ref01_None_v r1) fun (r2 : Bool) => bcond (r2) ( some 0
) ( bcond (decide ((r1 : Int) < 128)) ( some 1
) ( bcond (decide ((r1 : Int) < 2048)) ( some 2
) ( bcond (decide ((r1 : Int) < 65536)) ( some 3
) ( some 4
)
)
)
)
set_option maxRecDepth 100000 in
set_option maxHeartbeats 4000000 in
theorem ref01_Width_fn {r1 : Int} {r : Int} (h : ref01_Width_v r1 = some r) : FnP Try.prog 86 [.int .i32 r1] (.int .i64 r) := by
 unfold ref01_Width_v at h
 refine FnP.intro Try.func86 rfl Try.ntmps86 (by simp) ?_
 intro w0 K
 refine TC.seq (TC.region (TO.assign rfl dc rfl (TO.nil (TX.next (TC.seq (TC.block (TC.seq (TC.region (TO.move rfl dc rfl ?_)))))))))
 obtain ⟨r2, hq1, h⟩ := andE h
 refine TO.callP (v := .bool r2) (vs := [.int .i32 r1]) rfl dc rfl rfl rfl en_85 (ref01_None_fn hq1) (TO.assign rfl dc rfl (TO.nil (TX.next ?_)))
 refine TC.condB rfl (fun hb1 => ?_) (fun hb1 => ?_)
 ·
  have h := condT hb1 h
  refine TC.seq (TC.region (TO.assign rfl dc rfl (TO.nil (TX.next (TC.ret (TX.blockRet (TX.thenRet ?_)))))))
  cases h
  exact TX.fin (rs := [.tmp 2]) () (.inl rfl) Try.results86 (.cons (.tmp rfl) .nil) rfl Splits.nil
 ·
  have h := condF hb1 h
  refine TC.seq (TC.region (TO.move rfl dc rfl (TO.bin rfl dc rfl rfl bin_lss (TO.assign rfl dc rfl (TO.nil (TX.next ?_))))))
  refine TC.condB rfl (fun hb2 => ?_) (fun hb2 => ?_)
  ·
   have h := condT hb2 h
   refine TC.seq (TC.region (TO.assign rfl dc rfl (TO.nil (TX.next (TC.ret (TX.blockRet (TX.thenRet ?_)))))))
   cases h
   exact TX.fin (rs := [.tmp 2]) () (.inl rfl) Try.results86 (.cons (.tmp rfl) .nil) rfl Splits.nil
  ·
   have h := condF hb2 h
   refine TC.seq (TC.region (TO.move rfl dc rfl (TO.bin rfl dc rfl rfl bin_lss (TO.assign rfl dc rfl (TO.nil (TX.next ?_))))))
   refine TC.condB rfl (fun hb3 => ?_) (fun hb3 => ?_)
   ·
    have h := condT hb3 h
    refine TC.seq (TC.region (TO.assign rfl dc rfl (TO.nil (TX.next (TC.ret (TX.blockRet (TX.thenRet ?_)))))))
    cases h
    exact TX.fin (rs := [.tmp 2]) () (.inl rfl) Try.results86 (.cons (.tmp rfl) .nil) rfl Splits.nil
   ·
    have h := condF hb3 h
    refine TC.seq (TC.region (TO.move rfl dc rfl (TO.bin rfl dc rfl rfl bin_lss (TO.assign rfl dc rfl (TO.nil (TX.next ?_))))))
    refine TC.condB rfl (fun hb4 => ?_) (fun hb4 => ?_)
    ·
     have h := condT hb4 h
     refine TC.seq (TC.region (TO.assign rfl dc rfl (TO.nil (TX.next (TC.ret (TX.blockRet (TX.thenRet ?_)))))))
     cases h
     exact TX.fin (rs := [.tmp 2]) () (.inl rfl) Try.results86 (.cons (.tmp rfl) .nil) rfl Splits.nil
    ·
     have h := condF hb4 h
     refine TC.skip (TX.blockNormal (TX.next (TC.seq (TC.region (TO.assign rfl dc rfl (TO.nil (TX.next (TC.ret ?_))))))))
     cases h
     exact TX.fin (rs := [.tmp 2]) () (.inl rfl) Try.results86 (.cons (.tmp rfl) .nil) rfl Splits.nil
def ref01_Encode_s1 (j2 : Int → (List Int) → Option ByteArray) (ag1 : Int → (List Int) → Int → Option ByteArray) (r8 : Int) (b5 : List Int) (i3 : Int) : Option ByteArray := bcond (decide ((0 : Int) < i3)) ( grd (I32 (128 + (Int.tmod r8 64))) <| andThen (getO b5 i3) fun (q1 : Int) => grd (I32 (Int.tdiv r8 64)) <| grd (I64 (i3 - 1)) <| ag1 (Int.tdiv r8 64) (b5.set (i3 : Int).toNat (IntKind.u8.wrap (128 + (Int.tmod r8 64)))) (i3 - 1)
) ( j2 r8 b5
)
def ref01_Encode_v (r1 : Int) : Option ByteArray := joinK (fun (j1 : Int → Option ByteArray) => andThen (ref01_None_v r1) fun (r3 : Bool) => bcond (r3) ( j1 65533
) ( j1 r1
)
) (fun (r2 : Int) => andThen (ref01_Width_v r2) fun (r4 : Int) => bcond ((r4 : Int) == 1) ( grd (∀ x ∈ ([IntKind.u8.wrap r2] : List Int), U8 x) <| some (bytesOf ([IntKind.u8.wrap r2] : List Int))
) ( joinK (fun (j2 : Int → (List Int) → Option ByteArray) => grd (0 ≤ r4 ∧ r4 ≤ 2147483648) <| grd (I64 (r4 - 1)) <| loopG (fun _ _ _ => none) (ref01_Encode_s1 j2) fuel r2 (List.replicate (r4 : Int).toNat 0) (r4 - 1)
) (fun (r5 : Int) (b2 : List Int) => grd (I64 (8 - r4)) <| grd (0 ≤ (8 - r4)) <| grd (I64 (256 - (shlI .i64 1 (8 - r4)))) <| grd (I64 r5) <| grd (I64 ((256 - (shlI .i64 1 (8 - r4))) + r5)) <| andThen (getO b2 0) fun (q2 : Int) => grd (∀ x ∈ b2.set (0 : Int).toNat (IntKind.u8.wrap ((256 - (shlI .i64 1 (8 - r4))) + r5)), U8 x) <| some (bytesOf (b2.set (0 : Int).toNat (IntKind.u8.wrap ((256 - (shlI .i64 1 (8 - r4))) + r5))))
)
)
)
set_option maxRecDepth 100000 in
set_option maxHeartbeats 4000000 in
theorem ref01_Encode_fn {r1 : Int} {r : ByteArray} (h : ref01_Encode_v r1 = some r) : FnP Try.prog 74 [.int .i32 r1] (.string r) := by
 unfold ref01_Encode_v at h
 refine FnP.intro Try.func74 rfl Try.ntmps74 (by simp) ?_
 intro w0 K
 obtain ⟨j1, hj1, h⟩ := joinE h
 refine TC.cutN (β := Int) 1 rfl (fun b => j1 b = some r) (fun b => []) (fun b => [(0, .int .i32 b)]) (fun b => []) (fun cut => ?_) ?_
 ·
  refine TC.seq (TC.region (TO.assign rfl dc rfl (TO.nil (TX.next (cut (TC.seq (TC.region (TO.move rfl dc rfl ?_))))))))
  obtain ⟨r3, hq1, h⟩ := andE h
  refine TO.callP (v := .bool r3) (vs := [.int .i32 r1]) rfl dc rfl rfl rfl en_85 (ref01_None_fn hq1) (TO.nil (TX.next ?_))
  refine TC.condB rfl (fun hb1 => ?_) (fun hb1 => ?_)
  ·
   have h := condT hb1 h
   refine TC.region (TO.assign rfl dc rfl (TO.nil ?_))
   exact TX.meetD 65533 h rfl (Sbs.cons rfl (Sbs.nil)) Splits.nil
  ·
   have h := condF hb1 h
   refine TC.skip ?_
   exact TX.meetD r1 h rfl (Sbs.cons rfl (Sbs.nil)) Splits.nil
 ·
  rintro r2 h
  rw [hj1] at h
  show TC _ _ _ _ _ ([]) _ _ [(0, .int .i32 r2)] []
  refine TC.seq (TC.region (TO.move rfl dc rfl ?_))
  obtain ⟨r4, hq2, h⟩ := andE h
  refine TO.callP (v := .int .i64 r4) (vs := [.int .i32 r2]) rfl dc rfl rfl rfl en_86 (ref01_Width_fn hq2) (TO.assign rfl dc rfl (TO.nil (TX.next (TC.seq (TC.seq (TC.region (TO.move rfl dc rfl (TO.bin rfl dc rfl rfl bin_eql (TO.nil (TX.next ?_))))))))))
  refine TC.condB rfl (fun hb2 => ?_) (fun hb2 => ?_)
  ·
   have h := condT hb2 h
   refine TC.seq (TC.region (TO.move rfl dc rfl (TO.conv rfl dc rfl (conv_wrap Try.underlying21 Try.underlying5) ?_)))
   refine TO.buildSlice (cs := [.int .u8 (IntKind.u8.wrap r2)]) (te := 5) (ps := [(0, .tmp 13)]) rfl dc rfl (fun _ => by kernel_rfl) (fun b1 => ?_)
   refine TO.toVec ([IntKind.u8.wrap r2] : List Int) (k := 0) rfl encI_len rfl (show 1 ≤ maxLen by decide) ?_
   show TO _ _ _ _ _ _ _ _ _ _ [vec (encI (.u8)) 5 1 (.slice (some ⟨b1, 0, none⟩) 1 1) ([IntKind.u8.wrap r2] : List Int)]
   obtain ⟨hg1, h⟩ := grdE h
   refine TO.rewE (k := 0) rfl (vec_byt hg1) ?_
   show TO _ _ _ _ _ _ _ _ _ _ [byt 5 (.slice (some ⟨b1, 0, none⟩) 1 1) (bytesOf ([IntKind.u8.wrap r2] : List Int))]
   refine TO.bytStr (k := 0) rfl dc rfl rfl Try.underlying69 Try.underlying5 Try.underlying9 (TO.assign rfl dc rfl (TO.nil (TX.next (TC.ret (TX.thenRet ?_)))))
   cases h
   exact TX.fin (rs := [.tmp 2]) () (.inl rfl) Try.results74 (.cons (.tmp rfl) .nil) rfl Splits.nil
  ·
   have h := condF hb2 h
   refine TC.skip (TX.next ?_)
   obtain ⟨j2, hj2, h⟩ := joinE h
   refine TC.cutN (β := Int × (List Int) × Value) 1 rfl (fun b => j2 b.1 b.2.1 = some r) (fun b => []) (fun b => [(0, .int .i32 b.1), (3, .int .i64 r4), (4, b.2.2)]) (fun b => [vec (encI (.u8)) 5 1 b.2.2 b.2.1]) (fun cut => ?_) ?_
   ·
    refine TC.seq (TC.region (TO.move rfl dc rfl ?_))
    obtain ⟨hg2, h⟩ := grdE h
    refine TO.makeVec (z := 0) Try.underlying69 el_5 zr_5 encI_len rfl dc rfl hg2 (fun v2 => ?_)
    refine TO.assign rfl dc rfl (TO.nil (TX.next (cut (TC.seq (TC.region (TO.move rfl dc rfl ?_))))))
    obtain ⟨hg3, h⟩ := grdE h
    refine TO.bin rfl dc rfl rfl (bin_sub (r := r4 - 1) (IntWalk.i64_in _ hg3)) (TO.assign rfl dc rfl (TO.nil (TX.next (TC.block ?_))))
    refine TC.loopD (β := Nat × Int × (List Int) × Int) (fun b => loopG (fun _ _ _ => none) (ref01_Encode_s1 j2) b.1 b.2.1 b.2.2.1 b.2.2.2 = some r) (fun b => []) (fun b => [(0, .int .i32 b.2.1), (3, .int .i64 r4), (4, v2), (5, .int .i64 b.2.2.2)]) (fun b => [vec (encI (.u8)) 5 1 v2 b.2.2.1]) (fun b => b.1) (fuel, r2, List.replicate (r4 : Int).toNat 0, r4 - 1) h rfl (Sbs.cons rfl (Sbs.cons rfl (Sbs.cons rfl (Sbs.cons rfl (Sbs.nil))))) (Splits.of [0] kr rfl) ?_
    rintro ⟨n1, r8, b5, i3⟩ h
    cases n1 with
    | zero => exact noneE h
    | succ n1 =>
     obtain ⟨ag1, hag1⟩ : ∃ ag, ag = loopG (fun _ _ _ => none) (ref01_Encode_s1 j2) n1 := ⟨_, rfl⟩
     have h : ref01_Encode_s1 j2 ag1 r8 b5 i3 = some r := by rw [hag1]; exact h
     unfold ref01_Encode_s1 at h
     show TC _ _ _ _ _ ([]) _ _ [(0, .int .i32 r8), (3, .int .i64 r4), (4, v2), (5, .int .i64 i3)] [vec (encI (.u8)) 5 1 v2 b5]
     refine TC.seq (TC.seq (TC.region (TO.move rfl dc rfl (TO.bin rfl dc rfl rfl bin_gtr (TO.nil (TX.next ?_))))))
     refine TC.condB rfl (fun hb3 => ?_) (fun hb3 => ?_)
     ·
      have h := condT hb3 h
      refine TC.skip (TX.next (TC.seq (TC.block (TC.seq (TC.region (TO.move rfl dc rfl (TO.move rfl dc rfl (TO.move rfl dc rfl (TO.bin rfl dc rfl rfl (bin_rem dc rfl) ?_)))))))))
      obtain ⟨hg4, h⟩ := grdE h
      refine TO.bin rfl dc rfl rfl (bin_add (r := 128 + (Int.tmod r8 64)) (IntWalk.i32_in _ hg4)) (TO.conv rfl dc rfl (conv_wrap Try.underlying21 Try.underlying5) ?_)
      obtain ⟨q1, hq3, h⟩ := andE h
      refine TO.indexVecI (k := 0) hq3 Try.underlying69 sz_5 rfl dc rfl rfl rfl rfl ?_
      refine TO.storeVec (i := (i3 : Int).toNat) (j := 0) (k := 0) (q := q1) (q' := IntKind.u8.wrap (128 + (Int.tmod r8 64))) sz_5 encI_len rfl rfl rfl rfl (getO_get hq3) rfl dc rfl (fun _ _ => rfl) ?_
      refine TO.nil (TX.next (TC.region (TO.move rfl dc rfl ?_)))
      obtain ⟨hg5, h⟩ := grdE h
      refine TO.bin rfl dc rfl rfl (bin_quo dc (IntWalk.i32_in _ hg5)) (TO.assign rfl dc rfl (TO.nil (TX.blockNormal (TX.next (TC.region (TO.move rfl dc rfl ?_))))))
      obtain ⟨hg6, h⟩ := grdE h
      refine TO.bin rfl dc rfl rfl (bin_sub (r := i3 - 1) (IntWalk.i64_in _ hg6)) (TO.assign rfl dc rfl (TO.nil ?_))
      subst hag1
      exact TX.againD (n1, Int.tdiv r8 64, b5.set (i3 : Int).toNat (IntKind.u8.wrap (128 + (Int.tmod r8 64))), i3 - 1) h (Nat.lt_succ_self _) rfl (Sbs.cons rfl (Sbs.cons rfl (Sbs.cons rfl (Sbs.cons rfl (Sbs.nil))))) (Splits.of [0] kr rfl)
     ·
      have h := condF hb3 h
      refine TC.exit (TX.thenExit (TX.thenExit (TX.blockHere ?_)))
      exact TX.meetD (r8, b5, v2) h rfl (Sbs.cons rfl (Sbs.cons rfl (Sbs.cons rfl (Sbs.nil)))) (Splits.of [0] kr rfl)
   ·
    rintro ⟨r5, b2, v1⟩ h
    rw [hj2] at h
    show TC _ _ _ _ _ ([]) _ _ [(0, .int .i32 r5), (3, .int .i64 r4), (4, v1)] [vec (encI (.u8)) 5 1 v1 b2]
    refine TC.seq (TC.region (TO.move rfl dc rfl (TO.move rfl dc rfl ?_)))
    obtain ⟨hg7, h⟩ := grdE h
    refine TO.bin rfl dc rfl rfl (bin_sub (r := 8 - r4) (IntWalk.i64_in _ hg7)) ?_
    obtain ⟨hg8, h⟩ := grdE h
    refine TO.bin rfl dc rfl rfl (bin_shl hg8) ?_
    obtain ⟨hg9, h⟩ := grdE h
    refine TO.bin rfl dc rfl rfl (bin_sub (r := 256 - (shlI .i64 1 (8 - r4))) (IntWalk.i64_in _ hg9)) (TO.move rfl dc rfl ?_)
    obtain ⟨hg10, h⟩ := grdE h
    refine TO.conv rfl dc rfl (conv_int (r := r5) Try.underlying21 Try.underlying3 (IntWalk.i64_in _ hg10)) ?_
    obtain ⟨hg11, h⟩ := grdE h
    refine TO.bin rfl dc rfl rfl (bin_add (r := (256 - (shlI .i64 1 (8 - r4))) + r5) (IntWalk.i64_in _ hg11)) (TO.conv rfl dc rfl (conv_wrap Try.underlying3 Try.underlying5) ?_)
    obtain ⟨q2, hq4, h⟩ := andE h
    refine TO.indexVecI (k := 0) hq4 Try.underlying69 sz_5 rfl dc rfl rfl rfl rfl ?_
    refine TO.storeVec (i := (0 : Int).toNat) (j := 0) (k := 0) (q := q2) (q' := IntKind.u8.wrap ((256 - (shlI .i64 1 (8 - r4))) + r5)) sz_5 encI_len rfl rfl rfl rfl (getO_get hq4) rfl dc rfl (fun _ _ => rfl) ?_
    refine TO.nil (TX.next (TC.seq (TC.region (TO.move rfl dc rfl ?_))))
    obtain ⟨hg12, h⟩ := grdE h
    refine TO.rewE (k := 0) rfl (vec_byt hg12) ?_
    show TO _ _ _ _ _ _ _ _ _ _ [byt 5 v1 (bytesOf (b2.set (0 : Int).toNat (IntKind.u8.wrap ((256 - (shlI .i64 1 (8 - r4))) + r5))))]
    refine TO.bytStr (k := 0) rfl dc rfl rfl Try.underlying69 Try.underlying5 Try.underlying9 (TO.assign rfl dc rfl (TO.nil (TX.next (TC.ret ?_))))
    cases h
    exact TX.fin (rs := [.tmp 2]) () (.inl rfl) Try.results74 (.cons (.tmp rfl) .nil) rfl Splits.nil
def ref01_Form_s2 (s1 : ByteArray) (at1 : Int) (n3 : Int) (j4 : Int → Option (Int × Int)) (ag2 : Int → Int → Option (Int × Int)) (r5 : Int) (i3 : Int) : Option (Int × Int) := bcond (decide ((i3 : Int) < n3)) ( grd (I32 (r5 * 64)) <| grd (I64 (at1 + i3)) <| andThen (getB s1 (at1 + i3)) fun (c2 : Int) => grd (I32 c2) <| grd (I32 ((r5 * 64) + c2)) <| grd (I32 (((r5 * 64) + c2) - 128)) <| grd (I64 (i3 + 1)) <| ag2 (((r5 * 64) + c2) - 128) (i3 + 1)
) ( j4 r5
)
def ref01_Form_s1 (s1 : ByteArray) (at1 : Int) (j1 : Option (Int × Int)) (ag1 : Int → Option (Int × Int)) (n3 : Int) : Option (Int × Int) := bcond (decide ((n3 : Int) ≤ 4)) ( grd (I64 (at1 + n3)) <| bcond (decide (((at1 + n3) : Int) ≤ (s1.size : Int))) ( joinK (fun (j2 : Option (Int × Int)) => joinK (fun (j3 : Int → Option (Int × Int)) => andThen (getB s1 at1) fun (c1 : Int) => grd (I32 c1) <| bcond (decide ((1 : Int) < n3)) ( grd (I64 (8 - n3)) <| grd (0 ≤ (8 - n3)) <| grd (I32 (256 - (shlI .i32 1 (8 - n3)))) <| grd (I32 (c1 - (256 - (shlI .i32 1 (8 - n3))))) <| j3 (c1 - (256 - (shlI .i32 1 (8 - n3))))
) ( j3 c1
)
) (fun (r1 : Int) => joinK (fun (j4 : Int → Option (Int × Int)) => loopG (fun _ _ => none) (ref01_Form_s2 s1 at1 n3 j4) fuel r1 1
) (fun (r2 : Int) => andThen (ref01_None_v r2) fun (r6 : Bool) => bcond (!r6) ( andThen (ref01_Width_v r2) fun (r7 : Int) => bcond ((r7 : Int) == n3) ( andThen (ref01_Encode_v r2) fun (r8 : ByteArray) => grd (I64 (at1 + n3)) <| grd (0 ≤ (at1 : Int) ∧ (at1 : Int) ≤ (at1 + n3) ∧ (at1 + n3 : Int) ≤ (s1.size : Int)) <| bcond (decide (r8 = cutB s1 at1 (at1 + n3))) ( some (r2, n3)
) ( j2
)
) ( j2
)
) ( j2
)
)
)
) ( grd (I64 (n3 + 1)) <| ag1 (n3 + 1)
)
) ( j1
)
) ( j1
)
def ref01_Form_v (s1 : ByteArray) (at1 : Int) : Option (Int × Int) := joinK (fun (j1 : Option (Int × Int)) => loopG (fun _ => none) (ref01_Form_s1 s1 at1 j1) fuel 1
) ( some (0, 0)
)
set_option maxRecDepth 100000 in
set_option maxHeartbeats 4000000 in
theorem ref01_Form_fn {s1 : ByteArray} {at1 : Int} {r : (Int × Int)} (h : ref01_Form_v s1 at1 = some r) : FnP Try.prog 87 [.string s1, .int .i64 at1] (.tuple #[.int .i32 r.1, .int .i64 r.2]) := by
 unfold ref01_Form_v at h
 refine FnP.intro Try.func87 rfl Try.ntmps87 (by simp) ?_
 intro w0 K
 obtain ⟨j1, hj1, h⟩ := joinE h
 refine TC.cutN (β := Unit) 1 rfl (fun b => j1 = some r) (fun b => []) (fun b => []) (fun b => []) (fun cut => ?_) ?_
 ·
  refine TC.seq (TC.region (TO.assign rfl dc rfl (TO.assign rfl dc rfl (TO.nil (TX.next (cut (TC.seq (TC.region (TO.assign rfl dc rfl (TO.nil (TX.next (TC.block ?_))))))))))))
  refine TC.loopD (β := Nat × Int) (fun b => loopG (fun _ => none) (ref01_Form_s1 s1 at1 j1) b.1 b.2 = some r) (fun b => []) (fun b => [(0, .string s1), (1, .int .i64 at1), (6, .int .i64 b.2)]) (fun b => []) (fun b => b.1) (fuel, 1) h rfl (Sbs.cons rfl (Sbs.cons rfl (Sbs.cons rfl (Sbs.nil)))) Splits.nil ?_
  rintro ⟨n4, n3⟩ h
  cases n4 with
  | zero => exact noneE h
  | succ n4 =>
   obtain ⟨ag1, hag1⟩ : ∃ ag, ag = loopG (fun _ => none) (ref01_Form_s1 s1 at1 j1) n4 := ⟨_, rfl⟩
   have h : ref01_Form_s1 s1 at1 j1 ag1 n3 = some r := by rw [hag1]; exact h
   unfold ref01_Form_s1 at h
   show TC _ _ _ _ _ ([]) _ _ [(0, .string s1), (1, .int .i64 at1), (6, .int .i64 n3)] []
   refine TC.seq (TC.seq (TC.region (TO.move rfl dc rfl (TO.bin rfl dc rfl rfl bin_leq (TO.move rfl dc rfl ?_)))))
   refine TO.split (s := 11) rfl (fun hb1 => ?_) (fun hb1 => ?_)
   ·
    have h := condT hb1 h
    refine TO.move rfl dc rfl (TO.move rfl dc rfl ?_)
    obtain ⟨hg1, h⟩ := grdE h
    refine TO.bin rfl dc rfl rfl (bin_add (r := at1 + n3) (IntWalk.i64_in _ hg1)) (TO.move rfl dc rfl (TO.lenStr rfl dc rfl Try.underlying9 (TO.bin rfl dc rfl rfl bin_leq (TO.pick (b := true) rfl dc rfl rfl (TO.nil (TX.next ?_))))))
    refine TC.condB rfl (fun hb2 => ?_) (fun hb2 => ?_)
    ·
     have h := condT hb2 h
     refine TC.skip (TX.next ?_)
     obtain ⟨j2, hj2, h⟩ := joinE h
     refine TC.cutN (β := Unit) 0 rfl (fun b => j2 = some r) (fun b => []) (fun b => [(0, .string s1), (1, .int .i64 at1), (6, .int .i64 n3), (12, .int .i64 at1), (13, .int .i64 n3), (14, .int .i64 (at1 + n3)), (15, .string s1), (16, .int .i64 (s1.size : Int)), (17, .bool (decide (((at1 + n3) : Int) ≤ (s1.size : Int))))]) (fun b => []) (fun cut => ?_) ?_
     ·
      refine cut (TC.block ?_)
      obtain ⟨j3, hj3, h⟩ := joinE h
      refine TC.cutN (β := Int) 1 rfl (fun b => j3 b = some r) (fun b => []) (fun b => [(0, .string s1), (1, .int .i64 at1), (6, .int .i64 n3), (7, .int .i32 b), (12, .int .i64 at1), (13, .int .i64 n3), (14, .int .i64 (at1 + n3)), (15, .string s1), (16, .int .i64 (s1.size : Int)), (17, .bool (decide (((at1 + n3) : Int) ≤ (s1.size : Int))))]) (fun b => []) (fun cut => ?_) ?_
      ·
       refine TC.seq (TC.region (TO.move rfl dc rfl (TO.move rfl dc rfl ?_)))
       obtain ⟨c1, hq1, h⟩ := andE h
       refine TO.index rfl dc rfl rfl (index_stringI Try.underlying9 hq1) ?_
       obtain ⟨hg2, h⟩ := grdE h
       refine TO.conv rfl dc rfl (conv_int (r := c1) Try.underlying5 Try.underlying21 (IntWalk.i32_in _ hg2)) (TO.assign rfl dc rfl (TO.nil (TX.next (cut (TC.seq (TC.region (TO.move rfl dc rfl (TO.bin rfl dc rfl rfl bin_gtr (TO.nil (TX.next ?_))))))))))
       refine TC.condB rfl (fun hb3 => ?_) (fun hb3 => ?_)
       ·
        have h := condT hb3 h
        refine TC.region (TO.move rfl dc rfl (TO.move rfl dc rfl ?_))
        obtain ⟨hg3, h⟩ := grdE h
        refine TO.bin rfl dc rfl rfl (bin_sub (r := 8 - n3) (IntWalk.i64_in _ hg3)) ?_
        obtain ⟨hg4, h⟩ := grdE h
        refine TO.bin rfl dc rfl rfl (bin_shl hg4) ?_
        obtain ⟨hg5, h⟩ := grdE h
        refine TO.bin rfl dc rfl rfl (bin_sub (r := 256 - (shlI .i32 1 (8 - n3))) (IntWalk.i32_in _ hg5)) ?_
        obtain ⟨hg6, h⟩ := grdE h
        refine TO.bin rfl dc rfl rfl (bin_sub (r := c1 - (256 - (shlI .i32 1 (8 - n3)))) (IntWalk.i32_in _ hg6)) (TO.assign rfl dc rfl (TO.nil ?_))
        exact TX.meetD (c1 - (256 - (shlI .i32 1 (8 - n3)))) h rfl (Sbs.cons rfl (Sbs.cons rfl (Sbs.cons rfl (Sbs.cons rfl (Sbs.cons rfl (Sbs.cons rfl (Sbs.cons rfl (Sbs.cons rfl (Sbs.cons rfl (Sbs.cons rfl (Sbs.nil))))))))))) Splits.nil
       ·
        have h := condF hb3 h
        refine TC.skip ?_
        exact TX.meetD c1 h rfl (Sbs.cons rfl (Sbs.cons rfl (Sbs.cons rfl (Sbs.cons rfl (Sbs.cons rfl (Sbs.cons rfl (Sbs.cons rfl (Sbs.cons rfl (Sbs.cons rfl (Sbs.cons rfl (Sbs.nil))))))))))) Splits.nil
      ·
       rintro r1 h
       rw [hj3] at h
       show TC _ _ _ _ _ ([]) _ _ [(0, .string s1), (1, .int .i64 at1), (6, .int .i64 n3), (7, .int .i32 r1), (12, .int .i64 at1), (13, .int .i64 n3), (14, .int .i64 (at1 + n3)), (15, .string s1), (16, .int .i64 (s1.size : Int)), (17, .bool (decide (((at1 + n3) : Int) ≤ (s1.size : Int))))] []
       obtain ⟨j4, hj4, h⟩ := joinE h
       refine TC.cutN (β := Int) 0 rfl (fun b => j4 b = some r) (fun b => []) (fun b => [(0, .string s1), (1, .int .i64 at1), (6, .int .i64 n3), (7, .int .i32 b), (12, .int .i64 at1), (13, .int .i64 n3), (14, .int .i64 (at1 + n3)), (15, .string s1), (16, .int .i64 (s1.size : Int)), (17, .bool (decide (((at1 + n3) : Int) ≤ (s1.size : Int))))]) (fun b => []) (fun cut => ?_) ?_
       ·
        refine cut (TC.seq (TC.region (TO.assign rfl dc rfl (TO.nil (TX.next (TC.block ?_))))))
        refine TC.loopD (β := Nat × Int × Int) (fun b => loopG (fun _ _ => none) (ref01_Form_s2 s1 at1 n3 j4) b.1 b.2.1 b.2.2 = some r) (fun b => []) (fun b => [(0, .string s1), (1, .int .i64 at1), (6, .int .i64 n3), (7, .int .i32 b.2.1), (8, .int .i64 b.2.2), (12, .int .i64 at1), (13, .int .i64 n3), (14, .int .i64 (at1 + n3)), (15, .string s1), (16, .int .i64 (s1.size : Int)), (17, .bool (decide (((at1 + n3) : Int) ≤ (s1.size : Int))))]) (fun b => []) (fun b => b.1) (fuel, r1, 1) h rfl (Sbs.cons rfl (Sbs.cons rfl (Sbs.cons rfl (Sbs.cons rfl (Sbs.cons rfl (Sbs.cons rfl (Sbs.cons rfl (Sbs.cons rfl (Sbs.cons rfl (Sbs.cons rfl (Sbs.cons rfl (Sbs.nil)))))))))))) Splits.nil ?_
        rintro ⟨n5, r5, i3⟩ h
        cases n5 with
        | zero => exact noneE h
        | succ n5 =>
         obtain ⟨ag2, hag2⟩ : ∃ ag, ag = loopG (fun _ _ => none) (ref01_Form_s2 s1 at1 n3 j4) n5 := ⟨_, rfl⟩
         have h : ref01_Form_s2 s1 at1 n3 j4 ag2 r5 i3 = some r := by rw [hag2]; exact h
         unfold ref01_Form_s2 at h
         show TC _ _ _ _ _ ([]) _ _ [(0, .string s1), (1, .int .i64 at1), (6, .int .i64 n3), (7, .int .i32 r5), (8, .int .i64 i3), (12, .int .i64 at1), (13, .int .i64 n3), (14, .int .i64 (at1 + n3)), (15, .string s1), (16, .int .i64 (s1.size : Int)), (17, .bool (decide (((at1 + n3) : Int) ≤ (s1.size : Int))))] []
         refine TC.seq (TC.seq (TC.region (TO.move rfl dc rfl (TO.move rfl dc rfl (TO.bin rfl dc rfl rfl bin_lss (TO.nil (TX.next ?_)))))))
         refine TC.condB rfl (fun hb4 => ?_) (fun hb4 => ?_)
         ·
          have h := condT hb4 h
          refine TC.skip (TX.next (TC.seq (TC.block (TC.region (TO.move rfl dc rfl ?_)))))
          obtain ⟨hg7, h⟩ := grdE h
          refine TO.bin rfl dc rfl rfl (bin_mul (r := r5 * 64) (IntWalk.i32_in _ hg7)) (TO.move rfl dc rfl (TO.move rfl dc rfl (TO.move rfl dc rfl ?_)))
          obtain ⟨hg8, h⟩ := grdE h
          refine TO.bin rfl dc rfl rfl (bin_add (r := at1 + i3) (IntWalk.i64_in _ hg8)) ?_
          obtain ⟨c2, hq2, h⟩ := andE h
          refine TO.index rfl dc rfl rfl (index_stringI Try.underlying9 hq2) ?_
          obtain ⟨hg9, h⟩ := grdE h
          refine TO.conv rfl dc rfl (conv_int (r := c2) Try.underlying5 Try.underlying21 (IntWalk.i32_in _ hg9)) ?_
          obtain ⟨hg10, h⟩ := grdE h
          refine TO.bin rfl dc rfl rfl (bin_add (r := (r5 * 64) + c2) (IntWalk.i32_in _ hg10)) ?_
          obtain ⟨hg11, h⟩ := grdE h
          refine TO.bin rfl dc rfl rfl (bin_sub (r := ((r5 * 64) + c2) - 128) (IntWalk.i32_in _ hg11)) (TO.assign rfl dc rfl (TO.nil (TX.blockNormal (TX.next (TC.region (TO.move rfl dc rfl ?_))))))
          obtain ⟨hg12, h⟩ := grdE h
          refine TO.bin rfl dc rfl rfl (bin_add (r := i3 + 1) (IntWalk.i64_in _ hg12)) (TO.assign rfl dc rfl (TO.nil ?_))
          subst hag2
          exact TX.againD (n5, ((r5 * 64) + c2) - 128, i3 + 1) h (Nat.lt_succ_self _) rfl (Sbs.cons rfl (Sbs.cons rfl (Sbs.cons rfl (Sbs.cons rfl (Sbs.cons rfl (Sbs.cons rfl (Sbs.cons rfl (Sbs.cons rfl (Sbs.cons rfl (Sbs.cons rfl (Sbs.cons rfl (Sbs.nil)))))))))))) Splits.nil
         ·
          have h := condF hb4 h
          refine TC.exit (TX.thenExit (TX.thenExit (TX.blockHere ?_)))
          exact TX.meetD r5 h rfl (Sbs.cons rfl (Sbs.cons rfl (Sbs.cons rfl (Sbs.cons rfl (Sbs.cons rfl (Sbs.cons rfl (Sbs.cons rfl (Sbs.cons rfl (Sbs.cons rfl (Sbs.cons rfl (Sbs.nil))))))))))) Splits.nil
       ·
        rintro r2 h
        rw [hj4] at h
        show TC _ _ _ _ _ ([]) _ _ [(0, .string s1), (1, .int .i64 at1), (6, .int .i64 n3), (7, .int .i32 r2), (12, .int .i64 at1), (13, .int .i64 n3), (14, .int .i64 (at1 + n3)), (15, .string s1), (16, .int .i64 (s1.size : Int)), (17, .bool (decide (((at1 + n3) : Int) ≤ (s1.size : Int))))] []
        refine TC.seq ?_
        obtain ⟨r6, hq3, h⟩ := andE h
        refine TC.bySplit (b := !r6) (fun hb5 => ?_) (fun hb5 => ?_)
        ·
         have h := condT hb5 h
         obtain ⟨r7, hq4, h⟩ := andE h
         refine TC.bySplit (b := (r7 : Int) == n3) (fun hb6 => ?_) (fun hb6 => ?_)
         ·
          have h := condT hb6 h
          obtain ⟨r8, hq5, h⟩ := andE h
          obtain ⟨hg13, h⟩ := grdE h
          obtain ⟨hg14, h⟩ := grdE h
          refine TC.drawN 18 [(0, 48, .int .i32 r2), (1, 49, .bool r6), (2, 50, .bool true), (3, 51, .bool true), (4, 52, .int .i32 r2), (5, 53, .int .i64 r7), (6, 54, .int .i64 n3), (7, 55, .bool true), (8, 56, .bool true), (9, 57, .bool true), (10, 58, .int .i32 r2), (11, 59, .string r8), (12, 60, .string s1), (13, 61, .int .i64 at1), (14, 62, .int .i64 at1), (15, 63, .int .i64 n3), (16, 64, .int .i64 (at1 + n3)), (17, 65, .string (cutB s1 at1 (at1 + n3)))] mixed kr kr dc (by rfl) kr kr (DrawPre.cons ?_ (DrawPre.cons ?_ (DrawPre.cons ?_ (DrawPre.cons ?_ (DrawPre.cons ?_ (DrawPre.cons ?_ (DrawPre.cons ?_ (DrawPre.cons ?_ (DrawPre.cons ?_ (DrawPre.cons ?_ (DrawPre.cons ?_ (DrawPre.cons ?_ (DrawPre.cons ?_ (DrawPre.cons ?_ (DrawPre.cons ?_ (DrawPre.cons ?_ (DrawPre.cons ?_ (DrawPre.cons ?_ DrawPre.nil)))))))))))))))))) ?_
          ·
           intro D hn hd hcl hu hi
           refine TO.move rfl dc (dl_old (by rfl) rfl) ?_
           exact TX.quiet 0 hu hi rfl
          ·
           intro D hn hd hcl hu hi
           refine TO.callP (v := .bool r6) (vs := [.int .i32 r2]) rfl dc rfl (evL.cons (dl_lookup (m := 0) hu rfl (hd 0 dc)) evL.nil) rfl en_85 (ref01_None_fn hq3) ?_
           exact TX.quiet 1 hu hi rfl
          ·
           intro D hn hd hcl hu hi
           refine TO.un rfl dc (dl_lookup (m := 1) hu rfl (hd 1 dc)) un_not (TO.rewH (show Value.bool (!r6) = Value.bool true from congrArg Value.bool hb5) ?_)
           exact TX.quiet 2 hu hi rfl
          ·
           intro D hn hd hcl hu hi
           refine TO.move rfl dc (dl_lookup (m := 2) hu rfl (hd 2 dc)) ?_
           exact TX.quiet 3 hu hi rfl
          ·
           intro D hn hd hcl hu hi
           refine TO.move (gd_T rfl (dl_lookup (m := 3) hu rfl (hd 3 dc))) dc (dl_old (by rfl) rfl) ?_
           exact TX.quiet 4 hu hi rfl
          ·
           intro D hn hd hcl hu hi
           refine TO.callP (v := .int .i64 r7) (vs := [.int .i32 r2]) (gd_T rfl (dl_lookup (m := 3) hu rfl (hd 3 dc))) dc rfl (evL.cons (dl_lookup (m := 4) hu rfl (hd 4 dc)) evL.nil) rfl en_86 (ref01_Width_fn hq4) ?_
           exact TX.quiet 5 hu hi rfl
          ·
           intro D hn hd hcl hu hi
           refine TO.move (gd_T rfl (dl_lookup (m := 3) hu rfl (hd 3 dc))) dc (dl_old (by rfl) rfl) ?_
           exact TX.quiet 6 hu hi rfl
          ·
           intro D hn hd hcl hu hi
           refine TO.bin (gd_T rfl (dl_lookup (m := 3) hu rfl (hd 3 dc))) dc (dl_lookup (m := 5) hu rfl (hd 5 dc)) (dl_lookup (m := 6) hu rfl (hd 6 dc)) bin_eql (TO.rewH (show Value.bool ((r7 : Int) == n3) = Value.bool true from congrArg Value.bool hb6) ?_)
           exact TX.quiet 7 hu hi rfl
          ·
           intro D hn hd hcl hu hi
           refine TO.pick (b := true) rfl dc (dl_lookup (m := 3) hu rfl (hd 3 dc)) (dl_lookup (m := 7) hu rfl (hd 7 dc)) ?_
           exact TX.quiet 8 hu hi rfl
          ·
           intro D hn hd hcl hu hi
           refine TO.move rfl dc (dl_lookup (m := 8) hu rfl (hd 8 dc)) ?_
           exact TX.quiet 9 hu hi rfl
          ·
           intro D hn hd hcl hu hi
           refine TO.move (gd_T rfl (dl_lookup (m := 9) hu rfl (hd 9 dc))) dc (dl_old (by rfl) rfl) ?_
           exact TX.quiet 10 hu hi rfl
          ·
           intro D hn hd hcl hu hi
           refine TO.callP (v := .string r8) (vs := [.int .i32 r2]) (gd_T rfl (dl_lookup (m := 9) hu rfl (hd 9 dc))) dc rfl (evL.cons (dl_lookup (m := 10) hu rfl (hd 10 dc)) evL.nil) rfl en_74 (ref01_Encode_fn hq5) ?_
           exact TX.quiet 11 hu hi rfl
          ·
           intro D hn hd hcl hu hi
           refine TO.move (gd_T rfl (dl_lookup (m := 9) hu rfl (hd 9 dc))) dc (dl_old (by rfl) rfl) ?_
           exact TX.quiet 12 hu hi rfl
          ·
           intro D hn hd hcl hu hi
           refine TO.move (gd_T rfl (dl_lookup (m := 9) hu rfl (hd 9 dc))) dc (dl_old (by rfl) rfl) ?_
           exact TX.quiet 13 hu hi rfl
          ·
           intro D hn hd hcl hu hi
           refine TO.move (gd_T rfl (dl_lookup (m := 9) hu rfl (hd 9 dc))) dc (dl_old (by rfl) rfl) ?_
           exact TX.quiet 14 hu hi rfl
          ·
           intro D hn hd hcl hu hi
           refine TO.move (gd_T rfl (dl_lookup (m := 9) hu rfl (hd 9 dc))) dc (dl_old (by rfl) rfl) ?_
           exact TX.quiet 15 hu hi rfl
          ·
           intro D hn hd hcl hu hi
           refine TO.bin (gd_T rfl (dl_lookup (m := 9) hu rfl (hd 9 dc))) dc (dl_lookup (m := 14) hu rfl (hd 14 dc)) (dl_lookup (m := 15) hu rfl (hd 15 dc)) (bin_add (r := at1 + n3) (IntWalk.i64_in _ hg13)) ?_
           exact TX.quiet 16 hu hi rfl
          ·
           intro D hn hd hcl hu hi
           refine TO.slice (gd_T rfl (dl_lookup (m := 9) hu rfl (hd 9 dc))) dc (dl_lookup (m := 12) hu rfl (hd 12 dc)) (evO.some (dl_lookup (m := 13) hu rfl (hd 13 dc))) (evO.some (dl_lookup (m := 16) hu rfl (hd 16 dc))) (slice_stringI (i := at1) (j := at1 + n3) Try.underlying9 (.inr rfl) (.inr rfl) hg14) ?_
           exact TX.quiet 17 hu hi rfl
          refine TO.bin rfl dc rfl rfl bin_seql (TO.pick (b := true) rfl dc rfl rfl (TO.nil (TX.next ?_)))
          refine TC.condB rfl (fun hb7 => ?_) (fun hb7 => ?_)
          ·
           have h := condT hb7 h
           refine TC.seq (TC.region (TO.move rfl dc rfl (TO.move rfl dc rfl (TO.assign rfl dc rfl (TO.assign rfl dc rfl (TO.nil (TX.next (TC.ret (TX.blockRet (TX.thenRet (TX.thenRet (TX.blockRet (TX.thenRet ?_)))))))))))))
           cases h
           exact TX.fin (rs := [.tmp 4, .tmp 5]) () (.inl rfl) Try.results87 (.cons (.tmp rfl) (.cons (.tmp rfl) .nil)) rfl Splits.nil
          ·
           have h := condF hb7 h
           refine TC.skip (TX.blockNormal ?_)
           exact TX.meetD () h rfl (Sbs.cons rfl (Sbs.cons rfl (Sbs.cons rfl (Sbs.cons rfl (Sbs.cons rfl (Sbs.cons rfl (Sbs.cons rfl (Sbs.cons rfl (Sbs.cons rfl (Sbs.nil)))))))))) Splits.nil
         ·
          have h := condF hb6 h
          refine TC.drawN 18 [(0, 48, .int .i32 r2), (1, 49, .bool r6), (2, 50, .bool true), (3, 51, .bool true), (4, 52, .int .i32 r2), (5, 53, .int .i64 r7), (6, 54, .int .i64 n3), (7, 55, .bool false), (8, 56, .bool false), (9, 57, .bool false), (10, 58, undef), (11, 59, undef), (12, 60, undef), (13, 61, undef), (14, 62, undef), (15, 63, undef), (16, 64, undef), (17, 65, undef)] mixed kr kr dc (by rfl) kr kr (DrawPre.cons ?_ (DrawPre.cons ?_ (DrawPre.cons ?_ (DrawPre.cons ?_ (DrawPre.cons ?_ (DrawPre.cons ?_ (DrawPre.cons ?_ (DrawPre.cons ?_ (DrawPre.cons ?_ (DrawPre.cons ?_ (DrawPre.cons ?_ (DrawPre.cons ?_ (DrawPre.cons ?_ (DrawPre.cons ?_ (DrawPre.cons ?_ (DrawPre.cons ?_ (DrawPre.cons ?_ (DrawPre.cons ?_ DrawPre.nil)))))))))))))))))) ?_
          ·
           intro D hn hd hcl hu hi
           refine TO.move rfl dc (dl_old (by rfl) rfl) ?_
           exact TX.quiet 0 hu hi rfl
          ·
           intro D hn hd hcl hu hi
           refine TO.callP (v := .bool r6) (vs := [.int .i32 r2]) rfl dc rfl (evL.cons (dl_lookup (m := 0) hu rfl (hd 0 dc)) evL.nil) rfl en_85 (ref01_None_fn hq3) ?_
           exact TX.quiet 1 hu hi rfl
          ·
           intro D hn hd hcl hu hi
           refine TO.un rfl dc (dl_lookup (m := 1) hu rfl (hd 1 dc)) un_not (TO.rewH (show Value.bool (!r6) = Value.bool true from congrArg Value.bool hb5) ?_)
           exact TX.quiet 2 hu hi rfl
          ·
           intro D hn hd hcl hu hi
           refine TO.move rfl dc (dl_lookup (m := 2) hu rfl (hd 2 dc)) ?_
           exact TX.quiet 3 hu hi rfl
          ·
           intro D hn hd hcl hu hi
           refine TO.move (gd_T rfl (dl_lookup (m := 3) hu rfl (hd 3 dc))) dc (dl_old (by rfl) rfl) ?_
           exact TX.quiet 4 hu hi rfl
          ·
           intro D hn hd hcl hu hi
           refine TO.callP (v := .int .i64 r7) (vs := [.int .i32 r2]) (gd_T rfl (dl_lookup (m := 3) hu rfl (hd 3 dc))) dc rfl (evL.cons (dl_lookup (m := 4) hu rfl (hd 4 dc)) evL.nil) rfl en_86 (ref01_Width_fn hq4) ?_
           exact TX.quiet 5 hu hi rfl
          ·
           intro D hn hd hcl hu hi
           refine TO.move (gd_T rfl (dl_lookup (m := 3) hu rfl (hd 3 dc))) dc (dl_old (by rfl) rfl) ?_
           exact TX.quiet 6 hu hi rfl
          ·
           intro D hn hd hcl hu hi
           refine TO.bin (gd_T rfl (dl_lookup (m := 3) hu rfl (hd 3 dc))) dc (dl_lookup (m := 5) hu rfl (hd 5 dc)) (dl_lookup (m := 6) hu rfl (hd 6 dc)) bin_eql (TO.rewH (show Value.bool ((r7 : Int) == n3) = Value.bool false from congrArg Value.bool hb6) ?_)
           exact TX.quiet 7 hu hi rfl
          ·
           intro D hn hd hcl hu hi
           refine TO.pick (b := true) rfl dc (dl_lookup (m := 3) hu rfl (hd 3 dc)) (dl_lookup (m := 7) hu rfl (hd 7 dc)) ?_
           exact TX.quiet 8 hu hi rfl
          ·
           intro D hn hd hcl hu hi
           refine TO.move rfl dc (dl_lookup (m := 8) hu rfl (hd 8 dc)) ?_
           exact TX.quiet 9 hu hi rfl
          ·
           intro D hn hd hcl hu hi
           refine TO.skip (gd_F rfl (dl_lookup (m := 9) hu rfl (hd 9 dc))) dc ?_
           exact TX.quiet 10 hu hi rfl
          ·
           intro D hn hd hcl hu hi
           refine TO.skip (gd_F rfl (dl_lookup (m := 9) hu rfl (hd 9 dc))) dc ?_
           exact TX.quiet 11 hu hi rfl
          ·
           intro D hn hd hcl hu hi
           refine TO.skip (gd_F rfl (dl_lookup (m := 9) hu rfl (hd 9 dc))) dc ?_
           exact TX.quiet 12 hu hi rfl
          ·
           intro D hn hd hcl hu hi
           refine TO.skip (gd_F rfl (dl_lookup (m := 9) hu rfl (hd 9 dc))) dc ?_
           exact TX.quiet 13 hu hi rfl
          ·
           intro D hn hd hcl hu hi
           refine TO.skip (gd_F rfl (dl_lookup (m := 9) hu rfl (hd 9 dc))) dc ?_
           exact TX.quiet 14 hu hi rfl
          ·
           intro D hn hd hcl hu hi
           refine TO.skip (gd_F rfl (dl_lookup (m := 9) hu rfl (hd 9 dc))) dc ?_
           exact TX.quiet 15 hu hi rfl
          ·
           intro D hn hd hcl hu hi
           refine TO.skip (gd_F rfl (dl_lookup (m := 9) hu rfl (hd 9 dc))) dc ?_
           exact TX.quiet 16 hu hi rfl
          ·
           intro D hn hd hcl hu hi
           refine TO.skip (gd_F rfl (dl_lookup (m := 9) hu rfl (hd 9 dc))) dc ?_
           exact TX.quiet 17 hu hi rfl
          refine TO.skip rfl dc (TO.pick (b := false) rfl dc rfl rfl (TO.nil (TX.next (TC.condF rfl (TC.skip (TX.blockNormal ?_))))))
          exact TX.meetD () h rfl (Sbs.cons rfl (Sbs.cons rfl (Sbs.cons rfl (Sbs.cons rfl (Sbs.cons rfl (Sbs.cons rfl (Sbs.cons rfl (Sbs.cons rfl (Sbs.cons rfl (Sbs.nil)))))))))) Splits.nil
        ·
         have h := condF hb5 h
         refine TC.drawN 18 [(0, 48, .int .i32 r2), (1, 49, .bool r6), (2, 50, .bool false), (3, 51, .bool false), (4, 52, undef), (5, 53, undef), (6, 54, undef), (7, 55, undef), (8, 56, .bool false), (9, 57, .bool false), (10, 58, undef), (11, 59, undef), (12, 60, undef), (13, 61, undef), (14, 62, undef), (15, 63, undef), (16, 64, undef), (17, 65, undef)] mixed kr kr dc (by rfl) kr kr (DrawPre.cons ?_ (DrawPre.cons ?_ (DrawPre.cons ?_ (DrawPre.cons ?_ (DrawPre.cons ?_ (DrawPre.cons ?_ (DrawPre.cons ?_ (DrawPre.cons ?_ (DrawPre.cons ?_ (DrawPre.cons ?_ (DrawPre.cons ?_ (DrawPre.cons ?_ (DrawPre.cons ?_ (DrawPre.cons ?_ (DrawPre.cons ?_ (DrawPre.cons ?_ (DrawPre.cons ?_ (DrawPre.cons ?_ DrawPre.nil)))))))))))))))))) ?_
         ·
          intro D hn hd hcl hu hi
          refine TO.move rfl dc (dl_old (by rfl) rfl) ?_
          exact TX.quiet 0 hu hi rfl
         ·
          intro D hn hd hcl hu hi
          refine TO.callP (v := .bool r6) (vs := [.int .i32 r2]) rfl dc rfl (evL.cons (dl_lookup (m := 0) hu rfl (hd 0 dc)) evL.nil) rfl en_85 (ref01_None_fn hq3) ?_
          exact TX.quiet 1 hu hi rfl
         ·
          intro D hn hd hcl hu hi
          refine TO.un rfl dc (dl_lookup (m := 1) hu rfl (hd 1 dc)) un_not (TO.rewH (show Value.bool (!r6) = Value.bool false from congrArg Value.bool hb5) ?_)
          exact TX.quiet 2 hu hi rfl
         ·
          intro D hn hd hcl hu hi
          refine TO.move rfl dc (dl_lookup (m := 2) hu rfl (hd 2 dc)) ?_
          exact TX.quiet 3 hu hi rfl
         ·
          intro D hn hd hcl hu hi
          refine TO.skip (gd_F rfl (dl_lookup (m := 3) hu rfl (hd 3 dc))) dc ?_
          exact TX.quiet 4 hu hi rfl
         ·
          intro D hn hd hcl hu hi
          refine TO.skip (gd_F rfl (dl_lookup (m := 3) hu rfl (hd 3 dc))) dc ?_
          exact TX.quiet 5 hu hi rfl
         ·
          intro D hn hd hcl hu hi
          refine TO.skip (gd_F rfl (dl_lookup (m := 3) hu rfl (hd 3 dc))) dc ?_
          exact TX.quiet 6 hu hi rfl
         ·
          intro D hn hd hcl hu hi
          refine TO.skip (gd_F rfl (dl_lookup (m := 3) hu rfl (hd 3 dc))) dc ?_
          exact TX.quiet 7 hu hi rfl
         ·
          intro D hn hd hcl hu hi
          refine TO.pick (b := false) rfl dc (dl_lookup (m := 3) hu rfl (hd 3 dc)) rfl ?_
          exact TX.quiet 8 hu hi rfl
         ·
          intro D hn hd hcl hu hi
          refine TO.move rfl dc (dl_lookup (m := 8) hu rfl (hd 8 dc)) ?_
          exact TX.quiet 9 hu hi rfl
         ·
          intro D hn hd hcl hu hi
          refine TO.skip (gd_F rfl (dl_lookup (m := 9) hu rfl (hd 9 dc))) dc ?_
          exact TX.quiet 10 hu hi rfl
         ·
          intro D hn hd hcl hu hi
          refine TO.skip (gd_F rfl (dl_lookup (m := 9) hu rfl (hd 9 dc))) dc ?_
          exact TX.quiet 11 hu hi rfl
         ·
          intro D hn hd hcl hu hi
          refine TO.skip (gd_F rfl (dl_lookup (m := 9) hu rfl (hd 9 dc))) dc ?_
          exact TX.quiet 12 hu hi rfl
         ·
          intro D hn hd hcl hu hi
          refine TO.skip (gd_F rfl (dl_lookup (m := 9) hu rfl (hd 9 dc))) dc ?_
          exact TX.quiet 13 hu hi rfl
         ·
          intro D hn hd hcl hu hi
          refine TO.skip (gd_F rfl (dl_lookup (m := 9) hu rfl (hd 9 dc))) dc ?_
          exact TX.quiet 14 hu hi rfl
         ·
          intro D hn hd hcl hu hi
          refine TO.skip (gd_F rfl (dl_lookup (m := 9) hu rfl (hd 9 dc))) dc ?_
          exact TX.quiet 15 hu hi rfl
         ·
          intro D hn hd hcl hu hi
          refine TO.skip (gd_F rfl (dl_lookup (m := 9) hu rfl (hd 9 dc))) dc ?_
          exact TX.quiet 16 hu hi rfl
         ·
          intro D hn hd hcl hu hi
          refine TO.skip (gd_F rfl (dl_lookup (m := 9) hu rfl (hd 9 dc))) dc ?_
          exact TX.quiet 17 hu hi rfl
         refine TO.skip rfl dc (TO.pick (b := false) rfl dc rfl rfl (TO.nil (TX.next (TC.condF rfl (TC.skip (TX.blockNormal ?_))))))
         exact TX.meetD () h rfl (Sbs.cons rfl (Sbs.cons rfl (Sbs.cons rfl (Sbs.cons rfl (Sbs.cons rfl (Sbs.cons rfl (Sbs.cons rfl (Sbs.cons rfl (Sbs.cons rfl (Sbs.nil)))))))))) Splits.nil
     ·
      rintro _ h
      rw [hj2] at h
      show TC _ _ _ _ _ ([]) _ _ [(0, .string s1), (1, .int .i64 at1), (6, .int .i64 n3), (12, .int .i64 at1), (13, .int .i64 n3), (14, .int .i64 (at1 + n3)), (15, .string s1), (16, .int .i64 (s1.size : Int)), (17, .bool (decide (((at1 + n3) : Int) ≤ (s1.size : Int))))] []
      refine TC.region (TO.move rfl dc rfl ?_)
      obtain ⟨hg15, h⟩ := grdE h
      refine TO.bin rfl dc rfl rfl (bin_add (r := n3 + 1) (IntWalk.i64_in _ hg15)) (TO.assign rfl dc rfl (TO.nil ?_))
      subst hag1
      exact TX.againD (n4, n3 + 1) h (Nat.lt_succ_self _) rfl (Sbs.cons rfl (Sbs.cons rfl (Sbs.cons rfl (Sbs.nil)))) Splits.nil
    ·
     have h := condF hb2 h
     refine TC.exit (TX.thenExit (TX.thenExit (TX.blockHere ?_)))
     exact TX.meetD () h rfl (Sbs.nil) Splits.nil
   ·
    have h := condF hb1 h
    refine TO.skip rfl dc (TO.skip rfl dc (TO.skip rfl dc (TO.skip rfl dc (TO.skip rfl dc (TO.skip rfl dc (TO.pick (b := false) rfl dc rfl rfl (TO.nil (TX.next (TC.condF rfl (TC.exit (TX.thenExit (TX.thenExit (TX.blockHere ?_)))))))))))))
    exact TX.meetD () h rfl (Sbs.nil) Splits.nil
 ·
  rintro _ h
  rw [hj1] at h
  show TC _ _ _ _ _ ([]) _ _ [] []
  refine TC.seq (TC.region (TO.assign rfl dc rfl (TO.assign rfl dc rfl (TO.nil (TX.next (TC.ret ?_))))))
  cases h
  exact TX.fin (rs := [.tmp 4, .tmp 5]) () (.inl rfl) Try.results87 (.cons (.tmp rfl) (.cons (.tmp rfl) .nil)) rfl Splits.nil
def ref01_At_v (s1 : ByteArray) (at1 : Int) : Option Gapi_Piece := andThen (ref01_Form_v s1 at1) fun (r1 : (Int × Int)) => bcond (decide ((0 : Int) < r1.2)) ( some (⟨at1, r1.2, r1.1, false⟩ : Gapi_Piece)
) ( some (⟨at1, 1, 65533, true⟩ : Gapi_Piece)
)
set_option maxRecDepth 100000 in
set_option maxHeartbeats 4000000 in
theorem ref01_At_fn {s1 : ByteArray} {at1 : Int} {r : Gapi_Piece} (h : ref01_At_v s1 at1 = some r) : FnP Try.prog 82 [.string s1, .int .i64 at1] (.agg #[.int .i64 r.At, .int .i64 r.Width, .int .i32 r.Rune, .bool r.Broken]) := by
 unfold ref01_At_v at h
 refine FnP.intro Try.func82 rfl Try.ntmps82 (by simp) ?_
 intro w0 K
 refine TC.seq (TC.region ?_)
 refine TO.alloc zr_89 rfl dc (fun b1 => ?_)
 refine TO.nil (TX.next (TC.seq (TC.seq (TC.region (TO.move rfl dc rfl (TO.move rfl dc rfl ?_))))))
 obtain ⟨r1, hq1, h⟩ := andE h
 refine TO.callP (v := .tuple #[.int .i32 r1.1, .int .i64 r1.2]) (vs := [.string s1, .int .i64 at1]) rfl dc rfl rfl rfl en_87 (ref01_Form_fn hq1) (TO.move rfl dc rfl (TO.extract rfl dc rfl rfl (TO.extract rfl dc rfl rfl (TO.assign rfl dc rfl (TO.assign rfl dc rfl (TO.nil (TX.next (TC.seq (TC.region (TO.move rfl dc rfl (TO.bin rfl dc rfl rfl bin_gtr (TO.nil (TX.next ?_)))))))))))))
 refine TC.condB rfl (fun hb1 => ?_) (fun hb1 => ?_)
 ·
  have h := condT hb1 h
  refine TC.seq (TC.region (TO.move rfl dc rfl (TO.move rfl dc rfl (TO.move rfl dc rfl ?_))))
  refine TO.build (v := .agg #[.int .i64 at1, .int .i64 r1.2, .int .i32 r1.1, .bool false]) (ps := [(0, .tmp 15), (1, .tmp 16), (2, .tmp 17)]) rfl dc rfl (fun _ => by kernel_rfl) ?_
  refine TO.stores (k := 0) (vs := [.int .i64 at1, .int .i64 r1.2, .int .i32 r1.1, .bool false]) (l' := [.int .i64 at1, .int .i64 r1.2, .int .i32 r1.1, .bool false]) sz_89 rfl rfl rfl rfl rfl (show _ ≤ _ by simp) rfl rfl ?_
  show TO _ _ _ _ _ _ _ _ _ _ [cells b1 [.int .i64 at1, .int .i64 r1.2, .int .i32 r1.1, .bool false] 89]
  refine TO.nil (TX.next (TC.ret (TX.thenRet ?_)))
  cases h
  exact TX.fin (rs := [.cell 4 89]) () (.inl rfl) Try.results82 (.cons (.cells rw_89 (k := 0) rfl rfl rfl) .nil) rfl Splits.nil
 ·
  have h := condF hb1 h
  refine TC.skip (TX.next (TC.seq (TC.region (TO.move rfl dc rfl ?_))))
  refine TO.build (v := .agg #[.int .i64 at1, .int .i64 1, .int .i32 65533, .bool true]) (ps := [(0, .tmp 19), (1, .const (.int .i64 1)), (2, .const (.int .i32 65533)), (3, .const (.bool true))]) rfl dc rfl (fun _ => by kernel_rfl) ?_
  refine TO.stores (k := 0) (vs := [.int .i64 at1, .int .i64 1, .int .i32 65533, .bool true]) (l' := [.int .i64 at1, .int .i64 1, .int .i32 65533, .bool true]) sz_89 rfl rfl rfl rfl rfl (show _ ≤ _ by simp) rfl rfl ?_
  show TO _ _ _ _ _ _ _ _ _ _ [cells b1 [.int .i64 at1, .int .i64 1, .int .i32 65533, .bool true] 89]
  refine TO.nil (TX.next (TC.ret ?_))
  cases h
  exact TX.fin (rs := [.cell 4 89]) () (.inl rfl) Try.results82 (.cons (.cells rw_89 (k := 0) rfl rfl rfl) .nil) rfl Splits.nil
def ref01_Pieces_s1 (s1 : ByteArray) (j1 : (List Gapi_Piece) → Option (List Gapi_Piece)) (ag1 : (List Gapi_Piece) → Int → Option (List Gapi_Piece)) (l4 : List Gapi_Piece) (at3 : Int) : Option (List Gapi_Piece) := bcond (decide ((at3 : Int) < (s1.size : Int))) ( andThen (ref01_At_v s1 at3) fun (r1 : Gapi_Piece) => grd (l4.length + 1 ≤ 2147483648) <| grd (I64 (at3 + r1.Width)) <| ag1 (l4 ++ [r1]) (at3 + r1.Width)
) ( j1 l4
)
def ref01_Pieces_v (s1 : ByteArray) : Option (List Gapi_Piece) := joinK (fun (j1 : (List Gapi_Piece) → Option (List Gapi_Piece)) => loopG (fun _ _ => none) (ref01_Pieces_s1 s1 j1) fuel ([] : List Gapi_Piece) 0
) (fun (l1 : List Gapi_Piece) => some l1
)
set_option maxRecDepth 100000 in
set_option maxHeartbeats 4000000 in
theorem ref01_Pieces_fn {s1 : ByteArray} {r : (List Gapi_Piece)} (h : ref01_Pieces_v s1 = some r) : Fn Try.prog 70 [.string s1] [] (fun v0 : Value => v0) (fun v0 => [vec enc_Gapi_Piece 89 4 v0 r]) := by
 unfold ref01_Pieces_v at h
 refine Fn.intro Try.func70 rfl Try.ntmps70 (by simp) ?_
 intro w0 K
 obtain ⟨j1, hj1, h⟩ := joinE h
 refine TC.cutN (β := (List Gapi_Piece) × Value) 2 rfl (fun b => j1 b.1 = some r) (fun b => []) (fun b => [(3, b.2)]) (fun b => [vec enc_Gapi_Piece 89 4 b.2 b.1]) (fun cut => ?_) ?_
 ·
  refine TC.seq (TC.region (TO.assign rfl dc rfl (TO.nil (TX.next (TC.seq (TC.region (TO.assign rfl dc rfl (TO.nil (TX.next (cut (TC.seq (TC.region (TO.assign rfl dc rfl ?_)))))))))))))
  refine TO.nil (TX.next (TC.block (TC.newVec (enc := enc_Gapi_Piece) (e := 89) (size := 4) ?_)))
  show TC _ _ _ _ _ _ _ _ _ [vec enc_Gapi_Piece 89 4 (.slice none 0 0) ([] : List Gapi_Piece)]
  refine TC.loopD (β := Nat × (List Gapi_Piece) × Int × Value) (fun b => loopG (fun _ _ => none) (ref01_Pieces_s1 s1 j1) b.1 b.2.1 b.2.2.1 = some r) (fun b => []) (fun b => [(0, .string s1), (3, b.2.2.2), (4, .int .i64 b.2.2.1)]) (fun b => [vec enc_Gapi_Piece 89 4 b.2.2.2 b.2.1]) (fun b => b.1) (fuel, ([] : List Gapi_Piece), 0, (.slice none 0 0)) h rfl (Sbs.cons rfl (Sbs.cons rfl (Sbs.cons rfl (Sbs.nil)))) (Splits.of [0] kr rfl) ?_
  rintro ⟨n1, l4, at3, v4⟩ h
  cases n1 with
  | zero => exact noneE h
  | succ n1 =>
   obtain ⟨ag1, hag1⟩ : ∃ ag, ag = loopG (fun _ _ => none) (ref01_Pieces_s1 s1 j1) n1 := ⟨_, rfl⟩
   have h : ref01_Pieces_s1 s1 j1 ag1 l4 at3 = some r := by rw [hag1]; exact h
   unfold ref01_Pieces_s1 at h
   show TC _ _ _ _ _ ([]) _ _ [(0, .string s1), (3, v4), (4, .int .i64 at3)] [vec enc_Gapi_Piece 89 4 v4 l4]
   refine TC.seq (TC.seq (TC.region (TO.move rfl dc rfl (TO.move rfl dc rfl (TO.lenStr rfl dc rfl Try.underlying9 (TO.bin rfl dc rfl rfl bin_lss (TO.nil (TX.next ?_))))))))
   refine TC.condB rfl (fun hb1 => ?_) (fun hb1 => ?_)
   ·
    have h := condT hb1 h
    refine TC.skip (TX.next (TC.block (TC.seq (TC.region (TO.move rfl dc rfl (TO.move rfl dc rfl ?_))))))
    obtain ⟨r1, hq1, h⟩ := andE h
    refine TO.callP (v := .agg #[.int .i64 r1.At, .int .i64 r1.Width, .int .i32 r1.Rune, .bool r1.Broken]) (vs := [.string s1, .int .i64 at3]) rfl dc rfl rfl rfl en_82 (ref01_At_fn hq1) ?_
    refine TO.alloc zr_89 rfl dc (fun b1 => ?_)
    refine TO.stores (k := 1) (vs := [.int .i64 r1.At, .int .i64 r1.Width, .int .i32 r1.Rune, .bool r1.Broken]) (l' := [.int .i64 r1.At, .int .i64 r1.Width, .int .i32 r1.Rune, .bool r1.Broken]) sz_89 rfl rfl rfl rfl rfl (show _ ≤ _ by simp) rfl rfl ?_
    show TO _ _ _ _ _ _ _ _ _ _ [vec enc_Gapi_Piece 89 4 v4 l4, cells b1 [.int .i64 r1.At, .int .i64 r1.Width, .int .i32 r1.Rune, .bool r1.Broken] 89]
    refine TO.nil (TX.next (TC.seq (TC.region (TO.move rfl dc rfl (TO.loads (k := 1) (cs := [.int .i64 r1.At, .int .i64 r1.Width, .int .i32 r1.Rune, .bool r1.Broken]) rw_89 rfl dc rfl rfl rfl rfl ?_)))))
    refine TO.buildSlice (cs := [.int .i64 r1.At, .int .i64 r1.Width, .int .i32 r1.Rune, .bool r1.Broken]) (te := 89) (ps := [(0, .tmp 14)]) rfl dc rfl (fun _ => by kernel_rfl) (fun b2 => ?_)
    obtain ⟨hg1, h⟩ := grdE h
    refine TO.appendVec (k := 0) (k2 := 2) (ys := [r1]) Try.underlying98 el_89 enc_Gapi_Piece_len enc_Gapi_Piece_one rfl dc rfl rfl rfl rfl rfl rfl hg1 (fun v5 => ?_)
    show TO _ _ _ _ _ _ _ _ _ _ [vec enc_Gapi_Piece 89 4 v5 (l4 ++ [r1]), cells b1 [.int .i64 r1.At, .int .i64 r1.Width, .int .i32 r1.Rune, .bool r1.Broken] 89, cells b2 [.int .i64 r1.At, .int .i64 r1.Width, .int .i32 r1.Rune, .bool r1.Broken] 89]
    refine TO.assign rfl dc rfl (TO.nil (TX.next (TC.region (TO.move rfl dc rfl (TO.fieldAddr fl_89_1 rfl dc rfl (show _ = 1 from rfl) (TO.load (k := 1) sc_3 rfl dc rfl rfl rfl ?_))))))
    obtain ⟨hg2, h⟩ := grdE h
    refine TO.bin rfl dc rfl rfl (bin_add (r := at3 + r1.Width) (IntWalk.i64_in _ hg2)) (TO.assign rfl dc rfl (TO.nil (TX.blockNormal ?_)))
    subst hag1
    exact TX.againD (n1, l4 ++ [r1], at3 + r1.Width, v5) h (Nat.lt_succ_self _) rfl (Sbs.cons rfl (Sbs.cons rfl (Sbs.cons rfl (Sbs.nil)))) (Splits.of [0] kr rfl)
   ·
    have h := condF hb1 h
    refine TC.exit (TX.thenExit (TX.thenExit (TX.blockHere ?_)))
    exact TX.meetD (l4, v4) h rfl (Sbs.cons rfl (Sbs.nil)) (Splits.of [0] kr rfl)
 ·
  rintro ⟨l1, v1⟩ h
  rw [hj1] at h
  show TC _ _ _ _ _ ([]) _ _ [(3, v1)] [vec enc_Gapi_Piece 89 4 v1 l1]
  refine TC.seq (TC.region (TO.move rfl dc rfl (TO.assign rfl dc rfl (TO.nil (TX.next (TC.ret ?_))))))
  cases h
  exact TX.fin (rs := [.tmp 2]) v1 (.inl rfl) Try.results70 (.cons (.tmp rfl) .nil) rfl (Splits.of [0] kr rfl)
def ref01_Text_v (s1 : ByteArray) (p1 : Gapi_Piece) : Option ByteArray := grd (I64 (p1.At + p1.Width)) <| grd (0 ≤ (p1.At : Int) ∧ (p1.At : Int) ≤ (p1.At + p1.Width) ∧ (p1.At + p1.Width : Int) ≤ (s1.size : Int)) <| some (cutB s1 p1.At (p1.At + p1.Width))
set_option maxRecDepth 100000 in
set_option maxHeartbeats 4000000 in
theorem ref01_Text_fn {s1 : ByteArray} {p1 : Gapi_Piece} {r : ByteArray} (h : ref01_Text_v s1 p1 = some r) : FnP Try.prog 71 [.string s1, .agg #[.int .i64 p1.At, .int .i64 p1.Width, .int .i32 p1.Rune, .bool p1.Broken]] (.string r) := by
 unfold ref01_Text_v at h
 refine FnP.intro Try.func71 rfl Try.ntmps71 (by simp) ?_
 intro w0 K
 refine TC.seq (TC.region ?_)
 refine TO.box rfl dc rfl (fun b1 => ?_)
 refine TO.assign rfl dc rfl (TO.nil (TX.next (TC.seq (TC.region (TO.move rfl dc rfl (TO.fieldAddr fl_89_0 rfl dc rfl (show _ = 0 from rfl) (TO.load (k := 0) sc_3 rfl dc rfl rfl rfl (TO.fieldAddr fl_89_0 rfl dc rfl (show _ = 0 from rfl) (TO.load (k := 0) sc_3 rfl dc rfl rfl rfl (TO.fieldAddr fl_89_1 rfl dc rfl (show _ = 1 from rfl) (TO.load (k := 0) sc_3 rfl dc rfl rfl rfl ?_)))))))))))
 obtain ⟨hg1, h⟩ := grdE h
 refine TO.bin rfl dc rfl rfl (bin_add (r := p1.At + p1.Width) (IntWalk.i64_in _ hg1)) ?_
 obtain ⟨hg2, h⟩ := grdE h
 refine TO.slice rfl dc rfl rfl rfl (slice_stringI (i := p1.At) (j := p1.At + p1.Width) Try.underlying9 (.inr rfl) (.inr rfl) hg2) (TO.assign rfl dc rfl (TO.nil (TX.next (TC.ret ?_))))
 cases h
 exact TX.fin (rs := [.tmp 4]) () (.inl rfl) Try.results71 (.cons (.tmp rfl) .nil) rfl Splits.nil
end Go.Proofs.Ythjkafeklflgbaa
namespace Go.Proofs.Ythjkafeklflgbaa
open Go.RowKit Go.Lib

def Pc.sh (k : Nat) (p : Pc) : Pc := ⟨p.i + k, p.w, p.r⟩
theorem pcsFrom_sh : ∀ (n i k : Nat) (l : List UInt8), l.length ≤ n → pcsFrom (i + k) l = (pcsFrom i l).map (Pc.sh k)
  | 0, i, k, l, h => by
    have : l = [] := List.eq_nil_of_length_eq_zero (by omega)
    subst this
    simp [pcsFrom_nil]
  | n + 1, i, k, l, h => by
    by_cases hl : l = []
    · subst hl; simp [pcsFrom_nil]
    · have := dec_pos l
      have hlen := List.length_pos_iff.2 hl
      rw [pcsFrom_cons _ l hl, pcsFrom_cons _ l hl, List.map_cons, ← pcsFrom_sh n _ k _ (by simp; omega)]
      congr 2
      omega
theorem pcsFrom_pcs (i : Nat) (l : List UInt8) : pcsFrom i l = (pcs l).map (Pc.sh i) := by
  have := pcsFrom_sh l.length 0 i l (Nat.le_refl _)
  rwa [Nat.zero_add] at this

/-- A piece in the midst: what stands there. -/
theorem pcsFrom_split : ∀ (P : List Pc) (i : Nat) (l : List UInt8) (x : Pc) (B : List Pc), pcsFrom i l = P ++ x :: B →
    ∃ n, x.i = i + n ∧ n + x.w ≤ l.length ∧ DecOk (l.drop n) x.r x.w ∧ pcsFrom (i + n) (l.drop n) = x :: B ∧ B = pcsFrom (x.i + x.w) (l.drop (n + x.w))
  | [], i, l, x, B, h => by
    by_cases hl : l = []
    · subst hl; simp [pcsFrom_nil] at h
    · have hok := decOk l hl
      have h' := h
      rw [pcsFrom_cons i l hl] at h
      simp only [List.nil_append, List.cons.injEq] at h
      obtain ⟨rfl, hB⟩ := h
      exact ⟨0, by simp, by simpa using hok.le, by simpa using hok, by simpa using h', by simpa using hB.symm⟩
  | p :: P, i, l, x, B, h => by
    by_cases hl : l = []
    · subst hl; simp [pcsFrom_nil] at h
    · have hle := dec_le l hl
      rw [pcsFrom_cons i l hl] at h
      simp only [List.cons_append, List.cons.injEq] at h
      obtain ⟨n, h1, h2, h3, h4, h5⟩ := pcsFrom_split P _ _ x B h.2
      refine ⟨(decodeL l).2 + n, by omega, by simp at h2; omega, by rw [← List.drop_drop]; exact h3, by rw [← List.drop_drop, ← Nat.add_assoc]; exact h4, ?_⟩
      rw [h5, List.drop_drop, Nat.add_assoc]
theorem pcs_split (l : List UInt8) (P : List Pc) (x : Pc) (B : List Pc) (h : pcs l = P ++ x :: B) :
    x.i + x.w ≤ l.length ∧ DecOk (l.drop x.i) x.r x.w ∧ pcsFrom x.i (l.drop x.i) = x :: B ∧ B = pcsFrom (x.i + x.w) (l.drop (x.i + x.w)) := by
  obtain ⟨n, h1, h2, h3, h4, h5⟩ := pcsFrom_split P 0 l x B h
  have : x.i = n := by omega
  subst this
  exact ⟨h2, h3, by simpa using h4, h5⟩
theorem pcs_pos (l : List UInt8) (x : Pc) (h : x ∈ pcs l) : 1 ≤ x.w ∧ x.i + x.w ≤ l.length ∧ DecOk (l.drop x.i) x.r x.w := by
  obtain ⟨P, B, hs⟩ := List.append_of_mem h
  obtain ⟨h1, h2, _⟩ := pcs_split l P x B hs
  exact ⟨h2.pos, h1, h2⟩

/-- What a predicate picks of a text's pieces: where the text goes on behind what was picked. -/
def nextOf : List Pc → Nat
  | [] => 0
  | p :: ps => if ps = [] then p.i + p.w else nextOf ps
theorem nextOf_snoc : ∀ (ps : List Pc) (p : Pc), nextOf (ps ++ [p]) = p.i + p.w
  | [], p => by simp [nextOf]
  | q :: ps, p => by simp [nextOf, nextOf_snoc ps p]

theorem pick_rest (f : Pc → Bool) (l : List UInt8) (A B : List Pc) (h : pcs l = A ++ B) :
    ∃ N, pcsFrom (nextOf (A.filter f)) (l.drop (nextOf (A.filter f))) = N ++ B ∧ (∀ q ∈ N, f q = false) := by
  -- by the last picked piece of A
  rcases List.eq_nil_or_concat (A.filter f) with hn | ⟨pre, y, hy⟩
  · rw [hn]
    refine ⟨A, by simpa [nextOf, pcs] using h, fun q hq => ?_⟩
    have := List.filter_eq_nil_iff.1 hn q hq
    simpa using this
  · rw [List.concat_eq_append] at hy
    rw [hy, nextOf_snoc]
    obtain ⟨A1, A2, rfl, h1, h2⟩ := List.filter_eq_append_iff.1 hy
    obtain ⟨N1, N2, rfl, hN1, hfy, hN2⟩ := List.filter_eq_cons_iff.1 h2
    have hs := pcs_split l (A1 ++ N1) y (N2 ++ B) (by rw [h]; simp)
    refine ⟨N2, hs.2.2.2.symm, fun q hq => ?_⟩
    have := List.filter_eq_nil_iff.1 hN2 q hq
    simpa using this

/-- One picked piece: as the text from the last one's end on tells it. -/
theorem pick_next (f : Pc → Bool) (hf : ∀ p k, f (Pc.sh k p) = f p) (l : List UInt8) (pre : List Pc) (x : Pc) (post : List Pc) (h : (pcs l).filter f = pre ++ x :: post) :
    ∃ N x' B, pcs (l.drop (nextOf pre)) = N ++ x' :: B ∧ (∀ q ∈ N, f q = false ∧ q.i < x'.i) ∧ x'.i + nextOf pre = x.i ∧ x'.r = x.r ∧ x'.w = x.w ∧ f x = true ∧ x ∈ pcs l := by
  obtain ⟨A, B, hAB, h1, h2⟩ := List.filter_eq_append_iff.1 h
  obtain ⟨N1, N2, rfl, hN1, hfx, hN2⟩ := List.filter_eq_cons_iff.1 h2
  have hA : (A ++ N1).filter f = pre := by
    rw [List.filter_append, h1]
    rw [List.filter_eq_nil_iff.2 hN1, List.append_nil]
  obtain ⟨N, hN, hNf⟩ := pick_rest f l (A ++ N1) (x :: N2) (by rw [hAB]; simp)
  rw [hA, pcsFrom_pcs] at hN
  obtain ⟨M1, M2, hM, e1, e2⟩ := List.map_eq_append_iff.1 hN
  obtain ⟨x', M3, rfl, e3, e4⟩ := List.map_eq_cons_iff.1 e2
  have hx'' := pcs_split _ M1 x' M3 hM
  have hi : x'.i + nextOf pre = x.i := by rw [← e3]; rfl
  refine ⟨M1, x', M3, hM, fun q hq => ⟨?_, ?_⟩, hi, by rw [← e3]; rfl, by rw [← e3]; rfl, hfx, by rw [hAB]; simp⟩
  · rw [← hf q (nextOf pre)]
    exact hNf _ (by rw [← e1]; exact List.mem_map_of_mem hq)
  · obtain ⟨Q1, Q2, rfl⟩ := List.append_of_mem hq
    have hq' := pcs_split (l.drop (nextOf pre)) Q1 q (Q2 ++ x' :: M3) (by rw [hM]; simp)
    obtain ⟨n, hn, _⟩ := pcsFrom_split Q2 _ _ x' M3 hq'.2.2.2.symm
    have := hq'.2.1.pos
    omega
theorem pick_none (f : Pc → Bool) (hf : ∀ p k, f (Pc.sh k p) = f p) (l : List UInt8) : ∀ q ∈ pcs (l.drop (nextOf ((pcs l).filter f))), f q = false := by
  obtain ⟨N, hN, hNf⟩ := pick_rest f l (pcs l) [] (by simp)
  rw [List.append_nil, pcsFrom_pcs] at hN
  intro q hq
  rw [← hf q (nextOf ((pcs l).filter f))]
  exact hNf _ (by rw [← hN]; exact List.mem_map_of_mem hq)

end Go.Proofs.Ythjkafeklflgbaa
