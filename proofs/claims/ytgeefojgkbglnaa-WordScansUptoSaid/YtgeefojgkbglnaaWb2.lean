/-
  Texts laid together: Ml, Tab, Lt, LfA, Utf, Pcs, Vs, PcW, Cls, ClsW, ClsW2, SeqW, RefPcs, Runs, C0, Tok, Word. Nothing is assumed.
-/
import Derived.Test.YtgeefojgkbglnaaWb1
import Derived.Laws.MakeOwn
import Derived.Laws.StructEq
import Derived.Test.YtgeefojgkbglnaaProg
import Derived.Shelf.Abstract
namespace Go.Proofs.Ytgeefojgkbglnaa
open Go.RowKit Go.Lib
set_option linter.unusedVariables false
set_option linter.unusedSimpArgs false

def encI (k : IntKind) (x : Int) : List Value := [.int k x]
def encB (x : Bool) : List Value := [.bool x]
def encS (x : ByteArray) : List Value := [.string x]
theorem encI_len {k : IntKind} (x : Int) : (encI k x).length = 1 := rfl
theorem encB_len (x : Bool) : (encB x).length = 1 := rfl
theorem encS_len (x : ByteArray) : (encS x).length = 1 := rfl
theorem encI_one {k : IntKind} (x : Int) : ∀ u ∈ encI k x, u.oneCell' = true := by
  intro u hu
  simp only [encI, List.mem_cons, List.not_mem_nil, or_false] at hu
  rcases hu with rfl; rfl
theorem encB_one (x : Bool) : ∀ u ∈ encB x, u.oneCell' = true := by
  intro u hu
  simp only [encB, List.mem_cons, List.not_mem_nil, or_false] at hu
  rcases hu with rfl; rfl
theorem encS_one (x : ByteArray) : ∀ u ∈ encS x, u.oneCell' = true := by
  intro u hu
  simp only [encS, List.mem_cons, List.not_mem_nil, or_false] at hu
  rcases hu with rfl; rfl

theorem sepL.back {L As : List Asn} : ∀ (ks : List Nat), pickAll L ks = some As → distinct ks = true → ∀ {C1 C2 : Nat → Prop} {w : World}, sepL As C1 w → sepL (emps L ks) C2 w → (∀ k, C1 k → ¬ C2 k) → sepL L (fun k => C1 k ∨ C2 k) w := by
  intro ks
  induction ks generalizing L As with
  | nil =>
    intro h _ C1 C2 w h1 h2 h3
    simp only [pickAll, Option.some.injEq] at h; subst h
    exact h2.congr (fun k => ⟨fun h => h.resolve_left (h1 k), .inr⟩)
  | cons k ks ih =>
    intro h hd C1 C2 w h1 h2 h3
    simp only [distinct, Bool.and_eq_true, Bool.not_eq_true'] at hd
    simp only [pickAll] at h
    split at h
    · rename_i A As' g1 g2
      cases h
      obtain ⟨D1, D2, e1, e2, e3, e4⟩ := h1
      have hk : k < L.length := (List.getElem?_eq_some_iff.1 g1).1
      have := ih (L := L.set k emp) (As := As') (by rw [pickAll_set hd.1]; exact g2) hd.2 e2 (show sepL (emps (L.set k emp) ks) C2 w from h2) (fun j hj => h3 j ((e4 j).2 (.inr hj)))
      have h5 := sepL.put (C := fun j => C1 j ∨ C2 j) hk e1 this (fun j hj hj' => by
        rcases hj' with h | h
        · exact e3 j hj h
        · exact h3 j ((e4 j).2 (.inl hj)) h) (fun j => by rw [e4, or_assoc])
      rwa [set_self g1] at h5
    · cases h

section
variable {F : Fence} {P : Program} {w0 : World} {K : Nat → Prop} {N : Nat} {dfs : List Deferred} {ops : Array Oper} {Q : Exit → Act → World → Prop} {rest : List Oper} {σ σ' : List (Nat × Value)} {L L' R As Bs : List Asn} {o : Oper} {v : Value}
  {d : Nat} {t : TypeId} {op : Op} {ty : TypeId} {pos : String} {aft : Array Edge} {g : Option (Nat × Bool)} {x y z : Operand} {c c1 c2 c3 : Code} {k : Nat} {A B : Asn} {RO : List (Nat × Obj)}
  {α : Type} {enc : α → List Value} {e : TypeId} {size : Nat} {xs : List α} {vv : Value} {s : ByteArray} {ex : Exit}
/-- A call that gives back the blocks that it takes. -/
theorem TO.callK [WideF F] {xs : List Operand} {ats : Array TypeId} {f : FuncId} {first cap : Array Value} {vs vs' : List Value}
    (hg : gd ops σ g = some true) (hd : d < N) (hx : ev σ x = some (.func (.func f) first cap)) (hxs : evL σ xs = some vs) (hv : first.toList ++ vs ++ cap.toList = vs')
    (hent : ∀ args w, (callFunc f args).run P w = .ok (.enter f args) w) (hF : Fn P f vs' As (fun _ : Unit => v) (fun _ => As)) (ks : List Nat) (hs : pickAll L ks = some As) (hk : distinct ks = true)
    (h : TO F P w0 K N dfs ops Q rest ((d, v) :: σ) L) :
    TO F P w0 K N dfs ops Q (⟨some d, .call { callee := .value x, args := xs.toArray, argTypes := ats }, ty, pos, aft, g⟩ :: rest) σ L := by
  intro a w ha hw
  simp only [wpListIn, gd_wanted (o := ⟨some d, .call { callee := .value x, args := xs.toArray, argTypes := ats }, ty, pos, aft, g⟩) ha hg, if_true]
  refine ⟨fun f _ => WideF.fn f, ?_⟩
  have h1 : (execOp a.eval ⟨some d, .call { callee := .value x, args := xs.toArray, argTypes := ats }, ty, pos, aft, g⟩).run P w = .ok (.enter f vs'.toArray) w := by
    have e : first ++ vs.toArray ++ cap = vs'.toArray := by rw [← hv]; simp
    simp only [execOp, resolve, List.map_toArray, ha.evL hxs, ha.ev hx, Deferred.ofValue, Sem.run_bind, Sem.run_pure, Result.andThen_ok, invoke, e, hent]
  rw [Oper.semAt_plain F _ _ (by simp), h1]
  refine ⟨(fun h => by rw [WideF.depth (F := F)] at h; cases h), ?_⟩
  obtain ⟨C, hL, hx0⟩ := hw
  obtain ⟨C1, C2, g1, g2, g3, g4⟩ := Splits.of ks hs hk C w hL
  refine WideF.calls ((hF w C1 g1).mono ?_)
  rintro e w' ⟨b, rfl, C', hB, hx'⟩
  refine h _ w' (ha.put hd _) ⟨fun j => C' j ∨ C2 j, sepL.back ks hs hk hB (g2.loc hx'.1.size (fun k hk => hx'.1.keep k (g2.lt k hk) (fun h => g3 k h hk))) (fun j hj hj' => ?_), ?_, ?_⟩
  · rcases hx'.2 j hj with h | h
    · exact g3 j h hj'
    · have := g2.lt j hj'; omega
  · exact hx0.1.trans' hx'.1 (fun i hi hc => by
      rcases hx0.2 i ((g4 i).2 (.inl hc)) with h | h
      · exact h
      · omega)
  · intro j hj
    have := hx0.1.size
    have h9 := hx'.1.size
    rcases hj with hj | hj
    · rcases hx'.2 j hj with h | h
      · rcases hx0.2 j ((g4 j).2 (.inl h)) with h | h
        · exact .inl h
        · exact .inr ⟨h.1, by omega⟩
      · exact .inr ⟨by omega, h.2⟩
    · rcases hx0.2 j ((g4 j).2 (.inr hj)) with h | h
      · exact .inl h
      · exact .inr ⟨h.1, by omega⟩
theorem TX.newVec (h : TX w0 K N dfs Q ex σ (L ++ [vec enc e size (.slice none 0 0) ([] : List α)])) : TX w0 K N dfs Q ex σ L := fun a w ha hw =>
  h a w ha (hw.grow (C' := fun _ => False) (Ext.refl _ _) (sepL.one (A := vec enc e size (.slice none 0 0) ([] : List α)) Vec.nil))
theorem TX.newByt (h : TX w0 K N dfs Q ex σ (L ++ [byt e (.slice none 0 0) ⟨#[]⟩])) : TX w0 K N dfs Q ex σ L := fun a w ha hw =>
  h a w ha (hw.grow (C' := fun _ => False) (Ext.refl _ _) (sepL.one (A := byt e (.slice none 0 0) ⟨#[]⟩) Byt.nil))
theorem TX.toVec {b : Nat} {cs : List Value} (ys : List α) (hk : L[k]? = some (cells b cs e)) (hlen : ∀ x, (enc x).length = size) (hcs : cs = ys.flatMap enc) (hm : ys.length ≤ maxLen)
    (h : TX w0 K N dfs Q ex σ (L.set k (vec enc e size (.slice (some ⟨b, 0, none⟩) ys.length ys.length) ys))) : TX w0 K N dfs Q ex σ L := fun a w ha hw => h a w ha (hw.toVec ys hk hlen hcs hm)
theorem TX.vecVw (hk : L[k]? = some (vec enc e size vv xs)) (h : Vw vv xs size 0 vv xs → TX w0 K N dfs Q ex σ L) : TX w0 K N dfs Q ex σ L := fun a w ha hw => h (vec_cap hw hk) a w ha hw
theorem Vw.one {Ls : List α} (h : Vw vv Ls size k v xs) : v.oneCell' = true := by
  obtain ⟨_, _, q, c, rfl, _⟩ := h; rfl
theorem TO.lenNil [WideF F] {tt te : TypeId} (hg : gd ops σ g = some true) (hd : d < N) (hx : ev σ x = some (.slice none 0 0)) (ht : P.underlying tt = some (.slice te))
    (h : TO F P w0 K N dfs ops Q rest ((d, .int .i64 0) :: σ) L) : TO F P w0 K N dfs ops Q (⟨some d, .call { callee := .builtin .len, args := #[x], argTypes := #[tt] }, ty, pos, aft, g⟩ :: rest) σ L :=
  TO.val hg hd (by simp) (fun a w ha hw => by
    have := ha.ev hx
    simp [execOp, resolve, invoke, builtin, this, Builtin.len_, run_underlying ht, Sem.run_bind, goInt]) h
/-! ### Comparisons -/
theorem bin_booleql {m n : Bool} (ht : P.underlying t = some .bool) (w : World) : (do eqGuard .eql t x y (.bool m) (.bool n); binOp .eql t (.bool m) (.bool n) : Sem Value).run P w = .ok (.bool (m == n)) w := by
  simp [eqGuard, binOp, Sem.run_bind, run_equal_bool w t m n ht]
theorem bin_boolneq {m n : Bool} (ht : P.underlying t = some .bool) (w : World) : (do eqGuard .neq t x y (.bool m) (.bool n); binOp .neq t (.bool m) (.bool n) : Sem Value).run P w = .ok (.bool (m != n)) w := by
  simp [eqGuard, binOp, Sem.run_bind, run_equal_bool w t m n ht, bne]
theorem equal_ptrR {e' : TypeId} {a : Addr} {w : World} (ht : P.underlying t = some (.pointer e')) : (Op.equal t (.pointer (some a)) (.pointer none)).run P w = .ok false w := by
  have h : ∀ d, (Op.equalIn (d + 1) t (.pointer (some a)) (.pointer none)).run P w = .ok false w := fun d => by simp [Op.equalIn, run_underlying ht]
  exact h 9999
theorem bin_ptrnileqlR {e' : TypeId} {a : Addr} (ht : P.underlying t = some (.pointer e')) (w : World) : (do eqGuard .eql t x y (.pointer (some a)) (.pointer none); binOp .eql t (.pointer (some a)) (.pointer none) : Sem Value).run P w = .ok (.bool false) w := by
  simp [eqGuard, binOp, Sem.run_bind, equal_ptrR ht]
theorem bin_ptrnilneqR {e' : TypeId} {a : Addr} (ht : P.underlying t = some (.pointer e')) (w : World) : (do eqGuard .neq t x y (.pointer (some a)) (.pointer none); binOp .neq t (.pointer (some a)) (.pointer none) : Sem Value).run P w = .ok (.bool true) w := by
  simp [eqGuard, binOp, Sem.run_bind, equal_ptrR ht]
/-- A test of structs, out of the fields' tests. -/
theorem bin_agg {b : BinOp} {p : Bool} {xs ys : Array Value} (hb : b = .eql ∨ b = .neq) (hm : P.eqGuardType P.depth t = false) (h : ∀ w, (Op.equalIn 10000 t (.agg xs) (.agg ys)).run P w = .ok p w) (w : World) :
    (do eqGuard b t x y (.agg xs) (.agg ys); binOp b t (.agg xs) (.agg ys) : Sem Value).run P w = .ok (.bool (if b = .eql then p else !p)) w := by
  rcases hb with rfl | rfl
  · simp only [Sem.run_bind, run_eqGuard_agg w _ _ _ _ _ _ hm, Result.andThen_ok, run_eql_struct, h]; rfl
  · simp only [Sem.run_bind, run_eqGuard_agg w _ _ _ _ _ _ hm, Result.andThen_ok, run_neq_struct, h]; rfl
theorem eqF_at {dd i off : Nat} {xs ys : Array Value} {t' ft : TypeId} {a b : Value} {p q : Bool} (hf : ((P.fieldsOf t').toList[i]?).map (fun f => (f.name != "_", f.type, f.offset)) = some (true, ft, off))
    (ha : ∀ w : World, (part ft xs off).run P w = .ok a w) (hb : ∀ w : World, (part ft ys off).run P w = .ok b w) (he : ∀ w, (Op.equalIn dd ft a b).run P w = .ok p w)
    (hr : ∀ w, (Op.eqFields dd xs ys ((P.fieldsOf t').toList.drop (i + 1))).run P w = .ok q w) (w : World) : (Op.eqFields dd xs ys ((P.fieldsOf t').toList.drop i)).run P w = .ok (p && q) w := by
  simp only [Option.map_eq_some_iff] at hf
  obtain ⟨f, hf, he'⟩ := hf
  simp only [Prod.mk.injEq] at he'
  obtain ⟨h1, rfl, rfl⟩ := he'
  have hl := (List.getElem?_eq_some_iff.1 hf).1
  have hd : (P.fieldsOf t').toList.drop i = f :: (P.fieldsOf t').toList.drop (i + 1) := by
    rw [List.drop_eq_getElem_cons hl]; congr 1; exact (List.getElem?_eq_some_iff.1 hf).2
  rw [hd, Op.eqFields, if_pos (by simpa using h1)]
  simp only [Sem.run_bind, ha, hb, he, Result.andThen_ok]
  cases p
  · simp
  · simp [hr]
theorem eqF_end {dd n : Nat} {xs ys : Array Value} {t' : TypeId} (h : (P.fieldsOf t').toList.length = n) (w : World) : (Op.eqFields dd xs ys ((P.fieldsOf t').toList.drop n)).run P w = .ok true w := by
  rw [← h, List.drop_length]; rfl
theorem eqF_str {dd : Nat} {a b : ByteArray} (h : P.underlying t = some .string) (w : World) : (Op.equalIn (dd + 1) t (.string a) (.string b)).run P w = .ok (decide (a = b)) w := by
  rw [run_equalIn_string w dd t a b h, beq_toList]
theorem eqF_int {dd : Nat} {k k' : IntKind} {a b : Int} (h : P.underlying t = some (.int k')) (w : World) : (Op.equalIn (dd + 1) t (.int k a) (.int k b)).run P w = .ok (a == b) w := run_equalIn_int w dd t k k' a b h
theorem eqF_bool {dd : Nat} {a b : Bool} (h : P.underlying t = some .bool) (w : World) : (Op.equalIn (dd + 1) t (.bool a) (.bool b)).run P w = .ok (a == b) w := run_equalIn_bool' w dd t a b h
theorem eqF_agg {dd : Nat} {xs ys : Array Value} {p : Bool} (ht : P.underlying t = some (.struct (P.fieldsOf t))) (hp : P.stoodInHeld t = false) (h : ∀ w, (Op.eqFields dd xs ys ((P.fieldsOf t).toList.drop 0)).run P w = .ok p w) (w : World) :
    (Op.equalIn (dd + 1) t (.agg xs) (.agg ys)).run P w = .ok p w := by
  rw [run_equalIn_agg w dd t xs ys ht hp]; simpa using h w
theorem bin_aggE {p q : Bool} {xs ys : Array Value} (hm : P.eqGuardType P.depth t = false) (hq : p = q) (h : ∀ w, (Op.equalIn 10000 t (.agg xs) (.agg ys)).run P w = .ok p w) (w : World) :
    (do eqGuard .eql t x y (.agg xs) (.agg ys); binOp .eql t (.agg xs) (.agg ys) : Sem Value).run P w = .ok (.bool q) w := by
  subst hq; exact bin_agg (.inl rfl) hm h w
theorem bin_aggN {p q : Bool} {xs ys : Array Value} (hm : P.eqGuardType P.depth t = false) (hq : p = q) (h : ∀ w, (Op.equalIn 10000 t (.agg xs) (.agg ys)).run P w = .ok p w) (w : World) :
    (do eqGuard .neq t x y (.agg xs) (.agg ys); binOp .neq t (.agg xs) (.agg ys) : Sem Value).run P w = .ok (.bool (!q)) w := by
  subst hq; exact bin_agg (.inr rfl) hm h w
/-! ### A store of several cells into an element -/
theorem setFrom_get : ∀ (vs l : List Value) (j i : Nat), j + vs.length ≤ l.length → (setFrom l j vs)[i]? = if i < j then l[i]? else if i < j + vs.length then vs[i - j]? else l[i]?
  | [], l, j, i, h => by simp [setFrom]; omega
  | v :: vs, l, j, i, h => by
    simp only [setFrom, List.length_cons] at h ⊢
    rw [setFrom_get vs (l.set j v) (j + 1) i (by simp; omega), List.getElem?_set]
    by_cases h1 : i < j
    · rw [if_pos (by omega), if_neg (by omega), if_pos h1]
    · rw [if_neg h1]
      by_cases h2 : i = j
      · subst h2
        rw [if_pos (by omega), if_pos rfl, if_pos (by omega), if_pos (by omega)]; simp
      · rw [if_neg (by omega)]
        by_cases h3 : i < j + (vs.length + 1)
        · rw [if_pos (by omega), if_pos h3]
          have : i - j = (i - (j + 1)) + 1 := by omega
          rw [this, List.getElem?_cons_succ]
        · rw [if_neg (by omega), if_neg h3, if_neg (by omega)]
theorem holds_storesVec {i : Nat} {q : α} (hz : ∀ x, (enc x).length = size) (hk : k < L.length) (hq : xs[i]? = some q) : ∀ (vs : List Value) (j : Nat) (f : Nat → α) (w : World), j + vs.length ≤ size → (∀ n, n < vs.length → enc (f (n + 1)) = (enc (f n)).set (j + n) (vs.getD n undef)) →
    Holds w0 K (L.set k (vec enc e size vv (xs.set i (f 0)))) w → Holds w0 K (L.set k (vec enc e size vv (xs.set i (f vs.length)))) (w.setCells (vblk vv) (i * size + j) vs)
  | [], j, f, w, hj, hf, h => h
  | v :: vs, j, f, w, hj, hf, h => by
    simp only [World.setCells, List.length_cons] at hj ⊢
    have hi : i < xs.length := (List.getElem?_eq_some_iff.1 hq).1
    have h0 := hf 0 (by simp)
    have hstep : Holds w0 K (L.set k (vec enc e size vv (xs.set i (f 1)))) (w.setCell ⟨vblk vv, i * size + j, none⟩ v) := by
      obtain ⟨C, hV, hs⟩ := h.focus (k := k) (A := vec enc e size vv (xs.set i (f 0))) (by simp [hk])
      have hne : xs.set i (f 0) ≠ [] := by intro h; have := congrArg List.length h; simp at this; simp [this] at hi
      have hV' := hV
      obtain ⟨cap, he⟩ := hV'.ptr hne
      have hx0 : (xs.set i (f 0))[i]? = some (f 0) := by simp [hi]
      rw [← List.set_set (a := f 0) (i := i), ← List.set_set (a := vec enc e size vv (xs.set i (f 0)))]
      refine hs _ C _ ((Ext.refl _ _).setCell ?_ _) ?_
      · obtain ⟨hR, rfl⟩ := hV'
        rw [he]; rfl
      · generalize hb : vblk vv = bb at *
        subst he
        obtain ⟨hR, hC⟩ := hV'
        exact ⟨(Rw.stored hz hR hx0 (by omega) (f 1) (by simpa using h0)).1, hC⟩
    have := holds_storesVec hz hk hq vs (j + 1) (fun n => f (n + 1)) _ (by omega) (fun n hn => by
      have := hf (n + 1) (by simpa using hn)
      rw [show j + 1 + n = j + (n + 1) by omega]; simpa using this) hstep
    simpa [Nat.add_assoc] using this
theorem TO.storesVec [WideF F] {i j off n : Nat} {q q' : α} {vs : List Value} (hT : SizeOk P t n) (hz : ∀ x, (enc x).length = size) (hg : gd ops σ g = some true) (hx : ev σ x = some (.pointer (some ⟨vblk vv, off, none⟩))) (hy : ev σ y = some (.agg vs.toArray)) (hk : L[k]? = some (vec enc e size vv xs))
    (hq : xs[i]? = some q) (ho : off = i * size + j) (hj : j + n ≤ size) (hn : vs.length = n) (h1 : vs.all (·.oneCell') = true) (f : Nat → α) (hf0 : f 0 = q) (hfn : f n = q') (hf : ∀ m, m < n → enc (f (m + 1)) = (enc (f m)).set (j + m) (vs.getD m undef))
    (h : TO F P w0 K N dfs ops Q rest σ (L.set k (vec enc e size vv (xs.set i q')))) : TO F P w0 K N dfs ops Q (⟨none, .store t x y, ty, pos, aft, g⟩ :: rest) σ L := by
  subst ho; subst hn; subst hfn
  have hlen : k < L.length := (List.getElem?_eq_some_iff.1 hk).1
  have hi : i < xs.length := (List.getElem?_eq_some_iff.1 hq).1
  refine TO.stepSkip hg (by simp) fun a w ha hw => ⟨w.setCells (vblk vv) (i * size + j) vs, ?_, h _ _ ha (holds_storesVec hz hlen hq vs j f w hj hf (by
    have e1 : xs.set i (f 0) = xs := by rw [hf0]; exact set_self hq
    rw [e1, set_self hk]; exact hw))⟩
  obtain ⟨C, hV, _⟩ := hw.focus hk
  have ht : w.there (vblk vv) (i * size + j) vs.toArray.size := fun m hm => by
    have hm' : m < vs.length := by simpa using hm
    have hl : j + m < size := by omega
    have hc := hV.cellAt hz hq hl (List.getElem?_eq_getElem (by rw [hz]; exact hl))
    rw [Nat.add_assoc]
    exact ⟨by rw [hc]; rfl, hV.frozenAt (by intro h; simp [h] at hi) _⟩
  simp only [execOp, ha.ev hx, ha.ev hy, Sem.run_bind, run_storeAt_mid w (vblk vv) (i * size + j) t vs.toArray ht (by simpa [SizeOk] using hT) (by simpa using h1)]; rfl
/-! ### Bytes as numbers -/
def ints (b : ByteArray) : List Int := b.data.toList.map (fun c => (c.toNat : Int))
def bytesOf (l : List Int) : ByteArray := ⟨(l.map (fun x => UInt8.ofNat x.toNat)).toArray⟩
theorem ints_length (b : ByteArray) : (ints b).length = b.size := by simp [ints]
theorem bytesOf_size (l : List Int) : (bytesOf l).size = l.length := by
  show ((l.map (fun x => UInt8.ofNat x.toNat)).toArray).size = _; simp
theorem bytesOf_ints (b : ByteArray) : bytesOf (ints b) = b := by
  apply ByteArray.ext
  simp [bytesOf, ints, Function.comp_def]
theorem ints_bytesOf {l : List Int} (h : ∀ x ∈ l, U8 x) : ints (bytesOf l) = l := by
  simp only [ints, bytesOf, List.map_map]
  conv => rhs; rw [← List.map_id l]
  refine List.map_congr_left fun x hx => ?_
  have := h x hx
  simp only [Function.comp, id, UInt8.toNat_ofNat']
  omega
theorem getO_ints {b : ByteArray} {i : Int} : getO (ints b) i = getB b i := by
  unfold getO getB ints; split <;> simp
theorem byt_vec {v : Value} {b : ByteArray} : byt e v b = vec (encI .u8) e 1 v (ints b) := by
  have h1 : strCells b = (ints b).flatMap (encI .u8) := by
    simp only [strCells, ints, encI, List.flatMap_map]
    generalize b.data.toList = l
    induction l with
    | nil => rfl
    | cons c l ih => rw [List.map_cons, ih, List.flatMap_cons]; rfl
  have : ∀ C w, Byt e v b C w ↔ Vec (encI .u8) e 1 v (ints b) C w := fun C w => by
    unfold Byt Vec Rw; rw [ints_length, h1]
  unfold byt vec
  congr 1
  funext C w
  exact propext (this C w)
theorem vec_byt {v : Value} {l : List Int} (h : ∀ x ∈ l, U8 x) : vec (encI .u8) e 1 v l = byt e v (bytesOf l) := by rw [byt_vec, ints_bytesOf h]
theorem makeCells_flat {zv : Value} {enc : α → List Value} {z : α} (hz : zv.cells.toList = enc z) (h0 : zv.cells.size = size) (hp : 0 < size) : ∀ n : Nat, (madeCells zv.cells (n * size)).toList = (List.replicate n z).flatMap enc := by
  have hl : (enc z).length = size := by rw [← hz]; simpa using h0
  intro n
  apply List.ext_getElem?
  intro i
  have hfl : ∀ m, ((List.replicate m z).flatMap enc).length = m * size := fun m => by
    induction m with
    | zero => simp
    | succ m ih => rw [List.replicate_succ, List.flatMap_cons, List.length_append, ih, hl, Nat.add_mul, Nat.one_mul, Nat.add_comm]
  by_cases hi : i < n * size
  · have e1 : ((List.replicate n z).flatMap enc)[i]? = (enc z)[i % size]? := by
      clear h0
      induction n generalizing i with
      | zero => simp at hi
      | succ n ih =>
        rw [List.replicate_succ, List.flatMap_cons]
        by_cases h : i < size
        · rw [List.getElem?_append_left (by omega), Nat.mod_eq_of_lt h]
        · rw [List.getElem?_append_right (by omega), hl, ih (i - size) (by rw [Nat.add_mul] at hi; omega), ← Nat.mod_eq_sub_mod (by omega)]
    rw [e1, ← hz]
    have hm : i % size < zv.cells.size := by rw [h0]; exact Nat.mod_lt _ hp
    simp [madeCells, hi, h0, Array.getElem?_eq_getElem hm]
    rw [getElem!_pos _ _ (by rw [← h0] at hm ⊢; exact hm)]
  · rw [List.getElem?_eq_none (by simp [size_madeCells]; omega), List.getElem?_eq_none (by rw [hfl]; omega)]
/-- 'make([]T, n)'. -/
theorem TO.makeVec [WideF F] {sl : Operand} {tt : TypeId} {z : α} {n : Int} (ht : P.underlying tt = some (.slice e)) (hE : ElemOk P e size) (hZ : ZeroOk P e (enc z)) (hlen : ∀ x, (enc x).length = size) (hg : gd ops σ g = some true) (hd : d < N) (hs : ev σ sl = some (.int .i64 n))
    (hn : 0 ≤ n ∧ n ≤ 2147483648)
    (h : ∀ v', TO F P w0 K N dfs ops Q rest ((d, v') :: σ) (L ++ [vec enc e size v' (List.replicate n.toNat z)])) :
    TO F P w0 K N dfs ops Q (⟨some d, .makeSlice tt sl sl, ty, pos, aft, g⟩ :: rest) σ L := by
  obtain ⟨i, zv, hi, hz0, hsize, hzs, hsz, hbytes⟩ := hE
  obtain ⟨i', z', hi', hz', hzc⟩ := hZ.some
  rw [hi] at hi'; cases hi'
  rw [hz0] at hz'; cases hz'
  refine TO.step hg (by simp) fun a w ha hw => ?_
  have hb : (i.bytes : Int) * n ≤ 281474976710656 := by
    have h1 : (i.bytes : Int) ≤ 65536 := by omega
    calc (i.bytes : Int) * n ≤ 65536 * 2147483648 := Int.mul_le_mul h1 hn.2 hn.1 (by omega)
      _ ≤ _ := by omega
  have hr := run_make (P := P) w tt e i zv ht hi hz0 .i64 .i64 n n hn.1 (Int.le_refl _) hb (by omega)
  refine ⟨_, _, by simp only [execOp, ha.ev hs, Sem.run_bind, hr]; rfl, h _ _ _ (ha.put hd _) ?_⟩
  have h2 := hw.alloc (.cells (madeCells zv.cells (n.toNat * i.size)) e (0, 0))
  have h3 : (Go.Proofs.Ytgeefojgkbglnaa.obj w.heap.size (.cells (madeCells zv.cells (n.toNat * i.size)) e (0, 0))) = cells w.heap.size ((List.replicate n.toNat z).flatMap enc) e := by
    unfold cells
    rw [← makeCells_flat hzc hzs hsz, hsize]
  rw [h3] at h2
  have h4 := h2.toVec (k := L.length) (size := size) (List.replicate n.toNat z) (b := w.heap.size) (e := e) (by simp) hlen rfl (by simp [maxLen]; omega)
  simpa using h4
theorem TC.starCons {j : Nat} {X : List Asn} (hk : L[k]? = some A) (hj : L[j]? = some (star X)) (hne : k ≠ j) (h : TC F P w0 K N dfs Q c σ ((L.set k emp).set j (star (A :: X)))) : TC F P w0 K N dfs Q c σ L := fun a w ha hw => h a w ha (hw.starCons hk hj hne)
theorem TO.bySplit {b : Bool} (ht : b = true → TO F P w0 K N dfs ops Q rest σ L) (hf : b = false → TO F P w0 K N dfs ops Q rest σ L) : TO F P w0 K N dfs ops Q rest σ L := by
  cases b with
  | true => exact ht rfl
  | false => exact hf rfl
theorem snoc_post {xs pre post post2 : List α} {x : α} (h : xs = pre ++ x :: post) (h2 : xs = pre ++ [x] ++ post2) : post = post2 := by
  rw [h, List.append_assoc] at h2
  have := List.append_cancel_left h2
  simpa using this
end
end Go.Proofs.Ytgeefojgkbglnaa
namespace Go.Proofs.Ytgeefojgkbglnaa
open Go.RowKit Go.Lib Go.Shelf
theorem sc_1 : ScalarOk Try.prog 1 := ⟨_, Try.underlying1, rfl⟩
theorem sz_1 : SizeOk Try.prog 1 1 := by unfold SizeOk; as_aux_lemma => kernel_rfl
theorem zr_1 : ZeroOk Try.prog 1 [.nilFunc] := by unfold ZeroOk; as_aux_lemma => kernel_rfl
theorem el_1 : ElemOk Try.prog 1 1 := ElemOk.mk' (by as_aux_lemma => kernel_rfl)
theorem sc_2 : ScalarOk Try.prog 2 := ⟨_, Try.underlying2, rfl⟩
theorem sz_2 : SizeOk Try.prog 2 1 := by unfold SizeOk; as_aux_lemma => kernel_rfl
theorem zr_2 : ZeroOk Try.prog 2 [.int .i64 0] := by unfold ZeroOk; as_aux_lemma => kernel_rfl
theorem el_2 : ElemOk Try.prog 2 1 := ElemOk.mk' (by as_aux_lemma => kernel_rfl)
theorem sc_3 : ScalarOk Try.prog 3 := ⟨_, Try.underlying3, rfl⟩
theorem sz_3 : SizeOk Try.prog 3 1 := by unfold SizeOk; as_aux_lemma => kernel_rfl
theorem zr_3 : ZeroOk Try.prog 3 [.int .i64 0] := by unfold ZeroOk; as_aux_lemma => kernel_rfl
theorem el_3 : ElemOk Try.prog 3 1 := ElemOk.mk' (by as_aux_lemma => kernel_rfl)
theorem sc_4 : ScalarOk Try.prog 4 := ⟨_, Try.underlying4, rfl⟩
theorem sz_4 : SizeOk Try.prog 4 1 := by unfold SizeOk; as_aux_lemma => kernel_rfl
theorem zr_4 : ZeroOk Try.prog 4 [.bool false] := by unfold ZeroOk; as_aux_lemma => kernel_rfl
theorem el_4 : ElemOk Try.prog 4 1 := ElemOk.mk' (by as_aux_lemma => kernel_rfl)
theorem sc_5 : ScalarOk Try.prog 5 := ⟨_, Try.underlying5, rfl⟩
theorem sz_5 : SizeOk Try.prog 5 1 := by unfold SizeOk; as_aux_lemma => kernel_rfl
theorem zr_5 : ZeroOk Try.prog 5 [.int .u8 0] := by unfold ZeroOk; as_aux_lemma => kernel_rfl
theorem el_5 : ElemOk Try.prog 5 1 := ElemOk.mk' (by as_aux_lemma => kernel_rfl)
theorem by_5 : ByteOk Try.prog 5 := ByteOk.mk' (by as_aux_lemma => kernel_rfl)
theorem sc_6 : ScalarOk Try.prog 6 := ⟨_, Try.underlying6, rfl⟩
theorem sz_6 : SizeOk Try.prog 6 1 := by unfold SizeOk; as_aux_lemma => kernel_rfl
theorem zr_6 : ZeroOk Try.prog 6 [.int .u8 0] := by unfold ZeroOk; as_aux_lemma => kernel_rfl
theorem el_6 : ElemOk Try.prog 6 1 := ElemOk.mk' (by as_aux_lemma => kernel_rfl)
theorem by_6 : ByteOk Try.prog 6 := ByteOk.mk' (by as_aux_lemma => kernel_rfl)
theorem rw_7 : RowOk Try.prog 7 4 := ⟨_, Try.underlying7, rfl, by as_aux_lemma => kernel_rfl⟩
theorem fl_7_0 : FieldOk Try.prog 7 0 0 := ⟨_, _, Try.underlying7, rfl, rfl, by as_aux_lemma => kernel_rfl⟩
theorem fl_7_1 : FieldOk Try.prog 7 1 1 := ⟨_, _, Try.underlying7, rfl, rfl, by as_aux_lemma => kernel_rfl⟩
theorem fl_7_2 : FieldOk Try.prog 7 2 2 := ⟨_, _, Try.underlying7, rfl, rfl, by as_aux_lemma => kernel_rfl⟩
theorem fl_7_3 : FieldOk Try.prog 7 3 3 := ⟨_, _, Try.underlying7, rfl, rfl, by as_aux_lemma => kernel_rfl⟩
theorem sz_7 : SizeOk Try.prog 7 4 := by unfold SizeOk; as_aux_lemma => kernel_rfl
theorem zr_7 : ZeroOk Try.prog 7 [.int .i64 0, .int .i64 0, .bool false, .int .u8 0] := by unfold ZeroOk; as_aux_lemma => kernel_rfl
theorem el_7 : ElemOk Try.prog 7 4 := ElemOk.mk' (by as_aux_lemma => kernel_rfl)
theorem rw_8 : RowOk Try.prog 8 4 := ⟨_, Try.underlying8, rfl, by as_aux_lemma => kernel_rfl⟩
theorem fl_8_0 : FieldOk Try.prog 8 0 0 := ⟨_, _, Try.underlying8, rfl, rfl, by as_aux_lemma => kernel_rfl⟩
theorem fl_8_1 : FieldOk Try.prog 8 1 1 := ⟨_, _, Try.underlying8, rfl, rfl, by as_aux_lemma => kernel_rfl⟩
theorem fl_8_2 : FieldOk Try.prog 8 2 2 := ⟨_, _, Try.underlying8, rfl, rfl, by as_aux_lemma => kernel_rfl⟩
theorem fl_8_3 : FieldOk Try.prog 8 3 3 := ⟨_, _, Try.underlying8, rfl, rfl, by as_aux_lemma => kernel_rfl⟩
theorem sz_8 : SizeOk Try.prog 8 4 := by unfold SizeOk; as_aux_lemma => kernel_rfl
theorem zr_8 : ZeroOk Try.prog 8 [.int .i64 0, .int .i64 0, .bool false, .int .u8 0] := by unfold ZeroOk; as_aux_lemma => kernel_rfl
theorem el_8 : ElemOk Try.prog 8 4 := ElemOk.mk' (by as_aux_lemma => kernel_rfl)
theorem sc_9 : ScalarOk Try.prog 9 := ⟨_, Try.underlying9, rfl⟩
theorem sz_9 : SizeOk Try.prog 9 1 := by unfold SizeOk; as_aux_lemma => kernel_rfl
theorem zr_9 : ZeroOk Try.prog 9 [.string ByteArray.empty] := by unfold ZeroOk; as_aux_lemma => kernel_rfl
theorem el_9 : ElemOk Try.prog 9 1 := ElemOk.mk' (by as_aux_lemma => kernel_rfl)
theorem sc_10 : ScalarOk Try.prog 10 := ⟨_, Try.underlying10, rfl⟩
theorem sz_10 : SizeOk Try.prog 10 1 := by unfold SizeOk; as_aux_lemma => kernel_rfl
theorem zr_10 : ZeroOk Try.prog 10 [.string ByteArray.empty] := by unfold ZeroOk; as_aux_lemma => kernel_rfl
theorem el_10 : ElemOk Try.prog 10 1 := ElemOk.mk' (by as_aux_lemma => kernel_rfl)
theorem sc_11 : ScalarOk Try.prog 11 := ⟨_, Try.underlying11, rfl⟩
theorem sz_11 : SizeOk Try.prog 11 1 := by unfold SizeOk; as_aux_lemma => kernel_rfl
theorem zr_11 : ZeroOk Try.prog 11 [.string ByteArray.empty] := by unfold ZeroOk; as_aux_lemma => kernel_rfl
theorem el_11 : ElemOk Try.prog 11 1 := ElemOk.mk' (by as_aux_lemma => kernel_rfl)
theorem sc_12 : ScalarOk Try.prog 12 := ⟨_, Try.underlying12, rfl⟩
theorem sz_12 : SizeOk Try.prog 12 1 := by unfold SizeOk; as_aux_lemma => kernel_rfl
theorem zr_12 : ZeroOk Try.prog 12 [.int .u64 0] := by unfold ZeroOk; as_aux_lemma => kernel_rfl
theorem el_12 : ElemOk Try.prog 12 1 := ElemOk.mk' (by as_aux_lemma => kernel_rfl)
theorem rw_13 : RowOk Try.prog 13 2 := ⟨_, Try.underlying13, rfl, by as_aux_lemma => kernel_rfl⟩
theorem fl_13_0 : FieldOk Try.prog 13 0 0 := ⟨_, _, Try.underlying13, rfl, rfl, by as_aux_lemma => kernel_rfl⟩
theorem fl_13_1 : FieldOk Try.prog 13 1 1 := ⟨_, _, Try.underlying13, rfl, rfl, by as_aux_lemma => kernel_rfl⟩
theorem sz_13 : SizeOk Try.prog 13 2 := by unfold SizeOk; as_aux_lemma => kernel_rfl
theorem zr_13 : ZeroOk Try.prog 13 [.string ByteArray.empty, .int .u64 0] := by unfold ZeroOk; as_aux_lemma => kernel_rfl
theorem el_13 : ElemOk Try.prog 13 2 := ElemOk.mk' (by as_aux_lemma => kernel_rfl)
theorem rw_14 : RowOk Try.prog 14 2 := ⟨_, Try.underlying14, rfl, by as_aux_lemma => kernel_rfl⟩
theorem fl_14_0 : FieldOk Try.prog 14 0 0 := ⟨_, _, Try.underlying14, rfl, rfl, by as_aux_lemma => kernel_rfl⟩
theorem fl_14_1 : FieldOk Try.prog 14 1 1 := ⟨_, _, Try.underlying14, rfl, rfl, by as_aux_lemma => kernel_rfl⟩
theorem sz_14 : SizeOk Try.prog 14 2 := by unfold SizeOk; as_aux_lemma => kernel_rfl
theorem zr_14 : ZeroOk Try.prog 14 [.string ByteArray.empty, .int .u64 0] := by unfold ZeroOk; as_aux_lemma => kernel_rfl
theorem el_14 : ElemOk Try.prog 14 2 := ElemOk.mk' (by as_aux_lemma => kernel_rfl)
theorem sc_15 : ScalarOk Try.prog 15 := ⟨_, Try.underlying15, rfl⟩
theorem sz_15 : SizeOk Try.prog 15 1 := by unfold SizeOk; as_aux_lemma => kernel_rfl
theorem zr_15 : ZeroOk Try.prog 15 [.pointer none] := by unfold ZeroOk; as_aux_lemma => kernel_rfl
theorem el_15 : ElemOk Try.prog 15 1 := ElemOk.mk' (by as_aux_lemma => kernel_rfl)
theorem sc_16 : ScalarOk Try.prog 16 := ⟨_, Try.underlying16, rfl⟩
theorem sz_16 : SizeOk Try.prog 16 1 := by unfold SizeOk; as_aux_lemma => kernel_rfl
theorem zr_16 : ZeroOk Try.prog 16 [.pointer none] := by unfold ZeroOk; as_aux_lemma => kernel_rfl
theorem el_16 : ElemOk Try.prog 16 1 := ElemOk.mk' (by as_aux_lemma => kernel_rfl)
theorem sc_17 : ScalarOk Try.prog 17 := ⟨_, Try.underlying17, rfl⟩
theorem sz_17 : SizeOk Try.prog 17 1 := by unfold SizeOk; as_aux_lemma => kernel_rfl
theorem zr_17 : ZeroOk Try.prog 17 [.pointer none] := by unfold ZeroOk; as_aux_lemma => kernel_rfl
theorem el_17 : ElemOk Try.prog 17 1 := ElemOk.mk' (by as_aux_lemma => kernel_rfl)
theorem rw_18 : RowOk Try.prog 18 1 := ⟨_, Try.underlying18, rfl, by as_aux_lemma => kernel_rfl⟩
theorem fl_18_0 : FieldOk Try.prog 18 0 0 := ⟨_, _, Try.underlying18, rfl, rfl, by as_aux_lemma => kernel_rfl⟩
theorem sz_18 : SizeOk Try.prog 18 1 := by unfold SizeOk; as_aux_lemma => kernel_rfl
theorem zr_18 : ZeroOk Try.prog 18 [.pointer none] := by unfold ZeroOk; as_aux_lemma => kernel_rfl
theorem el_18 : ElemOk Try.prog 18 1 := ElemOk.mk' (by as_aux_lemma => kernel_rfl)
theorem rw_19 : RowOk Try.prog 19 1 := ⟨_, Try.underlying19, rfl, by as_aux_lemma => kernel_rfl⟩
theorem fl_19_0 : FieldOk Try.prog 19 0 0 := ⟨_, _, Try.underlying19, rfl, rfl, by as_aux_lemma => kernel_rfl⟩
theorem sz_19 : SizeOk Try.prog 19 1 := by unfold SizeOk; as_aux_lemma => kernel_rfl
theorem zr_19 : ZeroOk Try.prog 19 [.pointer none] := by unfold ZeroOk; as_aux_lemma => kernel_rfl
theorem el_19 : ElemOk Try.prog 19 1 := ElemOk.mk' (by as_aux_lemma => kernel_rfl)
theorem sc_21 : ScalarOk Try.prog 21 := ⟨_, Try.underlying21, rfl⟩
theorem sz_21 : SizeOk Try.prog 21 1 := by unfold SizeOk; as_aux_lemma => kernel_rfl
theorem zr_21 : ZeroOk Try.prog 21 [.int .i32 0] := by unfold ZeroOk; as_aux_lemma => kernel_rfl
theorem el_21 : ElemOk Try.prog 21 1 := ElemOk.mk' (by as_aux_lemma => kernel_rfl)
theorem sc_22 : ScalarOk Try.prog 22 := ⟨_, Try.underlying22, rfl⟩
theorem sz_22 : SizeOk Try.prog 22 1 := by unfold SizeOk; as_aux_lemma => kernel_rfl
theorem zr_22 : ZeroOk Try.prog 22 [.nilFunc] := by unfold ZeroOk; as_aux_lemma => kernel_rfl
theorem el_22 : ElemOk Try.prog 22 1 := ElemOk.mk' (by as_aux_lemma => kernel_rfl)
theorem sc_23 : ScalarOk Try.prog 23 := ⟨_, Try.underlying23, rfl⟩
theorem sz_23 : SizeOk Try.prog 23 1 := by unfold SizeOk; as_aux_lemma => kernel_rfl
theorem zr_23 : ZeroOk Try.prog 23 [.slice none 0 0] := by unfold ZeroOk; as_aux_lemma => kernel_rfl
theorem el_23 : ElemOk Try.prog 23 1 := ElemOk.mk' (by as_aux_lemma => kernel_rfl)
theorem sc_24 : ScalarOk Try.prog 24 := ⟨_, Try.underlying24, rfl⟩
theorem sz_24 : SizeOk Try.prog 24 1 := by unfold SizeOk; as_aux_lemma => kernel_rfl
theorem zr_24 : ZeroOk Try.prog 24 [.nilFunc] := by unfold ZeroOk; as_aux_lemma => kernel_rfl
theorem el_24 : ElemOk Try.prog 24 1 := ElemOk.mk' (by as_aux_lemma => kernel_rfl)
theorem sc_25 : ScalarOk Try.prog 25 := ⟨_, Try.underlying25, rfl⟩
theorem sz_25 : SizeOk Try.prog 25 1 := by unfold SizeOk; as_aux_lemma => kernel_rfl
theorem zr_25 : ZeroOk Try.prog 25 [.slice none 0 0] := by unfold ZeroOk; as_aux_lemma => kernel_rfl
theorem el_25 : ElemOk Try.prog 25 1 := ElemOk.mk' (by as_aux_lemma => kernel_rfl)
theorem sc_26 : ScalarOk Try.prog 26 := ⟨_, Try.underlying26, rfl⟩
theorem sz_26 : SizeOk Try.prog 26 1 := by unfold SizeOk; as_aux_lemma => kernel_rfl
theorem zr_26 : ZeroOk Try.prog 26 [.nilFunc] := by unfold ZeroOk; as_aux_lemma => kernel_rfl
theorem el_26 : ElemOk Try.prog 26 1 := ElemOk.mk' (by as_aux_lemma => kernel_rfl)
theorem sc_27 : ScalarOk Try.prog 27 := ⟨_, Try.underlying27, rfl⟩
theorem sz_27 : SizeOk Try.prog 27 1 := by unfold SizeOk; as_aux_lemma => kernel_rfl
theorem zr_27 : ZeroOk Try.prog 27 [.nilFunc] := by unfold ZeroOk; as_aux_lemma => kernel_rfl
theorem el_27 : ElemOk Try.prog 27 1 := ElemOk.mk' (by as_aux_lemma => kernel_rfl)
theorem sc_28 : ScalarOk Try.prog 28 := ⟨_, Try.underlying28, rfl⟩
theorem sz_28 : SizeOk Try.prog 28 1 := by unfold SizeOk; as_aux_lemma => kernel_rfl
theorem zr_28 : ZeroOk Try.prog 28 [.nilFunc] := by unfold ZeroOk; as_aux_lemma => kernel_rfl
theorem el_28 : ElemOk Try.prog 28 1 := ElemOk.mk' (by as_aux_lemma => kernel_rfl)
theorem sc_29 : ScalarOk Try.prog 29 := ⟨_, Try.underlying29, rfl⟩
theorem sz_29 : SizeOk Try.prog 29 1 := by unfold SizeOk; as_aux_lemma => kernel_rfl
theorem zr_29 : ZeroOk Try.prog 29 [.nilFunc] := by unfold ZeroOk; as_aux_lemma => kernel_rfl
theorem el_29 : ElemOk Try.prog 29 1 := ElemOk.mk' (by as_aux_lemma => kernel_rfl)
theorem sc_30 : ScalarOk Try.prog 30 := ⟨_, Try.underlying30, rfl⟩
theorem sz_30 : SizeOk Try.prog 30 1 := by unfold SizeOk; as_aux_lemma => kernel_rfl
theorem zr_30 : ZeroOk Try.prog 30 [.nilFunc] := by unfold ZeroOk; as_aux_lemma => kernel_rfl
theorem el_30 : ElemOk Try.prog 30 1 := ElemOk.mk' (by as_aux_lemma => kernel_rfl)
theorem sc_31 : ScalarOk Try.prog 31 := ⟨_, Try.underlying31, rfl⟩
theorem sz_31 : SizeOk Try.prog 31 1 := by unfold SizeOk; as_aux_lemma => kernel_rfl
theorem zr_31 : ZeroOk Try.prog 31 [.nilFunc] := by unfold ZeroOk; as_aux_lemma => kernel_rfl
theorem el_31 : ElemOk Try.prog 31 1 := ElemOk.mk' (by as_aux_lemma => kernel_rfl)
theorem sc_32 : ScalarOk Try.prog 32 := ⟨_, Try.underlying32, rfl⟩
theorem sz_32 : SizeOk Try.prog 32 1 := by unfold SizeOk; as_aux_lemma => kernel_rfl
theorem zr_32 : ZeroOk Try.prog 32 [.nilFunc] := by unfold ZeroOk; as_aux_lemma => kernel_rfl
theorem el_32 : ElemOk Try.prog 32 1 := ElemOk.mk' (by as_aux_lemma => kernel_rfl)
theorem rw_33 : RowOk Try.prog 33 2 := ⟨_, Try.underlying33, rfl, by as_aux_lemma => kernel_rfl⟩
theorem fl_33_0 : FieldOk Try.prog 33 0 0 := ⟨_, _, Try.underlying33, rfl, rfl, by as_aux_lemma => kernel_rfl⟩
theorem fl_33_1 : FieldOk Try.prog 33 1 1 := ⟨_, _, Try.underlying33, rfl, rfl, by as_aux_lemma => kernel_rfl⟩
theorem sz_33 : SizeOk Try.prog 33 2 := by unfold SizeOk; as_aux_lemma => kernel_rfl
theorem zr_33 : ZeroOk Try.prog 33 [.int .i64 0, .int .i64 0] := by unfold ZeroOk; as_aux_lemma => kernel_rfl
theorem el_33 : ElemOk Try.prog 33 2 := ElemOk.mk' (by as_aux_lemma => kernel_rfl)
theorem rw_34 : RowOk Try.prog 34 2 := ⟨_, Try.underlying34, rfl, by as_aux_lemma => kernel_rfl⟩
theorem fl_34_0 : FieldOk Try.prog 34 0 0 := ⟨_, _, Try.underlying34, rfl, rfl, by as_aux_lemma => kernel_rfl⟩
theorem fl_34_1 : FieldOk Try.prog 34 1 1 := ⟨_, _, Try.underlying34, rfl, rfl, by as_aux_lemma => kernel_rfl⟩
theorem sz_34 : SizeOk Try.prog 34 2 := by unfold SizeOk; as_aux_lemma => kernel_rfl
theorem zr_34 : ZeroOk Try.prog 34 [.int .i64 0, .int .i64 0] := by unfold ZeroOk; as_aux_lemma => kernel_rfl
theorem el_34 : ElemOk Try.prog 34 2 := ElemOk.mk' (by as_aux_lemma => kernel_rfl)
theorem rw_35 : RowOk Try.prog 35 3 := ⟨_, Try.underlying35, rfl, by as_aux_lemma => kernel_rfl⟩
theorem fl_35_0 : FieldOk Try.prog 35 0 0 := ⟨_, _, Try.underlying35, rfl, rfl, by as_aux_lemma => kernel_rfl⟩
theorem fl_35_1 : FieldOk Try.prog 35 1 1 := ⟨_, _, Try.underlying35, rfl, rfl, by as_aux_lemma => kernel_rfl⟩
theorem sz_35 : SizeOk Try.prog 35 3 := by unfold SizeOk; as_aux_lemma => kernel_rfl
theorem zr_35 : ZeroOk Try.prog 35 [.int .i64 0, .int .i64 0, .int .i64 0] := by unfold ZeroOk; as_aux_lemma => kernel_rfl
theorem el_35 : ElemOk Try.prog 35 3 := ElemOk.mk' (by as_aux_lemma => kernel_rfl)
theorem rw_36 : RowOk Try.prog 36 3 := ⟨_, Try.underlying36, rfl, by as_aux_lemma => kernel_rfl⟩
theorem fl_36_0 : FieldOk Try.prog 36 0 0 := ⟨_, _, Try.underlying36, rfl, rfl, by as_aux_lemma => kernel_rfl⟩
theorem fl_36_1 : FieldOk Try.prog 36 1 1 := ⟨_, _, Try.underlying36, rfl, rfl, by as_aux_lemma => kernel_rfl⟩
theorem sz_36 : SizeOk Try.prog 36 3 := by unfold SizeOk; as_aux_lemma => kernel_rfl
theorem zr_36 : ZeroOk Try.prog 36 [.int .i64 0, .int .i64 0, .int .i64 0] := by unfold ZeroOk; as_aux_lemma => kernel_rfl
theorem el_36 : ElemOk Try.prog 36 3 := ElemOk.mk' (by as_aux_lemma => kernel_rfl)
theorem sc_38 : ScalarOk Try.prog 38 := ⟨_, Try.underlying38, rfl⟩
theorem sz_38 : SizeOk Try.prog 38 1 := by unfold SizeOk; as_aux_lemma => kernel_rfl
theorem zr_38 : ZeroOk Try.prog 38 [.nilFunc] := by unfold ZeroOk; as_aux_lemma => kernel_rfl
theorem el_38 : ElemOk Try.prog 38 1 := ElemOk.mk' (by as_aux_lemma => kernel_rfl)
theorem sc_39 : ScalarOk Try.prog 39 := ⟨_, Try.underlying39, rfl⟩
theorem sz_39 : SizeOk Try.prog 39 1 := by unfold SizeOk; as_aux_lemma => kernel_rfl
theorem zr_39 : ZeroOk Try.prog 39 [.nilFunc] := by unfold ZeroOk; as_aux_lemma => kernel_rfl
theorem el_39 : ElemOk Try.prog 39 1 := ElemOk.mk' (by as_aux_lemma => kernel_rfl)
theorem sc_40 : ScalarOk Try.prog 40 := ⟨_, Try.underlying40, rfl⟩
theorem sz_40 : SizeOk Try.prog 40 1 := by unfold SizeOk; as_aux_lemma => kernel_rfl
theorem zr_40 : ZeroOk Try.prog 40 [.nilFunc] := by unfold ZeroOk; as_aux_lemma => kernel_rfl
theorem el_40 : ElemOk Try.prog 40 1 := ElemOk.mk' (by as_aux_lemma => kernel_rfl)
theorem sc_41 : ScalarOk Try.prog 41 := ⟨_, Try.underlying41, rfl⟩
theorem sz_41 : SizeOk Try.prog 41 1 := by unfold SizeOk; as_aux_lemma => kernel_rfl
theorem zr_41 : ZeroOk Try.prog 41 [.int .i64 0] := by unfold ZeroOk; as_aux_lemma => kernel_rfl
theorem el_41 : ElemOk Try.prog 41 1 := ElemOk.mk' (by as_aux_lemma => kernel_rfl)
theorem sc_43 : ScalarOk Try.prog 43 := ⟨_, Try.underlying43, rfl⟩
theorem sz_43 : SizeOk Try.prog 43 1 := by unfold SizeOk; as_aux_lemma => kernel_rfl
theorem zr_43 : ZeroOk Try.prog 43 [.nilFunc] := by unfold ZeroOk; as_aux_lemma => kernel_rfl
theorem el_43 : ElemOk Try.prog 43 1 := ElemOk.mk' (by as_aux_lemma => kernel_rfl)
theorem sc_44 : ScalarOk Try.prog 44 := ⟨_, Try.underlying44, rfl⟩
theorem sz_44 : SizeOk Try.prog 44 1 := by unfold SizeOk; as_aux_lemma => kernel_rfl
theorem zr_44 : ZeroOk Try.prog 44 [.nilFunc] := by unfold ZeroOk; as_aux_lemma => kernel_rfl
theorem el_44 : ElemOk Try.prog 44 1 := ElemOk.mk' (by as_aux_lemma => kernel_rfl)
theorem sc_45 : ScalarOk Try.prog 45 := ⟨_, Try.underlying45, rfl⟩
theorem sz_45 : SizeOk Try.prog 45 1 := by unfold SizeOk; as_aux_lemma => kernel_rfl
theorem zr_45 : ZeroOk Try.prog 45 [.int .u64 0] := by unfold ZeroOk; as_aux_lemma => kernel_rfl
theorem el_45 : ElemOk Try.prog 45 1 := ElemOk.mk' (by as_aux_lemma => kernel_rfl)
theorem sc_47 : ScalarOk Try.prog 47 := ⟨_, Try.underlying47, rfl⟩
theorem sz_47 : SizeOk Try.prog 47 1 := by unfold SizeOk; as_aux_lemma => kernel_rfl
theorem zr_47 : ZeroOk Try.prog 47 [.nilFunc] := by unfold ZeroOk; as_aux_lemma => kernel_rfl
theorem el_47 : ElemOk Try.prog 47 1 := ElemOk.mk' (by as_aux_lemma => kernel_rfl)
theorem rw_48 : RowOk Try.prog 48 3 := ⟨_, Try.underlying48, rfl, by as_aux_lemma => kernel_rfl⟩
theorem sz_48 : SizeOk Try.prog 48 3 := by unfold SizeOk; as_aux_lemma => kernel_rfl
theorem zr_48 : ZeroOk Try.prog 48 [.int .i64 0, .int .i64 0, .int .i64 0] := by unfold ZeroOk; as_aux_lemma => kernel_rfl
theorem el_48 : ElemOk Try.prog 48 3 := ElemOk.mk' (by as_aux_lemma => kernel_rfl)
theorem sc_50 : ScalarOk Try.prog 50 := ⟨_, Try.underlying50, rfl⟩
theorem sz_50 : SizeOk Try.prog 50 1 := by unfold SizeOk; as_aux_lemma => kernel_rfl
theorem zr_50 : ZeroOk Try.prog 50 [.nilFunc] := by unfold ZeroOk; as_aux_lemma => kernel_rfl
theorem el_50 : ElemOk Try.prog 50 1 := ElemOk.mk' (by as_aux_lemma => kernel_rfl)
theorem sc_52 : ScalarOk Try.prog 52 := ⟨_, Try.underlying52, rfl⟩
theorem sz_52 : SizeOk Try.prog 52 1 := by unfold SizeOk; as_aux_lemma => kernel_rfl
theorem zr_52 : ZeroOk Try.prog 52 [.nilFunc] := by unfold ZeroOk; as_aux_lemma => kernel_rfl
theorem el_52 : ElemOk Try.prog 52 1 := ElemOk.mk' (by as_aux_lemma => kernel_rfl)
theorem sc_53 : ScalarOk Try.prog 53 := ⟨_, Try.underlying53, rfl⟩
theorem sz_53 : SizeOk Try.prog 53 1 := by unfold SizeOk; as_aux_lemma => kernel_rfl
theorem zr_53 : ZeroOk Try.prog 53 [.nilFunc] := by unfold ZeroOk; as_aux_lemma => kernel_rfl
theorem el_53 : ElemOk Try.prog 53 1 := ElemOk.mk' (by as_aux_lemma => kernel_rfl)
theorem sc_54 : ScalarOk Try.prog 54 := ⟨_, Try.underlying54, rfl⟩
theorem sz_54 : SizeOk Try.prog 54 1 := by unfold SizeOk; as_aux_lemma => kernel_rfl
theorem zr_54 : ZeroOk Try.prog 54 [.nilFunc] := by unfold ZeroOk; as_aux_lemma => kernel_rfl
theorem el_54 : ElemOk Try.prog 54 1 := ElemOk.mk' (by as_aux_lemma => kernel_rfl)
theorem sc_55 : ScalarOk Try.prog 55 := ⟨_, Try.underlying55, rfl⟩
theorem sz_55 : SizeOk Try.prog 55 1 := by unfold SizeOk; as_aux_lemma => kernel_rfl
theorem zr_55 : ZeroOk Try.prog 55 [.slice none 0 0] := by unfold ZeroOk; as_aux_lemma => kernel_rfl
theorem el_55 : ElemOk Try.prog 55 1 := ElemOk.mk' (by as_aux_lemma => kernel_rfl)
theorem sc_56 : ScalarOk Try.prog 56 := ⟨_, Try.underlying56, rfl⟩
theorem sz_56 : SizeOk Try.prog 56 1 := by unfold SizeOk; as_aux_lemma => kernel_rfl
theorem zr_56 : ZeroOk Try.prog 56 [.int .i64 0] := by unfold ZeroOk; as_aux_lemma => kernel_rfl
theorem el_56 : ElemOk Try.prog 56 1 := ElemOk.mk' (by as_aux_lemma => kernel_rfl)
theorem sc_57 : ScalarOk Try.prog 57 := ⟨_, Try.underlying57, rfl⟩
theorem sz_57 : SizeOk Try.prog 57 1 := by unfold SizeOk; as_aux_lemma => kernel_rfl
theorem zr_57 : ZeroOk Try.prog 57 [.nilFunc] := by unfold ZeroOk; as_aux_lemma => kernel_rfl
theorem el_57 : ElemOk Try.prog 57 1 := ElemOk.mk' (by as_aux_lemma => kernel_rfl)
theorem sc_58 : ScalarOk Try.prog 58 := ⟨_, Try.underlying58, rfl⟩
theorem sz_58 : SizeOk Try.prog 58 1 := by unfold SizeOk; as_aux_lemma => kernel_rfl
theorem zr_58 : ZeroOk Try.prog 58 [.nilFunc] := by unfold ZeroOk; as_aux_lemma => kernel_rfl
theorem el_58 : ElemOk Try.prog 58 1 := ElemOk.mk' (by as_aux_lemma => kernel_rfl)
theorem sc_59 : ScalarOk Try.prog 59 := ⟨_, Try.underlying59, rfl⟩
theorem sz_59 : SizeOk Try.prog 59 1 := by unfold SizeOk; as_aux_lemma => kernel_rfl
theorem zr_59 : ZeroOk Try.prog 59 [.slice none 0 0] := by unfold ZeroOk; as_aux_lemma => kernel_rfl
theorem el_59 : ElemOk Try.prog 59 1 := ElemOk.mk' (by as_aux_lemma => kernel_rfl)
theorem sc_60 : ScalarOk Try.prog 60 := ⟨_, Try.underlying60, rfl⟩
theorem sz_60 : SizeOk Try.prog 60 1 := by unfold SizeOk; as_aux_lemma => kernel_rfl
theorem zr_60 : ZeroOk Try.prog 60 [.nilFunc] := by unfold ZeroOk; as_aux_lemma => kernel_rfl
theorem el_60 : ElemOk Try.prog 60 1 := ElemOk.mk' (by as_aux_lemma => kernel_rfl)
theorem rw_61 : RowOk Try.prog 61 5 := ⟨_, Try.underlying61, rfl, by as_aux_lemma => kernel_rfl⟩
theorem fl_61_0 : FieldOk Try.prog 61 0 0 := ⟨_, _, Try.underlying61, rfl, rfl, by as_aux_lemma => kernel_rfl⟩
theorem fl_61_1 : FieldOk Try.prog 61 1 1 := ⟨_, _, Try.underlying61, rfl, rfl, by as_aux_lemma => kernel_rfl⟩
theorem fl_61_2 : FieldOk Try.prog 61 2 3 := ⟨_, _, Try.underlying61, rfl, rfl, by as_aux_lemma => kernel_rfl⟩
theorem fl_61_3 : FieldOk Try.prog 61 3 4 := ⟨_, _, Try.underlying61, rfl, rfl, by as_aux_lemma => kernel_rfl⟩
theorem sz_61 : SizeOk Try.prog 61 5 := by unfold SizeOk; as_aux_lemma => kernel_rfl
theorem zr_61 : ZeroOk Try.prog 61 [.int .i64 0, .int .i64 0, .int .i64 0, .int .i32 0, .bool false] := by unfold ZeroOk; as_aux_lemma => kernel_rfl
theorem el_61 : ElemOk Try.prog 61 5 := ElemOk.mk' (by as_aux_lemma => kernel_rfl)
theorem rw_62 : RowOk Try.prog 62 5 := ⟨_, Try.underlying62, rfl, by as_aux_lemma => kernel_rfl⟩
theorem fl_62_0 : FieldOk Try.prog 62 0 0 := ⟨_, _, Try.underlying62, rfl, rfl, by as_aux_lemma => kernel_rfl⟩
theorem fl_62_1 : FieldOk Try.prog 62 1 1 := ⟨_, _, Try.underlying62, rfl, rfl, by as_aux_lemma => kernel_rfl⟩
theorem fl_62_2 : FieldOk Try.prog 62 2 3 := ⟨_, _, Try.underlying62, rfl, rfl, by as_aux_lemma => kernel_rfl⟩
theorem fl_62_3 : FieldOk Try.prog 62 3 4 := ⟨_, _, Try.underlying62, rfl, rfl, by as_aux_lemma => kernel_rfl⟩
theorem sz_62 : SizeOk Try.prog 62 5 := by unfold SizeOk; as_aux_lemma => kernel_rfl
theorem zr_62 : ZeroOk Try.prog 62 [.int .i64 0, .int .i64 0, .int .i64 0, .int .i32 0, .bool false] := by unfold ZeroOk; as_aux_lemma => kernel_rfl
theorem el_62 : ElemOk Try.prog 62 5 := ElemOk.mk' (by as_aux_lemma => kernel_rfl)
theorem sc_63 : ScalarOk Try.prog 63 := ⟨_, Try.underlying63, rfl⟩
theorem sz_63 : SizeOk Try.prog 63 1 := by unfold SizeOk; as_aux_lemma => kernel_rfl
theorem zr_63 : ZeroOk Try.prog 63 [.nilFunc] := by unfold ZeroOk; as_aux_lemma => kernel_rfl
theorem el_63 : ElemOk Try.prog 63 1 := ElemOk.mk' (by as_aux_lemma => kernel_rfl)
theorem sc_64 : ScalarOk Try.prog 64 := ⟨_, Try.underlying64, rfl⟩
theorem sz_64 : SizeOk Try.prog 64 1 := by unfold SizeOk; as_aux_lemma => kernel_rfl
theorem zr_64 : ZeroOk Try.prog 64 [.nilFunc] := by unfold ZeroOk; as_aux_lemma => kernel_rfl
theorem el_64 : ElemOk Try.prog 64 1 := ElemOk.mk' (by as_aux_lemma => kernel_rfl)
theorem sc_65 : ScalarOk Try.prog 65 := ⟨_, Try.underlying65, rfl⟩
theorem sz_65 : SizeOk Try.prog 65 1 := by unfold SizeOk; as_aux_lemma => kernel_rfl
theorem zr_65 : ZeroOk Try.prog 65 [.nilFunc] := by unfold ZeroOk; as_aux_lemma => kernel_rfl
theorem el_65 : ElemOk Try.prog 65 1 := ElemOk.mk' (by as_aux_lemma => kernel_rfl)
theorem rw_66 : RowOk Try.prog 66 5 := ⟨_, Try.underlying66, rfl, by as_aux_lemma => kernel_rfl⟩
theorem fl_66_0 : FieldOk Try.prog 66 0 0 := ⟨_, _, Try.underlying66, rfl, rfl, by as_aux_lemma => kernel_rfl⟩
theorem fl_66_1 : FieldOk Try.prog 66 1 1 := ⟨_, _, Try.underlying66, rfl, rfl, by as_aux_lemma => kernel_rfl⟩
theorem fl_66_2 : FieldOk Try.prog 66 2 2 := ⟨_, _, Try.underlying66, rfl, rfl, by as_aux_lemma => kernel_rfl⟩
theorem fl_66_3 : FieldOk Try.prog 66 3 4 := ⟨_, _, Try.underlying66, rfl, rfl, by as_aux_lemma => kernel_rfl⟩
theorem sz_66 : SizeOk Try.prog 66 5 := by unfold SizeOk; as_aux_lemma => kernel_rfl
theorem zr_66 : ZeroOk Try.prog 66 [.int .i64 0, .int .i32 0, .int .i64 0, .int .i64 0, .bool false] := by unfold ZeroOk; as_aux_lemma => kernel_rfl
theorem el_66 : ElemOk Try.prog 66 5 := ElemOk.mk' (by as_aux_lemma => kernel_rfl)
theorem rw_67 : RowOk Try.prog 67 5 := ⟨_, Try.underlying67, rfl, by as_aux_lemma => kernel_rfl⟩
theorem fl_67_0 : FieldOk Try.prog 67 0 0 := ⟨_, _, Try.underlying67, rfl, rfl, by as_aux_lemma => kernel_rfl⟩
theorem fl_67_1 : FieldOk Try.prog 67 1 1 := ⟨_, _, Try.underlying67, rfl, rfl, by as_aux_lemma => kernel_rfl⟩
theorem fl_67_2 : FieldOk Try.prog 67 2 2 := ⟨_, _, Try.underlying67, rfl, rfl, by as_aux_lemma => kernel_rfl⟩
theorem fl_67_3 : FieldOk Try.prog 67 3 4 := ⟨_, _, Try.underlying67, rfl, rfl, by as_aux_lemma => kernel_rfl⟩
theorem sz_67 : SizeOk Try.prog 67 5 := by unfold SizeOk; as_aux_lemma => kernel_rfl
theorem zr_67 : ZeroOk Try.prog 67 [.int .i64 0, .int .i32 0, .int .i64 0, .int .i64 0, .bool false] := by unfold ZeroOk; as_aux_lemma => kernel_rfl
theorem el_67 : ElemOk Try.prog 67 5 := ElemOk.mk' (by as_aux_lemma => kernel_rfl)
theorem rw_68 : RowOk Try.prog 68 9 := ⟨_, Try.underlying68, rfl, by as_aux_lemma => kernel_rfl⟩
theorem fl_68_0 : FieldOk Try.prog 68 0 0 := ⟨_, _, Try.underlying68, rfl, rfl, by as_aux_lemma => kernel_rfl⟩
theorem fl_68_1 : FieldOk Try.prog 68 1 1 := ⟨_, _, Try.underlying68, rfl, rfl, by as_aux_lemma => kernel_rfl⟩
theorem fl_68_2 : FieldOk Try.prog 68 2 4 := ⟨_, _, Try.underlying68, rfl, rfl, by as_aux_lemma => kernel_rfl⟩
theorem sz_68 : SizeOk Try.prog 68 9 := by unfold SizeOk; as_aux_lemma => kernel_rfl
theorem zr_68 : ZeroOk Try.prog 68 [.int .i64 0, .int .i64 0, .int .i64 0, .int .i64 0, .int .i64 0, .int .i32 0, .int .i64 0, .int .i64 0, .bool false] := by unfold ZeroOk; as_aux_lemma => kernel_rfl
theorem el_68 : ElemOk Try.prog 68 9 := ElemOk.mk' (by as_aux_lemma => kernel_rfl)
theorem rw_69 : RowOk Try.prog 69 9 := ⟨_, Try.underlying69, rfl, by as_aux_lemma => kernel_rfl⟩
theorem fl_69_0 : FieldOk Try.prog 69 0 0 := ⟨_, _, Try.underlying69, rfl, rfl, by as_aux_lemma => kernel_rfl⟩
theorem fl_69_1 : FieldOk Try.prog 69 1 1 := ⟨_, _, Try.underlying69, rfl, rfl, by as_aux_lemma => kernel_rfl⟩
theorem fl_69_2 : FieldOk Try.prog 69 2 4 := ⟨_, _, Try.underlying69, rfl, rfl, by as_aux_lemma => kernel_rfl⟩
theorem sz_69 : SizeOk Try.prog 69 9 := by unfold SizeOk; as_aux_lemma => kernel_rfl
theorem zr_69 : ZeroOk Try.prog 69 [.int .i64 0, .int .i64 0, .int .i64 0, .int .i64 0, .int .i64 0, .int .i32 0, .int .i64 0, .int .i64 0, .bool false] := by unfold ZeroOk; as_aux_lemma => kernel_rfl
theorem el_69 : ElemOk Try.prog 69 9 := ElemOk.mk' (by as_aux_lemma => kernel_rfl)
theorem sc_70 : ScalarOk Try.prog 70 := ⟨_, Try.underlying70, rfl⟩
theorem sz_70 : SizeOk Try.prog 70 1 := by unfold SizeOk; as_aux_lemma => kernel_rfl
theorem zr_70 : ZeroOk Try.prog 70 [.nilFunc] := by unfold ZeroOk; as_aux_lemma => kernel_rfl
theorem el_70 : ElemOk Try.prog 70 1 := ElemOk.mk' (by as_aux_lemma => kernel_rfl)
theorem sc_71 : ScalarOk Try.prog 71 := ⟨_, Try.underlying71, rfl⟩
theorem sz_71 : SizeOk Try.prog 71 1 := by unfold SizeOk; as_aux_lemma => kernel_rfl
theorem zr_71 : ZeroOk Try.prog 71 [.nilFunc] := by unfold ZeroOk; as_aux_lemma => kernel_rfl
theorem el_71 : ElemOk Try.prog 71 1 := ElemOk.mk' (by as_aux_lemma => kernel_rfl)
theorem sc_72 : ScalarOk Try.prog 72 := ⟨_, Try.underlying72, rfl⟩
theorem sz_72 : SizeOk Try.prog 72 1 := by unfold SizeOk; as_aux_lemma => kernel_rfl
theorem zr_72 : ZeroOk Try.prog 72 [.nilFunc] := by unfold ZeroOk; as_aux_lemma => kernel_rfl
theorem el_72 : ElemOk Try.prog 72 1 := ElemOk.mk' (by as_aux_lemma => kernel_rfl)
theorem sc_73 : ScalarOk Try.prog 73 := ⟨_, Try.underlying73, rfl⟩
theorem sz_73 : SizeOk Try.prog 73 1 := by unfold SizeOk; as_aux_lemma => kernel_rfl
theorem zr_73 : ZeroOk Try.prog 73 [.nilFunc] := by unfold ZeroOk; as_aux_lemma => kernel_rfl
theorem el_73 : ElemOk Try.prog 73 1 := ElemOk.mk' (by as_aux_lemma => kernel_rfl)
theorem sc_74 : ScalarOk Try.prog 74 := ⟨_, Try.underlying74, rfl⟩
theorem sz_74 : SizeOk Try.prog 74 1 := by unfold SizeOk; as_aux_lemma => kernel_rfl
theorem zr_74 : ZeroOk Try.prog 74 [.nilFunc] := by unfold ZeroOk; as_aux_lemma => kernel_rfl
theorem el_74 : ElemOk Try.prog 74 1 := ElemOk.mk' (by as_aux_lemma => kernel_rfl)
theorem sc_75 : ScalarOk Try.prog 75 := ⟨_, Try.underlying75, rfl⟩
theorem sz_75 : SizeOk Try.prog 75 1 := by unfold SizeOk; as_aux_lemma => kernel_rfl
theorem zr_75 : ZeroOk Try.prog 75 [.nilFunc] := by unfold ZeroOk; as_aux_lemma => kernel_rfl
theorem el_75 : ElemOk Try.prog 75 1 := ElemOk.mk' (by as_aux_lemma => kernel_rfl)
theorem sc_76 : ScalarOk Try.prog 76 := ⟨_, Try.underlying76, rfl⟩
theorem sz_76 : SizeOk Try.prog 76 1 := by unfold SizeOk; as_aux_lemma => kernel_rfl
theorem zr_76 : ZeroOk Try.prog 76 [.nilFunc] := by unfold ZeroOk; as_aux_lemma => kernel_rfl
theorem el_76 : ElemOk Try.prog 76 1 := ElemOk.mk' (by as_aux_lemma => kernel_rfl)
theorem rw_77 : RowOk Try.prog 77 4 := ⟨_, Try.underlying77, rfl, by as_aux_lemma => kernel_rfl⟩
theorem fl_77_0 : FieldOk Try.prog 77 0 0 := ⟨_, _, Try.underlying77, rfl, rfl, by as_aux_lemma => kernel_rfl⟩
theorem fl_77_1 : FieldOk Try.prog 77 1 1 := ⟨_, _, Try.underlying77, rfl, rfl, by as_aux_lemma => kernel_rfl⟩
theorem fl_77_2 : FieldOk Try.prog 77 2 2 := ⟨_, _, Try.underlying77, rfl, rfl, by as_aux_lemma => kernel_rfl⟩
theorem fl_77_3 : FieldOk Try.prog 77 3 3 := ⟨_, _, Try.underlying77, rfl, rfl, by as_aux_lemma => kernel_rfl⟩
theorem sz_77 : SizeOk Try.prog 77 4 := by unfold SizeOk; as_aux_lemma => kernel_rfl
theorem zr_77 : ZeroOk Try.prog 77 [.int .i64 0, .int .i64 0, .int .i32 0, .bool false] := by unfold ZeroOk; as_aux_lemma => kernel_rfl
theorem el_77 : ElemOk Try.prog 77 4 := ElemOk.mk' (by as_aux_lemma => kernel_rfl)
theorem rw_78 : RowOk Try.prog 78 4 := ⟨_, Try.underlying78, rfl, by as_aux_lemma => kernel_rfl⟩
theorem fl_78_0 : FieldOk Try.prog 78 0 0 := ⟨_, _, Try.underlying78, rfl, rfl, by as_aux_lemma => kernel_rfl⟩
theorem fl_78_1 : FieldOk Try.prog 78 1 1 := ⟨_, _, Try.underlying78, rfl, rfl, by as_aux_lemma => kernel_rfl⟩
theorem fl_78_2 : FieldOk Try.prog 78 2 2 := ⟨_, _, Try.underlying78, rfl, rfl, by as_aux_lemma => kernel_rfl⟩
theorem fl_78_3 : FieldOk Try.prog 78 3 3 := ⟨_, _, Try.underlying78, rfl, rfl, by as_aux_lemma => kernel_rfl⟩
theorem sz_78 : SizeOk Try.prog 78 4 := by unfold SizeOk; as_aux_lemma => kernel_rfl
theorem zr_78 : ZeroOk Try.prog 78 [.int .i64 0, .int .i64 0, .int .i32 0, .bool false] := by unfold ZeroOk; as_aux_lemma => kernel_rfl
theorem el_78 : ElemOk Try.prog 78 4 := ElemOk.mk' (by as_aux_lemma => kernel_rfl)
theorem sc_80 : ScalarOk Try.prog 80 := ⟨_, Try.underlying80, rfl⟩
theorem sz_80 : SizeOk Try.prog 80 1 := by unfold SizeOk; as_aux_lemma => kernel_rfl
theorem zr_80 : ZeroOk Try.prog 80 [.nilFunc] := by unfold ZeroOk; as_aux_lemma => kernel_rfl
theorem el_80 : ElemOk Try.prog 80 1 := ElemOk.mk' (by as_aux_lemma => kernel_rfl)
theorem sc_81 : ScalarOk Try.prog 81 := ⟨_, Try.underlying81, rfl⟩
theorem sz_81 : SizeOk Try.prog 81 1 := by unfold SizeOk; as_aux_lemma => kernel_rfl
theorem zr_81 : ZeroOk Try.prog 81 [.slice none 0 0] := by unfold ZeroOk; as_aux_lemma => kernel_rfl
theorem el_81 : ElemOk Try.prog 81 1 := ElemOk.mk' (by as_aux_lemma => kernel_rfl)
theorem sc_82 : ScalarOk Try.prog 82 := ⟨_, Try.underlying82, rfl⟩
theorem sz_82 : SizeOk Try.prog 82 1 := by unfold SizeOk; as_aux_lemma => kernel_rfl
theorem zr_82 : ZeroOk Try.prog 82 [.nilFunc] := by unfold ZeroOk; as_aux_lemma => kernel_rfl
theorem el_82 : ElemOk Try.prog 82 1 := ElemOk.mk' (by as_aux_lemma => kernel_rfl)
theorem sc_83 : ScalarOk Try.prog 83 := ⟨_, Try.underlying83, rfl⟩
theorem sz_83 : SizeOk Try.prog 83 1 := by unfold SizeOk; as_aux_lemma => kernel_rfl
theorem zr_83 : ZeroOk Try.prog 83 [.slice none 0 0] := by unfold ZeroOk; as_aux_lemma => kernel_rfl
theorem el_83 : ElemOk Try.prog 83 1 := ElemOk.mk' (by as_aux_lemma => kernel_rfl)
theorem sc_84 : ScalarOk Try.prog 84 := ⟨_, Try.underlying84, rfl⟩
theorem sz_84 : SizeOk Try.prog 84 1 := by unfold SizeOk; as_aux_lemma => kernel_rfl
theorem zr_84 : ZeroOk Try.prog 84 [.nilFunc] := by unfold ZeroOk; as_aux_lemma => kernel_rfl
theorem el_84 : ElemOk Try.prog 84 1 := ElemOk.mk' (by as_aux_lemma => kernel_rfl)
theorem sc_85 : ScalarOk Try.prog 85 := ⟨_, Try.underlying85, rfl⟩
theorem sz_85 : SizeOk Try.prog 85 1 := by unfold SizeOk; as_aux_lemma => kernel_rfl
theorem zr_85 : ZeroOk Try.prog 85 [.nilFunc] := by unfold ZeroOk; as_aux_lemma => kernel_rfl
theorem el_85 : ElemOk Try.prog 85 1 := ElemOk.mk' (by as_aux_lemma => kernel_rfl)
theorem sc_86 : ScalarOk Try.prog 86 := ⟨_, Try.underlying86, rfl⟩
theorem sz_86 : SizeOk Try.prog 86 1 := by unfold SizeOk; as_aux_lemma => kernel_rfl
theorem zr_86 : ZeroOk Try.prog 86 [.slice none 0 0] := by unfold ZeroOk; as_aux_lemma => kernel_rfl
theorem el_86 : ElemOk Try.prog 86 1 := ElemOk.mk' (by as_aux_lemma => kernel_rfl)
theorem sc_87 : ScalarOk Try.prog 87 := ⟨_, Try.underlying87, rfl⟩
theorem sz_87 : SizeOk Try.prog 87 1 := by unfold SizeOk; as_aux_lemma => kernel_rfl
theorem zr_87 : ZeroOk Try.prog 87 [.nilFunc] := by unfold ZeroOk; as_aux_lemma => kernel_rfl
theorem el_87 : ElemOk Try.prog 87 1 := ElemOk.mk' (by as_aux_lemma => kernel_rfl)
theorem sc_88 : ScalarOk Try.prog 88 := ⟨_, Try.underlying88, rfl⟩
theorem sz_88 : SizeOk Try.prog 88 1 := by unfold SizeOk; as_aux_lemma => kernel_rfl
theorem zr_88 : ZeroOk Try.prog 88 [.nilFunc] := by unfold ZeroOk; as_aux_lemma => kernel_rfl
theorem el_88 : ElemOk Try.prog 88 1 := ElemOk.mk' (by as_aux_lemma => kernel_rfl)
theorem sc_89 : ScalarOk Try.prog 89 := ⟨_, Try.underlying89, rfl⟩
theorem sz_89 : SizeOk Try.prog 89 1 := by unfold SizeOk; as_aux_lemma => kernel_rfl
theorem zr_89 : ZeroOk Try.prog 89 [.slice none 0 0] := by unfold ZeroOk; as_aux_lemma => kernel_rfl
theorem el_89 : ElemOk Try.prog 89 1 := ElemOk.mk' (by as_aux_lemma => kernel_rfl)
theorem sc_90 : ScalarOk Try.prog 90 := ⟨_, Try.underlying90, rfl⟩
theorem sz_90 : SizeOk Try.prog 90 1 := by unfold SizeOk; as_aux_lemma => kernel_rfl
theorem zr_90 : ZeroOk Try.prog 90 [.nilFunc] := by unfold ZeroOk; as_aux_lemma => kernel_rfl
theorem el_90 : ElemOk Try.prog 90 1 := ElemOk.mk' (by as_aux_lemma => kernel_rfl)
theorem sc_91 : ScalarOk Try.prog 91 := ⟨_, Try.underlying91, rfl⟩
theorem sz_91 : SizeOk Try.prog 91 1 := by unfold SizeOk; as_aux_lemma => kernel_rfl
theorem zr_91 : ZeroOk Try.prog 91 [.nilFunc] := by unfold ZeroOk; as_aux_lemma => kernel_rfl
theorem el_91 : ElemOk Try.prog 91 1 := ElemOk.mk' (by as_aux_lemma => kernel_rfl)
theorem sc_92 : ScalarOk Try.prog 92 := ⟨_, Try.underlying92, rfl⟩
theorem sz_92 : SizeOk Try.prog 92 1 := by unfold SizeOk; as_aux_lemma => kernel_rfl
theorem zr_92 : ZeroOk Try.prog 92 [.nilFunc] := by unfold ZeroOk; as_aux_lemma => kernel_rfl
theorem el_92 : ElemOk Try.prog 92 1 := ElemOk.mk' (by as_aux_lemma => kernel_rfl)
theorem sc_93 : ScalarOk Try.prog 93 := ⟨_, Try.underlying93, rfl⟩
theorem sz_93 : SizeOk Try.prog 93 1 := by unfold SizeOk; as_aux_lemma => kernel_rfl
theorem zr_93 : ZeroOk Try.prog 93 [.nilFunc] := by unfold ZeroOk; as_aux_lemma => kernel_rfl
theorem el_93 : ElemOk Try.prog 93 1 := ElemOk.mk' (by as_aux_lemma => kernel_rfl)
theorem sc_94 : ScalarOk Try.prog 94 := ⟨_, Try.underlying94, rfl⟩
theorem sz_94 : SizeOk Try.prog 94 1 := by unfold SizeOk; as_aux_lemma => kernel_rfl
theorem zr_94 : ZeroOk Try.prog 94 [.nilFunc] := by unfold ZeroOk; as_aux_lemma => kernel_rfl
theorem el_94 : ElemOk Try.prog 94 1 := ElemOk.mk' (by as_aux_lemma => kernel_rfl)
theorem sc_95 : ScalarOk Try.prog 95 := ⟨_, Try.underlying95, rfl⟩
theorem sz_95 : SizeOk Try.prog 95 1 := by unfold SizeOk; as_aux_lemma => kernel_rfl
theorem zr_95 : ZeroOk Try.prog 95 [.nilFunc] := by unfold ZeroOk; as_aux_lemma => kernel_rfl
theorem el_95 : ElemOk Try.prog 95 1 := ElemOk.mk' (by as_aux_lemma => kernel_rfl)
theorem sc_96 : ScalarOk Try.prog 96 := ⟨_, Try.underlying96, rfl⟩
theorem sz_96 : SizeOk Try.prog 96 1 := by unfold SizeOk; as_aux_lemma => kernel_rfl
theorem zr_96 : ZeroOk Try.prog 96 [.nilFunc] := by unfold ZeroOk; as_aux_lemma => kernel_rfl
theorem el_96 : ElemOk Try.prog 96 1 := ElemOk.mk' (by as_aux_lemma => kernel_rfl)
theorem sc_97 : ScalarOk Try.prog 97 := ⟨_, Try.underlying97, rfl⟩
theorem sz_97 : SizeOk Try.prog 97 1 := by unfold SizeOk; as_aux_lemma => kernel_rfl
theorem zr_97 : ZeroOk Try.prog 97 [.pointer none] := by unfold ZeroOk; as_aux_lemma => kernel_rfl
theorem el_97 : ElemOk Try.prog 97 1 := ElemOk.mk' (by as_aux_lemma => kernel_rfl)
theorem sc_98 : ScalarOk Try.prog 98 := ⟨_, Try.underlying98, rfl⟩
theorem sz_98 : SizeOk Try.prog 98 1 := by unfold SizeOk; as_aux_lemma => kernel_rfl
theorem zr_98 : ZeroOk Try.prog 98 [.nilFunc] := by unfold ZeroOk; as_aux_lemma => kernel_rfl
theorem el_98 : ElemOk Try.prog 98 1 := ElemOk.mk' (by as_aux_lemma => kernel_rfl)
theorem rw_99 : RowOk Try.prog 99 5 := ⟨_, Try.underlying99, rfl, by as_aux_lemma => kernel_rfl⟩
theorem fl_99_0 : FieldOk Try.prog 99 0 0 := ⟨_, _, Try.underlying99, rfl, rfl, by as_aux_lemma => kernel_rfl⟩
theorem fl_99_1 : FieldOk Try.prog 99 1 1 := ⟨_, _, Try.underlying99, rfl, rfl, by as_aux_lemma => kernel_rfl⟩
theorem fl_99_2 : FieldOk Try.prog 99 2 2 := ⟨_, _, Try.underlying99, rfl, rfl, by as_aux_lemma => kernel_rfl⟩
theorem fl_99_3 : FieldOk Try.prog 99 3 3 := ⟨_, _, Try.underlying99, rfl, rfl, by as_aux_lemma => kernel_rfl⟩
theorem fl_99_4 : FieldOk Try.prog 99 4 4 := ⟨_, _, Try.underlying99, rfl, rfl, by as_aux_lemma => kernel_rfl⟩
theorem sz_99 : SizeOk Try.prog 99 5 := by unfold SizeOk; as_aux_lemma => kernel_rfl
theorem zr_99 : ZeroOk Try.prog 99 [.int .i64 0, .int .u8 0, .int .i32 0, .slice none 0 0, .slice none 0 0] := by unfold ZeroOk; as_aux_lemma => kernel_rfl
theorem el_99 : ElemOk Try.prog 99 5 := ElemOk.mk' (by as_aux_lemma => kernel_rfl)
theorem rw_100 : RowOk Try.prog 100 5 := ⟨_, Try.underlying100, rfl, by as_aux_lemma => kernel_rfl⟩
theorem fl_100_0 : FieldOk Try.prog 100 0 0 := ⟨_, _, Try.underlying100, rfl, rfl, by as_aux_lemma => kernel_rfl⟩
theorem fl_100_1 : FieldOk Try.prog 100 1 1 := ⟨_, _, Try.underlying100, rfl, rfl, by as_aux_lemma => kernel_rfl⟩
theorem fl_100_2 : FieldOk Try.prog 100 2 2 := ⟨_, _, Try.underlying100, rfl, rfl, by as_aux_lemma => kernel_rfl⟩
theorem fl_100_3 : FieldOk Try.prog 100 3 3 := ⟨_, _, Try.underlying100, rfl, rfl, by as_aux_lemma => kernel_rfl⟩
theorem fl_100_4 : FieldOk Try.prog 100 4 4 := ⟨_, _, Try.underlying100, rfl, rfl, by as_aux_lemma => kernel_rfl⟩
theorem sz_100 : SizeOk Try.prog 100 5 := by unfold SizeOk; as_aux_lemma => kernel_rfl
theorem zr_100 : ZeroOk Try.prog 100 [.int .i64 0, .int .u8 0, .int .i32 0, .slice none 0 0, .slice none 0 0] := by unfold ZeroOk; as_aux_lemma => kernel_rfl
theorem el_100 : ElemOk Try.prog 100 5 := ElemOk.mk' (by as_aux_lemma => kernel_rfl)
theorem sc_101 : ScalarOk Try.prog 101 := ⟨_, Try.underlying101, rfl⟩
theorem sz_101 : SizeOk Try.prog 101 1 := by unfold SizeOk; as_aux_lemma => kernel_rfl
theorem zr_101 : ZeroOk Try.prog 101 [.map none] := by unfold ZeroOk; as_aux_lemma => kernel_rfl
theorem el_101 : ElemOk Try.prog 101 1 := ElemOk.mk' (by as_aux_lemma => kernel_rfl)
theorem sc_102 : ScalarOk Try.prog 102 := ⟨_, Try.underlying102, rfl⟩
theorem sz_102 : SizeOk Try.prog 102 1 := by unfold SizeOk; as_aux_lemma => kernel_rfl
theorem zr_102 : ZeroOk Try.prog 102 [.map none] := by unfold ZeroOk; as_aux_lemma => kernel_rfl
theorem el_102 : ElemOk Try.prog 102 1 := ElemOk.mk' (by as_aux_lemma => kernel_rfl)
theorem sc_104 : ScalarOk Try.prog 104 := ⟨_, Try.underlying104, rfl⟩
theorem sz_104 : SizeOk Try.prog 104 1 := by unfold SizeOk; as_aux_lemma => kernel_rfl
theorem zr_104 : ZeroOk Try.prog 104 [.nilFunc] := by unfold ZeroOk; as_aux_lemma => kernel_rfl
theorem el_104 : ElemOk Try.prog 104 1 := ElemOk.mk' (by as_aux_lemma => kernel_rfl)
theorem sc_105 : ScalarOk Try.prog 105 := ⟨_, Try.underlying105, rfl⟩
theorem sz_105 : SizeOk Try.prog 105 1 := by unfold SizeOk; as_aux_lemma => kernel_rfl
theorem zr_105 : ZeroOk Try.prog 105 [.nilFunc] := by unfold ZeroOk; as_aux_lemma => kernel_rfl
theorem el_105 : ElemOk Try.prog 105 1 := ElemOk.mk' (by as_aux_lemma => kernel_rfl)
theorem sc_106 : ScalarOk Try.prog 106 := ⟨_, Try.underlying106, rfl⟩
theorem sz_106 : SizeOk Try.prog 106 1 := by unfold SizeOk; as_aux_lemma => kernel_rfl
theorem zr_106 : ZeroOk Try.prog 106 [.nilFunc] := by unfold ZeroOk; as_aux_lemma => kernel_rfl
theorem el_106 : ElemOk Try.prog 106 1 := ElemOk.mk' (by as_aux_lemma => kernel_rfl)
theorem sc_107 : ScalarOk Try.prog 107 := ⟨_, Try.underlying107, rfl⟩
theorem sz_107 : SizeOk Try.prog 107 1 := by unfold SizeOk; as_aux_lemma => kernel_rfl
theorem zr_107 : ZeroOk Try.prog 107 [.nilFunc] := by unfold ZeroOk; as_aux_lemma => kernel_rfl
theorem el_107 : ElemOk Try.prog 107 1 := ElemOk.mk' (by as_aux_lemma => kernel_rfl)
theorem sc_108 : ScalarOk Try.prog 108 := ⟨_, Try.underlying108, rfl⟩
theorem sz_108 : SizeOk Try.prog 108 1 := by unfold SizeOk; as_aux_lemma => kernel_rfl
theorem zr_108 : ZeroOk Try.prog 108 [.nilFunc] := by unfold ZeroOk; as_aux_lemma => kernel_rfl
theorem el_108 : ElemOk Try.prog 108 1 := ElemOk.mk' (by as_aux_lemma => kernel_rfl)
theorem sc_109 : ScalarOk Try.prog 109 := ⟨_, Try.underlying109, rfl⟩
theorem sz_109 : SizeOk Try.prog 109 1 := by unfold SizeOk; as_aux_lemma => kernel_rfl
theorem zr_109 : ZeroOk Try.prog 109 [.nilFunc] := by unfold ZeroOk; as_aux_lemma => kernel_rfl
theorem el_109 : ElemOk Try.prog 109 1 := ElemOk.mk' (by as_aux_lemma => kernel_rfl)
theorem sc_110 : ScalarOk Try.prog 110 := ⟨_, Try.underlying110, rfl⟩
theorem sz_110 : SizeOk Try.prog 110 1 := by unfold SizeOk; as_aux_lemma => kernel_rfl
theorem zr_110 : ZeroOk Try.prog 110 [.nilFunc] := by unfold ZeroOk; as_aux_lemma => kernel_rfl
theorem el_110 : ElemOk Try.prog 110 1 := ElemOk.mk' (by as_aux_lemma => kernel_rfl)
theorem rw_111 : RowOk Try.prog 111 2 := ⟨_, Try.underlying111, rfl, by as_aux_lemma => kernel_rfl⟩
theorem sz_111 : SizeOk Try.prog 111 2 := by unfold SizeOk; as_aux_lemma => kernel_rfl
theorem zr_111 : ZeroOk Try.prog 111 [.int .i32 0, .int .i32 0] := by unfold ZeroOk; as_aux_lemma => kernel_rfl
theorem el_111 : ElemOk Try.prog 111 2 := ElemOk.mk' (by as_aux_lemma => kernel_rfl)
theorem rw_112 : RowOk Try.prog 112 2 := ⟨_, Try.underlying112, rfl, by as_aux_lemma => kernel_rfl⟩
theorem sz_112 : SizeOk Try.prog 112 2 := by unfold SizeOk; as_aux_lemma => kernel_rfl
theorem zr_112 : ZeroOk Try.prog 112 [.int .i32 0, .int .i32 0] := by unfold ZeroOk; as_aux_lemma => kernel_rfl
theorem el_112 : ElemOk Try.prog 112 2 := ElemOk.mk' (by as_aux_lemma => kernel_rfl)
theorem sc_113 : ScalarOk Try.prog 113 := ⟨_, Try.underlying113, rfl⟩
theorem sz_113 : SizeOk Try.prog 113 1 := by unfold SizeOk; as_aux_lemma => kernel_rfl
theorem zr_113 : ZeroOk Try.prog 113 [.pointer none] := by unfold ZeroOk; as_aux_lemma => kernel_rfl
theorem el_113 : ElemOk Try.prog 113 1 := ElemOk.mk' (by as_aux_lemma => kernel_rfl)
theorem sc_116 : ScalarOk Try.prog 116 := ⟨_, Try.underlying116, rfl⟩
theorem sz_116 : SizeOk Try.prog 116 1 := by unfold SizeOk; as_aux_lemma => kernel_rfl
theorem zr_116 : ZeroOk Try.prog 116 [.nilFunc] := by unfold ZeroOk; as_aux_lemma => kernel_rfl
theorem el_116 : ElemOk Try.prog 116 1 := ElemOk.mk' (by as_aux_lemma => kernel_rfl)
theorem sc_117 : ScalarOk Try.prog 117 := ⟨_, Try.underlying117, rfl⟩
theorem sz_117 : SizeOk Try.prog 117 1 := by unfold SizeOk; as_aux_lemma => kernel_rfl
theorem zr_117 : ZeroOk Try.prog 117 [.nilFunc] := by unfold ZeroOk; as_aux_lemma => kernel_rfl
theorem el_117 : ElemOk Try.prog 117 1 := ElemOk.mk' (by as_aux_lemma => kernel_rfl)
theorem sc_118 : ScalarOk Try.prog 118 := ⟨_, Try.underlying118, rfl⟩
theorem sz_118 : SizeOk Try.prog 118 1 := by unfold SizeOk; as_aux_lemma => kernel_rfl
theorem zr_118 : ZeroOk Try.prog 118 [.nilFunc] := by unfold ZeroOk; as_aux_lemma => kernel_rfl
theorem el_118 : ElemOk Try.prog 118 1 := ElemOk.mk' (by as_aux_lemma => kernel_rfl)
theorem sc_119 : ScalarOk Try.prog 119 := ⟨_, Try.underlying119, rfl⟩
theorem sz_119 : SizeOk Try.prog 119 1 := by unfold SizeOk; as_aux_lemma => kernel_rfl
theorem zr_119 : ZeroOk Try.prog 119 [.nilFunc] := by unfold ZeroOk; as_aux_lemma => kernel_rfl
theorem el_119 : ElemOk Try.prog 119 1 := ElemOk.mk' (by as_aux_lemma => kernel_rfl)
theorem rw_120 : RowOk Try.prog 120 4 := ⟨_, Try.underlying120, rfl, by as_aux_lemma => kernel_rfl⟩
theorem fl_120_0 : FieldOk Try.prog 120 0 0 := ⟨_, _, Try.underlying120, rfl, rfl, by as_aux_lemma => kernel_rfl⟩
theorem fl_120_1 : FieldOk Try.prog 120 1 1 := ⟨_, _, Try.underlying120, rfl, rfl, by as_aux_lemma => kernel_rfl⟩
theorem fl_120_2 : FieldOk Try.prog 120 2 2 := ⟨_, _, Try.underlying120, rfl, rfl, by as_aux_lemma => kernel_rfl⟩
theorem fl_120_3 : FieldOk Try.prog 120 3 3 := ⟨_, _, Try.underlying120, rfl, rfl, by as_aux_lemma => kernel_rfl⟩
theorem sz_120 : SizeOk Try.prog 120 4 := by unfold SizeOk; as_aux_lemma => kernel_rfl
theorem zr_120 : ZeroOk Try.prog 120 [.pointer none, .pointer none, .pointer none, .string ByteArray.empty] := by unfold ZeroOk; as_aux_lemma => kernel_rfl
theorem el_120 : ElemOk Try.prog 120 4 := ElemOk.mk' (by as_aux_lemma => kernel_rfl)
theorem rw_121 : RowOk Try.prog 121 4 := ⟨_, Try.underlying121, rfl, by as_aux_lemma => kernel_rfl⟩
theorem fl_121_0 : FieldOk Try.prog 121 0 0 := ⟨_, _, Try.underlying121, rfl, rfl, by as_aux_lemma => kernel_rfl⟩
theorem fl_121_1 : FieldOk Try.prog 121 1 1 := ⟨_, _, Try.underlying121, rfl, rfl, by as_aux_lemma => kernel_rfl⟩
theorem fl_121_2 : FieldOk Try.prog 121 2 2 := ⟨_, _, Try.underlying121, rfl, rfl, by as_aux_lemma => kernel_rfl⟩
theorem fl_121_3 : FieldOk Try.prog 121 3 3 := ⟨_, _, Try.underlying121, rfl, rfl, by as_aux_lemma => kernel_rfl⟩
theorem sz_121 : SizeOk Try.prog 121 4 := by unfold SizeOk; as_aux_lemma => kernel_rfl
theorem zr_121 : ZeroOk Try.prog 121 [.pointer none, .pointer none, .pointer none, .string ByteArray.empty] := by unfold ZeroOk; as_aux_lemma => kernel_rfl
theorem el_121 : ElemOk Try.prog 121 4 := ElemOk.mk' (by as_aux_lemma => kernel_rfl)
theorem sz_122 : SizeOk Try.prog 122 0 := by unfold SizeOk; as_aux_lemma => kernel_rfl
theorem sz_123 : SizeOk Try.prog 123 0 := by unfold SizeOk; as_aux_lemma => kernel_rfl
theorem sz_124 : SizeOk Try.prog 124 0 := by unfold SizeOk; as_aux_lemma => kernel_rfl
theorem sc_125 : ScalarOk Try.prog 125 := ⟨_, Try.underlying125, rfl⟩
theorem sz_125 : SizeOk Try.prog 125 1 := by unfold SizeOk; as_aux_lemma => kernel_rfl
theorem zr_125 : ZeroOk Try.prog 125 [.nilFunc] := by unfold ZeroOk; as_aux_lemma => kernel_rfl
theorem el_125 : ElemOk Try.prog 125 1 := ElemOk.mk' (by as_aux_lemma => kernel_rfl)
theorem sc_126 : ScalarOk Try.prog 126 := ⟨_, Try.underlying126, rfl⟩
theorem sz_126 : SizeOk Try.prog 126 1 := by unfold SizeOk; as_aux_lemma => kernel_rfl
theorem zr_126 : ZeroOk Try.prog 126 [.int .u32 0] := by unfold ZeroOk; as_aux_lemma => kernel_rfl
theorem el_126 : ElemOk Try.prog 126 1 := ElemOk.mk' (by as_aux_lemma => kernel_rfl)
theorem sc_127 : ScalarOk Try.prog 127 := ⟨_, Try.underlying127, rfl⟩
theorem sz_127 : SizeOk Try.prog 127 1 := by unfold SizeOk; as_aux_lemma => kernel_rfl
theorem zr_127 : ZeroOk Try.prog 127 [.int .u8 0] := by unfold ZeroOk; as_aux_lemma => kernel_rfl
theorem el_127 : ElemOk Try.prog 127 1 := ElemOk.mk' (by as_aux_lemma => kernel_rfl)
theorem by_127 : ByteOk Try.prog 127 := ByteOk.mk' (by as_aux_lemma => kernel_rfl)
theorem sc_128 : ScalarOk Try.prog 128 := ⟨_, Try.underlying128, rfl⟩
theorem sz_128 : SizeOk Try.prog 128 1 := by unfold SizeOk; as_aux_lemma => kernel_rfl
theorem zr_128 : ZeroOk Try.prog 128 [.int .u8 0] := by unfold ZeroOk; as_aux_lemma => kernel_rfl
theorem el_128 : ElemOk Try.prog 128 1 := ElemOk.mk' (by as_aux_lemma => kernel_rfl)
theorem by_128 : ByteOk Try.prog 128 := ByteOk.mk' (by as_aux_lemma => kernel_rfl)
theorem sc_129 : ScalarOk Try.prog 129 := ⟨_, Try.underlying129, rfl⟩
theorem sz_129 : SizeOk Try.prog 129 1 := by unfold SizeOk; as_aux_lemma => kernel_rfl
theorem zr_129 : ZeroOk Try.prog 129 [.nilFunc] := by unfold ZeroOk; as_aux_lemma => kernel_rfl
theorem el_129 : ElemOk Try.prog 129 1 := ElemOk.mk' (by as_aux_lemma => kernel_rfl)
theorem sc_130 : ScalarOk Try.prog 130 := ⟨_, Try.underlying130, rfl⟩
theorem sz_130 : SizeOk Try.prog 130 1 := by unfold SizeOk; as_aux_lemma => kernel_rfl
theorem zr_130 : ZeroOk Try.prog 130 [.pointer none] := by unfold ZeroOk; as_aux_lemma => kernel_rfl
theorem el_130 : ElemOk Try.prog 130 1 := ElemOk.mk' (by as_aux_lemma => kernel_rfl)
theorem sc_131 : ScalarOk Try.prog 131 := ⟨_, Try.underlying131, rfl⟩
theorem sz_131 : SizeOk Try.prog 131 1 := by unfold SizeOk; as_aux_lemma => kernel_rfl
theorem zr_131 : ZeroOk Try.prog 131 [.int .i32 0] := by unfold ZeroOk; as_aux_lemma => kernel_rfl
theorem el_131 : ElemOk Try.prog 131 1 := ElemOk.mk' (by as_aux_lemma => kernel_rfl)
theorem sc_132 : ScalarOk Try.prog 132 := ⟨_, Try.underlying132, rfl⟩
theorem sz_132 : SizeOk Try.prog 132 1 := by unfold SizeOk; as_aux_lemma => kernel_rfl
theorem zr_132 : ZeroOk Try.prog 132 [.int .i32 0] := by unfold ZeroOk; as_aux_lemma => kernel_rfl
theorem el_132 : ElemOk Try.prog 132 1 := ElemOk.mk' (by as_aux_lemma => kernel_rfl)
theorem rw_133 : RowOk Try.prog 133 11 := ⟨_, Try.underlying133, rfl, by as_aux_lemma => kernel_rfl⟩
theorem fl_133_0 : FieldOk Try.prog 133 0 0 := ⟨_, _, Try.underlying133, rfl, rfl, by as_aux_lemma => kernel_rfl⟩
theorem fl_133_1 : FieldOk Try.prog 133 1 1 := ⟨_, _, Try.underlying133, rfl, rfl, by as_aux_lemma => kernel_rfl⟩
theorem fl_133_2 : FieldOk Try.prog 133 2 2 := ⟨_, _, Try.underlying133, rfl, rfl, by as_aux_lemma => kernel_rfl⟩
theorem fl_133_3 : FieldOk Try.prog 133 3 3 := ⟨_, _, Try.underlying133, rfl, rfl, by as_aux_lemma => kernel_rfl⟩
theorem fl_133_4 : FieldOk Try.prog 133 4 4 := ⟨_, _, Try.underlying133, rfl, rfl, by as_aux_lemma => kernel_rfl⟩
theorem fl_133_5 : FieldOk Try.prog 133 5 5 := ⟨_, _, Try.underlying133, rfl, rfl, by as_aux_lemma => kernel_rfl⟩
theorem fl_133_6 : FieldOk Try.prog 133 6 6 := ⟨_, _, Try.underlying133, rfl, rfl, by as_aux_lemma => kernel_rfl⟩
theorem fl_133_7 : FieldOk Try.prog 133 7 7 := ⟨_, _, Try.underlying133, rfl, rfl, by as_aux_lemma => kernel_rfl⟩
theorem fl_133_8 : FieldOk Try.prog 133 8 8 := ⟨_, _, Try.underlying133, rfl, rfl, by as_aux_lemma => kernel_rfl⟩
theorem fl_133_9 : FieldOk Try.prog 133 9 9 := ⟨_, _, Try.underlying133, rfl, rfl, by as_aux_lemma => kernel_rfl⟩
theorem fl_133_10 : FieldOk Try.prog 133 10 10 := ⟨_, _, Try.underlying133, rfl, rfl, by as_aux_lemma => kernel_rfl⟩
theorem sz_133 : SizeOk Try.prog 133 11 := by unfold SizeOk; as_aux_lemma => kernel_rfl
theorem zr_133 : ZeroOk Try.prog 133 [.int .u64 0, .int .u64 0, .int .u32 0, .int .u8 0, .int .u8 0, .int .u8 0, .int .u8 0, .nilFunc, .pointer none, .int .i32 0, .int .i32 0] := by unfold ZeroOk; as_aux_lemma => kernel_rfl
theorem el_133 : ElemOk Try.prog 133 11 := ElemOk.mk' (by as_aux_lemma => kernel_rfl)
theorem rw_134 : RowOk Try.prog 134 11 := ⟨_, Try.underlying134, rfl, by as_aux_lemma => kernel_rfl⟩
theorem fl_134_0 : FieldOk Try.prog 134 0 0 := ⟨_, _, Try.underlying134, rfl, rfl, by as_aux_lemma => kernel_rfl⟩
theorem fl_134_1 : FieldOk Try.prog 134 1 1 := ⟨_, _, Try.underlying134, rfl, rfl, by as_aux_lemma => kernel_rfl⟩
theorem fl_134_2 : FieldOk Try.prog 134 2 2 := ⟨_, _, Try.underlying134, rfl, rfl, by as_aux_lemma => kernel_rfl⟩
theorem fl_134_3 : FieldOk Try.prog 134 3 3 := ⟨_, _, Try.underlying134, rfl, rfl, by as_aux_lemma => kernel_rfl⟩
theorem fl_134_4 : FieldOk Try.prog 134 4 4 := ⟨_, _, Try.underlying134, rfl, rfl, by as_aux_lemma => kernel_rfl⟩
theorem fl_134_5 : FieldOk Try.prog 134 5 5 := ⟨_, _, Try.underlying134, rfl, rfl, by as_aux_lemma => kernel_rfl⟩
theorem fl_134_6 : FieldOk Try.prog 134 6 6 := ⟨_, _, Try.underlying134, rfl, rfl, by as_aux_lemma => kernel_rfl⟩
theorem fl_134_7 : FieldOk Try.prog 134 7 7 := ⟨_, _, Try.underlying134, rfl, rfl, by as_aux_lemma => kernel_rfl⟩
theorem fl_134_8 : FieldOk Try.prog 134 8 8 := ⟨_, _, Try.underlying134, rfl, rfl, by as_aux_lemma => kernel_rfl⟩
theorem fl_134_9 : FieldOk Try.prog 134 9 9 := ⟨_, _, Try.underlying134, rfl, rfl, by as_aux_lemma => kernel_rfl⟩
theorem fl_134_10 : FieldOk Try.prog 134 10 10 := ⟨_, _, Try.underlying134, rfl, rfl, by as_aux_lemma => kernel_rfl⟩
theorem sz_134 : SizeOk Try.prog 134 11 := by unfold SizeOk; as_aux_lemma => kernel_rfl
theorem zr_134 : ZeroOk Try.prog 134 [.int .u64 0, .int .u64 0, .int .u32 0, .int .u8 0, .int .u8 0, .int .u8 0, .int .u8 0, .nilFunc, .pointer none, .int .i32 0, .int .i32 0] := by unfold ZeroOk; as_aux_lemma => kernel_rfl
theorem el_134 : ElemOk Try.prog 134 11 := ElemOk.mk' (by as_aux_lemma => kernel_rfl)
theorem sc_135 : ScalarOk Try.prog 135 := ⟨_, Try.underlying135, rfl⟩
theorem sz_135 : SizeOk Try.prog 135 1 := by unfold SizeOk; as_aux_lemma => kernel_rfl
theorem zr_135 : ZeroOk Try.prog 135 [.pointer none] := by unfold ZeroOk; as_aux_lemma => kernel_rfl
theorem el_135 : ElemOk Try.prog 135 1 := ElemOk.mk' (by as_aux_lemma => kernel_rfl)
theorem en_2 : ∀ args w, (callFunc 2 args).run Try.prog w = .ok (.enter 2 args) w := enters_of Try.func2 (by as_aux_lemma => kernel_rfl) rfl
theorem en_3 : ∀ args w, (callFunc 3 args).run Try.prog w = .ok (.enter 3 args) w := enters_of Try.func3 (by as_aux_lemma => kernel_rfl) rfl
theorem en_4 : ∀ args w, (callFunc 4 args).run Try.prog w = .ok (.enter 4 args) w := enters_of Try.func4 (by as_aux_lemma => kernel_rfl) rfl
theorem en_5 : ∀ args w, (callFunc 5 args).run Try.prog w = .ok (.enter 5 args) w := enters_of Try.func5 (by as_aux_lemma => kernel_rfl) rfl
theorem en_6 : ∀ args w, (callFunc 6 args).run Try.prog w = .ok (.enter 6 args) w := enters_of Try.func6 (by as_aux_lemma => kernel_rfl) rfl
theorem en_7 : ∀ args w, (callFunc 7 args).run Try.prog w = .ok (.enter 7 args) w := enters_of Try.func7 (by as_aux_lemma => kernel_rfl) rfl
theorem en_8 : ∀ args w, (callFunc 8 args).run Try.prog w = .ok (.enter 8 args) w := enters_of Try.func8 (by as_aux_lemma => kernel_rfl) rfl
theorem en_9 : ∀ args w, (callFunc 9 args).run Try.prog w = .ok (.enter 9 args) w := enters_of Try.func9 (by as_aux_lemma => kernel_rfl) rfl
theorem en_10 : ∀ args w, (callFunc 10 args).run Try.prog w = .ok (.enter 10 args) w := enters_of Try.func10 (by as_aux_lemma => kernel_rfl) rfl
theorem en_11 : ∀ args w, (callFunc 11 args).run Try.prog w = .ok (.enter 11 args) w := enters_of Try.func11 (by as_aux_lemma => kernel_rfl) rfl
theorem en_12 : ∀ args w, (callFunc 12 args).run Try.prog w = .ok (.enter 12 args) w := enters_of Try.func12 (by as_aux_lemma => kernel_rfl) rfl
theorem en_13 : ∀ args w, (callFunc 13 args).run Try.prog w = .ok (.enter 13 args) w := enters_of Try.func13 (by as_aux_lemma => kernel_rfl) rfl
theorem en_14 : ∀ args w, (callFunc 14 args).run Try.prog w = .ok (.enter 14 args) w := enters_of Try.func14 (by as_aux_lemma => kernel_rfl) rfl
theorem en_15 : ∀ args w, (callFunc 15 args).run Try.prog w = .ok (.enter 15 args) w := enters_of Try.func15 (by as_aux_lemma => kernel_rfl) rfl
theorem en_16 : ∀ args w, (callFunc 16 args).run Try.prog w = .ok (.enter 16 args) w := enters_of Try.func16 (by as_aux_lemma => kernel_rfl) rfl
theorem en_17 : ∀ args w, (callFunc 17 args).run Try.prog w = .ok (.enter 17 args) w := enters_of Try.func17 (by as_aux_lemma => kernel_rfl) rfl
theorem en_18 : ∀ args w, (callFunc 18 args).run Try.prog w = .ok (.enter 18 args) w := enters_of Try.func18 (by as_aux_lemma => kernel_rfl) rfl
theorem en_19 : ∀ args w, (callFunc 19 args).run Try.prog w = .ok (.enter 19 args) w := enters_of Try.func19 (by as_aux_lemma => kernel_rfl) rfl
theorem en_20 : ∀ args w, (callFunc 20 args).run Try.prog w = .ok (.enter 20 args) w := enters_of Try.func20 (by as_aux_lemma => kernel_rfl) rfl
theorem en_21 : ∀ args w, (callFunc 21 args).run Try.prog w = .ok (.enter 21 args) w := enters_of Try.func21 (by as_aux_lemma => kernel_rfl) rfl
theorem en_22 : ∀ args w, (callFunc 22 args).run Try.prog w = .ok (.enter 22 args) w := enters_of Try.func22 (by as_aux_lemma => kernel_rfl) rfl
theorem en_23 : ∀ args w, (callFunc 23 args).run Try.prog w = .ok (.enter 23 args) w := enters_of Try.func23 (by as_aux_lemma => kernel_rfl) rfl
theorem en_24 : ∀ args w, (callFunc 24 args).run Try.prog w = .ok (.enter 24 args) w := enters_of Try.func24 (by as_aux_lemma => kernel_rfl) rfl
theorem en_25 : ∀ args w, (callFunc 25 args).run Try.prog w = .ok (.enter 25 args) w := enters_of Try.func25 (by as_aux_lemma => kernel_rfl) rfl
theorem en_26 : ∀ args w, (callFunc 26 args).run Try.prog w = .ok (.enter 26 args) w := enters_of Try.func26 (by as_aux_lemma => kernel_rfl) rfl
theorem en_27 : ∀ args w, (callFunc 27 args).run Try.prog w = .ok (.enter 27 args) w := enters_of Try.func27 (by as_aux_lemma => kernel_rfl) rfl
theorem en_28 : ∀ args w, (callFunc 28 args).run Try.prog w = .ok (.enter 28 args) w := enters_of Try.func28 (by as_aux_lemma => kernel_rfl) rfl
theorem en_29 : ∀ args w, (callFunc 29 args).run Try.prog w = .ok (.enter 29 args) w := enters_of Try.func29 (by as_aux_lemma => kernel_rfl) rfl
theorem en_30 : ∀ args w, (callFunc 30 args).run Try.prog w = .ok (.enter 30 args) w := enters_of Try.func30 (by as_aux_lemma => kernel_rfl) rfl
theorem en_31 : ∀ args w, (callFunc 31 args).run Try.prog w = .ok (.enter 31 args) w := enters_of Try.func31 (by as_aux_lemma => kernel_rfl) rfl
theorem en_32 : ∀ args w, (callFunc 32 args).run Try.prog w = .ok (.enter 32 args) w := enters_of Try.func32 (by as_aux_lemma => kernel_rfl) rfl
theorem en_33 : ∀ args w, (callFunc 33 args).run Try.prog w = .ok (.enter 33 args) w := enters_of Try.func33 (by as_aux_lemma => kernel_rfl) rfl
theorem en_34 : ∀ args w, (callFunc 34 args).run Try.prog w = .ok (.enter 34 args) w := enters_of Try.func34 (by as_aux_lemma => kernel_rfl) rfl
theorem en_35 : ∀ args w, (callFunc 35 args).run Try.prog w = .ok (.enter 35 args) w := enters_of Try.func35 (by as_aux_lemma => kernel_rfl) rfl
theorem en_36 : ∀ args w, (callFunc 36 args).run Try.prog w = .ok (.enter 36 args) w := enters_of Try.func36 (by as_aux_lemma => kernel_rfl) rfl
theorem en_37 : ∀ args w, (callFunc 37 args).run Try.prog w = .ok (.enter 37 args) w := enters_of Try.func37 (by as_aux_lemma => kernel_rfl) rfl
theorem en_38 : ∀ args w, (callFunc 38 args).run Try.prog w = .ok (.enter 38 args) w := enters_of Try.func38 (by as_aux_lemma => kernel_rfl) rfl
theorem en_39 : ∀ args w, (callFunc 39 args).run Try.prog w = .ok (.enter 39 args) w := enters_of Try.func39 (by as_aux_lemma => kernel_rfl) rfl
theorem en_40 : ∀ args w, (callFunc 40 args).run Try.prog w = .ok (.enter 40 args) w := enters_of Try.func40 (by as_aux_lemma => kernel_rfl) rfl
theorem en_41 : ∀ args w, (callFunc 41 args).run Try.prog w = .ok (.enter 41 args) w := enters_of Try.func41 (by as_aux_lemma => kernel_rfl) rfl
theorem en_42 : ∀ args w, (callFunc 42 args).run Try.prog w = .ok (.enter 42 args) w := enters_of Try.func42 (by as_aux_lemma => kernel_rfl) rfl
theorem en_43 : ∀ args w, (callFunc 43 args).run Try.prog w = .ok (.enter 43 args) w := enters_of Try.func43 (by as_aux_lemma => kernel_rfl) rfl
theorem en_44 : ∀ args w, (callFunc 44 args).run Try.prog w = .ok (.enter 44 args) w := enters_of Try.func44 (by as_aux_lemma => kernel_rfl) rfl
theorem en_45 : ∀ args w, (callFunc 45 args).run Try.prog w = .ok (.enter 45 args) w := enters_of Try.func45 (by as_aux_lemma => kernel_rfl) rfl
theorem en_46 : ∀ args w, (callFunc 46 args).run Try.prog w = .ok (.enter 46 args) w := enters_of Try.func46 (by as_aux_lemma => kernel_rfl) rfl
theorem en_47 : ∀ args w, (callFunc 47 args).run Try.prog w = .ok (.enter 47 args) w := enters_of Try.func47 (by as_aux_lemma => kernel_rfl) rfl
theorem en_48 : ∀ args w, (callFunc 48 args).run Try.prog w = .ok (.enter 48 args) w := enters_of Try.func48 (by as_aux_lemma => kernel_rfl) rfl
theorem en_49 : ∀ args w, (callFunc 49 args).run Try.prog w = .ok (.enter 49 args) w := enters_of Try.func49 (by as_aux_lemma => kernel_rfl) rfl
theorem en_50 : ∀ args w, (callFunc 50 args).run Try.prog w = .ok (.enter 50 args) w := enters_of Try.func50 (by as_aux_lemma => kernel_rfl) rfl
theorem en_51 : ∀ args w, (callFunc 51 args).run Try.prog w = .ok (.enter 51 args) w := enters_of Try.func51 (by as_aux_lemma => kernel_rfl) rfl
theorem en_52 : ∀ args w, (callFunc 52 args).run Try.prog w = .ok (.enter 52 args) w := enters_of Try.func52 (by as_aux_lemma => kernel_rfl) rfl
theorem en_53 : ∀ args w, (callFunc 53 args).run Try.prog w = .ok (.enter 53 args) w := enters_of Try.func53 (by as_aux_lemma => kernel_rfl) rfl
theorem en_54 : ∀ args w, (callFunc 54 args).run Try.prog w = .ok (.enter 54 args) w := enters_of Try.func54 (by as_aux_lemma => kernel_rfl) rfl
theorem en_55 : ∀ args w, (callFunc 55 args).run Try.prog w = .ok (.enter 55 args) w := enters_of Try.func55 (by as_aux_lemma => kernel_rfl) rfl
theorem en_56 : ∀ args w, (callFunc 56 args).run Try.prog w = .ok (.enter 56 args) w := enters_of Try.func56 (by as_aux_lemma => kernel_rfl) rfl
theorem en_57 : ∀ args w, (callFunc 57 args).run Try.prog w = .ok (.enter 57 args) w := enters_of Try.func57 (by as_aux_lemma => kernel_rfl) rfl
theorem en_58 : ∀ args w, (callFunc 58 args).run Try.prog w = .ok (.enter 58 args) w := enters_of Try.func58 (by as_aux_lemma => kernel_rfl) rfl
theorem en_59 : ∀ args w, (callFunc 59 args).run Try.prog w = .ok (.enter 59 args) w := enters_of Try.func59 (by as_aux_lemma => kernel_rfl) rfl
theorem en_60 : ∀ args w, (callFunc 60 args).run Try.prog w = .ok (.enter 60 args) w := enters_of Try.func60 (by as_aux_lemma => kernel_rfl) rfl
theorem en_61 : ∀ args w, (callFunc 61 args).run Try.prog w = .ok (.enter 61 args) w := enters_of Try.func61 (by as_aux_lemma => kernel_rfl) rfl
theorem en_62 : ∀ args w, (callFunc 62 args).run Try.prog w = .ok (.enter 62 args) w := enters_of Try.func62 (by as_aux_lemma => kernel_rfl) rfl
theorem en_63 : ∀ args w, (callFunc 63 args).run Try.prog w = .ok (.enter 63 args) w := enters_of Try.func63 (by as_aux_lemma => kernel_rfl) rfl
theorem en_64 : ∀ args w, (callFunc 64 args).run Try.prog w = .ok (.enter 64 args) w := enters_of Try.func64 (by as_aux_lemma => kernel_rfl) rfl
theorem en_65 : ∀ args w, (callFunc 65 args).run Try.prog w = .ok (.enter 65 args) w := enters_of Try.func65 (by as_aux_lemma => kernel_rfl) rfl
theorem en_66 : ∀ args w, (callFunc 66 args).run Try.prog w = .ok (.enter 66 args) w := enters_of Try.func66 (by as_aux_lemma => kernel_rfl) rfl
theorem en_67 : ∀ args w, (callFunc 67 args).run Try.prog w = .ok (.enter 67 args) w := enters_of Try.func67 (by as_aux_lemma => kernel_rfl) rfl
theorem en_68 : ∀ args w, (callFunc 68 args).run Try.prog w = .ok (.enter 68 args) w := enters_of Try.func68 (by as_aux_lemma => kernel_rfl) rfl
theorem en_69 : ∀ args w, (callFunc 69 args).run Try.prog w = .ok (.enter 69 args) w := enters_of Try.func69 (by as_aux_lemma => kernel_rfl) rfl
theorem en_70 : ∀ args w, (callFunc 70 args).run Try.prog w = .ok (.enter 70 args) w := enters_of Try.func70 (by as_aux_lemma => kernel_rfl) rfl
theorem en_71 : ∀ args w, (callFunc 71 args).run Try.prog w = .ok (.enter 71 args) w := enters_of Try.func71 (by as_aux_lemma => kernel_rfl) rfl
theorem en_72 : ∀ args w, (callFunc 72 args).run Try.prog w = .ok (.enter 72 args) w := enters_of Try.func72 (by as_aux_lemma => kernel_rfl) rfl
theorem en_73 : ∀ args w, (callFunc 73 args).run Try.prog w = .ok (.enter 73 args) w := enters_of Try.func73 (by as_aux_lemma => kernel_rfl) rfl
theorem en_74 : ∀ args w, (callFunc 74 args).run Try.prog w = .ok (.enter 74 args) w := enters_of Try.func74 (by as_aux_lemma => kernel_rfl) rfl
theorem en_75 : ∀ args w, (callFunc 75 args).run Try.prog w = .ok (.enter 75 args) w := enters_of Try.func75 (by as_aux_lemma => kernel_rfl) rfl
theorem en_76 : ∀ args w, (callFunc 76 args).run Try.prog w = .ok (.enter 76 args) w := enters_of Try.func76 (by as_aux_lemma => kernel_rfl) rfl
theorem en_77 : ∀ args w, (callFunc 77 args).run Try.prog w = .ok (.enter 77 args) w := enters_of Try.func77 (by as_aux_lemma => kernel_rfl) rfl
theorem en_78 : ∀ args w, (callFunc 78 args).run Try.prog w = .ok (.enter 78 args) w := enters_of Try.func78 (by as_aux_lemma => kernel_rfl) rfl
theorem en_79 : ∀ args w, (callFunc 79 args).run Try.prog w = .ok (.enter 79 args) w := enters_of Try.func79 (by as_aux_lemma => kernel_rfl) rfl
theorem en_80 : ∀ args w, (callFunc 80 args).run Try.prog w = .ok (.enter 80 args) w := enters_of Try.func80 (by as_aux_lemma => kernel_rfl) rfl
theorem en_81 : ∀ args w, (callFunc 81 args).run Try.prog w = .ok (.enter 81 args) w := enters_of Try.func81 (by as_aux_lemma => kernel_rfl) rfl
theorem en_82 : ∀ args w, (callFunc 82 args).run Try.prog w = .ok (.enter 82 args) w := enters_of Try.func82 (by as_aux_lemma => kernel_rfl) rfl
theorem en_83 : ∀ args w, (callFunc 83 args).run Try.prog w = .ok (.enter 83 args) w := enters_of Try.func83 (by as_aux_lemma => kernel_rfl) rfl
theorem en_84 : ∀ args w, (callFunc 84 args).run Try.prog w = .ok (.enter 84 args) w := enters_of Try.func84 (by as_aux_lemma => kernel_rfl) rfl
theorem en_85 : ∀ args w, (callFunc 85 args).run Try.prog w = .ok (.enter 85 args) w := enters_of Try.func85 (by as_aux_lemma => kernel_rfl) rfl
theorem en_86 : ∀ args w, (callFunc 86 args).run Try.prog w = .ok (.enter 86 args) w := enters_of Try.func86 (by as_aux_lemma => kernel_rfl) rfl
theorem mixed : Try.prog.follows .mixedOrders = true := by as_aux_lemma => kernel_rfl
end Go.Proofs.Ytgeefojgkbglnaa
namespace Go.Proofs.Ytgeefojgkbglnaa
open Go.RowKit Go.Lib
set_option linter.unusedSimpArgs false
@[ext] structure Gapi_Span where
  From : Int
  To : Int
def enc_Gapi_Span (x : Gapi_Span) : List Value := [.int .i64 x.From, .int .i64 x.To]
theorem enc_Gapi_Span_len (x : Gapi_Span) : (enc_Gapi_Span x).length = 2 := rfl
theorem enc_Gapi_Span_one (x : Gapi_Span) : ∀ u ∈ enc_Gapi_Span x, u.oneCell' = true := by
  intro u hu
  simp only [enc_Gapi_Span, List.mem_cons, List.not_mem_nil, or_false] at hu
  rcases hu with rfl | rfl <;> rfl
def eq_Gapi_Span (a b : Gapi_Span) : Bool := (a.From == b.From) && (a.To == b.To)
theorem eq_Gapi_Span_iff (a b : Gapi_Span) : eq_Gapi_Span a b = true ↔ a = b := by
  rcases a with ⟨a0, a1⟩
  rcases b with ⟨b0, b1⟩
  simp [eq_Gapi_Span, Bool.and_eq_true, and_assoc]
@[ext] structure Gapi_Token where
  Kind : Int
  Span_From : Int
  Span_To : Int
def enc_Gapi_Token (x : Gapi_Token) : List Value := [.int .i64 x.Kind, .int .i64 x.Span_From, .int .i64 x.Span_To]
theorem enc_Gapi_Token_len (x : Gapi_Token) : (enc_Gapi_Token x).length = 3 := rfl
theorem enc_Gapi_Token_one (x : Gapi_Token) : ∀ u ∈ enc_Gapi_Token x, u.oneCell' = true := by
  intro u hu
  simp only [enc_Gapi_Token, List.mem_cons, List.not_mem_nil, or_false] at hu
  rcases hu with rfl | rfl | rfl <;> rfl
def eq_Gapi_Token (a b : Gapi_Token) : Bool := (a.Kind == b.Kind) && (a.Span_From == b.Span_From) && (a.Span_To == b.Span_To)
theorem eq_Gapi_Token_iff (a b : Gapi_Token) : eq_Gapi_Token a b = true ↔ a = b := by
  rcases a with ⟨a0, a1, a2⟩
  rcases b with ⟨b0, b1, b2⟩
  simp [eq_Gapi_Token, Bool.and_eq_true, and_assoc]
@[ext] structure T48 where
  e0 : Int
  e1 : Int
  e2 : Int
def enc_T48 (x : T48) : List Value := [.int .i64 x.e0, .int .i64 x.e1, .int .i64 x.e2]
theorem enc_T48_len (x : T48) : (enc_T48 x).length = 3 := rfl
theorem enc_T48_one (x : T48) : ∀ u ∈ enc_T48 x, u.oneCell' = true := by
  intro u hu
  simp only [enc_T48, List.mem_cons, List.not_mem_nil, or_false] at hu
  rcases hu with rfl | rfl | rfl <;> rfl
def eq_T48 (a b : T48) : Bool := (a.e0 == b.e0) && (a.e1 == b.e1) && (a.e2 == b.e2)
theorem eq_T48_iff (a b : T48) : eq_T48 a b = true ↔ a = b := by
  rcases a with ⟨a0, a1, a2⟩
  rcases b with ⟨b0, b1, b2⟩
  simp [eq_T48, Bool.and_eq_true, and_assoc]
@[ext] structure Gref07_Unit where
  Kind : Int
  Span_From : Int
  Span_To : Int
  Rune : Int
  Alone : Bool
def enc_Gref07_Unit (x : Gref07_Unit) : List Value := [.int .i64 x.Kind, .int .i64 x.Span_From, .int .i64 x.Span_To, .int .i32 x.Rune, .bool x.Alone]
theorem enc_Gref07_Unit_len (x : Gref07_Unit) : (enc_Gref07_Unit x).length = 5 := rfl
theorem enc_Gref07_Unit_one (x : Gref07_Unit) : ∀ u ∈ enc_Gref07_Unit x, u.oneCell' = true := by
  intro u hu
  simp only [enc_Gref07_Unit, List.mem_cons, List.not_mem_nil, or_false] at hu
  rcases hu with rfl | rfl | rfl | rfl | rfl <;> rfl
def eq_Gref07_Unit (a b : Gref07_Unit) : Bool := (a.Kind == b.Kind) && (a.Span_From == b.Span_From) && (a.Span_To == b.Span_To) && (a.Rune == b.Rune) && (a.Alone == b.Alone)
theorem eq_Gref07_Unit_iff (a b : Gref07_Unit) : eq_Gref07_Unit a b = true ↔ a = b := by
  rcases a with ⟨a0, a1, a2, a3, a4⟩
  rcases b with ⟨b0, b1, b2, b3, b4⟩
  simp [eq_Gref07_Unit, Bool.and_eq_true, and_assoc]
@[ext] structure Gword_unit where
  kind : Int
  r : Int
  span_From : Int
  span_To : Int
  alone : Bool
def enc_Gword_unit (x : Gword_unit) : List Value := [.int .i64 x.kind, .int .i32 x.r, .int .i64 x.span_From, .int .i64 x.span_To, .bool x.alone]
theorem enc_Gword_unit_len (x : Gword_unit) : (enc_Gword_unit x).length = 5 := rfl
theorem enc_Gword_unit_one (x : Gword_unit) : ∀ u ∈ enc_Gword_unit x, u.oneCell' = true := by
  intro u hu
  simp only [enc_Gword_unit, List.mem_cons, List.not_mem_nil, or_false] at hu
  rcases hu with rfl | rfl | rfl | rfl | rfl <;> rfl
def eq_Gword_unit (a b : Gword_unit) : Bool := (a.kind == b.kind) && (a.r == b.r) && (a.span_From == b.span_From) && (a.span_To == b.span_To) && (a.alone == b.alone)
theorem eq_Gword_unit_iff (a b : Gword_unit) : eq_Gword_unit a b = true ↔ a = b := by
  rcases a with ⟨a0, a1, a2, a3, a4⟩
  rcases b with ⟨b0, b1, b2, b3, b4⟩
  simp [eq_Gword_unit, Bool.and_eq_true, and_assoc]
@[ext] structure Gword_scanner where
  state : Int
  t_Kind : Int
  t_Span_From : Int
  t_Span_To : Int
  held_kind : Int
  held_r : Int
  held_span_From : Int
  held_span_To : Int
  held_alone : Bool
def enc_Gword_scanner (x : Gword_scanner) : List Value := [.int .i64 x.state, .int .i64 x.t_Kind, .int .i64 x.t_Span_From, .int .i64 x.t_Span_To, .int .i64 x.held_kind, .int .i32 x.held_r, .int .i64 x.held_span_From, .int .i64 x.held_span_To, .bool x.held_alone]
theorem enc_Gword_scanner_len (x : Gword_scanner) : (enc_Gword_scanner x).length = 9 := rfl
theorem enc_Gword_scanner_one (x : Gword_scanner) : ∀ u ∈ enc_Gword_scanner x, u.oneCell' = true := by
  intro u hu
  simp only [enc_Gword_scanner, List.mem_cons, List.not_mem_nil, or_false] at hu
  rcases hu with rfl | rfl | rfl | rfl | rfl | rfl | rfl | rfl | rfl <;> rfl
def eq_Gword_scanner (a b : Gword_scanner) : Bool := (a.state == b.state) && (a.t_Kind == b.t_Kind) && (a.t_Span_From == b.t_Span_From) && (a.t_Span_To == b.t_Span_To) && (a.held_kind == b.held_kind) && (a.held_r == b.held_r) && (a.held_span_From == b.held_span_From) && (a.held_span_To == b.held_span_To) && (a.held_alone == b.held_alone)
theorem eq_Gword_scanner_iff (a b : Gword_scanner) : eq_Gword_scanner a b = true ↔ a = b := by
  rcases a with ⟨a0, a1, a2, a3, a4, a5, a6, a7, a8⟩
  rcases b with ⟨b0, b1, b2, b3, b4, b5, b6, b7, b8⟩
  simp [eq_Gword_scanner, Bool.and_eq_true, and_assoc]
@[ext] structure Gapi_Piece where
  At : Int
  Width : Int
  Rune : Int
  Broken : Bool
def enc_Gapi_Piece (x : Gapi_Piece) : List Value := [.int .i64 x.At, .int .i64 x.Width, .int .i32 x.Rune, .bool x.Broken]
theorem enc_Gapi_Piece_len (x : Gapi_Piece) : (enc_Gapi_Piece x).length = 4 := rfl
theorem enc_Gapi_Piece_one (x : Gapi_Piece) : ∀ u ∈ enc_Gapi_Piece x, u.oneCell' = true := by
  intro u hu
  simp only [enc_Gapi_Piece, List.mem_cons, List.not_mem_nil, or_false] at hu
  rcases hu with rfl | rfl | rfl | rfl <;> rfl
def eq_Gapi_Piece (a b : Gapi_Piece) : Bool := (a.At == b.At) && (a.Width == b.Width) && (a.Rune == b.Rune) && (a.Broken == b.Broken)
theorem eq_Gapi_Piece_iff (a b : Gapi_Piece) : eq_Gapi_Piece a b = true ↔ a = b := by
  rcases a with ⟨a0, a1, a2, a3⟩
  rcases b with ⟨b0, b1, b2, b3⟩
  simp [eq_Gapi_Piece, Bool.and_eq_true, and_assoc]
@[ext] structure T111 where
  e0 : Int
  e1 : Int
def enc_T111 (x : T111) : List Value := [.int .i32 x.e0, .int .i32 x.e1]
theorem enc_T111_len (x : T111) : (enc_T111 x).length = 2 := rfl
theorem enc_T111_one (x : T111) : ∀ u ∈ enc_T111 x, u.oneCell' = true := by
  intro u hu
  simp only [enc_T111, List.mem_cons, List.not_mem_nil, or_false] at hu
  rcases hu with rfl | rfl <;> rfl
def eq_T111 (a b : T111) : Bool := (a.e0 == b.e0) && (a.e1 == b.e1)
theorem eq_T111_iff (a b : T111) : eq_T111 a b = true ↔ a = b := by
  rcases a with ⟨a0, a1⟩
  rcases b with ⟨b0, b1⟩
  simp [eq_T111, Bool.and_eq_true, and_assoc]
@[ext] structure Gfold_pair where
  e0 : Int
  e1 : Int
def enc_Gfold_pair (x : Gfold_pair) : List Value := [.int .i32 x.e0, .int .i32 x.e1]
theorem enc_Gfold_pair_len (x : Gfold_pair) : (enc_Gfold_pair x).length = 2 := rfl
theorem enc_Gfold_pair_one (x : Gfold_pair) : ∀ u ∈ enc_Gfold_pair x, u.oneCell' = true := by
  intro u hu
  simp only [enc_Gfold_pair, List.mem_cons, List.not_mem_nil, or_false] at hu
  rcases hu with rfl | rfl <;> rfl
def eq_Gfold_pair (a b : Gfold_pair) : Bool := (a.e0 == b.e0) && (a.e1 == b.e1)
theorem eq_Gfold_pair_iff (a b : Gfold_pair) : eq_Gfold_pair a b = true ↔ a = b := by
  rcases a with ⟨a0, a1⟩
  rcases b with ⟨b0, b1⟩
  simp [eq_Gfold_pair, Bool.and_eq_true, and_assoc]
theorem bin_eql_34 {x y : Operand} (a b : Gapi_Span) (w : World) : (do eqGuard .eql 34 x y (.agg #[.int .i64 a.From, .int .i64 a.To]) (.agg #[.int .i64 b.From, .int .i64 b.To]); binOp .eql 34 (.agg #[.int .i64 a.From, .int .i64 a.To]) (.agg #[.int .i64 b.From, .int .i64 b.To]) : Sem Value).run Try.prog w = .ok (.bool (eq_Gapi_Span a b)) w :=
  bin_aggE (by as_aux_lemma => kernel_rfl) (show ((a.From == b.From) && ((a.To == b.To) && true)) = eq_Gapi_Span a b by simp [eq_Gapi_Span, Bool.and_assoc]) (eqF_agg (dd := 9999) (by as_aux_lemma => kernel_rfl) (by as_aux_lemma => kernel_rfl) (eqF_at (ft := 3) (off := 0) (a := .int .i64 a.From) (b := .int .i64 b.From) (by as_aux_lemma => kernel_rfl) (fun _ => by kernel_rfl) (fun _ => by kernel_rfl) (eqF_int Try.underlying3) (eqF_at (ft := 3) (off := 1) (a := .int .i64 a.To) (b := .int .i64 b.To) (by as_aux_lemma => kernel_rfl) (fun _ => by kernel_rfl) (fun _ => by kernel_rfl) (eqF_int Try.underlying3) (eqF_end (n := 2) (by as_aux_lemma => kernel_rfl))))) w
theorem bin_neq_34 {x y : Operand} (a b : Gapi_Span) (w : World) : (do eqGuard .neq 34 x y (.agg #[.int .i64 a.From, .int .i64 a.To]) (.agg #[.int .i64 b.From, .int .i64 b.To]); binOp .neq 34 (.agg #[.int .i64 a.From, .int .i64 a.To]) (.agg #[.int .i64 b.From, .int .i64 b.To]) : Sem Value).run Try.prog w = .ok (.bool (!eq_Gapi_Span a b)) w :=
  bin_aggN (by as_aux_lemma => kernel_rfl) (show ((a.From == b.From) && ((a.To == b.To) && true)) = eq_Gapi_Span a b by simp [eq_Gapi_Span, Bool.and_assoc]) (eqF_agg (dd := 9999) (by as_aux_lemma => kernel_rfl) (by as_aux_lemma => kernel_rfl) (eqF_at (ft := 3) (off := 0) (a := .int .i64 a.From) (b := .int .i64 b.From) (by as_aux_lemma => kernel_rfl) (fun _ => by kernel_rfl) (fun _ => by kernel_rfl) (eqF_int Try.underlying3) (eqF_at (ft := 3) (off := 1) (a := .int .i64 a.To) (b := .int .i64 b.To) (by as_aux_lemma => kernel_rfl) (fun _ => by kernel_rfl) (fun _ => by kernel_rfl) (eqF_int Try.underlying3) (eqF_end (n := 2) (by as_aux_lemma => kernel_rfl))))) w
theorem bin_eql_36 {x y : Operand} (a b : Gapi_Token) (w : World) : (do eqGuard .eql 36 x y (.agg #[.int .i64 a.Kind, .int .i64 a.Span_From, .int .i64 a.Span_To]) (.agg #[.int .i64 b.Kind, .int .i64 b.Span_From, .int .i64 b.Span_To]); binOp .eql 36 (.agg #[.int .i64 a.Kind, .int .i64 a.Span_From, .int .i64 a.Span_To]) (.agg #[.int .i64 b.Kind, .int .i64 b.Span_From, .int .i64 b.Span_To]) : Sem Value).run Try.prog w = .ok (.bool (eq_Gapi_Token a b)) w :=
  bin_aggE (by as_aux_lemma => kernel_rfl) (show ((a.Kind == b.Kind) && (((a.Span_From == b.Span_From) && ((a.Span_To == b.Span_To) && true)) && true)) = eq_Gapi_Token a b by simp [eq_Gapi_Token, Bool.and_assoc]) (eqF_agg (dd := 9999) (by as_aux_lemma => kernel_rfl) (by as_aux_lemma => kernel_rfl) (eqF_at (ft := 3) (off := 0) (a := .int .i64 a.Kind) (b := .int .i64 b.Kind) (by as_aux_lemma => kernel_rfl) (fun _ => by kernel_rfl) (fun _ => by kernel_rfl) (eqF_int Try.underlying3) (eqF_at (ft := 34) (off := 1) (a := .agg #[.int .i64 a.Span_From, .int .i64 a.Span_To]) (b := .agg #[.int .i64 b.Span_From, .int .i64 b.Span_To]) (by as_aux_lemma => kernel_rfl) (fun _ => by kernel_rfl) (fun _ => by kernel_rfl) (eqF_agg (dd := 9998) (by as_aux_lemma => kernel_rfl) (by as_aux_lemma => kernel_rfl) (eqF_at (ft := 3) (off := 0) (a := .int .i64 a.Span_From) (b := .int .i64 b.Span_From) (by as_aux_lemma => kernel_rfl) (fun _ => by kernel_rfl) (fun _ => by kernel_rfl) (eqF_int Try.underlying3) (eqF_at (ft := 3) (off := 1) (a := .int .i64 a.Span_To) (b := .int .i64 b.Span_To) (by as_aux_lemma => kernel_rfl) (fun _ => by kernel_rfl) (fun _ => by kernel_rfl) (eqF_int Try.underlying3) (eqF_end (n := 2) (by as_aux_lemma => kernel_rfl))))) (eqF_end (n := 2) (by as_aux_lemma => kernel_rfl))))) w
theorem bin_neq_36 {x y : Operand} (a b : Gapi_Token) (w : World) : (do eqGuard .neq 36 x y (.agg #[.int .i64 a.Kind, .int .i64 a.Span_From, .int .i64 a.Span_To]) (.agg #[.int .i64 b.Kind, .int .i64 b.Span_From, .int .i64 b.Span_To]); binOp .neq 36 (.agg #[.int .i64 a.Kind, .int .i64 a.Span_From, .int .i64 a.Span_To]) (.agg #[.int .i64 b.Kind, .int .i64 b.Span_From, .int .i64 b.Span_To]) : Sem Value).run Try.prog w = .ok (.bool (!eq_Gapi_Token a b)) w :=
  bin_aggN (by as_aux_lemma => kernel_rfl) (show ((a.Kind == b.Kind) && (((a.Span_From == b.Span_From) && ((a.Span_To == b.Span_To) && true)) && true)) = eq_Gapi_Token a b by simp [eq_Gapi_Token, Bool.and_assoc]) (eqF_agg (dd := 9999) (by as_aux_lemma => kernel_rfl) (by as_aux_lemma => kernel_rfl) (eqF_at (ft := 3) (off := 0) (a := .int .i64 a.Kind) (b := .int .i64 b.Kind) (by as_aux_lemma => kernel_rfl) (fun _ => by kernel_rfl) (fun _ => by kernel_rfl) (eqF_int Try.underlying3) (eqF_at (ft := 34) (off := 1) (a := .agg #[.int .i64 a.Span_From, .int .i64 a.Span_To]) (b := .agg #[.int .i64 b.Span_From, .int .i64 b.Span_To]) (by as_aux_lemma => kernel_rfl) (fun _ => by kernel_rfl) (fun _ => by kernel_rfl) (eqF_agg (dd := 9998) (by as_aux_lemma => kernel_rfl) (by as_aux_lemma => kernel_rfl) (eqF_at (ft := 3) (off := 0) (a := .int .i64 a.Span_From) (b := .int .i64 b.Span_From) (by as_aux_lemma => kernel_rfl) (fun _ => by kernel_rfl) (fun _ => by kernel_rfl) (eqF_int Try.underlying3) (eqF_at (ft := 3) (off := 1) (a := .int .i64 a.Span_To) (b := .int .i64 b.Span_To) (by as_aux_lemma => kernel_rfl) (fun _ => by kernel_rfl) (fun _ => by kernel_rfl) (eqF_int Try.underlying3) (eqF_end (n := 2) (by as_aux_lemma => kernel_rfl))))) (eqF_end (n := 2) (by as_aux_lemma => kernel_rfl))))) w
theorem bin_eql_62 {x y : Operand} (a b : Gref07_Unit) (w : World) : (do eqGuard .eql 62 x y (.agg #[.int .i64 a.Kind, .int .i64 a.Span_From, .int .i64 a.Span_To, .int .i32 a.Rune, .bool a.Alone]) (.agg #[.int .i64 b.Kind, .int .i64 b.Span_From, .int .i64 b.Span_To, .int .i32 b.Rune, .bool b.Alone]); binOp .eql 62 (.agg #[.int .i64 a.Kind, .int .i64 a.Span_From, .int .i64 a.Span_To, .int .i32 a.Rune, .bool a.Alone]) (.agg #[.int .i64 b.Kind, .int .i64 b.Span_From, .int .i64 b.Span_To, .int .i32 b.Rune, .bool b.Alone]) : Sem Value).run Try.prog w = .ok (.bool (eq_Gref07_Unit a b)) w :=
  bin_aggE (by as_aux_lemma => kernel_rfl) (show ((a.Kind == b.Kind) && (((a.Span_From == b.Span_From) && ((a.Span_To == b.Span_To) && true)) && ((a.Rune == b.Rune) && ((a.Alone == b.Alone) && true)))) = eq_Gref07_Unit a b by simp [eq_Gref07_Unit, Bool.and_assoc]) (eqF_agg (dd := 9999) (by as_aux_lemma => kernel_rfl) (by as_aux_lemma => kernel_rfl) (eqF_at (ft := 3) (off := 0) (a := .int .i64 a.Kind) (b := .int .i64 b.Kind) (by as_aux_lemma => kernel_rfl) (fun _ => by kernel_rfl) (fun _ => by kernel_rfl) (eqF_int Try.underlying3) (eqF_at (ft := 34) (off := 1) (a := .agg #[.int .i64 a.Span_From, .int .i64 a.Span_To]) (b := .agg #[.int .i64 b.Span_From, .int .i64 b.Span_To]) (by as_aux_lemma => kernel_rfl) (fun _ => by kernel_rfl) (fun _ => by kernel_rfl) (eqF_agg (dd := 9998) (by as_aux_lemma => kernel_rfl) (by as_aux_lemma => kernel_rfl) (eqF_at (ft := 3) (off := 0) (a := .int .i64 a.Span_From) (b := .int .i64 b.Span_From) (by as_aux_lemma => kernel_rfl) (fun _ => by kernel_rfl) (fun _ => by kernel_rfl) (eqF_int Try.underlying3) (eqF_at (ft := 3) (off := 1) (a := .int .i64 a.Span_To) (b := .int .i64 b.Span_To) (by as_aux_lemma => kernel_rfl) (fun _ => by kernel_rfl) (fun _ => by kernel_rfl) (eqF_int Try.underlying3) (eqF_end (n := 2) (by as_aux_lemma => kernel_rfl))))) (eqF_at (ft := 21) (off := 3) (a := .int .i32 a.Rune) (b := .int .i32 b.Rune) (by as_aux_lemma => kernel_rfl) (fun _ => by kernel_rfl) (fun _ => by kernel_rfl) (eqF_int Try.underlying21) (eqF_at (ft := 4) (off := 4) (a := .bool a.Alone) (b := .bool b.Alone) (by as_aux_lemma => kernel_rfl) (fun _ => by kernel_rfl) (fun _ => by kernel_rfl) (eqF_bool Try.underlying4) (eqF_end (n := 4) (by as_aux_lemma => kernel_rfl))))))) w
theorem bin_neq_62 {x y : Operand} (a b : Gref07_Unit) (w : World) : (do eqGuard .neq 62 x y (.agg #[.int .i64 a.Kind, .int .i64 a.Span_From, .int .i64 a.Span_To, .int .i32 a.Rune, .bool a.Alone]) (.agg #[.int .i64 b.Kind, .int .i64 b.Span_From, .int .i64 b.Span_To, .int .i32 b.Rune, .bool b.Alone]); binOp .neq 62 (.agg #[.int .i64 a.Kind, .int .i64 a.Span_From, .int .i64 a.Span_To, .int .i32 a.Rune, .bool a.Alone]) (.agg #[.int .i64 b.Kind, .int .i64 b.Span_From, .int .i64 b.Span_To, .int .i32 b.Rune, .bool b.Alone]) : Sem Value).run Try.prog w = .ok (.bool (!eq_Gref07_Unit a b)) w :=
  bin_aggN (by as_aux_lemma => kernel_rfl) (show ((a.Kind == b.Kind) && (((a.Span_From == b.Span_From) && ((a.Span_To == b.Span_To) && true)) && ((a.Rune == b.Rune) && ((a.Alone == b.Alone) && true)))) = eq_Gref07_Unit a b by simp [eq_Gref07_Unit, Bool.and_assoc]) (eqF_agg (dd := 9999) (by as_aux_lemma => kernel_rfl) (by as_aux_lemma => kernel_rfl) (eqF_at (ft := 3) (off := 0) (a := .int .i64 a.Kind) (b := .int .i64 b.Kind) (by as_aux_lemma => kernel_rfl) (fun _ => by kernel_rfl) (fun _ => by kernel_rfl) (eqF_int Try.underlying3) (eqF_at (ft := 34) (off := 1) (a := .agg #[.int .i64 a.Span_From, .int .i64 a.Span_To]) (b := .agg #[.int .i64 b.Span_From, .int .i64 b.Span_To]) (by as_aux_lemma => kernel_rfl) (fun _ => by kernel_rfl) (fun _ => by kernel_rfl) (eqF_agg (dd := 9998) (by as_aux_lemma => kernel_rfl) (by as_aux_lemma => kernel_rfl) (eqF_at (ft := 3) (off := 0) (a := .int .i64 a.Span_From) (b := .int .i64 b.Span_From) (by as_aux_lemma => kernel_rfl) (fun _ => by kernel_rfl) (fun _ => by kernel_rfl) (eqF_int Try.underlying3) (eqF_at (ft := 3) (off := 1) (a := .int .i64 a.Span_To) (b := .int .i64 b.Span_To) (by as_aux_lemma => kernel_rfl) (fun _ => by kernel_rfl) (fun _ => by kernel_rfl) (eqF_int Try.underlying3) (eqF_end (n := 2) (by as_aux_lemma => kernel_rfl))))) (eqF_at (ft := 21) (off := 3) (a := .int .i32 a.Rune) (b := .int .i32 b.Rune) (by as_aux_lemma => kernel_rfl) (fun _ => by kernel_rfl) (fun _ => by kernel_rfl) (eqF_int Try.underlying21) (eqF_at (ft := 4) (off := 4) (a := .bool a.Alone) (b := .bool b.Alone) (by as_aux_lemma => kernel_rfl) (fun _ => by kernel_rfl) (fun _ => by kernel_rfl) (eqF_bool Try.underlying4) (eqF_end (n := 4) (by as_aux_lemma => kernel_rfl))))))) w
theorem bin_eql_67 {x y : Operand} (a b : Gword_unit) (w : World) : (do eqGuard .eql 67 x y (.agg #[.int .i64 a.kind, .int .i32 a.r, .int .i64 a.span_From, .int .i64 a.span_To, .bool a.alone]) (.agg #[.int .i64 b.kind, .int .i32 b.r, .int .i64 b.span_From, .int .i64 b.span_To, .bool b.alone]); binOp .eql 67 (.agg #[.int .i64 a.kind, .int .i32 a.r, .int .i64 a.span_From, .int .i64 a.span_To, .bool a.alone]) (.agg #[.int .i64 b.kind, .int .i32 b.r, .int .i64 b.span_From, .int .i64 b.span_To, .bool b.alone]) : Sem Value).run Try.prog w = .ok (.bool (eq_Gword_unit a b)) w :=
  bin_aggE (by as_aux_lemma => kernel_rfl) (show ((a.kind == b.kind) && ((a.r == b.r) && (((a.span_From == b.span_From) && ((a.span_To == b.span_To) && true)) && ((a.alone == b.alone) && true)))) = eq_Gword_unit a b by simp [eq_Gword_unit, Bool.and_assoc]) (eqF_agg (dd := 9999) (by as_aux_lemma => kernel_rfl) (by as_aux_lemma => kernel_rfl) (eqF_at (ft := 56) (off := 0) (a := .int .i64 a.kind) (b := .int .i64 b.kind) (by as_aux_lemma => kernel_rfl) (fun _ => by kernel_rfl) (fun _ => by kernel_rfl) (eqF_int Try.underlying56) (eqF_at (ft := 21) (off := 1) (a := .int .i32 a.r) (b := .int .i32 b.r) (by as_aux_lemma => kernel_rfl) (fun _ => by kernel_rfl) (fun _ => by kernel_rfl) (eqF_int Try.underlying21) (eqF_at (ft := 34) (off := 2) (a := .agg #[.int .i64 a.span_From, .int .i64 a.span_To]) (b := .agg #[.int .i64 b.span_From, .int .i64 b.span_To]) (by as_aux_lemma => kernel_rfl) (fun _ => by kernel_rfl) (fun _ => by kernel_rfl) (eqF_agg (dd := 9998) (by as_aux_lemma => kernel_rfl) (by as_aux_lemma => kernel_rfl) (eqF_at (ft := 3) (off := 0) (a := .int .i64 a.span_From) (b := .int .i64 b.span_From) (by as_aux_lemma => kernel_rfl) (fun _ => by kernel_rfl) (fun _ => by kernel_rfl) (eqF_int Try.underlying3) (eqF_at (ft := 3) (off := 1) (a := .int .i64 a.span_To) (b := .int .i64 b.span_To) (by as_aux_lemma => kernel_rfl) (fun _ => by kernel_rfl) (fun _ => by kernel_rfl) (eqF_int Try.underlying3) (eqF_end (n := 2) (by as_aux_lemma => kernel_rfl))))) (eqF_at (ft := 4) (off := 4) (a := .bool a.alone) (b := .bool b.alone) (by as_aux_lemma => kernel_rfl) (fun _ => by kernel_rfl) (fun _ => by kernel_rfl) (eqF_bool Try.underlying4) (eqF_end (n := 4) (by as_aux_lemma => kernel_rfl))))))) w
theorem bin_neq_67 {x y : Operand} (a b : Gword_unit) (w : World) : (do eqGuard .neq 67 x y (.agg #[.int .i64 a.kind, .int .i32 a.r, .int .i64 a.span_From, .int .i64 a.span_To, .bool a.alone]) (.agg #[.int .i64 b.kind, .int .i32 b.r, .int .i64 b.span_From, .int .i64 b.span_To, .bool b.alone]); binOp .neq 67 (.agg #[.int .i64 a.kind, .int .i32 a.r, .int .i64 a.span_From, .int .i64 a.span_To, .bool a.alone]) (.agg #[.int .i64 b.kind, .int .i32 b.r, .int .i64 b.span_From, .int .i64 b.span_To, .bool b.alone]) : Sem Value).run Try.prog w = .ok (.bool (!eq_Gword_unit a b)) w :=
  bin_aggN (by as_aux_lemma => kernel_rfl) (show ((a.kind == b.kind) && ((a.r == b.r) && (((a.span_From == b.span_From) && ((a.span_To == b.span_To) && true)) && ((a.alone == b.alone) && true)))) = eq_Gword_unit a b by simp [eq_Gword_unit, Bool.and_assoc]) (eqF_agg (dd := 9999) (by as_aux_lemma => kernel_rfl) (by as_aux_lemma => kernel_rfl) (eqF_at (ft := 56) (off := 0) (a := .int .i64 a.kind) (b := .int .i64 b.kind) (by as_aux_lemma => kernel_rfl) (fun _ => by kernel_rfl) (fun _ => by kernel_rfl) (eqF_int Try.underlying56) (eqF_at (ft := 21) (off := 1) (a := .int .i32 a.r) (b := .int .i32 b.r) (by as_aux_lemma => kernel_rfl) (fun _ => by kernel_rfl) (fun _ => by kernel_rfl) (eqF_int Try.underlying21) (eqF_at (ft := 34) (off := 2) (a := .agg #[.int .i64 a.span_From, .int .i64 a.span_To]) (b := .agg #[.int .i64 b.span_From, .int .i64 b.span_To]) (by as_aux_lemma => kernel_rfl) (fun _ => by kernel_rfl) (fun _ => by kernel_rfl) (eqF_agg (dd := 9998) (by as_aux_lemma => kernel_rfl) (by as_aux_lemma => kernel_rfl) (eqF_at (ft := 3) (off := 0) (a := .int .i64 a.span_From) (b := .int .i64 b.span_From) (by as_aux_lemma => kernel_rfl) (fun _ => by kernel_rfl) (fun _ => by kernel_rfl) (eqF_int Try.underlying3) (eqF_at (ft := 3) (off := 1) (a := .int .i64 a.span_To) (b := .int .i64 b.span_To) (by as_aux_lemma => kernel_rfl) (fun _ => by kernel_rfl) (fun _ => by kernel_rfl) (eqF_int Try.underlying3) (eqF_end (n := 2) (by as_aux_lemma => kernel_rfl))))) (eqF_at (ft := 4) (off := 4) (a := .bool a.alone) (b := .bool b.alone) (by as_aux_lemma => kernel_rfl) (fun _ => by kernel_rfl) (fun _ => by kernel_rfl) (eqF_bool Try.underlying4) (eqF_end (n := 4) (by as_aux_lemma => kernel_rfl))))))) w
theorem bin_eql_69 {x y : Operand} (a b : Gword_scanner) (w : World) : (do eqGuard .eql 69 x y (.agg #[.int .i64 a.state, .int .i64 a.t_Kind, .int .i64 a.t_Span_From, .int .i64 a.t_Span_To, .int .i64 a.held_kind, .int .i32 a.held_r, .int .i64 a.held_span_From, .int .i64 a.held_span_To, .bool a.held_alone]) (.agg #[.int .i64 b.state, .int .i64 b.t_Kind, .int .i64 b.t_Span_From, .int .i64 b.t_Span_To, .int .i64 b.held_kind, .int .i32 b.held_r, .int .i64 b.held_span_From, .int .i64 b.held_span_To, .bool b.held_alone]); binOp .eql 69 (.agg #[.int .i64 a.state, .int .i64 a.t_Kind, .int .i64 a.t_Span_From, .int .i64 a.t_Span_To, .int .i64 a.held_kind, .int .i32 a.held_r, .int .i64 a.held_span_From, .int .i64 a.held_span_To, .bool a.held_alone]) (.agg #[.int .i64 b.state, .int .i64 b.t_Kind, .int .i64 b.t_Span_From, .int .i64 b.t_Span_To, .int .i64 b.held_kind, .int .i32 b.held_r, .int .i64 b.held_span_From, .int .i64 b.held_span_To, .bool b.held_alone]) : Sem Value).run Try.prog w = .ok (.bool (eq_Gword_scanner a b)) w :=
  bin_aggE (by as_aux_lemma => kernel_rfl) (show ((a.state == b.state) && (((a.t_Kind == b.t_Kind) && (((a.t_Span_From == b.t_Span_From) && ((a.t_Span_To == b.t_Span_To) && true)) && true)) && (((a.held_kind == b.held_kind) && ((a.held_r == b.held_r) && (((a.held_span_From == b.held_span_From) && ((a.held_span_To == b.held_span_To) && true)) && ((a.held_alone == b.held_alone) && true)))) && true))) = eq_Gword_scanner a b by simp [eq_Gword_scanner, Bool.and_assoc]) (eqF_agg (dd := 9999) (by as_aux_lemma => kernel_rfl) (by as_aux_lemma => kernel_rfl) (eqF_at (ft := 3) (off := 0) (a := .int .i64 a.state) (b := .int .i64 b.state) (by as_aux_lemma => kernel_rfl) (fun _ => by kernel_rfl) (fun _ => by kernel_rfl) (eqF_int Try.underlying3) (eqF_at (ft := 36) (off := 1) (a := .agg #[.int .i64 a.t_Kind, .int .i64 a.t_Span_From, .int .i64 a.t_Span_To]) (b := .agg #[.int .i64 b.t_Kind, .int .i64 b.t_Span_From, .int .i64 b.t_Span_To]) (by as_aux_lemma => kernel_rfl) (fun _ => by kernel_rfl) (fun _ => by kernel_rfl) (eqF_agg (dd := 9998) (by as_aux_lemma => kernel_rfl) (by as_aux_lemma => kernel_rfl) (eqF_at (ft := 3) (off := 0) (a := .int .i64 a.t_Kind) (b := .int .i64 b.t_Kind) (by as_aux_lemma => kernel_rfl) (fun _ => by kernel_rfl) (fun _ => by kernel_rfl) (eqF_int Try.underlying3) (eqF_at (ft := 34) (off := 1) (a := .agg #[.int .i64 a.t_Span_From, .int .i64 a.t_Span_To]) (b := .agg #[.int .i64 b.t_Span_From, .int .i64 b.t_Span_To]) (by as_aux_lemma => kernel_rfl) (fun _ => by kernel_rfl) (fun _ => by kernel_rfl) (eqF_agg (dd := 9997) (by as_aux_lemma => kernel_rfl) (by as_aux_lemma => kernel_rfl) (eqF_at (ft := 3) (off := 0) (a := .int .i64 a.t_Span_From) (b := .int .i64 b.t_Span_From) (by as_aux_lemma => kernel_rfl) (fun _ => by kernel_rfl) (fun _ => by kernel_rfl) (eqF_int Try.underlying3) (eqF_at (ft := 3) (off := 1) (a := .int .i64 a.t_Span_To) (b := .int .i64 b.t_Span_To) (by as_aux_lemma => kernel_rfl) (fun _ => by kernel_rfl) (fun _ => by kernel_rfl) (eqF_int Try.underlying3) (eqF_end (n := 2) (by as_aux_lemma => kernel_rfl))))) (eqF_end (n := 2) (by as_aux_lemma => kernel_rfl))))) (eqF_at (ft := 67) (off := 4) (a := .agg #[.int .i64 a.held_kind, .int .i32 a.held_r, .int .i64 a.held_span_From, .int .i64 a.held_span_To, .bool a.held_alone]) (b := .agg #[.int .i64 b.held_kind, .int .i32 b.held_r, .int .i64 b.held_span_From, .int .i64 b.held_span_To, .bool b.held_alone]) (by as_aux_lemma => kernel_rfl) (fun _ => by kernel_rfl) (fun _ => by kernel_rfl) (eqF_agg (dd := 9998) (by as_aux_lemma => kernel_rfl) (by as_aux_lemma => kernel_rfl) (eqF_at (ft := 56) (off := 0) (a := .int .i64 a.held_kind) (b := .int .i64 b.held_kind) (by as_aux_lemma => kernel_rfl) (fun _ => by kernel_rfl) (fun _ => by kernel_rfl) (eqF_int Try.underlying56) (eqF_at (ft := 21) (off := 1) (a := .int .i32 a.held_r) (b := .int .i32 b.held_r) (by as_aux_lemma => kernel_rfl) (fun _ => by kernel_rfl) (fun _ => by kernel_rfl) (eqF_int Try.underlying21) (eqF_at (ft := 34) (off := 2) (a := .agg #[.int .i64 a.held_span_From, .int .i64 a.held_span_To]) (b := .agg #[.int .i64 b.held_span_From, .int .i64 b.held_span_To]) (by as_aux_lemma => kernel_rfl) (fun _ => by kernel_rfl) (fun _ => by kernel_rfl) (eqF_agg (dd := 9997) (by as_aux_lemma => kernel_rfl) (by as_aux_lemma => kernel_rfl) (eqF_at (ft := 3) (off := 0) (a := .int .i64 a.held_span_From) (b := .int .i64 b.held_span_From) (by as_aux_lemma => kernel_rfl) (fun _ => by kernel_rfl) (fun _ => by kernel_rfl) (eqF_int Try.underlying3) (eqF_at (ft := 3) (off := 1) (a := .int .i64 a.held_span_To) (b := .int .i64 b.held_span_To) (by as_aux_lemma => kernel_rfl) (fun _ => by kernel_rfl) (fun _ => by kernel_rfl) (eqF_int Try.underlying3) (eqF_end (n := 2) (by as_aux_lemma => kernel_rfl))))) (eqF_at (ft := 4) (off := 4) (a := .bool a.held_alone) (b := .bool b.held_alone) (by as_aux_lemma => kernel_rfl) (fun _ => by kernel_rfl) (fun _ => by kernel_rfl) (eqF_bool Try.underlying4) (eqF_end (n := 4) (by as_aux_lemma => kernel_rfl))))))) (eqF_end (n := 3) (by as_aux_lemma => kernel_rfl)))))) w
theorem bin_neq_69 {x y : Operand} (a b : Gword_scanner) (w : World) : (do eqGuard .neq 69 x y (.agg #[.int .i64 a.state, .int .i64 a.t_Kind, .int .i64 a.t_Span_From, .int .i64 a.t_Span_To, .int .i64 a.held_kind, .int .i32 a.held_r, .int .i64 a.held_span_From, .int .i64 a.held_span_To, .bool a.held_alone]) (.agg #[.int .i64 b.state, .int .i64 b.t_Kind, .int .i64 b.t_Span_From, .int .i64 b.t_Span_To, .int .i64 b.held_kind, .int .i32 b.held_r, .int .i64 b.held_span_From, .int .i64 b.held_span_To, .bool b.held_alone]); binOp .neq 69 (.agg #[.int .i64 a.state, .int .i64 a.t_Kind, .int .i64 a.t_Span_From, .int .i64 a.t_Span_To, .int .i64 a.held_kind, .int .i32 a.held_r, .int .i64 a.held_span_From, .int .i64 a.held_span_To, .bool a.held_alone]) (.agg #[.int .i64 b.state, .int .i64 b.t_Kind, .int .i64 b.t_Span_From, .int .i64 b.t_Span_To, .int .i64 b.held_kind, .int .i32 b.held_r, .int .i64 b.held_span_From, .int .i64 b.held_span_To, .bool b.held_alone]) : Sem Value).run Try.prog w = .ok (.bool (!eq_Gword_scanner a b)) w :=
  bin_aggN (by as_aux_lemma => kernel_rfl) (show ((a.state == b.state) && (((a.t_Kind == b.t_Kind) && (((a.t_Span_From == b.t_Span_From) && ((a.t_Span_To == b.t_Span_To) && true)) && true)) && (((a.held_kind == b.held_kind) && ((a.held_r == b.held_r) && (((a.held_span_From == b.held_span_From) && ((a.held_span_To == b.held_span_To) && true)) && ((a.held_alone == b.held_alone) && true)))) && true))) = eq_Gword_scanner a b by simp [eq_Gword_scanner, Bool.and_assoc]) (eqF_agg (dd := 9999) (by as_aux_lemma => kernel_rfl) (by as_aux_lemma => kernel_rfl) (eqF_at (ft := 3) (off := 0) (a := .int .i64 a.state) (b := .int .i64 b.state) (by as_aux_lemma => kernel_rfl) (fun _ => by kernel_rfl) (fun _ => by kernel_rfl) (eqF_int Try.underlying3) (eqF_at (ft := 36) (off := 1) (a := .agg #[.int .i64 a.t_Kind, .int .i64 a.t_Span_From, .int .i64 a.t_Span_To]) (b := .agg #[.int .i64 b.t_Kind, .int .i64 b.t_Span_From, .int .i64 b.t_Span_To]) (by as_aux_lemma => kernel_rfl) (fun _ => by kernel_rfl) (fun _ => by kernel_rfl) (eqF_agg (dd := 9998) (by as_aux_lemma => kernel_rfl) (by as_aux_lemma => kernel_rfl) (eqF_at (ft := 3) (off := 0) (a := .int .i64 a.t_Kind) (b := .int .i64 b.t_Kind) (by as_aux_lemma => kernel_rfl) (fun _ => by kernel_rfl) (fun _ => by kernel_rfl) (eqF_int Try.underlying3) (eqF_at (ft := 34) (off := 1) (a := .agg #[.int .i64 a.t_Span_From, .int .i64 a.t_Span_To]) (b := .agg #[.int .i64 b.t_Span_From, .int .i64 b.t_Span_To]) (by as_aux_lemma => kernel_rfl) (fun _ => by kernel_rfl) (fun _ => by kernel_rfl) (eqF_agg (dd := 9997) (by as_aux_lemma => kernel_rfl) (by as_aux_lemma => kernel_rfl) (eqF_at (ft := 3) (off := 0) (a := .int .i64 a.t_Span_From) (b := .int .i64 b.t_Span_From) (by as_aux_lemma => kernel_rfl) (fun _ => by kernel_rfl) (fun _ => by kernel_rfl) (eqF_int Try.underlying3) (eqF_at (ft := 3) (off := 1) (a := .int .i64 a.t_Span_To) (b := .int .i64 b.t_Span_To) (by as_aux_lemma => kernel_rfl) (fun _ => by kernel_rfl) (fun _ => by kernel_rfl) (eqF_int Try.underlying3) (eqF_end (n := 2) (by as_aux_lemma => kernel_rfl))))) (eqF_end (n := 2) (by as_aux_lemma => kernel_rfl))))) (eqF_at (ft := 67) (off := 4) (a := .agg #[.int .i64 a.held_kind, .int .i32 a.held_r, .int .i64 a.held_span_From, .int .i64 a.held_span_To, .bool a.held_alone]) (b := .agg #[.int .i64 b.held_kind, .int .i32 b.held_r, .int .i64 b.held_span_From, .int .i64 b.held_span_To, .bool b.held_alone]) (by as_aux_lemma => kernel_rfl) (fun _ => by kernel_rfl) (fun _ => by kernel_rfl) (eqF_agg (dd := 9998) (by as_aux_lemma => kernel_rfl) (by as_aux_lemma => kernel_rfl) (eqF_at (ft := 56) (off := 0) (a := .int .i64 a.held_kind) (b := .int .i64 b.held_kind) (by as_aux_lemma => kernel_rfl) (fun _ => by kernel_rfl) (fun _ => by kernel_rfl) (eqF_int Try.underlying56) (eqF_at (ft := 21) (off := 1) (a := .int .i32 a.held_r) (b := .int .i32 b.held_r) (by as_aux_lemma => kernel_rfl) (fun _ => by kernel_rfl) (fun _ => by kernel_rfl) (eqF_int Try.underlying21) (eqF_at (ft := 34) (off := 2) (a := .agg #[.int .i64 a.held_span_From, .int .i64 a.held_span_To]) (b := .agg #[.int .i64 b.held_span_From, .int .i64 b.held_span_To]) (by as_aux_lemma => kernel_rfl) (fun _ => by kernel_rfl) (fun _ => by kernel_rfl) (eqF_agg (dd := 9997) (by as_aux_lemma => kernel_rfl) (by as_aux_lemma => kernel_rfl) (eqF_at (ft := 3) (off := 0) (a := .int .i64 a.held_span_From) (b := .int .i64 b.held_span_From) (by as_aux_lemma => kernel_rfl) (fun _ => by kernel_rfl) (fun _ => by kernel_rfl) (eqF_int Try.underlying3) (eqF_at (ft := 3) (off := 1) (a := .int .i64 a.held_span_To) (b := .int .i64 b.held_span_To) (by as_aux_lemma => kernel_rfl) (fun _ => by kernel_rfl) (fun _ => by kernel_rfl) (eqF_int Try.underlying3) (eqF_end (n := 2) (by as_aux_lemma => kernel_rfl))))) (eqF_at (ft := 4) (off := 4) (a := .bool a.held_alone) (b := .bool b.held_alone) (by as_aux_lemma => kernel_rfl) (fun _ => by kernel_rfl) (fun _ => by kernel_rfl) (eqF_bool Try.underlying4) (eqF_end (n := 4) (by as_aux_lemma => kernel_rfl))))))) (eqF_end (n := 3) (by as_aux_lemma => kernel_rfl)))))) w
theorem bin_eql_78 {x y : Operand} (a b : Gapi_Piece) (w : World) : (do eqGuard .eql 78 x y (.agg #[.int .i64 a.At, .int .i64 a.Width, .int .i32 a.Rune, .bool a.Broken]) (.agg #[.int .i64 b.At, .int .i64 b.Width, .int .i32 b.Rune, .bool b.Broken]); binOp .eql 78 (.agg #[.int .i64 a.At, .int .i64 a.Width, .int .i32 a.Rune, .bool a.Broken]) (.agg #[.int .i64 b.At, .int .i64 b.Width, .int .i32 b.Rune, .bool b.Broken]) : Sem Value).run Try.prog w = .ok (.bool (eq_Gapi_Piece a b)) w :=
  bin_aggE (by as_aux_lemma => kernel_rfl) (show ((a.At == b.At) && ((a.Width == b.Width) && ((a.Rune == b.Rune) && ((a.Broken == b.Broken) && true)))) = eq_Gapi_Piece a b by simp [eq_Gapi_Piece, Bool.and_assoc]) (eqF_agg (dd := 9999) (by as_aux_lemma => kernel_rfl) (by as_aux_lemma => kernel_rfl) (eqF_at (ft := 3) (off := 0) (a := .int .i64 a.At) (b := .int .i64 b.At) (by as_aux_lemma => kernel_rfl) (fun _ => by kernel_rfl) (fun _ => by kernel_rfl) (eqF_int Try.underlying3) (eqF_at (ft := 3) (off := 1) (a := .int .i64 a.Width) (b := .int .i64 b.Width) (by as_aux_lemma => kernel_rfl) (fun _ => by kernel_rfl) (fun _ => by kernel_rfl) (eqF_int Try.underlying3) (eqF_at (ft := 21) (off := 2) (a := .int .i32 a.Rune) (b := .int .i32 b.Rune) (by as_aux_lemma => kernel_rfl) (fun _ => by kernel_rfl) (fun _ => by kernel_rfl) (eqF_int Try.underlying21) (eqF_at (ft := 4) (off := 3) (a := .bool a.Broken) (b := .bool b.Broken) (by as_aux_lemma => kernel_rfl) (fun _ => by kernel_rfl) (fun _ => by kernel_rfl) (eqF_bool Try.underlying4) (eqF_end (n := 4) (by as_aux_lemma => kernel_rfl))))))) w
theorem bin_neq_78 {x y : Operand} (a b : Gapi_Piece) (w : World) : (do eqGuard .neq 78 x y (.agg #[.int .i64 a.At, .int .i64 a.Width, .int .i32 a.Rune, .bool a.Broken]) (.agg #[.int .i64 b.At, .int .i64 b.Width, .int .i32 b.Rune, .bool b.Broken]); binOp .neq 78 (.agg #[.int .i64 a.At, .int .i64 a.Width, .int .i32 a.Rune, .bool a.Broken]) (.agg #[.int .i64 b.At, .int .i64 b.Width, .int .i32 b.Rune, .bool b.Broken]) : Sem Value).run Try.prog w = .ok (.bool (!eq_Gapi_Piece a b)) w :=
  bin_aggN (by as_aux_lemma => kernel_rfl) (show ((a.At == b.At) && ((a.Width == b.Width) && ((a.Rune == b.Rune) && ((a.Broken == b.Broken) && true)))) = eq_Gapi_Piece a b by simp [eq_Gapi_Piece, Bool.and_assoc]) (eqF_agg (dd := 9999) (by as_aux_lemma => kernel_rfl) (by as_aux_lemma => kernel_rfl) (eqF_at (ft := 3) (off := 0) (a := .int .i64 a.At) (b := .int .i64 b.At) (by as_aux_lemma => kernel_rfl) (fun _ => by kernel_rfl) (fun _ => by kernel_rfl) (eqF_int Try.underlying3) (eqF_at (ft := 3) (off := 1) (a := .int .i64 a.Width) (b := .int .i64 b.Width) (by as_aux_lemma => kernel_rfl) (fun _ => by kernel_rfl) (fun _ => by kernel_rfl) (eqF_int Try.underlying3) (eqF_at (ft := 21) (off := 2) (a := .int .i32 a.Rune) (b := .int .i32 b.Rune) (by as_aux_lemma => kernel_rfl) (fun _ => by kernel_rfl) (fun _ => by kernel_rfl) (eqF_int Try.underlying21) (eqF_at (ft := 4) (off := 3) (a := .bool a.Broken) (b := .bool b.Broken) (by as_aux_lemma => kernel_rfl) (fun _ => by kernel_rfl) (fun _ => by kernel_rfl) (eqF_bool Try.underlying4) (eqF_end (n := 4) (by as_aux_lemma => kernel_rfl))))))) w
end Go.Proofs.Ytgeefojgkbglnaa
namespace Go.Proofs.Ytgeefojgkbglnaa
open Go.RowKit Go.Lib
set_option linter.unusedVariables false
set_option linter.unusedSimpArgs false
def ref01_None_v (r1 : Int) : Option Bool := bcond (decide ((r1 : Int) < 0)) ( some true
) ( bcond (decide ((1114111 : Int) < r1)) ( some true
) ( bcond (decide ((55296 : Int) ≤ r1)) ( some (decide ((r1 : Int) ≤ 57343))
) ( some false
)
)
)
set_option maxRecDepth 100000 in
set_option maxHeartbeats 4000000 in
theorem ref01_None_fn {r1 : Int} {r : Bool} (h : ref01_None_v r1 = some r) : FnP Try.prog 84 [.int .i32 r1] (.bool r) := by
 unfold ref01_None_v at h
 refine FnP.intro Try.func84 rfl Try.ntmps84 (by simp) ?_
 intro w0 K
 refine TC.seq (TC.region (TO.assign rfl (by decide) rfl (TO.nil (TX.next (TC.seq (TC.region (TO.move rfl (by decide) rfl (TO.bin rfl (by decide) rfl rfl bin_lss (TO.move rfl (by decide) rfl ?_)))))))))
 refine TO.split (s := 5) rfl (fun hb1 => ?_) (fun hb1 => ?_)
 ·
  have h := condT hb1 h
  refine TO.skip rfl (by decide) (TO.skip rfl (by decide) (TO.pick (b := true) rfl (by decide) rfl rfl (TO.move rfl (by decide) rfl (TO.skip rfl (by decide) (TO.skip rfl (by decide) (TO.skip rfl (by decide) (TO.skip rfl (by decide) (TO.skip rfl (by decide) (TO.skip rfl (by decide) (TO.pick (b := true) rfl (by decide) rfl rfl (TO.assign rfl (by decide) rfl (TO.nil (TX.next ?_)))))))))))))
  refine TC.ret ?_
  cases h
  exact TX.fin (rs := [.tmp 2]) () (.inl rfl) Try.results84 (.cons (.tmp rfl) .nil) rfl Splits.nil
 ·
  have h := condF hb1 h
  refine TO.move rfl (by decide) rfl (TO.bin rfl (by decide) rfl rfl bin_gtr (TO.pick (b := false) rfl (by decide) rfl rfl (TO.move rfl (by decide) rfl ?_)))
  refine TO.split (s := 9) rfl (fun hb2 => ?_) (fun hb2 => ?_)
  ·
   have h := condT hb2 h
   refine TO.skip rfl (by decide) (TO.skip rfl (by decide) (TO.skip rfl (by decide) (TO.skip rfl (by decide) (TO.skip rfl (by decide) (TO.skip rfl (by decide) (TO.pick (b := true) rfl (by decide) rfl rfl (TO.assign rfl (by decide) rfl (TO.nil (TX.next (TC.ret ?_))))))))))
   cases h
   exact TX.fin (rs := [.tmp 2]) () (.inl rfl) Try.results84 (.cons (.tmp rfl) .nil) rfl Splits.nil
  ·
   have h := condF hb2 h
   refine TO.move rfl (by decide) rfl (TO.bin rfl (by decide) rfl rfl bin_geq (TO.move rfl (by decide) rfl ?_))
   refine TO.split (s := 12) rfl (fun hb3 => ?_) (fun hb3 => ?_)
   ·
    have h := condT hb3 h
    refine TO.move rfl (by decide) rfl (TO.bin rfl (by decide) rfl rfl bin_leq (TO.pick (b := true) rfl (by decide) rfl rfl (TO.pick (b := false) rfl (by decide) rfl rfl (TO.assign rfl (by decide) rfl (TO.nil (TX.next (TC.ret ?_)))))))
    cases h
    exact TX.fin (rs := [.tmp 2]) () (.inl rfl) Try.results84 (.cons (.tmp rfl) .nil) rfl Splits.nil
   ·
    have h := condF hb3 h
    refine TO.skip rfl (by decide) (TO.skip rfl (by decide) (TO.pick (b := false) rfl (by decide) rfl rfl (TO.pick (b := false) rfl (by decide) rfl rfl (TO.assign rfl (by decide) rfl (TO.nil (TX.next (TC.ret ?_)))))))
    cases h
    exact TX.fin (rs := [.tmp 2]) () (.inl rfl) Try.results84 (.cons (.tmp rfl) .nil) rfl Splits.nil
def ref01_Width_v (r1 : Int) : Option Int := andThen (ref01_None_v r1) fun (r2 : Bool) => bcond (r2) ( some 0
) ( bcond (decide ((r1 : Int) < 128)) ( some 1
) ( bcond (decide ((r1 : Int) < 2048)) ( some 2
) ( bcond (decide ((r1 : Int) < 65536)) ( some 3
) ( some 4
)
)
)
)
set_option maxRecDepth 100000 in
set_option maxHeartbeats 4000000 in
theorem ref01_Width_fn {r1 : Int} {r : Int} (h : ref01_Width_v r1 = some r) : FnP Try.prog 85 [.int .i32 r1] (.int .i64 r) := by
 unfold ref01_Width_v at h
 refine FnP.intro Try.func85 rfl Try.ntmps85 (by simp) ?_
 intro w0 K
 refine TC.seq (TC.region (TO.assign rfl (by decide) rfl (TO.nil (TX.next (TC.seq (TC.block (TC.seq (TC.region (TO.move rfl (by decide) rfl ?_)))))))))
 obtain ⟨r2, hq1, h⟩ := andE h
 refine TO.callP (v := .bool r2) (vs := [.int .i32 r1]) rfl (by decide) rfl rfl rfl en_84 (ref01_None_fn hq1) (TO.assign rfl (by decide) rfl (TO.nil (TX.next ?_)))
 refine TC.condB rfl (fun hb1 => ?_) (fun hb1 => ?_)
 ·
  have h := condT hb1 h
  refine TC.seq (TC.region (TO.assign rfl (by decide) rfl (TO.nil (TX.next (TC.ret (TX.blockRet (TX.thenRet ?_)))))))
  cases h
  exact TX.fin (rs := [.tmp 2]) () (.inl rfl) Try.results85 (.cons (.tmp rfl) .nil) rfl Splits.nil
 ·
  have h := condF hb1 h
  refine TC.seq (TC.region (TO.move rfl (by decide) rfl (TO.bin rfl (by decide) rfl rfl bin_lss (TO.assign rfl (by decide) rfl (TO.nil (TX.next ?_))))))
  refine TC.condB rfl (fun hb2 => ?_) (fun hb2 => ?_)
  ·
   have h := condT hb2 h
   refine TC.seq (TC.region (TO.assign rfl (by decide) rfl (TO.nil (TX.next (TC.ret (TX.blockRet (TX.thenRet ?_)))))))
   cases h
   exact TX.fin (rs := [.tmp 2]) () (.inl rfl) Try.results85 (.cons (.tmp rfl) .nil) rfl Splits.nil
  ·
   have h := condF hb2 h
   refine TC.seq (TC.region (TO.move rfl (by decide) rfl (TO.bin rfl (by decide) rfl rfl bin_lss (TO.assign rfl (by decide) rfl (TO.nil (TX.next ?_))))))
   refine TC.condB rfl (fun hb3 => ?_) (fun hb3 => ?_)
   ·
    have h := condT hb3 h
    refine TC.seq (TC.region (TO.assign rfl (by decide) rfl (TO.nil (TX.next (TC.ret (TX.blockRet (TX.thenRet ?_)))))))
    cases h
    exact TX.fin (rs := [.tmp 2]) () (.inl rfl) Try.results85 (.cons (.tmp rfl) .nil) rfl Splits.nil
   ·
    have h := condF hb3 h
    refine TC.seq (TC.region (TO.move rfl (by decide) rfl (TO.bin rfl (by decide) rfl rfl bin_lss (TO.assign rfl (by decide) rfl (TO.nil (TX.next ?_))))))
    refine TC.condB rfl (fun hb4 => ?_) (fun hb4 => ?_)
    ·
     have h := condT hb4 h
     refine TC.seq (TC.region (TO.assign rfl (by decide) rfl (TO.nil (TX.next (TC.ret (TX.blockRet (TX.thenRet ?_)))))))
     cases h
     exact TX.fin (rs := [.tmp 2]) () (.inl rfl) Try.results85 (.cons (.tmp rfl) .nil) rfl Splits.nil
    ·
     have h := condF hb4 h
     refine TC.skip (TX.blockNormal (TX.next (TC.seq (TC.region (TO.assign rfl (by decide) rfl (TO.nil (TX.next (TC.ret ?_))))))))
     cases h
     exact TX.fin (rs := [.tmp 2]) () (.inl rfl) Try.results85 (.cons (.tmp rfl) .nil) rfl Splits.nil
def ref01_Encode_s1 (j2 : Int → (List Int) → Option ByteArray) (ag1 : Int → (List Int) → Int → Option ByteArray) (r8 : Int) (b5 : List Int) (i3 : Int) : Option ByteArray := bcond (decide ((0 : Int) < i3)) ( grd (I32 (128 + (Int.tmod r8 64))) <| andThen (getO b5 i3) fun (q1 : Int) => grd (I32 (Int.tdiv r8 64)) <| grd (I64 (i3 - 1)) <| ag1 (Int.tdiv r8 64) (b5.set (i3 : Int).toNat (IntKind.u8.wrap (128 + (Int.tmod r8 64)))) (i3 - 1)
) ( j2 r8 b5
)
def ref01_Encode_v (r1 : Int) : Option ByteArray := joinK (fun (j1 : Int → Option ByteArray) => andThen (ref01_None_v r1) fun (r3 : Bool) => bcond (r3) ( j1 65533
) ( j1 r1
)
) (fun (r2 : Int) => andThen (ref01_Width_v r2) fun (r4 : Int) => bcond ((r4 : Int) == 1) ( grd (∀ x ∈ ([IntKind.u8.wrap r2] : List Int), U8 x) <| some (bytesOf ([IntKind.u8.wrap r2] : List Int))
) ( joinK (fun (j2 : Int → (List Int) → Option ByteArray) => grd (0 ≤ r4 ∧ r4 ≤ 2147483648) <| grd (I64 (r4 - 1)) <| loopG (fun _ _ _ => none) (ref01_Encode_s1 j2) fuel r2 (List.replicate (r4 : Int).toNat 0) (r4 - 1)
) (fun (r5 : Int) (b2 : List Int) => grd (I64 (8 - r4)) <| grd (0 ≤ (8 - r4)) <| grd (I64 (256 - (shlI .i64 1 (8 - r4)))) <| grd (I64 r5) <| grd (I64 ((256 - (shlI .i64 1 (8 - r4))) + r5)) <| andThen (getO b2 0) fun (q2 : Int) => grd (∀ x ∈ b2.set (0 : Int).toNat (IntKind.u8.wrap ((256 - (shlI .i64 1 (8 - r4))) + r5)), U8 x) <| some (bytesOf (b2.set (0 : Int).toNat (IntKind.u8.wrap ((256 - (shlI .i64 1 (8 - r4))) + r5))))
)
)
)
set_option maxRecDepth 100000 in
set_option maxHeartbeats 4000000 in
theorem ref01_Encode_fn {r1 : Int} {r : ByteArray} (h : ref01_Encode_v r1 = some r) : FnP Try.prog 86 [.int .i32 r1] (.string r) := by
 unfold ref01_Encode_v at h
 refine FnP.intro Try.func86 rfl Try.ntmps86 (by simp) ?_
 intro w0 K
 obtain ⟨j1, hj1, h⟩ := joinE h
 refine TC.cutN (β := Int) 1 rfl (fun b => j1 b = some r) (fun b => []) (fun b => [(0, .int .i32 b)]) (fun b => []) (fun cut => ?_) ?_
 ·
  refine TC.seq (TC.region (TO.assign rfl (by decide) rfl (TO.nil (TX.next (cut (TC.seq (TC.region (TO.move rfl (by decide) rfl ?_))))))))
  obtain ⟨r3, hq1, h⟩ := andE h
  refine TO.callP (v := .bool r3) (vs := [.int .i32 r1]) rfl (by decide) rfl rfl rfl en_84 (ref01_None_fn hq1) (TO.nil (TX.next ?_))
  refine TC.condB rfl (fun hb1 => ?_) (fun hb1 => ?_)
  ·
   have h := condT hb1 h
   refine TC.region (TO.assign rfl (by decide) rfl (TO.nil ?_))
   exact TX.meetD 65533 h rfl (Sbs.cons rfl (Sbs.nil)) Splits.nil
  ·
   have h := condF hb1 h
   refine TC.skip ?_
   exact TX.meetD r1 h rfl (Sbs.cons rfl (Sbs.nil)) Splits.nil
 ·
  rintro r2 h
  subst hj1
  show TC _ _ _ _ _ ([]) _ _ [(0, .int .i32 r2)] []
  refine TC.seq (TC.region (TO.move rfl (by decide) rfl ?_))
  obtain ⟨r4, hq2, h⟩ := andE h
  refine TO.callP (v := .int .i64 r4) (vs := [.int .i32 r2]) rfl (by decide) rfl rfl rfl en_85 (ref01_Width_fn hq2) (TO.assign rfl (by decide) rfl (TO.nil (TX.next (TC.seq (TC.seq (TC.region (TO.move rfl (by decide) rfl (TO.bin rfl (by decide) rfl rfl bin_eql (TO.nil (TX.next ?_))))))))))
  refine TC.condB rfl (fun hb2 => ?_) (fun hb2 => ?_)
  ·
   have h := condT hb2 h
   refine TC.seq (TC.region (TO.move rfl (by decide) rfl (TO.conv rfl (by decide) rfl (conv_wrap Try.underlying21 Try.underlying5) ?_)))
   refine TO.buildSlice (cs := [.int .u8 (IntKind.u8.wrap r2)]) (te := 5) (ps := [(0, .tmp 13)]) rfl (by decide) rfl (fun _ => by kernel_rfl) (fun b1 => ?_)
   refine TO.toVec ([IntKind.u8.wrap r2] : List Int) (k := 0) rfl encI_len rfl (show 1 ≤ maxLen by decide) ?_
   show TO _ _ _ _ _ _ _ _ _ _ [vec (encI (.u8)) 5 1 (.slice (some ⟨b1, 0, none⟩) 1 1) ([IntKind.u8.wrap r2] : List Int)]
   obtain ⟨hg1, h⟩ := grdE h
   refine TO.rewE (k := 0) rfl (vec_byt hg1) ?_
   show TO _ _ _ _ _ _ _ _ _ _ [byt 5 (.slice (some ⟨b1, 0, none⟩) 1 1) (bytesOf ([IntKind.u8.wrap r2] : List Int))]
   refine TO.bytStr (k := 0) rfl (by decide) rfl rfl Try.underlying81 Try.underlying5 Try.underlying9 (TO.assign rfl (by decide) rfl (TO.nil (TX.next (TC.ret (TX.thenRet ?_)))))
   cases h
   exact TX.fin (rs := [.tmp 2]) () (.inl rfl) Try.results86 (.cons (.tmp rfl) .nil) rfl Splits.nil
  ·
   have h := condF hb2 h
   refine TC.skip (TX.next ?_)
   obtain ⟨j2, hj2, h⟩ := joinE h
   refine TC.cutN (β := Int × (List Int) × Value) 1 rfl (fun b => j2 b.1 b.2.1 = some r) (fun b => []) (fun b => [(0, .int .i32 b.1), (3, .int .i64 r4), (4, b.2.2)]) (fun b => [vec (encI (.u8)) 5 1 b.2.2 b.2.1]) (fun cut => ?_) ?_
   ·
    refine TC.seq (TC.region (TO.move rfl (by decide) rfl ?_))
    obtain ⟨hg2, h⟩ := grdE h
    refine TO.makeVec (z := 0) Try.underlying81 el_5 zr_5 encI_len rfl (by decide) rfl hg2 (fun v2 => ?_)
    refine TO.assign rfl (by decide) rfl (TO.nil (TX.next (cut (TC.seq (TC.region (TO.move rfl (by decide) rfl ?_))))))
    obtain ⟨hg3, h⟩ := grdE h
    refine TO.bin rfl (by decide) rfl rfl (bin_sub (r := r4 - 1) (IntWalk.i64_in _ hg3)) (TO.assign rfl (by decide) rfl (TO.nil (TX.next (TC.block ?_))))
    refine TC.loopD (β := Nat × Int × (List Int) × Int) (fun b => loopG (fun _ _ _ => none) (ref01_Encode_s1 j2) b.1 b.2.1 b.2.2.1 b.2.2.2 = some r) (fun b => []) (fun b => [(0, .int .i32 b.2.1), (3, .int .i64 r4), (4, v2), (5, .int .i64 b.2.2.2)]) (fun b => [vec (encI (.u8)) 5 1 v2 b.2.2.1]) (fun b => b.1) (fuel, r2, List.replicate (r4 : Int).toNat 0, r4 - 1) h rfl (Sbs.cons rfl (Sbs.cons rfl (Sbs.cons rfl (Sbs.cons rfl (Sbs.nil))))) (Splits.of [0] (by as_aux_lemma => kernel_rfl) rfl) ?_
    rintro ⟨n1, r8, b5, i3⟩ h
    cases n1 with
    | zero => exact noneE h
    | succ n1 =>
     obtain ⟨ag1, hag1⟩ : ∃ ag, ag = loopG (fun _ _ _ => none) (ref01_Encode_s1 j2) n1 := ⟨_, rfl⟩
     have h : ref01_Encode_s1 j2 ag1 r8 b5 i3 = some r := by rw [hag1]; exact h
     unfold ref01_Encode_s1 at h
     show TC _ _ _ _ _ ([]) _ _ [(0, .int .i32 r8), (3, .int .i64 r4), (4, v2), (5, .int .i64 i3)] [vec (encI (.u8)) 5 1 v2 b5]
     refine TC.seq (TC.seq (TC.region (TO.move rfl (by decide) rfl (TO.bin rfl (by decide) rfl rfl bin_gtr (TO.nil (TX.next ?_))))))
     refine TC.condB rfl (fun hb3 => ?_) (fun hb3 => ?_)
     ·
      have h := condT hb3 h
      refine TC.skip (TX.next (TC.seq (TC.block (TC.seq (TC.region (TO.move rfl (by decide) rfl (TO.move rfl (by decide) rfl (TO.move rfl (by decide) rfl (TO.bin rfl (by decide) rfl rfl (bin_rem (by decide) rfl) ?_)))))))))
      obtain ⟨hg4, h⟩ := grdE h
      refine TO.bin rfl (by decide) rfl rfl (bin_add (r := 128 + (Int.tmod r8 64)) (IntWalk.i32_in _ hg4)) (TO.conv rfl (by decide) rfl (conv_wrap Try.underlying21 Try.underlying5) ?_)
      obtain ⟨q1, hq3, h⟩ := andE h
      refine TO.indexVecI (k := 0) hq3 Try.underlying81 sz_5 rfl (by decide) rfl rfl rfl rfl ?_
      refine TO.storeVec (i := (i3 : Int).toNat) (j := 0) (k := 0) (q := q1) (q' := IntKind.u8.wrap (128 + (Int.tmod r8 64))) sz_5 encI_len rfl rfl rfl rfl (getO_get hq3) rfl (by decide) rfl (fun _ _ => rfl) ?_
      refine TO.nil (TX.next (TC.region (TO.move rfl (by decide) rfl ?_)))
      obtain ⟨hg5, h⟩ := grdE h
      refine TO.bin rfl (by decide) rfl rfl (bin_quo (by decide) (IntWalk.i32_in _ hg5)) (TO.assign rfl (by decide) rfl (TO.nil (TX.blockNormal (TX.next (TC.region (TO.move rfl (by decide) rfl ?_))))))
      obtain ⟨hg6, h⟩ := grdE h
      refine TO.bin rfl (by decide) rfl rfl (bin_sub (r := i3 - 1) (IntWalk.i64_in _ hg6)) (TO.assign rfl (by decide) rfl (TO.nil ?_))
      subst hag1
      exact TX.againD (n1, Int.tdiv r8 64, b5.set (i3 : Int).toNat (IntKind.u8.wrap (128 + (Int.tmod r8 64))), i3 - 1) h (Nat.lt_succ_self _) rfl (Sbs.cons rfl (Sbs.cons rfl (Sbs.cons rfl (Sbs.cons rfl (Sbs.nil))))) (Splits.of [0] (by as_aux_lemma => kernel_rfl) rfl)
     ·
      have h := condF hb3 h
      refine TC.exit (TX.thenExit (TX.thenExit (TX.blockHere ?_)))
      exact TX.meetD (r8, b5, v2) h rfl (Sbs.cons rfl (Sbs.cons rfl (Sbs.cons rfl (Sbs.nil)))) (Splits.of [0] (by as_aux_lemma => kernel_rfl) rfl)
   ·
    rintro ⟨r5, b2, v1⟩ h
    subst hj2
    show TC _ _ _ _ _ ([]) _ _ [(0, .int .i32 r5), (3, .int .i64 r4), (4, v1)] [vec (encI (.u8)) 5 1 v1 b2]
    refine TC.seq (TC.region (TO.move rfl (by decide) rfl (TO.move rfl (by decide) rfl ?_)))
    obtain ⟨hg7, h⟩ := grdE h
    refine TO.bin rfl (by decide) rfl rfl (bin_sub (r := 8 - r4) (IntWalk.i64_in _ hg7)) ?_
    obtain ⟨hg8, h⟩ := grdE h
    refine TO.bin rfl (by decide) rfl rfl (bin_shl hg8) ?_
    obtain ⟨hg9, h⟩ := grdE h
    refine TO.bin rfl (by decide) rfl rfl (bin_sub (r := 256 - (shlI .i64 1 (8 - r4))) (IntWalk.i64_in _ hg9)) (TO.move rfl (by decide) rfl ?_)
    obtain ⟨hg10, h⟩ := grdE h
    refine TO.conv rfl (by decide) rfl (conv_int (r := r5) Try.underlying21 Try.underlying3 (IntWalk.i64_in _ hg10)) ?_
    obtain ⟨hg11, h⟩ := grdE h
    refine TO.bin rfl (by decide) rfl rfl (bin_add (r := (256 - (shlI .i64 1 (8 - r4))) + r5) (IntWalk.i64_in _ hg11)) (TO.conv rfl (by decide) rfl (conv_wrap Try.underlying3 Try.underlying5) ?_)
    obtain ⟨q2, hq4, h⟩ := andE h
    refine TO.indexVecI (k := 0) hq4 Try.underlying81 sz_5 rfl (by decide) rfl rfl rfl rfl ?_
    refine TO.storeVec (i := (0 : Int).toNat) (j := 0) (k := 0) (q := q2) (q' := IntKind.u8.wrap ((256 - (shlI .i64 1 (8 - r4))) + r5)) sz_5 encI_len rfl rfl rfl rfl (getO_get hq4) rfl (by decide) rfl (fun _ _ => rfl) ?_
    refine TO.nil (TX.next (TC.seq (TC.region (TO.move rfl (by decide) rfl ?_))))
    obtain ⟨hg12, h⟩ := grdE h
    refine TO.rewE (k := 0) rfl (vec_byt hg12) ?_
    show TO _ _ _ _ _ _ _ _ _ _ [byt 5 v1 (bytesOf (b2.set (0 : Int).toNat (IntKind.u8.wrap ((256 - (shlI .i64 1 (8 - r4))) + r5))))]
    refine TO.bytStr (k := 0) rfl (by decide) rfl rfl Try.underlying81 Try.underlying5 Try.underlying9 (TO.assign rfl (by decide) rfl (TO.nil (TX.next (TC.ret ?_))))
    cases h
    exact TX.fin (rs := [.tmp 2]) () (.inl rfl) Try.results86 (.cons (.tmp rfl) .nil) rfl Splits.nil
def ref01_Form_s2 (s1 : ByteArray) (at1 : Int) (n3 : Int) (j4 : Int → Option (Int × Int)) (ag2 : Int → Int → Option (Int × Int)) (r5 : Int) (i3 : Int) : Option (Int × Int) := bcond (decide ((i3 : Int) < n3)) ( grd (I32 (r5 * 64)) <| grd (I64 (at1 + i3)) <| andThen (getB s1 (at1 + i3)) fun (c2 : Int) => grd (I32 c2) <| grd (I32 ((r5 * 64) + c2)) <| grd (I32 (((r5 * 64) + c2) - 128)) <| grd (I64 (i3 + 1)) <| ag2 (((r5 * 64) + c2) - 128) (i3 + 1)
) ( j4 r5
)
def ref01_Form_s1 (s1 : ByteArray) (at1 : Int) (j1 : Option (Int × Int)) (ag1 : Int → Option (Int × Int)) (n3 : Int) : Option (Int × Int) := bcond (decide ((n3 : Int) ≤ 4)) ( grd (I64 (at1 + n3)) <| bcond (decide (((at1 + n3) : Int) ≤ (s1.size : Int))) ( joinK (fun (j2 : Option (Int × Int)) => joinK (fun (j3 : Int → Option (Int × Int)) => andThen (getB s1 at1) fun (c1 : Int) => grd (I32 c1) <| bcond (decide ((1 : Int) < n3)) ( grd (I64 (8 - n3)) <| grd (0 ≤ (8 - n3)) <| grd (I32 (256 - (shlI .i32 1 (8 - n3)))) <| grd (I32 (c1 - (256 - (shlI .i32 1 (8 - n3))))) <| j3 (c1 - (256 - (shlI .i32 1 (8 - n3))))
) ( j3 c1
)
) (fun (r1 : Int) => joinK (fun (j4 : Int → Option (Int × Int)) => loopG (fun _ _ => none) (ref01_Form_s2 s1 at1 n3 j4) fuel r1 1
) (fun (r2 : Int) => andThen (ref01_None_v r2) fun (r6 : Bool) => bcond (!r6) ( andThen (ref01_Width_v r2) fun (r7 : Int) => bcond ((r7 : Int) == n3) ( andThen (ref01_Encode_v r2) fun (r8 : ByteArray) => grd (I64 (at1 + n3)) <| grd (0 ≤ (at1 : Int) ∧ (at1 : Int) ≤ (at1 + n3) ∧ (at1 + n3 : Int) ≤ (s1.size : Int)) <| bcond (decide (r8 = cutB s1 at1 (at1 + n3))) ( some (r2, n3)
) ( j2
)
) ( j2
)
) ( j2
)
)
)
) ( grd (I64 (n3 + 1)) <| ag1 (n3 + 1)
)
) ( j1
)
) ( j1
)
def ref01_Form_v (s1 : ByteArray) (at1 : Int) : Option (Int × Int) := joinK (fun (j1 : Option (Int × Int)) => loopG (fun _ => none) (ref01_Form_s1 s1 at1 j1) fuel 1
) ( some (0, 0)
)
set_option maxRecDepth 100000 in
set_option maxHeartbeats 4000000 in
theorem ref01_Form_fn {s1 : ByteArray} {at1 : Int} {r : (Int × Int)} (h : ref01_Form_v s1 at1 = some r) : FnP Try.prog 83 [.string s1, .int .i64 at1] (.tuple #[.int .i32 r.1, .int .i64 r.2]) := by
 unfold ref01_Form_v at h
 refine FnP.intro Try.func83 rfl Try.ntmps83 (by simp) ?_
 intro w0 K
 obtain ⟨j1, hj1, h⟩ := joinE h
 refine TC.cutN (β := Unit) 1 rfl (fun b => j1 = some r) (fun b => []) (fun b => []) (fun b => []) (fun cut => ?_) ?_
 ·
  refine TC.seq (TC.region (TO.assign rfl (by decide) rfl (TO.assign rfl (by decide) rfl (TO.nil (TX.next (cut (TC.seq (TC.region (TO.assign rfl (by decide) rfl (TO.nil (TX.next (TC.block ?_))))))))))))
  refine TC.loopD (β := Nat × Int) (fun b => loopG (fun _ => none) (ref01_Form_s1 s1 at1 j1) b.1 b.2 = some r) (fun b => []) (fun b => [(0, .string s1), (1, .int .i64 at1), (6, .int .i64 b.2)]) (fun b => []) (fun b => b.1) (fuel, 1) h rfl (Sbs.cons rfl (Sbs.cons rfl (Sbs.cons rfl (Sbs.nil)))) Splits.nil ?_
  rintro ⟨n4, n3⟩ h
  cases n4 with
  | zero => exact noneE h
  | succ n4 =>
   obtain ⟨ag1, hag1⟩ : ∃ ag, ag = loopG (fun _ => none) (ref01_Form_s1 s1 at1 j1) n4 := ⟨_, rfl⟩
   have h : ref01_Form_s1 s1 at1 j1 ag1 n3 = some r := by rw [hag1]; exact h
   unfold ref01_Form_s1 at h
   show TC _ _ _ _ _ ([]) _ _ [(0, .string s1), (1, .int .i64 at1), (6, .int .i64 n3)] []
   refine TC.seq (TC.seq (TC.region (TO.move rfl (by decide) rfl (TO.bin rfl (by decide) rfl rfl bin_leq (TO.move rfl (by decide) rfl ?_)))))
   refine TO.split (s := 11) rfl (fun hb1 => ?_) (fun hb1 => ?_)
   ·
    have h := condT hb1 h
    refine TO.move rfl (by decide) rfl (TO.move rfl (by decide) rfl ?_)
    obtain ⟨hg1, h⟩ := grdE h
    refine TO.bin rfl (by decide) rfl rfl (bin_add (r := at1 + n3) (IntWalk.i64_in _ hg1)) (TO.move rfl (by decide) rfl (TO.lenStr rfl (by decide) rfl Try.underlying9 (TO.bin rfl (by decide) rfl rfl bin_leq (TO.pick (b := true) rfl (by decide) rfl rfl (TO.nil (TX.next ?_))))))
    refine TC.condB rfl (fun hb2 => ?_) (fun hb2 => ?_)
    ·
     have h := condT hb2 h
     refine TC.skip (TX.next ?_)
     obtain ⟨j2, hj2, h⟩ := joinE h
     refine TC.cutN (β := Unit) 0 rfl (fun b => j2 = some r) (fun b => []) (fun b => [(0, .string s1), (1, .int .i64 at1), (6, .int .i64 n3), (12, .int .i64 at1), (13, .int .i64 n3), (14, .int .i64 (at1 + n3)), (15, .string s1), (16, .int .i64 (s1.size : Int)), (17, .bool (decide (((at1 + n3) : Int) ≤ (s1.size : Int))))]) (fun b => []) (fun cut => ?_) ?_
     ·
      refine cut (TC.block ?_)
      obtain ⟨j3, hj3, h⟩ := joinE h
      refine TC.cutN (β := Int) 1 rfl (fun b => j3 b = some r) (fun b => []) (fun b => [(0, .string s1), (1, .int .i64 at1), (6, .int .i64 n3), (7, .int .i32 b), (12, .int .i64 at1), (13, .int .i64 n3), (14, .int .i64 (at1 + n3)), (15, .string s1), (16, .int .i64 (s1.size : Int)), (17, .bool (decide (((at1 + n3) : Int) ≤ (s1.size : Int))))]) (fun b => []) (fun cut => ?_) ?_
      ·
       refine TC.seq (TC.region (TO.move rfl (by decide) rfl (TO.move rfl (by decide) rfl ?_)))
       obtain ⟨c1, hq1, h⟩ := andE h
       refine TO.index rfl (by decide) rfl rfl (index_stringI Try.underlying9 hq1) ?_
       obtain ⟨hg2, h⟩ := grdE h
       refine TO.conv rfl (by decide) rfl (conv_int (r := c1) Try.underlying5 Try.underlying21 (IntWalk.i32_in _ hg2)) (TO.assign rfl (by decide) rfl (TO.nil (TX.next (cut (TC.seq (TC.region (TO.move rfl (by decide) rfl (TO.bin rfl (by decide) rfl rfl bin_gtr (TO.nil (TX.next ?_))))))))))
       refine TC.condB rfl (fun hb3 => ?_) (fun hb3 => ?_)
       ·
        have h := condT hb3 h
        refine TC.region (TO.move rfl (by decide) rfl (TO.move rfl (by decide) rfl ?_))
        obtain ⟨hg3, h⟩ := grdE h
        refine TO.bin rfl (by decide) rfl rfl (bin_sub (r := 8 - n3) (IntWalk.i64_in _ hg3)) ?_
        obtain ⟨hg4, h⟩ := grdE h
        refine TO.bin rfl (by decide) rfl rfl (bin_shl hg4) ?_
        obtain ⟨hg5, h⟩ := grdE h
        refine TO.bin rfl (by decide) rfl rfl (bin_sub (r := 256 - (shlI .i32 1 (8 - n3))) (IntWalk.i32_in _ hg5)) ?_
        obtain ⟨hg6, h⟩ := grdE h
        refine TO.bin rfl (by decide) rfl rfl (bin_sub (r := c1 - (256 - (shlI .i32 1 (8 - n3)))) (IntWalk.i32_in _ hg6)) (TO.assign rfl (by decide) rfl (TO.nil ?_))
        exact TX.meetD (c1 - (256 - (shlI .i32 1 (8 - n3)))) h rfl (Sbs.cons rfl (Sbs.cons rfl (Sbs.cons rfl (Sbs.cons rfl (Sbs.cons rfl (Sbs.cons rfl (Sbs.cons rfl (Sbs.cons rfl (Sbs.cons rfl (Sbs.cons rfl (Sbs.nil))))))))))) Splits.nil
       ·
        have h := condF hb3 h
        refine TC.skip ?_
        exact TX.meetD c1 h rfl (Sbs.cons rfl (Sbs.cons rfl (Sbs.cons rfl (Sbs.cons rfl (Sbs.cons rfl (Sbs.cons rfl (Sbs.cons rfl (Sbs.cons rfl (Sbs.cons rfl (Sbs.cons rfl (Sbs.nil))))))))))) Splits.nil
      ·
       rintro r1 h
       subst hj3
       show TC _ _ _ _ _ ([]) _ _ [(0, .string s1), (1, .int .i64 at1), (6, .int .i64 n3), (7, .int .i32 r1), (12, .int .i64 at1), (13, .int .i64 n3), (14, .int .i64 (at1 + n3)), (15, .string s1), (16, .int .i64 (s1.size : Int)), (17, .bool (decide (((at1 + n3) : Int) ≤ (s1.size : Int))))] []
       obtain ⟨j4, hj4, h⟩ := joinE h
       refine TC.cutN (β := Int) 0 rfl (fun b => j4 b = some r) (fun b => []) (fun b => [(0, .string s1), (1, .int .i64 at1), (6, .int .i64 n3), (7, .int .i32 b), (12, .int .i64 at1), (13, .int .i64 n3), (14, .int .i64 (at1 + n3)), (15, .string s1), (16, .int .i64 (s1.size : Int)), (17, .bool (decide (((at1 + n3) : Int) ≤ (s1.size : Int))))]) (fun b => []) (fun cut => ?_) ?_
       ·
        refine cut (TC.seq (TC.region (TO.assign rfl (by decide) rfl (TO.nil (TX.next (TC.block ?_))))))
        refine TC.loopD (β := Nat × Int × Int) (fun b => loopG (fun _ _ => none) (ref01_Form_s2 s1 at1 n3 j4) b.1 b.2.1 b.2.2 = some r) (fun b => []) (fun b => [(0, .string s1), (1, .int .i64 at1), (6, .int .i64 n3), (7, .int .i32 b.2.1), (8, .int .i64 b.2.2), (12, .int .i64 at1), (13, .int .i64 n3), (14, .int .i64 (at1 + n3)), (15, .string s1), (16, .int .i64 (s1.size : Int)), (17, .bool (decide (((at1 + n3) : Int) ≤ (s1.size : Int))))]) (fun b => []) (fun b => b.1) (fuel, r1, 1) h rfl (Sbs.cons rfl (Sbs.cons rfl (Sbs.cons rfl (Sbs.cons rfl (Sbs.cons rfl (Sbs.cons rfl (Sbs.cons rfl (Sbs.cons rfl (Sbs.cons rfl (Sbs.cons rfl (Sbs.cons rfl (Sbs.nil)))))))))))) Splits.nil ?_
        rintro ⟨n5, r5, i3⟩ h
        cases n5 with
        | zero => exact noneE h
        | succ n5 =>
         obtain ⟨ag2, hag2⟩ : ∃ ag, ag = loopG (fun _ _ => none) (ref01_Form_s2 s1 at1 n3 j4) n5 := ⟨_, rfl⟩
         have h : ref01_Form_s2 s1 at1 n3 j4 ag2 r5 i3 = some r := by rw [hag2]; exact h
         unfold ref01_Form_s2 at h
         show TC _ _ _ _ _ ([]) _ _ [(0, .string s1), (1, .int .i64 at1), (6, .int .i64 n3), (7, .int .i32 r5), (8, .int .i64 i3), (12, .int .i64 at1), (13, .int .i64 n3), (14, .int .i64 (at1 + n3)), (15, .string s1), (16, .int .i64 (s1.size : Int)), (17, .bool (decide (((at1 + n3) : Int) ≤ (s1.size : Int))))] []
         refine TC.seq (TC.seq (TC.region (TO.move rfl (by decide) rfl (TO.move rfl (by decide) rfl (TO.bin rfl (by decide) rfl rfl bin_lss (TO.nil (TX.next ?_)))))))
         refine TC.condB rfl (fun hb4 => ?_) (fun hb4 => ?_)
         ·
          have h := condT hb4 h
          refine TC.skip (TX.next (TC.seq (TC.block (TC.region (TO.move rfl (by decide) rfl ?_)))))
          obtain ⟨hg7, h⟩ := grdE h
          refine TO.bin rfl (by decide) rfl rfl (bin_mul (r := r5 * 64) (IntWalk.i32_in _ hg7)) (TO.move rfl (by decide) rfl (TO.move rfl (by decide) rfl (TO.move rfl (by decide) rfl ?_)))
          obtain ⟨hg8, h⟩ := grdE h
          refine TO.bin rfl (by decide) rfl rfl (bin_add (r := at1 + i3) (IntWalk.i64_in _ hg8)) ?_
          obtain ⟨c2, hq2, h⟩ := andE h
          refine TO.index rfl (by decide) rfl rfl (index_stringI Try.underlying9 hq2) ?_
          obtain ⟨hg9, h⟩ := grdE h
          refine TO.conv rfl (by decide) rfl (conv_int (r := c2) Try.underlying5 Try.underlying21 (IntWalk.i32_in _ hg9)) ?_
          obtain ⟨hg10, h⟩ := grdE h
          refine TO.bin rfl (by decide) rfl rfl (bin_add (r := (r5 * 64) + c2) (IntWalk.i32_in _ hg10)) ?_
          obtain ⟨hg11, h⟩ := grdE h
          refine TO.bin rfl (by decide) rfl rfl (bin_sub (r := ((r5 * 64) + c2) - 128) (IntWalk.i32_in _ hg11)) (TO.assign rfl (by decide) rfl (TO.nil (TX.blockNormal (TX.next (TC.region (TO.move rfl (by decide) rfl ?_))))))
          obtain ⟨hg12, h⟩ := grdE h
          refine TO.bin rfl (by decide) rfl rfl (bin_add (r := i3 + 1) (IntWalk.i64_in _ hg12)) (TO.assign rfl (by decide) rfl (TO.nil ?_))
          subst hag2
          exact TX.againD (n5, ((r5 * 64) + c2) - 128, i3 + 1) h (Nat.lt_succ_self _) rfl (Sbs.cons rfl (Sbs.cons rfl (Sbs.cons rfl (Sbs.cons rfl (Sbs.cons rfl (Sbs.cons rfl (Sbs.cons rfl (Sbs.cons rfl (Sbs.cons rfl (Sbs.cons rfl (Sbs.cons rfl (Sbs.nil)))))))))))) Splits.nil
         ·
          have h := condF hb4 h
          refine TC.exit (TX.thenExit (TX.thenExit (TX.blockHere ?_)))
          exact TX.meetD r5 h rfl (Sbs.cons rfl (Sbs.cons rfl (Sbs.cons rfl (Sbs.cons rfl (Sbs.cons rfl (Sbs.cons rfl (Sbs.cons rfl (Sbs.cons rfl (Sbs.cons rfl (Sbs.cons rfl (Sbs.nil))))))))))) Splits.nil
       ·
        rintro r2 h
        subst hj4
        show TC _ _ _ _ _ ([]) _ _ [(0, .string s1), (1, .int .i64 at1), (6, .int .i64 n3), (7, .int .i32 r2), (12, .int .i64 at1), (13, .int .i64 n3), (14, .int .i64 (at1 + n3)), (15, .string s1), (16, .int .i64 (s1.size : Int)), (17, .bool (decide (((at1 + n3) : Int) ≤ (s1.size : Int))))] []
        refine TC.seq ?_
        obtain ⟨r6, hq3, h⟩ := andE h
        refine TC.bySplit (b := !r6) (fun hb5 => ?_) (fun hb5 => ?_)
        ·
         have h := condT hb5 h
         obtain ⟨r7, hq4, h⟩ := andE h
         refine TC.bySplit (b := (r7 : Int) == n3) (fun hb6 => ?_) (fun hb6 => ?_)
         ·
          have h := condT hb6 h
          obtain ⟨r8, hq5, h⟩ := andE h
          obtain ⟨hg13, h⟩ := grdE h
          obtain ⟨hg14, h⟩ := grdE h
          refine TC.drawN 18 [(0, 48, .int .i32 r2), (1, 49, .bool r6), (2, 50, .bool true), (3, 51, .bool true), (4, 52, .int .i32 r2), (5, 53, .int .i64 r7), (6, 54, .int .i64 n3), (7, 55, .bool true), (8, 56, .bool true), (9, 57, .bool true), (10, 58, .int .i32 r2), (11, 59, .string r8), (12, 60, .string s1), (13, 61, .int .i64 at1), (14, 62, .int .i64 at1), (15, 63, .int .i64 n3), (16, 64, .int .i64 (at1 + n3)), (17, 65, .string (cutB s1 at1 (at1 + n3)))] mixed (by as_aux_lemma => kernel_rfl) (by as_aux_lemma => kernel_rfl) (by decide) (by rfl) (by as_aux_lemma => kernel_rfl) (by as_aux_lemma => kernel_rfl) (DrawPre.cons ?_ (DrawPre.cons ?_ (DrawPre.cons ?_ (DrawPre.cons ?_ (DrawPre.cons ?_ (DrawPre.cons ?_ (DrawPre.cons ?_ (DrawPre.cons ?_ (DrawPre.cons ?_ (DrawPre.cons ?_ (DrawPre.cons ?_ (DrawPre.cons ?_ (DrawPre.cons ?_ (DrawPre.cons ?_ (DrawPre.cons ?_ (DrawPre.cons ?_ (DrawPre.cons ?_ (DrawPre.cons ?_ DrawPre.nil)))))))))))))))))) ?_
          ·
           intro D hn hd hcl hu hi
           refine TO.move rfl (by decide) (dl_old (by rfl) rfl) ?_
           exact TX.quiet 0 hu hi rfl
          ·
           intro D hn hd hcl hu hi
           refine TO.callP (v := .bool r6) (vs := [.int .i32 r2]) rfl (by decide) rfl (evL.cons (dl_lookup (m := 0) hu rfl (hd 0 (by decide))) evL.nil) rfl en_84 (ref01_None_fn hq3) ?_
           exact TX.quiet 1 hu hi rfl
          ·
           intro D hn hd hcl hu hi
           refine TO.un rfl (by decide) (dl_lookup (m := 1) hu rfl (hd 1 (by decide))) un_not (TO.rewH (show Value.bool (!r6) = Value.bool true from congrArg Value.bool hb5) ?_)
           exact TX.quiet 2 hu hi rfl
          ·
           intro D hn hd hcl hu hi
           refine TO.move rfl (by decide) (dl_lookup (m := 2) hu rfl (hd 2 (by decide))) ?_
           exact TX.quiet 3 hu hi rfl
          ·
           intro D hn hd hcl hu hi
           refine TO.move (gd_T rfl (dl_lookup (m := 3) hu rfl (hd 3 (by decide)))) (by decide) (dl_old (by rfl) rfl) ?_
           exact TX.quiet 4 hu hi rfl
          ·
           intro D hn hd hcl hu hi
           refine TO.callP (v := .int .i64 r7) (vs := [.int .i32 r2]) (gd_T rfl (dl_lookup (m := 3) hu rfl (hd 3 (by decide)))) (by decide) rfl (evL.cons (dl_lookup (m := 4) hu rfl (hd 4 (by decide))) evL.nil) rfl en_85 (ref01_Width_fn hq4) ?_
           exact TX.quiet 5 hu hi rfl
          ·
           intro D hn hd hcl hu hi
           refine TO.move (gd_T rfl (dl_lookup (m := 3) hu rfl (hd 3 (by decide)))) (by decide) (dl_old (by rfl) rfl) ?_
           exact TX.quiet 6 hu hi rfl
          ·
           intro D hn hd hcl hu hi
           refine TO.bin (gd_T rfl (dl_lookup (m := 3) hu rfl (hd 3 (by decide)))) (by decide) (dl_lookup (m := 5) hu rfl (hd 5 (by decide))) (dl_lookup (m := 6) hu rfl (hd 6 (by decide))) bin_eql (TO.rewH (show Value.bool ((r7 : Int) == n3) = Value.bool true from congrArg Value.bool hb6) ?_)
           exact TX.quiet 7 hu hi rfl
          ·
           intro D hn hd hcl hu hi
           refine TO.pick (b := true) rfl (by decide) (dl_lookup (m := 3) hu rfl (hd 3 (by decide))) (dl_lookup (m := 7) hu rfl (hd 7 (by decide))) ?_
           exact TX.quiet 8 hu hi rfl
          ·
           intro D hn hd hcl hu hi
           refine TO.move rfl (by decide) (dl_lookup (m := 8) hu rfl (hd 8 (by decide))) ?_
           exact TX.quiet 9 hu hi rfl
          ·
           intro D hn hd hcl hu hi
           refine TO.move (gd_T rfl (dl_lookup (m := 9) hu rfl (hd 9 (by decide)))) (by decide) (dl_old (by rfl) rfl) ?_
           exact TX.quiet 10 hu hi rfl
          ·
           intro D hn hd hcl hu hi
           refine TO.callP (v := .string r8) (vs := [.int .i32 r2]) (gd_T rfl (dl_lookup (m := 9) hu rfl (hd 9 (by decide)))) (by decide) rfl (evL.cons (dl_lookup (m := 10) hu rfl (hd 10 (by decide))) evL.nil) rfl en_86 (ref01_Encode_fn hq5) ?_
           exact TX.quiet 11 hu hi rfl
          ·
           intro D hn hd hcl hu hi
           refine TO.move (gd_T rfl (dl_lookup (m := 9) hu rfl (hd 9 (by decide)))) (by decide) (dl_old (by rfl) rfl) ?_
           exact TX.quiet 12 hu hi rfl
          ·
           intro D hn hd hcl hu hi
           refine TO.move (gd_T rfl (dl_lookup (m := 9) hu rfl (hd 9 (by decide)))) (by decide) (dl_old (by rfl) rfl) ?_
           exact TX.quiet 13 hu hi rfl
          ·
           intro D hn hd hcl hu hi
           refine TO.move (gd_T rfl (dl_lookup (m := 9) hu rfl (hd 9 (by decide)))) (by decide) (dl_old (by rfl) rfl) ?_
           exact TX.quiet 14 hu hi rfl
          ·
           intro D hn hd hcl hu hi
           refine TO.move (gd_T rfl (dl_lookup (m := 9) hu rfl (hd 9 (by decide)))) (by decide) (dl_old (by rfl) rfl) ?_
           exact TX.quiet 15 hu hi rfl
          ·
           intro D hn hd hcl hu hi
           refine TO.bin (gd_T rfl (dl_lookup (m := 9) hu rfl (hd 9 (by decide)))) (by decide) (dl_lookup (m := 14) hu rfl (hd 14 (by decide))) (dl_lookup (m := 15) hu rfl (hd 15 (by decide))) (bin_add (r := at1 + n3) (IntWalk.i64_in _ hg13)) ?_
           exact TX.quiet 16 hu hi rfl
          ·
           intro D hn hd hcl hu hi
           refine TO.slice (gd_T rfl (dl_lookup (m := 9) hu rfl (hd 9 (by decide)))) (by decide) (dl_lookup (m := 12) hu rfl (hd 12 (by decide))) (evO.some (dl_lookup (m := 13) hu rfl (hd 13 (by decide)))) (evO.some (dl_lookup (m := 16) hu rfl (hd 16 (by decide)))) (slice_stringI (i := at1) (j := at1 + n3) Try.underlying9 (.inr rfl) (.inr rfl) hg14) ?_
           exact TX.quiet 17 hu hi rfl
          refine TO.bin rfl (by decide) rfl rfl bin_seql (TO.pick (b := true) rfl (by decide) rfl rfl (TO.nil (TX.next ?_)))
          refine TC.condB rfl (fun hb7 => ?_) (fun hb7 => ?_)
          ·
           have h := condT hb7 h
           refine TC.seq (TC.region (TO.move rfl (by decide) rfl (TO.move rfl (by decide) rfl (TO.assign rfl (by decide) rfl (TO.assign rfl (by decide) rfl (TO.nil (TX.next (TC.ret (TX.blockRet (TX.thenRet (TX.thenRet (TX.blockRet (TX.thenRet ?_)))))))))))))
           cases h
           exact TX.fin (rs := [.tmp 4, .tmp 5]) () (.inl rfl) Try.results83 (.cons (.tmp rfl) (.cons (.tmp rfl) .nil)) rfl Splits.nil
          ·
           have h := condF hb7 h
           refine TC.skip (TX.blockNormal ?_)
           exact TX.meetD () h rfl (Sbs.cons rfl (Sbs.cons rfl (Sbs.cons rfl (Sbs.cons rfl (Sbs.cons rfl (Sbs.cons rfl (Sbs.cons rfl (Sbs.cons rfl (Sbs.cons rfl (Sbs.nil)))))))))) Splits.nil
         ·
          have h := condF hb6 h
          refine TC.drawN 18 [(0, 48, .int .i32 r2), (1, 49, .bool r6), (2, 50, .bool true), (3, 51, .bool true), (4, 52, .int .i32 r2), (5, 53, .int .i64 r7), (6, 54, .int .i64 n3), (7, 55, .bool false), (8, 56, .bool false), (9, 57, .bool false), (10, 58, undef), (11, 59, undef), (12, 60, undef), (13, 61, undef), (14, 62, undef), (15, 63, undef), (16, 64, undef), (17, 65, undef)] mixed (by as_aux_lemma => kernel_rfl) (by as_aux_lemma => kernel_rfl) (by decide) (by rfl) (by as_aux_lemma => kernel_rfl) (by as_aux_lemma => kernel_rfl) (DrawPre.cons ?_ (DrawPre.cons ?_ (DrawPre.cons ?_ (DrawPre.cons ?_ (DrawPre.cons ?_ (DrawPre.cons ?_ (DrawPre.cons ?_ (DrawPre.cons ?_ (DrawPre.cons ?_ (DrawPre.cons ?_ (DrawPre.cons ?_ (DrawPre.cons ?_ (DrawPre.cons ?_ (DrawPre.cons ?_ (DrawPre.cons ?_ (DrawPre.cons ?_ (DrawPre.cons ?_ (DrawPre.cons ?_ DrawPre.nil)))))))))))))))))) ?_
          ·
           intro D hn hd hcl hu hi
           refine TO.move rfl (by decide) (dl_old (by rfl) rfl) ?_
           exact TX.quiet 0 hu hi rfl
          ·
           intro D hn hd hcl hu hi
           refine TO.callP (v := .bool r6) (vs := [.int .i32 r2]) rfl (by decide) rfl (evL.cons (dl_lookup (m := 0) hu rfl (hd 0 (by decide))) evL.nil) rfl en_84 (ref01_None_fn hq3) ?_
           exact TX.quiet 1 hu hi rfl
          ·
           intro D hn hd hcl hu hi
           refine TO.un rfl (by decide) (dl_lookup (m := 1) hu rfl (hd 1 (by decide))) un_not (TO.rewH (show Value.bool (!r6) = Value.bool true from congrArg Value.bool hb5) ?_)
           exact TX.quiet 2 hu hi rfl
          ·
           intro D hn hd hcl hu hi
           refine TO.move rfl (by decide) (dl_lookup (m := 2) hu rfl (hd 2 (by decide))) ?_
           exact TX.quiet 3 hu hi rfl
          ·
           intro D hn hd hcl hu hi
           refine TO.move (gd_T rfl (dl_lookup (m := 3) hu rfl (hd 3 (by decide)))) (by decide) (dl_old (by rfl) rfl) ?_
           exact TX.quiet 4 hu hi rfl
          ·
           intro D hn hd hcl hu hi
           refine TO.callP (v := .int .i64 r7) (vs := [.int .i32 r2]) (gd_T rfl (dl_lookup (m := 3) hu rfl (hd 3 (by decide)))) (by decide) rfl (evL.cons (dl_lookup (m := 4) hu rfl (hd 4 (by decide))) evL.nil) rfl en_85 (ref01_Width_fn hq4) ?_
           exact TX.quiet 5 hu hi rfl
          ·
           intro D hn hd hcl hu hi
           refine TO.move (gd_T rfl (dl_lookup (m := 3) hu rfl (hd 3 (by decide)))) (by decide) (dl_old (by rfl) rfl) ?_
           exact TX.quiet 6 hu hi rfl
          ·
           intro D hn hd hcl hu hi
           refine TO.bin (gd_T rfl (dl_lookup (m := 3) hu rfl (hd 3 (by decide)))) (by decide) (dl_lookup (m := 5) hu rfl (hd 5 (by decide))) (dl_lookup (m := 6) hu rfl (hd 6 (by decide))) bin_eql (TO.rewH (show Value.bool ((r7 : Int) == n3) = Value.bool false from congrArg Value.bool hb6) ?_)
           exact TX.quiet 7 hu hi rfl
          ·
           intro D hn hd hcl hu hi
           refine TO.pick (b := true) rfl (by decide) (dl_lookup (m := 3) hu rfl (hd 3 (by decide))) (dl_lookup (m := 7) hu rfl (hd 7 (by decide))) ?_
           exact TX.quiet 8 hu hi rfl
          ·
           intro D hn hd hcl hu hi
           refine TO.move rfl (by decide) (dl_lookup (m := 8) hu rfl (hd 8 (by decide))) ?_
           exact TX.quiet 9 hu hi rfl
          ·
           intro D hn hd hcl hu hi
           refine TO.skip (gd_F rfl (dl_lookup (m := 9) hu rfl (hd 9 (by decide)))) (by decide) ?_
           exact TX.quiet 10 hu hi rfl
          ·
           intro D hn hd hcl hu hi
           refine TO.skip (gd_F rfl (dl_lookup (m := 9) hu rfl (hd 9 (by decide)))) (by decide) ?_
           exact TX.quiet 11 hu hi rfl
          ·
           intro D hn hd hcl hu hi
           refine TO.skip (gd_F rfl (dl_lookup (m := 9) hu rfl (hd 9 (by decide)))) (by decide) ?_
           exact TX.quiet 12 hu hi rfl
          ·
           intro D hn hd hcl hu hi
           refine TO.skip (gd_F rfl (dl_lookup (m := 9) hu rfl (hd 9 (by decide)))) (by decide) ?_
           exact TX.quiet 13 hu hi rfl
          ·
           intro D hn hd hcl hu hi
           refine TO.skip (gd_F rfl (dl_lookup (m := 9) hu rfl (hd 9 (by decide)))) (by decide) ?_
           exact TX.quiet 14 hu hi rfl
          ·
           intro D hn hd hcl hu hi
           refine TO.skip (gd_F rfl (dl_lookup (m := 9) hu rfl (hd 9 (by decide)))) (by decide) ?_
           exact TX.quiet 15 hu hi rfl
          ·
           intro D hn hd hcl hu hi
           refine TO.skip (gd_F rfl (dl_lookup (m := 9) hu rfl (hd 9 (by decide)))) (by decide) ?_
           exact TX.quiet 16 hu hi rfl
          ·
           intro D hn hd hcl hu hi
           refine TO.skip (gd_F rfl (dl_lookup (m := 9) hu rfl (hd 9 (by decide)))) (by decide) ?_
           exact TX.quiet 17 hu hi rfl
          refine TO.skip rfl (by decide) (TO.pick (b := false) rfl (by decide) rfl rfl (TO.nil (TX.next (TC.condF rfl (TC.skip (TX.blockNormal ?_))))))
          exact TX.meetD () h rfl (Sbs.cons rfl (Sbs.cons rfl (Sbs.cons rfl (Sbs.cons rfl (Sbs.cons rfl (Sbs.cons rfl (Sbs.cons rfl (Sbs.cons rfl (Sbs.cons rfl (Sbs.nil)))))))))) Splits.nil
        ·
         have h := condF hb5 h
         refine TC.drawN 18 [(0, 48, .int .i32 r2), (1, 49, .bool r6), (2, 50, .bool false), (3, 51, .bool false), (4, 52, undef), (5, 53, undef), (6, 54, undef), (7, 55, undef), (8, 56, .bool false), (9, 57, .bool false), (10, 58, undef), (11, 59, undef), (12, 60, undef), (13, 61, undef), (14, 62, undef), (15, 63, undef), (16, 64, undef), (17, 65, undef)] mixed (by as_aux_lemma => kernel_rfl) (by as_aux_lemma => kernel_rfl) (by decide) (by rfl) (by as_aux_lemma => kernel_rfl) (by as_aux_lemma => kernel_rfl) (DrawPre.cons ?_ (DrawPre.cons ?_ (DrawPre.cons ?_ (DrawPre.cons ?_ (DrawPre.cons ?_ (DrawPre.cons ?_ (DrawPre.cons ?_ (DrawPre.cons ?_ (DrawPre.cons ?_ (DrawPre.cons ?_ (DrawPre.cons ?_ (DrawPre.cons ?_ (DrawPre.cons ?_ (DrawPre.cons ?_ (DrawPre.cons ?_ (DrawPre.cons ?_ (DrawPre.cons ?_ (DrawPre.cons ?_ DrawPre.nil)))))))))))))))))) ?_
         ·
          intro D hn hd hcl hu hi
          refine TO.move rfl (by decide) (dl_old (by rfl) rfl) ?_
          exact TX.quiet 0 hu hi rfl
         ·
          intro D hn hd hcl hu hi
          refine TO.callP (v := .bool r6) (vs := [.int .i32 r2]) rfl (by decide) rfl (evL.cons (dl_lookup (m := 0) hu rfl (hd 0 (by decide))) evL.nil) rfl en_84 (ref01_None_fn hq3) ?_
          exact TX.quiet 1 hu hi rfl
         ·
          intro D hn hd hcl hu hi
          refine TO.un rfl (by decide) (dl_lookup (m := 1) hu rfl (hd 1 (by decide))) un_not (TO.rewH (show Value.bool (!r6) = Value.bool false from congrArg Value.bool hb5) ?_)
          exact TX.quiet 2 hu hi rfl
         ·
          intro D hn hd hcl hu hi
          refine TO.move rfl (by decide) (dl_lookup (m := 2) hu rfl (hd 2 (by decide))) ?_
          exact TX.quiet 3 hu hi rfl
         ·
          intro D hn hd hcl hu hi
          refine TO.skip (gd_F rfl (dl_lookup (m := 3) hu rfl (hd 3 (by decide)))) (by decide) ?_
          exact TX.quiet 4 hu hi rfl
         ·
          intro D hn hd hcl hu hi
          refine TO.skip (gd_F rfl (dl_lookup (m := 3) hu rfl (hd 3 (by decide)))) (by decide) ?_
          exact TX.quiet 5 hu hi rfl
         ·
          intro D hn hd hcl hu hi
          refine TO.skip (gd_F rfl (dl_lookup (m := 3) hu rfl (hd 3 (by decide)))) (by decide) ?_
          exact TX.quiet 6 hu hi rfl
         ·
          intro D hn hd hcl hu hi
          refine TO.skip (gd_F rfl (dl_lookup (m := 3) hu rfl (hd 3 (by decide)))) (by decide) ?_
          exact TX.quiet 7 hu hi rfl
         ·
          intro D hn hd hcl hu hi
          refine TO.pick (b := false) rfl (by decide) (dl_lookup (m := 3) hu rfl (hd 3 (by decide))) rfl ?_
          exact TX.quiet 8 hu hi rfl
         ·
          intro D hn hd hcl hu hi
          refine TO.move rfl (by decide) (dl_lookup (m := 8) hu rfl (hd 8 (by decide))) ?_
          exact TX.quiet 9 hu hi rfl
         ·
          intro D hn hd hcl hu hi
          refine TO.skip (gd_F rfl (dl_lookup (m := 9) hu rfl (hd 9 (by decide)))) (by decide) ?_
          exact TX.quiet 10 hu hi rfl
         ·
          intro D hn hd hcl hu hi
          refine TO.skip (gd_F rfl (dl_lookup (m := 9) hu rfl (hd 9 (by decide)))) (by decide) ?_
          exact TX.quiet 11 hu hi rfl
         ·
          intro D hn hd hcl hu hi
          refine TO.skip (gd_F rfl (dl_lookup (m := 9) hu rfl (hd 9 (by decide)))) (by decide) ?_
          exact TX.quiet 12 hu hi rfl
         ·
          intro D hn hd hcl hu hi
          refine TO.skip (gd_F rfl (dl_lookup (m := 9) hu rfl (hd 9 (by decide)))) (by decide) ?_
          exact TX.quiet 13 hu hi rfl
         ·
          intro D hn hd hcl hu hi
          refine TO.skip (gd_F rfl (dl_lookup (m := 9) hu rfl (hd 9 (by decide)))) (by decide) ?_
          exact TX.quiet 14 hu hi rfl
         ·
          intro D hn hd hcl hu hi
          refine TO.skip (gd_F rfl (dl_lookup (m := 9) hu rfl (hd 9 (by decide)))) (by decide) ?_
          exact TX.quiet 15 hu hi rfl
         ·
          intro D hn hd hcl hu hi
          refine TO.skip (gd_F rfl (dl_lookup (m := 9) hu rfl (hd 9 (by decide)))) (by decide) ?_
          exact TX.quiet 16 hu hi rfl
         ·
          intro D hn hd hcl hu hi
          refine TO.skip (gd_F rfl (dl_lookup (m := 9) hu rfl (hd 9 (by decide)))) (by decide) ?_
          exact TX.quiet 17 hu hi rfl
         refine TO.skip rfl (by decide) (TO.pick (b := false) rfl (by decide) rfl rfl (TO.nil (TX.next (TC.condF rfl (TC.skip (TX.blockNormal ?_))))))
         exact TX.meetD () h rfl (Sbs.cons rfl (Sbs.cons rfl (Sbs.cons rfl (Sbs.cons rfl (Sbs.cons rfl (Sbs.cons rfl (Sbs.cons rfl (Sbs.cons rfl (Sbs.cons rfl (Sbs.nil)))))))))) Splits.nil
     ·
      rintro _ h
      subst hj2
      show TC _ _ _ _ _ ([]) _ _ [(0, .string s1), (1, .int .i64 at1), (6, .int .i64 n3), (12, .int .i64 at1), (13, .int .i64 n3), (14, .int .i64 (at1 + n3)), (15, .string s1), (16, .int .i64 (s1.size : Int)), (17, .bool (decide (((at1 + n3) : Int) ≤ (s1.size : Int))))] []
      refine TC.region (TO.move rfl (by decide) rfl ?_)
      obtain ⟨hg15, h⟩ := grdE h
      refine TO.bin rfl (by decide) rfl rfl (bin_add (r := n3 + 1) (IntWalk.i64_in _ hg15)) (TO.assign rfl (by decide) rfl (TO.nil ?_))
      subst hag1
      exact TX.againD (n4, n3 + 1) h (Nat.lt_succ_self _) rfl (Sbs.cons rfl (Sbs.cons rfl (Sbs.cons rfl (Sbs.nil)))) Splits.nil
    ·
     have h := condF hb2 h
     refine TC.exit (TX.thenExit (TX.thenExit (TX.blockHere ?_)))
     exact TX.meetD () h rfl (Sbs.nil) Splits.nil
   ·
    have h := condF hb1 h
    refine TO.skip rfl (by decide) (TO.skip rfl (by decide) (TO.skip rfl (by decide) (TO.skip rfl (by decide) (TO.skip rfl (by decide) (TO.skip rfl (by decide) (TO.pick (b := false) rfl (by decide) rfl rfl (TO.nil (TX.next (TC.condF rfl (TC.exit (TX.thenExit (TX.thenExit (TX.blockHere ?_)))))))))))))
    exact TX.meetD () h rfl (Sbs.nil) Splits.nil
 ·
  rintro _ h
  subst hj1
  show TC _ _ _ _ _ ([]) _ _ [] []
  refine TC.seq (TC.region (TO.assign rfl (by decide) rfl (TO.assign rfl (by decide) rfl (TO.nil (TX.next (TC.ret ?_))))))
  cases h
  exact TX.fin (rs := [.tmp 4, .tmp 5]) () (.inl rfl) Try.results83 (.cons (.tmp rfl) (.cons (.tmp rfl) .nil)) rfl Splits.nil
def ref01_At_v (s1 : ByteArray) (at1 : Int) : Option Gapi_Piece := andThen (ref01_Form_v s1 at1) fun (r1 : (Int × Int)) => bcond (decide ((0 : Int) < r1.2)) ( some (⟨at1, r1.2, r1.1, false⟩ : Gapi_Piece)
) ( some (⟨at1, 1, 65533, true⟩ : Gapi_Piece)
)
set_option maxRecDepth 100000 in
set_option maxHeartbeats 4000000 in
theorem ref01_At_fn {s1 : ByteArray} {at1 : Int} {r : Gapi_Piece} (h : ref01_At_v s1 at1 = some r) : FnP Try.prog 75 [.string s1, .int .i64 at1] (.agg #[.int .i64 r.At, .int .i64 r.Width, .int .i32 r.Rune, .bool r.Broken]) := by
 unfold ref01_At_v at h
 refine FnP.intro Try.func75 rfl Try.ntmps75 (by simp) ?_
 intro w0 K
 refine TC.seq (TC.region ?_)
 refine TO.alloc zr_78 rfl (by decide) (fun b1 => ?_)
 refine TO.nil (TX.next (TC.seq (TC.seq (TC.region (TO.move rfl (by decide) rfl (TO.move rfl (by decide) rfl ?_))))))
 obtain ⟨r1, hq1, h⟩ := andE h
 refine TO.callP (v := .tuple #[.int .i32 r1.1, .int .i64 r1.2]) (vs := [.string s1, .int .i64 at1]) rfl (by decide) rfl rfl rfl en_83 (ref01_Form_fn hq1) (TO.move rfl (by decide) rfl (TO.extract rfl (by decide) rfl rfl (TO.extract rfl (by decide) rfl rfl (TO.assign rfl (by decide) rfl (TO.assign rfl (by decide) rfl (TO.nil (TX.next (TC.seq (TC.region (TO.move rfl (by decide) rfl (TO.bin rfl (by decide) rfl rfl bin_gtr (TO.nil (TX.next ?_)))))))))))))
 refine TC.condB rfl (fun hb1 => ?_) (fun hb1 => ?_)
 ·
  have h := condT hb1 h
  refine TC.seq (TC.region (TO.move rfl (by decide) rfl (TO.move rfl (by decide) rfl (TO.move rfl (by decide) rfl ?_))))
  refine TO.build (v := .agg #[.int .i64 at1, .int .i64 r1.2, .int .i32 r1.1, .bool false]) (ps := [(0, .tmp 15), (1, .tmp 16), (2, .tmp 17)]) rfl (by decide) rfl (fun _ => by kernel_rfl) ?_
  refine TO.stores (k := 0) (vs := [.int .i64 at1, .int .i64 r1.2, .int .i32 r1.1, .bool false]) (l' := [.int .i64 at1, .int .i64 r1.2, .int .i32 r1.1, .bool false]) sz_78 rfl rfl rfl rfl rfl (show _ ≤ _ by simp) rfl rfl ?_
  show TO _ _ _ _ _ _ _ _ _ _ [cells b1 [.int .i64 at1, .int .i64 r1.2, .int .i32 r1.1, .bool false] 78]
  refine TO.nil (TX.next (TC.ret (TX.thenRet ?_)))
  cases h
  exact TX.fin (rs := [.cell 4 78]) () (.inl rfl) Try.results75 (.cons (.cells rw_78 (k := 0) rfl rfl rfl) .nil) rfl Splits.nil
 ·
  have h := condF hb1 h
  refine TC.skip (TX.next (TC.seq (TC.region (TO.move rfl (by decide) rfl ?_))))
  refine TO.build (v := .agg #[.int .i64 at1, .int .i64 1, .int .i32 65533, .bool true]) (ps := [(0, .tmp 19), (1, .const (.int .i64 1)), (2, .const (.int .i32 65533)), (3, .const (.bool true))]) rfl (by decide) rfl (fun _ => by kernel_rfl) ?_
  refine TO.stores (k := 0) (vs := [.int .i64 at1, .int .i64 1, .int .i32 65533, .bool true]) (l' := [.int .i64 at1, .int .i64 1, .int .i32 65533, .bool true]) sz_78 rfl rfl rfl rfl rfl (show _ ≤ _ by simp) rfl rfl ?_
  show TO _ _ _ _ _ _ _ _ _ _ [cells b1 [.int .i64 at1, .int .i64 1, .int .i32 65533, .bool true] 78]
  refine TO.nil (TX.next (TC.ret ?_))
  cases h
  exact TX.fin (rs := [.cell 4 78]) () (.inl rfl) Try.results75 (.cons (.cells rw_78 (k := 0) rfl rfl rfl) .nil) rfl Splits.nil
def ref01_Pieces_s1 (s1 : ByteArray) (j1 : (List Gapi_Piece) → Option (List Gapi_Piece)) (ag1 : (List Gapi_Piece) → Int → Option (List Gapi_Piece)) (l4 : List Gapi_Piece) (at3 : Int) : Option (List Gapi_Piece) := bcond (decide ((at3 : Int) < (s1.size : Int))) ( andThen (ref01_At_v s1 at3) fun (r1 : Gapi_Piece) => grd (l4.length + 1 ≤ 2147483648) <| grd (I64 (at3 + r1.Width)) <| ag1 (l4 ++ [r1]) (at3 + r1.Width)
) ( j1 l4
)
def ref01_Pieces_v (s1 : ByteArray) : Option (List Gapi_Piece) := joinK (fun (j1 : (List Gapi_Piece) → Option (List Gapi_Piece)) => loopG (fun _ _ => none) (ref01_Pieces_s1 s1 j1) fuel ([] : List Gapi_Piece) 0
) (fun (l1 : List Gapi_Piece) => some l1
)
set_option maxRecDepth 100000 in
set_option maxHeartbeats 4000000 in
theorem ref01_Pieces_fn {s1 : ByteArray} {r : (List Gapi_Piece)} (h : ref01_Pieces_v s1 = some r) : Fn Try.prog 59 [.string s1] [] (fun v0 : Value => v0) (fun v0 => [vec enc_Gapi_Piece 78 4 v0 r]) := by
 unfold ref01_Pieces_v at h
 refine Fn.intro Try.func59 rfl Try.ntmps59 (by simp) ?_
 intro w0 K
 obtain ⟨j1, hj1, h⟩ := joinE h
 refine TC.cutN (β := (List Gapi_Piece) × Value) 2 rfl (fun b => j1 b.1 = some r) (fun b => []) (fun b => [(3, b.2)]) (fun b => [vec enc_Gapi_Piece 78 4 b.2 b.1]) (fun cut => ?_) ?_
 ·
  refine TC.seq (TC.region (TO.assign rfl (by decide) rfl (TO.nil (TX.next (TC.seq (TC.region (TO.assign rfl (by decide) rfl (TO.nil (TX.next (cut (TC.seq (TC.region (TO.assign rfl (by decide) rfl ?_)))))))))))))
  refine TO.nil (TX.next (TC.block (TC.newVec (enc := enc_Gapi_Piece) (e := 78) (size := 4) ?_)))
  show TC _ _ _ _ _ _ _ _ _ [vec enc_Gapi_Piece 78 4 (.slice none 0 0) ([] : List Gapi_Piece)]
  refine TC.loopD (β := Nat × (List Gapi_Piece) × Int × Value) (fun b => loopG (fun _ _ => none) (ref01_Pieces_s1 s1 j1) b.1 b.2.1 b.2.2.1 = some r) (fun b => []) (fun b => [(0, .string s1), (3, b.2.2.2), (4, .int .i64 b.2.2.1)]) (fun b => [vec enc_Gapi_Piece 78 4 b.2.2.2 b.2.1]) (fun b => b.1) (fuel, ([] : List Gapi_Piece), 0, (.slice none 0 0)) h rfl (Sbs.cons rfl (Sbs.cons rfl (Sbs.cons rfl (Sbs.nil)))) (Splits.of [0] (by as_aux_lemma => kernel_rfl) rfl) ?_
  rintro ⟨n1, l4, at3, v4⟩ h
  cases n1 with
  | zero => exact noneE h
  | succ n1 =>
   obtain ⟨ag1, hag1⟩ : ∃ ag, ag = loopG (fun _ _ => none) (ref01_Pieces_s1 s1 j1) n1 := ⟨_, rfl⟩
   have h : ref01_Pieces_s1 s1 j1 ag1 l4 at3 = some r := by rw [hag1]; exact h
   unfold ref01_Pieces_s1 at h
   show TC _ _ _ _ _ ([]) _ _ [(0, .string s1), (3, v4), (4, .int .i64 at3)] [vec enc_Gapi_Piece 78 4 v4 l4]
   refine TC.seq (TC.seq (TC.region (TO.move rfl (by decide) rfl (TO.move rfl (by decide) rfl (TO.lenStr rfl (by decide) rfl Try.underlying9 (TO.bin rfl (by decide) rfl rfl bin_lss (TO.nil (TX.next ?_))))))))
   refine TC.condB rfl (fun hb1 => ?_) (fun hb1 => ?_)
   ·
    have h := condT hb1 h
    refine TC.skip (TX.next (TC.block (TC.seq (TC.region (TO.move rfl (by decide) rfl (TO.move rfl (by decide) rfl ?_))))))
    obtain ⟨r1, hq1, h⟩ := andE h
    refine TO.callP (v := .agg #[.int .i64 r1.At, .int .i64 r1.Width, .int .i32 r1.Rune, .bool r1.Broken]) (vs := [.string s1, .int .i64 at3]) rfl (by decide) rfl rfl rfl en_75 (ref01_At_fn hq1) ?_
    refine TO.alloc zr_78 rfl (by decide) (fun b1 => ?_)
    refine TO.stores (k := 1) (vs := [.int .i64 r1.At, .int .i64 r1.Width, .int .i32 r1.Rune, .bool r1.Broken]) (l' := [.int .i64 r1.At, .int .i64 r1.Width, .int .i32 r1.Rune, .bool r1.Broken]) sz_78 rfl rfl rfl rfl rfl (show _ ≤ _ by simp) rfl rfl ?_
    show TO _ _ _ _ _ _ _ _ _ _ [vec enc_Gapi_Piece 78 4 v4 l4, cells b1 [.int .i64 r1.At, .int .i64 r1.Width, .int .i32 r1.Rune, .bool r1.Broken] 78]
    refine TO.nil (TX.next (TC.seq (TC.region (TO.move rfl (by decide) rfl (TO.loads (k := 1) (cs := [.int .i64 r1.At, .int .i64 r1.Width, .int .i32 r1.Rune, .bool r1.Broken]) rw_78 rfl (by decide) rfl rfl rfl rfl ?_)))))
    refine TO.buildSlice (cs := [.int .i64 r1.At, .int .i64 r1.Width, .int .i32 r1.Rune, .bool r1.Broken]) (te := 78) (ps := [(0, .tmp 14)]) rfl (by decide) rfl (fun _ => by kernel_rfl) (fun b2 => ?_)
    obtain ⟨hg1, h⟩ := grdE h
    refine TO.appendVec (k := 0) (k2 := 2) (ys := [r1]) Try.underlying86 el_78 enc_Gapi_Piece_len enc_Gapi_Piece_one rfl (by decide) rfl rfl rfl rfl rfl rfl hg1 (fun v5 => ?_)
    show TO _ _ _ _ _ _ _ _ _ _ [vec enc_Gapi_Piece 78 4 v5 (l4 ++ [r1]), cells b1 [.int .i64 r1.At, .int .i64 r1.Width, .int .i32 r1.Rune, .bool r1.Broken] 78, cells b2 [.int .i64 r1.At, .int .i64 r1.Width, .int .i32 r1.Rune, .bool r1.Broken] 78]
    refine TO.assign rfl (by decide) rfl (TO.nil (TX.next (TC.region (TO.move rfl (by decide) rfl (TO.fieldAddr fl_78_1 rfl (by decide) rfl (show _ = 1 from rfl) (TO.load (k := 1) sc_3 rfl (by decide) rfl rfl rfl ?_))))))
    obtain ⟨hg2, h⟩ := grdE h
    refine TO.bin rfl (by decide) rfl rfl (bin_add (r := at3 + r1.Width) (IntWalk.i64_in _ hg2)) (TO.assign rfl (by decide) rfl (TO.nil (TX.blockNormal ?_)))
    subst hag1
    exact TX.againD (n1, l4 ++ [r1], at3 + r1.Width, v5) h (Nat.lt_succ_self _) rfl (Sbs.cons rfl (Sbs.cons rfl (Sbs.cons rfl (Sbs.nil)))) (Splits.of [0] (by as_aux_lemma => kernel_rfl) rfl)
   ·
    have h := condF hb1 h
    refine TC.exit (TX.thenExit (TX.thenExit (TX.blockHere ?_)))
    exact TX.meetD (l4, v4) h rfl (Sbs.cons rfl (Sbs.nil)) (Splits.of [0] (by as_aux_lemma => kernel_rfl) rfl)
 ·
  rintro ⟨l1, v1⟩ h
  subst hj1
  show TC _ _ _ _ _ ([]) _ _ [(3, v1)] [vec enc_Gapi_Piece 78 4 v1 l1]
  refine TC.seq (TC.region (TO.move rfl (by decide) rfl (TO.assign rfl (by decide) rfl (TO.nil (TX.next (TC.ret ?_))))))
  cases h
  exact TX.fin (rs := [.tmp 2]) v1 (.inl rfl) Try.results59 (.cons (.tmp rfl) .nil) rfl (Splits.of [0] (by as_aux_lemma => kernel_rfl) rfl)
end Go.Proofs.Ytgeefojgkbglnaa
namespace Go.Proofs.Ytgeefojgkbglnaa
open Go.RowKit Go.Lib

theorem ext_end (s : ByteArray) (a : Nat) : (s.extract a s.size).data.toList = s.data.toList.drop a := by
  rw [extract_data]; rw [List.take_of_length_le]; simp
theorem encode_list (r : Int) : (Utf8.encode r).data.toList = encodeRune r := by
  unfold Utf8.encode encodeRune
  rw [validRune_eq]
  by_cases hv : validRune r = true
  · have hv' : (0 ≤ r ∧ r < 55296) ∨ (57343 < r ∧ r ≤ 1114111) := by simpa [validRune] using hv
    rw [hv]
    simp only [if_true]
    obtain ⟨n, rfl⟩ : ∃ n : Nat, r = n := ⟨r.toNat, by omega⟩
    simp only [Int.toNat_natCast]
    by_cases h1 : n < 128
    · rw [encodeRuneZ_one (by omega) (by omega), if_pos h1]; rfl
    · by_cases h2 : n < 2048
      · rw [encodeRuneZ_two (by omega) (by omega), if_neg h1, if_pos h2]
        simp only [List.map_cons, List.map_nil]
        rw [show ((192 : Int) + n / 64).toNat = 192 + n / 64 from by omega, show ((128 : Int) + n % 64).toNat = 128 + n % 64 from by omega]
      · by_cases h3 : n < 65536
        · rw [encodeRuneZ_three (by omega), if_neg h1, if_neg h2, if_pos h3]
          simp only [List.map_cons, List.map_nil]
          rw [show ((224 : Int) + n / 4096).toNat = 224 + n / 4096 from by omega, show ((128 : Int) + n / 64 % 64).toNat = 128 + n / 64 % 64 from by omega, show ((128 : Int) + n % 64).toNat = 128 + n % 64 from by omega]
        · rw [encodeRuneZ_four (by omega) (by omega), if_neg h1, if_neg h2, if_neg h3]
          simp only [List.map_cons, List.map_nil]
          rw [show ((240 : Int) + n / 262144).toNat = 240 + n / 262144 from by omega, show ((128 : Int) + n / 4096 % 64).toNat = 128 + n / 4096 % 64 from by omega, show ((128 : Int) + n / 64 % 64).toNat = 128 + n / 64 % 64 from by omega, show ((128 : Int) + n % 64).toNat = 128 + n % 64 from by omega]
  · have hv' : ¬ ((0 ≤ r ∧ r < 55296) ∨ (57343 < r ∧ r ≤ 1114111)) := by simpa [validRune] using hv
    have hv2 : validRune r = false := by simpa using hv
    rw [hv2, encodeRuneZ_bad (by omega)]
    simp [Utf8.runeError]

theorem encode_size (r : Int) : (Utf8.encode r).size = (encodeRune r).length := by
  rw [← encode_list]; simp
theorem encodeRune_len (r : Int) : 1 ≤ (encodeRune r).length ∧ (encodeRune r).length ≤ 4 := by
  have := encodeRuneZ_length r; simpa [encodeRune] using this

/-- A piece of a text: where it stands, how many bytes it has, its rune. -/
structure Pc where
  i : Nat
  w : Nat
  r : Nat
  deriving DecidableEq
def Pc.broken (p : Pc) : Bool := p.r == 65533 && p.w == 1

def pcsF : Nat → Nat → List UInt8 → List Pc
  | 0, _, _ => []
  | f + 1, i, l => if l = [] then [] else ⟨i, (decodeL l).2, (decodeL l).1⟩ :: pcsF f (i + (decodeL l).2) (l.drop (decodeL l).2)
def pcsFrom (i : Nat) (l : List UInt8) : List Pc := pcsF l.length i l
def pcs (l : List UInt8) : List Pc := pcsFrom 0 l

theorem dec_pos (l : List UInt8) : 1 ≤ (decodeL l).2 := decodeL_width l
theorem dec_le (l : List UInt8) (h : l ≠ []) : (decodeL l).2 ≤ l.length := decodeL_le l h

theorem pcsF_enough : ∀ (f g i : Nat) (l : List UInt8), l.length ≤ f → l.length ≤ g → pcsF f i l = pcsF g i l := by
  intro f
  induction f with
  | zero =>
    intro g i l h1 h2
    have : l = [] := List.eq_nil_of_length_eq_zero (by omega)
    subst this
    cases g <;> simp [pcsF]
  | succ f ih =>
    intro g i l h1 h2
    cases g with
    | zero =>
      have : l = [] := List.eq_nil_of_length_eq_zero (by omega)
      subst this
      simp [pcsF]
    | succ g =>
      by_cases hl : l = []
      · simp [pcsF, hl]
      · simp only [pcsF, hl, if_false]
        have := dec_pos l
        have hlen : 0 < l.length := List.length_pos_iff.2 hl
        rw [ih g _ _ (by simp; omega) (by simp; omega)]

theorem pcsFrom_nil (i : Nat) : pcsFrom i [] = [] := by simp [pcsFrom, pcsF]
theorem pcsFrom_cons (i : Nat) (l : List UInt8) (h : l ≠ []) :
    pcsFrom i l = ⟨i, (decodeL l).2, (decodeL l).1⟩ :: pcsFrom (i + (decodeL l).2) (l.drop (decodeL l).2) := by
  have hlen : 0 < l.length := List.length_pos_iff.2 h
  unfold pcsFrom
  obtain ⟨n, hn⟩ : ∃ n, l.length = n + 1 := ⟨l.length - 1, by omega⟩
  rw [hn]
  simp only [pcsF, h, if_false]
  have := dec_pos l
  rw [pcsF_enough n (l.drop (decodeL l).2).length _ _ (by simp; omega) (Nat.le_refl _)]

/-- What a piece's width is: its rune's form, or one broken byte. -/
theorem dec_width (l : List UInt8) (h : l ≠ []) (hb : ¬ ((decodeL l).1 = 65533 ∧ (decodeL l).2 = 1)) : (encodeRune ((decodeL l).1 : Nat)).length = (decodeL l).2 := by
  rw [encode_decode l h hb]
  have := dec_le l h
  simp; omega
theorem enc_lost : encodeRune ((65533 : Nat) : Int) = [239, 191, 189] := by decide
/-- The lost sign's form, written out, against a broken byte. -/
theorem dec_lost_ok (l : List UInt8) (h : l ≠ []) (hr : (decodeL l).1 = 65533) (hw : (decodeL l).2 ≠ 1) : l.take 3 = [239, 191, 189] ∧ (decodeL l).2 = 3 := by
  have h1 := encode_decode l h (fun h => hw h.2)
  have h2 := dec_width l h (fun h => hw h.2)
  rw [hr, enc_lost] at h1 h2
  simp at h2
  rw [← h2] at h1
  exact ⟨h1.symm, h2.symm⟩
theorem dec_lost_bad (l : List UInt8) (hr : (decodeL l).1 = 65533) (hw : (decodeL l).2 = 1) : l.take 3 ≠ [239, 191, 189] := by
  intro h3
  obtain ⟨t, rfl⟩ : ∃ t, l = 239 :: 191 :: 189 :: t := by
    rcases l with _ | ⟨a, _ | ⟨b, _ | ⟨c, t⟩⟩⟩ <;> simp at h3
    exact ⟨t, by simp [h3]⟩
  rw [decodeL_N] at hw
  simp [decodeN] at hw

theorem dec_rune_le (l : List UInt8) : (decodeL l).1 ≤ 1114111 := decodeL_rune l
theorem dec_valid (l : List UInt8) : (decodeL l).1 < 55296 ∨ (57343 < (decodeL l).1 ∧ (decodeL l).1 ≤ 1114111) := by
  rw [decodeL_N]; exact decodeN_valid _ _ _ _ _ (UInt8.toNat_lt _)

/-- What is known of a piece that begins a text. -/
structure DecOk (l : List UInt8) (r wd : Nat) : Prop where
  eq : decodeL l = (r, wd)
  pos : 1 ≤ wd
  le : wd ≤ l.length
  valid : r < 55296 ∨ (57343 < r ∧ r ≤ 1114111)
  width : ¬ (r = 65533 ∧ wd = 1) → (encodeRune ((r : Nat) : Int)).length = wd
  bytes : ¬ (r = 65533 ∧ wd = 1) → encodeRune ((r : Nat) : Int) = l.take wd
  lost_ok : r = 65533 → wd ≠ 1 → l.take 3 = [239, 191, 189] ∧ wd = 3
  lost_bad : r = 65533 → wd = 1 → l.take 3 ≠ [239, 191, 189]

theorem decOk (l : List UInt8) (h : l ≠ []) : DecOk l (decodeL l).1 (decodeL l).2 :=
  ⟨rfl, dec_pos l, dec_le l h, dec_valid l, dec_width l h, encode_decode l h, dec_lost_ok l h, dec_lost_bad l⟩

/-- One step of a range over a string, in whatever world. -/
theorem next_some (P : Program) (wr : World) (it : Nat) (s : ByteArray) (pos : Nat) (hit : wr.heap[it]? = some (.stringIter s pos)) (hlt : pos < s.size) :
    ∃ (r wd : Nat) (W1 : World), (∀ ty, (Instr.next (.pointer (some ⟨it, 0, none⟩)) true ty).run P wr = .ok (.tuple #[.bool true, .int .i64 pos, .int .i32 r]) W1) ∧
      Fr (fun k => k = it) wr W1 ∧ W1.heap[it]? = some (.stringIter s (pos + wd)) ∧ W1.heap.size = wr.heap.size ∧
      DecOk (s.data.toList.drop pos) r wd ∧ pcsFrom pos (s.data.toList.drop pos) = ⟨pos, wd, r⟩ :: pcsFrom (pos + wd) (s.data.toList.drop (pos + wd)) ∧ pos + wd ≤ s.size ∧ 1 ≤ wd := by
  have hne : s.data.toList.drop pos ≠ [] := by
    intro e; have := congrArg List.length e; simp at this; omega
  have hd := decodeL_drop s pos
  have hok := decOk _ hne
  refine ⟨(decodeL (s.data.toList.drop pos)).1, (decodeL (s.data.toList.drop pos)).2, wr.iterAt it s (pos + (decodeL (s.data.toList.drop pos)).2), ?_, Fr.iterAt (Fr.refl (fun k => k = it) wr) (.inl rfl) s _, iterAt_heap wr it s pos _ hit, iterAt_size .., hok, ?_, ?_, dec_pos _⟩
  · intro ty
    rw [hd]
    exact run_next_any_at wr it s pos ty hit hlt
  · rw [pcsFrom_cons pos _ hne, List.drop_drop]
  · have := hok.le; simp at this; omega
theorem next_none (P : Program) (wr : World) (it : Nat) (s : ByteArray) (pos : Nat) (hit : wr.heap[it]? = some (.stringIter s pos)) (hlt : ¬ pos < s.size) :
    (∀ ty, (Instr.next (.pointer (some ⟨it, 0, none⟩)) true ty).run P wr = .ok (.tuple #[.bool false]) wr) ∧ pcsFrom pos (s.data.toList.drop pos) = [] :=
  ⟨fun ty => run_next_end_at wr it s pos ty hit hlt, by rw [List.drop_eq_nil_of_le (by simp; omega), pcsFrom_nil]⟩
theorem iterPos_at {w : World} {it : Nat} {s : ByteArray} {pos : Nat} (h : w.heap[it]? = some (.stringIter s pos)) : w.iterPos it = pos := by simp [World.iterPos, h]

/-- The runes of a text. -/
def runesL (l : List UInt8) : List Nat := (pcs l).map (·.r)

end Go.Proofs.Ytgeefojgkbglnaa
namespace Go.Proofs.Ytgeefojgkbglnaa
open Go.RowKit Go.Lib

def Pc.sh (k : Nat) (p : Pc) : Pc := ⟨p.i + k, p.w, p.r⟩
theorem pcsFrom_sh : ∀ (n i k : Nat) (l : List UInt8), l.length ≤ n → pcsFrom (i + k) l = (pcsFrom i l).map (Pc.sh k)
  | 0, i, k, l, h => by
    have : l = [] := List.eq_nil_of_length_eq_zero (by omega)
    subst this
    simp [pcsFrom_nil]
  | n + 1, i, k, l, h => by
    by_cases hl : l = []
    · subst hl; simp [pcsFrom_nil]
    · have := dec_pos l
      have hlen := List.length_pos_iff.2 hl
      rw [pcsFrom_cons _ l hl, pcsFrom_cons _ l hl, List.map_cons, ← pcsFrom_sh n _ k _ (by simp; omega)]
      congr 2
      omega
theorem pcsFrom_pcs (i : Nat) (l : List UInt8) : pcsFrom i l = (pcs l).map (Pc.sh i) := by
  have := pcsFrom_sh l.length 0 i l (Nat.le_refl _)
  rwa [Nat.zero_add] at this

/-- A piece in the midst: what stands there. -/
theorem pcsFrom_split : ∀ (P : List Pc) (i : Nat) (l : List UInt8) (x : Pc) (B : List Pc), pcsFrom i l = P ++ x :: B →
    ∃ n, x.i = i + n ∧ n + x.w ≤ l.length ∧ DecOk (l.drop n) x.r x.w ∧ pcsFrom (i + n) (l.drop n) = x :: B ∧ B = pcsFrom (x.i + x.w) (l.drop (n + x.w))
  | [], i, l, x, B, h => by
    by_cases hl : l = []
    · subst hl; simp [pcsFrom_nil] at h
    · have hok := decOk l hl
      have h' := h
      rw [pcsFrom_cons i l hl] at h
      simp only [List.nil_append, List.cons.injEq] at h
      obtain ⟨rfl, hB⟩ := h
      exact ⟨0, by simp, by simpa using hok.le, by simpa using hok, by simpa using h', by simpa using hB.symm⟩
  | p :: P, i, l, x, B, h => by
    by_cases hl : l = []
    · subst hl; simp [pcsFrom_nil] at h
    · have hle := dec_le l hl
      rw [pcsFrom_cons i l hl] at h
      simp only [List.cons_append, List.cons.injEq] at h
      obtain ⟨n, h1, h2, h3, h4, h5⟩ := pcsFrom_split P _ _ x B h.2
      refine ⟨(decodeL l).2 + n, by omega, by simp at h2; omega, by rw [← List.drop_drop]; exact h3, by rw [← List.drop_drop, ← Nat.add_assoc]; exact h4, ?_⟩
      rw [h5, List.drop_drop, Nat.add_assoc]
theorem pcs_split (l : List UInt8) (P : List Pc) (x : Pc) (B : List Pc) (h : pcs l = P ++ x :: B) :
    x.i + x.w ≤ l.length ∧ DecOk (l.drop x.i) x.r x.w ∧ pcsFrom x.i (l.drop x.i) = x :: B ∧ B = pcsFrom (x.i + x.w) (l.drop (x.i + x.w)) := by
  obtain ⟨n, h1, h2, h3, h4, h5⟩ := pcsFrom_split P 0 l x B h
  have : x.i = n := by omega
  subst this
  exact ⟨h2, h3, by simpa using h4, h5⟩
theorem pcs_pos (l : List UInt8) (x : Pc) (h : x ∈ pcs l) : 1 ≤ x.w ∧ x.i + x.w ≤ l.length ∧ DecOk (l.drop x.i) x.r x.w := by
  obtain ⟨P, B, hs⟩ := List.append_of_mem h
  obtain ⟨h1, h2, _⟩ := pcs_split l P x B hs
  exact ⟨h2.pos, h1, h2⟩

/-- What a predicate picks of a text's pieces: where the text goes on behind what was picked. -/
def nextOf : List Pc → Nat
  | [] => 0
  | p :: ps => if ps = [] then p.i + p.w else nextOf ps
theorem nextOf_snoc : ∀ (ps : List Pc) (p : Pc), nextOf (ps ++ [p]) = p.i + p.w
  | [], p => by simp [nextOf]
  | q :: ps, p => by simp [nextOf, nextOf_snoc ps p]

theorem pick_rest (f : Pc → Bool) (l : List UInt8) (A B : List Pc) (h : pcs l = A ++ B) :
    ∃ N, pcsFrom (nextOf (A.filter f)) (l.drop (nextOf (A.filter f))) = N ++ B ∧ (∀ q ∈ N, f q = false) := by
  -- by the last picked piece of A
  rcases List.eq_nil_or_concat (A.filter f) with hn | ⟨pre, y, hy⟩
  · rw [hn]
    refine ⟨A, by simpa [nextOf, pcs] using h, fun q hq => ?_⟩
    have := List.filter_eq_nil_iff.1 hn q hq
    simpa using this
  · rw [List.concat_eq_append] at hy
    rw [hy, nextOf_snoc]
    obtain ⟨A1, A2, rfl, h1, h2⟩ := List.filter_eq_append_iff.1 hy
    obtain ⟨N1, N2, rfl, hN1, hfy, hN2⟩ := List.filter_eq_cons_iff.1 h2
    have hs := pcs_split l (A1 ++ N1) y (N2 ++ B) (by rw [h]; simp)
    refine ⟨N2, hs.2.2.2.symm, fun q hq => ?_⟩
    have := List.filter_eq_nil_iff.1 hN2 q hq
    simpa using this

/-- One picked piece: as the text from the last one's end on tells it. -/
theorem pick_next (f : Pc → Bool) (hf : ∀ p k, f (Pc.sh k p) = f p) (l : List UInt8) (pre : List Pc) (x : Pc) (post : List Pc) (h : (pcs l).filter f = pre ++ x :: post) :
    ∃ N x' B, pcs (l.drop (nextOf pre)) = N ++ x' :: B ∧ (∀ q ∈ N, f q = false ∧ q.i < x'.i) ∧ x'.i + nextOf pre = x.i ∧ x'.r = x.r ∧ x'.w = x.w ∧ f x = true ∧ x ∈ pcs l := by
  obtain ⟨A, B, hAB, h1, h2⟩ := List.filter_eq_append_iff.1 h
  obtain ⟨N1, N2, rfl, hN1, hfx, hN2⟩ := List.filter_eq_cons_iff.1 h2
  have hA : (A ++ N1).filter f = pre := by
    rw [List.filter_append, h1]
    rw [List.filter_eq_nil_iff.2 hN1, List.append_nil]
  obtain ⟨N, hN, hNf⟩ := pick_rest f l (A ++ N1) (x :: N2) (by rw [hAB]; simp)
  rw [hA, pcsFrom_pcs] at hN
  obtain ⟨M1, M2, hM, e1, e2⟩ := List.map_eq_append_iff.1 hN
  obtain ⟨x', M3, rfl, e3, e4⟩ := List.map_eq_cons_iff.1 e2
  have hx'' := pcs_split _ M1 x' M3 hM
  have hi : x'.i + nextOf pre = x.i := by rw [← e3]; rfl
  refine ⟨M1, x', M3, hM, fun q hq => ⟨?_, ?_⟩, hi, by rw [← e3]; rfl, by rw [← e3]; rfl, hfx, by rw [hAB]; simp⟩
  · rw [← hf q (nextOf pre)]
    exact hNf _ (by rw [← e1]; exact List.mem_map_of_mem hq)
  · obtain ⟨Q1, Q2, rfl⟩ := List.append_of_mem hq
    have hq' := pcs_split (l.drop (nextOf pre)) Q1 q (Q2 ++ x' :: M3) (by rw [hM]; simp)
    obtain ⟨n, hn, _⟩ := pcsFrom_split Q2 _ _ x' M3 hq'.2.2.2.symm
    have := hq'.2.1.pos
    omega
theorem pick_none (f : Pc → Bool) (hf : ∀ p k, f (Pc.sh k p) = f p) (l : List UInt8) : ∀ q ∈ pcs (l.drop (nextOf ((pcs l).filter f))), f q = false := by
  obtain ⟨N, hN, hNf⟩ := pick_rest f l (pcs l) [] (by simp)
  rw [List.append_nil, pcsFrom_pcs] at hN
  intro q hq
  rw [← hf q (nextOf ((pcs l).filter f))]
  exact hNf _ (by rw [← hN]; exact List.mem_map_of_mem hq)

end Go.Proofs.Ytgeefojgkbglnaa
namespace Go.Proofs.Ytgeefojgkbglnaa
open Go.RowKit Go.Lib
set_option linter.unusedVariables false
set_option linter.unusedSimpArgs false

/-- Where the k-th piece begins. -/
def posAt (s : ByteArray) (k : Nat) : Nat := match (pcs s.data.toList)[k]? with
  | some p => p.i
  | none => s.size
theorem posAt_some {s : ByteArray} {k : Nat} {p : Pc} (h : (pcs s.data.toList)[k]? = some p) : posAt s k = p.i := by simp [posAt, h]
theorem posAt_zero (s : ByteArray) : posAt s 0 = 0 := by
  unfold posAt
  by_cases h : s.data.toList = []
  · have : s.size = 0 := by have := congrArg List.length h; simpa using this
    simp [h, pcs, pcsFrom_nil, this]
  · simp [pcs, pcsFrom_cons 0 _ h]
theorem posAt_next {s : ByteArray} {k : Nat} {p : Pc} (h : (pcs s.data.toList)[k]? = some p) : posAt s (k + 1) = p.i + p.w ∧ pcsFrom p.i (s.data.toList.drop p.i) = p :: (pcs s.data.toList).drop (k + 1) := by
  have hk : k < (pcs s.data.toList).length := (List.getElem?_eq_some_iff.1 h).1
  have he : pcs s.data.toList = (pcs s.data.toList).take k ++ p :: (pcs s.data.toList).drop (k + 1) := by
    have h1 := List.drop_eq_getElem_cons hk
    have h2 : (pcs s.data.toList)[k] = p := (List.getElem?_eq_some_iff.1 h).2
    rw [h2] at h1
    rw [← h1, List.take_append_drop]
  obtain ⟨q1, q2, q3, q4⟩ := pcs_split s.data.toList _ p _ he
  have hlen : s.data.toList.length = s.size := by rw [Array.length_toList]; rfl
  refine ⟨?_, q3⟩
  unfold posAt
  have hget : (pcs s.data.toList)[k + 1]? = ((pcs s.data.toList).drop (k + 1))[0]? := by simp
  rw [hget, q4]
  by_cases hd' : s.data.toList.drop (p.i + p.w) = []
  · rw [hd', pcsFrom_nil]
    have h5 := congrArg List.length hd'
    simp only [List.length_drop, List.length_nil, hlen] at h5
    obtain ⟨_, h6, _⟩ := pcs_pos s.data.toList p (List.mem_of_getElem? h)
    simp; omega
  · rw [pcsFrom_cons _ _ hd']; simp
section
variable {F : Fence} {P : Program} {w0 : World} {K : Nat → Prop} {N : Nat} {dfs : List Deferred} {ops : Array Oper} {Q : Exit → Act → World → Prop} {rest : List Oper} {σ : List (Nat × Value)} {L : List Asn}
  {d : Nat} {t : TypeId} {ty : TypeId} {pos : String} {aft : Array Edge} {g : Option (Nat × Bool)} {x : Operand} {k : Nat} {s : ByteArray}
theorem TO.rangeStr [WideF F] (ht : P.underlying t = some .string) (hg : gd ops σ g = some true) (hd : d < N) (hx : ev σ x = some (.string s))
    (h : ∀ b, TO F P w0 K N dfs ops Q rest ((d, .pointer (some ⟨b, 0, none⟩)) :: σ) (L ++ [obj b (.stringIter s (posAt s 0))])) : TO F P w0 K N dfs ops Q (⟨some d, .range t x, ty, pos, aft, g⟩ :: rest) σ L :=
  TO.step hg (by simp) fun a w ha hw => ⟨.pointer (some ⟨w.heap.size, 0, none⟩), w.alloc (.stringIter s 0), by simp [execOp, ha.ev hx, Instr.range, run_underlying ht, Sem.run_bind], h _ _ _ (ha.put hd _) (by rw [posAt_zero]; exact hw.alloc _)⟩
theorem TO.nextStr [WideF F] {it m : Nat} {p : Pc} (hg : gd ops σ g = some true) (hd : d < N) (hx : ev σ x = some (.pointer (some ⟨it, 0, none⟩))) (hk : L[k]? = some (obj it (.stringIter s (posAt s m)))) (hp : (pcs s.data.toList)[m]? = some p)
    (h : TO F P w0 K N dfs ops Q rest ((d, .tuple #[.bool true, .int .i64 p.i, .int .i32 p.r]) :: σ) (L.set k (obj it (.stringIter s (posAt s (m + 1)))))) : TO F P w0 K N dfs ops Q (⟨some d, .next x true, ty, pos, aft, g⟩ :: rest) σ L := by
  refine TO.step hg (by simp) fun a w ha hw => ?_
  have hit := hw.obj hk
  rw [posAt_some hp] at hit
  obtain ⟨h1, h2⟩ := posAt_next hp
  have hmem := List.mem_of_getElem? hp
  obtain ⟨g1, g2, _⟩ := pcs_pos s.data.toList p hmem
  have hlen : s.data.toList.length = s.size := by rw [Array.length_toList]; rfl
  obtain ⟨r, wd, W1, e1, e2, e3, e4, e5, e6, e7, e8⟩ := next_some P w it s p.i hit (by omega)
  rw [h2] at e6
  have hpe : p = ⟨p.i, wd, r⟩ := (List.cons.inj e6).1
  have hw' : p.w = wd := congrArg Pc.w hpe
  have hr : p.r = r := congrArg Pc.r hpe
  obtain ⟨C1, c1, c2⟩ := hw.focus hk
  refine ⟨.tuple #[.bool true, .int .i64 p.i, .int .i32 p.r], W1, by rw [hr]; simp [execOp, ha.ev hx, e1, Sem.run_bind], h _ _ (ha.put hd _) (c2 _ C1 W1 ⟨?_, fun j hj => .inl hj⟩ ⟨c1.1, by rw [h1, hw']; exact e3⟩)⟩
  exact e2.weaken (fun i _ hi => by subst hi; exact (c1.1 _).2 rfl)
theorem TO.nextEnd [WideF F] {it m : Nat} (hg : gd ops σ g = some true) (hd : d < N) (hx : ev σ x = some (.pointer (some ⟨it, 0, none⟩))) (hk : L[k]? = some (obj it (.stringIter s (posAt s m)))) (hm : (pcs s.data.toList).length ≤ m)
    (h : TO F P w0 K N dfs ops Q rest ((d, .tuple #[.bool false]) :: σ) L) : TO F P w0 K N dfs ops Q (⟨some d, .next x true, ty, pos, aft, g⟩ :: rest) σ L := by
  refine TO.step hg (by simp) fun a w ha hw => ?_
  have hit := hw.obj hk
  have e : posAt s m = s.size := by simp [posAt, List.getElem?_eq_none hm]
  rw [e] at hit
  exact ⟨_, w, by simp [execOp, ha.ev hx, (next_none P w it s s.size hit (by omega)).1, Sem.run_bind], h _ _ (ha.put hd _) hw⟩
end
end Go.Proofs.Ytgeefojgkbglnaa
namespace Go.Proofs.Ytgeefojgkbglnaa
open Go.RowKit Go.Lib Go.Shelf
attribute [local go_sem] Oper.semAt_some wide_fn wide_in_fn wide_depth
set_option linter.unusedVariables false

theorem ret_bool {a b : Bool} (h : a = b) : Ending.returned (.bool a) = .returned (.bool b) := by rw [h]
theorem ret_int {k : IntKind} {a b : Int} (h : a = b) : Ending.returned (.int k a) = .returned (.int k b) := by rw [h]

def hasPre (l p : List UInt8) : Bool := decide (l.take p.length = p)

def encPc (p : Pc) : Array Value := #[.agg #[.int .i64 p.i, .int .i64 p.w, .int .i32 p.r, .bool p.broken]]

end Go.Proofs.Ytgeefojgkbglnaa
namespace Go.Proofs.Ytgeefojgkbglnaa
open Go.RowKit Go.Lib

def evenB (r : Int) : Bool := decide (r % 2 = 0)
def greatP (r : Int) : Prop :=
  (65 ≤ r ∧ r ≤ 90) ∨ (0xC0 ≤ r ∧ r ≤ 0xDE ∧ r ≠ 0xD7) ∨ (((0x100 ≤ r ∧ r ≤ 0x137) ∨ (0x14A ≤ r ∧ r ≤ 0x177)) ∧ r % 2 = 0) ∨ (0x139 ≤ r ∧ r ≤ 0x148 ∧ r % 2 = 1) ∨ r = 0x178 ∨
  (0x179 ≤ r ∧ r ≤ 0x17D ∧ r % 2 = 1) ∨ (0x386 ≤ r ∧ r ≤ 0x38F ∧ r ≠ 0x387 ∧ r ≠ 0x38B ∧ r ≠ 0x38D) ∨ (0x391 ≤ r ∧ r ≤ 0x3AB ∧ r ≠ 0x3A2) ∨ (0x400 ≤ r ∧ r ≤ 0x42F)
instance (r : Int) : Decidable (greatP r) := by unfold greatP; infer_instance
def great (r : Int) : Bool := decide (greatP r)
def smallP (r : Int) : Prop :=
  (97 ≤ r ∧ r ≤ 122) ∨ (0xDF ≤ r ∧ r ≤ 0xFF ∧ r ≠ 0xF7) ∨ (((0x100 ≤ r ∧ r ≤ 0x137) ∨ (0x14A ≤ r ∧ r ≤ 0x177)) ∧ r % 2 = 1) ∨ r = 0x138 ∨ r = 0x149 ∨ r = 0x17F ∨ r = 0x390 ∨
  (0x139 ≤ r ∧ r ≤ 0x148 ∧ r % 2 = 0) ∨ (0x17A ≤ r ∧ r ≤ 0x17E ∧ r % 2 = 0) ∨ (0x3AC ≤ r ∧ r ≤ 0x3CE) ∨ (0x430 ≤ r ∧ r ≤ 0x45F)
instance (r : Int) : Decidable (smallP r) := by unfold smallP; infer_instance
def small (r : Int) : Bool := decide (smallP r)
def letter (r : Int) : Bool := great r || small r
def script (r : Int) : Int := if !letter r then 0 else if r < 0x386 then 1 else if r < 0x400 then 2 else 3
def lower (r : Int) : Int :=
  if !great r then r
  else if r = 0x130 then 0x69 else if r = 0x178 then 0xFF else if r = 0x386 then 0x3AC else if r = 0x38C then 0x3CC
  else if 0x388 ≤ r ∧ r ≤ 0x38A then r + 0x25 else if r = 0x38E ∨ r = 0x38F then r + 0x3F
  else if 0x400 ≤ r ∧ r ≤ 0x40F then r + 0x50 else if r < 0x100 ∨ 0x17F < r then r + 0x20 else r + 1
def back (r : Int) : Int :=
  if r = 0xFF then 0xFF - 0x178
  else if r < 0x100 ∨ (0x3B1 ≤ r ∧ r ≤ 0x3CB) ∨ (0x430 ≤ r ∧ r ≤ 0x44F) then 0x20
  else if r ≤ 0x17F then 1
  else if r = 0x3AC then 0x3AC - 0x386
  else if 0x3AD ≤ r ∧ r ≤ 0x3AF then 0x25
  else if r = 0x3CC then 0x40
  else if r = 0x3CD ∨ r = 0x3CE then 0x3F
  else 0x50
def upper (r : Int) : Int :=
  if !small r then r
  else if r = 0x131 then 0x49 else if r = 0x17F then 0x53 else if r = 0x3C2 then 0x3A3
  else if great (r - back r) && (lower (r - back r) == r) then r - back r else r
def kindP (r : Int) : Int :=
  if r < 0 ∨ (0xD800 ≤ r ∧ r ≤ 0xDFFF) ∨ 0x10FFFF < r then 0
  else if letter r then 1
  else if 0x300 ≤ r ∧ r ≤ 0x36F then 2
  else if 48 ≤ r ∧ r ≤ 57 then 3
  else if r = 10 ∨ r = 13 then 4
  else if r = 9 ∨ r = 32 ∨ r = 0xA0 ∨ r = 0x202F ∨ r = 0x205F ∨ r = 0x3000 then 5
  else if r = 45 ∨ (0x2010 ≤ r ∧ r ≤ 0x2015) then 6
  else if r = 34 ∨ r = 39 ∨ r = 0xAB ∨ r = 0xBB ∨ r = 0x2039 ∨ r = 0x203A then 7
  else if r = 33 ∨ r = 44 ∨ r = 46 ∨ r = 58 ∨ r = 59 ∨ r = 63 ∨ r = 0xA1 ∨ r = 0xB7 ∨ r = 0xBF ∨ r = 0x2026 then 8
  else if 0x2000 ≤ r ∧ r ≤ 0x200A then 5
  else if 0x2018 ≤ r ∧ r ≤ 0x201F then 7
  else if r < 0x20 ∨ (0x7F ≤ r ∧ r ≤ 0x9F) ∨ (0x200B ≤ r ∧ r ≤ 0x200F) ∨ r = 0xFEFF then 9
  else 10
def kind (r : Int) : Int := kindP r

theorem great_iff (r : Int) : great r = true ↔ greatP r := by simp [great]
theorem small_iff (r : Int) : small r = true ↔ smallP r := by simp [small]

end Go.Proofs.Ytgeefojgkbglnaa
namespace Go.Proofs.Ytgeefojgkbglnaa
open Go.RowKit Go.Lib Go.Shelf
set_option linter.unusedVariables false
set_option linter.unusedSimpArgs false

theorem and1 (r : Int) (h0 : -2147483648 ≤ r) (h1 : r ≤ 2147483647) : (bits BinOp.and IntKind.i32 r 1 == 0) = evenB r := by
  have hk : bits .and .i32 r 1 = r % 2 := by
    have h1 : (BitVec.ofInt 32 1).toNat = 2 ^ 1 - 1 := by decide
    have key : (BitVec.ofInt 32 r &&& BitVec.ofInt 32 1).toNat = (r % ((2 ^ 32 : Nat) : Int)).toNat % 2 ^ 1 := by
      rw [BitVec.toNat_and, BitVec.toNat_ofInt, h1, Nat.and_two_pow_sub_one_eq_mod]
    show IntKind.i32.wrap ((BitVec.ofInt 32 r &&& BitVec.ofInt 32 1).toNat : Nat) = r % 2
    rw [key, IntKind.wrap_i32]
    omega
  rw [hk, evenB, Bool.eq_iff_iff]
  simp
theorem even_any (r : Int) (w : World) (h0 : -2147483648 ≤ r) (h1 : r ≤ 2147483647) :
    Calls Try.prog 58 #[.int .i32 r] w fun e w' => e = .returned (.bool (evenB r)) ∧ w = w' := by
  go_enter Try.func58, Try.ntmps58
  go_wp2
  go_ret
  exact ⟨ret_bool (and1 r h0 h1), rfl⟩

set_option maxHeartbeats 1000000 in
theorem great_any (r : Int) (w : World) (h0 : -2147483648 ≤ r) (h1 : r ≤ 2147483647) :
    Calls Try.prog 42 #[.int .i32 r] w fun e w' => e = .returned (.bool (great r)) ∧ w = w' := by
  go_enter Try.func42, Try.ntmps42
  go_wp2_with (go_at_call 58; refine (even_any _ _ (by omega) (by omega)).mono ?_; rintro e w' ⟨rfl, rfl⟩)
  all_goals
    go_ret
    refine ⟨ret_bool ?_, rfl⟩
    (go_light; rw [Bool.eq_iff_iff]; (try simp only [great_iff, greatP, evenB, decide_eq_true_eq, bne_iff_ne, ne_eq, Bool.not_eq_true', decide_eq_false_iff_not, Bool.and_eq_true, Bool.or_eq_true, Bool.or_eq_false_iff, Bool.and_eq_false_iff, bne_eq_false_iff_eq, beq_iff_eq, beq_eq_false_iff_ne, Bool.false_eq_true, false_iff, true_iff, iff_true, iff_false, Bool.not_eq_false', Bool.not_true, Bool.not_false] at *); omega)

set_option maxHeartbeats 1000000 in
theorem small_any (r : Int) (w : World) (h0 : -2147483648 ≤ r) (h1 : r ≤ 2147483647) :
    Calls Try.prog 69 #[.int .i32 r] w fun e w' => e = .returned (.bool (small r)) ∧ w = w' := by
  go_enter Try.func69, Try.ntmps69
  go_wp2_with (go_at_call 58; refine (even_any _ _ (by omega) (by omega)).mono ?_; rintro e w' ⟨rfl, rfl⟩)
  all_goals
    go_ret
    refine ⟨ret_bool ?_, rfl⟩
    (go_light; rw [Bool.eq_iff_iff]; (try simp only [small_iff, smallP, evenB, decide_eq_true_eq, bne_iff_ne, ne_eq, Bool.not_eq_true', decide_eq_false_iff_not, Bool.and_eq_true, Bool.or_eq_true, Bool.or_eq_false_iff, Bool.and_eq_false_iff, bne_eq_false_iff_eq, beq_iff_eq, beq_eq_false_iff_ne, Bool.false_eq_true, false_iff, true_iff, iff_true, iff_false, Bool.not_eq_false', Bool.not_true, Bool.not_false] at *); omega)

theorem letter_any (r : Int) (w : World) (h0 : -2147483648 ≤ r) (h1 : r ≤ 2147483647) :
    Calls Try.prog 53 #[.int .i32 r] w fun e w' => e = .returned (.bool (letter r)) ∧ w = w' := by
  go_enter Try.func53, Try.ntmps53
  go_wp2_with (first | (go_at_call 42; refine (great_any _ _ (by omega) (by omega)).mono ?_; rintro e w' ⟨rfl, rfl⟩) | (go_at_call 69; refine (small_any _ _ (by omega) (by omega)).mono ?_; rintro e w' ⟨rfl, rfl⟩))
  all_goals
    go_ret
    refine ⟨ret_bool ?_, rfl⟩
    go_light
    simp_all [letter]

set_option maxHeartbeats 1000000 in
theorem lower_any (r : Int) (w : World) (h0 : -2147483648 ≤ r) (h1 : r ≤ 2147483647) :
    Calls Try.prog 74 #[.int .i32 r] w fun e w' => e = .returned (.int .i32 (lower r)) ∧ w = w' := by
  by_cases hg : great r = true
  · have hb : r ≤ 2000 ∧ 0 ≤ r := by rw [great_iff] at hg; unfold greatP at hg; omega
    have hb1 := hb.1; have hb2 := hb.2; clear hb
    go_enter Try.func74, Try.ntmps74
    go_wp2_with (go_at_call 42; refine (great_any _ _ (by omega) (by omega)).mono ?_; rintro e w' ⟨rfl, rfl⟩)
    all_goals
      go_ret
      refine ⟨ret_int ?_, rfl⟩
      go_light
      grind [lower]
  · go_enter Try.func74, Try.ntmps74
    go_wp2_with (go_at_call 42; refine (great_any _ _ (by omega) (by omega)).mono ?_; rintro e w' ⟨rfl, rfl⟩)
    all_goals
      go_ret
      refine ⟨ret_int ?_, rfl⟩
      go_light
      simp_all [lower]

theorem back_bd (r : Int) : -300 ≤ back r ∧ back r ≤ 300 := by unfold back; (repeat' split) <;> omega
theorem lower_bd (r : Int) (h0 : -2147483648 ≤ r) (h1 : r ≤ 2147483647) : -2147483648 ≤ lower r ∧ lower r ≤ 2147483647 := by
  unfold lower
  by_cases hg : great r = true
  · have hb : r ≤ 2000 ∧ 0 ≤ r := by rw [great_iff] at hg; unfold greatP at hg; omega
    simp only [hg, Bool.not_true, Bool.false_eq_true, if_false]
    (repeat' split) <;> omega
  · simp [hg]; omega

theorem mark_any (r : Int) (w : World) (h0 : -2147483648 ≤ r) (h1 : r ≤ 2147483647) :
    Calls Try.prog 54 #[.int .i32 r] w fun e w' => e = .returned (.bool (decide (0x300 ≤ r ∧ r ≤ 0x36F))) ∧ w = w' := by
  go_enter Try.func54, Try.ntmps54
  go_wp2
  all_goals
    go_ret
    refine ⟨ret_bool ?_, rfl⟩
    (go_light; rw [Bool.eq_iff_iff]; simp only [decide_eq_true_eq, bne_iff_ne, ne_eq, Bool.not_eq_true', decide_eq_false_iff_not, Bool.and_eq_true, Bool.or_eq_true, Bool.or_eq_false_iff, Bool.and_eq_false_iff, bne_eq_false_iff_eq, beq_iff_eq, beq_eq_false_iff_ne, Bool.false_eq_true, false_iff, true_iff, iff_true, iff_false, Bool.not_eq_false', Bool.not_true, Bool.not_false] at *; omega)

end Go.Proofs.Ytgeefojgkbglnaa
namespace Go.Proofs.Ytgeefojgkbglnaa
open Go.RowKit Go.Lib Go.Shelf
set_option linter.unusedVariables false
set_option linter.unusedSimpArgs false

set_option maxHeartbeats 4000000 in
theorem kind_any (r : Int) (w : World) (h0 : -2147483648 ≤ r) (h1 : r ≤ 2147483647) :
    Calls Try.prog 40 #[.int .i32 r] w fun e w' => e = .returned (.int .i64 (kind r)) ∧ w = w' := by
  go_enter Try.func40, Try.ntmps40
  go_wp2_with (first | (go_at_call 53; refine (letter_any _ _ (by omega) (by omega)).mono ?_; rintro e w' ⟨rfl, rfl⟩) | (go_at_call 54; refine (mark_any _ _ (by omega) (by omega)).mono ?_; rintro e w' ⟨rfl, rfl⟩))
  all_goals
    go_ret
    refine ⟨ret_int ?_, rfl⟩
    go_light
    try simp only [decide_eq_true_eq, bne_iff_ne, ne_eq, Bool.not_eq_true', decide_eq_false_iff_not, Bool.and_eq_true, Bool.or_eq_true, Bool.or_eq_false_iff, Bool.and_eq_false_iff, bne_eq_false_iff_eq, beq_iff_eq, beq_eq_false_iff_ne, Bool.false_eq_true, false_iff, true_iff, iff_true, iff_false, Bool.not_eq_false', Bool.not_true, Bool.not_false] at *
    grind [kind, kindP]

/-- A piece's kind. -/
def kindOf (b : Bool) (r : Int) : Int := if b then 11 else kind r

theorem of_any (i wd r : Int) (b : Bool) (w : World) (h0 : -2147483648 ≤ r) (h1 : r ≤ 2147483647) :
    Calls Try.prog 64 #[.agg #[.int .i64 i, .int .i64 wd, .int .i32 r, .bool b]] w fun e w' => e = .returned (.int .i64 (kindOf b r)) ∧ Below w.heap.size w w' := by
  cases b
  · go_enter Try.func64, Try.ntmps64
    go_wp2_with (go_at_call 40; refine (kind_any _ _ (by omega) (by omega)).mono ?_; rintro e w' ⟨rfl, rfl⟩)
    go_ret
    exact ⟨ret_int (by simp [kindOf]), (Below.refl _ _).alloc (Nat.le_refl _) _⟩
  · go_enter Try.func64, Try.ntmps64
    go_wp2_with (go_at_call 40; refine (kind_any _ _ (by omega) (by omega)).mono ?_; rintro e w' ⟨rfl, rfl⟩)
    go_ret
    exact ⟨ret_int (by simp [kindOf]), (Below.refl _ _).alloc (Nat.le_refl _) _⟩


end Go.Proofs.Ytgeefojgkbglnaa
namespace Go.Proofs.Ytgeefojgkbglnaa
open Go.RowKit Go.Lib Go.Shelf
attribute [local go_sem] Oper.semAt_some wide_fn wide_in_fn wide_depth
set_option linter.unusedVariables false
set_option linter.unusedSimpArgs false

theorem pcsF_valid : ∀ (f i : Nat) (l : List UInt8), ∀ p ∈ pcsF f i l, p.r ≤ 1114111
  | 0, _, _, p, h => by simp [pcsF] at h
  | f + 1, i, l, p, h => by
    unfold pcsF at h
    split at h
    · simp at h
    · rcases List.mem_cons.1 h with rfl | h
      · exact dec_rune_le l
      · exact pcsF_valid f _ _ p h
theorem pcs_valid (l : List UInt8) : ∀ p ∈ pcs l, p.r ≤ 1114111 := pcsF_valid _ _ _
/-- Is a piece a letter? -/
def isLet (p : Pc) : Bool := kindOf p.broken p.r == 1
def lets (l : List UInt8) : List Pc := (pcs l).filter isLet
def encLet (p : Pc) : Array Value := #[.int .i64 p.i, .int .i32 p.r]
def pcCells (p : Pc) : Array Value := #[.int .i64 p.i, .int .i64 p.w, .int .i32 p.r, .bool p.broken]

end Go.Proofs.Ytgeefojgkbglnaa
namespace Go.Proofs.Ytgeefojgkbglnaa
open Go.RowKit Go.Lib Go.Shelf
attribute [local go_sem] Oper.semAt_some
set_option linter.unusedVariables false
set_option linter.unusedSimpArgs false

/-- A reference piece's four cells. -/
def enc4 (x : Pc × Bool) : List Value := [.int .i64 x.1.i, .int .i64 x.1.w, .int .i32 x.1.r, .bool x.2]
theorem enc4_len (x : Pc × Bool) : (enc4 x).length = 4 := rfl
theorem enc4_one (x : Pc × Bool) : ∀ u ∈ enc4 x, u.oneCell' = true := by
  intro u hu; simp [enc4] at hu; rcases hu with rfl | rfl | rfl | rfl <;> rfl
theorem mark_split {α β : Type} (f h : α → β) (A : List α) (k : Nat) (x : α) (hx : A[k]? = some x) :
    ((A.take k).map f ++ (A.drop k).map h)[k]? = some (h x) ∧ ((A.take k).map f ++ (A.drop k).map h).set k (f x) = (A.take (k + 1)).map f ++ (A.drop (k + 1)).map h := by
  obtain ⟨hk, rfl⟩ := List.getElem?_eq_some_iff.1 hx
  have h1 : A.drop k = A[k] :: A.drop (k + 1) := List.drop_eq_getElem_cons hk
  have h2 : A.take (k + 1) = A.take k ++ [A[k]] := by simp
  have h3 : ((A.take k).map f).length = k := by simp; omega
  rw [h1, h2, List.map_cons]
  constructor
  · rw [List.getElem?_append_right (by omega), h3]; simp
  · rw [List.set_append_right _ _ (by omega), h3, Nat.sub_self, List.set_cons_zero, List.map_append, List.append_assoc]; rfl

theorem pcs_count (l : List UInt8) : ∀ (n : Nat) (D : List Pc) (p : Pc) (B : List Pc), D.length ≤ n → pcs l = D ++ p :: B → D.length ≤ p.i
  | 0, D, p, B, hn, h => by omega
  | n + 1, D, p, B, hn, h => by
    rcases List.eq_nil_or_concat D with rfl | ⟨D, q, rfl⟩
    · simp
    · rw [List.concat_eq_append] at h hn ⊢
      have h1 := pcs_count l n D q (p :: B) (by simp at hn; omega) (by rw [h]; simp)
      obtain ⟨_, hok, _, h4⟩ := pcs_split l D q (p :: B) (by rw [h]; simp)
      have := hok.pos
      have h5 : p.i = q.i + q.w := by
        by_cases hd : l.drop (q.i + q.w) = []
        · rw [hd, pcsFrom_nil] at h4; simp at h4
        · rw [pcsFrom_cons _ _ hd] at h4
          simp only [List.cons.injEq] at h4
          rw [h4.1]
      rw [List.length_append, h5]
      simp only [List.length_singleton]; omega

end Go.Proofs.Ytgeefojgkbglnaa
namespace Go.Proofs.Ytgeefojgkbglnaa
open Go.RowKit Go.Lib

/-- A longest row of pieces of one kind. -/
structure Rn where
  f : Nat
  t : Nat
  k : Int
  deriving DecidableEq
def pk (p : Pc) : Int := kindOf p.broken p.r
def rnew (p : Pc) : Rn := ⟨p.i, p.i + p.w, pk p⟩
/-- One piece more: 'done' are the rows that are closed, 'now' is the open one. -/
def rstep : List Rn × Option Rn → Pc → List Rn × Option Rn
  | (E, none), p => (E, some (rnew p))
  | (E, some n), p => if n.k = pk p then (E, some ⟨n.f, p.i + p.w, n.k⟩) else (E ++ [n], some (rnew p))
def rfold (L : List Pc) : List Rn × Option Rn := L.foldl rstep ([], none)
def rout : List Rn × Option Rn → List Rn
  | (E, none) => E
  | (E, some n) => E ++ [n]
def runs (L : List Pc) : List Rn := rout (rfold L)

theorem rfold_snoc (L : List Pc) (p : Pc) : rfold (L ++ [p]) = rstep (rfold L) p := by simp [rfold]
theorem rfold_some (L : List Pc) (p : Pc) : ∃ E n, rfold (L ++ [p]) = (E, some n) ∧ n.k = pk p ∧ n.t = p.i + p.w := by
  rw [rfold_snoc]
  rcases h : rfold L with ⟨E, _ | n⟩
  · exact ⟨E, rnew p, rfl, rfl, rfl⟩
  · unfold rstep
    by_cases hk : n.k = pk p
    · exact ⟨E, ⟨n.f, p.i + p.w, n.k⟩, by simp only [hk, if_true], hk, rfl⟩
    · exact ⟨E ++ [n], rnew p, by simp only [hk, if_false], rfl, rfl⟩
/-- What is closed stays. -/
theorem rstep_pre : ∀ (L : List Pc) (E : List Rn) (o : Option Rn), ∃ E', (L.foldl rstep (E, o)).1 = E ++ E'
  | [], E, o => ⟨[], by simp⟩
  | p :: L, E, o => by
    rcases o with _ | n
    · exact rstep_pre L E (some (rnew p))
    · by_cases hk : n.k = pk p
      · have : (p :: L).foldl rstep (E, some n) = L.foldl rstep (E, some ⟨n.f, p.i + p.w, n.k⟩) := by simp [rstep, hk]
        rw [this]; exact rstep_pre L E _
      · have : (p :: L).foldl rstep (E, some n) = L.foldl rstep (E ++ [n], some (rnew p)) := by simp [rstep, hk]
        rw [this]
        obtain ⟨E', h⟩ := rstep_pre L (E ++ [n]) (some (rnew p))
        exact ⟨n :: E', by rw [h]; simp⟩
/-- A row that closes as x is met is one of all rows, behind those that are closed. -/
theorem runs_at (pre post : List Pc) (x : Pc) (E : List Rn) (n : Rn) (h : rfold pre = (E, some n)) (hk : n.k ≠ pk x) : ∃ q, runs (pre ++ x :: post) = E ++ n :: q := by
  have h1 : rfold (pre ++ x :: post) = (post.foldl rstep (E ++ [n], some (rnew x))) := by
    unfold rfold at *
    rw [List.foldl_append, h, List.foldl_cons]; simp [rstep, hk]
  obtain ⟨E', h2⟩ := rstep_pre post (E ++ [n]) (some (rnew x))
  unfold runs; rw [h1]
  rcases hf : post.foldl rstep (E ++ [n], some (rnew x)) with ⟨F, _ | m⟩
  · rw [hf] at h2; exact ⟨E', by show F = _; simp only at h2; rw [h2]; simp⟩
  · rw [hf] at h2; exact ⟨E' ++ [m], by show F ++ [m] = _; simp only at h2; rw [h2]; simp⟩
theorem runs_last (L : List Pc) (E : List Rn) (n : Rn) (h : rfold L = (E, some n)) : runs L = E ++ [n] := by unfold runs; rw [h]; rfl
theorem runs_nil (L : List Pc) (E : List Rn) (h : rfold L = (E, none)) : L = [] ∧ E = [] := by
  rcases List.eq_nil_or_concat L with rfl | ⟨D, p, rfl⟩
  · simp [rfold] at h; exact ⟨rfl, h⟩
  · rw [List.concat_eq_append] at h
    obtain ⟨E', n, h', _⟩ := rfold_some D p
    rw [h'] at h; simp at h
/-- An open row is not empty, and ends where the pieces end. -/
theorem rfold_wf (l : List UInt8) : ∀ (k : Nat) (L B : List Pc), L.length ≤ k → pcs l = L ++ B → ∀ E n, rfold L = (E, some n) → n.f < n.t ∧ n.t ≤ l.length
  | 0, L, B, hk, h, E, n, hr => by
    have : L = [] := List.eq_nil_of_length_eq_zero (by omega)
    subst this; simp [rfold] at hr
  | k + 1, L, B, hk, h, E, n, hr => by
    rcases List.eq_nil_or_concat L with rfl | ⟨D, p, rfl⟩
    · simp [rfold] at hr
    · rw [List.concat_eq_append] at h hr hk
      obtain ⟨h1, h2, _⟩ := pcs_pos l p (by rw [h]; simp)
      rw [rfold_snoc] at hr
      rcases hd : rfold D with ⟨F, _ | m⟩
      · rw [hd] at hr; simp [rstep] at hr
        rw [← hr.2]; simp [rnew]; omega
      · rw [hd] at hr
        unfold rstep at hr
        by_cases hk' : m.k = pk p
        · simp only [hk', if_true] at hr
          simp at hr
          have h3 := rfold_wf l k D (p :: B) (by simp at hk; omega) (by rw [h]; simp) F m hd
          have h4 := m_le l D p B m F (by rw [h]; simp) hd
          rw [← hr.2]; simp; omega
        · simp only [hk', if_false] at hr
          simp at hr
          rw [← hr.2]; simp [rnew]; omega
where
  m_le (l : List UInt8) (D : List Pc) (p : Pc) (B : List Pc) (m : Rn) (F : List Rn) (h : pcs l = D ++ p :: B) (hd : rfold D = (F, some m)) : m.t ≤ p.i := by
    rcases List.eq_nil_or_concat D with rfl | ⟨D', q, rfl⟩
    · simp [rfold] at hd
    · rw [List.concat_eq_append] at h hd
      obtain ⟨E', n', h', _, h5⟩ := rfold_some D' q
      rw [h'] at hd; simp at hd
      rw [← hd.2, h5]
      obtain ⟨_, hok, _, h4⟩ := pcs_split l D' q (p :: B) (by rw [h]; simp)
      by_cases hd' : l.drop (q.i + q.w) = []
      · rw [hd', pcsFrom_nil] at h4; simp at h4
      · rw [pcsFrom_cons _ _ hd'] at h4
        simp only [List.cons.injEq] at h4
        rw [h4.1]; exact Nat.le_refl _

end Go.Proofs.Ytgeefojgkbglnaa
namespace Go.Proofs.Ytgeefojgkbglnaa
open Go.RowKit Go.Lib
set_option linter.unusedVariables false

/-- A piece's cells. -/
def pcV (p : Pc) : List Value := [.int .i64 p.i, .int .i64 p.w, .int .i32 p.r, .bool p.broken]
def pcA (p : Pc) : List Value := [.agg (pcV p).toArray]
theorem Itr.of1 {P : Program} {gf : FuncId} {caps : List Value} {α : Type} {enc : α → List Value} {xs : List α} {b : Nat} {o : Obj} (h : ∀ W0 : World, W0.heap[b]? = some o → Yields P gf caps.toArray (fun x => (enc x).toArray) xs (fun k => k = b) W0) :
    Itr P gf caps enc xs [(b, o)] := by
  intro w hw
  have : (fun k => ∃ p ∈ [(b, o)], p.1 = k) = (fun k => k = b) := by
    funext k; apply propext; simp; exact ⟨fun h => h.symm, fun h => h.symm⟩
  rw [this]
  exact h w (hw (b, o) (by simp))
theorem of_p (i wd r : Int) (b : Bool) (h0 : -2147483648 ≤ r) (h1 : r ≤ 2147483647) : FnP Try.prog 64 [.agg #[.int .i64 i, .int .i64 wd, .int .i32 r, .bool b]] (.int .i64 (kindOf b r)) := fun w => of_any i wd r b w h0 h1
theorem Rw.vec {α : Type} {enc : α → List Value} {e : TypeId} {size : Nat} {v : Value} {L : List α} {w w' : World} (h : Rw enc w' w.heap.size e size v L) (hb : Below w.heap.size w w') :
    ∃ C', sepL [vec enc e size v L] C' w' ∧ Ext (fun _ => False) C' w w' := by
  refine ⟨fun k => v.ownBlock = some k, sepL.one ⟨Rw.base h (Nat.zero_le _), rfl⟩, (Fr.of_below hb).weaken (fun i hi h => by omega), fun k hk => .inr ?_⟩
  rcases h.shape with ⟨rfl, _⟩ | ⟨g, cap, rfl, h1, h2, _⟩
  · simp [Value.ownBlock] at hk
  · simp [Value.ownBlock] at hk; omega
theorem pcV_len (p : Pc) : (pcV p).length = 4 := rfl
theorem pcV_one (p : Pc) : ∀ u ∈ pcV p, u.oneCell' = true := by
  intro u hu; simp [pcV] at hu; rcases hu with rfl | rfl | rfl | rfl <;> rfl
theorem bin_funcnil {P : Program} {t : TypeId} {x y : Operand} {u : TypeDesc} {fn : Go.Fn} {a b : Array Value} (hu : P.underlying t = some u) (hf : (match u with | .func .. => true | _ => false) = true) (w : World) :
    (do eqGuard .eql t x y (.func fn a b) .nilFunc; binOp .eql t (.func fn a b) .nilFunc : Sem Value).run P w = .ok (.bool false) w := by
  cases u <;> simp at hf
  have h : ∀ d, (Op.equalIn (d + 1) t (.func fn a b) .nilFunc).run P w = .ok false w := fun d => by simp [Op.equalIn, run_underlying hu]
  have h' : (Op.equalIn Op.maxDepth t (.func fn a b) .nilFunc).run P w = .ok false w := h 9999
  simp [eqGuard, binOp, Op.equal, h']
end Go.Proofs.Ytgeefojgkbglnaa
namespace Go.Proofs.Ytgeefojgkbglnaa
open Go.RowKit Go.Lib

/-- A piece: its rune, its bytes. -/
structure Tok where
  r : Nat
  bs : List UInt8
  deriving DecidableEq
def Tok.broken (t : Tok) : Bool := t.r == 65533 && t.bs.length == 1
/-- A rune's own form. -/
def Tok.valid (t : Tok) : Prop := (t.r < 55296 ∨ (57343 < t.r ∧ t.r ≤ 1114111)) ∧ t.bs = encodeRune t.r
def flat (ts : List Tok) : List UInt8 := ts.flatMap Tok.bs
def toksF : Nat → List UInt8 → List Tok
  | 0, _ => []
  | f + 1, l => if l = [] then [] else ⟨(decodeL l).1, l.take (decodeL l).2⟩ :: toksF f (l.drop (decodeL l).2)
def toks (l : List UInt8) : List Tok := toksF l.length l

theorem flat_nil : flat [] = [] := rfl
theorem flat_cons (t : Tok) (ts : List Tok) : flat (t :: ts) = t.bs ++ flat ts := by simp [flat]
theorem flat_append (a b : List Tok) : flat (a ++ b) = flat a ++ flat b := by simp [flat]
theorem toksF_enough : ∀ (f g : Nat) (l : List UInt8), l.length ≤ f → l.length ≤ g → toksF f l = toksF g l := by
  intro f
  induction f with
  | zero =>
    intro g l h1 h2
    have : l = [] := List.eq_nil_of_length_eq_zero (by omega)
    subst this
    cases g <;> simp [toksF]
  | succ f ih =>
    intro g l h1 h2
    cases g with
    | zero =>
      have : l = [] := List.eq_nil_of_length_eq_zero (by omega)
      subst this
      simp [toksF]
    | succ g =>
      by_cases hl : l = []
      · simp [toksF, hl]
      · simp only [toksF, hl, if_false]
        have := dec_pos l
        have hlen : 0 < l.length := List.length_pos_iff.2 hl
        rw [ih g _ (by simp; omega) (by simp; omega)]
theorem toks_nil : toks [] = [] := by simp [toks, toksF]
theorem toks_cons (l : List UInt8) (h : l ≠ []) : toks l = ⟨(decodeL l).1, l.take (decodeL l).2⟩ :: toks (l.drop (decodeL l).2) := by
  have hlen : 0 < l.length := List.length_pos_iff.2 h
  unfold toks
  obtain ⟨n, hn⟩ : ∃ n, l.length = n + 1 := ⟨l.length - 1, by omega⟩
  rw [hn]
  simp only [toksF, h, if_false]
  have := dec_pos l
  rw [toksF_enough n (l.drop (decodeL l).2).length _ (by simp; omega) (Nat.le_refl _)]
/-- Induction over a text, piece by piece. -/
theorem dec_induction {P : List UInt8 → Prop} (h0 : P []) (h1 : ∀ l, l ≠ [] → P (l.drop (decodeL l).2) → P l) : ∀ l, P l := by
  have key : ∀ (n : Nat) (l : List UInt8), l.length ≤ n → P l := by
    intro n
    induction n with
    | zero => intro l hl; rw [List.eq_nil_of_length_eq_zero (by omega : l.length = 0)]; exact h0
    | succ n ih =>
      intro l hl
      by_cases hn : l = []
      · rw [hn]; exact h0
      · have := dec_pos l
        exact h1 l hn (ih _ (by simp; omega))
  exact fun l => key l.length l (Nat.le_refl _)
theorem flat_toks (l : List UInt8) : flat (toks l) = l := by
  induction l using dec_induction with
  | h0 => rw [toks_nil]; rfl
  | h1 l hn ih => rw [toks_cons l hn, flat_cons, ih]; exact List.take_append_drop _ _
/-- A piece of a text is a rune's form or a broken byte. -/
theorem tok_ok (l : List UInt8) (h : l ≠ []) : (⟨(decodeL l).1, l.take (decodeL l).2⟩ : Tok).valid ∨ (⟨(decodeL l).1, l.take (decodeL l).2⟩ : Tok).broken = true := by
  by_cases hb : (decodeL l).1 = 65533 ∧ (decodeL l).2 = 1
  · right
    have hlen : 0 < l.length := List.length_pos_iff.2 h
    simp [Tok.broken, hb.1, hb.2]; omega
  · left
    exact ⟨dec_valid l, (encode_decode l h hb).symm⟩
theorem toks_ok (l : List UInt8) : ∀ t ∈ toks l, t.valid ∨ t.broken = true := by
  induction l using dec_induction with
  | h0 => rw [toks_nil]; simp
  | h1 l hn ih =>
    rw [toks_cons l hn]
    intro t ht
    rcases List.mem_cons.1 ht with rfl | ht
    · exact tok_ok l hn
    · exact ih t ht
theorem valid_not_broken {t : Tok} (h : t.valid) : t.broken = false := by
  unfold Tok.broken
  by_cases hr : t.r = 65533
  · have := h.2; rw [hr, enc_lost] at this; simp [this]
  · simp [hr]
theorem bs_ne {t : Tok} (h : t.valid ∨ t.broken = true) : t.bs ≠ [] := by
  rcases h with h | h
  · rw [h.2]; intro e; have := (encodeRune_len (t.r : Int)).1; rw [e] at this; simp at this
  · intro e; unfold Tok.broken at h; rw [e] at h; simp at h

/-- A byte that may go on a form. -/
def contB (b : UInt8) : Bool := b.toNat / 64 == 2
/-- What can't go on a form that stands ahead of it. -/
def Stop : List UInt8 → Prop
  | [] => True
  | b :: _ => contB b = false
theorem decodeN_stop1 {n b0 b1 b2 b3 c1 c2 c3 m : Nat} (h1 : n ≤ 1 ∨ b1 / 64 ≠ 2) (h2 : m ≤ 1 ∨ c1 / 64 ≠ 2) : decodeN n b0 b1 b2 b3 = decodeN m b0 c1 c2 c3 := by
  unfold decodeN
  have e1 : ¬ (1 < n ∧ b1 / 64 = 2) := by omega
  have e2 : ¬ (1 < m ∧ c1 / 64 = 2) := by omega
  simp only [e1, e2, and_false, false_and, if_false]
theorem decodeN_stop2 {n b0 b1 b2 b3 c2 c3 m : Nat} (hn : 1 < n) (hm : 1 < m) (h1 : n ≤ 2 ∨ b2 / 64 ≠ 2) (h2 : m ≤ 2 ∨ c2 / 64 ≠ 2) : decodeN n b0 b1 b2 b3 = decodeN m b0 b1 c2 c3 := by
  unfold decodeN
  have e1 : ¬ (2 < n ∧ b2 / 64 = 2) := by omega
  have e2 : ¬ (2 < m ∧ c2 / 64 = 2) := by omega
  simp only [e1, e2, and_false, false_and, if_false, hn, hm, true_and]
theorem decodeN_stop3 {n b0 b1 b2 b3 c3 m : Nat} (hn : 2 < n) (hm : 2 < m) (h1 : n ≤ 3 ∨ b3 / 64 ≠ 2) (h2 : m ≤ 3 ∨ c3 / 64 ≠ 2) : decodeN n b0 b1 b2 b3 = decodeN m b0 b1 b2 c3 := by
  unfold decodeN
  have e1 : ¬ (3 < n ∧ b3 / 64 = 2) := by omega
  have e2 : ¬ (3 < m ∧ c3 / 64 = 2) := by omega
  have h1n : 1 < n := by omega
  have h1m : 1 < m := by omega
  simp only [e1, e2, and_false, if_false, hn, hm, h1n, h1m, true_and]
theorem decodeN_stop4 {n b0 b1 b2 b3 m : Nat} (hn : 3 < n) (hm : 3 < m) : decodeN n b0 b1 b2 b3 = decodeN m b0 b1 b2 b3 := by
  unfold decodeN
  have h1n : 1 < n := by omega
  have h1m : 1 < m := by omega
  have h2n : 2 < n := by omega
  have h2m : 2 < m := by omega
  simp only [hn, hm, h1n, h1m, h2n, h2m, true_and]
theorem stop_get {x : List UInt8} (h : Stop x) (n : Nat) : n + x.length ≤ n ∨ (x.getD 0 0).toNat / 64 ≠ 2 := by
  cases x with
  | nil => simp
  | cons b x => right; simpa [Stop, contB] using h
/-- What stands behind a stop does not matter. -/
theorem dec_stop (l x : List UInt8) (hl : l ≠ []) (hx : Stop x) : decodeL (l ++ x) = decodeL l := by
  rw [decodeL_N, decodeL_N]
  rcases l with _ | ⟨a, _ | ⟨b, _ | ⟨c, _ | ⟨d, l⟩⟩⟩⟩
  · exact absurd rfl hl
  · refine decodeN_stop1 ?_ (.inl (by simp))
    rcases stop_get hx 1 with h | h
    · left; simp only [List.length_append, List.length_cons, List.length_nil]; omega
    · right; simpa using h
  · refine decodeN_stop2 (by simp) (by simp) ?_ (.inl (by simp))
    rcases stop_get hx 2 with h | h
    · left; simp only [List.length_append, List.length_cons, List.length_nil]; omega
    · right; simpa using h
  · refine decodeN_stop3 (by simp) (by simp) ?_ (.inl (by simp))
    rcases stop_get hx 3 with h | h
    · left; simp only [List.length_append, List.length_cons, List.length_nil]; omega
    · right; simpa using h
  · exact decodeN_stop4 (by simp) (by simp)
theorem toks_append (l x : List UInt8) (hx : Stop x) : toks (l ++ x) = toks l ++ toks x := by
  induction l using dec_induction with
  | h0 => rw [toks_nil]; rfl
  | h1 l hn ih =>
    have hle := dec_le l hn
    have hne : l ++ x ≠ [] := by simp [hn]
    rw [toks_cons _ hne, toks_cons l hn, dec_stop l x hn hx, List.drop_append_of_le_length hle, ih, List.take_append_of_le_length hle]
    rfl

theorem encZ_shape (r : Nat) (hv : r < 55296 ∨ (57343 < r ∧ r ≤ 1114111)) :
    (r ≤ 127 ∧ encodeRuneZ r = [(r : Int)]) ∨ (128 ≤ r ∧ r ≤ 2047 ∧ encodeRuneZ r = [192 + (r : Int) / 64, 128 + (r : Int) % 64]) ∨
    (2048 ≤ r ∧ r ≤ 65535 ∧ encodeRuneZ r = [224 + (r : Int) / 4096, 128 + (r : Int) / 64 % 64, 128 + (r : Int) % 64]) ∨
    (65536 ≤ r ∧ r ≤ 1114111 ∧ encodeRuneZ r = [240 + (r : Int) / 262144, 128 + (r : Int) / 4096 % 64, 128 + (r : Int) / 64 % 64, 128 + (r : Int) % 64]) := by
  by_cases h1 : r ≤ 127
  · exact .inl ⟨h1, encodeRuneZ_one (by omega) (by omega)⟩
  · by_cases h2 : r ≤ 2047
    · exact .inr (.inl ⟨by omega, h2, encodeRuneZ_two (by omega) (by omega)⟩)
    · by_cases h3 : r ≤ 65535
      · exact .inr (.inr (.inl ⟨by omega, h3, encodeRuneZ_three (by omega)⟩))
      · exact .inr (.inr (.inr ⟨by omega, by omega, encodeRuneZ_four (by omega) (by omega)⟩))
theorem u8_toNat (z : Int) (_h0 : 0 ≤ z) (h1 : z < 256) : (z.toNat.toUInt8).toNat = z.toNat := by
  simp; omega
theorem dec_enc (r : Nat) (hv : r < 55296 ∨ (57343 < r ∧ r ≤ 1114111)) (x : List UInt8) : decodeL (encodeRune r ++ x) = (r, (encodeRune r).length) := by
  rw [decodeL_N]
  rcases encZ_shape r hv with ⟨h, e⟩ | ⟨h, h', e⟩ | ⟨h, h', e⟩ | ⟨h, h', e⟩
  · have hl : encodeRune r = [((r : Int).toNat.toUInt8)] := by simp only [encodeRune, e, List.map_cons, List.map_nil]
    rw [hl]
    simp only [List.cons_append, List.nil_append, List.getD_cons_zero, List.length_cons]
    rw [u8_toNat _ (by omega) (by omega)]
    unfold decodeN
    simp only [Int.toNat_natCast]
    rw [if_pos (by omega)]
    simp
  · have hl : encodeRune r = [((192 + (r : Int) / 64).toNat.toUInt8), ((128 + (r : Int) % 64).toNat.toUInt8)] := by simp only [encodeRune, e, List.map_cons, List.map_nil]
    rw [hl]
    simp only [List.cons_append, List.nil_append, List.getD_cons_zero, List.getD_cons_succ, List.length_cons]
    rw [u8_toNat _ (by omega) (by omega), u8_toNat _ (by omega) (by omega)]
    have a1 : (192 + (r : Int) / 64).toNat = 192 + r / 64 := by omega
    have a2 : (128 + (r : Int) % 64).toNat = 128 + r % 64 := by omega
    rw [a1, a2]
    unfold decodeN
    have c1 : ¬ 192 + r / 64 < 128 := by omega
    have c2 : (192 + r / 64) / 32 = 6 := by omega
    have c3 : (128 + r % 64) / 64 = 2 := by omega
    have c4 : (192 + r / 64) % 32 * 64 + (128 + r % 64) % 64 = r := by omega
    have c5 : 128 ≤ r := by omega
    rw [if_neg c1, if_pos ⟨c2, by omega, c3⟩, c4, if_pos c5]
    rfl
  · have hl : encodeRune r = [((224 + (r : Int) / 4096).toNat.toUInt8), ((128 + (r : Int) / 64 % 64).toNat.toUInt8), ((128 + (r : Int) % 64).toNat.toUInt8)] := by simp only [encodeRune, e, List.map_cons, List.map_nil]
    rw [hl]
    simp only [List.cons_append, List.nil_append, List.getD_cons_zero, List.getD_cons_succ, List.length_cons]
    rw [u8_toNat _ (by omega) (by omega), u8_toNat _ (by omega) (by omega), u8_toNat _ (by omega) (by omega)]
    have a1 : (224 + (r : Int) / 4096).toNat = 224 + r / 4096 := by omega
    have a2 : (128 + (r : Int) / 64 % 64).toNat = 128 + r / 64 % 64 := by omega
    have a3 : (128 + (r : Int) % 64).toNat = 128 + r % 64 := by omega
    rw [a1, a2, a3]
    unfold decodeN
    have c1 : ¬ 224 + r / 4096 < 128 := by omega
    have c2 : (224 + r / 4096) / 32 ≠ 6 := by omega
    have c2' : (224 + r / 4096) / 16 = 14 := by omega
    have c3 : (128 + r / 64 % 64) / 64 = 2 := by omega
    have c3' : (128 + r % 64) / 64 = 2 := by omega
    have c4 : (224 + r / 4096) % 16 * 4096 + (128 + r / 64 % 64) % 64 * 64 + (128 + r % 64) % 64 = r := by omega
    have c5 : 2048 ≤ r := by omega
    rw [if_neg c1, if_neg (fun h => c2 h.1), if_pos ⟨c2', ⟨by omega, c3⟩, ⟨by omega, c3'⟩⟩, c4, if_pos ⟨c5, by omega⟩]
    rfl
  · have hl : encodeRune r = [((240 + (r : Int) / 262144).toNat.toUInt8), ((128 + (r : Int) / 4096 % 64).toNat.toUInt8), ((128 + (r : Int) / 64 % 64).toNat.toUInt8), ((128 + (r : Int) % 64).toNat.toUInt8)] := by simp only [encodeRune, e, List.map_cons, List.map_nil]
    rw [hl]
    simp only [List.cons_append, List.nil_append, List.getD_cons_zero, List.getD_cons_succ, List.length_cons]
    rw [u8_toNat _ (by omega) (by omega), u8_toNat _ (by omega) (by omega), u8_toNat _ (by omega) (by omega), u8_toNat _ (by omega) (by omega)]
    have a1 : (240 + (r : Int) / 262144).toNat = 240 + r / 262144 := by omega
    have a2 : (128 + (r : Int) / 4096 % 64).toNat = 128 + r / 4096 % 64 := by omega
    have a2' : (128 + (r : Int) / 64 % 64).toNat = 128 + r / 64 % 64 := by omega
    have a3 : (128 + (r : Int) % 64).toNat = 128 + r % 64 := by omega
    rw [a1, a2, a2', a3]
    unfold decodeN
    have c1 : ¬ 240 + r / 262144 < 128 := by omega
    have c2 : (240 + r / 262144) / 32 ≠ 6 := by omega
    have c2' : (240 + r / 262144) / 16 ≠ 14 := by omega
    have c2'' : (240 + r / 262144) / 8 = 30 := by omega
    have c3 : (128 + r / 4096 % 64) / 64 = 2 := by omega
    have c3' : (128 + r / 64 % 64) / 64 = 2 := by omega
    have c3'' : (128 + r % 64) / 64 = 2 := by omega
    have c4 : (240 + r / 262144) % 8 * 262144 + (128 + r / 4096 % 64) % 64 * 4096 + (128 + r / 64 % 64) % 64 * 64 + (128 + r % 64) % 64 = r := by omega
    have c5 : 65536 ≤ r := by omega
    rw [if_neg c1, if_neg (fun h => c2 h.1), if_neg (fun h => c2' h.1), if_pos ⟨c2'', ⟨by omega, c3⟩, ⟨by omega, c3'⟩, ⟨by omega, c3''⟩⟩, c4, if_pos ⟨c5, by omega⟩]
    rfl
/-- A rune's form stops what stands ahead of it. -/
theorem stop_enc (r : Nat) (hv : r < 55296 ∨ (57343 < r ∧ r ≤ 1114111)) (x : List UInt8) : Stop (encodeRune r ++ x) := by
  rcases encZ_shape r hv with ⟨h, e⟩ | ⟨h, h', e⟩ | ⟨h, h', e⟩ | ⟨h, h', e⟩ <;>
  · simp only [encodeRune, e, List.map_cons, List.map_nil, List.cons_append, Stop, contB, beq_eq_false_iff_ne, ne_eq]
    rw [u8_toNat _ (by omega) (by omega)]
    omega
theorem toks_valid {t : Tok} (h : t.valid) (x : List UInt8) : toks (t.bs ++ x) = t :: toks x := by
  have hne : t.bs ++ x ≠ [] := by simp [bs_ne (.inl h)]
  rw [toks_cons _ hne]
  rw [h.2, dec_enc t.r h.1 x, ← h.2]
  simp
theorem toks_valids {vs : List Tok} (h : ∀ t ∈ vs, t.valid) (x : List UInt8) : toks (flat vs ++ x) = vs ++ toks x := by
  induction vs with
  | nil => rfl
  | cons t vs ih =>
    rw [flat_cons, List.append_assoc, toks_valid (h t (List.mem_cons_self ..)), ih (fun q hq => h q (List.mem_cons_of_mem _ hq))]
    rfl
theorem stop_valids {vs : List Tok} (hne : vs ≠ []) (h : ∀ t ∈ vs, t.valid) (x : List UInt8) : Stop (flat vs ++ x) := by
  cases vs with
  | nil => exact absurd rfl hne
  | cons t vs =>
    have := h t (List.mem_cons_self ..)
    rw [flat_cons, List.append_assoc, this.2]
    exact stop_enc t.r this.1 _

/-- The pieces are their own text's. -/
def Good (ts : List Tok) : Prop := toks (flat ts) = ts
theorem good_toks (l : List UInt8) : Good (toks l) := by unfold Good; rw [flat_toks]
theorem good_tail {t : Tok} {ts : List Tok} (h : Good (t :: ts)) : Good ts := by
  unfold Good at *
  by_cases hn : flat (t :: ts) = []
  · rw [hn, toks_nil] at h; cases h
  · rw [toks_cons _ hn] at h
    have h1 : (⟨(decodeL (flat (t :: ts))).1, (flat (t :: ts)).take (decodeL (flat (t :: ts))).2⟩ : Tok) = t := by injection h
    have h2 : toks ((flat (t :: ts)).drop (decodeL (flat (t :: ts))).2) = ts := by injection h
    have h3 : (flat (t :: ts)).take (decodeL (flat (t :: ts))).2 = t.bs := congrArg Tok.bs h1
    have h4 := List.take_append_drop (decodeL (flat (t :: ts))).2 (flat (t :: ts))
    rw [h3] at h4
    have h5 : (flat (t :: ts)).drop (decodeL (flat (t :: ts))).2 = flat ts := by
      rw [flat_cons] at h4 ⊢
      exact List.append_cancel_left h4
    rw [← h5]; exact h2
theorem good_drop {a ts : List Tok} (h : Good (a ++ ts)) : Good ts := by
  induction a with
  | nil => exact h
  | cons t a ih => exact ih (good_tail h)
theorem good_ok {ts : List Tok} (h : Good ts) : ∀ t ∈ ts, t.valid ∨ t.broken = true := by
  unfold Good at h; rw [← h]; exact toks_ok _

/-- Broken bytes stay, valid pieces become other valid ones. -/
inductive Sub : List Tok → List Tok → Prop
  | nil : Sub [] []
  | brk {b : Tok} {ts us : List Tok} : b.broken = true → Sub ts us → Sub (b :: ts) (b :: us)
  | val {gs vs ts us : List Tok} : gs ≠ [] → vs ≠ [] → (∀ t ∈ gs, t.valid) → (∀ t ∈ vs, t.valid) → Sub ts us → Sub (gs ++ ts) (vs ++ us)
theorem Sub.one {t : Tok} {vs ts us : List Tok} (ht : t.valid) (hn : vs ≠ []) (hv : ∀ t ∈ vs, t.valid) (h : Sub ts us) : Sub (t :: ts) (vs ++ us) :=
  Sub.val (gs := [t]) (by simp) hn (by simpa using ht) hv h
/-- How a list that is put in another's place begins. -/
theorem Sub.head {ts us : List Tok} (h : Sub ts us) : ∃ B ts' us', (∀ b ∈ B, b.broken = true) ∧ ts = B ++ ts' ∧ us = B ++ us' ∧ Stop (flat ts') ∧ Stop (flat us') := by
  induction h with
  | nil => exact ⟨[], [], [], by simp, rfl, rfl, trivial, trivial⟩
  | brk hb _ ih =>
    obtain ⟨B, ts', us', h1, rfl, rfl, h4, h5⟩ := ih
    exact ⟨_ :: B, ts', us', by simpa [hb] using h1, rfl, rfl, h4, h5⟩
  | @val gs vs ts us h1 h2 h3 h4 _ ih =>
    exact ⟨[], gs ++ ts, vs ++ us, by simp, rfl, rfl, by rw [flat_append]; exact stop_valids h1 h3 _, by rw [flat_append]; exact stop_valids h2 h4 _⟩
theorem Sub.good {ts us : List Tok} (h : Sub ts us) (hg : Good ts) : Good us := by
  induction h with
  | nil => exact hg
  | @brk b ts us hb hs ih =>
    have ih' := ih (good_tail hg)
    obtain ⟨B, ts', us', h1, rfl, rfl, h4, h5⟩ := hs.head
    unfold Good at *
    have hne : b.bs ≠ [] := bs_ne (.inr hb)
    have e1 : flat (b :: (B ++ ts')) = flat (b :: B) ++ flat ts' := by rw [← List.cons_append, flat_append]
    have e2 : flat (b :: (B ++ us')) = flat (b :: B) ++ flat us' := by rw [← List.cons_append, flat_append]
    rw [e1, toks_append _ _ h4] at hg
    rw [e2, toks_append _ _ h5]
    have g1 : toks (flat ts') = ts' := by
      have := good_drop (a := B) (ts := ts') (by
        have hh : Good (b :: (B ++ ts')) := by unfold Good; rw [e1, toks_append _ _ h4]; exact hg
        exact good_tail hh)
      exact this
    rw [flat_append, toks_append _ _ h5] at ih'
    have g2 : toks (flat us') = us' := good_drop (a := B) (by unfold Good; rw [flat_append, toks_append _ _ h5]; exact ih')
    rw [g1, ← List.cons_append] at hg
    rw [g2, ← List.cons_append]
    rw [List.append_cancel_right hg]
  | @val gs vs ts us h1 h2 h3 h4 _ ih =>
    unfold Good
    rw [flat_append, toks_valids h4, show toks (flat us) = us from ih (good_drop hg)]

/-! ### The pieces with their places -/
def place : Nat → List Tok → List Pc
  | _, [] => []
  | i, t :: ts => ⟨i, t.bs.length, t.r⟩ :: place (i + t.bs.length) ts
theorem pcs_place (l : List UInt8) : ∀ i, pcsFrom i l = place i (toks l) := by
  induction l using dec_induction with
  | h0 => intro i; rw [toks_nil, pcsFrom_nil]; rfl
  | h1 l hn ih =>
    intro i
    have hle := dec_le l hn
    have e : (l.take (decodeL l).2).length = (decodeL l).2 := by simp; omega
    rw [pcsFrom_cons i l hn, toks_cons l hn, place, ih, e]
theorem place_append (a b : List Tok) : ∀ i, place i (a ++ b) = place i a ++ place (i + (flat a).length) b := by
  induction a with
  | nil => intro i; rfl
  | cons t a ih => intro i; simp only [List.cons_append, place, ih, flat_cons, List.length_append, Nat.add_assoc]
theorem place_length (ts : List Tok) : ∀ i, (place i ts).length = ts.length := by
  induction ts with
  | nil => intro i; rfl
  | cons t ts ih => intro i; simp [place, ih]

end Go.Proofs.Ytgeefojgkbglnaa
namespace Go.Proofs.Ytgeefojgkbglnaa
open Go.RowKit Go.Lib
set_option linter.unusedVariables false

/-- A piece with the marks behind it. -/
structure Un where
  k : Int
  r : Nat
  f : Nat
  t : Nat
  al : Bool
  deriving DecidableEq
def ubare (k : Int) : Bool := k == 11 || k == 4 || k == 9
def unew (p : Pc) : Un := ⟨pk p, p.r, p.i, p.i + p.w, true⟩
def ustep : List Un × Option Un → Pc → List Un × Option Un
  | (E, none), p => (E, some (unew p))
  | (E, some n), p => if pk p = 2 ∧ ubare n.k = false then (E, some ⟨n.k, n.r, n.f, n.t + p.w, false⟩) else (E ++ [n], some (unew p))
def ufold (L : List Pc) : List Un × Option Un := L.foldl ustep ([], none)
def uout : List Un × Option Un → List Un
  | (E, none) => E
  | (E, some n) => E ++ [n]
def units (L : List Pc) : List Un := uout (ufold L)
theorem ufold_snoc (L : List Pc) (p : Pc) : ufold (L ++ [p]) = ustep (ufold L) p := by simp [ufold]
theorem ustep_some (S : List Un × Option Un) (p : Pc) : ∃ E n, ustep S p = (E, some n) := by
  rcases S with ⟨E, _ | n⟩
  · exact ⟨E, _, rfl⟩
  · unfold ustep
    by_cases h : pk p = 2 ∧ ubare n.k = false
    · exact ⟨E, ⟨n.k, n.r, n.f, n.t + p.w, false⟩, if_pos h⟩
    · exact ⟨E ++ [n], _, if_neg h⟩
theorem ustep_pre : ∀ (L : List Pc) (E : List Un) (o : Option Un), ∃ E', (L.foldl ustep (E, o)).1 = E ++ E'
  | [], E, o => ⟨[], by simp⟩
  | p :: L, E, o => by
    rcases o with _ | n
    · exact ustep_pre L E (some (unew p))
    · by_cases hk : pk p = 2 ∧ ubare n.k = false
      · have : (p :: L).foldl ustep (E, some n) = L.foldl ustep (E, some ⟨n.k, n.r, n.f, n.t + p.w, false⟩) := by
          show L.foldl ustep (ustep (E, some n) p) = _
          simp only [ustep]; rw [if_pos hk]
        rw [this]; exact ustep_pre L E _
      · have : (p :: L).foldl ustep (E, some n) = L.foldl ustep (E ++ [n], some (unew p)) := by
          show L.foldl ustep (ustep (E, some n) p) = _
          simp only [ustep]; rw [if_neg hk]
        rw [this]
        obtain ⟨E', h⟩ := ustep_pre L (E ++ [n]) (some (unew p))
        exact ⟨n :: E', by rw [h]; simp⟩
theorem units_at (pre post : List Pc) (x : Pc) (E : List Un) (n : Un) (h : ufold pre = (E, some n)) (hk : ¬ (pk x = 2 ∧ ubare n.k = false)) : ∃ q, units (pre ++ x :: post) = E ++ n :: q := by
  have h1 : ufold (pre ++ x :: post) = (post.foldl ustep (E ++ [n], some (unew x))) := by
    unfold ufold at *
    rw [List.foldl_append, h, List.foldl_cons]; simp only [ustep]; rw [if_neg hk]
  obtain ⟨E', h2⟩ := ustep_pre post (E ++ [n]) (some (unew x))
  unfold units; rw [h1]
  rcases hf : post.foldl ustep (E ++ [n], some (unew x)) with ⟨F, _ | m⟩
  · rw [hf] at h2; exact ⟨E', by show F = _; simp only at h2; rw [h2]; simp⟩
  · rw [hf] at h2; exact ⟨E' ++ [m], by show F ++ [m] = _; simp only at h2; rw [h2]; simp⟩
theorem units_last (L : List Pc) (E : List Un) (n : Un) (h : ufold L = (E, some n)) : units L = E ++ [n] := by unfold units; rw [h]; rfl
theorem units_nil (L : List Pc) (E : List Un) (h : ufold L = (E, none)) : L = [] ∧ E = [] := by
  rcases List.eq_nil_or_concat L with rfl | ⟨D, p, rfl⟩
  · simp [ufold] at h; exact ⟨rfl, h⟩
  · rw [List.concat_eq_append, ufold_snoc] at h
    obtain ⟨E', n, h'⟩ := ustep_some (ufold D) p
    rw [h'] at h; simp at h
/-- Where the pieces of a text end so far. -/
theorem ufold_end (l : List UInt8) : ∀ (k : Nat) (L B : List Pc), L.length ≤ k → pcs l = L ++ B → ∀ E n, ufold L = (E, some n) → n.f < n.t ∧ n.t ≤ l.length ∧ (∀ p, B[0]? = some p → p.i = n.t) ∧ (B = [] → n.t = l.length)
  | 0, L, B, hk, h, E, n, hr => by
    have : L = [] := List.eq_nil_of_length_eq_zero (by omega)
    subst this; simp [ufold] at hr
  | k + 1, L, B, hk, h, E, n, hr => by
    rcases List.eq_nil_or_concat L with rfl | ⟨D, p, rfl⟩
    · simp [ufold] at hr
    · rw [List.concat_eq_append] at h hr hk
      obtain ⟨h1, h2, _⟩ := pcs_pos l p (by rw [h]; simp)
      obtain ⟨q1, q2, q3, q4⟩ := pcs_split l D p B (by rw [h]; simp)
      have hB : (∀ q, B[0]? = some q → q.i = p.i + p.w) ∧ (B = [] → p.i + p.w = l.length) := by
        by_cases hd' : l.drop (p.i + p.w) = []
        · rw [hd', pcsFrom_nil] at q4
          subst q4
          refine ⟨fun q hq => by simp at hq, fun _ => ?_⟩
          have := congrArg List.length hd'
          simp at this; omega
        · rw [pcsFrom_cons _ _ hd'] at q4
          refine ⟨fun q hq => ?_, fun he => ?_⟩
          · rw [q4] at hq; simp at hq; rw [← hq]
          · rw [he] at q4; cases q4
      rw [ufold_snoc] at hr
      rcases hd : ufold D with ⟨F, _ | m⟩
      · rw [hd] at hr; simp [ustep] at hr
        rw [← hr.2]; simp only [unew]; exact ⟨by omega, by omega, hB.1, hB.2⟩
      · obtain ⟨h3, h4, h5, _⟩ := ufold_end l k D (p :: B) (by simp at hk; omega) (by rw [h]; simp) F m hd
        have h6 := h5 p rfl
        rw [hd] at hr
        simp only [ustep] at hr
        by_cases hk' : pk p = 2 ∧ ubare m.k = false
        · rw [if_pos hk'] at hr
          simp at hr
          rw [← hr.2]; simp only; rw [← h6]; exact ⟨by omega, by omega, hB.1, hB.2⟩
        · rw [if_neg hk'] at hr
          simp at hr
          rw [← hr.2]; simp only [unew]; exact ⟨by omega, by omega, hB.1, hB.2⟩

/-! ### The scanner -/
structure Tk where
  k : Int
  f : Nat
  t : Nat
  deriving DecidableEq
def joint (u : Un) : Bool := u.al && (u.r == 0x27 || u.r == 0x2019 || u.r == 0x2D || u.r == 0x2010)
def dot (u : Un) : Bool := u.al && (u.r == 0x2C || u.r == 0x2E)
/-- The scanner's next state, and what becomes of a unit: 0 begins, 1 takes, 2 holds. -/
def fits (st : Int) (u : Un) : Int × Int :=
  if st = 1 ∨ st = 2 then (if u.k = 1 then (1, 1) else if st = 1 ∧ joint u = true then (2, 2) else (st, 0))
  else if st = 3 ∨ st = 4 then (if u.k = 3 then (3, 1) else if st = 3 ∧ dot u = true then (4, 2) else (st, 0))
  else if st = 5 then (if u.k = 5 then (5, 1) else (5, 0))
  else if st = 6 then (if u.k = 11 then (6, 1) else (6, 0))
  else if st = 8 then (if u.k = 4 ∧ u.r = 10 then (7, 1) else (8, 0))
  else (st, 0)
/-- State and token's kind that a unit begins. -/
def begins (u : Un) : Int × Int :=
  if u.k = 1 then (1, 1) else if u.k = 3 then (3, 2) else if u.k = 5 then (5, 3) else if u.k = 11 then (6, 7)
  else if u.k = 4 then (if u.r = 13 then 8 else 7, 4) else if u.k = 6 ∨ u.k = 7 ∨ u.k = 8 then (9, 5) else (9, 6)
structure Sc where
  st : Int
  tk : Tk
  h : Un
def ended (s : Sc) : List Tk := if s.st = 0 then [] else if s.st = 2 ∨ s.st = 4 then [s.tk, ⟨5, s.h.f, s.h.t⟩] else [s.tk]
def began (s : Sc) (u : Un) : Sc := ⟨(begins u).1, ⟨(begins u).2, u.f, u.t⟩, s.h⟩
def mstep (S : List Tk × Sc) (u : Un) : List Tk × Sc :=
  if (fits S.2.st u).2 = 2 then (S.1, ⟨(fits S.2.st u).1, S.2.tk, u⟩)
  else if (fits S.2.st u).2 = 1 then (S.1, ⟨(fits S.2.st u).1, ⟨S.2.tk.k, S.2.tk.f, u.t⟩, S.2.h⟩)
  else (S.1 ++ ended S.2, began S.2 u)
def sc0 : Sc := ⟨0, ⟨0, 0, 0⟩, ⟨0, 0, 0, 0, false⟩⟩
def mfold (us : List Un) : List Tk × Sc := us.foldl mstep ([], sc0)
def scan (us : List Un) : List Tk := (mfold us).1 ++ ended (mfold us).2
theorem mfold_snoc (us : List Un) (u : Un) : mfold (us ++ [u]) = mstep (mfold us) u := by simp [mfold]
theorem mstep_pre : ∀ (us : List Un) (S : List Tk × Sc), ∃ q, (us.foldl mstep S).1 = S.1 ++ q
  | [], S => ⟨[], by simp⟩
  | u :: us, S => by
    obtain ⟨q, hq⟩ := mstep_pre us (mstep S u)
    simp only [List.foldl_cons]
    rw [hq]
    unfold mstep
    split
    · exact ⟨q, rfl⟩
    · split
      · exact ⟨q, rfl⟩
      · exact ⟨ended S.2 ++ q, by simp⟩
theorem mstep_begin (S : List Tk × Sc) (u : Un) (h1 : (fits S.2.st u).2 ≠ 2) (h2 : (fits S.2.st u).2 ≠ 1) : mstep S u = (S.1 ++ ended S.2, began S.2 u) := by
  unfold mstep; rw [if_neg h1, if_neg h2]
/-- What the scanner tells as it meets a unit that begins a token is told of the whole. -/
theorem scan_at (pre post : List Un) (u : Un) (h : (fits (mfold pre).2.st u).2 ≠ 2 ∧ (fits (mfold pre).2.st u).2 ≠ 1) : ∃ q, scan (pre ++ u :: post) = (mfold pre).1 ++ ended (mfold pre).2 ++ q := by
  have h1 : mfold (pre ++ u :: post) = post.foldl mstep ((mfold pre).1 ++ ended (mfold pre).2, began (mfold pre).2 u) := by
    rw [← mstep_begin _ _ h.1 h.2]
    simp [mfold, List.foldl_append]
  obtain ⟨q, hq⟩ := mstep_pre post ((mfold pre).1 ++ ended (mfold pre).2, began (mfold pre).2 u)
  unfold scan; rw [h1, hq]
  exact ⟨_, List.append_assoc _ _ _⟩

/-! ### The document's tokens -/
def isK (us : List Un) (k : Int) : Bool := match us with | [] => false | u :: _ => u.k == k
def oneOf (js : List Nat) (u : Un) : Bool := u.al && u.k != 11 && js.contains u.r
/-- How many units behind the first one go with it. -/
def runN (k : Int) (js : List Nat) : List Un → Nat
  | [] => 0
  | u :: us => if u.k = k then 1 + runN k js us else if oneOf js u = true ∧ isK us k = true then 1 + runN k js us else 0
def JW : List Nat := [0x27, 0x2019, 0x2D, 0x2010]
def JD : List Nat := [0x2C, 0x2E]
def behind (u : Un) (us : List Un) : Nat :=
  if u.k = 1 then runN 1 JW us else if u.k = 3 then runN 3 JD us else if u.k = 5 then runN 5 [] us else if u.k = 11 then runN 11 [] us
  else if u.k = 4 then (match us with | [] => 0 | v :: _ => if u.r = 13 ∧ v.k = 4 ∧ v.r = 10 then 1 else 0) else 0
/-- Where a token ends that has n units behind its first. -/
def endOf (t : Nat) (us : List Un) : Nat → Nat
  | 0 => t
  | n + 1 => match us with | [] => t | v :: vs => endOf v.t vs n
def toksR : List Un → List Tk
  | [] => []
  | u :: us => ⟨(begins u).2, u.f, endOf u.t us (behind u us)⟩ :: toksR (us.drop (behind u us))
termination_by us => us.length
decreasing_by simp only [List.length_drop, List.length_cons]; omega

def rest (s : Sc) (us : List Un) : List Tk := (us.foldl mstep ([], s)).1 ++ ended (us.foldl mstep ([], s)).2
theorem mstep_shift (E : List Tk) (F : List Tk) (s : Sc) (u : Un) : mstep (E ++ F, s) u = (E ++ (mstep (F, s) u).1, (mstep (F, s) u).2) := by
  unfold mstep
  split
  · rfl
  · split
    · rfl
    · simp
theorem fold_shift : ∀ (us : List Un) (E F : List Tk) (s : Sc), us.foldl mstep (E ++ F, s) = (E ++ (us.foldl mstep (F, s)).1, (us.foldl mstep (F, s)).2)
  | [], E, F, s => rfl
  | u :: us, E, F, s => by
    simp only [List.foldl_cons]
    rw [mstep_shift, fold_shift us]
theorem rest_nil (s : Sc) : rest s [] = ended s := by simp [rest]
theorem rest_hold (s : Sc) (u : Un) (us : List Un) (h : (fits s.st u).2 = 2) : rest s (u :: us) = rest ⟨(fits s.st u).1, s.tk, u⟩ us := by
  unfold rest; simp only [List.foldl_cons]; rw [show mstep ([], s) u = ([], ⟨(fits s.st u).1, s.tk, u⟩) by unfold mstep; rw [if_pos h]]
theorem rest_take (s : Sc) (u : Un) (us : List Un) (h : (fits s.st u).2 = 1) : rest s (u :: us) = rest ⟨(fits s.st u).1, ⟨s.tk.k, s.tk.f, u.t⟩, s.h⟩ us := by
  unfold rest; simp only [List.foldl_cons]
  rw [show mstep ([], s) u = ([], ⟨(fits s.st u).1, ⟨s.tk.k, s.tk.f, u.t⟩, s.h⟩) by unfold mstep; rw [if_neg (by simp only; rw [h]; decide), if_pos h]]
theorem rest_begin (s : Sc) (u : Un) (us : List Un) (h : (fits s.st u).2 = 0) : rest s (u :: us) = ended s ++ rest (began s u) us := by
  unfold rest; simp only [List.foldl_cons]
  rw [show mstep ([], s) u = (ended s ++ [], began s u) by unfold mstep; rw [if_neg (by simp only; rw [h]; decide), if_neg (by simp only; rw [h]; decide)]; simp, fold_shift]
  simp
/-- A unit's kind is that of its first piece. -/
def WF (u : Un) : Prop := (u.k = 11 ∧ u.r = 65533) ∨ u.k = kind (u.r : Int)
theorem joint_kind {u : Un} (h : WF u) (hj : joint u = true) : (u.k = 6 ∨ u.k = 7) := by
  unfold joint at hj
  simp only [Bool.and_eq_true, Bool.or_eq_true, beq_iff_eq] at hj
  rcases h with ⟨_, hr⟩ | h
  · omega
  · rcases hj.2 with ((h1 | h1) | h1) | h1 <;> rw [h1] at h <;> rw [h] <;> decide
theorem dot_kind {u : Un} (h : WF u) (hj : dot u = true) : u.k = 8 := by
  unfold dot at hj
  simp only [Bool.and_eq_true, Bool.or_eq_true, beq_iff_eq] at hj
  rcases h with ⟨_, hr⟩ | h
  · omega
  · rcases hj.2 with h1 | h1 <;> rw [h1] at h <;> rw [h] <;> decide
theorem one_joint {u : Un} (h : WF u) : oneOf JW u = joint u := by
  unfold oneOf joint JW
  by_cases hk : u.k = 11
  · rcases h with ⟨_, hr⟩ | h
    · simp [hk, hr]
    · by_cases h1 : u.r = 0x27 ∨ u.r = 0x2019 ∨ u.r = 0x2D ∨ u.r = 0x2010
      · exfalso
        rcases h1 with h1 | h1 | h1 | h1 <;> rw [h1] at h <;> rw [h] at hk <;> revert hk <;> decide
      · simp [hk]; intro _; omega
  · rw [Bool.eq_iff_iff]; simp [hk, or_assoc]
theorem one_dot {u : Un} (h : WF u) : oneOf JD u = dot u := by
  unfold oneOf dot JD
  by_cases hk : u.k = 11
  · rcases h with ⟨_, hr⟩ | h
    · simp [hk, hr]
    · by_cases h1 : u.r = 0x2C ∨ u.r = 0x2E
      · exfalso
        rcases h1 with h1 | h1 <;> rw [h1] at h <;> rw [h] at hk <;> revert hk <;> decide
      · simp [hk]; intro _; omega
  · rw [Bool.eq_iff_iff]; simp [hk]
theorem runN_nil (k : Int) : ∀ us : List Un, ∀ u, u.k ≠ k → runN k [] (u :: us) = 0 := by
  intro us u h; simp [runN, h, oneOf]
/-- The tail of a word, a number. -/
theorem rest_run (kd : Int) (js : List Nat) (jt : Un → Bool) (m : Nat)
    (hf1 : ∀ u, fits kd u = if u.k = kd then (kd, 1) else if jt u = true then (kd + 1, 2) else (kd, 0))
    (hf2 : ∀ u, fits (kd + 1) u = if u.k = kd then (kd, 1) else (kd + 1, 0))
    (he1 : ∀ t h, ended ⟨kd, t, h⟩ = [t]) (he2 : ∀ t h, ended ⟨kd + 1, t, h⟩ = [t, ⟨5, h.f, h.t⟩])
    (hj : ∀ u, WF u → oneOf js u = jt u) (hk : ∀ u us, WF u → jt u = true → u.k ≠ kd ∧ behind u us = 0 ∧ (begins u).2 = 5)
    (hm : ∀ s u us, (u :: us).length ≤ m → (∀ v ∈ u :: us, WF v) → rest (began s u) us = toksR (u :: us)) :
    ∀ (n : Nat) (us : List Un) (t : Tk) (h : Un), us.length ≤ n → us.length ≤ m → (∀ v ∈ us, WF v) → rest ⟨kd, t, h⟩ us = ⟨t.k, t.f, endOf t.t us (runN kd js us)⟩ :: toksR (us.drop (runN kd js us))
  | n, [], t, h, _, _, _ => by rw [rest_nil, he1]; simp [runN, endOf, toksR]
  | 0, u :: us, t, h, hn, _, _ => by simp at hn
  | n + 1, u :: us, t, h, hn, hml, hw => by
    have hwu := hw u (by simp)
    have ih := rest_run kd js jt m hf1 hf2 he1 he2 hj hk hm n
    by_cases h1 : u.k = kd
    · rw [rest_take _ _ _ (by simp only; rw [hf1, if_pos h1])]
      simp only [hf1, if_pos h1]
      rw [ih us _ h (by simp at hn; omega) (by simp at hml; omega) (fun v hv => hw v (by simp [hv]))]
      simp [runN, h1, Nat.add_comm 1, endOf]
    · by_cases h2 : jt u = true
      · obtain ⟨k1, k2, k3⟩ := hk u us hwu h2
        rw [rest_hold _ _ _ (by simp only; rw [hf1, if_neg h1, if_pos h2])]
        simp only [hf1, if_neg h1, if_pos h2]
        rcases us with _ | ⟨w, ws⟩
        · rw [rest_nil, he2]
          have : runN kd js [u] = 0 := by simp [runN, h1, isK]
          rw [this]
          simp only [endOf, List.drop_zero]
          rw [toksR, k2, k3]
          simp [endOf, toksR]
        · by_cases h3 : w.k = kd
          · rw [rest_take _ _ _ (by simp only; rw [hf2, if_pos h3])]
            simp only [hf2, if_pos h3]
            rw [ih ws _ u (by simp at hn; omega) (by simp at hml; omega) (fun v hv => hw v (by simp [hv]))]
            have e : runN kd js (u :: w :: ws) = runN kd js ws + 1 + 1 := by
              rw [runN, if_neg h1, if_pos ⟨by rw [hj u hwu]; exact h2, by simp [isK, h3]⟩, runN, if_pos h3]; omega
            rw [e]; simp [endOf]
          · rw [rest_begin _ _ _ (by simp only; rw [hf2, if_neg h3]), he2, hm _ w ws (by simp at hml ⊢; omega) (fun v hv => hw v (by simp at hv ⊢; exact .inr hv))]
            have e : runN kd js (u :: w :: ws) = 0 := by
              rw [runN, if_neg h1, if_neg (by simp [isK, h3])]
            rw [e]
            simp only [endOf, List.drop_zero]
            rw [toksR.eq_2 u (w :: ws), k2, k3]
            simp [endOf]
      · rw [rest_begin _ _ _ (by simp only; rw [hf1, if_neg h1, if_neg h2]), he1, hm _ u us hml hw]
        have e : runN kd js (u :: us) = 0 := by
          rw [runN, if_neg h1, if_neg (by rw [hj u hwu]; simp [h2])]
        rw [e]; simp [endOf]
theorem rest_same (kd : Int) (st : Int) (m : Nat) (hf : ∀ u, fits st u = if u.k = kd then (st, 1) else (st, 0)) (he : ∀ t h, ended ⟨st, t, h⟩ = [t])
    (hm : ∀ s u us, (u :: us).length ≤ m → (∀ v ∈ u :: us, WF v) → rest (began s u) us = toksR (u :: us)) :
    ∀ (us : List Un) (t : Tk) (h : Un), us.length ≤ m → (∀ v ∈ us, WF v) → rest ⟨st, t, h⟩ us = ⟨t.k, t.f, endOf t.t us (runN kd [] us)⟩ :: toksR (us.drop (runN kd [] us))
  | [], t, h, _, _ => by rw [rest_nil, he]; simp [runN, endOf, toksR]
  | u :: us, t, h, hml, hw => by
    by_cases h1 : u.k = kd
    · rw [rest_take _ _ _ (by simp only; rw [hf, if_pos h1])]
      simp only [hf, if_pos h1]
      rw [rest_same kd st m hf he hm us _ h (by simp at hml; omega) (fun v hv => hw v (by simp [hv]))]
      simp [runN, h1, Nat.add_comm 1, endOf]
    · rw [rest_begin _ _ _ (by simp only; rw [hf, if_neg h1]), he, hm _ u us hml hw, runN_nil kd us u h1]
      simp [endOf]
theorem rest_other (st : Int) (m : Nat) (hf : ∀ u, fits st u = (st, 0)) (he : ∀ t h, ended ⟨st, t, h⟩ = [t])
    (hm : ∀ s u us, (u :: us).length ≤ m → (∀ v ∈ u :: us, WF v) → rest (began s u) us = toksR (u :: us)) (us : List Un) (t : Tk) (h : Un) (hml : us.length ≤ m) (hw : ∀ v ∈ us, WF v) : rest ⟨st, t, h⟩ us = t :: toksR us := by
  cases us with
  | nil => rw [rest_nil, he]; simp [toksR]
  | cons u us => rw [rest_begin _ _ _ (by simp only; rw [hf]), he, hm _ u us hml hw]; rfl
theorem rest_began : ∀ (m : Nat) (s : Sc) (u : Un) (us : List Un), (u :: us).length ≤ m → (∀ v ∈ u :: us, WF v) → rest (began s u) us = toksR (u :: us)
  | 0, s, u, us, h, _ => by simp at h
  | m + 1, s, u, us, hml, hw => by
    have hm := rest_began m
    have hus : us.length ≤ m := by simp at hml; omega
    have hwu := hw u (by simp)
    have hws : ∀ v ∈ us, WF v := fun v hv => hw v (by simp [hv])
    rw [toksR]
    by_cases h1 : u.k = 1
    · have hb : began s u = ⟨1, ⟨1, u.f, u.t⟩, s.h⟩ := by simp [began, begins, h1]
      rw [hb, rest_run 1 JW joint m (fun v => by simp [fits]) (fun v => by simp [fits]) (fun t h => rfl) (fun t h => rfl) (fun v hv => one_joint hv)
        (fun v vs hv hj => by rcases joint_kind hv hj with e | e <;> simp [behind, begins, e]) hm us.length us _ _ (Nat.le_refl _) hus hws]
      simp [behind, begins, h1]
    · by_cases h3 : u.k = 3
      · have hb : began s u = ⟨3, ⟨2, u.f, u.t⟩, s.h⟩ := by simp [began, begins, h3]
        rw [hb, rest_run 3 JD dot m (fun v => by simp [fits]) (fun v => by simp [fits]) (fun t h => rfl) (fun t h => rfl) (fun v hv => one_dot hv)
          (fun v vs hv hj => by have e := dot_kind hv hj; simp [behind, begins, e]) hm us.length us _ _ (Nat.le_refl _) hus hws]
        simp [behind, begins, h3]
      · by_cases h5 : u.k = 5
        · have hb : began s u = ⟨5, ⟨3, u.f, u.t⟩, s.h⟩ := by simp [began, begins, h5]
          rw [hb, rest_same 5 5 m (fun v => by simp [fits]) (fun t h => rfl) hm us _ _ hus hws]
          simp [behind, begins, h5]
        · by_cases h11 : u.k = 11
          · have hb : began s u = ⟨6, ⟨7, u.f, u.t⟩, s.h⟩ := by simp [began, begins, h11]
            rw [hb, rest_same 11 6 m (fun v => by simp [fits]) (fun t h => rfl) hm us _ _ hus hws]
            simp [behind, begins, h11]
          · by_cases h4 : u.k = 4
            · by_cases hr : u.r = 13
              · have hb : began s u = ⟨8, ⟨4, u.f, u.t⟩, s.h⟩ := by simp [began, begins, h4, hr]
                have hbe : (begins u).2 = 4 := by simp [begins, h4]
                rw [hb, hbe]
                cases us with
                | nil => rw [rest_nil]; simp [ended, behind, h4, endOf, toksR]
                | cons v vs =>
                  by_cases hv : v.k = 4 ∧ v.r = 10
                  · rw [rest_take _ _ _ (by simp [fits, hv])]
                    have e : (fits (8 : Int) v).1 = 7 := by simp [fits, hv]
                    simp only [e]
                    rw [rest_other 7 m (fun w => by simp [fits]) (fun t h => rfl) hm vs _ _ (by simp at hus; omega) (fun w hw' => hws w (by simp [hw']))]
                    have e2 : behind u (v :: vs) = 1 := by simp [behind, h4, hr, hv]
                    rw [e2]; simp [endOf]
                  · rw [rest_begin _ _ _ (by simp [fits, hv]), hm _ v vs hus hws]
                    have e2 : behind u (v :: vs) = 0 := by simp only [behind, h4]; simp [hr, hv]
                    rw [e2]; simp [endOf, ended]
              · have hb : began s u = ⟨7, ⟨4, u.f, u.t⟩, s.h⟩ := by simp [began, begins, h4, hr]
                rw [hb, rest_other 7 m (fun w => by simp [fits]) (fun t h => rfl) hm us _ _ hus hws]
                have e2 : behind u us = 0 := by cases us <;> simp [behind, h4, hr]
                rw [e2]; simp [endOf, begins, h4]
            · have hb : began s u = ⟨9, ⟨(begins u).2, u.f, u.t⟩, s.h⟩ := by
                by_cases h6 : u.k = 6 ∨ u.k = 7 ∨ u.k = 8 <;> simp [began, begins, h1, h3, h5, h11, h4, h6]
              rw [hb, rest_other 9 m (fun w => by simp [fits]) (fun t h => rfl) hm us _ _ hus hws]
              have e2 : behind u us = 0 := by simp [behind, h1, h3, h5, h11, h4]
              rw [e2]; simp [endOf]
/-- **The scanner tells the document's tokens.** -/
theorem scan_toksR (us : List Un) (hw : ∀ v ∈ us, WF v) : scan us = toksR us := by
  cases us with
  | nil => simp [scan, mfold, sc0, ended, toksR]
  | cons u us =>
    show rest sc0 (u :: us) = _
    rw [rest_begin _ _ _ (by simp [fits, sc0]), rest_began _ _ _ _ (Nat.le_refl _) hw]
    simp [ended, sc0]
end Go.Proofs.Ytgeefojgkbglnaa
