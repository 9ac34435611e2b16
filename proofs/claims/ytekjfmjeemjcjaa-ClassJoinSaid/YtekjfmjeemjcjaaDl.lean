/-
  A logic of triples over symbolic slots and owned blocks: a region that draws its order: quiet operations first, in whatever order, then the rest as in the text. No program is named here. Nothing is assumed.
-/
import Derived.Test.YtekjfmjeemjcjaaUl
namespace Go.Proofs.Ytekjfmjeemjcjaa
open Go.RowKit Go.Lib
set_option linter.unusedVariables false
set_option linter.unusedSimpArgs false

def nodupN : List Nat → Bool
  | [] => true
  | x :: l => !l.contains x && nodupN l
theorem nodupN_iff : ∀ {l : List Nat}, nodupN l = true → l.Nodup
  | [], _ => List.nodup_nil
  | x :: l, h => by
    simp only [nodupN, Bool.and_eq_true, Bool.not_eq_true'] at h
    exact List.nodup_cons.2 ⟨by have := h.1; simpa using this, nodupN_iff h.2⟩
open Classical in
/-- The slots' values that stand when the operations in D have been carried out. -/
noncomputable def dl (D : Nat → Prop) : List (Nat × Nat × Value) → List (Nat × Value)
  | [] => []
  | (i, t, v) :: r => if D i then (t, v) :: dl D r else dl D r
theorem dl_lookup0 {D : Nat → Prop} {σ : List (Nat × Value)} : ∀ {vals : List (Nat × Nat × Value)} {m i t : Nat} {v : Value}, (vals.map (fun p => p.2.1)).Nodup → vals[m]? = some (i, t, v) → D i → (dl D vals ++ σ).lookup t = some v
  | [], m, i, t, v, _, hm, _ => by simp at hm
  | (i', t', v') :: r, 0, i, t, v, hu, hm, hd => by
    simp at hm
    obtain ⟨rfl, rfl, rfl⟩ := hm
    simp [dl, hd]
  | (i', t', v') :: r, m + 1, i, t, v, hu, hm, hd => by
    simp only [List.map_cons, List.nodup_cons] at hu
    have hm' : r[m]? = some (i, t, v) := by simpa using hm
    have ih := dl_lookup0 (σ := σ) hu.2 hm' hd
    have hne : (t == t') = false := by
      have : t ∈ r.map (fun p => p.2.1) := List.mem_map.2 ⟨_, List.mem_of_getElem? hm', rfl⟩
      simp; rintro rfl; exact hu.1 this
    simp only [dl]
    split
    · simp only [List.cons_append, List.lookup, hne]; exact ih
    · exact ih
theorem dl_lookup {D : Nat → Prop} {σ : List (Nat × Value)} {vals : List (Nat × Nat × Value)} {m i t : Nat} {v : Value} (hu : nodupN (vals.map (fun p => p.2.1)) = true) (hm : vals[m]? = some (i, t, v)) (hd : D i) : (dl D vals ++ σ).lookup t = some v := dl_lookup0 (nodupN_iff hu) hm hd
theorem dl_old {D : Nat → Prop} {σ : List (Nat × Value)} {t : Nat} {v : Value} : ∀ {vals : List (Nat × Nat × Value)}, (vals.map (fun p => p.2.1)).contains t = false → σ.lookup t = some v → (dl D vals ++ σ).lookup t = some v
  | [], _, h => h
  | (i', t', v') :: r, hc, h => by
    simp only [List.map_cons, List.contains_cons, Bool.or_eq_false_iff] at hc
    have ih := dl_old (D := D) hc.2 h
    simp only [dl]
    split
    · simp only [List.cons_append, List.lookup, hc.1]; exact ih
    · exact ih
theorem dl_none {D : Nat → Prop} {σ : List (Nat × Value)} {t : Nat} : ∀ {vals : List (Nat × Nat × Value)}, (vals.map (fun p => p.2.1)).contains t = false → (dl D vals ++ σ).lookup t = σ.lookup t
  | [], _ => rfl
  | (i', t', v') :: r, hc => by
    simp only [List.map_cons, List.contains_cons, Bool.or_eq_false_iff] at hc
    have ih := dl_none (D := D) (σ := σ) hc.2
    simp only [dl]
    split
    · simp only [List.cons_append, List.lookup, hc.1]; exact ih
    · exact ih
/-- A slot of the region's before its operation: it falls to what stood ahead. -/
theorem dl_before {D : Nat → Prop} {σ : List (Nat × Value)} {t : Nat} {v : Value} : ∀ {vals : List (Nat × Nat × Value)}, (∀ p ∈ vals, p.2.1 = t → ¬ D p.1) → σ.lookup t = some v → (dl D vals ++ σ).lookup t = some v
  | [], _, h => h
  | (i', t', v') :: r, hc, h => by
    have ih := dl_before (D := D) (fun p hp => hc p (List.mem_cons_of_mem _ hp)) h
    simp only [dl]
    split
    · rename_i hd
      have hne : (t == t') = false := by simp; rintro rfl; exact hc _ (List.mem_cons_self ..) rfl hd
      simp only [List.cons_append, List.lookup, hne]; exact ih
    · exact ih
theorem Sbs.dl {D : Nat → Prop} {σ : List (Nat × Value)} {vals : List (Nat × Nat × Value)} {m i t : Nat} {v : Value} (hu : (vals.map (fun p => p.2.1)).Nodup) (hi : (vals.map (fun p => p.1)).Nodup) (hm : vals[m]? = some (i, t, v)) :
    Sbs ((t, v) :: (dl D vals ++ σ)) (dl (fun j => D j ∨ j = i) vals ++ σ) := by
  have key : ∀ (l : List (Nat × Nat × Value)) (s : Nat) (u : Value), (∀ p ∈ l, p.1 = i → p.2.1 = t ∧ p.2.2 = v) → (∀ p ∈ l, p.2.1 = t → p.1 = i) → (Go.Proofs.Ytekjfmjeemjcjaa.dl (fun j => D j ∨ j = i) l ++ σ).lookup s = some u → s ≠ t → (Go.Proofs.Ytekjfmjeemjcjaa.dl D l ++ σ).lookup s = some u := by
    intro l
    induction l with
    | nil => intro s u _ _ h _; exact h
    | cons p l ih =>
      obtain ⟨i', t', v'⟩ := p
      intro s u h1 h2 h hne
      have ih := fun h => ih s u (fun p hp => h1 p (List.mem_cons_of_mem _ hp)) (fun p hp => h2 p (List.mem_cons_of_mem _ hp)) h hne
      simp only [Go.Proofs.Ytekjfmjeemjcjaa.dl] at h ⊢
      by_cases hd : D i'
      · rw [if_pos (.inl hd)] at h
        rw [if_pos hd]
        simp only [List.cons_append, List.lookup] at h ⊢
        split at h
        · exact h
        · exact ih h
      · rw [if_neg hd]
        by_cases hi' : i' = i
        · rw [if_pos (.inr hi')] at h
          obtain ⟨h3, _⟩ := h1 _ (List.mem_cons_self ..) hi'
          have h4 : t' = t := h3
          simp only [List.cons_append, List.lookup] at h
          split at h
          · rename_i e
            exact absurd ((by simpa using e : s = t').trans h4) hne
          · exact ih h
        · rw [if_neg (by rintro (h | h); exact hd h; exact hi' h)] at h
          exact ih h
  have h1 : ∀ p ∈ vals, p.1 = i → p.2.1 = t ∧ p.2.2 = v := by
    intro p hp e
    obtain ⟨n, hn⟩ := List.mem_iff_getElem?.1 hp
    have e1 : (vals.map (fun p => p.1))[n]? = some i := by simp [hn, e]
    have e2 : (vals.map (fun p => p.1))[m]? = some i := by simp [hm]
    have hl : n < (vals.map (fun p => p.1)).length := (List.getElem?_eq_some_iff.1 e1).1
    have := (List.getElem?_inj hl hi).1 (e1.trans e2.symm)
    subst this
    rw [hn] at hm; cases hm; exact ⟨rfl, rfl⟩
  have h2 : ∀ p ∈ vals, p.2.1 = t → p.1 = i := by
    intro p hp e
    obtain ⟨n, hn⟩ := List.mem_iff_getElem?.1 hp
    have e1 : (vals.map (fun p => p.2.1))[n]? = some t := by simp [hn, e]
    have e2 : (vals.map (fun p => p.2.1))[m]? = some t := by simp [hm]
    have hl : n < (vals.map (fun p => p.2.1)).length := (List.getElem?_eq_some_iff.1 e1).1
    have := (List.getElem?_inj hl hu).1 (e1.trans e2.symm)
    subst this
    rw [hn] at hm; cases hm; rfl
  intro a N dfs ha
  refine ⟨ha.1, ha.2.1, fun s u hs => ?_⟩
  by_cases hst : s = t
  · subst hst
    have := dl_lookup0 (σ := σ) (D := fun j => D j ∨ j = i) hu hm (.inr rfl)
    rw [this] at hs; cases hs
    exact ha.2.2 _ _ (by simp [List.lookup])
  · refine ha.2.2 s u ?_
    have hne : (s == t) = false := by simpa using hst
    simp only [List.lookup, hne]
    exact key vals s u h1 h2 hs hst
theorem dl_skip {D : Nat → Prop} {i : Nat} : ∀ {vals : List (Nat × Nat × Value)}, (vals.map (fun p => p.1)).contains i = false → dl (fun j => D j ∨ j = i) vals = dl D vals
  | [], _ => rfl
  | (i', t', v') :: r, hc => by
    simp only [List.map_cons, List.contains_cons, Bool.or_eq_false_iff] at hc
    have ih := dl_skip (D := D) hc.2
    have hne : ¬ i' = i := by have := hc.1; simp at this; exact fun h => this h.symm
    simp only [dl, ih]
    by_cases hd : D i'
    · rw [if_pos (.inl hd), if_pos hd]
    · rw [if_neg hd, if_neg (by rintro (h | h); exact hd h; exact hne h)]
theorem dl_all : ∀ {D : Nat → Prop} {vals : List (Nat × Nat × Value)}, (∀ p ∈ vals, D p.1) → dl D vals = vals.map (fun p => p.2)
  | D, [], _ => rfl
  | D, (i', t', v') :: r, h => by
    simp only [dl, List.map_cons]
    rw [if_pos (h _ (List.mem_cons_self ..)), dl_all (fun p hp => h p (List.mem_cons_of_mem _ hp))]
theorem dl_empty : ∀ {vals : List (Nat × Nat × Value)}, dl (fun _ => False) vals = []
  | [] => rfl
  | (i', t', v') :: r => by simp [dl, dl_empty]

/-- All that stands ahead of each operation, through others. -/
def befStep (acc : List (List Nat)) (o : Oper) : List (List Nat) := acc ++ [(depsOf o ++ (depsOf o).flatMap (fun j => acc.getD j [])).eraseDups]
def befs (l : List Oper) : List (List Nat) := l.foldl befStep []
/-- Of the operations from n on, each stands behind all others ahead of it. -/
def tailOk (l : List Oper) (n : Nat) : Bool := ((befs l).zipIdx.drop n).all fun p => (List.range p.2).all fun j => p.1.contains j
def Behind (full : List Oper) (acc : List (List Nat)) : Prop :=
  ∀ i o, i < acc.length → full[i]? = some o → ∀ j ∈ acc.getD i [], ∀ (D : Nat → Prop), (∀ k o', full[k]? = some o' → D k → ∀ j ∈ depsOf o', D j) → (∀ j ∈ depsOf o, D j) → D j
theorem befs_gen : ∀ (l done : List Oper) (acc : List (List Nat)), acc.length = done.length → Behind (done ++ l) acc → (l.foldl befStep acc).length = (done ++ l).length ∧ Behind (done ++ l) (l.foldl befStep acc)
  | [], done, acc, hl, hB => ⟨by simpa using hl, hB⟩
  | o :: l, done, acc, hl, hB => by
    have := befs_gen l (done ++ [o]) (befStep acc o) (by simp [befStep, hl]) (by
      rw [List.append_assoc]
      intro i o' hi ho j hj D hD hd
      unfold befStep at hi hj
      by_cases hlt : i < acc.length
      · rw [List.getD_eq_getElem?_getD, List.getElem?_append_left hlt] at hj
        exact hB i o' hlt ho j (by rw [List.getD_eq_getElem?_getD]; exact hj) D hD hd
      · have hil : i = acc.length := by simp at hi; omega
        subst hil
        have ho' : o = o' := by rw [hl] at ho; simpa using ho
        subst ho'
        rw [List.getD_eq_getElem?_getD] at hj
        simp only [List.getElem?_concat_length, Option.getD_some, List.mem_eraseDups, List.mem_append, List.mem_flatMap] at hj
        rcases hj with hj | ⟨k, hk, hj⟩
        · exact hd j hj
        · have hkD := hd k hk
          by_cases hkl : k < acc.length
          · obtain ⟨ok, hok⟩ : ∃ ok, (done ++ o :: l)[k]? = some ok := ⟨_, List.getElem?_eq_getElem (by simp; omega)⟩
            exact hB k ok hkl hok j hj D hD (hD k ok hok hkD)
          · rw [List.getD_eq_getElem?_getD, List.getElem?_eq_none (by omega)] at hj
            simp at hj)
    rwa [List.append_assoc] at this
theorem befs_len (l : List Oper) : (befs l).length = l.length := (befs_gen l [] [] rfl (fun i o h => by simp at h)).1
theorem befs_ok (l : List Oper) (i : Nat) (o : Oper) (ho : l[i]? = some o) : ∀ j ∈ (befs l).getD i [], ∀ (D : Nat → Prop), (∀ k o', l[k]? = some o' → D k → ∀ j ∈ depsOf o', D j) → (∀ j ∈ depsOf o, D j) → D j :=
  (befs_gen l [] [] rfl (fun i o h => by simp at h)).2 i o (by have := befs_len l; unfold befs at this; rw [this]; exact (List.getElem?_eq_some_iff.1 ho).1) ho

section
variable {F : Fence} {P : Program} {w0 : World} {K : Nat → Prop} {N : Nat} {dfs : List Deferred} {Q : Exit → Act → World → Prop} {σ : List (Nat × Value)} {L : List Asn}
/-- What each of the first operations owes, under D done. -/
def DrawPre (F : Fence) (P : Program) (w0 : World) (K : Nat → Prop) (N : Nat) (dfs : List Deferred) (Q : Exit → Act → World → Prop) (ops : Array Oper) (σ : List (Nat × Value)) (L : List Asn) (vals : List (Nat × Nat × Value)) : List Oper → Nat → Prop
  | [], _ => True
  | o :: rest, i => (∀ D : Nat → Prop, ¬ D i → (∀ j ∈ depsOf o, D j) → Clo ops D → nodupN (vals.map (fun p => p.2.1)) = true → nodupN (vals.map (fun p => p.1)) = true →
      TO F P w0 K N dfs ops (Exit.then (fun a w => At N dfs (dl (fun j => D j ∨ j = i) vals ++ σ) a ∧ Holds w0 K L w) Q) [o] (dl D vals ++ σ) L) ∧ DrawPre F P w0 K N dfs Q ops σ L vals rest (i + 1)
theorem DrawPre.nil {ops : Array Oper} {vals : List (Nat × Nat × Value)} {i : Nat} : DrawPre F P w0 K N dfs Q ops σ L vals [] i := trivial
theorem DrawPre.cons {ops : Array Oper} {vals : List (Nat × Nat × Value)} {o : Oper} {rest : List Oper} {i : Nat} (h : ∀ D : Nat → Prop, ¬ D i → (∀ j ∈ depsOf o, D j) → Clo ops D → nodupN (vals.map (fun p => p.2.1)) = true → nodupN (vals.map (fun p => p.1)) = true →
      TO F P w0 K N dfs ops (Exit.then (fun a w => At N dfs (dl (fun j => D j ∨ j = i) vals ++ σ) a ∧ Holds w0 K L w) Q) [o] (dl D vals ++ σ) L) (hs : DrawPre F P w0 K N dfs Q ops σ L vals rest (i + 1)) :
    DrawPre F P w0 K N dfs Q ops σ L vals (o :: rest) i := ⟨h, hs⟩
theorem DrawPre.get {ops : Array Oper} {vals : List (Nat × Nat × Value)} : ∀ {l : List Oper} {k : Nat}, DrawPre F P w0 K N dfs Q ops σ L vals l k → ∀ i o, l[i]? = some o → ∀ D : Nat → Prop, ¬ D (k + i) → (∀ j ∈ depsOf o, D j) → Clo ops D → nodupN (vals.map (fun p => p.2.1)) = true → nodupN (vals.map (fun p => p.1)) = true →
      TO F P w0 K N dfs ops (Exit.then (fun a w => At N dfs (dl (fun j => D j ∨ j = k + i) vals ++ σ) a ∧ Holds w0 K L w) Q) [o] (dl D vals ++ σ) L
  | [], k, _, i, o, h => by simp at h
  | x :: l, k, h, 0, o, ho => by simp at ho; subst ho; exact h.1
  | x :: l, k, h, i + 1, o, ho => by
    have := DrawPre.get h.2 i o (by simpa using ho)
    rwa [show k + 1 + i = k + (i + 1) by omega] at this
theorem TX.quiet {ops : Array Oper} {vals : List (Nat × Nat × Value)} {D : Nat → Prop} (m : Nat) {i t : Nat} {v : Value} (hu : nodupN (vals.map (fun p => p.2.1)) = true) (hi : nodupN (vals.map (fun p => p.1)) = true) (hm : vals[m]? = some (i, t, v)) :
    TO F P w0 K N dfs ops (Exit.then (fun a w => At N dfs (Go.Proofs.Ytekjfmjeemjcjaa.dl (fun j => D j ∨ j = i) vals ++ σ) a ∧ Holds w0 K L w) Q) [] ((t, v) :: (Go.Proofs.Ytekjfmjeemjcjaa.dl D vals ++ σ)) L := fun a w ha hw => ⟨Sbs.dl (nodupN_iff hu) (nodupN_iff hi) hm _ _ _ ha, hw⟩
theorem TX.quiet0 {ops : Array Oper} {vals : List (Nat × Nat × Value)} {D : Nat → Prop} {i : Nat} (h : (vals.map (fun p => p.1)).contains i = false) :
    TO F P w0 K N dfs ops (Exit.then (fun a w => At N dfs (dl (fun j => D j ∨ j = i) vals ++ σ) a ∧ Holds w0 K L w) Q) [] (dl D vals ++ σ) L := fun a w ha hw => ⟨by rw [dl_skip h]; exact ha, hw⟩
theorem gd_some {ops : Array Oper} {S : List (Nat × Value)} {j t : Nat} {b c : Bool} (hj : (ops[j]?).bind (·.dst) = some t) (h : S.lookup t = some (.bool c)) : gd ops S (some (j, b)) = some (c == b) := by
  simp [gd, hj, h]
theorem gd_T {ops : Array Oper} {S : List (Nat × Value)} {j t : Nat} {b : Bool} (hj : (ops[j]?).bind (·.dst) = some t) (h : S.lookup t = some (.bool b)) : gd ops S (some (j, b)) = some true := by
  simp [gd, hj, h]
theorem gd_F {ops : Array Oper} {S : List (Nat × Value)} {j t : Nat} {b : Bool} (hj : (ops[j]?).bind (·.dst) = some t) (h : S.lookup t = some (.bool (!b))) : gd ops S (some (j, b)) = some false := by
  simp [gd, hj, h]
theorem gd_U {ops : Array Oper} {S : List (Nat × Value)} {j t : Nat} {b : Bool} (hj : (ops[j]?).bind (·.dst) = some t) (h : S.lookup t = some undef) : gd ops S (some (j, b)) = some false := by
  simp [gd, hj, h, undef]
/-- **A region that draws its order.** The first n operations leave the world's own blocks alone and give the values vals; the others come in the text's order. -/
theorem TC.draw {id : Nat} {pre tail : List Oper} (vals : List (Nat × Nat × Value)) (hm : P.follows .mixedOrders = true)
    (hlt : ((pre ++ tail).zipIdx.all fun (o, i) => (depsOf o).all fun j => decide (j < i)) = true) (hT : tailOk (pre ++ tail) pre.length = true)
    (hval : vals.all (fun p => decide (p.1 < pre.length)) = true) (hu : nodupN (vals.map (fun p => p.2.1)) = true) (hi : nodupN (vals.map (fun p => p.1)) = true)
    (hpre : DrawPre F P w0 K N dfs Q (pre ++ tail).toArray σ L vals pre 0)
    (htail : TO F P w0 K N dfs (pre ++ tail).toArray Q tail (vals.map (fun p => p.2) ++ σ) L) : TC F P w0 K N dfs Q (.region id (pre ++ tail).toArray true) σ L := by
  intro a w ha hw
  have hT' : ∀ (D : Nat → Prop), Clo (pre ++ tail).toArray D → ∀ i o, pre.length ≤ i → (pre ++ tail)[i]? = some o → (∀ j ∈ depsOf o, D j) → ∀ j < i, D j := by
    intro D hcl i o hi ho hd j hj
    have hlen := befs_len (pre ++ tail)
    have hil : i < (befs (pre ++ tail)).length := by rw [hlen]; exact (List.getElem?_eq_some_iff.1 ho).1
    have h1 := List.all_eq_true.1 hT ((befs (pre ++ tail))[i], i) (by
      rw [List.mem_iff_getElem?]
      refine ⟨i - pre.length, ?_⟩
      rw [List.getElem?_drop, show pre.length + (i - pre.length) = i by omega, List.getElem?_zipIdx, List.getElem?_eq_getElem hil]; simp)
    have h2 := List.all_eq_true.1 h1 j (by simpa using hj)
    have h3 : j ∈ (befs (pre ++ tail)).getD i [] := by
      rw [List.getD_eq_getElem?_getD, List.getElem?_eq_getElem hil]; simpa using h2
    exact befs_ok _ i o ho j h3 D (fun k o' hk => hcl k o' (by simpa using hk)) hd
  obtain ⟨J, hJ⟩ : ∃ J : (Nat → Prop) → Act → World → Prop, J = (fun D a w => Clo (pre ++ tail).toArray D ∧ ((∃ k, 0 < k ∧ (∀ j, D j ↔ j < pre.length + k) ∧ wpListIn F 0 P (pre ++ tail).toArray Q (tail.drop k) a w) ∨ ((∀ j, D j → j < pre.length) ∧ At N dfs (dl D vals ++ σ) a ∧ Holds w0 K L w))) := ⟨_, rfl⟩
  refine wpIn_region_inv hm (by simpa using hlt) J (by subst hJ; exact
    ⟨fun i o _ h => h.elim, .inr ⟨fun _ h => h.elim, by rw [dl_empty]; exact ha, hw.drew⟩⟩) ?_ ?_
  · have all : ∀ (l : List Oper) (k : Nat), (∀ i o, l[i]? = some o → (pre ++ tail)[k + i]? = some o) → RegSteps F 0 P (pre ++ tail).toArray Q J l k := by
      intro l
      induction l with
      | nil => intro k _; trivial
      | cons o l ih =>
        intro k hl
        refine ⟨?_, ih (k + 1) (fun i o' ho' => by have := hl (i + 1) o' (by simpa using ho'); rwa [show k + 1 + i = k + (i + 1) by omega])⟩
        have ho : (pre ++ tail)[k]? = some o := hl 0 o rfl
        subst hJ
        rintro D a w hn hd ⟨hcl, hI⟩
        have hcl' : Clo (pre ++ tail).toArray (fun j => D j ∨ j = k) := hcl.add (by simpa using ho) hd
        have tl : ∀ (m : Nat), (∀ j, D j ↔ j < pre.length + m) → wpListIn F 0 P (pre ++ tail).toArray Q (tail.drop m) a w → pre.length ≤ k →
            wpListIn F 0 P (pre ++ tail).toArray (Exit.then (fun a w => Clo (pre ++ tail).toArray (fun j => D j ∨ j = k) ∧ ((∃ k', 0 < k' ∧ (∀ j, (D j ∨ j = k) ↔ j < pre.length + k') ∧ wpListIn F 0 P (pre ++ tail).toArray Q (tail.drop k') a w) ∨ ((∀ j, (D j ∨ j = k) → j < pre.length) ∧ At N dfs (dl (fun j => D j ∨ j = k) vals ++ σ) a ∧ Holds w0 K L w))) Q) [o] a w := by
          intro m hD hwp hk
          have hkm : k = pre.length + m := by
            have h1 : ¬ k < pre.length + m := fun h => hn ((hD k).2 h)
            have h2 := hT' D hcl k o hk ho hd
            by_cases h3 : pre.length + m < k
            · have := (hD _).1 (h2 _ h3); omega
            · omega
          have htl : tail.drop m = o :: tail.drop (m + 1) := by
            rw [List.getElem?_append_right hk, show k - pre.length = m by omega] at ho
            obtain ⟨h1, h2⟩ := List.getElem?_eq_some_iff.1 ho
            rw [← h2]; exact List.drop_eq_getElem_cons h1
          rw [htl] at hwp
          have hnext : ∀ a' w', wpListIn F 0 P (pre ++ tail).toArray Q (tail.drop (m + 1)) a' w' → (Clo (pre ++ tail).toArray (fun j => D j ∨ j = k) ∧ ((∃ k', 0 < k' ∧ (∀ j, (D j ∨ j = k) ↔ j < pre.length + k') ∧ wpListIn F 0 P (pre ++ tail).toArray Q (tail.drop k') a' w') ∨ ((∀ j, (D j ∨ j = k) → j < pre.length) ∧ At N dfs (dl (fun j => D j ∨ j = k) vals ++ σ) a' ∧ Holds w0 K L w'))) :=
            fun a' w' h => ⟨hcl', .inl ⟨m + 1, by omega, fun j => by rw [hD]; omega, h⟩⟩
          have hcat : wpListIn F 0 P (pre ++ tail).toArray (Exit.then (wpListIn F 0 P (pre ++ tail).toArray Q (tail.drop (m + 1))) Q) [o] a w := by
            simp only [wpListIn] at hwp ⊢
            split
            · rename_i hw'
              rw [if_pos hw'] at hwp
              unfold Oper.wpIn at hwp ⊢
              refine ⟨hwp.1, ?_⟩
              have hh := hwp.2
              generalize (o.semAt F.round a.eval).run P w = r at *
              cases r with
              | ok x w' =>
                cases x <;> simp only [Oper.uponIn] at hh ⊢ <;>
                  first
                    | exact hh
                    | exact ⟨hh.1, CallsIn.mono hh.2 (fun e w'' he => by cases e <;> exact he)⟩
                    | exact ⟨hh.1, RowsIn.mono hh.2 (fun _ _ he => he)⟩
                    | exact ⟨hh.1, RoundIn.mono hh.2 (fun e w'' he => by cases e <;> exact he)⟩
              | halt x w' => cases x <;> simp only [Oper.uponIn] at hh ⊢ <;> exact hh
            · rename_i hw'
              rw [if_neg hw'] at hwp
              exact hwp
          exact wpListIn_one_mono hnext hcat
        rcases hI with ⟨m, hm0, hD, hwp⟩ | ⟨hD, hat, hho⟩
        · refine tl m hD hwp ?_
          have : ¬ k < pre.length + m := fun h => hn ((hD k).2 h)
          omega
        · by_cases hk : k < pre.length
          · have hop : pre[k]? = some o := by rw [List.getElem?_append_left hk] at ho; exact ho
            have := hpre.get k o hop D (by rwa [Nat.zero_add]) hd hcl hu hi a w hat hho
            rw [Nat.zero_add] at this
            refine wpListIn_one_mono (fun a' w' h => ⟨hcl', .inr ⟨fun j hj => ?_, h.1, h.2⟩⟩) this
            rcases hj with hj | rfl
            · exact hD j hj
            · exact hk
          · have hall := hT' D hcl k o (by omega) ho hd
            have hk' : k = pre.length := by
              by_cases h : pre.length < k
              · have := hD _ (hall _ h); omega
              · omega
            have hDD : ∀ j, D j ↔ j < pre.length + 0 := fun j => ⟨fun h => by have := hD j h; omega, fun h => hall j (by omega)⟩
            refine tl 0 hDD ?_ (by omega)
            rw [List.drop_zero]
            refine htail a w ?_ hho
            rw [dl_all (fun p hp => hall _ (by have := List.all_eq_true.1 hval p hp; simp at this; omega))] at hat
            exact hat
    exact all _ 0 (fun i o ho => by simpa using ho)
  · subst hJ
    rintro D a w hD ⟨hcl, hI⟩
    have hsz : (pre ++ tail).toArray.size = pre.length + tail.length := by simp
    rcases hI with ⟨m, hm0, hDm, hwp⟩ | ⟨hDp, hat, hho⟩
    · have : tail.length ≤ m := by
        by_cases h : m < tail.length
        · have := (hDm (pre.length + m)).1 (hD _ (by rw [hsz]; omega)); omega
        · omega
      rw [List.drop_eq_nil_of_le this] at hwp
      exact hwp
    · have htl : tail = [] := by
        rcases tail with _ | ⟨o, tail⟩
        · rfl
        · have := hDp pre.length (hD _ (by rw [hsz]; simp)); omega
      subst htl
      rw [dl_all (fun p hp => hD _ (by have := List.all_eq_true.1 hval p hp; simp at this; rw [hsz]; omega))] at hat
      exact htail a w hat hho
theorem Sbs.mid {D : Nat → Prop} {t : Nat} {v : Value} : ∀ {vals : List (Nat × Nat × Value)}, (vals.map (fun p => p.2.1)).contains t = false → Sbs ((t, v) :: (Go.Proofs.Ytekjfmjeemjcjaa.dl D vals ++ σ)) (Go.Proofs.Ytekjfmjeemjcjaa.dl D vals ++ ((t, v) :: σ)) := by
  intro vals hc a N dfs ha
  refine ⟨ha.1, ha.2.1, fun s u hs => ha.2.2 s u ?_⟩
  by_cases hst : s = t
  · subst hst
    rw [dl_none hc] at hs
    simpa [List.lookup] using hs
  · have hne : (s == t) = false := by simpa using hst
    have : ∀ (vs : List (Nat × Nat × Value)), (Go.Proofs.Ytekjfmjeemjcjaa.dl D vs ++ ((t, v) :: σ)).lookup s = (Go.Proofs.Ytekjfmjeemjcjaa.dl D vs ++ σ).lookup s := by
      intro vs
      induction vs with
      | nil => simp [Go.Proofs.Ytekjfmjeemjcjaa.dl, List.lookup, hne]
      | cons p vs ih =>
        obtain ⟨i, t', v'⟩ := p
        simp only [Go.Proofs.Ytekjfmjeemjcjaa.dl]
        split
        · simp only [List.cons_append, List.lookup, ih]
        · exact ih
    rw [this] at hs
    simp only [List.lookup, hne]; exact hs
theorem wpList_step {ops : Array Oper} {Q : Exit → Act → World → Prop} {o : Oper} {r : List Oper} {a : Act} {w : World} (hwp : wpListIn F 0 P ops Q (o :: r) a w) : wpListIn F 0 P ops (Exit.then (wpListIn F 0 P ops Q r) Q) [o] a w := by
  simp only [wpListIn] at hwp ⊢
  split
  · rename_i hw'
    rw [if_pos hw'] at hwp
    unfold Oper.wpIn at hwp ⊢
    refine ⟨hwp.1, ?_⟩
    have hh := hwp.2
    generalize (o.semAt F.round a.eval).run P w = r at *
    cases r with
    | ok x w' =>
      cases x <;> simp only [Oper.uponIn] at hh ⊢ <;>
        first
          | exact hh
          | exact ⟨hh.1, CallsIn.mono hh.2 (fun e w'' he => by cases e <;> exact he)⟩
          | exact ⟨hh.1, RowsIn.mono hh.2 (fun _ _ he => he)⟩
          | exact ⟨hh.1, RoundIn.mono hh.2 (fun e w'' he => by cases e <;> exact he)⟩
    | halt x w' => cases x <;> simp only [Oper.uponIn] at hh ⊢ <;> exact hh
  · rename_i hw'
    rw [if_neg hw'] at hwp
    exact hwp
theorem tailOk_all {l : List Oper} {n : Nat} (hT : tailOk l n = true) : ∀ (D : Nat → Prop), Clo l.toArray D → ∀ i o, n ≤ i → l[i]? = some o → (∀ j ∈ depsOf o, D j) → ∀ j < i, D j := by
  intro D hcl i o hi ho hd j hj
  have hlen := befs_len l
  have hil : i < (befs l).length := by rw [hlen]; exact (List.getElem?_eq_some_iff.1 ho).1
  have h1 := List.all_eq_true.1 hT ((befs l)[i], i) (by
    rw [List.mem_iff_getElem?]
    refine ⟨i - n, ?_⟩
    rw [List.getElem?_drop, show n + (i - n) = i by omega, List.getElem?_zipIdx, List.getElem?_eq_getElem hil]; simp)
  have h2 := List.all_eq_true.1 h1 j (by simpa using hj)
  have h3 : j ∈ (befs l).getD i [] := by
    rw [List.getD_eq_getElem?_getD, List.getElem?_eq_getElem hil]; simpa using h2
  exact befs_ok _ i o ho j h3 D (fun k o' hk => hcl k o' (by simpa using hk)) hd
/-- **A region that draws its order, with one operation among the quiet ones that does more**: o, the n-th; what it leaves is L1 b and the slots s1 b, for some b. -/
theorem TC.drawB {id : Nat} {l : List Oper} {β : Type} (n : Nat) (o : Oper) (vals : List (Nat × Nat × Value)) (s1 : β → List (Nat × Value)) (L1 : β → List Asn) (hm : P.follows .mixedOrders = true)
    (hlt : (l.zipIdx.all fun (o, i) => (depsOf o).all fun j => decide (j < i)) = true) (hT : tailOk l (n + 1) = true) (ho : l[n]? = some o)
    (hval : vals.all (fun p => decide (p.1 < n)) = true) (hu : nodupN (vals.map (fun p => p.2.1)) = true) (hi : nodupN (vals.map (fun p => p.1)) = true)
    (hpre : DrawPre F P w0 K N dfs Q l.toArray σ L vals (l.take n) 0) (hpre1 : ∀ b, DrawPre F P w0 K N dfs Q l.toArray (s1 b ++ σ) (L1 b) vals (l.take n) 0)
    (hadd : ∀ D : Nat → Prop, ¬ D n → (∀ j ∈ depsOf o, D j) → Clo l.toArray D → TO F P w0 K N dfs l.toArray (Exit.then (fun a w => ∃ b, At N dfs (dl D vals ++ (s1 b ++ σ)) a ∧ Holds w0 K (L1 b) w) Q) [o] (dl D vals ++ σ) L)
    (htail : ∀ b, TO F P w0 K N dfs l.toArray Q (l.drop (n + 1)) (vals.map (fun p => p.2) ++ (s1 b ++ σ)) (L1 b)) : TC F P w0 K N dfs Q (.region id l.toArray true) σ L := by
  intro a w ha hw
  have hT' := tailOk_all hT
  have hnl : n < l.length := (List.getElem?_eq_some_iff.1 ho).1
  obtain ⟨J, hJ⟩ : ∃ J : (Nat → Prop) → Act → World → Prop, J = (fun D a w => Clo l.toArray D ∧ ((∃ k, n + 1 < k ∧ (∀ j, D j ↔ j < k) ∧ wpListIn F 0 P l.toArray Q (l.drop k) a w) ∨
    ((∀ j, D j → j ≤ n) ∧ ((¬ D n ∧ At N dfs (dl D vals ++ σ) a ∧ Holds w0 K L w) ∨ (D n ∧ ∃ b, At N dfs (dl D vals ++ (s1 b ++ σ)) a ∧ Holds w0 K (L1 b) w))))) := ⟨_, rfl⟩
  have hdl : ∀ (D : Nat → Prop), dl (fun j => D j ∨ j = n) vals = dl D vals := fun D => by
    have : ∀ (vs : List (Nat × Nat × Value)), vs.all (fun p => decide (p.1 < n)) = true → dl (fun j => D j ∨ j = n) vs = dl D vs := by
      intro vs
      induction vs with
      | nil => intro _; rfl
      | cons p vs ih =>
        obtain ⟨i, t, v⟩ := p
        intro h
        simp only [List.all_cons, Bool.and_eq_true, decide_eq_true_eq] at h
        simp only [dl, ih h.2]
        by_cases hd : D i
        · rw [if_pos (.inl hd), if_pos hd]
        · rw [if_neg hd, if_neg (by rintro (h' | h'); exact hd h'; omega)]
    exact this vals hval
  refine wpIn_region_inv hm (by simpa using hlt) J (by subst hJ; exact ⟨fun i o _ h => h.elim, .inr ⟨fun _ h => h.elim, .inl ⟨fun h => h, by rw [dl_empty]; exact ha, hw.drew⟩⟩⟩) ?_ ?_
  · have all : ∀ (m : List Oper) (k : Nat), (∀ i o, m[i]? = some o → l[k + i]? = some o) → RegSteps F 0 P l.toArray Q J m k := by
      intro m
      induction m with
      | nil => intro k _; trivial
      | cons q m ih =>
        intro k hl
        refine ⟨?_, ih (k + 1) (fun i o' ho' => by have := hl (i + 1) o' (by simpa using ho'); rwa [show k + 1 + i = k + (i + 1) by omega])⟩
        have hq : l[k]? = some q := hl 0 q rfl
        subst hJ
        rintro D a w hn hd ⟨hcl, hI⟩
        have hcl' : Clo l.toArray (fun j => D j ∨ j = k) := hcl.add (by simpa using hq) hd
        have hkl : k < l.length := (List.getElem?_eq_some_iff.1 hq).1
        have hdrop : l.drop k = q :: l.drop (k + 1) := by
          obtain ⟨h1, h2⟩ := List.getElem?_eq_some_iff.1 hq
          rw [← h2]; exact List.drop_eq_getElem_cons h1
        rcases hI with ⟨m, hm0, hD, hwp⟩ | ⟨hD, hI⟩
        · have hkm : k = m := by
            have h1 : ¬ k < m := fun h => hn ((hD k).2 h)
            have h2 := hT' D hcl k q (by omega) hq hd
            by_cases h3 : m < k
            · have := (hD _).1 (h2 _ h3); omega
            · omega
          subst hkm
          rw [hdrop] at hwp
          refine wpListIn_one_mono (fun a' w' h => ⟨hcl', .inl ⟨k + 1, by omega, fun j => ?_, h⟩⟩) (wpList_step hwp)
          show D j ∨ j = k ↔ _
          rw [hD]; omega
        · by_cases hk : k < n
          · have hop : (l.take n)[k]? = some q := by rw [List.getElem?_take_of_lt hk]; exact hq
            rcases hI with ⟨hDn, hat, hho⟩ | ⟨hDn, b, hat, hho⟩
            · have := hpre.get k q hop D (by rwa [Nat.zero_add]) hd hcl hu hi a w hat hho
              rw [Nat.zero_add] at this
              refine wpListIn_one_mono (fun a' w' h => ⟨hcl', .inr ⟨fun j hj => ?_, .inl ⟨?_, h.1, h.2⟩⟩⟩) this
              · rcases hj with hj | rfl
                · exact hD j hj
                · omega
              · rintro (h | h)
                · exact hDn h
                · omega
            · have := (hpre1 b).get k q hop D (by rwa [Nat.zero_add]) hd hcl hu hi a w hat hho
              rw [Nat.zero_add] at this
              refine wpListIn_one_mono (fun a' w' h => ⟨hcl', .inr ⟨fun j hj => ?_, .inr ⟨.inl hDn, b, h.1, h.2⟩⟩⟩) this
              rcases hj with hj | rfl
              · exact hD j hj
              · omega
          · by_cases hkn : k = n
            · subst hkn
              have hqo : q = o := by rw [ho] at hq; exact (Option.some.inj hq).symm
              subst hqo
              rcases hI with ⟨hDn, hat, hho⟩ | ⟨hDn, _⟩
              · refine wpListIn_one_mono (fun a' w' h => ⟨hcl', .inr ⟨fun j hj => ?_, .inr ⟨.inr rfl, ?_⟩⟩⟩) (hadd D hDn hd hcl a w hat hho)
                · rcases hj with hj | rfl
                  · exact hD j hj
                  · omega
                · rw [hdl]; exact h
              · exact absurd hDn hn
            · have hall := hT' D hcl k q (by omega) hq hd
              have hk' : k = n + 1 := by
                by_cases h : n + 1 < k
                · have := hD _ (hall _ h); omega
                · omega
              subst hk'
              rcases hI with ⟨hDn, _⟩ | ⟨hDn, b, hat, hho⟩
              · exact absurd (hall n (by omega)) hDn
              · have hwp : wpListIn F 0 P l.toArray Q (l.drop (n + 1)) a w := by
                  refine htail b a w ?_ hho
                  rw [dl_all (fun p hp => hall _ (by have := List.all_eq_true.1 hval p hp; simp at this; omega))] at hat
                  exact hat
                rw [hdrop] at hwp
                refine wpListIn_one_mono (fun a' w' h => ⟨hcl', .inl ⟨n + 1 + 1, by omega, fun j => ?_, h⟩⟩) (wpList_step hwp)
                refine ⟨fun hj => ?_, fun hj => ?_⟩
                · rcases hj with hj | rfl
                  · have := hD j hj; omega
                  · omega
                · by_cases h : j = n + 1
                  · exact .inr h
                  · exact .inl (hall j (by omega))
    exact all _ 0 (fun i o ho => by simpa using ho)
  · subst hJ
    rintro D a w hD ⟨hcl, hI⟩
    have hsz : l.toArray.size = l.length := by simp
    rcases hI with ⟨m, hm0, hDm, hwp⟩ | ⟨hDp, hI⟩
    · have : l.length ≤ m := by
        by_cases h : m < l.length
        · have := (hDm m).1 (hD _ (by rw [hsz]; omega)); omega
        · omega
      rw [List.drop_eq_nil_of_le this] at hwp
      exact hwp
    · have hnn : l.length = n + 1 := by
        by_cases h : n + 1 < l.length
        · have := hDp (n + 1) (hD _ (by rw [hsz]; omega)); omega
        · omega
      rcases hI with ⟨hDn, _⟩ | ⟨hDn, b, hat, hho⟩
      · exact absurd (hD n (by rw [hsz]; omega)) hDn
      · have := htail b a w (by
          rw [dl_all (fun p hp => hD _ (by have := List.all_eq_true.1 hval p hp; simp at this; rw [hsz]; omega))] at hat
          exact hat) hho
        rw [List.drop_eq_nil_of_le (by omega)] at this
        exact this
/-- The same, by the number of quiet operations. -/
theorem TC.drawN {id : Nat} {l : List Oper} (n : Nat) (vals : List (Nat × Nat × Value)) (hm : P.follows .mixedOrders = true)
    (hlt : (l.zipIdx.all fun (o, i) => (depsOf o).all fun j => decide (j < i)) = true) (hT : tailOk l n = true) (hn : n ≤ l.length)
    (hval : vals.all (fun p => decide (p.1 < n)) = true) (hu : nodupN (vals.map (fun p => p.2.1)) = true) (hi : nodupN (vals.map (fun p => p.1)) = true)
    (hpre : DrawPre F P w0 K N dfs Q l.toArray σ L vals (l.take n) 0)
    (htail : TO F P w0 K N dfs l.toArray Q (l.drop n) (vals.map (fun p => p.2) ++ σ) L) : TC F P w0 K N dfs Q (.region id l.toArray true) σ L := by
  have hl : l.take n ++ l.drop n = l := List.take_append_drop n l
  have hn' : (l.take n).length = n := by rw [List.length_take]; omega
  have := TC.draw (id := id) (pre := l.take n) (tail := l.drop n) (F := F) (P := P) (w0 := w0) (K := K) (N := N) (dfs := dfs) (Q := Q) (σ := σ) (L := L) vals hm (by rw [hl]; exact hlt) (by rw [hl, hn']; exact hT) (by rw [hn']; exact hval) hu hi (by rw [hl]; exact hpre) (by rw [hl]; exact htail)
  rwa [hl] at this
theorem evL.nil {σ : List (Nat × Value)} : evL σ [] = some [] := rfl
theorem evL.cons {σ : List (Nat × Value)} {x : Operand} {v : Value} {r : List Operand} {l : List Value} (h1 : ev σ x = some v) (h2 : evL σ r = some l) : evL σ (x :: r) = some (v :: l) := by simp [evL, h1, h2]
theorem evP.nil {σ : List (Nat × Value)} : evP σ [] = some [] := rfl
theorem evP.cons {σ : List (Nat × Value)} {i : Nat} {x : Operand} {v : Value} {r : List (Nat × Operand)} {l : List (Nat × Value)} (h1 : ev σ x = some v) (h2 : evP σ r = some l) : evP σ ((i, x) :: r) = some ((i, v) :: l) := by simp [evP, h1, h2]
theorem evO.none {σ : List (Nat × Value)} : evO σ none = some none := rfl
theorem evO.some {σ : List (Nat × Value)} {x : Operand} {v : Value} (h : ev σ x = some v) : evO σ (some x) = some (some v) := by simp [evO, h]
end
end Go.Proofs.Ytekjfmjeemjcjaa
