/-
  Texts laid together: PlC, PlD, PlE, LfC, PlF. Nothing is assumed.
-/
import Derived.Test.YtgeefojgkbglnaaWb4
namespace Go.Proofs.Ytgeefojgkbglnaa
open Go.RowKit Go.Lib
set_option linter.unusedVariables false
set_option linter.unusedSimpArgs false
/-! ### Loops by number -/
section
variable {R : Type} {x : Option R}
theorem loop_to0 (N : Nat) {bot : Int → Option R} {step : (Int → Option R) → Int → Option R} (hs : ∀ (ag : Int → Option R) (k : Nat), k < N → step ag k = ag ((k + 1 : Nat) : Int)) (he : ∀ ag, step ag (N : Int) = x) {n : Nat} (hn : N < n) : loopG bot step n 0 = x := by
  have key : ∀ n k : Nat, k ≤ N → N - k < n → loopG bot step n (k : Int) = x := by
    intro n
    induction n with
    | zero => intro k _ h; omega
    | succ n ih =>
      intro k hk h
      rw [loopS]
      by_cases h1 : k < N
      · rw [hs _ k h1]; exact ih (k + 1) (by omega) (by omega)
      · have : k = N := by omega
        subst this; exact he _
  exact key n 0 (by omega) (by omega)
theorem loop_to1 {A : Type} (N : Nat) (F : Nat → A) {bot : A → Int → Option R} {step : (A → Int → Option R) → A → Int → Option R} (hs : ∀ (ag : A → Int → Option R) (k : Nat), k < N → step ag (F k) k = ag (F (k + 1)) ((k + 1 : Nat) : Int)) (he : ∀ ag, step ag (F N) (N : Int) = x)
    {a : A} (ha : F 0 = a) {n : Nat} (hn : N < n) : loopG bot step n a 0 = x := by
  subst ha
  have key : ∀ n k : Nat, k ≤ N → N - k < n → loopG bot step n (F k) (k : Int) = x := by
    intro n
    induction n with
    | zero => intro k _ h; omega
    | succ n ih =>
      intro k hk h
      rw [loopS]
      by_cases h1 : k < N
      · rw [hs _ k h1]; exact ih (k + 1) (by omega) (by omega)
      · have : k = N := by omega
        subst this; exact he _
  exact key n 0 (by omega) (by omega)
theorem loop_to2 {A B : Type} (N : Nat) (F : Nat → A) (G : Nat → B) {bot : A → B → Int → Option R} {step : (A → B → Int → Option R) → A → B → Int → Option R} (hs : ∀ (ag : A → B → Int → Option R) (k : Nat), k < N → step ag (F k) (G k) k = ag (F (k + 1)) (G (k + 1)) ((k + 1 : Nat) : Int)) (he : ∀ ag, step ag (F N) (G N) (N : Int) = x)
    {a : A} {b : B} (ha : F 0 = a) (hb : G 0 = b) {n : Nat} (hn : N < n) : loopG bot step n a b 0 = x := by
  subst ha; subst hb
  have key : ∀ n k : Nat, k ≤ N → N - k < n → loopG bot step n (F k) (G k) (k : Int) = x := by
    intro n
    induction n with
    | zero => intro k _ h; omega
    | succ n ih =>
      intro k hk h
      rw [loopS]
      by_cases h1 : k < N
      · rw [hs _ k h1]; exact ih (k + 1) (by omega) (by omega)
      · have : k = N := by omega
        subst this; exact he _
  exact key n 0 (by omega) (by omega)
/-- A search by number. -/
theorem loop_find {α : Type} (xs : List α) (p : α → Bool) (hit : α → Option R) {bot : Int → Option R} {step : (Int → Option R) → Int → Option R} (hs : ∀ (ag : Int → Option R) (k : Nat) q, xs[k]? = some q → step ag k = if p q then hit q else ag ((k + 1 : Nat) : Int)) (he : ∀ ag, step ag (xs.length : Int) = x)
    {n : Nat} (hn : xs.length < n) : loopG bot step n 0 = match xs.find? p with | some q => hit q | none => x := by
  have key : ∀ n k : Nat, k ≤ xs.length → xs.length - k < n → loopG bot step n (k : Int) = match (xs.drop k).find? p with | some q => hit q | none => x := by
    intro n
    induction n with
    | zero => intro k _ h; omega
    | succ n ih =>
      intro k hk h
      rw [loopS]
      by_cases h1 : k < xs.length
      · have hq : xs[k]? = some xs[k] := List.getElem?_eq_getElem h1
        rw [hs _ k _ hq, List.drop_eq_getElem_cons h1, List.find?_cons]
        cases hp : p xs[k] with
        | true => simp
        | false => simp only [Bool.false_eq_true, if_false]; exact ih (k + 1) (by omega) (by omega)
      · have : k = xs.length := by omega
        subst this
        rw [he, List.drop_length]; rfl
  exact key n 0 (by omega) (by omega)
end
theorem getO_map {α β : Type} {f : α → β} {xs : List α} {k : Nat} {q : α} (h : xs[k]? = some q) : getO (xs.map f) (k : Int) = some (f q) := getO_nat (by rw [List.getElem?_map, h]; rfl)
theorem take_snocQ {α : Type} {xs : List α} {k : Nat} {q : α} (h : xs[k]? = some q) : xs.take (k + 1) = xs.take k ++ [q] := by
  rw [List.take_add_one, h]; rfl
/-! ### Units -/
def unG (u : Un) : Gref07_Unit := ⟨u.k, u.f, u.t, u.r, u.al⟩
/-- One more piece, to units. -/
def ustp (l : List Un) (p : Pc) : List Un := match l.getLast? with
  | some n => if pk p = 2 ∧ ubare n.k = false then l.dropLast ++ [⟨n.k, n.r, n.f, n.t + p.w, false⟩] else l ++ [unew p]
  | none => [unew p]
theorem uout_step (S : List Un × Option Un) (p : Pc) (h : S.2 = none → S.1 = []) : uout (ustep S p) = ustp (uout S) p := by
  rcases S with ⟨E, _ | n⟩
  · have h : E = [] := h rfl
    rw [h]; rfl
  · simp only [ustep, ustp, uout]
    rw [List.getLast?_concat]
    by_cases hk : pk p = 2 ∧ ubare n.k = false
    · simp only [if_pos hk, List.dropLast_concat]
    · simp only [if_neg hk]
theorem units_snoc (L : List Pc) (p : Pc) : units (L ++ [p]) = ustp (units L) p := by
  unfold units
  rw [ufold_snoc]
  refine uout_step _ _ fun h => ?_
  have := units_nil L (ufold L).1 (by rw [← h])
  exact this.2
theorem units_wf (s : ByteArray) : ∀ v ∈ units (pcs s.data.toList), WF v := by
  have key : ∀ L : List Pc, (∀ v ∈ units L.reverse, WF v) := by
    intro L
    induction L with
    | nil => intro v hv; simp [units, ufold, uout] at hv
    | cons p L ih =>
      rw [List.reverse_cons, units_snoc]
      intro v hv
      have hn : WF (unew p) := by
        unfold WF unew pk kindOf
        by_cases hb : p.broken = true
        · left; simp only [hb, if_true]
          unfold Pc.broken at hb; simp at hb; exact ⟨trivial, hb.1⟩
        · right; simp [hb]
      unfold ustp at hv
      split at hv
      · rename_i n hlast
        have hmem : n ∈ units L.reverse := List.mem_of_getLast? hlast
        split at hv
        · rcases List.mem_append.1 hv with hv | hv
          · exact ih v (List.dropLast_subset _ hv)
          · simp at hv; subst hv; exact ih n hmem
        · rcases List.mem_append.1 hv with hv | hv
          · exact ih v hv
          · simp at hv; subst hv; exact hn
      · simp at hv; subst hv; exact hn
  have := key (pcs s.data.toList).reverse
  rwa [List.reverse_reverse] at this
theorem pc_end {s : ByteArray} {p : Pc} (h : p ∈ pcs s.data.toList) : p.i + p.w ≤ s.size ∧ p.r ≤ 1114111 ∧ 1 ≤ p.w := by
  obtain ⟨h1, h2, h3⟩ := pcs_pos s.data.toList p h
  have := h3.valid
  have h4 := h3.pos
  have hl : s.data.toList.length = s.size := by simp
  exact ⟨by omega, by omega, h4⟩
theorem units_pre_len (L : List Pc) : (units L).length ≤ L.length := by
  have := ufold_len L ([], none)
  have h5 : (uout (([], none) : List Un × Option Un)).length = 0 := rfl
  unfold units ufold; omega
theorem units_pre_end (s : ByteArray) (k : Nat) (u : Un) (h : (units ((pcs s.data.toList).take k)).getLast? = some u) : u.t ≤ s.size := by
  rcases hf : ufold ((pcs s.data.toList).take k) with ⟨E, _ | n⟩
  · obtain ⟨h1, h2⟩ := units_nil _ _ hf
    rw [h1] at h; simp [units, ufold, uout] at h
  · rw [units_last _ _ _ hf, List.getLast?_concat] at h
    cases h
    have := ufold_end s.data.toList _ _ ((pcs s.data.toList).drop k) (Nat.le_refl _) (List.take_append_drop _ _).symm E u hf
    have hl : s.data.toList.length = s.size := by simp
    omega
theorem rstep_v (l : List Un) (p : Pc) (n : Int) (hl : l.length ≤ 1073741824) (hp : p.i + p.w ≤ 1073741824) (hr : p.r ≤ 1114111) (hlast : ∀ u, l.getLast? = some u → u.t ≤ 1073741824) (ps : List Pc) (k : Nat) (hk : ps[k]? = some p) (hkl : k ≤ 1073741824) (ag : List Gref07_Unit → Int → Option (List Gref07_Unit)) (K : List Gref07_Unit → Option (List Gref07_Unit)) (hlen : k < ps.length) :
    ref07_Units_s1 K (ps.map pcG) ag (l.map unG) (k : Int) = ag ((ustp l p).map unG) ((k + 1 : Nat) : Int) := by
  unfold ref07_Units_s1
  refine condTI (decide_eq_true (by simp; omega)) (joinI (joinI (thenI (getO_map hk) (grdI ⟨by simp only [pcG]; omega, by simp only [pcG]; omega⟩ ?_))))
  have tail : ∀ (l5 : List Gref07_Unit), (grd (I64 ((k : Int) + 1)) <| ag l5 ((k : Int) + 1)) = ag l5 ((k + 1 : Nat) : Int) := fun l5 => grdI ⟨by omega, by omega⟩ rfl
  have new : (grd (I64 ((pcG p).At + (pcG p).Width)) <| grd ((l.map unG).length + 1 ≤ 2147483648) <| grd (I64 ((k : Int) + 1)) <| ag (l.map unG ++ [(⟨pk p, (pcG p).At, (pcG p).At + (pcG p).Width, (pcG p).Rune, true⟩ : Gref07_Unit)]) ((k : Int) + 1)) = ag ((l ++ [unew p]).map unG) ((k + 1 : Nat) : Int) := by
    refine grdI ⟨by simp only [pcG]; omega, by simp only [pcG]; omega⟩ (grdI (by simp; omega) (grdI ⟨by omega, by omega⟩ ?_))
    rw [List.map_append]; rfl
  have hmain : ∀ k1 : Int, k1 = pk p → (bcond (k1 == 2) (bcond (decide ((0 : Int) < ((l.map unG).length : Int))) (grd (I64 (((l.map unG).length : Int) - 1)) <| andThen (getO (l.map unG) (((l.map unG).length : Int) - 1)) fun (q2 : Gref07_Unit) => bcond ((q2.Kind : Int) != 11) (grd (I64 (((l.map unG).length : Int) - 1)) <|
      bcond ((q2.Kind : Int) != 4) (grd (I64 (((l.map unG).length : Int) - 1)) <| bcond ((q2.Kind : Int) != 9) (grd (I64 (((l.map unG).length : Int) - 1)) <| andThen (getO (l.map unG) (((l.map unG).length : Int) - 1)) fun (q3 : Gref07_Unit) => grd (I64 (q3.Span_To + (pcG p).Width)) <| grd (I64 (((l.map unG).length : Int) - 1)) <|
      andThen (getO ((l.map unG).set (((l.map unG).length : Int) - 1 : Int).toNat (⟨q3.Kind, q3.Span_From, q3.Span_To + (pcG p).Width, q3.Rune, q3.Alone⟩ : Gref07_Unit)) (((l.map unG).length : Int) - 1)) fun (q4 : Gref07_Unit) =>
      (grd (I64 ((k : Int) + 1)) <| ag (((l.map unG).set (((l.map unG).length : Int) - 1 : Int).toNat (⟨q3.Kind, q3.Span_From, q3.Span_To + (pcG p).Width, q3.Rune, q3.Alone⟩ : Gref07_Unit)).set (((l.map unG).length : Int) - 1 : Int).toNat (⟨q4.Kind, q4.Span_From, q4.Span_To, q4.Rune, false⟩ : Gref07_Unit)) ((k : Int) + 1)))
      ((grd (I64 ((pcG p).At + (pcG p).Width)) <| grd ((l.map unG).length + 1 ≤ 2147483648) <| grd (I64 ((k : Int) + 1)) <| ag (l.map unG ++ [(⟨k1, (pcG p).At, (pcG p).At + (pcG p).Width, (pcG p).Rune, true⟩ : Gref07_Unit)]) ((k : Int) + 1))))
      ((grd (I64 ((pcG p).At + (pcG p).Width)) <| grd ((l.map unG).length + 1 ≤ 2147483648) <| grd (I64 ((k : Int) + 1)) <| ag (l.map unG ++ [(⟨k1, (pcG p).At, (pcG p).At + (pcG p).Width, (pcG p).Rune, true⟩ : Gref07_Unit)]) ((k : Int) + 1))))
      ((grd (I64 ((pcG p).At + (pcG p).Width)) <| grd ((l.map unG).length + 1 ≤ 2147483648) <| grd (I64 ((k : Int) + 1)) <| ag (l.map unG ++ [(⟨k1, (pcG p).At, (pcG p).At + (pcG p).Width, (pcG p).Rune, true⟩ : Gref07_Unit)]) ((k : Int) + 1))))
      ((grd (I64 ((pcG p).At + (pcG p).Width)) <| grd ((l.map unG).length + 1 ≤ 2147483648) <| grd (I64 ((k : Int) + 1)) <| ag (l.map unG ++ [(⟨k1, (pcG p).At, (pcG p).At + (pcG p).Width, (pcG p).Rune, true⟩ : Gref07_Unit)]) ((k : Int) + 1))))
      ((grd (I64 ((pcG p).At + (pcG p).Width)) <| grd ((l.map unG).length + 1 ≤ 2147483648) <| grd (I64 ((k : Int) + 1)) <| ag (l.map unG ++ [(⟨k1, (pcG p).At, (pcG p).At + (pcG p).Width, (pcG p).Rune, true⟩ : Gref07_Unit)]) ((k : Int) + 1)))) = ag ((ustp l p).map unG) ((k + 1 : Nat) : Int) := by
    intro k1 hk1
    subst hk1
    rw [new]
    by_cases h2 : pk p = 2
    · refine condTI (beq_iff_eq.2 h2) ?_
      rcases List.eq_nil_or_concat l with rfl | ⟨E, u, rfl⟩
      · exact condFI rfl rfl
      · rw [List.concat_eq_append] at *
        have hu := hlast u (by rw [List.getLast?_concat])
        have elen : (((E ++ [u]).map unG).length : Int) - 1 = (E.length : Int) := by simp
        have hget : getO ((E ++ [u]).map unG) (E.length : Int) = some (unG u) := getO_map (by simp)
        rw [elen]
        have hE : E.length < 1073741824 := by simp at hl; omega
        refine condTI (decide_eq_true (by simp)) (grdI ⟨by omega, by omega⟩ (thenI hget ?_))
        have hst : ustp (E ++ [u]) p = if pk p = 2 ∧ ubare u.k = false then E ++ [⟨u.k, u.r, u.f, u.t + p.w, false⟩] else (E ++ [u]) ++ [unew p] := by
          unfold ustp; rw [List.getLast?_concat]; simp only [List.dropLast_concat]
        rw [hst]
        by_cases a1 : u.k = 11
        · refine condFI (by simp [unG, a1]) ?_
          rw [if_neg (by rw [a1]; simp [ubare])]
        · refine condTI (by simp [unG, a1]) (grdI ⟨by omega, by omega⟩ ?_)
          by_cases a2 : u.k = 4
          · refine condFI (by simp [unG, a2]) ?_
            rw [if_neg (by rw [a2]; simp [ubare])]
          · refine condTI (by simp [unG, a2]) (grdI ⟨by omega, by omega⟩ ?_)
            by_cases a3 : u.k = 9
            · refine condFI (by simp [unG, a3]) ?_
              rw [if_neg (by rw [a3]; simp [ubare])]
            · refine condTI (by simp [unG, a3]) (grdI ⟨by omega, by omega⟩ (thenI hget (grdI ⟨by simp only [unG, pcG]; omega, by simp only [unG, pcG]; omega⟩ (grdI ⟨by omega, by omega⟩ ?_))))
              rw [if_pos ⟨h2, by simp [ubare, a1, a2, a3]⟩]
              refine thenI (a := ⟨u.k, u.f, (u.t : Int) + p.w, u.r, u.al⟩) (getO_nat (by simp [unG, pcG])) (grdI ⟨by omega, by omega⟩ ?_)
              simp [unG, pcG]
    · refine condFI (beq_eq_false_iff_ne.2 h2) ?_
      unfold ustp
      split
      · rw [if_neg (fun h => h2 h.1)]
      · rename_i hn
        have : l = [] := by simpa using hn
        subst this; rfl
  by_cases hb : p.broken = true
  · refine condTI hb (joinI ?_)
    exact hmain 11 (by unfold pk kindOf; rw [if_pos hb])
  · refine condFI (by simpa [pcG] using hb) (joinI ?_)
    exact hmain (kind p.r) (by unfold pk kindOf; rw [if_neg hb])
theorem units_v (s : ByteArray) (hs : s.size ≤ 1073741824) : ref07_Units_v s = some ((units (pcs s.data.toList)).map unG) := by
  unfold ref07_Units_v
  refine joinI (thenI (pieces_v s (by omega)) ?_)
  have hpl := pcs_len s
  refine loop_to1 (pcs s.data.toList).length (fun k => (units ((pcs s.data.toList).take k)).map unG) ?_ ?_ rfl (by unfold fuel; omega)
  · intro ag k hk
    have hq : (pcs s.data.toList)[k]? = some (pcs s.data.toList)[k] := List.getElem?_eq_getElem hk
    have h1 := pc_end (s := s) (List.mem_of_getElem? hq)
    have h2 := units_pre_len ((pcs s.data.toList).take k)
    rw [List.length_take] at h2
    rw [take_snocQ hq, units_snoc]
    exact rstep_v _ _ 0 (by omega) (by omega) h1.2.1 (fun u hu => by have := units_pre_end s k u hu; omega) _ k hq (by omega) ag _ hk
  · intro ag
    unfold ref07_Units_s1
    refine condFI (decide_eq_false (by simp)) ?_
    rw [List.take_length]
end Go.Proofs.Ytgeefojgkbglnaa
namespace Go.Proofs.Ytgeefojgkbglnaa
open Go.RowKit Go.Lib
set_option linter.unusedVariables false
set_option linter.unusedSimpArgs false
def uAt (us : List Un) (j : Nat) (kd : Int) : Bool := match us[j]? with | some u => u.k == kd | none => false
def uOne (us : List Un) (j : Nat) (js : List Nat) : Bool := match us[j]? with | some u => u.al && (u.k != 11 && js.contains u.r) | none => false
theorem uAt_T {us : List Un} {j : Nat} {kd : Int} (h : uAt us j kd = true) : ∃ u, us.drop j = u :: us.drop (j + 1) ∧ u.k = kd ∧ j < us.length ∧ us[j]? = some u := by
  unfold uAt at h
  split at h
  · rename_i u hu
    obtain ⟨hj, hp⟩ := List.getElem?_eq_some_iff.1 hu
    have h1 := List.drop_eq_getElem_cons hj
    rw [hp] at h1
    exact ⟨u, h1, by simpa using h, hj, hu⟩
  · cases h
theorem urun_is (us : List Un) (js : List Nat) (j : Nat) (kd : Int) (h : uAt us j kd = true) : runN kd js (us.drop j) = 1 + runN kd js (us.drop (j + 1)) ∧ j < us.length := by
  obtain ⟨u, h1, h2, h3, _⟩ := uAt_T h
  refine ⟨?_, h3⟩
  rw [h1]; simp [runN, h2]
theorem uK_at (us : List Un) (j : Nat) (kd : Int) : isK (us.drop j) kd = uAt us j kd := by
  unfold isK uAt
  rcases h : us[j]? with _ | u
  · rw [List.drop_eq_nil_of_le (List.getElem?_eq_none_iff.1 h)]
  · obtain ⟨hj, hp⟩ := List.getElem?_eq_some_iff.1 h
    rw [List.drop_eq_getElem_cons hj, hp]
theorem urun_one (us : List Un) (js : List Nat) (j : Nat) (kd : Int) (h0 : uAt us j kd = false) (h1 : uOne us j js = true) (h2 : uAt us (j + 1) kd = true) : runN kd js (us.drop j) = 2 + runN kd js (us.drop (j + 2)) ∧ j + 1 < us.length := by
  obtain ⟨u2, g1, g2, g3, _⟩ := uAt_T h2
  have hj : j < us.length := by omega
  have e1 := List.drop_eq_getElem_cons hj
  have hu : us[j]? = some us[j] := List.getElem?_eq_getElem hj
  unfold uAt at h0; unfold uOne at h1; rw [hu] at h0 h1
  simp only at h0 h1
  have h3 : runN kd js (us.drop (j + 1)) = 1 + runN kd js (us.drop (j + 2)) := (urun_is us js (j + 1) kd h2).1
  have h4 : oneOf js us[j] = true := by unfold oneOf; rw [Bool.and_assoc]; exact h1
  refine ⟨?_, g3⟩
  rw [e1]
  have h5 : us[j].k ≠ kd := by simpa using h0
  simp only [runN]
  rw [if_neg h5, if_pos ⟨h4, by rw [uK_at]; exact h2⟩, h3]; omega
theorem urun_end (us : List Un) (js : List Nat) (j : Nat) (kd : Int) (h0 : uAt us j kd = false) (h : uOne us j js = false ∨ uAt us (j + 1) kd = false) : runN kd js (us.drop j) = 0 := by
  by_cases hj : j < us.length
  · have e1 := List.drop_eq_getElem_cons hj
    have hu : us[j]? = some us[j] := List.getElem?_eq_getElem hj
    unfold uAt at h0; rw [hu] at h0
    simp only at h0
    rw [e1]
    have h5 : us[j].k ≠ kd := by simpa using h0
    simp only [runN]
    rw [if_neg h5, if_neg]
    rintro ⟨a, b⟩
    rw [uK_at] at b
    rcases h with h | h
    · unfold uOne at h; rw [hu] at h
      unfold oneOf at a; rw [Bool.and_assoc] at a
      simp only at h
      rw [a] at h; cases h
    · rw [b] at h; cases h
  · rw [List.drop_eq_nil_of_le (by omega)]; rfl
theorem ris_v (us : List Un) (j : Nat) (kd : Int) : ref07_is_v (us.map unG) j kd = some (uAt us j kd) := by
  unfold ref07_is_v
  by_cases h : j < us.length
  · have hq : us[j]? = some us[j] := List.getElem?_eq_getElem h
    refine condTI (decide_eq_true (by simp; omega)) (thenI (getO_map hq) ?_)
    unfold uAt; rw [hq]; rfl
  · refine condFI (decide_eq_false (by simp; omega)) ?_
    unfold uAt; rw [List.getElem?_eq_none (by omega)]
theorem rone_v (us : List Un) (j : Nat) (js : List Nat) (hjs : js.length ≤ 1000) : ref07_one_v (us.map unG) j (js.map (fun x : Nat => (x : Int))) = some (uOne us j js) := by
  unfold ref07_one_v
  refine joinI ?_
  rw [loop_find (js.map (fun x : Nat => (x : Int))) (fun q => match us[j]? with | some u => u.al && (u.k != 11 && ((u.r : Int) == q)) | none => false) (fun _ => some true) (x := some false) ?_ ?_ (by simp [fuel]; omega)]
  · unfold uOne
    have hff : (js.map (fun x : Nat => (x : Int))).find? (fun _ => false) = none := List.find?_eq_none.2 (by simp)
    rcases hu : us[j]? with _ | u
    · simp only [hff]
    · simp only
      by_cases h : u.al = true ∧ u.k ≠ 11
      · have e : ∀ q : Int, (u.al && (u.k != 11 && ((u.r : Int) == q))) = ((u.r : Int) == q) := fun q => by simp [h.1, h.2]
        have e2 : (u.al && (u.k != 11 && js.contains u.r)) = js.contains u.r := by simp [h.1, h.2]
        rw [e2]
        simp only [e]
        by_cases hc : u.r ∈ js
        · rcases hf : (js.map (fun x : Nat => (x : Int))).find? (fun q => (u.r : Int) == q) with _ | q
          · rw [List.find?_eq_none] at hf
            have := hf (u.r : Int) (List.mem_map.2 ⟨_, hc, rfl⟩)
            simp at this
          · simp [hc]
        · rcases hf : (js.map (fun x : Nat => (x : Int))).find? (fun q => (u.r : Int) == q) with _ | q
          · simp [hc]
          · have h1 := List.find?_some hf
            have h2 := List.mem_of_find?_eq_some hf
            obtain ⟨n, hn, rfl⟩ := List.mem_map.1 h2
            have : u.r = n := by simp at h1; omega
            subst this; exact absurd hn hc
      · have e : ∀ b : Bool, (u.al && (u.k != 11 && b)) = false := fun b => by
          cases h1 : u.al with
          | false => rfl
          | true =>
            have : u.k = 11 := Classical.not_not.1 fun h2 => h ⟨h1, h2⟩
            simp [this]
        simp only [e, hff]
  · intro ag k q hq
    have hk := (List.getElem?_eq_some_iff.1 hq).1
    have hk' : k < js.length := by simpa using hk
    unfold ref07_one_s1
    have tail : (grd (I64 ((k : Int) + 1)) <| ag ((k : Int) + 1)) = ag ((k + 1 : Nat) : Int) := grdI ⟨by omega, by omega⟩ rfl
    refine condTI (decide_eq_true (by omega)) (joinI (thenI (getO_nat hq) ?_))
    rw [tail]
    by_cases h : j < us.length
    · have hu : us[j]? = some us[j] := List.getElem?_eq_getElem h
      rw [hu]
      refine condTI (decide_eq_true (by simp; omega)) (thenI (getO_map hu) ?_)
      show bcond us[j].al (bcond (us[j].k != 11) (bcond ((us[j].r : Int) == q) (some true) _) _) _ = if (us[j].al && (us[j].k != 11 && ((us[j].r : Int) == q))) = true then some true else _
      generalize us[j].al = a1
      generalize (us[j].k != 11) = a2
      generalize ((us[j].r : Int) == q) = a3
      cases a1 <;> cases a2 <;> cases a3 <;> rfl
    · rw [List.getElem?_eq_none (by omega : us.length ≤ j)]
      refine condFI (decide_eq_false (by simp; omega)) rfl
  · intro ag
    unfold ref07_one_s1
    exact condFI (decide_eq_false (by omega)) rfl
theorem rrun_v (us : List Un) (kd : Int) (js : List Nat) (hjs : js.length ≤ 1000) (hn : 1 ≤ us.length) (hl : us.length ≤ 1073741824) : ref07_run_v (us.map unG) kd (js.map (fun x : Nat => (x : Int))) = some (((1 + runN kd js (us.drop 1) : Nat)) : Int) := by
  unfold ref07_run_v
  have key : ∀ n j : Nat, j ≤ us.length → us.length - j < n → loopG (fun _ => none) (ref07_run_s1 (us.map unG) kd (js.map (fun x : Nat => (x : Int)))) n (j : Int) = some (((j + runN kd js (us.drop j) : Nat)) : Int) := by
    intro n
    induction n with
    | zero => intro j _ h; omega
    | succ n ih =>
      intro j hj h
      rw [loopS]
      generalize hg : loopG (fun _ => none) (ref07_run_s1 (us.map unG) kd (js.map (fun x : Nat => (x : Int)))) n = ag
      unfold ref07_run_s1
      refine thenI (ris_v us j kd) ?_
      by_cases h1 : uAt us j kd = true
      · obtain ⟨e1, e2⟩ := urun_is us js j kd h1
        refine condTI h1 (grdI ⟨by omega, by omega⟩ ?_)
        have := ih (j + 1) (by omega) (by omega)
        rw [← hg, show (j : Int) + 1 = ((j + 1 : Nat) : Int) by omega, this, e1]
        congr 2; omega
      · have h1' : uAt us j kd = false := by simpa using h1
        refine condFI h1' (thenI (rone_v us j js hjs) ?_)
        by_cases h2 : uOne us j js = true
        · refine condTI h2 (grdI ⟨by omega, by omega⟩ ?_)
          rw [show (j : Int) + 1 = ((j + 1 : Nat) : Int) by omega]
          refine thenI (ris_v us (j + 1) kd) ?_
          by_cases h3 : uAt us (j + 1) kd = true
          · obtain ⟨e1, e2⟩ := urun_one us js j kd h1' h2 h3
            refine condTI h3 (grdI ⟨by omega, by omega⟩ ?_)
            have := ih (j + 2) (by omega) (by omega)
            rw [← hg, show (j : Int) + 2 = ((j + 2 : Nat) : Int) by omega, this, e1]
            congr 2; omega
          · refine condFI (by simpa using h3) ?_
            rw [urun_end us js j kd h1' (.inr (by simpa using h3))]; rfl
        · refine condFI (by simpa using h2) ?_
          rw [urun_end us js j kd h1' (.inl (by simpa using h2))]; rfl
  exact key fuel 1 hn (by unfold fuel; omega)
theorem runN_le (kd : Int) (js : List Nat) : ∀ us : List Un, runN kd js us ≤ us.length
  | [] => by simp [runN]
  | u :: us => by
    have := runN_le kd js us
    simp only [runN, List.length_cons]
    split
    · omega
    · split <;> omega
theorem behind_le (u : Un) (us : List Un) : behind u us ≤ us.length := by
  unfold behind
  repeat' split
  all_goals first | exact runN_le _ _ _ | simp
theorem endOf_get (t : Nat) : ∀ (n : Nat) (us : List Un), n < us.length → ∃ v, us[n]? = some v ∧ endOf t us (n + 1) = v.t
  | 0, [], h => by simp at h
  | 0, v :: vs, h => ⟨v, rfl, rfl⟩
  | n + 1, [], h => by simp at h
  | n + 1, v :: vs, h => by
    obtain ⟨q, h1, h2⟩ := endOf_get v.t n vs (by simpa using h)
    exact ⟨q, by simpa using h1, h2⟩
theorem cutL_map {l : List Un} {n : Nat} (h : n ≤ l.length) : cutL (l.map unG) (n : Int) ((l.map unG).length : Int) = (l.drop n).map unG := by
  unfold cutL
  rw [Int.toNat_natCast, Int.toNat_natCast, List.length_map, ← List.map_drop, List.take_of_length_le (by simp)]
theorem tok_step (u : Un) (us : List Un) (out : List Gapi_Token) (hl : us.length < 1073741824) (ho : out.length ≤ 2147483000) (K : List Gapi_Token → Option (List Gapi_Token)) (ag : List Gapi_Token → List Gref07_Unit → Option (List Gapi_Token)) :
    ref07_Tokens_s1 K ag out ((u :: us).map unG) = ag (out ++ [tkG ⟨(begins u).2, u.f, endOf u.t us (behind u us)⟩]) ((us.drop (behind u us)).map unG) := by
  have hb := behind_le u us
  unfold ref07_Tokens_s1
  refine condTI (decide_eq_true (by simp)) (joinI (thenI (a := unG u) rfl ?_))
  have fin : ∀ (kd n : Int), kd = (begins u).2 → n = ((1 + behind u us : Nat) : Int) → (andThen (getO ((u :: us).map unG) 0) fun (q4 : Gref07_Unit) => grd (I64 (n - 1)) <| andThen (getO ((u :: us).map unG) (n - 1)) fun (q5 : Gref07_Unit) =>
      grd (out.length + 1 ≤ 2147483648) <| grd (0 ≤ n ∧ n ≤ (((u :: us).map unG).length : Int) ∧ (((u :: us).map unG).length : Int) ≤ (((u :: us).map unG).length : Int)) <|
      ag (out ++ [(⟨kd, q4.Span_From, q5.Span_To⟩ : Gapi_Token)]) (cutL ((u :: us).map unG) n (((u :: us).map unG).length : Int))) = ag (out ++ [tkG ⟨(begins u).2, u.f, endOf u.t us (behind u us)⟩]) ((us.drop (behind u us)).map unG) := by
    intro kd n hk hn
    subst hk; subst hn
    refine thenI (a := unG u) rfl (grdI ⟨by omega, by omega⟩ ?_)
    rw [show ((1 + behind u us : Nat) : Int) - 1 = (behind u us : Int) by omega]
    obtain ⟨v, hv, he⟩ : ∃ v, (u :: us)[behind u us]? = some v ∧ endOf u.t us (behind u us) = v.t := by
      rcases hbb : behind u us with _ | m
      · exact ⟨u, rfl, rfl⟩
      · obtain ⟨v, h1, h2⟩ := endOf_get u.t m us (by omega)
        exact ⟨v, by simpa using h1, h2⟩
    refine thenI (getO_map hv) (grdI (by omega) (grdI ⟨by omega, by simp; omega, by omega⟩ ?_))
    rw [cutL_map (by simp; omega), he, show 1 + behind u us = behind u us + 1 by omega, List.drop_succ_cons]
    rfl
  have hrun : ∀ kd js, js.length ≤ 1000 → ref07_run_v ((u :: us).map unG) kd (js.map (fun x : Nat => (x : Int))) = some (((1 + runN kd js us : Nat)) : Int) := fun kd js hj => rrun_v (u :: us) kd js hj (by simp) (by simp; omega)
  show bcond (u.k == 1) _ (bcond (u.k == 3) _ (bcond (u.k == 5) _ (bcond (u.k == 11) _ (bcond (u.k == 4) _ _)))) = _
  by_cases h1 : u.k = 1
  · refine condTI (beq_iff_eq.2 h1) (thenI (hrun 1 JW (by decide)) (fin _ _ ?_ ?_))
    · simp [begins, h1]
    · simp [behind, h1]
  refine condFI (beq_eq_false_iff_ne.2 h1) ?_
  by_cases h3 : u.k = 3
  · refine condTI (beq_iff_eq.2 h3) (thenI (hrun 3 JD (by decide)) (fin _ _ ?_ ?_))
    · simp [begins, h3]
    · simp [behind, h3]
  refine condFI (beq_eq_false_iff_ne.2 h3) ?_
  by_cases h5 : u.k = 5
  · refine condTI (beq_iff_eq.2 h5) (thenI (hrun 5 [] (by decide)) (fin _ _ ?_ ?_))
    · simp [begins, h5]
    · simp [behind, h5]
  refine condFI (beq_eq_false_iff_ne.2 h5) ?_
  by_cases h11 : u.k = 11
  · refine condTI (beq_iff_eq.2 h11) (thenI (hrun 11 [] (by decide)) (fin _ _ ?_ ?_))
    · simp [begins, h11]
    · simp [behind, h11]
  refine condFI (beq_eq_false_iff_ne.2 h11) ?_
  by_cases h4 : u.k = 4
  · refine condTI (beq_iff_eq.2 h4) (thenI (a := unG u) rfl ?_)
    have hk4 : (begins u).2 = 4 := by simp [begins, h4]
    by_cases hr : u.r = 13
    · refine condTI (by simp [unG, hr]) (thenI (ris_v (u :: us) 1 4) ?_)
      rcases us with _ | ⟨v, vs⟩
      · exact condFI rfl (fin _ _ hk4.symm (by simp [behind, h4]))
      · by_cases hv : v.k = 4
        · refine condTI (by simp [uAt, hv]) (thenI (a := unG v) rfl ?_)
          by_cases h10 : v.r = 10
          · exact condTI (by simp [unG, h10]) (fin _ _ hk4.symm (by simp [behind, h4, hr, hv, h10]))
          · exact condFI (by simp [unG]; omega) (fin _ _ hk4.symm (by simp [behind, h4, hr, hv, h10]))
        · exact condFI (by simp [uAt, hv]) (fin _ _ hk4.symm (by simp [behind, h4, hr, hv]))
    · refine condFI (by simp [unG]; omega) (fin _ _ hk4.symm ?_)
      rcases us with _ | ⟨v, vs⟩ <;> simp [behind, h4, hr]
  refine condFI (beq_eq_false_iff_ne.2 h4) (joinI ?_)
  have hb0 : behind u us = 0 := by simp [behind, h1, h3, h5, h11, h4]
  by_cases h6 : u.k = 6
  · refine condTI (by simp [unG, h6]) (condTI (by simp [unG, h6]) (fin _ _ ?_ ?_))
    · simp [begins, h6]
    · rw [hb0]; rfl
  refine condFI (by simp [unG, h6]) ?_
  by_cases h7 : u.k = 7
  · refine condTI (by simp [unG, h7]) (condTI (by simp [unG, h7]) (fin _ _ ?_ ?_))
    · simp [begins, h7]
    · rw [hb0]; rfl
  refine condFI (by simp [unG, h7]) ?_
  by_cases h8 : u.k = 8
  · refine condTI (by simp [unG, h8]) (fin _ _ ?_ ?_)
    · simp [begins, h8]
    · rw [hb0]; rfl
  refine condFI (by simp [unG, h8]) (fin _ _ ?_ ?_)
  · simp [begins, h1, h3, h5, h11, h4, h6, h7, h8]
  · rw [hb0]; rfl
theorem toks_v (s : ByteArray) (hs : s.size ≤ 1000000000) : ref07_Tokens_v s = some ((tksOf s).map tkG) := by
  unfold ref07_Tokens_v
  refine joinI (thenI (units_v s (by omega)) ?_)
  have hlen : (usOf s).length ≤ s.size := units_len s
  have key : ∀ n (us : List Un) (out : List Gapi_Token), us.length < n → us.length ≤ 1000000000 → out.length + us.length ≤ 1000000000 → loopG (fun _ _ => none) (ref07_Tokens_s1 some) n out (us.map unG) = some (out ++ (toksR us).map tkG) := by
    intro n
    induction n with
    | zero => intro us out h; omega
    | succ n ih =>
      intro us out h hl ho
      rw [loopS]
      rcases us with _ | ⟨u, us⟩
      · unfold ref07_Tokens_s1
        refine condFI rfl ?_
        rw [toksR]; simp
      · simp only [List.length_cons] at h hl ho
        rw [tok_step u us out (by omega) (by omega), ih _ _ (by simp; omega) (by simp; omega) (by simp; omega)]
        rw [toksR]; simp
  have := key fuel (usOf s) [] (by unfold fuel; omega) (by omega) (by simp; omega)
  have e : toksR (usOf s) = tksOf s := (scan_toksR _ (units_wf s)).symm
  rw [e, List.nil_append] at this
  exact this
theorem wds_snoc (l : List Tk) (x : Tk) : wds (l ++ [x]) = wds l ++ if x.k = 1 then [(x.f, x.t)] else [] := by
  unfold wds; rw [List.filterMap_append]
  by_cases h : x.k = 1 <;> simp [h]
theorem words_v (s : ByteArray) (hs : s.size ≤ 1000000000) : ref07_Words_v s = some ((wsOf s).map spG) := by
  unfold ref07_Words_v
  refine joinI (thenI (toks_v s hs) ?_)
  have hlen := scan_len s
  have hl : (tksOf s).length ≤ 2000000002 := by show (scan (units (pcs s.data.toList))).length ≤ _; omega
  refine loop_to1 (tksOf s).length (fun k => (wds ((tksOf s).take k)).map spG) ?_ ?_ rfl (by unfold fuel; omega)
  · intro ag k hk
    have hq : (tksOf s)[k]? = some (tksOf s)[k] := List.getElem?_eq_getElem hk
    have hwl : (wds ((tksOf s).take k)).length ≤ ((tksOf s).take k).length := List.length_filterMap_le _ _
    rw [List.length_take] at hwl
    unfold ref07_Words_s1
    have tail : ∀ l5, (grd (I64 ((k : Int) + 1)) <| ag l5 ((k : Int) + 1)) = ag l5 ((k + 1 : Nat) : Int) := fun l5 => grdI ⟨by omega, by omega⟩ rfl
    refine condTI (decide_eq_true (by simp; omega)) (joinI (thenI (getO_map hq) ?_))
    rw [take_snocQ hq]
    by_cases h1 : (tksOf s)[k].k = 1
    · refine condTI (by simp [tkG, h1]) (grdI (by simp; omega) ?_)
      refine (tail _).trans ?_
      rw [wds_snoc, if_pos h1, List.map_append]; rfl
    · refine condFI (by simp [tkG, h1]) ?_
      refine (tail _).trans ?_
      rw [wds_snoc, if_neg h1, List.append_nil]
  · intro ag
    unfold ref07_Words_s1
    refine condFI (decide_eq_false (by simp)) ?_
    rw [List.take_length]; rfl
end Go.Proofs.Ytgeefojgkbglnaa
namespace Go.Proofs.Ytgeefojgkbglnaa
open Go.RowKit Go.Lib
set_option linter.unusedVariables false
set_option linter.unusedSimpArgs false
theorem tks_len (s : ByteArray) : (tksOf s).length ≤ 2 * s.size + 2 := scan_len s
theorem ws_len (s : ByteArray) : (wsOf s).length ≤ 2 * s.size + 2 := Nat.le_trans (List.length_filterMap_le _ _) (tks_len s)
theorem tks_ch (s : ByteArray) : Ch Tk.f Tk.t 0 (tksOf s) s.size := by
  have h := scan_ch s.data.toList
  have h2 : s.data.toList.length = s.size := by simp
  rw [h2] at h; exact h
theorem find_map {α β : Type} (f : α → β) (p : β → Bool) : ∀ l : List α, (l.map f).find? p = (l.find? (fun x => p (f x))).map f
  | [] => rfl
  | x :: l => by
    rw [List.map_cons, List.find?_cons, List.find?_cons, find_map f p l]
    cases p (f x) <;> rfl
theorem rat_v (s : ByteArray) (hs : s.size ≤ 1000000000) (n : Int) : ref07_At_v s n = some (match (tksOf s).find? (fun p => decide (n < (p.t : Int))) with | some p => tkG p | none => ⟨0, 0, 0⟩) := by
  unfold ref07_At_v
  have hl := tks_len s
  refine joinI (thenI (toks_v s hs) ?_)
  rw [loop_find ((tksOf s).map tkG) (fun q => decide (n < q.Span_To)) (fun q => some q) (x := some ⟨0, 0, 0⟩) ?_ ?_ (by simp [fuel]; omega)]
  · rw [find_map]
    have e : (fun x : Tk => decide (n < (tkG x).Span_To)) = fun x => decide (n < (x.t : Int)) := rfl
    rw [e]
    cases (tksOf s).find? (fun x => decide (n < (x.t : Int))) <;> rfl
  · intro ag k q hq
    have hk := (List.getElem?_eq_some_iff.1 hq).1
    have hk2 : k < (tksOf s).length := by simpa using hk
    unfold ref07_At_s1
    refine condTI (decide_eq_true (by omega)) (thenI (getO_nat hq) ?_)
    by_cases h : n < q.Span_To
    · exact condTI (decide_eq_true h) (by simp [h])
    · refine condFI (decide_eq_false h) (grdI ⟨by omega, by omega⟩ ?_)
      simp [h]
  · intro ag
    unfold ref07_At_s1
    exact condFI (decide_eq_false (by omega)) rfl
theorem rnext_v (s : ByteArray) (hs : s.size ≤ 1000000000) (n : Int) : ref07_Next_v s n = some (nxG (nextO s n)) := by
  unfold ref07_Next_v
  have hl := ws_len s
  refine joinI (thenI (words_v s hs) ?_)
  rw [loop_find ((wsOf s).map spG) (fun q => decide (n ≤ q.From)) (fun q => some (q, true)) (x := some (⟨0, 0⟩, false)) ?_ ?_ (by simp [fuel]; omega)]
  · rw [find_map]
    unfold nextO nxG
    have e : (fun x : Nat × Nat => decide (n ≤ (spG x).From)) = fun x => decide (n ≤ (x.1 : Int)) := rfl
    rw [e]
    cases (wsOf s).find? (fun x => decide (n ≤ (x.1 : Int))) <;> rfl
  · intro ag k q hq
    have hk := (List.getElem?_eq_some_iff.1 hq).1
    have hk2 : k < (wsOf s).length := by simpa using hk
    unfold ref07_Next_s1
    refine condTI (decide_eq_true (by omega)) (thenI (getO_nat hq) ?_)
    by_cases h : n ≤ q.From
    · exact condTI (decide_eq_true h) (by simp [h])
    · refine condFI (decide_eq_false h) (grdI ⟨by omega, by omega⟩ ?_)
      simp [h]
  · intro ag
    unfold ref07_Next_s1
    exact condFI (decide_eq_false (by omega)) rfl
theorem redge_v (s : ByteArray) (hs : s.size ≤ 1000000000) (n : Int) : ref07_Edge_v s n = some (edge (tksOf s) n) := by
  unfold ref07_Edge_v
  have hl := tks_len s
  refine joinI (thenI (toks_v s hs) ?_)
  rw [loop_find ((tksOf s).map tkG) (fun q => q.Span_From == n || q.Span_To == n) (fun q => some true) (x := some false) ?_ ?_ (by simp [fuel]; omega)]
  · rw [find_map]
    have e : ∀ x : Tk, ((tkG x).Span_From == n || (tkG x).Span_To == n) = decide ((x.f : Int) = n ∨ (x.t : Int) = n) := fun x => by
      rw [Bool.eq_iff_iff]; simp [tkG]
    simp only [e]
    unfold edge
    rcases hf : (tksOf s).find? (fun x => decide ((x.f : Int) = n ∨ (x.t : Int) = n)) with _ | q
    · have := List.find?_eq_none.1 hf
      rw [show (tksOf s).any _ = false from List.any_eq_false.2 this, hf]; rfl
    · have h1 := List.find?_some hf
      have h2 := List.mem_of_find?_eq_some hf
      rw [show (tksOf s).any _ = true from List.any_eq_true.2 ⟨q, h2, h1⟩, hf]; rfl
  · intro ag k q hq
    have hk := (List.getElem?_eq_some_iff.1 hq).1
    have hk2 : k < (tksOf s).length := by simpa using hk
    unfold ref07_Edge_s1
    refine condTI (decide_eq_true (by omega)) (thenI (getO_nat hq) ?_)
    by_cases h : q.Span_From = n
    · exact condTI (beq_iff_eq.2 h) (by simp [h])
    · refine condFI (beq_eq_false_iff_ne.2 h) ?_
      by_cases h2 : q.Span_To = n
      · exact condTI (beq_iff_eq.2 h2) (by simp [h2])
      · refine condFI (beq_eq_false_iff_ne.2 h2) (grdI ⟨by omega, by omega⟩ ?_)
        simp [h, h2]
  · intro ag
    unfold ref07_Edge_s1
    exact condFI (decide_eq_false (by omega)) rfl
/-- A text of one token is a word: so is its first token, up to the end. -/
theorem isWord_iff (s : ByteArray) : isWord (tksOf s) s.size = true ↔ ∃ x, tksOf s = [x] ∧ x.k = 1 := by
  have hch := tks_ch s
  unfold isWord isTk
  rcases h : tksOf s with _ | ⟨x, l⟩
  · simp
  · rw [h] at hch
    simp only [List.head?_cons, Bool.and_eq_true, beq_iff_eq]
    constructor
    · rintro ⟨h1, h2⟩
      have h3 := hch.2.2
      have h4 : x.t = s.size := by omega
      rcases l with _ | ⟨y, l⟩
      · exact ⟨x, rfl, h1⟩
      · have h5 := h3.1; have h6 := h3.2.1; have h7 := h3.2.2.le; omega
    · rintro ⟨y, h1, h2⟩
      have h3 : x = y ∧ l = [] := by simpa using h1
      obtain ⟨rfl, rfl⟩ := h3
      have h4 : x.t = s.size := hch.2.2
      exact ⟨h2, by omega⟩
theorem risw_v (s : ByteArray) (hs : s.size ≤ 1000000000) : ref07_Is_v s = some (isWord (tksOf s) s.size) := by
  unfold ref07_Is_v
  refine thenI (toks_v s hs) ?_
  have hi := isWord_iff s
  rcases h : tksOf s with _ | ⟨x, _ | ⟨y, l⟩⟩
  · refine condFI rfl ?_
    rw [h] at hi
    cases hb : isWord [] s.size with
    | false => rfl
    | true => exact absurd (hi.1 hb) (by simp)
  · refine condTI rfl (thenI (a := tkG x) rfl ?_)
    rw [h] at hi
    congr 1
    rw [Bool.eq_iff_iff, hi]
    simp [tkG]
  · refine condFI (by simp; omega) ?_
    rw [h] at hi
    cases hb : isWord (x :: y :: l) s.size with
    | false => rfl
    | true => exact absurd (hi.1 hb) (by simp)
/-! ### The last word -/
/-- Words stand in order. -/
def Inc : Nat → List (Nat × Nat) → Prop
  | _, [] => True
  | a, x :: l => a ≤ x.1 ∧ x.1 < x.2 ∧ Inc x.2 l
theorem Inc.weak : ∀ {l : List (Nat × Nat)} {a b : Nat}, Inc b l → a ≤ b → Inc a l
  | [], _, _, _, _ => trivial
  | x :: l, a, b, h, hab => ⟨Nat.le_trans hab h.1, h.2.1, h.2.2⟩
theorem wds_inc : ∀ {l : List Tk} {a b : Nat}, Ch Tk.f Tk.t a l b → Inc a (wds l)
  | [], a, b, _ => trivial
  | x :: l, a, b, h => by
    have ih := wds_inc h.2.2
    have h1 := h.1; have h2 := h.2.1
    by_cases hk : x.k = 1
    · have : wds (x :: l) = (x.f, x.t) :: wds l := by simp [wds, hk]
      rw [this]; exact ⟨by show a ≤ x.f; omega, h2, ih⟩
    · have : wds (x :: l) = wds l := by simp [wds, hk]
      rw [this]; exact ih.weak (by omega)
theorem ws_inc (s : ByteArray) : Inc 0 (wsOf s) := wds_inc (tks_ch s)
theorem Inc.lt : ∀ {l : List (Nat × Nat)} {a : Nat}, Inc a l → ∀ x ∈ l, a < x.2
  | [], _, _, x, hx => by cases hx
  | y :: l, a, h, x, hx => by
    have h1 := h.1; have h2 := h.2.1
    rcases List.mem_cons.1 hx with rfl | hx
    · omega
    · have := Inc.lt h.2.2 x hx; omega
theorem Inc.tw (n : Int) : ∀ {l : List (Nat × Nat)} {a : Nat}, Inc a l → ∀ (k : Nat) (x : Nat × Nat), l[k]? = some x → (x.2 : Int) ≤ n → (∀ (j : Nat) (y : Nat × Nat), k < j → l[j]? = some y → n < (y.2 : Int)) → (l.takeWhile (fun p => decide ((p.2 : Int) ≤ n))).getLast? = some x
  | [], _, _, k, x, hk, _, _ => by simp at hk
  | z :: l, a, h, 0, x, hk, hx, hno => by
    simp at hk; subst hk
    rw [List.takeWhile_cons, if_pos (by simpa using hx)]
    rcases l with _ | ⟨y, l⟩
    · rfl
    · have := hno 1 y (by omega) rfl
      rw [List.takeWhile_cons, if_neg (by simp; omega)]; rfl
  | z :: l, a, h, k + 1, x, hk, hx, hno => by
    have hk' : l[k]? = some x := by simpa using hk
    have hz : (z.2 : Int) ≤ n := by
      have := Inc.lt h.2.2 x (List.mem_of_getElem? hk'); omega
    have ih := Inc.tw n h.2.2 k x hk' hx (fun j y hj hy => hno (j + 1) y (by omega) (by simpa using hy))
    rw [List.takeWhile_cons, if_pos (by simpa using hz), List.getLast?_cons, ih]; rfl
theorem tw_none (n : Int) {l : List (Nat × Nat)} (h : ∀ (j : Nat) (y : Nat × Nat), l[j]? = some y → n < (y.2 : Int)) : l.takeWhile (fun p => decide ((p.2 : Int) ≤ n)) = [] := by
  rcases l with _ | ⟨y, l⟩
  · rfl
  · have := h 0 y rfl
    rw [List.takeWhile_cons, if_neg (by simp; omega)]
theorem rlast_v (s : ByteArray) (hs : s.size ≤ 1000000000) (n : Int) : ref07_Last_v s n = some (spG (lastOf s n), decide ((0 : Int) < ((lastOf s n).2 : Int))) := by
  unfold ref07_Last_v
  have hl := ws_len s
  have hinc := ws_inc s
  refine joinI (thenI (words_v s hs) (grdI ⟨by simp; omega, by simp; omega⟩ ?_))
  have key : ∀ m k : Nat, k ≤ (wsOf s).length → k < m → (∀ (j : Nat) (y : Nat × Nat), k ≤ j → (wsOf s)[j]? = some y → n < (y.2 : Int)) →
      loopG (fun _ => none) (ref07_Last_s1 n (some (⟨0, 0⟩, false)) ((wsOf s).map spG)) m ((k : Int) - 1) = some (spG (lastOf s n), decide ((0 : Int) < ((lastOf s n).2 : Int))) := by
    intro m
    induction m with
    | zero => intro k _ h; omega
    | succ m ih =>
      intro k hk hm hno
      rw [loopS]
      generalize hg : loopG (fun _ => none) (ref07_Last_s1 n (some (⟨0, 0⟩, false)) ((wsOf s).map spG)) m = ag
      unfold ref07_Last_s1
      rcases k with _ | k
      · refine condFI rfl ?_
        have : lastOf s n = (0, 0) := by
          unfold lastOf lastP
          rw [tw_none n (fun j y hy => hno j y (by omega) hy)]; rfl
        rw [this]; rfl
      · have hq : (wsOf s)[k]? = some (wsOf s)[k] := List.getElem?_eq_getElem (by omega)
        rw [show ((k + 1 : Nat) : Int) - 1 = (k : Int) by omega]
        refine condTI (decide_eq_true (by omega)) (thenI (getO_map hq) ?_)
        by_cases h : (((wsOf s)[k]).2 : Int) ≤ n
        · refine condTI (decide_eq_true h) (thenI (getO_map hq) ?_)
          have e : lastOf s n = (wsOf s)[k] := by
            unfold lastOf lastP
            rw [Inc.tw n hinc k _ hq h (fun j y hj hy => hno j y (by omega) hy)]; rfl
          have hp := Inc.lt hinc _ (List.mem_of_getElem? hq)
          rw [e, decide_eq_true (by omega)]
        · refine condFI (decide_eq_false h) (grdI ⟨by omega, by omega⟩ ?_)
          rw [← hg]
          exact ih k (by omega) (by omega) (fun j y hj hy => by
            by_cases hjk : j = k
            · subst hjk; rw [hq] at hy; cases hy; omega
            · exact hno j y (by omega) hy)
  have := key fuel (wsOf s).length (Nat.le_refl _) (by unfold fuel; omega) (fun j y hj hy => by rw [List.getElem?_eq_none hj] at hy; cases hy)
  simpa using this
/-! ### Trim, Plain -/
theorem trim_from : ∀ (l : List Tk) (a b : Nat), Ch Tk.f Tk.t a l b → ∀ S : Bool × Nat × Nat, (S.1 = false → S.2.1 = 0 ∧ S.2.2 = 0) → ((l.foldl tstep S).1 = false → (l.foldl tstep S).2.1 = 0 ∧ (l.foldl tstep S).2.2 = 0)
  | [], a, b, _, S, h => h
  | x :: l, a, b, hc, S, h => trim_from l _ _ hc.2.2 _ (by unfold tstep; split <;> simp_all)
def trFr (S : Bool × Nat × Nat) : Int := if S.1 then (S.2.1 : Int) else -1
def trTo (S : Bool × Nat × Nat) : Int := if S.1 then (S.2.2 : Int) else -1
theorem rtrim_v (s : ByteArray) (hs : s.size ≤ 1000000000) : ref07_Trim_v s = some (trimS s) := by
  unfold ref07_Trim_v
  have hl := tks_len s
  refine joinI (thenI (toks_v s hs) ?_)
  refine loop_to2 (tksOf s).length (fun k => trFr (trimF ((tksOf s).take k))) (fun k => trTo (trimF ((tksOf s).take k))) ?_ ?_ rfl rfl (by unfold fuel; omega)
  · intro ag k hk
    have hq : (tksOf s)[k]? = some (tksOf s)[k] := List.getElem?_eq_getElem hk
    unfold ref07_Trim_s1
    have tail : ∀ x y, (grd (I64 ((k : Int) + 1)) <| ag x y ((k : Int) + 1)) = ag x y ((k + 1 : Nat) : Int) := fun x y => grdI ⟨by omega, by omega⟩ rfl
    refine condTI (decide_eq_true (by simp; omega)) (joinI (thenI (getO_map hq) ?_))
    rw [take_snocQ hq, trimF_snoc]
    generalize trimF ((tksOf s).take k) = S
    generalize (tksOf s)[k] = x
    by_cases h3 : x.k = 3
    · refine condFI (by simp [tkG, h3]) ((tail _ _).trans ?_)
      rw [show tstep S x = S by simp [tstep, h3]]
    · refine condTI (by simp [tkG, h3]) ?_
      by_cases h4 : x.k = 4
      · refine condFI (by simp [tkG, h4]) ((tail _ _).trans ?_)
        rw [show tstep S x = S by simp [tstep, h4]]
      · refine condTI (by simp [tkG, h4]) (joinI ?_)
        rw [show tstep S x = (true, if S.1 = true then S.2.1 else x.f, x.t) by simp [tstep, h3, h4]]
        cases hS : S.1 with
        | true =>
          refine condFI (decide_eq_false (by simp [trFr, hS])) ((tail _ _).trans ?_)
          simp [trFr, trTo, hS, tkG]
        | false =>
          refine condTI (decide_eq_true (by simp [trFr, hS])) ((tail _ _).trans ?_)
          simp [trFr, trTo, tkG]
  · intro ag
    unfold ref07_Trim_s1
    refine condFI (decide_eq_false (by simp)) ?_
    rw [List.take_length]
    have hb := trim_bound s
    have h0 := trim_from _ _ _ (tks_ch s) (false, 0, 0) (fun _ => ⟨rfl, rfl⟩)
    show bcond (decide (trFr (trimF (tksOf s)) < 0)) _ _ = some (s.extract (trimF (tksOf s)).2.1 (trimF (tksOf s)).2.2)
    change (trimF (tksOf s)).1 = false → (trimF (tksOf s)).2.1 = 0 ∧ (trimF (tksOf s)).2.2 = 0 at h0
    change (trimF (tksOf s)).2.1 ≤ (trimF (tksOf s)).2.2 ∧ (trimF (tksOf s)).2.2 ≤ s.size at hb
    cases hS : (trimF (tksOf s)).1 with
    | false =>
      obtain ⟨e1, e2⟩ := h0 hS
      refine condTI (decide_eq_true (by simp [trFr, hS])) ?_
      rw [e1, e2]
      congr 1
      apply ByteArray.ext
      simp
    | true =>
      have e1 : trFr (trimF (tksOf s)) = ((trimF (tksOf s)).2.1 : Int) := by simp [trFr, hS]
      have e2 : trTo (trimF (tksOf s)) = ((trimF (tksOf s)).2.2 : Int) := by simp [trTo, hS]
      rw [e1, e2]
      refine condFI (decide_eq_false (by omega)) (grdI ⟨by omega, by omega, by omega⟩ ?_)
      simp [cutB]
theorem pstep_pos (s : ByteArray) (o : ByteArray) (w : Nat × Nat) (h : w.1 < w.2 ∧ w.2 ≤ s.size) : 0 < (pstep s o w).size := by
  unfold pstep
  rw [ByteArray.size_append, ByteArray.size_extract]; omega
theorem rplain_v (s : ByteArray) (hs : s.size ≤ 1000000000) : ref07_Plain_v s = some (plF s (wsOf s)) := by
  unfold ref07_Plain_v
  have hl := ws_len s
  refine joinI (thenI (words_v s hs) ?_)
  refine loop_to1 (wsOf s).length (fun k => plF s ((wsOf s).take k)) ?_ ?_ rfl (by unfold fuel; omega)
  · intro ag k hk
    have hq : (wsOf s)[k]? = some (wsOf s)[k] := List.getElem?_eq_getElem hk
    have hw := wds_bound s _ (List.mem_of_getElem? hq)
    have hsz : (plF s ((wsOf s).take k)).size ≤ 4000000000 := by
      have h1 := plF_len s ((wsOf s).take k)
      have h2 : sumW ((wsOf s).take k) ≤ s.size := by
        have h3 := sum_le s
        have h4 : sumW (wsOf s) = sumW ((wsOf s).take k) + sumW ((wsOf s).drop k) := by rw [← sumW_app, List.take_append_drop]
        change sumW (wsOf s) ≤ s.size at h3
        omega
      have h3 : ((wsOf s).take k).length ≤ (wsOf s).length := by simp; omega
      omega
    unfold ref07_Plain_s1
    refine condTI (decide_eq_true (by simp; omega)) (joinI (thenI (getO_map hq) ?_))
    rw [take_snocQ hq, plF_snoc]
    have fin : ∀ o5 : ByteArray, o5.size ≤ 4000000001 → (grd (0 ≤ (((wsOf s)[k]).1 : Int) ∧ (((wsOf s)[k]).1 : Int) ≤ (((wsOf s)[k]).2 : Int) ∧ (((wsOf s)[k]).2 : Int) ≤ (s.size : Int)) <| grd (o5.size + (cutB s (((wsOf s)[k]).1 : Int) (((wsOf s)[k]).2 : Int)).size ≤ 9223372036854775807) <| grd (I64 ((k : Int) + 1)) <|
        ag (o5 ++ (cutB s (((wsOf s)[k]).1 : Int) (((wsOf s)[k]).2 : Int))) ((k : Int) + 1)) = ag (o5 ++ s.extract ((wsOf s)[k]).1 ((wsOf s)[k]).2) ((k + 1 : Nat) : Int) := fun o5 h5 => by
      have e : cutB s (((wsOf s)[k]).1 : Int) (((wsOf s)[k]).2 : Int) = s.extract ((wsOf s)[k]).1 ((wsOf s)[k]).2 := rfl
      rw [e]
      refine grdI ⟨by omega, by omega, by omega⟩ (grdI ?_ (grdI ⟨by omega, by omega⟩ rfl))
      rw [ByteArray.size_extract]; omega
    rcases k with _ | k
    · refine condFI rfl ((fin _ (by omega)).trans ?_)
      rfl
    · have hpos : 0 < (plF s ((wsOf s).take (k + 1))).size := by
        have hq' : (wsOf s)[k]? = some (wsOf s)[k] := List.getElem?_eq_getElem (by omega)
        rw [take_snocQ hq', plF_snoc]
        exact pstep_pos s _ _ (wds_bound s _ (List.mem_of_getElem? hq'))
      have h1 : (⟨#[32]⟩ : ByteArray).size = 1 := rfl
      refine condTI (decide_eq_true (by omega)) (grdI (by omega) ((fin _ ?_).trans ?_))
      · rw [ByteArray.size_append]; omega
      · unfold pstep; rw [if_pos hpos]
  · intro ag
    unfold ref07_Plain_s1
    refine condFI (decide_eq_false (by simp)) ?_
    rw [List.take_length]
end Go.Proofs.Ytgeefojgkbglnaa
namespace Go.Proofs.Ytgeefojgkbglnaa
open Go.RowKit Go.Lib
set_option linter.unusedVariables false
set_option linter.unusedSimpArgs false
def law07_wakes_v  : Option Bool := grd ((⟨#[68, 111, 110, 39, 116, 32, 103, 111]⟩ : ByteArray).size ≤ 140737488351232) <| bcond ((((tksOf (⟨#[68, 111, 110, 39, 116, 32, 103, 111]⟩ : ByteArray)).length : Int) : Int) == 3) ( bcond ((((wsOf (⟨#[68, 111, 110, 39, 116, 32, 103, 111]⟩ : ByteArray)).length : Int) : Int) == 2) ( grd ((⟨#[68, 111, 110, 39, 116]⟩ : ByteArray).size ≤ 140737488351232) <| bcond (isWord (tksOf (⟨#[68, 111, 110, 39, 116]⟩ : ByteArray)) (⟨#[68, 111, 110, 39, 116]⟩ : ByteArray).size) ( grd ((⟨#[103, 111, 33]⟩ : ByteArray).size ≤ 140737488351232) <| some (!(isWord (tksOf (⟨#[103, 111, 33]⟩ : ByteArray)) (⟨#[103, 111, 33]⟩ : ByteArray).size))
) ( some false
)
) ( some false
)
) ( some false
)
set_option maxRecDepth 100000 in
set_option maxHeartbeats 4000000 in
theorem law07_wakes_fn  {r : Bool} (h : law07_wakes_v = some r) : FnP Try.prog 12 [] (.bool r) := by
 unfold law07_wakes_v at h
 refine FnP.intro Try.func12 rfl Try.ntmps12 (by simp) ?_
 intro w0 K
 refine TC.seq (TC.region (TO.assign rfl (by decide) rfl (TO.nil (TX.next (TC.seq (TC.region ?_))))))
 obtain ⟨hg1, h⟩ := grdE h
 refine TO.callP (v := .tuple #[.int .i64 ((tksOf (⟨#[68, 111, 110, 39, 116, 32, 103, 111]⟩ : ByteArray)).length : Int), .int .i64 ((wsOf (⟨#[68, 111, 110, 39, 116, 32, 103, 111]⟩ : ByteArray)).length : Int)]) (vs := [.string (⟨#[68, 111, 110, 39, 116, 32, 103, 111]⟩ : ByteArray)]) rfl (by decide) rfl rfl rfl en_17 (wcount_c (⟨#[68, 111, 110, 39, 116, 32, 103, 111]⟩ : ByteArray) hg1) (TO.move rfl (by decide) rfl (TO.extract rfl (by decide) rfl rfl (TO.extract rfl (by decide) rfl rfl (TO.assign rfl (by decide) rfl (TO.assign rfl (by decide) rfl (TO.nil (TX.next (TC.seq (TC.region (TO.move rfl (by decide) rfl (TO.bin rfl (by decide) rfl rfl bin_eql (TO.move rfl (by decide) rfl ?_))))))))))))
 refine TO.split (s := 9) rfl (fun hb1 => ?_) (fun hb1 => ?_)
 ·
  have h := condT hb1 h
  refine TO.move rfl (by decide) rfl (TO.bin rfl (by decide) rfl rfl bin_eql (TO.pick (b := true) rfl (by decide) rfl rfl (TO.move rfl (by decide) rfl ?_)))
  refine TO.split (s := 13) rfl (fun hb2 => ?_) (fun hb2 => ?_)
  ·
   have h := condT hb2 h
   obtain ⟨hg2, h⟩ := grdE h
   refine TO.callP (v := .bool (isWord (tksOf (⟨#[68, 111, 110, 39, 116]⟩ : ByteArray)) (⟨#[68, 111, 110, 39, 116]⟩ : ByteArray).size)) (vs := [.string (⟨#[68, 111, 110, 39, 116]⟩ : ByteArray)]) rfl (by decide) rfl rfl rfl en_19 (wis_c (⟨#[68, 111, 110, 39, 116]⟩ : ByteArray) hg2) (TO.pick (b := true) rfl (by decide) rfl rfl (TO.move rfl (by decide) rfl ?_))
   refine TO.split (s := 16) rfl (fun hb3 => ?_) (fun hb3 => ?_)
   ·
    have h := condT hb3 h
    obtain ⟨hg3, h⟩ := grdE h
    refine TO.callP (v := .bool (isWord (tksOf (⟨#[103, 111, 33]⟩ : ByteArray)) (⟨#[103, 111, 33]⟩ : ByteArray).size)) (vs := [.string (⟨#[103, 111, 33]⟩ : ByteArray)]) rfl (by decide) rfl rfl rfl en_19 (wis_c (⟨#[103, 111, 33]⟩ : ByteArray) hg3) (TO.un rfl (by decide) rfl un_not (TO.pick (b := true) rfl (by decide) rfl rfl (TO.assign rfl (by decide) rfl (TO.nil (TX.next (TC.ret ?_))))))
    cases h
    exact TX.fin (rs := [.tmp 0]) () (.inl rfl) Try.results12 (.cons (.tmp rfl) .nil) rfl Splits.nil
   ·
    have h := condF hb3 h
    refine TO.skip rfl (by decide) (TO.skip rfl (by decide) (TO.pick (b := false) rfl (by decide) rfl rfl (TO.assign rfl (by decide) rfl (TO.nil (TX.next (TC.ret ?_))))))
    cases h
    exact TX.fin (rs := [.tmp 0]) () (.inl rfl) Try.results12 (.cons (.tmp rfl) .nil) rfl Splits.nil
  ·
   have h := condF hb2 h
   refine TO.skip rfl (by decide) (TO.pick (b := false) rfl (by decide) rfl rfl (TO.move rfl (by decide) rfl (TO.skip rfl (by decide) (TO.skip rfl (by decide) (TO.pick (b := false) rfl (by decide) rfl rfl (TO.assign rfl (by decide) rfl (TO.nil (TX.next (TC.ret ?_)))))))))
   cases h
   exact TX.fin (rs := [.tmp 0]) () (.inl rfl) Try.results12 (.cons (.tmp rfl) .nil) rfl Splits.nil
 ·
  have h := condF hb1 h
  refine TO.skip rfl (by decide) (TO.skip rfl (by decide) (TO.pick (b := false) rfl (by decide) rfl rfl (TO.move rfl (by decide) rfl (TO.skip rfl (by decide) (TO.pick (b := false) rfl (by decide) rfl rfl (TO.move rfl (by decide) rfl (TO.skip rfl (by decide) (TO.skip rfl (by decide) (TO.pick (b := false) rfl (by decide) rfl rfl (TO.assign rfl (by decide) rfl (TO.nil (TX.next (TC.ret ?_)))))))))))))
  cases h
  exact TX.fin (rs := [.tmp 0]) () (.inl rfl) Try.results12 (.cons (.tmp rfl) .nil) rfl Splits.nil
def law07_short_v (s1 : ByteArray) : Option ByteArray := bcond (decide ((16384 : Int) < (s1.size : Int))) ( grd (0 ≤ (0 : Int) ∧ (0 : Int) ≤ 16384 ∧ (16384 : Int) ≤ (s1.size : Int)) <| some (cutB s1 0 16384)
) ( some s1
)
set_option maxRecDepth 100000 in
set_option maxHeartbeats 4000000 in
theorem law07_short_fn {s1 : ByteArray} {r : ByteArray} (h : law07_short_v s1 = some r) : FnP Try.prog 18 [.string s1] (.string r) := by
 unfold law07_short_v at h
 refine FnP.intro Try.func18 rfl Try.ntmps18 (by simp) ?_
 intro w0 K
 refine TC.seq (TC.region (TO.assign rfl (by decide) rfl (TO.nil (TX.next (TC.seq (TC.seq (TC.region (TO.move rfl (by decide) rfl (TO.lenStr rfl (by decide) rfl Try.underlying9 (TO.bin rfl (by decide) rfl rfl bin_gtr (TO.nil (TX.next ?_))))))))))))
 refine TC.condB rfl (fun hb1 => ?_) (fun hb1 => ?_)
 ·
  have h := condT hb1 h
  refine TC.seq (TC.region (TO.move rfl (by decide) rfl ?_))
  obtain ⟨hg1, h⟩ := grdE h
  refine TO.slice rfl (by decide) rfl rfl rfl (slice_stringI (i := 0) (j := 16384) Try.underlying9 (.inl ⟨rfl, rfl⟩) (.inr rfl) hg1) (TO.assign rfl (by decide) rfl (TO.nil (TX.next (TC.ret (TX.thenRet ?_)))))
  cases h
  exact TX.fin (rs := [.tmp 2]) () (.inl rfl) Try.results18 (.cons (.tmp rfl) .nil) rfl Splits.nil
 ·
  have h := condF hb1 h
  refine TC.skip (TX.next (TC.seq (TC.region (TO.move rfl (by decide) rfl (TO.assign rfl (by decide) rfl (TO.nil (TX.next (TC.ret ?_))))))))
  cases h
  exact TX.fin (rs := [.tmp 2]) () (.inl rfl) Try.results18 (.cons (.tmp rfl) .nil) rfl Splits.nil
end Go.Proofs.Ytgeefojgkbglnaa
namespace Go.Proofs.Ytgeefojgkbglnaa
open Go.RowKit Go.Lib
set_option linter.unusedVariables false
set_option linter.unusedSimpArgs false
theorem wakes_v : law07_wakes_v = some true := by decide +kernel
theorem wakesK : (andThen (law07_wakes_v) fun (r5 : Bool) => some r5) = some true := thenI wakes_v rfl
theorem short_v (s : ByteArray) : ∃ t, law07_short_v s = some t ∧ t.size ≤ 16384 := by
  unfold law07_short_v
  by_cases h : s.size ≤ 16384
  · exact ⟨s, condFI (decide_eq_false (by omega)) rfl, h⟩
  · refine ⟨_, condTI (decide_eq_true (by omega)) (grdI ⟨by omega, by omega, by omega⟩ rfl), ?_⟩
    unfold cutB; rw [ByteArray.size_extract]; simp; omega
theorem eqr_tok (a : Gapi_Token) : (!(eq_Gapi_Token a a)) = false := by rw [(eq_Gapi_Token_iff a a).2 rfl]; rfl
theorem eqr_span (a : Gapi_Span) : (!(eq_Gapi_Span a a)) = false := by rw [(eq_Gapi_Span_iff a a).2 rfl]; rfl
theorem bne_self (a : Bool) : (a != a) = false := by cases a <;> rfl
theorem get3 {a b c : Int} {k : Nat} (hk : k < 3) : ∃ q, getO [a, b, c] (k : Int) = some q ∧ (k = 0 → q = a) ∧ (k = 1 → q = b) ∧ (k = 2 → q = c) := by
  obtain rfl | rfl | rfl : k = 0 ∨ k = 1 ∨ k = 2 := by omega
  · exact ⟨a, rfl, fun _ => rfl, by omega, by omega⟩
  · exact ⟨b, rfl, by omega, fun _ => rfl, by omega⟩
  · exact ⟨c, rfl, by omega, by omega, fun _ => rfl⟩
theorem u64w (x : Int) (h : 0 ≤ x ∧ x ≤ 18446744073709551615) : IntKind.u64.wrap x = x := IntWalk.u64_in x h
theorem bne_same {a b : Int} (h : a = b) : (a != b) = false := by simp [h]
end Go.Proofs.Ytgeefojgkbglnaa
