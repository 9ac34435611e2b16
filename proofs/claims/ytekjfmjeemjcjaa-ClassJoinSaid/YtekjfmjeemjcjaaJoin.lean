/-
  Plain lemmas: a text that falls into two between pieces; small letters of two texts, one behind the other. Nothing is assumed.
-/
import Derived.Test.YtekjfmjeemjcjaaTexts
namespace Go.Proofs.Ytekjfmjeemjcjaa
open Go.RowKit Go.Lib
set_option linter.unusedVariables false

/-- What begins a text and stands for itself is its first piece, whatever follows. -/
theorem dec_app (l x : List UInt8) (hl : l ≠ []) (hv : ((⟨(decodeL l).1, l.take (decodeL l).2⟩ : Tok)).valid) : decodeL (l ++ x) = decodeL l := by
  have hle := dec_le l hl
  have hb : l.take (decodeL l).2 = encodeRune (decodeL l).1 := hv.2
  have h1 : l = encodeRune (decodeL l).1 ++ l.drop (decodeL l).2 := by rw [← hb, List.take_append_drop]
  have h2 : (encodeRune (decodeL l).1).length = (decodeL l).2 := by rw [← hb, List.length_take]; omega
  have h3 := dec_enc (decodeL l).1 hv.1 (l.drop (decodeL l).2 ++ x)
  rw [← List.append_assoc, ← h1, h2] at h3
  rw [h3]
theorem good_pre : ∀ (A B : List Tok), Good (A ++ B) → Good A
  | [], B, _ => toks_nil
  | t :: A, B, h => by
    have hg : Good A := good_pre A B (good_tail h)
    have hok := good_ok h t (by simp)
    unfold Good at h hg ⊢
    rw [List.cons_append, flat_cons] at h
    have hne : t.bs ≠ [] := bs_ne hok
    rw [flat_cons]
    rcases hok with hv | hb
    · rw [toks_valid hv, hg]
    · have hne1 : t.bs ++ flat A ≠ [] := by simp [hne]
      have hne2 : t.bs ++ flat (A ++ B) ≠ [] := by simp [hne]
      rw [toks_cons _ hne2] at h
      have ht : (⟨(decodeL (t.bs ++ flat (A ++ B))).1, (t.bs ++ flat (A ++ B)).take (decodeL (t.bs ++ flat (A ++ B))).2⟩ : Tok) = t := (List.cons.inj h).1
      have h1 : t.bs.length = 1 := by unfold Tok.broken at hb; simp at hb; exact hb.2
      have hr : t.r = 65533 := by unfold Tok.broken at hb; simp at hb; exact hb.1
      rcases tok_ok (t.bs ++ flat A) hne1 with hv | hb'
      · have h2 := dec_app (t.bs ++ flat A) (flat B) hne1 hv
        rw [List.append_assoc, ← flat_append] at h2
        rw [h2] at ht
        have hle := dec_le _ hne1
        have e : (t.bs ++ flat (A ++ B)).take (decodeL (t.bs ++ flat A)).2 = (t.bs ++ flat A).take (decodeL (t.bs ++ flat A)).2 := by
          rw [flat_append, ← List.append_assoc, List.take_append_of_le_length (by omega)]
        rw [e] at ht
        rw [ht] at hv
        exact absurd (valid_not_broken hv) (by rw [hb]; simp)
      · rw [toks_cons _ hne1]
        have h3 : (decodeL (t.bs ++ flat A)).1 = 65533 := by unfold Tok.broken at hb'; simp at hb'; exact hb'.1
        have hle := dec_le _ hne1
        have h4 : (decodeL (t.bs ++ flat A)).2 = 1 := by
          unfold Tok.broken at hb'
          have := (Bool.and_eq_true _ _).mp hb'
          have h5 := this.2
          simp only [List.length_take, beq_iff_eq] at h5
          omega
        have h6 : (t.bs ++ flat A).take 1 = t.bs := by rw [← h1, List.take_left']; rfl
        have h7 : (t.bs ++ flat A).drop 1 = flat A := by rw [← h1, List.drop_left']; rfl
        rw [h4, h6, h7, hg, h3, ← hr]
theorem place_cut : ∀ (ts : List Tok) (i n : Nat), i ≤ n → n ≤ i + (flat ts).length → (∀ p ∈ place i ts, ¬ (p.i < n ∧ n < p.i + p.w)) → ∃ A B, ts = A ++ B ∧ i + (flat A).length = n
  | [], i, n, h1, h2, _ => ⟨[], [], rfl, by simp [flat] at h2 ⊢; omega⟩
  | t :: ts, i, n, h1, h2, h3 => by
    by_cases he : i = n
    · exact ⟨[], t :: ts, rfl, by simp [flat]; exact he⟩
    · have h4 := h3 ⟨i, t.bs.length, t.r⟩ (by simp [place])
      simp only at h4
      rw [flat_cons, List.length_append] at h2
      obtain ⟨A, B, h5, h6⟩ := place_cut ts (i + t.bs.length) n (by omega) (by omega) (fun p hp => h3 p (by simp [place, hp]))
      exact ⟨t :: A, B, by rw [h5]; rfl, by rw [flat_cons, List.length_append]; omega⟩
/-- Where no piece lies on the seam, the pieces are those of the two. -/
theorem toks_seam (a b : List UInt8) (h : ∀ p ∈ pcs (a ++ b), ¬ (p.i < a.length ∧ a.length < p.i + p.w)) : toks (a ++ b) = toks a ++ toks b := by
  have hp : pcs (a ++ b) = place 0 (toks (a ++ b)) := pcs_place _ 0
  rw [hp] at h
  obtain ⟨A, B, h1, h2⟩ := place_cut (toks (a ++ b)) 0 a.length (by omega) (by rw [flat_toks, List.length_append]; omega) h
  have hg := good_toks (a ++ b)
  rw [h1] at hg
  have hf : flat A ++ flat B = a ++ b := by rw [← flat_append, ← h1, flat_toks]
  obtain ⟨e1, e2⟩ := List.append_inj hf (by omega)
  have hA : toks (flat A) = A := good_pre A B hg
  have hB : toks (flat B) = B := good_drop hg
  rw [h1, ← e1, ← e2, hA, hB]

/-- The state of 'a letter leads' behind some pieces. -/
def ledT (led : Bool) (ts : List Tok) : Bool := ts.foldl nxt led
theorem turnT_append (f : Tok → Bool → List Tok → List Tok) : ∀ (A B : List Tok) (led : Bool),
    (∀ A1 t A2, A = A1 ++ t :: A2 → tk t = 1 → f t (ledT led A1) (A2 ++ B) = f t (ledT led A1) A2) → turnT f led (A ++ B) = turnT f led A ++ turnT f (ledT led A) B
  | [], B, led, _ => rfl
  | t :: A, B, led, h => by
    have ih := turnT_append f A B (nxt led t) (fun A1 u A2 e hu => by
      have := h (t :: A1) u A2 (by rw [e]; rfl) hu
      simpa [ledT] using this)
    simp only [List.cons_append, turnT, ih, List.append_assoc, ledT, List.foldl_cons]
    by_cases ht : tk t = 1
    · have := h [] t A rfl ht
      simp only [ledT, List.foldl_nil] at this
      rw [if_pos ht, if_pos ht, this]
    · rw [if_neg ht, if_neg ht]
theorem turnT_led (f : Tok → Bool → List Tok → List Tok) (t : Tok) (ts : List Tok) (h1 : tk t ≠ 1) (h2 : tk t ≠ 2) (l1 l2 : Bool) : turnT f l1 (t :: ts) = turnT f l2 (t :: ts) := by
  simp [turnT, nxt, h1, h2]
theorem aftT_append : ∀ (A B : List Tok), aftT (A ++ B) = if A.all (fun t => tk t == 2) then aftT B else aftT A
  | [], B => by simp
  | t :: A, B => by
    simp only [List.cons_append, aftT, List.all_cons, aftT_append A B]
    by_cases h : tk t = 2
    · simp [h]
    · simp [h]
theorem ledT_last (led : Bool) (A : List Tok) (t : Tok) (h : tk t ≠ 2) : ledT led (A ++ [t]) = (tk t == 1) := by
  simp [ledT, List.foldl_append, nxt, h]
/-- The small letters of two lists of pieces. -/
theorem low_join (A B : List Tok) (h : A = [] ∨ B = [] ∨ (∃ A' t, A = A' ++ [t] ∧ tk t ≠ 1 ∧ tk t ≠ 2) ∨ (∃ t B', B = t :: B' ∧ tk t ≠ 1 ∧ tk t ≠ 2)) :
    turnT lowF false (A ++ B) = turnT lowF false A ++ turnT lowF false B := by
  rcases h with rfl | rfl | ⟨A', t, rfl, h1, h2⟩ | ⟨t, B', rfl, h1, h2⟩
  · rfl
  · simp [turnT]
  · rw [turnT_append lowF _ _ _ (fun A1 u A2 e hu => ?_), ledT_last _ _ _ h2]
    · have : (tk t == 1) = false := by simpa using h1
      rw [this]
    · unfold lowF
      have hne : A2 ≠ [] := by
        rintro rfl
        have := List.append_inj_right' e rfl
        simp only [List.cons.injEq, and_true] at this
        exact h1 (this ▸ hu)
      obtain ⟨A3, v, rfl⟩ := List.eq_nil_or_concat A2 |>.resolve_left hne
      rw [List.concat_eq_append] at e ⊢
      have hv : t = v := by
        have : A' ++ [t] = (A1 ++ u :: A3) ++ [v] := by rw [e]; simp
        have := List.append_inj_right' this rfl
        simpa using this
      subst hv
      rw [aftT_append (A3 ++ [t]) B]
      have : (A3 ++ [t]).all (fun t => tk t == 2) = false := by simp [h2]
      rw [this]; rfl
  · rw [turnT_append lowF _ _ _ (fun A1 u A2 e hu => ?_), turnT_led lowF t B' h1 h2 (ledT false A) false]
    unfold lowF
    rw [aftT_append]
    split
    · rename_i ha
      have h3 : aftT (t :: B') = false := by simp [aftT, h1, h2]
      have h4 : aftT A2 = false := by
        clear e
        induction A2 with
        | nil => rfl
        | cons v A2 ih =>
          simp only [List.all_cons, Bool.and_eq_true, beq_iff_eq] at ha
          simp only [aftT, ha.1, if_true]
          exact ih ha.2
      rw [h3, h4]
    · rfl
theorem low_append (a b : ByteArray) (hs : ∀ p ∈ pcs (a ++ b).data.toList, ¬ (p.i < a.size ∧ a.size < p.i + p.w))
    (h : pcs a.data.toList = [] ∨ pcs b.data.toList = [] ∨ (∃ p, (pcs a.data.toList).getLast? = some p ∧ pk p ≠ 1 ∧ pk p ≠ 2) ∨ (∃ p, (pcs b.data.toList)[0]? = some p ∧ pk p ≠ 1 ∧ pk p ≠ 2)) : lowText (a ++ b) = lowText a ++ lowText b := by
  apply ba_ext
  have hd : (a ++ b).data.toList = a.data.toList ++ b.data.toList := by simp
  have hd2 : (lowText a ++ lowText b).data.toList = (lowText a).data.toList ++ (lowText b).data.toList := by simp
  have hl : a.data.toList.length = a.size := by rw [Array.length_toList]; rfl
  rw [hd] at hs
  rw [low_list, hd, toks_seam _ _ (by rw [hl]; exact hs), hd2, low_list, low_list, ← flat_append, low_join]
  have pa : pcs a.data.toList = place 0 (toks a.data.toList) := pcs_place _ 0
  have pb : pcs b.data.toList = place 0 (toks b.data.toList) := pcs_place _ 0
  have nil : ∀ (ts : List Tok), place 0 ts = [] → ts = [] := by
    intro ts h; cases ts with
    | nil => rfl
    | cons t ts => simp [place] at h
  rcases h with h | h | ⟨p, h, h1, h2⟩ | ⟨p, h, h1, h2⟩
  · exact .inl (nil _ (pa ▸ h))
  · exact .inr (.inl (nil _ (pb ▸ h)))
  · refine .inr (.inr (.inl ?_))
    rcases List.eq_nil_or_concat (toks a.data.toList) with e | ⟨A', t, e⟩
    · rw [pa, e] at h; simp [place] at h
    · rw [List.concat_eq_append] at e
      rw [pa, e, place_append] at h
      simp only [place, List.getLast?_append, List.getLast?_singleton, Option.some_or, Option.some.injEq] at h
      subst h
      exact ⟨A', t, e, h1, h2⟩
  · refine .inr (.inr (.inr ?_))
    cases e : toks b.data.toList with
    | nil => rw [pb, e] at h; simp [place] at h
    | cons t B' =>
      rw [pb, e] at h
      simp only [place, List.getElem?_cons_zero, Option.some.injEq] at h
      subst h
      exact ⟨t, B', rfl, h1, h2⟩
end Go.Proofs.Ytekjfmjeemjcjaa
