/-
  Texts laid together: Pe, LpF, LpG, LpH, Pf, Pg, Ph, Pi. Nothing is assumed.
-/
import Derived.Test.YtnhdnpdbmgeheaaPageCosts3
import Derived.Test.YtnhdnpdbmgeheaaPageCosts2
namespace Go.Proofs.Ytnhdnpdbmgeheaa
open Go.RowKit Go.Lib
set_option linter.unusedVariables false
set_option linter.unusedSimpArgs false
def catL : List ByteArray → ByteArray
  | [] => ⟨#[]⟩
  | x :: xs => x ++ catL xs
def sizL : List ByteArray → Nat
  | [] => 0
  | x :: xs => x.size + sizL xs
theorem catL_size : ∀ L : List ByteArray, (catL L).size = sizL L
  | [] => rfl
  | x :: L => by show (x ++ catL L).size = x.size + sizL L; rw [ByteArray.size_append, catL_size L]
theorem empty_app (x : ByteArray) : (⟨#[]⟩ : ByteArray) ++ x = x := ByteArray.empty_append ..
theorem app_empty (x : ByteArray) : x ++ (⟨#[]⟩ : ByteArray) = x := ByteArray.append_empty ..
/-! ### strings.Join -/
theorem join_len (L : List ByteArray) (hl : L.length ≤ 1000000) (hz : sizL L ≤ 100000000) (j : Int → Option ByteArray) : ∀ (ts pre : List ByteArray) (m : Nat), L = pre ++ ts → ts.length < m → loopG (fun _ _ => none) (strings_Join_s1 L j) m (sizL pre : Int) (pre.length : Int) = j (sizL L : Int)
  | [], pre, m, h, hm => by
    obtain ⟨m, rfl⟩ : ∃ q, m = q + 1 := ⟨m - 1, by simp at hm; omega⟩
    rw [List.append_nil] at h; subst h
    rw [loopI]
    generalize loopG (fun _ _ => none) (strings_Join_s1 L j) m = ag
    unfold strings_Join_s1
    exact condFI lp_ge rfl
  | t :: ts, pre, m, h, hm => by
    obtain ⟨m, rfl⟩ : ∃ q, m = q + 1 := ⟨m - 1, by simp at hm; omega⟩
    have hsz : ∀ A B : List ByteArray, sizL (A ++ B) = sizL A + sizL B := by
      intro A B
      induction A with
      | nil => show sizL B = 0 + sizL B; omega
      | cons x A ih => show x.size + sizL (A ++ B) = x.size + sizL A + sizL B; rw [ih]; omega
    have h1 : sizL (pre ++ [t]) = sizL pre + t.size := by rw [hsz]; show sizL pre + (t.size + 0) = _; omega
    have h2 : sizL L = sizL pre + (t.size + sizL ts) := by rw [h, hsz]; rfl
    have ih := join_len L hl hz j ts (pre ++ [t]) m (by rw [h]; simp) (by simp at hm; omega)
    rw [loopI]
    generalize loopG (fun _ _ => none) (strings_Join_s1 L j) m = ag at ih ⊢
    have hg : L[pre.length]? = some t := by rw [h]; simp
    have hpl := lp_lt' hg
    rw [h1, show (((pre ++ [t]).length : Nat) : Int) = (pre.length : Int) + 1 by simp] at ih
    unfold strings_Join_s1
    refine condTI (lp_lt hg) (thenI (lp_get hg) (grdI ⟨by omega, by omega⟩ (condFI (decide_eq_false (by omega)) (grdI ⟨by omega, by omega⟩ (grdI ⟨by omega, by omega⟩ ?_)))))
    rw [show (sizL pre : Int) + (t.size : Int) = ((sizL pre + t.size : Nat) : Int) by omega]
    exact ih
theorem join_cat (L : List ByteArray) (q : ByteArray) (T : List ByteArray) (hL : L = q :: T) (hl : L.length ≤ 1000000) (hz : sizL L ≤ 100000000) (j : ByteArray → Option ByteArray) : ∀ (ts pre : List ByteArray) (m : Nat) (b : ByteArray), T = pre ++ ts → ts.length < m → b.size + sizL ts ≤ 100000000 →
    loopG (fun _ _ => none) (strings_Join_s2 L ⟨#[]⟩ j) m b (pre.length : Int) = j (b ++ catL ts)
  | [], pre, m, b, h, hm, hb => by
    obtain ⟨m, rfl⟩ : ∃ q, m = q + 1 := ⟨m - 1, by simp at hm; omega⟩
    rw [loopI]
    generalize loopG (fun _ _ => none) (strings_Join_s2 L ⟨#[]⟩ j) m = ag
    unfold strings_Join_s2
    have hc : cutL L 1 (L.length : Int) = T := by rw [hL]; unfold cutL; simp
    rw [hc]
    refine condFI (decide_eq_false (by rw [h]; simp)) ?_
    show j b = j (b ++ (⟨#[]⟩ : ByteArray))
    rw [app_empty]
  | t :: ts, pre, m, b, h, hm, hb => by
    obtain ⟨m, rfl⟩ : ∃ q, m = q + 1 := ⟨m - 1, by simp at hm; omega⟩
    have hb' : b.size + (t.size + sizL ts) ≤ 100000000 := hb
    have ih := join_cat L q T hL hl hz j ts (pre ++ [t]) m (b ++ t) (by rw [h]; simp) (by simp at hm; omega) (by rw [ByteArray.size_append]; omega)
    rw [loopI]
    generalize loopG (fun _ _ => none) (strings_Join_s2 L ⟨#[]⟩ j) m = ag at ih ⊢
    have hc : cutL L 1 (L.length : Int) = T := by rw [hL]; unfold cutL; simp
    have hg : T[pre.length]? = some t := by rw [h]; simp
    have hpl := lp_lt' hg
    have hTl : T.length ≤ 1000000 := by rw [hL] at hl; simp at hl; omega
    rw [show (((pre ++ [t]).length : Nat) : Int) = (pre.length : Int) + 1 by simp] at ih
    unfold strings_Join_s2
    rw [hc, app_empty]
    refine condTI (lp_lt hg) (thenI (lp_get hg) (grdI (by show b.size + 0 ≤ _; omega) (grdI (by omega) (grdI ⟨by omega, by omega⟩ ?_))))
    rw [ih, ByteArray.append_assoc]; rfl
theorem join_v (L : List ByteArray) (hl : L.length ≤ 1000000) (hz : sizL L ≤ 100000000) : strings_Join_v L ⟨#[]⟩ = some (catL L) := by
  unfold strings_Join_v
  cases L with
  | nil => exact condTI rfl rfl
  | cons q T =>
    refine condFI (beqF (by rw [List.length_cons]; omega)) ?_
    by_cases h1 : T = []
    · subst h1
      refine condTI rfl (thenI (getO_of (n := 0) rfl rfl) ?_)
      show some q = some (q ++ (⟨#[]⟩ : ByteArray))
      rw [app_empty]
    · obtain ⟨t, ts, rfl⟩ := List.exists_cons_of_ne_nil h1
      refine condFI (beqF (by simp only [List.length_cons]; omega)) (joinI (condFI rfl (joinI ?_)))
      have hq : q.size ≤ sizL (q :: t :: ts) := by show q.size ≤ q.size + _; omega
      have h1 := join_len (q :: t :: ts) hl hz (fun (n2 : Int) => joinK (fun (j3 : ByteArray → Option ByteArray) => grd (0 ≤ (n2 : Int) ∧ (n2 : Int) ≤ 140737488355328) <| andThen (getO (q :: t :: ts) 0) fun (q3 : ByteArray) => grd ((⟨#[]⟩ : ByteArray).size + q3.size ≤ 140737488355328) <| grd (0 ≤ (1 : Int) ∧ (1 : Int) ≤ ((q :: t :: ts).length : Int) ∧ (((q :: t :: ts).length : Int) : Int) ≤ ((q :: t :: ts).length : Int)) <| loopG (fun _ _ => none) (strings_Join_s2 (q :: t :: ts) ⟨#[]⟩ j3) fuel ((⟨#[]⟩ : ByteArray) ++ q3) 0) (fun (b2 : ByteArray) => some b2)) (q :: t :: ts) [] fuel rfl (by have := big_fuel (n := (q :: t :: ts).length) (by omega); omega)
      refine h1.trans (joinI (grdI ⟨by omega, by omega⟩ (thenI (getO_of (n := 0) rfl rfl) (grdI (by show 0 + q.size ≤ _; omega) (grdI ⟨by omega, by rw [List.length_cons]; omega, by omega⟩ ?_)))))
      rw [empty_app]
      have h2 := join_cat (q :: t :: ts) q (t :: ts) rfl hl hz (fun (b2 : ByteArray) => some b2) (t :: ts) [] fuel q rfl (by have := big_fuel (n := (q :: t :: ts).length) (by omega); rw [List.length_cons] at this; omega) (by show q.size + sizL (t :: ts) ≤ _; exact hz)
      exact h2
def seekN (s : ByteArray) (g : Int) : Nat → Nat → Nat
  | 0, t => t
  | d + 1, t => if stN s t < g then seekN s g d (t + 1) else t
theorem seek_facts (s : ByteArray) (g : Int) : ∀ (d t : Nat), t ≤ seekN s g d t ∧ seekN s g d t ≤ t + d ∧ (seekN s g d t = t + d ∨ g ≤ stN s (seekN s g d t)) ∧ ∀ j, t ≤ j → j < seekN s g d t → stN s j < g
  | 0, t => ⟨Nat.le_refl _, Nat.le_refl _, .inl rfl, fun j h1 h2 => absurd h2 (by show ¬ j < t; omega)⟩
  | d + 1, t => by
    unfold seekN
    split
    · rename_i h
      obtain ⟨h1, h2, h3, h4⟩ := seek_facts s g d (t + 1)
      refine ⟨by omega, by omega, h3.imp (fun e => by omega) id, fun j a b => ?_⟩
      by_cases e : j = t
      · rw [e]; exact h
      · exact h4 j (by omega) b
    · rename_i h
      exact ⟨Nat.le_refl _, by omega, .inr (by omega), fun j a b => by omega⟩
def costF (s : ByteArray) (a b : Int) : Nat → List ByteArray → Option Int
  | _, [] => some 0
  | f, q :: L => if q = (⟨#[]⟩ : ByteArray) then none else
      let t := seekN s (stN s f + (q.size : Int)) ((cellsS s).length - f) f
      if stN s t - stN s f ≠ (q.size : Int) then none else if Rs s a b f t = true then (costF s a b t L).map (fun c => (if L = [] then 0 else Ks s a b f t) + c) else none
section
variable {s : ByteArray} {a b : Int} (hs : s.size ≤ 100000) (ha : 0 ≤ a ∧ a ≤ 1000000) (hb : 0 ≤ b ∧ b ≤ 1000000)
theorem cost_in (f : Nat) (q : ByteArray) (j4 : ByteArray → Int → Int → Option (Int × Int)) (hs : s.size ≤ 100000) : ∀ (d t m : Nat), t + d = (cellsS s).length → f ≤ t → d < m → loopG (fun _ _ => none) (page_Cost_s3 (turnT s a b) j4 q) m (t : Int) (stN s t - stN s f) =
    j4 q (seekN s (stN s f + (q.size : Int)) d t : Int) (stN s (seekN s (stN s f + (q.size : Int)) d t) - stN s f) := by
  have hle := cs_le hs
  intro d
  induction d with
  | zero =>
    intro t m ht hf hm
    obtain ⟨m, rfl⟩ : ∃ q, m = q + 1 := ⟨m - 1, by omega⟩
    rw [loopI]
    generalize loopG (fun _ _ => none) (page_Cost_s3 (turnT s a b) j4 q) m = ag
    unfold page_Cost_s3
    exact condFI (decide_eq_false (by show ¬ ((t : Int) < ((cellsS s).length : Int)); omega)) rfl
  | succ d ih =>
    intro t m ht hf hm
    obtain ⟨m, rfl⟩ : ∃ q, m = q + 1 := ⟨m - 1, by omega⟩
    have ih' := ih (t + 1) m (by omega) (by omega) (by omega)
    rw [loopI]
    generalize loopG (fun _ _ => none) (page_Cost_s3 (turnT s a b) j4 q) m = ag at ih' ⊢
    have hx : (cellsS s)[t]? = some (cellsS s)[t] := List.getElem?_eq_getElem (by omega)
    obtain ⟨h1, h2, h3, h4, h5⟩ := stN_to s hx
    have hf0 := stN_rng s (k := f) (by omega)
    unfold page_Cost_s3 seekN
    refine condTI (decide_eq_true (by show (t : Int) < ((cellsS s).length : Int); omega)) ?_
    by_cases h : stN s t < stN s f + (q.size : Int)
    · rw [if_pos h]
      refine condTI (decide_eq_true (by omega)) (thenI (lp_get hx) (grdI ⟨by omega, by omega⟩ (grdI ⟨by omega, by omega⟩ (grdI ⟨by omega, by omega⟩ ?_))))
      rw [show stN s t - stN s f + ((cellsS s)[t].Span_To - (cellsS s)[t].Span_From) = stN s (t + 1) - stN s f by omega, show (t : Int) + 1 = ((t + 1 : Nat) : Int) by omega]
      exact ih'
    · rw [if_neg h]
      exact condFI (decide_eq_false (by omega)) rfl
def cRes (j : Int → Option (Int × Int)) (c : Int) : Option Int → Option (Int × Int)
  | none => some (0, 2)
  | some x => j (c + x)
include hs ha hb
theorem cost_go (rows : List ByteArray) (hl : rows.length ≤ 100000) (j2 : Int → Option (Int × Int)) : ∀ (L pre : List ByteArray) (f m : Nat) (c : Int), rows = pre ++ L → f ≤ (cellsS s).length → L.length < m → 0 ≤ c ∧ c ≤ 2000000000000 * pre.length →
    loopG (fun _ _ _ => none) (page_Cost_s2 rows j2 (turnT s a b)) m c (f : Int) (pre.length : Int) = cRes j2 c (costF s a b f L)
  | [], pre, f, m, c, h, hf, hm, hc => by
    obtain ⟨m, rfl⟩ : ∃ q, m = q + 1 := ⟨m - 1, by simp at hm; omega⟩
    rw [List.append_nil] at h; subst h
    rw [loopI]
    generalize loopG (fun _ _ _ => none) (page_Cost_s2 rows j2 (turnT s a b)) m = ag
    unfold page_Cost_s2
    refine condFI lp_ge ?_
    show j2 c = j2 (c + 0)
    rw [Int.add_zero]
  | q :: L, pre, f, m, c, h, hf, hm, hc => by
    obtain ⟨m, rfl⟩ : ∃ q, m = q + 1 := ⟨m - 1, by simp at hm; omega⟩
    have hle := cs_le hs
    obtain ⟨g1, g2, g3, g4⟩ := seek_facts s (stN s f + (q.size : Int)) ((cellsS s).length - f) f
    have ih := fun c' hc' => cost_go rows hl j2 L (pre ++ [q]) (seekN s (stN s f + (q.size : Int)) ((cellsS s).length - f) f) m c' (by rw [h]; simp) (by omega) (by simp at hm; omega) hc'
    have hin := fun j4 => cost_in (s := s) (a := a) (b := b) f q j4 hs ((cellsS s).length - f) f fuel (by omega) (Nat.le_refl _) (by have := big_fuel (n := (cellsS s).length) (by omega); omega)
    have hK := costN_rng hs ha hb f (seekN s (stN s f + (q.size : Int)) ((cellsS s).length - f) f)
    have hg : rows[pre.length]? = some q := by rw [h]; simp
    have hpl := lp_lt' hg
    rw [loopI]
    rw [show (((pre ++ [q]).length : Nat) : Int) = (pre.length : Int) + 1 by simp] at ih
    generalize loopG (fun _ _ _ => none) (page_Cost_s2 rows j2 (turnT s a b)) m = ag at ih ⊢
    unfold page_Cost_s2 costF
    refine condTI (lp_lt hg) (joinI (joinI (thenI (lp_get hg) ?_)))
    rw [Int.sub_self] at hin
    rw [hin]
    generalize seekN s (stN s f + (q.size : Int)) ((cellsS s).length - f) f = t at *
    by_cases he : q = (⟨#[]⟩ : ByteArray)
    · rw [if_pos he]; exact condTI (decide_eq_true he) rfl
    rw [if_neg he]
    refine condFI (decide_eq_false he) ?_
    simp only
    by_cases hz : stN s t - stN s f = (q.size : Int)
    · have hqs : 0 < q.size := by
        rcases Nat.eq_zero_or_pos q.size with h0 | h0
        · exact absurd (ByteArray.ext (Array.eq_empty_of_size_eq_zero h0)) he
        · exact h0
      have hft : f < t := by
        rcases Nat.lt_or_ge f t with h' | h'
        · exact h'
        · have : t = f := by omega
          rw [this] at hz; omega
      rw [if_neg (by omega)]
      refine condFI (neqF hz) (thenI (rowT_v hs f t hft (by omega)) ?_)
      have hRs : Rs s a b f t = rowN (spB s) (cellsS s) a b f t := rfl
      rw [hRs]
      cases hR : rowN (spB s) (cellsS s) a b f t with
      | false => exact condTI rfl (by rw [if_neg (by decide)]; rfl)
      | true =>
        rw [if_pos rfl]
        refine condFI rfl (joinI (grdI ⟨by omega, by omega⟩ ?_))
        by_cases hL : L = []
        · rw [if_pos hL]
          refine condFI (decide_eq_false (by rw [h, hL]; simp)) (grdI ⟨by omega, by omega⟩ ?_)
          rw [ih c ⟨hc.1, by omega⟩]
          cases costF s a b t L with
          | none => rfl
          | some x => show j2 (c + x) = j2 (c + (0 + x)); rw [Int.zero_add]
        · rw [if_neg hL]
          have hLl : 0 < L.length := List.length_pos_iff.2 hL
          have hrl : rows.length = pre.length + (1 + L.length) := by rw [h]; simp; omega
          refine condTI (decide_eq_true (by omega)) (thenI (costT_v hs ha hb f t hft (by omega)) (grdI ⟨by omega, by omega⟩ (grdI ⟨by omega, by omega⟩ ?_)))
          rw [ih (c + costN (spB s) (cellsS s) a b f t) ⟨by omega, by omega⟩]
          cases costF s a b t L with
          | none => rfl
          | some x => show j2 (c + _ + x) = j2 (c + (_ + x)); rw [Int.add_assoc]
    · rw [if_pos hz]
      exact condTI (neqI hz) rfl
end
end Go.Proofs.Ytnhdnpdbmgeheaa
namespace Go.Proofs.Ytnhdnpdbmgeheaa
open Go.RowKit Go.Lib
set_option linter.unusedVariables false
set_option linter.unusedSimpArgs false
def ref02_Pieces_s1 (s1 : ByteArray) (j1 : (List Gref02_Piece) → Option (List Gref02_Piece)) (ag1 : (List Gref02_Piece) → Nat → Option (List Gref02_Piece)) (l4 : List Gref02_Piece) (m3 : Nat) : Option (List Gref02_Piece) := bcond (decide (m3 < (pcs s1.data.toList).length)) ( andThen ((pcs s1.data.toList)[m3]?) fun (p1 : Pc) => joinK (fun (j2 : (List Gref02_Piece) → Option (List Gref02_Piece)) => bcond (decide ((0 : Int) < (l4.length : Int))) ( grd (I64 ((l4.length : Int) - 1)) <| grd (I64 ((l4.length : Int) - 1)) <| andThen (getO l4 ((l4.length : Int) - 1)) fun (q1 : Gref02_Piece) => grd (I64 ((p1.i : Int) - q1.At)) <| j2 (l4.set ((l4.length : Int) - 1 : Int).toNat (⟨q1.At, (p1.i : Int) - q1.At, q1.Rune⟩ : Gref02_Piece))
) ( j2 l4
)
) (fun (l5 : List Gref02_Piece) => grd (l5.length + 1 ≤ 2147483648) <| ag1 (l5 ++ [(⟨(p1.i : Int), 0, (p1.r : Int)⟩ : Gref02_Piece)]) (m3 + 1)
)
) ( j1 l4
)
def ref02_Pieces_v (s1 : ByteArray) : Option (List Gref02_Piece) := joinK (fun (j1 : (List Gref02_Piece) → Option (List Gref02_Piece)) => loopG (fun _ _ => none) (ref02_Pieces_s1 s1 j1) fuel ([] : List Gref02_Piece) 0
) (fun (l1 : List Gref02_Piece) => joinK (fun (j3 : (List Gref02_Piece) → Option (List Gref02_Piece)) => bcond (decide ((0 : Int) < (l1.length : Int))) ( grd (I64 ((l1.length : Int) - 1)) <| grd (I64 ((l1.length : Int) - 1)) <| andThen (getO l1 ((l1.length : Int) - 1)) fun (q2 : Gref02_Piece) => grd (I64 ((s1.size : Int) - q2.At)) <| j3 (l1.set ((l1.length : Int) - 1 : Int).toNat (⟨q2.At, (s1.size : Int) - q2.At, q2.Rune⟩ : Gref02_Piece))
) ( j3 l1
)
) (fun (l6 : List Gref02_Piece) => some l6
)
)
set_option maxRecDepth 100000 in
set_option maxHeartbeats 4000000 in
theorem ref02_Pieces_fn {s1 : ByteArray} {r : (List Gref02_Piece)} (h : ref02_Pieces_v s1 = some r) : Fn Try.prog 36 [.string s1] [] (fun v0 : Value => v0) (fun v0 => [vec enc_Gref02_Piece 90 3 v0 r]) := by
 unfold ref02_Pieces_v at h
 refine Fn.intro Try.func36 rfl Try.ntmps36 (by simp) ?_
 intro w0 K
 obtain ⟨j1, hj1, h⟩ := joinE h
 refine TC.cutN (β := (List Gref02_Piece) × Value) 2 rfl (fun b => j1 b.1 = some r) (fun b => []) (fun b => [(0, .string s1), (3, b.2)]) (fun b => [vec enc_Gref02_Piece 90 3 b.2 b.1]) (fun cut => ?_) ?_
 ·
  refine TC.seq (TC.region (TO.assign rfl dc rfl (TO.nil (TX.next (TC.seq (TC.region (TO.assign rfl dc rfl (TO.nil (TX.next (cut (TC.seq (TC.region (TO.move rfl dc rfl ?_)))))))))))))
  refine TO.rangeStr Try.underlying9 rfl dc rfl (fun b1 => ?_)
  refine TO.nil (TX.next (TC.block (TC.newVec (enc := enc_Gref02_Piece) (e := 90) (size := 3) ?_)))
  show TC _ _ _ _ _ _ _ _ _ [obj b1 (.stringIter s1 (posAt s1 0)), vec enc_Gref02_Piece 90 3 (.slice none 0 0) ([] : List Gref02_Piece)]
  refine TC.loopD (β := Nat × (List Gref02_Piece) × Nat × Value) (fun b => loopG (fun _ _ => none) (ref02_Pieces_s1 s1 j1) b.1 b.2.1 b.2.2.1 = some r) (fun b => []) (fun b => [(0, .string s1), (3, b.2.2.2), (7, .pointer (some ⟨b1, 0, none⟩))]) (fun b => [vec enc_Gref02_Piece 90 3 b.2.2.2 b.2.1, obj b1 (.stringIter s1 (posAt s1 b.2.2.1))]) (fun b => b.1) (fuel, ([] : List Gref02_Piece), 0, (.slice none 0 0)) h rfl (Sbs.cons rfl (Sbs.cons rfl (Sbs.cons rfl (Sbs.nil)))) (Splits.of [1, 0] kr rfl) ?_
  rintro ⟨n1, l4, m3, v4⟩ h
  cases n1 with
  | zero => exact noneE h
  | succ n1 =>
   obtain ⟨ag1, hag1⟩ : ∃ ag, ag = loopG (fun _ _ => none) (ref02_Pieces_s1 s1 j1) n1 := ⟨_, rfl⟩
   have h : ref02_Pieces_s1 s1 j1 ag1 l4 m3 = some r := by rw [hag1]; exact h
   unfold ref02_Pieces_s1 at h
   show TC _ _ _ _ _ ([]) _ _ [(0, .string s1), (3, v4), (7, .pointer (some ⟨b1, 0, none⟩))] [vec enc_Gref02_Piece 90 3 v4 l4, obj b1 (.stringIter s1 (posAt s1 m3))]
   refine TC.seq (TC.region ?_)
   refine TO.bySplit (b := decide (m3 < (pcs s1.data.toList).length)) (fun hb1 => ?_) (fun hb1 => ?_)
   ·
    have h := condT hb1 h
    obtain ⟨p1, hq1, h⟩ := andE h
    refine TO.nextStr (k := 1) (m := m3) (p := p1) rfl dc rfl rfl hq1 (TO.extract rfl dc rfl rfl (TO.nil (TX.next (TC.seq (TC.condT rfl (TC.skip (TX.next (TC.block ?_))))))))
    obtain ⟨j2, hj2, h⟩ := joinE h
    refine TC.cutN (β := (List Gref02_Piece)) 1 rfl (fun b => j2 b = some r) (fun b => []) (fun b => [(0, .string s1), (3, v4), (4, .int .i64 (p1.i : Int)), (5, .int .i32 (p1.r : Int)), (7, .pointer (some ⟨b1, 0, none⟩))]) (fun b => [vec enc_Gref02_Piece 90 3 v4 b, obj b1 (.stringIter s1 (posAt s1 (m3 + 1)))]) (fun cut => ?_) ?_
    ·
     refine TC.seq (TC.region (TO.extract rfl dc rfl rfl (TO.extract rfl dc rfl rfl (TO.assign rfl dc rfl (TO.assign rfl dc rfl (TO.nil (TX.next (cut (TC.seq (TC.region (TO.move rfl dc rfl (TO.lenVec (k := 0) rfl dc rfl rfl Try.underlying87 (TO.bin rfl dc rfl rfl bin_gtr ?_)))))))))))))
     refine TO.nil (TX.next ?_)
     refine TC.condB rfl (fun hb2 => ?_) (fun hb2 => ?_)
     ·
      have h := condT hb2 h
      refine TC.region (TO.move rfl dc rfl (TO.move rfl dc rfl (TO.lenVec (k := 0) rfl dc rfl rfl Try.underlying87 ?_)))
      obtain ⟨hg1, h⟩ := grdE h
      refine TO.bin rfl dc rfl rfl (bin_sub (r := (l4.length : Int) - 1) (IntWalk.i64_in _ hg1)) (TO.move rfl dc rfl (TO.move rfl dc rfl (TO.move rfl dc rfl (TO.lenVec (k := 0) rfl dc rfl rfl Try.underlying87 ?_))))
      obtain ⟨hg2, h⟩ := grdE h
      refine TO.bin rfl dc rfl rfl (bin_sub (r := (l4.length : Int) - 1) (IntWalk.i64_in _ hg2)) ?_
      obtain ⟨q1, hq2, h⟩ := andE h
      refine TO.indexVecI (k := 0) hq2 Try.underlying87 sz_90 rfl dc rfl rfl rfl rfl (TO.fieldAddr fl_90_0 rfl dc rfl (show _ = (((l4.length : Int) - 1 : Int).toNat) * 3 from rfl) (TO.loadVec (i := ((l4.length : Int) - 1 : Int).toNat) (j := 0) (k := 0) (q := q1) sc_3 enc_Gref02_Piece_len rfl dc rfl rfl (getO_get hq2) rfl dc rfl ?_))
      obtain ⟨hg3, h⟩ := grdE h
      refine TO.bin rfl dc rfl rfl (bin_sub (r := (p1.i : Int) - q1.At) (IntWalk.i64_in _ hg3)) (TO.indexVecI (k := 0) hq2 Try.underlying87 sz_90 rfl dc rfl rfl rfl rfl (TO.fieldAddr fl_90_1 rfl dc rfl (show _ = (((l4.length : Int) - 1 : Int).toNat) * 3 + 1 from rfl) ?_))
      refine TO.storeVec (i := ((l4.length : Int) - 1 : Int).toNat) (j := 1) (k := 0) (q := q1) (q' := (⟨q1.At, (p1.i : Int) - q1.At, q1.Rune⟩ : Gref02_Piece)) sz_3 enc_Gref02_Piece_len rfl rfl rfl rfl (getO_get hq2) rfl dc rfl (fun _ _ => rfl) ?_
      show TO _ _ _ _ _ _ _ _ _ _ [vec enc_Gref02_Piece 90 3 v4 (l4.set ((l4.length : Int) - 1 : Int).toNat (⟨q1.At, (p1.i : Int) - q1.At, q1.Rune⟩ : Gref02_Piece)), obj b1 (.stringIter s1 (posAt s1 (m3 + 1)))]
      refine TO.nil ?_
      exact TX.meetD (l4.set ((l4.length : Int) - 1 : Int).toNat (⟨q1.At, (p1.i : Int) - q1.At, q1.Rune⟩ : Gref02_Piece)) h rfl (Sbs.cons rfl (Sbs.cons rfl (Sbs.cons rfl (Sbs.cons rfl (Sbs.cons rfl (Sbs.nil)))))) (Splits.of [0, 1] kr rfl)
     ·
      have h := condF hb2 h
      refine TC.skip ?_
      exact TX.meetD l4 h rfl (Sbs.cons rfl (Sbs.cons rfl (Sbs.cons rfl (Sbs.cons rfl (Sbs.cons rfl (Sbs.nil)))))) (Splits.of [0, 1] kr rfl)
    ·
     rintro l5 h
     rw [hj2] at h
     show TC _ _ _ _ _ ([]) _ _ [(0, .string s1), (3, v4), (4, .int .i64 (p1.i : Int)), (5, .int .i32 (p1.r : Int)), (7, .pointer (some ⟨b1, 0, none⟩))] [vec enc_Gref02_Piece 90 3 v4 l5, obj b1 (.stringIter s1 (posAt s1 (m3 + 1)))]
     refine TC.region (TO.move rfl dc rfl (TO.move rfl dc rfl (TO.move rfl dc rfl ?_)))
     refine TO.build (v := .agg #[.int .i64 (p1.i : Int), .int .i64 0, .int .i32 (p1.r : Int)]) (ps := [(0, .tmp 31), (2, .tmp 32)]) rfl dc rfl (fun _ => by kernel_rfl) ?_
     refine TO.buildSlice (cs := [.int .i64 (p1.i : Int), .int .i64 0, .int .i32 (p1.r : Int)]) (te := 90) (ps := [(0, .tmp 33)]) rfl dc rfl (fun _ => by kernel_rfl) (fun b2 => ?_)
     obtain ⟨hg4, h⟩ := grdE h
     refine TO.appendVec (k := 0) (k2 := 2) (ys := [(⟨(p1.i : Int), 0, (p1.r : Int)⟩ : Gref02_Piece)]) Try.underlying87 el_90 enc_Gref02_Piece_len enc_Gref02_Piece_one rfl dc rfl rfl rfl rfl rfl rfl hg4 (fun v5 => ?_)
     show TO _ _ _ _ _ _ _ _ _ _ [vec enc_Gref02_Piece 90 3 v5 (l5 ++ [(⟨(p1.i : Int), 0, (p1.r : Int)⟩ : Gref02_Piece)]), obj b1 (.stringIter s1 (posAt s1 (m3 + 1))), cells b2 [.int .i64 (p1.i : Int), .int .i64 0, .int .i32 (p1.r : Int)] 90]
     refine TO.assign rfl dc rfl (TO.nil (TX.blockNormal ?_))
     subst hag1
     exact TX.againD (n1, l5 ++ [(⟨(p1.i : Int), 0, (p1.r : Int)⟩ : Gref02_Piece)], m3 + 1, v5) h (Nat.lt_succ_self _) rfl (Sbs.cons rfl (Sbs.cons rfl (Sbs.cons rfl (Sbs.nil)))) (Splits.of [0, 1] kr rfl)
   ·
    have h := condF hb1 h
    refine TO.nextEnd (k := 1) (m := m3) rfl dc rfl rfl (Nat.le_of_not_lt (of_decide_eq_false hb1)) (TO.extract rfl dc rfl rfl (TO.nil (TX.next (TC.seq (TC.condF rfl (TC.exit (TX.thenExit (TX.thenExit (TX.blockHere ?_)))))))))
    exact TX.meetD (l4, v4) h rfl (Sbs.cons rfl (Sbs.cons rfl (Sbs.nil))) (Splits.of [0] kr rfl)
 ·
  rintro ⟨l1, v1⟩ h
  rw [hj1] at h
  show TC _ _ _ _ _ ([]) _ _ [(0, .string s1), (3, v1)] [vec enc_Gref02_Piece 90 3 v1 l1]
  obtain ⟨j3, hj3, h⟩ := joinE h
  refine TC.cutN (β := (List Gref02_Piece)) 0 rfl (fun b => j3 b = some r) (fun b => []) (fun b => [(3, v1)]) (fun b => [vec enc_Gref02_Piece 90 3 v1 b]) (fun cut => ?_) ?_
  ·
   refine cut (TC.seq (TC.region (TO.move rfl dc rfl (TO.lenVec (k := 0) rfl dc rfl rfl Try.underlying87 (TO.bin rfl dc rfl rfl bin_gtr (TO.nil (TX.next ?_)))))))
   refine TC.condB rfl (fun hb3 => ?_) (fun hb3 => ?_)
   ·
    have h := condT hb3 h
    refine TC.region (TO.move rfl dc rfl (TO.move rfl dc rfl (TO.lenVec (k := 0) rfl dc rfl rfl Try.underlying87 ?_)))
    obtain ⟨hg5, h⟩ := grdE h
    refine TO.bin rfl dc rfl rfl (bin_sub (r := (l1.length : Int) - 1) (IntWalk.i64_in _ hg5)) (TO.move rfl dc rfl (TO.lenStr rfl dc rfl Try.underlying9 (TO.move rfl dc rfl (TO.move rfl dc rfl (TO.lenVec (k := 0) rfl dc rfl rfl Try.underlying87 ?_)))))
    obtain ⟨hg6, h⟩ := grdE h
    refine TO.bin rfl dc rfl rfl (bin_sub (r := (l1.length : Int) - 1) (IntWalk.i64_in _ hg6)) ?_
    obtain ⟨q2, hq3, h⟩ := andE h
    refine TO.indexVecI (k := 0) hq3 Try.underlying87 sz_90 rfl dc rfl rfl rfl rfl (TO.fieldAddr fl_90_0 rfl dc rfl (show _ = (((l1.length : Int) - 1 : Int).toNat) * 3 from rfl) (TO.loadVec (i := ((l1.length : Int) - 1 : Int).toNat) (j := 0) (k := 0) (q := q2) sc_3 enc_Gref02_Piece_len rfl dc rfl rfl (getO_get hq3) rfl dc rfl ?_))
    obtain ⟨hg7, h⟩ := grdE h
    refine TO.bin rfl dc rfl rfl (bin_sub (r := (s1.size : Int) - q2.At) (IntWalk.i64_in _ hg7)) (TO.indexVecI (k := 0) hq3 Try.underlying87 sz_90 rfl dc rfl rfl rfl rfl (TO.fieldAddr fl_90_1 rfl dc rfl (show _ = (((l1.length : Int) - 1 : Int).toNat) * 3 + 1 from rfl) ?_))
    refine TO.storeVec (i := ((l1.length : Int) - 1 : Int).toNat) (j := 1) (k := 0) (q := q2) (q' := (⟨q2.At, (s1.size : Int) - q2.At, q2.Rune⟩ : Gref02_Piece)) sz_3 enc_Gref02_Piece_len rfl rfl rfl rfl (getO_get hq3) rfl dc rfl (fun _ _ => rfl) ?_
    refine TO.nil ?_
    exact TX.meetD (l1.set ((l1.length : Int) - 1 : Int).toNat (⟨q2.At, (s1.size : Int) - q2.At, q2.Rune⟩ : Gref02_Piece)) h rfl (Sbs.cons rfl (Sbs.nil)) (Splits.of [0] kr rfl)
   ·
    have h := condF hb3 h
    refine TC.skip ?_
    exact TX.meetD l1 h rfl (Sbs.cons rfl (Sbs.nil)) (Splits.of [0] kr rfl)
  ·
   rintro l6 h
   rw [hj3] at h
   show TC _ _ _ _ _ ([]) _ _ [(3, v1)] [vec enc_Gref02_Piece 90 3 v1 l6]
   refine TC.seq (TC.region (TO.move rfl dc rfl (TO.assign rfl dc rfl (TO.nil (TX.next (TC.ret ?_))))))
   cases h
   exact TX.fin (rs := [.tmp 2]) v1 (.inl rfl) Try.results36 (.cons (.tmp rfl) .nil) rfl (Splits.of [0] kr rfl)
def ref05_wide_s1 (r1 : Int) (j1 : Option Bool) (ag1 : Int → Option Bool) (i3 : Int) : Option Bool := bcond (decide ((i3 : Int) < 12)) ( joinK (fun (j2 : Option Bool) => andThen (getO ([4352, 11904, 12353, 19968, 44032, 63744, 65072, 65280, 65504, 127744, 129280, 131072] : List Int) i3) fun (q1 : Int) => bcond (decide ((q1 : Int) ≤ r1)) ( andThen (getO ([4447, 12350, 19903, 42191, 55203, 64255, 65135, 65376, 65510, 128591, 129535, 262141] : List Int) i3) fun (q2 : Int) => bcond (decide ((r1 : Int) ≤ q2)) ( some true
) ( j2
)
) ( j2
)
) ( grd (I64 (i3 + 1)) <| ag1 (i3 + 1)
)
) ( j1
)
def ref05_wide_v (r1 : Int) : Option Bool := joinK (fun (j1 : Option Bool) => loopG (fun _ => none) (ref05_wide_s1 r1 j1) fuel 0
) ( some false
)
set_option maxRecDepth 100000 in
set_option maxHeartbeats 4000000 in
theorem ref05_wide_fn {r1 : Int} {r : Bool} (h : ref05_wide_v r1 = some r) : FnP Try.prog 38 [.int .i32 r1] (.bool r) := by
 unfold ref05_wide_v at h
 refine FnP.intro Try.func38 rfl Try.ntmps38 (by simp) ?_
 intro w0 K
 obtain ⟨j1, hj1, h⟩ := joinE h
 refine TC.cutN (β := Unit) 3 rfl (fun b => j1 = some r) (fun b => []) (fun b => []) (fun b => []) (fun cut => ?_) ?_
 ·
  refine TC.seq (TC.region (TO.assign rfl dc rfl (TO.nil (TX.next (TC.seq (TC.region ?_))))))
  refine TO.build (v := .agg #[.int .i32 4352, .int .i32 11904, .int .i32 12353, .int .i32 19968, .int .i32 44032, .int .i32 63744, .int .i32 65072, .int .i32 65280, .int .i32 65504, .int .i32 127744, .int .i32 129280, .int .i32 131072]) (ps := [(0, .const (.int .i32 4352)), (1, .const (.int .i32 11904)), (2, .const (.int .i32 12353)), (3, .const (.int .i32 19968)), (4, .const (.int .i32 44032)), (5, .const (.int .i32 63744)), (6, .const (.int .i32 65072)), (7, .const (.int .i32 65280)), (8, .const (.int .i32 65504)), (9, .const (.int .i32 127744)), (10, .const (.int .i32 129280)), (11, .const (.int .i32 131072))]) rfl dc rfl (fun _ => by kernel_rfl) ?_
  refine TO.alloc zr_105 rfl dc (fun b1 => ?_)
  refine TO.stores (k := 0) (vs := [.int .i32 4352, .int .i32 11904, .int .i32 12353, .int .i32 19968, .int .i32 44032, .int .i32 63744, .int .i32 65072, .int .i32 65280, .int .i32 65504, .int .i32 127744, .int .i32 129280, .int .i32 131072]) (l' := [.int .i32 4352, .int .i32 11904, .int .i32 12353, .int .i32 19968, .int .i32 44032, .int .i32 63744, .int .i32 65072, .int .i32 65280, .int .i32 65504, .int .i32 127744, .int .i32 129280, .int .i32 131072]) sz_105 rfl rfl rfl rfl rfl (show _ ≤ _ by simp) rfl rfl ?_
  show TO _ _ _ _ _ _ _ _ _ _ [cells b1 [.int .i32 4352, .int .i32 11904, .int .i32 12353, .int .i32 19968, .int .i32 44032, .int .i32 63744, .int .i32 65072, .int .i32 65280, .int .i32 65504, .int .i32 127744, .int .i32 129280, .int .i32 131072] 105]
  refine TO.nil (TX.next (TC.seq (TC.region ?_)))
  refine TO.build (v := .agg #[.int .i32 4447, .int .i32 12350, .int .i32 19903, .int .i32 42191, .int .i32 55203, .int .i32 64255, .int .i32 65135, .int .i32 65376, .int .i32 65510, .int .i32 128591, .int .i32 129535, .int .i32 262141]) (ps := [(0, .const (.int .i32 4447)), (1, .const (.int .i32 12350)), (2, .const (.int .i32 19903)), (3, .const (.int .i32 42191)), (4, .const (.int .i32 55203)), (5, .const (.int .i32 64255)), (6, .const (.int .i32 65135)), (7, .const (.int .i32 65376)), (8, .const (.int .i32 65510)), (9, .const (.int .i32 128591)), (10, .const (.int .i32 129535)), (11, .const (.int .i32 262141))]) rfl dc rfl (fun _ => by kernel_rfl) ?_
  refine TO.alloc zr_105 rfl dc (fun b2 => ?_)
  refine TO.stores (k := 1) (vs := [.int .i32 4447, .int .i32 12350, .int .i32 19903, .int .i32 42191, .int .i32 55203, .int .i32 64255, .int .i32 65135, .int .i32 65376, .int .i32 65510, .int .i32 128591, .int .i32 129535, .int .i32 262141]) (l' := [.int .i32 4447, .int .i32 12350, .int .i32 19903, .int .i32 42191, .int .i32 55203, .int .i32 64255, .int .i32 65135, .int .i32 65376, .int .i32 65510, .int .i32 128591, .int .i32 129535, .int .i32 262141]) sz_105 rfl rfl rfl rfl rfl (show _ ≤ _ by simp) rfl rfl ?_
  show TO _ _ _ _ _ _ _ _ _ _ [cells b1 [.int .i32 4352, .int .i32 11904, .int .i32 12353, .int .i32 19968, .int .i32 44032, .int .i32 63744, .int .i32 65072, .int .i32 65280, .int .i32 65504, .int .i32 127744, .int .i32 129280, .int .i32 131072] 105, cells b2 [.int .i32 4447, .int .i32 12350, .int .i32 19903, .int .i32 42191, .int .i32 55203, .int .i32 64255, .int .i32 65135, .int .i32 65376, .int .i32 65510, .int .i32 128591, .int .i32 129535, .int .i32 262141] 105]
  refine TO.nil (TX.next (cut (TC.seq (TC.region (TO.assign rfl dc rfl (TO.nil (TX.next (TC.block ?_))))))))
  refine TC.loopD (β := Nat × Int) (fun b => loopG (fun _ => none) (ref05_wide_s1 r1 j1) b.1 b.2 = some r) (fun b => []) (fun b => [(0, .int .i32 r1), (3, .pointer (some ⟨b1, 0, none⟩)), (4, .pointer (some ⟨b2, 0, none⟩)), (5, .int .i64 b.2)]) (fun b => [cells b1 [.int .i32 4352, .int .i32 11904, .int .i32 12353, .int .i32 19968, .int .i32 44032, .int .i32 63744, .int .i32 65072, .int .i32 65280, .int .i32 65504, .int .i32 127744, .int .i32 129280, .int .i32 131072] 105, cells b2 [.int .i32 4447, .int .i32 12350, .int .i32 19903, .int .i32 42191, .int .i32 55203, .int .i32 64255, .int .i32 65135, .int .i32 65376, .int .i32 65510, .int .i32 128591, .int .i32 129535, .int .i32 262141] 105]) (fun b => b.1) (fuel, 0) h rfl (Sbs.cons rfl (Sbs.cons rfl (Sbs.cons rfl (Sbs.cons rfl (Sbs.nil))))) (Splits.of [0, 1] kr rfl) ?_
  rintro ⟨n1, i3⟩ h
  cases n1 with
  | zero => exact noneE h
  | succ n1 =>
   obtain ⟨ag1, hag1⟩ : ∃ ag, ag = loopG (fun _ => none) (ref05_wide_s1 r1 j1) n1 := ⟨_, rfl⟩
   have h : ref05_wide_s1 r1 j1 ag1 i3 = some r := by rw [hag1]; exact h
   unfold ref05_wide_s1 at h
   show TC _ _ _ _ _ ([]) _ _ [(0, .int .i32 r1), (3, .pointer (some ⟨b1, 0, none⟩)), (4, .pointer (some ⟨b2, 0, none⟩)), (5, .int .i64 i3)] [cells b1 [.int .i32 4352, .int .i32 11904, .int .i32 12353, .int .i32 19968, .int .i32 44032, .int .i32 63744, .int .i32 65072, .int .i32 65280, .int .i32 65504, .int .i32 127744, .int .i32 129280, .int .i32 131072] 105, cells b2 [.int .i32 4447, .int .i32 12350, .int .i32 19903, .int .i32 42191, .int .i32 55203, .int .i32 64255, .int .i32 65135, .int .i32 65376, .int .i32 65510, .int .i32 128591, .int .i32 129535, .int .i32 262141] 105]
   refine TC.seq (TC.seq (TC.region (TO.move rfl dc rfl (TO.bin rfl dc rfl rfl bin_lss (TO.nil (TX.next ?_))))))
   refine TC.condB rfl (fun hb1 => ?_) (fun hb1 => ?_)
   ·
    have h := condT hb1 h
    refine TC.skip (TX.next ?_)
    obtain ⟨j2, hj2, h⟩ := joinE h
    refine TC.cutN (β := Unit) 0 rfl (fun b => j2 = some r) (fun b => []) (fun b => [(0, .int .i32 r1), (3, .pointer (some ⟨b1, 0, none⟩)), (4, .pointer (some ⟨b2, 0, none⟩)), (5, .int .i64 i3)]) (fun b => [cells b1 [.int .i32 4352, .int .i32 11904, .int .i32 12353, .int .i32 19968, .int .i32 44032, .int .i32 63744, .int .i32 65072, .int .i32 65280, .int .i32 65504, .int .i32 127744, .int .i32 129280, .int .i32 131072] 105, cells b2 [.int .i32 4447, .int .i32 12350, .int .i32 19903, .int .i32 42191, .int .i32 55203, .int .i32 64255, .int .i32 65135, .int .i32 65376, .int .i32 65510, .int .i32 128591, .int .i32 129535, .int .i32 262141] 105]) (fun cut => ?_) ?_
    ·
     refine cut (TC.block (TC.seq (TC.region (TO.move rfl dc rfl ?_))))
     obtain ⟨q1, hq1, h⟩ := andE h
     refine TO.indexArr (getO_pos hq1) Try.underlying105 sz_21 rfl dc rfl rfl (Nat.zero_add _) (TO.toVec (enc := (encI (.i32))) (size := 1) ([4352, 11904, 12353, 19968, 44032, 63744, 65072, 65280, 65504, 127744, 129280, 131072] : List Int) (k := 0) rfl encI_len rfl (show 12 ≤ maxLen by decide) ?_)
     show TO _ _ _ _ _ _ _ _ _ _ [vec (encI (.i32)) 105 1 (.slice (some ⟨b1, 0, none⟩) 12 12) ([4352, 11904, 12353, 19968, 44032, 63744, 65072, 65280, 65504, 127744, 129280, 131072] : List Int), cells b2 [.int .i32 4447, .int .i32 12350, .int .i32 19903, .int .i32 42191, .int .i32 55203, .int .i32 64255, .int .i32 65135, .int .i32 65376, .int .i32 65510, .int .i32 128591, .int .i32 129535, .int .i32 262141] 105]
     refine TO.loadVec (i := (i3 : Int).toNat) (j := 0) (k := 0) (q := q1) sc_21 encI_len rfl dc rfl rfl (getO_get hq1) rfl dc rfl (TO.ent (k := 0) rfl (Ent.fromVecs (by rfl)) ?_)
     show TO _ _ _ _ _ _ _ _ _ _ [cells b1 [.int .i32 4352, .int .i32 11904, .int .i32 12353, .int .i32 19968, .int .i32 44032, .int .i32 63744, .int .i32 65072, .int .i32 65280, .int .i32 65504, .int .i32 127744, .int .i32 129280, .int .i32 131072] 105, cells b2 [.int .i32 4447, .int .i32 12350, .int .i32 19903, .int .i32 42191, .int .i32 55203, .int .i32 64255, .int .i32 65135, .int .i32 65376, .int .i32 65510, .int .i32 128591, .int .i32 129535, .int .i32 262141] 105]
     refine TO.move rfl dc rfl (TO.bin rfl dc rfl rfl bin_leq (TO.move rfl dc rfl ?_))
     refine TO.split (s := 17) rfl (fun hb2 => ?_) (fun hb2 => ?_)
     ·
      have h := condT hb2 h
      refine TO.move rfl dc rfl (TO.move rfl dc rfl ?_)
      obtain ⟨q2, hq2, h⟩ := andE h
      refine TO.indexArr (getO_pos hq2) Try.underlying105 sz_21 rfl dc rfl rfl (Nat.zero_add _) (TO.toVec (enc := (encI (.i32))) (size := 1) ([4447, 12350, 19903, 42191, 55203, 64255, 65135, 65376, 65510, 128591, 129535, 262141] : List Int) (k := 1) rfl encI_len rfl (show 12 ≤ maxLen by decide) ?_)
      show TO _ _ _ _ _ _ _ _ _ _ [cells b1 [.int .i32 4352, .int .i32 11904, .int .i32 12353, .int .i32 19968, .int .i32 44032, .int .i32 63744, .int .i32 65072, .int .i32 65280, .int .i32 65504, .int .i32 127744, .int .i32 129280, .int .i32 131072] 105, vec (encI (.i32)) 105 1 (.slice (some ⟨b2, 0, none⟩) 12 12) ([4447, 12350, 19903, 42191, 55203, 64255, 65135, 65376, 65510, 128591, 129535, 262141] : List Int)]
      refine TO.loadVec (i := (i3 : Int).toNat) (j := 0) (k := 1) (q := q2) sc_21 encI_len rfl dc rfl rfl (getO_get hq2) rfl dc rfl (TO.ent (k := 1) rfl (Ent.fromVecs (by rfl)) ?_)
      show TO _ _ _ _ _ _ _ _ _ _ [cells b1 [.int .i32 4352, .int .i32 11904, .int .i32 12353, .int .i32 19968, .int .i32 44032, .int .i32 63744, .int .i32 65072, .int .i32 65280, .int .i32 65504, .int .i32 127744, .int .i32 129280, .int .i32 131072] 105, cells b2 [.int .i32 4447, .int .i32 12350, .int .i32 19903, .int .i32 42191, .int .i32 55203, .int .i32 64255, .int .i32 65135, .int .i32 65376, .int .i32 65510, .int .i32 128591, .int .i32 129535, .int .i32 262141] 105]
      refine TO.bin rfl dc rfl rfl bin_leq (TO.pick (b := true) rfl dc rfl rfl (TO.nil (TX.next ?_)))
      refine TC.condB rfl (fun hb3 => ?_) (fun hb3 => ?_)
      ·
       have h := condT hb3 h
       refine TC.seq (TC.region (TO.assign rfl dc rfl (TO.nil (TX.next (TC.ret (TX.blockRet (TX.thenRet (TX.thenRet (TX.blockRet (TX.thenRet ?_))))))))))
       cases h
       exact TX.fin (rs := [.tmp 2]) () (.inl rfl) Try.results38 (.cons (.tmp rfl) .nil) rfl Splits.nil
      ·
       have h := condF hb3 h
       refine TC.skip (TX.blockNormal ?_)
       exact TX.meetD () h rfl (Sbs.cons rfl (Sbs.cons rfl (Sbs.cons rfl (Sbs.cons rfl (Sbs.nil))))) (Splits.of [0, 1] kr rfl)
     ·
      have h := condF hb2 h
      refine TO.skip rfl dc (TO.skip rfl dc (TO.skip rfl dc (TO.skip rfl dc (TO.skip rfl dc (TO.pick (b := false) rfl dc rfl rfl (TO.nil (TX.next (TC.condF rfl (TC.skip (TX.blockNormal ?_))))))))))
      exact TX.meetD () h rfl (Sbs.cons rfl (Sbs.cons rfl (Sbs.cons rfl (Sbs.cons rfl (Sbs.nil))))) (Splits.of [0, 1] kr rfl)
    ·
     rintro _ h
     rw [hj2] at h
     show TC _ _ _ _ _ ([]) _ _ [(0, .int .i32 r1), (3, .pointer (some ⟨b1, 0, none⟩)), (4, .pointer (some ⟨b2, 0, none⟩)), (5, .int .i64 i3)] [cells b1 [.int .i32 4352, .int .i32 11904, .int .i32 12353, .int .i32 19968, .int .i32 44032, .int .i32 63744, .int .i32 65072, .int .i32 65280, .int .i32 65504, .int .i32 127744, .int .i32 129280, .int .i32 131072] 105, cells b2 [.int .i32 4447, .int .i32 12350, .int .i32 19903, .int .i32 42191, .int .i32 55203, .int .i32 64255, .int .i32 65135, .int .i32 65376, .int .i32 65510, .int .i32 128591, .int .i32 129535, .int .i32 262141] 105]
     refine TC.region (TO.move rfl dc rfl ?_)
     obtain ⟨hg1, h⟩ := grdE h
     refine TO.bin rfl dc rfl rfl (bin_add (r := i3 + 1) (IntWalk.i64_in _ hg1)) (TO.assign rfl dc rfl (TO.nil ?_))
     subst hag1
     exact TX.againD (n1, i3 + 1) h (Nat.lt_succ_self _) rfl (Sbs.cons rfl (Sbs.cons rfl (Sbs.cons rfl (Sbs.cons rfl (Sbs.nil))))) (Splits.of [0, 1] kr rfl)
   ·
    have h := condF hb1 h
    refine TC.exit (TX.thenExit (TX.thenExit (TX.blockHere ?_)))
    exact TX.meetD () h rfl (Sbs.nil) Splits.nil
 ·
  rintro _ h
  rw [hj1] at h
  show TC _ _ _ _ _ ([]) _ _ [] []
  refine TC.seq (TC.region (TO.assign rfl dc rfl (TO.nil (TX.next (TC.ret ?_)))))
  cases h
  exact TX.fin (rs := [.tmp 2]) () (.inl rfl) Try.results38 (.cons (.tmp rfl) .nil) rfl Splits.nil
def ref05_Pieces_s1 (j1 : (List Gref05_Piece) → Option (List Gref05_Piece)) (r1 : (List Gref02_Piece)) (ag1 : (List Gref05_Piece) → Int → Option (List Gref05_Piece)) (out4 : List Gref05_Piece) (i3 : Int) : Option (List Gref05_Piece) := bcond (decide ((i3 : Int) < (r1.length : Int))) ( joinK (fun (j2 : Int → Int → Int → Bool → Int → Option (List Gref05_Piece)) => andThen (getO r1 i3) fun (q1 : Gref02_Piece) => grd (I64 (q1.At + q1.Width)) <| andThen (getO r1 i3) fun (q2 : Gref02_Piece) => bcond ((q2.Rune : Int) == 65533) ( bcond ((q2.Width : Int) == 1) ( j2 q1.At (q1.At + q1.Width) 11 false 1
) ( andThen (getO r1 i3) fun (q3 : Gref02_Piece) => grd (I32 q3.Rune) <| andThen (getO r1 i3) fun (q4 : Gref02_Piece) => bcond ((q4.Rune : Int) == 8205) ( j2 q1.At (q1.At + q1.Width) (kind q3.Rune) ((q4.Rune : Int) == 8205) 0
) ( bcond (((kind q3.Rune) : Int) == 2) ( j2 q1.At (q1.At + q1.Width) (kind q3.Rune) ((q4.Rune : Int) == 8205) 0
) ( bcond (((kind q3.Rune) : Int) == 4) ( j2 q1.At (q1.At + q1.Width) (kind q3.Rune) ((q4.Rune : Int) == 8205) 0
) ( bcond (((kind q3.Rune) : Int) == 9) ( j2 q1.At (q1.At + q1.Width) (kind q3.Rune) ((q4.Rune : Int) == 8205) 0
) ( andThen (getO r1 i3) fun (q5 : Gref02_Piece) => andThen (ref05_wide_v q5.Rune) fun (r2 : Bool) => bcond (r2) ( j2 q1.At (q1.At + q1.Width) (kind q3.Rune) ((q4.Rune : Int) == 8205) 2
) ( j2 q1.At (q1.At + q1.Width) (kind q3.Rune) ((q4.Rune : Int) == 8205) 1
)
)
)
)
)
)
) ( andThen (getO r1 i3) fun (q6 : Gref02_Piece) => grd (I32 q6.Rune) <| andThen (getO r1 i3) fun (q7 : Gref02_Piece) => bcond ((q7.Rune : Int) == 8205) ( j2 q1.At (q1.At + q1.Width) (kind q6.Rune) ((q7.Rune : Int) == 8205) 0
) ( bcond (((kind q6.Rune) : Int) == 2) ( j2 q1.At (q1.At + q1.Width) (kind q6.Rune) ((q7.Rune : Int) == 8205) 0
) ( bcond (((kind q6.Rune) : Int) == 4) ( j2 q1.At (q1.At + q1.Width) (kind q6.Rune) ((q7.Rune : Int) == 8205) 0
) ( bcond (((kind q6.Rune) : Int) == 9) ( j2 q1.At (q1.At + q1.Width) (kind q6.Rune) ((q7.Rune : Int) == 8205) 0
) ( andThen (getO r1 i3) fun (q8 : Gref02_Piece) => andThen (ref05_wide_v q8.Rune) fun (r3 : Bool) => bcond (r3) ( j2 q1.At (q1.At + q1.Width) (kind q6.Rune) ((q7.Rune : Int) == 8205) 2
) ( j2 q1.At (q1.At + q1.Width) (kind q6.Rune) ((q7.Rune : Int) == 8205) 1
)
)
)
)
)
)
) (fun (p1 : Int) (p2 : Int) (p3 : Int) (p4 : Bool) (p5 : Int) => grd (out4.length + 1 ≤ 2147483648) <| grd (I64 (i3 + 1)) <| ag1 (out4 ++ [(⟨p1, p2, p3, p4, p5⟩ : Gref05_Piece)]) (i3 + 1)
)
) ( j1 out4
)
def ref05_Pieces_v (s1 : ByteArray) : Option (List Gref05_Piece) := joinK (fun (j1 : (List Gref05_Piece) → Option (List Gref05_Piece)) => andThen (ref02_Pieces_v s1) fun (r1 : (List Gref02_Piece)) => loopG (fun _ _ => none) (ref05_Pieces_s1 j1 r1) fuel ([] : List Gref05_Piece) 0
) (fun (out1 : List Gref05_Piece) => some out1
)
set_option maxRecDepth 100000 in
set_option maxHeartbeats 4000000 in
theorem ref05_Pieces_fn {s1 : ByteArray} {r : (List Gref05_Piece)} (h : ref05_Pieces_v s1 = some r) : Fn Try.prog 26 [.string s1] [] (fun v0 : Value => v0) (fun v0 => [vec enc_Gref05_Piece 66 5 v0 r]) := by
 unfold ref05_Pieces_v at h
 refine Fn.intro Try.func26 rfl Try.ntmps26 (by simp) ?_
 intro w0 K
 obtain ⟨j1, hj1, h⟩ := joinE h
 refine TC.cutN (β := (List Gref05_Piece) × Value) 3 rfl (fun b => j1 b.1 = some r) (fun b => []) (fun b => [(4, b.2)]) (fun b => [vec enc_Gref05_Piece 66 5 b.2 b.1]) (fun cut => ?_) ?_
 ·
  refine TC.seq (TC.region (TO.assign rfl dc rfl (TO.nil (TX.next (TC.seq (TC.region (TO.move rfl dc rfl ?_)))))))
  obtain ⟨r1, hq1, h⟩ := andE h
  refine TO.call (vs := [.string s1]) rfl dc rfl rfl rfl en_36 (ref02_Pieces_fn hq1) Splits.nil ?_
  rintro v2
  show TO _ _ _ _ _ _ _ _ _ _ [vec enc_Gref02_Piece 90 3 v2 r1]
  refine TO.assign rfl dc rfl (TO.nil (TX.next (TC.seq (TC.region (TO.assign rfl dc rfl (TO.nil (TX.next (cut (TC.seq (TC.region (TO.assign rfl dc rfl (TO.nil (TX.next ?_)))))))))))))
  refine TC.block (TC.newVec (enc := enc_Gref05_Piece) (e := 66) (size := 5) ?_)
  show TC _ _ _ _ _ _ _ _ _ [vec enc_Gref02_Piece 90 3 v2 r1, vec enc_Gref05_Piece 66 5 (.slice none 0 0) ([] : List Gref05_Piece)]
  refine TC.loopD (β := Nat × (List Gref05_Piece) × Int × Value) (fun b => loopG (fun _ _ => none) (ref05_Pieces_s1 j1 r1) b.1 b.2.1 b.2.2.1 = some r) (fun b => []) (fun b => [(3, v2), (4, b.2.2.2), (5, .int .i64 b.2.2.1)]) (fun b => [vec enc_Gref02_Piece 90 3 v2 r1, vec enc_Gref05_Piece 66 5 b.2.2.2 b.2.1]) (fun b => b.1) (fuel, ([] : List Gref05_Piece), 0, (.slice none 0 0)) h rfl (Sbs.cons rfl (Sbs.cons rfl (Sbs.cons rfl (Sbs.nil)))) (Splits.of [0, 1] kr rfl) ?_
  rintro ⟨n1, out4, i3, v5⟩ h
  cases n1 with
  | zero => exact noneE h
  | succ n1 =>
   obtain ⟨ag1, hag1⟩ : ∃ ag, ag = loopG (fun _ _ => none) (ref05_Pieces_s1 j1 r1) n1 := ⟨_, rfl⟩
   have h : ref05_Pieces_s1 j1 r1 ag1 out4 i3 = some r := by rw [hag1]; exact h
   unfold ref05_Pieces_s1 at h
   show TC _ _ _ _ _ ([]) _ _ [(3, v2), (4, v5), (5, .int .i64 i3)] [vec enc_Gref02_Piece 90 3 v2 r1, vec enc_Gref05_Piece 66 5 v5 out4]
   refine TC.seq (TC.seq (TC.region (TO.move rfl dc rfl (TO.move rfl dc rfl (TO.lenVec (k := 0) rfl dc rfl rfl Try.underlying87 (TO.bin rfl dc rfl rfl bin_lss (TO.nil (TX.next ?_))))))))
   refine TC.condB rfl (fun hb1 => ?_) (fun hb1 => ?_)
   ·
    have h := condT hb1 h
    refine TC.skip (TX.next (TC.seq (TC.block ?_)))
    obtain ⟨j2, hj2, h⟩ := joinE h
    refine TC.cutN (β := Int × Int × Int × Bool × Int × Nat) 1 rfl (fun b => j2 b.1 b.2.1 b.2.2.1 b.2.2.2.1 b.2.2.2.2.1 = some r) (fun b => []) (fun b => [(3, v2), (4, v5), (5, .int .i64 i3), (6, .pointer (some ⟨b.2.2.2.2.2, 0, none⟩))]) (fun b => [vec enc_Gref02_Piece 90 3 v2 r1, vec enc_Gref05_Piece 66 5 v5 out4, cells b.2.2.2.2.2 [.int .i64 b.1, .int .i64 b.2.1, .int .i64 b.2.2.1, .bool b.2.2.2.1, .int .i64 b.2.2.2.2.1] 66]) (fun cut => ?_) ?_
    ·
     refine TC.seq ?_
     obtain ⟨q1, hq2, h⟩ := andE h
     obtain ⟨hg1, h⟩ := grdE h
     refine TC.drawB (β := Nat) 19 18 _ [(0, 15, v2), (1, 16, .int .i64 i3), (2, 17, .pointer (some ⟨vblk v2, (i3 : Int).toNat * 3, none⟩)), (3, 18, .pointer (some ⟨vblk v2, ((i3 : Int).toNat) * 3, none⟩)), (4, 19, .int .i64 q1.At), (5, 20, v2), (6, 21, .int .i64 i3), (7, 22, .pointer (some ⟨vblk v2, (i3 : Int).toNat * 3, none⟩)), (8, 23, .pointer (some ⟨vblk v2, ((i3 : Int).toNat) * 3, none⟩)), (9, 24, .int .i64 q1.At), (10, 25, v2), (11, 26, .int .i64 i3), (12, 27, .pointer (some ⟨vblk v2, (i3 : Int).toNat * 3, none⟩)), (13, 28, .pointer (some ⟨vblk v2, ((i3 : Int).toNat) * 3 + 1, none⟩)), (14, 29, .int .i64 q1.Width), (15, 30, .int .i64 (q1.At + q1.Width)), (16, 31, .agg #[.int .i64 q1.At, .int .i64 (q1.At + q1.Width)]), (17, 32, .agg #[.int .i64 q1.At, .int .i64 (q1.At + q1.Width), .int .i64 0, .bool false, .int .i64 1])] (fun b2 => [(6, .pointer (some ⟨b2, 0, none⟩))]) (fun b2 => [vec enc_Gref02_Piece 90 3 v2 r1, vec enc_Gref05_Piece 66 5 v5 out4, cells b2 [.int .i64 0, .int .i64 0, .int .i64 0, .bool false, .int .i64 0] 66]) mixed kr kr rfl dc dc (by rfl) kr kr (DrawPreX.cons ?_ (DrawPreX.cons ?_ (DrawPreX.cons ?_ (DrawPreX.cons ?_ (DrawPreX.cons ?_ (DrawPreX.cons ?_ (DrawPreX.cons ?_ (DrawPreX.cons ?_ (DrawPreX.cons ?_ (DrawPreX.cons ?_ (DrawPreX.cons ?_ (DrawPreX.cons ?_ (DrawPreX.cons ?_ (DrawPreX.cons ?_ (DrawPreX.cons ?_ (DrawPreX.cons ?_ (DrawPreX.cons ?_ (DrawPreX.cons ?_ (DrawPreX.here DrawPreX.nil))))))))))))))))))) (fun b2 => (DrawPreX.cons ?_ (DrawPreX.cons ?_ (DrawPreX.cons ?_ (DrawPreX.cons ?_ (DrawPreX.cons ?_ (DrawPreX.cons ?_ (DrawPreX.cons ?_ (DrawPreX.cons ?_ (DrawPreX.cons ?_ (DrawPreX.cons ?_ (DrawPreX.cons ?_ (DrawPreX.cons ?_ (DrawPreX.cons ?_ (DrawPreX.cons ?_ (DrawPreX.cons ?_ (DrawPreX.cons ?_ (DrawPreX.cons ?_ (DrawPreX.cons ?_ (DrawPreX.here DrawPreX.nil)))))))))))))))))))) ?_ ?_
     ·
      intro D hn hd hcl hu hi
      refine TO.move rfl dc (dl_old (by rfl) rfl) ?_
      exact TX.quiet 0 hu hi rfl
     ·
      intro D hn hd hcl hu hi
      refine TO.move rfl dc (dl_old (by rfl) rfl) ?_
      exact TX.quiet 1 hu hi rfl
     ·
      intro D hn hd hcl hu hi
      refine TO.indexVecI (k := 0) hq2 Try.underlying87 sz_90 rfl dc (dl_lookup (m := 0) hu rfl (hd 0 dc)) (dl_lookup (m := 1) hu rfl (hd 1 dc)) rfl rfl ?_
      exact TX.quiet 2 hu hi rfl
     ·
      intro D hn hd hcl hu hi
      refine TO.fieldAddr fl_90_0 rfl dc (dl_lookup (m := 2) hu rfl (hd 2 dc)) (show _ = ((i3 : Int).toNat) * 3 from rfl) ?_
      exact TX.quiet 3 hu hi rfl
     ·
      intro D hn hd hcl hu hi
      refine TO.loadVec (i := (i3 : Int).toNat) (j := 0) (k := 0) (q := q1) sc_3 enc_Gref02_Piece_len rfl dc (dl_lookup (m := 3) hu rfl (hd 3 dc)) rfl (getO_get hq2) rfl dc rfl ?_
      exact TX.quiet 4 hu hi rfl
     ·
      intro D hn hd hcl hu hi
      refine TO.move rfl dc (dl_old (by rfl) rfl) ?_
      exact TX.quiet 5 hu hi rfl
     ·
      intro D hn hd hcl hu hi
      refine TO.move rfl dc (dl_old (by rfl) rfl) ?_
      exact TX.quiet 6 hu hi rfl
     ·
      intro D hn hd hcl hu hi
      refine TO.indexVecI (k := 0) hq2 Try.underlying87 sz_90 rfl dc (dl_lookup (m := 5) hu rfl (hd 5 dc)) (dl_lookup (m := 6) hu rfl (hd 6 dc)) rfl rfl ?_
      exact TX.quiet 7 hu hi rfl
     ·
      intro D hn hd hcl hu hi
      refine TO.fieldAddr fl_90_0 rfl dc (dl_lookup (m := 7) hu rfl (hd 7 dc)) (show _ = ((i3 : Int).toNat) * 3 from rfl) ?_
      exact TX.quiet 8 hu hi rfl
     ·
      intro D hn hd hcl hu hi
      refine TO.loadVec (i := (i3 : Int).toNat) (j := 0) (k := 0) (q := q1) sc_3 enc_Gref02_Piece_len rfl dc (dl_lookup (m := 8) hu rfl (hd 8 dc)) rfl (getO_get hq2) rfl dc rfl ?_
      exact TX.quiet 9 hu hi rfl
     ·
      intro D hn hd hcl hu hi
      refine TO.move rfl dc (dl_old (by rfl) rfl) ?_
      exact TX.quiet 10 hu hi rfl
     ·
      intro D hn hd hcl hu hi
      refine TO.move rfl dc (dl_old (by rfl) rfl) ?_
      exact TX.quiet 11 hu hi rfl
     ·
      intro D hn hd hcl hu hi
      refine TO.indexVecI (k := 0) hq2 Try.underlying87 sz_90 rfl dc (dl_lookup (m := 10) hu rfl (hd 10 dc)) (dl_lookup (m := 11) hu rfl (hd 11 dc)) rfl rfl ?_
      exact TX.quiet 12 hu hi rfl
     ·
      intro D hn hd hcl hu hi
      refine TO.fieldAddr fl_90_1 rfl dc (dl_lookup (m := 12) hu rfl (hd 12 dc)) (show _ = ((i3 : Int).toNat) * 3 + 1 from rfl) ?_
      exact TX.quiet 13 hu hi rfl
     ·
      intro D hn hd hcl hu hi
      refine TO.loadVec (i := (i3 : Int).toNat) (j := 1) (k := 0) (q := q1) sc_3 enc_Gref02_Piece_len rfl dc (dl_lookup (m := 13) hu rfl (hd 13 dc)) rfl (getO_get hq2) rfl dc rfl ?_
      exact TX.quiet 14 hu hi rfl
     ·
      intro D hn hd hcl hu hi
      refine TO.bin rfl dc (dl_lookup (m := 9) hu rfl (hd 9 dc)) (dl_lookup (m := 14) hu rfl (hd 14 dc)) (bin_add (r := q1.At + q1.Width) (IntWalk.i64_in _ hg1)) ?_
      exact TX.quiet 15 hu hi rfl
     ·
      intro D hn hd hcl hu hi
      refine TO.build (v := .agg #[.int .i64 q1.At, .int .i64 (q1.At + q1.Width)]) (ps := [(0, .tmp 19), (1, .tmp 30)]) rfl dc (evP.cons (dl_lookup (m := 4) hu rfl (hd 4 dc)) (evP.cons (dl_lookup (m := 15) hu rfl (hd 15 dc)) evP.nil)) (fun _ => by kernel_rfl) ?_
      exact TX.quiet 16 hu hi rfl
     ·
      intro D hn hd hcl hu hi
      refine TO.build (v := .agg #[.int .i64 q1.At, .int .i64 (q1.At + q1.Width), .int .i64 0, .bool false, .int .i64 1]) (ps := [(0, .tmp 31), (3, .const (.int .i64 1))]) rfl dc (evP.cons (dl_lookup (m := 16) hu rfl (hd 16 dc)) (evP.cons rfl evP.nil)) (fun _ => by kernel_rfl) ?_
      exact TX.quiet 17 hu hi rfl
     ·
      intro D hn hd hcl hu hi
      refine TO.move rfl dc (dl_old (by rfl) rfl) ?_
      exact TX.quiet 0 hu hi rfl
     ·
      intro D hn hd hcl hu hi
      refine TO.move rfl dc (dl_old (by rfl) rfl) ?_
      exact TX.quiet 1 hu hi rfl
     ·
      intro D hn hd hcl hu hi
      refine TO.indexVecI (k := 0) hq2 Try.underlying87 sz_90 rfl dc (dl_lookup (m := 0) hu rfl (hd 0 dc)) (dl_lookup (m := 1) hu rfl (hd 1 dc)) rfl rfl ?_
      exact TX.quiet 2 hu hi rfl
     ·
      intro D hn hd hcl hu hi
      refine TO.fieldAddr fl_90_0 rfl dc (dl_lookup (m := 2) hu rfl (hd 2 dc)) (show _ = ((i3 : Int).toNat) * 3 from rfl) ?_
      exact TX.quiet 3 hu hi rfl
     ·
      intro D hn hd hcl hu hi
      refine TO.loadVec (i := (i3 : Int).toNat) (j := 0) (k := 0) (q := q1) sc_3 enc_Gref02_Piece_len rfl dc (dl_lookup (m := 3) hu rfl (hd 3 dc)) rfl (getO_get hq2) rfl dc rfl ?_
      exact TX.quiet 4 hu hi rfl
     ·
      intro D hn hd hcl hu hi
      refine TO.move rfl dc (dl_old (by rfl) rfl) ?_
      exact TX.quiet 5 hu hi rfl
     ·
      intro D hn hd hcl hu hi
      refine TO.move rfl dc (dl_old (by rfl) rfl) ?_
      exact TX.quiet 6 hu hi rfl
     ·
      intro D hn hd hcl hu hi
      refine TO.indexVecI (k := 0) hq2 Try.underlying87 sz_90 rfl dc (dl_lookup (m := 5) hu rfl (hd 5 dc)) (dl_lookup (m := 6) hu rfl (hd 6 dc)) rfl rfl ?_
      exact TX.quiet 7 hu hi rfl
     ·
      intro D hn hd hcl hu hi
      refine TO.fieldAddr fl_90_0 rfl dc (dl_lookup (m := 7) hu rfl (hd 7 dc)) (show _ = ((i3 : Int).toNat) * 3 from rfl) ?_
      exact TX.quiet 8 hu hi rfl
     ·
      intro D hn hd hcl hu hi
      refine TO.loadVec (i := (i3 : Int).toNat) (j := 0) (k := 0) (q := q1) sc_3 enc_Gref02_Piece_len rfl dc (dl_lookup (m := 8) hu rfl (hd 8 dc)) rfl (getO_get hq2) rfl dc rfl ?_
      exact TX.quiet 9 hu hi rfl
     ·
      intro D hn hd hcl hu hi
      refine TO.move rfl dc (dl_old (by rfl) rfl) ?_
      exact TX.quiet 10 hu hi rfl
     ·
      intro D hn hd hcl hu hi
      refine TO.move rfl dc (dl_old (by rfl) rfl) ?_
      exact TX.quiet 11 hu hi rfl
     ·
      intro D hn hd hcl hu hi
      refine TO.indexVecI (k := 0) hq2 Try.underlying87 sz_90 rfl dc (dl_lookup (m := 10) hu rfl (hd 10 dc)) (dl_lookup (m := 11) hu rfl (hd 11 dc)) rfl rfl ?_
      exact TX.quiet 12 hu hi rfl
     ·
      intro D hn hd hcl hu hi
      refine TO.fieldAddr fl_90_1 rfl dc (dl_lookup (m := 12) hu rfl (hd 12 dc)) (show _ = ((i3 : Int).toNat) * 3 + 1 from rfl) ?_
      exact TX.quiet 13 hu hi rfl
     ·
      intro D hn hd hcl hu hi
      refine TO.loadVec (i := (i3 : Int).toNat) (j := 1) (k := 0) (q := q1) sc_3 enc_Gref02_Piece_len rfl dc (dl_lookup (m := 13) hu rfl (hd 13 dc)) rfl (getO_get hq2) rfl dc rfl ?_
      exact TX.quiet 14 hu hi rfl
     ·
      intro D hn hd hcl hu hi
      refine TO.bin rfl dc (dl_lookup (m := 9) hu rfl (hd 9 dc)) (dl_lookup (m := 14) hu rfl (hd 14 dc)) (bin_add (r := q1.At + q1.Width) (IntWalk.i64_in _ hg1)) ?_
      exact TX.quiet 15 hu hi rfl
     ·
      intro D hn hd hcl hu hi
      refine TO.build (v := .agg #[.int .i64 q1.At, .int .i64 (q1.At + q1.Width)]) (ps := [(0, .tmp 19), (1, .tmp 30)]) rfl dc (evP.cons (dl_lookup (m := 4) hu rfl (hd 4 dc)) (evP.cons (dl_lookup (m := 15) hu rfl (hd 15 dc)) evP.nil)) (fun _ => by kernel_rfl) ?_
      exact TX.quiet 16 hu hi rfl
     ·
      intro D hn hd hcl hu hi
      refine TO.build (v := .agg #[.int .i64 q1.At, .int .i64 (q1.At + q1.Width), .int .i64 0, .bool false, .int .i64 1]) (ps := [(0, .tmp 31), (3, .const (.int .i64 1))]) rfl dc (evP.cons (dl_lookup (m := 16) hu rfl (hd 16 dc)) (evP.cons rfl evP.nil)) (fun _ => by kernel_rfl) ?_
      exact TX.quiet 17 hu hi rfl
     ·
      intro D hn hd hcl
      refine TO.alloc zr_66 rfl dc (fun b2 => ?_)
      exact fun a w ha hw => ⟨b2, Sbs.mid (by rfl) _ _ _ ha, hw⟩
     intro b2
     show TO _ _ _ _ _ _ _ _ _ _ [vec enc_Gref02_Piece 90 3 v2 r1, vec enc_Gref05_Piece 66 5 v5 out4, cells b2 [.int .i64 0, .int .i64 0, .int .i64 0, .bool false, .int .i64 0] 66]
     refine TO.stores (k := 2) (vs := [.int .i64 q1.At, .int .i64 (q1.At + q1.Width), .int .i64 0, .bool false, .int .i64 1]) (l' := [.int .i64 q1.At, .int .i64 (q1.At + q1.Width), .int .i64 0, .bool false, .int .i64 1]) sz_66 rfl rfl rfl rfl rfl (show _ ≤ _ by simp) rfl rfl (TO.nil (TX.next (cut (TC.block (TC.seq (TC.region (TO.move rfl dc rfl (TO.move rfl dc rfl ?_))))))))
     obtain ⟨q2, hq3, h⟩ := andE h
     refine TO.indexVecI (k := 0) hq3 Try.underlying87 sz_90 rfl dc rfl rfl rfl rfl (TO.fieldAddr fl_90_2 rfl dc rfl (show _ = ((i3 : Int).toNat) * 3 + 2 from rfl) (TO.loadVec (i := (i3 : Int).toNat) (j := 2) (k := 0) (q := q2) sc_21 enc_Gref02_Piece_len rfl dc rfl rfl (getO_get hq3) rfl dc rfl (TO.bin rfl dc rfl rfl bin_eql (TO.move rfl dc rfl ?_))))
     refine TO.split (s := 81) rfl (fun hb2 => ?_) (fun hb2 => ?_)
     ·
      have h := condT hb2 h
      refine TO.move rfl dc rfl (TO.move rfl dc rfl (TO.indexVecI (k := 0) hq3 Try.underlying87 sz_90 rfl dc rfl rfl rfl rfl (TO.fieldAddr fl_90_1 rfl dc rfl (show _ = ((i3 : Int).toNat) * 3 + 1 from rfl) (TO.loadVec (i := (i3 : Int).toNat) (j := 1) (k := 0) (q := q2) sc_3 enc_Gref02_Piece_len rfl dc rfl rfl (getO_get hq3) rfl dc rfl (TO.bin rfl dc rfl rfl bin_eql (TO.pick (b := true) rfl dc rfl rfl (TO.assign rfl dc rfl (TO.nil (TX.next ?_)))))))))
      refine TC.condB rfl (fun hb3 => ?_) (fun hb3 => ?_)
      ·
       have h := condT hb3 h
       refine TC.region (TO.fieldAddr fl_66_1 rfl dc rfl (show _ = 2 from rfl) ?_)
       refine TO.store (k := 2) (l' := [.int .i64 q1.At, .int .i64 (q1.At + q1.Width), .int .i64 11, .bool false, .int .i64 1]) sz_3 rfl rfl rfl rfl rfl (fun _ _ => rfl) rfl ?_
       show TO _ _ _ _ _ _ _ _ _ _ [vec enc_Gref02_Piece 90 3 v2 r1, vec enc_Gref05_Piece 66 5 v5 out4, cells b2 [.int .i64 q1.At, .int .i64 (q1.At + q1.Width), .int .i64 11, .bool false, .int .i64 1] 66]
       refine TO.nil (TX.blockNormal ?_)
       exact TX.meetD (q1.At, q1.At + q1.Width, 11, false, 1, b2) h rfl (Sbs.cons rfl (Sbs.cons rfl (Sbs.cons rfl (Sbs.cons rfl (Sbs.nil))))) (Splits.of [0, 1, 2] kr rfl)
      ·
       have h := condF hb3 h
       refine TC.seq (TC.region (TO.move rfl dc rfl (TO.move rfl dc rfl ?_)))
       obtain ⟨q3, hq4, h⟩ := andE h
       refine TO.indexVecI (k := 0) hq4 Try.underlying87 sz_90 rfl dc rfl rfl rfl rfl (TO.fieldAddr fl_90_2 rfl dc rfl (show _ = ((i3 : Int).toNat) * 3 + 2 from rfl) (TO.loadVec (i := (i3 : Int).toNat) (j := 2) (k := 0) (q := q3) sc_21 enc_Gref02_Piece_len rfl dc rfl rfl (getO_get hq4) rfl dc rfl ?_))
       obtain ⟨hg2, h⟩ := grdE h
       refine TO.callP (v := .int .i64 (kind q3.Rune)) (vs := [.int .i32 q3.Rune]) rfl dc rfl rfl rfl en_37 (FnP.of_same fun w => rkind_any q3.Rune w hg2.1 hg2.2) ?_
       refine TO.fieldAddr fl_66_1 rfl dc rfl (show _ = 2 from rfl) ?_
       refine TO.store (k := 2) (l' := [.int .i64 q1.At, .int .i64 (q1.At + q1.Width), .int .i64 (kind q3.Rune), .bool false, .int .i64 1]) sz_3 rfl rfl rfl rfl rfl (fun _ _ => rfl) rfl ?_
       show TO _ _ _ _ _ _ _ _ _ _ [vec enc_Gref02_Piece 90 3 v2 r1, vec enc_Gref05_Piece 66 5 v5 out4, cells b2 [.int .i64 q1.At, .int .i64 (q1.At + q1.Width), .int .i64 (kind q3.Rune), .bool false, .int .i64 1] 66]
       refine TO.nil (TX.next (TC.seq (TC.region (TO.move rfl dc rfl (TO.move rfl dc rfl ?_)))))
       obtain ⟨q4, hq5, h⟩ := andE h
       refine TO.indexVecI (k := 0) hq5 Try.underlying87 sz_90 rfl dc rfl rfl rfl rfl (TO.fieldAddr fl_90_2 rfl dc rfl (show _ = ((i3 : Int).toNat) * 3 + 2 from rfl) (TO.loadVec (i := (i3 : Int).toNat) (j := 2) (k := 0) (q := q4) sc_21 enc_Gref02_Piece_len rfl dc rfl rfl (getO_get hq5) rfl dc rfl (TO.bin rfl dc rfl rfl bin_eql (TO.fieldAddr fl_66_2 rfl dc rfl (show _ = 3 from rfl) ?_))))
       refine TO.store (k := 2) (l' := [.int .i64 q1.At, .int .i64 (q1.At + q1.Width), .int .i64 (kind q3.Rune), .bool ((q4.Rune : Int) == 8205), .int .i64 1]) sz_4 rfl rfl rfl rfl rfl (fun _ _ => rfl) rfl ?_
       refine TO.nil (TX.next (TC.block (TC.seq (TC.region (TO.fieldAddr fl_66_2 rfl dc rfl (show _ = 3 from rfl) (TO.load (k := 2) sc_4 rfl dc rfl rfl rfl (TO.move rfl dc rfl ?_)))))))
       refine TO.split (s := 50) rfl (fun hb4 => ?_) (fun hb4 => ?_)
       ·
        have h := condT hb4 h
        refine TO.skip rfl dc (TO.skip rfl dc (TO.skip rfl dc (TO.pick (b := true) rfl dc rfl rfl (TO.move rfl dc rfl (TO.skip rfl dc (TO.skip rfl dc (TO.skip rfl dc (TO.pick (b := true) rfl dc rfl rfl (TO.move rfl dc rfl (TO.skip rfl dc (TO.skip rfl dc (TO.skip rfl dc (TO.pick (b := true) rfl dc rfl rfl ?_)))))))))))))
        refine TO.assign rfl dc rfl (TO.nil (TX.next (TC.condT rfl (TC.region (TO.fieldAddr fl_66_3 rfl dc rfl (show _ = 4 from rfl) ?_)))))
        refine TO.store (k := 2) (l' := [.int .i64 q1.At, .int .i64 (q1.At + q1.Width), .int .i64 (kind q3.Rune), .bool ((q4.Rune : Int) == 8205), .int .i64 0]) sz_3 rfl rfl rfl rfl rfl (fun _ _ => rfl) rfl ?_
        show TO _ _ _ _ _ _ _ _ _ _ [vec enc_Gref02_Piece 90 3 v2 r1, vec enc_Gref05_Piece 66 5 v5 out4, cells b2 [.int .i64 q1.At, .int .i64 (q1.At + q1.Width), .int .i64 (kind q3.Rune), .bool ((q4.Rune : Int) == 8205), .int .i64 0] 66]
        refine TO.nil (TX.blockNormal (TX.blockNormal ?_))
        exact TX.meetD (q1.At, q1.At + q1.Width, kind q3.Rune, (q4.Rune : Int) == 8205, 0, b2) h rfl (Sbs.cons rfl (Sbs.cons rfl (Sbs.cons rfl (Sbs.cons rfl (Sbs.nil))))) (Splits.of [0, 1, 2] kr rfl)
       ·
        have h := condF hb4 h
        refine TO.fieldAddr fl_66_1 rfl dc rfl (show _ = 2 from rfl) (TO.load (k := 2) sc_3 rfl dc rfl rfl rfl (TO.bin rfl dc rfl rfl bin_eql (TO.pick (b := false) rfl dc rfl rfl (TO.move rfl dc rfl ?_))))
        refine TO.split (s := 55) rfl (fun hb5 => ?_) (fun hb5 => ?_)
        ·
         have h := condT hb5 h
         refine TO.skip rfl dc (TO.skip rfl dc (TO.skip rfl dc (TO.pick (b := true) rfl dc rfl rfl (TO.move rfl dc rfl (TO.skip rfl dc (TO.skip rfl dc (TO.skip rfl dc (TO.pick (b := true) rfl dc rfl rfl (TO.assign rfl dc rfl (TO.nil (TX.next (TC.condT rfl (TC.region ?_)))))))))))))
         refine TO.fieldAddr fl_66_3 rfl dc rfl (show _ = 4 from rfl) ?_
         refine TO.store (k := 2) (l' := [.int .i64 q1.At, .int .i64 (q1.At + q1.Width), .int .i64 (kind q3.Rune), .bool ((q4.Rune : Int) == 8205), .int .i64 0]) sz_3 rfl rfl rfl rfl rfl (fun _ _ => rfl) rfl ?_
         show TO _ _ _ _ _ _ _ _ _ _ [vec enc_Gref02_Piece 90 3 v2 r1, vec enc_Gref05_Piece 66 5 v5 out4, cells b2 [.int .i64 q1.At, .int .i64 (q1.At + q1.Width), .int .i64 (kind q3.Rune), .bool ((q4.Rune : Int) == 8205), .int .i64 0] 66]
         refine TO.nil (TX.blockNormal (TX.blockNormal ?_))
         exact TX.meetD (q1.At, q1.At + q1.Width, kind q3.Rune, (q4.Rune : Int) == 8205, 0, b2) h rfl (Sbs.cons rfl (Sbs.cons rfl (Sbs.cons rfl (Sbs.cons rfl (Sbs.nil))))) (Splits.of [0, 1, 2] kr rfl)
        ·
         have h := condF hb5 h
         refine TO.fieldAddr fl_66_1 rfl dc rfl (show _ = 2 from rfl) (TO.load (k := 2) sc_3 rfl dc rfl rfl rfl (TO.bin rfl dc rfl rfl bin_eql (TO.pick (b := false) rfl dc rfl rfl (TO.move rfl dc rfl ?_))))
         refine TO.split (s := 60) rfl (fun hb6 => ?_) (fun hb6 => ?_)
         ·
          have h := condT hb6 h
          refine TO.skip rfl dc (TO.skip rfl dc (TO.skip rfl dc (TO.pick (b := true) rfl dc rfl rfl (TO.assign rfl dc rfl (TO.nil (TX.next (TC.condT rfl (TC.region (TO.fieldAddr fl_66_3 rfl dc rfl (show _ = 4 from rfl) ?_)))))))))
          refine TO.store (k := 2) (l' := [.int .i64 q1.At, .int .i64 (q1.At + q1.Width), .int .i64 (kind q3.Rune), .bool ((q4.Rune : Int) == 8205), .int .i64 0]) sz_3 rfl rfl rfl rfl rfl (fun _ _ => rfl) rfl ?_
          show TO _ _ _ _ _ _ _ _ _ _ [vec enc_Gref02_Piece 90 3 v2 r1, vec enc_Gref05_Piece 66 5 v5 out4, cells b2 [.int .i64 q1.At, .int .i64 (q1.At + q1.Width), .int .i64 (kind q3.Rune), .bool ((q4.Rune : Int) == 8205), .int .i64 0] 66]
          refine TO.nil (TX.blockNormal (TX.blockNormal ?_))
          exact TX.meetD (q1.At, q1.At + q1.Width, kind q3.Rune, (q4.Rune : Int) == 8205, 0, b2) h rfl (Sbs.cons rfl (Sbs.cons rfl (Sbs.cons rfl (Sbs.cons rfl (Sbs.nil))))) (Splits.of [0, 1, 2] kr rfl)
         ·
          have h := condF hb6 h
          refine TO.fieldAddr fl_66_1 rfl dc rfl (show _ = 2 from rfl) (TO.load (k := 2) sc_3 rfl dc rfl rfl rfl (TO.bin rfl dc rfl rfl bin_eql (TO.pick (b := false) rfl dc rfl rfl (TO.assign rfl dc rfl (TO.nil (TX.next ?_))))))
          refine TC.condB rfl (fun hb7 => ?_) (fun hb7 => ?_)
          ·
           have h := condT hb7 h
           refine TC.region (TO.fieldAddr fl_66_3 rfl dc rfl (show _ = 4 from rfl) ?_)
           refine TO.store (k := 2) (l' := [.int .i64 q1.At, .int .i64 (q1.At + q1.Width), .int .i64 (kind q3.Rune), .bool ((q4.Rune : Int) == 8205), .int .i64 0]) sz_3 rfl rfl rfl rfl rfl (fun _ _ => rfl) rfl ?_
           show TO _ _ _ _ _ _ _ _ _ _ [vec enc_Gref02_Piece 90 3 v2 r1, vec enc_Gref05_Piece 66 5 v5 out4, cells b2 [.int .i64 q1.At, .int .i64 (q1.At + q1.Width), .int .i64 (kind q3.Rune), .bool ((q4.Rune : Int) == 8205), .int .i64 0] 66]
           refine TO.nil (TX.blockNormal (TX.blockNormal ?_))
           exact TX.meetD (q1.At, q1.At + q1.Width, kind q3.Rune, (q4.Rune : Int) == 8205, 0, b2) h rfl (Sbs.cons rfl (Sbs.cons rfl (Sbs.cons rfl (Sbs.cons rfl (Sbs.nil))))) (Splits.of [0, 1, 2] kr rfl)
          ·
           have h := condF hb7 h
           refine TC.seq (TC.region (TO.move rfl dc rfl (TO.move rfl dc rfl ?_)))
           obtain ⟨q5, hq6, h⟩ := andE h
           refine TO.indexVecI (k := 0) hq6 Try.underlying87 sz_90 rfl dc rfl rfl rfl rfl (TO.fieldAddr fl_90_2 rfl dc rfl (show _ = ((i3 : Int).toNat) * 3 + 2 from rfl) (TO.loadVec (i := (i3 : Int).toNat) (j := 2) (k := 0) (q := q5) sc_21 enc_Gref02_Piece_len rfl dc rfl rfl (getO_get hq6) rfl dc rfl ?_))
           obtain ⟨r2, hq7, h⟩ := andE h
           refine TO.callP (v := .bool r2) (vs := [.int .i32 q5.Rune]) rfl dc rfl rfl rfl en_38 (ref05_wide_fn hq7) (TO.assign rfl dc rfl (TO.nil (TX.next ?_)))
           refine TC.condB rfl (fun hb8 => ?_) (fun hb8 => ?_)
           ·
            have h := condT hb8 h
            refine TC.region (TO.fieldAddr fl_66_3 rfl dc rfl (show _ = 4 from rfl) ?_)
            refine TO.store (k := 2) (l' := [.int .i64 q1.At, .int .i64 (q1.At + q1.Width), .int .i64 (kind q3.Rune), .bool ((q4.Rune : Int) == 8205), .int .i64 2]) sz_3 rfl rfl rfl rfl rfl (fun _ _ => rfl) rfl ?_
            show TO _ _ _ _ _ _ _ _ _ _ [vec enc_Gref02_Piece 90 3 v2 r1, vec enc_Gref05_Piece 66 5 v5 out4, cells b2 [.int .i64 q1.At, .int .i64 (q1.At + q1.Width), .int .i64 (kind q3.Rune), .bool ((q4.Rune : Int) == 8205), .int .i64 2] 66]
            refine TO.nil (TX.blockNormal (TX.blockNormal ?_))
            exact TX.meetD (q1.At, q1.At + q1.Width, kind q3.Rune, (q4.Rune : Int) == 8205, 2, b2) h rfl (Sbs.cons rfl (Sbs.cons rfl (Sbs.cons rfl (Sbs.cons rfl (Sbs.nil))))) (Splits.of [0, 1, 2] kr rfl)
           ·
            have h := condF hb8 h
            refine TC.skip (TX.blockNormal (TX.blockNormal ?_))
            exact TX.meetD (q1.At, q1.At + q1.Width, kind q3.Rune, (q4.Rune : Int) == 8205, 1, b2) h rfl (Sbs.cons rfl (Sbs.cons rfl (Sbs.cons rfl (Sbs.cons rfl (Sbs.nil))))) (Splits.of [0, 1, 2] kr rfl)
     ·
      have h := condF hb2 h
      refine TO.skip rfl dc (TO.skip rfl dc (TO.skip rfl dc (TO.skip rfl dc (TO.skip rfl dc (TO.skip rfl dc (TO.pick (b := false) rfl dc rfl rfl (TO.assign rfl dc rfl (TO.nil (TX.next (TC.condF rfl (TC.seq (TC.region (TO.move rfl dc rfl ?_)))))))))))))
      refine TO.move rfl dc rfl ?_
      obtain ⟨q6, hq8, h⟩ := andE h
      refine TO.indexVecI (k := 0) hq8 Try.underlying87 sz_90 rfl dc rfl rfl rfl rfl (TO.fieldAddr fl_90_2 rfl dc rfl (show _ = ((i3 : Int).toNat) * 3 + 2 from rfl) (TO.loadVec (i := (i3 : Int).toNat) (j := 2) (k := 0) (q := q6) sc_21 enc_Gref02_Piece_len rfl dc rfl rfl (getO_get hq8) rfl dc rfl ?_))
      obtain ⟨hg3, h⟩ := grdE h
      refine TO.callP (v := .int .i64 (kind q6.Rune)) (vs := [.int .i32 q6.Rune]) rfl dc rfl rfl rfl en_37 (FnP.of_same fun w => rkind_any q6.Rune w hg3.1 hg3.2) ?_
      refine TO.fieldAddr fl_66_1 rfl dc rfl (show _ = 2 from rfl) ?_
      refine TO.store (k := 2) (l' := [.int .i64 q1.At, .int .i64 (q1.At + q1.Width), .int .i64 (kind q6.Rune), .bool false, .int .i64 1]) sz_3 rfl rfl rfl rfl rfl (fun _ _ => rfl) rfl ?_
      show TO _ _ _ _ _ _ _ _ _ _ [vec enc_Gref02_Piece 90 3 v2 r1, vec enc_Gref05_Piece 66 5 v5 out4, cells b2 [.int .i64 q1.At, .int .i64 (q1.At + q1.Width), .int .i64 (kind q6.Rune), .bool false, .int .i64 1] 66]
      refine TO.nil (TX.next (TC.seq (TC.region (TO.move rfl dc rfl (TO.move rfl dc rfl ?_)))))
      obtain ⟨q7, hq9, h⟩ := andE h
      refine TO.indexVecI (k := 0) hq9 Try.underlying87 sz_90 rfl dc rfl rfl rfl rfl (TO.fieldAddr fl_90_2 rfl dc rfl (show _ = ((i3 : Int).toNat) * 3 + 2 from rfl) (TO.loadVec (i := (i3 : Int).toNat) (j := 2) (k := 0) (q := q7) sc_21 enc_Gref02_Piece_len rfl dc rfl rfl (getO_get hq9) rfl dc rfl (TO.bin rfl dc rfl rfl bin_eql (TO.fieldAddr fl_66_2 rfl dc rfl (show _ = 3 from rfl) ?_))))
      refine TO.store (k := 2) (l' := [.int .i64 q1.At, .int .i64 (q1.At + q1.Width), .int .i64 (kind q6.Rune), .bool ((q7.Rune : Int) == 8205), .int .i64 1]) sz_4 rfl rfl rfl rfl rfl (fun _ _ => rfl) rfl ?_
      refine TO.nil (TX.next (TC.block (TC.seq (TC.region (TO.fieldAddr fl_66_2 rfl dc rfl (show _ = 3 from rfl) (TO.load (k := 2) sc_4 rfl dc rfl rfl rfl (TO.move rfl dc rfl ?_)))))))
      refine TO.split (s := 50) rfl (fun hb9 => ?_) (fun hb9 => ?_)
      ·
       have h := condT hb9 h
       refine TO.skip rfl dc (TO.skip rfl dc (TO.skip rfl dc (TO.pick (b := true) rfl dc rfl rfl (TO.move rfl dc rfl (TO.skip rfl dc (TO.skip rfl dc (TO.skip rfl dc (TO.pick (b := true) rfl dc rfl rfl (TO.move rfl dc rfl (TO.skip rfl dc (TO.skip rfl dc (TO.skip rfl dc (TO.pick (b := true) rfl dc rfl rfl ?_)))))))))))))
       refine TO.assign rfl dc rfl (TO.nil (TX.next (TC.condT rfl (TC.region (TO.fieldAddr fl_66_3 rfl dc rfl (show _ = 4 from rfl) ?_)))))
       refine TO.store (k := 2) (l' := [.int .i64 q1.At, .int .i64 (q1.At + q1.Width), .int .i64 (kind q6.Rune), .bool ((q7.Rune : Int) == 8205), .int .i64 0]) sz_3 rfl rfl rfl rfl rfl (fun _ _ => rfl) rfl ?_
       show TO _ _ _ _ _ _ _ _ _ _ [vec enc_Gref02_Piece 90 3 v2 r1, vec enc_Gref05_Piece 66 5 v5 out4, cells b2 [.int .i64 q1.At, .int .i64 (q1.At + q1.Width), .int .i64 (kind q6.Rune), .bool ((q7.Rune : Int) == 8205), .int .i64 0] 66]
       refine TO.nil (TX.blockNormal (TX.blockNormal ?_))
       exact TX.meetD (q1.At, q1.At + q1.Width, kind q6.Rune, (q7.Rune : Int) == 8205, 0, b2) h rfl (Sbs.cons rfl (Sbs.cons rfl (Sbs.cons rfl (Sbs.cons rfl (Sbs.nil))))) (Splits.of [0, 1, 2] kr rfl)
      ·
       have h := condF hb9 h
       refine TO.fieldAddr fl_66_1 rfl dc rfl (show _ = 2 from rfl) (TO.load (k := 2) sc_3 rfl dc rfl rfl rfl (TO.bin rfl dc rfl rfl bin_eql (TO.pick (b := false) rfl dc rfl rfl (TO.move rfl dc rfl ?_))))
       refine TO.split (s := 55) rfl (fun hb10 => ?_) (fun hb10 => ?_)
       ·
        have h := condT hb10 h
        refine TO.skip rfl dc (TO.skip rfl dc (TO.skip rfl dc (TO.pick (b := true) rfl dc rfl rfl (TO.move rfl dc rfl (TO.skip rfl dc (TO.skip rfl dc (TO.skip rfl dc (TO.pick (b := true) rfl dc rfl rfl (TO.assign rfl dc rfl (TO.nil (TX.next (TC.condT rfl (TC.region ?_)))))))))))))
        refine TO.fieldAddr fl_66_3 rfl dc rfl (show _ = 4 from rfl) ?_
        refine TO.store (k := 2) (l' := [.int .i64 q1.At, .int .i64 (q1.At + q1.Width), .int .i64 (kind q6.Rune), .bool ((q7.Rune : Int) == 8205), .int .i64 0]) sz_3 rfl rfl rfl rfl rfl (fun _ _ => rfl) rfl ?_
        show TO _ _ _ _ _ _ _ _ _ _ [vec enc_Gref02_Piece 90 3 v2 r1, vec enc_Gref05_Piece 66 5 v5 out4, cells b2 [.int .i64 q1.At, .int .i64 (q1.At + q1.Width), .int .i64 (kind q6.Rune), .bool ((q7.Rune : Int) == 8205), .int .i64 0] 66]
        refine TO.nil (TX.blockNormal (TX.blockNormal ?_))
        exact TX.meetD (q1.At, q1.At + q1.Width, kind q6.Rune, (q7.Rune : Int) == 8205, 0, b2) h rfl (Sbs.cons rfl (Sbs.cons rfl (Sbs.cons rfl (Sbs.cons rfl (Sbs.nil))))) (Splits.of [0, 1, 2] kr rfl)
       ·
        have h := condF hb10 h
        refine TO.fieldAddr fl_66_1 rfl dc rfl (show _ = 2 from rfl) (TO.load (k := 2) sc_3 rfl dc rfl rfl rfl (TO.bin rfl dc rfl rfl bin_eql (TO.pick (b := false) rfl dc rfl rfl (TO.move rfl dc rfl ?_))))
        refine TO.split (s := 60) rfl (fun hb11 => ?_) (fun hb11 => ?_)
        ·
         have h := condT hb11 h
         refine TO.skip rfl dc (TO.skip rfl dc (TO.skip rfl dc (TO.pick (b := true) rfl dc rfl rfl (TO.assign rfl dc rfl (TO.nil (TX.next (TC.condT rfl (TC.region (TO.fieldAddr fl_66_3 rfl dc rfl (show _ = 4 from rfl) ?_)))))))))
         refine TO.store (k := 2) (l' := [.int .i64 q1.At, .int .i64 (q1.At + q1.Width), .int .i64 (kind q6.Rune), .bool ((q7.Rune : Int) == 8205), .int .i64 0]) sz_3 rfl rfl rfl rfl rfl (fun _ _ => rfl) rfl ?_
         show TO _ _ _ _ _ _ _ _ _ _ [vec enc_Gref02_Piece 90 3 v2 r1, vec enc_Gref05_Piece 66 5 v5 out4, cells b2 [.int .i64 q1.At, .int .i64 (q1.At + q1.Width), .int .i64 (kind q6.Rune), .bool ((q7.Rune : Int) == 8205), .int .i64 0] 66]
         refine TO.nil (TX.blockNormal (TX.blockNormal ?_))
         exact TX.meetD (q1.At, q1.At + q1.Width, kind q6.Rune, (q7.Rune : Int) == 8205, 0, b2) h rfl (Sbs.cons rfl (Sbs.cons rfl (Sbs.cons rfl (Sbs.cons rfl (Sbs.nil))))) (Splits.of [0, 1, 2] kr rfl)
        ·
         have h := condF hb11 h
         refine TO.fieldAddr fl_66_1 rfl dc rfl (show _ = 2 from rfl) (TO.load (k := 2) sc_3 rfl dc rfl rfl rfl (TO.bin rfl dc rfl rfl bin_eql (TO.pick (b := false) rfl dc rfl rfl (TO.assign rfl dc rfl (TO.nil (TX.next ?_))))))
         refine TC.condB rfl (fun hb12 => ?_) (fun hb12 => ?_)
         ·
          have h := condT hb12 h
          refine TC.region (TO.fieldAddr fl_66_3 rfl dc rfl (show _ = 4 from rfl) ?_)
          refine TO.store (k := 2) (l' := [.int .i64 q1.At, .int .i64 (q1.At + q1.Width), .int .i64 (kind q6.Rune), .bool ((q7.Rune : Int) == 8205), .int .i64 0]) sz_3 rfl rfl rfl rfl rfl (fun _ _ => rfl) rfl ?_
          show TO _ _ _ _ _ _ _ _ _ _ [vec enc_Gref02_Piece 90 3 v2 r1, vec enc_Gref05_Piece 66 5 v5 out4, cells b2 [.int .i64 q1.At, .int .i64 (q1.At + q1.Width), .int .i64 (kind q6.Rune), .bool ((q7.Rune : Int) == 8205), .int .i64 0] 66]
          refine TO.nil (TX.blockNormal (TX.blockNormal ?_))
          exact TX.meetD (q1.At, q1.At + q1.Width, kind q6.Rune, (q7.Rune : Int) == 8205, 0, b2) h rfl (Sbs.cons rfl (Sbs.cons rfl (Sbs.cons rfl (Sbs.cons rfl (Sbs.nil))))) (Splits.of [0, 1, 2] kr rfl)
         ·
          have h := condF hb12 h
          refine TC.seq (TC.region (TO.move rfl dc rfl (TO.move rfl dc rfl ?_)))
          obtain ⟨q8, hq10, h⟩ := andE h
          refine TO.indexVecI (k := 0) hq10 Try.underlying87 sz_90 rfl dc rfl rfl rfl rfl (TO.fieldAddr fl_90_2 rfl dc rfl (show _ = ((i3 : Int).toNat) * 3 + 2 from rfl) (TO.loadVec (i := (i3 : Int).toNat) (j := 2) (k := 0) (q := q8) sc_21 enc_Gref02_Piece_len rfl dc rfl rfl (getO_get hq10) rfl dc rfl ?_))
          obtain ⟨r3, hq11, h⟩ := andE h
          refine TO.callP (v := .bool r3) (vs := [.int .i32 q8.Rune]) rfl dc rfl rfl rfl en_38 (ref05_wide_fn hq11) (TO.assign rfl dc rfl (TO.nil (TX.next ?_)))
          refine TC.condB rfl (fun hb13 => ?_) (fun hb13 => ?_)
          ·
           have h := condT hb13 h
           refine TC.region (TO.fieldAddr fl_66_3 rfl dc rfl (show _ = 4 from rfl) ?_)
           refine TO.store (k := 2) (l' := [.int .i64 q1.At, .int .i64 (q1.At + q1.Width), .int .i64 (kind q6.Rune), .bool ((q7.Rune : Int) == 8205), .int .i64 2]) sz_3 rfl rfl rfl rfl rfl (fun _ _ => rfl) rfl ?_
           show TO _ _ _ _ _ _ _ _ _ _ [vec enc_Gref02_Piece 90 3 v2 r1, vec enc_Gref05_Piece 66 5 v5 out4, cells b2 [.int .i64 q1.At, .int .i64 (q1.At + q1.Width), .int .i64 (kind q6.Rune), .bool ((q7.Rune : Int) == 8205), .int .i64 2] 66]
           refine TO.nil (TX.blockNormal (TX.blockNormal ?_))
           exact TX.meetD (q1.At, q1.At + q1.Width, kind q6.Rune, (q7.Rune : Int) == 8205, 2, b2) h rfl (Sbs.cons rfl (Sbs.cons rfl (Sbs.cons rfl (Sbs.cons rfl (Sbs.nil))))) (Splits.of [0, 1, 2] kr rfl)
          ·
           have h := condF hb13 h
           refine TC.skip (TX.blockNormal (TX.blockNormal ?_))
           exact TX.meetD (q1.At, q1.At + q1.Width, kind q6.Rune, (q7.Rune : Int) == 8205, 1, b2) h rfl (Sbs.cons rfl (Sbs.cons rfl (Sbs.cons rfl (Sbs.cons rfl (Sbs.nil))))) (Splits.of [0, 1, 2] kr rfl)
    ·
     rintro ⟨p1, p2, p3, p4, p5, b1⟩ h
     rw [hj2] at h
     show TC _ _ _ _ _ ([]) _ _ [(3, v2), (4, v5), (5, .int .i64 i3), (6, .pointer (some ⟨b1, 0, none⟩))] [vec enc_Gref02_Piece 90 3 v2 r1, vec enc_Gref05_Piece 66 5 v5 out4, cells b1 [.int .i64 p1, .int .i64 p2, .int .i64 p3, .bool p4, .int .i64 p5] 66]
     refine TC.region (TO.move rfl dc rfl (TO.loads (k := 2) (cs := [.int .i64 p1, .int .i64 p2, .int .i64 p3, .bool p4, .int .i64 p5]) rw_66 rfl dc rfl rfl rfl rfl ?_))
     refine TO.buildSlice (cs := [.int .i64 p1, .int .i64 p2, .int .i64 p3, .bool p4, .int .i64 p5]) (te := 66) (ps := [(0, .tmp 91)]) rfl dc rfl (fun _ => by kernel_rfl) (fun b3 => ?_)
     obtain ⟨hg4, h⟩ := grdE h
     refine TO.appendVec (k := 1) (k2 := 3) (ys := [(⟨p1, p2, p3, p4, p5⟩ : Gref05_Piece)]) Try.underlying63 el_66 enc_Gref05_Piece_len enc_Gref05_Piece_one rfl dc rfl rfl rfl rfl rfl rfl hg4 (fun v6 => ?_)
     show TO _ _ _ _ _ _ _ _ _ _ [vec enc_Gref02_Piece 90 3 v2 r1, vec enc_Gref05_Piece 66 5 v6 (out4 ++ [(⟨p1, p2, p3, p4, p5⟩ : Gref05_Piece)]), cells b1 [.int .i64 p1, .int .i64 p2, .int .i64 p3, .bool p4, .int .i64 p5] 66, cells b3 [.int .i64 p1, .int .i64 p2, .int .i64 p3, .bool p4, .int .i64 p5] 66]
     refine TO.assign rfl dc rfl (TO.nil (TX.blockNormal (TX.next (TC.region (TO.move rfl dc rfl ?_)))))
     obtain ⟨hg5, h⟩ := grdE h
     refine TO.bin rfl dc rfl rfl (bin_add (r := i3 + 1) (IntWalk.i64_in _ hg5)) (TO.assign rfl dc rfl (TO.nil ?_))
     subst hag1
     exact TX.againD (n1, out4 ++ [(⟨p1, p2, p3, p4, p5⟩ : Gref05_Piece)], i3 + 1, v6) h (Nat.lt_succ_self _) rfl (Sbs.cons rfl (Sbs.cons rfl (Sbs.cons rfl (Sbs.nil)))) (Splits.of [0, 1] kr rfl)
   ·
    have h := condF hb1 h
    refine TC.exit (TX.thenExit (TX.thenExit (TX.blockHere ?_)))
    exact TX.meetD (out4, v5) h rfl (Sbs.cons rfl (Sbs.nil)) (Splits.of [1] kr rfl)
 ·
  rintro ⟨out1, v1⟩ h
  rw [hj1] at h
  show TC _ _ _ _ _ ([]) _ _ [(4, v1)] [vec enc_Gref05_Piece 66 5 v1 out1]
  refine TC.seq (TC.region (TO.move rfl dc rfl (TO.assign rfl dc rfl (TO.nil (TX.next (TC.ret ?_))))))
  cases h
  exact TX.fin (rs := [.tmp 2]) v1 (.inl rfl) Try.results26 (.cons (.tmp rfl) .nil) rfl (Splits.of [0] kr rfl)
def ref05_Cells_s2 (r1 : (List Gref05_Piece)) (j2 : Int → Option (List Gapi_Cell)) (q1 : Gref05_Piece) (ag2 : Int → Option (List Gapi_Cell)) (k4 : Int) : Option (List Gapi_Cell) := joinK (fun (j3 : Int → Bool → Bool → Bool → Bool → Bool → Option (List Gapi_Cell)) => bcond (decide ((k4 : Int) < (r1.length : Int))) ( andThen (getO r1 k4) fun (q4 : Gref05_Piece) => bcond ((q4.Kind : Int) == 2) ( j3 q4.Kind ((q4.Kind : Int) == 2) true true true true
) ( bcond (q4.Joiner) ( j3 q4.Kind ((q4.Kind : Int) == 2) false q4.Joiner true true
) ( bcond ((q1.Kind : Int) == 10) ( bcond ((q4.Kind : Int) == 10) ( grd (I64 (k4 - 1)) <| andThen (getO r1 (k4 - 1)) fun (q5 : Gref05_Piece) => bcond (q5.Joiner) ( j3 q4.Kind ((q4.Kind : Int) == 2) false q4.Joiner false q5.Joiner
) ( j2 k4
)
) ( j2 k4
)
) ( j2 k4
)
)
)
) ( j2 k4
)
) (fun (x1 : Int) (x2 : Bool) (x3 : Bool) (x4 : Bool) (x5 : Bool) (x6 : Bool) => grd (I64 (k4 + 1)) <| ag2 (k4 + 1)
)
def ref05_Cells_s3 (r1 : (List Gref05_Piece)) (j2 : Int → Option (List Gapi_Cell)) (q1 : Gref05_Piece) (ag3 : Int → Option (List Gapi_Cell)) (k7 : Int) : Option (List Gapi_Cell) := joinK (fun (j4 : Int → Bool → Bool → Bool → Bool → Bool → Option (List Gapi_Cell)) => bcond (decide ((k7 : Int) < (r1.length : Int))) ( andThen (getO r1 k7) fun (q6 : Gref05_Piece) => bcond ((q6.Kind : Int) == 2) ( j4 q6.Kind ((q6.Kind : Int) == 2) true true true true
) ( bcond (q6.Joiner) ( j4 q6.Kind ((q6.Kind : Int) == 2) false q6.Joiner true true
) ( bcond ((q1.Kind : Int) == 10) ( bcond ((q6.Kind : Int) == 10) ( grd (I64 (k7 - 1)) <| andThen (getO r1 (k7 - 1)) fun (q7 : Gref05_Piece) => bcond (q7.Joiner) ( j4 q6.Kind ((q6.Kind : Int) == 2) false q6.Joiner false q7.Joiner
) ( j2 k7
)
) ( j2 k7
)
) ( j2 k7
)
)
)
) ( j2 k7
)
) (fun (x7 : Int) (x8 : Bool) (x9 : Bool) (x10 : Bool) (x11 : Bool) (x12 : Bool) => grd (I64 (k7 + 1)) <| ag3 (k7 + 1)
)
def ref05_Cells_s4 (r1 : (List Gref05_Piece)) (j2 : Int → Option (List Gapi_Cell)) (q1 : Gref05_Piece) (ag4 : Int → Option (List Gapi_Cell)) (k10 : Int) : Option (List Gapi_Cell) := joinK (fun (j5 : Int → Bool → Bool → Bool → Bool → Bool → Option (List Gapi_Cell)) => bcond (decide ((k10 : Int) < (r1.length : Int))) ( andThen (getO r1 k10) fun (q8 : Gref05_Piece) => bcond ((q8.Kind : Int) == 2) ( j5 q8.Kind ((q8.Kind : Int) == 2) true true true true
) ( bcond (q8.Joiner) ( j5 q8.Kind ((q8.Kind : Int) == 2) false q8.Joiner true true
) ( bcond ((q1.Kind : Int) == 10) ( bcond ((q8.Kind : Int) == 10) ( grd (I64 (k10 - 1)) <| andThen (getO r1 (k10 - 1)) fun (q9 : Gref05_Piece) => bcond (q9.Joiner) ( j5 q8.Kind ((q8.Kind : Int) == 2) false q8.Joiner false q9.Joiner
) ( j2 k10
)
) ( j2 k10
)
) ( j2 k10
)
)
)
) ( j2 k10
)
) (fun (x13 : Int) (x14 : Bool) (x15 : Bool) (x16 : Bool) (x17 : Bool) (x18 : Bool) => grd (I64 (k10 + 1)) <| ag4 (k10 + 1)
)
def ref05_Cells_s5 (r1 : (List Gref05_Piece)) (k1 : Int) (j6 : Int → Int → Int → Int → Option (List Gapi_Cell)) (q10 : Gref05_Piece) (q11 : Gref05_Piece) (ag5 : Int → Int → Option (List Gapi_Cell)) (i7 : Int) (c8 : Int) : Option (List Gapi_Cell) := bcond (decide ((i7 : Int) < k1)) ( andThen (getO r1 i7) fun (q12 : Gref05_Piece) => grd (I64 (i7 + 1)) <| ag5 (i7 + 1) (max c8 q12.Columns)
) ( j6 i7 q10.Span_From q11.Span_To c8
)
def ref05_Cells_s1 (s1 : ByteArray) (j1 : (List Gapi_Cell) → Option (List Gapi_Cell)) (r1 : (List Gref05_Piece)) (ag1 : (List Gapi_Cell) → Int → Option (List Gapi_Cell)) (out4 : List Gapi_Cell) (i3 : Int) : Option (List Gapi_Cell) := bcond (decide ((i3 : Int) < (r1.length : Int))) ( joinK (fun (j2 : Int → Option (List Gapi_Cell)) => grd (I64 (i3 + 1)) <| andThen (getO r1 i3) fun (q1 : Gref05_Piece) => andThen (getO r1 i3) fun (q2 : Gref05_Piece) => andThen (getB s1 q2.Span_From) fun (c1 : Int) => bcond ((c1 : Int) == 13) ( bcond (decide (((i3 + 1) : Int) < (r1.length : Int))) ( andThen (getO r1 (i3 + 1)) fun (q3 : Gref05_Piece) => andThen (getB s1 q3.Span_From) fun (c2 : Int) => bcond ((c2 : Int) == 10) ( grd (I64 ((i3 + 1) + 1)) <| j2 ((i3 + 1) + 1)
) ( bcond ((q1.Kind : Int) == 11) ( j2 (i3 + 1)
) ( bcond ((q1.Kind : Int) == 4) ( j2 (i3 + 1)
) ( bcond ((q1.Kind : Int) == 9) ( j2 (i3 + 1)
) ( loopG (fun _ => none) (ref05_Cells_s2 r1 j2 q1) fuel (i3 + 1)
)
)
)
)
) ( bcond ((q1.Kind : Int) == 11) ( j2 (i3 + 1)
) ( bcond ((q1.Kind : Int) == 4) ( j2 (i3 + 1)
) ( bcond ((q1.Kind : Int) == 9) ( j2 (i3 + 1)
) ( loopG (fun _ => none) (ref05_Cells_s3 r1 j2 q1) fuel (i3 + 1)
)
)
)
)
) ( bcond ((q1.Kind : Int) == 11) ( j2 (i3 + 1)
) ( bcond ((q1.Kind : Int) == 4) ( j2 (i3 + 1)
) ( bcond ((q1.Kind : Int) == 9) ( j2 (i3 + 1)
) ( loopG (fun _ => none) (ref05_Cells_s4 r1 j2 q1) fuel (i3 + 1)
)
)
)
)
) (fun (k1 : Int) => joinK (fun (j6 : Int → Int → Int → Int → Option (List Gapi_Cell)) => andThen (getO r1 i3) fun (q10 : Gref05_Piece) => grd (I64 (k1 - 1)) <| andThen (getO r1 (k1 - 1)) fun (q11 : Gref05_Piece) => loopG (fun _ _ => none) (ref05_Cells_s5 r1 k1 j6 q10 q11) fuel i3 0
) (fun (i4 : Int) (c3 : Int) (c4 : Int) (c5 : Int) => grd (out4.length + 1 ≤ 2147483648) <| ag1 (out4 ++ [(⟨c3, c4, c5⟩ : Gapi_Cell)]) i4
)
)
) ( j1 out4
)
def ref05_Cells_v (s1 : ByteArray) : Option (List Gapi_Cell) := joinK (fun (j1 : (List Gapi_Cell) → Option (List Gapi_Cell)) => andThen (ref05_Pieces_v s1) fun (r1 : (List Gref05_Piece)) => loopG (fun _ _ => none) (ref05_Cells_s1 s1 j1 r1) fuel ([] : List Gapi_Cell) 0
) (fun (out1 : List Gapi_Cell) => some out1
)
set_option maxRecDepth 100000 in
set_option maxHeartbeats 4000000 in
theorem ref05_Cells_fn {s1 : ByteArray} {r : (List Gapi_Cell)} (h : ref05_Cells_v s1 = some r) : Fn Try.prog 16 [.string s1] [] (fun v0 : Value => v0) (fun v0 => [vec enc_Gapi_Cell 52 3 v0 r]) := by
 unfold ref05_Cells_v at h
 refine Fn.intro Try.func16 rfl Try.ntmps16 (by simp) ?_
 intro w0 K
 obtain ⟨j1, hj1, h⟩ := joinE h
 refine TC.cutN (β := (List Gapi_Cell) × Value) 4 rfl (fun b => j1 b.1 = some r) (fun b => []) (fun b => [(4, b.2)]) (fun b => [vec enc_Gapi_Cell 52 3 b.2 b.1]) (fun cut => ?_) ?_
 ·
  refine TC.seq (TC.region (TO.assign rfl dc rfl (TO.nil (TX.next (TC.seq (TC.region (TO.move rfl dc rfl ?_)))))))
  obtain ⟨r1, hq1, h⟩ := andE h
  refine TO.call (vs := [.string s1]) rfl dc rfl rfl rfl en_26 (ref05_Pieces_fn hq1) Splits.nil ?_
  rintro v2
  show TO _ _ _ _ _ _ _ _ _ _ [vec enc_Gref05_Piece 66 5 v2 r1]
  refine TO.assign rfl dc rfl (TO.nil (TX.next (TC.seq (TC.region (TO.assign rfl dc rfl (TO.nil (TX.next (TC.seq (TC.region (TO.assign rfl dc rfl (TO.nil (TX.next (cut ?_)))))))))))))
  refine TC.block (TC.newVec (enc := enc_Gapi_Cell) (e := 52) (size := 3) ?_)
  show TC _ _ _ _ _ _ _ _ _ [vec enc_Gref05_Piece 66 5 v2 r1, vec enc_Gapi_Cell 52 3 (.slice none 0 0) ([] : List Gapi_Cell)]
  refine TC.loopD (β := Nat × (List Gapi_Cell) × Int × Value) (fun b => loopG (fun _ _ => none) (ref05_Cells_s1 s1 j1 r1) b.1 b.2.1 b.2.2.1 = some r) (fun b => []) (fun b => [(0, .string s1), (3, v2), (4, b.2.2.2), (5, .int .i64 b.2.2.1)]) (fun b => [vec enc_Gref05_Piece 66 5 v2 r1, vec enc_Gapi_Cell 52 3 b.2.2.2 b.2.1]) (fun b => b.1) (fuel, ([] : List Gapi_Cell), 0, (.slice none 0 0)) h rfl (Sbs.cons rfl (Sbs.cons rfl (Sbs.cons rfl (Sbs.cons rfl (Sbs.nil))))) (Splits.of [0, 1] kr rfl) ?_
  rintro ⟨n1, out4, i3, v5⟩ h
  cases n1 with
  | zero => exact noneE h
  | succ n1 =>
   obtain ⟨ag1, hag1⟩ : ∃ ag, ag = loopG (fun _ _ => none) (ref05_Cells_s1 s1 j1 r1) n1 := ⟨_, rfl⟩
   have h : ref05_Cells_s1 s1 j1 r1 ag1 out4 i3 = some r := by rw [hag1]; exact h
   unfold ref05_Cells_s1 at h
   show TC _ _ _ _ _ ([]) _ _ [(0, .string s1), (3, v2), (4, v5), (5, .int .i64 i3)] [vec enc_Gref05_Piece 66 5 v2 r1, vec enc_Gapi_Cell 52 3 v5 out4]
   refine TC.seq (TC.seq (TC.region (TO.move rfl dc rfl (TO.move rfl dc rfl (TO.lenVec (k := 0) rfl dc rfl rfl Try.underlying63 (TO.bin rfl dc rfl rfl bin_lss (TO.nil (TX.next ?_))))))))
   refine TC.condB rfl (fun hb1 => ?_) (fun hb1 => ?_)
   ·
    have h := condT hb1 h
    refine TC.skip (TX.next (TC.block ?_))
    obtain ⟨j2, hj2, h⟩ := joinE h
    refine TC.cutN (β := Int) 2 rfl (fun b => j2 b = some r) (fun b => []) (fun b => [(0, .string s1), (3, v2), (4, v5), (5, .int .i64 i3), (6, .int .i64 b)]) (fun b => [vec enc_Gref05_Piece 66 5 v2 r1, vec enc_Gapi_Cell 52 3 v5 out4]) (fun cut => ?_) ?_
    ·
     refine TC.seq (TC.region (TO.move rfl dc rfl ?_))
     obtain ⟨hg1, h⟩ := grdE h
     refine TO.bin rfl dc rfl rfl (bin_add (r := i3 + 1) (IntWalk.i64_in _ hg1)) (TO.assign rfl dc rfl (TO.nil (TX.next (TC.seq (TC.region (TO.move rfl dc rfl (TO.move rfl dc rfl ?_)))))))
     obtain ⟨q1, hq2, h⟩ := andE h
     refine TO.indexVecI (k := 0) hq2 Try.underlying63 sz_66 rfl dc rfl rfl rfl rfl (TO.fieldAddr fl_66_1 rfl dc rfl (show _ = ((i3 : Int).toNat) * 5 + 2 from rfl) (TO.loadVec (i := (i3 : Int).toNat) (j := 2) (k := 0) (q := q1) sc_3 enc_Gref05_Piece_len rfl dc rfl rfl (getO_get hq2) rfl dc rfl (TO.assign rfl dc rfl (TO.nil (TX.next (cut (TC.block (TC.seq (TC.region (TO.move rfl dc rfl (TO.move rfl dc rfl (TO.move rfl dc rfl ?_))))))))))))
     obtain ⟨q2, hq3, h⟩ := andE h
     refine TO.indexVecI (k := 0) hq3 Try.underlying63 sz_66 rfl dc rfl rfl rfl rfl (TO.fieldAddr fl_66_0 rfl dc rfl (show _ = ((i3 : Int).toNat) * 5 from rfl) (TO.fieldAddr fl_50_0 rfl dc rfl (show _ = ((i3 : Int).toNat) * 5 from rfl) (TO.loadVec (i := (i3 : Int).toNat) (j := 0) (k := 0) (q := q2) sc_3 enc_Gref05_Piece_len rfl dc rfl rfl (getO_get hq3) rfl dc rfl ?_)))
     obtain ⟨c1, hq4, h⟩ := andE h
     refine TO.index rfl dc rfl rfl (index_stringI Try.underlying9 hq4) (TO.bin rfl dc rfl rfl bin_eql (TO.move rfl dc rfl ?_))
     refine TO.split (s := 73) rfl (fun hb2 => ?_) (fun hb2 => ?_)
     ·
      have h := condT hb2 h
      refine TO.move rfl dc rfl (TO.move rfl dc rfl (TO.lenVec (k := 0) rfl dc rfl rfl Try.underlying63 (TO.bin rfl dc rfl rfl bin_lss (TO.pick (b := true) rfl dc rfl rfl (TO.move rfl dc rfl ?_)))))
      refine TO.split (s := 79) rfl (fun hb3 => ?_) (fun hb3 => ?_)
      ·
       have h := condT hb3 h
       refine TO.move rfl dc rfl (TO.move rfl dc rfl (TO.move rfl dc rfl ?_))
       obtain ⟨q3, hq5, h⟩ := andE h
       refine TO.indexVecI (k := 0) hq5 Try.underlying63 sz_66 rfl dc rfl rfl rfl rfl (TO.fieldAddr fl_66_0 rfl dc rfl (show _ = ((i3 + 1 : Int).toNat) * 5 from rfl) (TO.fieldAddr fl_50_0 rfl dc rfl (show _ = ((i3 + 1 : Int).toNat) * 5 from rfl) (TO.loadVec (i := (i3 + 1 : Int).toNat) (j := 0) (k := 0) (q := q3) sc_3 enc_Gref05_Piece_len rfl dc rfl rfl (getO_get hq5) rfl dc rfl ?_)))
       obtain ⟨c2, hq6, h⟩ := andE h
       refine TO.index rfl dc rfl rfl (index_stringI Try.underlying9 hq6) (TO.bin rfl dc rfl rfl bin_eql (TO.pick (b := true) rfl dc rfl rfl (TO.assign rfl dc rfl (TO.nil (TX.next ?_)))))
       refine TC.condB rfl (fun hb4 => ?_) (fun hb4 => ?_)
       ·
        have h := condT hb4 h
        refine TC.region (TO.move rfl dc rfl ?_)
        obtain ⟨hg2, h⟩ := grdE h
        refine TO.bin rfl dc rfl rfl (bin_add (r := (i3 + 1) + 1) (IntWalk.i64_in _ hg2)) (TO.assign rfl dc rfl (TO.nil (TX.blockNormal ?_)))
        exact TX.meetD ((i3 + 1) + 1) h rfl (Sbs.cons rfl (Sbs.cons rfl (Sbs.cons rfl (Sbs.cons rfl (Sbs.cons rfl (Sbs.nil)))))) (Splits.of [0, 1] kr rfl)
       ·
        have h := condF hb4 h
        refine TC.seq (TC.region (TO.move rfl dc rfl (TO.bin rfl dc rfl rfl bin_eql (TO.move rfl dc rfl ?_))))
        refine TO.split (s := 95) rfl (fun hb5 => ?_) (fun hb5 => ?_)
        ·
         have h := condT hb5 h
         refine TO.skip rfl dc (TO.skip rfl dc (TO.pick (b := true) rfl dc rfl rfl (TO.move rfl dc rfl (TO.skip rfl dc (TO.skip rfl dc (TO.pick (b := true) rfl dc rfl rfl (TO.assign rfl dc rfl (TO.nil (TX.next (TC.condT rfl (TC.skip (TX.blockNormal ?_))))))))))))
         exact TX.meetD (i3 + 1) h rfl (Sbs.cons rfl (Sbs.cons rfl (Sbs.cons rfl (Sbs.cons rfl (Sbs.cons rfl (Sbs.nil)))))) (Splits.of [0, 1] kr rfl)
        ·
         have h := condF hb5 h
         refine TO.move rfl dc rfl (TO.bin rfl dc rfl rfl bin_eql (TO.pick (b := false) rfl dc rfl rfl (TO.move rfl dc rfl ?_)))
         refine TO.split (s := 99) rfl (fun hb6 => ?_) (fun hb6 => ?_)
         ·
          have h := condT hb6 h
          refine TO.skip rfl dc (TO.skip rfl dc (TO.pick (b := true) rfl dc rfl rfl (TO.assign rfl dc rfl (TO.nil (TX.next (TC.condT rfl (TC.skip (TX.blockNormal ?_))))))))
          exact TX.meetD (i3 + 1) h rfl (Sbs.cons rfl (Sbs.cons rfl (Sbs.cons rfl (Sbs.cons rfl (Sbs.cons rfl (Sbs.nil)))))) (Splits.of [0, 1] kr rfl)
         ·
          have h := condF hb6 h
          refine TO.move rfl dc rfl (TO.bin rfl dc rfl rfl bin_eql (TO.pick (b := false) rfl dc rfl rfl (TO.assign rfl dc rfl (TO.nil (TX.next ?_)))))
          refine TC.condB rfl (fun hb7 => ?_) (fun hb7 => ?_)
          ·
           have h := condT hb7 h
           refine TC.skip (TX.blockNormal ?_)
           exact TX.meetD (i3 + 1) h rfl (Sbs.cons rfl (Sbs.cons rfl (Sbs.cons rfl (Sbs.cons rfl (Sbs.cons rfl (Sbs.nil)))))) (Splits.of [0, 1] kr rfl)
          ·
           have h := condF hb7 h
           refine TC.block ?_
           refine TC.loopD (β := Nat × Int) (fun b => loopG (fun _ => none) (ref05_Cells_s2 r1 j2 q1) b.1 b.2 = some r) (fun b => []) (fun b => [(0, .string s1), (3, v2), (4, v5), (5, .int .i64 i3), (6, .int .i64 b.2), (7, .int .i64 q1.Kind), (74, .int .i64 (i3 + 1)), (75, v2), (76, .int .i64 (r1.length : Int)), (77, .bool (decide (((i3 + 1) : Int) < (r1.length : Int)))), (80, .string s1), (81, v2), (82, .int .i64 (i3 + 1)), (83, .pointer (some ⟨vblk v2, (i3 + 1 : Int).toNat * 5, none⟩)), (84, .pointer (some ⟨vblk v2, ((i3 + 1 : Int).toNat) * 5, none⟩)), (85, .pointer (some ⟨vblk v2, ((i3 + 1 : Int).toNat) * 5, none⟩)), (86, .int .i64 q3.Span_From), (87, .int .u8 c2), (88, .bool ((c2 : Int) == 10)), (96, .int .i64 q1.Kind), (97, .bool ((q1.Kind : Int) == 4)), (100, .int .i64 q1.Kind), (101, .bool ((q1.Kind : Int) == 9))]) (fun b => [vec enc_Gref05_Piece 66 5 v2 r1, vec enc_Gapi_Cell 52 3 v5 out4]) (fun b => b.1) (fuel, i3 + 1) h rfl (Sbs.cons rfl (Sbs.cons rfl (Sbs.cons rfl (Sbs.cons rfl (Sbs.cons rfl (Sbs.cons rfl (Sbs.cons rfl (Sbs.cons rfl (Sbs.cons rfl (Sbs.cons rfl (Sbs.cons rfl (Sbs.cons rfl (Sbs.cons rfl (Sbs.cons rfl (Sbs.cons rfl (Sbs.cons rfl (Sbs.cons rfl (Sbs.cons rfl (Sbs.cons rfl (Sbs.cons rfl (Sbs.cons rfl (Sbs.cons rfl (Sbs.cons rfl (Sbs.nil)))))))))))))))))))))))) (Splits.of [0, 1] kr rfl) ?_
           rintro ⟨n2, k4⟩ h
           cases n2 with
           | zero => exact noneE h
           | succ n2 =>
            obtain ⟨ag2, hag2⟩ : ∃ ag, ag = loopG (fun _ => none) (ref05_Cells_s2 r1 j2 q1) n2 := ⟨_, rfl⟩
            have h : ref05_Cells_s2 r1 j2 q1 ag2 k4 = some r := by rw [hag2]; exact h
            unfold ref05_Cells_s2 at h
            show TC _ _ _ _ _ ([]) _ _ [(0, .string s1), (3, v2), (4, v5), (5, .int .i64 i3), (6, .int .i64 k4), (7, .int .i64 q1.Kind), (74, .int .i64 (i3 + 1)), (75, v2), (76, .int .i64 (r1.length : Int)), (77, .bool (decide (((i3 + 1) : Int) < (r1.length : Int)))), (80, .string s1), (81, v2), (82, .int .i64 (i3 + 1)), (83, .pointer (some ⟨vblk v2, (i3 + 1 : Int).toNat * 5, none⟩)), (84, .pointer (some ⟨vblk v2, ((i3 + 1 : Int).toNat) * 5, none⟩)), (85, .pointer (some ⟨vblk v2, ((i3 + 1 : Int).toNat) * 5, none⟩)), (86, .int .i64 q3.Span_From), (87, .int .u8 c2), (88, .bool ((c2 : Int) == 10)), (96, .int .i64 q1.Kind), (97, .bool ((q1.Kind : Int) == 4)), (100, .int .i64 q1.Kind), (101, .bool ((q1.Kind : Int) == 9))] [vec enc_Gref05_Piece 66 5 v2 r1, vec enc_Gapi_Cell 52 3 v5 out4]
            obtain ⟨j3, hj3, h⟩ := joinE h
            refine TC.cutN (β := Int × Bool × Bool × Bool × Bool × Bool) 0 rfl (fun b => j3 b.1 b.2.1 b.2.2.1 b.2.2.2.1 b.2.2.2.2.1 b.2.2.2.2.2 = some r) (fun b => []) (fun b => [(0, .string s1), (3, v2), (4, v5), (5, .int .i64 i3), (6, .int .i64 k4), (7, .int .i64 q1.Kind), (27, v2), (28, .int .i64 k4), (29, .pointer (some ⟨vblk v2, (k4 : Int).toNat * 5, none⟩)), (30, .pointer (some ⟨vblk v2, ((k4 : Int).toNat) * 5 + 2, none⟩)), (31, .int .i64 b.1), (32, .bool b.2.1), (33, .bool b.2.2.1), (39, .bool b.2.2.2.1), (40, .bool b.2.2.2.2.1), (59, .bool b.2.2.2.2.2), (74, .int .i64 (i3 + 1)), (75, v2), (76, .int .i64 (r1.length : Int)), (77, .bool (decide (((i3 + 1) : Int) < (r1.length : Int)))), (80, .string s1), (81, v2), (82, .int .i64 (i3 + 1)), (83, .pointer (some ⟨vblk v2, (i3 + 1 : Int).toNat * 5, none⟩)), (84, .pointer (some ⟨vblk v2, ((i3 + 1 : Int).toNat) * 5, none⟩)), (85, .pointer (some ⟨vblk v2, ((i3 + 1 : Int).toNat) * 5, none⟩)), (86, .int .i64 q3.Span_From), (87, .int .u8 c2), (88, .bool ((c2 : Int) == 10)), (96, .int .i64 q1.Kind), (97, .bool ((q1.Kind : Int) == 4)), (100, .int .i64 q1.Kind), (101, .bool ((q1.Kind : Int) == 9))]) (fun b => [vec enc_Gref05_Piece 66 5 v2 r1, vec enc_Gapi_Cell 52 3 v5 out4]) (fun cut => ?_) ?_
            ·
             refine cut (TC.seq (TC.region (TO.move rfl dc rfl (TO.move rfl dc rfl (TO.lenVec (k := 0) rfl dc rfl rfl Try.underlying63 (TO.bin rfl dc rfl rfl bin_lss (TO.move rfl dc rfl ?_)))))))
             refine TO.split (s := 26) rfl (fun hb8 => ?_) (fun hb8 => ?_)
             ·
              have h := condT hb8 h
              refine TO.move rfl dc rfl (TO.move rfl dc rfl ?_)
              obtain ⟨q4, hq7, h⟩ := andE h
              refine TO.indexVecI (k := 0) hq7 Try.underlying63 sz_66 rfl dc rfl rfl rfl rfl (TO.fieldAddr fl_66_1 rfl dc rfl (show _ = ((k4 : Int).toNat) * 5 + 2 from rfl) (TO.loadVec (i := (k4 : Int).toNat) (j := 2) (k := 0) (q := q4) sc_3 enc_Gref05_Piece_len rfl dc rfl rfl (getO_get hq7) rfl dc rfl (TO.bin rfl dc rfl rfl bin_eql (TO.move rfl dc rfl ?_))))
              refine TO.split (s := 33) rfl (fun hb9 => ?_) (fun hb9 => ?_)
              ·
               have h := condT hb9 h
               refine TO.skip rfl dc (TO.skip rfl dc (TO.skip rfl dc (TO.skip rfl dc (TO.skip rfl dc (TO.pick (b := true) rfl dc rfl rfl (TO.move rfl dc rfl (TO.skip rfl dc (TO.skip rfl dc (TO.skip rfl dc (TO.skip rfl dc (TO.skip rfl dc (TO.skip rfl dc (TO.skip rfl dc ?_)))))))))))))
               refine TO.skip rfl dc (TO.skip rfl dc (TO.skip rfl dc (TO.skip rfl dc (TO.skip rfl dc (TO.skip rfl dc (TO.skip rfl dc (TO.skip rfl dc (TO.skip rfl dc (TO.skip rfl dc (TO.skip rfl dc (TO.pick (b := true) rfl dc rfl rfl (TO.pick (b := true) rfl dc rfl rfl (TO.nil ?_)))))))))))))
               refine TX.next (TC.condT rfl (TC.skip ?_))
               exact TX.meetD (q4.Kind, (q4.Kind : Int) == 2, true, true, true, true) h rfl (Sbs.cons rfl (Sbs.cons rfl (Sbs.cons rfl (Sbs.cons rfl (Sbs.cons rfl (Sbs.cons rfl (Sbs.cons rfl (Sbs.cons rfl (Sbs.cons rfl (Sbs.cons rfl (Sbs.cons rfl (Sbs.cons rfl (Sbs.cons rfl (Sbs.cons rfl (Sbs.cons rfl (Sbs.cons rfl (Sbs.cons rfl (Sbs.cons rfl (Sbs.cons rfl (Sbs.cons rfl (Sbs.cons rfl (Sbs.cons rfl (Sbs.cons rfl (Sbs.cons rfl (Sbs.cons rfl (Sbs.cons rfl (Sbs.cons rfl (Sbs.cons rfl (Sbs.cons rfl (Sbs.cons rfl (Sbs.cons rfl (Sbs.cons rfl (Sbs.cons rfl (Sbs.nil)))))))))))))))))))))))))))))))))) (Splits.of [0, 1] kr rfl)
              ·
               have h := condF hb9 h
               refine TO.move rfl dc rfl (TO.move rfl dc rfl (TO.indexVecI (k := 0) hq7 Try.underlying63 sz_66 rfl dc rfl rfl rfl rfl (TO.fieldAddr fl_66_2 rfl dc rfl (show _ = ((k4 : Int).toNat) * 5 + 3 from rfl) (TO.loadVec (i := (k4 : Int).toNat) (j := 3) (k := 0) (q := q4) sc_4 enc_Gref05_Piece_len rfl dc rfl rfl (getO_get hq7) rfl dc rfl (TO.pick (b := false) rfl dc rfl rfl (TO.move rfl dc rfl ?_))))))
               refine TO.split (s := 40) rfl (fun hb10 => ?_) (fun hb10 => ?_)
               ·
                have h := condT hb10 h
                refine TO.skip rfl dc (TO.skip rfl dc (TO.skip rfl dc (TO.skip rfl dc (TO.skip rfl dc (TO.skip rfl dc (TO.skip rfl dc (TO.skip rfl dc (TO.skip rfl dc (TO.skip rfl dc (TO.skip rfl dc (TO.skip rfl dc (TO.skip rfl dc (TO.skip rfl dc ?_)))))))))))))
                refine TO.skip rfl dc (TO.skip rfl dc (TO.skip rfl dc (TO.skip rfl dc (TO.pick (b := true) rfl dc rfl rfl (TO.pick (b := true) rfl dc rfl rfl (TO.nil (TX.next (TC.condT rfl (TC.skip ?_)))))))))
                exact TX.meetD (q4.Kind, (q4.Kind : Int) == 2, false, q4.Joiner, true, true) h rfl (Sbs.cons rfl (Sbs.cons rfl (Sbs.cons rfl (Sbs.cons rfl (Sbs.cons rfl (Sbs.cons rfl (Sbs.cons rfl (Sbs.cons rfl (Sbs.cons rfl (Sbs.cons rfl (Sbs.cons rfl (Sbs.cons rfl (Sbs.cons rfl (Sbs.cons rfl (Sbs.cons rfl (Sbs.cons rfl (Sbs.cons rfl (Sbs.cons rfl (Sbs.cons rfl (Sbs.cons rfl (Sbs.cons rfl (Sbs.cons rfl (Sbs.cons rfl (Sbs.cons rfl (Sbs.cons rfl (Sbs.cons rfl (Sbs.cons rfl (Sbs.cons rfl (Sbs.cons rfl (Sbs.cons rfl (Sbs.cons rfl (Sbs.cons rfl (Sbs.cons rfl (Sbs.nil)))))))))))))))))))))))))))))))))) (Splits.of [0, 1] kr rfl)
               ·
                have h := condF hb10 h
                refine TO.move rfl dc rfl (TO.bin rfl dc rfl rfl bin_eql (TO.move rfl dc rfl ?_))
                refine TO.split (s := 43) rfl (fun hb11 => ?_) (fun hb11 => ?_)
                ·
                 have h := condT hb11 h
                 refine TO.move rfl dc rfl (TO.move rfl dc rfl (TO.indexVecI (k := 0) hq7 Try.underlying63 sz_66 rfl dc rfl rfl rfl rfl (TO.fieldAddr fl_66_1 rfl dc rfl (show _ = ((k4 : Int).toNat) * 5 + 2 from rfl) (TO.loadVec (i := (k4 : Int).toNat) (j := 2) (k := 0) (q := q4) sc_3 enc_Gref05_Piece_len rfl dc rfl rfl (getO_get hq7) rfl dc rfl (TO.bin rfl dc rfl rfl bin_eql (TO.pick (b := true) rfl dc rfl rfl (TO.move rfl dc rfl ?_)))))))
                 refine TO.split (s := 51) rfl (fun hb12 => ?_) (fun hb12 => ?_)
                 ·
                  have h := condT hb12 h
                  refine TO.move rfl dc rfl (TO.move rfl dc rfl ?_)
                  obtain ⟨hg3, h⟩ := grdE h
                  refine TO.bin rfl dc rfl rfl (bin_sub (r := k4 - 1) (IntWalk.i64_in _ hg3)) ?_
                  obtain ⟨q5, hq8, h⟩ := andE h
                  refine TO.indexVecI (k := 0) hq8 Try.underlying63 sz_66 rfl dc rfl rfl rfl rfl (TO.fieldAddr fl_66_2 rfl dc rfl (show _ = ((k4 - 1 : Int).toNat) * 5 + 3 from rfl) (TO.loadVec (i := (k4 - 1 : Int).toNat) (j := 3) (k := 0) (q := q5) sc_4 enc_Gref05_Piece_len rfl dc rfl rfl (getO_get hq8) rfl dc rfl (TO.pick (b := true) rfl dc rfl rfl (TO.pick (b := false) rfl dc rfl rfl (TO.pick (b := true) rfl dc rfl rfl (TO.nil (TX.next ?_)))))))
                  refine TC.condB rfl (fun hb13 => ?_) (fun hb13 => ?_)
                  ·
                   have h := condT hb13 h
                   refine TC.skip ?_
                   exact TX.meetD (q4.Kind, (q4.Kind : Int) == 2, false, q4.Joiner, false, q5.Joiner) h rfl (Sbs.cons rfl (Sbs.cons rfl (Sbs.cons rfl (Sbs.cons rfl (Sbs.cons rfl (Sbs.cons rfl (Sbs.cons rfl (Sbs.cons rfl (Sbs.cons rfl (Sbs.cons rfl (Sbs.cons rfl (Sbs.cons rfl (Sbs.cons rfl (Sbs.cons rfl (Sbs.cons rfl (Sbs.cons rfl (Sbs.cons rfl (Sbs.cons rfl (Sbs.cons rfl (Sbs.cons rfl (Sbs.cons rfl (Sbs.cons rfl (Sbs.cons rfl (Sbs.cons rfl (Sbs.cons rfl (Sbs.cons rfl (Sbs.cons rfl (Sbs.cons rfl (Sbs.cons rfl (Sbs.cons rfl (Sbs.cons rfl (Sbs.cons rfl (Sbs.cons rfl (Sbs.nil)))))))))))))))))))))))))))))))))) (Splits.of [0, 1] kr rfl)
                  ·
                   have h := condF hb13 h
                   refine TC.exit (TX.thenExit (TX.thenExit (TX.blockHere (TX.blockNormal ?_))))
                   exact TX.meetD k4 h rfl (Sbs.cons rfl (Sbs.cons rfl (Sbs.cons rfl (Sbs.cons rfl (Sbs.cons rfl (Sbs.nil)))))) (Splits.of [0, 1] kr rfl)
                 ·
                  have h := condF hb12 h
                  refine TO.skip rfl dc (TO.skip rfl dc (TO.skip rfl dc (TO.skip rfl dc (TO.skip rfl dc (TO.skip rfl dc (TO.pick (b := false) rfl dc rfl rfl (TO.pick (b := false) rfl dc rfl rfl (TO.pick (b := true) rfl dc rfl rfl (TO.nil (TX.next (TC.condF rfl (TC.exit (TX.thenExit ?_)))))))))))))
                  refine TX.thenExit (TX.blockHere (TX.blockNormal ?_))
                  exact TX.meetD k4 h rfl (Sbs.cons rfl (Sbs.cons rfl (Sbs.cons rfl (Sbs.cons rfl (Sbs.cons rfl (Sbs.nil)))))) (Splits.of [0, 1] kr rfl)
                ·
                 have h := condF hb11 h
                 refine TO.skip rfl dc (TO.skip rfl dc (TO.skip rfl dc (TO.skip rfl dc (TO.skip rfl dc (TO.skip rfl dc (TO.pick (b := false) rfl dc rfl rfl (TO.move rfl dc rfl (TO.skip rfl dc (TO.skip rfl dc (TO.skip rfl dc (TO.skip rfl dc (TO.skip rfl dc (TO.skip rfl dc ?_)))))))))))))
                 refine TO.pick (b := false) rfl dc rfl rfl (TO.pick (b := false) rfl dc rfl rfl (TO.pick (b := true) rfl dc rfl rfl (TO.nil (TX.next (TC.condF rfl (TC.exit (TX.thenExit (TX.thenExit (TX.blockHere (TX.blockNormal ?_))))))))))
                 exact TX.meetD k4 h rfl (Sbs.cons rfl (Sbs.cons rfl (Sbs.cons rfl (Sbs.cons rfl (Sbs.cons rfl (Sbs.nil)))))) (Splits.of [0, 1] kr rfl)
             ·
              have h := condF hb8 h
              refine TO.skip rfl dc (TO.skip rfl dc (TO.skip rfl dc (TO.skip rfl dc (TO.skip rfl dc (TO.skip rfl dc (TO.skip rfl dc (TO.skip rfl dc (TO.skip rfl dc (TO.skip rfl dc (TO.skip rfl dc (TO.skip rfl dc (TO.skip rfl dc (TO.skip rfl dc ?_)))))))))))))
              refine TO.skip rfl dc (TO.skip rfl dc (TO.skip rfl dc (TO.skip rfl dc (TO.skip rfl dc (TO.skip rfl dc (TO.skip rfl dc (TO.skip rfl dc (TO.skip rfl dc (TO.skip rfl dc (TO.skip rfl dc (TO.skip rfl dc (TO.skip rfl dc (TO.skip rfl dc ?_)))))))))))))
              refine TO.skip rfl dc (TO.skip rfl dc (TO.skip rfl dc (TO.skip rfl dc (TO.skip rfl dc (TO.pick (b := false) rfl dc rfl rfl (TO.nil (TX.next (TC.condF rfl (TC.exit (TX.thenExit (TX.thenExit (TX.blockHere (TX.blockNormal ?_)))))))))))))
              exact TX.meetD k4 h rfl (Sbs.cons rfl (Sbs.cons rfl (Sbs.cons rfl (Sbs.cons rfl (Sbs.cons rfl (Sbs.nil)))))) (Splits.of [0, 1] kr rfl)
            ·
             rintro ⟨x1, x2, x3, x4, x5, x6⟩ h
             rw [hj3] at h
             show TC _ _ _ _ _ ([]) _ _ [(0, .string s1), (3, v2), (4, v5), (5, .int .i64 i3), (6, .int .i64 k4), (7, .int .i64 q1.Kind), (27, v2), (28, .int .i64 k4), (29, .pointer (some ⟨vblk v2, (k4 : Int).toNat * 5, none⟩)), (30, .pointer (some ⟨vblk v2, ((k4 : Int).toNat) * 5 + 2, none⟩)), (31, .int .i64 x1), (32, .bool x2), (33, .bool x3), (39, .bool x4), (40, .bool x5), (59, .bool x6), (74, .int .i64 (i3 + 1)), (75, v2), (76, .int .i64 (r1.length : Int)), (77, .bool (decide (((i3 + 1) : Int) < (r1.length : Int)))), (80, .string s1), (81, v2), (82, .int .i64 (i3 + 1)), (83, .pointer (some ⟨vblk v2, (i3 + 1 : Int).toNat * 5, none⟩)), (84, .pointer (some ⟨vblk v2, ((i3 + 1 : Int).toNat) * 5, none⟩)), (85, .pointer (some ⟨vblk v2, ((i3 + 1 : Int).toNat) * 5, none⟩)), (86, .int .i64 q3.Span_From), (87, .int .u8 c2), (88, .bool ((c2 : Int) == 10)), (96, .int .i64 q1.Kind), (97, .bool ((q1.Kind : Int) == 4)), (100, .int .i64 q1.Kind), (101, .bool ((q1.Kind : Int) == 9))] [vec enc_Gref05_Piece 66 5 v2 r1, vec enc_Gapi_Cell 52 3 v5 out4]
             refine TC.block (TC.region (TO.move rfl dc rfl ?_))
             obtain ⟨hg4, h⟩ := grdE h
             refine TO.bin rfl dc rfl rfl (bin_add (r := k4 + 1) (IntWalk.i64_in _ hg4)) (TO.assign rfl dc rfl (TO.nil (TX.blockNormal ?_)))
             subst hag2
             exact TX.againD (n2, k4 + 1) h (Nat.lt_succ_self _) rfl (Sbs.cons rfl (Sbs.cons rfl (Sbs.cons rfl (Sbs.cons rfl (Sbs.cons rfl (Sbs.cons rfl (Sbs.cons rfl (Sbs.cons rfl (Sbs.cons rfl (Sbs.cons rfl (Sbs.cons rfl (Sbs.cons rfl (Sbs.cons rfl (Sbs.cons rfl (Sbs.cons rfl (Sbs.cons rfl (Sbs.cons rfl (Sbs.cons rfl (Sbs.cons rfl (Sbs.cons rfl (Sbs.cons rfl (Sbs.cons rfl (Sbs.cons rfl (Sbs.nil)))))))))))))))))))))))) (Splits.of [0, 1] kr rfl)
      ·
       have h := condF hb3 h
       refine TO.skip rfl dc (TO.skip rfl dc (TO.skip rfl dc (TO.skip rfl dc (TO.skip rfl dc (TO.skip rfl dc (TO.skip rfl dc (TO.skip rfl dc (TO.skip rfl dc (TO.pick (b := false) rfl dc rfl rfl (TO.assign rfl dc rfl (TO.nil (TX.next (TC.condF rfl ?_)))))))))))))
       refine TC.seq (TC.region (TO.move rfl dc rfl (TO.bin rfl dc rfl rfl bin_eql (TO.move rfl dc rfl ?_))))
       refine TO.split (s := 95) rfl (fun hb14 => ?_) (fun hb14 => ?_)
       ·
        have h := condT hb14 h
        refine TO.skip rfl dc (TO.skip rfl dc (TO.pick (b := true) rfl dc rfl rfl (TO.move rfl dc rfl (TO.skip rfl dc (TO.skip rfl dc (TO.pick (b := true) rfl dc rfl rfl (TO.assign rfl dc rfl (TO.nil (TX.next (TC.condT rfl (TC.skip (TX.blockNormal ?_))))))))))))
        exact TX.meetD (i3 + 1) h rfl (Sbs.cons rfl (Sbs.cons rfl (Sbs.cons rfl (Sbs.cons rfl (Sbs.cons rfl (Sbs.nil)))))) (Splits.of [0, 1] kr rfl)
       ·
        have h := condF hb14 h
        refine TO.move rfl dc rfl (TO.bin rfl dc rfl rfl bin_eql (TO.pick (b := false) rfl dc rfl rfl (TO.move rfl dc rfl ?_)))
        refine TO.split (s := 99) rfl (fun hb15 => ?_) (fun hb15 => ?_)
        ·
         have h := condT hb15 h
         refine TO.skip rfl dc (TO.skip rfl dc (TO.pick (b := true) rfl dc rfl rfl (TO.assign rfl dc rfl (TO.nil (TX.next (TC.condT rfl (TC.skip (TX.blockNormal ?_))))))))
         exact TX.meetD (i3 + 1) h rfl (Sbs.cons rfl (Sbs.cons rfl (Sbs.cons rfl (Sbs.cons rfl (Sbs.cons rfl (Sbs.nil)))))) (Splits.of [0, 1] kr rfl)
        ·
         have h := condF hb15 h
         refine TO.move rfl dc rfl (TO.bin rfl dc rfl rfl bin_eql (TO.pick (b := false) rfl dc rfl rfl (TO.assign rfl dc rfl (TO.nil (TX.next ?_)))))
         refine TC.condB rfl (fun hb16 => ?_) (fun hb16 => ?_)
         ·
          have h := condT hb16 h
          refine TC.skip (TX.blockNormal ?_)
          exact TX.meetD (i3 + 1) h rfl (Sbs.cons rfl (Sbs.cons rfl (Sbs.cons rfl (Sbs.cons rfl (Sbs.cons rfl (Sbs.nil)))))) (Splits.of [0, 1] kr rfl)
         ·
          have h := condF hb16 h
          refine TC.block ?_
          refine TC.loopD (β := Nat × Int) (fun b => loopG (fun _ => none) (ref05_Cells_s3 r1 j2 q1) b.1 b.2 = some r) (fun b => []) (fun b => [(0, .string s1), (3, v2), (4, v5), (5, .int .i64 i3), (6, .int .i64 b.2), (7, .int .i64 q1.Kind), (74, .int .i64 (i3 + 1)), (75, v2), (76, .int .i64 (r1.length : Int)), (77, .bool (decide (((i3 + 1) : Int) < (r1.length : Int)))), (80, undef), (81, undef), (82, undef), (83, undef), (84, undef), (85, undef), (86, undef), (87, undef), (88, undef), (96, .int .i64 q1.Kind), (97, .bool ((q1.Kind : Int) == 4)), (100, .int .i64 q1.Kind), (101, .bool ((q1.Kind : Int) == 9))]) (fun b => [vec enc_Gref05_Piece 66 5 v2 r1, vec enc_Gapi_Cell 52 3 v5 out4]) (fun b => b.1) (fuel, i3 + 1) h rfl (Sbs.cons rfl (Sbs.cons rfl (Sbs.cons rfl (Sbs.cons rfl (Sbs.cons rfl (Sbs.cons rfl (Sbs.cons rfl (Sbs.cons rfl (Sbs.cons rfl (Sbs.cons rfl (Sbs.cons rfl (Sbs.cons rfl (Sbs.cons rfl (Sbs.cons rfl (Sbs.cons rfl (Sbs.cons rfl (Sbs.cons rfl (Sbs.cons rfl (Sbs.cons rfl (Sbs.cons rfl (Sbs.cons rfl (Sbs.cons rfl (Sbs.cons rfl (Sbs.nil)))))))))))))))))))))))) (Splits.of [0, 1] kr rfl) ?_
          rintro ⟨n3, k7⟩ h
          cases n3 with
          | zero => exact noneE h
          | succ n3 =>
           obtain ⟨ag3, hag3⟩ : ∃ ag, ag = loopG (fun _ => none) (ref05_Cells_s3 r1 j2 q1) n3 := ⟨_, rfl⟩
           have h : ref05_Cells_s3 r1 j2 q1 ag3 k7 = some r := by rw [hag3]; exact h
           unfold ref05_Cells_s3 at h
           show TC _ _ _ _ _ ([]) _ _ [(0, .string s1), (3, v2), (4, v5), (5, .int .i64 i3), (6, .int .i64 k7), (7, .int .i64 q1.Kind), (74, .int .i64 (i3 + 1)), (75, v2), (76, .int .i64 (r1.length : Int)), (77, .bool (decide (((i3 + 1) : Int) < (r1.length : Int)))), (80, undef), (81, undef), (82, undef), (83, undef), (84, undef), (85, undef), (86, undef), (87, undef), (88, undef), (96, .int .i64 q1.Kind), (97, .bool ((q1.Kind : Int) == 4)), (100, .int .i64 q1.Kind), (101, .bool ((q1.Kind : Int) == 9))] [vec enc_Gref05_Piece 66 5 v2 r1, vec enc_Gapi_Cell 52 3 v5 out4]
           obtain ⟨j4, hj4, h⟩ := joinE h
           refine TC.cutN (β := Int × Bool × Bool × Bool × Bool × Bool) 0 rfl (fun b => j4 b.1 b.2.1 b.2.2.1 b.2.2.2.1 b.2.2.2.2.1 b.2.2.2.2.2 = some r) (fun b => []) (fun b => [(0, .string s1), (3, v2), (4, v5), (5, .int .i64 i3), (6, .int .i64 k7), (7, .int .i64 q1.Kind), (27, v2), (28, .int .i64 k7), (29, .pointer (some ⟨vblk v2, (k7 : Int).toNat * 5, none⟩)), (30, .pointer (some ⟨vblk v2, ((k7 : Int).toNat) * 5 + 2, none⟩)), (31, .int .i64 b.1), (32, .bool b.2.1), (33, .bool b.2.2.1), (39, .bool b.2.2.2.1), (40, .bool b.2.2.2.2.1), (59, .bool b.2.2.2.2.2), (74, .int .i64 (i3 + 1)), (75, v2), (76, .int .i64 (r1.length : Int)), (77, .bool (decide (((i3 + 1) : Int) < (r1.length : Int)))), (80, undef), (81, undef), (82, undef), (83, undef), (84, undef), (85, undef), (86, undef), (87, undef), (88, undef), (96, .int .i64 q1.Kind), (97, .bool ((q1.Kind : Int) == 4)), (100, .int .i64 q1.Kind), (101, .bool ((q1.Kind : Int) == 9))]) (fun b => [vec enc_Gref05_Piece 66 5 v2 r1, vec enc_Gapi_Cell 52 3 v5 out4]) (fun cut => ?_) ?_
           ·
            refine cut (TC.seq (TC.region (TO.move rfl dc rfl (TO.move rfl dc rfl (TO.lenVec (k := 0) rfl dc rfl rfl Try.underlying63 (TO.bin rfl dc rfl rfl bin_lss (TO.move rfl dc rfl ?_)))))))
            refine TO.split (s := 26) rfl (fun hb17 => ?_) (fun hb17 => ?_)
            ·
             have h := condT hb17 h
             refine TO.move rfl dc rfl (TO.move rfl dc rfl ?_)
             obtain ⟨q6, hq9, h⟩ := andE h
             refine TO.indexVecI (k := 0) hq9 Try.underlying63 sz_66 rfl dc rfl rfl rfl rfl (TO.fieldAddr fl_66_1 rfl dc rfl (show _ = ((k7 : Int).toNat) * 5 + 2 from rfl) (TO.loadVec (i := (k7 : Int).toNat) (j := 2) (k := 0) (q := q6) sc_3 enc_Gref05_Piece_len rfl dc rfl rfl (getO_get hq9) rfl dc rfl (TO.bin rfl dc rfl rfl bin_eql (TO.move rfl dc rfl ?_))))
             refine TO.split (s := 33) rfl (fun hb18 => ?_) (fun hb18 => ?_)
             ·
              have h := condT hb18 h
              refine TO.skip rfl dc (TO.skip rfl dc (TO.skip rfl dc (TO.skip rfl dc (TO.skip rfl dc (TO.pick (b := true) rfl dc rfl rfl (TO.move rfl dc rfl (TO.skip rfl dc (TO.skip rfl dc (TO.skip rfl dc (TO.skip rfl dc (TO.skip rfl dc (TO.skip rfl dc (TO.skip rfl dc ?_)))))))))))))
              refine TO.skip rfl dc (TO.skip rfl dc (TO.skip rfl dc (TO.skip rfl dc (TO.skip rfl dc (TO.skip rfl dc (TO.skip rfl dc (TO.skip rfl dc (TO.skip rfl dc (TO.skip rfl dc (TO.skip rfl dc (TO.pick (b := true) rfl dc rfl rfl (TO.pick (b := true) rfl dc rfl rfl (TO.nil ?_)))))))))))))
              refine TX.next (TC.condT rfl (TC.skip ?_))
              exact TX.meetD (q6.Kind, (q6.Kind : Int) == 2, true, true, true, true) h rfl (Sbs.cons rfl (Sbs.cons rfl (Sbs.cons rfl (Sbs.cons rfl (Sbs.cons rfl (Sbs.cons rfl (Sbs.cons rfl (Sbs.cons rfl (Sbs.cons rfl (Sbs.cons rfl (Sbs.cons rfl (Sbs.cons rfl (Sbs.cons rfl (Sbs.cons rfl (Sbs.cons rfl (Sbs.cons rfl (Sbs.cons rfl (Sbs.cons rfl (Sbs.cons rfl (Sbs.cons rfl (Sbs.cons rfl (Sbs.cons rfl (Sbs.cons rfl (Sbs.cons rfl (Sbs.cons rfl (Sbs.cons rfl (Sbs.cons rfl (Sbs.cons rfl (Sbs.cons rfl (Sbs.cons rfl (Sbs.cons rfl (Sbs.cons rfl (Sbs.cons rfl (Sbs.nil)))))))))))))))))))))))))))))))))) (Splits.of [0, 1] kr rfl)
             ·
              have h := condF hb18 h
              refine TO.move rfl dc rfl (TO.move rfl dc rfl (TO.indexVecI (k := 0) hq9 Try.underlying63 sz_66 rfl dc rfl rfl rfl rfl (TO.fieldAddr fl_66_2 rfl dc rfl (show _ = ((k7 : Int).toNat) * 5 + 3 from rfl) (TO.loadVec (i := (k7 : Int).toNat) (j := 3) (k := 0) (q := q6) sc_4 enc_Gref05_Piece_len rfl dc rfl rfl (getO_get hq9) rfl dc rfl (TO.pick (b := false) rfl dc rfl rfl (TO.move rfl dc rfl ?_))))))
              refine TO.split (s := 40) rfl (fun hb19 => ?_) (fun hb19 => ?_)
              ·
               have h := condT hb19 h
               refine TO.skip rfl dc (TO.skip rfl dc (TO.skip rfl dc (TO.skip rfl dc (TO.skip rfl dc (TO.skip rfl dc (TO.skip rfl dc (TO.skip rfl dc (TO.skip rfl dc (TO.skip rfl dc (TO.skip rfl dc (TO.skip rfl dc (TO.skip rfl dc (TO.skip rfl dc ?_)))))))))))))
               refine TO.skip rfl dc (TO.skip rfl dc (TO.skip rfl dc (TO.skip rfl dc (TO.pick (b := true) rfl dc rfl rfl (TO.pick (b := true) rfl dc rfl rfl (TO.nil (TX.next (TC.condT rfl (TC.skip ?_)))))))))
               exact TX.meetD (q6.Kind, (q6.Kind : Int) == 2, false, q6.Joiner, true, true) h rfl (Sbs.cons rfl (Sbs.cons rfl (Sbs.cons rfl (Sbs.cons rfl (Sbs.cons rfl (Sbs.cons rfl (Sbs.cons rfl (Sbs.cons rfl (Sbs.cons rfl (Sbs.cons rfl (Sbs.cons rfl (Sbs.cons rfl (Sbs.cons rfl (Sbs.cons rfl (Sbs.cons rfl (Sbs.cons rfl (Sbs.cons rfl (Sbs.cons rfl (Sbs.cons rfl (Sbs.cons rfl (Sbs.cons rfl (Sbs.cons rfl (Sbs.cons rfl (Sbs.cons rfl (Sbs.cons rfl (Sbs.cons rfl (Sbs.cons rfl (Sbs.cons rfl (Sbs.cons rfl (Sbs.cons rfl (Sbs.cons rfl (Sbs.cons rfl (Sbs.cons rfl (Sbs.nil)))))))))))))))))))))))))))))))))) (Splits.of [0, 1] kr rfl)
              ·
               have h := condF hb19 h
               refine TO.move rfl dc rfl (TO.bin rfl dc rfl rfl bin_eql (TO.move rfl dc rfl ?_))
               refine TO.split (s := 43) rfl (fun hb20 => ?_) (fun hb20 => ?_)
               ·
                have h := condT hb20 h
                refine TO.move rfl dc rfl (TO.move rfl dc rfl (TO.indexVecI (k := 0) hq9 Try.underlying63 sz_66 rfl dc rfl rfl rfl rfl (TO.fieldAddr fl_66_1 rfl dc rfl (show _ = ((k7 : Int).toNat) * 5 + 2 from rfl) (TO.loadVec (i := (k7 : Int).toNat) (j := 2) (k := 0) (q := q6) sc_3 enc_Gref05_Piece_len rfl dc rfl rfl (getO_get hq9) rfl dc rfl (TO.bin rfl dc rfl rfl bin_eql (TO.pick (b := true) rfl dc rfl rfl (TO.move rfl dc rfl ?_)))))))
                refine TO.split (s := 51) rfl (fun hb21 => ?_) (fun hb21 => ?_)
                ·
                 have h := condT hb21 h
                 refine TO.move rfl dc rfl (TO.move rfl dc rfl ?_)
                 obtain ⟨hg5, h⟩ := grdE h
                 refine TO.bin rfl dc rfl rfl (bin_sub (r := k7 - 1) (IntWalk.i64_in _ hg5)) ?_
                 obtain ⟨q7, hq10, h⟩ := andE h
                 refine TO.indexVecI (k := 0) hq10 Try.underlying63 sz_66 rfl dc rfl rfl rfl rfl (TO.fieldAddr fl_66_2 rfl dc rfl (show _ = ((k7 - 1 : Int).toNat) * 5 + 3 from rfl) (TO.loadVec (i := (k7 - 1 : Int).toNat) (j := 3) (k := 0) (q := q7) sc_4 enc_Gref05_Piece_len rfl dc rfl rfl (getO_get hq10) rfl dc rfl (TO.pick (b := true) rfl dc rfl rfl (TO.pick (b := false) rfl dc rfl rfl (TO.pick (b := true) rfl dc rfl rfl (TO.nil (TX.next ?_)))))))
                 refine TC.condB rfl (fun hb22 => ?_) (fun hb22 => ?_)
                 ·
                  have h := condT hb22 h
                  refine TC.skip ?_
                  exact TX.meetD (q6.Kind, (q6.Kind : Int) == 2, false, q6.Joiner, false, q7.Joiner) h rfl (Sbs.cons rfl (Sbs.cons rfl (Sbs.cons rfl (Sbs.cons rfl (Sbs.cons rfl (Sbs.cons rfl (Sbs.cons rfl (Sbs.cons rfl (Sbs.cons rfl (Sbs.cons rfl (Sbs.cons rfl (Sbs.cons rfl (Sbs.cons rfl (Sbs.cons rfl (Sbs.cons rfl (Sbs.cons rfl (Sbs.cons rfl (Sbs.cons rfl (Sbs.cons rfl (Sbs.cons rfl (Sbs.cons rfl (Sbs.cons rfl (Sbs.cons rfl (Sbs.cons rfl (Sbs.cons rfl (Sbs.cons rfl (Sbs.cons rfl (Sbs.cons rfl (Sbs.cons rfl (Sbs.cons rfl (Sbs.cons rfl (Sbs.cons rfl (Sbs.cons rfl (Sbs.nil)))))))))))))))))))))))))))))))))) (Splits.of [0, 1] kr rfl)
                 ·
                  have h := condF hb22 h
                  refine TC.exit (TX.thenExit (TX.thenExit (TX.blockHere (TX.blockNormal ?_))))
                  exact TX.meetD k7 h rfl (Sbs.cons rfl (Sbs.cons rfl (Sbs.cons rfl (Sbs.cons rfl (Sbs.cons rfl (Sbs.nil)))))) (Splits.of [0, 1] kr rfl)
                ·
                 have h := condF hb21 h
                 refine TO.skip rfl dc (TO.skip rfl dc (TO.skip rfl dc (TO.skip rfl dc (TO.skip rfl dc (TO.skip rfl dc (TO.pick (b := false) rfl dc rfl rfl (TO.pick (b := false) rfl dc rfl rfl (TO.pick (b := true) rfl dc rfl rfl (TO.nil (TX.next (TC.condF rfl (TC.exit (TX.thenExit ?_)))))))))))))
                 refine TX.thenExit (TX.blockHere (TX.blockNormal ?_))
                 exact TX.meetD k7 h rfl (Sbs.cons rfl (Sbs.cons rfl (Sbs.cons rfl (Sbs.cons rfl (Sbs.cons rfl (Sbs.nil)))))) (Splits.of [0, 1] kr rfl)
               ·
                have h := condF hb20 h
                refine TO.skip rfl dc (TO.skip rfl dc (TO.skip rfl dc (TO.skip rfl dc (TO.skip rfl dc (TO.skip rfl dc (TO.pick (b := false) rfl dc rfl rfl (TO.move rfl dc rfl (TO.skip rfl dc (TO.skip rfl dc (TO.skip rfl dc (TO.skip rfl dc (TO.skip rfl dc (TO.skip rfl dc ?_)))))))))))))
                refine TO.pick (b := false) rfl dc rfl rfl (TO.pick (b := false) rfl dc rfl rfl (TO.pick (b := true) rfl dc rfl rfl (TO.nil (TX.next (TC.condF rfl (TC.exit (TX.thenExit (TX.thenExit (TX.blockHere (TX.blockNormal ?_))))))))))
                exact TX.meetD k7 h rfl (Sbs.cons rfl (Sbs.cons rfl (Sbs.cons rfl (Sbs.cons rfl (Sbs.cons rfl (Sbs.nil)))))) (Splits.of [0, 1] kr rfl)
            ·
             have h := condF hb17 h
             refine TO.skip rfl dc (TO.skip rfl dc (TO.skip rfl dc (TO.skip rfl dc (TO.skip rfl dc (TO.skip rfl dc (TO.skip rfl dc (TO.skip rfl dc (TO.skip rfl dc (TO.skip rfl dc (TO.skip rfl dc (TO.skip rfl dc (TO.skip rfl dc (TO.skip rfl dc ?_)))))))))))))
             refine TO.skip rfl dc (TO.skip rfl dc (TO.skip rfl dc (TO.skip rfl dc (TO.skip rfl dc (TO.skip rfl dc (TO.skip rfl dc (TO.skip rfl dc (TO.skip rfl dc (TO.skip rfl dc (TO.skip rfl dc (TO.skip rfl dc (TO.skip rfl dc (TO.skip rfl dc ?_)))))))))))))
             refine TO.skip rfl dc (TO.skip rfl dc (TO.skip rfl dc (TO.skip rfl dc (TO.skip rfl dc (TO.pick (b := false) rfl dc rfl rfl (TO.nil (TX.next (TC.condF rfl (TC.exit (TX.thenExit (TX.thenExit (TX.blockHere (TX.blockNormal ?_)))))))))))))
             exact TX.meetD k7 h rfl (Sbs.cons rfl (Sbs.cons rfl (Sbs.cons rfl (Sbs.cons rfl (Sbs.cons rfl (Sbs.nil)))))) (Splits.of [0, 1] kr rfl)
           ·
            rintro ⟨x7, x8, x9, x10, x11, x12⟩ h
            rw [hj4] at h
            show TC _ _ _ _ _ ([]) _ _ [(0, .string s1), (3, v2), (4, v5), (5, .int .i64 i3), (6, .int .i64 k7), (7, .int .i64 q1.Kind), (27, v2), (28, .int .i64 k7), (29, .pointer (some ⟨vblk v2, (k7 : Int).toNat * 5, none⟩)), (30, .pointer (some ⟨vblk v2, ((k7 : Int).toNat) * 5 + 2, none⟩)), (31, .int .i64 x7), (32, .bool x8), (33, .bool x9), (39, .bool x10), (40, .bool x11), (59, .bool x12), (74, .int .i64 (i3 + 1)), (75, v2), (76, .int .i64 (r1.length : Int)), (77, .bool (decide (((i3 + 1) : Int) < (r1.length : Int)))), (80, undef), (81, undef), (82, undef), (83, undef), (84, undef), (85, undef), (86, undef), (87, undef), (88, undef), (96, .int .i64 q1.Kind), (97, .bool ((q1.Kind : Int) == 4)), (100, .int .i64 q1.Kind), (101, .bool ((q1.Kind : Int) == 9))] [vec enc_Gref05_Piece 66 5 v2 r1, vec enc_Gapi_Cell 52 3 v5 out4]
            refine TC.block (TC.region (TO.move rfl dc rfl ?_))
            obtain ⟨hg6, h⟩ := grdE h
            refine TO.bin rfl dc rfl rfl (bin_add (r := k7 + 1) (IntWalk.i64_in _ hg6)) (TO.assign rfl dc rfl (TO.nil (TX.blockNormal ?_)))
            subst hag3
            exact TX.againD (n3, k7 + 1) h (Nat.lt_succ_self _) rfl (Sbs.cons rfl (Sbs.cons rfl (Sbs.cons rfl (Sbs.cons rfl (Sbs.cons rfl (Sbs.cons rfl (Sbs.cons rfl (Sbs.cons rfl (Sbs.cons rfl (Sbs.cons rfl (Sbs.cons rfl (Sbs.cons rfl (Sbs.cons rfl (Sbs.cons rfl (Sbs.cons rfl (Sbs.cons rfl (Sbs.cons rfl (Sbs.cons rfl (Sbs.cons rfl (Sbs.cons rfl (Sbs.cons rfl (Sbs.cons rfl (Sbs.cons rfl (Sbs.nil)))))))))))))))))))))))) (Splits.of [0, 1] kr rfl)
     ·
      have h := condF hb2 h
      refine TO.skip rfl dc (TO.skip rfl dc (TO.skip rfl dc (TO.skip rfl dc (TO.pick (b := false) rfl dc rfl rfl (TO.move rfl dc rfl (TO.skip rfl dc (TO.skip rfl dc (TO.skip rfl dc (TO.skip rfl dc (TO.skip rfl dc (TO.skip rfl dc (TO.skip rfl dc (TO.skip rfl dc ?_)))))))))))))
      refine TO.skip rfl dc (TO.pick (b := false) rfl dc rfl rfl (TO.assign rfl dc rfl (TO.nil (TX.next (TC.condF rfl (TC.seq (TC.region (TO.move rfl dc rfl (TO.bin rfl dc rfl rfl bin_eql (TO.move rfl dc rfl ?_))))))))))
      refine TO.split (s := 95) rfl (fun hb23 => ?_) (fun hb23 => ?_)
      ·
       have h := condT hb23 h
       refine TO.skip rfl dc (TO.skip rfl dc (TO.pick (b := true) rfl dc rfl rfl (TO.move rfl dc rfl (TO.skip rfl dc (TO.skip rfl dc (TO.pick (b := true) rfl dc rfl rfl (TO.assign rfl dc rfl (TO.nil (TX.next (TC.condT rfl (TC.skip (TX.blockNormal ?_))))))))))))
       exact TX.meetD (i3 + 1) h rfl (Sbs.cons rfl (Sbs.cons rfl (Sbs.cons rfl (Sbs.cons rfl (Sbs.cons rfl (Sbs.nil)))))) (Splits.of [0, 1] kr rfl)
      ·
       have h := condF hb23 h
       refine TO.move rfl dc rfl (TO.bin rfl dc rfl rfl bin_eql (TO.pick (b := false) rfl dc rfl rfl (TO.move rfl dc rfl ?_)))
       refine TO.split (s := 99) rfl (fun hb24 => ?_) (fun hb24 => ?_)
       ·
        have h := condT hb24 h
        refine TO.skip rfl dc (TO.skip rfl dc (TO.pick (b := true) rfl dc rfl rfl (TO.assign rfl dc rfl (TO.nil (TX.next (TC.condT rfl (TC.skip (TX.blockNormal ?_))))))))
        exact TX.meetD (i3 + 1) h rfl (Sbs.cons rfl (Sbs.cons rfl (Sbs.cons rfl (Sbs.cons rfl (Sbs.cons rfl (Sbs.nil)))))) (Splits.of [0, 1] kr rfl)
       ·
        have h := condF hb24 h
        refine TO.move rfl dc rfl (TO.bin rfl dc rfl rfl bin_eql (TO.pick (b := false) rfl dc rfl rfl (TO.assign rfl dc rfl (TO.nil (TX.next ?_)))))
        refine TC.condB rfl (fun hb25 => ?_) (fun hb25 => ?_)
        ·
         have h := condT hb25 h
         refine TC.skip (TX.blockNormal ?_)
         exact TX.meetD (i3 + 1) h rfl (Sbs.cons rfl (Sbs.cons rfl (Sbs.cons rfl (Sbs.cons rfl (Sbs.cons rfl (Sbs.nil)))))) (Splits.of [0, 1] kr rfl)
        ·
         have h := condF hb25 h
         refine TC.block ?_
         refine TC.loopD (β := Nat × Int) (fun b => loopG (fun _ => none) (ref05_Cells_s4 r1 j2 q1) b.1 b.2 = some r) (fun b => []) (fun b => [(0, .string s1), (3, v2), (4, v5), (5, .int .i64 i3), (6, .int .i64 b.2), (7, .int .i64 q1.Kind), (74, undef), (75, undef), (76, undef), (77, undef), (80, undef), (81, undef), (82, undef), (83, undef), (84, undef), (85, undef), (86, undef), (87, undef), (88, undef), (96, .int .i64 q1.Kind), (97, .bool ((q1.Kind : Int) == 4)), (100, .int .i64 q1.Kind), (101, .bool ((q1.Kind : Int) == 9))]) (fun b => [vec enc_Gref05_Piece 66 5 v2 r1, vec enc_Gapi_Cell 52 3 v5 out4]) (fun b => b.1) (fuel, i3 + 1) h rfl (Sbs.cons rfl (Sbs.cons rfl (Sbs.cons rfl (Sbs.cons rfl (Sbs.cons rfl (Sbs.cons rfl (Sbs.cons rfl (Sbs.cons rfl (Sbs.cons rfl (Sbs.cons rfl (Sbs.cons rfl (Sbs.cons rfl (Sbs.cons rfl (Sbs.cons rfl (Sbs.cons rfl (Sbs.cons rfl (Sbs.cons rfl (Sbs.cons rfl (Sbs.cons rfl (Sbs.cons rfl (Sbs.cons rfl (Sbs.cons rfl (Sbs.cons rfl (Sbs.nil)))))))))))))))))))))))) (Splits.of [0, 1] kr rfl) ?_
         rintro ⟨n4, k10⟩ h
         cases n4 with
         | zero => exact noneE h
         | succ n4 =>
          obtain ⟨ag4, hag4⟩ : ∃ ag, ag = loopG (fun _ => none) (ref05_Cells_s4 r1 j2 q1) n4 := ⟨_, rfl⟩
          have h : ref05_Cells_s4 r1 j2 q1 ag4 k10 = some r := by rw [hag4]; exact h
          unfold ref05_Cells_s4 at h
          show TC _ _ _ _ _ ([]) _ _ [(0, .string s1), (3, v2), (4, v5), (5, .int .i64 i3), (6, .int .i64 k10), (7, .int .i64 q1.Kind), (74, undef), (75, undef), (76, undef), (77, undef), (80, undef), (81, undef), (82, undef), (83, undef), (84, undef), (85, undef), (86, undef), (87, undef), (88, undef), (96, .int .i64 q1.Kind), (97, .bool ((q1.Kind : Int) == 4)), (100, .int .i64 q1.Kind), (101, .bool ((q1.Kind : Int) == 9))] [vec enc_Gref05_Piece 66 5 v2 r1, vec enc_Gapi_Cell 52 3 v5 out4]
          obtain ⟨j5, hj5, h⟩ := joinE h
          refine TC.cutN (β := Int × Bool × Bool × Bool × Bool × Bool) 0 rfl (fun b => j5 b.1 b.2.1 b.2.2.1 b.2.2.2.1 b.2.2.2.2.1 b.2.2.2.2.2 = some r) (fun b => []) (fun b => [(0, .string s1), (3, v2), (4, v5), (5, .int .i64 i3), (6, .int .i64 k10), (7, .int .i64 q1.Kind), (27, v2), (28, .int .i64 k10), (29, .pointer (some ⟨vblk v2, (k10 : Int).toNat * 5, none⟩)), (30, .pointer (some ⟨vblk v2, ((k10 : Int).toNat) * 5 + 2, none⟩)), (31, .int .i64 b.1), (32, .bool b.2.1), (33, .bool b.2.2.1), (39, .bool b.2.2.2.1), (40, .bool b.2.2.2.2.1), (59, .bool b.2.2.2.2.2), (74, undef), (75, undef), (76, undef), (77, undef), (80, undef), (81, undef), (82, undef), (83, undef), (84, undef), (85, undef), (86, undef), (87, undef), (88, undef), (96, .int .i64 q1.Kind), (97, .bool ((q1.Kind : Int) == 4)), (100, .int .i64 q1.Kind), (101, .bool ((q1.Kind : Int) == 9))]) (fun b => [vec enc_Gref05_Piece 66 5 v2 r1, vec enc_Gapi_Cell 52 3 v5 out4]) (fun cut => ?_) ?_
          ·
           refine cut (TC.seq (TC.region (TO.move rfl dc rfl (TO.move rfl dc rfl (TO.lenVec (k := 0) rfl dc rfl rfl Try.underlying63 (TO.bin rfl dc rfl rfl bin_lss (TO.move rfl dc rfl ?_)))))))
           refine TO.split (s := 26) rfl (fun hb26 => ?_) (fun hb26 => ?_)
           ·
            have h := condT hb26 h
            refine TO.move rfl dc rfl (TO.move rfl dc rfl ?_)
            obtain ⟨q8, hq11, h⟩ := andE h
            refine TO.indexVecI (k := 0) hq11 Try.underlying63 sz_66 rfl dc rfl rfl rfl rfl (TO.fieldAddr fl_66_1 rfl dc rfl (show _ = ((k10 : Int).toNat) * 5 + 2 from rfl) (TO.loadVec (i := (k10 : Int).toNat) (j := 2) (k := 0) (q := q8) sc_3 enc_Gref05_Piece_len rfl dc rfl rfl (getO_get hq11) rfl dc rfl (TO.bin rfl dc rfl rfl bin_eql (TO.move rfl dc rfl ?_))))
            refine TO.split (s := 33) rfl (fun hb27 => ?_) (fun hb27 => ?_)
            ·
             have h := condT hb27 h
             refine TO.skip rfl dc (TO.skip rfl dc (TO.skip rfl dc (TO.skip rfl dc (TO.skip rfl dc (TO.pick (b := true) rfl dc rfl rfl (TO.move rfl dc rfl (TO.skip rfl dc (TO.skip rfl dc (TO.skip rfl dc (TO.skip rfl dc (TO.skip rfl dc (TO.skip rfl dc (TO.skip rfl dc ?_)))))))))))))
             refine TO.skip rfl dc (TO.skip rfl dc (TO.skip rfl dc (TO.skip rfl dc (TO.skip rfl dc (TO.skip rfl dc (TO.skip rfl dc (TO.skip rfl dc (TO.skip rfl dc (TO.skip rfl dc (TO.skip rfl dc (TO.pick (b := true) rfl dc rfl rfl (TO.pick (b := true) rfl dc rfl rfl (TO.nil ?_)))))))))))))
             refine TX.next (TC.condT rfl (TC.skip ?_))
             exact TX.meetD (q8.Kind, (q8.Kind : Int) == 2, true, true, true, true) h rfl (Sbs.cons rfl (Sbs.cons rfl (Sbs.cons rfl (Sbs.cons rfl (Sbs.cons rfl (Sbs.cons rfl (Sbs.cons rfl (Sbs.cons rfl (Sbs.cons rfl (Sbs.cons rfl (Sbs.cons rfl (Sbs.cons rfl (Sbs.cons rfl (Sbs.cons rfl (Sbs.cons rfl (Sbs.cons rfl (Sbs.cons rfl (Sbs.cons rfl (Sbs.cons rfl (Sbs.cons rfl (Sbs.cons rfl (Sbs.cons rfl (Sbs.cons rfl (Sbs.cons rfl (Sbs.cons rfl (Sbs.cons rfl (Sbs.cons rfl (Sbs.cons rfl (Sbs.cons rfl (Sbs.cons rfl (Sbs.cons rfl (Sbs.cons rfl (Sbs.cons rfl (Sbs.nil)))))))))))))))))))))))))))))))))) (Splits.of [0, 1] kr rfl)
            ·
             have h := condF hb27 h
             refine TO.move rfl dc rfl (TO.move rfl dc rfl (TO.indexVecI (k := 0) hq11 Try.underlying63 sz_66 rfl dc rfl rfl rfl rfl (TO.fieldAddr fl_66_2 rfl dc rfl (show _ = ((k10 : Int).toNat) * 5 + 3 from rfl) (TO.loadVec (i := (k10 : Int).toNat) (j := 3) (k := 0) (q := q8) sc_4 enc_Gref05_Piece_len rfl dc rfl rfl (getO_get hq11) rfl dc rfl (TO.pick (b := false) rfl dc rfl rfl (TO.move rfl dc rfl ?_))))))
             refine TO.split (s := 40) rfl (fun hb28 => ?_) (fun hb28 => ?_)
             ·
              have h := condT hb28 h
              refine TO.skip rfl dc (TO.skip rfl dc (TO.skip rfl dc (TO.skip rfl dc (TO.skip rfl dc (TO.skip rfl dc (TO.skip rfl dc (TO.skip rfl dc (TO.skip rfl dc (TO.skip rfl dc (TO.skip rfl dc (TO.skip rfl dc (TO.skip rfl dc (TO.skip rfl dc ?_)))))))))))))
              refine TO.skip rfl dc (TO.skip rfl dc (TO.skip rfl dc (TO.skip rfl dc (TO.pick (b := true) rfl dc rfl rfl (TO.pick (b := true) rfl dc rfl rfl (TO.nil (TX.next (TC.condT rfl (TC.skip ?_)))))))))
              exact TX.meetD (q8.Kind, (q8.Kind : Int) == 2, false, q8.Joiner, true, true) h rfl (Sbs.cons rfl (Sbs.cons rfl (Sbs.cons rfl (Sbs.cons rfl (Sbs.cons rfl (Sbs.cons rfl (Sbs.cons rfl (Sbs.cons rfl (Sbs.cons rfl (Sbs.cons rfl (Sbs.cons rfl (Sbs.cons rfl (Sbs.cons rfl (Sbs.cons rfl (Sbs.cons rfl (Sbs.cons rfl (Sbs.cons rfl (Sbs.cons rfl (Sbs.cons rfl (Sbs.cons rfl (Sbs.cons rfl (Sbs.cons rfl (Sbs.cons rfl (Sbs.cons rfl (Sbs.cons rfl (Sbs.cons rfl (Sbs.cons rfl (Sbs.cons rfl (Sbs.cons rfl (Sbs.cons rfl (Sbs.cons rfl (Sbs.cons rfl (Sbs.cons rfl (Sbs.nil)))))))))))))))))))))))))))))))))) (Splits.of [0, 1] kr rfl)
             ·
              have h := condF hb28 h
              refine TO.move rfl dc rfl (TO.bin rfl dc rfl rfl bin_eql (TO.move rfl dc rfl ?_))
              refine TO.split (s := 43) rfl (fun hb29 => ?_) (fun hb29 => ?_)
              ·
               have h := condT hb29 h
               refine TO.move rfl dc rfl (TO.move rfl dc rfl (TO.indexVecI (k := 0) hq11 Try.underlying63 sz_66 rfl dc rfl rfl rfl rfl (TO.fieldAddr fl_66_1 rfl dc rfl (show _ = ((k10 : Int).toNat) * 5 + 2 from rfl) (TO.loadVec (i := (k10 : Int).toNat) (j := 2) (k := 0) (q := q8) sc_3 enc_Gref05_Piece_len rfl dc rfl rfl (getO_get hq11) rfl dc rfl (TO.bin rfl dc rfl rfl bin_eql (TO.pick (b := true) rfl dc rfl rfl (TO.move rfl dc rfl ?_)))))))
               refine TO.split (s := 51) rfl (fun hb30 => ?_) (fun hb30 => ?_)
               ·
                have h := condT hb30 h
                refine TO.move rfl dc rfl (TO.move rfl dc rfl ?_)
                obtain ⟨hg7, h⟩ := grdE h
                refine TO.bin rfl dc rfl rfl (bin_sub (r := k10 - 1) (IntWalk.i64_in _ hg7)) ?_
                obtain ⟨q9, hq12, h⟩ := andE h
                refine TO.indexVecI (k := 0) hq12 Try.underlying63 sz_66 rfl dc rfl rfl rfl rfl (TO.fieldAddr fl_66_2 rfl dc rfl (show _ = ((k10 - 1 : Int).toNat) * 5 + 3 from rfl) (TO.loadVec (i := (k10 - 1 : Int).toNat) (j := 3) (k := 0) (q := q9) sc_4 enc_Gref05_Piece_len rfl dc rfl rfl (getO_get hq12) rfl dc rfl (TO.pick (b := true) rfl dc rfl rfl (TO.pick (b := false) rfl dc rfl rfl (TO.pick (b := true) rfl dc rfl rfl (TO.nil (TX.next ?_)))))))
                refine TC.condB rfl (fun hb31 => ?_) (fun hb31 => ?_)
                ·
                 have h := condT hb31 h
                 refine TC.skip ?_
                 exact TX.meetD (q8.Kind, (q8.Kind : Int) == 2, false, q8.Joiner, false, q9.Joiner) h rfl (Sbs.cons rfl (Sbs.cons rfl (Sbs.cons rfl (Sbs.cons rfl (Sbs.cons rfl (Sbs.cons rfl (Sbs.cons rfl (Sbs.cons rfl (Sbs.cons rfl (Sbs.cons rfl (Sbs.cons rfl (Sbs.cons rfl (Sbs.cons rfl (Sbs.cons rfl (Sbs.cons rfl (Sbs.cons rfl (Sbs.cons rfl (Sbs.cons rfl (Sbs.cons rfl (Sbs.cons rfl (Sbs.cons rfl (Sbs.cons rfl (Sbs.cons rfl (Sbs.cons rfl (Sbs.cons rfl (Sbs.cons rfl (Sbs.cons rfl (Sbs.cons rfl (Sbs.cons rfl (Sbs.cons rfl (Sbs.cons rfl (Sbs.cons rfl (Sbs.cons rfl (Sbs.nil)))))))))))))))))))))))))))))))))) (Splits.of [0, 1] kr rfl)
                ·
                 have h := condF hb31 h
                 refine TC.exit (TX.thenExit (TX.thenExit (TX.blockHere (TX.blockNormal ?_))))
                 exact TX.meetD k10 h rfl (Sbs.cons rfl (Sbs.cons rfl (Sbs.cons rfl (Sbs.cons rfl (Sbs.cons rfl (Sbs.nil)))))) (Splits.of [0, 1] kr rfl)
               ·
                have h := condF hb30 h
                refine TO.skip rfl dc (TO.skip rfl dc (TO.skip rfl dc (TO.skip rfl dc (TO.skip rfl dc (TO.skip rfl dc (TO.pick (b := false) rfl dc rfl rfl (TO.pick (b := false) rfl dc rfl rfl (TO.pick (b := true) rfl dc rfl rfl (TO.nil (TX.next (TC.condF rfl (TC.exit (TX.thenExit ?_)))))))))))))
                refine TX.thenExit (TX.blockHere (TX.blockNormal ?_))
                exact TX.meetD k10 h rfl (Sbs.cons rfl (Sbs.cons rfl (Sbs.cons rfl (Sbs.cons rfl (Sbs.cons rfl (Sbs.nil)))))) (Splits.of [0, 1] kr rfl)
              ·
               have h := condF hb29 h
               refine TO.skip rfl dc (TO.skip rfl dc (TO.skip rfl dc (TO.skip rfl dc (TO.skip rfl dc (TO.skip rfl dc (TO.pick (b := false) rfl dc rfl rfl (TO.move rfl dc rfl (TO.skip rfl dc (TO.skip rfl dc (TO.skip rfl dc (TO.skip rfl dc (TO.skip rfl dc (TO.skip rfl dc ?_)))))))))))))
               refine TO.pick (b := false) rfl dc rfl rfl (TO.pick (b := false) rfl dc rfl rfl (TO.pick (b := true) rfl dc rfl rfl (TO.nil (TX.next (TC.condF rfl (TC.exit (TX.thenExit (TX.thenExit (TX.blockHere (TX.blockNormal ?_))))))))))
               exact TX.meetD k10 h rfl (Sbs.cons rfl (Sbs.cons rfl (Sbs.cons rfl (Sbs.cons rfl (Sbs.cons rfl (Sbs.nil)))))) (Splits.of [0, 1] kr rfl)
           ·
            have h := condF hb26 h
            refine TO.skip rfl dc (TO.skip rfl dc (TO.skip rfl dc (TO.skip rfl dc (TO.skip rfl dc (TO.skip rfl dc (TO.skip rfl dc (TO.skip rfl dc (TO.skip rfl dc (TO.skip rfl dc (TO.skip rfl dc (TO.skip rfl dc (TO.skip rfl dc (TO.skip rfl dc ?_)))))))))))))
            refine TO.skip rfl dc (TO.skip rfl dc (TO.skip rfl dc (TO.skip rfl dc (TO.skip rfl dc (TO.skip rfl dc (TO.skip rfl dc (TO.skip rfl dc (TO.skip rfl dc (TO.skip rfl dc (TO.skip rfl dc (TO.skip rfl dc (TO.skip rfl dc (TO.skip rfl dc ?_)))))))))))))
            refine TO.skip rfl dc (TO.skip rfl dc (TO.skip rfl dc (TO.skip rfl dc (TO.skip rfl dc (TO.pick (b := false) rfl dc rfl rfl (TO.nil (TX.next (TC.condF rfl (TC.exit (TX.thenExit (TX.thenExit (TX.blockHere (TX.blockNormal ?_)))))))))))))
            exact TX.meetD k10 h rfl (Sbs.cons rfl (Sbs.cons rfl (Sbs.cons rfl (Sbs.cons rfl (Sbs.cons rfl (Sbs.nil)))))) (Splits.of [0, 1] kr rfl)
          ·
           rintro ⟨x13, x14, x15, x16, x17, x18⟩ h
           rw [hj5] at h
           show TC _ _ _ _ _ ([]) _ _ [(0, .string s1), (3, v2), (4, v5), (5, .int .i64 i3), (6, .int .i64 k10), (7, .int .i64 q1.Kind), (27, v2), (28, .int .i64 k10), (29, .pointer (some ⟨vblk v2, (k10 : Int).toNat * 5, none⟩)), (30, .pointer (some ⟨vblk v2, ((k10 : Int).toNat) * 5 + 2, none⟩)), (31, .int .i64 x13), (32, .bool x14), (33, .bool x15), (39, .bool x16), (40, .bool x17), (59, .bool x18), (74, undef), (75, undef), (76, undef), (77, undef), (80, undef), (81, undef), (82, undef), (83, undef), (84, undef), (85, undef), (86, undef), (87, undef), (88, undef), (96, .int .i64 q1.Kind), (97, .bool ((q1.Kind : Int) == 4)), (100, .int .i64 q1.Kind), (101, .bool ((q1.Kind : Int) == 9))] [vec enc_Gref05_Piece 66 5 v2 r1, vec enc_Gapi_Cell 52 3 v5 out4]
           refine TC.block (TC.region (TO.move rfl dc rfl ?_))
           obtain ⟨hg8, h⟩ := grdE h
           refine TO.bin rfl dc rfl rfl (bin_add (r := k10 + 1) (IntWalk.i64_in _ hg8)) (TO.assign rfl dc rfl (TO.nil (TX.blockNormal ?_)))
           subst hag4
           exact TX.againD (n4, k10 + 1) h (Nat.lt_succ_self _) rfl (Sbs.cons rfl (Sbs.cons rfl (Sbs.cons rfl (Sbs.cons rfl (Sbs.cons rfl (Sbs.cons rfl (Sbs.cons rfl (Sbs.cons rfl (Sbs.cons rfl (Sbs.cons rfl (Sbs.cons rfl (Sbs.cons rfl (Sbs.cons rfl (Sbs.cons rfl (Sbs.cons rfl (Sbs.cons rfl (Sbs.cons rfl (Sbs.cons rfl (Sbs.cons rfl (Sbs.cons rfl (Sbs.cons rfl (Sbs.cons rfl (Sbs.cons rfl (Sbs.nil)))))))))))))))))))))))) (Splits.of [0, 1] kr rfl)
    ·
     rintro k1 h
     rw [hj2] at h
     show TC _ _ _ _ _ ([]) _ _ [(0, .string s1), (3, v2), (4, v5), (5, .int .i64 i3), (6, .int .i64 k1)] [vec enc_Gref05_Piece 66 5 v2 r1, vec enc_Gapi_Cell 52 3 v5 out4]
     obtain ⟨j6, hj6, h⟩ := joinE h
     refine TC.cutN (β := Int × Int × Int × Int × Nat) 1 rfl (fun b => j6 b.1 b.2.1 b.2.2.1 b.2.2.2.1 = some r) (fun b => []) (fun b => [(0, .string s1), (3, v2), (4, v5), (5, .int .i64 b.1), (8, .pointer (some ⟨b.2.2.2.2, 0, none⟩))]) (fun b => [vec enc_Gref05_Piece 66 5 v2 r1, vec enc_Gapi_Cell 52 3 v5 out4, cells b.2.2.2.2 [.int .i64 b.2.1, .int .i64 b.2.2.1, .int .i64 b.2.2.2.1] 52]) (fun cut => ?_) ?_
     ·
      refine TC.seq ?_
      obtain ⟨q10, hq13, h⟩ := andE h
      obtain ⟨hg9, h⟩ := grdE h
      obtain ⟨q11, hq14, h⟩ := andE h
      refine TC.drawB (β := Nat) 16 15 _ [(0, 103, v2), (1, 104, .int .i64 i3), (2, 105, .pointer (some ⟨vblk v2, (i3 : Int).toNat * 5, none⟩)), (3, 106, .pointer (some ⟨vblk v2, ((i3 : Int).toNat) * 5, none⟩)), (4, 107, .pointer (some ⟨vblk v2, ((i3 : Int).toNat) * 5, none⟩)), (5, 108, .int .i64 q10.Span_From), (6, 109, v2), (7, 110, .int .i64 k1), (8, 111, .int .i64 (k1 - 1)), (9, 112, .pointer (some ⟨vblk v2, (k1 - 1 : Int).toNat * 5, none⟩)), (10, 113, .pointer (some ⟨vblk v2, ((k1 - 1 : Int).toNat) * 5, none⟩)), (11, 114, .pointer (some ⟨vblk v2, ((k1 - 1 : Int).toNat) * 5 + 1, none⟩)), (12, 115, .int .i64 q11.Span_To), (13, 116, .agg #[.int .i64 q10.Span_From, .int .i64 q11.Span_To]), (14, 117, .agg #[.int .i64 q10.Span_From, .int .i64 q11.Span_To, .int .i64 0])] (fun b2 => [(8, .pointer (some ⟨b2, 0, none⟩))]) (fun b2 => [vec enc_Gref05_Piece 66 5 v2 r1, vec enc_Gapi_Cell 52 3 v5 out4, cells b2 [.int .i64 0, .int .i64 0, .int .i64 0] 52]) mixed kr kr rfl dc dc (by rfl) kr kr (DrawPreX.cons ?_ (DrawPreX.cons ?_ (DrawPreX.cons ?_ (DrawPreX.cons ?_ (DrawPreX.cons ?_ (DrawPreX.cons ?_ (DrawPreX.cons ?_ (DrawPreX.cons ?_ (DrawPreX.cons ?_ (DrawPreX.cons ?_ (DrawPreX.cons ?_ (DrawPreX.cons ?_ (DrawPreX.cons ?_ (DrawPreX.cons ?_ (DrawPreX.cons ?_ (DrawPreX.here DrawPreX.nil)))))))))))))))) (fun b2 => (DrawPreX.cons ?_ (DrawPreX.cons ?_ (DrawPreX.cons ?_ (DrawPreX.cons ?_ (DrawPreX.cons ?_ (DrawPreX.cons ?_ (DrawPreX.cons ?_ (DrawPreX.cons ?_ (DrawPreX.cons ?_ (DrawPreX.cons ?_ (DrawPreX.cons ?_ (DrawPreX.cons ?_ (DrawPreX.cons ?_ (DrawPreX.cons ?_ (DrawPreX.cons ?_ (DrawPreX.here DrawPreX.nil))))))))))))))))) ?_ ?_
      ·
       intro D hn hd hcl hu hi
       refine TO.move rfl dc (dl_old (by rfl) rfl) ?_
       exact TX.quiet 0 hu hi rfl
      ·
       intro D hn hd hcl hu hi
       refine TO.move rfl dc (dl_old (by rfl) rfl) ?_
       exact TX.quiet 1 hu hi rfl
      ·
       intro D hn hd hcl hu hi
       refine TO.indexVecI (k := 0) hq13 Try.underlying63 sz_66 rfl dc (dl_lookup (m := 0) hu rfl (hd 0 dc)) (dl_lookup (m := 1) hu rfl (hd 1 dc)) rfl rfl ?_
       exact TX.quiet 2 hu hi rfl
      ·
       intro D hn hd hcl hu hi
       refine TO.fieldAddr fl_66_0 rfl dc (dl_lookup (m := 2) hu rfl (hd 2 dc)) (show _ = ((i3 : Int).toNat) * 5 from rfl) ?_
       exact TX.quiet 3 hu hi rfl
      ·
       intro D hn hd hcl hu hi
       refine TO.fieldAddr fl_50_0 rfl dc (dl_lookup (m := 3) hu rfl (hd 3 dc)) (show _ = ((i3 : Int).toNat) * 5 from rfl) ?_
       exact TX.quiet 4 hu hi rfl
      ·
       intro D hn hd hcl hu hi
       refine TO.loadVec (i := (i3 : Int).toNat) (j := 0) (k := 0) (q := q10) sc_3 enc_Gref05_Piece_len rfl dc (dl_lookup (m := 4) hu rfl (hd 4 dc)) rfl (getO_get hq13) rfl dc rfl ?_
       exact TX.quiet 5 hu hi rfl
      ·
       intro D hn hd hcl hu hi
       refine TO.move rfl dc (dl_old (by rfl) rfl) ?_
       exact TX.quiet 6 hu hi rfl
      ·
       intro D hn hd hcl hu hi
       refine TO.move rfl dc (dl_old (by rfl) rfl) ?_
       exact TX.quiet 7 hu hi rfl
      ·
       intro D hn hd hcl hu hi
       refine TO.bin rfl dc (dl_lookup (m := 7) hu rfl (hd 7 dc)) rfl (bin_sub (r := k1 - 1) (IntWalk.i64_in _ hg9)) ?_
       exact TX.quiet 8 hu hi rfl
      ·
       intro D hn hd hcl hu hi
       refine TO.indexVecI (k := 0) hq14 Try.underlying63 sz_66 rfl dc (dl_lookup (m := 6) hu rfl (hd 6 dc)) (dl_lookup (m := 8) hu rfl (hd 8 dc)) rfl rfl ?_
       exact TX.quiet 9 hu hi rfl
      ·
       intro D hn hd hcl hu hi
       refine TO.fieldAddr fl_66_0 rfl dc (dl_lookup (m := 9) hu rfl (hd 9 dc)) (show _ = ((k1 - 1 : Int).toNat) * 5 from rfl) ?_
       exact TX.quiet 10 hu hi rfl
      ·
       intro D hn hd hcl hu hi
       refine TO.fieldAddr fl_50_1 rfl dc (dl_lookup (m := 10) hu rfl (hd 10 dc)) (show _ = ((k1 - 1 : Int).toNat) * 5 + 1 from rfl) ?_
       exact TX.quiet 11 hu hi rfl
      ·
       intro D hn hd hcl hu hi
       refine TO.loadVec (i := (k1 - 1 : Int).toNat) (j := 1) (k := 0) (q := q11) sc_3 enc_Gref05_Piece_len rfl dc (dl_lookup (m := 11) hu rfl (hd 11 dc)) rfl (getO_get hq14) rfl dc rfl ?_
       exact TX.quiet 12 hu hi rfl
      ·
       intro D hn hd hcl hu hi
       refine TO.build (v := .agg #[.int .i64 q10.Span_From, .int .i64 q11.Span_To]) (ps := [(0, .tmp 108), (1, .tmp 115)]) rfl dc (evP.cons (dl_lookup (m := 5) hu rfl (hd 5 dc)) (evP.cons (dl_lookup (m := 12) hu rfl (hd 12 dc)) evP.nil)) (fun _ => by kernel_rfl) ?_
       exact TX.quiet 13 hu hi rfl
      ·
       intro D hn hd hcl hu hi
       refine TO.build (v := .agg #[.int .i64 q10.Span_From, .int .i64 q11.Span_To, .int .i64 0]) (ps := [(0, .tmp 116)]) rfl dc (evP.cons (dl_lookup (m := 13) hu rfl (hd 13 dc)) evP.nil) (fun _ => by kernel_rfl) ?_
       exact TX.quiet 14 hu hi rfl
      ·
       intro D hn hd hcl hu hi
       refine TO.move rfl dc (dl_old (by rfl) rfl) ?_
       exact TX.quiet 0 hu hi rfl
      ·
       intro D hn hd hcl hu hi
       refine TO.move rfl dc (dl_old (by rfl) rfl) ?_
       exact TX.quiet 1 hu hi rfl
      ·
       intro D hn hd hcl hu hi
       refine TO.indexVecI (k := 0) hq13 Try.underlying63 sz_66 rfl dc (dl_lookup (m := 0) hu rfl (hd 0 dc)) (dl_lookup (m := 1) hu rfl (hd 1 dc)) rfl rfl ?_
       exact TX.quiet 2 hu hi rfl
      ·
       intro D hn hd hcl hu hi
       refine TO.fieldAddr fl_66_0 rfl dc (dl_lookup (m := 2) hu rfl (hd 2 dc)) (show _ = ((i3 : Int).toNat) * 5 from rfl) ?_
       exact TX.quiet 3 hu hi rfl
      ·
       intro D hn hd hcl hu hi
       refine TO.fieldAddr fl_50_0 rfl dc (dl_lookup (m := 3) hu rfl (hd 3 dc)) (show _ = ((i3 : Int).toNat) * 5 from rfl) ?_
       exact TX.quiet 4 hu hi rfl
      ·
       intro D hn hd hcl hu hi
       refine TO.loadVec (i := (i3 : Int).toNat) (j := 0) (k := 0) (q := q10) sc_3 enc_Gref05_Piece_len rfl dc (dl_lookup (m := 4) hu rfl (hd 4 dc)) rfl (getO_get hq13) rfl dc rfl ?_
       exact TX.quiet 5 hu hi rfl
      ·
       intro D hn hd hcl hu hi
       refine TO.move rfl dc (dl_old (by rfl) rfl) ?_
       exact TX.quiet 6 hu hi rfl
      ·
       intro D hn hd hcl hu hi
       refine TO.move rfl dc (dl_old (by rfl) rfl) ?_
       exact TX.quiet 7 hu hi rfl
      ·
       intro D hn hd hcl hu hi
       refine TO.bin rfl dc (dl_lookup (m := 7) hu rfl (hd 7 dc)) rfl (bin_sub (r := k1 - 1) (IntWalk.i64_in _ hg9)) ?_
       exact TX.quiet 8 hu hi rfl
      ·
       intro D hn hd hcl hu hi
       refine TO.indexVecI (k := 0) hq14 Try.underlying63 sz_66 rfl dc (dl_lookup (m := 6) hu rfl (hd 6 dc)) (dl_lookup (m := 8) hu rfl (hd 8 dc)) rfl rfl ?_
       exact TX.quiet 9 hu hi rfl
      ·
       intro D hn hd hcl hu hi
       refine TO.fieldAddr fl_66_0 rfl dc (dl_lookup (m := 9) hu rfl (hd 9 dc)) (show _ = ((k1 - 1 : Int).toNat) * 5 from rfl) ?_
       exact TX.quiet 10 hu hi rfl
      ·
       intro D hn hd hcl hu hi
       refine TO.fieldAddr fl_50_1 rfl dc (dl_lookup (m := 10) hu rfl (hd 10 dc)) (show _ = ((k1 - 1 : Int).toNat) * 5 + 1 from rfl) ?_
       exact TX.quiet 11 hu hi rfl
      ·
       intro D hn hd hcl hu hi
       refine TO.loadVec (i := (k1 - 1 : Int).toNat) (j := 1) (k := 0) (q := q11) sc_3 enc_Gref05_Piece_len rfl dc (dl_lookup (m := 11) hu rfl (hd 11 dc)) rfl (getO_get hq14) rfl dc rfl ?_
       exact TX.quiet 12 hu hi rfl
      ·
       intro D hn hd hcl hu hi
       refine TO.build (v := .agg #[.int .i64 q10.Span_From, .int .i64 q11.Span_To]) (ps := [(0, .tmp 108), (1, .tmp 115)]) rfl dc (evP.cons (dl_lookup (m := 5) hu rfl (hd 5 dc)) (evP.cons (dl_lookup (m := 12) hu rfl (hd 12 dc)) evP.nil)) (fun _ => by kernel_rfl) ?_
       exact TX.quiet 13 hu hi rfl
      ·
       intro D hn hd hcl hu hi
       refine TO.build (v := .agg #[.int .i64 q10.Span_From, .int .i64 q11.Span_To, .int .i64 0]) (ps := [(0, .tmp 116)]) rfl dc (evP.cons (dl_lookup (m := 13) hu rfl (hd 13 dc)) evP.nil) (fun _ => by kernel_rfl) ?_
       exact TX.quiet 14 hu hi rfl
      ·
       intro D hn hd hcl
       refine TO.alloc zr_52 rfl dc (fun b2 => ?_)
       exact fun a w ha hw => ⟨b2, Sbs.mid (by rfl) _ _ _ ha, hw⟩
      intro b2
      show TO _ _ _ _ _ _ _ _ _ _ [vec enc_Gref05_Piece 66 5 v2 r1, vec enc_Gapi_Cell 52 3 v5 out4, cells b2 [.int .i64 0, .int .i64 0, .int .i64 0] 52]
      refine TO.stores (k := 2) (vs := [.int .i64 q10.Span_From, .int .i64 q11.Span_To, .int .i64 0]) (l' := [.int .i64 q10.Span_From, .int .i64 q11.Span_To, .int .i64 0]) sz_52 rfl rfl rfl rfl rfl (show _ ≤ _ by simp) rfl rfl (TO.nil (TX.next (cut (TC.block ?_))))
      refine TC.loopD (β := Nat × Int × Int) (fun b => loopG (fun _ _ => none) (ref05_Cells_s5 r1 k1 j6 q10 q11) b.1 b.2.1 b.2.2 = some r) (fun b => []) (fun b => [(0, .string s1), (3, v2), (4, v5), (5, .int .i64 b.2.1), (6, .int .i64 k1), (8, .pointer (some ⟨b2, 0, none⟩))]) (fun b => [vec enc_Gref05_Piece 66 5 v2 r1, vec enc_Gapi_Cell 52 3 v5 out4, cells b2 [.int .i64 q10.Span_From, .int .i64 q11.Span_To, .int .i64 b.2.2] 52]) (fun b => b.1) (fuel, i3, 0) h rfl (Sbs.cons rfl (Sbs.cons rfl (Sbs.cons rfl (Sbs.cons rfl (Sbs.cons rfl (Sbs.cons rfl (Sbs.nil))))))) (Splits.of [0, 1, 2] kr rfl) ?_
      rintro ⟨n5, i7, c8⟩ h
      cases n5 with
      | zero => exact noneE h
      | succ n5 =>
       obtain ⟨ag5, hag5⟩ : ∃ ag, ag = loopG (fun _ _ => none) (ref05_Cells_s5 r1 k1 j6 q10 q11) n5 := ⟨_, rfl⟩
       have h : ref05_Cells_s5 r1 k1 j6 q10 q11 ag5 i7 c8 = some r := by rw [hag5]; exact h
       unfold ref05_Cells_s5 at h
       show TC _ _ _ _ _ ([]) _ _ [(0, .string s1), (3, v2), (4, v5), (5, .int .i64 i7), (6, .int .i64 k1), (8, .pointer (some ⟨b2, 0, none⟩))] [vec enc_Gref05_Piece 66 5 v2 r1, vec enc_Gapi_Cell 52 3 v5 out4, cells b2 [.int .i64 q10.Span_From, .int .i64 q11.Span_To, .int .i64 c8] 52]
       refine TC.seq (TC.seq (TC.region (TO.move rfl dc rfl (TO.move rfl dc rfl (TO.bin rfl dc rfl rfl bin_lss (TO.nil (TX.next ?_)))))))
       refine TC.condB rfl (fun hb32 => ?_) (fun hb32 => ?_)
       ·
        have h := condT hb32 h
        refine TC.skip (TX.next (TC.block (TC.seq ?_)))
        obtain ⟨q12, hq15, h⟩ := andE h
        refine TC.drawN 7 [(0, 121, .pointer (some ⟨b2, 2, none⟩)), (1, 122, .int .i64 c8), (2, 123, v2), (3, 124, .int .i64 i7), (4, 125, .pointer (some ⟨vblk v2, (i7 : Int).toNat * 5, none⟩)), (5, 126, .pointer (some ⟨vblk v2, ((i7 : Int).toNat) * 5 + 4, none⟩)), (6, 127, .int .i64 q12.Columns)] mixed kr kr dc (by rfl) kr kr (DrawPre.cons ?_ (DrawPre.cons ?_ (DrawPre.cons ?_ (DrawPre.cons ?_ (DrawPre.cons ?_ (DrawPre.cons ?_ (DrawPre.cons ?_ DrawPre.nil))))))) ?_
        ·
         intro D hn hd hcl hu hi
         refine TO.fieldAddr fl_52_1 rfl dc (dl_old (by rfl) rfl) (show _ = 2 from rfl) ?_
         exact TX.quiet 0 hu hi rfl
        ·
         intro D hn hd hcl hu hi
         refine TO.load (k := 2) sc_3 rfl dc (dl_lookup (m := 0) hu rfl (hd 0 dc)) rfl rfl ?_
         exact TX.quiet 1 hu hi rfl
        ·
         intro D hn hd hcl hu hi
         refine TO.move rfl dc (dl_old (by rfl) rfl) ?_
         exact TX.quiet 2 hu hi rfl
        ·
         intro D hn hd hcl hu hi
         refine TO.move rfl dc (dl_old (by rfl) rfl) ?_
         exact TX.quiet 3 hu hi rfl
        ·
         intro D hn hd hcl hu hi
         refine TO.indexVecI (k := 0) hq15 Try.underlying63 sz_66 rfl dc (dl_lookup (m := 2) hu rfl (hd 2 dc)) (dl_lookup (m := 3) hu rfl (hd 3 dc)) rfl rfl ?_
         exact TX.quiet 4 hu hi rfl
        ·
         intro D hn hd hcl hu hi
         refine TO.fieldAddr fl_66_3 rfl dc (dl_lookup (m := 4) hu rfl (hd 4 dc)) (show _ = ((i7 : Int).toNat) * 5 + 4 from rfl) ?_
         exact TX.quiet 5 hu hi rfl
        ·
         intro D hn hd hcl hu hi
         refine TO.loadVec (i := (i7 : Int).toNat) (j := 4) (k := 0) (q := q12) sc_3 enc_Gref05_Piece_len rfl dc (dl_lookup (m := 5) hu rfl (hd 5 dc)) rfl (getO_get hq15) rfl dc rfl ?_
         exact TX.quiet 6 hu hi rfl
        refine TO.max2 rfl dc rfl rfl (TO.fieldAddr fl_52_1 rfl dc rfl (show _ = 2 from rfl) ?_)
        refine TO.store (k := 2) (l' := [.int .i64 q10.Span_From, .int .i64 q11.Span_To, .int .i64 (max c8 q12.Columns)]) sz_3 rfl rfl rfl rfl rfl (fun _ _ => rfl) rfl ?_
        refine TO.nil (TX.next (TC.region (TO.move rfl dc rfl ?_)))
        obtain ⟨hg10, h⟩ := grdE h
        refine TO.bin rfl dc rfl rfl (bin_add (r := i7 + 1) (IntWalk.i64_in _ hg10)) (TO.assign rfl dc rfl (TO.nil (TX.blockNormal ?_)))
        subst hag5
        exact TX.againD (n5, i7 + 1, max c8 q12.Columns) h (Nat.lt_succ_self _) rfl (Sbs.cons rfl (Sbs.cons rfl (Sbs.cons rfl (Sbs.cons rfl (Sbs.cons rfl (Sbs.cons rfl (Sbs.nil))))))) (Splits.of [0, 1, 2] kr rfl)
       ·
        have h := condF hb32 h
        refine TC.exit (TX.thenExit (TX.thenExit (TX.blockHere ?_)))
        exact TX.meetD (i7, q10.Span_From, q11.Span_To, c8, b2) h rfl (Sbs.cons rfl (Sbs.cons rfl (Sbs.cons rfl (Sbs.cons rfl (Sbs.cons rfl (Sbs.nil)))))) (Splits.of [0, 1, 2] kr rfl)
     ·
      rintro ⟨i4, c3, c4, c5, b1⟩ h
      rw [hj6] at h
      show TC _ _ _ _ _ ([]) _ _ [(0, .string s1), (3, v2), (4, v5), (5, .int .i64 i4), (8, .pointer (some ⟨b1, 0, none⟩))] [vec enc_Gref05_Piece 66 5 v2 r1, vec enc_Gapi_Cell 52 3 v5 out4, cells b1 [.int .i64 c3, .int .i64 c4, .int .i64 c5] 52]
      refine TC.region (TO.move rfl dc rfl (TO.loads (k := 2) (cs := [.int .i64 c3, .int .i64 c4, .int .i64 c5]) rw_52 rfl dc rfl rfl rfl rfl ?_))
      refine TO.buildSlice (cs := [.int .i64 c3, .int .i64 c4, .int .i64 c5]) (te := 52) (ps := [(0, .tmp 133)]) rfl dc rfl (fun _ => by kernel_rfl) (fun b3 => ?_)
      obtain ⟨hg11, h⟩ := grdE h
      refine TO.appendVec (k := 1) (k2 := 3) (ys := [(⟨c3, c4, c5⟩ : Gapi_Cell)]) Try.underlying44 el_52 enc_Gapi_Cell_len enc_Gapi_Cell_one rfl dc rfl rfl rfl rfl rfl rfl hg11 (fun v6 => ?_)
      show TO _ _ _ _ _ _ _ _ _ _ [vec enc_Gref05_Piece 66 5 v2 r1, vec enc_Gapi_Cell 52 3 v6 (out4 ++ [(⟨c3, c4, c5⟩ : Gapi_Cell)]), cells b1 [.int .i64 c3, .int .i64 c4, .int .i64 c5] 52, cells b3 [.int .i64 c3, .int .i64 c4, .int .i64 c5] 52]
      refine TO.assign rfl dc rfl (TO.nil (TX.blockNormal ?_))
      subst hag1
      exact TX.againD (n1, out4 ++ [(⟨c3, c4, c5⟩ : Gapi_Cell)], i4, v6) h (Nat.lt_succ_self _) rfl (Sbs.cons rfl (Sbs.cons rfl (Sbs.cons rfl (Sbs.cons rfl (Sbs.nil))))) (Splits.of [0, 1] kr rfl)
   ·
    have h := condF hb1 h
    refine TC.exit (TX.thenExit (TX.thenExit (TX.blockHere ?_)))
    exact TX.meetD (out4, v5) h rfl (Sbs.cons rfl (Sbs.nil)) (Splits.of [1] kr rfl)
 ·
  rintro ⟨out1, v1⟩ h
  rw [hj1] at h
  show TC _ _ _ _ _ ([]) _ _ [(4, v1)] [vec enc_Gapi_Cell 52 3 v1 out1]
  refine TC.seq (TC.region (TO.move rfl dc rfl (TO.assign rfl dc rfl (TO.nil (TX.next (TC.ret ?_))))))
  cases h
  exact TX.fin (rs := [.tmp 2]) v1 (.inl rfl) Try.results16 (.cons (.tmp rfl) .nil) rfl (Splits.of [0] kr rfl)
end Go.Proofs.Ytnhdnpdbmgeheaa
namespace Go.Proofs.Ytnhdnpdbmgeheaa
open Go.RowKit Go.Lib
set_option linter.unusedVariables false
set_option linter.unusedSimpArgs false
def ref30_May_v (l1 : Gapi_Layout) : Option Bool := bcond (decide ((8 : Int) ≤ l1.Width)) ( bcond (decide ((l1.Width : Int) ≤ 256)) ( bcond (decide ((4 : Int) ≤ l1.Height)) ( bcond (decide ((l1.Height : Int) ≤ 200)) ( bcond (decide ((0 : Int) ≤ l1.Turn)) ( bcond (decide ((l1.Turn : Int) ≤ 7)) ( bcond (decide ((0 : Int) ≤ l1.Every)) ( some (decide ((l1.Every : Int) ≤ 512))
) ( some false
)
) ( some false
)
) ( some false
)
) ( some false
)
) ( some false
)
) ( some false
)
) ( some false
)
set_option maxRecDepth 100000 in
set_option maxHeartbeats 4000000 in
theorem ref30_May_fn {l1 : Gapi_Layout} {r : Bool} (h : ref30_May_v l1 = some r) : FnP Try.prog 15 [.agg #[.int .i64 l1.Width, .int .i64 l1.Height, .int .i64 l1.Turn, .int .i64 l1.Every]] (.bool r) := by
 unfold ref30_May_v at h
 refine FnP.intro Try.func15 rfl Try.ntmps15 (by simp) ?_
 intro w0 K
 refine TC.seq (TC.region ?_)
 refine TO.box rfl dc rfl (fun b1 => ?_)
 refine TO.assign rfl dc rfl (TO.nil (TX.next (TC.seq (TC.region (TO.fieldAddr fl_23_0 rfl dc rfl (show _ = 0 from rfl) (TO.load (k := 0) sc_3 rfl dc rfl rfl rfl (TO.bin rfl dc rfl rfl bin_geq (TO.move rfl dc rfl ?_))))))))
 refine TO.split (s := 6) rfl (fun hb1 => ?_) (fun hb1 => ?_)
 ·
  have h := condT hb1 h
  refine TO.fieldAddr fl_23_0 rfl dc rfl (show _ = 0 from rfl) (TO.load (k := 0) sc_3 rfl dc rfl rfl rfl (TO.bin rfl dc rfl rfl bin_leq (TO.pick (b := true) rfl dc rfl rfl (TO.move rfl dc rfl ?_))))
  refine TO.split (s := 11) rfl (fun hb2 => ?_) (fun hb2 => ?_)
  ·
   have h := condT hb2 h
   refine TO.fieldAddr fl_23_1 rfl dc rfl (show _ = 1 from rfl) (TO.load (k := 0) sc_3 rfl dc rfl rfl rfl (TO.bin rfl dc rfl rfl bin_geq (TO.pick (b := true) rfl dc rfl rfl (TO.move rfl dc rfl ?_))))
   refine TO.split (s := 16) rfl (fun hb3 => ?_) (fun hb3 => ?_)
   ·
    have h := condT hb3 h
    refine TO.fieldAddr fl_23_1 rfl dc rfl (show _ = 1 from rfl) (TO.load (k := 0) sc_3 rfl dc rfl rfl rfl (TO.bin rfl dc rfl rfl bin_leq (TO.pick (b := true) rfl dc rfl rfl (TO.move rfl dc rfl ?_))))
    refine TO.split (s := 21) rfl (fun hb4 => ?_) (fun hb4 => ?_)
    ·
     have h := condT hb4 h
     refine TO.fieldAddr fl_23_2 rfl dc rfl (show _ = 2 from rfl) (TO.load (k := 0) sc_3 rfl dc rfl rfl rfl (TO.bin rfl dc rfl rfl bin_geq (TO.pick (b := true) rfl dc rfl rfl (TO.move rfl dc rfl ?_))))
     refine TO.split (s := 26) rfl (fun hb5 => ?_) (fun hb5 => ?_)
     ·
      have h := condT hb5 h
      refine TO.fieldAddr fl_23_2 rfl dc rfl (show _ = 2 from rfl) (TO.load (k := 0) sc_3 rfl dc rfl rfl rfl (TO.bin rfl dc rfl rfl bin_leq (TO.pick (b := true) rfl dc rfl rfl (TO.move rfl dc rfl ?_))))
      refine TO.split (s := 31) rfl (fun hb6 => ?_) (fun hb6 => ?_)
      ·
       have h := condT hb6 h
       refine TO.fieldAddr fl_23_3 rfl dc rfl (show _ = 3 from rfl) (TO.load (k := 0) sc_3 rfl dc rfl rfl rfl (TO.bin rfl dc rfl rfl bin_geq (TO.pick (b := true) rfl dc rfl rfl (TO.move rfl dc rfl ?_))))
       refine TO.split (s := 36) rfl (fun hb7 => ?_) (fun hb7 => ?_)
       ·
        have h := condT hb7 h
        refine TO.fieldAddr fl_23_3 rfl dc rfl (show _ = 3 from rfl) (TO.load (k := 0) sc_3 rfl dc rfl rfl rfl (TO.bin rfl dc rfl rfl bin_leq (TO.pick (b := true) rfl dc rfl rfl (TO.assign rfl dc rfl (TO.nil (TX.next (TC.ret ?_)))))))
        cases h
        exact TX.fin (rs := [.tmp 2]) () (.inl rfl) Try.results15 (.cons (.tmp rfl) .nil) rfl Splits.nil
       ·
        have h := condF hb7 h
        refine TO.skip rfl dc (TO.skip rfl dc (TO.skip rfl dc (TO.pick (b := false) rfl dc rfl rfl (TO.assign rfl dc rfl (TO.nil (TX.next (TC.ret ?_)))))))
        cases h
        exact TX.fin (rs := [.tmp 2]) () (.inl rfl) Try.results15 (.cons (.tmp rfl) .nil) rfl Splits.nil
      ·
       have h := condF hb6 h
       refine TO.skip rfl dc (TO.skip rfl dc (TO.skip rfl dc (TO.pick (b := false) rfl dc rfl rfl (TO.move rfl dc rfl (TO.skip rfl dc (TO.skip rfl dc (TO.skip rfl dc (TO.pick (b := false) rfl dc rfl rfl (TO.assign rfl dc rfl (TO.nil (TX.next (TC.ret ?_))))))))))))
       cases h
       exact TX.fin (rs := [.tmp 2]) () (.inl rfl) Try.results15 (.cons (.tmp rfl) .nil) rfl Splits.nil
     ·
      have h := condF hb5 h
      refine TO.skip rfl dc (TO.skip rfl dc (TO.skip rfl dc (TO.pick (b := false) rfl dc rfl rfl (TO.move rfl dc rfl (TO.skip rfl dc (TO.skip rfl dc (TO.skip rfl dc (TO.pick (b := false) rfl dc rfl rfl (TO.move rfl dc rfl (TO.skip rfl dc (TO.skip rfl dc (TO.skip rfl dc (TO.pick (b := false) rfl dc rfl rfl ?_)))))))))))))
      refine TO.assign rfl dc rfl (TO.nil (TX.next (TC.ret ?_)))
      cases h
      exact TX.fin (rs := [.tmp 2]) () (.inl rfl) Try.results15 (.cons (.tmp rfl) .nil) rfl Splits.nil
    ·
     have h := condF hb4 h
     refine TO.skip rfl dc (TO.skip rfl dc (TO.skip rfl dc (TO.pick (b := false) rfl dc rfl rfl (TO.move rfl dc rfl (TO.skip rfl dc (TO.skip rfl dc (TO.skip rfl dc (TO.pick (b := false) rfl dc rfl rfl (TO.move rfl dc rfl (TO.skip rfl dc (TO.skip rfl dc (TO.skip rfl dc (TO.pick (b := false) rfl dc rfl rfl ?_)))))))))))))
     refine TO.move rfl dc rfl (TO.skip rfl dc (TO.skip rfl dc (TO.skip rfl dc (TO.pick (b := false) rfl dc rfl rfl (TO.assign rfl dc rfl (TO.nil (TX.next (TC.ret ?_))))))))
     cases h
     exact TX.fin (rs := [.tmp 2]) () (.inl rfl) Try.results15 (.cons (.tmp rfl) .nil) rfl Splits.nil
   ·
    have h := condF hb3 h
    refine TO.skip rfl dc (TO.skip rfl dc (TO.skip rfl dc (TO.pick (b := false) rfl dc rfl rfl (TO.move rfl dc rfl (TO.skip rfl dc (TO.skip rfl dc (TO.skip rfl dc (TO.pick (b := false) rfl dc rfl rfl (TO.move rfl dc rfl (TO.skip rfl dc (TO.skip rfl dc (TO.skip rfl dc (TO.pick (b := false) rfl dc rfl rfl ?_)))))))))))))
    refine TO.move rfl dc rfl (TO.skip rfl dc (TO.skip rfl dc (TO.skip rfl dc (TO.pick (b := false) rfl dc rfl rfl (TO.move rfl dc rfl (TO.skip rfl dc (TO.skip rfl dc (TO.skip rfl dc (TO.pick (b := false) rfl dc rfl rfl (TO.assign rfl dc rfl (TO.nil (TX.next (TC.ret ?_)))))))))))))
    cases h
    exact TX.fin (rs := [.tmp 2]) () (.inl rfl) Try.results15 (.cons (.tmp rfl) .nil) rfl Splits.nil
  ·
   have h := condF hb2 h
   refine TO.skip rfl dc (TO.skip rfl dc (TO.skip rfl dc (TO.pick (b := false) rfl dc rfl rfl (TO.move rfl dc rfl (TO.skip rfl dc (TO.skip rfl dc (TO.skip rfl dc (TO.pick (b := false) rfl dc rfl rfl (TO.move rfl dc rfl (TO.skip rfl dc (TO.skip rfl dc (TO.skip rfl dc (TO.pick (b := false) rfl dc rfl rfl ?_)))))))))))))
   refine TO.move rfl dc rfl (TO.skip rfl dc (TO.skip rfl dc (TO.skip rfl dc (TO.pick (b := false) rfl dc rfl rfl (TO.move rfl dc rfl (TO.skip rfl dc (TO.skip rfl dc (TO.skip rfl dc (TO.pick (b := false) rfl dc rfl rfl (TO.move rfl dc rfl (TO.skip rfl dc (TO.skip rfl dc (TO.skip rfl dc ?_)))))))))))))
   refine TO.pick (b := false) rfl dc rfl rfl (TO.assign rfl dc rfl (TO.nil (TX.next (TC.ret ?_))))
   cases h
   exact TX.fin (rs := [.tmp 2]) () (.inl rfl) Try.results15 (.cons (.tmp rfl) .nil) rfl Splits.nil
 ·
  have h := condF hb1 h
  refine TO.skip rfl dc (TO.skip rfl dc (TO.skip rfl dc (TO.pick (b := false) rfl dc rfl rfl (TO.move rfl dc rfl (TO.skip rfl dc (TO.skip rfl dc (TO.skip rfl dc (TO.pick (b := false) rfl dc rfl rfl (TO.move rfl dc rfl (TO.skip rfl dc (TO.skip rfl dc (TO.skip rfl dc (TO.pick (b := false) rfl dc rfl rfl ?_)))))))))))))
  refine TO.move rfl dc rfl (TO.skip rfl dc (TO.skip rfl dc (TO.skip rfl dc (TO.pick (b := false) rfl dc rfl rfl (TO.move rfl dc rfl (TO.skip rfl dc (TO.skip rfl dc (TO.skip rfl dc (TO.pick (b := false) rfl dc rfl rfl (TO.move rfl dc rfl (TO.skip rfl dc (TO.skip rfl dc (TO.skip rfl dc ?_)))))))))))))
  refine TO.pick (b := false) rfl dc rfl rfl (TO.move rfl dc rfl (TO.skip rfl dc (TO.skip rfl dc (TO.skip rfl dc (TO.pick (b := false) rfl dc rfl rfl (TO.assign rfl dc rfl (TO.nil (TX.next (TC.ret ?_)))))))))
  cases h
  exact TX.fin (rs := [.tmp 2]) () (.inl rfl) Try.results15 (.cons (.tmp rfl) .nil) rfl Splits.nil
def ref30_Space_v (s1 : ByteArray) (c1 : Gapi_Cell) : Option Bool := grd (I64 (c1.Span_To - c1.Span_From)) <| bcond (((c1.Span_To - c1.Span_From) : Int) == 1) ( andThen (getB s1 c1.Span_From) fun (c2 : Int) => some ((c2 : Int) == 32)
) ( some false
)
set_option maxRecDepth 100000 in
set_option maxHeartbeats 4000000 in
theorem ref30_Space_fn {s1 : ByteArray} {c1 : Gapi_Cell} {r : Bool} (h : ref30_Space_v s1 c1 = some r) : FnP Try.prog 27 [.string s1, .agg #[.int .i64 c1.Span_From, .int .i64 c1.Span_To, .int .i64 c1.Columns]] (.bool r) := by
 unfold ref30_Space_v at h
 refine FnP.intro Try.func27 rfl Try.ntmps27 (by simp) ?_
 intro w0 K
 refine TC.seq (TC.region ?_)
 refine TO.box rfl dc rfl (fun b1 => ?_)
 refine TO.assign rfl dc rfl (TO.nil (TX.next (TC.seq (TC.region (TO.fieldAddr fl_52_0 rfl dc rfl (show _ = 0 from rfl) (TO.fieldAddr fl_50_1 rfl dc rfl (show _ = 1 from rfl) (TO.load (k := 0) sc_3 rfl dc rfl rfl rfl (TO.fieldAddr fl_52_0 rfl dc rfl (show _ = 0 from rfl) (TO.fieldAddr fl_50_0 rfl dc rfl (show _ = 0 from rfl) (TO.load (k := 0) sc_3 rfl dc rfl rfl rfl ?_))))))))))
 obtain ⟨hg1, h⟩ := grdE h
 refine TO.bin rfl dc rfl rfl (bin_sub (r := c1.Span_To - c1.Span_From) (IntWalk.i64_in _ hg1)) (TO.bin rfl dc rfl rfl bin_eql (TO.move rfl dc rfl ?_))
 refine TO.split (s := 13) rfl (fun hb1 => ?_) (fun hb1 => ?_)
 ·
  have h := condT hb1 h
  refine TO.move rfl dc rfl (TO.fieldAddr fl_52_0 rfl dc rfl (show _ = 0 from rfl) (TO.fieldAddr fl_50_0 rfl dc rfl (show _ = 0 from rfl) (TO.load (k := 0) sc_3 rfl dc rfl rfl rfl ?_)))
  obtain ⟨c2, hq1, h⟩ := andE h
  refine TO.index rfl dc rfl rfl (index_stringI Try.underlying9 hq1) (TO.bin rfl dc rfl rfl bin_eql (TO.pick (b := true) rfl dc rfl rfl (TO.assign rfl dc rfl (TO.nil (TX.next (TC.ret ?_))))))
  cases h
  exact TX.fin (rs := [.tmp 4]) () (.inl rfl) Try.results27 (.cons (.tmp rfl) .nil) rfl Splits.nil
 ·
  have h := condF hb1 h
  refine TO.skip rfl dc (TO.skip rfl dc (TO.skip rfl dc (TO.skip rfl dc (TO.skip rfl dc (TO.skip rfl dc (TO.pick (b := false) rfl dc rfl rfl (TO.assign rfl dc rfl (TO.nil (TX.next (TC.ret ?_))))))))))
  cases h
  exact TX.fin (rs := [.tmp 4]) () (.inl rfl) Try.results27 (.cons (.tmp rfl) .nil) rfl Splits.nil
def ref30_Columns_s1 (s1 : ByteArray) (l1 : List Gapi_Cell) (j1 : Int → Option Int) (ag1 : Int → Option Int) (n4 : Int) : Option Int := bcond (decide ((0 : Int) < n4)) ( grd (I64 (n4 - 1)) <| andThen (getO l1 (n4 - 1)) fun (q1 : Gapi_Cell) => andThen (ref30_Space_v s1 q1) fun (r1 : Bool) => bcond (r1) ( grd (I64 (n4 - 1)) <| ag1 (n4 - 1)
) ( j1 n4
)
) ( j1 n4
)
def ref30_Columns_s2 (l1 : List Gapi_Cell) (n1 : Int) (j2 : Int → Option Int) (ag2 : Int → Int → Option Int) (sum4 : Int) (i3 : Int) : Option Int := bcond (decide ((i3 : Int) < n1)) ( andThen (getO l1 i3) fun (q2 : Gapi_Cell) => grd (I64 (sum4 + q2.Columns)) <| grd (I64 (i3 + 1)) <| ag2 (sum4 + q2.Columns) (i3 + 1)
) ( j2 sum4
)
def ref30_Columns_v (s1 : ByteArray) (l1 : List Gapi_Cell) : Option Int := joinK (fun (j1 : Int → Option Int) => loopG (fun _ => none) (ref30_Columns_s1 s1 l1 j1) fuel (l1.length : Int)
) (fun (n1 : Int) => joinK (fun (j2 : Int → Option Int) => loopG (fun _ _ => none) (ref30_Columns_s2 l1 n1 j2) fuel 0 0
) (fun (sum1 : Int) => some sum1
)
)
set_option maxRecDepth 100000 in
set_option maxHeartbeats 4000000 in
theorem ref30_Columns_fn {s1 : ByteArray} {vvl1 vl1 : Value} {Ll1 : List Gapi_Cell} {kl1 : Nat} {l1 : List Gapi_Cell} (hwl1 : Vw vvl1 Ll1 3 kl1 vl1 l1) {r : Int} (h : ref30_Columns_v s1 l1 = some r) : Fn Try.prog 28 [.string s1, vl1] [vec enc_Gapi_Cell 52 3 vvl1 Ll1] (fun _b : Unit => .int .i64 r) (fun _b => [vec enc_Gapi_Cell 52 3 vvl1 Ll1]) := by
 unfold ref30_Columns_v at h
 refine Fn.intro Try.func28 rfl Try.ntmps28 (by simp) ?_
 intro w0 K
 obtain ⟨j1, hj1, h⟩ := joinE h
 refine TC.cutN (β := Int) 2 rfl (fun b => j1 b = some r) (fun b => []) (fun b => [(1, vl1), (5, .int .i64 b)]) (fun b => [vec enc_Gapi_Cell 52 3 vvl1 Ll1]) (fun cut => ?_) ?_
 ·
  refine TC.seq (TC.region (TO.assign rfl dc rfl (TO.nil (TX.next (TC.seq (TC.region (TO.move rfl dc rfl (TO.lenVw hwl1 rfl dc rfl Try.underlying44 (TO.assign rfl dc rfl (TO.nil (TX.next (cut (TC.block ?_)))))))))))))
  refine TC.loopD (β := Nat × Int) (fun b => loopG (fun _ => none) (ref30_Columns_s1 s1 l1 j1) b.1 b.2 = some r) (fun b => []) (fun b => [(0, .string s1), (1, vl1), (5, .int .i64 b.2)]) (fun b => [vec enc_Gapi_Cell 52 3 vvl1 Ll1]) (fun b => b.1) (fuel, (l1.length : Int)) h rfl (Sbs.cons rfl (Sbs.cons rfl (Sbs.cons rfl (Sbs.nil)))) (Splits.of [0] kr rfl) ?_
  rintro ⟨n5, n4⟩ h
  cases n5 with
  | zero => exact noneE h
  | succ n5 =>
   obtain ⟨ag1, hag1⟩ : ∃ ag, ag = loopG (fun _ => none) (ref30_Columns_s1 s1 l1 j1) n5 := ⟨_, rfl⟩
   have h : ref30_Columns_s1 s1 l1 j1 ag1 n4 = some r := by rw [hag1]; exact h
   unfold ref30_Columns_s1 at h
   show TC _ _ _ _ _ ([]) _ _ [(0, .string s1), (1, vl1), (5, .int .i64 n4)] [vec enc_Gapi_Cell 52 3 vvl1 Ll1]
   refine TC.seq (TC.seq (TC.region (TO.move rfl dc rfl (TO.bin rfl dc rfl rfl bin_gtr (TO.move rfl dc rfl ?_)))))
   refine TO.split (s := 12) rfl (fun hb1 => ?_) (fun hb1 => ?_)
   ·
    have h := condT hb1 h
    refine TO.move rfl dc rfl (TO.move rfl dc rfl (TO.move rfl dc rfl ?_))
    obtain ⟨hg1, h⟩ := grdE h
    refine TO.bin rfl dc rfl rfl (bin_sub (r := n4 - 1) (IntWalk.i64_in _ hg1)) ?_
    obtain ⟨q1, hq1, h⟩ := andE h
    refine TO.indexVw hwl1 hq1 Try.underlying44 sz_52 rfl dc rfl rfl rfl (TO.loadsVec (i := kl1 + (n4 - 1 : Int).toNat) (j := 0) (k := 0) (q := q1) (cs := [.int .i64 q1.Span_From, .int .i64 q1.Span_To, .int .i64 q1.Columns]) rw_52 enc_Gapi_Cell_len rfl dc rfl rfl (Vw.get hwl1 hq1) rfl rfl rfl ?_)
    obtain ⟨r1, hq2, h⟩ := andE h
    refine TO.callP (v := .bool r1) (vs := [.string s1, .agg #[.int .i64 q1.Span_From, .int .i64 q1.Span_To, .int .i64 q1.Columns]]) rfl dc rfl rfl rfl en_27 (ref30_Space_fn (c1 := q1) hq2) (TO.pick (b := true) rfl dc rfl rfl (TO.nil (TX.next ?_)))
    refine TC.condB rfl (fun hb2 => ?_) (fun hb2 => ?_)
    ·
     have h := condT hb2 h
     refine TC.skip (TX.next (TC.block (TC.region (TO.move rfl dc rfl ?_))))
     obtain ⟨hg2, h⟩ := grdE h
     refine TO.bin rfl dc rfl rfl (bin_sub (r := n4 - 1) (IntWalk.i64_in _ hg2)) (TO.assign rfl dc rfl (TO.nil (TX.blockNormal ?_)))
     subst hag1
     exact TX.againD (n5, n4 - 1) h (Nat.lt_succ_self _) rfl (Sbs.cons rfl (Sbs.cons rfl (Sbs.cons rfl (Sbs.nil)))) (Splits.of [0] kr rfl)
    ·
     have h := condF hb2 h
     refine TC.exit (TX.thenExit (TX.thenExit (TX.blockHere ?_)))
     exact TX.meetD n4 h rfl (Sbs.cons rfl (Sbs.cons rfl (Sbs.nil))) (Splits.of [0] kr rfl)
   ·
    have h := condF hb1 h
    refine TO.skip rfl dc (TO.skip rfl dc (TO.skip rfl dc (TO.skip rfl dc (TO.skip rfl dc (TO.skip rfl dc (TO.skip rfl dc (TO.pick (b := false) rfl dc rfl rfl (TO.nil (TX.next (TC.condF rfl (TC.exit (TX.thenExit (TX.thenExit ?_)))))))))))))
    refine TX.blockHere ?_
    exact TX.meetD n4 h rfl (Sbs.cons rfl (Sbs.cons rfl (Sbs.nil))) (Splits.of [0] kr rfl)
 ·
  rintro n1 h
  rw [hj1] at h
  show TC _ _ _ _ _ ([]) _ _ [(1, vl1), (5, .int .i64 n1)] [vec enc_Gapi_Cell 52 3 vvl1 Ll1]
  obtain ⟨j2, hj2, h⟩ := joinE h
  refine TC.cutN (β := Int) 1 rfl (fun b => j2 b = some r) (fun b => []) (fun b => [(6, .int .i64 b)]) (fun b => [vec enc_Gapi_Cell 52 3 vvl1 Ll1]) (fun cut => ?_) ?_
  ·
   refine TC.seq (TC.region (TO.assign rfl dc rfl (TO.nil (TX.next (cut (TC.seq (TC.region (TO.assign rfl dc rfl (TO.nil (TX.next (TC.block ?_)))))))))))
   refine TC.loopD (β := Nat × Int × Int) (fun b => loopG (fun _ _ => none) (ref30_Columns_s2 l1 n1 j2) b.1 b.2.1 b.2.2 = some r) (fun b => []) (fun b => [(1, vl1), (5, .int .i64 n1), (6, .int .i64 b.2.1), (7, .int .i64 b.2.2)]) (fun b => [vec enc_Gapi_Cell 52 3 vvl1 Ll1]) (fun b => b.1) (fuel, 0, 0) h rfl (Sbs.cons rfl (Sbs.cons rfl (Sbs.cons rfl (Sbs.cons rfl (Sbs.nil))))) (Splits.of [0] kr rfl) ?_
   rintro ⟨n6, sum4, i3⟩ h
   cases n6 with
   | zero => exact noneE h
   | succ n6 =>
    obtain ⟨ag2, hag2⟩ : ∃ ag, ag = loopG (fun _ _ => none) (ref30_Columns_s2 l1 n1 j2) n6 := ⟨_, rfl⟩
    have h : ref30_Columns_s2 l1 n1 j2 ag2 sum4 i3 = some r := by rw [hag2]; exact h
    unfold ref30_Columns_s2 at h
    show TC _ _ _ _ _ ([]) _ _ [(1, vl1), (5, .int .i64 n1), (6, .int .i64 sum4), (7, .int .i64 i3)] [vec enc_Gapi_Cell 52 3 vvl1 Ll1]
    refine TC.seq (TC.seq (TC.region (TO.move rfl dc rfl (TO.move rfl dc rfl (TO.bin rfl dc rfl rfl bin_lss (TO.nil (TX.next ?_)))))))
    refine TC.condB rfl (fun hb3 => ?_) (fun hb3 => ?_)
    ·
     have h := condT hb3 h
     refine TC.skip (TX.next (TC.seq (TC.block (TC.region (TO.move rfl dc rfl (TO.move rfl dc rfl (TO.move rfl dc rfl ?_)))))))
     obtain ⟨q2, hq3, h⟩ := andE h
     refine TO.indexVw hwl1 hq3 Try.underlying44 sz_52 rfl dc rfl rfl rfl (TO.fieldAddr fl_52_1 rfl dc rfl (show _ = (kl1 + (i3 : Int).toNat) * 3 + 2 from rfl) (TO.loadVec (i := kl1 + (i3 : Int).toNat) (j := 2) (k := 0) (q := q2) sc_3 enc_Gapi_Cell_len rfl dc rfl rfl (Vw.get hwl1 hq3) rfl dc rfl ?_))
     obtain ⟨hg3, h⟩ := grdE h
     refine TO.bin rfl dc rfl rfl (bin_add (r := sum4 + q2.Columns) (IntWalk.i64_in _ hg3)) (TO.assign rfl dc rfl (TO.nil (TX.blockNormal (TX.next (TC.region (TO.move rfl dc rfl ?_))))))
     obtain ⟨hg4, h⟩ := grdE h
     refine TO.bin rfl dc rfl rfl (bin_add (r := i3 + 1) (IntWalk.i64_in _ hg4)) (TO.assign rfl dc rfl (TO.nil ?_))
     subst hag2
     exact TX.againD (n6, sum4 + q2.Columns, i3 + 1) h (Nat.lt_succ_self _) rfl (Sbs.cons rfl (Sbs.cons rfl (Sbs.cons rfl (Sbs.cons rfl (Sbs.nil))))) (Splits.of [0] kr rfl)
    ·
     have h := condF hb3 h
     refine TC.exit (TX.thenExit (TX.thenExit (TX.blockHere ?_)))
     exact TX.meetD sum4 h rfl (Sbs.cons rfl (Sbs.nil)) (Splits.of [0] kr rfl)
  ·
   rintro sum1 h
   rw [hj2] at h
   show TC _ _ _ _ _ ([]) _ _ [(6, .int .i64 sum1)] [vec enc_Gapi_Cell 52 3 vvl1 Ll1]
   refine TC.seq (TC.region (TO.move rfl dc rfl (TO.assign rfl dc rfl (TO.nil (TX.next (TC.ret ?_))))))
   cases h
   exact TX.fin (rs := [.tmp 4]) () (.inl rfl) Try.results28 (.cons (.tmp rfl) .nil) rfl (Splits.of [0] kr rfl)
def ref30_Room_v (l1 : Gapi_Layout) (indent1 : Int) (first1 : Bool) : Option Int := bcond (!first1) ( grd (I64 (l1.Width - l1.Turn)) <| some (l1.Width - l1.Turn)
) ( grd (I64 (l1.Width - indent1)) <| bcond (decide (((l1.Width - indent1) : Int) < 1)) ( some 1
) ( grd (I64 (l1.Width - indent1)) <| some (l1.Width - indent1)
)
)
set_option maxRecDepth 100000 in
set_option maxHeartbeats 4000000 in
theorem ref30_Room_fn {l1 : Gapi_Layout} {indent1 : Int} {first1 : Bool} {r : Int} (h : ref30_Room_v l1 indent1 first1 = some r) : FnP Try.prog 17 [.agg #[.int .i64 l1.Width, .int .i64 l1.Height, .int .i64 l1.Turn, .int .i64 l1.Every], .int .i64 indent1, .bool first1] (.int .i64 r) := by
 unfold ref30_Room_v at h
 refine FnP.intro Try.func17 rfl Try.ntmps17 (by simp) ?_
 intro w0 K
 refine TC.seq (TC.region ?_)
 refine TO.box rfl dc rfl (fun b1 => ?_)
 refine TO.assign rfl dc rfl (TO.nil (TX.next (TC.seq (TC.seq (TC.region (TO.move rfl dc rfl (TO.un rfl dc rfl un_not (TO.nil (TX.next ?_)))))))))
 refine TC.condB rfl (fun hb1 => ?_) (fun hb1 => ?_)
 ·
  have h := condT hb1 h
  refine TC.seq (TC.region (TO.fieldAddr fl_23_0 rfl dc rfl (show _ = 0 from rfl) (TO.load (k := 0) sc_3 rfl dc rfl rfl rfl (TO.fieldAddr fl_23_2 rfl dc rfl (show _ = 2 from rfl) (TO.load (k := 0) sc_3 rfl dc rfl rfl rfl ?_)))))
  obtain ⟨hg1, h⟩ := grdE h
  refine TO.bin rfl dc rfl rfl (bin_sub (r := l1.Width - l1.Turn) (IntWalk.i64_in _ hg1)) (TO.assign rfl dc rfl (TO.nil (TX.next (TC.ret (TX.thenRet ?_)))))
  cases h
  exact TX.fin (rs := [.tmp 6]) () (.inl rfl) Try.results17 (.cons (.tmp rfl) .nil) rfl Splits.nil
 ·
  have h := condF hb1 h
  refine TC.skip (TX.next (TC.seq (TC.seq (TC.region (TO.fieldAddr fl_23_0 rfl dc rfl (show _ = 0 from rfl) (TO.load (k := 0) sc_3 rfl dc rfl rfl rfl (TO.move rfl dc rfl ?_)))))))
  obtain ⟨hg2, h⟩ := grdE h
  refine TO.bin rfl dc rfl rfl (bin_sub (r := l1.Width - indent1) (IntWalk.i64_in _ hg2)) (TO.bin rfl dc rfl rfl bin_lss (TO.nil (TX.next ?_)))
  refine TC.condB rfl (fun hb2 => ?_) (fun hb2 => ?_)
  ·
   have h := condT hb2 h
   refine TC.seq (TC.region (TO.assign rfl dc rfl (TO.nil (TX.next (TC.ret (TX.thenRet ?_))))))
   cases h
   exact TX.fin (rs := [.tmp 6]) () (.inl rfl) Try.results17 (.cons (.tmp rfl) .nil) rfl Splits.nil
  ·
   have h := condF hb2 h
   refine TC.skip (TX.next (TC.seq (TC.region (TO.fieldAddr fl_23_0 rfl dc rfl (show _ = 0 from rfl) (TO.load (k := 0) sc_3 rfl dc rfl rfl rfl (TO.move rfl dc rfl ?_))))))
   obtain ⟨hg3, h⟩ := grdE h
   refine TO.bin rfl dc rfl rfl (bin_sub (r := l1.Width - indent1) (IntWalk.i64_in _ hg3)) (TO.assign rfl dc rfl (TO.nil (TX.next (TC.ret ?_))))
   cases h
   exact TX.fin (rs := [.tmp 6]) () (.inl rfl) Try.results17 (.cons (.tmp rfl) .nil) rfl Splits.nil
def ref30_Row_s1 (s1 : ByteArray) (l1 : List Gapi_Cell) (j2 : Option Bool) (ag1 : Int → Option Bool) (i3 : Int) : Option Bool := bcond (decide ((i3 : Int) < (l1.length : Int))) ( andThen (getO l1 i3) fun (q2 : Gapi_Cell) => andThen (ref30_Space_v s1 q2) fun (r3 : Bool) => bcond (!r3) ( some false
) ( grd (I64 (i3 + 1)) <| ag1 (i3 + 1)
)
) ( j2
)
def ref30_Row_v (s1 : ByteArray) (l1 : List Gapi_Cell) (room1 : Int) (first1 : Bool) : Option Bool := joinK (fun (j1 : Option Bool) => bcond (((l1.length : Int) : Int) == 0) ( some false
) ( bcond (!first1) ( andThen (getO l1 0) fun (q1 : Gapi_Cell) => andThen (ref30_Space_v s1 q1) fun (r1 : Bool) => bcond (r1) ( some false
) ( j1
)
) ( j1
)
)
) ( andThen (ref30_Columns_v s1 l1) fun (r2 : Int) => bcond (decide ((r2 : Int) ≤ room1)) ( some true
) ( joinK (fun (j2 : Option Bool) => loopG (fun _ => none) (ref30_Row_s1 s1 l1 j2) fuel 1
) ( some true
)
)
)
set_option maxRecDepth 100000 in
set_option maxHeartbeats 4000000 in
theorem ref30_Row_fn {s1 : ByteArray} {vvl1 vl1 : Value} {Ll1 : List Gapi_Cell} {kl1 : Nat} {l1 : List Gapi_Cell} (hwl1 : Vw vvl1 Ll1 3 kl1 vl1 l1) {room1 : Int} {first1 : Bool} {r : Bool} (h : ref30_Row_v s1 l1 room1 first1 = some r) : Fn Try.prog 18 [.string s1, vl1, .int .i64 room1, .bool first1] [vec enc_Gapi_Cell 52 3 vvl1 Ll1] (fun _b : Unit => .bool r) (fun _b => [vec enc_Gapi_Cell 52 3 vvl1 Ll1]) := by
 unfold ref30_Row_v at h
 refine Fn.intro Try.func18 rfl Try.ntmps18 (by simp) ?_
 intro w0 K
 obtain ⟨j1, hj1, h⟩ := joinE h
 refine TC.cutN (β := Unit) 1 rfl (fun b => j1 = some r) (fun b => []) (fun b => [(0, .string s1), (1, vl1), (2, .int .i64 room1)]) (fun b => [vec enc_Gapi_Cell 52 3 vvl1 Ll1]) (fun cut => ?_) ?_
 ·
  refine TC.seq (TC.region (TO.assign rfl dc rfl (TO.nil (TX.next (cut (TC.seq (TC.region (TO.move rfl dc rfl (TO.lenVw hwl1 rfl dc rfl Try.underlying44 (TO.bin rfl dc rfl rfl bin_eql (TO.move rfl dc rfl ?_)))))))))))
  refine TO.split (s := 13) rfl (fun hb1 => ?_) (fun hb1 => ?_)
  ·
   have h := condT hb1 h
   refine TO.skip rfl dc (TO.skip rfl dc (TO.skip rfl dc (TO.skip rfl dc (TO.skip rfl dc (TO.skip rfl dc (TO.skip rfl dc (TO.skip rfl dc (TO.skip rfl dc (TO.pick (b := true) rfl dc rfl rfl (TO.nil (TX.next (TC.condT rfl (TC.seq ?_)))))))))))))
   refine TC.region (TO.assign rfl dc rfl (TO.nil (TX.next (TC.ret (TX.thenRet ?_)))))
   cases h
   exact TX.fin (rs := [.tmp 8]) () (.inl rfl) Try.results18 (.cons (.tmp rfl) .nil) rfl (Splits.of [0] kr rfl)
  ·
   have h := condF hb1 h
   refine TO.move rfl dc rfl (TO.un rfl dc rfl un_not (TO.move rfl dc rfl ?_))
   refine TO.split (s := 16) rfl (fun hb2 => ?_) (fun hb2 => ?_)
   ·
    have h := condT hb2 h
    refine TO.move rfl dc rfl (TO.move rfl dc rfl ?_)
    obtain ⟨q1, hq1, h⟩ := andE h
    refine TO.indexVw hwl1 hq1 Try.underlying44 sz_52 rfl dc rfl rfl rfl (TO.loadsVec (i := kl1 + (0 : Int).toNat) (j := 0) (k := 0) (q := q1) (cs := [.int .i64 q1.Span_From, .int .i64 q1.Span_To, .int .i64 q1.Columns]) rw_52 enc_Gapi_Cell_len rfl dc rfl rfl (Vw.get hwl1 hq1) rfl rfl rfl ?_)
    obtain ⟨r1, hq2, h⟩ := andE h
    refine TO.callP (v := .bool r1) (vs := [.string s1, .agg #[.int .i64 q1.Span_From, .int .i64 q1.Span_To, .int .i64 q1.Columns]]) rfl dc rfl rfl rfl en_27 (ref30_Space_fn (c1 := q1) hq2) (TO.pick (b := true) rfl dc rfl rfl (TO.pick (b := false) rfl dc rfl rfl (TO.nil (TX.next ?_))))
    refine TC.condB rfl (fun hb3 => ?_) (fun hb3 => ?_)
    ·
     have h := condT hb3 h
     refine TC.seq (TC.region (TO.assign rfl dc rfl (TO.nil (TX.next (TC.ret (TX.thenRet ?_))))))
     cases h
     exact TX.fin (rs := [.tmp 8]) () (.inl rfl) Try.results18 (.cons (.tmp rfl) .nil) rfl (Splits.of [0] kr rfl)
    ·
     have h := condF hb3 h
     refine TC.skip ?_
     exact TX.meetD () h rfl (Sbs.cons rfl (Sbs.cons rfl (Sbs.cons rfl (Sbs.nil)))) (Splits.of [0] kr rfl)
   ·
    have h := condF hb2 h
    refine TO.skip rfl dc (TO.skip rfl dc (TO.skip rfl dc (TO.skip rfl dc (TO.skip rfl dc (TO.pick (b := false) rfl dc rfl rfl (TO.pick (b := false) rfl dc rfl rfl (TO.nil (TX.next (TC.condF rfl (TC.skip ?_))))))))))
    exact TX.meetD () h rfl (Sbs.cons rfl (Sbs.cons rfl (Sbs.cons rfl (Sbs.nil)))) (Splits.of [0] kr rfl)
 ·
  rintro _ h
  rw [hj1] at h
  show TC _ _ _ _ _ ([]) _ _ [(0, .string s1), (1, vl1), (2, .int .i64 room1)] [vec enc_Gapi_Cell 52 3 vvl1 Ll1]
  refine TC.seq (TC.seq (TC.region (TO.move rfl dc rfl (TO.move rfl dc rfl ?_))))
  obtain ⟨r2, hq3, h⟩ := andE h
  refine TO.callK (v := .int .i64 r2) (vs := [.string s1, vl1]) rfl dc rfl rfl rfl en_28 (ref30_Columns_fn hwl1 hq3) [0] kr rfl (TO.move rfl dc rfl (TO.bin rfl dc rfl rfl bin_leq (TO.nil (TX.next ?_))))
  refine TC.condB rfl (fun hb4 => ?_) (fun hb4 => ?_)
  ·
   have h := condT hb4 h
   refine TC.seq (TC.region (TO.assign rfl dc rfl (TO.nil (TX.next (TC.ret (TX.thenRet ?_))))))
   cases h
   exact TX.fin (rs := [.tmp 8]) () (.inl rfl) Try.results18 (.cons (.tmp rfl) .nil) rfl (Splits.of [0] kr rfl)
  ·
   have h := condF hb4 h
   refine TC.skip (TX.next ?_)
   obtain ⟨j2, hj2, h⟩ := joinE h
   refine TC.cutN (β := Unit) 0 rfl (fun b => j2 = some r) (fun b => []) (fun b => []) (fun b => [vec enc_Gapi_Cell 52 3 vvl1 Ll1]) (fun cut => ?_) ?_
   ·
    refine cut (TC.seq (TC.region (TO.assign rfl dc rfl (TO.nil (TX.next (TC.block ?_))))))
    refine TC.loopD (β := Nat × Int) (fun b => loopG (fun _ => none) (ref30_Row_s1 s1 l1 j2) b.1 b.2 = some r) (fun b => []) (fun b => [(0, .string s1), (1, vl1), (9, .int .i64 b.2)]) (fun b => [vec enc_Gapi_Cell 52 3 vvl1 Ll1]) (fun b => b.1) (fuel, 1) h rfl (Sbs.cons rfl (Sbs.cons rfl (Sbs.cons rfl (Sbs.nil)))) (Splits.of [0] kr rfl) ?_
    rintro ⟨n1, i3⟩ h
    cases n1 with
    | zero => exact noneE h
    | succ n1 =>
     obtain ⟨ag1, hag1⟩ : ∃ ag, ag = loopG (fun _ => none) (ref30_Row_s1 s1 l1 j2) n1 := ⟨_, rfl⟩
     have h : ref30_Row_s1 s1 l1 j2 ag1 i3 = some r := by rw [hag1]; exact h
     unfold ref30_Row_s1 at h
     show TC _ _ _ _ _ ([]) _ _ [(0, .string s1), (1, vl1), (9, .int .i64 i3)] [vec enc_Gapi_Cell 52 3 vvl1 Ll1]
     refine TC.seq (TC.seq (TC.region (TO.move rfl dc rfl (TO.move rfl dc rfl (TO.lenVw hwl1 rfl dc rfl Try.underlying44 (TO.bin rfl dc rfl rfl bin_lss (TO.nil (TX.next ?_))))))))
     refine TC.condB rfl (fun hb5 => ?_) (fun hb5 => ?_)
     ·
      have h := condT hb5 h
      refine TC.skip (TX.next (TC.seq (TC.block (TC.seq (TC.region (TO.move rfl dc rfl (TO.move rfl dc rfl (TO.move rfl dc rfl ?_))))))))
      obtain ⟨q2, hq4, h⟩ := andE h
      refine TO.indexVw hwl1 hq4 Try.underlying44 sz_52 rfl dc rfl rfl rfl (TO.loadsVec (i := kl1 + (i3 : Int).toNat) (j := 0) (k := 0) (q := q2) (cs := [.int .i64 q2.Span_From, .int .i64 q2.Span_To, .int .i64 q2.Columns]) rw_52 enc_Gapi_Cell_len rfl dc rfl rfl (Vw.get hwl1 hq4) rfl rfl rfl ?_)
      obtain ⟨r3, hq5, h⟩ := andE h
      refine TO.callP (v := .bool r3) (vs := [.string s1, .agg #[.int .i64 q2.Span_From, .int .i64 q2.Span_To, .int .i64 q2.Columns]]) rfl dc rfl rfl rfl en_27 (ref30_Space_fn (c1 := q2) hq5) (TO.un rfl dc rfl un_not (TO.nil (TX.next ?_)))
      refine TC.condB rfl (fun hb6 => ?_) (fun hb6 => ?_)
      ·
       have h := condT hb6 h
       refine TC.seq (TC.region (TO.assign rfl dc rfl (TO.nil (TX.next (TC.ret (TX.blockRet (TX.thenRet (TX.thenRet (TX.blockRet (TX.thenRet ?_))))))))))
       cases h
       exact TX.fin (rs := [.tmp 8]) () (.inl rfl) Try.results18 (.cons (.tmp rfl) .nil) rfl (Splits.of [0] kr rfl)
      ·
       have h := condF hb6 h
       refine TC.skip (TX.blockNormal (TX.next (TC.region (TO.move rfl dc rfl ?_))))
       obtain ⟨hg1, h⟩ := grdE h
       refine TO.bin rfl dc rfl rfl (bin_add (r := i3 + 1) (IntWalk.i64_in _ hg1)) (TO.assign rfl dc rfl (TO.nil ?_))
       subst hag1
       exact TX.againD (n1, i3 + 1) h (Nat.lt_succ_self _) rfl (Sbs.cons rfl (Sbs.cons rfl (Sbs.cons rfl (Sbs.nil)))) (Splits.of [0] kr rfl)
     ·
      have h := condF hb5 h
      refine TC.exit (TX.thenExit (TX.thenExit (TX.blockHere ?_)))
      exact TX.meetD () h rfl (Sbs.nil) (Splits.of [0] kr rfl)
   ·
    rintro _ h
    rw [hj2] at h
    show TC _ _ _ _ _ ([]) _ _ [] [vec enc_Gapi_Cell 52 3 vvl1 Ll1]
    refine TC.seq (TC.region (TO.assign rfl dc rfl (TO.nil (TX.next (TC.ret ?_)))))
    cases h
    exact TX.fin (rs := [.tmp 8]) () (.inl rfl) Try.results18 (.cons (.tmp rfl) .nil) rfl (Splits.of [0] kr rfl)
def ref30_RowCost_v (s1 : ByteArray) (l1 : List Gapi_Cell) (room1 : Int) : Option Int := joinK (fun (j1 : Int → Option Int) => andThen (ref30_Columns_v s1 l1) fun (r1 : Int) => grd (I64 (room1 - r1)) <| bcond (decide ((0 : Int) < (room1 - r1))) ( grd (I64 ((room1 - r1) * (room1 - r1))) <| j1 ((room1 - r1) * (room1 - r1))
) ( j1 0
)
) (fun (n1 : Int) => joinK (fun (j2 : Int → Option Int) => grd (I64 ((l1.length : Int) - 1)) <| andThen (getO l1 ((l1.length : Int) - 1)) fun (q1 : Gapi_Cell) => andThen (ref30_Space_v s1 q1) fun (r2 : Bool) => bcond (!r2) ( grd (I64 (n1 + 1000)) <| j2 (n1 + 1000)
) ( j2 n1
)
) (fun (n2 : Int) => some n2
)
)
set_option maxRecDepth 100000 in
set_option maxHeartbeats 4000000 in
theorem ref30_RowCost_fn {s1 : ByteArray} {vvl1 vl1 : Value} {Ll1 : List Gapi_Cell} {kl1 : Nat} {l1 : List Gapi_Cell} (hwl1 : Vw vvl1 Ll1 3 kl1 vl1 l1) {room1 : Int} {r : Int} (h : ref30_RowCost_v s1 l1 room1 = some r) : Fn Try.prog 19 [.string s1, vl1, .int .i64 room1] [vec enc_Gapi_Cell 52 3 vvl1 Ll1] (fun _b : Unit => .int .i64 r) (fun _b => [vec enc_Gapi_Cell 52 3 vvl1 Ll1]) := by
 unfold ref30_RowCost_v at h
 refine Fn.intro Try.func19 rfl Try.ntmps19 (by simp) ?_
 intro w0 K
 obtain ⟨j1, hj1, h⟩ := joinE h
 refine TC.cutN (β := Int) 3 rfl (fun b => j1 b = some r) (fun b => []) (fun b => [(0, .string s1), (1, vl1), (7, .int .i64 b)]) (fun b => [vec enc_Gapi_Cell 52 3 vvl1 Ll1]) (fun cut => ?_) ?_
 ·
  refine TC.seq (TC.region (TO.assign rfl dc rfl (TO.nil (TX.next (TC.seq (TC.region (TO.assign rfl dc rfl (TO.nil (TX.next (TC.seq (TC.region (TO.move rfl dc rfl (TO.move rfl dc rfl ?_)))))))))))))
  refine TO.move rfl dc rfl ?_
  obtain ⟨r1, hq1, h⟩ := andE h
  refine TO.callK (v := .int .i64 r1) (vs := [.string s1, vl1]) rfl dc rfl rfl rfl en_28 (ref30_Columns_fn hwl1 hq1) [0] kr rfl ?_
  obtain ⟨hg1, h⟩ := grdE h
  refine TO.bin rfl dc rfl rfl (bin_sub (r := room1 - r1) (IntWalk.i64_in _ hg1)) (TO.assign rfl dc rfl (TO.nil (TX.next (cut (TC.seq (TC.region (TO.move rfl dc rfl (TO.bin rfl dc rfl rfl bin_gtr (TO.nil (TX.next ?_))))))))))
  refine TC.condB rfl (fun hb1 => ?_) (fun hb1 => ?_)
  ·
   have h := condT hb1 h
   refine TC.region (TO.move rfl dc rfl (TO.move rfl dc rfl ?_))
   obtain ⟨hg2, h⟩ := grdE h
   refine TO.bin rfl dc rfl rfl (bin_mul (r := (room1 - r1) * (room1 - r1)) (IntWalk.i64_in _ hg2)) (TO.assign rfl dc rfl (TO.nil ?_))
   exact TX.meetD ((room1 - r1) * (room1 - r1)) h rfl (Sbs.cons rfl (Sbs.cons rfl (Sbs.cons rfl (Sbs.nil)))) (Splits.of [0] kr rfl)
  ·
   have h := condF hb1 h
   refine TC.skip ?_
   exact TX.meetD 0 h rfl (Sbs.cons rfl (Sbs.cons rfl (Sbs.cons rfl (Sbs.nil)))) (Splits.of [0] kr rfl)
 ·
  rintro n1 h
  rw [hj1] at h
  show TC _ _ _ _ _ ([]) _ _ [(0, .string s1), (1, vl1), (7, .int .i64 n1)] [vec enc_Gapi_Cell 52 3 vvl1 Ll1]
  obtain ⟨j2, hj2, h⟩ := joinE h
  refine TC.cutN (β := Int) 0 rfl (fun b => j2 b = some r) (fun b => []) (fun b => [(7, .int .i64 b)]) (fun b => [vec enc_Gapi_Cell 52 3 vvl1 Ll1]) (fun cut => ?_) ?_
  ·
   refine cut (TC.seq (TC.region (TO.move rfl dc rfl (TO.move rfl dc rfl (TO.move rfl dc rfl (TO.lenVw hwl1 rfl dc rfl Try.underlying44 ?_))))))
   obtain ⟨hg3, h⟩ := grdE h
   refine TO.bin rfl dc rfl rfl (bin_sub (r := (l1.length : Int) - 1) (IntWalk.i64_in _ hg3)) ?_
   obtain ⟨q1, hq2, h⟩ := andE h
   refine TO.indexVw hwl1 hq2 Try.underlying44 sz_52 rfl dc rfl rfl rfl (TO.loadsVec (i := kl1 + ((l1.length : Int) - 1 : Int).toNat) (j := 0) (k := 0) (q := q1) (cs := [.int .i64 q1.Span_From, .int .i64 q1.Span_To, .int .i64 q1.Columns]) rw_52 enc_Gapi_Cell_len rfl dc rfl rfl (Vw.get hwl1 hq2) rfl rfl rfl ?_)
   obtain ⟨r2, hq3, h⟩ := andE h
   refine TO.callP (v := .bool r2) (vs := [.string s1, .agg #[.int .i64 q1.Span_From, .int .i64 q1.Span_To, .int .i64 q1.Columns]]) rfl dc rfl rfl rfl en_27 (ref30_Space_fn (c1 := q1) hq3) (TO.un rfl dc rfl un_not (TO.nil (TX.next ?_)))
   refine TC.condB rfl (fun hb2 => ?_) (fun hb2 => ?_)
   ·
    have h := condT hb2 h
    refine TC.region (TO.move rfl dc rfl ?_)
    obtain ⟨hg4, h⟩ := grdE h
    refine TO.bin rfl dc rfl rfl (bin_add (r := n1 + 1000) (IntWalk.i64_in _ hg4)) (TO.assign rfl dc rfl (TO.nil ?_))
    exact TX.meetD (n1 + 1000) h rfl (Sbs.cons rfl (Sbs.nil)) (Splits.of [0] kr rfl)
   ·
    have h := condF hb2 h
    refine TC.skip ?_
    exact TX.meetD n1 h rfl (Sbs.cons rfl (Sbs.nil)) (Splits.of [0] kr rfl)
  ·
   rintro n2 h
   rw [hj2] at h
   show TC _ _ _ _ _ ([]) _ _ [(7, .int .i64 n2)] [vec enc_Gapi_Cell 52 3 vvl1 Ll1]
   refine TC.seq (TC.region (TO.move rfl dc rfl (TO.assign rfl dc rfl (TO.nil (TX.next (TC.ret ?_))))))
   cases h
   exact TX.fin (rs := [.tmp 6]) () (.inl rfl) Try.results19 (.cons (.tmp rfl) .nil) rfl (Splits.of [0] kr rfl)
def ref30_Cost_s1 (texts1 : List ByteArray) (j1 : ByteArray → Option (Int × Bool)) (ag1 : ByteArray → Int → Option (Int × Bool)) (s4 : ByteArray) (i3 : Int) : Option (Int × Bool) := bcond (decide ((i3 : Int) < (texts1.length : Int))) ( andThen (getO texts1 i3) fun (q1 : ByteArray) => grd (s4.size + q1.size ≤ 9223372036854775807) <| grd (I64 (i3 + 1)) <| ag1 (s4 ++ q1) (i3 + 1)
) ( j1 s4
)
def ref30_Cost_s3 (r1 : (List Gapi_Cell)) (at3 : Int) (j4 : Int → Int → Option (Int × Bool)) (q2 : ByteArray) (ag3 : Int → Option (Int × Bool)) (to4 : Int) : Option (Int × Bool) := bcond (decide ((to4 : Int) < (r1.length : Int))) ( andThen (getO r1 to4) fun (q3 : Gapi_Cell) => bcond (decide ((q3.Span_To : Int) ≤ (at3 + (q2.size : Int)))) ( grd (I64 (to4 + 1)) <| ag3 (to4 + 1)
) ( j4 (at3 + (q2.size : Int)) to4
)
) ( j4 (at3 + (q2.size : Int)) to4
)
def ref30_Cost_s2 (texts1 : List ByteArray) (indent1 : Int) (l1 : Gapi_Layout) (s1 : ByteArray) (j2 : Int → Option (Int × Bool)) (r1 : (List Gapi_Cell)) (ag2 : Int → Int → Int → Int → Option (Int × Bool)) (sum4 : Int) (from3 : Int) (at3 : Int) (i6 : Int) : Option (Int × Bool) := bcond (decide ((i6 : Int) < (texts1.length : Int))) ( joinK (fun (j3 : Int → Int → Int → Int → Int → Int → Int → Bool → Option (Int × Bool)) => joinK (fun (j4 : Int → Int → Option (Int × Bool)) => andThen (getO texts1 i6) fun (q2 : ByteArray) => grd (I64 (at3 + (q2.size : Int))) <| loopG (fun _ => none) (ref30_Cost_s3 r1 at3 j4 q2) fuel from3
) (fun (at5 : Int) (to1 : Int) => bcond ((to1 : Int) == from3) ( some (0, false)
) ( grd (I64 (to1 - 1)) <| andThen (getO r1 (to1 - 1)) fun (q4 : Gapi_Cell) => bcond ((q4.Span_To : Int) != at5) ( some (0, false)
) ( andThen (ref30_Room_v l1 indent1 ((i6 : Int) == 0)) fun (r2 : Int) => grd (0 ≤ (from3 : Int) ∧ (from3 : Int) ≤ to1 ∧ (to1 : Int) ≤ (r1.length : Int)) <| andThen (ref30_Row_v s1 (cutL r1 from3 to1) r2 ((i6 : Int) == 0)) fun (r3 : Bool) => bcond (!r3) ( some (0, false)
) ( joinK (fun (j5 : Int → Option (Int × Bool)) => grd (I64 ((texts1.length : Int) - 1)) <| bcond (decide ((i6 : Int) < ((texts1.length : Int) - 1))) ( grd (0 ≤ (from3 : Int) ∧ (from3 : Int) ≤ to1 ∧ (to1 : Int) ≤ (r1.length : Int)) <| andThen (ref30_RowCost_v s1 (cutL r1 from3 to1) r2) fun (r4 : Int) => grd (I64 (sum4 + r4)) <| j5 (sum4 + r4)
) ( j5 sum4
)
) (fun (sum6 : Int) => j3 sum6 to1 at5 to1 (to1 - 1) q4.Span_To at5 ((q4.Span_To : Int) != at5)
)
)
)
)
)
) (fun (sum5 : Int) (from4 : Int) (at4 : Int) (x1 : Int) (x2 : Int) (x3 : Int) (x4 : Int) (x5 : Bool) => grd (I64 (i6 + 1)) <| ag2 sum5 from4 at4 (i6 + 1)
)
) ( j2 sum4
)
def ref30_Cost_v (texts1 : List ByteArray) (indent1 : Int) (l1 : Gapi_Layout) : Option (Int × Bool) := joinK (fun (j1 : ByteArray → Option (Int × Bool)) => loopG (fun _ _ => none) (ref30_Cost_s1 texts1 j1) fuel (⟨#[]⟩ : ByteArray) 0
) (fun (s1 : ByteArray) => joinK (fun (j2 : Int → Option (Int × Bool)) => andThen (ref05_Cells_v s1) fun (r1 : (List Gapi_Cell)) => loopG (fun _ _ _ _ => none) (ref30_Cost_s2 texts1 indent1 l1 s1 j2 r1) fuel 0 0 0 0
) (fun (sum1 : Int) => some (sum1, true)
)
)
set_option maxRecDepth 100000 in
set_option maxHeartbeats 4000000 in
theorem ref30_Cost_fn {vvtexts1 vtexts1 : Value} {Ltexts1 : List ByteArray} {ktexts1 : Nat} {texts1 : List ByteArray} (hwtexts1 : Vw vvtexts1 Ltexts1 1 ktexts1 vtexts1 texts1) {indent1 : Int} {l1 : Gapi_Layout} {r : (Int × Bool)} (h : ref30_Cost_v texts1 indent1 l1 = some r) : FnR Try.prog 12 [vtexts1, .int .i64 indent1, .agg #[.int .i64 l1.Width, .int .i64 l1.Height, .int .i64 l1.Turn, .int .i64 l1.Every]] [roRow encS 1 vvtexts1 ktexts1 Ltexts1] [] (fun _ : Unit => (.tuple #[.int .i64 r.1, .bool r.2])) (fun _ => []) := by
 unfold ref30_Cost_v at h
 refine FnR.intro Try.func12 rfl Try.ntmps12 (by simp) ?_
 intro w0 K hrd
 obtain ⟨j1, hj1, h⟩ := joinE h
 refine TC.cutN (β := ByteArray × Nat) 2 rfl (fun b => j1 b.1 = some r) (fun b => []) (fun b => [(0, vtexts1), (1, .int .i64 indent1), (5, .pointer (some ⟨b.2, 0, none⟩)), (8, .string b.1)]) (fun b => [cells b.2 [.int .i64 l1.Width, .int .i64 l1.Height, .int .i64 l1.Turn, .int .i64 l1.Every] 23]) (fun cut => ?_) ?_
 ·
  refine TC.seq (TC.region ?_)
  refine TO.box rfl dc rfl (fun b2 => ?_)
  refine TO.assign rfl dc rfl (TO.assign rfl dc rfl (TO.nil (TX.next (TC.seq (TC.region (TO.assign rfl dc rfl (TO.nil (TX.next (cut (TC.seq (TC.region (TO.assign rfl dc rfl (TO.nil ?_)))))))))))))
  refine TX.next (TC.block ?_)
  refine TC.loopD (β := Nat × ByteArray × Int) (fun b => loopG (fun _ _ => none) (ref30_Cost_s1 texts1 j1) b.1 b.2.1 b.2.2 = some r) (fun b => []) (fun b => [(0, vtexts1), (1, .int .i64 indent1), (5, .pointer (some ⟨b2, 0, none⟩)), (8, .string b.2.1), (9, .int .i64 b.2.2)]) (fun b => [cells b2 [.int .i64 l1.Width, .int .i64 l1.Height, .int .i64 l1.Turn, .int .i64 l1.Every] 23]) (fun b => b.1) (fuel, (⟨#[]⟩ : ByteArray), 0) h rfl (Sbs.cons rfl (Sbs.cons rfl (Sbs.cons rfl (Sbs.cons rfl (Sbs.cons rfl (Sbs.nil)))))) (Splits.of [0] kr rfl) ?_
  rintro ⟨n1, s4, i3⟩ h
  cases n1 with
  | zero => exact noneE h
  | succ n1 =>
   obtain ⟨ag1, hag1⟩ : ∃ ag, ag = loopG (fun _ _ => none) (ref30_Cost_s1 texts1 j1) n1 := ⟨_, rfl⟩
   have h : ref30_Cost_s1 texts1 j1 ag1 s4 i3 = some r := by rw [hag1]; exact h
   unfold ref30_Cost_s1 at h
   show TC _ _ _ _ _ ([]) _ _ [(0, vtexts1), (1, .int .i64 indent1), (5, .pointer (some ⟨b2, 0, none⟩)), (8, .string s4), (9, .int .i64 i3)] [cells b2 [.int .i64 l1.Width, .int .i64 l1.Height, .int .i64 l1.Turn, .int .i64 l1.Every] 23]
   refine TC.seq (TC.seq (TC.region (TO.move rfl dc rfl (TO.move rfl dc rfl (TO.lenVw hwtexts1 rfl dc rfl Try.underlying25 (TO.bin rfl dc rfl rfl bin_lss (TO.nil (TX.next ?_))))))))
   refine TC.condB rfl (fun hb1 => ?_) (fun hb1 => ?_)
   ·
    have h := condT hb1 h
    refine TC.skip (TX.next (TC.seq (TC.block (TC.region (TO.move rfl dc rfl (TO.move rfl dc rfl (TO.move rfl dc rfl ?_)))))))
    obtain ⟨q1, hq1, h⟩ := andE h
    refine TO.indexVw hwtexts1 hq1 Try.underlying25 sz_9 rfl dc rfl rfl rfl (TO.loadRowRd (n := ktexts1 + (i3 : Int).toNat) (j := 0) (i := 0) (q := q1) hrd rfl (by omega) sc_9 rfl dc rfl (Vw.get hwtexts1 hq1) rfl rfl ?_)
    obtain ⟨hg1, h⟩ := grdE h
    refine TO.bin rfl dc rfl rfl (bin_sadd hg1) (TO.assign rfl dc rfl (TO.nil (TX.blockNormal (TX.next (TC.region (TO.move rfl dc rfl ?_))))))
    obtain ⟨hg2, h⟩ := grdE h
    refine TO.bin rfl dc rfl rfl (bin_add (r := i3 + 1) (IntWalk.i64_in _ hg2)) (TO.assign rfl dc rfl (TO.nil ?_))
    subst hag1
    exact TX.againD (n1, s4 ++ q1, i3 + 1) h (Nat.lt_succ_self _) rfl (Sbs.cons rfl (Sbs.cons rfl (Sbs.cons rfl (Sbs.cons rfl (Sbs.cons rfl (Sbs.nil)))))) (Splits.of [0] kr rfl)
   ·
    have h := condF hb1 h
    refine TC.exit (TX.thenExit (TX.thenExit (TX.blockHere ?_)))
    exact TX.meetD (s4, b2) h rfl (Sbs.cons rfl (Sbs.cons rfl (Sbs.cons rfl (Sbs.cons rfl (Sbs.nil))))) (Splits.of [0] kr rfl)
 ·
  rintro ⟨s1, b1⟩ h
  rw [hj1] at h
  show TC _ _ _ _ _ ([]) _ _ [(0, vtexts1), (1, .int .i64 indent1), (5, .pointer (some ⟨b1, 0, none⟩)), (8, .string s1)] [cells b1 [.int .i64 l1.Width, .int .i64 l1.Height, .int .i64 l1.Turn, .int .i64 l1.Every] 23]
  obtain ⟨j2, hj2, h⟩ := joinE h
  refine TC.cutN (β := Int) 4 rfl (fun b => j2 b = some r) (fun b => []) (fun b => [(11, .int .i64 b)]) (fun b => []) (fun cut => ?_) ?_
  ·
   refine TC.seq (TC.region (TO.move rfl dc rfl ?_))
   obtain ⟨r1, hq2, h⟩ := andE h
   refine TO.call (vs := [.string s1]) rfl dc rfl rfl rfl en_16 (ref05_Cells_fn hq2) Splits.nil ?_
   rintro v1
   show TO _ _ _ _ _ _ _ _ _ _ [cells b1 [.int .i64 l1.Width, .int .i64 l1.Height, .int .i64 l1.Turn, .int .i64 l1.Every] 23, vec enc_Gapi_Cell 52 3 v1 r1]
   refine TO.assign rfl dc rfl (TO.nil (TX.next (TC.seq (TC.region (TO.assign rfl dc rfl (TO.nil (TX.next (TC.seq (TC.region (TO.assign rfl dc rfl (TO.nil (TX.next (TC.seq ?_)))))))))))))
   refine TC.region (TO.assign rfl dc rfl (TO.nil (TX.next (cut (TC.seq (TC.region (TO.assign rfl dc rfl (TO.nil (TX.next (TC.block ?_))))))))))
   refine TC.loopD (β := Nat × Int × Int × Int × Int) (fun b => loopG (fun _ _ _ _ => none) (ref30_Cost_s2 texts1 indent1 l1 s1 j2 r1) b.1 b.2.1 b.2.2.1 b.2.2.2.1 b.2.2.2.2 = some r) (fun b => []) (fun b => [(0, vtexts1), (1, .int .i64 indent1), (5, .pointer (some ⟨b1, 0, none⟩)), (8, .string s1), (10, v1), (11, .int .i64 b.2.1), (12, .int .i64 b.2.2.1), (13, .int .i64 b.2.2.2.1), (14, .int .i64 b.2.2.2.2)]) (fun b => [cells b1 [.int .i64 l1.Width, .int .i64 l1.Height, .int .i64 l1.Turn, .int .i64 l1.Every] 23, vec enc_Gapi_Cell 52 3 v1 r1]) (fun b => b.1) (fuel, 0, 0, 0, 0) h rfl (Sbs.cons rfl (Sbs.cons rfl (Sbs.cons rfl (Sbs.cons rfl (Sbs.cons rfl (Sbs.cons rfl (Sbs.cons rfl (Sbs.cons rfl (Sbs.cons rfl (Sbs.nil)))))))))) (Splits.of [0, 1] kr rfl) ?_
   rintro ⟨n2, sum4, from3, at3, i6⟩ h
   cases n2 with
   | zero => exact noneE h
   | succ n2 =>
    obtain ⟨ag2, hag2⟩ : ∃ ag, ag = loopG (fun _ _ _ _ => none) (ref30_Cost_s2 texts1 indent1 l1 s1 j2 r1) n2 := ⟨_, rfl⟩
    have h : ref30_Cost_s2 texts1 indent1 l1 s1 j2 r1 ag2 sum4 from3 at3 i6 = some r := by rw [hag2]; exact h
    unfold ref30_Cost_s2 at h
    show TC _ _ _ _ _ ([]) _ _ [(0, vtexts1), (1, .int .i64 indent1), (5, .pointer (some ⟨b1, 0, none⟩)), (8, .string s1), (10, v1), (11, .int .i64 sum4), (12, .int .i64 from3), (13, .int .i64 at3), (14, .int .i64 i6)] [cells b1 [.int .i64 l1.Width, .int .i64 l1.Height, .int .i64 l1.Turn, .int .i64 l1.Every] 23, vec enc_Gapi_Cell 52 3 v1 r1]
    refine TC.seq (TC.seq (TC.region (TO.move rfl dc rfl (TO.move rfl dc rfl (TO.lenVw hwtexts1 rfl dc rfl Try.underlying25 (TO.bin rfl dc rfl rfl bin_lss (TO.nil (TX.next ?_))))))))
    refine TC.condB rfl (fun hb2 => ?_) (fun hb2 => ?_)
    ·
     have h := condT hb2 h
     refine TC.skip (TX.next ?_)
     obtain ⟨j3, hj3, h⟩ := joinE h
     refine TC.cutN (β := Int × Int × Int × Int × Int × Int × Int × Bool) 0 rfl (fun b => j3 b.1 b.2.1 b.2.2.1 b.2.2.2.1 b.2.2.2.2.1 b.2.2.2.2.2.1 b.2.2.2.2.2.2.1 b.2.2.2.2.2.2.2 = some r) (fun b => []) (fun b => [(0, vtexts1), (1, .int .i64 indent1), (5, .pointer (some ⟨b1, 0, none⟩)), (8, .string s1), (10, v1), (11, .int .i64 b.1), (12, .int .i64 b.2.1), (13, .int .i64 b.2.2.1), (14, .int .i64 i6), (66, v1), (67, .int .i64 b.2.2.2.1), (68, .int .i64 b.2.2.2.2.1), (72, .int .i64 b.2.2.2.2.2.1), (73, .int .i64 b.2.2.2.2.2.2.1), (74, .bool b.2.2.2.2.2.2.2)]) (fun b => [cells b1 [.int .i64 l1.Width, .int .i64 l1.Height, .int .i64 l1.Turn, .int .i64 l1.Every] 23, vec enc_Gapi_Cell 52 3 v1 r1]) (fun cut => ?_) ?_
     ·
      refine cut (TC.block ?_)
      obtain ⟨j4, hj4, h⟩ := joinE h
      refine TC.cutN (β := Int × Int) 2 rfl (fun b => j4 b.1 b.2 = some r) (fun b => []) (fun b => [(0, vtexts1), (1, .int .i64 indent1), (5, .pointer (some ⟨b1, 0, none⟩)), (8, .string s1), (10, v1), (11, .int .i64 sum4), (12, .int .i64 from3), (13, .int .i64 b.1), (14, .int .i64 i6), (15, .int .i64 b.2)]) (fun b => [cells b1 [.int .i64 l1.Width, .int .i64 l1.Height, .int .i64 l1.Turn, .int .i64 l1.Every] 23, vec enc_Gapi_Cell 52 3 v1 r1]) (fun cut => ?_) ?_
      ·
       refine TC.seq (TC.region (TO.move rfl dc rfl (TO.move rfl dc rfl (TO.move rfl dc rfl ?_))))
       obtain ⟨q2, hq3, h⟩ := andE h
       refine TO.indexVw hwtexts1 hq3 Try.underlying25 sz_9 rfl dc rfl rfl rfl (TO.loadRowRd (n := ktexts1 + (i6 : Int).toNat) (j := 0) (i := 0) (q := q2) hrd rfl (by omega) sc_9 rfl dc rfl (Vw.get hwtexts1 hq3) rfl rfl (TO.lenStr rfl dc rfl Try.underlying9 ?_))
       obtain ⟨hg3, h⟩ := grdE h
       refine TO.bin rfl dc rfl rfl (bin_add (r := at3 + (q2.size : Int)) (IntWalk.i64_in _ hg3)) (TO.assign rfl dc rfl (TO.nil (TX.next (TC.seq (TC.region (TO.move rfl dc rfl (TO.assign rfl dc rfl (TO.nil (TX.next (cut (TC.block ?_)))))))))))
       refine TC.loopD (β := Nat × Int) (fun b => loopG (fun _ => none) (ref30_Cost_s3 r1 at3 j4 q2) b.1 b.2 = some r) (fun b => []) (fun b => [(0, vtexts1), (1, .int .i64 indent1), (5, .pointer (some ⟨b1, 0, none⟩)), (8, .string s1), (10, v1), (11, .int .i64 sum4), (12, .int .i64 from3), (13, .int .i64 (at3 + (q2.size : Int))), (14, .int .i64 i6), (15, .int .i64 b.2)]) (fun b => [cells b1 [.int .i64 l1.Width, .int .i64 l1.Height, .int .i64 l1.Turn, .int .i64 l1.Every] 23, vec enc_Gapi_Cell 52 3 v1 r1]) (fun b => b.1) (fuel, from3) h rfl (Sbs.cons rfl (Sbs.cons rfl (Sbs.cons rfl (Sbs.cons rfl (Sbs.cons rfl (Sbs.cons rfl (Sbs.cons rfl (Sbs.cons rfl (Sbs.cons rfl (Sbs.cons rfl (Sbs.nil))))))))))) (Splits.of [0, 1] kr rfl) ?_
       rintro ⟨n3, to4⟩ h
       cases n3 with
       | zero => exact noneE h
       | succ n3 =>
        obtain ⟨ag3, hag3⟩ : ∃ ag, ag = loopG (fun _ => none) (ref30_Cost_s3 r1 at3 j4 q2) n3 := ⟨_, rfl⟩
        have h : ref30_Cost_s3 r1 at3 j4 q2 ag3 to4 = some r := by rw [hag3]; exact h
        unfold ref30_Cost_s3 at h
        show TC _ _ _ _ _ ([]) _ _ [(0, vtexts1), (1, .int .i64 indent1), (5, .pointer (some ⟨b1, 0, none⟩)), (8, .string s1), (10, v1), (11, .int .i64 sum4), (12, .int .i64 from3), (13, .int .i64 (at3 + (q2.size : Int))), (14, .int .i64 i6), (15, .int .i64 to4)] [cells b1 [.int .i64 l1.Width, .int .i64 l1.Height, .int .i64 l1.Turn, .int .i64 l1.Every] 23, vec enc_Gapi_Cell 52 3 v1 r1]
        refine TC.seq (TC.seq (TC.region (TO.move rfl dc rfl (TO.move rfl dc rfl (TO.lenVec (k := 1) rfl dc rfl rfl Try.underlying44 (TO.bin rfl dc rfl rfl bin_lss (TO.move rfl dc rfl ?_)))))))
        refine TO.split (s := 50) rfl (fun hb3 => ?_) (fun hb3 => ?_)
        ·
         have h := condT hb3 h
         refine TO.move rfl dc rfl (TO.move rfl dc rfl ?_)
         obtain ⟨q3, hq4, h⟩ := andE h
         refine TO.indexVecI (k := 1) hq4 Try.underlying44 sz_52 rfl dc rfl rfl rfl rfl (TO.fieldAddr fl_52_0 rfl dc rfl (show _ = ((to4 : Int).toNat) * 3 from rfl) (TO.fieldAddr fl_50_1 rfl dc rfl (show _ = ((to4 : Int).toNat) * 3 + 1 from rfl) (TO.loadVec (i := (to4 : Int).toNat) (j := 1) (k := 1) (q := q3) sc_3 enc_Gapi_Cell_len rfl dc rfl rfl (getO_get hq4) rfl dc rfl (TO.move rfl dc rfl (TO.bin rfl dc rfl rfl bin_leq (TO.pick (b := true) rfl dc rfl rfl (TO.nil (TX.next ?_))))))))
         refine TC.condB rfl (fun hb4 => ?_) (fun hb4 => ?_)
         ·
          have h := condT hb4 h
          refine TC.skip (TX.next (TC.block (TC.region (TO.move rfl dc rfl ?_))))
          obtain ⟨hg4, h⟩ := grdE h
          refine TO.bin rfl dc rfl rfl (bin_add (r := to4 + 1) (IntWalk.i64_in _ hg4)) (TO.assign rfl dc rfl (TO.nil (TX.blockNormal ?_)))
          subst hag3
          exact TX.againD (n3, to4 + 1) h (Nat.lt_succ_self _) rfl (Sbs.cons rfl (Sbs.cons rfl (Sbs.cons rfl (Sbs.cons rfl (Sbs.cons rfl (Sbs.cons rfl (Sbs.cons rfl (Sbs.cons rfl (Sbs.cons rfl (Sbs.cons rfl (Sbs.nil))))))))))) (Splits.of [0, 1] kr rfl)
         ·
          have h := condF hb4 h
          refine TC.exit (TX.thenExit (TX.thenExit (TX.blockHere ?_)))
          exact TX.meetD (at3 + (q2.size : Int), to4) h rfl (Sbs.cons rfl (Sbs.cons rfl (Sbs.cons rfl (Sbs.cons rfl (Sbs.cons rfl (Sbs.cons rfl (Sbs.cons rfl (Sbs.cons rfl (Sbs.cons rfl (Sbs.cons rfl (Sbs.nil))))))))))) (Splits.of [0, 1] kr rfl)
        ·
         have h := condF hb3 h
         refine TO.skip rfl dc (TO.skip rfl dc (TO.skip rfl dc (TO.skip rfl dc (TO.skip rfl dc (TO.skip rfl dc (TO.skip rfl dc (TO.skip rfl dc (TO.pick (b := false) rfl dc rfl rfl (TO.nil (TX.next (TC.condF rfl (TC.exit (TX.thenExit ?_)))))))))))))
         refine TX.thenExit (TX.blockHere ?_)
         exact TX.meetD (at3 + (q2.size : Int), to4) h rfl (Sbs.cons rfl (Sbs.cons rfl (Sbs.cons rfl (Sbs.cons rfl (Sbs.cons rfl (Sbs.cons rfl (Sbs.cons rfl (Sbs.cons rfl (Sbs.cons rfl (Sbs.cons rfl (Sbs.nil))))))))))) (Splits.of [0, 1] kr rfl)
      ·
       rintro ⟨at5, to1⟩ h
       rw [hj4] at h
       show TC _ _ _ _ _ ([]) _ _ [(0, vtexts1), (1, .int .i64 indent1), (5, .pointer (some ⟨b1, 0, none⟩)), (8, .string s1), (10, v1), (11, .int .i64 sum4), (12, .int .i64 from3), (13, .int .i64 at5), (14, .int .i64 i6), (15, .int .i64 to1)] [cells b1 [.int .i64 l1.Width, .int .i64 l1.Height, .int .i64 l1.Turn, .int .i64 l1.Every] 23, vec enc_Gapi_Cell 52 3 v1 r1]
       refine TC.seq (TC.seq (TC.region (TO.move rfl dc rfl (TO.move rfl dc rfl (TO.bin rfl dc rfl rfl bin_eql (TO.move rfl dc rfl ?_))))))
       refine TO.split (s := 65) rfl (fun hb5 => ?_) (fun hb5 => ?_)
       ·
        have h := condT hb5 h
        refine TO.skip rfl dc (TO.skip rfl dc (TO.skip rfl dc (TO.skip rfl dc (TO.skip rfl dc (TO.skip rfl dc (TO.skip rfl dc (TO.skip rfl dc (TO.skip rfl dc (TO.pick (b := true) rfl dc rfl rfl (TO.nil (TX.next (TC.condT rfl (TC.seq ?_)))))))))))))
        refine TC.region (TO.assign rfl dc rfl (TO.assign rfl dc rfl (TO.nil (TX.next (TC.ret (TX.thenRet (TX.blockRet (TX.thenRet (TX.thenRet (TX.blockRet (TX.thenRet ?_)))))))))))
        cases h
        exact TX.fin (rs := [.tmp 6, .tmp 7]) () (.inl rfl) Try.results12 (.cons (.tmp rfl) (.cons (.tmp rfl) .nil)) rfl Splits.nil
       ·
        have h := condF hb5 h
        refine TO.move rfl dc rfl (TO.move rfl dc rfl ?_)
        obtain ⟨hg5, h⟩ := grdE h
        refine TO.bin rfl dc rfl rfl (bin_sub (r := to1 - 1) (IntWalk.i64_in _ hg5)) ?_
        obtain ⟨q4, hq5, h⟩ := andE h
        refine TO.indexVecI (k := 1) hq5 Try.underlying44 sz_52 rfl dc rfl rfl rfl rfl (TO.fieldAddr fl_52_0 rfl dc rfl (show _ = ((to1 - 1 : Int).toNat) * 3 from rfl) (TO.fieldAddr fl_50_1 rfl dc rfl (show _ = ((to1 - 1 : Int).toNat) * 3 + 1 from rfl) (TO.loadVec (i := (to1 - 1 : Int).toNat) (j := 1) (k := 1) (q := q4) sc_3 enc_Gapi_Cell_len rfl dc rfl rfl (getO_get hq5) rfl dc rfl (TO.move rfl dc rfl (TO.bin rfl dc rfl rfl bin_neq (TO.pick (b := false) rfl dc rfl rfl (TO.nil (TX.next ?_))))))))
        refine TC.condB rfl (fun hb6 => ?_) (fun hb6 => ?_)
        ·
         have h := condT hb6 h
         refine TC.seq (TC.region (TO.assign rfl dc rfl (TO.assign rfl dc rfl (TO.nil (TX.next (TC.ret (TX.thenRet (TX.blockRet (TX.thenRet (TX.thenRet (TX.blockRet (TX.thenRet ?_))))))))))))
         cases h
         exact TX.fin (rs := [.tmp 6, .tmp 7]) () (.inl rfl) Try.results12 (.cons (.tmp rfl) (.cons (.tmp rfl) .nil)) rfl Splits.nil
        ·
         have h := condF hb6 h
         refine TC.skip (TX.next (TC.seq (TC.region (TO.loads (k := 0) (cs := [.int .i64 l1.Width, .int .i64 l1.Height, .int .i64 l1.Turn, .int .i64 l1.Every]) rw_23 rfl dc rfl rfl rfl rfl (TO.move rfl dc rfl (TO.move rfl dc rfl (TO.bin rfl dc rfl rfl bin_eql ?_)))))))
         obtain ⟨r2, hq6, h⟩ := andE h
         refine TO.callP (v := .int .i64 r2) (vs := [.agg #[.int .i64 l1.Width, .int .i64 l1.Height, .int .i64 l1.Turn, .int .i64 l1.Every], .int .i64 indent1, .bool ((i6 : Int) == 0)]) rfl dc rfl rfl rfl en_17 (ref30_Room_fn (l1 := l1) hq6) (TO.assign rfl dc rfl (TO.nil (TX.next (TC.seq (TC.region (TO.move rfl dc rfl (TO.move rfl dc rfl (TO.move rfl dc rfl (TO.move rfl dc rfl ?_)))))))))
         refine TO.vecVw (k := 1) rfl (fun hw1 => ?_)
         obtain ⟨hg6, h⟩ := grdE h
         obtain ⟨v2, hv1, hs1⟩ := slice_Vw (lo := some (.int .i64 from3)) (hi := some (.int .i64 to1)) hw1 Try.underlying44 sz_52 (.inr rfl) (.inr rfl) hg6
         refine TO.slice rfl dc rfl rfl rfl hs1 (TO.move rfl dc rfl (TO.move rfl dc rfl (TO.bin rfl dc rfl rfl bin_eql ?_)))
         obtain ⟨r3, hq7, h⟩ := andE h
         refine TO.callK (v := .bool r3) (vs := [.string s1, v2, .int .i64 r2, .bool ((i6 : Int) == 0)]) rfl dc rfl rfl rfl en_18 (ref30_Row_fn hv1 hq7) [1] kr rfl (TO.assign rfl dc rfl (TO.nil (TX.next (TC.seq (TC.seq (TC.region (TO.move rfl dc rfl (TO.un rfl dc rfl un_not (TO.nil (TX.next ?_))))))))))
         refine TC.condB rfl (fun hb7 => ?_) (fun hb7 => ?_)
         ·
          have h := condT hb7 h
          refine TC.seq (TC.region (TO.assign rfl dc rfl (TO.assign rfl dc rfl (TO.nil (TX.next (TC.ret (TX.thenRet (TX.blockRet (TX.thenRet (TX.thenRet (TX.blockRet (TX.thenRet ?_))))))))))))
          cases h
          exact TX.fin (rs := [.tmp 6, .tmp 7]) () (.inl rfl) Try.results12 (.cons (.tmp rfl) (.cons (.tmp rfl) .nil)) rfl Splits.nil
         ·
          have h := condF hb7 h
          refine TC.skip (TX.next ?_)
          obtain ⟨j5, hj5, h⟩ := joinE h
          refine TC.cutN (β := Int) 0 rfl (fun b => j5 b = some r) (fun b => []) (fun b => [(0, vtexts1), (1, .int .i64 indent1), (5, .pointer (some ⟨b1, 0, none⟩)), (8, .string s1), (10, v1), (11, .int .i64 b), (13, .int .i64 at5), (14, .int .i64 i6), (15, .int .i64 to1), (66, v1), (67, .int .i64 to1), (68, .int .i64 (to1 - 1)), (69, .pointer (some ⟨vblk v1, (to1 - 1 : Int).toNat * 3, none⟩)), (70, .pointer (some ⟨vblk v1, ((to1 - 1 : Int).toNat) * 3, none⟩)), (71, .pointer (some ⟨vblk v1, ((to1 - 1 : Int).toNat) * 3 + 1, none⟩)), (72, .int .i64 q4.Span_To), (73, .int .i64 at5), (74, .bool ((q4.Span_To : Int) != at5))]) (fun b => [cells b1 [.int .i64 l1.Width, .int .i64 l1.Height, .int .i64 l1.Turn, .int .i64 l1.Every] 23, vec enc_Gapi_Cell 52 3 v1 r1]) (fun cut => ?_) ?_
          ·
           refine cut (TC.seq (TC.region (TO.move rfl dc rfl (TO.move rfl dc rfl (TO.lenVw hwtexts1 rfl dc rfl Try.underlying25 ?_)))))
           obtain ⟨hg7, h⟩ := grdE h
           refine TO.bin rfl dc rfl rfl (bin_sub (r := (texts1.length : Int) - 1) (IntWalk.i64_in _ hg7)) (TO.bin rfl dc rfl rfl bin_lss (TO.nil (TX.next ?_)))
           refine TC.condB rfl (fun hb8 => ?_) (fun hb8 => ?_)
           ·
            have h := condT hb8 h
            refine TC.region (TO.move rfl dc rfl (TO.move rfl dc rfl (TO.move rfl dc rfl (TO.move rfl dc rfl (TO.move rfl dc rfl ?_)))))
            refine TO.vecVw (k := 1) rfl (fun hw2 => ?_)
            obtain ⟨hg8, h⟩ := grdE h
            obtain ⟨v3, hv2, hs2⟩ := slice_Vw (lo := some (.int .i64 from3)) (hi := some (.int .i64 to1)) hw2 Try.underlying44 sz_52 (.inr rfl) (.inr rfl) hg8
            refine TO.slice rfl dc rfl rfl rfl hs2 (TO.move rfl dc rfl ?_)
            obtain ⟨r4, hq8, h⟩ := andE h
            refine TO.callK (v := .int .i64 r4) (vs := [.string s1, v3, .int .i64 r2]) rfl dc rfl rfl rfl en_19 (ref30_RowCost_fn hv2 hq8) [1] kr rfl ?_
            obtain ⟨hg9, h⟩ := grdE h
            refine TO.bin rfl dc rfl rfl (bin_add (r := sum4 + r4) (IntWalk.i64_in _ hg9)) (TO.assign rfl dc rfl (TO.nil ?_))
            exact TX.meetD (sum4 + r4) h rfl (Sbs.cons rfl (Sbs.cons rfl (Sbs.cons rfl (Sbs.cons rfl (Sbs.cons rfl (Sbs.cons rfl (Sbs.cons rfl (Sbs.cons rfl (Sbs.cons rfl (Sbs.cons rfl (Sbs.cons rfl (Sbs.cons rfl (Sbs.cons rfl (Sbs.cons rfl (Sbs.cons rfl (Sbs.cons rfl (Sbs.cons rfl (Sbs.cons rfl (Sbs.nil))))))))))))))))))) (Splits.of [0, 1] kr rfl)
           ·
            have h := condF hb8 h
            refine TC.skip ?_
            exact TX.meetD sum4 h rfl (Sbs.cons rfl (Sbs.cons rfl (Sbs.cons rfl (Sbs.cons rfl (Sbs.cons rfl (Sbs.cons rfl (Sbs.cons rfl (Sbs.cons rfl (Sbs.cons rfl (Sbs.cons rfl (Sbs.cons rfl (Sbs.cons rfl (Sbs.cons rfl (Sbs.cons rfl (Sbs.cons rfl (Sbs.cons rfl (Sbs.cons rfl (Sbs.cons rfl (Sbs.nil))))))))))))))))))) (Splits.of [0, 1] kr rfl)
          ·
           rintro sum6 h
           rw [hj5] at h
           show TC _ _ _ _ _ ([]) _ _ [(0, vtexts1), (1, .int .i64 indent1), (5, .pointer (some ⟨b1, 0, none⟩)), (8, .string s1), (10, v1), (11, .int .i64 sum6), (13, .int .i64 at5), (14, .int .i64 i6), (15, .int .i64 to1), (66, v1), (67, .int .i64 to1), (68, .int .i64 (to1 - 1)), (69, .pointer (some ⟨vblk v1, (to1 - 1 : Int).toNat * 3, none⟩)), (70, .pointer (some ⟨vblk v1, ((to1 - 1 : Int).toNat) * 3, none⟩)), (71, .pointer (some ⟨vblk v1, ((to1 - 1 : Int).toNat) * 3 + 1, none⟩)), (72, .int .i64 q4.Span_To), (73, .int .i64 at5), (74, .bool ((q4.Span_To : Int) != at5))] [cells b1 [.int .i64 l1.Width, .int .i64 l1.Height, .int .i64 l1.Turn, .int .i64 l1.Every] 23, vec enc_Gapi_Cell 52 3 v1 r1]
           refine TC.region (TO.move rfl dc rfl (TO.assign rfl dc rfl (TO.nil (TX.blockNormal ?_))))
           exact TX.meetD (sum6, to1, at5, to1, to1 - 1, q4.Span_To, at5, (q4.Span_To : Int) != at5) h rfl (Sbs.cons rfl (Sbs.cons rfl (Sbs.cons rfl (Sbs.cons rfl (Sbs.cons rfl (Sbs.cons rfl (Sbs.cons rfl (Sbs.cons rfl (Sbs.cons rfl (Sbs.cons rfl (Sbs.cons rfl (Sbs.cons rfl (Sbs.cons rfl (Sbs.cons rfl (Sbs.cons rfl (Sbs.nil)))))))))))))))) (Splits.of [0, 1] kr rfl)
     ·
      rintro ⟨sum5, from4, at4, x1, x2, x3, x4, x5⟩ h
      rw [hj3] at h
      show TC _ _ _ _ _ ([]) _ _ [(0, vtexts1), (1, .int .i64 indent1), (5, .pointer (some ⟨b1, 0, none⟩)), (8, .string s1), (10, v1), (11, .int .i64 sum5), (12, .int .i64 from4), (13, .int .i64 at4), (14, .int .i64 i6), (66, v1), (67, .int .i64 x1), (68, .int .i64 x2), (72, .int .i64 x3), (73, .int .i64 x4), (74, .bool x5)] [cells b1 [.int .i64 l1.Width, .int .i64 l1.Height, .int .i64 l1.Turn, .int .i64 l1.Every] 23, vec enc_Gapi_Cell 52 3 v1 r1]
      refine TC.region (TO.move rfl dc rfl ?_)
      obtain ⟨hg10, h⟩ := grdE h
      refine TO.bin rfl dc rfl rfl (bin_add (r := i6 + 1) (IntWalk.i64_in _ hg10)) (TO.assign rfl dc rfl (TO.nil ?_))
      subst hag2
      exact TX.againD (n2, sum5, from4, at4, i6 + 1) h (Nat.lt_succ_self _) rfl (Sbs.cons rfl (Sbs.cons rfl (Sbs.cons rfl (Sbs.cons rfl (Sbs.cons rfl (Sbs.cons rfl (Sbs.cons rfl (Sbs.cons rfl (Sbs.cons rfl (Sbs.nil)))))))))) (Splits.of [0, 1] kr rfl)
    ·
     have h := condF hb2 h
     refine TC.exit (TX.thenExit (TX.thenExit (TX.blockHere ?_)))
     exact TX.meetD sum4 h rfl (Sbs.cons rfl (Sbs.nil)) Splits.nil
  ·
   rintro sum1 h
   rw [hj2] at h
   show TC _ _ _ _ _ ([]) _ _ [(11, .int .i64 sum1)] []
   refine TC.seq (TC.region (TO.move rfl dc rfl (TO.assign rfl dc rfl (TO.assign rfl dc rfl (TO.nil (TX.next (TC.ret ?_)))))))
   cases h
   exact TX.fin (rs := [.tmp 6, .tmp 7]) () (.inl rfl) Try.results12 (.cons (.tmp rfl) (.cons (.tmp rfl) .nil)) rfl Splits.nil
end Go.Proofs.Ytnhdnpdbmgeheaa
namespace Go.Proofs.Ytnhdnpdbmgeheaa
open Go.RowKit Go.Lib
set_option linter.unusedVariables false
set_option linter.unusedSimpArgs false
def law30_live_v  : Option Bool := andThen (page_Turn_v (⟨#[111, 110, 101, 32, 116, 119, 111, 32, 116, 104, 114, 101, 101]⟩ : ByteArray) 0 (⟨8, 4, 2, 0⟩ : Gapi_Layout)) fun (r1 : ((List ByteArray) × Int × Int)) => bcond (((r1.1.length : Int) : Int) == 2) ( andThen (getO r1.1 0) fun (q1 : ByteArray) => bcond (decide (q1 = (⟨#[111, 110, 101, 32, 116, 119, 111, 32]⟩ : ByteArray))) ( bcond ((r1.2.1 : Int) == 1) ( some ((r1.2.2 : Int) == 0)
) ( some false
)
) ( some false
)
) ( some false
)
set_option maxRecDepth 100000 in
set_option maxHeartbeats 4000000 in
theorem law30_live_fn  {r : Bool} (h : law30_live_v = some r) : FnP Try.prog 6 [] (.bool r) := by
 unfold law30_live_v at h
 refine FnP.intro Try.func6 rfl Try.ntmps6 (by simp) ?_
 intro w0 K
 refine TC.seq (TC.region (TO.assign rfl dc rfl (TO.nil (TX.next (TC.seq (TC.region ?_))))))
 refine TO.build (v := .agg #[.int .i64 8, .int .i64 4, .int .i64 2, .int .i64 0]) (ps := [(0, .const (.int .i64 8)), (1, .const (.int .i64 4)), (2, .const (.int .i64 2))]) rfl dc rfl (fun _ => by kernel_rfl) ?_
 obtain ⟨r1, hq1, h⟩ := andE h
 refine TO.call (vs := [.string (⟨#[111, 110, 101, 32, 116, 119, 111, 32, 116, 104, 114, 101, 101]⟩ : ByteArray), .int .i64 0, .agg #[.int .i64 8, .int .i64 4, .int .i64 2, .int .i64 0]]) rfl dc rfl rfl rfl en_7 (page_Turn_fn (l1 := (⟨8, 4, 2, 0⟩ : Gapi_Layout)) hq1) Splits.nil ?_
 rintro v1
 show TO _ _ _ _ _ _ _ _ _ _ [vec encS 9 1 v1 r1.1]
 refine TO.move rfl dc rfl (TO.extract rfl dc rfl rfl (TO.extract rfl dc rfl rfl (TO.extract rfl dc rfl rfl (TO.assign rfl dc rfl (TO.assign rfl dc rfl (TO.assign rfl dc rfl (TO.nil (TX.next (TC.seq (TC.region (TO.move rfl dc rfl (TO.lenVec (k := 0) rfl dc rfl rfl Try.underlying25 (TO.bin rfl dc rfl rfl bin_eql ?_)))))))))))))
 refine TO.move rfl dc rfl ?_
 refine TO.split (s := 13) rfl (fun hb1 => ?_) (fun hb1 => ?_)
 ·
  have h := condT hb1 h
  refine TO.move rfl dc rfl ?_
  obtain ⟨q1, hq2, h⟩ := andE h
  refine TO.indexVecI (k := 0) hq2 Try.underlying25 sz_9 rfl dc rfl rfl rfl rfl (TO.loadVec (i := (0 : Int).toNat) (j := 0) (k := 0) (q := q1) sc_9 encS_len rfl dc rfl rfl (getO_get hq2) rfl dc rfl (TO.bin rfl dc rfl rfl bin_seql (TO.pick (b := true) rfl dc rfl rfl (TO.move rfl dc rfl ?_))))
  refine TO.split (s := 19) rfl (fun hb2 => ?_) (fun hb2 => ?_)
  ·
   have h := condT hb2 h
   refine TO.move rfl dc rfl (TO.bin rfl dc rfl rfl bin_eql (TO.pick (b := true) rfl dc rfl rfl (TO.move rfl dc rfl ?_)))
   refine TO.split (s := 23) rfl (fun hb3 => ?_) (fun hb3 => ?_)
   ·
    have h := condT hb3 h
    refine TO.move rfl dc rfl (TO.bin rfl dc rfl rfl bin_eql (TO.pick (b := true) rfl dc rfl rfl (TO.assign rfl dc rfl (TO.nil (TX.next (TC.ret ?_))))))
    cases h
    exact TX.fin (rs := [.tmp 0]) () (.inl rfl) Try.results6 (.cons (.tmp rfl) .nil) rfl Splits.nil
   ·
    have h := condF hb3 h
    refine TO.skip rfl dc (TO.skip rfl dc (TO.pick (b := false) rfl dc rfl rfl (TO.assign rfl dc rfl (TO.nil (TX.next (TC.ret ?_))))))
    cases h
    exact TX.fin (rs := [.tmp 0]) () (.inl rfl) Try.results6 (.cons (.tmp rfl) .nil) rfl Splits.nil
  ·
   have h := condF hb2 h
   refine TO.skip rfl dc (TO.skip rfl dc (TO.pick (b := false) rfl dc rfl rfl (TO.move rfl dc rfl (TO.skip rfl dc (TO.skip rfl dc (TO.pick (b := false) rfl dc rfl rfl (TO.assign rfl dc rfl (TO.nil (TX.next (TC.ret ?_))))))))))
   cases h
   exact TX.fin (rs := [.tmp 0]) () (.inl rfl) Try.results6 (.cons (.tmp rfl) .nil) rfl Splits.nil
 ·
  have h := condF hb1 h
  refine TO.skip rfl dc (TO.skip rfl dc (TO.skip rfl dc (TO.skip rfl dc (TO.pick (b := false) rfl dc rfl rfl (TO.move rfl dc rfl (TO.skip rfl dc (TO.skip rfl dc (TO.pick (b := false) rfl dc rfl rfl (TO.move rfl dc rfl (TO.skip rfl dc (TO.skip rfl dc (TO.pick (b := false) rfl dc rfl rfl (TO.assign rfl dc rfl ?_)))))))))))))
  refine TO.nil (TX.next (TC.ret ?_))
  cases h
  exact TX.fin (rs := [.tmp 0]) () (.inl rfl) Try.results6 (.cons (.tmp rfl) .nil) rfl Splits.nil
def law30_fine_v (n1 : Int) (indent1 : Int) (l1 : Gapi_Layout) : Option Bool := andThen (ref30_May_v l1) fun (r1 : Bool) => bcond (r1) ( bcond (decide ((0 : Int) ≤ indent1)) ( bcond (decide ((indent1 : Int) ≤ 1024)) ( some (decide ((n1 : Int) ≤ 1024))
) ( some false
)
) ( some false
)
) ( some false
)
set_option maxRecDepth 100000 in
set_option maxHeartbeats 4000000 in
theorem law30_fine_fn {n1 : Int} {indent1 : Int} {l1 : Gapi_Layout} {r : Bool} (h : law30_fine_v n1 indent1 l1 = some r) : FnP Try.prog 8 [.int .i64 n1, .int .i64 indent1, .agg #[.int .i64 l1.Width, .int .i64 l1.Height, .int .i64 l1.Turn, .int .i64 l1.Every]] (.bool r) := by
 unfold law30_fine_v at h
 refine FnP.intro Try.func8 rfl Try.ntmps8 (by simp) ?_
 intro w0 K
 refine TC.seq (TC.region ?_)
 refine TO.box rfl dc rfl (fun b1 => ?_)
 refine TO.assign rfl dc rfl (TO.nil (TX.next (TC.seq (TC.region (TO.loads (k := 0) (cs := [.int .i64 l1.Width, .int .i64 l1.Height, .int .i64 l1.Turn, .int .i64 l1.Every]) rw_23 rfl dc rfl rfl rfl rfl ?_)))))
 obtain ⟨r1, hq1, h⟩ := andE h
 refine TO.callP (v := .bool r1) (vs := [.agg #[.int .i64 l1.Width, .int .i64 l1.Height, .int .i64 l1.Turn, .int .i64 l1.Every]]) rfl dc rfl rfl rfl en_15 (ref30_May_fn (l1 := l1) hq1) (TO.move rfl dc rfl ?_)
 refine TO.split (s := 9) rfl (fun hb1 => ?_) (fun hb1 => ?_)
 ·
  have h := condT hb1 h
  refine TO.move rfl dc rfl (TO.bin rfl dc rfl rfl bin_geq (TO.pick (b := true) rfl dc rfl rfl (TO.move rfl dc rfl ?_)))
  refine TO.split (s := 13) rfl (fun hb2 => ?_) (fun hb2 => ?_)
  ·
   have h := condT hb2 h
   refine TO.move rfl dc rfl (TO.bin rfl dc rfl rfl bin_leq (TO.pick (b := true) rfl dc rfl rfl (TO.move rfl dc rfl ?_)))
   refine TO.split (s := 17) rfl (fun hb3 => ?_) (fun hb3 => ?_)
   ·
    have h := condT hb3 h
    refine TO.move rfl dc rfl (TO.bin rfl dc rfl rfl bin_leq (TO.pick (b := true) rfl dc rfl rfl (TO.assign rfl dc rfl (TO.nil (TX.next (TC.ret ?_))))))
    cases h
    exact TX.fin (rs := [.tmp 6]) () (.inl rfl) Try.results8 (.cons (.tmp rfl) .nil) rfl Splits.nil
   ·
    have h := condF hb3 h
    refine TO.skip rfl dc (TO.skip rfl dc (TO.pick (b := false) rfl dc rfl rfl (TO.assign rfl dc rfl (TO.nil (TX.next (TC.ret ?_))))))
    cases h
    exact TX.fin (rs := [.tmp 6]) () (.inl rfl) Try.results8 (.cons (.tmp rfl) .nil) rfl Splits.nil
  ·
   have h := condF hb2 h
   refine TO.skip rfl dc (TO.skip rfl dc (TO.pick (b := false) rfl dc rfl rfl (TO.move rfl dc rfl (TO.skip rfl dc (TO.skip rfl dc (TO.pick (b := false) rfl dc rfl rfl (TO.assign rfl dc rfl (TO.nil (TX.next (TC.ret ?_))))))))))
   cases h
   exact TX.fin (rs := [.tmp 6]) () (.inl rfl) Try.results8 (.cons (.tmp rfl) .nil) rfl Splits.nil
 ·
  have h := condF hb1 h
  refine TO.skip rfl dc (TO.skip rfl dc (TO.pick (b := false) rfl dc rfl rfl (TO.move rfl dc rfl (TO.skip rfl dc (TO.skip rfl dc (TO.pick (b := false) rfl dc rfl rfl (TO.move rfl dc rfl (TO.skip rfl dc (TO.skip rfl dc (TO.pick (b := false) rfl dc rfl rfl (TO.assign rfl dc rfl (TO.nil (TX.next ?_)))))))))))))
  refine TC.ret ?_
  cases h
  exact TX.fin (rs := [.tmp 6]) () (.inl rfl) Try.results8 (.cons (.tmp rfl) .nil) rfl Splits.nil
end Go.Proofs.Ytnhdnpdbmgeheaa
namespace Go.Proofs.Ytnhdnpdbmgeheaa
open Go.RowKit Go.Lib
set_option linter.unusedVariables false
set_option linter.unusedSimpArgs false
def mayB (l : Gapi_Layout) : Bool := decide ((8 : Int) ≤ l.Width) && (decide ((l.Width : Int) ≤ 256) && (decide ((4 : Int) ≤ l.Height) && (decide ((l.Height : Int) ≤ 200) && (decide ((0 : Int) ≤ l.Turn) && (decide ((l.Turn : Int) ≤ 7) && (decide ((0 : Int) ≤ l.Every) && decide ((l.Every : Int) ≤ 512)))))))
theorem bcand (c d : Bool) (r : Option Bool) (h : r = some d) : bcond c r (some false) = some (c && d) := by
  cases c
  · rfl
  · exact h
theorem may_v (l : Gapi_Layout) : page_may_v l = some (mayB l) := by
  unfold page_may_v mayB
  exact bcand _ _ _ (bcand _ _ _ (bcand _ _ _ (bcand _ _ _ (bcand _ _ _ (bcand _ _ _ (bcand _ _ _ rfl))))))
theorem rmay_v (l : Gapi_Layout) : ref30_May_v l = some (mayB l) := by
  unfold ref30_May_v mayB
  exact bcand _ _ _ (bcand _ _ _ (bcand _ _ _ (bcand _ _ _ (bcand _ _ _ (bcand _ _ _ (bcand _ _ _ rfl))))))
theorem fine_v (n i : Int) (l : Gapi_Layout) : law30_fine_v n i l = some (mayB l && (decide ((0 : Int) ≤ i) && (decide ((i : Int) ≤ 1024) && decide ((n : Int) ≤ 1024)))) := by
  unfold law30_fine_v
  exact thenI (rmay_v l) (bcand _ _ _ (bcand _ _ _ (bcand _ _ _ rfl)))
theorem mayB_rng {l : Gapi_Layout} (h : mayB l = true) : (8 ≤ l.Width ∧ l.Width ≤ 256) ∧ 0 ≤ l.Turn ∧ l.Turn ≤ 7 := by
  unfold mayB at h
  simp only [Bool.and_eq_true, decide_eq_true_eq] at h
  omega
/-! ### The rows of a line -/
abbrev fstW (i : Int) (l : Gapi_Layout) : Int := max 1 (l.Width - i)
abbrev nxtW (l : Gapi_Layout) : Int := l.Width - l.Turn
theorem w_rng {i : Int} {l : Gapi_Layout} (hm : mayB l = true) (hi : 0 ≤ i ∧ i ≤ 1024) : I64 (l.Width - i) ∧ (0 ≤ fstW i l ∧ fstW i l ≤ 1000000) ∧ (0 ≤ nxtW l ∧ nxtW l ≤ 1000000) := by
  have := mayB_rng hm
  refine ⟨⟨by omega, by omega⟩, ?_, ?_⟩
  · show 0 ≤ max 1 (l.Width - i) ∧ max 1 (l.Width - i) ≤ 1000000
    omega
  · show 0 ≤ l.Width - l.Turn ∧ l.Width - l.Turn ≤ 1000000
    omega
abbrev rowsS (s : ByteArray) (i : Int) (l : Gapi_Layout) : List ByteArray := textsF s 0 (endsS s (fstW i l) (nxtW l))
/-! ### page.Cost -/
theorem sizL_app : ∀ A B : List ByteArray, sizL (A ++ B) = sizL A + sizL B
  | [], B => by show sizL B = 0 + sizL B; omega
  | x :: A, B => by show x.size + sizL (A ++ B) = x.size + sizL A + sizL B; rw [sizL_app A B]; omega
theorem cost_sz (L : List ByteArray) (hl : L.length ≤ 2147483648) (hb : ∀ x ∈ L, x.size ≤ 140737488355328) (j : Option (Int × Int)) : ∀ (ts pre : List ByteArray) (m : Nat), L = pre ++ ts → ts.length < m → sizL pre ≤ 1024 →
    loopG (fun _ _ => none) (page_Cost_s1 L j) m (sizL pre : Int) (pre.length : Int) = if sizL L ≤ 1024 then j else some (0, 2)
  | [], pre, m, h, hm, hp => by
    obtain ⟨m, rfl⟩ : ∃ q, m = q + 1 := ⟨m - 1, by simp at hm; omega⟩
    rw [List.append_nil] at h; subst h
    rw [loopI]
    generalize loopG (fun _ _ => none) (page_Cost_s1 L j) m = ag
    unfold page_Cost_s1
    rw [if_pos hp]
    exact condFI lp_ge rfl
  | t :: ts, pre, m, h, hm, hp => by
    obtain ⟨m, rfl⟩ : ∃ q, m = q + 1 := ⟨m - 1, by simp at hm; omega⟩
    have h1 : sizL (pre ++ [t]) = sizL pre + t.size := by rw [sizL_app]; show sizL pre + (t.size + 0) = _; omega
    have h2 : sizL L = sizL pre + (t.size + sizL ts) := by rw [h, sizL_app]; rfl
    have ih := fun q => cost_sz L hl hb j ts (pre ++ [t]) m (by rw [h]; simp) (by simp at hm; omega) q
    rw [loopI]
    generalize loopG (fun _ _ => none) (page_Cost_s1 L j) m = ag at ih ⊢
    have hg : L[pre.length]? = some t := by rw [h]; simp
    have hpl := lp_lt' hg
    have hbt := hb t (List.mem_of_getElem? hg)
    rw [h1, show (((pre ++ [t]).length : Nat) : Int) = (pre.length : Int) + 1 by simp] at ih
    unfold page_Cost_s1
    refine condTI (lp_lt hg) (thenI (lp_get hg) (grdI ⟨by omega, by omega⟩ ?_))
    by_cases hc : (1024 : Int) < (sizL pre : Int) + (t.size : Int)
    · refine condTI (decide_eq_true hc) ?_
      rw [if_neg (by omega)]
    · refine condFI (decide_eq_false hc) (grdI ⟨by omega, by omega⟩ ?_)
      rw [show (sizL pre : Int) + (t.size : Int) = ((sizL pre + t.size : Nat) : Int) by omega]
      exact ih (by omega)
def cOut : Option Int → Int × Int
  | none => (0, 2)
  | some c => (c, 0)
theorem Cost_v (L : List ByteArray) (hl : L.length ≤ 100000) (hb : ∀ x ∈ L, x.size ≤ 140737488355328) (i : Int) (l : Gapi_Layout) : page_Cost_v L i l = some (if mayB l = true ∧ 0 ≤ i ∧ i ≤ 1024 ∧ sizL L ≤ 1024 then cOut (costF (catL L) (fstW i l) (nxtW l) 0 L) else (0, 2)) := by
  unfold page_Cost_v
  have hz := fun j => cost_sz L (by omega) hb j L [] fuel rfl (by have := big_fuel (n := L.length) (by omega); omega) (Nat.zero_le _)
  refine joinI ((hz _).trans ?_)
  by_cases hs : sizL L ≤ 1024
  · rw [if_pos hs]
    refine thenI (may_v l) ?_
    cases hm : mayB l with
    | false => exact condTI rfl (by rw [if_neg (fun h => by cases h.1)])
    | true =>
      refine condFI rfl ?_
      by_cases h1 : i < 0
      · exact condTI (decide_eq_true h1) (by rw [if_neg (fun h => by omega)])
      refine condFI (decide_eq_false h1) ?_
      by_cases h2 : 1024 < i
      · exact condTI (decide_eq_true h2) (by rw [if_neg (fun h => by omega)])
      refine condFI (decide_eq_false h2) (joinI (thenI (join_v L (by omega) (by omega)) ?_))
      obtain ⟨g1, g2, g3⟩ := w_rng hm (i := i) ⟨by omega, by omega⟩
      have hcs := catL_size L
      have hmr := mayB_rng hm
      refine thenI (newTurner_v (catL L) (by omega) i l g1 ⟨by omega, by omega⟩) ?_
      have := cost_go (s := catL L) (a := fstW i l) (b := nxtW l) (by omega) g2 g3 L hl (fun (cost1 : Int) => some (cost1, 0)) L [] 0 fuel 0 rfl (Nat.zero_le _) (by have := big_fuel (n := L.length) (by omega); omega) ⟨Int.le_refl _, by simp⟩
      rw [if_pos ⟨rfl, by omega, by omega, hs⟩]
      refine this.trans ?_
      cases costF (catL L) (fstW i l) (nxtW l) 0 L with
      | none => rfl
      | some x => show some ((0 : Int) + x, (0 : Int)) = some (x, 0); rw [Int.zero_add]
  · rw [if_neg hs, if_neg (fun h => hs h.2.2.2)]
theorem live_v : law30_live_v = some true := by decide +kernel
end Go.Proofs.Ytnhdnpdbmgeheaa
namespace Go.Proofs.Ytnhdnpdbmgeheaa
open Go.RowKit Go.Lib
set_option linter.unusedVariables false
set_option linter.unusedSimpArgs false
/-! ### Pieces, reference 02 -/
def p2 (p : Pc) : Gref02_Piece := ⟨p.i, p.w, p.r⟩
def p2z (p : Pc) : Gref02_Piece := ⟨p.i, 0, p.r⟩
theorem pcs_next (l : List UInt8) (P : List Pc) (x : Pc) (B : List Pc) (h : pcs l = P ++ x :: B) : (B = [] → x.i + x.w = l.length) ∧ ∀ y B', B = y :: B' → y.i = x.i + x.w := by
  obtain ⟨h1, h2, h3, h4⟩ := pcs_split l P x B h
  constructor
  · intro e
    rw [e] at h4
    by_cases hl : l.drop (x.i + x.w) = []
    · have := congrArg List.length hl
      rw [List.length_drop] at this
      simp at this; omega
    · rw [pcsFrom_cons _ _ hl] at h4; cases h4
  · intro y B' e
    rw [e] at h4
    by_cases hl : l.drop (x.i + x.w) = []
    · rw [hl, pcsFrom_nil] at h4; cases h4
    · rw [pcsFrom_cons _ _ hl] at h4
      have := (List.cons.inj h4).1
      rw [this]
theorem set_last {α : Type} (A : List α) (x y : α) : (A ++ [x]).set (((A ++ [x]).length : Int) - 1 : Int).toNat y = A ++ [y] := by
  rw [show (((A ++ [x]).length : Int) - 1 : Int).toNat = A.length by rw [List.length_append]; simp, List.set_append_right _ _ (Nat.le_refl _), Nat.sub_self]; rfl
theorem get_last {α : Type} (A : List α) (x : α) : getO (A ++ [x]) (((A ++ [x]).length : Int) - 1) = some x :=
  getO_of (n := A.length) (by rw [List.length_append]; simp) (by simp)
theorem r2_go (s : ByteArray) (hs : s.size ≤ 2147483647) (j : List Gref02_Piece → Option (List Gref02_Piece)) (hj : ∀ Q q, pcs s.data.toList = Q ++ [q] → j (Q.map p2 ++ [p2z q]) = some ((pcs s.data.toList).map p2)) :
    ∀ (ts Q : List Pc) (q : Pc) (m : Nat), pcs s.data.toList = Q ++ q :: ts → ts.length < m → loopG (fun _ _ => none) (ref02_Pieces_s1 s j) m (Q.map p2 ++ [p2z q]) (Q.length + 1) = some ((pcs s.data.toList).map p2)
  | [], Q, q, m, h, hm => by
    obtain ⟨m, rfl⟩ : ∃ k, m = k + 1 := ⟨m - 1, by simp at hm; omega⟩
    rw [loopI]
    generalize loopG (fun _ _ => none) (ref02_Pieces_s1 s j) m = ag
    unfold ref02_Pieces_s1
    exact condFI (decide_eq_false (by rw [h]; simp)) (hj Q q h)
  | t :: ts, Q, q, m, h, hm => by
    obtain ⟨m, rfl⟩ : ∃ k, m = k + 1 := ⟨m - 1, by simp at hm; omega⟩
    have ih := r2_go s hs j hj ts (Q ++ [q]) t m (by rw [h]; simp) (by simp at hm; omega)
    rw [loopI]
    generalize loopG (fun _ _ => none) (ref02_Pieces_s1 s j) m = ag at ih ⊢
    have hn := (pcs_next _ _ _ _ h).2 t ts rfl
    have hq := pcs_pos s.data.toList q (by rw [h]; simp)
    have ht := pcs_pos s.data.toList t (by rw [h]; simp)
    have hc := pcs_count s.data.toList (Q ++ [q]).length (Q ++ [q]) t ts (Nat.le_refl _) (by rw [h]; simp)
    have hsz := size_listP s
    have hx : (pcs s.data.toList)[Q.length + 1]? = some t := by rw [h]; simp
    unfold ref02_Pieces_s1
    refine condTI (decide_eq_true ((List.getElem?_eq_some_iff.1 hx).1)) (thenI hx (joinI (condTI (decide_eq_true (by rw [List.length_append]; simp)) ?_)))
    have hl : (((Q.map p2 ++ [p2z q]).length : Nat) : Int) = (Q.length : Int) + 1 := by simp
    rw [List.length_append] at hc
    simp only [List.length_cons, List.length_nil] at hc
    refine grdI ⟨by omega, by omega⟩ (grdI ⟨by omega, by omega⟩ (thenI (get_last _ _) (grdI ⟨?_, ?_⟩ ?_)))
    · show -9223372036854775808 ≤ (t.i : Int) - (q.i : Int); omega
    · show (t.i : Int) - (q.i : Int) ≤ 9223372036854775807; omega
    · rw [set_last]
      have e : (⟨(p2z q).At, (t.i : Int) - (p2z q).At, (p2z q).Rune⟩ : Gref02_Piece) = p2 q := by
        show (⟨(q.i : Int), (t.i : Int) - (q.i : Int), (q.r : Int)⟩ : Gref02_Piece) = ⟨q.i, q.w, q.r⟩
        rw [hn, show ((q.i + q.w : Nat) : Int) - (q.i : Int) = (q.w : Int) by omega]
      rw [e]
      have hm2 : Q.map p2 ++ [p2 q] = (Q ++ [q]).map p2 := by simp
      rw [hm2]
      refine grdI (by rw [List.length_map, List.length_append]; show Q.length + 1 + 1 ≤ _; omega) ?_
      rw [show (Q ++ [q]).length = Q.length + 1 by simp] at ih
      exact ih
def r2J (s : ByteArray) : List Gref02_Piece → Option (List Gref02_Piece) := fun (l1 : List Gref02_Piece) => joinK (fun (j3 : (List Gref02_Piece) → Option (List Gref02_Piece)) => bcond (decide ((0 : Int) < (l1.length : Int))) (grd (I64 ((l1.length : Int) - 1)) <| grd (I64 ((l1.length : Int) - 1)) <| andThen (getO l1 ((l1.length : Int) - 1)) fun (q2 : Gref02_Piece) =>
      grd (I64 ((s.size : Int) - q2.At)) <| j3 (l1.set ((l1.length : Int) - 1 : Int).toNat (⟨q2.At, (s.size : Int) - q2.At, q2.Rune⟩ : Gref02_Piece))) (j3 l1)) (fun (l6 : List Gref02_Piece) => some l6)
theorem r2_v (s : ByteArray) (hs : s.size ≤ 2147483647) : ref02_Pieces_v s = some ((pcs s.data.toList).map p2) := by
  unfold ref02_Pieces_v
  refine joinI ?_
  change loopG (fun _ _ => none) (ref02_Pieces_s1 s (r2J s)) fuel ([] : List Gref02_Piece) 0 = _
  have hsz := size_listP s
  have hj : ∀ Q q, pcs s.data.toList = Q ++ [q] → r2J s (Q.map p2 ++ [p2z q]) = some ((pcs s.data.toList).map p2) := by
    intro Q q h
    have hn := (pcs_next _ _ _ _ h).1 rfl
    have hq := pcs_pos s.data.toList q (by rw [h]; simp)
    have hc := pcs_count s.data.toList Q.length Q q [] (Nat.le_refl _) h
    have hl : (((Q.map p2 ++ [p2z q]).length : Nat) : Int) = (Q.length : Int) + 1 := by simp
    refine joinI (condTI (decide_eq_true (by omega)) (grdI ⟨by omega, by omega⟩ (grdI ⟨by omega, by omega⟩ (thenI (get_last _ _) (grdI ⟨?_, ?_⟩ ?_)))))
    · show -9223372036854775808 ≤ (s.size : Int) - (q.i : Int); omega
    · show (s.size : Int) - (q.i : Int) ≤ 9223372036854775807; omega
    · rw [set_last]
      have e : (⟨(p2z q).At, (s.size : Int) - (p2z q).At, (p2z q).Rune⟩ : Gref02_Piece) = p2 q := by
        show (⟨(q.i : Int), (s.size : Int) - (q.i : Int), (q.r : Int)⟩ : Gref02_Piece) = ⟨q.i, q.w, q.r⟩
        rw [← hsz, ← hn, show ((q.i + q.w : Nat) : Int) - (q.i : Int) = (q.w : Int) by omega]
      rw [e, h]; simp
  cases hP : pcs s.data.toList with
  | nil =>
    obtain ⟨F, hF, _⟩ := fuel_eq 1 (by decide)
    rw [hF, loopI]
    generalize loopG (fun _ _ => none) (ref02_Pieces_s1 s _) F = ag
    unfold ref02_Pieces_s1
    exact condFI (decide_eq_false (by rw [hP]; simp)) (joinI (condFI rfl rfl))
  | cons q ts =>
    rw [← hP]
    have hg := fun m hm => r2_go s hs _ hj ts [] q m hP hm
    have hlen : ts.length ≤ 2147483647 := by
      have := pcs_count s.data.toList _ _ _ _ (Nat.le_refl _) (show pcs s.data.toList = ([] : List Pc) ++ q :: ts from hP)
      rcases List.eq_nil_or_concat ts with rfl | ⟨D, z, rfl⟩
      · simp
      · rw [List.concat_eq_append] at hP ⊢
        have h1 := pcs_count s.data.toList _ (q :: D) z [] (Nat.le_refl _) (by rw [hP]; simp)
        have h2 := pcs_pos s.data.toList z (by rw [hP]; simp)
        simp at h1 ⊢; omega
    obtain ⟨F, hF, hF2⟩ := fuel_eq 1 (by decide)
    rw [hF, loopI]
    have hg := hg F (by omega)
    generalize loopG (fun _ _ => none) (ref02_Pieces_s1 s _) F = ag at hg ⊢
    unfold ref02_Pieces_s1
    refine condTI (decide_eq_true (by rw [hP]; simp)) (thenI (a := q) (by rw [hP]; rfl) (joinI (condFI rfl (grdI (by decide) ?_))))
    exact hg
/-! ### Wide runes, reference 05 -/
def PW : List (Int × Int) := [(4352, 4447), (11904, 12350), (12353, 19903), (19968, 42191), (44032, 55203), (63744, 64255), (65072, 65135), (65280, 65376), (65504, 65510), (127744, 128591), (129280, 129535), (131072, 262141)]
def inW (r : Int) (p : Int × Int) : Bool := decide (p.1 ≤ r) && decide (r ≤ p.2)
def srt : Int → List (Int × Int) → Prop
  | _, [] => True
  | a, p :: ps => a < p.1 ∧ p.1 ≤ p.2 ∧ srt p.2 ps
theorem srt_low (r : Int) : ∀ (ps : List (Int × Int)) (a : Int), srt a ps → r ≤ a → ps.any (inW r) = false
  | [], a, _, _ => rfl
  | p :: ps, a, ⟨h1, h2, h3⟩, h => by
    rw [List.any_cons, srt_low r ps p.2 h3 (by omega), Bool.or_false]
    unfold inW
    rw [decide_eq_false (by omega)]; rfl
theorem wideL_any (r : Int) : ∀ (ps : List (Int × Int)) (a : Int), srt a ps → wideL r false (ps.flatMap fun p => [p.1, p.2]) = ps.any (inW r)
  | [], a, _ => rfl
  | p :: ps, a, ⟨h1, h2, h3⟩ => by
    show wideL r false (p.1 :: p.2 :: ps.flatMap fun p => [p.1, p.2]) = _
    rw [List.any_cons]
    unfold wideL
    by_cases e1 : r < p.1
    · rw [if_pos e1, srt_low r ps p.2 h3 (by omega)]
      unfold inW; rw [decide_eq_false (by omega)]; rfl
    · rw [if_neg e1]
      unfold wideL
      by_cases e2 : r ≤ p.2
      · rw [if_pos e2]; unfold inW; rw [decide_eq_true (by omega), decide_eq_true e2]; rfl
      · rw [if_neg e2, wideL_any r ps p.2 h3]; unfold inW; rw [decide_eq_false e2, Bool.and_false, Bool.false_or]
theorem wEdges_eq : wEdges = PW.flatMap fun p => [p.1, p.2] := by decide +kernel
theorem wideB_any (r : Int) : wideB r = PW.any (inW r) := by
  unfold wideB
  rw [wEdges_eq]
  exact wideL_any r PW 0 (by unfold PW; simp [srt])
theorem rwide_v (r : Int) : ref05_wide_v r = some (wideB r) := by
  unfold ref05_wide_v
  refine joinI ?_
  have key : ∀ (d k n : Nat), k + d = 12 → d < n → loopG (fun _ => none) (ref05_wide_s1 r (some false)) n (k : Int) = some ((PW.drop k).any (inW r)) := by
    intro d
    induction d with
    | zero =>
      intro k n hk hn
      obtain ⟨n, rfl⟩ : ∃ q, n = q + 1 := ⟨n - 1, by omega⟩
      rw [loopI]
      generalize loopG (fun _ => none) (ref05_wide_s1 r (some false)) n = ag
      unfold ref05_wide_s1
      refine condFI (decide_eq_false (by omega)) ?_
      rw [show k = PW.length by show k = 12; omega, List.drop_length]; rfl
    | succ d ih =>
      intro k n hk hn
      obtain ⟨n, rfl⟩ : ∃ q, n = q + 1 := ⟨n - 1, by omega⟩
      have ih' := ih (k + 1) n (by omega) (by omega)
      rw [loopI]
      rw [show ((k + 1 : Nat) : Int) = (k : Int) + 1 by omega] at ih'
      generalize loopG (fun _ => none) (ref05_wide_s1 r (some false)) n = ag at ih' ⊢
      have hkl : k < PW.length := by show k < 12; omega
      have hx : PW[k]? = some PW[k] := List.getElem?_eq_getElem hkl
      have hd := List.drop_eq_getElem_cons hkl
      generalize PW[k] = p at hx hd
      have hA : getO ([4352, 11904, 12353, 19968, 44032, 63744, 65072, 65280, 65504, 127744, 129280, 131072] : List Int) (k : Int) = some p.1 := by
        refine getO_nat (xs := PW.map Prod.fst) ?_
        rw [List.getElem?_map, hx]; rfl
      have hB : getO ([4447, 12350, 19903, 42191, 55203, 64255, 65135, 65376, 65510, 128591, 129535, 262141] : List Int) (k : Int) = some p.2 := by
        refine getO_nat (xs := PW.map Prod.snd) ?_
        rw [List.getElem?_map, hx]; rfl
      unfold ref05_wide_s1
      rw [hd, List.any_cons]
      refine condTI (decide_eq_true (by omega)) (joinI (thenI hA ?_))
      by_cases e1 : p.1 ≤ r
      · refine condTI (decide_eq_true e1) (thenI hB ?_)
        by_cases e2 : r ≤ p.2
        · refine condTI (decide_eq_true e2) ?_
          unfold inW; rw [decide_eq_true e1, decide_eq_true e2]; rfl
        · refine condFI (decide_eq_false e2) (grdI ⟨by omega, by omega⟩ (ih'.trans ?_))
          show _ = some ((decide (p.1 ≤ r) && decide (r ≤ p.2)) || _)
          rw [decide_eq_false e2, Bool.and_false, Bool.false_or]
      · refine condFI (decide_eq_false e1) (grdI ⟨by omega, by omega⟩ (ih'.trans ?_))
        show _ = some ((decide (p.1 ≤ r) && decide (r ≤ p.2)) || _)
        rw [decide_eq_false e1, Bool.false_and, Bool.false_or]
  have := key 12 0 fuel rfl (big_fuel (by decide))
  rw [wideB_any]
  exact this
end Go.Proofs.Ytnhdnpdbmgeheaa
namespace Go.Proofs.Ytnhdnpdbmgeheaa
open Go.RowKit Go.Lib
set_option linter.unusedVariables false
set_option linter.unusedSimpArgs false
theorem kind_rng (r : Int) : 0 ≤ kind r ∧ kind r ≤ 10 := by
  unfold kind kindP
  repeat' split
  all_goals omega
abbrev jnP (p : Pc) : Bool := !p.broken && decide ((p.r : Int) = 8205)
def p5 (p : Pc) : Gref05_Piece := ⟨p.i, (p.i : Int) + (p.w : Int), kdP (pcG p), jnP p, colP (pcG p)⟩
theorem kd_br {p : Pc} (h : p.broken = true) : kdP (pcG p) = 11 := by unfold kdP kindOf pcG; rw [if_pos h]
theorem kd_nb {p : Pc} (h : p.broken = false) : kdP (pcG p) = kind (p.r : Int) := by show (if p.broken = true then (11 : Int) else kind (p.r : Int)) = _; rw [h]; exact if_neg Bool.false_ne_true
theorem br_iff (p : Pc) : p.broken = true ↔ (p.r : Int) = 65533 ∧ (p.w : Int) = 1 := by
  unfold Pc.broken
  simp only [Bool.and_eq_true, beq_iff_eq]
  omega
theorem r5_step {α : Type} (r1 : List Gref02_Piece) (i3 : Int) (p : Pc) (hg : getO r1 i3 = some (p2 p)) (h32 : I32 (p.r : Int)) (hb : p.broken = false) (J : Gref02_Piece → Gref02_Piece → Int → Option α) :
    (andThen (getO r1 i3) fun (q3 : Gref02_Piece) => grd (I32 q3.Rune) <| andThen (getO r1 i3) fun (q4 : Gref02_Piece) => bcond ((q4.Rune : Int) == 8205) (J q3 q4 0) (bcond (((kind q3.Rune) : Int) == 2) (J q3 q4 0) (bcond (((kind q3.Rune) : Int) == 4) (J q3 q4 0) (bcond (((kind q3.Rune) : Int) == 9) (J q3 q4 0)
      (andThen (getO r1 i3) fun (q5 : Gref02_Piece) => andThen (ref05_wide_v q5.Rune) fun (r2 : Bool) => bcond (r2) (J q3 q4 2) (J q3 q4 1)))))) = J (p2 p) (p2 p) (colP (pcG p)) := by
  refine thenI hg (grdI h32 (thenI hg ?_))
  have hr : (p2 p).Rune = (p.r : Int) := rfl
  have hk := kd_nb hb
  have hkr := kind_rng (p.r : Int)
  have hrg : (pcG p).Rune = (p.r : Int) := rfl
  rw [hr]
  unfold colP
  rw [hk, if_neg (by omega), hrg]
  by_cases h0 : (p.r : Int) = 8205
  · refine condTI (beqI h0) ?_
    rw [if_pos (.inr (.inr (by rw [h0]; decide)))]
  refine condFI (beqF h0) ?_
  by_cases h2 : kind (p.r : Int) = 2
  · rw [if_pos (.inl h2)]; exact condTI (beqI h2) rfl
  refine condFI (beqF h2) ?_
  by_cases h4 : kind (p.r : Int) = 4
  · rw [if_pos (.inr (.inl h4))]; exact condTI (beqI h4) rfl
  refine condFI (beqF h4) ?_
  by_cases h9 : kind (p.r : Int) = 9
  · rw [if_pos (.inr (.inr h9))]; exact condTI (beqI h9) rfl
  rw [if_neg (by omega)]
  refine condFI (beqF h9) (thenI hg (thenI (rwide_v _) ?_))
  rw [hr]
  cases wideB (p.r : Int) <;> rfl
theorem r5_go (X : List Pc) (hX : ∀ p ∈ X, I32 (p.r : Int) ∧ p.i ≤ 2147483647 ∧ p.w ≤ 2147483647) (hl : X.length ≤ 2147483646) (j : List Gref05_Piece → Option (List Gref05_Piece)) : ∀ (ts pre : List Pc) (m : Nat), X = pre ++ ts → ts.length < m →
    loopG (fun _ _ => none) (ref05_Pieces_s1 j (X.map p2)) m (pre.map p5) (pre.length : Int) = j (X.map p5)
  | [], pre, m, h, hm => by
    obtain ⟨m, rfl⟩ : ∃ q, m = q + 1 := ⟨m - 1, by simp at hm; omega⟩
    rw [List.append_nil] at h; subst h
    rw [loopI]
    generalize loopG (fun _ _ => none) (ref05_Pieces_s1 j (X.map p2)) m = ag
    unfold ref05_Pieces_s1
    exact condFI (decide_eq_false (by simp)) rfl
  | p :: ts, pre, m, h, hm => by
    obtain ⟨m, rfl⟩ : ∃ q, m = q + 1 := ⟨m - 1, by simp at hm; omega⟩
    have ih := r5_go X hX hl j ts (pre ++ [p]) m (by rw [h]; simp) (by simp at hm; omega)
    rw [loopI]
    generalize loopG (fun _ _ => none) (ref05_Pieces_s1 j (X.map p2)) m = ag at ih ⊢
    have hx : (X.map p2)[pre.length]? = some (p2 p) := by rw [List.getElem?_map, h]; simp
    have hg := lp_get hx
    obtain ⟨o1, o2, o3⟩ := hX p (by rw [h]; simp)
    have hpl : pre.length < X.length := by rw [h]; simp
    have hJ : ∀ c, c = colP (pcG p) → ∀ k, k = kdP (pcG p) → ∀ b, b = jnP p → (grd ((pre.map p5).length + 1 ≤ 2147483648) <| grd (I64 ((pre.length : Int) + 1)) <| ag (pre.map p5 ++ [(⟨(p2 p).At, (p2 p).At + (p2 p).Width, k, b, c⟩ : Gref05_Piece)]) ((pre.length : Int) + 1)) = j (X.map p5) := by
      rintro c rfl k rfl b rfl
      refine grdI (by rw [List.length_map]; omega) (grdI ⟨by omega, by omega⟩ ?_)
      rw [← ih]
      have e1 : (pre ++ [p]).map p5 = pre.map p5 ++ [p5 p] := by simp
      rw [e1, show (((pre ++ [p]).length : Nat) : Int) = (pre.length : Int) + 1 by simp]; rfl
    unfold ref05_Pieces_s1
    refine condTI (lp_lt hx) (joinI (thenI hg (grdI ⟨?_, ?_⟩ (thenI hg ?_))))
    · show -9223372036854775808 ≤ (p.i : Int) + (p.w : Int); omega
    · show (p.i : Int) + (p.w : Int) ≤ 9223372036854775807; omega
    have nb := fun (hb : p.broken = false) => (r5_step (X.map p2) (pre.length : Int) p hg o1 hb (fun q3 q4 (c : Int) => (grd ((pre.map p5).length + 1 ≤ 2147483648) <| grd (I64 ((pre.length : Int) + 1)) <| ag (pre.map p5 ++ [(⟨(p2 p).At, (p2 p).At + (p2 p).Width, kind q3.Rune, (q4.Rune : Int) == 8205, c⟩ : Gref05_Piece)]) ((pre.length : Int) + 1)))).trans (hJ _ rfl _ (kd_nb hb).symm _ (by
      show ((p.r : Int) == 8205) = (!p.broken && decide ((p.r : Int) = 8205))
      rw [hb]; rfl))
    cases hb : p.broken with
    | true =>
      obtain ⟨e1, e2⟩ := (br_iff p).1 hb
      have hj1 := hJ 1 (by unfold colP; rw [if_pos (kd_br hb)]) 11 (kd_br hb).symm false (by show false = (!p.broken && _); rw [hb]; rfl)
      refine condTI ?_ (condTI ?_ ?_)
      · exact beqI e1
      · exact beqI e2
      · exact hj1
    | false =>
      have hn : ¬ ((p.r : Int) = 65533 ∧ (p.w : Int) = 1) := fun e => by rw [(br_iff p).2 e] at hb; cases hb
      by_cases e1 : (p.r : Int) = 65533
      · refine condTI ?_ (condFI ?_ (nb hb))
        · exact beqI e1
        · exact beqF (fun e => hn ⟨e1, e⟩)
      · refine condFI ?_ (nb hb)
        exact beqF e1
theorem pcs_small (s : ByteArray) (hs : s.size ≤ 2147483646) : (∀ p ∈ pcs s.data.toList, I32 (p.r : Int) ∧ p.i ≤ 2147483647 ∧ p.w ≤ 2147483647) ∧ (pcs s.data.toList).length ≤ s.size := by
  have hsz := size_listP s
  constructor
  · intro p hp
    obtain ⟨h1, h2, h3⟩ := pcs_pos s.data.toList p hp
    have := h3.valid
    exact ⟨⟨by omega, by omega⟩, by omega, by omega⟩
  · rcases List.eq_nil_or_concat (pcs s.data.toList) with h | ⟨D, z, h⟩
    · rw [h]; simp
    · rw [List.concat_eq_append] at h
      have h1 := pcs_count s.data.toList _ D z [] (Nat.le_refl _) h
      have h2 := pcs_pos s.data.toList z (by rw [h]; simp)
      rw [h, List.length_append]; simp; omega
theorem r5p_v (s : ByteArray) (hs : s.size ≤ 2147483646) : ref05_Pieces_v s = some ((pcs s.data.toList).map p5) := by
  obtain ⟨h1, h2⟩ := pcs_small s hs
  unfold ref05_Pieces_v
  refine joinI (thenI (r2_v s (by omega)) ?_)
  exact r5_go (pcs s.data.toList) h1 (by omega) (fun out1 => some out1) (pcs s.data.toList) [] fuel rfl (big_fuel (by omega))
/-! ### A piece's first byte -/
theorem piece_byte (s : ByteArray) {p : Pc} (hp : p ∈ pcs s.data.toList) (n : Nat) (hn : n < 128) : ∃ c : Int, getB s (p.i : Int) = some c ∧ (c = (n : Int) ↔ p.r = n) := by
  obtain ⟨h1, h2, h3⟩ := pcs_pos s.data.toList p hp
  have hsz := size_listP s
  have hb := getB_by (s := s) (a := p.i) (i := 0) (by omega)
  rw [show (p.i : Int) + ((0 : Nat) : Int) = (p.i : Int) by omega] at hb
  refine ⟨_, hb, ?_⟩
  have hen : encodeRune ((n : Nat) : Int) = [UInt8.ofNat n] := by
    have : ∀ n : Fin 128, encodeRune ((n.val : Nat) : Int) = [UInt8.ofNat n.val] := by decide +kernel
    exact this ⟨n, hn⟩
  cases hl : s.data.toList.drop p.i with
  | nil => have := congrArg List.length hl; rw [List.length_drop] at this; simp at this; omega
  | cons b l =>
    have hby : byI (b :: l) 0 = (b.toNat : Int) := rfl
    rw [hby]
    rw [hl] at h3
    constructor
    · intro e
      have hbn : b = UInt8.ofNat n := by
        have : b.toNat = n := by omega
        rw [← this]; simp
      have hd := dec_enc n (by omega) l
      rw [hen] at hd
      have : [UInt8.ofNat n] ++ l = b :: l := by rw [hbn]; rfl
      rw [this, h3.eq] at hd
      exact (Prod.mk.inj hd).1
    · intro e
      have hnb : ¬ (p.r = 65533 ∧ p.w = 1) := by omega
      have hby := h3.bytes hnb
      rw [e, hen] at hby
      have hw : 1 ≤ p.w := h3.pos
      obtain ⟨w, hw'⟩ : ∃ w, p.w = w + 1 := ⟨p.w - 1, by omega⟩
      rw [hw', List.take_succ_cons] at hby
      have := (List.cons.inj hby).1
      rw [← this]
      have : (UInt8.ofNat n).toNat = n := by simp; omega
      omega
end Go.Proofs.Ytnhdnpdbmgeheaa
namespace Go.Proofs.Ytnhdnpdbmgeheaa
open Go.RowKit Go.Lib
set_option linter.unusedVariables false
set_option linter.unusedSimpArgs false
/-! ### What is taken, as the program takes it -/
def tkN (h : Int) : Pc → List Pc → Nat
  | _, [] => 0
  | l, t :: ts => if joinB h (l.r : Int) (pcG t) = true then tkN h t ts + 1 else 0
def endT (e : Int) : List Pc → Int
  | [] => e
  | t :: ts => endT ((t.i : Int) + (t.w : Int)) ts
def maxC (c : Int) : List Pc → Int
  | [] => c
  | t :: ts => maxC (max c (colP (pcG t))) ts
def stopK (h : Int) : Prop := h = 11 ∨ h = 4 ∨ h = 9
instance (h : Int) : Decidable (stopK h) := by unfold stopK; infer_instance
def nTk (x : Pc) (ts : List Pc) : Nat :=
  if (x.r : Int) = 13 then (match ts with | y :: _ => if (y.r : Int) = 10 then 1 else 0 | [] => 0) else if stopK (kdP (pcG x)) then 0 else tkN (kdP (pcG x)) x ts
theorem tkN_cons (h : Int) (l t : Pc) (ts : List Pc) : tkN h l (t :: ts) = if joinB h (l.r : Int) (pcG t) = true then tkN h t ts + 1 else 0 := rfl
theorem tkN_le (h : Int) : ∀ (ts : List Pc) (l : Pc), tkN h l ts ≤ ts.length
  | [], _ => Nat.le_refl _
  | t :: ts, l => by
    unfold tkN
    have := tkN_le h ts t
    split
    · rw [List.length_cons]; omega
    · exact Nat.zero_le _
theorem nTk_le (x : Pc) (ts : List Pc) : nTk x ts ≤ ts.length := by
  unfold nTk
  split
  · cases ts with
    | nil => exact Nat.le_refl _
    | cons y ts =>
      simp only
      split
      · rw [List.length_cons]; omega
      · exact Nat.zero_le _
  split
  · exact Nat.zero_le _
  · exact tkN_le _ _ _
theorem takes_stop {h : Int} (hs : stopK h) (l : Int) (x : Gapi_Piece) : takesB h l x = false := by
  unfold takesB
  rcases hs with rfl | rfl | rfl <;> rfl
theorem takes_go {h : Int} (hs : ¬ stopK h) (l : Int) (x : Gapi_Piece) : takesB h l x = joinB h l x := by
  unfold takesB
  unfold stopK at hs
  rw [neqI (by omega : h ≠ 11), neqI (by omega : h ≠ 4), neqI (by omega : h ≠ 9)]; rfl
theorem kd13 {p : Pc} (h : (p.r : Int) = 13 ∨ (p.r : Int) = 10) : kdP (pcG p) = 4 := by
  have hb : p.broken = false := by
    cases hb : p.broken with
    | false => rfl
    | true => have := (br_iff p).1 hb; omega
  rw [kd_nb hb]
  rcases h with h | h <;> rw [h] <;> decide
theorem join13 {h l : Int} {p : Pc} (hj : joinB h l (pcG p) = true) : (p.r : Int) ≠ 13 := by
  intro e
  have hk := kd13 (p := p) (.inl e)
  unfold joinB at hj
  rw [hk] at hj
  have hr : (pcG p).Rune = (p.r : Int) := rfl
  rw [hr, e] at hj
  simp at hj
theorem cf_take {h : Int} (hs : ¬ stopK h) : ∀ (ts : List Pc) (c : Gapi_Cell) (l : Pc), (l.r : Int) ≠ 13 →
    cellsF c h (l.r : Int) (ts.map pcG) = ⟨c.Span_From, endT c.Span_To (ts.take (tkN h l ts)), maxC c.Columns (ts.take (tkN h l ts))⟩ :: cellsP ((ts.drop (tkN h l ts)).map pcG)
  | [], c, l, _ => rfl
  | t :: ts, c, l, hl => by
    have hr : (pcG t).Rune = (t.r : Int) := rfl
    rw [List.map_cons, cellsF_cons, if_neg (fun e => hl e.1), takes_go hs]
    unfold tkN
    by_cases hj : joinB h (l.r : Int) (pcG t) = true
    · rw [if_pos hj, if_pos hj, hr, cf_take hs ts _ t (join13 hj)]
      rfl
    · rw [if_neg hj, if_neg hj]; rfl
theorem cf_stop {h : Int} (hs : stopK h) (ts : List Pc) (c : Gapi_Cell) (l : Int) (hl : l ≠ 13) : cellsF c h l (ts.map pcG) = c :: cellsP (ts.map pcG) := by
  cases ts with
  | nil => rfl
  | cons t ts =>
    rw [List.map_cons, cellsF_cons, if_neg (fun e => hl e.1), takes_stop hs, if_neg (by decide)]; rfl
theorem cells_one (x : Pc) (ts : List Pc) : cellsP ((x :: ts).map pcG) =
    ⟨x.i, endT ((x.i : Int) + (x.w : Int)) (ts.take (nTk x ts)), maxC (colP (pcG x)) (ts.take (nTk x ts))⟩ :: cellsP ((ts.drop (nTk x ts)).map pcG) := by
  show cellsF ⟨x.i, (x.i : Int) + (x.w : Int), colP (pcG x)⟩ (kdP (pcG x)) (x.r : Int) (ts.map pcG) = _
  unfold nTk
  by_cases h13 : (x.r : Int) = 13
  · rw [if_pos h13]
    have hk := kd13 (p := x) (.inl h13)
    have hst : stopK (kdP (pcG x)) := by rw [hk]; exact .inr (.inl rfl)
    have hc0 : ∀ p : Pc, ((p.r : Int) = 13 ∨ (p.r : Int) = 10) → colP (pcG p) = 0 := by
      intro p hp
      unfold colP
      rw [kd13 hp]; rfl
    cases ts with
    | nil => rfl
    | cons y ts =>
      simp only
      have hr : (pcG y).Rune = (y.r : Int) := rfl
      rw [List.map_cons, cellsF_cons, hr]
      by_cases h10 : (y.r : Int) = 10
      · rw [if_pos ⟨h13, h10⟩, if_pos h10, cf_stop hst ts _ _ (by omega)]
        have e1 := hc0 x (.inl h13)
        have e2 := hc0 y (.inr h10)
        show (⟨(x.i : Int), (y.i : Int) + (y.w : Int), colP (pcG x)⟩ : Gapi_Cell) :: _ = ⟨(x.i : Int), (y.i : Int) + (y.w : Int), max (colP (pcG x)) (colP (pcG y))⟩ :: _
        rw [e1, e2]; rfl
      · rw [if_neg (fun e => h10 e.2), if_neg h10, takes_stop hst, if_neg (by decide)]; rfl
  · rw [if_neg h13]
    by_cases hs : stopK (kdP (pcG x))
    · rw [if_pos hs, cf_stop hs ts _ _ h13]; rfl
    · rw [if_neg hs, cf_take hs ts _ x h13]
/-! ### As the reference takes it -/
theorem ref_join (h : Int) (l t : Pc) : joinB h (l.r : Int) (pcG t) = (decide (kdP (pcG t) = 2) || (jnP t || (decide (h = 10) && (decide (kdP (pcG t) = 10) && jnP l)))) := by
  have hr : (pcG t).Rune = (t.r : Int) := rfl
  have hbr : (pcG t).Broken = t.broken := rfl
  unfold joinB
  rw [hr, hbr]
  cases hb : t.broken with
  | true =>
    rw [kd_br hb]
    simp [jnP, hb]
  | false =>
    have hjn : jnP t = decide ((t.r : Int) = 8205) := by unfold jnP; rw [hb]; rfl
    have hjl : jnP l = decide ((l.r : Int) = 8205) := by
      unfold jnP
      cases hlb : l.broken with
      | false => rfl
      | true =>
        have := (br_iff l).1 hlb
        rw [decide_eq_false (by omega)]; rfl
    rw [hjn, hjl]
    simp only [Bool.false_eq_true, if_false]
    by_cases h2 : kdP (pcG t) = 2
    · rw [if_pos h2, decide_eq_true h2]; rfl
    rw [if_neg h2, decide_eq_false h2, Bool.false_or]
    by_cases hj : (t.r : Int) = 8205
    · rw [if_pos hj, decide_eq_true hj]; rfl
    rw [if_neg hj, decide_eq_false hj, Bool.false_or]
    by_cases hh : h = 10
    · rw [if_pos hh, decide_eq_true hh, Bool.true_and]
      by_cases h10 : kdP (pcG t) = 10
      · rw [if_pos h10, decide_eq_true h10, Bool.true_and]
      · rw [if_neg h10, decide_eq_false h10]; rfl
    · rw [if_neg hh, decide_eq_false hh]; rfl
theorem join_go (X : List Pc) (hX : X.length ≤ 2147483646) (j2 : Int → Option (List Gapi_Cell)) (q1 : Gref05_Piece) : ∀ (ts pre : List Pc) (l : Pc) (m : Nat), X = pre ++ l :: ts → ts.length < m →
    loopG (fun _ => none) (ref05_Cells_s4 (X.map p5) j2 q1) m ((pre.length : Int) + 1) = j2 ((pre.length : Int) + 1 + (tkN q1.Kind l ts : Int))
  | [], pre, l, m, h, hm => by
    obtain ⟨m, rfl⟩ : ∃ q, m = q + 1 := ⟨m - 1, by simp at hm; omega⟩
    rw [loopI]
    generalize loopG (fun _ => none) (ref05_Cells_s4 (X.map p5) j2 q1) m = ag
    unfold ref05_Cells_s4
    refine joinI (condFI (decide_eq_false (by rw [List.length_map, h]; simp)) ?_)
    show j2 _ = j2 ((pre.length : Int) + 1 + 0)
    rw [Int.add_zero]
  | t :: ts, pre, l, m, h, hm => by
    obtain ⟨m, rfl⟩ : ∃ q, m = q + 1 := ⟨m - 1, by simp at hm; omega⟩
    have ih := join_go X hX j2 q1 ts (pre ++ [l]) t m (by rw [h]; simp) (by simp at hm; omega)
    rw [loopI]
    generalize loopG (fun _ => none) (ref05_Cells_s4 (X.map p5) j2 q1) m = ag at ih ⊢
    have hx : (X.map p5)[pre.length + 1]? = some (p5 t) := by rw [List.getElem?_map, h]; simp
    have hg := lp_get hx
    have hlt := lp_lt hx
    rw [show ((pre.length + 1 : Nat) : Int) = (pre.length : Int) + 1 by omega] at hg hlt
    have hy : getO (X.map p5) ((pre.length : Int) + 1 - 1) = some (p5 l) := getO_of (n := pre.length) (by omega) (by rw [List.getElem?_map, h]; simp)
    have hxl : X.length = pre.length + (ts.length + 2) := by rw [h]; simp
    have e0 : (((pre ++ [l]).length : Nat) : Int) + 1 = (pre.length : Int) + 1 + 1 := by simp
    rw [e0] at ih
    have go : joinB q1.Kind (l.r : Int) (pcG t) = true → (grd (I64 ((pre.length : Int) + 1 + 1)) <| ag ((pre.length : Int) + 1 + 1)) = j2 ((pre.length : Int) + 1 + (tkN q1.Kind l (t :: ts) : Int)) := by
      intro hj
      refine grdI ⟨by omega, by omega⟩ (ih.trans ?_)
      rw [tkN_cons, if_pos hj]
      congr 1
      push_cast; omega
    have no : joinB q1.Kind (l.r : Int) (pcG t) = false → j2 ((pre.length : Int) + 1) = j2 ((pre.length : Int) + 1 + (tkN q1.Kind l (t :: ts) : Int)) := by
      intro hj
      rw [tkN_cons, if_neg (by rw [hj]; decide)]
      show j2 _ = j2 ((pre.length : Int) + 1 + 0)
      rw [Int.add_zero]
    rw [ref_join] at go no
    unfold ref05_Cells_s4
    refine joinI (condTI hlt (thenI hg ?_))
    have hK : (p5 t).Kind = kdP (pcG t) := rfl
    have hJ : (p5 t).Joiner = jnP t := rfl
    have hJl : (p5 l).Joiner = jnP l := rfl
    rw [hK, hJ]
    by_cases h2 : kdP (pcG t) = 2
    · rw [decide_eq_true h2] at go
      exact condTI (beqI h2) (go rfl)
    rw [decide_eq_false h2, Bool.false_or] at go no
    refine condFI (beqF h2) ?_
    cases hj : jnP t with
    | true =>
      rw [hj] at go
      exact condTI rfl (go rfl)
    | false =>
      rw [hj, Bool.false_or] at go no
      refine condFI rfl ?_
      by_cases hh : q1.Kind = 10
      · rw [decide_eq_true hh, Bool.true_and] at go no
        refine condTI (beqI hh) ?_
        by_cases h10 : kdP (pcG t) = 10
        · rw [decide_eq_true h10, Bool.true_and] at go no
          refine condTI (beqI h10) (grdI ⟨by omega, by omega⟩ (thenI hy ?_))
          rw [hJl]
          cases hl : jnP l with
          | true => rw [hl] at go; exact condTI rfl (go rfl)
          | false => rw [hl] at no; exact condFI rfl (no rfl)
        · rw [decide_eq_false h10] at no
          exact condFI (beqF h10) (no rfl)
      · rw [decide_eq_false hh] at no
        exact condFI (beqF hh) (no rfl)
theorem max_go (X : List Pc) (hX : X.length ≤ 2147483646) (k : Int) (j6 : Int → Int → Int → Int → Option (List Gapi_Cell)) (q10 q11 : Gref05_Piece) (rest : List Pc) : ∀ (seg pre : List Pc) (m : Nat) (c : Int), X = pre ++ (seg ++ rest) → k = (pre.length : Int) + (seg.length : Int) → seg.length < m →
    loopG (fun _ _ => none) (ref05_Cells_s5 (X.map p5) k j6 q10 q11) m (pre.length : Int) c = j6 k q10.Span_From q11.Span_To (maxC c seg)
  | [], pre, m, c, h, hk, hm => by
    obtain ⟨m, rfl⟩ : ∃ q, m = q + 1 := ⟨m - 1, by simp at hm; omega⟩
    rw [loopI]
    generalize loopG (fun _ _ => none) (ref05_Cells_s5 (X.map p5) k j6 q10 q11) m = ag
    unfold ref05_Cells_s5
    have : k = (pre.length : Int) := by rw [hk]; simp
    refine condFI (decide_eq_false (by omega)) ?_
    rw [← this]; rfl
  | t :: seg, pre, m, c, h, hk, hm => by
    obtain ⟨m, rfl⟩ : ∃ q, m = q + 1 := ⟨m - 1, by simp at hm; omega⟩
    rw [List.length_cons] at hk hm
    have ih := max_go X hX k j6 q10 q11 rest seg (pre ++ [t]) m (max c (colP (pcG t))) (by rw [h]; simp) (by rw [hk, List.length_append]; simp; omega) (by omega)
    rw [loopI]
    generalize loopG (fun _ _ => none) (ref05_Cells_s5 (X.map p5) k j6 q10 q11) m = ag at ih ⊢
    have hx : (X.map p5)[pre.length]? = some (p5 t) := by rw [List.getElem?_map, h]; simp
    have hxl : X.length = pre.length + (seg.length + 1 + rest.length) := by rw [h]; simp; omega
    rw [show (((pre ++ [t]).length : Nat) : Int) = (pre.length : Int) + 1 by simp] at ih
    unfold ref05_Cells_s5
    exact condTI (decide_eq_true (by omega)) (thenI (lp_get hx) (grdI ⟨by omega, by omega⟩ ih))
theorem seg_last : ∀ (seg pre : List Pc) (x : Pc), ∃ z, (pre ++ x :: seg)[pre.length + seg.length]? = some z ∧ (z.i : Int) + (z.w : Int) = endT ((x.i : Int) + (x.w : Int)) seg
  | [], pre, x => ⟨x, by simp, rfl⟩
  | t :: seg, pre, x => by
    obtain ⟨z, h1, h2⟩ := seg_last seg (pre ++ [x]) t
    refine ⟨z, ?_, h2⟩
    rw [← h1]
    congr 1
    · simp
    · simp; omega
theorem max0 (x : Pc) (seg : List Pc) : maxC 0 (x :: seg) = maxC (colP (pcG x)) seg := by
  have := col_rng (pcG x)
  show maxC (max 0 (colP (pcG x))) seg = _
  rw [show max 0 (colP (pcG x)) = colP (pcG x) by omega]
theorem rc_go (s : ByteArray) (hs : s.size ≤ 2147483646) (j : List Gapi_Cell → Option (List Gapi_Cell)) : ∀ (d : Nat) (ts pre : List Pc) (m : Nat) (out : List Gapi_Cell), ts.length ≤ d → pcs s.data.toList = pre ++ ts → d < m → out.length ≤ pre.length →
    loopG (fun _ _ => none) (ref05_Cells_s1 s j ((pcs s.data.toList).map p5)) m out (pre.length : Int) = j (out ++ cellsP (ts.map pcG)) := by
  obtain ⟨hX, hXl⟩ := pcs_small s hs
  have end_ : ∀ (pre : List Pc) (m : Nat) (out : List Gapi_Cell), pcs s.data.toList = pre → 0 < m → loopG (fun _ _ => none) (ref05_Cells_s1 s j ((pcs s.data.toList).map p5)) m out (pre.length : Int) = j (out ++ cellsP (([] : List Pc).map pcG)) := by
    intro pre m out h hm
    obtain ⟨m, rfl⟩ : ∃ q, m = q + 1 := ⟨m - 1, by omega⟩
    rw [loopI]
    generalize loopG (fun _ _ => none) (ref05_Cells_s1 s j ((pcs s.data.toList).map p5)) m = ag
    unfold ref05_Cells_s1
    refine condFI (decide_eq_false (by rw [List.length_map, h]; omega)) ?_
    show j out = j (out ++ [])
    rw [List.append_nil]
  intro d
  induction d with
  | zero =>
    intro ts pre m out hd h hm ho
    have : ts = [] := List.length_eq_zero_iff.1 (by omega)
    subst this
    exact end_ pre m out (by simpa using h) (by omega)
  | succ d ih =>
    intro ts pre m out hd h hm ho
    cases ts with
    | nil => exact end_ pre m out (by simpa using h) (by omega)
    | cons x ts =>
      obtain ⟨m, rfl⟩ : ∃ q, m = q + 1 := ⟨m - 1, by omega⟩
      rw [List.length_cons] at hd
      have hn := nTk_le x ts
      have hone := cells_one x ts
      have ih' := ih (ts.drop (nTk x ts)) (pre ++ x :: ts.take (nTk x ts)) m (out ++ [⟨x.i, endT ((x.i : Int) + (x.w : Int)) (ts.take (nTk x ts)), maxC (colP (pcG x)) (ts.take (nTk x ts))⟩]) (by rw [List.length_drop]; omega) (by rw [h]; simp) (by omega) (by simp; omega)
      rw [show (((pre ++ x :: ts.take (nTk x ts)).length : Nat) : Int) = (pre.length : Int) + 1 + (nTk x ts : Int) by rw [List.length_append, List.length_cons, List.length_take, Nat.min_eq_left hn]; omega, List.append_assoc] at ih'
      rw [hone]
      rw [loopI]
      generalize loopG (fun _ _ => none) (ref05_Cells_s1 s j ((pcs s.data.toList).map p5)) m = ag at ih' ⊢
      have hxl : (pcs s.data.toList).length = pre.length + (ts.length + 1) := by rw [h]; simp
      have hx : ((pcs s.data.toList).map p5)[pre.length]? = some (p5 x) := by rw [List.getElem?_map, h]; simp
      have hg := lp_get hx
      -- what comes behind the end that was found
      have hrest : ∀ k : Int, k = (pre.length : Int) + 1 + (nTk x ts : Int) → (joinK (fun (j6 : Int → Int → Int → Int → Option (List Gapi_Cell)) => andThen (getO ((pcs s.data.toList).map p5) (pre.length : Int)) fun (q10 : Gref05_Piece) => grd (I64 (k - 1)) <| andThen (getO ((pcs s.data.toList).map p5) (k - 1)) fun (q11 : Gref05_Piece) =>
          loopG (fun _ _ => none) (ref05_Cells_s5 ((pcs s.data.toList).map p5) k j6 q10 q11) fuel (pre.length : Int) 0) (fun (i4 : Int) (c3 : Int) (c4 : Int) (c5 : Int) => grd (out.length + 1 ≤ 2147483648) <| ag (out ++ [(⟨c3, c4, c5⟩ : Gapi_Cell)]) i4)) =
          j (out ++ ⟨x.i, endT ((x.i : Int) + (x.w : Int)) (ts.take (nTk x ts)), maxC (colP (pcG x)) (ts.take (nTk x ts))⟩ :: cellsP ((ts.drop (nTk x ts)).map pcG)) := by
        rintro k rfl
        obtain ⟨z, hz1, hz2⟩ := seg_last (ts.take (nTk x ts)) pre x
        have hz : ((pcs s.data.toList).map p5)[pre.length + nTk x ts]? = some (p5 z) := by
          rw [List.getElem?_map]
          rw [List.length_take, Nat.min_eq_left hn] at hz1
          have : (pcs s.data.toList)[pre.length + nTk x ts]? = some z := by
            rw [h, ← hz1, show pre ++ x :: ts = (pre ++ x :: ts.take (nTk x ts)) ++ ts.drop (nTk x ts) by simp]
            exact List.getElem?_append_left (by rw [List.length_append, List.length_cons, List.length_take, Nat.min_eq_left hn]; omega)
          rw [this]; rfl
        refine joinI (thenI hg (grdI ⟨by omega, by omega⟩ (thenI (getO_of (n := pre.length + nTk x ts) (by push_cast; omega) hz) ?_)))
        refine (max_go (pcs s.data.toList) (by omega) _ _ (p5 x) (p5 z) (ts.drop (nTk x ts)) (x :: ts.take (nTk x ts)) pre fuel 0 (by rw [h]; simp) (by rw [List.length_cons, List.length_take, Nat.min_eq_left hn]; push_cast; omega) (by rw [List.length_cons, List.length_take, Nat.min_eq_left hn]; exact big_fuel (by omega))).trans ?_
        rw [max0]
        refine grdI (by omega) ?_
        have e1 : (p5 x).Span_From = (x.i : Int) := rfl
        have e2 : (p5 z).Span_To = endT ((x.i : Int) + (x.w : Int)) (ts.take (nTk x ts)) := hz2
        rw [e1, e2]
        exact ih'
      obtain ⟨b, hb1, hb2⟩ := piece_byte s (p := x) (by rw [h]; simp) 13 (by decide)
      have hK : (p5 x).Kind = kdP (pcG x) := rfl
      have hbx : getB s (p5 x).Span_From = some b := hb1
      -- no line end
      have hno : (x.r : Int) ≠ 13 → ∀ J : Int → Option (List Gapi_Cell), (∀ k : Int, k = (pre.length : Int) + 1 + (nTk x ts : Int) → J k = j (out ++ ⟨x.i, endT ((x.i : Int) + (x.w : Int)) (ts.take (nTk x ts)), maxC (colP (pcG x)) (ts.take (nTk x ts))⟩ :: cellsP ((ts.drop (nTk x ts)).map pcG))) →
          bcond (((p5 x).Kind : Int) == 11) (J ((pre.length : Int) + 1)) (bcond (((p5 x).Kind : Int) == 4) (J ((pre.length : Int) + 1)) (bcond (((p5 x).Kind : Int) == 9) (J ((pre.length : Int) + 1)) (loopG (fun _ => none) (ref05_Cells_s4 ((pcs s.data.toList).map p5) J (p5 x)) fuel ((pre.length : Int) + 1)))) =
          j (out ++ ⟨x.i, endT ((x.i : Int) + (x.w : Int)) (ts.take (nTk x ts)), maxC (colP (pcG x)) (ts.take (nTk x ts))⟩ :: cellsP ((ts.drop (nTk x ts)).map pcG)) := by
        intro h13 J hJ
        have hstop : stopK (kdP (pcG x)) → J ((pre.length : Int) + 1) = j (out ++ ⟨x.i, endT ((x.i : Int) + (x.w : Int)) (ts.take (nTk x ts)), maxC (colP (pcG x)) (ts.take (nTk x ts))⟩ :: cellsP ((ts.drop (nTk x ts)).map pcG)) := fun hs => hJ _ (by
          have : nTk x ts = 0 := by unfold nTk; rw [if_neg h13, if_pos hs]
          rw [this]; simp)
        rw [hK]
        by_cases k11 : kdP (pcG x) = 11
        · exact condTI (beqI k11) (hstop (.inl k11))
        refine condFI (beqF k11) ?_
        by_cases k4 : kdP (pcG x) = 4
        · exact condTI (beqI k4) (hstop (.inr (.inl k4)))
        refine condFI (beqF k4) ?_
        by_cases k9 : kdP (pcG x) = 9
        · exact condTI (beqI k9) (hstop (.inr (.inr k9)))
        refine condFI (beqF k9) ?_
        have hns : ¬ stopK (kdP (pcG x)) := by unfold stopK; omega
        rw [join_go (pcs s.data.toList) (by omega) J (p5 x) ts pre x fuel h (big_fuel (by omega))]
        refine hJ _ ?_
        unfold nTk
        rw [if_neg h13, if_neg hns]; rfl
      have hI : I64 ((pre.length : Int) + 1) := ⟨by omega, by omega⟩
      unfold ref05_Cells_s1
      refine condTI (lp_lt hx) (joinI (grdI hI (thenI hg (thenI hg (thenI hbx ?_)))))
      by_cases h13 : (x.r : Int) = 13
      · refine condTI (beqI (hb2.2 (by omega))) ?_
        have hk4 : (p5 x).Kind = 4 := kd13 (.inl h13)
        cases ts with
        | nil =>
          have hn0 : nTk x [] = 0 := by unfold nTk; rw [if_pos h13]
          refine condFI (decide_eq_false (by rw [List.length_map, hxl]; simp)) (condFI (by rw [hk4]; rfl) (condTI (by rw [hk4]; rfl) ?_))
          exact hrest _ (by rw [hn0]; simp)
        | cons y ts =>
          have hy : ((pcs s.data.toList).map p5)[pre.length + 1]? = some (p5 y) := by rw [List.getElem?_map, h]; simp
          have hgy := lp_get hy
          have hly := lp_lt hy
          rw [show ((pre.length + 1 : Nat) : Int) = (pre.length : Int) + 1 by omega] at hgy hly
          obtain ⟨b', hc1, hc2⟩ := piece_byte s (p := y) (by rw [h]; simp) 10 (by decide)
          refine condTI hly (thenI hgy (thenI hc1 ?_))
          by_cases h10 : (y.r : Int) = 10
          · have hn1 : nTk x (y :: ts) = 1 := by unfold nTk; rw [if_pos h13]; simp only; rw [if_pos h10]
            rw [List.length_cons] at hxl
            refine condTI (beqI (hc2.2 (by omega))) (grdI ⟨by omega, by omega⟩ ?_)
            exact hrest _ (by rw [hn1]; simp)
          · have hn0 : nTk x (y :: ts) = 0 := by unfold nTk; rw [if_pos h13]; simp only; rw [if_neg h10]
            refine condFI (beqF (fun e => h10 (by have := hc2.1 e; omega))) (condFI (by rw [hk4]; rfl) (condTI (by rw [hk4]; rfl) ?_))
            exact hrest _ (by rw [hn0]; simp)
      · refine condFI (beqF (fun e => h13 (by have := hb2.1 e; omega))) ?_
        exact hno h13 _ hrest
theorem rcells_v (s : ByteArray) (hs : s.size ≤ 2147483646) : ref05_Cells_v s = some (cellsS s) := by
  obtain ⟨h1, h2⟩ := pcs_small s hs
  unfold ref05_Cells_v
  refine joinI (thenI (r5p_v s hs) ?_)
  exact rc_go s hs (fun out1 => some out1) _ (pcs s.data.toList) [] fuel [] (Nat.le_refl _) rfl (big_fuel (by omega)) (Nat.le_refl _)
end Go.Proofs.Ytnhdnpdbmgeheaa
