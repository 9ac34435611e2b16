/-
  Plain lemmas on the pieces of a text: where they stand, how they part. No program is named here. Nothing is assumed.
-/
import Derived.Test.YtekjfmjeemjcjaaUtf
namespace Go.Proofs.Ytekjfmjeemjcjaa
open Go.RowKit Go.Lib

def Pc.sh (k : Nat) (p : Pc) : Pc := ⟨p.i + k, p.w, p.r⟩
theorem pcsFrom_sh : ∀ (n i k : Nat) (l : List UInt8), l.length ≤ n → pcsFrom (i + k) l = (pcsFrom i l).map (Pc.sh k)
  | 0, i, k, l, h => by
    have : l = [] := List.eq_nil_of_length_eq_zero (by omega)
    subst this
    simp [pcsFrom_nil]
  | n + 1, i, k, l, h => by
    by_cases hl : l = []
    · subst hl; simp [pcsFrom_nil]
    · have := dec_pos l
      have hlen := List.length_pos_iff.2 hl
      rw [pcsFrom_cons _ l hl, pcsFrom_cons _ l hl, List.map_cons, ← pcsFrom_sh n _ k _ (by simp; omega)]
      congr 2
      omega
theorem pcsFrom_pcs (i : Nat) (l : List UInt8) : pcsFrom i l = (pcs l).map (Pc.sh i) := by
  have := pcsFrom_sh l.length 0 i l (Nat.le_refl _)
  rwa [Nat.zero_add] at this

/-- A piece in the midst: what stands there. -/
theorem pcsFrom_split : ∀ (P : List Pc) (i : Nat) (l : List UInt8) (x : Pc) (B : List Pc), pcsFrom i l = P ++ x :: B →
    ∃ n, x.i = i + n ∧ n + x.w ≤ l.length ∧ DecOk (l.drop n) x.r x.w ∧ pcsFrom (i + n) (l.drop n) = x :: B ∧ B = pcsFrom (x.i + x.w) (l.drop (n + x.w))
  | [], i, l, x, B, h => by
    by_cases hl : l = []
    · subst hl; simp [pcsFrom_nil] at h
    · have hok := decOk l hl
      have h' := h
      rw [pcsFrom_cons i l hl] at h
      simp only [List.nil_append, List.cons.injEq] at h
      obtain ⟨rfl, hB⟩ := h
      exact ⟨0, by simp, by simpa using hok.le, by simpa using hok, by simpa using h', by simpa using hB.symm⟩
  | p :: P, i, l, x, B, h => by
    by_cases hl : l = []
    · subst hl; simp [pcsFrom_nil] at h
    · have hle := dec_le l hl
      rw [pcsFrom_cons i l hl] at h
      simp only [List.cons_append, List.cons.injEq] at h
      obtain ⟨n, h1, h2, h3, h4, h5⟩ := pcsFrom_split P _ _ x B h.2
      refine ⟨(decodeL l).2 + n, by omega, by simp at h2; omega, by rw [← List.drop_drop]; exact h3, by rw [← List.drop_drop, ← Nat.add_assoc]; exact h4, ?_⟩
      rw [h5, List.drop_drop, Nat.add_assoc]
theorem pcs_split (l : List UInt8) (P : List Pc) (x : Pc) (B : List Pc) (h : pcs l = P ++ x :: B) :
    x.i + x.w ≤ l.length ∧ DecOk (l.drop x.i) x.r x.w ∧ pcsFrom x.i (l.drop x.i) = x :: B ∧ B = pcsFrom (x.i + x.w) (l.drop (x.i + x.w)) := by
  obtain ⟨n, h1, h2, h3, h4, h5⟩ := pcsFrom_split P 0 l x B h
  have : x.i = n := by omega
  subst this
  exact ⟨h2, h3, by simpa using h4, h5⟩
theorem pcs_pos (l : List UInt8) (x : Pc) (h : x ∈ pcs l) : 1 ≤ x.w ∧ x.i + x.w ≤ l.length ∧ DecOk (l.drop x.i) x.r x.w := by
  obtain ⟨P, B, hs⟩ := List.append_of_mem h
  obtain ⟨h1, h2, _⟩ := pcs_split l P x B hs
  exact ⟨h2.pos, h1, h2⟩

/-- What a predicate picks of a text's pieces: where the text goes on behind what was picked. -/
def nextOf : List Pc → Nat
  | [] => 0
  | p :: ps => if ps = [] then p.i + p.w else nextOf ps
theorem nextOf_snoc : ∀ (ps : List Pc) (p : Pc), nextOf (ps ++ [p]) = p.i + p.w
  | [], p => by simp [nextOf]
  | q :: ps, p => by simp [nextOf, nextOf_snoc ps p]

theorem pick_rest (f : Pc → Bool) (l : List UInt8) (A B : List Pc) (h : pcs l = A ++ B) :
    ∃ N, pcsFrom (nextOf (A.filter f)) (l.drop (nextOf (A.filter f))) = N ++ B ∧ (∀ q ∈ N, f q = false) := by
  -- by the last picked piece of A
  rcases List.eq_nil_or_concat (A.filter f) with hn | ⟨pre, y, hy⟩
  · rw [hn]
    refine ⟨A, by simpa [nextOf, pcs] using h, fun q hq => ?_⟩
    have := List.filter_eq_nil_iff.1 hn q hq
    simpa using this
  · rw [List.concat_eq_append] at hy
    rw [hy, nextOf_snoc]
    obtain ⟨A1, A2, rfl, h1, h2⟩ := List.filter_eq_append_iff.1 hy
    obtain ⟨N1, N2, rfl, hN1, hfy, hN2⟩ := List.filter_eq_cons_iff.1 h2
    have hs := pcs_split l (A1 ++ N1) y (N2 ++ B) (by rw [h]; simp)
    refine ⟨N2, hs.2.2.2.symm, fun q hq => ?_⟩
    have := List.filter_eq_nil_iff.1 hN2 q hq
    simpa using this

/-- One picked piece: as the text from the last one's end on tells it. -/
theorem pick_next (f : Pc → Bool) (hf : ∀ p k, f (Pc.sh k p) = f p) (l : List UInt8) (pre : List Pc) (x : Pc) (post : List Pc) (h : (pcs l).filter f = pre ++ x :: post) :
    ∃ N x' B, pcs (l.drop (nextOf pre)) = N ++ x' :: B ∧ (∀ q ∈ N, f q = false ∧ q.i < x'.i) ∧ x'.i + nextOf pre = x.i ∧ x'.r = x.r ∧ x'.w = x.w ∧ f x = true ∧ x ∈ pcs l := by
  obtain ⟨A, B, hAB, h1, h2⟩ := List.filter_eq_append_iff.1 h
  obtain ⟨N1, N2, rfl, hN1, hfx, hN2⟩ := List.filter_eq_cons_iff.1 h2
  have hA : (A ++ N1).filter f = pre := by
    rw [List.filter_append, h1]
    rw [List.filter_eq_nil_iff.2 hN1, List.append_nil]
  obtain ⟨N, hN, hNf⟩ := pick_rest f l (A ++ N1) (x :: N2) (by rw [hAB]; simp)
  rw [hA, pcsFrom_pcs] at hN
  obtain ⟨M1, M2, hM, e1, e2⟩ := List.map_eq_append_iff.1 hN
  obtain ⟨x', M3, rfl, e3, e4⟩ := List.map_eq_cons_iff.1 e2
  have hx'' := pcs_split _ M1 x' M3 hM
  have hi : x'.i + nextOf pre = x.i := by rw [← e3]; rfl
  refine ⟨M1, x', M3, hM, fun q hq => ⟨?_, ?_⟩, hi, by rw [← e3]; rfl, by rw [← e3]; rfl, hfx, by rw [hAB]; simp⟩
  · rw [← hf q (nextOf pre)]
    exact hNf _ (by rw [← e1]; exact List.mem_map_of_mem hq)
  · obtain ⟨Q1, Q2, rfl⟩ := List.append_of_mem hq
    have hq' := pcs_split (l.drop (nextOf pre)) Q1 q (Q2 ++ x' :: M3) (by rw [hM]; simp)
    obtain ⟨n, hn, _⟩ := pcsFrom_split Q2 _ _ x' M3 hq'.2.2.2.symm
    have := hq'.2.1.pos
    omega
theorem pick_none (f : Pc → Bool) (hf : ∀ p k, f (Pc.sh k p) = f p) (l : List UInt8) : ∀ q ∈ pcs (l.drop (nextOf ((pcs l).filter f))), f q = false := by
  obtain ⟨N, hN, hNf⟩ := pick_rest f l (pcs l) [] (by simp)
  rw [List.append_nil, pcsFrom_pcs] at hN
  intro q hq
  rw [← hf q (nextOf ((pcs l).filter f))]
  exact hNf _ (by rw [← hN]; exact List.mem_map_of_mem hq)

end Go.Proofs.Ytekjfmjeemjcjaa
