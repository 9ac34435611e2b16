/-
  The rows of pieces of one kind, plain. Nothing is assumed.
-/
import Derived.Test.YtekjfmjeemjcjaaRefPcs
namespace Go.Proofs.Ytekjfmjeemjcjaa
open Go.RowKit Go.Lib

/-- A longest row of pieces of one kind. -/
structure Rn where
  f : Nat
  t : Nat
  k : Int
  deriving DecidableEq
def pk (p : Pc) : Int := kindOf p.broken p.r
def rnew (p : Pc) : Rn := ⟨p.i, p.i + p.w, pk p⟩
/-- One piece more: 'done' are the rows that are closed, 'now' is the open one. -/
def rstep : List Rn × Option Rn → Pc → List Rn × Option Rn
  | (E, none), p => (E, some (rnew p))
  | (E, some n), p => if n.k = pk p then (E, some ⟨n.f, p.i + p.w, n.k⟩) else (E ++ [n], some (rnew p))
def rfold (L : List Pc) : List Rn × Option Rn := L.foldl rstep ([], none)
def rout : List Rn × Option Rn → List Rn
  | (E, none) => E
  | (E, some n) => E ++ [n]
def runs (L : List Pc) : List Rn := rout (rfold L)

theorem rfold_snoc (L : List Pc) (p : Pc) : rfold (L ++ [p]) = rstep (rfold L) p := by simp [rfold]
theorem rfold_some (L : List Pc) (p : Pc) : ∃ E n, rfold (L ++ [p]) = (E, some n) ∧ n.k = pk p ∧ n.t = p.i + p.w := by
  rw [rfold_snoc]
  rcases h : rfold L with ⟨E, _ | n⟩
  · exact ⟨E, rnew p, rfl, rfl, rfl⟩
  · unfold rstep
    by_cases hk : n.k = pk p
    · exact ⟨E, ⟨n.f, p.i + p.w, n.k⟩, by simp only [hk, if_true], hk, rfl⟩
    · exact ⟨E ++ [n], rnew p, by simp only [hk, if_false], rfl, rfl⟩
/-- What is closed stays. -/
theorem rstep_pre : ∀ (L : List Pc) (E : List Rn) (o : Option Rn), ∃ E', (L.foldl rstep (E, o)).1 = E ++ E'
  | [], E, o => ⟨[], by simp⟩
  | p :: L, E, o => by
    rcases o with _ | n
    · exact rstep_pre L E (some (rnew p))
    · by_cases hk : n.k = pk p
      · have : (p :: L).foldl rstep (E, some n) = L.foldl rstep (E, some ⟨n.f, p.i + p.w, n.k⟩) := by simp [rstep, hk]
        rw [this]; exact rstep_pre L E _
      · have : (p :: L).foldl rstep (E, some n) = L.foldl rstep (E ++ [n], some (rnew p)) := by simp [rstep, hk]
        rw [this]
        obtain ⟨E', h⟩ := rstep_pre L (E ++ [n]) (some (rnew p))
        exact ⟨n :: E', by rw [h]; simp⟩
/-- A row that closes as x is met is one of all rows, behind those that are closed. -/
theorem runs_at (pre post : List Pc) (x : Pc) (E : List Rn) (n : Rn) (h : rfold pre = (E, some n)) (hk : n.k ≠ pk x) : ∃ q, runs (pre ++ x :: post) = E ++ n :: q := by
  have h1 : rfold (pre ++ x :: post) = (post.foldl rstep (E ++ [n], some (rnew x))) := by
    unfold rfold at *
    rw [List.foldl_append, h, List.foldl_cons]; simp [rstep, hk]
  obtain ⟨E', h2⟩ := rstep_pre post (E ++ [n]) (some (rnew x))
  unfold runs; rw [h1]
  rcases hf : post.foldl rstep (E ++ [n], some (rnew x)) with ⟨F, _ | m⟩
  · rw [hf] at h2; exact ⟨E', by show F = _; simp only at h2; rw [h2]; simp⟩
  · rw [hf] at h2; exact ⟨E' ++ [m], by show F ++ [m] = _; simp only at h2; rw [h2]; simp⟩
theorem runs_last (L : List Pc) (E : List Rn) (n : Rn) (h : rfold L = (E, some n)) : runs L = E ++ [n] := by unfold runs; rw [h]; rfl
theorem runs_nil (L : List Pc) (E : List Rn) (h : rfold L = (E, none)) : L = [] ∧ E = [] := by
  rcases List.eq_nil_or_concat L with rfl | ⟨D, p, rfl⟩
  · simp [rfold] at h; exact ⟨rfl, h⟩
  · rw [List.concat_eq_append] at h
    obtain ⟨E', n, h', _⟩ := rfold_some D p
    rw [h'] at h; simp at h
/-- An open row is not empty, and ends where the pieces end. -/
theorem rfold_wf (l : List UInt8) : ∀ (k : Nat) (L B : List Pc), L.length ≤ k → pcs l = L ++ B → ∀ E n, rfold L = (E, some n) → n.f < n.t ∧ n.t ≤ l.length
  | 0, L, B, hk, h, E, n, hr => by
    have : L = [] := List.eq_nil_of_length_eq_zero (by omega)
    subst this; simp [rfold] at hr
  | k + 1, L, B, hk, h, E, n, hr => by
    rcases List.eq_nil_or_concat L with rfl | ⟨D, p, rfl⟩
    · simp [rfold] at hr
    · rw [List.concat_eq_append] at h hr hk
      obtain ⟨h1, h2, _⟩ := pcs_pos l p (by rw [h]; simp)
      rw [rfold_snoc] at hr
      rcases hd : rfold D with ⟨F, _ | m⟩
      · rw [hd] at hr; simp [rstep] at hr
        rw [← hr.2]; simp [rnew]; omega
      · rw [hd] at hr
        unfold rstep at hr
        by_cases hk' : m.k = pk p
        · simp only [hk', if_true] at hr
          simp at hr
          have h3 := rfold_wf l k D (p :: B) (by simp at hk; omega) (by rw [h]; simp) F m hd
          have h4 := m_le l D p B m F (by rw [h]; simp) hd
          rw [← hr.2]; simp; omega
        · simp only [hk', if_false] at hr
          simp at hr
          rw [← hr.2]; simp [rnew]; omega
where
  m_le (l : List UInt8) (D : List Pc) (p : Pc) (B : List Pc) (m : Rn) (F : List Rn) (h : pcs l = D ++ p :: B) (hd : rfold D = (F, some m)) : m.t ≤ p.i := by
    rcases List.eq_nil_or_concat D with rfl | ⟨D', q, rfl⟩
    · simp [rfold] at hd
    · rw [List.concat_eq_append] at h hd
      obtain ⟨E', n', h', _, h5⟩ := rfold_some D' q
      rw [h'] at hd; simp at hd
      rw [← hd.2, h5]
      obtain ⟨_, hok, _, h4⟩ := pcs_split l D' q (p :: B) (by rw [h]; simp)
      by_cases hd' : l.drop (q.i + q.w) = []
      · rw [hd', pcsFrom_nil] at h4; simp at h4
      · rw [pcsFrom_cons _ _ hd'] at h4
        simp only [List.cons.injEq] at h4
        rw [h4.1]; exact Nat.le_refl _

end Go.Proofs.Ytekjfmjeemjcjaa
