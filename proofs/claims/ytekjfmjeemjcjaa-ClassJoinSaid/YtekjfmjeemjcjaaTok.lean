/-
  Plain lemmas: a text as a list of pieces with their bytes. No program is named here. Nothing is assumed.
-/
import Derived.Test.YtekjfmjeemjcjaaUtf
namespace Go.Proofs.Ytekjfmjeemjcjaa
open Go.RowKit Go.Lib

/-- A piece: its rune, its bytes. -/
structure Tok where
  r : Nat
  bs : List UInt8
  deriving DecidableEq
def Tok.broken (t : Tok) : Bool := t.r == 65533 && t.bs.length == 1
/-- A rune's own form. -/
def Tok.valid (t : Tok) : Prop := (t.r < 55296 ∨ (57343 < t.r ∧ t.r ≤ 1114111)) ∧ t.bs = encodeRune t.r
def flat (ts : List Tok) : List UInt8 := ts.flatMap Tok.bs
def toksF : Nat → List UInt8 → List Tok
  | 0, _ => []
  | f + 1, l => if l = [] then [] else ⟨(decodeL l).1, l.take (decodeL l).2⟩ :: toksF f (l.drop (decodeL l).2)
def toks (l : List UInt8) : List Tok := toksF l.length l

theorem flat_nil : flat [] = [] := rfl
theorem flat_cons (t : Tok) (ts : List Tok) : flat (t :: ts) = t.bs ++ flat ts := by simp [flat]
theorem flat_append (a b : List Tok) : flat (a ++ b) = flat a ++ flat b := by simp [flat]
theorem toksF_enough : ∀ (f g : Nat) (l : List UInt8), l.length ≤ f → l.length ≤ g → toksF f l = toksF g l := by
  intro f
  induction f with
  | zero =>
    intro g l h1 h2
    have : l = [] := List.eq_nil_of_length_eq_zero (by omega)
    subst this
    cases g <;> simp [toksF]
  | succ f ih =>
    intro g l h1 h2
    cases g with
    | zero =>
      have : l = [] := List.eq_nil_of_length_eq_zero (by omega)
      subst this
      simp [toksF]
    | succ g =>
      by_cases hl : l = []
      · simp [toksF, hl]
      · simp only [toksF, hl, if_false]
        have := dec_pos l
        have hlen : 0 < l.length := List.length_pos_iff.2 hl
        rw [ih g _ (by simp; omega) (by simp; omega)]
theorem toks_nil : toks [] = [] := by simp [toks, toksF]
theorem toks_cons (l : List UInt8) (h : l ≠ []) : toks l = ⟨(decodeL l).1, l.take (decodeL l).2⟩ :: toks (l.drop (decodeL l).2) := by
  have hlen : 0 < l.length := List.length_pos_iff.2 h
  unfold toks
  obtain ⟨n, hn⟩ : ∃ n, l.length = n + 1 := ⟨l.length - 1, by omega⟩
  rw [hn]
  simp only [toksF, h, if_false]
  have := dec_pos l
  rw [toksF_enough n (l.drop (decodeL l).2).length _ (by simp; omega) (Nat.le_refl _)]
/-- Induction over a text, piece by piece. -/
theorem dec_induction {P : List UInt8 → Prop} (h0 : P []) (h1 : ∀ l, l ≠ [] → P (l.drop (decodeL l).2) → P l) : ∀ l, P l := by
  have key : ∀ (n : Nat) (l : List UInt8), l.length ≤ n → P l := by
    intro n
    induction n with
    | zero => intro l hl; rw [List.eq_nil_of_length_eq_zero (by omega : l.length = 0)]; exact h0
    | succ n ih =>
      intro l hl
      by_cases hn : l = []
      · rw [hn]; exact h0
      · have := dec_pos l
        exact h1 l hn (ih _ (by simp; omega))
  exact fun l => key l.length l (Nat.le_refl _)
theorem flat_toks (l : List UInt8) : flat (toks l) = l := by
  induction l using dec_induction with
  | h0 => rw [toks_nil]; rfl
  | h1 l hn ih => rw [toks_cons l hn, flat_cons, ih]; exact List.take_append_drop _ _
/-- A piece of a text is a rune's form or a broken byte. -/
theorem tok_ok (l : List UInt8) (h : l ≠ []) : (⟨(decodeL l).1, l.take (decodeL l).2⟩ : Tok).valid ∨ (⟨(decodeL l).1, l.take (decodeL l).2⟩ : Tok).broken = true := by
  by_cases hb : (decodeL l).1 = 65533 ∧ (decodeL l).2 = 1
  · right
    have hlen : 0 < l.length := List.length_pos_iff.2 h
    simp [Tok.broken, hb.1, hb.2]; omega
  · left
    exact ⟨dec_valid l, (encode_decode l h hb).symm⟩
theorem toks_ok (l : List UInt8) : ∀ t ∈ toks l, t.valid ∨ t.broken = true := by
  induction l using dec_induction with
  | h0 => rw [toks_nil]; simp
  | h1 l hn ih =>
    rw [toks_cons l hn]
    intro t ht
    rcases List.mem_cons.1 ht with rfl | ht
    · exact tok_ok l hn
    · exact ih t ht
theorem valid_not_broken {t : Tok} (h : t.valid) : t.broken = false := by
  unfold Tok.broken
  by_cases hr : t.r = 65533
  · have := h.2; rw [hr, enc_lost] at this; simp [this]
  · simp [hr]
theorem bs_ne {t : Tok} (h : t.valid ∨ t.broken = true) : t.bs ≠ [] := by
  rcases h with h | h
  · rw [h.2]; intro e; have := (encodeRune_len (t.r : Int)).1; rw [e] at this; simp at this
  · intro e; unfold Tok.broken at h; rw [e] at h; simp at h

/-- A byte that may go on a form. -/
def contB (b : UInt8) : Bool := b.toNat / 64 == 2
/-- What can't go on a form that stands ahead of it. -/
def Stop : List UInt8 → Prop
  | [] => True
  | b :: _ => contB b = false
theorem decodeN_stop1 {n b0 b1 b2 b3 c1 c2 c3 m : Nat} (h1 : n ≤ 1 ∨ b1 / 64 ≠ 2) (h2 : m ≤ 1 ∨ c1 / 64 ≠ 2) : decodeN n b0 b1 b2 b3 = decodeN m b0 c1 c2 c3 := by
  unfold decodeN
  have e1 : ¬ (1 < n ∧ b1 / 64 = 2) := by omega
  have e2 : ¬ (1 < m ∧ c1 / 64 = 2) := by omega
  simp only [e1, e2, and_false, false_and, if_false]
theorem decodeN_stop2 {n b0 b1 b2 b3 c2 c3 m : Nat} (hn : 1 < n) (hm : 1 < m) (h1 : n ≤ 2 ∨ b2 / 64 ≠ 2) (h2 : m ≤ 2 ∨ c2 / 64 ≠ 2) : decodeN n b0 b1 b2 b3 = decodeN m b0 b1 c2 c3 := by
  unfold decodeN
  have e1 : ¬ (2 < n ∧ b2 / 64 = 2) := by omega
  have e2 : ¬ (2 < m ∧ c2 / 64 = 2) := by omega
  simp only [e1, e2, and_false, false_and, if_false, hn, hm, true_and]
theorem decodeN_stop3 {n b0 b1 b2 b3 c3 m : Nat} (hn : 2 < n) (hm : 2 < m) (h1 : n ≤ 3 ∨ b3 / 64 ≠ 2) (h2 : m ≤ 3 ∨ c3 / 64 ≠ 2) : decodeN n b0 b1 b2 b3 = decodeN m b0 b1 b2 c3 := by
  unfold decodeN
  have e1 : ¬ (3 < n ∧ b3 / 64 = 2) := by omega
  have e2 : ¬ (3 < m ∧ c3 / 64 = 2) := by omega
  have h1n : 1 < n := by omega
  have h1m : 1 < m := by omega
  simp only [e1, e2, and_false, if_false, hn, hm, h1n, h1m, true_and]
theorem decodeN_stop4 {n b0 b1 b2 b3 m : Nat} (hn : 3 < n) (hm : 3 < m) : decodeN n b0 b1 b2 b3 = decodeN m b0 b1 b2 b3 := by
  unfold decodeN
  have h1n : 1 < n := by omega
  have h1m : 1 < m := by omega
  have h2n : 2 < n := by omega
  have h2m : 2 < m := by omega
  simp only [hn, hm, h1n, h1m, h2n, h2m, true_and]
theorem stop_get {x : List UInt8} (h : Stop x) (n : Nat) : n + x.length ≤ n ∨ (x.getD 0 0).toNat / 64 ≠ 2 := by
  cases x with
  | nil => simp
  | cons b x => right; simpa [Stop, contB] using h
/-- What stands behind a stop does not matter. -/
theorem dec_stop (l x : List UInt8) (hl : l ≠ []) (hx : Stop x) : decodeL (l ++ x) = decodeL l := by
  rw [decodeL_N, decodeL_N]
  rcases l with _ | ⟨a, _ | ⟨b, _ | ⟨c, _ | ⟨d, l⟩⟩⟩⟩
  · exact absurd rfl hl
  · refine decodeN_stop1 ?_ (.inl (by simp))
    rcases stop_get hx 1 with h | h
    · left; simp only [List.length_append, List.length_cons, List.length_nil]; omega
    · right; simpa using h
  · refine decodeN_stop2 (by simp) (by simp) ?_ (.inl (by simp))
    rcases stop_get hx 2 with h | h
    · left; simp only [List.length_append, List.length_cons, List.length_nil]; omega
    · right; simpa using h
  · refine decodeN_stop3 (by simp) (by simp) ?_ (.inl (by simp))
    rcases stop_get hx 3 with h | h
    · left; simp only [List.length_append, List.length_cons, List.length_nil]; omega
    · right; simpa using h
  · exact decodeN_stop4 (by simp) (by simp)
theorem toks_append (l x : List UInt8) (hx : Stop x) : toks (l ++ x) = toks l ++ toks x := by
  induction l using dec_induction with
  | h0 => rw [toks_nil]; rfl
  | h1 l hn ih =>
    have hle := dec_le l hn
    have hne : l ++ x ≠ [] := by simp [hn]
    rw [toks_cons _ hne, toks_cons l hn, dec_stop l x hn hx, List.drop_append_of_le_length hle, ih, List.take_append_of_le_length hle]
    rfl

theorem encZ_shape (r : Nat) (hv : r < 55296 ∨ (57343 < r ∧ r ≤ 1114111)) :
    (r ≤ 127 ∧ encodeRuneZ r = [(r : Int)]) ∨ (128 ≤ r ∧ r ≤ 2047 ∧ encodeRuneZ r = [192 + (r : Int) / 64, 128 + (r : Int) % 64]) ∨
    (2048 ≤ r ∧ r ≤ 65535 ∧ encodeRuneZ r = [224 + (r : Int) / 4096, 128 + (r : Int) / 64 % 64, 128 + (r : Int) % 64]) ∨
    (65536 ≤ r ∧ r ≤ 1114111 ∧ encodeRuneZ r = [240 + (r : Int) / 262144, 128 + (r : Int) / 4096 % 64, 128 + (r : Int) / 64 % 64, 128 + (r : Int) % 64]) := by
  by_cases h1 : r ≤ 127
  · exact .inl ⟨h1, encodeRuneZ_one (by omega) (by omega)⟩
  · by_cases h2 : r ≤ 2047
    · exact .inr (.inl ⟨by omega, h2, encodeRuneZ_two (by omega) (by omega)⟩)
    · by_cases h3 : r ≤ 65535
      · exact .inr (.inr (.inl ⟨by omega, h3, encodeRuneZ_three (by omega)⟩))
      · exact .inr (.inr (.inr ⟨by omega, by omega, encodeRuneZ_four (by omega) (by omega)⟩))
theorem u8_toNat (z : Int) (_h0 : 0 ≤ z) (h1 : z < 256) : (z.toNat.toUInt8).toNat = z.toNat := by
  simp; omega
theorem dec_enc (r : Nat) (hv : r < 55296 ∨ (57343 < r ∧ r ≤ 1114111)) (x : List UInt8) : decodeL (encodeRune r ++ x) = (r, (encodeRune r).length) := by
  rw [decodeL_N]
  rcases encZ_shape r hv with ⟨h, e⟩ | ⟨h, h', e⟩ | ⟨h, h', e⟩ | ⟨h, h', e⟩
  · have hl : encodeRune r = [((r : Int).toNat.toUInt8)] := by simp only [encodeRune, e, List.map_cons, List.map_nil]
    rw [hl]
    simp only [List.cons_append, List.nil_append, List.getD_cons_zero, List.length_cons]
    rw [u8_toNat _ (by omega) (by omega)]
    unfold decodeN
    simp only [Int.toNat_natCast]
    rw [if_pos (by omega)]
    simp
  · have hl : encodeRune r = [((192 + (r : Int) / 64).toNat.toUInt8), ((128 + (r : Int) % 64).toNat.toUInt8)] := by simp only [encodeRune, e, List.map_cons, List.map_nil]
    rw [hl]
    simp only [List.cons_append, List.nil_append, List.getD_cons_zero, List.getD_cons_succ, List.length_cons]
    rw [u8_toNat _ (by omega) (by omega), u8_toNat _ (by omega) (by omega)]
    have a1 : (192 + (r : Int) / 64).toNat = 192 + r / 64 := by omega
    have a2 : (128 + (r : Int) % 64).toNat = 128 + r % 64 := by omega
    rw [a1, a2]
    unfold decodeN
    have c1 : ¬ 192 + r / 64 < 128 := by omega
    have c2 : (192 + r / 64) / 32 = 6 := by omega
    have c3 : (128 + r % 64) / 64 = 2 := by omega
    have c4 : (192 + r / 64) % 32 * 64 + (128 + r % 64) % 64 = r := by omega
    have c5 : 128 ≤ r := by omega
    rw [if_neg c1, if_pos ⟨c2, by omega, c3⟩, c4, if_pos c5]
    rfl
  · have hl : encodeRune r = [((224 + (r : Int) / 4096).toNat.toUInt8), ((128 + (r : Int) / 64 % 64).toNat.toUInt8), ((128 + (r : Int) % 64).toNat.toUInt8)] := by simp only [encodeRune, e, List.map_cons, List.map_nil]
    rw [hl]
    simp only [List.cons_append, List.nil_append, List.getD_cons_zero, List.getD_cons_succ, List.length_cons]
    rw [u8_toNat _ (by omega) (by omega), u8_toNat _ (by omega) (by omega), u8_toNat _ (by omega) (by omega)]
    have a1 : (224 + (r : Int) / 4096).toNat = 224 + r / 4096 := by omega
    have a2 : (128 + (r : Int) / 64 % 64).toNat = 128 + r / 64 % 64 := by omega
    have a3 : (128 + (r : Int) % 64).toNat = 128 + r % 64 := by omega
    rw [a1, a2, a3]
    unfold decodeN
    have c1 : ¬ 224 + r / 4096 < 128 := by omega
    have c2 : (224 + r / 4096) / 32 ≠ 6 := by omega
    have c2' : (224 + r / 4096) / 16 = 14 := by omega
    have c3 : (128 + r / 64 % 64) / 64 = 2 := by omega
    have c3' : (128 + r % 64) / 64 = 2 := by omega
    have c4 : (224 + r / 4096) % 16 * 4096 + (128 + r / 64 % 64) % 64 * 64 + (128 + r % 64) % 64 = r := by omega
    have c5 : 2048 ≤ r := by omega
    rw [if_neg c1, if_neg (fun h => c2 h.1), if_pos ⟨c2', ⟨by omega, c3⟩, ⟨by omega, c3'⟩⟩, c4, if_pos ⟨c5, by omega⟩]
    rfl
  · have hl : encodeRune r = [((240 + (r : Int) / 262144).toNat.toUInt8), ((128 + (r : Int) / 4096 % 64).toNat.toUInt8), ((128 + (r : Int) / 64 % 64).toNat.toUInt8), ((128 + (r : Int) % 64).toNat.toUInt8)] := by simp only [encodeRune, e, List.map_cons, List.map_nil]
    rw [hl]
    simp only [List.cons_append, List.nil_append, List.getD_cons_zero, List.getD_cons_succ, List.length_cons]
    rw [u8_toNat _ (by omega) (by omega), u8_toNat _ (by omega) (by omega), u8_toNat _ (by omega) (by omega), u8_toNat _ (by omega) (by omega)]
    have a1 : (240 + (r : Int) / 262144).toNat = 240 + r / 262144 := by omega
    have a2 : (128 + (r : Int) / 4096 % 64).toNat = 128 + r / 4096 % 64 := by omega
    have a2' : (128 + (r : Int) / 64 % 64).toNat = 128 + r / 64 % 64 := by omega
    have a3 : (128 + (r : Int) % 64).toNat = 128 + r % 64 := by omega
    rw [a1, a2, a2', a3]
    unfold decodeN
    have c1 : ¬ 240 + r / 262144 < 128 := by omega
    have c2 : (240 + r / 262144) / 32 ≠ 6 := by omega
    have c2' : (240 + r / 262144) / 16 ≠ 14 := by omega
    have c2'' : (240 + r / 262144) / 8 = 30 := by omega
    have c3 : (128 + r / 4096 % 64) / 64 = 2 := by omega
    have c3' : (128 + r / 64 % 64) / 64 = 2 := by omega
    have c3'' : (128 + r % 64) / 64 = 2 := by omega
    have c4 : (240 + r / 262144) % 8 * 262144 + (128 + r / 4096 % 64) % 64 * 4096 + (128 + r / 64 % 64) % 64 * 64 + (128 + r % 64) % 64 = r := by omega
    have c5 : 65536 ≤ r := by omega
    rw [if_neg c1, if_neg (fun h => c2 h.1), if_neg (fun h => c2' h.1), if_pos ⟨c2'', ⟨by omega, c3⟩, ⟨by omega, c3'⟩, ⟨by omega, c3''⟩⟩, c4, if_pos ⟨c5, by omega⟩]
    rfl
/-- A rune's form stops what stands ahead of it. -/
theorem stop_enc (r : Nat) (hv : r < 55296 ∨ (57343 < r ∧ r ≤ 1114111)) (x : List UInt8) : Stop (encodeRune r ++ x) := by
  rcases encZ_shape r hv with ⟨h, e⟩ | ⟨h, h', e⟩ | ⟨h, h', e⟩ | ⟨h, h', e⟩ <;>
  · simp only [encodeRune, e, List.map_cons, List.map_nil, List.cons_append, Stop, contB, beq_eq_false_iff_ne, ne_eq]
    rw [u8_toNat _ (by omega) (by omega)]
    omega
theorem toks_valid {t : Tok} (h : t.valid) (x : List UInt8) : toks (t.bs ++ x) = t :: toks x := by
  have hne : t.bs ++ x ≠ [] := by simp [bs_ne (.inl h)]
  rw [toks_cons _ hne]
  rw [h.2, dec_enc t.r h.1 x, ← h.2]
  simp
theorem toks_valids {vs : List Tok} (h : ∀ t ∈ vs, t.valid) (x : List UInt8) : toks (flat vs ++ x) = vs ++ toks x := by
  induction vs with
  | nil => rfl
  | cons t vs ih =>
    rw [flat_cons, List.append_assoc, toks_valid (h t (List.mem_cons_self ..)), ih (fun q hq => h q (List.mem_cons_of_mem _ hq))]
    rfl
theorem stop_valids {vs : List Tok} (hne : vs ≠ []) (h : ∀ t ∈ vs, t.valid) (x : List UInt8) : Stop (flat vs ++ x) := by
  cases vs with
  | nil => exact absurd rfl hne
  | cons t vs =>
    have := h t (List.mem_cons_self ..)
    rw [flat_cons, List.append_assoc, this.2]
    exact stop_enc t.r this.1 _

/-- The pieces are their own text's. -/
def Good (ts : List Tok) : Prop := toks (flat ts) = ts
theorem good_toks (l : List UInt8) : Good (toks l) := by unfold Good; rw [flat_toks]
theorem good_tail {t : Tok} {ts : List Tok} (h : Good (t :: ts)) : Good ts := by
  unfold Good at *
  by_cases hn : flat (t :: ts) = []
  · rw [hn, toks_nil] at h; cases h
  · rw [toks_cons _ hn] at h
    have h1 : (⟨(decodeL (flat (t :: ts))).1, (flat (t :: ts)).take (decodeL (flat (t :: ts))).2⟩ : Tok) = t := by injection h
    have h2 : toks ((flat (t :: ts)).drop (decodeL (flat (t :: ts))).2) = ts := by injection h
    have h3 : (flat (t :: ts)).take (decodeL (flat (t :: ts))).2 = t.bs := congrArg Tok.bs h1
    have h4 := List.take_append_drop (decodeL (flat (t :: ts))).2 (flat (t :: ts))
    rw [h3] at h4
    have h5 : (flat (t :: ts)).drop (decodeL (flat (t :: ts))).2 = flat ts := by
      rw [flat_cons] at h4 ⊢
      exact List.append_cancel_left h4
    rw [← h5]; exact h2
theorem good_drop {a ts : List Tok} (h : Good (a ++ ts)) : Good ts := by
  induction a with
  | nil => exact h
  | cons t a ih => exact ih (good_tail h)
theorem good_ok {ts : List Tok} (h : Good ts) : ∀ t ∈ ts, t.valid ∨ t.broken = true := by
  unfold Good at h; rw [← h]; exact toks_ok _

/-- Broken bytes stay, valid pieces become other valid ones. -/
inductive Sub : List Tok → List Tok → Prop
  | nil : Sub [] []
  | brk {b : Tok} {ts us : List Tok} : b.broken = true → Sub ts us → Sub (b :: ts) (b :: us)
  | val {gs vs ts us : List Tok} : gs ≠ [] → vs ≠ [] → (∀ t ∈ gs, t.valid) → (∀ t ∈ vs, t.valid) → Sub ts us → Sub (gs ++ ts) (vs ++ us)
theorem Sub.one {t : Tok} {vs ts us : List Tok} (ht : t.valid) (hn : vs ≠ []) (hv : ∀ t ∈ vs, t.valid) (h : Sub ts us) : Sub (t :: ts) (vs ++ us) :=
  Sub.val (gs := [t]) (by simp) hn (by simpa using ht) hv h
/-- How a list that is put in another's place begins. -/
theorem Sub.head {ts us : List Tok} (h : Sub ts us) : ∃ B ts' us', (∀ b ∈ B, b.broken = true) ∧ ts = B ++ ts' ∧ us = B ++ us' ∧ Stop (flat ts') ∧ Stop (flat us') := by
  induction h with
  | nil => exact ⟨[], [], [], by simp, rfl, rfl, trivial, trivial⟩
  | brk hb _ ih =>
    obtain ⟨B, ts', us', h1, rfl, rfl, h4, h5⟩ := ih
    exact ⟨_ :: B, ts', us', by simpa [hb] using h1, rfl, rfl, h4, h5⟩
  | @val gs vs ts us h1 h2 h3 h4 _ ih =>
    exact ⟨[], gs ++ ts, vs ++ us, by simp, rfl, rfl, by rw [flat_append]; exact stop_valids h1 h3 _, by rw [flat_append]; exact stop_valids h2 h4 _⟩
theorem Sub.good {ts us : List Tok} (h : Sub ts us) (hg : Good ts) : Good us := by
  induction h with
  | nil => exact hg
  | @brk b ts us hb hs ih =>
    have ih' := ih (good_tail hg)
    obtain ⟨B, ts', us', h1, rfl, rfl, h4, h5⟩ := hs.head
    unfold Good at *
    have hne : b.bs ≠ [] := bs_ne (.inr hb)
    have e1 : flat (b :: (B ++ ts')) = flat (b :: B) ++ flat ts' := by rw [← List.cons_append, flat_append]
    have e2 : flat (b :: (B ++ us')) = flat (b :: B) ++ flat us' := by rw [← List.cons_append, flat_append]
    rw [e1, toks_append _ _ h4] at hg
    rw [e2, toks_append _ _ h5]
    have g1 : toks (flat ts') = ts' := by
      have := good_drop (a := B) (ts := ts') (by
        have hh : Good (b :: (B ++ ts')) := by unfold Good; rw [e1, toks_append _ _ h4]; exact hg
        exact good_tail hh)
      exact this
    rw [flat_append, toks_append _ _ h5] at ih'
    have g2 : toks (flat us') = us' := good_drop (a := B) (by unfold Good; rw [flat_append, toks_append _ _ h5]; exact ih')
    rw [g1, ← List.cons_append] at hg
    rw [g2, ← List.cons_append]
    rw [List.append_cancel_right hg]
  | @val gs vs ts us h1 h2 h3 h4 _ ih =>
    unfold Good
    rw [flat_append, toks_valids h4, show toks (flat us) = us from ih (good_drop hg)]

/-! ### The pieces with their places -/
def place : Nat → List Tok → List Pc
  | _, [] => []
  | i, t :: ts => ⟨i, t.bs.length, t.r⟩ :: place (i + t.bs.length) ts
theorem pcs_place (l : List UInt8) : ∀ i, pcsFrom i l = place i (toks l) := by
  induction l using dec_induction with
  | h0 => intro i; rw [toks_nil, pcsFrom_nil]; rfl
  | h1 l hn ih =>
    intro i
    have hle := dec_le l hn
    have e : (l.take (decodeL l).2).length = (decodeL l).2 := by simp; omega
    rw [pcsFrom_cons i l hn, toks_cons l hn, place, ih, e]
theorem place_append (a b : List Tok) : ∀ i, place i (a ++ b) = place i a ++ place (i + (flat a).length) b := by
  induction a with
  | nil => intro i; rfl
  | cons t a ih => intro i; simp only [List.cons_append, place, ih, flat_cons, List.length_append, Nat.add_assoc]
theorem place_length (ts : List Tok) : ∀ i, (place i ts).length = ts.length := by
  induction ts with
  | nil => intro i; rfl
  | cons t ts ih => intro i; simp [place, ih]

end Go.Proofs.Ytekjfmjeemjcjaa
