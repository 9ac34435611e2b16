/-
  Texts laid together: Tok, PlA, Ql, PcW, Cls, ClsW, ClsW2, Vow, RefW, RefW3, LfF, Vs. Nothing is assumed.
-/
import Derived.Test.YthjkafeklflgbaaFb2
import Derived.Test.YthjkafeklflgbaaProg
import Derived.Test.YthjkafeklflgbaaFb1
namespace Go.Proofs.Ythjkafeklflgbaa
open Go.RowKit Go.Lib

/-- A piece: its rune, its bytes. -/
structure Tok where
  r : Nat
  bs : List UInt8
  deriving DecidableEq
def Tok.broken (t : Tok) : Bool := t.r == 65533 && t.bs.length == 1
/-- A rune's own form. -/
def Tok.valid (t : Tok) : Prop := (t.r < 55296 ∨ (57343 < t.r ∧ t.r ≤ 1114111)) ∧ t.bs = encodeRune t.r
def flat (ts : List Tok) : List UInt8 := ts.flatMap Tok.bs
def toksF : Nat → List UInt8 → List Tok
  | 0, _ => []
  | f + 1, l => if l = [] then [] else ⟨(decodeL l).1, l.take (decodeL l).2⟩ :: toksF f (l.drop (decodeL l).2)
def toks (l : List UInt8) : List Tok := toksF l.length l

theorem flat_nil : flat [] = [] := rfl
theorem flat_cons (t : Tok) (ts : List Tok) : flat (t :: ts) = t.bs ++ flat ts := by simp [flat]
theorem flat_append (a b : List Tok) : flat (a ++ b) = flat a ++ flat b := by simp [flat]
theorem toksF_enough : ∀ (f g : Nat) (l : List UInt8), l.length ≤ f → l.length ≤ g → toksF f l = toksF g l := by
  intro f
  induction f with
  | zero =>
    intro g l h1 h2
    have : l = [] := List.eq_nil_of_length_eq_zero (by omega)
    subst this
    cases g <;> simp [toksF]
  | succ f ih =>
    intro g l h1 h2
    cases g with
    | zero =>
      have : l = [] := List.eq_nil_of_length_eq_zero (by omega)
      subst this
      simp [toksF]
    | succ g =>
      by_cases hl : l = []
      · simp [toksF, hl]
      · simp only [toksF, hl, if_false]
        have := dec_pos l
        have hlen : 0 < l.length := List.length_pos_iff.2 hl
        rw [ih g _ (by simp; omega) (by simp; omega)]
theorem toks_nil : toks [] = [] := by simp [toks, toksF]
theorem toks_cons (l : List UInt8) (h : l ≠ []) : toks l = ⟨(decodeL l).1, l.take (decodeL l).2⟩ :: toks (l.drop (decodeL l).2) := by
  have hlen : 0 < l.length := List.length_pos_iff.2 h
  unfold toks
  obtain ⟨n, hn⟩ : ∃ n, l.length = n + 1 := ⟨l.length - 1, by omega⟩
  rw [hn]
  simp only [toksF, h, if_false]
  have := dec_pos l
  rw [toksF_enough n (l.drop (decodeL l).2).length _ (by simp; omega) (Nat.le_refl _)]
/-- Induction over a text, piece by piece. -/
theorem dec_induction {P : List UInt8 → Prop} (h0 : P []) (h1 : ∀ l, l ≠ [] → P (l.drop (decodeL l).2) → P l) : ∀ l, P l := by
  have key : ∀ (n : Nat) (l : List UInt8), l.length ≤ n → P l := by
    intro n
    induction n with
    | zero => intro l hl; rw [List.eq_nil_of_length_eq_zero (by omega : l.length = 0)]; exact h0
    | succ n ih =>
      intro l hl
      by_cases hn : l = []
      · rw [hn]; exact h0
      · have := dec_pos l
        exact h1 l hn (ih _ (by simp; omega))
  exact fun l => key l.length l (Nat.le_refl _)
theorem flat_toks (l : List UInt8) : flat (toks l) = l := by
  induction l using dec_induction with
  | h0 => rw [toks_nil]; rfl
  | h1 l hn ih => rw [toks_cons l hn, flat_cons, ih]; exact List.take_append_drop _ _
/-- A piece of a text is a rune's form or a broken byte. -/
theorem tok_ok (l : List UInt8) (h : l ≠ []) : (⟨(decodeL l).1, l.take (decodeL l).2⟩ : Tok).valid ∨ (⟨(decodeL l).1, l.take (decodeL l).2⟩ : Tok).broken = true := by
  by_cases hb : (decodeL l).1 = 65533 ∧ (decodeL l).2 = 1
  · right
    have hlen : 0 < l.length := List.length_pos_iff.2 h
    simp [Tok.broken, hb.1, hb.2]; omega
  · left
    exact ⟨dec_valid l, (encode_decode l h hb).symm⟩
theorem toks_ok (l : List UInt8) : ∀ t ∈ toks l, t.valid ∨ t.broken = true := by
  induction l using dec_induction with
  | h0 => rw [toks_nil]; simp
  | h1 l hn ih =>
    rw [toks_cons l hn]
    intro t ht
    rcases List.mem_cons.1 ht with rfl | ht
    · exact tok_ok l hn
    · exact ih t ht
theorem valid_not_broken {t : Tok} (h : t.valid) : t.broken = false := by
  unfold Tok.broken
  by_cases hr : t.r = 65533
  · have := h.2; rw [hr, enc_lost] at this; simp [this]
  · simp [hr]
theorem bs_ne {t : Tok} (h : t.valid ∨ t.broken = true) : t.bs ≠ [] := by
  rcases h with h | h
  · rw [h.2]; intro e; have := (encodeRune_len (t.r : Int)).1; rw [e] at this; simp at this
  · intro e; unfold Tok.broken at h; rw [e] at h; simp at h

/-- A byte that may go on a form. -/
def contB (b : UInt8) : Bool := b.toNat / 64 == 2
/-- What can't go on a form that stands ahead of it. -/
def Stop : List UInt8 → Prop
  | [] => True
  | b :: _ => contB b = false
theorem decodeN_stop1 {n b0 b1 b2 b3 c1 c2 c3 m : Nat} (h1 : n ≤ 1 ∨ b1 / 64 ≠ 2) (h2 : m ≤ 1 ∨ c1 / 64 ≠ 2) : decodeN n b0 b1 b2 b3 = decodeN m b0 c1 c2 c3 := by
  unfold decodeN
  have e1 : ¬ (1 < n ∧ b1 / 64 = 2) := by omega
  have e2 : ¬ (1 < m ∧ c1 / 64 = 2) := by omega
  simp only [e1, e2, and_false, false_and, if_false]
theorem decodeN_stop2 {n b0 b1 b2 b3 c2 c3 m : Nat} (hn : 1 < n) (hm : 1 < m) (h1 : n ≤ 2 ∨ b2 / 64 ≠ 2) (h2 : m ≤ 2 ∨ c2 / 64 ≠ 2) : decodeN n b0 b1 b2 b3 = decodeN m b0 b1 c2 c3 := by
  unfold decodeN
  have e1 : ¬ (2 < n ∧ b2 / 64 = 2) := by omega
  have e2 : ¬ (2 < m ∧ c2 / 64 = 2) := by omega
  simp only [e1, e2, and_false, false_and, if_false, hn, hm, true_and]
theorem decodeN_stop3 {n b0 b1 b2 b3 c3 m : Nat} (hn : 2 < n) (hm : 2 < m) (h1 : n ≤ 3 ∨ b3 / 64 ≠ 2) (h2 : m ≤ 3 ∨ c3 / 64 ≠ 2) : decodeN n b0 b1 b2 b3 = decodeN m b0 b1 b2 c3 := by
  unfold decodeN
  have e1 : ¬ (3 < n ∧ b3 / 64 = 2) := by omega
  have e2 : ¬ (3 < m ∧ c3 / 64 = 2) := by omega
  have h1n : 1 < n := by omega
  have h1m : 1 < m := by omega
  simp only [e1, e2, and_false, if_false, hn, hm, h1n, h1m, true_and]
theorem decodeN_stop4 {n b0 b1 b2 b3 m : Nat} (hn : 3 < n) (hm : 3 < m) : decodeN n b0 b1 b2 b3 = decodeN m b0 b1 b2 b3 := by
  unfold decodeN
  have h1n : 1 < n := by omega
  have h1m : 1 < m := by omega
  have h2n : 2 < n := by omega
  have h2m : 2 < m := by omega
  simp only [hn, hm, h1n, h1m, h2n, h2m, true_and]
theorem stop_get {x : List UInt8} (h : Stop x) (n : Nat) : n + x.length ≤ n ∨ (x.getD 0 0).toNat / 64 ≠ 2 := by
  cases x with
  | nil => simp
  | cons b x => right; simpa [Stop, contB] using h
/-- What stands behind a stop does not matter. -/
theorem dec_stop (l x : List UInt8) (hl : l ≠ []) (hx : Stop x) : decodeL (l ++ x) = decodeL l := by
  rw [decodeL_N, decodeL_N]
  rcases l with _ | ⟨a, _ | ⟨b, _ | ⟨c, _ | ⟨d, l⟩⟩⟩⟩
  · exact absurd rfl hl
  · refine decodeN_stop1 ?_ (.inl (by simp))
    rcases stop_get hx 1 with h | h
    · left; simp only [List.length_append, List.length_cons, List.length_nil]; omega
    · right; simpa using h
  · refine decodeN_stop2 (by simp) (by simp) ?_ (.inl (by simp))
    rcases stop_get hx 2 with h | h
    · left; simp only [List.length_append, List.length_cons, List.length_nil]; omega
    · right; simpa using h
  · refine decodeN_stop3 (by simp) (by simp) ?_ (.inl (by simp))
    rcases stop_get hx 3 with h | h
    · left; simp only [List.length_append, List.length_cons, List.length_nil]; omega
    · right; simpa using h
  · exact decodeN_stop4 (by simp) (by simp)
theorem toks_append (l x : List UInt8) (hx : Stop x) : toks (l ++ x) = toks l ++ toks x := by
  induction l using dec_induction with
  | h0 => rw [toks_nil]; rfl
  | h1 l hn ih =>
    have hle := dec_le l hn
    have hne : l ++ x ≠ [] := by simp [hn]
    rw [toks_cons _ hne, toks_cons l hn, dec_stop l x hn hx, List.drop_append_of_le_length hle, ih, List.take_append_of_le_length hle]
    rfl

theorem encZ_shape (r : Nat) (hv : r < 55296 ∨ (57343 < r ∧ r ≤ 1114111)) :
    (r ≤ 127 ∧ encodeRuneZ r = [(r : Int)]) ∨ (128 ≤ r ∧ r ≤ 2047 ∧ encodeRuneZ r = [192 + (r : Int) / 64, 128 + (r : Int) % 64]) ∨
    (2048 ≤ r ∧ r ≤ 65535 ∧ encodeRuneZ r = [224 + (r : Int) / 4096, 128 + (r : Int) / 64 % 64, 128 + (r : Int) % 64]) ∨
    (65536 ≤ r ∧ r ≤ 1114111 ∧ encodeRuneZ r = [240 + (r : Int) / 262144, 128 + (r : Int) / 4096 % 64, 128 + (r : Int) / 64 % 64, 128 + (r : Int) % 64]) := by
  by_cases h1 : r ≤ 127
  · exact .inl ⟨h1, encodeRuneZ_one (by omega) (by omega)⟩
  · by_cases h2 : r ≤ 2047
    · exact .inr (.inl ⟨by omega, h2, encodeRuneZ_two (by omega) (by omega)⟩)
    · by_cases h3 : r ≤ 65535
      · exact .inr (.inr (.inl ⟨by omega, h3, encodeRuneZ_three (by omega)⟩))
      · exact .inr (.inr (.inr ⟨by omega, by omega, encodeRuneZ_four (by omega) (by omega)⟩))
theorem u8_toNat (z : Int) (_h0 : 0 ≤ z) (h1 : z < 256) : (z.toNat.toUInt8).toNat = z.toNat := by
  simp; omega
theorem dec_enc (r : Nat) (hv : r < 55296 ∨ (57343 < r ∧ r ≤ 1114111)) (x : List UInt8) : decodeL (encodeRune r ++ x) = (r, (encodeRune r).length) := by
  rw [decodeL_N]
  rcases encZ_shape r hv with ⟨h, e⟩ | ⟨h, h', e⟩ | ⟨h, h', e⟩ | ⟨h, h', e⟩
  · have hl : encodeRune r = [((r : Int).toNat.toUInt8)] := by simp only [encodeRune, e, List.map_cons, List.map_nil]
    rw [hl]
    simp only [List.cons_append, List.nil_append, List.getD_cons_zero, List.length_cons]
    rw [u8_toNat _ (by omega) (by omega)]
    unfold decodeN
    simp only [Int.toNat_natCast]
    rw [if_pos (by omega)]
    simp
  · have hl : encodeRune r = [((192 + (r : Int) / 64).toNat.toUInt8), ((128 + (r : Int) % 64).toNat.toUInt8)] := by simp only [encodeRune, e, List.map_cons, List.map_nil]
    rw [hl]
    simp only [List.cons_append, List.nil_append, List.getD_cons_zero, List.getD_cons_succ, List.length_cons]
    rw [u8_toNat _ (by omega) (by omega), u8_toNat _ (by omega) (by omega)]
    have a1 : (192 + (r : Int) / 64).toNat = 192 + r / 64 := by omega
    have a2 : (128 + (r : Int) % 64).toNat = 128 + r % 64 := by omega
    rw [a1, a2]
    unfold decodeN
    have c1 : ¬ 192 + r / 64 < 128 := by omega
    have c2 : (192 + r / 64) / 32 = 6 := by omega
    have c3 : (128 + r % 64) / 64 = 2 := by omega
    have c4 : (192 + r / 64) % 32 * 64 + (128 + r % 64) % 64 = r := by omega
    have c5 : 128 ≤ r := by omega
    rw [if_neg c1, if_pos ⟨c2, by omega, c3⟩, c4, if_pos c5]
    rfl
  · have hl : encodeRune r = [((224 + (r : Int) / 4096).toNat.toUInt8), ((128 + (r : Int) / 64 % 64).toNat.toUInt8), ((128 + (r : Int) % 64).toNat.toUInt8)] := by simp only [encodeRune, e, List.map_cons, List.map_nil]
    rw [hl]
    simp only [List.cons_append, List.nil_append, List.getD_cons_zero, List.getD_cons_succ, List.length_cons]
    rw [u8_toNat _ (by omega) (by omega), u8_toNat _ (by omega) (by omega), u8_toNat _ (by omega) (by omega)]
    have a1 : (224 + (r : Int) / 4096).toNat = 224 + r / 4096 := by omega
    have a2 : (128 + (r : Int) / 64 % 64).toNat = 128 + r / 64 % 64 := by omega
    have a3 : (128 + (r : Int) % 64).toNat = 128 + r % 64 := by omega
    rw [a1, a2, a3]
    unfold decodeN
    have c1 : ¬ 224 + r / 4096 < 128 := by omega
    have c2 : (224 + r / 4096) / 32 ≠ 6 := by omega
    have c2' : (224 + r / 4096) / 16 = 14 := by omega
    have c3 : (128 + r / 64 % 64) / 64 = 2 := by omega
    have c3' : (128 + r % 64) / 64 = 2 := by omega
    have c4 : (224 + r / 4096) % 16 * 4096 + (128 + r / 64 % 64) % 64 * 64 + (128 + r % 64) % 64 = r := by omega
    have c5 : 2048 ≤ r := by omega
    rw [if_neg c1, if_neg (fun h => c2 h.1), if_pos ⟨c2', ⟨by omega, c3⟩, ⟨by omega, c3'⟩⟩, c4, if_pos ⟨c5, by omega⟩]
    rfl
  · have hl : encodeRune r = [((240 + (r : Int) / 262144).toNat.toUInt8), ((128 + (r : Int) / 4096 % 64).toNat.toUInt8), ((128 + (r : Int) / 64 % 64).toNat.toUInt8), ((128 + (r : Int) % 64).toNat.toUInt8)] := by simp only [encodeRune, e, List.map_cons, List.map_nil]
    rw [hl]
    simp only [List.cons_append, List.nil_append, List.getD_cons_zero, List.getD_cons_succ, List.length_cons]
    rw [u8_toNat _ (by omega) (by omega), u8_toNat _ (by omega) (by omega), u8_toNat _ (by omega) (by omega), u8_toNat _ (by omega) (by omega)]
    have a1 : (240 + (r : Int) / 262144).toNat = 240 + r / 262144 := by omega
    have a2 : (128 + (r : Int) / 4096 % 64).toNat = 128 + r / 4096 % 64 := by omega
    have a2' : (128 + (r : Int) / 64 % 64).toNat = 128 + r / 64 % 64 := by omega
    have a3 : (128 + (r : Int) % 64).toNat = 128 + r % 64 := by omega
    rw [a1, a2, a2', a3]
    unfold decodeN
    have c1 : ¬ 240 + r / 262144 < 128 := by omega
    have c2 : (240 + r / 262144) / 32 ≠ 6 := by omega
    have c2' : (240 + r / 262144) / 16 ≠ 14 := by omega
    have c2'' : (240 + r / 262144) / 8 = 30 := by omega
    have c3 : (128 + r / 4096 % 64) / 64 = 2 := by omega
    have c3' : (128 + r / 64 % 64) / 64 = 2 := by omega
    have c3'' : (128 + r % 64) / 64 = 2 := by omega
    have c4 : (240 + r / 262144) % 8 * 262144 + (128 + r / 4096 % 64) % 64 * 4096 + (128 + r / 64 % 64) % 64 * 64 + (128 + r % 64) % 64 = r := by omega
    have c5 : 65536 ≤ r := by omega
    rw [if_neg c1, if_neg (fun h => c2 h.1), if_neg (fun h => c2' h.1), if_pos ⟨c2'', ⟨by omega, c3⟩, ⟨by omega, c3'⟩, ⟨by omega, c3''⟩⟩, c4, if_pos ⟨c5, by omega⟩]
    rfl
/-- A rune's form stops what stands ahead of it. -/
theorem stop_enc (r : Nat) (hv : r < 55296 ∨ (57343 < r ∧ r ≤ 1114111)) (x : List UInt8) : Stop (encodeRune r ++ x) := by
  rcases encZ_shape r hv with ⟨h, e⟩ | ⟨h, h', e⟩ | ⟨h, h', e⟩ | ⟨h, h', e⟩ <;>
  · simp only [encodeRune, e, List.map_cons, List.map_nil, List.cons_append, Stop, contB, beq_eq_false_iff_ne, ne_eq]
    rw [u8_toNat _ (by omega) (by omega)]
    omega
theorem toks_valid {t : Tok} (h : t.valid) (x : List UInt8) : toks (t.bs ++ x) = t :: toks x := by
  have hne : t.bs ++ x ≠ [] := by simp [bs_ne (.inl h)]
  rw [toks_cons _ hne]
  rw [h.2, dec_enc t.r h.1 x, ← h.2]
  simp
theorem toks_valids {vs : List Tok} (h : ∀ t ∈ vs, t.valid) (x : List UInt8) : toks (flat vs ++ x) = vs ++ toks x := by
  induction vs with
  | nil => rfl
  | cons t vs ih =>
    rw [flat_cons, List.append_assoc, toks_valid (h t (List.mem_cons_self ..)), ih (fun q hq => h q (List.mem_cons_of_mem _ hq))]
    rfl
theorem stop_valids {vs : List Tok} (hne : vs ≠ []) (h : ∀ t ∈ vs, t.valid) (x : List UInt8) : Stop (flat vs ++ x) := by
  cases vs with
  | nil => exact absurd rfl hne
  | cons t vs =>
    have := h t (List.mem_cons_self ..)
    rw [flat_cons, List.append_assoc, this.2]
    exact stop_enc t.r this.1 _

/-- The pieces are their own text's. -/
def Good (ts : List Tok) : Prop := toks (flat ts) = ts
theorem good_toks (l : List UInt8) : Good (toks l) := by unfold Good; rw [flat_toks]
theorem good_tail {t : Tok} {ts : List Tok} (h : Good (t :: ts)) : Good ts := by
  unfold Good at *
  by_cases hn : flat (t :: ts) = []
  · rw [hn, toks_nil] at h; cases h
  · rw [toks_cons _ hn] at h
    have h1 : (⟨(decodeL (flat (t :: ts))).1, (flat (t :: ts)).take (decodeL (flat (t :: ts))).2⟩ : Tok) = t := by injection h
    have h2 : toks ((flat (t :: ts)).drop (decodeL (flat (t :: ts))).2) = ts := by injection h
    have h3 : (flat (t :: ts)).take (decodeL (flat (t :: ts))).2 = t.bs := congrArg Tok.bs h1
    have h4 := List.take_append_drop (decodeL (flat (t :: ts))).2 (flat (t :: ts))
    rw [h3] at h4
    have h5 : (flat (t :: ts)).drop (decodeL (flat (t :: ts))).2 = flat ts := by
      rw [flat_cons] at h4 ⊢
      exact List.append_cancel_left h4
    rw [← h5]; exact h2
theorem good_drop {a ts : List Tok} (h : Good (a ++ ts)) : Good ts := by
  induction a with
  | nil => exact h
  | cons t a ih => exact ih (good_tail h)
theorem good_ok {ts : List Tok} (h : Good ts) : ∀ t ∈ ts, t.valid ∨ t.broken = true := by
  unfold Good at h; rw [← h]; exact toks_ok _

/-- Broken bytes stay, valid pieces become other valid ones. -/
inductive Sub : List Tok → List Tok → Prop
  | nil : Sub [] []
  | brk {b : Tok} {ts us : List Tok} : b.broken = true → Sub ts us → Sub (b :: ts) (b :: us)
  | val {gs vs ts us : List Tok} : gs ≠ [] → vs ≠ [] → (∀ t ∈ gs, t.valid) → (∀ t ∈ vs, t.valid) → Sub ts us → Sub (gs ++ ts) (vs ++ us)
theorem Sub.one {t : Tok} {vs ts us : List Tok} (ht : t.valid) (hn : vs ≠ []) (hv : ∀ t ∈ vs, t.valid) (h : Sub ts us) : Sub (t :: ts) (vs ++ us) :=
  Sub.val (gs := [t]) (by simp) hn (by simpa using ht) hv h
/-- How a list that is put in another's place begins. -/
theorem Sub.head {ts us : List Tok} (h : Sub ts us) : ∃ B ts' us', (∀ b ∈ B, b.broken = true) ∧ ts = B ++ ts' ∧ us = B ++ us' ∧ Stop (flat ts') ∧ Stop (flat us') := by
  induction h with
  | nil => exact ⟨[], [], [], by simp, rfl, rfl, trivial, trivial⟩
  | brk hb _ ih =>
    obtain ⟨B, ts', us', h1, rfl, rfl, h4, h5⟩ := ih
    exact ⟨_ :: B, ts', us', by simpa [hb] using h1, rfl, rfl, h4, h5⟩
  | @val gs vs ts us h1 h2 h3 h4 _ ih =>
    exact ⟨[], gs ++ ts, vs ++ us, by simp, rfl, rfl, by rw [flat_append]; exact stop_valids h1 h3 _, by rw [flat_append]; exact stop_valids h2 h4 _⟩
theorem Sub.good {ts us : List Tok} (h : Sub ts us) (hg : Good ts) : Good us := by
  induction h with
  | nil => exact hg
  | @brk b ts us hb hs ih =>
    have ih' := ih (good_tail hg)
    obtain ⟨B, ts', us', h1, rfl, rfl, h4, h5⟩ := hs.head
    unfold Good at *
    have hne : b.bs ≠ [] := bs_ne (.inr hb)
    have e1 : flat (b :: (B ++ ts')) = flat (b :: B) ++ flat ts' := by rw [← List.cons_append, flat_append]
    have e2 : flat (b :: (B ++ us')) = flat (b :: B) ++ flat us' := by rw [← List.cons_append, flat_append]
    rw [e1, toks_append _ _ h4] at hg
    rw [e2, toks_append _ _ h5]
    have g1 : toks (flat ts') = ts' := by
      have := good_drop (a := B) (ts := ts') (by
        have hh : Good (b :: (B ++ ts')) := by unfold Good; rw [e1, toks_append _ _ h4]; exact hg
        exact good_tail hh)
      exact this
    rw [flat_append, toks_append _ _ h5] at ih'
    have g2 : toks (flat us') = us' := good_drop (a := B) (by unfold Good; rw [flat_append, toks_append _ _ h5]; exact ih')
    rw [g1, ← List.cons_append] at hg
    rw [g2, ← List.cons_append]
    rw [List.append_cancel_right hg]
  | @val gs vs ts us h1 h2 h3 h4 _ ih =>
    unfold Good
    rw [flat_append, toks_valids h4, show toks (flat us) = us from ih (good_drop hg)]

/-! ### The pieces with their places -/
def place : Nat → List Tok → List Pc
  | _, [] => []
  | i, t :: ts => ⟨i, t.bs.length, t.r⟩ :: place (i + t.bs.length) ts
theorem pcs_place (l : List UInt8) : ∀ i, pcsFrom i l = place i (toks l) := by
  induction l using dec_induction with
  | h0 => intro i; rw [toks_nil, pcsFrom_nil]; rfl
  | h1 l hn ih =>
    intro i
    have hle := dec_le l hn
    have e : (l.take (decodeL l).2).length = (decodeL l).2 := by simp; omega
    rw [pcsFrom_cons i l hn, toks_cons l hn, place, ih, e]
theorem place_append (a b : List Tok) : ∀ i, place i (a ++ b) = place i a ++ place (i + (flat a).length) b := by
  induction a with
  | nil => intro i; rfl
  | cons t a ih => intro i; simp only [List.cons_append, place, ih, flat_cons, List.length_append, Nat.add_assoc]
theorem place_length (ts : List Tok) : ∀ i, (place i ts).length = ts.length := by
  induction ts with
  | nil => intro i; rfl
  | cons t ts ih => intro i; simp [place, ih]

end Go.Proofs.Ythjkafeklflgbaa
namespace Go.Proofs.Ythjkafeklflgbaa
open Go.RowKit Go.Lib
set_option linter.unusedVariables false
set_option linter.unusedSimpArgs false
section
variable {R S : Type} {c : Prop} [Decidable c] {o x z : Option R} {p : Option S} {f : S → Option R} {b : Bool} {y : Option R}
theorem grdI (h : c) (ho : o = x) : grd c o = x := (grd_pos h).trans ho
theorem thenI {a : S} (h : p = some a) (hf : f a = x) : andThen p f = x := (and_some h).trans hf
theorem condTI (hb : b = true) (h : x = z) : bcond b x y = z := (bcond_T hb).trans h
theorem condFI (hb : b = false) (h : y = z) : bcond b x y = z := (bcond_F hb).trans h
theorem joinI {T : Type} {t : T → Option R} {k : T} (h : t k = x) : joinK t k = x := h
theorem loopI {T : Type} {bot : T} {step : T → T} {n : Nat} : loopG bot step (n + 1) = step (loopG bot step n) := rfl
theorem bcond_if {q : Prop} [Decidable q] : bcond (decide q) x y = if q then x else y := by
  unfold bcond; rw [Bool.cond_decide]
theorem fuel_eq (k : Nat) (h : k ≤ 1000) : ∃ n, fuel = n + k ∧ 18446744073709550000 ≤ n := ⟨18446744073709551616 - k, by unfold fuel; omega, by omega⟩
end
/-- A rune that has a form. -/
def vr (r : Int) : Prop := (0 ≤ r ∧ r < 55296) ∨ (57343 < r ∧ r ≤ 1114111)
instance (r : Int) : Decidable (vr r) := by unfold vr; infer_instance
theorem none_v (r : Int) : ref01_None_v r = some (!decide (vr r)) := by
  unfold ref01_None_v
  simp only [bcond_if]
  by_cases h : vr r
  · have h' := h
    unfold vr at h'
    rw [decide_eq_true h, if_neg (by omega), if_neg (by omega)]
    split
    · rw [decide_eq_false (by omega)]; rfl
    · rfl
  · have h' := h
    unfold vr at h'
    rw [decide_eq_false h]
    split
    · rfl
    · split
      · rfl
      · rw [if_pos (by omega), decide_eq_true (by omega)]; rfl
def wd (r : Int) : Int := if vr r then (if r < 128 then 1 else if r < 2048 then 2 else if r < 65536 then 3 else 4) else 0
theorem width_v (r : Int) : ref01_Width_v r = some (wd r) := by
  unfold ref01_Width_v wd
  refine thenI (none_v r) ?_
  by_cases h : vr r
  · refine condFI (by simp [h]) ?_
    rw [if_pos h]
    simp only [bcond_if]
    split
    · rfl
    · split
      · rfl
      · split <;> rfl
  · refine condTI (by simp [h]) ?_
    rw [if_neg h]
theorem wd_len (r : Int) (h : vr r) : ((encodeRune r).length : Int) = wd r := by
  unfold wd; rw [if_pos h]
  unfold vr at h
  unfold encodeRune
  rw [List.length_map]
  split
  · rw [encodeRuneZ_one (by omega) (by omega)]; rfl
  · split
    · rw [encodeRuneZ_two (by omega) (by omega)]; rfl
    · split
      · rw [encodeRuneZ_three (by omega)]; rfl
      · rw [encodeRuneZ_four (by omega) (by omega)]; rfl
theorem u8w (x : Int) (h : 0 ≤ x ∧ x ≤ 255) : IntKind.u8.wrap x = x := IntWalk.u8_in x h
theorem enc_step {j : Int → List Int → Option ByteArray} {ag : Int → List Int → Int → Option ByteArray} {r i : Int} {b : List Int} (h0 : 0 ≤ r) (hr : r ≤ 1114111) (hi : 0 < i) (hb : i < b.length) (hb4 : b.length ≤ 4) :
    ref01_Encode_s1 j ag r b i = ag (r / 64) (b.set i.toNat (128 + r % 64)) (i - 1) := by
  unfold ref01_Encode_s1
  have e1 : Int.tmod r 64 = r % 64 := Int.tmod_eq_emod_of_nonneg h0
  have e2 : Int.tdiv r 64 = r / 64 := Int.tdiv_eq_ediv_of_nonneg h0
  refine condTI (decide_eq_true hi) (grdI ⟨by omega, by omega⟩ ?_)
  obtain ⟨q, hq⟩ : ∃ q, getO b i = some q := ⟨_, getO_of (n := i.toNat) (by omega) (List.getElem?_eq_getElem (by omega))⟩
  refine thenI hq (grdI ⟨by omega, by omega⟩ (grdI ⟨by omega, by omega⟩ ?_))
  rw [e1, e2, u8w _ (by omega)]
theorem enc_end {j : Int → List Int → Option ByteArray} {ag : Int → List Int → Int → Option ByteArray} {r : Int} {b : List Int} : ref01_Encode_s1 j ag r b 0 = j r b := by
  unfold ref01_Encode_s1; exact condFI rfl rfl
theorem bytesOf_eq {l : List Int} {s : ByteArray} (h : l.map (fun x => UInt8.ofNat x.toNat) = s.data.toList) : bytesOf l = s := by
  apply ByteArray.ext; unfold bytesOf; simp [h]
theorem encode_v (r : Int) (hr : I32 r) : ref01_Encode_v r = some (Utf8.encode r) := by
  have key : ∀ r, vr r → (andThen (ref01_Width_v r) fun (r4 : Int) =>
      bcond ((r4 : Int) == 1) (grd (∀ x ∈ ([IntKind.u8.wrap r] : List Int), U8 x) <| some (bytesOf ([IntKind.u8.wrap r] : List Int)))
      (joinK (fun (j2 : Int → (List Int) → Option ByteArray) => grd (0 ≤ r4 ∧ r4 ≤ 2147483648) <| grd (I64 (r4 - 1)) <| loopG (fun _ _ _ => none) (ref01_Encode_s1 j2) fuel r (List.replicate (r4 : Int).toNat 0) (r4 - 1))
       (fun (r5 : Int) (b2 : List Int) =>
        grd (I64 (8 - r4)) <| grd (0 ≤ (8 - r4)) <| grd (I64 (256 - (shlI .i64 1 (8 - r4)))) <| grd (I64 r5) <| grd (I64 ((256 - (shlI .i64 1 (8 - r4))) + r5)) <|
        andThen (getO b2 0) fun (q2 : Int) => grd (∀ x ∈ b2.set (0 : Int).toNat (IntKind.u8.wrap ((256 - (shlI .i64 1 (8 - r4))) + r5)), U8 x) <|
        some (bytesOf (b2.set (0 : Int).toNat (IntKind.u8.wrap ((256 - (shlI .i64 1 (8 - r4))) + r5))))))) = some (Utf8.encode r) := by
    intro r hv
    have hv' := hv
    unfold vr at hv
    refine thenI (width_v r) ?_
    obtain ⟨n, hn, _⟩ := fuel_eq 5 (by omega)
    rw [hn]
    unfold wd; rw [if_pos hv']
    have hw : encodeRune r = (encodeRuneZ r).map fun x => x.toNat.toUInt8 := rfl
    by_cases h1 : r < 128
    · rw [if_pos h1]
      refine condTI rfl (grdI ?_ ?_)
      · intro x hx
        simp only [List.mem_singleton] at hx
        subst hx; rw [u8w _ (by omega)]; exact ⟨by omega, by omega⟩
      · congr 1
        refine bytesOf_eq ?_
        rw [encode_list, hw, encodeRuneZ_one (by omega) (by omega), u8w _ (by omega)] <;> rfl
    · rw [if_neg h1]
      by_cases h2 : r < 2048
      · rw [if_pos h2]
        refine condFI rfl (joinI (grdI (by omega) (grdI ⟨by omega, by omega⟩ ?_)))
        simp only [loopI]
        show ref01_Encode_s1 _ _ r [0, 0] 1 = _
        rw [enc_step (by omega) (by omega) (by omega) (by decide) (by decide), show (1 : Int) - 1 = 0 by rfl, enc_end]
        have hs : shlI .i64 1 (8 - 2) = 64 := by decide
        rw [hs]
        refine grdI ⟨by omega, by omega⟩ (grdI (by omega) (grdI ⟨by omega, by omega⟩ (grdI ⟨by omega, by omega⟩ (grdI ⟨by omega, by omega⟩ (thenI (a := 0) rfl ?_)))))
        rw [u8w _ (by omega)]
        show grd (∀ x ∈ [256 - 64 + r / 64, 128 + r % 64], U8 x) (some (bytesOf [256 - 64 + r / 64, 128 + r % 64])) = _
        refine grdI (by intro x hx; simp only [List.mem_cons, List.not_mem_nil, or_false] at hx; rcases hx with rfl | rfl <;> exact ⟨by omega, by omega⟩) ?_
        congr 1
        refine bytesOf_eq ?_
        rw [encode_list, hw, encodeRuneZ_two (by omega) (by omega)] <;> rfl
      · rw [if_neg h2]
        by_cases h3 : r < 65536
        · rw [if_pos h3]
          refine condFI rfl (joinI (grdI (by omega) (grdI ⟨by omega, by omega⟩ ?_)))
          simp only [loopI]
          show ref01_Encode_s1 _ _ r [0, 0, 0] 2 = _
          rw [enc_step (by omega) (by omega) (by omega) (by decide) (by decide)]
          show ref01_Encode_s1 _ _ (r / 64) [0, 0, 128 + r % 64] 1 = _
          rw [enc_step (by omega) (by omega) (by omega) (by simp) (by simp), show (1 : Int) - 1 = 0 by rfl, enc_end]
          have hs : shlI .i64 1 (8 - 3) = 32 := by decide
          rw [hs]
          refine grdI ⟨by omega, by omega⟩ (grdI (by omega) (grdI ⟨by omega, by omega⟩ (grdI ⟨by omega, by omega⟩ (grdI ⟨by omega, by omega⟩ (thenI (a := 0) rfl ?_)))))
          rw [u8w _ (by omega)]
          show grd (∀ x ∈ [256 - 32 + r / 64 / 64, 128 + r / 64 % 64, 128 + r % 64], U8 x) (some (bytesOf [256 - 32 + r / 64 / 64, 128 + r / 64 % 64, 128 + r % 64])) = _
          refine grdI (by intro x hx; simp only [List.mem_cons, List.not_mem_nil, or_false] at hx; rcases hx with rfl | rfl | rfl <;> exact ⟨by omega, by omega⟩) ?_
          congr 1
          refine bytesOf_eq ?_
          rw [encode_list, hw, encodeRuneZ_three (by omega), show r / 64 / 64 = r / 4096 by omega] <;> rfl
        · rw [if_neg h3]
          refine condFI rfl (joinI (grdI (by omega) (grdI ⟨by omega, by omega⟩ ?_)))
          simp only [loopI]
          show ref01_Encode_s1 _ _ r [0, 0, 0, 0] 3 = _
          rw [enc_step (by omega) (by omega) (by omega) (by decide) (by decide)]
          show ref01_Encode_s1 _ _ (r / 64) [0, 0, 0, 128 + r % 64] 2 = _
          rw [enc_step (by omega) (by omega) (by omega) (by simp) (by simp)]
          show ref01_Encode_s1 _ _ (r / 64 / 64) [0, 0, 128 + r / 64 % 64, 128 + r % 64] 1 = _
          rw [enc_step (by omega) (by omega) (by omega) (by simp) (by simp), show (1 : Int) - 1 = 0 by rfl, enc_end]
          have hs : shlI .i64 1 (8 - 4) = 16 := by decide
          rw [hs]
          refine grdI ⟨by omega, by omega⟩ (grdI (by omega) (grdI ⟨by omega, by omega⟩ (grdI ⟨by omega, by omega⟩ (grdI ⟨by omega, by omega⟩ (thenI (a := 0) rfl ?_)))))
          rw [u8w _ (by omega)]
          show grd (∀ x ∈ [256 - 16 + r / 64 / 64 / 64, 128 + r / 64 / 64 % 64, 128 + r / 64 % 64, 128 + r % 64], U8 x) (some (bytesOf [256 - 16 + r / 64 / 64 / 64, 128 + r / 64 / 64 % 64, 128 + r / 64 % 64, 128 + r % 64])) = _
          refine grdI (by intro x hx; simp only [List.mem_cons, List.not_mem_nil, or_false] at hx; rcases hx with rfl | rfl | rfl | rfl <;> exact ⟨by omega, by omega⟩) ?_
          congr 1
          refine bytesOf_eq ?_
          rw [encode_list, hw, encodeRuneZ_four (by omega) (by omega), show r / 64 / 64 / 64 = r / 262144 by omega, show r / 64 / 64 % 64 = r / 4096 % 64 by omega] <;> rfl
  unfold ref01_Encode_v
  refine joinI (thenI (none_v r) ?_)
  by_cases h : vr r
  · exact condFI (by simp [h]) (key r h)
  · refine condTI (by simp [h]) ((key 65533 (by decide)).trans ?_)
    congr 1
    unfold Utf8.encode
    rw [validRune_eq, validRune_eq]
    have e1 : validRune r = false := by unfold validRune; exact decide_eq_false h
    rw [e1]; rfl
end Go.Proofs.Ythjkafeklflgbaa
namespace Go.Proofs.Ythjkafeklflgbaa
open Go.RowKit Go.Lib
set_option linter.unusedVariables false
set_option linter.unusedSimpArgs false
section
variable {R X A B : Type} {xs : List X}
theorem lp_get {k : Nat} {x : X} (h : xs[k]? = some x) : getO xs (k : Int) = some x := getO_nat h
theorem lp_lt {k : Nat} {x : X} (h : xs[k]? = some x) : decide ((k : Int) < (xs.length : Int)) = true := decide_eq_true (by have := (List.getElem?_eq_some_iff.1 h).1; omega)
theorem lp_ge : decide ((xs.length : Int) < (xs.length : Int)) = false := decide_eq_false (by omega)
theorem lp_i64 {k : Nat} (h : k ≤ 4611686018427387904) : I64 ((k : Int) + 1) := ⟨by omega, by omega⟩
theorem lp_lt' {k : Nat} {x : X} (h : xs[k]? = some x) : k < xs.length := (List.getElem?_eq_some_iff.1 h).1
/-- One thing goes through the loop. -/
theorem loop1 {F : (A → Int → Option R) → A → Int → Option R} {bot : A → Int → Option R} {f : A → X → A} {J : A → Option R} (Inv : Nat → A → Prop)
    (hs : ∀ ag k x a, xs[k]? = some x → Inv k a → F ag a (k : Int) = ag (f a x) ((k : Int) + 1)) (hI : ∀ k x a, xs[k]? = some x → Inv k a → Inv (k + 1) (f a x))
    (he : ∀ ag a, Inv xs.length a → F ag a (xs.length : Int) = J a) {n : Nat} (hn : xs.length < n) {a : A} (h0 : Inv 0 a) : loopG bot F n a 0 = J (xs.foldl f a) := by
  have key : ∀ (n k : Nat) (a : A), k ≤ xs.length → xs.length - k < n → Inv k a → loopG bot F n a (k : Int) = J ((xs.drop k).foldl f a) := by
    intro n
    induction n with
    | zero => intro k a _ h; omega
    | succ n ih =>
      intro k a hk hn hi
      rw [loopI]
      by_cases h : k < xs.length
      · have hx : xs[k]? = some xs[k] := List.getElem?_eq_getElem h
        rw [hs _ k _ a hx hi, List.drop_eq_getElem_cons h, List.foldl_cons]
        exact ih (k + 1) _ (by omega) (by omega) (hI k _ a hx hi)
      · have : k = xs.length := by omega
        subst this
        rw [he _ a hi, List.drop_length]; rfl
  have := key n 0 a (Nat.zero_le _) (by omega) h0
  simpa using this
theorem loop2 {F : (A → B → Int → Option R) → A → B → Int → Option R} {bot : A → B → Int → Option R} {f : A × B → X → A × B} {J : A → B → Option R} (Inv : Nat → A × B → Prop)
    (hs : ∀ ag k x (a : A × B), xs[k]? = some x → Inv k a → F ag a.1 a.2 (k : Int) = ag (f a x).1 (f a x).2 ((k : Int) + 1)) (hI : ∀ k x a, xs[k]? = some x → Inv k a → Inv (k + 1) (f a x))
    (he : ∀ ag (a : A × B), Inv xs.length a → F ag a.1 a.2 (xs.length : Int) = J a.1 a.2) {n : Nat} (hn : xs.length < n) {a : A × B} (h0 : Inv 0 a) : loopG bot F n a.1 a.2 0 = J (xs.foldl f a).1 (xs.foldl f a).2 := by
  have key : ∀ (n k : Nat) (a : A × B), k ≤ xs.length → xs.length - k < n → Inv k a → loopG bot F n a.1 a.2 (k : Int) = J ((xs.drop k).foldl f a).1 ((xs.drop k).foldl f a).2 := by
    intro n
    induction n with
    | zero => intro k a _ h; omega
    | succ n ih =>
      intro k a hk hn hi
      rw [loopI]
      by_cases h : k < xs.length
      · have hx : xs[k]? = some xs[k] := List.getElem?_eq_getElem h
        rw [hs _ k _ a hx hi, List.drop_eq_getElem_cons h, List.foldl_cons]
        exact ih (k + 1) _ (by omega) (by omega) (hI k _ a hx hi)
      · have : k = xs.length := by omega
        subst this
        rw [he _ a hi, List.drop_length]; rfl
  have := key n 0 a (Nat.zero_le _) (by omega) h0
  simpa using this
/-- A loop that seeks. -/
theorem seek {F : (Int → Option R) → Int → Option R} {bot : Int → Option R} {g : X → Option (Option R)} {J : Option R}
    (hs : ∀ (ag : Int → Option R) (k : Nat) (x : X), xs[k]? = some x → F ag (k : Int) = (g x).getD (ag ((k : Int) + 1))) (he : ∀ ag, F ag (xs.length : Int) = J) {n : Nat} (hn : xs.length < n) : loopG bot F n 0 = (xs.findSome? g).getD J := by
  have key : ∀ (n k : Nat), k ≤ xs.length → xs.length - k < n → loopG bot F n (k : Int) = ((xs.drop k).findSome? g).getD J := by
    intro n
    induction n with
    | zero => intro k _ h; omega
    | succ n ih =>
      intro k hk hn
      rw [loopI]
      by_cases h : k < xs.length
      · have hx : xs[k]? = some xs[k] := List.getElem?_eq_getElem h
        rw [hs _ k _ hx, List.drop_eq_getElem_cons h, List.findSome?_cons]
        have := ih (k + 1) (by omega) (by omega)
        push_cast at this
        rw [this]
        cases g xs[k] <;> rfl
      · have : k = xs.length := by omega
        subst this
        rw [he, List.drop_length]; rfl
  have := key n 0 (Nat.zero_le _) (by omega)
  simpa using this
theorem rg_fold {X : Type} {step : X → (A → Option R) → A → Option R} {f : A → X → A} {K : A → Option R} (hs : ∀ x ag a, step x ag a = ag (f a x)) : ∀ (xs : List X) (a : A), rangeG K step xs a = K (xs.foldl f a)
  | [], a => rfl
  | x :: xs, a => by rw [rangeG_cons, hs, rg_fold hs xs]; rfl
end
theorem big_fuel {n : Nat} (h : n ≤ 4611686018427387904) : n < fuel := by unfold fuel; omega
end Go.Proofs.Ythjkafeklflgbaa
namespace Go.Proofs.Ythjkafeklflgbaa
open Go.RowKit Go.Lib Go.Shelf
attribute [local go_sem] Oper.semAt_some wide_fn wide_in_fn wide_depth
set_option linter.unusedVariables false

theorem ret_bool {a b : Bool} (h : a = b) : Ending.returned (.bool a) = .returned (.bool b) := by rw [h]
theorem ret_int {k : IntKind} {a b : Int} (h : a = b) : Ending.returned (.int k a) = .returned (.int k b) := by rw [h]

def hasPre (l p : List UInt8) : Bool := decide (l.take p.length = p)

def encPc (p : Pc) : Array Value := #[.agg #[.int .i64 p.i, .int .i64 p.w, .int .i32 p.r, .bool p.broken]]

end Go.Proofs.Ythjkafeklflgbaa
namespace Go.Proofs.Ythjkafeklflgbaa
open Go.RowKit Go.Lib

def evenB (r : Int) : Bool := decide (r % 2 = 0)
def greatP (r : Int) : Prop :=
  (65 ≤ r ∧ r ≤ 90) ∨ (0xC0 ≤ r ∧ r ≤ 0xDE ∧ r ≠ 0xD7) ∨ (((0x100 ≤ r ∧ r ≤ 0x137) ∨ (0x14A ≤ r ∧ r ≤ 0x177)) ∧ r % 2 = 0) ∨ (0x139 ≤ r ∧ r ≤ 0x148 ∧ r % 2 = 1) ∨ r = 0x178 ∨
  (0x179 ≤ r ∧ r ≤ 0x17D ∧ r % 2 = 1) ∨ (0x386 ≤ r ∧ r ≤ 0x38F ∧ r ≠ 0x387 ∧ r ≠ 0x38B ∧ r ≠ 0x38D) ∨ (0x391 ≤ r ∧ r ≤ 0x3AB ∧ r ≠ 0x3A2) ∨ (0x400 ≤ r ∧ r ≤ 0x42F)
instance (r : Int) : Decidable (greatP r) := by unfold greatP; infer_instance
def great (r : Int) : Bool := decide (greatP r)
def smallP (r : Int) : Prop :=
  (97 ≤ r ∧ r ≤ 122) ∨ (0xDF ≤ r ∧ r ≤ 0xFF ∧ r ≠ 0xF7) ∨ (((0x100 ≤ r ∧ r ≤ 0x137) ∨ (0x14A ≤ r ∧ r ≤ 0x177)) ∧ r % 2 = 1) ∨ r = 0x138 ∨ r = 0x149 ∨ r = 0x17F ∨ r = 0x390 ∨
  (0x139 ≤ r ∧ r ≤ 0x148 ∧ r % 2 = 0) ∨ (0x17A ≤ r ∧ r ≤ 0x17E ∧ r % 2 = 0) ∨ (0x3AC ≤ r ∧ r ≤ 0x3CE) ∨ (0x430 ≤ r ∧ r ≤ 0x45F)
instance (r : Int) : Decidable (smallP r) := by unfold smallP; infer_instance
def small (r : Int) : Bool := decide (smallP r)
def letter (r : Int) : Bool := great r || small r
def script (r : Int) : Int := if !letter r then 0 else if r < 0x386 then 1 else if r < 0x400 then 2 else 3
def lower (r : Int) : Int :=
  if !great r then r
  else if r = 0x130 then 0x69 else if r = 0x178 then 0xFF else if r = 0x386 then 0x3AC else if r = 0x38C then 0x3CC
  else if 0x388 ≤ r ∧ r ≤ 0x38A then r + 0x25 else if r = 0x38E ∨ r = 0x38F then r + 0x3F
  else if 0x400 ≤ r ∧ r ≤ 0x40F then r + 0x50 else if r < 0x100 ∨ 0x17F < r then r + 0x20 else r + 1
def back (r : Int) : Int :=
  if r = 0xFF then 0xFF - 0x178
  else if r < 0x100 ∨ (0x3B1 ≤ r ∧ r ≤ 0x3CB) ∨ (0x430 ≤ r ∧ r ≤ 0x44F) then 0x20
  else if r ≤ 0x17F then 1
  else if r = 0x3AC then 0x3AC - 0x386
  else if 0x3AD ≤ r ∧ r ≤ 0x3AF then 0x25
  else if r = 0x3CC then 0x40
  else if r = 0x3CD ∨ r = 0x3CE then 0x3F
  else 0x50
def upper (r : Int) : Int :=
  if !small r then r
  else if r = 0x131 then 0x49 else if r = 0x17F then 0x53 else if r = 0x3C2 then 0x3A3
  else if great (r - back r) && (lower (r - back r) == r) then r - back r else r
def kindP (r : Int) : Int :=
  if r < 0 ∨ (0xD800 ≤ r ∧ r ≤ 0xDFFF) ∨ 0x10FFFF < r then 0
  else if letter r then 1
  else if 0x300 ≤ r ∧ r ≤ 0x36F then 2
  else if 48 ≤ r ∧ r ≤ 57 then 3
  else if r = 10 ∨ r = 13 then 4
  else if r = 9 ∨ r = 32 ∨ r = 0xA0 ∨ r = 0x202F ∨ r = 0x205F ∨ r = 0x3000 then 5
  else if r = 45 ∨ (0x2010 ≤ r ∧ r ≤ 0x2015) then 6
  else if r = 34 ∨ r = 39 ∨ r = 0xAB ∨ r = 0xBB ∨ r = 0x2039 ∨ r = 0x203A then 7
  else if r = 33 ∨ r = 44 ∨ r = 46 ∨ r = 58 ∨ r = 59 ∨ r = 63 ∨ r = 0xA1 ∨ r = 0xB7 ∨ r = 0xBF ∨ r = 0x2026 then 8
  else if 0x2000 ≤ r ∧ r ≤ 0x200A then 5
  else if 0x2018 ≤ r ∧ r ≤ 0x201F then 7
  else if r < 0x20 ∨ (0x7F ≤ r ∧ r ≤ 0x9F) ∨ (0x200B ≤ r ∧ r ≤ 0x200F) ∨ r = 0xFEFF then 9
  else 10
def kind (r : Int) : Int := kindP r

theorem great_iff (r : Int) : great r = true ↔ greatP r := by simp [great]
theorem small_iff (r : Int) : small r = true ↔ smallP r := by simp [small]

end Go.Proofs.Ythjkafeklflgbaa
namespace Go.Proofs.Ythjkafeklflgbaa
open Go.RowKit Go.Lib Go.Shelf
set_option linter.unusedVariables false
set_option linter.unusedSimpArgs false

theorem and1 (r : Int) (h0 : -2147483648 ≤ r) (h1 : r ≤ 2147483647) : (bits BinOp.and IntKind.i32 r 1 == 0) = evenB r := by
  have hk : bits .and .i32 r 1 = r % 2 := by
    have h1 : (BitVec.ofInt 32 1).toNat = 2 ^ 1 - 1 := by decide
    have key : (BitVec.ofInt 32 r &&& BitVec.ofInt 32 1).toNat = (r % ((2 ^ 32 : Nat) : Int)).toNat % 2 ^ 1 := by
      rw [BitVec.toNat_and, BitVec.toNat_ofInt, h1, Nat.and_two_pow_sub_one_eq_mod]
    show IntKind.i32.wrap ((BitVec.ofInt 32 r &&& BitVec.ofInt 32 1).toNat : Nat) = r % 2
    rw [key, IntKind.wrap_i32]
    omega
  rw [hk, evenB, Bool.eq_iff_iff]
  simp
theorem even_any (r : Int) (w : World) (h0 : -2147483648 ≤ r) (h1 : r ≤ 2147483647) :
    Calls Try.prog 58 #[.int .i32 r] w fun e w' => e = .returned (.bool (evenB r)) ∧ w = w' := by
  go_enter Try.func58, Try.ntmps58
  go_wp2
  go_ret
  exact ⟨ret_bool (and1 r h0 h1), rfl⟩

set_option maxHeartbeats 1000000 in
theorem great_any (r : Int) (w : World) (h0 : -2147483648 ≤ r) (h1 : r ≤ 2147483647) :
    Calls Try.prog 29 #[.int .i32 r] w fun e w' => e = .returned (.bool (great r)) ∧ w = w' := by
  go_enter Try.func29, Try.ntmps29
  go_wp2_with (go_at_call 58; refine (even_any _ _ (by omega) (by omega)).mono ?_; rintro e w' ⟨rfl, rfl⟩)
  all_goals
    go_ret
    refine ⟨ret_bool ?_, rfl⟩
    (go_light; rw [Bool.eq_iff_iff]; (try simp only [great_iff, greatP, evenB, decide_eq_true_eq, bne_iff_ne, ne_eq, Bool.not_eq_true', decide_eq_false_iff_not, Bool.and_eq_true, Bool.or_eq_true, Bool.or_eq_false_iff, Bool.and_eq_false_iff, bne_eq_false_iff_eq, beq_iff_eq, beq_eq_false_iff_ne, Bool.false_eq_true, false_iff, true_iff, iff_true, iff_false, Bool.not_eq_false', Bool.not_true, Bool.not_false] at *); omega)

set_option maxHeartbeats 1000000 in
theorem small_any (r : Int) (w : World) (h0 : -2147483648 ≤ r) (h1 : r ≤ 2147483647) :
    Calls Try.prog 75 #[.int .i32 r] w fun e w' => e = .returned (.bool (small r)) ∧ w = w' := by
  go_enter Try.func75, Try.ntmps75
  go_wp2_with (go_at_call 58; refine (even_any _ _ (by omega) (by omega)).mono ?_; rintro e w' ⟨rfl, rfl⟩)
  all_goals
    go_ret
    refine ⟨ret_bool ?_, rfl⟩
    (go_light; rw [Bool.eq_iff_iff]; (try simp only [small_iff, smallP, evenB, decide_eq_true_eq, bne_iff_ne, ne_eq, Bool.not_eq_true', decide_eq_false_iff_not, Bool.and_eq_true, Bool.or_eq_true, Bool.or_eq_false_iff, Bool.and_eq_false_iff, bne_eq_false_iff_eq, beq_iff_eq, beq_eq_false_iff_ne, Bool.false_eq_true, false_iff, true_iff, iff_true, iff_false, Bool.not_eq_false', Bool.not_true, Bool.not_false] at *); omega)

theorem letter_any (r : Int) (w : World) (h0 : -2147483648 ≤ r) (h1 : r ≤ 2147483647) :
    Calls Try.prog 59 #[.int .i32 r] w fun e w' => e = .returned (.bool (letter r)) ∧ w = w' := by
  go_enter Try.func59, Try.ntmps59
  go_wp2_with (first | (go_at_call 29; refine (great_any _ _ (by omega) (by omega)).mono ?_; rintro e w' ⟨rfl, rfl⟩) | (go_at_call 75; refine (small_any _ _ (by omega) (by omega)).mono ?_; rintro e w' ⟨rfl, rfl⟩))
  all_goals
    go_ret
    refine ⟨ret_bool ?_, rfl⟩
    go_light
    simp_all [letter]

set_option maxHeartbeats 1000000 in
theorem lower_any (r : Int) (w : World) (h0 : -2147483648 ≤ r) (h1 : r ≤ 2147483647) :
    Calls Try.prog 69 #[.int .i32 r] w fun e w' => e = .returned (.int .i32 (lower r)) ∧ w = w' := by
  by_cases hg : great r = true
  · have hb : r ≤ 2000 ∧ 0 ≤ r := by rw [great_iff] at hg; unfold greatP at hg; omega
    have hb1 := hb.1; have hb2 := hb.2; clear hb
    go_enter Try.func69, Try.ntmps69
    go_wp2_with (go_at_call 29; refine (great_any _ _ (by omega) (by omega)).mono ?_; rintro e w' ⟨rfl, rfl⟩)
    all_goals
      go_ret
      refine ⟨ret_int ?_, rfl⟩
      go_light
      grind [lower]
  · go_enter Try.func69, Try.ntmps69
    go_wp2_with (go_at_call 29; refine (great_any _ _ (by omega) (by omega)).mono ?_; rintro e w' ⟨rfl, rfl⟩)
    all_goals
      go_ret
      refine ⟨ret_int ?_, rfl⟩
      go_light
      simp_all [lower]

theorem back_bd (r : Int) : -300 ≤ back r ∧ back r ≤ 300 := by unfold back; (repeat' split) <;> omega
theorem lower_bd (r : Int) (h0 : -2147483648 ≤ r) (h1 : r ≤ 2147483647) : -2147483648 ≤ lower r ∧ lower r ≤ 2147483647 := by
  unfold lower
  by_cases hg : great r = true
  · have hb : r ≤ 2000 ∧ 0 ≤ r := by rw [great_iff] at hg; unfold greatP at hg; omega
    simp only [hg, Bool.not_true, Bool.false_eq_true, if_false]
    (repeat' split) <;> omega
  · simp [hg]; omega

theorem mark_any (r : Int) (w : World) (h0 : -2147483648 ≤ r) (h1 : r ≤ 2147483647) :
    Calls Try.prog 60 #[.int .i32 r] w fun e w' => e = .returned (.bool (decide (0x300 ≤ r ∧ r ≤ 0x36F))) ∧ w = w' := by
  go_enter Try.func60, Try.ntmps60
  go_wp2
  all_goals
    go_ret
    refine ⟨ret_bool ?_, rfl⟩
    (go_light; rw [Bool.eq_iff_iff]; simp only [decide_eq_true_eq, bne_iff_ne, ne_eq, Bool.not_eq_true', decide_eq_false_iff_not, Bool.and_eq_true, Bool.or_eq_true, Bool.or_eq_false_iff, Bool.and_eq_false_iff, bne_eq_false_iff_eq, beq_iff_eq, beq_eq_false_iff_ne, Bool.false_eq_true, false_iff, true_iff, iff_true, iff_false, Bool.not_eq_false', Bool.not_true, Bool.not_false] at *; omega)

end Go.Proofs.Ythjkafeklflgbaa
namespace Go.Proofs.Ythjkafeklflgbaa
open Go.RowKit Go.Lib Go.Shelf
set_option linter.unusedVariables false
set_option linter.unusedSimpArgs false

set_option maxHeartbeats 4000000 in
theorem kind_any (r : Int) (w : World) (h0 : -2147483648 ≤ r) (h1 : r ≤ 2147483647) :
    Calls Try.prog 30 #[.int .i32 r] w fun e w' => e = .returned (.int .i64 (kind r)) ∧ w = w' := by
  go_enter Try.func30, Try.ntmps30
  go_wp2_with (first | (go_at_call 59; refine (letter_any _ _ (by omega) (by omega)).mono ?_; rintro e w' ⟨rfl, rfl⟩) | (go_at_call 60; refine (mark_any _ _ (by omega) (by omega)).mono ?_; rintro e w' ⟨rfl, rfl⟩))
  all_goals
    go_ret
    refine ⟨ret_int ?_, rfl⟩
    go_light
    try simp only [decide_eq_true_eq, bne_iff_ne, ne_eq, Bool.not_eq_true', decide_eq_false_iff_not, Bool.and_eq_true, Bool.or_eq_true, Bool.or_eq_false_iff, Bool.and_eq_false_iff, bne_eq_false_iff_eq, beq_iff_eq, beq_eq_false_iff_ne, Bool.false_eq_true, false_iff, true_iff, iff_true, iff_false, Bool.not_eq_false', Bool.not_true, Bool.not_false] at *
    grind [kind, kindP]

/-- A piece's kind. -/
def kindOf (b : Bool) (r : Int) : Int := if b then 11 else kind r

end Go.Proofs.Ythjkafeklflgbaa
namespace Go.Proofs.Ythjkafeklflgbaa
open Go.RowKit Go.Lib Go.Shelf
set_option linter.unusedVariables false
set_option linter.unusedSimpArgs false

def vowelRunes : List Int := [0x101, 0x103, 0x105, 0x113, 0x115, 0x117, 0x119, 0x11b, 0x129, 0x12b, 0x12d, 0x12f, 0x131, 0x14d, 0x14f, 0x151, 0x153, 0x169, 0x16b, 0x16d, 0x16f, 0x171, 0x173, 0x177,
  0x390, 0x3ac, 0x3ad, 0x3ae, 0x3af, 0x3b0, 0x3b1, 0x3b5, 0x3b7, 0x3b9, 0x3bf, 0x3c5, 0x3c9, 0x3ca, 0x3cb, 0x3cc, 0x3cd, 0x3ce,
  0x430, 0x435, 0x438, 0x43e, 0x443, 0x44b, 0x44d, 0x44e, 0x44f, 0x450, 0x451, 0x454, 0x456, 0x457, 0x45d]
/-- Of a small letter. -/
def vowelL (r : Int) : Bool :=
  if r < 0x80 then decide (r = 97 ∨ r = 101 ∨ r = 105 ∨ r = 111 ∨ r = 117 ∨ r = 121)
  else if r < 0x100 then small r && decide (r ≠ 0xDF ∧ r ≠ 0xE7 ∧ r ≠ 0xF0 ∧ r ≠ 0xF1 ∧ r ≠ 0xFE)
  else vowelRunes.contains r
def vowel (r : Int) : Bool := vowelL (lower r)

def vowelS : ByteArray := ⟨#[196, 129, 196, 131, 196, 133, 196, 147, 196, 149, 196, 151, 196, 153, 196, 155, 196, 169, 196, 171, 196, 173, 196, 175, 196, 177, 197, 141, 197, 143, 197, 145, 197, 147, 197, 169, 197, 171, 197, 173, 197, 175, 197, 177, 197, 179, 197, 183, 206, 144, 206, 172, 206, 173, 206, 174, 206, 175, 206, 176, 206, 177, 206, 181, 206, 183, 206, 185, 206, 191, 207, 133, 207, 137, 207, 138, 207, 139, 207, 140, 207, 141, 207, 142, 208, 176, 208, 181, 208, 184, 208, 190, 209, 131, 209, 139, 209, 141, 209, 142, 209, 143, 209, 144, 209, 145, 209, 148, 209, 150, 209, 151, 209, 157]⟩
theorem vowelS_runes : (pcs vowelS.data.toList).map (fun p => (p.r : Int)) = vowelRunes := by decide +kernel
theorem vowelS_size : vowelS.size = 114 := by decide

theorem vow_low : ∀ n : Nat, n < 128 → 0 < n → ((0 ≤ indexByte [97, 101, 105, 111, 117, 121] (UInt8.ofNat n)) ↔ (n = 97 ∨ n = 101 ∨ n = 105 ∨ n = 111 ∨ n = 117 ∨ n = 121)) := by decide +kernel

theorem vow_lowA (x : Int) (hl : x < 128) (h : 0 ≤ indexByte [97, 101, 105, 111, 117, 121] (UInt8.ofNat (x % 256).toNat)) : decide (0 < x) = vowelL x := by
  unfold vowelL
  rw [if_pos (by omega)]
  by_cases h0 : 0 < x
  · have := (vow_low x.toNat (by omega) (by omega)).1 (by rw [show x.toNat = (x % 256).toNat from by omega]; exact h)
    rw [decide_eq_true h0, eq_comm, decide_eq_true_eq]; omega
  · rw [decide_eq_false h0, eq_comm, decide_eq_false_iff_not]; omega
theorem vow_lowB (x : Int) (hl : x < 128) (h : indexByte [97, 101, 105, 111, 117, 121] (UInt8.ofNat (x % 256).toNat) < 0) : false = vowelL x := by
  unfold vowelL
  rw [if_pos (by omega), eq_comm, decide_eq_false_iff_not]
  intro hc
  have := (vow_low x.toNat (by omega) (by omega)).2 (by omega)
  rw [show x.toNat = (x % 256).toNat from by omega] at this
  omega

/-- A range over vowelS that looks for a rune: at a round's head. -/
def VowRel (w : World) (x : Int) (wr : World) : Prop :=
  ∃ pre pos, pcs vowelS.data.toList = pre ++ pcsFrom pos (vowelS.data.toList.drop pos) ∧ pos ≤ vowelS.size ∧ (∀ p ∈ pre, (Pc.r p : Int) ≠ x) ∧ Below w.heap.size w wr ∧ wr.heap[w.heap.size]? = some (.stringIter vowelS pos)
theorem VowRel.start (w : World) (x : Int) : VowRel w x (w.iter vowelS 0) :=
  ⟨[], 0, rfl, Nat.zero_le _, by simp, (Below.refl _ _).alloc (Nat.le_refl _) _, World.iter_heap w vowelS 0⟩
theorem VowRel.round {P : Program} {w wr : World} {x : Int} (h : VowRel w x wr) :
    (∃ (pos r : Nat) (W1 : World), (∀ ty, (Instr.next (.pointer (some ⟨w.heap.size, 0, none⟩)) true ty).run P wr = .ok (.tuple #[.bool true, .int .i64 pos, .int .i32 r]) W1) ∧ Below w.heap.size w W1 ∧
      (((r : Int) = x ∧ vowelRunes.contains x = true) ∨ ((r : Int) ≠ x ∧ VowRel w x W1 ∧ vowelS.size - W1.iterPos w.heap.size < vowelS.size - wr.iterPos w.heap.size))) ∨
    ((∀ ty, (Instr.next (.pointer (some ⟨w.heap.size, 0, none⟩)) true ty).run P wr = .ok (.tuple #[.bool false]) wr) ∧ Below w.heap.size w wr ∧ vowelRunes.contains x = false) := by
  obtain ⟨pre, pos, hx, hpos, hpre, hb, hit⟩ := h
  by_cases hlt : pos < vowelS.size
  · obtain ⟨r, wd, W1, hn, hf, hit1, hsz, hok, hp, hle, h1⟩ := next_some P wr w.heap.size vowelS pos hit hlt
    have hb1 : Below w.heap.size w W1 := hb.trans (hf.toBelow hb.size (by intro k hk; omega))
    refine .inl ⟨pos, r, W1, hn, hb1, ?_⟩
    rw [hp] at hx
    by_cases he : (r : Int) = x
    · refine .inl ⟨he, ?_⟩
      rw [← vowelS_runes, hx, List.contains_iff_mem, List.mem_map]
      exact ⟨⟨pos, wd, r⟩, by simp, he⟩
    · refine .inr ⟨he, ⟨pre ++ [⟨pos, wd, r⟩], pos + wd, by rw [hx]; simp, hle, ?_, hb1, hit1⟩, ?_⟩
      · intro p hp
        rcases List.mem_append.1 hp with h | h
        · exact hpre p h
        · simp at h; subst h; exact he
      · rw [iterPos_at hit, iterPos_at hit1]; omega
  · obtain ⟨hn, hp⟩ := next_none P wr w.heap.size vowelS pos hit hlt
    refine .inr ⟨hn, hb, ?_⟩
    rw [hp, List.append_nil] at hx
    rw [← vowelS_runes, hx, ← Bool.not_eq_true, List.contains_iff_mem, List.mem_map]
    rintro ⟨p, hm, he⟩
    exact hpre p hm he

end Go.Proofs.Ythjkafeklflgbaa
namespace Go.Proofs.Ythjkafeklflgbaa
open Go.RowKit Go.Lib Go.Shelf
set_option linter.unusedVariables false
set_option linter.unusedSimpArgs false

def inB (r a b : Int) : Bool := decide (a ≤ r ∧ r ≤ b)
theorem rin_any (r a b : Int) (w : World) :
    Calls Try.prog 80 #[.int .i32 r, .int .i32 a, .int .i32 b] w fun e w' => e = .returned (.bool (inB r a b)) ∧ w = w' := by
  go_enter Try.func80, Try.ntmps80
  go_wp2
  all_goals
    go_ret
    refine ⟨ret_bool ?_, rfl⟩
    (go_light; rw [Bool.eq_iff_iff]; simp only [inB, decide_eq_true_eq, bne_iff_ne, ne_eq, Bool.not_eq_true', decide_eq_false_iff_not, Bool.and_eq_true, Bool.or_eq_true, Bool.or_eq_false_iff, Bool.and_eq_false_iff, bne_eq_false_iff_eq, beq_iff_eq, beq_eq_false_iff_ne, Bool.false_eq_true, false_iff, true_iff, iff_true, iff_false, Bool.not_eq_false', Bool.not_true, Bool.not_false] at *; omega)

theorem mod2 (r : Int) (h : 0 ≤ r) : Int.tmod r 2 = r % 2 := by
  rw [Int.tmod_eq_emod_of_nonneg h]

set_option maxHeartbeats 4000000 in
theorem rgreat_any (r : Int) (w : World) (h0 : -2147483648 ≤ r) (h1 : r ≤ 2147483647) :
    Calls Try.prog 79 #[.int .i32 r] w fun e w' => e = .returned (.bool (great r)) ∧ w = w' := by
  by_cases hn : 0 ≤ r
  · go_enter Try.func79, Try.ntmps79
    go_wp2_with (first | (go_at_call 80; refine (rin_any _ _ _ _).mono ?_; rintro e w' ⟨rfl, rfl⟩))
    all_goals
      go_ret
      refine ⟨ret_bool ?_, rfl⟩
      (go_light; rw [Bool.eq_iff_iff, great_iff]; simp only [inB, greatP, decide_eq_true_eq, bne_iff_ne, ne_eq, Bool.not_eq_true', decide_eq_false_iff_not, Bool.and_eq_true, Bool.or_eq_true, Bool.or_eq_false_iff, Bool.and_eq_false_iff, bne_eq_false_iff_eq, beq_iff_eq, beq_eq_false_iff_ne, Bool.false_eq_true, false_iff, true_iff, iff_true, iff_false, Bool.not_eq_false', Bool.not_true, Bool.not_false] at *; omega)
  · have i1 : ∀ a b : Int, 0 ≤ a → inB r a b = false := by intro a b ha; simp [inB]; omega
    have hm : great r = false := by rw [Bool.eq_false_iff]; intro h; rw [great_iff] at h; unfold greatP at h; omega
    go_enter Try.func79, Try.ntmps79
    go_wp2_with (first | (go_at_call 80; refine (rin_any _ _ _ _).mono ?_; rintro e w' ⟨rfl, rfl⟩))
    all_goals
      go_ret
      refine ⟨ret_bool ?_, rfl⟩
      (go_light; rw [Bool.eq_iff_iff, great_iff]; simp only [inB, greatP, decide_eq_true_eq, bne_iff_ne, ne_eq, Bool.not_eq_true', decide_eq_false_iff_not, Bool.and_eq_true, Bool.or_eq_true, Bool.or_eq_false_iff, Bool.and_eq_false_iff, bne_eq_false_iff_eq, beq_iff_eq, beq_eq_false_iff_ne, Bool.false_eq_true, false_iff, true_iff, iff_true, iff_false, Bool.not_eq_false', Bool.not_true, Bool.not_false] at *; omega)


set_option maxHeartbeats 4000000 in
theorem rsmall_any (r : Int) (w : World) (h0 : -2147483648 ≤ r) (h1 : r ≤ 2147483647) :
    Calls Try.prog 83 #[.int .i32 r] w fun e w' => e = .returned (.bool (small r)) ∧ w = w' := by
  by_cases hn : 0 ≤ r
  · go_enter Try.func83, Try.ntmps83
    go_wp2_with (first | (go_at_call 80; refine (rin_any _ _ _ _).mono ?_; rintro e w' ⟨rfl, rfl⟩))
    all_goals
      go_ret
      refine ⟨ret_bool ?_, rfl⟩
      (go_light; rw [Bool.eq_iff_iff, small_iff]; simp only [inB, smallP, decide_eq_true_eq, bne_iff_ne, ne_eq, Bool.not_eq_true', decide_eq_false_iff_not, Bool.and_eq_true, Bool.or_eq_true, Bool.or_eq_false_iff, Bool.and_eq_false_iff, bne_eq_false_iff_eq, beq_iff_eq, beq_eq_false_iff_ne, Bool.false_eq_true, false_iff, true_iff, iff_true, iff_false, Bool.not_eq_false', Bool.not_true, Bool.not_false] at *; omega)
  · have i1 : ∀ a b : Int, 0 ≤ a → inB r a b = false := by intro a b ha; simp [inB]; omega
    have hm : small r = false := by rw [Bool.eq_false_iff]; intro h; rw [small_iff] at h; unfold smallP at h; omega
    go_enter Try.func83, Try.ntmps83
    go_wp2_with (first | (go_at_call 80; refine (rin_any _ _ _ _).mono ?_; rintro e w' ⟨rfl, rfl⟩))
    all_goals
      go_ret
      refine ⟨ret_bool ?_, rfl⟩
      (go_light; rw [Bool.eq_iff_iff, small_iff]; simp only [inB, smallP, decide_eq_true_eq, bne_iff_ne, ne_eq, Bool.not_eq_true', decide_eq_false_iff_not, Bool.and_eq_true, Bool.or_eq_true, Bool.or_eq_false_iff, Bool.and_eq_false_iff, bne_eq_false_iff_eq, beq_iff_eq, beq_eq_false_iff_ne, Bool.false_eq_true, false_iff, true_iff, iff_true, iff_false, Bool.not_eq_false', Bool.not_true, Bool.not_false] at *; omega)

set_option maxHeartbeats 1000000 in
theorem rlower_any (r : Int) (w : World) (h0 : -2147483648 ≤ r) (h1 : r ≤ 2147483647) :
    Calls Try.prog 66 #[.int .i32 r] w fun e w' => e = .returned (.int .i32 (lower r)) ∧ w = w' := by
  by_cases hg : great r = true
  · have hp := (great_iff r).1 hg
    have hb : r ≤ 2000 ∧ 0 ≤ r := by unfold greatP at hp; omega
    have hb1 := hb.1; have hb2 := hb.2; clear hb
    have Hp := Lib.hid hp; clear hp
    go_enter Try.func66, Try.ntmps66
    go_wp2_with (first | (go_at_call 79; refine (rgreat_any _ _ (by omega) (by omega)).mono ?_; rintro e w' ⟨rfl, rfl⟩) | (go_at_call 80; refine (rin_any _ _ _ _).mono ?_; rintro e w' ⟨rfl, rfl⟩))
    all_goals
      go_ret
      refine ⟨ret_int ?_, rfl⟩
      have hp := Hp.out
      clear Hp
      go_light
      unfold greatP at hp
      grind [lower, inB]
  · go_enter Try.func66, Try.ntmps66
    go_wp2_with (first | (go_at_call 79; refine (rgreat_any _ _ (by omega) (by omega)).mono ?_; rintro e w' ⟨rfl, rfl⟩))
    all_goals
      go_ret
      refine ⟨ret_int ?_, rfl⟩
      go_light
      simp_all [lower]

end Go.Proofs.Ythjkafeklflgbaa
namespace Go.Proofs.Ythjkafeklflgbaa
open Go.RowKit Go.Lib Go.Shelf
set_option linter.unusedVariables false
set_option linter.unusedSimpArgs false

theorem vow_true (x : Int) (h : x = 97 ∨ x = 101 ∨ x = 105 ∨ x = 111 ∨ x = 117 ∨ x = 121 ∨ (224 ≤ x ∧ x ≤ 230) ∨ (232 ≤ x ∧ x ≤ 239) ∨ (242 ≤ x ∧ x ≤ 246) ∨ (248 ≤ x ∧ x ≤ 253) ∨ x = 255) : true = vowelL x := by
  unfold vowelL
  by_cases h1 : x < 128
  · rw [if_pos h1, eq_comm, decide_eq_true_eq]; omega
  · rw [if_neg h1, if_pos (by omega), eq_comm, Bool.and_eq_true, decide_eq_true_eq, small_iff]
    unfold smallP; omega
theorem vow_rest (x : Int) (h : ¬ (x = 97 ∨ x = 101 ∨ x = 105 ∨ x = 111 ∨ x = 117 ∨ x = 121 ∨ (224 ≤ x ∧ x ≤ 230) ∨ (232 ≤ x ∧ x ≤ 239) ∨ (242 ≤ x ∧ x ≤ 246) ∨ (248 ≤ x ∧ x ≤ 253) ∨ x = 255)) : vowelL x = vowelRunes.contains x := by
  unfold vowelL
  have hc : x < 256 → vowelRunes.contains x = false := by
    intro hx
    rw [← Bool.not_eq_true, List.contains_iff_mem]
    intro hm
    simp [vowelRunes] at hm
    omega
  by_cases h1 : x < 128
  · rw [if_pos h1, hc (by omega), decide_eq_false_iff_not]; omega
  · rw [if_neg h1]
    by_cases h2 : x < 256
    · rw [if_pos h2, hc h2, Bool.and_eq_false_iff, decide_eq_false_iff_not, ← Bool.not_eq_true, small_iff]
      unfold smallP; omega
    · rw [if_neg h2]

end Go.Proofs.Ythjkafeklflgbaa
namespace Go.Proofs.Ythjkafeklflgbaa
open Go.RowKit Go.Lib
set_option linter.unusedVariables false
set_option linter.unusedSimpArgs false
def ref04_Table_v  : Option (List T_3_string) := some ([(⟨(⟨#[204, 128]⟩ : ByteArray), (⟨#[65, 69, 73, 79, 85, 97, 101, 105, 111, 117, 208, 149, 208, 152, 208, 181, 208, 184]⟩ : ByteArray), (⟨#[195, 128, 195, 136, 195, 140, 195, 146, 195, 153, 195, 160, 195, 168, 195, 172, 195, 178, 195, 185, 208, 128, 208, 141, 209, 144, 209, 157]⟩ : ByteArray)⟩ : T_3_string), (⟨(⟨#[204, 129]⟩ : ByteArray), (⟨#[65, 69, 73, 79, 85, 89, 97, 101, 105, 111, 117, 121, 67, 76, 78, 82, 83, 90, 99, 108, 110, 114, 115, 122]⟩ : ByteArray), (⟨#[195, 129, 195, 137, 195, 141, 195, 147, 195, 154, 195, 157, 195, 161, 195, 169, 195, 173, 195, 179, 195, 186, 195, 189, 196, 134, 196, 185, 197, 131, 197, 148, 197, 154, 197, 185, 196, 135, 196, 186, 197, 132, 197, 149, 197, 155, 197, 186]⟩ : ByteArray)⟩ : T_3_string), (⟨(⟨#[204, 129]⟩ : ByteArray), (⟨#[206, 145, 206, 149, 206, 151, 206, 153, 206, 159, 206, 165, 206, 169, 206, 177, 206, 181, 206, 183, 206, 185, 206, 191, 207, 133, 207, 137, 208, 147, 208, 154, 208, 179, 208, 186, 207, 138, 207, 139]⟩ : ByteArray), (⟨#[206, 134, 206, 136, 206, 137, 206, 138, 206, 140, 206, 142, 206, 143, 206, 172, 206, 173, 206, 174, 206, 175, 207, 140, 207, 141, 207, 142, 208, 131, 208, 140, 209, 147, 209, 156, 206, 144, 206, 176]⟩ : ByteArray)⟩ : T_3_string), (⟨(⟨#[204, 130]⟩ : ByteArray), (⟨#[65, 69, 73, 79, 85, 97, 101, 105, 111, 117, 67, 71, 72, 74, 83, 87, 89, 99, 103, 104, 106, 115, 119, 121]⟩ : ByteArray), (⟨#[195, 130, 195, 138, 195, 142, 195, 148, 195, 155, 195, 162, 195, 170, 195, 174, 195, 180, 195, 187, 196, 136, 196, 156, 196, 164, 196, 180, 197, 156, 197, 180, 197, 182, 196, 137, 196, 157, 196, 165, 196, 181, 197, 157, 197, 181, 197, 183]⟩ : ByteArray)⟩ : T_3_string), (⟨(⟨#[204, 131]⟩ : ByteArray), (⟨#[65, 78, 79, 97, 110, 111, 73, 85, 105, 117]⟩ : ByteArray), (⟨#[195, 131, 195, 145, 195, 149, 195, 163, 195, 177, 195, 181, 196, 168, 197, 168, 196, 169, 197, 169]⟩ : ByteArray)⟩ : T_3_string), (⟨(⟨#[204, 132]⟩ : ByteArray), (⟨#[65, 69, 73, 79, 85, 97, 101, 105, 111, 117]⟩ : ByteArray), (⟨#[196, 128, 196, 146, 196, 170, 197, 140, 197, 170, 196, 129, 196, 147, 196, 171, 197, 141, 197, 171]⟩ : ByteArray)⟩ : T_3_string), (⟨(⟨#[204, 134]⟩ : ByteArray), (⟨#[65, 69, 71, 73, 79, 85, 97, 101, 103, 105, 111, 117, 208, 152, 208, 163, 208, 184, 209, 131]⟩ : ByteArray), (⟨#[196, 130, 196, 148, 196, 158, 196, 172, 197, 142, 197, 172, 196, 131, 196, 149, 196, 159, 196, 173, 197, 143, 197, 173, 208, 153, 208, 142, 208, 185, 209, 158]⟩ : ByteArray)⟩ : T_3_string), (⟨(⟨#[204, 135]⟩ : ByteArray), (⟨#[67, 69, 71, 73, 90, 99, 101, 103, 122]⟩ : ByteArray), (⟨#[196, 138, 196, 150, 196, 160, 196, 176, 197, 187, 196, 139, 196, 151, 196, 161, 197, 188]⟩ : ByteArray)⟩ : T_3_string), (⟨(⟨#[204, 136]⟩ : ByteArray), (⟨#[65, 69, 73, 79, 85, 97, 101, 105, 111, 117, 121, 89, 208, 149, 208, 134, 208, 181, 209, 150, 206, 153, 206, 165, 206, 185, 207, 133]⟩ : ByteArray), (⟨#[195, 132, 195, 139, 195, 143, 195, 150, 195, 156, 195, 164, 195, 171, 195, 175, 195, 182, 195, 188, 195, 191, 197, 184, 208, 129, 208, 135, 209, 145, 209, 151, 206, 170, 206, 171, 207, 138, 207, 139]⟩ : ByteArray)⟩ : T_3_string), (⟨(⟨#[204, 138]⟩ : ByteArray), (⟨#[65, 85, 97, 117]⟩ : ByteArray), (⟨#[195, 133, 197, 174, 195, 165, 197, 175]⟩ : ByteArray)⟩ : T_3_string), (⟨(⟨#[204, 139]⟩ : ByteArray), (⟨#[79, 85, 111, 117]⟩ : ByteArray), (⟨#[197, 144, 197, 176, 197, 145, 197, 177]⟩ : ByteArray)⟩ : T_3_string), (⟨(⟨#[204, 140]⟩ : ByteArray), (⟨#[67, 68, 69, 76, 78, 82, 83, 84, 90, 99, 100, 101, 108, 110, 114, 115, 116, 122]⟩ : ByteArray), (⟨#[196, 140, 196, 142, 196, 154, 196, 189, 197, 135, 197, 152, 197, 160, 197, 164, 197, 189, 196, 141, 196, 143, 196, 155, 196, 190, 197, 136, 197, 153, 197, 161, 197, 165, 197, 190]⟩ : ByteArray)⟩ : T_3_string), (⟨(⟨#[204, 167]⟩ : ByteArray), (⟨#[67, 71, 75, 76, 78, 82, 83, 84, 99, 103, 107, 108, 110, 114, 115, 116]⟩ : ByteArray), (⟨#[195, 135, 196, 162, 196, 182, 196, 187, 197, 133, 197, 150, 197, 158, 197, 162, 195, 167, 196, 163, 196, 183, 196, 188, 197, 134, 197, 151, 197, 159, 197, 163]⟩ : ByteArray)⟩ : T_3_string), (⟨(⟨#[204, 168]⟩ : ByteArray), (⟨#[65, 69, 73, 85, 97, 101, 105, 117]⟩ : ByteArray), (⟨#[196, 132, 196, 152, 196, 174, 197, 178, 196, 133, 196, 153, 196, 175, 197, 179]⟩ : ByteArray)⟩ : T_3_string)] : List T_3_string)
set_option maxRecDepth 100000 in
set_option maxHeartbeats 4000000 in
theorem ref04_Table_fn  {r : (List T_3_string)} (h : ref04_Table_v = some r) : Fn Try.prog 61 [] [] (fun v0 : Value => v0) (fun v0 => [vec enc_T_3_string 85 3 v0 r]) := by
 unfold ref04_Table_v at h
 refine Fn.intro Try.func61 rfl Try.ntmps61 (by simp) ?_
 intro w0 K
 refine TC.seq (TC.region (TO.assign rfl dc rfl (TO.nil (TX.next (TC.seq (TC.region ?_))))))
 refine TO.build (v := .agg #[.string (⟨#[204, 128]⟩ : ByteArray), .string (⟨#[65, 69, 73, 79, 85, 97, 101, 105, 111, 117, 208, 149, 208, 152, 208, 181, 208, 184]⟩ : ByteArray), .string (⟨#[195, 128, 195, 136, 195, 140, 195, 146, 195, 153, 195, 160, 195, 168, 195, 172, 195, 178, 195, 185, 208, 128, 208, 141, 209, 144, 209, 157]⟩ : ByteArray)]) (ps := [(0, .const (.string (⟨#[204, 128]⟩ : ByteArray))), (1, .const (.string (⟨#[65, 69, 73, 79, 85, 97, 101, 105, 111, 117, 208, 149, 208, 152, 208, 181, 208, 184]⟩ : ByteArray))), (2, .const (.string (⟨#[195, 128, 195, 136, 195, 140, 195, 146, 195, 153, 195, 160, 195, 168, 195, 172, 195, 178, 195, 185, 208, 128, 208, 141, 209, 144, 209, 157]⟩ : ByteArray)))]) rfl dc rfl (fun _ => by kernel_rfl) ?_
 refine TO.build (v := .agg #[.string (⟨#[204, 129]⟩ : ByteArray), .string (⟨#[65, 69, 73, 79, 85, 89, 97, 101, 105, 111, 117, 121, 67, 76, 78, 82, 83, 90, 99, 108, 110, 114, 115, 122]⟩ : ByteArray), .string (⟨#[195, 129, 195, 137, 195, 141, 195, 147, 195, 154, 195, 157, 195, 161, 195, 169, 195, 173, 195, 179, 195, 186, 195, 189, 196, 134, 196, 185, 197, 131, 197, 148, 197, 154, 197, 185, 196, 135, 196, 186, 197, 132, 197, 149, 197, 155, 197, 186]⟩ : ByteArray)]) (ps := [(0, .const (.string (⟨#[204, 129]⟩ : ByteArray))), (1, .const (.string (⟨#[65, 69, 73, 79, 85, 89, 97, 101, 105, 111, 117, 121, 67, 76, 78, 82, 83, 90, 99, 108, 110, 114, 115, 122]⟩ : ByteArray))), (2, .const (.string (⟨#[195, 129, 195, 137, 195, 141, 195, 147, 195, 154, 195, 157, 195, 161, 195, 169, 195, 173, 195, 179, 195, 186, 195, 189, 196, 134, 196, 185, 197, 131, 197, 148, 197, 154, 197, 185, 196, 135, 196, 186, 197, 132, 197, 149, 197, 155, 197, 186]⟩ : ByteArray)))]) rfl dc rfl (fun _ => by kernel_rfl) ?_
 refine TO.build (v := .agg #[.string (⟨#[204, 129]⟩ : ByteArray), .string (⟨#[206, 145, 206, 149, 206, 151, 206, 153, 206, 159, 206, 165, 206, 169, 206, 177, 206, 181, 206, 183, 206, 185, 206, 191, 207, 133, 207, 137, 208, 147, 208, 154, 208, 179, 208, 186, 207, 138, 207, 139]⟩ : ByteArray), .string (⟨#[206, 134, 206, 136, 206, 137, 206, 138, 206, 140, 206, 142, 206, 143, 206, 172, 206, 173, 206, 174, 206, 175, 207, 140, 207, 141, 207, 142, 208, 131, 208, 140, 209, 147, 209, 156, 206, 144, 206, 176]⟩ : ByteArray)]) (ps := [(0, .const (.string (⟨#[204, 129]⟩ : ByteArray))), (1, .const (.string (⟨#[206, 145, 206, 149, 206, 151, 206, 153, 206, 159, 206, 165, 206, 169, 206, 177, 206, 181, 206, 183, 206, 185, 206, 191, 207, 133, 207, 137, 208, 147, 208, 154, 208, 179, 208, 186, 207, 138, 207, 139]⟩ : ByteArray))), (2, .const (.string (⟨#[206, 134, 206, 136, 206, 137, 206, 138, 206, 140, 206, 142, 206, 143, 206, 172, 206, 173, 206, 174, 206, 175, 207, 140, 207, 141, 207, 142, 208, 131, 208, 140, 209, 147, 209, 156, 206, 144, 206, 176]⟩ : ByteArray)))]) rfl dc rfl (fun _ => by kernel_rfl) ?_
 refine TO.build (v := .agg #[.string (⟨#[204, 130]⟩ : ByteArray), .string (⟨#[65, 69, 73, 79, 85, 97, 101, 105, 111, 117, 67, 71, 72, 74, 83, 87, 89, 99, 103, 104, 106, 115, 119, 121]⟩ : ByteArray), .string (⟨#[195, 130, 195, 138, 195, 142, 195, 148, 195, 155, 195, 162, 195, 170, 195, 174, 195, 180, 195, 187, 196, 136, 196, 156, 196, 164, 196, 180, 197, 156, 197, 180, 197, 182, 196, 137, 196, 157, 196, 165, 196, 181, 197, 157, 197, 181, 197, 183]⟩ : ByteArray)]) (ps := [(0, .const (.string (⟨#[204, 130]⟩ : ByteArray))), (1, .const (.string (⟨#[65, 69, 73, 79, 85, 97, 101, 105, 111, 117, 67, 71, 72, 74, 83, 87, 89, 99, 103, 104, 106, 115, 119, 121]⟩ : ByteArray))), (2, .const (.string (⟨#[195, 130, 195, 138, 195, 142, 195, 148, 195, 155, 195, 162, 195, 170, 195, 174, 195, 180, 195, 187, 196, 136, 196, 156, 196, 164, 196, 180, 197, 156, 197, 180, 197, 182, 196, 137, 196, 157, 196, 165, 196, 181, 197, 157, 197, 181, 197, 183]⟩ : ByteArray)))]) rfl dc rfl (fun _ => by kernel_rfl) ?_
 refine TO.build (v := .agg #[.string (⟨#[204, 131]⟩ : ByteArray), .string (⟨#[65, 78, 79, 97, 110, 111, 73, 85, 105, 117]⟩ : ByteArray), .string (⟨#[195, 131, 195, 145, 195, 149, 195, 163, 195, 177, 195, 181, 196, 168, 197, 168, 196, 169, 197, 169]⟩ : ByteArray)]) (ps := [(0, .const (.string (⟨#[204, 131]⟩ : ByteArray))), (1, .const (.string (⟨#[65, 78, 79, 97, 110, 111, 73, 85, 105, 117]⟩ : ByteArray))), (2, .const (.string (⟨#[195, 131, 195, 145, 195, 149, 195, 163, 195, 177, 195, 181, 196, 168, 197, 168, 196, 169, 197, 169]⟩ : ByteArray)))]) rfl dc rfl (fun _ => by kernel_rfl) ?_
 refine TO.build (v := .agg #[.string (⟨#[204, 132]⟩ : ByteArray), .string (⟨#[65, 69, 73, 79, 85, 97, 101, 105, 111, 117]⟩ : ByteArray), .string (⟨#[196, 128, 196, 146, 196, 170, 197, 140, 197, 170, 196, 129, 196, 147, 196, 171, 197, 141, 197, 171]⟩ : ByteArray)]) (ps := [(0, .const (.string (⟨#[204, 132]⟩ : ByteArray))), (1, .const (.string (⟨#[65, 69, 73, 79, 85, 97, 101, 105, 111, 117]⟩ : ByteArray))), (2, .const (.string (⟨#[196, 128, 196, 146, 196, 170, 197, 140, 197, 170, 196, 129, 196, 147, 196, 171, 197, 141, 197, 171]⟩ : ByteArray)))]) rfl dc rfl (fun _ => by kernel_rfl) ?_
 refine TO.build (v := .agg #[.string (⟨#[204, 134]⟩ : ByteArray), .string (⟨#[65, 69, 71, 73, 79, 85, 97, 101, 103, 105, 111, 117, 208, 152, 208, 163, 208, 184, 209, 131]⟩ : ByteArray), .string (⟨#[196, 130, 196, 148, 196, 158, 196, 172, 197, 142, 197, 172, 196, 131, 196, 149, 196, 159, 196, 173, 197, 143, 197, 173, 208, 153, 208, 142, 208, 185, 209, 158]⟩ : ByteArray)]) (ps := [(0, .const (.string (⟨#[204, 134]⟩ : ByteArray))), (1, .const (.string (⟨#[65, 69, 71, 73, 79, 85, 97, 101, 103, 105, 111, 117, 208, 152, 208, 163, 208, 184, 209, 131]⟩ : ByteArray))), (2, .const (.string (⟨#[196, 130, 196, 148, 196, 158, 196, 172, 197, 142, 197, 172, 196, 131, 196, 149, 196, 159, 196, 173, 197, 143, 197, 173, 208, 153, 208, 142, 208, 185, 209, 158]⟩ : ByteArray)))]) rfl dc rfl (fun _ => by kernel_rfl) ?_
 refine TO.build (v := .agg #[.string (⟨#[204, 135]⟩ : ByteArray), .string (⟨#[67, 69, 71, 73, 90, 99, 101, 103, 122]⟩ : ByteArray), .string (⟨#[196, 138, 196, 150, 196, 160, 196, 176, 197, 187, 196, 139, 196, 151, 196, 161, 197, 188]⟩ : ByteArray)]) (ps := [(0, .const (.string (⟨#[204, 135]⟩ : ByteArray))), (1, .const (.string (⟨#[67, 69, 71, 73, 90, 99, 101, 103, 122]⟩ : ByteArray))), (2, .const (.string (⟨#[196, 138, 196, 150, 196, 160, 196, 176, 197, 187, 196, 139, 196, 151, 196, 161, 197, 188]⟩ : ByteArray)))]) rfl dc rfl (fun _ => by kernel_rfl) ?_
 refine TO.build (v := .agg #[.string (⟨#[204, 136]⟩ : ByteArray), .string (⟨#[65, 69, 73, 79, 85, 97, 101, 105, 111, 117, 121, 89, 208, 149, 208, 134, 208, 181, 209, 150, 206, 153, 206, 165, 206, 185, 207, 133]⟩ : ByteArray), .string (⟨#[195, 132, 195, 139, 195, 143, 195, 150, 195, 156, 195, 164, 195, 171, 195, 175, 195, 182, 195, 188, 195, 191, 197, 184, 208, 129, 208, 135, 209, 145, 209, 151, 206, 170, 206, 171, 207, 138, 207, 139]⟩ : ByteArray)]) (ps := [(0, .const (.string (⟨#[204, 136]⟩ : ByteArray))), (1, .const (.string (⟨#[65, 69, 73, 79, 85, 97, 101, 105, 111, 117, 121, 89, 208, 149, 208, 134, 208, 181, 209, 150, 206, 153, 206, 165, 206, 185, 207, 133]⟩ : ByteArray))), (2, .const (.string (⟨#[195, 132, 195, 139, 195, 143, 195, 150, 195, 156, 195, 164, 195, 171, 195, 175, 195, 182, 195, 188, 195, 191, 197, 184, 208, 129, 208, 135, 209, 145, 209, 151, 206, 170, 206, 171, 207, 138, 207, 139]⟩ : ByteArray)))]) rfl dc rfl (fun _ => by kernel_rfl) ?_
 refine TO.build (v := .agg #[.string (⟨#[204, 138]⟩ : ByteArray), .string (⟨#[65, 85, 97, 117]⟩ : ByteArray), .string (⟨#[195, 133, 197, 174, 195, 165, 197, 175]⟩ : ByteArray)]) (ps := [(0, .const (.string (⟨#[204, 138]⟩ : ByteArray))), (1, .const (.string (⟨#[65, 85, 97, 117]⟩ : ByteArray))), (2, .const (.string (⟨#[195, 133, 197, 174, 195, 165, 197, 175]⟩ : ByteArray)))]) rfl dc rfl (fun _ => by kernel_rfl) ?_
 refine TO.build (v := .agg #[.string (⟨#[204, 139]⟩ : ByteArray), .string (⟨#[79, 85, 111, 117]⟩ : ByteArray), .string (⟨#[197, 144, 197, 176, 197, 145, 197, 177]⟩ : ByteArray)]) (ps := [(0, .const (.string (⟨#[204, 139]⟩ : ByteArray))), (1, .const (.string (⟨#[79, 85, 111, 117]⟩ : ByteArray))), (2, .const (.string (⟨#[197, 144, 197, 176, 197, 145, 197, 177]⟩ : ByteArray)))]) rfl dc rfl (fun _ => by kernel_rfl) ?_
 refine TO.build (v := .agg #[.string (⟨#[204, 140]⟩ : ByteArray), .string (⟨#[67, 68, 69, 76, 78, 82, 83, 84, 90, 99, 100, 101, 108, 110, 114, 115, 116, 122]⟩ : ByteArray), .string (⟨#[196, 140, 196, 142, 196, 154, 196, 189, 197, 135, 197, 152, 197, 160, 197, 164, 197, 189, 196, 141, 196, 143, 196, 155, 196, 190, 197, 136, 197, 153, 197, 161, 197, 165, 197, 190]⟩ : ByteArray)]) (ps := [(0, .const (.string (⟨#[204, 140]⟩ : ByteArray))), (1, .const (.string (⟨#[67, 68, 69, 76, 78, 82, 83, 84, 90, 99, 100, 101, 108, 110, 114, 115, 116, 122]⟩ : ByteArray))), (2, .const (.string (⟨#[196, 140, 196, 142, 196, 154, 196, 189, 197, 135, 197, 152, 197, 160, 197, 164, 197, 189, 196, 141, 196, 143, 196, 155, 196, 190, 197, 136, 197, 153, 197, 161, 197, 165, 197, 190]⟩ : ByteArray)))]) rfl dc rfl (fun _ => by kernel_rfl) ?_
 refine TO.build (v := .agg #[.string (⟨#[204, 167]⟩ : ByteArray), .string (⟨#[67, 71, 75, 76, 78, 82, 83, 84, 99, 103, 107, 108, 110, 114, 115, 116]⟩ : ByteArray), .string (⟨#[195, 135, 196, 162, 196, 182, 196, 187, 197, 133, 197, 150, 197, 158, 197, 162, 195, 167, 196, 163, 196, 183, 196, 188, 197, 134, 197, 151, 197, 159, 197, 163]⟩ : ByteArray)]) (ps := [(0, .const (.string (⟨#[204, 167]⟩ : ByteArray))), (1, .const (.string (⟨#[67, 71, 75, 76, 78, 82, 83, 84, 99, 103, 107, 108, 110, 114, 115, 116]⟩ : ByteArray))), (2, .const (.string (⟨#[195, 135, 196, 162, 196, 182, 196, 187, 197, 133, 197, 150, 197, 158, 197, 162, 195, 167, 196, 163, 196, 183, 196, 188, 197, 134, 197, 151, 197, 159, 197, 163]⟩ : ByteArray)))]) rfl dc rfl (fun _ => by kernel_rfl) ?_
 refine TO.build (v := .agg #[.string (⟨#[204, 168]⟩ : ByteArray), .string (⟨#[65, 69, 73, 85, 97, 101, 105, 117]⟩ : ByteArray), .string (⟨#[196, 132, 196, 152, 196, 174, 197, 178, 196, 133, 196, 153, 196, 175, 197, 179]⟩ : ByteArray)]) (ps := [(0, .const (.string (⟨#[204, 168]⟩ : ByteArray))), (1, .const (.string (⟨#[65, 69, 73, 85, 97, 101, 105, 117]⟩ : ByteArray))), (2, .const (.string (⟨#[196, 132, 196, 152, 196, 174, 197, 178, 196, 133, 196, 153, 196, 175, 197, 179]⟩ : ByteArray)))]) rfl dc rfl (fun _ => by kernel_rfl) ?_
 refine TO.buildSlice (cs := [.string (⟨#[204, 128]⟩ : ByteArray), .string (⟨#[65, 69, 73, 79, 85, 97, 101, 105, 111, 117, 208, 149, 208, 152, 208, 181, 208, 184]⟩ : ByteArray), .string (⟨#[195, 128, 195, 136, 195, 140, 195, 146, 195, 153, 195, 160, 195, 168, 195, 172, 195, 178, 195, 185, 208, 128, 208, 141, 209, 144, 209, 157]⟩ : ByteArray), .string (⟨#[204, 129]⟩ : ByteArray), .string (⟨#[65, 69, 73, 79, 85, 89, 97, 101, 105, 111, 117, 121, 67, 76, 78, 82, 83, 90, 99, 108, 110, 114, 115, 122]⟩ : ByteArray), .string (⟨#[195, 129, 195, 137, 195, 141, 195, 147, 195, 154, 195, 157, 195, 161, 195, 169, 195, 173, 195, 179, 195, 186, 195, 189, 196, 134, 196, 185, 197, 131, 197, 148, 197, 154, 197, 185, 196, 135, 196, 186, 197, 132, 197, 149, 197, 155, 197, 186]⟩ : ByteArray), .string (⟨#[204, 129]⟩ : ByteArray), .string (⟨#[206, 145, 206, 149, 206, 151, 206, 153, 206, 159, 206, 165, 206, 169, 206, 177, 206, 181, 206, 183, 206, 185, 206, 191, 207, 133, 207, 137, 208, 147, 208, 154, 208, 179, 208, 186, 207, 138, 207, 139]⟩ : ByteArray), .string (⟨#[206, 134, 206, 136, 206, 137, 206, 138, 206, 140, 206, 142, 206, 143, 206, 172, 206, 173, 206, 174, 206, 175, 207, 140, 207, 141, 207, 142, 208, 131, 208, 140, 209, 147, 209, 156, 206, 144, 206, 176]⟩ : ByteArray), .string (⟨#[204, 130]⟩ : ByteArray), .string (⟨#[65, 69, 73, 79, 85, 97, 101, 105, 111, 117, 67, 71, 72, 74, 83, 87, 89, 99, 103, 104, 106, 115, 119, 121]⟩ : ByteArray), .string (⟨#[195, 130, 195, 138, 195, 142, 195, 148, 195, 155, 195, 162, 195, 170, 195, 174, 195, 180, 195, 187, 196, 136, 196, 156, 196, 164, 196, 180, 197, 156, 197, 180, 197, 182, 196, 137, 196, 157, 196, 165, 196, 181, 197, 157, 197, 181, 197, 183]⟩ : ByteArray), .string (⟨#[204, 131]⟩ : ByteArray), .string (⟨#[65, 78, 79, 97, 110, 111, 73, 85, 105, 117]⟩ : ByteArray), .string (⟨#[195, 131, 195, 145, 195, 149, 195, 163, 195, 177, 195, 181, 196, 168, 197, 168, 196, 169, 197, 169]⟩ : ByteArray), .string (⟨#[204, 132]⟩ : ByteArray), .string (⟨#[65, 69, 73, 79, 85, 97, 101, 105, 111, 117]⟩ : ByteArray), .string (⟨#[196, 128, 196, 146, 196, 170, 197, 140, 197, 170, 196, 129, 196, 147, 196, 171, 197, 141, 197, 171]⟩ : ByteArray), .string (⟨#[204, 134]⟩ : ByteArray), .string (⟨#[65, 69, 71, 73, 79, 85, 97, 101, 103, 105, 111, 117, 208, 152, 208, 163, 208, 184, 209, 131]⟩ : ByteArray), .string (⟨#[196, 130, 196, 148, 196, 158, 196, 172, 197, 142, 197, 172, 196, 131, 196, 149, 196, 159, 196, 173, 197, 143, 197, 173, 208, 153, 208, 142, 208, 185, 209, 158]⟩ : ByteArray), .string (⟨#[204, 135]⟩ : ByteArray), .string (⟨#[67, 69, 71, 73, 90, 99, 101, 103, 122]⟩ : ByteArray), .string (⟨#[196, 138, 196, 150, 196, 160, 196, 176, 197, 187, 196, 139, 196, 151, 196, 161, 197, 188]⟩ : ByteArray), .string (⟨#[204, 136]⟩ : ByteArray), .string (⟨#[65, 69, 73, 79, 85, 97, 101, 105, 111, 117, 121, 89, 208, 149, 208, 134, 208, 181, 209, 150, 206, 153, 206, 165, 206, 185, 207, 133]⟩ : ByteArray), .string (⟨#[195, 132, 195, 139, 195, 143, 195, 150, 195, 156, 195, 164, 195, 171, 195, 175, 195, 182, 195, 188, 195, 191, 197, 184, 208, 129, 208, 135, 209, 145, 209, 151, 206, 170, 206, 171, 207, 138, 207, 139]⟩ : ByteArray), .string (⟨#[204, 138]⟩ : ByteArray), .string (⟨#[65, 85, 97, 117]⟩ : ByteArray), .string (⟨#[195, 133, 197, 174, 195, 165, 197, 175]⟩ : ByteArray), .string (⟨#[204, 139]⟩ : ByteArray), .string (⟨#[79, 85, 111, 117]⟩ : ByteArray), .string (⟨#[197, 144, 197, 176, 197, 145, 197, 177]⟩ : ByteArray), .string (⟨#[204, 140]⟩ : ByteArray), .string (⟨#[67, 68, 69, 76, 78, 82, 83, 84, 90, 99, 100, 101, 108, 110, 114, 115, 116, 122]⟩ : ByteArray), .string (⟨#[196, 140, 196, 142, 196, 154, 196, 189, 197, 135, 197, 152, 197, 160, 197, 164, 197, 189, 196, 141, 196, 143, 196, 155, 196, 190, 197, 136, 197, 153, 197, 161, 197, 165, 197, 190]⟩ : ByteArray), .string (⟨#[204, 167]⟩ : ByteArray), .string (⟨#[67, 71, 75, 76, 78, 82, 83, 84, 99, 103, 107, 108, 110, 114, 115, 116]⟩ : ByteArray), .string (⟨#[195, 135, 196, 162, 196, 182, 196, 187, 197, 133, 197, 150, 197, 158, 197, 162, 195, 167, 196, 163, 196, 183, 196, 188, 197, 134, 197, 151, 197, 159, 197, 163]⟩ : ByteArray), .string (⟨#[204, 168]⟩ : ByteArray), .string (⟨#[65, 69, 73, 85, 97, 101, 105, 117]⟩ : ByteArray), .string (⟨#[196, 132, 196, 152, 196, 174, 197, 178, 196, 133, 196, 153, 196, 175, 197, 179]⟩ : ByteArray)]) (te := 85) (ps := [(0, .tmp 1), (1, .tmp 2), (2, .tmp 3), (3, .tmp 4), (4, .tmp 5), (5, .tmp 6), (6, .tmp 7), (7, .tmp 8), (8, .tmp 9), (9, .tmp 10), (10, .tmp 11), (11, .tmp 12), (12, .tmp 13), (13, .tmp 14)]) rfl dc rfl (fun _ => by kernel_rfl) (fun b1 => ?_)
 refine TO.assign rfl dc rfl (TO.nil (TX.next (TC.ret (TX.toVec ([(⟨(⟨#[204, 128]⟩ : ByteArray), (⟨#[65, 69, 73, 79, 85, 97, 101, 105, 111, 117, 208, 149, 208, 152, 208, 181, 208, 184]⟩ : ByteArray), (⟨#[195, 128, 195, 136, 195, 140, 195, 146, 195, 153, 195, 160, 195, 168, 195, 172, 195, 178, 195, 185, 208, 128, 208, 141, 209, 144, 209, 157]⟩ : ByteArray)⟩ : T_3_string), (⟨(⟨#[204, 129]⟩ : ByteArray), (⟨#[65, 69, 73, 79, 85, 89, 97, 101, 105, 111, 117, 121, 67, 76, 78, 82, 83, 90, 99, 108, 110, 114, 115, 122]⟩ : ByteArray), (⟨#[195, 129, 195, 137, 195, 141, 195, 147, 195, 154, 195, 157, 195, 161, 195, 169, 195, 173, 195, 179, 195, 186, 195, 189, 196, 134, 196, 185, 197, 131, 197, 148, 197, 154, 197, 185, 196, 135, 196, 186, 197, 132, 197, 149, 197, 155, 197, 186]⟩ : ByteArray)⟩ : T_3_string), (⟨(⟨#[204, 129]⟩ : ByteArray), (⟨#[206, 145, 206, 149, 206, 151, 206, 153, 206, 159, 206, 165, 206, 169, 206, 177, 206, 181, 206, 183, 206, 185, 206, 191, 207, 133, 207, 137, 208, 147, 208, 154, 208, 179, 208, 186, 207, 138, 207, 139]⟩ : ByteArray), (⟨#[206, 134, 206, 136, 206, 137, 206, 138, 206, 140, 206, 142, 206, 143, 206, 172, 206, 173, 206, 174, 206, 175, 207, 140, 207, 141, 207, 142, 208, 131, 208, 140, 209, 147, 209, 156, 206, 144, 206, 176]⟩ : ByteArray)⟩ : T_3_string), (⟨(⟨#[204, 130]⟩ : ByteArray), (⟨#[65, 69, 73, 79, 85, 97, 101, 105, 111, 117, 67, 71, 72, 74, 83, 87, 89, 99, 103, 104, 106, 115, 119, 121]⟩ : ByteArray), (⟨#[195, 130, 195, 138, 195, 142, 195, 148, 195, 155, 195, 162, 195, 170, 195, 174, 195, 180, 195, 187, 196, 136, 196, 156, 196, 164, 196, 180, 197, 156, 197, 180, 197, 182, 196, 137, 196, 157, 196, 165, 196, 181, 197, 157, 197, 181, 197, 183]⟩ : ByteArray)⟩ : T_3_string), (⟨(⟨#[204, 131]⟩ : ByteArray), (⟨#[65, 78, 79, 97, 110, 111, 73, 85, 105, 117]⟩ : ByteArray), (⟨#[195, 131, 195, 145, 195, 149, 195, 163, 195, 177, 195, 181, 196, 168, 197, 168, 196, 169, 197, 169]⟩ : ByteArray)⟩ : T_3_string), (⟨(⟨#[204, 132]⟩ : ByteArray), (⟨#[65, 69, 73, 79, 85, 97, 101, 105, 111, 117]⟩ : ByteArray), (⟨#[196, 128, 196, 146, 196, 170, 197, 140, 197, 170, 196, 129, 196, 147, 196, 171, 197, 141, 197, 171]⟩ : ByteArray)⟩ : T_3_string), (⟨(⟨#[204, 134]⟩ : ByteArray), (⟨#[65, 69, 71, 73, 79, 85, 97, 101, 103, 105, 111, 117, 208, 152, 208, 163, 208, 184, 209, 131]⟩ : ByteArray), (⟨#[196, 130, 196, 148, 196, 158, 196, 172, 197, 142, 197, 172, 196, 131, 196, 149, 196, 159, 196, 173, 197, 143, 197, 173, 208, 153, 208, 142, 208, 185, 209, 158]⟩ : ByteArray)⟩ : T_3_string), (⟨(⟨#[204, 135]⟩ : ByteArray), (⟨#[67, 69, 71, 73, 90, 99, 101, 103, 122]⟩ : ByteArray), (⟨#[196, 138, 196, 150, 196, 160, 196, 176, 197, 187, 196, 139, 196, 151, 196, 161, 197, 188]⟩ : ByteArray)⟩ : T_3_string), (⟨(⟨#[204, 136]⟩ : ByteArray), (⟨#[65, 69, 73, 79, 85, 97, 101, 105, 111, 117, 121, 89, 208, 149, 208, 134, 208, 181, 209, 150, 206, 153, 206, 165, 206, 185, 207, 133]⟩ : ByteArray), (⟨#[195, 132, 195, 139, 195, 143, 195, 150, 195, 156, 195, 164, 195, 171, 195, 175, 195, 182, 195, 188, 195, 191, 197, 184, 208, 129, 208, 135, 209, 145, 209, 151, 206, 170, 206, 171, 207, 138, 207, 139]⟩ : ByteArray)⟩ : T_3_string), (⟨(⟨#[204, 138]⟩ : ByteArray), (⟨#[65, 85, 97, 117]⟩ : ByteArray), (⟨#[195, 133, 197, 174, 195, 165, 197, 175]⟩ : ByteArray)⟩ : T_3_string), (⟨(⟨#[204, 139]⟩ : ByteArray), (⟨#[79, 85, 111, 117]⟩ : ByteArray), (⟨#[197, 144, 197, 176, 197, 145, 197, 177]⟩ : ByteArray)⟩ : T_3_string), (⟨(⟨#[204, 140]⟩ : ByteArray), (⟨#[67, 68, 69, 76, 78, 82, 83, 84, 90, 99, 100, 101, 108, 110, 114, 115, 116, 122]⟩ : ByteArray), (⟨#[196, 140, 196, 142, 196, 154, 196, 189, 197, 135, 197, 152, 197, 160, 197, 164, 197, 189, 196, 141, 196, 143, 196, 155, 196, 190, 197, 136, 197, 153, 197, 161, 197, 165, 197, 190]⟩ : ByteArray)⟩ : T_3_string), (⟨(⟨#[204, 167]⟩ : ByteArray), (⟨#[67, 71, 75, 76, 78, 82, 83, 84, 99, 103, 107, 108, 110, 114, 115, 116]⟩ : ByteArray), (⟨#[195, 135, 196, 162, 196, 182, 196, 187, 197, 133, 197, 150, 197, 158, 197, 162, 195, 167, 196, 163, 196, 183, 196, 188, 197, 134, 197, 151, 197, 159, 197, 163]⟩ : ByteArray)⟩ : T_3_string), (⟨(⟨#[204, 168]⟩ : ByteArray), (⟨#[65, 69, 73, 85, 97, 101, 105, 117]⟩ : ByteArray), (⟨#[196, 132, 196, 152, 196, 174, 197, 178, 196, 133, 196, 153, 196, 175, 197, 179]⟩ : ByteArray)⟩ : T_3_string)] : List T_3_string) (k := 0) rfl enc_T_3_string_len rfl (show 14 ≤ maxLen by decide) ?_))))
 show TX _ _ _ _ _ _ _ [vec enc_T_3_string 85 3 (.slice (some ⟨b1, 0, none⟩) 14 14) ([(⟨(⟨#[204, 128]⟩ : ByteArray), (⟨#[65, 69, 73, 79, 85, 97, 101, 105, 111, 117, 208, 149, 208, 152, 208, 181, 208, 184]⟩ : ByteArray), (⟨#[195, 128, 195, 136, 195, 140, 195, 146, 195, 153, 195, 160, 195, 168, 195, 172, 195, 178, 195, 185, 208, 128, 208, 141, 209, 144, 209, 157]⟩ : ByteArray)⟩ : T_3_string), (⟨(⟨#[204, 129]⟩ : ByteArray), (⟨#[65, 69, 73, 79, 85, 89, 97, 101, 105, 111, 117, 121, 67, 76, 78, 82, 83, 90, 99, 108, 110, 114, 115, 122]⟩ : ByteArray), (⟨#[195, 129, 195, 137, 195, 141, 195, 147, 195, 154, 195, 157, 195, 161, 195, 169, 195, 173, 195, 179, 195, 186, 195, 189, 196, 134, 196, 185, 197, 131, 197, 148, 197, 154, 197, 185, 196, 135, 196, 186, 197, 132, 197, 149, 197, 155, 197, 186]⟩ : ByteArray)⟩ : T_3_string), (⟨(⟨#[204, 129]⟩ : ByteArray), (⟨#[206, 145, 206, 149, 206, 151, 206, 153, 206, 159, 206, 165, 206, 169, 206, 177, 206, 181, 206, 183, 206, 185, 206, 191, 207, 133, 207, 137, 208, 147, 208, 154, 208, 179, 208, 186, 207, 138, 207, 139]⟩ : ByteArray), (⟨#[206, 134, 206, 136, 206, 137, 206, 138, 206, 140, 206, 142, 206, 143, 206, 172, 206, 173, 206, 174, 206, 175, 207, 140, 207, 141, 207, 142, 208, 131, 208, 140, 209, 147, 209, 156, 206, 144, 206, 176]⟩ : ByteArray)⟩ : T_3_string), (⟨(⟨#[204, 130]⟩ : ByteArray), (⟨#[65, 69, 73, 79, 85, 97, 101, 105, 111, 117, 67, 71, 72, 74, 83, 87, 89, 99, 103, 104, 106, 115, 119, 121]⟩ : ByteArray), (⟨#[195, 130, 195, 138, 195, 142, 195, 148, 195, 155, 195, 162, 195, 170, 195, 174, 195, 180, 195, 187, 196, 136, 196, 156, 196, 164, 196, 180, 197, 156, 197, 180, 197, 182, 196, 137, 196, 157, 196, 165, 196, 181, 197, 157, 197, 181, 197, 183]⟩ : ByteArray)⟩ : T_3_string), (⟨(⟨#[204, 131]⟩ : ByteArray), (⟨#[65, 78, 79, 97, 110, 111, 73, 85, 105, 117]⟩ : ByteArray), (⟨#[195, 131, 195, 145, 195, 149, 195, 163, 195, 177, 195, 181, 196, 168, 197, 168, 196, 169, 197, 169]⟩ : ByteArray)⟩ : T_3_string), (⟨(⟨#[204, 132]⟩ : ByteArray), (⟨#[65, 69, 73, 79, 85, 97, 101, 105, 111, 117]⟩ : ByteArray), (⟨#[196, 128, 196, 146, 196, 170, 197, 140, 197, 170, 196, 129, 196, 147, 196, 171, 197, 141, 197, 171]⟩ : ByteArray)⟩ : T_3_string), (⟨(⟨#[204, 134]⟩ : ByteArray), (⟨#[65, 69, 71, 73, 79, 85, 97, 101, 103, 105, 111, 117, 208, 152, 208, 163, 208, 184, 209, 131]⟩ : ByteArray), (⟨#[196, 130, 196, 148, 196, 158, 196, 172, 197, 142, 197, 172, 196, 131, 196, 149, 196, 159, 196, 173, 197, 143, 197, 173, 208, 153, 208, 142, 208, 185, 209, 158]⟩ : ByteArray)⟩ : T_3_string), (⟨(⟨#[204, 135]⟩ : ByteArray), (⟨#[67, 69, 71, 73, 90, 99, 101, 103, 122]⟩ : ByteArray), (⟨#[196, 138, 196, 150, 196, 160, 196, 176, 197, 187, 196, 139, 196, 151, 196, 161, 197, 188]⟩ : ByteArray)⟩ : T_3_string), (⟨(⟨#[204, 136]⟩ : ByteArray), (⟨#[65, 69, 73, 79, 85, 97, 101, 105, 111, 117, 121, 89, 208, 149, 208, 134, 208, 181, 209, 150, 206, 153, 206, 165, 206, 185, 207, 133]⟩ : ByteArray), (⟨#[195, 132, 195, 139, 195, 143, 195, 150, 195, 156, 195, 164, 195, 171, 195, 175, 195, 182, 195, 188, 195, 191, 197, 184, 208, 129, 208, 135, 209, 145, 209, 151, 206, 170, 206, 171, 207, 138, 207, 139]⟩ : ByteArray)⟩ : T_3_string), (⟨(⟨#[204, 138]⟩ : ByteArray), (⟨#[65, 85, 97, 117]⟩ : ByteArray), (⟨#[195, 133, 197, 174, 195, 165, 197, 175]⟩ : ByteArray)⟩ : T_3_string), (⟨(⟨#[204, 139]⟩ : ByteArray), (⟨#[79, 85, 111, 117]⟩ : ByteArray), (⟨#[197, 144, 197, 176, 197, 145, 197, 177]⟩ : ByteArray)⟩ : T_3_string), (⟨(⟨#[204, 140]⟩ : ByteArray), (⟨#[67, 68, 69, 76, 78, 82, 83, 84, 90, 99, 100, 101, 108, 110, 114, 115, 116, 122]⟩ : ByteArray), (⟨#[196, 140, 196, 142, 196, 154, 196, 189, 197, 135, 197, 152, 197, 160, 197, 164, 197, 189, 196, 141, 196, 143, 196, 155, 196, 190, 197, 136, 197, 153, 197, 161, 197, 165, 197, 190]⟩ : ByteArray)⟩ : T_3_string), (⟨(⟨#[204, 167]⟩ : ByteArray), (⟨#[67, 71, 75, 76, 78, 82, 83, 84, 99, 103, 107, 108, 110, 114, 115, 116]⟩ : ByteArray), (⟨#[195, 135, 196, 162, 196, 182, 196, 187, 197, 133, 197, 150, 197, 158, 197, 162, 195, 167, 196, 163, 196, 183, 196, 188, 197, 134, 197, 151, 197, 159, 197, 163]⟩ : ByteArray)⟩ : T_3_string), (⟨(⟨#[204, 168]⟩ : ByteArray), (⟨#[65, 69, 73, 85, 97, 101, 105, 117]⟩ : ByteArray), (⟨#[196, 132, 196, 152, 196, 174, 197, 178, 196, 133, 196, 153, 196, 175, 197, 179]⟩ : ByteArray)⟩ : T_3_string)] : List T_3_string)]
 cases h
 exact TX.fin (rs := [.tmp 0]) (.slice (some ⟨b1, 0, none⟩) 14 14) (.inl rfl) Try.results61 (.cons (.tmp rfl) .nil) rfl (Splits.of [0] kr rfl)
def ref04_Join_s2 (base1 : Int) (mark1 : Int) (j2 : Option Int) (q1 : T_3_string) (ag2 : Int → Option Int) (x6 : Int) : Option Int := bcond (decide ((x6 : Int) < ((runesOf q1.e1).length : Int))) ( joinK (fun (j3 : Option Int) => andThen (getO (runesOf q1.e1) x6) fun (q2 : Int) => bcond ((q2 : Int) == base1) ( grd (q1.e0.size ≤ 1073741824) <| andThen (getO (runesOf q1.e0) 0) fun (q3 : Int) => bcond ((q3 : Int) == mark1) ( andThen (getO (runesOf q1.e2) x6) fun (q4 : Int) => some q4
) ( j3
)
) ( j3
)
) ( grd (I64 (x6 + 1)) <| ag2 (x6 + 1)
)
) ( j2
)
def ref04_Join_s1 (base1 : Int) (mark1 : Int) (j1 : Option Int) (r1 : (List T_3_string)) (ag1 : Int → Option Int) (x3 : Int) : Option Int := bcond (decide ((x3 : Int) < (r1.length : Int))) ( joinK (fun (j2 : Option Int) => andThen (getO r1 x3) fun (q1 : T_3_string) => grd (q1.e1.size ≤ 1073741824) <| grd (q1.e2.size ≤ 1073741824) <| loopG (fun _ => none) (ref04_Join_s2 base1 mark1 j2 q1) fuel 0
) ( grd (I64 (x3 + 1)) <| ag1 (x3 + 1)
)
) ( j1
)
def ref04_Join_v (base1 : Int) (mark1 : Int) : Option Int := joinK (fun (j1 : Option Int) => andThen (ref04_Table_v) fun (r1 : (List T_3_string)) => loopG (fun _ => none) (ref04_Join_s1 base1 mark1 j1 r1) fuel 0
) ( some 0
)
set_option maxRecDepth 100000 in
set_option maxHeartbeats 4000000 in
theorem ref04_Join_fn {base1 : Int} {mark1 : Int} {r : Int} (h : ref04_Join_v base1 mark1 = some r) : FnP Try.prog 34 [.int .i32 base1, .int .i32 mark1] (.int .i32 r) := by
 unfold ref04_Join_v at h
 refine FnP.intro Try.func34 rfl Try.ntmps34 (by simp) ?_
 intro w0 K
 obtain ⟨j1, hj1, h⟩ := joinE h
 refine TC.cutN (β := Unit) 1 rfl (fun b => j1 = some r) (fun b => []) (fun b => []) (fun b => []) (fun cut => ?_) ?_
 ·
  refine TC.seq (TC.region (TO.assign rfl dc rfl (TO.nil (TX.next (cut (TC.seq (TC.region ?_)))))))
  obtain ⟨r1, hq1, h⟩ := andE h
  refine TO.call (vs := []) rfl dc rfl rfl rfl en_61 (ref04_Table_fn hq1) Splits.nil ?_
  rintro v1
  show TO _ _ _ _ _ _ _ _ _ _ [vec enc_T_3_string 85 3 v1 r1]
  refine TO.lenVec (k := 0) rfl dc rfl rfl Try.underlying83 (TO.move rfl dc rfl (TO.nil (TX.next (TC.block ?_))))
  refine TC.loopD (β := Nat × Int) (fun b => loopG (fun _ => none) (ref04_Join_s1 base1 mark1 j1 r1) b.1 b.2 = some r) (fun b => []) (fun b => [(0, .int .i32 base1), (1, .int .i32 mark1), (10, v1), (11, .int .i64 (r1.length : Int)), (12, .int .i64 b.2)]) (fun b => [vec enc_T_3_string 85 3 v1 r1]) (fun b => b.1) (fuel, 0) h rfl (Sbs.cons rfl (Sbs.cons rfl (Sbs.cons rfl (Sbs.cons rfl (Sbs.cons rfl (Sbs.nil)))))) (Splits.of [0] kr rfl) ?_
  rintro ⟨n1, x3⟩ h
  cases n1 with
  | zero => exact noneE h
  | succ n1 =>
   obtain ⟨ag1, hag1⟩ : ∃ ag, ag = loopG (fun _ => none) (ref04_Join_s1 base1 mark1 j1 r1) n1 := ⟨_, rfl⟩
   have h : ref04_Join_s1 base1 mark1 j1 r1 ag1 x3 = some r := by rw [hag1]; exact h
   unfold ref04_Join_s1 at h
   show TC _ _ _ _ _ ([]) _ _ [(0, .int .i32 base1), (1, .int .i32 mark1), (10, v1), (11, .int .i64 (r1.length : Int)), (12, .int .i64 x3)] [vec enc_T_3_string 85 3 v1 r1]
   refine TC.seq (TC.region (TO.bin rfl dc rfl rfl bin_lss (TO.nil (TX.next (TC.seq ?_)))))
   refine TC.condB rfl (fun hb1 => ?_) (fun hb1 => ?_)
   ·
    have h := condT hb1 h
    refine TC.skip (TX.next ?_)
    obtain ⟨j2, hj2, h⟩ := joinE h
    refine TC.cutN (β := Unit) 0 rfl (fun b => j2 = some r) (fun b => []) (fun b => [(0, .int .i32 base1), (1, .int .i32 mark1), (10, v1), (11, .int .i64 (r1.length : Int)), (12, .int .i64 x3)]) (fun b => [vec enc_T_3_string 85 3 v1 r1]) (fun cut => ?_) ?_
    ·
     refine cut (TC.block (TC.seq (TC.region ?_)))
     obtain ⟨q1, hq2, h⟩ := andE h
     refine TO.indexVecI (k := 0) hq2 Try.underlying83 sz_85 rfl dc rfl rfl rfl rfl (TO.loadsVec (i := (x3 : Int).toNat) (j := 0) (k := 0) (q := q1) (cs := [.string q1.e0, .string q1.e1, .string q1.e2]) rw_85 enc_T_3_string_len rfl dc rfl rfl (getO_get hq2) rfl rfl rfl ?_)
     refine TO.alloc zr_85 rfl dc (fun b1 => ?_)
     refine TO.stores (k := 1) (vs := [.string q1.e0, .string q1.e1, .string q1.e2]) (l' := [.string q1.e0, .string q1.e1, .string q1.e2]) sz_85 rfl rfl rfl rfl rfl (show _ ≤ _ by simp) rfl rfl ?_
     show TO _ _ _ _ _ _ _ _ _ _ [vec enc_T_3_string 85 3 v1 r1, cells b1 [.string q1.e0, .string q1.e1, .string q1.e2] 85]
     refine TO.nil (TX.next (TC.seq ?_))
     obtain ⟨hg1, h⟩ := grdE h
     obtain ⟨hg2, h⟩ := grdE h
     refine TC.pad 2 ?_
     show TC _ _ _ _ _ _ _ _ _ [vec enc_T_3_string 85 3 v1 r1, cells b1 [.string q1.e0, .string q1.e1, .string q1.e2] 85, emp, emp]
     refine let vals1 : (Value × Value) → List (Nat × Nat × Value) := fun b => [(0, 16, .pointer (some ⟨b1, 1, none⟩)), (1, 17, .string q1.e1), (2, 18, b.1), (3, 19, .pointer (some ⟨b1, 2, none⟩)), (4, 20, .string q1.e2), (5, 21, b.2), (6, 7, b.1)]; let LL1 : (Nat → Prop) → (Value × Value) → List Asn := fun D b => [vec enc_T_3_string 85 3 v1 r1, cells b1 [.string q1.e0, .string q1.e1, .string q1.e2] 85, eD D emp [(2, vec (encI (.i32)) 21 1 b.1 (runesOf q1.e1))], eD D emp [(5, vec (encI (.i32)) 21 1 b.2 (runesOf q1.e2))]]; ?_
     refine TC.drawG (β := Value × Value) 7 ((.slice none 0 0 : Value), (.slice none 0 0 : Value)) vals1 LL1 mixed kr kr dc (fun _ => rfl) (cons_eq rfl (cons_eq rfl (cons_eq eD_none (cons_eq eD_none rfl)))) (DrawG.cons ?_ (DrawG.cons ?_ (DrawG.cons ?_ (DrawG.cons ?_ (DrawG.cons ?_ (DrawG.cons ?_ (DrawG.cons ?_ DrawG.nil))))))) ?_
     ·
      intro D b hn hd hcl
      obtain ⟨v2, v3⟩ := b
      refine TO.rewL (L' := [vec enc_T_3_string 85 3 v1 r1, cells b1 [.string q1.e0, .string q1.e1, .string q1.e2] 85, emp, eD D emp [(5, vec (encI (.i32)) 21 1 v3 (runesOf q1.e2))]]) (cons_eq rfl (cons_eq rfl (cons_eq (eD_miss (fun hD => hn (hcl 1 _ rfl (hcl 2 _ rfl hD 1 dc) 0 dc)) eD_nil) (cons_eq rfl rfl)))) ?_
      refine TO.indexArr dc Try.underlying85 sz_9 rfl dc (dl_old (by rfl) rfl) rfl (show _ = 1 from rfl) ?_
      exact TX.valG (v2, v3) 0 (by rfl) (by rfl) rfl (dl_cons_eq (fun _ => rfl) (dl_cons_eq (fun _ => rfl) (dl_cons_eq (fun _ => rfl) (dl_cons_eq (fun _ => rfl) (dl_cons_eq (fun _ => rfl) (dl_cons_eq (fun _ => rfl) (dl_cons_eq (fun _ => rfl) rfl))))))) (cons_eq rfl (cons_eq rfl (cons_eq ((eD_skip (by rfl)).trans (eD_miss (fun hD => hn (hcl 1 _ rfl (hcl 2 _ rfl hD 1 dc) 0 dc)) eD_nil)) (cons_eq ((eD_skip (by rfl)).trans rfl) rfl))))
     ·
      intro D b hn hd hcl
      obtain ⟨v2, v3⟩ := b
      refine TO.rewL (L' := [vec enc_T_3_string 85 3 v1 r1, cells b1 [.string q1.e0, .string q1.e1, .string q1.e2] 85, emp, eD D emp [(5, vec (encI (.i32)) 21 1 v3 (runesOf q1.e2))]]) (cons_eq rfl (cons_eq rfl (cons_eq (eD_miss (fun hD => hn (hcl 2 _ rfl hD 1 dc)) eD_nil) (cons_eq rfl rfl)))) ?_
      refine TO.load (k := 1) sc_9 rfl dc (dl_lookup (m := 0) rfl rfl (hd 0 dc)) rfl rfl ?_
      exact TX.valG (v2, v3) 1 (by rfl) (by rfl) rfl (dl_cons_eq (fun _ => rfl) (dl_cons_eq (fun _ => rfl) (dl_cons_eq (fun _ => rfl) (dl_cons_eq (fun _ => rfl) (dl_cons_eq (fun _ => rfl) (dl_cons_eq (fun _ => rfl) (dl_cons_eq (fun _ => rfl) rfl))))))) (cons_eq rfl (cons_eq rfl (cons_eq ((eD_skip (by rfl)).trans (eD_miss (fun hD => hn (hcl 2 _ rfl hD 1 dc)) eD_nil)) (cons_eq ((eD_skip (by rfl)).trans rfl) rfl))))
     ·
      intro D b hn hd hcl
      obtain ⟨_, v3⟩ := b
      refine TO.rewL (L' := [vec enc_T_3_string 85 3 v1 r1, cells b1 [.string q1.e0, .string q1.e1, .string q1.e2] 85, emp, eD D emp [(5, vec (encI (.i32)) 21 1 v3 (runesOf q1.e2))]]) (cons_eq rfl (cons_eq rfl (cons_eq (eD_miss hn eD_nil) (cons_eq rfl rfl)))) ?_
      refine TO.strRunes hg1 rfl dc (dl_lookup (m := 1) rfl rfl (hd 1 dc)) Try.underlying9 Try.underlying25 Try.underlying21 (fun v2 => ?_)
      refine TO.place 2 rfl rfl ?_
      show TO _ _ _ _ _ _ _ _ _ _ [vec enc_T_3_string 85 3 v1 r1, cells b1 [.string q1.e0, .string q1.e1, .string q1.e2] 85, vec (encI (.i32)) 21 1 v2 (runesOf q1.e1), eD D emp [(5, vec (encI (.i32)) 21 1 v3 (runesOf q1.e2))]]
      exact TX.valG (v2, v3) 2 (by rfl) (by rfl) rfl (dl_cons_eq (fun _ => rfl) (dl_cons_eq (fun _ => rfl) (dl_cons_eq (fun hD => absurd hD hn) (dl_cons_eq (fun _ => rfl) (dl_cons_eq (fun _ => rfl) (dl_cons_eq (fun _ => rfl) (dl_cons_eq (fun hD => absurd (hcl 6 _ rfl hD 2 dc) hn) rfl))))))) (cons_eq rfl (cons_eq rfl (cons_eq (eD_hit (Or.inr rfl) rfl) (cons_eq ((eD_skip (by rfl)).trans rfl) rfl))))
     ·
      intro D b hn hd hcl
      obtain ⟨v2, v3⟩ := b
      refine TO.rewL (L' := [vec enc_T_3_string 85 3 v1 r1, cells b1 [.string q1.e0, .string q1.e1, .string q1.e2] 85, eD D emp [(2, vec (encI (.i32)) 21 1 v2 (runesOf q1.e1))], emp]) (cons_eq rfl (cons_eq rfl (cons_eq rfl (cons_eq (eD_miss (fun hD => hn (hcl 4 _ rfl (hcl 5 _ rfl hD 4 dc) 3 dc)) eD_nil) rfl)))) ?_
      refine TO.indexArr dc Try.underlying85 sz_9 rfl dc (dl_old (by rfl) rfl) rfl (show _ = 2 from rfl) ?_
      exact TX.valG (v2, v3) 3 (by rfl) (by rfl) rfl (dl_cons_eq (fun _ => rfl) (dl_cons_eq (fun _ => rfl) (dl_cons_eq (fun _ => rfl) (dl_cons_eq (fun _ => rfl) (dl_cons_eq (fun _ => rfl) (dl_cons_eq (fun _ => rfl) (dl_cons_eq (fun _ => rfl) rfl))))))) (cons_eq rfl (cons_eq rfl (cons_eq ((eD_skip (by rfl)).trans rfl) (cons_eq ((eD_skip (by rfl)).trans (eD_miss (fun hD => hn (hcl 4 _ rfl (hcl 5 _ rfl hD 4 dc) 3 dc)) eD_nil)) rfl))))
     ·
      intro D b hn hd hcl
      obtain ⟨v2, v3⟩ := b
      refine TO.rewL (L' := [vec enc_T_3_string 85 3 v1 r1, cells b1 [.string q1.e0, .string q1.e1, .string q1.e2] 85, eD D emp [(2, vec (encI (.i32)) 21 1 v2 (runesOf q1.e1))], emp]) (cons_eq rfl (cons_eq rfl (cons_eq rfl (cons_eq (eD_miss (fun hD => hn (hcl 5 _ rfl hD 4 dc)) eD_nil) rfl)))) ?_
      refine TO.load (k := 1) sc_9 rfl dc (dl_lookup (m := 3) rfl rfl (hd 3 dc)) rfl rfl ?_
      exact TX.valG (v2, v3) 4 (by rfl) (by rfl) rfl (dl_cons_eq (fun _ => rfl) (dl_cons_eq (fun _ => rfl) (dl_cons_eq (fun _ => rfl) (dl_cons_eq (fun _ => rfl) (dl_cons_eq (fun _ => rfl) (dl_cons_eq (fun _ => rfl) (dl_cons_eq (fun _ => rfl) rfl))))))) (cons_eq rfl (cons_eq rfl (cons_eq ((eD_skip (by rfl)).trans rfl) (cons_eq ((eD_skip (by rfl)).trans (eD_miss (fun hD => hn (hcl 5 _ rfl hD 4 dc)) eD_nil)) rfl))))
     ·
      intro D b hn hd hcl
      obtain ⟨v2, _⟩ := b
      refine TO.rewL (L' := [vec enc_T_3_string 85 3 v1 r1, cells b1 [.string q1.e0, .string q1.e1, .string q1.e2] 85, eD D emp [(2, vec (encI (.i32)) 21 1 v2 (runesOf q1.e1))], emp]) (cons_eq rfl (cons_eq rfl (cons_eq rfl (cons_eq (eD_miss hn eD_nil) rfl)))) ?_
      refine TO.strRunes hg2 rfl dc (dl_lookup (m := 4) rfl rfl (hd 4 dc)) Try.underlying9 Try.underlying25 Try.underlying21 (fun v3 => ?_)
      refine TO.place 3 rfl rfl ?_
      show TO _ _ _ _ _ _ _ _ _ _ [vec enc_T_3_string 85 3 v1 r1, cells b1 [.string q1.e0, .string q1.e1, .string q1.e2] 85, eD D emp [(2, vec (encI (.i32)) 21 1 v2 (runesOf q1.e1))], vec (encI (.i32)) 21 1 v3 (runesOf q1.e2)]
      exact TX.valG (v2, v3) 5 (by rfl) (by rfl) rfl (dl_cons_eq (fun _ => rfl) (dl_cons_eq (fun _ => rfl) (dl_cons_eq (fun _ => rfl) (dl_cons_eq (fun _ => rfl) (dl_cons_eq (fun _ => rfl) (dl_cons_eq (fun hD => absurd hD hn) (dl_cons_eq (fun _ => rfl) rfl))))))) (cons_eq rfl (cons_eq rfl (cons_eq ((eD_skip (by rfl)).trans rfl) (cons_eq (eD_hit (Or.inr rfl) rfl) rfl))))
     ·
      intro D b hn hd hcl
      obtain ⟨v2, v3⟩ := b
      refine TO.rewL (L' := [vec enc_T_3_string 85 3 v1 r1, cells b1 [.string q1.e0, .string q1.e1, .string q1.e2] 85, vec (encI (.i32)) 21 1 v2 (runesOf q1.e1), eD D emp [(5, vec (encI (.i32)) 21 1 v3 (runesOf q1.e2))]]) (cons_eq rfl (cons_eq rfl (cons_eq (eD_hit (hd 2 dc) rfl) (cons_eq rfl rfl)))) (TO.assign rfl dc (dl_lookup (m := 2) rfl rfl (hd 2 dc)) ?_)
      exact TX.valG (v2, v3) 6 (by rfl) (by rfl) rfl (dl_cons_eq (fun _ => rfl) (dl_cons_eq (fun _ => rfl) (dl_cons_eq (fun _ => rfl) (dl_cons_eq (fun _ => rfl) (dl_cons_eq (fun _ => rfl) (dl_cons_eq (fun _ => rfl) (dl_cons_eq (fun _ => rfl) rfl))))))) (cons_eq rfl (cons_eq rfl (cons_eq ((eD_skip (by rfl)).trans (eD_hit (hd 2 dc) rfl)) (cons_eq ((eD_skip (by rfl)).trans rfl) rfl))))
     intro D b hall
     obtain ⟨v2, v3⟩ := b
     refine TO.rewL (L' := [vec enc_T_3_string 85 3 v1 r1, cells b1 [.string q1.e0, .string q1.e1, .string q1.e2] 85, vec (encI (.i32)) 21 1 v2 (runesOf q1.e1), vec (encI (.i32)) 21 1 v3 (runesOf q1.e2)]) (cons_eq rfl (cons_eq rfl (cons_eq (eD_hit (hall 2 dc) rfl) (cons_eq (eD_hit (hall 5 dc) rfl) rfl)))) (TO.assign rfl dc rfl (TO.nil (TX.next (TC.seq (TC.region (TO.move rfl dc rfl (TO.lenVec (k := 2) rfl dc rfl rfl Try.underlying25 (TO.move rfl dc rfl (TO.nil (TX.next (TC.block ?_)))))))))))
     refine TC.loopD (β := Nat × Int) (fun b => loopG (fun _ => none) (ref04_Join_s2 base1 mark1 j2 q1) b.1 b.2 = some r) (fun b => []) (fun b => [(0, .int .i32 base1), (1, .int .i32 mark1), (6, .pointer (some ⟨b1, 0, none⟩)), (7, v2), (8, v3), (10, v1), (11, .int .i64 (r1.length : Int)), (12, .int .i64 x3), (23, .int .i64 ((runesOf q1.e1).length : Int)), (24, .int .i64 b.2)]) (fun b => [cells b1 [.string q1.e0, .string q1.e1, .string q1.e2] 85, vec (encI (.i32)) 21 1 v2 (runesOf q1.e1), vec (encI (.i32)) 21 1 v3 (runesOf q1.e2), vec enc_T_3_string 85 3 v1 r1]) (fun b => b.1) (fuel, 0) h rfl (Sbs.cons rfl (Sbs.cons rfl (Sbs.cons rfl (Sbs.cons rfl (Sbs.cons rfl (Sbs.cons rfl (Sbs.cons rfl (Sbs.cons rfl (Sbs.cons rfl (Sbs.cons rfl (Sbs.nil))))))))))) (Splits.of [1, 2, 3, 0] kr rfl) ?_
     rintro ⟨n2, x6⟩ h
     cases n2 with
     | zero => exact noneE h
     | succ n2 =>
      obtain ⟨ag2, hag2⟩ : ∃ ag, ag = loopG (fun _ => none) (ref04_Join_s2 base1 mark1 j2 q1) n2 := ⟨_, rfl⟩
      have h : ref04_Join_s2 base1 mark1 j2 q1 ag2 x6 = some r := by rw [hag2]; exact h
      unfold ref04_Join_s2 at h
      show TC _ _ _ _ _ ([]) _ _ [(0, .int .i32 base1), (1, .int .i32 mark1), (6, .pointer (some ⟨b1, 0, none⟩)), (7, v2), (8, v3), (10, v1), (11, .int .i64 (r1.length : Int)), (12, .int .i64 x3), (23, .int .i64 ((runesOf q1.e1).length : Int)), (24, .int .i64 x6)] [cells b1 [.string q1.e0, .string q1.e1, .string q1.e2] 85, vec (encI (.i32)) 21 1 v2 (runesOf q1.e1), vec (encI (.i32)) 21 1 v3 (runesOf q1.e2), vec enc_T_3_string 85 3 v1 r1]
      refine TC.seq (TC.region (TO.bin rfl dc rfl rfl bin_lss (TO.nil (TX.next (TC.seq ?_)))))
      refine TC.condB rfl (fun hb2 => ?_) (fun hb2 => ?_)
      ·
       have h := condT hb2 h
       refine TC.skip (TX.next ?_)
       obtain ⟨j3, hj3, h⟩ := joinE h
       refine TC.cutN (β := Unit) 0 rfl (fun b => j3 = some r) (fun b => []) (fun b => [(0, .int .i32 base1), (1, .int .i32 mark1), (6, .pointer (some ⟨b1, 0, none⟩)), (7, v2), (8, v3), (10, v1), (11, .int .i64 (r1.length : Int)), (12, .int .i64 x3), (23, .int .i64 ((runesOf q1.e1).length : Int)), (24, .int .i64 x6)]) (fun b => [cells b1 [.string q1.e0, .string q1.e1, .string q1.e2] 85, vec (encI (.i32)) 21 1 v2 (runesOf q1.e1), vec (encI (.i32)) 21 1 v3 (runesOf q1.e2), vec enc_T_3_string 85 3 v1 r1]) (fun cut => ?_) ?_
       ·
        refine cut (TC.block (TC.seq (TC.region (TO.move rfl dc rfl (TO.assign rfl dc rfl (TO.nil (TX.next (TC.seq (TC.region (TO.move rfl dc rfl (TO.move rfl dc rfl ?_)))))))))))
        obtain ⟨q2, hq3, h⟩ := andE h
        refine TO.indexVecI (k := 1) hq3 Try.underlying25 sz_21 rfl dc rfl rfl rfl rfl (TO.loadVec (i := (x6 : Int).toNat) (j := 0) (k := 1) (q := q2) sc_21 encI_len rfl dc rfl rfl (getO_get hq3) rfl dc rfl (TO.move rfl dc rfl (TO.bin rfl dc rfl rfl bin_eql (TO.move rfl dc rfl ?_))))
        refine TO.split (s := 33) rfl (fun hb3 => ?_) (fun hb3 => ?_)
        ·
         have h := condT hb3 h
         refine TO.indexArr dc Try.underlying85 sz_9 rfl dc rfl rfl (show _ = 0 from rfl) (TO.load (k := 0) sc_9 rfl dc rfl rfl rfl ?_)
         obtain ⟨hg3, h⟩ := grdE h
         refine TO.strRunes hg3 rfl dc rfl Try.underlying9 Try.underlying25 Try.underlying21 (fun v4 => ?_)
         obtain ⟨q3, hq4, h⟩ := andE h
         refine TO.indexVecI (k := 4) hq4 Try.underlying25 sz_21 rfl dc rfl rfl rfl rfl (TO.loadVec (i := (0 : Int).toNat) (j := 0) (k := 4) (q := q3) sc_21 encI_len rfl dc rfl rfl (getO_get hq4) rfl dc rfl (TO.move rfl dc rfl (TO.bin rfl dc rfl rfl bin_eql (TO.pick (b := true) rfl dc rfl rfl (TO.nil (TX.next ?_))))))
         refine TC.condB rfl (fun hb4 => ?_) (fun hb4 => ?_)
         ·
          have h := condT hb4 h
          refine TC.seq (TC.region (TO.move rfl dc rfl (TO.move rfl dc rfl ?_)))
          obtain ⟨q4, hq5, h⟩ := andE h
          refine TO.indexVecI (k := 2) hq5 Try.underlying25 sz_21 rfl dc rfl rfl rfl rfl (TO.loadVec (i := (x6 : Int).toNat) (j := 0) (k := 2) (q := q4) sc_21 encI_len rfl dc rfl rfl (getO_get hq5) rfl dc rfl (TO.assign rfl dc rfl (TO.nil (TX.next (TC.ret (TX.blockRet (TX.thenRet (TX.thenRet (TX.blockRet (TX.blockRet (TX.thenRet (TX.thenRet (TX.blockRet ?_)))))))))))))
          refine TX.thenRet ?_
          cases h
          exact TX.fin (rs := [.tmp 4]) () (.inl rfl) Try.results34 (.cons (.tmp rfl) .nil) rfl Splits.nil
         ·
          have h := condF hb4 h
          refine TC.skip (TX.blockNormal ?_)
          exact TX.meetD () h rfl (Sbs.cons rfl (Sbs.cons rfl (Sbs.cons rfl (Sbs.cons rfl (Sbs.cons rfl (Sbs.cons rfl (Sbs.cons rfl (Sbs.cons rfl (Sbs.cons rfl (Sbs.cons rfl (Sbs.nil))))))))))) (Splits.of [0, 1, 2, 3] kr rfl)
        ·
         have h := condF hb3 h
         refine TO.skip rfl dc (TO.skip rfl dc (TO.skip rfl dc (TO.skip rfl dc (TO.skip rfl dc (TO.skip rfl dc (TO.skip rfl dc (TO.pick (b := false) rfl dc rfl rfl (TO.nil (TX.next (TC.condF rfl (TC.skip (TX.blockNormal ?_))))))))))))
         exact TX.meetD () h rfl (Sbs.cons rfl (Sbs.cons rfl (Sbs.cons rfl (Sbs.cons rfl (Sbs.cons rfl (Sbs.cons rfl (Sbs.cons rfl (Sbs.cons rfl (Sbs.cons rfl (Sbs.cons rfl (Sbs.nil))))))))))) (Splits.of [0, 1, 2, 3] kr rfl)
       ·
        rintro _ h
        rw [hj3] at h
        show TC _ _ _ _ _ ([]) _ _ [(0, .int .i32 base1), (1, .int .i32 mark1), (6, .pointer (some ⟨b1, 0, none⟩)), (7, v2), (8, v3), (10, v1), (11, .int .i64 (r1.length : Int)), (12, .int .i64 x3), (23, .int .i64 ((runesOf q1.e1).length : Int)), (24, .int .i64 x6)] [cells b1 [.string q1.e0, .string q1.e1, .string q1.e2] 85, vec (encI (.i32)) 21 1 v2 (runesOf q1.e1), vec (encI (.i32)) 21 1 v3 (runesOf q1.e2), vec enc_T_3_string 85 3 v1 r1]
        refine TC.region ?_
        obtain ⟨hg4, h⟩ := grdE h
        refine TO.bin rfl dc rfl rfl (bin_add (r := x6 + 1) (IntWalk.i64_in _ hg4)) (TO.move rfl dc rfl (TO.nil ?_))
        subst hag2
        exact TX.againD (n2, x6 + 1) h (Nat.lt_succ_self _) rfl (Sbs.cons rfl (Sbs.cons rfl (Sbs.cons rfl (Sbs.cons rfl (Sbs.cons rfl (Sbs.cons rfl (Sbs.cons rfl (Sbs.cons rfl (Sbs.cons rfl (Sbs.cons rfl (Sbs.nil))))))))))) (Splits.of [0, 1, 2, 3] kr rfl)
      ·
       have h := condF hb2 h
       refine TC.exit (TX.thenExit (TX.thenExit (TX.blockHere (TX.blockNormal ?_))))
       exact TX.meetD () h rfl (Sbs.cons rfl (Sbs.cons rfl (Sbs.cons rfl (Sbs.cons rfl (Sbs.cons rfl (Sbs.nil)))))) (Splits.of [3] kr rfl)
    ·
     rintro _ h
     rw [hj2] at h
     show TC _ _ _ _ _ ([]) _ _ [(0, .int .i32 base1), (1, .int .i32 mark1), (10, v1), (11, .int .i64 (r1.length : Int)), (12, .int .i64 x3)] [vec enc_T_3_string 85 3 v1 r1]
     refine TC.region ?_
     obtain ⟨hg5, h⟩ := grdE h
     refine TO.bin rfl dc rfl rfl (bin_add (r := x3 + 1) (IntWalk.i64_in _ hg5)) (TO.move rfl dc rfl (TO.nil ?_))
     subst hag1
     exact TX.againD (n1, x3 + 1) h (Nat.lt_succ_self _) rfl (Sbs.cons rfl (Sbs.cons rfl (Sbs.cons rfl (Sbs.cons rfl (Sbs.cons rfl (Sbs.nil)))))) (Splits.of [0] kr rfl)
   ·
    have h := condF hb1 h
    refine TC.exit (TX.thenExit (TX.thenExit (TX.blockHere ?_)))
    exact TX.meetD () h rfl (Sbs.nil) Splits.nil
 ·
  rintro _ h
  rw [hj1] at h
  show TC _ _ _ _ _ ([]) _ _ [] []
  refine TC.seq (TC.region (TO.assign rfl dc rfl (TO.nil (TX.next (TC.ret ?_)))))
  cases h
  exact TX.fin (rs := [.tmp 4]) () (.inl rfl) Try.results34 (.cons (.tmp rfl) .nil) rfl Splits.nil
def ref04_Split_s2 (rcall : Int → Option (List Int)) (r1 : Int) (j2 : Option (List Int)) (q1 : T_3_string) (ag2 : Int → Option (List Int)) (x6 : Int) : Option (List Int) := bcond (decide ((x6 : Int) < ((runesOf q1.e2).length : Int))) ( andThen (getO (runesOf q1.e2) x6) fun (q2 : Int) => bcond ((q2 : Int) == r1) ( andThen (getO (runesOf q1.e1) x6) fun (q3 : Int) => andThen (rcall q3) fun (r3 : (List Int)) => grd (q1.e0.size ≤ 1073741824) <| andThen (getO (runesOf q1.e0) 0) fun (q4 : Int) => grd (r3.length + 1 ≤ 2147483648) <| some (r3 ++ [q4])
) ( grd (I64 (x6 + 1)) <| ag2 (x6 + 1)
)
) ( j2
)
def ref04_Split_s1 (rcall : Int → Option (List Int)) (r1 : Int) (j1 : Option (List Int)) (r2 : (List T_3_string)) (ag1 : Int → Option (List Int)) (x3 : Int) : Option (List Int) := bcond (decide ((x3 : Int) < (r2.length : Int))) ( joinK (fun (j2 : Option (List Int)) => andThen (getO r2 x3) fun (q1 : T_3_string) => grd (q1.e1.size ≤ 1073741824) <| grd (q1.e2.size ≤ 1073741824) <| loopG (fun _ => none) (ref04_Split_s2 rcall r1 j2 q1) fuel 0
) ( grd (I64 (x3 + 1)) <| ag1 (x3 + 1)
)
) ( j1
)
def ref04_Split_b (rcall : Int → Option (List Int)) (r1 : Int) : Option (List Int) := joinK (fun (j1 : Option (List Int)) => andThen (ref04_Table_v) fun (r2 : (List T_3_string)) => loopG (fun _ => none) (ref04_Split_s1 rcall r1 j1 r2) fuel 0
) ( some ([r1] : List Int)
)
def ref04_Split_v (r1 : Int) : Option (List Int) := loopG (fun _ => none) ref04_Split_b fuel r1
set_option maxRecDepth 100000 in
set_option maxHeartbeats 4000000 in
theorem ref04_Split_fb (n : Nat) : ∀ {r1 : Int} {r : (List Int)} (_ : loopG (fun _ => none) ref04_Split_b n r1 = some r), Fn Try.prog 31 [.int .i32 r1] [] (fun v0 : Value => v0) (fun v0 => [vec (encI (.i32)) 21 1 v0 r]) := by
 induction n with
 | zero => intro r1 r h; exact noneE h
 | succ n hrec =>
 intro r1 r h
 rw [loopG_succ] at h
 revert hrec h
 generalize loopG (fun _ => none) ref04_Split_b n = rcall
 intro hrec h
 unfold ref04_Split_b at h
 refine Fn.intro Try.func31 rfl Try.ntmps31 (by simp) ?_
 intro w0 K
 obtain ⟨j1, hj1, h⟩ := joinE h
 refine TC.cutN (β := Unit) 1 rfl (fun b => j1 = some r) (fun b => []) (fun b => [(0, .int .i32 r1)]) (fun b => []) (fun cut => ?_) ?_
 ·
  refine TC.seq (TC.region (TO.assign rfl dc rfl (TO.nil (TX.next (cut (TC.seq (TC.region ?_)))))))
  obtain ⟨r2, hq1, h⟩ := andE h
  refine TO.call (vs := []) rfl dc rfl rfl rfl en_61 (ref04_Table_fn hq1) Splits.nil ?_
  rintro v1
  show TO _ _ _ _ _ _ _ _ _ _ [vec enc_T_3_string 85 3 v1 r2]
  refine TO.lenVec (k := 0) rfl dc rfl rfl Try.underlying83 (TO.move rfl dc rfl (TO.nil (TX.next (TC.block ?_))))
  refine TC.loopD (β := Nat × Int) (fun b => loopG (fun _ => none) (ref04_Split_s1 rcall r1 j1 r2) b.1 b.2 = some r) (fun b => []) (fun b => [(0, .int .i32 r1), (8, v1), (9, .int .i64 (r2.length : Int)), (10, .int .i64 b.2)]) (fun b => [vec enc_T_3_string 85 3 v1 r2]) (fun b => b.1) (fuel, 0) h rfl (Sbs.cons rfl (Sbs.cons rfl (Sbs.cons rfl (Sbs.cons rfl (Sbs.nil))))) (Splits.of [0] kr rfl) ?_
  rintro ⟨n1, x3⟩ h
  cases n1 with
  | zero => exact noneE h
  | succ n1 =>
   obtain ⟨ag1, hag1⟩ : ∃ ag, ag = loopG (fun _ => none) (ref04_Split_s1 rcall r1 j1 r2) n1 := ⟨_, rfl⟩
   have h : ref04_Split_s1 rcall r1 j1 r2 ag1 x3 = some r := by rw [hag1]; exact h
   unfold ref04_Split_s1 at h
   show TC _ _ _ _ _ ([]) _ _ [(0, .int .i32 r1), (8, v1), (9, .int .i64 (r2.length : Int)), (10, .int .i64 x3)] [vec enc_T_3_string 85 3 v1 r2]
   refine TC.seq (TC.region (TO.bin rfl dc rfl rfl bin_lss (TO.nil (TX.next (TC.seq ?_)))))
   refine TC.condB rfl (fun hb1 => ?_) (fun hb1 => ?_)
   ·
    have h := condT hb1 h
    refine TC.skip (TX.next ?_)
    obtain ⟨j2, hj2, h⟩ := joinE h
    refine TC.cutN (β := Unit) 0 rfl (fun b => j2 = some r) (fun b => []) (fun b => [(0, .int .i32 r1), (8, v1), (9, .int .i64 (r2.length : Int)), (10, .int .i64 x3)]) (fun b => [vec enc_T_3_string 85 3 v1 r2]) (fun cut => ?_) ?_
    ·
     refine cut (TC.block (TC.seq (TC.region ?_)))
     obtain ⟨q1, hq2, h⟩ := andE h
     refine TO.indexVecI (k := 0) hq2 Try.underlying83 sz_85 rfl dc rfl rfl rfl rfl (TO.loadsVec (i := (x3 : Int).toNat) (j := 0) (k := 0) (q := q1) (cs := [.string q1.e0, .string q1.e1, .string q1.e2]) rw_85 enc_T_3_string_len rfl dc rfl rfl (getO_get hq2) rfl rfl rfl ?_)
     refine TO.alloc zr_85 rfl dc (fun b1 => ?_)
     refine TO.stores (k := 1) (vs := [.string q1.e0, .string q1.e1, .string q1.e2]) (l' := [.string q1.e0, .string q1.e1, .string q1.e2]) sz_85 rfl rfl rfl rfl rfl (show _ ≤ _ by simp) rfl rfl ?_
     show TO _ _ _ _ _ _ _ _ _ _ [vec enc_T_3_string 85 3 v1 r2, cells b1 [.string q1.e0, .string q1.e1, .string q1.e2] 85]
     refine TO.nil (TX.next (TC.seq ?_))
     obtain ⟨hg1, h⟩ := grdE h
     obtain ⟨hg2, h⟩ := grdE h
     refine TC.pad 2 ?_
     show TC _ _ _ _ _ _ _ _ _ [vec enc_T_3_string 85 3 v1 r2, cells b1 [.string q1.e0, .string q1.e1, .string q1.e2] 85, emp, emp]
     refine let vals1 : (Value × Value) → List (Nat × Nat × Value) := fun b => [(0, 14, .pointer (some ⟨b1, 1, none⟩)), (1, 15, .string q1.e1), (2, 16, b.1), (3, 17, .pointer (some ⟨b1, 2, none⟩)), (4, 18, .string q1.e2), (5, 19, b.2), (6, 5, b.1)]; let LL1 : (Nat → Prop) → (Value × Value) → List Asn := fun D b => [vec enc_T_3_string 85 3 v1 r2, cells b1 [.string q1.e0, .string q1.e1, .string q1.e2] 85, eD D emp [(2, vec (encI (.i32)) 21 1 b.1 (runesOf q1.e1))], eD D emp [(5, vec (encI (.i32)) 21 1 b.2 (runesOf q1.e2))]]; ?_
     refine TC.drawG (β := Value × Value) 7 ((.slice none 0 0 : Value), (.slice none 0 0 : Value)) vals1 LL1 mixed kr kr dc (fun _ => rfl) (cons_eq rfl (cons_eq rfl (cons_eq eD_none (cons_eq eD_none rfl)))) (DrawG.cons ?_ (DrawG.cons ?_ (DrawG.cons ?_ (DrawG.cons ?_ (DrawG.cons ?_ (DrawG.cons ?_ (DrawG.cons ?_ DrawG.nil))))))) ?_
     ·
      intro D b hn hd hcl
      obtain ⟨v2, v3⟩ := b
      refine TO.rewL (L' := [vec enc_T_3_string 85 3 v1 r2, cells b1 [.string q1.e0, .string q1.e1, .string q1.e2] 85, emp, eD D emp [(5, vec (encI (.i32)) 21 1 v3 (runesOf q1.e2))]]) (cons_eq rfl (cons_eq rfl (cons_eq (eD_miss (fun hD => hn (hcl 1 _ rfl (hcl 2 _ rfl hD 1 dc) 0 dc)) eD_nil) (cons_eq rfl rfl)))) ?_
      refine TO.indexArr dc Try.underlying85 sz_9 rfl dc (dl_old (by rfl) rfl) rfl (show _ = 1 from rfl) ?_
      exact TX.valG (v2, v3) 0 (by rfl) (by rfl) rfl (dl_cons_eq (fun _ => rfl) (dl_cons_eq (fun _ => rfl) (dl_cons_eq (fun _ => rfl) (dl_cons_eq (fun _ => rfl) (dl_cons_eq (fun _ => rfl) (dl_cons_eq (fun _ => rfl) (dl_cons_eq (fun _ => rfl) rfl))))))) (cons_eq rfl (cons_eq rfl (cons_eq ((eD_skip (by rfl)).trans (eD_miss (fun hD => hn (hcl 1 _ rfl (hcl 2 _ rfl hD 1 dc) 0 dc)) eD_nil)) (cons_eq ((eD_skip (by rfl)).trans rfl) rfl))))
     ·
      intro D b hn hd hcl
      obtain ⟨v2, v3⟩ := b
      refine TO.rewL (L' := [vec enc_T_3_string 85 3 v1 r2, cells b1 [.string q1.e0, .string q1.e1, .string q1.e2] 85, emp, eD D emp [(5, vec (encI (.i32)) 21 1 v3 (runesOf q1.e2))]]) (cons_eq rfl (cons_eq rfl (cons_eq (eD_miss (fun hD => hn (hcl 2 _ rfl hD 1 dc)) eD_nil) (cons_eq rfl rfl)))) ?_
      refine TO.load (k := 1) sc_9 rfl dc (dl_lookup (m := 0) rfl rfl (hd 0 dc)) rfl rfl ?_
      exact TX.valG (v2, v3) 1 (by rfl) (by rfl) rfl (dl_cons_eq (fun _ => rfl) (dl_cons_eq (fun _ => rfl) (dl_cons_eq (fun _ => rfl) (dl_cons_eq (fun _ => rfl) (dl_cons_eq (fun _ => rfl) (dl_cons_eq (fun _ => rfl) (dl_cons_eq (fun _ => rfl) rfl))))))) (cons_eq rfl (cons_eq rfl (cons_eq ((eD_skip (by rfl)).trans (eD_miss (fun hD => hn (hcl 2 _ rfl hD 1 dc)) eD_nil)) (cons_eq ((eD_skip (by rfl)).trans rfl) rfl))))
     ·
      intro D b hn hd hcl
      obtain ⟨_, v3⟩ := b
      refine TO.rewL (L' := [vec enc_T_3_string 85 3 v1 r2, cells b1 [.string q1.e0, .string q1.e1, .string q1.e2] 85, emp, eD D emp [(5, vec (encI (.i32)) 21 1 v3 (runesOf q1.e2))]]) (cons_eq rfl (cons_eq rfl (cons_eq (eD_miss hn eD_nil) (cons_eq rfl rfl)))) ?_
      refine TO.strRunes hg1 rfl dc (dl_lookup (m := 1) rfl rfl (hd 1 dc)) Try.underlying9 Try.underlying25 Try.underlying21 (fun v2 => ?_)
      refine TO.place 2 rfl rfl ?_
      show TO _ _ _ _ _ _ _ _ _ _ [vec enc_T_3_string 85 3 v1 r2, cells b1 [.string q1.e0, .string q1.e1, .string q1.e2] 85, vec (encI (.i32)) 21 1 v2 (runesOf q1.e1), eD D emp [(5, vec (encI (.i32)) 21 1 v3 (runesOf q1.e2))]]
      exact TX.valG (v2, v3) 2 (by rfl) (by rfl) rfl (dl_cons_eq (fun _ => rfl) (dl_cons_eq (fun _ => rfl) (dl_cons_eq (fun hD => absurd hD hn) (dl_cons_eq (fun _ => rfl) (dl_cons_eq (fun _ => rfl) (dl_cons_eq (fun _ => rfl) (dl_cons_eq (fun hD => absurd (hcl 6 _ rfl hD 2 dc) hn) rfl))))))) (cons_eq rfl (cons_eq rfl (cons_eq (eD_hit (Or.inr rfl) rfl) (cons_eq ((eD_skip (by rfl)).trans rfl) rfl))))
     ·
      intro D b hn hd hcl
      obtain ⟨v2, v3⟩ := b
      refine TO.rewL (L' := [vec enc_T_3_string 85 3 v1 r2, cells b1 [.string q1.e0, .string q1.e1, .string q1.e2] 85, eD D emp [(2, vec (encI (.i32)) 21 1 v2 (runesOf q1.e1))], emp]) (cons_eq rfl (cons_eq rfl (cons_eq rfl (cons_eq (eD_miss (fun hD => hn (hcl 4 _ rfl (hcl 5 _ rfl hD 4 dc) 3 dc)) eD_nil) rfl)))) ?_
      refine TO.indexArr dc Try.underlying85 sz_9 rfl dc (dl_old (by rfl) rfl) rfl (show _ = 2 from rfl) ?_
      exact TX.valG (v2, v3) 3 (by rfl) (by rfl) rfl (dl_cons_eq (fun _ => rfl) (dl_cons_eq (fun _ => rfl) (dl_cons_eq (fun _ => rfl) (dl_cons_eq (fun _ => rfl) (dl_cons_eq (fun _ => rfl) (dl_cons_eq (fun _ => rfl) (dl_cons_eq (fun _ => rfl) rfl))))))) (cons_eq rfl (cons_eq rfl (cons_eq ((eD_skip (by rfl)).trans rfl) (cons_eq ((eD_skip (by rfl)).trans (eD_miss (fun hD => hn (hcl 4 _ rfl (hcl 5 _ rfl hD 4 dc) 3 dc)) eD_nil)) rfl))))
     ·
      intro D b hn hd hcl
      obtain ⟨v2, v3⟩ := b
      refine TO.rewL (L' := [vec enc_T_3_string 85 3 v1 r2, cells b1 [.string q1.e0, .string q1.e1, .string q1.e2] 85, eD D emp [(2, vec (encI (.i32)) 21 1 v2 (runesOf q1.e1))], emp]) (cons_eq rfl (cons_eq rfl (cons_eq rfl (cons_eq (eD_miss (fun hD => hn (hcl 5 _ rfl hD 4 dc)) eD_nil) rfl)))) ?_
      refine TO.load (k := 1) sc_9 rfl dc (dl_lookup (m := 3) rfl rfl (hd 3 dc)) rfl rfl ?_
      exact TX.valG (v2, v3) 4 (by rfl) (by rfl) rfl (dl_cons_eq (fun _ => rfl) (dl_cons_eq (fun _ => rfl) (dl_cons_eq (fun _ => rfl) (dl_cons_eq (fun _ => rfl) (dl_cons_eq (fun _ => rfl) (dl_cons_eq (fun _ => rfl) (dl_cons_eq (fun _ => rfl) rfl))))))) (cons_eq rfl (cons_eq rfl (cons_eq ((eD_skip (by rfl)).trans rfl) (cons_eq ((eD_skip (by rfl)).trans (eD_miss (fun hD => hn (hcl 5 _ rfl hD 4 dc)) eD_nil)) rfl))))
     ·
      intro D b hn hd hcl
      obtain ⟨v2, _⟩ := b
      refine TO.rewL (L' := [vec enc_T_3_string 85 3 v1 r2, cells b1 [.string q1.e0, .string q1.e1, .string q1.e2] 85, eD D emp [(2, vec (encI (.i32)) 21 1 v2 (runesOf q1.e1))], emp]) (cons_eq rfl (cons_eq rfl (cons_eq rfl (cons_eq (eD_miss hn eD_nil) rfl)))) ?_
      refine TO.strRunes hg2 rfl dc (dl_lookup (m := 4) rfl rfl (hd 4 dc)) Try.underlying9 Try.underlying25 Try.underlying21 (fun v3 => ?_)
      refine TO.place 3 rfl rfl ?_
      show TO _ _ _ _ _ _ _ _ _ _ [vec enc_T_3_string 85 3 v1 r2, cells b1 [.string q1.e0, .string q1.e1, .string q1.e2] 85, eD D emp [(2, vec (encI (.i32)) 21 1 v2 (runesOf q1.e1))], vec (encI (.i32)) 21 1 v3 (runesOf q1.e2)]
      exact TX.valG (v2, v3) 5 (by rfl) (by rfl) rfl (dl_cons_eq (fun _ => rfl) (dl_cons_eq (fun _ => rfl) (dl_cons_eq (fun _ => rfl) (dl_cons_eq (fun _ => rfl) (dl_cons_eq (fun _ => rfl) (dl_cons_eq (fun hD => absurd hD hn) (dl_cons_eq (fun _ => rfl) rfl))))))) (cons_eq rfl (cons_eq rfl (cons_eq ((eD_skip (by rfl)).trans rfl) (cons_eq (eD_hit (Or.inr rfl) rfl) rfl))))
     ·
      intro D b hn hd hcl
      obtain ⟨v2, v3⟩ := b
      refine TO.rewL (L' := [vec enc_T_3_string 85 3 v1 r2, cells b1 [.string q1.e0, .string q1.e1, .string q1.e2] 85, vec (encI (.i32)) 21 1 v2 (runesOf q1.e1), eD D emp [(5, vec (encI (.i32)) 21 1 v3 (runesOf q1.e2))]]) (cons_eq rfl (cons_eq rfl (cons_eq (eD_hit (hd 2 dc) rfl) (cons_eq rfl rfl)))) (TO.assign rfl dc (dl_lookup (m := 2) rfl rfl (hd 2 dc)) ?_)
      exact TX.valG (v2, v3) 6 (by rfl) (by rfl) rfl (dl_cons_eq (fun _ => rfl) (dl_cons_eq (fun _ => rfl) (dl_cons_eq (fun _ => rfl) (dl_cons_eq (fun _ => rfl) (dl_cons_eq (fun _ => rfl) (dl_cons_eq (fun _ => rfl) (dl_cons_eq (fun _ => rfl) rfl))))))) (cons_eq rfl (cons_eq rfl (cons_eq ((eD_skip (by rfl)).trans (eD_hit (hd 2 dc) rfl)) (cons_eq ((eD_skip (by rfl)).trans rfl) rfl))))
     intro D b hall
     obtain ⟨v2, v3⟩ := b
     refine TO.rewL (L' := [vec enc_T_3_string 85 3 v1 r2, cells b1 [.string q1.e0, .string q1.e1, .string q1.e2] 85, vec (encI (.i32)) 21 1 v2 (runesOf q1.e1), vec (encI (.i32)) 21 1 v3 (runesOf q1.e2)]) (cons_eq rfl (cons_eq rfl (cons_eq (eD_hit (hall 2 dc) rfl) (cons_eq (eD_hit (hall 5 dc) rfl) rfl)))) (TO.assign rfl dc rfl (TO.nil (TX.next (TC.seq (TC.region (TO.move rfl dc rfl (TO.lenVec (k := 3) rfl dc rfl rfl Try.underlying25 (TO.move rfl dc rfl (TO.nil (TX.next (TC.block ?_)))))))))))
     refine TC.loopD (β := Nat × Int) (fun b => loopG (fun _ => none) (ref04_Split_s2 rcall r1 j2 q1) b.1 b.2 = some r) (fun b => []) (fun b => [(0, .int .i32 r1), (4, .pointer (some ⟨b1, 0, none⟩)), (5, v2), (6, v3), (8, v1), (9, .int .i64 (r2.length : Int)), (10, .int .i64 x3), (21, .int .i64 ((runesOf q1.e2).length : Int)), (22, .int .i64 b.2)]) (fun b => [cells b1 [.string q1.e0, .string q1.e1, .string q1.e2] 85, vec (encI (.i32)) 21 1 v2 (runesOf q1.e1), vec (encI (.i32)) 21 1 v3 (runesOf q1.e2), vec enc_T_3_string 85 3 v1 r2]) (fun b => b.1) (fuel, 0) h rfl (Sbs.cons rfl (Sbs.cons rfl (Sbs.cons rfl (Sbs.cons rfl (Sbs.cons rfl (Sbs.cons rfl (Sbs.cons rfl (Sbs.cons rfl (Sbs.cons rfl (Sbs.nil)))))))))) (Splits.of [1, 2, 3, 0] kr rfl) ?_
     rintro ⟨n2, x6⟩ h
     cases n2 with
     | zero => exact noneE h
     | succ n2 =>
      obtain ⟨ag2, hag2⟩ : ∃ ag, ag = loopG (fun _ => none) (ref04_Split_s2 rcall r1 j2 q1) n2 := ⟨_, rfl⟩
      have h : ref04_Split_s2 rcall r1 j2 q1 ag2 x6 = some r := by rw [hag2]; exact h
      unfold ref04_Split_s2 at h
      show TC _ _ _ _ _ ([]) _ _ [(0, .int .i32 r1), (4, .pointer (some ⟨b1, 0, none⟩)), (5, v2), (6, v3), (8, v1), (9, .int .i64 (r2.length : Int)), (10, .int .i64 x3), (21, .int .i64 ((runesOf q1.e2).length : Int)), (22, .int .i64 x6)] [cells b1 [.string q1.e0, .string q1.e1, .string q1.e2] 85, vec (encI (.i32)) 21 1 v2 (runesOf q1.e1), vec (encI (.i32)) 21 1 v3 (runesOf q1.e2), vec enc_T_3_string 85 3 v1 r2]
      refine TC.seq (TC.region (TO.bin rfl dc rfl rfl bin_lss (TO.nil (TX.next (TC.seq ?_)))))
      refine TC.condB rfl (fun hb2 => ?_) (fun hb2 => ?_)
      ·
       have h := condT hb2 h
       refine TC.skip (TX.next (TC.seq (TC.block (TC.seq (TC.region (TO.move rfl dc rfl (TO.assign rfl dc rfl (TO.nil (TX.next (TC.seq (TC.region (TO.move rfl dc rfl (TO.move rfl dc rfl ?_)))))))))))))
       obtain ⟨q2, hq3, h⟩ := andE h
       refine TO.indexVecI (k := 2) hq3 Try.underlying25 sz_21 rfl dc rfl rfl rfl rfl (TO.loadVec (i := (x6 : Int).toNat) (j := 0) (k := 2) (q := q2) sc_21 encI_len rfl dc rfl rfl (getO_get hq3) rfl dc rfl (TO.move rfl dc rfl (TO.bin rfl dc rfl rfl bin_eql (TO.nil (TX.next ?_)))))
       refine TC.condB rfl (fun hb3 => ?_) (fun hb3 => ?_)
       ·
        have h := condT hb3 h
        refine TC.seq ?_
        obtain ⟨q3, hq4, h⟩ := andE h
        obtain ⟨r3, hq5, h⟩ := andE h
        obtain ⟨hg3, h⟩ := grdE h
        obtain ⟨q4, hq6, h⟩ := andE h
        obtain ⟨hg4, h⟩ := grdE h
        refine TC.pad 3 ?_
        show TC _ _ _ _ _ _ _ _ _ [cells b1 [.string q1.e0, .string q1.e1, .string q1.e2] 85, vec (encI (.i32)) 21 1 v2 (runesOf q1.e1), vec (encI (.i32)) 21 1 v3 (runesOf q1.e2), vec enc_T_3_string 85 3 v1 r2, emp, emp, emp]
        refine let vals2 : (Value × Value × Nat) → List (Nat × Nat × Value) := fun b => [(0, 31, v2), (1, 32, .int .i64 x6), (2, 33, .pointer (some ⟨vblk v2, (x6 : Int).toNat * 1, none⟩)), (3, 34, .int .i32 q3), (4, 35, b.1), (5, 36, .pointer (some ⟨b1, 0, none⟩)), (6, 37, .string q1.e0), (7, 38, b.2.1), (8, 39, .pointer (some ⟨vblk b.2.1, (0 : Int).toNat * 1, none⟩)), (9, 40, .int .i32 q4), (10, 41, .slice (some ⟨b.2.2, 0, none⟩) 1 1)]; let LL2 : (Nat → Prop) → (Value × Value × Nat) → List Asn := fun D b => [cells b1 [.string q1.e0, .string q1.e1, .string q1.e2] 85, vec (encI (.i32)) 21 1 v2 (runesOf q1.e1), vec (encI (.i32)) 21 1 v3 (runesOf q1.e2), vec enc_T_3_string 85 3 v1 r2, eD D emp [(4, vec (encI (.i32)) 21 1 b.1 r3)], eD D emp [(7, vec (encI (.i32)) 21 1 b.2.1 (runesOf q1.e0))], eD D emp [(10, cells b.2.2 [.int .i32 q4] 21)]]; ?_
        refine TC.drawG (β := Value × Value × Nat) 11 ((.slice none 0 0 : Value), (.slice none 0 0 : Value), (0 : Nat)) vals2 LL2 mixed kr kr dc (fun _ => rfl) (cons_eq rfl (cons_eq rfl (cons_eq rfl (cons_eq rfl (cons_eq eD_none (cons_eq eD_none (cons_eq eD_none rfl))))))) (DrawG.cons ?_ (DrawG.cons ?_ (DrawG.cons ?_ (DrawG.cons ?_ (DrawG.cons ?_ (DrawG.cons ?_ (DrawG.cons ?_ (DrawG.cons ?_ (DrawG.cons ?_ (DrawG.cons ?_ (DrawG.cons ?_ DrawG.nil))))))))))) ?_
        ·
         intro D b hn hd hcl
         obtain ⟨v4, v5, b2⟩ := b
         refine TO.rewL (L' := [cells b1 [.string q1.e0, .string q1.e1, .string q1.e2] 85, vec (encI (.i32)) 21 1 v2 (runesOf q1.e1), vec (encI (.i32)) 21 1 v3 (runesOf q1.e2), vec enc_T_3_string 85 3 v1 r2, emp, eD D emp [(7, vec (encI (.i32)) 21 1 v5 (runesOf q1.e0))], eD D emp [(10, cells b2 [.int .i32 q4] 21)]]) (cons_eq rfl (cons_eq rfl (cons_eq rfl (cons_eq rfl (cons_eq (eD_miss (fun hD => hn (hcl 2 _ rfl (hcl 3 _ rfl (hcl 4 _ rfl hD 3 dc) 2 dc) 0 dc)) eD_nil) (cons_eq rfl (cons_eq rfl rfl))))))) ?_
         refine TO.move rfl dc (dl_old (by rfl) rfl) ?_
         exact TX.valG (v4, v5, b2) 0 (by rfl) (by rfl) rfl (dl_cons_eq (fun _ => rfl) (dl_cons_eq (fun _ => rfl) (dl_cons_eq (fun _ => rfl) (dl_cons_eq (fun _ => rfl) (dl_cons_eq (fun _ => rfl) (dl_cons_eq (fun _ => rfl) (dl_cons_eq (fun _ => rfl) (dl_cons_eq (fun _ => rfl) (dl_cons_eq (fun _ => rfl) (dl_cons_eq (fun _ => rfl) (dl_cons_eq (fun _ => rfl) rfl))))))))))) (cons_eq rfl (cons_eq rfl (cons_eq rfl (cons_eq rfl (cons_eq ((eD_skip (by rfl)).trans (eD_miss (fun hD => hn (hcl 2 _ rfl (hcl 3 _ rfl (hcl 4 _ rfl hD 3 dc) 2 dc) 0 dc)) eD_nil)) (cons_eq ((eD_skip (by rfl)).trans rfl) (cons_eq ((eD_skip (by rfl)).trans rfl) rfl)))))))
        ·
         intro D b hn hd hcl
         obtain ⟨v4, v5, b2⟩ := b
         refine TO.rewL (L' := [cells b1 [.string q1.e0, .string q1.e1, .string q1.e2] 85, vec (encI (.i32)) 21 1 v2 (runesOf q1.e1), vec (encI (.i32)) 21 1 v3 (runesOf q1.e2), vec enc_T_3_string 85 3 v1 r2, emp, eD D emp [(7, vec (encI (.i32)) 21 1 v5 (runesOf q1.e0))], eD D emp [(10, cells b2 [.int .i32 q4] 21)]]) (cons_eq rfl (cons_eq rfl (cons_eq rfl (cons_eq rfl (cons_eq (eD_miss (fun hD => hn (hcl 2 _ rfl (hcl 3 _ rfl (hcl 4 _ rfl hD 3 dc) 2 dc) 1 dc)) eD_nil) (cons_eq rfl (cons_eq rfl rfl))))))) ?_
         refine TO.move rfl dc (dl_old (by rfl) rfl) ?_
         exact TX.valG (v4, v5, b2) 1 (by rfl) (by rfl) rfl (dl_cons_eq (fun _ => rfl) (dl_cons_eq (fun _ => rfl) (dl_cons_eq (fun _ => rfl) (dl_cons_eq (fun _ => rfl) (dl_cons_eq (fun _ => rfl) (dl_cons_eq (fun _ => rfl) (dl_cons_eq (fun _ => rfl) (dl_cons_eq (fun _ => rfl) (dl_cons_eq (fun _ => rfl) (dl_cons_eq (fun _ => rfl) (dl_cons_eq (fun _ => rfl) rfl))))))))))) (cons_eq rfl (cons_eq rfl (cons_eq rfl (cons_eq rfl (cons_eq ((eD_skip (by rfl)).trans (eD_miss (fun hD => hn (hcl 2 _ rfl (hcl 3 _ rfl (hcl 4 _ rfl hD 3 dc) 2 dc) 1 dc)) eD_nil)) (cons_eq ((eD_skip (by rfl)).trans rfl) (cons_eq ((eD_skip (by rfl)).trans rfl) rfl)))))))
        ·
         intro D b hn hd hcl
         obtain ⟨v4, v5, b2⟩ := b
         refine TO.rewL (L' := [cells b1 [.string q1.e0, .string q1.e1, .string q1.e2] 85, vec (encI (.i32)) 21 1 v2 (runesOf q1.e1), vec (encI (.i32)) 21 1 v3 (runesOf q1.e2), vec enc_T_3_string 85 3 v1 r2, emp, eD D emp [(7, vec (encI (.i32)) 21 1 v5 (runesOf q1.e0))], eD D emp [(10, cells b2 [.int .i32 q4] 21)]]) (cons_eq rfl (cons_eq rfl (cons_eq rfl (cons_eq rfl (cons_eq (eD_miss (fun hD => hn (hcl 3 _ rfl (hcl 4 _ rfl hD 3 dc) 2 dc)) eD_nil) (cons_eq rfl (cons_eq rfl rfl))))))) ?_
         refine TO.indexVecI (k := 1) hq4 Try.underlying25 sz_21 rfl dc (dl_lookup (m := 0) rfl rfl (hd 0 dc)) (dl_lookup (m := 1) rfl rfl (hd 1 dc)) rfl rfl ?_
         exact TX.valG (v4, v5, b2) 2 (by rfl) (by rfl) rfl (dl_cons_eq (fun _ => rfl) (dl_cons_eq (fun _ => rfl) (dl_cons_eq (fun _ => rfl) (dl_cons_eq (fun _ => rfl) (dl_cons_eq (fun _ => rfl) (dl_cons_eq (fun _ => rfl) (dl_cons_eq (fun _ => rfl) (dl_cons_eq (fun _ => rfl) (dl_cons_eq (fun _ => rfl) (dl_cons_eq (fun _ => rfl) (dl_cons_eq (fun _ => rfl) rfl))))))))))) (cons_eq rfl (cons_eq rfl (cons_eq rfl (cons_eq rfl (cons_eq ((eD_skip (by rfl)).trans (eD_miss (fun hD => hn (hcl 3 _ rfl (hcl 4 _ rfl hD 3 dc) 2 dc)) eD_nil)) (cons_eq ((eD_skip (by rfl)).trans rfl) (cons_eq ((eD_skip (by rfl)).trans rfl) rfl)))))))
        ·
         intro D b hn hd hcl
         obtain ⟨v4, v5, b2⟩ := b
         refine TO.rewL (L' := [cells b1 [.string q1.e0, .string q1.e1, .string q1.e2] 85, vec (encI (.i32)) 21 1 v2 (runesOf q1.e1), vec (encI (.i32)) 21 1 v3 (runesOf q1.e2), vec enc_T_3_string 85 3 v1 r2, emp, eD D emp [(7, vec (encI (.i32)) 21 1 v5 (runesOf q1.e0))], eD D emp [(10, cells b2 [.int .i32 q4] 21)]]) (cons_eq rfl (cons_eq rfl (cons_eq rfl (cons_eq rfl (cons_eq (eD_miss (fun hD => hn (hcl 4 _ rfl hD 3 dc)) eD_nil) (cons_eq rfl (cons_eq rfl rfl))))))) ?_
         refine TO.loadVec (i := (x6 : Int).toNat) (j := 0) (k := 1) (q := q3) sc_21 encI_len rfl dc (dl_lookup (m := 2) rfl rfl (hd 2 dc)) rfl (getO_get hq4) rfl dc rfl ?_
         exact TX.valG (v4, v5, b2) 3 (by rfl) (by rfl) rfl (dl_cons_eq (fun _ => rfl) (dl_cons_eq (fun _ => rfl) (dl_cons_eq (fun _ => rfl) (dl_cons_eq (fun _ => rfl) (dl_cons_eq (fun _ => rfl) (dl_cons_eq (fun _ => rfl) (dl_cons_eq (fun _ => rfl) (dl_cons_eq (fun _ => rfl) (dl_cons_eq (fun _ => rfl) (dl_cons_eq (fun _ => rfl) (dl_cons_eq (fun _ => rfl) rfl))))))))))) (cons_eq rfl (cons_eq rfl (cons_eq rfl (cons_eq rfl (cons_eq ((eD_skip (by rfl)).trans (eD_miss (fun hD => hn (hcl 4 _ rfl hD 3 dc)) eD_nil)) (cons_eq ((eD_skip (by rfl)).trans rfl) (cons_eq ((eD_skip (by rfl)).trans rfl) rfl)))))))
        ·
         intro D b hn hd hcl
         obtain ⟨_, v5, b2⟩ := b
         refine TO.rewL (L' := [cells b1 [.string q1.e0, .string q1.e1, .string q1.e2] 85, vec (encI (.i32)) 21 1 v2 (runesOf q1.e1), vec (encI (.i32)) 21 1 v3 (runesOf q1.e2), vec enc_T_3_string 85 3 v1 r2, emp, eD D emp [(7, vec (encI (.i32)) 21 1 v5 (runesOf q1.e0))], eD D emp [(10, cells b2 [.int .i32 q4] 21)]]) (cons_eq rfl (cons_eq rfl (cons_eq rfl (cons_eq rfl (cons_eq (eD_miss hn eD_nil) (cons_eq rfl (cons_eq rfl rfl))))))) (TO.call (vs := [.int .i32 q3]) rfl dc rfl (evL.cons (dl_lookup (m := 3) rfl rfl (hd 3 dc)) evL.nil) rfl en_31 (hrec hq5) Splits.nil ?_)
         rintro v4
         show TO _ _ _ _ _ _ _ _ _ _ [cells b1 [.string q1.e0, .string q1.e1, .string q1.e2] 85, vec (encI (.i32)) 21 1 v2 (runesOf q1.e1), vec (encI (.i32)) 21 1 v3 (runesOf q1.e2), vec enc_T_3_string 85 3 v1 r2, emp, eD D emp [(7, vec (encI (.i32)) 21 1 v5 (runesOf q1.e0))], eD D emp [(10, cells b2 [.int .i32 q4] 21)], vec (encI (.i32)) 21 1 v4 r3]
         refine TO.weakenL (L' := [cells b1 [.string q1.e0, .string q1.e1, .string q1.e2] 85, vec (encI (.i32)) 21 1 v2 (runesOf q1.e1), vec (encI (.i32)) 21 1 v3 (runesOf q1.e2), vec enc_T_3_string 85 3 v1 r2, emp, eD D emp [(7, vec (encI (.i32)) 21 1 v5 (runesOf q1.e0))], eD D emp [(10, cells b2 [.int .i32 q4] 21)], vec (encI (.i32)) 21 1 v4 r3]) (Splits.of [0, 1, 2, 3, 4, 5, 6, 7] kr rfl) (TO.place 4 rfl rfl ?_)
         show TO _ _ _ _ _ _ _ _ _ _ [cells b1 [.string q1.e0, .string q1.e1, .string q1.e2] 85, vec (encI (.i32)) 21 1 v2 (runesOf q1.e1), vec (encI (.i32)) 21 1 v3 (runesOf q1.e2), vec enc_T_3_string 85 3 v1 r2, vec (encI (.i32)) 21 1 v4 r3, eD D emp [(7, vec (encI (.i32)) 21 1 v5 (runesOf q1.e0))], eD D emp [(10, cells b2 [.int .i32 q4] 21)]]
         exact TX.valG (v4, v5, b2) 4 (by rfl) (by rfl) rfl (dl_cons_eq (fun _ => rfl) (dl_cons_eq (fun _ => rfl) (dl_cons_eq (fun _ => rfl) (dl_cons_eq (fun _ => rfl) (dl_cons_eq (fun hD => absurd hD hn) (dl_cons_eq (fun _ => rfl) (dl_cons_eq (fun _ => rfl) (dl_cons_eq (fun _ => rfl) (dl_cons_eq (fun _ => rfl) (dl_cons_eq (fun _ => rfl) (dl_cons_eq (fun _ => rfl) rfl))))))))))) (cons_eq rfl (cons_eq rfl (cons_eq rfl (cons_eq rfl (cons_eq (eD_hit (Or.inr rfl) rfl) (cons_eq ((eD_skip (by rfl)).trans rfl) (cons_eq ((eD_skip (by rfl)).trans rfl) rfl)))))))
        ·
         intro D b hn hd hcl
         obtain ⟨v4, v5, b2⟩ := b
         refine TO.rewL (L' := [cells b1 [.string q1.e0, .string q1.e1, .string q1.e2] 85, vec (encI (.i32)) 21 1 v2 (runesOf q1.e1), vec (encI (.i32)) 21 1 v3 (runesOf q1.e2), vec enc_T_3_string 85 3 v1 r2, eD D emp [(4, vec (encI (.i32)) 21 1 v4 r3)], emp, emp]) (cons_eq rfl (cons_eq rfl (cons_eq rfl (cons_eq rfl (cons_eq rfl (cons_eq (eD_miss (fun hD => hn (hcl 6 _ rfl (hcl 7 _ rfl hD 6 dc) 5 dc)) eD_nil) (cons_eq (eD_miss (fun hD => hn (hcl 6 _ rfl (hcl 7 _ rfl (hcl 8 _ rfl (hcl 9 _ rfl (hcl 10 _ rfl hD 9 dc) 8 dc) 7 dc) 6 dc) 5 dc)) eD_nil) rfl))))))) ?_
         refine TO.indexArr dc Try.underlying85 sz_9 rfl dc (dl_old (by rfl) rfl) rfl (show _ = 0 from rfl) ?_
         exact TX.valG (v4, v5, b2) 5 (by rfl) (by rfl) rfl (dl_cons_eq (fun _ => rfl) (dl_cons_eq (fun _ => rfl) (dl_cons_eq (fun _ => rfl) (dl_cons_eq (fun _ => rfl) (dl_cons_eq (fun _ => rfl) (dl_cons_eq (fun _ => rfl) (dl_cons_eq (fun _ => rfl) (dl_cons_eq (fun _ => rfl) (dl_cons_eq (fun _ => rfl) (dl_cons_eq (fun _ => rfl) (dl_cons_eq (fun _ => rfl) rfl))))))))))) (cons_eq rfl (cons_eq rfl (cons_eq rfl (cons_eq rfl (cons_eq ((eD_skip (by rfl)).trans rfl) (cons_eq ((eD_skip (by rfl)).trans (eD_miss (fun hD => hn (hcl 6 _ rfl (hcl 7 _ rfl hD 6 dc) 5 dc)) eD_nil)) (cons_eq ((eD_skip (by rfl)).trans (eD_miss (fun hD => hn (hcl 6 _ rfl (hcl 7 _ rfl (hcl 8 _ rfl (hcl 9 _ rfl (hcl 10 _ rfl hD 9 dc) 8 dc) 7 dc) 6 dc) 5 dc)) eD_nil)) rfl)))))))
        ·
         intro D b hn hd hcl
         obtain ⟨v4, v5, b2⟩ := b
         refine TO.rewL (L' := [cells b1 [.string q1.e0, .string q1.e1, .string q1.e2] 85, vec (encI (.i32)) 21 1 v2 (runesOf q1.e1), vec (encI (.i32)) 21 1 v3 (runesOf q1.e2), vec enc_T_3_string 85 3 v1 r2, eD D emp [(4, vec (encI (.i32)) 21 1 v4 r3)], emp, emp]) (cons_eq rfl (cons_eq rfl (cons_eq rfl (cons_eq rfl (cons_eq rfl (cons_eq (eD_miss (fun hD => hn (hcl 7 _ rfl hD 6 dc)) eD_nil) (cons_eq (eD_miss (fun hD => hn (hcl 7 _ rfl (hcl 8 _ rfl (hcl 9 _ rfl (hcl 10 _ rfl hD 9 dc) 8 dc) 7 dc) 6 dc)) eD_nil) rfl))))))) ?_
         refine TO.load (k := 0) sc_9 rfl dc (dl_lookup (m := 5) rfl rfl (hd 5 dc)) rfl rfl ?_
         exact TX.valG (v4, v5, b2) 6 (by rfl) (by rfl) rfl (dl_cons_eq (fun _ => rfl) (dl_cons_eq (fun _ => rfl) (dl_cons_eq (fun _ => rfl) (dl_cons_eq (fun _ => rfl) (dl_cons_eq (fun _ => rfl) (dl_cons_eq (fun _ => rfl) (dl_cons_eq (fun _ => rfl) (dl_cons_eq (fun _ => rfl) (dl_cons_eq (fun _ => rfl) (dl_cons_eq (fun _ => rfl) (dl_cons_eq (fun _ => rfl) rfl))))))))))) (cons_eq rfl (cons_eq rfl (cons_eq rfl (cons_eq rfl (cons_eq ((eD_skip (by rfl)).trans rfl) (cons_eq ((eD_skip (by rfl)).trans (eD_miss (fun hD => hn (hcl 7 _ rfl hD 6 dc)) eD_nil)) (cons_eq ((eD_skip (by rfl)).trans (eD_miss (fun hD => hn (hcl 7 _ rfl (hcl 8 _ rfl (hcl 9 _ rfl (hcl 10 _ rfl hD 9 dc) 8 dc) 7 dc) 6 dc)) eD_nil)) rfl)))))))
        ·
         intro D b hn hd hcl
         obtain ⟨v4, _, b2⟩ := b
         refine TO.rewL (L' := [cells b1 [.string q1.e0, .string q1.e1, .string q1.e2] 85, vec (encI (.i32)) 21 1 v2 (runesOf q1.e1), vec (encI (.i32)) 21 1 v3 (runesOf q1.e2), vec enc_T_3_string 85 3 v1 r2, eD D emp [(4, vec (encI (.i32)) 21 1 v4 r3)], emp, emp]) (cons_eq rfl (cons_eq rfl (cons_eq rfl (cons_eq rfl (cons_eq rfl (cons_eq (eD_miss hn eD_nil) (cons_eq (eD_miss (fun hD => hn (hcl 8 _ rfl (hcl 9 _ rfl (hcl 10 _ rfl hD 9 dc) 8 dc) 7 dc)) eD_nil) rfl))))))) ?_
         refine TO.strRunes hg3 rfl dc (dl_lookup (m := 6) rfl rfl (hd 6 dc)) Try.underlying9 Try.underlying25 Try.underlying21 (fun v5 => ?_)
         refine TO.place 5 rfl rfl ?_
         show TO _ _ _ _ _ _ _ _ _ _ [cells b1 [.string q1.e0, .string q1.e1, .string q1.e2] 85, vec (encI (.i32)) 21 1 v2 (runesOf q1.e1), vec (encI (.i32)) 21 1 v3 (runesOf q1.e2), vec enc_T_3_string 85 3 v1 r2, eD D emp [(4, vec (encI (.i32)) 21 1 v4 r3)], vec (encI (.i32)) 21 1 v5 (runesOf q1.e0), emp]
         exact TX.valG (v4, v5, b2) 7 (by rfl) (by rfl) rfl (dl_cons_eq (fun _ => rfl) (dl_cons_eq (fun _ => rfl) (dl_cons_eq (fun _ => rfl) (dl_cons_eq (fun _ => rfl) (dl_cons_eq (fun _ => rfl) (dl_cons_eq (fun _ => rfl) (dl_cons_eq (fun _ => rfl) (dl_cons_eq (fun hD => absurd hD hn) (dl_cons_eq (fun hD => absurd (hcl 8 _ rfl hD 7 dc) hn) (dl_cons_eq (fun _ => rfl) (dl_cons_eq (fun _ => rfl) rfl))))))))))) (cons_eq rfl (cons_eq rfl (cons_eq rfl (cons_eq rfl (cons_eq ((eD_skip (by rfl)).trans rfl) (cons_eq (eD_hit (Or.inr rfl) rfl) (cons_eq ((eD_skip (by rfl)).trans (eD_miss (fun hD => hn (hcl 8 _ rfl (hcl 9 _ rfl (hcl 10 _ rfl hD 9 dc) 8 dc) 7 dc)) eD_nil)) rfl)))))))
        ·
         intro D b hn hd hcl
         obtain ⟨v4, v5, b2⟩ := b
         refine TO.rewL (L' := [cells b1 [.string q1.e0, .string q1.e1, .string q1.e2] 85, vec (encI (.i32)) 21 1 v2 (runesOf q1.e1), vec (encI (.i32)) 21 1 v3 (runesOf q1.e2), vec enc_T_3_string 85 3 v1 r2, eD D emp [(4, vec (encI (.i32)) 21 1 v4 r3)], vec (encI (.i32)) 21 1 v5 (runesOf q1.e0), emp]) (cons_eq rfl (cons_eq rfl (cons_eq rfl (cons_eq rfl (cons_eq rfl (cons_eq (eD_hit (hd 7 dc) rfl) (cons_eq (eD_miss (fun hD => hn (hcl 9 _ rfl (hcl 10 _ rfl hD 9 dc) 8 dc)) eD_nil) rfl))))))) ?_
         refine TO.indexVecI (k := 5) hq6 Try.underlying25 sz_21 rfl dc (dl_lookup (m := 7) rfl rfl (hd 7 dc)) rfl rfl rfl ?_
         exact TX.valG (v4, v5, b2) 8 (by rfl) (by rfl) rfl (dl_cons_eq (fun _ => rfl) (dl_cons_eq (fun _ => rfl) (dl_cons_eq (fun _ => rfl) (dl_cons_eq (fun _ => rfl) (dl_cons_eq (fun _ => rfl) (dl_cons_eq (fun _ => rfl) (dl_cons_eq (fun _ => rfl) (dl_cons_eq (fun _ => rfl) (dl_cons_eq (fun _ => rfl) (dl_cons_eq (fun _ => rfl) (dl_cons_eq (fun _ => rfl) rfl))))))))))) (cons_eq rfl (cons_eq rfl (cons_eq rfl (cons_eq rfl (cons_eq ((eD_skip (by rfl)).trans rfl) (cons_eq ((eD_skip (by rfl)).trans (eD_hit (hd 7 dc) rfl)) (cons_eq ((eD_skip (by rfl)).trans (eD_miss (fun hD => hn (hcl 9 _ rfl (hcl 10 _ rfl hD 9 dc) 8 dc)) eD_nil)) rfl)))))))
        ·
         intro D b hn hd hcl
         obtain ⟨v4, v5, b2⟩ := b
         refine TO.rewL (L' := [cells b1 [.string q1.e0, .string q1.e1, .string q1.e2] 85, vec (encI (.i32)) 21 1 v2 (runesOf q1.e1), vec (encI (.i32)) 21 1 v3 (runesOf q1.e2), vec enc_T_3_string 85 3 v1 r2, eD D emp [(4, vec (encI (.i32)) 21 1 v4 r3)], vec (encI (.i32)) 21 1 v5 (runesOf q1.e0), emp]) (cons_eq rfl (cons_eq rfl (cons_eq rfl (cons_eq rfl (cons_eq rfl (cons_eq (eD_hit (hcl 8 _ rfl (hd 8 dc) 7 dc) rfl) (cons_eq (eD_miss (fun hD => hn (hcl 10 _ rfl hD 9 dc)) eD_nil) rfl))))))) ?_
         refine TO.loadVec (i := (0 : Int).toNat) (j := 0) (k := 5) (q := q4) sc_21 encI_len rfl dc (dl_lookup (m := 8) rfl rfl (hd 8 dc)) rfl (getO_get hq6) rfl dc rfl ?_
         exact TX.valG (v4, v5, b2) 9 (by rfl) (by rfl) rfl (dl_cons_eq (fun _ => rfl) (dl_cons_eq (fun _ => rfl) (dl_cons_eq (fun _ => rfl) (dl_cons_eq (fun _ => rfl) (dl_cons_eq (fun _ => rfl) (dl_cons_eq (fun _ => rfl) (dl_cons_eq (fun _ => rfl) (dl_cons_eq (fun _ => rfl) (dl_cons_eq (fun _ => rfl) (dl_cons_eq (fun _ => rfl) (dl_cons_eq (fun _ => rfl) rfl))))))))))) (cons_eq rfl (cons_eq rfl (cons_eq rfl (cons_eq rfl (cons_eq ((eD_skip (by rfl)).trans rfl) (cons_eq ((eD_skip (by rfl)).trans (eD_hit (hcl 8 _ rfl (hd 8 dc) 7 dc) rfl)) (cons_eq ((eD_skip (by rfl)).trans (eD_miss (fun hD => hn (hcl 10 _ rfl hD 9 dc)) eD_nil)) rfl)))))))
        ·
         intro D b hn hd hcl
         obtain ⟨v4, v5, _⟩ := b
         refine TO.rewL (L' := [cells b1 [.string q1.e0, .string q1.e1, .string q1.e2] 85, vec (encI (.i32)) 21 1 v2 (runesOf q1.e1), vec (encI (.i32)) 21 1 v3 (runesOf q1.e2), vec enc_T_3_string 85 3 v1 r2, eD D emp [(4, vec (encI (.i32)) 21 1 v4 r3)], vec (encI (.i32)) 21 1 v5 (runesOf q1.e0), emp]) (cons_eq rfl (cons_eq rfl (cons_eq rfl (cons_eq rfl (cons_eq rfl (cons_eq (eD_hit (hcl 8 _ rfl (hcl 9 _ rfl (hd 9 dc) 8 dc) 7 dc) rfl) (cons_eq (eD_miss hn eD_nil) rfl))))))) ?_
         refine TO.buildSlice (cs := [.int .i32 q4]) (te := 21) (ps := [(0, .tmp 40)]) rfl dc (evP.cons (dl_lookup (m := 9) rfl rfl (hd 9 dc)) evP.nil) (fun _ => by kernel_rfl) (fun b2 => ?_)
         refine TO.place 6 rfl rfl ?_
         show TO _ _ _ _ _ _ _ _ _ _ [cells b1 [.string q1.e0, .string q1.e1, .string q1.e2] 85, vec (encI (.i32)) 21 1 v2 (runesOf q1.e1), vec (encI (.i32)) 21 1 v3 (runesOf q1.e2), vec enc_T_3_string 85 3 v1 r2, eD D emp [(4, vec (encI (.i32)) 21 1 v4 r3)], vec (encI (.i32)) 21 1 v5 (runesOf q1.e0), cells b2 [.int .i32 q4] 21]
         exact TX.valG (v4, v5, b2) 10 (by rfl) (by rfl) rfl (dl_cons_eq (fun _ => rfl) (dl_cons_eq (fun _ => rfl) (dl_cons_eq (fun _ => rfl) (dl_cons_eq (fun _ => rfl) (dl_cons_eq (fun _ => rfl) (dl_cons_eq (fun _ => rfl) (dl_cons_eq (fun _ => rfl) (dl_cons_eq (fun _ => rfl) (dl_cons_eq (fun _ => rfl) (dl_cons_eq (fun _ => rfl) (dl_cons_eq (fun hD => absurd hD hn) rfl))))))))))) (cons_eq rfl (cons_eq rfl (cons_eq rfl (cons_eq rfl (cons_eq ((eD_skip (by rfl)).trans rfl) (cons_eq ((eD_skip (by rfl)).trans (eD_hit (hcl 8 _ rfl (hcl 9 _ rfl (hd 9 dc) 8 dc) 7 dc) rfl)) (cons_eq (eD_hit (Or.inr rfl) rfl) rfl)))))))
        intro D b hall
        obtain ⟨v4, v5, b2⟩ := b
        refine TO.rewL (L' := [cells b1 [.string q1.e0, .string q1.e1, .string q1.e2] 85, vec (encI (.i32)) 21 1 v2 (runesOf q1.e1), vec (encI (.i32)) 21 1 v3 (runesOf q1.e2), vec enc_T_3_string 85 3 v1 r2, vec (encI (.i32)) 21 1 v4 r3, vec (encI (.i32)) 21 1 v5 (runesOf q1.e0), cells b2 [.int .i32 q4] 21]) (cons_eq rfl (cons_eq rfl (cons_eq rfl (cons_eq rfl (cons_eq (eD_hit (hall 4 dc) rfl) (cons_eq (eD_hit (hall 7 dc) rfl) (cons_eq (eD_hit (hall 10 dc) rfl) rfl))))))) ?_
        refine TO.appendVec (k := 4) (k2 := 6) (ys := [q4]) Try.underlying25 el_21 encI_len encI_one rfl dc rfl rfl rfl rfl rfl rfl hg4 (fun v6 => ?_)
        refine TO.assign rfl dc rfl (TO.nil (TX.next (TC.ret (TX.blockRet (TX.thenRet (TX.thenRet (TX.blockRet (TX.blockRet (TX.thenRet (TX.thenRet (TX.blockRet (TX.thenRet ?_))))))))))))
        cases h
        exact TX.fin (rs := [.tmp 2]) v6 (.inl rfl) Try.results31 (.cons (.tmp rfl) .nil) rfl (Splits.of [4] kr rfl)
       ·
        have h := condF hb3 h
        refine TC.skip (TX.blockNormal (TX.next (TC.region ?_)))
        obtain ⟨hg5, h⟩ := grdE h
        refine TO.bin rfl dc rfl rfl (bin_add (r := x6 + 1) (IntWalk.i64_in _ hg5)) (TO.move rfl dc rfl (TO.nil ?_))
        subst hag2
        exact TX.againD (n2, x6 + 1) h (Nat.lt_succ_self _) rfl (Sbs.cons rfl (Sbs.cons rfl (Sbs.cons rfl (Sbs.cons rfl (Sbs.cons rfl (Sbs.cons rfl (Sbs.cons rfl (Sbs.cons rfl (Sbs.cons rfl (Sbs.nil)))))))))) (Splits.of [0, 1, 2, 3] kr rfl)
      ·
       have h := condF hb2 h
       refine TC.exit (TX.thenExit (TX.thenExit (TX.blockHere (TX.blockNormal ?_))))
       exact TX.meetD () h rfl (Sbs.cons rfl (Sbs.cons rfl (Sbs.cons rfl (Sbs.cons rfl (Sbs.nil))))) (Splits.of [3] kr rfl)
    ·
     rintro _ h
     rw [hj2] at h
     show TC _ _ _ _ _ ([]) _ _ [(0, .int .i32 r1), (8, v1), (9, .int .i64 (r2.length : Int)), (10, .int .i64 x3)] [vec enc_T_3_string 85 3 v1 r2]
     refine TC.region ?_
     obtain ⟨hg6, h⟩ := grdE h
     refine TO.bin rfl dc rfl rfl (bin_add (r := x3 + 1) (IntWalk.i64_in _ hg6)) (TO.move rfl dc rfl (TO.nil ?_))
     subst hag1
     exact TX.againD (n1, x3 + 1) h (Nat.lt_succ_self _) rfl (Sbs.cons rfl (Sbs.cons rfl (Sbs.cons rfl (Sbs.cons rfl (Sbs.nil))))) (Splits.of [0] kr rfl)
   ·
    have h := condF hb1 h
    refine TC.exit (TX.thenExit (TX.thenExit (TX.blockHere ?_)))
    exact TX.meetD () h rfl (Sbs.cons rfl (Sbs.nil)) Splits.nil
 ·
  rintro _ h
  rw [hj1] at h
  show TC _ _ _ _ _ ([]) _ _ [(0, .int .i32 r1)] []
  refine TC.seq (TC.region (TO.move rfl dc rfl ?_))
  refine TO.buildSlice (cs := [.int .i32 r1]) (te := 21) (ps := [(0, .tmp 45)]) rfl dc rfl (fun _ => by kernel_rfl) (fun b3 => ?_)
  refine TO.assign rfl dc rfl (TO.nil (TX.next (TC.ret (TX.toVec ([r1] : List Int) (k := 0) rfl encI_len rfl (show 1 ≤ maxLen by decide) ?_))))
  show TX _ _ _ _ _ _ _ [vec (encI (.i32)) 21 1 (.slice (some ⟨b3, 0, none⟩) 1 1) ([r1] : List Int)]
  cases h
  exact TX.fin (rs := [.tmp 2]) (.slice (some ⟨b3, 0, none⟩) 1 1) (.inl rfl) Try.results31 (.cons (.tmp rfl) .nil) rfl (Splits.of [0] kr rfl)
theorem ref04_Split_fn {r1 : Int} {r : (List Int)} (h : ref04_Split_v r1 = some r) : Fn Try.prog 31 [.int .i32 r1] [] (fun v0 : Value => v0) (fun v0 => [vec (encI (.i32)) 21 1 v0 r]) := by
 unfold ref04_Split_v at h
 exact ref04_Split_fb fuel  h
def ref04_Low_s1 (r1 : Int) (j1 : Option Bool) (ag1 : Int → Option Bool) (x3 : Int) : Option Bool := bcond (decide ((x3 : Int) < 8)) ( joinK (fun (j2 : Option Bool) => andThen (getO ([(⟨790, 793⟩ : T_2_int32), (⟨796, 800⟩ : T_2_int32), (⟨803, 819⟩ : T_2_int32), (⟨825, 828⟩ : T_2_int32), (⟨837, 841⟩ : T_2_int32), (⟨845, 846⟩ : T_2_int32), (⟨851, 854⟩ : T_2_int32), (⟨857, 858⟩ : T_2_int32)] : List T_2_int32) x3) fun (q1 : T_2_int32) => bcond (decide ((q1.e0 : Int) ≤ r1)) ( bcond (decide ((r1 : Int) ≤ q1.e1)) ( some true
) ( j2
)
) ( j2
)
) ( grd (I64 (x3 + 1)) <| ag1 (x3 + 1)
)
) ( j1
)
def ref04_Low_v (r1 : Int) : Option Bool := joinK (fun (j1 : Option Bool) => loopG (fun _ => none) (ref04_Low_s1 r1 j1) fuel 0
) ( some false
)
set_option maxRecDepth 100000 in
set_option maxHeartbeats 4000000 in
theorem ref04_Low_fn {r1 : Int} {r : Bool} (h : ref04_Low_v r1 = some r) : FnP Try.prog 36 [.int .i32 r1] (.bool r) := by
 unfold ref04_Low_v at h
 refine FnP.intro Try.func36 rfl Try.ntmps36 (by simp) ?_
 intro w0 K
 obtain ⟨j1, hj1, h⟩ := joinE h
 refine TC.cutN (β := Unit) 1 rfl (fun b => j1 = some r) (fun b => []) (fun b => []) (fun b => []) (fun cut => ?_) ?_
 ·
  refine TC.seq (TC.region (TO.assign rfl dc rfl (TO.nil (TX.next (cut (TC.seq (TC.region ?_)))))))
  refine TO.build (v := .agg #[.int .i32 790, .int .i32 793]) (ps := [(0, .const (.int .i32 790)), (1, .const (.int .i32 793))]) rfl dc rfl (fun _ => by kernel_rfl) ?_
  refine TO.build (v := .agg #[.int .i32 796, .int .i32 800]) (ps := [(0, .const (.int .i32 796)), (1, .const (.int .i32 800))]) rfl dc rfl (fun _ => by kernel_rfl) ?_
  refine TO.build (v := .agg #[.int .i32 803, .int .i32 819]) (ps := [(0, .const (.int .i32 803)), (1, .const (.int .i32 819))]) rfl dc rfl (fun _ => by kernel_rfl) ?_
  refine TO.build (v := .agg #[.int .i32 825, .int .i32 828]) (ps := [(0, .const (.int .i32 825)), (1, .const (.int .i32 828))]) rfl dc rfl (fun _ => by kernel_rfl) ?_
  refine TO.build (v := .agg #[.int .i32 837, .int .i32 841]) (ps := [(0, .const (.int .i32 837)), (1, .const (.int .i32 841))]) rfl dc rfl (fun _ => by kernel_rfl) ?_
  refine TO.build (v := .agg #[.int .i32 845, .int .i32 846]) (ps := [(0, .const (.int .i32 845)), (1, .const (.int .i32 846))]) rfl dc rfl (fun _ => by kernel_rfl) ?_
  refine TO.build (v := .agg #[.int .i32 851, .int .i32 854]) (ps := [(0, .const (.int .i32 851)), (1, .const (.int .i32 854))]) rfl dc rfl (fun _ => by kernel_rfl) ?_
  refine TO.build (v := .agg #[.int .i32 857, .int .i32 858]) (ps := [(0, .const (.int .i32 857)), (1, .const (.int .i32 858))]) rfl dc rfl (fun _ => by kernel_rfl) ?_
  refine TO.build (v := .agg #[.int .i32 790, .int .i32 793, .int .i32 796, .int .i32 800, .int .i32 803, .int .i32 819, .int .i32 825, .int .i32 828, .int .i32 837, .int .i32 841, .int .i32 845, .int .i32 846, .int .i32 851, .int .i32 854, .int .i32 857, .int .i32 858]) (ps := [(0, .tmp 5), (1, .tmp 6), (2, .tmp 7), (3, .tmp 8), (4, .tmp 9), (5, .tmp 10), (6, .tmp 11), (7, .tmp 12)]) rfl dc rfl (fun _ => by kernel_rfl) ?_
  refine TO.move rfl dc rfl (TO.nil (TX.next (TC.block ?_)))
  refine TC.loopD (β := Nat × Int) (fun b => loopG (fun _ => none) (ref04_Low_s1 r1 j1) b.1 b.2 = some r) (fun b => []) (fun b => [(0, .int .i32 r1), (13, .agg #[.int .i32 790, .int .i32 793, .int .i32 796, .int .i32 800, .int .i32 803, .int .i32 819, .int .i32 825, .int .i32 828, .int .i32 837, .int .i32 841, .int .i32 845, .int .i32 846, .int .i32 851, .int .i32 854, .int .i32 857, .int .i32 858]), (14, .int .i64 b.2)]) (fun b => []) (fun b => b.1) (fuel, 0) h rfl (Sbs.cons rfl (Sbs.cons rfl (Sbs.cons rfl (Sbs.nil)))) Splits.nil ?_
  rintro ⟨n1, x3⟩ h
  cases n1 with
  | zero => exact noneE h
  | succ n1 =>
   obtain ⟨ag1, hag1⟩ : ∃ ag, ag = loopG (fun _ => none) (ref04_Low_s1 r1 j1) n1 := ⟨_, rfl⟩
   have h : ref04_Low_s1 r1 j1 ag1 x3 = some r := by rw [hag1]; exact h
   unfold ref04_Low_s1 at h
   show TC _ _ _ _ _ ([]) _ _ [(0, .int .i32 r1), (13, .agg #[.int .i32 790, .int .i32 793, .int .i32 796, .int .i32 800, .int .i32 803, .int .i32 819, .int .i32 825, .int .i32 828, .int .i32 837, .int .i32 841, .int .i32 845, .int .i32 846, .int .i32 851, .int .i32 854, .int .i32 857, .int .i32 858]), (14, .int .i64 x3)] []
   refine TC.seq (TC.region (TO.bin rfl dc rfl rfl bin_lss (TO.nil (TX.next (TC.seq ?_)))))
   refine TC.condB rfl (fun hb1 => ?_) (fun hb1 => ?_)
   ·
    have h := condT hb1 h
    refine TC.skip (TX.next ?_)
    obtain ⟨j2, hj2, h⟩ := joinE h
    refine TC.cutN (β := Unit) 0 rfl (fun b => j2 = some r) (fun b => []) (fun b => [(0, .int .i32 r1), (13, .agg #[.int .i32 790, .int .i32 793, .int .i32 796, .int .i32 800, .int .i32 803, .int .i32 819, .int .i32 825, .int .i32 828, .int .i32 837, .int .i32 841, .int .i32 845, .int .i32 846, .int .i32 851, .int .i32 854, .int .i32 857, .int .i32 858]), (14, .int .i64 x3)]) (fun b => []) (fun cut => ?_) ?_
    ·
     refine cut (TC.block (TC.seq (TC.region ?_)))
     obtain ⟨q1, hq1, h⟩ := andE h
     refine TO.index (v := .agg #[.int .i32 q1.e0, .int .i32 q1.e1]) rfl dc rfl rfl (index_arr (enc := enc_T_2_int32) (xs := ([(⟨790, 793⟩ : T_2_int32), (⟨796, 800⟩ : T_2_int32), (⟨803, 819⟩ : T_2_int32), (⟨825, 828⟩ : T_2_int32), (⟨837, 841⟩ : T_2_int32), (⟨845, 846⟩ : T_2_int32), (⟨851, 854⟩ : T_2_int32), (⟨857, 858⟩ : T_2_int32)] : List T_2_int32)) (q := q1) Try.underlying87 sz_78 rfl enc_T_2_int32_len hq1 (fun _ => part_row (enc := enc_T_2_int32) rw_78 enc_T_2_int32_len (getO_get hq1))) ?_
     refine TO.alloc zr_78 rfl dc (fun b1 => ?_)
     refine TO.stores (k := 0) (vs := [.int .i32 q1.e0, .int .i32 q1.e1]) (l' := [.int .i32 q1.e0, .int .i32 q1.e1]) sz_78 rfl rfl rfl rfl rfl (show _ ≤ _ by simp) rfl rfl ?_
     show TO _ _ _ _ _ _ _ _ _ _ [cells b1 [.int .i32 q1.e0, .int .i32 q1.e1] 78]
     refine TO.nil (TX.next (TC.seq (TC.region (TO.move rfl dc rfl (TO.indexArr dc Try.underlying78 sz_21 rfl dc rfl rfl (show _ = 0 from rfl) (TO.load (k := 0) sc_21 rfl dc rfl rfl rfl (TO.bin rfl dc rfl rfl bin_geq (TO.move rfl dc rfl ?_))))))))
     refine TO.split (s := 21) rfl (fun hb2 => ?_) (fun hb2 => ?_)
     ·
      have h := condT hb2 h
      refine TO.move rfl dc rfl (TO.indexArr dc Try.underlying78 sz_21 rfl dc rfl rfl (show _ = 1 from rfl) (TO.load (k := 0) sc_21 rfl dc rfl rfl rfl (TO.bin rfl dc rfl rfl bin_leq (TO.pick (b := true) rfl dc rfl rfl (TO.nil (TX.next ?_))))))
      refine TC.condB rfl (fun hb3 => ?_) (fun hb3 => ?_)
      ·
       have h := condT hb3 h
       refine TC.seq (TC.region (TO.assign rfl dc rfl (TO.nil (TX.next (TC.ret (TX.blockRet (TX.thenRet (TX.thenRet (TX.blockRet (TX.thenRet ?_))))))))))
       cases h
       exact TX.fin (rs := [.tmp 2]) () (.inl rfl) Try.results36 (.cons (.tmp rfl) .nil) rfl Splits.nil
      ·
       have h := condF hb3 h
       refine TC.skip (TX.blockNormal ?_)
       exact TX.meetD () h rfl (Sbs.cons rfl (Sbs.cons rfl (Sbs.cons rfl (Sbs.nil)))) Splits.nil
     ·
      have h := condF hb2 h
      refine TO.skip rfl dc (TO.skip rfl dc (TO.skip rfl dc (TO.skip rfl dc (TO.pick (b := false) rfl dc rfl rfl (TO.nil (TX.next (TC.condF rfl (TC.skip (TX.blockNormal ?_)))))))))
      exact TX.meetD () h rfl (Sbs.cons rfl (Sbs.cons rfl (Sbs.cons rfl (Sbs.nil)))) Splits.nil
    ·
     rintro _ h
     rw [hj2] at h
     show TC _ _ _ _ _ ([]) _ _ [(0, .int .i32 r1), (13, .agg #[.int .i32 790, .int .i32 793, .int .i32 796, .int .i32 800, .int .i32 803, .int .i32 819, .int .i32 825, .int .i32 828, .int .i32 837, .int .i32 841, .int .i32 845, .int .i32 846, .int .i32 851, .int .i32 854, .int .i32 857, .int .i32 858]), (14, .int .i64 x3)] []
     refine TC.region ?_
     obtain ⟨hg1, h⟩ := grdE h
     refine TO.bin rfl dc rfl rfl (bin_add (r := x3 + 1) (IntWalk.i64_in _ hg1)) (TO.move rfl dc rfl (TO.nil ?_))
     subst hag1
     exact TX.againD (n1, x3 + 1) h (Nat.lt_succ_self _) rfl (Sbs.cons rfl (Sbs.cons rfl (Sbs.cons rfl (Sbs.nil)))) Splits.nil
   ·
    have h := condF hb1 h
    refine TC.exit (TX.thenExit (TX.thenExit (TX.blockHere ?_)))
    exact TX.meetD () h rfl (Sbs.nil) Splits.nil
 ·
  rintro _ h
  rw [hj1] at h
  show TC _ _ _ _ _ ([]) _ _ [] []
  refine TC.seq (TC.region (TO.assign rfl dc rfl (TO.nil (TX.next (TC.ret ?_)))))
  cases h
  exact TX.fin (rs := [.tmp 2]) () (.inl rfl) Try.results36 (.cons (.tmp rfl) .nil) rfl Splits.nil
def ref04_Letter_v (r1 : Int) : Option Bool := grd (I32 r1) <| bcond (great r1) ( some true
) ( grd (I32 r1) <| some (small r1)
)
set_option maxRecDepth 100000 in
set_option maxHeartbeats 4000000 in
theorem ref04_Letter_fn {r1 : Int} {r : Bool} (h : ref04_Letter_v r1 = some r) : FnP Try.prog 72 [.int .i32 r1] (.bool r) := by
 unfold ref04_Letter_v at h
 refine FnP.intro Try.func72 rfl Try.ntmps72 (by simp) ?_
 intro w0 K
 refine TC.seq (TC.region (TO.assign rfl dc rfl (TO.nil (TX.next (TC.seq (TC.region (TO.move rfl dc rfl ?_)))))))
 obtain ⟨hg1, h⟩ := grdE h
 refine TO.callP (v := .bool (great r1)) (vs := [.int .i32 r1]) rfl dc rfl rfl rfl en_79 (FnP.of_same fun w => rgreat_any r1 w hg1.1 hg1.2) ?_
 refine TO.move rfl dc rfl ?_
 refine TO.split (s := 5) rfl (fun hb1 => ?_) (fun hb1 => ?_)
 ·
  have h := condT hb1 h
  refine TO.skip rfl dc (TO.skip rfl dc (TO.pick (b := true) rfl dc rfl rfl (TO.assign rfl dc rfl (TO.nil (TX.next (TC.ret ?_))))))
  cases h
  exact TX.fin (rs := [.tmp 2]) () (.inl rfl) Try.results72 (.cons (.tmp rfl) .nil) rfl Splits.nil
 ·
  have h := condF hb1 h
  refine TO.move rfl dc rfl ?_
  obtain ⟨hg2, h⟩ := grdE h
  refine TO.callP (v := .bool (small r1)) (vs := [.int .i32 r1]) rfl dc rfl rfl rfl en_83 (FnP.of_same fun w => rsmall_any r1 w hg2.1 hg2.2) ?_
  refine TO.pick (b := false) rfl dc rfl rfl (TO.assign rfl dc rfl (TO.nil (TX.next (TC.ret ?_))))
  cases h
  exact TX.fin (rs := [.tmp 2]) () (.inl rfl) Try.results72 (.cons (.tmp rfl) .nil) rfl Splits.nil
def ref04_Mark_v (r1 : Int) : Option Bool := bcond (decide ((768 : Int) ≤ r1)) ( some (decide ((r1 : Int) ≤ 879))
) ( some false
)
set_option maxRecDepth 100000 in
set_option maxHeartbeats 4000000 in
theorem ref04_Mark_fn {r1 : Int} {r : Bool} (h : ref04_Mark_v r1 = some r) : FnP Try.prog 84 [.int .i32 r1] (.bool r) := by
 unfold ref04_Mark_v at h
 refine FnP.intro Try.func84 rfl Try.ntmps84 (by simp) ?_
 intro w0 K
 refine TC.seq (TC.region (TO.assign rfl dc rfl (TO.nil (TX.next (TC.seq (TC.region (TO.move rfl dc rfl (TO.bin rfl dc rfl rfl bin_geq (TO.move rfl dc rfl ?_)))))))))
 refine TO.split (s := 5) rfl (fun hb1 => ?_) (fun hb1 => ?_)
 ·
  have h := condT hb1 h
  refine TO.move rfl dc rfl (TO.bin rfl dc rfl rfl bin_leq (TO.pick (b := true) rfl dc rfl rfl (TO.assign rfl dc rfl (TO.nil (TX.next (TC.ret ?_))))))
  cases h
  exact TX.fin (rs := [.tmp 2]) () (.inl rfl) Try.results84 (.cons (.tmp rfl) .nil) rfl Splits.nil
 ·
  have h := condF hb1 h
  refine TO.skip rfl dc (TO.skip rfl dc (TO.pick (b := false) rfl dc rfl rfl (TO.assign rfl dc rfl (TO.nil (TX.next (TC.ret ?_))))))
  cases h
  exact TX.fin (rs := [.tmp 2]) () (.inl rfl) Try.results84 (.cons (.tmp rfl) .nil) rfl Splits.nil
def ref04_Item_letter_v (x1 : Gref04_Item) : Option Bool := bcond (decide ((0 : Int) ≤ x1.Rune)) ( andThen (ref04_Letter_v x1.Rune) fun (r1 : Bool) => some r1
) ( some false
)
set_option maxRecDepth 100000 in
set_option maxHeartbeats 4000000 in
theorem ref04_Item_letter_fn {x1 : Gref04_Item} {r : Bool} (h : ref04_Item_letter_v x1 = some r) : FnP Try.prog 53 [.agg #[.int .i32 x1.Rune, .string x1.Text, .int .i64 x1.At]] (.bool r) := by
 unfold ref04_Item_letter_v at h
 refine FnP.intro Try.func53 rfl Try.ntmps53 (by simp) ?_
 intro w0 K
 refine TC.seq (TC.region ?_)
 refine TO.box rfl dc rfl (fun b1 => ?_)
 refine TO.assign rfl dc rfl (TO.nil (TX.next (TC.seq (TC.region (TO.fieldAddr fl_68_0 rfl dc rfl (show _ = 0 from rfl) (TO.load (k := 0) sc_21 rfl dc rfl rfl rfl (TO.bin rfl dc rfl rfl bin_geq (TO.move rfl dc rfl ?_))))))))
 refine TO.split (s := 6) rfl (fun hb1 => ?_) (fun hb1 => ?_)
 ·
  have h := condT hb1 h
  refine TO.fieldAddr fl_68_0 rfl dc rfl (show _ = 0 from rfl) (TO.load (k := 0) sc_21 rfl dc rfl rfl rfl ?_)
  obtain ⟨r1, hq1, h⟩ := andE h
  refine TO.callP (v := .bool r1) (vs := [.int .i32 x1.Rune]) rfl dc rfl rfl rfl en_72 (ref04_Letter_fn hq1) (TO.pick (b := true) rfl dc rfl rfl (TO.assign rfl dc rfl (TO.nil (TX.next (TC.ret ?_)))))
  cases h
  exact TX.fin (rs := [.tmp 2]) () (.inl rfl) Try.results53 (.cons (.tmp rfl) .nil) rfl Splits.nil
 ·
  have h := condF hb1 h
  refine TO.skip rfl dc (TO.skip rfl dc (TO.skip rfl dc (TO.pick (b := false) rfl dc rfl rfl (TO.assign rfl dc rfl (TO.nil (TX.next (TC.ret ?_)))))))
  cases h
  exact TX.fin (rs := [.tmp 2]) () (.inl rfl) Try.results53 (.cons (.tmp rfl) .nil) rfl Splits.nil
def ref04_Item_mark_v (x1 : Gref04_Item) : Option Bool := bcond (decide ((0 : Int) ≤ x1.Rune)) ( andThen (ref04_Mark_v x1.Rune) fun (r1 : Bool) => some r1
) ( some false
)
set_option maxRecDepth 100000 in
set_option maxHeartbeats 4000000 in
theorem ref04_Item_mark_fn {x1 : Gref04_Item} {r : Bool} (h : ref04_Item_mark_v x1 = some r) : FnP Try.prog 73 [.agg #[.int .i32 x1.Rune, .string x1.Text, .int .i64 x1.At]] (.bool r) := by
 unfold ref04_Item_mark_v at h
 refine FnP.intro Try.func73 rfl Try.ntmps73 (by simp) ?_
 intro w0 K
 refine TC.seq (TC.region ?_)
 refine TO.box rfl dc rfl (fun b1 => ?_)
 refine TO.assign rfl dc rfl (TO.nil (TX.next (TC.seq (TC.region (TO.fieldAddr fl_68_0 rfl dc rfl (show _ = 0 from rfl) (TO.load (k := 0) sc_21 rfl dc rfl rfl rfl (TO.bin rfl dc rfl rfl bin_geq (TO.move rfl dc rfl ?_))))))))
 refine TO.split (s := 6) rfl (fun hb1 => ?_) (fun hb1 => ?_)
 ·
  have h := condT hb1 h
  refine TO.fieldAddr fl_68_0 rfl dc rfl (show _ = 0 from rfl) (TO.load (k := 0) sc_21 rfl dc rfl rfl rfl ?_)
  obtain ⟨r1, hq1, h⟩ := andE h
  refine TO.callP (v := .bool r1) (vs := [.int .i32 x1.Rune]) rfl dc rfl rfl rfl en_84 (ref04_Mark_fn hq1) (TO.pick (b := true) rfl dc rfl rfl (TO.assign rfl dc rfl (TO.nil (TX.next (TC.ret ?_)))))
  cases h
  exact TX.fin (rs := [.tmp 2]) () (.inl rfl) Try.results73 (.cons (.tmp rfl) .nil) rfl Splits.nil
 ·
  have h := condF hb1 h
  refine TO.skip rfl dc (TO.skip rfl dc (TO.skip rfl dc (TO.pick (b := false) rfl dc rfl rfl (TO.assign rfl dc rfl (TO.nil (TX.next (TC.ret ?_)))))))
  cases h
  exact TX.fin (rs := [.tmp 2]) () (.inl rfl) Try.results73 (.cons (.tmp rfl) .nil) rfl Splits.nil
def ref04_Items_s1 (s1 : ByteArray) (j1 : (List Gref04_Item) → Option (List Gref04_Item)) (r1 : (List Gapi_Piece)) (ag1 : (List Gref04_Item) → Int → Option (List Gref04_Item)) (l4 : List Gref04_Item) (x3 : Int) : Option (List Gref04_Item) := bcond (decide ((x3 : Int) < (r1.length : Int))) ( joinK (fun (j2 : Int → ByteArray → Int → Option (List Gref04_Item)) => andThen (getO r1 x3) fun (q1 : Gapi_Piece) => andThen (ref01_Text_v s1 q1) fun (r2 : ByteArray) => bcond (q1.Broken) ( j2 (-1) r2 q1.At
) ( j2 q1.Rune r2 q1.At
)
) (fun (x4 : Int) (x5 : ByteArray) (x6 : Int) => grd (l4.length + 1 ≤ 2147483648) <| grd (I64 (x3 + 1)) <| ag1 (l4 ++ [(⟨x4, x5, x6⟩ : Gref04_Item)]) (x3 + 1)
)
) ( j1 l4
)
def ref04_Items_v (s1 : ByteArray) : Option (List Gref04_Item) := joinK (fun (j1 : (List Gref04_Item) → Option (List Gref04_Item)) => andThen (ref01_Pieces_v s1) fun (r1 : (List Gapi_Piece)) => loopG (fun _ _ => none) (ref04_Items_s1 s1 j1 r1) fuel ([] : List Gref04_Item) 0
) (fun (l1 : List Gref04_Item) => some l1
)
set_option maxRecDepth 100000 in
set_option maxHeartbeats 4000000 in
theorem ref04_Items_fn {s1 : ByteArray} {r : (List Gref04_Item)} (h : ref04_Items_v s1 = some r) : Fn Try.prog 50 [.string s1] [] (fun v0 : Value => v0) (fun v0 => [vec enc_Gref04_Item 68 3 v0 r]) := by
 unfold ref04_Items_v at h
 refine Fn.intro Try.func50 rfl Try.ntmps50 (by simp) ?_
 intro w0 K
 obtain ⟨j1, hj1, h⟩ := joinE h
 refine TC.cutN (β := (List Gref04_Item) × Value) 2 rfl (fun b => j1 b.1 = some r) (fun b => []) (fun b => [(3, b.2)]) (fun b => [vec enc_Gref04_Item 68 3 b.2 b.1]) (fun cut => ?_) ?_
 ·
  refine TC.seq (TC.region (TO.assign rfl dc rfl (TO.nil (TX.next (TC.seq (TC.region (TO.assign rfl dc rfl (TO.nil (TX.next (cut (TC.seq (TC.region (TO.move rfl dc rfl ?_)))))))))))))
  obtain ⟨r1, hq1, h⟩ := andE h
  refine TO.call (vs := [.string s1]) rfl dc rfl rfl rfl en_70 (ref01_Pieces_fn hq1) Splits.nil ?_
  rintro v2
  show TO _ _ _ _ _ _ _ _ _ _ [vec enc_Gapi_Piece 89 4 v2 r1]
  refine TO.lenVec (k := 0) rfl dc rfl rfl Try.underlying98 (TO.move rfl dc rfl (TO.nil (TX.next (TC.block (TC.newVec (enc := enc_Gref04_Item) (e := 68) (size := 3) ?_)))))
  show TC _ _ _ _ _ _ _ _ _ [vec enc_Gapi_Piece 89 4 v2 r1, vec enc_Gref04_Item 68 3 (.slice none 0 0) ([] : List Gref04_Item)]
  refine TC.loopD (β := Nat × (List Gref04_Item) × Int × Value) (fun b => loopG (fun _ _ => none) (ref04_Items_s1 s1 j1 r1) b.1 b.2.1 b.2.2.1 = some r) (fun b => []) (fun b => [(0, .string s1), (3, b.2.2.2), (8, v2), (9, .int .i64 (r1.length : Int)), (10, .int .i64 b.2.2.1)]) (fun b => [vec enc_Gref04_Item 68 3 b.2.2.2 b.2.1, vec enc_Gapi_Piece 89 4 v2 r1]) (fun b => b.1) (fuel, ([] : List Gref04_Item), 0, (.slice none 0 0)) h rfl (Sbs.cons rfl (Sbs.cons rfl (Sbs.cons rfl (Sbs.cons rfl (Sbs.cons rfl (Sbs.nil)))))) (Splits.of [1, 0] kr rfl) ?_
  rintro ⟨n1, l4, x3, v5⟩ h
  cases n1 with
  | zero => exact noneE h
  | succ n1 =>
   obtain ⟨ag1, hag1⟩ : ∃ ag, ag = loopG (fun _ _ => none) (ref04_Items_s1 s1 j1 r1) n1 := ⟨_, rfl⟩
   have h : ref04_Items_s1 s1 j1 r1 ag1 l4 x3 = some r := by rw [hag1]; exact h
   unfold ref04_Items_s1 at h
   show TC _ _ _ _ _ ([]) _ _ [(0, .string s1), (3, v5), (8, v2), (9, .int .i64 (r1.length : Int)), (10, .int .i64 x3)] [vec enc_Gref04_Item 68 3 v5 l4, vec enc_Gapi_Piece 89 4 v2 r1]
   refine TC.seq (TC.region (TO.bin rfl dc rfl rfl bin_lss (TO.nil (TX.next (TC.seq ?_)))))
   refine TC.condB rfl (fun hb1 => ?_) (fun hb1 => ?_)
   ·
    have h := condT hb1 h
    refine TC.skip (TX.next (TC.seq (TC.block ?_)))
    obtain ⟨j2, hj2, h⟩ := joinE h
    refine TC.cutN (β := Int × ByteArray × Int × Nat) 2 rfl (fun b => j2 b.1 b.2.1 b.2.2.1 = some r) (fun b => []) (fun b => [(0, .string s1), (3, v5), (6, .pointer (some ⟨b.2.2.2, 0, none⟩)), (8, v2), (9, .int .i64 (r1.length : Int)), (10, .int .i64 x3)]) (fun b => [vec enc_Gref04_Item 68 3 v5 l4, cells b.2.2.2 [.int .i32 b.1, .string b.2.1, .int .i64 b.2.2.1] 68, vec enc_Gapi_Piece 89 4 v2 r1]) (fun cut => ?_) ?_
    ·
     refine TC.seq (TC.region ?_)
     obtain ⟨q1, hq2, h⟩ := andE h
     refine TO.indexVecI (k := 1) hq2 Try.underlying98 sz_89 rfl dc rfl rfl rfl rfl (TO.loadsVec (i := (x3 : Int).toNat) (j := 0) (k := 1) (q := q1) (cs := [.int .i64 q1.At, .int .i64 q1.Width, .int .i32 q1.Rune, .bool q1.Broken]) rw_89 enc_Gapi_Piece_len rfl dc rfl rfl (getO_get hq2) rfl rfl rfl ?_)
     refine TO.alloc zr_89 rfl dc (fun b2 => ?_)
     refine TO.stores (k := 2) (vs := [.int .i64 q1.At, .int .i64 q1.Width, .int .i32 q1.Rune, .bool q1.Broken]) (l' := [.int .i64 q1.At, .int .i64 q1.Width, .int .i32 q1.Rune, .bool q1.Broken]) sz_89 rfl rfl rfl rfl rfl (show _ ≤ _ by simp) rfl rfl ?_
     show TO _ _ _ _ _ _ _ _ _ _ [vec enc_Gref04_Item 68 3 v5 l4, vec enc_Gapi_Piece 89 4 v2 r1, cells b2 [.int .i64 q1.At, .int .i64 q1.Width, .int .i32 q1.Rune, .bool q1.Broken] 89]
     refine TO.nil (TX.next (TC.seq ?_))
     obtain ⟨r2, hq3, h⟩ := andE h
     refine TC.drawB (β := Nat) 9 8 _ [(0, 14, .pointer (some ⟨b2, 2, none⟩)), (1, 15, .int .i32 q1.Rune), (2, 16, .string s1), (3, 17, .agg #[.int .i64 q1.At, .int .i64 q1.Width, .int .i32 q1.Rune, .bool q1.Broken]), (4, 18, .string r2), (5, 19, .pointer (some ⟨b2, 0, none⟩)), (6, 20, .int .i64 q1.At), (7, 21, .agg #[.int .i32 q1.Rune, .string r2, .int .i64 q1.At])] (fun b3 => [(6, .pointer (some ⟨b3, 0, none⟩))]) (fun b3 => [vec enc_Gref04_Item 68 3 v5 l4, vec enc_Gapi_Piece 89 4 v2 r1, cells b2 [.int .i64 q1.At, .int .i64 q1.Width, .int .i32 q1.Rune, .bool q1.Broken] 89, cells b3 [.int .i32 0, .string ByteArray.empty, .int .i64 0] 68]) mixed kr kr rfl dc dc (by rfl) kr kr (DrawPreX.cons ?_ (DrawPreX.cons ?_ (DrawPreX.cons ?_ (DrawPreX.cons ?_ (DrawPreX.cons ?_ (DrawPreX.cons ?_ (DrawPreX.cons ?_ (DrawPreX.cons ?_ (DrawPreX.here DrawPreX.nil))))))))) (fun b3 => (DrawPreX.cons ?_ (DrawPreX.cons ?_ (DrawPreX.cons ?_ (DrawPreX.cons ?_ (DrawPreX.cons ?_ (DrawPreX.cons ?_ (DrawPreX.cons ?_ (DrawPreX.cons ?_ (DrawPreX.here DrawPreX.nil)))))))))) ?_ ?_
     ·
      intro D hn hd hcl hu hi
      refine TO.fieldAddr fl_89_2 rfl dc (dl_old (by rfl) rfl) (show _ = 2 from rfl) ?_
      exact TX.quiet 0 hu hi rfl
     ·
      intro D hn hd hcl hu hi
      refine TO.load (k := 2) sc_21 rfl dc (dl_lookup (m := 0) hu rfl (hd 0 dc)) rfl rfl ?_
      exact TX.quiet 1 hu hi rfl
     ·
      intro D hn hd hcl hu hi
      refine TO.move rfl dc (dl_old (by rfl) rfl) ?_
      exact TX.quiet 2 hu hi rfl
     ·
      intro D hn hd hcl hu hi
      refine TO.loads (k := 2) (cs := [.int .i64 q1.At, .int .i64 q1.Width, .int .i32 q1.Rune, .bool q1.Broken]) rw_89 rfl dc (dl_old (by rfl) rfl) rfl rfl rfl ?_
      exact TX.quiet 3 hu hi rfl
     ·
      intro D hn hd hcl hu hi
      refine TO.callP (v := .string r2) (vs := [.string s1, .agg #[.int .i64 q1.At, .int .i64 q1.Width, .int .i32 q1.Rune, .bool q1.Broken]]) rfl dc rfl (evL.cons (dl_lookup (m := 2) hu rfl (hd 2 dc)) (evL.cons (dl_lookup (m := 3) hu rfl (hd 3 dc)) evL.nil)) rfl en_71 (ref01_Text_fn (p1 := q1) hq3) ?_
      exact TX.quiet 4 hu hi rfl
     ·
      intro D hn hd hcl hu hi
      refine TO.fieldAddr fl_89_0 rfl dc (dl_old (by rfl) rfl) (show _ = 0 from rfl) ?_
      exact TX.quiet 5 hu hi rfl
     ·
      intro D hn hd hcl hu hi
      refine TO.load (k := 2) sc_3 rfl dc (dl_lookup (m := 5) hu rfl (hd 5 dc)) rfl rfl ?_
      exact TX.quiet 6 hu hi rfl
     ·
      intro D hn hd hcl hu hi
      refine TO.build (v := .agg #[.int .i32 q1.Rune, .string r2, .int .i64 q1.At]) (ps := [(0, .tmp 15), (1, .tmp 18), (2, .tmp 20)]) rfl dc (evP.cons (dl_lookup (m := 1) hu rfl (hd 1 dc)) (evP.cons (dl_lookup (m := 4) hu rfl (hd 4 dc)) (evP.cons (dl_lookup (m := 6) hu rfl (hd 6 dc)) evP.nil))) (fun _ => by kernel_rfl) ?_
      exact TX.quiet 7 hu hi rfl
     ·
      intro D hn hd hcl hu hi
      refine TO.fieldAddr fl_89_2 rfl dc (dl_old (by rfl) rfl) (show _ = 2 from rfl) ?_
      exact TX.quiet 0 hu hi rfl
     ·
      intro D hn hd hcl hu hi
      refine TO.load (k := 2) sc_21 rfl dc (dl_lookup (m := 0) hu rfl (hd 0 dc)) rfl rfl ?_
      exact TX.quiet 1 hu hi rfl
     ·
      intro D hn hd hcl hu hi
      refine TO.move rfl dc (dl_old (by rfl) rfl) ?_
      exact TX.quiet 2 hu hi rfl
     ·
      intro D hn hd hcl hu hi
      refine TO.loads (k := 2) (cs := [.int .i64 q1.At, .int .i64 q1.Width, .int .i32 q1.Rune, .bool q1.Broken]) rw_89 rfl dc (dl_old (by rfl) rfl) rfl rfl rfl ?_
      exact TX.quiet 3 hu hi rfl
     ·
      intro D hn hd hcl hu hi
      refine TO.callP (v := .string r2) (vs := [.string s1, .agg #[.int .i64 q1.At, .int .i64 q1.Width, .int .i32 q1.Rune, .bool q1.Broken]]) rfl dc rfl (evL.cons (dl_lookup (m := 2) hu rfl (hd 2 dc)) (evL.cons (dl_lookup (m := 3) hu rfl (hd 3 dc)) evL.nil)) rfl en_71 (ref01_Text_fn (p1 := q1) hq3) ?_
      exact TX.quiet 4 hu hi rfl
     ·
      intro D hn hd hcl hu hi
      refine TO.fieldAddr fl_89_0 rfl dc (dl_old (by rfl) rfl) (show _ = 0 from rfl) ?_
      exact TX.quiet 5 hu hi rfl
     ·
      intro D hn hd hcl hu hi
      refine TO.load (k := 2) sc_3 rfl dc (dl_lookup (m := 5) hu rfl (hd 5 dc)) rfl rfl ?_
      exact TX.quiet 6 hu hi rfl
     ·
      intro D hn hd hcl hu hi
      refine TO.build (v := .agg #[.int .i32 q1.Rune, .string r2, .int .i64 q1.At]) (ps := [(0, .tmp 15), (1, .tmp 18), (2, .tmp 20)]) rfl dc (evP.cons (dl_lookup (m := 1) hu rfl (hd 1 dc)) (evP.cons (dl_lookup (m := 4) hu rfl (hd 4 dc)) (evP.cons (dl_lookup (m := 6) hu rfl (hd 6 dc)) evP.nil))) (fun _ => by kernel_rfl) ?_
      exact TX.quiet 7 hu hi rfl
     ·
      intro D hn hd hcl
      refine TO.alloc zr_68 rfl dc (fun b3 => ?_)
      exact fun a w ha hw => ⟨b3, Sbs.mid (by rfl) _ _ _ ha, hw⟩
     intro b3
     show TO _ _ _ _ _ _ _ _ _ _ [vec enc_Gref04_Item 68 3 v5 l4, vec enc_Gapi_Piece 89 4 v2 r1, cells b2 [.int .i64 q1.At, .int .i64 q1.Width, .int .i32 q1.Rune, .bool q1.Broken] 89, cells b3 [.int .i32 0, .string ByteArray.empty, .int .i64 0] 68]
     refine TO.stores (k := 3) (vs := [.int .i32 q1.Rune, .string r2, .int .i64 q1.At]) (l' := [.int .i32 q1.Rune, .string r2, .int .i64 q1.At]) sz_68 rfl rfl rfl rfl rfl (show _ ≤ _ by simp) rfl rfl (TO.nil (TX.next (cut (TC.seq (TC.region (TO.fieldAddr fl_89_3 rfl dc rfl (show _ = 3 from rfl) (TO.load (k := 2) sc_4 rfl dc rfl rfl rfl (TO.nil (TX.next ?_)))))))))
     refine TC.condB rfl (fun hb2 => ?_) (fun hb2 => ?_)
     ·
      have h := condT hb2 h
      refine TC.region (TO.fieldAddr fl_68_0 rfl dc rfl (show _ = 0 from rfl) ?_)
      refine TO.store (k := 3) (l' := [.int .i32 (-1), .string r2, .int .i64 q1.At]) sz_21 rfl rfl rfl rfl rfl (fun _ _ => rfl) rfl ?_
      show TO _ _ _ _ _ _ _ _ _ _ [vec enc_Gref04_Item 68 3 v5 l4, vec enc_Gapi_Piece 89 4 v2 r1, cells b2 [.int .i64 q1.At, .int .i64 q1.Width, .int .i32 q1.Rune, .bool q1.Broken] 89, cells b3 [.int .i32 (-1), .string r2, .int .i64 q1.At] 68]
      refine TO.nil ?_
      exact TX.meetD ((-1), r2, q1.At, b3) h rfl (Sbs.cons rfl (Sbs.cons rfl (Sbs.cons rfl (Sbs.cons rfl (Sbs.cons rfl (Sbs.cons rfl (Sbs.nil))))))) (Splits.of [0, 3, 1] kr rfl)
     ·
      have h := condF hb2 h
      refine TC.skip ?_
      exact TX.meetD (q1.Rune, r2, q1.At, b3) h rfl (Sbs.cons rfl (Sbs.cons rfl (Sbs.cons rfl (Sbs.cons rfl (Sbs.cons rfl (Sbs.cons rfl (Sbs.nil))))))) (Splits.of [0, 3, 1] kr rfl)
    ·
     rintro ⟨x4, x5, x6, b1⟩ h
     rw [hj2] at h
     show TC _ _ _ _ _ ([]) _ _ [(0, .string s1), (3, v5), (6, .pointer (some ⟨b1, 0, none⟩)), (8, v2), (9, .int .i64 (r1.length : Int)), (10, .int .i64 x3)] [vec enc_Gref04_Item 68 3 v5 l4, cells b1 [.int .i32 x4, .string x5, .int .i64 x6] 68, vec enc_Gapi_Piece 89 4 v2 r1]
     refine TC.region (TO.move rfl dc rfl (TO.loads (k := 1) (cs := [.int .i32 x4, .string x5, .int .i64 x6]) rw_68 rfl dc rfl rfl rfl rfl ?_))
     refine TO.buildSlice (cs := [.int .i32 x4, .string x5, .int .i64 x6]) (te := 68) (ps := [(0, .tmp 26)]) rfl dc rfl (fun _ => by kernel_rfl) (fun b4 => ?_)
     obtain ⟨hg1, h⟩ := grdE h
     refine TO.appendVec (k := 0) (k2 := 3) (ys := [(⟨x4, x5, x6⟩ : Gref04_Item)]) Try.underlying60 el_68 enc_Gref04_Item_len enc_Gref04_Item_one rfl dc rfl rfl rfl rfl rfl rfl hg1 (fun v6 => ?_)
     show TO _ _ _ _ _ _ _ _ _ _ [vec enc_Gref04_Item 68 3 v6 (l4 ++ [(⟨x4, x5, x6⟩ : Gref04_Item)]), cells b1 [.int .i32 x4, .string x5, .int .i64 x6] 68, vec enc_Gapi_Piece 89 4 v2 r1, cells b4 [.int .i32 x4, .string x5, .int .i64 x6] 68]
     refine TO.assign rfl dc rfl (TO.nil (TX.blockNormal (TX.next (TC.region ?_))))
     obtain ⟨hg2, h⟩ := grdE h
     refine TO.bin rfl dc rfl rfl (bin_add (r := x3 + 1) (IntWalk.i64_in _ hg2)) (TO.move rfl dc rfl (TO.nil ?_))
     subst hag1
     exact TX.againD (n1, l4 ++ [(⟨x4, x5, x6⟩ : Gref04_Item)], x3 + 1, v6) h (Nat.lt_succ_self _) rfl (Sbs.cons rfl (Sbs.cons rfl (Sbs.cons rfl (Sbs.cons rfl (Sbs.cons rfl (Sbs.nil)))))) (Splits.of [0, 2] kr rfl)
   ·
    have h := condF hb1 h
    refine TC.exit (TX.thenExit (TX.thenExit (TX.blockHere ?_)))
    exact TX.meetD (l4, v5) h rfl (Sbs.cons rfl (Sbs.nil)) (Splits.of [0] kr rfl)
 ·
  rintro ⟨l1, v1⟩ h
  rw [hj1] at h
  show TC _ _ _ _ _ ([]) _ _ [(3, v1)] [vec enc_Gref04_Item 68 3 v1 l1]
  refine TC.seq (TC.region (TO.move rfl dc rfl (TO.assign rfl dc rfl (TO.nil (TX.next (TC.ret ?_))))))
  cases h
  exact TX.fin (rs := [.tmp 2]) v1 (.inl rfl) Try.results50 (.cons (.tmp rfl) .nil) rfl (Splits.of [0] kr rfl)
def ref04_Text_s1 (l1 : List Gref04_Item) (j1 : ByteArray → Option ByteArray) (ag1 : ByteArray → Int → Option ByteArray) (s4 : ByteArray) (x3 : Int) : Option ByteArray := bcond (decide ((x3 : Int) < (l1.length : Int))) ( andThen (getO l1 x3) fun (q1 : Gref04_Item) => grd (s4.size + q1.Text.size ≤ 9223372036854775807) <| grd (I64 (x3 + 1)) <| ag1 (s4 ++ q1.Text) (x3 + 1)
) ( j1 s4
)
def ref04_Text_v (l1 : List Gref04_Item) : Option ByteArray := joinK (fun (j1 : ByteArray → Option ByteArray) => loopG (fun _ _ => none) (ref04_Text_s1 l1 j1) fuel (⟨#[]⟩ : ByteArray) 0
) (fun (s1 : ByteArray) => some s1
)
set_option maxRecDepth 100000 in
set_option maxHeartbeats 4000000 in
theorem ref04_Text_fn {vvl1 vl1 : Value} {Ll1 : List Gref04_Item} {kl1 : Nat} {l1 : List Gref04_Item} (hwl1 : Vw vvl1 Ll1 3 kl1 vl1 l1) {r : ByteArray} (h : ref04_Text_v l1 = some r) : Fn Try.prog 41 [vl1] [vec enc_Gref04_Item 68 3 vvl1 Ll1] (fun _b : Unit => .string r) (fun _b => [vec enc_Gref04_Item 68 3 vvl1 Ll1]) := by
 unfold ref04_Text_v at h
 refine Fn.intro Try.func41 rfl Try.ntmps41 (by simp) ?_
 intro w0 K
 obtain ⟨j1, hj1, h⟩ := joinE h
 refine TC.cutN (β := ByteArray) 2 rfl (fun b => j1 b = some r) (fun b => []) (fun b => [(3, .string b)]) (fun b => [vec enc_Gref04_Item 68 3 vvl1 Ll1]) (fun cut => ?_) ?_
 ·
  refine TC.seq (TC.region (TO.assign rfl dc rfl (TO.nil (TX.next (TC.seq (TC.region (TO.assign rfl dc rfl (TO.nil (TX.next (cut (TC.seq (TC.region (TO.move rfl dc rfl ?_)))))))))))))
  refine TO.lenVw hwl1 rfl dc rfl Try.underlying60 (TO.move rfl dc rfl (TO.nil (TX.next (TC.block ?_))))
  refine TC.loopD (β := Nat × ByteArray × Int) (fun b => loopG (fun _ _ => none) (ref04_Text_s1 l1 j1) b.1 b.2.1 b.2.2 = some r) (fun b => []) (fun b => [(3, .string b.2.1), (6, vl1), (7, .int .i64 (l1.length : Int)), (8, .int .i64 b.2.2)]) (fun b => [vec enc_Gref04_Item 68 3 vvl1 Ll1]) (fun b => b.1) (fuel, (⟨#[]⟩ : ByteArray), 0) h rfl (Sbs.cons rfl (Sbs.cons rfl (Sbs.cons rfl (Sbs.cons rfl (Sbs.nil))))) (Splits.of [0] kr rfl) ?_
  rintro ⟨n1, s4, x3⟩ h
  cases n1 with
  | zero => exact noneE h
  | succ n1 =>
   obtain ⟨ag1, hag1⟩ : ∃ ag, ag = loopG (fun _ _ => none) (ref04_Text_s1 l1 j1) n1 := ⟨_, rfl⟩
   have h : ref04_Text_s1 l1 j1 ag1 s4 x3 = some r := by rw [hag1]; exact h
   unfold ref04_Text_s1 at h
   show TC _ _ _ _ _ ([]) _ _ [(3, .string s4), (6, vl1), (7, .int .i64 (l1.length : Int)), (8, .int .i64 x3)] [vec enc_Gref04_Item 68 3 vvl1 Ll1]
   refine TC.seq (TC.region (TO.bin rfl dc rfl rfl bin_lss (TO.nil (TX.next (TC.seq ?_)))))
   refine TC.condB rfl (fun hb1 => ?_) (fun hb1 => ?_)
   ·
    have h := condT hb1 h
    refine TC.skip (TX.next (TC.seq (TC.block (TC.seq (TC.region ?_)))))
    obtain ⟨q1, hq1, h⟩ := andE h
    refine TO.indexVw hwl1 hq1 Try.underlying60 sz_68 rfl dc rfl rfl rfl (TO.loadsVec (i := kl1 + (x3 : Int).toNat) (j := 0) (k := 0) (q := q1) (cs := [.int .i32 q1.Rune, .string q1.Text, .int .i64 q1.At]) rw_68 enc_Gref04_Item_len rfl dc rfl rfl (Vw.get hwl1 hq1) rfl rfl rfl ?_)
    refine TO.alloc zr_68 rfl dc (fun b1 => ?_)
    refine TO.stores (k := 1) (vs := [.int .i32 q1.Rune, .string q1.Text, .int .i64 q1.At]) (l' := [.int .i32 q1.Rune, .string q1.Text, .int .i64 q1.At]) sz_68 rfl rfl rfl rfl rfl (show _ ≤ _ by simp) rfl rfl ?_
    show TO _ _ _ _ _ _ _ _ _ _ [vec enc_Gref04_Item 68 3 vvl1 Ll1, cells b1 [.int .i32 q1.Rune, .string q1.Text, .int .i64 q1.At] 68]
    refine TO.nil (TX.next (TC.region (TO.move rfl dc rfl (TO.fieldAddr fl_68_1 rfl dc rfl (show _ = 1 from rfl) (TO.load (k := 1) sc_9 rfl dc rfl rfl rfl ?_)))))
    obtain ⟨hg1, h⟩ := grdE h
    refine TO.bin rfl dc rfl rfl (bin_sadd hg1) (TO.assign rfl dc rfl (TO.nil (TX.blockNormal (TX.next (TC.region ?_)))))
    obtain ⟨hg2, h⟩ := grdE h
    refine TO.bin rfl dc rfl rfl (bin_add (r := x3 + 1) (IntWalk.i64_in _ hg2)) (TO.move rfl dc rfl (TO.nil ?_))
    subst hag1
    exact TX.againD (n1, s4 ++ q1.Text, x3 + 1) h (Nat.lt_succ_self _) rfl (Sbs.cons rfl (Sbs.cons rfl (Sbs.cons rfl (Sbs.cons rfl (Sbs.nil))))) (Splits.of [0] kr rfl)
   ·
    have h := condF hb1 h
    refine TC.exit (TX.thenExit (TX.thenExit (TX.blockHere ?_)))
    exact TX.meetD s4 h rfl (Sbs.cons rfl (Sbs.nil)) (Splits.of [0] kr rfl)
 ·
  rintro s1 h
  rw [hj1] at h
  show TC _ _ _ _ _ ([]) _ _ [(3, .string s1)] [vec enc_Gref04_Item 68 3 vvl1 Ll1]
  refine TC.seq (TC.region (TO.move rfl dc rfl (TO.assign rfl dc rfl (TO.nil (TX.next (TC.ret ?_))))))
  cases h
  exact TX.fin (rs := [.tmp 2]) () (.inl rfl) Try.results41 (.cons (.tmp rfl) .nil) rfl (Splits.of [0] kr rfl)
def ref04_of_v (r1 : Int) (x1 : Gref04_Item) : Option Gref04_Item := andThen (ref01_Encode_v r1) fun (r2 : ByteArray) => some (⟨r1, r2, x1.At⟩ : Gref04_Item)
set_option maxRecDepth 100000 in
set_option maxHeartbeats 4000000 in
theorem ref04_of_fn {r1 : Int} {x1 : Gref04_Item} {r : Gref04_Item} (h : ref04_of_v r1 x1 = some r) : FnP Try.prog 55 [.int .i32 r1, .agg #[.int .i32 x1.Rune, .string x1.Text, .int .i64 x1.At]] (.agg #[.int .i32 r.Rune, .string r.Text, .int .i64 r.At]) := by
 unfold ref04_of_v at h
 refine FnP.intro Try.func55 rfl Try.ntmps55 (by simp) ?_
 intro w0 K
 refine TC.seq (TC.region ?_)
 refine TO.box rfl dc rfl (fun b1 => ?_)
 refine TO.alloc zr_68 rfl dc (fun b2 => ?_)
 show TO _ _ _ _ _ _ _ _ _ _ [cells b1 [.int .i32 x1.Rune, .string x1.Text, .int .i64 x1.At] 68, cells b2 [.int .i32 0, .string ByteArray.empty, .int .i64 0] 68]
 refine TO.nil (TX.next (TC.seq ?_))
 obtain ⟨r2, hq1, h⟩ := andE h
 refine TC.drawN 5 [(0, 5, .int .i32 r1), (1, 6, .int .i32 r1), (2, 7, .string r2), (3, 8, .pointer (some ⟨b1, 2, none⟩)), (4, 9, .int .i64 x1.At)] mixed kr kr dc (by rfl) kr kr (DrawPre.cons ?_ (DrawPre.cons ?_ (DrawPre.cons ?_ (DrawPre.cons ?_ (DrawPre.cons ?_ DrawPre.nil))))) ?_
 ·
  intro D hn hd hcl hu hi
  refine TO.move rfl dc (dl_old (by rfl) rfl) ?_
  exact TX.quiet 0 hu hi rfl
 ·
  intro D hn hd hcl hu hi
  refine TO.move rfl dc (dl_old (by rfl) rfl) ?_
  exact TX.quiet 1 hu hi rfl
 ·
  intro D hn hd hcl hu hi
  refine TO.callP (v := .string r2) (vs := [.int .i32 r1]) rfl dc rfl (evL.cons (dl_lookup (m := 1) hu rfl (hd 1 dc)) evL.nil) rfl en_74 (ref01_Encode_fn hq1) ?_
  exact TX.quiet 2 hu hi rfl
 ·
  intro D hn hd hcl hu hi
  refine TO.fieldAddr fl_68_2 rfl dc (dl_old (by rfl) rfl) (show _ = 2 from rfl) ?_
  exact TX.quiet 3 hu hi rfl
 ·
  intro D hn hd hcl hu hi
  refine TO.load (k := 0) sc_3 rfl dc (dl_lookup (m := 3) hu rfl (hd 3 dc)) rfl rfl ?_
  exact TX.quiet 4 hu hi rfl
 refine TO.build (v := .agg #[.int .i32 r1, .string r2, .int .i64 x1.At]) (ps := [(0, .tmp 5), (1, .tmp 7), (2, .tmp 9)]) rfl dc rfl (fun _ => by kernel_rfl) ?_
 refine TO.stores (k := 1) (vs := [.int .i32 r1, .string r2, .int .i64 x1.At]) (l' := [.int .i32 r1, .string r2, .int .i64 x1.At]) sz_68 rfl rfl rfl rfl rfl (show _ ≤ _ by simp) rfl rfl (TO.nil (TX.next (TC.ret ?_)))
 cases h
 exact TX.fin (rs := [.cell 4 68]) () (.inl rfl) Try.results55 (.cons (.cells rw_68 (k := 1) rfl rfl rfl) .nil) rfl Splits.nil
def ref04_marks_s1 (l1 : List Gref04_Item) (j1 : Int → Option Int) (ag1 : Int → Option Int) (n4 : Int) : Option Int := bcond (decide ((n4 : Int) < (l1.length : Int))) ( andThen (getO l1 n4) fun (q1 : Gref04_Item) => andThen (ref04_Item_mark_v q1) fun (r1 : Bool) => bcond (r1) ( grd (I64 (n4 + 1)) <| ag1 (n4 + 1)
) ( j1 n4
)
) ( j1 n4
)
def ref04_marks_v (l1 : List Gref04_Item) : Option Int := joinK (fun (j1 : Int → Option Int) => loopG (fun _ => none) (ref04_marks_s1 l1 j1) fuel 0
) (fun (n1 : Int) => some n1
)
set_option maxRecDepth 100000 in
set_option maxHeartbeats 4000000 in
theorem ref04_marks_fn {vvl1 vl1 : Value} {Ll1 : List Gref04_Item} {kl1 : Nat} {l1 : List Gref04_Item} (hwl1 : Vw vvl1 Ll1 3 kl1 vl1 l1) {r : Int} (h : ref04_marks_v l1 = some r) : Fn Try.prog 54 [vl1] [vec enc_Gref04_Item 68 3 vvl1 Ll1] (fun _b : Unit => .int .i64 r) (fun _b => [vec enc_Gref04_Item 68 3 vvl1 Ll1]) := by
 unfold ref04_marks_v at h
 refine Fn.intro Try.func54 rfl Try.ntmps54 (by simp) ?_
 intro w0 K
 obtain ⟨j1, hj1, h⟩ := joinE h
 refine TC.cutN (β := Int) 2 rfl (fun b => j1 b = some r) (fun b => []) (fun b => [(3, .int .i64 b)]) (fun b => [vec enc_Gref04_Item 68 3 vvl1 Ll1]) (fun cut => ?_) ?_
 ·
  refine TC.seq (TC.region (TO.assign rfl dc rfl (TO.nil (TX.next (TC.seq (TC.region (TO.assign rfl dc rfl (TO.nil (TX.next (cut (TC.block ?_)))))))))))
  refine TC.loopD (β := Nat × Int) (fun b => loopG (fun _ => none) (ref04_marks_s1 l1 j1) b.1 b.2 = some r) (fun b => []) (fun b => [(0, vl1), (3, .int .i64 b.2)]) (fun b => [vec enc_Gref04_Item 68 3 vvl1 Ll1]) (fun b => b.1) (fuel, 0) h rfl (Sbs.cons rfl (Sbs.cons rfl (Sbs.nil))) (Splits.of [0] kr rfl) ?_
  rintro ⟨n5, n4⟩ h
  cases n5 with
  | zero => exact noneE h
  | succ n5 =>
   obtain ⟨ag1, hag1⟩ : ∃ ag, ag = loopG (fun _ => none) (ref04_marks_s1 l1 j1) n5 := ⟨_, rfl⟩
   have h : ref04_marks_s1 l1 j1 ag1 n4 = some r := by rw [hag1]; exact h
   unfold ref04_marks_s1 at h
   show TC _ _ _ _ _ ([]) _ _ [(0, vl1), (3, .int .i64 n4)] [vec enc_Gref04_Item 68 3 vvl1 Ll1]
   refine TC.seq (TC.seq (TC.region (TO.move rfl dc rfl (TO.move rfl dc rfl (TO.lenVw hwl1 rfl dc rfl Try.underlying60 (TO.bin rfl dc rfl rfl bin_lss (TO.move rfl dc rfl ?_)))))))
   refine TO.split (s := 8) rfl (fun hb1 => ?_) (fun hb1 => ?_)
   ·
    have h := condT hb1 h
    refine TO.move rfl dc rfl (TO.move rfl dc rfl ?_)
    obtain ⟨q1, hq1, h⟩ := andE h
    refine TO.indexVw hwl1 hq1 Try.underlying60 sz_68 rfl dc rfl rfl rfl (TO.loadsVec (i := kl1 + (n4 : Int).toNat) (j := 0) (k := 0) (q := q1) (cs := [.int .i32 q1.Rune, .string q1.Text, .int .i64 q1.At]) rw_68 enc_Gref04_Item_len rfl dc rfl rfl (Vw.get hwl1 hq1) rfl rfl rfl ?_)
    obtain ⟨r1, hq2, h⟩ := andE h
    refine TO.callP (v := .bool r1) (vs := [.agg #[.int .i32 q1.Rune, .string q1.Text, .int .i64 q1.At]]) rfl dc rfl rfl rfl en_73 (ref04_Item_mark_fn (x1 := q1) hq2) (TO.pick (b := true) rfl dc rfl rfl (TO.nil (TX.next ?_)))
    refine TC.condB rfl (fun hb2 => ?_) (fun hb2 => ?_)
    ·
     have h := condT hb2 h
     refine TC.skip (TX.next (TC.block (TC.region (TO.move rfl dc rfl ?_))))
     obtain ⟨hg1, h⟩ := grdE h
     refine TO.bin rfl dc rfl rfl (bin_add (r := n4 + 1) (IntWalk.i64_in _ hg1)) (TO.assign rfl dc rfl (TO.nil (TX.blockNormal ?_)))
     subst hag1
     exact TX.againD (n5, n4 + 1) h (Nat.lt_succ_self _) rfl (Sbs.cons rfl (Sbs.cons rfl (Sbs.nil))) (Splits.of [0] kr rfl)
    ·
     have h := condF hb2 h
     refine TC.exit (TX.thenExit (TX.thenExit (TX.blockHere ?_)))
     exact TX.meetD n4 h rfl (Sbs.cons rfl (Sbs.nil)) (Splits.of [0] kr rfl)
   ·
    have h := condF hb1 h
    refine TO.skip rfl dc (TO.skip rfl dc (TO.skip rfl dc (TO.skip rfl dc (TO.skip rfl dc (TO.pick (b := false) rfl dc rfl rfl (TO.nil (TX.next (TC.condF rfl (TC.exit (TX.thenExit (TX.thenExit (TX.blockHere ?_))))))))))))
    exact TX.meetD n4 h rfl (Sbs.cons rfl (Sbs.nil)) (Splits.of [0] kr rfl)
 ·
  rintro n1 h
  rw [hj1] at h
  show TC _ _ _ _ _ ([]) _ _ [(3, .int .i64 n1)] [vec enc_Gref04_Item 68 3 vvl1 Ll1]
  refine TC.seq (TC.region (TO.move rfl dc rfl (TO.assign rfl dc rfl (TO.nil (TX.next (TC.ret ?_))))))
  cases h
  exact TX.fin (rs := [.tmp 2]) () (.inl rfl) Try.results54 (.cons (.tmp rfl) .nil) rfl (Splits.of [0] kr rfl)
def ref04_plain_v (r1 : Int) : Option ByteArray := bcond ((r1 : Int) == 223) ( some (⟨#[115, 115]⟩ : ByteArray)
) ( bcond ((r1 : Int) == 230) ( some (⟨#[97, 101]⟩ : ByteArray)
) ( bcond ((r1 : Int) == 248) ( some (⟨#[111]⟩ : ByteArray)
) ( joinK (fun (j1 : Bool → Option ByteArray) => bcond ((r1 : Int) == 240) ( j1 ((r1 : Int) == 240)
) ( j1 ((r1 : Int) == 273)
)
) (fun (x1 : Bool) => bcond (x1) ( some (⟨#[100]⟩ : ByteArray)
) ( bcond ((r1 : Int) == 254) ( some (⟨#[116, 104]⟩ : ByteArray)
) ( bcond ((r1 : Int) == 295) ( some (⟨#[104]⟩ : ByteArray)
) ( bcond ((r1 : Int) == 305) ( some (⟨#[105]⟩ : ByteArray)
) ( bcond ((r1 : Int) == 307) ( some (⟨#[105, 106]⟩ : ByteArray)
) ( bcond ((r1 : Int) == 312) ( some (⟨#[113]⟩ : ByteArray)
) ( joinK (fun (j2 : Bool → Option ByteArray) => bcond ((r1 : Int) == 320) ( j2 ((r1 : Int) == 320)
) ( j2 ((r1 : Int) == 322)
)
) (fun (x2 : Bool) => bcond (x2) ( some (⟨#[108]⟩ : ByteArray)
) ( bcond ((r1 : Int) == 329) ( some (⟨#[110]⟩ : ByteArray)
) ( bcond ((r1 : Int) == 331) ( some (⟨#[110, 103]⟩ : ByteArray)
) ( bcond ((r1 : Int) == 339) ( some (⟨#[111, 101]⟩ : ByteArray)
) ( bcond ((r1 : Int) == 359) ( some (⟨#[116]⟩ : ByteArray)
) ( bcond ((r1 : Int) == 383) ( some (⟨#[115]⟩ : ByteArray)
) ( bcond ((r1 : Int) == 962) ( some (⟨#[207, 131]⟩ : ByteArray)
) ( andThen (ref01_Encode_v r1) fun (r2 : ByteArray) => some r2
)
)
)
)
)
)
)
)
)
)
)
)
)
)
)
)
)
)
set_option maxRecDepth 100000 in
set_option maxHeartbeats 4000000 in
theorem ref04_plain_fn {r1 : Int} {r : ByteArray} (h : ref04_plain_v r1 = some r) : FnP Try.prog 65 [.int .i32 r1] (.string r) := by
 unfold ref04_plain_v at h
 refine FnP.intro Try.func65 rfl Try.ntmps65 (by simp) ?_
 intro w0 K
 refine TC.seq (TC.region (TO.assign rfl dc rfl (TO.nil (TX.next (TC.seq (TC.seq (TC.region (TO.move rfl dc rfl (TO.nil (TX.next (TC.block (TC.seq (TC.region ?_)))))))))))))
 refine TO.bin rfl dc rfl rfl bin_eql (TO.assign rfl dc rfl (TO.nil (TX.next ?_)))
 refine TC.condB rfl (fun hb1 => ?_) (fun hb1 => ?_)
 ·
  have h := condT hb1 h
  refine TC.seq (TC.region (TO.assign rfl dc rfl (TO.nil (TX.next (TC.ret (TX.blockRet (TX.thenRet ?_)))))))
  cases h
  exact TX.fin (rs := [.tmp 2]) () (.inl rfl) Try.results65 (.cons (.tmp rfl) .nil) rfl Splits.nil
 ·
  have h := condF hb1 h
  refine TC.seq (TC.region (TO.bin rfl dc rfl rfl bin_eql (TO.assign rfl dc rfl (TO.nil (TX.next ?_)))))
  refine TC.condB rfl (fun hb2 => ?_) (fun hb2 => ?_)
  ·
   have h := condT hb2 h
   refine TC.seq (TC.region (TO.assign rfl dc rfl (TO.nil (TX.next (TC.ret (TX.blockRet (TX.thenRet ?_)))))))
   cases h
   exact TX.fin (rs := [.tmp 2]) () (.inl rfl) Try.results65 (.cons (.tmp rfl) .nil) rfl Splits.nil
  ·
   have h := condF hb2 h
   refine TC.seq (TC.region (TO.bin rfl dc rfl rfl bin_eql (TO.assign rfl dc rfl (TO.nil (TX.next ?_)))))
   refine TC.condB rfl (fun hb3 => ?_) (fun hb3 => ?_)
   ·
    have h := condT hb3 h
    refine TC.seq (TC.region (TO.assign rfl dc rfl (TO.nil (TX.next (TC.ret (TX.blockRet (TX.thenRet ?_)))))))
    cases h
    exact TX.fin (rs := [.tmp 2]) () (.inl rfl) Try.results65 (.cons (.tmp rfl) .nil) rfl Splits.nil
   ·
    have h := condF hb3 h
    obtain ⟨j1, hj1, h⟩ := joinE h
    refine TC.cutN (β := Bool) 0 rfl (fun b => j1 b = some r) (fun b => []) (fun b => [(0, .int .i32 r1), (3, .int .i32 r1), (10, .bool b)]) (fun b => []) (fun cut => ?_) ?_
    ·
     refine cut (TC.seq (TC.region (TO.bin rfl dc rfl rfl bin_eql (TO.assign rfl dc rfl (TO.nil (TX.next ?_))))))
     refine TC.condB rfl (fun hb4 => ?_) (fun hb4 => ?_)
     ·
      have h := condT hb4 h
      refine TC.skip ?_
      exact TX.meetD ((r1 : Int) == 240) h rfl (Sbs.cons rfl (Sbs.cons rfl (Sbs.cons rfl (Sbs.nil)))) Splits.nil
     ·
      have h := condF hb4 h
      refine TC.region (TO.bin rfl dc rfl rfl bin_eql (TO.assign rfl dc rfl (TO.nil ?_)))
      exact TX.meetD ((r1 : Int) == 273) h rfl (Sbs.cons rfl (Sbs.cons rfl (Sbs.cons rfl (Sbs.nil)))) Splits.nil
    ·
     rintro x1 h
     rw [hj1] at h
     show TC _ _ _ _ _ ([]) _ _ [(0, .int .i32 r1), (3, .int .i32 r1), (10, .bool x1)] []
     refine TC.condB rfl (fun hb5 => ?_) (fun hb5 => ?_)
     ·
      have h := condT hb5 h
      refine TC.seq (TC.region (TO.assign rfl dc rfl (TO.nil (TX.next (TC.ret (TX.blockRet (TX.thenRet ?_)))))))
      cases h
      exact TX.fin (rs := [.tmp 2]) () (.inl rfl) Try.results65 (.cons (.tmp rfl) .nil) rfl Splits.nil
     ·
      have h := condF hb5 h
      refine TC.seq (TC.region (TO.bin rfl dc rfl rfl bin_eql (TO.assign rfl dc rfl (TO.nil (TX.next ?_)))))
      refine TC.condB rfl (fun hb6 => ?_) (fun hb6 => ?_)
      ·
       have h := condT hb6 h
       refine TC.seq (TC.region (TO.assign rfl dc rfl (TO.nil (TX.next (TC.ret (TX.blockRet (TX.thenRet ?_)))))))
       cases h
       exact TX.fin (rs := [.tmp 2]) () (.inl rfl) Try.results65 (.cons (.tmp rfl) .nil) rfl Splits.nil
      ·
       have h := condF hb6 h
       refine TC.seq (TC.region (TO.bin rfl dc rfl rfl bin_eql (TO.assign rfl dc rfl (TO.nil (TX.next ?_)))))
       refine TC.condB rfl (fun hb7 => ?_) (fun hb7 => ?_)
       ·
        have h := condT hb7 h
        refine TC.seq (TC.region (TO.assign rfl dc rfl (TO.nil (TX.next (TC.ret (TX.blockRet (TX.thenRet ?_)))))))
        cases h
        exact TX.fin (rs := [.tmp 2]) () (.inl rfl) Try.results65 (.cons (.tmp rfl) .nil) rfl Splits.nil
       ·
        have h := condF hb7 h
        refine TC.seq (TC.region (TO.bin rfl dc rfl rfl bin_eql (TO.assign rfl dc rfl (TO.nil (TX.next ?_)))))
        refine TC.condB rfl (fun hb8 => ?_) (fun hb8 => ?_)
        ·
         have h := condT hb8 h
         refine TC.seq (TC.region (TO.assign rfl dc rfl (TO.nil (TX.next (TC.ret (TX.blockRet (TX.thenRet ?_)))))))
         cases h
         exact TX.fin (rs := [.tmp 2]) () (.inl rfl) Try.results65 (.cons (.tmp rfl) .nil) rfl Splits.nil
        ·
         have h := condF hb8 h
         refine TC.seq (TC.region (TO.bin rfl dc rfl rfl bin_eql (TO.assign rfl dc rfl (TO.nil (TX.next ?_)))))
         refine TC.condB rfl (fun hb9 => ?_) (fun hb9 => ?_)
         ·
          have h := condT hb9 h
          refine TC.seq (TC.region (TO.assign rfl dc rfl (TO.nil (TX.next (TC.ret (TX.blockRet (TX.thenRet ?_)))))))
          cases h
          exact TX.fin (rs := [.tmp 2]) () (.inl rfl) Try.results65 (.cons (.tmp rfl) .nil) rfl Splits.nil
         ·
          have h := condF hb9 h
          refine TC.seq (TC.region (TO.bin rfl dc rfl rfl bin_eql (TO.assign rfl dc rfl (TO.nil (TX.next ?_)))))
          refine TC.condB rfl (fun hb10 => ?_) (fun hb10 => ?_)
          ·
           have h := condT hb10 h
           refine TC.seq (TC.region (TO.assign rfl dc rfl (TO.nil (TX.next (TC.ret (TX.blockRet (TX.thenRet ?_)))))))
           cases h
           exact TX.fin (rs := [.tmp 2]) () (.inl rfl) Try.results65 (.cons (.tmp rfl) .nil) rfl Splits.nil
          ·
           have h := condF hb10 h
           obtain ⟨j2, hj2, h⟩ := joinE h
           refine TC.cutN (β := Bool) 0 rfl (fun b => j2 b = some r) (fun b => []) (fun b => [(0, .int .i32 r1), (3, .int .i32 r1), (23, .bool b)]) (fun b => []) (fun cut => ?_) ?_
           ·
            refine cut (TC.seq (TC.region (TO.bin rfl dc rfl rfl bin_eql (TO.assign rfl dc rfl (TO.nil (TX.next ?_))))))
            refine TC.condB rfl (fun hb11 => ?_) (fun hb11 => ?_)
            ·
             have h := condT hb11 h
             refine TC.skip ?_
             exact TX.meetD ((r1 : Int) == 320) h rfl (Sbs.cons rfl (Sbs.cons rfl (Sbs.cons rfl (Sbs.nil)))) Splits.nil
            ·
             have h := condF hb11 h
             refine TC.region (TO.bin rfl dc rfl rfl bin_eql (TO.assign rfl dc rfl (TO.nil ?_)))
             exact TX.meetD ((r1 : Int) == 322) h rfl (Sbs.cons rfl (Sbs.cons rfl (Sbs.cons rfl (Sbs.nil)))) Splits.nil
           ·
            rintro x2 h
            rw [hj2] at h
            show TC _ _ _ _ _ ([]) _ _ [(0, .int .i32 r1), (3, .int .i32 r1), (23, .bool x2)] []
            refine TC.condB rfl (fun hb12 => ?_) (fun hb12 => ?_)
            ·
             have h := condT hb12 h
             refine TC.seq (TC.region (TO.assign rfl dc rfl (TO.nil (TX.next (TC.ret (TX.blockRet (TX.thenRet ?_)))))))
             cases h
             exact TX.fin (rs := [.tmp 2]) () (.inl rfl) Try.results65 (.cons (.tmp rfl) .nil) rfl Splits.nil
            ·
             have h := condF hb12 h
             refine TC.seq (TC.region (TO.bin rfl dc rfl rfl bin_eql (TO.assign rfl dc rfl (TO.nil (TX.next ?_)))))
             refine TC.condB rfl (fun hb13 => ?_) (fun hb13 => ?_)
             ·
              have h := condT hb13 h
              refine TC.seq (TC.region (TO.assign rfl dc rfl (TO.nil (TX.next (TC.ret (TX.blockRet (TX.thenRet ?_)))))))
              cases h
              exact TX.fin (rs := [.tmp 2]) () (.inl rfl) Try.results65 (.cons (.tmp rfl) .nil) rfl Splits.nil
             ·
              have h := condF hb13 h
              refine TC.seq (TC.region (TO.bin rfl dc rfl rfl bin_eql (TO.assign rfl dc rfl (TO.nil (TX.next ?_)))))
              refine TC.condB rfl (fun hb14 => ?_) (fun hb14 => ?_)
              ·
               have h := condT hb14 h
               refine TC.seq (TC.region (TO.assign rfl dc rfl (TO.nil (TX.next (TC.ret (TX.blockRet (TX.thenRet ?_)))))))
               cases h
               exact TX.fin (rs := [.tmp 2]) () (.inl rfl) Try.results65 (.cons (.tmp rfl) .nil) rfl Splits.nil
              ·
               have h := condF hb14 h
               refine TC.seq (TC.region (TO.bin rfl dc rfl rfl bin_eql (TO.assign rfl dc rfl (TO.nil (TX.next ?_)))))
               refine TC.condB rfl (fun hb15 => ?_) (fun hb15 => ?_)
               ·
                have h := condT hb15 h
                refine TC.seq (TC.region (TO.assign rfl dc rfl (TO.nil (TX.next (TC.ret (TX.blockRet (TX.thenRet ?_)))))))
                cases h
                exact TX.fin (rs := [.tmp 2]) () (.inl rfl) Try.results65 (.cons (.tmp rfl) .nil) rfl Splits.nil
               ·
                have h := condF hb15 h
                refine TC.seq (TC.region (TO.bin rfl dc rfl rfl bin_eql (TO.assign rfl dc rfl (TO.nil (TX.next ?_)))))
                refine TC.condB rfl (fun hb16 => ?_) (fun hb16 => ?_)
                ·
                 have h := condT hb16 h
                 refine TC.seq (TC.region (TO.assign rfl dc rfl (TO.nil (TX.next (TC.ret (TX.blockRet (TX.thenRet ?_)))))))
                 cases h
                 exact TX.fin (rs := [.tmp 2]) () (.inl rfl) Try.results65 (.cons (.tmp rfl) .nil) rfl Splits.nil
                ·
                 have h := condF hb16 h
                 refine TC.seq (TC.region (TO.bin rfl dc rfl rfl bin_eql (TO.assign rfl dc rfl (TO.nil (TX.next ?_)))))
                 refine TC.condB rfl (fun hb17 => ?_) (fun hb17 => ?_)
                 ·
                  have h := condT hb17 h
                  refine TC.seq (TC.region (TO.assign rfl dc rfl (TO.nil (TX.next (TC.ret (TX.blockRet (TX.thenRet ?_)))))))
                  cases h
                  exact TX.fin (rs := [.tmp 2]) () (.inl rfl) Try.results65 (.cons (.tmp rfl) .nil) rfl Splits.nil
                 ·
                  have h := condF hb17 h
                  refine TC.seq (TC.region (TO.bin rfl dc rfl rfl bin_eql (TO.assign rfl dc rfl (TO.nil (TX.next ?_)))))
                  refine TC.condB rfl (fun hb18 => ?_) (fun hb18 => ?_)
                  ·
                   have h := condT hb18 h
                   refine TC.seq (TC.region (TO.assign rfl dc rfl (TO.nil (TX.next (TC.ret (TX.blockRet (TX.thenRet ?_)))))))
                   cases h
                   exact TX.fin (rs := [.tmp 2]) () (.inl rfl) Try.results65 (.cons (.tmp rfl) .nil) rfl Splits.nil
                  ·
                   have h := condF hb18 h
                   refine TC.skip (TX.blockNormal (TX.next (TC.seq (TC.region (TO.move rfl dc rfl ?_)))))
                   obtain ⟨r2, hq1, h⟩ := andE h
                   refine TO.callP (v := .string r2) (vs := [.int .i32 r1]) rfl dc rfl rfl rfl en_74 (ref01_Encode_fn hq1) (TO.assign rfl dc rfl (TO.nil (TX.next (TC.ret ?_))))
                   cases h
                   exact TX.fin (rs := [.tmp 2]) () (.inl rfl) Try.results65 (.cons (.tmp rfl) .nil) rfl Splits.nil
def ref04_apart_s2 (j2 : (List Gref04_Item) → Option (List Gref04_Item)) (q1 : Gref04_Item) (r2 : (List Int)) (ag2 : (List Gref04_Item) → Int → Option (List Gref04_Item)) (out8 : List Gref04_Item) (x6 : Int) : Option (List Gref04_Item) := bcond (decide ((x6 : Int) < (r2.length : Int))) ( andThen (getO r2 x6) fun (q2 : Int) => andThen (ref04_of_v q2 q1) fun (r3 : Gref04_Item) => grd (out8.length + 1 ≤ 2147483648) <| grd (I64 (x6 + 1)) <| ag2 (out8 ++ [r3]) (x6 + 1)
) ( j2 out8
)
def ref04_apart_s1 (l1 : List Gref04_Item) (j1 : (List Gref04_Item) → Option (List Gref04_Item)) (ag1 : (List Gref04_Item) → Int → Option (List Gref04_Item)) (out4 : List Gref04_Item) (x3 : Int) : Option (List Gref04_Item) := bcond (decide ((x3 : Int) < (l1.length : Int))) ( joinK (fun (j2 : (List Gref04_Item) → Option (List Gref04_Item)) => andThen (getO l1 x3) fun (q1 : Gref04_Item) => andThen (ref04_Item_letter_v q1) fun (r1 : Bool) => bcond (!r1) ( grd (out4.length + 1 ≤ 2147483648) <| j2 (out4 ++ [q1])
) ( andThen (ref04_Split_v q1.Rune) fun (r2 : (List Int)) => loopG (fun _ _ => none) (ref04_apart_s2 j2 q1 r2) fuel out4 0
)
) (fun (out5 : List Gref04_Item) => grd (I64 (x3 + 1)) <| ag1 out5 (x3 + 1)
)
) ( j1 out4
)
def ref04_apart_s4 (out12 : List Gref04_Item) (x9 : Int) (j5 : Nat → (List Gref04_Item) → (List Gref04_Item) → (List Gref04_Item) → Option (List Gref04_Item)) (r5 : Int) (ag4 : (List Gref04_Item) → (List Gref04_Item) → Int → Option (List Gref04_Item)) (low5 : List Gref04_Item) (high4 : List Gref04_Item) (x12 : Int) : Option (List Gref04_Item) := bcond (decide ((x12 : Int) < ((cutL out12 (x9 + 1) ((x9 + 1) + r5)).length : Int))) ( joinK (fun (j6 : (List Gref04_Item) → (List Gref04_Item) → Option (List Gref04_Item)) => andThen (getO (cutL out12 (x9 + 1) ((x9 + 1) + r5)) x12) fun (q4 : Gref04_Item) => andThen (ref04_Low_v q4.Rune) fun (r6 : Bool) => bcond (r6) ( grd (low5.length + 1 ≤ 2147483648) <| j6 (low5 ++ [q4]) high4
) ( grd (high4.length + 1 ≤ 2147483648) <| j6 low5 (high4 ++ [q4])
)
) (fun (low6 : List Gref04_Item) (high5 : List Gref04_Item) => grd (I64 (x12 + 1)) <| ag4 low6 high5 (x12 + 1)
)
) ( j5 (0 + (x9 + 1 : Int).toNat) (cutL out12 (x9 + 1) ((x9 + 1) + r5)) low5 high4
)
def ref04_apart_s3 (out1 : List Gref04_Item) (j3 : (List Gref04_Item) → Option (List Gref04_Item)) (ag3 : (List Gref04_Item) → Int → Option (List Gref04_Item)) (out12 : List Gref04_Item) (x9 : Int) : Option (List Gref04_Item) := bcond (decide ((x9 : Int) < (out1.length : Int))) ( joinK (fun (j4 : (List Gref04_Item) → Option (List Gref04_Item)) => andThen (getO out12 x9) fun (q3 : Gref04_Item) => andThen (ref04_Item_letter_v q3) fun (r4 : Bool) => bcond (!r4) ( j4 out12
) ( joinK (fun (j5 : Nat → (List Gref04_Item) → (List Gref04_Item) → (List Gref04_Item) → Option (List Gref04_Item)) => grd (I64 (x9 + 1)) <| grd (I64 (x9 + 1)) <| grd (I64 (x9 + 1)) <| grd (0 ≤ (x9 + 1 : Int) ∧ (x9 + 1 : Int) ≤ (out12.length : Int) ∧ ((out12.length : Int) : Int) ≤ (out12.length : Int)) <| andThen (ref04_marks_v (cutL out12 (x9 + 1) (out12.length : Int))) fun (r5 : Int) => grd (I64 ((x9 + 1) + r5)) <| grd (0 ≤ (x9 + 1 : Int) ∧ (x9 + 1 : Int) ≤ ((x9 + 1) + r5) ∧ ((x9 + 1) + r5 : Int) ≤ (out12.length : Int)) <| loopG (fun _ _ _ => none) (ref04_apart_s4 out12 x9 j5 r5) fuel ([] : List Gref04_Item) ([] : List Gref04_Item) 0
) (fun (at1 : Nat) (row1 : List Gref04_Item) (low1 : List Gref04_Item) (high1 : List Gref04_Item) => grd (low1.length + high1.length ≤ 2147483648) <| j4 (overL out12 at1 ((low1 ++ high1).take row1.length))
)
)
) (fun (out13 : List Gref04_Item) => grd (I64 (x9 + 1)) <| ag3 out13 (x9 + 1)
)
) ( j3 out12
)
def ref04_apart_v (l1 : List Gref04_Item) : Option (List Gref04_Item) := joinK (fun (j1 : (List Gref04_Item) → Option (List Gref04_Item)) => loopG (fun _ _ => none) (ref04_apart_s1 l1 j1) fuel ([] : List Gref04_Item) 0
) (fun (out1 : List Gref04_Item) => joinK (fun (j3 : (List Gref04_Item) → Option (List Gref04_Item)) => loopG (fun _ _ => none) (ref04_apart_s3 out1 j3) fuel out1 0
) (fun (out9 : List Gref04_Item) => some out9
)
)
set_option maxRecDepth 100000 in
set_option maxHeartbeats 4000000 in
theorem ref04_apart_fn {vvl1 vl1 : Value} {Ll1 : List Gref04_Item} {kl1 : Nat} {l1 : List Gref04_Item} (hwl1 : Vw vvl1 Ll1 3 kl1 vl1 l1) {r : (List Gref04_Item)} (h : ref04_apart_v l1 = some r) : Fn Try.prog 49 [vl1] [vec enc_Gref04_Item 68 3 vvl1 Ll1] (fun v0 : Value => v0) (fun v0 => [vec enc_Gref04_Item 68 3 vvl1 Ll1, vec enc_Gref04_Item 68 3 v0 r]) := by
 unfold ref04_apart_v at h
 refine Fn.intro Try.func49 rfl Try.ntmps49 (by simp) ?_
 intro w0 K
 obtain ⟨j1, hj1, h⟩ := joinE h
 refine TC.cutN (β := (List Gref04_Item) × Value) 2 rfl (fun b => j1 b.1 = some r) (fun b => []) (fun b => [(3, b.2)]) (fun b => [vec enc_Gref04_Item 68 3 vvl1 Ll1, vec enc_Gref04_Item 68 3 b.2 b.1]) (fun cut => ?_) ?_
 ·
  refine TC.seq (TC.region (TO.assign rfl dc rfl (TO.nil (TX.next (TC.seq (TC.region (TO.assign rfl dc rfl (TO.nil (TX.next (cut (TC.seq (TC.region (TO.move rfl dc rfl ?_)))))))))))))
  refine TO.lenVw hwl1 rfl dc rfl Try.underlying60 (TO.move rfl dc rfl (TO.nil (TX.next (TC.block (TC.newVec (enc := enc_Gref04_Item) (e := 68) (size := 3) ?_)))))
  show TC _ _ _ _ _ _ _ _ _ [vec enc_Gref04_Item 68 3 vvl1 Ll1, vec enc_Gref04_Item 68 3 (.slice none 0 0) ([] : List Gref04_Item)]
  refine TC.loopD (β := Nat × (List Gref04_Item) × Int × Value) (fun b => loopG (fun _ _ => none) (ref04_apart_s1 l1 j1) b.1 b.2.1 b.2.2.1 = some r) (fun b => []) (fun b => [(3, b.2.2.2), (15, vl1), (16, .int .i64 (l1.length : Int)), (17, .int .i64 b.2.2.1)]) (fun b => [vec enc_Gref04_Item 68 3 vvl1 Ll1, vec enc_Gref04_Item 68 3 b.2.2.2 b.2.1]) (fun b => b.1) (fuel, ([] : List Gref04_Item), 0, (.slice none 0 0)) h rfl (Sbs.cons rfl (Sbs.cons rfl (Sbs.cons rfl (Sbs.cons rfl (Sbs.nil))))) (Splits.of [0, 1] kr rfl) ?_
  rintro ⟨n1, out4, x3, v4⟩ h
  cases n1 with
  | zero => exact noneE h
  | succ n1 =>
   obtain ⟨ag1, hag1⟩ : ∃ ag, ag = loopG (fun _ _ => none) (ref04_apart_s1 l1 j1) n1 := ⟨_, rfl⟩
   have h : ref04_apart_s1 l1 j1 ag1 out4 x3 = some r := by rw [hag1]; exact h
   unfold ref04_apart_s1 at h
   show TC _ _ _ _ _ ([]) _ _ [(3, v4), (15, vl1), (16, .int .i64 (l1.length : Int)), (17, .int .i64 x3)] [vec enc_Gref04_Item 68 3 vvl1 Ll1, vec enc_Gref04_Item 68 3 v4 out4]
   refine TC.seq (TC.region (TO.bin rfl dc rfl rfl bin_lss (TO.nil (TX.next (TC.seq ?_)))))
   refine TC.condB rfl (fun hb1 => ?_) (fun hb1 => ?_)
   ·
    have h := condT hb1 h
    refine TC.skip (TX.next ?_)
    obtain ⟨j2, hj2, h⟩ := joinE h
    refine TC.cutN (β := (List Gref04_Item) × Value) 0 rfl (fun b => j2 b.1 = some r) (fun b => []) (fun b => [(3, b.2), (15, vl1), (16, .int .i64 (l1.length : Int)), (17, .int .i64 x3)]) (fun b => [vec enc_Gref04_Item 68 3 vvl1 Ll1, vec enc_Gref04_Item 68 3 b.2 b.1]) (fun cut => ?_) ?_
    ·
     refine cut (TC.block (TC.seq (TC.region ?_)))
     obtain ⟨q1, hq1, h⟩ := andE h
     refine TO.indexVw hwl1 hq1 Try.underlying60 sz_68 rfl dc rfl rfl rfl (TO.loadsVec (i := kl1 + (x3 : Int).toNat) (j := 0) (k := 0) (q := q1) (cs := [.int .i32 q1.Rune, .string q1.Text, .int .i64 q1.At]) rw_68 enc_Gref04_Item_len rfl dc rfl rfl (Vw.get hwl1 hq1) rfl rfl rfl ?_)
     refine TO.alloc zr_68 rfl dc (fun b1 => ?_)
     refine TO.stores (k := 2) (vs := [.int .i32 q1.Rune, .string q1.Text, .int .i64 q1.At]) (l' := [.int .i32 q1.Rune, .string q1.Text, .int .i64 q1.At]) sz_68 rfl rfl rfl rfl rfl (show _ ≤ _ by simp) rfl rfl ?_
     show TO _ _ _ _ _ _ _ _ _ _ [vec enc_Gref04_Item 68 3 vvl1 Ll1, vec enc_Gref04_Item 68 3 v4 out4, cells b1 [.int .i32 q1.Rune, .string q1.Text, .int .i64 q1.At] 68]
     refine TO.nil (TX.next (TC.seq (TC.seq (TC.region (TO.loads (k := 2) (cs := [.int .i32 q1.Rune, .string q1.Text, .int .i64 q1.At]) rw_68 rfl dc rfl rfl rfl rfl ?_)))))
     obtain ⟨r1, hq2, h⟩ := andE h
     refine TO.callP (v := .bool r1) (vs := [.agg #[.int .i32 q1.Rune, .string q1.Text, .int .i64 q1.At]]) rfl dc rfl rfl rfl en_53 (ref04_Item_letter_fn (x1 := q1) hq2) (TO.un rfl dc rfl un_not (TO.nil (TX.next ?_)))
     refine TC.condB rfl (fun hb2 => ?_) (fun hb2 => ?_)
     ·
      have h := condT hb2 h
      refine TC.seq (TC.region (TO.move rfl dc rfl (TO.loads (k := 2) (cs := [.int .i32 q1.Rune, .string q1.Text, .int .i64 q1.At]) rw_68 rfl dc rfl rfl rfl rfl ?_)))
      refine TO.buildSlice (cs := [.int .i32 q1.Rune, .string q1.Text, .int .i64 q1.At]) (te := 68) (ps := [(0, .tmp 25)]) rfl dc rfl (fun _ => by kernel_rfl) (fun b2 => ?_)
      obtain ⟨hg1, h⟩ := grdE h
      refine TO.appendVec (k := 1) (k2 := 3) (ys := [q1]) Try.underlying60 el_68 enc_Gref04_Item_len enc_Gref04_Item_one rfl dc rfl rfl rfl rfl rfl rfl hg1 (fun v6 => ?_)
      show TO _ _ _ _ _ _ _ _ _ _ [vec enc_Gref04_Item 68 3 vvl1 Ll1, vec enc_Gref04_Item 68 3 v6 (out4 ++ [q1]), cells b1 [.int .i32 q1.Rune, .string q1.Text, .int .i64 q1.At] 68, cells b2 [.int .i32 q1.Rune, .string q1.Text, .int .i64 q1.At] 68]
      refine TO.assign rfl dc rfl (TO.nil (TX.next (TC.exit (TX.thenExit (TX.blockHere ?_)))))
      exact TX.meetD (out4 ++ [q1], v6) h rfl (Sbs.cons rfl (Sbs.cons rfl (Sbs.cons rfl (Sbs.cons rfl (Sbs.nil))))) (Splits.of [0, 1] kr rfl)
     ·
      have h := condF hb2 h
      refine TC.skip (TX.next (TC.seq (TC.region (TO.fieldAddr fl_68_0 rfl dc rfl (show _ = 0 from rfl) (TO.load (k := 2) sc_21 rfl dc rfl rfl rfl ?_)))))
      obtain ⟨r2, hq3, h⟩ := andE h
      refine TO.call (vs := [.int .i32 q1.Rune]) rfl dc rfl rfl rfl en_31 (ref04_Split_fn hq3) Splits.nil ?_
      rintro v7
      show TO _ _ _ _ _ _ _ _ _ _ [vec enc_Gref04_Item 68 3 vvl1 Ll1, vec enc_Gref04_Item 68 3 v4 out4, cells b1 [.int .i32 q1.Rune, .string q1.Text, .int .i64 q1.At] 68, vec (encI (.i32)) 21 1 v7 r2]
      refine TO.lenVec (k := 3) rfl dc rfl rfl Try.underlying25 (TO.move rfl dc rfl (TO.nil (TX.next (TC.block ?_))))
      refine TC.loopD (β := Nat × (List Gref04_Item) × Int × Value) (fun b => loopG (fun _ _ => none) (ref04_apart_s2 j2 q1 r2) b.1 b.2.1 b.2.2.1 = some r) (fun b => []) (fun b => [(3, b.2.2.2), (5, .pointer (some ⟨b1, 0, none⟩)), (15, vl1), (16, .int .i64 (l1.length : Int)), (17, .int .i64 x3), (30, v7), (31, .int .i64 (r2.length : Int)), (32, .int .i64 b.2.2.1)]) (fun b => [vec enc_Gref04_Item 68 3 vvl1 Ll1, vec enc_Gref04_Item 68 3 b.2.2.2 b.2.1, cells b1 [.int .i32 q1.Rune, .string q1.Text, .int .i64 q1.At] 68, vec (encI (.i32)) 21 1 v7 r2]) (fun b => b.1) (fuel, out4, 0, v4) h rfl (Sbs.cons rfl (Sbs.cons rfl (Sbs.cons rfl (Sbs.cons rfl (Sbs.cons rfl (Sbs.cons rfl (Sbs.cons rfl (Sbs.cons rfl (Sbs.nil))))))))) (Splits.of [0, 1, 2, 3] kr rfl) ?_
      rintro ⟨n2, out8, x6, v10⟩ h
      cases n2 with
      | zero => exact noneE h
      | succ n2 =>
       obtain ⟨ag2, hag2⟩ : ∃ ag, ag = loopG (fun _ _ => none) (ref04_apart_s2 j2 q1 r2) n2 := ⟨_, rfl⟩
       have h : ref04_apart_s2 j2 q1 r2 ag2 out8 x6 = some r := by rw [hag2]; exact h
       unfold ref04_apart_s2 at h
       show TC _ _ _ _ _ ([]) _ _ [(3, v10), (5, .pointer (some ⟨b1, 0, none⟩)), (15, vl1), (16, .int .i64 (l1.length : Int)), (17, .int .i64 x3), (30, v7), (31, .int .i64 (r2.length : Int)), (32, .int .i64 x6)] [vec enc_Gref04_Item 68 3 vvl1 Ll1, vec enc_Gref04_Item 68 3 v10 out8, cells b1 [.int .i32 q1.Rune, .string q1.Text, .int .i64 q1.At] 68, vec (encI (.i32)) 21 1 v7 r2]
       refine TC.seq (TC.region (TO.bin rfl dc rfl rfl bin_lss (TO.nil (TX.next (TC.seq ?_)))))
       refine TC.condB rfl (fun hb3 => ?_) (fun hb3 => ?_)
       ·
        have h := condT hb3 h
        refine TC.skip (TX.next (TC.seq (TC.block (TC.seq (TC.region ?_)))))
        obtain ⟨q2, hq4, h⟩ := andE h
        refine TO.indexVecI (k := 3) hq4 Try.underlying25 sz_21 rfl dc rfl rfl rfl rfl (TO.loadVec (i := (x6 : Int).toNat) (j := 0) (k := 3) (q := q2) sc_21 encI_len rfl dc rfl rfl (getO_get hq4) rfl dc rfl (TO.assign rfl dc rfl (TO.nil (TX.next (TC.region (TO.move rfl dc rfl (TO.move rfl dc rfl (TO.loads (k := 2) (cs := [.int .i32 q1.Rune, .string q1.Text, .int .i64 q1.At]) rw_68 rfl dc rfl rfl rfl rfl ?_))))))))
        obtain ⟨r3, hq5, h⟩ := andE h
        refine TO.callP (v := .agg #[.int .i32 r3.Rune, .string r3.Text, .int .i64 r3.At]) (vs := [.int .i32 q2, .agg #[.int .i32 q1.Rune, .string q1.Text, .int .i64 q1.At]]) rfl dc rfl rfl rfl en_55 (ref04_of_fn (x1 := q1) hq5) ?_
        refine TO.buildSlice (cs := [.int .i32 r3.Rune, .string r3.Text, .int .i64 r3.At]) (te := 68) (ps := [(0, .tmp 39)]) rfl dc rfl (fun _ => by kernel_rfl) (fun b3 => ?_)
        obtain ⟨hg2, h⟩ := grdE h
        refine TO.appendVec (k := 1) (k2 := 4) (ys := [r3]) Try.underlying60 el_68 enc_Gref04_Item_len enc_Gref04_Item_one rfl dc rfl rfl rfl rfl rfl rfl hg2 (fun v11 => ?_)
        show TO _ _ _ _ _ _ _ _ _ _ [vec enc_Gref04_Item 68 3 vvl1 Ll1, vec enc_Gref04_Item 68 3 v11 (out8 ++ [r3]), cells b1 [.int .i32 q1.Rune, .string q1.Text, .int .i64 q1.At] 68, vec (encI (.i32)) 21 1 v7 r2, cells b3 [.int .i32 r3.Rune, .string r3.Text, .int .i64 r3.At] 68]
        refine TO.assign rfl dc rfl (TO.nil (TX.blockNormal (TX.next (TC.region ?_))))
        obtain ⟨hg3, h⟩ := grdE h
        refine TO.bin rfl dc rfl rfl (bin_add (r := x6 + 1) (IntWalk.i64_in _ hg3)) (TO.move rfl dc rfl (TO.nil ?_))
        subst hag2
        exact TX.againD (n2, out8 ++ [r3], x6 + 1, v11) h (Nat.lt_succ_self _) rfl (Sbs.cons rfl (Sbs.cons rfl (Sbs.cons rfl (Sbs.cons rfl (Sbs.cons rfl (Sbs.cons rfl (Sbs.cons rfl (Sbs.cons rfl (Sbs.nil))))))))) (Splits.of [0, 1, 2, 3] kr rfl)
       ·
        have h := condF hb3 h
        refine TC.exit (TX.thenExit (TX.thenExit (TX.blockHere (TX.blockNormal ?_))))
        exact TX.meetD (out8, v10) h rfl (Sbs.cons rfl (Sbs.cons rfl (Sbs.cons rfl (Sbs.cons rfl (Sbs.nil))))) (Splits.of [0, 1] kr rfl)
    ·
     rintro ⟨out5, v5⟩ h
     rw [hj2] at h
     show TC _ _ _ _ _ ([]) _ _ [(3, v5), (15, vl1), (16, .int .i64 (l1.length : Int)), (17, .int .i64 x3)] [vec enc_Gref04_Item 68 3 vvl1 Ll1, vec enc_Gref04_Item 68 3 v5 out5]
     refine TC.region ?_
     obtain ⟨hg4, h⟩ := grdE h
     refine TO.bin rfl dc rfl rfl (bin_add (r := x3 + 1) (IntWalk.i64_in _ hg4)) (TO.move rfl dc rfl (TO.nil ?_))
     subst hag1
     exact TX.againD (n1, out5, x3 + 1, v5) h (Nat.lt_succ_self _) rfl (Sbs.cons rfl (Sbs.cons rfl (Sbs.cons rfl (Sbs.cons rfl (Sbs.nil))))) (Splits.of [0, 1] kr rfl)
   ·
    have h := condF hb1 h
    refine TC.exit (TX.thenExit (TX.thenExit (TX.blockHere ?_)))
    exact TX.meetD (out4, v4) h rfl (Sbs.cons rfl (Sbs.nil)) (Splits.of [0, 1] kr rfl)
 ·
  rintro ⟨out1, v1⟩ h
  rw [hj1] at h
  show TC _ _ _ _ _ ([]) _ _ [(3, v1)] [vec enc_Gref04_Item 68 3 vvl1 Ll1, vec enc_Gref04_Item 68 3 v1 out1]
  obtain ⟨j3, hj3, h⟩ := joinE h
  refine TC.cutN (β := (List Gref04_Item)) 0 rfl (fun b => j3 b = some r) (fun b => []) (fun b => [(3, v1)]) (fun b => [vec enc_Gref04_Item 68 3 vvl1 Ll1, vec enc_Gref04_Item 68 3 v1 b]) (fun cut => ?_) ?_
  ·
   refine cut (TC.seq (TC.region (TO.move rfl dc rfl (TO.lenVec (k := 1) rfl dc rfl rfl Try.underlying60 (TO.move rfl dc rfl (TO.nil (TX.next (TC.block ?_))))))))
   refine TC.loopD (β := Nat × (List Gref04_Item) × Int) (fun b => loopG (fun _ _ => none) (ref04_apart_s3 out1 j3) b.1 b.2.1 b.2.2 = some r) (fun b => []) (fun b => [(3, v1), (44, v1), (45, .int .i64 (out1.length : Int)), (46, .int .i64 b.2.2)]) (fun b => [vec enc_Gref04_Item 68 3 vvl1 Ll1, vec enc_Gref04_Item 68 3 v1 b.2.1]) (fun b => b.1) (fuel, out1, 0) h rfl (Sbs.cons rfl (Sbs.cons rfl (Sbs.cons rfl (Sbs.cons rfl (Sbs.nil))))) (Splits.of [0, 1] kr rfl) ?_
   rintro ⟨n3, out12, x9⟩ h
   cases n3 with
   | zero => exact noneE h
   | succ n3 =>
    obtain ⟨ag3, hag3⟩ : ∃ ag, ag = loopG (fun _ _ => none) (ref04_apart_s3 out1 j3) n3 := ⟨_, rfl⟩
    have h : ref04_apart_s3 out1 j3 ag3 out12 x9 = some r := by rw [hag3]; exact h
    unfold ref04_apart_s3 at h
    show TC _ _ _ _ _ ([]) _ _ [(3, v1), (44, v1), (45, .int .i64 (out1.length : Int)), (46, .int .i64 x9)] [vec enc_Gref04_Item 68 3 vvl1 Ll1, vec enc_Gref04_Item 68 3 v1 out12]
    refine TC.seq (TC.region (TO.bin rfl dc rfl rfl bin_lss (TO.nil (TX.next (TC.seq ?_)))))
    refine TC.condB rfl (fun hb4 => ?_) (fun hb4 => ?_)
    ·
     have h := condT hb4 h
     refine TC.skip (TX.next ?_)
     obtain ⟨j4, hj4, h⟩ := joinE h
     refine TC.cutN (β := (List Gref04_Item)) 0 rfl (fun b => j4 b = some r) (fun b => []) (fun b => [(3, v1), (44, v1), (45, .int .i64 (out1.length : Int)), (46, .int .i64 x9)]) (fun b => [vec enc_Gref04_Item 68 3 vvl1 Ll1, vec enc_Gref04_Item 68 3 v1 b]) (fun cut => ?_) ?_
     ·
      refine cut (TC.block (TC.seq (TC.region (TO.move rfl dc rfl ?_))))
      obtain ⟨q3, hq6, h⟩ := andE h
      refine TO.indexVecI (k := 1) hq6 Try.underlying60 sz_68 rfl dc rfl rfl rfl rfl (TO.loadsVec (i := (x9 : Int).toNat) (j := 0) (k := 1) (q := q3) (cs := [.int .i32 q3.Rune, .string q3.Text, .int .i64 q3.At]) rw_68 enc_Gref04_Item_len rfl dc rfl rfl (getO_get hq6) rfl rfl rfl ?_)
      refine TO.alloc zr_68 rfl dc (fun b4 => ?_)
      refine TO.assign rfl dc rfl (TO.stores (k := 2) (vs := [.int .i32 q3.Rune, .string q3.Text, .int .i64 q3.At]) (l' := [.int .i32 q3.Rune, .string q3.Text, .int .i64 q3.At]) sz_68 rfl rfl rfl rfl rfl (show _ ≤ _ by simp) rfl rfl ?_)
      show TO _ _ _ _ _ _ _ _ _ _ [vec enc_Gref04_Item 68 3 vvl1 Ll1, vec enc_Gref04_Item 68 3 v1 out12, cells b4 [.int .i32 q3.Rune, .string q3.Text, .int .i64 q3.At] 68]
      refine TO.nil (TX.next (TC.seq (TC.seq (TC.region (TO.loads (k := 2) (cs := [.int .i32 q3.Rune, .string q3.Text, .int .i64 q3.At]) rw_68 rfl dc rfl rfl rfl rfl ?_)))))
      obtain ⟨r4, hq7, h⟩ := andE h
      refine TO.callP (v := .bool r4) (vs := [.agg #[.int .i32 q3.Rune, .string q3.Text, .int .i64 q3.At]]) rfl dc rfl rfl rfl en_53 (ref04_Item_letter_fn (x1 := q3) hq7) (TO.un rfl dc rfl un_not (TO.nil (TX.next ?_)))
      refine TC.condB rfl (fun hb5 => ?_) (fun hb5 => ?_)
      ·
       have h := condT hb5 h
       refine TC.exit (TX.thenExit (TX.blockHere ?_))
       exact TX.meetD out12 h rfl (Sbs.cons rfl (Sbs.cons rfl (Sbs.cons rfl (Sbs.cons rfl (Sbs.nil))))) (Splits.of [0, 1] kr rfl)
      ·
       have h := condF hb5 h
       refine TC.skip (TX.next ?_)
       obtain ⟨j5, hj5, h⟩ := joinE h
       refine TC.cutN (β := Nat × (List Gref04_Item) × (List Gref04_Item) × (List Gref04_Item) × Value × Value × Value) 2 rfl (fun b => j5 b.1 b.2.1 b.2.2.1 b.2.2.2.1 = some r ∧ Vw v1 out12 3 b.1 b.2.2.2.2.1 b.2.1) (fun b => []) (fun b => [(3, v1), (10, b.2.2.2.2.1), (11, b.2.2.2.2.2.1), (12, b.2.2.2.2.2.2), (44, v1), (45, .int .i64 (out1.length : Int)), (46, .int .i64 x9)]) (fun b => [vec enc_Gref04_Item 68 3 vvl1 Ll1, vec enc_Gref04_Item 68 3 v1 out12, vec enc_Gref04_Item 68 3 b.2.2.2.2.2.1 b.2.2.1, vec enc_Gref04_Item 68 3 b.2.2.2.2.2.2 b.2.2.2.1]) (fun cut => ?_) ?_
       ·
        refine TC.seq (TC.region (TO.move rfl dc rfl (TO.move rfl dc rfl ?_)))
        obtain ⟨hg5, h⟩ := grdE h
        refine TO.bin rfl dc rfl rfl (bin_add (r := x9 + 1) (IntWalk.i64_in _ hg5)) (TO.move rfl dc rfl ?_)
        obtain ⟨hg6, h⟩ := grdE h
        refine TO.bin rfl dc rfl rfl (bin_add (r := x9 + 1) (IntWalk.i64_in _ hg6)) (TO.move rfl dc rfl (TO.move rfl dc rfl ?_))
        obtain ⟨hg7, h⟩ := grdE h
        refine TO.bin rfl dc rfl rfl (bin_add (r := x9 + 1) (IntWalk.i64_in _ hg7)) ?_
        refine TO.vecVw (k := 1) rfl (fun hw2 => ?_)
        obtain ⟨hg8, h⟩ := grdE h
        obtain ⟨v15, hv1, hs1⟩ := slice_Vw (lo := some (.int .i64 (x9 + 1))) (hi := none) hw2 Try.underlying60 sz_68 (.inr rfl) (.inl ⟨rfl, rfl⟩) hg8
        refine TO.slice rfl dc rfl rfl rfl hs1 ?_
        obtain ⟨r5, hq8, h⟩ := andE h
        refine TO.callK (v := .int .i64 r5) (vs := [v15]) rfl dc rfl rfl rfl en_54 (ref04_marks_fn hv1 hq8) [1] kr rfl ?_
        obtain ⟨hg9, h⟩ := grdE h
        refine TO.bin rfl dc rfl rfl (bin_add (r := (x9 + 1) + r5) (IntWalk.i64_in _ hg9)) ?_
        refine TO.vecVw (k := 1) rfl (fun hw3 => ?_)
        obtain ⟨hg10, h⟩ := grdE h
        obtain ⟨v16, hv2, hs2⟩ := slice_Vw (lo := some (.int .i64 (x9 + 1))) (hi := some (.int .i64 ((x9 + 1) + r5))) hw3 Try.underlying60 sz_68 (.inr rfl) (.inr rfl) hg10
        refine TO.slice rfl dc rfl rfl rfl hs2 (TO.assign rfl dc rfl (TO.nil (TX.next (TC.seq (TC.region (TO.assign rfl dc rfl (TO.assign rfl dc rfl (TO.nil (TX.next (cut (TC.seq (TC.region (TO.move rfl dc rfl ?_)))))))))))))
        refine TO.lenVw hv2 rfl dc rfl Try.underlying60 (TO.move rfl dc rfl (TO.nil (TX.next (TC.block (TC.newVec (enc := enc_Gref04_Item) (e := 68) (size := 3) ?_)))))
        show TC _ _ _ _ _ _ _ _ _ [vec enc_Gref04_Item 68 3 vvl1 Ll1, vec enc_Gref04_Item 68 3 v1 out12, cells b4 [.int .i32 q3.Rune, .string q3.Text, .int .i64 q3.At] 68, vec enc_Gref04_Item 68 3 (.slice none 0 0) ([] : List Gref04_Item)]
        refine TC.newVec (enc := enc_Gref04_Item) (e := 68) (size := 3) ?_
        show TC _ _ _ _ _ _ _ _ _ [vec enc_Gref04_Item 68 3 vvl1 Ll1, vec enc_Gref04_Item 68 3 v1 out12, cells b4 [.int .i32 q3.Rune, .string q3.Text, .int .i64 q3.At] 68, vec enc_Gref04_Item 68 3 (.slice none 0 0) ([] : List Gref04_Item), vec enc_Gref04_Item 68 3 (.slice none 0 0) ([] : List Gref04_Item)]
        refine TC.loopD (β := Nat × (List Gref04_Item) × (List Gref04_Item) × Int × Value × Value) (fun b => loopG (fun _ _ _ => none) (ref04_apart_s4 out12 x9 j5 r5) b.1 b.2.1 b.2.2.1 b.2.2.2.1 = some r) (fun b => []) (fun b => [(3, v1), (10, v16), (11, b.2.2.2.2.1), (12, b.2.2.2.2.2), (44, v1), (45, .int .i64 (out1.length : Int)), (46, .int .i64 x9), (66, v16), (67, .int .i64 ((cutL out12 (x9 + 1) ((x9 + 1) + r5)).length : Int)), (68, .int .i64 b.2.2.2.1)]) (fun b => [vec enc_Gref04_Item 68 3 vvl1 Ll1, vec enc_Gref04_Item 68 3 v1 out12, vec enc_Gref04_Item 68 3 b.2.2.2.2.1 b.2.1, vec enc_Gref04_Item 68 3 b.2.2.2.2.2 b.2.2.1]) (fun b => b.1) (fuel, ([] : List Gref04_Item), ([] : List Gref04_Item), 0, (.slice none 0 0), (.slice none 0 0)) h rfl (Sbs.cons rfl (Sbs.cons rfl (Sbs.cons rfl (Sbs.cons rfl (Sbs.cons rfl (Sbs.cons rfl (Sbs.cons rfl (Sbs.cons rfl (Sbs.cons rfl (Sbs.cons rfl (Sbs.nil))))))))))) (Splits.of [0, 1, 3, 4] kr rfl) ?_
        rintro ⟨n4, low5, high4, x12, v22, v23⟩ h
        cases n4 with
        | zero => exact noneE h
        | succ n4 =>
         obtain ⟨ag4, hag4⟩ : ∃ ag, ag = loopG (fun _ _ _ => none) (ref04_apart_s4 out12 x9 j5 r5) n4 := ⟨_, rfl⟩
         have h : ref04_apart_s4 out12 x9 j5 r5 ag4 low5 high4 x12 = some r := by rw [hag4]; exact h
         unfold ref04_apart_s4 at h
         show TC _ _ _ _ _ ([]) _ _ [(3, v1), (10, v16), (11, v22), (12, v23), (44, v1), (45, .int .i64 (out1.length : Int)), (46, .int .i64 x9), (66, v16), (67, .int .i64 ((cutL out12 (x9 + 1) ((x9 + 1) + r5)).length : Int)), (68, .int .i64 x12)] [vec enc_Gref04_Item 68 3 vvl1 Ll1, vec enc_Gref04_Item 68 3 v1 out12, vec enc_Gref04_Item 68 3 v22 low5, vec enc_Gref04_Item 68 3 v23 high4]
         refine TC.seq (TC.region (TO.bin rfl dc rfl rfl bin_lss (TO.nil (TX.next (TC.seq ?_)))))
         refine TC.condB rfl (fun hb6 => ?_) (fun hb6 => ?_)
         ·
          have h := condT hb6 h
          refine TC.skip (TX.next ?_)
          obtain ⟨j6, hj6, h⟩ := joinE h
          refine TC.cutN (β := (List Gref04_Item) × (List Gref04_Item) × Value × Value) 0 rfl (fun b => j6 b.1 b.2.1 = some r) (fun b => []) (fun b => [(3, v1), (10, v16), (11, b.2.2.1), (12, b.2.2.2), (44, v1), (45, .int .i64 (out1.length : Int)), (46, .int .i64 x9), (66, v16), (67, .int .i64 ((cutL out12 (x9 + 1) ((x9 + 1) + r5)).length : Int)), (68, .int .i64 x12)]) (fun b => [vec enc_Gref04_Item 68 3 vvl1 Ll1, vec enc_Gref04_Item 68 3 v1 out12, vec enc_Gref04_Item 68 3 b.2.2.1 b.1, vec enc_Gref04_Item 68 3 b.2.2.2 b.2.1]) (fun cut => ?_) ?_
          ·
           refine cut (TC.block (TC.seq (TC.region ?_)))
           obtain ⟨q4, hq9, h⟩ := andE h
           refine TO.indexVw hv2 hq9 Try.underlying60 sz_68 rfl dc rfl rfl rfl (TO.loadsVec (i := 0 + (x9 + 1 : Int).toNat + (x12 : Int).toNat) (j := 0) (k := 1) (q := q4) (cs := [.int .i32 q4.Rune, .string q4.Text, .int .i64 q4.At]) rw_68 enc_Gref04_Item_len rfl dc rfl rfl (Vw.get hv2 hq9) rfl rfl rfl ?_)
           refine TO.alloc zr_68 rfl dc (fun b5 => ?_)
           refine TO.stores (k := 4) (vs := [.int .i32 q4.Rune, .string q4.Text, .int .i64 q4.At]) (l' := [.int .i32 q4.Rune, .string q4.Text, .int .i64 q4.At]) sz_68 rfl rfl rfl rfl rfl (show _ ≤ _ by simp) rfl rfl ?_
           show TO _ _ _ _ _ _ _ _ _ _ [vec enc_Gref04_Item 68 3 vvl1 Ll1, vec enc_Gref04_Item 68 3 v1 out12, vec enc_Gref04_Item 68 3 v22 low5, vec enc_Gref04_Item 68 3 v23 high4, cells b5 [.int .i32 q4.Rune, .string q4.Text, .int .i64 q4.At] 68]
           refine TO.nil (TX.next (TC.seq (TC.region (TO.fieldAddr fl_68_0 rfl dc rfl (show _ = 0 from rfl) (TO.load (k := 4) sc_21 rfl dc rfl rfl rfl ?_)))))
           obtain ⟨r6, hq10, h⟩ := andE h
           refine TO.callP (v := .bool r6) (vs := [.int .i32 q4.Rune]) rfl dc rfl rfl rfl en_36 (ref04_Low_fn hq10) (TO.nil (TX.next ?_))
           refine TC.condB rfl (fun hb7 => ?_) (fun hb7 => ?_)
           ·
            have h := condT hb7 h
            refine TC.region (TO.move rfl dc rfl (TO.loads (k := 4) (cs := [.int .i32 q4.Rune, .string q4.Text, .int .i64 q4.At]) rw_68 rfl dc rfl rfl rfl rfl ?_))
            refine TO.buildSlice (cs := [.int .i32 q4.Rune, .string q4.Text, .int .i64 q4.At]) (te := 68) (ps := [(0, .tmp 76)]) rfl dc rfl (fun _ => by kernel_rfl) (fun b6 => ?_)
            obtain ⟨hg11, h⟩ := grdE h
            refine TO.appendVec (k := 2) (k2 := 5) (ys := [q4]) Try.underlying60 el_68 enc_Gref04_Item_len enc_Gref04_Item_one rfl dc rfl rfl rfl rfl rfl rfl hg11 (fun v26 => ?_)
            show TO _ _ _ _ _ _ _ _ _ _ [vec enc_Gref04_Item 68 3 vvl1 Ll1, vec enc_Gref04_Item 68 3 v1 out12, vec enc_Gref04_Item 68 3 v26 (low5 ++ [q4]), vec enc_Gref04_Item 68 3 v23 high4, cells b5 [.int .i32 q4.Rune, .string q4.Text, .int .i64 q4.At] 68, cells b6 [.int .i32 q4.Rune, .string q4.Text, .int .i64 q4.At] 68]
            refine TO.assign rfl dc rfl (TO.nil (TX.blockNormal ?_))
            exact TX.meetD (low5 ++ [q4], high4, v26, v23) h rfl (Sbs.cons rfl (Sbs.cons rfl (Sbs.cons rfl (Sbs.cons rfl (Sbs.cons rfl (Sbs.cons rfl (Sbs.cons rfl (Sbs.cons rfl (Sbs.cons rfl (Sbs.cons rfl (Sbs.nil))))))))))) (Splits.of [0, 1, 2, 3] kr rfl)
           ·
            have h := condF hb7 h
            refine TC.region (TO.move rfl dc rfl (TO.loads (k := 4) (cs := [.int .i32 q4.Rune, .string q4.Text, .int .i64 q4.At]) rw_68 rfl dc rfl rfl rfl rfl ?_))
            refine TO.buildSlice (cs := [.int .i32 q4.Rune, .string q4.Text, .int .i64 q4.At]) (te := 68) (ps := [(0, .tmp 80)]) rfl dc rfl (fun _ => by kernel_rfl) (fun b7 => ?_)
            obtain ⟨hg12, h⟩ := grdE h
            refine TO.appendVec (k := 3) (k2 := 5) (ys := [q4]) Try.underlying60 el_68 enc_Gref04_Item_len enc_Gref04_Item_one rfl dc rfl rfl rfl rfl rfl rfl hg12 (fun v27 => ?_)
            show TO _ _ _ _ _ _ _ _ _ _ [vec enc_Gref04_Item 68 3 vvl1 Ll1, vec enc_Gref04_Item 68 3 v1 out12, vec enc_Gref04_Item 68 3 v22 low5, vec enc_Gref04_Item 68 3 v27 (high4 ++ [q4]), cells b5 [.int .i32 q4.Rune, .string q4.Text, .int .i64 q4.At] 68, cells b7 [.int .i32 q4.Rune, .string q4.Text, .int .i64 q4.At] 68]
            refine TO.assign rfl dc rfl (TO.nil (TX.blockNormal ?_))
            exact TX.meetD (low5, high4 ++ [q4], v22, v27) h rfl (Sbs.cons rfl (Sbs.cons rfl (Sbs.cons rfl (Sbs.cons rfl (Sbs.cons rfl (Sbs.cons rfl (Sbs.cons rfl (Sbs.cons rfl (Sbs.cons rfl (Sbs.cons rfl (Sbs.nil))))))))))) (Splits.of [0, 1, 2, 3] kr rfl)
          ·
           rintro ⟨low6, high5, v24, v25⟩ h
           rw [hj6] at h
           show TC _ _ _ _ _ ([]) _ _ [(3, v1), (10, v16), (11, v24), (12, v25), (44, v1), (45, .int .i64 (out1.length : Int)), (46, .int .i64 x9), (66, v16), (67, .int .i64 ((cutL out12 (x9 + 1) ((x9 + 1) + r5)).length : Int)), (68, .int .i64 x12)] [vec enc_Gref04_Item 68 3 vvl1 Ll1, vec enc_Gref04_Item 68 3 v1 out12, vec enc_Gref04_Item 68 3 v24 low6, vec enc_Gref04_Item 68 3 v25 high5]
           refine TC.region ?_
           obtain ⟨hg13, h⟩ := grdE h
           refine TO.bin rfl dc rfl rfl (bin_add (r := x12 + 1) (IntWalk.i64_in _ hg13)) (TO.move rfl dc rfl (TO.nil ?_))
           subst hag4
           exact TX.againD (n4, low6, high5, x12 + 1, v24, v25) h (Nat.lt_succ_self _) rfl (Sbs.cons rfl (Sbs.cons rfl (Sbs.cons rfl (Sbs.cons rfl (Sbs.cons rfl (Sbs.cons rfl (Sbs.cons rfl (Sbs.cons rfl (Sbs.cons rfl (Sbs.cons rfl (Sbs.nil))))))))))) (Splits.of [0, 1, 2, 3] kr rfl)
         ·
          have h := condF hb6 h
          refine TC.exit (TX.thenExit (TX.thenExit (TX.blockHere ?_)))
          exact TX.meetD (0 + (x9 + 1 : Int).toNat, cutL out12 (x9 + 1) ((x9 + 1) + r5), low5, high4, v16, v22, v23) ⟨h, hv2⟩ rfl (Sbs.cons rfl (Sbs.cons rfl (Sbs.cons rfl (Sbs.cons rfl (Sbs.cons rfl (Sbs.cons rfl (Sbs.cons rfl (Sbs.nil)))))))) (Splits.of [0, 1, 2, 3] kr rfl)
       ·
        rintro ⟨at1, row1, low1, high1, v12, v13, v14⟩ ⟨h, hw1⟩
        rw [hj5] at h
        show TC _ _ _ _ _ ([]) _ _ [(3, v1), (10, v12), (11, v13), (12, v14), (44, v1), (45, .int .i64 (out1.length : Int)), (46, .int .i64 x9)] [vec enc_Gref04_Item 68 3 vvl1 Ll1, vec enc_Gref04_Item 68 3 v1 out12, vec enc_Gref04_Item 68 3 v13 low1, vec enc_Gref04_Item 68 3 v14 high1]
        refine TC.region (TO.move rfl dc rfl (TO.move rfl dc rfl (TO.move rfl dc rfl ?_)))
        refine TO.vecVw (k := 3) rfl (fun hw4 => ?_)
        obtain ⟨hg14, h⟩ := grdE h
        refine TO.appendVw (k := 2) (k2 := 3) Try.underlying60 el_68 enc_Gref04_Item_len enc_Gref04_Item_one hw4 rfl dc rfl rfl rfl rfl hg14 (fun v28 => ?_)
        refine TO.vecVw (k := 2) rfl (fun hw5 => ?_)
        refine TO.copyVw (k := 1) (k2 := 2) Try.underlying60 el_68 enc_Gref04_Item_len enc_Gref04_Item_one hw1 hw5 rfl dc rfl rfl rfl rfl ?_
        show TO _ _ _ _ _ _ _ _ _ _ [vec enc_Gref04_Item 68 3 vvl1 Ll1, vec enc_Gref04_Item 68 3 v1 (overL out12 at1 ((low1 ++ high1).take row1.length)), vec enc_Gref04_Item 68 3 v28 (low1 ++ high1), vec enc_Gref04_Item 68 3 v14 high1]
        refine TO.nil (TX.blockNormal ?_)
        exact TX.meetD (overL out12 at1 ((low1 ++ high1).take row1.length)) h rfl (Sbs.cons rfl (Sbs.cons rfl (Sbs.cons rfl (Sbs.cons rfl (Sbs.nil))))) (Splits.of [0, 1] kr rfl)
     ·
      rintro out13 h
      rw [hj4] at h
      show TC _ _ _ _ _ ([]) _ _ [(3, v1), (44, v1), (45, .int .i64 (out1.length : Int)), (46, .int .i64 x9)] [vec enc_Gref04_Item 68 3 vvl1 Ll1, vec enc_Gref04_Item 68 3 v1 out13]
      refine TC.region ?_
      obtain ⟨hg15, h⟩ := grdE h
      refine TO.bin rfl dc rfl rfl (bin_add (r := x9 + 1) (IntWalk.i64_in _ hg15)) (TO.move rfl dc rfl (TO.nil ?_))
      subst hag3
      exact TX.againD (n3, out13, x9 + 1) h (Nat.lt_succ_self _) rfl (Sbs.cons rfl (Sbs.cons rfl (Sbs.cons rfl (Sbs.cons rfl (Sbs.nil))))) (Splits.of [0, 1] kr rfl)
    ·
     have h := condF hb4 h
     refine TC.exit (TX.thenExit (TX.thenExit (TX.blockHere ?_)))
     exact TX.meetD out12 h rfl (Sbs.cons rfl (Sbs.nil)) (Splits.of [0, 1] kr rfl)
  ·
   rintro out9 h
   rw [hj3] at h
   show TC _ _ _ _ _ ([]) _ _ [(3, v1)] [vec enc_Gref04_Item 68 3 vvl1 Ll1, vec enc_Gref04_Item 68 3 v1 out9]
   refine TC.seq (TC.region (TO.move rfl dc rfl (TO.assign rfl dc rfl (TO.nil (TX.next (TC.ret ?_))))))
   cases h
   exact TX.fin (rs := [.tmp 2]) v1 (.inl rfl) Try.results49 (.cons (.tmp rfl) .nil) rfl (Splits.of [0, 1] kr rfl)
def ref04_bare_s1 (j1 : (List Gref04_Item) → Option (List Gref04_Item)) (r1 : (List Gref04_Item)) (ag1 : (List Gref04_Item) → Int → Option (List Gref04_Item)) (out4 : List Gref04_Item) (i3 : Int) : Option (List Gref04_Item) := bcond (decide ((i3 : Int) < (r1.length : Int))) ( joinK (fun (j2 : (List Gref04_Item) → Int → Option (List Gref04_Item)) => andThen (getO r1 i3) fun (q1 : Gref04_Item) => grd (out4.length + 1 ≤ 2147483648) <| andThen (getO r1 i3) fun (q2 : Gref04_Item) => andThen (ref04_Item_letter_v q2) fun (r2 : Bool) => bcond (r2) ( grd (I64 (i3 + 1)) <| grd (0 ≤ (i3 + 1 : Int) ∧ (i3 + 1 : Int) ≤ (r1.length : Int) ∧ ((r1.length : Int) : Int) ≤ (r1.length : Int)) <| andThen (ref04_marks_v (cutL r1 (i3 + 1) (r1.length : Int))) fun (r3 : Int) => grd (I64 (i3 + r3)) <| j2 (out4 ++ [q1]) (i3 + r3)
) ( j2 (out4 ++ [q1]) i3
)
) (fun (out5 : List Gref04_Item) (i4 : Int) => grd (I64 (i4 + 1)) <| ag1 out5 (i4 + 1)
)
) ( j1 out4
)
def ref04_bare_v (l1 : List Gref04_Item) : Option (List Gref04_Item) := joinK (fun (j1 : (List Gref04_Item) → Option (List Gref04_Item)) => andThen (ref04_apart_v l1) fun (r1 : (List Gref04_Item)) => loopG (fun _ _ => none) (ref04_bare_s1 j1 r1) fuel ([] : List Gref04_Item) 0
) (fun (out1 : List Gref04_Item) => some out1
)
set_option maxRecDepth 100000 in
set_option maxHeartbeats 4000000 in
theorem ref04_bare_fn {vvl1 vl1 : Value} {Ll1 : List Gref04_Item} {kl1 : Nat} {l1 : List Gref04_Item} (hwl1 : Vw vvl1 Ll1 3 kl1 vl1 l1) {r : (List Gref04_Item)} (h : ref04_bare_v l1 = some r) : Fn Try.prog 57 [vl1] [vec enc_Gref04_Item 68 3 vvl1 Ll1] (fun v0 : Value => v0) (fun v0 => [vec enc_Gref04_Item 68 3 vvl1 Ll1, vec enc_Gref04_Item 68 3 v0 r]) := by
 unfold ref04_bare_v at h
 refine Fn.intro Try.func57 rfl Try.ntmps57 (by simp) ?_
 intro w0 K
 obtain ⟨j1, hj1, h⟩ := joinE h
 refine TC.cutN (β := (List Gref04_Item) × Value) 3 rfl (fun b => j1 b.1 = some r) (fun b => []) (fun b => [(3, b.2)]) (fun b => [vec enc_Gref04_Item 68 3 vvl1 Ll1, vec enc_Gref04_Item 68 3 b.2 b.1]) (fun cut => ?_) ?_
 ·
  refine TC.seq (TC.region (TO.assign rfl dc rfl (TO.nil (TX.next (TC.seq (TC.region (TO.move rfl dc rfl ?_)))))))
  obtain ⟨r1, hq1, h⟩ := andE h
  refine TO.call (vs := [vl1]) rfl dc rfl rfl rfl en_49 (ref04_apart_fn hwl1 hq1) (Splits.of [0] kr rfl) ?_
  rintro v2
  show TO _ _ _ _ _ _ _ _ _ _ [emp, vec enc_Gref04_Item 68 3 vvl1 Ll1, vec enc_Gref04_Item 68 3 v2 r1]
  refine TO.assign rfl dc rfl (TO.nil (TX.next (TC.seq (TC.region (TO.assign rfl dc rfl (TO.nil (TX.next (cut (TC.seq (TC.region (TO.assign rfl dc rfl (TO.nil (TX.next ?_)))))))))))))
  refine TC.block (TC.newVec (enc := enc_Gref04_Item) (e := 68) (size := 3) ?_)
  show TC _ _ _ _ _ _ _ _ _ [emp, vec enc_Gref04_Item 68 3 vvl1 Ll1, vec enc_Gref04_Item 68 3 v2 r1, vec enc_Gref04_Item 68 3 (.slice none 0 0) ([] : List Gref04_Item)]
  refine TC.loopD (β := Nat × (List Gref04_Item) × Int × Value) (fun b => loopG (fun _ _ => none) (ref04_bare_s1 j1 r1) b.1 b.2.1 b.2.2.1 = some r) (fun b => []) (fun b => [(0, v2), (3, b.2.2.2), (4, .int .i64 b.2.2.1)]) (fun b => [vec enc_Gref04_Item 68 3 vvl1 Ll1, vec enc_Gref04_Item 68 3 v2 r1, vec enc_Gref04_Item 68 3 b.2.2.2 b.2.1]) (fun b => b.1) (fuel, ([] : List Gref04_Item), 0, (.slice none 0 0)) h rfl (Sbs.cons rfl (Sbs.cons rfl (Sbs.cons rfl (Sbs.nil)))) (Splits.of [1, 2, 3] kr rfl) ?_
  rintro ⟨n1, out4, i3, v5⟩ h
  cases n1 with
  | zero => exact noneE h
  | succ n1 =>
   obtain ⟨ag1, hag1⟩ : ∃ ag, ag = loopG (fun _ _ => none) (ref04_bare_s1 j1 r1) n1 := ⟨_, rfl⟩
   have h : ref04_bare_s1 j1 r1 ag1 out4 i3 = some r := by rw [hag1]; exact h
   unfold ref04_bare_s1 at h
   show TC _ _ _ _ _ ([]) _ _ [(0, v2), (3, v5), (4, .int .i64 i3)] [vec enc_Gref04_Item 68 3 vvl1 Ll1, vec enc_Gref04_Item 68 3 v2 r1, vec enc_Gref04_Item 68 3 v5 out4]
   refine TC.seq (TC.seq (TC.region (TO.move rfl dc rfl (TO.move rfl dc rfl (TO.lenVec (k := 1) rfl dc rfl rfl Try.underlying60 (TO.bin rfl dc rfl rfl bin_lss (TO.nil (TX.next ?_))))))))
   refine TC.condB rfl (fun hb1 => ?_) (fun hb1 => ?_)
   ·
    have h := condT hb1 h
    refine TC.skip (TX.next ?_)
    obtain ⟨j2, hj2, h⟩ := joinE h
    refine TC.cutN (β := (List Gref04_Item) × Int × Value) 0 rfl (fun b => j2 b.1 b.2.1 = some r) (fun b => []) (fun b => [(0, v2), (3, b.2.2), (4, .int .i64 b.2.1)]) (fun b => [vec enc_Gref04_Item 68 3 vvl1 Ll1, vec enc_Gref04_Item 68 3 v2 r1, vec enc_Gref04_Item 68 3 b.2.2 b.1]) (fun cut => ?_) ?_
    ·
     refine cut (TC.block (TC.seq (TC.region (TO.move rfl dc rfl (TO.move rfl dc rfl (TO.move rfl dc rfl ?_))))))
     obtain ⟨q1, hq2, h⟩ := andE h
     refine TO.indexVecI (k := 1) hq2 Try.underlying60 sz_68 rfl dc rfl rfl rfl rfl (TO.loadsVec (i := (i3 : Int).toNat) (j := 0) (k := 1) (q := q1) (cs := [.int .i32 q1.Rune, .string q1.Text, .int .i64 q1.At]) rw_68 enc_Gref04_Item_len rfl dc rfl rfl (getO_get hq2) rfl rfl rfl ?_)
     refine TO.buildSlice (cs := [.int .i32 q1.Rune, .string q1.Text, .int .i64 q1.At]) (te := 68) (ps := [(0, .tmp 17)]) rfl dc rfl (fun _ => by kernel_rfl) (fun b1 => ?_)
     obtain ⟨hg1, h⟩ := grdE h
     refine TO.appendVec (k := 2) (k2 := 3) (ys := [q1]) Try.underlying60 el_68 enc_Gref04_Item_len enc_Gref04_Item_one rfl dc rfl rfl rfl rfl rfl rfl hg1 (fun v7 => ?_)
     show TO _ _ _ _ _ _ _ _ _ _ [vec enc_Gref04_Item 68 3 vvl1 Ll1, vec enc_Gref04_Item 68 3 v2 r1, vec enc_Gref04_Item 68 3 v7 (out4 ++ [q1]), cells b1 [.int .i32 q1.Rune, .string q1.Text, .int .i64 q1.At] 68]
     refine TO.assign rfl dc rfl (TO.nil (TX.next (TC.seq (TC.region (TO.move rfl dc rfl (TO.move rfl dc rfl ?_))))))
     obtain ⟨q2, hq3, h⟩ := andE h
     refine TO.indexVecI (k := 1) hq3 Try.underlying60 sz_68 rfl dc rfl rfl rfl rfl (TO.loadsVec (i := (i3 : Int).toNat) (j := 0) (k := 1) (q := q2) (cs := [.int .i32 q2.Rune, .string q2.Text, .int .i64 q2.At]) rw_68 enc_Gref04_Item_len rfl dc rfl rfl (getO_get hq3) rfl rfl rfl ?_)
     obtain ⟨r2, hq4, h⟩ := andE h
     refine TO.callP (v := .bool r2) (vs := [.agg #[.int .i32 q2.Rune, .string q2.Text, .int .i64 q2.At]]) rfl dc rfl rfl rfl en_53 (ref04_Item_letter_fn (x1 := q2) hq4) (TO.nil (TX.next ?_))
     refine TC.condB rfl (fun hb2 => ?_) (fun hb2 => ?_)
     ·
      have h := condT hb2 h
      refine TC.region (TO.move rfl dc rfl (TO.move rfl dc rfl (TO.move rfl dc rfl ?_)))
      obtain ⟨hg2, h⟩ := grdE h
      refine TO.bin rfl dc rfl rfl (bin_add (r := i3 + 1) (IntWalk.i64_in _ hg2)) ?_
      refine TO.vecVw (k := 1) rfl (fun hw1 => ?_)
      obtain ⟨hg3, h⟩ := grdE h
      obtain ⟨v8, hv1, hs1⟩ := slice_Vw (lo := some (.int .i64 (i3 + 1))) (hi := none) hw1 Try.underlying60 sz_68 (.inr rfl) (.inl ⟨rfl, rfl⟩) hg3
      refine TO.slice rfl dc rfl rfl rfl hs1 ?_
      obtain ⟨r3, hq5, h⟩ := andE h
      refine TO.callK (v := .int .i64 r3) (vs := [v8]) rfl dc rfl rfl rfl en_54 (ref04_marks_fn hv1 hq5) [1] kr rfl ?_
      obtain ⟨hg4, h⟩ := grdE h
      refine TO.bin rfl dc rfl rfl (bin_add (r := i3 + r3) (IntWalk.i64_in _ hg4)) (TO.assign rfl dc rfl (TO.nil (TX.blockNormal ?_)))
      exact TX.meetD (out4 ++ [q1], i3 + r3, v7) h rfl (Sbs.cons rfl (Sbs.cons rfl (Sbs.cons rfl (Sbs.nil)))) (Splits.of [0, 1, 2] kr rfl)
     ·
      have h := condF hb2 h
      refine TC.skip (TX.blockNormal ?_)
      exact TX.meetD (out4 ++ [q1], i3, v7) h rfl (Sbs.cons rfl (Sbs.cons rfl (Sbs.cons rfl (Sbs.nil)))) (Splits.of [0, 1, 2] kr rfl)
    ·
     rintro ⟨out5, i4, v6⟩ h
     rw [hj2] at h
     show TC _ _ _ _ _ ([]) _ _ [(0, v2), (3, v6), (4, .int .i64 i4)] [vec enc_Gref04_Item 68 3 vvl1 Ll1, vec enc_Gref04_Item 68 3 v2 r1, vec enc_Gref04_Item 68 3 v6 out5]
     refine TC.region (TO.move rfl dc rfl ?_)
     obtain ⟨hg5, h⟩ := grdE h
     refine TO.bin rfl dc rfl rfl (bin_add (r := i4 + 1) (IntWalk.i64_in _ hg5)) (TO.assign rfl dc rfl (TO.nil ?_))
     subst hag1
     exact TX.againD (n1, out5, i4 + 1, v6) h (Nat.lt_succ_self _) rfl (Sbs.cons rfl (Sbs.cons rfl (Sbs.cons rfl (Sbs.nil)))) (Splits.of [0, 1, 2] kr rfl)
   ·
    have h := condF hb1 h
    refine TC.exit (TX.thenExit (TX.thenExit (TX.blockHere ?_)))
    exact TX.meetD (out4, v5) h rfl (Sbs.cons rfl (Sbs.nil)) (Splits.of [0, 2] kr rfl)
 ·
  rintro ⟨out1, v1⟩ h
  rw [hj1] at h
  show TC _ _ _ _ _ ([]) _ _ [(3, v1)] [vec enc_Gref04_Item 68 3 vvl1 Ll1, vec enc_Gref04_Item 68 3 v1 out1]
  refine TC.seq (TC.region (TO.move rfl dc rfl (TO.assign rfl dc rfl (TO.nil (TX.next (TC.ret ?_))))))
  cases h
  exact TX.fin (rs := [.tmp 2]) v1 (.inl rfl) Try.results57 (.cons (.tmp rfl) .nil) rfl (Splits.of [0, 1] kr rfl)
def ref04_Folded_s1 (j1 : (List Gref04_Item) → Option (List Gref04_Item)) (r2 : (List Gref04_Item)) (ag1 : (List Gref04_Item) → Int → Option (List Gref04_Item)) (l4 : List Gref04_Item) (x3 : Int) : Option (List Gref04_Item) := bcond (decide ((x3 : Int) < (r2.length : Int))) ( joinK (fun (j2 : (List Gref04_Item) → Option (List Gref04_Item)) => andThen (getO l4 x3) fun (q1 : Gref04_Item) => andThen (ref04_Item_letter_v q1) fun (r3 : Bool) => bcond (r3) ( grd (I32 q1.Rune) <| andThen (ref04_plain_v (lower q1.Rune)) fun (r4 : ByteArray) => andThen (getO l4 x3) fun (q2 : Gref04_Item) => j2 (l4.set (x3 : Int).toNat (⟨q2.Rune, r4, q2.At⟩ : Gref04_Item))
) ( j2 l4
)
) (fun (l5 : List Gref04_Item) => grd (I64 (x3 + 1)) <| ag1 l5 (x3 + 1)
)
) ( j1 l4
)
def ref04_Folded_v (s1 : ByteArray) : Option (List Gref04_Item) := joinK (fun (j1 : (List Gref04_Item) → Option (List Gref04_Item)) => andThen (ref04_Items_v s1) fun (r1 : (List Gref04_Item)) => andThen (ref04_bare_v r1) fun (r2 : (List Gref04_Item)) => loopG (fun _ _ => none) (ref04_Folded_s1 j1 r2) fuel r2 0
) (fun (l1 : List Gref04_Item) => some l1
)
set_option maxRecDepth 100000 in
set_option maxHeartbeats 4000000 in
theorem ref04_Folded_fn {s1 : ByteArray} {r : (List Gref04_Item)} (h : ref04_Folded_v s1 = some r) : Fn Try.prog 42 [.string s1] [] (fun v0 : Value => v0) (fun v0 => [vec enc_Gref04_Item 68 3 v0 r]) := by
 unfold ref04_Folded_v at h
 refine Fn.intro Try.func42 rfl Try.ntmps42 (by simp) ?_
 intro w0 K
 obtain ⟨j1, hj1, h⟩ := joinE h
 refine TC.cutN (β := (List Gref04_Item) × Value) 2 rfl (fun b => j1 b.1 = some r) (fun b => []) (fun b => [(3, b.2)]) (fun b => [vec enc_Gref04_Item 68 3 b.2 b.1]) (fun cut => ?_) ?_
 ·
  refine TC.seq (TC.region (TO.assign rfl dc rfl (TO.nil (TX.next (TC.seq (TC.region (TO.move rfl dc rfl ?_)))))))
  obtain ⟨r1, hq1, h⟩ := andE h
  refine TO.call (vs := [.string s1]) rfl dc rfl rfl rfl en_50 (ref04_Items_fn hq1) Splits.nil ?_
  rintro v2
  show TO _ _ _ _ _ _ _ _ _ _ [vec enc_Gref04_Item 68 3 v2 r1]
  refine TO.vecVw (k := 0) rfl (fun hw1 => ?_)
  obtain ⟨r2, hq2, h⟩ := andE h
  refine TO.call (vs := [v2]) rfl dc rfl rfl rfl en_57 (ref04_bare_fn hw1 hq2) (Splits.of [0] kr rfl) ?_
  rintro v3
  show TO _ _ _ _ _ _ _ _ _ _ [emp, vec enc_Gref04_Item 68 3 v2 r1, vec enc_Gref04_Item 68 3 v3 r2]
  refine TO.assign rfl dc rfl (TO.nil (TX.next (cut (TC.seq (TC.region (TO.move rfl dc rfl (TO.lenVec (k := 2) rfl dc rfl rfl Try.underlying60 (TO.move rfl dc rfl (TO.nil (TX.next (TC.block ?_)))))))))))
  refine TC.loopD (β := Nat × (List Gref04_Item) × Int) (fun b => loopG (fun _ _ => none) (ref04_Folded_s1 j1 r2) b.1 b.2.1 b.2.2 = some r) (fun b => []) (fun b => [(3, v3), (9, v3), (10, .int .i64 (r2.length : Int)), (11, .int .i64 b.2.2)]) (fun b => [vec enc_Gref04_Item 68 3 v3 b.2.1]) (fun b => b.1) (fuel, r2, 0) h rfl (Sbs.cons rfl (Sbs.cons rfl (Sbs.cons rfl (Sbs.cons rfl (Sbs.nil))))) (Splits.of [2] kr rfl) ?_
  rintro ⟨n1, l4, x3⟩ h
  cases n1 with
  | zero => exact noneE h
  | succ n1 =>
   obtain ⟨ag1, hag1⟩ : ∃ ag, ag = loopG (fun _ _ => none) (ref04_Folded_s1 j1 r2) n1 := ⟨_, rfl⟩
   have h : ref04_Folded_s1 j1 r2 ag1 l4 x3 = some r := by rw [hag1]; exact h
   unfold ref04_Folded_s1 at h
   show TC _ _ _ _ _ ([]) _ _ [(3, v3), (9, v3), (10, .int .i64 (r2.length : Int)), (11, .int .i64 x3)] [vec enc_Gref04_Item 68 3 v3 l4]
   refine TC.seq (TC.region (TO.bin rfl dc rfl rfl bin_lss (TO.nil (TX.next (TC.seq ?_)))))
   refine TC.condB rfl (fun hb1 => ?_) (fun hb1 => ?_)
   ·
    have h := condT hb1 h
    refine TC.skip (TX.next ?_)
    obtain ⟨j2, hj2, h⟩ := joinE h
    refine TC.cutN (β := (List Gref04_Item)) 0 rfl (fun b => j2 b = some r) (fun b => []) (fun b => [(3, v3), (9, v3), (10, .int .i64 (r2.length : Int)), (11, .int .i64 x3)]) (fun b => [vec enc_Gref04_Item 68 3 v3 b]) (fun cut => ?_) ?_
    ·
     refine cut (TC.block (TC.seq (TC.region (TO.move rfl dc rfl ?_))))
     obtain ⟨q1, hq3, h⟩ := andE h
     refine TO.indexVecI (k := 0) hq3 Try.underlying60 sz_68 rfl dc rfl rfl rfl rfl (TO.loadsVec (i := (x3 : Int).toNat) (j := 0) (k := 0) (q := q1) (cs := [.int .i32 q1.Rune, .string q1.Text, .int .i64 q1.At]) rw_68 enc_Gref04_Item_len rfl dc rfl rfl (getO_get hq3) rfl rfl rfl ?_)
     refine TO.alloc zr_68 rfl dc (fun b1 => ?_)
     refine TO.assign rfl dc rfl (TO.stores (k := 1) (vs := [.int .i32 q1.Rune, .string q1.Text, .int .i64 q1.At]) (l' := [.int .i32 q1.Rune, .string q1.Text, .int .i64 q1.At]) sz_68 rfl rfl rfl rfl rfl (show _ ≤ _ by simp) rfl rfl ?_)
     show TO _ _ _ _ _ _ _ _ _ _ [vec enc_Gref04_Item 68 3 v3 l4, cells b1 [.int .i32 q1.Rune, .string q1.Text, .int .i64 q1.At] 68]
     refine TO.nil (TX.next (TC.seq (TC.region (TO.loads (k := 1) (cs := [.int .i32 q1.Rune, .string q1.Text, .int .i64 q1.At]) rw_68 rfl dc rfl rfl rfl rfl ?_))))
     obtain ⟨r3, hq4, h⟩ := andE h
     refine TO.callP (v := .bool r3) (vs := [.agg #[.int .i32 q1.Rune, .string q1.Text, .int .i64 q1.At]]) rfl dc rfl rfl rfl en_53 (ref04_Item_letter_fn (x1 := q1) hq4) (TO.nil (TX.next ?_))
     refine TC.condB rfl (fun hb2 => ?_) (fun hb2 => ?_)
     ·
      have h := condT hb2 h
      refine TC.region (TO.move rfl dc rfl (TO.move rfl dc rfl (TO.fieldAddr fl_68_0 rfl dc rfl (show _ = 0 from rfl) (TO.load (k := 1) sc_21 rfl dc rfl rfl rfl ?_))))
      obtain ⟨hg1, h⟩ := grdE h
      refine TO.callP (v := .int .i32 (lower q1.Rune)) (vs := [.int .i32 q1.Rune]) rfl dc rfl rfl rfl en_66 (FnP.of_same fun w => rlower_any q1.Rune w hg1.1 hg1.2) ?_
      obtain ⟨r4, hq5, h⟩ := andE h
      refine TO.callP (v := .string r4) (vs := [.int .i32 (lower q1.Rune)]) rfl dc rfl rfl rfl en_65 (ref04_plain_fn hq5) ?_
      obtain ⟨q2, hq6, h⟩ := andE h
      refine TO.indexVecI (k := 0) hq6 Try.underlying60 sz_68 rfl dc rfl rfl rfl rfl (TO.fieldAddr fl_68_1 rfl dc rfl (show _ = ((x3 : Int).toNat) * 3 + 1 from rfl) ?_)
      refine TO.storeVec (i := (x3 : Int).toNat) (j := 1) (k := 0) (q := q2) (q' := (⟨q2.Rune, r4, q2.At⟩ : Gref04_Item)) sz_9 enc_Gref04_Item_len rfl rfl rfl rfl (getO_get hq6) rfl dc rfl (fun _ _ => rfl) ?_
      refine TO.nil (TX.blockNormal ?_)
      exact TX.meetD (l4.set (x3 : Int).toNat (⟨q2.Rune, r4, q2.At⟩ : Gref04_Item)) h rfl (Sbs.cons rfl (Sbs.cons rfl (Sbs.cons rfl (Sbs.cons rfl (Sbs.nil))))) (Splits.of [0] kr rfl)
     ·
      have h := condF hb2 h
      refine TC.skip (TX.blockNormal ?_)
      exact TX.meetD l4 h rfl (Sbs.cons rfl (Sbs.cons rfl (Sbs.cons rfl (Sbs.cons rfl (Sbs.nil))))) (Splits.of [0] kr rfl)
    ·
     rintro l5 h
     rw [hj2] at h
     show TC _ _ _ _ _ ([]) _ _ [(3, v3), (9, v3), (10, .int .i64 (r2.length : Int)), (11, .int .i64 x3)] [vec enc_Gref04_Item 68 3 v3 l5]
     refine TC.region ?_
     obtain ⟨hg2, h⟩ := grdE h
     refine TO.bin rfl dc rfl rfl (bin_add (r := x3 + 1) (IntWalk.i64_in _ hg2)) (TO.move rfl dc rfl (TO.nil ?_))
     subst hag1
     exact TX.againD (n1, l5, x3 + 1) h (Nat.lt_succ_self _) rfl (Sbs.cons rfl (Sbs.cons rfl (Sbs.cons rfl (Sbs.cons rfl (Sbs.nil))))) (Splits.of [0] kr rfl)
   ·
    have h := condF hb1 h
    refine TC.exit (TX.thenExit (TX.thenExit (TX.blockHere ?_)))
    exact TX.meetD (l4, v3) h rfl (Sbs.cons rfl (Sbs.nil)) (Splits.of [0] kr rfl)
 ·
  rintro ⟨l1, v1⟩ h
  rw [hj1] at h
  show TC _ _ _ _ _ ([]) _ _ [(3, v1)] [vec enc_Gref04_Item 68 3 v1 l1]
  refine TC.seq (TC.region (TO.move rfl dc rfl (TO.assign rfl dc rfl (TO.nil (TX.next (TC.ret ?_))))))
  cases h
  exact TX.fin (rs := [.tmp 2]) v1 (.inl rfl) Try.results42 (.cons (.tmp rfl) .nil) rfl (Splits.of [0] kr rfl)
def ref04_Fold_v (s1 : ByteArray) : Option ByteArray := andThen (ref04_Folded_v s1) fun (r1 : (List Gref04_Item)) => andThen (ref04_Text_v r1) fun (r2 : ByteArray) => some r2
set_option maxRecDepth 100000 in
set_option maxHeartbeats 4000000 in
theorem ref04_Fold_fn {s1 : ByteArray} {r : ByteArray} (h : ref04_Fold_v s1 = some r) : FnP Try.prog 14 [.string s1] (.string r) := by
 unfold ref04_Fold_v at h
 refine FnP.intro Try.func14 rfl Try.ntmps14 (by simp) ?_
 intro w0 K
 refine TC.seq (TC.region (TO.assign rfl dc rfl (TO.nil (TX.next (TC.seq (TC.region (TO.move rfl dc rfl ?_)))))))
 obtain ⟨r1, hq1, h⟩ := andE h
 refine TO.call (vs := [.string s1]) rfl dc rfl rfl rfl en_42 (ref04_Folded_fn hq1) Splits.nil ?_
 rintro v1
 show TO _ _ _ _ _ _ _ _ _ _ [vec enc_Gref04_Item 68 3 v1 r1]
 refine TO.vecVw (k := 0) rfl (fun hw1 => ?_)
 obtain ⟨r2, hq2, h⟩ := andE h
 refine TO.callK (v := .string r2) (vs := [v1]) rfl dc rfl rfl rfl en_41 (ref04_Text_fn hw1 hq2) [0] kr rfl (TO.assign rfl dc rfl (TO.nil (TX.next (TC.ret ?_))))
 cases h
 exact TX.fin (rs := [.tmp 2]) () (.inl rfl) Try.results14 (.cons (.tmp rfl) .nil) rfl Splits.nil
end Go.Proofs.Ythjkafeklflgbaa
namespace Go.Proofs.Ythjkafeklflgbaa
open Go.RowKit Go.Lib
set_option linter.unusedVariables false
set_option linter.unusedSimpArgs false

/-- Where the k-th piece begins. -/
def posAt (s : ByteArray) (k : Nat) : Nat := match (pcs s.data.toList)[k]? with
  | some p => p.i
  | none => s.size
theorem posAt_some {s : ByteArray} {k : Nat} {p : Pc} (h : (pcs s.data.toList)[k]? = some p) : posAt s k = p.i := by simp [posAt, h]
theorem posAt_zero (s : ByteArray) : posAt s 0 = 0 := by
  unfold posAt
  by_cases h : s.data.toList = []
  · have : s.size = 0 := by have := congrArg List.length h; simpa using this
    simp [h, pcs, pcsFrom_nil, this]
  · simp [pcs, pcsFrom_cons 0 _ h]
theorem posAt_next {s : ByteArray} {k : Nat} {p : Pc} (h : (pcs s.data.toList)[k]? = some p) : posAt s (k + 1) = p.i + p.w ∧ pcsFrom p.i (s.data.toList.drop p.i) = p :: (pcs s.data.toList).drop (k + 1) := by
  have hk : k < (pcs s.data.toList).length := (List.getElem?_eq_some_iff.1 h).1
  have he : pcs s.data.toList = (pcs s.data.toList).take k ++ p :: (pcs s.data.toList).drop (k + 1) := by
    have h1 := List.drop_eq_getElem_cons hk
    have h2 : (pcs s.data.toList)[k] = p := (List.getElem?_eq_some_iff.1 h).2
    rw [h2] at h1
    rw [← h1, List.take_append_drop]
  obtain ⟨q1, q2, q3, q4⟩ := pcs_split s.data.toList _ p _ he
  have hlen : s.data.toList.length = s.size := by rw [Array.length_toList]; rfl
  refine ⟨?_, q3⟩
  unfold posAt
  have hget : (pcs s.data.toList)[k + 1]? = ((pcs s.data.toList).drop (k + 1))[0]? := by simp
  rw [hget, q4]
  by_cases hd' : s.data.toList.drop (p.i + p.w) = []
  · rw [hd', pcsFrom_nil]
    have h5 := congrArg List.length hd'
    simp only [List.length_drop, List.length_nil, hlen] at h5
    obtain ⟨_, h6, _⟩ := pcs_pos s.data.toList p (List.mem_of_getElem? h)
    simp; omega
  · rw [pcsFrom_cons _ _ hd']; simp
section
variable {F : Fence} {P : Program} {w0 : World} {K : Nat → Prop} {N : Nat} {dfs : List Deferred} {ops : Array Oper} {Q : Exit → Act → World → Prop} {rest : List Oper} {σ : List (Nat × Value)} {L : List Asn}
  {d : Nat} {t : TypeId} {ty : TypeId} {pos : String} {aft : Array Edge} {g : Option (Nat × Bool)} {x : Operand} {k : Nat} {s : ByteArray}
theorem TO.rangeStr [WideF F] (ht : P.underlying t = some .string) (hg : gd ops σ g = some true) (hd : d < N) (hx : ev σ x = some (.string s))
    (h : ∀ b, TO F P w0 K N dfs ops Q rest ((d, .pointer (some ⟨b, 0, none⟩)) :: σ) (L ++ [obj b (.stringIter s (posAt s 0))])) : TO F P w0 K N dfs ops Q (⟨some d, .range t x, ty, pos, aft, g⟩ :: rest) σ L :=
  TO.step hg (by simp) fun a w ha hw => ⟨.pointer (some ⟨w.heap.size, 0, none⟩), w.alloc (.stringIter s 0), by simp [execOp, ha.ev hx, Instr.range, run_underlying ht, Sem.run_bind], h _ _ _ (ha.put hd _) (by rw [posAt_zero]; exact hw.alloc _)⟩
theorem TO.nextStr [WideF F] {it m : Nat} {p : Pc} (hg : gd ops σ g = some true) (hd : d < N) (hx : ev σ x = some (.pointer (some ⟨it, 0, none⟩))) (hk : L[k]? = some (obj it (.stringIter s (posAt s m)))) (hp : (pcs s.data.toList)[m]? = some p)
    (h : TO F P w0 K N dfs ops Q rest ((d, .tuple #[.bool true, .int .i64 p.i, .int .i32 p.r]) :: σ) (L.set k (obj it (.stringIter s (posAt s (m + 1)))))) : TO F P w0 K N dfs ops Q (⟨some d, .next x true, ty, pos, aft, g⟩ :: rest) σ L := by
  refine TO.step hg (by simp) fun a w ha hw => ?_
  have hit := hw.obj hk
  rw [posAt_some hp] at hit
  obtain ⟨h1, h2⟩ := posAt_next hp
  have hmem := List.mem_of_getElem? hp
  obtain ⟨g1, g2, _⟩ := pcs_pos s.data.toList p hmem
  have hlen : s.data.toList.length = s.size := by rw [Array.length_toList]; rfl
  obtain ⟨r, wd, W1, e1, e2, e3, e4, e5, e6, e7, e8⟩ := next_some P w it s p.i hit (by omega)
  rw [h2] at e6
  have hpe : p = ⟨p.i, wd, r⟩ := (List.cons.inj e6).1
  have hw' : p.w = wd := congrArg Pc.w hpe
  have hr : p.r = r := congrArg Pc.r hpe
  obtain ⟨C1, c1, c2⟩ := hw.focus hk
  refine ⟨.tuple #[.bool true, .int .i64 p.i, .int .i32 p.r], W1, by rw [hr]; simp [execOp, ha.ev hx, e1, Sem.run_bind], h _ _ (ha.put hd _) (c2 _ C1 W1 ⟨?_, fun j hj => .inl hj⟩ ⟨c1.1, by rw [h1, hw']; exact e3⟩)⟩
  exact e2.weaken (fun i _ hi => by subst hi; exact (c1.1 _).2 rfl)
theorem TO.nextEnd [WideF F] {it m : Nat} (hg : gd ops σ g = some true) (hd : d < N) (hx : ev σ x = some (.pointer (some ⟨it, 0, none⟩))) (hk : L[k]? = some (obj it (.stringIter s (posAt s m)))) (hm : (pcs s.data.toList).length ≤ m)
    (h : TO F P w0 K N dfs ops Q rest ((d, .tuple #[.bool false]) :: σ) L) : TO F P w0 K N dfs ops Q (⟨some d, .next x true, ty, pos, aft, g⟩ :: rest) σ L := by
  refine TO.step hg (by simp) fun a w ha hw => ?_
  have hit := hw.obj hk
  have e : posAt s m = s.size := by simp [posAt, List.getElem?_eq_none hm]
  rw [e] at hit
  exact ⟨_, w, by simp [execOp, ha.ev hx, (next_none P w it s s.size hit (by omega)).1, Sem.run_bind], h _ _ (ha.put hd _) hw⟩
end
end Go.Proofs.Ythjkafeklflgbaa
