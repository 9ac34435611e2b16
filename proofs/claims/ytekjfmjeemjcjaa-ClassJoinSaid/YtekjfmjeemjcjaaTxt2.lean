/-
  Plain lemmas: small, great and headed texts, piece by piece; once more the same. Nothing is assumed.
-/
import Derived.Test.YtekjfmjeemjcjaaTxt
namespace Go.Proofs.Ytekjfmjeemjcjaa
open Go.RowKit Go.Lib
set_option linter.unusedVariables false
set_option linter.unusedSimpArgs false

def mkT (r : Nat) : Tok := ⟨r, encodeRune r⟩
theorem mkT_valid {r : Nat} (h : r < 55296) : (mkT r).valid := ⟨.inl h, rfl⟩
theorem letter_lt (r : Int) (h : letter r = true) : 0 ≤ r ∧ r < 1120 := by
  simp only [letter, Bool.or_eq_true, great_iff, small_iff, greatP, smallP] at h
  omega
def chkLow (n : Nat) : Bool := !letter (n : Int) || (letter (lower n) && decide (0 ≤ lower n) && decide (lower n < 1120) && (lower (lower n) == lower n) && (lower n != 931) && decide ((encodeRune (lower n)).length ≤ (encodeRune n).length))
def chkUp (n : Nat) : Bool := !letter (n : Int) || (letter (upper n) && decide (0 ≤ upper n) && decide (upper n < 1120) && (upper (upper n) == upper n) && (n == 223 || upper n != 223) && decide ((encodeRune (upper n)).length ≤ (encodeRune n).length))
def chkUL (n : Nat) : Bool := !letter (n : Int) || n == 0x130 || ((upper (lower n) == upper n) && ((lower n == 223) == (n == 223)))
theorem all_low : (List.range 1120).all chkLow = true := by decide +kernel
theorem all_up : (List.range 1120).all chkUp = true := by decide +kernel
theorem all_ul : (List.range 1120).all chkUL = true := by decide +kernel
theorem fin_low (n : Nat) (hn : n < 1120) (hl : letter (n : Int) = true) :
    letter (lower n) = true ∧ 0 ≤ lower n ∧ lower n < 1120 ∧ lower (lower n) = lower n ∧ lower n ≠ 931 ∧ (encodeRune (lower n)).length ≤ (encodeRune n).length := by
  have h := List.all_eq_true.1 all_low n (List.mem_range.2 hn)
  simp only [chkLow, hl, Bool.not_true, Bool.false_or, Bool.and_eq_true, decide_eq_true_eq, beq_iff_eq, bne_iff_ne, ne_eq] at h
  exact ⟨h.1.1.1.1.1, h.1.1.1.1.2, h.1.1.1.2, h.1.1.2, h.1.2, h.2⟩
theorem fin_up (n : Nat) (hn : n < 1120) (hl : letter (n : Int) = true) :
    letter (upper n) = true ∧ 0 ≤ upper n ∧ upper n < 1120 ∧ upper (upper n) = upper n ∧ (n ≠ 223 → upper n ≠ 223) ∧ (encodeRune (upper n)).length ≤ (encodeRune n).length := by
  have h := List.all_eq_true.1 all_up n (List.mem_range.2 hn)
  simp only [chkUp, hl, Bool.not_true, Bool.false_or, Bool.and_eq_true, Bool.or_eq_true, decide_eq_true_eq, beq_iff_eq, bne_iff_ne, ne_eq] at h
  exact ⟨h.1.1.1.1.1, h.1.1.1.1.2, h.1.1.1.2, h.1.1.2, fun q => h.1.2.resolve_left q, h.2⟩
theorem fin_uplow (n : Nat) (hn : n < 1120) (hl : letter (n : Int) = true) (h0 : n ≠ 0x130) : upper (lower n) = upper n ∧ (lower n = 223 → n = 223) ∧ (n = 223 → lower n = 223) := by
  have h := List.all_eq_true.1 all_ul n (List.mem_range.2 hn)
  simp only [chkUL, hl, Bool.not_true, Bool.false_or, Bool.and_eq_true, Bool.or_eq_true, beq_iff_eq] at h
  have h' := h.resolve_left h0
  refine ⟨h'.1, fun q => ?_, fun q => ?_⟩
  · have := h'.2; rw [q] at this; simpa using this.symm
  · subst q; decide
theorem kind_letter (r : Int) (h0 : 0 ≤ r) (h1 : r < 1120) (h : letter r = true) : kind r = 1 := by
  unfold kind kindP
  rw [if_neg (by omega), if_pos h]
theorem kind_other (r : Int) (h : letter r = false) : kind r ≠ 1 := by
  unfold kind kindP
  rw [h]
  simp only [Bool.false_eq_true, if_false]
  (repeat' split) <;> omega
theorem tk_mk {r : Nat} (h : letter (r : Int) = true) (h1 : r < 1120) : tk (mkT r) = 1 := by
  have hb : (mkT r).broken = false := valid_not_broken (mkT_valid (Nat.lt_trans h1 (by decide)))
  have : tk (mkT r) = kind (r : Int) := by
    unfold tk kindOf
    rw [hb, show (mkT r).r = r from rfl]
    simp only [Bool.false_eq_true, if_false]
  rw [this]
  exact kind_letter _ (by omega) (by omega) h
theorem tk_letter {t : Tok} (h : tk t = 1) : letter (t.r : Int) = true ∧ t.broken = false ∧ t.r < 1120 := by
  cases hb : t.broken
  · have h' : kind (t.r : Int) = 1 := by simpa only [tk, kindOf, hb, Bool.false_eq_true, if_false] using h
    have hl : letter (t.r : Int) = true := by
      cases hl : letter (t.r : Int)
      · exact absurd h' (kind_other _ hl)
      · rfl
    exact ⟨hl, rfl, by have := letter_lt _ hl; omega⟩
  · unfold tk kindOf at h; rw [hb] at h; simp at h

def lowR (r : Nat) (led aft : Bool) : Nat := if r = 931 ∧ led = true ∧ aft = false then 962 else (lower r).toNat
def lowF (t : Tok) (led : Bool) (ts : List Tok) : List Tok := [mkT (lowR t.r led (aftT ts))]
def upF (t : Tok) (_ : Bool) (_ : List Tok) : List Tok := if t.r = 223 then [mkT 83, mkT 83] else [mkT (upper t.r).toNat]
def headF (t : Tok) (led : Bool) (ts : List Tok) : List Tok := if led = true then lowF t led ts else [mkT (upper t.r).toNat]
theorem low_fin (r : Nat) (hl : letter (r : Int) = true) (led a : Bool) : letter (lowR r led a : Int) = true ∧ lowR r led a < 1120 ∧ lower (lowR r led a : Int) = (lowR r led a : Int) ∧ lowR r led a ≠ 931 ∧ (encodeRune (lowR r led a)).length ≤ (encodeRune r).length := by
  have h1 := letter_lt _ hl
  unfold lowR
  split
  · rename_i h
    rw [h.1]
    exact ⟨by decide, by decide, by decide, by decide, by decide⟩
  · obtain ⟨a1, a2, a3, a4, a5, a6⟩ := fin_low r (by omega) hl
    have e : (((lower (r : Int)).toNat : Nat) : Int) = lower (r : Int) := by omega
    rw [e]
    exact ⟨a1, by omega, a4, by omega, a6⟩
theorem up_fin (r : Nat) (hl : letter (r : Int) = true) : letter ((upper (r : Int)).toNat : Int) = true ∧ (upper (r : Int)).toNat < 1120 ∧ upper ((upper (r : Int)).toNat : Int) = ((upper (r : Int)).toNat : Int) ∧ (r ≠ 223 → (upper (r : Int)).toNat ≠ 223) ∧ (encodeRune ((upper (r : Int)).toNat : Int)).length ≤ (encodeRune r).length := by
  have h1 := letter_lt _ hl
  obtain ⟨a1, a2, a3, a4, a5, a6⟩ := fin_up r (by omega) hl
  have e : (((upper (r : Int)).toNat : Nat) : Int) = upper (r : Int) := by omega
  rw [e]
  exact ⟨a1, by omega, a4, fun h => by have := a5 h; omega, a6⟩
/-- The pieces of each turned text. -/
theorem aft_flat {ts : List Tok} (hg : Good ts) {rest : ByteArray} (h : rest.data.toList = flat ts) : aft (pcs rest.data.toList) = aftT ts := by
  rw [h, show pcs (flat ts) = place 0 (toks (flat ts)) from pcs_place _ 0, hg, aft_place]
theorem enc_nat (z : Int) (h : 0 ≤ z) : (Utf8.encode z).data.toList = encodeRune (z.toNat : Int) := by
  rw [encode_list, show ((z.toNat : Nat) : Int) = z by omega]
theorem low_f (t : Tok) (led : Bool) (ts : List Tok) (rest : ByteArray) (hg : Good (t :: ts)) (hk : tk t = 1) (h : rest.data.toList = flat ts) : (smallOne t.r led rest).data.toList = flat (lowF t led ts) := by
  have hl := (tk_letter hk).1
  have h0 := fin_low t.r (tk_letter hk).2.2 hl
  unfold smallOne lowF lowR
  rw [aft_flat (good_tail hg) h]
  by_cases hc : t.r = 931 ∧ led = true ∧ aftT ts = false
  · rw [if_pos ⟨by omega, hc.2.1, hc.2.2⟩, if_pos hc]; decide
  · rw [if_neg (fun q => hc ⟨by omega, q.2.1, q.2.2⟩), if_neg hc, enc_nat _ h0.2.1]; simp [flat, mkT]
theorem up_f (t : Tok) (led : Bool) (ts : List Tok) (rest : ByteArray) (hg : Good (t :: ts)) (hk : tk t = 1) (h : rest.data.toList = flat ts) : (upLet t.r).data.toList = flat (upF t led ts) := by
  have hl := (tk_letter hk).1
  have h0 := fin_up t.r (tk_letter hk).2.2 hl
  unfold upLet upF
  by_cases hc : t.r = 223
  · rw [if_pos (by omega), if_pos hc]; decide
  · rw [if_neg (by omega), if_neg hc, enc_nat _ h0.2.1]; simp [flat, mkT]
theorem head_f (t : Tok) (led : Bool) (ts : List Tok) (rest : ByteArray) (hg : Good (t :: ts)) (hk : tk t = 1) (h : rest.data.toList = flat ts) : (headLet t.r led rest).data.toList = flat (headF t led ts) := by
  have hl := (tk_letter hk).1
  have h0 := fin_up t.r (tk_letter hk).2.2 hl
  unfold headLet headF
  cases led
  · rw [if_neg (by simp), if_neg (by simp), enc_nat _ h0.2.1]; simp [flat, mkT]
  · rw [if_pos rfl, if_pos rfl]; exact low_f t true ts rest hg hk h
theorem low_v (t : Tok) (led : Bool) (ts : List Tok) (hv : t.valid) (hk : tk t = 1) : lowF t led ts ≠ [] ∧ ∀ u ∈ lowF t led ts, u.valid := by
  have h := low_fin t.r (tk_letter hk).1 led (aftT ts)
  exact ⟨by simp [lowF], fun u hu => by rw [List.mem_singleton.1 hu]; exact mkT_valid (by omega)⟩
theorem up_v (t : Tok) (led : Bool) (ts : List Tok) (hv : t.valid) (hk : tk t = 1) : upF t led ts ≠ [] ∧ ∀ u ∈ upF t led ts, u.valid := by
  have h := up_fin t.r (tk_letter hk).1
  unfold upF
  split
  · exact ⟨by simp, fun u hu => by simp at hu; subst hu; exact mkT_valid (by decide)⟩
  · exact ⟨by simp, fun u hu => by rw [List.mem_singleton.1 hu]; exact mkT_valid (by omega)⟩
theorem head_v (t : Tok) (led : Bool) (ts : List Tok) (hv : t.valid) (hk : tk t = 1) : headF t led ts ≠ [] ∧ ∀ u ∈ headF t led ts, u.valid := by
  have h := up_fin t.r (tk_letter hk).1
  unfold headF
  split
  · exact low_v t led ts hv hk
  · exact ⟨by simp, fun u hu => by rw [List.mem_singleton.1 hu]; exact mkT_valid (by omega)⟩
theorem low_list (s : ByteArray) : (lowText s).data.toList = flat (turnT lowF false (toks s.data.toList)) := by rw [← turn_low]; exact turn_text s smallOne lowF low_f
theorem up_list (s : ByteArray) : (upText s).data.toList = flat (turnT upF false (toks s.data.toList)) := by rw [← turn_up]; exact turn_text s _ upF up_f
theorem head_list (s : ByteArray) : (headText s).data.toList = flat (turnT headF false (toks s.data.toList)) := by rw [← turn_head]; exact turn_text s headLet headF head_f
theorem low_toks (s : ByteArray) : toks (lowText s).data.toList = turnT lowF false (toks s.data.toList) := by
  rw [low_list]; exact (turnT_sub lowF low_v _ false (toks_ok _)).good (good_toks _)
theorem up_toks (s : ByteArray) : toks (upText s).data.toList = turnT upF false (toks s.data.toList) := by
  rw [up_list]; exact (turnT_sub upF up_v _ false (toks_ok _)).good (good_toks _)
theorem head_toks (s : ByteArray) : toks (headText s).data.toList = turnT headF false (toks s.data.toList) := by
  rw [head_list]; exact (turnT_sub headF head_v _ false (toks_ok _)).good (good_toks _)

theorem turnT_mem (f : Tok → Bool → List Tok → List Tok) : ∀ ts led t, t ∈ turnT f led ts → (tk t ≠ 1) ∨ ∃ t0 led' ts', t0 ∈ ts ∧ tk t0 = 1 ∧ t ∈ f t0 led' ts' := by
  intro ts
  induction ts with
  | nil => intro led t h; simp [turnT] at h
  | cons t0 ts ih =>
    intro led t h
    rw [turnT] at h
    rcases List.mem_append.1 h with h | h
    · by_cases hp : tk t0 = 1
      · rw [if_pos hp] at h; exact .inr ⟨t0, led, ts, List.mem_cons_self .., hp, h⟩
      · rw [if_neg hp] at h; rw [List.mem_singleton.1 h]; exact .inl hp
    · rcases ih _ t h with h' | ⟨t1, l1, ts1, h1, h2, h3⟩
      · exact .inl h'
      · exact .inr ⟨t1, l1, ts1, List.mem_cons_of_mem _ h1, h2, h3⟩
theorem turnT_fix (f : Tok → Bool → List Tok → List Tok) : ∀ ts led, (∀ t ∈ ts, tk t = 1 → ∀ led ts, f t led ts = [t]) → turnT f led ts = ts := by
  intro ts
  induction ts with
  | nil => intro led h; rfl
  | cons t ts ih =>
    intro led h
    rw [turnT, ih _ (fun q hq => h q (List.mem_cons_of_mem _ hq))]
    by_cases hp : tk t = 1
    · rw [if_pos hp, h t (List.mem_cons_self ..) hp]; rfl
    · rw [if_neg hp]; rfl
theorem lowF_fix {r : Nat} (h : lower (r : Int) = r) (h1 : r ≠ 931) (led : Bool) (ts : List Tok) : lowF (mkT r) led ts = [mkT r] := by
  unfold lowF lowR
  rw [if_neg (fun q => h1 q.1)]
  show [mkT (lower (r : Int)).toNat] = _
  rw [h]; simp
theorem upF_fix {r : Nat} (h : upper (r : Int) = r) (h1 : r ≠ 223) (led : Bool) (ts : List Tok) : upF (mkT r) led ts = [mkT r] := by
  unfold upF
  rw [if_neg (show ¬ (mkT r).r = 223 from h1)]
  show [mkT (upper (r : Int)).toNat] = _
  rw [h]; simp
theorem low_low (s : ByteArray) : lowText (lowText s) = lowText s := by
  apply ba_ext
  rw [low_list (lowText s), low_toks, turnT_fix lowF, ← low_list]
  intro t ht hk led ts
  rcases turnT_mem lowF _ _ t ht with h | ⟨t0, l0, ts0, _, h2, h3⟩
  · exact absurd hk h
  · rw [List.mem_singleton.1 h3]
    have := low_fin t0.r (tk_letter h2).1 l0 (aftT ts0)
    exact lowF_fix this.2.2.1 this.2.2.2.1 led ts
theorem up_up (s : ByteArray) : upText (upText s) = upText s := by
  apply ba_ext
  rw [up_list (upText s), up_toks, turnT_fix upF, ← up_list]
  intro t ht hk led ts
  rcases turnT_mem upF _ _ t ht with h | ⟨t0, l0, ts0, _, h2, h3⟩
  · exact absurd hk h
  · unfold upF at h3
    split at h3
    · have : t = mkT 83 := by simpa using h3
      rw [this]; exact upF_fix (by decide) (by decide) led ts
    · rw [List.mem_singleton.1 h3]
      have := up_fin t0.r (tk_letter h2).1
      exact upF_fix this.2.2.1 (this.2.2.2.1 (by assumption)) led ts
/-- Great letters by way of small ones. -/
theorem up_low (s : ByteArray) (h : ∀ t ∈ toks s.data.toList, t.r ≠ 0x130) : upText (lowText s) = upText s := by
  apply ba_ext
  rw [up_list (lowText s), low_toks, up_list s]
  congr 1
  have key : ∀ (ts : List Tok) (l1 l2 l3 : Bool), (∀ t ∈ ts, t.r ≠ 0x130) → turnT upF l1 (turnT lowF l2 ts) = turnT upF l3 ts := by
    intro ts
    induction ts with
    | nil => intro l1 l2 l3 _; rfl
    | cons t ts ih =>
      intro l1 l2 l3 hh
      have ht := hh t (List.mem_cons_self ..)
      have ih' := fun a b c => ih a b c (fun q hq => hh q (List.mem_cons_of_mem _ hq))
      by_cases hp : tk t = 1
      · have hl := tk_letter hp
        have h1 := low_fin t.r hl.1 l2 (aftT ts)
        rw [turnT, if_pos hp]
        conv => rhs; rw [turnT, if_pos hp]
        rw [show lowF t l2 ts = [mkT (lowR t.r l2 (aftT ts))] from rfl]
        rw [List.singleton_append, turnT, if_pos (tk_mk h1.1 h1.2.1), ih' _ (nxt l2 t) (nxt l3 t)]
        congr 1
        unfold upF
        obtain ⟨u1, u2, u3⟩ := fin_uplow t.r hl.2.2 hl.1 ht
        have e : (upper ((lowR t.r l2 (aftT ts) : Nat) : Int)) = upper (t.r : Int) ∧ (lowR t.r l2 (aftT ts) = 223 ↔ t.r = 223) := by
          unfold lowR
          split
          · rename_i hc; rw [hc.1]; exact ⟨by decide, by decide⟩
          · have f1 := (fin_low t.r hl.2.2 hl.1).2.1
            refine ⟨?_, ?_⟩
            · rw [show (((lower (t.r : Int)).toNat : Nat) : Int) = lower (t.r : Int) by omega]; exact u1
            · constructor
              · intro q; exact u2 (by omega)
              · intro q; have := u3 q; omega
        show (if lowR t.r l2 (aftT ts) = 223 then [mkT 83, mkT 83] else [mkT (upper ((lowR t.r l2 (aftT ts) : Nat) : Int)).toNat]) = _
        rw [e.1]
        by_cases h223 : t.r = 223
        · rw [if_pos (e.2.2 h223), if_pos h223]
        · rw [if_neg (fun q => h223 (e.2.1 q)), if_neg h223]
      · rw [turnT, if_neg hp]
        conv => rhs; rw [turnT, if_neg hp]
        rw [List.singleton_append, turnT, if_neg hp, ih' _ (nxt l2 t) (nxt l3 t)]
  exact key _ _ _ _ h

/-- A turned text is no longer. -/
theorem turnT_len (f : Tok → Bool → List Tok → List Tok) (hf : ∀ t led ts, tk t = 1 → (t.valid ∨ t.broken = true) → (flat (f t led ts)).length ≤ t.bs.length) : ∀ ts led, (∀ t ∈ ts, t.valid ∨ t.broken = true) → (flat (turnT f led ts)).length ≤ (flat ts).length := by
  intro ts
  induction ts with
  | nil => intro led _; simp [turnT]
  | cons t ts ih =>
    intro led h
    have h2 := ih (nxt led t) (fun q hq => h q (List.mem_cons_of_mem _ hq))
    rw [turnT, flat_append, flat_cons, List.length_append, List.length_append]
    by_cases hp : tk t = 1
    · rw [if_pos hp]; have := hf t led ts hp (h t (List.mem_cons_self ..)); omega
    · rw [if_neg hp]; simp [flat] at *; omega
theorem letter_bs {t : Tok} (hk : tk t = 1) (h : t.valid ∨ t.broken = true) : t.bs = encodeRune t.r := by
  rcases h with h | h
  · exact h.2
  · rw [(tk_letter hk).2.1] at h; cases h
theorem size_list (s : ByteArray) : s.data.toList.length = s.size := by rw [Array.length_toList]; rfl
theorem low_size (s : ByteArray) : (lowText s).size ≤ s.size := by
  rw [← size_list, ← size_list, low_list]
  conv => rhs; rw [← flat_toks s.data.toList]
  refine turnT_len lowF (fun t led ts hk hv => ?_) _ _ (toks_ok _)
  rw [letter_bs hk hv]
  have := low_fin t.r (tk_letter hk).1 led (aftT ts)
  simp only [lowF, flat, List.flatMap_cons, List.flatMap_nil, List.append_nil, mkT]
  exact this.2.2.2.2
theorem upF_len (t : Tok) (led : Bool) (ts : List Tok) (hk : tk t = 1) (hv : t.valid ∨ t.broken = true) : (flat (upF t led ts)).length ≤ t.bs.length := by
  rw [letter_bs hk hv]
  have := up_fin t.r (tk_letter hk).1
  unfold upF
  split
  · rename_i h; rw [h]; decide
  · simp only [flat, List.flatMap_cons, List.flatMap_nil, List.append_nil, mkT]
    exact this.2.2.2.2
theorem up_size (s : ByteArray) : (upText s).size ≤ s.size := by
  rw [← size_list, ← size_list, up_list]
  conv => rhs; rw [← flat_toks s.data.toList]
  exact turnT_len upF upF_len _ _ (toks_ok _)
theorem head_size (s : ByteArray) : (headText s).size ≤ s.size := by
  rw [← size_list, ← size_list, head_list]
  conv => rhs; rw [← flat_toks s.data.toList]
  refine turnT_len headF (fun t led ts hk hv => ?_) _ _ (toks_ok _)
  rw [letter_bs hk hv]
  have h1 := up_fin t.r (tk_letter hk).1
  have h2 := low_fin t.r (tk_letter hk).1 led (aftT ts)
  unfold headF
  split
  · simp only [lowF, flat, List.flatMap_cons, List.flatMap_nil, List.append_nil, mkT]
    exact h2.2.2.2.2
  · simp only [flat, List.flatMap_cons, List.flatMap_nil, List.append_nil, mkT]
    exact h1.2.2.2.2

end Go.Proofs.Ytekjfmjeemjcjaa
