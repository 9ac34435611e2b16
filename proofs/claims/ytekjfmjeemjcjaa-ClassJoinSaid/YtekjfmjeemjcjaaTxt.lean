/-
  Plain lemmas: texts whose letters are turned, the reference's and class.turn's; their pieces. Nothing is assumed.
-/
import Derived.Test.YtekjfmjeemjcjaaTurn
import Derived.Test.YtekjfmjeemjcjaaTok
import Derived.Test.YtekjfmjeemjcjaaRefHead
import Derived.Test.YtekjfmjeemjcjaaRefUp
namespace Go.Proofs.Ytekjfmjeemjcjaa
open Go.RowKit Go.Lib
set_option linter.unusedVariables false
set_option linter.unusedSimpArgs false

/-! ### class.turn's text is the reference's -/
theorem ba_ext {a b : ByteArray} (h : a.data.toList = b.data.toList) : a = b := by
  apply ByteArray.ext; exact Array.toList_inj.1 h
theorem aft_pcsFrom (l : List UInt8) : ∀ i j, aft (pcsFrom i l) = aft (pcsFrom j l) := by
  induction l using dec_induction with
  | h0 => intro i j; rw [pcsFrom_nil, pcsFrom_nil]
  | h1 l hn ih =>
    intro i j
    rw [pcsFrom_cons i l hn, pcsFrom_cons j l hn]
    unfold aft
    rw [ih (i + (decodeL l).2) (j + (decodeL l).2)]
    rfl
theorem aft_rest (s : ByteArray) (k : Nat) (x : Pc) (hx : (pcs s.data.toList)[k]? = some x) : aft (pcs (s.extract (x.i + x.w) s.size).data.toList) = aft ((pcs s.data.toList).drop (k + 1)) := by
  obtain ⟨hk, rfl⟩ := List.getElem?_eq_some_iff.1 hx
  have hsp : pcs s.data.toList = (pcs s.data.toList).take k ++ (pcs s.data.toList)[k] :: (pcs s.data.toList).drop (k + 1) := by
    rw [← List.drop_eq_getElem_cons hk, List.take_append_drop]
  obtain ⟨_, _, _, h4⟩ := pcs_split _ _ _ _ hsp
  rw [ext_end, h4]
  exact aft_pcsFrom _ _ _
theorem turn_cat (s : ByteArray) (one : Int → Bool → ByteArray → ByteArray) (g : Nat → Pc → ByteArray)
    (hg : ∀ k x, (pcs s.data.toList)[k]? = some x → g k x = (turnStep s one (⟨#[]⟩, aft ((pcs s.data.toList).take k).reverse) x).1) :
    ∀ k, k ≤ (pcs s.data.toList).length → turnP s one ((pcs s.data.toList).take k) = (cat g (pcs s.data.toList) k, aft ((pcs s.data.toList).take k).reverse) := by
  intro k
  induction k with
  | zero => intro _; rfl
  | succ k ih =>
    intro hk
    obtain ⟨x, hx⟩ : ∃ x, (pcs s.data.toList)[k]? = some x := ⟨_, List.getElem?_eq_getElem (by omega)⟩
    rw [take_snoc _ k x hx, turnP_snoc, ih (by omega), cat_succ _ _ k x hx, hg k x hx]
    have e0 : (⟨#[]⟩ : ByteArray) ++ (if pk x = 1 then one (x.r : Int) (aft ((pcs s.data.toList).take k).reverse) (s.extract (x.i + x.w) s.size) else s.extract x.i (x.i + x.w)) = (if pk x = 1 then one (x.r : Int) (aft ((pcs s.data.toList).take k).reverse) (s.extract (x.i + x.w) s.size) else s.extract x.i (x.i + x.w)) := by
      apply ba_ext; simp
    simp only [turnStep, e0]
    rw [List.reverse_append]
    rfl
theorem nil_app (b : ByteArray) : (⟨#[]⟩ : ByteArray) ++ b = b := by apply ba_ext; simp
theorem turn_low (s : ByteArray) : (turnP s smallOne (pcs s.data.toList)).1 = lowText s := by
  have h := turn_cat s smallOne (fun k x => lowOne s (pcs s.data.toList) k x) (fun k x hx => by
    simp only [turnStep, nil_app, lowOne, smallOne]
    rw [aft_rest s k x hx]
    by_cases hp : pk x = 1
    · rw [if_neg (by simp [hp]), if_pos hp]
      simp only [show (x.r = 931 ↔ (x.r : Int) = 931) by omega]
    · rw [if_pos hp, if_neg hp]) _ (Nat.le_refl _)
  rw [List.take_length] at h
  rw [h]; rfl
theorem turn_head (s : ByteArray) : (turnP s headLet (pcs s.data.toList)).1 = headText s := by
  have h := turn_cat s headLet (fun k x => headOne s (pcs s.data.toList) k x) (fun k x hx => by
    simp only [turnStep, nil_app, headOne, lowOne, headLet, smallOne]
    rw [aft_rest s k x hx]
    by_cases hp : pk x = 1
    · rw [if_pos hp]
      cases hl : aft ((pcs s.data.toList).take k).reverse
      · simp [hp]
      · simp only [show (x.r = 931 ↔ (x.r : Int) = 931) by omega]
        simp [hp]
    · simp [hp]) _ (Nat.le_refl _)
  rw [List.take_length] at h
  rw [h]; rfl
theorem turn_up (s : ByteArray) : (turnP s (fun r _ _ => upLet r) (pcs s.data.toList)).1 = upText s := by
  have h := turn_cat s (fun r _ _ => upLet r) (fun _ x => upOne s x) (fun k x hx => by
    simp only [turnStep, nil_app, upOne, upLet]
    by_cases hp : pk x = 1
    · rw [if_neg (by simp [hp]), if_pos hp]
      simp only [show (x.r = 223 ↔ (x.r : Int) = 223) by omega]
    · rw [if_pos hp, if_neg hp]) _ (Nat.le_refl _)
  rw [List.take_length] at h
  rw [h]; rfl

/-! ### The pieces of a turned text -/
def tk (t : Tok) : Int := kindOf t.broken t.r
def aftT : List Tok → Bool
  | [] => false
  | t :: ts => if tk t = 2 then aftT ts else tk t == 1
def nxt (led : Bool) (t : Tok) : Bool := if tk t = 2 then led else tk t == 1
theorem pk_place (i : Nat) (t : Tok) : pk ⟨i, t.bs.length, t.r⟩ = tk t := rfl
theorem aft_place (ts : List Tok) : ∀ i, aft (place i ts) = aftT ts := by
  induction ts with
  | nil => intro i; rfl
  | cons t ts ih => intro i; simp only [place, aft, aftT, ih, pk_place]
/-- A list of pieces in which each letter becomes others. -/
def turnT (f : Tok → Bool → List Tok → List Tok) : Bool → List Tok → List Tok
  | _, [] => []
  | led, t :: ts => (if tk t = 1 then f t led ts else [t]) ++ turnT f (nxt led t) ts
theorem turn_toks (s : ByteArray) (one : Int → Bool → ByteArray → ByteArray) (f : Tok → Bool → List Tok → List Tok)
    (hf : ∀ t led ts rest, Good (t :: ts) → tk t = 1 → rest.data.toList = flat ts → (one t.r led rest).data.toList = flat (f t led ts)) :
    ∀ (ts : List Tok) (pre : List UInt8) (out : ByteArray) (led : Bool), Good ts → s.data.toList = pre ++ flat ts →
      ((place pre.length ts).foldl (turnStep s one) (out, led)).1.data.toList = out.data.toList ++ flat (turnT f led ts) := by
  intro ts
  induction ts with
  | nil => intro pre out led _ _; simp [place, turnT, flat]
  | cons t ts ih =>
    intro pre out led hg hs
    simp only [place, List.foldl_cons]
    have hs' : s.data.toList = (pre ++ t.bs) ++ flat ts := by rw [hs, flat_cons, List.append_assoc]
    have hst : turnStep s one (out, led) ⟨pre.length, t.bs.length, t.r⟩ = (out ++ (if tk t = 1 then one t.r led (s.extract (pre.length + t.bs.length) s.size) else s.extract pre.length (pre.length + t.bs.length)), nxt led t) := rfl
    rw [hst]
    have hi := ih (pre ++ t.bs) (out ++ (if tk t = 1 then one t.r led (s.extract (pre.length + t.bs.length) s.size) else s.extract pre.length (pre.length + t.bs.length))) (nxt led t) (good_tail hg) hs'
    rw [List.length_append] at hi
    rw [hi, turnT, flat_append, ByteArray.data_append, Array.toList_append, List.append_assoc]
    congr 2
    by_cases hp : tk t = 1
    · rw [if_pos hp, if_pos hp]
      refine hf t led ts _ hg hp ?_
      rw [ext_end, hs', ← List.length_append, List.drop_left]
    · rw [if_neg hp, if_neg hp]
      have : (s.extract pre.length (pre.length + t.bs.length)).data.toList = (s.data.toList.drop pre.length).take t.bs.length := by
        simp [ByteArray.data_extract, List.extract_eq_take_drop]
      rw [this, hs, List.drop_left, flat_cons, List.take_left]
      simp [flat]

theorem turn_text (s : ByteArray) (one : Int → Bool → ByteArray → ByteArray) (f : Tok → Bool → List Tok → List Tok)
    (hf : ∀ t led ts rest, Good (t :: ts) → tk t = 1 → rest.data.toList = flat ts → (one t.r led rest).data.toList = flat (f t led ts)) :
    (turnP s one (pcs s.data.toList)).1.data.toList = flat (turnT f false (toks s.data.toList)) := by
  have h := turn_toks s one f hf (toks s.data.toList) [] ⟨#[]⟩ false (good_toks _) (by rw [flat_toks]; rfl)
  have hp : pcs s.data.toList = place 0 (toks s.data.toList) := pcs_place _ 0
  rw [hp]
  simpa [turnP] using h
theorem turnT_sub (f : Tok → Bool → List Tok → List Tok) (hf : ∀ t led ts, t.valid → tk t = 1 → f t led ts ≠ [] ∧ ∀ u ∈ f t led ts, u.valid) :
    ∀ ts led, (∀ t ∈ ts, t.valid ∨ t.broken = true) → Sub ts (turnT f led ts) := by
  intro ts
  induction ts with
  | nil => intro led _; exact .nil
  | cons t ts ih =>
    intro led h
    have h2 := ih (nxt led t) (fun q hq => h q (List.mem_cons_of_mem _ hq))
    rw [turnT]
    rcases h t (List.mem_cons_self ..) with hv | hb
    · by_cases hp : tk t = 1
      · rw [if_pos hp]; exact h2.one hv (hf t led ts hv hp).1 (hf t led ts hv hp).2
      · rw [if_neg hp]; exact h2.one hv (by simp) (by simpa using hv)
    · have hp : ¬ tk t = 1 := by unfold tk kindOf; rw [hb]; simp
      rw [if_neg hp]
      exact .brk hb h2

end Go.Proofs.Ytekjfmjeemjcjaa
