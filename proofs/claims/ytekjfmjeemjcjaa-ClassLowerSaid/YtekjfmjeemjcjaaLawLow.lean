/-
  The law ClassLower, walked. Nothing is assumed.
-/
import Derived.Test.YtekjfmjeemjcjaaOthers
namespace Go.Proofs.Ytekjfmjeemjcjaa
open Go.RowKit Go.Lib Go.Shelf
attribute [local go_sem] Oper.semAt_some
set_option linter.unusedVariables false
set_option linter.unusedSimpArgs false

/-! ### plain -/
def othT (ts : List Tok) : List UInt8 := ts.flatMap (fun t => if tk t ≠ 1 then t.bs ++ [32] else [])
def sharpT (ts : List Tok) : Nat := (ts.filter (fun t => tk t == 1 && t.r == 223)).length
theorem cat_fold (g : Pc → ByteArray) (l : List Pc) : ∀ k, k ≤ l.length → cat (fun _ x => g x) l k = (l.take k).foldl (fun a x => a ++ g x) ⟨#[]⟩ := by
  intro k
  induction k with
  | zero => intro _; rfl
  | succ k ih =>
    intro hk
    obtain ⟨x, hx⟩ : ∃ x, l[k]? = some x := ⟨_, List.getElem?_eq_getElem (by omega)⟩
    rw [cat_succ _ l k x hx, take_snoc l k x hx, List.foldl_append, ih (by omega)]; rfl
theorem oth_place (s : ByteArray) : ∀ (ts : List Tok) (pre : List UInt8) (out : ByteArray), s.data.toList = pre ++ flat ts →
    ((place pre.length ts).foldl (fun a x => a ++ othOne s x) out).data.toList = out.data.toList ++ othT ts := by
  intro ts
  induction ts with
  | nil => intro pre out _; simp [place, othT]
  | cons t ts ih =>
    intro pre out hs
    have hs' : s.data.toList = (pre ++ t.bs) ++ flat ts := by rw [hs, flat_cons, List.append_assoc]
    simp only [place, List.foldl_cons]
    have hi := ih (pre ++ t.bs) (out ++ othOne s ⟨pre.length, t.bs.length, t.r⟩) hs'
    rw [List.length_append] at hi
    rw [hi, ByteArray.data_append, Array.toList_append, List.append_assoc]
    congr 1
    show _ = (if tk t ≠ 1 then t.bs ++ [32] else []) ++ othT ts
    congr 1
    unfold othOne
    rw [pk_place]
    by_cases hp : tk t = 1
    · simp [hp]
    · rw [if_pos hp, if_pos hp, ByteArray.data_append, Array.toList_append]
      congr 1
      have : (s.extract pre.length (pre.length + t.bs.length)).data.toList = (s.data.toList.drop pre.length).take t.bs.length := by
        simp [ByteArray.data_extract, List.extract_eq_take_drop]
      rw [this, hs, List.drop_left, flat_cons, List.take_left]
theorem oth_list (s : ByteArray) : (othText s).data.toList = othT (toks s.data.toList) := by
  unfold othText
  rw [cat_fold (fun x => othOne s x) _ _ (Nat.le_refl _), List.take_length, show pcs s.data.toList = place 0 (toks s.data.toList) from pcs_place _ 0]
  have := oth_place s (toks s.data.toList) [] ⟨#[]⟩ (by rw [flat_toks]; rfl)
  simpa using this
theorem pcs_count_toks (l : List UInt8) : (pcs l).length = (toks l).length := by
  rw [show pcs l = place 0 (toks l) from pcs_place _ 0, place_length]
theorem sharp_toks (l : List UInt8) : sharpN (pcs l) = sharpT (toks l) := by
  rw [show pcs l = place 0 (toks l) from pcs_place _ 0]
  have key : ∀ (ts : List Tok) (i : Nat), sharpN (place i ts) = sharpT ts := by
    intro ts
    induction ts with
    | nil => intro i; rfl
    | cons t ts ih =>
      intro i
      have := ih (i + t.bs.length)
      unfold sharpN sharpT at *
      show (List.filter (fun p => pk p == 1 && p.r == 223) (⟨i, t.bs.length, t.r⟩ :: place (i + t.bs.length) ts)).length = _
      by_cases hq : (tk t == 1 && t.r == 223) = true
      · rw [List.filter_cons_of_pos (p := fun p : Pc => pk p == 1 && p.r == 223) (a := ⟨i, t.bs.length, t.r⟩) hq, List.filter_cons_of_pos (p := fun t : Tok => tk t == 1 && t.r == 223) (a := t) hq, List.length_cons, List.length_cons, this]
      · rw [List.filter_cons_of_neg (p := fun p : Pc => pk p == 1 && p.r == 223) (a := ⟨i, t.bs.length, t.r⟩) hq, List.filter_cons_of_neg (p := fun t : Tok => tk t == 1 && t.r == 223) (a := t) hq, this]
  exact key _ 0
theorem oth_turn (f : Tok → Bool → List Tok → List Tok) (hf : ∀ t led ts, tk t = 1 → ∀ u ∈ f t led ts, tk u = 1) : ∀ ts led, othT (turnT f led ts) = othT ts := by
  intro ts
  induction ts with
  | nil => intro led; rfl
  | cons t ts ih =>
    intro led
    have ha : ∀ a b, othT (a ++ b) = othT a ++ othT b := fun a b => by simp [othT]
    rw [turnT, ha, ih]
    show _ = (if tk t ≠ 1 then t.bs ++ [32] else []) ++ othT ts
    congr 1
    by_cases hp : tk t = 1
    · rw [if_pos hp, if_neg (by simp [hp])]
      unfold othT
      rw [List.flatMap_eq_nil_iff]
      intro u hu
      rw [if_neg (by simp [hf t led ts hp u hu])]
    · rw [if_neg hp]; simp [othT, hp]
theorem low_k (t : Tok) (led : Bool) (ts : List Tok) (hk : tk t = 1) : ∀ u ∈ lowF t led ts, tk u = 1 := by
  intro u hu
  have h := low_fin t.r (tk_letter hk).1 led (aftT ts)
  rw [List.mem_singleton.1 hu]; exact tk_mk h.1 h.2.1
theorem up_k (t : Tok) (led : Bool) (ts : List Tok) (hk : tk t = 1) : ∀ u ∈ upF t led ts, tk u = 1 := by
  intro u hu
  have h := up_fin t.r (tk_letter hk).1
  unfold upF at hu
  split at hu
  · have : u = mkT 83 := by simpa using hu
    rw [this]; exact tk_mk (by decide) (by decide)
  · rw [List.mem_singleton.1 hu]; exact tk_mk h.1 h.2.1
theorem head_k (t : Tok) (led : Bool) (ts : List Tok) (hk : tk t = 1) : ∀ u ∈ headF t led ts, tk u = 1 := by
  unfold headF
  split
  · exact low_k t led ts hk
  · intro u hu
    have h := up_fin t.r (tk_letter hk).1
    rw [List.mem_singleton.1 hu]; exact tk_mk h.1 h.2.1
theorem turn_len1 (f : Tok → Bool → List Tok → List Tok) (hf : ∀ t led ts, (f t led ts).length = 1) : ∀ ts led, (turnT f led ts).length = ts.length := by
  intro ts
  induction ts with
  | nil => intro led; rfl
  | cons t ts ih =>
    intro led
    rw [turnT, List.length_append, ih]
    split
    · rw [hf]; simp; omega
    · simp; omega
theorem up_len : ∀ ts led, (turnT upF led ts).length = ts.length + sharpT ts := by
  intro ts
  induction ts with
  | nil => intro led; rfl
  | cons t ts ih =>
    intro led
    rw [turnT, List.length_append, ih]
    unfold sharpT
    rw [List.filter_cons]
    by_cases hp : tk t = 1
    · by_cases h2 : t.r = 223
      · simp [hp, h2, upF]; omega
      · simp [hp, h2, upF]; omega
    · simp [hp]; omega
theorem stay_low (s : ByteArray) : othText (lowText s) = othText s ∧ (pcs (lowText s).data.toList).length = (pcs s.data.toList).length := by
  refine ⟨ba_ext ?_, ?_⟩
  · rw [oth_list, oth_list, low_toks, oth_turn lowF low_k]
  · rw [pcs_count_toks, pcs_count_toks, low_toks, turn_len1 lowF (fun _ _ _ => rfl)]
theorem stay_up (s : ByteArray) : othText (upText s) = othText s ∧ (pcs (upText s).data.toList).length = (pcs s.data.toList).length + sharpN (pcs s.data.toList) := by
  refine ⟨ba_ext ?_, ?_⟩
  · rw [oth_list, oth_list, up_toks, oth_turn upF up_k]
  · rw [pcs_count_toks, pcs_count_toks, sharp_toks, up_toks, up_len]
theorem stay_head (s : ByteArray) : othText (headText s) = othText s ∧ (pcs (headText s).data.toList).length = (pcs s.data.toList).length := by
  refine ⟨ba_ext ?_, ?_⟩
  · rw [oth_list, oth_list, head_toks, oth_turn headF head_k]
  · rw [pcs_count_toks, pcs_count_toks, head_toks, turn_len1 headF (fun t led ts => by unfold headF; split <;> rfl)]

/-! ### walked -/
set_option maxRecDepth 100000 in
set_option maxHeartbeats 2000000 in
theorem lawLower_any (s : ByteArray) (w : World) (hs : s.size ≤ 140737488351232) :
    Calls Try.prog 30 #[.string s] w fun e w' => e = .returned (.bool true) ∧ Below w.heap.size w w' := by
  by_cases hbig : 2147483647 < s.size
  · have hdb : decide ((2147483647 : Int) < (s.size : Int)) = true := by simp; omega
    go_enter Try.func30, Try.ntmps30
    go_wp2_with (first | (go_at_call 15; refine (beyond_any _ _).mono ?_; rintro e w' ⟨rfl, rfl⟩))
    go_ret
    exact ⟨rfl, Below.refl _ _⟩
  · have hdb : decide ((2147483647 : Int) < (s.size : Int)) = false := by simp; omega
    have hls := low_size s
    have Hll := Lib.hid (low_low s)
    go_enter Try.func30, Try.ntmps30
    go_wp2_with (first | (go_at_call 15; refine (beyond_any _ _).mono ?_; rintro e w' ⟨rfl, rfl⟩))
    refine (lowText_any _ _ (by omega)).mono ?_
    rintro e w1 ⟨rfl, hb⟩
    go_wp2_with fail
    refine (rlow_any _ _ (by omega)).mono ?_
    rintro e w2 ⟨rfl, hc⟩
    replace hb := hb.trans (hc.mono hb.size)
    clear hc
    go_wp2_with fail
    refine (lowText_any _ _ (by omega)).mono ?_
    rintro e w3 ⟨rfl, hc⟩
    replace hb := hb.trans (hc.mono hb.size)
    rw [Hll.out]
    clear hc
    go_wp2
    go_ret
    exact ⟨rfl, hb⟩

set_option maxRecDepth 100000 in
set_option maxHeartbeats 4000000 in
theorem lawStay_any (s : ByteArray) (w : World) (hs : s.size ≤ 140737488351232) :
    Calls Try.prog 31 #[.string s] w fun e w' => e = .returned (.bool true) ∧ Below w.heap.size w w' := by
  by_cases hbig : 2147483647 < 2 * s.size
  · have hdb : decide ((2147483647 : Int) < 2 * (s.size : Int)) = true := by simp; omega
    go_enter Try.func31, Try.ntmps31
    go_wp2_with (first | (go_at_call 15; refine (beyond_any _ _).mono ?_; rintro e w' ⟨rfl, rfl⟩) | (go_at_call 12; refine (live_any _).mono ?_; rintro e w' ⟨rfl, rfl⟩))
    go_ret
    exact ⟨rfl, Below.refl _ _⟩
  · have hdb : decide ((2147483647 : Int) < 2 * (s.size : Int)) = false := by simp; omega
    have hls := low_size s
    have hus := up_size s
    have hhs := head_size s
    have Hl := Lib.hid (stay_low s); have Hu := Lib.hid (stay_up s); have Hh := Lib.hid (stay_head s)
    have hpn := pcs_len s
    have hsn := sharp_le (pcs s.data.toList)
    go_enter Try.func31, Try.ntmps31
    go_wp2_with (first | (go_at_call 15; refine (beyond_any _ _).mono ?_; rintro e w' ⟨rfl, rfl⟩) | (go_at_call 12; refine (live_any _).mono ?_; rintro e w' ⟨rfl, rfl⟩))
    refine (others_any _ _ (by omega)).mono ?_
    rintro e w1 ⟨rfl, hb⟩
    go_wp2_with fail
    refine (lowText_any _ _ (by omega)).mono ?_
    rintro e w2 ⟨rfl, hc⟩
    replace hb := hb.trans (hc.mono hb.size)
    clear hc
    go_wp2_with fail
    refine (others_any _ _ (by omega)).mono ?_
    rintro e w3 ⟨rfl, hc⟩
    replace hb := hb.trans (hc.mono hb.size)
    clear hc
    rw [Hl.out.1, Hl.out.2]
    go_wp2_with fail
    refine (upText_any _ _ (by omega)).mono ?_
    rintro e w4 ⟨rfl, hc⟩
    replace hb := hb.trans (hc.mono hb.size)
    clear hc
    go_wp2_with fail
    refine (others_any _ _ (by omega)).mono ?_
    rintro e w5 ⟨rfl, hc⟩
    replace hb := hb.trans (hc.mono hb.size)
    clear hc
    rw [Hu.out.1, Hu.out.2]
    go_wp2_with fail
    refine (headText_any _ _ (by omega)).mono ?_
    rintro e w6 ⟨rfl, hc⟩
    replace hb := hb.trans (hc.mono hb.size)
    clear hc
    go_wp2_with fail
    refine (others_any _ _ (by omega)).mono ?_
    rintro e w7 ⟨rfl, hc⟩
    replace hb := hb.trans (hc.mono hb.size)
    clear hc
    rw [Hh.out.1, Hh.out.2]
    have Hb := Lib.hid hb
    clear hb
    go_wp2
    go_ret
    exact ⟨rfl, Hb.out⟩

set_option maxHeartbeats 1000000 in
theorem classLower_any (s : ByteArray) (w : World) (hs : s.size ≤ 140737488351232) :
    Calls Try.prog 11 #[.string s] w fun e w' => e = .returned (.bool true) ∧ Below w.heap.size w w' := by
  go_enter Try.func11, Try.ntmps11
  go_wp2_with (first | (go_at_call 12; refine (live_any _).mono ?_; rintro e w' ⟨rfl, rfl⟩))
  refine (lawLower_any _ _ hs).mono ?_
  rintro e w1 ⟨rfl, hb⟩
  go_wp2_with fail
  refine (lawStay_any _ _ hs).mono ?_
  rintro e w2 ⟨rfl, hc⟩
  replace hb := hb.trans (hc.mono hb.size)
  clear hc
  go_wp2
  go_ret
  exact ⟨rfl, hb⟩

end Go.Proofs.Ytekjfmjeemjcjaa
