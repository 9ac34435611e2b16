/-
  How a text's letters are written: class.Case. Nothing is assumed.
-/
import Derived.Test.YtekjfmjeemjcjaaRefPcs
namespace Go.Proofs.Ytekjfmjeemjcjaa
open Go.RowKit Go.Lib Go.Shelf
attribute [local go_sem] Oper.semAt_some wide_fn wide_in_fn wide_depth
set_option linter.unusedVariables false
set_option linter.unusedSimpArgs false

/-- Of letters: how many are great; is the first one? -/
def grs (L : List Pc) : Nat := (L.filter (fun p => great p.r)).length
def frs : List Pc → Bool
  | [] => false
  | p :: _ => great p.r
def caseOf (L : List Pc) : Int := if L.length = 0 then 0 else if grs L = 0 then 1 else if grs L = L.length then 2 else if grs L = 1 ∧ frs L = true then 3 else 4
theorem grs_snoc (L : List Pc) (p : Pc) : grs (L ++ [p]) = grs L + (if great p.r then 1 else 0) := by
  unfold grs; rw [List.filter_append, List.length_append]; by_cases h : great p.r = true <;> simp [h]
theorem grs_le (L : List Pc) : grs L ≤ L.length := List.length_filter_le _ _
theorem frs_snoc (L : List Pc) (p : Pc) : frs (L ++ [p]) = (if L.length = 0 then great p.r else frs L) := by
  cases L <;> simp [frs]
theorem lets_mem (l : List UInt8) (pre : List Pc) (x : Pc) (post : List Pc) (h : lets l = pre ++ x :: post) : x ∈ pcs l :=
  (List.mem_filter.1 (show x ∈ (pcs l).filter isLet by unfold lets at h; rw [h]; simp)).1
theorem lets_len (s : ByteArray) : ∀ (pre : List Pc) (post : List Pc), lets s.data.toList = pre ++ post → pre.length ≤ s.size := by
  intro pre post h
  have h1 : (lets s.data.toList).length ≤ (pcs s.data.toList).length := List.length_filter_le _ _
  have h2 : (pcs s.data.toList).length ≤ s.size := by
    rcases List.eq_nil_or_concat (pcs s.data.toList) with h0 | ⟨D, p, h0⟩
    · rw [h0]; simp
    · rw [List.concat_eq_append] at h0
      have h1 := pcs_count _ _ D p [] (Nat.le_refl _) h0
      have h2 := pcs_pos s.data.toList p (by rw [h0]; simp)
      have h3 : p.i + p.w ≤ s.size := by simpa using h2.2.1
      rw [h0, List.length_append]; simp; omega
  rw [h, List.length_append] at h1; omega

theorem boxOth {W : World} {B : Nat} {t : TypeId} {v : Value} (h : Boxed W B t v) {b j : Nat} {u : Value} (hb : B ≠ b) : Boxed (W.setCell ⟨b, j, none⟩ u) B t v :=
  (Below.heap_setCell _ _ _ _ (by show B ≠ b; exact hb)).trans h

set_option maxRecDepth 100000 in
set_option maxHeartbeats 4000000 in
theorem ccase_any (s : ByteArray) (w : World) (hs : s.size ≤ 2147483647) :
    Calls Try.prog 18 #[.string s] w fun e w' => e = .returned (.int .i64 (caseOf (lets s.data.toList))) ∧ Below w.heap.size w w' := by
  (refine calls_of_body Try.func18 rfl ?_; simp only [Try.ntmps18, List.size_toArray, List.length_cons, List.length_nil, Nat.reduceAdd, Nat.reduceSub, Array.replicate_succ, Array.replicate_zero, List.push_toArray, List.append_toArray, List.nil_append, List.cons_append])
  gi_wp2_with (gi_at_call 35; refine (CallsIn.mono (callsIn_wide.2 (letters_any _ _)) ?_); rintro e w' ⟨rfl, rfl⟩)
  have bA := (((Boxed.new w 3 (.int .i64 0)).alloc (.cells #[.int .i64 0] 3)).alloc (.cells #[.bool false] 4)).alloc (.cells #[.string s] 9)
  have bB := ((Boxed.new (w.alloc (.cells #[.int .i64 0] 3)) 3 (.int .i64 0)).alloc (.cells #[.bool false] 4)).alloc (.cells #[.string s] 9)
  have bC := (Boxed.new ((w.alloc (.cells #[.int .i64 0] 3)).alloc (.cells #[.int .i64 0] 3)) 4 (.bool false)).alloc (.cells #[.string s] 9)
  have bD := Boxed.new (((w.alloc (.cells #[.int .i64 0] 3)).alloc (.cells #[.int .i64 0] 3)).alloc (.cells #[.bool false] 4)) 9 (.string s)
  have hba : Below w.heap.size w ((((w.alloc (.cells #[.int .i64 0] 3)).alloc (.cells #[.int .i64 0] 3)).alloc (.cells #[.bool false] 4)).alloc (.cells #[.string s] 9)) :=
    ((((Below.refl _ w).alloc (Nat.le_refl _) _).alloc (by simp) _).alloc (by simp; omega) _).alloc (by simp; omega) _
  have hsa : ((((w.alloc (.cells #[.int .i64 0] 3)).alloc (.cells #[.int .i64 0] 3)).alloc (.cells #[.bool false] 4)).alloc (.cells #[.string s] 9)).heap.size = w.heap.size + 1 + 1 + 1 + 1 := by simp
  simp only [World.size_alloc] at bB bC bD
  obtain ⟨Wa, hWa⟩ : ∃ Wa, ((((w.alloc (.cells #[.int .i64 0] 3)).alloc (.cells #[.int .i64 0] 3)).alloc (.cells #[.bool false] 4)).alloc (.cells #[.string s] 9)) = Wa := ⟨_, rfl⟩
  rw [hWa] at bA bB bC bD hba hsa
  simp only [hWa]
  clear hWa
  have hloc : Local (fun (pre : List Pc) C W' => C = (fun k => k = w.heap.size ∨ k = w.heap.size + 1 ∨ k = w.heap.size + 1 + 1) ∧ Boxed W' w.heap.size 3 (.int .i64 (grs pre)) ∧ Boxed W' (w.heap.size + 1) 3 (.int .i64 pre.length) ∧ Boxed W' (w.heap.size + 1 + 1) 4 (.bool (frs pre))) := by
    rintro pre C W1 W2 ⟨rfl, h1, h2, h3⟩ hs hk
    exact ⟨rfl, (hk _ (.inl rfl)).trans h1, (hk _ (.inr (.inl rfl))).trans h2, (hk _ (.inr (.inr rfl))).trans h3⟩
  refine wp_range (gf := 61) (lb := #[.pointer (some ⟨w.heap.size + 1 + 1 + 1, 0, none⟩)]) rfl (enters_of Try.func61 (by kernel_rfl) rfl)
    (letters1_yields s (by omega) (w.heap.size + 1 + 1 + 1) Wa bD) (fun k hk => ⟨by rw [hk, hsa]; omega, rfl⟩) (Nat.le_refl _) (fun _ => rfl)
    (fun (pre : List Pc) C W' => C = (fun k => k = w.heap.size ∨ k = w.heap.size + 1 ∨ k = w.heap.size + 1 + 1) ∧ Boxed W' w.heap.size 3 (.int .i64 (grs pre)) ∧ Boxed W' (w.heap.size + 1) 3 (.int .i64 pre.length) ∧ Boxed W' (w.heap.size + 1 + 1) 4 (.bool (frs pre)))
    (fun _ _ _ _ => False)
    (JTmp (fun (pre : List Pc) C W' => C = (fun k => k = w.heap.size ∨ k = w.heap.size + 1 ∨ k = w.heap.size + 1 + 1) ∧ Boxed W' w.heap.size 3 (.int .i64 (grs pre)) ∧ Boxed W' (w.heap.size + 1) 3 (.int .i64 pre.length) ∧ Boxed W' (w.heap.size + 1 + 1) 4 (.bool (frs pre))) ?act)
    hloc ?hX ?hJ (fun k => k = w.heap.size ∨ k = w.heap.size + 1 ∨ k = w.heap.size + 1 + 1) ?hC0 ⟨rfl, bA, bB, bC⟩ ?hassign ?hbody ?hdone ?hstop
  case hX => intro c pre C W1 W2 h; exact h.elim
  case hJ => exact fun pre x a => JTmp.local hloc pre x a
  case hC0 => rintro k (rfl | rfl | rfl) <;> exact ⟨by omega, by omega⟩
  case hassign =>
    intro l pre x post C W1 hxs hext hi hn hlt hr
    simp only [encLet]
    gi_wp2
    refine ⟨C, Ext.refl _ _, hi, ?_⟩
    rfl
  case hbody =>
    rintro l pre x post C W1 a1 hxs hext ⟨⟨rfl, bA1, bB1, bC1⟩, rfl⟩ hn hlt hr
    have hv := pcs_valid _ x (lets_mem _ pre x post hxs)
    have hv1 : (-2147483648 : Int) ≤ (x.r : Int) := by omega
    have hv2 : (x.r : Int) ≤ 2147483647 := by omega
    have hl := lets_len s pre _ hxs
    have hgl := grs_le pre
    have hG := grs_snoc pre x
    have hF := frs_snoc pre x
    have hN : (pre ++ [x]).length = pre.length + 1 := by simp
    have hRP : ∀ a' W', Ext (fun k => k = w.heap.size ∨ k = w.heap.size + 1 ∨ k = w.heap.size + 1 + 1) (fun k => k = w.heap.size ∨ k = w.heap.size + 1 ∨ k = w.heap.size + 1 + 1) W1 W' →
        Boxed W' w.heap.size 3 (.int .i64 (grs (pre ++ [x]))) → Boxed W' (w.heap.size + 1) 3 (.int .i64 (pre ++ [x]).length) → Boxed W' (w.heap.size + 1 + 1) 4 (.bool (frs (pre ++ [x]))) →
        RPost (fun (pre : List Pc) C W' => C = (fun k => k = w.heap.size ∨ k = w.heap.size + 1 ∨ k = w.heap.size + 1 + 1) ∧ Boxed W' w.heap.size 3 (.int .i64 (grs pre)) ∧ Boxed W' (w.heap.size + 1) 3 (.int .i64 pre.length) ∧ Boxed W' (w.heap.size + 1 + 1) 4 (.bool (frs pre)))
          (fun _ _ _ _ => False) (pre ++ [x]) (fun k => k = w.heap.size ∨ k = w.heap.size + 1 ∨ k = w.heap.size + 1 + 1) W1 .normal a' W' := fun a' W' h1 h2 h3 h4 => ⟨_, h1, rfl, h2, h3, h4⟩
    rw [hG, hF, hN] at hRP
    have Hxs := Lib.hid hxs; have Hext := Lib.hid hext; have HRP := Lib.hid hRP
    clear hxs hext hG hF hN hRP hn hr hv
    generalize pre.length = n at *
    generalize grs pre = k at *
    generalize frs pre = f at *
    have cA := bA1.cell; have cB := bB1.cell; have cC := bC1.cell
    have fA := bA1.frozen; have fB := bB1.frozen; have fC := bC1.frozen
    have hn' : n ≤ 2147483647 := by omega
    have hk' : k ≤ 2147483647 := by omega
    clear hl hgl
    have hcl : ∀ w, Calls Try.prog 39 #[.int .i32 x.r] w fun e w' => e = .returned (.bool (great x.r)) ∧ w = w' := fun w => great_any _ _ (by omega) (by omega)
    have HRP1 := HRP.out
    generalize great (x.r : Int) = gb at *
    have HRP := Lib.hid HRP1
    clear HRP1
    rcases Nat.eq_zero_or_pos n with hn0 | hn0 <;> cases gb
    · subst hn0
      gi_wp2_with (gi_at_call 39; refine (CallsIn.inRound l (CallsIn.mono (callsIn_wide.2 (hcl _)) ?_)); rintro e w' ⟨rfl, rfl⟩)
      exact HRP.out _ _ (Ext.of_fr (Fr.setCell (C := fun k => k = w.heap.size ∨ k = w.heap.size + 1 ∨ k = w.heap.size + 1 + 1) (Fr.setCell (C := fun k => k = w.heap.size ∨ k = w.heap.size + 1 ∨ k = w.heap.size + 1 + 1) (Fr.refl _ _) (p := ⟨w.heap.size + 1 + 1, 0, none⟩) (.inl (.inr (.inr rfl))) _) (p := ⟨w.heap.size + 1, 0, none⟩) (.inl (.inr (.inl rfl))) _)) (boxOth (boxOth bA1 (by omega)) (by omega)) ((boxOth bB1 (by omega)).set _) (boxOth (bC1.set _) (by omega))
    · subst hn0
      gi_wp2_with (gi_at_call 39; refine (CallsIn.inRound l (CallsIn.mono (callsIn_wide.2 (hcl _)) ?_)); rintro e w' ⟨rfl, rfl⟩)
      exact HRP.out _ _ (Ext.of_fr (Fr.setCell (C := fun k => k = w.heap.size ∨ k = w.heap.size + 1 ∨ k = w.heap.size + 1 + 1) (Fr.setCell (C := fun k => k = w.heap.size ∨ k = w.heap.size + 1 ∨ k = w.heap.size + 1 + 1) (Fr.setCell (C := fun k => k = w.heap.size ∨ k = w.heap.size + 1 ∨ k = w.heap.size + 1 + 1) (Fr.refl _ _) (p := ⟨w.heap.size + 1 + 1, 0, none⟩) (.inl (.inr (.inr rfl))) _) (p := ⟨w.heap.size, 0, none⟩) (.inl (.inl rfl)) _) (p := ⟨w.heap.size + 1, 0, none⟩) (.inl (.inr (.inl rfl))) _)) (boxOth ((boxOth bA1 (by omega)).set _) (by omega)) ((boxOth (boxOth bB1 (by omega)) (by omega)).set _) (boxOth (boxOth (bC1.set _) (by omega)) (by omega))
    · have e1 : ((n : Int) == 0) = false := by simp; omega
      gi_wp2_with (gi_at_call 39; refine (CallsIn.inRound l (CallsIn.mono (callsIn_wide.2 (hcl _)) ?_)); rintro e w' ⟨rfl, rfl⟩)
      have HRP2 := HRP.out
      simp only [if_neg (show ¬ n = 0 by omega)] at HRP2
      exact HRP2 _ _ (Ext.of_fr (Fr.setCell (C := fun k => k = w.heap.size ∨ k = w.heap.size + 1 ∨ k = w.heap.size + 1 + 1) (Fr.refl _ _) (p := ⟨w.heap.size + 1, 0, none⟩) (.inl (.inr (.inl rfl))) _)) (boxOth bA1 (by omega)) (bB1.set _) (boxOth bC1 (by omega))
    · have e1 : ((n : Int) == 0) = false := by simp; omega
      gi_wp2_with (gi_at_call 39; refine (CallsIn.inRound l (CallsIn.mono (callsIn_wide.2 (hcl _)) ?_)); rintro e w' ⟨rfl, rfl⟩)
      have HRP2 := HRP.out
      simp only [if_neg (show ¬ n = 0 by omega)] at HRP2
      exact HRP2 _ _ (Ext.of_fr (Fr.setCell (C := fun k => k = w.heap.size ∨ k = w.heap.size + 1 ∨ k = w.heap.size + 1 + 1) (Fr.setCell (C := fun k => k = w.heap.size ∨ k = w.heap.size + 1 ∨ k = w.heap.size + 1 + 1) (Fr.refl _ _) (p := ⟨w.heap.size, 0, none⟩) (.inl (.inl rfl)) _) (p := ⟨w.heap.size + 1, 0, none⟩) (.inl (.inr (.inl rfl))) _)) (boxOth (bA1.set _) (by omega)) ((boxOth bB1 (by omega)).set _) (boxOth (boxOth bC1 (by omega)) (by omega))
  case hstop => intro d c pre x post C W hxs hext hX; exact hX.elim
  case hdone =>
    rintro d C W hext ⟨rfl, bA2, bB2, bC2⟩ hld hCd hdef
    have hcase : caseOf (lets s.data.toList) = if (lets s.data.toList).length = 0 then 0 else if grs (lets s.data.toList) = 0 then 1 else if grs (lets s.data.toList) = (lets s.data.toList).length then 2 else if grs (lets s.data.toList) = 1 ∧ frs (lets s.data.toList) = true then 3 else 4 := rfl
    have hfin : Below w.heap.size w W := hba.trans (hext.1.toBelow (by omega) (fun k hk h => by rcases h with h | h | h <;> omega))
    have hWs := hext.1.size
    have hfin2 : ∀ w', Fr (fun k => k ∈ [d]) W w' → Below w.heap.size w w' := fun w' hw => hfin.trans (hw.toBelow (by omega) (fun k hk h => by have h5 : k = d := List.mem_singleton.1 h; omega))
    have hgl := grs_le (lets s.data.toList)
    have hll := lets_len s (lets s.data.toList) [] (by simp)
    have Hext := Lib.hid hext; have Hdef := Lib.hid hdef; have Hba := Lib.hid hba
    clear hext hba hdef hfin
    generalize (lets s.data.toList).length = n at *
    generalize grs (lets s.data.toList) = k at *
    generalize frs (lets s.data.toList) = f at *
    have cA := bA2.cell; have cB := bB2.cell; have cC := bC2.cell
    have hn' : n ≤ 2147483647 := by omega
    have hk' : k ≤ 2147483647 := by omega
    have Hgl := Lib.hid hgl; have Hcase := Lib.hid hcase; have Hfin2 := Lib.hid hfin2
    clear hll hgl hcase hfin2
    gi_wp2
    all_goals (refine leaves_marks [d] _ (by simp) (by intro e he; simp at he; subst he; exact Hdef.out) (fun w' hw hsw => ?_); refine ⟨.int .i64 _, by simp [results, Try.results18, go_sem]; rfl, ret_int ?_, Hfin2.out w' hw⟩; rw [Hcase.out]; have hgl := Hgl.out)
    all_goals grind

end Go.Proofs.Ytekjfmjeemjcjaa
