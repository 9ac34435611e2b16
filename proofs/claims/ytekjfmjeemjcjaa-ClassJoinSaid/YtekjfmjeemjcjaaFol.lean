/-
  class.followed. Nothing is assumed.
-/
import Derived.Test.YtekjfmjeemjcjaaLed
namespace Go.Proofs.Ytekjfmjeemjcjaa
open Go.RowKit Go.Lib Go.Shelf
attribute [local go_sem] Oper.semAt_some wide_fn wide_in_fn wide_depth
set_option linter.unusedVariables false
set_option linter.unusedSimpArgs false

theorem aft_skip : ∀ (pre q : List Pc), (∀ p ∈ pre, pk p = 2) → aft (pre ++ q) = aft q
  | [], q, _ => rfl
  | p :: pre, q, h => by
    rw [List.cons_append, aft, if_pos (h p (List.mem_cons_self ..))]
    exact aft_skip pre q (fun r hr => h r (List.mem_cons_of_mem _ hr))

set_option maxRecDepth 100000 in
set_option maxHeartbeats 4000000 in
theorem followed_any (s : ByteArray) (w : World) (hs : s.size ≤ 2147483647) :
    Calls Try.prog 70 #[.string s] w fun e w' => e = .returned (.bool (aft (pcs s.data.toList))) ∧ Below w.heap.size w w' := by
  (refine calls_of_body Try.func70 rfl ?_; simp only [Try.ntmps70, List.size_toArray, List.length_cons, List.length_nil, Nat.reduceAdd, Nat.reduceSub, Array.replicate_succ, Array.replicate_zero, List.push_toArray, List.append_toArray, List.nil_append, List.cons_append])
  gi_wp2_with (gi_at_call 38; refine (CallsIn.mono (callsIn_wide.2 (pieces_any _ _)) ?_); rintro e w' ⟨rfl, rfl⟩)
  have bR := (Boxed.new w 4 (.bool false)).alloc (.cells #[.string s] 9)
  have bD := Boxed.new (w.alloc (.cells #[.bool false] 4)) 9 (.string s)
  have hba : Below w.heap.size w ((w.alloc (.cells #[.bool false] 4)).alloc (.cells #[.string s] 9)) := ((Below.refl _ w).alloc (Nat.le_refl _) _).alloc (by simp) _
  have hsa : ((w.alloc (.cells #[.bool false] 4)).alloc (.cells #[.string s] 9)).heap.size = w.heap.size + 1 + 1 := by simp
  simp only [World.size_alloc] at bD
  obtain ⟨Wa, hWa⟩ : ∃ Wa, ((w.alloc (.cells #[.bool false] 4)).alloc (.cells #[.string s] 9)) = Wa := ⟨_, rfl⟩
  rw [hWa] at bR bD hba hsa
  simp only [hWa]
  clear hWa
  have hloc : Local (fun (pre : List Pc) C W' => C = (fun k => k = w.heap.size) ∧ Boxed W' w.heap.size 4 (.bool false) ∧ (∀ p ∈ pre, pk p = 2)) := by
    rintro pre C W1 W2 ⟨rfl, h1, h2⟩ hs hk
    exact ⟨rfl, (hk _ rfl).trans h1, h2⟩
  refine wp_range (gf := 63) (lb := #[.pointer (some ⟨w.heap.size + 1, 0, none⟩)]) rfl (enters_of Try.func63 (by kernel_rfl) rfl)
    (pieces1_yields s (by omega) (w.heap.size + 1) Wa bD) (fun k hk => ⟨by rw [hk, hsa]; omega, rfl⟩) (Nat.le_refl _) (fun _ => rfl)
    (fun (pre : List Pc) C W' => C = (fun k => k = w.heap.size) ∧ Boxed W' w.heap.size 4 (.bool false) ∧ (∀ p ∈ pre, pk p = 2))
    (fun c (pre : List Pc) C W' => c = .ret ∧ C = (fun k => k = w.heap.size) ∧ Boxed W' w.heap.size 4 (.bool (aft (pcs s.data.toList))))
    (JBox (fun (pre : List Pc) C W' => C = (fun k => k = w.heap.size) ∧ Boxed W' w.heap.size 4 (.bool false) ∧ (∀ p ∈ pre, pk p = 2)) 51 pcCells ?act)
    hloc ?hX ?hJ (fun k => k = w.heap.size) ?hC0 ⟨rfl, bR, by simp⟩ ?hassign ?hbody ?hdone ?hstop
  case hX => rintro c pre C W1 W2 ⟨rfl, rfl, h⟩ hs hk; exact ⟨rfl, rfl, (hk _ rfl).trans h⟩
  case hJ => exact fun pre x a => JBox.local hloc pre x a
  case hC0 => rintro k rfl; exact ⟨by omega, by omega⟩
  case hassign =>
    intro l' pre x post C W1 hxs hext hi hn hlt hr
    simp only [encPc]
    gi_wp2
    refine JBox.assign hloc hi (hext.lt (fun k hk => by subst hk; omega)) rfl ?_
    intro b hb
    rw [← hb]
  case hbody =>
    rintro l' pre x post C1 W1 a1 hxs hext ⟨C, b, rfl, hnb, ⟨rfl, bR1, hm⟩, hb, rfl⟩ hn hlt hr
    have hv : x.r ≤ 1114111 := pcs_valid _ x (by rw [hxs]; simp)
    have hv1 : (-2147483648 : Int) ≤ (x.r : Int) := by omega
    have hv2 : (x.r : Int) ≤ 2147483647 := by omega
    have d0 := cell_at hb (j := 0) rfl
    have d1 := cell_at hb (j := 1) rfl
    have d2 := cell_at hb (j := 2) rfl
    have d3 := cell_at hb (j := 3) rfl
    have haft : pk x ≠ 2 → aft (pcs s.data.toList) = (pk x == 1) := fun h => by rw [hxs, aft_skip _ _ hm, aft, if_neg h]
    have Hext := Lib.hid hext; have Hxs := Lib.hid hxs; have Haft := Lib.hid haft; have Hm := Lib.hid hm
    clear hxs hext hr hn haft hm
    gi_wp2_with (fail)
    refine CallsIn.inRound l' (CallsIn.mono (callsIn_wide.2 (of_any _ _ _ _ _ (by omega) (by omega))) ?_)
    rintro e w2 ⟨rfl, hb2⟩
    have bR2 : Boxed w2 w.heap.size _ _ := some_lt bR1 hb2
    have fR := bR2.frozen; have cR := bR2.cell
    have Hb2 := Lib.hid hb2
    clear hb2
    have hpk : kindOf x.broken (x.r : Int) = pk x := rfl
    rw [hpk]
    clear hpk
    by_cases hp : pk x = 2
    · have e1 : (pk x != 2) = false := by simp [hp]
      have hfin : RPost (fun (pre : List Pc) C W' => C = (fun k => k = w.heap.size) ∧ Boxed W' w.heap.size 4 (.bool false) ∧ (∀ p ∈ pre, pk p = 2))
          (fun c (pre : List Pc) C W' => c = .ret ∧ C = (fun k => k = w.heap.size) ∧ Boxed W' w.heap.size 4 (.bool (aft (pcs s.data.toList)))) (pre ++ [x]) (fun k => k = w.heap.size ∨ k = b) W1 .normal ⟨#[], []⟩ w2 :=
        ⟨fun k => k = w.heap.size, (Ext.below Hb2.out).sub (fun k hk => .inl hk), rfl, bR2, by
          intro p hp'; rcases List.mem_append.1 hp' with h | h
          · exact Hm.out p h
          · rw [List.mem_singleton.1 h]; exact hp⟩
      have Hfin := Lib.hid hfin
      clear hfin hp
      gi_wp2
      exact Hfin.out
    · have e1 : (pk x != 2) = true := by simp [bne, hp]
      have hfin : RPost (fun (pre : List Pc) C W' => C = (fun k => k = w.heap.size) ∧ Boxed W' w.heap.size 4 (.bool false) ∧ (∀ p ∈ pre, pk p = 2))
          (fun c (pre : List Pc) C W' => c = .ret ∧ C = (fun k => k = w.heap.size) ∧ Boxed W' w.heap.size 4 (.bool (aft (pcs s.data.toList)))) (pre ++ [x]) (fun k => k = w.heap.size ∨ k = b) W1 .ret ⟨#[], []⟩ (w2.setCell ⟨w.heap.size, 0, none⟩ (.bool (pk x == 1))) :=
        ⟨fun k => k = w.heap.size, ⟨Fr.setCell (C := fun k => k = w.heap.size ∨ k = b) ((Fr.refl _ _).below Hb2.out) (p := ⟨w.heap.size, 0, none⟩) (.inl (.inl rfl)) _, fun k hk => .inl (.inl hk)⟩, rfl, rfl, by rw [Haft.out hp]; exact bR2.set _⟩
      have Hfin := Lib.hid hfin
      clear hfin hp
      gi_wp2
      exact Hfin.out
  case hdone =>
    rintro d C W hext ⟨rfl, bR2, hm⟩ hld hCd hdef
    have hz : aft (pcs s.data.toList) = false := by
      have := aft_skip (pcs s.data.toList) [] hm
      rw [List.append_nil] at this; rw [this]; rfl
    have hWs := hext.1.size
    have cR := bR2.cell; have fR := bR2.frozen
    have Hext := Lib.hid hext; have Hdef := Lib.hid hdef; have Hba := Lib.hid hba; have Hz := Lib.hid hz; have Hm := Lib.hid hm
    clear hext hdef hba hz hm
    gi_wp2
    have bRn : Boxed (W.setCell ⟨w.heap.size, 0, none⟩ (.bool false)) w.heap.size 4 (.bool false) := bR2.set _
    have hdd : (W.setCell ⟨w.heap.size, 0, none⟩ (.bool false)).heap[d]? = some (.deferred (some [])) := (Below.heap_setCell _ _ _ _ (by show d ≠ w.heap.size; omega)).trans Hdef.out
    refine leaves_marks [d] _ (by simp) (by intro e he; simp at he; subst he; exact hdd) (fun w' hw hsw => ?_)
    have hc : w'.cell? ⟨w.heap.size, 0, none⟩ = some (.bool false) := cell_at (hw.at bRn (by simp; omega)) rfl
    refine ⟨.bool false, by simp [results, Try.results70, go_sem, hc], ret_bool Hz.out.symm, ?_⟩
    have F1 : Fr (fun k => w.heap.size ≤ k) Wa (W.setCell ⟨w.heap.size, 0, none⟩ (.bool false)) :=
      Fr.setCell (Hext.out.1.weaken (fun k _ h => by show w.heap.size ≤ k; have : k = w.heap.size := h; omega)) (p := ⟨w.heap.size, 0, none⟩) (Or.inl (by show w.heap.size ≤ w.heap.size; omega)) _
    have F2 : Fr (fun k => w.heap.size ≤ k) Wa w' := F1.trans' hw (fun k _ h => by show w.heap.size ≤ k; have h5 : k = d := (List.mem_singleton.1 h); omega)
    exact Hba.out.trans (F2.toBelow (by omega) (fun k hk h => by have : w.heap.size ≤ k := h; omega))
  case hstop =>
    rintro d c pre x post C W hxs hext ⟨rfl, rfl, bR2⟩ hld hCd hdef
    have hWs := hext.1.size
    have Hext := Lib.hid hext; have Hdef := Lib.hid hdef; have Hba := Lib.hid hba; have Hxs := Lib.hid hxs
    clear hext hdef hba hxs
    gi_wp2
    refine leaves_marks [d] _ (by simp) (by intro e he; simp at he; subst he; exact Hdef.out) (fun w' hw hsw => ?_)
    have hc : w'.cell? ⟨w.heap.size, 0, none⟩ = some (.bool (aft (pcs s.data.toList))) := cell_at (hw.at bR2 (by simp; omega)) rfl
    refine ⟨.bool (aft (pcs s.data.toList)), by simp [results, Try.results70, go_sem, hc], rfl, ?_⟩
    have F2 : Fr (fun k => w.heap.size ≤ k) Wa w' := (Hext.out.1.weaken (fun k _ h => by show w.heap.size ≤ k; have : k = w.heap.size := h; omega)).trans' hw (fun k _ h => by show w.heap.size ≤ k; have h5 : k = d := (List.mem_singleton.1 h); omega)
    exact Hba.out.trans (F2.toBelow (by omega) (fun k hk h => by have : w.heap.size ≤ k := h; omega))

end Go.Proofs.Ytekjfmjeemjcjaa
