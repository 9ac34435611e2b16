/-
  Walks: the iterators of package class: pieces, Letters. Nothing is assumed.
-/
import Derived.Test.YtekjfmjeemjcjaaClsW2
import Derived.Test.YtekjfmjeemjcjaaIter2
namespace Go.Proofs.Ytekjfmjeemjcjaa
open Go.RowKit Go.Lib Go.Shelf
attribute [local go_sem] Oper.semAt_some wide_fn wide_in_fn wide_depth
set_option linter.unusedVariables false
set_option linter.unusedSimpArgs false

theorem pieces_any (s : ByteArray) (w : World) :
    Calls Try.prog 38 #[.string s] w fun e w' => e = .returned (.func (.func 63) #[] #[.pointer (some ⟨w.heap.size, 0, none⟩)]) ∧ w' = w.alloc (.cells #[.string s] 9) := by
  go_enter Try.func38, Try.ntmps38
  go_wp2
  go_ret
  exact ⟨rfl, rfl⟩
theorem letters_any (s : ByteArray) (w : World) :
    Calls Try.prog 35 #[.string s] w fun e w' => e = .returned (.func (.func 61) #[] #[.pointer (some ⟨w.heap.size, 0, none⟩)]) ∧ w' = w.alloc (.cells #[.string s] 9) := by
  go_enter Try.func35, Try.ntmps35
  go_wp2
  go_ret
  exact ⟨rfl, rfl⟩
theorem runs_any (s : ByteArray) (w : World) :
    Calls Try.prog 17 #[.string s] w fun e w' => e = .returned (.func (.func 37) #[] #[.pointer (some ⟨w.heap.size, 0, none⟩)]) ∧ w' = w.alloc (.cells #[.string s] 9) := by
  go_enter Try.func17, Try.ntmps17
  go_wp2
  go_ret
  exact ⟨rfl, rfl⟩

theorem pcsF_valid : ∀ (f i : Nat) (l : List UInt8), ∀ p ∈ pcsF f i l, p.r ≤ 1114111
  | 0, _, _, p, h => by simp [pcsF] at h
  | f + 1, i, l, p, h => by
    unfold pcsF at h
    split at h
    · simp at h
    · rcases List.mem_cons.1 h with rfl | h
      · exact dec_rune_le l
      · exact pcsF_valid f _ _ p h
theorem pcs_valid (l : List UInt8) : ∀ p ∈ pcs l, p.r ≤ 1114111 := pcsF_valid _ _ _
/-- Is a piece a letter? -/
def isLet (p : Pc) : Bool := kindOf p.broken p.r == 1
def lets (l : List UInt8) : List Pc := (pcs l).filter isLet
def encLet (p : Pc) : Array Value := #[.int .i64 p.i, .int .i32 p.r]
def pcCells (p : Pc) : Array Value := #[.int .i64 p.i, .int .i64 p.w, .int .i32 p.r, .bool p.broken]

set_option maxRecDepth 100000 in
set_option maxHeartbeats 2000000 in
theorem letters1_yields (s : ByteArray) (hs : s.size ≤ 4611686018427387904) (Bs : Nat) (W0 : World) (hB : Boxed W0 Bs 9 (.string s)) :
    Yields Try.prog 61 #[.pointer (some ⟨Bs, 0, none⟩)] encLet (lets s.data.toList) (fun k => k = Bs) W0 := by
  intro l I X C0 W hD hsz hC0 hI hX hY h0
  have hBW : Boxed W Bs 9 (.string s) := (hD Bs rfl).2.trans hB
  have hBlt := hBW.lt
  have hc : ∀ o, (W.alloc o).cell? ⟨Bs, 0, none⟩ = some (.string s) := fun o => (hBW.alloc o).cell
  (refine calls_of_body Try.func61 rfl ?_; simp only [Try.ntmps61, List.size_toArray, List.length_cons, List.length_nil, Nat.reduceAdd, Nat.reduceSub, Array.replicate_succ, Array.replicate_zero, List.push_toArray, List.append_toArray, List.nil_append, List.cons_append])
  gi_wp2_with (gi_at_call 38; refine (CallsIn.mono (callsIn_wide.2 (pieces_any _ _)) ?_); rintro e w' ⟨rfl, rfl⟩)
  have hbY : Boxed ((W.alloc (.cells #[.func (.yield l) #[] #[]] 72)).alloc (.cells #[.string s] 9)) W.heap.size 72 (.func (.yield l) #[] #[]) := (Boxed.new W _ _).alloc _
  have hbS : Boxed ((W.alloc (.cells #[.func (.yield l) #[] #[]] 72)).alloc (.cells #[.string s] 9)) (W.heap.size + 1) 9 (.string s) := by
    have := Boxed.new (W.alloc (.cells #[.func (.yield l) #[] #[]] 72)) 9 (.string s); rwa [World.size_alloc] at this
  obtain ⟨Wa, hWa⟩ : ∃ Wa, (W.alloc (.cells #[.func (.yield l) #[] #[]] 72)).alloc (.cells #[.string s] 9) = Wa := ⟨_, rfl⟩
  have hfa : Fr C0 W Wa := by rw [← hWa]; exact ((Fr.refl _ _).alloc _).alloc _
  have hsa : Wa.heap.size = W.heap.size + 2 := by rw [← hWa]; simp
  have h0a : I [] C0 Wa := hI _ _ _ _ h0 hfa.size (fun k hk => by rw [← hWa]; exact (Below.heap_alloc _ _ _ (by have := (hC0 k hk).1; simp; omega)).trans (Below.heap_alloc _ _ _ (hC0 k hk).1))
  rw [hWa] at hbY hbS
  simp only [hWa]
  clear hWa
  have hIl : Local (fun (pre : List Pc) C W' => I (pre.filter isLet) C W') := fun pre C W1 W2 hi hs hk => hI (pre.filter isLet) C W1 W2 hi hs hk
  refine wp_range (gf := 63) (lb := #[.pointer (some ⟨W.heap.size + 1, 0, none⟩)]) rfl (enters_of Try.func63 (by kernel_rfl) rfl)
    (pieces1_yields s hs (W.heap.size + 1) Wa hbS) (fun k hk => ⟨by rw [hk, hsa]; omega, rfl⟩) (Nat.le_refl _) (fun _ => rfl)
    (fun pre C W' => I (pre.filter isLet) C W')
    (fun c pre C W' => c = .ret ∧ ∃ p x q, lets s.data.toList = p ++ x :: q ∧ X (p ++ [x]) C W')
    (JBox (fun pre C W' => I (pre.filter isLet) C W') 51 pcCells ?act)
    ?hI ?hX ?hJ C0 ?hC0 h0a ?hassign ?hbody ?hdone ?hstop
  case hI => exact hIl
  case hX => rintro c pre C W1 W2 ⟨rfl, p, x, q, hx, hi⟩ hs hk; exact ⟨rfl, p, x, q, hx, hX (p ++ [x]) C W1 W2 hi hs hk⟩
  case hJ => exact fun pre x a => JBox.local hIl pre x a
  case hC0 => exact fun k hk => ⟨by have := (hC0 k hk).1; omega, by have := (hC0 k hk).1; omega⟩
  case hassign =>
    intro l' pre x post C W1 hxs hext hi hn hlt hr
    simp only [encPc]
    gi_wp2
    refine JBox.assign hIl hi (hext.lt (fun k hk => by have := (hC0 k hk).1; omega)) rfl ?_
    intro b hb
    rw [← hb]
  case hbody =>
    rintro l' pre x post C1 W1 a1 hxs hext ⟨C, b, rfl, hnb, hi, hb, rfl⟩ hn hlt hr
    have hv : x.r ≤ 1114111 := pcs_valid _ x (by rw [hxs]; simp)
    have hv1 : (-2147483648 : Int) ≤ (x.r : Int) := by omega
    have hv2 : (x.r : Int) ≤ 2147483647 := by omega
    have hbYr : Boxed W1 W.heap.size _ _ := hext.1.at hbY (fun h => by have := (hC0 _ h).1; omega)
    have c1 := hbYr.cell
    have d0 := cell_at hb (j := 0) rfl
    have d1 := cell_at hb (j := 1) rfl
    have d2 := cell_at hb (j := 2) rfl
    have d3 := cell_at hb (j := 3) rfl
    have hCW : ∀ k, C k → k < W1.heap.size := fun k hk => hext.lt (fun k hk => by have := (hC0 k hk).1; omega) k (.inl hk)
    have hblt := lt_of_some hb
    have hX1 := Lib.hid hext
    have hxs' := Lib.hid hxs
    have hYY := Lib.hid hY
    clear hxs hext hY hD hr hc hn
    gi_wp2_with (fail)
    refine CallsIn.inRound l' (CallsIn.mono (callsIn_wide.2 (of_any _ _ _ _ _ (by omega) (by omega))) ?_)
    rintro e w2 ⟨rfl, hb2⟩
    have hX2 : Ext C0 C W w2 := ((Ext.of_fr hfa).trans (hX1.out.sub (fun k hk => .inl hk))).trans (Ext.below hb2)
    have hi2 := hIl.at hi hb2 hCW
    have c1' : w2.cell? ⟨W.heap.size, 0, none⟩ = some (.func (.yield l) #[] #[]) := cell_at (some_lt hbYr hb2) rfl
    have e0 : w2.cell? ⟨b, 0, none⟩ = some (.int .i64 x.i) := cell_at (some_lt hb hb2) rfl
    have e2 : w2.cell? ⟨b, 2, none⟩ = some (.int .i32 x.r) := cell_at (some_lt hb hb2) rfl
    have hs2 := hb2.size
    cases hlet : isLet x
    · have hk : (kindOf x.broken x.r == 1) = false := hlet
      have hfin : RPost (fun (pre : List Pc) C W' => I (pre.filter isLet) C W') (fun c pre C W' => c = .ret ∧ ∃ p x q, lets s.data.toList = p ++ x :: q ∧ X (p ++ [x]) C W') (pre ++ [x]) (fun k => C k ∨ k = b) W1 .normal ⟨#[], []⟩ w2 :=
        ⟨C, (Ext.below hb2).sub (fun k hk => .inl hk), by simp only [List.filter_append, List.filter_cons, hlet, List.filter_nil]; simpa using hi2⟩
      have hfin' := Lib.hid hfin
      clear hlet hfin hX2 hi2 hi
      gi_wp2
      exact hfin'.out
    · have hk : (kindOf x.broken x.r == 1) = true := hlet
      have hl1 : lets s.data.toList = pre.filter isLet ++ x :: post.filter isLet := by unfold lets; rw [hxs'.out]; simp [List.filter_append, List.filter_cons, hlet]
      have hl2 : (pre ++ [x]).filter isLet = pre.filter isLet ++ [x] := by simp [List.filter_append, List.filter_cons, hlet]
      obtain ⟨fn, tmps, assign, body, hy, hR⟩ := hYY.out (pre.filter isLet) x (post.filter isLet) C w2 hl1 hX2 hi2
      simp only [encLet] at hy
      have Hl1 := Lib.hid hl1; have Hl2 := Lib.hid hl2; have HX2 := Lib.hid hX2
      clear hlet hl1 hl2 hX2 hi2 hi
      gi_wp2
      refine hR.mono ?_
      rintro e W3 ⟨b', rfl, C', he3, ⟨rfl, hi3⟩ | ⟨rfl, hx3⟩⟩
      · have hfin : RPost (fun (pre : List Pc) C W' => I (pre.filter isLet) C W') (fun c pre C W' => c = .ret ∧ ∃ p x q, lets s.data.toList = p ++ x :: q ∧ X (p ++ [x]) C W') (pre ++ [x]) (fun k => C k ∨ k = b) W1 .normal ⟨#[], []⟩ W3 :=
          ⟨C', (Ext.below hb2).trans (he3.weaken (fun k hk => .inl hk)), by show I ((pre ++ [x]).filter isLet) C' W3; rw [Hl2.out]; exact hi3⟩
        have hfin' := Lib.hid hfin
        clear hfin hi3 he3
        gi_wp2
        exact hfin'.out
      · have hfin : RPost (fun (pre : List Pc) C W' => I (pre.filter isLet) C W') (fun c pre C W' => c = .ret ∧ ∃ p x q, lets s.data.toList = p ++ x :: q ∧ X (p ++ [x]) C W') (pre ++ [x]) (fun k => C k ∨ k = b) W1 .ret ⟨#[], []⟩ W3 :=
          ⟨C', (Ext.below hb2).trans (he3.weaken (fun k hk => .inl hk)), rfl, pre.filter isLet, x, post.filter isLet, Hl1.out, hx3⟩
        have hfin' := Lib.hid hfin
        clear hfin hx3 he3
        gi_wp2
        exact hfin'.out
  case hdone =>
    intro d C W1 hext hi hd hnd hdef
    have hext' : Ext C0 C W W1 := (Ext.of_fr hfa).trans hext
    exact leaves_marks [d] W1 (by simp) (by simpa using hdef) (fun w' hw hsz' => ⟨_, results_none rfl _ _ _, ⟨_, rfl⟩, C,
      hext'.own hw (fun k hk => by simp at hk; omega), .inl (hIl.own hi hext' (fun k hk => (hC0 k hk).1) hw (fun k hk => by simp at hk; subst hk; exact hnd))⟩)
  case hstop =>
    rintro d c pre x post C W1 hxs hext ⟨rfl, p, y, q, hpq, hx⟩ hd hnd hdef
    have hext' : Ext C0 C W W1 := (Ext.of_fr hfa).trans hext
    gi_wp2
    exact leaves_marks [d] W1 (by simp) (by simpa using hdef) (fun w' hw hsz' => ⟨_, results_none rfl _ _ _, ⟨_, rfl⟩, C,
      hext'.own hw (fun k hk => by simp at hk; omega), .inr ⟨p, y, q, hpq, hX.own hx hext' (fun k hk => (hC0 k hk).1) hw (fun k hk => by simp at hk; subst hk; exact hnd)⟩⟩)

end Go.Proofs.Ytekjfmjeemjcjaa
