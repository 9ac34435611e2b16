/-
  class.turn, at any function value that turns letters. Nothing is assumed.
-/
import Derived.Test.YtekjfmjeemjcjaaBld
import Derived.Shelf.AbstractIn
namespace Go.Proofs.Ytekjfmjeemjcjaa
open Go.RowKit Go.Lib Go.Shelf
attribute [local go_sem] Oper.semAt_some wide_fn wide_in_fn wide_depth
set_option linter.unusedVariables false
set_option linter.unusedSimpArgs false

/-- What class.turn has written, and whether a letter leads, behind some pieces. -/
def turnStep (s : ByteArray) (one : Int → Bool → ByteArray → ByteArray) (st : ByteArray × Bool) (p : Pc) : ByteArray × Bool :=
  (st.1 ++ (if pk p = 1 then one p.r st.2 (s.extract (p.i + p.w) s.size) else s.extract p.i (p.i + p.w)), if pk p = 2 then st.2 else pk p == 1)
def turnP (s : ByteArray) (one : Int → Bool → ByteArray → ByteArray) (pre : List Pc) : ByteArray × Bool := pre.foldl (turnStep s one) (⟨#[]⟩, false)
theorem turnP_snoc (s : ByteArray) (one : Int → Bool → ByteArray → ByteArray) (pre : List Pc) (p : Pc) : turnP s one (pre ++ [p]) = turnStep s one (turnP s one pre) p := by
  unfold turnP; rw [List.foldl_append]; rfl
theorem turnP_size (s : ByteArray) (one : Int → Bool → ByteArray → ByteArray) (h1 : ∀ r b t, (one r b t).size ≤ 4) : ∀ (pre : List Pc), (∀ p ∈ pre, p.w ≤ 4) → (turnP s one pre).1.size ≤ 4 * pre.length := by
  have key : ∀ (pre : List Pc) (st : ByteArray × Bool), (∀ p ∈ pre, p.w ≤ 4) → (pre.foldl (turnStep s one) st).1.size ≤ st.1.size + 4 * pre.length := by
    intro pre
    induction pre with
    | nil => intro st h; simp
    | cons p pre ih =>
      intro st h
      have h2 := ih (turnStep s one st p) (fun q hq => h q (List.mem_cons_of_mem _ hq))
      have h3 : (turnStep s one st p).1.size ≤ st.1.size + 4 := by
        have hw := h p (List.mem_cons_self ..)
        simp only [turnStep, ByteArray.size_append]
        split
        · have := h1 (p.r : Int) st.2 (s.extract (p.i + p.w) s.size); omega
        · simp; omega
      simp only [List.foldl_cons, List.length_cons]
      omega
  intro pre h
  have := key pre (⟨#[]⟩, false) h
  rw [show (⟨#[]⟩ : ByteArray).size = 0 from rfl, Nat.zero_add] at this
  exact this

abbrev turnI (s : ByteArray) (one : Int → Bool → ByteArray → ByteArray) (B : Nat) (pre : List Pc) (C : Nat → Prop) (W : World) : Prop :=
  ∃ D, Bld B (turnP s one pre).1 D W ∧ Boxed W (B + 1) 4 (.bool (turnP s one pre).2) ∧ ¬ D (B + 1) ∧ C = (fun k => D k ∨ k = B + 1)

set_option maxRecDepth 100000 in
set_option maxHeartbeats 4000000 in
theorem turn_any (s : ByteArray) (fone : FuncId) (one : Int → Bool → ByteArray → ByteArray) (w : World) (hs : s.size ≤ 2147483647)
    (hent : ∀ args w, (callFunc fone args).run Try.prog w = .ok (.enter fone args) w)
    (hone : ∀ (r : Nat) (led : Bool) (rest : ByteArray) (w : World), r ≤ 1114111 → rest.size ≤ 2147483647 → Calls Try.prog fone #[.int .i32 r, .bool led, .string rest] w fun e w' => e = .returned (.string (one r led rest)) ∧ Below w.heap.size w w')
    (hsz : ∀ r b t, (one r b t).size ≤ 4) :
    Calls Try.prog 51 #[.string s, .func (.func fone) #[] #[]] w fun e w' => e = .returned (.string (turnP s one (pcs s.data.toList)).1) ∧ Below w.heap.size w w' := by
  (refine calls_of_body Try.func51 rfl ?_; simp only [Try.ntmps51, List.size_toArray, List.length_cons, List.length_nil, Nat.reduceAdd, Nat.reduceSub, Array.replicate_succ, Array.replicate_zero, List.push_toArray, List.append_toArray, List.nil_append, List.cons_append])
  have Hone := Lib.hid hone; have Hsz := Lib.hid hsz; have Hent := Lib.hid hent
  clear hone hsz hent
  gi_wp2_with (gi_at_call 38; refine (CallsIn.mono (callsIn_wide.2 (pieces_any _ _)) ?_); rintro e w' ⟨rfl, rfl⟩)
  obtain ⟨Wa, hWa⟩ : ∃ Wa, (((((w.alloc (.cells #[.string s] 9)).alloc (.cells #[.func (.func fone) #[] #[]] 66)).alloc (.cells #[.pointer none, .slice none 0 0] 78)).alloc (.cells #[.bool false] 4)).alloc (.cells #[.string s] 9)) = Wa := ⟨_, rfl⟩
  have bS : Boxed Wa w.heap.size 9 (.string s) := by rw [← hWa]; exact ((((Boxed.new w _ _).alloc _).alloc _).alloc _).alloc _
  have bF : Boxed Wa (w.heap.size + 1) 66 (.func (.func fone) #[] #[]) := by
    rw [← hWa]; have := (((Boxed.new (w.alloc (.cells #[.string s] 9)) 66 (.func (.func fone) #[] #[])).alloc (.cells #[.pointer none, .slice none 0 0] 78)).alloc (.cells #[.bool false] 4)).alloc (.cells #[.string s] 9); simpa only [World.size_alloc] using this
  have bB : Bld (w.heap.size + 1 + 1) ⟨#[]⟩ (fun k => k = w.heap.size + 1 + 1) Wa := by
    rw [← hWa]; have := Bld.new ((w.alloc (.cells #[.string s] 9)).alloc (.cells #[.func (.func fone) #[] #[]] 66))
    simp only [World.size_alloc] at this
    exact this.local (fun k hk => by subst hk; rw [Below.heap_alloc _ _ _ (by simp), Below.heap_alloc _ _ _ (by simp)])
  have bL : Boxed Wa (w.heap.size + 1 + 1 + 1) 4 (.bool false) := by
    rw [← hWa]; have := (Boxed.new (((w.alloc (.cells #[.string s] 9)).alloc (.cells #[.func (.func fone) #[] #[]] 66)).alloc (.cells #[.pointer none, .slice none 0 0] 78)) 4 (.bool false)).alloc (.cells #[.string s] 9); simpa only [World.size_alloc] using this
  have bD : Boxed Wa (w.heap.size + 1 + 1 + 1 + 1) 9 (.string s) := by
    rw [← hWa]; have := Boxed.new ((((w.alloc (.cells #[.string s] 9)).alloc (.cells #[.func (.func fone) #[] #[]] 66)).alloc (.cells #[.pointer none, .slice none 0 0] 78)).alloc (.cells #[.bool false] 4)) 9 (.string s); simpa only [World.size_alloc] using this
  have hba : Below w.heap.size w Wa := by
    rw [← hWa]; exact (((((Below.refl _ w).alloc (Nat.le_refl _) _).alloc (by simp) _).alloc (by simp; omega) _).alloc (by simp; omega) _).alloc (by simp; omega) _
  have hsa : Wa.heap.size = w.heap.size + 5 := by rw [← hWa]; simp
  simp only [hWa]
  clear hWa
  have hloc : Local (turnI s one (w.heap.size + 1 + 1)) := by
    rintro pre C W1 W2 ⟨D, h1, h2, h3, rfl⟩ hs hk
    exact ⟨D, h1.local (fun k h => hk k (.inl h)), (hk _ (.inr rfl)).trans h2, h3, rfl⟩
  refine wp_range (gf := 63) (lb := #[.pointer (some ⟨w.heap.size + 1 + 1 + 1 + 1, 0, none⟩)]) rfl (enters_of Try.func63 (by kernel_rfl) rfl)
    (pieces1_yields s (by omega) (w.heap.size + 1 + 1 + 1 + 1) Wa bD) (fun k hk => ⟨by rw [hk, hsa]; omega, rfl⟩) (Nat.le_refl _) (fun _ => rfl)
    (turnI s one (w.heap.size + 1 + 1)) (fun _ _ _ _ => False)
    (JBox (turnI s one (w.heap.size + 1 + 1)) 51 pcCells ?act)
    hloc ?hX ?hJ (fun k => k = w.heap.size + 1 + 1 ∨ k = w.heap.size + 1 + 1 + 1) ?hC0 ⟨_, bB, bL, by omega, rfl⟩ ?hassign ?hbody ?hdone ?hstop
  case hX => rintro c pre C W1 W2 h; exact h.elim
  case hJ => exact fun pre x a => JBox.local hloc pre x a
  case hC0 => rintro k (rfl | rfl) <;> exact ⟨by omega, by omega⟩
  case hassign =>
    intro l' pre x post C W1 hxs hext hi hn hlt hr
    simp only [encPc]
    gi_wp2
    refine JBox.assign hloc hi (hext.lt (fun k hk => by rcases hk with rfl | rfl <;> omega)) rfl ?_
    intro b hb
    rw [← hb]
  case hstop => rintro d c pre x post C W hxs hext hX; exact hX.elim
  case hbody =>
    rintro l' pre x post C1 W1 a1 hxs hext ⟨C, b, rfl, hnb, ⟨Db, hB1, bL1, hDL, rfl⟩, hb, rfl⟩ hn hlt hr
    have hmem : x ∈ pcs s.data.toList := by rw [hxs]; simp
    have hv : x.r ≤ 1114111 := pcs_valid _ x hmem
    have hv1 : (-2147483648 : Int) ≤ (x.r : Int) := by omega
    have hv2 : (x.r : Int) ≤ 2147483647 := by omega
    have hend : x.i + x.w ≤ s.size := by simpa using (pcs_pos _ x hmem).2.1
    have hout : (turnP s one pre).1.size ≤ 4 * s.size := by
      have h1 := turnP_size s one Hsz.out pre (fun p hp => pcs_w4 s.data.toList p (by rw [hxs]; simp [hp]))
      have h2 := pcs_len s
      rw [hxs, List.length_append] at h2
      omega
    have hsn := turnP_snoc s one pre x
    have bS1 : Boxed W1 w.heap.size _ _ := hext.1.at bS (fun h => by omega)
    have bF1 : Boxed W1 (w.heap.size + 1) _ _ := hext.1.at bF (fun h => by omega)
    have d0 : W1.cell? ⟨b, 0, none⟩ = some (.int .i64 x.i) := cell_at hb rfl
    have d1 : W1.cell? ⟨b, 1, none⟩ = some (.int .i64 x.w) := cell_at hb rfl
    have d2 : W1.cell? ⟨b, 2, none⟩ = some (.int .i32 x.r) := cell_at hb rfl
    have d3 : W1.cell? ⟨b, 3, none⟩ = some (.bool x.broken) := cell_at hb rfl
    have Hext := Lib.hid hext; have Hxs := Lib.hid hxs; have Hsn := Lib.hid hsn; have Hmem := Lib.hid hmem
    clear hxs hext hr hn hsn hmem
    gi_wp2_with (fail)
    refine CallsIn.inRound l' (CallsIn.mono (callsIn_wide.2 (of_any _ _ _ _ _ (by omega) (by omega))) ?_)
    rintro e w2 ⟨rfl, hb2⟩
    have hpk : kindOf x.broken (x.r : Int) = pk x := rfl
    rw [hpk]
    clear hpk
    have hb2' : w2.heap[b]? = _ := some_lt hb hb2
    have bS2 : Boxed w2 w.heap.size _ _ := some_lt bS1 hb2
    have bF2 : Boxed w2 (w.heap.size + 1) _ _ := some_lt bF1 hb2
    have bL2 : Boxed w2 (w.heap.size + 1 + 1 + 1) _ _ := some_lt bL1 hb2
    have hB2 : Bld (w.heap.size + 1 + 1) (turnP s one pre).1 Db w2 := hB1.local (fun k hk => hb2.block k (hB1.lt k hk))
    have c0 : w2.cell? ⟨b, 0, none⟩ = some (.int .i64 x.i) := cell_at hb2' rfl
    have c2 : w2.cell? ⟨b, 2, none⟩ = some (.int .i32 x.r) := cell_at hb2' rfl
    have cS := bS2.cell; have cF := bF2.cell; have cL := bL2.cell; have fL := bL2.frozen
    have hDb : ¬ Db b := fun h => hnb (.inl h)
    have hbL : b ≠ w.heap.size + 1 + 1 + 1 := fun h => hnb (.inr h)
    have Hb2 := Lib.hid hb2; have HB2 := Lib.hid hB2
    generalize hT : turnP s one pre = T at *
    obtain ⟨out, led⟩ := T
    clear hb2 hB2 hB1 d0 d1 d2 d3
    have HT := Lib.hid hT
    clear hT
    by_cases hp : pk x = 1
    · have e1 : (pk x == 1) = true := by simp [hp]
      have e2 : (pk x != 2) = true := by simp [hp]
      have Hp := Lib.hid hp
      clear hp
      gi_wp2
      refine wpIn_region_vals (by kernel_rfl) (by kernel_rfl) [22, 23, 24, 25, 26, 27, 28, 29, 30]
        [(0, 22, .func (.func fone) #[] #[]), (1, 23, .pointer (some ⟨b, 2, none⟩)), (2, 24, .int .i32 x.r), (3, 25, .bool led), (4, 26, .string s), (5, 27, .int .i64 (x.i + x.w)), (6, 28, .string (s.extract (x.i + x.w) s.size)), (7, 29, .string (one x.r led (s.extract (x.i + x.w) s.size)))]
        (fun D W => (¬ D 7 → W = w2.drew) ∧ (D 7 → ¬ D 8 → Below w2.heap.size w2 W) ∧ (D 8 → ∃ D', Bld (w.heap.size + 1 + 1) (out ++ one x.r led (s.extract (x.i + x.w) s.size)) D' W ∧ Ext Db D' w2 W)) (by simp) ?_ ?_
      · refine ⟨?_, ?_, ?_, ?_, ?_, ?_, ?_, ?_, ?_, trivial⟩
        · rintro E u W hn hd hcl hV hP
          have hW : W = w2.drew := hP.1 (fun h => hn (hcl 7 _ rfl h 0 (by decide)))
          subst hW
          simp only [puts, List.foldl_cons, List.foldl_nil, Act.put, List.setIfInBounds_toArray, List.set_cons_succ, List.set_cons_zero]
          have HV := Lib.hid hV; have HP := Lib.hid hP
          clear hV hP hd hn hcl
          gi_wp2
          exact ⟨upd u 22 (.func (.func fone) #[] #[]), by simp only [puts, List.foldl_cons, List.foldl_nil, Act.put, List.setIfInBounds_toArray, List.set_cons_succ, List.set_cons_zero, upd, Nat.reduceEqDiff, if_true, if_false], HV.out.step (by simp), by simpa using HP.out⟩
        · rintro E u W hn hd hcl hV hP
          have hW : W = w2.drew := hP.1 (fun h => hn (hcl 2 _ rfl (hcl 7 _ rfl h 2 (by decide)) 1 (by decide)))
          subst hW
          simp only [puts, List.foldl_cons, List.foldl_nil, Act.put, List.setIfInBounds_toArray, List.set_cons_succ, List.set_cons_zero]
          have HV := Lib.hid hV; have HP := Lib.hid hP
          clear hV hP hd hn hcl
          gi_wp2
          exact ⟨upd u 23 (.pointer (some ⟨b, 2, none⟩)), by simp only [puts, List.foldl_cons, List.foldl_nil, Act.put, List.setIfInBounds_toArray, List.set_cons_succ, List.set_cons_zero, upd, Nat.reduceEqDiff, if_true, if_false], HV.out.step (by simp), by simpa using HP.out⟩
        · rintro E u W hn hd hcl hV hP
          have hW : W = w2.drew := hP.1 (fun h => hn (hcl 7 _ rfl h 2 (by decide)))
          subst hW
          have q1 : u 23 = .pointer (some ⟨b, 2, none⟩) := hV (1, 23, _) (by simp) (hd 1 (by decide))
          simp only [puts, List.foldl_cons, List.foldl_nil, Act.put, List.setIfInBounds_toArray, List.set_cons_succ, List.set_cons_zero]
          simp only [q1]
          have HV := Lib.hid hV; have HP := Lib.hid hP
          have Q1 := Lib.hid q1
          clear hV hP hd hn hcl q1
          gi_wp2
          exact ⟨upd u 24 (.int .i32 x.r), by simp only [puts, List.foldl_cons, List.foldl_nil, Act.put, List.setIfInBounds_toArray, List.set_cons_succ, List.set_cons_zero, upd, Nat.reduceEqDiff, if_true, if_false]; simp only [Q1.out], HV.out.step (by simp), by simpa using HP.out⟩
        · rintro E u W hn hd hcl hV hP
          have hW : W = w2.drew := hP.1 (fun h => hn (hcl 7 _ rfl h 3 (by decide)))
          subst hW
          simp only [puts, List.foldl_cons, List.foldl_nil, Act.put, List.setIfInBounds_toArray, List.set_cons_succ, List.set_cons_zero]
          have HV := Lib.hid hV; have HP := Lib.hid hP
          clear hV hP hd hn hcl
          gi_wp2
          exact ⟨upd u 25 (.bool led), by simp only [puts, List.foldl_cons, List.foldl_nil, Act.put, List.setIfInBounds_toArray, List.set_cons_succ, List.set_cons_zero, upd, Nat.reduceEqDiff, if_true, if_false], HV.out.step (by simp), by simpa using HP.out⟩
        · rintro E u W hn hd hcl hV hP
          have hW : W = w2.drew := hP.1 (fun h => hn (hcl 6 _ rfl (hcl 7 _ rfl h 6 (by decide)) 4 (by decide)))
          subst hW
          simp only [puts, List.foldl_cons, List.foldl_nil, Act.put, List.setIfInBounds_toArray, List.set_cons_succ, List.set_cons_zero]
          have HV := Lib.hid hV; have HP := Lib.hid hP
          clear hV hP hd hn hcl
          gi_wp2
          exact ⟨upd u 26 (.string s), by simp only [puts, List.foldl_cons, List.foldl_nil, Act.put, List.setIfInBounds_toArray, List.set_cons_succ, List.set_cons_zero, upd, Nat.reduceEqDiff, if_true, if_false], HV.out.step (by simp), by simpa using HP.out⟩
        · rintro E u W hn hd hcl hV hP
          have hW : W = w2.drew := hP.1 (fun h => hn (hcl 6 _ rfl (hcl 7 _ rfl h 6 (by decide)) 5 (by decide)))
          subst hW
          simp only [puts, List.foldl_cons, List.foldl_nil, Act.put, List.setIfInBounds_toArray, List.set_cons_succ, List.set_cons_zero]
          have HV := Lib.hid hV; have HP := Lib.hid hP
          clear hV hP hd hn hcl
          gi_wp2
          exact ⟨upd u 27 (.int .i64 (x.i + x.w)), by simp only [puts, List.foldl_cons, List.foldl_nil, Act.put, List.setIfInBounds_toArray, List.set_cons_succ, List.set_cons_zero, upd, Nat.reduceEqDiff, if_true, if_false], HV.out.step (by simp), by simpa using HP.out⟩
        · rintro E u W hn hd hcl hV hP
          have hW : W = w2.drew := hP.1 (fun h => hn (hcl 7 _ rfl h 6 (by decide)))
          subst hW
          have q4 : u 26 = .string s := hV (4, 26, _) (by simp) (hd 4 (by decide))
          have q5 : u 27 = .int .i64 (x.i + x.w) := hV (5, 27, _) (by simp) (hd 5 (by decide))
          simp only [puts, List.foldl_cons, List.foldl_nil, Act.put, List.setIfInBounds_toArray, List.set_cons_succ, List.set_cons_zero]
          simp only [q4, q5]
          have HV := Lib.hid hV; have HP := Lib.hid hP
          have Q4 := Lib.hid q4; have Q5 := Lib.hid q5
          clear hV hP hd hn hcl q4 q5
          gi_wp2
          exact ⟨upd u 28 (.string (s.extract (x.i + x.w) s.size)), by simp only [puts, List.foldl_cons, List.foldl_nil, Act.put, List.setIfInBounds_toArray, List.set_cons_succ, List.set_cons_zero, upd, Nat.reduceEqDiff, if_true, if_false]; simp only [Q4.out, Q5.out], HV.out.step (by simp), by simpa using HP.out⟩
        · rintro E u W hn hd hcl hV hP
          have hW : W = w2.drew := hP.1 hn
          subst hW
          have q0 : u 22 = .func (.func fone) #[] #[] := hV (0, 22, _) (by simp) (hd 0 (by decide))
          have q2 : u 24 = .int .i32 x.r := hV (2, 24, _) (by simp) (hd 2 (by decide))
          have q3 : u 25 = .bool led := hV (3, 25, _) (by simp) (hd 3 (by decide))
          have q6 : u 28 = .string (s.extract (x.i + x.w) s.size) := hV (6, 28, _) (by simp) (hd 6 (by decide))
          simp only [puts, List.foldl_cons, List.foldl_nil, Act.put, List.setIfInBounds_toArray, List.set_cons_succ, List.set_cons_zero]
          simp only [q0, q2, q3, q6]
          have h8 : ¬ E 8 := fun h => hn (hcl 8 _ rfl h 7 (by decide))
          have HV := Lib.hid hV; have H8 := Lib.hid h8; have Q0 := Lib.hid q0; have Q2 := Lib.hid q2; have Q3 := Lib.hid q3; have Q6 := Lib.hid q6
          have hent := Hent.out
          clear hV hP hd hn hcl q0 q2 q3 q6 h8
          gi_wp2_with (gi_at_fn fone; refine CallsIn.inRound l' (CallsIn.mono (callsIn_wide.2 (Hone.out x.r led (s.extract (x.i + x.w) s.size) _ hv (by simp; omega))) ?_); rintro e w3 ⟨rfl, hb3⟩)
          have hz : Below w2.heap.size w2 w3 := (Below.refl _ _).drew.trans hb3
          have Hz := Lib.hid hz
          exact ⟨upd u 29 (.string (one x.r led (s.extract (x.i + x.w) s.size))), by simp only [puts, List.foldl_cons, List.foldl_nil, Act.put, List.setIfInBounds_toArray, List.set_cons_succ, List.set_cons_zero, upd, Nat.reduceEqDiff, if_true, if_false]; simp only [Q0.out, Q2.out, Q3.out, Q6.out], HV.out.step (by simp), by simp, fun _ _ => Hz.out, fun h => by simp at h; exact absurd h H8.out⟩
        · rintro E u W hn hd hcl hV hP
          have h7 : E 7 := hd 7 (by decide)
          have hz := hP.2.1 h7 hn
          have q7 : u 29 = .string (one x.r led (s.extract (x.i + x.w) s.size)) := hV (7, 29, _) (by simp) h7
          simp only [puts, List.foldl_cons, List.foldl_nil, Act.put, List.setIfInBounds_toArray, List.set_cons_succ, List.set_cons_zero]
          simp only [q7]
          have hB3 : Bld (w.heap.size + 1 + 1) out Db W := HB2.out.local (fun k hk => hz.block k (HB2.out.lt k hk))
          have HV := Lib.hid hV; have Hz := Lib.hid hz; have H7 := Lib.hid h7; have Q7 := Lib.hid q7
          have h1 : out.size + (one x.r led (s.extract (x.i + x.w) s.size)).size ≤ 140737488355328 := by have := Hsz.out (x.r : Int) led (s.extract (x.i + x.w) s.size); (try simp only at hout); omega
          clear hV hP hd hn hcl q7 hz h7
          gi_wp2_with (gi_at_call 68; refine CallsIn.inRound l' (CallsIn.mono (callsIn_wide.2 (writeString_any _ _ _ _ _ hB3 h1)) ?_); rintro e w4 ⟨⟨uu, rfl⟩, D', hB4, hx4⟩)
          have hx : Ext Db D' w2 w4 := (Ext.below Hz.out).trans hx4
          exact ⟨upd u 30 uu, by (try simp only [puts, List.foldl_cons, List.foldl_nil, Act.put, List.setIfInBounds_toArray, List.set_cons_succ, List.set_cons_zero, upd, Nat.reduceEqDiff, if_true, if_false]); (try simp only [Q7.out]), HV.out.step (by simp), by simp [H7.out], fun _ h => by simp at h, fun _ => ⟨D', hB4, hx⟩⟩
      · rintro E u W hD hV hP
        obtain ⟨D', hB4, hx4⟩ := hP.2.2 (hD 8 (by decide))
        simp only [puts, List.foldl_cons, List.foldl_nil, Act.put, List.setIfInBounds_toArray, List.set_cons_succ, List.set_cons_zero]
        have bL4 : Boxed W (w.heap.size + 1 + 1 + 1) _ _ := hx4.1.at bL2 hDL
        have cL4 := bL4.cell; have fL4 := bL4.frozen
        have hDL' : ¬ D' (w.heap.size + 1 + 1 + 1) := hx4.not (lt_of_some bL2) hDL
        have HB4 := Lib.hid hB4; have Hx4 := Lib.hid hx4
        clear hP hV hD hB4 hx4
        gi_wp2
        have hx5 : Ext (fun k => D' k ∨ k = w.heap.size + 1 + 1 + 1) (fun k => D' k ∨ k = w.heap.size + 1 + 1 + 1) W (W.setCell ⟨w.heap.size + 1 + 1 + 1, 0, none⟩ (.bool true)) := (Ext.refl _ _).setCell (p := ⟨w.heap.size + 1 + 1 + 1, 0, none⟩) (.inr rfl) _
        refine ⟨fun k => D' k ∨ k = w.heap.size + 1 + 1 + 1, ?_, D', ?_, ?_, hDL', rfl⟩
        · refine (Ext.below Hb2.out).trans (Ext.trans (C1 := fun k => (D' k ∨ k = w.heap.size + 1 + 1 + 1) ∨ k = b) ?_ ((hx5.weaken (fun k h => .inl h))))
          exact ⟨Hx4.out.1.weaken (fun k _ h => .inl (.inl h)), fun k hk => by
            rcases hk with (hk | rfl) | rfl
            · exact (Hx4.out.2 k hk).imp (fun h => .inl (.inl h)) id
            · exact .inl (.inl (.inr rfl))
            · exact .inl (.inr rfl)⟩
        · rw [Hsn.out]; simp only [turnStep, HT.out, if_pos Hp.out]
          exact HB4.out.local (fun k hk => Below.heap_setCell _ _ _ _ (by rintro rfl; exact hDL' hk))
        · rw [Hsn.out]; simp only [turnStep, HT.out, Hp.out]
          exact bL4.set _
    · have e1 : (pk x == 1) = false := by simp [hp]
      have hw1 : (x.i : Int) ≤ (x.i + x.w : Int) := by omega
      have h1 : out.size + (s.extract x.i (x.i + x.w)).size ≤ 140737488355328 := by (try simp only at hout); simp; omega
      by_cases hp2 : pk x = 2
      · have e2 : (pk x != 2) = false := by simp [hp2]
        have Hp := Lib.hid hp; have Hp2 := Lib.hid hp2
        clear hp hp2
        gi_wp2_with (gi_at_call 68; refine CallsIn.inRound l' (CallsIn.mono (callsIn_wide.2 (writeString_any _ _ _ _ _ HB2.out h1)) ?_); rintro e w4 ⟨⟨uu, rfl⟩, D', hB4, hx4⟩)
        have bL4 : Boxed w4 (w.heap.size + 1 + 1 + 1) _ _ := hx4.1.at bL2 hDL
        have hDL' : ¬ D' (w.heap.size + 1 + 1 + 1) := hx4.not (lt_of_some bL2) hDL
        refine ⟨fun k => D' k ∨ k = w.heap.size + 1 + 1 + 1, ?_, D', ?_, ?_, hDL', rfl⟩
        · refine (Ext.below Hb2.out).trans ⟨hx4.1.weaken (fun k _ h => .inl (.inl h)), fun k hk => ?_⟩
          rcases hk with hk | rfl
          · exact (hx4.2 k hk).imp (fun h => .inl (.inl h)) id
          · exact .inl (.inl (.inr rfl))
        · rw [Hsn.out]; simp only [turnStep, HT.out, if_neg Hp.out]
          exact hB4
        · rw [Hsn.out]; simp only [turnStep, HT.out, if_pos Hp2.out]
          exact bL4
      · have e2 : (pk x != 2) = true := by simp [bne, hp2]
        have Hp := Lib.hid hp; have Hp2 := Lib.hid hp2
        clear hp hp2
        gi_wp2_with (fail)
        refine CallsIn.inRound l' (CallsIn.mono (callsIn_wide.2 (writeString_any _ _ _ _ _ HB2.out h1)) ?_)
        rintro e w4 ⟨⟨uu, rfl⟩, D', hB4, hx4⟩
        have bL4 : Boxed w4 (w.heap.size + 1 + 1 + 1) _ _ := hx4.1.at bL2 hDL
        have hDL' : ¬ D' (w.heap.size + 1 + 1 + 1) := hx4.not (lt_of_some bL2) hDL
        have cL4 := bL4.cell; have fL4 := bL4.frozen
        have HB4 := Lib.hid hB4; have Hx4 := Lib.hid hx4
        clear hB4 hx4
        gi_wp2
        have hx5 : Ext (fun k => D' k ∨ k = w.heap.size + 1 + 1 + 1) (fun k => D' k ∨ k = w.heap.size + 1 + 1 + 1) w4 (w4.setCell ⟨w.heap.size + 1 + 1 + 1, 0, none⟩ (.bool false)) := (Ext.refl _ _).setCell (p := ⟨w.heap.size + 1 + 1 + 1, 0, none⟩) (.inr rfl) _
        refine ⟨fun k => D' k ∨ k = w.heap.size + 1 + 1 + 1, ?_, D', ?_, ?_, hDL', rfl⟩
        · refine (Ext.below Hb2.out).trans (Ext.trans (C1 := fun k => (D' k ∨ k = w.heap.size + 1 + 1 + 1) ∨ k = b) ?_ ((hx5.weaken (fun k h => .inl h))))
          exact ⟨Hx4.out.1.weaken (fun k _ h => .inl (.inl h)), fun k hk => by
            rcases hk with (hk | rfl) | rfl
            · exact (Hx4.out.2 k hk).imp (fun h => .inl (.inl h)) id
            · exact .inl (.inl (.inr rfl))
            · exact .inl (.inr rfl)⟩
        · rw [Hsn.out]; simp only [turnStep, HT.out, if_neg Hp.out]
          exact HB4.out.local (fun k hk => Below.heap_setCell _ _ _ _ (by rintro rfl; exact hDL' hk))
        · rw [Hsn.out]; simp only [turnStep, HT.out, if_neg Hp2.out, e1]
          exact bL4.set _
  case hdone =>
    rintro d C W hext ⟨Db, hB, bL5, hDL, rfl⟩ hld hCd hdef
    have hWs := hext.1.size
    have Hext := Lib.hid hext; have Hba := Lib.hid hba
    have hDd : ¬ Db d := fun h => hCd (.inl h)
    clear hext hba
    gi_wp2_with (gi_at_call 69; refine CallsIn.mono (callsIn_wide.2 (bstring_any _ _ _ _ hB)) ?_; rintro e w4 ⟨rfl, hx4⟩)
    have hdd : w4.heap[d]? = some (.deferred (some [])) := (hx4.1.keep d (lt_of_some hdef) hDd).trans hdef
    refine leaves_marks [d] _ (by simp) (by intro e he; simp at he; subst he; exact hdd) (fun w' hw hsw => ?_)
    refine ⟨.string _, by simp [results, Try.results51, go_sem], rfl, ?_⟩
    have hDb : ∀ k, Db k → w.heap.size ≤ k := fun k hk => by
      rcases Hext.out.2 k (.inl hk) with (rfl | rfl) | h
      · omega
      · omega
      · omega
    have F1 : Below w.heap.size w W := Hba.out.trans (Hext.out.1.toBelow (by omega) (fun k hk h => by rcases h with rfl | rfl <;> omega))
    have F2 : Below w.heap.size w w4 := F1.trans (hx4.1.toBelow (by omega) (fun k hk h => by have := hDb k h; omega))
    have h4 := hx4.1.size
    exact F2.trans (hw.toBelow (by omega) (fun k hk h => by have h5 : k = d := (List.mem_singleton.1 h); omega))

end Go.Proofs.Ytekjfmjeemjcjaa
