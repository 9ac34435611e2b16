/-
  Walks: canticlelaw03.letters, ClassPieces. Nothing is assumed.
-/
import Derived.Test.YtekjfmjeemjcjaaLawPcs
import Derived.Test.YtekjfmjeemjcjaaPcs
namespace Go.Proofs.Ytekjfmjeemjcjaa
open Go.RowKit Go.Lib Go.Shelf
attribute [local go_sem] Oper.semAt_some wide_fn wide_in_fn wide_depth
set_option linter.unusedVariables false
set_option linter.unusedSimpArgs false

theorem isLet_sh (p : Pc) (k : Nat) : isLet (Pc.sh k p) = isLet p := rfl
theorem isLet_kind {p : Pc} (h : isLet p = true) : p.broken = false ∧ (kind p.r == 1) = true := by
  unfold isLet kindOf at h
  cases hb : p.broken
  · rw [hb] at h; exact ⟨rfl, by simpa using h⟩
  · rw [hb] at h; simp at h
theorem notLet_kind {p : Pc} (h : isLet p = false) : (kind p.r == 1) = false := by
  unfold isLet kindOf at h
  cases hb : p.broken
  · rw [hb] at h; simpa using h
  · have : p.r = 65533 := by unfold Pc.broken at hb; simp at hb; exact hb.1
    rw [this]; decide

theorem nextOf_le (n : Nat) : ∀ ps : List Pc, (∀ p ∈ ps, p.i + p.w ≤ n) → nextOf ps ≤ n
  | [], _ => Nat.zero_le _
  | p :: ps, h => by
    unfold nextOf; split
    · exact h p (List.mem_cons_self ..)
    · exact nextOf_le n ps (fun q hq => h q (List.mem_cons_of_mem _ hq))

set_option maxRecDepth 100000 in
set_option maxHeartbeats 4000000 in
theorem lawLetters_any (s : ByteArray) (w : World) (hs : s.size ≤ 9223372036854775807) :
    Calls Try.prog 14 #[.string s] w fun e w' => e = .returned (.bool true) ∧ Below w.heap.size w w' := by
  by_cases hbig : 2147483647 < s.size
  · have hdb : decide ((2147483647 : Int) < (s.size : Int)) = true := by simp; omega
    (refine calls_of_body Try.func14 rfl ?_; simp only [Try.ntmps14, List.size_toArray, List.length_cons, List.length_nil, Nat.reduceAdd, Nat.reduceSub, Array.replicate_succ, Array.replicate_zero, List.push_toArray, List.append_toArray, List.nil_append, List.cons_append])
    gi_wp2_with (gi_at_call 15; refine (CallsIn.mono (callsIn_wide.2 (beyond_any _ _)) ?_); rintro e w' ⟨rfl, rfl⟩)
    refine leaves_marks [] _ (by simp) (by simp) (fun w' hw hsz => ?_)
    have hc : w'.cell? ⟨w.heap.size + 1, 0, none⟩ = some (.bool true) := by
      have h1 : ((w.alloc (.cells #[.string s] 9)).alloc (.cells #[.bool true] 4)).heap[w.heap.size + 1]? = some (.cells #[.bool true] 4) := by
        have := World.alloc_heap_new (w.alloc (.cells #[.string s] 9)) (.cells #[.bool true] 4); rwa [World.size_alloc] at this
      exact cell_at (hw.at h1 (by simp)) rfl
    refine ⟨.bool true, by simp [results, Try.results14, go_sem, hc], rfl, ?_⟩
    exact (((Below.refl _ _).alloc (Nat.le_refl _) _).alloc (by simp) _).trans ((hw.toBelow (by simp; omega) (by simp)))
  · have hfn := fun (w : World) (lb : Array Value) => run_eql_func_nil (P := Try.prog) w (.func 61) #[] lb Try.underlying54
    have hdb : decide ((2147483647 : Int) < (s.size : Int)) = false := by simp; omega
    (refine calls_of_body Try.func14 rfl ?_; simp only [Try.ntmps14, List.size_toArray, List.length_cons, List.length_nil, Nat.reduceAdd, Nat.reduceSub, Array.replicate_succ, Array.replicate_zero, List.push_toArray, List.append_toArray, List.nil_append, List.cons_append])
    gi_wp2_with (first | (gi_at_call 15; refine (CallsIn.mono (callsIn_wide.2 (beyond_any _ _)) ?_); rintro e w' ⟨rfl, rfl⟩) | (gi_at_call 35; refine (CallsIn.mono (callsIn_wide.2 (letters_any _ _)) ?_); rintro e w' ⟨rfl, rfl⟩))
    have bS := (((Boxed.new w 9 (.string s)).alloc (.cells #[.bool false] 4)).alloc (.cells #[.string s] 9)).alloc (.cells #[.int .i64 0] 3)
    have bR := ((Boxed.new (w.alloc (.cells #[.string s] 9)) 4 (.bool false)).alloc (.cells #[.string s] 9)).alloc (.cells #[.int .i64 0] 3)
    have bC := (Boxed.new ((w.alloc (.cells #[.string s] 9)).alloc (.cells #[.bool false] 4)) 9 (.string s)).alloc (.cells #[.int .i64 0] 3)
    have bN := Boxed.new (((w.alloc (.cells #[.string s] 9)).alloc (.cells #[.bool false] 4)).alloc (.cells #[.string s] 9)) 3 (.int .i64 0)
    have hba : Below w.heap.size w ((((w.alloc (.cells #[.string s] 9)).alloc (.cells #[.bool false] 4)).alloc (.cells #[.string s] 9)).alloc (.cells #[.int .i64 0] 3)) :=
      ((((Below.refl _ w).alloc (Nat.le_refl _) _).alloc (by simp) _).alloc (by simp; omega) _).alloc (by simp; omega) _
    have hsa : ((((w.alloc (.cells #[.string s] 9)).alloc (.cells #[.bool false] 4)).alloc (.cells #[.string s] 9)).alloc (.cells #[.int .i64 0] 3)).heap.size = w.heap.size + 1 + 1 + 1 + 1 := by simp
    simp only [World.size_alloc] at bR bC bN
    obtain ⟨Wa, hWa⟩ : ∃ Wa, ((((w.alloc (.cells #[.string s] 9)).alloc (.cells #[.bool false] 4)).alloc (.cells #[.string s] 9)).alloc (.cells #[.int .i64 0] 3)) = Wa := ⟨_, rfl⟩
    rw [hWa] at bS bR bC bN hba hsa
    simp only [hWa]
    clear hWa hfn
    refine wp_range (gf := 61) (lb := #[.pointer (some ⟨w.heap.size + 1 + 1, 0, none⟩)]) rfl (enters_of Try.func61 (by kernel_rfl) rfl)
      (letters1_yields s (by omega) (w.heap.size + 1 + 1) Wa bC) (fun k hk => ⟨by rw [hk, hsa]; omega, rfl⟩) (Nat.le_refl _) (fun _ => rfl)
      (fun pre C W' => C = (fun k => k = w.heap.size + 1 + 1 + 1) ∧ Boxed W' (w.heap.size + 1 + 1 + 1) 3 (.int .i64 (nextOf pre)))
      (fun _ _ _ _ => False)
      (JTmp (fun pre C W' => C = (fun k => k = w.heap.size + 1 + 1 + 1) ∧ Boxed W' (w.heap.size + 1 + 1 + 1) 3 (.int .i64 (nextOf pre))) ?act)
      ?hI ?hX ?hJ (fun k => k = w.heap.size + 1 + 1 + 1) ?hC0 ⟨rfl, bN⟩ ?hassign ?hbody ?hdone ?hstop
    case hI => rintro pre C W1 W2 ⟨rfl, hi⟩ hs hk; exact ⟨rfl, (hk _ rfl).trans hi⟩
    case hX => intro c pre C W1 W2 h; exact h.elim
    case hJ => exact fun pre x a => JTmp.local (by rintro pre C W1 W2 ⟨rfl, hi⟩ hs hk; exact ⟨rfl, (hk _ rfl).trans hi⟩) pre x a
    case hC0 => rintro k rfl; exact ⟨by omega, by omega⟩
    case hassign =>
      intro l pre x post C W1 hxs hext hi hn hlt hr
      simp only [encLet]
      gi_wp2
      refine ⟨C, Ext.refl _ _, hi, ?_⟩
      rfl
    case hbody =>
      rintro l pre x post C W1 a1 hxs hext ⟨⟨rfl, bN1⟩, rfl⟩ hn hlt hr
      have bS1 : Boxed W1 w.heap.size _ _ := hext.1.at bS (by omega)
      obtain ⟨N, x', B, hpc, hN, hxi, hxr, hxw, hfx, hxm⟩ := pick_next isLet isLet_sh s.data.toList pre x post hxs
      obtain ⟨hb1, hb2, hok⟩ := pcs_pos _ x hxm
      have hle : x.i + x.w ≤ s.size := by simpa using hb2
      have hnx : nextOf (pre ++ [x]) = x.i + x.w := nextOf_snoc pre x
      generalize nextOf pre = nx at *
      have cN := bN1.cell
      have fN := bN1.frozen
      have cS := bS1.cell
      have hnl : nx ≤ x.i := by omega
      have hxs2 : x.i < s.size := by omega
      have hA : decide ((x.i : Int) < (nx : Int)) = false := by simp; omega
      have hB : decide ((s.size : Int) ≤ (x.i : Int)) = false := by simp; omega
      have hno : ¬ (x.i < nx ∨ s.size ≤ x.i) := by omega
      have hno2 : ¬ (s.size ≤ x.i) := by omega
      have hno3 : ¬ (x.i < nx) := by omega
      have cS1 := bS1.cell
      obtain ⟨hbr, hkx⟩ := isLet_kind hfx
      have hv := pcs_valid _ x hxm
      have hv1 : (-2147483648 : Int) ≤ (x.r : Int) := by omega
      have hv2 : (x.r : Int) ≤ 2147483647 := by omega
      have hw2 : (Utf8.encode (x.r : Int)).size = x.w := by
        rw [encode_size]; refine hok.width (fun h => ?_)
        rw [Pc.broken, h.1, h.2] at hbr; simp at hbr
      have Hxs := Lib.hid hxs; have Hext := Lib.hid hext; have Hpc := Lib.hid hpc; have HN := Lib.hid hN; have Hnx := Lib.hid hnx; have Hxi := Lib.hid hxi; have Hxr := Lib.hid hxr; have Hw2 : Unit → (Utf8.encode (x.r : Int)).size = x.w := fun _ => hw2
      clear hxs hext hpc hN hnx hxr hok hbr hfx hxm hv hb1 hb2 hxw hxi hw2
      have hsl : s.size ≤ 2147483647 := by omega
      clear hdb hn hr
      have hts : (s.extract nx s.size).size = s.size - nx := by simp
      have htl := ext_end s nx
      generalize hT : s.extract nx s.size = t at *
      have Htl := Lib.hid htl; have Hts := Lib.hid hts
      rw [← htl] at Hpc
      have hts' : t.size ≤ s.size := by omega
      clear htl hts
      gi_wp2
      gi_loopw [] (fun wr => ∃ N2 pos, Hid (pcsFrom pos (t.data.toList.drop pos) = N2 ++ x' :: B) ∧ Hid (∀ q ∈ N2, isLet q = false ∧ q.i < x'.i) ∧ pos ≤ t.size ∧ wr.heap[W1.heap.size]? = some (.stringIter t pos) ∧ Fr (fun _ => False) W1 wr) (fun wr => t.size - wr.iterPos W1.heap.size)
      case atStart => exact ⟨N, 0, Hpc, HN, Nat.zero_le _, World.iter_heap W1 t 0, (Fr.refl _ _).alloc _⟩
      case round =>
        obtain ⟨N2, pos, Hp2, HN2, hpos, hit, hf⟩ := hrel
        have hlt2 : pos < t.size := by
          rcases Nat.lt_or_ge pos t.size with h | h
          · exact h
          · have := Hp2.out
            rw [List.drop_eq_nil_of_le (by simp; omega), pcsFrom_nil] at this
            simp at this
        obtain ⟨r, wd, W2, hn2, hf2, hit2, hsz2, hok2, hp2, hle2, h12⟩ := next_some Try.prog wr W1.heap.size t pos hit hlt2
        have hpp := Hp2.out
        rw [hp2] at hpp
        have hN2' := HN2.out
        have hF2 : Fr (fun _ => False) W1 W2 := hf.trans' hf2 (by intro i hi h; omega)
        have hitlt := lt_of_some hit2
        have hpw := Lib.hid (iterPos_at hit)
        have hit2' := Lib.hid hit2
        have cN2 : W2.cell? ⟨w.heap.size + 1 + 1 + 1, 0, none⟩ = some (.int .i64 nx) := cell_at (hF2.at bN1 (fun h => h)) rfl
        have fN2 : W2.frozen? ⟨w.heap.size + 1 + 1 + 1, 0, none⟩ = false := frozen_at (hF2.at bN1 (fun h => h)) 0
        have cS2 : W2.cell? ⟨w.heap.size, 0, none⟩ = some (.string s) := cell_at (hF2.at bS1 (fun h => h)) rfl
        have hvl := hok2.valid
        have HF2 := Lib.hid hF2
        clear hok2 hp2 hf hf2 hit hit2 Hp2 HN2 hF2
        cases N2 with
        | nil =>
          simp only [List.nil_append, List.cons.injEq] at hpp
          obtain ⟨rfl, rfl⟩ := hpp
          have e1 : ((nx : Int) + (pos : Int) == (x.i : Int)) = true := by
            have := Hxi.out; simp at this; simp; omega
          have e2 : r = x.r := Hxr.out
          subst e2
          clear hN2'
          have HW : Unit → (Utf8.encode (x.r : Int)).size = x.w := Hw2
          gi_wp2_with (gi_at_call 36; refine (CallsIn.inRound l (CallsIn.mono (callsIn_wide.2 (rkind_any _ _ (by omega) (by omega))) ?_)); rintro e w' ⟨rfl, rfl⟩)
          have hb2 : Boxed W2 (w.heap.size + 1 + 1 + 1) 3 (.int .i64 nx) := HF2.out.at bN1 (fun h => h)
          refine ⟨_, Ext.of_fr (Fr.setCell (C := fun k => k = w.heap.size + 1 + 1 + 1) (HF2.out.weaken (fun _ _ h => h.elim)) (p := ⟨w.heap.size + 1 + 1 + 1, 0, none⟩) (Or.inl rfl) _), rfl, ?_⟩
          have e5 : wrap64 ((x.i : Int) + ((Utf8.encode (x.r : Int)).size : Int)) = ((nextOf (pre ++ [x]) : Nat) : Int) := by
            rw [HW (), Hnx.out]; unfold wrap64; simp; omega
          rw [e5]
          exact hb2.set _
        | cons q N3 =>
          simp only [List.cons_append, List.cons.injEq] at hpp
          obtain ⟨rfl, hpp⟩ := hpp
          have hq := hN2' _ (List.mem_cons_self ..)
          have e1 : ((nx : Int) + (pos : Int) == (x.i : Int)) = false := by
            have := Hxi.out; have := hq.2; simp; simp at this; omega
          have e2 := notLet_kind hq.1
          simp only at e2
          have hv := hq.1
          have hr1 : r ≤ 1114111 := by omega
          have hr2 : (-2147483648 : Int) ≤ (r : Int) := by omega
          have hr3 : (r : Int) ≤ 2147483647 := by omega
          have HN3 : Hid (∀ q ∈ N3, isLet q = false ∧ q.i < x'.i) := fun q hq => hN2' q (List.mem_cons_of_mem _ hq)
          have Hpp := Lib.hid hpp
          clear hq hv hN2' hpp
          gi_wp2_with (gi_at_call 36; refine (CallsIn.inRound l (CallsIn.mono (callsIn_wide.2 (rkind_any _ _ (by omega) (by omega))) ?_)); rintro e w' ⟨rfl, rfl⟩)
          go_roundw
          case rel => exact ⟨N3, pos + wd, Hpp, HN3, hle2, hit2'.out, HF2.out⟩
          case measure => rw [hpw.out, iterPos_at hit2'.out]; omega
    case hstop => intro d c pre x post C W hxs hext hX; exact hX.elim
    case hdone =>
      rintro d C W hext ⟨rfl, bN2⟩ hld hCd hdef
      have bS2 : Boxed W w.heap.size _ _ := hext.1.at bS (by omega)
      have bR2 : Boxed W (w.heap.size + 1) _ _ := hext.1.at bR (by omega)
      have hsz := hext.1.size
      have hpn := pick_none isLet isLet_sh s.data.toList
      have hnl : nextOf (lets s.data.toList) ≤ s.size := nextOf_le _ _ (fun p hp => by
        have := (pcs_pos _ p (List.mem_filter.1 hp).1).2.1; simpa using this)
      change ∀ q ∈ pcs (s.data.toList.drop (nextOf (lets s.data.toList))), isLet q = false at hpn
      generalize nextOf (lets s.data.toList) = nx at *
      have hsl : s.size ≤ 2147483647 := by omega
      have cN := bN2.cell
      have cS := bS2.cell
      have hts : (s.extract nx s.size).size = s.size - nx := by simp
      have htl := ext_end s nx
      generalize hT : s.extract nx s.size = t at *
      rw [← htl] at hpn
      have hts' : t.size ≤ s.size := by omega
      have Hpn := Lib.hid hpn; have Htl := Lib.hid htl; have Hts := Lib.hid hts; have Hext := Lib.hid hext; have Hba := Lib.hid hba; have Hdef := Lib.hid hdef
      clear hpn htl hts hdb hext hba hdef
      gi_wp2
      gi_loopw [] (fun wr => ∃ pos, Hid (∀ q ∈ pcsFrom pos (t.data.toList.drop pos), isLet q = false) ∧ pos ≤ t.size ∧ wr.heap[W.heap.size]? = some (.stringIter t pos) ∧ Fr (fun _ => False) W wr) (fun wr => t.size - wr.iterPos W.heap.size)
      case atStart => exact ⟨0, Hpn, Nat.zero_le _, World.iter_heap W t 0, (Fr.refl _ _).alloc _⟩
      case round =>
        obtain ⟨pos, HN2, hpos, hit, hf⟩ := hrel
        by_cases hlt2 : pos < t.size
        · obtain ⟨r, wd, W2, hn2, hf2, hit2, hsz2, hok2, hp2, hle2, h12⟩ := next_some Try.prog wr W.heap.size t pos hit hlt2
          have hN2' := HN2.out
          rw [hp2] at hN2'
          have hq := hN2' _ (List.mem_cons_self ..)
          have HN3 : Hid (∀ q ∈ pcsFrom (pos + wd) (t.data.toList.drop (pos + wd)), isLet q = false) := fun q hq => hN2' q (List.mem_cons_of_mem _ hq)
          have hF2 : Fr (fun _ => False) W W2 := hf.trans' hf2 (by intro i hi h; omega)
          have hitlt := lt_of_some hit2
          have hpw := Lib.hid (iterPos_at hit)
          have hit2' := Lib.hid hit2
          have hvl := hok2.valid
          have HF2 := Lib.hid hF2
          have e2 := notLet_kind hq
          simp only at e2
          have hr1 : r ≤ 1114111 := by omega
          have hr2 : (-2147483648 : Int) ≤ (r : Int) := by omega
          have hr3 : (r : Int) ≤ 2147483647 := by omega
          clear hok2 hp2 hf hf2 hit hit2 HN2 hF2 hN2' hq hvl
          gi_wp2_with (gi_at_call 36; refine (CallsIn.mono (callsIn_wide.2 (rkind_any _ _ (by omega) (by omega))) ?_); rintro e w' ⟨rfl, rfl⟩)
          go_roundw
          case rel => exact ⟨pos + wd, HN3, hle2, hit2'.out, HF2.out⟩
          case measure => rw [hpw.out, iterPos_at hit2'.out]; omega
        · obtain ⟨hn, hp⟩ := next_none Try.prog wr W.heap.size t pos hit hlt2
          have bR3 : Boxed wr (w.heap.size + 1) _ _ := hf.at bR2 (fun h => h)
          have cR := bR3.cell
          have fR := bR3.frozen
          have Hf := Lib.hid hf; have Hit := Lib.hid hit
          clear hp hf hit
          gi_wp2
          have bRn : Boxed (wr.setCell ⟨w.heap.size + 1, 0, none⟩ (.bool true)) (w.heap.size + 1) 4 (.bool true) := bR3.set _
          have hdd : (wr.setCell ⟨w.heap.size + 1, 0, none⟩ (.bool true)).heap[d]? = some (.deferred (some [])) :=
            (Below.heap_setCell _ _ _ _ (by show d ≠ w.heap.size + 1; omega)).trans (Hf.out.at Hdef.out (fun h => h))
          refine leaves_marks [d] _ (by simp) (by intro e he; simp at he; subst he; exact hdd) (fun w' hw hsw => ?_)
          have hc : w'.cell? ⟨w.heap.size + 1, 0, none⟩ = some (.bool true) := cell_at (hw.at bRn (by simp; omega)) rfl
          refine ⟨.bool true, by simp [results, Try.results14, go_sem, hc], rfl, ?_⟩
          have F1 : Fr (fun k => w.heap.size ≤ k) Wa (wr.setCell ⟨w.heap.size + 1, 0, none⟩ (.bool true)) :=
            Fr.setCell ((Hext.out.1.weaken (fun k _ h => by show w.heap.size ≤ k; have : k = w.heap.size + 1 + 1 + 1 := h; omega)).trans' Hf.out (fun _ _ h => h.elim)) (p := ⟨w.heap.size + 1, 0, none⟩) (Or.inl (by show w.heap.size ≤ w.heap.size + 1; omega)) _
          have F2 : Fr (fun k => w.heap.size ≤ k) Wa w' := F1.trans' hw (fun k _ h => by show w.heap.size ≤ k; have h5 : k = d := (List.mem_singleton.1 h); omega)
          exact Hba.out.trans (F2.toBelow (by omega) (fun k hk h => by have : w.heap.size ≤ k := h; omega))

end Go.Proofs.Ytekjfmjeemjcjaa
