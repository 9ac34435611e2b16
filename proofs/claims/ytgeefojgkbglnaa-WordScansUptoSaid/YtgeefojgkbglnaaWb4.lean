/-
  Texts laid together: WordG, WordH, WordP, WordI, WordJ, WordK, Vow, RefW, RefW3, Wa, LfB, PlA, PlB. Nothing is assumed.
-/
import Derived.Test.YtgeefojgkbglnaaWb3
import Derived.Test.YtgeefojgkbglnaaWb2
import Derived.Test.YtgeefojgkbglnaaWb1
namespace Go.Proofs.Ytgeefojgkbglnaa
open Go.RowKit Go.Lib
set_option linter.unusedVariables false
set_option linter.unusedSimpArgs false
def tokAt (T : List Tk) (n : Int) : Option Tk := if n < 0 then none else T.find? (fun p => decide (n < (p.t : Int)))
def atV : Option Tk → Value
  | some p => .tuple #[.agg (tkV p).toArray, .int .i64 0]
  | none => .tuple #[.agg #[.int .i64 0, .int .i64 0, .int .i64 0], .int .i64 5]
def edge (T : List Tk) (n : Int) : Bool := T.any fun y => decide ((y.f : Int) = n ∨ (y.t : Int) = n)
theorem edge_T {T : List Tk} {n : Int} (h : ∃ y ∈ T, (y.f : Int) = n ∨ (y.t : Int) = n) : edge T n = true := by
  obtain ⟨y, hy, h⟩ := h
  exact List.any_eq_true.2 ⟨y, hy, decide_eq_true h⟩
theorem edge_F {T : List Tk} {n : Int} (h : ∀ y ∈ T, ¬ ((y.f : Int) = n ∨ (y.t : Int) = n)) : edge T n = false :=
  List.any_eq_false.2 fun y hy => by simpa using h y hy
def isTk (g : Tk) (n : Nat) : Bool := (g.k == 1) && ((g.t : Int) == (n : Int))
def isWord (T : List Tk) (n : Nat) : Bool := match T.head? with | some g => isTk g n | none => false
def lastP (l : List (Nat × Nat)) : Nat × Nat := l.getLast?.getD (0, 0)
theorem lastP_snoc (l : List (Nat × Nat)) (x : Nat × Nat) : lastP (l ++ [x]) = x := by simp [lastP]
def lastV (p : Nat × Nat) : Value := .tuple #[.agg (spV p).toArray, .bool (decide ((0 : Int) < (p.2 : Int)))]
theorem tw_all {α : Type} (p : α → Bool) (l : List α) (h : ∀ y ∈ l, p y = true) : l.takeWhile p = l := by
  induction l with
  | nil => rfl
  | cons a l ih => rw [List.takeWhile_cons, if_pos (h a (by simp)), ih fun y hy => h y (by simp [hy])]
theorem tw_at {α : Type} (p : α → Bool) (l : List α) (x : α) (r : List α) (h : ∀ y ∈ l, p y = true) (hx : p x = false) : (l ++ x :: r).takeWhile p = l := by
  induction l with
  | nil => simp [hx]
  | cons a l ih => rw [List.cons_append, List.takeWhile_cons, if_pos (h a (by simp)), ih fun y hy => h y (by simp [hy])]
set_option maxRecDepth 100000 in
set_option maxHeartbeats 4000000 in
theorem at_p (s : ByteArray) (hs : s.size ≤ 140737488351232) (n : Int) : FnP Try.prog 27 [.string s, .int .i64 n] (atV (tokAt (scan (units (pcs s.data.toList))) n)) := by
 refine FnP.intro Try.func27 rfl Try.ntmps27 (by simp) ?_
 intro w0 K
 refine TC.seq (TC.region ?_)
 refine TO.box rfl (by decide) rfl (fun b1 => ?_)
 refine TO.alloc zr_36 rfl (by decide) (fun b2 => ?_)
 refine TO.alloc zr_41 rfl (by decide) (fun b3 => ?_)
 show TO _ _ _ _ _ _ _ _ _ _ [cells b1 [.int .i64 n] 3, cells b2 [.int .i64 0, .int .i64 0, .int .i64 0] 36, cells b3 [.int .i64 0] 41]
 refine TO.nil (TX.next (TC.seq (TC.seq (TC.region (TO.load (k := 0) sc_3 rfl (by decide) rfl rfl rfl (TO.bin rfl (by decide) rfl rfl bin_geq (TO.nil (TX.next ?_))))))))
 refine TC.condB rfl (fun h1 => ?_) (fun h1 => ?_)
 ·
  -- yes
  have h1 := of_decide_eq_true h1
  refine TC.seq (TC.region (TO.move rfl (by decide) rfl (TO.call (vs := [.string s]) rfl (by decide) rfl rfl rfl en_15 (scan_fn s) Splits.nil ?_)))
  rintro bp
  show TO _ _ _ _ _ _ _ _ _ _ [cells b1 [.int .i64 n] 3, cells b2 [.int .i64 0, .int .i64 0, .int .i64 0] 36, cells b3 [.int .i64 0] 41, cells bp [.string s] 9]
  refine TO.nil (TX.next (TC.block ?_))
  refine TC.range (α := Tk) (β := Unit) (γ := Tk) (δ := Nat) (ps := [11]) Ro.nil rfl en_46 (scan1_itr s (by omega) bp) (fun pre b => ∀ y ∈ pre, (decide (n < (y.t : Int))) = false) (fun pre b => [cells b1 [.int .i64 n] 3, cells b2 [.int .i64 0, .int .i64 0, .int .i64 0] 36, cells b3 [.int .i64 0] 41]) (fun c pre g => c = .ret ∧ (scan (units (pcs s.data.toList))).find? (fun p => decide (n < (p.t : Int))) = some g) (fun c pre g => [cells b1 [.int .i64 n] 3, cells b2 [.int .i64 g.k, .int .i64 (g.f : Int), .int .i64 (g.t : Int)] 36, cells b3 [.int .i64 0] 41]) (fun pre x b j => [(3, .pointer (some ⟨b1, 0, none⟩)), (4, .pointer (some ⟨b2, 0, none⟩)), (5, .pointer (some ⟨b3, 0, none⟩)), (6, .pointer (some ⟨j, 0, none⟩))]) (fun pre x b j => [cells b1 [.int .i64 n] 3, cells b2 [.int .i64 0, .int .i64 0, .int .i64 0] 36, cells b3 [.int .i64 0] 41, cells j [.int .i64 x.k, .int .i64 (x.f : Int), .int .i64 (x.t : Int)] 36]) () (by simp) (Splits.of [0, 1, 2] (by as_aux_lemma => kernel_rfl) rfl) ⟨.inl ⟨3, rfl⟩, trivial⟩ (fun _ => rfl) (by decide) ?_ ?_ ?_ ?_
  ·
   rintro lp rc pre x post b w1 K1 hxs hext hro hinv
   refine TC.region ?_
   refine TO.alloc zr_36 rfl (by decide) (fun b4 => ?_)
   refine TO.stores (k := 3) (vs := [.int .i64 x.k, .int .i64 (x.f : Int), .int .i64 (x.t : Int)]) (l' := [.int .i64 x.k, .int .i64 (x.f : Int), .int .i64 (x.t : Int)]) sz_36 rfl rfl rfl rfl rfl (show _ ≤ _ by simp) rfl rfl ?_
   show TO _ _ _ _ _ _ _ _ _ _ [cells b1 [.int .i64 n] 3, cells b2 [.int .i64 0, .int .i64 0, .int .i64 0] 36, cells b3 [.int .i64 0] 41, cells b4 [.int .i64 x.k, .int .i64 (x.f : Int), .int .i64 (x.t : Int)] 36]
   refine TO.nil ?_
   exact fun a w ha hw => ⟨b4, (Sbs.cons rfl (Sbs.cons rfl (Sbs.cons rfl (Sbs.cons rfl (Sbs.nil))))) _ _ _ ha, hw.weaken (Splits.of [0, 1, 2, 3] (by as_aux_lemma => kernel_rfl) rfl)⟩
  ·
   rintro lp rc pre x post b j w1 K1 hxs hext hro hinv
   refine TC.block (TC.seq (TC.region (TO.load (k := 0) sc_3 rfl (by decide) rfl rfl rfl (TO.fieldAddr fl_36_1 rfl (by decide) rfl (show _ = 1 from rfl) (TO.fieldAddr fl_34_1 rfl (by decide) rfl (show _ = 2 from rfl) (TO.load (k := 3) sc_3 rfl (by decide) rfl rfl rfl (TO.bin rfl (by decide) rfl rfl bin_lss (TO.nil (TX.next ?_)))))))))
   refine TC.condB rfl (fun h2 => ?_) (fun h2 => ?_)
   ·
    -- yes
    have h2 := of_decide_eq_true h2
    refine TC.seq (TC.region (TO.loads (k := 3) (cs := [.int .i64 x.k, .int .i64 (x.f : Int), .int .i64 (x.t : Int)]) rw_36 rfl (by decide) rfl rfl rfl rfl (TO.stores (k := 1) (vs := [.int .i64 x.k, .int .i64 (x.f : Int), .int .i64 (x.t : Int)]) (l' := [.int .i64 x.k, .int .i64 (x.f : Int), .int .i64 (x.t : Int)]) sz_36 rfl rfl rfl rfl rfl (show _ ≤ _ by simp) rfl rfl ?_)))
    refine TO.store (k := 2) (l' := [.int .i64 0]) sz_41 rfl rfl rfl rfl rfl (fun _ _ => rfl) rfl ?_
    show TO _ _ _ _ _ _ _ _ _ _ [cells b1 [.int .i64 n] 3, cells b2 [.int .i64 x.k, .int .i64 (x.f : Int), .int .i64 (x.t : Int)] 36, cells b3 [.int .i64 0] 41, cells j [.int .i64 x.k, .int .i64 (x.f : Int), .int .i64 (x.t : Int)] 36]
    refine TO.nil (TX.next (TC.ret (TX.blockRet ?_)))
    exact TX.roundRet x ⟨rfl, by rw [hxs, List.find?_append, List.find?_eq_none.2 (fun y hy => by simpa using hinv y hy)]; simp; omega⟩ (Splits.of [0, 1, 2] (by as_aux_lemma => kernel_rfl) rfl)
   ·
    -- no
    have h2 := of_decide_eq_false h2
    refine TC.skip (TX.blockNormal ?_)
    exact TX.round () (by intro y hy; rcases List.mem_append.1 hy with h | h; exact hinv y h; simp only [List.mem_singleton] at h; subst h; simp; omega) (Splits.of [0, 1, 2] (by as_aux_lemma => kernel_rfl) rfl)
  ·
   rintro d b hinv
   show TX _ _ _ _ _ _ _ [emp, emp, emp, cells bp [.string s] 9, cells b1 [.int .i64 n] 3, cells b2 [.int .i64 0, .int .i64 0, .int .i64 0] 36, cells b3 [.int .i64 0] 41, mark d]
   have hf : (scan (units (pcs s.data.toList))).find? (fun p => decide (n < (p.t : Int))) = none := List.find?_eq_none.2 (fun y hy => by simpa using hinv y hy)
   refine TX.blockNormal (TX.next (TC.seq (TC.region ?_)))
   refine TO.build (v := .agg #[.int .i64 0, .int .i64 0, .int .i64 0]) (ps := []) rfl (by decide) rfl (fun _ => by kernel_rfl) ?_
   refine TO.stores (k := 5) (vs := [.int .i64 0, .int .i64 0, .int .i64 0]) (l' := [.int .i64 0, .int .i64 0, .int .i64 0]) sz_36 rfl rfl rfl rfl rfl (show _ ≤ _ by simp) rfl rfl ?_
   refine TO.store (k := 6) (l' := [.int .i64 5]) sz_41 rfl rfl rfl rfl rfl (fun _ _ => rfl) rfl ?_
   show TO _ _ _ _ _ _ _ _ _ _ [emp, emp, emp, cells bp [.string s] 9, cells b1 [.int .i64 n] 3, cells b2 [.int .i64 0, .int .i64 0, .int .i64 0] 36, cells b3 [.int .i64 5] 41, mark d]
   refine TO.nil (TX.next (TC.ret ?_))
   exact TX.finM (rs := [.cell 4 36, .cell 5 41]) [d] () (.inl rfl) (Splits.of [7] (by as_aux_lemma => kernel_rfl) rfl) Try.results27 (.cons (.cells rw_36 rfl (k := 5) rfl rfl) (.cons (.cell sc_41 rfl (k := 6) rfl) .nil)) (by unfold tokAt; rw [if_neg (by omega), hf]; rfl) Splits.nil
  ·
   rintro d c pre x post g hxs hX
   show TC _ _ _ _ _ _ _ _ _ [emp, emp, emp, cells bp [.string s] 9, cells b1 [.int .i64 n] 3, cells b2 [.int .i64 g.k, .int .i64 (g.f : Int), .int .i64 (g.t : Int)] 36, cells b3 [.int .i64 0] 41, mark d]
   obtain ⟨rfl, hf⟩ := hX
   refine TC.ret (TX.blockRet (TX.thenRet ?_))
   exact TX.finM (rs := [.cell 4 36, .cell 5 41]) [d] () (.inl rfl) (Splits.of [7] (by as_aux_lemma => kernel_rfl) rfl) Try.results27 (.cons (.cells rw_36 rfl (k := 5) rfl rfl) (.cons (.cell sc_41 rfl (k := 6) rfl) .nil)) (by unfold tokAt; rw [if_neg (by omega), hf]; rfl) Splits.nil
 ·
  -- no
  have h1 := of_decide_eq_false h1
  refine TC.skip (TX.next (TC.seq (TC.region ?_)))
  refine TO.build (v := .agg #[.int .i64 0, .int .i64 0, .int .i64 0]) (ps := []) rfl (by decide) rfl (fun _ => by kernel_rfl) ?_
  refine TO.stores (k := 1) (vs := [.int .i64 0, .int .i64 0, .int .i64 0]) (l' := [.int .i64 0, .int .i64 0, .int .i64 0]) sz_36 rfl rfl rfl rfl rfl (show _ ≤ _ by simp) rfl rfl ?_
  refine TO.store (k := 2) (l' := [.int .i64 5]) sz_41 rfl rfl rfl rfl rfl (fun _ _ => rfl) rfl ?_
  show TO _ _ _ _ _ _ _ _ _ _ [cells b1 [.int .i64 n] 3, cells b2 [.int .i64 0, .int .i64 0, .int .i64 0] 36, cells b3 [.int .i64 5] 41]
  refine TO.nil (TX.next (TC.ret ?_))
  exact TX.fin (rs := [.cell 4 36, .cell 5 41]) () (.inl rfl) Try.results27 (.cons (.cells rw_36 rfl (k := 1) rfl rfl) (.cons (.cell sc_41 rfl (k := 2) rfl) .nil)) (by unfold tokAt; rw [if_pos (by omega)]; rfl) Splits.nil

set_option maxRecDepth 100000 in
set_option maxHeartbeats 4000000 in
theorem edge_p (s : ByteArray) (hs : s.size ≤ 140737488351232) (n : Int) : FnP Try.prog 26 [.string s, .int .i64 n] (.bool (edge (scan (units (pcs s.data.toList))) n)) := by
 refine FnP.intro Try.func26 rfl Try.ntmps26 (by simp) ?_
 intro w0 K
 refine TC.seq (TC.region ?_)
 refine TO.box rfl (by decide) rfl (fun b1 => ?_)
 refine TO.alloc zr_4 rfl (by decide) (fun b2 => ?_)
 refine TO.nil (TX.next (TC.seq (TC.seq (TC.region (TO.move rfl (by decide) rfl (TO.call (vs := [.string s]) rfl (by decide) rfl rfl rfl en_15 (scan_fn s) Splits.nil ?_))))))
 rintro bp
 show TO _ _ _ _ _ _ _ _ _ _ [cells b1 [.int .i64 n] 3, cells b2 [.bool false] 4, cells bp [.string s] 9]
 refine TO.nil (TX.next (TC.block ?_))
 refine TC.range (α := Tk) (β := Unit) (γ := Tk) (δ := Nat) (ps := [8]) Ro.nil rfl en_46 (scan1_itr s (by omega) bp) (fun pre b => ∀ y ∈ pre, ¬ ((y.f : Int) = n ∨ (y.t : Int) = n)) (fun pre b => [cells b1 [.int .i64 n] 3, cells b2 [.bool false] 4]) (fun c pre g => c = .ret ∧ ∃ y ∈ scan (units (pcs s.data.toList)), (y.f : Int) = n ∨ (y.t : Int) = n) (fun c pre g => [cells b1 [.int .i64 n] 3, cells b2 [.bool true] 4]) (fun pre x b j => [(3, .pointer (some ⟨b1, 0, none⟩)), (4, .pointer (some ⟨b2, 0, none⟩)), (5, .pointer (some ⟨j, 0, none⟩))]) (fun pre x b j => [cells b1 [.int .i64 n] 3, cells b2 [.bool false] 4, cells j [.int .i64 x.k, .int .i64 (x.f : Int), .int .i64 (x.t : Int)] 36]) () (by simp) (Splits.of [0, 1] (by as_aux_lemma => kernel_rfl) rfl) ⟨.inl ⟨2, rfl⟩, trivial⟩ (fun _ => rfl) (by decide) ?_ ?_ ?_ ?_
 ·
  rintro lp rc pre x post b w1 K1 hxs hext hro hinv
  refine TC.region ?_
  refine TO.alloc zr_36 rfl (by decide) (fun b3 => ?_)
  refine TO.stores (k := 2) (vs := [.int .i64 x.k, .int .i64 (x.f : Int), .int .i64 (x.t : Int)]) (l' := [.int .i64 x.k, .int .i64 (x.f : Int), .int .i64 (x.t : Int)]) sz_36 rfl rfl rfl rfl rfl (show _ ≤ _ by simp) rfl rfl ?_
  show TO _ _ _ _ _ _ _ _ _ _ [cells b1 [.int .i64 n] 3, cells b2 [.bool false] 4, cells b3 [.int .i64 x.k, .int .i64 (x.f : Int), .int .i64 (x.t : Int)] 36]
  refine TO.nil ?_
  exact fun a w ha hw => ⟨b3, (Sbs.cons rfl (Sbs.cons rfl (Sbs.cons rfl (Sbs.nil)))) _ _ _ ha, hw.weaken (Splits.of [0, 1, 2] (by as_aux_lemma => kernel_rfl) rfl)⟩
 ·
  rintro lp rc pre x post b j w1 K1 hxs hext hro hinv
  refine TC.block (TC.seq (TC.region (TO.fieldAddr fl_36_1 rfl (by decide) rfl (show _ = 1 from rfl) (TO.fieldAddr fl_34_0 rfl (by decide) rfl (show _ = 1 from rfl) (TO.load (k := 2) sc_3 rfl (by decide) rfl rfl rfl (TO.load (k := 0) sc_3 rfl (by decide) rfl rfl rfl (TO.bin rfl (by decide) rfl rfl bin_eql (TO.move rfl (by decide) rfl ?_))))))))
  refine TO.split (s := 14) rfl (fun h1 => ?_) (fun h1 => ?_)
  ·
   -- yes
   have h1 := beq_iff_eq.1 h1
   refine TO.skip rfl (by decide) (TO.skip rfl (by decide) (TO.skip rfl (by decide) (TO.skip rfl (by decide) (TO.skip rfl (by decide) (TO.pick (b := true) rfl (by decide) rfl rfl (TO.nil (TX.next (TC.condT rfl (TC.seq (TC.region ?_))))))))))
   refine TO.store (k := 1) (l' := [.bool true]) sz_4 rfl rfl rfl rfl rfl (fun _ _ => rfl) rfl ?_
   refine TO.nil (TX.next (TC.ret (TX.blockRet ?_)))
   exact TX.roundRet x ⟨rfl, x, by rw [hxs]; simp, by omega⟩ (Splits.of [0, 1] (by as_aux_lemma => kernel_rfl) rfl)
  ·
   -- no
   have h1 := beq_eq_false_iff_ne.1 h1
   refine TO.fieldAddr fl_36_1 rfl (by decide) rfl (show _ = 1 from rfl) (TO.fieldAddr fl_34_1 rfl (by decide) rfl (show _ = 2 from rfl) (TO.load (k := 2) sc_3 rfl (by decide) rfl rfl rfl (TO.load (k := 0) sc_3 rfl (by decide) rfl rfl rfl (TO.bin rfl (by decide) rfl rfl bin_eql (TO.pick (b := false) rfl (by decide) rfl rfl (TO.nil (TX.next ?_)))))))
   refine TC.condB rfl (fun h2 => ?_) (fun h2 => ?_)
   ·
    -- yes
    have h2 := beq_iff_eq.1 h2
    refine TC.seq (TC.region ?_)
    refine TO.store (k := 1) (l' := [.bool true]) sz_4 rfl rfl rfl rfl rfl (fun _ _ => rfl) rfl ?_
    refine TO.nil (TX.next (TC.ret (TX.blockRet ?_)))
    exact TX.roundRet x ⟨rfl, x, by rw [hxs]; simp, by omega⟩ (Splits.of [0, 1] (by as_aux_lemma => kernel_rfl) rfl)
   ·
    -- no
    have h2 := beq_eq_false_iff_ne.1 h2
    refine TC.skip (TX.blockNormal ?_)
    exact TX.round () (by intro y hy; rcases List.mem_append.1 hy with h | h; exact hinv y h; simp only [List.mem_singleton] at h; subst h; omega) (Splits.of [0, 1] (by as_aux_lemma => kernel_rfl) rfl)
 ·
  rintro d b hinv
  show TX _ _ _ _ _ _ _ [emp, emp, cells bp [.string s] 9, cells b1 [.int .i64 n] 3, cells b2 [.bool false] 4, mark d]
  refine TX.blockNormal (TX.next (TC.seq (TC.region ?_)))
  refine TO.store (k := 4) (l' := [.bool false]) sz_4 rfl rfl rfl rfl rfl (fun _ _ => rfl) rfl ?_
  refine TO.nil (TX.next (TC.ret ?_))
  exact TX.finM (rs := [.cell 4 4]) [d] () (.inl rfl) (Splits.of [5] (by as_aux_lemma => kernel_rfl) rfl) Try.results26 (.cons (.cell sc_4 rfl (k := 4) rfl) .nil) (by rw [edge_F hinv]; rfl) Splits.nil
 ·
  rintro d c pre x post g hxs hX
  show TC _ _ _ _ _ _ _ _ _ [emp, emp, cells bp [.string s] 9, cells b1 [.int .i64 n] 3, cells b2 [.bool true] 4, mark d]
  obtain ⟨rfl, hf⟩ := hX
  refine TC.ret (TX.blockRet (TX.thenRet ?_))
  exact TX.finM (rs := [.cell 4 4]) [d] () (.inl rfl) (Splits.of [5] (by as_aux_lemma => kernel_rfl) rfl) Try.results26 (.cons (.cell sc_4 rfl (k := 4) rfl) .nil) (by rw [edge_T hf]; rfl) Splits.nil

set_option maxRecDepth 100000 in
set_option maxHeartbeats 4000000 in
theorem is_p (s : ByteArray) (hs : s.size ≤ 140737488351232) : FnP Try.prog 19 [.string s] (.bool (isWord (scan (units (pcs s.data.toList))) s.size)) := by
 refine FnP.intro Try.func19 rfl Try.ntmps19 (by simp) ?_
 intro w0 K
 refine TC.seq (TC.region ?_)
 refine TO.box rfl (by decide) rfl (fun b1 => ?_)
 refine TO.alloc zr_4 rfl (by decide) (fun b2 => ?_)
 refine TO.nil (TX.next (TC.seq (TC.seq (TC.region (TO.load (k := 0) sc_9 rfl (by decide) rfl rfl rfl (TO.call (vs := [.string s]) rfl (by decide) rfl rfl rfl en_15 (scan_fn s) Splits.nil ?_))))))
 rintro bp
 show TO _ _ _ _ _ _ _ _ _ _ [cells b1 [.string s] 9, cells b2 [.bool false] 4, cells bp [.string s] 9]
 refine TO.nil (TX.next (TC.block ?_))
 refine TC.range (α := Tk) (β := Unit) (γ := Tk) (δ := Nat) (ps := [6]) Ro.nil rfl en_46 (scan1_itr s (by omega) bp) (fun pre b => pre = []) (fun pre b => [cells b1 [.string s] 9, cells b2 [.bool false] 4]) (fun c pre g => c = .ret ∧ (scan (units (pcs s.data.toList))).head? = some g) (fun c pre g => [cells b1 [.string s] 9, cells b2 [.bool (isTk g s.size)] 4]) (fun pre x b j => [(1, .pointer (some ⟨b1, 0, none⟩)), (2, .pointer (some ⟨b2, 0, none⟩)), (3, .pointer (some ⟨j, 0, none⟩))]) (fun pre x b j => [cells b1 [.string s] 9, cells b2 [.bool false] 4, cells j [.int .i64 x.k, .int .i64 (x.f : Int), .int .i64 (x.t : Int)] 36]) () rfl (Splits.of [0, 1] (by as_aux_lemma => kernel_rfl) rfl) ⟨.inl ⟨2, rfl⟩, trivial⟩ (fun _ => rfl) (by decide) ?_ ?_ ?_ ?_
 ·
  rintro lp rc pre x post b w1 K1 hxs hext hro hinv
  refine TC.region ?_
  refine TO.alloc zr_36 rfl (by decide) (fun b3 => ?_)
  refine TO.stores (k := 2) (vs := [.int .i64 x.k, .int .i64 (x.f : Int), .int .i64 (x.t : Int)]) (l' := [.int .i64 x.k, .int .i64 (x.f : Int), .int .i64 (x.t : Int)]) sz_36 rfl rfl rfl rfl rfl (show _ ≤ _ by simp) rfl rfl ?_
  show TO _ _ _ _ _ _ _ _ _ _ [cells b1 [.string s] 9, cells b2 [.bool false] 4, cells b3 [.int .i64 x.k, .int .i64 (x.f : Int), .int .i64 (x.t : Int)] 36]
  refine TO.nil ?_
  exact fun a w ha hw => ⟨b3, (Sbs.cons rfl (Sbs.cons rfl (Sbs.cons rfl (Sbs.nil)))) _ _ _ ha, hw.weaken (Splits.of [0, 1, 2] (by as_aux_lemma => kernel_rfl) rfl)⟩
 ·
  rintro lp rc pre x post b j w1 K1 hxs hext hro hinv
  refine TC.block (TC.seq (TC.region (TO.fieldAddr fl_36_0 rfl (by decide) rfl (show _ = 0 from rfl) (TO.load (k := 2) sc_3 rfl (by decide) rfl rfl rfl (TO.bin rfl (by decide) rfl rfl bin_eql (TO.move rfl (by decide) rfl ?_))))))
  refine TO.split (s := 10) rfl (fun h1 => ?_) (fun h1 => ?_)
  ·
   -- yes
   have h1 := beq_iff_eq.1 h1
   refine TO.fieldAddr fl_36_1 rfl (by decide) rfl (show _ = 1 from rfl) (TO.fieldAddr fl_34_1 rfl (by decide) rfl (show _ = 2 from rfl) (TO.load (k := 2) sc_3 rfl (by decide) rfl rfl rfl (TO.load (k := 0) sc_9 rfl (by decide) rfl rfl rfl (TO.lenStr rfl (by decide) rfl Try.underlying9 (TO.bin rfl (by decide) rfl rfl bin_eql (TO.pick (b := true) rfl (by decide) rfl rfl ?_))))))
   refine TO.store (k := 1) (l' := [.bool (((x.t : Int) : Int) == (s.size : Int))]) sz_4 rfl rfl rfl rfl rfl (fun _ _ => rfl) rfl ?_
   refine TO.nil (TX.next (TC.ret (TX.blockRet ?_)))
   refine TX.rewE (k := 1) rfl (show cells b2 [.bool (((x.t : Int) : Int) == (s.size : Int))] 4 = cells b2 [.bool (isTk x s.size)] 4 from (congrArg (fun z : Bool => cells b2 [.bool z] 4) (by simp_all [isTk]))) ?_
   show TX _ _ _ _ _ _ _ [cells b1 [.string s] 9, cells b2 [.bool (isTk x s.size)] 4, cells j [.int .i64 x.k, .int .i64 (x.f : Int), .int .i64 (x.t : Int)] 36]
   exact TX.roundRet x ⟨rfl, by rw [hxs, hinv]; rfl⟩ (Splits.of [0, 1] (by as_aux_lemma => kernel_rfl) rfl)
  ·
   -- no
   have h1 := beq_eq_false_iff_ne.1 h1
   refine TO.skip rfl (by decide) (TO.skip rfl (by decide) (TO.skip rfl (by decide) (TO.skip rfl (by decide) (TO.skip rfl (by decide) (TO.skip rfl (by decide) (TO.pick (b := false) rfl (by decide) rfl rfl ?_))))))
   refine TO.store (k := 1) (l' := [.bool false]) sz_4 rfl rfl rfl rfl rfl (fun _ _ => rfl) rfl ?_
   refine TO.nil (TX.next (TC.ret (TX.blockRet ?_)))
   refine TX.rewE (k := 1) rfl (show cells b2 [.bool false] 4 = cells b2 [.bool (isTk x s.size)] 4 from (congrArg (fun z : Bool => cells b2 [.bool z] 4) (by simp_all [isTk]))) ?_
   show TX _ _ _ _ _ _ _ [cells b1 [.string s] 9, cells b2 [.bool (isTk x s.size)] 4, cells j [.int .i64 x.k, .int .i64 (x.f : Int), .int .i64 (x.t : Int)] 36]
   exact TX.roundRet x ⟨rfl, by rw [hxs, hinv]; rfl⟩ (Splits.of [0, 1] (by as_aux_lemma => kernel_rfl) rfl)
 ·
  rintro d b hinv
  show TX _ _ _ _ _ _ _ [emp, emp, cells bp [.string s] 9, cells b1 [.string s] 9, cells b2 [.bool false] 4, mark d]
  refine TX.blockNormal (TX.next (TC.seq (TC.region ?_)))
  refine TO.store (k := 4) (l' := [.bool false]) sz_4 rfl rfl rfl rfl rfl (fun _ _ => rfl) rfl ?_
  refine TO.nil (TX.next (TC.ret ?_))
  exact TX.finM (rs := [.cell 2 4]) [d] () (.inl rfl) (Splits.of [5] (by as_aux_lemma => kernel_rfl) rfl) Try.results19 (.cons (.cell sc_4 rfl (k := 4) rfl) .nil) (by unfold isWord; rw [hinv]; rfl) Splits.nil
 ·
  rintro d c pre x post g hxs hX
  show TC _ _ _ _ _ _ _ _ _ [emp, emp, cells bp [.string s] 9, cells b1 [.string s] 9, cells b2 [.bool (isTk g s.size)] 4, mark d]
  obtain ⟨rfl, hf⟩ := hX
  refine TC.ret (TX.blockRet (TX.thenRet ?_))
  exact TX.finM (rs := [.cell 2 4]) [d] () (.inl rfl) (Splits.of [5] (by as_aux_lemma => kernel_rfl) rfl) Try.results19 (.cons (.cell sc_4 rfl (k := 4) rfl) .nil) (by unfold isWord; rw [hf]; rfl) Splits.nil

set_option maxRecDepth 100000 in
set_option maxHeartbeats 4000000 in
theorem last_p (s : ByteArray) (hs : s.size ≤ 140737488351232) (n : Int) : FnP Try.prog 37 [.string s, .int .i64 n] (lastV (lastP ((wds (scan (units (pcs s.data.toList)))).takeWhile (fun p => decide ((p.2 : Int) ≤ n))))) := by
 refine FnP.intro Try.func37 rfl Try.ntmps37 (by simp) ?_
 intro w0 K
 refine TC.seq (TC.region ?_)
 refine TO.box rfl (by decide) rfl (fun b1 => ?_)
 refine TO.alloc zr_34 rfl (by decide) (fun b2 => ?_)
 refine TO.assign rfl (by decide) rfl (TO.nil (TX.next (TC.seq (TC.region ?_))))
 refine TO.alloc zr_34 rfl (by decide) (fun b3 => ?_)
 show TO _ _ _ _ _ _ _ _ _ _ [cells b1 [.int .i64 n] 3, cells b2 [.int .i64 0, .int .i64 0] 34, cells b3 [.int .i64 0, .int .i64 0] 34]
 refine TO.nil (TX.next (TC.seq (TC.seq (TC.region (TO.move rfl (by decide) rfl (TO.call (vs := [.string s]) rfl (by decide) rfl rfl rfl en_16 (words_fn s) Splits.nil ?_))))))
 rintro bp
 show TO _ _ _ _ _ _ _ _ _ _ [cells b1 [.int .i64 n] 3, cells b2 [.int .i64 0, .int .i64 0] 34, cells b3 [.int .i64 0, .int .i64 0] 34, cells bp [.string s] 9]
 refine TO.nil (TX.next (TC.block ?_))
 refine TC.range (α := Nat × Nat) (β := Unit) (γ := List (Nat × Nat)) (δ := Nat) (ps := [10]) Ro.nil rfl en_51 (words1_itr s (by omega) bp) (fun pre b => ∀ y ∈ pre, decide ((y.2 : Int) ≤ n) = true) (fun pre b => [cells b1 [.int .i64 n] 3, cells b3 [.int .i64 ((lastP pre).1 : Int), .int .i64 ((lastP pre).2 : Int)] 34]) (fun c pre g => c = .exit 0 ∧ (wds (scan (units (pcs s.data.toList)))).takeWhile (fun p => decide ((p.2 : Int) ≤ n)) = g) (fun c pre g => [cells b1 [.int .i64 n] 3, cells b3 [.int .i64 ((lastP g).1 : Int), .int .i64 ((lastP g).2 : Int)] 34]) (fun pre x b j => [(3, .pointer (some ⟨b1, 0, none⟩)), (4, .pointer (some ⟨b2, 0, none⟩)), (5, .bool false), (6, .pointer (some ⟨b3, 0, none⟩)), (7, .pointer (some ⟨j, 0, none⟩))]) (fun pre x b j => [cells b1 [.int .i64 n] 3, cells b3 [.int .i64 ((lastP pre).1 : Int), .int .i64 ((lastP pre).2 : Int)] 34, cells j [.int .i64 (x.1 : Int), .int .i64 (x.2 : Int)] 34]) () (by simp) (Splits.of [0, 2] (by as_aux_lemma => kernel_rfl) rfl) ⟨.inl ⟨3, rfl⟩, trivial⟩ (fun _ => rfl) (by decide) ?_ ?_ ?_ ?_
 ·
  rintro lp rc pre x post b w1 K1 hxs hext hro hinv
  refine TC.region ?_
  refine TO.alloc zr_34 rfl (by decide) (fun b4 => ?_)
  refine TO.stores (k := 2) (vs := [.int .i64 (x.1 : Int), .int .i64 (x.2 : Int)]) (l' := [.int .i64 (x.1 : Int), .int .i64 (x.2 : Int)]) sz_34 rfl rfl rfl rfl rfl (show _ ≤ _ by simp) rfl rfl ?_
  show TO _ _ _ _ _ _ _ _ _ _ [cells b1 [.int .i64 n] 3, cells b3 [.int .i64 ((lastP pre).1 : Int), .int .i64 ((lastP pre).2 : Int)] 34, cells b4 [.int .i64 (x.1 : Int), .int .i64 (x.2 : Int)] 34]
  refine TO.nil ?_
  exact fun a w ha hw => ⟨b4, (Sbs.cons rfl (Sbs.cons rfl (Sbs.cons rfl (Sbs.cons rfl (Sbs.cons rfl (Sbs.nil)))))) _ _ _ ha, hw.weaken (Splits.of [0, 1, 2] (by as_aux_lemma => kernel_rfl) rfl)⟩
 ·
  rintro lp rc pre x post b j w1 K1 hxs hext hro hinv
  refine TC.block (TC.seq (TC.seq (TC.region (TO.fieldAddr fl_34_1 rfl (by decide) rfl (show _ = 1 from rfl) (TO.load (k := 2) sc_3 rfl (by decide) rfl rfl rfl (TO.load (k := 0) sc_3 rfl (by decide) rfl rfl rfl (TO.bin rfl (by decide) rfl rfl bin_gtr (TO.nil (TX.next ?_)))))))))
  refine TC.condB rfl (fun h1 => ?_) (fun h1 => ?_)
  ·
   -- yes
   have h1 := of_decide_eq_true h1
   refine TC.exit (TX.thenExit (TX.blockOn (by decide) ?_))
   exact TX.roundExit pre ⟨rfl, by rw [hxs]; exact tw_at _ _ x post hinv (by simp; omega)⟩ (Splits.of [0, 1] (by as_aux_lemma => kernel_rfl) rfl)
  ·
   -- no
   have h1 := of_decide_eq_false h1
   refine TC.skip (TX.next (TC.region (TO.loads (k := 2) (cs := [.int .i64 (x.1 : Int), .int .i64 (x.2 : Int)]) rw_34 rfl (by decide) rfl rfl rfl rfl (TO.stores (k := 1) (vs := [.int .i64 (x.1 : Int), .int .i64 (x.2 : Int)]) (l' := [.int .i64 (x.1 : Int), .int .i64 (x.2 : Int)]) sz_34 rfl rfl rfl rfl rfl (show _ ≤ _ by simp) rfl rfl (TO.nil (TX.blockNormal (TX.rewE (k := 1) rfl (show cells b3 [.int .i64 (x.1 : Int), .int .i64 (x.2 : Int)] 34 = cells b3 [.int .i64 ((lastP (pre ++ [x])).1 : Int), .int .i64 ((lastP (pre ++ [x])).2 : Int)] 34 from (by rw [lastP_snoc])) ?_)))))))
   show TX _ _ _ _ _ _ _ [cells b1 [.int .i64 n] 3, cells b3 [.int .i64 ((lastP (pre ++ [x])).1 : Int), .int .i64 ((lastP (pre ++ [x])).2 : Int)] 34, cells j [.int .i64 (x.1 : Int), .int .i64 (x.2 : Int)] 34]
   exact TX.round () (by intro y hy; rcases List.mem_append.1 hy with h | h; exact hinv y h; simp only [List.mem_singleton] at h; subst h; simp; omega) (Splits.of [0, 1] (by as_aux_lemma => kernel_rfl) rfl)
 ·
  rintro d b hinv
  show TX _ _ _ _ _ _ _ [emp, cells b2 [.int .i64 0, .int .i64 0] 34, emp, cells bp [.string s] 9, cells b1 [.int .i64 n] 3, cells b3 [.int .i64 ((lastP (wds (scan (units (pcs s.data.toList))))).1 : Int), .int .i64 ((lastP (wds (scan (units (pcs s.data.toList))))).2 : Int)] 34, mark d]
  have hf : (wds (scan (units (pcs s.data.toList)))).takeWhile (fun p => decide ((p.2 : Int) ≤ n)) = wds (scan (units (pcs s.data.toList))) := tw_all _ _ hinv
  refine TX.blockNormal (TX.next (TC.seq ?_))
  refine TC.drawB (β := Unit) 5 4 _ [(0, 16, .agg #[.int .i64 ((lastP (wds (scan (units (pcs s.data.toList))))).1 : Int), .int .i64 ((lastP (wds (scan (units (pcs s.data.toList))))).2 : Int)]), (1, 17, .pointer (some ⟨b3, 1, none⟩)), (2, 18, .int .i64 ((lastP (wds (scan (units (pcs s.data.toList))))).2 : Int)), (3, 19, .bool (decide ((0 : Int) < ((lastP (wds (scan (units (pcs s.data.toList))))).2 : Int))))] (fun _b => []) (fun _b => [emp, cells b2 [.int .i64 ((lastP (wds (scan (units (pcs s.data.toList))))).1 : Int), .int .i64 ((lastP (wds (scan (units (pcs s.data.toList))))).2 : Int)] 34, emp, cells bp [.string s] 9, cells b1 [.int .i64 n] 3, cells b3 [.int .i64 ((lastP (wds (scan (units (pcs s.data.toList))))).1 : Int), .int .i64 ((lastP (wds (scan (units (pcs s.data.toList))))).2 : Int)] 34, mark d]) mixed (by as_aux_lemma => kernel_rfl) (by as_aux_lemma => kernel_rfl) rfl (by decide) (by decide) (by rfl) (by as_aux_lemma => kernel_rfl) (by as_aux_lemma => kernel_rfl) (DrawPreX.cons ?_ (DrawPreX.cons ?_ (DrawPreX.cons ?_ (DrawPreX.cons ?_ (DrawPreX.here DrawPreX.nil))))) (fun _b => (DrawPreX.cons ?_ (DrawPreX.cons ?_ (DrawPreX.cons ?_ (DrawPreX.cons ?_ (DrawPreX.here DrawPreX.nil)))))) ?_ ?_
  ·
   intro D hn hd hcl hu hi
   refine TO.loads (k := 5) (cs := [.int .i64 ((lastP (wds (scan (units (pcs s.data.toList))))).1 : Int), .int .i64 ((lastP (wds (scan (units (pcs s.data.toList))))).2 : Int)]) rw_34 rfl (by decide) (dl_old (by rfl) rfl) rfl rfl rfl ?_
   exact TX.quiet 0 hu hi rfl
  ·
   intro D hn hd hcl hu hi
   refine TO.fieldAddr fl_34_1 rfl (by decide) (dl_old (by rfl) rfl) (show _ = 1 from rfl) ?_
   exact TX.quiet 1 hu hi rfl
  ·
   intro D hn hd hcl hu hi
   refine TO.load (k := 5) sc_3 rfl (by decide) (dl_lookup (m := 1) hu rfl (hd 1 (by decide))) rfl rfl ?_
   exact TX.quiet 2 hu hi rfl
  ·
   intro D hn hd hcl hu hi
   refine TO.bin rfl (by decide) (dl_lookup (m := 2) hu rfl (hd 2 (by decide))) rfl bin_gtr ?_
   exact TX.quiet 3 hu hi rfl
  ·
   intro D hn hd hcl hu hi
   refine TO.loads (k := 5) (cs := [.int .i64 ((lastP (wds (scan (units (pcs s.data.toList))))).1 : Int), .int .i64 ((lastP (wds (scan (units (pcs s.data.toList))))).2 : Int)]) rw_34 rfl (by decide) (dl_old (by rfl) rfl) rfl rfl rfl ?_
   exact TX.quiet 0 hu hi rfl
  ·
   intro D hn hd hcl hu hi
   refine TO.fieldAddr fl_34_1 rfl (by decide) (dl_old (by rfl) rfl) (show _ = 1 from rfl) ?_
   exact TX.quiet 1 hu hi rfl
  ·
   intro D hn hd hcl hu hi
   refine TO.load (k := 5) sc_3 rfl (by decide) (dl_lookup (m := 1) hu rfl (hd 1 (by decide))) rfl rfl ?_
   exact TX.quiet 2 hu hi rfl
  ·
   intro D hn hd hcl hu hi
   refine TO.bin rfl (by decide) (dl_lookup (m := 2) hu rfl (hd 2 (by decide))) rfl bin_gtr ?_
   exact TX.quiet 3 hu hi rfl
  ·
   intro D hn hd hcl
   refine TO.stores (k := 1) (vs := [.int .i64 ((lastP (wds (scan (units (pcs s.data.toList))))).1 : Int), .int .i64 ((lastP (wds (scan (units (pcs s.data.toList))))).2 : Int)]) (l' := [.int .i64 ((lastP (wds (scan (units (pcs s.data.toList))))).1 : Int), .int .i64 ((lastP (wds (scan (units (pcs s.data.toList))))).2 : Int)]) sz_34 rfl (dl_old (by rfl) rfl) (dl_lookup (m := 0) (by as_aux_lemma => kernel_rfl) rfl (hd 0 (by decide))) rfl rfl (show _ ≤ _ by simp) rfl rfl ?_
   exact fun a w ha hw => ⟨(), ha, hw⟩
  intro _b
  show TO _ _ _ _ _ _ _ _ _ _ [emp, cells b2 [.int .i64 ((lastP (wds (scan (units (pcs s.data.toList))))).1 : Int), .int .i64 ((lastP (wds (scan (units (pcs s.data.toList))))).2 : Int)] 34, emp, cells bp [.string s] 9, cells b1 [.int .i64 n] 3, cells b3 [.int .i64 ((lastP (wds (scan (units (pcs s.data.toList))))).1 : Int), .int .i64 ((lastP (wds (scan (units (pcs s.data.toList))))).2 : Int)] 34, mark d]
  refine TO.assign rfl (by decide) rfl (TO.nil (TX.next (TC.ret ?_)))
  exact TX.finM (rs := [.cell 4 34, .tmp 5]) [d] () (.inl rfl) (Splits.of [6] (by as_aux_lemma => kernel_rfl) rfl) Try.results37 (.cons (.cells rw_34 rfl (k := 1) rfl rfl) (.cons (.tmp rfl) .nil)) (by rw [hf]; rfl) Splits.nil
 ·
  rintro d c pre x post g hxs hX
  show TC _ _ _ _ _ _ _ _ _ [emp, cells b2 [.int .i64 0, .int .i64 0] 34, emp, cells bp [.string s] 9, cells b1 [.int .i64 n] 3, cells b3 [.int .i64 ((lastP g).1 : Int), .int .i64 ((lastP g).2 : Int)] 34, mark d]
  obtain ⟨rfl, hf⟩ := hX
  refine TC.exit (TX.blockHere (TX.next (TC.seq ?_)))
  refine TC.drawB (β := Unit) 5 4 _ [(0, 16, .agg #[.int .i64 ((lastP g).1 : Int), .int .i64 ((lastP g).2 : Int)]), (1, 17, .pointer (some ⟨b3, 1, none⟩)), (2, 18, .int .i64 ((lastP g).2 : Int)), (3, 19, .bool (decide ((0 : Int) < ((lastP g).2 : Int))))] (fun _b => []) (fun _b => [emp, cells b2 [.int .i64 ((lastP g).1 : Int), .int .i64 ((lastP g).2 : Int)] 34, emp, cells bp [.string s] 9, cells b1 [.int .i64 n] 3, cells b3 [.int .i64 ((lastP g).1 : Int), .int .i64 ((lastP g).2 : Int)] 34, mark d]) mixed (by as_aux_lemma => kernel_rfl) (by as_aux_lemma => kernel_rfl) rfl (by decide) (by decide) (by rfl) (by as_aux_lemma => kernel_rfl) (by as_aux_lemma => kernel_rfl) (DrawPreX.cons ?_ (DrawPreX.cons ?_ (DrawPreX.cons ?_ (DrawPreX.cons ?_ (DrawPreX.here DrawPreX.nil))))) (fun _b => (DrawPreX.cons ?_ (DrawPreX.cons ?_ (DrawPreX.cons ?_ (DrawPreX.cons ?_ (DrawPreX.here DrawPreX.nil)))))) ?_ ?_
  ·
   intro D hn hd hcl hu hi
   refine TO.loads (k := 5) (cs := [.int .i64 ((lastP g).1 : Int), .int .i64 ((lastP g).2 : Int)]) rw_34 rfl (by decide) (dl_old (by rfl) rfl) rfl rfl rfl ?_
   exact TX.quiet 0 hu hi rfl
  ·
   intro D hn hd hcl hu hi
   refine TO.fieldAddr fl_34_1 rfl (by decide) (dl_old (by rfl) rfl) (show _ = 1 from rfl) ?_
   exact TX.quiet 1 hu hi rfl
  ·
   intro D hn hd hcl hu hi
   refine TO.load (k := 5) sc_3 rfl (by decide) (dl_lookup (m := 1) hu rfl (hd 1 (by decide))) rfl rfl ?_
   exact TX.quiet 2 hu hi rfl
  ·
   intro D hn hd hcl hu hi
   refine TO.bin rfl (by decide) (dl_lookup (m := 2) hu rfl (hd 2 (by decide))) rfl bin_gtr ?_
   exact TX.quiet 3 hu hi rfl
  ·
   intro D hn hd hcl hu hi
   refine TO.loads (k := 5) (cs := [.int .i64 ((lastP g).1 : Int), .int .i64 ((lastP g).2 : Int)]) rw_34 rfl (by decide) (dl_old (by rfl) rfl) rfl rfl rfl ?_
   exact TX.quiet 0 hu hi rfl
  ·
   intro D hn hd hcl hu hi
   refine TO.fieldAddr fl_34_1 rfl (by decide) (dl_old (by rfl) rfl) (show _ = 1 from rfl) ?_
   exact TX.quiet 1 hu hi rfl
  ·
   intro D hn hd hcl hu hi
   refine TO.load (k := 5) sc_3 rfl (by decide) (dl_lookup (m := 1) hu rfl (hd 1 (by decide))) rfl rfl ?_
   exact TX.quiet 2 hu hi rfl
  ·
   intro D hn hd hcl hu hi
   refine TO.bin rfl (by decide) (dl_lookup (m := 2) hu rfl (hd 2 (by decide))) rfl bin_gtr ?_
   exact TX.quiet 3 hu hi rfl
  ·
   intro D hn hd hcl
   refine TO.stores (k := 1) (vs := [.int .i64 ((lastP g).1 : Int), .int .i64 ((lastP g).2 : Int)]) (l' := [.int .i64 ((lastP g).1 : Int), .int .i64 ((lastP g).2 : Int)]) sz_34 rfl (dl_old (by rfl) rfl) (dl_lookup (m := 0) (by as_aux_lemma => kernel_rfl) rfl (hd 0 (by decide))) rfl rfl (show _ ≤ _ by simp) rfl rfl ?_
   exact fun a w ha hw => ⟨(), ha, hw⟩
  intro _b
  show TO _ _ _ _ _ _ _ _ _ _ [emp, cells b2 [.int .i64 ((lastP g).1 : Int), .int .i64 ((lastP g).2 : Int)] 34, emp, cells bp [.string s] 9, cells b1 [.int .i64 n] 3, cells b3 [.int .i64 ((lastP g).1 : Int), .int .i64 ((lastP g).2 : Int)] 34, mark d]
  refine TO.assign rfl (by decide) rfl (TO.nil (TX.next (TC.ret ?_)))
  exact TX.finM (rs := [.cell 4 34, .tmp 5]) [d] () (.inl rfl) (Splits.of [6] (by as_aux_lemma => kernel_rfl) rfl) Try.results37 (.cons (.cells rw_34 rfl (k := 1) rfl rfl) (.cons (.tmp rfl) .nil)) (by rw [hf]; rfl) Splits.nil
end Go.Proofs.Ytgeefojgkbglnaa
namespace Go.Proofs.Ytgeefojgkbglnaa
open Go.RowKit Go.Lib
set_option linter.unusedVariables false
set_option linter.unusedSimpArgs false
def nthC (n : Int) : Nat → Int
  | 0 => n
  | k + 1 => IntKind.i64.wrap (nthC n k - 1)
def nthW (l : List (Nat × Nat)) (n : Int) : Option (Nat × Nat) := if 0 ≤ n then l[n.toNat]? else none
theorem nthC_at (n : Int) (hn : -9223372036854775808 ≤ n ∧ n ≤ 9223372036854775807) : ∀ k : Nat, k ≤ 4611686018427387904 →
    (nthC n k = n - k ∧ -9223372036854775808 ≤ n - k) ∨ (nthC n k = n - k + 18446744073709551616 ∧ n - k < -9223372036854775808)
  | 0, _ => .inl ⟨by simp [nthC], by omega⟩
  | k + 1, hk => by
    have hw : IntKind.i64.wrap (-9223372036854775808 - 1) = 9223372036854775807 := by decide
    rcases nthC_at n hn k (by omega) with ⟨h1, h2⟩ | ⟨h1, h2⟩
    · by_cases h3 : n - k = -9223372036854775808
      · right
        refine ⟨?_, by omega⟩
        show IntKind.i64.wrap (nthC n k - 1) = _
        rw [h1, h3, hw]; omega
      · left
        refine ⟨?_, by omega⟩
        show IntKind.i64.wrap (nthC n k - 1) = _
        rw [h1, IntWalk.i64_in _ (by omega)]; omega
    · right
      refine ⟨?_, by omega⟩
      show IntKind.i64.wrap (nthC n k - 1) = _
      rw [h1, IntWalk.i64_in _ (by omega)]; omega
theorem wds_len (s : ByteArray) : (wds (scan (units (pcs s.data.toList)))).length ≤ 2 * s.size + 2 := Nat.le_trans (List.length_filterMap_le _ _) (scan_len s)
theorem nthW_hit (pre post : List (Nat × Nat)) (x : Nat × Nat) (n : Int) (hn : -9223372036854775808 ≤ n ∧ n ≤ 9223372036854775807) (hl : pre.length ≤ 4611686018427387904)
    (hi : ∀ i, i < pre.length → nthC n i ≠ 0) (h : nthC n pre.length = 0) : nthW (pre ++ x :: post) n = some x := by
  have h1 := nthC_at n hn pre.length hl
  have h2 : n = pre.length := by omega
  unfold nthW
  rw [if_pos (by omega), h2]
  simp
theorem nthW_none (l : List (Nat × Nat)) (n : Int) (hn : -9223372036854775808 ≤ n ∧ n ≤ 9223372036854775807) (hl : l.length ≤ 4611686018427387904)
    (hi : ∀ i, i < l.length → nthC n i ≠ 0) : nthW l n = none := by
  unfold nthW
  split
  · rename_i h0
    refine List.getElem?_eq_none ?_
    rcases Nat.lt_or_ge n.toNat l.length with h | h
    · exfalso
      have h1 := nthC_at n hn n.toNat (by omega)
      exact hi _ h (by omega)
    · exact h
  · rfl
set_option maxRecDepth 100000 in
set_option maxHeartbeats 4000000 in
theorem nth_p (s : ByteArray) (hs : s.size ≤ 140737488351232) (n : Int) (hn : -9223372036854775808 ≤ n ∧ n ≤ 9223372036854775807) : FnP Try.prog 28 [.string s, .int .i64 n] (nextV (nthW (wds (scan (units (pcs s.data.toList)))) n)) := by
 refine FnP.intro Try.func28 rfl Try.ntmps28 (by simp) ?_
 intro w0 K
 refine TC.seq (TC.region ?_)
 refine TO.box rfl (by decide) rfl (fun b1 => ?_)
 refine TO.alloc zr_34 rfl (by decide) (fun b2 => ?_)
 refine TO.alloc zr_4 rfl (by decide) (fun b3 => ?_)
 show TO _ _ _ _ _ _ _ _ _ _ [cells b1 [.int .i64 n] 3, cells b2 [.int .i64 0, .int .i64 0] 34, cells b3 [.bool false] 4]
 refine TO.nil (TX.next (TC.seq (TC.seq (TC.region (TO.move rfl (by decide) rfl (TO.call (vs := [.string s]) rfl (by decide) rfl rfl rfl en_16 (words_fn s) Splits.nil ?_))))))
 rintro bp
 show TO _ _ _ _ _ _ _ _ _ _ [cells b1 [.int .i64 n] 3, cells b2 [.int .i64 0, .int .i64 0] 34, cells b3 [.bool false] 4, cells bp [.string s] 9]
 refine TO.nil (TX.next (TC.block ?_))
 refine TC.range (α := Nat × Nat) (β := Unit) (γ := Nat × Nat) (δ := Nat) (ps := [9]) Ro.nil rfl en_51 (words1_itr s (by omega) bp) (fun pre b => ∀ i, i < pre.length → nthC n i ≠ 0) (fun pre b => [cells b1 [.int .i64 (nthC n pre.length)] 3, cells b2 [.int .i64 0, .int .i64 0] 34, cells b3 [.bool false] 4]) (fun c pre g => c = .ret ∧ nthW (wds (scan (units (pcs s.data.toList)))) n = some g) (fun c pre g => [cells b2 [.int .i64 (g.1 : Int), .int .i64 (g.2 : Int)] 34, cells b3 [.bool true] 4]) (fun pre x b j => [(3, .pointer (some ⟨b1, 0, none⟩)), (4, .pointer (some ⟨b2, 0, none⟩)), (5, .pointer (some ⟨b3, 0, none⟩)), (6, .pointer (some ⟨j, 0, none⟩))]) (fun pre x b j => [cells b1 [.int .i64 (nthC n pre.length)] 3, cells b2 [.int .i64 0, .int .i64 0] 34, cells b3 [.bool false] 4, cells j [.int .i64 (x.1 : Int), .int .i64 (x.2 : Int)] 34]) () (by simp) (Splits.of [0, 1, 2] (by as_aux_lemma => kernel_rfl) rfl) ⟨.inl ⟨3, rfl⟩, trivial⟩ (fun _ => rfl) (by decide) ?_ ?_ ?_ ?_
 ·
  rintro lp rc pre x post b w1 K1 hxs hext hro hinv
  refine TC.region ?_
  refine TO.alloc zr_34 rfl (by decide) (fun b4 => ?_)
  refine TO.stores (k := 3) (vs := [.int .i64 (x.1 : Int), .int .i64 (x.2 : Int)]) (l' := [.int .i64 (x.1 : Int), .int .i64 (x.2 : Int)]) sz_34 rfl rfl rfl rfl rfl (show _ ≤ _ by simp) rfl rfl ?_
  show TO _ _ _ _ _ _ _ _ _ _ [cells b1 [.int .i64 (nthC n pre.length)] 3, cells b2 [.int .i64 0, .int .i64 0] 34, cells b3 [.bool false] 4, cells b4 [.int .i64 (x.1 : Int), .int .i64 (x.2 : Int)] 34]
  refine TO.nil ?_
  exact fun a w ha hw => ⟨b4, (Sbs.cons rfl (Sbs.cons rfl (Sbs.cons rfl (Sbs.cons rfl (Sbs.nil))))) _ _ _ ha, hw.weaken (Splits.of [0, 1, 2, 3] (by as_aux_lemma => kernel_rfl) rfl)⟩
 ·
  rintro lp rc pre x post b j w1 K1 hxs hext hro hinv
  have hlen : pre.length < (wds (scan (units (pcs s.data.toList)))).length := by rw [hxs]; simp
  have hmx := wds_len s
  refine TC.block (TC.seq (TC.seq (TC.region (TO.load (k := 0) sc_3 rfl (by decide) rfl rfl rfl (TO.bin rfl (by decide) rfl rfl bin_eql (TO.nil (TX.next ?_)))))))
  refine TC.condB rfl (fun h1 => ?_) (fun h1 => ?_)
  ·
   -- yes
   have h1 := beq_iff_eq.1 h1
   refine TC.seq (TC.region (TO.loads (k := 3) (cs := [.int .i64 (x.1 : Int), .int .i64 (x.2 : Int)]) rw_34 rfl (by decide) rfl rfl rfl rfl (TO.stores (k := 1) (vs := [.int .i64 (x.1 : Int), .int .i64 (x.2 : Int)]) (l' := [.int .i64 (x.1 : Int), .int .i64 (x.2 : Int)]) sz_34 rfl rfl rfl rfl rfl (show _ ≤ _ by simp) rfl rfl ?_)))
   refine TO.store (k := 2) (l' := [.bool true]) sz_4 rfl rfl rfl rfl rfl (fun _ _ => rfl) rfl ?_
   show TO _ _ _ _ _ _ _ _ _ _ [cells b1 [.int .i64 (nthC n pre.length)] 3, cells b2 [.int .i64 (x.1 : Int), .int .i64 (x.2 : Int)] 34, cells b3 [.bool true] 4, cells j [.int .i64 (x.1 : Int), .int .i64 (x.2 : Int)] 34]
   refine TO.nil (TX.next (TC.ret (TX.thenRet (TX.blockRet ?_))))
   exact TX.roundRet x ⟨rfl, by rw [hxs]; exact nthW_hit _ _ _ n hn (by omega) hinv (by assumption)⟩ (Splits.of [1, 2] (by as_aux_lemma => kernel_rfl) rfl)
  ·
   -- no
   have h1 := beq_eq_false_iff_ne.1 h1
   refine TC.skip (TX.next (TC.region (TO.load (k := 0) sc_3 rfl (by decide) rfl rfl rfl (TO.bin rfl (by decide) rfl rfl (bin_sub (r := IntKind.i64.wrap (nthC n pre.length - 1)) rfl) ?_))))
   refine TO.store (k := 0) (l' := [.int .i64 (IntKind.i64.wrap (nthC n pre.length - 1))]) sz_3 rfl rfl rfl rfl rfl (fun _ _ => rfl) rfl ?_
   refine TO.nil (TX.blockNormal ?_)
   refine TX.rewE (k := 0) rfl (show cells b1 [.int .i64 (IntKind.i64.wrap (nthC n pre.length - 1))] 3 = cells b1 [.int .i64 (nthC n (pre ++ [x]).length)] 3 from (congrArg (fun z : Int => cells b1 [.int .i64 z] 3) (by rw [List.length_append]; rfl))) ?_
   show TX _ _ _ _ _ _ _ [cells b1 [.int .i64 (nthC n (pre ++ [x]).length)] 3, cells b2 [.int .i64 0, .int .i64 0] 34, cells b3 [.bool false] 4, cells j [.int .i64 (x.1 : Int), .int .i64 (x.2 : Int)] 34]
   exact TX.round () (by intro i hi; rw [List.length_append] at hi; simp only [List.length_singleton] at hi; rcases Nat.lt_or_ge i pre.length with h | h; exact hinv i h; have h5 : i = pre.length := (by omega); rw [h5]; assumption) (Splits.of [0, 1, 2] (by as_aux_lemma => kernel_rfl) rfl)
 ·
  rintro d b hinv
  show TX _ _ _ _ _ _ _ [emp, emp, emp, cells bp [.string s] 9, cells b1 [.int .i64 (nthC n (wds (scan (units (pcs s.data.toList)))).length)] 3, cells b2 [.int .i64 0, .int .i64 0] 34, cells b3 [.bool false] 4, mark d]
  have hf : nthW (wds (scan (units (pcs s.data.toList)))) n = none := nthW_none _ n hn (by have := wds_len s; omega) hinv
  refine TX.blockNormal (TX.next (TC.seq (TC.region ?_)))
  refine TO.build (v := .agg #[.int .i64 0, .int .i64 0]) (ps := []) rfl (by decide) rfl (fun _ => by kernel_rfl) ?_
  refine TO.stores (k := 5) (vs := [.int .i64 0, .int .i64 0]) (l' := [.int .i64 0, .int .i64 0]) sz_34 rfl rfl rfl rfl rfl (show _ ≤ _ by simp) rfl rfl ?_
  refine TO.store (k := 6) (l' := [.bool false]) sz_4 rfl rfl rfl rfl rfl (fun _ _ => rfl) rfl ?_
  show TO _ _ _ _ _ _ _ _ _ _ [emp, emp, emp, cells bp [.string s] 9, cells b1 [.int .i64 (nthC n (wds (scan (units (pcs s.data.toList)))).length)] 3, cells b2 [.int .i64 0, .int .i64 0] 34, cells b3 [.bool false] 4, mark d]
  refine TO.nil (TX.next (TC.ret ?_))
  exact TX.finM (rs := [.cell 4 34, .cell 5 4]) [d] () (.inl rfl) (Splits.of [7] (by as_aux_lemma => kernel_rfl) rfl) Try.results28 (.cons (.cells rw_34 rfl (k := 5) rfl rfl) (.cons (.cell sc_4 rfl (k := 6) rfl) .nil)) (by rw [hf]; rfl) Splits.nil
 ·
  rintro d c pre x post g hxs hX
  show TC _ _ _ _ _ _ _ _ _ [emp, emp, emp, cells bp [.string s] 9, cells b2 [.int .i64 (g.1 : Int), .int .i64 (g.2 : Int)] 34, cells b3 [.bool true] 4, mark d]
  obtain ⟨rfl, hf⟩ := hX
  refine TC.ret (TX.blockRet (TX.thenRet ?_))
  exact TX.finM (rs := [.cell 4 34, .cell 5 4]) [d] () (.inl rfl) (Splits.of [6] (by as_aux_lemma => kernel_rfl) rfl) Try.results28 (.cons (.cells rw_34 rfl (k := 4) rfl rfl) (.cons (.cell sc_4 rfl (k := 5) rfl) .nil)) (by rw [hf]; rfl) Splits.nil
end Go.Proofs.Ytgeefojgkbglnaa
namespace Go.Proofs.Ytgeefojgkbglnaa
open Go.RowKit Go.Lib
set_option linter.unusedVariables false
set_option linter.unusedSimpArgs false
/-- From a to b without a gap; none is empty. -/
def Ch {α : Type} (f t : α → Nat) : Nat → List α → Nat → Prop
  | a, [], b => a = b
  | a, u :: us, b => f u = a ∧ f u < t u ∧ Ch f t (t u) us b
theorem Ch.app {α : Type} {f t : α → Nat} : ∀ {l : List α} {a b c : Nat} {m : List α}, Ch f t a l b → Ch f t b m c → Ch f t a (l ++ m) c
  | [], a, b, c, m, h, h2 => by cases h; exact h2
  | u :: l, a, b, c, m, h, h2 => ⟨h.1, h.2.1, Ch.app h.2.2 h2⟩
theorem Ch.one {α : Type} {f t : α → Nat} {u : α} (h : f u < t u) : Ch f t (f u) [u] (t u) := ⟨rfl, h, rfl⟩
theorem Ch.le {α : Type} {f t : α → Nat} : ∀ {l : List α} {a b : Nat}, Ch f t a l b → a ≤ b
  | [], a, b, h => Nat.le_of_eq h
  | u :: l, a, b, h => by have h1 := Ch.le h.2.2; have h2 := h.1; have h3 := h.2.1; omega
theorem Ch.mem {α : Type} {f t : α → Nat} : ∀ {l : List α} {a b : Nat}, Ch f t a l b → ∀ u ∈ l, a ≤ f u ∧ f u < t u ∧ t u ≤ b
  | [], a, b, h, u, hu => by cases hu
  | v :: l, a, b, h, u, hu => by
    have h1 := Ch.le h.2.2
    have h2 := h.1
    have h3 := h.2.1
    rcases List.mem_cons.1 hu with rfl | hu
    · omega
    · have h4 := Ch.mem h.2.2 u hu
      omega
theorem pcs_first (l : List UInt8) (p : Pc) (B : List Pc) (h : pcs l = p :: B) : p.i = 0 := by
  by_cases hl : l = []
  · subst hl; simp [pcs, pcsFrom_nil] at h
  · have h1 := pcsFrom_cons 0 l hl
    have h2 : pcs l = pcsFrom 0 l := rfl
    rw [← h2, h] at h1
    rw [(List.cons.inj h1).1]
theorem pcs_empty (l : List UInt8) (h : pcs l = []) : l = [] := by
  by_cases hl : l = []
  · exact hl
  · have h1 := pcsFrom_cons 0 l hl
    have h2 : pcs l = pcsFrom 0 l := rfl
    rw [← h2, h] at h1
    cases h1
theorem ufold_ch (l : List UInt8) : ∀ (k : Nat) (L B : List Pc), L.length ≤ k → pcs l = L ++ B → ∀ E n, ufold L = (E, some n) → Ch Un.f Un.t 0 E n.f := by
  intro k
  induction k with
  | zero =>
    intro L B hk hl E n h
    have h0 : L = [] := List.length_eq_zero_iff.1 (by omega)
    subst h0; cases h
  | succ k ih =>
    intro L B hk hl E n h
    rcases List.eq_nil_or_concat L with rfl | ⟨D, p, rfl⟩
    · cases h
    · rw [List.concat_eq_append] at *
      rw [ufold_snoc] at h
      have hl2 : pcs l = D ++ (p :: B) := by rw [hl]; simp
      have hkD : D.length ≤ k := by simp at hk; omega
      rcases hD : ufold D with ⟨E0, o⟩
      rw [hD] at h
      rcases o with _ | m
      · obtain ⟨h1, h2⟩ := units_nil D E0 hD
        subst h1; subst h2
        simp only [ustep] at h
        cases h
        have h3 := pcs_first l p B (by simpa using hl2)
        exact h3.symm
      · have hm := ih D (p :: B) hkD hl2 E0 m hD
        have hw := ufold_end l D.length D (p :: B) (Nat.le_refl _) hl2 E0 m hD
        have hp : p.i = m.t := hw.2.2.1 p rfl
        simp only [ustep] at h
        split at h
        · cases h; exact hm
        · cases h
          have h5 := Ch.app hm (Ch.one (f := Un.f) (t := Un.t) hw.1)
          show Ch _ _ _ _ p.i
          rw [hp]; exact h5
theorem units_ch (l : List UInt8) : Ch Un.f Un.t 0 (units (pcs l)) l.length := by
  rcases hD : ufold (pcs l) with ⟨E, o⟩
  rcases o with _ | n
  · obtain ⟨h1, h2⟩ := units_nil _ E hD
    have h3 : l = [] := pcs_empty l h1
    subst h3
    rw [h1]; rfl
  · rw [units_last _ E n hD]
    have h1 := ufold_ch l _ (pcs l) [] (Nat.le_refl _) (by simp) E n hD
    have h2 := ufold_end l _ (pcs l) [] (Nat.le_refl _) (by simp) E n hD
    have h3 := Ch.app h1 (Ch.one (f := Un.f) (t := Un.t) h2.1)
    rw [h2.2.2.2 rfl] at h3
    exact h3
def ScI (a : Nat) (S : List Tk × Sc) (c : Nat) : Prop :=
  (S.2.st = 0 ∧ S.1 = [] ∧ c = a) ∨ (S.2.st ≠ 0 ∧ Ch Tk.f Tk.t a S.1 S.2.tk.f ∧ S.2.tk.f < S.2.tk.t ∧
    (((S.2.st = 2 ∨ S.2.st = 4) ∧ S.2.h.f = S.2.tk.t ∧ S.2.h.f < S.2.h.t ∧ S.2.h.t = c) ∨ (¬ (S.2.st = 2 ∨ S.2.st = 4) ∧ S.2.tk.t = c)))
theorem fits_two {st : Int} {u : Un} (h : (fits st u).2 = 2) : (st = 1 ∧ (fits st u).1 = 2) ∨ (st = 3 ∧ (fits st u).1 = 4) := by
  revert h; unfold fits
  repeat' split
  all_goals simp_all
theorem fits_one {st : Int} {u : Un} (h : (fits st u).2 = 1) : st ≠ 0 ∧ (fits st u).1 ≠ 0 ∧ (fits st u).1 ≠ 2 ∧ (fits st u).1 ≠ 4 := by
  revert h; unfold fits
  repeat' split
  all_goals simp_all
  all_goals omega
theorem begins_st (u : Un) : (begins u).1 ≠ 0 ∧ (begins u).1 ≠ 2 ∧ (begins u).1 ≠ 4 := by
  unfold begins
  repeat' split
  all_goals simp_all
theorem ended_ch {a c : Nat} {S : List Tk × Sc} (h : ScI a S c) : Ch Tk.f Tk.t a (S.1 ++ ended S.2) c := by
  rcases h with ⟨h1, h2, h3⟩ | ⟨h1, h2, h3, h4⟩
  · rw [h2, h3]; unfold ended; rw [if_pos h1]; rfl
  · unfold ended
    rw [if_neg h1]
    rcases h4 with ⟨h5, h6, h7, h8⟩ | ⟨h5, h6⟩
    · rw [if_pos h5]
      exact h2.app ⟨rfl, h3, h6, h7, h8⟩
    · rw [if_neg h5]
      exact h2.app ⟨rfl, h3, h6⟩
theorem mstep_ch {a c : Nat} {S : List Tk × Sc} {u : Un} (h : ScI a S c) (hf : u.f = c) (hl : u.f < u.t) : ScI a (mstep S u) u.t := by
  by_cases h2 : (fits S.2.st u).2 = 2
  · have h3 := fits_two h2
    unfold mstep; rw [if_pos h2]
    rcases h with ⟨h4, _⟩ | ⟨h4, h5, h6, h7⟩
    · omega
    · right
      refine ⟨by show (fits S.2.st u).1 ≠ 0; omega, h5, h6, .inl ⟨by show (fits S.2.st u).1 = 2 ∨ (fits S.2.st u).1 = 4; omega, ?_, hl, rfl⟩⟩
      show u.f = S.2.tk.t
      rcases h7 with ⟨h8, _⟩ | ⟨_, h8⟩ <;> omega
  · by_cases h1 : (fits S.2.st u).2 = 1
    · have h3 := fits_one h1
      unfold mstep; rw [if_neg h2, if_pos h1]
      rcases h with ⟨h4, _⟩ | ⟨h4, h5, h6, h7⟩
      · omega
      · right
        refine ⟨h3.2.1, h5, ?_, .inr ⟨by show ¬ ((fits S.2.st u).1 = 2 ∨ (fits S.2.st u).1 = 4); omega, rfl⟩⟩
        show S.2.tk.f < u.t
        rcases h7 with ⟨_, h8, h9, h10⟩ | ⟨_, h8⟩ <;> omega
    · rw [mstep_begin S u h2 h1]
      have h3 := begins_st u
      have h4 := ended_ch h
      right
      refine ⟨h3.1, ?_, hl, .inr ⟨by show ¬ ((begins u).1 = 2 ∨ (begins u).1 = 4); omega, rfl⟩⟩
      show Ch _ _ _ _ u.f
      rw [hf]; exact h4
theorem mfold_ch : ∀ (us : List Un) {a b c : Nat} {S : List Tk × Sc}, ScI a S c → Ch Un.f Un.t c us b → ScI a (us.foldl mstep S) b
  | [], a, b, c, S, h, hc => by cases hc; exact h
  | u :: us, a, b, c, S, h, hc => mfold_ch us (mstep_ch h hc.1 hc.2.1) hc.2.2
/-- The tokens cover the text. -/
theorem scan_ch (l : List UInt8) : Ch Tk.f Tk.t 0 (scan (units (pcs l))) l.length :=
  ended_ch (mfold_ch (units (pcs l)) (S := ([], sc0)) (.inl ⟨rfl, rfl, rfl⟩) (units_ch l))
end Go.Proofs.Ytgeefojgkbglnaa
namespace Go.Proofs.Ytgeefojgkbglnaa
open Go.RowKit Go.Lib
set_option linter.unusedVariables false
set_option linter.unusedSimpArgs false
theorem nth_none (s : ByteArray) (hs : s.size ≤ 140737488351232) (n : Int) (hn : -9223372036854775808 ≤ n ∧ n ≤ 9223372036854775807) (ho : nthW (wds (scan (units (pcs s.data.toList)))) n = none) :
    FnP Try.prog 28 [.string s, .int .i64 n] (.tuple #[.agg #[.int .i64 0, .int .i64 0], .bool false]) := by
  have h := nth_p s hs n hn; rw [ho] at h; exact h
theorem nth_some (s : ByteArray) (hs : s.size ≤ 140737488351232) (n : Int) (hn : -9223372036854775808 ≤ n ∧ n ≤ 9223372036854775807) {g : Nat × Nat} (ho : nthW (wds (scan (units (pcs s.data.toList)))) n = some g) :
    FnP Try.prog 28 [.string s, .int .i64 n] (.tuple #[.agg #[.int .i64 (g.1 : Int), .int .i64 (g.2 : Int)], .bool true]) := by
  have h := nth_p s hs n hn; rw [ho] at h; exact h
theorem wds_bound (s : ByteArray) (g : Nat × Nat) (h : g ∈ wds (scan (units (pcs s.data.toList)))) : g.1 < g.2 ∧ g.2 ≤ s.size := by
  unfold wds at h
  obtain ⟨t, ht, h⟩ := List.mem_filterMap.1 h
  split at h
  · cases h
    have h1 := (scan_ch s.data.toList).mem t ht
    have h2 : s.data.toList.length = s.size := by simp
    exact ⟨h1.2.1, by rw [← h2]; exact h1.2.2⟩
  · cases h
theorem nthW_bound (s : ByteArray) (n : Int) (g : Nat × Nat) (h : nthW (wds (scan (units (pcs s.data.toList)))) n = some g) : g.1 < g.2 ∧ g.2 ≤ s.size := by
  unfold nthW at h
  split at h
  · exact wds_bound s g (List.mem_of_getElem? h)
  · cases h
def putV (s v : ByteArray) : Option (Nat × Nat) → Value
  | some g => .tuple #[.string (s.extract 0 g.1 ++ v ++ s.extract g.2 s.size), .int .i64 0]
  | none => .tuple #[.string ⟨#[]⟩, .int .i64 4]
def tstep (S : Bool × Nat × Nat) (x : Tk) : Bool × Nat × Nat := if x.k = 3 ∨ x.k = 4 then S else (true, if S.1 = true then S.2.1 else x.f, x.t)
def trimF (l : List Tk) : Bool × Nat × Nat := l.foldl tstep (false, 0, 0)
theorem trimF_snoc (l : List Tk) (x : Tk) : trimF (l ++ [x]) = tstep (trimF l) x := by simp [trimF]
theorem trimF_le : ∀ (l : List Tk) (a c : Nat) (S : Bool × Nat × Nat), Ch Tk.f Tk.t a l c → S.2.1 ≤ S.2.2 ∧ S.2.2 ≤ a → (l.foldl tstep S).2.1 ≤ (l.foldl tstep S).2.2 ∧ (l.foldl tstep S).2.2 ≤ c
  | [], a, c, S, h, hS => by cases h; exact hS
  | x :: l, a, c, S, h, hS => by
    have h1 := h.1
    have h2 := h.2.1
    refine trimF_le l x.t c (tstep S x) h.2.2 ?_
    unfold tstep
    split
    · omega
    · simp only
      split <;> omega
def trimS (s : ByteArray) : ByteArray := s.extract (trimF (scan (units (pcs s.data.toList)))).2.1 (trimF (scan (units (pcs s.data.toList)))).2.2
theorem trim_bound (s : ByteArray) : (trimF (scan (units (pcs s.data.toList)))).2.1 ≤ (trimF (scan (units (pcs s.data.toList)))).2.2 ∧ (trimF (scan (units (pcs s.data.toList)))).2.2 ≤ s.size := by
  have h := trimF_le _ 0 _ (false, 0, 0) (scan_ch s.data.toList) ⟨Nat.le_refl _, Nat.le_refl _⟩
  have h2 : s.data.toList.length = s.size := by simp
  rw [h2] at h
  exact h
set_option maxRecDepth 100000 in
set_option maxHeartbeats 4000000 in
theorem put_p (s v : ByteArray) (hs : s.size ≤ 140737488351232) (hv : v.size ≤ 140737488351232) (n : Int) (hn : -9223372036854775808 ≤ n ∧ n ≤ 9223372036854775807) : FnP Try.prog 29 [.string s, .int .i64 n, .string v] (putV s v (nthW (wds (scan (units (pcs s.data.toList)))) n)) := by
 refine FnP.intro Try.func29 rfl Try.ntmps29 (by simp) ?_
 intro w0 K
 rcases ho : nthW (wds (scan (units (pcs s.data.toList)))) n with _ | g
 ·
  refine TC.seq (TC.region (TO.assign rfl (by decide) rfl (TO.assign rfl (by decide) rfl (TO.nil (TX.next (TC.seq (TC.region (TO.move rfl (by decide) rfl (TO.move rfl (by decide) rfl (TO.callP (v := .tuple #[.agg #[.int .i64 0, .int .i64 0], .bool false]) (vs := [.string s, .int .i64 n]) rfl (by decide) rfl rfl rfl en_28 (nth_none s hs n hn ho) (TO.move rfl (by decide) rfl (TO.extract rfl (by decide) rfl rfl (TO.extract rfl (by decide) rfl rfl ?_)))))))))))))
  refine TO.alloc zr_34 rfl (by decide) (fun b1 => ?_)
  refine TO.stores (k := 0) (vs := [.int .i64 0, .int .i64 0]) (l' := [.int .i64 0, .int .i64 0]) sz_34 rfl rfl rfl rfl rfl (show _ ≤ _ by simp) rfl rfl ?_
  show TO _ _ _ _ _ _ _ _ _ _ [cells b1 [.int .i64 0, .int .i64 0] 34]
  refine TO.assign rfl (by decide) rfl (TO.nil (TX.next (TC.seq (TC.seq (TC.region (TO.move rfl (by decide) rfl (TO.un rfl (by decide) rfl un_not (TO.nil (TX.next (TC.condT rfl (TC.seq (TC.region (TO.assign rfl (by decide) rfl ?_)))))))))))))
  refine TO.assign rfl (by decide) rfl (TO.nil (TX.next (TC.ret (TX.thenRet ?_))))
  exact TX.fin (rs := [.tmp 6, .tmp 7]) () (.inl rfl) Try.results29 (.cons (.tmp rfl) (.cons (.tmp rfl) .nil)) rfl Splits.nil
 ·
  have hb := nthW_bound s n g ho
  refine TC.seq (TC.region (TO.assign rfl (by decide) rfl (TO.assign rfl (by decide) rfl (TO.nil (TX.next (TC.seq (TC.region (TO.move rfl (by decide) rfl (TO.move rfl (by decide) rfl (TO.callP (v := .tuple #[.agg #[.int .i64 (g.1 : Int), .int .i64 (g.2 : Int)], .bool true]) (vs := [.string s, .int .i64 n]) rfl (by decide) rfl rfl rfl en_28 (nth_some s hs n hn ho) (TO.move rfl (by decide) rfl (TO.extract rfl (by decide) rfl rfl (TO.extract rfl (by decide) rfl rfl ?_)))))))))))))
  refine TO.alloc zr_34 rfl (by decide) (fun b2 => ?_)
  refine TO.stores (k := 0) (vs := [.int .i64 (g.1 : Int), .int .i64 (g.2 : Int)]) (l' := [.int .i64 (g.1 : Int), .int .i64 (g.2 : Int)]) sz_34 rfl rfl rfl rfl rfl (show _ ≤ _ by simp) rfl rfl ?_
  show TO _ _ _ _ _ _ _ _ _ _ [cells b2 [.int .i64 (g.1 : Int), .int .i64 (g.2 : Int)] 34]
  refine TO.assign rfl (by decide) rfl (TO.nil (TX.next (TC.seq (TC.seq (TC.region (TO.move rfl (by decide) rfl (TO.un rfl (by decide) rfl un_not (TO.nil (TX.next (TC.condF rfl (TC.skip (TX.next (TC.seq ?_)))))))))))))
  refine TC.drawN 10 [(0, 18, .string s), (1, 19, .pointer (some ⟨b2, 0, none⟩)), (2, 20, .int .i64 (g.1 : Int)), (3, 21, .string (s.extract 0 g.1)), (4, 22, .string v), (5, 23, .string ((s.extract 0 g.1) ++ v)), (6, 24, .string s), (7, 25, .pointer (some ⟨b2, 1, none⟩)), (8, 26, .int .i64 (g.2 : Int)), (9, 27, .string (s.extract g.2 s.size))] mixed (by as_aux_lemma => kernel_rfl) (by as_aux_lemma => kernel_rfl) (by decide) (by rfl) (by as_aux_lemma => kernel_rfl) (by as_aux_lemma => kernel_rfl) (DrawPre.cons ?_ (DrawPre.cons ?_ (DrawPre.cons ?_ (DrawPre.cons ?_ (DrawPre.cons ?_ (DrawPre.cons ?_ (DrawPre.cons ?_ (DrawPre.cons ?_ (DrawPre.cons ?_ (DrawPre.cons ?_ DrawPre.nil)))))))))) ?_
  ·
   intro D hn hd hcl hu hi
   refine TO.move rfl (by decide) (dl_old (by rfl) rfl) ?_
   exact TX.quiet 0 hu hi rfl
  ·
   intro D hn hd hcl hu hi
   refine TO.fieldAddr fl_34_0 rfl (by decide) (dl_old (by rfl) rfl) (show _ = 0 from rfl) ?_
   exact TX.quiet 1 hu hi rfl
  ·
   intro D hn hd hcl hu hi
   refine TO.load (k := 0) sc_3 rfl (by decide) (dl_lookup (m := 1) hu rfl (hd 1 (by decide))) rfl rfl ?_
   exact TX.quiet 2 hu hi rfl
  ·
   intro D hn hd hcl hu hi
   refine TO.slice rfl (by decide) (dl_lookup (m := 0) hu rfl (hd 0 (by decide))) evO.none (evO.some (dl_lookup (m := 2) hu rfl (hd 2 (by decide)))) (slice_string (i := 0) (j := g.1) Try.underlying9 (.inl ⟨rfl, rfl⟩) (.inr rfl) (by omega) (by omega)) ?_
   exact TX.quiet 3 hu hi rfl
  ·
   intro D hn hd hcl hu hi
   refine TO.move rfl (by decide) (dl_old (by rfl) rfl) ?_
   exact TX.quiet 4 hu hi rfl
  ·
   intro D hn hd hcl hu hi
   refine TO.bin rfl (by decide) (dl_lookup (m := 3) hu rfl (hd 3 (by decide))) (dl_lookup (m := 4) hu rfl (hd 4 (by decide))) (bin_sadd (by simp <;> omega)) ?_
   exact TX.quiet 5 hu hi rfl
  ·
   intro D hn hd hcl hu hi
   refine TO.move rfl (by decide) (dl_old (by rfl) rfl) ?_
   exact TX.quiet 6 hu hi rfl
  ·
   intro D hn hd hcl hu hi
   refine TO.fieldAddr fl_34_1 rfl (by decide) (dl_old (by rfl) rfl) (show _ = 1 from rfl) ?_
   exact TX.quiet 7 hu hi rfl
  ·
   intro D hn hd hcl hu hi
   refine TO.load (k := 0) sc_3 rfl (by decide) (dl_lookup (m := 7) hu rfl (hd 7 (by decide))) rfl rfl ?_
   exact TX.quiet 8 hu hi rfl
  ·
   intro D hn hd hcl hu hi
   refine TO.slice rfl (by decide) (dl_lookup (m := 6) hu rfl (hd 6 (by decide))) (evO.some (dl_lookup (m := 8) hu rfl (hd 8 (by decide)))) evO.none (slice_string (i := g.2) (j := s.size) Try.underlying9 (.inr rfl) (.inl ⟨rfl, rfl⟩) (by omega) (by omega)) ?_
   exact TX.quiet 9 hu hi rfl
  refine TO.bin rfl (by decide) rfl rfl (bin_sadd (by simp <;> omega)) (TO.assign rfl (by decide) rfl (TO.assign rfl (by decide) rfl (TO.nil (TX.next (TC.ret ?_)))))
  exact TX.fin (rs := [.tmp 6, .tmp 7]) () (.inl rfl) Try.results29 (.cons (.tmp rfl) (.cons (.tmp rfl) .nil)) rfl Splits.nil

set_option maxRecDepth 100000 in
set_option maxHeartbeats 4000000 in
theorem trim_p (s : ByteArray) (hs : s.size ≤ 140737488351232) : FnP Try.prog 30 [.string s] (.string (trimS s)) := by
 refine FnP.intro Try.func30 rfl Try.ntmps30 (by simp) ?_
 intro w0 K
 refine TC.seq (TC.region (TO.assign rfl (by decide) rfl (TO.nil (TX.next (TC.seq (TC.region ?_))))))
 refine TO.alloc zr_34 rfl (by decide) (fun b1 => ?_)
 refine TO.nil (TX.next (TC.seq (TC.region ?_)))
 refine TO.alloc zr_4 rfl (by decide) (fun b2 => ?_)
 show TO _ _ _ _ _ _ _ _ _ _ [cells b1 [.int .i64 0, .int .i64 0] 34, cells b2 [.bool false] 4]
 refine TO.store (k := 1) (l' := [.bool false]) sz_4 rfl rfl rfl rfl rfl (fun _ _ => rfl) rfl ?_
 refine TO.nil (TX.next (TC.seq (TC.seq (TC.region (TO.move rfl (by decide) rfl (TO.call (vs := [.string s]) rfl (by decide) rfl rfl rfl en_15 (scan_fn s) Splits.nil ?_))))))
 rintro bp
 show TO _ _ _ _ _ _ _ _ _ _ [cells b1 [.int .i64 0, .int .i64 0] 34, cells b2 [.bool false] 4, cells bp [.string s] 9]
 refine TO.nil (TX.next (TC.block ?_))
 refine TC.range (α := Tk) (β := Bool × Nat × Nat) (γ := Unit) (δ := Nat) (ps := [8]) Ro.nil rfl en_46 (scan1_itr s (by omega) bp) (fun pre b => trimF pre = b) (fun pre b => [cells b1 [.int .i64 (b.2.1 : Int), .int .i64 (b.2.2 : Int)] 34, cells b2 [.bool b.1] 4]) (fun c pre g => False) (fun c pre g => []) (fun pre x b j => [(0, .string s), (3, .pointer (some ⟨b1, 0, none⟩)), (4, .pointer (some ⟨b2, 0, none⟩)), (5, .pointer (some ⟨j, 0, none⟩))]) (fun pre x b j => [cells b1 [.int .i64 (b.2.1 : Int), .int .i64 (b.2.2 : Int)] 34, cells b2 [.bool b.1] 4, cells j [.int .i64 x.k, .int .i64 (x.f : Int), .int .i64 (x.t : Int)] 36]) (false, 0, 0) rfl (Splits.of [0, 1] (by as_aux_lemma => kernel_rfl) rfl) ⟨.inl ⟨2, rfl⟩, trivial⟩ (fun _ => rfl) (by decide) ?_ ?_ ?_ ?_
 ·
  rintro lp rc pre x post b w1 K1 hxs hext hro hinv
  refine TC.region ?_
  refine TO.alloc zr_36 rfl (by decide) (fun b3 => ?_)
  refine TO.stores (k := 2) (vs := [.int .i64 x.k, .int .i64 (x.f : Int), .int .i64 (x.t : Int)]) (l' := [.int .i64 x.k, .int .i64 (x.f : Int), .int .i64 (x.t : Int)]) sz_36 rfl rfl rfl rfl rfl (show _ ≤ _ by simp) rfl rfl ?_
  show TO _ _ _ _ _ _ _ _ _ _ [cells b1 [.int .i64 (b.2.1 : Int), .int .i64 (b.2.2 : Int)] 34, cells b2 [.bool b.1] 4, cells b3 [.int .i64 x.k, .int .i64 (x.f : Int), .int .i64 (x.t : Int)] 36]
  refine TO.nil ?_
  exact fun a w ha hw => ⟨b3, (Sbs.cons rfl (Sbs.cons rfl (Sbs.cons rfl (Sbs.cons rfl (Sbs.nil))))) _ _ _ ha, hw.weaken (Splits.of [0, 1, 2] (by as_aux_lemma => kernel_rfl) rfl)⟩
 ·
  rintro lp rc pre x post b j w1 K1 hxs hext hro hinv
  obtain ⟨sn, f0, t0⟩ := b
  have hinv : trimF pre = (sn, f0, t0) := hinv
  have hsn := trimF_snoc pre x
  rw [hinv] at hsn
  cases sn
  ·
   show TC _ _ _ _ _ _ _ _ _ [cells b1 [.int .i64 (f0 : Int), .int .i64 (t0 : Int)] 34, cells b2 [.bool false] 4, cells j [.int .i64 x.k, .int .i64 (x.f : Int), .int .i64 (x.t : Int)] 36]
   refine TC.block (TC.seq (TC.seq (TC.region (TO.fieldAddr fl_36_0 rfl (by decide) rfl (show _ = 0 from rfl) (TO.load (k := 2) sc_3 rfl (by decide) rfl rfl rfl (TO.bin rfl (by decide) rfl rfl bin_eql (TO.move rfl (by decide) rfl ?_)))))))
   refine TO.split (s := 12) rfl (fun h1 => ?_) (fun h1 => ?_)
   ·
    -- yes
    have h1 := beq_iff_eq.1 h1
    refine TO.skip rfl (by decide) (TO.skip rfl (by decide) (TO.skip rfl (by decide) (TO.pick (b := true) rfl (by decide) rfl rfl (TO.nil (TX.next (TC.condT rfl (TC.exit (TX.thenExit (TX.blockHere ?_)))))))))
    exact TX.round (false, f0, t0) (by show trimF (pre ++ [x]) = _; rw [hsn]; simp_all [tstep]) (Splits.of [0, 1] (by as_aux_lemma => kernel_rfl) rfl)
   ·
    -- no
    have h1 := beq_eq_false_iff_ne.1 h1
    refine TO.fieldAddr fl_36_0 rfl (by decide) rfl (show _ = 0 from rfl) (TO.load (k := 2) sc_3 rfl (by decide) rfl rfl rfl (TO.bin rfl (by decide) rfl rfl bin_eql (TO.pick (b := false) rfl (by decide) rfl rfl (TO.nil (TX.next ?_)))))
    refine TC.condB rfl (fun h2 => ?_) (fun h2 => ?_)
    ·
     -- yes
     have h2 := beq_iff_eq.1 h2
     refine TC.exit (TX.thenExit (TX.blockHere ?_))
     exact TX.round (false, f0, t0) (by show trimF (pre ++ [x]) = _; rw [hsn]; simp_all [tstep]) (Splits.of [0, 1] (by as_aux_lemma => kernel_rfl) rfl)
    ·
     -- no
     have h2 := beq_eq_false_iff_ne.1 h2
     refine TC.skip (TX.next (TC.seq (TC.seq (TC.region (TO.load (k := 1) sc_4 rfl (by decide) rfl rfl rfl (TO.un rfl (by decide) rfl un_not (TO.nil (TX.next (TC.condT rfl (TC.region (TO.fieldAddr fl_36_1 rfl (by decide) rfl (show _ = 1 from rfl) (TO.fieldAddr fl_34_0 rfl (by decide) rfl (show _ = 1 from rfl) (TO.load (k := 2) sc_3 rfl (by decide) rfl rfl rfl ?_)))))))))))))
     refine TO.fieldAddr fl_34_0 rfl (by decide) rfl (show _ = 0 from rfl) ?_
     refine TO.store (k := 0) (l' := [.int .i64 (x.f : Int), .int .i64 (t0 : Int)]) sz_3 rfl rfl rfl rfl rfl (fun _ _ => rfl) rfl ?_
     refine TO.store (k := 1) (l' := [.bool true]) sz_4 rfl rfl rfl rfl rfl (fun _ _ => rfl) rfl ?_
     show TO _ _ _ _ _ _ _ _ _ _ [cells b1 [.int .i64 (x.f : Int), .int .i64 (t0 : Int)] 34, cells b2 [.bool true] 4, cells j [.int .i64 x.k, .int .i64 (x.f : Int), .int .i64 (x.t : Int)] 36]
     refine TO.nil (TX.next (TC.region (TO.fieldAddr fl_36_1 rfl (by decide) rfl (show _ = 1 from rfl) (TO.fieldAddr fl_34_1 rfl (by decide) rfl (show _ = 2 from rfl) (TO.load (k := 2) sc_3 rfl (by decide) rfl rfl rfl (TO.fieldAddr fl_34_1 rfl (by decide) rfl (show _ = 1 from rfl) ?_))))))
     refine TO.store (k := 0) (l' := [.int .i64 (x.f : Int), .int .i64 (x.t : Int)]) sz_3 rfl rfl rfl rfl rfl (fun _ _ => rfl) rfl ?_
     refine TO.nil (TX.blockNormal ?_)
     exact TX.round (true, x.f, x.t) (by show trimF (pre ++ [x]) = _; rw [hsn]; simp_all [tstep]) (Splits.of [0, 1] (by as_aux_lemma => kernel_rfl) rfl)
  ·
   show TC _ _ _ _ _ _ _ _ _ [cells b1 [.int .i64 (f0 : Int), .int .i64 (t0 : Int)] 34, cells b2 [.bool true] 4, cells j [.int .i64 x.k, .int .i64 (x.f : Int), .int .i64 (x.t : Int)] 36]
   refine TC.block (TC.seq (TC.seq (TC.region (TO.fieldAddr fl_36_0 rfl (by decide) rfl (show _ = 0 from rfl) (TO.load (k := 2) sc_3 rfl (by decide) rfl rfl rfl (TO.bin rfl (by decide) rfl rfl bin_eql (TO.move rfl (by decide) rfl ?_)))))))
   refine TO.split (s := 12) rfl (fun h3 => ?_) (fun h3 => ?_)
   ·
    -- yes
    have h3 := beq_iff_eq.1 h3
    refine TO.skip rfl (by decide) (TO.skip rfl (by decide) (TO.skip rfl (by decide) (TO.pick (b := true) rfl (by decide) rfl rfl (TO.nil (TX.next (TC.condT rfl (TC.exit (TX.thenExit (TX.blockHere ?_)))))))))
    exact TX.round (true, f0, t0) (by show trimF (pre ++ [x]) = _; rw [hsn]; simp_all [tstep]) (Splits.of [0, 1] (by as_aux_lemma => kernel_rfl) rfl)
   ·
    -- no
    have h3 := beq_eq_false_iff_ne.1 h3
    refine TO.fieldAddr fl_36_0 rfl (by decide) rfl (show _ = 0 from rfl) (TO.load (k := 2) sc_3 rfl (by decide) rfl rfl rfl (TO.bin rfl (by decide) rfl rfl bin_eql (TO.pick (b := false) rfl (by decide) rfl rfl (TO.nil (TX.next ?_)))))
    refine TC.condB rfl (fun h4 => ?_) (fun h4 => ?_)
    ·
     -- yes
     have h4 := beq_iff_eq.1 h4
     refine TC.exit (TX.thenExit (TX.blockHere ?_))
     exact TX.round (true, f0, t0) (by show trimF (pre ++ [x]) = _; rw [hsn]; simp_all [tstep]) (Splits.of [0, 1] (by as_aux_lemma => kernel_rfl) rfl)
    ·
     -- no
     have h4 := beq_eq_false_iff_ne.1 h4
     refine TC.skip (TX.next (TC.seq (TC.seq (TC.region (TO.load (k := 1) sc_4 rfl (by decide) rfl rfl rfl (TO.un rfl (by decide) rfl un_not (TO.nil (TX.next (TC.condF rfl (TC.skip (TX.next (TC.region (TO.fieldAddr fl_36_1 rfl (by decide) rfl (show _ = 1 from rfl) ?_)))))))))))))
     refine TO.fieldAddr fl_34_1 rfl (by decide) rfl (show _ = 2 from rfl) (TO.load (k := 2) sc_3 rfl (by decide) rfl rfl rfl (TO.fieldAddr fl_34_1 rfl (by decide) rfl (show _ = 1 from rfl) ?_))
     refine TO.store (k := 0) (l' := [.int .i64 (f0 : Int), .int .i64 (x.t : Int)]) sz_3 rfl rfl rfl rfl rfl (fun _ _ => rfl) rfl ?_
     refine TO.nil (TX.blockNormal ?_)
     exact TX.round (true, f0, x.t) (by show trimF (pre ++ [x]) = _; rw [hsn]; simp_all [tstep]) (Splits.of [0, 1] (by as_aux_lemma => kernel_rfl) rfl)
 ·
  rintro d b hinv
  show TX _ _ _ _ _ _ _ [emp, emp, cells bp [.string s] 9, cells b1 [.int .i64 (b.2.1 : Int), .int .i64 (b.2.2 : Int)] 34, cells b2 [.bool b.1] 4, mark d]
  obtain ⟨sn, f0, t0⟩ := b
  have hf : trimF (scan (units (pcs s.data.toList))) = (sn, f0, t0) := hinv
  have hb := trim_bound s; rw [hf] at hb; simp only at hb
  show TX _ _ _ _ _ _ _ [emp, emp, cells bp [.string s] 9, cells b1 [.int .i64 (f0 : Int), .int .i64 (t0 : Int)] 34, cells b2 [.bool sn] 4, mark d]
  refine TX.blockNormal (TX.next (TC.seq (TC.region (TO.move rfl (by decide) rfl (TO.fieldAddr fl_34_0 rfl (by decide) rfl (show _ = 0 from rfl) (TO.load (k := 3) sc_3 rfl (by decide) rfl rfl rfl (TO.fieldAddr fl_34_1 rfl (by decide) rfl (show _ = 1 from rfl) (TO.load (k := 3) sc_3 rfl (by decide) rfl rfl rfl (TO.slice rfl (by decide) rfl rfl rfl (slice_string (i := f0) (j := t0) Try.underlying9 (.inr rfl) (.inr rfl) (by omega) (by omega)) (TO.assign rfl (by decide) rfl (TO.nil (TX.next (TC.ret ?_)))))))))))))
  exact TX.finM (rs := [.tmp 2]) [d] () (.inl rfl) (Splits.of [5] (by as_aux_lemma => kernel_rfl) rfl) Try.results30 (.cons (.tmp rfl) .nil) (by unfold trimS; rw [hf]; rfl) Splits.nil
 ·
  rintro d c pre x post g hxs hX
  exact hX.elim
end Go.Proofs.Ytgeefojgkbglnaa
namespace Go.Proofs.Ytgeefojgkbglnaa
open Go.RowKit Go.Lib
set_option linter.unusedVariables false
set_option linter.unusedSimpArgs false
section
variable {F : Fence} {P : Program} {w0 : World} {K : Nat → Prop} {N : Nat} {dfs : List Deferred} {ops : Array Oper} {Q : Exit → Act → World → Prop} {rest : List Oper} {σ : List (Nat × Value)} {L : List Asn}
  {d : Nat} {ty : TypeId} {pos : String} {aft : Array Edge} {g : Option (Nat × Bool)} {x : Operand} {k : Nat} {e : TypeId} {vv : Value} {b : ByteArray}
theorem TO.lenByt [WideF F] {tt : TypeId} {te : TypeId} (hg : gd ops σ g = some true) (hd : d < N) (hx : ev σ x = some vv) (hk : L[k]? = some (byt e vv b)) (ht : P.underlying tt = some (.slice te))
    (h : TO F P w0 K N dfs ops Q rest ((d, .int .i64 b.size) :: σ) L) : TO F P w0 K N dfs ops Q (⟨some d, .call { callee := .builtin .len, args := #[x], argTypes := #[tt] }, ty, pos, aft, g⟩ :: rest) σ L :=
  TO.val hg hd (by simp) (fun a w ha hw => by
    obtain ⟨C, hv, _⟩ := hw.focus hk
    have hl : ∃ q c, vv = .slice q b.size c := by
      rcases Byt.shape hv with ⟨rfl, rfl, _⟩ | ⟨q, cap, cur, rfl, _⟩
      · exact ⟨none, 0, rfl⟩
      · exact ⟨_, _, rfl⟩
    obtain ⟨q, cc, hq⟩ := hl
    have := ha.ev hx
    simp [execOp, resolve, invoke, builtin, this, hq, Builtin.len_, run_underlying ht, Sem.run_bind, goInt]) h
theorem TC.newByt {c : Code} (h : TC F P w0 K N dfs Q c σ (L ++ [byt e (.slice none 0 0) ⟨#[]⟩])) : TC F P w0 K N dfs Q c σ L := fun a w ha hw =>
  h a w ha (hw.grow (C' := fun _ => False) (Ext.refl _ _) (sepL.one (A := byt e (.slice none 0 0) ⟨#[]⟩) Byt.nil))
end
def pstep (s : ByteArray) (o : ByteArray) (w : Nat × Nat) : ByteArray := (if 0 < o.size then o ++ ⟨#[32]⟩ else o) ++ s.extract w.1 w.2
def plF (s : ByteArray) (l : List (Nat × Nat)) : ByteArray := l.foldl (pstep s) ⟨#[]⟩
theorem plF_snoc (s : ByteArray) (l : List (Nat × Nat)) (x : Nat × Nat) : plF s (l ++ [x]) = pstep s (plF s l) x := by simp [plF]
def sumW (l : List (Nat × Nat)) : Nat := (l.map fun w => w.2 - w.1).sum
theorem sumW_app (l m : List (Nat × Nat)) : sumW (l ++ m) = sumW l + sumW m := by simp [sumW]
theorem sumW_cons (x : Nat × Nat) (m : List (Nat × Nat)) : sumW (x :: m) = (x.2 - x.1) + sumW m := by simp [sumW]
theorem plF_fold (s : ByteArray) : ∀ (l : List (Nat × Nat)) (o : ByteArray), (l.foldl (pstep s) o).size ≤ o.size + sumW l + l.length
  | [], o => by simp [sumW]
  | x :: l, o => by
    have h := plF_fold s l (pstep s o x)
    have h2 : (pstep s o x).size ≤ o.size + 1 + (x.2 - x.1) := by
      unfold pstep
      split
      · rw [ByteArray.size_append, ByteArray.size_append, ByteArray.size_extract]
        have : (⟨#[32]⟩ : ByteArray).size = 1 := rfl
        omega
      · rw [ByteArray.size_append, ByteArray.size_extract]
        omega
    rw [sumW_cons]
    simp only [List.foldl_cons, List.length_cons]; omega
theorem plF_len (s : ByteArray) (l : List (Nat × Nat)) : (plF s l).size ≤ sumW l + l.length := by
  have h := plF_fold s l ⟨#[]⟩
  have : (⟨#[]⟩ : ByteArray).size = 0 := rfl
  unfold plF; omega
theorem sum_ch : ∀ (l : List Tk) (a c : Nat), Ch Tk.f Tk.t a l c → sumW (wds l) + a ≤ c
  | [], a, c, h => by cases h; simp [wds, sumW]
  | x :: l, a, c, h => by
    have h1 := sum_ch l _ _ h.2.2
    have h2 := h.1
    have h3 := h.2.1
    by_cases hk : x.k = 1
    · have : wds (x :: l) = (x.f, x.t) :: wds l := by simp [wds, hk]
      rw [this, sumW_cons]; simp only; omega
    · have : wds (x :: l) = wds l := by simp [wds, hk]
      rw [this]; omega
theorem sum_le (s : ByteArray) : sumW (wds (scan (units (pcs s.data.toList)))) ≤ s.size := by
  have h := sum_ch _ 0 _ (scan_ch s.data.toList)
  have h2 : s.data.toList.length = s.size := by simp
  omega
set_option maxRecDepth 100000 in
set_option maxHeartbeats 4000000 in
theorem plain_p (s : ByteArray) (hs : s.size ≤ 1099511627776) : FnP Try.prog 32 [.string s] (.string (plF s (wds (scan (units (pcs s.data.toList)))))) := by
 refine FnP.intro Try.func32 rfl Try.ntmps32 (by simp) ?_
 intro w0 K
 refine TC.seq (TC.region ?_)
 refine TO.box rfl (by decide) rfl (fun b1 => ?_)
 refine TO.assign rfl (by decide) rfl (TO.nil (TX.next (TC.seq (TC.newByt (e := 5) (TC.region ?_)))))
 refine TO.alloc zr_81 rfl (by decide) (fun b2 => ?_)
 refine TO.nil (TX.next (TC.seq (TC.seq (TC.region (TO.load (k := 0) sc_9 rfl (by decide) rfl rfl rfl (TO.call (vs := [.string s]) rfl (by decide) rfl rfl rfl en_16 (words_fn s) Splits.nil ?_))))))
 rintro bp
 show TO _ _ _ _ _ _ _ _ _ _ [cells b1 [.string s] 9, byt 5 (.slice none 0 0) (⟨#[]⟩ : ByteArray), cells b2 [.slice none 0 0] 81, cells bp [.string s] 9]
 refine TO.nil (TX.next (TC.block ?_))
 refine TC.range (α := Nat × Nat) (β := Value) (γ := Unit) (δ := Nat) (ps := [7]) Ro.nil rfl en_51 (words1_itr s (by omega) bp) (fun pre b => True) (fun pre b => [cells b1 [.string s] 9, cells b2 [b] 81, byt 5 b (plF s pre)]) (fun c pre g => False) (fun c pre g => []) (fun pre x b j => [(1, .pointer (some ⟨b1, 0, none⟩)), (2, .string (⟨#[]⟩)), (3, .pointer (some ⟨b2, 0, none⟩)), (4, .pointer (some ⟨j, 0, none⟩))]) (fun pre x b j => [cells b1 [.string s] 9, cells b2 [b] 81, byt 5 b (plF s pre), cells j [.int .i64 (x.1 : Int), .int .i64 (x.2 : Int)] 34]) (.slice none 0 0) trivial (Splits.of [0, 2, 1] (by as_aux_lemma => kernel_rfl) rfl) ⟨.inl ⟨3, rfl⟩, trivial⟩ (fun _ => rfl) (by decide) ?_ ?_ ?_ ?_
 ·
  rintro lp rc pre x post b w1 K1 hxs hext hro hinv
  refine TC.region ?_
  refine TO.alloc zr_34 rfl (by decide) (fun b3 => ?_)
  refine TO.stores (k := 3) (vs := [.int .i64 (x.1 : Int), .int .i64 (x.2 : Int)]) (l' := [.int .i64 (x.1 : Int), .int .i64 (x.2 : Int)]) sz_34 rfl rfl rfl rfl rfl (show _ ≤ _ by simp) rfl rfl ?_
  show TO _ _ _ _ _ _ _ _ _ _ [cells b1 [.string s] 9, cells b2 [b] 81, byt 5 b (plF s pre), cells b3 [.int .i64 (x.1 : Int), .int .i64 (x.2 : Int)] 34]
  refine TO.nil ?_
  exact fun a w ha hw => ⟨b3, (Sbs.cons rfl (Sbs.cons rfl (Sbs.cons rfl (Sbs.cons rfl (Sbs.nil))))) _ _ _ ha, hw.weaken (Splits.of [0, 1, 2, 3] (by as_aux_lemma => kernel_rfl) rfl)⟩
 ·
  rintro lp rc pre x post b j w1 K1 hxs hext hro hinv
  have hb := plF_len s pre
  have hx := wds_bound s x (by rw [hxs]; simp)
  have hsum := sum_le s
  have hwl := wds_len s
  rw [hxs, sumW_app] at hsum
  have hlen : pre.length < (wds (scan (units (pcs s.data.toList)))).length := by rw [hxs]; simp
  simp only [sumW_cons] at hsum
  refine TC.block (TC.seq (TC.seq (TC.region (TO.load (k := 1) sc_81 rfl (by decide) rfl rfl rfl (TO.lenByt (k := 2) rfl (by decide) rfl rfl Try.underlying81 (TO.bin rfl (by decide) rfl rfl bin_gtr (TO.nil (TX.next ?_))))))))
  refine TC.condB rfl (fun h1 => ?_) (fun h1 => ?_)
  ·
   -- yes
   have h1 := of_decide_eq_true h1
   refine TC.region (TO.load (k := 1) sc_81 rfl (by decide) rfl rfl rfl ?_)
   refine TO.buildSlice (cs := [.int .u8 32]) (te := 5) (ps := [(0, .const (.int .u8 32))]) rfl (by decide) rfl (fun _ => by kernel_rfl) (fun b4 => ?_)
   refine TO.appendByt (k := 2) (k2 := 4) (ys := (⟨#[32]⟩ : ByteArray)) Try.underlying81 by_5 rfl (by decide) rfl rfl rfl rfl rfl rfl (by have h32 : (⟨#[32]⟩ : ByteArray).size = 1 := rfl; omega) (fun v5 => ?_)
   refine TO.store (k := 1) (l' := [v5]) sz_81 rfl rfl rfl rfl rfl (fun _ h => one_byt h (k := 2) rfl) rfl ?_
   show TO _ _ _ _ _ _ _ _ _ _ [cells b1 [.string s] 9, cells b2 [v5] 81, byt 5 v5 ((plF s pre) ++ (⟨#[32]⟩ : ByteArray)), cells j [.int .i64 (x.1 : Int), .int .i64 (x.2 : Int)] 34, cells b4 [.int .u8 32] 5]
   refine TO.nil (TX.next ?_)
   refine TC.drawN 7 [(0, 14, v5), (1, 15, .string s), (2, 16, .pointer (some ⟨j, 0, none⟩)), (3, 17, .int .i64 (x.1 : Int)), (4, 18, .pointer (some ⟨j, 1, none⟩)), (5, 19, .int .i64 (x.2 : Int)), (6, 20, .string (s.extract x.1 x.2))] mixed (by as_aux_lemma => kernel_rfl) (by as_aux_lemma => kernel_rfl) (by decide) (by rfl) (by as_aux_lemma => kernel_rfl) (by as_aux_lemma => kernel_rfl) (DrawPre.cons ?_ (DrawPre.cons ?_ (DrawPre.cons ?_ (DrawPre.cons ?_ (DrawPre.cons ?_ (DrawPre.cons ?_ (DrawPre.cons ?_ DrawPre.nil))))))) ?_
   ·
    intro D hn hd hcl hu hi
    refine TO.load (k := 1) sc_81 rfl (by decide) (dl_old (by rfl) rfl) rfl rfl ?_
    exact TX.quiet 0 hu hi rfl
   ·
    intro D hn hd hcl hu hi
    refine TO.load (k := 0) sc_9 rfl (by decide) (dl_old (by rfl) rfl) rfl rfl ?_
    exact TX.quiet 1 hu hi rfl
   ·
    intro D hn hd hcl hu hi
    refine TO.fieldAddr fl_34_0 rfl (by decide) (dl_old (by rfl) rfl) (show _ = 0 from rfl) ?_
    exact TX.quiet 2 hu hi rfl
   ·
    intro D hn hd hcl hu hi
    refine TO.load (k := 3) sc_3 rfl (by decide) (dl_lookup (m := 2) hu rfl (hd 2 (by decide))) rfl rfl ?_
    exact TX.quiet 3 hu hi rfl
   ·
    intro D hn hd hcl hu hi
    refine TO.fieldAddr fl_34_1 rfl (by decide) (dl_old (by rfl) rfl) (show _ = 1 from rfl) ?_
    exact TX.quiet 4 hu hi rfl
   ·
    intro D hn hd hcl hu hi
    refine TO.load (k := 3) sc_3 rfl (by decide) (dl_lookup (m := 4) hu rfl (hd 4 (by decide))) rfl rfl ?_
    exact TX.quiet 5 hu hi rfl
   ·
    intro D hn hd hcl hu hi
    refine TO.slice rfl (by decide) (dl_lookup (m := 1) hu rfl (hd 1 (by decide))) (evO.some (dl_lookup (m := 3) hu rfl (hd 3 (by decide)))) (evO.some (dl_lookup (m := 5) hu rfl (hd 5 (by decide)))) (slice_string (i := x.1) (j := x.2) Try.underlying9 (.inr rfl) (.inr rfl) (by omega) (by omega)) ?_
    exact TX.quiet 6 hu hi rfl
   refine TO.appendStr (k := 2) Try.underlying81 Try.underlying9 by_5 rfl (by decide) rfl rfl rfl (by have h32 : (⟨#[32]⟩ : ByteArray).size = 1 := rfl; simp only [ByteArray.size_append, ByteArray.size_extract]; omega) (fun v6 => ?_)
   refine TO.store (k := 1) (l' := [v6]) sz_81 rfl rfl rfl rfl rfl (fun _ h => one_byt h (k := 2) rfl) rfl ?_
   show TO _ _ _ _ _ _ _ _ _ _ [cells b1 [.string s] 9, cells b2 [v6] 81, byt 5 v6 (((plF s pre) ++ (⟨#[32]⟩ : ByteArray)) ++ (s.extract x.1 x.2)), cells j [.int .i64 (x.1 : Int), .int .i64 (x.2 : Int)] 34, cells b4 [.int .u8 32] 5]
   refine TO.nil (TX.blockNormal (TX.rewE (k := 2) rfl (show byt 5 v6 (((plF s pre) ++ (⟨#[32]⟩ : ByteArray)) ++ (s.extract x.1 x.2)) = byt 5 v6 (plF s (pre ++ [x])) from (congrArg (byt 5 v6) (by rw [plF_snoc]; unfold pstep; simp_all))) ?_))
   show TX _ _ _ _ _ _ _ [cells b1 [.string s] 9, cells b2 [v6] 81, byt 5 v6 (plF s (pre ++ [x])), cells j [.int .i64 (x.1 : Int), .int .i64 (x.2 : Int)] 34, cells b4 [.int .u8 32] 5]
   exact TX.round v6 trivial (Splits.of [0, 1, 2] (by as_aux_lemma => kernel_rfl) rfl)
  ·
   -- no
   have h1 := of_decide_eq_false h1
   refine TC.skip (TX.next ?_)
   refine TC.drawN 7 [(0, 14, b), (1, 15, .string s), (2, 16, .pointer (some ⟨j, 0, none⟩)), (3, 17, .int .i64 (x.1 : Int)), (4, 18, .pointer (some ⟨j, 1, none⟩)), (5, 19, .int .i64 (x.2 : Int)), (6, 20, .string (s.extract x.1 x.2))] mixed (by as_aux_lemma => kernel_rfl) (by as_aux_lemma => kernel_rfl) (by decide) (by rfl) (by as_aux_lemma => kernel_rfl) (by as_aux_lemma => kernel_rfl) (DrawPre.cons ?_ (DrawPre.cons ?_ (DrawPre.cons ?_ (DrawPre.cons ?_ (DrawPre.cons ?_ (DrawPre.cons ?_ (DrawPre.cons ?_ DrawPre.nil))))))) ?_
   ·
    intro D hn hd hcl hu hi
    refine TO.load (k := 1) sc_81 rfl (by decide) (dl_old (by rfl) rfl) rfl rfl ?_
    exact TX.quiet 0 hu hi rfl
   ·
    intro D hn hd hcl hu hi
    refine TO.load (k := 0) sc_9 rfl (by decide) (dl_old (by rfl) rfl) rfl rfl ?_
    exact TX.quiet 1 hu hi rfl
   ·
    intro D hn hd hcl hu hi
    refine TO.fieldAddr fl_34_0 rfl (by decide) (dl_old (by rfl) rfl) (show _ = 0 from rfl) ?_
    exact TX.quiet 2 hu hi rfl
   ·
    intro D hn hd hcl hu hi
    refine TO.load (k := 3) sc_3 rfl (by decide) (dl_lookup (m := 2) hu rfl (hd 2 (by decide))) rfl rfl ?_
    exact TX.quiet 3 hu hi rfl
   ·
    intro D hn hd hcl hu hi
    refine TO.fieldAddr fl_34_1 rfl (by decide) (dl_old (by rfl) rfl) (show _ = 1 from rfl) ?_
    exact TX.quiet 4 hu hi rfl
   ·
    intro D hn hd hcl hu hi
    refine TO.load (k := 3) sc_3 rfl (by decide) (dl_lookup (m := 4) hu rfl (hd 4 (by decide))) rfl rfl ?_
    exact TX.quiet 5 hu hi rfl
   ·
    intro D hn hd hcl hu hi
    refine TO.slice rfl (by decide) (dl_lookup (m := 1) hu rfl (hd 1 (by decide))) (evO.some (dl_lookup (m := 3) hu rfl (hd 3 (by decide)))) (evO.some (dl_lookup (m := 5) hu rfl (hd 5 (by decide)))) (slice_string (i := x.1) (j := x.2) Try.underlying9 (.inr rfl) (.inr rfl) (by omega) (by omega)) ?_
    exact TX.quiet 6 hu hi rfl
   refine TO.appendStr (k := 2) Try.underlying81 Try.underlying9 by_5 rfl (by decide) rfl rfl rfl (by have h32 : (⟨#[32]⟩ : ByteArray).size = 1 := rfl; simp only [ByteArray.size_append, ByteArray.size_extract]; omega) (fun v7 => ?_)
   refine TO.store (k := 1) (l' := [v7]) sz_81 rfl rfl rfl rfl rfl (fun _ h => one_byt h (k := 2) rfl) rfl ?_
   show TO _ _ _ _ _ _ _ _ _ _ [cells b1 [.string s] 9, cells b2 [v7] 81, byt 5 v7 ((plF s pre) ++ (s.extract x.1 x.2)), cells j [.int .i64 (x.1 : Int), .int .i64 (x.2 : Int)] 34]
   refine TO.nil (TX.blockNormal (TX.rewE (k := 2) rfl (show byt 5 v7 ((plF s pre) ++ (s.extract x.1 x.2)) = byt 5 v7 (plF s (pre ++ [x])) from (congrArg (byt 5 v7) (by rw [plF_snoc]; unfold pstep; simp_all))) ?_))
   show TX _ _ _ _ _ _ _ [cells b1 [.string s] 9, cells b2 [v7] 81, byt 5 v7 (plF s (pre ++ [x])), cells j [.int .i64 (x.1 : Int), .int .i64 (x.2 : Int)] 34]
   exact TX.round v7 trivial (Splits.of [0, 1, 2] (by as_aux_lemma => kernel_rfl) rfl)
 ·
  rintro d b hinv
  show TX _ _ _ _ _ _ _ [emp, emp, emp, cells bp [.string s] 9, cells b1 [.string s] 9, cells b2 [b] 81, byt 5 b (plF s (wds (scan (units (pcs s.data.toList))))), mark d]
  refine TX.blockNormal (TX.next (TC.seq (TC.region (TO.load (k := 5) sc_81 rfl (by decide) rfl rfl rfl (TO.bytStr (k := 6) rfl (by decide) rfl rfl Try.underlying81 Try.underlying5 Try.underlying9 (TO.assign rfl (by decide) rfl (TO.nil (TX.next (TC.ret ?_)))))))))
  exact TX.finM (rs := [.tmp 2]) [d] () (.inl rfl) (Splits.of [7] (by as_aux_lemma => kernel_rfl) rfl) Try.results32 (.cons (.tmp rfl) .nil) rfl Splits.nil
 ·
  rintro d c pre x post g hxs hX
  exact hX.elim
end Go.Proofs.Ytgeefojgkbglnaa
namespace Go.Proofs.Ytgeefojgkbglnaa
open Go.RowKit Go.Lib
set_option linter.unusedVariables false
set_option linter.unusedSimpArgs false
theorem spV_len (p : Nat × Nat) : (spV p).length = 2 := rfl
theorem spV_one (p : Nat × Nat) : ∀ u ∈ spV p, u.oneCell' = true := by
  intro u hu
  simp only [spV, List.mem_cons, List.not_mem_nil, or_false] at hu
  rcases hu with rfl | rfl <;> rfl
theorem is_eq (s : ByteArray) (hs : s.size ≤ 140737488351232) {b : Bool} (h : isWord (scan (units (pcs s.data.toList))) s.size = b) : FnP Try.prog 19 [.string s] (.bool b) := h ▸ is_p s hs
theorem units_len (s : ByteArray) : (units (pcs s.data.toList)).length ≤ s.size := by
  have h3 := ufold_len (pcs s.data.toList) ([], none)
  have h4 := pcs_len s
  have h5 : (uout (([], none) : List Un × Option Un)).length = 0 := rfl
  unfold units ufold; omega
def ptstep (L : List (Nat × Nat)) (u : Un) : List (Nat × Nat) := if u.k = 1 then L.set (L.length - 1) ((L.getLast?.getD (0, 0)).1, u.t) else L ++ [(u.t, 0)]
def partsF (l : List Un) : List (Nat × Nat) := l.foldl ptstep [(0, 0)]
theorem partsF_snoc (l : List Un) (x : Un) : partsF (l ++ [x]) = ptstep (partsF l) x := by simp [partsF]
theorem ptstep_len (L : List (Nat × Nat)) (u : Un) : L.length ≤ (ptstep L u).length ∧ (ptstep L u).length ≤ L.length + 1 := by
  unfold ptstep; split <;> simp
theorem ptfold_len : ∀ (l : List Un) (L : List (Nat × Nat)), L.length ≤ (l.foldl ptstep L).length ∧ (l.foldl ptstep L).length ≤ L.length + l.length
  | [], L => by simp
  | u :: l, L => by
    have h1 := ptfold_len l (ptstep L u)
    have h2 := ptstep_len L u
    simp only [List.foldl_cons, List.length_cons]; omega
theorem partsF_len (l : List Un) : (partsF l).length ≤ 1 + l.length := (ptfold_len l [(0, 0)]).2
theorem partsF_ne (l : List Un) : ∃ M g, partsF l = M ++ [g] := by
  rcases List.eq_nil_or_concat (partsF l) with h | ⟨M, g, h⟩
  · have := (ptfold_len l [(0, 0)]).1
    have h2 : (partsF l).length = 0 := by rw [h]; rfl
    unfold partsF at h2
    simp at this
    simp at h2
    rw [h2] at this; simp at this
  · exact ⟨M, g, by rw [h, List.concat_eq_append]⟩
set_option maxRecDepth 100000 in
set_option maxHeartbeats 4000000 in
theorem parts_no (s : ByteArray) (hs : s.size ≤ 1073741824) (h0 : isWord (scan (units (pcs s.data.toList))) s.size = false) : FnP Try.prog 21 [.string s] (.tuple #[.slice none 0 0, .int .i64 2]) := by
 refine FnP.intro Try.func21 rfl Try.ntmps21 (by simp) ?_
 intro w0 K
 refine TC.seq (TC.region (TO.assign rfl (by decide) rfl (TO.assign rfl (by decide) rfl (TO.nil (TX.next (TC.seq (TC.seq (TC.region (TO.move rfl (by decide) rfl (TO.callP (v := .bool false) (vs := [.string s]) rfl (by decide) rfl rfl rfl en_19 (is_eq s (by omega) h0) (TO.un rfl (by decide) rfl un_not (TO.nil (TX.next ?_)))))))))))))
 refine TC.condT rfl (TC.seq (TC.region (TO.assign rfl (by decide) rfl (TO.assign rfl (by decide) rfl (TO.nil (TX.next (TC.ret (TX.thenRet ?_))))))))
 exact TX.fin (rs := [.tmp 2, .tmp 3]) () (.inl rfl) Try.results21 (.cons (.tmp rfl) (.cons (.tmp rfl) .nil)) rfl Splits.nil

set_option maxRecDepth 100000 in
set_option maxHeartbeats 4000000 in
theorem parts_yes (s : ByteArray) (hs : s.size ≤ 1073741824) (h0 : isWord (scan (units (pcs s.data.toList))) s.size = true) : Fn Try.prog 21 [.string s] [] (fun v : Value => .tuple #[v, .int .i64 0]) (fun v => [vec spV 34 2 v (partsF (units (pcs s.data.toList)))]) := by
 refine Fn.intro Try.func21 rfl Try.ntmps21 (by simp) ?_
 intro w0 K
 refine TC.seq (TC.region (TO.assign rfl (by decide) rfl (TO.assign rfl (by decide) rfl (TO.nil (TX.next (TC.seq (TC.seq (TC.region (TO.move rfl (by decide) rfl (TO.callP (v := .bool true) (vs := [.string s]) rfl (by decide) rfl rfl rfl en_19 (is_eq s (by omega) h0) (TO.un rfl (by decide) rfl un_not (TO.nil (TX.next ?_)))))))))))))
 refine TC.condF rfl (TC.skip (TX.next (TC.seq (TC.region ?_))))
 refine TO.build (v := .agg #[.int .i64 0, .int .i64 0]) (ps := []) rfl (by decide) rfl (fun _ => by kernel_rfl) ?_
 refine TO.buildSlice (cs := [.int .i64 0, .int .i64 0]) (te := 34) (ps := [(0, .tmp 9)]) rfl (by decide) rfl (fun _ => by kernel_rfl) (fun b1 => ?_)
 refine TO.alloc zr_25 rfl (by decide) (fun b2 => ?_)
 refine TO.store (k := 1) (l' := [.slice (some ⟨b1, 0, none⟩) 1 1]) sz_25 rfl rfl rfl rfl rfl (fun _ _ => rfl) rfl ?_
 show TO _ _ _ _ _ _ _ _ _ _ [cells b1 [.int .i64 0, .int .i64 0] 34, cells b2 [.slice (some ⟨b1, 0, none⟩) 1 1] 25]
 refine TO.nil (TX.next (TC.seq (TC.seq (TC.toVec (enc := spV) (size := 2) (k := 0) [((0, 0) : Nat × Nat)] rfl spV_len rfl (by decide) ?_))))
 show TC _ _ _ _ _ _ _ _ _ [vec spV 34 2 (.slice (some ⟨b1, 0, none⟩) 1 1) ([((0, 0) : Nat × Nat)]), cells b2 [.slice (some ⟨b1, 0, none⟩) 1 1] 25]
 refine TC.region (TO.move rfl (by decide) rfl (TO.call (vs := [.string s]) rfl (by decide) rfl rfl rfl en_47 (units_fn s) Splits.nil ?_))
 rintro bp
 show TO _ _ _ _ _ _ _ _ _ _ [vec spV 34 2 (.slice (some ⟨b1, 0, none⟩) 1 1) ([((0, 0) : Nat × Nat)]), cells b2 [.slice (some ⟨b1, 0, none⟩) 1 1] 25, cells bp [.string s] 9]
 refine TO.nil (TX.next (TC.block ?_))
 refine TC.range (α := Un) (β := Value) (γ := Unit) (δ := Nat) (ps := [13]) Ro.nil rfl en_62 (units1_itr s (by omega) bp) (fun pre b => True) (fun pre b => [cells b2 [b] 25, vec spV 34 2 b (partsF pre)]) (fun c pre g => False) (fun c pre g => []) (fun pre x b j => [(4, .pointer (some ⟨b2, 0, none⟩)), (5, .pointer (some ⟨j, 0, none⟩))]) (fun pre x b j => [cells b2 [b] 25, vec spV 34 2 b (partsF pre), cells j [.int .i64 x.k, .int .i32 (x.r : Int), .int .i64 (x.f : Int), .int .i64 (x.t : Int), .bool x.al] 67]) (.slice (some ⟨b1, 0, none⟩) 1 1) trivial (Splits.of [1, 0] (by as_aux_lemma => kernel_rfl) rfl) ⟨.inl ⟨2, rfl⟩, trivial⟩ (fun _ => rfl) (by decide) ?_ ?_ ?_ ?_
 ·
  rintro lp rc pre x post b w1 K1 hxs hext hro hinv
  refine TC.region ?_
  refine TO.alloc zr_67 rfl (by decide) (fun b3 => ?_)
  refine TO.stores (k := 2) (vs := [.int .i64 x.k, .int .i32 (x.r : Int), .int .i64 (x.f : Int), .int .i64 (x.t : Int), .bool x.al]) (l' := [.int .i64 x.k, .int .i32 (x.r : Int), .int .i64 (x.f : Int), .int .i64 (x.t : Int), .bool x.al]) sz_67 rfl rfl rfl rfl rfl (show _ ≤ _ by simp) rfl rfl ?_
  show TO _ _ _ _ _ _ _ _ _ _ [cells b2 [b] 25, vec spV 34 2 b (partsF pre), cells b3 [.int .i64 x.k, .int .i32 (x.r : Int), .int .i64 (x.f : Int), .int .i64 (x.t : Int), .bool x.al] 67]
  refine TO.nil ?_
  exact fun a w ha hw => ⟨b3, (Sbs.cons rfl (Sbs.cons rfl (Sbs.nil))) _ _ _ ha, hw.weaken (Splits.of [0, 1, 2] (by as_aux_lemma => kernel_rfl) rfl)⟩
 ·
  rintro lp rc pre x post b j w1 K1 hxs hext hro hinv
  have hlen : pre.length < (units (pcs s.data.toList)).length := by rw [hxs]; simp
  have hul := units_len s
  have hpl := partsF_len pre
  have hsn := partsF_snoc pre x
  obtain ⟨M, g, hM⟩ := partsF_ne pre
  rw [hM] at hpl hsn
  simp only [List.length_append, List.length_cons, List.length_nil] at hpl
  by_cases hk : x.k = 1
  ·
   refine TC.rewE (k := 1) rfl (show vec spV 34 2 b (partsF pre) = vec spV 34 2 b (M ++ [g]) from (congrArg (fun z => vec spV 34 2 b z) hM)) ?_
   show TC _ _ _ _ _ _ _ _ _ [cells b2 [b] 25, vec spV 34 2 b (M ++ [g]), cells j [.int .i64 x.k, .int .i32 (x.r : Int), .int .i64 (x.f : Int), .int .i64 (x.t : Int), .bool x.al] 67]
   refine TC.block (TC.seq (TC.region (TO.fieldAddr fl_67_0 rfl (by decide) rfl (show _ = 0 from rfl) (TO.load (k := 2) sc_56 rfl (by decide) rfl rfl rfl (TO.bin rfl (by decide) rfl rfl (bin_known (congrArg Value.bool (show ((x.k : Int) == 1) = true from (beq_iff_eq.2 hk))) bin_eql) (TO.nil (TX.next (TC.condT rfl (TC.region (TO.load (k := 0) sc_25 rfl (by decide) rfl rfl rfl (TO.load (k := 0) sc_25 rfl (by decide) rfl rfl rfl (TO.lenVec (k := 1) rfl (by decide) rfl rfl Try.underlying25 (TO.bin rfl (by decide) rfl rfl (bin_sub (r := ((M.length : Nat) : Int)) (by rw [IntWalk.i64_in _ (by simp <;> omega)]; simp)) ?_)))))))))))))
   refine TO.fieldAddr fl_67_2 rfl (by decide) rfl (show _ = 2 from rfl) (TO.fieldAddr fl_34_1 rfl (by decide) rfl (show _ = 3 from rfl) (TO.load (k := 2) sc_3 rfl (by decide) rfl rfl rfl (TO.indexVec (i := M.length) (k := 1) Try.underlying25 sz_34 rfl (by decide) rfl rfl rfl (by simp) rfl (TO.fieldAddr fl_34_1 rfl (by decide) rfl (show _ = M.length * 2 + 1 from rfl) ?_))))
   refine TO.storeVec (i := M.length) (j := 1) (k := 1) (q := g) (q' := (g.1, x.t)) sz_3 spV_len rfl rfl rfl rfl (by simp) rfl (by decide) rfl (fun _ _ => rfl) ?_
   refine TO.nil (TX.blockNormal ?_)
   refine TX.rewE (k := 1) rfl (show vec spV 34 2 b ((M ++ [g]).set M.length (g.1, x.t)) = vec spV 34 2 b (partsF (pre ++ [x])) from (congrArg (fun z => vec spV 34 2 b z) (by rw [hsn]; simp [ptstep, hk]))) ?_
   show TX _ _ _ _ _ _ _ [cells b2 [b] 25, vec spV 34 2 b (partsF (pre ++ [x])), cells j [.int .i64 x.k, .int .i32 (x.r : Int), .int .i64 (x.f : Int), .int .i64 (x.t : Int), .bool x.al] 67]
   exact TX.round b trivial (Splits.of [0, 1] (by as_aux_lemma => kernel_rfl) rfl)
  ·
   refine TC.rewE (k := 1) rfl (show vec spV 34 2 b (partsF pre) = vec spV 34 2 b (M ++ [g]) from (congrArg (fun z => vec spV 34 2 b z) hM)) ?_
   show TC _ _ _ _ _ _ _ _ _ [cells b2 [b] 25, vec spV 34 2 b (M ++ [g]), cells j [.int .i64 x.k, .int .i32 (x.r : Int), .int .i64 (x.f : Int), .int .i64 (x.t : Int), .bool x.al] 67]
   refine TC.block (TC.seq (TC.region (TO.fieldAddr fl_67_0 rfl (by decide) rfl (show _ = 0 from rfl) (TO.load (k := 2) sc_56 rfl (by decide) rfl rfl rfl (TO.bin rfl (by decide) rfl rfl (bin_known (congrArg Value.bool (show ((x.k : Int) == 1) = false from (beq_eq_false_iff_ne.2 hk))) bin_eql) (TO.nil (TX.next (TC.condF rfl (TC.region (TO.load (k := 0) sc_25 rfl (by decide) rfl rfl rfl (TO.fieldAddr fl_67_2 rfl (by decide) rfl (show _ = 2 from rfl) (TO.fieldAddr fl_34_1 rfl (by decide) rfl (show _ = 3 from rfl) (TO.load (k := 2) sc_3 rfl (by decide) rfl rfl rfl ?_)))))))))))))
   refine TO.build (v := .agg #[.int .i64 (x.t : Int), .int .i64 0]) (ps := [(0, .tmp 29)]) rfl (by decide) rfl (fun _ => by kernel_rfl) ?_
   refine TO.buildSlice (cs := [.int .i64 (x.t : Int), .int .i64 0]) (te := 34) (ps := [(0, .tmp 30)]) rfl (by decide) rfl (fun _ => by kernel_rfl) (fun b4 => ?_)
   refine TO.appendVec (k := 1) (k2 := 3) (ys := [(x.t, 0)]) Try.underlying25 el_34 spV_len spV_one rfl (by decide) rfl rfl rfl rfl rfl rfl (by simp <;> omega) (fun v5 => ?_)
   refine TO.store (k := 0) (l' := [v5]) sz_25 rfl rfl rfl rfl rfl (fun _ h => one_vec h (k := 1) rfl) rfl ?_
   show TO _ _ _ _ _ _ _ _ _ _ [cells b2 [v5] 25, vec spV 34 2 v5 ((M ++ [g]) ++ ([(x.t, 0)])), cells j [.int .i64 x.k, .int .i32 (x.r : Int), .int .i64 (x.f : Int), .int .i64 (x.t : Int), .bool x.al] 67, cells b4 [.int .i64 (x.t : Int), .int .i64 0] 34]
   refine TO.nil (TX.blockNormal ?_)
   refine TX.rewE (k := 1) rfl (show vec spV 34 2 v5 ((M ++ [g]) ++ ([(x.t, 0)])) = vec spV 34 2 v5 (partsF (pre ++ [x])) from (congrArg (fun z => vec spV 34 2 v5 z) (by rw [hsn]; simp [ptstep, hk]))) ?_
   show TX _ _ _ _ _ _ _ [cells b2 [v5] 25, vec spV 34 2 v5 (partsF (pre ++ [x])), cells j [.int .i64 x.k, .int .i32 (x.r : Int), .int .i64 (x.f : Int), .int .i64 (x.t : Int), .bool x.al] 67, cells b4 [.int .i64 (x.t : Int), .int .i64 0] 34]
   exact TX.round v5 trivial (Splits.of [0, 1] (by as_aux_lemma => kernel_rfl) rfl)
 ·
  rintro d b hinv
  show TX _ _ _ _ _ _ _ [emp, emp, cells bp [.string s] 9, cells b2 [b] 25, vec spV 34 2 b (partsF (units (pcs s.data.toList))), mark d]
  refine TX.blockNormal (TX.next (TC.seq (TC.region (TO.load (k := 3) sc_25 rfl (by decide) rfl rfl rfl (TO.assign rfl (by decide) rfl (TO.assign rfl (by decide) rfl (TO.nil (TX.next (TC.ret ?_)))))))))
  exact TX.finM (rs := [.tmp 2, .tmp 3]) [d] b (.inl rfl) (Splits.of [5] (by as_aux_lemma => kernel_rfl) rfl) Try.results21 (.cons (.tmp rfl) (.cons (.tmp rfl) .nil)) rfl (Splits.of [4] (by as_aux_lemma => kernel_rfl) rfl)
 ·
  rintro d c pre x post g hxs hX
  exact hX.elim
end Go.Proofs.Ytgeefojgkbglnaa
namespace Go.Proofs.Ytgeefojgkbglnaa
open Go.RowKit Go.Lib Go.Shelf
set_option linter.unusedVariables false
set_option linter.unusedSimpArgs false

def vowelRunes : List Int := [0x101, 0x103, 0x105, 0x113, 0x115, 0x117, 0x119, 0x11b, 0x129, 0x12b, 0x12d, 0x12f, 0x131, 0x14d, 0x14f, 0x151, 0x153, 0x169, 0x16b, 0x16d, 0x16f, 0x171, 0x173, 0x177,
  0x390, 0x3ac, 0x3ad, 0x3ae, 0x3af, 0x3b0, 0x3b1, 0x3b5, 0x3b7, 0x3b9, 0x3bf, 0x3c5, 0x3c9, 0x3ca, 0x3cb, 0x3cc, 0x3cd, 0x3ce,
  0x430, 0x435, 0x438, 0x43e, 0x443, 0x44b, 0x44d, 0x44e, 0x44f, 0x450, 0x451, 0x454, 0x456, 0x457, 0x45d]
/-- Of a small letter. -/
def vowelL (r : Int) : Bool :=
  if r < 0x80 then decide (r = 97 ∨ r = 101 ∨ r = 105 ∨ r = 111 ∨ r = 117 ∨ r = 121)
  else if r < 0x100 then small r && decide (r ≠ 0xDF ∧ r ≠ 0xE7 ∧ r ≠ 0xF0 ∧ r ≠ 0xF1 ∧ r ≠ 0xFE)
  else vowelRunes.contains r
def vowel (r : Int) : Bool := vowelL (lower r)

def vowelS : ByteArray := ⟨#[196, 129, 196, 131, 196, 133, 196, 147, 196, 149, 196, 151, 196, 153, 196, 155, 196, 169, 196, 171, 196, 173, 196, 175, 196, 177, 197, 141, 197, 143, 197, 145, 197, 147, 197, 169, 197, 171, 197, 173, 197, 175, 197, 177, 197, 179, 197, 183, 206, 144, 206, 172, 206, 173, 206, 174, 206, 175, 206, 176, 206, 177, 206, 181, 206, 183, 206, 185, 206, 191, 207, 133, 207, 137, 207, 138, 207, 139, 207, 140, 207, 141, 207, 142, 208, 176, 208, 181, 208, 184, 208, 190, 209, 131, 209, 139, 209, 141, 209, 142, 209, 143, 209, 144, 209, 145, 209, 148, 209, 150, 209, 151, 209, 157]⟩
theorem vowelS_runes : (pcs vowelS.data.toList).map (fun p => (p.r : Int)) = vowelRunes := by decide +kernel
theorem vowelS_size : vowelS.size = 114 := by decide

theorem vow_low : ∀ n : Nat, n < 128 → 0 < n → ((0 ≤ indexByte [97, 101, 105, 111, 117, 121] (UInt8.ofNat n)) ↔ (n = 97 ∨ n = 101 ∨ n = 105 ∨ n = 111 ∨ n = 117 ∨ n = 121)) := by decide +kernel

theorem vow_lowA (x : Int) (hl : x < 128) (h : 0 ≤ indexByte [97, 101, 105, 111, 117, 121] (UInt8.ofNat (x % 256).toNat)) : decide (0 < x) = vowelL x := by
  unfold vowelL
  rw [if_pos (by omega)]
  by_cases h0 : 0 < x
  · have := (vow_low x.toNat (by omega) (by omega)).1 (by rw [show x.toNat = (x % 256).toNat from by omega]; exact h)
    rw [decide_eq_true h0, eq_comm, decide_eq_true_eq]; omega
  · rw [decide_eq_false h0, eq_comm, decide_eq_false_iff_not]; omega
theorem vow_lowB (x : Int) (hl : x < 128) (h : indexByte [97, 101, 105, 111, 117, 121] (UInt8.ofNat (x % 256).toNat) < 0) : false = vowelL x := by
  unfold vowelL
  rw [if_pos (by omega), eq_comm, decide_eq_false_iff_not]
  intro hc
  have := (vow_low x.toNat (by omega) (by omega)).2 (by omega)
  rw [show x.toNat = (x % 256).toNat from by omega] at this
  omega

/-- A range over vowelS that looks for a rune: at a round's head. -/
def VowRel (w : World) (x : Int) (wr : World) : Prop :=
  ∃ pre pos, pcs vowelS.data.toList = pre ++ pcsFrom pos (vowelS.data.toList.drop pos) ∧ pos ≤ vowelS.size ∧ (∀ p ∈ pre, (Pc.r p : Int) ≠ x) ∧ Below w.heap.size w wr ∧ wr.heap[w.heap.size]? = some (.stringIter vowelS pos)
theorem VowRel.start (w : World) (x : Int) : VowRel w x (w.iter vowelS 0) :=
  ⟨[], 0, rfl, Nat.zero_le _, by simp, (Below.refl _ _).alloc (Nat.le_refl _) _, World.iter_heap w vowelS 0⟩
theorem VowRel.round {P : Program} {w wr : World} {x : Int} (h : VowRel w x wr) :
    (∃ (pos r : Nat) (W1 : World), (∀ ty, (Instr.next (.pointer (some ⟨w.heap.size, 0, none⟩)) true ty).run P wr = .ok (.tuple #[.bool true, .int .i64 pos, .int .i32 r]) W1) ∧ Below w.heap.size w W1 ∧
      (((r : Int) = x ∧ vowelRunes.contains x = true) ∨ ((r : Int) ≠ x ∧ VowRel w x W1 ∧ vowelS.size - W1.iterPos w.heap.size < vowelS.size - wr.iterPos w.heap.size))) ∨
    ((∀ ty, (Instr.next (.pointer (some ⟨w.heap.size, 0, none⟩)) true ty).run P wr = .ok (.tuple #[.bool false]) wr) ∧ Below w.heap.size w wr ∧ vowelRunes.contains x = false) := by
  obtain ⟨pre, pos, hx, hpos, hpre, hb, hit⟩ := h
  by_cases hlt : pos < vowelS.size
  · obtain ⟨r, wd, W1, hn, hf, hit1, hsz, hok, hp, hle, h1⟩ := next_some P wr w.heap.size vowelS pos hit hlt
    have hb1 : Below w.heap.size w W1 := hb.trans (hf.toBelow hb.size (by intro k hk; omega))
    refine .inl ⟨pos, r, W1, hn, hb1, ?_⟩
    rw [hp] at hx
    by_cases he : (r : Int) = x
    · refine .inl ⟨he, ?_⟩
      rw [← vowelS_runes, hx, List.contains_iff_mem, List.mem_map]
      exact ⟨⟨pos, wd, r⟩, by simp, he⟩
    · refine .inr ⟨he, ⟨pre ++ [⟨pos, wd, r⟩], pos + wd, by rw [hx]; simp, hle, ?_, hb1, hit1⟩, ?_⟩
      · intro p hp
        rcases List.mem_append.1 hp with h | h
        · exact hpre p h
        · simp at h; subst h; exact he
      · rw [iterPos_at hit, iterPos_at hit1]; omega
  · obtain ⟨hn, hp⟩ := next_none P wr w.heap.size vowelS pos hit hlt
    refine .inr ⟨hn, hb, ?_⟩
    rw [hp, List.append_nil] at hx
    rw [← vowelS_runes, hx, ← Bool.not_eq_true, List.contains_iff_mem, List.mem_map]
    rintro ⟨p, hm, he⟩
    exact hpre p hm he

end Go.Proofs.Ytgeefojgkbglnaa
namespace Go.Proofs.Ytgeefojgkbglnaa
open Go.RowKit Go.Lib Go.Shelf
set_option linter.unusedVariables false
set_option linter.unusedSimpArgs false

def inB (r a b : Int) : Bool := decide (a ≤ r ∧ r ≤ b)
theorem rin_any (r a b : Int) (w : World) :
    Calls Try.prog 76 #[.int .i32 r, .int .i32 a, .int .i32 b] w fun e w' => e = .returned (.bool (inB r a b)) ∧ w = w' := by
  go_enter Try.func76, Try.ntmps76
  go_wp2
  all_goals
    go_ret
    refine ⟨ret_bool ?_, rfl⟩
    (go_light; rw [Bool.eq_iff_iff]; simp only [inB, decide_eq_true_eq, bne_iff_ne, ne_eq, Bool.not_eq_true', decide_eq_false_iff_not, Bool.and_eq_true, Bool.or_eq_true, Bool.or_eq_false_iff, Bool.and_eq_false_iff, bne_eq_false_iff_eq, beq_iff_eq, beq_eq_false_iff_ne, Bool.false_eq_true, false_iff, true_iff, iff_true, iff_false, Bool.not_eq_false', Bool.not_true, Bool.not_false] at *; omega)

theorem mod2 (r : Int) (h : 0 ≤ r) : Int.tmod r 2 = r % 2 := by
  rw [Int.tmod_eq_emod_of_nonneg h]

set_option maxHeartbeats 4000000 in
theorem rgreat_any (r : Int) (w : World) (h0 : -2147483648 ≤ r) (h1 : r ≤ 2147483647) :
    Calls Try.prog 77 #[.int .i32 r] w fun e w' => e = .returned (.bool (great r)) ∧ w = w' := by
  by_cases hn : 0 ≤ r
  · go_enter Try.func77, Try.ntmps77
    go_wp2_with (first | (go_at_call 76; refine (rin_any _ _ _ _).mono ?_; rintro e w' ⟨rfl, rfl⟩))
    all_goals
      go_ret
      refine ⟨ret_bool ?_, rfl⟩
      (go_light; rw [Bool.eq_iff_iff, great_iff]; simp only [inB, greatP, decide_eq_true_eq, bne_iff_ne, ne_eq, Bool.not_eq_true', decide_eq_false_iff_not, Bool.and_eq_true, Bool.or_eq_true, Bool.or_eq_false_iff, Bool.and_eq_false_iff, bne_eq_false_iff_eq, beq_iff_eq, beq_eq_false_iff_ne, Bool.false_eq_true, false_iff, true_iff, iff_true, iff_false, Bool.not_eq_false', Bool.not_true, Bool.not_false] at *; omega)
  · have i1 : ∀ a b : Int, 0 ≤ a → inB r a b = false := by intro a b ha; simp [inB]; omega
    have hm : great r = false := by rw [Bool.eq_false_iff]; intro h; rw [great_iff] at h; unfold greatP at h; omega
    go_enter Try.func77, Try.ntmps77
    go_wp2_with (first | (go_at_call 76; refine (rin_any _ _ _ _).mono ?_; rintro e w' ⟨rfl, rfl⟩))
    all_goals
      go_ret
      refine ⟨ret_bool ?_, rfl⟩
      (go_light; rw [Bool.eq_iff_iff, great_iff]; simp only [inB, greatP, decide_eq_true_eq, bne_iff_ne, ne_eq, Bool.not_eq_true', decide_eq_false_iff_not, Bool.and_eq_true, Bool.or_eq_true, Bool.or_eq_false_iff, Bool.and_eq_false_iff, bne_eq_false_iff_eq, beq_iff_eq, beq_eq_false_iff_ne, Bool.false_eq_true, false_iff, true_iff, iff_true, iff_false, Bool.not_eq_false', Bool.not_true, Bool.not_false] at *; omega)


set_option maxHeartbeats 4000000 in
theorem rsmall_any (r : Int) (w : World) (h0 : -2147483648 ≤ r) (h1 : r ≤ 2147483647) :
    Calls Try.prog 78 #[.int .i32 r] w fun e w' => e = .returned (.bool (small r)) ∧ w = w' := by
  by_cases hn : 0 ≤ r
  · go_enter Try.func78, Try.ntmps78
    go_wp2_with (first | (go_at_call 76; refine (rin_any _ _ _ _).mono ?_; rintro e w' ⟨rfl, rfl⟩))
    all_goals
      go_ret
      refine ⟨ret_bool ?_, rfl⟩
      (go_light; rw [Bool.eq_iff_iff, small_iff]; simp only [inB, smallP, decide_eq_true_eq, bne_iff_ne, ne_eq, Bool.not_eq_true', decide_eq_false_iff_not, Bool.and_eq_true, Bool.or_eq_true, Bool.or_eq_false_iff, Bool.and_eq_false_iff, bne_eq_false_iff_eq, beq_iff_eq, beq_eq_false_iff_ne, Bool.false_eq_true, false_iff, true_iff, iff_true, iff_false, Bool.not_eq_false', Bool.not_true, Bool.not_false] at *; omega)
  · have i1 : ∀ a b : Int, 0 ≤ a → inB r a b = false := by intro a b ha; simp [inB]; omega
    have hm : small r = false := by rw [Bool.eq_false_iff]; intro h; rw [small_iff] at h; unfold smallP at h; omega
    go_enter Try.func78, Try.ntmps78
    go_wp2_with (first | (go_at_call 76; refine (rin_any _ _ _ _).mono ?_; rintro e w' ⟨rfl, rfl⟩))
    all_goals
      go_ret
      refine ⟨ret_bool ?_, rfl⟩
      (go_light; rw [Bool.eq_iff_iff, small_iff]; simp only [inB, smallP, decide_eq_true_eq, bne_iff_ne, ne_eq, Bool.not_eq_true', decide_eq_false_iff_not, Bool.and_eq_true, Bool.or_eq_true, Bool.or_eq_false_iff, Bool.and_eq_false_iff, bne_eq_false_iff_eq, beq_iff_eq, beq_eq_false_iff_ne, Bool.false_eq_true, false_iff, true_iff, iff_true, iff_false, Bool.not_eq_false', Bool.not_true, Bool.not_false] at *; omega)

end Go.Proofs.Ytgeefojgkbglnaa
namespace Go.Proofs.Ytgeefojgkbglnaa
open Go.RowKit Go.Lib Go.Shelf
set_option linter.unusedVariables false
set_option linter.unusedSimpArgs false

set_option maxRecDepth 20000 in
set_option maxHeartbeats 4000000 in
theorem rkind_any (r : Int) (w : World) (h0 : -2147483648 ≤ r) (h1 : r ≤ 2147483647) :
    Calls Try.prog 60 #[.int .i32 r] w fun e w' => e = .returned (.int .i64 (kind r)) ∧ w = w' := by
  go_enter Try.func60, Try.ntmps60
  go_wp2_with (first | (go_at_call 76; refine (rin_any _ _ _ _).mono ?_; rintro e w' ⟨rfl, rfl⟩) | (go_at_call 77; refine (rgreat_any _ _ (by omega) (by omega)).mono ?_; rintro e w' ⟨rfl, rfl⟩) | (go_at_call 78; refine (rsmall_any _ _ (by omega) (by omega)).mono ?_; rintro e w' ⟨rfl, rfl⟩))
  all_goals
    go_ret
    refine ⟨ret_int ?_, rfl⟩
    go_light
    try simp only [inB, decide_eq_true_eq, bne_iff_ne, ne_eq, Bool.not_eq_true', decide_eq_false_iff_not, Bool.and_eq_true, Bool.or_eq_true, Bool.or_eq_false_iff, Bool.and_eq_false_iff, bne_eq_false_iff_eq, beq_iff_eq, beq_eq_false_iff_ne, Bool.false_eq_true, false_iff, true_iff, iff_true, iff_false, Bool.not_eq_false', Bool.not_true, Bool.not_false] at *
    grind (splits := 60) [kind, kindP, letter]

theorem vow_true (x : Int) (h : x = 97 ∨ x = 101 ∨ x = 105 ∨ x = 111 ∨ x = 117 ∨ x = 121 ∨ (224 ≤ x ∧ x ≤ 230) ∨ (232 ≤ x ∧ x ≤ 239) ∨ (242 ≤ x ∧ x ≤ 246) ∨ (248 ≤ x ∧ x ≤ 253) ∨ x = 255) : true = vowelL x := by
  unfold vowelL
  by_cases h1 : x < 128
  · rw [if_pos h1, eq_comm, decide_eq_true_eq]; omega
  · rw [if_neg h1, if_pos (by omega), eq_comm, Bool.and_eq_true, decide_eq_true_eq, small_iff]
    unfold smallP; omega
theorem vow_rest (x : Int) (h : ¬ (x = 97 ∨ x = 101 ∨ x = 105 ∨ x = 111 ∨ x = 117 ∨ x = 121 ∨ (224 ≤ x ∧ x ≤ 230) ∨ (232 ≤ x ∧ x ≤ 239) ∨ (242 ≤ x ∧ x ≤ 246) ∨ (248 ≤ x ∧ x ≤ 253) ∨ x = 255)) : vowelL x = vowelRunes.contains x := by
  unfold vowelL
  have hc : x < 256 → vowelRunes.contains x = false := by
    intro hx
    rw [← Bool.not_eq_true, List.contains_iff_mem]
    intro hm
    simp [vowelRunes] at hm
    omega
  by_cases h1 : x < 128
  · rw [if_pos h1, hc (by omega), decide_eq_false_iff_not]; omega
  · rw [if_neg h1]
    by_cases h2 : x < 256
    · rw [if_pos h2, hc h2, Bool.and_eq_false_iff, decide_eq_false_iff_not, ← Bool.not_eq_true, small_iff]
      unfold smallP; omega
    · rw [if_neg h2]

end Go.Proofs.Ytgeefojgkbglnaa
namespace Go.Proofs.Ytgeefojgkbglnaa
open Go.RowKit Go.Lib
set_option linter.unusedVariables false
set_option linter.unusedSimpArgs false
/-- A text's pieces, units, tokens, words. -/
def psOf (s : ByteArray) : List Pc := pcs s.data.toList
def usOf (s : ByteArray) : List Un := units (psOf s)
def tksOf (s : ByteArray) : List Tk := scan (usOf s)
def wsOf (s : ByteArray) : List (Nat × Nat) := wds (tksOf s)
def spG (p : Nat × Nat) : Gapi_Span := ⟨p.1, p.2⟩
def tkG (t : Tk) : Gapi_Token := ⟨t.k, t.f, t.t⟩
def nxG (o : Option (Nat × Nat)) : Gapi_Span × Bool := match o with | some p => (spG p, true) | none => (⟨0, 0⟩, false)
def atG (o : Option Tk) : Gapi_Token × Int := match o with | some p => (tkG p, 0) | none => (⟨0, 0, 0⟩, 5)
def ptG (s v : ByteArray) (o : Option (Nat × Nat)) : ByteArray × Int := match o with | some g => (s.extract 0 g.1 ++ v ++ s.extract g.2 s.size, 0) | none => (⟨#[]⟩, 4)
def nextO (s : ByteArray) (n : Int) : Option (Nat × Nat) := (wsOf s).find? (fun p => decide (n ≤ (p.1 : Int)))
def lastOf (s : ByteArray) (n : Int) : Nat × Nat := lastP ((wsOf s).takeWhile (fun p => decide ((p.2 : Int) ≤ n)))
theorem wcount_c (s : ByteArray) (hs : s.size ≤ 140737488351232) : FnP Try.prog 17 [.string s] (.tuple #[.int .i64 ((tksOf s).length : Int), .int .i64 ((wsOf s).length : Int)]) := count_p s hs
theorem wnext_c (s : ByteArray) (hs : s.size ≤ 140737488351232) (n : Int) : FnP Try.prog 35 [.string s, .int .i64 n] (.tuple #[.agg #[.int .i64 (nxG (nextO s n)).1.From, .int .i64 (nxG (nextO s n)).1.To], .bool (nxG (nextO s n)).2]) := by
  have h := next_p s hs n
  have e : ∀ o, nextV o = .tuple #[.agg #[.int .i64 (nxG o).1.From, .int .i64 (nxG o).1.To], .bool (nxG o).2] := fun o => by cases o <;> rfl
  rw [e] at h; exact h
theorem wnth_c (s : ByteArray) (hs : s.size ≤ 140737488351232) (n : Int) (hn : I64 n) : FnP Try.prog 28 [.string s, .int .i64 n] (.tuple #[.agg #[.int .i64 (nxG (nthW (wsOf s) n)).1.From, .int .i64 (nxG (nthW (wsOf s) n)).1.To], .bool (nxG (nthW (wsOf s) n)).2]) := by
  have h := nth_p s hs n hn
  have e : ∀ o, nextV o = .tuple #[.agg #[.int .i64 (nxG o).1.From, .int .i64 (nxG o).1.To], .bool (nxG o).2] := fun o => by cases o <;> rfl
  rw [e] at h; exact h
theorem wat_c (s : ByteArray) (hs : s.size ≤ 140737488351232) (n : Int) : FnP Try.prog 27 [.string s, .int .i64 n] (.tuple #[.agg #[.int .i64 (atG (tokAt (tksOf s) n)).1.Kind, .int .i64 (atG (tokAt (tksOf s) n)).1.Span_From, .int .i64 (atG (tokAt (tksOf s) n)).1.Span_To], .int .i64 (atG (tokAt (tksOf s) n)).2]) := by
  have h := at_p s hs n
  have e : ∀ o, atV o = .tuple #[.agg #[.int .i64 (atG o).1.Kind, .int .i64 (atG o).1.Span_From, .int .i64 (atG o).1.Span_To], .int .i64 (atG o).2] := fun o => by cases o <;> rfl
  rw [e] at h; exact h
theorem wlast_c (s : ByteArray) (hs : s.size ≤ 140737488351232) (n : Int) : FnP Try.prog 37 [.string s, .int .i64 n] (.tuple #[.agg #[.int .i64 ((lastOf s n).1 : Int), .int .i64 ((lastOf s n).2 : Int)], .bool (decide ((0 : Int) < ((lastOf s n).2 : Int)))]) := last_p s hs n
theorem wedge_c (s : ByteArray) (hs : s.size ≤ 140737488351232) (n : Int) : FnP Try.prog 26 [.string s, .int .i64 n] (.bool (edge (tksOf s) n)) := edge_p s hs n
theorem wis_c (s : ByteArray) (hs : s.size ≤ 140737488351232) : FnP Try.prog 19 [.string s] (.bool (isWord (tksOf s) s.size)) := is_p s hs
theorem wput_c (s v : ByteArray) (hs : s.size ≤ 140737488351232) (hv : v.size ≤ 140737488351232) (n : Int) (hn : I64 n) : FnP Try.prog 29 [.string s, .int .i64 n, .string v] (.tuple #[.string (ptG s v (nthW (wsOf s) n)).1, .int .i64 (ptG s v (nthW (wsOf s) n)).2]) := by
  have h := put_p s v hs hv n hn
  have e : ∀ o, putV s v o = .tuple #[.string (ptG s v o).1, .int .i64 (ptG s v o).2] := fun o => by cases o <;> rfl
  rw [e] at h; exact h
theorem wtrim_c (s : ByteArray) (hs : s.size ≤ 140737488351232) : FnP Try.prog 30 [.string s] (.string (trimS s)) := trim_p s hs
theorem wplain_c (s : ByteArray) (hs : s.size ≤ 1099511627776) : FnP Try.prog 32 [.string s] (.string (plF s (wsOf s))) := plain_p s hs
theorem vec_map {α β : Type} {enc : α → List Value} {enc' : β → List Value} {f : α → β} (h : ∀ x, enc x = enc' (f x)) (e : TypeId) (size : Nat) (v : Value) (xs : List α) : vec enc e size v xs = vec enc' e size v (xs.map f) := by
  have h1 : xs.flatMap enc = (xs.map f).flatMap enc' := by
    rw [List.flatMap_map]; congr 1; funext x; exact h x
  have : ∀ C w, Vec enc e size v xs C w ↔ Vec enc' e size v (xs.map f) C w := fun C w => by
    unfold Vec Rw; rw [h1, List.length_map]
  unfold vec
  congr 1
  funext C w
  exact propext (this C w)
/-- A word's parts, and the error's number. -/
def ptsG (s : ByteArray) : List Gapi_Span × Int := if isWord (tksOf s) s.size then ((partsF (usOf s)).map spG, 0) else ([], 2)
theorem wparts_c (s : ByteArray) (hs : s.size ≤ 1073741824) : Fn Try.prog 21 [.string s] [] (fun v : Value => .tuple #[v, .int .i64 (ptsG s).2]) (fun v => [vec enc_Gapi_Span 34 2 v (ptsG s).1]) := by
  unfold ptsG
  by_cases h0 : isWord (tksOf s) s.size = true
  · rw [if_pos h0]
    have h := parts_yes s hs h0
    intro w C hC
    refine (h w C hC).mono ?_
    rintro e w' ⟨v, rfl, C', hB, hx⟩
    refine ⟨v, rfl, C', ?_, hx⟩
    have e := vec_map (enc := spV) (f := spG) (enc' := enc_Gapi_Span) (fun x => rfl) 34 2 v (partsF (usOf s))
    show sepL [vec enc_Gapi_Span 34 2 v ((partsF (usOf s)).map spG)] C' w'
    rw [← e]; exact hB
  · rw [if_neg h0]
    have h := parts_no s hs (Bool.eq_false_iff.2 h0)
    intro w C hC
    refine (h.fn w C hC).mono ?_
    rintro e w' ⟨_, rfl, C', hB, hx⟩
    refine ⟨.slice none 0 0, rfl, C', ?_, hx⟩
    have h2 : C' = fun _ => False := funext fun k => propext ⟨fun h => absurd h (hB k), fun h => h.elim⟩
    subst h2
    exact sepL.one (A := vec enc_Gapi_Span 34 2 (.slice none 0 0) ([] : List Gapi_Span)) Vec.nil
theorem index_arr {P : Program} {t e : TypeId} {α : Type} {enc : α → List Value} {size n : Nat} {xs : List α} {i : Int} {q : α} {v : Value} (ht : P.underlying t = some (.array n e)) (hT : SizeOk P e size) (hn : xs.length = n) (hlen : ∀ x, (enc x).length = size) (hq : getO xs i = some q)
    (hv : ∀ w : World, (part e (xs.flatMap enc).toArray (i.toNat * size)).run P w = .ok v w) (w : World) : (Instr.index t (.agg (xs.flatMap enc).toArray) (.int .i64 i)).run P w = .ok v w := by
  obtain ⟨ii, hu, hs⟩ := hT.some
  subst hs
  obtain ⟨h0, h1⟩ := getO_pos hq
  have h2 : ¬ i < 0 := by omega
  have h3 : i < (n : Int) := by omega
  have := hv w
  simp [Instr.index, asIntOf, run_underlying ht, Sem.run_bind, sizeOf, typeInfo, hu, h0, h3, this]
theorem part_arr {P : Program} {e : TypeId} {α : Type} {enc : α → List Value} {xs : List α} {i : Nat} {q : α} {v : Value} {w : World} (hT : ScalarOk P e) (hlen : ∀ x, (enc x).length = 1) (hv : [v] = enc q) (hq : xs[i]? = some q) :
    (part e (xs.flatMap enc).toArray (i * 1)).run P w = .ok v w := by
  obtain ⟨dd, hu, hr⟩ := hT
  have h1 : (xs.flatMap enc)[i * 1]? = some v := by
    have := flat_get hlen xs i 0 q hq (by omega)
    rw [Nat.add_zero] at this
    rw [this, ← hv]; rfl
  have h2 : (xs.flatMap enc).toArray[i * 1]? = some v := by simpa using h1
  cases dd <;> simp_all [part, isAgg, run_underlying hu, Sem.run_bind]
end Go.Proofs.Ytgeefojgkbglnaa
namespace Go.Proofs.Ytgeefojgkbglnaa
open Go.RowKit Go.Lib
set_option linter.unusedVariables false
set_option linter.unusedSimpArgs false
def ref07_Units_s1 (j1 : (List Gref07_Unit) → Option (List Gref07_Unit)) (r1 : (List Gapi_Piece)) (ag1 : (List Gref07_Unit) → Int → Option (List Gref07_Unit)) (l4 : List Gref07_Unit) (x3 : Int) : Option (List Gref07_Unit) := bcond (decide ((x3 : Int) < (r1.length : Int))) ( joinK (fun (j2 : (List Gref07_Unit) → Option (List Gref07_Unit)) => joinK (fun (j3 : Int → Int → Int → Bool → Int → Option (List Gref07_Unit)) => andThen (getO r1 x3) fun (q1 : Gapi_Piece) => grd (I32 q1.Rune) <| bcond (q1.Broken) ( j3 q1.At q1.Width q1.Rune q1.Broken 11
) ( j3 q1.At q1.Width q1.Rune q1.Broken (kind q1.Rune)
)
) (fun (p1 : Int) (p2 : Int) (p3 : Int) (p4 : Bool) (k1 : Int) => joinK (fun (j4 : Option (List Gref07_Unit)) => bcond ((k1 : Int) == 2) ( bcond (decide ((0 : Int) < (l4.length : Int))) ( grd (I64 ((l4.length : Int) - 1)) <| andThen (getO l4 ((l4.length : Int) - 1)) fun (q2 : Gref07_Unit) => bcond ((q2.Kind : Int) != 11) ( grd (I64 ((l4.length : Int) - 1)) <| bcond ((q2.Kind : Int) != 4) ( grd (I64 ((l4.length : Int) - 1)) <| bcond ((q2.Kind : Int) != 9) ( grd (I64 ((l4.length : Int) - 1)) <| andThen (getO l4 ((l4.length : Int) - 1)) fun (q3 : Gref07_Unit) => grd (I64 (q3.Span_To + p2)) <| grd (I64 ((l4.length : Int) - 1)) <| andThen (getO (l4.set ((l4.length : Int) - 1 : Int).toNat (⟨q3.Kind, q3.Span_From, q3.Span_To + p2, q3.Rune, q3.Alone⟩ : Gref07_Unit)) ((l4.length : Int) - 1)) fun (q4 : Gref07_Unit) => j2 ((l4.set ((l4.length : Int) - 1 : Int).toNat (⟨q3.Kind, q3.Span_From, q3.Span_To + p2, q3.Rune, q3.Alone⟩ : Gref07_Unit)).set ((l4.length : Int) - 1 : Int).toNat (⟨q4.Kind, q4.Span_From, q4.Span_To, q4.Rune, false⟩ : Gref07_Unit))
) ( j4
)
) ( j4
)
) ( j4
)
) ( j4
)
) ( j4
)
) ( grd (I64 (p1 + p2)) <| grd (l4.length + 1 ≤ 2147483648) <| j2 (l4 ++ [(⟨k1, p1, p1 + p2, p3, true⟩ : Gref07_Unit)])
)
)
) (fun (l5 : List Gref07_Unit) => grd (I64 (x3 + 1)) <| ag1 l5 (x3 + 1)
)
) ( j1 l4
)
def ref07_Units_v (s1 : ByteArray) : Option (List Gref07_Unit) := joinK (fun (j1 : (List Gref07_Unit) → Option (List Gref07_Unit)) => andThen (ref01_Pieces_v s1) fun (r1 : (List Gapi_Piece)) => loopG (fun _ _ => none) (ref07_Units_s1 j1 r1) fuel ([] : List Gref07_Unit) 0
) (fun (l1 : List Gref07_Unit) => some l1
)
set_option maxRecDepth 100000 in
set_option maxHeartbeats 4000000 in
theorem ref07_Units_fn {s1 : ByteArray} {r : (List Gref07_Unit)} (h : ref07_Units_v s1 = some r) : Fn Try.prog 43 [.string s1] [] (fun v0 : Value => v0) (fun v0 => [vec enc_Gref07_Unit 62 5 v0 r]) := by
 unfold ref07_Units_v at h
 refine Fn.intro Try.func43 rfl Try.ntmps43 (by simp) ?_
 intro w0 K
 obtain ⟨j1, hj1, h⟩ := joinE h
 refine TC.cutN (β := (List Gref07_Unit) × Value) 2 rfl (fun b => j1 b.1 = some r) (fun b => []) (fun b => [(3, b.2)]) (fun b => [vec enc_Gref07_Unit 62 5 b.2 b.1]) (fun cut => ?_) ?_
 ·
  refine TC.seq (TC.region (TO.assign rfl (by decide) rfl (TO.nil (TX.next (TC.seq (TC.region (TO.assign rfl (by decide) rfl (TO.nil (TX.next (cut (TC.seq (TC.region (TO.move rfl (by decide) rfl ?_)))))))))))))
  obtain ⟨r1, hq1, h⟩ := andE h
  refine TO.call (vs := [.string s1]) rfl (by decide) rfl rfl rfl en_59 (ref01_Pieces_fn hq1) Splits.nil ?_
  rintro v2
  show TO _ _ _ _ _ _ _ _ _ _ [vec enc_Gapi_Piece 78 4 v2 r1]
  refine TO.lenVec (k := 0) rfl (by decide) rfl rfl Try.underlying86 (TO.move rfl (by decide) rfl (TO.nil (TX.next (TC.block (TC.newVec (enc := enc_Gref07_Unit) (e := 62) (size := 5) ?_)))))
  show TC _ _ _ _ _ _ _ _ _ [vec enc_Gapi_Piece 78 4 v2 r1, vec enc_Gref07_Unit 62 5 (.slice none 0 0) ([] : List Gref07_Unit)]
  refine TC.loopD (β := Nat × (List Gref07_Unit) × Int × Value) (fun b => loopG (fun _ _ => none) (ref07_Units_s1 j1 r1) b.1 b.2.1 b.2.2.1 = some r) (fun b => []) (fun b => [(3, b.2.2.2), (9, v2), (10, .int .i64 (r1.length : Int)), (11, .int .i64 b.2.2.1)]) (fun b => [vec enc_Gref07_Unit 62 5 b.2.2.2 b.2.1, vec enc_Gapi_Piece 78 4 v2 r1]) (fun b => b.1) (fuel, ([] : List Gref07_Unit), 0, (.slice none 0 0)) h rfl (Sbs.cons rfl (Sbs.cons rfl (Sbs.cons rfl (Sbs.cons rfl (Sbs.nil))))) (Splits.of [1, 0] (by as_aux_lemma => kernel_rfl) rfl) ?_
  rintro ⟨n1, l4, x3, v5⟩ h
  cases n1 with
  | zero => exact noneE h
  | succ n1 =>
   obtain ⟨ag1, hag1⟩ : ∃ ag, ag = loopG (fun _ _ => none) (ref07_Units_s1 j1 r1) n1 := ⟨_, rfl⟩
   have h : ref07_Units_s1 j1 r1 ag1 l4 x3 = some r := by rw [hag1]; exact h
   unfold ref07_Units_s1 at h
   show TC _ _ _ _ _ ([]) _ _ [(3, v5), (9, v2), (10, .int .i64 (r1.length : Int)), (11, .int .i64 x3)] [vec enc_Gref07_Unit 62 5 v5 l4, vec enc_Gapi_Piece 78 4 v2 r1]
   refine TC.seq (TC.region (TO.bin rfl (by decide) rfl rfl bin_lss (TO.nil (TX.next (TC.seq ?_)))))
   refine TC.condB rfl (fun hb1 => ?_) (fun hb1 => ?_)
   ·
    have h := condT hb1 h
    refine TC.skip (TX.next ?_)
    obtain ⟨j2, hj2, h⟩ := joinE h
    refine TC.cutN (β := (List Gref07_Unit) × Value) 0 rfl (fun b => j2 b.1 = some r) (fun b => []) (fun b => [(3, b.2), (9, v2), (10, .int .i64 (r1.length : Int)), (11, .int .i64 x3)]) (fun b => [vec enc_Gref07_Unit 62 5 b.2 b.1, vec enc_Gapi_Piece 78 4 v2 r1]) (fun cut => ?_) ?_
    ·
     refine cut (TC.block ?_)
     obtain ⟨j3, hj3, h⟩ := joinE h
     refine TC.cutN (β := Int × Int × Int × Bool × Int × Nat) 2 rfl (fun b => j3 b.1 b.2.1 b.2.2.1 b.2.2.2.1 b.2.2.2.2.1 = some r) (fun b => []) (fun b => [(3, v5), (5, .pointer (some ⟨b.2.2.2.2.2, 0, none⟩)), (6, .int .i64 b.2.2.2.2.1), (9, v2), (10, .int .i64 (r1.length : Int)), (11, .int .i64 x3)]) (fun b => [vec enc_Gref07_Unit 62 5 v5 l4, cells b.2.2.2.2.2 [.int .i64 b.1, .int .i64 b.2.1, .int .i32 b.2.2.1, .bool b.2.2.2.1] 78, vec enc_Gapi_Piece 78 4 v2 r1]) (fun cut => ?_) ?_
     ·
      refine TC.seq (TC.region ?_)
      obtain ⟨q1, hq2, h⟩ := andE h
      refine TO.indexVecI (k := 1) hq2 Try.underlying86 sz_78 rfl (by decide) rfl rfl rfl rfl (TO.loadsVec (i := (x3 : Int).toNat) (j := 0) (k := 1) (q := q1) (cs := [.int .i64 q1.At, .int .i64 q1.Width, .int .i32 q1.Rune, .bool q1.Broken]) rw_78 enc_Gapi_Piece_len rfl (by decide) rfl rfl (getO_get hq2) rfl rfl rfl ?_)
      refine TO.alloc zr_78 rfl (by decide) (fun b2 => ?_)
      refine TO.stores (k := 2) (vs := [.int .i64 q1.At, .int .i64 q1.Width, .int .i32 q1.Rune, .bool q1.Broken]) (l' := [.int .i64 q1.At, .int .i64 q1.Width, .int .i32 q1.Rune, .bool q1.Broken]) sz_78 rfl rfl rfl rfl rfl (show _ ≤ _ by simp) rfl rfl ?_
      show TO _ _ _ _ _ _ _ _ _ _ [vec enc_Gref07_Unit 62 5 v5 l4, vec enc_Gapi_Piece 78 4 v2 r1, cells b2 [.int .i64 q1.At, .int .i64 q1.Width, .int .i32 q1.Rune, .bool q1.Broken] 78]
      refine TO.nil (TX.next (TC.seq (TC.region (TO.fieldAddr fl_78_2 rfl (by decide) rfl (show _ = 2 from rfl) (TO.load (k := 2) sc_21 rfl (by decide) rfl rfl rfl ?_)))))
      obtain ⟨hg1, h⟩ := grdE h
      refine TO.callP (v := .int .i64 (kind q1.Rune)) (vs := [.int .i32 q1.Rune]) rfl (by decide) rfl rfl rfl en_60 (FnP.of_same fun w => rkind_any q1.Rune w hg1.1 hg1.2) ?_
      refine TO.assign rfl (by decide) rfl (TO.nil (TX.next (cut (TC.seq (TC.region (TO.fieldAddr fl_78_3 rfl (by decide) rfl (show _ = 3 from rfl) (TO.load (k := 2) sc_4 rfl (by decide) rfl rfl rfl (TO.nil (TX.next ?_)))))))))
      refine TC.condB rfl (fun hb2 => ?_) (fun hb2 => ?_)
      ·
       have h := condT hb2 h
       refine TC.region (TO.assign rfl (by decide) rfl (TO.nil ?_))
       exact TX.meetD (q1.At, q1.Width, q1.Rune, q1.Broken, 11, b2) h rfl (Sbs.cons rfl (Sbs.cons rfl (Sbs.cons rfl (Sbs.cons rfl (Sbs.cons rfl (Sbs.cons rfl (Sbs.nil))))))) (Splits.of [0, 2, 1] (by as_aux_lemma => kernel_rfl) rfl)
      ·
       have h := condF hb2 h
       refine TC.skip ?_
       exact TX.meetD (q1.At, q1.Width, q1.Rune, q1.Broken, kind q1.Rune, b2) h rfl (Sbs.cons rfl (Sbs.cons rfl (Sbs.cons rfl (Sbs.cons rfl (Sbs.cons rfl (Sbs.cons rfl (Sbs.nil))))))) (Splits.of [0, 2, 1] (by as_aux_lemma => kernel_rfl) rfl)
     ·
      rintro ⟨p1, p2, p3, p4, k1, b1⟩ h
      subst hj3
      show TC _ _ _ _ _ ([]) _ _ [(3, v5), (5, .pointer (some ⟨b1, 0, none⟩)), (6, .int .i64 k1), (9, v2), (10, .int .i64 (r1.length : Int)), (11, .int .i64 x3)] [vec enc_Gref07_Unit 62 5 v5 l4, cells b1 [.int .i64 p1, .int .i64 p2, .int .i32 p3, .bool p4] 78, vec enc_Gapi_Piece 78 4 v2 r1]
      obtain ⟨j4, hj4, h⟩ := joinE h
      refine TC.cutN (β := Unit) 0 rfl (fun b => j4 = some r) (fun b => []) (fun b => [(3, v5), (5, .pointer (some ⟨b1, 0, none⟩)), (6, .int .i64 k1), (9, v2), (10, .int .i64 (r1.length : Int)), (11, .int .i64 x3)]) (fun b => [vec enc_Gref07_Unit 62 5 v5 l4, cells b1 [.int .i64 p1, .int .i64 p2, .int .i32 p3, .bool p4] 78, vec enc_Gapi_Piece 78 4 v2 r1]) (fun cut => ?_) ?_
      ·
       refine cut (TC.seq (TC.region (TO.move rfl (by decide) rfl (TO.lenVec (k := 0) rfl (by decide) rfl rfl Try.underlying59 (TO.assign rfl (by decide) rfl (TO.nil (TX.next (TC.seq (TC.region (TO.move rfl (by decide) rfl (TO.bin rfl (by decide) rfl rfl bin_eql (TO.move rfl (by decide) rfl ?_))))))))))))
       refine TO.split (s := 24) rfl (fun hb3 => ?_) (fun hb3 => ?_)
       ·
        have h := condT hb3 h
        refine TO.move rfl (by decide) rfl (TO.bin rfl (by decide) rfl rfl bin_gtr (TO.pick (b := true) rfl (by decide) rfl rfl (TO.move rfl (by decide) rfl ?_)))
        refine TO.split (s := 28) rfl (fun hb4 => ?_) (fun hb4 => ?_)
        ·
         have h := condT hb4 h
         refine TO.move rfl (by decide) rfl (TO.move rfl (by decide) rfl ?_)
         obtain ⟨hg2, h⟩ := grdE h
         refine TO.bin rfl (by decide) rfl rfl (bin_sub (r := (l4.length : Int) - 1) (IntWalk.i64_in _ hg2)) ?_
         obtain ⟨q2, hq3, h⟩ := andE h
         refine TO.indexVecI (k := 0) hq3 Try.underlying59 sz_62 rfl (by decide) rfl rfl rfl rfl (TO.fieldAddr fl_62_0 rfl (by decide) rfl (show _ = (((l4.length : Int) - 1 : Int).toNat) * 5 from rfl) (TO.loadVec (i := ((l4.length : Int) - 1 : Int).toNat) (j := 0) (k := 0) (q := q2) sc_3 enc_Gref07_Unit_len rfl (by decide) rfl rfl (getO_get hq3) rfl (by decide) rfl (TO.bin rfl (by decide) rfl rfl bin_neq (TO.pick (b := true) rfl (by decide) rfl rfl (TO.move rfl (by decide) rfl ?_)))))
         refine TO.split (s := 37) rfl (fun hb5 => ?_) (fun hb5 => ?_)
         ·
          have h := condT hb5 h
          refine TO.move rfl (by decide) rfl (TO.move rfl (by decide) rfl ?_)
          obtain ⟨hg3, h⟩ := grdE h
          refine TO.bin rfl (by decide) rfl rfl (bin_sub (r := (l4.length : Int) - 1) (IntWalk.i64_in _ hg3)) (TO.indexVecI (k := 0) hq3 Try.underlying59 sz_62 rfl (by decide) rfl rfl rfl rfl (TO.fieldAddr fl_62_0 rfl (by decide) rfl (show _ = (((l4.length : Int) - 1 : Int).toNat) * 5 from rfl) (TO.loadVec (i := ((l4.length : Int) - 1 : Int).toNat) (j := 0) (k := 0) (q := q2) sc_3 enc_Gref07_Unit_len rfl (by decide) rfl rfl (getO_get hq3) rfl (by decide) rfl (TO.bin rfl (by decide) rfl rfl bin_neq (TO.pick (b := true) rfl (by decide) rfl rfl (TO.move rfl (by decide) rfl ?_))))))
          refine TO.split (s := 46) rfl (fun hb6 => ?_) (fun hb6 => ?_)
          ·
           have h := condT hb6 h
           refine TO.move rfl (by decide) rfl (TO.move rfl (by decide) rfl ?_)
           obtain ⟨hg4, h⟩ := grdE h
           refine TO.bin rfl (by decide) rfl rfl (bin_sub (r := (l4.length : Int) - 1) (IntWalk.i64_in _ hg4)) (TO.indexVecI (k := 0) hq3 Try.underlying59 sz_62 rfl (by decide) rfl rfl rfl rfl (TO.fieldAddr fl_62_0 rfl (by decide) rfl (show _ = (((l4.length : Int) - 1 : Int).toNat) * 5 from rfl) (TO.loadVec (i := ((l4.length : Int) - 1 : Int).toNat) (j := 0) (k := 0) (q := q2) sc_3 enc_Gref07_Unit_len rfl (by decide) rfl rfl (getO_get hq3) rfl (by decide) rfl (TO.bin rfl (by decide) rfl rfl bin_neq (TO.pick (b := true) rfl (by decide) rfl rfl (TO.nil (TX.next ?_)))))))
           refine TC.condB rfl (fun hb7 => ?_) (fun hb7 => ?_)
           ·
            have h := condT hb7 h
            refine TC.seq ?_
            obtain ⟨hg5, h⟩ := grdE h
            obtain ⟨q3, hq4, h⟩ := andE h
            obtain ⟨hg6, h⟩ := grdE h
            refine TC.drawN 9 [(0, 55, v5), (1, 56, .int .i64 (l4.length : Int)), (2, 57, .int .i64 ((l4.length : Int) - 1)), (3, 58, .pointer (some ⟨vblk v5, ((l4.length : Int) - 1 : Int).toNat * 5, none⟩)), (4, 59, .pointer (some ⟨vblk v5, (((l4.length : Int) - 1 : Int).toNat) * 5 + 1, none⟩)), (5, 60, .pointer (some ⟨vblk v5, (((l4.length : Int) - 1 : Int).toNat) * 5 + 2, none⟩)), (6, 61, .int .i64 q3.Span_To), (7, 62, .pointer (some ⟨b1, 1, none⟩)), (8, 63, .int .i64 p2)] mixed (by as_aux_lemma => kernel_rfl) (by as_aux_lemma => kernel_rfl) (by decide) (by rfl) (by as_aux_lemma => kernel_rfl) (by as_aux_lemma => kernel_rfl) (DrawPre.cons ?_ (DrawPre.cons ?_ (DrawPre.cons ?_ (DrawPre.cons ?_ (DrawPre.cons ?_ (DrawPre.cons ?_ (DrawPre.cons ?_ (DrawPre.cons ?_ (DrawPre.cons ?_ DrawPre.nil))))))))) ?_
            ·
             intro D hn hd hcl hu hi
             refine TO.move rfl (by decide) (dl_old (by rfl) rfl) ?_
             exact TX.quiet 0 hu hi rfl
            ·
             intro D hn hd hcl hu hi
             refine TO.move rfl (by decide) (dl_old (by rfl) rfl) ?_
             exact TX.quiet 1 hu hi rfl
            ·
             intro D hn hd hcl hu hi
             refine TO.bin rfl (by decide) (dl_lookup (m := 1) hu rfl (hd 1 (by decide))) rfl (bin_sub (r := (l4.length : Int) - 1) (IntWalk.i64_in _ hg5)) ?_
             exact TX.quiet 2 hu hi rfl
            ·
             intro D hn hd hcl hu hi
             refine TO.indexVecI (k := 0) hq4 Try.underlying59 sz_62 rfl (by decide) (dl_lookup (m := 0) hu rfl (hd 0 (by decide))) (dl_lookup (m := 2) hu rfl (hd 2 (by decide))) rfl rfl ?_
             exact TX.quiet 3 hu hi rfl
            ·
             intro D hn hd hcl hu hi
             refine TO.fieldAddr fl_62_1 rfl (by decide) (dl_lookup (m := 3) hu rfl (hd 3 (by decide))) (show _ = (((l4.length : Int) - 1 : Int).toNat) * 5 + 1 from rfl) ?_
             exact TX.quiet 4 hu hi rfl
            ·
             intro D hn hd hcl hu hi
             refine TO.fieldAddr fl_34_1 rfl (by decide) (dl_lookup (m := 4) hu rfl (hd 4 (by decide))) (show _ = (((l4.length : Int) - 1 : Int).toNat) * 5 + 2 from rfl) ?_
             exact TX.quiet 5 hu hi rfl
            ·
             intro D hn hd hcl hu hi
             refine TO.loadVec (i := ((l4.length : Int) - 1 : Int).toNat) (j := 2) (k := 0) (q := q3) sc_3 enc_Gref07_Unit_len rfl (by decide) (dl_lookup (m := 5) hu rfl (hd 5 (by decide))) rfl (getO_get hq4) rfl (by decide) rfl ?_
             exact TX.quiet 6 hu hi rfl
            ·
             intro D hn hd hcl hu hi
             refine TO.fieldAddr fl_78_1 rfl (by decide) (dl_old (by rfl) rfl) (show _ = 1 from rfl) ?_
             exact TX.quiet 7 hu hi rfl
            ·
             intro D hn hd hcl hu hi
             refine TO.load (k := 1) sc_3 rfl (by decide) (dl_lookup (m := 7) hu rfl (hd 7 (by decide))) rfl rfl ?_
             exact TX.quiet 8 hu hi rfl
            refine TO.bin rfl (by decide) rfl rfl (bin_add (r := q3.Span_To + p2) (IntWalk.i64_in _ hg6)) (TO.indexVecI (k := 0) hq4 Try.underlying59 sz_62 rfl (by decide) rfl rfl rfl rfl (TO.fieldAddr fl_62_1 rfl (by decide) rfl (show _ = (((l4.length : Int) - 1 : Int).toNat) * 5 + 1 from rfl) (TO.fieldAddr fl_34_1 rfl (by decide) rfl (show _ = (((l4.length : Int) - 1 : Int).toNat) * 5 + 2 from rfl) ?_)))
            refine TO.storeVec (i := ((l4.length : Int) - 1 : Int).toNat) (j := 2) (k := 0) (q := q3) (q' := (⟨q3.Kind, q3.Span_From, q3.Span_To + p2, q3.Rune, q3.Alone⟩ : Gref07_Unit)) sz_3 enc_Gref07_Unit_len rfl rfl rfl rfl (getO_get hq4) rfl (by decide) rfl (fun _ _ => rfl) ?_
            refine TO.nil (TX.next (TC.seq (TC.region (TO.move rfl (by decide) rfl (TO.move rfl (by decide) rfl ?_)))))
            obtain ⟨hg7, h⟩ := grdE h
            refine TO.bin rfl (by decide) rfl rfl (bin_sub (r := (l4.length : Int) - 1) (IntWalk.i64_in _ hg7)) ?_
            obtain ⟨q4, hq5, h⟩ := andE h
            refine TO.indexVecI (k := 0) hq5 Try.underlying59 sz_62 rfl (by decide) rfl rfl rfl rfl (TO.fieldAddr fl_62_3 rfl (by decide) rfl (show _ = (((l4.length : Int) - 1 : Int).toNat) * 5 + 4 from rfl) ?_)
            refine TO.storeVec (i := ((l4.length : Int) - 1 : Int).toNat) (j := 4) (k := 0) (q := q4) (q' := (⟨q4.Kind, q4.Span_From, q4.Span_To, q4.Rune, false⟩ : Gref07_Unit)) sz_4 enc_Gref07_Unit_len rfl rfl rfl rfl (getO_get hq5) rfl (by decide) rfl (fun _ _ => rfl) ?_
            show TO _ _ _ _ _ _ _ _ _ _ [vec enc_Gref07_Unit 62 5 v5 ((l4.set ((l4.length : Int) - 1 : Int).toNat (⟨q3.Kind, q3.Span_From, q3.Span_To + p2, q3.Rune, q3.Alone⟩ : Gref07_Unit)).set ((l4.length : Int) - 1 : Int).toNat (⟨q4.Kind, q4.Span_From, q4.Span_To, q4.Rune, false⟩ : Gref07_Unit)), cells b1 [.int .i64 p1, .int .i64 p2, .int .i32 p3, .bool p4] 78, vec enc_Gapi_Piece 78 4 v2 r1]
            refine TO.nil (TX.next (TC.exit (TX.thenExit (TX.blockHere ?_))))
            exact TX.meetD ((l4.set ((l4.length : Int) - 1 : Int).toNat (⟨q3.Kind, q3.Span_From, q3.Span_To + p2, q3.Rune, q3.Alone⟩ : Gref07_Unit)).set ((l4.length : Int) - 1 : Int).toNat (⟨q4.Kind, q4.Span_From, q4.Span_To, q4.Rune, false⟩ : Gref07_Unit), v5) h rfl (Sbs.cons rfl (Sbs.cons rfl (Sbs.cons rfl (Sbs.cons rfl (Sbs.nil))))) (Splits.of [0, 2] (by as_aux_lemma => kernel_rfl) rfl)
           ·
            have h := condF hb7 h
            refine TC.skip ?_
            exact TX.meetD () h rfl (Sbs.cons rfl (Sbs.cons rfl (Sbs.cons rfl (Sbs.cons rfl (Sbs.cons rfl (Sbs.cons rfl (Sbs.nil))))))) (Splits.of [0, 1, 2] (by as_aux_lemma => kernel_rfl) rfl)
          ·
           have h := condF hb6 h
           refine TO.skip rfl (by decide) (TO.skip rfl (by decide) (TO.skip rfl (by decide) (TO.skip rfl (by decide) (TO.skip rfl (by decide) (TO.skip rfl (by decide) (TO.skip rfl (by decide) (TO.pick (b := false) rfl (by decide) rfl rfl (TO.nil (TX.next (TC.condF rfl (TC.skip ?_)))))))))))
           exact TX.meetD () h rfl (Sbs.cons rfl (Sbs.cons rfl (Sbs.cons rfl (Sbs.cons rfl (Sbs.cons rfl (Sbs.cons rfl (Sbs.nil))))))) (Splits.of [0, 1, 2] (by as_aux_lemma => kernel_rfl) rfl)
         ·
          have h := condF hb5 h
          refine TO.skip rfl (by decide) (TO.skip rfl (by decide) (TO.skip rfl (by decide) (TO.skip rfl (by decide) (TO.skip rfl (by decide) (TO.skip rfl (by decide) (TO.skip rfl (by decide) (TO.pick (b := false) rfl (by decide) rfl rfl (TO.move rfl (by decide) rfl (TO.skip rfl (by decide) (TO.skip rfl (by decide) (TO.skip rfl (by decide) (TO.skip rfl (by decide) (TO.skip rfl (by decide) ?_)))))))))))))
          refine TO.skip rfl (by decide) (TO.skip rfl (by decide) (TO.pick (b := false) rfl (by decide) rfl rfl (TO.nil (TX.next (TC.condF rfl (TC.skip ?_))))))
          exact TX.meetD () h rfl (Sbs.cons rfl (Sbs.cons rfl (Sbs.cons rfl (Sbs.cons rfl (Sbs.cons rfl (Sbs.cons rfl (Sbs.nil))))))) (Splits.of [0, 1, 2] (by as_aux_lemma => kernel_rfl) rfl)
        ·
         have h := condF hb4 h
         refine TO.skip rfl (by decide) (TO.skip rfl (by decide) (TO.skip rfl (by decide) (TO.skip rfl (by decide) (TO.skip rfl (by decide) (TO.skip rfl (by decide) (TO.skip rfl (by decide) (TO.pick (b := false) rfl (by decide) rfl rfl (TO.move rfl (by decide) rfl (TO.skip rfl (by decide) (TO.skip rfl (by decide) (TO.skip rfl (by decide) (TO.skip rfl (by decide) (TO.skip rfl (by decide) ?_)))))))))))))
         refine TO.skip rfl (by decide) (TO.skip rfl (by decide) (TO.pick (b := false) rfl (by decide) rfl rfl (TO.move rfl (by decide) rfl (TO.skip rfl (by decide) (TO.skip rfl (by decide) (TO.skip rfl (by decide) (TO.skip rfl (by decide) (TO.skip rfl (by decide) (TO.skip rfl (by decide) (TO.skip rfl (by decide) (TO.pick (b := false) rfl (by decide) rfl rfl (TO.nil (TX.next ?_)))))))))))))
         refine TC.condF rfl (TC.skip ?_)
         exact TX.meetD () h rfl (Sbs.cons rfl (Sbs.cons rfl (Sbs.cons rfl (Sbs.cons rfl (Sbs.cons rfl (Sbs.cons rfl (Sbs.nil))))))) (Splits.of [0, 1, 2] (by as_aux_lemma => kernel_rfl) rfl)
       ·
        have h := condF hb3 h
        refine TO.skip rfl (by decide) (TO.skip rfl (by decide) (TO.pick (b := false) rfl (by decide) rfl rfl (TO.move rfl (by decide) rfl (TO.skip rfl (by decide) (TO.skip rfl (by decide) (TO.skip rfl (by decide) (TO.skip rfl (by decide) (TO.skip rfl (by decide) (TO.skip rfl (by decide) (TO.skip rfl (by decide) (TO.pick (b := false) rfl (by decide) rfl rfl (TO.move rfl (by decide) rfl (TO.skip rfl (by decide) ?_)))))))))))))
        refine TO.skip rfl (by decide) (TO.skip rfl (by decide) (TO.skip rfl (by decide) (TO.skip rfl (by decide) (TO.skip rfl (by decide) (TO.skip rfl (by decide) (TO.pick (b := false) rfl (by decide) rfl rfl (TO.move rfl (by decide) rfl (TO.skip rfl (by decide) (TO.skip rfl (by decide) (TO.skip rfl (by decide) (TO.skip rfl (by decide) (TO.skip rfl (by decide) (TO.skip rfl (by decide) ?_)))))))))))))
        refine TO.skip rfl (by decide) (TO.pick (b := false) rfl (by decide) rfl rfl (TO.nil (TX.next (TC.condF rfl (TC.skip ?_)))))
        exact TX.meetD () h rfl (Sbs.cons rfl (Sbs.cons rfl (Sbs.cons rfl (Sbs.cons rfl (Sbs.cons rfl (Sbs.cons rfl (Sbs.nil))))))) (Splits.of [0, 1, 2] (by as_aux_lemma => kernel_rfl) rfl)
      ·
       rintro _ h
       subst hj4
       show TC _ _ _ _ _ ([]) _ _ [(3, v5), (5, .pointer (some ⟨b1, 0, none⟩)), (6, .int .i64 k1), (9, v2), (10, .int .i64 (r1.length : Int)), (11, .int .i64 x3)] [vec enc_Gref07_Unit 62 5 v5 l4, cells b1 [.int .i64 p1, .int .i64 p2, .int .i32 p3, .bool p4] 78, vec enc_Gapi_Piece 78 4 v2 r1]
       refine TC.region (TO.move rfl (by decide) rfl (TO.move rfl (by decide) rfl (TO.fieldAddr fl_78_0 rfl (by decide) rfl (show _ = 0 from rfl) (TO.load (k := 1) sc_3 rfl (by decide) rfl rfl rfl (TO.fieldAddr fl_78_0 rfl (by decide) rfl (show _ = 0 from rfl) (TO.load (k := 1) sc_3 rfl (by decide) rfl rfl rfl (TO.fieldAddr fl_78_1 rfl (by decide) rfl (show _ = 1 from rfl) (TO.load (k := 1) sc_3 rfl (by decide) rfl rfl rfl ?_))))))))
       obtain ⟨hg8, h⟩ := grdE h
       refine TO.bin rfl (by decide) rfl rfl (bin_add (r := p1 + p2) (IntWalk.i64_in _ hg8)) ?_
       refine TO.build (v := .agg #[.int .i64 p1, .int .i64 (p1 + p2)]) (ps := [(0, .tmp 76), (1, .tmp 81)]) rfl (by decide) rfl (fun _ => by kernel_rfl) ?_
       refine TO.fieldAddr fl_78_2 rfl (by decide) rfl (show _ = 2 from rfl) (TO.load (k := 1) sc_21 rfl (by decide) rfl rfl rfl ?_)
       refine TO.build (v := .agg #[.int .i64 k1, .int .i64 p1, .int .i64 (p1 + p2), .int .i32 p3, .bool true]) (ps := [(0, .tmp 74), (1, .tmp 82), (2, .tmp 84), (3, .const (.bool true))]) rfl (by decide) rfl (fun _ => by kernel_rfl) ?_
       refine TO.buildSlice (cs := [.int .i64 k1, .int .i64 p1, .int .i64 (p1 + p2), .int .i32 p3, .bool true]) (te := 62) (ps := [(0, .tmp 85)]) rfl (by decide) rfl (fun _ => by kernel_rfl) (fun b3 => ?_)
       obtain ⟨hg9, h⟩ := grdE h
       refine TO.appendVec (k := 0) (k2 := 3) (ys := [(⟨k1, p1, p1 + p2, p3, true⟩ : Gref07_Unit)]) Try.underlying59 el_62 enc_Gref07_Unit_len enc_Gref07_Unit_one rfl (by decide) rfl rfl rfl rfl rfl rfl hg9 (fun v7 => ?_)
       show TO _ _ _ _ _ _ _ _ _ _ [vec enc_Gref07_Unit 62 5 v7 (l4 ++ [(⟨k1, p1, p1 + p2, p3, true⟩ : Gref07_Unit)]), cells b1 [.int .i64 p1, .int .i64 p2, .int .i32 p3, .bool p4] 78, vec enc_Gapi_Piece 78 4 v2 r1, cells b3 [.int .i64 k1, .int .i64 p1, .int .i64 (p1 + p2), .int .i32 p3, .bool true] 62]
       refine TO.assign rfl (by decide) rfl (TO.nil (TX.blockNormal ?_))
       exact TX.meetD (l4 ++ [(⟨k1, p1, p1 + p2, p3, true⟩ : Gref07_Unit)], v7) h rfl (Sbs.cons rfl (Sbs.cons rfl (Sbs.cons rfl (Sbs.cons rfl (Sbs.nil))))) (Splits.of [0, 2] (by as_aux_lemma => kernel_rfl) rfl)
    ·
     rintro ⟨l5, v6⟩ h
     subst hj2
     show TC _ _ _ _ _ ([]) _ _ [(3, v6), (9, v2), (10, .int .i64 (r1.length : Int)), (11, .int .i64 x3)] [vec enc_Gref07_Unit 62 5 v6 l5, vec enc_Gapi_Piece 78 4 v2 r1]
     refine TC.region ?_
     obtain ⟨hg10, h⟩ := grdE h
     refine TO.bin rfl (by decide) rfl rfl (bin_add (r := x3 + 1) (IntWalk.i64_in _ hg10)) (TO.move rfl (by decide) rfl (TO.nil ?_))
     subst hag1
     exact TX.againD (n1, l5, x3 + 1, v6) h (Nat.lt_succ_self _) rfl (Sbs.cons rfl (Sbs.cons rfl (Sbs.cons rfl (Sbs.cons rfl (Sbs.nil))))) (Splits.of [0, 1] (by as_aux_lemma => kernel_rfl) rfl)
   ·
    have h := condF hb1 h
    refine TC.exit (TX.thenExit (TX.thenExit (TX.blockHere ?_)))
    exact TX.meetD (l4, v5) h rfl (Sbs.cons rfl (Sbs.nil)) (Splits.of [0] (by as_aux_lemma => kernel_rfl) rfl)
 ·
  rintro ⟨l1, v1⟩ h
  subst hj1
  show TC _ _ _ _ _ ([]) _ _ [(3, v1)] [vec enc_Gref07_Unit 62 5 v1 l1]
  refine TC.seq (TC.region (TO.move rfl (by decide) rfl (TO.assign rfl (by decide) rfl (TO.nil (TX.next (TC.ret ?_))))))
  cases h
  exact TX.fin (rs := [.tmp 2]) v1 (.inl rfl) Try.results43 (.cons (.tmp rfl) .nil) rfl (Splits.of [0] (by as_aux_lemma => kernel_rfl) rfl)
def ref07_is_v (l1 : List Gref07_Unit) (i1 : Int) (kind1 : Int) : Option Bool := bcond (decide ((i1 : Int) < (l1.length : Int))) ( andThen (getO l1 i1) fun (q1 : Gref07_Unit) => some ((q1.Kind : Int) == kind1)
) ( some false
)
set_option maxRecDepth 100000 in
set_option maxHeartbeats 4000000 in
theorem ref07_is_fn {vvl1 vl1 : Value} {Ll1 : List Gref07_Unit} {kl1 : Nat} {l1 : List Gref07_Unit} (hwl1 : Vw vvl1 Ll1 5 kl1 vl1 l1) {i1 : Int} {kind1 : Int} {r : Bool} (h : ref07_is_v l1 i1 kind1 = some r) : Fn Try.prog 45 [vl1, .int .i64 i1, .int .i64 kind1] [vec enc_Gref07_Unit 62 5 vvl1 Ll1] (fun _b : Unit => .bool r) (fun _b => [vec enc_Gref07_Unit 62 5 vvl1 Ll1]) := by
 unfold ref07_is_v at h
 refine Fn.intro Try.func45 rfl Try.ntmps45 (by simp) ?_
 intro w0 K
 refine TC.seq (TC.region (TO.assign rfl (by decide) rfl (TO.nil (TX.next (TC.seq (TC.region (TO.move rfl (by decide) rfl (TO.move rfl (by decide) rfl (TO.lenVw hwl1 rfl (by decide) rfl Try.underlying59 (TO.bin rfl (by decide) rfl rfl bin_lss (TO.move rfl (by decide) rfl ?_)))))))))))
 refine TO.split (s := 11) rfl (fun hb1 => ?_) (fun hb1 => ?_)
 ·
  have h := condT hb1 h
  refine TO.move rfl (by decide) rfl (TO.move rfl (by decide) rfl ?_)
  obtain ⟨q1, hq1, h⟩ := andE h
  refine TO.indexVw hwl1 hq1 Try.underlying59 sz_62 rfl (by decide) rfl rfl rfl (TO.fieldAddr fl_62_0 rfl (by decide) rfl (show _ = (kl1 + (i1 : Int).toNat) * 5 from rfl) (TO.loadVec (i := kl1 + (i1 : Int).toNat) (j := 0) (k := 0) (q := q1) sc_3 enc_Gref07_Unit_len rfl (by decide) rfl rfl (Vw.get hwl1 hq1) rfl (by decide) rfl (TO.move rfl (by decide) rfl (TO.bin rfl (by decide) rfl rfl bin_eql (TO.pick (b := true) rfl (by decide) rfl rfl (TO.assign rfl (by decide) rfl (TO.nil (TX.next (TC.ret ?_)))))))))
  cases h
  exact TX.fin (rs := [.tmp 6]) () (.inl rfl) Try.results45 (.cons (.tmp rfl) .nil) rfl (Splits.of [0] (by as_aux_lemma => kernel_rfl) rfl)
 ·
  have h := condF hb1 h
  refine TO.skip rfl (by decide) (TO.skip rfl (by decide) (TO.skip rfl (by decide) (TO.skip rfl (by decide) (TO.skip rfl (by decide) (TO.skip rfl (by decide) (TO.skip rfl (by decide) (TO.pick (b := false) rfl (by decide) rfl rfl (TO.assign rfl (by decide) rfl (TO.nil (TX.next (TC.ret ?_)))))))))))
  cases h
  exact TX.fin (rs := [.tmp 6]) () (.inl rfl) Try.results45 (.cons (.tmp rfl) .nil) rfl (Splits.of [0] (by as_aux_lemma => kernel_rfl) rfl)
def ref07_one_s1 (l1 : List Gref07_Unit) (i1 : Int) (of1 : List Int) (j1 : Option Bool) (ag1 : Int → Option Bool) (x3 : Int) : Option Bool := bcond (decide ((x3 : Int) < (of1.length : Int))) ( joinK (fun (j2 : Option Bool) => andThen (getO of1 x3) fun (q1 : Int) => bcond (decide ((i1 : Int) < (l1.length : Int))) ( andThen (getO l1 i1) fun (q2 : Gref07_Unit) => bcond (q2.Alone) ( bcond ((q2.Kind : Int) != 11) ( bcond ((q2.Rune : Int) == q1) ( some true
) ( j2
)
) ( j2
)
) ( j2
)
) ( j2
)
) ( grd (I64 (x3 + 1)) <| ag1 (x3 + 1)
)
) ( j1
)
def ref07_one_v (l1 : List Gref07_Unit) (i1 : Int) (of1 : List Int) : Option Bool := joinK (fun (j1 : Option Bool) => loopG (fun _ => none) (ref07_one_s1 l1 i1 of1 j1) fuel 0
) ( some false
)
set_option maxRecDepth 100000 in
set_option maxHeartbeats 4000000 in
theorem ref07_one_fn {vvl1 vl1 : Value} {Ll1 : List Gref07_Unit} {kl1 : Nat} {l1 : List Gref07_Unit} (hwl1 : Vw vvl1 Ll1 5 kl1 vl1 l1) {i1 : Int} {vvof1 vof1 : Value} {Lof1 : List Int} {kof1 : Nat} {of1 : List Int} (hwof1 : Vw vvof1 Lof1 1 kof1 vof1 of1) {r : Bool} (h : ref07_one_v l1 i1 of1 = some r) : Fn Try.prog 61 [vl1, .int .i64 i1, vof1] [vec enc_Gref07_Unit 62 5 vvl1 Ll1, vec (encI (.i32)) 21 1 vvof1 Lof1] (fun _b : Unit => .bool r) (fun _b => [vec enc_Gref07_Unit 62 5 vvl1 Ll1, vec (encI (.i32)) 21 1 vvof1 Lof1]) := by
 unfold ref07_one_v at h
 refine Fn.intro Try.func61 rfl Try.ntmps61 (by simp) ?_
 intro w0 K
 obtain ⟨j1, hj1, h⟩ := joinE h
 refine TC.cutN (β := Unit) 1 rfl (fun b => j1 = some r) (fun b => []) (fun b => []) (fun b => [vec (encI (.i32)) 21 1 vvof1 Lof1, vec enc_Gref07_Unit 62 5 vvl1 Ll1]) (fun cut => ?_) ?_
 ·
  refine TC.seq (TC.region (TO.assign rfl (by decide) rfl (TO.nil (TX.next (cut (TC.seq (TC.region (TO.move rfl (by decide) rfl (TO.lenVw hwof1 rfl (by decide) rfl Try.underlying89 (TO.move rfl (by decide) rfl (TO.nil (TX.next (TC.block ?_)))))))))))))
  refine TC.loopD (β := Nat × Int) (fun b => loopG (fun _ => none) (ref07_one_s1 l1 i1 of1 j1) b.1 b.2 = some r) (fun b => []) (fun b => [(0, vl1), (1, .int .i64 i1), (9, vof1), (10, .int .i64 (of1.length : Int)), (11, .int .i64 b.2)]) (fun b => [vec (encI (.i32)) 21 1 vvof1 Lof1, vec enc_Gref07_Unit 62 5 vvl1 Ll1]) (fun b => b.1) (fuel, 0) h rfl (Sbs.cons rfl (Sbs.cons rfl (Sbs.cons rfl (Sbs.cons rfl (Sbs.cons rfl (Sbs.nil)))))) (Splits.of [1, 0] (by as_aux_lemma => kernel_rfl) rfl) ?_
  rintro ⟨n1, x3⟩ h
  cases n1 with
  | zero => exact noneE h
  | succ n1 =>
   obtain ⟨ag1, hag1⟩ : ∃ ag, ag = loopG (fun _ => none) (ref07_one_s1 l1 i1 of1 j1) n1 := ⟨_, rfl⟩
   have h : ref07_one_s1 l1 i1 of1 j1 ag1 x3 = some r := by rw [hag1]; exact h
   unfold ref07_one_s1 at h
   show TC _ _ _ _ _ ([]) _ _ [(0, vl1), (1, .int .i64 i1), (9, vof1), (10, .int .i64 (of1.length : Int)), (11, .int .i64 x3)] [vec (encI (.i32)) 21 1 vvof1 Lof1, vec enc_Gref07_Unit 62 5 vvl1 Ll1]
   refine TC.seq (TC.region (TO.bin rfl (by decide) rfl rfl bin_lss (TO.nil (TX.next (TC.seq ?_)))))
   refine TC.condB rfl (fun hb1 => ?_) (fun hb1 => ?_)
   ·
    have h := condT hb1 h
    refine TC.skip (TX.next ?_)
    obtain ⟨j2, hj2, h⟩ := joinE h
    refine TC.cutN (β := Unit) 0 rfl (fun b => j2 = some r) (fun b => []) (fun b => [(0, vl1), (1, .int .i64 i1), (9, vof1), (10, .int .i64 (of1.length : Int)), (11, .int .i64 x3)]) (fun b => [vec (encI (.i32)) 21 1 vvof1 Lof1, vec enc_Gref07_Unit 62 5 vvl1 Ll1]) (fun cut => ?_) ?_
    ·
     refine cut (TC.block (TC.seq (TC.region ?_)))
     obtain ⟨q1, hq1, h⟩ := andE h
     refine TO.indexVw hwof1 hq1 Try.underlying89 sz_21 rfl (by decide) rfl rfl rfl (TO.loadVec (i := kof1 + (x3 : Int).toNat) (j := 0) (k := 0) (q := q1) sc_21 encI_len rfl (by decide) rfl rfl (Vw.get hwof1 hq1) rfl (by decide) rfl (TO.assign rfl (by decide) rfl (TO.nil (TX.next (TC.seq (TC.region (TO.move rfl (by decide) rfl (TO.move rfl (by decide) rfl (TO.lenVw hwl1 rfl (by decide) rfl Try.underlying59 (TO.bin rfl (by decide) rfl rfl bin_lss (TO.move rfl (by decide) rfl ?_)))))))))))
     refine TO.split (s := 19) rfl (fun hb2 => ?_) (fun hb2 => ?_)
     ·
      have h := condT hb2 h
      refine TO.move rfl (by decide) rfl (TO.move rfl (by decide) rfl ?_)
      obtain ⟨q2, hq2, h⟩ := andE h
      refine TO.indexVw hwl1 hq2 Try.underlying59 sz_62 rfl (by decide) rfl rfl rfl (TO.fieldAddr fl_62_3 rfl (by decide) rfl (show _ = (kl1 + (i1 : Int).toNat) * 5 + 4 from rfl) (TO.loadVec (i := kl1 + (i1 : Int).toNat) (j := 4) (k := 1) (q := q2) sc_4 enc_Gref07_Unit_len rfl (by decide) rfl rfl (Vw.get hwl1 hq2) rfl (by decide) rfl (TO.pick (b := true) rfl (by decide) rfl rfl (TO.move rfl (by decide) rfl ?_))))
      refine TO.split (s := 26) rfl (fun hb3 => ?_) (fun hb3 => ?_)
      ·
       have h := condT hb3 h
       refine TO.move rfl (by decide) rfl (TO.move rfl (by decide) rfl (TO.indexVw hwl1 hq2 Try.underlying59 sz_62 rfl (by decide) rfl rfl rfl (TO.fieldAddr fl_62_0 rfl (by decide) rfl (show _ = (kl1 + (i1 : Int).toNat) * 5 from rfl) (TO.loadVec (i := kl1 + (i1 : Int).toNat) (j := 0) (k := 1) (q := q2) sc_3 enc_Gref07_Unit_len rfl (by decide) rfl rfl (Vw.get hwl1 hq2) rfl (by decide) rfl (TO.bin rfl (by decide) rfl rfl bin_neq (TO.pick (b := true) rfl (by decide) rfl rfl (TO.move rfl (by decide) rfl ?_)))))))
       refine TO.split (s := 34) rfl (fun hb4 => ?_) (fun hb4 => ?_)
       ·
        have h := condT hb4 h
        refine TO.move rfl (by decide) rfl (TO.move rfl (by decide) rfl (TO.indexVw hwl1 hq2 Try.underlying59 sz_62 rfl (by decide) rfl rfl rfl (TO.fieldAddr fl_62_2 rfl (by decide) rfl (show _ = (kl1 + (i1 : Int).toNat) * 5 + 3 from rfl) (TO.loadVec (i := kl1 + (i1 : Int).toNat) (j := 3) (k := 1) (q := q2) sc_21 enc_Gref07_Unit_len rfl (by decide) rfl rfl (Vw.get hwl1 hq2) rfl (by decide) rfl (TO.move rfl (by decide) rfl (TO.bin rfl (by decide) rfl rfl bin_eql (TO.pick (b := true) rfl (by decide) rfl rfl (TO.nil (TX.next ?_)))))))))
        refine TC.condB rfl (fun hb5 => ?_) (fun hb5 => ?_)
        ·
         have h := condT hb5 h
         refine TC.seq (TC.region (TO.assign rfl (by decide) rfl (TO.nil (TX.next (TC.ret (TX.blockRet (TX.thenRet (TX.thenRet (TX.blockRet (TX.thenRet ?_))))))))))
         cases h
         exact TX.fin (rs := [.tmp 6]) () (.inl rfl) Try.results61 (.cons (.tmp rfl) .nil) rfl (Splits.of [1, 0] (by as_aux_lemma => kernel_rfl) rfl)
        ·
         have h := condF hb5 h
         refine TC.skip (TX.blockNormal ?_)
         exact TX.meetD () h rfl (Sbs.cons rfl (Sbs.cons rfl (Sbs.cons rfl (Sbs.cons rfl (Sbs.cons rfl (Sbs.nil)))))) (Splits.of [0, 1] (by as_aux_lemma => kernel_rfl) rfl)
       ·
        have h := condF hb4 h
        refine TO.skip rfl (by decide) (TO.skip rfl (by decide) (TO.skip rfl (by decide) (TO.skip rfl (by decide) (TO.skip rfl (by decide) (TO.skip rfl (by decide) (TO.skip rfl (by decide) (TO.pick (b := false) rfl (by decide) rfl rfl (TO.nil (TX.next (TC.condF rfl (TC.skip (TX.blockNormal ?_))))))))))))
        exact TX.meetD () h rfl (Sbs.cons rfl (Sbs.cons rfl (Sbs.cons rfl (Sbs.cons rfl (Sbs.cons rfl (Sbs.nil)))))) (Splits.of [0, 1] (by as_aux_lemma => kernel_rfl) rfl)
      ·
       have h := condF hb3 h
       refine TO.skip rfl (by decide) (TO.skip rfl (by decide) (TO.skip rfl (by decide) (TO.skip rfl (by decide) (TO.skip rfl (by decide) (TO.skip rfl (by decide) (TO.pick (b := false) rfl (by decide) rfl rfl (TO.move rfl (by decide) rfl (TO.skip rfl (by decide) (TO.skip rfl (by decide) (TO.skip rfl (by decide) (TO.skip rfl (by decide) (TO.skip rfl (by decide) (TO.skip rfl (by decide) ?_)))))))))))))
       refine TO.skip rfl (by decide) (TO.pick (b := false) rfl (by decide) rfl rfl (TO.nil (TX.next (TC.condF rfl (TC.skip (TX.blockNormal ?_))))))
       exact TX.meetD () h rfl (Sbs.cons rfl (Sbs.cons rfl (Sbs.cons rfl (Sbs.cons rfl (Sbs.cons rfl (Sbs.nil)))))) (Splits.of [0, 1] (by as_aux_lemma => kernel_rfl) rfl)
     ·
      have h := condF hb2 h
      refine TO.skip rfl (by decide) (TO.skip rfl (by decide) (TO.skip rfl (by decide) (TO.skip rfl (by decide) (TO.skip rfl (by decide) (TO.pick (b := false) rfl (by decide) rfl rfl (TO.move rfl (by decide) rfl (TO.skip rfl (by decide) (TO.skip rfl (by decide) (TO.skip rfl (by decide) (TO.skip rfl (by decide) (TO.skip rfl (by decide) (TO.skip rfl (by decide) (TO.pick (b := false) rfl (by decide) rfl rfl ?_)))))))))))))
      refine TO.move rfl (by decide) rfl (TO.skip rfl (by decide) (TO.skip rfl (by decide) (TO.skip rfl (by decide) (TO.skip rfl (by decide) (TO.skip rfl (by decide) (TO.skip rfl (by decide) (TO.skip rfl (by decide) (TO.pick (b := false) rfl (by decide) rfl rfl (TO.nil (TX.next (TC.condF rfl (TC.skip (TX.blockNormal ?_)))))))))))))
      exact TX.meetD () h rfl (Sbs.cons rfl (Sbs.cons rfl (Sbs.cons rfl (Sbs.cons rfl (Sbs.cons rfl (Sbs.nil)))))) (Splits.of [0, 1] (by as_aux_lemma => kernel_rfl) rfl)
    ·
     rintro _ h
     subst hj2
     show TC _ _ _ _ _ ([]) _ _ [(0, vl1), (1, .int .i64 i1), (9, vof1), (10, .int .i64 (of1.length : Int)), (11, .int .i64 x3)] [vec (encI (.i32)) 21 1 vvof1 Lof1, vec enc_Gref07_Unit 62 5 vvl1 Ll1]
     refine TC.region ?_
     obtain ⟨hg1, h⟩ := grdE h
     refine TO.bin rfl (by decide) rfl rfl (bin_add (r := x3 + 1) (IntWalk.i64_in _ hg1)) (TO.move rfl (by decide) rfl (TO.nil ?_))
     subst hag1
     exact TX.againD (n1, x3 + 1) h (Nat.lt_succ_self _) rfl (Sbs.cons rfl (Sbs.cons rfl (Sbs.cons rfl (Sbs.cons rfl (Sbs.cons rfl (Sbs.nil)))))) (Splits.of [0, 1] (by as_aux_lemma => kernel_rfl) rfl)
   ·
    have h := condF hb1 h
    refine TC.exit (TX.thenExit (TX.thenExit (TX.blockHere ?_)))
    exact TX.meetD () h rfl (Sbs.nil) (Splits.of [0, 1] (by as_aux_lemma => kernel_rfl) rfl)
 ·
  rintro _ h
  subst hj1
  show TC _ _ _ _ _ ([]) _ _ [] [vec (encI (.i32)) 21 1 vvof1 Lof1, vec enc_Gref07_Unit 62 5 vvl1 Ll1]
  refine TC.seq (TC.region (TO.assign rfl (by decide) rfl (TO.nil (TX.next (TC.ret ?_)))))
  cases h
  exact TX.fin (rs := [.tmp 6]) () (.inl rfl) Try.results61 (.cons (.tmp rfl) .nil) rfl (Splits.of [1, 0] (by as_aux_lemma => kernel_rfl) rfl)
def ref07_run_s1 (l1 : List Gref07_Unit) (kind1 : Int) (joints1 : List Int) (ag1 : Int → Option Int) (n3 : Int) : Option Int := andThen (ref07_is_v l1 n3 kind1) fun (r1 : Bool) => bcond (r1) ( grd (I64 (n3 + 1)) <| ag1 (n3 + 1)
) ( andThen (ref07_one_v l1 n3 joints1) fun (r2 : Bool) => bcond (r2) ( grd (I64 (n3 + 1)) <| andThen (ref07_is_v l1 (n3 + 1) kind1) fun (r3 : Bool) => bcond (r3) ( grd (I64 (n3 + 2)) <| ag1 (n3 + 2)
) ( some n3
)
) ( some n3
)
)
def ref07_run_v (l1 : List Gref07_Unit) (kind1 : Int) (joints1 : List Int) : Option Int := loopG (fun _ => none) (ref07_run_s1 l1 kind1 joints1) fuel 1
set_option maxRecDepth 100000 in
set_option maxHeartbeats 4000000 in
theorem ref07_run_fn {vvl1 vl1 : Value} {Ll1 : List Gref07_Unit} {kl1 : Nat} {l1 : List Gref07_Unit} (hwl1 : Vw vvl1 Ll1 5 kl1 vl1 l1) {kind1 : Int} {vvjoints1 vjoints1 : Value} {Ljoints1 : List Int} {kjoints1 : Nat} {joints1 : List Int} (hwjoints1 : Vw vvjoints1 Ljoints1 1 kjoints1 vjoints1 joints1) {r : Int} (h : ref07_run_v l1 kind1 joints1 = some r) : Fn Try.prog 44 [vl1, .int .i64 kind1, vjoints1] [vec enc_Gref07_Unit 62 5 vvl1 Ll1, vec (encI (.i32)) 21 1 vvjoints1 Ljoints1] (fun _b : Unit => .int .i64 r) (fun _b => [vec enc_Gref07_Unit 62 5 vvl1 Ll1, vec (encI (.i32)) 21 1 vvjoints1 Ljoints1]) := by
 unfold ref07_run_v at h
 refine Fn.intro Try.func44 rfl Try.ntmps44 (by simp) ?_
 intro w0 K
 refine TC.seq (TC.region (TO.assign rfl (by decide) rfl (TO.nil (TX.next (TC.seq (TC.region (TO.assign rfl (by decide) rfl (TO.nil (TX.next (TC.block ?_))))))))))
 refine TC.loopD (β := Nat × Int) (fun b => loopG (fun _ => none) (ref07_run_s1 l1 kind1 joints1) b.1 b.2 = some r) (fun b => []) (fun b => [(0, vl1), (1, .int .i64 kind1), (2, vjoints1), (7, .int .i64 b.2)]) (fun b => [vec (encI (.i32)) 21 1 vvjoints1 Ljoints1, vec enc_Gref07_Unit 62 5 vvl1 Ll1]) (fun b => b.1) (fuel, 1) h rfl (Sbs.cons rfl (Sbs.cons rfl (Sbs.cons rfl (Sbs.cons rfl (Sbs.nil))))) (Splits.of [1, 0] (by as_aux_lemma => kernel_rfl) rfl) ?_
 rintro ⟨n4, n3⟩ h
 cases n4 with
 | zero => exact noneE h
 | succ n4 =>
  obtain ⟨ag1, hag1⟩ : ∃ ag, ag = loopG (fun _ => none) (ref07_run_s1 l1 kind1 joints1) n4 := ⟨_, rfl⟩
  have h : ref07_run_s1 l1 kind1 joints1 ag1 n3 = some r := by rw [hag1]; exact h
  unfold ref07_run_s1 at h
  show TC _ _ _ _ _ ([]) _ _ [(0, vl1), (1, .int .i64 kind1), (2, vjoints1), (7, .int .i64 n3)] [vec (encI (.i32)) 21 1 vvjoints1 Ljoints1, vec enc_Gref07_Unit 62 5 vvl1 Ll1]
  refine TC.block (TC.block (TC.seq (TC.region (TO.move rfl (by decide) rfl (TO.move rfl (by decide) rfl (TO.move rfl (by decide) rfl ?_))))))
  obtain ⟨r1, hq1, h⟩ := andE h
  refine TO.callK (v := .bool r1) (vs := [vl1, .int .i64 n3, .int .i64 kind1]) rfl (by decide) rfl rfl rfl en_45 (ref07_is_fn hwl1 hq1) [1] (by as_aux_lemma => kernel_rfl) rfl (TO.assign rfl (by decide) rfl (TO.nil (TX.next ?_)))
  refine TC.condB rfl (fun hb1 => ?_) (fun hb1 => ?_)
  ·
   have h := condT hb1 h
   refine TC.region (TO.move rfl (by decide) rfl ?_)
   obtain ⟨hg1, h⟩ := grdE h
   refine TO.bin rfl (by decide) rfl rfl (bin_add (r := n3 + 1) (IntWalk.i64_in _ hg1)) (TO.assign rfl (by decide) rfl (TO.nil (TX.blockNormal (TX.blockNormal ?_))))
   subst hag1
   exact TX.againD (n4, n3 + 1) h (Nat.lt_succ_self _) rfl (Sbs.cons rfl (Sbs.cons rfl (Sbs.cons rfl (Sbs.cons rfl (Sbs.nil))))) (Splits.of [0, 1] (by as_aux_lemma => kernel_rfl) rfl)
  ·
   have h := condF hb1 h
   refine TC.seq (TC.region (TO.move rfl (by decide) rfl (TO.move rfl (by decide) rfl (TO.move rfl (by decide) rfl ?_))))
   obtain ⟨r2, hq2, h⟩ := andE h
   refine TO.callK (v := .bool r2) (vs := [vl1, .int .i64 n3, vjoints1]) rfl (by decide) rfl rfl rfl en_61 (ref07_one_fn hwl1 hwjoints1 hq2) [1, 0] (by as_aux_lemma => kernel_rfl) rfl (TO.move rfl (by decide) rfl ?_)
   refine TO.split (s := 21) rfl (fun hb2 => ?_) (fun hb2 => ?_)
   ·
    have h := condT hb2 h
    refine TO.move rfl (by decide) rfl (TO.move rfl (by decide) rfl ?_)
    obtain ⟨hg2, h⟩ := grdE h
    refine TO.bin rfl (by decide) rfl rfl (bin_add (r := n3 + 1) (IntWalk.i64_in _ hg2)) (TO.move rfl (by decide) rfl ?_)
    obtain ⟨r3, hq3, h⟩ := andE h
    refine TO.callK (v := .bool r3) (vs := [vl1, .int .i64 (n3 + 1), .int .i64 kind1]) rfl (by decide) rfl rfl rfl en_45 (ref07_is_fn hwl1 hq3) [1] (by as_aux_lemma => kernel_rfl) rfl (TO.pick (b := true) rfl (by decide) rfl rfl (TO.assign rfl (by decide) rfl (TO.nil (TX.next ?_))))
    refine TC.condB rfl (fun hb3 => ?_) (fun hb3 => ?_)
    ·
     have h := condT hb3 h
     refine TC.region (TO.move rfl (by decide) rfl ?_)
     obtain ⟨hg3, h⟩ := grdE h
     refine TO.bin rfl (by decide) rfl rfl (bin_add (r := n3 + 2) (IntWalk.i64_in _ hg3)) (TO.assign rfl (by decide) rfl (TO.nil (TX.blockNormal (TX.blockNormal ?_))))
     subst hag1
     exact TX.againD (n4, n3 + 2) h (Nat.lt_succ_self _) rfl (Sbs.cons rfl (Sbs.cons rfl (Sbs.cons rfl (Sbs.cons rfl (Sbs.nil))))) (Splits.of [0, 1] (by as_aux_lemma => kernel_rfl) rfl)
    ·
     have h := condF hb3 h
     refine TC.seq (TC.region (TO.move rfl (by decide) rfl (TO.assign rfl (by decide) rfl (TO.nil (TX.next (TC.ret (TX.blockRet (TX.blockRet (TX.thenRet (TX.blockRet ?_))))))))))
     cases h
     exact TX.fin (rs := [.tmp 6]) () (.inl rfl) Try.results44 (.cons (.tmp rfl) .nil) rfl (Splits.of [1, 0] (by as_aux_lemma => kernel_rfl) rfl)
   ·
    have h := condF hb2 h
    refine TO.skip rfl (by decide) (TO.skip rfl (by decide) (TO.skip rfl (by decide) (TO.skip rfl (by decide) (TO.skip rfl (by decide) (TO.pick (b := false) rfl (by decide) rfl rfl (TO.assign rfl (by decide) rfl (TO.nil (TX.next (TC.condF rfl (TC.seq (TC.region (TO.move rfl (by decide) rfl (TO.assign rfl (by decide) rfl ?_)))))))))))))
    refine TO.nil (TX.next (TC.ret (TX.blockRet (TX.blockRet (TX.thenRet (TX.blockRet ?_))))))
    cases h
    exact TX.fin (rs := [.tmp 6]) () (.inl rfl) Try.results44 (.cons (.tmp rfl) .nil) rfl (Splits.of [1, 0] (by as_aux_lemma => kernel_rfl) rfl)
def ref07_Tokens_s1 (j1 : (List Gapi_Token) → Option (List Gapi_Token)) (ag1 : (List Gapi_Token) → (List Gref07_Unit) → Option (List Gapi_Token)) (out5 : List Gapi_Token) (l3 : List Gref07_Unit) : Option (List Gapi_Token) := bcond (decide ((0 : Int) < (l3.length : Int))) ( joinK (fun (j2 : Int → Int → Option (List Gapi_Token)) => andThen (getO l3 0) fun (q1 : Gref07_Unit) => bcond ((q1.Kind : Int) == 1) ( andThen (ref07_run_v l3 1 ([39, 8217, 45, 8208] : List Int)) fun (r2 : Int) => j2 r2 1
) ( bcond ((q1.Kind : Int) == 3) ( andThen (ref07_run_v l3 3 ([44, 46] : List Int)) fun (r3 : Int) => j2 r3 2
) ( bcond ((q1.Kind : Int) == 5) ( andThen (ref07_run_v l3 5 ([] : List Int)) fun (r4 : Int) => j2 r4 3
) ( bcond ((q1.Kind : Int) == 11) ( andThen (ref07_run_v l3 11 ([] : List Int)) fun (r5 : Int) => j2 r5 7
) ( bcond ((q1.Kind : Int) == 4) ( andThen (getO l3 0) fun (q2 : Gref07_Unit) => bcond ((q2.Rune : Int) == 13) ( andThen (ref07_is_v l3 1 4) fun (r6 : Bool) => bcond (r6) ( andThen (getO l3 1) fun (q3 : Gref07_Unit) => bcond ((q3.Rune : Int) == 10) ( j2 2 4
) ( j2 1 4
)
) ( j2 1 4
)
) ( j2 1 4
)
) ( joinK (fun (j3 : Bool → Option (List Gapi_Token)) => bcond ((q1.Kind : Int) == 6) ( j3 ((q1.Kind : Int) == 6)
) ( bcond ((q1.Kind : Int) == 7) ( j3 ((q1.Kind : Int) == 7)
) ( j3 ((q1.Kind : Int) == 8)
)
)
) (fun (x1 : Bool) => bcond (x1) ( j2 1 5
) ( j2 1 6
)
)
)
)
)
)
)
) (fun (n2 : Int) (kind1 : Int) => andThen (getO l3 0) fun (q4 : Gref07_Unit) => grd (I64 (n2 - 1)) <| andThen (getO l3 (n2 - 1)) fun (q5 : Gref07_Unit) => grd (out5.length + 1 ≤ 2147483648) <| grd (0 ≤ (n2 : Int) ∧ (n2 : Int) ≤ (l3.length : Int) ∧ ((l3.length : Int) : Int) ≤ (l3.length : Int)) <| ag1 (out5 ++ [(⟨kind1, q4.Span_From, q5.Span_To⟩ : Gapi_Token)]) (cutL l3 n2 (l3.length : Int))
)
) ( j1 out5
)
def ref07_Tokens_v (s1 : ByteArray) : Option (List Gapi_Token) := joinK (fun (j1 : (List Gapi_Token) → Option (List Gapi_Token)) => andThen (ref07_Units_v s1) fun (r1 : (List Gref07_Unit)) => loopG (fun _ _ => none) (ref07_Tokens_s1 j1) fuel ([] : List Gapi_Token) r1
) (fun (out1 : List Gapi_Token) => some out1
)
set_option maxRecDepth 100000 in
set_option maxHeartbeats 4000000 in
theorem ref07_Tokens_fn {s1 : ByteArray} {r : (List Gapi_Token)} (h : ref07_Tokens_v s1 = some r) : Fn Try.prog 13 [.string s1] [] (fun v0 : Value => v0) (fun v0 => [vec enc_Gapi_Token 36 3 v0 r]) := by
 unfold ref07_Tokens_v at h
 refine Fn.intro Try.func13 rfl Try.ntmps13 (by simp) ?_
 intro w0 K
 obtain ⟨j1, hj1, h⟩ := joinE h
 refine TC.cutN (β := (List Gapi_Token) × Value) 2 rfl (fun b => j1 b.1 = some r) (fun b => []) (fun b => [(3, b.2)]) (fun b => [vec enc_Gapi_Token 36 3 b.2 b.1]) (fun cut => ?_) ?_
 ·
  refine TC.seq (TC.region (TO.assign rfl (by decide) rfl (TO.nil (TX.next (TC.seq (TC.region (TO.assign rfl (by decide) rfl (TO.nil (TX.next (cut (TC.seq (TC.region (TO.move rfl (by decide) rfl ?_)))))))))))))
  obtain ⟨r1, hq1, h⟩ := andE h
  refine TO.call (vs := [.string s1]) rfl (by decide) rfl rfl rfl en_43 (ref07_Units_fn hq1) Splits.nil ?_
  rintro v2
  show TO _ _ _ _ _ _ _ _ _ _ [vec enc_Gref07_Unit 62 5 v2 r1]
  refine TO.assign rfl (by decide) rfl (TO.nil (TX.next (TC.block (TC.newVec (enc := enc_Gapi_Token) (e := 36) (size := 3) ?_))))
  show TC _ _ _ _ _ _ _ _ _ [vec enc_Gref07_Unit 62 5 v2 r1, vec enc_Gapi_Token 36 3 (.slice none 0 0) ([] : List Gapi_Token)]
  refine TC.vecVw (k := 0) rfl (fun hw1 => ?_)
  refine TC.loopD (β := Nat × (List Gapi_Token) × (List Gref07_Unit) × Value × Value × Nat) (fun b => loopG (fun _ _ => none) (ref07_Tokens_s1 j1) b.1 b.2.1 b.2.2.1 = some r ∧ Vw v2 r1 5 b.2.2.2.2.2 b.2.2.2.2.1 b.2.2.1) (fun b => []) (fun b => [(3, b.2.2.2.1), (4, b.2.2.2.2.1)]) (fun b => [vec enc_Gapi_Token 36 3 b.2.2.2.1 b.2.1, vec enc_Gref07_Unit 62 5 v2 r1]) (fun b => b.1) (fuel, ([] : List Gapi_Token), r1, (.slice none 0 0), v2, 0) ⟨h, hw1⟩ rfl (Sbs.cons rfl (Sbs.cons rfl (Sbs.nil))) (Splits.of [1, 0] (by as_aux_lemma => kernel_rfl) rfl) ?_
  rintro ⟨n1, out5, l3, v8, v9, at3⟩ ⟨h, hw4⟩
  cases n1 with
  | zero => exact noneE h
  | succ n1 =>
   obtain ⟨ag1, hag1⟩ : ∃ ag, ag = loopG (fun _ _ => none) (ref07_Tokens_s1 j1) n1 := ⟨_, rfl⟩
   have h : ref07_Tokens_s1 j1 ag1 out5 l3 = some r := by rw [hag1]; exact h
   unfold ref07_Tokens_s1 at h
   show TC _ _ _ _ _ ([]) _ _ [(3, v8), (4, v9)] [vec enc_Gapi_Token 36 3 v8 out5, vec enc_Gref07_Unit 62 5 v2 r1]
   refine TC.seq (TC.seq (TC.region (TO.move rfl (by decide) rfl (TO.lenVw hw4 rfl (by decide) rfl Try.underlying59 (TO.bin rfl (by decide) rfl rfl bin_gtr (TO.nil (TX.next ?_)))))))
   refine TC.condB rfl (fun hb1 => ?_) (fun hb1 => ?_)
   ·
    have h := condT hb1 h
    refine TC.skip (TX.next (TC.block ?_))
    obtain ⟨j2, hj2, h⟩ := joinE h
    refine TC.cutN (β := Int × Int) 1 rfl (fun b => j2 b.1 b.2 = some r) (fun b => []) (fun b => [(3, v8), (4, v9), (5, .int .i64 b.1), (6, .int .i64 b.2)]) (fun b => [vec enc_Gapi_Token 36 3 v8 out5, vec enc_Gref07_Unit 62 5 v2 r1]) (fun cut => ?_) ?_
    ·
     refine TC.seq (TC.region (TO.assign rfl (by decide) rfl (TO.assign rfl (by decide) rfl (TO.nil (TX.next (cut (TC.seq (TC.region (TO.move rfl (by decide) rfl ?_)))))))))
     obtain ⟨q1, hq2, h⟩ := andE h
     refine TO.indexVw hw4 hq2 Try.underlying59 sz_62 rfl (by decide) rfl rfl rfl (TO.fieldAddr fl_62_0 rfl (by decide) rfl (show _ = (at3 + (0 : Int).toNat) * 5 from rfl) (TO.loadVec (i := at3 + (0 : Int).toNat) (j := 0) (k := 1) (q := q1) sc_3 enc_Gref07_Unit_len rfl (by decide) rfl rfl (Vw.get hw4 hq2) rfl (by decide) rfl (TO.nil (TX.next (TC.block (TC.seq (TC.region (TO.bin rfl (by decide) rfl rfl bin_eql (TO.assign rfl (by decide) rfl (TO.nil (TX.next ?_)))))))))))
     refine TC.condB rfl (fun hb2 => ?_) (fun hb2 => ?_)
     ·
      have h := condT hb2 h
      refine TC.region (TO.move rfl (by decide) rfl ?_)
      refine TO.buildSlice (cs := [.int .i32 39, .int .i32 8217, .int .i32 45, .int .i32 8208]) (te := 21) (ps := [(0, .const (.int .i32 39)), (1, .const (.int .i32 8217)), (2, .const (.int .i32 45)), (3, .const (.int .i32 8208))]) rfl (by decide) rfl (fun _ => by kernel_rfl) (fun b1 => ?_)
      refine TO.toVec ([39, 8217, 45, 8208] : List Int) (k := 2) rfl encI_len rfl (show 4 ≤ maxLen by decide) ?_
      show TO _ _ _ _ _ _ _ _ _ _ [vec enc_Gapi_Token 36 3 v8 out5, vec enc_Gref07_Unit 62 5 v2 r1, vec (encI (.i32)) 21 1 (.slice (some ⟨b1, 0, none⟩) 4 4) ([39, 8217, 45, 8208] : List Int)]
      refine TO.vecVw (k := 2) rfl (fun hw5 => ?_)
      obtain ⟨r2, hq3, h⟩ := andE h
      refine TO.callK (v := .int .i64 r2) (vs := [v9, .int .i64 1, .slice (some ⟨b1, 0, none⟩) 4 4]) rfl (by decide) rfl rfl rfl en_44 (ref07_run_fn hw4 hw5 hq3) [1, 2] (by as_aux_lemma => kernel_rfl) rfl (TO.assign rfl (by decide) rfl (TO.assign rfl (by decide) rfl (TO.nil (TX.blockNormal ?_))))
      exact TX.meetD (r2, 1) h rfl (Sbs.cons rfl (Sbs.cons rfl (Sbs.cons rfl (Sbs.cons rfl (Sbs.nil))))) (Splits.of [0, 1] (by as_aux_lemma => kernel_rfl) rfl)
     ·
      have h := condF hb2 h
      refine TC.seq (TC.region (TO.bin rfl (by decide) rfl rfl bin_eql (TO.assign rfl (by decide) rfl (TO.nil (TX.next ?_)))))
      refine TC.condB rfl (fun hb3 => ?_) (fun hb3 => ?_)
      ·
       have h := condT hb3 h
       refine TC.region (TO.move rfl (by decide) rfl ?_)
       refine TO.buildSlice (cs := [.int .i32 44, .int .i32 46]) (te := 21) (ps := [(0, .const (.int .i32 44)), (1, .const (.int .i32 46))]) rfl (by decide) rfl (fun _ => by kernel_rfl) (fun b2 => ?_)
       refine TO.toVec ([44, 46] : List Int) (k := 2) rfl encI_len rfl (show 2 ≤ maxLen by decide) ?_
       show TO _ _ _ _ _ _ _ _ _ _ [vec enc_Gapi_Token 36 3 v8 out5, vec enc_Gref07_Unit 62 5 v2 r1, vec (encI (.i32)) 21 1 (.slice (some ⟨b2, 0, none⟩) 2 2) ([44, 46] : List Int)]
       refine TO.vecVw (k := 2) rfl (fun hw6 => ?_)
       obtain ⟨r3, hq4, h⟩ := andE h
       refine TO.callK (v := .int .i64 r3) (vs := [v9, .int .i64 3, .slice (some ⟨b2, 0, none⟩) 2 2]) rfl (by decide) rfl rfl rfl en_44 (ref07_run_fn hw4 hw6 hq4) [1, 2] (by as_aux_lemma => kernel_rfl) rfl (TO.assign rfl (by decide) rfl (TO.assign rfl (by decide) rfl (TO.nil (TX.blockNormal ?_))))
       exact TX.meetD (r3, 2) h rfl (Sbs.cons rfl (Sbs.cons rfl (Sbs.cons rfl (Sbs.cons rfl (Sbs.nil))))) (Splits.of [0, 1] (by as_aux_lemma => kernel_rfl) rfl)
      ·
       have h := condF hb3 h
       refine TC.seq (TC.region (TO.bin rfl (by decide) rfl rfl bin_eql (TO.assign rfl (by decide) rfl (TO.nil (TX.next ?_)))))
       refine TC.condB rfl (fun hb4 => ?_) (fun hb4 => ?_)
       ·
        have h := condT hb4 h
        refine TC.region (TO.move rfl (by decide) rfl (TO.newVec (enc := (encI (.i32))) (e := 21) (size := 1) ?_))
        show TO _ _ _ _ _ _ _ _ _ _ [vec enc_Gapi_Token 36 3 v8 out5, vec enc_Gref07_Unit 62 5 v2 r1, vec (encI (.i32)) 21 1 (.slice none 0 0) ([] : List Int)]
        refine TO.vecVw (k := 2) rfl (fun hw7 => ?_)
        obtain ⟨r4, hq5, h⟩ := andE h
        refine TO.callK (v := .int .i64 r4) (vs := [v9, .int .i64 5, .slice none 0 0]) rfl (by decide) rfl rfl rfl en_44 (ref07_run_fn hw4 hw7 hq5) [1, 2] (by as_aux_lemma => kernel_rfl) rfl (TO.assign rfl (by decide) rfl (TO.assign rfl (by decide) rfl (TO.nil (TX.blockNormal ?_))))
        exact TX.meetD (r4, 3) h rfl (Sbs.cons rfl (Sbs.cons rfl (Sbs.cons rfl (Sbs.cons rfl (Sbs.nil))))) (Splits.of [0, 1] (by as_aux_lemma => kernel_rfl) rfl)
       ·
        have h := condF hb4 h
        refine TC.seq (TC.region (TO.bin rfl (by decide) rfl rfl bin_eql (TO.assign rfl (by decide) rfl (TO.nil (TX.next ?_)))))
        refine TC.condB rfl (fun hb5 => ?_) (fun hb5 => ?_)
        ·
         have h := condT hb5 h
         refine TC.region (TO.move rfl (by decide) rfl (TO.newVec (enc := (encI (.i32))) (e := 21) (size := 1) ?_))
         show TO _ _ _ _ _ _ _ _ _ _ [vec enc_Gapi_Token 36 3 v8 out5, vec enc_Gref07_Unit 62 5 v2 r1, vec (encI (.i32)) 21 1 (.slice none 0 0) ([] : List Int)]
         refine TO.vecVw (k := 2) rfl (fun hw8 => ?_)
         obtain ⟨r5, hq6, h⟩ := andE h
         refine TO.callK (v := .int .i64 r5) (vs := [v9, .int .i64 11, .slice none 0 0]) rfl (by decide) rfl rfl rfl en_44 (ref07_run_fn hw4 hw8 hq6) [1, 2] (by as_aux_lemma => kernel_rfl) rfl (TO.assign rfl (by decide) rfl (TO.assign rfl (by decide) rfl (TO.nil (TX.blockNormal ?_))))
         exact TX.meetD (r5, 7) h rfl (Sbs.cons rfl (Sbs.cons rfl (Sbs.cons rfl (Sbs.cons rfl (Sbs.nil))))) (Splits.of [0, 1] (by as_aux_lemma => kernel_rfl) rfl)
        ·
         have h := condF hb5 h
         refine TC.seq (TC.region (TO.bin rfl (by decide) rfl rfl bin_eql (TO.assign rfl (by decide) rfl (TO.nil (TX.next ?_)))))
         refine TC.condB rfl (fun hb6 => ?_) (fun hb6 => ?_)
         ·
          have h := condT hb6 h
          refine TC.seq (TC.region (TO.assign rfl (by decide) rfl (TO.nil (TX.next (TC.seq (TC.region (TO.move rfl (by decide) rfl ?_)))))))
          obtain ⟨q2, hq7, h⟩ := andE h
          refine TO.indexVw hw4 hq7 Try.underlying59 sz_62 rfl (by decide) rfl rfl rfl (TO.fieldAddr fl_62_2 rfl (by decide) rfl (show _ = (at3 + (0 : Int).toNat) * 5 + 3 from rfl) (TO.loadVec (i := at3 + (0 : Int).toNat) (j := 3) (k := 1) (q := q2) sc_21 enc_Gref07_Unit_len rfl (by decide) rfl rfl (Vw.get hw4 hq7) rfl (by decide) rfl (TO.bin rfl (by decide) rfl rfl bin_eql (TO.move rfl (by decide) rfl ?_))))
          refine TO.split (s := 41) rfl (fun hb7 => ?_) (fun hb7 => ?_)
          ·
           have h := condT hb7 h
           refine TO.move rfl (by decide) rfl ?_
           obtain ⟨r6, hq8, h⟩ := andE h
           refine TO.callK (v := .bool r6) (vs := [v9, .int .i64 1, .int .i64 4]) rfl (by decide) rfl rfl rfl en_45 (ref07_is_fn hw4 hq8) [1] (by as_aux_lemma => kernel_rfl) rfl (TO.pick (b := true) rfl (by decide) rfl rfl (TO.move rfl (by decide) rfl ?_))
           refine TO.split (s := 45) rfl (fun hb8 => ?_) (fun hb8 => ?_)
           ·
            have h := condT hb8 h
            refine TO.move rfl (by decide) rfl ?_
            obtain ⟨q3, hq9, h⟩ := andE h
            refine TO.indexVw hw4 hq9 Try.underlying59 sz_62 rfl (by decide) rfl rfl rfl (TO.fieldAddr fl_62_2 rfl (by decide) rfl (show _ = (at3 + (1 : Int).toNat) * 5 + 3 from rfl) (TO.loadVec (i := at3 + (1 : Int).toNat) (j := 3) (k := 1) (q := q3) sc_21 enc_Gref07_Unit_len rfl (by decide) rfl rfl (Vw.get hw4 hq9) rfl (by decide) rfl (TO.bin rfl (by decide) rfl rfl bin_eql (TO.pick (b := true) rfl (by decide) rfl rfl (TO.nil (TX.next ?_))))))
            refine TC.condB rfl (fun hb9 => ?_) (fun hb9 => ?_)
            ·
             have h := condT hb9 h
             refine TC.region (TO.assign rfl (by decide) rfl (TO.nil (TX.blockNormal ?_)))
             exact TX.meetD (2, 4) h rfl (Sbs.cons rfl (Sbs.cons rfl (Sbs.cons rfl (Sbs.cons rfl (Sbs.nil))))) (Splits.of [0, 1] (by as_aux_lemma => kernel_rfl) rfl)
            ·
             have h := condF hb9 h
             refine TC.skip (TX.blockNormal ?_)
             exact TX.meetD (1, 4) h rfl (Sbs.cons rfl (Sbs.cons rfl (Sbs.cons rfl (Sbs.cons rfl (Sbs.nil))))) (Splits.of [0, 1] (by as_aux_lemma => kernel_rfl) rfl)
           ·
            have h := condF hb8 h
            refine TO.skip rfl (by decide) (TO.skip rfl (by decide) (TO.skip rfl (by decide) (TO.skip rfl (by decide) (TO.skip rfl (by decide) (TO.pick (b := false) rfl (by decide) rfl rfl (TO.nil (TX.next (TC.condF rfl (TC.skip (TX.blockNormal ?_))))))))))
            exact TX.meetD (1, 4) h rfl (Sbs.cons rfl (Sbs.cons rfl (Sbs.cons rfl (Sbs.cons rfl (Sbs.nil))))) (Splits.of [0, 1] (by as_aux_lemma => kernel_rfl) rfl)
          ·
           have h := condF hb7 h
           refine TO.skip rfl (by decide) (TO.skip rfl (by decide) (TO.pick (b := false) rfl (by decide) rfl rfl (TO.move rfl (by decide) rfl (TO.skip rfl (by decide) (TO.skip rfl (by decide) (TO.skip rfl (by decide) (TO.skip rfl (by decide) (TO.skip rfl (by decide) (TO.pick (b := false) rfl (by decide) rfl rfl (TO.nil (TX.next (TC.condF rfl (TC.skip ?_)))))))))))))
           refine TX.blockNormal ?_
           exact TX.meetD (1, 4) h rfl (Sbs.cons rfl (Sbs.cons rfl (Sbs.cons rfl (Sbs.cons rfl (Sbs.nil))))) (Splits.of [0, 1] (by as_aux_lemma => kernel_rfl) rfl)
         ·
          have h := condF hb6 h
          obtain ⟨j3, hj3, h⟩ := joinE h
          refine TC.cutN (β := Bool) 0 rfl (fun b => j3 b = some r) (fun b => []) (fun b => [(3, v8), (4, v9), (5, .int .i64 1), (6, .int .i64 6), (52, .bool b)]) (fun b => [vec enc_Gapi_Token 36 3 v8 out5, vec enc_Gref07_Unit 62 5 v2 r1]) (fun cut => ?_) ?_
          ·
           refine cut (TC.seq (TC.region (TO.bin rfl (by decide) rfl rfl bin_eql (TO.assign rfl (by decide) rfl (TO.nil (TX.next ?_))))))
           refine TC.condB rfl (fun hb10 => ?_) (fun hb10 => ?_)
           ·
            have h := condT hb10 h
            refine TC.skip ?_
            exact TX.meetD ((q1.Kind : Int) == 6) h rfl (Sbs.cons rfl (Sbs.cons rfl (Sbs.cons rfl (Sbs.cons rfl (Sbs.cons rfl (Sbs.nil)))))) (Splits.of [0, 1] (by as_aux_lemma => kernel_rfl) rfl)
           ·
            have h := condF hb10 h
            refine TC.seq (TC.region (TO.bin rfl (by decide) rfl rfl bin_eql (TO.assign rfl (by decide) rfl (TO.nil (TX.next ?_)))))
            refine TC.condB rfl (fun hb11 => ?_) (fun hb11 => ?_)
            ·
             have h := condT hb11 h
             refine TC.skip ?_
             exact TX.meetD ((q1.Kind : Int) == 7) h rfl (Sbs.cons rfl (Sbs.cons rfl (Sbs.cons rfl (Sbs.cons rfl (Sbs.cons rfl (Sbs.nil)))))) (Splits.of [0, 1] (by as_aux_lemma => kernel_rfl) rfl)
            ·
             have h := condF hb11 h
             refine TC.region (TO.bin rfl (by decide) rfl rfl bin_eql (TO.assign rfl (by decide) rfl (TO.nil ?_)))
             exact TX.meetD ((q1.Kind : Int) == 8) h rfl (Sbs.cons rfl (Sbs.cons rfl (Sbs.cons rfl (Sbs.cons rfl (Sbs.cons rfl (Sbs.nil)))))) (Splits.of [0, 1] (by as_aux_lemma => kernel_rfl) rfl)
          ·
           rintro x1 h
           subst hj3
           show TC _ _ _ _ _ ([]) _ _ [(3, v8), (4, v9), (5, .int .i64 1), (6, .int .i64 6), (52, .bool x1)] [vec enc_Gapi_Token 36 3 v8 out5, vec enc_Gref07_Unit 62 5 v2 r1]
           refine TC.condB rfl (fun hb12 => ?_) (fun hb12 => ?_)
           ·
            have h := condT hb12 h
            refine TC.region (TO.assign rfl (by decide) rfl (TO.nil (TX.blockNormal ?_)))
            exact TX.meetD (1, 5) h rfl (Sbs.cons rfl (Sbs.cons rfl (Sbs.cons rfl (Sbs.cons rfl (Sbs.nil))))) (Splits.of [0, 1] (by as_aux_lemma => kernel_rfl) rfl)
           ·
            have h := condF hb12 h
            refine TC.skip (TX.blockNormal ?_)
            exact TX.meetD (1, 6) h rfl (Sbs.cons rfl (Sbs.cons rfl (Sbs.cons rfl (Sbs.cons rfl (Sbs.nil))))) (Splits.of [0, 1] (by as_aux_lemma => kernel_rfl) rfl)
    ·
     rintro ⟨n2, kind1⟩ h
     subst hj2
     show TC _ _ _ _ _ ([]) _ _ [(3, v8), (4, v9), (5, .int .i64 n2), (6, .int .i64 kind1)] [vec enc_Gapi_Token 36 3 v8 out5, vec enc_Gref07_Unit 62 5 v2 r1]
     refine TC.seq ?_
     obtain ⟨q4, hq10, h⟩ := andE h
     obtain ⟨hg1, h⟩ := grdE h
     obtain ⟨q5, hq11, h⟩ := andE h
     obtain ⟨hg2, h⟩ := grdE h
     refine TC.drawB (β := Nat) 17 16 _ [(0, 56, v8), (1, 57, .int .i64 kind1), (2, 58, v9), (3, 59, .pointer (some ⟨vblk v2, (at3 + (0 : Int).toNat) * 5, none⟩)), (4, 60, .pointer (some ⟨vblk v2, (at3 + (0 : Int).toNat) * 5 + 1, none⟩)), (5, 61, .pointer (some ⟨vblk v2, (at3 + (0 : Int).toNat) * 5 + 1, none⟩)), (6, 62, .int .i64 q4.Span_From), (7, 63, v9), (8, 64, .int .i64 n2), (9, 65, .int .i64 (n2 - 1)), (10, 66, .pointer (some ⟨vblk v2, (at3 + (n2 - 1 : Int).toNat) * 5, none⟩)), (11, 67, .pointer (some ⟨vblk v2, (at3 + (n2 - 1 : Int).toNat) * 5 + 1, none⟩)), (12, 68, .pointer (some ⟨vblk v2, (at3 + (n2 - 1 : Int).toNat) * 5 + 2, none⟩)), (13, 69, .int .i64 q5.Span_To), (14, 70, .agg #[.int .i64 q4.Span_From, .int .i64 q5.Span_To]), (15, 71, .agg #[.int .i64 kind1, .int .i64 q4.Span_From, .int .i64 q5.Span_To])] (fun b3 => [(72, .slice (some ⟨b3, 0, none⟩) 1 1)]) (fun b3 => [vec enc_Gapi_Token 36 3 v8 out5, vec enc_Gref07_Unit 62 5 v2 r1, cells b3 [.int .i64 kind1, .int .i64 q4.Span_From, .int .i64 q5.Span_To] 36]) mixed (by as_aux_lemma => kernel_rfl) (by as_aux_lemma => kernel_rfl) rfl (by decide) (by decide) (by rfl) (by as_aux_lemma => kernel_rfl) (by as_aux_lemma => kernel_rfl) (DrawPreX.cons ?_ (DrawPreX.cons ?_ (DrawPreX.cons ?_ (DrawPreX.cons ?_ (DrawPreX.cons ?_ (DrawPreX.cons ?_ (DrawPreX.cons ?_ (DrawPreX.cons ?_ (DrawPreX.cons ?_ (DrawPreX.cons ?_ (DrawPreX.cons ?_ (DrawPreX.cons ?_ (DrawPreX.cons ?_ (DrawPreX.cons ?_ (DrawPreX.cons ?_ (DrawPreX.cons ?_ (DrawPreX.here DrawPreX.nil))))))))))))))))) (fun b3 => (DrawPreX.cons ?_ (DrawPreX.cons ?_ (DrawPreX.cons ?_ (DrawPreX.cons ?_ (DrawPreX.cons ?_ (DrawPreX.cons ?_ (DrawPreX.cons ?_ (DrawPreX.cons ?_ (DrawPreX.cons ?_ (DrawPreX.cons ?_ (DrawPreX.cons ?_ (DrawPreX.cons ?_ (DrawPreX.cons ?_ (DrawPreX.cons ?_ (DrawPreX.cons ?_ (DrawPreX.cons ?_ (DrawPreX.here DrawPreX.nil)))))))))))))))))) ?_ ?_
     ·
      intro D hn hd hcl hu hi
      refine TO.move rfl (by decide) (dl_old (by rfl) rfl) ?_
      exact TX.quiet 0 hu hi rfl
     ·
      intro D hn hd hcl hu hi
      refine TO.move rfl (by decide) (dl_old (by rfl) rfl) ?_
      exact TX.quiet 1 hu hi rfl
     ·
      intro D hn hd hcl hu hi
      refine TO.move rfl (by decide) (dl_old (by rfl) rfl) ?_
      exact TX.quiet 2 hu hi rfl
     ·
      intro D hn hd hcl hu hi
      refine TO.indexVw hw4 hq10 Try.underlying59 sz_62 rfl (by decide) (dl_lookup (m := 2) hu rfl (hd 2 (by decide))) rfl rfl ?_
      exact TX.quiet 3 hu hi rfl
     ·
      intro D hn hd hcl hu hi
      refine TO.fieldAddr fl_62_1 rfl (by decide) (dl_lookup (m := 3) hu rfl (hd 3 (by decide))) (show _ = (at3 + (0 : Int).toNat) * 5 + 1 from rfl) ?_
      exact TX.quiet 4 hu hi rfl
     ·
      intro D hn hd hcl hu hi
      refine TO.fieldAddr fl_34_0 rfl (by decide) (dl_lookup (m := 4) hu rfl (hd 4 (by decide))) (show _ = (at3 + (0 : Int).toNat) * 5 + 1 from rfl) ?_
      exact TX.quiet 5 hu hi rfl
     ·
      intro D hn hd hcl hu hi
      refine TO.loadVec (i := at3 + (0 : Int).toNat) (j := 1) (k := 1) (q := q4) sc_3 enc_Gref07_Unit_len rfl (by decide) (dl_lookup (m := 5) hu rfl (hd 5 (by decide))) rfl (Vw.get hw4 hq10) rfl (by decide) rfl ?_
      exact TX.quiet 6 hu hi rfl
     ·
      intro D hn hd hcl hu hi
      refine TO.move rfl (by decide) (dl_old (by rfl) rfl) ?_
      exact TX.quiet 7 hu hi rfl
     ·
      intro D hn hd hcl hu hi
      refine TO.move rfl (by decide) (dl_old (by rfl) rfl) ?_
      exact TX.quiet 8 hu hi rfl
     ·
      intro D hn hd hcl hu hi
      refine TO.bin rfl (by decide) (dl_lookup (m := 8) hu rfl (hd 8 (by decide))) rfl (bin_sub (r := n2 - 1) (IntWalk.i64_in _ hg1)) ?_
      exact TX.quiet 9 hu hi rfl
     ·
      intro D hn hd hcl hu hi
      refine TO.indexVw hw4 hq11 Try.underlying59 sz_62 rfl (by decide) (dl_lookup (m := 7) hu rfl (hd 7 (by decide))) (dl_lookup (m := 9) hu rfl (hd 9 (by decide))) rfl ?_
      exact TX.quiet 10 hu hi rfl
     ·
      intro D hn hd hcl hu hi
      refine TO.fieldAddr fl_62_1 rfl (by decide) (dl_lookup (m := 10) hu rfl (hd 10 (by decide))) (show _ = (at3 + (n2 - 1 : Int).toNat) * 5 + 1 from rfl) ?_
      exact TX.quiet 11 hu hi rfl
     ·
      intro D hn hd hcl hu hi
      refine TO.fieldAddr fl_34_1 rfl (by decide) (dl_lookup (m := 11) hu rfl (hd 11 (by decide))) (show _ = (at3 + (n2 - 1 : Int).toNat) * 5 + 2 from rfl) ?_
      exact TX.quiet 12 hu hi rfl
     ·
      intro D hn hd hcl hu hi
      refine TO.loadVec (i := at3 + (n2 - 1 : Int).toNat) (j := 2) (k := 1) (q := q5) sc_3 enc_Gref07_Unit_len rfl (by decide) (dl_lookup (m := 12) hu rfl (hd 12 (by decide))) rfl (Vw.get hw4 hq11) rfl (by decide) rfl ?_
      exact TX.quiet 13 hu hi rfl
     ·
      intro D hn hd hcl hu hi
      refine TO.build (v := .agg #[.int .i64 q4.Span_From, .int .i64 q5.Span_To]) (ps := [(0, .tmp 62), (1, .tmp 69)]) rfl (by decide) (evP.cons (dl_lookup (m := 6) hu rfl (hd 6 (by decide))) (evP.cons (dl_lookup (m := 13) hu rfl (hd 13 (by decide))) evP.nil)) (fun _ => by kernel_rfl) ?_
      exact TX.quiet 14 hu hi rfl
     ·
      intro D hn hd hcl hu hi
      refine TO.build (v := .agg #[.int .i64 kind1, .int .i64 q4.Span_From, .int .i64 q5.Span_To]) (ps := [(0, .tmp 57), (1, .tmp 70)]) rfl (by decide) (evP.cons (dl_lookup (m := 1) hu rfl (hd 1 (by decide))) (evP.cons (dl_lookup (m := 14) hu rfl (hd 14 (by decide))) evP.nil)) (fun _ => by kernel_rfl) ?_
      exact TX.quiet 15 hu hi rfl
     ·
      intro D hn hd hcl hu hi
      refine TO.move rfl (by decide) (dl_old (by rfl) rfl) ?_
      exact TX.quiet 0 hu hi rfl
     ·
      intro D hn hd hcl hu hi
      refine TO.move rfl (by decide) (dl_old (by rfl) rfl) ?_
      exact TX.quiet 1 hu hi rfl
     ·
      intro D hn hd hcl hu hi
      refine TO.move rfl (by decide) (dl_old (by rfl) rfl) ?_
      exact TX.quiet 2 hu hi rfl
     ·
      intro D hn hd hcl hu hi
      refine TO.indexVw hw4 hq10 Try.underlying59 sz_62 rfl (by decide) (dl_lookup (m := 2) hu rfl (hd 2 (by decide))) rfl rfl ?_
      exact TX.quiet 3 hu hi rfl
     ·
      intro D hn hd hcl hu hi
      refine TO.fieldAddr fl_62_1 rfl (by decide) (dl_lookup (m := 3) hu rfl (hd 3 (by decide))) (show _ = (at3 + (0 : Int).toNat) * 5 + 1 from rfl) ?_
      exact TX.quiet 4 hu hi rfl
     ·
      intro D hn hd hcl hu hi
      refine TO.fieldAddr fl_34_0 rfl (by decide) (dl_lookup (m := 4) hu rfl (hd 4 (by decide))) (show _ = (at3 + (0 : Int).toNat) * 5 + 1 from rfl) ?_
      exact TX.quiet 5 hu hi rfl
     ·
      intro D hn hd hcl hu hi
      refine TO.loadVec (i := at3 + (0 : Int).toNat) (j := 1) (k := 1) (q := q4) sc_3 enc_Gref07_Unit_len rfl (by decide) (dl_lookup (m := 5) hu rfl (hd 5 (by decide))) rfl (Vw.get hw4 hq10) rfl (by decide) rfl ?_
      exact TX.quiet 6 hu hi rfl
     ·
      intro D hn hd hcl hu hi
      refine TO.move rfl (by decide) (dl_old (by rfl) rfl) ?_
      exact TX.quiet 7 hu hi rfl
     ·
      intro D hn hd hcl hu hi
      refine TO.move rfl (by decide) (dl_old (by rfl) rfl) ?_
      exact TX.quiet 8 hu hi rfl
     ·
      intro D hn hd hcl hu hi
      refine TO.bin rfl (by decide) (dl_lookup (m := 8) hu rfl (hd 8 (by decide))) rfl (bin_sub (r := n2 - 1) (IntWalk.i64_in _ hg1)) ?_
      exact TX.quiet 9 hu hi rfl
     ·
      intro D hn hd hcl hu hi
      refine TO.indexVw hw4 hq11 Try.underlying59 sz_62 rfl (by decide) (dl_lookup (m := 7) hu rfl (hd 7 (by decide))) (dl_lookup (m := 9) hu rfl (hd 9 (by decide))) rfl ?_
      exact TX.quiet 10 hu hi rfl
     ·
      intro D hn hd hcl hu hi
      refine TO.fieldAddr fl_62_1 rfl (by decide) (dl_lookup (m := 10) hu rfl (hd 10 (by decide))) (show _ = (at3 + (n2 - 1 : Int).toNat) * 5 + 1 from rfl) ?_
      exact TX.quiet 11 hu hi rfl
     ·
      intro D hn hd hcl hu hi
      refine TO.fieldAddr fl_34_1 rfl (by decide) (dl_lookup (m := 11) hu rfl (hd 11 (by decide))) (show _ = (at3 + (n2 - 1 : Int).toNat) * 5 + 2 from rfl) ?_
      exact TX.quiet 12 hu hi rfl
     ·
      intro D hn hd hcl hu hi
      refine TO.loadVec (i := at3 + (n2 - 1 : Int).toNat) (j := 2) (k := 1) (q := q5) sc_3 enc_Gref07_Unit_len rfl (by decide) (dl_lookup (m := 12) hu rfl (hd 12 (by decide))) rfl (Vw.get hw4 hq11) rfl (by decide) rfl ?_
      exact TX.quiet 13 hu hi rfl
     ·
      intro D hn hd hcl hu hi
      refine TO.build (v := .agg #[.int .i64 q4.Span_From, .int .i64 q5.Span_To]) (ps := [(0, .tmp 62), (1, .tmp 69)]) rfl (by decide) (evP.cons (dl_lookup (m := 6) hu rfl (hd 6 (by decide))) (evP.cons (dl_lookup (m := 13) hu rfl (hd 13 (by decide))) evP.nil)) (fun _ => by kernel_rfl) ?_
      exact TX.quiet 14 hu hi rfl
     ·
      intro D hn hd hcl hu hi
      refine TO.build (v := .agg #[.int .i64 kind1, .int .i64 q4.Span_From, .int .i64 q5.Span_To]) (ps := [(0, .tmp 57), (1, .tmp 70)]) rfl (by decide) (evP.cons (dl_lookup (m := 1) hu rfl (hd 1 (by decide))) (evP.cons (dl_lookup (m := 14) hu rfl (hd 14 (by decide))) evP.nil)) (fun _ => by kernel_rfl) ?_
      exact TX.quiet 15 hu hi rfl
     ·
      intro D hn hd hcl
      refine TO.buildSlice (cs := [.int .i64 kind1, .int .i64 q4.Span_From, .int .i64 q5.Span_To]) (te := 36) (ps := [(0, .tmp 71)]) rfl (by decide) (evP.cons (dl_lookup (m := 15) (by as_aux_lemma => kernel_rfl) rfl (hd 15 (by decide))) evP.nil) (fun _ => by kernel_rfl) (fun b3 => ?_)
      exact fun a w ha hw => ⟨b3, Sbs.mid (by rfl) _ _ _ ha, hw⟩
     intro b3
     show TO _ _ _ _ _ _ _ _ _ _ [vec enc_Gapi_Token 36 3 v8 out5, vec enc_Gref07_Unit 62 5 v2 r1, cells b3 [.int .i64 kind1, .int .i64 q4.Span_From, .int .i64 q5.Span_To] 36]
     refine TO.appendVec (k := 0) (k2 := 2) (ys := [(⟨kind1, q4.Span_From, q5.Span_To⟩ : Gapi_Token)]) Try.underlying23 el_36 enc_Gapi_Token_len enc_Gapi_Token_one rfl (by decide) rfl rfl rfl rfl rfl rfl hg2 (fun v10 => ?_)
     refine TO.assign rfl (by decide) rfl (TO.nil (TX.next (TC.region (TO.move rfl (by decide) rfl (TO.move rfl (by decide) rfl ?_)))))
     obtain ⟨hg3, h⟩ := grdE h
     obtain ⟨v11, hv1, hs1⟩ := slice_Vw (lo := some (.int .i64 n2)) (hi := none) hw4 Try.underlying59 sz_62 (.inr rfl) (.inl ⟨rfl, rfl⟩) hg3
     refine TO.slice rfl (by decide) rfl rfl rfl hs1 (TO.assign rfl (by decide) rfl (TO.nil (TX.blockNormal ?_)))
     subst hag1
     exact TX.againD (n1, out5 ++ [(⟨kind1, q4.Span_From, q5.Span_To⟩ : Gapi_Token)], cutL l3 n2 (l3.length : Int), v10, v11, at3 + (n2 : Int).toNat) ⟨h, hv1⟩ (Nat.lt_succ_self _) rfl (Sbs.cons rfl (Sbs.cons rfl (Sbs.nil))) (Splits.of [0, 1] (by as_aux_lemma => kernel_rfl) rfl)
   ·
    have h := condF hb1 h
    refine TC.exit (TX.thenExit (TX.thenExit (TX.blockHere ?_)))
    exact TX.meetD (out5, v8) h rfl (Sbs.cons rfl (Sbs.nil)) (Splits.of [0] (by as_aux_lemma => kernel_rfl) rfl)
 ·
  rintro ⟨out1, v1⟩ h
  subst hj1
  show TC _ _ _ _ _ ([]) _ _ [(3, v1)] [vec enc_Gapi_Token 36 3 v1 out1]
  refine TC.seq (TC.region (TO.move rfl (by decide) rfl (TO.assign rfl (by decide) rfl (TO.nil (TX.next (TC.ret ?_))))))
  cases h
  exact TX.fin (rs := [.tmp 2]) v1 (.inl rfl) Try.results13 (.cons (.tmp rfl) .nil) rfl (Splits.of [0] (by as_aux_lemma => kernel_rfl) rfl)
def ref07_Words_s1 (j1 : (List Gapi_Span) → Option (List Gapi_Span)) (r1 : (List Gapi_Token)) (ag1 : (List Gapi_Span) → Int → Option (List Gapi_Span)) (l4 : List Gapi_Span) (x3 : Int) : Option (List Gapi_Span) := bcond (decide ((x3 : Int) < (r1.length : Int))) ( joinK (fun (j2 : (List Gapi_Span) → Option (List Gapi_Span)) => andThen (getO r1 x3) fun (q1 : Gapi_Token) => bcond ((q1.Kind : Int) == 1) ( grd (l4.length + 1 ≤ 2147483648) <| j2 (l4 ++ [(⟨q1.Span_From, q1.Span_To⟩ : Gapi_Span)])
) ( j2 l4
)
) (fun (l5 : List Gapi_Span) => grd (I64 (x3 + 1)) <| ag1 l5 (x3 + 1)
)
) ( j1 l4
)
def ref07_Words_v (s1 : ByteArray) : Option (List Gapi_Span) := joinK (fun (j1 : (List Gapi_Span) → Option (List Gapi_Span)) => andThen (ref07_Tokens_v s1) fun (r1 : (List Gapi_Token)) => loopG (fun _ _ => none) (ref07_Words_s1 j1 r1) fuel ([] : List Gapi_Span) 0
) (fun (l1 : List Gapi_Span) => some l1
)
set_option maxRecDepth 100000 in
set_option maxHeartbeats 4000000 in
theorem ref07_Words_fn {s1 : ByteArray} {r : (List Gapi_Span)} (h : ref07_Words_v s1 = some r) : Fn Try.prog 14 [.string s1] [] (fun v0 : Value => v0) (fun v0 => [vec enc_Gapi_Span 34 2 v0 r]) := by
 unfold ref07_Words_v at h
 refine Fn.intro Try.func14 rfl Try.ntmps14 (by simp) ?_
 intro w0 K
 obtain ⟨j1, hj1, h⟩ := joinE h
 refine TC.cutN (β := (List Gapi_Span) × Value) 2 rfl (fun b => j1 b.1 = some r) (fun b => []) (fun b => [(3, b.2)]) (fun b => [vec enc_Gapi_Span 34 2 b.2 b.1]) (fun cut => ?_) ?_
 ·
  refine TC.seq (TC.region (TO.assign rfl (by decide) rfl (TO.nil (TX.next (TC.seq (TC.region (TO.assign rfl (by decide) rfl (TO.nil (TX.next (cut (TC.seq (TC.region (TO.move rfl (by decide) rfl ?_)))))))))))))
  obtain ⟨r1, hq1, h⟩ := andE h
  refine TO.call (vs := [.string s1]) rfl (by decide) rfl rfl rfl en_13 (ref07_Tokens_fn hq1) Splits.nil ?_
  rintro v2
  show TO _ _ _ _ _ _ _ _ _ _ [vec enc_Gapi_Token 36 3 v2 r1]
  refine TO.lenVec (k := 0) rfl (by decide) rfl rfl Try.underlying23 (TO.move rfl (by decide) rfl (TO.nil (TX.next (TC.block (TC.newVec (enc := enc_Gapi_Span) (e := 34) (size := 2) ?_)))))
  show TC _ _ _ _ _ _ _ _ _ [vec enc_Gapi_Token 36 3 v2 r1, vec enc_Gapi_Span 34 2 (.slice none 0 0) ([] : List Gapi_Span)]
  refine TC.loopD (β := Nat × (List Gapi_Span) × Int × Value) (fun b => loopG (fun _ _ => none) (ref07_Words_s1 j1 r1) b.1 b.2.1 b.2.2.1 = some r) (fun b => []) (fun b => [(3, b.2.2.2), (7, v2), (8, .int .i64 (r1.length : Int)), (9, .int .i64 b.2.2.1)]) (fun b => [vec enc_Gapi_Span 34 2 b.2.2.2 b.2.1, vec enc_Gapi_Token 36 3 v2 r1]) (fun b => b.1) (fuel, ([] : List Gapi_Span), 0, (.slice none 0 0)) h rfl (Sbs.cons rfl (Sbs.cons rfl (Sbs.cons rfl (Sbs.cons rfl (Sbs.nil))))) (Splits.of [1, 0] (by as_aux_lemma => kernel_rfl) rfl) ?_
  rintro ⟨n1, l4, x3, v5⟩ h
  cases n1 with
  | zero => exact noneE h
  | succ n1 =>
   obtain ⟨ag1, hag1⟩ : ∃ ag, ag = loopG (fun _ _ => none) (ref07_Words_s1 j1 r1) n1 := ⟨_, rfl⟩
   have h : ref07_Words_s1 j1 r1 ag1 l4 x3 = some r := by rw [hag1]; exact h
   unfold ref07_Words_s1 at h
   show TC _ _ _ _ _ ([]) _ _ [(3, v5), (7, v2), (8, .int .i64 (r1.length : Int)), (9, .int .i64 x3)] [vec enc_Gapi_Span 34 2 v5 l4, vec enc_Gapi_Token 36 3 v2 r1]
   refine TC.seq (TC.region (TO.bin rfl (by decide) rfl rfl bin_lss (TO.nil (TX.next (TC.seq ?_)))))
   refine TC.condB rfl (fun hb1 => ?_) (fun hb1 => ?_)
   ·
    have h := condT hb1 h
    refine TC.skip (TX.next ?_)
    obtain ⟨j2, hj2, h⟩ := joinE h
    refine TC.cutN (β := (List Gapi_Span) × Value) 0 rfl (fun b => j2 b.1 = some r) (fun b => []) (fun b => [(3, b.2), (7, v2), (8, .int .i64 (r1.length : Int)), (9, .int .i64 x3)]) (fun b => [vec enc_Gapi_Span 34 2 b.2 b.1, vec enc_Gapi_Token 36 3 v2 r1]) (fun cut => ?_) ?_
    ·
     refine cut (TC.block (TC.seq (TC.region ?_)))
     obtain ⟨q1, hq2, h⟩ := andE h
     refine TO.indexVecI (k := 1) hq2 Try.underlying23 sz_36 rfl (by decide) rfl rfl rfl rfl (TO.loadsVec (i := (x3 : Int).toNat) (j := 0) (k := 1) (q := q1) (cs := [.int .i64 q1.Kind, .int .i64 q1.Span_From, .int .i64 q1.Span_To]) rw_36 enc_Gapi_Token_len rfl (by decide) rfl rfl (getO_get hq2) rfl rfl rfl ?_)
     refine TO.alloc zr_36 rfl (by decide) (fun b1 => ?_)
     refine TO.stores (k := 2) (vs := [.int .i64 q1.Kind, .int .i64 q1.Span_From, .int .i64 q1.Span_To]) (l' := [.int .i64 q1.Kind, .int .i64 q1.Span_From, .int .i64 q1.Span_To]) sz_36 rfl rfl rfl rfl rfl (show _ ≤ _ by simp) rfl rfl ?_
     show TO _ _ _ _ _ _ _ _ _ _ [vec enc_Gapi_Span 34 2 v5 l4, vec enc_Gapi_Token 36 3 v2 r1, cells b1 [.int .i64 q1.Kind, .int .i64 q1.Span_From, .int .i64 q1.Span_To] 36]
     refine TO.nil (TX.next (TC.seq (TC.region (TO.fieldAddr fl_36_0 rfl (by decide) rfl (show _ = 0 from rfl) (TO.load (k := 2) sc_3 rfl (by decide) rfl rfl rfl (TO.bin rfl (by decide) rfl rfl bin_eql (TO.nil (TX.next ?_))))))))
     refine TC.condB rfl (fun hb2 => ?_) (fun hb2 => ?_)
     ·
      have h := condT hb2 h
      refine TC.region (TO.move rfl (by decide) rfl (TO.fieldAddr fl_36_1 rfl (by decide) rfl (show _ = 1 from rfl) (TO.loads (k := 2) (cs := [.int .i64 q1.Span_From, .int .i64 q1.Span_To]) rw_34 rfl (by decide) rfl rfl rfl rfl ?_)))
      refine TO.buildSlice (cs := [.int .i64 q1.Span_From, .int .i64 q1.Span_To]) (te := 34) (ps := [(0, .tmp 18)]) rfl (by decide) rfl (fun _ => by kernel_rfl) (fun b2 => ?_)
      obtain ⟨hg1, h⟩ := grdE h
      refine TO.appendVec (k := 0) (k2 := 3) (ys := [(⟨q1.Span_From, q1.Span_To⟩ : Gapi_Span)]) Try.underlying25 el_34 enc_Gapi_Span_len enc_Gapi_Span_one rfl (by decide) rfl rfl rfl rfl rfl rfl hg1 (fun v7 => ?_)
      show TO _ _ _ _ _ _ _ _ _ _ [vec enc_Gapi_Span 34 2 v7 (l4 ++ [(⟨q1.Span_From, q1.Span_To⟩ : Gapi_Span)]), vec enc_Gapi_Token 36 3 v2 r1, cells b1 [.int .i64 q1.Kind, .int .i64 q1.Span_From, .int .i64 q1.Span_To] 36, cells b2 [.int .i64 q1.Span_From, .int .i64 q1.Span_To] 34]
      refine TO.assign rfl (by decide) rfl (TO.nil (TX.blockNormal ?_))
      exact TX.meetD (l4 ++ [(⟨q1.Span_From, q1.Span_To⟩ : Gapi_Span)], v7) h rfl (Sbs.cons rfl (Sbs.cons rfl (Sbs.cons rfl (Sbs.cons rfl (Sbs.nil))))) (Splits.of [0, 1] (by as_aux_lemma => kernel_rfl) rfl)
     ·
      have h := condF hb2 h
      refine TC.skip (TX.blockNormal ?_)
      exact TX.meetD (l4, v5) h rfl (Sbs.cons rfl (Sbs.cons rfl (Sbs.cons rfl (Sbs.cons rfl (Sbs.nil))))) (Splits.of [0, 1] (by as_aux_lemma => kernel_rfl) rfl)
    ·
     rintro ⟨l5, v6⟩ h
     subst hj2
     show TC _ _ _ _ _ ([]) _ _ [(3, v6), (7, v2), (8, .int .i64 (r1.length : Int)), (9, .int .i64 x3)] [vec enc_Gapi_Span 34 2 v6 l5, vec enc_Gapi_Token 36 3 v2 r1]
     refine TC.region ?_
     obtain ⟨hg2, h⟩ := grdE h
     refine TO.bin rfl (by decide) rfl rfl (bin_add (r := x3 + 1) (IntWalk.i64_in _ hg2)) (TO.move rfl (by decide) rfl (TO.nil ?_))
     subst hag1
     exact TX.againD (n1, l5, x3 + 1, v6) h (Nat.lt_succ_self _) rfl (Sbs.cons rfl (Sbs.cons rfl (Sbs.cons rfl (Sbs.cons rfl (Sbs.nil))))) (Splits.of [0, 1] (by as_aux_lemma => kernel_rfl) rfl)
   ·
    have h := condF hb1 h
    refine TC.exit (TX.thenExit (TX.thenExit (TX.blockHere ?_)))
    exact TX.meetD (l4, v5) h rfl (Sbs.cons rfl (Sbs.nil)) (Splits.of [0] (by as_aux_lemma => kernel_rfl) rfl)
 ·
  rintro ⟨l1, v1⟩ h
  subst hj1
  show TC _ _ _ _ _ ([]) _ _ [(3, v1)] [vec enc_Gapi_Span 34 2 v1 l1]
  refine TC.seq (TC.region (TO.move rfl (by decide) rfl (TO.assign rfl (by decide) rfl (TO.nil (TX.next (TC.ret ?_))))))
  cases h
  exact TX.fin (rs := [.tmp 2]) v1 (.inl rfl) Try.results14 (.cons (.tmp rfl) .nil) rfl (Splits.of [0] (by as_aux_lemma => kernel_rfl) rfl)
def ref07_At_s1 (at1 : Int) (j1 : Option Gapi_Token) (r1 : (List Gapi_Token)) (ag1 : Int → Option Gapi_Token) (x3 : Int) : Option Gapi_Token := bcond (decide ((x3 : Int) < (r1.length : Int))) ( andThen (getO r1 x3) fun (q1 : Gapi_Token) => bcond (decide ((at1 : Int) < q1.Span_To)) ( some q1
) ( grd (I64 (x3 + 1)) <| ag1 (x3 + 1)
)
) ( j1
)
def ref07_At_v (s1 : ByteArray) (at1 : Int) : Option Gapi_Token := joinK (fun (j1 : Option Gapi_Token) => andThen (ref07_Tokens_v s1) fun (r1 : (List Gapi_Token)) => loopG (fun _ => none) (ref07_At_s1 at1 j1 r1) fuel 0
) ( some (⟨0, 0, 0⟩ : Gapi_Token)
)
set_option maxRecDepth 100000 in
set_option maxHeartbeats 4000000 in
theorem ref07_At_fn {s1 : ByteArray} {at1 : Int} {r : Gapi_Token} (h : ref07_At_v s1 at1 = some r) : FnP Try.prog 34 [.string s1, .int .i64 at1] (.agg #[.int .i64 r.Kind, .int .i64 r.Span_From, .int .i64 r.Span_To]) := by
 unfold ref07_At_v at h
 refine FnP.intro Try.func34 rfl Try.ntmps34 (by simp) ?_
 intro w0 K
 obtain ⟨j1, hj1, h⟩ := joinE h
 refine TC.cutN (β := Nat) 1 rfl (fun b => j1 = some r) (fun b => []) (fun b => [(4, .pointer (some ⟨b, 0, none⟩))]) (fun b => [cells b [.int .i64 0, .int .i64 0, .int .i64 0] 36]) (fun cut => ?_) ?_
 ·
  refine TC.seq (TC.region ?_)
  refine TO.alloc zr_36 rfl (by decide) (fun b2 => ?_)
  refine TO.nil (TX.next (cut (TC.seq (TC.region (TO.move rfl (by decide) rfl ?_)))))
  obtain ⟨r1, hq1, h⟩ := andE h
  refine TO.call (vs := [.string s1]) rfl (by decide) rfl rfl rfl en_13 (ref07_Tokens_fn hq1) Splits.nil ?_
  rintro v1
  show TO _ _ _ _ _ _ _ _ _ _ [cells b2 [.int .i64 0, .int .i64 0, .int .i64 0] 36, vec enc_Gapi_Token 36 3 v1 r1]
  refine TO.lenVec (k := 1) rfl (by decide) rfl rfl Try.underlying23 (TO.move rfl (by decide) rfl (TO.nil (TX.next (TC.block ?_))))
  refine TC.loopD (β := Nat × Int) (fun b => loopG (fun _ => none) (ref07_At_s1 at1 j1 r1) b.1 b.2 = some r) (fun b => []) (fun b => [(1, .int .i64 at1), (4, .pointer (some ⟨b2, 0, none⟩)), (8, v1), (9, .int .i64 (r1.length : Int)), (10, .int .i64 b.2)]) (fun b => [cells b2 [.int .i64 0, .int .i64 0, .int .i64 0] 36, vec enc_Gapi_Token 36 3 v1 r1]) (fun b => b.1) (fuel, 0) h rfl (Sbs.cons rfl (Sbs.cons rfl (Sbs.cons rfl (Sbs.cons rfl (Sbs.cons rfl (Sbs.nil)))))) (Splits.of [0, 1] (by as_aux_lemma => kernel_rfl) rfl) ?_
  rintro ⟨n1, x3⟩ h
  cases n1 with
  | zero => exact noneE h
  | succ n1 =>
   obtain ⟨ag1, hag1⟩ : ∃ ag, ag = loopG (fun _ => none) (ref07_At_s1 at1 j1 r1) n1 := ⟨_, rfl⟩
   have h : ref07_At_s1 at1 j1 r1 ag1 x3 = some r := by rw [hag1]; exact h
   unfold ref07_At_s1 at h
   show TC _ _ _ _ _ ([]) _ _ [(1, .int .i64 at1), (4, .pointer (some ⟨b2, 0, none⟩)), (8, v1), (9, .int .i64 (r1.length : Int)), (10, .int .i64 x3)] [cells b2 [.int .i64 0, .int .i64 0, .int .i64 0] 36, vec enc_Gapi_Token 36 3 v1 r1]
   refine TC.seq (TC.region (TO.bin rfl (by decide) rfl rfl bin_lss (TO.nil (TX.next (TC.seq ?_)))))
   refine TC.condB rfl (fun hb1 => ?_) (fun hb1 => ?_)
   ·
    have h := condT hb1 h
    refine TC.skip (TX.next (TC.seq (TC.block (TC.seq (TC.region ?_)))))
    obtain ⟨q1, hq2, h⟩ := andE h
    refine TO.indexVecI (k := 1) hq2 Try.underlying23 sz_36 rfl (by decide) rfl rfl rfl rfl (TO.loadsVec (i := (x3 : Int).toNat) (j := 0) (k := 1) (q := q1) (cs := [.int .i64 q1.Kind, .int .i64 q1.Span_From, .int .i64 q1.Span_To]) rw_36 enc_Gapi_Token_len rfl (by decide) rfl rfl (getO_get hq2) rfl rfl rfl ?_)
    refine TO.alloc zr_36 rfl (by decide) (fun b3 => ?_)
    refine TO.stores (k := 2) (vs := [.int .i64 q1.Kind, .int .i64 q1.Span_From, .int .i64 q1.Span_To]) (l' := [.int .i64 q1.Kind, .int .i64 q1.Span_From, .int .i64 q1.Span_To]) sz_36 rfl rfl rfl rfl rfl (show _ ≤ _ by simp) rfl rfl ?_
    show TO _ _ _ _ _ _ _ _ _ _ [cells b2 [.int .i64 0, .int .i64 0, .int .i64 0] 36, vec enc_Gapi_Token 36 3 v1 r1, cells b3 [.int .i64 q1.Kind, .int .i64 q1.Span_From, .int .i64 q1.Span_To] 36]
    refine TO.nil (TX.next (TC.seq (TC.region (TO.move rfl (by decide) rfl (TO.fieldAddr fl_36_1 rfl (by decide) rfl (show _ = 1 from rfl) (TO.fieldAddr fl_34_1 rfl (by decide) rfl (show _ = 2 from rfl) (TO.load (k := 2) sc_3 rfl (by decide) rfl rfl rfl (TO.bin rfl (by decide) rfl rfl bin_lss (TO.nil (TX.next ?_))))))))))
    refine TC.condB rfl (fun hb2 => ?_) (fun hb2 => ?_)
    ·
     have h := condT hb2 h
     refine TC.seq (TC.region (TO.loads (k := 2) (cs := [.int .i64 q1.Kind, .int .i64 q1.Span_From, .int .i64 q1.Span_To]) rw_36 rfl (by decide) rfl rfl rfl rfl (TO.stores (k := 0) (vs := [.int .i64 q1.Kind, .int .i64 q1.Span_From, .int .i64 q1.Span_To]) (l' := [.int .i64 q1.Kind, .int .i64 q1.Span_From, .int .i64 q1.Span_To]) sz_36 rfl rfl rfl rfl rfl (show _ ≤ _ by simp) rfl rfl (TO.nil (TX.next (TC.ret (TX.blockRet (TX.thenRet (TX.thenRet (TX.blockRet (TX.thenRet ?_)))))))))))
     cases h
     exact TX.fin (rs := [.cell 4 36]) () (.inl rfl) Try.results34 (.cons (.cells rw_36 (k := 0) rfl rfl rfl) .nil) rfl Splits.nil
    ·
     have h := condF hb2 h
     refine TC.skip (TX.blockNormal (TX.next (TC.region ?_)))
     obtain ⟨hg1, h⟩ := grdE h
     refine TO.bin rfl (by decide) rfl rfl (bin_add (r := x3 + 1) (IntWalk.i64_in _ hg1)) (TO.move rfl (by decide) rfl (TO.nil ?_))
     subst hag1
     exact TX.againD (n1, x3 + 1) h (Nat.lt_succ_self _) rfl (Sbs.cons rfl (Sbs.cons rfl (Sbs.cons rfl (Sbs.cons rfl (Sbs.cons rfl (Sbs.nil)))))) (Splits.of [0, 1] (by as_aux_lemma => kernel_rfl) rfl)
   ·
    have h := condF hb1 h
    refine TC.exit (TX.thenExit (TX.thenExit (TX.blockHere ?_)))
    exact TX.meetD b2 h rfl (Sbs.cons rfl (Sbs.nil)) (Splits.of [0] (by as_aux_lemma => kernel_rfl) rfl)
 ·
  rintro b1 h
  subst hj1
  show TC _ _ _ _ _ ([]) _ _ [(4, .pointer (some ⟨b1, 0, none⟩))] [cells b1 [.int .i64 0, .int .i64 0, .int .i64 0] 36]
  refine TC.seq (TC.region ?_)
  refine TO.build (v := .agg #[.int .i64 0, .int .i64 0, .int .i64 0]) (ps := []) rfl (by decide) rfl (fun _ => by kernel_rfl) ?_
  refine TO.stores (k := 0) (vs := [.int .i64 0, .int .i64 0, .int .i64 0]) (l' := [.int .i64 0, .int .i64 0, .int .i64 0]) sz_36 rfl rfl rfl rfl rfl (show _ ≤ _ by simp) rfl rfl (TO.nil (TX.next (TC.ret ?_)))
  cases h
  exact TX.fin (rs := [.cell 4 36]) () (.inl rfl) Try.results34 (.cons (.cells rw_36 (k := 0) rfl rfl rfl) .nil) rfl Splits.nil
def ref07_Next_s1 (at1 : Int) (j1 : Option (Gapi_Span × Bool)) (r1 : (List Gapi_Span)) (ag1 : Int → Option (Gapi_Span × Bool)) (x3 : Int) : Option (Gapi_Span × Bool) := bcond (decide ((x3 : Int) < (r1.length : Int))) ( andThen (getO r1 x3) fun (q1 : Gapi_Span) => bcond (decide ((at1 : Int) ≤ q1.From)) ( some (q1, true)
) ( grd (I64 (x3 + 1)) <| ag1 (x3 + 1)
)
) ( j1
)
def ref07_Next_v (s1 : ByteArray) (at1 : Int) : Option (Gapi_Span × Bool) := joinK (fun (j1 : Option (Gapi_Span × Bool)) => andThen (ref07_Words_v s1) fun (r1 : (List Gapi_Span)) => loopG (fun _ => none) (ref07_Next_s1 at1 j1 r1) fuel 0
) ( some ((⟨0, 0⟩ : Gapi_Span), false)
)
set_option maxRecDepth 100000 in
set_option maxHeartbeats 4000000 in
theorem ref07_Next_fn {s1 : ByteArray} {at1 : Int} {r : (Gapi_Span × Bool)} (h : ref07_Next_v s1 at1 = some r) : FnP Try.prog 36 [.string s1, .int .i64 at1] (.tuple #[.agg #[.int .i64 r.1.From, .int .i64 r.1.To], .bool r.2]) := by
 unfold ref07_Next_v at h
 refine FnP.intro Try.func36 rfl Try.ntmps36 (by simp) ?_
 intro w0 K
 obtain ⟨j1, hj1, h⟩ := joinE h
 refine TC.cutN (β := Nat) 1 rfl (fun b => j1 = some r) (fun b => []) (fun b => [(4, .pointer (some ⟨b, 0, none⟩))]) (fun b => [cells b [.int .i64 0, .int .i64 0] 34]) (fun cut => ?_) ?_
 ·
  refine TC.seq (TC.region ?_)
  refine TO.alloc zr_34 rfl (by decide) (fun b2 => ?_)
  refine TO.assign rfl (by decide) rfl (TO.nil (TX.next (cut (TC.seq (TC.region (TO.move rfl (by decide) rfl ?_))))))
  obtain ⟨r1, hq1, h⟩ := andE h
  refine TO.call (vs := [.string s1]) rfl (by decide) rfl rfl rfl en_14 (ref07_Words_fn hq1) Splits.nil ?_
  rintro v1
  show TO _ _ _ _ _ _ _ _ _ _ [cells b2 [.int .i64 0, .int .i64 0] 34, vec enc_Gapi_Span 34 2 v1 r1]
  refine TO.lenVec (k := 1) rfl (by decide) rfl rfl Try.underlying25 (TO.move rfl (by decide) rfl (TO.nil (TX.next (TC.block ?_))))
  refine TC.loopD (β := Nat × Int) (fun b => loopG (fun _ => none) (ref07_Next_s1 at1 j1 r1) b.1 b.2 = some r) (fun b => []) (fun b => [(1, .int .i64 at1), (4, .pointer (some ⟨b2, 0, none⟩)), (9, v1), (10, .int .i64 (r1.length : Int)), (11, .int .i64 b.2)]) (fun b => [cells b2 [.int .i64 0, .int .i64 0] 34, vec enc_Gapi_Span 34 2 v1 r1]) (fun b => b.1) (fuel, 0) h rfl (Sbs.cons rfl (Sbs.cons rfl (Sbs.cons rfl (Sbs.cons rfl (Sbs.cons rfl (Sbs.nil)))))) (Splits.of [0, 1] (by as_aux_lemma => kernel_rfl) rfl) ?_
  rintro ⟨n1, x3⟩ h
  cases n1 with
  | zero => exact noneE h
  | succ n1 =>
   obtain ⟨ag1, hag1⟩ : ∃ ag, ag = loopG (fun _ => none) (ref07_Next_s1 at1 j1 r1) n1 := ⟨_, rfl⟩
   have h : ref07_Next_s1 at1 j1 r1 ag1 x3 = some r := by rw [hag1]; exact h
   unfold ref07_Next_s1 at h
   show TC _ _ _ _ _ ([]) _ _ [(1, .int .i64 at1), (4, .pointer (some ⟨b2, 0, none⟩)), (9, v1), (10, .int .i64 (r1.length : Int)), (11, .int .i64 x3)] [cells b2 [.int .i64 0, .int .i64 0] 34, vec enc_Gapi_Span 34 2 v1 r1]
   refine TC.seq (TC.region (TO.bin rfl (by decide) rfl rfl bin_lss (TO.nil (TX.next (TC.seq ?_)))))
   refine TC.condB rfl (fun hb1 => ?_) (fun hb1 => ?_)
   ·
    have h := condT hb1 h
    refine TC.skip (TX.next (TC.seq (TC.block (TC.seq (TC.region ?_)))))
    obtain ⟨q1, hq2, h⟩ := andE h
    refine TO.indexVecI (k := 1) hq2 Try.underlying25 sz_34 rfl (by decide) rfl rfl rfl rfl (TO.loadsVec (i := (x3 : Int).toNat) (j := 0) (k := 1) (q := q1) (cs := [.int .i64 q1.From, .int .i64 q1.To]) rw_34 enc_Gapi_Span_len rfl (by decide) rfl rfl (getO_get hq2) rfl rfl rfl ?_)
    refine TO.alloc zr_34 rfl (by decide) (fun b3 => ?_)
    refine TO.stores (k := 2) (vs := [.int .i64 q1.From, .int .i64 q1.To]) (l' := [.int .i64 q1.From, .int .i64 q1.To]) sz_34 rfl rfl rfl rfl rfl (show _ ≤ _ by simp) rfl rfl ?_
    show TO _ _ _ _ _ _ _ _ _ _ [cells b2 [.int .i64 0, .int .i64 0] 34, vec enc_Gapi_Span 34 2 v1 r1, cells b3 [.int .i64 q1.From, .int .i64 q1.To] 34]
    refine TO.nil (TX.next (TC.seq (TC.region (TO.fieldAddr fl_34_0 rfl (by decide) rfl (show _ = 0 from rfl) (TO.load (k := 2) sc_3 rfl (by decide) rfl rfl rfl (TO.move rfl (by decide) rfl (TO.bin rfl (by decide) rfl rfl bin_geq (TO.nil (TX.next ?_)))))))))
    refine TC.condB rfl (fun hb2 => ?_) (fun hb2 => ?_)
    ·
     have h := condT hb2 h
     refine TC.seq (TC.region (TO.loads (k := 2) (cs := [.int .i64 q1.From, .int .i64 q1.To]) rw_34 rfl (by decide) rfl rfl rfl rfl (TO.stores (k := 0) (vs := [.int .i64 q1.From, .int .i64 q1.To]) (l' := [.int .i64 q1.From, .int .i64 q1.To]) sz_34 rfl rfl rfl rfl rfl (show _ ≤ _ by simp) rfl rfl (TO.assign rfl (by decide) rfl (TO.nil (TX.next (TC.ret (TX.blockRet (TX.thenRet (TX.thenRet (TX.blockRet (TX.thenRet ?_))))))))))))
     cases h
     exact TX.fin (rs := [.cell 4 34, .tmp 5]) () (.inl rfl) Try.results36 (.cons (.cells rw_34 (k := 0) rfl rfl rfl) (.cons (.tmp rfl) .nil)) rfl Splits.nil
    ·
     have h := condF hb2 h
     refine TC.skip (TX.blockNormal (TX.next (TC.region ?_)))
     obtain ⟨hg1, h⟩ := grdE h
     refine TO.bin rfl (by decide) rfl rfl (bin_add (r := x3 + 1) (IntWalk.i64_in _ hg1)) (TO.move rfl (by decide) rfl (TO.nil ?_))
     subst hag1
     exact TX.againD (n1, x3 + 1) h (Nat.lt_succ_self _) rfl (Sbs.cons rfl (Sbs.cons rfl (Sbs.cons rfl (Sbs.cons rfl (Sbs.cons rfl (Sbs.nil)))))) (Splits.of [0, 1] (by as_aux_lemma => kernel_rfl) rfl)
   ·
    have h := condF hb1 h
    refine TC.exit (TX.thenExit (TX.thenExit (TX.blockHere ?_)))
    exact TX.meetD b2 h rfl (Sbs.cons rfl (Sbs.nil)) (Splits.of [0] (by as_aux_lemma => kernel_rfl) rfl)
 ·
  rintro b1 h
  subst hj1
  show TC _ _ _ _ _ ([]) _ _ [(4, .pointer (some ⟨b1, 0, none⟩))] [cells b1 [.int .i64 0, .int .i64 0] 34]
  refine TC.seq (TC.region ?_)
  refine TO.build (v := .agg #[.int .i64 0, .int .i64 0]) (ps := []) rfl (by decide) rfl (fun _ => by kernel_rfl) ?_
  refine TO.stores (k := 0) (vs := [.int .i64 0, .int .i64 0]) (l' := [.int .i64 0, .int .i64 0]) sz_34 rfl rfl rfl rfl rfl (show _ ≤ _ by simp) rfl rfl (TO.assign rfl (by decide) rfl (TO.nil (TX.next (TC.ret ?_))))
  cases h
  exact TX.fin (rs := [.cell 4 34, .tmp 5]) () (.inl rfl) Try.results36 (.cons (.cells rw_34 (k := 0) rfl rfl rfl) (.cons (.tmp rfl) .nil)) rfl Splits.nil
def ref07_Last_s1 (at1 : Int) (j1 : Option (Gapi_Span × Bool)) (r1 : (List Gapi_Span)) (ag1 : Int → Option (Gapi_Span × Bool)) (i3 : Int) : Option (Gapi_Span × Bool) := bcond (decide ((0 : Int) ≤ i3)) ( andThen (getO r1 i3) fun (q1 : Gapi_Span) => bcond (decide ((q1.To : Int) ≤ at1)) ( andThen (getO r1 i3) fun (q2 : Gapi_Span) => some (q2, true)
) ( grd (I64 (i3 - 1)) <| ag1 (i3 - 1)
)
) ( j1
)
def ref07_Last_v (s1 : ByteArray) (at1 : Int) : Option (Gapi_Span × Bool) := joinK (fun (j1 : Option (Gapi_Span × Bool)) => andThen (ref07_Words_v s1) fun (r1 : (List Gapi_Span)) => grd (I64 ((r1.length : Int) - 1)) <| loopG (fun _ => none) (ref07_Last_s1 at1 j1 r1) fuel ((r1.length : Int) - 1)
) ( some ((⟨0, 0⟩ : Gapi_Span), false)
)
set_option maxRecDepth 100000 in
set_option maxHeartbeats 4000000 in
theorem ref07_Last_fn {s1 : ByteArray} {at1 : Int} {r : (Gapi_Span × Bool)} (h : ref07_Last_v s1 at1 = some r) : FnP Try.prog 38 [.string s1, .int .i64 at1] (.tuple #[.agg #[.int .i64 r.1.From, .int .i64 r.1.To], .bool r.2]) := by
 unfold ref07_Last_v at h
 refine FnP.intro Try.func38 rfl Try.ntmps38 (by simp) ?_
 intro w0 K
 obtain ⟨j1, hj1, h⟩ := joinE h
 refine TC.cutN (β := Nat) 2 rfl (fun b => j1 = some r) (fun b => []) (fun b => [(4, .pointer (some ⟨b, 0, none⟩))]) (fun b => [cells b [.int .i64 0, .int .i64 0] 34]) (fun cut => ?_) ?_
 ·
  refine TC.seq (TC.region ?_)
  refine TO.alloc zr_34 rfl (by decide) (fun b2 => ?_)
  refine TO.assign rfl (by decide) rfl (TO.nil (TX.next (TC.seq (TC.region (TO.move rfl (by decide) rfl ?_)))))
  obtain ⟨r1, hq1, h⟩ := andE h
  refine TO.call (vs := [.string s1]) rfl (by decide) rfl rfl rfl en_14 (ref07_Words_fn hq1) Splits.nil ?_
  rintro v1
  show TO _ _ _ _ _ _ _ _ _ _ [cells b2 [.int .i64 0, .int .i64 0] 34, vec enc_Gapi_Span 34 2 v1 r1]
  refine TO.assign rfl (by decide) rfl (TO.nil (TX.next (cut (TC.seq (TC.region (TO.move rfl (by decide) rfl (TO.lenVec (k := 1) rfl (by decide) rfl rfl Try.underlying25 ?_)))))))
  obtain ⟨hg1, h⟩ := grdE h
  refine TO.bin rfl (by decide) rfl rfl (bin_sub (r := (r1.length : Int) - 1) (IntWalk.i64_in _ hg1)) (TO.assign rfl (by decide) rfl (TO.nil (TX.next (TC.block ?_))))
  refine TC.loopD (β := Nat × Int) (fun b => loopG (fun _ => none) (ref07_Last_s1 at1 j1 r1) b.1 b.2 = some r) (fun b => []) (fun b => [(1, .int .i64 at1), (4, .pointer (some ⟨b2, 0, none⟩)), (6, v1), (7, .int .i64 b.2)]) (fun b => [cells b2 [.int .i64 0, .int .i64 0] 34, vec enc_Gapi_Span 34 2 v1 r1]) (fun b => b.1) (fuel, (r1.length : Int) - 1) h rfl (Sbs.cons rfl (Sbs.cons rfl (Sbs.cons rfl (Sbs.cons rfl (Sbs.nil))))) (Splits.of [0, 1] (by as_aux_lemma => kernel_rfl) rfl) ?_
  rintro ⟨n1, i3⟩ h
  cases n1 with
  | zero => exact noneE h
  | succ n1 =>
   obtain ⟨ag1, hag1⟩ : ∃ ag, ag = loopG (fun _ => none) (ref07_Last_s1 at1 j1 r1) n1 := ⟨_, rfl⟩
   have h : ref07_Last_s1 at1 j1 r1 ag1 i3 = some r := by rw [hag1]; exact h
   unfold ref07_Last_s1 at h
   show TC _ _ _ _ _ ([]) _ _ [(1, .int .i64 at1), (4, .pointer (some ⟨b2, 0, none⟩)), (6, v1), (7, .int .i64 i3)] [cells b2 [.int .i64 0, .int .i64 0] 34, vec enc_Gapi_Span 34 2 v1 r1]
   refine TC.seq (TC.seq (TC.region (TO.move rfl (by decide) rfl (TO.bin rfl (by decide) rfl rfl bin_geq (TO.nil (TX.next ?_))))))
   refine TC.condB rfl (fun hb1 => ?_) (fun hb1 => ?_)
   ·
    have h := condT hb1 h
    refine TC.skip (TX.next (TC.seq (TC.block (TC.seq (TC.region (TO.move rfl (by decide) rfl (TO.move rfl (by decide) rfl ?_)))))))
    obtain ⟨q1, hq2, h⟩ := andE h
    refine TO.indexVecI (k := 1) hq2 Try.underlying25 sz_34 rfl (by decide) rfl rfl rfl rfl (TO.fieldAddr fl_34_1 rfl (by decide) rfl (show _ = ((i3 : Int).toNat) * 2 + 1 from rfl) (TO.loadVec (i := (i3 : Int).toNat) (j := 1) (k := 1) (q := q1) sc_3 enc_Gapi_Span_len rfl (by decide) rfl rfl (getO_get hq2) rfl (by decide) rfl (TO.move rfl (by decide) rfl (TO.bin rfl (by decide) rfl rfl bin_leq (TO.nil (TX.next ?_))))))
    refine TC.condB rfl (fun hb2 => ?_) (fun hb2 => ?_)
    ·
     have h := condT hb2 h
     refine TC.seq (TC.region (TO.move rfl (by decide) rfl (TO.move rfl (by decide) rfl ?_)))
     obtain ⟨q2, hq3, h⟩ := andE h
     refine TO.indexVecI (k := 1) hq3 Try.underlying25 sz_34 rfl (by decide) rfl rfl rfl rfl (TO.loadsVec (i := (i3 : Int).toNat) (j := 0) (k := 1) (q := q2) (cs := [.int .i64 q2.From, .int .i64 q2.To]) rw_34 enc_Gapi_Span_len rfl (by decide) rfl rfl (getO_get hq3) rfl rfl rfl (TO.stores (k := 0) (vs := [.int .i64 q2.From, .int .i64 q2.To]) (l' := [.int .i64 q2.From, .int .i64 q2.To]) sz_34 rfl rfl rfl rfl rfl (show _ ≤ _ by simp) rfl rfl (TO.assign rfl (by decide) rfl (TO.nil (TX.next (TC.ret (TX.blockRet (TX.thenRet (TX.thenRet (TX.blockRet (TX.thenRet ?_)))))))))))
     cases h
     exact TX.fin (rs := [.cell 4 34, .tmp 5]) () (.inl rfl) Try.results38 (.cons (.cells rw_34 (k := 0) rfl rfl rfl) (.cons (.tmp rfl) .nil)) rfl Splits.nil
    ·
     have h := condF hb2 h
     refine TC.skip (TX.blockNormal (TX.next (TC.region (TO.move rfl (by decide) rfl ?_))))
     obtain ⟨hg2, h⟩ := grdE h
     refine TO.bin rfl (by decide) rfl rfl (bin_sub (r := i3 - 1) (IntWalk.i64_in _ hg2)) (TO.assign rfl (by decide) rfl (TO.nil ?_))
     subst hag1
     exact TX.againD (n1, i3 - 1) h (Nat.lt_succ_self _) rfl (Sbs.cons rfl (Sbs.cons rfl (Sbs.cons rfl (Sbs.cons rfl (Sbs.nil))))) (Splits.of [0, 1] (by as_aux_lemma => kernel_rfl) rfl)
   ·
    have h := condF hb1 h
    refine TC.exit (TX.thenExit (TX.thenExit (TX.blockHere ?_)))
    exact TX.meetD b2 h rfl (Sbs.cons rfl (Sbs.nil)) (Splits.of [0] (by as_aux_lemma => kernel_rfl) rfl)
 ·
  rintro b1 h
  subst hj1
  show TC _ _ _ _ _ ([]) _ _ [(4, .pointer (some ⟨b1, 0, none⟩))] [cells b1 [.int .i64 0, .int .i64 0] 34]
  refine TC.seq (TC.region ?_)
  refine TO.build (v := .agg #[.int .i64 0, .int .i64 0]) (ps := []) rfl (by decide) rfl (fun _ => by kernel_rfl) ?_
  refine TO.stores (k := 0) (vs := [.int .i64 0, .int .i64 0]) (l' := [.int .i64 0, .int .i64 0]) sz_34 rfl rfl rfl rfl rfl (show _ ≤ _ by simp) rfl rfl (TO.assign rfl (by decide) rfl (TO.nil (TX.next (TC.ret ?_))))
  cases h
  exact TX.fin (rs := [.cell 4 34, .tmp 5]) () (.inl rfl) Try.results38 (.cons (.cells rw_34 (k := 0) rfl rfl rfl) (.cons (.tmp rfl) .nil)) rfl Splits.nil
def ref07_Edge_s1 (at1 : Int) (j1 : Option Bool) (r1 : (List Gapi_Token)) (ag1 : Int → Option Bool) (x3 : Int) : Option Bool := bcond (decide ((x3 : Int) < (r1.length : Int))) ( andThen (getO r1 x3) fun (q1 : Gapi_Token) => bcond ((q1.Span_From : Int) == at1) ( some true
) ( bcond ((q1.Span_To : Int) == at1) ( some true
) ( grd (I64 (x3 + 1)) <| ag1 (x3 + 1)
)
)
) ( j1
)
def ref07_Edge_v (s1 : ByteArray) (at1 : Int) : Option Bool := joinK (fun (j1 : Option Bool) => andThen (ref07_Tokens_v s1) fun (r1 : (List Gapi_Token)) => loopG (fun _ => none) (ref07_Edge_s1 at1 j1 r1) fuel 0
) ( some false
)
set_option maxRecDepth 100000 in
set_option maxHeartbeats 4000000 in
theorem ref07_Edge_fn {s1 : ByteArray} {at1 : Int} {r : Bool} (h : ref07_Edge_v s1 at1 = some r) : FnP Try.prog 39 [.string s1, .int .i64 at1] (.bool r) := by
 unfold ref07_Edge_v at h
 refine FnP.intro Try.func39 rfl Try.ntmps39 (by simp) ?_
 intro w0 K
 obtain ⟨j1, hj1, h⟩ := joinE h
 refine TC.cutN (β := Unit) 1 rfl (fun b => j1 = some r) (fun b => []) (fun b => []) (fun b => []) (fun cut => ?_) ?_
 ·
  refine TC.seq (TC.region (TO.assign rfl (by decide) rfl (TO.nil (TX.next (cut (TC.seq (TC.region (TO.move rfl (by decide) rfl ?_))))))))
  obtain ⟨r1, hq1, h⟩ := andE h
  refine TO.call (vs := [.string s1]) rfl (by decide) rfl rfl rfl en_13 (ref07_Tokens_fn hq1) Splits.nil ?_
  rintro v1
  show TO _ _ _ _ _ _ _ _ _ _ [vec enc_Gapi_Token 36 3 v1 r1]
  refine TO.lenVec (k := 0) rfl (by decide) rfl rfl Try.underlying23 (TO.move rfl (by decide) rfl (TO.nil (TX.next (TC.block ?_))))
  refine TC.loopD (β := Nat × Int) (fun b => loopG (fun _ => none) (ref07_Edge_s1 at1 j1 r1) b.1 b.2 = some r) (fun b => []) (fun b => [(1, .int .i64 at1), (8, v1), (9, .int .i64 (r1.length : Int)), (10, .int .i64 b.2)]) (fun b => [vec enc_Gapi_Token 36 3 v1 r1]) (fun b => b.1) (fuel, 0) h rfl (Sbs.cons rfl (Sbs.cons rfl (Sbs.cons rfl (Sbs.cons rfl (Sbs.nil))))) (Splits.of [0] (by as_aux_lemma => kernel_rfl) rfl) ?_
  rintro ⟨n1, x3⟩ h
  cases n1 with
  | zero => exact noneE h
  | succ n1 =>
   obtain ⟨ag1, hag1⟩ : ∃ ag, ag = loopG (fun _ => none) (ref07_Edge_s1 at1 j1 r1) n1 := ⟨_, rfl⟩
   have h : ref07_Edge_s1 at1 j1 r1 ag1 x3 = some r := by rw [hag1]; exact h
   unfold ref07_Edge_s1 at h
   show TC _ _ _ _ _ ([]) _ _ [(1, .int .i64 at1), (8, v1), (9, .int .i64 (r1.length : Int)), (10, .int .i64 x3)] [vec enc_Gapi_Token 36 3 v1 r1]
   refine TC.seq (TC.region (TO.bin rfl (by decide) rfl rfl bin_lss (TO.nil (TX.next (TC.seq ?_)))))
   refine TC.condB rfl (fun hb1 => ?_) (fun hb1 => ?_)
   ·
    have h := condT hb1 h
    refine TC.skip (TX.next (TC.seq (TC.block (TC.seq (TC.region ?_)))))
    obtain ⟨q1, hq2, h⟩ := andE h
    refine TO.indexVecI (k := 0) hq2 Try.underlying23 sz_36 rfl (by decide) rfl rfl rfl rfl (TO.loadsVec (i := (x3 : Int).toNat) (j := 0) (k := 0) (q := q1) (cs := [.int .i64 q1.Kind, .int .i64 q1.Span_From, .int .i64 q1.Span_To]) rw_36 enc_Gapi_Token_len rfl (by decide) rfl rfl (getO_get hq2) rfl rfl rfl ?_)
    refine TO.alloc zr_36 rfl (by decide) (fun b1 => ?_)
    refine TO.stores (k := 1) (vs := [.int .i64 q1.Kind, .int .i64 q1.Span_From, .int .i64 q1.Span_To]) (l' := [.int .i64 q1.Kind, .int .i64 q1.Span_From, .int .i64 q1.Span_To]) sz_36 rfl rfl rfl rfl rfl (show _ ≤ _ by simp) rfl rfl ?_
    show TO _ _ _ _ _ _ _ _ _ _ [vec enc_Gapi_Token 36 3 v1 r1, cells b1 [.int .i64 q1.Kind, .int .i64 q1.Span_From, .int .i64 q1.Span_To] 36]
    refine TO.nil (TX.next (TC.seq (TC.region (TO.fieldAddr fl_36_1 rfl (by decide) rfl (show _ = 1 from rfl) (TO.fieldAddr fl_34_0 rfl (by decide) rfl (show _ = 1 from rfl) (TO.load (k := 1) sc_3 rfl (by decide) rfl rfl rfl (TO.move rfl (by decide) rfl (TO.bin rfl (by decide) rfl rfl bin_eql (TO.move rfl (by decide) rfl ?_)))))))))
    refine TO.split (s := 19) rfl (fun hb2 => ?_) (fun hb2 => ?_)
    ·
     have h := condT hb2 h
     refine TO.skip rfl (by decide) (TO.skip rfl (by decide) (TO.skip rfl (by decide) (TO.skip rfl (by decide) (TO.skip rfl (by decide) (TO.pick (b := true) rfl (by decide) rfl rfl (TO.nil (TX.next (TC.condT rfl (TC.seq (TC.region (TO.assign rfl (by decide) rfl (TO.nil (TX.next ?_)))))))))))))
     refine TC.ret (TX.blockRet (TX.thenRet (TX.thenRet (TX.blockRet (TX.thenRet ?_)))))
     cases h
     exact TX.fin (rs := [.tmp 4]) () (.inl rfl) Try.results39 (.cons (.tmp rfl) .nil) rfl Splits.nil
    ·
     have h := condF hb2 h
     refine TO.fieldAddr fl_36_1 rfl (by decide) rfl (show _ = 1 from rfl) (TO.fieldAddr fl_34_1 rfl (by decide) rfl (show _ = 2 from rfl) (TO.load (k := 1) sc_3 rfl (by decide) rfl rfl rfl (TO.move rfl (by decide) rfl (TO.bin rfl (by decide) rfl rfl bin_eql (TO.pick (b := false) rfl (by decide) rfl rfl (TO.nil (TX.next ?_)))))))
     refine TC.condB rfl (fun hb3 => ?_) (fun hb3 => ?_)
     ·
      have h := condT hb3 h
      refine TC.seq (TC.region (TO.assign rfl (by decide) rfl (TO.nil (TX.next (TC.ret (TX.blockRet (TX.thenRet (TX.thenRet (TX.blockRet (TX.thenRet ?_))))))))))
      cases h
      exact TX.fin (rs := [.tmp 4]) () (.inl rfl) Try.results39 (.cons (.tmp rfl) .nil) rfl Splits.nil
     ·
      have h := condF hb3 h
      refine TC.skip (TX.blockNormal (TX.next (TC.region ?_)))
      obtain ⟨hg1, h⟩ := grdE h
      refine TO.bin rfl (by decide) rfl rfl (bin_add (r := x3 + 1) (IntWalk.i64_in _ hg1)) (TO.move rfl (by decide) rfl (TO.nil ?_))
      subst hag1
      exact TX.againD (n1, x3 + 1) h (Nat.lt_succ_self _) rfl (Sbs.cons rfl (Sbs.cons rfl (Sbs.cons rfl (Sbs.cons rfl (Sbs.nil))))) (Splits.of [0] (by as_aux_lemma => kernel_rfl) rfl)
   ·
    have h := condF hb1 h
    refine TC.exit (TX.thenExit (TX.thenExit (TX.blockHere ?_)))
    exact TX.meetD () h rfl (Sbs.nil) Splits.nil
 ·
  rintro _ h
  subst hj1
  show TC _ _ _ _ _ ([]) _ _ [] []
  refine TC.seq (TC.region (TO.assign rfl (by decide) rfl (TO.nil (TX.next (TC.ret ?_)))))
  cases h
  exact TX.fin (rs := [.tmp 4]) () (.inl rfl) Try.results39 (.cons (.tmp rfl) .nil) rfl Splits.nil
def ref07_Is_v (s1 : ByteArray) : Option Bool := andThen (ref07_Tokens_v s1) fun (r1 : (List Gapi_Token)) => bcond (((r1.length : Int) : Int) == 1) ( andThen (getO r1 0) fun (q1 : Gapi_Token) => some ((q1.Kind : Int) == 1)
) ( some false
)
set_option maxRecDepth 100000 in
set_option maxHeartbeats 4000000 in
theorem ref07_Is_fn {s1 : ByteArray} {r : Bool} (h : ref07_Is_v s1 = some r) : FnP Try.prog 20 [.string s1] (.bool r) := by
 unfold ref07_Is_v at h
 refine FnP.intro Try.func20 rfl Try.ntmps20 (by simp) ?_
 intro w0 K
 refine TC.seq (TC.region (TO.assign rfl (by decide) rfl (TO.nil (TX.next (TC.seq (TC.region (TO.move rfl (by decide) rfl ?_)))))))
 obtain ⟨r1, hq1, h⟩ := andE h
 refine TO.call (vs := [.string s1]) rfl (by decide) rfl rfl rfl en_13 (ref07_Tokens_fn hq1) Splits.nil ?_
 rintro v1
 show TO _ _ _ _ _ _ _ _ _ _ [vec enc_Gapi_Token 36 3 v1 r1]
 refine TO.assign rfl (by decide) rfl (TO.nil (TX.next (TC.seq (TC.region (TO.move rfl (by decide) rfl (TO.lenVec (k := 0) rfl (by decide) rfl rfl Try.underlying23 (TO.bin rfl (by decide) rfl rfl bin_eql (TO.move rfl (by decide) rfl ?_))))))))
 refine TO.split (s := 9) rfl (fun hb1 => ?_) (fun hb1 => ?_)
 ·
  have h := condT hb1 h
  refine TO.move rfl (by decide) rfl ?_
  obtain ⟨q1, hq2, h⟩ := andE h
  refine TO.indexVecI (k := 0) hq2 Try.underlying23 sz_36 rfl (by decide) rfl rfl rfl rfl (TO.fieldAddr fl_36_0 rfl (by decide) rfl (show _ = ((0 : Int).toNat) * 3 from rfl) (TO.loadVec (i := (0 : Int).toNat) (j := 0) (k := 0) (q := q1) sc_3 enc_Gapi_Token_len rfl (by decide) rfl rfl (getO_get hq2) rfl (by decide) rfl (TO.bin rfl (by decide) rfl rfl bin_eql (TO.pick (b := true) rfl (by decide) rfl rfl (TO.assign rfl (by decide) rfl (TO.nil (TX.next (TC.ret ?_))))))))
  cases h
  exact TX.fin (rs := [.tmp 2]) () (.inl rfl) Try.results20 (.cons (.tmp rfl) .nil) rfl Splits.nil
 ·
  have h := condF hb1 h
  refine TO.skip rfl (by decide) (TO.skip rfl (by decide) (TO.skip rfl (by decide) (TO.skip rfl (by decide) (TO.skip rfl (by decide) (TO.pick (b := false) rfl (by decide) rfl rfl (TO.assign rfl (by decide) rfl (TO.nil (TX.next (TC.ret ?_)))))))))
  cases h
  exact TX.fin (rs := [.tmp 2]) () (.inl rfl) Try.results20 (.cons (.tmp rfl) .nil) rfl Splits.nil
def ref07_Parts_s1 (j1 : (List Gapi_Span) → Option (List Gapi_Span)) (r1 : (List Gref07_Unit)) (ag1 : (List Gapi_Span) → Bool → Int → Option (List Gapi_Span)) (out4 : List Gapi_Span) (ahead3 : Bool) (x3 : Int) : Option (List Gapi_Span) := bcond (decide ((x3 : Int) < (r1.length : Int))) ( joinK (fun (j2 : (List Gapi_Span) → Bool → Option (List Gapi_Span)) => andThen (getO r1 x3) fun (q1 : Gref07_Unit) => bcond ((q1.Kind : Int) != 1) ( j2 out4 false
) ( bcond (ahead3) ( grd (I64 ((out4.length : Int) - 1)) <| andThen (getO out4 ((out4.length : Int) - 1)) fun (q2 : Gapi_Span) => j2 (out4.set ((out4.length : Int) - 1 : Int).toNat (⟨q2.From, q1.Span_To⟩ : Gapi_Span)) ahead3
) ( grd (out4.length + 1 ≤ 2147483648) <| j2 (out4 ++ [(⟨q1.Span_From, q1.Span_To⟩ : Gapi_Span)]) true
)
)
) (fun (out5 : List Gapi_Span) (ahead4 : Bool) => grd (I64 (x3 + 1)) <| ag1 out5 ahead4 (x3 + 1)
)
) ( j1 out4
)
def ref07_Parts_v (s1 : ByteArray) : Option (List Gapi_Span) := joinK (fun (j1 : (List Gapi_Span) → Option (List Gapi_Span)) => andThen (ref07_Units_v s1) fun (r1 : (List Gref07_Unit)) => loopG (fun _ _ _ => none) (ref07_Parts_s1 j1 r1) fuel ([] : List Gapi_Span) false 0
) (fun (out1 : List Gapi_Span) => some out1
)
set_option maxRecDepth 100000 in
set_option maxHeartbeats 4000000 in
theorem ref07_Parts_fn {s1 : ByteArray} {r : (List Gapi_Span)} (h : ref07_Parts_v s1 = some r) : Fn Try.prog 22 [.string s1] [] (fun v0 : Value => v0) (fun v0 => [vec enc_Gapi_Span 34 2 v0 r]) := by
 unfold ref07_Parts_v at h
 refine Fn.intro Try.func22 rfl Try.ntmps22 (by simp) ?_
 intro w0 K
 obtain ⟨j1, hj1, h⟩ := joinE h
 refine TC.cutN (β := (List Gapi_Span) × Value) 3 rfl (fun b => j1 b.1 = some r) (fun b => []) (fun b => [(3, b.2)]) (fun b => [vec enc_Gapi_Span 34 2 b.2 b.1]) (fun cut => ?_) ?_
 ·
  refine TC.seq (TC.region (TO.assign rfl (by decide) rfl (TO.nil (TX.next (TC.seq (TC.region (TO.assign rfl (by decide) rfl (TO.nil (TX.next (TC.seq (TC.region (TO.assign rfl (by decide) rfl (TO.nil ?_)))))))))))))
  refine TX.next (cut (TC.seq (TC.region (TO.move rfl (by decide) rfl ?_))))
  obtain ⟨r1, hq1, h⟩ := andE h
  refine TO.call (vs := [.string s1]) rfl (by decide) rfl rfl rfl en_43 (ref07_Units_fn hq1) Splits.nil ?_
  rintro v2
  show TO _ _ _ _ _ _ _ _ _ _ [vec enc_Gref07_Unit 62 5 v2 r1]
  refine TO.lenVec (k := 0) rfl (by decide) rfl rfl Try.underlying59 (TO.move rfl (by decide) rfl (TO.nil (TX.next (TC.block (TC.newVec (enc := enc_Gapi_Span) (e := 34) (size := 2) ?_)))))
  show TC _ _ _ _ _ _ _ _ _ [vec enc_Gref07_Unit 62 5 v2 r1, vec enc_Gapi_Span 34 2 (.slice none 0 0) ([] : List Gapi_Span)]
  refine TC.loopD (β := Nat × (List Gapi_Span) × Bool × Int × Value) (fun b => loopG (fun _ _ _ => none) (ref07_Parts_s1 j1 r1) b.1 b.2.1 b.2.2.1 b.2.2.2.1 = some r) (fun b => []) (fun b => [(3, b.2.2.2.2), (4, .bool b.2.2.1), (8, v2), (9, .int .i64 (r1.length : Int)), (10, .int .i64 b.2.2.2.1)]) (fun b => [vec enc_Gapi_Span 34 2 b.2.2.2.2 b.2.1, vec enc_Gref07_Unit 62 5 v2 r1]) (fun b => b.1) (fuel, ([] : List Gapi_Span), false, 0, (.slice none 0 0)) h rfl (Sbs.cons rfl (Sbs.cons rfl (Sbs.cons rfl (Sbs.cons rfl (Sbs.cons rfl (Sbs.nil)))))) (Splits.of [1, 0] (by as_aux_lemma => kernel_rfl) rfl) ?_
  rintro ⟨n1, out4, ahead3, x3, v5⟩ h
  cases n1 with
  | zero => exact noneE h
  | succ n1 =>
   obtain ⟨ag1, hag1⟩ : ∃ ag, ag = loopG (fun _ _ _ => none) (ref07_Parts_s1 j1 r1) n1 := ⟨_, rfl⟩
   have h : ref07_Parts_s1 j1 r1 ag1 out4 ahead3 x3 = some r := by rw [hag1]; exact h
   unfold ref07_Parts_s1 at h
   show TC _ _ _ _ _ ([]) _ _ [(3, v5), (4, .bool ahead3), (8, v2), (9, .int .i64 (r1.length : Int)), (10, .int .i64 x3)] [vec enc_Gapi_Span 34 2 v5 out4, vec enc_Gref07_Unit 62 5 v2 r1]
   refine TC.seq (TC.region (TO.bin rfl (by decide) rfl rfl bin_lss (TO.nil (TX.next (TC.seq ?_)))))
   refine TC.condB rfl (fun hb1 => ?_) (fun hb1 => ?_)
   ·
    have h := condT hb1 h
    refine TC.skip (TX.next ?_)
    obtain ⟨j2, hj2, h⟩ := joinE h
    refine TC.cutN (β := (List Gapi_Span) × Bool × Value) 0 rfl (fun b => j2 b.1 b.2.1 = some r) (fun b => []) (fun b => [(3, b.2.2), (4, .bool b.2.1), (8, v2), (9, .int .i64 (r1.length : Int)), (10, .int .i64 x3)]) (fun b => [vec enc_Gapi_Span 34 2 b.2.2 b.1, vec enc_Gref07_Unit 62 5 v2 r1]) (fun cut => ?_) ?_
    ·
     refine cut (TC.block (TC.seq (TC.region ?_)))
     obtain ⟨q1, hq2, h⟩ := andE h
     refine TO.indexVecI (k := 1) hq2 Try.underlying59 sz_62 rfl (by decide) rfl rfl rfl rfl (TO.loadsVec (i := (x3 : Int).toNat) (j := 0) (k := 1) (q := q1) (cs := [.int .i64 q1.Kind, .int .i64 q1.Span_From, .int .i64 q1.Span_To, .int .i32 q1.Rune, .bool q1.Alone]) rw_62 enc_Gref07_Unit_len rfl (by decide) rfl rfl (getO_get hq2) rfl rfl rfl ?_)
     refine TO.alloc zr_62 rfl (by decide) (fun b1 => ?_)
     refine TO.stores (k := 2) (vs := [.int .i64 q1.Kind, .int .i64 q1.Span_From, .int .i64 q1.Span_To, .int .i32 q1.Rune, .bool q1.Alone]) (l' := [.int .i64 q1.Kind, .int .i64 q1.Span_From, .int .i64 q1.Span_To, .int .i32 q1.Rune, .bool q1.Alone]) sz_62 rfl rfl rfl rfl rfl (show _ ≤ _ by simp) rfl rfl ?_
     show TO _ _ _ _ _ _ _ _ _ _ [vec enc_Gapi_Span 34 2 v5 out4, vec enc_Gref07_Unit 62 5 v2 r1, cells b1 [.int .i64 q1.Kind, .int .i64 q1.Span_From, .int .i64 q1.Span_To, .int .i32 q1.Rune, .bool q1.Alone] 62]
     refine TO.nil (TX.next (TC.block (TC.seq (TC.region (TO.fieldAddr fl_62_0 rfl (by decide) rfl (show _ = 0 from rfl) (TO.load (k := 2) sc_3 rfl (by decide) rfl rfl rfl (TO.bin rfl (by decide) rfl rfl bin_neq (TO.assign rfl (by decide) rfl (TO.nil (TX.next ?_))))))))))
     refine TC.condB rfl (fun hb2 => ?_) (fun hb2 => ?_)
     ·
      have h := condT hb2 h
      refine TC.region (TO.assign rfl (by decide) rfl (TO.nil (TX.blockNormal (TX.blockNormal ?_))))
      exact TX.meetD (out4, false, v5) h rfl (Sbs.cons rfl (Sbs.cons rfl (Sbs.cons rfl (Sbs.cons rfl (Sbs.cons rfl (Sbs.nil)))))) (Splits.of [0, 1] (by as_aux_lemma => kernel_rfl) rfl)
     ·
      have h := condF hb2 h
      refine TC.seq (TC.region (TO.move rfl (by decide) rfl (TO.assign rfl (by decide) rfl (TO.nil (TX.next ?_)))))
      refine TC.condB rfl (fun hb3 => ?_) (fun hb3 => ?_)
      ·
       have h := condT hb3 h
       refine TC.region (TO.move rfl (by decide) rfl (TO.move rfl (by decide) rfl (TO.lenVec (k := 0) rfl (by decide) rfl rfl Try.underlying25 ?_)))
       obtain ⟨hg1, h⟩ := grdE h
       refine TO.bin rfl (by decide) rfl rfl (bin_sub (r := (out4.length : Int) - 1) (IntWalk.i64_in _ hg1)) (TO.fieldAddr fl_62_1 rfl (by decide) rfl (show _ = 1 from rfl) (TO.fieldAddr fl_34_1 rfl (by decide) rfl (show _ = 2 from rfl) (TO.load (k := 2) sc_3 rfl (by decide) rfl rfl rfl ?_)))
       obtain ⟨q2, hq3, h⟩ := andE h
       refine TO.indexVecI (k := 0) hq3 Try.underlying25 sz_34 rfl (by decide) rfl rfl rfl rfl (TO.fieldAddr fl_34_1 rfl (by decide) rfl (show _ = (((out4.length : Int) - 1 : Int).toNat) * 2 + 1 from rfl) ?_)
       refine TO.storeVec (i := ((out4.length : Int) - 1 : Int).toNat) (j := 1) (k := 0) (q := q2) (q' := (⟨q2.From, q1.Span_To⟩ : Gapi_Span)) sz_3 enc_Gapi_Span_len rfl rfl rfl rfl (getO_get hq3) rfl (by decide) rfl (fun _ _ => rfl) ?_
       refine TO.nil (TX.blockNormal (TX.blockNormal ?_))
       exact TX.meetD (out4.set ((out4.length : Int) - 1 : Int).toNat (⟨q2.From, q1.Span_To⟩ : Gapi_Span), ahead3, v5) h rfl (Sbs.cons rfl (Sbs.cons rfl (Sbs.cons rfl (Sbs.cons rfl (Sbs.cons rfl (Sbs.nil)))))) (Splits.of [0, 1] (by as_aux_lemma => kernel_rfl) rfl)
      ·
       have h := condF hb3 h
       refine TC.seq (TC.region (TO.move rfl (by decide) rfl (TO.fieldAddr fl_62_1 rfl (by decide) rfl (show _ = 1 from rfl) (TO.loads (k := 2) (cs := [.int .i64 q1.Span_From, .int .i64 q1.Span_To]) rw_34 rfl (by decide) rfl rfl rfl rfl ?_))))
       refine TO.buildSlice (cs := [.int .i64 q1.Span_From, .int .i64 q1.Span_To]) (te := 34) (ps := [(0, .tmp 16)]) rfl (by decide) rfl (fun _ => by kernel_rfl) (fun b2 => ?_)
       obtain ⟨hg2, h⟩ := grdE h
       refine TO.appendVec (k := 0) (k2 := 3) (ys := [(⟨q1.Span_From, q1.Span_To⟩ : Gapi_Span)]) Try.underlying25 el_34 enc_Gapi_Span_len enc_Gapi_Span_one rfl (by decide) rfl rfl rfl rfl rfl rfl hg2 (fun v7 => ?_)
       show TO _ _ _ _ _ _ _ _ _ _ [vec enc_Gapi_Span 34 2 v7 (out4 ++ [(⟨q1.Span_From, q1.Span_To⟩ : Gapi_Span)]), vec enc_Gref07_Unit 62 5 v2 r1, cells b1 [.int .i64 q1.Kind, .int .i64 q1.Span_From, .int .i64 q1.Span_To, .int .i32 q1.Rune, .bool q1.Alone] 62, cells b2 [.int .i64 q1.Span_From, .int .i64 q1.Span_To] 34]
       refine TO.assign rfl (by decide) rfl (TO.nil (TX.next (TC.region (TO.assign rfl (by decide) rfl (TO.nil (TX.blockNormal (TX.blockNormal ?_)))))))
       exact TX.meetD (out4 ++ [(⟨q1.Span_From, q1.Span_To⟩ : Gapi_Span)], true, v7) h rfl (Sbs.cons rfl (Sbs.cons rfl (Sbs.cons rfl (Sbs.cons rfl (Sbs.cons rfl (Sbs.nil)))))) (Splits.of [0, 1] (by as_aux_lemma => kernel_rfl) rfl)
    ·
     rintro ⟨out5, ahead4, v6⟩ h
     subst hj2
     show TC _ _ _ _ _ ([]) _ _ [(3, v6), (4, .bool ahead4), (8, v2), (9, .int .i64 (r1.length : Int)), (10, .int .i64 x3)] [vec enc_Gapi_Span 34 2 v6 out5, vec enc_Gref07_Unit 62 5 v2 r1]
     refine TC.region ?_
     obtain ⟨hg3, h⟩ := grdE h
     refine TO.bin rfl (by decide) rfl rfl (bin_add (r := x3 + 1) (IntWalk.i64_in _ hg3)) (TO.move rfl (by decide) rfl (TO.nil ?_))
     subst hag1
     exact TX.againD (n1, out5, ahead4, x3 + 1, v6) h (Nat.lt_succ_self _) rfl (Sbs.cons rfl (Sbs.cons rfl (Sbs.cons rfl (Sbs.cons rfl (Sbs.cons rfl (Sbs.nil)))))) (Splits.of [0, 1] (by as_aux_lemma => kernel_rfl) rfl)
   ·
    have h := condF hb1 h
    refine TC.exit (TX.thenExit (TX.thenExit (TX.blockHere ?_)))
    exact TX.meetD (out4, v5) h rfl (Sbs.cons rfl (Sbs.nil)) (Splits.of [0] (by as_aux_lemma => kernel_rfl) rfl)
 ·
  rintro ⟨out1, v1⟩ h
  subst hj1
  show TC _ _ _ _ _ ([]) _ _ [(3, v1)] [vec enc_Gapi_Span 34 2 v1 out1]
  refine TC.seq (TC.region (TO.move rfl (by decide) rfl (TO.assign rfl (by decide) rfl (TO.nil (TX.next (TC.ret ?_))))))
  cases h
  exact TX.fin (rs := [.tmp 2]) v1 (.inl rfl) Try.results22 (.cons (.tmp rfl) .nil) rfl (Splits.of [0] (by as_aux_lemma => kernel_rfl) rfl)
def ref07_Trim_s1 (j1 : Int → Int → Option ByteArray) (r1 : (List Gapi_Token)) (ag1 : Int → Int → Int → Option ByteArray) (from4 : Int) (to4 : Int) (x3 : Int) : Option ByteArray := bcond (decide ((x3 : Int) < (r1.length : Int))) ( joinK (fun (j2 : Int → Int → Option ByteArray) => andThen (getO r1 x3) fun (q1 : Gapi_Token) => bcond ((q1.Kind : Int) != 3) ( bcond ((q1.Kind : Int) != 4) ( joinK (fun (j3 : Int → Option ByteArray) => bcond (decide ((from4 : Int) < 0)) ( j3 q1.Span_From
) ( j3 from4
)
) (fun (from6 : Int) => j2 from6 q1.Span_To
)
) ( j2 from4 to4
)
) ( j2 from4 to4
)
) (fun (from5 : Int) (to5 : Int) => grd (I64 (x3 + 1)) <| ag1 from5 to5 (x3 + 1)
)
) ( j1 from4 to4
)
def ref07_Trim_v (s1 : ByteArray) : Option ByteArray := joinK (fun (j1 : Int → Int → Option ByteArray) => andThen (ref07_Tokens_v s1) fun (r1 : (List Gapi_Token)) => loopG (fun _ _ _ => none) (ref07_Trim_s1 j1 r1) fuel (-1) (-1) 0
) (fun (from1 : Int) (to1 : Int) => bcond (decide ((from1 : Int) < 0)) ( some (⟨#[]⟩ : ByteArray)
) ( grd (0 ≤ (from1 : Int) ∧ (from1 : Int) ≤ to1 ∧ (to1 : Int) ≤ (s1.size : Int)) <| some (cutB s1 from1 to1)
)
)
set_option maxRecDepth 100000 in
set_option maxHeartbeats 4000000 in
theorem ref07_Trim_fn {s1 : ByteArray} {r : ByteArray} (h : ref07_Trim_v s1 = some r) : FnP Try.prog 31 [.string s1] (.string r) := by
 unfold ref07_Trim_v at h
 refine FnP.intro Try.func31 rfl Try.ntmps31 (by simp) ?_
 intro w0 K
 obtain ⟨j1, hj1, h⟩ := joinE h
 refine TC.cutN (β := Int × Int) 2 rfl (fun b => j1 b.1 b.2 = some r) (fun b => []) (fun b => [(0, .string s1), (3, .int .i64 b.1), (4, .int .i64 b.2)]) (fun b => []) (fun cut => ?_) ?_
 ·
  refine TC.seq (TC.region (TO.assign rfl (by decide) rfl (TO.nil (TX.next (TC.seq (TC.region (TO.assign rfl (by decide) rfl (TO.assign rfl (by decide) rfl (TO.nil (TX.next (cut (TC.seq (TC.region ?_)))))))))))))
  refine TO.move rfl (by decide) rfl ?_
  obtain ⟨r1, hq1, h⟩ := andE h
  refine TO.call (vs := [.string s1]) rfl (by decide) rfl rfl rfl en_13 (ref07_Tokens_fn hq1) Splits.nil ?_
  rintro v1
  show TO _ _ _ _ _ _ _ _ _ _ [vec enc_Gapi_Token 36 3 v1 r1]
  refine TO.lenVec (k := 0) rfl (by decide) rfl rfl Try.underlying23 (TO.move rfl (by decide) rfl (TO.nil (TX.next (TC.block ?_))))
  refine TC.loopD (β := Nat × Int × Int × Int) (fun b => loopG (fun _ _ _ => none) (ref07_Trim_s1 j1 r1) b.1 b.2.1 b.2.2.1 b.2.2.2 = some r) (fun b => []) (fun b => [(0, .string s1), (3, .int .i64 b.2.1), (4, .int .i64 b.2.2.1), (8, v1), (9, .int .i64 (r1.length : Int)), (10, .int .i64 b.2.2.2)]) (fun b => [vec enc_Gapi_Token 36 3 v1 r1]) (fun b => b.1) (fuel, (-1), (-1), 0) h rfl (Sbs.cons rfl (Sbs.cons rfl (Sbs.cons rfl (Sbs.cons rfl (Sbs.cons rfl (Sbs.cons rfl (Sbs.nil))))))) (Splits.of [0] (by as_aux_lemma => kernel_rfl) rfl) ?_
  rintro ⟨n1, from4, to4, x3⟩ h
  cases n1 with
  | zero => exact noneE h
  | succ n1 =>
   obtain ⟨ag1, hag1⟩ : ∃ ag, ag = loopG (fun _ _ _ => none) (ref07_Trim_s1 j1 r1) n1 := ⟨_, rfl⟩
   have h : ref07_Trim_s1 j1 r1 ag1 from4 to4 x3 = some r := by rw [hag1]; exact h
   unfold ref07_Trim_s1 at h
   show TC _ _ _ _ _ ([]) _ _ [(0, .string s1), (3, .int .i64 from4), (4, .int .i64 to4), (8, v1), (9, .int .i64 (r1.length : Int)), (10, .int .i64 x3)] [vec enc_Gapi_Token 36 3 v1 r1]
   refine TC.seq (TC.region (TO.bin rfl (by decide) rfl rfl bin_lss (TO.nil (TX.next (TC.seq ?_)))))
   refine TC.condB rfl (fun hb1 => ?_) (fun hb1 => ?_)
   ·
    have h := condT hb1 h
    refine TC.skip (TX.next ?_)
    obtain ⟨j2, hj2, h⟩ := joinE h
    refine TC.cutN (β := Int × Int) 0 rfl (fun b => j2 b.1 b.2 = some r) (fun b => []) (fun b => [(0, .string s1), (3, .int .i64 b.1), (4, .int .i64 b.2), (8, v1), (9, .int .i64 (r1.length : Int)), (10, .int .i64 x3)]) (fun b => [vec enc_Gapi_Token 36 3 v1 r1]) (fun cut => ?_) ?_
    ·
     refine cut (TC.block (TC.seq (TC.region ?_)))
     obtain ⟨q1, hq2, h⟩ := andE h
     refine TO.indexVecI (k := 0) hq2 Try.underlying23 sz_36 rfl (by decide) rfl rfl rfl rfl (TO.loadsVec (i := (x3 : Int).toNat) (j := 0) (k := 0) (q := q1) (cs := [.int .i64 q1.Kind, .int .i64 q1.Span_From, .int .i64 q1.Span_To]) rw_36 enc_Gapi_Token_len rfl (by decide) rfl rfl (getO_get hq2) rfl rfl rfl ?_)
     refine TO.alloc zr_36 rfl (by decide) (fun b1 => ?_)
     refine TO.stores (k := 1) (vs := [.int .i64 q1.Kind, .int .i64 q1.Span_From, .int .i64 q1.Span_To]) (l' := [.int .i64 q1.Kind, .int .i64 q1.Span_From, .int .i64 q1.Span_To]) sz_36 rfl rfl rfl rfl rfl (show _ ≤ _ by simp) rfl rfl ?_
     show TO _ _ _ _ _ _ _ _ _ _ [vec enc_Gapi_Token 36 3 v1 r1, cells b1 [.int .i64 q1.Kind, .int .i64 q1.Span_From, .int .i64 q1.Span_To] 36]
     refine TO.nil (TX.next (TC.seq (TC.region (TO.fieldAddr fl_36_0 rfl (by decide) rfl (show _ = 0 from rfl) (TO.load (k := 1) sc_3 rfl (by decide) rfl rfl rfl (TO.bin rfl (by decide) rfl rfl bin_neq (TO.move rfl (by decide) rfl ?_)))))))
     refine TO.split (s := 17) rfl (fun hb2 => ?_) (fun hb2 => ?_)
     ·
      have h := condT hb2 h
      refine TO.fieldAddr fl_36_0 rfl (by decide) rfl (show _ = 0 from rfl) (TO.load (k := 1) sc_3 rfl (by decide) rfl rfl rfl (TO.bin rfl (by decide) rfl rfl bin_neq (TO.pick (b := true) rfl (by decide) rfl rfl (TO.nil (TX.next ?_)))))
      refine TC.condB rfl (fun hb3 => ?_) (fun hb3 => ?_)
      ·
       have h := condT hb3 h
       obtain ⟨j3, hj3, h⟩ := joinE h
       refine TC.cutN (β := Int) 0 rfl (fun b => j3 b = some r) (fun b => []) (fun b => [(0, .string s1), (3, .int .i64 b), (6, .pointer (some ⟨b1, 0, none⟩)), (8, v1), (9, .int .i64 (r1.length : Int)), (10, .int .i64 x3), (18, .pointer (some ⟨b1, 0, none⟩)), (19, .int .i64 q1.Kind), (20, .bool ((q1.Kind : Int) != 4))]) (fun b => [cells b1 [.int .i64 q1.Kind, .int .i64 q1.Span_From, .int .i64 q1.Span_To] 36, vec enc_Gapi_Token 36 3 v1 r1]) (fun cut => ?_) ?_
       ·
        refine cut (TC.seq (TC.region (TO.move rfl (by decide) rfl (TO.bin rfl (by decide) rfl rfl bin_lss (TO.nil (TX.next ?_))))))
        refine TC.condB rfl (fun hb4 => ?_) (fun hb4 => ?_)
        ·
         have h := condT hb4 h
         refine TC.region (TO.fieldAddr fl_36_1 rfl (by decide) rfl (show _ = 1 from rfl) (TO.fieldAddr fl_34_0 rfl (by decide) rfl (show _ = 1 from rfl) (TO.load (k := 1) sc_3 rfl (by decide) rfl rfl rfl (TO.assign rfl (by decide) rfl (TO.nil ?_)))))
         exact TX.meetD q1.Span_From h rfl (Sbs.cons rfl (Sbs.cons rfl (Sbs.cons rfl (Sbs.cons rfl (Sbs.cons rfl (Sbs.cons rfl (Sbs.cons rfl (Sbs.cons rfl (Sbs.cons rfl (Sbs.nil)))))))))) (Splits.of [1, 0] (by as_aux_lemma => kernel_rfl) rfl)
        ·
         have h := condF hb4 h
         refine TC.skip ?_
         exact TX.meetD from4 h rfl (Sbs.cons rfl (Sbs.cons rfl (Sbs.cons rfl (Sbs.cons rfl (Sbs.cons rfl (Sbs.cons rfl (Sbs.cons rfl (Sbs.cons rfl (Sbs.cons rfl (Sbs.nil)))))))))) (Splits.of [1, 0] (by as_aux_lemma => kernel_rfl) rfl)
       ·
        rintro from6 h
        subst hj3
        show TC _ _ _ _ _ ([]) _ _ [(0, .string s1), (3, .int .i64 from6), (6, .pointer (some ⟨b1, 0, none⟩)), (8, v1), (9, .int .i64 (r1.length : Int)), (10, .int .i64 x3), (18, .pointer (some ⟨b1, 0, none⟩)), (19, .int .i64 q1.Kind), (20, .bool ((q1.Kind : Int) != 4))] [cells b1 [.int .i64 q1.Kind, .int .i64 q1.Span_From, .int .i64 q1.Span_To] 36, vec enc_Gapi_Token 36 3 v1 r1]
        refine TC.region (TO.fieldAddr fl_36_1 rfl (by decide) rfl (show _ = 1 from rfl) (TO.fieldAddr fl_34_1 rfl (by decide) rfl (show _ = 2 from rfl) (TO.load (k := 0) sc_3 rfl (by decide) rfl rfl rfl (TO.assign rfl (by decide) rfl (TO.nil (TX.blockNormal ?_))))))
        exact TX.meetD (from6, q1.Span_To) h rfl (Sbs.cons rfl (Sbs.cons rfl (Sbs.cons rfl (Sbs.cons rfl (Sbs.cons rfl (Sbs.cons rfl (Sbs.nil))))))) (Splits.of [1] (by as_aux_lemma => kernel_rfl) rfl)
      ·
       have h := condF hb3 h
       refine TC.skip (TX.blockNormal ?_)
       exact TX.meetD (from4, to4) h rfl (Sbs.cons rfl (Sbs.cons rfl (Sbs.cons rfl (Sbs.cons rfl (Sbs.cons rfl (Sbs.cons rfl (Sbs.nil))))))) (Splits.of [0] (by as_aux_lemma => kernel_rfl) rfl)
     ·
      have h := condF hb2 h
      refine TO.skip rfl (by decide) (TO.skip rfl (by decide) (TO.skip rfl (by decide) (TO.pick (b := false) rfl (by decide) rfl rfl (TO.nil (TX.next (TC.condF rfl (TC.skip (TX.blockNormal ?_))))))))
      exact TX.meetD (from4, to4) h rfl (Sbs.cons rfl (Sbs.cons rfl (Sbs.cons rfl (Sbs.cons rfl (Sbs.cons rfl (Sbs.cons rfl (Sbs.nil))))))) (Splits.of [0] (by as_aux_lemma => kernel_rfl) rfl)
    ·
     rintro ⟨from5, to5⟩ h
     subst hj2
     show TC _ _ _ _ _ ([]) _ _ [(0, .string s1), (3, .int .i64 from5), (4, .int .i64 to5), (8, v1), (9, .int .i64 (r1.length : Int)), (10, .int .i64 x3)] [vec enc_Gapi_Token 36 3 v1 r1]
     refine TC.region ?_
     obtain ⟨hg1, h⟩ := grdE h
     refine TO.bin rfl (by decide) rfl rfl (bin_add (r := x3 + 1) (IntWalk.i64_in _ hg1)) (TO.move rfl (by decide) rfl (TO.nil ?_))
     subst hag1
     exact TX.againD (n1, from5, to5, x3 + 1) h (Nat.lt_succ_self _) rfl (Sbs.cons rfl (Sbs.cons rfl (Sbs.cons rfl (Sbs.cons rfl (Sbs.cons rfl (Sbs.cons rfl (Sbs.nil))))))) (Splits.of [0] (by as_aux_lemma => kernel_rfl) rfl)
   ·
    have h := condF hb1 h
    refine TC.exit (TX.thenExit (TX.thenExit (TX.blockHere ?_)))
    exact TX.meetD (from4, to4) h rfl (Sbs.cons rfl (Sbs.cons rfl (Sbs.cons rfl (Sbs.nil)))) Splits.nil
 ·
  rintro ⟨from1, to1⟩ h
  subst hj1
  show TC _ _ _ _ _ ([]) _ _ [(0, .string s1), (3, .int .i64 from1), (4, .int .i64 to1)] []
  refine TC.seq (TC.seq (TC.region (TO.move rfl (by decide) rfl (TO.bin rfl (by decide) rfl rfl bin_lss (TO.nil (TX.next ?_))))))
  refine TC.condB rfl (fun hb5 => ?_) (fun hb5 => ?_)
  ·
   have h := condT hb5 h
   refine TC.seq (TC.region (TO.assign rfl (by decide) rfl (TO.nil (TX.next (TC.ret (TX.thenRet ?_))))))
   cases h
   exact TX.fin (rs := [.tmp 2]) () (.inl rfl) Try.results31 (.cons (.tmp rfl) .nil) rfl Splits.nil
  ·
   have h := condF hb5 h
   refine TC.skip (TX.next (TC.seq (TC.region (TO.move rfl (by decide) rfl (TO.move rfl (by decide) rfl (TO.move rfl (by decide) rfl ?_))))))
   obtain ⟨hg2, h⟩ := grdE h
   refine TO.slice rfl (by decide) rfl rfl rfl (slice_stringI (i := from1) (j := to1) Try.underlying9 (.inr rfl) (.inr rfl) hg2) (TO.assign rfl (by decide) rfl (TO.nil (TX.next (TC.ret ?_))))
   cases h
   exact TX.fin (rs := [.tmp 2]) () (.inl rfl) Try.results31 (.cons (.tmp rfl) .nil) rfl Splits.nil
def ref07_Plain_s1 (s1 : ByteArray) (j1 : ByteArray → Option ByteArray) (r1 : (List Gapi_Span)) (ag1 : ByteArray → Int → Option ByteArray) (out4 : ByteArray) (x3 : Int) : Option ByteArray := bcond (decide ((x3 : Int) < (r1.length : Int))) ( joinK (fun (j2 : ByteArray → Int → Int → Option ByteArray) => andThen (getO r1 x3) fun (q1 : Gapi_Span) => bcond (decide ((0 : Int) < x3)) ( grd (out4.size + (⟨#[32]⟩ : ByteArray).size ≤ 9223372036854775807) <| j2 (out4 ++ (⟨#[32]⟩ : ByteArray)) q1.From q1.To
) ( j2 out4 q1.From q1.To
)
) (fun (out5 : ByteArray) (w1 : Int) (w2 : Int) => grd (0 ≤ (w1 : Int) ∧ (w1 : Int) ≤ w2 ∧ (w2 : Int) ≤ (s1.size : Int)) <| grd (out5.size + (cutB s1 w1 w2).size ≤ 9223372036854775807) <| grd (I64 (x3 + 1)) <| ag1 (out5 ++ (cutB s1 w1 w2)) (x3 + 1)
)
) ( j1 out4
)
def ref07_Plain_v (s1 : ByteArray) : Option ByteArray := joinK (fun (j1 : ByteArray → Option ByteArray) => andThen (ref07_Words_v s1) fun (r1 : (List Gapi_Span)) => loopG (fun _ _ => none) (ref07_Plain_s1 s1 j1 r1) fuel (⟨#[]⟩ : ByteArray) 0
) (fun (out1 : ByteArray) => some out1
)
set_option maxRecDepth 100000 in
set_option maxHeartbeats 4000000 in
theorem ref07_Plain_fn {s1 : ByteArray} {r : ByteArray} (h : ref07_Plain_v s1 = some r) : FnP Try.prog 33 [.string s1] (.string r) := by
 unfold ref07_Plain_v at h
 refine FnP.intro Try.func33 rfl Try.ntmps33 (by simp) ?_
 intro w0 K
 obtain ⟨j1, hj1, h⟩ := joinE h
 refine TC.cutN (β := ByteArray) 2 rfl (fun b => j1 b = some r) (fun b => []) (fun b => [(3, .string b)]) (fun b => []) (fun cut => ?_) ?_
 ·
  refine TC.seq (TC.region (TO.assign rfl (by decide) rfl (TO.nil (TX.next (TC.seq (TC.region (TO.assign rfl (by decide) rfl (TO.nil (TX.next (cut (TC.seq (TC.region (TO.move rfl (by decide) rfl ?_)))))))))))))
  obtain ⟨r1, hq1, h⟩ := andE h
  refine TO.call (vs := [.string s1]) rfl (by decide) rfl rfl rfl en_14 (ref07_Words_fn hq1) Splits.nil ?_
  rintro v1
  show TO _ _ _ _ _ _ _ _ _ _ [vec enc_Gapi_Span 34 2 v1 r1]
  refine TO.lenVec (k := 0) rfl (by decide) rfl rfl Try.underlying25 (TO.move rfl (by decide) rfl (TO.nil (TX.next (TC.block ?_))))
  refine TC.loopD (β := Nat × ByteArray × Int) (fun b => loopG (fun _ _ => none) (ref07_Plain_s1 s1 j1 r1) b.1 b.2.1 b.2.2 = some r) (fun b => []) (fun b => [(0, .string s1), (3, .string b.2.1), (7, v1), (8, .int .i64 (r1.length : Int)), (9, .int .i64 b.2.2)]) (fun b => [vec enc_Gapi_Span 34 2 v1 r1]) (fun b => b.1) (fuel, (⟨#[]⟩ : ByteArray), 0) h rfl (Sbs.cons rfl (Sbs.cons rfl (Sbs.cons rfl (Sbs.cons rfl (Sbs.cons rfl (Sbs.nil)))))) (Splits.of [0] (by as_aux_lemma => kernel_rfl) rfl) ?_
  rintro ⟨n1, out4, x3⟩ h
  cases n1 with
  | zero => exact noneE h
  | succ n1 =>
   obtain ⟨ag1, hag1⟩ : ∃ ag, ag = loopG (fun _ _ => none) (ref07_Plain_s1 s1 j1 r1) n1 := ⟨_, rfl⟩
   have h : ref07_Plain_s1 s1 j1 r1 ag1 out4 x3 = some r := by rw [hag1]; exact h
   unfold ref07_Plain_s1 at h
   show TC _ _ _ _ _ ([]) _ _ [(0, .string s1), (3, .string out4), (7, v1), (8, .int .i64 (r1.length : Int)), (9, .int .i64 x3)] [vec enc_Gapi_Span 34 2 v1 r1]
   refine TC.seq (TC.region (TO.bin rfl (by decide) rfl rfl bin_lss (TO.nil (TX.next (TC.seq ?_)))))
   refine TC.condB rfl (fun hb1 => ?_) (fun hb1 => ?_)
   ·
    have h := condT hb1 h
    refine TC.skip (TX.next (TC.seq (TC.block ?_)))
    obtain ⟨j2, hj2, h⟩ := joinE h
    refine TC.cutN (β := ByteArray × Int × Int × Nat) 1 rfl (fun b => j2 b.1 b.2.1 b.2.2.1 = some r) (fun b => []) (fun b => [(0, .string s1), (3, .string b.1), (5, .pointer (some ⟨b.2.2.2, 0, none⟩)), (7, v1), (8, .int .i64 (r1.length : Int)), (9, .int .i64 x3)]) (fun b => [cells b.2.2.2 [.int .i64 b.2.1, .int .i64 b.2.2.1] 34, vec enc_Gapi_Span 34 2 v1 r1]) (fun cut => ?_) ?_
    ·
     refine TC.seq (TC.region (TO.move rfl (by decide) rfl ?_))
     obtain ⟨q1, hq2, h⟩ := andE h
     refine TO.indexVecI (k := 0) hq2 Try.underlying25 sz_34 rfl (by decide) rfl rfl rfl rfl (TO.loadsVec (i := (x3 : Int).toNat) (j := 0) (k := 0) (q := q1) (cs := [.int .i64 q1.From, .int .i64 q1.To]) rw_34 enc_Gapi_Span_len rfl (by decide) rfl rfl (getO_get hq2) rfl rfl rfl ?_)
     refine TO.alloc zr_34 rfl (by decide) (fun b2 => ?_)
     refine TO.assign rfl (by decide) rfl (TO.stores (k := 1) (vs := [.int .i64 q1.From, .int .i64 q1.To]) (l' := [.int .i64 q1.From, .int .i64 q1.To]) sz_34 rfl rfl rfl rfl rfl (show _ ≤ _ by simp) rfl rfl ?_)
     show TO _ _ _ _ _ _ _ _ _ _ [vec enc_Gapi_Span 34 2 v1 r1, cells b2 [.int .i64 q1.From, .int .i64 q1.To] 34]
     refine TO.nil (TX.next (cut (TC.seq (TC.region (TO.move rfl (by decide) rfl (TO.bin rfl (by decide) rfl rfl bin_gtr (TO.nil (TX.next ?_))))))))
     refine TC.condB rfl (fun hb2 => ?_) (fun hb2 => ?_)
     ·
      have h := condT hb2 h
      refine TC.region (TO.move rfl (by decide) rfl ?_)
      obtain ⟨hg1, h⟩ := grdE h
      refine TO.bin rfl (by decide) rfl rfl (bin_sadd hg1) (TO.assign rfl (by decide) rfl (TO.nil ?_))
      exact TX.meetD (out4 ++ (⟨#[32]⟩ : ByteArray), q1.From, q1.To, b2) h rfl (Sbs.cons rfl (Sbs.cons rfl (Sbs.cons rfl (Sbs.cons rfl (Sbs.cons rfl (Sbs.cons rfl (Sbs.nil))))))) (Splits.of [1, 0] (by as_aux_lemma => kernel_rfl) rfl)
     ·
      have h := condF hb2 h
      refine TC.skip ?_
      exact TX.meetD (out4, q1.From, q1.To, b2) h rfl (Sbs.cons rfl (Sbs.cons rfl (Sbs.cons rfl (Sbs.cons rfl (Sbs.cons rfl (Sbs.cons rfl (Sbs.nil))))))) (Splits.of [1, 0] (by as_aux_lemma => kernel_rfl) rfl)
    ·
     rintro ⟨out5, w1, w2, b1⟩ h
     subst hj2
     show TC _ _ _ _ _ ([]) _ _ [(0, .string s1), (3, .string out5), (5, .pointer (some ⟨b1, 0, none⟩)), (7, v1), (8, .int .i64 (r1.length : Int)), (9, .int .i64 x3)] [cells b1 [.int .i64 w1, .int .i64 w2] 34, vec enc_Gapi_Span 34 2 v1 r1]
     refine TC.region (TO.move rfl (by decide) rfl (TO.move rfl (by decide) rfl (TO.fieldAddr fl_34_0 rfl (by decide) rfl (show _ = 0 from rfl) (TO.load (k := 0) sc_3 rfl (by decide) rfl rfl rfl (TO.fieldAddr fl_34_1 rfl (by decide) rfl (show _ = 1 from rfl) (TO.load (k := 0) sc_3 rfl (by decide) rfl rfl rfl ?_))))))
     obtain ⟨hg2, h⟩ := grdE h
     refine TO.slice rfl (by decide) rfl rfl rfl (slice_stringI (i := w1) (j := w2) Try.underlying9 (.inr rfl) (.inr rfl) hg2) ?_
     obtain ⟨hg3, h⟩ := grdE h
     refine TO.bin rfl (by decide) rfl rfl (bin_sadd hg3) (TO.assign rfl (by decide) rfl (TO.nil (TX.blockNormal (TX.next (TC.region ?_)))))
     obtain ⟨hg4, h⟩ := grdE h
     refine TO.bin rfl (by decide) rfl rfl (bin_add (r := x3 + 1) (IntWalk.i64_in _ hg4)) (TO.move rfl (by decide) rfl (TO.nil ?_))
     subst hag1
     exact TX.againD (n1, out5 ++ (cutB s1 w1 w2), x3 + 1) h (Nat.lt_succ_self _) rfl (Sbs.cons rfl (Sbs.cons rfl (Sbs.cons rfl (Sbs.cons rfl (Sbs.cons rfl (Sbs.nil)))))) (Splits.of [1] (by as_aux_lemma => kernel_rfl) rfl)
   ·
    have h := condF hb1 h
    refine TC.exit (TX.thenExit (TX.thenExit (TX.blockHere ?_)))
    exact TX.meetD out4 h rfl (Sbs.cons rfl (Sbs.nil)) Splits.nil
 ·
  rintro out1 h
  subst hj1
  show TC _ _ _ _ _ ([]) _ _ [(3, .string out1)] []
  refine TC.seq (TC.region (TO.move rfl (by decide) rfl (TO.assign rfl (by decide) rfl (TO.nil (TX.next (TC.ret ?_))))))
  cases h
  exact TX.fin (rs := [.tmp 2]) () (.inl rfl) Try.results33 (.cons (.tmp rfl) .nil) rfl Splits.nil
end Go.Proofs.Ytgeefojgkbglnaa
namespace Go.Proofs.Ytgeefojgkbglnaa
open Go.RowKit Go.Lib
set_option linter.unusedVariables false
set_option linter.unusedSimpArgs false
section
variable {R S : Type} {c : Prop} [Decidable c] {o x z : Option R} {p : Option S} {f : S → Option R} {b : Bool} {y : Option R}
theorem grdI (h : c) (ho : o = x) : grd c o = x := (grd_pos h).trans ho
theorem thenI {a : S} (h : p = some a) (hf : f a = x) : andThen p f = x := (and_some h).trans hf
theorem condTI (hb : b = true) (h : x = z) : bcond b x y = z := (bcond_T hb).trans h
theorem condFI (hb : b = false) (h : y = z) : bcond b x y = z := (bcond_F hb).trans h
theorem joinI {T : Type} {t : T → Option R} {k : T} (h : t k = x) : joinK t k = x := h
theorem loopI {T : Type} {bot : T} {step : T → T} {n : Nat} : loopG bot step (n + 1) = step (loopG bot step n) := rfl
theorem bcond_if {q : Prop} [Decidable q] : bcond (decide q) x y = if q then x else y := by
  unfold bcond; rw [Bool.cond_decide]
theorem fuel_eq (k : Nat) (h : k ≤ 1000) : ∃ n, fuel = n + k ∧ 18446744073709550000 ≤ n := ⟨18446744073709551616 - k, by unfold fuel; omega, by omega⟩
end
/-- A rune that has a form. -/
def vr (r : Int) : Prop := (0 ≤ r ∧ r < 55296) ∨ (57343 < r ∧ r ≤ 1114111)
instance (r : Int) : Decidable (vr r) := by unfold vr; infer_instance
theorem none_v (r : Int) : ref01_None_v r = some (!decide (vr r)) := by
  unfold ref01_None_v
  simp only [bcond_if]
  by_cases h : vr r
  · have h' := h
    unfold vr at h'
    rw [decide_eq_true h, if_neg (by omega), if_neg (by omega)]
    split
    · rw [decide_eq_false (by omega)]; rfl
    · rfl
  · have h' := h
    unfold vr at h'
    rw [decide_eq_false h]
    split
    · rfl
    · split
      · rfl
      · rw [if_pos (by omega), decide_eq_true (by omega)]; rfl
def wd (r : Int) : Int := if vr r then (if r < 128 then 1 else if r < 2048 then 2 else if r < 65536 then 3 else 4) else 0
theorem width_v (r : Int) : ref01_Width_v r = some (wd r) := by
  unfold ref01_Width_v wd
  refine thenI (none_v r) ?_
  by_cases h : vr r
  · refine condFI (by simp [h]) ?_
    rw [if_pos h]
    simp only [bcond_if]
    split
    · rfl
    · split
      · rfl
      · split <;> rfl
  · refine condTI (by simp [h]) ?_
    rw [if_neg h]
theorem wd_len (r : Int) (h : vr r) : ((encodeRune r).length : Int) = wd r := by
  unfold wd; rw [if_pos h]
  unfold vr at h
  unfold encodeRune
  rw [List.length_map]
  split
  · rw [encodeRuneZ_one (by omega) (by omega)]; rfl
  · split
    · rw [encodeRuneZ_two (by omega) (by omega)]; rfl
    · split
      · rw [encodeRuneZ_three (by omega)]; rfl
      · rw [encodeRuneZ_four (by omega) (by omega)]; rfl
theorem u8w (x : Int) (h : 0 ≤ x ∧ x ≤ 255) : IntKind.u8.wrap x = x := IntWalk.u8_in x h
theorem enc_step {j : Int → List Int → Option ByteArray} {ag : Int → List Int → Int → Option ByteArray} {r i : Int} {b : List Int} (h0 : 0 ≤ r) (hr : r ≤ 1114111) (hi : 0 < i) (hb : i < b.length) (hb4 : b.length ≤ 4) :
    ref01_Encode_s1 j ag r b i = ag (r / 64) (b.set i.toNat (128 + r % 64)) (i - 1) := by
  unfold ref01_Encode_s1
  have e1 : Int.tmod r 64 = r % 64 := Int.tmod_eq_emod_of_nonneg h0
  have e2 : Int.tdiv r 64 = r / 64 := Int.tdiv_eq_ediv_of_nonneg h0
  refine condTI (decide_eq_true hi) (grdI ⟨by omega, by omega⟩ ?_)
  obtain ⟨q, hq⟩ : ∃ q, getO b i = some q := ⟨_, getO_of (n := i.toNat) (by omega) (List.getElem?_eq_getElem (by omega))⟩
  refine thenI hq (grdI ⟨by omega, by omega⟩ (grdI ⟨by omega, by omega⟩ ?_))
  rw [e1, e2, u8w _ (by omega)]
theorem enc_end {j : Int → List Int → Option ByteArray} {ag : Int → List Int → Int → Option ByteArray} {r : Int} {b : List Int} : ref01_Encode_s1 j ag r b 0 = j r b := by
  unfold ref01_Encode_s1; exact condFI rfl rfl
theorem bytesOf_eq {l : List Int} {s : ByteArray} (h : l.map (fun x => UInt8.ofNat x.toNat) = s.data.toList) : bytesOf l = s := by
  apply ByteArray.ext; unfold bytesOf; simp [h]
theorem encode_v (r : Int) (hr : I32 r) : ref01_Encode_v r = some (Utf8.encode r) := by
  have key : ∀ r, vr r → (andThen (ref01_Width_v r) fun (r4 : Int) =>
      bcond ((r4 : Int) == 1) (grd (∀ x ∈ ([IntKind.u8.wrap r] : List Int), U8 x) <| some (bytesOf ([IntKind.u8.wrap r] : List Int)))
      (joinK (fun (j2 : Int → (List Int) → Option ByteArray) => grd (0 ≤ r4 ∧ r4 ≤ 2147483648) <| grd (I64 (r4 - 1)) <| loopG (fun _ _ _ => none) (ref01_Encode_s1 j2) fuel r (List.replicate (r4 : Int).toNat 0) (r4 - 1))
       (fun (r5 : Int) (b2 : List Int) =>
        grd (I64 (8 - r4)) <| grd (0 ≤ (8 - r4)) <| grd (I64 (256 - (shlI .i64 1 (8 - r4)))) <| grd (I64 r5) <| grd (I64 ((256 - (shlI .i64 1 (8 - r4))) + r5)) <|
        andThen (getO b2 0) fun (q2 : Int) => grd (∀ x ∈ b2.set (0 : Int).toNat (IntKind.u8.wrap ((256 - (shlI .i64 1 (8 - r4))) + r5)), U8 x) <|
        some (bytesOf (b2.set (0 : Int).toNat (IntKind.u8.wrap ((256 - (shlI .i64 1 (8 - r4))) + r5))))))) = some (Utf8.encode r) := by
    intro r hv
    have hv' := hv
    unfold vr at hv
    refine thenI (width_v r) ?_
    obtain ⟨n, hn, _⟩ := fuel_eq 5 (by omega)
    rw [hn]
    unfold wd; rw [if_pos hv']
    have hw : encodeRune r = (encodeRuneZ r).map fun x => x.toNat.toUInt8 := rfl
    by_cases h1 : r < 128
    · rw [if_pos h1]
      refine condTI rfl (grdI ?_ ?_)
      · intro x hx
        simp only [List.mem_singleton] at hx
        subst hx; rw [u8w _ (by omega)]; exact ⟨by omega, by omega⟩
      · congr 1
        refine bytesOf_eq ?_
        rw [encode_list, hw, encodeRuneZ_one (by omega) (by omega), u8w _ (by omega)] <;> rfl
    · rw [if_neg h1]
      by_cases h2 : r < 2048
      · rw [if_pos h2]
        refine condFI rfl (joinI (grdI (by omega) (grdI ⟨by omega, by omega⟩ ?_)))
        simp only [loopI]
        show ref01_Encode_s1 _ _ r [0, 0] 1 = _
        rw [enc_step (by omega) (by omega) (by omega) (by decide) (by decide), show (1 : Int) - 1 = 0 by rfl, enc_end]
        have hs : shlI .i64 1 (8 - 2) = 64 := by decide
        rw [hs]
        refine grdI ⟨by omega, by omega⟩ (grdI (by omega) (grdI ⟨by omega, by omega⟩ (grdI ⟨by omega, by omega⟩ (grdI ⟨by omega, by omega⟩ (thenI (a := 0) rfl ?_)))))
        rw [u8w _ (by omega)]
        show grd (∀ x ∈ [256 - 64 + r / 64, 128 + r % 64], U8 x) (some (bytesOf [256 - 64 + r / 64, 128 + r % 64])) = _
        refine grdI (by intro x hx; simp only [List.mem_cons, List.not_mem_nil, or_false] at hx; rcases hx with rfl | rfl <;> exact ⟨by omega, by omega⟩) ?_
        congr 1
        refine bytesOf_eq ?_
        rw [encode_list, hw, encodeRuneZ_two (by omega) (by omega)] <;> rfl
      · rw [if_neg h2]
        by_cases h3 : r < 65536
        · rw [if_pos h3]
          refine condFI rfl (joinI (grdI (by omega) (grdI ⟨by omega, by omega⟩ ?_)))
          simp only [loopI]
          show ref01_Encode_s1 _ _ r [0, 0, 0] 2 = _
          rw [enc_step (by omega) (by omega) (by omega) (by decide) (by decide)]
          show ref01_Encode_s1 _ _ (r / 64) [0, 0, 128 + r % 64] 1 = _
          rw [enc_step (by omega) (by omega) (by omega) (by simp) (by simp), show (1 : Int) - 1 = 0 by rfl, enc_end]
          have hs : shlI .i64 1 (8 - 3) = 32 := by decide
          rw [hs]
          refine grdI ⟨by omega, by omega⟩ (grdI (by omega) (grdI ⟨by omega, by omega⟩ (grdI ⟨by omega, by omega⟩ (grdI ⟨by omega, by omega⟩ (thenI (a := 0) rfl ?_)))))
          rw [u8w _ (by omega)]
          show grd (∀ x ∈ [256 - 32 + r / 64 / 64, 128 + r / 64 % 64, 128 + r % 64], U8 x) (some (bytesOf [256 - 32 + r / 64 / 64, 128 + r / 64 % 64, 128 + r % 64])) = _
          refine grdI (by intro x hx; simp only [List.mem_cons, List.not_mem_nil, or_false] at hx; rcases hx with rfl | rfl | rfl <;> exact ⟨by omega, by omega⟩) ?_
          congr 1
          refine bytesOf_eq ?_
          rw [encode_list, hw, encodeRuneZ_three (by omega), show r / 64 / 64 = r / 4096 by omega] <;> rfl
        · rw [if_neg h3]
          refine condFI rfl (joinI (grdI (by omega) (grdI ⟨by omega, by omega⟩ ?_)))
          simp only [loopI]
          show ref01_Encode_s1 _ _ r [0, 0, 0, 0] 3 = _
          rw [enc_step (by omega) (by omega) (by omega) (by decide) (by decide)]
          show ref01_Encode_s1 _ _ (r / 64) [0, 0, 0, 128 + r % 64] 2 = _
          rw [enc_step (by omega) (by omega) (by omega) (by simp) (by simp)]
          show ref01_Encode_s1 _ _ (r / 64 / 64) [0, 0, 128 + r / 64 % 64, 128 + r % 64] 1 = _
          rw [enc_step (by omega) (by omega) (by omega) (by simp) (by simp), show (1 : Int) - 1 = 0 by rfl, enc_end]
          have hs : shlI .i64 1 (8 - 4) = 16 := by decide
          rw [hs]
          refine grdI ⟨by omega, by omega⟩ (grdI (by omega) (grdI ⟨by omega, by omega⟩ (grdI ⟨by omega, by omega⟩ (grdI ⟨by omega, by omega⟩ (thenI (a := 0) rfl ?_)))))
          rw [u8w _ (by omega)]
          show grd (∀ x ∈ [256 - 16 + r / 64 / 64 / 64, 128 + r / 64 / 64 % 64, 128 + r / 64 % 64, 128 + r % 64], U8 x) (some (bytesOf [256 - 16 + r / 64 / 64 / 64, 128 + r / 64 / 64 % 64, 128 + r / 64 % 64, 128 + r % 64])) = _
          refine grdI (by intro x hx; simp only [List.mem_cons, List.not_mem_nil, or_false] at hx; rcases hx with rfl | rfl | rfl | rfl <;> exact ⟨by omega, by omega⟩) ?_
          congr 1
          refine bytesOf_eq ?_
          rw [encode_list, hw, encodeRuneZ_four (by omega) (by omega), show r / 64 / 64 / 64 = r / 262144 by omega, show r / 64 / 64 % 64 = r / 4096 % 64 by omega] <;> rfl
  unfold ref01_Encode_v
  refine joinI (thenI (none_v r) ?_)
  by_cases h : vr r
  · exact condFI (by simp [h]) (key r h)
  · refine condTI (by simp [h]) ((key 65533 (by decide)).trans ?_)
    congr 1
    unfold Utf8.encode
    rw [validRune_eq, validRune_eq]
    have e1 : validRune r = false := by unfold validRune; exact decide_eq_false h
    rw [e1]; rfl
end Go.Proofs.Ytgeefojgkbglnaa
namespace Go.Proofs.Ytgeefojgkbglnaa
open Go.RowKit Go.Lib
set_option linter.unusedVariables false
set_option linter.unusedSimpArgs false
theorem loopS {T : Type} {bot : T} {step : T → T} {n : Nat} : loopG bot step (n + 1) = step (loopG bot step n) := rfl
/-- The i-th byte of a text from a place on, as a number. -/
def byI (l : List UInt8) (i : Nat) : Int := ((l.getD i 0).toNat : Int)
theorem byI_rng (l : List UInt8) (i : Nat) : 0 ≤ byI l i ∧ byI l i ≤ 255 := by
  have := (l.getD i 0).toNat_lt; unfold byI; omega
theorem getB_by {s : ByteArray} {a i : Nat} (h : a + i < s.size) : getB s ((a : Int) + (i : Int)) = some (byI (s.data.toList.drop a) i) := by
  rw [getB_of (n := a + i) (by omega) h]
  have e : (s.data.toList.drop a).getD i 0 = s[a + i] := by
    rw [List.getD_eq_getElem?_getD, List.getElem?_drop, List.getElem?_eq_getElem (by simpa using h)]
    simp; rfl
  unfold byI; rw [e]
def cand (l : List UInt8) : Nat → Int
  | 1 => byI l 0
  | 2 => (byI l 0 - 192) * 64 + byI l 1 - 128
  | 3 => ((byI l 0 - 224) * 64 + byI l 1 - 128) * 64 + byI l 2 - 128
  | 4 => (((byI l 0 - 240) * 64 + byI l 1 - 128) * 64 + byI l 2 - 128) * 64 + byI l 3 - 128
  | _ => 0
theorem cand_rng (l : List UInt8) (n : Nat) : -100000000 ≤ cand l n ∧ cand l n ≤ 100000000 := by
  have h0 := byI_rng l 0; have h1 := byI_rng l 1; have h2 := byI_rng l 2; have h3 := byI_rng l 3
  unfold cand; split <;> omega
def acc (s : ByteArray) (a n : Nat) : Prop := vr (cand (s.data.toList.drop a) n) ∧ wd (cand (s.data.toList.drop a) n) = n ∧ Utf8.encode (cand (s.data.toList.drop a) n) = cutB s a ((a : Int) + n)
theorem in_step {s : ByteArray} {a i n : Nat} {j : Int → Option (Int × Int)} {ag : Int → Int → Option (Int × Int)} {r : Int} (h : i < n) (hs : a + i < s.size) (hsz : s.size ≤ 9223372036854775000) (hr : -10000000 ≤ r ∧ r ≤ 10000000) (hi : i ≤ 4) :
    ref01_Form_s2 s a n j ag r (i : Int) = ag (r * 64 + byI (s.data.toList.drop a) i - 128) ((i + 1 : Nat) : Int) := by
  have hb := byI_rng (s.data.toList.drop a) i
  unfold ref01_Form_s2
  refine condTI (decide_eq_true (by omega)) (grdI ⟨by omega, by omega⟩ (grdI ⟨by omega, by omega⟩ (thenI (getB_by hs) (grdI ⟨by omega, by omega⟩ (grdI ⟨by omega, by omega⟩ (grdI ⟨by omega, by omega⟩ (grdI ⟨by omega, by omega⟩ ?_)))))))
  rfl
theorem in_end {s : ByteArray} {a n : Nat} {j : Int → Option (Int × Int)} {ag : Int → Int → Option (Int × Int)} {r : Int} : ref01_Form_s2 s a n j ag r (n : Int) = j r := by
  unfold ref01_Form_s2; exact condFI (decide_eq_false (by omega)) rfl
theorem test_v (s : ByteArray) (a n : Nat) (hn : 1 ≤ n ∧ n ≤ 4) (hs : a + n ≤ s.size) (hsz : s.size ≤ 9223372036854775000) (j2 : Option (Int × Int)) (r2 : Int) (hr : r2 = cand (s.data.toList.drop a) n) [Decidable (acc s a n)] :
    (andThen (ref01_None_v r2) fun (r6 : Bool) => bcond (!r6) (andThen (ref01_Width_v r2) fun (r7 : Int) => bcond ((r7 : Int) == (n : Int)) (andThen (ref01_Encode_v r2) fun (r8 : ByteArray) =>
      grd (I64 ((a : Int) + n)) <| grd (0 ≤ (a : Int) ∧ (a : Int) ≤ ((a : Int) + n) ∧ ((a : Int) + n) ≤ (s.size : Int)) <| bcond (decide (r8 = cutB s a ((a : Int) + n))) (some (r2, (n : Int))) j2) j2) j2) =
    if acc s a n then some (cand (s.data.toList.drop a) n, (n : Int)) else j2 := by
  subst hr
  have hc := cand_rng (s.data.toList.drop a) n
  refine thenI (none_v _) ?_
  by_cases h1 : vr (cand (s.data.toList.drop a) n)
  · refine condTI (by simp [h1]) (thenI (width_v _) ?_)
    by_cases h2 : wd (cand (s.data.toList.drop a) n) = n
    · refine condTI (by simp [h2]) (thenI (encode_v _ ⟨by omega, by omega⟩) (grdI ⟨by omega, by omega⟩ (grdI ⟨by omega, by omega, by omega⟩ ?_)))
      by_cases h3 : Utf8.encode (cand (s.data.toList.drop a) n) = cutB s a ((a : Int) + n)
      · rw [if_pos (show acc s a n from ⟨h1, h2, h3⟩)]; exact condTI (decide_eq_true h3) rfl
      · rw [if_neg (fun h : acc s a n => h3 h.2.2)]; exact condFI (decide_eq_false h3) rfl
    · rw [if_neg (fun h : acc s a n => h2 h.2.1)]; exact condFI (beq_eq_false_iff_ne.2 h2) rfl
  · rw [if_neg (fun h : acc s a n => h1 h.1)]; exact condFI (by simp [h1]) rfl
open Classical in
theorem form_step (s : ByteArray) (a n : Nat) (hn : 1 ≤ n ∧ n ≤ 4) (hs : a + n ≤ s.size) (hsz : s.size ≤ 9223372036854775000) (j1 : Option (Int × Int)) (ag : Int → Option (Int × Int)) :
    ref01_Form_s1 s a j1 ag (n : Int) = if acc s a n then some (cand (s.data.toList.drop a) n, (n : Int)) else ag ((n + 1 : Nat) : Int) := by
  obtain ⟨F, hF, _⟩ := fuel_eq 5 (by omega)
  have h0 := byI_rng (s.data.toList.drop a) 0; have h1 := byI_rng (s.data.toList.drop a) 1; have h2 := byI_rng (s.data.toList.drop a) 2; have h3 := byI_rng (s.data.toList.drop a) 3
  have hg : getB s (a : Int) = some (byI (s.data.toList.drop a) 0) := by have := getB_by (s := s) (a := a) (i := 0) (by omega); simpa using this
  unfold ref01_Form_s1
  refine condTI (decide_eq_true (by omega)) (grdI ⟨by omega, by omega⟩ (condTI (decide_eq_true (by omega)) (joinI (joinI (thenI hg (grdI ⟨by omega, by omega⟩ ?_))))))
  have fin : ∀ r2 : Int, r2 = cand (s.data.toList.drop a) n → ∀ z, z = ag ((n + 1 : Nat) : Int) → (andThen (ref01_None_v r2) fun (r6 : Bool) => bcond (!r6) (andThen (ref01_Width_v r2) fun (r7 : Int) => bcond ((r7 : Int) == (n : Int)) (andThen (ref01_Encode_v r2) fun (r8 : ByteArray) =>
      grd (I64 ((a : Int) + n)) <| grd (0 ≤ (a : Int) ∧ (a : Int) ≤ ((a : Int) + n) ∧ ((a : Int) + n) ≤ (s.size : Int)) <| bcond (decide (r8 = cutB s a ((a : Int) + n))) (some (r2, (n : Int))) z) z) z) =
      if acc s a n then some (cand (s.data.toList.drop a) n, (n : Int)) else ag ((n + 1 : Nat) : Int) := fun r2 hr z hz => by subst hz; exact test_v s a n hn hs hsz _ r2 hr
  have hz : (grd (I64 ((n : Int) + 1)) <| ag ((n : Int) + 1)) = ag ((n + 1 : Nat) : Int) := grdI ⟨by omega, by omega⟩ rfl
  rw [hz, hF]
  obtain rfl | rfl | rfl | rfl : n = 1 ∨ n = 2 ∨ n = 3 ∨ n = 4 := by omega
  · refine condFI rfl (joinI ?_)
    rw [loopS, show ((1 : Int)) = ((1 : Nat) : Int) from rfl, in_end]
    exact fin _ rfl _ rfl
  · have e : (256 - (shlI .i32 1 (8 - ((2 : Nat) : Int)))) = 192 := by decide
    rw [e]
    refine condTI rfl (grdI ⟨by omega, by omega⟩ (grdI (by omega) (grdI ⟨by omega, by omega⟩ (grdI ⟨by omega, by omega⟩ (joinI ?_)))))
    rw [loopS, show ((1 : Int)) = ((1 : Nat) : Int) from rfl, in_step (by omega) (by omega) hsz (by omega) (by omega), loopS, in_end]
    exact fin _ rfl _ rfl
  · have e : (256 - (shlI .i32 1 (8 - ((3 : Nat) : Int)))) = 224 := by decide
    rw [e]
    refine condTI rfl (grdI ⟨by omega, by omega⟩ (grdI (by omega) (grdI ⟨by omega, by omega⟩ (grdI ⟨by omega, by omega⟩ (joinI ?_)))))
    rw [loopS, show ((1 : Int)) = ((1 : Nat) : Int) from rfl, in_step (by omega) (by omega) hsz (by omega) (by omega), loopS, in_step (by omega) (by omega) hsz (by omega) (by omega), loopS, in_end]
    exact fin _ rfl _ rfl
  · have e : (256 - (shlI .i32 1 (8 - ((4 : Nat) : Int)))) = 240 := by decide
    rw [e]
    refine condTI rfl (grdI ⟨by omega, by omega⟩ (grdI (by omega) (grdI ⟨by omega, by omega⟩ (grdI ⟨by omega, by omega⟩ (joinI ?_)))))
    rw [loopS, show ((1 : Int)) = ((1 : Nat) : Int) from rfl, in_step (by omega) (by omega) hsz (by omega) (by omega), loopS, in_step (by omega) (by omega) hsz (by omega) (by omega), loopS, in_step (by omega) (by omega) hsz (by have q := byI_rng (s.data.toList.drop a) (1 + 1); omega) (by omega), loopS, in_end]
    exact fin _ rfl _ rfl
theorem cutB_list (s : ByteArray) (a n : Nat) : (cutB s a ((a : Int) + n)).data.toList = (s.data.toList.drop a).take n := by
  unfold cutB
  rw [extract_data]
  simp only [Int.toNat_natCast, show ((a : Int) + (n : Int)).toNat = a + n by omega]
  rw [show a + n - a = n by omega]
/-- What is accepted is what is decoded. -/
theorem acc_dec {s : ByteArray} {a n : Nat} (hn : 1 ≤ n ∧ n ≤ 4) (hs : a + n ≤ s.size) (h : acc s a n) : ((decodeL (s.data.toList.drop a)).1 : Int) = cand (s.data.toList.drop a) n ∧ (decodeL (s.data.toList.drop a)).2 = n ∧ ¬ ((decodeL (s.data.toList.drop a)).1 = 65533 ∧ (decodeL (s.data.toList.drop a)).2 = 1) := by
  obtain ⟨h1, h2, h3⟩ := h
  have h4 := congrArg (fun b : ByteArray => b.data.toList) h3
  simp only [encode_list, cutB_list] at h4
  have hv := h1
  unfold vr at h1
  generalize hc : cand (s.data.toList.drop a) n = c at *
  obtain ⟨m, rfl⟩ : ∃ m : Nat, c = m := ⟨c.toNat, by omega⟩
  have h5 := dec_enc m (by omega) ((s.data.toList.drop a).drop n)
  rw [h4, List.take_append_drop] at h5
  have h6 : ((s.data.toList.drop a).take n).length = n := by simp; omega
  rw [h6] at h5
  rw [h5]
  refine ⟨rfl, rfl, fun ⟨e1, e2⟩ => ?_⟩
  simp only at e1 e2
  subst e1; subst e2
  unfold wd at h2; revert h2; decide
theorem byI_of {l : List UInt8} {i : Nat} {x : Int} (h : l[i]? = some (x.toNat.toUInt8)) (hx : 0 ≤ x ∧ x ≤ 255) : byI l i = x := by
  unfold byI
  rw [List.getD_eq_getElem?_getD, h]
  simp; omega
/-- What is decoded is accepted. -/
theorem dec_acc {s : ByteArray} {a : Nat} (ha : a < s.size) (hb : ¬ ((decodeL (s.data.toList.drop a)).1 = 65533 ∧ (decodeL (s.data.toList.drop a)).2 = 1)) :
    acc s a (decodeL (s.data.toList.drop a)).2 ∧ 1 ≤ (decodeL (s.data.toList.drop a)).2 ∧ (decodeL (s.data.toList.drop a)).2 ≤ 4 ∧ a + (decodeL (s.data.toList.drop a)).2 ≤ s.size := by
  have hne : s.data.toList.drop a ≠ [] := by
    intro h; have := congrArg List.length h; simp at this; omega
  have hok := decOk _ hne
  generalize hl : s.data.toList.drop a = l at *
  generalize hr : (decodeL l).1 = r at *
  generalize hw : (decodeL l).2 = w at *
  have hlen : l.length = s.size - a := by rw [← hl]; simp
  have hv := hok.valid
  have hvr : vr (r : Int) := by unfold vr; omega
  have h1 := hok.width hb
  have h2 := hok.bytes hb
  have h3 := wd_len _ hvr
  have hle := hok.le
  have hcand : cand l w = r := by
    have hget : ∀ (i : Nat) (x : Int), (encodeRuneZ (r : Int))[i]? = some x → l[i]? = some (x.toNat.toUInt8) := by
      intro i x hx
      have hi : i < w := by
        rw [← h1]; unfold encodeRune; rw [List.length_map]; exact (List.getElem?_eq_some_iff.1 hx).1
      have : (encodeRune (r : Int))[i]? = some (x.toNat.toUInt8) := by unfold encodeRune; rw [List.getElem?_map, hx]; rfl
      rw [h2, List.getElem?_take, if_pos hi] at this
      exact this
    unfold wd at h3
    rw [if_pos hvr] at h3
    split at h3
    · rw [encodeRuneZ_one (by omega) (by omega)] at hget
      have hw1 : w = 1 := by omega
      rw [hw1]
      exact byI_of (hget 0 _ rfl) (by omega)
    · split at h3
      · rw [encodeRuneZ_two (by omega) (by omega)] at hget
        have hw1 : w = 2 := by omega
        rw [hw1]
        simp only [cand]
        rw [byI_of (hget 0 _ rfl) (by omega), byI_of (hget 1 _ rfl) (by omega)]; omega
      · split at h3
        · rw [encodeRuneZ_three (by omega)] at hget
          have hw1 : w = 3 := by omega
          rw [hw1]
          simp only [cand]
          rw [byI_of (hget 0 _ rfl) (by omega), byI_of (hget 1 _ rfl) (by omega), byI_of (hget 2 _ rfl) (by omega)]; omega
        · rw [encodeRuneZ_four (by omega) (by omega)] at hget
          have hw1 : w = 4 := by omega
          rw [hw1]
          simp only [cand]
          rw [byI_of (hget 0 _ rfl) (by omega), byI_of (hget 1 _ rfl) (by omega), byI_of (hget 2 _ rfl) (by omega), byI_of (hget 3 _ rfl) (by omega)]; omega
  have h4 := encodeRune_len (r : Int)
  refine ⟨⟨by rw [hl, hcand]; exact hvr, by rw [hl, hcand]; omega, ?_⟩, hok.pos, by omega, by omega⟩
  rw [hl, hcand]
  apply ByteArray.ext
  apply Array.toList_inj.1
  rw [encode_list, cutB_list, hl, h2]
/-- A piece, as the reference has it. -/
def pcG (p : Pc) : Gapi_Piece := ⟨p.i, p.w, p.r, p.broken⟩
def formO (l : List UInt8) : Int × Int := if (decodeL l).1 = 65533 ∧ (decodeL l).2 = 1 then (0, 0) else ((decodeL l).1, (decodeL l).2)
theorem form_v (s : ByteArray) (a : Nat) (ha : a < s.size) (hsz : s.size ≤ 9223372036854775000) : ref01_Form_v s a = some (formO (s.data.toList.drop a)) := by
  classical
  unfold ref01_Form_v
  refine joinI ?_
  obtain ⟨F, hF, _⟩ := fuel_eq 6 (by omega)
  rw [hF]
  have key : ∀ k m : Nat, m + k = 5 → 1 ≤ m → (∀ n, 1 ≤ n → n < m → a + n ≤ s.size → ¬ acc s a n) → ∀ G, loopG (fun _ => none) (ref01_Form_s1 s a (some (0, 0))) (G + k + 1) (m : Int) = some (formO (s.data.toList.drop a)) := by
    intro k
    induction k with
    | zero =>
      intro m hm h1 hno G
      have hm5 : m = 5 := by omega
      rw [hm5, loopS]
      unfold ref01_Form_s1
      refine condFI rfl ?_
      unfold formO
      rw [if_pos]
      by_cases hb : (decodeL (s.data.toList.drop a)).1 = 65533 ∧ (decodeL (s.data.toList.drop a)).2 = 1
      · exact hb
      · obtain ⟨h2, h3, h4, h5⟩ := dec_acc ha hb
        exact absurd h2 (hno _ h3 (by omega) h5)
    | succ k ih =>
      intro m hm h1 hno G
      rw [loopS]
      by_cases hs : a + m ≤ s.size
      · rw [form_step s a m ⟨h1, by omega⟩ hs hsz]
        by_cases hac : acc s a m
        · rw [if_pos hac]
          obtain ⟨e1, e2, e3⟩ := acc_dec ⟨h1, by omega⟩ hs hac
          unfold formO; rw [if_neg e3, e1, e2]
        · rw [if_neg hac]
          exact ih (m + 1) (by omega) (by omega) (fun n hn1 hn2 hn3 => by
            by_cases h : n = m
            · subst h; exact hac
            · exact hno n hn1 (by omega) hn3) G
      · unfold ref01_Form_s1
        refine condTI (decide_eq_true (by omega)) (grdI ⟨by omega, by omega⟩ (condFI (decide_eq_false (by omega)) ?_))
        unfold formO
        rw [if_pos]
        by_cases hb : (decodeL (s.data.toList.drop a)).1 = 65533 ∧ (decodeL (s.data.toList.drop a)).2 = 1
        · exact hb
        · obtain ⟨h2, h3, h4, h5⟩ := dec_acc ha hb
          exact absurd h2 (hno _ h3 (by omega) h5)
  exact key 4 1 rfl (by omega) (fun n h1 h2 => by omega) (F + 1)
theorem at_v (s : ByteArray) (a : Nat) (ha : a < s.size) (hsz : s.size ≤ 9223372036854775000) : ref01_At_v s a = some (pcG ⟨a, (decodeL (s.data.toList.drop a)).2, (decodeL (s.data.toList.drop a)).1⟩) := by
  unfold ref01_At_v
  refine thenI (form_v s a ha hsz) ?_
  unfold formO pcG Pc.broken
  have hp := dec_pos (s.data.toList.drop a)
  by_cases hb : (decodeL (s.data.toList.drop a)).1 = 65533 ∧ (decodeL (s.data.toList.drop a)).2 = 1
  · rw [if_pos hb]
    refine condFI rfl ?_
    rw [hb.1, hb.2]; rfl
  · rw [if_neg hb]
    refine condTI (decide_eq_true (by simp only; omega)) ?_
    have : ((decodeL (s.data.toList.drop a)).1 == 65533 && (decodeL (s.data.toList.drop a)).2 == 1) = false := by
      rw [Bool.and_eq_false_iff]
      by_cases h : (decodeL (s.data.toList.drop a)).1 = 65533
      · right; exact beq_eq_false_iff_ne.2 (fun h2 => hb ⟨h, h2⟩)
      · left; exact beq_eq_false_iff_ne.2 h
    simp only [this]
theorem pieces_v (s : ByteArray) (hsz : s.size ≤ 2147483648) : ref01_Pieces_v s = some ((pcs s.data.toList).map pcG) := by
  unfold ref01_Pieces_v
  refine joinI ?_
  have key : ∀ n a : Nat, a ≤ s.size → s.size - a < n → ∀ l : List Gapi_Piece, l.length ≤ a → loopG (fun _ _ => none) (ref01_Pieces_s1 s some) n l (a : Int) = some (l ++ (pcsFrom a (s.data.toList.drop a)).map pcG) := by
    intro n
    induction n with
    | zero => intro a _ h; omega
    | succ n ih =>
      intro a ha hn l hl
      rw [loopS]
      generalize hg : loopG (fun _ _ => none) (ref01_Pieces_s1 s some) n = ag
      unfold ref01_Pieces_s1
      by_cases h : a < s.size
      · have hne : s.data.toList.drop a ≠ [] := by
          intro h; have := congrArg List.length h; simp at this; omega
        have hok := decOk _ hne
        have h1 := hok.pos; have h2 := hok.le
        have hlen : (s.data.toList.drop a).length = s.size - a := by simp
        refine condTI (decide_eq_true (by omega)) (thenI (at_v s a h (by omega)) (grdI (by omega) (grdI ⟨by simp only [pcG]; omega, by simp only [pcG]; omega⟩ ?_)))
        have := ih (a + (decodeL (s.data.toList.drop a)).2) (by omega) (by omega) (l ++ [pcG ⟨a, (decodeL (s.data.toList.drop a)).2, (decodeL (s.data.toList.drop a)).1⟩]) (by simp; omega)
        rw [pcsFrom_cons _ _ hne, List.drop_drop]
        rw [show ((a : Int) + (pcG ⟨a, (decodeL (s.data.toList.drop a)).2, (decodeL (s.data.toList.drop a)).1⟩).Width) = ((a + (decodeL (s.data.toList.drop a)).2 : Nat) : Int) by simp [pcG]]
        rw [← hg, this]; simp
      · refine condFI (decide_eq_false (by omega)) ?_
        have : s.data.toList.drop a = [] := List.drop_eq_nil_of_le (by simp; omega)
        rw [this, pcsFrom_nil]; simp
  exact key fuel 0 (by omega) (by unfold fuel; omega) [] (by simp)
end Go.Proofs.Ytgeefojgkbglnaa
