/-
  Texts laid together: PqD, PqE, LqE, LqB, Cb, LqG, PcW, Bytes, Bld, Gr, Bn, LqH, PqF, PqG, PqH, LqY. Nothing is assumed.
-/
import Derived.Test.YtgfkogafkhbgnaaDoorPoemReads4
import Derived.Test.YtgfkogafkhbgnaaDoorPoemReads2
import Derived.Test.YtgfkogafkhbgnaaDoorProg
import Derived.Test.YtgfkogafkhbgnaaDoorPoemReads1
import Derived.Lib.AppendStr
import Derived.Laws.IdiomStrings
import Derived.Lib.BufferRead
import Derived.Lib.Builder
import Derived.Outline
import Derived.Lib.UnsafeStr
import Derived.Lib.MakeNoZero
namespace Go.Proofs.YtgfkogafkhbgnaaDoor
open Go.RowKit Go.Lib
set_option linter.unusedVariables false
set_option linter.unusedSimpArgs false
/-! ### What lines are -/
theorem spP_ok (T : List UInt8) : ∀ (l : List UInt8) (p : Bool) (f a : Nat), T.drop a = l → f ≤ a → (p = true → l.head? = some 10 → f + 1 ≤ a) →
    (∀ b ∈ (T.drop f).take ((if p = true ∧ l.head? = some 10 then a - 1 else a) - f), isE b = false) → a ≤ T.length →
    ∀ x ∈ spP p f a l, x.1 ≤ x.2 ∧ x.2 ≤ T.length ∧ ∀ b ∈ (T.drop x.1).take (x.2 - x.1), isE b = false
  | [], p, f, a, hd, hf, hp, hb, ha => by
    intro x hx
    rw [spP, List.mem_singleton] at hx
    subst hx
    have : T.length ≤ a := List.drop_eq_nil_iff.1 hd
    refine ⟨hf, ha, ?_⟩
    rw [if_neg (by simp)] at hb
    exact hb
  | b :: t, p, f, a, hd, hf, hp, hb, ha => by
    intro x hx
    have hlt : a < T.length := by
      rcases Nat.lt_or_ge a T.length with h | h
      · exact h
      · rw [List.drop_eq_nil_of_le h] at hd; cases hd
    have hd1 := drop_next hd
    have hsnoc : ∀ f', f' ≤ a → (T.drop f').take (a + 1 - f') = (T.drop f').take (a - f') ++ [b] := fun f' hf' => by
      rw [show a + 1 - f' = (a - f') + 1 by omega, List.take_add_one, List.getElem?_drop, show f' + (a - f') = a by omega]
      have : T[a]? = some b := by
        have h0 : (T.drop a)[0]? = some b := by rw [hd]; rfl
        rw [List.getElem?_drop] at h0; exact h0
      rw [this]; rfl
    rw [spP] at hx
    by_cases h13 : b = 13
    · rw [if_pos h13] at hx
      have hne : ¬ (p = true ∧ (b :: t).head? = some 10) := by rw [h13]; simp
      rw [if_neg hne] at hb
      by_cases ht : t.head? = some 10
      · rw [if_pos ht] at hx
        refine spP_ok T t true f (a + 1) hd1 (by omega) (fun _ _ => by omega) ?_ (by omega) x hx
        rw [if_pos ⟨rfl, ht⟩]; exact hb
      · rw [if_neg ht] at hx
        rcases List.mem_cons.1 hx with rfl | hx
        · exact ⟨hf, ha, hb⟩
        · refine spP_ok T t true (a + 1) (a + 1) hd1 (Nat.le_refl _) (fun _ h => absurd h ht) ?_ (by omega) x hx
          rw [if_neg (fun h => ht h.2), Nat.sub_self, List.take_zero]
          intro y hy; cases hy
    · rw [if_neg h13] at hx
      by_cases h10 : b = 10
      · rw [if_pos h10] at hx
        rcases List.mem_cons.1 hx with rfl | hx
        · cases p with
          | true =>
            have := hp rfl (by rw [h10]; rfl)
            rw [if_pos ⟨rfl, by rw [h10]; rfl⟩] at hb
            exact ⟨by show f ≤ a - 1; omega, by show a - 1 ≤ _; omega, hb⟩
          | false =>
            rw [if_neg (by simp)] at hb
            exact ⟨hf, ha, hb⟩
        · refine spP_ok T t false (a + 1) (a + 1) hd1 (Nat.le_refl _) (fun h => by cases h) ?_ (by omega) x hx
          rw [if_neg (by simp), Nat.sub_self, List.take_zero]
          intro y hy; cases hy
      · rw [if_neg h10] at hx
        refine spP_ok T t false f (a + 1) hd1 (by omega) (fun h => by cases h) ?_ (by omega) x hx
        rw [if_neg (by simp), hsnoc f hf]
        have hne : ¬ (p = true ∧ (b :: t).head? = some 10) := fun h => h10 (Option.some.inj h.2)
        rw [if_neg hne] at hb
        intro y hy
        rcases List.mem_append.1 hy with hy | hy
        · exact hb y hy
        · rw [List.mem_singleton] at hy
          subst hy
          unfold isE
          rw [beq_eq_false_iff_ne.2 h13, beq_eq_false_iff_ne.2 h10]; rfl
theorem spans_ok (T : List UInt8) : ∀ x ∈ spansOf T, x.1 ≤ x.2 ∧ x.2 ≤ T.length ∧ ∀ b ∈ (T.drop x.1).take (x.2 - x.1), isE b = false :=
  spP_ok T T false 0 0 (List.drop_zero) (Nat.le_refl _) (fun h => by cases h) (by intro b hb; simp at hb) (Nat.zero_le _)
theorem spP_len : ∀ (l : List UInt8) (p : Bool) (f a : Nat), (spP p f a l).length ≤ l.length + 1
  | [], p, f, a => Nat.le_refl _
  | b :: t, p, f, a => by
    rw [spP, List.length_cons]
    split
    · split
      · have := spP_len t true f (a + 1); omega
      · rw [List.length_cons]; have := spP_len t true (a + 1) (a + 1); omega
    · split
      · rw [List.length_cons]; have := spP_len t false (a + 1) (a + 1); omega
      · have := spP_len t false f (a + 1); omega
/-- A text's lines: where each begins, and its bytes. -/
def items (T : List UInt8) : List (Nat × List UInt8) := (spansOf T).map fun x => (x.1, (T.drop x.1).take (x.2 - x.1))

/-! ### The fold -/
structure RS where
  t : List UInt8
  stz : List (List (List UInt8))
  vs : List Gapi_Verse
  first : Bool
  row : Bool
def lastL (z : List (List (List UInt8))) : List (List UInt8) := z.getLastD []
def open1 (st : RS) : List (List (List UInt8)) := if st.row then st.stz else st.stz ++ [[]]
def verseOf (f : Nat) (x : List UInt8) (z : List (List (List UInt8))) : Gapi_Verse := ⟨mkB (x.drop (ind x)), ind x, (z.length : Int) - 1, (lastL z).length, (f : Int) + ind x, ((f + x.length : Nat) : Int)⟩
def addV (st : RS) (f : Nat) (x : List UInt8) : RS :=
  ⟨st.t, (open1 st).dropLast ++ [lastL (open1 st) ++ [x]], st.vs ++ [verseOf f x (open1 st)], false, true⟩
def rstep (st : RS) (x : Nat × List UInt8) : Except Gapi_Spot RS :=
  if blank x.2 = true then .ok { st with row := false }
  else if 1024 < x.2.length then .error ⟨3, (x.1 : Int) + 1024⟩
  else if st.first = true ∧ titl x.2 = true then .ok { st with first := false, t := x.2.drop 2 }
  else if st.vs.length = 512 then .error ⟨3, x.1⟩
  else .ok (addV st x.1 x.2)
def rfold : RS → List (Nat × List UInt8) → Except Gapi_Spot RS
  | st, [] => .ok st
  | st, x :: xs => match rstep st x with
    | .ok st' => rfold st' xs
    | .error e => .error e
def rs0 : RS := ⟨[], [], [], true, false⟩
def rd (T : List UInt8) : Except Gapi_Spot RS := if 65536 < T.length then .error ⟨3, 65536⟩ else rfold rs0 (items T)
def tot (z : List (List (List UInt8))) : Nat := (z.map List.length).sum
def stSp : Nat → List (List (List UInt8)) → List Gapi_Span
  | _, [] => []
  | n, r :: rs => ⟨n, ((n + r.length : Nat) : Int)⟩ :: stSp (n + r.length) rs
theorem stSp_app : ∀ (a b : List (List (List UInt8))) (n : Nat), stSp n (a ++ b) = stSp n a ++ stSp (n + tot a) b
  | [], b, n => rfl
  | r :: a, b, n => by
    show _ :: stSp (n + r.length) (a ++ b) = _
    rw [stSp_app a b]
    have : n + tot (r :: a) = n + r.length + tot a := by unfold tot; rw [List.map_cons, List.sum_cons]; omega
    rw [this]; rfl
theorem stSp_len : ∀ (a : List (List (List UInt8))) (n : Nat), (stSp n a).length = a.length
  | [], n => rfl
  | r :: a, n => by rw [stSp, List.length_cons, List.length_cons, stSp_len a]
theorem tot_app (a b : List (List (List UInt8))) : tot (a ++ b) = tot a + tot b := by unfold tot; rw [List.map_append, List.sum_append]
theorem tot_one (r : List (List UInt8)) : tot [r] = r.length := by unfold tot; simp
theorem init_last {z : List (List (List UInt8))} (h : z ≠ []) : z = z.dropLast ++ [lastL z] := by
  unfold lastL
  rw [List.getLastD_eq_getLast?, List.getLast?_eq_some_getLast h]
  exact (List.dropLast_concat_getLast h).symm
structure RInv (st : RS) : Prop where
  tot : st.vs.length = tot st.stz
  row : st.row = true → st.stz ≠ []
  most : st.vs.length ≤ 512
  ne : ∀ r ∈ st.stz, r ≠ []
  t0 : st.first = true → st.t = []
theorem tot_ge : ∀ (z : List (List (List UInt8))), (∀ r ∈ z, r ≠ []) → z.length ≤ tot z
  | [], h => Nat.le_refl _
  | r :: z, h => by
    have h1 := tot_ge z fun y hy => h y (by simp [hy])
    have h2 : 0 < r.length := List.length_pos_iff.2 (h r (by simp))
    have : tot (r :: z) = r.length + tot z := by unfold tot; rw [List.map_cons, List.sum_cons]
    rw [this, List.length_cons]; omega
theorem RInv.stzLen {st : RS} (h : RInv st) : st.stz.length ≤ 512 := Nat.le_trans (tot_ge _ h.ne) (h.tot ▸ h.most)
theorem open1_ne {st : RS} (h : RInv st) : open1 st ≠ [] := by
  unfold open1
  split
  · rename_i hr; exact h.row hr
  · simp
theorem open1_len {st : RS} {n : Nat} (h : st.stz.length ≤ n) : (open1 st).length ≤ n + 1 := by
  unfold open1
  split
  · omega
  · rw [List.length_append, List.length_singleton]; omega
theorem open1_tot (st : RS) : tot (open1 st) = tot st.stz := by
  unfold open1
  split
  · rfl
  · rw [tot_app, tot_one]; rfl
theorem RInv.step {st st' : RS} {x : Nat × List UInt8} (h : RInv st) (hs : rstep st x = .ok st') : RInv st' := by
  unfold rstep at hs
  split at hs
  · cases hs; exact ⟨h.tot, (fun e => by cases e), h.most, h.ne, h.t0⟩
  · split at hs
    · cases hs
    · split at hs
      · cases hs; exact ⟨h.tot, h.row, h.most, h.ne, (fun e => by cases e)⟩
      · split at hs
        · cases hs
        · rename_i h512
          cases hs
          have e := init_last (open1_ne h)
          refine ⟨?_, (fun _ => by simp [addV]), ?_, ?_, (fun e => by cases e)⟩
          · show (st.vs ++ [_]).length = Go.Proofs.YtgfkogafkhbgnaaDoor.tot ((open1 st).dropLast ++ [lastL (open1 st) ++ [x.2]])
            have h2 := open1_tot st
            rw [e, tot_app, tot_one] at h2
            rw [tot_app, tot_one, List.length_append, List.length_append, List.length_singleton, List.length_singleton, h.tot, ← h2]
            omega
          · show (st.vs ++ [_]).length ≤ 512
            rw [List.length_append, List.length_singleton]
            have := h.most; omega
          · intro r hr
            rcases List.mem_append.1 hr with hr | hr
            · have hm : r ∈ open1 st := (List.dropLast_sublist _).mem hr
              unfold open1 at hm hr
              split at hm
              · exact h.ne r hm
              · rename_i hrow
                rw [if_neg hrow, List.dropLast_concat] at hr
                exact h.ne r hr
            · rw [List.mem_singleton] at hr
              subst hr; simp
theorem rs0_inv : RInv rs0 := ⟨rfl, (fun e => by cases e), Nat.zero_le _, (fun r hr => by cases hr), (fun _ => rfl)⟩
theorem RInv.fold : ∀ {xs : List (Nat × List UInt8)} {st st' : RS}, RInv st → rfold st xs = .ok st' → RInv st'
  | [], st, st', h, hs => by cases hs; exact h
  | x :: xs, st, st', h, hs => by
    unfold rfold at hs
    cases he : rstep st x with
    | ok s1 => rw [he] at hs; exact RInv.fold (h.step he) hs
    | error e => rw [he] at hs; cases hs
theorem set_last {α : Type} (a : List α) (x y : α) : (a ++ [x]).set a.length y = a ++ [y] := by simp
/-! ### The program -/
def mkZ (z : List (List (List UInt8))) : List (List ByteArray) := z.map (·.map mkB)
section
variable {T : List UInt8} {st : RS} {sp : Nat × Nat} {k : Nat}
theorem last_sp {st : RS} (h : RInv st) : ∃ init r, open1 st = init ++ [r] ∧ lastL (open1 st) = r ∧ (open1 st).dropLast = init ∧ tot init + r.length = st.vs.length ∧ stSp 0 (open1 st) = stSp 0 init ++ [⟨(tot init : Int), (st.vs.length : Int)⟩] := by
  have e := init_last (open1_ne h)
  refine ⟨_, _, e, rfl, rfl, ?_, ?_⟩
  · have h2 := open1_tot st
    rw [e, tot_app, tot_one] at h2
    rw [h.tot]; exact h2
  · have h2 := open1_tot st
    rw [e, tot_app, tot_one] at h2
    conv => lhs; rw [e]
    rw [stSp_app, Nat.zero_add]
    show _ ++ [(⟨(tot (open1 st).dropLast : Int), ((tot (open1 st).dropLast + (lastL (open1 st)).length : Nat) : Int)⟩ : Gapi_Span)] = _
    rw [h2, h.tot]
theorem read_step {J : ByteArray → (List Gapi_Verse) → (List Gapi_Span) → Option ((Option Gpoem_Poem) × Gapi_Spot)} {m : Gplace_Map} {n : Int} {ag : ByteArray → (List Gapi_Verse) → (List Gapi_Span) → Bool → Bool → Int → Option ((Option Gpoem_Poem) × Gapi_Spot)}
    (hT : T.length ≤ 65536) (hI : RInv st) (hk : (spansOf T)[k]? = some sp) (hm : m.lines.map spE = (spansOf T).map mkS) (hn : (k : Int) < n) :
    poem_Read_s1 (mkB T) J m n ag (mkB st.t) st.vs (stSp 0 st.stz) st.first st.row (k : Int) =
      match rstep st (sp.1, (T.drop sp.1).take (sp.2 - sp.1)) with
      | .error e => some (none, e)
      | .ok st' => ag (mkB st'.t) st'.vs (stSp 0 st'.stz) st'.first st'.row ((k + 1 : Nat) : Int) := by
  obtain ⟨h1, h2, _⟩ := spans_ok T sp (List.mem_of_getElem? hk)
  have hkl := (List.getElem?_eq_some_iff.1 hk).1
  have hkb := spP_len T false 0 0
  have hkb2 : (spansOf T).length ≤ T.length + 1 := hkb
  obtain ⟨q, hq, hqs⟩ : ∃ q, m.lines[k]? = some q ∧ spE q = mkS sp := by
    have h3 : (m.lines.map spE)[k]? = some (mkS sp) := by rw [hm, List.getElem?_map, hk]; rfl
    rw [List.getElem?_map] at h3
    obtain ⟨q, a, b⟩ := Option.map_eq_some_iff.1 h3
    exact ⟨q, a, b⟩
  have hlen : m.lines.length = (spansOf T).length := by have := congrArg List.length hm; simpa using this
  have hq1 : q.span_From = (sp.1 : Int) := congrArg Gapi_Span.From hqs
  have hq2 : q.span_To = (sp.2 : Int) := congrArg Gapi_Span.To hqs
  have hspan : place_Map_Span_v m (k : Int) = some ((⟨(sp.1 : Int), (sp.2 : Int)⟩ : Gapi_Span), q.end_, 0) := by
    unfold place_Map_Span_v
    refine condFI (decide_eq_false (by omega)) (condFI (decide_eq_false (by omega)) (thenI (getO_nat hq) ?_))
    rw [hq1, hq2]
  have hcut : cutB (mkB T) (sp.1 : Int) (sp.2 : Int) = mkB ((T.drop sp.1).take (sp.2 - sp.1)) := cutB_mk T sp.1 sp.2
  generalize hx : (T.drop sp.1).take (sp.2 - sp.1) = x at hcut ⊢
  have hxl : x.length = sp.2 - sp.1 := by rw [← hx, List.length_take, List.length_drop]; omega
  unfold poem_Read_s1
  refine condTI (decide_eq_true hn) (joinI (joinI (thenI hspan (grdI ⟨by show (0 : Int) ≤ (sp.1 : Int); omega, by show (sp.1 : Int) ≤ sp.2; omega, by show (sp.2 : Int) ≤ _; rw [mkB_size]; omega⟩ ?_))))
  show andThen (poem_empty_v (cutB (mkB T) (sp.1 : Int) (sp.2 : Int))) _ = _
  rw [hcut]
  refine thenI (empty_v x (by omega)) ?_
  unfold rstep
  have goOn : ∀ (a : ByteArray) (b : List Gapi_Verse) (c : List Gapi_Span) (d e : Bool), (grd (I64 ((k : Int) + 1)) <| ag a b c d e ((k : Int) + 1)) = ag a b c d e ((k + 1 : Nat) : Int) := fun a b c d e => grdI ⟨by omega, by omega⟩ (by rw [show (k : Int) + 1 = ((k + 1 : Nat) : Int) by omega])
  cases hb : blank x with
  | true =>
    rw [if_pos rfl]
    exact condTI rfl (goOn _ _ _ _ _)
  | false =>
    rw [if_neg (by decide)]
    refine condFI rfl ?_
    by_cases hbig : 1024 < x.length
    · rw [if_pos hbig]
      exact condTI (decide_eq_true (by rw [mkB_size]; omega)) (grdI ⟨by show _ ≤ (sp.1 : Int) + 1024; omega, by show (sp.1 : Int) + 1024 ≤ _; omega⟩ rfl)
    · rw [if_neg hbig]
      refine condFI (decide_eq_false (by rw [mkB_size]; omega)) ?_
      have h512 := hI.most
      -- the line is one of verse
      have verse : ¬ (st.first = true ∧ titl x = true) → (bcond (((st.vs.length : Int) : Int) == 512) (some (none, (⟨3, (sp.1 : Int)⟩ : Gapi_Spot))) (joinK (fun (j4 : (List Gapi_Span) → Option ((Option Gpoem_Poem) × Gapi_Spot)) =>
          bcond (!st.row) (grd ((stSp 0 st.stz).length + 1 ≤ 2147483648) <| j4 (stSp 0 st.stz ++ [(⟨(st.vs.length : Int), (st.vs.length : Int)⟩ : Gapi_Span)])) (j4 (stSp 0 st.stz))) (fun (p20 : List Gapi_Span) =>
            grd (I64 ((p20.length : Int) - 1)) <|
            andThen (getO p20 ((p20.length : Int) - 1)) fun (q1 : Gapi_Span) =>
            andThen (poem_indent_v (mkB x)) fun (r7 : Int) =>
            grd (0 ≤ (r7 : Int) ∧ (r7 : Int) ≤ ((mkB x).size : Int) ∧ (((mkB x).size : Int) : Int) ≤ ((mkB x).size : Int)) <|
            grd (I64 ((p20.length : Int) - 1)) <|
            grd (I64 ((st.vs.length : Int) - q1.From)) <|
            grd (I64 ((sp.1 : Int) + r7)) <|
            grd (st.vs.length + 1 ≤ 2147483648) <|
            grd (I64 ((st.vs.length : Int) + 1)) <|
            (grd (I64 ((k : Int) + 1)) <| ag (mkB st.t) (st.vs ++ [(⟨cutB (mkB x) r7 ((mkB x).size : Int), r7, (p20.length : Int) - 1, (st.vs.length : Int) - q1.From, (sp.1 : Int) + r7, (sp.2 : Int)⟩ : Gapi_Verse)]) (p20.set ((p20.length : Int) - 1 : Int).toNat (⟨q1.From, (st.vs.length : Int) + 1⟩ : Gapi_Span)) false true ((k : Int) + 1))))) =
          match (if st.vs.length = 512 then Except.error (⟨3, (sp.1 : Int)⟩ : Gapi_Spot) else Except.ok (addV st sp.1 x)) with
          | .error e => some (none, e)
          | .ok st' => ag (mkB st'.t) st'.vs (stSp 0 st'.stz) st'.first st'.row ((k + 1 : Nat) : Int) := fun hnt => by
        by_cases hfull : st.vs.length = 512
        · rw [if_pos hfull]; exact condTI (beq_iff_eq.2 (by omega)) rfl
        · rw [if_neg hfull]
          refine condFI (beq_eq_false_iff_ne.2 (by omega)) (joinI ?_)
          obtain ⟨init, r, he, hl, hdl, htot, hsp⟩ := last_sp hI
          have hzl := hI.stzLen
          have hol : (open1 st).length ≤ 513 := open1_len hzl
          have hil : init.length + 1 = (open1 st).length := by rw [he]; simp
          have tail : ∀ p20 : List Gapi_Span, p20 = stSp 0 (open1 st) → (grd (I64 ((p20.length : Int) - 1)) <|
            andThen (getO p20 ((p20.length : Int) - 1)) fun (q1 : Gapi_Span) =>
            andThen (poem_indent_v (mkB x)) fun (r7 : Int) =>
            grd (0 ≤ (r7 : Int) ∧ (r7 : Int) ≤ ((mkB x).size : Int) ∧ (((mkB x).size : Int) : Int) ≤ ((mkB x).size : Int)) <|
            grd (I64 ((p20.length : Int) - 1)) <|
            grd (I64 ((st.vs.length : Int) - q1.From)) <|
            grd (I64 ((sp.1 : Int) + r7)) <|
            grd (st.vs.length + 1 ≤ 2147483648) <|
            grd (I64 ((st.vs.length : Int) + 1)) <|
            (grd (I64 ((k : Int) + 1)) <| ag (mkB st.t) (st.vs ++ [(⟨cutB (mkB x) r7 ((mkB x).size : Int), r7, (p20.length : Int) - 1, (st.vs.length : Int) - q1.From, (sp.1 : Int) + r7, (sp.2 : Int)⟩ : Gapi_Verse)]) (p20.set ((p20.length : Int) - 1 : Int).toNat (⟨q1.From, (st.vs.length : Int) + 1⟩ : Gapi_Span)) false true ((k : Int) + 1))) =
              ag (mkB (addV st sp.1 x).t) (addV st sp.1 x).vs (stSp 0 (addV st sp.1 x).stz) (addV st sp.1 x).first (addV st sp.1 x).row ((k + 1 : Nat) : Int) := fun p20 hp => by
            have hpl : p20.length = (open1 st).length := by rw [hp, stSp_len]
            have hg : getO p20 ((p20.length : Int) - 1) = some ⟨(tot init : Int), (st.vs.length : Int)⟩ := by
              refine getO_of (n := init.length) (by omega) ?_
              rw [hp, hsp, List.getElem?_append_right (by rw [stSp_len]; exact Nat.le_refl _), stSp_len, Nat.sub_self]; rfl
            have hind := ind_le x
            refine grdI ⟨by omega, by omega⟩ (thenI hg (thenI (indent_v x (by omega)) (grdI ⟨by omega, by rw [mkB_size]; omega, by omega⟩ (grdI ⟨by omega, by omega⟩ (grdI ⟨by show _ ≤ (st.vs.length : Int) - (tot init : Int); omega, by show (st.vs.length : Int) - (tot init : Int) ≤ _; omega⟩ (grdI ⟨by omega, by omega⟩ (grdI (by omega) (grdI ⟨by omega, by omega⟩ ?_))))))))
            refine (goOn _ _ _ _ _).trans ?_
            have e1 : (p20.set ((p20.length : Int) - 1 : Int).toNat (⟨(tot init : Int), (st.vs.length : Int) + 1⟩ : Gapi_Span)) = stSp 0 (addV st sp.1 x).stz := by
              rw [show ((p20.length : Int) - 1 : Int).toNat = (stSp 0 init).length by rw [stSp_len]; omega, hp, hsp, set_last]
              show _ = stSp 0 ((open1 st).dropLast ++ [lastL (open1 st) ++ [x]])
              rw [hdl, hl, stSp_app, Nat.zero_add]
              show _ = _ ++ [(⟨(tot init : Int), ((tot init + (r ++ [x]).length : Nat) : Int)⟩ : Gapi_Span)]
              rw [List.length_append, List.length_singleton]
              congr 3
              omega
            have e2 : (⟨cutB (mkB x) (ind x : Int) ((mkB x).size : Int), (ind x : Int), (p20.length : Int) - 1, (st.vs.length : Int) - (tot init : Int), (sp.1 : Int) + (ind x : Int), (sp.2 : Int)⟩ : Gapi_Verse) = verseOf sp.1 x (open1 st) := by
              unfold verseOf
              rw [cutB_to, hpl, hl]
              congr 1
              · omega
              · omega
            show ag _ (st.vs ++ [_]) _ _ _ _ = _
            rw [e2]
            show ag _ _ (p20.set _ _) _ _ _ = _
            rw [e1]
            rfl
          cases hr : st.row with
          | true =>
            refine condFI rfl ?_
            exact tail _ (by unfold open1; rw [hr]; rfl)
          | false =>
            refine condTI rfl (grdI (by rw [stSp_len]; omega) ?_)
            refine tail _ ?_
            unfold open1; rw [hr, if_neg (by decide), stSp_app, Nat.zero_add, ← hI.tot]
            rfl
      cases hf : st.first with
      | true =>
        refine condTI rfl (thenI (titled_v x) ?_)
        cases ht : titl x with
        | true =>
          rw [if_pos ⟨rfl, rfl⟩]
          have hx1 : 1 ≤ x.length := by
            cases x with
            | nil => cases ht
            | cons b t => simp
          refine condTI rfl (grdI ⟨by omega, by rw [mkB_size]; omega, by omega⟩ (thenI (a := mkB (x.drop 2)) ?_ (goOn _ _ _ _ _)))
          have := cutB_to x 1
          rw [show ((1 : Nat) : Int) = 1 from rfl] at this
          rw [this]
          exact trimp_v x ht
        | false =>
          rw [if_neg (by simp)]
          refine condFI rfl ?_
          exact verse (by rw [ht]; simp)
      | false =>
        rw [if_neg (by simp)]
        refine condFI rfl ?_
        exact verse (by rw [hf]; simp)
end
theorem read_loop {T : List UInt8} {J : ByteArray → (List Gapi_Verse) → (List Gapi_Span) → Option ((Option Gpoem_Poem) × Gapi_Spot)} {m : Gplace_Map} (hT : T.length ≤ 65536) (hm : m.lines.map spE = (spansOf T).map mkS) :
    ∀ (n k : Nat) (st : RS), RInv st → k ≤ (spansOf T).length → (spansOf T).length - k < n →
      loopG (fun _ _ _ _ _ _ => none) (poem_Read_s1 (mkB T) J m (m.lines.length : Int)) n (mkB st.t) st.vs (stSp 0 st.stz) st.first st.row (k : Int) =
        match rfold st ((items T).drop k) with
        | .error e => some (none, e)
        | .ok st' => J (mkB st'.t) st'.vs (stSp 0 st'.stz) := by
  have hlen : m.lines.length = (spansOf T).length := by have := congrArg List.length hm; simpa using this
  intro n
  induction n with
  | zero => intro k st h1 h2 h3; omega
  | succ n ih =>
    intro k st hI hk hn
    rw [loopG_succ]
    obtain ⟨ag, hag⟩ : ∃ ag, ag = loopG (fun _ _ _ _ _ _ => none) (poem_Read_s1 (mkB T) J m (m.lines.length : Int)) n := ⟨_, rfl⟩
    rw [← hag] at ih ⊢
    rcases Nat.lt_or_ge k (spansOf T).length with h | h
    · obtain ⟨sp, hsp⟩ : ∃ sp, (spansOf T)[k]? = some sp := ⟨_, List.getElem?_eq_getElem h⟩
      rw [read_step hT hI hsp hm (by omega)]
      have hi : (items T).drop k = (sp.1, (T.drop sp.1).take (sp.2 - sp.1)) :: (items T).drop (k + 1) := by
        have hl : k < (items T).length := by unfold items; rw [List.length_map]; exact h
        rw [List.drop_eq_getElem_cons hl]
        congr 1
        have : (items T)[k]? = some (sp.1, (T.drop sp.1).take (sp.2 - sp.1)) := by unfold items; rw [List.getElem?_map, hsp]; rfl
        rw [List.getElem?_eq_getElem hl] at this
        exact Option.some.inj this
      rw [hi, rfold]
      cases hs : rstep st (sp.1, (T.drop sp.1).take (sp.2 - sp.1)) with
      | error e => rfl
      | ok st' => exact ih (k + 1) st' (hI.step hs) (by omega) (by omega)
    · rw [List.drop_eq_nil_of_le (by unfold items; rw [List.length_map]; exact h)]
      unfold poem_Read_s1
      exact condFI (decide_eq_false (by omega)) rfl
/-- What poem.Read answers. -/
theorem read_v (T : List UInt8) : poem_Read_v (mkB T) = match rd T with
    | .error e => some (none, e)
    | .ok st => some (some (⟨mkB st.t, st.vs, stSp 0 st.stz, mkB T⟩ : Gpoem_Poem), (⟨0, 0⟩ : Gapi_Spot)) := by
  unfold poem_Read_v rd
  by_cases h : 65536 < T.length
  · rw [if_pos h]
    exact thenI (new_long _ (by rw [mkB_size]; exact h)) (condTI rfl rfl)
  · rw [if_neg h]
    obtain ⟨m, h1, h2, h3⟩ := new_v (mkB T) (by rw [mkB_size]; omega)
    refine thenI h1 (condFI rfl (joinI (thenI rfl (thenI rfl ?_))))
    have hl := spP_len T false 0 0
    have hl2 : (spansOf T).length ≤ T.length + 1 := hl
    have := read_loop (J := fun (p1 : ByteArray) (p2 : List Gapi_Verse) (p3 : List Gapi_Span) => some ((some (⟨p1, p2, p3, mkB T⟩ : Gpoem_Poem)), (⟨0, 0⟩ : Gapi_Spot))) (T := T) (m := m) (by omega) h3 fuel 0 rs0 rs0_inv (Nat.zero_le _) (by unfold fuel; omega)
    rw [List.drop_zero] at this
    exact this
end Go.Proofs.YtgfkogafkhbgnaaDoor
namespace Go.Proofs.YtgfkogafkhbgnaaDoor
open Go.RowKit Go.Lib
set_option linter.unusedVariables false
set_option linter.unusedSimpArgs false
theorem mkZ_app (a b : List (List (List UInt8))) : mkZ (a ++ b) = mkZ a ++ mkZ b := List.map_append
theorem mkZ_len (a : List (List (List UInt8))) : (mkZ a).length = a.length := List.length_map ..
section
variable {T : List UInt8} {st : RS} {sp : Nat × Nat} {k : Nat}
theorem refread_step {J : ByteArray → (List (List ByteArray)) → (List Gapi_Verse) → Option (Gref17_Poem × (List Gapi_Verse) × Gapi_Spot)} {ag : ByteArray → (List (List ByteArray)) → (List Gapi_Verse) → Bool → Bool → Int → Option (Gref17_Poem × (List Gapi_Verse) × Gapi_Spot)}
    (hT : T.length ≤ 65536) (hI : RInv st) (hk : (spansOf T)[k]? = some sp) :
    ref17_Read_s1 (mkB T) J ((spansOf T).map mkS) ag (mkB st.t) (mkZ st.stz) st.vs st.first st.row (k : Int) =
      match rstep st (sp.1, (T.drop sp.1).take (sp.2 - sp.1)) with
      | .error e => some ((⟨ByteArray.empty, ([] : List (List ByteArray))⟩ : Gref17_Poem), ([] : List Gapi_Verse), e)
      | .ok st' => ag (mkB st'.t) (mkZ st'.stz) st'.vs st'.first st'.row ((k + 1 : Nat) : Int) := by
  obtain ⟨h1, h2, _⟩ := spans_ok T sp (List.mem_of_getElem? hk)
  have hkl := (List.getElem?_eq_some_iff.1 hk).1
  have hkb := spP_len T false 0 0
  have hkb2 : (spansOf T).length ≤ T.length + 1 := hkb
  have hq : getO ((spansOf T).map mkS) (k : Int) = some (mkS sp) := getO_nat (by rw [List.getElem?_map, hk]; rfl)
  have hcut : cutB (mkB T) (sp.1 : Int) (sp.2 : Int) = mkB ((T.drop sp.1).take (sp.2 - sp.1)) := cutB_mk T sp.1 sp.2
  generalize hx : (T.drop sp.1).take (sp.2 - sp.1) = x at hcut ⊢
  have hxl : x.length = sp.2 - sp.1 := by rw [← hx, List.length_take, List.length_drop]; omega
  unfold ref17_Read_s1
  refine condTI (decide_eq_true (by rw [List.length_map]; omega)) (joinI (thenI hq (grdI ⟨by show (0 : Int) ≤ (sp.1 : Int); omega, by show (sp.1 : Int) ≤ sp.2; omega, by show (sp.2 : Int) ≤ _; rw [mkB_size]; omega⟩ ?_)))
  show andThen (ref17_Empty_v (cutB (mkB T) (sp.1 : Int) (sp.2 : Int))) _ = _
  have hcut2 : cutB (mkB T) (mkS sp).From (mkS sp).To = mkB x := hcut
  rw [hcut, hcut2]
  refine thenI (refempty_v x (by omega)) ?_
  unfold rstep
  have goOn : ∀ (a : ByteArray) (b : List (List ByteArray)) (c : List Gapi_Verse) (d e : Bool), (grd (I64 ((k : Int) + 1)) <| ag a b c d e ((k : Int) + 1)) = ag a b c d e ((k + 1 : Nat) : Int) := fun a b c d e => grdI ⟨by omega, by omega⟩ (by rw [show (k : Int) + 1 = ((k + 1 : Nat) : Int) by omega])
  cases hb : blank x with
  | true =>
    rw [if_pos rfl]
    exact condTI rfl (goOn _ _ _ _ _)
  | false =>
    rw [if_neg (by decide)]
    refine condFI rfl ?_
    by_cases hbig : 1024 < x.length
    · rw [if_pos hbig]
      exact condTI (decide_eq_true (by rw [mkB_size]; omega)) (grdI ⟨by show _ ≤ (sp.1 : Int) + 1024; omega, by show (sp.1 : Int) + 1024 ≤ _; omega⟩ rfl)
    · rw [if_neg hbig]
      refine condFI (decide_eq_false (by rw [mkB_size]; omega)) ?_
      have h512 := hI.most
      have verse : ∀ Z : Option (Gref17_Poem × (List Gapi_Verse) × Gapi_Spot), Z = (bcond (((st.vs.length : Int) : Int) == 512) (some ((⟨ByteArray.empty, ([] : List (List ByteArray))⟩ : Gref17_Poem), ([] : List Gapi_Verse), (⟨3, (mkS sp).From⟩ : Gapi_Spot))) (joinK (fun (j5 : (List (List ByteArray)) → Option (Gref17_Poem × (List Gapi_Verse) × Gapi_Spot)) =>
          bcond (!st.row) (grd ((mkZ st.stz).length + 1 ≤ 2147483648) <| j5 (mkZ st.stz ++ [([] : List ByteArray)])) (j5 (mkZ st.stz))) (fun (p15 : List (List ByteArray)) =>
            grd (I64 ((p15.length : Int) - 1)) <|
            andThen (ref17_Indent_v (mkB x)) fun (r4 : Int) =>
            grd (0 ≤ (r4 : Int) ∧ (r4 : Int) ≤ ((mkB x).size : Int) ∧ (((mkB x).size : Int) : Int) ≤ ((mkB x).size : Int)) <|
            andThen (ref17_Indent_v (mkB x)) fun (r5 : Int) =>
            andThen (getO p15 ((p15.length : Int) - 1)) fun (x1 : List ByteArray) =>
            andThen (ref17_Indent_v (mkB x)) fun (r6 : Int) =>
            grd (I64 ((mkS sp).From + r6)) <|
            grd (st.vs.length + 1 ≤ 2147483648) <|
            andThen (getO p15 ((p15.length : Int) - 1)) fun (x2 : List ByteArray) =>
            grd (x2.length + 1 ≤ 2147483648) <|
            (grd (I64 ((k : Int) + 1)) <| ag (mkB st.t) (p15.set ((p15.length : Int) - 1 : Int).toNat (x2 ++ [mkB x])) (st.vs ++ [(⟨cutB (mkB x) r4 ((mkB x).size : Int), r5, (p15.length : Int) - 1, (x1.length : Int), (mkS sp).From + r6, (mkS sp).To⟩ : Gapi_Verse)]) false true ((k : Int) + 1))))) →
          ¬ (st.first = true ∧ titl x = true) → Z =
          match (if st.vs.length = 512 then Except.error (⟨3, (sp.1 : Int)⟩ : Gapi_Spot) else Except.ok (addV st sp.1 x)) with
          | .error e => some ((⟨ByteArray.empty, ([] : List (List ByteArray))⟩ : Gref17_Poem), ([] : List Gapi_Verse), e)
          | .ok st' => ag (mkB st'.t) (mkZ st'.stz) st'.vs st'.first st'.row ((k + 1 : Nat) : Int) := fun Z hZ hnt => by
        rw [hZ]
        by_cases hfull : st.vs.length = 512
        · rw [if_pos hfull]; exact condTI (beq_iff_eq.2 (by omega)) rfl
        · rw [if_neg hfull]
          refine condFI (beq_eq_false_iff_ne.2 (by omega)) (joinI ?_)
          obtain ⟨init, r, he, hl, hdl, htot, hsp⟩ := last_sp hI
          have hzl := hI.stzLen
          have hol : (open1 st).length ≤ 513 := open1_len hzl
          have hil : init.length + 1 = (open1 st).length := by rw [he]; simp
          have tail : ∀ p15 : List (List ByteArray), p15 = mkZ (open1 st) → (grd (I64 ((p15.length : Int) - 1)) <|
            andThen (ref17_Indent_v (mkB x)) fun (r4 : Int) =>
            grd (0 ≤ (r4 : Int) ∧ (r4 : Int) ≤ ((mkB x).size : Int) ∧ (((mkB x).size : Int) : Int) ≤ ((mkB x).size : Int)) <|
            andThen (ref17_Indent_v (mkB x)) fun (r5 : Int) =>
            andThen (getO p15 ((p15.length : Int) - 1)) fun (x1 : List ByteArray) =>
            andThen (ref17_Indent_v (mkB x)) fun (r6 : Int) =>
            grd (I64 ((mkS sp).From + r6)) <|
            grd (st.vs.length + 1 ≤ 2147483648) <|
            andThen (getO p15 ((p15.length : Int) - 1)) fun (x2 : List ByteArray) =>
            grd (x2.length + 1 ≤ 2147483648) <|
            (grd (I64 ((k : Int) + 1)) <| ag (mkB st.t) (p15.set ((p15.length : Int) - 1 : Int).toNat (x2 ++ [mkB x])) (st.vs ++ [(⟨cutB (mkB x) r4 ((mkB x).size : Int), r5, (p15.length : Int) - 1, (x1.length : Int), (mkS sp).From + r6, (mkS sp).To⟩ : Gapi_Verse)]) false true ((k : Int) + 1))) =
              ag (mkB (addV st sp.1 x).t) (mkZ (addV st sp.1 x).stz) (addV st sp.1 x).vs (addV st sp.1 x).first (addV st sp.1 x).row ((k + 1 : Nat) : Int) := fun p15 hp => by
            have hpl : p15.length = (open1 st).length := by rw [hp, mkZ_len]
            have hg : getO p15 ((p15.length : Int) - 1) = some (r.map mkB) := by
              refine getO_of (n := init.length) (by omega) ?_
              rw [hp, he, mkZ_app, List.getElem?_append_right (by rw [mkZ_len]; exact Nat.le_refl _), mkZ_len, Nat.sub_self]; rfl
            have hind := ind_le x
            refine grdI ⟨by omega, by omega⟩ (thenI (refindent_v x (by omega)) (grdI ⟨by omega, by rw [mkB_size]; omega, by omega⟩ (thenI (refindent_v x (by omega)) (thenI hg (thenI (refindent_v x (by omega)) (grdI ⟨by show _ ≤ (sp.1 : Int) + _; omega, by show (sp.1 : Int) + _ ≤ _; omega⟩ (grdI (by omega) (thenI hg (grdI (by rw [List.length_map]; omega) ?_)))))))))
            refine (goOn _ _ _ _ _).trans ?_
            have e1 : (p15.set ((p15.length : Int) - 1 : Int).toNat (r.map mkB ++ [mkB x])) = mkZ (addV st sp.1 x).stz := by
              rw [show ((p15.length : Int) - 1 : Int).toNat = (mkZ init).length by rw [mkZ_len]; omega, hp, he, mkZ_app]
              show ((mkZ init ++ [r.map mkB]).set _ _) = mkZ ((open1 st).dropLast ++ [lastL (open1 st) ++ [x]])
              rw [set_last, hdl, hl, mkZ_app]
              show _ = _ ++ [(r ++ [x]).map mkB]
              rw [List.map_append]; rfl
            have e2 : (⟨cutB (mkB x) (ind x : Int) ((mkB x).size : Int), (ind x : Int), (p15.length : Int) - 1, ((r.map mkB).length : Int), (mkS sp).From + (ind x : Int), (mkS sp).To⟩ : Gapi_Verse) = verseOf sp.1 x (open1 st) := by
              unfold verseOf
              rw [cutB_to, hpl, hl, List.length_map]
              congr 1
              show (sp.2 : Int) = _
              omega
            rw [e2, e1]
            rfl
          cases hr : st.row with
          | true =>
            refine condFI rfl ?_
            exact tail _ (by unfold open1; rw [hr]; rfl)
          | false =>
            refine condTI rfl (grdI (by rw [mkZ_len]; omega) ?_)
            refine tail _ ?_
            unfold open1; rw [hr, if_neg (by decide), mkZ_app]
            rfl
      refine joinI ?_
      cases hf : st.first with
      | true =>
        refine condTI rfl (thenI (reftitled_v x) ?_)
        cases ht : titl x with
        | true =>
          rw [if_pos ⟨rfl, rfl⟩]
          refine condTI rfl (joinI ?_)
          by_cases h2l : 2 < x.length
          · refine condTI (decide_eq_true (by rw [mkB_size]; omega)) (grdI ⟨by omega, by rw [mkB_size]; omega, by omega⟩ ?_)
            have := cutB_to x 2
            rw [show ((2 : Nat) : Int) = 2 from rfl] at this
            rw [this]
            exact goOn _ _ _ _ _
          · refine condFI (decide_eq_false (by rw [mkB_size]; omega)) ?_
            rw [hI.t0 hf, List.drop_eq_nil_of_le (by show x.length ≤ 2; omega)]
            exact goOn _ _ _ _ _
        | false =>
          rw [if_neg (by simp)]
          refine condFI rfl ?_
          exact verse _ rfl (by rw [ht]; simp)
      | false =>
        rw [if_neg (by simp)]
        refine condFI rfl ?_
        exact verse _ rfl (by rw [hf]; simp)
end
theorem refread_loop {T : List UInt8} {J : ByteArray → (List (List ByteArray)) → (List Gapi_Verse) → Option (Gref17_Poem × (List Gapi_Verse) × Gapi_Spot)} (hT : T.length ≤ 65536) :
    ∀ (n k : Nat) (st : RS), RInv st → k ≤ (spansOf T).length → (spansOf T).length - k < n →
      loopG (fun _ _ _ _ _ _ => none) (ref17_Read_s1 (mkB T) J ((spansOf T).map mkS)) n (mkB st.t) (mkZ st.stz) st.vs st.first st.row (k : Int) =
        match rfold st ((items T).drop k) with
        | .error e => some ((⟨ByteArray.empty, ([] : List (List ByteArray))⟩ : Gref17_Poem), ([] : List Gapi_Verse), e)
        | .ok st' => J (mkB st'.t) (mkZ st'.stz) st'.vs := by
  intro n
  induction n with
  | zero => intro k st h1 h2 h3; omega
  | succ n ih =>
    intro k st hI hk hn
    rw [loopG_succ]
    obtain ⟨ag, hag⟩ : ∃ ag, ag = loopG (fun _ _ _ _ _ _ => none) (ref17_Read_s1 (mkB T) J ((spansOf T).map mkS)) n := ⟨_, rfl⟩
    rw [← hag] at ih ⊢
    rcases Nat.lt_or_ge k (spansOf T).length with h | h
    · obtain ⟨sp, hsp⟩ : ∃ sp, (spansOf T)[k]? = some sp := ⟨_, List.getElem?_eq_getElem h⟩
      rw [refread_step hT hI hsp]
      have hi : (items T).drop k = (sp.1, (T.drop sp.1).take (sp.2 - sp.1)) :: (items T).drop (k + 1) := by
        have hl : k < (items T).length := by unfold items; rw [List.length_map]; exact h
        rw [List.drop_eq_getElem_cons hl]
        congr 1
        have : (items T)[k]? = some (sp.1, (T.drop sp.1).take (sp.2 - sp.1)) := by unfold items; rw [List.getElem?_map, hsp]; rfl
        rw [List.getElem?_eq_getElem hl] at this
        exact Option.some.inj this
      rw [hi, rfold]
      cases hs : rstep st (sp.1, (T.drop sp.1).take (sp.2 - sp.1)) with
      | error e => rfl
      | ok st' => exact ih (k + 1) st' (hI.step hs) (by omega) (by omega)
    · rw [List.drop_eq_nil_of_le (by unfold items; rw [List.length_map]; exact h)]
      unfold ref17_Read_s1
      exact condFI (decide_eq_false (by rw [List.length_map]; omega)) rfl
/-- What reference 17's Read answers. -/
theorem refread_v (T : List UInt8) : ref17_Read_v (mkB T) = match rd T with
    | .error e => some ((⟨ByteArray.empty, ([] : List (List ByteArray))⟩ : Gref17_Poem), ([] : List Gapi_Verse), e)
    | .ok st => some ((⟨mkB st.t, mkZ st.stz⟩ : Gref17_Poem), st.vs, (⟨0, 0⟩ : Gapi_Spot)) := by
  unfold ref17_Read_v rd
  by_cases h : 65536 < T.length
  · rw [if_pos h]
    exact condTI (decide_eq_true (by rw [mkB_size]; omega)) rfl
  · rw [if_neg h]
    refine condFI (decide_eq_false (by rw [mkB_size]; omega)) (joinI (thenI (reflines_v _ (by rw [mkB_size]; omega)) ?_))
    have hl := spP_len T false 0 0
    have hl2 : (spansOf T).length ≤ T.length + 1 := hl
    have := refread_loop (J := fun (p1 : ByteArray) (p2 : List (List ByteArray)) (l1 : List Gapi_Verse) => some ((⟨p1, p2⟩ : Gref17_Poem), l1, (⟨0, 0⟩ : Gapi_Spot))) (T := T) (by omega) fuel 0 rs0 rs0_inv (Nat.zero_le _) (by unfold fuel; omega)
    rw [List.drop_zero] at this
    exact this
end Go.Proofs.YtgfkogafkhbgnaaDoor
namespace Go.Proofs.YtgfkogafkhbgnaaDoor
open Go.RowKit Go.Lib
set_option linter.unusedVariables false
set_option linter.unusedSimpArgs false
def poem_Poem_Each_1_s1 (c0 : Gpoem_Poem) (ag1 : Int → Option (List (Int × Gapi_Verse))) (x3 : Int) : Option (List (Int × Gapi_Verse)) :=
bcond (decide ((x3 : Int) < (c0.told_lines.length : Int))) (
andThen (getO c0.told_lines x3) fun (q1 : Gapi_Verse) =>
consO (x3, q1) <|
grd (I64 (x3 + 1)) <|
ag1 (x3 + 1)
) (
some []
)
def poem_Poem_Each_1_v (c0 : Gpoem_Poem) : Option (List (Int × Gapi_Verse)) :=
loopG (fun _ => none) (poem_Poem_Each_1_s1 c0) fuel 0
set_option maxRecDepth 100000 in
set_option maxHeartbeats 4000000 in
theorem poem_Poem_Each_1_itr {b_c0 p_c0 : Nat} {c0 : Gpoem_Poem} {c0_h0 c0_h1 : Hd} {xs : (List (Int × Gapi_Verse))} (h : poem_Poem_Each_1_v c0 = some xs) : ItrR Tryd.prog 52 [.pointer (some ⟨b_c0, 0, none⟩)] (fun q : Int × Gapi_Verse => [.int .i64 q.1, .agg #[.string q.2.Text, .int .i64 q.2.Indent, .int .i64 q.2.Stanza, .int .i64 q.2.In, .int .i64 q.2.Span_From, .int .i64 q.2.Span_To]]) xs [cells b_c0 [.pointer (some ⟨p_c0, 0, none⟩)] 23, cells p_c0 [.string c0.told_title, c0_h0.v, c0_h1.v, .string c0.source] 93, vec enc_Gapi_Verse 36 6 c0_h0.v c0.told_lines, vec enc_Gapi_Span 34 2 c0_h1.v c0.told_stanzas] := by
 unfold poem_Poem_Each_1_v at h
 refine ItrR.intro Tryd.func52 rfl Tryd.ntmps52 (by simp) ?_
 intro l w0 K I X hrd hy
 obtain ⟨r0, hx0⟩ : ∃ r, xs = [] ++ r := ⟨xs, rfl⟩
 have hr0 : xs = r0 := hx0
 rw [hr0] at h
 refine TC.seq (TC.seq (TC.region (TO.loadRd (i := 0) hrd rfl sc_23 rfl dc rfl rfl (TO.bin rfl dc rfl rfl (bin_ptrnileqlR Tryd.underlying23) (TO.nil (TX.next (TC.condF rfl (TC.skip (TX.next (TC.seq (TC.region (TO.loadRd (i := 0) hrd rfl sc_23 rfl dc rfl rfl (TO.nilCheck rfl dc rfl ?_)))))))))))))
 refine TO.fieldAddr fl_93_0 rfl dc rfl (show _ = 0 from rfl) (TO.fieldAddr fl_91_1 rfl dc rfl (show _ = 1 from rfl) (TO.loadRd (i := 1) hrd rfl sc_57 rfl dc rfl rfl (TO.lenVw (hrd.vw (i := 2) rfl) rfl dc rfl Tryd.underlying57 (TO.move rfl dc rfl (TO.nil (TX.next (TC.block ?_)))))))
 refine TC.loopD (β := Nat × Int × (List (Int × Gapi_Verse)) × (List (Int × Gapi_Verse))) (fun b => loopG (fun _ => none) (poem_Poem_Each_1_s1 c0) b.1 b.2.1 = some b.2.2.2 ∧ xs = b.2.2.1 ++ b.2.2.2) (fun b => []) (fun b => [(0, .func (.yield l) #[] #[]), (11, c0_h0.v), (12, .int .i64 (c0.told_lines.length : Int)), (13, .int .i64 b.2.1)]) (fun b => [I b.2.2.1]) (fun b => b.1) (fuel, 0, ([] : List (Int × Gapi_Verse)), r0) ⟨h, hx0⟩ rfl (Sbs.cons rfl (Sbs.cons rfl (Sbs.cons rfl (Sbs.cons rfl (Sbs.nil))))) (Splits.of [0] kr rfl) ?_
 rintro ⟨n1, x3, acc3, rr3⟩ ⟨h, hx3⟩
 cases n1 with
 | zero => exact noneE h
 | succ n1 =>
  obtain ⟨ag1, hag1⟩ : ∃ ag, ag = loopG (fun _ => none) (poem_Poem_Each_1_s1 c0) n1 := ⟨_, rfl⟩
  have h : poem_Poem_Each_1_s1 c0 ag1 x3 = some rr3 := by rw [hag1]; exact h
  unfold poem_Poem_Each_1_s1 at h
  show TC _ _ _ _ _ ([]) _ _ [(0, .func (.yield l) #[] #[]), (11, c0_h0.v), (12, .int .i64 (c0.told_lines.length : Int)), (13, .int .i64 x3)] [I acc3]
  refine TC.seq (TC.region (TO.bin rfl dc rfl rfl bin_lss (TO.nil (TX.next (TC.seq ?_)))))
  refine TC.condB rfl (fun hb1 => ?_) (fun hb1 => ?_)
  ·
   have h := condT hb1 h
   refine TC.skip (TX.next (TC.seq (TC.block (TC.seq (TC.region (TO.move rfl dc rfl ?_))))))
   obtain ⟨q1, hq1, h⟩ := andE h
   refine TO.indexVw (hrd.vw (i := 2) rfl) hq1 Tryd.underlying57 sz_36 rfl dc rfl rfl rfl (TO.loadsVecRd (m := 0 + (x3 : Int).toNat) (j := 0) (i := 2) (q := q1) (cs := [.string q1.Text, .int .i64 q1.Indent, .int .i64 q1.Stanza, .int .i64 q1.In, .int .i64 q1.Span_From, .int .i64 q1.Span_To]) hrd rfl rw_36 enc_Gapi_Verse_len rfl dc rfl (Vw.get (hrd.vw (i := 2) rfl) hq1) rfl rfl rfl ?_)
   refine TO.alloc zr_36 rfl dc (fun b1 => ?_)
   refine TO.assign rfl dc rfl (TO.stores (k := 1) (vs := [.string q1.Text, .int .i64 q1.Indent, .int .i64 q1.Stanza, .int .i64 q1.In, .int .i64 q1.Span_From, .int .i64 q1.Span_To]) (l' := [.string q1.Text, .int .i64 q1.Indent, .int .i64 q1.Stanza, .int .i64 q1.In, .int .i64 q1.Span_From, .int .i64 q1.Span_To]) sz_36 rfl rfl rfl rfl rfl (show _ ≤ _ by simp) rfl rfl ?_)
   show TO _ _ _ _ _ _ _ _ _ _ [I acc3, cells b1 [.string q1.Text, .int .i64 q1.Indent, .int .i64 q1.Stanza, .int .i64 q1.In, .int .i64 q1.Span_From, .int .i64 q1.Span_To] 36]
   refine TO.nil (TX.next (TC.seq (TC.region (TO.move rfl dc rfl (TO.move rfl dc rfl (TO.loads (k := 1) (cs := [.string q1.Text, .int .i64 q1.Indent, .int .i64 q1.Stanza, .int .i64 q1.In, .int .i64 q1.Span_From, .int .i64 q1.Span_To]) rw_36 rfl dc rfl rfl rfl rfl ?_))))))
   obtain ⟨rr4, hr1, h⟩ := consE h
   have hx4 : xs = acc3 ++ (x3, q1) :: rr4 := by rw [hx3, hr1]
   refine TO.yield hy rfl dc rfl hx4 rfl (k := 0) rfl ?_ ?_
   ·
    have hx5 : xs = (acc3 ++ [(x3, q1)]) ++ rr4 := by rw [hx4]; simp
    show TO _ _ _ _ _ _ _ _ _ _ [I (acc3 ++ [(x3, q1)]), cells b1 [.string q1.Text, .int .i64 q1.Indent, .int .i64 q1.Stanza, .int .i64 q1.In, .int .i64 q1.Span_From, .int .i64 q1.Span_To] 36]
    refine TO.un rfl dc rfl un_not (TO.nil (TX.next (TC.condF rfl (TC.skip (TX.blockNormal (TX.next (TC.region ?_)))))))
    obtain ⟨hg1, h⟩ := grdE h
    refine TO.bin rfl dc rfl rfl (bin_add (r := x3 + 1) (IntWalk.i64_in _ hg1)) (TO.move rfl dc rfl (TO.nil ?_))
    subst hag1
    exact TX.againD (n1, x3 + 1, acc3 ++ [(x3, q1)], rr4) ⟨h, hx5⟩ (Nat.lt_succ_self _) rfl (Sbs.cons rfl (Sbs.cons rfl (Sbs.cons rfl (Sbs.cons rfl (Sbs.nil))))) (Splits.of [0] kr rfl)
   ·
    show TO _ _ _ _ _ _ _ _ _ _ [X (acc3 ++ [(x3, q1)]), cells b1 [.string q1.Text, .int .i64 q1.Indent, .int .i64 q1.Stanza, .int .i64 q1.In, .int .i64 q1.Span_From, .int .i64 q1.Span_To] 36]
    refine TO.un rfl dc rfl un_not (TO.nil (TX.next (TC.condT rfl (TC.ret (TX.blockRet (TX.thenRet (TX.thenRet (TX.blockRet ?_))))))))
    exact TX.finX (ds := []) acc3 (x3, q1) rr4 hx4 (.inl rfl) Splits.nil Tryd.results52 (Splits.of [0] kr rfl)
  ·
   have h := condF hb1 h
   refine TC.exit (TX.thenExit (TX.thenExit (TX.blockHere ?_)))
   cases h
   exact TX.finY (ds := []) (.inr rfl) Splits.nil Tryd.results52 (congrArg I (hx3.trans (List.append_nil _))) (Splits.of [0] kr rfl)
def poem_Poem_Each_v (p1 : Gpoem_Poem) : Option Unit :=
some ()
set_option maxRecDepth 100000 in
set_option maxHeartbeats 4000000 in
theorem poem_Poem_Each_fn {bp1 : Nat} {p1 : Gpoem_Poem} {p1_h0 p1_h1 : Hd} {r : Unit} (h : poem_Poem_Each_v p1 = some r) : FnR Tryd.prog 14 [.pointer (some ⟨bp1, 0, none⟩)] [cells bp1 [.string p1.told_title, p1_h0.v, p1_h1.v, .string p1.source] 93, vec enc_Gapi_Verse 36 6 p1_h0.v p1.told_lines, vec enc_Gapi_Span 34 2 p1_h1.v p1.told_stanzas] [] (fun v0 : Nat => .func (.func 52) #[] #[.pointer (some ⟨v0, 0, none⟩)]) (fun v0 => [cells v0 [.pointer (some ⟨bp1, 0, none⟩)] 23]) := by
 unfold poem_Poem_Each_v at h
 refine FnR.intro Tryd.func14 rfl Tryd.ntmps14 (by simp) ?_
 intro w0 K hrd
 refine TC.seq (TC.region ?_)
 refine TO.box rfl dc rfl (fun b1 => ?_)
 refine TO.assign rfl dc rfl (TO.nil (TX.next (TC.seq (TC.region (TO.makeFunc (x1 := []) (x2 := [.tmp 1]) rfl dc rfl rfl (TO.assign rfl dc rfl (TO.nil (TX.next (TC.ret ?_)))))))))
 cases h
 exact TX.fin (rs := [.tmp 2]) b1 (.inl rfl) Tryd.results14 (.cons (.tmp rfl) .nil) rfl (Splits.of [0] kr rfl)
def poem_Poem_Find_s1 (at1 : Int) (e1 : Int → Int → Option (Int × Int × Int)) (x1 : Int × Gapi_Verse) (ag1 : Option (Int × Int × Int)) : Option (Int × Int × Int) :=
bcond (decide ((x1.2.Span_From : Int) ≤ at1)) (
bcond (decide ((at1 : Int) ≤ x1.2.Span_To)) (
grd (I64 (at1 - x1.2.Span_From)) <|
e1 x1.1 (at1 - x1.2.Span_From)
) (
ag1
)
) (
ag1
)
def poem_Poem_Find_v (p1 : Gpoem_Poem) (at1 : Int) : Option (Int × Int × Int) :=
bcond (decide ((at1 : Int) < 0)) (
some (0, 0, 5)
) (
bcond (decide (((p1.source.size : Int) : Int) < at1)) (
some (0, 0, 5)
) (
joinK (fun (j1 : Option (Int × Int × Int)) =>
andThen (poem_Poem_Each_v p1) fun (r1 : Unit) =>
andThen (poem_Poem_Each_1_v p1) fun (its1 : (List (Int × Gapi_Verse))) =>
joinK (fun (e1 : Int → Int → Option (Int × Int × Int)) =>
joinK (fun (d1 : Option (Int × Int × Int)) =>
rangeG d1 (poem_Poem_Find_s1 at1 e1) its1
) (
j1
)
) (fun (line1 : Int) (in1 : Int) =>
some (line1, in1, 0)
)
) (
some (0, 0, 4)
)
)
)
set_option maxRecDepth 100000 in
set_option maxHeartbeats 4000000 in
theorem poem_Poem_Find_fn {bp1 : Nat} {p1 : Gpoem_Poem} {p1_h0 p1_h1 : Hd} {at1 : Int} {r : (Int × Int × Int)} (h : poem_Poem_Find_v p1 at1 = some r) : FnR Tryd.prog 32 [.pointer (some ⟨bp1, 0, none⟩), .int .i64 at1] [cells bp1 [.string p1.told_title, p1_h0.v, p1_h1.v, .string p1.source] 93, vec enc_Gapi_Verse 36 6 p1_h0.v p1.told_lines, vec enc_Gapi_Span 34 2 p1_h1.v p1.told_stanzas] [] (fun _ : Unit => (.tuple #[.int .i64 r.1, .int .i64 r.2.1, .int .i64 r.2.2])) (fun _ => []) := by
 unfold poem_Poem_Find_v at h
 refine FnR.intro Tryd.func32 rfl Tryd.ntmps32 (by simp) ?_
 intro w0 K hrd
 refine TC.star0 ?_
 show TC _ _ _ _ _ _ _ _ _ [star ((([] : List Nat) : List Nat).map mark)]
 refine TC.seq (TC.region ?_)
 refine TO.box rfl dc rfl (fun b1 => ?_)
 refine TO.alloc zr_3 rfl dc (fun b2 => ?_)
 show TO _ _ _ _ _ _ _ _ _ _ [star ((([] : List Nat) : List Nat).map mark), cells b1 [.int .i64 at1] 3, cells b2 [.int .i64 0] 3]
 refine TO.alloc zr_3 rfl dc (fun b3 => ?_)
 refine TO.alloc zr_24 rfl dc (fun b4 => ?_)
 show TO _ _ _ _ _ _ _ _ _ _ [star ((([] : List Nat) : List Nat).map mark), cells b1 [.int .i64 at1] 3, cells b2 [.int .i64 0] 3, cells b3 [.int .i64 0] 3, cells b4 [.int .i64 0] 24]
 refine TO.nil (TX.next (TC.seq (TC.block (TC.seq (TC.region (TO.move rfl dc rfl (TO.bin rfl dc rfl rfl (bin_ptrnileqlR Tryd.underlying23) (TO.assign rfl dc rfl (TO.nil (TX.next (TC.condF rfl (TC.seq ?_))))))))))))
 refine TC.bySplit (b := decide ((at1 : Int) < 0)) (fun hb1 => ?_) (fun hb1 => ?_)
 ·
  have h := condT hb1 h
  refine TC.drawN 9 [(0, 13, .int .i64 at1), (1, 14, .bool true), (2, 15, .bool true), (3, 16, undef), (4, 17, undef), (5, 18, undef), (6, 19, undef), (7, 20, undef), (8, 21, undef)] mixed kr kr dc (by rfl) kr kr (DrawPre.cons ?_ (DrawPre.cons ?_ (DrawPre.cons ?_ (DrawPre.cons ?_ (DrawPre.cons ?_ (DrawPre.cons ?_ (DrawPre.cons ?_ (DrawPre.cons ?_ (DrawPre.cons ?_ DrawPre.nil))))))))) ?_
  ·
   intro D hn hd hcl hu hi
   refine TO.load (k := 1) sc_3 rfl dc (dl_old (by rfl) rfl) rfl rfl ?_
   exact TX.quiet 0 hu hi rfl
  ·
   intro D hn hd hcl hu hi
   refine TO.bin rfl dc (dl_lookup (m := 0) hu rfl (hd 0 dc)) rfl bin_lss (TO.rewH (show Value.bool (decide ((at1 : Int) < 0)) = Value.bool true from congrArg Value.bool hb1) ?_)
   exact TX.quiet 1 hu hi rfl
  ·
   intro D hn hd hcl hu hi
   refine TO.move rfl dc (dl_lookup (m := 1) hu rfl (hd 1 dc)) ?_
   exact TX.quiet 2 hu hi rfl
  ·
   intro D hn hd hcl hu hi
   refine TO.skip (gd_F rfl (dl_lookup (m := 2) hu rfl (hd 2 dc))) dc ?_
   exact TX.quiet 3 hu hi rfl
  ·
   intro D hn hd hcl hu hi
   refine TO.skip (gd_F rfl (dl_lookup (m := 2) hu rfl (hd 2 dc))) dc ?_
   exact TX.quiet 4 hu hi rfl
  ·
   intro D hn hd hcl hu hi
   refine TO.skip (gd_F rfl (dl_lookup (m := 2) hu rfl (hd 2 dc))) dc ?_
   exact TX.quiet 5 hu hi rfl
  ·
   intro D hn hd hcl hu hi
   refine TO.skip (gd_F rfl (dl_lookup (m := 2) hu rfl (hd 2 dc))) dc ?_
   exact TX.quiet 6 hu hi rfl
  ·
   intro D hn hd hcl hu hi
   refine TO.skip (gd_F rfl (dl_lookup (m := 2) hu rfl (hd 2 dc))) dc ?_
   exact TX.quiet 7 hu hi rfl
  ·
   intro D hn hd hcl hu hi
   refine TO.skip (gd_F rfl (dl_lookup (m := 2) hu rfl (hd 2 dc))) dc ?_
   exact TX.quiet 8 hu hi rfl
  refine TO.skip rfl dc (TO.pick (b := true) rfl dc rfl rfl (TO.assign rfl dc rfl (TO.nil (TX.next (TC.condT rfl (TC.seq (TC.region ?_)))))))
  refine TO.store (k := 2) (l' := [.int .i64 0]) sz_3 rfl rfl rfl rfl rfl (fun _ _ => rfl) rfl ?_
  refine TO.store (k := 3) (l' := [.int .i64 0]) sz_3 rfl rfl rfl rfl rfl (fun _ _ => rfl) rfl ?_
  show TO _ _ _ _ _ _ _ _ _ _ [star ((([] : List Nat) : List Nat).map mark), cells b1 [.int .i64 at1] 3, cells b2 [.int .i64 0] 3, cells b3 [.int .i64 0] 3, cells b4 [.int .i64 0] 24]
  refine TO.store (k := 4) (l' := [.int .i64 5]) sz_24 rfl rfl rfl rfl rfl (fun _ _ => rfl) rfl ?_
  refine TO.nil (TX.next (TC.ret (TX.blockRet (TX.thenRet ?_))))
  cases h
  exact TX.finM (rs := [.cell 4 3, .cell 5 3, .cell 6 24]) ([] : List Nat) () (.inl rfl) (Splits.open0 (k := 0) rfl) Tryd.results32 (.cons (.cell sc_3 (k := 2) rfl rfl) (.cons (.cell sc_3 (k := 3) rfl rfl) (.cons (.cell sc_24 (k := 4) rfl rfl) .nil))) rfl Splits.nil
 ·
  have h := condF hb1 h
  refine TC.drawN 9 [(0, 13, .int .i64 at1), (1, 14, .bool false), (2, 15, .bool false), (3, 16, .int .i64 at1), (4, 17, .pointer (some ⟨bp1, 0, none⟩)), (5, 18, .pointer (some ⟨bp1, 0, none⟩)), (6, 19, .pointer (some ⟨bp1, 3, none⟩)), (7, 20, .string p1.source), (8, 21, .int .i64 (p1.source.size : Int))] mixed kr kr dc (by rfl) kr kr (DrawPre.cons ?_ (DrawPre.cons ?_ (DrawPre.cons ?_ (DrawPre.cons ?_ (DrawPre.cons ?_ (DrawPre.cons ?_ (DrawPre.cons ?_ (DrawPre.cons ?_ (DrawPre.cons ?_ DrawPre.nil))))))))) ?_
  ·
   intro D hn hd hcl hu hi
   refine TO.load (k := 1) sc_3 rfl dc (dl_old (by rfl) rfl) rfl rfl ?_
   exact TX.quiet 0 hu hi rfl
  ·
   intro D hn hd hcl hu hi
   refine TO.bin rfl dc (dl_lookup (m := 0) hu rfl (hd 0 dc)) rfl bin_lss (TO.rewH (show Value.bool (decide ((at1 : Int) < 0)) = Value.bool false from congrArg Value.bool hb1) ?_)
   exact TX.quiet 1 hu hi rfl
  ·
   intro D hn hd hcl hu hi
   refine TO.move rfl dc (dl_lookup (m := 1) hu rfl (hd 1 dc)) ?_
   exact TX.quiet 2 hu hi rfl
  ·
   intro D hn hd hcl hu hi
   refine TO.load (k := 1) sc_3 (gd_T rfl (dl_lookup (m := 2) hu rfl (hd 2 dc))) dc (dl_old (by rfl) rfl) rfl rfl ?_
   exact TX.quiet 3 hu hi rfl
  ·
   intro D hn hd hcl hu hi
   refine TO.move (gd_T rfl (dl_lookup (m := 2) hu rfl (hd 2 dc))) dc (dl_old (by rfl) rfl) ?_
   exact TX.quiet 4 hu hi rfl
  ·
   intro D hn hd hcl hu hi
   refine TO.nilCheck (gd_T rfl (dl_lookup (m := 2) hu rfl (hd 2 dc))) dc (dl_lookup (m := 4) hu rfl (hd 4 dc)) ?_
   exact TX.quiet 5 hu hi rfl
  ·
   intro D hn hd hcl hu hi
   refine TO.fieldAddr fl_93_1 (gd_T rfl (dl_lookup (m := 2) hu rfl (hd 2 dc))) dc (dl_lookup (m := 5) hu rfl (hd 5 dc)) (show _ = 3 from rfl) ?_
   exact TX.quiet 6 hu hi rfl
  ·
   intro D hn hd hcl hu hi
   refine TO.loadRd (i := 0) hrd rfl sc_9 (gd_T rfl (dl_lookup (m := 2) hu rfl (hd 2 dc))) dc (dl_lookup (m := 6) hu rfl (hd 6 dc)) rfl ?_
   exact TX.quiet 7 hu hi rfl
  ·
   intro D hn hd hcl hu hi
   refine TO.lenStr (gd_T rfl (dl_lookup (m := 2) hu rfl (hd 2 dc))) dc (dl_lookup (m := 7) hu rfl (hd 7 dc)) Tryd.underlying9 ?_
   exact TX.quiet 8 hu hi rfl
  refine TO.bin rfl dc rfl rfl bin_gtr (TO.pick (b := false) rfl dc rfl rfl (TO.assign rfl dc rfl (TO.nil (TX.next ?_))))
  refine TC.condB rfl (fun hb2 => ?_) (fun hb2 => ?_)
  ·
   have h := condT hb2 h
   refine TC.seq (TC.region ?_)
   refine TO.store (k := 2) (l' := [.int .i64 0]) sz_3 rfl rfl rfl rfl rfl (fun _ _ => rfl) rfl ?_
   refine TO.store (k := 3) (l' := [.int .i64 0]) sz_3 rfl rfl rfl rfl rfl (fun _ _ => rfl) rfl ?_
   show TO _ _ _ _ _ _ _ _ _ _ [star ((([] : List Nat) : List Nat).map mark), cells b1 [.int .i64 at1] 3, cells b2 [.int .i64 0] 3, cells b3 [.int .i64 0] 3, cells b4 [.int .i64 0] 24]
   refine TO.store (k := 4) (l' := [.int .i64 5]) sz_24 rfl rfl rfl rfl rfl (fun _ _ => rfl) rfl ?_
   refine TO.nil (TX.next (TC.ret (TX.blockRet (TX.thenRet ?_))))
   cases h
   exact TX.finM (rs := [.cell 4 3, .cell 5 3, .cell 6 24]) ([] : List Nat) () (.inl rfl) (Splits.open0 (k := 0) rfl) Tryd.results32 (.cons (.cell sc_3 (k := 2) rfl rfl) (.cons (.cell sc_3 (k := 3) rfl rfl) (.cons (.cell sc_24 (k := 4) rfl rfl) .nil))) rfl Splits.nil
  ·
   have h := condF hb2 h
   refine TC.skip (TX.blockNormal (TX.next ?_))
   obtain ⟨j1, hj1, h⟩ := joinE h
   refine TC.cutN (β := (List Nat)) 0 rfl (fun b => j1 = some r) (fun b => marksOf b) (fun b => [(4, .pointer (some ⟨b2, 0, none⟩)), (5, .pointer (some ⟨b3, 0, none⟩)), (6, .pointer (some ⟨b4, 0, none⟩))]) (fun b => [cells b2 [.int .i64 0] 3, cells b3 [.int .i64 0] 3, cells b4 [.int .i64 0] 24, star ((b : List Nat).map mark)]) (fun cut => ?_) ?_
   ·
    refine cut (TC.seq (TC.region (TO.move rfl dc rfl ?_)))
    obtain ⟨r1, hq1, h⟩ := andE h
    refine TO.callR (vs := [.pointer (some ⟨bp1, 0, none⟩)]) hrd rfl dc rfl rfl rfl en_14 (poem_Poem_Each_fn (bp1 := bp1) (p1 := p1) (p1_h0 := p1_h0) (p1_h1 := p1_h1) hq1) Splits.nil (.ro 0 rfl (.ro 1 rfl (.ro 2 rfl .nil))) ?_
    rintro b5
    show TO _ _ _ _ _ _ _ _ _ _ [star ((([] : List Nat) : List Nat).map mark), cells b1 [.int .i64 at1] 3, cells b2 [.int .i64 0] 3, cells b3 [.int .i64 0] 3, cells b4 [.int .i64 0] 24, cells b5 [.pointer (some ⟨bp1, 0, none⟩)] 23]
    refine TO.weakenL (L' := [star ((([] : List Nat) : List Nat).map mark), cells b1 [.int .i64 at1] 3, cells b2 [.int .i64 0] 3, cells b3 [.int .i64 0] 3, cells b4 [.int .i64 0] 24, cells b5 [.pointer (some ⟨bp1, 0, none⟩)] 23]) (Splits.of [0, 1, 2, 3, 4, 5] kr rfl) (TO.nil (TX.next (TC.block ?_)))
    obtain ⟨its1, hq2, h⟩ := andE h
    obtain ⟨e1, he1, h⟩ := joinE h
    obtain ⟨d1, hd1, h⟩ := joinE h
    refine TC.rangeR (α := Int × Gapi_Verse) (β := Unit) (γ := (Int × Int)) (δ := Nat) (ps := [26, 27]) hrd Ro.nil rfl en_52 (poem_Poem_Each_1_itr hq2) (fun pre b => ∀ post, its1 = pre ++ post → rangeG d1 (poem_Poem_Find_s1 at1 e1) post = some r) (fun pre b => [cells b1 [.int .i64 at1] 3, cells b2 [.int .i64 0] 3, cells b3 [.int .i64 0] 3, cells b4 [.int .i64 0] 24]) (fun c pre g => (fun g => c = .ret ∧ e1 g.1 g.2 = some r) g) (fun c pre g => (fun g => [cells b1 [.int .i64 at1] 3, cells b2 [.int .i64 g.1] 3, cells b3 [.int .i64 g.2] 3, cells b4 [.int .i64 0] 24]) g) (fun pre x b j => [(3, .pointer (some ⟨b1, 0, none⟩)), (4, .pointer (some ⟨b2, 0, none⟩)), (5, .pointer (some ⟨b3, 0, none⟩)), (6, .pointer (some ⟨b4, 0, none⟩)), (25, .func (.func 52) #[] #[.pointer (some ⟨b5, 0, none⟩)]), (7, .int .i64 x.1), (8, .pointer (some ⟨j, 0, none⟩))]) (fun pre x b j => [cells b1 [.int .i64 at1] 3, cells b2 [.int .i64 0] 3, cells b3 [.int .i64 0] 3, cells b4 [.int .i64 0] 24, cells j [.string x.2.Text, .int .i64 x.2.Indent, .int .i64 x.2.Stanza, .int .i64 x.2.In, .int .i64 x.2.Span_From, .int .i64 x.2.Span_To] 36]) () (fun post e => by rw [List.nil_append] at e; subst e; exact h) (Splits.of [1, 2, 3, 4] kr rfl) (.own (Splits.of [5] (by kernel_rfl) rfl) (fun _ _ h => sepL.one1.1 h) (.ro 0 rfl (.ro 1 rfl (.ro 2 rfl .nil)))) (fun _ => rfl) dc ?_ ?_ ?_ ?_
    ·
     rintro lp rc pre x1 post _ w1 K1 hxs1 hext hro hinv
     have hrd := hrd.ext hext
     refine TC.seq (TC.region (TO.assign rfl dc rfl (TO.nil (TX.next (TC.region ?_)))))
     refine TO.alloc zr_36 rfl dc (fun b6 => ?_)
     refine TO.stores (k := 4) (vs := [.string x1.2.Text, .int .i64 x1.2.Indent, .int .i64 x1.2.Stanza, .int .i64 x1.2.In, .int .i64 x1.2.Span_From, .int .i64 x1.2.Span_To]) (l' := [.string x1.2.Text, .int .i64 x1.2.Indent, .int .i64 x1.2.Stanza, .int .i64 x1.2.In, .int .i64 x1.2.Span_From, .int .i64 x1.2.Span_To]) sz_36 rfl rfl rfl rfl rfl (show _ ≤ _ by simp) rfl rfl ?_
     show TO _ _ _ _ _ _ _ _ _ _ [cells b1 [.int .i64 at1] 3, cells b2 [.int .i64 0] 3, cells b3 [.int .i64 0] 3, cells b4 [.int .i64 0] 24, cells b6 [.string x1.2.Text, .int .i64 x1.2.Indent, .int .i64 x1.2.Stanza, .int .i64 x1.2.In, .int .i64 x1.2.Span_From, .int .i64 x1.2.Span_To] 36]
     refine TO.nil ?_
     exact fun a w ha hw => ⟨b6, (Sbs.cons rfl (Sbs.cons rfl (Sbs.cons rfl (Sbs.cons rfl (Sbs.cons rfl (Sbs.cons rfl (Sbs.cons rfl (Sbs.nil)))))))) _ _ _ ha, hw.weaken (Splits.of [0, 1, 2, 3, 4] kr rfl)⟩
    ·
     rintro lp rc pre x1 post1 _ jb1 w1 K1 hxs1 hext hro hinv
     have hrd := hrd.ext hext
     have h := hinv (x1 :: post1) hxs1
     obtain ⟨ag1, hag1⟩ : ∃ ag, ag = rangeG d1 (poem_Poem_Find_s1 at1 e1) post1 := ⟨_, rfl⟩
     have h : poem_Poem_Find_s1 at1 e1 x1 ag1 = some r := by rw [hag1]; exact h
     unfold poem_Poem_Find_s1 at h
     show TC _ _ _ _ _ _ _ _ [(3, .pointer (some ⟨b1, 0, none⟩)), (4, .pointer (some ⟨b2, 0, none⟩)), (5, .pointer (some ⟨b3, 0, none⟩)), (6, .pointer (some ⟨b4, 0, none⟩)), (25, .func (.func 52) #[] #[.pointer (some ⟨b5, 0, none⟩)]), (7, .int .i64 x1.1), (8, .pointer (some ⟨jb1, 0, none⟩))] [cells b1 [.int .i64 at1] 3, cells b2 [.int .i64 0] 3, cells b3 [.int .i64 0] 3, cells b4 [.int .i64 0] 24, cells jb1 [.string x1.2.Text, .int .i64 x1.2.Indent, .int .i64 x1.2.Stanza, .int .i64 x1.2.In, .int .i64 x1.2.Span_From, .int .i64 x1.2.Span_To] 36]
     refine TC.block (TC.seq (TC.region (TO.fieldAddr fl_36_4 rfl dc rfl (show _ = 4 from rfl) (TO.fieldAddr fl_34_0 rfl dc rfl (show _ = 4 from rfl) (TO.load (k := 4) sc_3 rfl dc rfl rfl rfl (TO.load (k := 0) sc_3 rfl dc rfl rfl rfl (TO.bin rfl dc rfl rfl bin_leq (TO.move rfl dc rfl ?_))))))))
     refine TO.split (s := 33) rfl (fun hb3 => ?_) (fun hb3 => ?_)
     ·
      have h := condT hb3 h
      refine TO.load (k := 0) sc_3 rfl dc rfl rfl rfl (TO.fieldAddr fl_36_4 rfl dc rfl (show _ = 4 from rfl) (TO.fieldAddr fl_34_1 rfl dc rfl (show _ = 5 from rfl) (TO.load (k := 4) sc_3 rfl dc rfl rfl rfl (TO.bin rfl dc rfl rfl bin_leq (TO.pick (b := true) rfl dc rfl rfl (TO.nil (TX.next ?_)))))))
      refine TC.condB rfl (fun hb4 => ?_) (fun hb4 => ?_)
      ·
       have h := condT hb4 h
       refine TC.seq ?_
       obtain ⟨hg1, h⟩ := grdE h
       refine TC.drawB (β := Unit) 7 6 _ [(0, 40, .int .i64 x1.1), (1, 41, .int .i64 at1), (2, 42, .pointer (some ⟨jb1, 4, none⟩)), (3, 43, .pointer (some ⟨jb1, 4, none⟩)), (4, 44, .int .i64 x1.2.Span_From), (5, 45, .int .i64 (at1 - x1.2.Span_From))] (fun _b => []) (fun _b => [cells b1 [.int .i64 at1] 3, cells b2 [.int .i64 x1.1] 3, cells b3 [.int .i64 0] 3, cells b4 [.int .i64 0] 24, cells jb1 [.string x1.2.Text, .int .i64 x1.2.Indent, .int .i64 x1.2.Stanza, .int .i64 x1.2.In, .int .i64 x1.2.Span_From, .int .i64 x1.2.Span_To] 36]) mixed kr kr rfl dc dc (by rfl) kr kr (DrawPreX.cons ?_ (DrawPreX.cons ?_ (DrawPreX.cons ?_ (DrawPreX.cons ?_ (DrawPreX.cons ?_ (DrawPreX.cons ?_ (DrawPreX.here DrawPreX.nil))))))) (fun _b => (DrawPreX.cons ?_ (DrawPreX.cons ?_ (DrawPreX.cons ?_ (DrawPreX.cons ?_ (DrawPreX.cons ?_ (DrawPreX.cons ?_ (DrawPreX.here DrawPreX.nil)))))))) ?_ ?_
       ·
        intro D hn hd hcl hu hi
        refine TO.move rfl dc (dl_old (by rfl) rfl) ?_
        exact TX.quiet 0 hu hi rfl
       ·
        intro D hn hd hcl hu hi
        refine TO.load (k := 0) sc_3 rfl dc (dl_old (by rfl) rfl) rfl rfl ?_
        exact TX.quiet 1 hu hi rfl
       ·
        intro D hn hd hcl hu hi
        refine TO.fieldAddr fl_36_4 rfl dc (dl_old (by rfl) rfl) (show _ = 4 from rfl) ?_
        exact TX.quiet 2 hu hi rfl
       ·
        intro D hn hd hcl hu hi
        refine TO.fieldAddr fl_34_0 rfl dc (dl_lookup (m := 2) hu rfl (hd 2 dc)) (show _ = 4 from rfl) ?_
        exact TX.quiet 3 hu hi rfl
       ·
        intro D hn hd hcl hu hi
        refine TO.load (k := 4) sc_3 rfl dc (dl_lookup (m := 3) hu rfl (hd 3 dc)) rfl rfl ?_
        exact TX.quiet 4 hu hi rfl
       ·
        intro D hn hd hcl hu hi
        refine TO.bin rfl dc (dl_lookup (m := 1) hu rfl (hd 1 dc)) (dl_lookup (m := 4) hu rfl (hd 4 dc)) (bin_sub (r := at1 - x1.2.Span_From) (IntWalk.i64_in _ hg1)) ?_
        exact TX.quiet 5 hu hi rfl
       ·
        intro D hn hd hcl hu hi
        refine TO.move rfl dc (dl_old (by rfl) rfl) ?_
        exact TX.quiet 0 hu hi rfl
       ·
        intro D hn hd hcl hu hi
        refine TO.load (k := 0) sc_3 rfl dc (dl_old (by rfl) rfl) rfl rfl ?_
        exact TX.quiet 1 hu hi rfl
       ·
        intro D hn hd hcl hu hi
        refine TO.fieldAddr fl_36_4 rfl dc (dl_old (by rfl) rfl) (show _ = 4 from rfl) ?_
        exact TX.quiet 2 hu hi rfl
       ·
        intro D hn hd hcl hu hi
        refine TO.fieldAddr fl_34_0 rfl dc (dl_lookup (m := 2) hu rfl (hd 2 dc)) (show _ = 4 from rfl) ?_
        exact TX.quiet 3 hu hi rfl
       ·
        intro D hn hd hcl hu hi
        refine TO.load (k := 4) sc_3 rfl dc (dl_lookup (m := 3) hu rfl (hd 3 dc)) rfl rfl ?_
        exact TX.quiet 4 hu hi rfl
       ·
        intro D hn hd hcl hu hi
        refine TO.bin rfl dc (dl_lookup (m := 1) hu rfl (hd 1 dc)) (dl_lookup (m := 4) hu rfl (hd 4 dc)) (bin_sub (r := at1 - x1.2.Span_From) (IntWalk.i64_in _ hg1)) ?_
        exact TX.quiet 5 hu hi rfl
       ·
        intro D hn hd hcl
        refine TO.store (k := 1) (l' := [.int .i64 x1.1]) sz_3 rfl (dl_old (by rfl) rfl) (dl_lookup (m := 0) kr rfl (hd 0 dc)) rfl rfl (fun _ _ => rfl) rfl ?_
        exact fun a w ha hw => ⟨(), ha, hw⟩
       intro _b
       show TO _ _ _ _ _ _ _ _ _ _ [cells b1 [.int .i64 at1] 3, cells b2 [.int .i64 x1.1] 3, cells b3 [.int .i64 0] 3, cells b4 [.int .i64 0] 24, cells jb1 [.string x1.2.Text, .int .i64 x1.2.Indent, .int .i64 x1.2.Stanza, .int .i64 x1.2.In, .int .i64 x1.2.Span_From, .int .i64 x1.2.Span_To] 36]
       refine TO.store (k := 2) (l' := [.int .i64 (at1 - x1.2.Span_From)]) sz_3 rfl rfl rfl rfl rfl (fun _ _ => rfl) rfl ?_
       refine TO.store (k := 3) (l' := [.int .i64 0]) sz_24 rfl rfl rfl rfl rfl (fun _ _ => rfl) rfl ?_
       show TO _ _ _ _ _ _ _ _ _ _ [cells b1 [.int .i64 at1] 3, cells b2 [.int .i64 x1.1] 3, cells b3 [.int .i64 (at1 - x1.2.Span_From)] 3, cells b4 [.int .i64 0] 24, cells jb1 [.string x1.2.Text, .int .i64 x1.2.Indent, .int .i64 x1.2.Stanza, .int .i64 x1.2.In, .int .i64 x1.2.Span_From, .int .i64 x1.2.Span_To] 36]
       refine TO.nil (TX.next (TC.ret (TX.blockRet ?_)))
       exact TX.roundRet (x1.1, at1 - x1.2.Span_From) (show _ ∧ _ from ⟨rfl, h⟩) (Splits.of [0, 1, 2, 3] kr rfl)
      ·
       have h := condF hb4 h
       refine TC.skip (TX.blockNormal ?_)
       exact TX.round () (fun post2 e2 => by have e9 := snoc_post hxs1 e2; subst e9; subst hag1; exact h) (Splits.of [0, 1, 2, 3] kr rfl)
     ·
      have h := condF hb3 h
      refine TO.skip rfl dc (TO.skip rfl dc (TO.skip rfl dc (TO.skip rfl dc (TO.skip rfl dc (TO.pick (b := false) rfl dc rfl rfl (TO.nil (TX.next (TC.condF rfl (TC.skip (TX.blockNormal ?_))))))))))
      exact TX.round () (fun post2 e2 => by have e9 := snoc_post hxs1 e2; subst e9; subst hag1; exact h) (Splits.of [0, 1, 2, 3] kr rfl)
    ·
     rintro dm1 _ hinv
     have h : d1 = some r := hinv [] (List.append_nil _).symm
     rw [hd1] at h
     show TX _ _ _ _ _ _ _ [star ((([] : List Nat) : List Nat).map mark), emp, emp, emp, emp, cells b5 [.pointer (some ⟨bp1, 0, none⟩)] 23, cells b1 [.int .i64 at1] 3, cells b2 [.int .i64 0] 3, cells b3 [.int .i64 0] 3, cells b4 [.int .i64 0] 24, mark dm1]
     refine TX.starCons (k := 10) (j := 0) rfl rfl dc ?_
     show TX _ _ _ _ _ _ _ [star ((dm1 :: ([] : List Nat) : List Nat).map mark), emp, emp, emp, emp, cells b5 [.pointer (some ⟨bp1, 0, none⟩)] 23, cells b1 [.int .i64 at1] 3, cells b2 [.int .i64 0] 3, cells b3 [.int .i64 0] 3, cells b4 [.int .i64 0] 24, emp]
     refine TX.blockNormal ?_
     exact TX.meetD (dm1 :: ([] : List Nat)) h rfl (Sbs.cons rfl (Sbs.cons rfl (Sbs.cons rfl (Sbs.nil)))) (Splits.of [7, 8, 9, 0] kr rfl)
    ·
     rintro dm1 c pre x1 post g hxs hX
     obtain ⟨rfl, h⟩ := (show _ ∧ _ from hX)
     obtain ⟨line1, in1⟩ := g
     rw [he1] at h
     show TC _ _ _ _ _ _ _ _ _ [star ((([] : List Nat) : List Nat).map mark), emp, emp, emp, emp, cells b5 [.pointer (some ⟨bp1, 0, none⟩)] 23, cells b1 [.int .i64 at1] 3, cells b2 [.int .i64 line1] 3, cells b3 [.int .i64 in1] 3, cells b4 [.int .i64 0] 24, mark dm1]
     refine TC.starCons (k := 10) (j := 0) rfl rfl dc ?_
     show TC _ _ _ _ _ _ _ _ _ [star ((dm1 :: ([] : List Nat) : List Nat).map mark), emp, emp, emp, emp, cells b5 [.pointer (some ⟨bp1, 0, none⟩)] 23, cells b1 [.int .i64 at1] 3, cells b2 [.int .i64 line1] 3, cells b3 [.int .i64 in1] 3, cells b4 [.int .i64 0] 24, emp]
     refine TC.ret (TX.blockRet (TX.thenRet ?_))
     cases h
     exact TX.finM (rs := [.cell 4 3, .cell 5 3, .cell 6 24]) (dm1 :: ([] : List Nat)) () (.inl rfl) (Splits.open0 (k := 0) rfl) Tryd.results32 (.cons (.cell sc_3 (k := 7) rfl rfl) (.cons (.cell sc_3 (k := 8) rfl rfl) (.cons (.cell sc_24 (k := 9) rfl rfl) .nil))) rfl Splits.nil
   ·
    rintro ds1 h
    rw [hj1] at h
    show TC _ _ _ _ _ (marksOf ds1) _ _ [(4, .pointer (some ⟨b2, 0, none⟩)), (5, .pointer (some ⟨b3, 0, none⟩)), (6, .pointer (some ⟨b4, 0, none⟩))] [cells b2 [.int .i64 0] 3, cells b3 [.int .i64 0] 3, cells b4 [.int .i64 0] 24, star ((ds1 : List Nat).map mark)]
    refine TC.seq (TC.region ?_)
    refine TO.store (k := 0) (l' := [.int .i64 0]) sz_3 rfl rfl rfl rfl rfl (fun _ _ => rfl) rfl ?_
    refine TO.store (k := 1) (l' := [.int .i64 0]) sz_3 rfl rfl rfl rfl rfl (fun _ _ => rfl) rfl ?_
    show TO _ _ _ _ _ _ _ _ _ _ [cells b2 [.int .i64 0] 3, cells b3 [.int .i64 0] 3, cells b4 [.int .i64 0] 24, star ((ds1 : List Nat).map mark)]
    refine TO.store (k := 2) (l' := [.int .i64 4]) sz_24 rfl rfl rfl rfl rfl (fun _ _ => rfl) rfl ?_
    refine TO.nil (TX.next (TC.ret ?_))
    cases h
    exact TX.finM (rs := [.cell 4 3, .cell 5 3, .cell 6 24]) ds1 () (.inl rfl) (Splits.open0 (k := 3) rfl) Tryd.results32 (.cons (.cell sc_3 (k := 0) rfl rfl) (.cons (.cell sc_3 (k := 1) rfl rfl) (.cons (.cell sc_24 (k := 2) rfl rfl) .nil))) rfl Splits.nil
end Go.Proofs.YtgfkogafkhbgnaaDoor
namespace Go.Proofs.YtgfkogafkhbgnaaDoor
open Go.RowKit Go.Lib
set_option linter.unusedVariables false
set_option linter.unusedSimpArgs false
def strings_ContainsAny_crlf_v (s1 : ByteArray) : Option Bool :=
grd (s1.size ≤ 4294967280) <|
some (decide ((0 : Int) ≤ (iaV s1)))
set_option maxRecDepth 100000 in
set_option maxHeartbeats 4000000 in
theorem strings_ContainsAny_crlf_fn {s1 : ByteArray} {r : Bool} (h : strings_ContainsAny_crlf_v s1 = some r) : FnP Tryd.prog 17 [.string s1, .string (⟨#[13, 10]⟩ : ByteArray)] (.bool r) := by
 unfold strings_ContainsAny_crlf_v at h
 refine FnP.intro Tryd.func17 rfl Tryd.ntmps17 (by simp) ?_
 intro w0 K
 refine TC.seq (TC.region (TO.assign rfl dc rfl (TO.nil (TX.next (TC.seq (TC.region (TO.move rfl dc rfl (TO.move rfl dc rfl ?_))))))))
 obtain ⟨hg1, h⟩ := grdE h
 refine TO.callP (v := .int .i64 (iaV s1)) (vs := [.string s1, .string (⟨#[13, 10]⟩ : ByteArray)]) rfl dc rfl rfl rfl en_59 (iany_p s1 hg1) (TO.bin rfl dc rfl rfl bin_geq (TO.assign rfl dc rfl (TO.nil (TX.next (TC.ret ?_)))))
 cases h
 exact TX.fin (rs := [.tmp 4]) () (.inl rfl) Tryd.results17 (.cons (.tmp rfl) .nil) rfl Splits.nil
def poem_may_v (s1 : ByteArray) (most1 : Int) : Option Bool :=
bcond (decide (((s1.size : Int) : Int) ≤ most1)) (
andThen (strings_ContainsAny_crlf_v s1) fun (r1 : Bool) =>
some (!r1)
) (
some false
)
set_option maxRecDepth 100000 in
set_option maxHeartbeats 4000000 in
theorem poem_may_fn {s1 : ByteArray} {most1 : Int} {r : Bool} (h : poem_may_v s1 most1 = some r) : FnP Tryd.prog 63 [.string s1, .int .i64 most1] (.bool r) := by
 unfold poem_may_v at h
 refine FnP.intro Tryd.func63 rfl Tryd.ntmps63 (by simp) ?_
 intro w0 K
 refine TC.seq (TC.region (TO.assign rfl dc rfl (TO.nil (TX.next (TC.seq (TC.region (TO.move rfl dc rfl (TO.lenStr rfl dc rfl Tryd.underlying9 (TO.move rfl dc rfl (TO.bin rfl dc rfl rfl bin_leq (TO.move rfl dc rfl ?_)))))))))))
 refine TO.split (s := 9) rfl (fun hb1 => ?_) (fun hb1 => ?_)
 ·
  have h := condT hb1 h
  refine TO.move rfl dc rfl ?_
  obtain ⟨r1, hq1, h⟩ := andE h
  refine TO.callP (v := .bool r1) (vs := [.string s1, .string (⟨#[13, 10]⟩ : ByteArray)]) rfl dc rfl rfl rfl en_17 (strings_ContainsAny_crlf_fn hq1) (TO.un rfl dc rfl un_not (TO.pick (b := true) rfl dc rfl rfl (TO.assign rfl dc rfl (TO.nil (TX.next (TC.ret ?_))))))
  cases h
  exact TX.fin (rs := [.tmp 4]) () (.inl rfl) Tryd.results63 (.cons (.tmp rfl) .nil) rfl Splits.nil
 ·
  have h := condF hb1 h
  refine TO.skip rfl dc (TO.skip rfl dc (TO.skip rfl dc (TO.pick (b := false) rfl dc rfl rfl (TO.assign rfl dc rfl (TO.nil (TX.next (TC.ret ?_)))))))
  cases h
  exact TX.fin (rs := [.tmp 4]) () (.inl rfl) Tryd.results63 (.cons (.tmp rfl) .nil) rfl Splits.nil
end Go.Proofs.YtgfkogafkhbgnaaDoor
namespace Go.Proofs.YtgfkogafkhbgnaaDoor
open Go.RowKit Go.Lib Go.Shelf
set_option linter.unusedVariables false
set_option linter.unusedSimpArgs false
def mayL (s : ByteArray) (n : Int) : Bool := decide ((s.size : Int) ≤ n) && !anyEnd s
theorem contains_v (s : ByteArray) (h : s.size ≤ 4294967280) : strings_ContainsAny_crlf_v s = some (anyEnd s) := by
  unfold strings_ContainsAny_crlf_v
  exact grdI h (congrArg some (ia_hit s))
theorem may_p (s : ByteArray) (n : Int) (h : n ≤ 4294967280) : FnP Tryd.prog 63 [.string s, .int .i64 n] (.bool (mayL s n)) := by
  refine poem_may_fn ?_
  unfold poem_may_v mayL
  cases hc : decide ((s.size : Int) ≤ n) with
  | true => exact condTI rfl (thenI (contains_v s (by have := of_decide_eq_true hc; omega)) rfl)
  | false => exact condFI rfl rfl
end Go.Proofs.YtgfkogafkhbgnaaDoor
namespace Go.Proofs.YtgfkogafkhbgnaaDoor
open Go.RowKit Go.Lib
set_option linter.unusedVariables false
set_option linter.unusedSimpArgs false
def poem_Poem_Lines_v (p1 : Gpoem_Poem) : Option Int :=
some (p1.told_lines.length : Int)
set_option maxRecDepth 100000 in
set_option maxHeartbeats 4000000 in
theorem poem_Poem_Lines_fn {bp1 : Nat} {p1 : Gpoem_Poem} {p1_h0 p1_h1 : Hd} {r : Int} (h : poem_Poem_Lines_v p1 = some r) : FnR Tryd.prog 21 [.pointer (some ⟨bp1, 0, none⟩)] [cells bp1 [.string p1.told_title, p1_h0.v, p1_h1.v, .string p1.source] 93, vec enc_Gapi_Verse 36 6 p1_h0.v p1.told_lines, vec enc_Gapi_Span 34 2 p1_h1.v p1.told_stanzas] [] (fun _ : Unit => (.int .i64 r)) (fun _ => []) := by
 unfold poem_Poem_Lines_v at h
 refine FnR.intro Tryd.func21 rfl Tryd.ntmps21 (by simp) ?_
 intro w0 K hrd
 refine TC.seq (TC.region (TO.assign rfl dc rfl (TO.nil (TX.next (TC.seq (TC.seq (TC.region (TO.move rfl dc rfl (TO.bin rfl dc rfl rfl (bin_ptrnileqlR Tryd.underlying23) (TO.nil (TX.next (TC.condF rfl (TC.skip ?_)))))))))))))
 refine TX.next (TC.seq (TC.region (TO.move rfl dc rfl (TO.nilCheck rfl dc rfl (TO.fieldAddr fl_93_0 rfl dc rfl (show _ = 0 from rfl) (TO.fieldAddr fl_91_1 rfl dc rfl (show _ = 1 from rfl) (TO.loadRd (i := 0) hrd rfl sc_57 rfl dc rfl rfl (TO.lenVw (hrd.vw (i := 1) rfl) rfl dc rfl Tryd.underlying57 (TO.assign rfl dc rfl (TO.nil (TX.next (TC.ret ?_))))))))))))
 cases h
 exact TX.fin (rs := [.tmp 2]) () (.inl rfl) Tryd.results21 (.cons (.tmp rfl) .nil) rfl Splits.nil
def poem_Poem_Stanzas_v (p1 : Gpoem_Poem) : Option Int :=
some (p1.told_stanzas.length : Int)
set_option maxRecDepth 100000 in
set_option maxHeartbeats 4000000 in
theorem poem_Poem_Stanzas_fn {bp1 : Nat} {p1 : Gpoem_Poem} {p1_h0 p1_h1 : Hd} {r : Int} (h : poem_Poem_Stanzas_v p1 = some r) : FnR Tryd.prog 23 [.pointer (some ⟨bp1, 0, none⟩)] [cells bp1 [.string p1.told_title, p1_h0.v, p1_h1.v, .string p1.source] 93, vec enc_Gapi_Verse 36 6 p1_h0.v p1.told_lines, vec enc_Gapi_Span 34 2 p1_h1.v p1.told_stanzas] [] (fun _ : Unit => (.int .i64 r)) (fun _ => []) := by
 unfold poem_Poem_Stanzas_v at h
 refine FnR.intro Tryd.func23 rfl Tryd.ntmps23 (by simp) ?_
 intro w0 K hrd
 refine TC.seq (TC.region (TO.assign rfl dc rfl (TO.nil (TX.next (TC.seq (TC.seq (TC.region (TO.move rfl dc rfl (TO.bin rfl dc rfl rfl (bin_ptrnileqlR Tryd.underlying23) (TO.nil (TX.next (TC.condF rfl (TC.skip ?_)))))))))))))
 refine TX.next (TC.seq (TC.region (TO.move rfl dc rfl (TO.nilCheck rfl dc rfl (TO.fieldAddr fl_93_0 rfl dc rfl (show _ = 0 from rfl) (TO.fieldAddr fl_91_2 rfl dc rfl (show _ = 2 from rfl) (TO.loadRd (i := 0) hrd rfl sc_89 rfl dc rfl rfl (TO.lenVw (hrd.vw (i := 2) rfl) rfl dc rfl Tryd.underlying89 (TO.assign rfl dc rfl (TO.nil (TX.next (TC.ret ?_))))))))))))
 cases h
 exact TX.fin (rs := [.tmp 2]) () (.inl rfl) Tryd.results23 (.cons (.tmp rfl) .nil) rfl Splits.nil
def poem_Poem_Title_v (p1 : Gpoem_Poem) : Option ByteArray :=
some p1.told_title
set_option maxRecDepth 100000 in
set_option maxHeartbeats 4000000 in
theorem poem_Poem_Title_fn {bp1 : Nat} {p1 : Gpoem_Poem} {p1_h0 p1_h1 : Hd} {r : ByteArray} (h : poem_Poem_Title_v p1 = some r) : FnR Tryd.prog 24 [.pointer (some ⟨bp1, 0, none⟩)] [cells bp1 [.string p1.told_title, p1_h0.v, p1_h1.v, .string p1.source] 93, vec enc_Gapi_Verse 36 6 p1_h0.v p1.told_lines, vec enc_Gapi_Span 34 2 p1_h1.v p1.told_stanzas] [] (fun _ : Unit => (.string r)) (fun _ => []) := by
 unfold poem_Poem_Title_v at h
 refine FnR.intro Tryd.func24 rfl Tryd.ntmps24 (by simp) ?_
 intro w0 K hrd
 refine TC.seq (TC.region (TO.assign rfl dc rfl (TO.nil (TX.next (TC.seq (TC.seq (TC.region (TO.move rfl dc rfl (TO.bin rfl dc rfl rfl (bin_ptrnileqlR Tryd.underlying23) (TO.nil (TX.next (TC.condF rfl (TC.skip ?_)))))))))))))
 refine TX.next (TC.seq (TC.region (TO.move rfl dc rfl (TO.nilCheck rfl dc rfl (TO.fieldAddr fl_93_0 rfl dc rfl (show _ = 0 from rfl) (TO.fieldAddr fl_91_0 rfl dc rfl (show _ = 0 from rfl) (TO.loadRd (i := 0) hrd rfl sc_9 rfl dc rfl rfl (TO.assign rfl dc rfl (TO.nil (TX.next (TC.ret ?_)))))))))))
 cases h
 exact TX.fin (rs := [.tmp 2]) () (.inl rfl) Tryd.results24 (.cons (.tmp rfl) .nil) rfl Splits.nil
def poem_Poem_Source_v (p1 : Gpoem_Poem) : Option ByteArray :=
some p1.source
set_option maxRecDepth 100000 in
set_option maxHeartbeats 4000000 in
theorem poem_Poem_Source_fn {bp1 : Nat} {p1 : Gpoem_Poem} {p1_h0 p1_h1 : Hd} {r : ByteArray} (h : poem_Poem_Source_v p1 = some r) : FnR Tryd.prog 20 [.pointer (some ⟨bp1, 0, none⟩)] [cells bp1 [.string p1.told_title, p1_h0.v, p1_h1.v, .string p1.source] 93, vec enc_Gapi_Verse 36 6 p1_h0.v p1.told_lines, vec enc_Gapi_Span 34 2 p1_h1.v p1.told_stanzas] [] (fun _ : Unit => (.string r)) (fun _ => []) := by
 unfold poem_Poem_Source_v at h
 refine FnR.intro Tryd.func20 rfl Tryd.ntmps20 (by simp) ?_
 intro w0 K hrd
 refine TC.seq (TC.region (TO.assign rfl dc rfl (TO.nil (TX.next (TC.seq (TC.seq (TC.region (TO.move rfl dc rfl (TO.bin rfl dc rfl rfl (bin_ptrnileqlR Tryd.underlying23) (TO.nil (TX.next (TC.condF rfl (TC.skip ?_)))))))))))))
 refine TX.next (TC.seq (TC.region (TO.move rfl dc rfl (TO.nilCheck rfl dc rfl (TO.fieldAddr fl_93_1 rfl dc rfl (show _ = 3 from rfl) (TO.loadRd (i := 0) hrd rfl sc_9 rfl dc rfl rfl (TO.assign rfl dc rfl (TO.nil (TX.next (TC.ret ?_))))))))))
 cases h
 exact TX.fin (rs := [.tmp 2]) () (.inl rfl) Tryd.results20 (.cons (.tmp rfl) .nil) rfl Splits.nil
def poem_Poem_Line_v (p1 : Gpoem_Poem) (k1 : Int) : Option (Gapi_Verse × Int) :=
bcond (decide ((k1 : Int) < 0)) (
some ((⟨ByteArray.empty, 0, 0, 0, 0, 0⟩ : Gapi_Verse), 5)
) (
bcond (decide (((p1.told_lines.length : Int) : Int) ≤ k1)) (
some ((⟨ByteArray.empty, 0, 0, 0, 0, 0⟩ : Gapi_Verse), 5)
) (
andThen (getO p1.told_lines k1) fun (q1 : Gapi_Verse) =>
some (q1, 0)
)
)
set_option maxRecDepth 100000 in
set_option maxHeartbeats 4000000 in
theorem poem_Poem_Line_fn {bp1 : Nat} {p1 : Gpoem_Poem} {p1_h0 p1_h1 : Hd} {k1 : Int} {r : (Gapi_Verse × Int)} (h : poem_Poem_Line_v p1 k1 = some r) : FnR Tryd.prog 28 [.pointer (some ⟨bp1, 0, none⟩), .int .i64 k1] [cells bp1 [.string p1.told_title, p1_h0.v, p1_h1.v, .string p1.source] 93, vec enc_Gapi_Verse 36 6 p1_h0.v p1.told_lines, vec enc_Gapi_Span 34 2 p1_h1.v p1.told_stanzas] [] (fun _ : Unit => (.tuple #[.agg #[.string r.1.Text, .int .i64 r.1.Indent, .int .i64 r.1.Stanza, .int .i64 r.1.In, .int .i64 r.1.Span_From, .int .i64 r.1.Span_To], .int .i64 r.2])) (fun _ => []) := by
 unfold poem_Poem_Line_v at h
 refine FnR.intro Tryd.func28 rfl Tryd.ntmps28 (by simp) ?_
 intro w0 K hrd
 refine TC.seq (TC.region ?_)
 refine TO.alloc zr_36 rfl dc (fun b1 => ?_)
 refine TO.assign rfl dc rfl (TO.nil (TX.next (TC.seq (TC.block (TC.seq (TC.region (TO.move rfl dc rfl (TO.bin rfl dc rfl rfl (bin_ptrnileqlR Tryd.underlying23) (TO.assign rfl dc rfl (TO.nil (TX.next (TC.condF rfl (TC.seq ?_)))))))))))))
 refine TC.region (TO.move rfl dc rfl (TO.bin rfl dc rfl rfl bin_lss (TO.move rfl dc rfl ?_)))
 refine TO.split (s := 13) rfl (fun hb1 => ?_) (fun hb1 => ?_)
 ·
  have h := condT hb1 h
  refine TO.skip rfl dc (TO.skip rfl dc (TO.skip rfl dc (TO.skip rfl dc (TO.skip rfl dc (TO.skip rfl dc (TO.skip rfl dc (TO.skip rfl dc (TO.pick (b := true) rfl dc rfl rfl (TO.assign rfl dc rfl (TO.nil (TX.next (TC.condT rfl (TC.seq ?_)))))))))))))
  refine TC.region ?_
  refine TO.build (v := .agg #[.string ByteArray.empty, .int .i64 0, .int .i64 0, .int .i64 0, .int .i64 0, .int .i64 0]) (ps := []) rfl dc rfl (fun _ => by kernel_rfl) ?_
  refine TO.stores (k := 0) (vs := [.string ByteArray.empty, .int .i64 0, .int .i64 0, .int .i64 0, .int .i64 0, .int .i64 0]) (l' := [.string ByteArray.empty, .int .i64 0, .int .i64 0, .int .i64 0, .int .i64 0, .int .i64 0]) sz_36 rfl rfl rfl rfl rfl (show _ ≤ _ by simp) rfl rfl ?_
  show TO _ _ _ _ _ _ _ _ _ _ [cells b1 [.string ByteArray.empty, .int .i64 0, .int .i64 0, .int .i64 0, .int .i64 0, .int .i64 0] 36]
  refine TO.assign rfl dc rfl (TO.nil (TX.next (TC.ret (TX.blockRet (TX.thenRet ?_)))))
  cases h
  exact TX.fin (rs := [.cell 4 36, .tmp 5]) () (.inl rfl) Tryd.results28 (.cons (.cells rw_36 (k := 0) rfl rfl rfl) (.cons (.tmp rfl) .nil)) rfl Splits.nil
 ·
  have h := condF hb1 h
  refine TO.move rfl dc rfl (TO.move rfl dc rfl (TO.nilCheck rfl dc rfl (TO.fieldAddr fl_93_0 rfl dc rfl (show _ = 0 from rfl) (TO.fieldAddr fl_91_1 rfl dc rfl (show _ = 1 from rfl) (TO.loadRd (i := 0) hrd rfl sc_57 rfl dc rfl rfl (TO.lenVw (hrd.vw (i := 1) rfl) rfl dc rfl Tryd.underlying57 (TO.bin rfl dc rfl rfl bin_geq (TO.pick (b := false) rfl dc rfl rfl (TO.assign rfl dc rfl (TO.nil (TX.next ?_)))))))))))
  refine TC.condB rfl (fun hb2 => ?_) (fun hb2 => ?_)
  ·
   have h := condT hb2 h
   refine TC.seq (TC.region ?_)
   refine TO.build (v := .agg #[.string ByteArray.empty, .int .i64 0, .int .i64 0, .int .i64 0, .int .i64 0, .int .i64 0]) (ps := []) rfl dc rfl (fun _ => by kernel_rfl) ?_
   refine TO.stores (k := 0) (vs := [.string ByteArray.empty, .int .i64 0, .int .i64 0, .int .i64 0, .int .i64 0, .int .i64 0]) (l' := [.string ByteArray.empty, .int .i64 0, .int .i64 0, .int .i64 0, .int .i64 0, .int .i64 0]) sz_36 rfl rfl rfl rfl rfl (show _ ≤ _ by simp) rfl rfl ?_
   show TO _ _ _ _ _ _ _ _ _ _ [cells b1 [.string ByteArray.empty, .int .i64 0, .int .i64 0, .int .i64 0, .int .i64 0, .int .i64 0] 36]
   refine TO.assign rfl dc rfl (TO.nil (TX.next (TC.ret (TX.blockRet (TX.thenRet ?_)))))
   cases h
   exact TX.fin (rs := [.cell 4 36, .tmp 5]) () (.inl rfl) Tryd.results28 (.cons (.cells rw_36 (k := 0) rfl rfl rfl) (.cons (.tmp rfl) .nil)) rfl Splits.nil
  ·
   have h := condF hb2 h
   refine TC.skip (TX.blockNormal (TX.next (TC.seq (TC.region (TO.move rfl dc rfl (TO.nilCheck rfl dc rfl (TO.fieldAddr fl_93_0 rfl dc rfl (show _ = 0 from rfl) (TO.fieldAddr fl_91_1 rfl dc rfl (show _ = 1 from rfl) (TO.loadRd (i := 0) hrd rfl sc_57 rfl dc rfl rfl (TO.move rfl dc rfl ?_))))))))))
   obtain ⟨q1, hq1, h⟩ := andE h
   refine TO.indexVw (hrd.vw (i := 1) rfl) hq1 Tryd.underlying57 sz_36 rfl dc rfl rfl rfl (TO.loadsVecRd (m := 0 + (k1 : Int).toNat) (j := 0) (i := 1) (q := q1) (cs := [.string q1.Text, .int .i64 q1.Indent, .int .i64 q1.Stanza, .int .i64 q1.In, .int .i64 q1.Span_From, .int .i64 q1.Span_To]) hrd rfl rw_36 enc_Gapi_Verse_len rfl dc rfl (Vw.get (hrd.vw (i := 1) rfl) hq1) rfl rfl rfl (TO.stores (k := 0) (vs := [.string q1.Text, .int .i64 q1.Indent, .int .i64 q1.Stanza, .int .i64 q1.In, .int .i64 q1.Span_From, .int .i64 q1.Span_To]) (l' := [.string q1.Text, .int .i64 q1.Indent, .int .i64 q1.Stanza, .int .i64 q1.In, .int .i64 q1.Span_From, .int .i64 q1.Span_To]) sz_36 rfl rfl rfl rfl rfl (show _ ≤ _ by simp) rfl rfl ?_))
   show TO _ _ _ _ _ _ _ _ _ _ [cells b1 [.string q1.Text, .int .i64 q1.Indent, .int .i64 q1.Stanza, .int .i64 q1.In, .int .i64 q1.Span_From, .int .i64 q1.Span_To] 36]
   refine TO.assign rfl dc rfl (TO.nil (TX.next (TC.ret ?_)))
   cases h
   exact TX.fin (rs := [.cell 4 36, .tmp 5]) () (.inl rfl) Tryd.results28 (.cons (.cells rw_36 (k := 0) rfl rfl rfl) (.cons (.tmp rfl) .nil)) rfl Splits.nil
def poem_Poem_Stanza_v (p1 : Gpoem_Poem) (k1 : Int) : Option (Gapi_Span × Int) :=
bcond (decide ((k1 : Int) < 0)) (
some ((⟨0, 0⟩ : Gapi_Span), 5)
) (
bcond (decide (((p1.told_stanzas.length : Int) : Int) ≤ k1)) (
some ((⟨0, 0⟩ : Gapi_Span), 5)
) (
andThen (getO p1.told_stanzas k1) fun (q1 : Gapi_Span) =>
some (q1, 0)
)
)
set_option maxRecDepth 100000 in
set_option maxHeartbeats 4000000 in
theorem poem_Poem_Stanza_fn {bp1 : Nat} {p1 : Gpoem_Poem} {p1_h0 p1_h1 : Hd} {k1 : Int} {r : (Gapi_Span × Int)} (h : poem_Poem_Stanza_v p1 k1 = some r) : FnR Tryd.prog 44 [.pointer (some ⟨bp1, 0, none⟩), .int .i64 k1] [cells bp1 [.string p1.told_title, p1_h0.v, p1_h1.v, .string p1.source] 93, vec enc_Gapi_Verse 36 6 p1_h0.v p1.told_lines, vec enc_Gapi_Span 34 2 p1_h1.v p1.told_stanzas] [] (fun _ : Unit => (.tuple #[.agg #[.int .i64 r.1.From, .int .i64 r.1.To], .int .i64 r.2])) (fun _ => []) := by
 unfold poem_Poem_Stanza_v at h
 refine FnR.intro Tryd.func44 rfl Tryd.ntmps44 (by simp) ?_
 intro w0 K hrd
 refine TC.seq (TC.region ?_)
 refine TO.alloc zr_34 rfl dc (fun b1 => ?_)
 refine TO.assign rfl dc rfl (TO.nil (TX.next (TC.seq (TC.block (TC.seq (TC.region (TO.move rfl dc rfl (TO.bin rfl dc rfl rfl (bin_ptrnileqlR Tryd.underlying23) (TO.assign rfl dc rfl (TO.nil (TX.next (TC.condF rfl (TC.seq ?_)))))))))))))
 refine TC.region (TO.move rfl dc rfl (TO.bin rfl dc rfl rfl bin_lss (TO.move rfl dc rfl ?_)))
 refine TO.split (s := 13) rfl (fun hb1 => ?_) (fun hb1 => ?_)
 ·
  have h := condT hb1 h
  refine TO.skip rfl dc (TO.skip rfl dc (TO.skip rfl dc (TO.skip rfl dc (TO.skip rfl dc (TO.skip rfl dc (TO.skip rfl dc (TO.skip rfl dc (TO.pick (b := true) rfl dc rfl rfl (TO.assign rfl dc rfl (TO.nil (TX.next (TC.condT rfl (TC.seq ?_)))))))))))))
  refine TC.region ?_
  refine TO.build (v := .agg #[.int .i64 0, .int .i64 0]) (ps := []) rfl dc rfl (fun _ => by kernel_rfl) ?_
  refine TO.stores (k := 0) (vs := [.int .i64 0, .int .i64 0]) (l' := [.int .i64 0, .int .i64 0]) sz_34 rfl rfl rfl rfl rfl (show _ ≤ _ by simp) rfl rfl ?_
  show TO _ _ _ _ _ _ _ _ _ _ [cells b1 [.int .i64 0, .int .i64 0] 34]
  refine TO.assign rfl dc rfl (TO.nil (TX.next (TC.ret (TX.blockRet (TX.thenRet ?_)))))
  cases h
  exact TX.fin (rs := [.cell 4 34, .tmp 5]) () (.inl rfl) Tryd.results44 (.cons (.cells rw_34 (k := 0) rfl rfl rfl) (.cons (.tmp rfl) .nil)) rfl Splits.nil
 ·
  have h := condF hb1 h
  refine TO.move rfl dc rfl (TO.move rfl dc rfl (TO.nilCheck rfl dc rfl (TO.fieldAddr fl_93_0 rfl dc rfl (show _ = 0 from rfl) (TO.fieldAddr fl_91_2 rfl dc rfl (show _ = 2 from rfl) (TO.loadRd (i := 0) hrd rfl sc_89 rfl dc rfl rfl (TO.lenVw (hrd.vw (i := 2) rfl) rfl dc rfl Tryd.underlying89 (TO.bin rfl dc rfl rfl bin_geq (TO.pick (b := false) rfl dc rfl rfl (TO.assign rfl dc rfl (TO.nil (TX.next ?_)))))))))))
  refine TC.condB rfl (fun hb2 => ?_) (fun hb2 => ?_)
  ·
   have h := condT hb2 h
   refine TC.seq (TC.region ?_)
   refine TO.build (v := .agg #[.int .i64 0, .int .i64 0]) (ps := []) rfl dc rfl (fun _ => by kernel_rfl) ?_
   refine TO.stores (k := 0) (vs := [.int .i64 0, .int .i64 0]) (l' := [.int .i64 0, .int .i64 0]) sz_34 rfl rfl rfl rfl rfl (show _ ≤ _ by simp) rfl rfl ?_
   show TO _ _ _ _ _ _ _ _ _ _ [cells b1 [.int .i64 0, .int .i64 0] 34]
   refine TO.assign rfl dc rfl (TO.nil (TX.next (TC.ret (TX.blockRet (TX.thenRet ?_)))))
   cases h
   exact TX.fin (rs := [.cell 4 34, .tmp 5]) () (.inl rfl) Tryd.results44 (.cons (.cells rw_34 (k := 0) rfl rfl rfl) (.cons (.tmp rfl) .nil)) rfl Splits.nil
  ·
   have h := condF hb2 h
   refine TC.skip (TX.blockNormal (TX.next (TC.seq (TC.region (TO.move rfl dc rfl (TO.nilCheck rfl dc rfl (TO.fieldAddr fl_93_0 rfl dc rfl (show _ = 0 from rfl) (TO.fieldAddr fl_91_2 rfl dc rfl (show _ = 2 from rfl) (TO.loadRd (i := 0) hrd rfl sc_89 rfl dc rfl rfl (TO.move rfl dc rfl ?_))))))))))
   obtain ⟨q1, hq1, h⟩ := andE h
   refine TO.indexVw (hrd.vw (i := 2) rfl) hq1 Tryd.underlying89 sz_34 rfl dc rfl rfl rfl (TO.loadsVecRd (m := 0 + (k1 : Int).toNat) (j := 0) (i := 2) (q := q1) (cs := [.int .i64 q1.From, .int .i64 q1.To]) hrd rfl rw_34 enc_Gapi_Span_len rfl dc rfl (Vw.get (hrd.vw (i := 2) rfl) hq1) rfl rfl rfl (TO.stores (k := 0) (vs := [.int .i64 q1.From, .int .i64 q1.To]) (l' := [.int .i64 q1.From, .int .i64 q1.To]) sz_34 rfl rfl rfl rfl rfl (show _ ≤ _ by simp) rfl rfl ?_))
   show TO _ _ _ _ _ _ _ _ _ _ [cells b1 [.int .i64 q1.From, .int .i64 q1.To] 34]
   refine TO.assign rfl dc rfl (TO.nil (TX.next (TC.ret ?_)))
   cases h
   exact TX.fin (rs := [.cell 4 34, .tmp 5]) () (.inl rfl) Tryd.results44 (.cons (.cells rw_34 (k := 0) rfl rfl rfl) (.cons (.tmp rfl) .nil)) rfl Splits.nil
def poem_Poem_Same_s1 (p1 : Gpoem_Poem) (q1 : Gpoem_Poem) (j1 : Option Bool) (ag1 : Int → Option Bool) (x3 : Int) : Option Bool :=
bcond (decide ((x3 : Int) < (p1.told_lines.length : Int))) (
andThen (getO p1.told_lines x3) fun (q2 : Gapi_Verse) =>
andThen (getO q1.told_lines x3) fun (q3 : Gapi_Verse) =>
bcond (!decide (q2.Text = q3.Text)) (
some false
) (
bcond ((q2.Indent : Int) != q3.Indent) (
some false
) (
bcond ((q2.Stanza : Int) != q3.Stanza) (
some false
) (
grd (I64 (x3 + 1)) <|
ag1 (x3 + 1)
)
)
)
) (
j1
)
def poem_Poem_Same_v (p1 : Gpoem_Poem) (q1 : Gpoem_Poem) : Option Bool :=
bcond (!decide (p1.told_title = q1.told_title)) (
some false
) (
bcond (((p1.told_lines.length : Int) : Int) != (q1.told_lines.length : Int)) (
some false
) (
joinK (fun (j1 : Option Bool) =>
loopG (fun _ => none) (poem_Poem_Same_s1 p1 q1 j1) fuel 0
) (
some true
)
)
)
set_option maxRecDepth 100000 in
set_option maxHeartbeats 4000000 in
theorem poem_Poem_Same_fn {bp1 : Nat} {p1 : Gpoem_Poem} {p1_h0 p1_h1 : Hd} {bq1 : Nat} {q1 : Gpoem_Poem} {q1_h0 q1_h1 : Hd} {r : Bool} (h : poem_Poem_Same_v p1 q1 = some r) : FnR Tryd.prog 19 [.pointer (some ⟨bp1, 0, none⟩), .pointer (some ⟨bq1, 0, none⟩)] [cells bp1 [.string p1.told_title, p1_h0.v, p1_h1.v, .string p1.source] 93, vec enc_Gapi_Verse 36 6 p1_h0.v p1.told_lines, vec enc_Gapi_Span 34 2 p1_h1.v p1.told_stanzas, cells bq1 [.string q1.told_title, q1_h0.v, q1_h1.v, .string q1.source] 93, vec enc_Gapi_Verse 36 6 q1_h0.v q1.told_lines, vec enc_Gapi_Span 34 2 q1_h1.v q1.told_stanzas] [] (fun _ : Unit => (.bool r)) (fun _ => []) := by
 unfold poem_Poem_Same_v at h
 refine FnR.intro Tryd.func19 rfl Tryd.ntmps19 (by simp) ?_
 intro w0 K hrd
 refine TC.seq (TC.region (TO.assign rfl dc rfl (TO.nil (TX.next (TC.seq (TC.seq ?_))))))
 refine TC.bySplit (b := !decide (p1.told_title = q1.told_title)) (fun hb1 => ?_) (fun hb1 => ?_)
 ·
  have h := condT hb1 h
  refine TC.drawN 32 [(0, 8, .pointer (some ⟨bp1, 0, none⟩)), (1, 9, .bool false), (2, 10, .bool false), (3, 11, .pointer (some ⟨bq1, 0, none⟩)), (4, 12, .bool false), (5, 13, .bool false), (6, 14, .bool false), (7, 15, .pointer (some ⟨bp1, 0, none⟩)), (8, 16, .pointer (some ⟨bp1, 0, none⟩)), (9, 17, .pointer (some ⟨bp1, 0, none⟩)), (10, 18, .pointer (some ⟨bp1, 0, none⟩)), (11, 19, .string p1.told_title), (12, 20, .pointer (some ⟨bq1, 0, none⟩)), (13, 21, .pointer (some ⟨bq1, 0, none⟩)), (14, 22, .pointer (some ⟨bq1, 0, none⟩)), (15, 23, .pointer (some ⟨bq1, 0, none⟩)), (16, 24, .string q1.told_title), (17, 25, .bool true), (18, 26, .bool true), (19, 27, .bool true), (20, 28, undef), (21, 29, undef), (22, 30, undef), (23, 31, undef), (24, 32, undef), (25, 33, undef), (26, 34, undef), (27, 35, undef), (28, 36, undef), (29, 37, undef), (30, 38, undef), (31, 39, undef)] mixed kr kr dc (by rfl) kr kr (DrawPre.cons ?_ (DrawPre.cons ?_ (DrawPre.cons ?_ (DrawPre.cons ?_ (DrawPre.cons ?_ (DrawPre.cons ?_ (DrawPre.cons ?_ (DrawPre.cons ?_ (DrawPre.cons ?_ (DrawPre.cons ?_ (DrawPre.cons ?_ (DrawPre.cons ?_ (DrawPre.cons ?_ (DrawPre.cons ?_ (DrawPre.cons ?_ (DrawPre.cons ?_ (DrawPre.cons ?_ (DrawPre.cons ?_ (DrawPre.cons ?_ (DrawPre.cons ?_ (DrawPre.cons ?_ (DrawPre.cons ?_ (DrawPre.cons ?_ (DrawPre.cons ?_ (DrawPre.cons ?_ (DrawPre.cons ?_ (DrawPre.cons ?_ (DrawPre.cons ?_ (DrawPre.cons ?_ (DrawPre.cons ?_ (DrawPre.cons ?_ (DrawPre.cons ?_ DrawPre.nil)))))))))))))))))))))))))))))))) ?_
  ·
   intro D hn hd hcl hu hi
   refine TO.move rfl dc (dl_old (by rfl) rfl) ?_
   exact TX.quiet 0 hu hi rfl
  ·
   intro D hn hd hcl hu hi
   refine TO.bin rfl dc (dl_lookup (m := 0) hu rfl (hd 0 dc)) rfl (bin_ptrnileqlR Tryd.underlying23) ?_
   exact TX.quiet 1 hu hi rfl
  ·
   intro D hn hd hcl hu hi
   refine TO.move rfl dc (dl_lookup (m := 1) hu rfl (hd 1 dc)) ?_
   exact TX.quiet 2 hu hi rfl
  ·
   intro D hn hd hcl hu hi
   refine TO.move (gd_T rfl (dl_lookup (m := 2) hu rfl (hd 2 dc))) dc (dl_old (by rfl) rfl) ?_
   exact TX.quiet 3 hu hi rfl
  ·
   intro D hn hd hcl hu hi
   refine TO.bin (gd_T rfl (dl_lookup (m := 2) hu rfl (hd 2 dc))) dc (dl_lookup (m := 3) hu rfl (hd 3 dc)) rfl (bin_ptrnileqlR Tryd.underlying23) ?_
   exact TX.quiet 4 hu hi rfl
  ·
   intro D hn hd hcl hu hi
   refine TO.pick (b := false) rfl dc (dl_lookup (m := 2) hu rfl (hd 2 dc)) (dl_lookup (m := 4) hu rfl (hd 4 dc)) ?_
   exact TX.quiet 5 hu hi rfl
  ·
   intro D hn hd hcl hu hi
   refine TO.move rfl dc (dl_lookup (m := 5) hu rfl (hd 5 dc)) ?_
   exact TX.quiet 6 hu hi rfl
  ·
   intro D hn hd hcl hu hi
   refine TO.move (gd_T rfl (dl_lookup (m := 6) hu rfl (hd 6 dc))) dc (dl_old (by rfl) rfl) ?_
   exact TX.quiet 7 hu hi rfl
  ·
   intro D hn hd hcl hu hi
   refine TO.nilCheck (gd_T rfl (dl_lookup (m := 6) hu rfl (hd 6 dc))) dc (dl_lookup (m := 7) hu rfl (hd 7 dc)) ?_
   exact TX.quiet 8 hu hi rfl
  ·
   intro D hn hd hcl hu hi
   refine TO.fieldAddr fl_93_0 (gd_T rfl (dl_lookup (m := 6) hu rfl (hd 6 dc))) dc (dl_lookup (m := 8) hu rfl (hd 8 dc)) (show _ = 0 from rfl) ?_
   exact TX.quiet 9 hu hi rfl
  ·
   intro D hn hd hcl hu hi
   refine TO.fieldAddr fl_91_0 (gd_T rfl (dl_lookup (m := 6) hu rfl (hd 6 dc))) dc (dl_lookup (m := 9) hu rfl (hd 9 dc)) (show _ = 0 from rfl) ?_
   exact TX.quiet 10 hu hi rfl
  ·
   intro D hn hd hcl hu hi
   refine TO.loadRd (i := 0) hrd rfl sc_9 (gd_T rfl (dl_lookup (m := 6) hu rfl (hd 6 dc))) dc (dl_lookup (m := 10) hu rfl (hd 10 dc)) rfl ?_
   exact TX.quiet 11 hu hi rfl
  ·
   intro D hn hd hcl hu hi
   refine TO.move (gd_T rfl (dl_lookup (m := 6) hu rfl (hd 6 dc))) dc (dl_old (by rfl) rfl) ?_
   exact TX.quiet 12 hu hi rfl
  ·
   intro D hn hd hcl hu hi
   refine TO.nilCheck (gd_T rfl (dl_lookup (m := 6) hu rfl (hd 6 dc))) dc (dl_lookup (m := 12) hu rfl (hd 12 dc)) ?_
   exact TX.quiet 13 hu hi rfl
  ·
   intro D hn hd hcl hu hi
   refine TO.fieldAddr fl_93_0 (gd_T rfl (dl_lookup (m := 6) hu rfl (hd 6 dc))) dc (dl_lookup (m := 13) hu rfl (hd 13 dc)) (show _ = 0 from rfl) ?_
   exact TX.quiet 14 hu hi rfl
  ·
   intro D hn hd hcl hu hi
   refine TO.fieldAddr fl_91_0 (gd_T rfl (dl_lookup (m := 6) hu rfl (hd 6 dc))) dc (dl_lookup (m := 14) hu rfl (hd 14 dc)) (show _ = 0 from rfl) ?_
   exact TX.quiet 15 hu hi rfl
  ·
   intro D hn hd hcl hu hi
   refine TO.loadRd (i := 3) hrd rfl sc_9 (gd_T rfl (dl_lookup (m := 6) hu rfl (hd 6 dc))) dc (dl_lookup (m := 15) hu rfl (hd 15 dc)) rfl ?_
   exact TX.quiet 16 hu hi rfl
  ·
   intro D hn hd hcl hu hi
   refine TO.bin (gd_T rfl (dl_lookup (m := 6) hu rfl (hd 6 dc))) dc (dl_lookup (m := 11) hu rfl (hd 11 dc)) (dl_lookup (m := 16) hu rfl (hd 16 dc)) bin_sneq (TO.rewH (show Value.bool (!decide (p1.told_title = q1.told_title)) = Value.bool true from congrArg Value.bool hb1) ?_)
   exact TX.quiet 17 hu hi rfl
  ·
   intro D hn hd hcl hu hi
   refine TO.pick (b := false) rfl dc (dl_lookup (m := 6) hu rfl (hd 6 dc)) (dl_lookup (m := 17) hu rfl (hd 17 dc)) ?_
   exact TX.quiet 18 hu hi rfl
  ·
   intro D hn hd hcl hu hi
   refine TO.move rfl dc (dl_lookup (m := 18) hu rfl (hd 18 dc)) ?_
   exact TX.quiet 19 hu hi rfl
  ·
   intro D hn hd hcl hu hi
   refine TO.skip (gd_F rfl (dl_lookup (m := 19) hu rfl (hd 19 dc))) dc ?_
   exact TX.quiet 20 hu hi rfl
  ·
   intro D hn hd hcl hu hi
   refine TO.skip (gd_F rfl (dl_lookup (m := 19) hu rfl (hd 19 dc))) dc ?_
   exact TX.quiet 21 hu hi rfl
  ·
   intro D hn hd hcl hu hi
   refine TO.skip (gd_F rfl (dl_lookup (m := 19) hu rfl (hd 19 dc))) dc ?_
   exact TX.quiet 22 hu hi rfl
  ·
   intro D hn hd hcl hu hi
   refine TO.skip (gd_F rfl (dl_lookup (m := 19) hu rfl (hd 19 dc))) dc ?_
   exact TX.quiet 23 hu hi rfl
  ·
   intro D hn hd hcl hu hi
   refine TO.skip (gd_F rfl (dl_lookup (m := 19) hu rfl (hd 19 dc))) dc ?_
   exact TX.quiet 24 hu hi rfl
  ·
   intro D hn hd hcl hu hi
   refine TO.skip (gd_F rfl (dl_lookup (m := 19) hu rfl (hd 19 dc))) dc ?_
   exact TX.quiet 25 hu hi rfl
  ·
   intro D hn hd hcl hu hi
   refine TO.skip (gd_F rfl (dl_lookup (m := 19) hu rfl (hd 19 dc))) dc ?_
   exact TX.quiet 26 hu hi rfl
  ·
   intro D hn hd hcl hu hi
   refine TO.skip (gd_F rfl (dl_lookup (m := 19) hu rfl (hd 19 dc))) dc ?_
   exact TX.quiet 27 hu hi rfl
  ·
   intro D hn hd hcl hu hi
   refine TO.skip (gd_F rfl (dl_lookup (m := 19) hu rfl (hd 19 dc))) dc ?_
   exact TX.quiet 28 hu hi rfl
  ·
   intro D hn hd hcl hu hi
   refine TO.skip (gd_F rfl (dl_lookup (m := 19) hu rfl (hd 19 dc))) dc ?_
   exact TX.quiet 29 hu hi rfl
  ·
   intro D hn hd hcl hu hi
   refine TO.skip (gd_F rfl (dl_lookup (m := 19) hu rfl (hd 19 dc))) dc ?_
   exact TX.quiet 30 hu hi rfl
  ·
   intro D hn hd hcl hu hi
   refine TO.skip (gd_F rfl (dl_lookup (m := 19) hu rfl (hd 19 dc))) dc ?_
   exact TX.quiet 31 hu hi rfl
  refine TO.skip rfl dc (TO.pick (b := true) rfl dc rfl rfl (TO.nil (TX.next (TC.condT rfl (TC.seq (TC.region (TO.assign rfl dc rfl (TO.nil (TX.next (TC.ret (TX.thenRet ?_)))))))))))
  cases h
  exact TX.fin (rs := [.tmp 4]) () (.inl rfl) Tryd.results19 (.cons (.tmp rfl) .nil) rfl Splits.nil
 ·
  have h := condF hb1 h
  refine TC.drawN 32 [(0, 8, .pointer (some ⟨bp1, 0, none⟩)), (1, 9, .bool false), (2, 10, .bool false), (3, 11, .pointer (some ⟨bq1, 0, none⟩)), (4, 12, .bool false), (5, 13, .bool false), (6, 14, .bool false), (7, 15, .pointer (some ⟨bp1, 0, none⟩)), (8, 16, .pointer (some ⟨bp1, 0, none⟩)), (9, 17, .pointer (some ⟨bp1, 0, none⟩)), (10, 18, .pointer (some ⟨bp1, 0, none⟩)), (11, 19, .string p1.told_title), (12, 20, .pointer (some ⟨bq1, 0, none⟩)), (13, 21, .pointer (some ⟨bq1, 0, none⟩)), (14, 22, .pointer (some ⟨bq1, 0, none⟩)), (15, 23, .pointer (some ⟨bq1, 0, none⟩)), (16, 24, .string q1.told_title), (17, 25, .bool false), (18, 26, .bool false), (19, 27, .bool false), (20, 28, .pointer (some ⟨bp1, 0, none⟩)), (21, 29, .pointer (some ⟨bp1, 0, none⟩)), (22, 30, .pointer (some ⟨bp1, 0, none⟩)), (23, 31, .pointer (some ⟨bp1, 1, none⟩)), (24, 32, p1_h0.v), (25, 33, .int .i64 (p1.told_lines.length : Int)), (26, 34, .pointer (some ⟨bq1, 0, none⟩)), (27, 35, .pointer (some ⟨bq1, 0, none⟩)), (28, 36, .pointer (some ⟨bq1, 0, none⟩)), (29, 37, .pointer (some ⟨bq1, 1, none⟩)), (30, 38, q1_h0.v), (31, 39, .int .i64 (q1.told_lines.length : Int))] mixed kr kr dc (by rfl) kr kr (DrawPre.cons ?_ (DrawPre.cons ?_ (DrawPre.cons ?_ (DrawPre.cons ?_ (DrawPre.cons ?_ (DrawPre.cons ?_ (DrawPre.cons ?_ (DrawPre.cons ?_ (DrawPre.cons ?_ (DrawPre.cons ?_ (DrawPre.cons ?_ (DrawPre.cons ?_ (DrawPre.cons ?_ (DrawPre.cons ?_ (DrawPre.cons ?_ (DrawPre.cons ?_ (DrawPre.cons ?_ (DrawPre.cons ?_ (DrawPre.cons ?_ (DrawPre.cons ?_ (DrawPre.cons ?_ (DrawPre.cons ?_ (DrawPre.cons ?_ (DrawPre.cons ?_ (DrawPre.cons ?_ (DrawPre.cons ?_ (DrawPre.cons ?_ (DrawPre.cons ?_ (DrawPre.cons ?_ (DrawPre.cons ?_ (DrawPre.cons ?_ (DrawPre.cons ?_ DrawPre.nil)))))))))))))))))))))))))))))))) ?_
  ·
   intro D hn hd hcl hu hi
   refine TO.move rfl dc (dl_old (by rfl) rfl) ?_
   exact TX.quiet 0 hu hi rfl
  ·
   intro D hn hd hcl hu hi
   refine TO.bin rfl dc (dl_lookup (m := 0) hu rfl (hd 0 dc)) rfl (bin_ptrnileqlR Tryd.underlying23) ?_
   exact TX.quiet 1 hu hi rfl
  ·
   intro D hn hd hcl hu hi
   refine TO.move rfl dc (dl_lookup (m := 1) hu rfl (hd 1 dc)) ?_
   exact TX.quiet 2 hu hi rfl
  ·
   intro D hn hd hcl hu hi
   refine TO.move (gd_T rfl (dl_lookup (m := 2) hu rfl (hd 2 dc))) dc (dl_old (by rfl) rfl) ?_
   exact TX.quiet 3 hu hi rfl
  ·
   intro D hn hd hcl hu hi
   refine TO.bin (gd_T rfl (dl_lookup (m := 2) hu rfl (hd 2 dc))) dc (dl_lookup (m := 3) hu rfl (hd 3 dc)) rfl (bin_ptrnileqlR Tryd.underlying23) ?_
   exact TX.quiet 4 hu hi rfl
  ·
   intro D hn hd hcl hu hi
   refine TO.pick (b := false) rfl dc (dl_lookup (m := 2) hu rfl (hd 2 dc)) (dl_lookup (m := 4) hu rfl (hd 4 dc)) ?_
   exact TX.quiet 5 hu hi rfl
  ·
   intro D hn hd hcl hu hi
   refine TO.move rfl dc (dl_lookup (m := 5) hu rfl (hd 5 dc)) ?_
   exact TX.quiet 6 hu hi rfl
  ·
   intro D hn hd hcl hu hi
   refine TO.move (gd_T rfl (dl_lookup (m := 6) hu rfl (hd 6 dc))) dc (dl_old (by rfl) rfl) ?_
   exact TX.quiet 7 hu hi rfl
  ·
   intro D hn hd hcl hu hi
   refine TO.nilCheck (gd_T rfl (dl_lookup (m := 6) hu rfl (hd 6 dc))) dc (dl_lookup (m := 7) hu rfl (hd 7 dc)) ?_
   exact TX.quiet 8 hu hi rfl
  ·
   intro D hn hd hcl hu hi
   refine TO.fieldAddr fl_93_0 (gd_T rfl (dl_lookup (m := 6) hu rfl (hd 6 dc))) dc (dl_lookup (m := 8) hu rfl (hd 8 dc)) (show _ = 0 from rfl) ?_
   exact TX.quiet 9 hu hi rfl
  ·
   intro D hn hd hcl hu hi
   refine TO.fieldAddr fl_91_0 (gd_T rfl (dl_lookup (m := 6) hu rfl (hd 6 dc))) dc (dl_lookup (m := 9) hu rfl (hd 9 dc)) (show _ = 0 from rfl) ?_
   exact TX.quiet 10 hu hi rfl
  ·
   intro D hn hd hcl hu hi
   refine TO.loadRd (i := 0) hrd rfl sc_9 (gd_T rfl (dl_lookup (m := 6) hu rfl (hd 6 dc))) dc (dl_lookup (m := 10) hu rfl (hd 10 dc)) rfl ?_
   exact TX.quiet 11 hu hi rfl
  ·
   intro D hn hd hcl hu hi
   refine TO.move (gd_T rfl (dl_lookup (m := 6) hu rfl (hd 6 dc))) dc (dl_old (by rfl) rfl) ?_
   exact TX.quiet 12 hu hi rfl
  ·
   intro D hn hd hcl hu hi
   refine TO.nilCheck (gd_T rfl (dl_lookup (m := 6) hu rfl (hd 6 dc))) dc (dl_lookup (m := 12) hu rfl (hd 12 dc)) ?_
   exact TX.quiet 13 hu hi rfl
  ·
   intro D hn hd hcl hu hi
   refine TO.fieldAddr fl_93_0 (gd_T rfl (dl_lookup (m := 6) hu rfl (hd 6 dc))) dc (dl_lookup (m := 13) hu rfl (hd 13 dc)) (show _ = 0 from rfl) ?_
   exact TX.quiet 14 hu hi rfl
  ·
   intro D hn hd hcl hu hi
   refine TO.fieldAddr fl_91_0 (gd_T rfl (dl_lookup (m := 6) hu rfl (hd 6 dc))) dc (dl_lookup (m := 14) hu rfl (hd 14 dc)) (show _ = 0 from rfl) ?_
   exact TX.quiet 15 hu hi rfl
  ·
   intro D hn hd hcl hu hi
   refine TO.loadRd (i := 3) hrd rfl sc_9 (gd_T rfl (dl_lookup (m := 6) hu rfl (hd 6 dc))) dc (dl_lookup (m := 15) hu rfl (hd 15 dc)) rfl ?_
   exact TX.quiet 16 hu hi rfl
  ·
   intro D hn hd hcl hu hi
   refine TO.bin (gd_T rfl (dl_lookup (m := 6) hu rfl (hd 6 dc))) dc (dl_lookup (m := 11) hu rfl (hd 11 dc)) (dl_lookup (m := 16) hu rfl (hd 16 dc)) bin_sneq (TO.rewH (show Value.bool (!decide (p1.told_title = q1.told_title)) = Value.bool false from congrArg Value.bool hb1) ?_)
   exact TX.quiet 17 hu hi rfl
  ·
   intro D hn hd hcl hu hi
   refine TO.pick (b := false) rfl dc (dl_lookup (m := 6) hu rfl (hd 6 dc)) (dl_lookup (m := 17) hu rfl (hd 17 dc)) ?_
   exact TX.quiet 18 hu hi rfl
  ·
   intro D hn hd hcl hu hi
   refine TO.move rfl dc (dl_lookup (m := 18) hu rfl (hd 18 dc)) ?_
   exact TX.quiet 19 hu hi rfl
  ·
   intro D hn hd hcl hu hi
   refine TO.move (gd_T rfl (dl_lookup (m := 19) hu rfl (hd 19 dc))) dc (dl_old (by rfl) rfl) ?_
   exact TX.quiet 20 hu hi rfl
  ·
   intro D hn hd hcl hu hi
   refine TO.nilCheck (gd_T rfl (dl_lookup (m := 19) hu rfl (hd 19 dc))) dc (dl_lookup (m := 20) hu rfl (hd 20 dc)) ?_
   exact TX.quiet 21 hu hi rfl
  ·
   intro D hn hd hcl hu hi
   refine TO.fieldAddr fl_93_0 (gd_T rfl (dl_lookup (m := 19) hu rfl (hd 19 dc))) dc (dl_lookup (m := 21) hu rfl (hd 21 dc)) (show _ = 0 from rfl) ?_
   exact TX.quiet 22 hu hi rfl
  ·
   intro D hn hd hcl hu hi
   refine TO.fieldAddr fl_91_1 (gd_T rfl (dl_lookup (m := 19) hu rfl (hd 19 dc))) dc (dl_lookup (m := 22) hu rfl (hd 22 dc)) (show _ = 1 from rfl) ?_
   exact TX.quiet 23 hu hi rfl
  ·
   intro D hn hd hcl hu hi
   refine TO.loadRd (i := 0) hrd rfl sc_57 (gd_T rfl (dl_lookup (m := 19) hu rfl (hd 19 dc))) dc (dl_lookup (m := 23) hu rfl (hd 23 dc)) rfl ?_
   exact TX.quiet 24 hu hi rfl
  ·
   intro D hn hd hcl hu hi
   refine TO.lenVw (hrd.vw (i := 1) rfl) (gd_T rfl (dl_lookup (m := 19) hu rfl (hd 19 dc))) dc (dl_lookup (m := 24) hu rfl (hd 24 dc)) Tryd.underlying57 ?_
   exact TX.quiet 25 hu hi rfl
  ·
   intro D hn hd hcl hu hi
   refine TO.move (gd_T rfl (dl_lookup (m := 19) hu rfl (hd 19 dc))) dc (dl_old (by rfl) rfl) ?_
   exact TX.quiet 26 hu hi rfl
  ·
   intro D hn hd hcl hu hi
   refine TO.nilCheck (gd_T rfl (dl_lookup (m := 19) hu rfl (hd 19 dc))) dc (dl_lookup (m := 26) hu rfl (hd 26 dc)) ?_
   exact TX.quiet 27 hu hi rfl
  ·
   intro D hn hd hcl hu hi
   refine TO.fieldAddr fl_93_0 (gd_T rfl (dl_lookup (m := 19) hu rfl (hd 19 dc))) dc (dl_lookup (m := 27) hu rfl (hd 27 dc)) (show _ = 0 from rfl) ?_
   exact TX.quiet 28 hu hi rfl
  ·
   intro D hn hd hcl hu hi
   refine TO.fieldAddr fl_91_1 (gd_T rfl (dl_lookup (m := 19) hu rfl (hd 19 dc))) dc (dl_lookup (m := 28) hu rfl (hd 28 dc)) (show _ = 1 from rfl) ?_
   exact TX.quiet 29 hu hi rfl
  ·
   intro D hn hd hcl hu hi
   refine TO.loadRd (i := 3) hrd rfl sc_57 (gd_T rfl (dl_lookup (m := 19) hu rfl (hd 19 dc))) dc (dl_lookup (m := 29) hu rfl (hd 29 dc)) rfl ?_
   exact TX.quiet 30 hu hi rfl
  ·
   intro D hn hd hcl hu hi
   refine TO.lenVw (hrd.vw (i := 4) rfl) (gd_T rfl (dl_lookup (m := 19) hu rfl (hd 19 dc))) dc (dl_lookup (m := 30) hu rfl (hd 30 dc)) Tryd.underlying57 ?_
   exact TX.quiet 31 hu hi rfl
  refine TO.bin rfl dc rfl rfl bin_neq (TO.pick (b := false) rfl dc rfl rfl (TO.nil (TX.next ?_)))
  refine TC.condB rfl (fun hb2 => ?_) (fun hb2 => ?_)
  ·
   have h := condT hb2 h
   refine TC.seq (TC.region (TO.assign rfl dc rfl (TO.nil (TX.next (TC.ret (TX.thenRet ?_))))))
   cases h
   exact TX.fin (rs := [.tmp 4]) () (.inl rfl) Tryd.results19 (.cons (.tmp rfl) .nil) rfl Splits.nil
  ·
   have h := condF hb2 h
   refine TC.skip (TX.next ?_)
   obtain ⟨j1, hj1, h⟩ := joinE h
   refine TC.cutN (β := Unit) 0 rfl (fun b => j1 = some r) (fun b => []) (fun b => []) (fun b => []) (fun cut => ?_) ?_
   ·
    refine cut (TC.seq (TC.region (TO.move rfl dc rfl (TO.nilCheck rfl dc rfl (TO.fieldAddr fl_93_0 rfl dc rfl (show _ = 0 from rfl) (TO.fieldAddr fl_91_1 rfl dc rfl (show _ = 1 from rfl) (TO.loadRd (i := 0) hrd rfl sc_57 rfl dc rfl rfl (TO.lenVw (hrd.vw (i := 1) rfl) rfl dc rfl Tryd.underlying57 (TO.move rfl dc rfl (TO.nil (TX.next (TC.block ?_))))))))))))
    refine TC.loopD (β := Nat × Int) (fun b => loopG (fun _ => none) (poem_Poem_Same_s1 p1 q1 j1) b.1 b.2 = some r) (fun b => []) (fun b => [(1, .pointer (some ⟨bq1, 0, none⟩)), (46, p1_h0.v), (47, .int .i64 (p1.told_lines.length : Int)), (48, .int .i64 b.2)]) (fun b => []) (fun b => b.1) (fuel, 0) h rfl (Sbs.cons rfl (Sbs.cons rfl (Sbs.cons rfl (Sbs.cons rfl (Sbs.nil))))) Splits.nil ?_
    rintro ⟨n1, x3⟩ h
    cases n1 with
    | zero => exact noneE h
    | succ n1 =>
     obtain ⟨ag1, hag1⟩ : ∃ ag, ag = loopG (fun _ => none) (poem_Poem_Same_s1 p1 q1 j1) n1 := ⟨_, rfl⟩
     have h : poem_Poem_Same_s1 p1 q1 j1 ag1 x3 = some r := by rw [hag1]; exact h
     unfold poem_Poem_Same_s1 at h
     show TC _ _ _ _ _ ([]) _ _ [(1, .pointer (some ⟨bq1, 0, none⟩)), (46, p1_h0.v), (47, .int .i64 (p1.told_lines.length : Int)), (48, .int .i64 x3)] []
     refine TC.seq (TC.region (TO.bin rfl dc rfl rfl bin_lss (TO.nil (TX.next (TC.seq ?_)))))
     refine TC.condB rfl (fun hb3 => ?_) (fun hb3 => ?_)
     ·
      have h := condT hb3 h
      refine TC.skip (TX.next (TC.seq (TC.block (TC.seq (TC.region (TO.move rfl dc rfl ?_))))))
      obtain ⟨q2, hq1, h⟩ := andE h
      refine TO.indexVw (hrd.vw (i := 1) rfl) hq1 Tryd.underlying57 sz_36 rfl dc rfl rfl rfl (TO.loadsVecRd (m := 0 + (x3 : Int).toNat) (j := 0) (i := 1) (q := q2) (cs := [.string q2.Text, .int .i64 q2.Indent, .int .i64 q2.Stanza, .int .i64 q2.In, .int .i64 q2.Span_From, .int .i64 q2.Span_To]) hrd rfl rw_36 enc_Gapi_Verse_len rfl dc rfl (Vw.get (hrd.vw (i := 1) rfl) hq1) rfl rfl rfl ?_)
      refine TO.alloc zr_36 rfl dc (fun b1 => ?_)
      refine TO.assign rfl dc rfl (TO.stores (k := 0) (vs := [.string q2.Text, .int .i64 q2.Indent, .int .i64 q2.Stanza, .int .i64 q2.In, .int .i64 q2.Span_From, .int .i64 q2.Span_To]) (l' := [.string q2.Text, .int .i64 q2.Indent, .int .i64 q2.Stanza, .int .i64 q2.In, .int .i64 q2.Span_From, .int .i64 q2.Span_To]) sz_36 rfl rfl rfl rfl rfl (show _ ≤ _ by simp) rfl rfl ?_)
      show TO _ _ _ _ _ _ _ _ _ _ [cells b1 [.string q2.Text, .int .i64 q2.Indent, .int .i64 q2.Stanza, .int .i64 q2.In, .int .i64 q2.Span_From, .int .i64 q2.Span_To] 36]
      refine TO.nil (TX.next (TC.seq (TC.region (TO.move rfl dc rfl (TO.nilCheck rfl dc rfl (TO.fieldAddr fl_93_0 rfl dc rfl (show _ = 0 from rfl) (TO.fieldAddr fl_91_1 rfl dc rfl (show _ = 1 from rfl) (TO.loadRd (i := 3) hrd rfl sc_57 rfl dc rfl rfl (TO.move rfl dc rfl ?_)))))))))
      obtain ⟨q3, hq2, h⟩ := andE h
      refine TO.indexVw (hrd.vw (i := 4) rfl) hq2 Tryd.underlying57 sz_36 rfl dc rfl rfl rfl (TO.loadsVecRd (m := 0 + (x3 : Int).toNat) (j := 0) (i := 4) (q := q3) (cs := [.string q3.Text, .int .i64 q3.Indent, .int .i64 q3.Stanza, .int .i64 q3.In, .int .i64 q3.Span_From, .int .i64 q3.Span_To]) hrd rfl rw_36 enc_Gapi_Verse_len rfl dc rfl (Vw.get (hrd.vw (i := 4) rfl) hq2) rfl rfl rfl ?_)
      refine TO.alloc zr_36 rfl dc (fun b2 => ?_)
      refine TO.stores (k := 1) (vs := [.string q3.Text, .int .i64 q3.Indent, .int .i64 q3.Stanza, .int .i64 q3.In, .int .i64 q3.Span_From, .int .i64 q3.Span_To]) (l' := [.string q3.Text, .int .i64 q3.Indent, .int .i64 q3.Stanza, .int .i64 q3.In, .int .i64 q3.Span_From, .int .i64 q3.Span_To]) sz_36 rfl rfl rfl rfl rfl (show _ ≤ _ by simp) rfl rfl ?_
      show TO _ _ _ _ _ _ _ _ _ _ [cells b1 [.string q2.Text, .int .i64 q2.Indent, .int .i64 q2.Stanza, .int .i64 q2.In, .int .i64 q2.Span_From, .int .i64 q2.Span_To] 36, cells b2 [.string q3.Text, .int .i64 q3.Indent, .int .i64 q3.Stanza, .int .i64 q3.In, .int .i64 q3.Span_From, .int .i64 q3.Span_To] 36]
      refine TO.nil (TX.next (TC.seq (TC.region (TO.fieldAddr fl_36_0 rfl dc rfl (show _ = 0 from rfl) (TO.load (k := 0) sc_9 rfl dc rfl rfl rfl (TO.fieldAddr fl_36_0 rfl dc rfl (show _ = 0 from rfl) (TO.load (k := 1) sc_9 rfl dc rfl rfl rfl (TO.bin rfl dc rfl rfl bin_sneq (TO.move rfl dc rfl ?_)))))))))
      refine TO.split (s := 66) rfl (fun hb4 => ?_) (fun hb4 => ?_)
      ·
       have h := condT hb4 h
       refine TO.skip rfl dc (TO.skip rfl dc (TO.skip rfl dc (TO.skip rfl dc (TO.skip rfl dc (TO.pick (b := true) rfl dc rfl rfl (TO.move rfl dc rfl (TO.skip rfl dc (TO.skip rfl dc (TO.skip rfl dc (TO.skip rfl dc (TO.skip rfl dc (TO.pick (b := true) rfl dc rfl rfl (TO.nil ?_)))))))))))))
       refine TX.next (TC.condT rfl (TC.seq (TC.region (TO.assign rfl dc rfl (TO.nil (TX.next (TC.ret (TX.blockRet (TX.thenRet (TX.thenRet (TX.blockRet (TX.thenRet ?_))))))))))))
       cases h
       exact TX.fin (rs := [.tmp 4]) () (.inl rfl) Tryd.results19 (.cons (.tmp rfl) .nil) rfl Splits.nil
      ·
       have h := condF hb4 h
       refine TO.fieldAddr fl_36_1 rfl dc rfl (show _ = 1 from rfl) (TO.load (k := 0) sc_3 rfl dc rfl rfl rfl (TO.fieldAddr fl_36_1 rfl dc rfl (show _ = 1 from rfl) (TO.load (k := 1) sc_3 rfl dc rfl rfl rfl (TO.bin rfl dc rfl rfl bin_neq (TO.pick (b := false) rfl dc rfl rfl (TO.move rfl dc rfl ?_))))))
       refine TO.split (s := 73) rfl (fun hb5 => ?_) (fun hb5 => ?_)
       ·
        have h := condT hb5 h
        refine TO.skip rfl dc (TO.skip rfl dc (TO.skip rfl dc (TO.skip rfl dc (TO.skip rfl dc (TO.pick (b := true) rfl dc rfl rfl (TO.nil (TX.next (TC.condT rfl (TC.seq (TC.region (TO.assign rfl dc rfl (TO.nil (TX.next ?_)))))))))))))
        refine TC.ret (TX.blockRet (TX.thenRet (TX.thenRet (TX.blockRet (TX.thenRet ?_)))))
        cases h
        exact TX.fin (rs := [.tmp 4]) () (.inl rfl) Tryd.results19 (.cons (.tmp rfl) .nil) rfl Splits.nil
       ·
        have h := condF hb5 h
        refine TO.fieldAddr fl_36_2 rfl dc rfl (show _ = 2 from rfl) (TO.load (k := 0) sc_3 rfl dc rfl rfl rfl (TO.fieldAddr fl_36_2 rfl dc rfl (show _ = 2 from rfl) (TO.load (k := 1) sc_3 rfl dc rfl rfl rfl (TO.bin rfl dc rfl rfl bin_neq (TO.pick (b := false) rfl dc rfl rfl (TO.nil (TX.next ?_)))))))
        refine TC.condB rfl (fun hb6 => ?_) (fun hb6 => ?_)
        ·
         have h := condT hb6 h
         refine TC.seq (TC.region (TO.assign rfl dc rfl (TO.nil (TX.next (TC.ret (TX.blockRet (TX.thenRet (TX.thenRet (TX.blockRet (TX.thenRet ?_))))))))))
         cases h
         exact TX.fin (rs := [.tmp 4]) () (.inl rfl) Tryd.results19 (.cons (.tmp rfl) .nil) rfl Splits.nil
        ·
         have h := condF hb6 h
         refine TC.skip (TX.blockNormal (TX.next (TC.region ?_)))
         obtain ⟨hg1, h⟩ := grdE h
         refine TO.bin rfl dc rfl rfl (bin_add (r := x3 + 1) (IntWalk.i64_in _ hg1)) (TO.move rfl dc rfl (TO.nil ?_))
         subst hag1
         exact TX.againD (n1, x3 + 1) h (Nat.lt_succ_self _) rfl (Sbs.cons rfl (Sbs.cons rfl (Sbs.cons rfl (Sbs.cons rfl (Sbs.nil))))) Splits.nil
     ·
      have h := condF hb3 h
      refine TC.exit (TX.thenExit (TX.thenExit (TX.blockHere ?_)))
      exact TX.meetD () h rfl (Sbs.nil) Splits.nil
   ·
    rintro _ h
    rw [hj1] at h
    show TC _ _ _ _ _ ([]) _ _ [] []
    refine TC.seq (TC.region (TO.assign rfl dc rfl (TO.nil (TX.next (TC.ret ?_)))))
    cases h
    exact TX.fin (rs := [.tmp 4]) () (.inl rfl) Tryd.results19 (.cons (.tmp rfl) .nil) rfl Splits.nil
end Go.Proofs.YtgfkogafkhbgnaaDoor
namespace Go.Proofs.YtgfkogafkhbgnaaDoor
open Go.RowKit Go.Lib Go.Shelf
attribute [local go_sem] Oper.semAt_some wide_fn wide_in_fn wide_depth
set_option linter.unusedVariables false

end Go.Proofs.YtgfkogafkhbgnaaDoor
namespace Go.Proofs.YtgfkogafkhbgnaaDoor
open Go.RowKit Go.Lib

/-- The slice value v owns the bytes b. -/
def Br (w : World) (base : Nat) (e : TypeId) (v : Value) (b : ByteArray) : Prop := w.ownsRow base e 1 v b.size (strCells b)
theorem Br.nil (w : World) (base : Nat) (e : TypeId) : Br w base e (.slice none 0 0) ⟨#[]⟩ := World.ownsRow_nil w base e 1
theorem Br.below {w w' : World} {base : Nat} {e : TypeId} {v : Value} {b : ByteArray} (h : Br w base e v b) (hb : Below w.heap.size w w') : Br w' base e v b := by
  refine ⟨h.1, ?_⟩
  rcases h.2 with hn | ⟨g, cap, cur, rfl, h2, h3, rest⟩
  · exact .inl hn
  · exact .inr ⟨g, cap, cur, rfl, h2, some_lt h3 hb, rest⟩
theorem Br.lt {w : World} {base : Nat} {e : TypeId} {v : Value} {b : ByteArray} (h : Br w base e v b) : ∀ k, v.ownBlock = some k → base ≤ k ∧ k < w.heap.size := World.ownsRow.lt h
theorem Br.conv {P : Program} {w : World} {base : Nat} {el : TypeId} {v : Value} {b : ByteArray} (h : Br w base el v b) (src dst e : TypeId) (hs : P.underlying src = some (.slice e)) (he : P.underlying e = some (.int .u8)) (hd : P.underlying dst = some .string) :
    (convert src dst v).run P w = .ok (.string b) w := by
  rcases h.2 with ⟨rfl, h2⟩ | ⟨g, cap, cur, rfl, _, _, _⟩
  · have hb : b = ⟨#[]⟩ := by
      apply ByteArray.ext; exact Array.eq_empty_of_size_eq_zero h2
    rw [hb]; exact run_convert_nil_bytes w src dst e 0 hs he hd
  · have hl : b.data.toList.length = b.size := by rw [Array.length_toList]; rfl
    have := run_convert_bytes_back (P := P) w src dst e ⟨g, 0, none⟩ cap b.data.toList hs he hd (fun j hj => by
      refine World.ownsRow.cells h rfl j _ ?_
      unfold strCells; rw [List.getElem?_map, List.getElem?_eq_getElem hj]; rfl)
    rw [hl] at this
    rw [this]

end Go.Proofs.YtgfkogafkhbgnaaDoor
namespace Go.Proofs.YtgfkogafkhbgnaaDoor
open Go.RowKit Go.Lib Go.Shelf
attribute [local go_sem] Oper.semAt_some
set_option linter.unusedVariables false
set_option linter.unusedSimpArgs false

theorem binfoB : (Tryd.prog.info? 5).map (fun i => (i.zero, i.size, i.bytes)) = some (some (.int .u8 0), 1, 1) := by kernel_rfl
theorem bSize : ∃ j, Tryd.prog.info? 106 = some j ∧ j.size ≠ 0 := by
  have h : (Tryd.prog.info? 106).map (fun j => decide (j.size ≠ 0)) = some true := by kernel_rfl
  cases hj : Tryd.prog.info? 106 with
  | none => rw [hj] at h; simp at h
  | some j => rw [hj] at h; exact ⟨j, rfl, by simpa using h⟩

set_option maxRecDepth 100000 in
set_option maxHeartbeats 4000000 in
theorem check_new (b : Nat) (v : Value) (w : World) (h : w.heap[b]? = some (.cells #[.pointer none, v] 106 (0, 0))) :
    Calls Tryd.prog 79 #[.pointer (some ⟨b, 0, none⟩)] w fun e w' => e = .returned (.tuple #[]) ∧ w' = w.setCell ⟨b, 0, none⟩ (.pointer (some ⟨b, 0, none⟩)) := by
  have c0 : w.cell? ⟨b, 0, none⟩ = some (.pointer none) := cell_at h rfl
  have f0 := frozen_at h 0
  have hsh : w.shape? b = some (106, 2) := by simp [World.shape?, h]
  obtain ⟨j, hj, hjs⟩ := bSize
  clear h
  go_enter Tryd.func79, Tryd.ntmps79
  go_wp2
  rw [Lib.run_to_unsafe w ⟨b, 0, none⟩ (t := 106) (by kernel_rfl) (by kernel_rfl) hj hjs hsh (Nat.zero_lt_succ 1)]
  simp only [Result.andThen]
  rw [Oper.upon_value]
  go_wp2
  rw [run_callFunc_extern Tryd.func97 (by kernel_rfl) (by kernel_rfl) (by kernel_rfl) (e := Extern.AbiNoEscape.same) (by kernel_rfl)]
  rw [Lib.run_noEscape]
  simp only [Result.andThen]
  rw [Oper.upon_value]
  go_wp2
  rw [Lib.run_from_unsafe w ⟨b, 0, none⟩ (u := 106) (by kernel_rfl) (by kernel_rfl) hj hsh (by kernel_rfl)]
  simp only [Result.andThen]
  rw [Oper.upon_value]
  go_wp2
  go_end0
  exact ⟨rfl, rfl⟩
set_option maxRecDepth 100000 in
set_option maxHeartbeats 4000000 in
theorem check_used (b : Nat) (v : Value) (w : World) (h : w.heap[b]? = some (.cells #[.pointer (some ⟨b, 0, none⟩), v] 106 (0, 0))) :
    Calls Tryd.prog 79 #[.pointer (some ⟨b, 0, none⟩)] w fun e w' => e = .returned (.tuple #[]) ∧ w' = w := by
  have c0 : w.cell? ⟨b, 0, none⟩ = some (.pointer (some ⟨b, 0, none⟩)) := cell_at h rfl
  obtain ⟨j, hj, hjs⟩ := bSize
  clear h
  go_enter Tryd.func79, Tryd.ntmps79
  go_wp2
  rw [Lib.run_neq_ptr_same w _ (te := 106) (by kernel_rfl) hj]
  go_wp2
  go_end0
  exact ⟨rfl, rfl⟩

/-- A builder in block b that holds the bytes bs; C: its blocks. -/
def Bld (b : Nat) (bs : ByteArray) (C : Nat → Prop) (w : World) : Prop :=
  ∃ p v D, w.heap[b]? = some (.cells #[p, v] 106 (0, 0)) ∧ (p = .pointer none ∨ p = .pointer (some ⟨b, 0, none⟩)) ∧ Byt 5 v bs D w ∧ ¬ D b ∧ C = (fun k => k = b ∨ D k)
theorem Bld.local {b : Nat} {bs : ByteArray} {C : Nat → Prop} {w w' : World} (h : Bld b bs C w) (hk : ∀ k, C k → w'.heap[k]? = w.heap[k]?) : Bld b bs C w' := by
  obtain ⟨p, v, D, h1, h2, h3, h4, rfl⟩ := h
  exact ⟨p, v, D, (hk b (.inl rfl)).trans h1, h2, h3.local (fun k h => hk k (.inr h)), h4, rfl⟩
theorem Bld.lt {b : Nat} {bs : ByteArray} {C : Nat → Prop} {w : World} (h : Bld b bs C w) : ∀ k, C k → k < w.heap.size := by
  obtain ⟨p, v, D, h1, h2, h3, h4, rfl⟩ := h
  rintro k (rfl | hk)
  · exact lt_of_some h1
  · exact h3.lt k hk
theorem Bld.ext {b : Nat} {bs : ByteArray} {C D D' : Nat → Prop} {w w' : World} (h : Bld b bs C w) (hx : Ext D D' w w') (hd : ∀ k, C k → ¬ D k) : Bld b bs C w' :=
  h.local (fun k hk => hx.1.keep k (h.lt k hk) (hd k hk))
set_option maxRecDepth 100000 in
set_option maxHeartbeats 4000000 in
theorem writeString_any (b : Nat) (bs s : ByteArray) (C : Nat → Prop) (w : World) (h : Bld b bs C w) (hn : bs.size + s.size ≤ 140737488355328) :
    Calls Tryd.prog 55 #[.pointer (some ⟨b, 0, none⟩), .string s] w fun e w' => (∃ u, e = .returned u) ∧ ∃ C', Bld b (bs ++ s) C' w' ∧ Ext C C' w w' := by
  obtain ⟨p, v, D, hbk, hp, hbr, hne, rfl⟩ := h
  obtain ⟨ip, hpi, hpz, hps, hpb⟩ := info_parts binfoB
  obtain ⟨w1, hck, hb1, hbr1, hx1⟩ : ∃ w1, (Calls Tryd.prog 79 #[.pointer (some ⟨b, 0, none⟩)] w fun e w' => e = .returned (.tuple #[]) ∧ w' = w1) ∧
      w1.heap[b]? = some (.cells #[.pointer (some ⟨b, 0, none⟩), v] 106 (0, 0)) ∧ Byt 5 v bs D w1 ∧ Ext (fun k => k = b ∨ D k) (fun k => k = b ∨ D k) w w1 := by
    rcases hp with rfl | rfl
    · have hx : Ext (fun k => k = b) (fun k => k = b) w (w.setCell ⟨b, 0, none⟩ (.pointer (some ⟨b, 0, none⟩))) := Ext.setCell (C' := fun k => k = b) (Ext.refl _ _) (p := ⟨b, 0, none⟩) rfl _
      refine ⟨_, check_new b v w hbk, ?_, hbr.ext hx (by rintro k hk rfl; exact hne hk), Ext.setCell (C' := fun k => k = b ∨ D k) (Ext.refl _ _) (p := ⟨b, 0, none⟩) (.inl rfl) _⟩
      simp [World.setCell, Array.getElem?_modify, hbk]
    · exact ⟨w, check_used b v w hbk, hbk, hbr, Ext.refl _ _⟩
  have c1 : w1.cell? ⟨b, 1, none⟩ = some v := cell_at hb1 rfl
  have hlt : b < w1.heap.size := lt_of_some hb1
  have Hbk := Lib.hid hbk; have Hbr := Lib.hid hbr; have Hx1 := Lib.hid hx1
  clear hbk hbr hx1
  go_enter Tryd.func55, Tryd.ntmps55
  go_wp2_with (first | (go_at_call 79; refine hck.mono ?_; rintro e w' ⟨rfl, rfl⟩) | (refine wpList_append_byt _ rfl _ _ _ _ rfl 5 _ (by kernel_rfl) (by kernel_rfl) hpi hpz hps hpb _ _ _ rfl hbr1 _ rfl hn ?_))
  rintro v' w2 D' hr2 hx2
  have hb2 : w2.heap[b]? = some (.cells #[.pointer (some ⟨b, 0, none⟩), v] 106 (0, 0)) := (hx2.1.keep b hlt hne).trans hb1
  have f1 := frozen_at hb2 1
  have d1 : w2.cell? ⟨b, 1, none⟩ = some v := cell_at hb2 rfl
  have hne' : ¬ D' b := hx2.not hlt hne
  obtain ⟨ao, n', cap', rfl⟩ : ∃ ao n' cap', v' = .slice ao n' cap' := by
    rcases hr2.shape with ⟨rfl, _⟩ | ⟨g, cap, cur, rfl, _⟩ <;> exact ⟨_, _, _, rfl⟩
  have Hr2 := Lib.hid hr2; have Hx2 := Lib.hid hx2; have Hb2 := Lib.hid hb2
  clear hr2 hx2 hb2
  go_wp2
  go_ret2
  have hx3 : Ext (fun k => k = b ∨ D' k) (fun k => k = b ∨ D' k) w2 (w2.setCell ⟨b, 1, none⟩ (.slice ao n' cap')) := Ext.setCell (C' := fun k => k = b ∨ D' k) (Ext.refl _ _) (p := ⟨b, 1, none⟩) (.inl rfl) _
  have hx3' : Ext (fun k => k = b) (fun k => k = b) w2 (w2.setCell ⟨b, 1, none⟩ (.slice ao n' cap')) := Ext.setCell (C' := fun k => k = b) (Ext.refl _ _) (p := ⟨b, 1, none⟩) rfl _
  refine ⟨⟨_, rfl⟩, fun k => k = b ∨ D' k, ⟨_, _, D', ?_, .inr rfl, Hr2.out.ext hx3' (by rintro k hk rfl; exact hne' hk), hne', rfl⟩, ?_⟩
  · simp [World.setCell, Array.getElem?_modify, Hb2.out]
  · refine (Hx1.out.trans ?_).trans hx3
    exact ⟨Hx2.out.1.weaken (fun k _ h => .inr h), fun k hk => by
      rcases hk with rfl | hk
      · exact .inl (.inl rfl)
      · exact (Hx2.out.2 k hk).imp .inr id⟩

/-- The string of a builder. -/
theorem freeze_ext {C C' : Nat → Prop} {a w : World} (h : Ext C C' a w) {g : Nat} (hg : C' g) (m : Nat) : Ext C C' a (w.freeze ⟨g, 0, none⟩ m) := by
  unfold World.freeze
  split
  · exact h
  · have hs : ∀ f : Obj → Obj, ({ w with heap := w.heap.modify g f } : World).heap.size = w.heap.size := fun f => by simp
    refine ⟨⟨h.1.os, h.1.tape, h.1.output, by simpa using h.1.size, fun k hk hn => ?_⟩, fun k hk => by simpa using h.2 k hk⟩
    rw [Array.getElem?_modify]
    rw [if_neg]
    · exact h.1.keep k hk hn
    · intro e
      have e' : g = k := e
      subst e'
      rcases h.2 _ hg with h' | h'
      · exact hn h'
      · omega

set_option maxRecDepth 100000 in
set_option maxHeartbeats 4000000 in
theorem bstring_any (b : Nat) (bs : ByteArray) (C : Nat → Prop) (w : World) (h : Bld b bs C w) :
    Calls Tryd.prog 57 #[.pointer (some ⟨b, 0, none⟩)] w fun e w' => e = .returned (.string bs) ∧ Ext C C w w' := by
  obtain ⟨p, v, D, hbk, hp, hbr, hne, rfl⟩ := h
  rcases hbr.shape with ⟨rfl, rfl, rfl⟩ | ⟨g, cap, cur, rfl, hgl, hbc, hcm, rfl, hg⟩
  · have c1 : w.drew.cell? ⟨b, 1, none⟩ = some (.slice none 0 0) := cell_at (w := w.drew) hbk rfl
    have hSD : (Builtin.unsafeSliceData_ #[104] 139 #[.slice none 0 0]).run Tryd.prog w.drew = .ok (.pointer none) w.drew := rfl
    have hUS : ∀ W q, (Builtin.unsafeString_ #[139, 3] 9 #[.pointer q, .int .i64 0]).run Tryd.prog W = .ok (.string .empty) W := fun W q => Lib.run_unsafeString_none W _ _ _ q
    clear hbk hbr
    go_enter Tryd.func57, Tryd.ntmps57
    go_wp2
    go_region
    all_goals (go_wp2; go_ret; exact ⟨rfl, (Ext.refl _ _).drew⟩)
  · by_cases h0 : bs.size = 0
    · have hbs : bs = ⟨#[]⟩ := by apply ByteArray.ext; exact Array.eq_empty_of_size_eq_zero h0
      subst hbs
      have h00 : (⟨#[]⟩ : ByteArray).size = 0 := rfl
      rw [h00] at hbk hbr
      have hUS : ∀ W q, (Builtin.unsafeString_ #[139, 3] 9 #[.pointer q, .int .i64 0]).run Tryd.prog W = .ok (.string .empty) W := fun W q => Lib.run_unsafeString_none W _ _ _ q
      have c1 : w.drew.cell? ⟨b, 1, none⟩ = some (.slice (some ⟨g, 0, none⟩) 0 cap) := cell_at (w := w.drew) hbk rfl
      by_cases hc0 : cap = 0
      · subst hc0
        have hSD : (Builtin.unsafeSliceData_ #[104] 139 #[.slice (some ⟨g, 0, none⟩) 0 0]).run Tryd.prog w.drew = .ok (.pointer (some ⟨w.drew.heap.size, 0, none⟩)) (w.drew.alloc (.view ⟨g, 0, none⟩ 5)) :=
          Lib.run_unsafeSliceData_zero w.drew _ _ 5 (by kernel_rfl) ⟨g, 0, none⟩ 0 (5, cur.size) (by have hg' : w.drew.heap[g]? = some (.cells cur 5 (0, 0)) := hg; simp [World.shape?, hg'])
        have hlt := lt_of_some hbk
        have c2 : (w.drew.alloc (.view ⟨g, 0, none⟩ 5)).cell? ⟨b, 1, none⟩ = some (.slice (some ⟨g, 0, none⟩) 0 0) := cell_at (w := w.drew.alloc _) ((Below.heap_alloc w.drew _ b hlt).trans hbk) rfl
        have c3 : (w.alloc (.view ⟨g, 0, none⟩ 5)).drew.cell? ⟨b, 1, none⟩ = some (.slice (some ⟨g, 0, none⟩) 0 0) := c2
        have c0 : w.cell? ⟨b, 1, none⟩ = some (.slice (some ⟨g, 0, none⟩) 0 0) := c1
        clear hbk hbr hg
        go_enter Tryd.func57, Tryd.ntmps57
        go_wp2
        go_region
        all_goals (go_wp2; go_ret; exact ⟨rfl, (Ext.refl _ _).drew.alloc _⟩)
      · have hSD : (Builtin.unsafeSliceData_ #[104] 139 #[.slice (some ⟨g, 0, none⟩) 0 cap]).run Tryd.prog w.drew = .ok (.pointer (some ⟨g, 0, none⟩)) w.drew := Lib.run_unsafeSliceData_row _ _ _ _ _ _ hc0
        clear hbk hbr hg hc0
        go_enter Tryd.func57, Tryd.ntmps57
        go_wp2
        go_region
        all_goals (go_wp2; go_ret; exact ⟨rfl, (Ext.refl _ _).drew⟩)
    · obtain ⟨l, hl⟩ : ∃ l, l = bs.data.toList := ⟨_, rfl⟩
      have hll : l.length = bs.size := by rw [hl, Array.length_toList]; rfl
      have hbs : bs = ⟨l.toArray⟩ := by rw [hl]
      have hl0 : l ≠ [] := by intro e; rw [e] at hll; exact h0 hll.symm
      rw [← hll] at hbk hbc hbr
      have c1 : w.drew.cell? ⟨b, 1, none⟩ = some (.slice (some ⟨g, 0, none⟩) l.length cap) := cell_at (w := w.drew) hbk rfl
      have hSD : (Builtin.unsafeSliceData_ #[104] 139 #[.slice (some ⟨g, 0, none⟩) l.length cap]).run Tryd.prog w.drew = .ok (.pointer (some ⟨g, 0, none⟩)) w.drew :=
        Lib.run_unsafeSliceData_row _ _ _ _ _ _ (by omega)
      have hcs : cur.size = cap * 1 := by
        rcases hbr.1.2 with ⟨h1, _⟩ | ⟨g', cap', cur', h1, _, h3, _, _, h6, _⟩
        · cases h1
        · have e1 : g = g' := by injection h1 with q1 q2 q3; injection q1 with q1; injection q1
          have e2 : cap = cap' := by injection h1
          subst e1; subst e2
          rw [hg] at h3; injection h3 with h3; injection h3 with h3
          rw [h3]; exact h6
      have hUS : (Builtin.unsafeString_ #[139, 3] 9 #[.pointer (some ⟨g, 0, none⟩), .int .i64 l.length]).run Tryd.prog w.drew = .ok (.string ⟨l.toArray⟩) (w.drew.freeze ⟨g, 0, none⟩ l.length) := by
        refine Lib.run_unsafeString_row w.drew 139 3 9 5 (by kernel_rfl) (by kernel_rfl) g cur.size (by have hg' : w.drew.heap[g]? = some (.cells cur 5 (0, 0)) := hg; simp [World.shape?, hg']) l hl0 (by omega) (by unfold maxLen at hcm; omega) ?_
        intro j x hx
        refine World.ownsRow.cells hbr.1 (g := g) rfl j (.int .u8 x.toNat) ?_
        unfold strCells
        rw [List.getElem?_map, ← hl, hx]; rfl
      rw [hbs]
      have hx : Ext (fun k => k = b ∨ k = g) (fun k => k = b ∨ k = g) w (w.drew.freeze ⟨g, 0, none⟩ l.length) := freeze_ext ((Ext.refl _ _).drew) (.inr rfl) _
      have Hx := Lib.hid hx
      clear hbk hbr hg hx hbs hll hcs
      clear hl
      go_enter Tryd.func57, Tryd.ntmps57
      go_wp2
      go_region
      all_goals (go_wp2; go_ret; exact ⟨rfl, Hx.out⟩)

end Go.Proofs.YtgfkogafkhbgnaaDoor
namespace Go.Proofs.YtgfkogafkhbgnaaDoor
open Go.RowKit Go.Lib Go.Shelf
attribute [local go_sem] Oper.semAt_some
set_option linter.unusedVariables false
set_option linter.unusedSimpArgs false
theorem Bld.drew {b : Nat} {bs : ByteArray} {C : Nat → Prop} {w : World} (h : Bld b bs C w) : Bld b bs C w.drew := h.local (fun _ _ => rfl)
/-! ### As contracts -/
def bldA (b : Nat) (bs : ByteArray) : Asn := ⟨fun C w => Bld b bs C w, fun h => h.lt, fun h _ hk => h.local hk⟩
theorem wstr_fn (b : Nat) (bs s : ByteArray) (hn : bs.size + s.size ≤ 140737488355328) : Fn Tryd.prog 55 [.pointer (some ⟨b, 0, none⟩), .string s] [bldA b bs] (fun u : Value => u) (fun _ => [bldA b (bs ++ s)]) := by
  intro w C hA
  refine (writeString_any b bs s C w (sepL.one1.1 hA) hn).mono ?_
  rintro e w' ⟨⟨u, rfl⟩, C', h1, h2⟩
  exact ⟨u, rfl, C', sepL.one1.2 h1, h2⟩
theorem bstr_fn (b : Nat) (bs : ByteArray) : Fn Tryd.prog 57 [.pointer (some ⟨b, 0, none⟩)] [bldA b bs] (fun _ : Unit => .string bs) (fun _ => []) := by
  intro w C hA
  refine (bstring_any b bs C w (sepL.one1.1 hA)).mono ?_
  rintro e w' ⟨rfl, h2⟩
  exact ⟨(), rfl, fun _ => False, fun _ h => h, h2.1, fun k hk => hk.elim⟩
theorem Ent.bldNew {b : Nat} : Ent (cells b [.pointer none, .slice none 0 0] 106) (bldA b ⟨#[]⟩) := by
  intro C w h
  have hC : C = fun k => k = b := funext fun k => propext (h.1 k)
  subst hC
  exact ⟨_, _, _, h.2, .inl rfl, Byt.nil, by simp, by funext k; simp⟩
end Go.Proofs.YtgfkogafkhbgnaaDoor
namespace Go.Proofs.YtgfkogafkhbgnaaDoor
open Go.RowKit Go.Lib Go.Shelf
set_option linter.unusedVariables false
set_option linter.unusedSimpArgs false
set_option maxHeartbeats 4000000 in
set_option maxRecDepth 100000 in
theorem blen_any (b : Nat) (bs : ByteArray) (C : Nat → Prop) (w : World) (h : Bld b bs C w) :
    Calls Tryd.prog 56 #[.pointer (some ⟨b, 0, none⟩)] w fun e w' => e = .returned (.int .i64 (bs.size : Int)) ∧ w = w' := by
  obtain ⟨p, v, D, hbk, hp, hbr, hne, rfl⟩ := h
  rcases hbr.shape with ⟨rfl, rfl, rfl⟩ | ⟨g, cap, cur, rfl, hgl, hbc, hcm, rfl, hg⟩
  · have c1 : w.cell? ⟨b, 1, none⟩ = some (.slice none 0 0) := cell_at hbk rfl
    clear hbk hbr
    go_enter Tryd.func56, Tryd.ntmps56
    go_wp2
    go_ret
    exact ⟨rfl, rfl⟩
  · have c1 : w.cell? ⟨b, 1, none⟩ = some (.slice (some ⟨g, 0, none⟩) bs.size cap) := cell_at hbk rfl
    clear hbk hbr
    go_enter Tryd.func56, Tryd.ntmps56
    go_wp2
    go_ret
    exact ⟨rfl, rfl⟩
theorem blen_fn (b : Nat) (bs : ByteArray) : Fn Tryd.prog 56 [.pointer (some ⟨b, 0, none⟩)] [bldA b bs] (fun _ : Unit => .int .i64 (bs.size : Int)) (fun _ => [bldA b bs]) := by
  intro w C hA
  refine (blen_any b bs C w (sepL.one1.1 hA)).mono ?_
  rintro e w' ⟨rfl, rfl⟩
  exact ⟨(), rfl, C, hA, Ext.refl _ _⟩
end Go.Proofs.YtgfkogafkhbgnaaDoor
namespace Go.Proofs.YtgfkogafkhbgnaaDoor
open Go.RowKit Go.Lib
set_option linter.unusedVariables false
set_option linter.unusedSimpArgs false
def poem_printed_s2 (j3 : ByteArray → Option ByteArray) (x5 : List ByteArray) (ag2 : ByteArray → Int → Option ByteArray) (b12 : ByteArray) (x8 : Int) : Option ByteArray :=
bcond (decide ((x8 : Int) < (x5.length : Int))) (
andThen (getO x5 x8) fun (q2 : ByteArray) =>
grd (q2.size + (⟨#[10]⟩ : ByteArray).size ≤ 9223372036854775807) <|
grd (b12.size + (q2 ++ (⟨#[10]⟩ : ByteArray)).size ≤ 140737488355328) <|
grd (I64 (x8 + 1)) <|
ag2 (b12 ++ (q2 ++ (⟨#[10]⟩ : ByteArray))) (x8 + 1)
) (
j3 b12
)
def poem_printed_s1 (stanzas1 : List (List ByteArray)) (j2 : ByteArray → Option ByteArray) (ag1 : ByteArray → Int → Option ByteArray) (b7 : ByteArray) (x4 : Int) : Option ByteArray :=
bcond (decide ((x4 : Int) < (stanzas1.length : Int))) (
joinK (fun (j3 : ByteArray → Option ByteArray) =>
andThen (getO stanzas1 x4) fun (x5 : List ByteArray) =>
joinK (fun (j4 : ByteArray → Option ByteArray) =>
bcond (decide ((0 : Int) < (b7.size : Int))) (
grd (b7.size + (⟨#[10]⟩ : ByteArray).size ≤ 140737488355328) <|
j4 (b7 ++ (⟨#[10]⟩ : ByteArray))
) (
j4 b7
)
) (fun (b9 : ByteArray) =>
loopG (fun _ _ => none) (poem_printed_s2 j3 x5) fuel b9 0
)
) (fun (b8 : ByteArray) =>
grd (I64 (x4 + 1)) <|
ag1 b8 (x4 + 1)
)
) (
j2 b7
)
def poem_printed_v (title1 : ByteArray) (stanzas1 : List (List ByteArray)) : Option ByteArray :=
joinK (fun (j1 : ByteArray → Option ByteArray) =>
bcond (!decide (title1 = (⟨#[]⟩ : ByteArray))) (
grd ((⟨#[35, 32]⟩ : ByteArray).size + title1.size ≤ 9223372036854775807) <|
grd (((⟨#[35, 32]⟩ : ByteArray) ++ title1).size + (⟨#[10]⟩ : ByteArray).size ≤ 9223372036854775807) <|
grd ((⟨#[]⟩ : ByteArray).size + (((⟨#[35, 32]⟩ : ByteArray) ++ title1) ++ (⟨#[10]⟩ : ByteArray)).size ≤ 140737488355328) <|
j1 ((⟨#[]⟩ : ByteArray) ++ (((⟨#[35, 32]⟩ : ByteArray) ++ title1) ++ (⟨#[10]⟩ : ByteArray)))
) (
bcond (decide ((0 : Int) < (stanzas1.length : Int))) (
andThen (getO stanzas1 0) fun (x1 : List ByteArray) =>
andThen (getO x1 0) fun (q1 : ByteArray) =>
andThen (poem_titled_v q1) fun (r1 : Bool) =>
bcond (r1) (
grd ((⟨#[35, 32]⟩ : ByteArray).size + title1.size ≤ 9223372036854775807) <|
grd (((⟨#[35, 32]⟩ : ByteArray) ++ title1).size + (⟨#[10]⟩ : ByteArray).size ≤ 9223372036854775807) <|
grd ((⟨#[]⟩ : ByteArray).size + (((⟨#[35, 32]⟩ : ByteArray) ++ title1) ++ (⟨#[10]⟩ : ByteArray)).size ≤ 140737488355328) <|
j1 ((⟨#[]⟩ : ByteArray) ++ (((⟨#[35, 32]⟩ : ByteArray) ++ title1) ++ (⟨#[10]⟩ : ByteArray)))
) (
j1 (⟨#[]⟩ : ByteArray)
)
) (
j1 (⟨#[]⟩ : ByteArray)
)
)
) (fun (b2 : ByteArray) =>
joinK (fun (j2 : ByteArray → Option ByteArray) =>
loopG (fun _ _ => none) (poem_printed_s1 stanzas1 j2) fuel b2 0
) (fun (b4 : ByteArray) =>
some b4
)
)
set_option maxRecDepth 100000 in
set_option maxHeartbeats 4000000 in
theorem poem_printed_fn {title1 : ByteArray} {vvstanzas1 : Value} {vstanzas1 : Hd} {Zstanzas1 : List ((List ByteArray) × Hd)} {kstanzas1 : Nat} {zstanzas1 : List ((List ByteArray) × Hd)} {stanzas1 : List (List ByteArray)} (hwstanzas1 : Vw vvstanzas1 Zstanzas1 1 kstanzas1 vstanzas1.v zstanzas1) (hzstanzas1 : zstanzas1.map Prod.fst = stanzas1) {r : ByteArray} (h : poem_printed_v title1 stanzas1 = some r) : FnR Tryd.prog 60 [.string title1, vstanzas1.v] [roRow encN_T_string 1 vvstanzas1 kstanzas1 Zstanzas1, rdOwn nestR_T_string Zstanzas1] [] (fun _ : Unit => (.string r)) (fun _ => []) := by
 unfold poem_printed_v at h
 refine FnR.intro Tryd.func60 rfl Tryd.ntmps60 (by simp) ?_
 intro w0 K hrd
 obtain ⟨j1, hj1, h⟩ := joinE h
 refine TC.cutN (β := ByteArray × Nat) 2 rfl (fun b => j1 b.1 = some r) (fun b => []) (fun b => [(1, vstanzas1.v), (5, .pointer (some ⟨b.2, 0, none⟩))]) (fun b => [bldA b.2 b.1]) (fun cut => ?_) ?_
 ·
  refine TC.seq (TC.region (TO.assign rfl dc rfl (TO.nil (TX.next (TC.seq (TC.region ?_))))))
  refine TO.alloc zr_106 rfl dc (fun b3 => ?_)
  show TO _ _ _ _ _ _ _ _ _ _ [cells b3 [.pointer none, .slice none 0 0] 106]
  refine TO.ent (k := 0) rfl Ent.bldNew ?_
  show TO _ _ _ _ _ _ _ _ _ _ [bldA b3 (⟨#[]⟩ : ByteArray)]
  refine TO.nil (TX.next (cut (TC.seq (TC.region (TO.move rfl dc rfl (TO.bin rfl dc rfl rfl bin_sneq (TO.move rfl dc rfl ?_)))))))
  refine TO.split (s := 12) rfl (fun hb1 => ?_) (fun hb1 => ?_)
  ·
   have h := condT hb1 h
   refine TO.skip rfl dc (TO.skip rfl dc (TO.skip rfl dc (TO.skip rfl dc (TO.skip rfl dc (TO.skip rfl dc (TO.skip rfl dc (TO.skip rfl dc (TO.skip rfl dc (TO.skip rfl dc (TO.skip rfl dc (TO.pick (b := true) rfl dc rfl rfl (TO.nil (TX.next ?_)))))))))))))
   refine TC.condT rfl (TC.region (TO.move rfl dc rfl ?_))
   obtain ⟨hg1, h⟩ := grdE h
   refine TO.bin rfl dc rfl rfl (bin_sadd hg1) ?_
   obtain ⟨hg2, h⟩ := grdE h
   refine TO.bin rfl dc rfl rfl (bin_sadd hg2) ?_
   obtain ⟨hg3, h⟩ := grdE h
   refine TO.call (vs := [.pointer (some ⟨b3, 0, none⟩), .string (((⟨#[35, 32]⟩ : ByteArray) ++ title1) ++ (⟨#[10]⟩ : ByteArray))]) rfl dc rfl rfl rfl en_55 (wstr_fn b3 (⟨#[]⟩ : ByteArray) (((⟨#[35, 32]⟩ : ByteArray) ++ title1) ++ (⟨#[10]⟩ : ByteArray)) hg3) (Splits.of [0] kr rfl) ?_
   rintro u1
   show TO _ _ _ _ _ _ _ _ _ _ [emp, bldA b3 ((⟨#[]⟩ : ByteArray) ++ (((⟨#[35, 32]⟩ : ByteArray) ++ title1) ++ (⟨#[10]⟩ : ByteArray)))]
   refine TO.nil ?_
   exact TX.meetD ((⟨#[]⟩ : ByteArray) ++ (((⟨#[35, 32]⟩ : ByteArray) ++ title1) ++ (⟨#[10]⟩ : ByteArray)), b3) h rfl (Sbs.cons rfl (Sbs.cons rfl (Sbs.nil))) (Splits.of [1] kr rfl)
  ·
   have h := condF hb1 h
   refine TO.move rfl dc rfl (TO.lenVwZ hzstanzas1 hwstanzas1 rfl dc rfl Tryd.underlying54 (TO.bin rfl dc rfl rfl bin_gtr (TO.move rfl dc rfl ?_)))
   refine TO.split (s := 16) rfl (fun hb2 => ?_) (fun hb2 => ?_)
   ·
    have h := condT hb2 h
    refine TO.move rfl dc rfl ?_
    obtain ⟨x1, hq1, h⟩ := andE h
    obtain ⟨eh1, eq1⟩ := getO_z hzstanzas1 hq1
    have hrd : Rd _ _ [roRow encN_T_string 1 vvstanzas1 kstanzas1 Zstanzas1, rdOwn nestR_T_string Zstanzas1, rdSl encS 1 eh1 x1] := hrd.openEl (i := 1) (z := (x1, eh1)) rfl (Vw.get hwstanzas1 eq1)
    obtain ⟨vv1, k1, L1, hV1, hrd⟩ := hrd.openSl (i := 2) rfl
    replace hrd : Rd _ _ [roRow encN_T_string 1 vvstanzas1 kstanzas1 Zstanzas1, rdOwn nestR_T_string Zstanzas1, rdSl encS 1 eh1 x1, roRow encS 1 vv1 k1 L1] := hrd
    refine TO.indexVw hwstanzas1 eq1 Tryd.underlying54 sz_48 rfl dc rfl rfl rfl (TO.loadRowRd (n := kstanzas1 + (0 : Int).toNat) (j := 0) (i := 0) (q := (x1, eh1)) hrd rfl (by omega) sc_48 rfl dc rfl (Vw.get hwstanzas1 eq1) rfl rfl ?_)
    obtain ⟨q1, hq2, h⟩ := andE h
    refine TO.indexVw hV1 hq2 Tryd.underlying48 sz_9 rfl dc rfl rfl rfl (TO.loadRowRd (n := k1 + (0 : Int).toNat) (j := 0) (i := 3) (q := q1) hrd rfl (by omega) sc_9 rfl dc rfl (Vw.get hV1 hq2) rfl rfl ?_)
    obtain ⟨r1, hq3, h⟩ := andE h
    refine TO.callP (v := .bool r1) (vs := [.string q1]) rfl dc rfl rfl rfl en_49 (poem_titled_fn hq3) (TO.pick (b := true) rfl dc rfl rfl (TO.pick (b := false) rfl dc rfl rfl (TO.nil (TX.next ?_))))
    refine TC.condB rfl (fun hb3 => ?_) (fun hb3 => ?_)
    ·
     have h := condT hb3 h
     refine TC.region (TO.move rfl dc rfl ?_)
     obtain ⟨hg4, h⟩ := grdE h
     refine TO.bin rfl dc rfl rfl (bin_sadd hg4) ?_
     obtain ⟨hg5, h⟩ := grdE h
     refine TO.bin rfl dc rfl rfl (bin_sadd hg5) ?_
     obtain ⟨hg6, h⟩ := grdE h
     refine TO.call (vs := [.pointer (some ⟨b3, 0, none⟩), .string (((⟨#[35, 32]⟩ : ByteArray) ++ title1) ++ (⟨#[10]⟩ : ByteArray))]) rfl dc rfl rfl rfl en_55 (wstr_fn b3 (⟨#[]⟩ : ByteArray) (((⟨#[35, 32]⟩ : ByteArray) ++ title1) ++ (⟨#[10]⟩ : ByteArray)) hg6) (Splits.of [0] kr rfl) ?_
     rintro u2
     show TO _ _ _ _ _ _ _ _ _ _ [emp, bldA b3 ((⟨#[]⟩ : ByteArray) ++ (((⟨#[35, 32]⟩ : ByteArray) ++ title1) ++ (⟨#[10]⟩ : ByteArray)))]
     refine TO.nil ?_
     exact TX.meetD ((⟨#[]⟩ : ByteArray) ++ (((⟨#[35, 32]⟩ : ByteArray) ++ title1) ++ (⟨#[10]⟩ : ByteArray)), b3) h rfl (Sbs.cons rfl (Sbs.cons rfl (Sbs.nil))) (Splits.of [1] kr rfl)
    ·
     have h := condF hb3 h
     refine TC.skip ?_
     exact TX.meetD ((⟨#[]⟩ : ByteArray), b3) h rfl (Sbs.cons rfl (Sbs.cons rfl (Sbs.nil))) (Splits.of [0] kr rfl)
   ·
    have h := condF hb2 h
    refine TO.skip rfl dc (TO.skip rfl dc (TO.skip rfl dc (TO.skip rfl dc (TO.skip rfl dc (TO.skip rfl dc (TO.pick (b := false) rfl dc rfl rfl (TO.pick (b := false) rfl dc rfl rfl (TO.nil (TX.next (TC.condF rfl (TC.skip ?_)))))))))))
    exact TX.meetD ((⟨#[]⟩ : ByteArray), b3) h rfl (Sbs.cons rfl (Sbs.cons rfl (Sbs.nil))) (Splits.of [0] kr rfl)
 ·
  rintro ⟨b2, b1⟩ h
  rw [hj1] at h
  show TC _ _ _ _ _ ([]) _ _ [(1, vstanzas1.v), (5, .pointer (some ⟨b1, 0, none⟩))] [bldA b1 b2]
  obtain ⟨j2, hj2, h⟩ := joinE h
  refine TC.cutN (β := ByteArray) 0 rfl (fun b => j2 b = some r) (fun b => []) (fun b => [(5, .pointer (some ⟨b1, 0, none⟩))]) (fun b => [bldA b1 b]) (fun cut => ?_) ?_
  ·
   refine cut (TC.seq (TC.region (TO.move rfl dc rfl (TO.lenVwZ hzstanzas1 hwstanzas1 rfl dc rfl Tryd.underlying54 (TO.move rfl dc rfl (TO.nil (TX.next (TC.block ?_))))))))
   refine TC.loopD (β := Nat × ByteArray × Int) (fun b => loopG (fun _ _ => none) (poem_printed_s1 stanzas1 j2) b.1 b.2.1 b.2.2 = some r) (fun b => []) (fun b => [(5, .pointer (some ⟨b1, 0, none⟩)), (29, vstanzas1.v), (30, .int .i64 (stanzas1.length : Int)), (31, .int .i64 b.2.2)]) (fun b => [bldA b1 b.2.1]) (fun b => b.1) (fuel, b2, 0) h rfl (Sbs.cons rfl (Sbs.cons rfl (Sbs.cons rfl (Sbs.cons rfl (Sbs.nil))))) (Splits.of [0] kr rfl) ?_
   rintro ⟨n1, b7, x4⟩ h
   cases n1 with
   | zero => exact noneE h
   | succ n1 =>
    obtain ⟨ag1, hag1⟩ : ∃ ag, ag = loopG (fun _ _ => none) (poem_printed_s1 stanzas1 j2) n1 := ⟨_, rfl⟩
    have h : poem_printed_s1 stanzas1 j2 ag1 b7 x4 = some r := by rw [hag1]; exact h
    unfold poem_printed_s1 at h
    show TC _ _ _ _ _ ([]) _ _ [(5, .pointer (some ⟨b1, 0, none⟩)), (29, vstanzas1.v), (30, .int .i64 (stanzas1.length : Int)), (31, .int .i64 x4)] [bldA b1 b7]
    refine TC.seq (TC.region (TO.bin rfl dc rfl rfl bin_lss (TO.nil (TX.next (TC.seq ?_)))))
    refine TC.condB rfl (fun hb4 => ?_) (fun hb4 => ?_)
    ·
     have h := condT hb4 h
     refine TC.skip (TX.next ?_)
     obtain ⟨j3, hj3, h⟩ := joinE h
     refine TC.cutN (β := ByteArray) 0 rfl (fun b => j3 b = some r) (fun b => []) (fun b => [(5, .pointer (some ⟨b1, 0, none⟩)), (29, vstanzas1.v), (30, .int .i64 (stanzas1.length : Int)), (31, .int .i64 x4)]) (fun b => [bldA b1 b]) (fun cut => ?_) ?_
     ·
      refine cut (TC.block (TC.seq (TC.region ?_)))
      obtain ⟨x5, hq4, h⟩ := andE h
      obtain ⟨eh2, eq2⟩ := getO_z hzstanzas1 hq4
      have hrd : Rd _ _ [roRow encN_T_string 1 vvstanzas1 kstanzas1 Zstanzas1, rdOwn nestR_T_string Zstanzas1, rdSl encS 1 eh2 x5] := hrd.openEl (i := 1) (z := (x5, eh2)) rfl (Vw.get hwstanzas1 eq2)
      obtain ⟨vv2, k2, L2, hV2, hrd⟩ := hrd.openSl (i := 2) rfl
      replace hrd : Rd _ _ [roRow encN_T_string 1 vvstanzas1 kstanzas1 Zstanzas1, rdOwn nestR_T_string Zstanzas1, rdSl encS 1 eh2 x5, roRow encS 1 vv2 k2 L2] := hrd
      refine TO.indexVw hwstanzas1 eq2 Tryd.underlying54 sz_48 rfl dc rfl rfl rfl (TO.loadRowRd (n := kstanzas1 + (x4 : Int).toNat) (j := 0) (i := 0) (q := (x5, eh2)) hrd rfl (by omega) sc_48 rfl dc rfl (Vw.get hwstanzas1 eq2) rfl rfl (TO.assign rfl dc rfl (TO.nil (TX.next ?_))))
      obtain ⟨j4, hj4, h⟩ := joinE h
      refine TC.cutN (β := ByteArray) 0 rfl (fun b => j4 b = some r) (fun b => []) (fun b => [(5, .pointer (some ⟨b1, 0, none⟩)), (7, eh2.v), (29, vstanzas1.v), (30, .int .i64 (stanzas1.length : Int)), (31, .int .i64 x4)]) (fun b => [bldA b1 b]) (fun cut => ?_) ?_
      ·
       refine cut (TC.seq (TC.region (TO.callK (v := .int .i64 (b7.size : Int)) (vs := [.pointer (some ⟨b1, 0, none⟩)]) rfl dc rfl rfl rfl en_56 (blen_fn b1 b7) [0] kr rfl (TO.bin rfl dc rfl rfl bin_gtr (TO.nil (TX.next ?_))))))
       refine TC.condB rfl (fun hb5 => ?_) (fun hb5 => ?_)
       ·
        have h := condT hb5 h
        refine TC.region ?_
        obtain ⟨hg7, h⟩ := grdE h
        refine TO.call (vs := [.pointer (some ⟨b1, 0, none⟩), .string (⟨#[10]⟩ : ByteArray)]) rfl dc rfl rfl rfl en_55 (wstr_fn b1 b7 (⟨#[10]⟩ : ByteArray) hg7) (Splits.of [0] kr rfl) ?_
        rintro u3
        show TO _ _ _ _ _ _ _ _ _ _ [emp, bldA b1 (b7 ++ (⟨#[10]⟩ : ByteArray))]
        refine TO.nil ?_
        exact TX.meetD (b7 ++ (⟨#[10]⟩ : ByteArray)) h rfl (Sbs.cons rfl (Sbs.cons rfl (Sbs.cons rfl (Sbs.cons rfl (Sbs.cons rfl (Sbs.nil)))))) (Splits.of [1] kr rfl)
       ·
        have h := condF hb5 h
        refine TC.skip ?_
        exact TX.meetD b7 h rfl (Sbs.cons rfl (Sbs.cons rfl (Sbs.cons rfl (Sbs.cons rfl (Sbs.cons rfl (Sbs.nil)))))) (Splits.of [0] kr rfl)
      ·
       rintro b9 h
       rw [hj4] at h
       show TC _ _ _ _ _ ([]) _ _ [(5, .pointer (some ⟨b1, 0, none⟩)), (7, eh2.v), (29, vstanzas1.v), (30, .int .i64 (stanzas1.length : Int)), (31, .int .i64 x4)] [bldA b1 b9]
       refine TC.seq (TC.region (TO.move rfl dc rfl (TO.lenVw hV2 rfl dc rfl Tryd.underlying48 (TO.move rfl dc rfl (TO.nil (TX.next (TC.block ?_)))))))
       refine TC.loopD (β := Nat × ByteArray × Int) (fun b => loopG (fun _ _ => none) (poem_printed_s2 j3 x5) b.1 b.2.1 b.2.2 = some r) (fun b => []) (fun b => [(5, .pointer (some ⟨b1, 0, none⟩)), (29, vstanzas1.v), (30, .int .i64 (stanzas1.length : Int)), (31, .int .i64 x4), (38, eh2.v), (39, .int .i64 (x5.length : Int)), (40, .int .i64 b.2.2)]) (fun b => [bldA b1 b.2.1]) (fun b => b.1) (fuel, b9, 0) h rfl (Sbs.cons rfl (Sbs.cons rfl (Sbs.cons rfl (Sbs.cons rfl (Sbs.cons rfl (Sbs.cons rfl (Sbs.cons rfl (Sbs.nil)))))))) (Splits.of [0] kr rfl) ?_
       rintro ⟨n2, b12, x8⟩ h
       cases n2 with
       | zero => exact noneE h
       | succ n2 =>
        obtain ⟨ag2, hag2⟩ : ∃ ag, ag = loopG (fun _ _ => none) (poem_printed_s2 j3 x5) n2 := ⟨_, rfl⟩
        have h : poem_printed_s2 j3 x5 ag2 b12 x8 = some r := by rw [hag2]; exact h
        unfold poem_printed_s2 at h
        show TC _ _ _ _ _ ([]) _ _ [(5, .pointer (some ⟨b1, 0, none⟩)), (29, vstanzas1.v), (30, .int .i64 (stanzas1.length : Int)), (31, .int .i64 x4), (38, eh2.v), (39, .int .i64 (x5.length : Int)), (40, .int .i64 x8)] [bldA b1 b12]
        refine TC.seq (TC.region (TO.bin rfl dc rfl rfl bin_lss (TO.nil (TX.next (TC.seq ?_)))))
        refine TC.condB rfl (fun hb6 => ?_) (fun hb6 => ?_)
        ·
         have h := condT hb6 h
         refine TC.skip (TX.next (TC.seq (TC.block (TC.seq (TC.region ?_)))))
         obtain ⟨q2, hq5, h⟩ := andE h
         refine TO.indexVw hV2 hq5 Tryd.underlying48 sz_9 rfl dc rfl rfl rfl (TO.loadRowRd (n := k2 + (x8 : Int).toNat) (j := 0) (i := 3) (q := q2) hrd rfl (by omega) sc_9 rfl dc rfl (Vw.get hV2 hq5) rfl rfl (TO.assign rfl dc rfl (TO.nil (TX.next (TC.region (TO.move rfl dc rfl ?_))))))
         obtain ⟨hg8, h⟩ := grdE h
         refine TO.bin rfl dc rfl rfl (bin_sadd hg8) ?_
         obtain ⟨hg9, h⟩ := grdE h
         refine TO.call (vs := [.pointer (some ⟨b1, 0, none⟩), .string (q2 ++ (⟨#[10]⟩ : ByteArray))]) rfl dc rfl rfl rfl en_55 (wstr_fn b1 b12 (q2 ++ (⟨#[10]⟩ : ByteArray)) hg9) (Splits.of [0] kr rfl) ?_
         rintro u4
         show TO _ _ _ _ _ _ _ _ _ _ [emp, bldA b1 (b12 ++ (q2 ++ (⟨#[10]⟩ : ByteArray)))]
         refine TO.nil (TX.blockNormal (TX.next (TC.region ?_)))
         obtain ⟨hg10, h⟩ := grdE h
         refine TO.bin rfl dc rfl rfl (bin_add (r := x8 + 1) (IntWalk.i64_in _ hg10)) (TO.move rfl dc rfl (TO.nil ?_))
         subst hag2
         exact TX.againD (n2, b12 ++ (q2 ++ (⟨#[10]⟩ : ByteArray)), x8 + 1) h (Nat.lt_succ_self _) rfl (Sbs.cons rfl (Sbs.cons rfl (Sbs.cons rfl (Sbs.cons rfl (Sbs.cons rfl (Sbs.cons rfl (Sbs.cons rfl (Sbs.nil)))))))) (Splits.of [1] kr rfl)
        ·
         have h := condF hb6 h
         refine TC.exit (TX.thenExit (TX.thenExit (TX.blockHere (TX.blockNormal ?_))))
         exact TX.meetD b12 h rfl (Sbs.cons rfl (Sbs.cons rfl (Sbs.cons rfl (Sbs.cons rfl (Sbs.nil))))) (Splits.of [0] kr rfl)
     ·
      rintro b8 h
      rw [hj3] at h
      show TC _ _ _ _ _ ([]) _ _ [(5, .pointer (some ⟨b1, 0, none⟩)), (29, vstanzas1.v), (30, .int .i64 (stanzas1.length : Int)), (31, .int .i64 x4)] [bldA b1 b8]
      refine TC.region ?_
      obtain ⟨hg11, h⟩ := grdE h
      refine TO.bin rfl dc rfl rfl (bin_add (r := x4 + 1) (IntWalk.i64_in _ hg11)) (TO.move rfl dc rfl (TO.nil ?_))
      subst hag1
      exact TX.againD (n1, b8, x4 + 1) h (Nat.lt_succ_self _) rfl (Sbs.cons rfl (Sbs.cons rfl (Sbs.cons rfl (Sbs.cons rfl (Sbs.nil))))) (Splits.of [0] kr rfl)
    ·
     have h := condF hb4 h
     refine TC.exit (TX.thenExit (TX.thenExit (TX.blockHere ?_)))
     exact TX.meetD b7 h rfl (Sbs.cons rfl (Sbs.nil)) (Splits.of [0] kr rfl)
  ·
   rintro b4 h
   rw [hj2] at h
   show TC _ _ _ _ _ ([]) _ _ [(5, .pointer (some ⟨b1, 0, none⟩))] [bldA b1 b4]
   refine TC.seq (TC.region (TO.call (vs := [.pointer (some ⟨b1, 0, none⟩)]) rfl dc rfl rfl rfl en_57 (bstr_fn b1 b4) (Splits.of [0] kr rfl) ?_))
   rintro _
   show TO _ _ _ _ _ _ _ _ _ _ [emp]
   refine TO.assign rfl dc rfl (TO.nil (TX.next (TC.ret ?_)))
   cases h
   exact TX.fin (rs := [.tmp 4]) () (.inl rfl) Tryd.results60 (.cons (.tmp rfl) .nil) rfl Splits.nil
def poem_Poem_rows_s1 (from1 : Int) (to1 : Int) (x1 : Int × Gapi_Verse) (ag1 : (List (List ByteArray)) → Int → Option (List (List ByteArray))) (out4 : List (List ByteArray)) (stanza3 : Int) : Option (List (List ByteArray)) :=
bcond (decide ((x1.1 : Int) < from1)) (
ag1 out4 stanza3
) (
bcond (decide ((to1 : Int) ≤ x1.1)) (
ag1 out4 stanza3
) (
joinK (fun (j2 : (List (List ByteArray)) → Int → Option (List (List ByteArray))) =>
bcond ((x1.2.Stanza : Int) != stanza3) (
grd (out4.length + 1 ≤ 2147483648) <|
j2 (out4 ++ [([] : List ByteArray)]) x1.2.Stanza
) (
j2 out4 stanza3
)
) (fun (out5 : List (List ByteArray)) (stanza4 : Int) =>
grd (I64 ((out5.length : Int) - 1)) <|
andThen (getO out5 ((out5.length : Int) - 1)) fun (x2 : List ByteArray) =>
grd (0 ≤ x1.2.Indent ∧ x1.2.Indent ≤ 140737488355328) <|
grd ((spacesB x1.2.Indent).size + x1.2.Text.size ≤ 9223372036854775807) <|
grd (x2.length + 1 ≤ 2147483648) <|
ag1 (out5.set ((out5.length : Int) - 1 : Int).toNat (x2 ++ [(spacesB x1.2.Indent) ++ x1.2.Text])) stanza4
)
)
)
def poem_Poem_rows_v (p1 : Gpoem_Poem) (from1 : Int) (to1 : Int) : Option (List (List ByteArray)) :=
joinK (fun (j1 : (List (List ByteArray)) → Option (List (List ByteArray))) =>
andThen (poem_Poem_Each_v p1) fun (r1 : Unit) =>
andThen (poem_Poem_Each_1_v p1) fun (its1 : (List (Int × Gapi_Verse))) =>
joinK (fun (d1 : (List (List ByteArray)) → Int → Option (List (List ByteArray))) =>
rangeG d1 (poem_Poem_rows_s1 from1 to1) its1 ([] : List (List ByteArray)) (-1)
) (fun (out4 : List (List ByteArray)) (stanza3 : Int) =>
j1 out4
)
) (fun (out1 : List (List ByteArray)) =>
some out1
)
set_option maxRecDepth 100000 in
set_option maxHeartbeats 4000000 in
theorem poem_Poem_rows_fn {bp1 : Nat} {p1 : Gpoem_Poem} {p1_h0 p1_h1 : Hd} {from1 : Int} {to1 : Int} {r : (List (List ByteArray))} (h : poem_Poem_rows_v p1 from1 to1 = some r) : FnR Tryd.prog 61 [.pointer (some ⟨bp1, 0, none⟩), .int .i64 from1, .int .i64 to1] [cells bp1 [.string p1.told_title, p1_h0.v, p1_h1.v, .string p1.source] 93, vec enc_Gapi_Verse 36 6 p1_h0.v p1.told_lines, vec enc_Gapi_Span 34 2 p1_h1.v p1.told_stanzas] [] (fun v0 : Value => v0) (fun v0 => [vecN encN_T_string nest_T_string 48 1 v0 r]) := by
 unfold poem_Poem_rows_v at h
 refine FnR.intro Tryd.func61 rfl Tryd.ntmps61 (by simp) ?_
 intro w0 K hrd
 refine TC.star0 ?_
 show TC _ _ _ _ _ _ _ _ _ [star ((([] : List Nat) : List Nat).map mark)]
 obtain ⟨j1, hj1, h⟩ := joinE h
 refine TC.cutN (β := (List (List ByteArray)) × Nat × Hd × (List Nat)) 3 rfl (fun b => j1 b.1 = some r) (fun b => marksOf b.2.2.2) (fun b => [(7, .pointer (some ⟨b.2.1, 0, none⟩))]) (fun b => [cells b.2.1 [b.2.2.1.v] 54, vecN encN_T_string nest_T_string 48 1 b.2.2.1.v b.1, star ((b.2.2.2 : List Nat).map mark)]) (fun cut => ?_) ?_
 ·
  refine TC.seq (TC.region ?_)
  refine TO.box rfl dc rfl (fun b2 => ?_)
  refine TO.box rfl dc rfl (fun b3 => ?_)
  show TO _ _ _ _ _ _ _ _ _ _ [star ((([] : List Nat) : List Nat).map mark), cells b2 [.int .i64 from1] 3, cells b3 [.int .i64 to1] 3]
  refine TO.assign rfl dc rfl (TO.nil (TX.next (TC.seq (TC.region ?_))))
  refine TO.alloc zr_54 rfl dc (fun b4 => ?_)
  refine TO.nil (TX.next (TC.seq (TC.region ?_)))
  refine TO.alloc zr_3 rfl dc (fun b5 => ?_)
  show TO _ _ _ _ _ _ _ _ _ _ [star ((([] : List Nat) : List Nat).map mark), cells b2 [.int .i64 from1] 3, cells b3 [.int .i64 to1] 3, cells b4 [.slice none 0 0] 54, cells b5 [.int .i64 0] 3]
  refine TO.store (k := 4) (l' := [.int .i64 (-1)]) sz_3 rfl rfl rfl rfl rfl (fun _ _ => rfl) rfl ?_
  refine TO.nil (TX.next (cut (TC.seq (TC.region (TO.move rfl dc rfl ?_)))))
  obtain ⟨r1, hq1, h⟩ := andE h
  refine TO.callR (vs := [.pointer (some ⟨bp1, 0, none⟩)]) hrd rfl dc rfl rfl rfl en_14 (poem_Poem_Each_fn (bp1 := bp1) (p1 := p1) (p1_h0 := p1_h0) (p1_h1 := p1_h1) hq1) Splits.nil (.ro 0 rfl (.ro 1 rfl (.ro 2 rfl .nil))) ?_
  rintro b6
  show TO _ _ _ _ _ _ _ _ _ _ [star ((([] : List Nat) : List Nat).map mark), cells b2 [.int .i64 from1] 3, cells b3 [.int .i64 to1] 3, cells b4 [.slice none 0 0] 54, cells b5 [.int .i64 (-1)] 3, cells b6 [.pointer (some ⟨bp1, 0, none⟩)] 23]
  refine TO.weakenL (L' := [star ((([] : List Nat) : List Nat).map mark), cells b2 [.int .i64 from1] 3, cells b3 [.int .i64 to1] 3, cells b4 [.slice none 0 0] 54, cells b5 [.int .i64 (-1)] 3, cells b6 [.pointer (some ⟨bp1, 0, none⟩)] 23]) (Splits.of [0, 1, 2, 3, 4, 5] kr rfl) (TO.nil (TX.next (TC.block ?_)))
  obtain ⟨its1, hq2, h⟩ := andE h
  refine TC.newN (enc := encN_T_string) (nest := nest_T_string) (e := 48) (size := 1) ?_
  show TC _ _ _ _ _ _ _ _ _ [star ((([] : List Nat) : List Nat).map mark), cells b2 [.int .i64 from1] 3, cells b3 [.int .i64 to1] 3, cells b4 [.slice none 0 0] 54, cells b5 [.int .i64 (-1)] 3, cells b6 [.pointer (some ⟨bp1, 0, none⟩)] 23, vecN encN_T_string nest_T_string 48 1 (.slice none 0 0) ([] : List (List ByteArray))]
  obtain ⟨d1, hd1, h⟩ := joinE h
  refine TC.rangeR (α := Int × Gapi_Verse) (β := (List (List ByteArray)) × Int × Hd) (γ := Unit) (δ := Nat) (ps := [14, 15]) hrd Ro.nil rfl en_52 (poem_Poem_Each_1_itr hq2) (fun pre b => ∀ post, its1 = pre ++ post → rangeG d1 (poem_Poem_rows_s1 from1 to1) post b.1 b.2.1 = some r) (fun pre b => [cells b2 [.int .i64 from1] 3, cells b3 [.int .i64 to1] 3, cells b4 [b.2.2.v] 54, vecN encN_T_string nest_T_string 48 1 b.2.2.v b.1, cells b5 [.int .i64 b.2.1] 3]) (fun c pre g => False) (fun c pre g => []) (fun pre x b j => [(4, .pointer (some ⟨b2, 0, none⟩)), (5, .pointer (some ⟨b3, 0, none⟩)), (6, .slice none 0 0), (7, .pointer (some ⟨b4, 0, none⟩)), (8, .pointer (some ⟨b5, 0, none⟩)), (13, .func (.func 52) #[] #[.pointer (some ⟨b6, 0, none⟩)]), (9, .int .i64 x.1), (10, .pointer (some ⟨j, 0, none⟩))]) (fun pre x b j => [cells b2 [.int .i64 from1] 3, cells b3 [.int .i64 to1] 3, cells b4 [b.2.2.v] 54, vecN encN_T_string nest_T_string 48 1 b.2.2.v b.1, cells b5 [.int .i64 b.2.1] 3, cells j [.string x.2.Text, .int .i64 x.2.Indent, .int .i64 x.2.Stanza, .int .i64 x.2.In, .int .i64 x.2.Span_From, .int .i64 x.2.Span_To] 36]) (([] : List (List ByteArray)), (-1), Hd.nil) (fun post e => by rw [List.nil_append] at e; subst e; exact h) (Splits.of [1, 2, 3, 6, 4] kr rfl) (.own (Splits.of [5] (by kernel_rfl) rfl) (fun _ _ h => sepL.one1.1 h) (.ro 0 rfl (.ro 1 rfl (.ro 2 rfl .nil)))) (fun _ => rfl) dc ?_ ?_ ?_ ?_
  ·
   rintro lp rc pre x1 post ⟨out4, stanza3, hd4⟩ w1 K1 hxs1 hext hro hinv
   have hrd := hrd.ext hext
   refine TC.seq (TC.region (TO.assign rfl dc rfl (TO.nil (TX.next (TC.region ?_)))))
   refine TO.alloc zr_36 rfl dc (fun b7 => ?_)
   refine TO.stores (k := 5) (vs := [.string x1.2.Text, .int .i64 x1.2.Indent, .int .i64 x1.2.Stanza, .int .i64 x1.2.In, .int .i64 x1.2.Span_From, .int .i64 x1.2.Span_To]) (l' := [.string x1.2.Text, .int .i64 x1.2.Indent, .int .i64 x1.2.Stanza, .int .i64 x1.2.In, .int .i64 x1.2.Span_From, .int .i64 x1.2.Span_To]) sz_36 rfl rfl rfl rfl rfl (show _ ≤ _ by simp) rfl rfl ?_
   show TO _ _ _ _ _ _ _ _ _ _ [cells b2 [.int .i64 from1] 3, cells b3 [.int .i64 to1] 3, cells b4 [hd4.v] 54, vecN encN_T_string nest_T_string 48 1 hd4.v out4, cells b5 [.int .i64 stanza3] 3, cells b7 [.string x1.2.Text, .int .i64 x1.2.Indent, .int .i64 x1.2.Stanza, .int .i64 x1.2.In, .int .i64 x1.2.Span_From, .int .i64 x1.2.Span_To] 36]
   refine TO.nil ?_
   exact fun a w ha hw => ⟨b7, (Sbs.cons rfl (Sbs.cons rfl (Sbs.cons rfl (Sbs.cons rfl (Sbs.cons rfl (Sbs.cons rfl (Sbs.cons rfl (Sbs.cons rfl (Sbs.nil))))))))) _ _ _ ha, hw.weaken (Splits.of [0, 1, 2, 3, 4, 5] kr rfl)⟩
  ·
   rintro lp rc pre x1 post1 ⟨out4, stanza3, hd4⟩ jb1 w1 K1 hxs1 hext hro hinv
   have hrd := hrd.ext hext
   have h := hinv (x1 :: post1) hxs1
   obtain ⟨ag1, hag1⟩ : ∃ ag, ag = rangeG d1 (poem_Poem_rows_s1 from1 to1) post1 := ⟨_, rfl⟩
   have h : poem_Poem_rows_s1 from1 to1 x1 ag1 out4 stanza3 = some r := by rw [hag1]; exact h
   unfold poem_Poem_rows_s1 at h
   show TC _ _ _ _ _ _ _ _ [(4, .pointer (some ⟨b2, 0, none⟩)), (5, .pointer (some ⟨b3, 0, none⟩)), (6, .slice none 0 0), (7, .pointer (some ⟨b4, 0, none⟩)), (8, .pointer (some ⟨b5, 0, none⟩)), (13, .func (.func 52) #[] #[.pointer (some ⟨b6, 0, none⟩)]), (9, .int .i64 x1.1), (10, .pointer (some ⟨jb1, 0, none⟩))] [cells b2 [.int .i64 from1] 3, cells b3 [.int .i64 to1] 3, cells b4 [hd4.v] 54, vecN encN_T_string nest_T_string 48 1 hd4.v out4, cells b5 [.int .i64 stanza3] 3, cells jb1 [.string x1.2.Text, .int .i64 x1.2.Indent, .int .i64 x1.2.Stanza, .int .i64 x1.2.In, .int .i64 x1.2.Span_From, .int .i64 x1.2.Span_To] 36]
   refine TC.block (TC.seq (TC.seq (TC.region (TO.move rfl dc rfl (TO.load (k := 0) sc_3 rfl dc rfl rfl rfl (TO.bin rfl dc rfl rfl bin_lss (TO.move rfl dc rfl ?_)))))))
   refine TO.split (s := 19) rfl (fun hb1 => ?_) (fun hb1 => ?_)
   ·
    have h := condT hb1 h
    refine TO.skip rfl dc (TO.skip rfl dc (TO.skip rfl dc (TO.pick (b := true) rfl dc rfl rfl (TO.nil (TX.next (TC.condT rfl (TC.exit (TX.thenExit (TX.blockHere ?_)))))))))
    exact TX.round (out4, stanza3, hd4) (fun post2 e2 => by have e9 := snoc_post hxs1 e2; subst e9; subst hag1; exact h) (Splits.of [0, 1, 2, 3, 4] kr rfl)
   ·
    have h := condF hb1 h
    refine TO.move rfl dc rfl (TO.load (k := 1) sc_3 rfl dc rfl rfl rfl (TO.bin rfl dc rfl rfl bin_geq (TO.pick (b := false) rfl dc rfl rfl (TO.nil (TX.next ?_)))))
    refine TC.condB rfl (fun hb2 => ?_) (fun hb2 => ?_)
    ·
     have h := condT hb2 h
     refine TC.exit (TX.thenExit (TX.blockHere ?_))
     exact TX.round (out4, stanza3, hd4) (fun post2 e2 => by have e9 := snoc_post hxs1 e2; subst e9; subst hag1; exact h) (Splits.of [0, 1, 2, 3, 4] kr rfl)
    ·
     have h := condF hb2 h
     refine TC.skip (TX.next ?_)
     obtain ⟨j2, hj2, h⟩ := joinE h
     refine TC.cutN (β := (List (List ByteArray)) × Int × Hd) 0 rfl (fun b => j2 b.1 b.2.1 = some r) (fun b => []) (fun b => [(4, .pointer (some ⟨b2, 0, none⟩)), (5, .pointer (some ⟨b3, 0, none⟩)), (6, .slice none 0 0), (7, .pointer (some ⟨b4, 0, none⟩)), (8, .pointer (some ⟨b5, 0, none⟩)), (10, .pointer (some ⟨jb1, 0, none⟩)), (13, .func (.func 52) #[] #[.pointer (some ⟨b6, 0, none⟩)])]) (fun b => [cells b2 [.int .i64 from1] 3, cells b3 [.int .i64 to1] 3, cells b4 [b.2.2.v] 54, vecN encN_T_string nest_T_string 48 1 b.2.2.v b.1, cells b5 [.int .i64 b.2.1] 3, cells jb1 [.string x1.2.Text, .int .i64 x1.2.Indent, .int .i64 x1.2.Stanza, .int .i64 x1.2.In, .int .i64 x1.2.Span_From, .int .i64 x1.2.Span_To] 36]) (fun cut => ?_) ?_
     ·
      refine cut (TC.seq (TC.region (TO.fieldAddr fl_36_2 rfl dc rfl (show _ = 2 from rfl) (TO.load (k := 5) sc_3 rfl dc rfl rfl rfl (TO.load (k := 4) sc_3 rfl dc rfl rfl rfl (TO.bin rfl dc rfl rfl bin_neq (TO.nil (TX.next ?_))))))))
      refine TC.condB rfl (fun hb3 => ?_) (fun hb3 => ?_)
      ·
       have h := condT hb3 h
       refine TC.seq (TC.region (TO.load (k := 2) sc_54 rfl dc rfl rfl rfl ?_))
       refine TO.buildSlice (cs := [.slice none 0 0]) (te := 48) (ps := [(0, .const (.slice none 0 0))]) rfl dc rfl (fun _ => by kernel_rfl) (fun b8 => ?_)
       refine TO.newVec (enc := encS) (e := 9) (size := 1) ?_
       show TO _ _ _ _ _ _ _ _ _ _ [cells b2 [.int .i64 from1] 3, cells b3 [.int .i64 to1] 3, cells b4 [hd4.v] 54, vecN encN_T_string nest_T_string 48 1 hd4.v out4, cells b5 [.int .i64 stanza3] 3, cells jb1 [.string x1.2.Text, .int .i64 x1.2.Indent, .int .i64 x1.2.Stanza, .int .i64 x1.2.In, .int .i64 x1.2.Span_From, .int .i64 x1.2.Span_To] 36, cells b8 [.slice none 0 0] 48, vec encS 9 1 (.slice none 0 0) ([] : List ByteArray)]
       refine TO.unfold1 (k := 3) rfl openE (fun zs1 hz1 => ?_)
       show TO _ _ _ _ _ _ _ _ _ _ [cells b2 [.int .i64 from1] 3, cells b3 [.int .i64 to1] 3, cells b4 [hd4.v] 54, vec encN_T_string 48 1 hd4.v zs1, cells b5 [.int .i64 stanza3] 3, cells jb1 [.string x1.2.Text, .int .i64 x1.2.Indent, .int .i64 x1.2.Stanza, .int .i64 x1.2.In, .int .i64 x1.2.Span_From, .int .i64 x1.2.Span_To] 36, cells b8 [.slice none 0 0] 48, vec encS 9 1 (.slice none 0 0) ([] : List ByteArray), own nest_T_string zs1]
       obtain ⟨hg1, h⟩ := grdE h
       refine TO.appendVec (k := 3) (k2 := 6) (ys := [(([] : List ByteArray), Hd.nil)]) Tryd.underlying54 el_48 encN_T_string_len encN_T_string_one rfl dc rfl rfl rfl rfl rfl rfl (by rw [zlen hz1]; exact hg1) (fun v1 => ?_)
       show TO _ _ _ _ _ _ _ _ _ _ [cells b2 [.int .i64 from1] 3, cells b3 [.int .i64 to1] 3, cells b4 [hd4.v] 54, vec encN_T_string 48 1 v1 (zs1 ++ [(([] : List ByteArray), Hd.nil)]), cells b5 [.int .i64 stanza3] 3, cells jb1 [.string x1.2.Text, .int .i64 x1.2.Indent, .int .i64 x1.2.Stanza, .int .i64 x1.2.In, .int .i64 x1.2.Span_From, .int .i64 x1.2.Span_To] 36, cells b8 [.slice none 0 0] 48, vec encS 9 1 (.slice none 0 0) ([] : List ByteArray), own nest_T_string zs1]
       refine TO.nameHd (k := 3) rfl (fun hd6 he1 => ?_)
       subst he1
       refine TO.fold1 (k := 8) rfl (Splits.of [7] kr rfl) rfl (ownApp (nest := nest_T_string) (zs := zs1) (z := (([] : List ByteArray), Hd.nil))) ?_
       show TO _ _ _ _ _ _ _ _ _ _ [cells b2 [.int .i64 from1] 3, cells b3 [.int .i64 to1] 3, cells b4 [hd4.v] 54, vec encN_T_string 48 1 hd6.v (zs1 ++ [(([] : List ByteArray), Hd.nil)]), cells b5 [.int .i64 stanza3] 3, cells jb1 [.string x1.2.Text, .int .i64 x1.2.Indent, .int .i64 x1.2.Stanza, .int .i64 x1.2.In, .int .i64 x1.2.Span_From, .int .i64 x1.2.Span_To] 36, cells b8 [.slice none 0 0] 48, emp, own nest_T_string (zs1 ++ [(([] : List ByteArray), Hd.nil)])]
       refine TO.fold1 (k := 3) rfl (Splits.of [8] kr rfl) rfl (closeE (enc := encN_T_string) (nest := nest_T_string) (zapp hz1)) ?_
       show TO _ _ _ _ _ _ _ _ _ _ [cells b2 [.int .i64 from1] 3, cells b3 [.int .i64 to1] 3, cells b4 [hd4.v] 54, vecN encN_T_string nest_T_string 48 1 hd6.v (out4 ++ [([] : List ByteArray)]), cells b5 [.int .i64 stanza3] 3, cells jb1 [.string x1.2.Text, .int .i64 x1.2.Indent, .int .i64 x1.2.Stanza, .int .i64 x1.2.In, .int .i64 x1.2.Span_From, .int .i64 x1.2.Span_To] 36, cells b8 [.slice none 0 0] 48, emp, emp]
       refine TO.weakenL (L' := [cells b2 [.int .i64 from1] 3, cells b3 [.int .i64 to1] 3, cells b4 [hd4.v] 54, vecN encN_T_string nest_T_string 48 1 hd6.v (out4 ++ [([] : List ByteArray)]), cells b5 [.int .i64 stanza3] 3, cells jb1 [.string x1.2.Text, .int .i64 x1.2.Indent, .int .i64 x1.2.Stanza, .int .i64 x1.2.In, .int .i64 x1.2.Span_From, .int .i64 x1.2.Span_To] 36, cells b8 [.slice none 0 0] 48]) (Splits.of [0, 1, 2, 3, 4, 5, 6] kr rfl) ?_
       refine TO.store (k := 2) (l' := [hd6.v]) sz_54 rfl rfl rfl rfl rfl (fun _ _ => rfl) rfl ?_
       show TO _ _ _ _ _ _ _ _ _ _ [cells b2 [.int .i64 from1] 3, cells b3 [.int .i64 to1] 3, cells b4 [hd6.v] 54, vecN encN_T_string nest_T_string 48 1 hd6.v (out4 ++ [([] : List ByteArray)]), cells b5 [.int .i64 stanza3] 3, cells jb1 [.string x1.2.Text, .int .i64 x1.2.Indent, .int .i64 x1.2.Stanza, .int .i64 x1.2.In, .int .i64 x1.2.Span_From, .int .i64 x1.2.Span_To] 36, cells b8 [.slice none 0 0] 48]
       refine TO.nil (TX.next (TC.region (TO.fieldAddr fl_36_2 rfl dc rfl (show _ = 2 from rfl) (TO.load (k := 5) sc_3 rfl dc rfl rfl rfl ?_))))
       refine TO.store (k := 4) (l' := [.int .i64 x1.2.Stanza]) sz_3 rfl rfl rfl rfl rfl (fun _ _ => rfl) rfl ?_
       refine TO.nil ?_
       exact TX.meetD (out4 ++ [([] : List ByteArray)], x1.2.Stanza, hd6) h rfl (Sbs.cons rfl (Sbs.cons rfl (Sbs.cons rfl (Sbs.cons rfl (Sbs.cons rfl (Sbs.cons rfl (Sbs.cons rfl (Sbs.nil)))))))) (Splits.of [0, 1, 2, 3, 4, 5] kr rfl)
      ·
       have h := condF hb3 h
       refine TC.skip ?_
       exact TX.meetD (out4, stanza3, hd4) h rfl (Sbs.cons rfl (Sbs.cons rfl (Sbs.cons rfl (Sbs.cons rfl (Sbs.cons rfl (Sbs.cons rfl (Sbs.cons rfl (Sbs.nil)))))))) (Splits.of [0, 1, 2, 3, 4, 5] kr rfl)
     ·
      rintro ⟨out5, stanza4, hd5⟩ h
      rw [hj2] at h
      show TC _ _ _ _ _ ([]) _ _ [(4, .pointer (some ⟨b2, 0, none⟩)), (5, .pointer (some ⟨b3, 0, none⟩)), (6, .slice none 0 0), (7, .pointer (some ⟨b4, 0, none⟩)), (8, .pointer (some ⟨b5, 0, none⟩)), (10, .pointer (some ⟨jb1, 0, none⟩)), (13, .func (.func 52) #[] #[.pointer (some ⟨b6, 0, none⟩)])] [cells b2 [.int .i64 from1] 3, cells b3 [.int .i64 to1] 3, cells b4 [hd5.v] 54, vecN encN_T_string nest_T_string 48 1 hd5.v out5, cells b5 [.int .i64 stanza4] 3, cells jb1 [.string x1.2.Text, .int .i64 x1.2.Indent, .int .i64 x1.2.Stanza, .int .i64 x1.2.In, .int .i64 x1.2.Span_From, .int .i64 x1.2.Span_To] 36]
      refine TC.seq (TC.region (TO.load (k := 2) sc_54 rfl dc rfl rfl rfl (TO.lenVecN (k := 3) rfl dc rfl rfl Tryd.underlying54 ?_)))
      obtain ⟨hg2, h⟩ := grdE h
      refine TO.bin rfl dc rfl rfl (bin_sub (r := (out5.length : Int) - 1) (IntWalk.i64_in _ hg2)) (TO.assign rfl dc rfl (TO.nil (TX.next ?_)))
      refine TC.unfold1 (k := 3) rfl openE (fun zs2 hz2 => ?_)
      show TC _ _ _ _ _ _ _ _ _ [cells b2 [.int .i64 from1] 3, cells b3 [.int .i64 to1] 3, cells b4 [hd5.v] 54, vec encN_T_string 48 1 hd5.v zs2, cells b5 [.int .i64 stanza4] 3, cells jb1 [.string x1.2.Text, .int .i64 x1.2.Indent, .int .i64 x1.2.Stanza, .int .i64 x1.2.In, .int .i64 x1.2.Span_From, .int .i64 x1.2.Span_To] 36, own nest_T_string zs2]
      obtain ⟨x2, hq3, h⟩ := andE h
      obtain ⟨eh1, eq1⟩ := getO_z hz2 hq3
      obtain ⟨hg3, h⟩ := grdE h
      obtain ⟨hg4, h⟩ := grdE h
      obtain ⟨hg5, h⟩ := grdE h
      refine TC.unfold1 (k := 6) rfl (pullE (getO_get eq1)) (fun _ _ => ?_)
      show TC _ _ _ _ _ _ _ _ _ [cells b2 [.int .i64 from1] 3, cells b3 [.int .i64 to1] 3, cells b4 [hd5.v] 54, vec encN_T_string 48 1 hd5.v zs2, cells b5 [.int .i64 stanza4] 3, cells jb1 [.string x1.2.Text, .int .i64 x1.2.Indent, .int .i64 x1.2.Stanza, .int .i64 x1.2.In, .int .i64 x1.2.Span_From, .int .i64 x1.2.Span_To] 36, own nest_T_string (zs2.eraseIdx (((out5.length : Int) - 1 : Int).toNat)), vec encS 9 1 eh1.v x2]
      refine TC.pad 1 ?_
      show TC _ _ _ _ _ _ _ _ _ [cells b2 [.int .i64 from1] 3, cells b3 [.int .i64 to1] 3, cells b4 [hd5.v] 54, vec encN_T_string 48 1 hd5.v zs2, cells b5 [.int .i64 stanza4] 3, cells jb1 [.string x1.2.Text, .int .i64 x1.2.Indent, .int .i64 x1.2.Stanza, .int .i64 x1.2.In, .int .i64 x1.2.Span_From, .int .i64 x1.2.Span_To] 36, own nest_T_string (zs2.eraseIdx (((out5.length : Int) - 1 : Int).toNat)), vec encS 9 1 eh1.v x2, emp]
      refine let vals1 : (Nat × Hd) → List (Nat × Nat × Value) := fun b => [(0, 36, hd5.v), (1, 37, .int .i64 ((out5.length : Int) - 1)), (2, 38, hd5.v), (3, 39, .int .i64 ((out5.length : Int) - 1)), (4, 40, .pointer (some ⟨vblk hd5.v, ((out5.length : Int) - 1 : Int).toNat * 1, none⟩)), (5, 41, eh1.v), (6, 42, .pointer (some ⟨jb1, 1, none⟩)), (7, 43, .int .i64 x1.2.Indent), (8, 44, .string (spacesB x1.2.Indent)), (9, 45, .pointer (some ⟨jb1, 0, none⟩)), (10, 46, .string x1.2.Text), (11, 47, .string ((spacesB x1.2.Indent) ++ x1.2.Text)), (12, 48, .slice (some ⟨b.1, 0, none⟩) 1 1), (13, 49, b.2.v)]; let LL1 : (Nat → Prop) → (Nat × Hd) → List Asn := fun D b => [cells b2 [.int .i64 from1] 3, cells b3 [.int .i64 to1] 3, cells b4 [hd5.v] 54, vec encN_T_string 48 1 hd5.v zs2, cells b5 [.int .i64 stanza4] 3, cells jb1 [.string x1.2.Text, .int .i64 x1.2.Indent, .int .i64 x1.2.Stanza, .int .i64 x1.2.In, .int .i64 x1.2.Span_From, .int .i64 x1.2.Span_To] 36, own nest_T_string (zs2.eraseIdx (((out5.length : Int) - 1 : Int).toNat)), eD D (vec encS 9 1 eh1.v x2) [(13, vec encS 9 1 b.2.v (x2 ++ [(spacesB x1.2.Indent) ++ x1.2.Text]))], eD D emp [(12, cells b.1 [.string ((spacesB x1.2.Indent) ++ x1.2.Text)] 9)]]; ?_
      refine TC.drawG (β := Nat × Hd) 14 ((0 : Nat), Hd.nil) vals1 LL1 mixed kr kr dc (fun _ => rfl) (cons_eq rfl (cons_eq rfl (cons_eq rfl (cons_eq rfl (cons_eq rfl (cons_eq rfl (cons_eq rfl (cons_eq eD_none (cons_eq eD_none rfl))))))))) (DrawG.cons ?_ (DrawG.cons ?_ (DrawG.cons ?_ (DrawG.cons ?_ (DrawG.cons ?_ (DrawG.cons ?_ (DrawG.cons ?_ (DrawG.cons ?_ (DrawG.cons ?_ (DrawG.cons ?_ (DrawG.cons ?_ (DrawG.cons ?_ (DrawG.cons ?_ (DrawG.cons ?_ DrawG.nil)))))))))))))) ?_
      ·
       intro D b hn hd hcl
       obtain ⟨b9, hd7⟩ := b
       refine TO.rewL (L' := [cells b2 [.int .i64 from1] 3, cells b3 [.int .i64 to1] 3, cells b4 [hd5.v] 54, vec encN_T_string 48 1 hd5.v zs2, cells b5 [.int .i64 stanza4] 3, cells jb1 [.string x1.2.Text, .int .i64 x1.2.Indent, .int .i64 x1.2.Stanza, .int .i64 x1.2.In, .int .i64 x1.2.Span_From, .int .i64 x1.2.Span_To] 36, own nest_T_string (zs2.eraseIdx (((out5.length : Int) - 1 : Int).toNat)), eD D (vec encS 9 1 eh1.v x2) [(13, vec encS 9 1 hd7.v (x2 ++ [(spacesB x1.2.Indent) ++ x1.2.Text]))], eD D emp [(12, cells b9 [.string ((spacesB x1.2.Indent) ++ x1.2.Text)] 9)]]) (cons_eq rfl (cons_eq rfl (cons_eq rfl (cons_eq rfl (cons_eq rfl (cons_eq rfl (cons_eq rfl (cons_eq rfl (cons_eq rfl rfl))))))))) (TO.load (k := 2) sc_54 rfl dc (dl_old (by rfl) rfl) rfl rfl ?_)
       exact TX.valG (b9, hd7) 0 (by rfl) (by rfl) rfl (dl_cons_eq (fun _ => rfl) (dl_cons_eq (fun _ => rfl) (dl_cons_eq (fun _ => rfl) (dl_cons_eq (fun _ => rfl) (dl_cons_eq (fun _ => rfl) (dl_cons_eq (fun _ => rfl) (dl_cons_eq (fun _ => rfl) (dl_cons_eq (fun _ => rfl) (dl_cons_eq (fun _ => rfl) (dl_cons_eq (fun _ => rfl) (dl_cons_eq (fun _ => rfl) (dl_cons_eq (fun _ => rfl) (dl_cons_eq (fun _ => rfl) (dl_cons_eq (fun _ => rfl) rfl)))))))))))))) (cons_eq rfl (cons_eq rfl (cons_eq rfl (cons_eq rfl (cons_eq rfl (cons_eq rfl (cons_eq rfl (cons_eq ((eD_skip (by rfl)).trans rfl) (cons_eq ((eD_skip (by rfl)).trans rfl) rfl)))))))))
      ·
       intro D b hn hd hcl
       obtain ⟨b9, hd7⟩ := b
       refine TO.rewL (L' := [cells b2 [.int .i64 from1] 3, cells b3 [.int .i64 to1] 3, cells b4 [hd5.v] 54, vec encN_T_string 48 1 hd5.v zs2, cells b5 [.int .i64 stanza4] 3, cells jb1 [.string x1.2.Text, .int .i64 x1.2.Indent, .int .i64 x1.2.Stanza, .int .i64 x1.2.In, .int .i64 x1.2.Span_From, .int .i64 x1.2.Span_To] 36, own nest_T_string (zs2.eraseIdx (((out5.length : Int) - 1 : Int).toNat)), eD D (vec encS 9 1 eh1.v x2) [(13, vec encS 9 1 hd7.v (x2 ++ [(spacesB x1.2.Indent) ++ x1.2.Text]))], eD D emp [(12, cells b9 [.string ((spacesB x1.2.Indent) ++ x1.2.Text)] 9)]]) (cons_eq rfl (cons_eq rfl (cons_eq rfl (cons_eq rfl (cons_eq rfl (cons_eq rfl (cons_eq rfl (cons_eq rfl (cons_eq rfl rfl))))))))) (TO.move rfl dc (dl_old (by rfl) rfl) ?_)
       exact TX.valG (b9, hd7) 1 (by rfl) (by rfl) rfl (dl_cons_eq (fun _ => rfl) (dl_cons_eq (fun _ => rfl) (dl_cons_eq (fun _ => rfl) (dl_cons_eq (fun _ => rfl) (dl_cons_eq (fun _ => rfl) (dl_cons_eq (fun _ => rfl) (dl_cons_eq (fun _ => rfl) (dl_cons_eq (fun _ => rfl) (dl_cons_eq (fun _ => rfl) (dl_cons_eq (fun _ => rfl) (dl_cons_eq (fun _ => rfl) (dl_cons_eq (fun _ => rfl) (dl_cons_eq (fun _ => rfl) (dl_cons_eq (fun _ => rfl) rfl)))))))))))))) (cons_eq rfl (cons_eq rfl (cons_eq rfl (cons_eq rfl (cons_eq rfl (cons_eq rfl (cons_eq rfl (cons_eq ((eD_skip (by rfl)).trans rfl) (cons_eq ((eD_skip (by rfl)).trans rfl) rfl)))))))))
      ·
       intro D b hn hd hcl
       obtain ⟨b9, hd7⟩ := b
       refine TO.rewL (L' := [cells b2 [.int .i64 from1] 3, cells b3 [.int .i64 to1] 3, cells b4 [hd5.v] 54, vec encN_T_string 48 1 hd5.v zs2, cells b5 [.int .i64 stanza4] 3, cells jb1 [.string x1.2.Text, .int .i64 x1.2.Indent, .int .i64 x1.2.Stanza, .int .i64 x1.2.In, .int .i64 x1.2.Span_From, .int .i64 x1.2.Span_To] 36, own nest_T_string (zs2.eraseIdx (((out5.length : Int) - 1 : Int).toNat)), vec encS 9 1 eh1.v x2, eD D emp [(12, cells b9 [.string ((spacesB x1.2.Indent) ++ x1.2.Text)] 9)]]) (cons_eq rfl (cons_eq rfl (cons_eq rfl (cons_eq rfl (cons_eq rfl (cons_eq rfl (cons_eq rfl (cons_eq (eD_miss (fun hD => hn (hcl 4 _ rfl (hcl 5 _ rfl (hcl 13 _ rfl hD 5 dc) 4 dc) 2 dc)) eD_nil) (cons_eq rfl rfl))))))))) ?_
       refine TO.load (k := 2) sc_54 rfl dc (dl_old (by rfl) rfl) rfl rfl ?_
       exact TX.valG (b9, hd7) 2 (by rfl) (by rfl) rfl (dl_cons_eq (fun _ => rfl) (dl_cons_eq (fun _ => rfl) (dl_cons_eq (fun _ => rfl) (dl_cons_eq (fun _ => rfl) (dl_cons_eq (fun _ => rfl) (dl_cons_eq (fun _ => rfl) (dl_cons_eq (fun _ => rfl) (dl_cons_eq (fun _ => rfl) (dl_cons_eq (fun _ => rfl) (dl_cons_eq (fun _ => rfl) (dl_cons_eq (fun _ => rfl) (dl_cons_eq (fun _ => rfl) (dl_cons_eq (fun _ => rfl) (dl_cons_eq (fun _ => rfl) rfl)))))))))))))) (cons_eq rfl (cons_eq rfl (cons_eq rfl (cons_eq rfl (cons_eq rfl (cons_eq rfl (cons_eq rfl (cons_eq ((eD_skip (by rfl)).trans (eD_miss (fun hD => hn (hcl 4 _ rfl (hcl 5 _ rfl (hcl 13 _ rfl hD 5 dc) 4 dc) 2 dc)) eD_nil)) (cons_eq ((eD_skip (by rfl)).trans rfl) rfl)))))))))
      ·
       intro D b hn hd hcl
       obtain ⟨b9, hd7⟩ := b
       refine TO.rewL (L' := [cells b2 [.int .i64 from1] 3, cells b3 [.int .i64 to1] 3, cells b4 [hd5.v] 54, vec encN_T_string 48 1 hd5.v zs2, cells b5 [.int .i64 stanza4] 3, cells jb1 [.string x1.2.Text, .int .i64 x1.2.Indent, .int .i64 x1.2.Stanza, .int .i64 x1.2.In, .int .i64 x1.2.Span_From, .int .i64 x1.2.Span_To] 36, own nest_T_string (zs2.eraseIdx (((out5.length : Int) - 1 : Int).toNat)), vec encS 9 1 eh1.v x2, eD D emp [(12, cells b9 [.string ((spacesB x1.2.Indent) ++ x1.2.Text)] 9)]]) (cons_eq rfl (cons_eq rfl (cons_eq rfl (cons_eq rfl (cons_eq rfl (cons_eq rfl (cons_eq rfl (cons_eq (eD_miss (fun hD => hn (hcl 4 _ rfl (hcl 5 _ rfl (hcl 13 _ rfl hD 5 dc) 4 dc) 3 dc)) eD_nil) (cons_eq rfl rfl))))))))) ?_
       refine TO.move rfl dc (dl_old (by rfl) rfl) ?_
       exact TX.valG (b9, hd7) 3 (by rfl) (by rfl) rfl (dl_cons_eq (fun _ => rfl) (dl_cons_eq (fun _ => rfl) (dl_cons_eq (fun _ => rfl) (dl_cons_eq (fun _ => rfl) (dl_cons_eq (fun _ => rfl) (dl_cons_eq (fun _ => rfl) (dl_cons_eq (fun _ => rfl) (dl_cons_eq (fun _ => rfl) (dl_cons_eq (fun _ => rfl) (dl_cons_eq (fun _ => rfl) (dl_cons_eq (fun _ => rfl) (dl_cons_eq (fun _ => rfl) (dl_cons_eq (fun _ => rfl) (dl_cons_eq (fun _ => rfl) rfl)))))))))))))) (cons_eq rfl (cons_eq rfl (cons_eq rfl (cons_eq rfl (cons_eq rfl (cons_eq rfl (cons_eq rfl (cons_eq ((eD_skip (by rfl)).trans (eD_miss (fun hD => hn (hcl 4 _ rfl (hcl 5 _ rfl (hcl 13 _ rfl hD 5 dc) 4 dc) 3 dc)) eD_nil)) (cons_eq ((eD_skip (by rfl)).trans rfl) rfl)))))))))
      ·
       intro D b hn hd hcl
       obtain ⟨b9, hd7⟩ := b
       refine TO.rewL (L' := [cells b2 [.int .i64 from1] 3, cells b3 [.int .i64 to1] 3, cells b4 [hd5.v] 54, vec encN_T_string 48 1 hd5.v zs2, cells b5 [.int .i64 stanza4] 3, cells jb1 [.string x1.2.Text, .int .i64 x1.2.Indent, .int .i64 x1.2.Stanza, .int .i64 x1.2.In, .int .i64 x1.2.Span_From, .int .i64 x1.2.Span_To] 36, own nest_T_string (zs2.eraseIdx (((out5.length : Int) - 1 : Int).toNat)), vec encS 9 1 eh1.v x2, eD D emp [(12, cells b9 [.string ((spacesB x1.2.Indent) ++ x1.2.Text)] 9)]]) (cons_eq rfl (cons_eq rfl (cons_eq rfl (cons_eq rfl (cons_eq rfl (cons_eq rfl (cons_eq rfl (cons_eq (eD_miss (fun hD => hn (hcl 5 _ rfl (hcl 13 _ rfl hD 5 dc) 4 dc)) eD_nil) (cons_eq rfl rfl))))))))) ?_
       refine TO.indexVecI (k := 3) eq1 Tryd.underlying54 sz_48 rfl dc (dl_lookup (m := 2) rfl rfl (hd 2 dc)) (dl_lookup (m := 3) rfl rfl (hd 3 dc)) rfl rfl ?_
       exact TX.valG (b9, hd7) 4 (by rfl) (by rfl) rfl (dl_cons_eq (fun _ => rfl) (dl_cons_eq (fun _ => rfl) (dl_cons_eq (fun _ => rfl) (dl_cons_eq (fun _ => rfl) (dl_cons_eq (fun _ => rfl) (dl_cons_eq (fun _ => rfl) (dl_cons_eq (fun _ => rfl) (dl_cons_eq (fun _ => rfl) (dl_cons_eq (fun _ => rfl) (dl_cons_eq (fun _ => rfl) (dl_cons_eq (fun _ => rfl) (dl_cons_eq (fun _ => rfl) (dl_cons_eq (fun _ => rfl) (dl_cons_eq (fun _ => rfl) rfl)))))))))))))) (cons_eq rfl (cons_eq rfl (cons_eq rfl (cons_eq rfl (cons_eq rfl (cons_eq rfl (cons_eq rfl (cons_eq ((eD_skip (by rfl)).trans (eD_miss (fun hD => hn (hcl 5 _ rfl (hcl 13 _ rfl hD 5 dc) 4 dc)) eD_nil)) (cons_eq ((eD_skip (by rfl)).trans rfl) rfl)))))))))
      ·
       intro D b hn hd hcl
       obtain ⟨b9, hd7⟩ := b
       refine TO.rewL (L' := [cells b2 [.int .i64 from1] 3, cells b3 [.int .i64 to1] 3, cells b4 [hd5.v] 54, vec encN_T_string 48 1 hd5.v zs2, cells b5 [.int .i64 stanza4] 3, cells jb1 [.string x1.2.Text, .int .i64 x1.2.Indent, .int .i64 x1.2.Stanza, .int .i64 x1.2.In, .int .i64 x1.2.Span_From, .int .i64 x1.2.Span_To] 36, own nest_T_string (zs2.eraseIdx (((out5.length : Int) - 1 : Int).toNat)), vec encS 9 1 eh1.v x2, eD D emp [(12, cells b9 [.string ((spacesB x1.2.Indent) ++ x1.2.Text)] 9)]]) (cons_eq rfl (cons_eq rfl (cons_eq rfl (cons_eq rfl (cons_eq rfl (cons_eq rfl (cons_eq rfl (cons_eq (eD_miss (fun hD => hn (hcl 13 _ rfl hD 5 dc)) eD_nil) (cons_eq rfl rfl))))))))) ?_
       refine TO.loadVec (i := ((out5.length : Int) - 1 : Int).toNat) (j := 0) (k := 3) (q := (x2, eh1)) sc_48 encN_T_string_len rfl dc (dl_lookup (m := 4) rfl rfl (hd 4 dc)) rfl (getO_get eq1) rfl dc rfl ?_
       exact TX.valG (b9, hd7) 5 (by rfl) (by rfl) rfl (dl_cons_eq (fun _ => rfl) (dl_cons_eq (fun _ => rfl) (dl_cons_eq (fun _ => rfl) (dl_cons_eq (fun _ => rfl) (dl_cons_eq (fun _ => rfl) (dl_cons_eq (fun _ => rfl) (dl_cons_eq (fun _ => rfl) (dl_cons_eq (fun _ => rfl) (dl_cons_eq (fun _ => rfl) (dl_cons_eq (fun _ => rfl) (dl_cons_eq (fun _ => rfl) (dl_cons_eq (fun _ => rfl) (dl_cons_eq (fun _ => rfl) (dl_cons_eq (fun _ => rfl) rfl)))))))))))))) (cons_eq rfl (cons_eq rfl (cons_eq rfl (cons_eq rfl (cons_eq rfl (cons_eq rfl (cons_eq rfl (cons_eq ((eD_skip (by rfl)).trans (eD_miss (fun hD => hn (hcl 13 _ rfl hD 5 dc)) eD_nil)) (cons_eq ((eD_skip (by rfl)).trans rfl) rfl)))))))))
      ·
       intro D b hn hd hcl
       obtain ⟨b9, hd7⟩ := b
       refine TO.rewL (L' := [cells b2 [.int .i64 from1] 3, cells b3 [.int .i64 to1] 3, cells b4 [hd5.v] 54, vec encN_T_string 48 1 hd5.v zs2, cells b5 [.int .i64 stanza4] 3, cells jb1 [.string x1.2.Text, .int .i64 x1.2.Indent, .int .i64 x1.2.Stanza, .int .i64 x1.2.In, .int .i64 x1.2.Span_From, .int .i64 x1.2.Span_To] 36, own nest_T_string (zs2.eraseIdx (((out5.length : Int) - 1 : Int).toNat)), vec encS 9 1 eh1.v x2, emp]) (cons_eq rfl (cons_eq rfl (cons_eq rfl (cons_eq rfl (cons_eq rfl (cons_eq rfl (cons_eq rfl (cons_eq (eD_miss (fun hD => hn (hcl 7 _ rfl (hcl 8 _ rfl (hcl 13 _ rfl hD 8 dc) 7 dc) 6 dc)) eD_nil) (cons_eq (eD_miss (fun hD => hn (hcl 7 _ rfl (hcl 8 _ rfl (hcl 11 _ rfl (hcl 12 _ rfl hD 11 dc) 8 dc) 7 dc) 6 dc)) eD_nil) rfl))))))))) ?_
       refine TO.fieldAddr fl_36_1 rfl dc (dl_old (by rfl) rfl) (show _ = 1 from rfl) ?_
       exact TX.valG (b9, hd7) 6 (by rfl) (by rfl) rfl (dl_cons_eq (fun _ => rfl) (dl_cons_eq (fun _ => rfl) (dl_cons_eq (fun _ => rfl) (dl_cons_eq (fun _ => rfl) (dl_cons_eq (fun _ => rfl) (dl_cons_eq (fun _ => rfl) (dl_cons_eq (fun _ => rfl) (dl_cons_eq (fun _ => rfl) (dl_cons_eq (fun _ => rfl) (dl_cons_eq (fun _ => rfl) (dl_cons_eq (fun _ => rfl) (dl_cons_eq (fun _ => rfl) (dl_cons_eq (fun _ => rfl) (dl_cons_eq (fun _ => rfl) rfl)))))))))))))) (cons_eq rfl (cons_eq rfl (cons_eq rfl (cons_eq rfl (cons_eq rfl (cons_eq rfl (cons_eq rfl (cons_eq ((eD_skip (by rfl)).trans (eD_miss (fun hD => hn (hcl 7 _ rfl (hcl 8 _ rfl (hcl 13 _ rfl hD 8 dc) 7 dc) 6 dc)) eD_nil)) (cons_eq ((eD_skip (by rfl)).trans (eD_miss (fun hD => hn (hcl 7 _ rfl (hcl 8 _ rfl (hcl 11 _ rfl (hcl 12 _ rfl hD 11 dc) 8 dc) 7 dc) 6 dc)) eD_nil)) rfl)))))))))
      ·
       intro D b hn hd hcl
       obtain ⟨b9, hd7⟩ := b
       refine TO.rewL (L' := [cells b2 [.int .i64 from1] 3, cells b3 [.int .i64 to1] 3, cells b4 [hd5.v] 54, vec encN_T_string 48 1 hd5.v zs2, cells b5 [.int .i64 stanza4] 3, cells jb1 [.string x1.2.Text, .int .i64 x1.2.Indent, .int .i64 x1.2.Stanza, .int .i64 x1.2.In, .int .i64 x1.2.Span_From, .int .i64 x1.2.Span_To] 36, own nest_T_string (zs2.eraseIdx (((out5.length : Int) - 1 : Int).toNat)), vec encS 9 1 eh1.v x2, emp]) (cons_eq rfl (cons_eq rfl (cons_eq rfl (cons_eq rfl (cons_eq rfl (cons_eq rfl (cons_eq rfl (cons_eq (eD_miss (fun hD => hn (hcl 8 _ rfl (hcl 13 _ rfl hD 8 dc) 7 dc)) eD_nil) (cons_eq (eD_miss (fun hD => hn (hcl 8 _ rfl (hcl 11 _ rfl (hcl 12 _ rfl hD 11 dc) 8 dc) 7 dc)) eD_nil) rfl))))))))) ?_
       refine TO.load (k := 5) sc_3 rfl dc (dl_lookup (m := 6) rfl rfl (hd 6 dc)) rfl rfl ?_
       exact TX.valG (b9, hd7) 7 (by rfl) (by rfl) rfl (dl_cons_eq (fun _ => rfl) (dl_cons_eq (fun _ => rfl) (dl_cons_eq (fun _ => rfl) (dl_cons_eq (fun _ => rfl) (dl_cons_eq (fun _ => rfl) (dl_cons_eq (fun _ => rfl) (dl_cons_eq (fun _ => rfl) (dl_cons_eq (fun _ => rfl) (dl_cons_eq (fun _ => rfl) (dl_cons_eq (fun _ => rfl) (dl_cons_eq (fun _ => rfl) (dl_cons_eq (fun _ => rfl) (dl_cons_eq (fun _ => rfl) (dl_cons_eq (fun _ => rfl) rfl)))))))))))))) (cons_eq rfl (cons_eq rfl (cons_eq rfl (cons_eq rfl (cons_eq rfl (cons_eq rfl (cons_eq rfl (cons_eq ((eD_skip (by rfl)).trans (eD_miss (fun hD => hn (hcl 8 _ rfl (hcl 13 _ rfl hD 8 dc) 7 dc)) eD_nil)) (cons_eq ((eD_skip (by rfl)).trans (eD_miss (fun hD => hn (hcl 8 _ rfl (hcl 11 _ rfl (hcl 12 _ rfl hD 11 dc) 8 dc) 7 dc)) eD_nil)) rfl)))))))))
      ·
       intro D b hn hd hcl
       obtain ⟨b9, hd7⟩ := b
       refine TO.rewL (L' := [cells b2 [.int .i64 from1] 3, cells b3 [.int .i64 to1] 3, cells b4 [hd5.v] 54, vec encN_T_string 48 1 hd5.v zs2, cells b5 [.int .i64 stanza4] 3, cells jb1 [.string x1.2.Text, .int .i64 x1.2.Indent, .int .i64 x1.2.Stanza, .int .i64 x1.2.In, .int .i64 x1.2.Span_From, .int .i64 x1.2.Span_To] 36, own nest_T_string (zs2.eraseIdx (((out5.length : Int) - 1 : Int).toNat)), vec encS 9 1 eh1.v x2, emp]) (cons_eq rfl (cons_eq rfl (cons_eq rfl (cons_eq rfl (cons_eq rfl (cons_eq rfl (cons_eq rfl (cons_eq (eD_miss (fun hD => hn (hcl 13 _ rfl hD 8 dc)) eD_nil) (cons_eq (eD_miss (fun hD => hn (hcl 11 _ rfl (hcl 12 _ rfl hD 11 dc) 8 dc)) eD_nil) rfl))))))))) ?_
       refine TO.callP (v := .string (spacesB x1.2.Indent)) (vs := [.string (⟨#[32]⟩ : ByteArray), .int .i64 x1.2.Indent]) rfl dc rfl (evL.cons rfl (evL.cons (dl_lookup (m := 7) rfl rfl (hd 7 dc)) evL.nil)) rfl en_15 (spaces_p x1.2.Indent hg3) ?_
       exact TX.valG (b9, hd7) 8 (by rfl) (by rfl) rfl (dl_cons_eq (fun _ => rfl) (dl_cons_eq (fun _ => rfl) (dl_cons_eq (fun _ => rfl) (dl_cons_eq (fun _ => rfl) (dl_cons_eq (fun _ => rfl) (dl_cons_eq (fun _ => rfl) (dl_cons_eq (fun _ => rfl) (dl_cons_eq (fun _ => rfl) (dl_cons_eq (fun _ => rfl) (dl_cons_eq (fun _ => rfl) (dl_cons_eq (fun _ => rfl) (dl_cons_eq (fun _ => rfl) (dl_cons_eq (fun _ => rfl) (dl_cons_eq (fun _ => rfl) rfl)))))))))))))) (cons_eq rfl (cons_eq rfl (cons_eq rfl (cons_eq rfl (cons_eq rfl (cons_eq rfl (cons_eq rfl (cons_eq ((eD_skip (by rfl)).trans (eD_miss (fun hD => hn (hcl 13 _ rfl hD 8 dc)) eD_nil)) (cons_eq ((eD_skip (by rfl)).trans (eD_miss (fun hD => hn (hcl 11 _ rfl (hcl 12 _ rfl hD 11 dc) 8 dc)) eD_nil)) rfl)))))))))
      ·
       intro D b hn hd hcl
       obtain ⟨b9, hd7⟩ := b
       refine TO.rewL (L' := [cells b2 [.int .i64 from1] 3, cells b3 [.int .i64 to1] 3, cells b4 [hd5.v] 54, vec encN_T_string 48 1 hd5.v zs2, cells b5 [.int .i64 stanza4] 3, cells jb1 [.string x1.2.Text, .int .i64 x1.2.Indent, .int .i64 x1.2.Stanza, .int .i64 x1.2.In, .int .i64 x1.2.Span_From, .int .i64 x1.2.Span_To] 36, own nest_T_string (zs2.eraseIdx (((out5.length : Int) - 1 : Int).toNat)), vec encS 9 1 eh1.v x2, emp]) (cons_eq rfl (cons_eq rfl (cons_eq rfl (cons_eq rfl (cons_eq rfl (cons_eq rfl (cons_eq rfl (cons_eq (eD_miss (fun hD => hn (hcl 10 _ rfl (hcl 11 _ rfl (hcl 12 _ rfl (hcl 13 _ rfl hD 12 dc) 11 dc) 10 dc) 9 dc)) eD_nil) (cons_eq (eD_miss (fun hD => hn (hcl 10 _ rfl (hcl 11 _ rfl (hcl 12 _ rfl hD 11 dc) 10 dc) 9 dc)) eD_nil) rfl))))))))) ?_
       refine TO.fieldAddr fl_36_0 rfl dc (dl_old (by rfl) rfl) (show _ = 0 from rfl) ?_
       exact TX.valG (b9, hd7) 9 (by rfl) (by rfl) rfl (dl_cons_eq (fun _ => rfl) (dl_cons_eq (fun _ => rfl) (dl_cons_eq (fun _ => rfl) (dl_cons_eq (fun _ => rfl) (dl_cons_eq (fun _ => rfl) (dl_cons_eq (fun _ => rfl) (dl_cons_eq (fun _ => rfl) (dl_cons_eq (fun _ => rfl) (dl_cons_eq (fun _ => rfl) (dl_cons_eq (fun _ => rfl) (dl_cons_eq (fun _ => rfl) (dl_cons_eq (fun _ => rfl) (dl_cons_eq (fun _ => rfl) (dl_cons_eq (fun _ => rfl) rfl)))))))))))))) (cons_eq rfl (cons_eq rfl (cons_eq rfl (cons_eq rfl (cons_eq rfl (cons_eq rfl (cons_eq rfl (cons_eq ((eD_skip (by rfl)).trans (eD_miss (fun hD => hn (hcl 10 _ rfl (hcl 11 _ rfl (hcl 12 _ rfl (hcl 13 _ rfl hD 12 dc) 11 dc) 10 dc) 9 dc)) eD_nil)) (cons_eq ((eD_skip (by rfl)).trans (eD_miss (fun hD => hn (hcl 10 _ rfl (hcl 11 _ rfl (hcl 12 _ rfl hD 11 dc) 10 dc) 9 dc)) eD_nil)) rfl)))))))))
      ·
       intro D b hn hd hcl
       obtain ⟨b9, hd7⟩ := b
       refine TO.rewL (L' := [cells b2 [.int .i64 from1] 3, cells b3 [.int .i64 to1] 3, cells b4 [hd5.v] 54, vec encN_T_string 48 1 hd5.v zs2, cells b5 [.int .i64 stanza4] 3, cells jb1 [.string x1.2.Text, .int .i64 x1.2.Indent, .int .i64 x1.2.Stanza, .int .i64 x1.2.In, .int .i64 x1.2.Span_From, .int .i64 x1.2.Span_To] 36, own nest_T_string (zs2.eraseIdx (((out5.length : Int) - 1 : Int).toNat)), vec encS 9 1 eh1.v x2, emp]) (cons_eq rfl (cons_eq rfl (cons_eq rfl (cons_eq rfl (cons_eq rfl (cons_eq rfl (cons_eq rfl (cons_eq (eD_miss (fun hD => hn (hcl 11 _ rfl (hcl 12 _ rfl (hcl 13 _ rfl hD 12 dc) 11 dc) 10 dc)) eD_nil) (cons_eq (eD_miss (fun hD => hn (hcl 11 _ rfl (hcl 12 _ rfl hD 11 dc) 10 dc)) eD_nil) rfl))))))))) ?_
       refine TO.load (k := 5) sc_9 rfl dc (dl_lookup (m := 9) rfl rfl (hd 9 dc)) rfl rfl ?_
       exact TX.valG (b9, hd7) 10 (by rfl) (by rfl) rfl (dl_cons_eq (fun _ => rfl) (dl_cons_eq (fun _ => rfl) (dl_cons_eq (fun _ => rfl) (dl_cons_eq (fun _ => rfl) (dl_cons_eq (fun _ => rfl) (dl_cons_eq (fun _ => rfl) (dl_cons_eq (fun _ => rfl) (dl_cons_eq (fun _ => rfl) (dl_cons_eq (fun _ => rfl) (dl_cons_eq (fun _ => rfl) (dl_cons_eq (fun _ => rfl) (dl_cons_eq (fun _ => rfl) (dl_cons_eq (fun _ => rfl) (dl_cons_eq (fun _ => rfl) rfl)))))))))))))) (cons_eq rfl (cons_eq rfl (cons_eq rfl (cons_eq rfl (cons_eq rfl (cons_eq rfl (cons_eq rfl (cons_eq ((eD_skip (by rfl)).trans (eD_miss (fun hD => hn (hcl 11 _ rfl (hcl 12 _ rfl (hcl 13 _ rfl hD 12 dc) 11 dc) 10 dc)) eD_nil)) (cons_eq ((eD_skip (by rfl)).trans (eD_miss (fun hD => hn (hcl 11 _ rfl (hcl 12 _ rfl hD 11 dc) 10 dc)) eD_nil)) rfl)))))))))
      ·
       intro D b hn hd hcl
       obtain ⟨b9, hd7⟩ := b
       refine TO.rewL (L' := [cells b2 [.int .i64 from1] 3, cells b3 [.int .i64 to1] 3, cells b4 [hd5.v] 54, vec encN_T_string 48 1 hd5.v zs2, cells b5 [.int .i64 stanza4] 3, cells jb1 [.string x1.2.Text, .int .i64 x1.2.Indent, .int .i64 x1.2.Stanza, .int .i64 x1.2.In, .int .i64 x1.2.Span_From, .int .i64 x1.2.Span_To] 36, own nest_T_string (zs2.eraseIdx (((out5.length : Int) - 1 : Int).toNat)), vec encS 9 1 eh1.v x2, emp]) (cons_eq rfl (cons_eq rfl (cons_eq rfl (cons_eq rfl (cons_eq rfl (cons_eq rfl (cons_eq rfl (cons_eq (eD_miss (fun hD => hn (hcl 12 _ rfl (hcl 13 _ rfl hD 12 dc) 11 dc)) eD_nil) (cons_eq (eD_miss (fun hD => hn (hcl 12 _ rfl hD 11 dc)) eD_nil) rfl))))))))) ?_
       refine TO.bin rfl dc (dl_lookup (m := 8) rfl rfl (hd 8 dc)) (dl_lookup (m := 10) rfl rfl (hd 10 dc)) (bin_sadd hg4) ?_
       exact TX.valG (b9, hd7) 11 (by rfl) (by rfl) rfl (dl_cons_eq (fun _ => rfl) (dl_cons_eq (fun _ => rfl) (dl_cons_eq (fun _ => rfl) (dl_cons_eq (fun _ => rfl) (dl_cons_eq (fun _ => rfl) (dl_cons_eq (fun _ => rfl) (dl_cons_eq (fun _ => rfl) (dl_cons_eq (fun _ => rfl) (dl_cons_eq (fun _ => rfl) (dl_cons_eq (fun _ => rfl) (dl_cons_eq (fun _ => rfl) (dl_cons_eq (fun _ => rfl) (dl_cons_eq (fun _ => rfl) (dl_cons_eq (fun _ => rfl) rfl)))))))))))))) (cons_eq rfl (cons_eq rfl (cons_eq rfl (cons_eq rfl (cons_eq rfl (cons_eq rfl (cons_eq rfl (cons_eq ((eD_skip (by rfl)).trans (eD_miss (fun hD => hn (hcl 12 _ rfl (hcl 13 _ rfl hD 12 dc) 11 dc)) eD_nil)) (cons_eq ((eD_skip (by rfl)).trans (eD_miss (fun hD => hn (hcl 12 _ rfl hD 11 dc)) eD_nil)) rfl)))))))))
      ·
       intro D b hn hd hcl
       obtain ⟨_, hd7⟩ := b
       refine TO.rewL (L' := [cells b2 [.int .i64 from1] 3, cells b3 [.int .i64 to1] 3, cells b4 [hd5.v] 54, vec encN_T_string 48 1 hd5.v zs2, cells b5 [.int .i64 stanza4] 3, cells jb1 [.string x1.2.Text, .int .i64 x1.2.Indent, .int .i64 x1.2.Stanza, .int .i64 x1.2.In, .int .i64 x1.2.Span_From, .int .i64 x1.2.Span_To] 36, own nest_T_string (zs2.eraseIdx (((out5.length : Int) - 1 : Int).toNat)), vec encS 9 1 eh1.v x2, emp]) (cons_eq rfl (cons_eq rfl (cons_eq rfl (cons_eq rfl (cons_eq rfl (cons_eq rfl (cons_eq rfl (cons_eq (eD_miss (fun hD => hn (hcl 13 _ rfl hD 12 dc)) eD_nil) (cons_eq (eD_miss hn eD_nil) rfl))))))))) ?_
       refine TO.buildSlice (cs := [.string ((spacesB x1.2.Indent) ++ x1.2.Text)]) (te := 9) (ps := [(0, .tmp 47)]) rfl dc (evP.cons (dl_lookup (m := 11) rfl rfl (hd 11 dc)) evP.nil) (fun _ => by kernel_rfl) (fun b9 => ?_)
       refine TO.place 8 rfl rfl ?_
       show TO _ _ _ _ _ _ _ _ _ _ [cells b2 [.int .i64 from1] 3, cells b3 [.int .i64 to1] 3, cells b4 [hd5.v] 54, vec encN_T_string 48 1 hd5.v zs2, cells b5 [.int .i64 stanza4] 3, cells jb1 [.string x1.2.Text, .int .i64 x1.2.Indent, .int .i64 x1.2.Stanza, .int .i64 x1.2.In, .int .i64 x1.2.Span_From, .int .i64 x1.2.Span_To] 36, own nest_T_string (zs2.eraseIdx (((out5.length : Int) - 1 : Int).toNat)), vec encS 9 1 eh1.v x2, cells b9 [.string ((spacesB x1.2.Indent) ++ x1.2.Text)] 9]
       exact TX.valG (b9, hd7) 12 (by rfl) (by rfl) rfl (dl_cons_eq (fun _ => rfl) (dl_cons_eq (fun _ => rfl) (dl_cons_eq (fun _ => rfl) (dl_cons_eq (fun _ => rfl) (dl_cons_eq (fun _ => rfl) (dl_cons_eq (fun _ => rfl) (dl_cons_eq (fun _ => rfl) (dl_cons_eq (fun _ => rfl) (dl_cons_eq (fun _ => rfl) (dl_cons_eq (fun _ => rfl) (dl_cons_eq (fun _ => rfl) (dl_cons_eq (fun _ => rfl) (dl_cons_eq (fun hD => absurd hD hn) (dl_cons_eq (fun _ => rfl) rfl)))))))))))))) (cons_eq rfl (cons_eq rfl (cons_eq rfl (cons_eq rfl (cons_eq rfl (cons_eq rfl (cons_eq rfl (cons_eq ((eD_skip (by rfl)).trans (eD_miss (fun hD => hn (hcl 13 _ rfl hD 12 dc)) eD_nil)) (cons_eq (eD_hit (Or.inr rfl) rfl) rfl)))))))))
      ·
       intro D b hn hd hcl
       obtain ⟨b9, _⟩ := b
       refine TO.rewL (L' := [cells b2 [.int .i64 from1] 3, cells b3 [.int .i64 to1] 3, cells b4 [hd5.v] 54, vec encN_T_string 48 1 hd5.v zs2, cells b5 [.int .i64 stanza4] 3, cells jb1 [.string x1.2.Text, .int .i64 x1.2.Indent, .int .i64 x1.2.Stanza, .int .i64 x1.2.In, .int .i64 x1.2.Span_From, .int .i64 x1.2.Span_To] 36, own nest_T_string (zs2.eraseIdx (((out5.length : Int) - 1 : Int).toNat)), vec encS 9 1 eh1.v x2, cells b9 [.string ((spacesB x1.2.Indent) ++ x1.2.Text)] 9]) (cons_eq rfl (cons_eq rfl (cons_eq rfl (cons_eq rfl (cons_eq rfl (cons_eq rfl (cons_eq rfl (cons_eq (eD_miss hn eD_nil) (cons_eq (eD_hit (hd 12 dc) rfl) rfl))))))))) ?_
       refine TO.appendVec (k := 7) (k2 := 8) (ys := [(spacesB x1.2.Indent) ++ x1.2.Text]) Tryd.underlying48 el_9 encS_len encS_one rfl dc (dl_lookup (m := 5) rfl rfl (hd 5 dc)) (dl_lookup (m := 12) rfl rfl (hd 12 dc)) rfl rfl rfl rfl hg5 (fun v2 => ?_)
       refine TO.nameHd (k := 7) rfl (fun hd7 he2 => ?_)
       subst he2
       exact TX.valG (b9, hd7) 13 (by rfl) (by rfl) rfl (dl_cons_eq (fun _ => rfl) (dl_cons_eq (fun _ => rfl) (dl_cons_eq (fun _ => rfl) (dl_cons_eq (fun _ => rfl) (dl_cons_eq (fun _ => rfl) (dl_cons_eq (fun _ => rfl) (dl_cons_eq (fun _ => rfl) (dl_cons_eq (fun _ => rfl) (dl_cons_eq (fun _ => rfl) (dl_cons_eq (fun _ => rfl) (dl_cons_eq (fun _ => rfl) (dl_cons_eq (fun _ => rfl) (dl_cons_eq (fun _ => rfl) (dl_cons_eq (fun hD => absurd hD hn) rfl)))))))))))))) (cons_eq rfl (cons_eq rfl (cons_eq rfl (cons_eq rfl (cons_eq rfl (cons_eq rfl (cons_eq rfl (cons_eq (eD_hit (Or.inr rfl) rfl) (cons_eq ((eD_skip (by rfl)).trans (eD_hit (hd 12 dc) rfl)) rfl)))))))))
      intro D b hall
      obtain ⟨b9, hd7⟩ := b
      refine TO.rewL (L' := [cells b2 [.int .i64 from1] 3, cells b3 [.int .i64 to1] 3, cells b4 [hd5.v] 54, vec encN_T_string 48 1 hd5.v zs2, cells b5 [.int .i64 stanza4] 3, cells jb1 [.string x1.2.Text, .int .i64 x1.2.Indent, .int .i64 x1.2.Stanza, .int .i64 x1.2.In, .int .i64 x1.2.Span_From, .int .i64 x1.2.Span_To] 36, own nest_T_string (zs2.eraseIdx (((out5.length : Int) - 1 : Int).toNat)), vec encS 9 1 hd7.v (x2 ++ [(spacesB x1.2.Indent) ++ x1.2.Text]), cells b9 [.string ((spacesB x1.2.Indent) ++ x1.2.Text)] 9]) (cons_eq rfl (cons_eq rfl (cons_eq rfl (cons_eq rfl (cons_eq rfl (cons_eq rfl (cons_eq rfl (cons_eq (eD_hit (hall 13 dc) rfl) (cons_eq (eD_hit (hall 12 dc) rfl) rfl))))))))) (TO.indexVecI (k := 3) eq1 Tryd.underlying54 sz_48 rfl dc rfl rfl rfl rfl ?_)
      refine TO.storeVec (i := ((out5.length : Int) - 1 : Int).toNat) (j := 0) (k := 3) (q := (x2, eh1)) (q' := (x2 ++ [(spacesB x1.2.Indent) ++ x1.2.Text], hd7)) sz_48 encN_T_string_len rfl rfl rfl rfl (getO_get eq1) rfl dc rfl (fun _ _ => rfl) ?_
      show TO _ _ _ _ _ _ _ _ _ _ [cells b2 [.int .i64 from1] 3, cells b3 [.int .i64 to1] 3, cells b4 [hd5.v] 54, vec encN_T_string 48 1 hd5.v (zs2.set (((out5.length : Int) - 1 : Int).toNat) (x2 ++ [(spacesB x1.2.Indent) ++ x1.2.Text], hd7)), cells b5 [.int .i64 stanza4] 3, cells jb1 [.string x1.2.Text, .int .i64 x1.2.Indent, .int .i64 x1.2.Stanza, .int .i64 x1.2.In, .int .i64 x1.2.Span_From, .int .i64 x1.2.Span_To] 36, own nest_T_string (zs2.eraseIdx (((out5.length : Int) - 1 : Int).toNat)), vec encS 9 1 hd7.v (x2 ++ [(spacesB x1.2.Indent) ++ x1.2.Text]), cells b9 [.string ((spacesB x1.2.Indent) ++ x1.2.Text)] 9]
      refine TO.fold1 (k := 6) rfl (Splits.of [7] kr rfl) rfl (pushE (nest := nest_T_string) (zs := zs2) (z := (x2 ++ [(spacesB x1.2.Indent) ++ x1.2.Text], hd7)) (set_get (getO_get eq1)) set_erase) ?_
      show TO _ _ _ _ _ _ _ _ _ _ [cells b2 [.int .i64 from1] 3, cells b3 [.int .i64 to1] 3, cells b4 [hd5.v] 54, vec encN_T_string 48 1 hd5.v (zs2.set (((out5.length : Int) - 1 : Int).toNat) (x2 ++ [(spacesB x1.2.Indent) ++ x1.2.Text], hd7)), cells b5 [.int .i64 stanza4] 3, cells jb1 [.string x1.2.Text, .int .i64 x1.2.Indent, .int .i64 x1.2.Stanza, .int .i64 x1.2.In, .int .i64 x1.2.Span_From, .int .i64 x1.2.Span_To] 36, own nest_T_string (zs2.set (((out5.length : Int) - 1 : Int).toNat) (x2 ++ [(spacesB x1.2.Indent) ++ x1.2.Text], hd7)), emp, cells b9 [.string ((spacesB x1.2.Indent) ++ x1.2.Text)] 9]
      refine TO.nil (TX.blockNormal (TX.fold1 (k := 3) rfl (Splits.of [6] kr rfl) rfl (closeE (enc := encN_T_string) (nest := nest_T_string) (zset hz2)) ?_))
      show TX _ _ _ _ _ _ _ [cells b2 [.int .i64 from1] 3, cells b3 [.int .i64 to1] 3, cells b4 [hd5.v] 54, vecN encN_T_string nest_T_string 48 1 hd5.v (out5.set ((out5.length : Int) - 1 : Int).toNat (x2 ++ [(spacesB x1.2.Indent) ++ x1.2.Text])), cells b5 [.int .i64 stanza4] 3, cells jb1 [.string x1.2.Text, .int .i64 x1.2.Indent, .int .i64 x1.2.Stanza, .int .i64 x1.2.In, .int .i64 x1.2.Span_From, .int .i64 x1.2.Span_To] 36, emp, emp, cells b9 [.string ((spacesB x1.2.Indent) ++ x1.2.Text)] 9]
      exact TX.round (out5.set ((out5.length : Int) - 1 : Int).toNat (x2 ++ [(spacesB x1.2.Indent) ++ x1.2.Text]), stanza4, hd5) (fun post2 e2 => by have e9 := snoc_post hxs1 e2; subst e9; subst hag1; exact h) (Splits.of [0, 1, 2, 3, 4] kr rfl)
  ·
   rintro dm1 ⟨out4, stanza3, hd4⟩ hinv
   have h : d1 out4 stanza3 = some r := hinv [] (List.append_nil _).symm
   rw [hd1] at h
   show TX _ _ _ _ _ _ _ [star ((([] : List Nat) : List Nat).map mark), emp, emp, emp, emp, cells b6 [.pointer (some ⟨bp1, 0, none⟩)] 23, emp, cells b2 [.int .i64 from1] 3, cells b3 [.int .i64 to1] 3, cells b4 [hd4.v] 54, vecN encN_T_string nest_T_string 48 1 hd4.v out4, cells b5 [.int .i64 stanza3] 3, mark dm1]
   refine TX.starCons (k := 12) (j := 0) rfl rfl dc ?_
   show TX _ _ _ _ _ _ _ [star ((dm1 :: ([] : List Nat) : List Nat).map mark), emp, emp, emp, emp, cells b6 [.pointer (some ⟨bp1, 0, none⟩)] 23, emp, cells b2 [.int .i64 from1] 3, cells b3 [.int .i64 to1] 3, cells b4 [hd4.v] 54, vecN encN_T_string nest_T_string 48 1 hd4.v out4, cells b5 [.int .i64 stanza3] 3, emp]
   refine TX.blockNormal ?_
   exact TX.meetD (out4, b4, hd4, dm1 :: ([] : List Nat)) h rfl (Sbs.cons rfl (Sbs.nil)) (Splits.of [9, 10, 0] kr rfl)
  ·
   rintro dm1 c pre x1 post g hxs hX
   exact (show False from hX).elim
 ·
  rintro ⟨out1, b1, hd1, ds1⟩ h
  rw [hj1] at h
  show TC _ _ _ _ _ (marksOf ds1) _ _ [(7, .pointer (some ⟨b1, 0, none⟩))] [cells b1 [hd1.v] 54, vecN encN_T_string nest_T_string 48 1 hd1.v out1, star ((ds1 : List Nat).map mark)]
  refine TC.seq (TC.region (TO.load (k := 0) sc_54 rfl dc rfl rfl rfl (TO.assign rfl dc rfl (TO.nil (TX.next (TC.ret ?_))))))
  cases h
  exact TX.finM (rs := [.tmp 6]) ds1 hd1.v (.inl rfl) (Splits.open0 (k := 2) rfl) Tryd.results61 (.cons (.tmp rfl) .nil) rfl (Splits.of [1] kr rfl)
def poem_made_s1 (stanzas1 : List (List ByteArray)) (j1 : Int → Option ((Option Gpoem_Poem) × Int)) (ag1 : Int → Int → Option ((Option Gpoem_Poem) × Int)) (n4 : Int) (x3 : Int) : Option ((Option Gpoem_Poem) × Int) :=
bcond (decide ((x3 : Int) < (stanzas1.length : Int))) (
andThen (getO stanzas1 x3) fun (x4 : List ByteArray) =>
grd (I64 (n4 + (x4.length : Int))) <|
grd (I64 (x3 + 1)) <|
ag1 (n4 + (x4.length : Int)) (x3 + 1)
) (
j1 n4
)
def poem_made_v (title1 : ByteArray) (stanzas1 : List (List ByteArray)) : Option ((Option Gpoem_Poem) × Int) :=
joinK (fun (j1 : Int → Option ((Option Gpoem_Poem) × Int)) =>
loopG (fun _ _ => none) (poem_made_s1 stanzas1 j1) fuel 0 0
) (fun (n1 : Int) =>
andThen (poem_printed_v title1 stanzas1) fun (r1 : ByteArray) =>
bcond (decide ((512 : Int) < n1)) (
some (none, 3)
) (
bcond (decide ((65536 : Int) < (r1.size : Int))) (
some (none, 3)
) (
andThen (poem_Read_v r1) fun (r2 : ((Option Gpoem_Poem) × Gapi_Spot)) =>
some (r2.1, 0)
)
)
)
set_option maxRecDepth 100000 in
set_option maxHeartbeats 4000000 in
theorem poem_made_fn {title1 : ByteArray} {vvstanzas1 : Value} {vstanzas1 : Hd} {Zstanzas1 : List ((List ByteArray) × Hd)} {kstanzas1 : Nat} {zstanzas1 : List ((List ByteArray) × Hd)} {stanzas1 : List (List ByteArray)} (hwstanzas1 : Vw vvstanzas1 Zstanzas1 1 kstanzas1 vstanzas1.v zstanzas1) (hzstanzas1 : zstanzas1.map Prod.fst = stanzas1) {r : ((Option Gpoem_Poem) × Int)} (h : poem_made_v title1 stanzas1 = some r) : FnR Tryd.prog 62 [.string title1, vstanzas1.v] [roRow encN_T_string 1 vvstanzas1 kstanzas1 Zstanzas1, rdOwn nestR_T_string Zstanzas1] [] (fun v0 : Value => .tuple #[v0, .int .i64 r.2]) (fun v0 => [pobj encN_Gpoem_Poem nest_Gpoem_Poem 93 v0 r.1]) := by
 unfold poem_made_v at h
 refine FnR.intro Tryd.func62 rfl Tryd.ntmps62 (by simp) ?_
 intro w0 K hrd
 obtain ⟨j1, hj1, h⟩ := joinE h
 refine TC.cutN (β := Int) 2 rfl (fun b => j1 b = some r) (fun b => []) (fun b => [(0, .string title1), (1, vstanzas1.v), (6, .int .i64 b)]) (fun b => []) (fun cut => ?_) ?_
 ·
  refine TC.seq (TC.region (TO.assign rfl dc rfl (TO.assign rfl dc rfl (TO.nil (TX.next (TC.seq (TC.region (TO.assign rfl dc rfl (TO.nil (TX.next (cut (TC.seq (TC.region ?_)))))))))))))
  refine TO.move rfl dc rfl (TO.lenVwZ hzstanzas1 hwstanzas1 rfl dc rfl Tryd.underlying54 (TO.move rfl dc rfl (TO.nil (TX.next (TC.block ?_)))))
  refine TC.loopD (β := Nat × Int × Int) (fun b => loopG (fun _ _ => none) (poem_made_s1 stanzas1 j1) b.1 b.2.1 b.2.2 = some r) (fun b => []) (fun b => [(0, .string title1), (1, vstanzas1.v), (6, .int .i64 b.2.1), (12, vstanzas1.v), (13, .int .i64 (stanzas1.length : Int)), (14, .int .i64 b.2.2)]) (fun b => []) (fun b => b.1) (fuel, 0, 0) h rfl (Sbs.cons rfl (Sbs.cons rfl (Sbs.cons rfl (Sbs.cons rfl (Sbs.cons rfl (Sbs.cons rfl (Sbs.nil))))))) Splits.nil ?_
  rintro ⟨n5, n4, x3⟩ h
  cases n5 with
  | zero => exact noneE h
  | succ n5 =>
   obtain ⟨ag1, hag1⟩ : ∃ ag, ag = loopG (fun _ _ => none) (poem_made_s1 stanzas1 j1) n5 := ⟨_, rfl⟩
   have h : poem_made_s1 stanzas1 j1 ag1 n4 x3 = some r := by rw [hag1]; exact h
   unfold poem_made_s1 at h
   show TC _ _ _ _ _ ([]) _ _ [(0, .string title1), (1, vstanzas1.v), (6, .int .i64 n4), (12, vstanzas1.v), (13, .int .i64 (stanzas1.length : Int)), (14, .int .i64 x3)] []
   refine TC.seq (TC.region (TO.bin rfl dc rfl rfl bin_lss (TO.nil (TX.next (TC.seq ?_)))))
   refine TC.condB rfl (fun hb1 => ?_) (fun hb1 => ?_)
   ·
    have h := condT hb1 h
    refine TC.skip (TX.next (TC.seq (TC.block (TC.seq (TC.region ?_)))))
    obtain ⟨x4, hq1, h⟩ := andE h
    obtain ⟨eh1, eq1⟩ := getO_z hzstanzas1 hq1
    have hrd : Rd _ _ [roRow encN_T_string 1 vvstanzas1 kstanzas1 Zstanzas1, rdOwn nestR_T_string Zstanzas1, rdSl encS 1 eh1 x4] := hrd.openEl (i := 1) (z := (x4, eh1)) rfl (Vw.get hwstanzas1 eq1)
    obtain ⟨vv1, k1, L1, hV1, hrd⟩ := hrd.openSl (i := 2) rfl
    replace hrd : Rd _ _ [roRow encN_T_string 1 vvstanzas1 kstanzas1 Zstanzas1, rdOwn nestR_T_string Zstanzas1, rdSl encS 1 eh1 x4, roRow encS 1 vv1 k1 L1] := hrd
    refine TO.indexVw hwstanzas1 eq1 Tryd.underlying54 sz_48 rfl dc rfl rfl rfl (TO.loadRowRd (n := kstanzas1 + (x3 : Int).toNat) (j := 0) (i := 0) (q := (x4, eh1)) hrd rfl (by omega) sc_48 rfl dc rfl (Vw.get hwstanzas1 eq1) rfl rfl (TO.assign rfl dc rfl (TO.nil (TX.next (TC.region (TO.move rfl dc rfl (TO.move rfl dc rfl (TO.lenVw hV1 rfl dc rfl Tryd.underlying48 ?_))))))))
    obtain ⟨hg1, h⟩ := grdE h
    refine TO.bin rfl dc rfl rfl (bin_add (r := n4 + (x4.length : Int)) (IntWalk.i64_in _ hg1)) (TO.assign rfl dc rfl (TO.nil (TX.blockNormal (TX.next (TC.region ?_)))))
    obtain ⟨hg2, h⟩ := grdE h
    refine TO.bin rfl dc rfl rfl (bin_add (r := x3 + 1) (IntWalk.i64_in _ hg2)) (TO.move rfl dc rfl (TO.nil ?_))
    subst hag1
    exact TX.againD (n5, n4 + (x4.length : Int), x3 + 1) h (Nat.lt_succ_self _) rfl (Sbs.cons rfl (Sbs.cons rfl (Sbs.cons rfl (Sbs.cons rfl (Sbs.cons rfl (Sbs.cons rfl (Sbs.nil))))))) Splits.nil
   ·
    have h := condF hb1 h
    refine TC.exit (TX.thenExit (TX.thenExit (TX.blockHere ?_)))
    exact TX.meetD n4 h rfl (Sbs.cons rfl (Sbs.cons rfl (Sbs.cons rfl (Sbs.nil)))) Splits.nil
 ·
  rintro n1 h
  rw [hj1] at h
  show TC _ _ _ _ _ ([]) _ _ [(0, .string title1), (1, vstanzas1.v), (6, .int .i64 n1)] []
  refine TC.seq (TC.region (TO.move rfl dc rfl (TO.move rfl dc rfl ?_)))
  obtain ⟨r1, hq2, h⟩ := andE h
  refine TO.callPR (v := .string r1) (vs := [.string title1, vstanzas1.v]) hrd rfl dc rfl rfl rfl en_60 (poem_printed_fn (vstanzas1 := vstanzas1) hwstanzas1 hzstanzas1 hq2) (.ro 0 rfl (.ro 1 rfl .nil)) (TO.assign rfl dc rfl (TO.nil (TX.next (TC.seq (TC.seq (TC.region (TO.move rfl dc rfl (TO.bin rfl dc rfl rfl bin_gtr (TO.move rfl dc rfl ?_)))))))))
  refine TO.split (s := 28) rfl (fun hb2 => ?_) (fun hb2 => ?_)
  ·
   have h := condT hb2 h
   refine TO.skip rfl dc (TO.skip rfl dc (TO.skip rfl dc (TO.pick (b := true) rfl dc rfl rfl (TO.nil (TX.next (TC.condT rfl (TC.seq (TC.region (TO.assign rfl dc rfl (TO.assign rfl dc rfl (TO.nil (TX.next (TC.ret ?_)))))))))))))
   refine TX.thenRet (TX.newObj encN_Gpoem_Poem nest_Gpoem_Poem 93 ?_)
   show TX _ _ _ _ _ _ _ [pobj encN_Gpoem_Poem nest_Gpoem_Poem 93 (.pointer none) none]
   cases h
   exact TX.fin (rs := [.tmp 4, .tmp 5]) (.pointer none) (.inl rfl) Tryd.results62 (.cons (.tmp rfl) (.cons (.tmp rfl) .nil)) rfl (Splits.of [0] kr rfl)
  ·
   have h := condF hb2 h
   refine TO.move rfl dc rfl (TO.lenStr rfl dc rfl Tryd.underlying9 (TO.bin rfl dc rfl rfl bin_gtr (TO.pick (b := false) rfl dc rfl rfl (TO.nil (TX.next ?_)))))
   refine TC.condB rfl (fun hb3 => ?_) (fun hb3 => ?_)
   ·
    have h := condT hb3 h
    refine TC.seq (TC.region (TO.assign rfl dc rfl (TO.assign rfl dc rfl (TO.nil (TX.next (TC.ret (TX.thenRet (TX.newObj encN_Gpoem_Poem nest_Gpoem_Poem 93 ?_))))))))
    show TX _ _ _ _ _ _ _ [pobj encN_Gpoem_Poem nest_Gpoem_Poem 93 (.pointer none) none]
    cases h
    exact TX.fin (rs := [.tmp 4, .tmp 5]) (.pointer none) (.inl rfl) Tryd.results62 (.cons (.tmp rfl) (.cons (.tmp rfl) .nil)) rfl (Splits.of [0] kr rfl)
   ·
    have h := condF hb3 h
    refine TC.skip (TX.next (TC.seq (TC.region (TO.move rfl dc rfl ?_))))
    obtain ⟨r2, hq3, h⟩ := andE h
    refine TO.call (vs := [.string r1]) rfl dc rfl rfl rfl en_13 (poem_Read_fn hq3) Splits.nil ?_
    rintro v1
    show TO _ _ _ _ _ _ _ _ _ _ [pobj encN_Gpoem_Poem nest_Gpoem_Poem 93 v1 r2.1]
    refine TO.weakenL (L' := [pobj encN_Gpoem_Poem nest_Gpoem_Poem 93 v1 r2.1]) (Splits.of [0] kr rfl) (TO.move rfl dc rfl (TO.extract rfl dc rfl rfl (TO.extract rfl dc rfl rfl ?_)))
    refine TO.alloc zr_26 rfl dc (fun b1 => ?_)
    refine TO.assign rfl dc rfl (TO.stores (k := 1) (vs := [.int .i64 r2.2.Err, .int .i64 r2.2.At]) (l' := [.int .i64 r2.2.Err, .int .i64 r2.2.At]) sz_26 rfl rfl rfl rfl rfl (show _ ≤ _ by simp) rfl rfl ?_)
    show TO _ _ _ _ _ _ _ _ _ _ [pobj encN_Gpoem_Poem nest_Gpoem_Poem 93 v1 r2.1, cells b1 [.int .i64 r2.2.Err, .int .i64 r2.2.At] 26]
    refine TO.nil (TX.next (TC.seq (TC.region (TO.move rfl dc rfl (TO.assign rfl dc rfl (TO.assign rfl dc rfl (TO.nil (TX.next (TC.ret ?_)))))))))
    cases h
    exact TX.fin (rs := [.tmp 4, .tmp 5]) v1 (.inl rfl) Tryd.results62 (.cons (.tmp rfl) (.cons (.tmp rfl) .nil)) rfl (Splits.of [0] kr rfl)
def poem_Poem_Print_v (p1 : Gpoem_Poem) : Option ByteArray :=
andThen (poem_Poem_rows_v p1 0 (p1.told_lines.length : Int)) fun (r1 : (List (List ByteArray))) =>
andThen (poem_printed_v p1.told_title r1) fun (r2 : ByteArray) =>
some r2
set_option maxRecDepth 100000 in
set_option maxHeartbeats 4000000 in
theorem poem_Poem_Print_fn {bp1 : Nat} {p1 : Gpoem_Poem} {p1_h0 p1_h1 : Hd} {r : ByteArray} (h : poem_Poem_Print_v p1 = some r) : FnR Tryd.prog 18 [.pointer (some ⟨bp1, 0, none⟩)] [cells bp1 [.string p1.told_title, p1_h0.v, p1_h1.v, .string p1.source] 93, vec enc_Gapi_Verse 36 6 p1_h0.v p1.told_lines, vec enc_Gapi_Span 34 2 p1_h1.v p1.told_stanzas] [] (fun _ : Unit => (.string r)) (fun _ => []) := by
 unfold poem_Poem_Print_v at h
 refine FnR.intro Tryd.func18 rfl Tryd.ntmps18 (by simp) ?_
 intro w0 K hrd
 refine TC.seq (TC.region (TO.assign rfl dc rfl (TO.nil (TX.next (TC.seq (TC.seq (TC.region (TO.move rfl dc rfl (TO.bin rfl dc rfl rfl (bin_ptrnileqlR Tryd.underlying23) (TO.nil (TX.next (TC.condF rfl (TC.skip ?_)))))))))))))
 refine TX.next (TC.seq ?_)
 obtain ⟨r1, hq1, h⟩ := andE h
 obtain ⟨r2, hq2, h⟩ := andE h
 refine TC.drawB (β := Hd) 13 12 _ [(0, 5, .pointer (some ⟨bp1, 0, none⟩)), (1, 6, .pointer (some ⟨bp1, 0, none⟩)), (2, 7, .pointer (some ⟨bp1, 0, none⟩)), (3, 8, .pointer (some ⟨bp1, 0, none⟩)), (4, 9, .string p1.told_title), (5, 10, .pointer (some ⟨bp1, 0, none⟩)), (6, 11, .pointer (some ⟨bp1, 0, none⟩)), (7, 12, .pointer (some ⟨bp1, 0, none⟩)), (8, 13, .pointer (some ⟨bp1, 0, none⟩)), (9, 14, .pointer (some ⟨bp1, 1, none⟩)), (10, 15, p1_h0.v), (11, 16, .int .i64 (p1.told_lines.length : Int))] (fun hd1 => [(17, hd1.v)]) (fun hd1 => [vecN encN_T_string nest_T_string 48 1 hd1.v r1]) mixed kr kr rfl dc dc (by rfl) kr kr (DrawPreX.cons ?_ (DrawPreX.cons ?_ (DrawPreX.cons ?_ (DrawPreX.cons ?_ (DrawPreX.cons ?_ (DrawPreX.cons ?_ (DrawPreX.cons ?_ (DrawPreX.cons ?_ (DrawPreX.cons ?_ (DrawPreX.cons ?_ (DrawPreX.cons ?_ (DrawPreX.cons ?_ (DrawPreX.here DrawPreX.nil))))))))))))) (fun hd1 => (DrawPreX.cons ?_ (DrawPreX.cons ?_ (DrawPreX.cons ?_ (DrawPreX.cons ?_ (DrawPreX.cons ?_ (DrawPreX.cons ?_ (DrawPreX.cons ?_ (DrawPreX.cons ?_ (DrawPreX.cons ?_ (DrawPreX.cons ?_ (DrawPreX.cons ?_ (DrawPreX.cons ?_ (DrawPreX.here DrawPreX.nil)))))))))))))) ?_ ?_
 ·
  intro D hn hd hcl hu hi
  refine TO.move rfl dc (dl_old (by rfl) rfl) ?_
  exact TX.quiet 0 hu hi rfl
 ·
  intro D hn hd hcl hu hi
  refine TO.nilCheck rfl dc (dl_lookup (m := 0) hu rfl (hd 0 dc)) ?_
  exact TX.quiet 1 hu hi rfl
 ·
  intro D hn hd hcl hu hi
  refine TO.fieldAddr fl_93_0 rfl dc (dl_lookup (m := 1) hu rfl (hd 1 dc)) (show _ = 0 from rfl) ?_
  exact TX.quiet 2 hu hi rfl
 ·
  intro D hn hd hcl hu hi
  refine TO.fieldAddr fl_91_0 rfl dc (dl_lookup (m := 2) hu rfl (hd 2 dc)) (show _ = 0 from rfl) ?_
  exact TX.quiet 3 hu hi rfl
 ·
  intro D hn hd hcl hu hi
  refine TO.loadRd (i := 0) hrd rfl sc_9 rfl dc (dl_lookup (m := 3) hu rfl (hd 3 dc)) rfl ?_
  exact TX.quiet 4 hu hi rfl
 ·
  intro D hn hd hcl hu hi
  refine TO.move rfl dc (dl_old (by rfl) rfl) ?_
  exact TX.quiet 5 hu hi rfl
 ·
  intro D hn hd hcl hu hi
  refine TO.move rfl dc (dl_old (by rfl) rfl) ?_
  exact TX.quiet 6 hu hi rfl
 ·
  intro D hn hd hcl hu hi
  refine TO.nilCheck rfl dc (dl_lookup (m := 6) hu rfl (hd 6 dc)) ?_
  exact TX.quiet 7 hu hi rfl
 ·
  intro D hn hd hcl hu hi
  refine TO.fieldAddr fl_93_0 rfl dc (dl_lookup (m := 7) hu rfl (hd 7 dc)) (show _ = 0 from rfl) ?_
  exact TX.quiet 8 hu hi rfl
 ·
  intro D hn hd hcl hu hi
  refine TO.fieldAddr fl_91_1 rfl dc (dl_lookup (m := 8) hu rfl (hd 8 dc)) (show _ = 1 from rfl) ?_
  exact TX.quiet 9 hu hi rfl
 ·
  intro D hn hd hcl hu hi
  refine TO.loadRd (i := 0) hrd rfl sc_57 rfl dc (dl_lookup (m := 9) hu rfl (hd 9 dc)) rfl ?_
  exact TX.quiet 10 hu hi rfl
 ·
  intro D hn hd hcl hu hi
  refine TO.lenVw (hrd.vw (i := 1) rfl) rfl dc (dl_lookup (m := 10) hu rfl (hd 10 dc)) Tryd.underlying57 ?_
  exact TX.quiet 11 hu hi rfl
 ·
  intro D hn hd hcl hu hi
  refine TO.move rfl dc (dl_old (by rfl) rfl) ?_
  exact TX.quiet 0 hu hi rfl
 ·
  intro D hn hd hcl hu hi
  refine TO.nilCheck rfl dc (dl_lookup (m := 0) hu rfl (hd 0 dc)) ?_
  exact TX.quiet 1 hu hi rfl
 ·
  intro D hn hd hcl hu hi
  refine TO.fieldAddr fl_93_0 rfl dc (dl_lookup (m := 1) hu rfl (hd 1 dc)) (show _ = 0 from rfl) ?_
  exact TX.quiet 2 hu hi rfl
 ·
  intro D hn hd hcl hu hi
  refine TO.fieldAddr fl_91_0 rfl dc (dl_lookup (m := 2) hu rfl (hd 2 dc)) (show _ = 0 from rfl) ?_
  exact TX.quiet 3 hu hi rfl
 ·
  intro D hn hd hcl hu hi
  refine TO.loadRd (i := 0) hrd rfl sc_9 rfl dc (dl_lookup (m := 3) hu rfl (hd 3 dc)) rfl ?_
  exact TX.quiet 4 hu hi rfl
 ·
  intro D hn hd hcl hu hi
  refine TO.move rfl dc (dl_old (by rfl) rfl) ?_
  exact TX.quiet 5 hu hi rfl
 ·
  intro D hn hd hcl hu hi
  refine TO.move rfl dc (dl_old (by rfl) rfl) ?_
  exact TX.quiet 6 hu hi rfl
 ·
  intro D hn hd hcl hu hi
  refine TO.nilCheck rfl dc (dl_lookup (m := 6) hu rfl (hd 6 dc)) ?_
  exact TX.quiet 7 hu hi rfl
 ·
  intro D hn hd hcl hu hi
  refine TO.fieldAddr fl_93_0 rfl dc (dl_lookup (m := 7) hu rfl (hd 7 dc)) (show _ = 0 from rfl) ?_
  exact TX.quiet 8 hu hi rfl
 ·
  intro D hn hd hcl hu hi
  refine TO.fieldAddr fl_91_1 rfl dc (dl_lookup (m := 8) hu rfl (hd 8 dc)) (show _ = 1 from rfl) ?_
  exact TX.quiet 9 hu hi rfl
 ·
  intro D hn hd hcl hu hi
  refine TO.loadRd (i := 0) hrd rfl sc_57 rfl dc (dl_lookup (m := 9) hu rfl (hd 9 dc)) rfl ?_
  exact TX.quiet 10 hu hi rfl
 ·
  intro D hn hd hcl hu hi
  refine TO.lenVw (hrd.vw (i := 1) rfl) rfl dc (dl_lookup (m := 10) hu rfl (hd 10 dc)) Tryd.underlying57 ?_
  exact TX.quiet 11 hu hi rfl
 ·
  intro D hn hd hcl
  refine TO.callR (vs := [.pointer (some ⟨bp1, 0, none⟩), .int .i64 0, .int .i64 (p1.told_lines.length : Int)]) hrd rfl dc rfl (evL.cons (dl_lookup (m := 5) kr rfl (hd 5 dc)) (evL.cons rfl (evL.cons (dl_lookup (m := 11) kr rfl (hd 11 dc)) evL.nil))) rfl en_61 (poem_Poem_rows_fn (bp1 := bp1) (p1 := p1) (p1_h0 := p1_h0) (p1_h1 := p1_h1) hq1) Splits.nil (.ro 0 rfl (.ro 1 rfl (.ro 2 rfl .nil))) ?_
  rintro v1
  show TO _ _ _ _ _ _ _ _ _ _ [vecN encN_T_string nest_T_string 48 1 v1 r1]
  refine TO.weakenL (L' := [vecN encN_T_string nest_T_string 48 1 v1 r1]) (Splits.of [0] kr rfl) ?_
  refine TO.nameHdN (k := 0) rfl (fun hd1 he1 => ?_)
  subst he1
  exact fun a w ha hw => ⟨hd1, Sbs.mid (by rfl) _ _ _ ha, hw⟩
 intro hd1
 show TO _ _ _ _ _ _ _ _ _ _ [vecN encN_T_string nest_T_string 48 1 hd1.v r1]
 refine TO.callPR (v := .string r2) (vs := [.string p1.told_title, hd1.v]) hrd rfl dc rfl rfl rfl en_60 (FnR.closeN (nest := nest_T_string) (e := 48) (v := hd1.v) (xs := r1) (RD1 := []) (RD2 := []) encN_T_string_len gives_T_string (fun zs_c0 hz_c0 hV_c0 => (poem_printed_fn (vstanzas1 := hd1) hV_c0 hz_c0 hq2))) (.own (Splits.of [0] (by kernel_rfl) rfl) (fun _ _ h => sepL.one1.1 h) .nil) ?_
 refine TO.assign rfl dc rfl (TO.nil (TX.next (TC.ret ?_)))
 cases h
 exact TX.fin (rs := [.tmp 2]) () (.inl rfl) Tryd.results18 (.cons (.tmp rfl) .nil) rfl Splits.nil
def poem_Poem_Set_v (p1 : Gpoem_Poem) (k1 : Int) (line1 : ByteArray) : Option ((Option Gpoem_Poem) × Int) :=
bcond (decide ((k1 : Int) < 0)) (
some (none, 5)
) (
bcond (decide (((p1.told_lines.length : Int) : Int) ≤ k1)) (
some (none, 5)
) (
bcond (!(mayL line1 1024)) (
some (none, 170)
) (
andThen (poem_empty_v line1) fun (r1 : Bool) =>
bcond (r1) (
some (none, 170)
) (
andThen (poem_Poem_rows_v p1 0 (p1.told_lines.length : Int)) fun (r2 : (List (List ByteArray))) =>
andThen (getO p1.told_lines k1) fun (q1 : Gapi_Verse) =>
andThen (getO r2 q1.Stanza) fun (x1 : List ByteArray) =>
andThen (getO x1 q1.In) fun (q2 : ByteArray) =>
andThen (poem_made_v p1.told_title (r2.set ((q1.Stanza : Int).toNat) (x1.set (q1.In : Int).toNat line1))) fun (r3 : ((Option Gpoem_Poem) × Int)) =>
some (r3.1, r3.2)
)
)
)
)
set_option maxRecDepth 100000 in
set_option maxHeartbeats 4000000 in
theorem poem_Poem_Set_fn {bp1 : Nat} {p1 : Gpoem_Poem} {p1_h0 p1_h1 : Hd} {k1 : Int} {line1 : ByteArray} {r : ((Option Gpoem_Poem) × Int)} (h : poem_Poem_Set_v p1 k1 line1 = some r) : FnR Tryd.prog 29 [.pointer (some ⟨bp1, 0, none⟩), .int .i64 k1, .string line1] [cells bp1 [.string p1.told_title, p1_h0.v, p1_h1.v, .string p1.source] 93, vec enc_Gapi_Verse 36 6 p1_h0.v p1.told_lines, vec enc_Gapi_Span 34 2 p1_h1.v p1.told_stanzas] [] (fun v0 : Value => .tuple #[v0, .int .i64 r.2]) (fun v0 => [pobj encN_Gpoem_Poem nest_Gpoem_Poem 93 v0 r.1]) := by
 unfold poem_Poem_Set_v at h
 refine FnR.intro Tryd.func29 rfl Tryd.ntmps29 (by simp) ?_
 intro w0 K hrd
 refine TC.seq (TC.region (TO.assign rfl dc rfl (TO.assign rfl dc rfl (TO.nil (TX.next (TC.seq (TC.block (TC.seq (TC.region (TO.move rfl dc rfl (TO.bin rfl dc rfl rfl (bin_ptrnileqlR Tryd.underlying23) (TO.assign rfl dc rfl (TO.nil ?_)))))))))))))
 refine TX.next (TC.condF rfl (TC.seq (TC.region (TO.move rfl dc rfl (TO.bin rfl dc rfl rfl bin_lss (TO.move rfl dc rfl ?_))))))
 refine TO.split (s := 16) rfl (fun hb1 => ?_) (fun hb1 => ?_)
 ·
  have h := condT hb1 h
  refine TO.skip rfl dc (TO.skip rfl dc (TO.skip rfl dc (TO.skip rfl dc (TO.skip rfl dc (TO.skip rfl dc (TO.skip rfl dc (TO.skip rfl dc (TO.pick (b := true) rfl dc rfl rfl (TO.assign rfl dc rfl (TO.nil (TX.next (TC.condT rfl (TC.seq ?_)))))))))))))
  refine TC.region (TO.assign rfl dc rfl (TO.assign rfl dc rfl (TO.nil (TX.next (TC.ret (TX.blockRet (TX.thenRet (TX.newObj encN_Gpoem_Poem nest_Gpoem_Poem 93 ?_))))))))
  show TX _ _ _ _ _ _ _ [pobj encN_Gpoem_Poem nest_Gpoem_Poem 93 (.pointer none) none]
  cases h
  exact TX.fin (rs := [.tmp 6, .tmp 7]) (.pointer none) (.inl rfl) Tryd.results29 (.cons (.tmp rfl) (.cons (.tmp rfl) .nil)) rfl (Splits.of [0] kr rfl)
 ·
  have h := condF hb1 h
  refine TO.move rfl dc rfl (TO.move rfl dc rfl (TO.nilCheck rfl dc rfl (TO.fieldAddr fl_93_0 rfl dc rfl (show _ = 0 from rfl) (TO.fieldAddr fl_91_1 rfl dc rfl (show _ = 1 from rfl) (TO.loadRd (i := 0) hrd rfl sc_57 rfl dc rfl rfl (TO.lenVw (hrd.vw (i := 1) rfl) rfl dc rfl Tryd.underlying57 (TO.bin rfl dc rfl rfl bin_geq (TO.pick (b := false) rfl dc rfl rfl (TO.assign rfl dc rfl (TO.nil (TX.next ?_)))))))))))
  refine TC.condB rfl (fun hb2 => ?_) (fun hb2 => ?_)
  ·
   have h := condT hb2 h
   refine TC.seq (TC.region (TO.assign rfl dc rfl (TO.assign rfl dc rfl (TO.nil (TX.next (TC.ret (TX.blockRet (TX.thenRet (TX.newObj encN_Gpoem_Poem nest_Gpoem_Poem 93 ?_)))))))))
   show TX _ _ _ _ _ _ _ [pobj encN_Gpoem_Poem nest_Gpoem_Poem 93 (.pointer none) none]
   cases h
   exact TX.fin (rs := [.tmp 6, .tmp 7]) (.pointer none) (.inl rfl) Tryd.results29 (.cons (.tmp rfl) (.cons (.tmp rfl) .nil)) rfl (Splits.of [0] kr rfl)
  ·
   have h := condF hb2 h
   refine TC.seq (TC.region (TO.move rfl dc rfl (TO.callP (v := .bool (mayL line1 1024)) (vs := [.string line1, .int .i64 1024]) rfl dc rfl rfl rfl en_63 (may_p line1 1024 dc) (TO.un rfl dc rfl un_not (TO.move rfl dc rfl ?_)))))
   refine TO.split (s := 30) rfl (fun hb3 => ?_) (fun hb3 => ?_)
   ·
    have h := condT hb3 h
    refine TO.skip rfl dc (TO.skip rfl dc (TO.pick (b := true) rfl dc rfl rfl (TO.assign rfl dc rfl (TO.nil (TX.next (TC.condT rfl (TC.seq (TC.region (TO.assign rfl dc rfl (TO.assign rfl dc rfl (TO.nil (TX.next (TC.ret ?_)))))))))))))
    refine TX.blockRet (TX.thenRet (TX.newObj encN_Gpoem_Poem nest_Gpoem_Poem 93 ?_))
    show TX _ _ _ _ _ _ _ [pobj encN_Gpoem_Poem nest_Gpoem_Poem 93 (.pointer none) none]
    cases h
    exact TX.fin (rs := [.tmp 6, .tmp 7]) (.pointer none) (.inl rfl) Tryd.results29 (.cons (.tmp rfl) (.cons (.tmp rfl) .nil)) rfl (Splits.of [0] kr rfl)
   ·
    have h := condF hb3 h
    refine TO.move rfl dc rfl ?_
    obtain ⟨r1, hq1, h⟩ := andE h
    refine TO.callP (v := .bool r1) (vs := [.string line1]) rfl dc rfl rfl rfl en_48 (poem_empty_fn hq1) (TO.pick (b := false) rfl dc rfl rfl (TO.assign rfl dc rfl (TO.nil (TX.next ?_))))
    refine TC.condB rfl (fun hb4 => ?_) (fun hb4 => ?_)
    ·
     have h := condT hb4 h
     refine TC.seq (TC.region (TO.assign rfl dc rfl (TO.assign rfl dc rfl (TO.nil (TX.next (TC.ret (TX.blockRet (TX.thenRet (TX.newObj encN_Gpoem_Poem nest_Gpoem_Poem 93 ?_)))))))))
     show TX _ _ _ _ _ _ _ [pobj encN_Gpoem_Poem nest_Gpoem_Poem 93 (.pointer none) none]
     cases h
     exact TX.fin (rs := [.tmp 6, .tmp 7]) (.pointer none) (.inl rfl) Tryd.results29 (.cons (.tmp rfl) (.cons (.tmp rfl) .nil)) rfl (Splits.of [0] kr rfl)
    ·
     have h := condF hb4 h
     refine TC.skip (TX.blockNormal (TX.next (TC.seq (TC.region (TO.move rfl dc rfl (TO.move rfl dc rfl (TO.nilCheck rfl dc rfl (TO.fieldAddr fl_93_0 rfl dc rfl (show _ = 0 from rfl) (TO.fieldAddr fl_91_1 rfl dc rfl (show _ = 1 from rfl) (TO.loadRd (i := 0) hrd rfl sc_57 rfl dc rfl rfl (TO.lenVw (hrd.vw (i := 1) rfl) rfl dc rfl Tryd.underlying57 ?_)))))))))))
     obtain ⟨r2, hq2, h⟩ := andE h
     refine TO.callR (vs := [.pointer (some ⟨bp1, 0, none⟩), .int .i64 0, .int .i64 (p1.told_lines.length : Int)]) hrd rfl dc rfl rfl rfl en_61 (poem_Poem_rows_fn (bp1 := bp1) (p1 := p1) (p1_h0 := p1_h0) (p1_h1 := p1_h1) hq2) Splits.nil (.ro 0 rfl (.ro 1 rfl (.ro 2 rfl .nil))) ?_
     rintro v1
     show TO _ _ _ _ _ _ _ _ _ _ [vecN encN_T_string nest_T_string 48 1 v1 r2]
     refine TO.weakenL (L' := [vecN encN_T_string nest_T_string 48 1 v1 r2]) (Splits.of [0] kr rfl) ?_
     refine TO.nameHdN (k := 0) rfl (fun hd1 he1 => ?_)
     subst he1
     refine TO.assign rfl dc rfl (TO.nil (TX.next (TC.seq (TC.region (TO.move rfl dc rfl (TO.nilCheck rfl dc rfl (TO.fieldAddr fl_93_0 rfl dc rfl (show _ = 0 from rfl) (TO.fieldAddr fl_91_1 rfl dc rfl (show _ = 1 from rfl) (TO.loadRd (i := 0) hrd rfl sc_57 rfl dc rfl rfl (TO.move rfl dc rfl ?_))))))))))
     obtain ⟨q1, hq3, h⟩ := andE h
     refine TO.indexVw (hrd.vw (i := 1) rfl) hq3 Tryd.underlying57 sz_36 rfl dc rfl rfl rfl (TO.loadsVecRd (m := 0 + (k1 : Int).toNat) (j := 0) (i := 1) (q := q1) (cs := [.string q1.Text, .int .i64 q1.Indent, .int .i64 q1.Stanza, .int .i64 q1.In, .int .i64 q1.Span_From, .int .i64 q1.Span_To]) hrd rfl rw_36 enc_Gapi_Verse_len rfl dc rfl (Vw.get (hrd.vw (i := 1) rfl) hq3) rfl rfl rfl ?_)
     refine TO.alloc zr_36 rfl dc (fun b1 => ?_)
     refine TO.stores (k := 1) (vs := [.string q1.Text, .int .i64 q1.Indent, .int .i64 q1.Stanza, .int .i64 q1.In, .int .i64 q1.Span_From, .int .i64 q1.Span_To]) (l' := [.string q1.Text, .int .i64 q1.Indent, .int .i64 q1.Stanza, .int .i64 q1.In, .int .i64 q1.Span_From, .int .i64 q1.Span_To]) sz_36 rfl rfl rfl rfl rfl (show _ ≤ _ by simp) rfl rfl ?_
     show TO _ _ _ _ _ _ _ _ _ _ [vecN encN_T_string nest_T_string 48 1 hd1.v r2, cells b1 [.string q1.Text, .int .i64 q1.Indent, .int .i64 q1.Stanza, .int .i64 q1.In, .int .i64 q1.Span_From, .int .i64 q1.Span_To] 36]
     refine TO.nil (TX.next (TC.seq ?_))
     refine TC.unfold1 (k := 0) rfl openE (fun zs1 hz1 => ?_)
     show TC _ _ _ _ _ _ _ _ _ [vec encN_T_string 48 1 hd1.v zs1, cells b1 [.string q1.Text, .int .i64 q1.Indent, .int .i64 q1.Stanza, .int .i64 q1.In, .int .i64 q1.Span_From, .int .i64 q1.Span_To] 36, own nest_T_string zs1]
     obtain ⟨x1, hq4, h⟩ := andE h
     obtain ⟨eh1, eq1⟩ := getO_z hz1 hq4
     obtain ⟨q2, hq5, h⟩ := andE h
     refine TC.unfold1 (k := 2) rfl (pullE (getO_get eq1)) (fun _ _ => ?_)
     show TC _ _ _ _ _ _ _ _ _ [vec encN_T_string 48 1 hd1.v zs1, cells b1 [.string q1.Text, .int .i64 q1.Indent, .int .i64 q1.Stanza, .int .i64 q1.In, .int .i64 q1.Span_From, .int .i64 q1.Span_To] 36, own nest_T_string (zs1.eraseIdx ((q1.Stanza : Int).toNat)), vec encS 9 1 eh1.v x1]
     refine TC.drawN 8 [(0, 50, hd1.v), (1, 51, .pointer (some ⟨b1, 2, none⟩)), (2, 52, .int .i64 q1.Stanza), (3, 53, .pointer (some ⟨vblk hd1.v, (q1.Stanza : Int).toNat * 1, none⟩)), (4, 54, eh1.v), (5, 55, .pointer (some ⟨b1, 3, none⟩)), (6, 56, .int .i64 q1.In), (7, 57, .string line1)] mixed kr kr dc (by rfl) kr kr (DrawPre.cons ?_ (DrawPre.cons ?_ (DrawPre.cons ?_ (DrawPre.cons ?_ (DrawPre.cons ?_ (DrawPre.cons ?_ (DrawPre.cons ?_ (DrawPre.cons ?_ DrawPre.nil)))))))) ?_
     ·
      intro D hn hd hcl hu hi
      refine TO.move rfl dc (dl_old (by rfl) rfl) ?_
      exact TX.quiet 0 hu hi rfl
     ·
      intro D hn hd hcl hu hi
      refine TO.fieldAddr fl_36_2 rfl dc (dl_old (by rfl) rfl) (show _ = 2 from rfl) ?_
      exact TX.quiet 1 hu hi rfl
     ·
      intro D hn hd hcl hu hi
      refine TO.load (k := 1) sc_3 rfl dc (dl_lookup (m := 1) hu rfl (hd 1 dc)) rfl rfl ?_
      exact TX.quiet 2 hu hi rfl
     ·
      intro D hn hd hcl hu hi
      refine TO.indexVecI (k := 0) eq1 Tryd.underlying54 sz_48 rfl dc (dl_lookup (m := 0) hu rfl (hd 0 dc)) (dl_lookup (m := 2) hu rfl (hd 2 dc)) rfl rfl ?_
      exact TX.quiet 3 hu hi rfl
     ·
      intro D hn hd hcl hu hi
      refine TO.loadVec (i := (q1.Stanza : Int).toNat) (j := 0) (k := 0) (q := (x1, eh1)) sc_48 encN_T_string_len rfl dc (dl_lookup (m := 3) hu rfl (hd 3 dc)) rfl (getO_get eq1) rfl dc rfl ?_
      exact TX.quiet 4 hu hi rfl
     ·
      intro D hn hd hcl hu hi
      refine TO.fieldAddr fl_36_3 rfl dc (dl_old (by rfl) rfl) (show _ = 3 from rfl) ?_
      exact TX.quiet 5 hu hi rfl
     ·
      intro D hn hd hcl hu hi
      refine TO.load (k := 1) sc_3 rfl dc (dl_lookup (m := 5) hu rfl (hd 5 dc)) rfl rfl ?_
      exact TX.quiet 6 hu hi rfl
     ·
      intro D hn hd hcl hu hi
      refine TO.move rfl dc (dl_old (by rfl) rfl) ?_
      exact TX.quiet 7 hu hi rfl
     refine TO.indexVecI (k := 3) hq5 Tryd.underlying48 sz_9 rfl dc rfl rfl rfl rfl ?_
     refine TO.storeVec (i := (q1.In : Int).toNat) (j := 0) (k := 3) (q := q2) (q' := line1) sz_9 encS_len rfl rfl rfl rfl (getO_get hq5) rfl dc rfl (fun _ _ => rfl) ?_
     refine TO.nil (TX.next (TC.seq (TC.region (TO.move rfl dc rfl (TO.nilCheck rfl dc rfl (TO.fieldAddr fl_93_0 rfl dc rfl (show _ = 0 from rfl) (TO.fieldAddr fl_91_0 rfl dc rfl (show _ = 0 from rfl) (TO.loadRd (i := 0) hrd rfl sc_9 rfl dc rfl rfl (TO.move rfl dc rfl (TO.ent (k := 0) rfl (vec_setE (zs_self (getO_get eq1)).symm (q1 := (x1, eh1)) (q2 := (x1.set (q1.In : Int).toNat line1, eh1)) encN_T_string_len rfl) (TO.fold1 (k := 2) rfl (Splits.of [3] kr rfl) rfl (pushE (nest := nest_T_string) (zs := zs1) (z := (x1.set (q1.In : Int).toNat line1, eh1)) (set_get (getO_get eq1)) set_erase) ?_)))))))))))
     show TO _ _ _ _ _ _ _ _ _ _ [vec encN_T_string 48 1 hd1.v (zs1.set ((q1.Stanza : Int).toNat) (x1.set (q1.In : Int).toNat line1, eh1)), cells b1 [.string q1.Text, .int .i64 q1.Indent, .int .i64 q1.Stanza, .int .i64 q1.In, .int .i64 q1.Span_From, .int .i64 q1.Span_To] 36, own nest_T_string (zs1.set ((q1.Stanza : Int).toNat) (x1.set (q1.In : Int).toNat line1, eh1)), emp]
     refine TO.vecVw (k := 0) rfl (fun hw1 => ?_)
     obtain ⟨r3, hq6, h⟩ := andE h
     refine TO.callR (vs := [.string p1.told_title, hd1.v]) hrd rfl dc rfl rfl rfl en_62 (poem_made_fn (vstanzas1 := hd1) hw1 (zset hz1) hq6) Splits.nil (.own (As := [vec encN_T_string 48 1 hd1.v (zs1.set ((q1.Stanza : Int).toNat) (x1.set (q1.In : Int).toNat line1, eh1))]) (Splits.of [0] (by kernel_rfl) rfl) (fun _ _ h => roRow_vecK encN_T_string_len (sepL.one1.1 h)) (.own (As := [own nest_T_string (zs1.set ((q1.Stanza : Int).toNat) (x1.set (q1.In : Int).toNat line1, eh1))]) (Splits.of [2] (by kernel_rfl) rfl) (fun _ _ h => rdOwn_own gives_T_string (sepL.one1.1 h)) .nil)) ?_
     rintro v2
     show TO _ _ _ _ _ _ _ _ _ _ [vec encN_T_string 48 1 hd1.v (zs1.set ((q1.Stanza : Int).toNat) (x1.set (q1.In : Int).toNat line1, eh1)), cells b1 [.string q1.Text, .int .i64 q1.Indent, .int .i64 q1.Stanza, .int .i64 q1.In, .int .i64 q1.Span_From, .int .i64 q1.Span_To] 36, own nest_T_string (zs1.set ((q1.Stanza : Int).toNat) (x1.set (q1.In : Int).toNat line1, eh1)), emp, pobj encN_Gpoem_Poem nest_Gpoem_Poem 93 v2 r3.1]
     refine TO.weakenL (L' := [vec encN_T_string 48 1 hd1.v (zs1.set ((q1.Stanza : Int).toNat) (x1.set (q1.In : Int).toNat line1, eh1)), cells b1 [.string q1.Text, .int .i64 q1.Indent, .int .i64 q1.Stanza, .int .i64 q1.In, .int .i64 q1.Span_From, .int .i64 q1.Span_To] 36, own nest_T_string (zs1.set ((q1.Stanza : Int).toNat) (x1.set (q1.In : Int).toNat line1, eh1)), emp, pobj encN_Gpoem_Poem nest_Gpoem_Poem 93 v2 r3.1]) (Splits.of [0, 1, 2, 3, 4] kr rfl) (TO.extract rfl dc rfl rfl (TO.extract rfl dc rfl rfl (TO.assign rfl dc rfl (TO.assign rfl dc rfl (TO.nil (TX.next (TC.ret ?_)))))))
     cases h
     exact TX.fin (rs := [.tmp 6, .tmp 7]) v2 (.inl rfl) Tryd.results29 (.cons (.tmp rfl) (.cons (.tmp rfl) .nil)) rfl (Splits.of [4] kr rfl)
end Go.Proofs.YtgfkogafkhbgnaaDoor
namespace Go.Proofs.YtgfkogafkhbgnaaDoor
open Go.RowKit Go.Lib
set_option linter.unusedVariables false
set_option linter.unusedSimpArgs false
theorem mkB_app (a b : List UInt8) : mkB a ++ mkB b = mkB (a ++ b) := by
  have h : ∀ a b : ByteArray, a.data.toList = b.data.toList → a = b := fun a b h => by
    have : mkB a.data.toList = mkB b.data.toList := by rw [h]
    exact this
  apply h
  rw [ByteArray.data_append, Array.toList_append]
  rfl
abbrev Row := List (List UInt8)
def lnT (r : Row) : List UInt8 := r.flatMap (· ++ [10])
def sepT (a : List UInt8) : List UInt8 := if a = [] then a else a ++ [10]
def needH (t : List UInt8) : List Row → Bool
  | (x :: _) :: _ => decide (t ≠ []) || titl x
  | _ => decide (t ≠ [])
def headT (t : List UInt8) (z : List Row) : List UInt8 := if needH t z then 35 :: 32 :: t ++ [10] else []
def prF (a : List UInt8) (z : List Row) : List UInt8 := z.foldl (fun a r => sepT a ++ lnT r) a
/-- The one form. -/
def prT (t : List UInt8) (z : List Row) : List UInt8 := prF (headT t z) z
def wtR (r : Row) : Nat := (r.map fun x => x.length + 1).sum
def wtZ (z : List Row) : Nat := (z.map fun r => 1 + wtR r).sum
theorem wtR_cons (x : List UInt8) (r : Row) : wtR (x :: r) = x.length + 1 + wtR r := by unfold wtR; rw [List.map_cons, List.sum_cons]
theorem wtZ_cons (r : Row) (z : List Row) : wtZ (r :: z) = 1 + wtR r + wtZ z := by unfold wtZ; rw [List.map_cons, List.sum_cons]
theorem lnT_cons (x : List UInt8) (r : Row) : lnT (x :: r) = x ++ [10] ++ lnT r := List.flatMap_cons
theorem lnT_len (r : Row) : (lnT r).length = wtR r := by
  induction r with
  | nil => rfl
  | cons x r ih => rw [lnT_cons, wtR_cons, List.length_append, List.length_append, ih]; rfl
theorem wtR_len (r : Row) : r.length ≤ wtR r := by
  induction r with
  | nil => exact Nat.le_refl _
  | cons x r ih => rw [wtR_cons, List.length_cons]; omega
theorem wtZ_len (z : List Row) : z.length ≤ wtZ z := by
  induction z with
  | nil => exact Nat.le_refl _
  | cons r z ih => rw [wtZ_cons, List.length_cons]; omega
theorem sepT_len (a : List UInt8) : (sepT a).length ≤ a.length + 1 := by
  unfold sepT; split
  · omega
  · rw [List.length_append]; simp
theorem headT_len (t : List UInt8) (z : List Row) : (headT t z).length ≤ t.length + 3 := by
  unfold headT; split
  · simp
  · simp
theorem printed_in (r : Row) (J : ByteArray → Option ByteArray) (a0 : List UInt8) (hb : a0.length + wtR r ≤ 70368744177664) : ∀ (n i : Nat) (a : List UInt8), i ≤ r.length → r.length - i < n → a.length + wtR (r.drop i) ≤ 70368744177664 →
    loopG (fun _ _ => none) (poem_printed_s2 J (r.map mkB)) n (mkB a) (i : Int) = J (mkB (a ++ lnT (r.drop i))) := by
  intro n
  induction n with
  | zero => intro i a h1 h2; omega
  | succ n ih =>
    intro i a hi hn ha
    rw [loopG_succ]
    obtain ⟨ag, hag⟩ : ∃ ag, ag = loopG (fun _ _ => none) (poem_printed_s2 J (r.map mkB)) n := ⟨_, rfl⟩
    rw [← hag] at ih ⊢
    unfold poem_printed_s2
    have hrl := wtR_len r
    rcases Nat.lt_or_ge i r.length with h | h
    · have hd : r.drop i = r[i] :: r.drop (i + 1) := List.drop_eq_getElem_cons h
      rw [hd, wtR_cons] at ha
      have hg : getO (r.map mkB) (i : Int) = some (mkB r[i]) := getO_nat (by rw [List.getElem?_map, List.getElem?_eq_getElem h]; rfl)
      refine condTI (decide_eq_true (by rw [List.length_map]; omega)) (thenI hg ?_)
      rw [show (⟨#[10]⟩ : ByteArray) = mkB [10] from rfl, mkB_app, mkB_app]
      refine grdI (by rw [mkB_size, mkB_size]; simp only [List.length_singleton]; omega) (grdI (by rw [mkB_size, mkB_size, List.length_append]; simp only [List.length_singleton]; omega) (grdI ⟨by omega, by omega⟩ ?_))
      rw [show (i : Int) + 1 = ((i + 1 : Nat) : Int) by omega, ih (i + 1) _ (by omega) (by omega) (by rw [List.length_append, List.length_append]; simp only [List.length_singleton]; omega), hd, lnT_cons]
      simp only [List.append_assoc]
    · rw [List.drop_eq_nil_of_le h]
      refine condFI (decide_eq_false (by rw [List.length_map]; omega)) ?_
      show J (mkB a) = J (mkB (a ++ []))
      rw [List.append_nil]
theorem printed_out (z : List Row) (hz : z.length ≤ 70368744177664) (J : ByteArray → Option ByteArray) : ∀ (n i : Nat) (a : List UInt8), i ≤ z.length → z.length - i < n → a.length + wtZ (z.drop i) ≤ 70368744177664 →
    loopG (fun _ _ => none) (poem_printed_s1 (mkZ z) J) n (mkB a) (i : Int) = J (mkB (prF a (z.drop i))) := by
  intro n
  induction n with
  | zero => intro i a h1 h2; omega
  | succ n ih =>
    intro i a hi hn ha
    rw [loopG_succ]
    obtain ⟨ag, hag⟩ : ∃ ag, ag = loopG (fun _ _ => none) (poem_printed_s1 (mkZ z) J) n := ⟨_, rfl⟩
    rw [← hag] at ih ⊢
    unfold poem_printed_s1
    rcases Nat.lt_or_ge i z.length with h | h
    · have hd : z.drop i = z[i] :: z.drop (i + 1) := List.drop_eq_getElem_cons h
      have hdl := wtZ_len (z.drop i)
      rw [List.length_drop] at hdl
      rw [hd, wtZ_cons] at ha
      have hg : getO (mkZ z) (i : Int) = some (z[i].map mkB) := getO_nat (by unfold mkZ; rw [List.getElem?_map, List.getElem?_eq_getElem h]; rfl)
      have hsl := sepT_len a
      refine condTI (decide_eq_true (by rw [mkZ_len]; omega)) (joinI (thenI hg (joinI ?_)))
      have hin := printed_in z[i] (fun (b8 : ByteArray) => grd (I64 ((i : Int) + 1)) <| ag b8 ((i : Int) + 1)) (sepT a) (by omega) fuel 0 (sepT a) (Nat.zero_le _) (by have := wtR_len z[i]; unfold fuel; omega) (by rw [List.drop_zero]; omega)
      have fin : (grd (I64 ((i : Int) + 1)) <| ag (mkB (sepT a ++ lnT z[i])) ((i : Int) + 1)) = J (mkB (prF a (z.drop i))) := by
        rw [hd]
        refine grdI ⟨by omega, by omega⟩ ?_
        rw [show (i : Int) + 1 = ((i + 1 : Nat) : Int) by omega, ih (i + 1) _ (by omega) (by omega) (by rw [List.length_append, lnT_len]; omega)]
        rfl
      by_cases ha0 : a = []
      · subst ha0
        refine condFI (decide_eq_false (by rw [mkB_size]; simp)) ?_
        refine hin.trans ?_
        rw [List.drop_zero]; exact fin
      · have hpos : 0 < a.length := List.length_pos_iff.2 ha0
        refine condTI (decide_eq_true (by rw [mkB_size]; omega)) (grdI (by rw [mkB_size]; show a.length + 1 ≤ _; omega) ?_)
        have e : sepT a = a ++ [10] := if_neg ha0
        rw [show (⟨#[10]⟩ : ByteArray) = mkB [10] from rfl, mkB_app, ← e]
        refine hin.trans ?_
        rw [List.drop_zero]; exact fin
    · rw [List.drop_eq_nil_of_le h]
      exact condFI (decide_eq_false (by rw [mkZ_len]; omega)) rfl
/-- What printed answers. -/
theorem printed_v (t : List UInt8) (z : List Row) (hne : ∀ r ∈ z, r ≠ []) (hw : t.length + 3 + wtZ z ≤ 70368744177664) : poem_printed_v (mkB t) (mkZ z) = some (mkB (prT t z)) := by
  have hzl := wtZ_len z
  unfold poem_printed_v
  refine joinI ?_
  have tail : ∀ b : List UInt8, b = headT t z → (joinK (fun (j2 : ByteArray → Option ByteArray) => loopG (fun _ _ => none) (poem_printed_s1 (mkZ z) j2) fuel (mkB b) 0) (fun (b4 : ByteArray) => some b4)) = some (mkB (prT t z)) := fun b hb => by
    have hl := headT_len t z
    have := printed_out z (by omega) (fun (b4 : ByteArray) => some b4) fuel 0 b (Nat.zero_le _) (by unfold fuel; omega) (by rw [List.drop_zero, hb]; omega)
    rw [List.drop_zero] at this
    refine joinI (this.trans ?_)
    rw [hb]; rfl
  have hd : (grd ((⟨#[35, 32]⟩ : ByteArray).size + (mkB t).size ≤ 9223372036854775807) <| grd (((⟨#[35, 32]⟩ : ByteArray) ++ mkB t).size + (⟨#[10]⟩ : ByteArray).size ≤ 9223372036854775807) <|
      grd ((⟨#[]⟩ : ByteArray).size + (((⟨#[35, 32]⟩ : ByteArray) ++ mkB t) ++ (⟨#[10]⟩ : ByteArray)).size ≤ 140737488355328) <|
      (joinK (fun (j2 : ByteArray → Option ByteArray) => loopG (fun _ _ => none) (poem_printed_s1 (mkZ z) j2) fuel ((⟨#[]⟩ : ByteArray) ++ (((⟨#[35, 32]⟩ : ByteArray) ++ mkB t) ++ (⟨#[10]⟩ : ByteArray))) 0) (fun (b4 : ByteArray) => some b4))) =
        (joinK (fun (j2 : ByteArray → Option ByteArray) => loopG (fun _ _ => none) (poem_printed_s1 (mkZ z) j2) fuel (mkB (35 :: 32 :: t ++ [10])) 0) (fun (b4 : ByteArray) => some b4)) := by
    rw [show (⟨#[35, 32]⟩ : ByteArray) = mkB [35, 32] from rfl, show (⟨#[10]⟩ : ByteArray) = mkB [10] from rfl, show (⟨#[]⟩ : ByteArray) = mkB [] from rfl, mkB_app, mkB_app, mkB_app]
    refine grdI ?_ (grdI ?_ (grdI ?_ rfl))
    · rw [mkB_size, mkB_size]; simp only [List.length_cons, List.length_nil]; omega
    · rw [mkB_size, mkB_size, List.length_append]; simp only [List.length_cons, List.length_nil]; omega
    · rw [mkB_size, mkB_size, List.length_append, List.length_append]; simp only [List.length_cons, List.length_nil]; omega
  by_cases ht : t = []
  · subst ht
    refine condFI (by rw [show (⟨#[]⟩ : ByteArray) = mkB [] from rfl]; simp) ?_
    cases z with
    | nil => exact condFI (decide_eq_false (by simp [mkZ])) (tail [] rfl)
    | cons r z =>
      have hr := hne r (by simp)
      obtain ⟨x, r', rfl⟩ := List.exists_cons_of_ne_nil hr
      refine condTI (decide_eq_true (by rw [mkZ_len, List.length_cons]; omega)) (thenI (a := (x :: r').map mkB) rfl (thenI (a := mkB x) rfl (thenI (titled_v x) ?_)))
      cases hti : titl x with
      | true =>
        refine condTI rfl (hd.trans (tail _ ?_))
        have : needH [] ((x :: r') :: z) = true := by show (decide (([] : List UInt8) ≠ []) || titl x) = true; rw [hti]; rfl
        unfold headT; rw [this]; rfl
      | false =>
        refine condFI rfl (tail [] ?_)
        have : needH [] ((x :: r') :: z) = false := by show (decide (([] : List UInt8) ≠ []) || titl x) = false; rw [hti]; rfl
        unfold headT; rw [this]; rfl
  · refine condTI (by rw [show (⟨#[]⟩ : ByteArray) = mkB [] from rfl, decide_eq_false (fun e => ht (mkB_inj e))]; rfl) (hd.trans (tail _ ?_))
    unfold headT
    have : needH t z = true := by
      unfold needH
      split <;> simp [ht]
    rw [this]; rfl
end Go.Proofs.YtgfkogafkhbgnaaDoor
namespace Go.Proofs.YtgfkogafkhbgnaaDoor
open Go.RowKit Go.Lib
set_option linter.unusedVariables false
set_option linter.unusedSimpArgs false
theorem rprint_in (t : List UInt8) (z : List Row) (k : Nat) (r : Row) (hk : z[k]? = some r) (J : ByteArray → Option ByteArray) : ∀ (n i : Nat) (a : List UInt8), i ≤ r.length → r.length - i < n → a.length + wtR (r.drop i) ≤ 70368744177664 → r.length ≤ 70368744177664 →
    loopG (fun _ _ => none) (ref17_Print_s2 (⟨mkB t, mkZ z⟩ : Gref17_Poem) (k : Int) J) n (mkB a) (i : Int) = J (mkB (a ++ lnT (r.drop i))) := by
  intro n
  induction n with
  | zero => intro i a h1 h2; omega
  | succ n ih =>
    intro i a hi hn ha hr
    rw [loopG_succ]
    obtain ⟨ag, hag⟩ : ∃ ag, ag = loopG (fun _ _ => none) (ref17_Print_s2 (⟨mkB t, mkZ z⟩ : Gref17_Poem) (k : Int) J) n := ⟨_, rfl⟩
    rw [← hag] at ih ⊢
    unfold ref17_Print_s2
    have hgz : getO (mkZ z) (k : Int) = some (r.map mkB) := getO_nat (by unfold mkZ; rw [List.getElem?_map, hk]; rfl)
    refine thenI hgz ?_
    rcases Nat.lt_or_ge i r.length with h | h
    · have hd : r.drop i = r[i] :: r.drop (i + 1) := List.drop_eq_getElem_cons h
      rw [hd, wtR_cons] at ha
      have hg : getO (r.map mkB) (i : Int) = some (mkB r[i]) := getO_nat (by rw [List.getElem?_map, List.getElem?_eq_getElem h]; rfl)
      refine condTI (decide_eq_true (by rw [List.length_map]; omega)) (thenI hgz (thenI hg ?_))
      rw [show (⟨#[10]⟩ : ByteArray) = mkB [10] from rfl, mkB_app, mkB_app]
      refine grdI (by rw [mkB_size, mkB_size]; simp only [List.length_singleton]; omega) (grdI (by rw [mkB_size, mkB_size, List.length_append]; simp only [List.length_singleton]; omega) (grdI ⟨by omega, by omega⟩ ?_))
      rw [show (i : Int) + 1 = ((i + 1 : Nat) : Int) by omega, ih (i + 1) _ (by omega) (by omega) (by rw [List.length_append, List.length_append]; simp only [List.length_singleton]; omega) hr, hd, lnT_cons]
      simp only [List.append_assoc]
    · rw [List.drop_eq_nil_of_le h]
      refine condFI (decide_eq_false (by rw [List.length_map]; omega)) ?_
      show J (mkB a) = J (mkB (a ++ []))
      rw [List.append_nil]
theorem rprint_out (t : List UInt8) (z : List Row) (hz : z.length ≤ 70368744177664) (J : ByteArray → Option ByteArray) : ∀ (n i : Nat) (a : List UInt8), i ≤ z.length → z.length - i < n → a.length + wtZ (z.drop i) ≤ 70368744177664 →
    loopG (fun _ _ => none) (ref17_Print_s1 (⟨mkB t, mkZ z⟩ : Gref17_Poem) J) n (mkB a) (i : Int) = J (mkB (prF a (z.drop i))) := by
  intro n
  induction n with
  | zero => intro i a h1 h2; omega
  | succ n ih =>
    intro i a hi hn ha
    rw [loopG_succ]
    obtain ⟨ag, hag⟩ : ∃ ag, ag = loopG (fun _ _ => none) (ref17_Print_s1 (⟨mkB t, mkZ z⟩ : Gref17_Poem) J) n := ⟨_, rfl⟩
    rw [← hag] at ih ⊢
    unfold ref17_Print_s1
    rcases Nat.lt_or_ge i z.length with h | h
    · have hd : z.drop i = z[i] :: z.drop (i + 1) := List.drop_eq_getElem_cons h
      have hdl := wtZ_len (z.drop i)
      rw [List.length_drop] at hdl
      rw [hd, wtZ_cons] at ha
      have hsl := sepT_len a
      have hwr := wtR_len z[i]
      refine condTI (decide_eq_true (by show (i : Int) < ((mkZ z).length : Int); rw [mkZ_len]; omega)) (joinI (joinI ?_))
      have hin := rprint_in t z i z[i] (List.getElem?_eq_getElem h) (fun (s6 : ByteArray) => grd (I64 ((i : Int) + 1)) <| ag s6 ((i : Int) + 1)) fuel 0 (sepT a) (Nat.zero_le _) (by unfold fuel; omega) (by rw [List.drop_zero]; omega) (by omega)
      have fin : (grd (I64 ((i : Int) + 1)) <| ag (mkB (sepT a ++ lnT z[i])) ((i : Int) + 1)) = J (mkB (prF a (z.drop i))) := by
        rw [hd]
        refine grdI ⟨by omega, by omega⟩ ?_
        rw [show (i : Int) + 1 = ((i + 1 : Nat) : Int) by omega, ih (i + 1) _ (by omega) (by omega) (by rw [List.length_append, lnT_len]; omega)]
        rfl
      by_cases ha0 : a = []
      · subst ha0
        refine condFI (by rw [show (⟨#[]⟩ : ByteArray) = mkB [] from rfl]; simp) ?_
        refine hin.trans ?_
        rw [List.drop_zero]; exact fin
      · refine condTI (by rw [show (⟨#[]⟩ : ByteArray) = mkB [] from rfl, decide_eq_false (fun e => ha0 (mkB_inj e))]; rfl) (grdI (by rw [mkB_size]; show a.length + 1 ≤ _; omega) ?_)
        have e : sepT a = a ++ [10] := if_neg ha0
        rw [show (⟨#[10]⟩ : ByteArray) = mkB [10] from rfl, mkB_app, ← e]
        refine hin.trans ?_
        rw [List.drop_zero]; exact fin
    · rw [List.drop_eq_nil_of_le h]
      exact condFI (decide_eq_false (by show ¬ (i : Int) < ((mkZ z).length : Int); rw [mkZ_len]; omega)) rfl
/-- What reference 17's Print answers. -/
theorem refprint_v (t : List UInt8) (z : List Row) (hne : ∀ r ∈ z, r ≠ []) (hw : t.length + 3 + wtZ z ≤ 70368744177664) : ref17_Print_v (⟨mkB t, mkZ z⟩ : Gref17_Poem) = some (mkB (prT t z)) := by
  have hzl := wtZ_len z
  unfold ref17_Print_v
  refine joinI ?_
  have tail : ∀ b : List UInt8, b = headT t z → (joinK (fun (j2 : ByteArray → Option ByteArray) => loopG (fun _ _ => none) (ref17_Print_s1 (⟨mkB t, mkZ z⟩ : Gref17_Poem) j2) fuel (mkB b) 0) (fun (b4 : ByteArray) => some b4)) = some (mkB (prT t z)) := fun b hb => by
    have hl := headT_len t z
    have := rprint_out t z (by omega) (fun (b4 : ByteArray) => some b4) fuel 0 b (Nat.zero_le _) (by unfold fuel; omega) (by rw [List.drop_zero, hb]; omega)
    rw [List.drop_zero] at this
    refine joinI (this.trans ?_)
    rw [hb]; rfl
  have hd : (grd ((⟨#[35, 32]⟩ : ByteArray).size + (mkB t).size ≤ 9223372036854775807) <| grd (((⟨#[35, 32]⟩ : ByteArray) ++ mkB t).size + (⟨#[10]⟩ : ByteArray).size ≤ 9223372036854775807) <|
      (joinK (fun (j2 : ByteArray → Option ByteArray) => loopG (fun _ _ => none) (ref17_Print_s1 (⟨mkB t, mkZ z⟩ : Gref17_Poem) j2) fuel (((⟨#[35, 32]⟩ : ByteArray) ++ mkB t) ++ (⟨#[10]⟩ : ByteArray)) 0) (fun (b4 : ByteArray) => some b4))) =
        (joinK (fun (j2 : ByteArray → Option ByteArray) => loopG (fun _ _ => none) (ref17_Print_s1 (⟨mkB t, mkZ z⟩ : Gref17_Poem) j2) fuel (mkB (35 :: 32 :: t ++ [10])) 0) (fun (b4 : ByteArray) => some b4)) := by
    rw [show (⟨#[35, 32]⟩ : ByteArray) = mkB [35, 32] from rfl, show (⟨#[10]⟩ : ByteArray) = mkB [10] from rfl, mkB_app, mkB_app]
    refine grdI ?_ (grdI ?_ rfl)
    · rw [mkB_size, mkB_size]; simp only [List.length_cons, List.length_nil]; omega
    · rw [mkB_size, mkB_size, List.length_append]; simp only [List.length_cons, List.length_nil]; omega
  by_cases ht : t = []
  · subst ht
    refine condFI (by show (!decide (mkB [] = (⟨#[]⟩ : ByteArray))) = false; rw [show (⟨#[]⟩ : ByteArray) = mkB [] from rfl]; simp) ?_
    cases z with
    | nil => exact condFI (decide_eq_false (by simp [mkZ])) (tail [] rfl)
    | cons r z =>
      have hr := hne r (by simp)
      obtain ⟨x, r', rfl⟩ := List.exists_cons_of_ne_nil hr
      refine condTI (decide_eq_true (by show (0 : Int) < ((mkZ ((x :: r') :: z)).length : Int); rw [mkZ_len, List.length_cons]; omega)) (thenI (a := (x :: r').map mkB) rfl (thenI (a := mkB x) rfl (thenI (reftitled_v x) ?_)))
      cases hti : titl x with
      | true =>
        refine condTI rfl (hd.trans (tail _ ?_))
        have : needH [] ((x :: r') :: z) = true := by show (decide (([] : List UInt8) ≠ []) || titl x) = true; rw [hti]; rfl
        unfold headT; rw [this]; rfl
      | false =>
        refine condFI rfl (tail [] ?_)
        have : needH [] ((x :: r') :: z) = false := by show (decide (([] : List UInt8) ≠ []) || titl x) = false; rw [hti]; rfl
        unfold headT; rw [this]; rfl
  · refine condTI (by show (!decide (mkB t = (⟨#[]⟩ : ByteArray))) = true; rw [show (⟨#[]⟩ : ByteArray) = mkB [] from rfl, decide_eq_false (fun e => ht (mkB_inj e))]; rfl) (hd.trans (tail _ ?_))
    unfold headT
    have : needH t z = true := by
      unfold needH
      split <;> simp [ht]
    rw [this]; rfl
/-! ### Counting -/
theorem tot_cons (r : Row) (z : List Row) : tot (r :: z) = r.length + tot z := by unfold tot; rw [List.map_cons, List.sum_cons]
theorem tot_take : ∀ (z : List Row) (i : Nat) (r : Row), z[i]? = some r → tot (z.take (i + 1)) = tot (z.take i) + r.length
  | [], i, r, h => by simp at h
  | y :: z, 0, r, h => by
    have : y = r := by simpa using h
    subst this
    rw [List.take_succ_cons, List.take_zero, List.take_zero, tot_cons]; show y.length + 0 = 0 + y.length; omega
  | y :: z, i + 1, r, h => by
    rw [List.take_succ_cons, List.take_succ_cons, tot_cons, tot_cons, tot_take z i r (by simpa using h)]; omega
theorem tot_take_le : ∀ (z : List Row) (i : Nat), tot (z.take i) ≤ tot z
  | [], i => by simp
  | y :: z, 0 => by simp [tot]
  | y :: z, i + 1 => by rw [List.take_succ_cons, tot_cons, tot_cons]; have := tot_take_le z i; omega
end Go.Proofs.YtgfkogafkhbgnaaDoor
namespace Go.Proofs.YtgfkogafkhbgnaaDoor
open Go.RowKit Go.Lib
set_option linter.unusedVariables false
set_option linter.unusedSimpArgs false
def noE (x : List UInt8) : Prop := ∀ b ∈ x, isE b = false
structure GLn (x : List UInt8) : Prop where
  bl : blank x = false
  le : x.length ≤ 1024
  ne : noE x
/-! ### What a poem that was read is like -/
def enumR : Nat → Row → List (Nat × List UInt8)
  | _, [] => []
  | i, x :: r => (i, x) :: enumR (i + 1) r
def flatZ : Nat → List Row → List (Nat × Nat × List UInt8)
  | _, [] => []
  | k, r :: z => (enumR 0 r).map (fun p => (k, p)) ++ flatZ (k + 1) z
def keyV (v : Gapi_Verse) : ByteArray × Int × Int × Int := (v.Text, v.Indent, v.Stanza, v.In)
def keyL (p : Nat × Nat × List UInt8) : ByteArray × Int × Int × Int := (mkB (p.2.2.drop (ind p.2.2)), (ind p.2.2 : Int), (p.1 : Int), (p.2.1 : Int))
def VOk (vs : List Gapi_Verse) (z : List Row) : Prop := vs.map keyV = (flatZ 0 z).map keyL
theorem enumR_app (x : List UInt8) : ∀ (r : Row) (i : Nat), enumR i (r ++ [x]) = enumR i r ++ [(i + r.length, x)]
  | [], i => rfl
  | y :: r, i => by
    show (i, y) :: enumR (i + 1) (r ++ [x]) = _
    rw [enumR_app x r (i + 1), List.length_cons, show i + 1 + r.length = i + (r.length + 1) by omega]; rfl
theorem flatZ_app : ∀ (a b : List Row) (k : Nat), flatZ k (a ++ b) = flatZ k a ++ flatZ (k + a.length) b
  | [], b, k => rfl
  | r :: a, b, k => by
    show _ ++ flatZ (k + 1) (a ++ b) = _
    rw [flatZ_app a b (k + 1), List.length_cons, show k + 1 + a.length = k + (a.length + 1) by omega, ← List.append_assoc]; rfl
theorem flatZ_one (r : Row) (k : Nat) : flatZ k [r] = (enumR 0 r).map (fun p => (k, p)) := List.append_nil _
structure PInv (st : RS) : Prop extends RInv st where
  vok : VOk st.vs st.stz
  tE : noE st.t
  tL : st.t.length ≤ 1022
  ln : ∀ r ∈ st.stz, ∀ x ∈ r, GLn x
  fr : ∀ v ∈ st.vs, 0 ≤ v.Span_From
theorem flatZ_open (st : RS) : flatZ 0 (open1 st) = flatZ 0 st.stz := by
  unfold open1
  split
  · rfl
  · rw [flatZ_app, flatZ_one]; exact List.append_nil _
theorem PInv.step {st st' : RS} {x : Nat × List UInt8} (h : PInv st) (hx : noE x.2) (hs : rstep st x = .ok st') : PInv st' := by
  refine ⟨h.toRInv.step hs, ?_, ?_, ?_, ?_, ?_⟩ <;> unfold rstep at hs
  all_goals
    split at hs
    · cases hs; first | exact h.vok | exact h.tE | exact h.tL | exact h.ln | exact h.fr
    split at hs
    · cases hs
    split at hs
  · cases hs; exact h.vok
  · split at hs
    · cases hs
    · cases hs
      obtain ⟨init, r, he, hl, hdl, htot, hsp⟩ := last_sp h.toRInv
      show (st.vs ++ [verseOf x.1 x.2 (open1 st)]).map keyV = (flatZ 0 ((open1 st).dropLast ++ [lastL (open1 st) ++ [x.2]])).map keyL
      rw [hdl, hl, flatZ_app, flatZ_one, enumR_app, List.map_append, List.map_append, List.map_append, List.map_append, ← List.append_assoc]
      have h2 : flatZ 0 st.stz = flatZ 0 init ++ (enumR 0 r).map (fun p => (init.length, p)) := by
        rw [← flatZ_open, he, flatZ_app, flatZ_one, Nat.zero_add]
      have h3 := h.vok
      unfold VOk at h3
      rw [h3, h2, List.map_append, Nat.zero_add]
      congr 1
      unfold verseOf keyV
      rw [hl, he]
      simp [keyL]
  · rename_i ht
    cases hs
    intro b hb
    exact hx b (List.mem_of_mem_drop hb)
  · split at hs
    · cases hs
    · cases hs; exact h.tE
  · rename_i hl ht
    cases hs
    show (x.2.drop 2).length ≤ 1022
    rw [List.length_drop]; omega
  · split at hs
    · cases hs
    · cases hs; exact h.tL
  · cases hs; exact h.ln
  · rename_i hb hl ht
    split at hs
    · cases hs
    · cases hs
      obtain ⟨init, r, he, hl2, hdl, htot, hsp⟩ := last_sp h.toRInv
      intro r' hr' y hy
      have hold : ∀ r ∈ open1 st, ∀ x ∈ r, GLn x := fun r hr x hx => by
        unfold open1 at hr
        split at hr
        · exact h.ln r hr x hx
        · rcases List.mem_append.1 hr with hr | hr
          · exact h.ln r hr x hx
          · rw [List.mem_singleton] at hr; subst hr; cases hx
      have hr2 : r' ∈ (open1 st).dropLast ++ [lastL (open1 st) ++ [x.2]] := hr'
      rw [hdl, hl2] at hr2
      rcases List.mem_append.1 hr2 with hr2 | hr2
      · exact hold r' (by rw [he]; exact List.mem_append_left _ hr2) y hy
      · rw [List.mem_singleton] at hr2
        subst hr2
        rcases List.mem_append.1 hy with hy | hy
        · exact hold r (by rw [he]; simp) y hy
        · rw [List.mem_singleton] at hy
          subst hy
          exact ⟨by simpa using hb, by omega, hx⟩
  · cases hs; exact h.fr
  · split at hs
    · cases hs
    · cases hs
      intro v hv
      rcases List.mem_append.1 (show v ∈ st.vs ++ [verseOf x.1 x.2 (open1 st)] from hv) with hv | hv
      · exact h.fr v hv
      · rw [List.mem_singleton] at hv; subst hv
        show (0 : Int) ≤ (x.1 : Int) + (ind x.2 : Int)
        omega
theorem rs0_p : PInv rs0 := ⟨rs0_inv, rfl, (fun b hb => by cases hb), Nat.zero_le _, (fun r hr => by cases hr), (fun v hv => by cases hv)⟩
theorem PInv.fold : ∀ {xs : List (Nat × List UInt8)} {st st' : RS}, PInv st → (∀ x ∈ xs, noE x.2) → rfold st xs = .ok st' → PInv st'
  | [], st, st', h, hx, hs => by cases hs; exact h
  | x :: xs, st, st', h, hx, hs => by
    unfold rfold at hs
    cases he : rstep st x with
    | ok s1 => rw [he] at hs; exact PInv.fold (h.step (hx x (by simp)) he) (fun y hy => hx y (by simp [hy])) hs
    | error e => rw [he] at hs; cases hs
theorem items_noE (T : List UInt8) : ∀ x ∈ items T, noE x.2 := by
  intro x hx
  obtain ⟨y, hy, rfl⟩ := List.mem_map.1 hx
  exact (spans_ok T y hy).2.2
theorem rd_ok {T : List UInt8} {st : RS} (h : rd T = .ok st) : PInv st ∧ T.length ≤ 65536 := by
  unfold rd at h
  split at h
  · cases h
  · exact ⟨PInv.fold rs0_p (items_noE T) h, by omega⟩
structure GoodP (t : List UInt8) (z : List Row) : Prop where
  tE : noE t
  tL : t.length ≤ 1022
  ne : ∀ r ∈ z, r ≠ []
  ln : ∀ r ∈ z, ∀ x ∈ r, GLn x
theorem PInv.good {st : RS} (h : PInv st) : GoodP st.t st.stz := ⟨h.tE, h.tL, h.ne, h.ln⟩
end Go.Proofs.YtgfkogafkhbgnaaDoor
namespace Go.Proofs.YtgfkogafkhbgnaaDoor
open Go.RowKit Go.Lib
set_option linter.unusedVariables false
set_option linter.unusedSimpArgs false
end Go.Proofs.YtgfkogafkhbgnaaDoor
