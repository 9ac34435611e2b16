/-
  Texts laid together: PqD, PqE, LqE, LqB, Cb, LqG, PcW, Bytes, Bld, Gr, Bn, LqH, PqF, PqG, PqH, LqY. Nothing is assumed.
-/
import Derived.Test.YtgfkogafkhbgnaaDoorPoemMakes3
import Derived.Test.YtgfkogafkhbgnaaDoorPoemMakes2
import Derived.Test.YtgfkogafkhbgnaaDoorProg
import Derived.Test.YtgfkogafkhbgnaaDoorPoemMakes1
import Derived.Lib.AppendStr
import Derived.Laws.IdiomStrings
import Derived.Lib.BufferRead
import Derived.Lib.Builder
import Derived.Outline
import Derived.Lib.UnsafeStr
import Derived.Lib.MakeNoZero
set_option maxRecDepth 100000
set_option maxHeartbeats 4000000
namespace Go.Proofs.YtgfkogafkhbgnaaDoor
open Go.RowKit Go.Lib
set_option linter.unusedVariables false
set_option linter.unusedSimpArgs false
/-! ### What lines are -/
theorem zjp (T : List UInt8) : ∀ (l : List UInt8) (p : Bool) (f a : Nat), T.drop a = l → f ≤ a → (p = true → l.head? = some 10 → f + 1 ≤ a) →
    (∀ b ∈ (T.drop f).take ((if p = true ∧ l.head? = some 10 then a - 1 else a) - f), isE b = false) → a ≤ T.length →
    ∀ x ∈ spP p f a l, x.1 ≤ x.2 ∧ x.2 ≤ T.length ∧ ∀ b ∈ (T.drop x.1).take (x.2 - x.1), isE b = false
  | [], p, f, a, hd, hf, hp, hb, ha => by
    intro x hx
    rw [spP, List.mem_singleton] at hx
    subst hx
    have : T.length ≤ a := List.drop_eq_nil_iff.1 hd
    refine ⟨hf, ha, ?_⟩
    rw [if_neg (by simp)] at hb
    exact hb
  | b :: t, p, f, a, hd, hf, hp, hb, ha => by
    intro x hx
    have hlt : a < T.length := by
      rcases Nat.lt_or_ge a T.length with h | h
      · exact h
      · rw [List.drop_eq_nil_of_le h] at hd; cases hd
    have hd1 := zey hd
    have hsnoc : ∀ f', f' ≤ a → (T.drop f').take (a + 1 - f') = (T.drop f').take (a - f') ++ [b] := fun f' hf' => by
      rw [show a + 1 - f' = (a - f') + 1 by omega, List.take_add_one, List.getElem?_drop, show f' + (a - f') = a by omega]
      have : T[a]? = some b := by
        have h0 : (T.drop a)[0]? = some b := by rw [hd]; rfl
        rw [List.getElem?_drop] at h0; exact h0
      rw [this]; rfl
    rw [spP] at hx
    by_cases h13 : b = 13
    · rw [if_pos h13] at hx
      have hne : ¬ (p = true ∧ (b :: t).head? = some 10) := by rw [h13]; simp
      rw [if_neg hne] at hb
      by_cases ht : t.head? = some 10
      · rw [if_pos ht] at hx
        refine zjp T t true f (a + 1) hd1 (by omega) (fun _ _ => by omega) ?_ (by omega) x hx
        rw [if_pos ⟨rfl, ht⟩]; exact hb
      · rw [if_neg ht] at hx
        rcases List.mem_cons.1 hx with rfl | hx
        · exact ⟨hf, ha, hb⟩
        · refine zjp T t true (a + 1) (a + 1) hd1 (Nat.le_refl _) (fun _ h => absurd h ht) ?_ (by omega) x hx
          rw [if_neg (fun h => ht h.2), Nat.sub_self, List.take_zero]
          intro y hy; cases hy
    · rw [if_neg h13] at hx
      by_cases h10 : b = 10
      · rw [if_pos h10] at hx
        rcases List.mem_cons.1 hx with rfl | hx
        · cases p with
          | true =>
            have := hp rfl (by rw [h10]; rfl)
            rw [if_pos ⟨rfl, by rw [h10]; rfl⟩] at hb
            exact ⟨by show f ≤ a - 1; omega, by show a - 1 ≤ _; omega, hb⟩
          | false =>
            rw [if_neg (by simp)] at hb
            exact ⟨hf, ha, hb⟩
        · refine zjp T t false (a + 1) (a + 1) hd1 (Nat.le_refl _) (fun h => by cases h) ?_ (by omega) x hx
          rw [if_neg (by simp), Nat.sub_self, List.take_zero]
          intro y hy; cases hy
      · rw [if_neg h10] at hx
        refine zjp T t false f (a + 1) hd1 (by omega) (fun h => by cases h) ?_ (by omega) x hx
        rw [if_neg (by simp), hsnoc f hf]
        have hne : ¬ (p = true ∧ (b :: t).head? = some 10) := fun h => h10 (Option.some.inj h.2)
        rw [if_neg hne] at hb
        intro y hy
        rcases List.mem_append.1 hy with hy | hy
        · exact hb y hy
        · rw [List.mem_singleton] at hy
          subst hy
          unfold isE
          rw [beq_eq_false_iff_ne.2 h13, beq_eq_false_iff_ne.2 h10]; rfl
theorem ziR (T : List UInt8) : ∀ x ∈ zcl T, x.1 ≤ x.2 ∧ x.2 ≤ T.length ∧ ∀ b ∈ (T.drop x.1).take (x.2 - x.1), isE b = false :=
  zjp T T false 0 0 (List.drop_zero) (Nat.le_refl _) (fun h => by cases h) (by intro b hb; simp at hb) (Nat.zero_le _)
theorem zfK : ∀ (l : List UInt8) (p : Bool) (f a : Nat), (spP p f a l).length ≤ l.length + 1
  | [], p, f, a => Nat.le_refl _
  | b :: t, p, f, a => by
    rw [spP, List.length_cons]
    split
    · split
      · have := zfK t true f (a + 1); omega
      · rw [List.length_cons]; have := zfK t true (a + 1) (a + 1); omega
    · split
      · rw [List.length_cons]; have := zfK t false (a + 1) (a + 1); omega
      · have := zfK t false f (a + 1); omega
/-- A text's lines: where each begins, and its bytes. -/
def zfi (T : List UInt8) : List (Nat × List UInt8) := (zcl T).map fun x => (x.1, (T.drop x.1).take (x.2 - x.1))

/-! ### The fold -/
structure RS where
  t : List UInt8
  stz : List (List (List UInt8))
  vs : List Gapi_Verse
  first : Bool
  row : Bool
def zeB (z : List (List (List UInt8))) : List (List UInt8) := z.getLastD []
def zcn (st : RS) : List (List (List UInt8)) := if st.row then st.stz else st.stz ++ [[]]
def zfI (f : Nat) (x : List UInt8) (z : List (List (List UInt8))) : Gapi_Verse := ⟨mkB (x.drop (ind x)), ind x, (z.length : Int) - 1, (zeB z).length, (f : Int) + ind x, ((f + x.length : Nat) : Int)⟩
def zhZ (st : RS) (f : Nat) (x : List UInt8) : RS :=
  ⟨st.t, (zcn st).dropLast ++ [zeB (zcn st) ++ [x]], st.vs ++ [zfI f x (zcn st)], false, true⟩
def zd2 (st : RS) (x : Nat × List UInt8) : Except Gapi_Spot RS :=
  if zgj x.2 = true then .ok { st with row := false }
  else if 1024 < x.2.length then .error ⟨3, (x.1 : Int) + 1024⟩
  else if st.first = true ∧ zh9 x.2 = true then .ok { st with first := false, t := x.2.drop 2 }
  else if st.vs.length = 512 then .error ⟨3, x.1⟩
  else .ok (zhZ st x.1 x.2)
def zde : RS → List (Nat × List UInt8) → Except Gapi_Spot RS
  | st, [] => .ok st
  | st, x :: xs => match zd2 st x with
    | .ok st' => zde st' xs
    | .error e => .error e
def rs0 : RS := ⟨[], [], [], true, false⟩
def rd (T : List UInt8) : Except Gapi_Spot RS := if 65536 < T.length then .error ⟨3, 65536⟩ else zde rs0 (zfi T)
def tot (z : List (List (List UInt8))) : Nat := (z.map List.length).sum
def zgI : Nat → List (List (List UInt8)) → List Gapi_Span
  | _, [] => []
  | n, r :: rs => ⟨n, ((n + r.length : Nat) : Int)⟩ :: zgI (n + r.length) rs
theorem zhl : ∀ (a b : List (List (List UInt8))) (n : Nat), zgI n (a ++ b) = zgI n a ++ zgI (n + tot a) b
  | [], b, n => rfl
  | r :: a, b, n => by
    show _ :: zgI (n + r.length) (a ++ b) = _
    rw [zhl a b]
    have : n + tot (r :: a) = n + r.length + tot a := by unfold tot; rw [List.map_cons, List.sum_cons]; omega
    rw [this]; rfl
theorem zeH : ∀ (a : List (List (List UInt8))) (n : Nat), (zgI n a).length = a.length
  | [], n => rfl
  | r :: a, n => by rw [zgI, List.length_cons, List.length_cons, zeH a]
theorem zgL (a b : List (List (List UInt8))) : tot (a ++ b) = tot a + tot b := by unfold tot; rw [List.map_append, List.sum_append]
theorem zgK (r : List (List UInt8)) : tot [r] = r.length := by unfold tot; simp
theorem zhN {z : List (List (List UInt8))} (h : z ≠ []) : z = z.dropLast ++ [zeB z] := by
  unfold zeB
  rw [List.getLastD_eq_getLast?, List.getLast?_eq_some_getLast h]
  exact (List.dropLast_concat_getLast h).symm
structure RInv (st : RS) : Prop where
  tot : st.vs.length = tot st.stz
  row : st.row = true → st.stz ≠ []
  most : st.vs.length ≤ 512
  ne : ∀ r ∈ st.stz, r ≠ []
  t0 : st.first = true → st.t = []
theorem zhv : ∀ (z : List (List (List UInt8))), (∀ r ∈ z, r ≠ []) → z.length ≤ tot z
  | [], h => Nat.le_refl _
  | r :: z, h => by
    have h1 := zhv z fun y hy => h y (by simp [hy])
    have h2 : 0 < r.length := List.length_pos_iff.2 (h r (by simp))
    have : tot (r :: z) = r.length + tot z := by unfold tot; rw [List.map_cons, List.sum_cons]
    rw [this, List.length_cons]; omega
theorem RInv.stzLen {st : RS} (h : RInv st) : st.stz.length ≤ 512 := Nat.le_trans (zhv _ h.ne) (h.tot ▸ h.most)
theorem zkU {st : RS} (h : RInv st) : zcn st ≠ [] := by
  unfold zcn
  split
  · rename_i hr; exact h.row hr
  · simp
theorem zjD {st : RS} {n : Nat} (h : st.stz.length ≤ n) : (zcn st).length ≤ n + 1 := by
  unfold zcn
  split
  · omega
  · rw [List.length_append, List.length_singleton]; omega
theorem zhI (st : RS) : tot (zcn st) = tot st.stz := by
  unfold zcn
  split
  · rfl
  · rw [zgL, zgK]; rfl
theorem RInv.step {st st' : RS} {x : Nat × List UInt8} (h : RInv st) (hs : zd2 st x = .ok st') : RInv st' := by
  unfold zd2 at hs
  split at hs
  · cases hs; exact ⟨h.tot, (fun e => by cases e), h.most, h.ne, h.t0⟩
  · split at hs
    · cases hs
    · split at hs
      · cases hs; exact ⟨h.tot, h.row, h.most, h.ne, (fun e => by cases e)⟩
      · split at hs
        · cases hs
        · rename_i h512
          cases hs
          have e := zhN (zkU h)
          refine ⟨?_, (fun _ => by simp [zhZ]), ?_, ?_, (fun e => by cases e)⟩
          · show (st.vs ++ [_]).length = Go.Proofs.YtgfkogafkhbgnaaDoor.tot ((zcn st).dropLast ++ [zeB (zcn st) ++ [x.2]])
            have h2 := zhI st
            rw [e, zgL, zgK] at h2
            rw [zgL, zgK, List.length_append, List.length_append, List.length_singleton, List.length_singleton, h.tot, ← h2]
            omega
          · show (st.vs ++ [_]).length ≤ 512
            rw [List.length_append, List.length_singleton]
            have := h.most; omega
          · intro r hr
            rcases List.mem_append.1 hr with hr | hr
            · have hm : r ∈ zcn st := (List.dropLast_sublist _).mem hr
              unfold zcn at hm hr
              split at hm
              · exact h.ne r hm
              · rename_i hrow
                rw [if_neg hrow, List.dropLast_concat] at hr
                exact h.ne r hr
            · rw [List.mem_singleton] at hr
              subst hr; simp
theorem zkg : RInv rs0 := ⟨rfl, (fun e => by cases e), Nat.zero_le _, (fun r hr => by cases hr), (fun _ => rfl)⟩
theorem RInv.fold : ∀ {xs : List (Nat × List UInt8)} {st st' : RS}, RInv st → zde st xs = .ok st' → RInv st'
  | [], st, st', h, hs => by cases hs; exact h
  | x :: xs, st, st', h, hs => by
    unfold zde at hs
    cases he : zd2 st x with
    | ok s1 => rw [he] at hs; exact RInv.fold (h.step he) hs
    | error e => rw [he] at hs; cases hs
theorem zhx {α : Type} (a : List α) (x y : α) : (a ++ [x]).set a.length y = a ++ [y] := by simp
/-! ### The program -/
def mkZ (z : List (List (List UInt8))) : List (List ByteArray) := z.map (·.map mkB)
section
variable {T : List UInt8} {st : RS} {sp : Nat × Nat} {k : Nat}
theorem ziW {st : RS} (h : RInv st) : ∃ init r, zcn st = init ++ [r] ∧ zeB (zcn st) = r ∧ (zcn st).dropLast = init ∧ tot init + r.length = st.vs.length ∧ zgI 0 (zcn st) = zgI 0 init ++ [⟨(tot init : Int), (st.vs.length : Int)⟩] := by
  have e := zhN (zkU h)
  refine ⟨_, _, e, rfl, rfl, ?_, ?_⟩
  · have h2 := zhI st
    rw [e, zgL, zgK] at h2
    rw [h.tot]; exact h2
  · have h2 := zhI st
    rw [e, zgL, zgK] at h2
    conv => lhs; rw [e]
    rw [zhl, Nat.zero_add]
    show _ ++ [(⟨(tot (zcn st).dropLast : Int), ((tot (zcn st).dropLast + (zeB (zcn st)).length : Nat) : Int)⟩ : Gapi_Span)] = _
    rw [h2, h.tot]
theorem zlX {J : ByteArray → (List Gapi_Verse) → (List Gapi_Span) → Option ((Option Gpoem_Poem) × Gapi_Spot)} {m : Gplace_Map} {n : Int} {ag : ByteArray → (List Gapi_Verse) → (List Gapi_Span) → Bool → Bool → Int → Option ((Option Gpoem_Poem) × Gapi_Spot)}
    (hT : T.length ≤ 65536) (hI : RInv st) (hk : (zcl T)[k]? = some sp) (hm : m.lines.map spE = (zcl T).map mkS) (hn : (k : Int) < n) :
    zcH (mkB T) J m n ag (mkB st.t) st.vs (zgI 0 st.stz) st.first st.row (k : Int) =
      match zd2 st (sp.1, (T.drop sp.1).take (sp.2 - sp.1)) with
      | .error e => some (none, e)
      | .ok st' => ag (mkB st'.t) st'.vs (zgI 0 st'.stz) st'.first st'.row ((k + 1 : Nat) : Int) := by
  obtain ⟨h1, h2, _⟩ := ziR T sp (List.mem_of_getElem? hk)
  have hkl := (List.getElem?_eq_some_iff.1 hk).1
  have hkb := zfK T false 0 0
  have hkb2 : (zcl T).length ≤ T.length + 1 := hkb
  obtain ⟨q, hq, hqs⟩ : ∃ q, m.lines[k]? = some q ∧ spE q = mkS sp := by
    have h3 : (m.lines.map spE)[k]? = some (mkS sp) := by rw [hm, List.getElem?_map, hk]; rfl
    rw [List.getElem?_map] at h3
    obtain ⟨q, a, b⟩ := Option.map_eq_some_iff.1 h3
    exact ⟨q, a, b⟩
  have hlen : m.lines.length = (zcl T).length := by have := congrArg List.length hm; simpa using this
  have hq1 : q.span_From = (sp.1 : Int) := congrArg Gapi_Span.From hqs
  have hq2 : q.span_To = (sp.2 : Int) := congrArg Gapi_Span.To hqs
  have hspan : zdA m (k : Int) = some ((⟨(sp.1 : Int), (sp.2 : Int)⟩ : Gapi_Span), q.end_, 0) := by
    unfold zdA
    refine zaP (decide_eq_false (by omega)) (zaP (decide_eq_false (by omega)) (za7 (zcb hq) ?_))
    rw [hq1, hq2]
  have hcut : zbc (mkB T) (sp.1 : Int) (sp.2 : Int) = mkB ((T.drop sp.1).take (sp.2 - sp.1)) := zjb T sp.1 sp.2
  generalize hx : (T.drop sp.1).take (sp.2 - sp.1) = x at hcut ⊢
  have hxl : x.length = sp.2 - sp.1 := by rw [← hx, List.length_take, List.length_drop]; omega
  unfold zcH
  refine zaY (decide_eq_true hn) (zcx (zcx (za7 hspan (zcq ⟨by show (0 : Int) ≤ (sp.1 : Int); omega, by show (sp.1 : Int) ≤ sp.2; omega, by show (sp.2 : Int) ≤ _; rw [za0]; omega⟩ ?_))))
  show zaE (zdq (zbc (mkB T) (sp.1 : Int) (sp.2 : Int))) _ = _
  rw [hcut]
  refine za7 (zmq x (by omega)) ?_
  unfold zd2
  have goOn : ∀ (a : ByteArray) (b : List Gapi_Verse) (c : List Gapi_Span) (d e : Bool), (grd (I64 ((k : Int) + 1)) <| ag a b c d e ((k : Int) + 1)) = ag a b c d e ((k + 1 : Nat) : Int) := fun a b c d e => zcq ⟨by omega, by omega⟩ (by rw [show (k : Int) + 1 = ((k + 1 : Nat) : Int) by omega])
  cases hb : zgj x with
  | true =>
    rw [if_pos rfl]
    exact zaY rfl (goOn _ _ _ _ _)
  | false =>
    rw [if_neg (by decide)]
    refine zaP rfl ?_
    by_cases hbig : 1024 < x.length
    · rw [if_pos hbig]
      exact zaY (decide_eq_true (by rw [za0]; omega)) (zcq ⟨by show _ ≤ (sp.1 : Int) + 1024; omega, by show (sp.1 : Int) + 1024 ≤ _; omega⟩ rfl)
    · rw [if_neg hbig]
      refine zaP (decide_eq_false (by rw [za0]; omega)) ?_
      have h512 := hI.most
      -- the line is one of verse
      have verse : ¬ (st.first = true ∧ zh9 x = true) → (zaO (((st.vs.length : Int) : Int) == 512) (some (none, (⟨3, (sp.1 : Int)⟩ : Gapi_Spot))) (zbE (fun (j4 : (List Gapi_Span) → Option ((Option Gpoem_Poem) × Gapi_Spot)) =>
          zaO (!st.row) (grd ((zgI 0 st.stz).length + 1 ≤ 2147483648) <| j4 (zgI 0 st.stz ++ [(⟨(st.vs.length : Int), (st.vs.length : Int)⟩ : Gapi_Span)])) (j4 (zgI 0 st.stz))) (fun (p20 : List Gapi_Span) =>
            grd (I64 ((p20.length : Int) - 1)) <|
            zaE (zdk p20 ((p20.length : Int) - 1)) fun (q1 : Gapi_Span) =>
            zaE (zdw (mkB x)) fun (r7 : Int) =>
            grd (0 ≤ (r7 : Int) ∧ (r7 : Int) ≤ ((mkB x).size : Int) ∧ (((mkB x).size : Int) : Int) ≤ ((mkB x).size : Int)) <|
            grd (I64 ((p20.length : Int) - 1)) <|
            grd (I64 ((st.vs.length : Int) - q1.From)) <|
            grd (I64 ((sp.1 : Int) + r7)) <|
            grd (st.vs.length + 1 ≤ 2147483648) <|
            grd (I64 ((st.vs.length : Int) + 1)) <|
            (grd (I64 ((k : Int) + 1)) <| ag (mkB st.t) (st.vs ++ [(⟨zbc (mkB x) r7 ((mkB x).size : Int), r7, (p20.length : Int) - 1, (st.vs.length : Int) - q1.From, (sp.1 : Int) + r7, (sp.2 : Int)⟩ : Gapi_Verse)]) (p20.set ((p20.length : Int) - 1 : Int).toNat (⟨q1.From, (st.vs.length : Int) + 1⟩ : Gapi_Span)) false true ((k : Int) + 1))))) =
          match (if st.vs.length = 512 then Except.error (⟨3, (sp.1 : Int)⟩ : Gapi_Spot) else Except.ok (zhZ st sp.1 x)) with
          | .error e => some (none, e)
          | .ok st' => ag (mkB st'.t) st'.vs (zgI 0 st'.stz) st'.first st'.row ((k + 1 : Nat) : Int) := fun hnt => by
        by_cases hfull : st.vs.length = 512
        · rw [if_pos hfull]; exact zaY (beq_iff_eq.2 (by omega)) rfl
        · rw [if_neg hfull]
          refine zaP (beq_eq_false_iff_ne.2 (by omega)) (zcx ?_)
          obtain ⟨init, r, he, hl, hdl, htot, hsp⟩ := ziW hI
          have hzl := hI.stzLen
          have hol : (zcn st).length ≤ 513 := zjD hzl
          have hil : init.length + 1 = (zcn st).length := by rw [he]; simp
          have tail : ∀ p20 : List Gapi_Span, p20 = zgI 0 (zcn st) → (grd (I64 ((p20.length : Int) - 1)) <|
            zaE (zdk p20 ((p20.length : Int) - 1)) fun (q1 : Gapi_Span) =>
            zaE (zdw (mkB x)) fun (r7 : Int) =>
            grd (0 ≤ (r7 : Int) ∧ (r7 : Int) ≤ ((mkB x).size : Int) ∧ (((mkB x).size : Int) : Int) ≤ ((mkB x).size : Int)) <|
            grd (I64 ((p20.length : Int) - 1)) <|
            grd (I64 ((st.vs.length : Int) - q1.From)) <|
            grd (I64 ((sp.1 : Int) + r7)) <|
            grd (st.vs.length + 1 ≤ 2147483648) <|
            grd (I64 ((st.vs.length : Int) + 1)) <|
            (grd (I64 ((k : Int) + 1)) <| ag (mkB st.t) (st.vs ++ [(⟨zbc (mkB x) r7 ((mkB x).size : Int), r7, (p20.length : Int) - 1, (st.vs.length : Int) - q1.From, (sp.1 : Int) + r7, (sp.2 : Int)⟩ : Gapi_Verse)]) (p20.set ((p20.length : Int) - 1 : Int).toNat (⟨q1.From, (st.vs.length : Int) + 1⟩ : Gapi_Span)) false true ((k : Int) + 1))) =
              ag (mkB (zhZ st sp.1 x).t) (zhZ st sp.1 x).vs (zgI 0 (zhZ st sp.1 x).stz) (zhZ st sp.1 x).first (zhZ st sp.1 x).row ((k + 1 : Nat) : Int) := fun p20 hp => by
            have hpl : p20.length = (zcn st).length := by rw [hp, zeH]
            have hg : zdk p20 ((p20.length : Int) - 1) = some ⟨(tot init : Int), (st.vs.length : Int)⟩ := by
              refine zkr (n := init.length) (by omega) ?_
              rw [hp, hsp, List.getElem?_append_right (by rw [zeH]; exact Nat.le_refl _), zeH, Nat.sub_self]; rfl
            have hind := zme x
            refine zcq ⟨by omega, by omega⟩ (za7 hg (za7 (zmV x (by omega)) (zcq ⟨by omega, by rw [za0]; omega, by omega⟩ (zcq ⟨by omega, by omega⟩ (zcq ⟨by show _ ≤ (st.vs.length : Int) - (tot init : Int); omega, by show (st.vs.length : Int) - (tot init : Int) ≤ _; omega⟩ (zcq ⟨by omega, by omega⟩ (zcq (by omega) (zcq ⟨by omega, by omega⟩ ?_))))))))
            refine (goOn _ _ _ _ _).trans ?_
            have e1 : (p20.set ((p20.length : Int) - 1 : Int).toNat (⟨(tot init : Int), (st.vs.length : Int) + 1⟩ : Gapi_Span)) = zgI 0 (zhZ st sp.1 x).stz := by
              rw [show ((p20.length : Int) - 1 : Int).toNat = (zgI 0 init).length by rw [zeH]; omega, hp, hsp, zhx]
              show _ = zgI 0 ((zcn st).dropLast ++ [zeB (zcn st) ++ [x]])
              rw [hdl, hl, zhl, Nat.zero_add]
              show _ = _ ++ [(⟨(tot init : Int), ((tot init + (r ++ [x]).length : Nat) : Int)⟩ : Gapi_Span)]
              rw [List.length_append, List.length_singleton]
              congr 3
              omega
            have e2 : (⟨zbc (mkB x) (ind x : Int) ((mkB x).size : Int), (ind x : Int), (p20.length : Int) - 1, (st.vs.length : Int) - (tot init : Int), (sp.1 : Int) + (ind x : Int), (sp.2 : Int)⟩ : Gapi_Verse) = zfI sp.1 x (zcn st) := by
              unfold zfI
              rw [zhW, hpl, hl]
              congr 1
              · omega
              · omega
            show ag _ (st.vs ++ [_]) _ _ _ _ = _
            rw [e2]
            show ag _ _ (p20.set _ _) _ _ _ = _
            rw [e1]
            rfl
          cases hr : st.row with
          | true =>
            refine zaP rfl ?_
            exact tail _ (by unfold zcn; rw [hr]; rfl)
          | false =>
            refine zaY rfl (zcq (by rw [zeH]; omega) ?_)
            refine tail _ ?_
            unfold zcn; rw [hr, if_neg (by decide), zhl, Nat.zero_add, ← hI.tot]
            rfl
      cases hf : st.first with
      | true =>
        refine zaY rfl (za7 (zkP x) ?_)
        cases ht : zh9 x with
        | true =>
          rw [if_pos ⟨rfl, rfl⟩]
          have hx1 : 1 ≤ x.length := by
            cases x with
            | nil => cases ht
            | cons b t => simp
          refine zaY rfl (zcq ⟨by omega, by rw [za0]; omega, by omega⟩ (za7 (a := mkB (x.drop 2)) ?_ (goOn _ _ _ _ _)))
          have := zhW x 1
          rw [show ((1 : Nat) : Int) = 1 from rfl] at this
          rw [this]
          exact znA x ht
        | false =>
          rw [if_neg (by simp)]
          refine zaP rfl ?_
          exact verse (by rw [ht]; simp)
      | false =>
        rw [if_neg (by simp)]
        refine zaP rfl ?_
        exact verse (by rw [hf]; simp)
end
theorem zlY {T : List UInt8} {J : ByteArray → (List Gapi_Verse) → (List Gapi_Span) → Option ((Option Gpoem_Poem) × Gapi_Spot)} {m : Gplace_Map} (hT : T.length ≤ 65536) (hm : m.lines.map spE = (zcl T).map mkS) :
    ∀ (n k : Nat) (st : RS), RInv st → k ≤ (zcl T).length → (zcl T).length - k < n →
      za2 (fun _ _ _ _ _ _ => none) (zcH (mkB T) J m (m.lines.length : Int)) n (mkB st.t) st.vs (zgI 0 st.stz) st.first st.row (k : Int) =
        match zde st ((zfi T).drop k) with
        | .error e => some (none, e)
        | .ok st' => J (mkB st'.t) st'.vs (zgI 0 st'.stz) := by
  have hlen : m.lines.length = (zcl T).length := by have := congrArg List.length hm; simpa using this
  intro n
  induction n with
  | zero => intro k st h1 h2 h3; omega
  | succ n ih =>
    intro k st hI hk hn
    rw [zbq]
    obtain ⟨ag, hag⟩ : ∃ ag, ag = za2 (fun _ _ _ _ _ _ => none) (zcH (mkB T) J m (m.lines.length : Int)) n := ⟨_, rfl⟩
    rw [← hag] at ih ⊢
    rcases Nat.lt_or_ge k (zcl T).length with h | h
    · obtain ⟨sp, hsp⟩ : ∃ sp, (zcl T)[k]? = some sp := ⟨_, List.getElem?_eq_getElem h⟩
      rw [zlX hT hI hsp hm (by omega)]
      have hi : (zfi T).drop k = (sp.1, (T.drop sp.1).take (sp.2 - sp.1)) :: (zfi T).drop (k + 1) := by
        have hl : k < (zfi T).length := by unfold zfi; rw [List.length_map]; exact h
        rw [List.drop_eq_getElem_cons hl]
        congr 1
        have : (zfi T)[k]? = some (sp.1, (T.drop sp.1).take (sp.2 - sp.1)) := by unfold zfi; rw [List.getElem?_map, hsp]; rfl
        rw [List.getElem?_eq_getElem hl] at this
        exact Option.some.inj this
      rw [hi, zde]
      cases hs : zd2 st (sp.1, (T.drop sp.1).take (sp.2 - sp.1)) with
      | error e => rfl
      | ok st' => exact ih (k + 1) st' (hI.step hs) (by omega) (by omega)
    · rw [List.drop_eq_nil_of_le (by unfold zfi; rw [List.length_map]; exact h)]
      unfold zcH
      exact zaP (decide_eq_false (by omega)) rfl
/-- What poem.Read answers. -/
theorem zoj (T : List UInt8) : zc8 (mkB T) = match rd T with
    | .error e => some (none, e)
    | .ok st => some (some (⟨mkB st.t, st.vs, zgI 0 st.stz, mkB T⟩ : Gpoem_Poem), (⟨0, 0⟩ : Gapi_Spot)) := by
  unfold zc8 rd
  by_cases h : 65536 < T.length
  · rw [if_pos h]
    exact za7 (zmT _ (by rw [za0]; exact h)) (zaY rfl rfl)
  · rw [if_neg h]
    obtain ⟨m, h1, h2, h3⟩ := zpc (mkB T) (by rw [za0]; omega)
    refine za7 h1 (zaP rfl (zcx (za7 rfl (za7 rfl ?_))))
    have hl := zfK T false 0 0
    have hl2 : (zcl T).length ≤ T.length + 1 := hl
    have := zlY (J := fun (p1 : ByteArray) (p2 : List Gapi_Verse) (p3 : List Gapi_Span) => some ((some (⟨p1, p2, p3, mkB T⟩ : Gpoem_Poem)), (⟨0, 0⟩ : Gapi_Spot))) (T := T) (m := m) (by omega) h3 zbG 0 rs0 zkg (Nat.zero_le _) (by unfold zbG; omega)
    rw [List.drop_zero] at this
    exact this
end Go.Proofs.YtgfkogafkhbgnaaDoor
namespace Go.Proofs.YtgfkogafkhbgnaaDoor
open Go.RowKit Go.Lib
set_option linter.unusedVariables false
set_option linter.unusedSimpArgs false
theorem zfO (a b : List (List (List UInt8))) : mkZ (a ++ b) = mkZ a ++ mkZ b := List.map_append
theorem zcg (a : List (List (List UInt8))) : (mkZ a).length = a.length := List.length_map ..
section
variable {T : List UInt8} {st : RS} {sp : Nat × Nat} {k : Nat}
theorem zju {J : ByteArray → (List (List ByteArray)) → (List Gapi_Verse) → Option (Gref17_Poem × (List Gapi_Verse) × Gapi_Spot)} {ag : ByteArray → (List (List ByteArray)) → (List Gapi_Verse) → Bool → Bool → Int → Option (Gref17_Poem × (List Gapi_Verse) × Gapi_Spot)}
    (hT : T.length ≤ 65536) (hI : RInv st) (hk : (zcl T)[k]? = some sp) :
    zcs (mkB T) J ((zcl T).map mkS) ag (mkB st.t) (mkZ st.stz) st.vs st.first st.row (k : Int) =
      match zd2 st (sp.1, (T.drop sp.1).take (sp.2 - sp.1)) with
      | .error e => some ((⟨ByteArray.empty, ([] : List (List ByteArray))⟩ : Gref17_Poem), ([] : List Gapi_Verse), e)
      | .ok st' => ag (mkB st'.t) (mkZ st'.stz) st'.vs st'.first st'.row ((k + 1 : Nat) : Int) := by
  obtain ⟨h1, h2, _⟩ := ziR T sp (List.mem_of_getElem? hk)
  have hkl := (List.getElem?_eq_some_iff.1 hk).1
  have hkb := zfK T false 0 0
  have hkb2 : (zcl T).length ≤ T.length + 1 := hkb
  have hq : zdk ((zcl T).map mkS) (k : Int) = some (mkS sp) := zcb (by rw [List.getElem?_map, hk]; rfl)
  have hcut : zbc (mkB T) (sp.1 : Int) (sp.2 : Int) = mkB ((T.drop sp.1).take (sp.2 - sp.1)) := zjb T sp.1 sp.2
  generalize hx : (T.drop sp.1).take (sp.2 - sp.1) = x at hcut ⊢
  have hxl : x.length = sp.2 - sp.1 := by rw [← hx, List.length_take, List.length_drop]; omega
  unfold zcs
  refine zaY (decide_eq_true (by rw [List.length_map]; omega)) (zcx (za7 hq (zcq ⟨by show (0 : Int) ≤ (sp.1 : Int); omega, by show (sp.1 : Int) ≤ sp.2; omega, by show (sp.2 : Int) ≤ _; rw [za0]; omega⟩ ?_)))
  show zaE (zcX (zbc (mkB T) (sp.1 : Int) (sp.2 : Int))) _ = _
  have hcut2 : zbc (mkB T) (mkS sp).From (mkS sp).To = mkB x := hcut
  rw [hcut, hcut2]
  refine za7 (zix x (by omega)) ?_
  unfold zd2
  have goOn : ∀ (a : ByteArray) (b : List (List ByteArray)) (c : List Gapi_Verse) (d e : Bool), (grd (I64 ((k : Int) + 1)) <| ag a b c d e ((k : Int) + 1)) = ag a b c d e ((k + 1 : Nat) : Int) := fun a b c d e => zcq ⟨by omega, by omega⟩ (by rw [show (k : Int) + 1 = ((k + 1 : Nat) : Int) by omega])
  cases hb : zgj x with
  | true =>
    rw [if_pos rfl]
    exact zaY rfl (goOn _ _ _ _ _)
  | false =>
    rw [if_neg (by decide)]
    refine zaP rfl ?_
    by_cases hbig : 1024 < x.length
    · rw [if_pos hbig]
      exact zaY (decide_eq_true (by rw [za0]; omega)) (zcq ⟨by show _ ≤ (sp.1 : Int) + 1024; omega, by show (sp.1 : Int) + 1024 ≤ _; omega⟩ rfl)
    · rw [if_neg hbig]
      refine zaP (decide_eq_false (by rw [za0]; omega)) ?_
      have h512 := hI.most
      have verse : ∀ Z : Option (Gref17_Poem × (List Gapi_Verse) × Gapi_Spot), Z = (zaO (((st.vs.length : Int) : Int) == 512) (some ((⟨ByteArray.empty, ([] : List (List ByteArray))⟩ : Gref17_Poem), ([] : List Gapi_Verse), (⟨3, (mkS sp).From⟩ : Gapi_Spot))) (zbE (fun (j5 : (List (List ByteArray)) → Option (Gref17_Poem × (List Gapi_Verse) × Gapi_Spot)) =>
          zaO (!st.row) (grd ((mkZ st.stz).length + 1 ≤ 2147483648) <| j5 (mkZ st.stz ++ [([] : List ByteArray)])) (j5 (mkZ st.stz))) (fun (p15 : List (List ByteArray)) =>
            grd (I64 ((p15.length : Int) - 1)) <|
            zaE (zbJ (mkB x)) fun (r4 : Int) =>
            grd (0 ≤ (r4 : Int) ∧ (r4 : Int) ≤ ((mkB x).size : Int) ∧ (((mkB x).size : Int) : Int) ≤ ((mkB x).size : Int)) <|
            zaE (zbJ (mkB x)) fun (r5 : Int) =>
            zaE (zdk p15 ((p15.length : Int) - 1)) fun (x1 : List ByteArray) =>
            zaE (zbJ (mkB x)) fun (r6 : Int) =>
            grd (I64 ((mkS sp).From + r6)) <|
            grd (st.vs.length + 1 ≤ 2147483648) <|
            zaE (zdk p15 ((p15.length : Int) - 1)) fun (x2 : List ByteArray) =>
            grd (x2.length + 1 ≤ 2147483648) <|
            (grd (I64 ((k : Int) + 1)) <| ag (mkB st.t) (p15.set ((p15.length : Int) - 1 : Int).toNat (x2 ++ [mkB x])) (st.vs ++ [(⟨zbc (mkB x) r4 ((mkB x).size : Int), r5, (p15.length : Int) - 1, (x1.length : Int), (mkS sp).From + r6, (mkS sp).To⟩ : Gapi_Verse)]) false true ((k : Int) + 1))))) →
          ¬ (st.first = true ∧ zh9 x = true) → Z =
          match (if st.vs.length = 512 then Except.error (⟨3, (sp.1 : Int)⟩ : Gapi_Spot) else Except.ok (zhZ st sp.1 x)) with
          | .error e => some ((⟨ByteArray.empty, ([] : List (List ByteArray))⟩ : Gref17_Poem), ([] : List Gapi_Verse), e)
          | .ok st' => ag (mkB st'.t) (mkZ st'.stz) st'.vs st'.first st'.row ((k + 1 : Nat) : Int) := fun Z hZ hnt => by
        rw [hZ]
        by_cases hfull : st.vs.length = 512
        · rw [if_pos hfull]; exact zaY (beq_iff_eq.2 (by omega)) rfl
        · rw [if_neg hfull]
          refine zaP (beq_eq_false_iff_ne.2 (by omega)) (zcx ?_)
          obtain ⟨init, r, he, hl, hdl, htot, hsp⟩ := ziW hI
          have hzl := hI.stzLen
          have hol : (zcn st).length ≤ 513 := zjD hzl
          have hil : init.length + 1 = (zcn st).length := by rw [he]; simp
          have tail : ∀ p15 : List (List ByteArray), p15 = mkZ (zcn st) → (grd (I64 ((p15.length : Int) - 1)) <|
            zaE (zbJ (mkB x)) fun (r4 : Int) =>
            grd (0 ≤ (r4 : Int) ∧ (r4 : Int) ≤ ((mkB x).size : Int) ∧ (((mkB x).size : Int) : Int) ≤ ((mkB x).size : Int)) <|
            zaE (zbJ (mkB x)) fun (r5 : Int) =>
            zaE (zdk p15 ((p15.length : Int) - 1)) fun (x1 : List ByteArray) =>
            zaE (zbJ (mkB x)) fun (r6 : Int) =>
            grd (I64 ((mkS sp).From + r6)) <|
            grd (st.vs.length + 1 ≤ 2147483648) <|
            zaE (zdk p15 ((p15.length : Int) - 1)) fun (x2 : List ByteArray) =>
            grd (x2.length + 1 ≤ 2147483648) <|
            (grd (I64 ((k : Int) + 1)) <| ag (mkB st.t) (p15.set ((p15.length : Int) - 1 : Int).toNat (x2 ++ [mkB x])) (st.vs ++ [(⟨zbc (mkB x) r4 ((mkB x).size : Int), r5, (p15.length : Int) - 1, (x1.length : Int), (mkS sp).From + r6, (mkS sp).To⟩ : Gapi_Verse)]) false true ((k : Int) + 1))) =
              ag (mkB (zhZ st sp.1 x).t) (mkZ (zhZ st sp.1 x).stz) (zhZ st sp.1 x).vs (zhZ st sp.1 x).first (zhZ st sp.1 x).row ((k + 1 : Nat) : Int) := fun p15 hp => by
            have hpl : p15.length = (zcn st).length := by rw [hp, zcg]
            have hg : zdk p15 ((p15.length : Int) - 1) = some (r.map mkB) := by
              refine zkr (n := init.length) (by omega) ?_
              rw [hp, he, zfO, List.getElem?_append_right (by rw [zcg]; exact Nat.le_refl _), zcg, Nat.sub_self]; rfl
            have hind := zme x
            refine zcq ⟨by omega, by omega⟩ (za7 (zge x (by omega)) (zcq ⟨by omega, by rw [za0]; omega, by omega⟩ (za7 (zge x (by omega)) (za7 hg (za7 (zge x (by omega)) (zcq ⟨by show _ ≤ (sp.1 : Int) + _; omega, by show (sp.1 : Int) + _ ≤ _; omega⟩ (zcq (by omega) (za7 hg (zcq (by rw [List.length_map]; omega) ?_)))))))))
            refine (goOn _ _ _ _ _).trans ?_
            have e1 : (p15.set ((p15.length : Int) - 1 : Int).toNat (r.map mkB ++ [mkB x])) = mkZ (zhZ st sp.1 x).stz := by
              rw [show ((p15.length : Int) - 1 : Int).toNat = (mkZ init).length by rw [zcg]; omega, hp, he, zfO]
              show ((mkZ init ++ [r.map mkB]).set _ _) = mkZ ((zcn st).dropLast ++ [zeB (zcn st) ++ [x]])
              rw [zhx, hdl, hl, zfO]
              show _ = _ ++ [(r ++ [x]).map mkB]
              rw [List.map_append]; rfl
            have e2 : (⟨zbc (mkB x) (ind x : Int) ((mkB x).size : Int), (ind x : Int), (p15.length : Int) - 1, ((r.map mkB).length : Int), (mkS sp).From + (ind x : Int), (mkS sp).To⟩ : Gapi_Verse) = zfI sp.1 x (zcn st) := by
              unfold zfI
              rw [zhW, hpl, hl, List.length_map]
              congr 1
              show (sp.2 : Int) = _
              omega
            rw [e2, e1]
            rfl
          cases hr : st.row with
          | true =>
            refine zaP rfl ?_
            exact tail _ (by unfold zcn; rw [hr]; rfl)
          | false =>
            refine zaY rfl (zcq (by rw [zcg]; omega) ?_)
            refine tail _ ?_
            unfold zcn; rw [hr, if_neg (by decide), zfO]
            rfl
      refine zcx ?_
      cases hf : st.first with
      | true =>
        refine zaY rfl (za7 (zhE x) ?_)
        cases ht : zh9 x with
        | true =>
          rw [if_pos ⟨rfl, rfl⟩]
          refine zaY rfl (zcx ?_)
          by_cases h2l : 2 < x.length
          · refine zaY (decide_eq_true (by rw [za0]; omega)) (zcq ⟨by omega, by rw [za0]; omega, by omega⟩ ?_)
            have := zhW x 2
            rw [show ((2 : Nat) : Int) = 2 from rfl] at this
            rw [this]
            exact goOn _ _ _ _ _
          · refine zaP (decide_eq_false (by rw [za0]; omega)) ?_
            rw [hI.t0 hf, List.drop_eq_nil_of_le (by show x.length ≤ 2; omega)]
            exact goOn _ _ _ _ _
        | false =>
          rw [if_neg (by simp)]
          refine zaP rfl ?_
          exact verse _ rfl (by rw [ht]; simp)
      | false =>
        rw [if_neg (by simp)]
        refine zaP rfl ?_
        exact verse _ rfl (by rw [hf]; simp)
end
theorem zjv {T : List UInt8} {J : ByteArray → (List (List ByteArray)) → (List Gapi_Verse) → Option (Gref17_Poem × (List Gapi_Verse) × Gapi_Spot)} (hT : T.length ≤ 65536) :
    ∀ (n k : Nat) (st : RS), RInv st → k ≤ (zcl T).length → (zcl T).length - k < n →
      za2 (fun _ _ _ _ _ _ => none) (zcs (mkB T) J ((zcl T).map mkS)) n (mkB st.t) (mkZ st.stz) st.vs st.first st.row (k : Int) =
        match zde st ((zfi T).drop k) with
        | .error e => some ((⟨ByteArray.empty, ([] : List (List ByteArray))⟩ : Gref17_Poem), ([] : List Gapi_Verse), e)
        | .ok st' => J (mkB st'.t) (mkZ st'.stz) st'.vs := by
  intro n
  induction n with
  | zero => intro k st h1 h2 h3; omega
  | succ n ih =>
    intro k st hI hk hn
    rw [zbq]
    obtain ⟨ag, hag⟩ : ∃ ag, ag = za2 (fun _ _ _ _ _ _ => none) (zcs (mkB T) J ((zcl T).map mkS)) n := ⟨_, rfl⟩
    rw [← hag] at ih ⊢
    rcases Nat.lt_or_ge k (zcl T).length with h | h
    · obtain ⟨sp, hsp⟩ : ∃ sp, (zcl T)[k]? = some sp := ⟨_, List.getElem?_eq_getElem h⟩
      rw [zju hT hI hsp]
      have hi : (zfi T).drop k = (sp.1, (T.drop sp.1).take (sp.2 - sp.1)) :: (zfi T).drop (k + 1) := by
        have hl : k < (zfi T).length := by unfold zfi; rw [List.length_map]; exact h
        rw [List.drop_eq_getElem_cons hl]
        congr 1
        have : (zfi T)[k]? = some (sp.1, (T.drop sp.1).take (sp.2 - sp.1)) := by unfold zfi; rw [List.getElem?_map, hsp]; rfl
        rw [List.getElem?_eq_getElem hl] at this
        exact Option.some.inj this
      rw [hi, zde]
      cases hs : zd2 st (sp.1, (T.drop sp.1).take (sp.2 - sp.1)) with
      | error e => rfl
      | ok st' => exact ih (k + 1) st' (hI.step hs) (by omega) (by omega)
    · rw [List.drop_eq_nil_of_le (by unfold zfi; rw [List.length_map]; exact h)]
      unfold zcs
      exact zaP (decide_eq_false (by rw [List.length_map]; omega)) rfl
/-- What reference 17's Read answers. -/
theorem zlV (T : List UInt8) : zdo (mkB T) = match rd T with
    | .error e => some ((⟨ByteArray.empty, ([] : List (List ByteArray))⟩ : Gref17_Poem), ([] : List Gapi_Verse), e)
    | .ok st => some ((⟨mkB st.t, mkZ st.stz⟩ : Gref17_Poem), st.vs, (⟨0, 0⟩ : Gapi_Spot)) := by
  unfold zdo rd
  by_cases h : 65536 < T.length
  · rw [if_pos h]
    exact zaY (decide_eq_true (by rw [za0]; omega)) rfl
  · rw [if_neg h]
    refine zaP (decide_eq_false (by rw [za0]; omega)) (zcx (za7 (zlf _ (by rw [za0]; omega)) ?_))
    have hl := zfK T false 0 0
    have hl2 : (zcl T).length ≤ T.length + 1 := hl
    have := zjv (J := fun (p1 : ByteArray) (p2 : List (List ByteArray)) (l1 : List Gapi_Verse) => some ((⟨p1, p2⟩ : Gref17_Poem), l1, (⟨0, 0⟩ : Gapi_Spot))) (T := T) (by omega) zbG 0 rs0 zkg (Nat.zero_le _) (by unfold zbG; omega)
    rw [List.drop_zero] at this
    exact this
end Go.Proofs.YtgfkogafkhbgnaaDoor
namespace Go.Proofs.YtgfkogafkhbgnaaDoor
open Go.RowKit Go.Lib
set_option linter.unusedVariables false
set_option linter.unusedSimpArgs false
def zbQ (c0 : Gpoem_Poem) (ag1 : Int → Option (List (Int × Gapi_Verse))) (x3 : Int) : Option (List (Int × Gapi_Verse)) :=
zaO (decide ((x3 : Int) < (c0.told_lines.length : Int))) (
zaE (zdk c0.told_lines x3) fun (q1 : Gapi_Verse) =>
zoL (x3, q1) <|
grd (I64 (x3 + 1)) <|
ag1 (x3 + 1)
) (
some []
)
def zcz (c0 : Gpoem_Poem) : Option (List (Int × Gapi_Verse)) :=
za2 (fun _ => none) (zbQ c0) zbG 0
theorem zeF {b_c0 p_c0 : Nat} {c0 : Gpoem_Poem} {c0_h0 c0_h1 : Hd} {xs : (List (Int × Gapi_Verse))} (h : zcz c0 = some xs) : ItrR Tryd.prog 52 [zP b_c0] (fun q : Int × Gapi_Verse => [zI q.1, .agg #[.string q.2.Text, zI q.2.Indent, zI q.2.Stanza, zI q.2.In, zI q.2.Span_From, zI q.2.Span_To]]) xs [cells b_c0 [zP p_c0] 23, cells p_c0 [.string c0.told_title, c0_h0.v, c0_h1.v, .string c0.source] 93, vec zar 36 6 c0_h0.v c0.told_lines, vec zaq 34 2 c0_h1.v c0.told_stanzas] := by
 unfold zcz at h
 refine ItrR.intro Tryd.func52 rfl Tryd.ntmps52 (by simp) ?_
 intro l w0 K I X hrd hy
 obtain ⟨r0, hx0⟩ : ∃ r, xs = [] ++ r := ⟨xs, rfl⟩
 have hr0 : xs = r0 := hx0
 rw [hr0] at h
 refine zak (zak (zae (zbo (i := 0) hrd rfl zef rfl dc rfl rfl (zau rfl dc rfl rfl (za8 Tryd.underlying23) (zaj (zah (zbj rfl (zaK (zah (zak (zae (zbo (i := 0) hrd rfl zef rfl dc rfl rfl (zaR rfl dc rfl ?_)))))))))))))
 refine zan zbR rfl dc rfl (show _ = 0 from rfl) (zan zdC rfl dc rfl (show _ = 1 from rfl) (zbo (i := 1) hrd rfl zex rfl dc rfl rfl (zbt (hrd.vw (i := 2) rfl) rfl dc rfl Tryd.underlying57 (zaf rfl dc rfl (zaj (zah (zaS ?_)))))))
 refine zbx (β := Nat × Int × (List (Int × Gapi_Verse)) × (List (Int × Gapi_Verse))) (fun b => za2 (fun _ => none) (zbQ c0) b.1 b.2.1 = some b.2.2.2 ∧ xs = b.2.2.1 ++ b.2.2.2) (fun b => []) (fun b => [(0, .func (.yield l) #[] #[]), (11, c0_h0.v), (12, zI (c0.told_lines.length : Int)), (13, zI b.2.1)]) (fun b => [I b.2.2.1]) (fun b => b.1) (zbG, 0, ([] : List (Int × Gapi_Verse)), r0) ⟨h, hx0⟩ rfl (zab rfl (zab rfl (zab rfl (zab rfl (zay))))) (zam [0] kr rfl) ?_
 rintro ⟨n1, x3, acc3, rr3⟩ ⟨h, hx3⟩
 cases n1 with
 | zero => exact zdy h
 | succ n1 =>
  obtain ⟨ag1, hag1⟩ : ∃ ag, ag = za2 (fun _ => none) (zbQ c0) n1 := ⟨_, rfl⟩
  have h : zbQ c0 ag1 x3 = some rr3 := by rw [hag1]; exact h
  unfold zbQ at h
  show TC _ _ _ _ _ ([]) _ _ [(0, .func (.yield l) #[] #[]), (11, c0_h0.v), (12, zI (c0.told_lines.length : Int)), (13, zI x3)] [I acc3]
  refine zak (zae (zau rfl dc rfl rfl zbA (zaj (zah (zak ?_)))))
  refine zaI rfl (fun hb1 => ?_) (fun hb1 => ?_)
  ·
   have h := zaT hb1 h
   refine zaK (zah (zak (zaS (zak (zae (zaf rfl dc rfl ?_))))))
   obtain ⟨q1, hq1, h⟩ := zbN h
   refine zbd (hrd.vw (i := 2) rfl) hq1 Tryd.underlying57 zfF rfl dc rfl rfl rfl (zc2 (m := 0 + (x3 : Int).toNat) (j := 0) (i := 2) (q := q1) (cs := [.string q1.Text, zI q1.Indent, zI q1.Stanza, zI q1.In, zI q1.Span_From, zI q1.Span_To]) hrd rfl zgd zbM rfl dc rfl (Vw.get (hrd.vw (i := 2) rfl) hq1) rfl rfl rfl ?_)
   refine zbv zia rfl dc (fun b1 => ?_)
   refine zai rfl dc rfl (za4 (k := 1) (vs := [.string q1.Text, zI q1.Indent, zI q1.Stanza, zI q1.In, zI q1.Span_From, zI q1.Span_To]) (l' := [.string q1.Text, zI q1.Indent, zI q1.Stanza, zI q1.In, zI q1.Span_From, zI q1.Span_To]) zfF rfl rfl rfl rfl rfl (show _ ≤ _ by simp) rfl rfl ?_)
   show TO _ _ _ _ _ _ _ _ _ _ [I acc3, cells b1 [.string q1.Text, zI q1.Indent, zI q1.Stanza, zI q1.In, zI q1.Span_From, zI q1.Span_To] 36]
   refine zaj (zah (zak (zae (zaf rfl dc rfl (zaf rfl dc rfl (zcj (k := 1) (cs := [.string q1.Text, zI q1.Indent, zI q1.Stanza, zI q1.In, zI q1.Span_From, zI q1.Span_To]) zgd rfl dc rfl rfl rfl rfl ?_))))))
   obtain ⟨rr4, hr1, h⟩ := zpD h
   have hx4 : xs = acc3 ++ (x3, q1) :: rr4 := by rw [hx3, hr1]
   refine znd hy rfl dc rfl hx4 rfl (k := 0) rfl ?_ ?_
   ·
    have hx5 : xs = (acc3 ++ [(x3, q1)]) ++ rr4 := by rw [hx4]; simp
    show TO _ _ _ _ _ _ _ _ _ _ [I (acc3 ++ [(x3, q1)]), cells b1 [.string q1.Text, zI q1.Indent, zI q1.Stanza, zI q1.In, zI q1.Span_From, zI q1.Span_To] 36]
    refine zf7 rfl dc rfl zeE (zaj (zah (zbj rfl (zaK (zav (zah (zae ?_)))))))
    obtain ⟨hg1, h⟩ := zbW h
    refine zau rfl dc rfl rfl (za5 (r := x3 + 1) (IntWalk.i64_in _ hg1)) (zaf rfl dc rfl (zaj ?_))
    subst hag1
    exact za6 (n1, x3 + 1, acc3 ++ [(x3, q1)], rr4) ⟨h, hx5⟩ (Nat.lt_succ_self _) rfl (zab rfl (zab rfl (zab rfl (zab rfl (zay))))) (zam [0] kr rfl)
   ·
    show TO _ _ _ _ _ _ _ _ _ _ [X (acc3 ++ [(x3, q1)]), cells b1 [.string q1.Text, zI q1.Indent, zI q1.Stanza, zI q1.In, zI q1.Span_From, zI q1.Span_To] 36]
    refine zf7 rfl dc rfl zeE (zaj (zah (zbn rfl (zaQ (zaw (zas (zas (zaw ?_))))))))
    exact zn2 (ds := []) acc3 (x3, q1) rr4 hx4 (.inl rfl) Splits.nil Tryd.results52 (zam [0] kr rfl)
  ·
   have h := zaU hb1 h
   refine zbl (zaC (zaC (zaN ?_)))
   cases h
   exact zn1 (ds := []) (.inr rfl) Splits.nil Tryd.results52 (congrArg I (hx3.trans (List.append_nil _))) (zam [0] kr rfl)
def zdT (p1 : Gpoem_Poem) : Option Unit :=
some ()
theorem zfg {bp1 : Nat} {p1 : Gpoem_Poem} {p1_h0 p1_h1 : Hd} {r : Unit} (h : zdT p1 = some r) : FnR Tryd.prog 14 [zP bp1] [cells bp1 [.string p1.told_title, p1_h0.v, p1_h1.v, .string p1.source] 93, vec zar 36 6 p1_h0.v p1.told_lines, vec zaq 34 2 p1_h1.v p1.told_stanzas] [] (fun v0 : Nat => .func (.func 52) #[] #[zP v0]) (fun v0 => [cells v0 [zP bp1] 23]) := by
 unfold zdT at h
 refine FnR.intro Tryd.func14 rfl Tryd.ntmps14 (by simp) ?_
 intro w0 K hrd
 refine zak (zae ?_)
 refine zfo rfl dc rfl (fun b1 => ?_)
 refine zai rfl dc rfl (zaj (zah (zak (zae (zkA (x1 := []) (x2 := [.tmp 1]) rfl dc rfl rfl (zai rfl dc rfl (zaj (zah (zaQ ?_)))))))))
 cases h
 exact zaW (rs := [.tmp 2]) b1 (.inl rfl) Tryd.results14 (.cons (.tmp rfl) .nil) rfl (zam [0] kr rfl)
end Go.Proofs.YtgfkogafkhbgnaaDoor
namespace Go.Proofs.YtgfkogafkhbgnaaDoor
open Go.RowKit Go.Lib
set_option linter.unusedVariables false
set_option linter.unusedSimpArgs false
def zbV (s1 : ByteArray) : Option Bool :=
grd (s1.size ≤ 4294967280) <|
some (decide ((0 : Int) ≤ (iaV s1)))
theorem zeP {s1 : ByteArray} {r : Bool} (h : zbV s1 = some r) : FnP Tryd.prog 17 [.string s1, .string (⟨#[13, 10]⟩ : ByteArray)] (.bool r) := by
 unfold zbV at h
 refine FnP.intro Tryd.func17 rfl Tryd.ntmps17 (by simp) ?_
 intro w0 K
 refine zak (zae (zai rfl dc rfl (zaj (zah (zak (zae (zaf rfl dc rfl (zaf rfl dc rfl ?_))))))))
 obtain ⟨hg1, h⟩ := zbW h
 refine zbs (v := zI (iaV s1)) (vs := [.string s1, .string (⟨#[13, 10]⟩ : ByteArray)]) rfl dc rfl rfl rfl zpm (zoo s1 hg1) (zau rfl dc rfl rfl zeo (zai rfl dc rfl (zaj (zah (zaQ ?_)))))
 cases h
 exact zaW (rs := [.tmp 4]) () (.inl rfl) Tryd.results17 (.cons (.tmp rfl) .nil) rfl Splits.nil
def zgR (s1 : ByteArray) (most1 : Int) : Option Bool :=
zaO (decide (((s1.size : Int) : Int) ≤ most1)) (
zaE (zbV s1) fun (r1 : Bool) =>
some (!r1)
) (
some false
)
theorem zkk {s1 : ByteArray} {most1 : Int} {r : Bool} (h : zgR s1 most1 = some r) : FnP Tryd.prog 63 [.string s1, zI most1] (.bool r) := by
 unfold zgR at h
 refine FnP.intro Tryd.func63 rfl Tryd.ntmps63 (by simp) ?_
 intro w0 K
 refine zak (zae (zai rfl dc rfl (zaj (zah (zak (zae (zaf rfl dc rfl (zbp rfl dc rfl Tryd.underlying9 (zaf rfl dc rfl (zau rfl dc rfl rfl zjc (zaf rfl dc rfl ?_)))))))))))
 refine za3 (s := 9) rfl (fun hb1 => ?_) (fun hb1 => ?_)
 ·
  have h := zaT hb1 h
  refine zaf rfl dc rfl ?_
  obtain ⟨r1, hq1, h⟩ := zbN h
  refine zbs (v := .bool r1) (vs := [.string s1, .string (⟨#[13, 10]⟩ : ByteArray)]) rfl dc rfl rfl rfl zpA (zeP hq1) (zf7 rfl dc rfl zeE (zaA (b := true) rfl dc rfl rfl (zai rfl dc rfl (zaj (zah (zaQ ?_))))))
  cases h
  exact zaW (rs := [.tmp 4]) () (.inl rfl) Tryd.results63 (.cons (.tmp rfl) .nil) rfl Splits.nil
 ·
  have h := zaU hb1 h
  refine zal rfl dc (zal rfl dc (zal rfl dc (zaA (b := false) rfl dc rfl rfl (zai rfl dc rfl (zaj (zah (zaQ ?_)))))))
  cases h
  exact zaW (rs := [.tmp 4]) () (.inl rfl) Tryd.results63 (.cons (.tmp rfl) .nil) rfl Splits.nil
end Go.Proofs.YtgfkogafkhbgnaaDoor
namespace Go.Proofs.YtgfkogafkhbgnaaDoor
open Go.RowKit Go.Lib Go.Shelf
set_option linter.unusedVariables false
set_option linter.unusedSimpArgs false
def zjG (s : ByteArray) (n : Int) : Bool := decide ((s.size : Int) ≤ n) && !ziG s
theorem zly (s : ByteArray) (h : s.size ≤ 4294967280) : zbV s = some (ziG s) := by
  unfold zbV
  exact zcq h (congrArg some (zop s))
theorem znE (s : ByteArray) (n : Int) (h : n ≤ 4294967280) : FnP Tryd.prog 63 [.string s, .int .i64 n] (.bool (zjG s n)) := by
  refine zkk ?_
  unfold zgR zjG
  cases hc : decide ((s.size : Int) ≤ n) with
  | true => exact zaY rfl (za7 (zly s (by have := of_decide_eq_true hc; omega)) rfl)
  | false => exact zaP rfl rfl
end Go.Proofs.YtgfkogafkhbgnaaDoor
namespace Go.Proofs.YtgfkogafkhbgnaaDoor
open Go.RowKit Go.Lib
set_option linter.unusedVariables false
set_option linter.unusedSimpArgs false
def zdM (p1 : Gpoem_Poem) : Option Int :=
some (p1.told_lines.length : Int)
theorem zdF {bp1 : Nat} {p1 : Gpoem_Poem} {p1_h0 p1_h1 : Hd} {r : Int} (h : zdM p1 = some r) : FnR Tryd.prog 21 [zP bp1] [cells bp1 [.string p1.told_title, p1_h0.v, p1_h1.v, .string p1.source] 93, vec zar 36 6 p1_h0.v p1.told_lines, vec zaq 34 2 p1_h1.v p1.told_stanzas] [] (fun _ : Unit => (zI r)) (fun _ => []) := by
 unfold zdM at h
 refine FnR.intro Tryd.func21 rfl Tryd.ntmps21 (by simp) ?_
 intro w0 K hrd
 refine zak (zae (zai rfl dc rfl (zaj (zah (zak (zak (zae (zaf rfl dc rfl (zau rfl dc rfl rfl (za8 Tryd.underlying23) (zaj (zah (zbj rfl (zaK ?_)))))))))))))
 refine zah (zak (zae (zaf rfl dc rfl (zaR rfl dc rfl (zan zbR rfl dc rfl (show _ = 0 from rfl) (zan zdC rfl dc rfl (show _ = 1 from rfl) (zbo (i := 0) hrd rfl zex rfl dc rfl rfl (zbt (hrd.vw (i := 1) rfl) rfl dc rfl Tryd.underlying57 (zai rfl dc rfl (zaj (zah (zaQ ?_))))))))))))
 cases h
 exact zaW (rs := [.tmp 2]) () (.inl rfl) Tryd.results21 (.cons (.tmp rfl) .nil) rfl Splits.nil
def zdx (p1 : Gpoem_Poem) : Option Int :=
some (p1.told_stanzas.length : Int)
theorem zdQ {bp1 : Nat} {p1 : Gpoem_Poem} {p1_h0 p1_h1 : Hd} {r : Int} (h : zdx p1 = some r) : FnR Tryd.prog 23 [zP bp1] [cells bp1 [.string p1.told_title, p1_h0.v, p1_h1.v, .string p1.source] 93, vec zar 36 6 p1_h0.v p1.told_lines, vec zaq 34 2 p1_h1.v p1.told_stanzas] [] (fun _ : Unit => (zI r)) (fun _ => []) := by
 unfold zdx at h
 refine FnR.intro Tryd.func23 rfl Tryd.ntmps23 (by simp) ?_
 intro w0 K hrd
 refine zak (zae (zai rfl dc rfl (zaj (zah (zak (zak (zae (zaf rfl dc rfl (zau rfl dc rfl rfl (za8 Tryd.underlying23) (zaj (zah (zbj rfl (zaK ?_)))))))))))))
 refine zah (zak (zae (zaf rfl dc rfl (zaR rfl dc rfl (zan zbR rfl dc rfl (show _ = 0 from rfl) (zan zfR rfl dc rfl (show _ = 2 from rfl) (zbo (i := 0) hrd rfl zkf rfl dc rfl rfl (zbt (hrd.vw (i := 2) rfl) rfl dc rfl Tryd.underlying89 (zai rfl dc rfl (zaj (zah (zaQ ?_))))))))))))
 cases h
 exact zaW (rs := [.tmp 2]) () (.inl rfl) Tryd.results23 (.cons (.tmp rfl) .nil) rfl Splits.nil
def zdL (p1 : Gpoem_Poem) : Option ByteArray :=
some p1.told_title
theorem zcZ {bp1 : Nat} {p1 : Gpoem_Poem} {p1_h0 p1_h1 : Hd} {r : ByteArray} (h : zdL p1 = some r) : FnR Tryd.prog 24 [zP bp1] [cells bp1 [.string p1.told_title, p1_h0.v, p1_h1.v, .string p1.source] 93, vec zar 36 6 p1_h0.v p1.told_lines, vec zaq 34 2 p1_h1.v p1.told_stanzas] [] (fun _ : Unit => (.string r)) (fun _ => []) := by
 unfold zdL at h
 refine FnR.intro Tryd.func24 rfl Tryd.ntmps24 (by simp) ?_
 intro w0 K hrd
 refine zak (zae (zai rfl dc rfl (zaj (zah (zak (zak (zae (zaf rfl dc rfl (zau rfl dc rfl rfl (za8 Tryd.underlying23) (zaj (zah (zbj rfl (zaK ?_)))))))))))))
 refine zah (zak (zae (zaf rfl dc rfl (zaR rfl dc rfl (zan zbR rfl dc rfl (show _ = 0 from rfl) (zan zfw rfl dc rfl (show _ = 0 from rfl) (zbo (i := 0) hrd rfl zgN rfl dc rfl rfl (zai rfl dc rfl (zaj (zah (zaQ ?_)))))))))))
 cases h
 exact zaW (rs := [.tmp 2]) () (.inl rfl) Tryd.results24 (.cons (.tmp rfl) .nil) rfl Splits.nil
def zea (p1 : Gpoem_Poem) : Option ByteArray :=
some p1.source
theorem zcM {bp1 : Nat} {p1 : Gpoem_Poem} {p1_h0 p1_h1 : Hd} {r : ByteArray} (h : zea p1 = some r) : FnR Tryd.prog 20 [zP bp1] [cells bp1 [.string p1.told_title, p1_h0.v, p1_h1.v, .string p1.source] 93, vec zar 36 6 p1_h0.v p1.told_lines, vec zaq 34 2 p1_h1.v p1.told_stanzas] [] (fun _ : Unit => (.string r)) (fun _ => []) := by
 unfold zea at h
 refine FnR.intro Tryd.func20 rfl Tryd.ntmps20 (by simp) ?_
 intro w0 K hrd
 refine zak (zae (zai rfl dc rfl (zaj (zah (zak (zak (zae (zaf rfl dc rfl (zau rfl dc rfl rfl (za8 Tryd.underlying23) (zaj (zah (zbj rfl (zaK ?_)))))))))))))
 refine zah (zak (zae (zaf rfl dc rfl (zaR rfl dc rfl (zan znK rfl dc rfl (show _ = 3 from rfl) (zbo (i := 0) hrd rfl zgN rfl dc rfl rfl (zai rfl dc rfl (zaj (zah (zaQ ?_))))))))))
 cases h
 exact zaW (rs := [.tmp 2]) () (.inl rfl) Tryd.results20 (.cons (.tmp rfl) .nil) rfl Splits.nil
def zbT (p1 : Gpoem_Poem) (k1 : Int) : Option (Gapi_Verse × Int) :=
zaO (decide ((k1 : Int) < 0)) (
some ((⟨ByteArray.empty, 0, 0, 0, 0, 0⟩ : Gapi_Verse), 5)
) (
zaO (decide (((p1.told_lines.length : Int) : Int) ≤ k1)) (
some ((⟨ByteArray.empty, 0, 0, 0, 0, 0⟩ : Gapi_Verse), 5)
) (
zaE (zdk p1.told_lines k1) fun (q1 : Gapi_Verse) =>
some (q1, 0)
)
)
theorem zff {bp1 : Nat} {p1 : Gpoem_Poem} {p1_h0 p1_h1 : Hd} {k1 : Int} {r : (Gapi_Verse × Int)} (h : zbT p1 k1 = some r) : FnR Tryd.prog 28 [zP bp1, zI k1] [cells bp1 [.string p1.told_title, p1_h0.v, p1_h1.v, .string p1.source] 93, vec zar 36 6 p1_h0.v p1.told_lines, vec zaq 34 2 p1_h1.v p1.told_stanzas] [] (fun _ : Unit => (.tuple #[.agg #[.string r.1.Text, zI r.1.Indent, zI r.1.Stanza, zI r.1.In, zI r.1.Span_From, zI r.1.Span_To], zI r.2])) (fun _ => []) := by
 unfold zbT at h
 refine FnR.intro Tryd.func28 rfl Tryd.ntmps28 (by simp) ?_
 intro w0 K hrd
 refine zak (zae ?_)
 refine zbv zia rfl dc (fun b1 => ?_)
 refine zai rfl dc rfl (zaj (zah (zak (zaS (zak (zae (zaf rfl dc rfl (zau rfl dc rfl rfl (za8 Tryd.underlying23) (zai rfl dc rfl (zaj (zah (zbj rfl (zak ?_)))))))))))))
 refine zae (zaf rfl dc rfl (zau rfl dc rfl rfl zbA (zaf rfl dc rfl ?_)))
 refine za3 (s := 13) rfl (fun hb1 => ?_) (fun hb1 => ?_)
 ·
  have h := zaT hb1 h
  refine zal rfl dc (zal rfl dc (zal rfl dc (zal rfl dc (zal rfl dc (zal rfl dc (zal rfl dc (zal rfl dc (zaA (b := true) rfl dc rfl rfl (zai rfl dc rfl (zaj (zah (zbn rfl (zak ?_)))))))))))))
  refine zae ?_
  refine zbi (v := .agg #[.string ByteArray.empty, zI 0, zI 0, zI 0, zI 0, zI 0]) (ps := []) rfl dc rfl (fun _ => by kernel_rfl) ?_
  refine za4 (k := 0) (vs := [.string ByteArray.empty, zI 0, zI 0, zI 0, zI 0, zI 0]) (l' := [.string ByteArray.empty, zI 0, zI 0, zI 0, zI 0, zI 0]) zfF rfl rfl rfl rfl rfl (show _ ≤ _ by simp) rfl rfl ?_
  show TO _ _ _ _ _ _ _ _ _ _ [cells b1 [.string ByteArray.empty, zI 0, zI 0, zI 0, zI 0, zI 0] 36]
  refine zai rfl dc rfl (zaj (zah (zaQ (zaw (zas ?_)))))
  cases h
  exact zaW (rs := [.cell 4 36, .tmp 5]) () (.inl rfl) Tryd.results28 (.cons (.cells zgd (k := 0) rfl rfl rfl) (.cons (.tmp rfl) .nil)) rfl Splits.nil
 ·
  have h := zaU hb1 h
  refine zaf rfl dc rfl (zaf rfl dc rfl (zaR rfl dc rfl (zan zbR rfl dc rfl (show _ = 0 from rfl) (zan zdC rfl dc rfl (show _ = 1 from rfl) (zbo (i := 0) hrd rfl zex rfl dc rfl rfl (zbt (hrd.vw (i := 1) rfl) rfl dc rfl Tryd.underlying57 (zau rfl dc rfl rfl zeo (zaA (b := false) rfl dc rfl rfl (zai rfl dc rfl (zaj (zah ?_)))))))))))
  refine zaI rfl (fun hb2 => ?_) (fun hb2 => ?_)
  ·
   have h := zaT hb2 h
   refine zak (zae ?_)
   refine zbi (v := .agg #[.string ByteArray.empty, zI 0, zI 0, zI 0, zI 0, zI 0]) (ps := []) rfl dc rfl (fun _ => by kernel_rfl) ?_
   refine za4 (k := 0) (vs := [.string ByteArray.empty, zI 0, zI 0, zI 0, zI 0, zI 0]) (l' := [.string ByteArray.empty, zI 0, zI 0, zI 0, zI 0, zI 0]) zfF rfl rfl rfl rfl rfl (show _ ≤ _ by simp) rfl rfl ?_
   show TO _ _ _ _ _ _ _ _ _ _ [cells b1 [.string ByteArray.empty, zI 0, zI 0, zI 0, zI 0, zI 0] 36]
   refine zai rfl dc rfl (zaj (zah (zaQ (zaw (zas ?_)))))
   cases h
   exact zaW (rs := [.cell 4 36, .tmp 5]) () (.inl rfl) Tryd.results28 (.cons (.cells zgd (k := 0) rfl rfl rfl) (.cons (.tmp rfl) .nil)) rfl Splits.nil
  ·
   have h := zaU hb2 h
   refine zaK (zav (zah (zak (zae (zaf rfl dc rfl (zaR rfl dc rfl (zan zbR rfl dc rfl (show _ = 0 from rfl) (zan zdC rfl dc rfl (show _ = 1 from rfl) (zbo (i := 0) hrd rfl zex rfl dc rfl rfl (zaf rfl dc rfl ?_))))))))))
   obtain ⟨q1, hq1, h⟩ := zbN h
   refine zbd (hrd.vw (i := 1) rfl) hq1 Tryd.underlying57 zfF rfl dc rfl rfl rfl (zc2 (m := 0 + (k1 : Int).toNat) (j := 0) (i := 1) (q := q1) (cs := [.string q1.Text, zI q1.Indent, zI q1.Stanza, zI q1.In, zI q1.Span_From, zI q1.Span_To]) hrd rfl zgd zbM rfl dc rfl (Vw.get (hrd.vw (i := 1) rfl) hq1) rfl rfl rfl (za4 (k := 0) (vs := [.string q1.Text, zI q1.Indent, zI q1.Stanza, zI q1.In, zI q1.Span_From, zI q1.Span_To]) (l' := [.string q1.Text, zI q1.Indent, zI q1.Stanza, zI q1.In, zI q1.Span_From, zI q1.Span_To]) zfF rfl rfl rfl rfl rfl (show _ ≤ _ by simp) rfl rfl ?_))
   show TO _ _ _ _ _ _ _ _ _ _ [cells b1 [.string q1.Text, zI q1.Indent, zI q1.Stanza, zI q1.In, zI q1.Span_From, zI q1.Span_To] 36]
   refine zai rfl dc rfl (zaj (zah (zaQ ?_)))
   cases h
   exact zaW (rs := [.cell 4 36, .tmp 5]) () (.inl rfl) Tryd.results28 (.cons (.cells zgd (k := 0) rfl rfl rfl) (.cons (.tmp rfl) .nil)) rfl Splits.nil
def zbB (p1 : Gpoem_Poem) (k1 : Int) : Option (Gapi_Span × Int) :=
zaO (decide ((k1 : Int) < 0)) (
some ((⟨0, 0⟩ : Gapi_Span), 5)
) (
zaO (decide (((p1.told_stanzas.length : Int) : Int) ≤ k1)) (
some ((⟨0, 0⟩ : Gapi_Span), 5)
) (
zaE (zdk p1.told_stanzas k1) fun (q1 : Gapi_Span) =>
some (q1, 0)
)
)
theorem zeU {bp1 : Nat} {p1 : Gpoem_Poem} {p1_h0 p1_h1 : Hd} {k1 : Int} {r : (Gapi_Span × Int)} (h : zbB p1 k1 = some r) : FnR Tryd.prog 44 [zP bp1, zI k1] [cells bp1 [.string p1.told_title, p1_h0.v, p1_h1.v, .string p1.source] 93, vec zar 36 6 p1_h0.v p1.told_lines, vec zaq 34 2 p1_h1.v p1.told_stanzas] [] (fun _ : Unit => (.tuple #[.agg #[zI r.1.From, zI r.1.To], zI r.2])) (fun _ => []) := by
 unfold zbB at h
 refine FnR.intro Tryd.func44 rfl Tryd.ntmps44 (by simp) ?_
 intro w0 K hrd
 refine zak (zae ?_)
 refine zbv zkb rfl dc (fun b1 => ?_)
 refine zai rfl dc rfl (zaj (zah (zak (zaS (zak (zae (zaf rfl dc rfl (zau rfl dc rfl rfl (za8 Tryd.underlying23) (zai rfl dc rfl (zaj (zah (zbj rfl (zak ?_)))))))))))))
 refine zae (zaf rfl dc rfl (zau rfl dc rfl rfl zbA (zaf rfl dc rfl ?_)))
 refine za3 (s := 13) rfl (fun hb1 => ?_) (fun hb1 => ?_)
 ·
  have h := zaT hb1 h
  refine zal rfl dc (zal rfl dc (zal rfl dc (zal rfl dc (zal rfl dc (zal rfl dc (zal rfl dc (zal rfl dc (zaA (b := true) rfl dc rfl rfl (zai rfl dc rfl (zaj (zah (zbn rfl (zak ?_)))))))))))))
  refine zae ?_
  refine zbi (v := .agg #[zI 0, zI 0]) (ps := []) rfl dc rfl (fun _ => by kernel_rfl) ?_
  refine za4 (k := 0) (vs := [zI 0, zI 0]) (l' := [zI 0, zI 0]) zf4 rfl rfl rfl rfl rfl (show _ ≤ _ by simp) rfl rfl ?_
  show TO _ _ _ _ _ _ _ _ _ _ [cells b1 [zI 0, zI 0] 34]
  refine zai rfl dc rfl (zaj (zah (zaQ (zaw (zas ?_)))))
  cases h
  exact zaW (rs := [.cell 4 34, .tmp 5]) () (.inl rfl) Tryd.results44 (.cons (.cells zgP (k := 0) rfl rfl rfl) (.cons (.tmp rfl) .nil)) rfl Splits.nil
 ·
  have h := zaU hb1 h
  refine zaf rfl dc rfl (zaf rfl dc rfl (zaR rfl dc rfl (zan zbR rfl dc rfl (show _ = 0 from rfl) (zan zfR rfl dc rfl (show _ = 2 from rfl) (zbo (i := 0) hrd rfl zkf rfl dc rfl rfl (zbt (hrd.vw (i := 2) rfl) rfl dc rfl Tryd.underlying89 (zau rfl dc rfl rfl zeo (zaA (b := false) rfl dc rfl rfl (zai rfl dc rfl (zaj (zah ?_)))))))))))
  refine zaI rfl (fun hb2 => ?_) (fun hb2 => ?_)
  ·
   have h := zaT hb2 h
   refine zak (zae ?_)
   refine zbi (v := .agg #[zI 0, zI 0]) (ps := []) rfl dc rfl (fun _ => by kernel_rfl) ?_
   refine za4 (k := 0) (vs := [zI 0, zI 0]) (l' := [zI 0, zI 0]) zf4 rfl rfl rfl rfl rfl (show _ ≤ _ by simp) rfl rfl ?_
   show TO _ _ _ _ _ _ _ _ _ _ [cells b1 [zI 0, zI 0] 34]
   refine zai rfl dc rfl (zaj (zah (zaQ (zaw (zas ?_)))))
   cases h
   exact zaW (rs := [.cell 4 34, .tmp 5]) () (.inl rfl) Tryd.results44 (.cons (.cells zgP (k := 0) rfl rfl rfl) (.cons (.tmp rfl) .nil)) rfl Splits.nil
  ·
   have h := zaU hb2 h
   refine zaK (zav (zah (zak (zae (zaf rfl dc rfl (zaR rfl dc rfl (zan zbR rfl dc rfl (show _ = 0 from rfl) (zan zfR rfl dc rfl (show _ = 2 from rfl) (zbo (i := 0) hrd rfl zkf rfl dc rfl rfl (zaf rfl dc rfl ?_))))))))))
   obtain ⟨q1, hq1, h⟩ := zbN h
   refine zbd (hrd.vw (i := 2) rfl) hq1 Tryd.underlying89 zf4 rfl dc rfl rfl rfl (zc2 (m := 0 + (k1 : Int).toNat) (j := 0) (i := 2) (q := q1) (cs := [zI q1.From, zI q1.To]) hrd rfl zgP zbk rfl dc rfl (Vw.get (hrd.vw (i := 2) rfl) hq1) rfl rfl rfl (za4 (k := 0) (vs := [zI q1.From, zI q1.To]) (l' := [zI q1.From, zI q1.To]) zf4 rfl rfl rfl rfl rfl (show _ ≤ _ by simp) rfl rfl ?_))
   show TO _ _ _ _ _ _ _ _ _ _ [cells b1 [zI q1.From, zI q1.To] 34]
   refine zai rfl dc rfl (zaj (zah (zaQ ?_)))
   cases h
   exact zaW (rs := [.cell 4 34, .tmp 5]) () (.inl rfl) Tryd.results44 (.cons (.cells zgP (k := 0) rfl rfl rfl) (.cons (.tmp rfl) .nil)) rfl Splits.nil
def zdg (p1 : Gpoem_Poem) (q1 : Gpoem_Poem) (j1 : Option Bool) (ag1 : Int → Option Bool) (x3 : Int) : Option Bool :=
zaO (decide ((x3 : Int) < (p1.told_lines.length : Int))) (
zaE (zdk p1.told_lines x3) fun (q2 : Gapi_Verse) =>
zaE (zdk q1.told_lines x3) fun (q3 : Gapi_Verse) =>
zaO (!decide (q2.Text = q3.Text)) (
some false
) (
zaO ((q2.Indent : Int) != q3.Indent) (
some false
) (
zaO ((q2.Stanza : Int) != q3.Stanza) (
some false
) (
grd (I64 (x3 + 1)) <|
ag1 (x3 + 1)
)
)
)
) (
j1
)
def zdS (p1 : Gpoem_Poem) (q1 : Gpoem_Poem) : Option Bool :=
zaO (!decide (p1.told_title = q1.told_title)) (
some false
) (
zaO (((p1.told_lines.length : Int) : Int) != (q1.told_lines.length : Int)) (
some false
) (
zbE (fun (j1 : Option Bool) =>
za2 (fun _ => none) (zdg p1 q1 j1) zbG 0
) (
some true
)
)
)
theorem zfe {bp1 : Nat} {p1 : Gpoem_Poem} {p1_h0 p1_h1 : Hd} {bq1 : Nat} {q1 : Gpoem_Poem} {q1_h0 q1_h1 : Hd} {r : Bool} (h : zdS p1 q1 = some r) : FnR Tryd.prog 19 [zP bp1, zP bq1] [cells bp1 [.string p1.told_title, p1_h0.v, p1_h1.v, .string p1.source] 93, vec zar 36 6 p1_h0.v p1.told_lines, vec zaq 34 2 p1_h1.v p1.told_stanzas, cells bq1 [.string q1.told_title, q1_h0.v, q1_h1.v, .string q1.source] 93, vec zar 36 6 q1_h0.v q1.told_lines, vec zaq 34 2 q1_h1.v q1.told_stanzas] [] (fun _ : Unit => (.bool r)) (fun _ => []) := by
 unfold zdS at h
 refine FnR.intro Tryd.func19 rfl Tryd.ntmps19 (by simp) ?_
 intro w0 K hrd
 refine zak (zae (zai rfl dc rfl (zaj (zah (zak (zak ?_))))))
 refine zer (b := !decide (p1.told_title = q1.told_title)) (fun hb1 => ?_) (fun hb1 => ?_)
 ·
  have h := zaT hb1 h
  refine zb0 32 [(0, 8, zP bp1), (1, 9, .bool false), (2, 10, .bool false), (3, 11, zP bq1), (4, 12, .bool false), (5, 13, .bool false), (6, 14, .bool false), (7, 15, zP bp1), (8, 16, zP bp1), (9, 17, zP bp1), (10, 18, zP bp1), (11, 19, .string p1.told_title), (12, 20, zP bq1), (13, 21, zP bq1), (14, 22, zP bq1), (15, 23, zP bq1), (16, 24, .string q1.told_title), (17, 25, .bool true), (18, 26, .bool true), (19, 27, .bool true), (20, 28, undef), (21, 29, undef), (22, 30, undef), (23, 31, undef), (24, 32, undef), (25, 33, undef), (26, 34, undef), (27, 35, undef), (28, 36, undef), (29, 37, undef), (30, 38, undef), (31, 39, undef)] mixed kr kr dc (by rfl) kr kr (zad ?_ (zad ?_ (zad ?_ (zad ?_ (zad ?_ (zad ?_ (zad ?_ (zad ?_ (zad ?_ (zad ?_ (zad ?_ (zad ?_ (zad ?_ (zad ?_ (zad ?_ (zad ?_ (zad ?_ (zad ?_ (zad ?_ (zad ?_ (zad ?_ (zad ?_ (zad ?_ (zad ?_ (zad ?_ (zad ?_ (zad ?_ (zad ?_ (zad ?_ (zad ?_ (zad ?_ (zad ?_ DrawPre.nil)))))))))))))))))))))))))))))))) ?_
  ·
   intro D hn hd hcl hu hi
   refine zaf rfl dc (zaL (by rfl) rfl) ?_
   exact zag 0 hu hi rfl
  ·
   intro D hn hd hcl hu hi
   refine zau rfl dc (zac (m := 0) hu rfl (hd 0 dc)) rfl (za8 Tryd.underlying23) ?_
   exact zag 1 hu hi rfl
  ·
   intro D hn hd hcl hu hi
   refine zaf rfl dc (zac (m := 1) hu rfl (hd 1 dc)) ?_
   exact zag 2 hu hi rfl
  ·
   intro D hn hd hcl hu hi
   refine zaf (zch rfl (zac (m := 2) hu rfl (hd 2 dc))) dc (zaL (by rfl) rfl) ?_
   exact zag 3 hu hi rfl
  ·
   intro D hn hd hcl hu hi
   refine zau (zch rfl (zac (m := 2) hu rfl (hd 2 dc))) dc (zac (m := 3) hu rfl (hd 3 dc)) rfl (za8 Tryd.underlying23) ?_
   exact zag 4 hu hi rfl
  ·
   intro D hn hd hcl hu hi
   refine zaA (b := false) rfl dc (zac (m := 2) hu rfl (hd 2 dc)) (zac (m := 4) hu rfl (hd 4 dc)) ?_
   exact zag 5 hu hi rfl
  ·
   intro D hn hd hcl hu hi
   refine zaf rfl dc (zac (m := 5) hu rfl (hd 5 dc)) ?_
   exact zag 6 hu hi rfl
  ·
   intro D hn hd hcl hu hi
   refine zaf (zch rfl (zac (m := 6) hu rfl (hd 6 dc))) dc (zaL (by rfl) rfl) ?_
   exact zag 7 hu hi rfl
  ·
   intro D hn hd hcl hu hi
   refine zaR (zch rfl (zac (m := 6) hu rfl (hd 6 dc))) dc (zac (m := 7) hu rfl (hd 7 dc)) ?_
   exact zag 8 hu hi rfl
  ·
   intro D hn hd hcl hu hi
   refine zan zbR (zch rfl (zac (m := 6) hu rfl (hd 6 dc))) dc (zac (m := 8) hu rfl (hd 8 dc)) (show _ = 0 from rfl) ?_
   exact zag 9 hu hi rfl
  ·
   intro D hn hd hcl hu hi
   refine zan zfw (zch rfl (zac (m := 6) hu rfl (hd 6 dc))) dc (zac (m := 9) hu rfl (hd 9 dc)) (show _ = 0 from rfl) ?_
   exact zag 10 hu hi rfl
  ·
   intro D hn hd hcl hu hi
   refine zbo (i := 0) hrd rfl zgN (zch rfl (zac (m := 6) hu rfl (hd 6 dc))) dc (zac (m := 10) hu rfl (hd 10 dc)) rfl ?_
   exact zag 11 hu hi rfl
  ·
   intro D hn hd hcl hu hi
   refine zaf (zch rfl (zac (m := 6) hu rfl (hd 6 dc))) dc (zaL (by rfl) rfl) ?_
   exact zag 12 hu hi rfl
  ·
   intro D hn hd hcl hu hi
   refine zaR (zch rfl (zac (m := 6) hu rfl (hd 6 dc))) dc (zac (m := 12) hu rfl (hd 12 dc)) ?_
   exact zag 13 hu hi rfl
  ·
   intro D hn hd hcl hu hi
   refine zan zbR (zch rfl (zac (m := 6) hu rfl (hd 6 dc))) dc (zac (m := 13) hu rfl (hd 13 dc)) (show _ = 0 from rfl) ?_
   exact zag 14 hu hi rfl
  ·
   intro D hn hd hcl hu hi
   refine zan zfw (zch rfl (zac (m := 6) hu rfl (hd 6 dc))) dc (zac (m := 14) hu rfl (hd 14 dc)) (show _ = 0 from rfl) ?_
   exact zag 15 hu hi rfl
  ·
   intro D hn hd hcl hu hi
   refine zbo (i := 3) hrd rfl zgN (zch rfl (zac (m := 6) hu rfl (hd 6 dc))) dc (zac (m := 15) hu rfl (hd 15 dc)) rfl ?_
   exact zag 16 hu hi rfl
  ·
   intro D hn hd hcl hu hi
   refine zau (zch rfl (zac (m := 6) hu rfl (hd 6 dc))) dc (zac (m := 11) hu rfl (hd 11 dc)) (zac (m := 16) hu rfl (hd 16 dc)) zcS (zdb (show Value.bool (!decide (p1.told_title = q1.told_title)) = Value.bool true from congrArg Value.bool hb1) ?_)
   exact zag 17 hu hi rfl
  ·
   intro D hn hd hcl hu hi
   refine zaA (b := false) rfl dc (zac (m := 6) hu rfl (hd 6 dc)) (zac (m := 17) hu rfl (hd 17 dc)) ?_
   exact zag 18 hu hi rfl
  ·
   intro D hn hd hcl hu hi
   refine zaf rfl dc (zac (m := 18) hu rfl (hd 18 dc)) ?_
   exact zag 19 hu hi rfl
  ·
   intro D hn hd hcl hu hi
   refine zal (zcT rfl (zac (m := 19) hu rfl (hd 19 dc))) dc ?_
   exact zag 20 hu hi rfl
  ·
   intro D hn hd hcl hu hi
   refine zal (zcT rfl (zac (m := 19) hu rfl (hd 19 dc))) dc ?_
   exact zag 21 hu hi rfl
  ·
   intro D hn hd hcl hu hi
   refine zal (zcT rfl (zac (m := 19) hu rfl (hd 19 dc))) dc ?_
   exact zag 22 hu hi rfl
  ·
   intro D hn hd hcl hu hi
   refine zal (zcT rfl (zac (m := 19) hu rfl (hd 19 dc))) dc ?_
   exact zag 23 hu hi rfl
  ·
   intro D hn hd hcl hu hi
   refine zal (zcT rfl (zac (m := 19) hu rfl (hd 19 dc))) dc ?_
   exact zag 24 hu hi rfl
  ·
   intro D hn hd hcl hu hi
   refine zal (zcT rfl (zac (m := 19) hu rfl (hd 19 dc))) dc ?_
   exact zag 25 hu hi rfl
  ·
   intro D hn hd hcl hu hi
   refine zal (zcT rfl (zac (m := 19) hu rfl (hd 19 dc))) dc ?_
   exact zag 26 hu hi rfl
  ·
   intro D hn hd hcl hu hi
   refine zal (zcT rfl (zac (m := 19) hu rfl (hd 19 dc))) dc ?_
   exact zag 27 hu hi rfl
  ·
   intro D hn hd hcl hu hi
   refine zal (zcT rfl (zac (m := 19) hu rfl (hd 19 dc))) dc ?_
   exact zag 28 hu hi rfl
  ·
   intro D hn hd hcl hu hi
   refine zal (zcT rfl (zac (m := 19) hu rfl (hd 19 dc))) dc ?_
   exact zag 29 hu hi rfl
  ·
   intro D hn hd hcl hu hi
   refine zal (zcT rfl (zac (m := 19) hu rfl (hd 19 dc))) dc ?_
   exact zag 30 hu hi rfl
  ·
   intro D hn hd hcl hu hi
   refine zal (zcT rfl (zac (m := 19) hu rfl (hd 19 dc))) dc ?_
   exact zag 31 hu hi rfl
  refine zal rfl dc (zaA (b := true) rfl dc rfl rfl (zaj (zah (zbn rfl (zak (zae (zai rfl dc rfl (zaj (zah (zaQ (zas ?_)))))))))))
  cases h
  exact zaW (rs := [.tmp 4]) () (.inl rfl) Tryd.results19 (.cons (.tmp rfl) .nil) rfl Splits.nil
 ·
  have h := zaU hb1 h
  refine zb0 32 [(0, 8, zP bp1), (1, 9, .bool false), (2, 10, .bool false), (3, 11, zP bq1), (4, 12, .bool false), (5, 13, .bool false), (6, 14, .bool false), (7, 15, zP bp1), (8, 16, zP bp1), (9, 17, zP bp1), (10, 18, zP bp1), (11, 19, .string p1.told_title), (12, 20, zP bq1), (13, 21, zP bq1), (14, 22, zP bq1), (15, 23, zP bq1), (16, 24, .string q1.told_title), (17, 25, .bool false), (18, 26, .bool false), (19, 27, .bool false), (20, 28, zP bp1), (21, 29, zP bp1), (22, 30, zP bp1), (23, 31, .pointer (some ⟨bp1, 1, none⟩)), (24, 32, p1_h0.v), (25, 33, zI (p1.told_lines.length : Int)), (26, 34, zP bq1), (27, 35, zP bq1), (28, 36, zP bq1), (29, 37, .pointer (some ⟨bq1, 1, none⟩)), (30, 38, q1_h0.v), (31, 39, zI (q1.told_lines.length : Int))] mixed kr kr dc (by rfl) kr kr (zad ?_ (zad ?_ (zad ?_ (zad ?_ (zad ?_ (zad ?_ (zad ?_ (zad ?_ (zad ?_ (zad ?_ (zad ?_ (zad ?_ (zad ?_ (zad ?_ (zad ?_ (zad ?_ (zad ?_ (zad ?_ (zad ?_ (zad ?_ (zad ?_ (zad ?_ (zad ?_ (zad ?_ (zad ?_ (zad ?_ (zad ?_ (zad ?_ (zad ?_ (zad ?_ (zad ?_ (zad ?_ DrawPre.nil)))))))))))))))))))))))))))))))) ?_
  ·
   intro D hn hd hcl hu hi
   refine zaf rfl dc (zaL (by rfl) rfl) ?_
   exact zag 0 hu hi rfl
  ·
   intro D hn hd hcl hu hi
   refine zau rfl dc (zac (m := 0) hu rfl (hd 0 dc)) rfl (za8 Tryd.underlying23) ?_
   exact zag 1 hu hi rfl
  ·
   intro D hn hd hcl hu hi
   refine zaf rfl dc (zac (m := 1) hu rfl (hd 1 dc)) ?_
   exact zag 2 hu hi rfl
  ·
   intro D hn hd hcl hu hi
   refine zaf (zch rfl (zac (m := 2) hu rfl (hd 2 dc))) dc (zaL (by rfl) rfl) ?_
   exact zag 3 hu hi rfl
  ·
   intro D hn hd hcl hu hi
   refine zau (zch rfl (zac (m := 2) hu rfl (hd 2 dc))) dc (zac (m := 3) hu rfl (hd 3 dc)) rfl (za8 Tryd.underlying23) ?_
   exact zag 4 hu hi rfl
  ·
   intro D hn hd hcl hu hi
   refine zaA (b := false) rfl dc (zac (m := 2) hu rfl (hd 2 dc)) (zac (m := 4) hu rfl (hd 4 dc)) ?_
   exact zag 5 hu hi rfl
  ·
   intro D hn hd hcl hu hi
   refine zaf rfl dc (zac (m := 5) hu rfl (hd 5 dc)) ?_
   exact zag 6 hu hi rfl
  ·
   intro D hn hd hcl hu hi
   refine zaf (zch rfl (zac (m := 6) hu rfl (hd 6 dc))) dc (zaL (by rfl) rfl) ?_
   exact zag 7 hu hi rfl
  ·
   intro D hn hd hcl hu hi
   refine zaR (zch rfl (zac (m := 6) hu rfl (hd 6 dc))) dc (zac (m := 7) hu rfl (hd 7 dc)) ?_
   exact zag 8 hu hi rfl
  ·
   intro D hn hd hcl hu hi
   refine zan zbR (zch rfl (zac (m := 6) hu rfl (hd 6 dc))) dc (zac (m := 8) hu rfl (hd 8 dc)) (show _ = 0 from rfl) ?_
   exact zag 9 hu hi rfl
  ·
   intro D hn hd hcl hu hi
   refine zan zfw (zch rfl (zac (m := 6) hu rfl (hd 6 dc))) dc (zac (m := 9) hu rfl (hd 9 dc)) (show _ = 0 from rfl) ?_
   exact zag 10 hu hi rfl
  ·
   intro D hn hd hcl hu hi
   refine zbo (i := 0) hrd rfl zgN (zch rfl (zac (m := 6) hu rfl (hd 6 dc))) dc (zac (m := 10) hu rfl (hd 10 dc)) rfl ?_
   exact zag 11 hu hi rfl
  ·
   intro D hn hd hcl hu hi
   refine zaf (zch rfl (zac (m := 6) hu rfl (hd 6 dc))) dc (zaL (by rfl) rfl) ?_
   exact zag 12 hu hi rfl
  ·
   intro D hn hd hcl hu hi
   refine zaR (zch rfl (zac (m := 6) hu rfl (hd 6 dc))) dc (zac (m := 12) hu rfl (hd 12 dc)) ?_
   exact zag 13 hu hi rfl
  ·
   intro D hn hd hcl hu hi
   refine zan zbR (zch rfl (zac (m := 6) hu rfl (hd 6 dc))) dc (zac (m := 13) hu rfl (hd 13 dc)) (show _ = 0 from rfl) ?_
   exact zag 14 hu hi rfl
  ·
   intro D hn hd hcl hu hi
   refine zan zfw (zch rfl (zac (m := 6) hu rfl (hd 6 dc))) dc (zac (m := 14) hu rfl (hd 14 dc)) (show _ = 0 from rfl) ?_
   exact zag 15 hu hi rfl
  ·
   intro D hn hd hcl hu hi
   refine zbo (i := 3) hrd rfl zgN (zch rfl (zac (m := 6) hu rfl (hd 6 dc))) dc (zac (m := 15) hu rfl (hd 15 dc)) rfl ?_
   exact zag 16 hu hi rfl
  ·
   intro D hn hd hcl hu hi
   refine zau (zch rfl (zac (m := 6) hu rfl (hd 6 dc))) dc (zac (m := 11) hu rfl (hd 11 dc)) (zac (m := 16) hu rfl (hd 16 dc)) zcS (zdb (show Value.bool (!decide (p1.told_title = q1.told_title)) = Value.bool false from congrArg Value.bool hb1) ?_)
   exact zag 17 hu hi rfl
  ·
   intro D hn hd hcl hu hi
   refine zaA (b := false) rfl dc (zac (m := 6) hu rfl (hd 6 dc)) (zac (m := 17) hu rfl (hd 17 dc)) ?_
   exact zag 18 hu hi rfl
  ·
   intro D hn hd hcl hu hi
   refine zaf rfl dc (zac (m := 18) hu rfl (hd 18 dc)) ?_
   exact zag 19 hu hi rfl
  ·
   intro D hn hd hcl hu hi
   refine zaf (zch rfl (zac (m := 19) hu rfl (hd 19 dc))) dc (zaL (by rfl) rfl) ?_
   exact zag 20 hu hi rfl
  ·
   intro D hn hd hcl hu hi
   refine zaR (zch rfl (zac (m := 19) hu rfl (hd 19 dc))) dc (zac (m := 20) hu rfl (hd 20 dc)) ?_
   exact zag 21 hu hi rfl
  ·
   intro D hn hd hcl hu hi
   refine zan zbR (zch rfl (zac (m := 19) hu rfl (hd 19 dc))) dc (zac (m := 21) hu rfl (hd 21 dc)) (show _ = 0 from rfl) ?_
   exact zag 22 hu hi rfl
  ·
   intro D hn hd hcl hu hi
   refine zan zdC (zch rfl (zac (m := 19) hu rfl (hd 19 dc))) dc (zac (m := 22) hu rfl (hd 22 dc)) (show _ = 1 from rfl) ?_
   exact zag 23 hu hi rfl
  ·
   intro D hn hd hcl hu hi
   refine zbo (i := 0) hrd rfl zex (zch rfl (zac (m := 19) hu rfl (hd 19 dc))) dc (zac (m := 23) hu rfl (hd 23 dc)) rfl ?_
   exact zag 24 hu hi rfl
  ·
   intro D hn hd hcl hu hi
   refine zbt (hrd.vw (i := 1) rfl) (zch rfl (zac (m := 19) hu rfl (hd 19 dc))) dc (zac (m := 24) hu rfl (hd 24 dc)) Tryd.underlying57 ?_
   exact zag 25 hu hi rfl
  ·
   intro D hn hd hcl hu hi
   refine zaf (zch rfl (zac (m := 19) hu rfl (hd 19 dc))) dc (zaL (by rfl) rfl) ?_
   exact zag 26 hu hi rfl
  ·
   intro D hn hd hcl hu hi
   refine zaR (zch rfl (zac (m := 19) hu rfl (hd 19 dc))) dc (zac (m := 26) hu rfl (hd 26 dc)) ?_
   exact zag 27 hu hi rfl
  ·
   intro D hn hd hcl hu hi
   refine zan zbR (zch rfl (zac (m := 19) hu rfl (hd 19 dc))) dc (zac (m := 27) hu rfl (hd 27 dc)) (show _ = 0 from rfl) ?_
   exact zag 28 hu hi rfl
  ·
   intro D hn hd hcl hu hi
   refine zan zdC (zch rfl (zac (m := 19) hu rfl (hd 19 dc))) dc (zac (m := 28) hu rfl (hd 28 dc)) (show _ = 1 from rfl) ?_
   exact zag 29 hu hi rfl
  ·
   intro D hn hd hcl hu hi
   refine zbo (i := 3) hrd rfl zex (zch rfl (zac (m := 19) hu rfl (hd 19 dc))) dc (zac (m := 29) hu rfl (hd 29 dc)) rfl ?_
   exact zag 30 hu hi rfl
  ·
   intro D hn hd hcl hu hi
   refine zbt (hrd.vw (i := 4) rfl) (zch rfl (zac (m := 19) hu rfl (hd 19 dc))) dc (zac (m := 30) hu rfl (hd 30 dc)) Tryd.underlying57 ?_
   exact zag 31 hu hi rfl
  refine zau rfl dc rfl rfl zbu (zaA (b := false) rfl dc rfl rfl (zaj (zah ?_)))
  refine zaI rfl (fun hb2 => ?_) (fun hb2 => ?_)
  ·
   have h := zaT hb2 h
   refine zak (zae (zai rfl dc rfl (zaj (zah (zaQ (zas ?_))))))
   cases h
   exact zaW (rs := [.tmp 4]) () (.inl rfl) Tryd.results19 (.cons (.tmp rfl) .nil) rfl Splits.nil
  ·
   have h := zaU hb2 h
   refine zaK (zah ?_)
   obtain ⟨j1, hj1, h⟩ := zcc h
   refine zbf (β := Unit) 0 rfl (fun b => j1 = some r) (fun b => []) (fun b => []) (fun b => []) (fun cut => ?_) ?_
   ·
    refine cut (zak (zae (zaf rfl dc rfl (zaR rfl dc rfl (zan zbR rfl dc rfl (show _ = 0 from rfl) (zan zdC rfl dc rfl (show _ = 1 from rfl) (zbo (i := 0) hrd rfl zex rfl dc rfl rfl (zbt (hrd.vw (i := 1) rfl) rfl dc rfl Tryd.underlying57 (zaf rfl dc rfl (zaj (zah (zaS ?_))))))))))))
    refine zbx (β := Nat × Int) (fun b => za2 (fun _ => none) (zdg p1 q1 j1) b.1 b.2 = some r) (fun b => []) (fun b => [(1, zP bq1), (46, p1_h0.v), (47, zI (p1.told_lines.length : Int)), (48, zI b.2)]) (fun b => []) (fun b => b.1) (zbG, 0) h rfl (zab rfl (zab rfl (zab rfl (zab rfl (zay))))) Splits.nil ?_
    rintro ⟨n1, x3⟩ h
    cases n1 with
    | zero => exact zdy h
    | succ n1 =>
     obtain ⟨ag1, hag1⟩ : ∃ ag, ag = za2 (fun _ => none) (zdg p1 q1 j1) n1 := ⟨_, rfl⟩
     have h : zdg p1 q1 j1 ag1 x3 = some r := by rw [hag1]; exact h
     unfold zdg at h
     show TC _ _ _ _ _ ([]) _ _ [(1, zP bq1), (46, p1_h0.v), (47, zI (p1.told_lines.length : Int)), (48, zI x3)] []
     refine zak (zae (zau rfl dc rfl rfl zbA (zaj (zah (zak ?_)))))
     refine zaI rfl (fun hb3 => ?_) (fun hb3 => ?_)
     ·
      have h := zaT hb3 h
      refine zaK (zah (zak (zaS (zak (zae (zaf rfl dc rfl ?_))))))
      obtain ⟨q2, hq1, h⟩ := zbN h
      refine zbd (hrd.vw (i := 1) rfl) hq1 Tryd.underlying57 zfF rfl dc rfl rfl rfl (zc2 (m := 0 + (x3 : Int).toNat) (j := 0) (i := 1) (q := q2) (cs := [.string q2.Text, zI q2.Indent, zI q2.Stanza, zI q2.In, zI q2.Span_From, zI q2.Span_To]) hrd rfl zgd zbM rfl dc rfl (Vw.get (hrd.vw (i := 1) rfl) hq1) rfl rfl rfl ?_)
      refine zbv zia rfl dc (fun b1 => ?_)
      refine zai rfl dc rfl (za4 (k := 0) (vs := [.string q2.Text, zI q2.Indent, zI q2.Stanza, zI q2.In, zI q2.Span_From, zI q2.Span_To]) (l' := [.string q2.Text, zI q2.Indent, zI q2.Stanza, zI q2.In, zI q2.Span_From, zI q2.Span_To]) zfF rfl rfl rfl rfl rfl (show _ ≤ _ by simp) rfl rfl ?_)
      show TO _ _ _ _ _ _ _ _ _ _ [cells b1 [.string q2.Text, zI q2.Indent, zI q2.Stanza, zI q2.In, zI q2.Span_From, zI q2.Span_To] 36]
      refine zaj (zah (zak (zae (zaf rfl dc rfl (zaR rfl dc rfl (zan zbR rfl dc rfl (show _ = 0 from rfl) (zan zdC rfl dc rfl (show _ = 1 from rfl) (zbo (i := 3) hrd rfl zex rfl dc rfl rfl (zaf rfl dc rfl ?_)))))))))
      obtain ⟨q3, hq2, h⟩ := zbN h
      refine zbd (hrd.vw (i := 4) rfl) hq2 Tryd.underlying57 zfF rfl dc rfl rfl rfl (zc2 (m := 0 + (x3 : Int).toNat) (j := 0) (i := 4) (q := q3) (cs := [.string q3.Text, zI q3.Indent, zI q3.Stanza, zI q3.In, zI q3.Span_From, zI q3.Span_To]) hrd rfl zgd zbM rfl dc rfl (Vw.get (hrd.vw (i := 4) rfl) hq2) rfl rfl rfl ?_)
      refine zbv zia rfl dc (fun b2 => ?_)
      refine za4 (k := 1) (vs := [.string q3.Text, zI q3.Indent, zI q3.Stanza, zI q3.In, zI q3.Span_From, zI q3.Span_To]) (l' := [.string q3.Text, zI q3.Indent, zI q3.Stanza, zI q3.In, zI q3.Span_From, zI q3.Span_To]) zfF rfl rfl rfl rfl rfl (show _ ≤ _ by simp) rfl rfl ?_
      show TO _ _ _ _ _ _ _ _ _ _ [cells b1 [.string q2.Text, zI q2.Indent, zI q2.Stanza, zI q2.In, zI q2.Span_From, zI q2.Span_To] 36, cells b2 [.string q3.Text, zI q3.Indent, zI q3.Stanza, zI q3.In, zI q3.Span_From, zI q3.Span_To] 36]
      refine zaj (zah (zak (zae (zan zku rfl dc rfl (show _ = 0 from rfl) (zaM (k := 0) zgN rfl dc rfl rfl rfl (zan zku rfl dc rfl (show _ = 0 from rfl) (zaM (k := 1) zgN rfl dc rfl rfl rfl (zau rfl dc rfl rfl zcS (zaf rfl dc rfl ?_)))))))))
      refine za3 (s := 66) rfl (fun hb4 => ?_) (fun hb4 => ?_)
      ·
       have h := zaT hb4 h
       refine zal rfl dc (zal rfl dc (zal rfl dc (zal rfl dc (zal rfl dc (zaA (b := true) rfl dc rfl rfl (zaf rfl dc rfl (zal rfl dc (zal rfl dc (zal rfl dc (zal rfl dc (zal rfl dc (zaA (b := true) rfl dc rfl rfl (zaj ?_)))))))))))))
       refine zah (zbn rfl (zak (zae (zai rfl dc rfl (zaj (zah (zaQ (zaw (zas (zas (zaw (zas ?_))))))))))))
       cases h
       exact zaW (rs := [.tmp 4]) () (.inl rfl) Tryd.results19 (.cons (.tmp rfl) .nil) rfl Splits.nil
      ·
       have h := zaU hb4 h
       refine zan zkt rfl dc rfl (show _ = 1 from rfl) (zaM (k := 0) zeL rfl dc rfl rfl rfl (zan zkt rfl dc rfl (show _ = 1 from rfl) (zaM (k := 1) zeL rfl dc rfl rfl rfl (zau rfl dc rfl rfl zbu (zaA (b := false) rfl dc rfl rfl (zaf rfl dc rfl ?_))))))
       refine za3 (s := 73) rfl (fun hb5 => ?_) (fun hb5 => ?_)
       ·
        have h := zaT hb5 h
        refine zal rfl dc (zal rfl dc (zal rfl dc (zal rfl dc (zal rfl dc (zaA (b := true) rfl dc rfl rfl (zaj (zah (zbn rfl (zak (zae (zai rfl dc rfl (zaj (zah ?_)))))))))))))
        refine zaQ (zaw (zas (zas (zaw (zas ?_)))))
        cases h
        exact zaW (rs := [.tmp 4]) () (.inl rfl) Tryd.results19 (.cons (.tmp rfl) .nil) rfl Splits.nil
       ·
        have h := zaU hb5 h
        refine zan zhT rfl dc rfl (show _ = 2 from rfl) (zaM (k := 0) zeL rfl dc rfl rfl rfl (zan zhT rfl dc rfl (show _ = 2 from rfl) (zaM (k := 1) zeL rfl dc rfl rfl rfl (zau rfl dc rfl rfl zbu (zaA (b := false) rfl dc rfl rfl (zaj (zah ?_)))))))
        refine zaI rfl (fun hb6 => ?_) (fun hb6 => ?_)
        ·
         have h := zaT hb6 h
         refine zak (zae (zai rfl dc rfl (zaj (zah (zaQ (zaw (zas (zas (zaw (zas ?_))))))))))
         cases h
         exact zaW (rs := [.tmp 4]) () (.inl rfl) Tryd.results19 (.cons (.tmp rfl) .nil) rfl Splits.nil
        ·
         have h := zaU hb6 h
         refine zaK (zav (zah (zae ?_)))
         obtain ⟨hg1, h⟩ := zbW h
         refine zau rfl dc rfl rfl (za5 (r := x3 + 1) (IntWalk.i64_in _ hg1)) (zaf rfl dc rfl (zaj ?_))
         subst hag1
         exact za6 (n1, x3 + 1) h (Nat.lt_succ_self _) rfl (zab rfl (zab rfl (zab rfl (zab rfl (zay))))) Splits.nil
     ·
      have h := zaU hb3 h
      refine zbl (zaC (zaC (zaN ?_)))
      exact zaJ () h rfl (zay) Splits.nil
   ·
    rintro _ h
    rw [hj1] at h
    show TC _ _ _ _ _ ([]) _ _ [] []
    refine zak (zae (zai rfl dc rfl (zaj (zah (zaQ ?_)))))
    cases h
    exact zaW (rs := [.tmp 4]) () (.inl rfl) Tryd.results19 (.cons (.tmp rfl) .nil) rfl Splits.nil
end Go.Proofs.YtgfkogafkhbgnaaDoor
namespace Go.Proofs.YtgfkogafkhbgnaaDoor
open Go.RowKit Go.Lib Go.Shelf
attribute [local go_sem] Oper.semAt_some znz zk6 zk7
set_option linter.unusedVariables false

end Go.Proofs.YtgfkogafkhbgnaaDoor
namespace Go.Proofs.YtgfkogafkhbgnaaDoor
open Go.RowKit Go.Lib

/-- The slice value v owns the bytes b. -/
def Br (w : World) (base : Nat) (e : TypeId) (v : Value) (b : ByteArray) : Prop := w.ownsRow base e 1 v b.size (strCells b)
theorem Br.nil (w : World) (base : Nat) (e : TypeId) : Br w base e (.slice none 0 0) ⟨#[]⟩ := World.ownsRow_nil w base e 1
theorem Br.below {w w' : World} {base : Nat} {e : TypeId} {v : Value} {b : ByteArray} (h : Br w base e v b) (hb : Below w.heap.size w w') : Br w' base e v b := by
  refine ⟨h.1, ?_⟩
  rcases h.2 with hn | ⟨g, cap, cur, rfl, h2, h3, rest⟩
  · exact .inl hn
  · exact .inr ⟨g, cap, cur, rfl, h2, zlQ h3 hb, rest⟩
theorem Br.lt {w : World} {base : Nat} {e : TypeId} {v : Value} {b : ByteArray} (h : Br w base e v b) : ∀ k, v.ownBlock = some k → base ≤ k ∧ k < w.heap.size := World.ownsRow.lt h
theorem Br.conv {P : Program} {w : World} {base : Nat} {el : TypeId} {v : Value} {b : ByteArray} (h : Br w base el v b) (src dst e : TypeId) (hs : P.underlying src = some (.slice e)) (he : P.underlying e = some (.int .u8)) (hd : P.underlying dst = some .string) :
    (convert src dst v).run P w = .ok (.string b) w := by
  rcases h.2 with ⟨rfl, h2⟩ | ⟨g, cap, cur, rfl, _, _, _⟩
  · have hb : b = ⟨#[]⟩ := by
      apply ByteArray.ext; exact Array.eq_empty_of_size_eq_zero h2
    rw [hb]; exact run_convert_nil_bytes w src dst e 0 hs he hd
  · have hl : b.data.toList.length = b.size := by rw [Array.length_toList]; rfl
    have := run_convert_bytes_back (P := P) w src dst e ⟨g, 0, none⟩ cap b.data.toList hs he hd (fun j hj => by
      refine World.ownsRow.cells h rfl j _ ?_
      unfold strCells; rw [List.getElem?_map, List.getElem?_eq_getElem hj]; rfl)
    rw [hl] at this
    rw [this]

end Go.Proofs.YtgfkogafkhbgnaaDoor
namespace Go.Proofs.YtgfkogafkhbgnaaDoor
open Go.RowKit Go.Lib Go.Shelf
attribute [local go_sem] Oper.semAt_some
set_option linter.unusedVariables false
set_option linter.unusedSimpArgs false

theorem zoN : (Tryd.prog.info? 5).map (fun i => (i.zero, i.size, i.bytes)) = some (some (.int .u8 0), 1, 1) := by kernel_rfl
theorem zoO : ∃ j, Tryd.prog.info? 106 = some j ∧ j.size ≠ 0 := by
  have h : (Tryd.prog.info? 106).map (fun j => decide (j.size ≠ 0)) = some true := by kernel_rfl
  cases hj : Tryd.prog.info? 106 with
  | none => rw [hj] at h; simp at h
  | some j => rw [hj] at h; exact ⟨j, rfl, by simpa using h⟩

theorem zmw (b : Nat) (v : Value) (w : World) (h : w.heap[b]? = some (.cells #[.pointer none, v] 106 (0, 0))) :
    Calls Tryd.prog 79 #[.pointer (some ⟨b, 0, none⟩)] w fun e w' => e = .returned (.tuple #[]) ∧ w' = w.setCell ⟨b, 0, none⟩ (.pointer (some ⟨b, 0, none⟩)) := by
  have c0 : w.cell? ⟨b, 0, none⟩ = some (.pointer none) := zen h rfl
  have f0 := zjN h 0
  have hsh : w.shape? b = some (106, 2) := by simp [World.shape?, h]
  obtain ⟨j, hj, hjs⟩ := zoO
  clear h
  go_enter Tryd.func79, Tryd.ntmps79
  go_wp2
  rw [Lib.run_to_unsafe w ⟨b, 0, none⟩ (t := 106) (by kernel_rfl) (by kernel_rfl) hj hjs hsh (Nat.zero_lt_succ 1)]
  simp only [Result.andThen]
  rw [Oper.upon_value]
  go_wp2
  rw [run_callFunc_extern Tryd.func97 (by kernel_rfl) (by kernel_rfl) (by kernel_rfl) (e := Extern.AbiNoEscape.same) (by kernel_rfl)]
  rw [Lib.run_noEscape]
  simp only [Result.andThen]
  rw [Oper.upon_value]
  go_wp2
  rw [Lib.run_from_unsafe w ⟨b, 0, none⟩ (u := 106) (by kernel_rfl) (by kernel_rfl) hj hsh (by kernel_rfl)]
  simp only [Result.andThen]
  rw [Oper.upon_value]
  go_wp2
  go_end0
  exact ⟨rfl, rfl⟩
theorem zlA (b : Nat) (v : Value) (w : World) (h : w.heap[b]? = some (.cells #[.pointer (some ⟨b, 0, none⟩), v] 106 (0, 0))) :
    Calls Tryd.prog 79 #[.pointer (some ⟨b, 0, none⟩)] w fun e w' => e = .returned (.tuple #[]) ∧ w' = w := by
  have c0 : w.cell? ⟨b, 0, none⟩ = some (.pointer (some ⟨b, 0, none⟩)) := zen h rfl
  obtain ⟨j, hj, hjs⟩ := zoO
  clear h
  go_enter Tryd.func79, Tryd.ntmps79
  go_wp2
  rw [Lib.run_neq_ptr_same w _ (te := 106) (by kernel_rfl) hj]
  go_wp2
  go_end0
  exact ⟨rfl, rfl⟩

/-- A builder in block b that holds the bytes bs; C: its blocks. -/
def Bld (b : Nat) (bs : ByteArray) (C : Nat → Prop) (w : World) : Prop :=
  ∃ p v D, w.heap[b]? = some (.cells #[p, v] 106 (0, 0)) ∧ (p = .pointer none ∨ p = .pointer (some ⟨b, 0, none⟩)) ∧ Byt 5 v bs D w ∧ ¬ D b ∧ C = (fun k => k = b ∨ D k)
theorem Bld.local {b : Nat} {bs : ByteArray} {C : Nat → Prop} {w w' : World} (h : Bld b bs C w) (hk : ∀ k, C k → w'.heap[k]? = w.heap[k]?) : Bld b bs C w' := by
  obtain ⟨p, v, D, h1, h2, h3, h4, rfl⟩ := h
  exact ⟨p, v, D, (hk b (.inl rfl)).trans h1, h2, h3.local (fun k h => hk k (.inr h)), h4, rfl⟩
theorem Bld.lt {b : Nat} {bs : ByteArray} {C : Nat → Prop} {w : World} (h : Bld b bs C w) : ∀ k, C k → k < w.heap.size := by
  obtain ⟨p, v, D, h1, h2, h3, h4, rfl⟩ := h
  rintro k (rfl | hk)
  · exact zb2 h1
  · exact h3.lt k hk
theorem Bld.ext {b : Nat} {bs : ByteArray} {C D D' : Nat → Prop} {w w' : World} (h : Bld b bs C w) (hx : Ext D D' w w') (hd : ∀ k, C k → ¬ D k) : Bld b bs C w' :=
  h.local (fun k hk => hx.1.keep k (h.lt k hk) (hd k hk))
theorem zht (b : Nat) (bs s : ByteArray) (C : Nat → Prop) (w : World) (h : Bld b bs C w) (hn : bs.size + s.size ≤ 140737488355328) :
    Calls Tryd.prog 55 #[.pointer (some ⟨b, 0, none⟩), .string s] w fun e w' => (∃ u, e = .returned u) ∧ ∃ C', Bld b (bs ++ s) C' w' ∧ Ext C C' w w' := by
  obtain ⟨p, v, D, hbk, hp, hbr, hne, rfl⟩ := h
  obtain ⟨ip, hpi, hpz, hps, hpb⟩ := info_parts zoN
  obtain ⟨w1, hck, hb1, hbr1, hx1⟩ : ∃ w1, (Calls Tryd.prog 79 #[.pointer (some ⟨b, 0, none⟩)] w fun e w' => e = .returned (.tuple #[]) ∧ w' = w1) ∧
      w1.heap[b]? = some (.cells #[.pointer (some ⟨b, 0, none⟩), v] 106 (0, 0)) ∧ Byt 5 v bs D w1 ∧ Ext (fun k => k = b ∨ D k) (fun k => k = b ∨ D k) w w1 := by
    rcases hp with rfl | rfl
    · have hx : Ext (fun k => k = b) (fun k => k = b) w (w.setCell ⟨b, 0, none⟩ (.pointer (some ⟨b, 0, none⟩))) := Ext.setCell (C' := fun k => k = b) (Ext.refl _ _) (p := ⟨b, 0, none⟩) rfl _
      refine ⟨_, zmw b v w hbk, ?_, hbr.ext hx (by rintro k hk rfl; exact hne hk), Ext.setCell (C' := fun k => k = b ∨ D k) (Ext.refl _ _) (p := ⟨b, 0, none⟩) (.inl rfl) _⟩
      simp [World.setCell, Array.getElem?_modify, hbk]
    · exact ⟨w, zlA b v w hbk, hbk, hbr, Ext.refl _ _⟩
  have c1 : w1.cell? ⟨b, 1, none⟩ = some v := zen hb1 rfl
  have hlt : b < w1.heap.size := zb2 hb1
  have Hbk := Lib.hid hbk; have Hbr := Lib.hid hbr; have Hx1 := Lib.hid hx1
  clear hbk hbr hx1
  go_enter Tryd.func55, Tryd.ntmps55
  go_wp2_with (first | (go_at_call 79; refine hck.mono ?_; rintro e w' ⟨rfl, rfl⟩) | (refine zgJ _ rfl _ _ _ _ rfl 5 _ (by kernel_rfl) (by kernel_rfl) hpi hpz hps hpb _ _ _ rfl hbr1 _ rfl hn ?_))
  rintro v' w2 D' hr2 hx2
  have hb2 : w2.heap[b]? = some (.cells #[.pointer (some ⟨b, 0, none⟩), v] 106 (0, 0)) := (hx2.1.keep b hlt hne).trans hb1
  have f1 := zjN hb2 1
  have d1 : w2.cell? ⟨b, 1, none⟩ = some v := zen hb2 rfl
  have hne' : ¬ D' b := hx2.not hlt hne
  obtain ⟨ao, n', cap', rfl⟩ : ∃ ao n' cap', v' = .slice ao n' cap' := by
    rcases hr2.shape with ⟨rfl, _⟩ | ⟨g, cap, cur, rfl, _⟩ <;> exact ⟨_, _, _, rfl⟩
  have Hr2 := Lib.hid hr2; have Hx2 := Lib.hid hx2; have Hb2 := Lib.hid hb2
  clear hr2 hx2 hb2
  go_wp2
  go_ret2
  have hx3 : Ext (fun k => k = b ∨ D' k) (fun k => k = b ∨ D' k) w2 (w2.setCell ⟨b, 1, none⟩ (.slice ao n' cap')) := Ext.setCell (C' := fun k => k = b ∨ D' k) (Ext.refl _ _) (p := ⟨b, 1, none⟩) (.inl rfl) _
  have hx3' : Ext (fun k => k = b) (fun k => k = b) w2 (w2.setCell ⟨b, 1, none⟩ (.slice ao n' cap')) := Ext.setCell (C' := fun k => k = b) (Ext.refl _ _) (p := ⟨b, 1, none⟩) rfl _
  refine ⟨⟨_, rfl⟩, fun k => k = b ∨ D' k, ⟨_, _, D', ?_, .inr rfl, Hr2.out.ext hx3' (by rintro k hk rfl; exact hne' hk), hne', rfl⟩, ?_⟩
  · simp [World.setCell, Array.getElem?_modify, Hb2.out]
  · refine (Hx1.out.trans ?_).trans hx3
    exact ⟨Hx2.out.1.weaken (fun k _ h => .inr h), fun k hk => by
      rcases hk with rfl | hk
      · exact .inl (.inl rfl)
      · exact (Hx2.out.2 k hk).imp .inr id⟩

/-- The string of a builder. -/
theorem zls {C C' : Nat → Prop} {a w : World} (h : Ext C C' a w) {g : Nat} (hg : C' g) (m : Nat) : Ext C C' a (w.freeze ⟨g, 0, none⟩ m) := by
  unfold World.freeze
  split
  · exact h
  · have hs : ∀ f : Obj → Obj, ({ w with heap := w.heap.modify g f } : World).heap.size = w.heap.size := fun f => by simp
    refine ⟨⟨h.1.os, h.1.tape, h.1.output, by simpa using h.1.size, fun k hk hn => ?_⟩, fun k hk => by simpa using h.2 k hk⟩
    rw [Array.getElem?_modify]
    rw [if_neg]
    · exact h.1.keep k hk hn
    · intro e
      have e' : g = k := e
      subst e'
      rcases h.2 _ hg with h' | h'
      · exact hn h'
      · omega

theorem zkx (b : Nat) (bs : ByteArray) (C : Nat → Prop) (w : World) (h : Bld b bs C w) :
    Calls Tryd.prog 57 #[.pointer (some ⟨b, 0, none⟩)] w fun e w' => e = .returned (.string bs) ∧ Ext C C w w' := by
  obtain ⟨p, v, D, hbk, hp, hbr, hne, rfl⟩ := h
  rcases hbr.shape with ⟨rfl, rfl, rfl⟩ | ⟨g, cap, cur, rfl, hgl, hbc, hcm, rfl, hg⟩
  · have c1 : w.drew.cell? ⟨b, 1, none⟩ = some (.slice none 0 0) := zen (w := w.drew) hbk rfl
    have hSD : (Builtin.unsafeSliceData_ #[104] 139 #[.slice none 0 0]).run Tryd.prog w.drew = .ok (.pointer none) w.drew := rfl
    have hUS : ∀ W q, (Builtin.unsafeString_ #[139, 3] 9 #[.pointer q, .int .i64 0]).run Tryd.prog W = .ok (.string .empty) W := fun W q => Lib.run_unsafeString_none W _ _ _ q
    clear hbk hbr
    go_enter Tryd.func57, Tryd.ntmps57
    go_wp2
    go_region
    all_goals (go_wp2; go_ret; exact ⟨rfl, (Ext.refl _ _).drew⟩)
  · by_cases h0 : bs.size = 0
    · have hbs : bs = ⟨#[]⟩ := by apply ByteArray.ext; exact Array.eq_empty_of_size_eq_zero h0
      subst hbs
      have h00 : (⟨#[]⟩ : ByteArray).size = 0 := rfl
      rw [h00] at hbk hbr
      have hUS : ∀ W q, (Builtin.unsafeString_ #[139, 3] 9 #[.pointer q, .int .i64 0]).run Tryd.prog W = .ok (.string .empty) W := fun W q => Lib.run_unsafeString_none W _ _ _ q
      have c1 : w.drew.cell? ⟨b, 1, none⟩ = some (.slice (some ⟨g, 0, none⟩) 0 cap) := zen (w := w.drew) hbk rfl
      by_cases hc0 : cap = 0
      · subst hc0
        have hSD : (Builtin.unsafeSliceData_ #[104] 139 #[.slice (some ⟨g, 0, none⟩) 0 0]).run Tryd.prog w.drew = .ok (.pointer (some ⟨w.drew.heap.size, 0, none⟩)) (w.drew.alloc (.view ⟨g, 0, none⟩ 5)) :=
          Lib.run_unsafeSliceData_zero w.drew _ _ 5 (by kernel_rfl) ⟨g, 0, none⟩ 0 (5, cur.size) (by have hg' : w.drew.heap[g]? = some (.cells cur 5 (0, 0)) := hg; simp [World.shape?, hg'])
        have hlt := zb2 hbk
        have c2 : (w.drew.alloc (.view ⟨g, 0, none⟩ 5)).cell? ⟨b, 1, none⟩ = some (.slice (some ⟨g, 0, none⟩) 0 0) := zen (w := w.drew.alloc _) ((Below.heap_alloc w.drew _ b hlt).trans hbk) rfl
        have c3 : (w.alloc (.view ⟨g, 0, none⟩ 5)).drew.cell? ⟨b, 1, none⟩ = some (.slice (some ⟨g, 0, none⟩) 0 0) := c2
        have c0 : w.cell? ⟨b, 1, none⟩ = some (.slice (some ⟨g, 0, none⟩) 0 0) := c1
        clear hbk hbr hg
        go_enter Tryd.func57, Tryd.ntmps57
        go_wp2
        go_region
        all_goals (go_wp2; go_ret; exact ⟨rfl, (Ext.refl _ _).drew.alloc _⟩)
      · have hSD : (Builtin.unsafeSliceData_ #[104] 139 #[.slice (some ⟨g, 0, none⟩) 0 cap]).run Tryd.prog w.drew = .ok (.pointer (some ⟨g, 0, none⟩)) w.drew := Lib.run_unsafeSliceData_row _ _ _ _ _ _ hc0
        clear hbk hbr hg hc0
        go_enter Tryd.func57, Tryd.ntmps57
        go_wp2
        go_region
        all_goals (go_wp2; go_ret; exact ⟨rfl, (Ext.refl _ _).drew⟩)
    · obtain ⟨l, hl⟩ : ∃ l, l = bs.data.toList := ⟨_, rfl⟩
      have hll : l.length = bs.size := by rw [hl, Array.length_toList]; rfl
      have hbs : bs = ⟨l.toArray⟩ := by rw [hl]
      have hl0 : l ≠ [] := by intro e; rw [e] at hll; exact h0 hll.symm
      rw [← hll] at hbk hbc hbr
      have c1 : w.drew.cell? ⟨b, 1, none⟩ = some (.slice (some ⟨g, 0, none⟩) l.length cap) := zen (w := w.drew) hbk rfl
      have hSD : (Builtin.unsafeSliceData_ #[104] 139 #[.slice (some ⟨g, 0, none⟩) l.length cap]).run Tryd.prog w.drew = .ok (.pointer (some ⟨g, 0, none⟩)) w.drew :=
        Lib.run_unsafeSliceData_row _ _ _ _ _ _ (by omega)
      have hcs : cur.size = cap * 1 := by
        rcases hbr.1.2 with ⟨h1, _⟩ | ⟨g', cap', cur', h1, _, h3, _, _, h6, _⟩
        · cases h1
        · have e1 : g = g' := by injection h1 with q1 q2 q3; injection q1 with q1; injection q1
          have e2 : cap = cap' := by injection h1
          subst e1; subst e2
          rw [hg] at h3; injection h3 with h3; injection h3 with h3
          rw [h3]; exact h6
      have hUS : (Builtin.unsafeString_ #[139, 3] 9 #[.pointer (some ⟨g, 0, none⟩), .int .i64 l.length]).run Tryd.prog w.drew = .ok (.string ⟨l.toArray⟩) (w.drew.freeze ⟨g, 0, none⟩ l.length) := by
        refine Lib.run_unsafeString_row w.drew 139 3 9 5 (by kernel_rfl) (by kernel_rfl) g cur.size (by have hg' : w.drew.heap[g]? = some (.cells cur 5 (0, 0)) := hg; simp [World.shape?, hg']) l hl0 (by omega) (by unfold maxLen at hcm; omega) ?_
        intro j x hx
        refine World.ownsRow.cells hbr.1 (g := g) rfl j (.int .u8 x.toNat) ?_
        unfold strCells
        rw [List.getElem?_map, ← hl, hx]; rfl
      rw [hbs]
      have hx : Ext (fun k => k = b ∨ k = g) (fun k => k = b ∨ k = g) w (w.drew.freeze ⟨g, 0, none⟩ l.length) := zls ((Ext.refl _ _).drew) (.inr rfl) _
      have Hx := Lib.hid hx
      clear hbk hbr hg hx hbs hll hcs
      clear hl
      go_enter Tryd.func57, Tryd.ntmps57
      go_wp2
      go_region
      all_goals (go_wp2; go_ret; exact ⟨rfl, Hx.out⟩)

end Go.Proofs.YtgfkogafkhbgnaaDoor
namespace Go.Proofs.YtgfkogafkhbgnaaDoor
open Go.RowKit Go.Lib Go.Shelf
attribute [local go_sem] Oper.semAt_some
set_option linter.unusedVariables false
set_option linter.unusedSimpArgs false
theorem Bld.drew {b : Nat} {bs : ByteArray} {C : Nat → Prop} {w : World} (h : Bld b bs C w) : Bld b bs C w.drew := h.local (fun _ _ => rfl)
/-! ### As contracts -/
def zhY (b : Nat) (bs : ByteArray) : Asn := ⟨fun C w => Bld b bs C w, fun h => h.lt, fun h _ hk => h.local hk⟩
theorem ziL (b : Nat) (bs s : ByteArray) (hn : bs.size + s.size ≤ 140737488355328) : Fn Tryd.prog 55 [.pointer (some ⟨b, 0, none⟩), .string s] [zhY b bs] (fun u : Value => u) (fun _ => [zhY b (bs ++ s)]) := by
  intro w C hA
  refine (zht b bs s C w (sepL.one1.1 hA) hn).mono ?_
  rintro e w' ⟨⟨u, rfl⟩, C', h1, h2⟩
  exact ⟨u, rfl, C', sepL.one1.2 h1, h2⟩
theorem znW (b : Nat) (bs : ByteArray) : Fn Tryd.prog 57 [.pointer (some ⟨b, 0, none⟩)] [zhY b bs] (fun _ : Unit => .string bs) (fun _ => []) := by
  intro w C hA
  refine (zkx b bs C w (sepL.one1.1 hA)).mono ?_
  rintro e w' ⟨rfl, h2⟩
  exact ⟨(), rfl, fun _ => False, fun _ h => h, h2.1, fun k hk => hk.elim⟩
theorem zlE {b : Nat} : Ent (cells b [.pointer none, .slice none 0 0] 106) (zhY b ⟨#[]⟩) := by
  intro C w h
  have hC : C = fun k => k = b := funext fun k => propext (h.1 k)
  subst hC
  exact ⟨_, _, _, h.2, .inl rfl, Byt.nil, by simp, by funext k; simp⟩
end Go.Proofs.YtgfkogafkhbgnaaDoor
namespace Go.Proofs.YtgfkogafkhbgnaaDoor
open Go.RowKit Go.Lib Go.Shelf
set_option linter.unusedVariables false
set_option linter.unusedSimpArgs false
theorem znb (b : Nat) (bs : ByteArray) (C : Nat → Prop) (w : World) (h : Bld b bs C w) :
    Calls Tryd.prog 56 #[.pointer (some ⟨b, 0, none⟩)] w fun e w' => e = .returned (.int .i64 (bs.size : Int)) ∧ w = w' := by
  obtain ⟨p, v, D, hbk, hp, hbr, hne, rfl⟩ := h
  rcases hbr.shape with ⟨rfl, rfl, rfl⟩ | ⟨g, cap, cur, rfl, hgl, hbc, hcm, rfl, hg⟩
  · have c1 : w.cell? ⟨b, 1, none⟩ = some (.slice none 0 0) := zen hbk rfl
    clear hbk hbr
    go_enter Tryd.func56, Tryd.ntmps56
    go_wp2
    go_ret
    exact ⟨rfl, rfl⟩
  · have c1 : w.cell? ⟨b, 1, none⟩ = some (.slice (some ⟨g, 0, none⟩) bs.size cap) := zen hbk rfl
    clear hbk hbr
    go_enter Tryd.func56, Tryd.ntmps56
    go_wp2
    go_ret
    exact ⟨rfl, rfl⟩
theorem znX (b : Nat) (bs : ByteArray) : Fn Tryd.prog 56 [.pointer (some ⟨b, 0, none⟩)] [zhY b bs] (fun _ : Unit => .int .i64 (bs.size : Int)) (fun _ => [zhY b bs]) := by
  intro w C hA
  refine (znb b bs C w (sepL.one1.1 hA)).mono ?_
  rintro e w' ⟨rfl, rfl⟩
  exact ⟨(), rfl, C, hA, Ext.refl _ _⟩
end Go.Proofs.YtgfkogafkhbgnaaDoor
namespace Go.Proofs.YtgfkogafkhbgnaaDoor
open Go.RowKit Go.Lib
set_option linter.unusedVariables false
set_option linter.unusedSimpArgs false
def zcw (j3 : ByteArray → Option ByteArray) (x5 : List ByteArray) (ag2 : ByteArray → Int → Option ByteArray) (b12 : ByteArray) (x8 : Int) : Option ByteArray :=
zaO (decide ((x8 : Int) < (x5.length : Int))) (
zaE (zdk x5 x8) fun (q2 : ByteArray) =>
grd (q2.size + (⟨#[10]⟩ : ByteArray).size ≤ 9223372036854775807) <|
grd (b12.size + (q2 ++ (⟨#[10]⟩ : ByteArray)).size ≤ 140737488355328) <|
grd (I64 (x8 + 1)) <|
ag2 (b12 ++ (q2 ++ (⟨#[10]⟩ : ByteArray))) (x8 + 1)
) (
j3 b12
)
def zbP (stanzas1 : List (List ByteArray)) (j2 : ByteArray → Option ByteArray) (ag1 : ByteArray → Int → Option ByteArray) (b7 : ByteArray) (x4 : Int) : Option ByteArray :=
zaO (decide ((x4 : Int) < (stanzas1.length : Int))) (
zbE (fun (j3 : ByteArray → Option ByteArray) =>
zaE (zdk stanzas1 x4) fun (x5 : List ByteArray) =>
zbE (fun (j4 : ByteArray → Option ByteArray) =>
zaO (decide ((0 : Int) < (b7.size : Int))) (
grd (b7.size + (⟨#[10]⟩ : ByteArray).size ≤ 140737488355328) <|
j4 (b7 ++ (⟨#[10]⟩ : ByteArray))
) (
j4 b7
)
) (fun (b9 : ByteArray) =>
za2 (fun _ _ => none) (zcw j3 x5) zbG b9 0
)
) (fun (b8 : ByteArray) =>
grd (I64 (x4 + 1)) <|
ag1 b8 (x4 + 1)
)
) (
j2 b7
)
def zcF (title1 : ByteArray) (stanzas1 : List (List ByteArray)) : Option ByteArray :=
zbE (fun (j1 : ByteArray → Option ByteArray) =>
zaO (!decide (title1 = (⟨#[]⟩ : ByteArray))) (
grd ((⟨#[35, 32]⟩ : ByteArray).size + title1.size ≤ 9223372036854775807) <|
grd (((⟨#[35, 32]⟩ : ByteArray) ++ title1).size + (⟨#[10]⟩ : ByteArray).size ≤ 9223372036854775807) <|
grd ((⟨#[]⟩ : ByteArray).size + (((⟨#[35, 32]⟩ : ByteArray) ++ title1) ++ (⟨#[10]⟩ : ByteArray)).size ≤ 140737488355328) <|
j1 ((⟨#[]⟩ : ByteArray) ++ (((⟨#[35, 32]⟩ : ByteArray) ++ title1) ++ (⟨#[10]⟩ : ByteArray)))
) (
zaO (decide ((0 : Int) < (stanzas1.length : Int))) (
zaE (zdk stanzas1 0) fun (x1 : List ByteArray) =>
zaE (zdk x1 0) fun (q1 : ByteArray) =>
zaE (zdK q1) fun (r1 : Bool) =>
zaO (r1) (
grd ((⟨#[35, 32]⟩ : ByteArray).size + title1.size ≤ 9223372036854775807) <|
grd (((⟨#[35, 32]⟩ : ByteArray) ++ title1).size + (⟨#[10]⟩ : ByteArray).size ≤ 9223372036854775807) <|
grd ((⟨#[]⟩ : ByteArray).size + (((⟨#[35, 32]⟩ : ByteArray) ++ title1) ++ (⟨#[10]⟩ : ByteArray)).size ≤ 140737488355328) <|
j1 ((⟨#[]⟩ : ByteArray) ++ (((⟨#[35, 32]⟩ : ByteArray) ++ title1) ++ (⟨#[10]⟩ : ByteArray)))
) (
j1 (⟨#[]⟩ : ByteArray)
)
) (
j1 (⟨#[]⟩ : ByteArray)
)
)
) (fun (b2 : ByteArray) =>
zbE (fun (j2 : ByteArray → Option ByteArray) =>
za2 (fun _ _ => none) (zbP stanzas1 j2) zbG b2 0
) (fun (b4 : ByteArray) =>
some b4
)
)
theorem zfN {title1 : ByteArray} {vvstanzas1 : Value} {vstanzas1 : Hd} {Zstanzas1 : List ((List ByteArray) × Hd)} {kstanzas1 : Nat} {zstanzas1 : List ((List ByteArray) × Hd)} {stanzas1 : List (List ByteArray)} (hwstanzas1 : Vw vvstanzas1 Zstanzas1 1 kstanzas1 vstanzas1.v zstanzas1) (hzstanzas1 : zstanzas1.map Prod.fst = stanzas1) {r : ByteArray} (h : zcF title1 stanzas1 = some r) : FnR Tryd.prog 60 [.string title1, vstanzas1.v] [roRow encN_T_string 1 vvstanzas1 kstanzas1 Zstanzas1, rdOwn nestR_T_string Zstanzas1] [] (fun _ : Unit => (.string r)) (fun _ => []) := by
 unfold zcF at h
 refine FnR.intro Tryd.func60 rfl Tryd.ntmps60 (by simp) ?_
 intro w0 K hrd
 obtain ⟨j1, hj1, h⟩ := zcc h
 refine zbf (β := ByteArray × Nat) 2 rfl (fun b => j1 b.1 = some r) (fun b => []) (fun b => [(1, vstanzas1.v), (5, zP b.2)]) (fun b => [zhY b.2 b.1]) (fun cut => ?_) ?_
 ·
  refine zak (zae (zai rfl dc rfl (zaj (zah (zak (zae ?_))))))
  refine zbv zoa rfl dc (fun b3 => ?_)
  show TO _ _ _ _ _ _ _ _ _ _ [cells b3 [.pointer none, .slice none 0 0] 106]
  refine znw (k := 0) rfl zlE ?_
  show TO _ _ _ _ _ _ _ _ _ _ [zhY b3 (⟨#[]⟩ : ByteArray)]
  refine zaj (zah (cut (zak (zae (zaf rfl dc rfl (zau rfl dc rfl rfl zcS (zaf rfl dc rfl ?_)))))))
  refine za3 (s := 12) rfl (fun hb1 => ?_) (fun hb1 => ?_)
  ·
   have h := zaT hb1 h
   refine zal rfl dc (zal rfl dc (zal rfl dc (zal rfl dc (zal rfl dc (zal rfl dc (zal rfl dc (zal rfl dc (zal rfl dc (zal rfl dc (zal rfl dc (zaA (b := true) rfl dc rfl rfl (zaj (zah ?_)))))))))))))
   refine zbn rfl (zae (zaf rfl dc rfl ?_))
   obtain ⟨hg1, h⟩ := zbW h
   refine zau rfl dc rfl rfl (zdN hg1) ?_
   obtain ⟨hg2, h⟩ := zbW h
   refine zau rfl dc rfl rfl (zdN hg2) ?_
   obtain ⟨hg3, h⟩ := zbW h
   refine zeq (vs := [zP b3, .string (((⟨#[35, 32]⟩ : ByteArray) ++ title1) ++ (⟨#[10]⟩ : ByteArray))]) rfl dc rfl rfl rfl zm5 (ziL b3 (⟨#[]⟩ : ByteArray) (((⟨#[35, 32]⟩ : ByteArray) ++ title1) ++ (⟨#[10]⟩ : ByteArray)) hg3) (zam [0] kr rfl) ?_
   rintro u1
   show TO _ _ _ _ _ _ _ _ _ _ [emp, zhY b3 ((⟨#[]⟩ : ByteArray) ++ (((⟨#[35, 32]⟩ : ByteArray) ++ title1) ++ (⟨#[10]⟩ : ByteArray)))]
   refine zaj ?_
   exact zaJ ((⟨#[]⟩ : ByteArray) ++ (((⟨#[35, 32]⟩ : ByteArray) ++ title1) ++ (⟨#[10]⟩ : ByteArray)), b3) h rfl (zab rfl (zab rfl (zay))) (zam [1] kr rfl)
  ·
   have h := zaU hb1 h
   refine zaf rfl dc rfl (zdm hzstanzas1 hwstanzas1 rfl dc rfl Tryd.underlying54 (zau rfl dc rfl rfl zdR (zaf rfl dc rfl ?_)))
   refine za3 (s := 16) rfl (fun hb2 => ?_) (fun hb2 => ?_)
   ·
    have h := zaT hb2 h
    refine zaf rfl dc rfl ?_
    obtain ⟨x1, hq1, h⟩ := zbN h
    obtain ⟨eh1, eq1⟩ := zd3 hzstanzas1 hq1
    have hrd : Rd _ _ [roRow encN_T_string 1 vvstanzas1 kstanzas1 Zstanzas1, rdOwn nestR_T_string Zstanzas1, zfp encS 1 eh1 x1] := hrd.openEl (i := 1) (z := (x1, eh1)) rfl (Vw.get hwstanzas1 eq1)
    obtain ⟨vv1, k1, L1, hV1, hrd⟩ := hrd.openSl (i := 2) rfl
    replace hrd : Rd _ _ [roRow encN_T_string 1 vvstanzas1 kstanzas1 Zstanzas1, rdOwn nestR_T_string Zstanzas1, zfp encS 1 eh1 x1, roRow encS 1 vv1 k1 L1] := hrd
    refine zbd hwstanzas1 eq1 Tryd.underlying54 zez rfl dc rfl rfl rfl (zbm (n := kstanzas1 + (0 : Int).toNat) (j := 0) (i := 0) (q := (x1, eh1)) hrd rfl (by omega) ze8 rfl dc rfl (Vw.get hwstanzas1 eq1) rfl rfl ?_)
    obtain ⟨q1, hq2, h⟩ := zbN h
    refine zbd hV1 hq2 Tryd.underlying48 zk9 rfl dc rfl rfl rfl (zbm (n := k1 + (0 : Int).toNat) (j := 0) (i := 3) (q := q1) hrd rfl (by omega) zgN rfl dc rfl (Vw.get hV1 hq2) rfl rfl ?_)
    obtain ⟨r1, hq3, h⟩ := zbN h
    refine zbs (v := .bool r1) (vs := [.string q1]) rfl dc rfl rfl rfl zoz (zf9 hq3) (zaA (b := true) rfl dc rfl rfl (zaA (b := false) rfl dc rfl rfl (zaj (zah ?_))))
    refine zaI rfl (fun hb3 => ?_) (fun hb3 => ?_)
    ·
     have h := zaT hb3 h
     refine zae (zaf rfl dc rfl ?_)
     obtain ⟨hg4, h⟩ := zbW h
     refine zau rfl dc rfl rfl (zdN hg4) ?_
     obtain ⟨hg5, h⟩ := zbW h
     refine zau rfl dc rfl rfl (zdN hg5) ?_
     obtain ⟨hg6, h⟩ := zbW h
     refine zeq (vs := [zP b3, .string (((⟨#[35, 32]⟩ : ByteArray) ++ title1) ++ (⟨#[10]⟩ : ByteArray))]) rfl dc rfl rfl rfl zm5 (ziL b3 (⟨#[]⟩ : ByteArray) (((⟨#[35, 32]⟩ : ByteArray) ++ title1) ++ (⟨#[10]⟩ : ByteArray)) hg6) (zam [0] kr rfl) ?_
     rintro u2
     show TO _ _ _ _ _ _ _ _ _ _ [emp, zhY b3 ((⟨#[]⟩ : ByteArray) ++ (((⟨#[35, 32]⟩ : ByteArray) ++ title1) ++ (⟨#[10]⟩ : ByteArray)))]
     refine zaj ?_
     exact zaJ ((⟨#[]⟩ : ByteArray) ++ (((⟨#[35, 32]⟩ : ByteArray) ++ title1) ++ (⟨#[10]⟩ : ByteArray)), b3) h rfl (zab rfl (zab rfl (zay))) (zam [1] kr rfl)
    ·
     have h := zaU hb3 h
     refine zaK ?_
     exact zaJ ((⟨#[]⟩ : ByteArray), b3) h rfl (zab rfl (zab rfl (zay))) (zam [0] kr rfl)
   ·
    have h := zaU hb2 h
    refine zal rfl dc (zal rfl dc (zal rfl dc (zal rfl dc (zal rfl dc (zal rfl dc (zaA (b := false) rfl dc rfl rfl (zaA (b := false) rfl dc rfl rfl (zaj (zah (zbj rfl (zaK ?_)))))))))))
    exact zaJ ((⟨#[]⟩ : ByteArray), b3) h rfl (zab rfl (zab rfl (zay))) (zam [0] kr rfl)
 ·
  rintro ⟨b2, b1⟩ h
  rw [hj1] at h
  show TC _ _ _ _ _ ([]) _ _ [(1, vstanzas1.v), (5, zP b1)] [zhY b1 b2]
  obtain ⟨j2, hj2, h⟩ := zcc h
  refine zbf (β := ByteArray) 0 rfl (fun b => j2 b = some r) (fun b => []) (fun b => [(5, zP b1)]) (fun b => [zhY b1 b]) (fun cut => ?_) ?_
  ·
   refine cut (zak (zae (zaf rfl dc rfl (zdm hzstanzas1 hwstanzas1 rfl dc rfl Tryd.underlying54 (zaf rfl dc rfl (zaj (zah (zaS ?_))))))))
   refine zbx (β := Nat × ByteArray × Int) (fun b => za2 (fun _ _ => none) (zbP stanzas1 j2) b.1 b.2.1 b.2.2 = some r) (fun b => []) (fun b => [(5, zP b1), (29, vstanzas1.v), (30, zI (stanzas1.length : Int)), (31, zI b.2.2)]) (fun b => [zhY b1 b.2.1]) (fun b => b.1) (zbG, b2, 0) h rfl (zab rfl (zab rfl (zab rfl (zab rfl (zay))))) (zam [0] kr rfl) ?_
   rintro ⟨n1, b7, x4⟩ h
   cases n1 with
   | zero => exact zdy h
   | succ n1 =>
    obtain ⟨ag1, hag1⟩ : ∃ ag, ag = za2 (fun _ _ => none) (zbP stanzas1 j2) n1 := ⟨_, rfl⟩
    have h : zbP stanzas1 j2 ag1 b7 x4 = some r := by rw [hag1]; exact h
    unfold zbP at h
    show TC _ _ _ _ _ ([]) _ _ [(5, zP b1), (29, vstanzas1.v), (30, zI (stanzas1.length : Int)), (31, zI x4)] [zhY b1 b7]
    refine zak (zae (zau rfl dc rfl rfl zbA (zaj (zah (zak ?_)))))
    refine zaI rfl (fun hb4 => ?_) (fun hb4 => ?_)
    ·
     have h := zaT hb4 h
     refine zaK (zah ?_)
     obtain ⟨j3, hj3, h⟩ := zcc h
     refine zbf (β := ByteArray) 0 rfl (fun b => j3 b = some r) (fun b => []) (fun b => [(5, zP b1), (29, vstanzas1.v), (30, zI (stanzas1.length : Int)), (31, zI x4)]) (fun b => [zhY b1 b]) (fun cut => ?_) ?_
     ·
      refine cut (zaS (zak (zae ?_)))
      obtain ⟨x5, hq4, h⟩ := zbN h
      obtain ⟨eh2, eq2⟩ := zd3 hzstanzas1 hq4
      have hrd : Rd _ _ [roRow encN_T_string 1 vvstanzas1 kstanzas1 Zstanzas1, rdOwn nestR_T_string Zstanzas1, zfp encS 1 eh2 x5] := hrd.openEl (i := 1) (z := (x5, eh2)) rfl (Vw.get hwstanzas1 eq2)
      obtain ⟨vv2, k2, L2, hV2, hrd⟩ := hrd.openSl (i := 2) rfl
      replace hrd : Rd _ _ [roRow encN_T_string 1 vvstanzas1 kstanzas1 Zstanzas1, rdOwn nestR_T_string Zstanzas1, zfp encS 1 eh2 x5, roRow encS 1 vv2 k2 L2] := hrd
      refine zbd hwstanzas1 eq2 Tryd.underlying54 zez rfl dc rfl rfl rfl (zbm (n := kstanzas1 + (x4 : Int).toNat) (j := 0) (i := 0) (q := (x5, eh2)) hrd rfl (by omega) ze8 rfl dc rfl (Vw.get hwstanzas1 eq2) rfl rfl (zai rfl dc rfl (zaj (zah ?_))))
      obtain ⟨j4, hj4, h⟩ := zcc h
      refine zbf (β := ByteArray) 0 rfl (fun b => j4 b = some r) (fun b => []) (fun b => [(5, zP b1), (7, eh2.v), (29, vstanzas1.v), (30, zI (stanzas1.length : Int)), (31, zI x4)]) (fun b => [zhY b1 b]) (fun cut => ?_) ?_
      ·
       refine cut (zak (zae (zne (v := zI (b7.size : Int)) (vs := [zP b1]) rfl dc rfl rfl rfl zpo (znX b1 b7) [0] kr rfl (zau rfl dc rfl rfl zdR (zaj (zah ?_))))))
       refine zaI rfl (fun hb5 => ?_) (fun hb5 => ?_)
       ·
        have h := zaT hb5 h
        refine zae ?_
        obtain ⟨hg7, h⟩ := zbW h
        refine zeq (vs := [zP b1, .string (⟨#[10]⟩ : ByteArray)]) rfl dc rfl rfl rfl zm5 (ziL b1 b7 (⟨#[10]⟩ : ByteArray) hg7) (zam [0] kr rfl) ?_
        rintro u3
        show TO _ _ _ _ _ _ _ _ _ _ [emp, zhY b1 (b7 ++ (⟨#[10]⟩ : ByteArray))]
        refine zaj ?_
        exact zaJ (b7 ++ (⟨#[10]⟩ : ByteArray)) h rfl (zab rfl (zab rfl (zab rfl (zab rfl (zab rfl (zay)))))) (zam [1] kr rfl)
       ·
        have h := zaU hb5 h
        refine zaK ?_
        exact zaJ b7 h rfl (zab rfl (zab rfl (zab rfl (zab rfl (zab rfl (zay)))))) (zam [0] kr rfl)
      ·
       rintro b9 h
       rw [hj4] at h
       show TC _ _ _ _ _ ([]) _ _ [(5, zP b1), (7, eh2.v), (29, vstanzas1.v), (30, zI (stanzas1.length : Int)), (31, zI x4)] [zhY b1 b9]
       refine zak (zae (zaf rfl dc rfl (zbt hV2 rfl dc rfl Tryd.underlying48 (zaf rfl dc rfl (zaj (zah (zaS ?_)))))))
       refine zbx (β := Nat × ByteArray × Int) (fun b => za2 (fun _ _ => none) (zcw j3 x5) b.1 b.2.1 b.2.2 = some r) (fun b => []) (fun b => [(5, zP b1), (29, vstanzas1.v), (30, zI (stanzas1.length : Int)), (31, zI x4), (38, eh2.v), (39, zI (x5.length : Int)), (40, zI b.2.2)]) (fun b => [zhY b1 b.2.1]) (fun b => b.1) (zbG, b9, 0) h rfl (zab rfl (zab rfl (zab rfl (zab rfl (zab rfl (zab rfl (zab rfl (zay)))))))) (zam [0] kr rfl) ?_
       rintro ⟨n2, b12, x8⟩ h
       cases n2 with
       | zero => exact zdy h
       | succ n2 =>
        obtain ⟨ag2, hag2⟩ : ∃ ag, ag = za2 (fun _ _ => none) (zcw j3 x5) n2 := ⟨_, rfl⟩
        have h : zcw j3 x5 ag2 b12 x8 = some r := by rw [hag2]; exact h
        unfold zcw at h
        show TC _ _ _ _ _ ([]) _ _ [(5, zP b1), (29, vstanzas1.v), (30, zI (stanzas1.length : Int)), (31, zI x4), (38, eh2.v), (39, zI (x5.length : Int)), (40, zI x8)] [zhY b1 b12]
        refine zak (zae (zau rfl dc rfl rfl zbA (zaj (zah (zak ?_)))))
        refine zaI rfl (fun hb6 => ?_) (fun hb6 => ?_)
        ·
         have h := zaT hb6 h
         refine zaK (zah (zak (zaS (zak (zae ?_)))))
         obtain ⟨q2, hq5, h⟩ := zbN h
         refine zbd hV2 hq5 Tryd.underlying48 zk9 rfl dc rfl rfl rfl (zbm (n := k2 + (x8 : Int).toNat) (j := 0) (i := 3) (q := q2) hrd rfl (by omega) zgN rfl dc rfl (Vw.get hV2 hq5) rfl rfl (zai rfl dc rfl (zaj (zah (zae (zaf rfl dc rfl ?_))))))
         obtain ⟨hg8, h⟩ := zbW h
         refine zau rfl dc rfl rfl (zdN hg8) ?_
         obtain ⟨hg9, h⟩ := zbW h
         refine zeq (vs := [zP b1, .string (q2 ++ (⟨#[10]⟩ : ByteArray))]) rfl dc rfl rfl rfl zm5 (ziL b1 b12 (q2 ++ (⟨#[10]⟩ : ByteArray)) hg9) (zam [0] kr rfl) ?_
         rintro u4
         show TO _ _ _ _ _ _ _ _ _ _ [emp, zhY b1 (b12 ++ (q2 ++ (⟨#[10]⟩ : ByteArray)))]
         refine zaj (zav (zah (zae ?_)))
         obtain ⟨hg10, h⟩ := zbW h
         refine zau rfl dc rfl rfl (za5 (r := x8 + 1) (IntWalk.i64_in _ hg10)) (zaf rfl dc rfl (zaj ?_))
         subst hag2
         exact za6 (n2, b12 ++ (q2 ++ (⟨#[10]⟩ : ByteArray)), x8 + 1) h (Nat.lt_succ_self _) rfl (zab rfl (zab rfl (zab rfl (zab rfl (zab rfl (zab rfl (zab rfl (zay)))))))) (zam [1] kr rfl)
        ·
         have h := zaU hb6 h
         refine zbl (zaC (zaC (zaN (zav ?_))))
         exact zaJ b12 h rfl (zab rfl (zab rfl (zab rfl (zab rfl (zay))))) (zam [0] kr rfl)
     ·
      rintro b8 h
      rw [hj3] at h
      show TC _ _ _ _ _ ([]) _ _ [(5, zP b1), (29, vstanzas1.v), (30, zI (stanzas1.length : Int)), (31, zI x4)] [zhY b1 b8]
      refine zae ?_
      obtain ⟨hg11, h⟩ := zbW h
      refine zau rfl dc rfl rfl (za5 (r := x4 + 1) (IntWalk.i64_in _ hg11)) (zaf rfl dc rfl (zaj ?_))
      subst hag1
      exact za6 (n1, b8, x4 + 1) h (Nat.lt_succ_self _) rfl (zab rfl (zab rfl (zab rfl (zab rfl (zay))))) (zam [0] kr rfl)
    ·
     have h := zaU hb4 h
     refine zbl (zaC (zaC (zaN ?_)))
     exact zaJ b7 h rfl (zab rfl (zay)) (zam [0] kr rfl)
  ·
   rintro b4 h
   rw [hj2] at h
   show TC _ _ _ _ _ ([]) _ _ [(5, zP b1)] [zhY b1 b4]
   refine zak (zae (zeq (vs := [zP b1]) rfl dc rfl rfl rfl zpn (znW b1 b4) (zam [0] kr rfl) ?_))
   rintro _
   show TO _ _ _ _ _ _ _ _ _ _ [emp]
   refine zai rfl dc rfl (zaj (zah (zaQ ?_)))
   cases h
   exact zaW (rs := [.tmp 4]) () (.inl rfl) Tryd.results60 (.cons (.tmp rfl) .nil) rfl Splits.nil
def zca (from1 : Int) (to1 : Int) (x1 : Int × Gapi_Verse) (ag1 : (List (List ByteArray)) → Int → Option (List (List ByteArray))) (out4 : List (List ByteArray)) (stanza3 : Int) : Option (List (List ByteArray)) :=
zaO (decide ((x1.1 : Int) < from1)) (
ag1 out4 stanza3
) (
zaO (decide ((to1 : Int) ≤ x1.1)) (
ag1 out4 stanza3
) (
zbE (fun (j2 : (List (List ByteArray)) → Int → Option (List (List ByteArray))) =>
zaO ((x1.2.Stanza : Int) != stanza3) (
grd (out4.length + 1 ≤ 2147483648) <|
j2 (out4 ++ [([] : List ByteArray)]) x1.2.Stanza
) (
j2 out4 stanza3
)
) (fun (out5 : List (List ByteArray)) (stanza4 : Int) =>
grd (I64 ((out5.length : Int) - 1)) <|
zaE (zdk out5 ((out5.length : Int) - 1)) fun (x2 : List ByteArray) =>
grd (0 ≤ x1.2.Indent ∧ x1.2.Indent ≤ 140737488355328) <|
grd ((zcm x1.2.Indent).size + x1.2.Text.size ≤ 9223372036854775807) <|
grd (x2.length + 1 ≤ 2147483648) <|
ag1 (out5.set ((out5.length : Int) - 1 : Int).toNat (x2 ++ [(zcm x1.2.Indent) ++ x1.2.Text])) stanza4
)
)
)
def zcA (p1 : Gpoem_Poem) (from1 : Int) (to1 : Int) : Option (List (List ByteArray)) :=
zbE (fun (j1 : (List (List ByteArray)) → Option (List (List ByteArray))) =>
zaE (zdT p1) fun (r1 : Unit) =>
zaE (zcz p1) fun (its1 : (List (Int × Gapi_Verse))) =>
zbE (fun (dn1 : (List (List ByteArray)) → Int → Option (List (List ByteArray))) =>
zeT dn1 (zca from1 to1) its1 ([] : List (List ByteArray)) (-1)
) (fun (out4 : List (List ByteArray)) (stanza3 : Int) =>
j1 out4
)
) (fun (out1 : List (List ByteArray)) =>
some out1
)
theorem zfd {bp1 : Nat} {p1 : Gpoem_Poem} {p1_h0 p1_h1 : Hd} {from1 : Int} {to1 : Int} {r : (List (List ByteArray))} (h : zcA p1 from1 to1 = some r) : FnR Tryd.prog 61 [zP bp1, zI from1, zI to1] [cells bp1 [.string p1.told_title, p1_h0.v, p1_h1.v, .string p1.source] 93, vec zar 36 6 p1_h0.v p1.told_lines, vec zaq 34 2 p1_h1.v p1.told_stanzas] [] (fun v0 : Value => v0) (fun v0 => [zcU encN_T_string zao 48 1 v0 r]) := by
 unfold zcA at h
 refine FnR.intro Tryd.func61 rfl Tryd.ntmps61 (by simp) ?_
 intro w0 K hrd
 refine zjj ?_
 show TC _ _ _ _ _ _ _ _ _ [zd7 ((([] : List Nat) : List Nat).map zet)]
 obtain ⟨j1, hj1, h⟩ := zcc h
 refine zbf (β := (List (List ByteArray)) × Nat × Hd × (List Nat)) 3 rfl (fun b => j1 b.1 = some r) (fun b => zda b.2.2.2) (fun b => [(7, zP b.2.1)]) (fun b => [cells b.2.1 [b.2.2.1.v] 54, zcU encN_T_string zao 48 1 b.2.2.1.v b.1, zd7 ((b.2.2.2 : List Nat).map zet)]) (fun cut => ?_) ?_
 ·
  refine zak (zae ?_)
  refine zfo rfl dc rfl (fun b2 => ?_)
  refine zfo rfl dc rfl (fun b3 => ?_)
  show TO _ _ _ _ _ _ _ _ _ _ [zd7 ((([] : List Nat) : List Nat).map zet), cells b2 [zI from1] 3, cells b3 [zI to1] 3]
  refine zai rfl dc rfl (zaj (zah (zak (zae ?_))))
  refine zbv zo5 rfl dc (fun b4 => ?_)
  refine zaj (zah (zak (zae ?_)))
  refine zbv zpO rfl dc (fun b5 => ?_)
  show TO _ _ _ _ _ _ _ _ _ _ [zd7 ((([] : List Nat) : List Nat).map zet), cells b2 [zI from1] 3, cells b3 [zI to1] 3, cells b4 [.slice none 0 0] 54, cells b5 [zI 0] 3]
  refine zbh (k := 4) (l' := [zI (-1)]) ziP rfl rfl rfl rfl rfl (fun _ _ => rfl) rfl ?_
  refine zaj (zah (cut (zak (zae (zaf rfl dc rfl ?_)))))
  obtain ⟨r1, hq1, h⟩ := zbN h
  refine zeK (vs := [zP bp1]) hrd rfl dc rfl rfl rfl zoG (zfg (bp1 := bp1) (p1 := p1) (p1_h0 := p1_h0) (p1_h1 := p1_h1) hq1) Splits.nil (.ro 0 rfl (.ro 1 rfl (.ro 2 rfl .nil))) ?_
  rintro b6
  show TO _ _ _ _ _ _ _ _ _ _ [zd7 ((([] : List Nat) : List Nat).map zet), cells b2 [zI from1] 3, cells b3 [zI to1] 3, cells b4 [.slice none 0 0] 54, cells b5 [zI (-1)] 3, cells b6 [zP bp1] 23]
  refine zb3 (L' := [zd7 ((([] : List Nat) : List Nat).map zet), cells b2 [zI from1] 3, cells b3 [zI to1] 3, cells b4 [.slice none 0 0] 54, cells b5 [zI (-1)] 3, cells b6 [zP bp1] 23]) (zam [0, 1, 2, 3, 4, 5] kr rfl) (zaj (zah (zaS ?_)))
  obtain ⟨its1, hq2, h⟩ := zbN h
  refine zkH (enc := encN_T_string) (nest := zao) (e := 48) (size := 1) ?_
  show TC _ _ _ _ _ _ _ _ _ [zd7 ((([] : List Nat) : List Nat).map zet), cells b2 [zI from1] 3, cells b3 [zI to1] 3, cells b4 [.slice none 0 0] 54, cells b5 [zI (-1)] 3, cells b6 [zP bp1] 23, zcU encN_T_string zao 48 1 (.slice none 0 0) ([] : List (List ByteArray))]
  obtain ⟨dn1, hdn1, h⟩ := zcc h
  refine zj8 (α := Int × Gapi_Verse) (β := (List (List ByteArray)) × Int × Hd) (γ := Unit) (δ := Nat) (ps := [14, 15]) hrd Ro.nil rfl zoy (zeF hq2) (fun pre b => ∀ post, its1 = pre ++ post → zeT dn1 (zca from1 to1) post b.1 b.2.1 = some r) (fun pre b => [cells b2 [zI from1] 3, cells b3 [zI to1] 3, cells b4 [b.2.2.v] 54, zcU encN_T_string zao 48 1 b.2.2.v b.1, cells b5 [zI b.2.1] 3]) (fun c pre g => False) (fun c pre g => []) (fun pre x b j => [(4, zP b2), (5, zP b3), (6, .slice none 0 0), (7, zP b4), (8, zP b5), (13, .func (.func 52) #[] #[zP b6]), (9, zI x.1), (10, zP j)]) (fun pre x b j => [cells b2 [zI from1] 3, cells b3 [zI to1] 3, cells b4 [b.2.2.v] 54, zcU encN_T_string zao 48 1 b.2.2.v b.1, cells b5 [zI b.2.1] 3, cells j [.string x.2.Text, zI x.2.Indent, zI x.2.Stanza, zI x.2.In, zI x.2.Span_From, zI x.2.Span_To] 36]) (([] : List (List ByteArray)), (-1), Hd.nil) (fun post e => by rw [List.nil_append] at e; subst e; exact h) (zam [1, 2, 3, 6, 4] kr rfl) (.own (As := [cells b6 [zP bp1] 23]) (zam [5] (by kernel_rfl) rfl) (fun _ _ h => sepL.one1.1 h) (.ro 0 rfl (.ro 1 rfl (.ro 2 rfl .nil)))) (fun _ => rfl) dc ?_ ?_ ?_ ?_
  ·
   rintro lp rc pre x1 post ⟨out4, stanza3, hd4⟩ w1 K1 hxs1 hext hro hinv
   have hrd := hrd.ext hext
   refine zak (zae (zai rfl dc rfl (zaj (zah (zae ?_)))))
   refine zbv zia rfl dc (fun b7 => ?_)
   refine za4 (k := 5) (vs := [.string x1.2.Text, zI x1.2.Indent, zI x1.2.Stanza, zI x1.2.In, zI x1.2.Span_From, zI x1.2.Span_To]) (l' := [.string x1.2.Text, zI x1.2.Indent, zI x1.2.Stanza, zI x1.2.In, zI x1.2.Span_From, zI x1.2.Span_To]) zfF rfl rfl rfl rfl rfl (show _ ≤ _ by simp) rfl rfl ?_
   show TO _ _ _ _ _ _ _ _ _ _ [cells b2 [zI from1] 3, cells b3 [zI to1] 3, cells b4 [hd4.v] 54, zcU encN_T_string zao 48 1 hd4.v out4, cells b5 [zI stanza3] 3, cells b7 [.string x1.2.Text, zI x1.2.Indent, zI x1.2.Stanza, zI x1.2.In, zI x1.2.Span_From, zI x1.2.Span_To] 36]
   refine zaj ?_
   exact fun a w ha hw => ⟨b7, (zab rfl (zab rfl (zab rfl (zab rfl (zab rfl (zab rfl (zab rfl (zab rfl (zay))))))))) _ _ _ ha, hw.weaken (zam [0, 1, 2, 3, 4, 5] kr rfl)⟩
  ·
   rintro lp rc pre x1 post1 ⟨out4, stanza3, hd4⟩ jb1 w1 K1 hxs1 hext hro hinv
   have hrd := hrd.ext hext
   have h := hinv (x1 :: post1) hxs1
   obtain ⟨ag1, hag1⟩ : ∃ ag, ag = zeT dn1 (zca from1 to1) post1 := ⟨_, rfl⟩
   have h : zca from1 to1 x1 ag1 out4 stanza3 = some r := by rw [hag1]; exact h
   unfold zca at h
   show TC _ _ _ _ _ _ _ _ [(4, zP b2), (5, zP b3), (6, .slice none 0 0), (7, zP b4), (8, zP b5), (13, .func (.func 52) #[] #[zP b6]), (9, zI x1.1), (10, zP jb1)] [cells b2 [zI from1] 3, cells b3 [zI to1] 3, cells b4 [hd4.v] 54, zcU encN_T_string zao 48 1 hd4.v out4, cells b5 [zI stanza3] 3, cells jb1 [.string x1.2.Text, zI x1.2.Indent, zI x1.2.Stanza, zI x1.2.In, zI x1.2.Span_From, zI x1.2.Span_To] 36]
   refine zaS (zak (zak (zae (zaf rfl dc rfl (zaM (k := 0) zeL rfl dc rfl rfl rfl (zau rfl dc rfl rfl zbA (zaf rfl dc rfl ?_)))))))
   refine za3 (s := 19) rfl (fun hb1 => ?_) (fun hb1 => ?_)
   ·
    have h := zaT hb1 h
    refine zal rfl dc (zal rfl dc (zal rfl dc (zaA (b := true) rfl dc rfl rfl (zaj (zah (zbn rfl (zbl (zaC (zaN ?_)))))))))
    exact zhs (out4, stanza3, hd4) (fun post2 e2 => by have e9 := zgo hxs1 e2; subst e9; subst hag1; exact h) (zam [0, 1, 2, 3, 4] kr rfl)
   ·
    have h := zaU hb1 h
    refine zaf rfl dc rfl (zaM (k := 1) zeL rfl dc rfl rfl rfl (zau rfl dc rfl rfl zeo (zaA (b := false) rfl dc rfl rfl (zaj (zah ?_)))))
    refine zaI rfl (fun hb2 => ?_) (fun hb2 => ?_)
    ·
     have h := zaT hb2 h
     refine zbl (zaC (zaN ?_))
     exact zhs (out4, stanza3, hd4) (fun post2 e2 => by have e9 := zgo hxs1 e2; subst e9; subst hag1; exact h) (zam [0, 1, 2, 3, 4] kr rfl)
    ·
     have h := zaU hb2 h
     refine zaK (zah ?_)
     obtain ⟨j2, hj2, h⟩ := zcc h
     refine zbf (β := (List (List ByteArray)) × Int × Hd) 0 rfl (fun b => j2 b.1 b.2.1 = some r) (fun b => []) (fun b => [(4, zP b2), (5, zP b3), (6, .slice none 0 0), (7, zP b4), (8, zP b5), (10, zP jb1), (13, .func (.func 52) #[] #[zP b6])]) (fun b => [cells b2 [zI from1] 3, cells b3 [zI to1] 3, cells b4 [b.2.2.v] 54, zcU encN_T_string zao 48 1 b.2.2.v b.1, cells b5 [zI b.2.1] 3, cells jb1 [.string x1.2.Text, zI x1.2.Indent, zI x1.2.Stanza, zI x1.2.In, zI x1.2.Span_From, zI x1.2.Span_To] 36]) (fun cut => ?_) ?_
     ·
      refine cut (zak (zae (zan zhT rfl dc rfl (show _ = 2 from rfl) (zaM (k := 5) zeL rfl dc rfl rfl rfl (zaM (k := 4) zeL rfl dc rfl rfl rfl (zau rfl dc rfl rfl zbu (zaj (zah ?_))))))))
      refine zaI rfl (fun hb3 => ?_) (fun hb3 => ?_)
      ·
       have h := zaT hb3 h
       refine zak (zae (zaM (k := 2) ze1 rfl dc rfl rfl rfl ?_))
       refine zbb (cs := [.slice none 0 0]) (te := 48) (ps := [(0, .const (.slice none 0 0))]) rfl dc rfl (fun _ => by kernel_rfl) (fun b8 => ?_)
       refine zh2 (enc := encS) (e := 9) (size := 1) ?_
       show TO _ _ _ _ _ _ _ _ _ _ [cells b2 [zI from1] 3, cells b3 [zI to1] 3, cells b4 [hd4.v] 54, zcU encN_T_string zao 48 1 hd4.v out4, cells b5 [zI stanza3] 3, cells jb1 [.string x1.2.Text, zI x1.2.Indent, zI x1.2.Stanza, zI x1.2.In, zI x1.2.Span_From, zI x1.2.Span_To] 36, cells b8 [.slice none 0 0] 48, vec encS 9 1 (.slice none 0 0) ([] : List ByteArray)]
       refine zf2 (k := 3) rfl zjC (fun zs1 hz1 => ?_)
       show TO _ _ _ _ _ _ _ _ _ _ [cells b2 [zI from1] 3, cells b3 [zI to1] 3, cells b4 [hd4.v] 54, vec encN_T_string 48 1 hd4.v zs1, cells b5 [zI stanza3] 3, cells jb1 [.string x1.2.Text, zI x1.2.Indent, zI x1.2.Stanza, zI x1.2.In, zI x1.2.Span_From, zI x1.2.Span_To] 36, cells b8 [.slice none 0 0] 48, vec encS 9 1 (.slice none 0 0) ([] : List ByteArray), own zao zs1]
       obtain ⟨hg1, h⟩ := zbW h
       refine zbw (k := 3) (k2 := 6) (ys := [(([] : List ByteArray), Hd.nil)]) Tryd.underlying54 znS zba zem rfl dc rfl rfl rfl rfl rfl rfl (by rw [zob hz1]; exact hg1) (fun v1 => ?_)
       show TO _ _ _ _ _ _ _ _ _ _ [cells b2 [zI from1] 3, cells b3 [zI to1] 3, cells b4 [hd4.v] 54, vec encN_T_string 48 1 v1 (zs1 ++ [(([] : List ByteArray), Hd.nil)]), cells b5 [zI stanza3] 3, cells jb1 [.string x1.2.Text, zI x1.2.Indent, zI x1.2.Stanza, zI x1.2.In, zI x1.2.Span_From, zI x1.2.Span_To] 36, cells b8 [.slice none 0 0] 48, vec encS 9 1 (.slice none 0 0) ([] : List ByteArray), own zao zs1]
       refine zco (k := 3) rfl (fun hd6 he1 => ?_)
       subst he1
       refine zew (k := 8) rfl (zam [7] kr rfl) rfl (zl6 (nest := zao) (zs := zs1) (z := (([] : List ByteArray), Hd.nil))) ?_
       show TO _ _ _ _ _ _ _ _ _ _ [cells b2 [zI from1] 3, cells b3 [zI to1] 3, cells b4 [hd4.v] 54, vec encN_T_string 48 1 hd6.v (zs1 ++ [(([] : List ByteArray), Hd.nil)]), cells b5 [zI stanza3] 3, cells jb1 [.string x1.2.Text, zI x1.2.Indent, zI x1.2.Stanza, zI x1.2.In, zI x1.2.Span_From, zI x1.2.Span_To] 36, cells b8 [.slice none 0 0] 48, emp, own zao (zs1 ++ [(([] : List ByteArray), Hd.nil)])]
       refine zew (k := 3) rfl (zam [8] kr rfl) rfl (ziC (enc := encN_T_string) (nest := zao) (zo6 hz1)) ?_
       show TO _ _ _ _ _ _ _ _ _ _ [cells b2 [zI from1] 3, cells b3 [zI to1] 3, cells b4 [hd4.v] 54, zcU encN_T_string zao 48 1 hd6.v (out4 ++ [([] : List ByteArray)]), cells b5 [zI stanza3] 3, cells jb1 [.string x1.2.Text, zI x1.2.Indent, zI x1.2.Stanza, zI x1.2.In, zI x1.2.Span_From, zI x1.2.Span_To] 36, cells b8 [.slice none 0 0] 48, emp, emp]
       refine zb3 (L' := [cells b2 [zI from1] 3, cells b3 [zI to1] 3, cells b4 [hd4.v] 54, zcU encN_T_string zao 48 1 hd6.v (out4 ++ [([] : List ByteArray)]), cells b5 [zI stanza3] 3, cells jb1 [.string x1.2.Text, zI x1.2.Indent, zI x1.2.Stanza, zI x1.2.In, zI x1.2.Span_From, zI x1.2.Span_To] 36, cells b8 [.slice none 0 0] 48]) (zam [0, 1, 2, 3, 4, 5, 6] kr rfl) ?_
       refine zbh (k := 2) (l' := [hd6.v]) zof rfl rfl rfl rfl rfl (fun _ _ => rfl) rfl ?_
       show TO _ _ _ _ _ _ _ _ _ _ [cells b2 [zI from1] 3, cells b3 [zI to1] 3, cells b4 [hd6.v] 54, zcU encN_T_string zao 48 1 hd6.v (out4 ++ [([] : List ByteArray)]), cells b5 [zI stanza3] 3, cells jb1 [.string x1.2.Text, zI x1.2.Indent, zI x1.2.Stanza, zI x1.2.In, zI x1.2.Span_From, zI x1.2.Span_To] 36, cells b8 [.slice none 0 0] 48]
       refine zaj (zah (zae (zan zhT rfl dc rfl (show _ = 2 from rfl) (zaM (k := 5) zeL rfl dc rfl rfl rfl ?_))))
       refine zbh (k := 4) (l' := [zI x1.2.Stanza]) ziP rfl rfl rfl rfl rfl (fun _ _ => rfl) rfl ?_
       refine zaj ?_
       exact zaJ (out4 ++ [([] : List ByteArray)], x1.2.Stanza, hd6) h rfl (zab rfl (zab rfl (zab rfl (zab rfl (zab rfl (zab rfl (zab rfl (zay)))))))) (zam [0, 1, 2, 3, 4, 5] kr rfl)
      ·
       have h := zaU hb3 h
       refine zaK ?_
       exact zaJ (out4, stanza3, hd4) h rfl (zab rfl (zab rfl (zab rfl (zab rfl (zab rfl (zab rfl (zab rfl (zay)))))))) (zam [0, 1, 2, 3, 4, 5] kr rfl)
     ·
      rintro ⟨out5, stanza4, hd5⟩ h
      rw [hj2] at h
      show TC _ _ _ _ _ ([]) _ _ [(4, zP b2), (5, zP b3), (6, .slice none 0 0), (7, zP b4), (8, zP b5), (10, zP jb1), (13, .func (.func 52) #[] #[zP b6])] [cells b2 [zI from1] 3, cells b3 [zI to1] 3, cells b4 [hd5.v] 54, zcU encN_T_string zao 48 1 hd5.v out5, cells b5 [zI stanza4] 3, cells jb1 [.string x1.2.Text, zI x1.2.Indent, zI x1.2.Stanza, zI x1.2.In, zI x1.2.Span_From, zI x1.2.Span_To] 36]
      refine zak (zae (zaM (k := 2) ze1 rfl dc rfl rfl rfl (zg2 (k := 3) rfl dc rfl rfl Tryd.underlying54 ?_)))
      obtain ⟨hg2, h⟩ := zbW h
      refine zau rfl dc rfl rfl (zdI (r := (out5.length : Int) - 1) (IntWalk.i64_in _ hg2)) (zai rfl dc rfl (zaj (zah ?_)))
      refine zdO (k := 3) rfl zjC (fun zs2 hz2 => ?_)
      show TC _ _ _ _ _ _ _ _ _ [cells b2 [zI from1] 3, cells b3 [zI to1] 3, cells b4 [hd5.v] 54, vec encN_T_string 48 1 hd5.v zs2, cells b5 [zI stanza4] 3, cells jb1 [.string x1.2.Text, zI x1.2.Indent, zI x1.2.Stanza, zI x1.2.In, zI x1.2.Span_From, zI x1.2.Span_To] 36, own zao zs2]
      obtain ⟨x2, hq3, h⟩ := zbN h
      obtain ⟨eh1, eq1⟩ := zd3 hz2 hq3
      obtain ⟨hg3, h⟩ := zbW h
      obtain ⟨hg4, h⟩ := zbW h
      obtain ⟨hg5, h⟩ := zbW h
      refine zdO (k := 6) rfl (zli (zbz eq1)) (fun _ _ => ?_)
      show TC _ _ _ _ _ _ _ _ _ [cells b2 [zI from1] 3, cells b3 [zI to1] 3, cells b4 [hd5.v] 54, vec encN_T_string 48 1 hd5.v zs2, cells b5 [zI stanza4] 3, cells jb1 [.string x1.2.Text, zI x1.2.Indent, zI x1.2.Stanza, zI x1.2.In, zI x1.2.Span_From, zI x1.2.Span_To] 36, own zao (zs2.eraseIdx (((out5.length : Int) - 1 : Int).toNat)), vec encS 9 1 eh1.v x2]
      refine zh4 1 ?_
      show TC _ _ _ _ _ _ _ _ _ [cells b2 [zI from1] 3, cells b3 [zI to1] 3, cells b4 [hd5.v] 54, vec encN_T_string 48 1 hd5.v zs2, cells b5 [zI stanza4] 3, cells jb1 [.string x1.2.Text, zI x1.2.Indent, zI x1.2.Stanza, zI x1.2.In, zI x1.2.Span_From, zI x1.2.Span_To] 36, own zao (zs2.eraseIdx (((out5.length : Int) - 1 : Int).toNat)), vec encS 9 1 eh1.v x2, emp]
      refine let vals1 : (Nat × Hd) → List (Nat × Nat × Value) := fun b => [(0, 36, hd5.v), (1, 37, zI ((out5.length : Int) - 1)), (2, 38, hd5.v), (3, 39, zI ((out5.length : Int) - 1)), (4, 40, .pointer (some ⟨zeD hd5.v, ((out5.length : Int) - 1 : Int).toNat * 1, none⟩)), (5, 41, eh1.v), (6, 42, .pointer (some ⟨jb1, 1, none⟩)), (7, 43, zI x1.2.Indent), (8, 44, .string (zcm x1.2.Indent)), (9, 45, zP jb1), (10, 46, .string x1.2.Text), (11, 47, .string ((zcm x1.2.Indent) ++ x1.2.Text)), (12, 48, .slice (some ⟨b.1, 0, none⟩) 1 1), (13, 49, b.2.v)]; let LL1 : (Nat → Prop) → (Nat × Hd) → List Asn := fun D b => [cells b2 [zI from1] 3, cells b3 [zI to1] 3, cells b4 [hd5.v] 54, vec encN_T_string 48 1 hd5.v zs2, cells b5 [zI stanza4] 3, cells jb1 [.string x1.2.Text, zI x1.2.Indent, zI x1.2.Stanza, zI x1.2.In, zI x1.2.Span_From, zI x1.2.Span_To] 36, own zao (zs2.eraseIdx (((out5.length : Int) - 1 : Int).toNat)), eD D (vec encS 9 1 eh1.v x2) [(13, vec encS 9 1 b.2.v (x2 ++ [(zcm x1.2.Indent) ++ x1.2.Text]))], eD D emp [(12, cells b.1 [.string ((zcm x1.2.Indent) ++ x1.2.Text)] 9)]]; ?_
      refine zfB (β := Nat × Hd) 14 ((0 : Nat), Hd.nil) vals1 LL1 mixed kr kr dc (fun _ => rfl) (zaa rfl (zaa rfl (zaa rfl (zaa rfl (zaa rfl (zaa rfl (zaa rfl (zaa zdX (zaa zdX rfl))))))))) (zaH ?_ (zaH ?_ (zaH ?_ (zaH ?_ (zaH ?_ (zaH ?_ (zaH ?_ (zaH ?_ (zaH ?_ (zaH ?_ (zaH ?_ (zaH ?_ (zaH ?_ (zaH ?_ DrawG.nil)))))))))))))) ?_
      ·
       intro D b hn hd hcl
       obtain ⟨b9, hd7⟩ := b
       refine zaV rfl (zaM (k := 2) ze1 rfl dc (zaL (by rfl) rfl) rfl rfl ?_)
       exact zaX (b9, hd7) 0 (by rfl) (by rfl) rfl (congrArg (dl D) rfl) (zaa rfl (zaa rfl (zaa rfl (zaa rfl (zaa rfl (zaa rfl (zaa rfl (zaa ((zaG (by rfl)).trans rfl) (zaa ((zaG (by rfl)).trans rfl) rfl)))))))))
      ·
       intro D b hn hd hcl
       obtain ⟨b9, hd7⟩ := b
       refine zaV rfl (zaf rfl dc (zaL (by rfl) rfl) ?_)
       exact zaX (b9, hd7) 1 (by rfl) (by rfl) rfl (congrArg (dl D) rfl) (zaa rfl (zaa rfl (zaa rfl (zaa rfl (zaa rfl (zaa rfl (zaa rfl (zaa ((zaG (by rfl)).trans rfl) (zaa ((zaG (by rfl)).trans rfl) rfl)))))))))
      ·
       intro D b hn hd hcl
       obtain ⟨b9, hd7⟩ := b
       refine zaV (zaa rfl (zaa rfl (zaa rfl (zaa rfl (zaa rfl (zaa rfl (zaa rfl (zaa (zat (fun hD => hn (hcl 4 _ rfl (hcl 5 _ rfl (hcl 13 _ rfl hD 5 dc) 4 dc) 2 dc)) zaF) rfl)))))))) ?_
       refine zaM (k := 2) ze1 rfl dc (zaL (by rfl) rfl) rfl rfl ?_
       exact zaX (b9, hd7) 2 (by rfl) (by rfl) rfl (congrArg (dl D) rfl) (zaa rfl (zaa rfl (zaa rfl (zaa rfl (zaa rfl (zaa rfl (zaa rfl (zaa ((zaG (by rfl)).trans (zat (fun hD => hn (hcl 4 _ rfl (hcl 5 _ rfl (hcl 13 _ rfl hD 5 dc) 4 dc) 2 dc)) zaF)) (zaa ((zaG (by rfl)).trans rfl) rfl)))))))))
      ·
       intro D b hn hd hcl
       obtain ⟨b9, hd7⟩ := b
       refine zaV (zaa rfl (zaa rfl (zaa rfl (zaa rfl (zaa rfl (zaa rfl (zaa rfl (zaa (zat (fun hD => hn (hcl 4 _ rfl (hcl 5 _ rfl (hcl 13 _ rfl hD 5 dc) 4 dc) 3 dc)) zaF) rfl)))))))) ?_
       refine zaf rfl dc (zaL (by rfl) rfl) ?_
       exact zaX (b9, hd7) 3 (by rfl) (by rfl) rfl (congrArg (dl D) rfl) (zaa rfl (zaa rfl (zaa rfl (zaa rfl (zaa rfl (zaa rfl (zaa rfl (zaa ((zaG (by rfl)).trans (zat (fun hD => hn (hcl 4 _ rfl (hcl 5 _ rfl (hcl 13 _ rfl hD 5 dc) 4 dc) 3 dc)) zaF)) (zaa ((zaG (by rfl)).trans rfl) rfl)))))))))
      ·
       intro D b hn hd hcl
       obtain ⟨b9, hd7⟩ := b
       refine zaV (zaa rfl (zaa rfl (zaa rfl (zaa rfl (zaa rfl (zaa rfl (zaa rfl (zaa (zat (fun hD => hn (hcl 5 _ rfl (hcl 13 _ rfl hD 5 dc) 4 dc)) zaF) rfl)))))))) ?_
       refine zbK (k := 3) eq1 Tryd.underlying54 zez rfl dc (zac (m := 2) rfl rfl (hd 2 dc)) (zac (m := 3) rfl rfl (hd 3 dc)) rfl rfl ?_
       exact zaX (b9, hd7) 4 (by rfl) (by rfl) rfl (congrArg (dl D) rfl) (zaa rfl (zaa rfl (zaa rfl (zaa rfl (zaa rfl (zaa rfl (zaa rfl (zaa ((zaG (by rfl)).trans (zat (fun hD => hn (hcl 5 _ rfl (hcl 13 _ rfl hD 5 dc) 4 dc)) zaF)) (zaa ((zaG (by rfl)).trans rfl) rfl)))))))))
      ·
       intro D b hn hd hcl
       obtain ⟨b9, hd7⟩ := b
       refine zaV (zaa rfl (zaa rfl (zaa rfl (zaa rfl (zaa rfl (zaa rfl (zaa rfl (zaa (zat (fun hD => hn (hcl 13 _ rfl hD 5 dc)) zaF) rfl)))))))) ?_
       refine zcV (i := ((out5.length : Int) - 1 : Int).toNat) (j := 0) (k := 3) (q := (x2, eh1)) ze8 zba rfl dc (zac (m := 4) rfl rfl (hd 4 dc)) rfl (zbz eq1) rfl dc rfl ?_
       exact zaX (b9, hd7) 5 (by rfl) (by rfl) rfl (congrArg (dl D) rfl) (zaa rfl (zaa rfl (zaa rfl (zaa rfl (zaa rfl (zaa rfl (zaa rfl (zaa ((zaG (by rfl)).trans (zat (fun hD => hn (hcl 13 _ rfl hD 5 dc)) zaF)) (zaa ((zaG (by rfl)).trans rfl) rfl)))))))))
      ·
       intro D b hn hd hcl
       obtain ⟨b9, hd7⟩ := b
       refine zaV (zaa rfl (zaa rfl (zaa rfl (zaa rfl (zaa rfl (zaa rfl (zaa rfl (zaa (zat (fun hD => hn (hcl 7 _ rfl (hcl 8 _ rfl (hcl 13 _ rfl hD 8 dc) 7 dc) 6 dc)) zaF) (zaa (zat (fun hD => hn (hcl 7 _ rfl (hcl 8 _ rfl (hcl 11 _ rfl (hcl 12 _ rfl hD 11 dc) 8 dc) 7 dc) 6 dc)) zaF) rfl))))))))) ?_
       refine zan zkt rfl dc (zaL (by rfl) rfl) (show _ = 1 from rfl) ?_
       exact zaX (b9, hd7) 6 (by rfl) (by rfl) rfl (congrArg (dl D) rfl) (zaa rfl (zaa rfl (zaa rfl (zaa rfl (zaa rfl (zaa rfl (zaa rfl (zaa ((zaG (by rfl)).trans (zat (fun hD => hn (hcl 7 _ rfl (hcl 8 _ rfl (hcl 13 _ rfl hD 8 dc) 7 dc) 6 dc)) zaF)) (zaa ((zaG (by rfl)).trans (zat (fun hD => hn (hcl 7 _ rfl (hcl 8 _ rfl (hcl 11 _ rfl (hcl 12 _ rfl hD 11 dc) 8 dc) 7 dc) 6 dc)) zaF)) rfl)))))))))
      ·
       intro D b hn hd hcl
       obtain ⟨b9, hd7⟩ := b
       refine zaV (zaa rfl (zaa rfl (zaa rfl (zaa rfl (zaa rfl (zaa rfl (zaa rfl (zaa (zat (fun hD => hn (hcl 8 _ rfl (hcl 13 _ rfl hD 8 dc) 7 dc)) zaF) (zaa (zat (fun hD => hn (hcl 8 _ rfl (hcl 11 _ rfl (hcl 12 _ rfl hD 11 dc) 8 dc) 7 dc)) zaF) rfl))))))))) ?_
       refine zaM (k := 5) zeL rfl dc (zac (m := 6) rfl rfl (hd 6 dc)) rfl rfl ?_
       exact zaX (b9, hd7) 7 (by rfl) (by rfl) rfl (congrArg (dl D) rfl) (zaa rfl (zaa rfl (zaa rfl (zaa rfl (zaa rfl (zaa rfl (zaa rfl (zaa ((zaG (by rfl)).trans (zat (fun hD => hn (hcl 8 _ rfl (hcl 13 _ rfl hD 8 dc) 7 dc)) zaF)) (zaa ((zaG (by rfl)).trans (zat (fun hD => hn (hcl 8 _ rfl (hcl 11 _ rfl (hcl 12 _ rfl hD 11 dc) 8 dc) 7 dc)) zaF)) rfl)))))))))
      ·
       intro D b hn hd hcl
       obtain ⟨b9, hd7⟩ := b
       refine zaV (zaa rfl (zaa rfl (zaa rfl (zaa rfl (zaa rfl (zaa rfl (zaa rfl (zaa (zat (fun hD => hn (hcl 13 _ rfl hD 8 dc)) zaF) (zaa (zat (fun hD => hn (hcl 11 _ rfl (hcl 12 _ rfl hD 11 dc) 8 dc)) zaF) rfl))))))))) ?_
       refine zbs (v := .string (zcm x1.2.Indent)) (vs := [.string (⟨#[32]⟩ : ByteArray), zI x1.2.Indent]) rfl dc rfl (evL.cons rfl (evL.cons (zac (m := 7) rfl rfl (hd 7 dc)) evL.nil)) rfl zpC (zmL x1.2.Indent hg3) ?_
       exact zaX (b9, hd7) 8 (by rfl) (by rfl) rfl (congrArg (dl D) rfl) (zaa rfl (zaa rfl (zaa rfl (zaa rfl (zaa rfl (zaa rfl (zaa rfl (zaa ((zaG (by rfl)).trans (zat (fun hD => hn (hcl 13 _ rfl hD 8 dc)) zaF)) (zaa ((zaG (by rfl)).trans (zat (fun hD => hn (hcl 11 _ rfl (hcl 12 _ rfl hD 11 dc) 8 dc)) zaF)) rfl)))))))))
      ·
       intro D b hn hd hcl
       obtain ⟨b9, hd7⟩ := b
       refine zaV (zaa rfl (zaa rfl (zaa rfl (zaa rfl (zaa rfl (zaa rfl (zaa rfl (zaa (zat (fun hD => hn (hcl 10 _ rfl (hcl 11 _ rfl (hcl 12 _ rfl (hcl 13 _ rfl hD 12 dc) 11 dc) 10 dc) 9 dc)) zaF) (zaa (zat (fun hD => hn (hcl 10 _ rfl (hcl 11 _ rfl (hcl 12 _ rfl hD 11 dc) 10 dc) 9 dc)) zaF) rfl))))))))) ?_
       refine zan zku rfl dc (zaL (by rfl) rfl) (show _ = 0 from rfl) ?_
       exact zaX (b9, hd7) 9 (by rfl) (by rfl) rfl (congrArg (dl D) rfl) (zaa rfl (zaa rfl (zaa rfl (zaa rfl (zaa rfl (zaa rfl (zaa rfl (zaa ((zaG (by rfl)).trans (zat (fun hD => hn (hcl 10 _ rfl (hcl 11 _ rfl (hcl 12 _ rfl (hcl 13 _ rfl hD 12 dc) 11 dc) 10 dc) 9 dc)) zaF)) (zaa ((zaG (by rfl)).trans (zat (fun hD => hn (hcl 10 _ rfl (hcl 11 _ rfl (hcl 12 _ rfl hD 11 dc) 10 dc) 9 dc)) zaF)) rfl)))))))))
      ·
       intro D b hn hd hcl
       obtain ⟨b9, hd7⟩ := b
       refine zaV (zaa rfl (zaa rfl (zaa rfl (zaa rfl (zaa rfl (zaa rfl (zaa rfl (zaa (zat (fun hD => hn (hcl 11 _ rfl (hcl 12 _ rfl (hcl 13 _ rfl hD 12 dc) 11 dc) 10 dc)) zaF) (zaa (zat (fun hD => hn (hcl 11 _ rfl (hcl 12 _ rfl hD 11 dc) 10 dc)) zaF) rfl))))))))) ?_
       refine zaM (k := 5) zgN rfl dc (zac (m := 9) rfl rfl (hd 9 dc)) rfl rfl ?_
       exact zaX (b9, hd7) 10 (by rfl) (by rfl) rfl (congrArg (dl D) rfl) (zaa rfl (zaa rfl (zaa rfl (zaa rfl (zaa rfl (zaa rfl (zaa rfl (zaa ((zaG (by rfl)).trans (zat (fun hD => hn (hcl 11 _ rfl (hcl 12 _ rfl (hcl 13 _ rfl hD 12 dc) 11 dc) 10 dc)) zaF)) (zaa ((zaG (by rfl)).trans (zat (fun hD => hn (hcl 11 _ rfl (hcl 12 _ rfl hD 11 dc) 10 dc)) zaF)) rfl)))))))))
      ·
       intro D b hn hd hcl
       obtain ⟨b9, hd7⟩ := b
       refine zaV (zaa rfl (zaa rfl (zaa rfl (zaa rfl (zaa rfl (zaa rfl (zaa rfl (zaa (zat (fun hD => hn (hcl 12 _ rfl (hcl 13 _ rfl hD 12 dc) 11 dc)) zaF) (zaa (zat (fun hD => hn (hcl 12 _ rfl hD 11 dc)) zaF) rfl))))))))) ?_
       refine zau rfl dc (zac (m := 8) rfl rfl (hd 8 dc)) (zac (m := 10) rfl rfl (hd 10 dc)) (zdN hg4) ?_
       exact zaX (b9, hd7) 11 (by rfl) (by rfl) rfl (congrArg (dl D) rfl) (zaa rfl (zaa rfl (zaa rfl (zaa rfl (zaa rfl (zaa rfl (zaa rfl (zaa ((zaG (by rfl)).trans (zat (fun hD => hn (hcl 12 _ rfl (hcl 13 _ rfl hD 12 dc) 11 dc)) zaF)) (zaa ((zaG (by rfl)).trans (zat (fun hD => hn (hcl 12 _ rfl hD 11 dc)) zaF)) rfl)))))))))
      ·
       intro D b hn hd hcl
       obtain ⟨_, hd7⟩ := b
       refine zaV (zaa rfl (zaa rfl (zaa rfl (zaa rfl (zaa rfl (zaa rfl (zaa rfl (zaa (zat (fun hD => hn (hcl 13 _ rfl hD 12 dc)) zaF) (zaa (zat hn zaF) rfl))))))))) ?_
       refine zbb (cs := [.string ((zcm x1.2.Indent) ++ x1.2.Text)]) (te := 9) (ps := [(0, .tmp 47)]) rfl dc (evP.cons (zac (m := 11) rfl rfl (hd 11 dc)) evP.nil) (fun _ => by kernel_rfl) (fun b9 => ?_)
       refine zfA 8 rfl rfl ?_
       show TO _ _ _ _ _ _ _ _ _ _ [cells b2 [zI from1] 3, cells b3 [zI to1] 3, cells b4 [hd5.v] 54, vec encN_T_string 48 1 hd5.v zs2, cells b5 [zI stanza4] 3, cells jb1 [.string x1.2.Text, zI x1.2.Indent, zI x1.2.Stanza, zI x1.2.In, zI x1.2.Span_From, zI x1.2.Span_To] 36, own zao (zs2.eraseIdx (((out5.length : Int) - 1 : Int).toNat)), vec encS 9 1 eh1.v x2, cells b9 [.string ((zcm x1.2.Indent) ++ x1.2.Text)] 9]
       exact zaX (b9, hd7) 12 (by rfl) (by rfl) rfl (zap (fun _ => rfl) (zap (fun _ => rfl) (zap (fun _ => rfl) (zap (fun _ => rfl) (zap (fun _ => rfl) (zap (fun _ => rfl) (zap (fun _ => rfl) (zap (fun _ => rfl) (zap (fun _ => rfl) (zap (fun _ => rfl) (zap (fun _ => rfl) (zap (fun _ => rfl) (zap (fun hD => absurd hD hn) (zap (fun _ => rfl) rfl)))))))))))))) (zaa rfl (zaa rfl (zaa rfl (zaa rfl (zaa rfl (zaa rfl (zaa rfl (zaa ((zaG (by rfl)).trans (zat (fun hD => hn (hcl 13 _ rfl hD 12 dc)) zaF)) (zaa (zb9 (Or.inr rfl) rfl) rfl)))))))))
      ·
       intro D b hn hd hcl
       obtain ⟨b9, _⟩ := b
       refine zaV (zaa rfl (zaa rfl (zaa rfl (zaa rfl (zaa rfl (zaa rfl (zaa rfl (zaa (zat hn zaF) (zaa (zb9 (hd 12 dc) rfl) rfl))))))))) ?_
       refine zbw (k := 7) (k2 := 8) (ys := [(zcm x1.2.Indent) ++ x1.2.Text]) Tryd.underlying48 zoJ zev zgE rfl dc (zac (m := 5) rfl rfl (hd 5 dc)) (zac (m := 12) rfl rfl (hd 12 dc)) rfl rfl rfl rfl hg5 (fun v2 => ?_)
       refine zco (k := 7) rfl (fun hd7 he2 => ?_)
       subst he2
       exact zaX (b9, hd7) 13 (by rfl) (by rfl) rfl (zap (fun _ => rfl) (zap (fun _ => rfl) (zap (fun _ => rfl) (zap (fun _ => rfl) (zap (fun _ => rfl) (zap (fun _ => rfl) (zap (fun _ => rfl) (zap (fun _ => rfl) (zap (fun _ => rfl) (zap (fun _ => rfl) (zap (fun _ => rfl) (zap (fun _ => rfl) (zap (fun _ => rfl) (zap (fun hD => absurd hD hn) rfl)))))))))))))) (zaa rfl (zaa rfl (zaa rfl (zaa rfl (zaa rfl (zaa rfl (zaa rfl (zaa (zb9 (Or.inr rfl) rfl) (zaa ((zaG (by rfl)).trans (zb9 (hd 12 dc) rfl)) rfl)))))))))
      intro D b hall
      obtain ⟨b9, hd7⟩ := b
      refine zaV (zaa rfl (zaa rfl (zaa rfl (zaa rfl (zaa rfl (zaa rfl (zaa rfl (zaa (zb9 (hall 13 dc) rfl) (zaa (zb9 (hall 12 dc) rfl) rfl))))))))) (zbK (k := 3) eq1 Tryd.underlying54 zez rfl dc rfl rfl rfl rfl ?_)
      refine zfz (i := ((out5.length : Int) - 1 : Int).toNat) (j := 0) (k := 3) (q := (x2, eh1)) (q' := (x2 ++ [(zcm x1.2.Indent) ++ x1.2.Text], hd7)) zez zba rfl rfl rfl rfl (zbz eq1) rfl dc rfl (fun _ _ => rfl) ?_
      show TO _ _ _ _ _ _ _ _ _ _ [cells b2 [zI from1] 3, cells b3 [zI to1] 3, cells b4 [hd5.v] 54, vec encN_T_string 48 1 hd5.v (zs2.set (((out5.length : Int) - 1 : Int).toNat) (x2 ++ [(zcm x1.2.Indent) ++ x1.2.Text], hd7)), cells b5 [zI stanza4] 3, cells jb1 [.string x1.2.Text, zI x1.2.Indent, zI x1.2.Stanza, zI x1.2.In, zI x1.2.Span_From, zI x1.2.Span_To] 36, own zao (zs2.eraseIdx (((out5.length : Int) - 1 : Int).toNat)), vec encS 9 1 hd7.v (x2 ++ [(zcm x1.2.Indent) ++ x1.2.Text]), cells b9 [.string ((zcm x1.2.Indent) ++ x1.2.Text)] 9]
      refine zew (k := 6) rfl (zam [7] kr rfl) rfl (zki (nest := zao) (zs := zs2) (z := (x2 ++ [(zcm x1.2.Indent) ++ x1.2.Text], hd7)) (ziS (zbz eq1)) zgp) ?_
      show TO _ _ _ _ _ _ _ _ _ _ [cells b2 [zI from1] 3, cells b3 [zI to1] 3, cells b4 [hd5.v] 54, vec encN_T_string 48 1 hd5.v (zs2.set (((out5.length : Int) - 1 : Int).toNat) (x2 ++ [(zcm x1.2.Indent) ++ x1.2.Text], hd7)), cells b5 [zI stanza4] 3, cells jb1 [.string x1.2.Text, zI x1.2.Indent, zI x1.2.Stanza, zI x1.2.In, zI x1.2.Span_From, zI x1.2.Span_To] 36, own zao (zs2.set (((out5.length : Int) - 1 : Int).toNat) (x2 ++ [(zcm x1.2.Indent) ++ x1.2.Text], hd7)), emp, cells b9 [.string ((zcm x1.2.Indent) ++ x1.2.Text)] 9]
      refine zaj (zav (zgF (k := 3) rfl (zam [6] kr rfl) rfl (ziC (enc := encN_T_string) (nest := zao) (zoU hz2)) ?_))
      show TX _ _ _ _ _ _ _ [cells b2 [zI from1] 3, cells b3 [zI to1] 3, cells b4 [hd5.v] 54, zcU encN_T_string zao 48 1 hd5.v (out5.set ((out5.length : Int) - 1 : Int).toNat (x2 ++ [(zcm x1.2.Indent) ++ x1.2.Text])), cells b5 [zI stanza4] 3, cells jb1 [.string x1.2.Text, zI x1.2.Indent, zI x1.2.Stanza, zI x1.2.In, zI x1.2.Span_From, zI x1.2.Span_To] 36, emp, emp, cells b9 [.string ((zcm x1.2.Indent) ++ x1.2.Text)] 9]
      exact zhs (out5.set ((out5.length : Int) - 1 : Int).toNat (x2 ++ [(zcm x1.2.Indent) ++ x1.2.Text]), stanza4, hd5) (fun post2 e2 => by have e9 := zgo hxs1 e2; subst e9; subst hag1; exact h) (zam [0, 1, 2, 3, 4] kr rfl)
  ·
   rintro dm1 ⟨out4, stanza3, hd4⟩ hinv
   have h : dn1 out4 stanza3 = some r := hinv [] (List.append_nil _).symm
   rw [hdn1] at h
   show TX _ _ _ _ _ _ _ [zd7 ((([] : List Nat) : List Nat).map zet), emp, emp, emp, emp, cells b6 [zP bp1] 23, emp, cells b2 [zI from1] 3, cells b3 [zI to1] 3, cells b4 [hd4.v] 54, zcU encN_T_string zao 48 1 hd4.v out4, cells b5 [zI stanza3] 3, zet dm1]
   refine zh0 (k := 12) (j := 0) rfl rfl dc ?_
   show TX _ _ _ _ _ _ _ [zd7 ((dm1 :: ([] : List Nat) : List Nat).map zet), emp, emp, emp, emp, cells b6 [zP bp1] 23, emp, cells b2 [zI from1] 3, cells b3 [zI to1] 3, cells b4 [hd4.v] 54, zcU encN_T_string zao 48 1 hd4.v out4, cells b5 [zI stanza3] 3, emp]
   refine zav ?_
   exact zaJ (out4, b4, hd4, dm1 :: ([] : List Nat)) h rfl (zab rfl (zay)) (zam [9, 10, 0] kr rfl)
  ·
   rintro dm1 c pre x1 post g hxs hX
   exact (show False from hX).elim
 ·
  rintro ⟨out1, b1, hd1, ds1⟩ h
  rw [hj1] at h
  show TC _ _ _ _ _ (zda ds1) _ _ [(7, zP b1)] [cells b1 [hd1.v] 54, zcU encN_T_string zao 48 1 hd1.v out1, zd7 ((ds1 : List Nat).map zet)]
  refine zak (zae (zaM (k := 0) ze1 rfl dc rfl rfl rfl (zai rfl dc rfl (zaj (zah (zaQ ?_))))))
  cases h
  exact zdY (rs := [.tmp 6]) ds1 hd1.v (.inl rfl) (zbS (k := 2) rfl) Tryd.results61 (.cons (.tmp rfl) .nil) rfl (zam [1] kr rfl)
def zdp (stanzas1 : List (List ByteArray)) (j1 : Int → Option ((Option Gpoem_Poem) × Int)) (ag1 : Int → Int → Option ((Option Gpoem_Poem) × Int)) (n4 : Int) (x3 : Int) : Option ((Option Gpoem_Poem) × Int) :=
zaO (decide ((x3 : Int) < (stanzas1.length : Int))) (
zaE (zdk stanzas1 x3) fun (x4 : List ByteArray) =>
grd (I64 (n4 + (x4.length : Int))) <|
grd (I64 (x3 + 1)) <|
ag1 (n4 + (x4.length : Int)) (x3 + 1)
) (
j1 n4
)
def zc7 (title1 : ByteArray) (stanzas1 : List (List ByteArray)) : Option ((Option Gpoem_Poem) × Int) :=
zbE (fun (j1 : Int → Option ((Option Gpoem_Poem) × Int)) =>
za2 (fun _ _ => none) (zdp stanzas1 j1) zbG 0 0
) (fun (n1 : Int) =>
zaE (zcF title1 stanzas1) fun (r1 : ByteArray) =>
zaO (decide ((512 : Int) < n1)) (
some (none, 3)
) (
zaO (decide ((65536 : Int) < (r1.size : Int))) (
some (none, 3)
) (
zaE (zc8 r1) fun (r2 : ((Option Gpoem_Poem) × Gapi_Spot)) =>
some (r2.1, 0)
)
)
)
theorem zg4 {title1 : ByteArray} {vvstanzas1 : Value} {vstanzas1 : Hd} {Zstanzas1 : List ((List ByteArray) × Hd)} {kstanzas1 : Nat} {zstanzas1 : List ((List ByteArray) × Hd)} {stanzas1 : List (List ByteArray)} (hwstanzas1 : Vw vvstanzas1 Zstanzas1 1 kstanzas1 vstanzas1.v zstanzas1) (hzstanzas1 : zstanzas1.map Prod.fst = stanzas1) {r : ((Option Gpoem_Poem) × Int)} (h : zc7 title1 stanzas1 = some r) : FnR Tryd.prog 62 [.string title1, vstanzas1.v] [roRow encN_T_string 1 vvstanzas1 kstanzas1 Zstanzas1, rdOwn nestR_T_string Zstanzas1] [] (fun v0 : Value => .tuple #[v0, zI r.2]) (fun v0 => [zd5 zaB zaz 93 v0 r.1]) := by
 unfold zc7 at h
 refine FnR.intro Tryd.func62 rfl Tryd.ntmps62 (by simp) ?_
 intro w0 K hrd
 obtain ⟨j1, hj1, h⟩ := zcc h
 refine zbf (β := Int) 2 rfl (fun b => j1 b = some r) (fun b => []) (fun b => [(0, .string title1), (1, vstanzas1.v), (6, zI b)]) (fun b => []) (fun cut => ?_) ?_
 ·
  refine zak (zae (zai rfl dc rfl (zai rfl dc rfl (zaj (zah (zak (zae (zai rfl dc rfl (zaj (zah (cut (zak (zae ?_)))))))))))))
  refine zaf rfl dc rfl (zdm hzstanzas1 hwstanzas1 rfl dc rfl Tryd.underlying54 (zaf rfl dc rfl (zaj (zah (zaS ?_)))))
  refine zbx (β := Nat × Int × Int) (fun b => za2 (fun _ _ => none) (zdp stanzas1 j1) b.1 b.2.1 b.2.2 = some r) (fun b => []) (fun b => [(0, .string title1), (1, vstanzas1.v), (6, zI b.2.1), (12, vstanzas1.v), (13, zI (stanzas1.length : Int)), (14, zI b.2.2)]) (fun b => []) (fun b => b.1) (zbG, 0, 0) h rfl (zab rfl (zab rfl (zab rfl (zab rfl (zab rfl (zab rfl (zay))))))) Splits.nil ?_
  rintro ⟨n5, n4, x3⟩ h
  cases n5 with
  | zero => exact zdy h
  | succ n5 =>
   obtain ⟨ag1, hag1⟩ : ∃ ag, ag = za2 (fun _ _ => none) (zdp stanzas1 j1) n5 := ⟨_, rfl⟩
   have h : zdp stanzas1 j1 ag1 n4 x3 = some r := by rw [hag1]; exact h
   unfold zdp at h
   show TC _ _ _ _ _ ([]) _ _ [(0, .string title1), (1, vstanzas1.v), (6, zI n4), (12, vstanzas1.v), (13, zI (stanzas1.length : Int)), (14, zI x3)] []
   refine zak (zae (zau rfl dc rfl rfl zbA (zaj (zah (zak ?_)))))
   refine zaI rfl (fun hb1 => ?_) (fun hb1 => ?_)
   ·
    have h := zaT hb1 h
    refine zaK (zah (zak (zaS (zak (zae ?_)))))
    obtain ⟨x4, hq1, h⟩ := zbN h
    obtain ⟨eh1, eq1⟩ := zd3 hzstanzas1 hq1
    have hrd : Rd _ _ [roRow encN_T_string 1 vvstanzas1 kstanzas1 Zstanzas1, rdOwn nestR_T_string Zstanzas1, zfp encS 1 eh1 x4] := hrd.openEl (i := 1) (z := (x4, eh1)) rfl (Vw.get hwstanzas1 eq1)
    obtain ⟨vv1, k1, L1, hV1, hrd⟩ := hrd.openSl (i := 2) rfl
    replace hrd : Rd _ _ [roRow encN_T_string 1 vvstanzas1 kstanzas1 Zstanzas1, rdOwn nestR_T_string Zstanzas1, zfp encS 1 eh1 x4, roRow encS 1 vv1 k1 L1] := hrd
    refine zbd hwstanzas1 eq1 Tryd.underlying54 zez rfl dc rfl rfl rfl (zbm (n := kstanzas1 + (x3 : Int).toNat) (j := 0) (i := 0) (q := (x4, eh1)) hrd rfl (by omega) ze8 rfl dc rfl (Vw.get hwstanzas1 eq1) rfl rfl (zai rfl dc rfl (zaj (zah (zae (zaf rfl dc rfl (zaf rfl dc rfl (zbt hV1 rfl dc rfl Tryd.underlying48 ?_))))))))
    obtain ⟨hg1, h⟩ := zbW h
    refine zau rfl dc rfl rfl (za5 (r := n4 + (x4.length : Int)) (IntWalk.i64_in _ hg1)) (zai rfl dc rfl (zaj (zav (zah (zae ?_)))))
    obtain ⟨hg2, h⟩ := zbW h
    refine zau rfl dc rfl rfl (za5 (r := x3 + 1) (IntWalk.i64_in _ hg2)) (zaf rfl dc rfl (zaj ?_))
    subst hag1
    exact za6 (n5, n4 + (x4.length : Int), x3 + 1) h (Nat.lt_succ_self _) rfl (zab rfl (zab rfl (zab rfl (zab rfl (zab rfl (zab rfl (zay))))))) Splits.nil
   ·
    have h := zaU hb1 h
    refine zbl (zaC (zaC (zaN ?_)))
    exact zaJ n4 h rfl (zab rfl (zab rfl (zab rfl (zay)))) Splits.nil
 ·
  rintro n1 h
  rw [hj1] at h
  show TC _ _ _ _ _ ([]) _ _ [(0, .string title1), (1, vstanzas1.v), (6, zI n1)] []
  refine zak (zae (zaf rfl dc rfl (zaf rfl dc rfl ?_)))
  obtain ⟨r1, hq2, h⟩ := zbN h
  refine zbe (v := .string r1) (vs := [.string title1, vstanzas1.v]) hrd rfl dc rfl rfl rfl zow (zfN (vstanzas1 := vstanzas1) hwstanzas1 hzstanzas1 hq2) (.ro 0 rfl (.ro 1 rfl .nil)) (zai rfl dc rfl (zaj (zah (zak (zak (zae (zaf rfl dc rfl (zau rfl dc rfl rfl zdR (zaf rfl dc rfl ?_)))))))))
  refine za3 (s := 28) rfl (fun hb2 => ?_) (fun hb2 => ?_)
  ·
   have h := zaT hb2 h
   refine zal rfl dc (zal rfl dc (zal rfl dc (zaA (b := true) rfl dc rfl rfl (zaj (zah (zbn rfl (zak (zae (zai rfl dc rfl (zai rfl dc rfl (zaj (zah (zaQ ?_)))))))))))))
   refine zas (zcQ zaB zaz 93 ?_)
   show TX _ _ _ _ _ _ _ [zd5 zaB zaz 93 (.pointer none) none]
   cases h
   exact zaW (rs := [.tmp 4, .tmp 5]) (.pointer none) (.inl rfl) Tryd.results62 (.cons (.tmp rfl) (.cons (.tmp rfl) .nil)) rfl (zam [0] kr rfl)
  ·
   have h := zaU hb2 h
   refine zaf rfl dc rfl (zbp rfl dc rfl Tryd.underlying9 (zau rfl dc rfl rfl zdR (zaA (b := false) rfl dc rfl rfl (zaj (zah ?_)))))
   refine zaI rfl (fun hb3 => ?_) (fun hb3 => ?_)
   ·
    have h := zaT hb3 h
    refine zak (zae (zai rfl dc rfl (zai rfl dc rfl (zaj (zah (zaQ (zas (zcQ zaB zaz 93 ?_))))))))
    show TX _ _ _ _ _ _ _ [zd5 zaB zaz 93 (.pointer none) none]
    cases h
    exact zaW (rs := [.tmp 4, .tmp 5]) (.pointer none) (.inl rfl) Tryd.results62 (.cons (.tmp rfl) (.cons (.tmp rfl) .nil)) rfl (zam [0] kr rfl)
   ·
    have h := zaU hb3 h
    refine zaK (zah (zak (zae (zaf rfl dc rfl ?_))))
    obtain ⟨r2, hq3, h⟩ := zbN h
    refine zeq (vs := [.string r1]) rfl dc rfl rfl rfl zoH (zg5 hq3) Splits.nil ?_
    rintro v1
    show TO _ _ _ _ _ _ _ _ _ _ [zd5 zaB zaz 93 v1 r2.1]
    refine zb3 (L' := [zd5 zaB zaz 93 v1 r2.1]) (zam [0] kr rfl) (zaf rfl dc rfl (zaZ rfl dc rfl rfl (zaZ rfl dc rfl rfl ?_)))
    refine zbv zk5 rfl dc (fun b1 => ?_)
    refine zai rfl dc rfl (za4 (k := 1) (vs := [zI r2.2.Err, zI r2.2.At]) (l' := [zI r2.2.Err, zI r2.2.At]) zgM rfl rfl rfl rfl rfl (show _ ≤ _ by simp) rfl rfl ?_)
    show TO _ _ _ _ _ _ _ _ _ _ [zd5 zaB zaz 93 v1 r2.1, cells b1 [zI r2.2.Err, zI r2.2.At] 26]
    refine zaj (zah (zak (zae (zaf rfl dc rfl (zai rfl dc rfl (zai rfl dc rfl (zaj (zah (zaQ ?_)))))))))
    cases h
    exact zaW (rs := [.tmp 4, .tmp 5]) v1 (.inl rfl) Tryd.results62 (.cons (.tmp rfl) (.cons (.tmp rfl) .nil)) rfl (zam [0] kr rfl)
def zdr (j2 : Option ((Option Gpoem_Poem) × Int)) (x4 : List ByteArray) (ag2 : Int → Option ((Option Gpoem_Poem) × Int)) (x7 : Int) : Option ((Option Gpoem_Poem) × Int) :=
zaO (decide ((x7 : Int) < (x4.length : Int))) (
zaE (zdk x4 x7) fun (q1 : ByteArray) =>
zaO (!(zjG q1 1024)) (
some (none, 170)
) (
zaE (zdq q1) fun (r1 : Bool) =>
zaO (r1) (
some (none, 170)
) (
grd (I64 (x7 + 1)) <|
ag2 (x7 + 1)
)
)
) (
j2
)
def zc0 (stanzas1 : List (List ByteArray)) (j1 : Option ((Option Gpoem_Poem) × Int)) (ag1 : Int → Option ((Option Gpoem_Poem) × Int)) (x3 : Int) : Option ((Option Gpoem_Poem) × Int) :=
zaO (decide ((x3 : Int) < (stanzas1.length : Int))) (
zbE (fun (j2 : Option ((Option Gpoem_Poem) × Int)) =>
zaE (zdk stanzas1 x3) fun (x4 : List ByteArray) =>
zaO (((x4.length : Int) : Int) == 0) (
some (none, 170)
) (
za2 (fun _ => none) (zdr j2 x4) zbG 0
)
) (
grd (I64 (x3 + 1)) <|
ag1 (x3 + 1)
)
) (
j1
)
def zej (title1 : ByteArray) (stanzas1 : List (List ByteArray)) : Option ((Option Gpoem_Poem) × Int) :=
zaO (!(zjG title1 1022)) (
some (none, 170)
) (
zbE (fun (j1 : Option ((Option Gpoem_Poem) × Int)) =>
za2 (fun _ => none) (zc0 stanzas1 j1) zbG 0
) (
zaE (zc7 title1 stanzas1) fun (r2 : ((Option Gpoem_Poem) × Int)) =>
some (r2.1, r2.2)
)
)
theorem zjz {title1 : ByteArray} {vvstanzas1 : Value} {vstanzas1 : Hd} {Zstanzas1 : List ((List ByteArray) × Hd)} {kstanzas1 : Nat} {zstanzas1 : List ((List ByteArray) × Hd)} {stanzas1 : List (List ByteArray)} (hwstanzas1 : Vw vvstanzas1 Zstanzas1 1 kstanzas1 vstanzas1.v zstanzas1) (hzstanzas1 : zstanzas1.map Prod.fst = stanzas1) {r : ((Option Gpoem_Poem) × Int)} (h : zej title1 stanzas1 = some r) : FnR Tryd.prog 40 [.string title1, vstanzas1.v] [roRow encN_T_string 1 vvstanzas1 kstanzas1 Zstanzas1, rdOwn nestR_T_string Zstanzas1] [] (fun v0 : Value => .tuple #[v0, zI r.2]) (fun v0 => [zd5 zaB zaz 93 v0 r.1]) := by
 unfold zej at h
 refine FnR.intro Tryd.func40 rfl Tryd.ntmps40 (by simp) ?_
 intro w0 K hrd
 refine zak (zae (zai rfl dc rfl (zai rfl dc rfl (zaj (zah (zak (zak (zae (zaf rfl dc rfl (zbs (v := .bool (zjG title1 1022)) (vs := [.string title1, zI 1022]) rfl dc rfl rfl rfl znO (znE title1 1022 dc) (zf7 rfl dc rfl zeE (zaj (zah ?_)))))))))))))
 refine zaI rfl (fun hb1 => ?_) (fun hb1 => ?_)
 ·
  have h := zaT hb1 h
  refine zak (zae (zai rfl dc rfl (zai rfl dc rfl (zaj (zah (zaQ (zas (zcQ zaB zaz 93 ?_))))))))
  show TX _ _ _ _ _ _ _ [zd5 zaB zaz 93 (.pointer none) none]
  cases h
  exact zaW (rs := [.tmp 4, .tmp 5]) (.pointer none) (.inl rfl) Tryd.results40 (.cons (.tmp rfl) (.cons (.tmp rfl) .nil)) rfl (zam [0] kr rfl)
 ·
  have h := zaU hb1 h
  refine zaK (zah ?_)
  obtain ⟨j1, hj1, h⟩ := zcc h
  refine zbf (β := Unit) 0 rfl (fun b => j1 = some r) (fun b => []) (fun b => [(0, .string title1), (1, vstanzas1.v)]) (fun b => []) (fun cut => ?_) ?_
  ·
   refine cut (zak (zae (zaf rfl dc rfl (zdm hzstanzas1 hwstanzas1 rfl dc rfl Tryd.underlying54 (zaf rfl dc rfl (zaj (zah (zaS ?_))))))))
   refine zbx (β := Nat × Int) (fun b => za2 (fun _ => none) (zc0 stanzas1 j1) b.1 b.2 = some r) (fun b => []) (fun b => [(0, .string title1), (1, vstanzas1.v), (13, vstanzas1.v), (14, zI (stanzas1.length : Int)), (15, zI b.2)]) (fun b => []) (fun b => b.1) (zbG, 0) h rfl (zab rfl (zab rfl (zab rfl (zab rfl (zab rfl (zay)))))) Splits.nil ?_
   rintro ⟨n1, x3⟩ h
   cases n1 with
   | zero => exact zdy h
   | succ n1 =>
    obtain ⟨ag1, hag1⟩ : ∃ ag, ag = za2 (fun _ => none) (zc0 stanzas1 j1) n1 := ⟨_, rfl⟩
    have h : zc0 stanzas1 j1 ag1 x3 = some r := by rw [hag1]; exact h
    unfold zc0 at h
    show TC _ _ _ _ _ ([]) _ _ [(0, .string title1), (1, vstanzas1.v), (13, vstanzas1.v), (14, zI (stanzas1.length : Int)), (15, zI x3)] []
    refine zak (zae (zau rfl dc rfl rfl zbA (zaj (zah (zak ?_)))))
    refine zaI rfl (fun hb2 => ?_) (fun hb2 => ?_)
    ·
     have h := zaT hb2 h
     refine zaK (zah ?_)
     obtain ⟨j2, hj2, h⟩ := zcc h
     refine zbf (β := Unit) 0 rfl (fun b => j2 = some r) (fun b => []) (fun b => [(0, .string title1), (1, vstanzas1.v), (13, vstanzas1.v), (14, zI (stanzas1.length : Int)), (15, zI x3)]) (fun b => []) (fun cut => ?_) ?_
     ·
      refine cut (zaS (zak (zae ?_)))
      obtain ⟨x4, hq1, h⟩ := zbN h
      obtain ⟨eh1, eq1⟩ := zd3 hzstanzas1 hq1
      have hrd : Rd _ _ [roRow encN_T_string 1 vvstanzas1 kstanzas1 Zstanzas1, rdOwn nestR_T_string Zstanzas1, zfp encS 1 eh1 x4] := hrd.openEl (i := 1) (z := (x4, eh1)) rfl (Vw.get hwstanzas1 eq1)
      obtain ⟨vv1, k1, L1, hV1, hrd⟩ := hrd.openSl (i := 2) rfl
      replace hrd : Rd _ _ [roRow encN_T_string 1 vvstanzas1 kstanzas1 Zstanzas1, rdOwn nestR_T_string Zstanzas1, zfp encS 1 eh1 x4, roRow encS 1 vv1 k1 L1] := hrd
      refine zbd hwstanzas1 eq1 Tryd.underlying54 zez rfl dc rfl rfl rfl (zbm (n := kstanzas1 + (x3 : Int).toNat) (j := 0) (i := 0) (q := (x4, eh1)) hrd rfl (by omega) ze8 rfl dc rfl (Vw.get hwstanzas1 eq1) rfl rfl (zai rfl dc rfl (zaj (zah (zak (zak (zae (zaf rfl dc rfl (zbt hV1 rfl dc rfl Tryd.underlying48 (zau rfl dc rfl rfl zbF (zaj (zah ?_))))))))))))
      refine zaI rfl (fun hb3 => ?_) (fun hb3 => ?_)
      ·
       have h := zaT hb3 h
       refine zak (zae (zai rfl dc rfl (zai rfl dc rfl (zaj (zah (zaQ (zas (zaw (zas (zas (zaw (zas (zcQ zaB zaz 93 ?_)))))))))))))
       show TX _ _ _ _ _ _ _ [zd5 zaB zaz 93 (.pointer none) none]
       cases h
       exact zaW (rs := [.tmp 4, .tmp 5]) (.pointer none) (.inl rfl) Tryd.results40 (.cons (.tmp rfl) (.cons (.tmp rfl) .nil)) rfl (zam [0] kr rfl)
      ·
       have h := zaU hb3 h
       refine zaK (zah (zak (zae (zaf rfl dc rfl (zbt hV1 rfl dc rfl Tryd.underlying48 (zaf rfl dc rfl (zaj (zah (zaS ?_)))))))))
       refine zbx (β := Nat × Int) (fun b => za2 (fun _ => none) (zdr j2 x4) b.1 b.2 = some r) (fun b => []) (fun b => [(0, .string title1), (1, vstanzas1.v), (13, vstanzas1.v), (14, zI (stanzas1.length : Int)), (15, zI x3), (22, eh1.v), (23, zI (x4.length : Int)), (24, zI b.2)]) (fun b => []) (fun b => b.1) (zbG, 0) h rfl (zab rfl (zab rfl (zab rfl (zab rfl (zab rfl (zab rfl (zab rfl (zab rfl (zay))))))))) Splits.nil ?_
       rintro ⟨n2, x7⟩ h
       cases n2 with
       | zero => exact zdy h
       | succ n2 =>
        obtain ⟨ag2, hag2⟩ : ∃ ag, ag = za2 (fun _ => none) (zdr j2 x4) n2 := ⟨_, rfl⟩
        have h : zdr j2 x4 ag2 x7 = some r := by rw [hag2]; exact h
        unfold zdr at h
        show TC _ _ _ _ _ ([]) _ _ [(0, .string title1), (1, vstanzas1.v), (13, vstanzas1.v), (14, zI (stanzas1.length : Int)), (15, zI x3), (22, eh1.v), (23, zI (x4.length : Int)), (24, zI x7)] []
        refine zak (zae (zau rfl dc rfl rfl zbA (zaj (zah (zak ?_)))))
        refine zaI rfl (fun hb4 => ?_) (fun hb4 => ?_)
        ·
         have h := zaT hb4 h
         refine zaK (zah (zak (zaS (zak (zae ?_)))))
         obtain ⟨q1, hq2, h⟩ := zbN h
         refine zbd hV1 hq2 Tryd.underlying48 zk9 rfl dc rfl rfl rfl (zbm (n := k1 + (x7 : Int).toNat) (j := 0) (i := 3) (q := q1) hrd rfl (by omega) zgN rfl dc rfl (Vw.get hV1 hq2) rfl rfl (zai rfl dc rfl (zaj (zah (zak (zae (zaf rfl dc rfl (zbs (v := .bool (zjG q1 1024)) (vs := [.string q1, zI 1024]) rfl dc rfl rfl rfl znO (znE q1 1024 dc) (zf7 rfl dc rfl zeE (zaf rfl dc rfl ?_))))))))))
         refine za3 (s := 31) rfl (fun hb5 => ?_) (fun hb5 => ?_)
         ·
          have h := zaT hb5 h
          refine zal rfl dc (zal rfl dc (zaA (b := true) rfl dc rfl rfl (zaj (zah (zbn rfl (zak (zae (zai rfl dc rfl (zai rfl dc rfl (zaj (zah (zaQ (zaw ?_)))))))))))))
          refine zas (zas (zaw (zaw (zas (zas (zaw (zas (zcQ zaB zaz 93 ?_))))))))
          show TX _ _ _ _ _ _ _ [zd5 zaB zaz 93 (.pointer none) none]
          cases h
          exact zaW (rs := [.tmp 4, .tmp 5]) (.pointer none) (.inl rfl) Tryd.results40 (.cons (.tmp rfl) (.cons (.tmp rfl) .nil)) rfl (zam [0] kr rfl)
         ·
          have h := zaU hb5 h
          refine zaf rfl dc rfl ?_
          obtain ⟨r1, hq3, h⟩ := zbN h
          refine zbs (v := .bool r1) (vs := [.string q1]) rfl dc rfl rfl rfl znP (zft hq3) (zaA (b := false) rfl dc rfl rfl (zaj (zah ?_)))
          refine zaI rfl (fun hb6 => ?_) (fun hb6 => ?_)
          ·
           have h := zaT hb6 h
           refine zak (zae (zai rfl dc rfl (zai rfl dc rfl (zaj (zah (zaQ (zaw (zas (zas (zaw (zaw (zas (zas ?_)))))))))))))
           refine zaw (zas (zcQ zaB zaz 93 ?_))
           show TX _ _ _ _ _ _ _ [zd5 zaB zaz 93 (.pointer none) none]
           cases h
           exact zaW (rs := [.tmp 4, .tmp 5]) (.pointer none) (.inl rfl) Tryd.results40 (.cons (.tmp rfl) (.cons (.tmp rfl) .nil)) rfl (zam [0] kr rfl)
          ·
           have h := zaU hb6 h
           refine zaK (zav (zah (zae ?_)))
           obtain ⟨hg1, h⟩ := zbW h
           refine zau rfl dc rfl rfl (za5 (r := x7 + 1) (IntWalk.i64_in _ hg1)) (zaf rfl dc rfl (zaj ?_))
           subst hag2
           exact za6 (n2, x7 + 1) h (Nat.lt_succ_self _) rfl (zab rfl (zab rfl (zab rfl (zab rfl (zab rfl (zab rfl (zab rfl (zab rfl (zay))))))))) Splits.nil
        ·
         have h := zaU hb4 h
         refine zbl (zaC (zaC (zaN (zav ?_))))
         exact zaJ () h rfl (zab rfl (zab rfl (zab rfl (zab rfl (zab rfl (zay)))))) Splits.nil
     ·
      rintro _ h
      rw [hj2] at h
      show TC _ _ _ _ _ ([]) _ _ [(0, .string title1), (1, vstanzas1.v), (13, vstanzas1.v), (14, zI (stanzas1.length : Int)), (15, zI x3)] []
      refine zae ?_
      obtain ⟨hg2, h⟩ := zbW h
      refine zau rfl dc rfl rfl (za5 (r := x3 + 1) (IntWalk.i64_in _ hg2)) (zaf rfl dc rfl (zaj ?_))
      subst hag1
      exact za6 (n1, x3 + 1) h (Nat.lt_succ_self _) rfl (zab rfl (zab rfl (zab rfl (zab rfl (zab rfl (zay)))))) Splits.nil
    ·
     have h := zaU hb2 h
     refine zbl (zaC (zaC (zaN ?_)))
     exact zaJ () h rfl (zab rfl (zab rfl (zay))) Splits.nil
  ·
   rintro _ h
   rw [hj1] at h
   show TC _ _ _ _ _ ([]) _ _ [(0, .string title1), (1, vstanzas1.v)] []
   refine zak (zae (zaf rfl dc rfl (zaf rfl dc rfl ?_)))
   obtain ⟨r2, hq4, h⟩ := zbN h
   refine zeK (vs := [.string title1, vstanzas1.v]) hrd rfl dc rfl rfl rfl zou (zg4 (vstanzas1 := vstanzas1) hwstanzas1 hzstanzas1 hq4) Splits.nil (.ro 0 rfl (.ro 1 rfl .nil)) ?_
   rintro v1
   show TO _ _ _ _ _ _ _ _ _ _ [zd5 zaB zaz 93 v1 r2.1]
   refine zb3 (L' := [zd5 zaB zaz 93 v1 r2.1]) (zam [0] kr rfl) (zaZ rfl dc rfl rfl (zaZ rfl dc rfl rfl (zai rfl dc rfl (zai rfl dc rfl (zaj (zah (zaQ ?_)))))))
   cases h
   exact zaW (rs := [.tmp 4, .tmp 5]) v1 (.inl rfl) Tryd.results40 (.cons (.tmp rfl) (.cons (.tmp rfl) .nil)) rfl (zam [0] kr rfl)
def zcK (p1 : Gpoem_Poem) : Option ByteArray :=
zaE (zcA p1 0 (p1.told_lines.length : Int)) fun (r1 : (List (List ByteArray))) =>
zaE (zcF p1.told_title r1) fun (r2 : ByteArray) =>
some r2
theorem ze3 {bp1 : Nat} {p1 : Gpoem_Poem} {p1_h0 p1_h1 : Hd} {r : ByteArray} (h : zcK p1 = some r) : FnR Tryd.prog 18 [zP bp1] [cells bp1 [.string p1.told_title, p1_h0.v, p1_h1.v, .string p1.source] 93, vec zar 36 6 p1_h0.v p1.told_lines, vec zaq 34 2 p1_h1.v p1.told_stanzas] [] (fun _ : Unit => (.string r)) (fun _ => []) := by
 unfold zcK at h
 refine FnR.intro Tryd.func18 rfl Tryd.ntmps18 (by simp) ?_
 intro w0 K hrd
 refine zak (zae (zai rfl dc rfl (zaj (zah (zak (zak (zae (zaf rfl dc rfl (zau rfl dc rfl rfl (za8 Tryd.underlying23) (zaj (zah (zbj rfl (zaK ?_)))))))))))))
 refine zah (zak ?_)
 obtain ⟨r1, hq1, h⟩ := zbN h
 obtain ⟨r2, hq2, h⟩ := zbN h
 refine zjk (β := Hd) 13 12 _ [(0, 5, zP bp1), (1, 6, zP bp1), (2, 7, zP bp1), (3, 8, zP bp1), (4, 9, .string p1.told_title), (5, 10, zP bp1), (6, 11, zP bp1), (7, 12, zP bp1), (8, 13, zP bp1), (9, 14, .pointer (some ⟨bp1, 1, none⟩)), (10, 15, p1_h0.v), (11, 16, zI (p1.told_lines.length : Int))] (fun hd1 => [(17, hd1.v)]) (fun hd1 => [zcU encN_T_string zao 48 1 hd1.v r1]) mixed kr kr rfl dc dc (by rfl) kr kr (DrawPreX.cons ?_ (DrawPreX.cons ?_ (DrawPreX.cons ?_ (DrawPreX.cons ?_ (DrawPreX.cons ?_ (DrawPreX.cons ?_ (DrawPreX.cons ?_ (DrawPreX.cons ?_ (DrawPreX.cons ?_ (DrawPreX.cons ?_ (DrawPreX.cons ?_ (DrawPreX.cons ?_ (zdP DrawPreX.nil))))))))))))) (fun hd1 => (DrawPreX.cons ?_ (DrawPreX.cons ?_ (DrawPreX.cons ?_ (DrawPreX.cons ?_ (DrawPreX.cons ?_ (DrawPreX.cons ?_ (DrawPreX.cons ?_ (DrawPreX.cons ?_ (DrawPreX.cons ?_ (DrawPreX.cons ?_ (DrawPreX.cons ?_ (DrawPreX.cons ?_ (zdP DrawPreX.nil)))))))))))))) ?_ ?_
 ·
  intro D hn hd hcl hu hi
  refine zaf rfl dc (zaL (by rfl) rfl) ?_
  exact zag 0 hu hi rfl
 ·
  intro D hn hd hcl hu hi
  refine zaR rfl dc (zac (m := 0) hu rfl (hd 0 dc)) ?_
  exact zag 1 hu hi rfl
 ·
  intro D hn hd hcl hu hi
  refine zan zbR rfl dc (zac (m := 1) hu rfl (hd 1 dc)) (show _ = 0 from rfl) ?_
  exact zag 2 hu hi rfl
 ·
  intro D hn hd hcl hu hi
  refine zan zfw rfl dc (zac (m := 2) hu rfl (hd 2 dc)) (show _ = 0 from rfl) ?_
  exact zag 3 hu hi rfl
 ·
  intro D hn hd hcl hu hi
  refine zbo (i := 0) hrd rfl zgN rfl dc (zac (m := 3) hu rfl (hd 3 dc)) rfl ?_
  exact zag 4 hu hi rfl
 ·
  intro D hn hd hcl hu hi
  refine zaf rfl dc (zaL (by rfl) rfl) ?_
  exact zag 5 hu hi rfl
 ·
  intro D hn hd hcl hu hi
  refine zaf rfl dc (zaL (by rfl) rfl) ?_
  exact zag 6 hu hi rfl
 ·
  intro D hn hd hcl hu hi
  refine zaR rfl dc (zac (m := 6) hu rfl (hd 6 dc)) ?_
  exact zag 7 hu hi rfl
 ·
  intro D hn hd hcl hu hi
  refine zan zbR rfl dc (zac (m := 7) hu rfl (hd 7 dc)) (show _ = 0 from rfl) ?_
  exact zag 8 hu hi rfl
 ·
  intro D hn hd hcl hu hi
  refine zan zdC rfl dc (zac (m := 8) hu rfl (hd 8 dc)) (show _ = 1 from rfl) ?_
  exact zag 9 hu hi rfl
 ·
  intro D hn hd hcl hu hi
  refine zbo (i := 0) hrd rfl zex rfl dc (zac (m := 9) hu rfl (hd 9 dc)) rfl ?_
  exact zag 10 hu hi rfl
 ·
  intro D hn hd hcl hu hi
  refine zbt (hrd.vw (i := 1) rfl) rfl dc (zac (m := 10) hu rfl (hd 10 dc)) Tryd.underlying57 ?_
  exact zag 11 hu hi rfl
 ·
  intro D hn hd hcl hu hi
  refine zaf rfl dc (zaL (by rfl) rfl) ?_
  exact zag 0 hu hi rfl
 ·
  intro D hn hd hcl hu hi
  refine zaR rfl dc (zac (m := 0) hu rfl (hd 0 dc)) ?_
  exact zag 1 hu hi rfl
 ·
  intro D hn hd hcl hu hi
  refine zan zbR rfl dc (zac (m := 1) hu rfl (hd 1 dc)) (show _ = 0 from rfl) ?_
  exact zag 2 hu hi rfl
 ·
  intro D hn hd hcl hu hi
  refine zan zfw rfl dc (zac (m := 2) hu rfl (hd 2 dc)) (show _ = 0 from rfl) ?_
  exact zag 3 hu hi rfl
 ·
  intro D hn hd hcl hu hi
  refine zbo (i := 0) hrd rfl zgN rfl dc (zac (m := 3) hu rfl (hd 3 dc)) rfl ?_
  exact zag 4 hu hi rfl
 ·
  intro D hn hd hcl hu hi
  refine zaf rfl dc (zaL (by rfl) rfl) ?_
  exact zag 5 hu hi rfl
 ·
  intro D hn hd hcl hu hi
  refine zaf rfl dc (zaL (by rfl) rfl) ?_
  exact zag 6 hu hi rfl
 ·
  intro D hn hd hcl hu hi
  refine zaR rfl dc (zac (m := 6) hu rfl (hd 6 dc)) ?_
  exact zag 7 hu hi rfl
 ·
  intro D hn hd hcl hu hi
  refine zan zbR rfl dc (zac (m := 7) hu rfl (hd 7 dc)) (show _ = 0 from rfl) ?_
  exact zag 8 hu hi rfl
 ·
  intro D hn hd hcl hu hi
  refine zan zdC rfl dc (zac (m := 8) hu rfl (hd 8 dc)) (show _ = 1 from rfl) ?_
  exact zag 9 hu hi rfl
 ·
  intro D hn hd hcl hu hi
  refine zbo (i := 0) hrd rfl zex rfl dc (zac (m := 9) hu rfl (hd 9 dc)) rfl ?_
  exact zag 10 hu hi rfl
 ·
  intro D hn hd hcl hu hi
  refine zbt (hrd.vw (i := 1) rfl) rfl dc (zac (m := 10) hu rfl (hd 10 dc)) Tryd.underlying57 ?_
  exact zag 11 hu hi rfl
 ·
  intro D hn hd hcl
  refine zeK (vs := [zP bp1, zI 0, zI (p1.told_lines.length : Int)]) hrd rfl dc rfl (evL.cons (zac (m := 5) kr rfl (hd 5 dc)) (evL.cons rfl (evL.cons (zac (m := 11) kr rfl (hd 11 dc)) evL.nil))) rfl zov (zfd (bp1 := bp1) (p1 := p1) (p1_h0 := p1_h0) (p1_h1 := p1_h1) hq1) Splits.nil (.ro 0 rfl (.ro 1 rfl (.ro 2 rfl .nil))) ?_
  rintro v1
  show TO _ _ _ _ _ _ _ _ _ _ [zcU encN_T_string zao 48 1 v1 r1]
  refine zb3 (L' := [zcU encN_T_string zao 48 1 v1 r1]) (zam [0] kr rfl) ?_
  refine ziH (k := 0) rfl (fun hd1 he1 => ?_)
  subst he1
  exact fun a w ha hw => ⟨hd1, zmC (by rfl) _ _ _ ha, hw⟩
 intro hd1
 show TO _ _ _ _ _ _ _ _ _ _ [zcU encN_T_string zao 48 1 hd1.v r1]
 refine zbe (v := .string r2) (vs := [.string p1.told_title, hd1.v]) hrd rfl dc rfl rfl rfl zow (ziJ (nest := zao) (e := 48) (v := hd1.v) (xs := r1) (RD1 := []) (RD2 := []) zba zfa (fun zs_c0 hz_c0 hV_c0 => (zfN (vstanzas1 := hd1) hV_c0 hz_c0 hq2))) (.own (zam [0] (by kernel_rfl) rfl) (fun _ _ h => sepL.one1.1 h) .nil) ?_
 refine zai rfl dc rfl (zaj (zah (zaQ ?_)))
 cases h
 exact zaW (rs := [.tmp 2]) () (.inl rfl) Tryd.results18 (.cons (.tmp rfl) .nil) rfl Splits.nil
def zeV (p1 : Gpoem_Poem) (k1 : Int) (line1 : ByteArray) : Option ((Option Gpoem_Poem) × Int) :=
zaO (decide ((k1 : Int) < 0)) (
some (none, 5)
) (
zaO (decide (((p1.told_lines.length : Int) : Int) ≤ k1)) (
some (none, 5)
) (
zaO (!(zjG line1 1024)) (
some (none, 170)
) (
zaE (zdq line1) fun (r1 : Bool) =>
zaO (r1) (
some (none, 170)
) (
zaE (zcA p1 0 (p1.told_lines.length : Int)) fun (r2 : (List (List ByteArray))) =>
zaE (zdk p1.told_lines k1) fun (q1 : Gapi_Verse) =>
zaE (zdk r2 q1.Stanza) fun (x1 : List ByteArray) =>
zaE (zdk x1 q1.In) fun (q2 : ByteArray) =>
zaE (zc7 p1.told_title (r2.set ((q1.Stanza : Int).toNat) (x1.set (q1.In : Int).toNat line1))) fun (r3 : ((Option Gpoem_Poem) × Int)) =>
some (r3.1, r3.2)
)
)
)
)
theorem zhb {bp1 : Nat} {p1 : Gpoem_Poem} {p1_h0 p1_h1 : Hd} {k1 : Int} {line1 : ByteArray} {r : ((Option Gpoem_Poem) × Int)} (h : zeV p1 k1 line1 = some r) : FnR Tryd.prog 29 [zP bp1, zI k1, .string line1] [cells bp1 [.string p1.told_title, p1_h0.v, p1_h1.v, .string p1.source] 93, vec zar 36 6 p1_h0.v p1.told_lines, vec zaq 34 2 p1_h1.v p1.told_stanzas] [] (fun v0 : Value => .tuple #[v0, zI r.2]) (fun v0 => [zd5 zaB zaz 93 v0 r.1]) := by
 unfold zeV at h
 refine FnR.intro Tryd.func29 rfl Tryd.ntmps29 (by simp) ?_
 intro w0 K hrd
 refine zak (zae (zai rfl dc rfl (zai rfl dc rfl (zaj (zah (zak (zaS (zak (zae (zaf rfl dc rfl (zau rfl dc rfl rfl (za8 Tryd.underlying23) (zai rfl dc rfl (zaj ?_)))))))))))))
 refine zah (zbj rfl (zak (zae (zaf rfl dc rfl (zau rfl dc rfl rfl zbA (zaf rfl dc rfl ?_))))))
 refine za3 (s := 16) rfl (fun hb1 => ?_) (fun hb1 => ?_)
 ·
  have h := zaT hb1 h
  refine zal rfl dc (zal rfl dc (zal rfl dc (zal rfl dc (zal rfl dc (zal rfl dc (zal rfl dc (zal rfl dc (zaA (b := true) rfl dc rfl rfl (zai rfl dc rfl (zaj (zah (zbn rfl (zak ?_)))))))))))))
  refine zae (zai rfl dc rfl (zai rfl dc rfl (zaj (zah (zaQ (zaw (zas (zcQ zaB zaz 93 ?_))))))))
  show TX _ _ _ _ _ _ _ [zd5 zaB zaz 93 (.pointer none) none]
  cases h
  exact zaW (rs := [.tmp 6, .tmp 7]) (.pointer none) (.inl rfl) Tryd.results29 (.cons (.tmp rfl) (.cons (.tmp rfl) .nil)) rfl (zam [0] kr rfl)
 ·
  have h := zaU hb1 h
  refine zaf rfl dc rfl (zaf rfl dc rfl (zaR rfl dc rfl (zan zbR rfl dc rfl (show _ = 0 from rfl) (zan zdC rfl dc rfl (show _ = 1 from rfl) (zbo (i := 0) hrd rfl zex rfl dc rfl rfl (zbt (hrd.vw (i := 1) rfl) rfl dc rfl Tryd.underlying57 (zau rfl dc rfl rfl zeo (zaA (b := false) rfl dc rfl rfl (zai rfl dc rfl (zaj (zah ?_)))))))))))
  refine zaI rfl (fun hb2 => ?_) (fun hb2 => ?_)
  ·
   have h := zaT hb2 h
   refine zak (zae (zai rfl dc rfl (zai rfl dc rfl (zaj (zah (zaQ (zaw (zas (zcQ zaB zaz 93 ?_)))))))))
   show TX _ _ _ _ _ _ _ [zd5 zaB zaz 93 (.pointer none) none]
   cases h
   exact zaW (rs := [.tmp 6, .tmp 7]) (.pointer none) (.inl rfl) Tryd.results29 (.cons (.tmp rfl) (.cons (.tmp rfl) .nil)) rfl (zam [0] kr rfl)
  ·
   have h := zaU hb2 h
   refine zak (zae (zaf rfl dc rfl (zbs (v := .bool (zjG line1 1024)) (vs := [.string line1, zI 1024]) rfl dc rfl rfl rfl znO (znE line1 1024 dc) (zf7 rfl dc rfl zeE (zaf rfl dc rfl ?_)))))
   refine za3 (s := 30) rfl (fun hb3 => ?_) (fun hb3 => ?_)
   ·
    have h := zaT hb3 h
    refine zal rfl dc (zal rfl dc (zaA (b := true) rfl dc rfl rfl (zai rfl dc rfl (zaj (zah (zbn rfl (zak (zae (zai rfl dc rfl (zai rfl dc rfl (zaj (zah (zaQ ?_)))))))))))))
    refine zaw (zas (zcQ zaB zaz 93 ?_))
    show TX _ _ _ _ _ _ _ [zd5 zaB zaz 93 (.pointer none) none]
    cases h
    exact zaW (rs := [.tmp 6, .tmp 7]) (.pointer none) (.inl rfl) Tryd.results29 (.cons (.tmp rfl) (.cons (.tmp rfl) .nil)) rfl (zam [0] kr rfl)
   ·
    have h := zaU hb3 h
    refine zaf rfl dc rfl ?_
    obtain ⟨r1, hq1, h⟩ := zbN h
    refine zbs (v := .bool r1) (vs := [.string line1]) rfl dc rfl rfl rfl znP (zft hq1) (zaA (b := false) rfl dc rfl rfl (zai rfl dc rfl (zaj (zah ?_))))
    refine zaI rfl (fun hb4 => ?_) (fun hb4 => ?_)
    ·
     have h := zaT hb4 h
     refine zak (zae (zai rfl dc rfl (zai rfl dc rfl (zaj (zah (zaQ (zaw (zas (zcQ zaB zaz 93 ?_)))))))))
     show TX _ _ _ _ _ _ _ [zd5 zaB zaz 93 (.pointer none) none]
     cases h
     exact zaW (rs := [.tmp 6, .tmp 7]) (.pointer none) (.inl rfl) Tryd.results29 (.cons (.tmp rfl) (.cons (.tmp rfl) .nil)) rfl (zam [0] kr rfl)
    ·
     have h := zaU hb4 h
     refine zaK (zav (zah (zak (zae (zaf rfl dc rfl (zaf rfl dc rfl (zaR rfl dc rfl (zan zbR rfl dc rfl (show _ = 0 from rfl) (zan zdC rfl dc rfl (show _ = 1 from rfl) (zbo (i := 0) hrd rfl zex rfl dc rfl rfl (zbt (hrd.vw (i := 1) rfl) rfl dc rfl Tryd.underlying57 ?_)))))))))))
     obtain ⟨r2, hq2, h⟩ := zbN h
     refine zeK (vs := [zP bp1, zI 0, zI (p1.told_lines.length : Int)]) hrd rfl dc rfl rfl rfl zov (zfd (bp1 := bp1) (p1 := p1) (p1_h0 := p1_h0) (p1_h1 := p1_h1) hq2) Splits.nil (.ro 0 rfl (.ro 1 rfl (.ro 2 rfl .nil))) ?_
     rintro v1
     show TO _ _ _ _ _ _ _ _ _ _ [zcU encN_T_string zao 48 1 v1 r2]
     refine zb3 (L' := [zcU encN_T_string zao 48 1 v1 r2]) (zam [0] kr rfl) ?_
     refine ziH (k := 0) rfl (fun hd1 he1 => ?_)
     subst he1
     refine zai rfl dc rfl (zaj (zah (zak (zae (zaf rfl dc rfl (zaR rfl dc rfl (zan zbR rfl dc rfl (show _ = 0 from rfl) (zan zdC rfl dc rfl (show _ = 1 from rfl) (zbo (i := 0) hrd rfl zex rfl dc rfl rfl (zaf rfl dc rfl ?_))))))))))
     obtain ⟨q1, hq3, h⟩ := zbN h
     refine zbd (hrd.vw (i := 1) rfl) hq3 Tryd.underlying57 zfF rfl dc rfl rfl rfl (zc2 (m := 0 + (k1 : Int).toNat) (j := 0) (i := 1) (q := q1) (cs := [.string q1.Text, zI q1.Indent, zI q1.Stanza, zI q1.In, zI q1.Span_From, zI q1.Span_To]) hrd rfl zgd zbM rfl dc rfl (Vw.get (hrd.vw (i := 1) rfl) hq3) rfl rfl rfl ?_)
     refine zbv zia rfl dc (fun b1 => ?_)
     refine za4 (k := 1) (vs := [.string q1.Text, zI q1.Indent, zI q1.Stanza, zI q1.In, zI q1.Span_From, zI q1.Span_To]) (l' := [.string q1.Text, zI q1.Indent, zI q1.Stanza, zI q1.In, zI q1.Span_From, zI q1.Span_To]) zfF rfl rfl rfl rfl rfl (show _ ≤ _ by simp) rfl rfl ?_
     show TO _ _ _ _ _ _ _ _ _ _ [zcU encN_T_string zao 48 1 hd1.v r2, cells b1 [.string q1.Text, zI q1.Indent, zI q1.Stanza, zI q1.In, zI q1.Span_From, zI q1.Span_To] 36]
     refine zaj (zah (zak ?_))
     refine zdO (k := 0) rfl zjC (fun zs1 hz1 => ?_)
     show TC _ _ _ _ _ _ _ _ _ [vec encN_T_string 48 1 hd1.v zs1, cells b1 [.string q1.Text, zI q1.Indent, zI q1.Stanza, zI q1.In, zI q1.Span_From, zI q1.Span_To] 36, own zao zs1]
     obtain ⟨x1, hq4, h⟩ := zbN h
     obtain ⟨eh1, eq1⟩ := zd3 hz1 hq4
     obtain ⟨q2, hq5, h⟩ := zbN h
     refine zdO (k := 2) rfl (zli (zbz eq1)) (fun _ _ => ?_)
     show TC _ _ _ _ _ _ _ _ _ [vec encN_T_string 48 1 hd1.v zs1, cells b1 [.string q1.Text, zI q1.Indent, zI q1.Stanza, zI q1.In, zI q1.Span_From, zI q1.Span_To] 36, own zao (zs1.eraseIdx ((q1.Stanza : Int).toNat)), vec encS 9 1 eh1.v x1]
     refine zb0 8 [(0, 50, hd1.v), (1, 51, .pointer (some ⟨b1, 2, none⟩)), (2, 52, zI q1.Stanza), (3, 53, .pointer (some ⟨zeD hd1.v, (q1.Stanza : Int).toNat * 1, none⟩)), (4, 54, eh1.v), (5, 55, .pointer (some ⟨b1, 3, none⟩)), (6, 56, zI q1.In), (7, 57, .string line1)] mixed kr kr dc (by rfl) kr kr (zad ?_ (zad ?_ (zad ?_ (zad ?_ (zad ?_ (zad ?_ (zad ?_ (zad ?_ DrawPre.nil)))))))) ?_
     ·
      intro D hn hd hcl hu hi
      refine zaf rfl dc (zaL (by rfl) rfl) ?_
      exact zag 0 hu hi rfl
     ·
      intro D hn hd hcl hu hi
      refine zan zhT rfl dc (zaL (by rfl) rfl) (show _ = 2 from rfl) ?_
      exact zag 1 hu hi rfl
     ·
      intro D hn hd hcl hu hi
      refine zaM (k := 1) zeL rfl dc (zac (m := 1) hu rfl (hd 1 dc)) rfl rfl ?_
      exact zag 2 hu hi rfl
     ·
      intro D hn hd hcl hu hi
      refine zbK (k := 0) eq1 Tryd.underlying54 zez rfl dc (zac (m := 0) hu rfl (hd 0 dc)) (zac (m := 2) hu rfl (hd 2 dc)) rfl rfl ?_
      exact zag 3 hu hi rfl
     ·
      intro D hn hd hcl hu hi
      refine zcV (i := (q1.Stanza : Int).toNat) (j := 0) (k := 0) (q := (x1, eh1)) ze8 zba rfl dc (zac (m := 3) hu rfl (hd 3 dc)) rfl (zbz eq1) rfl dc rfl ?_
      exact zag 4 hu hi rfl
     ·
      intro D hn hd hcl hu hi
      refine zan znL rfl dc (zaL (by rfl) rfl) (show _ = 3 from rfl) ?_
      exact zag 5 hu hi rfl
     ·
      intro D hn hd hcl hu hi
      refine zaM (k := 1) zeL rfl dc (zac (m := 5) hu rfl (hd 5 dc)) rfl rfl ?_
      exact zag 6 hu hi rfl
     ·
      intro D hn hd hcl hu hi
      refine zaf rfl dc (zaL (by rfl) rfl) ?_
      exact zag 7 hu hi rfl
     refine zbK (k := 3) hq5 Tryd.underlying48 zk9 rfl dc rfl rfl rfl rfl ?_
     refine zfz (i := (q1.In : Int).toNat) (j := 0) (k := 3) (q := q2) (q' := line1) zk9 zev rfl rfl rfl rfl (zbz hq5) rfl dc rfl (fun _ _ => rfl) ?_
     refine zaj (zah (zak (zae (zaf rfl dc rfl (zaR rfl dc rfl (zan zbR rfl dc rfl (show _ = 0 from rfl) (zan zfw rfl dc rfl (show _ = 0 from rfl) (zbo (i := 0) hrd rfl zgN rfl dc rfl rfl (zaf rfl dc rfl (znw (k := 0) rfl (zkK (zlI (zbz eq1)).symm (q1 := (x1, eh1)) (q2 := (x1.set (q1.In : Int).toNat line1, eh1)) zba rfl) (zew (k := 2) rfl (zam [3] kr rfl) rfl (zki (nest := zao) (zs := zs1) (z := (x1.set (q1.In : Int).toNat line1, eh1)) (ziS (zbz eq1)) zgp) ?_)))))))))))
     show TO _ _ _ _ _ _ _ _ _ _ [vec encN_T_string 48 1 hd1.v (zs1.set ((q1.Stanza : Int).toNat) (x1.set (q1.In : Int).toNat line1, eh1)), cells b1 [.string q1.Text, zI q1.Indent, zI q1.Stanza, zI q1.In, zI q1.Span_From, zI q1.Span_To] 36, own zao (zs1.set ((q1.Stanza : Int).toNat) (x1.set (q1.In : Int).toNat line1, eh1)), emp]
     refine zgG (k := 0) rfl (fun hw1 => ?_)
     obtain ⟨r3, hq6, h⟩ := zbN h
     refine zeK (vs := [.string p1.told_title, hd1.v]) hrd rfl dc rfl rfl rfl zou (zg4 (vstanzas1 := hd1) hw1 (zoU hz1) hq6) Splits.nil (.own (As := [vec encN_T_string 48 1 hd1.v (zs1.set ((q1.Stanza : Int).toNat) (x1.set (q1.In : Int).toNat line1, eh1))]) (zam [0] (by kernel_rfl) rfl) (fun _ _ h => zld zba (sepL.one1.1 h)) (.own (As := [own zao (zs1.set ((q1.Stanza : Int).toNat) (x1.set (q1.In : Int).toNat line1, eh1))]) (zam [2] (by kernel_rfl) rfl) (fun _ _ h => zjx zfa (sepL.one1.1 h)) .nil)) ?_
     rintro v2
     show TO _ _ _ _ _ _ _ _ _ _ [vec encN_T_string 48 1 hd1.v (zs1.set ((q1.Stanza : Int).toNat) (x1.set (q1.In : Int).toNat line1, eh1)), cells b1 [.string q1.Text, zI q1.Indent, zI q1.Stanza, zI q1.In, zI q1.Span_From, zI q1.Span_To] 36, own zao (zs1.set ((q1.Stanza : Int).toNat) (x1.set (q1.In : Int).toNat line1, eh1)), emp, zd5 zaB zaz 93 v2 r3.1]
     refine zb3 (L' := [vec encN_T_string 48 1 hd1.v (zs1.set ((q1.Stanza : Int).toNat) (x1.set (q1.In : Int).toNat line1, eh1)), cells b1 [.string q1.Text, zI q1.Indent, zI q1.Stanza, zI q1.In, zI q1.Span_From, zI q1.Span_To] 36, own zao (zs1.set ((q1.Stanza : Int).toNat) (x1.set (q1.In : Int).toNat line1, eh1)), emp, zd5 zaB zaz 93 v2 r3.1]) (zam [0, 1, 2, 3, 4] kr rfl) (zaZ rfl dc rfl rfl (zaZ rfl dc rfl rfl (zai rfl dc rfl (zai rfl dc rfl (zaj (zah (zaQ ?_)))))))
     cases h
     exact zaW (rs := [.tmp 6, .tmp 7]) v2 (.inl rfl) Tryd.results29 (.cons (.tmp rfl) (.cons (.tmp rfl) .nil)) rfl (zam [4] kr rfl)
end Go.Proofs.YtgfkogafkhbgnaaDoor
namespace Go.Proofs.YtgfkogafkhbgnaaDoor
open Go.RowKit Go.Lib
set_option linter.unusedVariables false
set_option linter.unusedSimpArgs false
theorem zeA (a b : List UInt8) : mkB a ++ mkB b = mkB (a ++ b) := by
  have h : ∀ a b : ByteArray, a.data.toList = b.data.toList → a = b := fun a b h => by
    have : mkB a.data.toList = mkB b.data.toList := by rw [h]
    exact this
  apply h
  rw [ByteArray.data_append, Array.toList_append]
  rfl
abbrev Row := List (List UInt8)
def lnT (r : Row) : List UInt8 := r.flatMap (· ++ [10])
def zkS (a : List UInt8) : List UInt8 := if a = [] then a else a ++ [10]
def zgg (t : List UInt8) : List Row → Bool
  | (x :: _) :: _ => decide (t ≠ []) || zh9 x
  | _ => decide (t ≠ [])
def zhd (t : List UInt8) (z : List Row) : List UInt8 := if zgg t z then 35 :: 32 :: t ++ [10] else []
def prF (a : List UInt8) (z : List Row) : List UInt8 := z.foldl (fun a r => zkS a ++ lnT r) a
/-- The one form. -/
def prT (t : List UInt8) (z : List Row) : List UInt8 := prF (zhd t z) z
def wtR (r : Row) : Nat := (r.map fun x => x.length + 1).sum
def wtZ (z : List Row) : Nat := (z.map fun r => 1 + wtR r).sum
theorem zfq (x : List UInt8) (r : Row) : wtR (x :: r) = x.length + 1 + wtR r := by unfold wtR; rw [List.map_cons, List.sum_cons]
theorem wtZ_cons (r : Row) (z : List Row) : wtZ (r :: z) = 1 + wtR r + wtZ z := by unfold wtZ; rw [List.map_cons, List.sum_cons]
theorem zfu (x : List UInt8) (r : Row) : lnT (x :: r) = x ++ [10] ++ lnT r := List.flatMap_cons
theorem zmb (r : Row) : (lnT r).length = wtR r := by
  induction r with
  | nil => rfl
  | cons x r ih => rw [zfu, zfq, List.length_append, List.length_append, ih]; rfl
theorem wtR_len (r : Row) : r.length ≤ wtR r := by
  induction r with
  | nil => exact Nat.le_refl _
  | cons x r ih => rw [zfq, List.length_cons]; omega
theorem wtZ_len (z : List Row) : z.length ≤ wtZ z := by
  induction z with
  | nil => exact Nat.le_refl _
  | cons r z ih => rw [wtZ_cons, List.length_cons]; omega
theorem zkR (a : List UInt8) : (zkS a).length ≤ a.length + 1 := by
  unfold zkS; split
  · omega
  · rw [List.length_append]; simp
theorem zjL (t : List UInt8) (z : List Row) : (zhd t z).length ≤ t.length + 3 := by
  unfold zhd; split
  · simp
  · simp
theorem zlj (r : Row) (J : ByteArray → Option ByteArray) (a0 : List UInt8) (hb : a0.length + wtR r ≤ 140737488354000) : ∀ (n i : Nat) (a : List UInt8), i ≤ r.length → r.length - i < n → a.length + wtR (r.drop i) ≤ 140737488354000 →
    za2 (fun _ _ => none) (zcw J (r.map mkB)) n (mkB a) (i : Int) = J (mkB (a ++ lnT (r.drop i))) := by
  intro n
  induction n with
  | zero => intro i a h1 h2; omega
  | succ n ih =>
    intro i a hi hn ha
    rw [zbq]
    obtain ⟨ag, hag⟩ : ∃ ag, ag = za2 (fun _ _ => none) (zcw J (r.map mkB)) n := ⟨_, rfl⟩
    rw [← hag] at ih ⊢
    unfold zcw
    have hrl := wtR_len r
    rcases Nat.lt_or_ge i r.length with h | h
    · have hd : r.drop i = r[i] :: r.drop (i + 1) := List.drop_eq_getElem_cons h
      rw [hd, zfq] at ha
      have hg : zdk (r.map mkB) (i : Int) = some (mkB r[i]) := zcb (by rw [List.getElem?_map, List.getElem?_eq_getElem h]; rfl)
      refine zaY (decide_eq_true (by rw [List.length_map]; omega)) (za7 hg ?_)
      rw [show (⟨#[10]⟩ : ByteArray) = mkB [10] from rfl, zeA, zeA]
      refine zcq (by rw [za0, za0]; simp only [List.length_singleton]; omega) (zcq (by rw [za0, za0, List.length_append]; simp only [List.length_singleton]; omega) (zcq ⟨by omega, by omega⟩ ?_))
      rw [show (i : Int) + 1 = ((i + 1 : Nat) : Int) by omega, ih (i + 1) _ (by omega) (by omega) (by rw [List.length_append, List.length_append]; simp only [List.length_singleton]; omega), hd, zfu]
      simp only [List.append_assoc]
    · rw [List.drop_eq_nil_of_le h]
      refine zaP (decide_eq_false (by rw [List.length_map]; omega)) ?_
      show J (mkB a) = J (mkB (a ++ []))
      rw [List.append_nil]
theorem zkj (z : List Row) (hz : z.length ≤ 140737488354000) (J : ByteArray → Option ByteArray) : ∀ (n i : Nat) (a : List UInt8), i ≤ z.length → z.length - i < n → a.length + wtZ (z.drop i) ≤ 140737488354000 →
    za2 (fun _ _ => none) (zbP (mkZ z) J) n (mkB a) (i : Int) = J (mkB (prF a (z.drop i))) := by
  intro n
  induction n with
  | zero => intro i a h1 h2; omega
  | succ n ih =>
    intro i a hi hn ha
    rw [zbq]
    obtain ⟨ag, hag⟩ : ∃ ag, ag = za2 (fun _ _ => none) (zbP (mkZ z) J) n := ⟨_, rfl⟩
    rw [← hag] at ih ⊢
    unfold zbP
    rcases Nat.lt_or_ge i z.length with h | h
    · have hd : z.drop i = z[i] :: z.drop (i + 1) := List.drop_eq_getElem_cons h
      have hdl := wtZ_len (z.drop i)
      rw [List.length_drop] at hdl
      rw [hd, wtZ_cons] at ha
      have hg : zdk (mkZ z) (i : Int) = some (z[i].map mkB) := zcb (by unfold mkZ; rw [List.getElem?_map, List.getElem?_eq_getElem h]; rfl)
      have hsl := zkR a
      refine zaY (decide_eq_true (by rw [zcg]; omega)) (zcx (za7 hg (zcx ?_)))
      have hin := zlj z[i] (fun (b8 : ByteArray) => grd (I64 ((i : Int) + 1)) <| ag b8 ((i : Int) + 1)) (zkS a) (by omega) zbG 0 (zkS a) (Nat.zero_le _) (by have := wtR_len z[i]; unfold zbG; omega) (by rw [List.drop_zero]; omega)
      have fin : (grd (I64 ((i : Int) + 1)) <| ag (mkB (zkS a ++ lnT z[i])) ((i : Int) + 1)) = J (mkB (prF a (z.drop i))) := by
        rw [hd]
        refine zcq ⟨by omega, by omega⟩ ?_
        rw [show (i : Int) + 1 = ((i + 1 : Nat) : Int) by omega, ih (i + 1) _ (by omega) (by omega) (by rw [List.length_append, zmb]; omega)]
        rfl
      by_cases ha0 : a = []
      · subst ha0
        refine zaP (decide_eq_false (by rw [za0]; simp)) ?_
        refine hin.trans ?_
        rw [List.drop_zero]; exact fin
      · have hpos : 0 < a.length := List.length_pos_iff.2 ha0
        refine zaY (decide_eq_true (by rw [za0]; omega)) (zcq (by rw [za0]; show a.length + 1 ≤ _; omega) ?_)
        have e : zkS a = a ++ [10] := if_neg ha0
        rw [show (⟨#[10]⟩ : ByteArray) = mkB [10] from rfl, zeA, ← e]
        refine hin.trans ?_
        rw [List.drop_zero]; exact fin
    · rw [List.drop_eq_nil_of_le h]
      exact zaP (decide_eq_false (by rw [zcg]; omega)) rfl
/-- What printed answers. -/
theorem zjy (t : List UInt8) (z : List Row) (hne : ∀ r ∈ z, r ≠ []) (hw : t.length + 3 + wtZ z ≤ 140737488354000) : zcF (mkB t) (mkZ z) = some (mkB (prT t z)) := by
  have hzl := wtZ_len z
  unfold zcF
  refine zcx ?_
  have tail : ∀ b : List UInt8, b = zhd t z → (zbE (fun (j2 : ByteArray → Option ByteArray) => za2 (fun _ _ => none) (zbP (mkZ z) j2) zbG (mkB b) 0) (fun (b4 : ByteArray) => some b4)) = some (mkB (prT t z)) := fun b hb => by
    have hl := zjL t z
    have := zkj z (by omega) (fun (b4 : ByteArray) => some b4) zbG 0 b (Nat.zero_le _) (by unfold zbG; omega) (by rw [List.drop_zero, hb]; omega)
    rw [List.drop_zero] at this
    refine zcx (this.trans ?_)
    rw [hb]; rfl
  have hd : (grd ((⟨#[35, 32]⟩ : ByteArray).size + (mkB t).size ≤ 9223372036854775807) <| grd (((⟨#[35, 32]⟩ : ByteArray) ++ mkB t).size + (⟨#[10]⟩ : ByteArray).size ≤ 9223372036854775807) <|
      grd ((⟨#[]⟩ : ByteArray).size + (((⟨#[35, 32]⟩ : ByteArray) ++ mkB t) ++ (⟨#[10]⟩ : ByteArray)).size ≤ 140737488355328) <|
      (zbE (fun (j2 : ByteArray → Option ByteArray) => za2 (fun _ _ => none) (zbP (mkZ z) j2) zbG ((⟨#[]⟩ : ByteArray) ++ (((⟨#[35, 32]⟩ : ByteArray) ++ mkB t) ++ (⟨#[10]⟩ : ByteArray))) 0) (fun (b4 : ByteArray) => some b4))) =
        (zbE (fun (j2 : ByteArray → Option ByteArray) => za2 (fun _ _ => none) (zbP (mkZ z) j2) zbG (mkB (35 :: 32 :: t ++ [10])) 0) (fun (b4 : ByteArray) => some b4)) := by
    rw [show (⟨#[35, 32]⟩ : ByteArray) = mkB [35, 32] from rfl, show (⟨#[10]⟩ : ByteArray) = mkB [10] from rfl, show (⟨#[]⟩ : ByteArray) = mkB [] from rfl, zeA, zeA, zeA]
    refine zcq ?_ (zcq ?_ (zcq ?_ rfl))
    · rw [za0, za0]; simp only [List.length_cons, List.length_nil]; omega
    · rw [za0, za0, List.length_append]; simp only [List.length_cons, List.length_nil]; omega
    · rw [za0, za0, List.length_append, List.length_append]; simp only [List.length_cons, List.length_nil]; omega
  by_cases ht : t = []
  · subst ht
    refine zaP (by rw [show (⟨#[]⟩ : ByteArray) = mkB [] from rfl]; simp) ?_
    cases z with
    | nil => exact zaP (decide_eq_false (by simp [mkZ])) (tail [] rfl)
    | cons r z =>
      have hr := hne r (by simp)
      obtain ⟨x, r', rfl⟩ := List.exists_cons_of_ne_nil hr
      refine zaY (decide_eq_true (by rw [zcg, List.length_cons]; omega)) (za7 (a := (x :: r').map mkB) rfl (za7 (a := mkB x) rfl (za7 (zkP x) ?_)))
      cases hti : zh9 x with
      | true =>
        refine zaY rfl (hd.trans (tail _ ?_))
        have : zgg [] ((x :: r') :: z) = true := by show (decide (([] : List UInt8) ≠ []) || zh9 x) = true; rw [hti]; rfl
        unfold zhd; rw [this]; rfl
      | false =>
        refine zaP rfl (tail [] ?_)
        have : zgg [] ((x :: r') :: z) = false := by show (decide (([] : List UInt8) ≠ []) || zh9 x) = false; rw [hti]; rfl
        unfold zhd; rw [this]; rfl
  · refine zaY (by rw [show (⟨#[]⟩ : ByteArray) = mkB [] from rfl, decide_eq_false (fun e => ht (zgh e))]; rfl) (hd.trans (tail _ ?_))
    unfold zhd
    have : zgg t z = true := by
      unfold zgg
      split <;> simp [ht]
    rw [this]; rfl
end Go.Proofs.YtgfkogafkhbgnaaDoor
namespace Go.Proofs.YtgfkogafkhbgnaaDoor
open Go.RowKit Go.Lib
set_option linter.unusedVariables false
set_option linter.unusedSimpArgs false
theorem zlT (t : List UInt8) (z : List Row) (k : Nat) (r : Row) (hk : z[k]? = some r) (J : ByteArray → Option ByteArray) : ∀ (n i : Nat) (a : List UInt8), i ≤ r.length → r.length - i < n → a.length + wtR (r.drop i) ≤ 140737488354000 → r.length ≤ 140737488354000 →
    za2 (fun _ _ => none) (zcE (⟨mkB t, mkZ z⟩ : Gref17_Poem) (k : Int) J) n (mkB a) (i : Int) = J (mkB (a ++ lnT (r.drop i))) := by
  intro n
  induction n with
  | zero => intro i a h1 h2; omega
  | succ n ih =>
    intro i a hi hn ha hr
    rw [zbq]
    obtain ⟨ag, hag⟩ : ∃ ag, ag = za2 (fun _ _ => none) (zcE (⟨mkB t, mkZ z⟩ : Gref17_Poem) (k : Int) J) n := ⟨_, rfl⟩
    rw [← hag] at ih ⊢
    unfold zcE
    have hgz : zdk (mkZ z) (k : Int) = some (r.map mkB) := zcb (by unfold mkZ; rw [List.getElem?_map, hk]; rfl)
    refine za7 hgz ?_
    rcases Nat.lt_or_ge i r.length with h | h
    · have hd : r.drop i = r[i] :: r.drop (i + 1) := List.drop_eq_getElem_cons h
      rw [hd, zfq] at ha
      have hg : zdk (r.map mkB) (i : Int) = some (mkB r[i]) := zcb (by rw [List.getElem?_map, List.getElem?_eq_getElem h]; rfl)
      refine zaY (decide_eq_true (by rw [List.length_map]; omega)) (za7 hgz (za7 hg ?_))
      rw [show (⟨#[10]⟩ : ByteArray) = mkB [10] from rfl, zeA, zeA]
      refine zcq (by rw [za0, za0]; simp only [List.length_singleton]; omega) (zcq (by rw [za0, za0, List.length_append]; simp only [List.length_singleton]; omega) (zcq ⟨by omega, by omega⟩ ?_))
      rw [show (i : Int) + 1 = ((i + 1 : Nat) : Int) by omega, ih (i + 1) _ (by omega) (by omega) (by rw [List.length_append, List.length_append]; simp only [List.length_singleton]; omega) hr, hd, zfu]
      simp only [List.append_assoc]
    · rw [List.drop_eq_nil_of_le h]
      refine zaP (decide_eq_false (by rw [List.length_map]; omega)) ?_
      show J (mkB a) = J (mkB (a ++ []))
      rw [List.append_nil]
theorem zlc (t : List UInt8) (z : List Row) (hz : z.length ≤ 140737488354000) (J : ByteArray → Option ByteArray) : ∀ (n i : Nat) (a : List UInt8), i ≤ z.length → z.length - i < n → a.length + wtZ (z.drop i) ≤ 140737488354000 →
    za2 (fun _ _ => none) (zb8 (⟨mkB t, mkZ z⟩ : Gref17_Poem) J) n (mkB a) (i : Int) = J (mkB (prF a (z.drop i))) := by
  intro n
  induction n with
  | zero => intro i a h1 h2; omega
  | succ n ih =>
    intro i a hi hn ha
    rw [zbq]
    obtain ⟨ag, hag⟩ : ∃ ag, ag = za2 (fun _ _ => none) (zb8 (⟨mkB t, mkZ z⟩ : Gref17_Poem) J) n := ⟨_, rfl⟩
    rw [← hag] at ih ⊢
    unfold zb8
    rcases Nat.lt_or_ge i z.length with h | h
    · have hd : z.drop i = z[i] :: z.drop (i + 1) := List.drop_eq_getElem_cons h
      have hdl := wtZ_len (z.drop i)
      rw [List.length_drop] at hdl
      rw [hd, wtZ_cons] at ha
      have hsl := zkR a
      have hwr := wtR_len z[i]
      refine zaY (decide_eq_true (by show (i : Int) < ((mkZ z).length : Int); rw [zcg]; omega)) (zcx (zcx ?_))
      have hin := zlT t z i z[i] (List.getElem?_eq_getElem h) (fun (s6 : ByteArray) => grd (I64 ((i : Int) + 1)) <| ag s6 ((i : Int) + 1)) zbG 0 (zkS a) (Nat.zero_le _) (by unfold zbG; omega) (by rw [List.drop_zero]; omega) (by omega)
      have fin : (grd (I64 ((i : Int) + 1)) <| ag (mkB (zkS a ++ lnT z[i])) ((i : Int) + 1)) = J (mkB (prF a (z.drop i))) := by
        rw [hd]
        refine zcq ⟨by omega, by omega⟩ ?_
        rw [show (i : Int) + 1 = ((i + 1 : Nat) : Int) by omega, ih (i + 1) _ (by omega) (by omega) (by rw [List.length_append, zmb]; omega)]
        rfl
      by_cases ha0 : a = []
      · subst ha0
        refine zaP (by rw [show (⟨#[]⟩ : ByteArray) = mkB [] from rfl]; simp) ?_
        refine hin.trans ?_
        rw [List.drop_zero]; exact fin
      · refine zaY (by rw [show (⟨#[]⟩ : ByteArray) = mkB [] from rfl, decide_eq_false (fun e => ha0 (zgh e))]; rfl) (zcq (by rw [za0]; show a.length + 1 ≤ _; omega) ?_)
        have e : zkS a = a ++ [10] := if_neg ha0
        rw [show (⟨#[10]⟩ : ByteArray) = mkB [10] from rfl, zeA, ← e]
        refine hin.trans ?_
        rw [List.drop_zero]; exact fin
    · rw [List.drop_eq_nil_of_le h]
      exact zaP (decide_eq_false (by show ¬ (i : Int) < ((mkZ z).length : Int); rw [zcg]; omega)) rfl
/-- What reference 17's Print answers. -/
theorem zgQ (t : List UInt8) (z : List Row) (hne : ∀ r ∈ z, r ≠ []) (hw : t.length + 3 + wtZ z ≤ 140737488354000) : zcC (⟨mkB t, mkZ z⟩ : Gref17_Poem) = some (mkB (prT t z)) := by
  have hzl := wtZ_len z
  unfold zcC
  refine zcx ?_
  have tail : ∀ b : List UInt8, b = zhd t z → (zbE (fun (j2 : ByteArray → Option ByteArray) => za2 (fun _ _ => none) (zb8 (⟨mkB t, mkZ z⟩ : Gref17_Poem) j2) zbG (mkB b) 0) (fun (b4 : ByteArray) => some b4)) = some (mkB (prT t z)) := fun b hb => by
    have hl := zjL t z
    have := zlc t z (by omega) (fun (b4 : ByteArray) => some b4) zbG 0 b (Nat.zero_le _) (by unfold zbG; omega) (by rw [List.drop_zero, hb]; omega)
    rw [List.drop_zero] at this
    refine zcx (this.trans ?_)
    rw [hb]; rfl
  have hd : (grd ((⟨#[35, 32]⟩ : ByteArray).size + (mkB t).size ≤ 9223372036854775807) <| grd (((⟨#[35, 32]⟩ : ByteArray) ++ mkB t).size + (⟨#[10]⟩ : ByteArray).size ≤ 9223372036854775807) <|
      (zbE (fun (j2 : ByteArray → Option ByteArray) => za2 (fun _ _ => none) (zb8 (⟨mkB t, mkZ z⟩ : Gref17_Poem) j2) zbG (((⟨#[35, 32]⟩ : ByteArray) ++ mkB t) ++ (⟨#[10]⟩ : ByteArray)) 0) (fun (b4 : ByteArray) => some b4))) =
        (zbE (fun (j2 : ByteArray → Option ByteArray) => za2 (fun _ _ => none) (zb8 (⟨mkB t, mkZ z⟩ : Gref17_Poem) j2) zbG (mkB (35 :: 32 :: t ++ [10])) 0) (fun (b4 : ByteArray) => some b4)) := by
    rw [show (⟨#[35, 32]⟩ : ByteArray) = mkB [35, 32] from rfl, show (⟨#[10]⟩ : ByteArray) = mkB [10] from rfl, zeA, zeA]
    refine zcq ?_ (zcq ?_ rfl)
    · rw [za0, za0]; simp only [List.length_cons, List.length_nil]; omega
    · rw [za0, za0, List.length_append]; simp only [List.length_cons, List.length_nil]; omega
  by_cases ht : t = []
  · subst ht
    refine zaP (by show (!decide (mkB [] = (⟨#[]⟩ : ByteArray))) = false; rw [show (⟨#[]⟩ : ByteArray) = mkB [] from rfl]; simp) ?_
    cases z with
    | nil => exact zaP (decide_eq_false (by simp [mkZ])) (tail [] rfl)
    | cons r z =>
      have hr := hne r (by simp)
      obtain ⟨x, r', rfl⟩ := List.exists_cons_of_ne_nil hr
      refine zaY (decide_eq_true (by show (0 : Int) < ((mkZ ((x :: r') :: z)).length : Int); rw [zcg, List.length_cons]; omega)) (za7 (a := (x :: r').map mkB) rfl (za7 (a := mkB x) rfl (za7 (zhE x) ?_)))
      cases hti : zh9 x with
      | true =>
        refine zaY rfl (hd.trans (tail _ ?_))
        have : zgg [] ((x :: r') :: z) = true := by show (decide (([] : List UInt8) ≠ []) || zh9 x) = true; rw [hti]; rfl
        unfold zhd; rw [this]; rfl
      | false =>
        refine zaP rfl (tail [] ?_)
        have : zgg [] ((x :: r') :: z) = false := by show (decide (([] : List UInt8) ≠ []) || zh9 x) = false; rw [hti]; rfl
        unfold zhd; rw [this]; rfl
  · refine zaY (by show (!decide (mkB t = (⟨#[]⟩ : ByteArray))) = true; rw [show (⟨#[]⟩ : ByteArray) = mkB [] from rfl, decide_eq_false (fun e => ht (zgh e))]; rfl) (hd.trans (tail _ ?_))
    unfold zhd
    have : zgg t z = true := by
      unfold zgg
      split <;> simp [ht]
    rw [this]; rfl
/-! ### Counting -/
theorem zdJ (r : Row) (z : List Row) : tot (r :: z) = r.length + tot z := by unfold tot; rw [List.map_cons, List.sum_cons]
theorem zlM : ∀ (z : List Row), tot z ≤ wtZ z
  | [] => Nat.le_refl _
  | r :: z => by have := zlM z; have := wtR_len r; rw [zdJ, wtZ_cons]; omega
theorem ziO : ∀ (z : List Row) (i : Nat) (r : Row), z[i]? = some r → tot (z.take (i + 1)) = tot (z.take i) + r.length
  | [], i, r, h => by simp at h
  | y :: z, 0, r, h => by
    have : y = r := by simpa using h
    subst this
    rw [List.take_succ_cons, List.take_zero, List.take_zero, zdJ]; show y.length + 0 = 0 + y.length; omega
  | y :: z, i + 1, r, h => by
    rw [List.take_succ_cons, List.take_succ_cons, zdJ, zdJ, ziO z i r (by simpa using h)]; omega
theorem zgc : ∀ (z : List Row) (i : Nat), tot (z.take i) ≤ tot z
  | [], i => by simp
  | y :: z, 0 => by simp [tot]
  | y :: z, i + 1 => by rw [List.take_succ_cons, zdJ, zdJ]; have := zgc z i; omega
theorem ziz {R : Type} {F : (Int → Int → Option R) → Int → Int → Option R} (z : List Row) (hz : tot z ≤ 140737488354000) (hzl : z.length ≤ 140737488354000) (J : Int → Option R)
    (hs : ∀ ag (n i : Int) r, zdk (mkZ z) i = some r → (i : Int) < (z.length : Int) → I64 (n + (r.length : Int)) → I64 (i + 1) → F ag n i = ag (n + (r.length : Int)) (i + 1)) (he : ∀ ag n, F ag n (z.length : Int) = J n) :
    ∀ (n i : Nat), i ≤ z.length → z.length - i < n → za2 (fun _ _ => none) F n (tot (z.take i) : Int) (i : Int) = J (tot z : Int) := by
  intro n
  induction n with
  | zero => intro i h1 h2; omega
  | succ n ih =>
    intro i hi hn
    rw [zbq]
    rcases Nat.lt_or_ge i z.length with h | h
    · have hg : zdk (mkZ z) (i : Int) = some (z[i].map mkB) := zcb (by unfold mkZ; rw [List.getElem?_map, List.getElem?_eq_getElem h]; rfl)
      have h1 := ziO z i z[i] (List.getElem?_eq_getElem h)
      have h2 := zgc z (i + 1)
      rw [hs _ _ _ _ hg (by omega) (by rw [List.length_map]; exact ⟨by omega, by omega⟩) ⟨by omega, by omega⟩, List.length_map]
      rw [show (tot (z.take i) : Int) + (z[i].length : Int) = (tot (z.take (i + 1)) : Int) by omega, show (i : Int) + 1 = ((i + 1 : Nat) : Int) by omega]
      exact ih (i + 1) (by omega) (by omega)
    · obtain rfl : i = z.length := by omega
      rw [he, List.take_length]
theorem zlg (t : List UInt8) (z : List Row) (hz : tot z ≤ 140737488354000) (hzl : z.length ≤ 140737488354000) : zdv (⟨mkB t, mkZ z⟩ : Gref17_Poem) = some (tot z : Int) := by
  unfold zdv
  refine zcx ?_
  refine ziz z hz hzl (fun n1 => some n1) (fun ag n i r hg hi h1 h2 => ?_) (fun ag n => ?_) zbG 0 (Nat.zero_le _) (by unfold zbG; omega)
  · unfold zc6
    exact zaY (decide_eq_true (by show (i : Int) < ((mkZ z).length : Int); rw [zcg]; exact hi)) (za7 hg (zcq h1 (zcq h2 rfl)))
  · unfold zc6
    exact zaP (decide_eq_false (by show ¬ ((z.length : Int)) < ((mkZ z).length : Int); rw [zcg]; omega)) rfl
/-- What made answers. -/
theorem zl9 (t : List UInt8) (z : List Row) (hne : ∀ r ∈ z, r ≠ []) (hw : t.length + 3 + wtZ z ≤ 140737488354000) : zc7 (mkB t) (mkZ z) =
    if 512 < tot z ∨ 65536 < (prT t z).length then some (none, 3) else (zc8 (mkB (prT t z))).bind fun r => some (r.1, 0) := by
  unfold zc7
  have h1 := zlM z
  have h2 := wtZ_len z
  have key := ziz (F := zdp (mkZ z) (fun (n1 : Int) => zaE (zcF (mkB t) (mkZ z)) fun (r1 : ByteArray) => zaO (decide ((512 : Int) < n1)) (some (none, 3)) (zaO (decide ((65536 : Int) < (r1.size : Int))) (some (none, 3)) (zaE (zc8 r1) fun (r2 : ((Option Gpoem_Poem) × Gapi_Spot)) => some (r2.1, 0))))) z (by omega) (by omega)
    (fun (n1 : Int) => zaE (zcF (mkB t) (mkZ z)) fun (r1 : ByteArray) => zaO (decide ((512 : Int) < n1)) (some (none, 3)) (zaO (decide ((65536 : Int) < (r1.size : Int))) (some (none, 3)) (zaE (zc8 r1) fun (r2 : ((Option Gpoem_Poem) × Gapi_Spot)) => some (r2.1, 0))))
    (fun ag n i r hg hi h1 h2 => by
      unfold zdp
      exact zaY (decide_eq_true (by rw [zcg]; exact hi)) (za7 hg (zcq h1 (zcq h2 rfl))))
    (fun ag n => by
      unfold zdp
      exact zaP (decide_eq_false (by rw [zcg]; omega)) rfl) zbG 0 (Nat.zero_le _) (by unfold zbG; omega)
  refine zcx (key.trans ?_)
  refine za7 (zjy t z hne hw) ?_
  by_cases h512 : 512 < tot z
  · rw [if_pos (.inl h512)]; exact zaY (decide_eq_true (by omega)) rfl
  · refine zaP (decide_eq_false (by omega)) ?_
    by_cases hl : 65536 < (prT t z).length
    · rw [if_pos (.inr hl)]; exact zaY (decide_eq_true (by rw [za0]; omega)) rfl
    · rw [if_neg (by omega)]
      exact zaP (decide_eq_false (by rw [za0]; omega)) rfl
end Go.Proofs.YtgfkogafkhbgnaaDoor
namespace Go.Proofs.YtgfkogafkhbgnaaDoor
open Go.RowKit Go.Lib
set_option linter.unusedVariables false
set_option linter.unusedSimpArgs false
def noE (x : List UInt8) : Prop := ∀ b ∈ x, isE b = false
structure GLn (x : List UInt8) : Prop where
  bl : zgj x = false
  le : x.length ≤ 1024
  ne : noE x
/-! ### What a poem that was read is like -/
def zfW : Nat → Row → List (Nat × List UInt8)
  | _, [] => []
  | i, x :: r => (i, x) :: zfW (i + 1) r
def zfv : Nat → List Row → List (Nat × Nat × List UInt8)
  | _, [] => []
  | k, r :: z => (zfW 0 r).map (fun p => (k, p)) ++ zfv (k + 1) z
def zoW (v : Gapi_Verse) : ByteArray × Int × Int × Int := (v.Text, v.Indent, v.Stanza, v.In)
def zoX (p : Nat × Nat × List UInt8) : ByteArray × Int × Int × Int := (mkB (p.2.2.drop (ind p.2.2)), (ind p.2.2 : Int), (p.1 : Int), (p.2.1 : Int))
def VOk (vs : List Gapi_Verse) (z : List Row) : Prop := vs.map zoW = (zfv 0 z).map zoX
theorem zjS (x : List UInt8) : ∀ (r : Row) (i : Nat), zfW i (r ++ [x]) = zfW i r ++ [(i + r.length, x)]
  | [], i => rfl
  | y :: r, i => by
    show (i, y) :: zfW (i + 1) (r ++ [x]) = _
    rw [zjS x r (i + 1), List.length_cons, show i + 1 + r.length = i + (r.length + 1) by omega]; rfl
theorem zgx : ∀ (a b : List Row) (k : Nat), zfv k (a ++ b) = zfv k a ++ zfv (k + a.length) b
  | [], b, k => rfl
  | r :: a, b, k => by
    show _ ++ zfv (k + 1) (a ++ b) = _
    rw [zgx a b (k + 1), List.length_cons, show k + 1 + a.length = k + (a.length + 1) by omega, ← List.append_assoc]; rfl
theorem zhR (r : Row) (k : Nat) : zfv k [r] = (zfW 0 r).map (fun p => (k, p)) := List.append_nil _
structure PInv (st : RS) : Prop extends RInv st where
  vok : VOk st.vs st.stz
  tE : noE st.t
  tL : st.t.length ≤ 1022
  ln : ∀ r ∈ st.stz, ∀ x ∈ r, GLn x
  fr : ∀ v ∈ st.vs, 0 ≤ v.Span_From
theorem zlt (st : RS) : zfv 0 (zcn st) = zfv 0 st.stz := by
  unfold zcn
  split
  · rfl
  · rw [zgx, zhR]; exact List.append_nil _
theorem PInv.step {st st' : RS} {x : Nat × List UInt8} (h : PInv st) (hx : noE x.2) (hs : zd2 st x = .ok st') : PInv st' := by
  refine ⟨h.toRInv.step hs, ?_, ?_, ?_, ?_, ?_⟩ <;> unfold zd2 at hs
  all_goals
    split at hs
    · cases hs; first | exact h.vok | exact h.tE | exact h.tL | exact h.ln | exact h.fr
    split at hs
    · cases hs
    split at hs
  · cases hs; exact h.vok
  · split at hs
    · cases hs
    · cases hs
      obtain ⟨init, r, he, hl, hdl, htot, hsp⟩ := ziW h.toRInv
      show (st.vs ++ [zfI x.1 x.2 (zcn st)]).map zoW = (zfv 0 ((zcn st).dropLast ++ [zeB (zcn st) ++ [x.2]])).map zoX
      rw [hdl, hl, zgx, zhR, zjS, List.map_append, List.map_append, List.map_append, List.map_append, ← List.append_assoc]
      have h2 : zfv 0 st.stz = zfv 0 init ++ (zfW 0 r).map (fun p => (init.length, p)) := by
        rw [← zlt, he, zgx, zhR, Nat.zero_add]
      have h3 := h.vok
      unfold VOk at h3
      rw [h3, h2, List.map_append, Nat.zero_add]
      congr 1
      unfold zfI zoW
      rw [hl, he]
      simp [zoX]
  · rename_i ht
    cases hs
    intro b hb
    exact hx b (List.mem_of_mem_drop hb)
  · split at hs
    · cases hs
    · cases hs; exact h.tE
  · rename_i hl ht
    cases hs
    show (x.2.drop 2).length ≤ 1022
    rw [List.length_drop]; omega
  · split at hs
    · cases hs
    · cases hs; exact h.tL
  · cases hs; exact h.ln
  · rename_i hb hl ht
    split at hs
    · cases hs
    · cases hs
      obtain ⟨init, r, he, hl2, hdl, htot, hsp⟩ := ziW h.toRInv
      intro r' hr' y hy
      have hold : ∀ r ∈ zcn st, ∀ x ∈ r, GLn x := fun r hr x hx => by
        unfold zcn at hr
        split at hr
        · exact h.ln r hr x hx
        · rcases List.mem_append.1 hr with hr | hr
          · exact h.ln r hr x hx
          · rw [List.mem_singleton] at hr; subst hr; cases hx
      have hr2 : r' ∈ (zcn st).dropLast ++ [zeB (zcn st) ++ [x.2]] := hr'
      rw [hdl, hl2] at hr2
      rcases List.mem_append.1 hr2 with hr2 | hr2
      · exact hold r' (by rw [he]; exact List.mem_append_left _ hr2) y hy
      · rw [List.mem_singleton] at hr2
        subst hr2
        rcases List.mem_append.1 hy with hy | hy
        · exact hold r (by rw [he]; simp) y hy
        · rw [List.mem_singleton] at hy
          subst hy
          exact ⟨by simpa using hb, by omega, hx⟩
  · cases hs; exact h.fr
  · split at hs
    · cases hs
    · cases hs
      intro v hv
      rcases List.mem_append.1 (show v ∈ st.vs ++ [zfI x.1 x.2 (zcn st)] from hv) with hv | hv
      · exact h.fr v hv
      · rw [List.mem_singleton] at hv; subst hv
        show (0 : Int) ≤ (x.1 : Int) + (ind x.2 : Int)
        omega
theorem zpa : PInv rs0 := ⟨zkg, rfl, (fun b hb => by cases hb), Nat.zero_le _, (fun r hr => by cases hr), (fun v hv => by cases hv)⟩
theorem PInv.fold : ∀ {xs : List (Nat × List UInt8)} {st st' : RS}, PInv st → (∀ x ∈ xs, noE x.2) → zde st xs = .ok st' → PInv st'
  | [], st, st', h, hx, hs => by cases hs; exact h
  | x :: xs, st, st', h, hx, hs => by
    unfold zde at hs
    cases he : zd2 st x with
    | ok s1 => rw [he] at hs; exact PInv.fold (h.step (hx x (by simp)) he) (fun y hy => hx y (by simp [hy])) hs
    | error e => rw [he] at hs; cases hs
theorem zmc (T : List UInt8) : ∀ x ∈ zfi T, noE x.2 := by
  intro x hx
  obtain ⟨y, hy, rfl⟩ := List.mem_map.1 hx
  exact (ziR T y hy).2.2
theorem zpb {T : List UInt8} {st : RS} (h : rd T = .ok st) : PInv st ∧ T.length ≤ 65536 := by
  unfold rd at h
  split at h
  · cases h
  · exact ⟨PInv.fold zpa (zmc T) h, by omega⟩
/-! ### The lines of what is printed -/
def plL : Bool → List Row → Row
  | _, [] => []
  | a, r :: z => (if a then [[]] else []) ++ r ++ plL true z
def zlq (t : List UInt8) (z : List Row) : Row := if zgg t z then [35 :: 32 :: t] else []
theorem zkn (a b : Row) : lnT (a ++ b) = lnT a ++ lnT b := List.flatMap_append
theorem zom {r : Row} (h : r ≠ []) : lnT r ≠ [] := by
  obtain ⟨x, r, rfl⟩ := List.exists_cons_of_ne_nil h
  rw [zfu]; simp
theorem zno : ∀ (z : List Row) (a : List UInt8), (∀ r ∈ z, r ≠ []) → prF a z = a ++ lnT (plL (decide (a ≠ [])) z)
  | [], a, h => (List.append_nil _).symm
  | r :: z, a, h => by
    show prF (zkS a ++ lnT r) z = _
    have hne : zkS a ++ lnT r ≠ [] := by
      intro e
      exact zom (h r (by simp)) (List.append_eq_nil_iff.1 e).2
    rw [zno z _ (fun y hy => h y (by simp [hy])), decide_eq_true hne]
    show _ = a ++ lnT ((if decide (a ≠ []) = true then [[]] else []) ++ r ++ plL true z)
    rw [zkn, zkn]
    by_cases ha : a = []
    · subst ha
      simp [zkS, lnT]
    · have e : zkS a = a ++ [10] := if_neg ha
      rw [decide_eq_true ha, if_pos rfl, e]
      show a ++ [10] ++ lnT r ++ _ = a ++ ([10] ++ lnT r ++ _)
      simp only [List.append_assoc]
def prL (t : List UInt8) (z : List Row) : Row := zlq t z ++ plL (zgg t z) z
theorem zl0 (t : List UInt8) (z : List Row) (h : ∀ r ∈ z, r ≠ []) : prT t z = lnT (prL t z) := by
  unfold prT prL zlq zhd
  rw [zno z _ h, zkn]
  cases zgg t z with
  | true =>
    have e1 : ((if true = true then (35 :: 32 :: t ++ [10]) else []) : List UInt8) = 35 :: 32 :: t ++ [10] := rfl
    have e2 : decide ((35 :: 32 :: t ++ [10] : List UInt8) ≠ []) = true := decide_eq_true (by simp)
    rw [e1, e2]
    show _ = lnT [35 :: 32 :: t] ++ _
    rw [zfu]
    show _ = 35 :: 32 :: t ++ [10] ++ [] ++ _
    rw [List.append_nil]
  | false => rfl
def itL : Nat → Row → List (Nat × List UInt8)
  | _, [] => []
  | f, x :: r => (f, x) :: itL (f + x.length + 1) r
theorem ziX : ∀ (a b : Row) (f : Nat), itL f (a ++ b) = itL f a ++ itL (f + wtR a) b
  | [], b, f => rfl
  | x :: a, b, f => by
    show _ :: itL (f + x.length + 1) (a ++ b) = _
    rw [ziX a b, zfq, show f + x.length + 1 + wtR a = f + (x.length + 1 + wtR a) by omega]; rfl
def zo9 : Nat → Row → List (Nat × Nat)
  | f, [] => [(f, f)]
  | f, x :: r => (f, f + x.length) :: zo9 (f + x.length + 1) r
theorem zlO : ∀ (x t : List UInt8) (f a : Nat), noE x → spP false f a (x ++ t) = spP false f (a + x.length) t
  | [], t, f, a, h => rfl
  | b :: x, t, f, a, h => by
    have hb := h b (by simp)
    have h13 : b ≠ 13 := fun e => by rw [e] at hb; cases hb
    have h10 : b ≠ 10 := fun e => by rw [e] at hb; cases hb
    rw [List.cons_append, spP, if_neg h13, if_neg h10, zlO x t f (a + 1) (fun y hy => h y (by simp [hy])), List.length_cons, show a + 1 + x.length = a + (x.length + 1) by omega]
theorem zjq : ∀ (r : Row) (f : Nat), (∀ x ∈ r, noE x) → spP false f f (lnT r) = zo9 f r
  | [], f, h => rfl
  | x :: r, f, h => by
    rw [zfu, List.append_assoc, zlO x _ f f (h x (by simp))]
    show spP false f (f + x.length) (10 :: lnT r) = _
    rw [spP, if_neg (by decide), if_pos rfl, zjq r _ (fun y hy => h y (by simp [hy]))]
    rfl
theorem zhM : ∀ (r : Row) (pre : List UInt8) (f : Nat), pre.length = f → (zo9 f r).map (fun x => (x.1, ((pre ++ lnT r).drop x.1).take (x.2 - x.1))) = itL f r ++ [(f + wtR r, [])]
  | [], pre, f, h => by
    show [(f, _)] = [(f + 0, [])]
    rw [Nat.sub_self, List.take_zero]; rfl
  | x :: r, pre, f, h => by
    show (f, _) :: _ = (f, x) :: _
    have h2 := zhM r (pre ++ (x ++ [10])) (f + x.length + 1) (by rw [List.length_append, List.length_append]; simp; omega)
    rw [zfu]
    congr 1
    · congr 1
      rw [← h, List.drop_left, show pre.length + x.length - pre.length = x.length by omega, List.append_assoc, List.take_left]
    · rw [List.append_assoc] at h2
      rw [h2, zfq, show f + x.length + 1 + wtR r = f + (x.length + 1 + wtR r) by omega]
      rfl
theorem zmU (r : Row) (h : ∀ x ∈ r, noE x) : zfi (lnT r) = itL 0 r ++ [(wtR r, [])] := by
  unfold zfi zcl
  rw [zjq r 0 h]
  have := zhM r [] 0 rfl
  rw [Nat.zero_add] at this
  exact this
/-! ### Reading them -/
theorem zfL : ∀ (xs ys : List (Nat × List UInt8)) (st st' : RS), zde st xs = .ok st' → zde st (xs ++ ys) = zde st' ys
  | [], ys, st, st', h => by cases h; rfl
  | x :: xs, ys, st, st', h => by
    unfold zde at h
    rw [List.cons_append]
    conv => lhs; unfold zde
    cases he : zd2 st x with
    | ok s1 => rw [he] at h; exact zfL xs ys s1 st' h
    | error e => rw [he] at h; cases h
theorem zit {st : RS} {f : Nat} {x : List UInt8} (hx : GLn x) (ht : ¬ (st.first = true ∧ zh9 x = true)) (hl : st.vs.length < 512) : zd2 st (f, x) = .ok (zhZ st f x) := by
  unfold zd2
  rw [if_neg (by rw [hx.bl]; decide), if_neg (by have := hx.le; show ¬ 1024 < x.length; omega), if_neg ht, if_neg (by omega)]
theorem zkV : ∀ (r : Row) (st : RS) (f : Nat) (init : List Row) (cur : Row), (∀ x ∈ r, GLn x) → st.row = true → st.first = false → st.stz = init ++ [cur] → st.vs.length + r.length ≤ 512 →
    ∃ st', zde st (itL f r) = .ok st' ∧ st'.t = st.t ∧ st'.stz = init ++ [cur ++ r] ∧ st'.row = true ∧ st'.first = false ∧ st'.vs.length = st.vs.length + r.length
  | [], st, f, init, cur, hg, hr, hf, hz, hl => ⟨st, rfl, rfl, by rw [hz, List.append_nil], hr, hf, rfl⟩
  | x :: r, st, f, init, cur, hg, hr, hf, hz, hl => by
    rw [List.length_cons] at hl
    have hs : zd2 st (f, x) = .ok (zhZ st f x) := zit (hg x (by simp)) (by rw [hf]; simp) (by omega)
    have ho : zcn st = init ++ [cur] := by unfold zcn; rw [hr, if_pos rfl, hz]
    have hz' : (zhZ st f x).stz = init ++ [cur ++ [x]] := by
      show (zcn st).dropLast ++ [zeB (zcn st) ++ [x]] = _
      rw [ho, List.dropLast_concat]
      congr 2
      unfold zeB; rw [List.getLastD_concat]
    obtain ⟨st', h1, h2, h3, h4, h5, h6⟩ := zkV r (zhZ st f x) (f + x.length + 1) init (cur ++ [x]) (fun y hy => hg y (by simp [hy])) rfl rfl hz' (by show (st.vs ++ [_]).length + r.length ≤ 512; rw [List.length_append, List.length_singleton]; omega)
    refine ⟨st', ?_, h2, by rw [h3, List.append_assoc]; rfl, h4, h5, ?_⟩
    · show zde st ((f, x) :: itL (f + x.length + 1) r) = _
      unfold zde
      rw [hs]; exact h1
    · rw [h6]
      show (st.vs ++ [_]).length + _ = _
      rw [List.length_append, List.length_singleton, List.length_cons]; omega
theorem zm1 (r : Row) (st : RS) (f : Nat) (hg : ∀ x ∈ r, GLn x) (hne : r ≠ []) (hr : st.row = false) (hf : st.first = true → ∀ x, r.head? = some x → zh9 x = false) (hl : st.vs.length + r.length ≤ 512) :
    ∃ st', zde st (itL f r) = .ok st' ∧ st'.t = st.t ∧ st'.stz = st.stz ++ [r] ∧ st'.row = true ∧ st'.first = false ∧ st'.vs.length = st.vs.length + r.length := by
  obtain ⟨x, r, rfl⟩ := List.exists_cons_of_ne_nil hne
  rw [List.length_cons] at hl
  have hs : zd2 st (f, x) = .ok (zhZ st f x) := zit (hg x (by simp)) (fun ⟨a, b⟩ => by rw [hf a x rfl] at b; cases b) (by omega)
  have ho : zcn st = st.stz ++ [[]] := by unfold zcn; rw [hr, if_neg (by decide)]
  have hz' : (zhZ st f x).stz = st.stz ++ [[x]] := by
    show (zcn st).dropLast ++ [zeB (zcn st) ++ [x]] = _
    rw [ho, List.dropLast_concat]
    congr 2
    unfold zeB; rw [List.getLastD_concat]; rfl
  obtain ⟨st', h1, h2, h3, h4, h5, h6⟩ := zkV r (zhZ st f x) (f + x.length + 1) st.stz [x] (fun y hy => hg y (by simp [hy])) rfl rfl hz' (by show (st.vs ++ [_]).length + r.length ≤ 512; rw [List.length_append, List.length_singleton]; omega)
  refine ⟨st', ?_, h2, h3, h4, h5, ?_⟩
  · show zde st ((f, x) :: itL (f + x.length + 1) r) = _
    unfold zde
    rw [hs]; exact h1
  · rw [h6]
    show (st.vs ++ [_]).length + _ = _
    rw [List.length_append, List.length_singleton, List.length_cons]; omega
theorem zmj : ∀ (z : List Row) (a : Bool) (st : RS) (f : Nat), (∀ r ∈ z, r ≠ []) → (∀ r ∈ z, ∀ x ∈ r, GLn x) → (a = false → st.row = false) → (st.first = true → ∀ r x, z.head? = some r → r.head? = some x → zh9 x = false) → st.vs.length + tot z ≤ 512 →
    ∃ st', zde st (itL f (plL a z)) = .ok st' ∧ st'.t = st.t ∧ st'.stz = st.stz ++ z ∧ st'.vs.length = st.vs.length + tot z
  | [], a, st, f, hne, hg, hr, hf, hl => ⟨st, rfl, rfl, by rw [List.append_nil], rfl⟩
  | r :: z, a, st, f, hne, hg, hr, hf, hl => by
    rw [zdJ] at hl
    have hb : ∃ st1 f1, zde st (itL f (if a then [[]] else [])) = .ok st1 ∧ f1 = f + wtR (if a then [[]] else []) ∧ st1.row = false ∧ st1.t = st.t ∧ st1.stz = st.stz ∧ st1.vs = st.vs ∧ st1.first = st.first := by
      cases a with
      | false => exact ⟨st, _, rfl, rfl, hr rfl, rfl, rfl, rfl, rfl⟩
      | true => exact ⟨{ st with row := false }, _, rfl, rfl, rfl, rfl, rfl, rfl, rfl⟩
    obtain ⟨st1, f1, e1, rfl, hr1, ht1, hz1, hv1, hf1⟩ := hb
    obtain ⟨st2, e2, ht2, hz2, hr2, hf2, hl2⟩ := zm1 r st1 (f + wtR (if a then [[]] else [])) (hg r (by simp)) (hne r (by simp)) hr1 (fun h x hx => hf (by rw [← hf1]; exact h) r x rfl hx) (by rw [hv1]; omega)
    obtain ⟨st3, e3, ht3, hz3, hl3⟩ := zmj z true st2 (f + wtR ((if a then [[]] else []) ++ r)) (fun y hy => hne y (by simp [hy])) (fun y hy => hg y (by simp [hy])) (fun h => by cases h) (fun h => by rw [hf2] at h; cases h) (by rw [hl2, hv1]; omega)
    refine ⟨st3, ?_, by rw [ht3, ht2, ht1], by rw [hz3, hz2, hz1, List.append_assoc]; rfl, by rw [hl3, hl2, hv1, zdJ]; omega⟩
    show zde st (itL f ((if a then [[]] else []) ++ r ++ plL true z)) = _
    rw [ziX, ziX, List.append_assoc, zfL _ _ _ _ e1, zfL _ _ _ _ e2]
    exact e3
structure GoodP (t : List UInt8) (z : List Row) : Prop where
  tE : noE t
  tL : t.length ≤ 1022
  ne : ∀ r ∈ z, r ≠ []
  ln : ∀ r ∈ z, ∀ x ∈ r, GLn x
theorem PInv.good {st : RS} (h : PInv st) : GoodP st.t st.stz := ⟨h.tE, h.tL, h.ne, h.ln⟩
theorem zl1 : ∀ (z : List Row) (a : Bool), (∀ r ∈ z, ∀ x ∈ r, GLn x) → ∀ x ∈ plL a z, noE x
  | [], a, h, x, hx => by cases hx
  | r :: z, a, h, x, hx => by
    have hx2 : x ∈ (if a then [[]] else []) ++ r ++ plL true z := hx
    rcases List.mem_append.1 hx2 with hx2 | hx2
    · rcases List.mem_append.1 hx2 with hx2 | hx2
      · cases a with
        | false => cases hx2
        | true => rw [if_pos rfl, List.mem_singleton] at hx2; subst hx2; intro b hb; cases hb
      · exact (h r (by simp) x hx2).ne
    · exact zl1 z true (fun y hy => h y (by simp [hy])) x hx2
/-- What is printed is read as it was. -/
theorem zmP {t : List UInt8} {z : List Row} (h : GoodP t z) (hn : tot z ≤ 512) (hl : (prT t z).length ≤ 65536) : ∃ st, rd (prT t z) = .ok st ∧ st.t = t ∧ st.stz = z := by
  have htE : noE (35 :: 32 :: t) := by
    intro b hb
    rcases List.mem_cons.1 hb with rfl | hb
    · rfl
    · rcases List.mem_cons.1 hb with rfl | hb
      · rfl
      · exact h.tE b hb
  have hno : ∀ x ∈ prL t z, noE x := by
    intro x hx
    rcases List.mem_append.1 hx with hx | hx
    · unfold zlq at hx
      split at hx
      · rw [List.mem_singleton] at hx; subst hx; exact htE
      · cases hx
    · exact zl1 z _ h.ln x hx
  unfold rd
  rw [if_neg (by omega), zl0 t z h.ne, zmU _ hno]
  have hh : ∃ st1, zde rs0 (itL 0 (zlq t z)) = .ok st1 ∧ st1.row = false ∧ st1.t = t ∧ st1.stz = [] ∧ st1.vs = [] ∧ (st1.first = true → ∀ r x, z.head? = some r → r.head? = some x → zh9 x = false) := by
    unfold zlq
    cases hn : zgg t z with
    | true =>
      refine ⟨⟨t, [], [], false, false⟩, ?_, rfl, rfl, rfl, rfl, fun h => by cases h⟩
      rw [if_pos rfl]
      show zde rs0 [(0, 35 :: 32 :: t)] = _
      unfold zde
      have : zd2 rs0 (0, 35 :: 32 :: t) = .ok ⟨t, [], [], false, false⟩ := by
        unfold zd2
        have hb : zgj (35 :: 32 :: t) = false := rfl
        have hti : zh9 (35 :: 32 :: t) = true := rfl
        rw [if_neg (by rw [hb]; decide), if_neg (by have := h.tL; show ¬ 1024 < (35 :: 32 :: t).length; rw [List.length_cons, List.length_cons]; omega), if_pos ⟨rfl, hti⟩]
        rfl
      rw [this]; rfl
    | false =>
      have ht : t = [] := by
        unfold zgg at hn
        split at hn
        · rw [Bool.or_eq_false_iff] at hn; simpa using hn.1
        · simpa using hn
      refine ⟨rs0, rfl, rfl, ht.symm, rfl, rfl, fun _ r x hr hx => ?_⟩
      cases z with
      | nil => cases hr
      | cons r' z =>
        have e : r' = r := Option.some.inj hr
        subst e
        cases r' with
        | nil => cases hx
        | cons x' r' =>
          have e : x' = x := Option.some.inj hx
          subst e
          have : (decide (t ≠ []) || zh9 x') = false := hn
          rw [Bool.or_eq_false_iff] at this
          exact this.2
  obtain ⟨st1, e1, hr1, ht1, hz1, hv1, hf1⟩ := hh
  obtain ⟨st2, e2, ht2, hz2, hl2⟩ := zmj z (zgg t z) st1 (0 + wtR (zlq t z)) h.ne h.ln (fun _ => hr1) hf1 (by rw [hv1]; show 0 + _ ≤ _; omega)
  refine ⟨{ st2 with row := false }, ?_, ht2.trans ht1, by show st2.stz = z; rw [hz2, hz1]; rfl⟩
  unfold prL
  rw [ziX, List.append_assoc, zfL _ _ _ _ e1, zfL _ _ _ _ e2]
  rfl
end Go.Proofs.YtgfkogafkhbgnaaDoor
namespace Go.Proofs.YtgfkogafkhbgnaaDoor
open Go.RowKit Go.Lib
set_option linter.unusedVariables false
set_option linter.unusedSimpArgs false
end Go.Proofs.YtgfkogafkhbgnaaDoor
