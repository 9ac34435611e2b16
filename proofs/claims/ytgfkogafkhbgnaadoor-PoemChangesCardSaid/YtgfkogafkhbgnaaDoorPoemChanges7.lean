/-
  Texts laid together: PlPoemChanges. Nothing is assumed.
-/
import Derived.Test.YtgfkogafkhbgnaaDoorPoemChanges6
set_option maxRecDepth 100000
set_option maxHeartbeats 4000000
namespace Go.Proofs.YtgfkogafkhbgnaaDoor
open Go.RowKit Go.Lib
set_option linter.unusedVariables false
set_option linter.unusedSimpArgs false
instance decRow {a b : List Row} : Decidable (a = b) := inferInstance
theorem zlA (t t' : List UInt8) (z z' : List Row) (k : Nat) (r r' : Row) (hk : z[k]? = some r) (hk' : z'[k]? = some r') (hl : r.length = r'.length) (hb : r.length ≤ 1000000) (J : Option Bool) : ∀ (n i : Nat), i ≤ r.length → r.length - i < n →
    za8 (fun _ => none) (zdl (⟨mkB t, mkZ z⟩ : Gref17_Poem) (⟨mkB t', mkZ z'⟩ : Gref17_Poem) (k : Int) J) n (i : Int) = if r.drop i = r'.drop i then J else some false := by
  intro n
  induction n with
  | zero => intro i h1 h2; omega
  | succ n ih =>
    intro i hi hn
    rw [zbt]
    obtain ⟨ag, hag⟩ : ∃ ag, ag = za8 (fun _ => none) (zdl (⟨mkB t, mkZ z⟩ : Gref17_Poem) (⟨mkB t', mkZ z'⟩ : Gref17_Poem) (k : Int) J) n := ⟨_, rfl⟩
    rw [← hag] at ih ⊢
    unfold zdl
    have hgz : zdh (mkZ z) (k : Int) = some (r.map mkB) := zbV (by unfold mkZ; rw [List.getElem?_map, hk]; rfl)
    have hgz' : zdh (mkZ z') (k : Int) = some (r'.map mkB) := zbV (by unfold mkZ; rw [List.getElem?_map, hk']; rfl)
    refine za9 hgz ?_
    rcases Nat.lt_or_ge i r.length with h | h
    · have h' : i < r'.length := by omega
      rw [List.drop_eq_getElem_cons h, List.drop_eq_getElem_cons h']
      have hg : zdh (r.map mkB) (i : Int) = some (mkB r[i]) := zbV (by rw [List.getElem?_map, List.getElem?_eq_getElem h]; rfl)
      have hg' : zdh (r'.map mkB) (i : Int) = some (mkB r'[i]) := zbV (by rw [List.getElem?_map, List.getElem?_eq_getElem h']; rfl)
      refine zaY (decide_eq_true (by rw [List.length_map]; omega)) (za9 hgz (za9 hg (za9 hgz' (za9 hg' ?_))))
      by_cases he : r[i] = r'[i]
      · refine zaT (by rw [he]; simp) (zcD ⟨by omega, by omega⟩ ?_)
        rw [show (i : Int) + 1 = ((i + 1 : Nat) : Int) by omega, ih (i + 1) (by omega) (by omega), he]
        by_cases ht : r.drop (i + 1) = r'.drop (i + 1)
        · rw [if_pos ht, if_pos (by rw [ht])]
        · rw [if_neg ht, if_neg (fun e => ht (List.cons.inj e).2)]
      · rw [if_neg (fun e => he (List.cons.inj e).1)]
        exact zaY (by rw [decide_eq_false (fun e => he (zfm e))]; rfl) rfl
    · rw [List.drop_eq_nil_of_le h, List.drop_eq_nil_of_le (by omega), if_pos rfl]
      exact zaT (decide_eq_false (by rw [List.length_map]; omega)) rfl
theorem zkF (t t' : List UInt8) (z z' : List Row) (hl : z.length = z'.length) (hz : z.length ≤ 1000000) (hr : ∀ r ∈ z, r.length ≤ 1000000) : ∀ (n i : Nat), i ≤ z.length → z.length - i < n →
    za8 (fun _ => none) (zdm (⟨mkB t, mkZ z⟩ : Gref17_Poem) (⟨mkB t', mkZ z'⟩ : Gref17_Poem) (some true)) n (i : Int) = some (decide (z.drop i = z'.drop i)) := by
  intro n
  induction n with
  | zero => intro i h1 h2; omega
  | succ n ih =>
    intro i hi hn
    rw [zbt]
    obtain ⟨ag, hag⟩ : ∃ ag, ag = za8 (fun _ => none) (zdm (⟨mkB t, mkZ z⟩ : Gref17_Poem) (⟨mkB t', mkZ z'⟩ : Gref17_Poem) (some true)) n := ⟨_, rfl⟩
    rw [← hag] at ih ⊢
    unfold zdm
    rcases Nat.lt_or_ge i z.length with h | h
    · have h' : i < z'.length := by omega
      have hgz : zdh (mkZ z) (i : Int) = some (z[i].map mkB) := zbV (by unfold mkZ; rw [List.getElem?_map, List.getElem?_eq_getElem h]; rfl)
      have hgz' : zdh (mkZ z') (i : Int) = some (z'[i].map mkB) := zbV (by unfold mkZ; rw [List.getElem?_map, List.getElem?_eq_getElem h']; rfl)
      rw [List.drop_eq_getElem_cons h, List.drop_eq_getElem_cons h']
      refine zaY (decide_eq_true (by show (i : Int) < ((mkZ z).length : Int); rw [zbL]; omega)) (zcC (za9 hgz (za9 hgz' ?_)))
      by_cases hll : z[i].length = z'[i].length
      · refine zaT (by rw [List.length_map, List.length_map, hll]; exact bne_self_eq_false _) ?_
        have hin := zlA t t' z z' i z[i] z'[i] (List.getElem?_eq_getElem h) (List.getElem?_eq_getElem h') hll (hr _ (List.getElem_mem h)) (grd (I64 ((i : Int) + 1)) <| ag ((i : Int) + 1)) zb0 0 (Nat.zero_le _) (by have := hr _ (List.getElem_mem h); unfold zb0; omega)
        rw [List.drop_zero, List.drop_zero] at hin
        refine hin.trans ?_
        by_cases he : z[i] = z'[i]
        · rw [if_pos he]
          refine zcD ⟨by omega, by omega⟩ ?_
          rw [show (i : Int) + 1 = ((i + 1 : Nat) : Int) by omega, ih (i + 1) (by omega) (by omega), he]
          congr 1
          exact decide_eq_decide.2 ⟨fun e => by rw [e], fun e => (List.cons.inj e).2⟩
        · rw [if_neg he, decide_eq_false (fun e => he (List.cons.inj e).1)]
      · refine zaY (bne_iff_ne.2 (by rw [List.length_map, List.length_map]; omega)) ?_
        rw [decide_eq_false (fun e => hll (by rw [(List.cons.inj e).1]))]
    · rw [List.drop_eq_nil_of_le h, List.drop_eq_nil_of_le (by omega)]
      exact zaT (decide_eq_false (by show ¬ (i : Int) < ((mkZ z).length : Int); rw [zbL]; omega)) rfl
theorem ziX : ∀ (z : List Row), ∀ r ∈ z, r.length ≤ tot z
  | [], r, h => by cases h
  | y :: z, r, h => by
    rw [zcK]
    rcases List.mem_cons.1 h with rfl | h
    · omega
    · have := ziX z r h; omega
theorem zme {p q : Gpoem_Poem} {t t' : List UInt8} {z z' : List Row} (hp : OkP p t z) (hq : OkP q t' z') : zeT (⟨mkB t, mkZ z⟩ : Gref17_Poem) (⟨mkB t', mkZ z'⟩ : Gref17_Poem) = some (decide (t = t' ∧ z = z')) := by
  unfold zeT
  have hm := hp.most
  have hzl := zfu z hp.ne
  by_cases ht : t = t'
  · refine zaT (by rw [ht]; simp) ?_
    by_cases hl : z.length = z'.length
    · refine zaT (by show (((mkZ z).length : Int) != ((mkZ z').length : Int)) = false; rw [zbL, zbL, hl]; exact bne_self_eq_false _) (zcC ?_)
      have := zkF t t' z z' hl (by omega) (fun r hr => by have := ziX z r hr; omega) zb0 0 (Nat.zero_le _) (by unfold zb0; omega)
      rw [List.drop_zero, List.drop_zero] at this
      refine this.trans ?_
      congr 1
      exact decide_eq_decide.2 ⟨fun e => ⟨ht, e⟩, fun e => e.2⟩
    · refine zaY (by show (((mkZ z).length : Int) != ((mkZ z').length : Int)) = true; rw [zbL, zbL]; exact bne_iff_ne.2 (by omega)) ?_
      rw [decide_eq_false (fun e => hl (by rw [e.2]))]
  · refine zaY (by show (!decide (mkB t = mkB t')) = true; rw [decide_eq_false (fun e => ht (zfm e))]; rfl) ?_
    rw [decide_eq_false (fun e => ht e.1)]
theorem zjo (S T : List UInt8) (k : Int) (l : List UInt8) (a b : Int) (hb : l.length ≤ 140737488355328) : zdY (mkB S) (mkB T) k (mkB l) a b = some true := by
  unfold zdY
  refine za9 zhZ (zaT rfl ?_)
  have hr := zmf S
  have hr' := zmf T
  have hrr := zia S
  have hrr' := zia T
  have err : ∀ (U : List UInt8) (e : Gapi_Spot), rd U = .error e → (!(zc6 e (⟨0, 0⟩ : Gapi_Spot))) = true := fun U e h => by
    have key : ∀ (xs : List (Nat × List UInt8)) (st : RS), zex st xs = .error e → e.Err = 3 := by
      intro xs
      induction xs with
      | nil => intro st h; cases h
      | cons x xs ih =>
        intro st h
        unfold zex at h
        cases hs : zfs st x with
        | ok s1 => rw [hs] at h; exact ih s1 h
        | error e' =>
          rw [hs] at h
          have : e' = e := by cases h; rfl
          subst this
          unfold zfs at hs
          split at hs
          · cases hs
          split at hs
          · cases hs; rfl
          split at hs
          · cases hs
          split at hs
          · cases hs; rfl
          · cases hs
    have h3 : e.Err = 3 := by
      unfold rd at h
      split at h
      · cases h; rfl
      · exact key _ _ h
    cases he : zc6 e (⟨0, 0⟩ : Gapi_Spot) with
    | false => rfl
    | true =>
      have := (zf0 _ _).1 he
      rw [this] at h3; cases h3
  cases hS : rd S with
  | error e =>
    rw [hS] at hr hrr
    cases hT : rd T with
    | error e' =>
      rw [hT] at hr' hrr'
      exact za9 hr (za9 hr' (za9 hrr (za9 hrr' (zaY (err S e hS) (za9 zhZ rfl)))))
    | ok st' =>
      rw [hT] at hr' hrr'
      exact za9 hr (za9 hr' (za9 hrr (za9 hrr' (zaY (err S e hS) (za9 zhZ rfl)))))
  | ok st =>
    rw [hS] at hr hrr
    cases hT : rd T with
    | error e' =>
      rw [hT] at hr' hrr'
      exact za9 hr (za9 hr' (za9 hrr (za9 hrr' (zaT rfl (zaY (err T e' hT) (za9 zhZ rfl))))))
    | ok st' =>
      rw [hT] at hr' hrr'
      obtain ⟨hI, _⟩ := zn5 hS
      obtain ⟨hI', _⟩ := zn5 hT
      have hok := hI.ok (mkB S)
      have hok' := hI'.ok (mkB T)
      obtain ⟨m1, e1, w1, x1, y1, c1⟩ := zl7 hok k l hb
      obtain ⟨m2, e2, w2, x2, y2, c2⟩ := zmO hok a b
      obtain ⟨m3, e3, w3, x3, y3, c3⟩ := zlK hok hok'
      refine za9 hr (za9 hr' (za9 hrr (za9 hrr' (zaT rfl (zaT rfl (za9 rfl (za9 x1 (za9 y1 (za9 x2 (za9 y2 (za9 rfl (za9 x3 (za9 y3 ?_)))))))))))))
      refine za9 c1 (zaY rfl (za9 c2 (zaY rfl (za9 c3 (zaY rfl ?_)))))
      refine za9 (zoN hok hok') (za9 (zme hok hok') (zaY (beq_self_eq_true _) (za9 (zqd hok) (zaY rfl (za9 zhZ rfl)))))
theorem poemChanges_any (s t : ByteArray) (k : Int) (l : ByteArray) (a b : Int) (w : World) (h1 : s.size ≤ 140737488351232) (h2 : t.size ≤ 140737488351232) (h3 : -9223372036854775808 ≤ k) (h4 : k ≤ 9223372036854775807) (h5 : l.size ≤ 140737488351232) (h6 : -9223372036854775808 ≤ a) (h7 : a ≤ 9223372036854775807) (h8 : -9223372036854775808 ≤ b) (h9 : b ≤ 9223372036854775807) :
    Calls Tryd.prog 8 #[.string s, .string t, .int .i64 k, .string l, .int .i64 a, .int .i64 b] w fun e w' => e = .returned (.bool true) ∧ Below w.heap.size w w' :=
  zgv (zjo s.data.toList t.data.toList k l.data.toList a b (by rw [ziu]; omega)) w
end Go.Proofs.YtgfkogafkhbgnaaDoor
