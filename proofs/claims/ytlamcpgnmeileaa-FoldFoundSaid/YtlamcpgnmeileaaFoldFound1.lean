/-
  Texts laid together: Qu, Qz, LfFoldFound, PlFoldFound. Nothing is assumed.
-/
import Derived.Test.YtlamcpgnmeileaaFb6
import Derived.Test.YtlamcpgnmeileaaFb5
namespace Go.Proofs.Ytlamcpgnmeileaa
open Go.RowKit Go.Lib
set_option linter.unusedVariables false
set_option linter.unusedSimpArgs false
/-- A form that lays runes out for a letter and its marks. -/
def mkO (g : Itm × List Itm → List Int) (c : Itm × List Itm) : List Tok := if isL c.1 then (g c).map tokR else [itT c.1]
theorem strOf_flat (rs : List Int) : (strOf rs).data.toList = flat (rs.map tokR) := by
  rw [strOf_J]
  induction rs with
  | nil => rfl
  | cons r rs ih =>
    rw [J_cons, List.map_cons, flat_cons, ← ih]
    have : (Utf8.encode r).data.toList = encodeRune r := encode_list r
    show (Utf8.encode r ++ J Utf8.encode rs).data.toList = encodeRune r ++ _
    rw [← this]; simp
theorem letter_vr {r : Int} (h : letter r = true) : vr r := by have := letter_rng r h; unfold vr; omega
theorem mrk_vr {r : Int} (h : mrk r = true) : vr r := by unfold mrk at h; simp at h; unfold vr; omega
theorem tokR_LM {r : Int} (h : letter r = true ∨ mrk r = true) : (tokR r).valid ∧ LM (tokR r) := by
  have hv : vr r := by rcases h with h | h; exact letter_vr h; exact mrk_vr h
  refine ⟨tokR_valid hv, ?_⟩
  unfold LM
  have : (((tokR r).r : Nat) : Int) = r := by show ((r.toNat : Nat) : Int) = r; unfold vr at hv; omega
  rw [this]; exact h
theorem mkO_ok {g : Itm × List Itm → List Int} (h0 : ∀ c, isL c.1 = true → g c ≠ []) (h : ∀ c, isL c.1 = true → getM c.1.Rune tabS = none → (∀ m ∈ c.2, isM m = true) → ∀ r ∈ g c, letter r = true ∨ mrk r = true) : OutOk (mkO g) where
  other x hx := by unfold mkO; rw [hx]; rfl
  ne c hc := by unfold mkO; rw [hc]; simpa using h0 c hc
  val c hc hn hm t ht := by
    unfold mkO at ht; rw [hc] at ht
    obtain ⟨r, hr, rfl⟩ := List.mem_map.1 (show t ∈ (g c).map tokR from ht)
    exact tokR_LM (h c hc hn hm r hr)
theorem flat_J (f : Itm × List Itm → ByteArray) (out : Itm × List Itm → List Tok) : ∀ l : List (Itm × List Itm), (∀ c ∈ l, (f c).data.toList = flat (out c)) → (J f l).data.toList = flat (l.flatMap out)
  | [], _ => rfl
  | c :: l, h => by
    rw [J_cons, List.flatMap_cons, flat_append, ← flat_J f out l (fun d hd => h d (List.mem_cons_of_mem _ hd)), ← h c (List.mem_cons_self ..)]
    simp
theorem okT_strip {x : Itm} (h : okT x) : okT (strip x) := h
/-- The bytes of a form. -/
theorem form_bytes {f : Itm × List Itm → ByteArray} {g : Itm × List Itm → List Int} (hf : ∀ c, f (stripC c) = f c)
    (h1 : ∀ c, isL c.1 = true → okT c.1 → (∀ m ∈ c.2, isM m = true ∧ okT m) → f c = strOf (g c)) (h2 : ∀ c, isL c.1 = false → c.2 = [] → f c = c.1.Text)
    (s : ByteArray) (hs : s.size ≤ 65536) : (J f (clus s)).data.toList = flat ((clT (toks s.data.toList)).flatMap (mkO g)) := by
  have e : J f (clus s) = J f (clT (toks s.data.toList)) := by
    rw [← clus_strip, J_map]; exact J_congr fun c _ => (hf c).symm
  rw [e]
  refine flat_J f _ _ fun c hc => ?_
  rw [← clus_strip] at hc
  obtain ⟨d, hd, rfl⟩ := List.mem_map.1 hc
  obtain ⟨o1, o2, o3, _⟩ := (clus_ok hs).2 d hd
  unfold mkO
  cases hL : isL (stripC d).1 with
  | true =>
    rw [h1 _ hL (okT_strip o1) (fun m hm => by obtain ⟨y, hy, rfl⟩ := List.mem_map.1 (show m ∈ d.2.map strip from hm); exact ⟨(o2 y hy).1, okT_strip (o2 y hy).2⟩), strOf_flat]; rfl
  | false =>
    rw [h2 _ hL (by show d.2.map strip = []; rw [o3 hL]; rfl)]
    show _ = flat [itT (stripC d).1]
    simp [flat, itT]
/-! ### Apart, bare -/
def gA (c : Itm × List Itm) : List Int := (ordC c).map (·.Rune)
def gB (c : Itm × List Itm) : List Int := [c.1.Rune]
def gT (c : Itm × List Itm) : List Int := let hi := (hiI c.2).map (·.Rune); let lo := (loI c.2).map (·.Rune)
  (hi.foldl tgS ((lo.foldl tgS (c.1.Rune, [], true)).1, (lo.foldl tgS (c.1.Rune, [], true)).2.1, true)).1 :: (hi.foldl tgS ((lo.foldl tgS (c.1.Rune, [], true)).1, (lo.foldl tgS (c.1.Rune, [], true)).2.1, true)).2.1
def gF (c : Itm × List Itm) : List Int := runesOf (plainR (lower c.1.Rune))
theorem mem_ord {c : Itm × List Itm} {x : Itm} (h : x ∈ ordC c) : x = c.1 ∨ x ∈ c.2 := by
  unfold ordC at h
  rcases List.mem_cons.1 h with h | h
  · exact .inl h
  · unfold loI hiI at h
    rw [List.mem_append, List.mem_filter, List.mem_filter] at h
    exact .inr (by rcases h with h | h <;> exact h.1)
theorem gA_ok : OutOk (mkO gA) := mkO_ok (fun c _ => by unfold gA ordC; simp) (fun c hc hn hm r hr => by
  unfold gA at hr
  obtain ⟨x, hx, rfl⟩ := List.mem_map.1 hr
  rcases mem_ord hx with rfl | hx
  · exact .inl hc
  · exact .inr (hm x hx))
theorem gB_ok : OutOk (mkO gB) := mkO_ok (fun c _ => by unfold gB; simp) (fun c hc hn hm r hr => by
  unfold gB at hr; simp at hr; subst hr; exact .inl hc)
theorem letter_text {x : Itm} (h : okT x) (hL : isL x = true) : x.Text = Utf8.encode x.Rune := by
  rcases h.2 with ⟨h1, _⟩ | ⟨_, h1⟩
  · have := (letter_rng _ hL).1; omega
  · exact h1
theorem apartS_bytes (s : ByteArray) (hs : s.size ≤ 65536) : (apartS s).data.toList = flat ((clT (toks s.data.toList)).flatMap (mkO gA)) := by
  refine form_bytes apartC_strip (fun c hL h1 h2 => ?_) (fun c hL h2 => ?_) s hs
  · unfold apartC gA
    rw [strOf_J, J_map]
    refine J_congr fun x hx => ?_
    rcases mem_ord hx with rfl | hx
    · exact letter_text h1 hL
    · exact mark_text (h2 x hx).2 (h2 x hx).1
  · unfold apartC ordC loI hiI; rw [h2]; rw [J_cons]; simp [J_nil]
theorem bareS_bytes (s : ByteArray) (hs : s.size ≤ 65536) : (bareS s).data.toList = flat ((clT (toks s.data.toList)).flatMap (mkO gB)) := by
  refine form_bytes (fun c => rfl) (fun c hL h1 h2 => ?_) (fun c hL h2 => rfl) s hs
  unfold gB
  rw [strOf_J, J_cons, J_nil, ByteArray.append_empty]; exact letter_text h1 hL
/-! ### Together -/
theorem strOf_cons' (x : Int) (l : List Int) : strOf (x :: l) = Utf8.encode x ++ strOf l := by rw [strOf_J, strOf_J, J_cons]
theorem tgS_letter {a : Int × List Int × Bool} {m : Int} (h : letter a.1 = true ∧ ∀ x ∈ a.2.1, mrk x = true) (hm : mrk m = true) : letter (tgS a m).1 = true ∧ ∀ x ∈ (tgS a m).2.1, mrk x = true := by
  have app : ∀ x ∈ a.2.1 ++ [m], mrk x = true := fun x hx => by
    rcases List.mem_append.1 hx with hx | hx
    · exact h.2 x hx
    · simp at hx; subst hx; exact hm
  unfold tgS
  split
  · rename_i j hj
    split
    · exact ⟨(joined_rng hj).2.2, h.2⟩
    · exact ⟨h.1, app⟩
  · exact ⟨h.1, app⟩
theorem tgS_letters : ∀ (ms : List Int) (a : Int × List Int × Bool), (letter a.1 = true ∧ ∀ x ∈ a.2.1, mrk x = true) → (∀ m ∈ ms, mrk m = true) → letter (ms.foldl tgS a).1 = true ∧ ∀ x ∈ (ms.foldl tgS a).2.1, mrk x = true
  | [], a, h, _ => h
  | m :: ms, a, h, hm => tgS_letters ms _ (tgS_letter h (hm m (List.mem_cons_self ..))) (fun x hx => hm x (List.mem_cons_of_mem _ hx))
theorem lohi_mem {c : Itm × List Itm} (hm : ∀ m ∈ c.2, isM m = true) : (∀ m ∈ (loI c.2).map (·.Rune), mrk m = true) ∧ ∀ m ∈ (hiI c.2).map (·.Rune), mrk m = true := by
  constructor <;> intro m h <;> obtain ⟨x, hx, rfl⟩ := List.mem_map.1 h
  · unfold loI at hx; rw [List.mem_filter] at hx; exact hm x hx.1
  · unfold hiI at hx; rw [List.mem_filter] at hx; exact hm x hx.1
theorem gT_all {c : Itm × List Itm} (hL : isL c.1 = true) (hm : ∀ m ∈ c.2, isM m = true) : ∃ j st, gT c = j :: st ∧ letter j = true ∧ ∀ x ∈ st, mrk x = true := by
  obtain ⟨h1, h2⟩ := lohi_mem hm
  have a := tgS_letters _ (c.1.Rune, [], true) ⟨hL, by simp⟩ h1
  have b := tgS_letters _ (((loI c.2).map (·.Rune)).foldl tgS (c.1.Rune, [], true) |>.1, (((loI c.2).map (·.Rune)).foldl tgS (c.1.Rune, [], true)).2.1, true) a h2
  exact ⟨_, _, rfl, b.1, b.2⟩
theorem gT_ok : OutOk (mkO gT) := mkO_ok (fun c _ => by unfold gT; simp) (fun c hc hn hm r hr => by
  obtain ⟨j, st, e, h1, h2⟩ := gT_all hc hm
  rw [e] at hr
  rcases List.mem_cons.1 hr with rfl | hr
  · exact .inl h1
  · exact .inr (h2 r hr))
theorem togS_bytes (s : ByteArray) (hs : s.size ≤ 65536) : (togS s).data.toList = flat ((clT (toks s.data.toList)).flatMap (mkO gT)) := by
  refine form_bytes tgC_strip (fun c hL h1 h2 => ?_) (fun c hL h2 => ?_) s hs
  · unfold tgC tgU
    rw [hL]
    exact (strOf_cons' _ _).symm
  · unfold tgC; rw [hL]; rfl
/-! ### Fold -/
def foldLet (r : Int) : Bool := !letter r || (decide (plainR (lower r) = strOf (runesOf (plainR (lower r)))) && !(runesOf (plainR (lower r))).isEmpty &&
  ((getM r tabS).isSome || (runesOf (plainR (lower r))).all fun x => letter x && !great x && (getM x tabS).isNone && decide (plainR x = Utf8.encode x) && decide (lower x = x)))
set_option maxRecDepth 100000 in
theorem foldLets : ((List.range 1120).all fun n => foldLet (n : Int)) = true := by decide +kernel
theorem foldLet_of {r : Int} (h : letter r = true) : plainR (lower r) = strOf (runesOf (plainR (lower r))) ∧ runesOf (plainR (lower r)) ≠ [] ∧ (getM r tabS = none → ∀ x ∈ runesOf (plainR (lower r)), letter x = true ∧ great x = false ∧ getM x tabS = none ∧ plainR x = Utf8.encode x ∧ lower x = x) := by
  have hr := letter_rng r h
  have := List.all_eq_true.1 foldLets r.toNat (List.mem_range.2 (by omega))
  rw [show ((r.toNat : Nat) : Int) = r by omega] at this
  unfold foldLet at this
  rw [h] at this
  simp only [Bool.not_true, Bool.false_or, Bool.and_eq_true, decide_eq_true_eq, Bool.or_eq_true] at this
  obtain ⟨⟨h1, h2⟩, h3⟩ := this
  refine ⟨h1, ?_, fun hn x hx => ?_⟩
  · intro e; rw [e] at h2; cases h2
  · rw [hn] at h3
    rcases h3 with h3 | h3
    · cases h3
    · have := List.all_eq_true.1 h3 x hx
      simp only [Bool.and_eq_true, decide_eq_true_eq, Bool.not_eq_true', Option.isNone_iff_eq_none] at this
      obtain ⟨⟨⟨⟨a, b⟩, c⟩, d⟩, e⟩ := this
      exact ⟨a, b, c, d, e⟩
theorem gF_ok : OutOk (mkO gF) := mkO_ok (fun c hc => (foldLet_of hc).2.1) (fun c hc hn hm r hr => .inl ((foldLet_of hc).2.2 hn r hr).1)
theorem foldS_bytes (s : ByteArray) (hs : s.size ≤ 65536) : (foldS s).data.toList = flat ((clT (toks s.data.toList)).flatMap (mkO gF)) := by
  refine form_bytes foldC_strip (fun c hL h1 h2 => ?_) (fun c hL h2 => ?_) s hs
  · unfold foldC foldI gF
    rw [hL]; exact (foldLet_of hL).1
  · unfold foldC foldI; rw [hL]; rfl
end Go.Proofs.Ytlamcpgnmeileaa
namespace Go.Proofs.Ytlamcpgnmeileaa
open Go.RowKit Go.Lib
set_option linter.unusedVariables false
set_option linter.unusedSimpArgs false
/-! ### What stands beside what -/
def adjC : Bool → List (Itm × List Itm) → Prop
  | _, [] => True
  | p, c :: cs => (p = true → isM c.1 = false) ∧ adjC (isL c.1) cs
theorem clF_adjC : ∀ (xs : List Itm) (c : Itm × List Itm) (p : Bool), (p = true → isM c.1 = false) → adjC p (clF (some c) xs)
  | [], c, p, h => ⟨h, trivial⟩
  | x :: xs, c, p, h => by
    show adjC p (if isL c.1 && isM x then clF (some (c.1, c.2 ++ [x])) xs else c :: clF (some (x, [])) xs)
    cases e : (isL c.1 && isM x) with
    | true => exact clF_adjC xs (c.1, c.2 ++ [x]) p h
    | false => exact ⟨h, clF_adjC xs (x, []) (isL c.1) (fun hL => by rw [hL] at e; exact e)⟩
theorem cl_adjC (xs : List Itm) : adjC false (cl xs) := by
  cases xs with
  | nil => trivial
  | cons x xs => exact clF_adjC xs (x, []) false (fun h => by cases h)
def clOk (c : Itm × List Itm) : Prop := (isL c.1 = true ∧ (∀ m ∈ c.2, isM m = true) ∧ getM c.1.Rune tabS = none) ∨ (isL c.1 = false ∧ c.2 = [] ∧ ∃ t, okTok t ∧ c.1 = tokI t)
theorem clT_clOk {ts : List Tok} (hok : ∀ t ∈ ts, okTok t) : ∀ c ∈ clT ts, clOk c := by
  obtain ⟨G, e1, e2, e3⟩ := groups ts hok
  intro c hc
  rw [e2] at hc
  obtain ⟨g, hg, rfl⟩ := List.mem_map.1 hc
  rcases e3 g hg with ⟨g1, g2, g3, g4, g5⟩ | ⟨g1, g2, t, g3, g4, g5⟩
  · exact .inl ⟨g1, g4, g5⟩
  · exact .inr ⟨g1, g2, t, g4, g5⟩
theorem apL_cons (x : Itm) (xs : List Itm) : apL (x :: xs) = apI x ++ apL xs := by unfold apL; rw [List.flatMap_cons]
theorem clT_other {t : Tok} (h : isL (tokI t) = false) (ts : List Tok) : clT (t :: ts) = (tokI t, []) :: clT ts := by
  unfold clT
  rw [List.map_cons, apL_cons, show apI (tokI t) = [tokI t] by unfold apI; rw [h]; rfl]
  exact cl_other h _
theorem clT_flat {out : Itm × List Itm → List Tok} (ho : OutOk out) (hh : ∀ c, isL c.1 = true → getM c.1.Rune tabS = none → (∀ m ∈ c.2, isM m = true) → ∀ t, (out c).head? = some t → mrk (tokI t).Rune = false) :
    ∀ (cs : List (Itm × List Itm)) (p : Bool), (∀ c ∈ cs, clOk c) → adjC p cs → clT (cs.flatMap out) = cs.flatMap (fun c => clT (out c))
  | [], _, _, _ => rfl
  | c :: cs, p, hc, ha => by
    have ih := clT_flat ho hh cs (isL c.1) (fun d hd => hc d (List.mem_cons_of_mem _ hd)) ha.2
    rw [List.flatMap_cons, List.flatMap_cons, ← ih]
    rcases hc c (List.mem_cons_self ..) with ⟨g1, g2, g3⟩ | ⟨g1, g2, t, g3, g4⟩
    · refine clT_append _ _ fun t ht => ?_
      cases cs with
      | nil => cases ht
      | cons c' cs =>
        have ha' := ha.2.1 g1
        rw [List.flatMap_cons] at ht
        rcases hc c' (List.mem_cons_of_mem _ (List.mem_cons_self ..)) with ⟨k1, k2, k3⟩ | ⟨k1, k2, u, k3, k4⟩
        · obtain ⟨v, vs, hv⟩ := List.exists_cons_of_ne_nil (ho.ne c' k1)
          rw [hv] at ht
          exact hh c' k1 k3 k2 t (by rw [hv]; exact ht)
        · have e : out c' = [u] := by rw [show c' = (c'.1, []) from Prod.ext rfl k2, ho.other _ k1, k4, itT_tok k3]
          rw [e] at ht
          have : u = t := Option.some.inj ht
          subst this
          rw [← k4]; exact ha'
    · have e : out c = [t] := by rw [show c = (c.1, []) from Prod.ext rfl g2, ho.other _ g1, g4, itT_tok g3]
      have hL : isL (tokI t) = false := by rw [← g4]; exact g1
      rw [e, List.singleton_append, clT_other hL, clT_other hL]; rfl
/-- A form of a form. -/
theorem form_form {out : Itm × List Itm → List Tok} (ho : OutOk out) (hh : ∀ c, isL c.1 = true → getM c.1.Rune tabS = none → (∀ m ∈ c.2, isM m = true) → ∀ t, (out c).head? = some t → mrk (tokI t).Rune = false)
    {f g : Itm × List Itm → ByteArray} (hf : ∀ c, f (stripC c) = f c) (hg : ∀ c, g (stripC c) = g c) {s x : ByteArray} (hs : s.size ≤ 65536) (hx : x.data.toList = flat ((clT (toks s.data.toList)).flatMap out))
    (hL : ∀ c, isL c.1 = true → (∀ m ∈ c.2, isM m = true ∧ okT m) → getM c.1.Rune tabS = none → okT c.1 → J f (clT (out c)) = g c)
    (hN : ∀ y, isL y = false → f (y, []) = g (y, [])) : J f (clus x) = J g (clus s) := by
  have e : ∀ (h : Itm × List Itm → ByteArray) (u : ByteArray), (∀ c, h (stripC c) = h c) → J h (clus u) = J h (clT (toks u.data.toList)) := fun h u hh => by
    rw [← clus_strip, J_map]; exact J_congr fun c _ => (hh c).symm
  rw [e f x hf, e g s hg, out_toks ho hx]
  have hadj : adjC false (clT (toks s.data.toList)) := cl_adjC _
  have hcl := clT_clOk (toks_ok s.data.toList)
  rw [clT_flat ho hh _ false hcl hadj, J_flat]
  refine J_congr fun c hc => ?_
  rcases hcl c hc with ⟨g1, g2, g3⟩ | ⟨g1, g2, t, g3, g4⟩
  · rw [← clus_strip] at hc
    obtain ⟨d, hd, rfl⟩ := List.mem_map.1 hc
    obtain ⟨o1, o2, o3, _⟩ := (clus_ok hs).2 d hd
    exact hL _ g1 (fun m hm => by obtain ⟨y, hy, rfl⟩ := List.mem_map.1 (show m ∈ d.2.map strip from hm); exact ⟨(o2 y hy).1, okT_strip (o2 y hy).2⟩) g3 (okT_strip o1)
  · have ec : c = (c.1, []) := Prod.ext rfl g2
    have e1 : out c = [t] := by rw [ec, ho.other _ g1, g4, itT_tok g3]
    have hLt : isL (tokI t) = false := by rw [← g4]; exact g1
    rw [e1, clT_other hLt]
    show J f [(tokI t, [])] = g c
    rw [J_cons, J_nil, ByteArray.append_empty, ← g4, hN _ g1, ← ec]
/-! ### A letter and its marks, as runes -/
theorem mrk_letter {r : Int} (h : letter r = true) : mrk r = false := by
  cases e : mrk r with
  | false => rfl
  | true => have := mrk_not_letter e; rw [h] at this; cases this
theorem tokR_mk {r : Int} (h : vr r) : tokI (tokR r) = mkI r := by
  rw [tokI_valid (tokR_valid h)]
  show mkI ((r.toNat : Nat) : Int) = mkI r
  rw [show ((r.toNat : Nat) : Int) = r by unfold vr at h; omega]
theorem tokR_row {rs : List Int} (h : ∀ r ∈ rs, vr r) : (rs.map tokR).map tokI = rs.map mkI := by
  rw [List.map_map]
  exact List.map_congr_left fun r hr => tokR_mk (h r hr)
theorem marks_parts : ∀ {st : List Int}, (∀ m ∈ st, mrk m = true) → st.flatMap parts = st
  | [], _ => rfl
  | m :: st, h => by
    rw [List.flatMap_cons, parts_other (mrk_not_letter (h m (List.mem_cons_self ..))), marks_parts fun x hx => h x (List.mem_cons_of_mem _ hx)]; rfl
theorem tw_all {α : Type} {p : α → Bool} : ∀ {l : List α}, (∀ x ∈ l, p x = true) → l.takeWhile p = l
  | [], _ => rfl
  | x :: l, h => by rw [List.takeWhile_cons, if_pos (h x (List.mem_cons_self ..)), tw_all fun y hy => h y (List.mem_cons_of_mem _ hy)]
theorem dw_all {α : Type} {p : α → Bool} : ∀ {l : List α}, (∀ x ∈ l, p x = true) → l.dropWhile p = []
  | [], _ => rfl
  | x :: l, h => by rw [List.dropWhile_cons, if_pos (h x (List.mem_cons_self ..)), dw_all fun y hy => h y (List.mem_cons_of_mem _ hy)]
theorem clT_lm {j b : Int} {st ms : List Int} (hj : letter j = true) (hst : ∀ m ∈ st, mrk m = true) (hp : parts j = b :: ms) : clT ((j :: st).map tokR) = [(mkI b, (ms ++ st).map mkI)] := by
  unfold clT
  rw [tokR_row (fun r hr => by
    rcases List.mem_cons.1 hr with rfl | hr
    · exact letter_vr hj
    · exact mrk_vr (hst r hr)), apL_mk, List.flatMap_cons, hp, marks_parts hst]
  obtain ⟨b', ms', hq, hb, hn, hms, _⟩ := parts_shape hj
  rw [hp] at hq
  obtain ⟨rfl, rfl⟩ := List.cons.inj hq
  rw [List.cons_append, List.map_cons, cl_letter (show isL (mkI b) = true from hb)]
  have hall : ∀ x ∈ (ms ++ st).map mkI, isM x = true := fun x hx => by
    obtain ⟨r, hr, rfl⟩ := List.mem_map.1 hx
    show mrk r = true
    rcases List.mem_append.1 hr with hr | hr
    · exact hms r hr
    · exact hst r hr
  have h1 : ((ms ++ st).map mkI).takeWhile isM = (ms ++ st).map mkI := tw_all hall
  have h2 : ((ms ++ st).map mkI).dropWhile isM = [] := dw_all hall
  rw [h1, h2, cl_nil]
/-- A letter's low marks, and its others. -/
def kLo (c : Itm × List Itm) : List Int := (loI c.2).map (·.Rune)
def kHi (c : Itm × List Itm) : List Int := (hiI c.2).map (·.Rune)
theorem kLo_mk (b : Int) (ks : List Int) : kLo (mkI b, ks.map mkI) = ks.filter lowR ∧ kHi (mkI b, ks.map mkI) = ks.filter (fun r => !lowR r) := by
  unfold kLo kHi loI hiI
  constructor
  · induction ks with
    | nil => rfl
    | cons k ks ih =>
      rw [List.map_cons, List.filter_cons, List.filter_cons, show isLo (mkI k) = lowR k from rfl]
      split
      · rw [List.map_cons]; exact congrArg _ ih
      · exact ih
  · induction ks with
    | nil => rfl
    | cons k ks ih =>
      rw [List.map_cons, List.filter_cons, List.filter_cons, show isLo (mkI k) = lowR k from rfl]
      split
      · rw [List.map_cons]; exact congrArg _ ih
      · exact ih
theorem kLo_low (c : Itm × List Itm) : (∀ x ∈ kLo c, lowR x = true) ∧ ∀ x ∈ kHi c, lowR x = false := by
  unfold kLo kHi loI hiI
  constructor
  · intro x hx
    obtain ⟨y, hy, rfl⟩ := List.mem_map.1 hx
    rw [List.mem_filter] at hy; exact hy.2
  · intro x hx
    obtain ⟨y, hy, rfl⟩ := List.mem_map.1 hx
    rw [List.mem_filter] at hy
    simpa [isLo] using hy.2
theorem gA_key (c : Itm × List Itm) : gA c = c.1.Rune :: (kLo c ++ kHi c) := by unfold gA ordC kLo kHi; simp
/-- The key of a cluster. -/
def SameKey (c d : Itm × List Itm) : Prop := c.1.Rune = d.1.Rune ∧ kLo c = kLo d ∧ kHi c = kHi d
theorem gT_key {c d : Itm × List Itm} (h : SameKey c d) : gT c = gT d := by
  obtain ⟨h1, h2, h3⟩ := h
  unfold kLo at h2; unfold kHi at h3
  unfold gT; rw [h1, h2, h3]
theorem gA_key2 {c d : Itm × List Itm} (h : SameKey c d) : gA c = gA d := by
  obtain ⟨h1, h2, h3⟩ := h
  rw [gA_key, gA_key, h1, h2, h3]
/-! ### What is put together -/
set_option maxRecDepth 100000 in
theorem join_all : (tabP.all fun p => decide (parts p.2 = parts p.1.e0 ++ [p.1.e1])) = true := by decide +kernel
theorem join_parts {b m j : Int} (h : joined b m = some j) : parts j = parts b ++ [m] := by
  unfold joined at h
  have := List.all_eq_true.1 join_all _ (getM_mem h)
  simpa using this
theorem tg_stay : ∀ (l : List Int) (b : Int) (st : List Int), l.foldl tgS (b, st, false) = (b, st ++ l, false)
  | [], b, st => by simp
  | m :: l, b, st => by
    have : tgS (b, st, false) m = (b, st ++ [m], false) := by unfold tgS; split <;> rfl
    rw [List.foldl_cons, this, tg_stay l]; simp
theorem tg_free : ∀ (l : List Int) (b : Int) (st : List Int), ∃ La Ls, l = La ++ Ls ∧ (l.foldl tgS (b, st, true)).2.1 = st ++ Ls ∧ parts (l.foldl tgS (b, st, true)).1 = parts b ++ La
  | [], b, st => ⟨[], [], rfl, by simp, by simp⟩
  | m :: l, b, st => by
    rw [List.foldl_cons]
    cases h : joined b m with
    | some j =>
      have e : tgS (b, st, true) m = (j, st, true) := by unfold tgS; rw [h]; rfl
      rw [e]
      obtain ⟨La, Ls, h1, h2, h3⟩ := tg_free l j st
      exact ⟨m :: La, Ls, by rw [h1]; rfl, h2, by rw [h3, join_parts h]; simp⟩
    | none =>
      have e : tgS (b, st, true) m = (b, st ++ [m], false) := by unfold tgS; rw [h]
      rw [e, tg_stay]
      exact ⟨[], m :: l, rfl, by simp, by simp⟩
theorem gT_split {c : Itm × List Itm} (hn : getM c.1.Rune tabS = none) : ∃ j La Ls Ha Hs, gT c = j :: (Ls ++ Hs) ∧ kLo c = La ++ Ls ∧ kHi c = Ha ++ Hs ∧ parts j = c.1.Rune :: (La ++ Ha) := by
  obtain ⟨La, Ls, h1, h2, h3⟩ := tg_free (kLo c) c.1.Rune []
  obtain ⟨Ha, Hs, k1, k2, k3⟩ := tg_free (kHi c) ((kLo c).foldl tgS (c.1.Rune, [], true)).1 ((kLo c).foldl tgS (c.1.Rune, [], true)).2.1
  have hp : parts c.1.Rune = [c.1.Rune] := by unfold parts; rw [hn]
  refine ⟨((kHi c).foldl tgS (((kLo c).foldl tgS (c.1.Rune, [], true)).1, ((kLo c).foldl tgS (c.1.Rune, [], true)).2.1, true)).1, La, Ls, Ha, Hs, ?_, h1, k1, ?_⟩
  · show gT c = _ :: _
    unfold kLo kHi at *
    unfold gT
    simp only
    rw [k2, h2]; simp
  · rw [k3, h3, hp]; simp
/-! ### A cluster laid out is one cluster again -/
def OneC (c : Itm × List Itm) (ts : List Tok) (d : Itm × List Itm) : Prop := clT ts = [d] ∧ isL d.1 = true ∧ okT d.1 ∧ (∀ m ∈ d.2, isM m = true ∧ okT m) ∧ d.1.Rune = c.1.Rune
theorem okT_mk {r : Int} (h : vr r) : okT (mkI r) := by
  unfold vr at h
  refine ⟨?_, .inr ⟨?_, rfl⟩⟩
  · show I32 r; exact ⟨by omega, by omega⟩
  · show 0 ≤ r; omega
theorem one_mk {c : Itm × List Itm} {j b : Int} {st ms : List Int} (hj : letter j = true) (hst : ∀ m ∈ st, mrk m = true) (hp : parts j = b :: ms) (hb : b = c.1.Rune) : OneC c ((j :: st).map tokR) (mkI b, (ms ++ st).map mkI) := by
  obtain ⟨b', ms', hq, hb', hn, hms, _⟩ := parts_shape hj
  rw [hp] at hq
  obtain ⟨rfl, rfl⟩ := List.cons.inj hq
  refine ⟨clT_lm hj hst hp, hb', okT_mk (letter_vr hb'), fun m hm => ?_, hb⟩
  obtain ⟨r, hr, rfl⟩ := List.mem_map.1 hm
  have hm' : mrk r = true := by
    rcases List.mem_append.1 hr with hr | hr
    · exact hms r hr
    · exact hst r hr
  exact ⟨hm', okT_mk (mrk_vr hm')⟩
theorem lo_only {l : List Int} (h : ∀ x ∈ l, lowR x = true) : l.filter lowR = l ∧ l.filter (fun r => !lowR r) = [] :=
  ⟨List.filter_eq_self.2 h, List.filter_eq_nil_iff.2 fun x hx => by simp [h x hx]⟩
theorem hi_only {l : List Int} (h : ∀ x ∈ l, lowR x = false) : l.filter lowR = [] ∧ l.filter (fun r => !lowR r) = l :=
  ⟨List.filter_eq_nil_iff.2 fun x hx => by simp [h x hx], List.filter_eq_self.2 fun x hx => by simp [h x hx]⟩
theorem one_A {c : Itm × List Itm} (hL : isL c.1 = true) (hm : ∀ m ∈ c.2, isM m = true) (hn : getM c.1.Rune tabS = none) : ∃ d, OneC c (mkO gA c) d ∧ SameKey d c := by
  obtain ⟨h1, h2⟩ := lohi_mem hm
  have e : mkO gA c = (c.1.Rune :: (kLo c ++ kHi c)).map tokR := by unfold mkO; rw [hL, gA_key]; rfl
  rw [e]
  have hp : parts c.1.Rune = [c.1.Rune] := by unfold parts; rw [hn]
  refine ⟨_, one_mk hL (fun m hm => ?_) hp rfl, rfl, ?_⟩
  · rcases List.mem_append.1 hm with hm | hm
    · exact h1 m hm
    · exact h2 m hm
  · obtain ⟨k1, k2⟩ := kLo_mk c.1.Rune ([] ++ (kLo c ++ kHi c))
    obtain ⟨l1, l2⟩ := kLo_low c
    rw [k1, k2, List.nil_append, List.filter_append, List.filter_append, (lo_only l1).1, (lo_only l1).2, (hi_only l2).1, (hi_only l2).2]
    simp
theorem one_T {c : Itm × List Itm} (hL : isL c.1 = true) (hm : ∀ m ∈ c.2, isM m = true) (hn : getM c.1.Rune tabS = none) : ∃ d, OneC c (mkO gT c) d ∧ SameKey d c := by
  obtain ⟨j, La, Ls, Ha, Hs, h1, h2, h3, h4⟩ := gT_split hn
  obtain ⟨j', st', g1, g2, g3⟩ := gT_all hL hm
  rw [h1] at g1
  obtain ⟨rfl, rfl⟩ := List.cons.inj g1
  have e : mkO gT c = (j :: (Ls ++ Hs)).map tokR := by unfold mkO; rw [hL, h1]; rfl
  rw [e]
  refine ⟨_, one_mk g2 g3 h4 rfl, rfl, ?_⟩
  obtain ⟨k1, k2⟩ := kLo_mk c.1.Rune ((La ++ Ha) ++ (Ls ++ Hs))
  obtain ⟨l1, l2⟩ := kLo_low c
  rw [h2] at l1
  rw [h3] at l2
  have a1 := lo_only (l := La) fun x hx => l1 x (List.mem_append_left _ hx)
  have a2 := lo_only (l := Ls) fun x hx => l1 x (List.mem_append_right _ hx)
  have a3 := hi_only (l := Ha) fun x hx => l2 x (List.mem_append_left _ hx)
  have a4 := hi_only (l := Hs) fun x hx => l2 x (List.mem_append_right _ hx)
  rw [k1, k2, h2, h3]
  simp only [List.filter_append, a1.1, a1.2, a2.1, a2.2, a3.1, a3.2, a4.1, a4.2]
  simp
theorem one_B {c : Itm × List Itm} (hL : isL c.1 = true) (hn : getM c.1.Rune tabS = none) : ∃ d, OneC c (mkO gB c) d := by
  have e : mkO gB c = (c.1.Rune :: []).map tokR := by unfold mkO gB; rw [hL]; rfl
  have hp : parts c.1.Rune = [c.1.Rune] := by unfold parts; rw [hn]
  rw [e]
  exact ⟨_, one_mk hL (by simp) hp rfl⟩
/-! ### The forms of a cluster, as runes -/
theorem apartC_str {c : Itm × List Itm} (hL : isL c.1 = true) (h1 : okT c.1) (h2 : ∀ m ∈ c.2, isM m = true ∧ okT m) : apartC c = strOf (gA c) := by
  unfold apartC gA
  rw [strOf_J, J_map]
  refine J_congr fun x hx => ?_
  rcases mem_ord hx with rfl | hx
  · exact letter_text h1 hL
  · exact mark_text (h2 x hx).2 (h2 x hx).1
theorem tgC_str {c : Itm × List Itm} (hL : isL c.1 = true) : tgC c = strOf (gT c) := by
  unfold tgC tgU
  rw [hL]
  exact (strOf_cons' _ _).symm
theorem bareC_str {c : Itm × List Itm} (hL : isL c.1 = true) (h1 : okT c.1) : c.1.Text = strOf (gB c) := by
  unfold gB
  rw [strOf_J, J_cons, J_nil, ByteArray.append_empty]; exact letter_text h1 hL
theorem foldC_str {c : Itm × List Itm} (hL : isL c.1 = true) : foldC c = plainR (lower c.1.Rune) := by
  unfold foldC foldI; rw [hL]; rfl
/-! ### Heads -/
theorem head_R {r : Int} {rs : List Int} (h : letter r = true) : ∀ t, ((r :: rs).map tokR).head? = some t → mrk (tokI t).Rune = false := by
  intro t ht
  have : tokR r = t := Option.some.inj ht
  subst this
  rw [tokR_mk (letter_vr h)]
  exact mrk_letter h
theorem hd_A : ∀ c : Itm × List Itm, isL c.1 = true → getM c.1.Rune tabS = none → (∀ m ∈ c.2, isM m = true) → ∀ t, (mkO gA c).head? = some t → mrk (tokI t).Rune = false := by
  intro c hL _ _
  have e : mkO gA c = (c.1.Rune :: (kLo c ++ kHi c)).map tokR := by unfold mkO; rw [hL, gA_key]; rfl
  rw [e]; exact head_R hL
theorem hd_B : ∀ c : Itm × List Itm, isL c.1 = true → getM c.1.Rune tabS = none → (∀ m ∈ c.2, isM m = true) → ∀ t, (mkO gB c).head? = some t → mrk (tokI t).Rune = false := by
  intro c hL _ _
  have e : mkO gB c = (c.1.Rune :: []).map tokR := by unfold mkO gB; rw [hL]; rfl
  rw [e]; exact head_R hL
theorem hd_T : ∀ c : Itm × List Itm, isL c.1 = true → getM c.1.Rune tabS = none → (∀ m ∈ c.2, isM m = true) → ∀ t, (mkO gT c).head? = some t → mrk (tokI t).Rune = false := by
  intro c hL _ hm
  obtain ⟨j, st, g1, g2, g3⟩ := gT_all hL hm
  have e : mkO gT c = (j :: st).map tokR := by unfold mkO; rw [hL, g1]; rfl
  rw [e]; exact head_R g2
theorem hd_F : ∀ c : Itm × List Itm, isL c.1 = true → getM c.1.Rune tabS = none → (∀ m ∈ c.2, isM m = true) → ∀ t, (mkO gF c).head? = some t → mrk (tokI t).Rune = false := by
  intro c hL hn _
  obtain ⟨_, f2, f3⟩ := foldLet_of (show letter c.1.Rune = true from hL)
  obtain ⟨r, rs, hr⟩ := List.exists_cons_of_ne_nil f2
  have e : mkO gF c = (r :: rs).map tokR := by
    unfold mkO; rw [hL]
    show (gF c).map tokR = _
    rw [show gF c = r :: rs from hr]
  rw [e]; exact head_R (f3 hn r (by rw [hr]; exact List.mem_cons_self ..)).1
/-! ### The laws -/
theorem bareC_strip (c : Itm × List Itm) : (fun c : Itm × List Itm => c.1.Text) (stripC c) = (fun c : Itm × List Itm => c.1.Text) c := rfl
theorem one_J {c d : Itm × List Itm} {ts : List Tok} (f : Itm × List Itm → ByteArray) (h : OneC c ts d) : J f (clT ts) = f d := by
  rw [h.1, J_cons, J_nil, ByteArray.append_empty]
/-- Folded once is folded. -/
theorem fold_cl {rs : List Int} : (∀ x ∈ rs, letter x = true ∧ getM x tabS = none ∧ plainR x = Utf8.encode x ∧ lower x = x) → J foldC (clT (rs.map tokR)) = strOf rs := by
  induction rs with
  | nil => intro _; rfl
  | cons r rs ih =>
    intro h
    obtain ⟨h1, h2, h3, h4⟩ := h r (List.mem_cons_self ..)
    have ih := ih fun x hx => h x (List.mem_cons_of_mem _ hx)
    have hp : parts r = [r] := by unfold parts; rw [h2]
    have e : clT ((r :: rs).map tokR) = clT ((r :: []).map tokR) ++ clT (rs.map tokR) := by
      refine clT_append [tokR r] (rs.map tokR) fun t ht => ?_
      cases rs with
      | nil => cases ht
      | cons r' rs => exact head_R (h r' (by simp)).1 t ht
    rw [e, J_append, ih, clT_lm h1 (by simp) hp, strOf_cons', J_cons, J_nil, ByteArray.append_empty]
    congr 1
    rw [foldC_str (show isL (mkI r) = true from h1)]
    show plainR (lower r) = _
    rw [h4, h3]
theorem fold_fold (s : ByteArray) (hs : s.size ≤ 65536) : foldS (foldS s) = foldS s := by
  refine form_form gF_ok hd_F foldC_strip foldC_strip hs (foldS_bytes s hs) (fun c hL hm hn hok => ?_) (fun y hy => rfl)
  obtain ⟨f1, _, f3⟩ := foldLet_of (show letter c.1.Rune = true from hL)
  have e : mkO gF c = (gF c).map tokR := by unfold mkO; rw [hL]; rfl
  rw [e, fold_cl fun x hx => by obtain ⟨a, _, b, d, e⟩ := f3 hn x hx; exact ⟨a, b, d, e⟩, foldC_str hL]
  exact f1.symm
theorem fold_apart (s : ByteArray) (hs : s.size ≤ 65536) : foldS (apartS s) = foldS s := by
  refine form_form gA_ok hd_A foldC_strip foldC_strip hs (apartS_bytes s hs) (fun c hL hm hn hok => ?_) (fun y hy => rfl)
  obtain ⟨d, hd, _⟩ := one_A hL (fun m h => (hm m h).1) hn
  rw [one_J _ hd, foldC_str hd.2.1, foldC_str hL, hd.2.2.2.2]
theorem fold_tog (s : ByteArray) (hs : s.size ≤ 65536) : foldS (togS s) = foldS s := by
  refine form_form gT_ok hd_T foldC_strip foldC_strip hs (togS_bytes s hs) (fun c hL hm hn hok => ?_) (fun y hy => rfl)
  obtain ⟨d, hd, _⟩ := one_T hL (fun m h => (hm m h).1) hn
  rw [one_J _ hd, foldC_str hd.2.1, foldC_str hL, hd.2.2.2.2]
theorem fold_bare (s : ByteArray) (hs : s.size ≤ 65536) : foldS (bareS s) = foldS s := by
  refine form_form gB_ok hd_B foldC_strip foldC_strip hs (bareS_bytes s hs) (fun c hL hm hn hok => ?_) (fun y hy => rfl)
  obtain ⟨d, hd⟩ := one_B hL hn
  rw [one_J _ hd, foldC_str hd.2.1, foldC_str hL, hd.2.2.2.2]
theorem apart_apart (s : ByteArray) (hs : s.size ≤ 65536) : apartS (apartS s) = apartS s := by
  refine form_form gA_ok hd_A apartC_strip apartC_strip hs (apartS_bytes s hs) (fun c hL hm hn hok => ?_) (fun y hy => rfl)
  obtain ⟨d, hd, hk⟩ := one_A hL (fun m h => (hm m h).1) hn
  rw [one_J _ hd, apartC_str hd.2.1 hd.2.2.1 hd.2.2.2.1, apartC_str hL hok hm, gA_key2 hk]
theorem apart_tog (s : ByteArray) (hs : s.size ≤ 65536) : apartS (togS s) = apartS s := by
  refine form_form gT_ok hd_T apartC_strip apartC_strip hs (togS_bytes s hs) (fun c hL hm hn hok => ?_) (fun y hy => rfl)
  obtain ⟨d, hd, hk⟩ := one_T hL (fun m h => (hm m h).1) hn
  rw [one_J _ hd, apartC_str hd.2.1 hd.2.2.1 hd.2.2.2.1, apartC_str hL hok hm, gA_key2 hk]
theorem tgC_other {y : Itm} (hy : isL y = false) : tgC (y, []) = y.Text := by unfold tgC; rw [hy]; rfl
theorem tog_tog (s : ByteArray) (hs : s.size ≤ 65536) : togS (togS s) = togS s := by
  refine form_form gT_ok hd_T tgC_strip tgC_strip hs (togS_bytes s hs) (fun c hL hm hn hok => ?_) (fun y hy => rfl)
  obtain ⟨d, hd, hk⟩ := one_T hL (fun m h => (hm m h).1) hn
  rw [one_J _ hd, tgC_str hd.2.1, tgC_str hL, gT_key hk]
theorem tog_apart (s : ByteArray) (hs : s.size ≤ 65536) : togS (apartS s) = togS s := by
  refine form_form gA_ok hd_A tgC_strip tgC_strip hs (apartS_bytes s hs) (fun c hL hm hn hok => ?_) (fun y hy => rfl)
  obtain ⟨d, hd, hk⟩ := one_A hL (fun m h => (hm m h).1) hn
  rw [one_J _ hd, tgC_str hd.2.1, tgC_str hL, gT_key hk]
theorem bare_bare (s : ByteArray) (hs : s.size ≤ 65536) : bareS (bareS s) = bareS s := by
  refine form_form gB_ok hd_B bareC_strip bareC_strip hs (bareS_bytes s hs) (fun c hL hm hn hok => ?_) (fun y hy => rfl)
  obtain ⟨d, hd⟩ := one_B hL hn
  rw [one_J _ hd, bareC_str hd.2.1 hd.2.2.1, bareC_str hL hok]
  unfold gB; rw [hd.2.2.2.2]
theorem bare_apart (s : ByteArray) (hs : s.size ≤ 65536) : bareS (apartS s) = bareS s := by
  refine form_form gA_ok hd_A bareC_strip bareC_strip hs (apartS_bytes s hs) (fun c hL hm hn hok => ?_) (fun y hy => rfl)
  obtain ⟨d, hd, _⟩ := one_A hL (fun m h => (hm m h).1) hn
  rw [one_J _ hd, bareC_str hd.2.1 hd.2.2.1, bareC_str hL hok]
  unfold gB; rw [hd.2.2.2.2]
theorem bare_tog (s : ByteArray) (hs : s.size ≤ 65536) : bareS (togS s) = bareS s := by
  refine form_form gT_ok hd_T bareC_strip bareC_strip hs (togS_bytes s hs) (fun c hL hm hn hok => ?_) (fun y hy => rfl)
  obtain ⟨d, hd, _⟩ := one_T hL (fun m h => (hm m h).1) hn
  rw [one_J _ hd, bareC_str hd.2.1 hd.2.2.1, bareC_str hL hok]
  unfold gB; rw [hd.2.2.2.2]
end Go.Proofs.Ytlamcpgnmeileaa
namespace Go.Proofs.Ytlamcpgnmeileaa
open Go.RowKit Go.Lib
set_option linter.unusedVariables false
set_option linter.unusedSimpArgs false
def law04_FoldFound_v (s1 : ByteArray) (t1 : ByteArray) (from1 : Int) : Option Bool := andThen (law04_wakes_v) fun (r1 : Bool) => bcond (!r1) ( some false
) ( joinK (fun (j1 : ByteArray → Option Bool) => bcond (decide ((200 : Int) < (s1.size : Int))) ( grd (0 ≤ (0 : Int) ∧ (0 : Int) ≤ 200 ∧ (200 : Int) ≤ (s1.size : Int)) <| j1 (cutB s1 0 200)
) ( j1 s1
)
) (fun (s2 : ByteArray) => joinK (fun (j2 : ByteArray → Option Bool) => bcond (decide ((200 : Int) < (t1.size : Int))) ( grd (0 ≤ (0 : Int) ∧ (0 : Int) ≤ 200 ∧ (200 : Int) ≤ (t1.size : Int)) <| j2 (cutB t1 0 200)
) ( j2 t1
)
) (fun (t2 : ByteArray) => grd (I64 ((s2.size : Int) + 1)) <| grd ((IntKind.u64.wrap ((s2.size : Int) + 1)) ≠ 0) <| andThen (fold_Find_v s2 t2 (IntKind.i64.wrap (Int.tmod (IntKind.u64.wrap from1) (IntKind.u64.wrap ((s2.size : Int) + 1))))) fun (r2 : (Gapi_Span × Bool)) => bcond (!r2.2) ( andThen (fold_Find_v s2 t2 0) fun (r3 : (Gapi_Span × Bool)) => bcond (eq_Gapi_Span r2.1 (⟨0, 0⟩ : Gapi_Span)) ( bcond (!r3.2) ( andThen (fold_Fold_v t2) fun (r4 : ByteArray) => bcond (!decide (r4 = (⟨#[]⟩ : ByteArray))) ( bcond (((IntKind.i64.wrap (Int.tmod (IntKind.u64.wrap from1) (IntKind.u64.wrap ((s2.size : Int) + 1)))) : Int) == 0) ( andThen (fold_Same_v s2 t2) fun (r5 : Bool) => bcond (!r5) ( andThen (law04_wakes_v) fun (r6 : Bool) => some r6
) ( some false
)
) ( andThen (law04_wakes_v) fun (r7 : Bool) => some r7
)
) ( andThen (law04_wakes_v) fun (r8 : Bool) => some r8
)
) ( bcond (decide ((r3.1.From : Int) < (IntKind.i64.wrap (Int.tmod (IntKind.u64.wrap from1) (IntKind.u64.wrap ((s2.size : Int) + 1)))))) ( andThen (fold_Fold_v t2) fun (r9 : ByteArray) => bcond (!decide (r9 = (⟨#[]⟩ : ByteArray))) ( bcond (((IntKind.i64.wrap (Int.tmod (IntKind.u64.wrap from1) (IntKind.u64.wrap ((s2.size : Int) + 1)))) : Int) == 0) ( andThen (fold_Same_v s2 t2) fun (r10 : Bool) => bcond (!r10) ( andThen (law04_wakes_v) fun (r11 : Bool) => some r11
) ( some false
)
) ( andThen (law04_wakes_v) fun (r12 : Bool) => some r12
)
) ( andThen (law04_wakes_v) fun (r13 : Bool) => some r13
)
) ( some false
)
)
) ( some false
)
) ( bcond (decide ((r2.1.From : Int) < (IntKind.i64.wrap (Int.tmod (IntKind.u64.wrap from1) (IntKind.u64.wrap ((s2.size : Int) + 1)))))) ( some false
) ( bcond (decide (((s2.size : Int) : Int) < r2.1.To)) ( some false
) ( bcond (decide ((r2.1.To : Int) ≤ r2.1.From)) ( some false
) ( grd (0 ≤ (r2.1.From : Int) ∧ (r2.1.From : Int) ≤ r2.1.To ∧ (r2.1.To : Int) ≤ (s2.size : Int)) <| andThen (fold_Same_v (cutB s2 r2.1.From r2.1.To) t2) fun (r14 : Bool) => bcond (!r14) ( some false
) ( andThen (runes_Boundary_v s2 r2.1.From) fun (r15 : Bool) => bcond (!r15) ( some false
) ( andThen (runes_Boundary_v s2 r2.1.To) fun (r16 : Bool) => bcond (!r16) ( some false
) ( andThen (fold_Find_v s2 t2 r2.1.From) fun (r17 : (Gapi_Span × Bool)) => andThen (fold_Fold_v t2) fun (r18 : ByteArray) => andThen (fold_Find_v s2 r18 (IntKind.i64.wrap (Int.tmod (IntKind.u64.wrap from1) (IntKind.u64.wrap ((s2.size : Int) + 1))))) fun (r19 : (Gapi_Span × Bool)) => bcond (r17.2) ( bcond (eq_Gapi_Span r17.1 r2.1) ( bcond (r19.2) ( bcond (eq_Gapi_Span r19.1 r2.1) ( andThen (law04_wakes_v) fun (r20 : Bool) => some r20
) ( some false
)
) ( some false
)
) ( some false
)
) ( some false
)
)
)
)
)
)
)
)
)
)
)
set_option maxRecDepth 100000 in
set_option maxHeartbeats 4000000 in
theorem law04_FoldFound_fn {s1 : ByteArray} {t1 : ByteArray} {from1 : Int} {r : Bool} (h : law04_FoldFound_v s1 t1 from1 = some r) : FnP Try.prog 4 [.string s1, .string t1, .int .i64 from1] (.bool r) := by
 unfold law04_FoldFound_v at h
 refine FnP.intro Try.func4 rfl Try.ntmps4 (by simp) ?_
 intro w0 K
 refine TC.seq (TC.region (TO.assign rfl dc rfl (TO.nil (TX.next (TC.seq (TC.seq (TC.region ?_)))))))
 obtain ⟨r1, hq1, h⟩ := andE h
 refine TO.callP (v := .bool r1) (vs := []) rfl dc rfl rfl rfl en_7 (law04_wakes_fn hq1) (TO.un rfl dc rfl un_not (TO.nil (TX.next ?_)))
 refine TC.condB rfl (fun hb1 => ?_) (fun hb1 => ?_)
 ·
  have h := condT hb1 h
  refine TC.seq (TC.region (TO.assign rfl dc rfl (TO.nil (TX.next (TC.ret (TX.thenRet ?_))))))
  cases h
  exact TX.fin (rs := [.tmp 6]) () (.inl rfl) Try.results4 (.cons (.tmp rfl) .nil) rfl Splits.nil
 ·
  have h := condF hb1 h
  refine TC.skip (TX.next ?_)
  obtain ⟨j1, hj1, h⟩ := joinE h
  refine TC.cutN (β := ByteArray) 0 rfl (fun b => j1 b = some r) (fun b => []) (fun b => [(0, .string b), (1, .string t1), (2, .int .i64 from1)]) (fun b => []) (fun cut => ?_) ?_
  ·
   refine cut (TC.seq (TC.region (TO.move rfl dc rfl (TO.lenStr rfl dc rfl Try.underlying9 (TO.bin rfl dc rfl rfl bin_gtr (TO.nil (TX.next ?_)))))))
   refine TC.condB rfl (fun hb2 => ?_) (fun hb2 => ?_)
   ·
    have h := condT hb2 h
    refine TC.region (TO.move rfl dc rfl ?_)
    obtain ⟨hg1, h⟩ := grdE h
    refine TO.slice rfl dc rfl rfl rfl (slice_stringI (i := 0) (j := 200) Try.underlying9 (.inl ⟨rfl, rfl⟩) (.inr rfl) hg1) (TO.assign rfl dc rfl (TO.nil ?_))
    exact TX.meetD (cutB s1 0 200) h rfl (Sbs.cons rfl (Sbs.cons rfl (Sbs.cons rfl (Sbs.nil)))) Splits.nil
   ·
    have h := condF hb2 h
    refine TC.skip ?_
    exact TX.meetD s1 h rfl (Sbs.cons rfl (Sbs.cons rfl (Sbs.cons rfl (Sbs.nil)))) Splits.nil
  ·
   rintro s2 h
   rw [hj1] at h
   show TC _ _ _ _ _ ([]) _ _ [(0, .string s2), (1, .string t1), (2, .int .i64 from1)] []
   obtain ⟨j2, hj2, h⟩ := joinE h
   refine TC.cutN (β := ByteArray) 0 rfl (fun b => j2 b = some r) (fun b => []) (fun b => [(0, .string s2), (1, .string b), (2, .int .i64 from1)]) (fun b => []) (fun cut => ?_) ?_
   ·
    refine cut (TC.seq (TC.region (TO.move rfl dc rfl (TO.lenStr rfl dc rfl Try.underlying9 (TO.bin rfl dc rfl rfl bin_gtr (TO.nil (TX.next ?_)))))))
    refine TC.condB rfl (fun hb3 => ?_) (fun hb3 => ?_)
    ·
     have h := condT hb3 h
     refine TC.region (TO.move rfl dc rfl ?_)
     obtain ⟨hg2, h⟩ := grdE h
     refine TO.slice rfl dc rfl rfl rfl (slice_stringI (i := 0) (j := 200) Try.underlying9 (.inl ⟨rfl, rfl⟩) (.inr rfl) hg2) (TO.assign rfl dc rfl (TO.nil ?_))
     exact TX.meetD (cutB t1 0 200) h rfl (Sbs.cons rfl (Sbs.cons rfl (Sbs.cons rfl (Sbs.nil)))) Splits.nil
    ·
     have h := condF hb3 h
     refine TC.skip ?_
     exact TX.meetD t1 h rfl (Sbs.cons rfl (Sbs.cons rfl (Sbs.cons rfl (Sbs.nil)))) Splits.nil
   ·
    rintro t2 h
    rw [hj2] at h
    show TC _ _ _ _ _ ([]) _ _ [(0, .string s2), (1, .string t2), (2, .int .i64 from1)] []
    refine TC.seq (TC.region (TO.move rfl dc rfl (TO.conv rfl dc rfl (conv_wrap Try.underlying3 Try.underlying23) (TO.move rfl dc rfl (TO.lenStr rfl dc rfl Try.underlying9 ?_)))))
    obtain ⟨hg3, h⟩ := grdE h
    refine TO.bin rfl dc rfl rfl (bin_add (r := (s2.size : Int) + 1) (IntWalk.i64_in _ hg3)) (TO.conv rfl dc rfl (conv_wrap Try.underlying3 Try.underlying23) ?_)
    obtain ⟨hg4, h⟩ := grdE h
    refine TO.bin rfl dc rfl rfl (bin_rem hg4 rfl) (TO.conv rfl dc rfl (conv_wrap Try.underlying23 Try.underlying3) (TO.assign rfl dc rfl (TO.nil (TX.next (TC.seq (TC.region (TO.move rfl dc rfl (TO.move rfl dc rfl (TO.move rfl dc rfl ?_)))))))))
    obtain ⟨r2, hq2, h⟩ := andE h
    refine TO.callP (v := .tuple #[.agg #[.int .i64 r2.1.From, .int .i64 r2.1.To], .bool r2.2]) (vs := [.string s2, .string t2, .int .i64 (IntKind.i64.wrap (Int.tmod (IntKind.u64.wrap from1) (IntKind.u64.wrap ((s2.size : Int) + 1))))]) rfl dc rfl rfl rfl en_8 (fold_Find_fn hq2) (TO.move rfl dc rfl (TO.extract rfl dc rfl rfl (TO.extract rfl dc rfl rfl ?_)))
    refine TO.alloc zr_26 rfl dc (fun b1 => ?_)
    refine TO.stores (k := 0) (vs := [.int .i64 r2.1.From, .int .i64 r2.1.To]) (l' := [.int .i64 r2.1.From, .int .i64 r2.1.To]) sz_26 rfl rfl rfl rfl rfl (show _ ≤ _ by simp) rfl rfl ?_
    show TO _ _ _ _ _ _ _ _ _ _ [cells b1 [.int .i64 r2.1.From, .int .i64 r2.1.To] 26]
    refine TO.assign rfl dc rfl (TO.nil (TX.next (TC.seq (TC.seq (TC.region (TO.move rfl dc rfl (TO.un rfl dc rfl un_not (TO.nil (TX.next ?_)))))))))
    refine TC.condB rfl (fun hb4 => ?_) (fun hb4 => ?_)
    ·
     have h := condT hb4 h
     refine TC.seq (TC.region (TO.move rfl dc rfl (TO.move rfl dc rfl ?_)))
     obtain ⟨r3, hq3, h⟩ := andE h
     refine TO.callP (v := .tuple #[.agg #[.int .i64 r3.1.From, .int .i64 r3.1.To], .bool r3.2]) (vs := [.string s2, .string t2, .int .i64 0]) rfl dc rfl rfl rfl en_8 (fold_Find_fn hq3) (TO.move rfl dc rfl (TO.extract rfl dc rfl rfl (TO.extract rfl dc rfl rfl ?_)))
     refine TO.alloc zr_26 rfl dc (fun b2 => ?_)
     refine TO.stores (k := 1) (vs := [.int .i64 r3.1.From, .int .i64 r3.1.To]) (l' := [.int .i64 r3.1.From, .int .i64 r3.1.To]) sz_26 rfl rfl rfl rfl rfl (show _ ≤ _ by simp) rfl rfl ?_
     show TO _ _ _ _ _ _ _ _ _ _ [cells b1 [.int .i64 r2.1.From, .int .i64 r2.1.To] 26, cells b2 [.int .i64 r3.1.From, .int .i64 r3.1.To] 26]
     refine TO.assign rfl dc rfl (TO.nil (TX.next (TC.seq (TC.region (TO.loads (k := 0) (cs := [.int .i64 r2.1.From, .int .i64 r2.1.To]) rw_26 rfl dc rfl rfl rfl rfl ?_)))))
     refine TO.build (v := .agg #[.int .i64 0, .int .i64 0]) (ps := []) rfl dc rfl (fun _ => by kernel_rfl) ?_
     refine TO.bin rfl dc rfl rfl (bin_eql_26 r2.1 (⟨0, 0⟩ : Gapi_Span)) (TO.move rfl dc rfl ?_)
     refine TO.split (s := 53) rfl (fun hb5 => ?_) (fun hb5 => ?_)
     ·
      have h := condT hb5 h
      refine TO.move rfl dc rfl (TO.un rfl dc rfl un_not (TO.move rfl dc rfl ?_))
      refine TO.split (s := 56) rfl (fun hb6 => ?_) (fun hb6 => ?_)
      ·
       have h := condT hb6 h
       refine TO.skip rfl dc (TO.skip rfl dc (TO.skip rfl dc (TO.skip rfl dc (TO.pick (b := true) rfl dc rfl rfl (TO.pick (b := true) rfl dc rfl rfl (TO.move rfl dc rfl (TO.move rfl dc rfl ?_)))))))
       obtain ⟨r4, hq4, h⟩ := andE h
       refine TO.callP (v := .string r4) (vs := [.string t2]) rfl dc rfl rfl rfl en_10 (fold_Fold_fn hq4) (TO.bin rfl dc rfl rfl bin_sneq (TO.move rfl dc rfl ?_))
       refine TO.split (s := 67) rfl (fun hb7 => ?_) (fun hb7 => ?_)
       ·
        have h := condT hb7 h
        refine TO.move rfl dc rfl (TO.bin rfl dc rfl rfl bin_eql (TO.pick (b := true) rfl dc rfl rfl (TO.move rfl dc rfl ?_)))
        refine TO.split (s := 71) rfl (fun hb8 => ?_) (fun hb8 => ?_)
        ·
         have h := condT hb8 h
         refine TO.move rfl dc rfl (TO.move rfl dc rfl ?_)
         obtain ⟨r5, hq5, h⟩ := andE h
         refine TO.callP (v := .bool r5) (vs := [.string s2, .string t2]) rfl dc rfl rfl rfl en_11 (fold_Same_fn hq5) (TO.pick (b := true) rfl dc rfl rfl (TO.un rfl dc rfl un_not (TO.pick (b := true) rfl dc rfl rfl (TO.move rfl dc rfl ?_))))
         refine TO.split (s := 78) rfl (fun hb9 => ?_) (fun hb9 => ?_)
         ·
          have h := condT hb9 h
          obtain ⟨r6, hq6, h⟩ := andE h
          refine TO.callP (v := .bool r6) (vs := []) rfl dc rfl rfl rfl en_7 (law04_wakes_fn hq6) (TO.pick (b := true) rfl dc rfl rfl (TO.assign rfl dc rfl (TO.nil (TX.next (TC.ret (TX.thenRet ?_))))))
          cases h
          exact TX.fin (rs := [.tmp 6]) () (.inl rfl) Try.results4 (.cons (.tmp rfl) .nil) rfl Splits.nil
         ·
          have h := condF hb9 h
          refine TO.skip rfl dc (TO.pick (b := false) rfl dc rfl rfl (TO.assign rfl dc rfl (TO.nil (TX.next (TC.ret (TX.thenRet ?_))))))
          cases h
          exact TX.fin (rs := [.tmp 6]) () (.inl rfl) Try.results4 (.cons (.tmp rfl) .nil) rfl Splits.nil
        ·
         have h := condF hb8 h
         refine TO.skip rfl dc (TO.skip rfl dc (TO.skip rfl dc (TO.pick (b := false) rfl dc rfl rfl (TO.un rfl dc rfl un_not (TO.pick (b := true) rfl dc rfl rfl (TO.move rfl dc rfl ?_))))))
         obtain ⟨r7, hq7, h⟩ := andE h
         refine TO.callP (v := .bool r7) (vs := []) rfl dc rfl rfl rfl en_7 (law04_wakes_fn hq7) (TO.pick (b := true) rfl dc rfl rfl (TO.assign rfl dc rfl (TO.nil (TX.next (TC.ret (TX.thenRet ?_))))))
         cases h
         exact TX.fin (rs := [.tmp 6]) () (.inl rfl) Try.results4 (.cons (.tmp rfl) .nil) rfl Splits.nil
       ·
        have h := condF hb7 h
        refine TO.skip rfl dc (TO.skip rfl dc (TO.pick (b := false) rfl dc rfl rfl (TO.move rfl dc rfl (TO.skip rfl dc (TO.skip rfl dc (TO.skip rfl dc (TO.pick (b := false) rfl dc rfl rfl (TO.un rfl dc rfl un_not (TO.pick (b := true) rfl dc rfl rfl (TO.move rfl dc rfl ?_))))))))))
        obtain ⟨r8, hq8, h⟩ := andE h
        refine TO.callP (v := .bool r8) (vs := []) rfl dc rfl rfl rfl en_7 (law04_wakes_fn hq8) (TO.pick (b := true) rfl dc rfl rfl (TO.assign rfl dc rfl (TO.nil (TX.next (TC.ret (TX.thenRet ?_))))))
        cases h
        exact TX.fin (rs := [.tmp 6]) () (.inl rfl) Try.results4 (.cons (.tmp rfl) .nil) rfl Splits.nil
      ·
       have h := condF hb6 h
       refine TO.fieldAddr fl_26_0 rfl dc rfl (show _ = 0 from rfl) (TO.load (k := 1) sc_3 rfl dc rfl rfl rfl (TO.move rfl dc rfl (TO.bin rfl dc rfl rfl bin_lss (TO.pick (b := false) rfl dc rfl rfl (TO.pick (b := true) rfl dc rfl rfl (TO.move rfl dc rfl ?_))))))
       refine TO.split (s := 63) rfl (fun hb10 => ?_) (fun hb10 => ?_)
       ·
        have h := condT hb10 h
        refine TO.move rfl dc rfl ?_
        obtain ⟨r9, hq9, h⟩ := andE h
        refine TO.callP (v := .string r9) (vs := [.string t2]) rfl dc rfl rfl rfl en_10 (fold_Fold_fn hq9) (TO.bin rfl dc rfl rfl bin_sneq (TO.move rfl dc rfl ?_))
        refine TO.split (s := 67) rfl (fun hb11 => ?_) (fun hb11 => ?_)
        ·
         have h := condT hb11 h
         refine TO.move rfl dc rfl (TO.bin rfl dc rfl rfl bin_eql (TO.pick (b := true) rfl dc rfl rfl (TO.move rfl dc rfl ?_)))
         refine TO.split (s := 71) rfl (fun hb12 => ?_) (fun hb12 => ?_)
         ·
          have h := condT hb12 h
          refine TO.move rfl dc rfl (TO.move rfl dc rfl ?_)
          obtain ⟨r10, hq10, h⟩ := andE h
          refine TO.callP (v := .bool r10) (vs := [.string s2, .string t2]) rfl dc rfl rfl rfl en_11 (fold_Same_fn hq10) (TO.pick (b := true) rfl dc rfl rfl (TO.un rfl dc rfl un_not (TO.pick (b := true) rfl dc rfl rfl (TO.move rfl dc rfl ?_))))
          refine TO.split (s := 78) rfl (fun hb13 => ?_) (fun hb13 => ?_)
          ·
           have h := condT hb13 h
           obtain ⟨r11, hq11, h⟩ := andE h
           refine TO.callP (v := .bool r11) (vs := []) rfl dc rfl rfl rfl en_7 (law04_wakes_fn hq11) (TO.pick (b := true) rfl dc rfl rfl (TO.assign rfl dc rfl (TO.nil (TX.next (TC.ret (TX.thenRet ?_))))))
           cases h
           exact TX.fin (rs := [.tmp 6]) () (.inl rfl) Try.results4 (.cons (.tmp rfl) .nil) rfl Splits.nil
          ·
           have h := condF hb13 h
           refine TO.skip rfl dc (TO.pick (b := false) rfl dc rfl rfl (TO.assign rfl dc rfl (TO.nil (TX.next (TC.ret (TX.thenRet ?_))))))
           cases h
           exact TX.fin (rs := [.tmp 6]) () (.inl rfl) Try.results4 (.cons (.tmp rfl) .nil) rfl Splits.nil
         ·
          have h := condF hb12 h
          refine TO.skip rfl dc (TO.skip rfl dc (TO.skip rfl dc (TO.pick (b := false) rfl dc rfl rfl (TO.un rfl dc rfl un_not (TO.pick (b := true) rfl dc rfl rfl (TO.move rfl dc rfl ?_))))))
          obtain ⟨r12, hq12, h⟩ := andE h
          refine TO.callP (v := .bool r12) (vs := []) rfl dc rfl rfl rfl en_7 (law04_wakes_fn hq12) (TO.pick (b := true) rfl dc rfl rfl (TO.assign rfl dc rfl (TO.nil (TX.next (TC.ret (TX.thenRet ?_))))))
          cases h
          exact TX.fin (rs := [.tmp 6]) () (.inl rfl) Try.results4 (.cons (.tmp rfl) .nil) rfl Splits.nil
        ·
         have h := condF hb11 h
         refine TO.skip rfl dc (TO.skip rfl dc (TO.pick (b := false) rfl dc rfl rfl (TO.move rfl dc rfl (TO.skip rfl dc (TO.skip rfl dc (TO.skip rfl dc (TO.pick (b := false) rfl dc rfl rfl (TO.un rfl dc rfl un_not (TO.pick (b := true) rfl dc rfl rfl (TO.move rfl dc rfl ?_))))))))))
         obtain ⟨r13, hq13, h⟩ := andE h
         refine TO.callP (v := .bool r13) (vs := []) rfl dc rfl rfl rfl en_7 (law04_wakes_fn hq13) (TO.pick (b := true) rfl dc rfl rfl (TO.assign rfl dc rfl (TO.nil (TX.next (TC.ret (TX.thenRet ?_))))))
         cases h
         exact TX.fin (rs := [.tmp 6]) () (.inl rfl) Try.results4 (.cons (.tmp rfl) .nil) rfl Splits.nil
       ·
        have h := condF hb10 h
        refine TO.skip rfl dc (TO.skip rfl dc (TO.skip rfl dc (TO.skip rfl dc (TO.skip rfl dc (TO.skip rfl dc (TO.skip rfl dc (TO.skip rfl dc (TO.skip rfl dc (TO.skip rfl dc (TO.skip rfl dc (TO.skip rfl dc (TO.skip rfl dc (TO.pick (b := false) rfl dc rfl rfl ?_)))))))))))))
        refine TO.move rfl dc rfl (TO.skip rfl dc (TO.pick (b := false) rfl dc rfl rfl (TO.assign rfl dc rfl (TO.nil (TX.next (TC.ret (TX.thenRet ?_)))))))
        cases h
        exact TX.fin (rs := [.tmp 6]) () (.inl rfl) Try.results4 (.cons (.tmp rfl) .nil) rfl Splits.nil
     ·
      have h := condF hb5 h
      refine TO.skip rfl dc (TO.skip rfl dc (TO.skip rfl dc (TO.skip rfl dc (TO.skip rfl dc (TO.skip rfl dc (TO.skip rfl dc (TO.skip rfl dc (TO.pick (b := false) rfl dc rfl rfl (TO.move rfl dc rfl (TO.skip rfl dc (TO.skip rfl dc (TO.skip rfl dc (TO.skip rfl dc ?_)))))))))))))
      refine TO.skip rfl dc (TO.skip rfl dc (TO.skip rfl dc (TO.skip rfl dc (TO.skip rfl dc (TO.skip rfl dc (TO.skip rfl dc (TO.skip rfl dc (TO.skip rfl dc (TO.pick (b := false) rfl dc rfl rfl (TO.move rfl dc rfl (TO.skip rfl dc (TO.pick (b := false) rfl dc rfl rfl (TO.assign rfl dc rfl ?_)))))))))))))
      refine TO.nil (TX.next (TC.ret (TX.thenRet ?_)))
      cases h
      exact TX.fin (rs := [.tmp 6]) () (.inl rfl) Try.results4 (.cons (.tmp rfl) .nil) rfl Splits.nil
    ·
     have h := condF hb4 h
     refine TC.skip (TX.next (TC.seq (TC.seq (TC.region (TO.fieldAddr fl_26_0 rfl dc rfl (show _ = 0 from rfl) (TO.load (k := 0) sc_3 rfl dc rfl rfl rfl (TO.move rfl dc rfl (TO.bin rfl dc rfl rfl bin_lss (TO.move rfl dc rfl ?_)))))))))
     refine TO.split (s := 85) rfl (fun hb14 => ?_) (fun hb14 => ?_)
     ·
      have h := condT hb14 h
      refine TO.skip rfl dc (TO.skip rfl dc (TO.skip rfl dc (TO.skip rfl dc (TO.skip rfl dc (TO.pick (b := true) rfl dc rfl rfl (TO.move rfl dc rfl (TO.skip rfl dc (TO.skip rfl dc (TO.skip rfl dc (TO.skip rfl dc (TO.skip rfl dc (TO.pick (b := true) rfl dc rfl rfl (TO.move rfl dc rfl ?_)))))))))))))
      refine TO.skip rfl dc (TO.skip rfl dc (TO.skip rfl dc (TO.skip rfl dc (TO.skip rfl dc (TO.skip rfl dc (TO.skip rfl dc (TO.skip rfl dc (TO.skip rfl dc (TO.pick (b := true) rfl dc rfl rfl (TO.move rfl dc rfl (TO.skip rfl dc (TO.skip rfl dc (TO.skip rfl dc ?_)))))))))))))
      refine TO.skip rfl dc (TO.skip rfl dc (TO.pick (b := true) rfl dc rfl rfl (TO.move rfl dc rfl (TO.skip rfl dc (TO.skip rfl dc (TO.skip rfl dc (TO.skip rfl dc (TO.skip rfl dc (TO.pick (b := true) rfl dc rfl rfl (TO.nil (TX.next (TC.condT rfl (TC.seq ?_)))))))))))))
      refine TC.region (TO.assign rfl dc rfl (TO.nil (TX.next (TC.ret (TX.thenRet ?_)))))
      cases h
      exact TX.fin (rs := [.tmp 6]) () (.inl rfl) Try.results4 (.cons (.tmp rfl) .nil) rfl Splits.nil
     ·
      have h := condF hb14 h
      refine TO.fieldAddr fl_26_1 rfl dc rfl (show _ = 1 from rfl) (TO.load (k := 0) sc_3 rfl dc rfl rfl rfl (TO.move rfl dc rfl (TO.lenStr rfl dc rfl Try.underlying9 (TO.bin rfl dc rfl rfl bin_gtr (TO.pick (b := false) rfl dc rfl rfl (TO.move rfl dc rfl ?_))))))
      refine TO.split (s := 92) rfl (fun hb15 => ?_) (fun hb15 => ?_)
      ·
       have h := condT hb15 h
       refine TO.skip rfl dc (TO.skip rfl dc (TO.skip rfl dc (TO.skip rfl dc (TO.skip rfl dc (TO.pick (b := true) rfl dc rfl rfl (TO.move rfl dc rfl (TO.skip rfl dc (TO.skip rfl dc (TO.skip rfl dc (TO.skip rfl dc (TO.skip rfl dc (TO.skip rfl dc (TO.skip rfl dc ?_)))))))))))))
       refine TO.skip rfl dc (TO.skip rfl dc (TO.pick (b := true) rfl dc rfl rfl (TO.move rfl dc rfl (TO.skip rfl dc (TO.skip rfl dc (TO.skip rfl dc (TO.skip rfl dc (TO.skip rfl dc (TO.pick (b := true) rfl dc rfl rfl (TO.move rfl dc rfl (TO.skip rfl dc (TO.skip rfl dc (TO.skip rfl dc ?_)))))))))))))
       refine TO.skip rfl dc (TO.skip rfl dc (TO.pick (b := true) rfl dc rfl rfl (TO.nil (TX.next (TC.condT rfl (TC.seq (TC.region (TO.assign rfl dc rfl (TO.nil (TX.next (TC.ret (TX.thenRet ?_))))))))))))
       cases h
       exact TX.fin (rs := [.tmp 6]) () (.inl rfl) Try.results4 (.cons (.tmp rfl) .nil) rfl Splits.nil
      ·
       have h := condF hb15 h
       refine TO.fieldAddr fl_26_0 rfl dc rfl (show _ = 0 from rfl) (TO.load (k := 0) sc_3 rfl dc rfl rfl rfl (TO.fieldAddr fl_26_1 rfl dc rfl (show _ = 1 from rfl) (TO.load (k := 0) sc_3 rfl dc rfl rfl rfl (TO.bin rfl dc rfl rfl bin_geq (TO.pick (b := false) rfl dc rfl rfl (TO.move rfl dc rfl ?_))))))
       refine TO.split (s := 99) rfl (fun hb16 => ?_) (fun hb16 => ?_)
       ·
        have h := condT hb16 h
        refine TO.skip rfl dc (TO.skip rfl dc (TO.skip rfl dc (TO.skip rfl dc (TO.skip rfl dc (TO.skip rfl dc (TO.skip rfl dc (TO.skip rfl dc (TO.skip rfl dc (TO.pick (b := true) rfl dc rfl rfl (TO.move rfl dc rfl (TO.skip rfl dc (TO.skip rfl dc (TO.skip rfl dc ?_)))))))))))))
        refine TO.skip rfl dc (TO.skip rfl dc (TO.pick (b := true) rfl dc rfl rfl (TO.move rfl dc rfl (TO.skip rfl dc (TO.skip rfl dc (TO.skip rfl dc (TO.skip rfl dc (TO.skip rfl dc (TO.pick (b := true) rfl dc rfl rfl (TO.nil (TX.next (TC.condT rfl (TC.seq ?_)))))))))))))
        refine TC.region (TO.assign rfl dc rfl (TO.nil (TX.next (TC.ret (TX.thenRet ?_)))))
        cases h
        exact TX.fin (rs := [.tmp 6]) () (.inl rfl) Try.results4 (.cons (.tmp rfl) .nil) rfl Splits.nil
       ·
        have h := condF hb16 h
        refine TO.move rfl dc rfl (TO.fieldAddr fl_26_0 rfl dc rfl (show _ = 0 from rfl) (TO.load (k := 0) sc_3 rfl dc rfl rfl rfl (TO.fieldAddr fl_26_1 rfl dc rfl (show _ = 1 from rfl) (TO.load (k := 0) sc_3 rfl dc rfl rfl rfl ?_))))
        obtain ⟨hg5, h⟩ := grdE h
        refine TO.slice rfl dc rfl rfl rfl (slice_stringI (i := r2.1.From) (j := r2.1.To) Try.underlying9 (.inr rfl) (.inr rfl) hg5) (TO.move rfl dc rfl ?_)
        obtain ⟨r14, hq14, h⟩ := andE h
        refine TO.callP (v := .bool r14) (vs := [.string (cutB s2 r2.1.From r2.1.To), .string t2]) rfl dc rfl rfl rfl en_11 (fold_Same_fn hq14) (TO.un rfl dc rfl un_not (TO.pick (b := false) rfl dc rfl rfl (TO.move rfl dc rfl ?_)))
        refine TO.split (s := 110) rfl (fun hb17 => ?_) (fun hb17 => ?_)
        ·
         have h := condT hb17 h
         refine TO.skip rfl dc (TO.skip rfl dc (TO.skip rfl dc (TO.skip rfl dc (TO.skip rfl dc (TO.pick (b := true) rfl dc rfl rfl (TO.move rfl dc rfl (TO.skip rfl dc (TO.skip rfl dc (TO.skip rfl dc (TO.skip rfl dc (TO.skip rfl dc (TO.pick (b := true) rfl dc rfl rfl (TO.nil ?_)))))))))))))
         refine TX.next (TC.condT rfl (TC.seq (TC.region (TO.assign rfl dc rfl (TO.nil (TX.next (TC.ret (TX.thenRet ?_))))))))
         cases h
         exact TX.fin (rs := [.tmp 6]) () (.inl rfl) Try.results4 (.cons (.tmp rfl) .nil) rfl Splits.nil
        ·
         have h := condF hb17 h
         refine TO.move rfl dc rfl (TO.fieldAddr fl_26_0 rfl dc rfl (show _ = 0 from rfl) (TO.load (k := 0) sc_3 rfl dc rfl rfl rfl ?_))
         obtain ⟨r15, hq15, h⟩ := andE h
         refine TO.callP (v := .bool r15) (vs := [.string s2, .int .i64 r2.1.From]) rfl dc rfl rfl rfl en_12 (runes_Boundary_fn hq15) (TO.un rfl dc rfl un_not (TO.pick (b := false) rfl dc rfl rfl (TO.move rfl dc rfl ?_)))
         refine TO.split (s := 117) rfl (fun hb18 => ?_) (fun hb18 => ?_)
         ·
          have h := condT hb18 h
          refine TO.skip rfl dc (TO.skip rfl dc (TO.skip rfl dc (TO.skip rfl dc (TO.skip rfl dc (TO.pick (b := true) rfl dc rfl rfl (TO.nil (TX.next (TC.condT rfl (TC.seq (TC.region (TO.assign rfl dc rfl (TO.nil (TX.next ?_)))))))))))))
          refine TC.ret (TX.thenRet ?_)
          cases h
          exact TX.fin (rs := [.tmp 6]) () (.inl rfl) Try.results4 (.cons (.tmp rfl) .nil) rfl Splits.nil
         ·
          have h := condF hb18 h
          refine TO.move rfl dc rfl (TO.fieldAddr fl_26_1 rfl dc rfl (show _ = 1 from rfl) (TO.load (k := 0) sc_3 rfl dc rfl rfl rfl ?_))
          obtain ⟨r16, hq16, h⟩ := andE h
          refine TO.callP (v := .bool r16) (vs := [.string s2, .int .i64 r2.1.To]) rfl dc rfl rfl rfl en_12 (runes_Boundary_fn hq16) (TO.un rfl dc rfl un_not (TO.pick (b := false) rfl dc rfl rfl (TO.nil (TX.next ?_))))
          refine TC.condB rfl (fun hb19 => ?_) (fun hb19 => ?_)
          ·
           have h := condT hb19 h
           refine TC.seq (TC.region (TO.assign rfl dc rfl (TO.nil (TX.next (TC.ret (TX.thenRet ?_))))))
           cases h
           exact TX.fin (rs := [.tmp 6]) () (.inl rfl) Try.results4 (.cons (.tmp rfl) .nil) rfl Splits.nil
          ·
           have h := condF hb19 h
           refine TC.skip (TX.next (TC.seq (TC.region (TO.move rfl dc rfl (TO.move rfl dc rfl (TO.fieldAddr fl_26_0 rfl dc rfl (show _ = 0 from rfl) (TO.load (k := 0) sc_3 rfl dc rfl rfl rfl ?_)))))))
           obtain ⟨r17, hq17, h⟩ := andE h
           refine TO.callP (v := .tuple #[.agg #[.int .i64 r17.1.From, .int .i64 r17.1.To], .bool r17.2]) (vs := [.string s2, .string t2, .int .i64 r2.1.From]) rfl dc rfl rfl rfl en_8 (fold_Find_fn hq17) (TO.move rfl dc rfl (TO.extract rfl dc rfl rfl (TO.extract rfl dc rfl rfl ?_)))
           refine TO.alloc zr_26 rfl dc (fun b3 => ?_)
           refine TO.stores (k := 1) (vs := [.int .i64 r17.1.From, .int .i64 r17.1.To]) (l' := [.int .i64 r17.1.From, .int .i64 r17.1.To]) sz_26 rfl rfl rfl rfl rfl (show _ ≤ _ by simp) rfl rfl ?_
           show TO _ _ _ _ _ _ _ _ _ _ [cells b1 [.int .i64 r2.1.From, .int .i64 r2.1.To] 26, cells b3 [.int .i64 r17.1.From, .int .i64 r17.1.To] 26]
           refine TO.assign rfl dc rfl (TO.nil (TX.next (TC.seq (TC.region (TO.move rfl dc rfl (TO.move rfl dc rfl ?_))))))
           obtain ⟨r18, hq18, h⟩ := andE h
           refine TO.callP (v := .string r18) (vs := [.string t2]) rfl dc rfl rfl rfl en_10 (fold_Fold_fn hq18) (TO.move rfl dc rfl ?_)
           obtain ⟨r19, hq19, h⟩ := andE h
           refine TO.callP (v := .tuple #[.agg #[.int .i64 r19.1.From, .int .i64 r19.1.To], .bool r19.2]) (vs := [.string s2, .string r18, .int .i64 (IntKind.i64.wrap (Int.tmod (IntKind.u64.wrap from1) (IntKind.u64.wrap ((s2.size : Int) + 1))))]) rfl dc rfl rfl rfl en_8 (fold_Find_fn hq19) (TO.move rfl dc rfl (TO.extract rfl dc rfl rfl (TO.extract rfl dc rfl rfl ?_)))
           refine TO.alloc zr_26 rfl dc (fun b4 => ?_)
           refine TO.stores (k := 2) (vs := [.int .i64 r19.1.From, .int .i64 r19.1.To]) (l' := [.int .i64 r19.1.From, .int .i64 r19.1.To]) sz_26 rfl rfl rfl rfl rfl (show _ ≤ _ by simp) rfl rfl ?_
           show TO _ _ _ _ _ _ _ _ _ _ [cells b1 [.int .i64 r2.1.From, .int .i64 r2.1.To] 26, cells b3 [.int .i64 r17.1.From, .int .i64 r17.1.To] 26, cells b4 [.int .i64 r19.1.From, .int .i64 r19.1.To] 26]
           refine TO.assign rfl dc rfl (TO.nil (TX.next (TC.seq (TC.region (TO.move rfl dc rfl (TO.move rfl dc rfl ?_))))))
           refine TO.split (s := 141) rfl (fun hb20 => ?_) (fun hb20 => ?_)
           ·
            have h := condT hb20 h
            refine TO.loads (k := 1) (cs := [.int .i64 r17.1.From, .int .i64 r17.1.To]) rw_26 rfl dc rfl rfl rfl rfl (TO.loads (k := 0) (cs := [.int .i64 r2.1.From, .int .i64 r2.1.To]) rw_26 rfl dc rfl rfl rfl rfl (TO.bin rfl dc rfl rfl (bin_eql_26 r17.1 r2.1) (TO.pick (b := true) rfl dc rfl rfl (TO.move rfl dc rfl ?_))))
            refine TO.split (s := 146) rfl (fun hb21 => ?_) (fun hb21 => ?_)
            ·
             have h := condT hb21 h
             refine TO.move rfl dc rfl (TO.pick (b := true) rfl dc rfl rfl (TO.move rfl dc rfl ?_))
             refine TO.split (s := 149) rfl (fun hb22 => ?_) (fun hb22 => ?_)
             ·
              have h := condT hb22 h
              refine TO.loads (k := 2) (cs := [.int .i64 r19.1.From, .int .i64 r19.1.To]) rw_26 rfl dc rfl rfl rfl rfl (TO.loads (k := 0) (cs := [.int .i64 r2.1.From, .int .i64 r2.1.To]) rw_26 rfl dc rfl rfl rfl rfl (TO.bin rfl dc rfl rfl (bin_eql_26 r19.1 r2.1) (TO.pick (b := true) rfl dc rfl rfl (TO.move rfl dc rfl ?_))))
              refine TO.split (s := 154) rfl (fun hb23 => ?_) (fun hb23 => ?_)
              ·
               have h := condT hb23 h
               obtain ⟨r20, hq20, h⟩ := andE h
               refine TO.callP (v := .bool r20) (vs := []) rfl dc rfl rfl rfl en_7 (law04_wakes_fn hq20) (TO.pick (b := true) rfl dc rfl rfl (TO.assign rfl dc rfl (TO.nil (TX.next (TC.ret ?_)))))
               cases h
               exact TX.fin (rs := [.tmp 6]) () (.inl rfl) Try.results4 (.cons (.tmp rfl) .nil) rfl Splits.nil
              ·
               have h := condF hb23 h
               refine TO.skip rfl dc (TO.pick (b := false) rfl dc rfl rfl (TO.assign rfl dc rfl (TO.nil (TX.next (TC.ret ?_)))))
               cases h
               exact TX.fin (rs := [.tmp 6]) () (.inl rfl) Try.results4 (.cons (.tmp rfl) .nil) rfl Splits.nil
             ·
              have h := condF hb22 h
              refine TO.skip rfl dc (TO.skip rfl dc (TO.skip rfl dc (TO.pick (b := false) rfl dc rfl rfl (TO.move rfl dc rfl (TO.skip rfl dc (TO.pick (b := false) rfl dc rfl rfl (TO.assign rfl dc rfl (TO.nil (TX.next (TC.ret ?_))))))))))
              cases h
              exact TX.fin (rs := [.tmp 6]) () (.inl rfl) Try.results4 (.cons (.tmp rfl) .nil) rfl Splits.nil
            ·
             have h := condF hb21 h
             refine TO.skip rfl dc (TO.pick (b := false) rfl dc rfl rfl (TO.move rfl dc rfl (TO.skip rfl dc (TO.skip rfl dc (TO.skip rfl dc (TO.pick (b := false) rfl dc rfl rfl (TO.move rfl dc rfl (TO.skip rfl dc (TO.pick (b := false) rfl dc rfl rfl (TO.assign rfl dc rfl (TO.nil (TX.next (TC.ret ?_)))))))))))))
             cases h
             exact TX.fin (rs := [.tmp 6]) () (.inl rfl) Try.results4 (.cons (.tmp rfl) .nil) rfl Splits.nil
           ·
            have h := condF hb20 h
            refine TO.skip rfl dc (TO.skip rfl dc (TO.skip rfl dc (TO.pick (b := false) rfl dc rfl rfl (TO.move rfl dc rfl (TO.skip rfl dc (TO.pick (b := false) rfl dc rfl rfl (TO.move rfl dc rfl (TO.skip rfl dc (TO.skip rfl dc (TO.skip rfl dc (TO.pick (b := false) rfl dc rfl rfl (TO.move rfl dc rfl (TO.skip rfl dc ?_)))))))))))))
            refine TO.pick (b := false) rfl dc rfl rfl (TO.assign rfl dc rfl (TO.nil (TX.next (TC.ret ?_))))
            cases h
            exact TX.fin (rs := [.tmp 6]) () (.inl rfl) Try.results4 (.cons (.tmp rfl) .nil) rfl Splits.nil
end Go.Proofs.Ytlamcpgnmeileaa
namespace Go.Proofs.Ytlamcpgnmeileaa
open Go.RowKit Go.Lib
set_option linter.unusedVariables false
set_option linter.unusedSimpArgs false
theorem found_cut {R : Type} {K : ByteArray → Option R} {X : Option R} (s : ByteArray) (h : ∀ x : ByteArray, x.size ≤ 200 → K x = X) : joinK (fun (j1 : ByteArray → Option R) => bcond (decide ((200 : Int) < (s.size : Int))) (grd (0 ≤ (0 : Int) ∧ (0 : Int) ≤ 200 ∧ (200 : Int) ≤ (s.size : Int)) <| j1 (cutB s 0 200)) (j1 s)) K = X := by
  by_cases hh : (200 : Int) < (s.size : Int)
  · exact condTI (decide_eq_true hh) (grdI ⟨by omega, by omega, by omega⟩ (h _ (cut_le' s 200)))
  · exact condFI (decide_eq_false hh) (h s (by omega))
theorem u64wG (x : Int) (h : 0 ≤ x ∧ x ≤ 18446744073709551615) : IntKind.u64.wrap x = x := IntWalk.u64_in x h
theorem wrap_idxG (a : Int) (n : Nat) (h : 0 < n) (hn : n ≤ 1000000000) : ∃ k : Nat, k < n ∧ IntKind.i64.wrap (Int.tmod (IntKind.u64.wrap a) (IntKind.u64.wrap (n : Int))) = (k : Int) := by
  rw [u64wG (n : Int) (by omega)]
  have h0 : 0 ≤ IntKind.u64.wrap a := by
    have e : IntKind.u64.wrap a = a % 18446744073709551616 := by
      unfold IntKind.wrap; simp [IntKind.bits, IntKind.signed]
    rw [e]; omega
  rw [Int.tmod_eq_emod_of_nonneg h0]
  have h1 := Int.emod_nonneg (IntKind.u64.wrap a) (b := (n : Int)) (by omega)
  have h2 := Int.emod_lt_of_pos (IntKind.u64.wrap a) (b := (n : Int)) (by omega)
  refine ⟨(IntKind.u64.wrap a % (n : Int)).toNat, by omega, ?_⟩
  rw [IntWalk.i64_in _ (by omega)]; omega
theorem clus_few (s : ByteArray) : (clus s).length ≤ 3 * s.size := by
  have h1 := (cl_len (apL (itemsP s))).1
  have h2 := apL_len (itemsP s)
  have h3 := pcs_count_le s
  have h4 : (itemsP s).length = (pcs s.data.toList).length := by unfold itemsP; rw [List.length_map]
  unfold clus; omega
theorem foldS_few (s : ByteArray) (hs : s.size ≤ 65536) : (foldS s).size ≤ 12 * s.size := by
  obtain ⟨hl, hc⟩ := clus_ok hs
  have := J_size foldC 4 (l := clus s) (fun c hcm => foldI_size (hc c hcm).1)
  have h2 := clus_few s
  unfold foldS; omega
theorem clus_at0 {s : ByteArray} {c : Clu} (h : c ∈ clus s) : 0 ≤ c.1.At := by
  obtain ⟨p, _, e⟩ := clus_at h; omega
theorem foldFound_v (s t : ByteArray) (f : Int) : law04_FoldFound_v s t f = some true := by
  unfold law04_FoldFound_v
  refine thenI wakes_v (condFI rfl (found_cut s fun s hs => found_cut t fun t ht => ?_))
  refine grdI ⟨by omega, by omega⟩ (grdI ?_ ?_)
  · rw [u64wG _ (by omega)]; omega
  obtain ⟨k, hk, e⟩ := wrap_idxG f (s.size + 1) (by omega) (by omega)
  rw [show ((s.size + 1 : Nat) : Int) = (s.size : Int) + 1 by omega] at e
  rw [e]
  have hwk : (andThen (law04_wakes_v) fun (r6 : Bool) => some r6) = some true := thenI wakes_v rfl
  refine thenI (find_v s t k (by omega) (by omega)) ?_
  have hfew := foldS_few t (by omega)
  -- what is told of the whole
  have hsame : ∀ z : Int, foldS t ≠ ByteArray.empty → findF (foldS t) 0 z (clus s) = none → decide (foldS s = foldS t) = false := by
    intro z hne hn
    refine decide_eq_false fun e => ?_
    by_cases hc : clus s = []
    · have : foldS s = ByteArray.empty := by unfold foldS; rw [hc, J_nil]
      exact hne (e ▸ this)
    · exact findF_all (fun c hcm => clus_at0 hcm) hc hn e
  by_cases hne : foldS t = ByteArray.empty
  · have hf : ∀ z : Int, findS s t z = (⟨0, 0⟩, false) := fun z => by unfold findS; rw [if_pos (.inr (.inr hne))]
    rw [hf]
    refine condTI rfl (thenI (find_v s t 0 (by omega) (by omega)) ?_)
    rw [hf]
    exact condTI ((eq_Gapi_Span_iff _ _).2 rfl) (condTI rfl (thenI (fold_v t (by omega)) (condFI (by rw [decide_eq_true (p := foldS t = (⟨#[]⟩ : ByteArray)) hne]; rfl) hwk)))
  have hS : ∀ z : Int, 0 ≤ z → z ≤ (s.size : Int) → findS s t z = (match findF (foldS t) z (s.size : Int) (clus s) with | some (a, b) => (⟨a, b⟩, true) | none => (⟨0, 0⟩, false)) := fun z h1 h2 => by
    unfold findS; rw [if_neg (by simp [hne]; omega)]
    generalize findF (foldS t) z (s.size : Int) (clus s) = o
    cases o with
    | none => rfl
    | some p => rfl
  rw [hS k (by omega) (by omega)]
  cases hq : findF (foldS t) (k : Int) (s.size : Int) (clus s) with
  | none =>
    refine condTI rfl (thenI (find_v s t 0 (by omega) (by omega)) ?_)
    rw [hS 0 (by omega) (by omega)]
    refine condTI ((eq_Gapi_Span_iff _ _).2 rfl) ?_
    have tail : ∀ X : Option Bool, X = some true → (andThen (fold_Fold_v t) fun (r4 : ByteArray) => bcond (!decide (r4 = (⟨#[]⟩ : ByteArray))) (bcond (((k : Int) : Int) == 0) (andThen (fold_Same_v s t) fun (r5 : Bool) => bcond (!r5) X (some false)) X) X) = some true := fun X hX => by
      refine thenI (fold_v t (by omega)) (condTI (by rw [decide_eq_false (p := foldS t = (⟨#[]⟩ : ByteArray)) hne]; rfl) ?_)
      by_cases h0 : (k : Int) = 0
      · refine condTI (by rw [beq_iff_eq]; exact h0) (thenI (same_v s t (by omega) (by omega)) ?_)
        rw [h0] at hq
        rw [hsame _ hne hq]
        exact condTI rfl hX
      · exact condFI (by rw [beq_eq_false_iff_ne]; exact h0) hX
    cases hr : findF (foldS t) 0 (s.size : Int) (clus s) with
    | none => exact condTI rfl (tail _ hwk)
    | some p =>
      obtain ⟨a, b⟩ := p
      have := findF_none hq a b hr
      exact condFI rfl (condTI (decide_eq_true this) (tail _ hwk))
  | some p =>
    obtain ⟨a, b⟩ := p
    obtain ⟨C1, C2, C3, h1, h2, h3, h4, h5, h6⟩ := findF_some hq
    obtain ⟨i, j, p1, p2, p3, p4, p5, p6, p7, p8, p9⟩ := part_v s C1 C2 C3 h1 (by omega)
    rw [p1] at h4; rw [p2] at h5
    have hij := p5 h2
    subst h4; subst h5
    have hc : (cutB s (i : Int) (j : Int)).size ≤ 65536 := by omega
    refine condFI rfl (condFI (decide_eq_false (by simp only; omega)) (condFI (decide_eq_false (by simp only; omega)) (condFI (decide_eq_false (by simp only; omega)) (grdI ⟨by simp only; omega, by simp only; omega, by simp only; omega⟩ ?_))))
    refine thenI (same_v _ _ hc (by omega)) (condFI (by rw [decide_eq_true (by rw [p6, h3])]; rfl) (thenI p8 (condFI rfl (thenI p9 (condFI rfl ?_)))))
    refine thenI (find_v s t i (by omega) (by omega)) (thenI (fold_v t (by omega)) (thenI (find_v s (foldS t) k (by omega) (by omega)) ?_))
    have e1 : findS s t i = (⟨(i : Int), (j : Int)⟩, true) := by
      rw [hS i (by omega) (by omega), findF_again hq]
    have e2 : findS s (foldS t) k = (⟨(i : Int), (j : Int)⟩, true) := by
      have : findS s (foldS t) k = findS s t k := by unfold findS; rw [fold_fold t (by omega)]
      rw [this, hS k (by omega) (by omega), hq]
    rw [e1, e2]
    exact condTI rfl (condTI ((eq_Gapi_Span_iff _ _).2 rfl) (condTI rfl (condTI ((eq_Gapi_Span_iff _ _).2 rfl) hwk)))
theorem foldFound_any (s t : ByteArray) (f : Int) (w : World) (h0 : s.size ≤ 140737488351232) (h1 : t.size ≤ 140737488351232) (h2 : -9223372036854775808 ≤ f) (h3 : f ≤ 9223372036854775807) : Calls Try.prog 4 #[.string s, .string t, .int .i64 f] w fun e w' => e = .returned (.bool true) ∧ Below w.heap.size w w' :=
  law04_FoldFound_fn (foldFound_v s t f) w
end Go.Proofs.Ytlamcpgnmeileaa
