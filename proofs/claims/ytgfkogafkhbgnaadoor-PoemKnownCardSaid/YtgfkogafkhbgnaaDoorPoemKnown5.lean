/-
  Texts laid together: WordE, WordP, Wd, LqW, LqX, LqU, PlPoemKnown. Nothing is assumed.
-/
import Derived.Test.YtgfkogafkhbgnaaDoorPoemKnown4
import Derived.Test.YtgfkogafkhbgnaaDoorPoemKnown2
set_option maxRecDepth 100000
set_option maxHeartbeats 4000000
namespace Go.Proofs.YtgfkogafkhbgnaaDoor
open Go.RowKit Go.Lib
set_option linter.unusedVariables false
set_option linter.unusedSimpArgs false
/-- The words' spans. -/
def wds (l : List Tk) : List (Nat × Nat) := l.filterMap fun t => if t.k = 1 then some (t.f, t.t) else none
def spV (p : Nat × Nat) : List Value := [.int .i64 (p.1 : Int), .int .i64 (p.2 : Int)]
def spA (p : Nat × Nat) : List Value := [.agg (spV p).toArray]
theorem zkC (s : ByteArray) (hs : s.size ≤ 4611686018427387904) (Bs : Nat) : Itr Tryd.prog 72 [.pointer (some ⟨Bs, 0, none⟩)] spA (wds (zk3 (units (pcs s.data.toList)))) [(Bs, .cells #[.string s] 9 (0, 0))] := by
 refine Itr.intro Tryd.func72 rfl Tryd.ntmps72 (by simp) ?_
 intro l w0 K I X hRo hy
 refine zap (zad ?_)
 refine zdF rfl (by decide) rfl (fun b1 => ?_)
 refine zan (zaf (zap (zad (zfQ (i := 0) hRo zhz rfl (by decide) rfl rfl rfl (zcr (vs := [.string s]) rfl (by decide) rfl rfl rfl zpd (zm6 s) Splits.nil ?_)))))
 rintro bp
 show TO _ _ _ _ _ _ _ _ _ _ [I [], cells b1 [.func (.yield l) #[] #[]] 118, cells bp [.string s] 9]
 refine zan (zaf (zaT ?_))
 refine ziU (α := Tk) (β := Unit) (γ := List (Nat × Nat) × (Nat × Nat) × List (Nat × Nat)) (δ := Nat) (ps := [6]) hRo rfl zo7 (zlj s (by omega) bp) (fun pre b => True) (fun pre b => [cells b1 [.func (.yield l) #[] #[]] 118, I (wds pre)]) (fun c pre g => c = .ret ∧ wds (zk3 (units (pcs s.data.toList))) = g.1 ++ g.2.1 :: g.2.2) (fun c pre g => [X (g.1 ++ [g.2.1])]) (fun pre x b j => [(2, .pointer (some ⟨b1, 0, none⟩)), (3, .pointer (some ⟨j, 0, none⟩))]) (fun pre x b j => [cells b1 [.func (.yield l) #[] #[]] 118, I (wds pre), cells j [.int .i64 x.k, .int .i64 (x.f : Int), .int .i64 (x.t : Int)] 123]) () trivial (zak [1, 0] (by as_aux_lemma => kernel_rfl) rfl) ⟨.inl ⟨2, rfl⟩, trivial⟩ (fun _ => rfl) (by decide) ?_ ?_ ?_ ?_
 ·
  rintro lp rc pre x post b w1 K1 hxs hext hro hinv
  refine zad ?_
  refine zbe zn5 rfl (by decide) (fun b2 => ?_)
  refine za8 (k := 2) (vs := [.int .i64 x.k, .int .i64 (x.f : Int), .int .i64 (x.t : Int)]) (l' := [.int .i64 x.k, .int .i64 (x.f : Int), .int .i64 (x.t : Int)]) zmM rfl rfl rfl rfl rfl (show _ ≤ _ by simp) rfl rfl ?_
  show TO _ _ _ _ _ _ _ _ _ _ [cells b1 [.func (.yield l) #[] #[]] 118, I (wds pre), cells b2 [.int .i64 x.k, .int .i64 (x.f : Int), .int .i64 (x.t : Int)] 123]
  refine zan ?_
  exact fun a w ha hw => ⟨b2, (zah rfl (zah rfl (zaQ))) _ _ _ ha, hw.weaken (zak [0, 1, 2] (by as_aux_lemma => kernel_rfl) rfl)⟩
 ·
  rintro lp rc pre x post b j w1 K1 hxs hext hro hinv
  by_cases hk : x.k = 1
  ·
   refine zaT (zap (zad (zam zd7 rfl (by decide) rfl (show _ = 0 from rfl) (zaP (k := 2) zcx rfl (by decide) rfl rfl rfl (zaz rfl (by decide) rfl rfl (zbi (congrArg Value.bool (show ((x.k : Int) == 1) = true from (beq_iff_eq.2 hk))) zaW) (zag rfl (by decide) rfl (zaP (k := 0) zoe rfl (by decide) rfl rfl rfl (zam zkp rfl (by decide) rfl (show _ = 1 from rfl) (zbb (k := 2) (cs := [.int .i64 (x.f : Int), .int .i64 (x.t : Int)]) zh2 rfl (by decide) rfl rfl rfl rfl ?_)))))))))
   have hq : wds (zk3 (units (pcs s.data.toList))) = wds pre ++ (x.f, x.t) :: wds post := by rw [hxs]; simp [wds, hk]
   refine zdw (hy.later hext) rfl (by decide) rfl hq rfl (k := 1) rfl ?_ ?_
   ·
    -- yes
    refine zdZ rfl (by decide) rfl zcG (zas (b := true) rfl (by decide) rfl rfl (zan (zaf (za0 rfl (zaI (zaw (za4 (k := 1) rfl (show I (wds pre ++ [(x.f, x.t)]) = I (wds (pre ++ [x])) from (by simp [wds, hk])) ?_)))))))
    show TX _ _ _ _ _ _ _ [cells b1 [.func (.yield l) #[] #[]] 118, I (wds (pre ++ [x])), cells j [.int .i64 x.k, .int .i64 (x.f : Int), .int .i64 (x.t : Int)] 123]
    exact zcD () trivial (zak [0, 1] (by as_aux_lemma => kernel_rfl) rfl)
   ·
    -- no
    refine zdZ rfl (by decide) rfl zcG (zas (b := true) rfl (by decide) rfl rfl (zan (zaf (zaY rfl (zaE (zay ?_))))))
    exact zc1 (wds pre, (x.f, x.t), wds post) ⟨rfl, hq⟩ (zak [1] (by as_aux_lemma => kernel_rfl) rfl)
  ·
   refine zaT (zap (zad (zam zd7 rfl (by decide) rfl (show _ = 0 from rfl) (zaP (k := 2) zcx rfl (by decide) rfl rfl rfl (zaz rfl (by decide) rfl rfl (zbi (congrArg Value.bool (show ((x.k : Int) == 1) = false from (beq_eq_false_iff_ne.2 hk))) zaW) (zag rfl (by decide) rfl (zae rfl (by decide) (zae rfl (by decide) (zae rfl (by decide) (zae rfl (by decide) (zae rfl (by decide) (zas (b := false) rfl (by decide) rfl rfl (zan ?_)))))))))))))
   refine zaf (za0 rfl (zaI (zaw (za4 (k := 1) rfl (show I (wds pre) = I (wds (pre ++ [x])) from (by simp [wds, hk])) ?_))))
   show TX _ _ _ _ _ _ _ [cells b1 [.func (.yield l) #[] #[]] 118, I (wds (pre ++ [x])), cells j [.int .i64 x.k, .int .i64 (x.f : Int), .int .i64 (x.t : Int)] 123]
   exact zcD () trivial (zak [0, 1] (by as_aux_lemma => kernel_rfl) rfl)
 ·
  rintro d b hinv
  show TX _ _ _ _ _ _ _ [emp, emp, cells bp [.string s] 9, cells b1 [.func (.yield l) #[] #[]] 118, I (wds (zk3 (units (pcs s.data.toList)))), zbJ d]
  refine zaw ?_
  exact zfN (ds := [d]) (.inr rfl) (zak [5] (by as_aux_lemma => kernel_rfl) rfl) Tryd.results72 rfl (zak [4] (by as_aux_lemma => kernel_rfl) rfl)
 ·
  rintro d c pre x post g hxs hX
  show TC _ _ _ _ _ _ _ _ _ [emp, emp, cells bp [.string s] 9, X (g.1 ++ [g.2.1]), zbJ d]
  obtain ⟨E, n, q⟩ := g
  obtain ⟨rfl, hq⟩ := hX
  refine zaE (zay ?_)
  exact zfO (ds := [d]) E n q hq (.inl rfl) (zak [4] (by as_aux_lemma => kernel_rfl) rfl) Tryd.results72 (zak [3] (by as_aux_lemma => kernel_rfl) rfl)

theorem zlZ (s : ByteArray) : Fn Tryd.prog 42 [.string s] [] (fun b : Nat => .func (.func 72) #[] #[.pointer (some ⟨b, 0, none⟩)]) (fun b => [cells b [.string s] 9]) := by
 refine Fn.intro Tryd.func42 rfl Tryd.ntmps42 (by simp) ?_
 intro w0 K
 refine zap (zad ?_)
 refine zdF rfl (by decide) rfl (fun b1 => ?_)
 refine zai rfl (by decide) rfl (zan (zaf (zap (zad (zdO (x1 := []) (x2 := [.tmp 1]) rfl (by decide) rfl rfl (zai rfl (by decide) rfl (zan (zaf (zaE ?_)))))))))
 exact zaM (rs := [.tmp 2]) b1 (.inl rfl) Tryd.results42 (.cons (.tmp rfl) .nil) rfl (zak [0] (by as_aux_lemma => kernel_rfl) rfl)
end Go.Proofs.YtgfkogafkhbgnaaDoor
namespace Go.Proofs.YtgfkogafkhbgnaaDoor
open Go.RowKit Go.Lib
set_option linter.unusedVariables false
set_option linter.unusedSimpArgs false
/-- From a to b without a gap; none is empty. -/
def Ch {α : Type} (f t : α → Nat) : Nat → List α → Nat → Prop
  | a, [], b => a = b
  | a, u :: us, b => f u = a ∧ f u < t u ∧ Ch f t (t u) us b
theorem Ch.app {α : Type} {f t : α → Nat} : ∀ {l : List α} {a b c : Nat} {m : List α}, Ch f t a l b → Ch f t b m c → Ch f t a (l ++ m) c
  | [], a, b, c, m, h, h2 => by cases h; exact h2
  | u :: l, a, b, c, m, h, h2 => ⟨h.1, h.2.1, Ch.app h.2.2 h2⟩
theorem Ch.one {α : Type} {f t : α → Nat} {u : α} (h : f u < t u) : Ch f t (f u) [u] (t u) := ⟨rfl, h, rfl⟩
theorem Ch.le {α : Type} {f t : α → Nat} : ∀ {l : List α} {a b : Nat}, Ch f t a l b → a ≤ b
  | [], a, b, h => Nat.le_of_eq h
  | u :: l, a, b, h => by have h1 := Ch.le h.2.2; have h2 := h.1; have h3 := h.2.1; omega
theorem Ch.mem {α : Type} {f t : α → Nat} : ∀ {l : List α} {a b : Nat}, Ch f t a l b → ∀ u ∈ l, a ≤ f u ∧ f u < t u ∧ t u ≤ b
  | [], a, b, h, u, hu => by cases hu
  | v :: l, a, b, h, u, hu => by
    have h1 := Ch.le h.2.2
    have h2 := h.1
    have h3 := h.2.1
    rcases List.mem_cons.1 hu with rfl | hu
    · omega
    · have h4 := Ch.mem h.2.2 u hu
      omega
end Go.Proofs.YtgfkogafkhbgnaaDoor
namespace Go.Proofs.YtgfkogafkhbgnaaDoor
open Go.RowKit Go.Lib
set_option linter.unusedVariables false
set_option linter.unusedSimpArgs false
def zpF (s : ByteArray) : List (Nat × Nat) := wds (zk3 (units (pcs s.data.toList)))
end Go.Proofs.YtgfkogafkhbgnaaDoor
namespace Go.Proofs.YtgfkogafkhbgnaaDoor
open Go.RowKit Go.Lib
set_option linter.unusedVariables false
set_option linter.unusedSimpArgs false
end Go.Proofs.YtgfkogafkhbgnaaDoor
namespace Go.Proofs.YtgfkogafkhbgnaaDoor
open Go.RowKit Go.Lib
set_option linter.unusedVariables false
set_option linter.unusedSimpArgs false
def zdo  : Option Int :=
some 0
theorem zfs  {r : Int} (h : zdo = some r) : FnP Tryd.prog 21 [.pointer none] (zI r) := by
 unfold zdo at h
 refine FnP.intro Tryd.func21 rfl Tryd.ntmps21 (by simp) ?_
 intro w0 K
 refine zap (zad (zai rfl dc rfl (zan (zaf (zap (zap (zad (zag rfl dc rfl (zaz rfl dc rfl rfl (zb8 (m := (none : Option Unit)) Tryd.underlying23 (.inl ⟨rfl, rfl⟩)) (zan (zaf (zaY rfl (zap ?_)))))))))))))
 refine zad (zai rfl dc rfl (zan (zaf (zaE (zav ?_)))))
 cases h
 exact zaM (rs := [.tmp 2]) () (.inl rfl) Tryd.results21 (.cons (.tmp rfl) .nil) rfl Splits.nil
def zcW  : Option Int :=
some 0
theorem ze0  {r : Int} (h : zcW = some r) : FnP Tryd.prog 23 [.pointer none] (zI r) := by
 unfold zcW at h
 refine FnP.intro Tryd.func23 rfl Tryd.ntmps23 (by simp) ?_
 intro w0 K
 refine zap (zad (zai rfl dc rfl (zan (zaf (zap (zap (zad (zag rfl dc rfl (zaz rfl dc rfl rfl (zb8 (m := (none : Option Unit)) Tryd.underlying23 (.inl ⟨rfl, rfl⟩)) (zan (zaf (zaY rfl (zap ?_)))))))))))))
 refine zad (zai rfl dc rfl (zan (zaf (zaE (zav ?_)))))
 cases h
 exact zaM (rs := [.tmp 2]) () (.inl rfl) Tryd.results23 (.cons (.tmp rfl) .nil) rfl Splits.nil
def zdl  : Option ByteArray :=
some (⟨#[]⟩ : ByteArray)
theorem zfp  {r : ByteArray} (h : zdl = some r) : FnP Tryd.prog 24 [.pointer none] (.string r) := by
 unfold zdl at h
 refine FnP.intro Tryd.func24 rfl Tryd.ntmps24 (by simp) ?_
 intro w0 K
 refine zap (zad (zai rfl dc rfl (zan (zaf (zap (zap (zad (zag rfl dc rfl (zaz rfl dc rfl rfl (zb8 (m := (none : Option Unit)) Tryd.underlying23 (.inl ⟨rfl, rfl⟩)) (zan (zaf (zaY rfl (zap ?_)))))))))))))
 refine zad (zai rfl dc rfl (zan (zaf (zaE (zav ?_)))))
 cases h
 exact zaM (rs := [.tmp 2]) () (.inl rfl) Tryd.results24 (.cons (.tmp rfl) .nil) rfl Splits.nil
def zdb  : Option ByteArray :=
some (⟨#[]⟩ : ByteArray)
theorem zfb  {r : ByteArray} (h : zdb = some r) : FnP Tryd.prog 20 [.pointer none] (.string r) := by
 unfold zdb at h
 refine FnP.intro Tryd.func20 rfl Tryd.ntmps20 (by simp) ?_
 intro w0 K
 refine zap (zad (zai rfl dc rfl (zan (zaf (zap (zap (zad (zag rfl dc rfl (zaz rfl dc rfl rfl (zb8 (m := (none : Option Unit)) Tryd.underlying23 (.inl ⟨rfl, rfl⟩)) (zan (zaf (zaY rfl (zap ?_)))))))))))))
 refine zad (zai rfl dc rfl (zan (zaf (zaE (zav ?_)))))
 cases h
 exact zaM (rs := [.tmp 2]) () (.inl rfl) Tryd.results20 (.cons (.tmp rfl) .nil) rfl Splits.nil
def zdB (k1 : Int) : Option (Gapi_Verse × Int) :=
some ((⟨ByteArray.empty, 0, 0, 0, 0, 0⟩ : Gapi_Verse), 1)
theorem zfC {k1 : Int} {r : (Gapi_Verse × Int)} (h : zdB k1 = some r) : FnP Tryd.prog 28 [.pointer none, zI k1] (.tuple #[.agg #[.string r.1.Text, zI r.1.Indent, zI r.1.Stanza, zI r.1.In, zI r.1.Span_From, zI r.1.Span_To], zI r.2]) := by
 unfold zdB at h
 refine FnP.intro Tryd.func28 rfl Tryd.ntmps28 (by simp) ?_
 intro w0 K
 refine zap (zad ?_)
 refine zbe zhr rfl dc (fun b1 => ?_)
 refine zai rfl dc rfl (zan (zaf (zap (zaT (zap (zad (zag rfl dc rfl (zaz rfl dc rfl rfl (zb8 (m := (none : Option Unit)) Tryd.underlying23 (.inl ⟨rfl, rfl⟩)) (zai rfl dc rfl (zan (zaf (zaY rfl (zap ?_)))))))))))))
 refine zad ?_
 refine zba (v := .agg #[.string ByteArray.empty, zI 0, zI 0, zI 0, zI 0, zI 0]) (ps := []) rfl dc rfl (fun _ => by kernel_rfl) ?_
 refine za8 (k := 0) (vs := [.string ByteArray.empty, zI 0, zI 0, zI 0, zI 0, zI 0]) (l' := [.string ByteArray.empty, zI 0, zI 0, zI 0, zI 0, zI 0]) zfm rfl rfl rfl rfl rfl (show _ ≤ _ by simp) rfl rfl ?_
 show TO _ _ _ _ _ _ _ _ _ _ [cells b1 [.string ByteArray.empty, zI 0, zI 0, zI 0, zI 0, zI 0] 36]
 refine zai rfl dc rfl (zan (zaf (zaE (zay (zav ?_)))))
 cases h
 exact zaM (rs := [.cell 4 36, .tmp 5]) () (.inl rfl) Tryd.results28 (.cons (.cells zg9 (k := 0) rfl rfl rfl) (.cons (.tmp rfl) .nil)) rfl Splits.nil
def zda (k1 : Int) : Option (Gapi_Span × Int) :=
some ((⟨0, 0⟩ : Gapi_Span), 1)
theorem zfa {k1 : Int} {r : (Gapi_Span × Int)} (h : zda k1 = some r) : FnP Tryd.prog 44 [.pointer none, zI k1] (.tuple #[.agg #[zI r.1.From, zI r.1.To], zI r.2]) := by
 unfold zda at h
 refine FnP.intro Tryd.func44 rfl Tryd.ntmps44 (by simp) ?_
 intro w0 K
 refine zap (zad ?_)
 refine zbe zlY rfl dc (fun b1 => ?_)
 refine zai rfl dc rfl (zan (zaf (zap (zaT (zap (zad (zag rfl dc rfl (zaz rfl dc rfl rfl (zb8 (m := (none : Option Unit)) Tryd.underlying23 (.inl ⟨rfl, rfl⟩)) (zai rfl dc rfl (zan (zaf (zaY rfl (zap ?_)))))))))))))
 refine zad ?_
 refine zba (v := .agg #[zI 0, zI 0]) (ps := []) rfl dc rfl (fun _ => by kernel_rfl) ?_
 refine za8 (k := 0) (vs := [zI 0, zI 0]) (l' := [zI 0, zI 0]) zjF rfl rfl rfl rfl rfl (show _ ≤ _ by simp) rfl rfl ?_
 show TO _ _ _ _ _ _ _ _ _ _ [cells b1 [zI 0, zI 0] 34]
 refine zai rfl dc rfl (zan (zaf (zaE (zay (zav ?_)))))
 cases h
 exact zaM (rs := [.cell 4 34, .tmp 5]) () (.inl rfl) Tryd.results44 (.cons (.cells zh2 (k := 0) rfl rfl rfl) (.cons (.tmp rfl) .nil)) rfl Splits.nil
def zdD (at1 : Int) : Option (Int × Int × Int) :=
some (0, 0, 1)
theorem zfE {at1 : Int} {r : (Int × Int × Int)} (h : zdD at1 = some r) : FnP Tryd.prog 32 [.pointer none, zI at1] (.tuple #[zI r.1, zI r.2.1, zI r.2.2]) := by
 unfold zdD at h
 refine FnP.intro Tryd.func32 rfl Tryd.ntmps32 (by simp) ?_
 intro w0 K
 refine zgD ?_
 show TC _ _ _ _ _ _ _ _ _ [zbU ((([] : List Nat) : List Nat).map zbJ)]
 refine zap (zad ?_)
 refine zdF rfl dc rfl (fun b1 => ?_)
 refine zbe znU rfl dc (fun b2 => ?_)
 show TO _ _ _ _ _ _ _ _ _ _ [zbU ((([] : List Nat) : List Nat).map zbJ), cells b1 [zI at1] 3, cells b2 [zI 0] 3]
 refine zbe znU rfl dc (fun b3 => ?_)
 refine zbe zn1 rfl dc (fun b4 => ?_)
 show TO _ _ _ _ _ _ _ _ _ _ [zbU ((([] : List Nat) : List Nat).map zbJ), cells b1 [zI at1] 3, cells b2 [zI 0] 3, cells b3 [zI 0] 3, cells b4 [zI 0] 24]
 refine zan (zaf (zap (zaT (zap (zad (zag rfl dc rfl (zaz rfl dc rfl rfl (zb8 (m := (none : Option Unit)) Tryd.underlying23 (.inl ⟨rfl, rfl⟩)) (zai rfl dc rfl (zan (zaf (zaY rfl (zap (zad ?_)))))))))))))
 refine zaN (k := 2) (l' := [zI 0]) zdW rfl rfl rfl rfl rfl (fun _ _ => rfl) rfl ?_
 refine zaN (k := 3) (l' := [zI 0]) zdW rfl rfl rfl rfl rfl (fun _ _ => rfl) rfl ?_
 show TO _ _ _ _ _ _ _ _ _ _ [zbU ((([] : List Nat) : List Nat).map zbJ), cells b1 [zI at1] 3, cells b2 [zI 0] 3, cells b3 [zI 0] 3, cells b4 [zI 0] 24]
 refine zaN (k := 4) (l' := [zI 1]) zld rfl rfl rfl rfl rfl (fun _ _ => rfl) rfl ?_
 refine zan (zaf (zaE (zay (zav ?_))))
 cases h
 exact zbm (rs := [.cell 4 3, .cell 5 3, .cell 6 24]) ([] : List Nat) () (.inl rfl) (zaU (k := 0) rfl) Tryd.results32 (.cons (.cell zcx (k := 2) rfl rfl) (.cons (.cell zcx (k := 3) rfl rfl) (.cons (.cell zlm (k := 4) rfl rfl) .nil))) rfl Splits.nil
def zdn  : Option ByteArray :=
some (⟨#[]⟩ : ByteArray)
theorem zfr  {r : ByteArray} (h : zdn = some r) : FnP Tryd.prog 18 [.pointer none] (.string r) := by
 unfold zdn at h
 refine FnP.intro Tryd.func18 rfl Tryd.ntmps18 (by simp) ?_
 intro w0 K
 refine zap (zad (zai rfl dc rfl (zan (zaf (zap (zap (zad (zag rfl dc rfl (zaz rfl dc rfl rfl (zb8 (m := (none : Option Unit)) Tryd.underlying23 (.inl ⟨rfl, rfl⟩)) (zan (zaf (zaY rfl (zap ?_)))))))))))))
 refine zad (zai rfl dc rfl (zan (zaf (zaE (zav ?_)))))
 cases h
 exact zaM (rs := [.tmp 2]) () (.inl rfl) Tryd.results18 (.cons (.tmp rfl) .nil) rfl Splits.nil
def zdK (k1 : Int) (line1 : ByteArray) : Option ((Option Gpoem_Poem) × Int) :=
some (none, 1)
theorem zf1 {k1 : Int} {line1 : ByteArray} {r : ((Option Gpoem_Poem) × Int)} (h : zdK k1 line1 = some r) : Fn Tryd.prog 29 [.pointer none, zI k1, .string line1] [] (fun v0 : Value => .tuple #[v0, zI r.2]) (fun v0 => [za5 zac zab 93 v0 r.1]) := by
 unfold zdK at h
 refine Fn.intro Tryd.func29 rfl Tryd.ntmps29 (by simp) ?_
 intro w0 K
 refine zap (zad (zai rfl dc rfl (zai rfl dc rfl (zan (zaf (zap (zaT (zap (zad (zag rfl dc rfl (zaz rfl dc rfl rfl (zb8 (m := (none : Option Unit)) Tryd.underlying23 (.inl ⟨rfl, rfl⟩)) (zai rfl dc rfl (zan ?_)))))))))))))
 refine zaf (zaY rfl (zap (zad (zai rfl dc rfl (zai rfl dc rfl (zan (zaf (zaE (zay (zav (zbL zac zab 93 ?_)))))))))))
 show TX _ _ _ _ _ _ _ [za5 zac zab 93 (.pointer none) none]
 cases h
 exact zaM (rs := [.tmp 6, .tmp 7]) (.pointer none) (.inl rfl) Tryd.results29 (.cons (.tmp rfl) (.cons (.tmp rfl) .nil)) rfl (zak [0] kr rfl)
def zdL (from1 : Int) (to1 : Int) : Option ((Option Gpoem_Poem) × Int) :=
some (none, 1)
theorem zf2 {from1 : Int} {to1 : Int} {r : ((Option Gpoem_Poem) × Int)} (h : zdL from1 to1 = some r) : Fn Tryd.prog 25 [.pointer none, zI from1, zI to1] [] (fun v0 : Value => .tuple #[v0, zI r.2]) (fun v0 => [za5 zac zab 93 v0 r.1]) := by
 unfold zdL at h
 refine Fn.intro Tryd.func25 rfl Tryd.ntmps25 (by simp) ?_
 intro w0 K
 refine zap (zad (zai rfl dc rfl (zai rfl dc rfl (zan (zaf (zap (zaT (zap (zad (zag rfl dc rfl (zaz rfl dc rfl rfl (zb8 (m := (none : Option Unit)) Tryd.underlying23 (.inl ⟨rfl, rfl⟩)) (zai rfl dc rfl (zan ?_)))))))))))))
 refine zaf (zaY rfl (zap (zad (zai rfl dc rfl (zai rfl dc rfl (zan (zaf (zaE (zay (zav (zbL zac zab 93 ?_)))))))))))
 show TX _ _ _ _ _ _ _ [za5 zac zab 93 (.pointer none) none]
 cases h
 exact zaM (rs := [.tmp 6, .tmp 7]) (.pointer none) (.inl rfl) Tryd.results25 (.cons (.tmp rfl) (.cons (.tmp rfl) .nil)) rfl (zak [0] kr rfl)
def zdC (q1 : Gpoem_Poem) : Option ((Option Gpoem_Poem) × Int) :=
some (none, 1)
theorem zfD {bq1 : Nat} {q1 : Gpoem_Poem} {q1_h0 q1_h1 : Hd} {r : ((Option Gpoem_Poem) × Int)} (h : zdC q1 = some r) : FnR Tryd.prog 22 [.pointer none, zP bq1] [cells bq1 [.string q1.told_title, q1_h0.v, q1_h1.v, .string q1.source] 93, vec zal 36 6 q1_h0.v q1.told_lines, vec zaq 34 2 q1_h1.v q1.told_stanzas] [] (fun v0 : Value => .tuple #[v0, zI r.2]) (fun v0 => [za5 zac zab 93 v0 r.1]) := by
 unfold zdC at h
 refine FnR.intro Tryd.func22 rfl Tryd.ntmps22 (by simp) ?_
 intro w0 K hrd
 refine zap (zad (zai rfl dc rfl (zai rfl dc rfl (zan (zaf (zap (zap (zad (zag rfl dc rfl (zaz rfl dc rfl rfl (zb8 (m := (none : Option Unit)) Tryd.underlying23 (.inl ⟨rfl, rfl⟩)) (zag rfl dc rfl (zae rfl dc (zae rfl dc ?_)))))))))))))
 refine zas (b := true) rfl dc rfl rfl (zan (zaf (zaY rfl (zap (zad (zai rfl dc rfl (zai rfl dc rfl (zan (zaf (zaE (zav (zbL zac zab 93 ?_))))))))))))
 show TX _ _ _ _ _ _ _ [za5 zac zab 93 (.pointer none) none]
 cases h
 exact zaM (rs := [.tmp 4, .tmp 5]) (.pointer none) (.inl rfl) Tryd.results22 (.cons (.tmp rfl) (.cons (.tmp rfl) .nil)) rfl (zak [0] kr rfl)
def zdp (p1 : Gpoem_Poem) : Option ((Option Gpoem_Poem) × Int) :=
some (none, 1)
theorem zft {bp1 : Nat} {p1 : Gpoem_Poem} {p1_h0 p1_h1 : Hd} {r : ((Option Gpoem_Poem) × Int)} (h : zdp p1 = some r) : FnR Tryd.prog 22 [zP bp1, .pointer none] [cells bp1 [.string p1.told_title, p1_h0.v, p1_h1.v, .string p1.source] 93, vec zal 36 6 p1_h0.v p1.told_lines, vec zaq 34 2 p1_h1.v p1.told_stanzas] [] (fun v0 : Value => .tuple #[v0, zI r.2]) (fun v0 => [za5 zac zab 93 v0 r.1]) := by
 unfold zdp at h
 refine FnR.intro Tryd.func22 rfl Tryd.ntmps22 (by simp) ?_
 intro w0 K hrd
 refine zap (zad (zai rfl dc rfl (zai rfl dc rfl (zan (zaf (zap (zap (zad (zag rfl dc rfl (zaz rfl dc rfl rfl (zbh Tryd.underlying23) (zag rfl dc rfl (zag rfl dc rfl (zaz rfl dc rfl rfl (zb8 (m := (none : Option Unit)) Tryd.underlying23 (.inl ⟨rfl, rfl⟩)) ?_)))))))))))))
 refine zas (b := false) rfl dc rfl rfl (zan (zaf (zaY rfl (zap (zad (zai rfl dc rfl (zai rfl dc rfl (zan (zaf (zaE (zav (zbL zac zab 93 ?_))))))))))))
 show TX _ _ _ _ _ _ _ [za5 zac zab 93 (.pointer none) none]
 cases h
 exact zaM (rs := [.tmp 4, .tmp 5]) (.pointer none) (.inl rfl) Tryd.results22 (.cons (.tmp rfl) (.cons (.tmp rfl) .nil)) rfl (zak [0] kr rfl)
def zdA (q1 : Gpoem_Poem) : Option Bool :=
some false
theorem zfB {bq1 : Nat} {q1 : Gpoem_Poem} {q1_h0 q1_h1 : Hd} {r : Bool} (h : zdA q1 = some r) : FnR Tryd.prog 19 [.pointer none, zP bq1] [cells bq1 [.string q1.told_title, q1_h0.v, q1_h1.v, .string q1.source] 93, vec zal 36 6 q1_h0.v q1.told_lines, vec zaq 34 2 q1_h1.v q1.told_stanzas] [] (fun _ : Unit => (.bool r)) (fun _ => []) := by
 unfold zdA at h
 refine FnR.intro Tryd.func19 rfl Tryd.ntmps19 (by simp) ?_
 intro w0 K hrd
 refine zap (zad (zai rfl dc rfl (zan (zaf (zap (zap ?_))))))
 refine zcm 32 [(0, 8, .pointer none), (1, 9, .bool true), (2, 10, .bool true), (3, 11, undef), (4, 12, undef), (5, 13, .bool true), (6, 14, .bool true), (7, 15, undef), (8, 16, undef), (9, 17, undef), (10, 18, undef), (11, 19, undef), (12, 20, undef), (13, 21, undef), (14, 22, undef), (15, 23, undef), (16, 24, undef), (17, 25, undef), (18, 26, .bool true), (19, 27, .bool true), (20, 28, undef), (21, 29, undef), (22, 30, undef), (23, 31, undef), (24, 32, undef), (25, 33, undef), (26, 34, undef), (27, 35, undef), (28, 36, undef), (29, 37, undef), (30, 38, undef), (31, 39, undef)] mixed kr kr dc (by rfl) kr kr (zao ?_ (zao ?_ (zao ?_ (zao ?_ (zao ?_ (zao ?_ (zao ?_ (zao ?_ (zao ?_ (zao ?_ (zao ?_ (zao ?_ (zao ?_ (zao ?_ (zao ?_ (zao ?_ (zao ?_ (zao ?_ (zao ?_ (zao ?_ (zao ?_ (zao ?_ (zao ?_ (zao ?_ (zao ?_ (zao ?_ (zao ?_ (zao ?_ (zao ?_ (zao ?_ (zao ?_ (zao ?_ DrawPre.nil)))))))))))))))))))))))))))))))) ?_
 ·
  intro D hn hd hcl hu hi
  refine zag rfl dc (zaS (by rfl) rfl) ?_
  exact zar 0 hu hi rfl
 ·
  intro D hn hd hcl hu hi
  refine zaz rfl dc (zaj (m := 0) hu rfl (hd 0 dc)) rfl (zb8 (m := (none : Option Unit)) Tryd.underlying23 (.inl ⟨rfl, rfl⟩)) ?_
  exact zar 1 hu hi rfl
 ·
  intro D hn hd hcl hu hi
  refine zag rfl dc (zaj (m := 1) hu rfl (hd 1 dc)) ?_
  exact zar 2 hu hi rfl
 ·
  intro D hn hd hcl hu hi
  refine zae (zcu rfl (zaj (m := 2) hu rfl (hd 2 dc))) dc ?_
  exact zar 3 hu hi rfl
 ·
  intro D hn hd hcl hu hi
  refine zae (zcu rfl (zaj (m := 2) hu rfl (hd 2 dc))) dc ?_
  exact zar 4 hu hi rfl
 ·
  intro D hn hd hcl hu hi
  refine zas (b := true) rfl dc (zaj (m := 2) hu rfl (hd 2 dc)) rfl ?_
  exact zar 5 hu hi rfl
 ·
  intro D hn hd hcl hu hi
  refine zag rfl dc (zaj (m := 5) hu rfl (hd 5 dc)) ?_
  exact zar 6 hu hi rfl
 ·
  intro D hn hd hcl hu hi
  refine zae (zcu rfl (zaj (m := 6) hu rfl (hd 6 dc))) dc ?_
  exact zar 7 hu hi rfl
 ·
  intro D hn hd hcl hu hi
  refine zae (zcu rfl (zaj (m := 6) hu rfl (hd 6 dc))) dc ?_
  exact zar 8 hu hi rfl
 ·
  intro D hn hd hcl hu hi
  refine zae (zcu rfl (zaj (m := 6) hu rfl (hd 6 dc))) dc ?_
  exact zar 9 hu hi rfl
 ·
  intro D hn hd hcl hu hi
  refine zae (zcu rfl (zaj (m := 6) hu rfl (hd 6 dc))) dc ?_
  exact zar 10 hu hi rfl
 ·
  intro D hn hd hcl hu hi
  refine zae (zcu rfl (zaj (m := 6) hu rfl (hd 6 dc))) dc ?_
  exact zar 11 hu hi rfl
 ·
  intro D hn hd hcl hu hi
  refine zae (zcu rfl (zaj (m := 6) hu rfl (hd 6 dc))) dc ?_
  exact zar 12 hu hi rfl
 ·
  intro D hn hd hcl hu hi
  refine zae (zcu rfl (zaj (m := 6) hu rfl (hd 6 dc))) dc ?_
  exact zar 13 hu hi rfl
 ·
  intro D hn hd hcl hu hi
  refine zae (zcu rfl (zaj (m := 6) hu rfl (hd 6 dc))) dc ?_
  exact zar 14 hu hi rfl
 ·
  intro D hn hd hcl hu hi
  refine zae (zcu rfl (zaj (m := 6) hu rfl (hd 6 dc))) dc ?_
  exact zar 15 hu hi rfl
 ·
  intro D hn hd hcl hu hi
  refine zae (zcu rfl (zaj (m := 6) hu rfl (hd 6 dc))) dc ?_
  exact zar 16 hu hi rfl
 ·
  intro D hn hd hcl hu hi
  refine zae (zcu rfl (zaj (m := 6) hu rfl (hd 6 dc))) dc ?_
  exact zar 17 hu hi rfl
 ·
  intro D hn hd hcl hu hi
  refine zas (b := true) rfl dc (zaj (m := 6) hu rfl (hd 6 dc)) rfl ?_
  exact zar 18 hu hi rfl
 ·
  intro D hn hd hcl hu hi
  refine zag rfl dc (zaj (m := 18) hu rfl (hd 18 dc)) ?_
  exact zar 19 hu hi rfl
 ·
  intro D hn hd hcl hu hi
  refine zae (zcu rfl (zaj (m := 19) hu rfl (hd 19 dc))) dc ?_
  exact zar 20 hu hi rfl
 ·
  intro D hn hd hcl hu hi
  refine zae (zcu rfl (zaj (m := 19) hu rfl (hd 19 dc))) dc ?_
  exact zar 21 hu hi rfl
 ·
  intro D hn hd hcl hu hi
  refine zae (zcu rfl (zaj (m := 19) hu rfl (hd 19 dc))) dc ?_
  exact zar 22 hu hi rfl
 ·
  intro D hn hd hcl hu hi
  refine zae (zcu rfl (zaj (m := 19) hu rfl (hd 19 dc))) dc ?_
  exact zar 23 hu hi rfl
 ·
  intro D hn hd hcl hu hi
  refine zae (zcu rfl (zaj (m := 19) hu rfl (hd 19 dc))) dc ?_
  exact zar 24 hu hi rfl
 ·
  intro D hn hd hcl hu hi
  refine zae (zcu rfl (zaj (m := 19) hu rfl (hd 19 dc))) dc ?_
  exact zar 25 hu hi rfl
 ·
  intro D hn hd hcl hu hi
  refine zae (zcu rfl (zaj (m := 19) hu rfl (hd 19 dc))) dc ?_
  exact zar 26 hu hi rfl
 ·
  intro D hn hd hcl hu hi
  refine zae (zcu rfl (zaj (m := 19) hu rfl (hd 19 dc))) dc ?_
  exact zar 27 hu hi rfl
 ·
  intro D hn hd hcl hu hi
  refine zae (zcu rfl (zaj (m := 19) hu rfl (hd 19 dc))) dc ?_
  exact zar 28 hu hi rfl
 ·
  intro D hn hd hcl hu hi
  refine zae (zcu rfl (zaj (m := 19) hu rfl (hd 19 dc))) dc ?_
  exact zar 29 hu hi rfl
 ·
  intro D hn hd hcl hu hi
  refine zae (zcu rfl (zaj (m := 19) hu rfl (hd 19 dc))) dc ?_
  exact zar 30 hu hi rfl
 ·
  intro D hn hd hcl hu hi
  refine zae (zcu rfl (zaj (m := 19) hu rfl (hd 19 dc))) dc ?_
  exact zar 31 hu hi rfl
 refine zae rfl dc (zas (b := true) rfl dc rfl rfl (zan (zaf (zaY rfl (zap (zad (zai rfl dc rfl (zan (zaf (zaE (zav ?_)))))))))))
 cases h
 exact zaM (rs := [.tmp 4]) () (.inl rfl) Tryd.results19 (.cons (.tmp rfl) .nil) rfl Splits.nil
def zdm (p1 : Gpoem_Poem) : Option Bool :=
some false
theorem zfq {bp1 : Nat} {p1 : Gpoem_Poem} {p1_h0 p1_h1 : Hd} {r : Bool} (h : zdm p1 = some r) : FnR Tryd.prog 19 [zP bp1, .pointer none] [cells bp1 [.string p1.told_title, p1_h0.v, p1_h1.v, .string p1.source] 93, vec zal 36 6 p1_h0.v p1.told_lines, vec zaq 34 2 p1_h1.v p1.told_stanzas] [] (fun _ : Unit => (.bool r)) (fun _ => []) := by
 unfold zdm at h
 refine FnR.intro Tryd.func19 rfl Tryd.ntmps19 (by simp) ?_
 intro w0 K hrd
 refine zap (zad (zai rfl dc rfl (zan (zaf (zap (zap ?_))))))
 refine zcm 32 [(0, 8, zP bp1), (1, 9, .bool false), (2, 10, .bool false), (3, 11, .pointer none), (4, 12, .bool true), (5, 13, .bool true), (6, 14, .bool true), (7, 15, undef), (8, 16, undef), (9, 17, undef), (10, 18, undef), (11, 19, undef), (12, 20, undef), (13, 21, undef), (14, 22, undef), (15, 23, undef), (16, 24, undef), (17, 25, undef), (18, 26, .bool true), (19, 27, .bool true), (20, 28, undef), (21, 29, undef), (22, 30, undef), (23, 31, undef), (24, 32, undef), (25, 33, undef), (26, 34, undef), (27, 35, undef), (28, 36, undef), (29, 37, undef), (30, 38, undef), (31, 39, undef)] mixed kr kr dc (by rfl) kr kr (zao ?_ (zao ?_ (zao ?_ (zao ?_ (zao ?_ (zao ?_ (zao ?_ (zao ?_ (zao ?_ (zao ?_ (zao ?_ (zao ?_ (zao ?_ (zao ?_ (zao ?_ (zao ?_ (zao ?_ (zao ?_ (zao ?_ (zao ?_ (zao ?_ (zao ?_ (zao ?_ (zao ?_ (zao ?_ (zao ?_ (zao ?_ (zao ?_ (zao ?_ (zao ?_ (zao ?_ (zao ?_ DrawPre.nil)))))))))))))))))))))))))))))))) ?_
 ·
  intro D hn hd hcl hu hi
  refine zag rfl dc (zaS (by rfl) rfl) ?_
  exact zar 0 hu hi rfl
 ·
  intro D hn hd hcl hu hi
  refine zaz rfl dc (zaj (m := 0) hu rfl (hd 0 dc)) rfl (zbh Tryd.underlying23) ?_
  exact zar 1 hu hi rfl
 ·
  intro D hn hd hcl hu hi
  refine zag rfl dc (zaj (m := 1) hu rfl (hd 1 dc)) ?_
  exact zar 2 hu hi rfl
 ·
  intro D hn hd hcl hu hi
  refine zag (zeE rfl (zaj (m := 2) hu rfl (hd 2 dc))) dc (zaS (by rfl) rfl) ?_
  exact zar 3 hu hi rfl
 ·
  intro D hn hd hcl hu hi
  refine zaz (zeE rfl (zaj (m := 2) hu rfl (hd 2 dc))) dc (zaj (m := 3) hu rfl (hd 3 dc)) rfl (zb8 (m := (none : Option Unit)) Tryd.underlying23 (.inl ⟨rfl, rfl⟩)) ?_
  exact zar 4 hu hi rfl
 ·
  intro D hn hd hcl hu hi
  refine zas (b := false) rfl dc (zaj (m := 2) hu rfl (hd 2 dc)) (zaj (m := 4) hu rfl (hd 4 dc)) ?_
  exact zar 5 hu hi rfl
 ·
  intro D hn hd hcl hu hi
  refine zag rfl dc (zaj (m := 5) hu rfl (hd 5 dc)) ?_
  exact zar 6 hu hi rfl
 ·
  intro D hn hd hcl hu hi
  refine zae (zcu rfl (zaj (m := 6) hu rfl (hd 6 dc))) dc ?_
  exact zar 7 hu hi rfl
 ·
  intro D hn hd hcl hu hi
  refine zae (zcu rfl (zaj (m := 6) hu rfl (hd 6 dc))) dc ?_
  exact zar 8 hu hi rfl
 ·
  intro D hn hd hcl hu hi
  refine zae (zcu rfl (zaj (m := 6) hu rfl (hd 6 dc))) dc ?_
  exact zar 9 hu hi rfl
 ·
  intro D hn hd hcl hu hi
  refine zae (zcu rfl (zaj (m := 6) hu rfl (hd 6 dc))) dc ?_
  exact zar 10 hu hi rfl
 ·
  intro D hn hd hcl hu hi
  refine zae (zcu rfl (zaj (m := 6) hu rfl (hd 6 dc))) dc ?_
  exact zar 11 hu hi rfl
 ·
  intro D hn hd hcl hu hi
  refine zae (zcu rfl (zaj (m := 6) hu rfl (hd 6 dc))) dc ?_
  exact zar 12 hu hi rfl
 ·
  intro D hn hd hcl hu hi
  refine zae (zcu rfl (zaj (m := 6) hu rfl (hd 6 dc))) dc ?_
  exact zar 13 hu hi rfl
 ·
  intro D hn hd hcl hu hi
  refine zae (zcu rfl (zaj (m := 6) hu rfl (hd 6 dc))) dc ?_
  exact zar 14 hu hi rfl
 ·
  intro D hn hd hcl hu hi
  refine zae (zcu rfl (zaj (m := 6) hu rfl (hd 6 dc))) dc ?_
  exact zar 15 hu hi rfl
 ·
  intro D hn hd hcl hu hi
  refine zae (zcu rfl (zaj (m := 6) hu rfl (hd 6 dc))) dc ?_
  exact zar 16 hu hi rfl
 ·
  intro D hn hd hcl hu hi
  refine zae (zcu rfl (zaj (m := 6) hu rfl (hd 6 dc))) dc ?_
  exact zar 17 hu hi rfl
 ·
  intro D hn hd hcl hu hi
  refine zas (b := true) rfl dc (zaj (m := 6) hu rfl (hd 6 dc)) rfl ?_
  exact zar 18 hu hi rfl
 ·
  intro D hn hd hcl hu hi
  refine zag rfl dc (zaj (m := 18) hu rfl (hd 18 dc)) ?_
  exact zar 19 hu hi rfl
 ·
  intro D hn hd hcl hu hi
  refine zae (zcu rfl (zaj (m := 19) hu rfl (hd 19 dc))) dc ?_
  exact zar 20 hu hi rfl
 ·
  intro D hn hd hcl hu hi
  refine zae (zcu rfl (zaj (m := 19) hu rfl (hd 19 dc))) dc ?_
  exact zar 21 hu hi rfl
 ·
  intro D hn hd hcl hu hi
  refine zae (zcu rfl (zaj (m := 19) hu rfl (hd 19 dc))) dc ?_
  exact zar 22 hu hi rfl
 ·
  intro D hn hd hcl hu hi
  refine zae (zcu rfl (zaj (m := 19) hu rfl (hd 19 dc))) dc ?_
  exact zar 23 hu hi rfl
 ·
  intro D hn hd hcl hu hi
  refine zae (zcu rfl (zaj (m := 19) hu rfl (hd 19 dc))) dc ?_
  exact zar 24 hu hi rfl
 ·
  intro D hn hd hcl hu hi
  refine zae (zcu rfl (zaj (m := 19) hu rfl (hd 19 dc))) dc ?_
  exact zar 25 hu hi rfl
 ·
  intro D hn hd hcl hu hi
  refine zae (zcu rfl (zaj (m := 19) hu rfl (hd 19 dc))) dc ?_
  exact zar 26 hu hi rfl
 ·
  intro D hn hd hcl hu hi
  refine zae (zcu rfl (zaj (m := 19) hu rfl (hd 19 dc))) dc ?_
  exact zar 27 hu hi rfl
 ·
  intro D hn hd hcl hu hi
  refine zae (zcu rfl (zaj (m := 19) hu rfl (hd 19 dc))) dc ?_
  exact zar 28 hu hi rfl
 ·
  intro D hn hd hcl hu hi
  refine zae (zcu rfl (zaj (m := 19) hu rfl (hd 19 dc))) dc ?_
  exact zar 29 hu hi rfl
 ·
  intro D hn hd hcl hu hi
  refine zae (zcu rfl (zaj (m := 19) hu rfl (hd 19 dc))) dc ?_
  exact zar 30 hu hi rfl
 ·
  intro D hn hd hcl hu hi
  refine zae (zcu rfl (zaj (m := 19) hu rfl (hd 19 dc))) dc ?_
  exact zar 31 hu hi rfl
 refine zae rfl dc (zas (b := true) rfl dc rfl rfl (zan (zaf (zaY rfl (zap (zad (zai rfl dc rfl (zan (zaf (zaE (zav ?_)))))))))))
 cases h
 exact zaM (rs := [.tmp 4]) () (.inl rfl) Tryd.results19 (.cons (.tmp rfl) .nil) rfl Splits.nil
def zdc  : Option Bool :=
some false
theorem zfc  {r : Bool} (h : zdc = some r) : FnP Tryd.prog 19 [.pointer none, .pointer none] (.bool r) := by
 unfold zdc at h
 refine FnP.intro Tryd.func19 rfl Tryd.ntmps19 (by simp) ?_
 intro w0 K
 refine zap (zad (zai rfl dc rfl (zan (zaf (zap (zap ?_))))))
 refine zcm 32 [(0, 8, .pointer none), (1, 9, .bool true), (2, 10, .bool true), (3, 11, undef), (4, 12, undef), (5, 13, .bool true), (6, 14, .bool true), (7, 15, undef), (8, 16, undef), (9, 17, undef), (10, 18, undef), (11, 19, undef), (12, 20, undef), (13, 21, undef), (14, 22, undef), (15, 23, undef), (16, 24, undef), (17, 25, undef), (18, 26, .bool true), (19, 27, .bool true), (20, 28, undef), (21, 29, undef), (22, 30, undef), (23, 31, undef), (24, 32, undef), (25, 33, undef), (26, 34, undef), (27, 35, undef), (28, 36, undef), (29, 37, undef), (30, 38, undef), (31, 39, undef)] mixed kr kr dc (by rfl) kr kr (zao ?_ (zao ?_ (zao ?_ (zao ?_ (zao ?_ (zao ?_ (zao ?_ (zao ?_ (zao ?_ (zao ?_ (zao ?_ (zao ?_ (zao ?_ (zao ?_ (zao ?_ (zao ?_ (zao ?_ (zao ?_ (zao ?_ (zao ?_ (zao ?_ (zao ?_ (zao ?_ (zao ?_ (zao ?_ (zao ?_ (zao ?_ (zao ?_ (zao ?_ (zao ?_ (zao ?_ (zao ?_ DrawPre.nil)))))))))))))))))))))))))))))))) ?_
 ·
  intro D hn hd hcl hu hi
  refine zag rfl dc (zaS (by rfl) rfl) ?_
  exact zar 0 hu hi rfl
 ·
  intro D hn hd hcl hu hi
  refine zaz rfl dc (zaj (m := 0) hu rfl (hd 0 dc)) rfl (zb8 (m := (none : Option Unit)) Tryd.underlying23 (.inl ⟨rfl, rfl⟩)) ?_
  exact zar 1 hu hi rfl
 ·
  intro D hn hd hcl hu hi
  refine zag rfl dc (zaj (m := 1) hu rfl (hd 1 dc)) ?_
  exact zar 2 hu hi rfl
 ·
  intro D hn hd hcl hu hi
  refine zae (zcu rfl (zaj (m := 2) hu rfl (hd 2 dc))) dc ?_
  exact zar 3 hu hi rfl
 ·
  intro D hn hd hcl hu hi
  refine zae (zcu rfl (zaj (m := 2) hu rfl (hd 2 dc))) dc ?_
  exact zar 4 hu hi rfl
 ·
  intro D hn hd hcl hu hi
  refine zas (b := true) rfl dc (zaj (m := 2) hu rfl (hd 2 dc)) rfl ?_
  exact zar 5 hu hi rfl
 ·
  intro D hn hd hcl hu hi
  refine zag rfl dc (zaj (m := 5) hu rfl (hd 5 dc)) ?_
  exact zar 6 hu hi rfl
 ·
  intro D hn hd hcl hu hi
  refine zae (zcu rfl (zaj (m := 6) hu rfl (hd 6 dc))) dc ?_
  exact zar 7 hu hi rfl
 ·
  intro D hn hd hcl hu hi
  refine zae (zcu rfl (zaj (m := 6) hu rfl (hd 6 dc))) dc ?_
  exact zar 8 hu hi rfl
 ·
  intro D hn hd hcl hu hi
  refine zae (zcu rfl (zaj (m := 6) hu rfl (hd 6 dc))) dc ?_
  exact zar 9 hu hi rfl
 ·
  intro D hn hd hcl hu hi
  refine zae (zcu rfl (zaj (m := 6) hu rfl (hd 6 dc))) dc ?_
  exact zar 10 hu hi rfl
 ·
  intro D hn hd hcl hu hi
  refine zae (zcu rfl (zaj (m := 6) hu rfl (hd 6 dc))) dc ?_
  exact zar 11 hu hi rfl
 ·
  intro D hn hd hcl hu hi
  refine zae (zcu rfl (zaj (m := 6) hu rfl (hd 6 dc))) dc ?_
  exact zar 12 hu hi rfl
 ·
  intro D hn hd hcl hu hi
  refine zae (zcu rfl (zaj (m := 6) hu rfl (hd 6 dc))) dc ?_
  exact zar 13 hu hi rfl
 ·
  intro D hn hd hcl hu hi
  refine zae (zcu rfl (zaj (m := 6) hu rfl (hd 6 dc))) dc ?_
  exact zar 14 hu hi rfl
 ·
  intro D hn hd hcl hu hi
  refine zae (zcu rfl (zaj (m := 6) hu rfl (hd 6 dc))) dc ?_
  exact zar 15 hu hi rfl
 ·
  intro D hn hd hcl hu hi
  refine zae (zcu rfl (zaj (m := 6) hu rfl (hd 6 dc))) dc ?_
  exact zar 16 hu hi rfl
 ·
  intro D hn hd hcl hu hi
  refine zae (zcu rfl (zaj (m := 6) hu rfl (hd 6 dc))) dc ?_
  exact zar 17 hu hi rfl
 ·
  intro D hn hd hcl hu hi
  refine zas (b := true) rfl dc (zaj (m := 6) hu rfl (hd 6 dc)) rfl ?_
  exact zar 18 hu hi rfl
 ·
  intro D hn hd hcl hu hi
  refine zag rfl dc (zaj (m := 18) hu rfl (hd 18 dc)) ?_
  exact zar 19 hu hi rfl
 ·
  intro D hn hd hcl hu hi
  refine zae (zcu rfl (zaj (m := 19) hu rfl (hd 19 dc))) dc ?_
  exact zar 20 hu hi rfl
 ·
  intro D hn hd hcl hu hi
  refine zae (zcu rfl (zaj (m := 19) hu rfl (hd 19 dc))) dc ?_
  exact zar 21 hu hi rfl
 ·
  intro D hn hd hcl hu hi
  refine zae (zcu rfl (zaj (m := 19) hu rfl (hd 19 dc))) dc ?_
  exact zar 22 hu hi rfl
 ·
  intro D hn hd hcl hu hi
  refine zae (zcu rfl (zaj (m := 19) hu rfl (hd 19 dc))) dc ?_
  exact zar 23 hu hi rfl
 ·
  intro D hn hd hcl hu hi
  refine zae (zcu rfl (zaj (m := 19) hu rfl (hd 19 dc))) dc ?_
  exact zar 24 hu hi rfl
 ·
  intro D hn hd hcl hu hi
  refine zae (zcu rfl (zaj (m := 19) hu rfl (hd 19 dc))) dc ?_
  exact zar 25 hu hi rfl
 ·
  intro D hn hd hcl hu hi
  refine zae (zcu rfl (zaj (m := 19) hu rfl (hd 19 dc))) dc ?_
  exact zar 26 hu hi rfl
 ·
  intro D hn hd hcl hu hi
  refine zae (zcu rfl (zaj (m := 19) hu rfl (hd 19 dc))) dc ?_
  exact zar 27 hu hi rfl
 ·
  intro D hn hd hcl hu hi
  refine zae (zcu rfl (zaj (m := 19) hu rfl (hd 19 dc))) dc ?_
  exact zar 28 hu hi rfl
 ·
  intro D hn hd hcl hu hi
  refine zae (zcu rfl (zaj (m := 19) hu rfl (hd 19 dc))) dc ?_
  exact zar 29 hu hi rfl
 ·
  intro D hn hd hcl hu hi
  refine zae (zcu rfl (zaj (m := 19) hu rfl (hd 19 dc))) dc ?_
  exact zar 30 hu hi rfl
 ·
  intro D hn hd hcl hu hi
  refine zae (zcu rfl (zaj (m := 19) hu rfl (hd 19 dc))) dc ?_
  exact zar 31 hu hi rfl
 refine zae rfl dc (zas (b := true) rfl dc rfl rfl (zan (zaf (zaY rfl (zap (zad (zai rfl dc rfl (zan (zaf (zaE (zav ?_)))))))))))
 cases h
 exact zaM (rs := [.tmp 4]) () (.inl rfl) Tryd.results19 (.cons (.tmp rfl) .nil) rfl Splits.nil
def zcs  : Option (List (Int × Gapi_Verse)) :=
some []
theorem zdQ {b_c0 : Nat} {xs : (List (Int × Gapi_Verse))} (h : zcs = some xs) : ItrR Tryd.prog 52 [zP b_c0] (fun q : Int × Gapi_Verse => [zI q.1, .agg #[.string q.2.Text, zI q.2.Indent, zI q.2.Stanza, zI q.2.In, zI q.2.Span_From, zI q.2.Span_To]]) xs [cells b_c0 [.pointer none] 23] := by
 unfold zcs at h
 refine ItrR.intro Tryd.func52 rfl Tryd.ntmps52 (by simp) ?_
 intro l w0 K I X hrd hy
 obtain ⟨r0, hx0⟩ : ∃ r, xs = [] ++ r := ⟨xs, rfl⟩
 have hr0 : xs = r0 := hx0
 rw [hr0] at h
 refine zap (zap (zad (zbg (i := 0) hrd rfl zmb rfl dc rfl rfl (zaz rfl dc rfl rfl (zb8 (m := (none : Option Unit)) Tryd.underlying23 (.inl ⟨rfl, rfl⟩)) (zan (zaf (zaY rfl (zaE (zav ?_)))))))))
 cases h
 exact zfN (ds := []) (.inl rfl) Splits.nil Tryd.results52 (congrArg I (hx0.trans (List.append_nil _))) (zak [0] kr rfl)
def zcI  : Option Unit :=
some ()
theorem zeb  {r : Unit} (h : zcI = some r) : Fn Tryd.prog 14 [.pointer none] [] (fun v0 : Nat => .func (.func 52) #[] #[zP v0]) (fun v0 => [cells v0 [.pointer none] 23]) := by
 unfold zcI at h
 refine Fn.intro Tryd.func14 rfl Tryd.ntmps14 (by simp) ?_
 intro w0 K
 refine zap (zad ?_)
 refine zdF rfl dc rfl (fun b1 => ?_)
 refine zai rfl dc rfl (zan (zaf (zap (zad (zdO (x1 := []) (x2 := [.tmp 1]) rfl dc rfl rfl (zai rfl dc rfl (zan (zaf (zaE ?_)))))))))
 cases h
 exact zaM (rs := [.tmp 2]) b1 (.inl rfl) Tryd.results14 (.cons (.tmp rfl) .nil) rfl (zak [0] kr rfl)
def zbW (x1 : Int × Gapi_Verse) (x2 : Nat × Nat) (ag2 : Option (List (Int × ByteArray))) : Option (List (Int × ByteArray)) :=
grd (0 ≤ ((x2.1 : Int) : Int) ∧ ((x2.1 : Int) : Int) ≤ (x2.2 : Int) ∧ ((x2.2 : Int) : Int) ≤ (x1.2.Text.size : Int)) <|
znE (x1.1, zdx x1.2.Text (x2.1 : Int) (x2.2 : Int)) <|
ag2
def zbX (x1 : Int × Gapi_Verse) (ag1 : Option (List (Int × ByteArray))) : Option (List (Int × ByteArray)) :=
grd (x1.2.Text.size ≤ 4611686018427387904) <|
zcj (fun (dn2 : Option (List (Int × ByteArray))) =>
zdf dn2 (zbW x1) (zpF x1.2.Text)
) (
ag1
)
def zcV  : Option (List (Int × ByteArray)) :=
zaO (zcI) fun (r1 : Unit) =>
zaO (zcs) fun (its1 : (List (Int × Gapi_Verse))) =>
zcj (fun (dn1 : Option (List (Int × ByteArray))) =>
zdf dn1 (zbX) its1
) (
some []
)
theorem zeT {b_c0 : Nat} {xs : (List (Int × ByteArray))} (h : zcV = some xs) : ItrR Tryd.prog 74 [zP b_c0] (fun q : Int × ByteArray => [zI q.1, .string q.2]) xs [cells b_c0 [.pointer none] 23] := by
 unfold zcV at h
 refine ItrR.intro Tryd.func74 rfl Tryd.ntmps74 (by simp) ?_
 intro l w0 K I X hrd hy
 obtain ⟨r0, hx0⟩ : ∃ r, xs = [] ++ r := ⟨xs, rfl⟩
 have hr0 : xs = r0 := hx0
 rw [hr0] at h
 refine zgD ?_
 show TC _ _ _ _ _ _ _ _ _ [I [], zbU ((([] : List Nat) : List Nat).map zbJ)]
 refine zap (zad ?_)
 refine zdF rfl dc rfl (fun b1 => ?_)
 refine zan (zaf (zap (zad (zbg (i := 0) hrd rfl zmb rfl dc rfl rfl ?_))))
 obtain ⟨r1, hq1, h⟩ := zbT h
 refine zcr (vs := [.pointer none]) rfl dc rfl rfl rfl zmr (zeb hq1) Splits.nil ?_
 rintro b2
 show TO _ _ _ _ _ _ _ _ _ _ [I [], zbU ((([] : List Nat) : List Nat).map zbJ), cells b1 [.func (.yield l) #[] #[]] 124, cells b2 [.pointer none] 23]
 refine zbf (L' := [I [], zbU ((([] : List Nat) : List Nat).map zbJ), cells b1 [.func (.yield l) #[] #[]] 124, cells b2 [.pointer none] 23]) (zak [0, 1, 2, 3] kr rfl) (zan (zaf (zaT ?_)))
 obtain ⟨its1, hq2, h⟩ := zbT h
 obtain ⟨dn1, hdn1, h⟩ := zcH h
 refine zfS (α := Int × Gapi_Verse) (β := (List (Int × ByteArray)) × (List (Int × ByteArray))) (γ := (List (Int × ByteArray) × (Int × ByteArray) × List (Int × ByteArray))) (δ := Nat × Nat) (ps := [8, 9]) hrd Ro.nil rfl zmo (zdQ hq2) (fun pre b => (∀ post, its1 = pre ++ post → zdf dn1 (zbX) post = some b.2) ∧ xs = b.1 ++ b.2) (fun pre b => [I b.1, cells b1 [.func (.yield l) #[] #[]] 124]) (fun c pre g => (fun g => c = Code.ret ∧ xs = g.1 ++ g.2.1 :: g.2.2) g) (fun c pre g => (fun g => [X (g.1 ++ [g.2.1])]) g) (fun pre x b j => [(2, zP b1), (7, .func (.func 52) #[] #[zP b2]), (3, zP j.1), (4, zP j.2)]) (fun pre x b j => [I b.1, cells b1 [.func (.yield l) #[] #[]] 124, cells j.1 [zI x.1] 3, cells j.2 [.string x.2.Text, zI x.2.Indent, zI x.2.Stanza, zI x.2.In, zI x.2.Span_From, zI x.2.Span_To] 36]) (([] : List (Int × ByteArray)), r0) ⟨fun post e => (by rw [List.nil_append] at e; subst e; exact h), hx0⟩ (zak [0, 2] kr rfl) (.own (As := [cells b2 [.pointer none] 23]) (zak [3] (by kernel_rfl) rfl) (fun _ _ h => sepL.one1.1 h) .nil) (fun _ => rfl) dc ?_ ?_ ?_ ?_
 ·
  rintro lp rc pre x1 post ⟨acc3, rr3⟩ w1 K1 hxs1 hext hro hinv
  have hrd := hrd.ext hext
  have hy := hy.later hext
  refine zap (zad ?_)
  refine zbe znU rfl dc (fun b3 => ?_)
  refine zaN (k := 2) (l' := [zI x1.1]) zdW rfl rfl rfl rfl rfl (fun _ _ => rfl) rfl ?_
  show TO _ _ _ _ _ _ _ _ _ _ [I acc3, cells b1 [.func (.yield l) #[] #[]] 124, cells b3 [zI x1.1] 3]
  refine zan (zaf (zad ?_))
  refine zbe zhr rfl dc (fun b4 => ?_)
  refine za8 (k := 3) (vs := [.string x1.2.Text, zI x1.2.Indent, zI x1.2.Stanza, zI x1.2.In, zI x1.2.Span_From, zI x1.2.Span_To]) (l' := [.string x1.2.Text, zI x1.2.Indent, zI x1.2.Stanza, zI x1.2.In, zI x1.2.Span_From, zI x1.2.Span_To]) zfm rfl rfl rfl rfl rfl (show _ ≤ _ by simp) rfl rfl ?_
  show TO _ _ _ _ _ _ _ _ _ _ [I acc3, cells b1 [.func (.yield l) #[] #[]] 124, cells b3 [zI x1.1] 3, cells b4 [.string x1.2.Text, zI x1.2.Indent, zI x1.2.Stanza, zI x1.2.In, zI x1.2.Span_From, zI x1.2.Span_To] 36]
  refine zan ?_
  exact fun a w ha hw => ⟨(b3, b4), (zah rfl (zah rfl (zah rfl (zah rfl (zaQ))))) _ _ _ ha, hw.weaken (zak [0, 1, 2, 3] kr rfl)⟩
 ·
  rintro lp rc pre x1 post1 ⟨acc3, rr3⟩ ⟨jb1, jb2⟩ w1 K1 hxs1 hext hro hinv
  have hrd := hrd.ext hext
  have hy := hy.later hext
  obtain ⟨hinv, hx3⟩ := hinv
  have h := hinv (x1 :: post1) hxs1
  obtain ⟨ag1, hag1⟩ : ∃ ag, ag = zdf dn1 (zbX) post1 := ⟨_, rfl⟩
  have h : zbX x1 ag1 = some rr3 := by rw [hag1]; exact h
  unfold zbX at h
  show TC _ _ _ _ _ _ _ _ [(2, zP b1), (7, .func (.func 52) #[] #[zP b2]), (3, zP jb1), (4, zP jb2)] [I acc3, cells b1 [.func (.yield l) #[] #[]] 124, cells jb1 [zI x1.1] 3, cells jb2 [.string x1.2.Text, zI x1.2.Indent, zI x1.2.Stanza, zI x1.2.In, zI x1.2.Span_From, zI x1.2.Span_To] 36]
  refine zaT (zap (zad (zam zhP rfl dc rfl (show _ = 0 from rfl) (zaP (k := 3) zhz rfl dc rfl rfl rfl (zcr (vs := [.string x1.2.Text]) rfl dc rfl rfl rfl zpp (zlZ x1.2.Text) Splits.nil ?_)))))
  rintro b5
  show TO _ _ _ _ _ _ _ _ _ _ [I acc3, cells b1 [.func (.yield l) #[] #[]] 124, cells jb1 [zI x1.1] 3, cells jb2 [.string x1.2.Text, zI x1.2.Indent, zI x1.2.Stanza, zI x1.2.In, zI x1.2.Span_From, zI x1.2.Span_To] 36, cells b5 [.string x1.2.Text] 9]
  refine zan (zaf (zaT ?_))
  obtain ⟨hg1, h⟩ := zcX h
  obtain ⟨dn2, hdn2, h⟩ := zcH h
  refine zk1 (α := Nat × Nat) (β := (List (Int × ByteArray)) × (List (Int × ByteArray))) (γ := (List (Int × ByteArray) × (Int × ByteArray) × List (Int × ByteArray))) (δ := Nat) (ps := [13]) hro (i₀ := 0) rfl rfl zpe (zkC x1.2.Text hg1 b5) (fun pre b => (∀ post, zpF x1.2.Text = pre ++ post → zdf dn2 (zbW x1) post = some b.2) ∧ xs = b.1 ++ b.2) (fun pre b => [I b.1, cells b1 [.func (.yield l) #[] #[]] 124, cells jb1 [zI x1.1] 3, cells jb2 [.string x1.2.Text, zI x1.2.Indent, zI x1.2.Stanza, zI x1.2.In, zI x1.2.Span_From, zI x1.2.Span_To] 36]) (fun c pre g => (fun g => c = Code.ret ∧ xs = g.1 ++ g.2.1 :: g.2.2) g) (fun c pre g => (fun g => [X (g.1 ++ [g.2.1])]) g) (fun pre x b j => [(2, zP b1), (7, .func (.func 52) #[] #[zP b2]), (3, zP jb1), (4, zP jb2), (12, .func (.func 72) #[] #[zP b5]), (5, zP j)]) (fun pre x b j => [I b.1, cells b1 [.func (.yield l) #[] #[]] 124, cells jb1 [zI x1.1] 3, cells jb2 [.string x1.2.Text, zI x1.2.Indent, zI x1.2.Stanza, zI x1.2.In, zI x1.2.Span_From, zI x1.2.Span_To] 36, cells j [zI (x.1 : Int), zI (x.2 : Int)] 34]) (acc3, rr3) ⟨fun post e => (by rw [List.nil_append] at e; subst e; exact h), hx3⟩ (zak [0, 1, 2, 3] kr rfl) ⟨.inl ⟨4, rfl⟩, trivial⟩ (fun _ => rfl) dc ?_ ?_ ?_ ?_
  ·
   rintro lp rc pre x2 post ⟨acc6, rr6⟩ w1 K1 hxs2 hext hro hinv
   have hrd := hrd.ext hext
   have hy := hy.later hext
   refine zad ?_
   refine zbe zlY rfl dc (fun b6 => ?_)
   refine za8 (k := 4) (vs := [zI (x2.1 : Int), zI (x2.2 : Int)]) (l' := [zI (x2.1 : Int), zI (x2.2 : Int)]) zjF rfl rfl rfl rfl rfl (show _ ≤ _ by simp) rfl rfl ?_
   show TO _ _ _ _ _ _ _ _ _ _ [I acc6, cells b1 [.func (.yield l) #[] #[]] 124, cells jb1 [zI x1.1] 3, cells jb2 [.string x1.2.Text, zI x1.2.Indent, zI x1.2.Stanza, zI x1.2.In, zI x1.2.Span_From, zI x1.2.Span_To] 36, cells b6 [zI (x2.1 : Int), zI (x2.2 : Int)] 34]
   refine zan ?_
   exact fun a w ha hw => ⟨b6, (zah rfl (zah rfl (zah rfl (zah rfl (zah rfl (zah rfl (zaQ))))))) _ _ _ ha, hw.weaken (zak [0, 1, 2, 3, 4] kr rfl)⟩
  ·
   rintro lp rc pre x2 post2 ⟨acc6, rr6⟩ jb3 w1 K1 hxs2 hext hro hinv
   have hrd := hrd.ext hext
   have hy := hy.later hext
   obtain ⟨hinv, hx6⟩ := hinv
   have h := hinv (x2 :: post2) hxs2
   obtain ⟨ag2, hag2⟩ : ∃ ag, ag = zdf dn2 (zbW x1) post2 := ⟨_, rfl⟩
   have h : zbW x1 x2 ag2 = some rr6 := by rw [hag2]; exact h
   unfold zbW at h
   show TC _ _ _ _ _ _ _ _ [(2, zP b1), (7, .func (.func 52) #[] #[zP b2]), (3, zP jb1), (4, zP jb2), (12, .func (.func 72) #[] #[zP b5]), (5, zP jb3)] [I acc6, cells b1 [.func (.yield l) #[] #[]] 124, cells jb1 [zI x1.1] 3, cells jb2 [.string x1.2.Text, zI x1.2.Indent, zI x1.2.Stanza, zI x1.2.In, zI x1.2.Span_From, zI x1.2.Span_To] 36, cells jb3 [zI (x2.1 : Int), zI (x2.2 : Int)] 34]
   refine zaT (zap ?_)
   obtain ⟨hg2, h⟩ := zcX h
   refine zcm 9 [(0, 14, .func (.yield l) #[] #[]), (1, 15, zI x1.1), (2, 16, zP jb2), (3, 17, .string x1.2.Text), (4, 18, zP jb3), (5, 19, zI (x2.1 : Int)), (6, 20, .pointer (some ⟨jb3, 1, none⟩)), (7, 21, zI (x2.2 : Int)), (8, 22, .string (zdx x1.2.Text (x2.1 : Int) (x2.2 : Int)))] mixed kr kr dc (by rfl) kr kr (zao ?_ (zao ?_ (zao ?_ (zao ?_ (zao ?_ (zao ?_ (zao ?_ (zao ?_ (zao ?_ DrawPre.nil))))))))) ?_
   ·
    intro D hn hd hcl hu hi
    refine zaP (k := 1) zod rfl dc (zaS (by rfl) rfl) rfl rfl ?_
    exact zar 0 hu hi rfl
   ·
    intro D hn hd hcl hu hi
    refine zaP (k := 2) zcx rfl dc (zaS (by rfl) rfl) rfl rfl ?_
    exact zar 1 hu hi rfl
   ·
    intro D hn hd hcl hu hi
    refine zam zhP rfl dc (zaS (by rfl) rfl) (show _ = 0 from rfl) ?_
    exact zar 2 hu hi rfl
   ·
    intro D hn hd hcl hu hi
    refine zaP (k := 3) zhz rfl dc (zaj (m := 2) hu rfl (hd 2 dc)) rfl rfl ?_
    exact zar 3 hu hi rfl
   ·
    intro D hn hd hcl hu hi
    refine zam zeV rfl dc (zaS (by rfl) rfl) (show _ = 0 from rfl) ?_
    exact zar 4 hu hi rfl
   ·
    intro D hn hd hcl hu hi
    refine zaP (k := 4) zcx rfl dc (zaj (m := 4) hu rfl (hd 4 dc)) rfl rfl ?_
    exact zar 5 hu hi rfl
   ·
    intro D hn hd hcl hu hi
    refine zam zcN rfl dc (zaS (by rfl) rfl) (show _ = 1 from rfl) ?_
    exact zar 6 hu hi rfl
   ·
    intro D hn hd hcl hu hi
    refine zaP (k := 4) zcx rfl dc (zaj (m := 6) hu rfl (hd 6 dc)) rfl rfl ?_
    exact zar 7 hu hi rfl
   ·
    intro D hn hd hcl hu hi
    refine zdi rfl dc (zaj (m := 3) hu rfl (hd 3 dc)) (evO.some (zaj (m := 5) hu rfl (hd 5 dc))) (evO.some (zaj (m := 7) hu rfl (hd 7 dc))) (zcw (i := (x2.1 : Int)) (j := (x2.2 : Int)) Tryd.underlying9 (.inr rfl) (.inr rfl) hg2) ?_
    exact zar 8 hu hi rfl
   obtain ⟨rr7, hr1, h⟩ := zoD h
   have hx7 : xs = acc6 ++ (x1.1, zdx x1.2.Text (x2.1 : Int) (x2.2 : Int)) :: rr7 := by rw [hx6, hr1]
   refine zdw hy rfl dc rfl hx7 rfl (k := 0) rfl ?_ ?_
   ·
    have hx8 : xs = (acc6 ++ [(x1.1, zdx x1.2.Text (x2.1 : Int) (x2.2 : Int))]) ++ rr7 := by rw [hx7]; simp
    show TO _ _ _ _ _ _ _ _ _ _ [I (acc6 ++ [(x1.1, zdx x1.2.Text (x2.1 : Int) (x2.2 : Int))]), cells b1 [.func (.yield l) #[] #[]] 124, cells jb1 [zI x1.1] 3, cells jb2 [.string x1.2.Text, zI x1.2.Indent, zI x1.2.Stanza, zI x1.2.In, zI x1.2.Span_From, zI x1.2.Span_To] 36, cells jb3 [zI (x2.1 : Int), zI (x2.2 : Int)] 34]
    refine zdZ rfl dc rfl zcG (zan (zaf (za0 rfl (zaI (zaw ?_)))))
    exact zcD (acc6 ++ [(x1.1, zdx x1.2.Text (x2.1 : Int) (x2.2 : Int))], rr7) ⟨fun post2 e2 => (by have e9 := zeu hxs2 e2; subst e9; subst hag2; exact h), hx8⟩ (zak [0, 1, 2, 3] kr rfl)
   ·
    show TO _ _ _ _ _ _ _ _ _ _ [X (acc6 ++ [(x1.1, zdx x1.2.Text (x2.1 : Int) (x2.2 : Int))]), cells b1 [.func (.yield l) #[] #[]] 124, cells jb1 [zI x1.1] 3, cells jb2 [.string x1.2.Text, zI x1.2.Indent, zI x1.2.Stanza, zI x1.2.In, zI x1.2.Span_From, zI x1.2.Span_To] 36, cells jb3 [zI (x2.1 : Int), zI (x2.2 : Int)] 34]
    refine zdZ rfl dc rfl zcG (zan (zaf (zaY rfl (zaE (zay ?_)))))
    exact zc1 (acc6, (x1.1, zdx x1.2.Text (x2.1 : Int) (x2.2 : Int)), rr7) (show _ ∧ _ from ⟨rfl, hx7⟩) (zak [0] kr rfl)
  ·
   rintro ⟨acc6, rr6⟩ hinv
   obtain ⟨hinv, hx6⟩ := hinv
   have h : dn2 = some rr6 := hinv [] (List.append_nil _).symm
   rw [hdn2] at h
   show TX _ _ _ _ _ _ _ [emp, emp, emp, emp, cells b5 [.string x1.2.Text] 9, I acc6, cells b1 [.func (.yield l) #[] #[]] 124, cells jb1 [zI x1.1] 3, cells jb2 [.string x1.2.Text, zI x1.2.Indent, zI x1.2.Stanza, zI x1.2.In, zI x1.2.Span_From, zI x1.2.Span_To] 36]
   refine zaw (zaw ?_)
   exact zcD (acc6, rr6) ⟨fun post2 e2 => (by have e9 := zeu hxs1 e2; subst e9; subst hag1; exact h), hx6⟩ (zak [5, 6] kr rfl)
  ·
   rintro c pre x2 post g hxs hX
   obtain ⟨ta1, tq1, tr1⟩ := g
   obtain ⟨rfl, hx9⟩ := (show _ ∧ _ from hX)
   show TC _ _ _ _ _ _ _ _ _ [emp, emp, emp, emp, cells b5 [.string x1.2.Text] 9, X (ta1 ++ [tq1])]
   refine zaE (zay (zay ?_))
   exact zc1 (ta1, tq1, tr1) (show _ ∧ _ from ⟨rfl, hx9⟩) (zak [5] kr rfl)
 ·
  rintro dm2 ⟨acc3, rr3⟩ hinv
  obtain ⟨hinv, hx3⟩ := hinv
  have h : dn1 = some rr3 := hinv [] (List.append_nil _).symm
  rw [hdn1] at h
  show TX _ _ _ _ _ _ _ [emp, zbU ((([] : List Nat) : List Nat).map zbJ), emp, cells b2 [.pointer none] 23, I acc3, cells b1 [.func (.yield l) #[] #[]] 124, zbJ dm2]
  refine zeB (k := 6) (j := 1) rfl rfl dc ?_
  show TX _ _ _ _ _ _ _ [emp, zbU ((dm2 :: ([] : List Nat) : List Nat).map zbJ), emp, cells b2 [.pointer none] 23, I acc3, cells b1 [.func (.yield l) #[] #[]] 124, emp]
  refine zaw ?_
  cases h
  exact zfN (ds := (dm2 :: ([] : List Nat))) (.inr rfl) (zaU (k := 1) rfl) Tryd.results74 (congrArg I (hx3.trans (List.append_nil _))) (zak [4] kr rfl)
 ·
  rintro dm2 c pre x1 post g hxs hX
  obtain ⟨ta2, tq2, tr2⟩ := g
  obtain ⟨rfl, hx10⟩ := (show _ ∧ _ from hX)
  show TC _ _ _ _ _ _ _ _ _ [emp, zbU ((([] : List Nat) : List Nat).map zbJ), emp, cells b2 [.pointer none] 23, X (ta2 ++ [tq2]), zbJ dm2]
  refine zfi (k := 5) (j := 1) rfl rfl dc ?_
  show TC _ _ _ _ _ _ _ _ _ [emp, zbU ((dm2 :: ([] : List Nat) : List Nat).map zbJ), emp, cells b2 [.pointer none] 23, X (ta2 ++ [tq2]), emp]
  refine zaE (zay ?_)
  exact zfO (ds := (dm2 :: ([] : List Nat))) ta2 tq2 tr2 hx10 (.inl rfl) (zaU (k := 1) rfl) Tryd.results74 (zak [4] kr rfl)
def zdk  : Option Unit :=
some ()
theorem zfo  {r : Unit} (h : zdk = some r) : Fn Tryd.prog 43 [.pointer none] [] (fun v0 : Nat => .func (.func 74) #[] #[zP v0]) (fun v0 => [cells v0 [.pointer none] 23]) := by
 unfold zdk at h
 refine Fn.intro Tryd.func43 rfl Tryd.ntmps43 (by simp) ?_
 intro w0 K
 refine zap (zad ?_)
 refine zdF rfl dc rfl (fun b1 => ?_)
 refine zai rfl dc rfl (zan (zaf (zap (zad (zdO (x1 := []) (x2 := [.tmp 1]) rfl dc rfl rfl (zai rfl dc rfl (zan (zaf (zaE ?_)))))))))
 cases h
 exact zaM (rs := [.tmp 2]) b1 (.inl rfl) Tryd.results43 (.cons (.tmp rfl) .nil) rfl (zak [0] kr rfl)
end Go.Proofs.YtgfkogafkhbgnaaDoor
namespace Go.Proofs.YtgfkogafkhbgnaaDoor
open Go.RowKit Go.Lib
set_option linter.unusedVariables false
set_option linter.unusedSimpArgs false
def zcB (p1 : Gpoem_Poem) (j1 : Option Bool) (ag1 : Int → Option Bool) (x3 : Int) : Option Bool :=
za1 (decide ((x3 : Int) < (([(⟨16, 1, 0, 0⟩ : Tstruct_at_int_line_int_in_int_e_int_), (⟨20, 1, 4, 0⟩ : Tstruct_at_int_line_int_in_int_e_int_), (⟨14, 0, 0, 4⟩ : Tstruct_at_int_line_int_in_int_e_int_), (⟨0, 0, 0, 4⟩ : Tstruct_at_int_line_int_in_int_e_int_), (⟨(-1), 0, 0, 5⟩ : Tstruct_at_int_line_int_in_int_e_int_), (⟨35, 0, 0, 4⟩ : Tstruct_at_int_line_int_in_int_e_int_), (⟨36, 0, 0, 5⟩ : Tstruct_at_int_line_int_in_int_e_int_)] : List Tstruct_at_int_line_int_in_int_e_int_).length : Int))) (
zaO (zfH ([(⟨16, 1, 0, 0⟩ : Tstruct_at_int_line_int_in_int_e_int_), (⟨20, 1, 4, 0⟩ : Tstruct_at_int_line_int_in_int_e_int_), (⟨14, 0, 0, 4⟩ : Tstruct_at_int_line_int_in_int_e_int_), (⟨0, 0, 0, 4⟩ : Tstruct_at_int_line_int_in_int_e_int_), (⟨(-1), 0, 0, 5⟩ : Tstruct_at_int_line_int_in_int_e_int_), (⟨35, 0, 0, 4⟩ : Tstruct_at_int_line_int_in_int_e_int_), (⟨36, 0, 0, 5⟩ : Tstruct_at_int_line_int_in_int_e_int_)] : List Tstruct_at_int_line_int_in_int_e_int_) x3) fun (q1 : Tstruct_at_int_line_int_in_int_e_int_) =>
zaO (zeg p1 q1.at_) fun (r5 : (Int × Int × Int)) =>
za1 ((r5.1 : Int) != q1.line) (
some false
) (
za1 ((r5.2.1 : Int) != q1.in_) (
some false
) (
za1 ((r5.2.2 : Int) != q1.e) (
some false
) (
grd (I64 (x3 + 1)) <|
ag1 (x3 + 1)
)
)
)
) (
j1
)
def zcA (ek1 : Option Bool) (x4 : Int × Gapi_Verse) (ag2 : Option Bool) : Option Bool :=
ek1
def zcz (ek2 : Option Bool) (x5 : Int × ByteArray) (ag3 : Option Bool) : Option Bool :=
ek2
def zd4  : Option Bool :=
zaO (zfd) fun (r1 : Bool) =>
za1 (!r1) (
some false
) (
zaO (zd1 (⟨#[35, 32, 65, 32, 115, 111, 110, 103, 10, 10, 111, 110, 101, 10, 32, 32, 116, 119, 111, 32, 10, 32, 10, 255, 116, 104, 114, 101, 101, 10, 102, 111, 117, 114, 10]⟩ : ByteArray)) fun (r2 : ((Option Gpoem_Poem) × Gapi_Spot)) =>
zaO (r2.1) fun (p1 : Gpoem_Poem) =>
zaO (zdH p1 1) fun (r3 : (Gapi_Verse × Int)) =>
zaO (zdH p1 2) fun (r4 : (Gapi_Verse × Int)) =>
za1 (!(zc0 r3.1 (⟨(⟨#[116, 119, 111, 32]⟩ : ByteArray), 2, 0, 1, 16, 20⟩ : Gapi_Verse))) (
some false
) (
za1 (!(zc0 r4.1 (⟨(⟨#[255, 116, 104, 114, 101, 101]⟩ : ByteArray), 0, 1, 0, 23, 29⟩ : Gapi_Verse))) (
some false
) (
za1 ((r3.2 : Int) != 0) (
some false
) (
za1 ((r4.2 : Int) != 0) (
some false
) (
zcj (fun (j1 : Option Bool) =>
zbK (fun _ => none) (zcB p1 j1) zdX 0
) (
zaO (zbH p1) fun (r6 : ByteArray) =>
za1 (!decide (r6 = (⟨#[35, 32, 65, 32, 115, 111, 110, 103, 10, 10, 111, 110, 101, 10, 32, 32, 116, 119, 111, 32, 10, 10, 255, 116, 104, 114, 101, 101, 10, 102, 111, 117, 114, 10]⟩ : ByteArray))) (
some false
) (
zaO (zcp p1 0 (⟨#[35, 32, 120]⟩ : ByteArray)) fun (r7 : ((Option Gpoem_Poem) × Int)) =>
zaO (zcp p1 0 (⟨#[32]⟩ : ByteArray)) fun (r8 : ((Option Gpoem_Poem) × Int)) =>
zaO (zcp p1 0 (⟨#[97, 10, 98]⟩ : ByteArray)) fun (r9 : ((Option Gpoem_Poem) × Int)) =>
zaO (zcp p1 9 (⟨#[120]⟩ : ByteArray)) fun (r10 : ((Option Gpoem_Poem) × Int)) =>
zaO (zex p1 1 3) fun (r11 : ((Option Gpoem_Poem) × Int)) =>
za1 ((r7.2 : Int) != 0) (
some false
) (
zaO (r7.1) fun (p2 : Gpoem_Poem) =>
zaO (zbH p2) fun (r12 : ByteArray) =>
za1 (!decide (r12 = (⟨#[35, 32, 65, 32, 115, 111, 110, 103, 10, 10, 35, 32, 120, 10, 32, 32, 116, 119, 111, 32, 10, 10, 255, 116, 104, 114, 101, 101, 10, 102, 111, 117, 114, 10]⟩ : ByteArray))) (
some false
) (
za1 ((r8.2 : Int) != 170) (
some false
) (
za1 ((r9.2 : Int) != 170) (
some false
) (
za1 ((r10.2 : Int) != 5) (
some false
) (
za1 ((r11.2 : Int) != 0) (
some false
) (
zaO (r11.1) fun (p3 : Gpoem_Poem) =>
zaO (zcL p3) fun (r13 : Int) =>
za1 ((r13 : Int) != 2) (
some false
) (
zaO (zco p3) fun (r14 : Int) =>
za1 ((r14 : Int) != 2) (
some false
) (
zaO (zey (⟨#[]⟩ : ByteArray) ([([(⟨#[35, 32, 120]⟩ : ByteArray)] : List ByteArray), ([(⟨#[121]⟩ : ByteArray)] : List ByteArray)] : List (List ByteArray))) fun (r15 : ((Option Gpoem_Poem) × Int)) =>
zaO (zey (⟨#[]⟩ : ByteArray) ([([] : List ByteArray)] : List (List ByteArray))) fun (r16 : ((Option Gpoem_Poem) × Int)) =>
zaO (zey (⟨#[97, 10]⟩ : ByteArray) ([] : List (List ByteArray))) fun (r17 : ((Option Gpoem_Poem) × Int)) =>
zaO (zd1 (⟨#[]⟩ : ByteArray)) fun (r18 : ((Option Gpoem_Poem) × Gapi_Spot)) =>
za1 ((r15.2 : Int) != 0) (
some false
) (
zaO (r15.1) fun (p4 : Gpoem_Poem) =>
zaO (zbH p4) fun (r19 : ByteArray) =>
za1 (!decide (r19 = (⟨#[35, 32, 10, 10, 35, 32, 120, 10, 10, 121, 10]⟩ : ByteArray))) (
some false
) (
za1 ((r16.2 : Int) != 170) (
some false
) (
za1 ((r17.2 : Int) != 170) (
some false
) (
za1 (!(zdr r18.2 (⟨0, 0⟩ : Gapi_Spot))) (
some false
) (
zaO (r18.1) fun (p5 : Gpoem_Poem) =>
zaO (zcL p5) fun (r20 : Int) =>
za1 ((r20 : Int) != 0) (
some false
) (
zaO (zco p5) fun (r21 : Int) =>
za1 ((r21 : Int) != 0) (
some false
) (
zaO (zdu p5) fun (r22 : ByteArray) =>
za1 (!decide (r22 = (⟨#[]⟩ : ByteArray))) (
some false
) (
zaO (zbH p5) fun (r23 : ByteArray) =>
za1 (!decide (r23 = (⟨#[]⟩ : ByteArray))) (
some false
) (
zcj (fun (j2 : Int → Int → Int → Int → Int → Int → Int → Option Bool) =>
zaO (zdB 0) fun (r24 : (Gapi_Verse × Int)) =>
zaO (zda 0) fun (r25 : (Gapi_Span × Int)) =>
zaO (zdD 0) fun (r26 : (Int × Int × Int)) =>
zaO (zdK 0 (⟨#[120]⟩ : ByteArray)) fun (r27 : ((Option Gpoem_Poem) × Int)) =>
zaO (zdL 0 0) fun (r28 : ((Option Gpoem_Poem) × Int)) =>
zaO (zdC p1) fun (r29 : ((Option Gpoem_Poem) × Int)) =>
zaO (zdp p1) fun (r30 : ((Option Gpoem_Poem) × Int)) =>
zaO (zcI) fun (r31 : Unit) =>
zaO (zcs) fun (its1 : (List (Int × Gapi_Verse))) =>
zcj (fun (ek1 : Option Bool) =>
zcj (fun (dn1 : Option Bool) =>
zdf dn1 (zcA ek1) its1
) (
j2 r24.2 r25.2 r26.2.2 r27.2 r28.2 r29.2 r30.2
)
) (
some false
)
) (fun (e1x1 : Int) (e2x1 : Int) (e3x1 : Int) (e4x1 : Int) (e5x1 : Int) (e6x1 : Int) (e7x1 : Int) =>
zcj (fun (j3 : Option Bool) =>
zaO (zdk) fun (r32 : Unit) =>
zaO (zcV) fun (its2 : (List (Int × ByteArray))) =>
zcj (fun (ek2 : Option Bool) =>
zcj (fun (dn2 : Option Bool) =>
zdf dn2 (zcz ek2) its2
) (
j3
)
) (
some false
)
) (
za1 ((e1x1 : Int) == 1) (
za1 ((e2x1 : Int) == 1) (
za1 ((e3x1 : Int) == 1) (
za1 ((e4x1 : Int) == 1) (
za1 ((e5x1 : Int) == 1) (
za1 ((e6x1 : Int) == 1) (
za1 ((e7x1 : Int) == 1) (
zaO (zdb) fun (r33 : ByteArray) =>
za1 (decide (r33 = (⟨#[]⟩ : ByteArray))) (
zaO (zdl) fun (r34 : ByteArray) =>
za1 (decide (r34 = (⟨#[]⟩ : ByteArray))) (
zaO (zdn) fun (r35 : ByteArray) =>
za1 (decide (r35 = (⟨#[]⟩ : ByteArray))) (
zaO (zdo) fun (r36 : Int) =>
za1 ((r36 : Int) == 0) (
zaO (zcW) fun (r37 : Int) =>
za1 ((r37 : Int) == 0) (
zaO (zdc) fun (r38 : Bool) =>
zaO (zdm p1) fun (r39 : Bool) =>
zaO (zdA p1) fun (r40 : Bool) =>
some true
) (
some false
)
) (
some false
)
) (
some false
)
) (
some false
)
) (
some false
)
) (
some false
)
) (
some false
)
) (
some false
)
) (
some false
)
) (
some false
)
) (
some false
)
) (
some false
)
)
)
)
)
)
)
)
)
)
)
)
)
)
)
)
)
)
)
)
)
)
)
)
)
)
)
theorem zgr  {r : Bool} (h : zd4 = some r) : FnP Tryd.prog 11 [] (.bool r) := by
 unfold zd4 at h
 refine FnP.intro Tryd.func11 rfl Tryd.ntmps11 (by simp) ?_
 intro w0 K
 refine zgD ?_
 show TC _ _ _ _ _ _ _ _ _ [zbU ((([] : List Nat) : List Nat).map zbJ)]
 refine zap (zad ?_)
 refine zbe zpM rfl dc (fun b1 => ?_)
 refine zan (zaf (zap (zap (zad (zag rfl dc rfl ?_)))))
 obtain ⟨r1, hq1, h⟩ := zbT h
 refine za9 (v := .bool r1) (vs := []) rfl dc rfl rfl rfl zpu (zh6 hq1) (zdZ rfl dc rfl zcG (zas (b := false) rfl dc rfl rfl (zan (zaf ?_))))
 refine zaF rfl (fun hb1 => ?_) (fun hb1 => ?_)
 ·
  have h := za6 hb1 h
  refine zap (zad ?_)
  refine zaN (k := 1) (l' := [.bool false]) zeX rfl rfl rfl rfl rfl (fun _ _ => rfl) rfl ?_
  show TO _ _ _ _ _ _ _ _ _ _ [zbU ((([] : List Nat) : List Nat).map zbJ), cells b1 [.bool false] 4]
  refine zan (zaf (zaE (zav ?_)))
  cases h
  exact zbm (rs := [.cell 0 4]) ([] : List Nat) () (.inl rfl) (zaU (k := 0) rfl) Tryd.results11 (.cons (.cell zeD (k := 1) rfl rfl) .nil) rfl Splits.nil
 ·
  have h := za7 hb1 h
  refine zaI (zaf (zap (zad ?_)))
  obtain ⟨r2, hq2, h⟩ := zbT h
  refine zcr (vs := [.string (⟨#[35, 32, 65, 32, 115, 111, 110, 103, 10, 10, 111, 110, 101, 10, 32, 32, 116, 119, 111, 32, 10, 32, 10, 255, 116, 104, 114, 101, 101, 10, 102, 111, 117, 114, 10]⟩ : ByteArray)]) rfl dc rfl rfl rfl zms (zeI hq2) Splits.nil ?_
  rintro v1
  show TO _ _ _ _ _ _ _ _ _ _ [zbU ((([] : List Nat) : List Nat).map zbJ), cells b1 [.bool false] 4, za5 zac zab 93 v1 r2.1]
  refine zbf (L' := [zbU ((([] : List Nat) : List Nat).map zbJ), cells b1 [.bool false] 4, za5 zac zab 93 v1 r2.1]) (zak [0, 1, 2] kr rfl) (zag rfl dc rfl (zaL rfl dc rfl rfl (zaL rfl dc rfl rfl ?_)))
  refine zbe zk6 rfl dc (fun b2 => ?_)
  refine zai rfl dc rfl (za8 (k := 3) (vs := [zI r2.2.Err, zI r2.2.At]) (l' := [zI r2.2.Err, zI r2.2.At]) ziy rfl rfl rfl rfl rfl (show _ ≤ _ by simp) rfl rfl ?_)
  show TO _ _ _ _ _ _ _ _ _ _ [zbU ((([] : List Nat) : List Nat).map zbJ), cells b1 [.bool false] 4, za5 zac zab 93 v1 r2.1, cells b2 [zI r2.2.Err, zI r2.2.At] 26]
  refine zan (zaf (zap (zad (zag rfl dc rfl ?_))))
  obtain ⟨p1, hq3, h⟩ := zbT h
  refine zfR (As := [za5 zac zab 93 v1 r2.1]) (zak [2] kr rfl) (zcT hq3) ?_
  rintro ⟨b3, hd1, hd2⟩ hv1
  subst hv1
  show TO _ _ _ _ _ _ _ _ _ _ [zbU ((([] : List Nat) : List Nat).map zbJ), cells b1 [.bool false] 4, emp, cells b2 [zI r2.2.Err, zI r2.2.At] 26, cells b3 [.string p1.told_title, hd1.v, hd2.v, .string p1.source] 93, vec zal 36 6 hd1.v p1.told_lines, vec zaq 34 2 hd2.v p1.told_stanzas]
  obtain ⟨r3, hq4, h⟩ := zbT h
  refine zbB (v := .tuple #[.agg #[.string r3.1.Text, zI r3.1.Indent, zI r3.1.Stanza, zI r3.1.In, zI r3.1.Span_From, zI r3.1.Span_To], zI r3.2]) (vs := [zP b3, zI 1]) (Rd.nil : Rd _ _ []) rfl dc rfl rfl rfl znz (ze2 (bp1 := b3) (p1 := p1) (p1_h0 := hd1) (p1_h1 := hd2) hq4) (.own (zak [4] (by kernel_rfl) rfl) (fun _ _ h => sepL.one1.1 h) (.own (zak [5] (by kernel_rfl) rfl) (fun _ _ h => sepL.one1.1 h) (.own (zak [6] (by kernel_rfl) rfl) (fun _ _ h => sepL.one1.1 h) .nil))) ?_
  refine zag rfl dc rfl (zaL rfl dc rfl rfl (zaL rfl dc rfl rfl ?_))
  refine zbe zhr rfl dc (fun b4 => ?_)
  refine za8 (k := 7) (vs := [.string r3.1.Text, zI r3.1.Indent, zI r3.1.Stanza, zI r3.1.In, zI r3.1.Span_From, zI r3.1.Span_To]) (l' := [.string r3.1.Text, zI r3.1.Indent, zI r3.1.Stanza, zI r3.1.In, zI r3.1.Span_From, zI r3.1.Span_To]) zfm rfl rfl rfl rfl rfl (show _ ≤ _ by simp) rfl rfl ?_
  show TO _ _ _ _ _ _ _ _ _ _ [zbU ((([] : List Nat) : List Nat).map zbJ), cells b1 [.bool false] 4, emp, cells b2 [zI r2.2.Err, zI r2.2.At] 26, cells b3 [.string p1.told_title, hd1.v, hd2.v, .string p1.source] 93, vec zal 36 6 hd1.v p1.told_lines, vec zaq 34 2 hd2.v p1.told_stanzas, cells b4 [.string r3.1.Text, zI r3.1.Indent, zI r3.1.Stanza, zI r3.1.In, zI r3.1.Span_From, zI r3.1.Span_To] 36]
  refine zai rfl dc rfl (zan (zaf (zap (zad (zag rfl dc rfl ?_)))))
  obtain ⟨r4, hq5, h⟩ := zbT h
  refine zbB (v := .tuple #[.agg #[.string r4.1.Text, zI r4.1.Indent, zI r4.1.Stanza, zI r4.1.In, zI r4.1.Span_From, zI r4.1.Span_To], zI r4.2]) (vs := [zP b3, zI 2]) (Rd.nil : Rd _ _ []) rfl dc rfl rfl rfl znz (ze2 (bp1 := b3) (p1 := p1) (p1_h0 := hd1) (p1_h1 := hd2) hq5) (.own (zak [4] (by kernel_rfl) rfl) (fun _ _ h => sepL.one1.1 h) (.own (zak [5] (by kernel_rfl) rfl) (fun _ _ h => sepL.one1.1 h) (.own (zak [6] (by kernel_rfl) rfl) (fun _ _ h => sepL.one1.1 h) .nil))) ?_
  refine zag rfl dc rfl (zaL rfl dc rfl rfl (zaL rfl dc rfl rfl ?_))
  refine zbe zhr rfl dc (fun b5 => ?_)
  refine za8 (k := 8) (vs := [.string r4.1.Text, zI r4.1.Indent, zI r4.1.Stanza, zI r4.1.In, zI r4.1.Span_From, zI r4.1.Span_To]) (l' := [.string r4.1.Text, zI r4.1.Indent, zI r4.1.Stanza, zI r4.1.In, zI r4.1.Span_From, zI r4.1.Span_To]) zfm rfl rfl rfl rfl rfl (show _ ≤ _ by simp) rfl rfl ?_
  show TO _ _ _ _ _ _ _ _ _ _ [zbU ((([] : List Nat) : List Nat).map zbJ), cells b1 [.bool false] 4, emp, cells b2 [zI r2.2.Err, zI r2.2.At] 26, cells b3 [.string p1.told_title, hd1.v, hd2.v, .string p1.source] 93, vec zal 36 6 hd1.v p1.told_lines, vec zaq 34 2 hd2.v p1.told_stanzas, cells b4 [.string r3.1.Text, zI r3.1.Indent, zI r3.1.Stanza, zI r3.1.In, zI r3.1.Span_From, zI r3.1.Span_To] 36, cells b5 [.string r4.1.Text, zI r4.1.Indent, zI r4.1.Stanza, zI r4.1.In, zI r4.1.Span_From, zI r4.1.Span_To] 36]
  refine zai rfl dc rfl (zan (zaf (zap (zap (zad (zbb (k := 7) (cs := [.string r3.1.Text, zI r3.1.Indent, zI r3.1.Stanza, zI r3.1.In, zI r3.1.Span_From, zI r3.1.Span_To]) zg9 rfl dc rfl rfl rfl rfl ?_))))))
  refine zba (v := .agg #[zI 16, zI 20]) (ps := [(0, .const (zI 16)), (1, .const (zI 20))]) rfl dc rfl (fun _ => by kernel_rfl) ?_
  refine zba (v := .agg #[.string (⟨#[116, 119, 111, 32]⟩ : ByteArray), zI 2, zI 0, zI 1, zI 16, zI 20]) (ps := [(0, .const (.string (⟨#[116, 119, 111, 32]⟩ : ByteArray))), (1, .const (zI 2)), (3, .const (zI 1)), (4, .tmp 46)]) rfl dc rfl (fun _ => by kernel_rfl) ?_
  refine zaz rfl dc rfl rfl (zim r3.1 (⟨(⟨#[116, 119, 111, 32]⟩ : ByteArray), 2, 0, 1, 16, 20⟩ : Gapi_Verse)) (zag rfl dc rfl ?_)
  refine zaV (s := 49) rfl (fun hb2 => ?_) (fun hb2 => ?_)
  ·
   have h := za6 hb2 h
   refine zae rfl dc (zae rfl dc (zae rfl dc (zae rfl dc (zas (b := true) rfl dc rfl rfl (zag rfl dc rfl (zae rfl dc (zae rfl dc (zas (b := true) rfl dc rfl rfl (zag rfl dc rfl (zae rfl dc (zae rfl dc (zas (b := true) rfl dc rfl rfl (zan ?_)))))))))))))
   refine zaf (zaY rfl (zap (zad ?_)))
   refine zaN (k := 1) (l' := [.bool false]) zeX rfl rfl rfl rfl rfl (fun _ _ => rfl) rfl ?_
   refine zan (zaf (zaE (zav ?_)))
   cases h
   exact zbm (rs := [.cell 0 4]) ([] : List Nat) () (.inl rfl) (zaU (k := 0) rfl) Tryd.results11 (.cons (.cell zeD (k := 1) rfl rfl) .nil) rfl Splits.nil
  ·
   have h := za7 hb2 h
   refine zbb (k := 8) (cs := [.string r4.1.Text, zI r4.1.Indent, zI r4.1.Stanza, zI r4.1.In, zI r4.1.Span_From, zI r4.1.Span_To]) zg9 rfl dc rfl rfl rfl rfl ?_
   refine zba (v := .agg #[zI 23, zI 29]) (ps := [(0, .const (zI 23)), (1, .const (zI 29))]) rfl dc rfl (fun _ => by kernel_rfl) ?_
   refine zba (v := .agg #[.string (⟨#[255, 116, 104, 114, 101, 101]⟩ : ByteArray), zI 0, zI 1, zI 0, zI 23, zI 29]) (ps := [(0, .const (.string (⟨#[255, 116, 104, 114, 101, 101]⟩ : ByteArray))), (2, .const (zI 1)), (4, .tmp 51)]) rfl dc rfl (fun _ => by kernel_rfl) ?_
   refine zaz rfl dc rfl rfl (zim r4.1 (⟨(⟨#[255, 116, 104, 114, 101, 101]⟩ : ByteArray), 0, 1, 0, 23, 29⟩ : Gapi_Verse)) (zas (b := false) rfl dc rfl rfl (zag rfl dc rfl ?_))
   refine zaV (s := 55) rfl (fun hb3 => ?_) (fun hb3 => ?_)
   ·
    have h := za6 hb3 h
    refine zae rfl dc (zae rfl dc (zas (b := true) rfl dc rfl rfl (zag rfl dc rfl (zae rfl dc (zae rfl dc (zas (b := true) rfl dc rfl rfl (zan (zaf (zaY rfl (zap (zad ?_)))))))))))
    refine zaN (k := 1) (l' := [.bool false]) zeX rfl rfl rfl rfl rfl (fun _ _ => rfl) rfl ?_
    refine zan (zaf (zaE (zav ?_)))
    cases h
    exact zbm (rs := [.cell 0 4]) ([] : List Nat) () (.inl rfl) (zaU (k := 0) rfl) Tryd.results11 (.cons (.cell zeD (k := 1) rfl rfl) .nil) rfl Splits.nil
   ·
    have h := za7 hb3 h
    refine zag rfl dc rfl (zaz rfl dc rfl rfl zbk (zas (b := false) rfl dc rfl rfl (zag rfl dc rfl ?_)))
    refine zaV (s := 59) rfl (fun hb4 => ?_) (fun hb4 => ?_)
    ·
     have h := za6 hb4 h
     refine zae rfl dc (zae rfl dc (zas (b := true) rfl dc rfl rfl (zan (zaf (zaY rfl (zap (zad ?_)))))))
     refine zaN (k := 1) (l' := [.bool false]) zeX rfl rfl rfl rfl rfl (fun _ _ => rfl) rfl ?_
     refine zan (zaf (zaE (zav ?_)))
     cases h
     exact zbm (rs := [.cell 0 4]) ([] : List Nat) () (.inl rfl) (zaU (k := 0) rfl) Tryd.results11 (.cons (.cell zeD (k := 1) rfl rfl) .nil) rfl Splits.nil
    ·
     have h := za7 hb4 h
     refine zag rfl dc rfl (zaz rfl dc rfl rfl zbk (zas (b := false) rfl dc rfl rfl (zan (zaf ?_))))
     refine zaF rfl (fun hb5 => ?_) (fun hb5 => ?_)
     ·
      have h := za6 hb5 h
      refine zap (zad ?_)
      refine zaN (k := 1) (l' := [.bool false]) zeX rfl rfl rfl rfl rfl (fun _ _ => rfl) rfl ?_
      refine zan (zaf (zaE (zav ?_)))
      cases h
      exact zbm (rs := [.cell 0 4]) ([] : List Nat) () (.inl rfl) (zaU (k := 0) rfl) Tryd.results11 (.cons (.cell zeD (k := 1) rfl rfl) .nil) rfl Splits.nil
     ·
      have h := za7 hb5 h
      refine zaI (zaf ?_)
      obtain ⟨j1, hj1, h⟩ := zcH h
      refine zbN (β := Unit) 0 rfl (fun b => j1 = some r) (fun b => zdq ([] : List Nat)) (fun b => [(0, zP b1), (1, zP b3)]) (fun b => [cells b1 [.bool false] 4, cells b3 [.string p1.told_title, hd1.v, hd2.v, .string p1.source] 93, vec zal 36 6 hd1.v p1.told_lines, vec zaq 34 2 hd2.v p1.told_stanzas, zbU ((([] : List Nat) : List Nat).map zbJ)]) (fun cut => ?_) ?_
      ·
       refine cut (zap (zad ?_))
       refine zba (v := .agg #[zI 16, zI 1, zI 0, zI 0]) (ps := [(0, .const (zI 16)), (1, .const (zI 1)), (2, .const (zI 0)), (3, .const (zI 0))]) rfl dc rfl (fun _ => by kernel_rfl) ?_
       refine zba (v := .agg #[zI 20, zI 1, zI 4, zI 0]) (ps := [(0, .const (zI 20)), (1, .const (zI 1)), (2, .const (zI 4)), (3, .const (zI 0))]) rfl dc rfl (fun _ => by kernel_rfl) ?_
       refine zba (v := .agg #[zI 14, zI 0, zI 0, zI 4]) (ps := [(0, .const (zI 14)), (1, .const (zI 0)), (2, .const (zI 0)), (3, .const (zI 4))]) rfl dc rfl (fun _ => by kernel_rfl) ?_
       refine zba (v := .agg #[zI 0, zI 0, zI 0, zI 4]) (ps := [(0, .const (zI 0)), (1, .const (zI 0)), (2, .const (zI 0)), (3, .const (zI 4))]) rfl dc rfl (fun _ => by kernel_rfl) ?_
       refine zba (v := .agg #[zI (-1), zI 0, zI 0, zI 5]) (ps := [(0, .const (zI (-1))), (1, .const (zI 0)), (2, .const (zI 0)), (3, .const (zI 5))]) rfl dc rfl (fun _ => by kernel_rfl) ?_
       refine zba (v := .agg #[zI 35, zI 0, zI 0, zI 4]) (ps := [(0, .const (zI 35)), (1, .const (zI 0)), (2, .const (zI 0)), (3, .const (zI 4))]) rfl dc rfl (fun _ => by kernel_rfl) ?_
       refine zba (v := .agg #[zI 36, zI 0, zI 0, zI 5]) (ps := [(0, .const (zI 36)), (1, .const (zI 0)), (2, .const (zI 0)), (3, .const (zI 5))]) rfl dc rfl (fun _ => by kernel_rfl) ?_
       refine zbC (cs := [zI 16, zI 1, zI 0, zI 0, zI 20, zI 1, zI 4, zI 0, zI 14, zI 0, zI 0, zI 4, zI 0, zI 0, zI 0, zI 4, zI (-1), zI 0, zI 0, zI 5, zI 35, zI 0, zI 0, zI 4, zI 36, zI 0, zI 0, zI 5]) (te := 82) (ps := [(0, .tmp 63), (1, .tmp 64), (2, .tmp 65), (3, .tmp 66), (4, .tmp 67), (5, .tmp 68), (6, .tmp 69)]) rfl dc rfl (fun _ => by kernel_rfl) (fun b6 => ?_)
       refine zfY ([(⟨16, 1, 0, 0⟩ : Tstruct_at_int_line_int_in_int_e_int_), (⟨20, 1, 4, 0⟩ : Tstruct_at_int_line_int_in_int_e_int_), (⟨14, 0, 0, 4⟩ : Tstruct_at_int_line_int_in_int_e_int_), (⟨0, 0, 0, 4⟩ : Tstruct_at_int_line_int_in_int_e_int_), (⟨(-1), 0, 0, 5⟩ : Tstruct_at_int_line_int_in_int_e_int_), (⟨35, 0, 0, 4⟩ : Tstruct_at_int_line_int_in_int_e_int_), (⟨36, 0, 0, 5⟩ : Tstruct_at_int_line_int_in_int_e_int_)] : List Tstruct_at_int_line_int_in_int_e_int_) (k := 9) rfl zbY rfl (show 7 ≤ maxLen by decide) ?_
       show TO _ _ _ _ _ _ _ _ _ _ [zbU ((([] : List Nat) : List Nat).map zbJ), cells b1 [.bool false] 4, emp, cells b2 [zI r2.2.Err, zI r2.2.At] 26, cells b3 [.string p1.told_title, hd1.v, hd2.v, .string p1.source] 93, vec zal 36 6 hd1.v p1.told_lines, vec zaq 34 2 hd2.v p1.told_stanzas, cells b4 [.string r3.1.Text, zI r3.1.Indent, zI r3.1.Stanza, zI r3.1.In, zI r3.1.Span_From, zI r3.1.Span_To] 36, cells b5 [.string r4.1.Text, zI r4.1.Indent, zI r4.1.Stanza, zI r4.1.In, zI r4.1.Span_From, zI r4.1.Span_To] 36, vec zbd 82 4 (.slice (some ⟨b6, 0, none⟩) 7 7) ([(⟨16, 1, 0, 0⟩ : Tstruct_at_int_line_int_in_int_e_int_), (⟨20, 1, 4, 0⟩ : Tstruct_at_int_line_int_in_int_e_int_), (⟨14, 0, 0, 4⟩ : Tstruct_at_int_line_int_in_int_e_int_), (⟨0, 0, 0, 4⟩ : Tstruct_at_int_line_int_in_int_e_int_), (⟨(-1), 0, 0, 5⟩ : Tstruct_at_int_line_int_in_int_e_int_), (⟨35, 0, 0, 4⟩ : Tstruct_at_int_line_int_in_int_e_int_), (⟨36, 0, 0, 5⟩ : Tstruct_at_int_line_int_in_int_e_int_)] : List Tstruct_at_int_line_int_in_int_e_int_)]
       refine zeC (k := 9) rfl dc rfl rfl Tryd.underlying83 (zag rfl dc rfl (zan (zaf (zaT ?_))))
       refine zct (β := Nat × Int) (fun b => zbK (fun _ => none) (zcB p1 j1) b.1 b.2 = some r) (fun b => zdq ([] : List Nat)) (fun b => [(0, zP b1), (1, zP b3), (70, (.slice (some ⟨b6, 0, none⟩) 7 7)), (71, zI (([(⟨16, 1, 0, 0⟩ : Tstruct_at_int_line_int_in_int_e_int_), (⟨20, 1, 4, 0⟩ : Tstruct_at_int_line_int_in_int_e_int_), (⟨14, 0, 0, 4⟩ : Tstruct_at_int_line_int_in_int_e_int_), (⟨0, 0, 0, 4⟩ : Tstruct_at_int_line_int_in_int_e_int_), (⟨(-1), 0, 0, 5⟩ : Tstruct_at_int_line_int_in_int_e_int_), (⟨35, 0, 0, 4⟩ : Tstruct_at_int_line_int_in_int_e_int_), (⟨36, 0, 0, 5⟩ : Tstruct_at_int_line_int_in_int_e_int_)] : List Tstruct_at_int_line_int_in_int_e_int_).length : Int)), (72, zI b.2)]) (fun b => [cells b1 [.bool false] 4, cells b3 [.string p1.told_title, hd1.v, hd2.v, .string p1.source] 93, vec zal 36 6 hd1.v p1.told_lines, vec zaq 34 2 hd2.v p1.told_stanzas, vec zbd 82 4 (.slice (some ⟨b6, 0, none⟩) 7 7) ([(⟨16, 1, 0, 0⟩ : Tstruct_at_int_line_int_in_int_e_int_), (⟨20, 1, 4, 0⟩ : Tstruct_at_int_line_int_in_int_e_int_), (⟨14, 0, 0, 4⟩ : Tstruct_at_int_line_int_in_int_e_int_), (⟨0, 0, 0, 4⟩ : Tstruct_at_int_line_int_in_int_e_int_), (⟨(-1), 0, 0, 5⟩ : Tstruct_at_int_line_int_in_int_e_int_), (⟨35, 0, 0, 4⟩ : Tstruct_at_int_line_int_in_int_e_int_), (⟨36, 0, 0, 5⟩ : Tstruct_at_int_line_int_in_int_e_int_)] : List Tstruct_at_int_line_int_in_int_e_int_), zbU ((([] : List Nat) : List Nat).map zbJ)]) (fun b => b.1) (zdX, 0) h rfl (zah rfl (zah rfl (zah rfl (zah rfl (zah rfl (zaQ)))))) (zak [1, 4, 5, 6, 9, 0] kr rfl) ?_
       rintro ⟨n1, x3⟩ h
       cases n1 with
       | zero => exact zeH h
       | succ n1 =>
        obtain ⟨ag1, hag1⟩ : ∃ ag, ag = zbK (fun _ => none) (zcB p1 j1) n1 := ⟨_, rfl⟩
        have h : zcB p1 j1 ag1 x3 = some r := by rw [hag1]; exact h
        unfold zcB at h
        show TC _ _ _ _ _ (zdq ([] : List Nat)) _ _ [(0, zP b1), (1, zP b3), (70, (.slice (some ⟨b6, 0, none⟩) 7 7)), (71, zI (([(⟨16, 1, 0, 0⟩ : Tstruct_at_int_line_int_in_int_e_int_), (⟨20, 1, 4, 0⟩ : Tstruct_at_int_line_int_in_int_e_int_), (⟨14, 0, 0, 4⟩ : Tstruct_at_int_line_int_in_int_e_int_), (⟨0, 0, 0, 4⟩ : Tstruct_at_int_line_int_in_int_e_int_), (⟨(-1), 0, 0, 5⟩ : Tstruct_at_int_line_int_in_int_e_int_), (⟨35, 0, 0, 4⟩ : Tstruct_at_int_line_int_in_int_e_int_), (⟨36, 0, 0, 5⟩ : Tstruct_at_int_line_int_in_int_e_int_)] : List Tstruct_at_int_line_int_in_int_e_int_).length : Int)), (72, zI x3)] [cells b1 [.bool false] 4, cells b3 [.string p1.told_title, hd1.v, hd2.v, .string p1.source] 93, vec zal 36 6 hd1.v p1.told_lines, vec zaq 34 2 hd2.v p1.told_stanzas, vec zbd 82 4 (.slice (some ⟨b6, 0, none⟩) 7 7) ([(⟨16, 1, 0, 0⟩ : Tstruct_at_int_line_int_in_int_e_int_), (⟨20, 1, 4, 0⟩ : Tstruct_at_int_line_int_in_int_e_int_), (⟨14, 0, 0, 4⟩ : Tstruct_at_int_line_int_in_int_e_int_), (⟨0, 0, 0, 4⟩ : Tstruct_at_int_line_int_in_int_e_int_), (⟨(-1), 0, 0, 5⟩ : Tstruct_at_int_line_int_in_int_e_int_), (⟨35, 0, 0, 4⟩ : Tstruct_at_int_line_int_in_int_e_int_), (⟨36, 0, 0, 5⟩ : Tstruct_at_int_line_int_in_int_e_int_)] : List Tstruct_at_int_line_int_in_int_e_int_), zbU ((([] : List Nat) : List Nat).map zbJ)]
        refine zap (zad (zaz rfl dc rfl rfl zcb (zan (zaf (zap ?_)))))
        refine zaF rfl (fun hb6 => ?_) (fun hb6 => ?_)
        ·
         have h := za6 hb6 h
         refine zaI (zaf (zap (zaT (zap (zad ?_)))))
         obtain ⟨q1, hq6, h⟩ := zbT h
         refine zdS (k := 4) hq6 Tryd.underlying83 zoa rfl dc rfl rfl rfl rfl (zj6 (i := (x3 : Int).toNat) (j := 0) (k := 4) (q := q1) (cs := [zI q1.at_, zI q1.line, zI q1.in_, zI q1.e]) zo2 zbY rfl dc rfl rfl (zdv hq6) rfl rfl rfl ?_)
         refine zbe zoX rfl dc (fun b7 => ?_)
         refine za8 (k := 6) (vs := [zI q1.at_, zI q1.line, zI q1.in_, zI q1.e]) (l' := [zI q1.at_, zI q1.line, zI q1.in_, zI q1.e]) zoa rfl rfl rfl rfl rfl (show _ ≤ _ by simp) rfl rfl ?_
         show TO _ _ _ _ _ _ _ _ _ _ [cells b1 [.bool false] 4, cells b3 [.string p1.told_title, hd1.v, hd2.v, .string p1.source] 93, vec zal 36 6 hd1.v p1.told_lines, vec zaq 34 2 hd2.v p1.told_stanzas, vec zbd 82 4 (.slice (some ⟨b6, 0, none⟩) 7 7) ([(⟨16, 1, 0, 0⟩ : Tstruct_at_int_line_int_in_int_e_int_), (⟨20, 1, 4, 0⟩ : Tstruct_at_int_line_int_in_int_e_int_), (⟨14, 0, 0, 4⟩ : Tstruct_at_int_line_int_in_int_e_int_), (⟨0, 0, 0, 4⟩ : Tstruct_at_int_line_int_in_int_e_int_), (⟨(-1), 0, 0, 5⟩ : Tstruct_at_int_line_int_in_int_e_int_), (⟨35, 0, 0, 4⟩ : Tstruct_at_int_line_int_in_int_e_int_), (⟨36, 0, 0, 5⟩ : Tstruct_at_int_line_int_in_int_e_int_)] : List Tstruct_at_int_line_int_in_int_e_int_), zbU ((([] : List Nat) : List Nat).map zbJ), cells b7 [zI q1.at_, zI q1.line, zI q1.in_, zI q1.e] 82]
         refine zan (zaf (zap (zad (zag rfl dc rfl (zam znn rfl dc rfl (show _ = 0 from rfl) (zaP (k := 6) zcx rfl dc rfl rfl rfl ?_))))))
         obtain ⟨r5, hq7, h⟩ := zbT h
         refine zbB (v := .tuple #[zI r5.1, zI r5.2.1, zI r5.2.2]) (vs := [zP b3, zI q1.at_]) (Rd.nil : Rd _ _ []) rfl dc rfl rfl rfl zov (zgI (bp1 := b3) (p1 := p1) (p1_h0 := hd1) (p1_h1 := hd2) hq7) (.own (zak [1] (by kernel_rfl) rfl) (fun _ _ h => sepL.one1.1 h) (.own (zak [2] (by kernel_rfl) rfl) (fun _ _ h => sepL.one1.1 h) (.own (zak [3] (by kernel_rfl) rfl) (fun _ _ h => sepL.one1.1 h) .nil))) ?_
         refine zag rfl dc rfl (zaL rfl dc rfl rfl (zaL rfl dc rfl rfl (zaL rfl dc rfl rfl (zai rfl dc rfl (zai rfl dc rfl (zai rfl dc rfl (zan (zaf (zap (zad (zag rfl dc rfl (zam znm rfl dc rfl (show _ = 1 from rfl) (zaP (k := 6) zcx rfl dc rfl rfl rfl ?_)))))))))))))
         refine zaz rfl dc rfl rfl zbk (zag rfl dc rfl ?_)
         refine zaV (s := 88) rfl (fun hb7 => ?_) (fun hb7 => ?_)
         ·
          have h := za6 hb7 h
          refine zae rfl dc (zae rfl dc (zae rfl dc (zae rfl dc (zas (b := true) rfl dc rfl rfl (zag rfl dc rfl (zae rfl dc (zae rfl dc (zae rfl dc (zae rfl dc (zas (b := true) rfl dc rfl rfl (zan (zaf (zaY rfl ?_)))))))))))))
          refine zap (zad ?_)
          refine zaN (k := 0) (l' := [.bool false]) zeX rfl rfl rfl rfl rfl (fun _ _ => rfl) rfl ?_
          refine zan (zaf (zaE (zay (zav (zav (zay (zav ?_)))))))
          cases h
          exact zbm (rs := [.cell 0 4]) ([] : List Nat) () (.inl rfl) (zaU (k := 5) rfl) Tryd.results11 (.cons (.cell zeD (k := 0) rfl rfl) .nil) rfl Splits.nil
         ·
          have h := za7 hb7 h
          refine zag rfl dc rfl (zam znl rfl dc rfl (show _ = 2 from rfl) (zaP (k := 6) zcx rfl dc rfl rfl rfl (zaz rfl dc rfl rfl zbk (zas (b := false) rfl dc rfl rfl (zag rfl dc rfl ?_)))))
          refine zaV (s := 94) rfl (fun hb8 => ?_) (fun hb8 => ?_)
          ·
           have h := za6 hb8 h
           refine zae rfl dc (zae rfl dc (zae rfl dc (zae rfl dc (zas (b := true) rfl dc rfl rfl (zan (zaf (zaY rfl (zap (zad ?_)))))))))
           refine zaN (k := 0) (l' := [.bool false]) zeX rfl rfl rfl rfl rfl (fun _ _ => rfl) rfl ?_
           refine zan (zaf (zaE (zay (zav (zav (zay (zav ?_)))))))
           cases h
           exact zbm (rs := [.cell 0 4]) ([] : List Nat) () (.inl rfl) (zaU (k := 5) rfl) Tryd.results11 (.cons (.cell zeD (k := 0) rfl rfl) .nil) rfl Splits.nil
          ·
           have h := za7 hb8 h
           refine zag rfl dc rfl (zam znk rfl dc rfl (show _ = 3 from rfl) (zaP (k := 6) zcx rfl dc rfl rfl rfl (zaz rfl dc rfl rfl zbk (zas (b := false) rfl dc rfl rfl (zan (zaf ?_))))))
           refine zaF rfl (fun hb9 => ?_) (fun hb9 => ?_)
           ·
            have h := za6 hb9 h
            refine zap (zad ?_)
            refine zaN (k := 0) (l' := [.bool false]) zeX rfl rfl rfl rfl rfl (fun _ _ => rfl) rfl ?_
            refine zan (zaf (zaE (zay (zav (zav (zay (zav ?_)))))))
            cases h
            exact zbm (rs := [.cell 0 4]) ([] : List Nat) () (.inl rfl) (zaU (k := 5) rfl) Tryd.results11 (.cons (.cell zeD (k := 0) rfl rfl) .nil) rfl Splits.nil
           ·
            have h := za7 hb9 h
            refine zaI (zaw (zaf (zad ?_)))
            obtain ⟨hg1, h⟩ := zcX h
            refine zaz rfl dc rfl rfl (zbs (r := x3 + 1) (IntWalk.i64_in _ hg1)) (zag rfl dc rfl (zan ?_))
            subst hag1
            exact zbq (n1, x3 + 1) h (Nat.lt_succ_self _) rfl (zah rfl (zah rfl (zah rfl (zah rfl (zah rfl (zaQ)))))) (zak [0, 1, 2, 3, 4, 5] kr rfl)
        ·
         have h := za7 hb6 h
         refine zbA (zaR (zaR (za2 ?_)))
         exact za3 () h rfl (zah rfl (zah rfl (zaQ))) (zak [0, 1, 2, 3, 5] kr rfl)
      ·
       rintro _ h
       rw [hj1] at h
       show TC _ _ _ _ _ (zdq ([] : List Nat)) _ _ [(0, zP b1), (1, zP b3)] [cells b1 [.bool false] 4, cells b3 [.string p1.told_title, hd1.v, hd2.v, .string p1.source] 93, vec zal 36 6 hd1.v p1.told_lines, vec zaq 34 2 hd2.v p1.told_stanzas, zbU ((([] : List Nat) : List Nat).map zbJ)]
       refine zap (zap (zad (zag rfl dc rfl ?_)))
       obtain ⟨r6, hq8, h⟩ := zbT h
       refine zbB (v := .string r6) (vs := [zP b3]) (Rd.nil : Rd _ _ []) rfl dc rfl rfl rfl zkW (zcy (bp1 := b3) (p1 := p1) (p1_h0 := hd1) (p1_h1 := hd2) hq8) (.own (zak [1] (by kernel_rfl) rfl) (fun _ _ h => sepL.one1.1 h) (.own (zak [2] (by kernel_rfl) rfl) (fun _ _ h => sepL.one1.1 h) (.own (zak [3] (by kernel_rfl) rfl) (fun _ _ h => sepL.one1.1 h) .nil))) ?_
       refine zaz rfl dc rfl rfl zdJ (zan (zaf ?_))
       refine zaF rfl (fun hb10 => ?_) (fun hb10 => ?_)
       ·
        have h := za6 hb10 h
        refine zap (zad ?_)
        refine zaN (k := 0) (l' := [.bool false]) zeX rfl rfl rfl rfl rfl (fun _ _ => rfl) rfl ?_
        refine zan (zaf (zaE (zav ?_)))
        cases h
        exact zbm (rs := [.cell 0 4]) ([] : List Nat) () (.inl rfl) (zaU (k := 4) rfl) Tryd.results11 (.cons (.cell zeD (k := 0) rfl rfl) .nil) rfl Splits.nil
       ·
        have h := za7 hb10 h
        refine zaI (zaf (zap (zad (zag rfl dc rfl ?_))))
        obtain ⟨r7, hq9, h⟩ := zbT h
        refine zcl (vs := [zP b3, zI 0, .string (⟨#[35, 32, 120]⟩ : ByteArray)]) (Rd.nil : Rd _ _ []) rfl dc rfl rfl rfl zkV (zc5 (bp1 := b3) (p1 := p1) (p1_h0 := hd1) (p1_h1 := hd2) hq9) Splits.nil (.own (zak [1] (by kernel_rfl) rfl) (fun _ _ h => sepL.one1.1 h) (.own (zak [2] (by kernel_rfl) rfl) (fun _ _ h => sepL.one1.1 h) (.own (zak [3] (by kernel_rfl) rfl) (fun _ _ h => sepL.one1.1 h) .nil))) ?_
        rintro v2
        show TO _ _ _ _ _ _ _ _ _ _ [cells b1 [.bool false] 4, cells b3 [.string p1.told_title, hd1.v, hd2.v, .string p1.source] 93, vec zal 36 6 hd1.v p1.told_lines, vec zaq 34 2 hd2.v p1.told_stanzas, zbU ((([] : List Nat) : List Nat).map zbJ), za5 zac zab 93 v2 r7.1]
        refine zbf (L' := [cells b1 [.bool false] 4, cells b3 [.string p1.told_title, hd1.v, hd2.v, .string p1.source] 93, vec zal 36 6 hd1.v p1.told_lines, vec zaq 34 2 hd2.v p1.told_stanzas, zbU ((([] : List Nat) : List Nat).map zbJ), za5 zac zab 93 v2 r7.1]) (zak [0, 1, 2, 3, 4, 5] kr rfl) (zag rfl dc rfl (zaL rfl dc rfl rfl (zaL rfl dc rfl rfl (zai rfl dc rfl (zai rfl dc rfl (zan (zaf (zap (zad (zag rfl dc rfl ?_))))))))))
        obtain ⟨r8, hq10, h⟩ := zbT h
        refine zcl (vs := [zP b3, zI 0, .string (⟨#[32]⟩ : ByteArray)]) (Rd.nil : Rd _ _ []) rfl dc rfl rfl rfl zkV (zc5 (bp1 := b3) (p1 := p1) (p1_h0 := hd1) (p1_h1 := hd2) hq10) Splits.nil (.own (zak [1] (by kernel_rfl) rfl) (fun _ _ h => sepL.one1.1 h) (.own (zak [2] (by kernel_rfl) rfl) (fun _ _ h => sepL.one1.1 h) (.own (zak [3] (by kernel_rfl) rfl) (fun _ _ h => sepL.one1.1 h) .nil))) ?_
        rintro v3
        show TO _ _ _ _ _ _ _ _ _ _ [cells b1 [.bool false] 4, cells b3 [.string p1.told_title, hd1.v, hd2.v, .string p1.source] 93, vec zal 36 6 hd1.v p1.told_lines, vec zaq 34 2 hd2.v p1.told_stanzas, zbU ((([] : List Nat) : List Nat).map zbJ), za5 zac zab 93 v2 r7.1, za5 zac zab 93 v3 r8.1]
        refine zbf (L' := [cells b1 [.bool false] 4, cells b3 [.string p1.told_title, hd1.v, hd2.v, .string p1.source] 93, vec zal 36 6 hd1.v p1.told_lines, vec zaq 34 2 hd2.v p1.told_stanzas, zbU ((([] : List Nat) : List Nat).map zbJ), za5 zac zab 93 v2 r7.1, za5 zac zab 93 v3 r8.1]) (zak [0, 1, 2, 3, 4, 5, 6] kr rfl) (zag rfl dc rfl (zaL rfl dc rfl rfl (zaL rfl dc rfl rfl (zai rfl dc rfl (zan (zaf (zap (zad (zag rfl dc rfl ?_)))))))))
        obtain ⟨r9, hq11, h⟩ := zbT h
        refine zcl (vs := [zP b3, zI 0, .string (⟨#[97, 10, 98]⟩ : ByteArray)]) (Rd.nil : Rd _ _ []) rfl dc rfl rfl rfl zkV (zc5 (bp1 := b3) (p1 := p1) (p1_h0 := hd1) (p1_h1 := hd2) hq11) Splits.nil (.own (zak [1] (by kernel_rfl) rfl) (fun _ _ h => sepL.one1.1 h) (.own (zak [2] (by kernel_rfl) rfl) (fun _ _ h => sepL.one1.1 h) (.own (zak [3] (by kernel_rfl) rfl) (fun _ _ h => sepL.one1.1 h) .nil))) ?_
        rintro v4
        show TO _ _ _ _ _ _ _ _ _ _ [cells b1 [.bool false] 4, cells b3 [.string p1.told_title, hd1.v, hd2.v, .string p1.source] 93, vec zal 36 6 hd1.v p1.told_lines, vec zaq 34 2 hd2.v p1.told_stanzas, zbU ((([] : List Nat) : List Nat).map zbJ), za5 zac zab 93 v2 r7.1, za5 zac zab 93 v3 r8.1, za5 zac zab 93 v4 r9.1]
        refine zbf (L' := [cells b1 [.bool false] 4, cells b3 [.string p1.told_title, hd1.v, hd2.v, .string p1.source] 93, vec zal 36 6 hd1.v p1.told_lines, vec zaq 34 2 hd2.v p1.told_stanzas, zbU ((([] : List Nat) : List Nat).map zbJ), za5 zac zab 93 v2 r7.1, za5 zac zab 93 v3 r8.1, za5 zac zab 93 v4 r9.1]) (zak [0, 1, 2, 3, 4, 5, 6, 7] kr rfl) (zag rfl dc rfl (zaL rfl dc rfl rfl (zaL rfl dc rfl rfl (zai rfl dc rfl (zai rfl dc rfl (zan (zaf (zap (zad (zag rfl dc rfl ?_))))))))))
        obtain ⟨r10, hq12, h⟩ := zbT h
        refine zcl (vs := [zP b3, zI 9, .string (⟨#[120]⟩ : ByteArray)]) (Rd.nil : Rd _ _ []) rfl dc rfl rfl rfl zkV (zc5 (bp1 := b3) (p1 := p1) (p1_h0 := hd1) (p1_h1 := hd2) hq12) Splits.nil (.own (zak [1] (by kernel_rfl) rfl) (fun _ _ h => sepL.one1.1 h) (.own (zak [2] (by kernel_rfl) rfl) (fun _ _ h => sepL.one1.1 h) (.own (zak [3] (by kernel_rfl) rfl) (fun _ _ h => sepL.one1.1 h) .nil))) ?_
        rintro v5
        show TO _ _ _ _ _ _ _ _ _ _ [cells b1 [.bool false] 4, cells b3 [.string p1.told_title, hd1.v, hd2.v, .string p1.source] 93, vec zal 36 6 hd1.v p1.told_lines, vec zaq 34 2 hd2.v p1.told_stanzas, zbU ((([] : List Nat) : List Nat).map zbJ), za5 zac zab 93 v2 r7.1, za5 zac zab 93 v3 r8.1, za5 zac zab 93 v4 r9.1, za5 zac zab 93 v5 r10.1]
        refine zbf (L' := [cells b1 [.bool false] 4, cells b3 [.string p1.told_title, hd1.v, hd2.v, .string p1.source] 93, vec zal 36 6 hd1.v p1.told_lines, vec zaq 34 2 hd2.v p1.told_stanzas, zbU ((([] : List Nat) : List Nat).map zbJ), za5 zac zab 93 v2 r7.1, za5 zac zab 93 v3 r8.1, za5 zac zab 93 v4 r9.1, za5 zac zab 93 v5 r10.1]) (zak [0, 1, 2, 3, 4, 5, 6, 7, 8] kr rfl) (zag rfl dc rfl (zaL rfl dc rfl rfl (zaL rfl dc rfl rfl (zai rfl dc rfl (zai rfl dc rfl (zan (zaf (zap (zad (zag rfl dc rfl ?_))))))))))
        obtain ⟨r11, hq13, h⟩ := zbT h
        refine zcl (vs := [zP b3, zI 1, zI 3]) (Rd.nil : Rd _ _ []) rfl dc rfl rfl rfl zow (zha (bp1 := b3) (p1 := p1) (p1_h0 := hd1) (p1_h1 := hd2) hq13) Splits.nil (.own (zak [1] (by kernel_rfl) rfl) (fun _ _ h => sepL.one1.1 h) (.own (zak [2] (by kernel_rfl) rfl) (fun _ _ h => sepL.one1.1 h) (.own (zak [3] (by kernel_rfl) rfl) (fun _ _ h => sepL.one1.1 h) .nil))) ?_
        rintro v6
        show TO _ _ _ _ _ _ _ _ _ _ [cells b1 [.bool false] 4, cells b3 [.string p1.told_title, hd1.v, hd2.v, .string p1.source] 93, vec zal 36 6 hd1.v p1.told_lines, vec zaq 34 2 hd2.v p1.told_stanzas, zbU ((([] : List Nat) : List Nat).map zbJ), za5 zac zab 93 v2 r7.1, za5 zac zab 93 v3 r8.1, za5 zac zab 93 v4 r9.1, za5 zac zab 93 v5 r10.1, za5 zac zab 93 v6 r11.1]
        refine zbf (L' := [cells b1 [.bool false] 4, cells b3 [.string p1.told_title, hd1.v, hd2.v, .string p1.source] 93, vec zal 36 6 hd1.v p1.told_lines, vec zaq 34 2 hd2.v p1.told_stanzas, zbU ((([] : List Nat) : List Nat).map zbJ), za5 zac zab 93 v2 r7.1, za5 zac zab 93 v3 r8.1, za5 zac zab 93 v4 r9.1, za5 zac zab 93 v5 r10.1, za5 zac zab 93 v6 r11.1]) (zak [0, 1, 2, 3, 4, 5, 6, 7, 8, 9] kr rfl) (zag rfl dc rfl (zaL rfl dc rfl rfl (zaL rfl dc rfl rfl (zai rfl dc rfl (zai rfl dc rfl (zan (zaf (zap (zap (zad (zag rfl dc rfl (zaz rfl dc rfl rfl zbk (zag rfl dc rfl ?_)))))))))))))
        refine zaV (s := 131) rfl (fun hb11 => ?_) (fun hb11 => ?_)
        ·
         have h := za6 hb11 h
         refine zae rfl dc (zae rfl dc (zae rfl dc (zas (b := true) rfl dc rfl rfl (zag rfl dc rfl (zae rfl dc (zae rfl dc (zas (b := true) rfl dc rfl rfl (zag rfl dc rfl (zae rfl dc (zae rfl dc (zas (b := true) rfl dc rfl rfl (zag rfl dc rfl (zae rfl dc ?_)))))))))))))
         refine zae rfl dc (zas (b := true) rfl dc rfl rfl (zag rfl dc rfl (zae rfl dc (zae rfl dc (zas (b := true) rfl dc rfl rfl (zag rfl dc rfl (zae rfl dc (zae rfl dc (zae rfl dc (zas (b := true) rfl dc rfl rfl (zag rfl dc rfl (zae rfl dc (zae rfl dc ?_)))))))))))))
         refine zae rfl dc (zas (b := true) rfl dc rfl rfl (zan (zaf (zaY rfl (zap (zad ?_))))))
         refine zaN (k := 0) (l' := [.bool false]) zeX rfl rfl rfl rfl rfl (fun _ _ => rfl) rfl ?_
         refine zan (zaf (zaE (zav ?_)))
         cases h
         exact zbm (rs := [.cell 0 4]) ([] : List Nat) () (.inl rfl) (zaU (k := 4) rfl) Tryd.results11 (.cons (.cell zeD (k := 0) rfl rfl) .nil) rfl Splits.nil
        ·
         have h := za7 hb11 h
         refine zag rfl dc rfl ?_
         obtain ⟨p2, hq14, h⟩ := zbT h
         refine zfR (As := [za5 zac zab 93 v2 r7.1]) (zak [5] kr rfl) (zcT hq14) ?_
         rintro ⟨b8, hd3, hd4⟩ hv2
         subst hv2
         show TO _ _ _ _ _ _ _ _ _ _ [cells b1 [.bool false] 4, cells b3 [.string p1.told_title, hd1.v, hd2.v, .string p1.source] 93, vec zal 36 6 hd1.v p1.told_lines, vec zaq 34 2 hd2.v p1.told_stanzas, zbU ((([] : List Nat) : List Nat).map zbJ), emp, za5 zac zab 93 v3 r8.1, za5 zac zab 93 v4 r9.1, za5 zac zab 93 v5 r10.1, za5 zac zab 93 v6 r11.1, cells b8 [.string p2.told_title, hd3.v, hd4.v, .string p2.source] 93, vec zal 36 6 hd3.v p2.told_lines, vec zaq 34 2 hd4.v p2.told_stanzas]
         obtain ⟨r12, hq15, h⟩ := zbT h
         refine zbB (v := .string r12) (vs := [zP b8]) (Rd.nil : Rd _ _ []) rfl dc rfl rfl rfl zkW (zcy (bp1 := b8) (p1 := p2) (p1_h0 := hd3) (p1_h1 := hd4) hq15) (.own (zak [10] (by kernel_rfl) rfl) (fun _ _ h => sepL.one1.1 h) (.own (zak [11] (by kernel_rfl) rfl) (fun _ _ h => sepL.one1.1 h) (.own (zak [12] (by kernel_rfl) rfl) (fun _ _ h => sepL.one1.1 h) .nil))) ?_
         refine zaz rfl dc rfl rfl zdJ (zas (b := false) rfl dc rfl rfl (zag rfl dc rfl ?_))
         refine zaV (s := 136) rfl (fun hb12 => ?_) (fun hb12 => ?_)
         ·
          have h := za6 hb12 h
          refine zae rfl dc (zae rfl dc (zas (b := true) rfl dc rfl rfl (zag rfl dc rfl (zae rfl dc (zae rfl dc (zas (b := true) rfl dc rfl rfl (zag rfl dc rfl (zae rfl dc (zae rfl dc (zas (b := true) rfl dc rfl rfl (zag rfl dc rfl (zae rfl dc (zae rfl dc ?_)))))))))))))
          refine zas (b := true) rfl dc rfl rfl (zag rfl dc rfl (zae rfl dc (zae rfl dc (zae rfl dc (zas (b := true) rfl dc rfl rfl (zag rfl dc rfl (zae rfl dc (zae rfl dc (zae rfl dc (zas (b := true) rfl dc rfl rfl (zan (zaf (zaY rfl ?_)))))))))))))
          refine zap (zad ?_)
          refine zaN (k := 0) (l' := [.bool false]) zeX rfl rfl rfl rfl rfl (fun _ _ => rfl) rfl ?_
          refine zan (zaf (zaE (zav ?_)))
          cases h
          exact zbm (rs := [.cell 0 4]) ([] : List Nat) () (.inl rfl) (zaU (k := 4) rfl) Tryd.results11 (.cons (.cell zeD (k := 0) rfl rfl) .nil) rfl Splits.nil
         ·
          have h := za7 hb12 h
          refine zag rfl dc rfl (zaz rfl dc rfl rfl zbk (zas (b := false) rfl dc rfl rfl (zag rfl dc rfl ?_)))
          refine zaV (s := 140) rfl (fun hb13 => ?_) (fun hb13 => ?_)
          ·
           have h := za6 hb13 h
           refine zae rfl dc (zae rfl dc (zas (b := true) rfl dc rfl rfl (zag rfl dc rfl (zae rfl dc (zae rfl dc (zas (b := true) rfl dc rfl rfl (zag rfl dc rfl (zae rfl dc (zae rfl dc (zas (b := true) rfl dc rfl rfl (zag rfl dc rfl (zae rfl dc (zae rfl dc ?_)))))))))))))
           refine zae rfl dc (zas (b := true) rfl dc rfl rfl (zag rfl dc rfl (zae rfl dc (zae rfl dc (zae rfl dc (zas (b := true) rfl dc rfl rfl (zan (zaf (zaY rfl (zap (zad ?_)))))))))))
           refine zaN (k := 0) (l' := [.bool false]) zeX rfl rfl rfl rfl rfl (fun _ _ => rfl) rfl ?_
           refine zan (zaf (zaE (zav ?_)))
           cases h
           exact zbm (rs := [.cell 0 4]) ([] : List Nat) () (.inl rfl) (zaU (k := 4) rfl) Tryd.results11 (.cons (.cell zeD (k := 0) rfl rfl) .nil) rfl Splits.nil
          ·
           have h := za7 hb13 h
           refine zag rfl dc rfl (zaz rfl dc rfl rfl zbk (zas (b := false) rfl dc rfl rfl (zag rfl dc rfl ?_)))
           refine zaV (s := 144) rfl (fun hb14 => ?_) (fun hb14 => ?_)
           ·
            have h := za6 hb14 h
            refine zae rfl dc (zae rfl dc (zas (b := true) rfl dc rfl rfl (zag rfl dc rfl (zae rfl dc (zae rfl dc (zas (b := true) rfl dc rfl rfl (zag rfl dc rfl (zae rfl dc (zae rfl dc (zae rfl dc (zas (b := true) rfl dc rfl rfl (zag rfl dc rfl (zae rfl dc ?_)))))))))))))
            refine zae rfl dc (zae rfl dc (zas (b := true) rfl dc rfl rfl (zan (zaf (zaY rfl (zap (zad ?_)))))))
            refine zaN (k := 0) (l' := [.bool false]) zeX rfl rfl rfl rfl rfl (fun _ _ => rfl) rfl ?_
            refine zan (zaf (zaE (zav ?_)))
            cases h
            exact zbm (rs := [.cell 0 4]) ([] : List Nat) () (.inl rfl) (zaU (k := 4) rfl) Tryd.results11 (.cons (.cell zeD (k := 0) rfl rfl) .nil) rfl Splits.nil
           ·
            have h := za7 hb14 h
            refine zag rfl dc rfl (zaz rfl dc rfl rfl zbk (zas (b := false) rfl dc rfl rfl (zag rfl dc rfl ?_)))
            refine zaV (s := 148) rfl (fun hb15 => ?_) (fun hb15 => ?_)
            ·
             have h := za6 hb15 h
             refine zae rfl dc (zae rfl dc (zas (b := true) rfl dc rfl rfl (zag rfl dc rfl (zae rfl dc (zae rfl dc (zae rfl dc (zas (b := true) rfl dc rfl rfl (zag rfl dc rfl (zae rfl dc (zae rfl dc (zae rfl dc (zas (b := true) rfl dc rfl rfl (zan ?_)))))))))))))
             refine zaf (zaY rfl (zap (zad ?_)))
             refine zaN (k := 0) (l' := [.bool false]) zeX rfl rfl rfl rfl rfl (fun _ _ => rfl) rfl ?_
             refine zan (zaf (zaE (zav ?_)))
             cases h
             exact zbm (rs := [.cell 0 4]) ([] : List Nat) () (.inl rfl) (zaU (k := 4) rfl) Tryd.results11 (.cons (.cell zeD (k := 0) rfl rfl) .nil) rfl Splits.nil
            ·
             have h := za7 hb15 h
             refine zag rfl dc rfl (zaz rfl dc rfl rfl zbk (zas (b := false) rfl dc rfl rfl (zag rfl dc rfl ?_)))
             refine zaV (s := 152) rfl (fun hb16 => ?_) (fun hb16 => ?_)
             ·
              have h := za6 hb16 h
              refine zae rfl dc (zae rfl dc (zae rfl dc (zas (b := true) rfl dc rfl rfl (zag rfl dc rfl (zae rfl dc (zae rfl dc (zae rfl dc (zas (b := true) rfl dc rfl rfl (zan (zaf (zaY rfl (zap (zad ?_)))))))))))))
              refine zaN (k := 0) (l' := [.bool false]) zeX rfl rfl rfl rfl rfl (fun _ _ => rfl) rfl ?_
              refine zan (zaf (zaE (zav ?_)))
              cases h
              exact zbm (rs := [.cell 0 4]) ([] : List Nat) () (.inl rfl) (zaU (k := 4) rfl) Tryd.results11 (.cons (.cell zeD (k := 0) rfl rfl) .nil) rfl Splits.nil
             ·
              have h := za7 hb16 h
              refine zag rfl dc rfl ?_
              obtain ⟨p3, hq16, h⟩ := zbT h
              refine zfR (As := [za5 zac zab 93 v6 r11.1]) (zak [9] kr rfl) (zcT hq16) ?_
              rintro ⟨b9, hd5, hd6⟩ hv3
              subst hv3
              show TO _ _ _ _ _ _ _ _ _ _ [cells b1 [.bool false] 4, cells b3 [.string p1.told_title, hd1.v, hd2.v, .string p1.source] 93, vec zal 36 6 hd1.v p1.told_lines, vec zaq 34 2 hd2.v p1.told_stanzas, zbU ((([] : List Nat) : List Nat).map zbJ), emp, za5 zac zab 93 v3 r8.1, za5 zac zab 93 v4 r9.1, za5 zac zab 93 v5 r10.1, emp, cells b8 [.string p2.told_title, hd3.v, hd4.v, .string p2.source] 93, vec zal 36 6 hd3.v p2.told_lines, vec zaq 34 2 hd4.v p2.told_stanzas, cells b9 [.string p3.told_title, hd5.v, hd6.v, .string p3.source] 93, vec zal 36 6 hd5.v p3.told_lines, vec zaq 34 2 hd6.v p3.told_stanzas]
              obtain ⟨r13, hq17, h⟩ := zbT h
              refine zbB (v := zI r13) (vs := [zP b9]) (Rd.nil : Rd _ _ []) rfl dc rfl rfl rfl zmq (zdU (bp1 := b9) (p1 := p3) (p1_h0 := hd5) (p1_h1 := hd6) hq17) (.own (zak [13] (by kernel_rfl) rfl) (fun _ _ h => sepL.one1.1 h) (.own (zak [14] (by kernel_rfl) rfl) (fun _ _ h => sepL.one1.1 h) (.own (zak [15] (by kernel_rfl) rfl) (fun _ _ h => sepL.one1.1 h) .nil))) ?_
              refine zaz rfl dc rfl rfl zbk (zas (b := false) rfl dc rfl rfl (zag rfl dc rfl ?_))
              refine zaV (s := 157) rfl (fun hb17 => ?_) (fun hb17 => ?_)
              ·
               have h := za6 hb17 h
               refine zae rfl dc (zae rfl dc (zae rfl dc (zas (b := true) rfl dc rfl rfl (zan (zaf (zaY rfl (zap (zad ?_))))))))
               refine zaN (k := 0) (l' := [.bool false]) zeX rfl rfl rfl rfl rfl (fun _ _ => rfl) rfl ?_
               refine zan (zaf (zaE (zav ?_)))
               cases h
               exact zbm (rs := [.cell 0 4]) ([] : List Nat) () (.inl rfl) (zaU (k := 4) rfl) Tryd.results11 (.cons (.cell zeD (k := 0) rfl rfl) .nil) rfl Splits.nil
              ·
               have h := za7 hb17 h
               refine zag rfl dc rfl ?_
               obtain ⟨r14, hq18, h⟩ := zbT h
               refine zbB (v := zI r14) (vs := [zP b9]) (Rd.nil : Rd _ _ []) rfl dc rfl rfl rfl zmp (zdz (bp1 := b9) (p1 := p3) (p1_h0 := hd5) (p1_h1 := hd6) hq18) (.own (zak [13] (by kernel_rfl) rfl) (fun _ _ h => sepL.one1.1 h) (.own (zak [14] (by kernel_rfl) rfl) (fun _ _ h => sepL.one1.1 h) (.own (zak [15] (by kernel_rfl) rfl) (fun _ _ h => sepL.one1.1 h) .nil))) ?_
               refine zaz rfl dc rfl rfl zbk (zas (b := false) rfl dc rfl rfl (zan (zaf ?_)))
               refine zaF rfl (fun hb18 => ?_) (fun hb18 => ?_)
               ·
                have h := za6 hb18 h
                refine zap (zad ?_)
                refine zaN (k := 0) (l' := [.bool false]) zeX rfl rfl rfl rfl rfl (fun _ _ => rfl) rfl ?_
                refine zan (zaf (zaE (zav ?_)))
                cases h
                exact zbm (rs := [.cell 0 4]) ([] : List Nat) () (.inl rfl) (zaU (k := 4) rfl) Tryd.results11 (.cons (.cell zeD (k := 0) rfl rfl) .nil) rfl Splits.nil
               ·
                have h := za7 hb18 h
                refine zaI (zaf (zap (zad ?_)))
                refine zbC (cs := [.string (⟨#[35, 32, 120]⟩ : ByteArray)]) (te := 9) (ps := [(0, .const (.string (⟨#[35, 32, 120]⟩ : ByteArray)))]) rfl dc rfl (fun _ => by kernel_rfl) (fun b10 => ?_)
                refine zbC (cs := [.string (⟨#[121]⟩ : ByteArray)]) (te := 9) (ps := [(0, .const (.string (⟨#[121]⟩ : ByteArray)))]) rfl dc rfl (fun _ => by kernel_rfl) (fun b11 => ?_)
                show TO _ _ _ _ _ _ _ _ _ _ [cells b1 [.bool false] 4, cells b3 [.string p1.told_title, hd1.v, hd2.v, .string p1.source] 93, vec zal 36 6 hd1.v p1.told_lines, vec zaq 34 2 hd2.v p1.told_stanzas, zbU ((([] : List Nat) : List Nat).map zbJ), emp, za5 zac zab 93 v3 r8.1, za5 zac zab 93 v4 r9.1, za5 zac zab 93 v5 r10.1, emp, cells b8 [.string p2.told_title, hd3.v, hd4.v, .string p2.source] 93, vec zal 36 6 hd3.v p2.told_lines, vec zaq 34 2 hd4.v p2.told_stanzas, cells b9 [.string p3.told_title, hd5.v, hd6.v, .string p3.source] 93, vec zal 36 6 hd5.v p3.told_lines, vec zaq 34 2 hd6.v p3.told_stanzas, cells b10 [.string (⟨#[35, 32, 120]⟩ : ByteArray)] 9, cells b11 [.string (⟨#[121]⟩ : ByteArray)] 9]
                refine zbC (cs := [.slice (some ⟨b10, 0, none⟩) 1 1, .slice (some ⟨b11, 0, none⟩) 1 1]) (te := 48) (ps := [(0, .tmp 163), (1, .tmp 164)]) rfl dc rfl (fun _ => by kernel_rfl) (fun b12 => ?_)
                refine zfY ([(⟨#[35, 32, 120]⟩ : ByteArray)] : List ByteArray) (k := 16) rfl zfV rfl (show 1 ≤ maxLen by decide) ?_
                show TO _ _ _ _ _ _ _ _ _ _ [cells b1 [.bool false] 4, cells b3 [.string p1.told_title, hd1.v, hd2.v, .string p1.source] 93, vec zal 36 6 hd1.v p1.told_lines, vec zaq 34 2 hd2.v p1.told_stanzas, zbU ((([] : List Nat) : List Nat).map zbJ), emp, za5 zac zab 93 v3 r8.1, za5 zac zab 93 v4 r9.1, za5 zac zab 93 v5 r10.1, emp, cells b8 [.string p2.told_title, hd3.v, hd4.v, .string p2.source] 93, vec zal 36 6 hd3.v p2.told_lines, vec zaq 34 2 hd4.v p2.told_stanzas, cells b9 [.string p3.told_title, hd5.v, hd6.v, .string p3.source] 93, vec zal 36 6 hd5.v p3.told_lines, vec zaq 34 2 hd6.v p3.told_stanzas, vec zfL 9 1 (.slice (some ⟨b10, 0, none⟩) 1 1) ([(⟨#[35, 32, 120]⟩ : ByteArray)] : List ByteArray), cells b11 [.string (⟨#[121]⟩ : ByteArray)] 9, cells b12 [.slice (some ⟨b10, 0, none⟩) 1 1, .slice (some ⟨b11, 0, none⟩) 1 1] 48]
                refine zfY ([(⟨#[121]⟩ : ByteArray)] : List ByteArray) (k := 17) rfl zfV rfl (show 1 ≤ maxLen by decide) ?_
                show TO _ _ _ _ _ _ _ _ _ _ [cells b1 [.bool false] 4, cells b3 [.string p1.told_title, hd1.v, hd2.v, .string p1.source] 93, vec zal 36 6 hd1.v p1.told_lines, vec zaq 34 2 hd2.v p1.told_stanzas, zbU ((([] : List Nat) : List Nat).map zbJ), emp, za5 zac zab 93 v3 r8.1, za5 zac zab 93 v4 r9.1, za5 zac zab 93 v5 r10.1, emp, cells b8 [.string p2.told_title, hd3.v, hd4.v, .string p2.source] 93, vec zal 36 6 hd3.v p2.told_lines, vec zaq 34 2 hd4.v p2.told_stanzas, cells b9 [.string p3.told_title, hd5.v, hd6.v, .string p3.source] 93, vec zal 36 6 hd5.v p3.told_lines, vec zaq 34 2 hd6.v p3.told_stanzas, vec zfL 9 1 (.slice (some ⟨b10, 0, none⟩) 1 1) ([(⟨#[35, 32, 120]⟩ : ByteArray)] : List ByteArray), vec zfL 9 1 (.slice (some ⟨b11, 0, none⟩) 1 1) ([(⟨#[121]⟩ : ByteArray)] : List ByteArray), cells b12 [.slice (some ⟨b10, 0, none⟩) 1 1, .slice (some ⟨b11, 0, none⟩) 1 1] 48]
                refine zfY ([(([(⟨#[35, 32, 120]⟩ : ByteArray)] : List ByteArray), (⟨some ⟨b10, 0, none⟩, 1, 1⟩ : Hd)), (([(⟨#[121]⟩ : ByteArray)] : List ByteArray), (⟨some ⟨b11, 0, none⟩, 1, 1⟩ : Hd))] : List ((List ByteArray) × Hd)) (k := 18) rfl zbl rfl (show 2 ≤ maxLen by decide) ?_
                show TO _ _ _ _ _ _ _ _ _ _ [cells b1 [.bool false] 4, cells b3 [.string p1.told_title, hd1.v, hd2.v, .string p1.source] 93, vec zal 36 6 hd1.v p1.told_lines, vec zaq 34 2 hd2.v p1.told_stanzas, zbU ((([] : List Nat) : List Nat).map zbJ), emp, za5 zac zab 93 v3 r8.1, za5 zac zab 93 v4 r9.1, za5 zac zab 93 v5 r10.1, emp, cells b8 [.string p2.told_title, hd3.v, hd4.v, .string p2.source] 93, vec zal 36 6 hd3.v p2.told_lines, vec zaq 34 2 hd4.v p2.told_stanzas, cells b9 [.string p3.told_title, hd5.v, hd6.v, .string p3.source] 93, vec zal 36 6 hd5.v p3.told_lines, vec zaq 34 2 hd6.v p3.told_stanzas, vec zfL 9 1 (.slice (some ⟨b10, 0, none⟩) 1 1) ([(⟨#[35, 32, 120]⟩ : ByteArray)] : List ByteArray), vec zfL 9 1 (.slice (some ⟨b11, 0, none⟩) 1 1) ([(⟨#[121]⟩ : ByteArray)] : List ByteArray), vec zat 48 1 (.slice (some ⟨b12, 0, none⟩) 2 2) ([(([(⟨#[35, 32, 120]⟩ : ByteArray)] : List ByteArray), (⟨some ⟨b10, 0, none⟩, 1, 1⟩ : Hd)), (([(⟨#[121]⟩ : ByteArray)] : List ByteArray), (⟨some ⟨b11, 0, none⟩, 1, 1⟩ : Hd))] : List ((List ByteArray) × Hd))]
                refine zeQ (k := 16) (B := own zau ([(([(⟨#[35, 32, 120]⟩ : ByteArray)] : List ByteArray), (⟨some ⟨b10, 0, none⟩, 1, 1⟩ : Hd)), (([(⟨#[121]⟩ : ByteArray)] : List ByteArray), (⟨some ⟨b11, 0, none⟩, 1, 1⟩ : Hd))] : List ((List ByteArray) × Hd))) rfl (zak [17] kr rfl) rfl (fun _ _ h => h) ?_
                show TO _ _ _ _ _ _ _ _ _ _ [cells b1 [.bool false] 4, cells b3 [.string p1.told_title, hd1.v, hd2.v, .string p1.source] 93, vec zal 36 6 hd1.v p1.told_lines, vec zaq 34 2 hd2.v p1.told_stanzas, zbU ((([] : List Nat) : List Nat).map zbJ), emp, za5 zac zab 93 v3 r8.1, za5 zac zab 93 v4 r9.1, za5 zac zab 93 v5 r10.1, emp, cells b8 [.string p2.told_title, hd3.v, hd4.v, .string p2.source] 93, vec zal 36 6 hd3.v p2.told_lines, vec zaq 34 2 hd4.v p2.told_stanzas, cells b9 [.string p3.told_title, hd5.v, hd6.v, .string p3.source] 93, vec zal 36 6 hd5.v p3.told_lines, vec zaq 34 2 hd6.v p3.told_stanzas, own zau ([(([(⟨#[35, 32, 120]⟩ : ByteArray)] : List ByteArray), (⟨some ⟨b10, 0, none⟩, 1, 1⟩ : Hd)), (([(⟨#[121]⟩ : ByteArray)] : List ByteArray), (⟨some ⟨b11, 0, none⟩, 1, 1⟩ : Hd))] : List ((List ByteArray) × Hd)), emp, vec zat 48 1 (.slice (some ⟨b12, 0, none⟩) 2 2) ([(([(⟨#[35, 32, 120]⟩ : ByteArray)] : List ByteArray), (⟨some ⟨b10, 0, none⟩, 1, 1⟩ : Hd)), (([(⟨#[121]⟩ : ByteArray)] : List ByteArray), (⟨some ⟨b11, 0, none⟩, 1, 1⟩ : Hd))] : List ((List ByteArray) × Hd))]
                refine zeQ (k := 18) rfl (zak [16] kr rfl) rfl (zkv (enc := zat) (nest := zau) rfl) ?_
                show TO _ _ _ _ _ _ _ _ _ _ [cells b1 [.bool false] 4, cells b3 [.string p1.told_title, hd1.v, hd2.v, .string p1.source] 93, vec zal 36 6 hd1.v p1.told_lines, vec zaq 34 2 hd2.v p1.told_stanzas, zbU ((([] : List Nat) : List Nat).map zbJ), emp, za5 zac zab 93 v3 r8.1, za5 zac zab 93 v4 r9.1, za5 zac zab 93 v5 r10.1, emp, cells b8 [.string p2.told_title, hd3.v, hd4.v, .string p2.source] 93, vec zal 36 6 hd3.v p2.told_lines, vec zaq 34 2 hd4.v p2.told_stanzas, cells b9 [.string p3.told_title, hd5.v, hd6.v, .string p3.source] 93, vec zal 36 6 hd5.v p3.told_lines, vec zaq 34 2 hd6.v p3.told_stanzas, emp, emp, zb2 zat zau 48 1 (.slice (some ⟨b12, 0, none⟩) 2 2) ([([(⟨#[35, 32, 120]⟩ : ByteArray)] : List ByteArray), ([(⟨#[121]⟩ : ByteArray)] : List ByteArray)] : List (List ByteArray))]
                obtain ⟨r15, hq19, h⟩ := zbT h
                refine zcl (vs := [.string (⟨#[]⟩ : ByteArray), .slice (some ⟨b12, 0, none⟩) 2 2]) (Rd.nil : Rd _ _ []) rfl dc rfl rfl rfl zny (ze6 (nest := zau) (e := 48) (v := (.slice (some ⟨b12, 0, none⟩) 2 2)) (xs := ([([(⟨#[35, 32, 120]⟩ : ByteArray)] : List ByteArray), ([(⟨#[121]⟩ : ByteArray)] : List ByteArray)] : List (List ByteArray))) (RD1 := []) (RD2 := []) zbl zc8 (fun zs_c0 hz_c0 hV_c0 => (zfF (vstanzas1 := (⟨some ⟨b12, 0, none⟩, 2, 2⟩ : Hd)) hV_c0 hz_c0 hq19))) Splits.nil (.own (zak [18] (by kernel_rfl) rfl) (fun _ _ h => sepL.one1.1 h) .nil) ?_
                rintro v7
                show TO _ _ _ _ _ _ _ _ _ _ [cells b1 [.bool false] 4, cells b3 [.string p1.told_title, hd1.v, hd2.v, .string p1.source] 93, vec zal 36 6 hd1.v p1.told_lines, vec zaq 34 2 hd2.v p1.told_stanzas, zbU ((([] : List Nat) : List Nat).map zbJ), emp, za5 zac zab 93 v3 r8.1, za5 zac zab 93 v4 r9.1, za5 zac zab 93 v5 r10.1, emp, cells b8 [.string p2.told_title, hd3.v, hd4.v, .string p2.source] 93, vec zal 36 6 hd3.v p2.told_lines, vec zaq 34 2 hd4.v p2.told_stanzas, cells b9 [.string p3.told_title, hd5.v, hd6.v, .string p3.source] 93, vec zal 36 6 hd5.v p3.told_lines, vec zaq 34 2 hd6.v p3.told_stanzas, emp, emp, zb2 zat zau 48 1 (.slice (some ⟨b12, 0, none⟩) 2 2) ([([(⟨#[35, 32, 120]⟩ : ByteArray)] : List ByteArray), ([(⟨#[121]⟩ : ByteArray)] : List ByteArray)] : List (List ByteArray)), za5 zac zab 93 v7 r15.1]
                refine zbf (L' := [cells b1 [.bool false] 4, cells b3 [.string p1.told_title, hd1.v, hd2.v, .string p1.source] 93, vec zal 36 6 hd1.v p1.told_lines, vec zaq 34 2 hd2.v p1.told_stanzas, zbU ((([] : List Nat) : List Nat).map zbJ), emp, za5 zac zab 93 v3 r8.1, za5 zac zab 93 v4 r9.1, za5 zac zab 93 v5 r10.1, emp, cells b8 [.string p2.told_title, hd3.v, hd4.v, .string p2.source] 93, vec zal 36 6 hd3.v p2.told_lines, vec zaq 34 2 hd4.v p2.told_stanzas, cells b9 [.string p3.told_title, hd5.v, hd6.v, .string p3.source] 93, vec zal 36 6 hd5.v p3.told_lines, vec zaq 34 2 hd6.v p3.told_stanzas, emp, emp, zb2 zat zau 48 1 (.slice (some ⟨b12, 0, none⟩) 2 2) ([([(⟨#[35, 32, 120]⟩ : ByteArray)] : List ByteArray), ([(⟨#[121]⟩ : ByteArray)] : List ByteArray)] : List (List ByteArray)), za5 zac zab 93 v7 r15.1]) (zak [0, 1, 2, 3, 4, 5, 6, 7, 8, 9, 10, 11, 12, 13, 14, 15, 16, 17, 18, 19] kr rfl) (zag rfl dc rfl (zaL rfl dc rfl rfl (zaL rfl dc rfl rfl (zai rfl dc rfl (zai rfl dc rfl (zan (zaf (zap (zad ?_)))))))))
                refine zbC (cs := []) (te := 9) (ps := []) rfl dc rfl (fun _ => by kernel_rfl) (fun b13 => ?_)
                refine zbC (cs := [.slice (some ⟨b13, 0, none⟩) 0 0]) (te := 48) (ps := [(0, .tmp 170)]) rfl dc rfl (fun _ => by kernel_rfl) (fun b14 => ?_)
                show TO _ _ _ _ _ _ _ _ _ _ [cells b1 [.bool false] 4, cells b3 [.string p1.told_title, hd1.v, hd2.v, .string p1.source] 93, vec zal 36 6 hd1.v p1.told_lines, vec zaq 34 2 hd2.v p1.told_stanzas, zbU ((([] : List Nat) : List Nat).map zbJ), emp, za5 zac zab 93 v3 r8.1, za5 zac zab 93 v4 r9.1, za5 zac zab 93 v5 r10.1, emp, cells b8 [.string p2.told_title, hd3.v, hd4.v, .string p2.source] 93, vec zal 36 6 hd3.v p2.told_lines, vec zaq 34 2 hd4.v p2.told_stanzas, cells b9 [.string p3.told_title, hd5.v, hd6.v, .string p3.source] 93, vec zal 36 6 hd5.v p3.told_lines, vec zaq 34 2 hd6.v p3.told_stanzas, emp, emp, zb2 zat zau 48 1 (.slice (some ⟨b12, 0, none⟩) 2 2) ([([(⟨#[35, 32, 120]⟩ : ByteArray)] : List ByteArray), ([(⟨#[121]⟩ : ByteArray)] : List ByteArray)] : List (List ByteArray)), za5 zac zab 93 v7 r15.1, cells b13 [] 9, cells b14 [.slice (some ⟨b13, 0, none⟩) 0 0] 48]
                refine zfY ([] : List ByteArray) (k := 20) rfl zfV rfl (show 0 ≤ maxLen by decide) ?_
                show TO _ _ _ _ _ _ _ _ _ _ [cells b1 [.bool false] 4, cells b3 [.string p1.told_title, hd1.v, hd2.v, .string p1.source] 93, vec zal 36 6 hd1.v p1.told_lines, vec zaq 34 2 hd2.v p1.told_stanzas, zbU ((([] : List Nat) : List Nat).map zbJ), emp, za5 zac zab 93 v3 r8.1, za5 zac zab 93 v4 r9.1, za5 zac zab 93 v5 r10.1, emp, cells b8 [.string p2.told_title, hd3.v, hd4.v, .string p2.source] 93, vec zal 36 6 hd3.v p2.told_lines, vec zaq 34 2 hd4.v p2.told_stanzas, cells b9 [.string p3.told_title, hd5.v, hd6.v, .string p3.source] 93, vec zal 36 6 hd5.v p3.told_lines, vec zaq 34 2 hd6.v p3.told_stanzas, emp, emp, zb2 zat zau 48 1 (.slice (some ⟨b12, 0, none⟩) 2 2) ([([(⟨#[35, 32, 120]⟩ : ByteArray)] : List ByteArray), ([(⟨#[121]⟩ : ByteArray)] : List ByteArray)] : List (List ByteArray)), za5 zac zab 93 v7 r15.1, vec zfL 9 1 (.slice (some ⟨b13, 0, none⟩) 0 0) ([] : List ByteArray), cells b14 [.slice (some ⟨b13, 0, none⟩) 0 0] 48]
                refine zfY ([(([] : List ByteArray), (⟨some ⟨b13, 0, none⟩, 0, 0⟩ : Hd))] : List ((List ByteArray) × Hd)) (k := 21) rfl zbl rfl (show 1 ≤ maxLen by decide) ?_
                show TO _ _ _ _ _ _ _ _ _ _ [cells b1 [.bool false] 4, cells b3 [.string p1.told_title, hd1.v, hd2.v, .string p1.source] 93, vec zal 36 6 hd1.v p1.told_lines, vec zaq 34 2 hd2.v p1.told_stanzas, zbU ((([] : List Nat) : List Nat).map zbJ), emp, za5 zac zab 93 v3 r8.1, za5 zac zab 93 v4 r9.1, za5 zac zab 93 v5 r10.1, emp, cells b8 [.string p2.told_title, hd3.v, hd4.v, .string p2.source] 93, vec zal 36 6 hd3.v p2.told_lines, vec zaq 34 2 hd4.v p2.told_stanzas, cells b9 [.string p3.told_title, hd5.v, hd6.v, .string p3.source] 93, vec zal 36 6 hd5.v p3.told_lines, vec zaq 34 2 hd6.v p3.told_stanzas, emp, emp, zb2 zat zau 48 1 (.slice (some ⟨b12, 0, none⟩) 2 2) ([([(⟨#[35, 32, 120]⟩ : ByteArray)] : List ByteArray), ([(⟨#[121]⟩ : ByteArray)] : List ByteArray)] : List (List ByteArray)), za5 zac zab 93 v7 r15.1, vec zfL 9 1 (.slice (some ⟨b13, 0, none⟩) 0 0) ([] : List ByteArray), vec zat 48 1 (.slice (some ⟨b14, 0, none⟩) 1 1) ([(([] : List ByteArray), (⟨some ⟨b13, 0, none⟩, 0, 0⟩ : Hd))] : List ((List ByteArray) × Hd))]
                refine zeQ (k := 20) (B := own zau ([(([] : List ByteArray), (⟨some ⟨b13, 0, none⟩, 0, 0⟩ : Hd))] : List ((List ByteArray) × Hd))) rfl Splits.nil rfl (fun _ _ h => h) ?_
                show TO _ _ _ _ _ _ _ _ _ _ [cells b1 [.bool false] 4, cells b3 [.string p1.told_title, hd1.v, hd2.v, .string p1.source] 93, vec zal 36 6 hd1.v p1.told_lines, vec zaq 34 2 hd2.v p1.told_stanzas, zbU ((([] : List Nat) : List Nat).map zbJ), emp, za5 zac zab 93 v3 r8.1, za5 zac zab 93 v4 r9.1, za5 zac zab 93 v5 r10.1, emp, cells b8 [.string p2.told_title, hd3.v, hd4.v, .string p2.source] 93, vec zal 36 6 hd3.v p2.told_lines, vec zaq 34 2 hd4.v p2.told_stanzas, cells b9 [.string p3.told_title, hd5.v, hd6.v, .string p3.source] 93, vec zal 36 6 hd5.v p3.told_lines, vec zaq 34 2 hd6.v p3.told_stanzas, emp, emp, zb2 zat zau 48 1 (.slice (some ⟨b12, 0, none⟩) 2 2) ([([(⟨#[35, 32, 120]⟩ : ByteArray)] : List ByteArray), ([(⟨#[121]⟩ : ByteArray)] : List ByteArray)] : List (List ByteArray)), za5 zac zab 93 v7 r15.1, own zau ([(([] : List ByteArray), (⟨some ⟨b13, 0, none⟩, 0, 0⟩ : Hd))] : List ((List ByteArray) × Hd)), vec zat 48 1 (.slice (some ⟨b14, 0, none⟩) 1 1) ([(([] : List ByteArray), (⟨some ⟨b13, 0, none⟩, 0, 0⟩ : Hd))] : List ((List ByteArray) × Hd))]
                refine zeQ (k := 21) rfl (zak [20] kr rfl) rfl (zkv (enc := zat) (nest := zau) rfl) ?_
                show TO _ _ _ _ _ _ _ _ _ _ [cells b1 [.bool false] 4, cells b3 [.string p1.told_title, hd1.v, hd2.v, .string p1.source] 93, vec zal 36 6 hd1.v p1.told_lines, vec zaq 34 2 hd2.v p1.told_stanzas, zbU ((([] : List Nat) : List Nat).map zbJ), emp, za5 zac zab 93 v3 r8.1, za5 zac zab 93 v4 r9.1, za5 zac zab 93 v5 r10.1, emp, cells b8 [.string p2.told_title, hd3.v, hd4.v, .string p2.source] 93, vec zal 36 6 hd3.v p2.told_lines, vec zaq 34 2 hd4.v p2.told_stanzas, cells b9 [.string p3.told_title, hd5.v, hd6.v, .string p3.source] 93, vec zal 36 6 hd5.v p3.told_lines, vec zaq 34 2 hd6.v p3.told_stanzas, emp, emp, zb2 zat zau 48 1 (.slice (some ⟨b12, 0, none⟩) 2 2) ([([(⟨#[35, 32, 120]⟩ : ByteArray)] : List ByteArray), ([(⟨#[121]⟩ : ByteArray)] : List ByteArray)] : List (List ByteArray)), za5 zac zab 93 v7 r15.1, emp, zb2 zat zau 48 1 (.slice (some ⟨b14, 0, none⟩) 1 1) ([([] : List ByteArray)] : List (List ByteArray))]
                obtain ⟨r16, hq20, h⟩ := zbT h
                refine zcl (vs := [.string (⟨#[]⟩ : ByteArray), .slice (some ⟨b14, 0, none⟩) 1 1]) (Rd.nil : Rd _ _ []) rfl dc rfl rfl rfl zny (ze6 (nest := zau) (e := 48) (v := (.slice (some ⟨b14, 0, none⟩) 1 1)) (xs := ([([] : List ByteArray)] : List (List ByteArray))) (RD1 := []) (RD2 := []) zbl zc8 (fun zs_c0 hz_c0 hV_c0 => (zfF (vstanzas1 := (⟨some ⟨b14, 0, none⟩, 1, 1⟩ : Hd)) hV_c0 hz_c0 hq20))) Splits.nil (.own (zak [21] (by kernel_rfl) rfl) (fun _ _ h => sepL.one1.1 h) .nil) ?_
                rintro v8
                show TO _ _ _ _ _ _ _ _ _ _ [cells b1 [.bool false] 4, cells b3 [.string p1.told_title, hd1.v, hd2.v, .string p1.source] 93, vec zal 36 6 hd1.v p1.told_lines, vec zaq 34 2 hd2.v p1.told_stanzas, zbU ((([] : List Nat) : List Nat).map zbJ), emp, za5 zac zab 93 v3 r8.1, za5 zac zab 93 v4 r9.1, za5 zac zab 93 v5 r10.1, emp, cells b8 [.string p2.told_title, hd3.v, hd4.v, .string p2.source] 93, vec zal 36 6 hd3.v p2.told_lines, vec zaq 34 2 hd4.v p2.told_stanzas, cells b9 [.string p3.told_title, hd5.v, hd6.v, .string p3.source] 93, vec zal 36 6 hd5.v p3.told_lines, vec zaq 34 2 hd6.v p3.told_stanzas, emp, emp, zb2 zat zau 48 1 (.slice (some ⟨b12, 0, none⟩) 2 2) ([([(⟨#[35, 32, 120]⟩ : ByteArray)] : List ByteArray), ([(⟨#[121]⟩ : ByteArray)] : List ByteArray)] : List (List ByteArray)), za5 zac zab 93 v7 r15.1, emp, zb2 zat zau 48 1 (.slice (some ⟨b14, 0, none⟩) 1 1) ([([] : List ByteArray)] : List (List ByteArray)), za5 zac zab 93 v8 r16.1]
                refine zbf (L' := [cells b1 [.bool false] 4, cells b3 [.string p1.told_title, hd1.v, hd2.v, .string p1.source] 93, vec zal 36 6 hd1.v p1.told_lines, vec zaq 34 2 hd2.v p1.told_stanzas, zbU ((([] : List Nat) : List Nat).map zbJ), emp, za5 zac zab 93 v3 r8.1, za5 zac zab 93 v4 r9.1, za5 zac zab 93 v5 r10.1, emp, cells b8 [.string p2.told_title, hd3.v, hd4.v, .string p2.source] 93, vec zal 36 6 hd3.v p2.told_lines, vec zaq 34 2 hd4.v p2.told_stanzas, cells b9 [.string p3.told_title, hd5.v, hd6.v, .string p3.source] 93, vec zal 36 6 hd5.v p3.told_lines, vec zaq 34 2 hd6.v p3.told_stanzas, emp, emp, zb2 zat zau 48 1 (.slice (some ⟨b12, 0, none⟩) 2 2) ([([(⟨#[35, 32, 120]⟩ : ByteArray)] : List ByteArray), ([(⟨#[121]⟩ : ByteArray)] : List ByteArray)] : List (List ByteArray)), za5 zac zab 93 v7 r15.1, emp, zb2 zat zau 48 1 (.slice (some ⟨b14, 0, none⟩) 1 1) ([([] : List ByteArray)] : List (List ByteArray)), za5 zac zab 93 v8 r16.1]) (zak [0, 1, 2, 3, 4, 5, 6, 7, 8, 9, 10, 11, 12, 13, 14, 15, 16, 17, 18, 19, 20, 21, 22] kr rfl) (zag rfl dc rfl (zaL rfl dc rfl rfl (zaL rfl dc rfl rfl (zai rfl dc rfl (zan (zaf (zap (zad (znN (enc := zat) (nest := zau) (e := 48) (size := 1) ?_)))))))))
                show TO _ _ _ _ _ _ _ _ _ _ [cells b1 [.bool false] 4, cells b3 [.string p1.told_title, hd1.v, hd2.v, .string p1.source] 93, vec zal 36 6 hd1.v p1.told_lines, vec zaq 34 2 hd2.v p1.told_stanzas, zbU ((([] : List Nat) : List Nat).map zbJ), emp, za5 zac zab 93 v3 r8.1, za5 zac zab 93 v4 r9.1, za5 zac zab 93 v5 r10.1, emp, cells b8 [.string p2.told_title, hd3.v, hd4.v, .string p2.source] 93, vec zal 36 6 hd3.v p2.told_lines, vec zaq 34 2 hd4.v p2.told_stanzas, cells b9 [.string p3.told_title, hd5.v, hd6.v, .string p3.source] 93, vec zal 36 6 hd5.v p3.told_lines, vec zaq 34 2 hd6.v p3.told_stanzas, emp, emp, zb2 zat zau 48 1 (.slice (some ⟨b12, 0, none⟩) 2 2) ([([(⟨#[35, 32, 120]⟩ : ByteArray)] : List ByteArray), ([(⟨#[121]⟩ : ByteArray)] : List ByteArray)] : List (List ByteArray)), za5 zac zab 93 v7 r15.1, emp, zb2 zat zau 48 1 (.slice (some ⟨b14, 0, none⟩) 1 1) ([([] : List ByteArray)] : List (List ByteArray)), za5 zac zab 93 v8 r16.1, zb2 zat zau 48 1 (.slice none 0 0) ([] : List (List ByteArray))]
                obtain ⟨r17, hq21, h⟩ := zbT h
                refine zcl (vs := [.string (⟨#[97, 10]⟩ : ByteArray), .slice none 0 0]) (Rd.nil : Rd _ _ []) rfl dc rfl rfl rfl zny (ze6 (nest := zau) (e := 48) (v := (.slice none 0 0)) (xs := ([] : List (List ByteArray))) (RD1 := []) (RD2 := []) zbl zc8 (fun zs_c0 hz_c0 hV_c0 => (zfF (vstanzas1 := Hd.nil) hV_c0 hz_c0 hq21))) Splits.nil (.own (zak [23] (by kernel_rfl) rfl) (fun _ _ h => sepL.one1.1 h) .nil) ?_
                rintro v9
                show TO _ _ _ _ _ _ _ _ _ _ [cells b1 [.bool false] 4, cells b3 [.string p1.told_title, hd1.v, hd2.v, .string p1.source] 93, vec zal 36 6 hd1.v p1.told_lines, vec zaq 34 2 hd2.v p1.told_stanzas, zbU ((([] : List Nat) : List Nat).map zbJ), emp, za5 zac zab 93 v3 r8.1, za5 zac zab 93 v4 r9.1, za5 zac zab 93 v5 r10.1, emp, cells b8 [.string p2.told_title, hd3.v, hd4.v, .string p2.source] 93, vec zal 36 6 hd3.v p2.told_lines, vec zaq 34 2 hd4.v p2.told_stanzas, cells b9 [.string p3.told_title, hd5.v, hd6.v, .string p3.source] 93, vec zal 36 6 hd5.v p3.told_lines, vec zaq 34 2 hd6.v p3.told_stanzas, emp, emp, zb2 zat zau 48 1 (.slice (some ⟨b12, 0, none⟩) 2 2) ([([(⟨#[35, 32, 120]⟩ : ByteArray)] : List ByteArray), ([(⟨#[121]⟩ : ByteArray)] : List ByteArray)] : List (List ByteArray)), za5 zac zab 93 v7 r15.1, emp, zb2 zat zau 48 1 (.slice (some ⟨b14, 0, none⟩) 1 1) ([([] : List ByteArray)] : List (List ByteArray)), za5 zac zab 93 v8 r16.1, zb2 zat zau 48 1 (.slice none 0 0) ([] : List (List ByteArray)), za5 zac zab 93 v9 r17.1]
                refine zbf (L' := [cells b1 [.bool false] 4, cells b3 [.string p1.told_title, hd1.v, hd2.v, .string p1.source] 93, vec zal 36 6 hd1.v p1.told_lines, vec zaq 34 2 hd2.v p1.told_stanzas, zbU ((([] : List Nat) : List Nat).map zbJ), emp, za5 zac zab 93 v3 r8.1, za5 zac zab 93 v4 r9.1, za5 zac zab 93 v5 r10.1, emp, cells b8 [.string p2.told_title, hd3.v, hd4.v, .string p2.source] 93, vec zal 36 6 hd3.v p2.told_lines, vec zaq 34 2 hd4.v p2.told_stanzas, cells b9 [.string p3.told_title, hd5.v, hd6.v, .string p3.source] 93, vec zal 36 6 hd5.v p3.told_lines, vec zaq 34 2 hd6.v p3.told_stanzas, emp, emp, zb2 zat zau 48 1 (.slice (some ⟨b12, 0, none⟩) 2 2) ([([(⟨#[35, 32, 120]⟩ : ByteArray)] : List ByteArray), ([(⟨#[121]⟩ : ByteArray)] : List ByteArray)] : List (List ByteArray)), za5 zac zab 93 v7 r15.1, emp, zb2 zat zau 48 1 (.slice (some ⟨b14, 0, none⟩) 1 1) ([([] : List ByteArray)] : List (List ByteArray)), za5 zac zab 93 v8 r16.1, zb2 zat zau 48 1 (.slice none 0 0) ([] : List (List ByteArray)), za5 zac zab 93 v9 r17.1]) (zak [0, 1, 2, 3, 4, 5, 6, 7, 8, 9, 10, 11, 12, 13, 14, 15, 16, 17, 18, 19, 20, 21, 22, 23, 24] kr rfl) (zag rfl dc rfl (zaL rfl dc rfl rfl (zaL rfl dc rfl rfl (zai rfl dc rfl (zan (zaf (zap (zad ?_))))))))
                obtain ⟨r18, hq22, h⟩ := zbT h
                refine zcr (vs := [.string (⟨#[]⟩ : ByteArray)]) rfl dc rfl rfl rfl zms (zeI hq22) Splits.nil ?_
                rintro v10
                show TO _ _ _ _ _ _ _ _ _ _ [cells b1 [.bool false] 4, cells b3 [.string p1.told_title, hd1.v, hd2.v, .string p1.source] 93, vec zal 36 6 hd1.v p1.told_lines, vec zaq 34 2 hd2.v p1.told_stanzas, zbU ((([] : List Nat) : List Nat).map zbJ), emp, za5 zac zab 93 v3 r8.1, za5 zac zab 93 v4 r9.1, za5 zac zab 93 v5 r10.1, emp, cells b8 [.string p2.told_title, hd3.v, hd4.v, .string p2.source] 93, vec zal 36 6 hd3.v p2.told_lines, vec zaq 34 2 hd4.v p2.told_stanzas, cells b9 [.string p3.told_title, hd5.v, hd6.v, .string p3.source] 93, vec zal 36 6 hd5.v p3.told_lines, vec zaq 34 2 hd6.v p3.told_stanzas, emp, emp, zb2 zat zau 48 1 (.slice (some ⟨b12, 0, none⟩) 2 2) ([([(⟨#[35, 32, 120]⟩ : ByteArray)] : List ByteArray), ([(⟨#[121]⟩ : ByteArray)] : List ByteArray)] : List (List ByteArray)), za5 zac zab 93 v7 r15.1, emp, zb2 zat zau 48 1 (.slice (some ⟨b14, 0, none⟩) 1 1) ([([] : List ByteArray)] : List (List ByteArray)), za5 zac zab 93 v8 r16.1, zb2 zat zau 48 1 (.slice none 0 0) ([] : List (List ByteArray)), za5 zac zab 93 v9 r17.1, za5 zac zab 93 v10 r18.1]
                refine zbf (L' := [cells b1 [.bool false] 4, cells b3 [.string p1.told_title, hd1.v, hd2.v, .string p1.source] 93, vec zal 36 6 hd1.v p1.told_lines, vec zaq 34 2 hd2.v p1.told_stanzas, zbU ((([] : List Nat) : List Nat).map zbJ), emp, za5 zac zab 93 v3 r8.1, za5 zac zab 93 v4 r9.1, za5 zac zab 93 v5 r10.1, emp, cells b8 [.string p2.told_title, hd3.v, hd4.v, .string p2.source] 93, vec zal 36 6 hd3.v p2.told_lines, vec zaq 34 2 hd4.v p2.told_stanzas, cells b9 [.string p3.told_title, hd5.v, hd6.v, .string p3.source] 93, vec zal 36 6 hd5.v p3.told_lines, vec zaq 34 2 hd6.v p3.told_stanzas, emp, emp, zb2 zat zau 48 1 (.slice (some ⟨b12, 0, none⟩) 2 2) ([([(⟨#[35, 32, 120]⟩ : ByteArray)] : List ByteArray), ([(⟨#[121]⟩ : ByteArray)] : List ByteArray)] : List (List ByteArray)), za5 zac zab 93 v7 r15.1, emp, zb2 zat zau 48 1 (.slice (some ⟨b14, 0, none⟩) 1 1) ([([] : List ByteArray)] : List (List ByteArray)), za5 zac zab 93 v8 r16.1, zb2 zat zau 48 1 (.slice none 0 0) ([] : List (List ByteArray)), za5 zac zab 93 v9 r17.1, za5 zac zab 93 v10 r18.1]) (zak [0, 1, 2, 3, 4, 5, 6, 7, 8, 9, 10, 11, 12, 13, 14, 15, 16, 17, 18, 19, 20, 21, 22, 23, 24, 25] kr rfl) (zag rfl dc rfl (zaL rfl dc rfl rfl (zaL rfl dc rfl rfl ?_)))
                refine zbe zk6 rfl dc (fun b15 => ?_)
                refine zai rfl dc rfl (za8 (k := 26) (vs := [zI r18.2.Err, zI r18.2.At]) (l' := [zI r18.2.Err, zI r18.2.At]) ziy rfl rfl rfl rfl rfl (show _ ≤ _ by simp) rfl rfl ?_)
                show TO _ _ _ _ _ _ _ _ _ _ [cells b1 [.bool false] 4, cells b3 [.string p1.told_title, hd1.v, hd2.v, .string p1.source] 93, vec zal 36 6 hd1.v p1.told_lines, vec zaq 34 2 hd2.v p1.told_stanzas, zbU ((([] : List Nat) : List Nat).map zbJ), emp, za5 zac zab 93 v3 r8.1, za5 zac zab 93 v4 r9.1, za5 zac zab 93 v5 r10.1, emp, cells b8 [.string p2.told_title, hd3.v, hd4.v, .string p2.source] 93, vec zal 36 6 hd3.v p2.told_lines, vec zaq 34 2 hd4.v p2.told_stanzas, cells b9 [.string p3.told_title, hd5.v, hd6.v, .string p3.source] 93, vec zal 36 6 hd5.v p3.told_lines, vec zaq 34 2 hd6.v p3.told_stanzas, emp, emp, zb2 zat zau 48 1 (.slice (some ⟨b12, 0, none⟩) 2 2) ([([(⟨#[35, 32, 120]⟩ : ByteArray)] : List ByteArray), ([(⟨#[121]⟩ : ByteArray)] : List ByteArray)] : List (List ByteArray)), za5 zac zab 93 v7 r15.1, emp, zb2 zat zau 48 1 (.slice (some ⟨b14, 0, none⟩) 1 1) ([([] : List ByteArray)] : List (List ByteArray)), za5 zac zab 93 v8 r16.1, zb2 zat zau 48 1 (.slice none 0 0) ([] : List (List ByteArray)), za5 zac zab 93 v9 r17.1, za5 zac zab 93 v10 r18.1, cells b15 [zI r18.2.Err, zI r18.2.At] 26]
                refine zan (zaf (zap (zap (zad (zag rfl dc rfl (zaz rfl dc rfl rfl zbk (zag rfl dc rfl ?_)))))))
                refine zaV (s := 185) rfl (fun hb19 => ?_) (fun hb19 => ?_)
                ·
                 have h := za6 hb19 h
                 refine zae rfl dc (zae rfl dc (zae rfl dc (zas (b := true) rfl dc rfl rfl (zag rfl dc rfl (zae rfl dc (zae rfl dc (zas (b := true) rfl dc rfl rfl (zag rfl dc rfl (zae rfl dc (zae rfl dc (zas (b := true) rfl dc rfl rfl (zag rfl dc rfl (zae rfl dc ?_)))))))))))))
                 refine zae rfl dc (zae rfl dc (zas (b := true) rfl dc rfl rfl (zag rfl dc rfl (zae rfl dc (zae rfl dc (zae rfl dc (zas (b := true) rfl dc rfl rfl (zag rfl dc rfl (zae rfl dc (zae rfl dc (zae rfl dc (zas (b := true) rfl dc rfl rfl (zag rfl dc rfl ?_)))))))))))))
                 refine zae rfl dc (zae rfl dc (zae rfl dc (zas (b := true) rfl dc rfl rfl (zag rfl dc rfl (zae rfl dc (zae rfl dc (zae rfl dc (zas (b := true) rfl dc rfl rfl (zan (zaf (zaY rfl (zap (zad ?_)))))))))))))
                 refine zaN (k := 0) (l' := [.bool false]) zeX rfl rfl rfl rfl rfl (fun _ _ => rfl) rfl ?_
                 refine zan (zaf (zaE (zav ?_)))
                 cases h
                 exact zbm (rs := [.cell 0 4]) ([] : List Nat) () (.inl rfl) (zaU (k := 4) rfl) Tryd.results11 (.cons (.cell zeD (k := 0) rfl rfl) .nil) rfl Splits.nil
                ·
                 have h := za7 hb19 h
                 refine zag rfl dc rfl ?_
                 obtain ⟨p4, hq23, h⟩ := zbT h
                 refine zfR (As := [za5 zac zab 93 v7 r15.1]) (zak [19] kr rfl) (zcT hq23) ?_
                 rintro ⟨b16, hd7, hd8⟩ hv4
                 subst hv4
                 show TO _ _ _ _ _ _ _ _ _ _ [cells b1 [.bool false] 4, cells b3 [.string p1.told_title, hd1.v, hd2.v, .string p1.source] 93, vec zal 36 6 hd1.v p1.told_lines, vec zaq 34 2 hd2.v p1.told_stanzas, zbU ((([] : List Nat) : List Nat).map zbJ), emp, za5 zac zab 93 v3 r8.1, za5 zac zab 93 v4 r9.1, za5 zac zab 93 v5 r10.1, emp, cells b8 [.string p2.told_title, hd3.v, hd4.v, .string p2.source] 93, vec zal 36 6 hd3.v p2.told_lines, vec zaq 34 2 hd4.v p2.told_stanzas, cells b9 [.string p3.told_title, hd5.v, hd6.v, .string p3.source] 93, vec zal 36 6 hd5.v p3.told_lines, vec zaq 34 2 hd6.v p3.told_stanzas, emp, emp, zb2 zat zau 48 1 (.slice (some ⟨b12, 0, none⟩) 2 2) ([([(⟨#[35, 32, 120]⟩ : ByteArray)] : List ByteArray), ([(⟨#[121]⟩ : ByteArray)] : List ByteArray)] : List (List ByteArray)), emp, emp, zb2 zat zau 48 1 (.slice (some ⟨b14, 0, none⟩) 1 1) ([([] : List ByteArray)] : List (List ByteArray)), za5 zac zab 93 v8 r16.1, zb2 zat zau 48 1 (.slice none 0 0) ([] : List (List ByteArray)), za5 zac zab 93 v9 r17.1, za5 zac zab 93 v10 r18.1, cells b15 [zI r18.2.Err, zI r18.2.At] 26, cells b16 [.string p4.told_title, hd7.v, hd8.v, .string p4.source] 93, vec zal 36 6 hd7.v p4.told_lines, vec zaq 34 2 hd8.v p4.told_stanzas]
                 obtain ⟨r19, hq24, h⟩ := zbT h
                 refine zbB (v := .string r19) (vs := [zP b16]) (Rd.nil : Rd _ _ []) rfl dc rfl rfl rfl zkW (zcy (bp1 := b16) (p1 := p4) (p1_h0 := hd7) (p1_h1 := hd8) hq24) (.own (zak [27] (by kernel_rfl) rfl) (fun _ _ h => sepL.one1.1 h) (.own (zak [28] (by kernel_rfl) rfl) (fun _ _ h => sepL.one1.1 h) (.own (zak [29] (by kernel_rfl) rfl) (fun _ _ h => sepL.one1.1 h) .nil))) ?_
                 refine zaz rfl dc rfl rfl zdJ (zas (b := false) rfl dc rfl rfl (zag rfl dc rfl ?_))
                 refine zaV (s := 190) rfl (fun hb20 => ?_) (fun hb20 => ?_)
                 ·
                  have h := za6 hb20 h
                  refine zae rfl dc (zae rfl dc (zas (b := true) rfl dc rfl rfl (zag rfl dc rfl (zae rfl dc (zae rfl dc (zas (b := true) rfl dc rfl rfl (zag rfl dc rfl (zae rfl dc (zae rfl dc (zae rfl dc (zas (b := true) rfl dc rfl rfl (zag rfl dc rfl (zae rfl dc ?_)))))))))))))
                  refine zae rfl dc (zae rfl dc (zas (b := true) rfl dc rfl rfl (zag rfl dc rfl (zae rfl dc (zae rfl dc (zae rfl dc (zas (b := true) rfl dc rfl rfl (zag rfl dc rfl (zae rfl dc (zae rfl dc (zae rfl dc (zas (b := true) rfl dc rfl rfl (zag rfl dc rfl ?_)))))))))))))
                  refine zae rfl dc (zae rfl dc (zae rfl dc (zas (b := true) rfl dc rfl rfl (zan (zaf (zaY rfl (zap (zad ?_))))))))
                  refine zaN (k := 0) (l' := [.bool false]) zeX rfl rfl rfl rfl rfl (fun _ _ => rfl) rfl ?_
                  refine zan (zaf (zaE (zav ?_)))
                  cases h
                  exact zbm (rs := [.cell 0 4]) ([] : List Nat) () (.inl rfl) (zaU (k := 4) rfl) Tryd.results11 (.cons (.cell zeD (k := 0) rfl rfl) .nil) rfl Splits.nil
                 ·
                  have h := za7 hb20 h
                  refine zag rfl dc rfl (zaz rfl dc rfl rfl zbk (zas (b := false) rfl dc rfl rfl (zag rfl dc rfl ?_)))
                  refine zaV (s := 194) rfl (fun hb21 => ?_) (fun hb21 => ?_)
                  ·
                   have h := za6 hb21 h
                   refine zae rfl dc (zae rfl dc (zas (b := true) rfl dc rfl rfl (zag rfl dc rfl (zae rfl dc (zae rfl dc (zae rfl dc (zas (b := true) rfl dc rfl rfl (zag rfl dc rfl (zae rfl dc (zae rfl dc (zae rfl dc (zas (b := true) rfl dc rfl rfl (zag rfl dc rfl ?_)))))))))))))
                   refine zae rfl dc (zae rfl dc (zae rfl dc (zas (b := true) rfl dc rfl rfl (zag rfl dc rfl (zae rfl dc (zae rfl dc (zae rfl dc (zas (b := true) rfl dc rfl rfl (zag rfl dc rfl (zae rfl dc (zae rfl dc (zae rfl dc (zas (b := true) rfl dc rfl rfl ?_)))))))))))))
                   refine zan (zaf (zaY rfl (zap (zad ?_))))
                   refine zaN (k := 0) (l' := [.bool false]) zeX rfl rfl rfl rfl rfl (fun _ _ => rfl) rfl ?_
                   refine zan (zaf (zaE (zav ?_)))
                   cases h
                   exact zbm (rs := [.cell 0 4]) ([] : List Nat) () (.inl rfl) (zaU (k := 4) rfl) Tryd.results11 (.cons (.cell zeD (k := 0) rfl rfl) .nil) rfl Splits.nil
                  ·
                   have h := za7 hb21 h
                   refine zag rfl dc rfl (zaz rfl dc rfl rfl zbk (zas (b := false) rfl dc rfl rfl (zag rfl dc rfl ?_)))
                   refine zaV (s := 198) rfl (fun hb22 => ?_) (fun hb22 => ?_)
                   ·
                    have h := za6 hb22 h
                    refine zae rfl dc (zae rfl dc (zae rfl dc (zas (b := true) rfl dc rfl rfl (zag rfl dc rfl (zae rfl dc (zae rfl dc (zae rfl dc (zas (b := true) rfl dc rfl rfl (zag rfl dc rfl (zae rfl dc (zae rfl dc (zae rfl dc (zas (b := true) rfl dc rfl rfl ?_)))))))))))))
                    refine zag rfl dc rfl (zae rfl dc (zae rfl dc (zae rfl dc (zas (b := true) rfl dc rfl rfl (zag rfl dc rfl (zae rfl dc (zae rfl dc (zae rfl dc (zas (b := true) rfl dc rfl rfl (zan (zaf (zaY rfl (zap ?_)))))))))))))
                    refine zad ?_
                    refine zaN (k := 0) (l' := [.bool false]) zeX rfl rfl rfl rfl rfl (fun _ _ => rfl) rfl ?_
                    refine zan (zaf (zaE (zav ?_)))
                    cases h
                    exact zbm (rs := [.cell 0 4]) ([] : List Nat) () (.inl rfl) (zaU (k := 4) rfl) Tryd.results11 (.cons (.cell zeD (k := 0) rfl rfl) .nil) rfl Splits.nil
                   ·
                    have h := za7 hb22 h
                    refine zbb (k := 26) (cs := [zI r18.2.Err, zI r18.2.At]) zjG rfl dc rfl rfl rfl rfl ?_
                    refine zba (v := .agg #[zI 0, zI 0]) (ps := []) rfl dc rfl (fun _ => by kernel_rfl) ?_
                    refine zaz rfl dc rfl rfl (zin r18.2 (⟨0, 0⟩ : Gapi_Spot)) (zas (b := false) rfl dc rfl rfl (zag rfl dc rfl ?_))
                    refine zaV (s := 203) rfl (fun hb23 => ?_) (fun hb23 => ?_)
                    ·
                     have h := za6 hb23 h
                     refine zae rfl dc (zae rfl dc (zae rfl dc (zas (b := true) rfl dc rfl rfl (zag rfl dc rfl (zae rfl dc (zae rfl dc (zae rfl dc (zas (b := true) rfl dc rfl rfl (zag rfl dc rfl (zae rfl dc (zae rfl dc (zae rfl dc (zas (b := true) rfl dc rfl rfl ?_)))))))))))))
                     refine zag rfl dc rfl (zae rfl dc (zae rfl dc (zae rfl dc (zas (b := true) rfl dc rfl rfl (zan (zaf (zaY rfl (zap (zad ?_)))))))))
                     refine zaN (k := 0) (l' := [.bool false]) zeX rfl rfl rfl rfl rfl (fun _ _ => rfl) rfl ?_
                     refine zan (zaf (zaE (zav ?_)))
                     cases h
                     exact zbm (rs := [.cell 0 4]) ([] : List Nat) () (.inl rfl) (zaU (k := 4) rfl) Tryd.results11 (.cons (.cell zeD (k := 0) rfl rfl) .nil) rfl Splits.nil
                    ·
                     have h := za7 hb23 h
                     refine zag rfl dc rfl ?_
                     obtain ⟨p5, hq25, h⟩ := zbT h
                     refine zfR (As := [za5 zac zab 93 v10 r18.1]) (zak [25] kr rfl) (zcT hq25) ?_
                     rintro ⟨b17, hd9, hd10⟩ hv5
                     subst hv5
                     show TO _ _ _ _ _ _ _ _ _ _ [cells b1 [.bool false] 4, cells b3 [.string p1.told_title, hd1.v, hd2.v, .string p1.source] 93, vec zal 36 6 hd1.v p1.told_lines, vec zaq 34 2 hd2.v p1.told_stanzas, zbU ((([] : List Nat) : List Nat).map zbJ), emp, za5 zac zab 93 v3 r8.1, za5 zac zab 93 v4 r9.1, za5 zac zab 93 v5 r10.1, emp, cells b8 [.string p2.told_title, hd3.v, hd4.v, .string p2.source] 93, vec zal 36 6 hd3.v p2.told_lines, vec zaq 34 2 hd4.v p2.told_stanzas, cells b9 [.string p3.told_title, hd5.v, hd6.v, .string p3.source] 93, vec zal 36 6 hd5.v p3.told_lines, vec zaq 34 2 hd6.v p3.told_stanzas, emp, emp, zb2 zat zau 48 1 (.slice (some ⟨b12, 0, none⟩) 2 2) ([([(⟨#[35, 32, 120]⟩ : ByteArray)] : List ByteArray), ([(⟨#[121]⟩ : ByteArray)] : List ByteArray)] : List (List ByteArray)), emp, emp, zb2 zat zau 48 1 (.slice (some ⟨b14, 0, none⟩) 1 1) ([([] : List ByteArray)] : List (List ByteArray)), za5 zac zab 93 v8 r16.1, zb2 zat zau 48 1 (.slice none 0 0) ([] : List (List ByteArray)), za5 zac zab 93 v9 r17.1, emp, cells b15 [zI r18.2.Err, zI r18.2.At] 26, cells b16 [.string p4.told_title, hd7.v, hd8.v, .string p4.source] 93, vec zal 36 6 hd7.v p4.told_lines, vec zaq 34 2 hd8.v p4.told_stanzas, cells b17 [.string p5.told_title, hd9.v, hd10.v, .string p5.source] 93, vec zal 36 6 hd9.v p5.told_lines, vec zaq 34 2 hd10.v p5.told_stanzas]
                     obtain ⟨r20, hq26, h⟩ := zbT h
                     refine zbB (v := zI r20) (vs := [zP b17]) (Rd.nil : Rd _ _ []) rfl dc rfl rfl rfl zmq (zdU (bp1 := b17) (p1 := p5) (p1_h0 := hd9) (p1_h1 := hd10) hq26) (.own (zak [30] (by kernel_rfl) rfl) (fun _ _ h => sepL.one1.1 h) (.own (zak [31] (by kernel_rfl) rfl) (fun _ _ h => sepL.one1.1 h) (.own (zak [32] (by kernel_rfl) rfl) (fun _ _ h => sepL.one1.1 h) .nil))) ?_
                     refine zaz rfl dc rfl rfl zbk (zas (b := false) rfl dc rfl rfl (zag rfl dc rfl ?_))
                     refine zaV (s := 208) rfl (fun hb24 => ?_) (fun hb24 => ?_)
                     ·
                      have h := za6 hb24 h
                      refine zae rfl dc (zae rfl dc (zae rfl dc (zas (b := true) rfl dc rfl rfl (zag rfl dc rfl (zae rfl dc (zae rfl dc (zae rfl dc (zas (b := true) rfl dc rfl rfl (zag rfl dc rfl (zae rfl dc (zae rfl dc (zae rfl dc (zas (b := true) rfl dc rfl rfl ?_)))))))))))))
                      refine zan (zaf (zaY rfl (zap (zad ?_))))
                      refine zaN (k := 0) (l' := [.bool false]) zeX rfl rfl rfl rfl rfl (fun _ _ => rfl) rfl ?_
                      refine zan (zaf (zaE (zav ?_)))
                      cases h
                      exact zbm (rs := [.cell 0 4]) ([] : List Nat) () (.inl rfl) (zaU (k := 4) rfl) Tryd.results11 (.cons (.cell zeD (k := 0) rfl rfl) .nil) rfl Splits.nil
                     ·
                      have h := za7 hb24 h
                      refine zag rfl dc rfl ?_
                      obtain ⟨r21, hq27, h⟩ := zbT h
                      refine zbB (v := zI r21) (vs := [zP b17]) (Rd.nil : Rd _ _ []) rfl dc rfl rfl rfl zmp (zdz (bp1 := b17) (p1 := p5) (p1_h0 := hd9) (p1_h1 := hd10) hq27) (.own (zak [30] (by kernel_rfl) rfl) (fun _ _ h => sepL.one1.1 h) (.own (zak [31] (by kernel_rfl) rfl) (fun _ _ h => sepL.one1.1 h) (.own (zak [32] (by kernel_rfl) rfl) (fun _ _ h => sepL.one1.1 h) .nil))) ?_
                      refine zaz rfl dc rfl rfl zbk (zas (b := false) rfl dc rfl rfl (zag rfl dc rfl ?_))
                      refine zaV (s := 213) rfl (fun hb25 => ?_) (fun hb25 => ?_)
                      ·
                       have h := za6 hb25 h
                       refine zae rfl dc (zae rfl dc (zae rfl dc (zas (b := true) rfl dc rfl rfl (zag rfl dc rfl (zae rfl dc (zae rfl dc (zae rfl dc (zas (b := true) rfl dc rfl rfl (zan (zaf (zaY rfl (zap (zad ?_)))))))))))))
                       refine zaN (k := 0) (l' := [.bool false]) zeX rfl rfl rfl rfl rfl (fun _ _ => rfl) rfl ?_
                       refine zan (zaf (zaE (zav ?_)))
                       cases h
                       exact zbm (rs := [.cell 0 4]) ([] : List Nat) () (.inl rfl) (zaU (k := 4) rfl) Tryd.results11 (.cons (.cell zeD (k := 0) rfl rfl) .nil) rfl Splits.nil
                      ·
                       have h := za7 hb25 h
                       refine zag rfl dc rfl ?_
                       obtain ⟨r22, hq28, h⟩ := zbT h
                       refine zbB (v := .string r22) (vs := [zP b17]) (Rd.nil : Rd _ _ []) rfl dc rfl rfl rfl znA (zeJ (bp1 := b17) (p1 := p5) (p1_h0 := hd9) (p1_h1 := hd10) hq28) (.own (zak [30] (by kernel_rfl) rfl) (fun _ _ h => sepL.one1.1 h) (.own (zak [31] (by kernel_rfl) rfl) (fun _ _ h => sepL.one1.1 h) (.own (zak [32] (by kernel_rfl) rfl) (fun _ _ h => sepL.one1.1 h) .nil))) ?_
                       refine zaz rfl dc rfl rfl zdJ (zas (b := false) rfl dc rfl rfl (zag rfl dc rfl ?_))
                       refine zaV (s := 218) rfl (fun hb26 => ?_) (fun hb26 => ?_)
                       ·
                        have h := za6 hb26 h
                        refine zae rfl dc (zae rfl dc (zae rfl dc (zas (b := true) rfl dc rfl rfl (zan (zaf (zaY rfl (zap (zad ?_))))))))
                        refine zaN (k := 0) (l' := [.bool false]) zeX rfl rfl rfl rfl rfl (fun _ _ => rfl) rfl ?_
                        refine zan (zaf (zaE (zav ?_)))
                        cases h
                        exact zbm (rs := [.cell 0 4]) ([] : List Nat) () (.inl rfl) (zaU (k := 4) rfl) Tryd.results11 (.cons (.cell zeD (k := 0) rfl rfl) .nil) rfl Splits.nil
                       ·
                        have h := za7 hb26 h
                        refine zag rfl dc rfl ?_
                        obtain ⟨r23, hq29, h⟩ := zbT h
                        refine zbB (v := .string r23) (vs := [zP b17]) (Rd.nil : Rd _ _ []) rfl dc rfl rfl rfl zkW (zcy (bp1 := b17) (p1 := p5) (p1_h0 := hd9) (p1_h1 := hd10) hq29) (.own (zak [30] (by kernel_rfl) rfl) (fun _ _ h => sepL.one1.1 h) (.own (zak [31] (by kernel_rfl) rfl) (fun _ _ h => sepL.one1.1 h) (.own (zak [32] (by kernel_rfl) rfl) (fun _ _ h => sepL.one1.1 h) .nil))) ?_
                        refine zaz rfl dc rfl rfl zdJ (zas (b := false) rfl dc rfl rfl (zan (zaf ?_)))
                        refine zaF rfl (fun hb27 => ?_) (fun hb27 => ?_)
                        ·
                         have h := za6 hb27 h
                         refine zap (zad ?_)
                         refine zaN (k := 0) (l' := [.bool false]) zeX rfl rfl rfl rfl rfl (fun _ _ => rfl) rfl ?_
                         refine zan (zaf (zaE (zav ?_)))
                         cases h
                         exact zbm (rs := [.cell 0 4]) ([] : List Nat) () (.inl rfl) (zaU (k := 4) rfl) Tryd.results11 (.cons (.cell zeD (k := 0) rfl rfl) .nil) rfl Splits.nil
                        ·
                         have h := za7 hb27 h
                         refine zaI (zaf ?_)
                         obtain ⟨j2, hj2, h⟩ := zcH h
                         refine zbN (β := Int × Int × Int × Int × Int × Int × Int × (List Nat)) 8 rfl (fun b => j2 b.1 b.2.1 b.2.2.1 b.2.2.2.1 b.2.2.2.2.1 b.2.2.2.2.2.1 b.2.2.2.2.2.2.1 = some r) (fun b => zdq b.2.2.2.2.2.2.2) (fun b => [(0, zP b1), (1, zP b3), (4, zI b.1), (6, zI b.2.1), (14, zI b.2.2.1), (16, zI b.2.2.2.1), (18, zI b.2.2.2.2.1), (22, .pointer none), (24, zI b.2.2.2.2.2.1), (26, zI b.2.2.2.2.2.2.1)]) (fun b => [cells b1 [.bool false] 4, cells b3 [.string p1.told_title, hd1.v, hd2.v, .string p1.source] 93, vec zal 36 6 hd1.v p1.told_lines, vec zaq 34 2 hd2.v p1.told_stanzas, zbU ((b.2.2.2.2.2.2.2 : List Nat).map zbJ)]) (fun cut => ?_) ?_
                         ·
                          refine zap (zad (zai rfl dc rfl (zan (zaf (zap (zad (zag rfl dc rfl ?_)))))))
                          obtain ⟨r24, hq30, h⟩ := zbT h
                          refine za9 (v := .tuple #[.agg #[.string r24.1.Text, zI r24.1.Indent, zI r24.1.Stanza, zI r24.1.In, zI r24.1.Span_From, zI r24.1.Span_To], zI r24.2]) (vs := [.pointer none, zI 0]) rfl dc rfl rfl rfl znz (zfC hq30) (zag rfl dc rfl (zaL rfl dc rfl rfl (zaL rfl dc rfl rfl (zai rfl dc rfl (zan (zaf (zap (zad (zag rfl dc rfl ?_)))))))))
                          obtain ⟨r25, hq31, h⟩ := zbT h
                          refine za9 (v := .tuple #[.agg #[zI r25.1.From, zI r25.1.To], zI r25.2]) (vs := [.pointer none, zI 0]) rfl dc rfl rfl rfl zpn (zfa hq31) (zag rfl dc rfl (zaL rfl dc rfl rfl (zaL rfl dc rfl rfl (zai rfl dc rfl (zan (zaf (zap (zad (zag rfl dc rfl ?_)))))))))
                          obtain ⟨r26, hq32, h⟩ := zbT h
                          refine za9 (v := .tuple #[zI r26.1, zI r26.2.1, zI r26.2.2]) (vs := [.pointer none, zI 0]) rfl dc rfl rfl rfl zov (zfE hq32) (zag rfl dc rfl (zaL rfl dc rfl rfl (zaL rfl dc rfl rfl (zaL rfl dc rfl rfl (zai rfl dc rfl (zan (zaf (zap (zad (zag rfl dc rfl ?_))))))))))
                          obtain ⟨r27, hq33, h⟩ := zbT h
                          refine zcr (vs := [.pointer none, zI 0, .string (⟨#[120]⟩ : ByteArray)]) rfl dc rfl rfl rfl zkV (zf1 hq33) Splits.nil ?_
                          rintro v11
                          show TO _ _ _ _ _ _ _ _ _ _ [cells b1 [.bool false] 4, cells b3 [.string p1.told_title, hd1.v, hd2.v, .string p1.source] 93, vec zal 36 6 hd1.v p1.told_lines, vec zaq 34 2 hd2.v p1.told_stanzas, zbU ((([] : List Nat) : List Nat).map zbJ), emp, za5 zac zab 93 v3 r8.1, za5 zac zab 93 v4 r9.1, za5 zac zab 93 v5 r10.1, emp, cells b8 [.string p2.told_title, hd3.v, hd4.v, .string p2.source] 93, vec zal 36 6 hd3.v p2.told_lines, vec zaq 34 2 hd4.v p2.told_stanzas, cells b9 [.string p3.told_title, hd5.v, hd6.v, .string p3.source] 93, vec zal 36 6 hd5.v p3.told_lines, vec zaq 34 2 hd6.v p3.told_stanzas, emp, emp, zb2 zat zau 48 1 (.slice (some ⟨b12, 0, none⟩) 2 2) ([([(⟨#[35, 32, 120]⟩ : ByteArray)] : List ByteArray), ([(⟨#[121]⟩ : ByteArray)] : List ByteArray)] : List (List ByteArray)), emp, emp, zb2 zat zau 48 1 (.slice (some ⟨b14, 0, none⟩) 1 1) ([([] : List ByteArray)] : List (List ByteArray)), za5 zac zab 93 v8 r16.1, zb2 zat zau 48 1 (.slice none 0 0) ([] : List (List ByteArray)), za5 zac zab 93 v9 r17.1, emp, cells b15 [zI r18.2.Err, zI r18.2.At] 26, cells b16 [.string p4.told_title, hd7.v, hd8.v, .string p4.source] 93, vec zal 36 6 hd7.v p4.told_lines, vec zaq 34 2 hd8.v p4.told_stanzas, cells b17 [.string p5.told_title, hd9.v, hd10.v, .string p5.source] 93, vec zal 36 6 hd9.v p5.told_lines, vec zaq 34 2 hd10.v p5.told_stanzas, za5 zac zab 93 v11 r27.1]
                          refine zbf (L' := [cells b1 [.bool false] 4, cells b3 [.string p1.told_title, hd1.v, hd2.v, .string p1.source] 93, vec zal 36 6 hd1.v p1.told_lines, vec zaq 34 2 hd2.v p1.told_stanzas, zbU ((([] : List Nat) : List Nat).map zbJ), emp, za5 zac zab 93 v3 r8.1, za5 zac zab 93 v4 r9.1, za5 zac zab 93 v5 r10.1, emp, cells b8 [.string p2.told_title, hd3.v, hd4.v, .string p2.source] 93, vec zal 36 6 hd3.v p2.told_lines, vec zaq 34 2 hd4.v p2.told_stanzas, cells b9 [.string p3.told_title, hd5.v, hd6.v, .string p3.source] 93, vec zal 36 6 hd5.v p3.told_lines, vec zaq 34 2 hd6.v p3.told_stanzas, emp, emp, zb2 zat zau 48 1 (.slice (some ⟨b12, 0, none⟩) 2 2) ([([(⟨#[35, 32, 120]⟩ : ByteArray)] : List ByteArray), ([(⟨#[121]⟩ : ByteArray)] : List ByteArray)] : List (List ByteArray)), emp, emp, zb2 zat zau 48 1 (.slice (some ⟨b14, 0, none⟩) 1 1) ([([] : List ByteArray)] : List (List ByteArray)), za5 zac zab 93 v8 r16.1, zb2 zat zau 48 1 (.slice none 0 0) ([] : List (List ByteArray)), za5 zac zab 93 v9 r17.1, emp, cells b15 [zI r18.2.Err, zI r18.2.At] 26, cells b16 [.string p4.told_title, hd7.v, hd8.v, .string p4.source] 93, vec zal 36 6 hd7.v p4.told_lines, vec zaq 34 2 hd8.v p4.told_stanzas, cells b17 [.string p5.told_title, hd9.v, hd10.v, .string p5.source] 93, vec zal 36 6 hd9.v p5.told_lines, vec zaq 34 2 hd10.v p5.told_stanzas, za5 zac zab 93 v11 r27.1]) (zak [0, 1, 2, 3, 4, 5, 6, 7, 8, 9, 10, 11, 12, 13, 14, 15, 16, 17, 18, 19, 20, 21, 22, 23, 24, 25, 26, 27, 28, 29, 30, 31, 32, 33] kr rfl) (zag rfl dc rfl (zaL rfl dc rfl rfl (zaL rfl dc rfl rfl (zai rfl dc rfl (zan (zaf (zap (zad (zag rfl dc rfl ?_)))))))))
                          obtain ⟨r28, hq34, h⟩ := zbT h
                          refine zcr (vs := [.pointer none, zI 0, zI 0]) rfl dc rfl rfl rfl zow (zf2 hq34) Splits.nil ?_
                          rintro v12
                          show TO _ _ _ _ _ _ _ _ _ _ [cells b1 [.bool false] 4, cells b3 [.string p1.told_title, hd1.v, hd2.v, .string p1.source] 93, vec zal 36 6 hd1.v p1.told_lines, vec zaq 34 2 hd2.v p1.told_stanzas, zbU ((([] : List Nat) : List Nat).map zbJ), emp, za5 zac zab 93 v3 r8.1, za5 zac zab 93 v4 r9.1, za5 zac zab 93 v5 r10.1, emp, cells b8 [.string p2.told_title, hd3.v, hd4.v, .string p2.source] 93, vec zal 36 6 hd3.v p2.told_lines, vec zaq 34 2 hd4.v p2.told_stanzas, cells b9 [.string p3.told_title, hd5.v, hd6.v, .string p3.source] 93, vec zal 36 6 hd5.v p3.told_lines, vec zaq 34 2 hd6.v p3.told_stanzas, emp, emp, zb2 zat zau 48 1 (.slice (some ⟨b12, 0, none⟩) 2 2) ([([(⟨#[35, 32, 120]⟩ : ByteArray)] : List ByteArray), ([(⟨#[121]⟩ : ByteArray)] : List ByteArray)] : List (List ByteArray)), emp, emp, zb2 zat zau 48 1 (.slice (some ⟨b14, 0, none⟩) 1 1) ([([] : List ByteArray)] : List (List ByteArray)), za5 zac zab 93 v8 r16.1, zb2 zat zau 48 1 (.slice none 0 0) ([] : List (List ByteArray)), za5 zac zab 93 v9 r17.1, emp, cells b15 [zI r18.2.Err, zI r18.2.At] 26, cells b16 [.string p4.told_title, hd7.v, hd8.v, .string p4.source] 93, vec zal 36 6 hd7.v p4.told_lines, vec zaq 34 2 hd8.v p4.told_stanzas, cells b17 [.string p5.told_title, hd9.v, hd10.v, .string p5.source] 93, vec zal 36 6 hd9.v p5.told_lines, vec zaq 34 2 hd10.v p5.told_stanzas, za5 zac zab 93 v11 r27.1, za5 zac zab 93 v12 r28.1]
                          refine zbf (L' := [cells b1 [.bool false] 4, cells b3 [.string p1.told_title, hd1.v, hd2.v, .string p1.source] 93, vec zal 36 6 hd1.v p1.told_lines, vec zaq 34 2 hd2.v p1.told_stanzas, zbU ((([] : List Nat) : List Nat).map zbJ), emp, za5 zac zab 93 v3 r8.1, za5 zac zab 93 v4 r9.1, za5 zac zab 93 v5 r10.1, emp, cells b8 [.string p2.told_title, hd3.v, hd4.v, .string p2.source] 93, vec zal 36 6 hd3.v p2.told_lines, vec zaq 34 2 hd4.v p2.told_stanzas, cells b9 [.string p3.told_title, hd5.v, hd6.v, .string p3.source] 93, vec zal 36 6 hd5.v p3.told_lines, vec zaq 34 2 hd6.v p3.told_stanzas, emp, emp, zb2 zat zau 48 1 (.slice (some ⟨b12, 0, none⟩) 2 2) ([([(⟨#[35, 32, 120]⟩ : ByteArray)] : List ByteArray), ([(⟨#[121]⟩ : ByteArray)] : List ByteArray)] : List (List ByteArray)), emp, emp, zb2 zat zau 48 1 (.slice (some ⟨b14, 0, none⟩) 1 1) ([([] : List ByteArray)] : List (List ByteArray)), za5 zac zab 93 v8 r16.1, zb2 zat zau 48 1 (.slice none 0 0) ([] : List (List ByteArray)), za5 zac zab 93 v9 r17.1, emp, cells b15 [zI r18.2.Err, zI r18.2.At] 26, cells b16 [.string p4.told_title, hd7.v, hd8.v, .string p4.source] 93, vec zal 36 6 hd7.v p4.told_lines, vec zaq 34 2 hd8.v p4.told_stanzas, cells b17 [.string p5.told_title, hd9.v, hd10.v, .string p5.source] 93, vec zal 36 6 hd9.v p5.told_lines, vec zaq 34 2 hd10.v p5.told_stanzas, za5 zac zab 93 v11 r27.1, za5 zac zab 93 v12 r28.1]) (zak [0, 1, 2, 3, 4, 5, 6, 7, 8, 9, 10, 11, 12, 13, 14, 15, 16, 17, 18, 19, 20, 21, 22, 23, 24, 25, 26, 27, 28, 29, 30, 31, 32, 33, 34] kr rfl) (zag rfl dc rfl (zaL rfl dc rfl rfl (zaL rfl dc rfl rfl (zai rfl dc rfl (zan (zaf (zap (zad (zag rfl dc rfl (zag rfl dc rfl ?_))))))))))
                          obtain ⟨r29, hq35, h⟩ := zbT h
                          refine zcl (vs := [.pointer none, zP b3]) (Rd.nil : Rd _ _ []) rfl dc rfl rfl rfl zox (zfD (bq1 := b3) (q1 := p1) (q1_h0 := hd1) (q1_h1 := hd2) hq35) Splits.nil (.own (zak [1] (by kernel_rfl) rfl) (fun _ _ h => sepL.one1.1 h) (.own (zak [2] (by kernel_rfl) rfl) (fun _ _ h => sepL.one1.1 h) (.own (zak [3] (by kernel_rfl) rfl) (fun _ _ h => sepL.one1.1 h) .nil))) ?_
                          rintro v13
                          show TO _ _ _ _ _ _ _ _ _ _ [cells b1 [.bool false] 4, cells b3 [.string p1.told_title, hd1.v, hd2.v, .string p1.source] 93, vec zal 36 6 hd1.v p1.told_lines, vec zaq 34 2 hd2.v p1.told_stanzas, zbU ((([] : List Nat) : List Nat).map zbJ), emp, za5 zac zab 93 v3 r8.1, za5 zac zab 93 v4 r9.1, za5 zac zab 93 v5 r10.1, emp, cells b8 [.string p2.told_title, hd3.v, hd4.v, .string p2.source] 93, vec zal 36 6 hd3.v p2.told_lines, vec zaq 34 2 hd4.v p2.told_stanzas, cells b9 [.string p3.told_title, hd5.v, hd6.v, .string p3.source] 93, vec zal 36 6 hd5.v p3.told_lines, vec zaq 34 2 hd6.v p3.told_stanzas, emp, emp, zb2 zat zau 48 1 (.slice (some ⟨b12, 0, none⟩) 2 2) ([([(⟨#[35, 32, 120]⟩ : ByteArray)] : List ByteArray), ([(⟨#[121]⟩ : ByteArray)] : List ByteArray)] : List (List ByteArray)), emp, emp, zb2 zat zau 48 1 (.slice (some ⟨b14, 0, none⟩) 1 1) ([([] : List ByteArray)] : List (List ByteArray)), za5 zac zab 93 v8 r16.1, zb2 zat zau 48 1 (.slice none 0 0) ([] : List (List ByteArray)), za5 zac zab 93 v9 r17.1, emp, cells b15 [zI r18.2.Err, zI r18.2.At] 26, cells b16 [.string p4.told_title, hd7.v, hd8.v, .string p4.source] 93, vec zal 36 6 hd7.v p4.told_lines, vec zaq 34 2 hd8.v p4.told_stanzas, cells b17 [.string p5.told_title, hd9.v, hd10.v, .string p5.source] 93, vec zal 36 6 hd9.v p5.told_lines, vec zaq 34 2 hd10.v p5.told_stanzas, za5 zac zab 93 v11 r27.1, za5 zac zab 93 v12 r28.1, za5 zac zab 93 v13 r29.1]
                          refine zbf (L' := [cells b1 [.bool false] 4, cells b3 [.string p1.told_title, hd1.v, hd2.v, .string p1.source] 93, vec zal 36 6 hd1.v p1.told_lines, vec zaq 34 2 hd2.v p1.told_stanzas, zbU ((([] : List Nat) : List Nat).map zbJ), emp, za5 zac zab 93 v3 r8.1, za5 zac zab 93 v4 r9.1, za5 zac zab 93 v5 r10.1, emp, cells b8 [.string p2.told_title, hd3.v, hd4.v, .string p2.source] 93, vec zal 36 6 hd3.v p2.told_lines, vec zaq 34 2 hd4.v p2.told_stanzas, cells b9 [.string p3.told_title, hd5.v, hd6.v, .string p3.source] 93, vec zal 36 6 hd5.v p3.told_lines, vec zaq 34 2 hd6.v p3.told_stanzas, emp, emp, zb2 zat zau 48 1 (.slice (some ⟨b12, 0, none⟩) 2 2) ([([(⟨#[35, 32, 120]⟩ : ByteArray)] : List ByteArray), ([(⟨#[121]⟩ : ByteArray)] : List ByteArray)] : List (List ByteArray)), emp, emp, zb2 zat zau 48 1 (.slice (some ⟨b14, 0, none⟩) 1 1) ([([] : List ByteArray)] : List (List ByteArray)), za5 zac zab 93 v8 r16.1, zb2 zat zau 48 1 (.slice none 0 0) ([] : List (List ByteArray)), za5 zac zab 93 v9 r17.1, emp, cells b15 [zI r18.2.Err, zI r18.2.At] 26, cells b16 [.string p4.told_title, hd7.v, hd8.v, .string p4.source] 93, vec zal 36 6 hd7.v p4.told_lines, vec zaq 34 2 hd8.v p4.told_stanzas, cells b17 [.string p5.told_title, hd9.v, hd10.v, .string p5.source] 93, vec zal 36 6 hd9.v p5.told_lines, vec zaq 34 2 hd10.v p5.told_stanzas, za5 zac zab 93 v11 r27.1, za5 zac zab 93 v12 r28.1, za5 zac zab 93 v13 r29.1]) (zak [0, 1, 2, 3, 4, 5, 6, 7, 8, 9, 10, 11, 12, 13, 14, 15, 16, 17, 18, 19, 20, 21, 22, 23, 24, 25, 26, 27, 28, 29, 30, 31, 32, 33, 34, 35] kr rfl) (zag rfl dc rfl (zaL rfl dc rfl rfl (zaL rfl dc rfl rfl (zai rfl dc rfl (zai rfl dc rfl (zan (zaf (zap (zad (zag rfl dc rfl ?_))))))))))
                          obtain ⟨r30, hq36, h⟩ := zbT h
                          refine zcl (vs := [zP b3, .pointer none]) (Rd.nil : Rd _ _ []) rfl dc rfl rfl rfl zox (zft (bp1 := b3) (p1 := p1) (p1_h0 := hd1) (p1_h1 := hd2) hq36) Splits.nil (.own (zak [1] (by kernel_rfl) rfl) (fun _ _ h => sepL.one1.1 h) (.own (zak [2] (by kernel_rfl) rfl) (fun _ _ h => sepL.one1.1 h) (.own (zak [3] (by kernel_rfl) rfl) (fun _ _ h => sepL.one1.1 h) .nil))) ?_
                          rintro v14
                          show TO _ _ _ _ _ _ _ _ _ _ [cells b1 [.bool false] 4, cells b3 [.string p1.told_title, hd1.v, hd2.v, .string p1.source] 93, vec zal 36 6 hd1.v p1.told_lines, vec zaq 34 2 hd2.v p1.told_stanzas, zbU ((([] : List Nat) : List Nat).map zbJ), emp, za5 zac zab 93 v3 r8.1, za5 zac zab 93 v4 r9.1, za5 zac zab 93 v5 r10.1, emp, cells b8 [.string p2.told_title, hd3.v, hd4.v, .string p2.source] 93, vec zal 36 6 hd3.v p2.told_lines, vec zaq 34 2 hd4.v p2.told_stanzas, cells b9 [.string p3.told_title, hd5.v, hd6.v, .string p3.source] 93, vec zal 36 6 hd5.v p3.told_lines, vec zaq 34 2 hd6.v p3.told_stanzas, emp, emp, zb2 zat zau 48 1 (.slice (some ⟨b12, 0, none⟩) 2 2) ([([(⟨#[35, 32, 120]⟩ : ByteArray)] : List ByteArray), ([(⟨#[121]⟩ : ByteArray)] : List ByteArray)] : List (List ByteArray)), emp, emp, zb2 zat zau 48 1 (.slice (some ⟨b14, 0, none⟩) 1 1) ([([] : List ByteArray)] : List (List ByteArray)), za5 zac zab 93 v8 r16.1, zb2 zat zau 48 1 (.slice none 0 0) ([] : List (List ByteArray)), za5 zac zab 93 v9 r17.1, emp, cells b15 [zI r18.2.Err, zI r18.2.At] 26, cells b16 [.string p4.told_title, hd7.v, hd8.v, .string p4.source] 93, vec zal 36 6 hd7.v p4.told_lines, vec zaq 34 2 hd8.v p4.told_stanzas, cells b17 [.string p5.told_title, hd9.v, hd10.v, .string p5.source] 93, vec zal 36 6 hd9.v p5.told_lines, vec zaq 34 2 hd10.v p5.told_stanzas, za5 zac zab 93 v11 r27.1, za5 zac zab 93 v12 r28.1, za5 zac zab 93 v13 r29.1, za5 zac zab 93 v14 r30.1]
                          refine zbf (L' := [cells b1 [.bool false] 4, cells b3 [.string p1.told_title, hd1.v, hd2.v, .string p1.source] 93, vec zal 36 6 hd1.v p1.told_lines, vec zaq 34 2 hd2.v p1.told_stanzas, zbU ((([] : List Nat) : List Nat).map zbJ), emp, za5 zac zab 93 v3 r8.1, za5 zac zab 93 v4 r9.1, za5 zac zab 93 v5 r10.1, emp, cells b8 [.string p2.told_title, hd3.v, hd4.v, .string p2.source] 93, vec zal 36 6 hd3.v p2.told_lines, vec zaq 34 2 hd4.v p2.told_stanzas, cells b9 [.string p3.told_title, hd5.v, hd6.v, .string p3.source] 93, vec zal 36 6 hd5.v p3.told_lines, vec zaq 34 2 hd6.v p3.told_stanzas, emp, emp, zb2 zat zau 48 1 (.slice (some ⟨b12, 0, none⟩) 2 2) ([([(⟨#[35, 32, 120]⟩ : ByteArray)] : List ByteArray), ([(⟨#[121]⟩ : ByteArray)] : List ByteArray)] : List (List ByteArray)), emp, emp, zb2 zat zau 48 1 (.slice (some ⟨b14, 0, none⟩) 1 1) ([([] : List ByteArray)] : List (List ByteArray)), za5 zac zab 93 v8 r16.1, zb2 zat zau 48 1 (.slice none 0 0) ([] : List (List ByteArray)), za5 zac zab 93 v9 r17.1, emp, cells b15 [zI r18.2.Err, zI r18.2.At] 26, cells b16 [.string p4.told_title, hd7.v, hd8.v, .string p4.source] 93, vec zal 36 6 hd7.v p4.told_lines, vec zaq 34 2 hd8.v p4.told_stanzas, cells b17 [.string p5.told_title, hd9.v, hd10.v, .string p5.source] 93, vec zal 36 6 hd9.v p5.told_lines, vec zaq 34 2 hd10.v p5.told_stanzas, za5 zac zab 93 v11 r27.1, za5 zac zab 93 v12 r28.1, za5 zac zab 93 v13 r29.1, za5 zac zab 93 v14 r30.1]) (zak [0, 1, 2, 3, 4, 5, 6, 7, 8, 9, 10, 11, 12, 13, 14, 15, 16, 17, 18, 19, 20, 21, 22, 23, 24, 25, 26, 27, 28, 29, 30, 31, 32, 33, 34, 35, 36] kr rfl) (zag rfl dc rfl (zaL rfl dc rfl rfl (zaL rfl dc rfl rfl (zai rfl dc rfl (zai rfl dc rfl (zan (zaf (cut (zap (zad (zag rfl dc rfl ?_)))))))))))
                          obtain ⟨r31, hq37, h⟩ := zbT h
                          refine zcr (vs := [.pointer none]) rfl dc rfl rfl rfl zmr (zeb hq37) Splits.nil ?_
                          rintro b18
                          show TO _ _ _ _ _ _ _ _ _ _ [cells b1 [.bool false] 4, cells b3 [.string p1.told_title, hd1.v, hd2.v, .string p1.source] 93, vec zal 36 6 hd1.v p1.told_lines, vec zaq 34 2 hd2.v p1.told_stanzas, zbU ((([] : List Nat) : List Nat).map zbJ), emp, za5 zac zab 93 v3 r8.1, za5 zac zab 93 v4 r9.1, za5 zac zab 93 v5 r10.1, emp, cells b8 [.string p2.told_title, hd3.v, hd4.v, .string p2.source] 93, vec zal 36 6 hd3.v p2.told_lines, vec zaq 34 2 hd4.v p2.told_stanzas, cells b9 [.string p3.told_title, hd5.v, hd6.v, .string p3.source] 93, vec zal 36 6 hd5.v p3.told_lines, vec zaq 34 2 hd6.v p3.told_stanzas, emp, emp, zb2 zat zau 48 1 (.slice (some ⟨b12, 0, none⟩) 2 2) ([([(⟨#[35, 32, 120]⟩ : ByteArray)] : List ByteArray), ([(⟨#[121]⟩ : ByteArray)] : List ByteArray)] : List (List ByteArray)), emp, emp, zb2 zat zau 48 1 (.slice (some ⟨b14, 0, none⟩) 1 1) ([([] : List ByteArray)] : List (List ByteArray)), za5 zac zab 93 v8 r16.1, zb2 zat zau 48 1 (.slice none 0 0) ([] : List (List ByteArray)), za5 zac zab 93 v9 r17.1, emp, cells b15 [zI r18.2.Err, zI r18.2.At] 26, cells b16 [.string p4.told_title, hd7.v, hd8.v, .string p4.source] 93, vec zal 36 6 hd7.v p4.told_lines, vec zaq 34 2 hd8.v p4.told_stanzas, cells b17 [.string p5.told_title, hd9.v, hd10.v, .string p5.source] 93, vec zal 36 6 hd9.v p5.told_lines, vec zaq 34 2 hd10.v p5.told_stanzas, za5 zac zab 93 v11 r27.1, za5 zac zab 93 v12 r28.1, za5 zac zab 93 v13 r29.1, za5 zac zab 93 v14 r30.1, cells b18 [.pointer none] 23]
                          refine zbf (L' := [cells b1 [.bool false] 4, cells b3 [.string p1.told_title, hd1.v, hd2.v, .string p1.source] 93, vec zal 36 6 hd1.v p1.told_lines, vec zaq 34 2 hd2.v p1.told_stanzas, zbU ((([] : List Nat) : List Nat).map zbJ), emp, za5 zac zab 93 v3 r8.1, za5 zac zab 93 v4 r9.1, za5 zac zab 93 v5 r10.1, emp, cells b8 [.string p2.told_title, hd3.v, hd4.v, .string p2.source] 93, vec zal 36 6 hd3.v p2.told_lines, vec zaq 34 2 hd4.v p2.told_stanzas, cells b9 [.string p3.told_title, hd5.v, hd6.v, .string p3.source] 93, vec zal 36 6 hd5.v p3.told_lines, vec zaq 34 2 hd6.v p3.told_stanzas, emp, emp, zb2 zat zau 48 1 (.slice (some ⟨b12, 0, none⟩) 2 2) ([([(⟨#[35, 32, 120]⟩ : ByteArray)] : List ByteArray), ([(⟨#[121]⟩ : ByteArray)] : List ByteArray)] : List (List ByteArray)), emp, emp, zb2 zat zau 48 1 (.slice (some ⟨b14, 0, none⟩) 1 1) ([([] : List ByteArray)] : List (List ByteArray)), za5 zac zab 93 v8 r16.1, zb2 zat zau 48 1 (.slice none 0 0) ([] : List (List ByteArray)), za5 zac zab 93 v9 r17.1, emp, cells b15 [zI r18.2.Err, zI r18.2.At] 26, cells b16 [.string p4.told_title, hd7.v, hd8.v, .string p4.source] 93, vec zal 36 6 hd7.v p4.told_lines, vec zaq 34 2 hd8.v p4.told_stanzas, cells b17 [.string p5.told_title, hd9.v, hd10.v, .string p5.source] 93, vec zal 36 6 hd9.v p5.told_lines, vec zaq 34 2 hd10.v p5.told_stanzas, za5 zac zab 93 v11 r27.1, za5 zac zab 93 v12 r28.1, za5 zac zab 93 v13 r29.1, za5 zac zab 93 v14 r30.1, cells b18 [.pointer none] 23]) (zak [0, 1, 2, 3, 4, 5, 6, 7, 8, 9, 10, 11, 12, 13, 14, 15, 16, 17, 18, 19, 20, 21, 22, 23, 24, 25, 26, 27, 28, 29, 30, 31, 32, 33, 34, 35, 36, 37] kr rfl) (zan (zaf (zaT ?_)))
                          obtain ⟨its1, hq38, h⟩ := zbT h
                          obtain ⟨ek1, hek1, h⟩ := zcH h
                          obtain ⟨dn1, hdn1, h⟩ := zcH h
                          refine zfS (α := Int × Gapi_Verse) (β := Unit) (γ := Unit) (δ := Unit) (ps := [262, 263]) (Rd.nil : Rd _ _ []) Ro.nil rfl zmo (zdQ hq38) (fun pre b => ∀ post, its1 = pre ++ post → zdf dn1 (zcA ek1) post = some r) (fun pre b => [cells b1 [.bool false] 4, cells b3 [.string p1.told_title, hd1.v, hd2.v, .string p1.source] 93, vec zal 36 6 hd1.v p1.told_lines, vec zaq 34 2 hd2.v p1.told_stanzas]) (fun c pre g => (fun g => c = .ret ∧ ek1 = some r) g) (fun c pre g => (fun g => [cells b1 [.bool false] 4, cells b3 [.string p1.told_title, hd1.v, hd2.v, .string p1.source] 93, vec zal 36 6 hd1.v p1.told_lines, vec zaq 34 2 hd2.v p1.told_stanzas]) g) (fun pre x b j => [(0, zP b1), (1, zP b3), (4, zI r24.2), (6, zI r25.2), (14, zI r26.2.2), (16, zI r27.2), (18, zI r28.2), (22, .pointer none), (24, zI r29.2), (26, zI r30.2), (261, .func (.func 52) #[] #[zP b18])]) (fun pre x b j => [cells b1 [.bool false] 4, cells b3 [.string p1.told_title, hd1.v, hd2.v, .string p1.source] 93, vec zal 36 6 hd1.v p1.told_lines, vec zaq 34 2 hd2.v p1.told_stanzas]) () (fun post e => by rw [List.nil_append] at e; subst e; exact h) (zak [0, 1, 2, 3] kr rfl) (.own (As := [cells b18 [.pointer none] 23]) (zak [37] (by kernel_rfl) rfl) (fun _ _ h => sepL.one1.1 h) .nil) (fun _ => rfl) dc ?_ ?_ ?_ ?_
                          ·
                           rintro lp rc pre x4 post _ w1 K1 hxs2 hext hro hinv
                           refine zaI ?_
                           exact fun a w ha hw => ⟨(), (zah rfl (zah rfl (zah rfl (zah rfl (zah rfl (zah rfl (zah rfl (zah rfl (zah rfl (zah rfl (zah rfl (zaQ)))))))))))) _ _ _ ha, hw.weaken (zak [0, 1, 2, 3] kr rfl)⟩
                          ·
                           rintro lp rc pre x4 post2 _ _ w1 K1 hxs2 hext hro hinv
                           have h := hinv (x4 :: post2) hxs2
                           obtain ⟨ag2, hag2⟩ : ∃ ag, ag = zdf dn1 (zcA ek1) post2 := ⟨_, rfl⟩
                           have h : zcA ek1 x4 ag2 = some r := by rw [hag2]; exact h
                           unfold zcA at h
                           show TC _ _ _ _ _ _ _ _ [(0, zP b1), (1, zP b3), (4, zI r24.2), (6, zI r25.2), (14, zI r26.2.2), (16, zI r27.2), (18, zI r28.2), (22, .pointer none), (24, zI r29.2), (26, zI r30.2), (261, .func (.func 52) #[] #[zP b18])] [cells b1 [.bool false] 4, cells b3 [.string p1.told_title, hd1.v, hd2.v, .string p1.source] 93, vec zal 36 6 hd1.v p1.told_lines, vec zaq 34 2 hd2.v p1.told_stanzas]
                           refine zaT (zap (zad ?_))
                           refine zaN (k := 0) (l' := [.bool false]) zeX rfl rfl rfl rfl rfl (fun _ _ => rfl) rfl ?_
                           refine zan (zaf (zaE (zay ?_)))
                           exact zc1 () (show _ ∧ _ from ⟨rfl, h⟩) (zak [0, 1, 2, 3] kr rfl)
                          ·
                           rintro dm1 _ hinv
                           have h : dn1 = some r := hinv [] (List.append_nil _).symm
                           rw [hdn1] at h
                           show TX _ _ _ _ _ _ _ [emp, emp, emp, emp, zbU ((([] : List Nat) : List Nat).map zbJ), emp, za5 zac zab 93 v3 r8.1, za5 zac zab 93 v4 r9.1, za5 zac zab 93 v5 r10.1, emp, cells b8 [.string p2.told_title, hd3.v, hd4.v, .string p2.source] 93, vec zal 36 6 hd3.v p2.told_lines, vec zaq 34 2 hd4.v p2.told_stanzas, cells b9 [.string p3.told_title, hd5.v, hd6.v, .string p3.source] 93, vec zal 36 6 hd5.v p3.told_lines, vec zaq 34 2 hd6.v p3.told_stanzas, emp, emp, zb2 zat zau 48 1 (.slice (some ⟨b12, 0, none⟩) 2 2) ([([(⟨#[35, 32, 120]⟩ : ByteArray)] : List ByteArray), ([(⟨#[121]⟩ : ByteArray)] : List ByteArray)] : List (List ByteArray)), emp, emp, zb2 zat zau 48 1 (.slice (some ⟨b14, 0, none⟩) 1 1) ([([] : List ByteArray)] : List (List ByteArray)), za5 zac zab 93 v8 r16.1, zb2 zat zau 48 1 (.slice none 0 0) ([] : List (List ByteArray)), za5 zac zab 93 v9 r17.1, emp, cells b15 [zI r18.2.Err, zI r18.2.At] 26, cells b16 [.string p4.told_title, hd7.v, hd8.v, .string p4.source] 93, vec zal 36 6 hd7.v p4.told_lines, vec zaq 34 2 hd8.v p4.told_stanzas, cells b17 [.string p5.told_title, hd9.v, hd10.v, .string p5.source] 93, vec zal 36 6 hd9.v p5.told_lines, vec zaq 34 2 hd10.v p5.told_stanzas, za5 zac zab 93 v11 r27.1, za5 zac zab 93 v12 r28.1, za5 zac zab 93 v13 r29.1, za5 zac zab 93 v14 r30.1, cells b18 [.pointer none] 23, cells b1 [.bool false] 4, cells b3 [.string p1.told_title, hd1.v, hd2.v, .string p1.source] 93, vec zal 36 6 hd1.v p1.told_lines, vec zaq 34 2 hd2.v p1.told_stanzas, zbJ dm1]
                           refine zeB (k := 42) (j := 4) rfl rfl dc ?_
                           show TX _ _ _ _ _ _ _ [emp, emp, emp, emp, zbU ((dm1 :: ([] : List Nat) : List Nat).map zbJ), emp, za5 zac zab 93 v3 r8.1, za5 zac zab 93 v4 r9.1, za5 zac zab 93 v5 r10.1, emp, cells b8 [.string p2.told_title, hd3.v, hd4.v, .string p2.source] 93, vec zal 36 6 hd3.v p2.told_lines, vec zaq 34 2 hd4.v p2.told_stanzas, cells b9 [.string p3.told_title, hd5.v, hd6.v, .string p3.source] 93, vec zal 36 6 hd5.v p3.told_lines, vec zaq 34 2 hd6.v p3.told_stanzas, emp, emp, zb2 zat zau 48 1 (.slice (some ⟨b12, 0, none⟩) 2 2) ([([(⟨#[35, 32, 120]⟩ : ByteArray)] : List ByteArray), ([(⟨#[121]⟩ : ByteArray)] : List ByteArray)] : List (List ByteArray)), emp, emp, zb2 zat zau 48 1 (.slice (some ⟨b14, 0, none⟩) 1 1) ([([] : List ByteArray)] : List (List ByteArray)), za5 zac zab 93 v8 r16.1, zb2 zat zau 48 1 (.slice none 0 0) ([] : List (List ByteArray)), za5 zac zab 93 v9 r17.1, emp, cells b15 [zI r18.2.Err, zI r18.2.At] 26, cells b16 [.string p4.told_title, hd7.v, hd8.v, .string p4.source] 93, vec zal 36 6 hd7.v p4.told_lines, vec zaq 34 2 hd8.v p4.told_stanzas, cells b17 [.string p5.told_title, hd9.v, hd10.v, .string p5.source] 93, vec zal 36 6 hd9.v p5.told_lines, vec zaq 34 2 hd10.v p5.told_stanzas, za5 zac zab 93 v11 r27.1, za5 zac zab 93 v12 r28.1, za5 zac zab 93 v13 r29.1, za5 zac zab 93 v14 r30.1, cells b18 [.pointer none] 23, cells b1 [.bool false] 4, cells b3 [.string p1.told_title, hd1.v, hd2.v, .string p1.source] 93, vec zal 36 6 hd1.v p1.told_lines, vec zaq 34 2 hd2.v p1.told_stanzas, emp]
                           refine zaw ?_
                           exact za3 (r24.2, r25.2, r26.2.2, r27.2, r28.2, r29.2, r30.2, dm1 :: ([] : List Nat)) h rfl (zah rfl (zah rfl (zah rfl (zah rfl (zah rfl (zah rfl (zah rfl (zah rfl (zah rfl (zah rfl (zaQ))))))))))) (zak [38, 39, 40, 41, 4] kr rfl)
                          ·
                           rintro dm1 c pre x4 post g hxs hX
                           obtain ⟨rfl, h⟩ := (show _ ∧ _ from hX)
                           rw [hek1] at h
                           show TC _ _ _ _ _ _ _ _ _ [emp, emp, emp, emp, zbU ((([] : List Nat) : List Nat).map zbJ), emp, za5 zac zab 93 v3 r8.1, za5 zac zab 93 v4 r9.1, za5 zac zab 93 v5 r10.1, emp, cells b8 [.string p2.told_title, hd3.v, hd4.v, .string p2.source] 93, vec zal 36 6 hd3.v p2.told_lines, vec zaq 34 2 hd4.v p2.told_stanzas, cells b9 [.string p3.told_title, hd5.v, hd6.v, .string p3.source] 93, vec zal 36 6 hd5.v p3.told_lines, vec zaq 34 2 hd6.v p3.told_stanzas, emp, emp, zb2 zat zau 48 1 (.slice (some ⟨b12, 0, none⟩) 2 2) ([([(⟨#[35, 32, 120]⟩ : ByteArray)] : List ByteArray), ([(⟨#[121]⟩ : ByteArray)] : List ByteArray)] : List (List ByteArray)), emp, emp, zb2 zat zau 48 1 (.slice (some ⟨b14, 0, none⟩) 1 1) ([([] : List ByteArray)] : List (List ByteArray)), za5 zac zab 93 v8 r16.1, zb2 zat zau 48 1 (.slice none 0 0) ([] : List (List ByteArray)), za5 zac zab 93 v9 r17.1, emp, cells b15 [zI r18.2.Err, zI r18.2.At] 26, cells b16 [.string p4.told_title, hd7.v, hd8.v, .string p4.source] 93, vec zal 36 6 hd7.v p4.told_lines, vec zaq 34 2 hd8.v p4.told_stanzas, cells b17 [.string p5.told_title, hd9.v, hd10.v, .string p5.source] 93, vec zal 36 6 hd9.v p5.told_lines, vec zaq 34 2 hd10.v p5.told_stanzas, za5 zac zab 93 v11 r27.1, za5 zac zab 93 v12 r28.1, za5 zac zab 93 v13 r29.1, za5 zac zab 93 v14 r30.1, cells b18 [.pointer none] 23, cells b1 [.bool false] 4, cells b3 [.string p1.told_title, hd1.v, hd2.v, .string p1.source] 93, vec zal 36 6 hd1.v p1.told_lines, vec zaq 34 2 hd2.v p1.told_stanzas, zbJ dm1]
                           refine zfi (k := 42) (j := 4) rfl rfl dc ?_
                           show TC _ _ _ _ _ _ _ _ _ [emp, emp, emp, emp, zbU ((dm1 :: ([] : List Nat) : List Nat).map zbJ), emp, za5 zac zab 93 v3 r8.1, za5 zac zab 93 v4 r9.1, za5 zac zab 93 v5 r10.1, emp, cells b8 [.string p2.told_title, hd3.v, hd4.v, .string p2.source] 93, vec zal 36 6 hd3.v p2.told_lines, vec zaq 34 2 hd4.v p2.told_stanzas, cells b9 [.string p3.told_title, hd5.v, hd6.v, .string p3.source] 93, vec zal 36 6 hd5.v p3.told_lines, vec zaq 34 2 hd6.v p3.told_stanzas, emp, emp, zb2 zat zau 48 1 (.slice (some ⟨b12, 0, none⟩) 2 2) ([([(⟨#[35, 32, 120]⟩ : ByteArray)] : List ByteArray), ([(⟨#[121]⟩ : ByteArray)] : List ByteArray)] : List (List ByteArray)), emp, emp, zb2 zat zau 48 1 (.slice (some ⟨b14, 0, none⟩) 1 1) ([([] : List ByteArray)] : List (List ByteArray)), za5 zac zab 93 v8 r16.1, zb2 zat zau 48 1 (.slice none 0 0) ([] : List (List ByteArray)), za5 zac zab 93 v9 r17.1, emp, cells b15 [zI r18.2.Err, zI r18.2.At] 26, cells b16 [.string p4.told_title, hd7.v, hd8.v, .string p4.source] 93, vec zal 36 6 hd7.v p4.told_lines, vec zaq 34 2 hd8.v p4.told_stanzas, cells b17 [.string p5.told_title, hd9.v, hd10.v, .string p5.source] 93, vec zal 36 6 hd9.v p5.told_lines, vec zaq 34 2 hd10.v p5.told_stanzas, za5 zac zab 93 v11 r27.1, za5 zac zab 93 v12 r28.1, za5 zac zab 93 v13 r29.1, za5 zac zab 93 v14 r30.1, cells b18 [.pointer none] 23, cells b1 [.bool false] 4, cells b3 [.string p1.told_title, hd1.v, hd2.v, .string p1.source] 93, vec zal 36 6 hd1.v p1.told_lines, vec zaq 34 2 hd2.v p1.told_stanzas, emp]
                           refine zaE (zay (zav ?_))
                           cases h
                           exact zbm (rs := [.cell 0 4]) (dm1 :: ([] : List Nat)) () (.inl rfl) (zaU (k := 4) rfl) Tryd.results11 (.cons (.cell zeD (k := 38) rfl rfl) .nil) rfl Splits.nil
                         ·
                          rintro ⟨e1x1, e2x1, e3x1, e4x1, e5x1, e6x1, e7x1, ds1⟩ h
                          rw [hj2] at h
                          show TC _ _ _ _ _ (zdq ds1) _ _ [(0, zP b1), (1, zP b3), (4, zI e1x1), (6, zI e2x1), (14, zI e3x1), (16, zI e4x1), (18, zI e5x1), (22, .pointer none), (24, zI e6x1), (26, zI e7x1)] [cells b1 [.bool false] 4, cells b3 [.string p1.told_title, hd1.v, hd2.v, .string p1.source] 93, vec zal 36 6 hd1.v p1.told_lines, vec zaq 34 2 hd2.v p1.told_stanzas, zbU ((ds1 : List Nat).map zbJ)]
                          obtain ⟨j3, hj3, h⟩ := zcH h
                          refine zbN (β := (List Nat)) 0 rfl (fun b => j3 = some r) (fun b => zdq b) (fun b => [(0, zP b1), (1, zP b3), (4, zI e1x1), (6, zI e2x1), (14, zI e3x1), (16, zI e4x1), (18, zI e5x1), (22, .pointer none), (24, zI e6x1), (26, zI e7x1)]) (fun b => [cells b1 [.bool false] 4, cells b3 [.string p1.told_title, hd1.v, hd2.v, .string p1.source] 93, vec zal 36 6 hd1.v p1.told_lines, vec zaq 34 2 hd2.v p1.told_stanzas, zbU ((b : List Nat).map zbJ)]) (fun cut => ?_) ?_
                          ·
                           refine cut (zap (zad (zag rfl dc rfl ?_)))
                           obtain ⟨r32, hq39, h⟩ := zbT h
                           refine zcr (vs := [.pointer none]) rfl dc rfl rfl rfl zpo (zfo hq39) Splits.nil ?_
                           rintro b19
                           show TO _ _ _ _ _ _ _ _ _ _ [cells b1 [.bool false] 4, cells b3 [.string p1.told_title, hd1.v, hd2.v, .string p1.source] 93, vec zal 36 6 hd1.v p1.told_lines, vec zaq 34 2 hd2.v p1.told_stanzas, zbU ((ds1 : List Nat).map zbJ), cells b19 [.pointer none] 23]
                           refine zbf (L' := [cells b1 [.bool false] 4, cells b3 [.string p1.told_title, hd1.v, hd2.v, .string p1.source] 93, vec zal 36 6 hd1.v p1.told_lines, vec zaq 34 2 hd2.v p1.told_stanzas, zbU ((ds1 : List Nat).map zbJ), cells b19 [.pointer none] 23]) (zak [0, 1, 2, 3, 4, 5] kr rfl) (zan (zaf (zaT ?_)))
                           obtain ⟨its2, hq40, h⟩ := zbT h
                           obtain ⟨ek2, hek2, h⟩ := zcH h
                           obtain ⟨dn2, hdn2, h⟩ := zcH h
                           refine zfS (α := Int × ByteArray) (β := Unit) (γ := Unit) (δ := Unit) (ps := [266, 267]) (Rd.nil : Rd _ _ []) Ro.nil rfl zpc (zeT hq40) (fun pre b => ∀ post, its2 = pre ++ post → zdf dn2 (zcz ek2) post = some r) (fun pre b => [cells b1 [.bool false] 4, cells b3 [.string p1.told_title, hd1.v, hd2.v, .string p1.source] 93, vec zal 36 6 hd1.v p1.told_lines, vec zaq 34 2 hd2.v p1.told_stanzas]) (fun c pre g => (fun g => c = .ret ∧ ek2 = some r) g) (fun c pre g => (fun g => [cells b1 [.bool false] 4, cells b3 [.string p1.told_title, hd1.v, hd2.v, .string p1.source] 93, vec zal 36 6 hd1.v p1.told_lines, vec zaq 34 2 hd2.v p1.told_stanzas]) g) (fun pre x b j => [(0, zP b1), (1, zP b3), (4, zI e1x1), (6, zI e2x1), (14, zI e3x1), (16, zI e4x1), (18, zI e5x1), (22, .pointer none), (24, zI e6x1), (26, zI e7x1), (265, .func (.func 74) #[] #[zP b19])]) (fun pre x b j => [cells b1 [.bool false] 4, cells b3 [.string p1.told_title, hd1.v, hd2.v, .string p1.source] 93, vec zal 36 6 hd1.v p1.told_lines, vec zaq 34 2 hd2.v p1.told_stanzas]) () (fun post e => by rw [List.nil_append] at e; subst e; exact h) (zak [0, 1, 2, 3] kr rfl) (.own (As := [cells b19 [.pointer none] 23]) (zak [5] (by kernel_rfl) rfl) (fun _ _ h => sepL.one1.1 h) .nil) (fun _ => rfl) dc ?_ ?_ ?_ ?_
                           ·
                            rintro lp rc pre x5 post _ w1 K1 hxs3 hext hro hinv
                            refine zaI ?_
                            exact fun a w ha hw => ⟨(), (zah rfl (zah rfl (zah rfl (zah rfl (zah rfl (zah rfl (zah rfl (zah rfl (zah rfl (zah rfl (zah rfl (zaQ)))))))))))) _ _ _ ha, hw.weaken (zak [0, 1, 2, 3] kr rfl)⟩
                           ·
                            rintro lp rc pre x5 post3 _ _ w1 K1 hxs3 hext hro hinv
                            have h := hinv (x5 :: post3) hxs3
                            obtain ⟨ag3, hag3⟩ : ∃ ag, ag = zdf dn2 (zcz ek2) post3 := ⟨_, rfl⟩
                            have h : zcz ek2 x5 ag3 = some r := by rw [hag3]; exact h
                            unfold zcz at h
                            show TC _ _ _ _ _ _ _ _ [(0, zP b1), (1, zP b3), (4, zI e1x1), (6, zI e2x1), (14, zI e3x1), (16, zI e4x1), (18, zI e5x1), (22, .pointer none), (24, zI e6x1), (26, zI e7x1), (265, .func (.func 74) #[] #[zP b19])] [cells b1 [.bool false] 4, cells b3 [.string p1.told_title, hd1.v, hd2.v, .string p1.source] 93, vec zal 36 6 hd1.v p1.told_lines, vec zaq 34 2 hd2.v p1.told_stanzas]
                            refine zaT (zap (zad ?_))
                            refine zaN (k := 0) (l' := [.bool false]) zeX rfl rfl rfl rfl rfl (fun _ _ => rfl) rfl ?_
                            refine zan (zaf (zaE (zay ?_)))
                            exact zc1 () (show _ ∧ _ from ⟨rfl, h⟩) (zak [0, 1, 2, 3] kr rfl)
                           ·
                            rintro dm2 _ hinv
                            have h : dn2 = some r := hinv [] (List.append_nil _).symm
                            rw [hdn2] at h
                            show TX _ _ _ _ _ _ _ [emp, emp, emp, emp, zbU ((ds1 : List Nat).map zbJ), cells b19 [.pointer none] 23, cells b1 [.bool false] 4, cells b3 [.string p1.told_title, hd1.v, hd2.v, .string p1.source] 93, vec zal 36 6 hd1.v p1.told_lines, vec zaq 34 2 hd2.v p1.told_stanzas, zbJ dm2]
                            refine zeB (k := 10) (j := 4) rfl rfl dc ?_
                            show TX _ _ _ _ _ _ _ [emp, emp, emp, emp, zbU ((dm2 :: ds1 : List Nat).map zbJ), cells b19 [.pointer none] 23, cells b1 [.bool false] 4, cells b3 [.string p1.told_title, hd1.v, hd2.v, .string p1.source] 93, vec zal 36 6 hd1.v p1.told_lines, vec zaq 34 2 hd2.v p1.told_stanzas, emp]
                            refine zaw ?_
                            exact za3 (dm2 :: ds1) h rfl (zah rfl (zah rfl (zah rfl (zah rfl (zah rfl (zah rfl (zah rfl (zah rfl (zah rfl (zah rfl (zaQ))))))))))) (zak [6, 7, 8, 9, 4] kr rfl)
                           ·
                            rintro dm2 c pre x5 post g hxs hX
                            obtain ⟨rfl, h⟩ := (show _ ∧ _ from hX)
                            rw [hek2] at h
                            show TC _ _ _ _ _ _ _ _ _ [emp, emp, emp, emp, zbU ((ds1 : List Nat).map zbJ), cells b19 [.pointer none] 23, cells b1 [.bool false] 4, cells b3 [.string p1.told_title, hd1.v, hd2.v, .string p1.source] 93, vec zal 36 6 hd1.v p1.told_lines, vec zaq 34 2 hd2.v p1.told_stanzas, zbJ dm2]
                            refine zfi (k := 10) (j := 4) rfl rfl dc ?_
                            show TC _ _ _ _ _ _ _ _ _ [emp, emp, emp, emp, zbU ((dm2 :: ds1 : List Nat).map zbJ), cells b19 [.pointer none] 23, cells b1 [.bool false] 4, cells b3 [.string p1.told_title, hd1.v, hd2.v, .string p1.source] 93, vec zal 36 6 hd1.v p1.told_lines, vec zaq 34 2 hd2.v p1.told_stanzas, emp]
                            refine zaE (zay (zav ?_))
                            cases h
                            exact zbm (rs := [.cell 0 4]) (dm2 :: ds1) () (.inl rfl) (zaU (k := 4) rfl) Tryd.results11 (.cons (.cell zeD (k := 6) rfl rfl) .nil) rfl Splits.nil
                          ·
                           rintro ds2 h
                           rw [hj3] at h
                           show TC _ _ _ _ _ (zdq ds2) _ _ [(0, zP b1), (1, zP b3), (4, zI e1x1), (6, zI e2x1), (14, zI e3x1), (16, zI e4x1), (18, zI e5x1), (22, .pointer none), (24, zI e6x1), (26, zI e7x1)] [cells b1 [.bool false] 4, cells b3 [.string p1.told_title, hd1.v, hd2.v, .string p1.source] 93, vec zal 36 6 hd1.v p1.told_lines, vec zaq 34 2 hd2.v p1.told_stanzas, zbU ((ds2 : List Nat).map zbJ)]
                           refine zap (zad (zag rfl dc rfl (zaz rfl dc rfl rfl zaW (zag rfl dc rfl ?_))))
                           refine zaV (s := 270) rfl (fun hb28 => ?_) (fun hb28 => ?_)
                           ·
                            have h := za6 hb28 h
                            refine zag rfl dc rfl (zaz rfl dc rfl rfl zaW (zas (b := true) rfl dc rfl rfl (zag rfl dc rfl ?_)))
                            refine zaV (s := 274) rfl (fun hb29 => ?_) (fun hb29 => ?_)
                            ·
                             have h := za6 hb29 h
                             refine zag rfl dc rfl (zaz rfl dc rfl rfl zaW (zas (b := true) rfl dc rfl rfl (zag rfl dc rfl ?_)))
                             refine zaV (s := 278) rfl (fun hb30 => ?_) (fun hb30 => ?_)
                             ·
                              have h := za6 hb30 h
                              refine zag rfl dc rfl (zaz rfl dc rfl rfl zaW (zas (b := true) rfl dc rfl rfl (zag rfl dc rfl ?_)))
                              refine zaV (s := 282) rfl (fun hb31 => ?_) (fun hb31 => ?_)
                              ·
                               have h := za6 hb31 h
                               refine zag rfl dc rfl (zaz rfl dc rfl rfl zaW (zas (b := true) rfl dc rfl rfl (zag rfl dc rfl ?_)))
                               refine zaV (s := 286) rfl (fun hb32 => ?_) (fun hb32 => ?_)
                               ·
                                have h := za6 hb32 h
                                refine zag rfl dc rfl (zaz rfl dc rfl rfl zaW (zas (b := true) rfl dc rfl rfl (zag rfl dc rfl ?_)))
                                refine zaV (s := 290) rfl (fun hb33 => ?_) (fun hb33 => ?_)
                                ·
                                 have h := za6 hb33 h
                                 refine zag rfl dc rfl (zaz rfl dc rfl rfl zaW (zas (b := true) rfl dc rfl rfl (zag rfl dc rfl ?_)))
                                 refine zaV (s := 294) rfl (fun hb34 => ?_) (fun hb34 => ?_)
                                 ·
                                  have h := za6 hb34 h
                                  refine zag rfl dc rfl ?_
                                  obtain ⟨r33, hq41, h⟩ := zbT h
                                  refine za9 (v := .string r33) (vs := [.pointer none]) rfl dc rfl rfl rfl zpq (zfb hq41) (zaz rfl dc rfl rfl zel (zas (b := true) rfl dc rfl rfl (zag rfl dc rfl ?_)))
                                  refine zaV (s := 299) rfl (fun hb35 => ?_) (fun hb35 => ?_)
                                  ·
                                   have h := za6 hb35 h
                                   refine zag rfl dc rfl ?_
                                   obtain ⟨r34, hq42, h⟩ := zbT h
                                   refine za9 (v := .string r34) (vs := [.pointer none]) rfl dc rfl rfl rfl znA (zfp hq42) (zaz rfl dc rfl rfl zel (zas (b := true) rfl dc rfl rfl (zag rfl dc rfl ?_)))
                                   refine zaV (s := 304) rfl (fun hb36 => ?_) (fun hb36 => ?_)
                                   ·
                                    have h := za6 hb36 h
                                    refine zag rfl dc rfl ?_
                                    obtain ⟨r35, hq43, h⟩ := zbT h
                                    refine za9 (v := .string r35) (vs := [.pointer none]) rfl dc rfl rfl rfl zkW (zfr hq43) (zaz rfl dc rfl rfl zel (zas (b := true) rfl dc rfl rfl (zag rfl dc rfl ?_)))
                                    refine zaV (s := 309) rfl (fun hb37 => ?_) (fun hb37 => ?_)
                                    ·
                                     have h := za6 hb37 h
                                     refine zag rfl dc rfl ?_
                                     obtain ⟨r36, hq44, h⟩ := zbT h
                                     refine za9 (v := zI r36) (vs := [.pointer none]) rfl dc rfl rfl rfl zmq (zfs hq44) (zaz rfl dc rfl rfl zaW (zas (b := true) rfl dc rfl rfl (zag rfl dc rfl ?_)))
                                     refine zaV (s := 314) rfl (fun hb38 => ?_) (fun hb38 => ?_)
                                     ·
                                      have h := za6 hb38 h
                                      refine zag rfl dc rfl ?_
                                      obtain ⟨r37, hq45, h⟩ := zbT h
                                      refine za9 (v := zI r37) (vs := [.pointer none]) rfl dc rfl rfl rfl zmp (ze0 hq45) (zaz rfl dc rfl rfl zaW (zas (b := true) rfl dc rfl rfl (zag rfl dc rfl ?_)))
                                      refine zaV (s := 319) rfl (fun hb39 => ?_) (fun hb39 => ?_)
                                      ·
                                       have h := za6 hb39 h
                                       refine zag rfl dc rfl (zag rfl dc rfl ?_)
                                       obtain ⟨r38, hq46, h⟩ := zbT h
                                       obtain rfl : false = r38 := Option.some.inj (show some false = some r38 from hq46)
                                       refine za9 (v := .bool false) (vs := [.pointer none, .pointer none]) rfl dc rfl rfl rfl zlK (zfc hq46) (zdZ rfl dc rfl zcG (zas (b := true) rfl dc rfl rfl (zag rfl dc rfl (zag rfl dc rfl ?_))))
                                       obtain ⟨r39, hq47, h⟩ := zbT h
                                       obtain rfl : false = r39 := Option.some.inj (show some false = some r39 from hq47)
                                       refine zbB (v := .bool false) (vs := [zP b3, .pointer none]) (Rd.nil : Rd _ _ []) rfl dc rfl rfl rfl zlK (zfq (bp1 := b3) (p1 := p1) (p1_h0 := hd1) (p1_h1 := hd2) hq47) (.own (zak [1] (by kernel_rfl) rfl) (fun _ _ h => sepL.one1.1 h) (.own (zak [2] (by kernel_rfl) rfl) (fun _ _ h => sepL.one1.1 h) (.own (zak [3] (by kernel_rfl) rfl) (fun _ _ h => sepL.one1.1 h) .nil))) ?_
                                       refine zdZ rfl dc rfl zcG (zas (b := true) rfl dc rfl rfl (zag rfl dc rfl (zag rfl dc rfl (zag rfl dc rfl ?_))))
                                       obtain ⟨r40, hq48, h⟩ := zbT h
                                       obtain rfl : false = r40 := Option.some.inj (show some false = some r40 from hq48)
                                       refine zbB (v := .bool false) (vs := [.pointer none, zP b3]) (Rd.nil : Rd _ _ []) rfl dc rfl rfl rfl zlK (zfB (bq1 := b3) (q1 := p1) (q1_h0 := hd1) (q1_h1 := hd2) hq48) (.own (zak [1] (by kernel_rfl) rfl) (fun _ _ h => sepL.one1.1 h) (.own (zak [2] (by kernel_rfl) rfl) (fun _ _ h => sepL.one1.1 h) (.own (zak [3] (by kernel_rfl) rfl) (fun _ _ h => sepL.one1.1 h) .nil))) ?_
                                       refine zdZ rfl dc rfl zcG (zas (b := true) rfl dc rfl rfl ?_)
                                       refine zaN (k := 0) (l' := [.bool true]) zeX rfl rfl rfl rfl rfl (fun _ _ => rfl) rfl ?_
                                       refine zan (zaf (zaE ?_))
                                       cases h
                                       exact zbm (rs := [.cell 0 4]) ds2 () (.inl rfl) (zaU (k := 4) rfl) Tryd.results11 (.cons (.cell zeD (k := 0) rfl rfl) .nil) rfl Splits.nil
                                      ·
                                       have h := za7 hb39 h
                                       refine zae rfl dc (zae rfl dc (zae rfl dc (zae rfl dc (zas (b := false) rfl dc rfl rfl (zag rfl dc rfl (zae rfl dc (zae rfl dc (zae rfl dc (zas (b := false) rfl dc rfl rfl (zag rfl dc rfl (zae rfl dc (zae rfl dc (zae rfl dc ?_)))))))))))))
                                       refine zae rfl dc (zas (b := false) rfl dc rfl rfl ?_)
                                       refine zaN (k := 0) (l' := [.bool false]) zeX rfl rfl rfl rfl rfl (fun _ _ => rfl) rfl ?_
                                       refine zan (zaf (zaE ?_))
                                       cases h
                                       exact zbm (rs := [.cell 0 4]) ds2 () (.inl rfl) (zaU (k := 4) rfl) Tryd.results11 (.cons (.cell zeD (k := 0) rfl rfl) .nil) rfl Splits.nil
                                     ·
                                      have h := za7 hb38 h
                                      refine zae rfl dc (zae rfl dc (zae rfl dc (zas (b := false) rfl dc rfl rfl (zag rfl dc rfl (zae rfl dc (zae rfl dc (zae rfl dc (zae rfl dc (zas (b := false) rfl dc rfl rfl (zag rfl dc rfl (zae rfl dc (zae rfl dc (zae rfl dc ?_)))))))))))))
                                      refine zas (b := false) rfl dc rfl rfl (zag rfl dc rfl (zae rfl dc (zae rfl dc (zae rfl dc (zae rfl dc (zas (b := false) rfl dc rfl rfl ?_))))))
                                      refine zaN (k := 0) (l' := [.bool false]) zeX rfl rfl rfl rfl rfl (fun _ _ => rfl) rfl ?_
                                      refine zan (zaf (zaE ?_))
                                      cases h
                                      exact zbm (rs := [.cell 0 4]) ds2 () (.inl rfl) (zaU (k := 4) rfl) Tryd.results11 (.cons (.cell zeD (k := 0) rfl rfl) .nil) rfl Splits.nil
                                    ·
                                     have h := za7 hb37 h
                                     refine zae rfl dc (zae rfl dc (zae rfl dc (zas (b := false) rfl dc rfl rfl (zag rfl dc rfl (zae rfl dc (zae rfl dc (zae rfl dc (zas (b := false) rfl dc rfl rfl (zag rfl dc rfl (zae rfl dc (zae rfl dc (zae rfl dc (zae rfl dc ?_)))))))))))))
                                     refine zas (b := false) rfl dc rfl rfl (zag rfl dc rfl (zae rfl dc (zae rfl dc (zae rfl dc (zas (b := false) rfl dc rfl rfl (zag rfl dc rfl (zae rfl dc (zae rfl dc (zae rfl dc (zae rfl dc (zas (b := false) rfl dc rfl rfl ?_)))))))))))
                                     refine zaN (k := 0) (l' := [.bool false]) zeX rfl rfl rfl rfl rfl (fun _ _ => rfl) rfl ?_
                                     refine zan (zaf (zaE ?_))
                                     cases h
                                     exact zbm (rs := [.cell 0 4]) ds2 () (.inl rfl) (zaU (k := 4) rfl) Tryd.results11 (.cons (.cell zeD (k := 0) rfl rfl) .nil) rfl Splits.nil
                                   ·
                                    have h := za7 hb36 h
                                    refine zae rfl dc (zae rfl dc (zae rfl dc (zas (b := false) rfl dc rfl rfl (zag rfl dc rfl (zae rfl dc (zae rfl dc (zae rfl dc (zas (b := false) rfl dc rfl rfl (zag rfl dc rfl (zae rfl dc (zae rfl dc (zae rfl dc (zas (b := false) rfl dc rfl rfl ?_)))))))))))))
                                    refine zag rfl dc rfl (zae rfl dc (zae rfl dc (zae rfl dc (zae rfl dc (zas (b := false) rfl dc rfl rfl (zag rfl dc rfl (zae rfl dc (zae rfl dc (zae rfl dc (zas (b := false) rfl dc rfl rfl (zag rfl dc rfl (zae rfl dc (zae rfl dc ?_)))))))))))))
                                    refine zae rfl dc (zae rfl dc (zas (b := false) rfl dc rfl rfl ?_))
                                    refine zaN (k := 0) (l' := [.bool false]) zeX rfl rfl rfl rfl rfl (fun _ _ => rfl) rfl ?_
                                    refine zan (zaf (zaE ?_))
                                    cases h
                                    exact zbm (rs := [.cell 0 4]) ds2 () (.inl rfl) (zaU (k := 4) rfl) Tryd.results11 (.cons (.cell zeD (k := 0) rfl rfl) .nil) rfl Splits.nil
                                  ·
                                   have h := za7 hb35 h
                                   refine zae rfl dc (zae rfl dc (zae rfl dc (zas (b := false) rfl dc rfl rfl (zag rfl dc rfl (zae rfl dc (zae rfl dc (zae rfl dc (zas (b := false) rfl dc rfl rfl (zag rfl dc rfl (zae rfl dc (zae rfl dc (zae rfl dc (zas (b := false) rfl dc rfl rfl ?_)))))))))))))
                                   refine zag rfl dc rfl (zae rfl dc (zae rfl dc (zae rfl dc (zas (b := false) rfl dc rfl rfl (zag rfl dc rfl (zae rfl dc (zae rfl dc (zae rfl dc (zae rfl dc (zas (b := false) rfl dc rfl rfl (zag rfl dc rfl (zae rfl dc (zae rfl dc ?_)))))))))))))
                                   refine zae rfl dc (zas (b := false) rfl dc rfl rfl (zag rfl dc rfl (zae rfl dc (zae rfl dc (zae rfl dc (zae rfl dc (zas (b := false) rfl dc rfl rfl ?_)))))))
                                   refine zaN (k := 0) (l' := [.bool false]) zeX rfl rfl rfl rfl rfl (fun _ _ => rfl) rfl ?_
                                   refine zan (zaf (zaE ?_))
                                   cases h
                                   exact zbm (rs := [.cell 0 4]) ds2 () (.inl rfl) (zaU (k := 4) rfl) Tryd.results11 (.cons (.cell zeD (k := 0) rfl rfl) .nil) rfl Splits.nil
                                 ·
                                  have h := za7 hb34 h
                                  refine zae rfl dc (zae rfl dc (zae rfl dc (zas (b := false) rfl dc rfl rfl (zag rfl dc rfl (zae rfl dc (zae rfl dc (zae rfl dc (zas (b := false) rfl dc rfl rfl (zag rfl dc rfl (zae rfl dc (zae rfl dc (zae rfl dc (zas (b := false) rfl dc rfl rfl ?_)))))))))))))
                                  refine zag rfl dc rfl (zae rfl dc (zae rfl dc (zae rfl dc (zas (b := false) rfl dc rfl rfl (zag rfl dc rfl (zae rfl dc (zae rfl dc (zae rfl dc (zas (b := false) rfl dc rfl rfl (zag rfl dc rfl (zae rfl dc (zae rfl dc (zae rfl dc ?_)))))))))))))
                                  refine zae rfl dc (zas (b := false) rfl dc rfl rfl (zag rfl dc rfl (zae rfl dc (zae rfl dc (zae rfl dc (zas (b := false) rfl dc rfl rfl (zag rfl dc rfl (zae rfl dc (zae rfl dc (zae rfl dc (zae rfl dc (zas (b := false) rfl dc rfl rfl ?_))))))))))))
                                  refine zaN (k := 0) (l' := [.bool false]) zeX rfl rfl rfl rfl rfl (fun _ _ => rfl) rfl ?_
                                  refine zan (zaf (zaE ?_))
                                  cases h
                                  exact zbm (rs := [.cell 0 4]) ds2 () (.inl rfl) (zaU (k := 4) rfl) Tryd.results11 (.cons (.cell zeD (k := 0) rfl rfl) .nil) rfl Splits.nil
                                ·
                                 have h := za7 hb33 h
                                 refine zae rfl dc (zae rfl dc (zas (b := false) rfl dc rfl rfl (zag rfl dc rfl (zae rfl dc (zae rfl dc (zae rfl dc (zas (b := false) rfl dc rfl rfl (zag rfl dc rfl (zae rfl dc (zae rfl dc (zae rfl dc (zas (b := false) rfl dc rfl rfl (zag rfl dc rfl ?_)))))))))))))
                                 refine zae rfl dc (zae rfl dc (zae rfl dc (zas (b := false) rfl dc rfl rfl (zag rfl dc rfl (zae rfl dc (zae rfl dc (zae rfl dc (zas (b := false) rfl dc rfl rfl (zag rfl dc rfl (zae rfl dc (zae rfl dc (zae rfl dc (zas (b := false) rfl dc rfl rfl ?_)))))))))))))
                                 refine zag rfl dc rfl (zae rfl dc (zae rfl dc (zae rfl dc (zae rfl dc (zas (b := false) rfl dc rfl rfl (zag rfl dc rfl (zae rfl dc (zae rfl dc (zae rfl dc (zas (b := false) rfl dc rfl rfl (zag rfl dc rfl (zae rfl dc (zae rfl dc ?_)))))))))))))
                                 refine zae rfl dc (zae rfl dc (zas (b := false) rfl dc rfl rfl ?_))
                                 refine zaN (k := 0) (l' := [.bool false]) zeX rfl rfl rfl rfl rfl (fun _ _ => rfl) rfl ?_
                                 refine zan (zaf (zaE ?_))
                                 cases h
                                 exact zbm (rs := [.cell 0 4]) ds2 () (.inl rfl) (zaU (k := 4) rfl) Tryd.results11 (.cons (.cell zeD (k := 0) rfl rfl) .nil) rfl Splits.nil
                               ·
                                have h := za7 hb32 h
                                refine zae rfl dc (zae rfl dc (zas (b := false) rfl dc rfl rfl (zag rfl dc rfl (zae rfl dc (zae rfl dc (zas (b := false) rfl dc rfl rfl (zag rfl dc rfl (zae rfl dc (zae rfl dc (zae rfl dc (zas (b := false) rfl dc rfl rfl (zag rfl dc rfl (zae rfl dc ?_)))))))))))))
                                refine zae rfl dc (zae rfl dc (zas (b := false) rfl dc rfl rfl (zag rfl dc rfl (zae rfl dc (zae rfl dc (zae rfl dc (zas (b := false) rfl dc rfl rfl (zag rfl dc rfl (zae rfl dc (zae rfl dc (zae rfl dc (zas (b := false) rfl dc rfl rfl (zag rfl dc rfl ?_)))))))))))))
                                refine zae rfl dc (zae rfl dc (zae rfl dc (zas (b := false) rfl dc rfl rfl (zag rfl dc rfl (zae rfl dc (zae rfl dc (zae rfl dc (zae rfl dc (zas (b := false) rfl dc rfl rfl (zag rfl dc rfl (zae rfl dc (zae rfl dc (zae rfl dc ?_)))))))))))))
                                refine zas (b := false) rfl dc rfl rfl (zag rfl dc rfl (zae rfl dc (zae rfl dc (zae rfl dc (zae rfl dc (zas (b := false) rfl dc rfl rfl ?_))))))
                                refine zaN (k := 0) (l' := [.bool false]) zeX rfl rfl rfl rfl rfl (fun _ _ => rfl) rfl ?_
                                refine zan (zaf (zaE ?_))
                                cases h
                                exact zbm (rs := [.cell 0 4]) ds2 () (.inl rfl) (zaU (k := 4) rfl) Tryd.results11 (.cons (.cell zeD (k := 0) rfl rfl) .nil) rfl Splits.nil
                              ·
                               have h := za7 hb31 h
                               refine zae rfl dc (zae rfl dc (zas (b := false) rfl dc rfl rfl (zag rfl dc rfl (zae rfl dc (zae rfl dc (zas (b := false) rfl dc rfl rfl (zag rfl dc rfl (zae rfl dc (zae rfl dc (zas (b := false) rfl dc rfl rfl (zag rfl dc rfl (zae rfl dc (zae rfl dc ?_)))))))))))))
                               refine zae rfl dc (zas (b := false) rfl dc rfl rfl (zag rfl dc rfl (zae rfl dc (zae rfl dc (zae rfl dc (zas (b := false) rfl dc rfl rfl (zag rfl dc rfl (zae rfl dc (zae rfl dc (zae rfl dc (zas (b := false) rfl dc rfl rfl (zag rfl dc rfl (zae rfl dc ?_)))))))))))))
                               refine zae rfl dc (zae rfl dc (zas (b := false) rfl dc rfl rfl (zag rfl dc rfl (zae rfl dc (zae rfl dc (zae rfl dc (zas (b := false) rfl dc rfl rfl (zag rfl dc rfl (zae rfl dc (zae rfl dc (zae rfl dc (zae rfl dc (zas (b := false) rfl dc rfl rfl ?_)))))))))))))
                               refine zag rfl dc rfl (zae rfl dc (zae rfl dc (zae rfl dc (zas (b := false) rfl dc rfl rfl (zag rfl dc rfl (zae rfl dc (zae rfl dc (zae rfl dc (zae rfl dc (zas (b := false) rfl dc rfl rfl ?_))))))))))
                               refine zaN (k := 0) (l' := [.bool false]) zeX rfl rfl rfl rfl rfl (fun _ _ => rfl) rfl ?_
                               refine zan (zaf (zaE ?_))
                               cases h
                               exact zbm (rs := [.cell 0 4]) ds2 () (.inl rfl) (zaU (k := 4) rfl) Tryd.results11 (.cons (.cell zeD (k := 0) rfl rfl) .nil) rfl Splits.nil
                             ·
                              have h := za7 hb30 h
                              refine zae rfl dc (zae rfl dc (zas (b := false) rfl dc rfl rfl (zag rfl dc rfl (zae rfl dc (zae rfl dc (zas (b := false) rfl dc rfl rfl (zag rfl dc rfl (zae rfl dc (zae rfl dc (zas (b := false) rfl dc rfl rfl (zag rfl dc rfl (zae rfl dc (zae rfl dc ?_)))))))))))))
                              refine zas (b := false) rfl dc rfl rfl (zag rfl dc rfl (zae rfl dc (zae rfl dc (zae rfl dc (zas (b := false) rfl dc rfl rfl (zag rfl dc rfl (zae rfl dc (zae rfl dc (zae rfl dc (zas (b := false) rfl dc rfl rfl (zag rfl dc rfl (zae rfl dc (zae rfl dc ?_)))))))))))))
                              refine zae rfl dc (zas (b := false) rfl dc rfl rfl (zag rfl dc rfl (zae rfl dc (zae rfl dc (zae rfl dc (zas (b := false) rfl dc rfl rfl (zag rfl dc rfl (zae rfl dc (zae rfl dc (zae rfl dc (zas (b := false) rfl dc rfl rfl (zag rfl dc rfl (zae rfl dc ?_)))))))))))))
                              refine zae rfl dc (zae rfl dc (zae rfl dc (zas (b := false) rfl dc rfl rfl (zag rfl dc rfl (zae rfl dc (zae rfl dc (zae rfl dc (zas (b := false) rfl dc rfl rfl (zag rfl dc rfl (zae rfl dc (zae rfl dc (zae rfl dc (zae rfl dc ?_)))))))))))))
                              refine zas (b := false) rfl dc rfl rfl ?_
                              refine zaN (k := 0) (l' := [.bool false]) zeX rfl rfl rfl rfl rfl (fun _ _ => rfl) rfl ?_
                              refine zan (zaf (zaE ?_))
                              cases h
                              exact zbm (rs := [.cell 0 4]) ds2 () (.inl rfl) (zaU (k := 4) rfl) Tryd.results11 (.cons (.cell zeD (k := 0) rfl rfl) .nil) rfl Splits.nil
                            ·
                             have h := za7 hb29 h
                             refine zae rfl dc (zae rfl dc (zas (b := false) rfl dc rfl rfl (zag rfl dc rfl (zae rfl dc (zae rfl dc (zas (b := false) rfl dc rfl rfl (zag rfl dc rfl (zae rfl dc (zae rfl dc (zas (b := false) rfl dc rfl rfl (zag rfl dc rfl (zae rfl dc (zae rfl dc ?_)))))))))))))
                             refine zas (b := false) rfl dc rfl rfl (zag rfl dc rfl (zae rfl dc (zae rfl dc (zas (b := false) rfl dc rfl rfl (zag rfl dc rfl (zae rfl dc (zae rfl dc (zae rfl dc (zas (b := false) rfl dc rfl rfl (zag rfl dc rfl (zae rfl dc (zae rfl dc (zae rfl dc ?_)))))))))))))
                             refine zas (b := false) rfl dc rfl rfl (zag rfl dc rfl (zae rfl dc (zae rfl dc (zae rfl dc (zas (b := false) rfl dc rfl rfl (zag rfl dc rfl (zae rfl dc (zae rfl dc (zae rfl dc (zas (b := false) rfl dc rfl rfl (zag rfl dc rfl (zae rfl dc (zae rfl dc ?_)))))))))))))
                             refine zae rfl dc (zas (b := false) rfl dc rfl rfl (zag rfl dc rfl (zae rfl dc (zae rfl dc (zae rfl dc (zae rfl dc (zas (b := false) rfl dc rfl rfl (zag rfl dc rfl (zae rfl dc (zae rfl dc (zae rfl dc (zas (b := false) rfl dc rfl rfl (zag rfl dc rfl ?_)))))))))))))
                             refine zae rfl dc (zae rfl dc (zae rfl dc (zae rfl dc (zas (b := false) rfl dc rfl rfl ?_))))
                             refine zaN (k := 0) (l' := [.bool false]) zeX rfl rfl rfl rfl rfl (fun _ _ => rfl) rfl ?_
                             refine zan (zaf (zaE ?_))
                             cases h
                             exact zbm (rs := [.cell 0 4]) ds2 () (.inl rfl) (zaU (k := 4) rfl) Tryd.results11 (.cons (.cell zeD (k := 0) rfl rfl) .nil) rfl Splits.nil
                           ·
                            have h := za7 hb28 h
                            refine zae rfl dc (zae rfl dc (zas (b := false) rfl dc rfl rfl (zag rfl dc rfl (zae rfl dc (zae rfl dc (zas (b := false) rfl dc rfl rfl (zag rfl dc rfl (zae rfl dc (zae rfl dc (zas (b := false) rfl dc rfl rfl (zag rfl dc rfl (zae rfl dc (zae rfl dc ?_)))))))))))))
                            refine zas (b := false) rfl dc rfl rfl (zag rfl dc rfl (zae rfl dc (zae rfl dc (zas (b := false) rfl dc rfl rfl (zag rfl dc rfl (zae rfl dc (zae rfl dc (zas (b := false) rfl dc rfl rfl (zag rfl dc rfl (zae rfl dc (zae rfl dc (zae rfl dc (zas (b := false) rfl dc rfl rfl ?_)))))))))))))
                            refine zag rfl dc rfl (zae rfl dc (zae rfl dc (zae rfl dc (zas (b := false) rfl dc rfl rfl (zag rfl dc rfl (zae rfl dc (zae rfl dc (zae rfl dc (zas (b := false) rfl dc rfl rfl (zag rfl dc rfl (zae rfl dc (zae rfl dc (zae rfl dc ?_)))))))))))))
                            refine zas (b := false) rfl dc rfl rfl (zag rfl dc rfl (zae rfl dc (zae rfl dc (zae rfl dc (zas (b := false) rfl dc rfl rfl (zag rfl dc rfl (zae rfl dc (zae rfl dc (zae rfl dc (zae rfl dc (zas (b := false) rfl dc rfl rfl (zag rfl dc rfl (zae rfl dc ?_)))))))))))))
                            refine zae rfl dc (zae rfl dc (zas (b := false) rfl dc rfl rfl (zag rfl dc rfl (zae rfl dc (zae rfl dc (zae rfl dc (zae rfl dc (zas (b := false) rfl dc rfl rfl ?_))))))))
                            refine zaN (k := 0) (l' := [.bool false]) zeX rfl rfl rfl rfl rfl (fun _ _ => rfl) rfl ?_
                            refine zan (zaf (zaE ?_))
                            cases h
                            exact zbm (rs := [.cell 0 4]) ds2 () (.inl rfl) (zaU (k := 4) rfl) Tryd.results11 (.cons (.cell zeD (k := 0) rfl rfl) .nil) rfl Splits.nil
end Go.Proofs.YtgfkogafkhbgnaaDoor
namespace Go.Proofs.YtgfkogafkhbgnaaDoor
open Go.RowKit Go.Lib
set_option linter.unusedVariables false
theorem zjM : zd4 = some true := by decide +kernel
theorem poemKnown_any (w : World) : Calls Tryd.prog 11 #[] w fun e w' => e = .returned (.bool true) ∧ Below w.heap.size w w' :=
  zgr zjM w
end Go.Proofs.YtgfkogafkhbgnaaDoor
