/-
  Texts laid together: Qo, Qv, LfCw, LfC, LfD, LfWordLetters, Lw, PlWordLetters. Nothing is assumed.
-/
import Derived.Test.YtlamcpgnmeileaaWordLetters4
import Derived.Test.YtlamcpgnmeileaaWordLetters3
namespace Go.Proofs.Ytlamcpgnmeileaa
open Go.RowKit Go.Lib
set_option linter.unusedVariables false
set_option linter.unusedSimpArgs false
theorem place_mem : ∀ (ts pre : List Tok) (p : Pc), p ∈ place (flat pre).length ts → ∃ a t c, ts = a ++ t :: c ∧ p.i = (flat (pre ++ a)).length ∧ p.w = t.bs.length ∧ p.r = t.r
  | [], pre, p, h => by cases h
  | t :: ts, pre, p, h => by
    have e : (flat pre).length + t.bs.length = (flat (pre ++ [t])).length := by rw [flat_append, List.length_append]; simp [flat]
    have h' : p ∈ (⟨(flat pre).length, t.bs.length, t.r⟩ : Pc) :: place ((flat pre).length + t.bs.length) ts := h
    rcases List.mem_cons.1 h' with rfl | h'
    · exact ⟨[], t, ts, rfl, by simp, rfl, rfl⟩
    · rw [e] at h'
      obtain ⟨a, u, c, h1, h2, h3, h4⟩ := place_mem ts (pre ++ [t]) p h'
      exact ⟨t :: a, u, c, by rw [h1]; rfl, by rw [h2]; simp, h3, h4⟩
end Go.Proofs.Ytlamcpgnmeileaa
namespace Go.Proofs.Ytlamcpgnmeileaa
open Go.RowKit Go.Lib
set_option linter.unusedVariables false
set_option linter.unusedSimpArgs false
theorem apI_item (x : Itm) : ∃ y ms, apI x = y :: ms ∧ (∀ m ∈ ms, isM m = true) ∧ (isL y = false → ms = []) ∧ isM y = isM x ∧ y.At = x.At ∧ isL y = isL x := by
  cases hL : isL x with
  | false => exact ⟨x, [], by unfold apI; rw [hL]; rfl, by simp, fun _ => rfl, rfl, rfl, hL⟩
  | true =>
    obtain ⟨b, ms, hq, hb, hn, hms, _⟩ := parts_shape (show letter x.Rune = true from hL)
    have hM1 : isM x = false := by
      cases e : isM x with
      | false => rfl
      | true => have := mrk_not_letter (show mrk x.Rune = true from e); rw [show letter x.Rune = true from hL] at this; cases this
    have hM2 : isM (⟨b, Utf8.encode b, x.At⟩ : Itm) = false := by
      cases e : isM (⟨b, Utf8.encode b, x.At⟩ : Itm) with
      | false => rfl
      | true => have := mrk_not_letter (show mrk b = true from e); rw [hb] at this; cases this
    refine ⟨⟨b, Utf8.encode b, x.At⟩, ms.map fun r => ⟨r, Utf8.encode r, x.At⟩, by unfold apI; rw [hL, hq]; rfl, fun m hm => ?_, (fun e => by rw [show isL (⟨b, Utf8.encode b, x.At⟩ : Itm) = true from hb] at e; cases e), by rw [hM1, hM2], rfl, hb⟩
    obtain ⟨r, hr, rfl⟩ := List.mem_map.1 hm; exact hms r hr
theorem clF_own (y : Itm) (ms xs : List Itm) (h3 : ∀ m ∈ ms, isM m = true) (h4 : isL y = false → ms = []) : clF (some (y, [])) (ms ++ xs) = clF (some (y, ms)) xs := by
  cases hx : isL y with
  | true => rw [clF_marks y hx _ ms [] h3]; rfl
  | false => rw [h4 hx]; rfl
end Go.Proofs.Ytlamcpgnmeileaa
namespace Go.Proofs.Ytlamcpgnmeileaa
open Go.RowKit Go.Lib
set_option linter.unusedVariables false
set_option linter.unusedSimpArgs false
def word_Count_s1 (x1 : Tk) (ag1 : Int → Int → Option (Int × Int)) (n4 : Int) (words4 : Int) : Option (Int × Int) := grd (I64 (n4 + 1)) <| bcond ((x1.k : Int) == 1) ( grd (I64 (words4 + 1)) <| ag1 (n4 + 1) (words4 + 1)
) ( ag1 (n4 + 1) words4
)
def word_Count_v (s1 : ByteArray) : Option (Int × Int) := joinK (fun (j1 : Int → Int → Option (Int × Int)) => grd (s1.size ≤ 4611686018427387904) <| joinK (fun (d1 : Int → Int → Option (Int × Int)) => rangeG d1 (word_Count_s1) (tksOf s1) 0 0
) (fun (n4 : Int) (words4 : Int) => j1 n4 words4
)
) (fun (n1 : Int) (words1 : Int) => some (n1, words1)
)
set_option maxRecDepth 100000 in
set_option maxHeartbeats 4000000 in
theorem word_Count_fn {s1 : ByteArray} {r : (Int × Int)} (h : word_Count_v s1 = some r) : FnP Try.prog 32 [.string s1] (.tuple #[.int .i64 r.1, .int .i64 r.2]) := by
 unfold word_Count_v at h
 refine FnP.intro Try.func32 rfl Try.ntmps32 (by simp) ?_
 intro w0 K
 refine TC.star0 ?_
 show TC _ _ _ _ _ _ _ _ _ [star ((([] : List Nat) : List Nat).map mark)]
 obtain ⟨j1, hj1, h⟩ := joinE h
 refine TC.cutN (β := Int × Int × Nat × Nat × (List Nat)) 2 rfl (fun b => j1 b.1 b.2.1 = some r) (fun b => marksOf b.2.2.2.2) (fun b => [(4, .pointer (some ⟨b.2.2.1, 0, none⟩)), (5, .pointer (some ⟨b.2.2.2.1, 0, none⟩))]) (fun b => [cells b.2.2.1 [.int .i64 b.1] 3, cells b.2.2.2.1 [.int .i64 b.2.1] 3, star ((b.2.2.2.2 : List Nat).map mark)]) (fun cut => ?_) ?_
 ·
  refine TC.seq (TC.region (TO.assign rfl dc rfl (TO.assign rfl dc rfl (TO.nil (TX.next (TC.seq (TC.region ?_)))))))
  refine TO.alloc zr_3 rfl dc (fun b3 => ?_)
  refine TO.alloc zr_3 rfl dc (fun b4 => ?_)
  show TO _ _ _ _ _ _ _ _ _ _ [star ((([] : List Nat) : List Nat).map mark), cells b3 [.int .i64 0] 3, cells b4 [.int .i64 0] 3]
  refine TO.store (k := 1) (l' := [.int .i64 0]) sz_3 rfl rfl rfl rfl rfl (fun _ _ => rfl) rfl ?_
  refine TO.store (k := 2) (l' := [.int .i64 0]) sz_3 rfl rfl rfl rfl rfl (fun _ _ => rfl) rfl ?_
  show TO _ _ _ _ _ _ _ _ _ _ [star ((([] : List Nat) : List Nat).map mark), cells b3 [.int .i64 0] 3, cells b4 [.int .i64 0] 3]
  refine TO.nil (TX.next (cut (TC.seq (TC.region (TO.move rfl dc rfl (TO.call (vs := [.string s1]) rfl dc rfl rfl rfl en_35 (scan_fn s1) Splits.nil ?_))))))
  rintro b5
  show TO _ _ _ _ _ _ _ _ _ _ [star ((([] : List Nat) : List Nat).map mark), cells b3 [.int .i64 0] 3, cells b4 [.int .i64 0] 3, cells b5 [.string s1] 9]
  refine TO.nil (TX.next (TC.block ?_))
  obtain ⟨hg1, h⟩ := grdE h
  obtain ⟨d1, hd1, h⟩ := joinE h
  refine TC.range (α := Tk) (β := Int × Int) (γ := Unit) (δ := Nat) (ps := [9]) Ro.nil rfl en_60 (scan1_itr s1 hg1 b5) (fun pre b => ∀ post, tksOf s1 = pre ++ post → rangeG d1 (word_Count_s1) post b.1 b.2 = some r) (fun pre b => [cells b3 [.int .i64 b.1] 3, cells b4 [.int .i64 b.2] 3]) (fun c pre g => False) (fun c pre g => []) (fun pre x b j => [(2, .int .i64 0), (3, .int .i64 0), (4, .pointer (some ⟨b3, 0, none⟩)), (5, .pointer (some ⟨b4, 0, none⟩)), (8, .func (.func 60) #[] #[.pointer (some ⟨b5, 0, none⟩)]), (6, .pointer (some ⟨j, 0, none⟩))]) (fun pre x b j => [cells b3 [.int .i64 b.1] 3, cells b4 [.int .i64 b.2] 3, cells j [.int .i64 x.k, .int .i64 (x.f : Int), .int .i64 (x.t : Int)] 65]) (0, 0) (fun post e => by rw [List.nil_append] at e; subst e; exact h) (Splits.of [1, 2] kr rfl) ⟨.inl ⟨3, rfl⟩, trivial⟩ (fun _ => rfl) dc ?_ ?_ ?_ ?_
  ·
   rintro lp rc pre x1 post ⟨n4, words4⟩ w1 K1 hxs1 hext hro hinv
   refine TC.region ?_
   refine TO.alloc zr_65 rfl dc (fun b6 => ?_)
   refine TO.stores (k := 2) (vs := [.int .i64 x1.k, .int .i64 (x1.f : Int), .int .i64 (x1.t : Int)]) (l' := [.int .i64 x1.k, .int .i64 (x1.f : Int), .int .i64 (x1.t : Int)]) sz_65 rfl rfl rfl rfl rfl (show _ ≤ _ by simp) rfl rfl ?_
   show TO _ _ _ _ _ _ _ _ _ _ [cells b3 [.int .i64 n4] 3, cells b4 [.int .i64 words4] 3, cells b6 [.int .i64 x1.k, .int .i64 (x1.f : Int), .int .i64 (x1.t : Int)] 65]
   refine TO.nil ?_
   exact fun a w ha hw => ⟨b6, (Sbs.cons rfl (Sbs.cons rfl (Sbs.cons rfl (Sbs.cons rfl (Sbs.cons rfl (Sbs.cons rfl (Sbs.nil))))))) _ _ _ ha, hw.weaken (Splits.of [0, 1, 2] kr rfl)⟩
  ·
   rintro lp rc pre x1 post1 ⟨n4, words4⟩ jb1 w1 K1 hxs1 hext hro hinv
   have h := hinv (x1 :: post1) hxs1
   obtain ⟨ag1, hag1⟩ : ∃ ag, ag = rangeG d1 (word_Count_s1) post1 := ⟨_, rfl⟩
   have h : word_Count_s1 x1 ag1 n4 words4 = some r := by rw [hag1]; exact h
   unfold word_Count_s1 at h
   show TC _ _ _ _ _ _ _ _ [(2, .int .i64 0), (3, .int .i64 0), (4, .pointer (some ⟨b3, 0, none⟩)), (5, .pointer (some ⟨b4, 0, none⟩)), (8, .func (.func 60) #[] #[.pointer (some ⟨b5, 0, none⟩)]), (6, .pointer (some ⟨jb1, 0, none⟩))] [cells b3 [.int .i64 n4] 3, cells b4 [.int .i64 words4] 3, cells jb1 [.int .i64 x1.k, .int .i64 (x1.f : Int), .int .i64 (x1.t : Int)] 65]
   refine TC.block (TC.seq (TC.region (TO.load (k := 0) sc_3 rfl dc rfl rfl rfl ?_)))
   obtain ⟨hg2, h⟩ := grdE h
   refine TO.bin rfl dc rfl rfl (bin_add (r := n4 + 1) (IntWalk.i64_in _ hg2)) ?_
   refine TO.store (k := 0) (l' := [.int .i64 (n4 + 1)]) sz_3 rfl rfl rfl rfl rfl (fun _ _ => rfl) rfl ?_
   refine TO.nil (TX.next (TC.seq (TC.region (TO.fieldAddr fl_65_0 rfl dc rfl (show _ = 0 from rfl) (TO.load (k := 2) sc_3 rfl dc rfl rfl rfl (TO.bin rfl dc rfl rfl bin_eql (TO.nil (TX.next ?_))))))))
   refine TC.condB rfl (fun hb1 => ?_) (fun hb1 => ?_)
   ·
    have h := condT hb1 h
    refine TC.region (TO.load (k := 1) sc_3 rfl dc rfl rfl rfl ?_)
    obtain ⟨hg3, h⟩ := grdE h
    refine TO.bin rfl dc rfl rfl (bin_add (r := words4 + 1) (IntWalk.i64_in _ hg3)) ?_
    refine TO.store (k := 1) (l' := [.int .i64 (words4 + 1)]) sz_3 rfl rfl rfl rfl rfl (fun _ _ => rfl) rfl ?_
    show TO _ _ _ _ _ _ _ _ _ _ [cells b3 [.int .i64 (n4 + 1)] 3, cells b4 [.int .i64 (words4 + 1)] 3, cells jb1 [.int .i64 x1.k, .int .i64 (x1.f : Int), .int .i64 (x1.t : Int)] 65]
    refine TO.nil (TX.blockNormal ?_)
    exact TX.round (n4 + 1, words4 + 1) (fun post2 e2 => by have e9 := snoc_post hxs1 e2; subst e9; subst hag1; exact h) (Splits.of [0, 1] kr rfl)
   ·
    have h := condF hb1 h
    refine TC.skip (TX.blockNormal ?_)
    exact TX.round (n4 + 1, words4) (fun post2 e2 => by have e9 := snoc_post hxs1 e2; subst e9; subst hag1; exact h) (Splits.of [0, 1] kr rfl)
  ·
   rintro dm1 ⟨n4, words4⟩ hinv
   have h : d1 n4 words4 = some r := hinv [] (List.append_nil _).symm
   rw [hd1] at h
   show TX _ _ _ _ _ _ _ [star ((([] : List Nat) : List Nat).map mark), emp, emp, cells b5 [.string s1] 9, cells b3 [.int .i64 n4] 3, cells b4 [.int .i64 words4] 3, mark dm1]
   refine TX.starCons (k := 6) (j := 0) rfl rfl dc ?_
   show TX _ _ _ _ _ _ _ [star ((dm1 :: ([] : List Nat) : List Nat).map mark), emp, emp, cells b5 [.string s1] 9, cells b3 [.int .i64 n4] 3, cells b4 [.int .i64 words4] 3, emp]
   refine TX.blockNormal ?_
   exact TX.meetD (n4, words4, b3, b4, dm1 :: ([] : List Nat)) h rfl (Sbs.cons rfl (Sbs.cons rfl (Sbs.nil))) (Splits.of [4, 5, 0] kr rfl)
  ·
   rintro dm1 c pre x1 post g hxs hX
   exact (show False from hX).elim
 ·
  rintro ⟨n1, words1, b1, b2, ds1⟩ h
  rw [hj1] at h
  show TC _ _ _ _ _ (marksOf ds1) _ _ [(4, .pointer (some ⟨b1, 0, none⟩)), (5, .pointer (some ⟨b2, 0, none⟩))] [cells b1 [.int .i64 n1] 3, cells b2 [.int .i64 words1] 3, star ((ds1 : List Nat).map mark)]
  refine TC.seq ?_
  refine TC.drawN 3 [(0, 17, .int .i64 n1), (1, 18, .int .i64 words1), (2, 2, .int .i64 n1)] mixed kr kr dc (by rfl) kr kr (DrawPre.cons ?_ (DrawPre.cons ?_ (DrawPre.cons ?_ DrawPre.nil))) ?_
  ·
   intro D hn hd hcl hu hi
   refine TO.load (k := 0) sc_3 rfl dc (dl_old (by rfl) rfl) rfl rfl ?_
   exact TX.quiet 0 hu hi rfl
  ·
   intro D hn hd hcl hu hi
   refine TO.load (k := 1) sc_3 rfl dc (dl_old (by rfl) rfl) rfl rfl ?_
   exact TX.quiet 1 hu hi rfl
  ·
   intro D hn hd hcl hu hi
   refine TO.assign rfl dc (dl_lookup (m := 0) hu rfl (hd 0 dc)) ?_
   exact TX.quiet 2 hu hi rfl
  refine TO.assign rfl dc rfl (TO.nil (TX.next (TC.ret ?_)))
  cases h
  exact TX.finM (rs := [.tmp 2, .tmp 3]) ds1 () (.inl rfl) (Splits.open0 (k := 2) rfl) Try.results32 (.cons (.tmp rfl) (.cons (.tmp rfl) .nil)) rfl Splits.nil
def word_Is_s1 (s1 : ByteArray) (e1 : Bool → Option Bool) (x1 : Tk) (ag1 : Option Bool) : Option Bool := bcond ((x1.k : Int) == 1) ( e1 (((x1.t : Int) : Int) == (s1.size : Int))
) ( e1 false
)
def word_Is_v (s1 : ByteArray) : Option Bool := joinK (fun (j1 : Option Bool) => grd (s1.size ≤ 4611686018427387904) <| joinK (fun (e1 : Bool → Option Bool) => joinK (fun (d1 : Option Bool) => rangeG d1 (word_Is_s1 s1 e1) (tksOf s1)
) ( j1
)
) (fun (x2 : Bool) => some x2
)
) ( some false
)
set_option maxRecDepth 100000 in
set_option maxHeartbeats 4000000 in
theorem word_Is_fn {s1 : ByteArray} {r : Bool} (h : word_Is_v s1 = some r) : FnP Try.prog 33 [.string s1] (.bool r) := by
 unfold word_Is_v at h
 refine FnP.intro Try.func33 rfl Try.ntmps33 (by simp) ?_
 intro w0 K
 refine TC.star0 ?_
 show TC _ _ _ _ _ _ _ _ _ [star ((([] : List Nat) : List Nat).map mark)]
 obtain ⟨j1, hj1, h⟩ := joinE h
 refine TC.cutN (β := Nat × (List Nat)) 1 rfl (fun b => j1 = some r) (fun b => marksOf b.2) (fun b => [(2, .pointer (some ⟨b.1, 0, none⟩))]) (fun b => [cells b.1 [.bool false] 4, star ((b.2 : List Nat).map mark)]) (fun cut => ?_) ?_
 ·
  refine TC.seq (TC.region ?_)
  refine TO.box rfl dc rfl (fun b2 => ?_)
  refine TO.alloc zr_4 rfl dc (fun b3 => ?_)
  show TO _ _ _ _ _ _ _ _ _ _ [star ((([] : List Nat) : List Nat).map mark), cells b2 [.string s1] 9, cells b3 [.bool false] 4]
  refine TO.nil (TX.next (cut (TC.seq (TC.region (TO.load (k := 1) sc_9 rfl dc rfl rfl rfl (TO.call (vs := [.string s1]) rfl dc rfl rfl rfl en_35 (scan_fn s1) Splits.nil ?_))))))
  rintro b4
  show TO _ _ _ _ _ _ _ _ _ _ [star ((([] : List Nat) : List Nat).map mark), cells b2 [.string s1] 9, cells b3 [.bool false] 4, cells b4 [.string s1] 9]
  refine TO.nil (TX.next (TC.block ?_))
  obtain ⟨hg1, h⟩ := grdE h
  obtain ⟨e1, he1, h⟩ := joinE h
  obtain ⟨d1, hd1, h⟩ := joinE h
  refine TC.range (α := Tk) (β := Unit) (γ := Bool) (δ := Nat) (ps := [6]) Ro.nil rfl en_60 (scan1_itr s1 hg1 b4) (fun pre b => ∀ post, tksOf s1 = pre ++ post → rangeG d1 (word_Is_s1 s1 e1) post = some r) (fun pre b => [cells b2 [.string s1] 9, cells b3 [.bool false] 4]) (fun c pre g => (fun g => c = .ret ∧ e1 g = some r) g) (fun c pre g => (fun g => [cells b2 [.string s1] 9, cells b3 [.bool g] 4]) g) (fun pre x b j => [(1, .pointer (some ⟨b2, 0, none⟩)), (2, .pointer (some ⟨b3, 0, none⟩)), (5, .func (.func 60) #[] #[.pointer (some ⟨b4, 0, none⟩)]), (3, .pointer (some ⟨j, 0, none⟩))]) (fun pre x b j => [cells b2 [.string s1] 9, cells b3 [.bool false] 4, cells j [.int .i64 x.k, .int .i64 (x.f : Int), .int .i64 (x.t : Int)] 65]) () (fun post e => by rw [List.nil_append] at e; subst e; exact h) (Splits.of [1, 2] kr rfl) ⟨.inl ⟨3, rfl⟩, trivial⟩ (fun _ => rfl) dc ?_ ?_ ?_ ?_
  ·
   rintro lp rc pre x1 post _ w1 K1 hxs1 hext hro hinv
   refine TC.region ?_
   refine TO.alloc zr_65 rfl dc (fun b5 => ?_)
   refine TO.stores (k := 2) (vs := [.int .i64 x1.k, .int .i64 (x1.f : Int), .int .i64 (x1.t : Int)]) (l' := [.int .i64 x1.k, .int .i64 (x1.f : Int), .int .i64 (x1.t : Int)]) sz_65 rfl rfl rfl rfl rfl (show _ ≤ _ by simp) rfl rfl ?_
   show TO _ _ _ _ _ _ _ _ _ _ [cells b2 [.string s1] 9, cells b3 [.bool false] 4, cells b5 [.int .i64 x1.k, .int .i64 (x1.f : Int), .int .i64 (x1.t : Int)] 65]
   refine TO.nil ?_
   exact fun a w ha hw => ⟨b5, (Sbs.cons rfl (Sbs.cons rfl (Sbs.cons rfl (Sbs.cons rfl (Sbs.nil))))) _ _ _ ha, hw.weaken (Splits.of [0, 1, 2] kr rfl)⟩
  ·
   rintro lp rc pre x1 post1 _ jb1 w1 K1 hxs1 hext hro hinv
   have h := hinv (x1 :: post1) hxs1
   obtain ⟨ag1, hag1⟩ : ∃ ag, ag = rangeG d1 (word_Is_s1 s1 e1) post1 := ⟨_, rfl⟩
   have h : word_Is_s1 s1 e1 x1 ag1 = some r := by rw [hag1]; exact h
   unfold word_Is_s1 at h
   show TC _ _ _ _ _ _ _ _ [(1, .pointer (some ⟨b2, 0, none⟩)), (2, .pointer (some ⟨b3, 0, none⟩)), (5, .func (.func 60) #[] #[.pointer (some ⟨b4, 0, none⟩)]), (3, .pointer (some ⟨jb1, 0, none⟩))] [cells b2 [.string s1] 9, cells b3 [.bool false] 4, cells jb1 [.int .i64 x1.k, .int .i64 (x1.f : Int), .int .i64 (x1.t : Int)] 65]
   refine TC.block (TC.seq (TC.region (TO.fieldAddr fl_65_0 rfl dc rfl (show _ = 0 from rfl) (TO.load (k := 2) sc_3 rfl dc rfl rfl rfl (TO.bin rfl dc rfl rfl bin_eql (TO.move rfl dc rfl ?_))))))
   refine TO.split (s := 10) rfl (fun hb1 => ?_) (fun hb1 => ?_)
   ·
    have h := condT hb1 h
    refine TO.fieldAddr fl_65_1 rfl dc rfl (show _ = 1 from rfl) (TO.fieldAddr fl_26_1 rfl dc rfl (show _ = 2 from rfl) (TO.load (k := 2) sc_3 rfl dc rfl rfl rfl (TO.load (k := 0) sc_9 rfl dc rfl rfl rfl (TO.lenStr rfl dc rfl Try.underlying9 (TO.bin rfl dc rfl rfl bin_eql (TO.pick (b := true) rfl dc rfl rfl ?_))))))
    refine TO.store (k := 1) (l' := [.bool (((x1.t : Int) : Int) == (s1.size : Int))]) sz_4 rfl rfl rfl rfl rfl (fun _ _ => rfl) rfl ?_
    refine TO.nil (TX.next (TC.ret (TX.blockRet ?_)))
    exact TX.roundRet (((x1.t : Int) : Int) == (s1.size : Int)) (show _ ∧ _ from ⟨rfl, h⟩) (Splits.of [0, 1] kr rfl)
   ·
    have h := condF hb1 h
    refine TO.skip rfl dc (TO.skip rfl dc (TO.skip rfl dc (TO.skip rfl dc (TO.skip rfl dc (TO.skip rfl dc (TO.pick (b := false) rfl dc rfl rfl ?_))))))
    refine TO.store (k := 1) (l' := [.bool false]) sz_4 rfl rfl rfl rfl rfl (fun _ _ => rfl) rfl ?_
    refine TO.nil (TX.next (TC.ret (TX.blockRet ?_)))
    exact TX.roundRet false (show _ ∧ _ from ⟨rfl, h⟩) (Splits.of [0, 1] kr rfl)
  ·
   rintro dm1 _ hinv
   have h : d1 = some r := hinv [] (List.append_nil _).symm
   rw [hd1] at h
   show TX _ _ _ _ _ _ _ [star ((([] : List Nat) : List Nat).map mark), emp, emp, cells b4 [.string s1] 9, cells b2 [.string s1] 9, cells b3 [.bool false] 4, mark dm1]
   refine TX.starCons (k := 6) (j := 0) rfl rfl dc ?_
   show TX _ _ _ _ _ _ _ [star ((dm1 :: ([] : List Nat) : List Nat).map mark), emp, emp, cells b4 [.string s1] 9, cells b2 [.string s1] 9, cells b3 [.bool false] 4, emp]
   refine TX.blockNormal ?_
   exact TX.meetD (b3, dm1 :: ([] : List Nat)) h rfl (Sbs.cons rfl (Sbs.nil)) (Splits.of [5, 0] kr rfl)
  ·
   rintro dm1 c pre x1 post g hxs hX
   obtain ⟨rfl, h⟩ := (show _ ∧ _ from hX)
   generalize g = x2 at *
   rw [he1] at h
   show TC _ _ _ _ _ _ _ _ _ [star ((([] : List Nat) : List Nat).map mark), emp, emp, cells b4 [.string s1] 9, cells b2 [.string s1] 9, cells b3 [.bool x2] 4, mark dm1]
   refine TC.starCons (k := 6) (j := 0) rfl rfl dc ?_
   show TC _ _ _ _ _ _ _ _ _ [star ((dm1 :: ([] : List Nat) : List Nat).map mark), emp, emp, cells b4 [.string s1] 9, cells b2 [.string s1] 9, cells b3 [.bool x2] 4, emp]
   refine TC.ret (TX.blockRet (TX.thenRet ?_))
   cases h
   exact TX.finM (rs := [.cell 2 4]) (dm1 :: ([] : List Nat)) () (.inl rfl) (Splits.open0 (k := 0) rfl) Try.results33 (.cons (.cell sc_4 (k := 5) rfl rfl) .nil) rfl Splits.nil
 ·
  rintro ⟨b1, ds1⟩ h
  rw [hj1] at h
  show TC _ _ _ _ _ (marksOf ds1) _ _ [(2, .pointer (some ⟨b1, 0, none⟩))] [cells b1 [.bool false] 4, star ((ds1 : List Nat).map mark)]
  refine TC.seq (TC.region ?_)
  refine TO.store (k := 0) (l' := [.bool false]) sz_4 rfl rfl rfl rfl rfl (fun _ _ => rfl) rfl ?_
  refine TO.nil (TX.next (TC.ret ?_))
  cases h
  exact TX.finM (rs := [.cell 2 4]) ds1 () (.inl rfl) (Splits.open0 (k := 1) rfl) Try.results33 (.cons (.cell sc_4 (k := 0) rfl rfl) .nil) rfl Splits.nil
end Go.Proofs.Ytlamcpgnmeileaa
namespace Go.Proofs.Ytlamcpgnmeileaa
open Go.RowKit Go.Lib
set_option linter.unusedVariables false
set_option linter.unusedSimpArgs false
def law07_wakes_v  : Option Bool := andThen (word_Count_v (⟨#[68, 111, 110, 39, 116, 32, 103, 111]⟩ : ByteArray)) fun (r1 : (Int × Int)) => bcond ((r1.1 : Int) == 3) ( bcond ((r1.2 : Int) == 2) ( andThen (word_Is_v (⟨#[68, 111, 110, 39, 116]⟩ : ByteArray)) fun (r2 : Bool) => bcond (r2) ( andThen (word_Is_v (⟨#[103, 111, 33]⟩ : ByteArray)) fun (r3 : Bool) => some (!r3)
) ( some false
)
) ( some false
)
) ( some false
)
set_option maxRecDepth 100000 in
set_option maxHeartbeats 4000000 in
theorem law07_wakes_fn  {r : Bool} (h : law07_wakes_v = some r) : FnP Try.prog 13 [] (.bool r) := by
 unfold law07_wakes_v at h
 refine FnP.intro Try.func13 rfl Try.ntmps13 (by simp) ?_
 intro w0 K
 refine TC.seq (TC.region (TO.assign rfl dc rfl (TO.nil (TX.next (TC.seq (TC.region ?_))))))
 obtain ⟨r1, hq1, h⟩ := andE h
 refine TO.callP (v := .tuple #[.int .i64 r1.1, .int .i64 r1.2]) (vs := [.string (⟨#[68, 111, 110, 39, 116, 32, 103, 111]⟩ : ByteArray)]) rfl dc rfl rfl rfl en_32 (word_Count_fn hq1) (TO.move rfl dc rfl (TO.extract rfl dc rfl rfl (TO.extract rfl dc rfl rfl (TO.assign rfl dc rfl (TO.assign rfl dc rfl (TO.nil (TX.next (TC.seq (TC.region (TO.move rfl dc rfl (TO.bin rfl dc rfl rfl bin_eql (TO.move rfl dc rfl ?_))))))))))))
 refine TO.split (s := 9) rfl (fun hb1 => ?_) (fun hb1 => ?_)
 ·
  have h := condT hb1 h
  refine TO.move rfl dc rfl (TO.bin rfl dc rfl rfl bin_eql (TO.pick (b := true) rfl dc rfl rfl (TO.move rfl dc rfl ?_)))
  refine TO.split (s := 13) rfl (fun hb2 => ?_) (fun hb2 => ?_)
  ·
   have h := condT hb2 h
   obtain ⟨r2, hq2, h⟩ := andE h
   refine TO.callP (v := .bool r2) (vs := [.string (⟨#[68, 111, 110, 39, 116]⟩ : ByteArray)]) rfl dc rfl rfl rfl en_33 (word_Is_fn hq2) (TO.pick (b := true) rfl dc rfl rfl (TO.move rfl dc rfl ?_))
   refine TO.split (s := 16) rfl (fun hb3 => ?_) (fun hb3 => ?_)
   ·
    have h := condT hb3 h
    obtain ⟨r3, hq3, h⟩ := andE h
    refine TO.callP (v := .bool r3) (vs := [.string (⟨#[103, 111, 33]⟩ : ByteArray)]) rfl dc rfl rfl rfl en_33 (word_Is_fn hq3) (TO.un rfl dc rfl un_not (TO.pick (b := true) rfl dc rfl rfl (TO.assign rfl dc rfl (TO.nil (TX.next (TC.ret ?_))))))
    cases h
    exact TX.fin (rs := [.tmp 0]) () (.inl rfl) Try.results13 (.cons (.tmp rfl) .nil) rfl Splits.nil
   ·
    have h := condF hb3 h
    refine TO.skip rfl dc (TO.skip rfl dc (TO.pick (b := false) rfl dc rfl rfl (TO.assign rfl dc rfl (TO.nil (TX.next (TC.ret ?_))))))
    cases h
    exact TX.fin (rs := [.tmp 0]) () (.inl rfl) Try.results13 (.cons (.tmp rfl) .nil) rfl Splits.nil
  ·
   have h := condF hb2 h
   refine TO.skip rfl dc (TO.pick (b := false) rfl dc rfl rfl (TO.move rfl dc rfl (TO.skip rfl dc (TO.skip rfl dc (TO.pick (b := false) rfl dc rfl rfl (TO.assign rfl dc rfl (TO.nil (TX.next (TC.ret ?_)))))))))
   cases h
   exact TX.fin (rs := [.tmp 0]) () (.inl rfl) Try.results13 (.cons (.tmp rfl) .nil) rfl Splits.nil
 ·
  have h := condF hb1 h
  refine TO.skip rfl dc (TO.skip rfl dc (TO.pick (b := false) rfl dc rfl rfl (TO.move rfl dc rfl (TO.skip rfl dc (TO.pick (b := false) rfl dc rfl rfl (TO.move rfl dc rfl (TO.skip rfl dc (TO.skip rfl dc (TO.pick (b := false) rfl dc rfl rfl (TO.assign rfl dc rfl (TO.nil (TX.next (TC.ret ?_)))))))))))))
  cases h
  exact TX.fin (rs := [.tmp 0]) () (.inl rfl) Try.results13 (.cons (.tmp rfl) .nil) rfl Splits.nil
end Go.Proofs.Ytlamcpgnmeileaa
namespace Go.Proofs.Ytlamcpgnmeileaa
open Go.RowKit Go.Lib
set_option linter.unusedVariables false
set_option linter.unusedSimpArgs false
def law07_cut_v (s1 : ByteArray) : Option ByteArray := bcond (decide ((2048 : Int) < (s1.size : Int))) ( grd (0 ≤ (0 : Int) ∧ (0 : Int) ≤ 2048 ∧ (2048 : Int) ≤ (s1.size : Int)) <| some (cutB s1 0 2048)
) ( some s1
)
set_option maxRecDepth 100000 in
set_option maxHeartbeats 4000000 in
theorem law07_cut_fn {s1 : ByteArray} {r : ByteArray} (h : law07_cut_v s1 = some r) : FnP Try.prog 14 [.string s1] (.string r) := by
 unfold law07_cut_v at h
 refine FnP.intro Try.func14 rfl Try.ntmps14 (by simp) ?_
 intro w0 K
 refine TC.seq (TC.region (TO.assign rfl dc rfl (TO.nil (TX.next (TC.seq (TC.seq (TC.region (TO.move rfl dc rfl (TO.lenStr rfl dc rfl Try.underlying9 (TO.bin rfl dc rfl rfl bin_gtr (TO.nil (TX.next ?_))))))))))))
 refine TC.condB rfl (fun hb1 => ?_) (fun hb1 => ?_)
 ·
  have h := condT hb1 h
  refine TC.seq (TC.region (TO.move rfl dc rfl ?_))
  obtain ⟨hg1, h⟩ := grdE h
  refine TO.slice rfl dc rfl rfl rfl (slice_stringI (i := 0) (j := 2048) Try.underlying9 (.inl ⟨rfl, rfl⟩) (.inr rfl) hg1) (TO.assign rfl dc rfl (TO.nil (TX.next (TC.ret (TX.thenRet ?_)))))
  cases h
  exact TX.fin (rs := [.tmp 2]) () (.inl rfl) Try.results14 (.cons (.tmp rfl) .nil) rfl Splits.nil
 ·
  have h := condF hb1 h
  refine TC.skip (TX.next (TC.seq (TC.region (TO.move rfl dc rfl (TO.assign rfl dc rfl (TO.nil (TX.next (TC.ret ?_))))))))
  cases h
  exact TX.fin (rs := [.tmp 2]) () (.inl rfl) Try.results14 (.cons (.tmp rfl) .nil) rfl Splits.nil
end Go.Proofs.Ytlamcpgnmeileaa
namespace Go.Proofs.Ytlamcpgnmeileaa
open Go.RowKit Go.Lib
set_option linter.unusedVariables false
set_option linter.unusedSimpArgs false
def law07_WordLetters_s1 (x1 : Nat × Nat) (ag1 : (List Gapi_Span) → Option Bool) (l4 : List Gapi_Span) : Option Bool := grd (l4.length + 1 ≤ 2147483648) <| ag1 (l4 ++ [(⟨(x1.1 : Int), (x1.2 : Int)⟩ : Gapi_Span)])
def law07_WordLetters_s2 (s2 : ByteArray) (l1 : List Gapi_Span) (j2 : Int → Option Bool) (ag2 : Int → Int → Nat → Option Bool) (next4 : Int) (stop3 : Int) (m3 : Nat) : Option Bool := bcond (decide (m3 < (pcs s2.data.toList).length)) ( andThen ((pcs s2.data.toList)[m3]?) fun (p1 : Pc) => joinK (fun (j3 : Int → Int → Option Bool) => bcond (decide ((next4 : Int) < (l1.length : Int))) ( andThen (getO l1 next4) fun (q1 : Gapi_Span) => bcond (((p1.i : Int) : Int) == q1.From) ( andThen (getO l1 next4) fun (q2 : Gapi_Span) => grd (I64 (next4 + 1)) <| grd (I32 (p1.r : Int)) <| bcond (((kind (p1.r : Int)) : Int) != 1) ( some false
) ( j3 (next4 + 1) q2.To
)
) ( j3 next4 stop3
)
) ( j3 next4 stop3
)
) (fun (next5 : Int) (stop4 : Int) => grd (I32 (p1.r : Int)) <| bcond (((kind (p1.r : Int)) : Int) == 1) ( bcond (!(decide (((p1.i : Int) : Int) < stop4))) ( some false
) ( bcond (decide (((p1.i : Int) : Int) < stop4)) ( bcond (((kind (p1.r : Int)) : Int) != 1) ( bcond (((kind (p1.r : Int)) : Int) != 2) ( bcond (((p1.r : Int) : Int) != 39) ( bcond (((p1.r : Int) : Int) != 8217) ( bcond (((p1.r : Int) : Int) != 45) ( bcond (((p1.r : Int) : Int) != 8208) ( some false
) ( bcond (decide (((p1.i : Int) : Int) < stop4)) ( grd (I64 ((p1.i : Int) + ((Utf8.encode (p1.r : Int)).size : Int))) <| bcond ((((p1.i : Int) + ((Utf8.encode (p1.r : Int)).size : Int)) : Int) == stop4) ( bcond (((kind (p1.r : Int)) : Int) != 1) ( bcond (((kind (p1.r : Int)) : Int) != 2) ( some false
) ( ag2 next5 stop4 (m3 + 1)
)
) ( ag2 next5 stop4 (m3 + 1)
)
) ( ag2 next5 stop4 (m3 + 1)
)
) ( ag2 next5 stop4 (m3 + 1)
)
)
) ( bcond (decide (((p1.i : Int) : Int) < stop4)) ( grd (I64 ((p1.i : Int) + ((Utf8.encode (p1.r : Int)).size : Int))) <| bcond ((((p1.i : Int) + ((Utf8.encode (p1.r : Int)).size : Int)) : Int) == stop4) ( bcond (((kind (p1.r : Int)) : Int) != 1) ( bcond (((kind (p1.r : Int)) : Int) != 2) ( some false
) ( ag2 next5 stop4 (m3 + 1)
)
) ( ag2 next5 stop4 (m3 + 1)
)
) ( ag2 next5 stop4 (m3 + 1)
)
) ( ag2 next5 stop4 (m3 + 1)
)
)
) ( bcond (decide (((p1.i : Int) : Int) < stop4)) ( grd (I64 ((p1.i : Int) + ((Utf8.encode (p1.r : Int)).size : Int))) <| bcond ((((p1.i : Int) + ((Utf8.encode (p1.r : Int)).size : Int)) : Int) == stop4) ( bcond (((kind (p1.r : Int)) : Int) != 1) ( bcond (((kind (p1.r : Int)) : Int) != 2) ( some false
) ( ag2 next5 stop4 (m3 + 1)
)
) ( ag2 next5 stop4 (m3 + 1)
)
) ( ag2 next5 stop4 (m3 + 1)
)
) ( ag2 next5 stop4 (m3 + 1)
)
)
) ( bcond (decide (((p1.i : Int) : Int) < stop4)) ( grd (I64 ((p1.i : Int) + ((Utf8.encode (p1.r : Int)).size : Int))) <| bcond ((((p1.i : Int) + ((Utf8.encode (p1.r : Int)).size : Int)) : Int) == stop4) ( bcond (((kind (p1.r : Int)) : Int) != 1) ( bcond (((kind (p1.r : Int)) : Int) != 2) ( some false
) ( ag2 next5 stop4 (m3 + 1)
)
) ( ag2 next5 stop4 (m3 + 1)
)
) ( ag2 next5 stop4 (m3 + 1)
)
) ( ag2 next5 stop4 (m3 + 1)
)
)
) ( bcond (decide (((p1.i : Int) : Int) < stop4)) ( grd (I64 ((p1.i : Int) + ((Utf8.encode (p1.r : Int)).size : Int))) <| bcond ((((p1.i : Int) + ((Utf8.encode (p1.r : Int)).size : Int)) : Int) == stop4) ( bcond (((kind (p1.r : Int)) : Int) != 1) ( bcond (((kind (p1.r : Int)) : Int) != 2) ( some false
) ( ag2 next5 stop4 (m3 + 1)
)
) ( ag2 next5 stop4 (m3 + 1)
)
) ( ag2 next5 stop4 (m3 + 1)
)
) ( ag2 next5 stop4 (m3 + 1)
)
)
) ( bcond (decide (((p1.i : Int) : Int) < stop4)) ( grd (I64 ((p1.i : Int) + ((Utf8.encode (p1.r : Int)).size : Int))) <| bcond ((((p1.i : Int) + ((Utf8.encode (p1.r : Int)).size : Int)) : Int) == stop4) ( bcond (((kind (p1.r : Int)) : Int) != 1) ( bcond (((kind (p1.r : Int)) : Int) != 2) ( some false
) ( ag2 next5 stop4 (m3 + 1)
)
) ( ag2 next5 stop4 (m3 + 1)
)
) ( ag2 next5 stop4 (m3 + 1)
)
) ( ag2 next5 stop4 (m3 + 1)
)
)
) ( bcond (decide (((p1.i : Int) : Int) < stop4)) ( grd (I64 ((p1.i : Int) + ((Utf8.encode (p1.r : Int)).size : Int))) <| bcond ((((p1.i : Int) + ((Utf8.encode (p1.r : Int)).size : Int)) : Int) == stop4) ( bcond (((kind (p1.r : Int)) : Int) != 1) ( bcond (((kind (p1.r : Int)) : Int) != 2) ( some false
) ( ag2 next5 stop4 (m3 + 1)
)
) ( ag2 next5 stop4 (m3 + 1)
)
) ( ag2 next5 stop4 (m3 + 1)
)
) ( ag2 next5 stop4 (m3 + 1)
)
)
)
) ( bcond (decide (((p1.i : Int) : Int) < stop4)) ( bcond (((kind (p1.r : Int)) : Int) != 1) ( bcond (((kind (p1.r : Int)) : Int) != 2) ( bcond (((p1.r : Int) : Int) != 39) ( bcond (((p1.r : Int) : Int) != 8217) ( bcond (((p1.r : Int) : Int) != 45) ( bcond (((p1.r : Int) : Int) != 8208) ( some false
) ( bcond (decide (((p1.i : Int) : Int) < stop4)) ( grd (I64 ((p1.i : Int) + ((Utf8.encode (p1.r : Int)).size : Int))) <| bcond ((((p1.i : Int) + ((Utf8.encode (p1.r : Int)).size : Int)) : Int) == stop4) ( bcond (((kind (p1.r : Int)) : Int) != 1) ( bcond (((kind (p1.r : Int)) : Int) != 2) ( some false
) ( ag2 next5 stop4 (m3 + 1)
)
) ( ag2 next5 stop4 (m3 + 1)
)
) ( ag2 next5 stop4 (m3 + 1)
)
) ( ag2 next5 stop4 (m3 + 1)
)
)
) ( bcond (decide (((p1.i : Int) : Int) < stop4)) ( grd (I64 ((p1.i : Int) + ((Utf8.encode (p1.r : Int)).size : Int))) <| bcond ((((p1.i : Int) + ((Utf8.encode (p1.r : Int)).size : Int)) : Int) == stop4) ( bcond (((kind (p1.r : Int)) : Int) != 1) ( bcond (((kind (p1.r : Int)) : Int) != 2) ( some false
) ( ag2 next5 stop4 (m3 + 1)
)
) ( ag2 next5 stop4 (m3 + 1)
)
) ( ag2 next5 stop4 (m3 + 1)
)
) ( ag2 next5 stop4 (m3 + 1)
)
)
) ( bcond (decide (((p1.i : Int) : Int) < stop4)) ( grd (I64 ((p1.i : Int) + ((Utf8.encode (p1.r : Int)).size : Int))) <| bcond ((((p1.i : Int) + ((Utf8.encode (p1.r : Int)).size : Int)) : Int) == stop4) ( bcond (((kind (p1.r : Int)) : Int) != 1) ( bcond (((kind (p1.r : Int)) : Int) != 2) ( some false
) ( ag2 next5 stop4 (m3 + 1)
)
) ( ag2 next5 stop4 (m3 + 1)
)
) ( ag2 next5 stop4 (m3 + 1)
)
) ( ag2 next5 stop4 (m3 + 1)
)
)
) ( bcond (decide (((p1.i : Int) : Int) < stop4)) ( grd (I64 ((p1.i : Int) + ((Utf8.encode (p1.r : Int)).size : Int))) <| bcond ((((p1.i : Int) + ((Utf8.encode (p1.r : Int)).size : Int)) : Int) == stop4) ( bcond (((kind (p1.r : Int)) : Int) != 1) ( bcond (((kind (p1.r : Int)) : Int) != 2) ( some false
) ( ag2 next5 stop4 (m3 + 1)
)
) ( ag2 next5 stop4 (m3 + 1)
)
) ( ag2 next5 stop4 (m3 + 1)
)
) ( ag2 next5 stop4 (m3 + 1)
)
)
) ( bcond (decide (((p1.i : Int) : Int) < stop4)) ( grd (I64 ((p1.i : Int) + ((Utf8.encode (p1.r : Int)).size : Int))) <| bcond ((((p1.i : Int) + ((Utf8.encode (p1.r : Int)).size : Int)) : Int) == stop4) ( bcond (((kind (p1.r : Int)) : Int) != 1) ( bcond (((kind (p1.r : Int)) : Int) != 2) ( some false
) ( ag2 next5 stop4 (m3 + 1)
)
) ( ag2 next5 stop4 (m3 + 1)
)
) ( ag2 next5 stop4 (m3 + 1)
)
) ( ag2 next5 stop4 (m3 + 1)
)
)
) ( bcond (decide (((p1.i : Int) : Int) < stop4)) ( grd (I64 ((p1.i : Int) + ((Utf8.encode (p1.r : Int)).size : Int))) <| bcond ((((p1.i : Int) + ((Utf8.encode (p1.r : Int)).size : Int)) : Int) == stop4) ( bcond (((kind (p1.r : Int)) : Int) != 1) ( bcond (((kind (p1.r : Int)) : Int) != 2) ( some false
) ( ag2 next5 stop4 (m3 + 1)
)
) ( ag2 next5 stop4 (m3 + 1)
)
) ( ag2 next5 stop4 (m3 + 1)
)
) ( ag2 next5 stop4 (m3 + 1)
)
)
) ( bcond (decide (((p1.i : Int) : Int) < stop4)) ( grd (I64 ((p1.i : Int) + ((Utf8.encode (p1.r : Int)).size : Int))) <| bcond ((((p1.i : Int) + ((Utf8.encode (p1.r : Int)).size : Int)) : Int) == stop4) ( bcond (((kind (p1.r : Int)) : Int) != 1) ( bcond (((kind (p1.r : Int)) : Int) != 2) ( some false
) ( ag2 next5 stop4 (m3 + 1)
)
) ( ag2 next5 stop4 (m3 + 1)
)
) ( ag2 next5 stop4 (m3 + 1)
)
) ( ag2 next5 stop4 (m3 + 1)
)
)
)
)
) ( j2 next4
)
def law07_WordLetters_s4 (j5 : Option Bool) (r3 : ByteArray) (ag4 : Nat → Option Bool) (m6 : Nat) : Option Bool := bcond (decide (m6 < (pcs r3.data.toList).length)) ( andThen ((pcs r3.data.toList)[m6]?) fun (p2 : Pc) => grd (I32 (p2.r : Int)) <| bcond (((kind (p2.r : Int)) : Int) == 2) ( some false
) ( grd (I32 (p2.r : Int)) <| bcond (great (p2.r : Int)) ( some false
) ( ag4 (m6 + 1)
)
)
) ( j5
)
def law07_WordLetters_s3 (s2 : ByteArray) (l1 : List Gapi_Span) (j4 : Option Bool) (ag3 : Int → Option Bool) (x4 : Int) : Option Bool := bcond (decide ((x4 : Int) < (l1.length : Int))) ( joinK (fun (j5 : Option Bool) => andThen (getO l1 x4) fun (q3 : Gapi_Span) => grd (0 ≤ (q3.From : Int) ∧ (q3.From : Int) ≤ q3.To ∧ (q3.To : Int) ≤ (s2.size : Int)) <| andThen (fold_Fold_v (cutB s2 q3.From q3.To)) fun (r3 : ByteArray) => loopG (fun _ => none) (law07_WordLetters_s4 j5 r3) fuel 0
) ( grd (I64 (x4 + 1)) <| ag3 (x4 + 1)
)
) ( j4
)
def law07_WordLetters_v (s1 : ByteArray) : Option Bool := andThen (law07_wakes_v) fun (r1 : Bool) => bcond (!r1) ( some false
) ( joinK (fun (j1 : ByteArray → (List Gapi_Span) → Option Bool) => andThen (law07_cut_v s1) fun (r2 : ByteArray) => grd (r2.size ≤ 4611686018427387904) <| joinK (fun (d1 : (List Gapi_Span) → Option Bool) => rangeG d1 (law07_WordLetters_s1) (wsOf r2) ([] : List Gapi_Span)
) (fun (l4 : List Gapi_Span) => j1 r2 l4
)
) (fun (s2 : ByteArray) (l1 : List Gapi_Span) => joinK (fun (j2 : Int → Option Bool) => loopG (fun _ _ _ => none) (law07_WordLetters_s2 s2 l1 j2) fuel 0 0 0
) (fun (next1 : Int) => joinK (fun (j4 : Option Bool) => loopG (fun _ => none) (law07_WordLetters_s3 s2 l1 j4) fuel 0
) ( bcond ((next1 : Int) == (l1.length : Int)) ( andThen (law07_wakes_v) fun (r4 : Bool) => some r4
) ( some false
)
)
)
)
)
set_option maxRecDepth 100000 in
set_option maxHeartbeats 4000000 in
theorem law07_WordLetters_fn {s1 : ByteArray} {r : Bool} (h : law07_WordLetters_v s1 = some r) : FnP Try.prog 5 [.string s1] (.bool r) := by
 unfold law07_WordLetters_v at h
 refine FnP.intro Try.func5 rfl Try.ntmps5 (by simp) ?_
 intro w0 K
 refine TC.star0 ?_
 show TC _ _ _ _ _ _ _ _ _ [star ((([] : List Nat) : List Nat).map mark)]
 refine TC.seq (TC.region (TO.assign rfl dc rfl (TO.nil (TX.next (TC.seq (TC.seq (TC.region ?_)))))))
 obtain ⟨r1, hq1, h⟩ := andE h
 refine TO.callP (v := .bool r1) (vs := []) rfl dc rfl rfl rfl en_13 (law07_wakes_fn hq1) (TO.un rfl dc rfl un_not (TO.nil (TX.next ?_)))
 refine TC.condB rfl (fun hb1 => ?_) (fun hb1 => ?_)
 ·
  have h := condT hb1 h
  refine TC.seq (TC.region (TO.assign rfl dc rfl (TO.nil (TX.next (TC.ret (TX.thenRet ?_))))))
  cases h
  exact TX.finM (rs := [.tmp 2]) ([] : List Nat) () (.inl rfl) (Splits.open0 (k := 0) rfl) Try.results5 (.cons (.tmp rfl) .nil) rfl Splits.nil
 ·
  have h := condF hb1 h
  refine TC.skip (TX.next ?_)
  obtain ⟨j1, hj1, h⟩ := joinE h
  refine TC.cutN (β := ByteArray × (List Gapi_Span) × Nat × Value × (List Nat)) 3 rfl (fun b => j1 b.1 b.2.1 = some r) (fun b => marksOf b.2.2.2.2) (fun b => [(0, .string b.1), (3, .int .i64 0), (4, .int .i64 0), (5, .pointer (some ⟨b.2.2.1, 0, none⟩))]) (fun b => [cells b.2.2.1 [b.2.2.2.1] 33, vec enc_Gapi_Span 26 2 b.2.2.2.1 b.2.1, star ((b.2.2.2.2 : List Nat).map mark)]) (fun cut => ?_) ?_
  ·
   refine TC.seq (TC.region (TO.move rfl dc rfl ?_))
   obtain ⟨r2, hq2, h⟩ := andE h
   refine TO.callP (v := .string r2) (vs := [.string s1]) rfl dc rfl rfl rfl en_14 (law07_cut_fn hq2) (TO.assign rfl dc rfl (TO.nil (TX.next (TC.seq (TC.region (TO.assign rfl dc rfl (TO.assign rfl dc rfl (TO.nil (TX.next (TC.seq (TC.region ?_)))))))))))
   refine TO.alloc zr_33 rfl dc (fun b2 => ?_)
   refine TO.nil (TX.next (cut (TC.seq (TC.region (TO.move rfl dc rfl (TO.call (vs := [.string r2]) rfl dc rfl rfl rfl en_15 (words_fn r2) Splits.nil ?_))))))
   rintro b3
   show TO _ _ _ _ _ _ _ _ _ _ [star ((([] : List Nat) : List Nat).map mark), cells b2 [.slice none 0 0] 33, cells b3 [.string r2] 9]
   refine TO.nil (TX.next (TC.block ?_))
   obtain ⟨hg1, h⟩ := grdE h
   refine TC.newVec (enc := enc_Gapi_Span) (e := 26) (size := 2) ?_
   show TC _ _ _ _ _ _ _ _ _ [star ((([] : List Nat) : List Nat).map mark), cells b2 [.slice none 0 0] 33, cells b3 [.string r2] 9, vec enc_Gapi_Span 26 2 (.slice none 0 0) ([] : List Gapi_Span)]
   obtain ⟨d1, hd1, h⟩ := joinE h
   refine TC.range (α := Nat × Nat) (β := (List Gapi_Span) × Value) (γ := Unit) (δ := Nat) (ps := [21]) Ro.nil rfl en_34 (words1_itr r2 hg1 b3) (fun pre b => ∀ post, wsOf r2 = pre ++ post → rangeG d1 (law07_WordLetters_s1) post b.1 = some r) (fun pre b => [cells b2 [b.2] 33, vec enc_Gapi_Span 26 2 b.2 b.1]) (fun c pre g => False) (fun c pre g => []) (fun pre x b j => [(0, .string r2), (2, .bool false), (3, .int .i64 0), (4, .int .i64 0), (5, .pointer (some ⟨b2, 0, none⟩)), (20, .func (.func 34) #[] #[.pointer (some ⟨b3, 0, none⟩)]), (6, .pointer (some ⟨j, 0, none⟩))]) (fun pre x b j => [cells b2 [b.2] 33, vec enc_Gapi_Span 26 2 b.2 b.1, cells j [.int .i64 (x.1 : Int), .int .i64 (x.2 : Int)] 26]) (([] : List Gapi_Span), (.slice none 0 0)) (fun post e => by rw [List.nil_append] at e; subst e; exact h) (Splits.of [1, 3] kr rfl) ⟨.inl ⟨2, rfl⟩, trivial⟩ (fun _ => rfl) dc ?_ ?_ ?_ ?_
   ·
    rintro lp rc pre x1 post ⟨l4, v4⟩ w1 K1 hxs1 hext hro hinv
    refine TC.region ?_
    refine TO.alloc zr_26 rfl dc (fun b4 => ?_)
    refine TO.stores (k := 2) (vs := [.int .i64 (x1.1 : Int), .int .i64 (x1.2 : Int)]) (l' := [.int .i64 (x1.1 : Int), .int .i64 (x1.2 : Int)]) sz_26 rfl rfl rfl rfl rfl (show _ ≤ _ by simp) rfl rfl ?_
    show TO _ _ _ _ _ _ _ _ _ _ [cells b2 [v4] 33, vec enc_Gapi_Span 26 2 v4 l4, cells b4 [.int .i64 (x1.1 : Int), .int .i64 (x1.2 : Int)] 26]
    refine TO.nil ?_
    exact fun a w ha hw => ⟨b4, (Sbs.cons rfl (Sbs.cons rfl (Sbs.cons rfl (Sbs.cons rfl (Sbs.cons rfl (Sbs.cons rfl (Sbs.cons rfl (Sbs.nil)))))))) _ _ _ ha, hw.weaken (Splits.of [0, 1, 2] kr rfl)⟩
   ·
    rintro lp rc pre x1 post1 ⟨l4, v4⟩ jb1 w1 K1 hxs1 hext hro hinv
    have h := hinv (x1 :: post1) hxs1
    obtain ⟨ag1, hag1⟩ : ∃ ag, ag = rangeG d1 (law07_WordLetters_s1) post1 := ⟨_, rfl⟩
    have h : law07_WordLetters_s1 x1 ag1 l4 = some r := by rw [hag1]; exact h
    unfold law07_WordLetters_s1 at h
    show TC _ _ _ _ _ _ _ _ [(0, .string r2), (2, .bool false), (3, .int .i64 0), (4, .int .i64 0), (5, .pointer (some ⟨b2, 0, none⟩)), (20, .func (.func 34) #[] #[.pointer (some ⟨b3, 0, none⟩)]), (6, .pointer (some ⟨jb1, 0, none⟩))] [cells b2 [v4] 33, vec enc_Gapi_Span 26 2 v4 l4, cells jb1 [.int .i64 (x1.1 : Int), .int .i64 (x1.2 : Int)] 26]
    refine TC.block (TC.region (TO.load (k := 0) sc_33 rfl dc rfl rfl rfl (TO.loads (k := 2) (cs := [.int .i64 (x1.1 : Int), .int .i64 (x1.2 : Int)]) rw_26 rfl dc rfl rfl rfl rfl ?_)))
    refine TO.buildSlice (cs := [.int .i64 (x1.1 : Int), .int .i64 (x1.2 : Int)]) (te := 26) (ps := [(0, .tmp 23)]) rfl dc rfl (fun _ => by kernel_rfl) (fun b5 => ?_)
    obtain ⟨hg2, h⟩ := grdE h
    refine TO.appendVec (k := 1) (k2 := 3) (ys := [(⟨(x1.1 : Int), (x1.2 : Int)⟩ : Gapi_Span)]) Try.underlying33 el_26 enc_Gapi_Span_len enc_Gapi_Span_one rfl dc rfl rfl rfl rfl rfl rfl hg2 (fun v5 => ?_)
    show TO _ _ _ _ _ _ _ _ _ _ [cells b2 [v4] 33, vec enc_Gapi_Span 26 2 v5 (l4 ++ [(⟨(x1.1 : Int), (x1.2 : Int)⟩ : Gapi_Span)]), cells jb1 [.int .i64 (x1.1 : Int), .int .i64 (x1.2 : Int)] 26, cells b5 [.int .i64 (x1.1 : Int), .int .i64 (x1.2 : Int)] 26]
    refine TO.store (k := 0) (l' := [v5]) sz_33 rfl rfl rfl rfl rfl (fun _ h => one_vec h (k := 1) rfl) rfl ?_
    refine TO.nil (TX.blockNormal ?_)
    exact TX.round (l4 ++ [(⟨(x1.1 : Int), (x1.2 : Int)⟩ : Gapi_Span)], v5) (fun post2 e2 => by have e9 := snoc_post hxs1 e2; subst e9; subst hag1; exact h) (Splits.of [0, 1] kr rfl)
   ·
    rintro dm1 ⟨l4, v4⟩ hinv
    have h : d1 l4 = some r := hinv [] (List.append_nil _).symm
    rw [hd1] at h
    show TX _ _ _ _ _ _ _ [star ((([] : List Nat) : List Nat).map mark), emp, cells b3 [.string r2] 9, emp, cells b2 [v4] 33, vec enc_Gapi_Span 26 2 v4 l4, mark dm1]
    refine TX.starCons (k := 6) (j := 0) rfl rfl dc ?_
    show TX _ _ _ _ _ _ _ [star ((dm1 :: ([] : List Nat) : List Nat).map mark), emp, cells b3 [.string r2] 9, emp, cells b2 [v4] 33, vec enc_Gapi_Span 26 2 v4 l4, emp]
    refine TX.blockNormal ?_
    exact TX.meetD (r2, l4, b2, v4, dm1 :: ([] : List Nat)) h rfl (Sbs.cons rfl (Sbs.cons rfl (Sbs.cons rfl (Sbs.cons rfl (Sbs.nil))))) (Splits.of [4, 5, 0] kr rfl)
   ·
    rintro dm1 c pre x1 post g hxs hX
    exact (show False from hX).elim
  ·
   rintro ⟨s2, l1, b1, v1, ds1⟩ h
   rw [hj1] at h
   show TC _ _ _ _ _ (marksOf ds1) _ _ [(0, .string s2), (3, .int .i64 0), (4, .int .i64 0), (5, .pointer (some ⟨b1, 0, none⟩))] [cells b1 [v1] 33, vec enc_Gapi_Span 26 2 v1 l1, star ((ds1 : List Nat).map mark)]
   obtain ⟨j2, hj2, h⟩ := joinE h
   refine TC.cutN (β := Int) 0 rfl (fun b => j2 b = some r) (fun b => marksOf ds1) (fun b => [(0, .string s2), (3, .int .i64 b), (5, .pointer (some ⟨b1, 0, none⟩))]) (fun b => [cells b1 [v1] 33, vec enc_Gapi_Span 26 2 v1 l1, star ((ds1 : List Nat).map mark)]) (fun cut => ?_) ?_
   ·
    refine cut (TC.seq (TC.region (TO.move rfl dc rfl ?_)))
    refine TO.rangeStr Try.underlying9 rfl dc rfl (fun b6 => ?_)
    refine TO.nil (TX.next (TC.block ?_))
    refine TC.loopD (β := Nat × Int × Int × Nat) (fun b => loopG (fun _ _ _ => none) (law07_WordLetters_s2 s2 l1 j2) b.1 b.2.1 b.2.2.1 b.2.2.2 = some r) (fun b => marksOf ds1) (fun b => [(0, .string s2), (3, .int .i64 b.2.1), (4, .int .i64 b.2.2.1), (5, .pointer (some ⟨b1, 0, none⟩)), (27, .pointer (some ⟨b6, 0, none⟩))]) (fun b => [cells b1 [v1] 33, vec enc_Gapi_Span 26 2 v1 l1, obj b6 (.stringIter s2 (posAt s2 b.2.2.2)), star ((ds1 : List Nat).map mark)]) (fun b => b.1) (fuel, 0, 0, 0) h rfl (Sbs.cons rfl (Sbs.cons rfl (Sbs.cons rfl (Sbs.cons rfl (Sbs.cons rfl (Sbs.nil)))))) (Splits.of [0, 1, 3, 2] kr rfl) ?_
    rintro ⟨n1, next4, stop3, m3⟩ h
    cases n1 with
    | zero => exact noneE h
    | succ n1 =>
     obtain ⟨ag2, hag2⟩ : ∃ ag, ag = loopG (fun _ _ _ => none) (law07_WordLetters_s2 s2 l1 j2) n1 := ⟨_, rfl⟩
     have h : law07_WordLetters_s2 s2 l1 j2 ag2 next4 stop3 m3 = some r := by rw [hag2]; exact h
     unfold law07_WordLetters_s2 at h
     show TC _ _ _ _ _ (marksOf ds1) _ _ [(0, .string s2), (3, .int .i64 next4), (4, .int .i64 stop3), (5, .pointer (some ⟨b1, 0, none⟩)), (27, .pointer (some ⟨b6, 0, none⟩))] [cells b1 [v1] 33, vec enc_Gapi_Span 26 2 v1 l1, obj b6 (.stringIter s2 (posAt s2 m3)), star ((ds1 : List Nat).map mark)]
     refine TC.seq (TC.region ?_)
     refine TO.bySplit (b := decide (m3 < (pcs s2.data.toList).length)) (fun hb2 => ?_) (fun hb2 => ?_)
     ·
      have h := condT hb2 h
      obtain ⟨p1, hq3, h⟩ := andE h
      refine TO.nextStr (k := 2) (m := m3) (p := p1) rfl dc rfl rfl hq3 (TO.extract rfl dc rfl rfl (TO.nil (TX.next (TC.seq (TC.condT rfl (TC.skip (TX.next (TC.block ?_))))))))
      obtain ⟨j3, hj3, h⟩ := joinE h
      refine TC.cutN (β := Int × Int) 1 rfl (fun b => j3 b.1 b.2 = some r) (fun b => marksOf ds1) (fun b => [(0, .string s2), (3, .int .i64 b.1), (4, .int .i64 b.2), (5, .pointer (some ⟨b1, 0, none⟩)), (7, .int .i64 (p1.i : Int)), (8, .int .i32 (p1.r : Int)), (27, .pointer (some ⟨b6, 0, none⟩))]) (fun b => [cells b1 [v1] 33, vec enc_Gapi_Span 26 2 v1 l1, obj b6 (.stringIter s2 (posAt s2 (m3 + 1))), star ((ds1 : List Nat).map mark)]) (fun cut => ?_) ?_
      ·
       refine TC.seq (TC.region (TO.extract rfl dc rfl rfl (TO.extract rfl dc rfl rfl (TO.assign rfl dc rfl (TO.assign rfl dc rfl (TO.nil (TX.next (cut (TC.seq (TC.region (TO.move rfl dc rfl (TO.load (k := 0) sc_33 rfl dc rfl rfl rfl (TO.lenVec (k := 1) rfl dc rfl rfl Try.underlying33 ?_)))))))))))))
       refine TO.bin rfl dc rfl rfl bin_lss (TO.move rfl dc rfl ?_)
       refine TO.split (s := 36) rfl (fun hb3 => ?_) (fun hb3 => ?_)
       ·
        have h := condT hb3 h
        refine TO.move rfl dc rfl (TO.load (k := 0) sc_33 rfl dc rfl rfl rfl (TO.move rfl dc rfl ?_))
        obtain ⟨q1, hq4, h⟩ := andE h
        refine TO.indexVecI (k := 1) hq4 Try.underlying33 sz_26 rfl dc rfl rfl rfl rfl (TO.fieldAddr fl_26_0 rfl dc rfl (show _ = ((next4 : Int).toNat) * 2 from rfl) (TO.loadVec (i := (next4 : Int).toNat) (j := 0) (k := 1) (q := q1) sc_3 enc_Gapi_Span_len rfl dc rfl rfl (getO_get hq4) rfl dc rfl (TO.bin rfl dc rfl rfl bin_eql (TO.pick (b := true) rfl dc rfl rfl (TO.nil (TX.next ?_))))))
        refine TC.condB rfl (fun hb4 => ?_) (fun hb4 => ?_)
        ·
         have h := condT hb4 h
         refine TC.seq (TC.region (TO.load (k := 0) sc_33 rfl dc rfl rfl rfl (TO.move rfl dc rfl ?_)))
         obtain ⟨q2, hq5, h⟩ := andE h
         refine TO.indexVecI (k := 1) hq5 Try.underlying33 sz_26 rfl dc rfl rfl rfl rfl (TO.fieldAddr fl_26_1 rfl dc rfl (show _ = ((next4 : Int).toNat) * 2 + 1 from rfl) (TO.loadVec (i := (next4 : Int).toNat) (j := 1) (k := 1) (q := q2) sc_3 enc_Gapi_Span_len rfl dc rfl rfl (getO_get hq5) rfl dc rfl (TO.assign rfl dc rfl (TO.nil (TX.next (TC.seq (TC.region (TO.move rfl dc rfl ?_))))))))
         obtain ⟨hg3, h⟩ := grdE h
         refine TO.bin rfl dc rfl rfl (bin_add (r := next4 + 1) (IntWalk.i64_in _ hg3)) (TO.assign rfl dc rfl (TO.nil (TX.next (TC.seq (TC.region (TO.move rfl dc rfl ?_))))))
         obtain ⟨hg4, h⟩ := grdE h
         refine TO.callP (v := .int .i64 (kind (p1.r : Int))) (vs := [.int .i32 (p1.r : Int)]) rfl dc rfl rfl rfl en_16 (FnP.of_same fun w => kind_any (p1.r : Int) w hg4.1 hg4.2) ?_
         refine TO.bin rfl dc rfl rfl bin_neq (TO.nil (TX.next ?_))
         refine TC.condB rfl (fun hb5 => ?_) (fun hb5 => ?_)
         ·
          have h := condT hb5 h
          refine TC.seq (TC.region (TO.assign rfl dc rfl (TO.nil (TX.next (TC.ret (TX.thenRet (TX.blockRet (TX.thenRet (TX.blockRet (TX.thenRet ?_))))))))))
          cases h
          exact TX.finM (rs := [.tmp 2]) ds1 () (.inl rfl) (Splits.open0 (k := 3) rfl) Try.results5 (.cons (.tmp rfl) .nil) rfl Splits.nil
         ·
          have h := condF hb5 h
          refine TC.skip ?_
          exact TX.meetD (next4 + 1, q2.To) h rfl (Sbs.cons rfl (Sbs.cons rfl (Sbs.cons rfl (Sbs.cons rfl (Sbs.cons rfl (Sbs.cons rfl (Sbs.cons rfl (Sbs.nil)))))))) (Splits.of [0, 1, 2, 3] kr rfl)
        ·
         have h := condF hb4 h
         refine TC.skip ?_
         exact TX.meetD (next4, stop3) h rfl (Sbs.cons rfl (Sbs.cons rfl (Sbs.cons rfl (Sbs.cons rfl (Sbs.cons rfl (Sbs.cons rfl (Sbs.cons rfl (Sbs.nil)))))))) (Splits.of [0, 1, 2, 3] kr rfl)
       ·
        have h := condF hb3 h
        refine TO.skip rfl dc (TO.skip rfl dc (TO.skip rfl dc (TO.skip rfl dc (TO.skip rfl dc (TO.skip rfl dc (TO.skip rfl dc (TO.pick (b := false) rfl dc rfl rfl (TO.nil (TX.next (TC.condF rfl (TC.skip ?_)))))))))))
        exact TX.meetD (next4, stop3) h rfl (Sbs.cons rfl (Sbs.cons rfl (Sbs.cons rfl (Sbs.cons rfl (Sbs.cons rfl (Sbs.cons rfl (Sbs.cons rfl (Sbs.nil)))))))) (Splits.of [0, 1, 2, 3] kr rfl)
      ·
       rintro ⟨next5, stop4⟩ h
       rw [hj3] at h
       show TC _ _ _ _ _ (marksOf ds1) _ _ [(0, .string s2), (3, .int .i64 next5), (4, .int .i64 stop4), (5, .pointer (some ⟨b1, 0, none⟩)), (7, .int .i64 (p1.i : Int)), (8, .int .i32 (p1.r : Int)), (27, .pointer (some ⟨b6, 0, none⟩))] [cells b1 [v1] 33, vec enc_Gapi_Span 26 2 v1 l1, obj b6 (.stringIter s2 (posAt s2 (m3 + 1))), star ((ds1 : List Nat).map mark)]
       refine TC.seq (TC.region (TO.move rfl dc rfl (TO.move rfl dc rfl (TO.bin rfl dc rfl rfl bin_lss (TO.assign rfl dc rfl (TO.nil (TX.next (TC.seq (TC.region (TO.move rfl dc rfl ?_))))))))))
       obtain ⟨hg5, h⟩ := grdE h
       refine TO.callP (v := .int .i64 (kind (p1.r : Int))) (vs := [.int .i32 (p1.r : Int)]) rfl dc rfl rfl rfl en_16 (FnP.of_same fun w => kind_any (p1.r : Int) w hg5.1 hg5.2) ?_
       refine TO.assign rfl dc rfl (TO.nil (TX.next (TC.block (TC.seq (TC.region (TO.move rfl dc rfl (TO.bin rfl dc rfl rfl bin_eql (TO.move rfl dc rfl ?_))))))))
       refine TO.split (s := 63) rfl (fun hb6 => ?_) (fun hb6 => ?_)
       ·
        have h := condT hb6 h
        refine TO.move rfl dc rfl (TO.un rfl dc rfl un_not (TO.pick (b := true) rfl dc rfl rfl (TO.assign rfl dc rfl (TO.nil (TX.next ?_)))))
        refine TC.condB rfl (fun hb7 => ?_) (fun hb7 => ?_)
        ·
         have h := condT hb7 h
         refine TC.seq (TC.region (TO.assign rfl dc rfl (TO.nil (TX.next (TC.ret (TX.blockRet (TX.blockRet (TX.thenRet (TX.blockRet (TX.thenRet ?_))))))))))
         cases h
         exact TX.finM (rs := [.tmp 2]) ds1 () (.inl rfl) (Splits.open0 (k := 3) rfl) Try.results5 (.cons (.tmp rfl) .nil) rfl Splits.nil
        ·
         have h := condF hb7 h
         refine TC.seq (TC.region (TO.move rfl dc rfl (TO.move rfl dc rfl ?_)))
         refine TO.split (s := 69) rfl (fun hb8 => ?_) (fun hb8 => ?_)
         ·
          have h := condT hb8 h
          refine TO.move rfl dc rfl (TO.bin rfl dc rfl rfl bin_neq (TO.pick (b := true) rfl dc rfl rfl (TO.move rfl dc rfl ?_)))
          refine TO.split (s := 73) rfl (fun hb9 => ?_) (fun hb9 => ?_)
          ·
           have h := condT hb9 h
           refine TO.move rfl dc rfl (TO.bin rfl dc rfl rfl bin_neq (TO.pick (b := true) rfl dc rfl rfl (TO.move rfl dc rfl ?_)))
           refine TO.split (s := 77) rfl (fun hb10 => ?_) (fun hb10 => ?_)
           ·
            have h := condT hb10 h
            refine TO.move rfl dc rfl (TO.bin rfl dc rfl rfl bin_neq (TO.pick (b := true) rfl dc rfl rfl (TO.move rfl dc rfl ?_)))
            refine TO.split (s := 81) rfl (fun hb11 => ?_) (fun hb11 => ?_)
            ·
             have h := condT hb11 h
             refine TO.move rfl dc rfl (TO.bin rfl dc rfl rfl bin_neq (TO.pick (b := true) rfl dc rfl rfl (TO.move rfl dc rfl ?_)))
             refine TO.split (s := 85) rfl (fun hb12 => ?_) (fun hb12 => ?_)
             ·
              have h := condT hb12 h
              refine TO.move rfl dc rfl (TO.bin rfl dc rfl rfl bin_neq (TO.pick (b := true) rfl dc rfl rfl (TO.move rfl dc rfl ?_)))
              refine TO.split (s := 89) rfl (fun hb13 => ?_) (fun hb13 => ?_)
              ·
               have h := condT hb13 h
               refine TO.move rfl dc rfl (TO.bin rfl dc rfl rfl bin_neq (TO.pick (b := true) rfl dc rfl rfl (TO.assign rfl dc rfl (TO.nil (TX.next ?_)))))
               refine TC.condB rfl (fun hb14 => ?_) (fun hb14 => ?_)
               ·
                have h := condT hb14 h
                refine TC.seq (TC.region (TO.assign rfl dc rfl (TO.nil (TX.next (TC.ret (TX.blockRet (TX.blockRet (TX.thenRet (TX.blockRet (TX.thenRet ?_))))))))))
                cases h
                exact TX.finM (rs := [.tmp 2]) ds1 () (.inl rfl) (Splits.open0 (k := 3) rfl) Try.results5 (.cons (.tmp rfl) .nil) rfl Splits.nil
               ·
                have h := condF hb14 h
                refine TC.seq (TC.region (TO.move rfl dc rfl (TO.move rfl dc rfl ?_)))
                refine TO.split (s := 95) rfl (fun hb15 => ?_) (fun hb15 => ?_)
                ·
                 have h := condT hb15 h
                 refine TO.move rfl dc rfl (TO.move rfl dc rfl (TO.conv rfl dc rfl (conv_rune Try.underlying21 Try.underlying9) (TO.lenStr rfl dc rfl Try.underlying9 ?_)))
                 obtain ⟨hg6, h⟩ := grdE h
                 refine TO.bin rfl dc rfl rfl (bin_add (r := (p1.i : Int) + ((Utf8.encode (p1.r : Int)).size : Int)) (IntWalk.i64_in _ hg6)) (TO.move rfl dc rfl (TO.bin rfl dc rfl rfl bin_eql (TO.pick (b := true) rfl dc rfl rfl (TO.move rfl dc rfl ?_))))
                 refine TO.split (s := 104) rfl (fun hb16 => ?_) (fun hb16 => ?_)
                 ·
                  have h := condT hb16 h
                  refine TO.move rfl dc rfl (TO.bin rfl dc rfl rfl bin_neq (TO.pick (b := true) rfl dc rfl rfl (TO.move rfl dc rfl ?_)))
                  refine TO.split (s := 108) rfl (fun hb17 => ?_) (fun hb17 => ?_)
                  ·
                   have h := condT hb17 h
                   refine TO.move rfl dc rfl (TO.bin rfl dc rfl rfl bin_neq (TO.pick (b := true) rfl dc rfl rfl (TO.assign rfl dc rfl (TO.nil (TX.next ?_)))))
                   refine TC.condB rfl (fun hb18 => ?_) (fun hb18 => ?_)
                   ·
                    have h := condT hb18 h
                    refine TC.seq (TC.region (TO.assign rfl dc rfl (TO.nil (TX.next (TC.ret (TX.blockRet (TX.blockRet (TX.thenRet (TX.blockRet (TX.thenRet ?_))))))))))
                    cases h
                    exact TX.finM (rs := [.tmp 2]) ds1 () (.inl rfl) (Splits.open0 (k := 3) rfl) Try.results5 (.cons (.tmp rfl) .nil) rfl Splits.nil
                   ·
                    have h := condF hb18 h
                    refine TC.skip (TX.blockNormal (TX.blockNormal ?_))
                    subst hag2
                    exact TX.againD (n1, next5, stop4, m3 + 1) h (Nat.lt_succ_self _) rfl (Sbs.cons rfl (Sbs.cons rfl (Sbs.cons rfl (Sbs.cons rfl (Sbs.cons rfl (Sbs.nil)))))) (Splits.of [0, 1, 2, 3] kr rfl)
                  ·
                   have h := condF hb17 h
                   refine TO.skip rfl dc (TO.skip rfl dc (TO.pick (b := false) rfl dc rfl rfl (TO.assign rfl dc rfl (TO.nil (TX.next (TC.condF rfl (TC.skip (TX.blockNormal (TX.blockNormal ?_)))))))))
                   subst hag2
                   exact TX.againD (n1, next5, stop4, m3 + 1) h (Nat.lt_succ_self _) rfl (Sbs.cons rfl (Sbs.cons rfl (Sbs.cons rfl (Sbs.cons rfl (Sbs.cons rfl (Sbs.nil)))))) (Splits.of [0, 1, 2, 3] kr rfl)
                 ·
                  have h := condF hb16 h
                  refine TO.skip rfl dc (TO.skip rfl dc (TO.pick (b := false) rfl dc rfl rfl (TO.move rfl dc rfl (TO.skip rfl dc (TO.skip rfl dc (TO.pick (b := false) rfl dc rfl rfl (TO.assign rfl dc rfl (TO.nil (TX.next (TC.condF rfl (TC.skip (TX.blockNormal (TX.blockNormal ?_)))))))))))))
                  subst hag2
                  exact TX.againD (n1, next5, stop4, m3 + 1) h (Nat.lt_succ_self _) rfl (Sbs.cons rfl (Sbs.cons rfl (Sbs.cons rfl (Sbs.cons rfl (Sbs.cons rfl (Sbs.nil)))))) (Splits.of [0, 1, 2, 3] kr rfl)
                ·
                 have h := condF hb15 h
                 refine TO.skip rfl dc (TO.skip rfl dc (TO.skip rfl dc (TO.skip rfl dc (TO.skip rfl dc (TO.skip rfl dc (TO.skip rfl dc (TO.pick (b := false) rfl dc rfl rfl (TO.move rfl dc rfl (TO.skip rfl dc (TO.skip rfl dc (TO.pick (b := false) rfl dc rfl rfl (TO.move rfl dc rfl (TO.skip rfl dc ?_)))))))))))))
                 refine TO.skip rfl dc (TO.pick (b := false) rfl dc rfl rfl (TO.assign rfl dc rfl (TO.nil (TX.next (TC.condF rfl (TC.skip (TX.blockNormal (TX.blockNormal ?_))))))))
                 subst hag2
                 exact TX.againD (n1, next5, stop4, m3 + 1) h (Nat.lt_succ_self _) rfl (Sbs.cons rfl (Sbs.cons rfl (Sbs.cons rfl (Sbs.cons rfl (Sbs.cons rfl (Sbs.nil)))))) (Splits.of [0, 1, 2, 3] kr rfl)
              ·
               have h := condF hb13 h
               refine TO.skip rfl dc (TO.skip rfl dc (TO.pick (b := false) rfl dc rfl rfl (TO.assign rfl dc rfl (TO.nil (TX.next (TC.condF rfl (TC.seq (TC.region (TO.move rfl dc rfl (TO.move rfl dc rfl ?_))))))))))
               refine TO.split (s := 95) rfl (fun hb19 => ?_) (fun hb19 => ?_)
               ·
                have h := condT hb19 h
                refine TO.move rfl dc rfl (TO.move rfl dc rfl (TO.conv rfl dc rfl (conv_rune Try.underlying21 Try.underlying9) (TO.lenStr rfl dc rfl Try.underlying9 ?_)))
                obtain ⟨hg7, h⟩ := grdE h
                refine TO.bin rfl dc rfl rfl (bin_add (r := (p1.i : Int) + ((Utf8.encode (p1.r : Int)).size : Int)) (IntWalk.i64_in _ hg7)) (TO.move rfl dc rfl (TO.bin rfl dc rfl rfl bin_eql (TO.pick (b := true) rfl dc rfl rfl (TO.move rfl dc rfl ?_))))
                refine TO.split (s := 104) rfl (fun hb20 => ?_) (fun hb20 => ?_)
                ·
                 have h := condT hb20 h
                 refine TO.move rfl dc rfl (TO.bin rfl dc rfl rfl bin_neq (TO.pick (b := true) rfl dc rfl rfl (TO.move rfl dc rfl ?_)))
                 refine TO.split (s := 108) rfl (fun hb21 => ?_) (fun hb21 => ?_)
                 ·
                  have h := condT hb21 h
                  refine TO.move rfl dc rfl (TO.bin rfl dc rfl rfl bin_neq (TO.pick (b := true) rfl dc rfl rfl (TO.assign rfl dc rfl (TO.nil (TX.next ?_)))))
                  refine TC.condB rfl (fun hb22 => ?_) (fun hb22 => ?_)
                  ·
                   have h := condT hb22 h
                   refine TC.seq (TC.region (TO.assign rfl dc rfl (TO.nil (TX.next (TC.ret (TX.blockRet (TX.blockRet (TX.thenRet (TX.blockRet (TX.thenRet ?_))))))))))
                   cases h
                   exact TX.finM (rs := [.tmp 2]) ds1 () (.inl rfl) (Splits.open0 (k := 3) rfl) Try.results5 (.cons (.tmp rfl) .nil) rfl Splits.nil
                  ·
                   have h := condF hb22 h
                   refine TC.skip (TX.blockNormal (TX.blockNormal ?_))
                   subst hag2
                   exact TX.againD (n1, next5, stop4, m3 + 1) h (Nat.lt_succ_self _) rfl (Sbs.cons rfl (Sbs.cons rfl (Sbs.cons rfl (Sbs.cons rfl (Sbs.cons rfl (Sbs.nil)))))) (Splits.of [0, 1, 2, 3] kr rfl)
                 ·
                  have h := condF hb21 h
                  refine TO.skip rfl dc (TO.skip rfl dc (TO.pick (b := false) rfl dc rfl rfl (TO.assign rfl dc rfl (TO.nil (TX.next (TC.condF rfl (TC.skip (TX.blockNormal (TX.blockNormal ?_)))))))))
                  subst hag2
                  exact TX.againD (n1, next5, stop4, m3 + 1) h (Nat.lt_succ_self _) rfl (Sbs.cons rfl (Sbs.cons rfl (Sbs.cons rfl (Sbs.cons rfl (Sbs.cons rfl (Sbs.nil)))))) (Splits.of [0, 1, 2, 3] kr rfl)
                ·
                 have h := condF hb20 h
                 refine TO.skip rfl dc (TO.skip rfl dc (TO.pick (b := false) rfl dc rfl rfl (TO.move rfl dc rfl (TO.skip rfl dc (TO.skip rfl dc (TO.pick (b := false) rfl dc rfl rfl (TO.assign rfl dc rfl (TO.nil (TX.next (TC.condF rfl (TC.skip (TX.blockNormal (TX.blockNormal ?_)))))))))))))
                 subst hag2
                 exact TX.againD (n1, next5, stop4, m3 + 1) h (Nat.lt_succ_self _) rfl (Sbs.cons rfl (Sbs.cons rfl (Sbs.cons rfl (Sbs.cons rfl (Sbs.cons rfl (Sbs.nil)))))) (Splits.of [0, 1, 2, 3] kr rfl)
               ·
                have h := condF hb19 h
                refine TO.skip rfl dc (TO.skip rfl dc (TO.skip rfl dc (TO.skip rfl dc (TO.skip rfl dc (TO.skip rfl dc (TO.skip rfl dc (TO.pick (b := false) rfl dc rfl rfl (TO.move rfl dc rfl (TO.skip rfl dc (TO.skip rfl dc (TO.pick (b := false) rfl dc rfl rfl (TO.move rfl dc rfl (TO.skip rfl dc ?_)))))))))))))
                refine TO.skip rfl dc (TO.pick (b := false) rfl dc rfl rfl (TO.assign rfl dc rfl (TO.nil (TX.next (TC.condF rfl (TC.skip (TX.blockNormal (TX.blockNormal ?_))))))))
                subst hag2
                exact TX.againD (n1, next5, stop4, m3 + 1) h (Nat.lt_succ_self _) rfl (Sbs.cons rfl (Sbs.cons rfl (Sbs.cons rfl (Sbs.cons rfl (Sbs.cons rfl (Sbs.nil)))))) (Splits.of [0, 1, 2, 3] kr rfl)
             ·
              have h := condF hb12 h
              refine TO.skip rfl dc (TO.skip rfl dc (TO.pick (b := false) rfl dc rfl rfl (TO.move rfl dc rfl (TO.skip rfl dc (TO.skip rfl dc (TO.pick (b := false) rfl dc rfl rfl (TO.assign rfl dc rfl (TO.nil (TX.next (TC.condF rfl (TC.seq (TC.region (TO.move rfl dc rfl ?_)))))))))))))
              refine TO.move rfl dc rfl ?_
              refine TO.split (s := 95) rfl (fun hb23 => ?_) (fun hb23 => ?_)
              ·
               have h := condT hb23 h
               refine TO.move rfl dc rfl (TO.move rfl dc rfl (TO.conv rfl dc rfl (conv_rune Try.underlying21 Try.underlying9) (TO.lenStr rfl dc rfl Try.underlying9 ?_)))
               obtain ⟨hg8, h⟩ := grdE h
               refine TO.bin rfl dc rfl rfl (bin_add (r := (p1.i : Int) + ((Utf8.encode (p1.r : Int)).size : Int)) (IntWalk.i64_in _ hg8)) (TO.move rfl dc rfl (TO.bin rfl dc rfl rfl bin_eql (TO.pick (b := true) rfl dc rfl rfl (TO.move rfl dc rfl ?_))))
               refine TO.split (s := 104) rfl (fun hb24 => ?_) (fun hb24 => ?_)
               ·
                have h := condT hb24 h
                refine TO.move rfl dc rfl (TO.bin rfl dc rfl rfl bin_neq (TO.pick (b := true) rfl dc rfl rfl (TO.move rfl dc rfl ?_)))
                refine TO.split (s := 108) rfl (fun hb25 => ?_) (fun hb25 => ?_)
                ·
                 have h := condT hb25 h
                 refine TO.move rfl dc rfl (TO.bin rfl dc rfl rfl bin_neq (TO.pick (b := true) rfl dc rfl rfl (TO.assign rfl dc rfl (TO.nil (TX.next ?_)))))
                 refine TC.condB rfl (fun hb26 => ?_) (fun hb26 => ?_)
                 ·
                  have h := condT hb26 h
                  refine TC.seq (TC.region (TO.assign rfl dc rfl (TO.nil (TX.next (TC.ret (TX.blockRet (TX.blockRet (TX.thenRet (TX.blockRet (TX.thenRet ?_))))))))))
                  cases h
                  exact TX.finM (rs := [.tmp 2]) ds1 () (.inl rfl) (Splits.open0 (k := 3) rfl) Try.results5 (.cons (.tmp rfl) .nil) rfl Splits.nil
                 ·
                  have h := condF hb26 h
                  refine TC.skip (TX.blockNormal (TX.blockNormal ?_))
                  subst hag2
                  exact TX.againD (n1, next5, stop4, m3 + 1) h (Nat.lt_succ_self _) rfl (Sbs.cons rfl (Sbs.cons rfl (Sbs.cons rfl (Sbs.cons rfl (Sbs.cons rfl (Sbs.nil)))))) (Splits.of [0, 1, 2, 3] kr rfl)
                ·
                 have h := condF hb25 h
                 refine TO.skip rfl dc (TO.skip rfl dc (TO.pick (b := false) rfl dc rfl rfl (TO.assign rfl dc rfl (TO.nil (TX.next (TC.condF rfl (TC.skip (TX.blockNormal (TX.blockNormal ?_)))))))))
                 subst hag2
                 exact TX.againD (n1, next5, stop4, m3 + 1) h (Nat.lt_succ_self _) rfl (Sbs.cons rfl (Sbs.cons rfl (Sbs.cons rfl (Sbs.cons rfl (Sbs.cons rfl (Sbs.nil)))))) (Splits.of [0, 1, 2, 3] kr rfl)
               ·
                have h := condF hb24 h
                refine TO.skip rfl dc (TO.skip rfl dc (TO.pick (b := false) rfl dc rfl rfl (TO.move rfl dc rfl (TO.skip rfl dc (TO.skip rfl dc (TO.pick (b := false) rfl dc rfl rfl (TO.assign rfl dc rfl (TO.nil (TX.next (TC.condF rfl (TC.skip (TX.blockNormal (TX.blockNormal ?_)))))))))))))
                subst hag2
                exact TX.againD (n1, next5, stop4, m3 + 1) h (Nat.lt_succ_self _) rfl (Sbs.cons rfl (Sbs.cons rfl (Sbs.cons rfl (Sbs.cons rfl (Sbs.cons rfl (Sbs.nil)))))) (Splits.of [0, 1, 2, 3] kr rfl)
              ·
               have h := condF hb23 h
               refine TO.skip rfl dc (TO.skip rfl dc (TO.skip rfl dc (TO.skip rfl dc (TO.skip rfl dc (TO.skip rfl dc (TO.skip rfl dc (TO.pick (b := false) rfl dc rfl rfl (TO.move rfl dc rfl (TO.skip rfl dc (TO.skip rfl dc (TO.pick (b := false) rfl dc rfl rfl (TO.move rfl dc rfl (TO.skip rfl dc ?_)))))))))))))
               refine TO.skip rfl dc (TO.pick (b := false) rfl dc rfl rfl (TO.assign rfl dc rfl (TO.nil (TX.next (TC.condF rfl (TC.skip (TX.blockNormal (TX.blockNormal ?_))))))))
               subst hag2
               exact TX.againD (n1, next5, stop4, m3 + 1) h (Nat.lt_succ_self _) rfl (Sbs.cons rfl (Sbs.cons rfl (Sbs.cons rfl (Sbs.cons rfl (Sbs.cons rfl (Sbs.nil)))))) (Splits.of [0, 1, 2, 3] kr rfl)
            ·
             have h := condF hb11 h
             refine TO.skip rfl dc (TO.skip rfl dc (TO.pick (b := false) rfl dc rfl rfl (TO.move rfl dc rfl (TO.skip rfl dc (TO.skip rfl dc (TO.pick (b := false) rfl dc rfl rfl (TO.move rfl dc rfl (TO.skip rfl dc (TO.skip rfl dc (TO.pick (b := false) rfl dc rfl rfl (TO.assign rfl dc rfl (TO.nil (TX.next ?_)))))))))))))
             refine TC.condF rfl (TC.seq (TC.region (TO.move rfl dc rfl (TO.move rfl dc rfl ?_))))
             refine TO.split (s := 95) rfl (fun hb27 => ?_) (fun hb27 => ?_)
             ·
              have h := condT hb27 h
              refine TO.move rfl dc rfl (TO.move rfl dc rfl (TO.conv rfl dc rfl (conv_rune Try.underlying21 Try.underlying9) (TO.lenStr rfl dc rfl Try.underlying9 ?_)))
              obtain ⟨hg9, h⟩ := grdE h
              refine TO.bin rfl dc rfl rfl (bin_add (r := (p1.i : Int) + ((Utf8.encode (p1.r : Int)).size : Int)) (IntWalk.i64_in _ hg9)) (TO.move rfl dc rfl (TO.bin rfl dc rfl rfl bin_eql (TO.pick (b := true) rfl dc rfl rfl (TO.move rfl dc rfl ?_))))
              refine TO.split (s := 104) rfl (fun hb28 => ?_) (fun hb28 => ?_)
              ·
               have h := condT hb28 h
               refine TO.move rfl dc rfl (TO.bin rfl dc rfl rfl bin_neq (TO.pick (b := true) rfl dc rfl rfl (TO.move rfl dc rfl ?_)))
               refine TO.split (s := 108) rfl (fun hb29 => ?_) (fun hb29 => ?_)
               ·
                have h := condT hb29 h
                refine TO.move rfl dc rfl (TO.bin rfl dc rfl rfl bin_neq (TO.pick (b := true) rfl dc rfl rfl (TO.assign rfl dc rfl (TO.nil (TX.next ?_)))))
                refine TC.condB rfl (fun hb30 => ?_) (fun hb30 => ?_)
                ·
                 have h := condT hb30 h
                 refine TC.seq (TC.region (TO.assign rfl dc rfl (TO.nil (TX.next (TC.ret (TX.blockRet (TX.blockRet (TX.thenRet (TX.blockRet (TX.thenRet ?_))))))))))
                 cases h
                 exact TX.finM (rs := [.tmp 2]) ds1 () (.inl rfl) (Splits.open0 (k := 3) rfl) Try.results5 (.cons (.tmp rfl) .nil) rfl Splits.nil
                ·
                 have h := condF hb30 h
                 refine TC.skip (TX.blockNormal (TX.blockNormal ?_))
                 subst hag2
                 exact TX.againD (n1, next5, stop4, m3 + 1) h (Nat.lt_succ_self _) rfl (Sbs.cons rfl (Sbs.cons rfl (Sbs.cons rfl (Sbs.cons rfl (Sbs.cons rfl (Sbs.nil)))))) (Splits.of [0, 1, 2, 3] kr rfl)
               ·
                have h := condF hb29 h
                refine TO.skip rfl dc (TO.skip rfl dc (TO.pick (b := false) rfl dc rfl rfl (TO.assign rfl dc rfl (TO.nil (TX.next (TC.condF rfl (TC.skip (TX.blockNormal (TX.blockNormal ?_)))))))))
                subst hag2
                exact TX.againD (n1, next5, stop4, m3 + 1) h (Nat.lt_succ_self _) rfl (Sbs.cons rfl (Sbs.cons rfl (Sbs.cons rfl (Sbs.cons rfl (Sbs.cons rfl (Sbs.nil)))))) (Splits.of [0, 1, 2, 3] kr rfl)
              ·
               have h := condF hb28 h
               refine TO.skip rfl dc (TO.skip rfl dc (TO.pick (b := false) rfl dc rfl rfl (TO.move rfl dc rfl (TO.skip rfl dc (TO.skip rfl dc (TO.pick (b := false) rfl dc rfl rfl (TO.assign rfl dc rfl (TO.nil (TX.next (TC.condF rfl (TC.skip (TX.blockNormal (TX.blockNormal ?_)))))))))))))
               subst hag2
               exact TX.againD (n1, next5, stop4, m3 + 1) h (Nat.lt_succ_self _) rfl (Sbs.cons rfl (Sbs.cons rfl (Sbs.cons rfl (Sbs.cons rfl (Sbs.cons rfl (Sbs.nil)))))) (Splits.of [0, 1, 2, 3] kr rfl)
             ·
              have h := condF hb27 h
              refine TO.skip rfl dc (TO.skip rfl dc (TO.skip rfl dc (TO.skip rfl dc (TO.skip rfl dc (TO.skip rfl dc (TO.skip rfl dc (TO.pick (b := false) rfl dc rfl rfl (TO.move rfl dc rfl (TO.skip rfl dc (TO.skip rfl dc (TO.pick (b := false) rfl dc rfl rfl (TO.move rfl dc rfl (TO.skip rfl dc ?_)))))))))))))
              refine TO.skip rfl dc (TO.pick (b := false) rfl dc rfl rfl (TO.assign rfl dc rfl (TO.nil (TX.next (TC.condF rfl (TC.skip (TX.blockNormal (TX.blockNormal ?_))))))))
              subst hag2
              exact TX.againD (n1, next5, stop4, m3 + 1) h (Nat.lt_succ_self _) rfl (Sbs.cons rfl (Sbs.cons rfl (Sbs.cons rfl (Sbs.cons rfl (Sbs.cons rfl (Sbs.nil)))))) (Splits.of [0, 1, 2, 3] kr rfl)
           ·
            have h := condF hb10 h
            refine TO.skip rfl dc (TO.skip rfl dc (TO.pick (b := false) rfl dc rfl rfl (TO.move rfl dc rfl (TO.skip rfl dc (TO.skip rfl dc (TO.pick (b := false) rfl dc rfl rfl (TO.move rfl dc rfl (TO.skip rfl dc (TO.skip rfl dc (TO.pick (b := false) rfl dc rfl rfl (TO.move rfl dc rfl (TO.skip rfl dc (TO.skip rfl dc ?_)))))))))))))
            refine TO.pick (b := false) rfl dc rfl rfl (TO.assign rfl dc rfl (TO.nil (TX.next (TC.condF rfl (TC.seq (TC.region (TO.move rfl dc rfl (TO.move rfl dc rfl ?_))))))))
            refine TO.split (s := 95) rfl (fun hb31 => ?_) (fun hb31 => ?_)
            ·
             have h := condT hb31 h
             refine TO.move rfl dc rfl (TO.move rfl dc rfl (TO.conv rfl dc rfl (conv_rune Try.underlying21 Try.underlying9) (TO.lenStr rfl dc rfl Try.underlying9 ?_)))
             obtain ⟨hg10, h⟩ := grdE h
             refine TO.bin rfl dc rfl rfl (bin_add (r := (p1.i : Int) + ((Utf8.encode (p1.r : Int)).size : Int)) (IntWalk.i64_in _ hg10)) (TO.move rfl dc rfl (TO.bin rfl dc rfl rfl bin_eql (TO.pick (b := true) rfl dc rfl rfl (TO.move rfl dc rfl ?_))))
             refine TO.split (s := 104) rfl (fun hb32 => ?_) (fun hb32 => ?_)
             ·
              have h := condT hb32 h
              refine TO.move rfl dc rfl (TO.bin rfl dc rfl rfl bin_neq (TO.pick (b := true) rfl dc rfl rfl (TO.move rfl dc rfl ?_)))
              refine TO.split (s := 108) rfl (fun hb33 => ?_) (fun hb33 => ?_)
              ·
               have h := condT hb33 h
               refine TO.move rfl dc rfl (TO.bin rfl dc rfl rfl bin_neq (TO.pick (b := true) rfl dc rfl rfl (TO.assign rfl dc rfl (TO.nil (TX.next ?_)))))
               refine TC.condB rfl (fun hb34 => ?_) (fun hb34 => ?_)
               ·
                have h := condT hb34 h
                refine TC.seq (TC.region (TO.assign rfl dc rfl (TO.nil (TX.next (TC.ret (TX.blockRet (TX.blockRet (TX.thenRet (TX.blockRet (TX.thenRet ?_))))))))))
                cases h
                exact TX.finM (rs := [.tmp 2]) ds1 () (.inl rfl) (Splits.open0 (k := 3) rfl) Try.results5 (.cons (.tmp rfl) .nil) rfl Splits.nil
               ·
                have h := condF hb34 h
                refine TC.skip (TX.blockNormal (TX.blockNormal ?_))
                subst hag2
                exact TX.againD (n1, next5, stop4, m3 + 1) h (Nat.lt_succ_self _) rfl (Sbs.cons rfl (Sbs.cons rfl (Sbs.cons rfl (Sbs.cons rfl (Sbs.cons rfl (Sbs.nil)))))) (Splits.of [0, 1, 2, 3] kr rfl)
              ·
               have h := condF hb33 h
               refine TO.skip rfl dc (TO.skip rfl dc (TO.pick (b := false) rfl dc rfl rfl (TO.assign rfl dc rfl (TO.nil (TX.next (TC.condF rfl (TC.skip (TX.blockNormal (TX.blockNormal ?_)))))))))
               subst hag2
               exact TX.againD (n1, next5, stop4, m3 + 1) h (Nat.lt_succ_self _) rfl (Sbs.cons rfl (Sbs.cons rfl (Sbs.cons rfl (Sbs.cons rfl (Sbs.cons rfl (Sbs.nil)))))) (Splits.of [0, 1, 2, 3] kr rfl)
             ·
              have h := condF hb32 h
              refine TO.skip rfl dc (TO.skip rfl dc (TO.pick (b := false) rfl dc rfl rfl (TO.move rfl dc rfl (TO.skip rfl dc (TO.skip rfl dc (TO.pick (b := false) rfl dc rfl rfl (TO.assign rfl dc rfl (TO.nil (TX.next (TC.condF rfl (TC.skip (TX.blockNormal (TX.blockNormal ?_)))))))))))))
              subst hag2
              exact TX.againD (n1, next5, stop4, m3 + 1) h (Nat.lt_succ_self _) rfl (Sbs.cons rfl (Sbs.cons rfl (Sbs.cons rfl (Sbs.cons rfl (Sbs.cons rfl (Sbs.nil)))))) (Splits.of [0, 1, 2, 3] kr rfl)
            ·
             have h := condF hb31 h
             refine TO.skip rfl dc (TO.skip rfl dc (TO.skip rfl dc (TO.skip rfl dc (TO.skip rfl dc (TO.skip rfl dc (TO.skip rfl dc (TO.pick (b := false) rfl dc rfl rfl (TO.move rfl dc rfl (TO.skip rfl dc (TO.skip rfl dc (TO.pick (b := false) rfl dc rfl rfl (TO.move rfl dc rfl (TO.skip rfl dc ?_)))))))))))))
             refine TO.skip rfl dc (TO.pick (b := false) rfl dc rfl rfl (TO.assign rfl dc rfl (TO.nil (TX.next (TC.condF rfl (TC.skip (TX.blockNormal (TX.blockNormal ?_))))))))
             subst hag2
             exact TX.againD (n1, next5, stop4, m3 + 1) h (Nat.lt_succ_self _) rfl (Sbs.cons rfl (Sbs.cons rfl (Sbs.cons rfl (Sbs.cons rfl (Sbs.cons rfl (Sbs.nil)))))) (Splits.of [0, 1, 2, 3] kr rfl)
          ·
           have h := condF hb9 h
           refine TO.skip rfl dc (TO.skip rfl dc (TO.pick (b := false) rfl dc rfl rfl (TO.move rfl dc rfl (TO.skip rfl dc (TO.skip rfl dc (TO.pick (b := false) rfl dc rfl rfl (TO.move rfl dc rfl (TO.skip rfl dc (TO.skip rfl dc (TO.pick (b := false) rfl dc rfl rfl (TO.move rfl dc rfl (TO.skip rfl dc (TO.skip rfl dc ?_)))))))))))))
           refine TO.pick (b := false) rfl dc rfl rfl (TO.move rfl dc rfl (TO.skip rfl dc (TO.skip rfl dc (TO.pick (b := false) rfl dc rfl rfl (TO.assign rfl dc rfl (TO.nil (TX.next (TC.condF rfl (TC.seq (TC.region (TO.move rfl dc rfl (TO.move rfl dc rfl ?_))))))))))))
           refine TO.split (s := 95) rfl (fun hb35 => ?_) (fun hb35 => ?_)
           ·
            have h := condT hb35 h
            refine TO.move rfl dc rfl (TO.move rfl dc rfl (TO.conv rfl dc rfl (conv_rune Try.underlying21 Try.underlying9) (TO.lenStr rfl dc rfl Try.underlying9 ?_)))
            obtain ⟨hg11, h⟩ := grdE h
            refine TO.bin rfl dc rfl rfl (bin_add (r := (p1.i : Int) + ((Utf8.encode (p1.r : Int)).size : Int)) (IntWalk.i64_in _ hg11)) (TO.move rfl dc rfl (TO.bin rfl dc rfl rfl bin_eql (TO.pick (b := true) rfl dc rfl rfl (TO.move rfl dc rfl ?_))))
            refine TO.split (s := 104) rfl (fun hb36 => ?_) (fun hb36 => ?_)
            ·
             have h := condT hb36 h
             refine TO.move rfl dc rfl (TO.bin rfl dc rfl rfl bin_neq (TO.pick (b := true) rfl dc rfl rfl (TO.move rfl dc rfl ?_)))
             refine TO.split (s := 108) rfl (fun hb37 => ?_) (fun hb37 => ?_)
             ·
              have h := condT hb37 h
              refine TO.move rfl dc rfl (TO.bin rfl dc rfl rfl bin_neq (TO.pick (b := true) rfl dc rfl rfl (TO.assign rfl dc rfl (TO.nil (TX.next ?_)))))
              refine TC.condB rfl (fun hb38 => ?_) (fun hb38 => ?_)
              ·
               have h := condT hb38 h
               refine TC.seq (TC.region (TO.assign rfl dc rfl (TO.nil (TX.next (TC.ret (TX.blockRet (TX.blockRet (TX.thenRet (TX.blockRet (TX.thenRet ?_))))))))))
               cases h
               exact TX.finM (rs := [.tmp 2]) ds1 () (.inl rfl) (Splits.open0 (k := 3) rfl) Try.results5 (.cons (.tmp rfl) .nil) rfl Splits.nil
              ·
               have h := condF hb38 h
               refine TC.skip (TX.blockNormal (TX.blockNormal ?_))
               subst hag2
               exact TX.againD (n1, next5, stop4, m3 + 1) h (Nat.lt_succ_self _) rfl (Sbs.cons rfl (Sbs.cons rfl (Sbs.cons rfl (Sbs.cons rfl (Sbs.cons rfl (Sbs.nil)))))) (Splits.of [0, 1, 2, 3] kr rfl)
             ·
              have h := condF hb37 h
              refine TO.skip rfl dc (TO.skip rfl dc (TO.pick (b := false) rfl dc rfl rfl (TO.assign rfl dc rfl (TO.nil (TX.next (TC.condF rfl (TC.skip (TX.blockNormal (TX.blockNormal ?_)))))))))
              subst hag2
              exact TX.againD (n1, next5, stop4, m3 + 1) h (Nat.lt_succ_self _) rfl (Sbs.cons rfl (Sbs.cons rfl (Sbs.cons rfl (Sbs.cons rfl (Sbs.cons rfl (Sbs.nil)))))) (Splits.of [0, 1, 2, 3] kr rfl)
            ·
             have h := condF hb36 h
             refine TO.skip rfl dc (TO.skip rfl dc (TO.pick (b := false) rfl dc rfl rfl (TO.move rfl dc rfl (TO.skip rfl dc (TO.skip rfl dc (TO.pick (b := false) rfl dc rfl rfl (TO.assign rfl dc rfl (TO.nil (TX.next (TC.condF rfl (TC.skip (TX.blockNormal (TX.blockNormal ?_)))))))))))))
             subst hag2
             exact TX.againD (n1, next5, stop4, m3 + 1) h (Nat.lt_succ_self _) rfl (Sbs.cons rfl (Sbs.cons rfl (Sbs.cons rfl (Sbs.cons rfl (Sbs.cons rfl (Sbs.nil)))))) (Splits.of [0, 1, 2, 3] kr rfl)
           ·
            have h := condF hb35 h
            refine TO.skip rfl dc (TO.skip rfl dc (TO.skip rfl dc (TO.skip rfl dc (TO.skip rfl dc (TO.skip rfl dc (TO.skip rfl dc (TO.pick (b := false) rfl dc rfl rfl (TO.move rfl dc rfl (TO.skip rfl dc (TO.skip rfl dc (TO.pick (b := false) rfl dc rfl rfl (TO.move rfl dc rfl (TO.skip rfl dc ?_)))))))))))))
            refine TO.skip rfl dc (TO.pick (b := false) rfl dc rfl rfl (TO.assign rfl dc rfl (TO.nil (TX.next (TC.condF rfl (TC.skip (TX.blockNormal (TX.blockNormal ?_))))))))
            subst hag2
            exact TX.againD (n1, next5, stop4, m3 + 1) h (Nat.lt_succ_self _) rfl (Sbs.cons rfl (Sbs.cons rfl (Sbs.cons rfl (Sbs.cons rfl (Sbs.cons rfl (Sbs.nil)))))) (Splits.of [0, 1, 2, 3] kr rfl)
         ·
          have h := condF hb8 h
          refine TO.skip rfl dc (TO.skip rfl dc (TO.pick (b := false) rfl dc rfl rfl (TO.move rfl dc rfl (TO.skip rfl dc (TO.skip rfl dc (TO.pick (b := false) rfl dc rfl rfl (TO.move rfl dc rfl (TO.skip rfl dc (TO.skip rfl dc (TO.pick (b := false) rfl dc rfl rfl (TO.move rfl dc rfl (TO.skip rfl dc (TO.skip rfl dc ?_)))))))))))))
          refine TO.pick (b := false) rfl dc rfl rfl (TO.move rfl dc rfl (TO.skip rfl dc (TO.skip rfl dc (TO.pick (b := false) rfl dc rfl rfl (TO.move rfl dc rfl (TO.skip rfl dc (TO.skip rfl dc (TO.pick (b := false) rfl dc rfl rfl (TO.assign rfl dc rfl (TO.nil (TX.next (TC.condF rfl (TC.seq ?_)))))))))))))
          refine TC.region (TO.move rfl dc rfl (TO.move rfl dc rfl ?_))
          refine TO.split (s := 95) rfl (fun hb39 => ?_) (fun hb39 => ?_)
          ·
           have h := condT hb39 h
           refine TO.move rfl dc rfl (TO.move rfl dc rfl (TO.conv rfl dc rfl (conv_rune Try.underlying21 Try.underlying9) (TO.lenStr rfl dc rfl Try.underlying9 ?_)))
           obtain ⟨hg12, h⟩ := grdE h
           refine TO.bin rfl dc rfl rfl (bin_add (r := (p1.i : Int) + ((Utf8.encode (p1.r : Int)).size : Int)) (IntWalk.i64_in _ hg12)) (TO.move rfl dc rfl (TO.bin rfl dc rfl rfl bin_eql (TO.pick (b := true) rfl dc rfl rfl (TO.move rfl dc rfl ?_))))
           refine TO.split (s := 104) rfl (fun hb40 => ?_) (fun hb40 => ?_)
           ·
            have h := condT hb40 h
            refine TO.move rfl dc rfl (TO.bin rfl dc rfl rfl bin_neq (TO.pick (b := true) rfl dc rfl rfl (TO.move rfl dc rfl ?_)))
            refine TO.split (s := 108) rfl (fun hb41 => ?_) (fun hb41 => ?_)
            ·
             have h := condT hb41 h
             refine TO.move rfl dc rfl (TO.bin rfl dc rfl rfl bin_neq (TO.pick (b := true) rfl dc rfl rfl (TO.assign rfl dc rfl (TO.nil (TX.next ?_)))))
             refine TC.condB rfl (fun hb42 => ?_) (fun hb42 => ?_)
             ·
              have h := condT hb42 h
              refine TC.seq (TC.region (TO.assign rfl dc rfl (TO.nil (TX.next (TC.ret (TX.blockRet (TX.blockRet (TX.thenRet (TX.blockRet (TX.thenRet ?_))))))))))
              cases h
              exact TX.finM (rs := [.tmp 2]) ds1 () (.inl rfl) (Splits.open0 (k := 3) rfl) Try.results5 (.cons (.tmp rfl) .nil) rfl Splits.nil
             ·
              have h := condF hb42 h
              refine TC.skip (TX.blockNormal (TX.blockNormal ?_))
              subst hag2
              exact TX.againD (n1, next5, stop4, m3 + 1) h (Nat.lt_succ_self _) rfl (Sbs.cons rfl (Sbs.cons rfl (Sbs.cons rfl (Sbs.cons rfl (Sbs.cons rfl (Sbs.nil)))))) (Splits.of [0, 1, 2, 3] kr rfl)
            ·
             have h := condF hb41 h
             refine TO.skip rfl dc (TO.skip rfl dc (TO.pick (b := false) rfl dc rfl rfl (TO.assign rfl dc rfl (TO.nil (TX.next (TC.condF rfl (TC.skip (TX.blockNormal (TX.blockNormal ?_)))))))))
             subst hag2
             exact TX.againD (n1, next5, stop4, m3 + 1) h (Nat.lt_succ_self _) rfl (Sbs.cons rfl (Sbs.cons rfl (Sbs.cons rfl (Sbs.cons rfl (Sbs.cons rfl (Sbs.nil)))))) (Splits.of [0, 1, 2, 3] kr rfl)
           ·
            have h := condF hb40 h
            refine TO.skip rfl dc (TO.skip rfl dc (TO.pick (b := false) rfl dc rfl rfl (TO.move rfl dc rfl (TO.skip rfl dc (TO.skip rfl dc (TO.pick (b := false) rfl dc rfl rfl (TO.assign rfl dc rfl (TO.nil (TX.next (TC.condF rfl (TC.skip (TX.blockNormal (TX.blockNormal ?_)))))))))))))
            subst hag2
            exact TX.againD (n1, next5, stop4, m3 + 1) h (Nat.lt_succ_self _) rfl (Sbs.cons rfl (Sbs.cons rfl (Sbs.cons rfl (Sbs.cons rfl (Sbs.cons rfl (Sbs.nil)))))) (Splits.of [0, 1, 2, 3] kr rfl)
          ·
           have h := condF hb39 h
           refine TO.skip rfl dc (TO.skip rfl dc (TO.skip rfl dc (TO.skip rfl dc (TO.skip rfl dc (TO.skip rfl dc (TO.skip rfl dc (TO.pick (b := false) rfl dc rfl rfl (TO.move rfl dc rfl (TO.skip rfl dc (TO.skip rfl dc (TO.pick (b := false) rfl dc rfl rfl (TO.move rfl dc rfl (TO.skip rfl dc ?_)))))))))))))
           refine TO.skip rfl dc (TO.pick (b := false) rfl dc rfl rfl (TO.assign rfl dc rfl (TO.nil (TX.next (TC.condF rfl (TC.skip (TX.blockNormal (TX.blockNormal ?_))))))))
           subst hag2
           exact TX.againD (n1, next5, stop4, m3 + 1) h (Nat.lt_succ_self _) rfl (Sbs.cons rfl (Sbs.cons rfl (Sbs.cons rfl (Sbs.cons rfl (Sbs.cons rfl (Sbs.nil)))))) (Splits.of [0, 1, 2, 3] kr rfl)
       ·
        have h := condF hb6 h
        refine TO.skip rfl dc (TO.skip rfl dc (TO.pick (b := false) rfl dc rfl rfl (TO.assign rfl dc rfl (TO.nil (TX.next (TC.condF rfl (TC.seq (TC.region (TO.move rfl dc rfl (TO.move rfl dc rfl ?_))))))))))
        refine TO.split (s := 69) rfl (fun hb43 => ?_) (fun hb43 => ?_)
        ·
         have h := condT hb43 h
         refine TO.move rfl dc rfl (TO.bin rfl dc rfl rfl bin_neq (TO.pick (b := true) rfl dc rfl rfl (TO.move rfl dc rfl ?_)))
         refine TO.split (s := 73) rfl (fun hb44 => ?_) (fun hb44 => ?_)
         ·
          have h := condT hb44 h
          refine TO.move rfl dc rfl (TO.bin rfl dc rfl rfl bin_neq (TO.pick (b := true) rfl dc rfl rfl (TO.move rfl dc rfl ?_)))
          refine TO.split (s := 77) rfl (fun hb45 => ?_) (fun hb45 => ?_)
          ·
           have h := condT hb45 h
           refine TO.move rfl dc rfl (TO.bin rfl dc rfl rfl bin_neq (TO.pick (b := true) rfl dc rfl rfl (TO.move rfl dc rfl ?_)))
           refine TO.split (s := 81) rfl (fun hb46 => ?_) (fun hb46 => ?_)
           ·
            have h := condT hb46 h
            refine TO.move rfl dc rfl (TO.bin rfl dc rfl rfl bin_neq (TO.pick (b := true) rfl dc rfl rfl (TO.move rfl dc rfl ?_)))
            refine TO.split (s := 85) rfl (fun hb47 => ?_) (fun hb47 => ?_)
            ·
             have h := condT hb47 h
             refine TO.move rfl dc rfl (TO.bin rfl dc rfl rfl bin_neq (TO.pick (b := true) rfl dc rfl rfl (TO.move rfl dc rfl ?_)))
             refine TO.split (s := 89) rfl (fun hb48 => ?_) (fun hb48 => ?_)
             ·
              have h := condT hb48 h
              refine TO.move rfl dc rfl (TO.bin rfl dc rfl rfl bin_neq (TO.pick (b := true) rfl dc rfl rfl (TO.assign rfl dc rfl (TO.nil (TX.next ?_)))))
              refine TC.condB rfl (fun hb49 => ?_) (fun hb49 => ?_)
              ·
               have h := condT hb49 h
               refine TC.seq (TC.region (TO.assign rfl dc rfl (TO.nil (TX.next (TC.ret (TX.blockRet (TX.blockRet (TX.thenRet (TX.blockRet (TX.thenRet ?_))))))))))
               cases h
               exact TX.finM (rs := [.tmp 2]) ds1 () (.inl rfl) (Splits.open0 (k := 3) rfl) Try.results5 (.cons (.tmp rfl) .nil) rfl Splits.nil
              ·
               have h := condF hb49 h
               refine TC.seq (TC.region (TO.move rfl dc rfl (TO.move rfl dc rfl ?_)))
               refine TO.split (s := 95) rfl (fun hb50 => ?_) (fun hb50 => ?_)
               ·
                have h := condT hb50 h
                refine TO.move rfl dc rfl (TO.move rfl dc rfl (TO.conv rfl dc rfl (conv_rune Try.underlying21 Try.underlying9) (TO.lenStr rfl dc rfl Try.underlying9 ?_)))
                obtain ⟨hg13, h⟩ := grdE h
                refine TO.bin rfl dc rfl rfl (bin_add (r := (p1.i : Int) + ((Utf8.encode (p1.r : Int)).size : Int)) (IntWalk.i64_in _ hg13)) (TO.move rfl dc rfl (TO.bin rfl dc rfl rfl bin_eql (TO.pick (b := true) rfl dc rfl rfl (TO.move rfl dc rfl ?_))))
                refine TO.split (s := 104) rfl (fun hb51 => ?_) (fun hb51 => ?_)
                ·
                 have h := condT hb51 h
                 refine TO.move rfl dc rfl (TO.bin rfl dc rfl rfl bin_neq (TO.pick (b := true) rfl dc rfl rfl (TO.move rfl dc rfl ?_)))
                 refine TO.split (s := 108) rfl (fun hb52 => ?_) (fun hb52 => ?_)
                 ·
                  have h := condT hb52 h
                  refine TO.move rfl dc rfl (TO.bin rfl dc rfl rfl bin_neq (TO.pick (b := true) rfl dc rfl rfl (TO.assign rfl dc rfl (TO.nil (TX.next ?_)))))
                  refine TC.condB rfl (fun hb53 => ?_) (fun hb53 => ?_)
                  ·
                   have h := condT hb53 h
                   refine TC.seq (TC.region (TO.assign rfl dc rfl (TO.nil (TX.next (TC.ret (TX.blockRet (TX.blockRet (TX.thenRet (TX.blockRet (TX.thenRet ?_))))))))))
                   cases h
                   exact TX.finM (rs := [.tmp 2]) ds1 () (.inl rfl) (Splits.open0 (k := 3) rfl) Try.results5 (.cons (.tmp rfl) .nil) rfl Splits.nil
                  ·
                   have h := condF hb53 h
                   refine TC.skip (TX.blockNormal (TX.blockNormal ?_))
                   subst hag2
                   exact TX.againD (n1, next5, stop4, m3 + 1) h (Nat.lt_succ_self _) rfl (Sbs.cons rfl (Sbs.cons rfl (Sbs.cons rfl (Sbs.cons rfl (Sbs.cons rfl (Sbs.nil)))))) (Splits.of [0, 1, 2, 3] kr rfl)
                 ·
                  have h := condF hb52 h
                  refine TO.skip rfl dc (TO.skip rfl dc (TO.pick (b := false) rfl dc rfl rfl (TO.assign rfl dc rfl (TO.nil (TX.next (TC.condF rfl (TC.skip (TX.blockNormal (TX.blockNormal ?_)))))))))
                  subst hag2
                  exact TX.againD (n1, next5, stop4, m3 + 1) h (Nat.lt_succ_self _) rfl (Sbs.cons rfl (Sbs.cons rfl (Sbs.cons rfl (Sbs.cons rfl (Sbs.cons rfl (Sbs.nil)))))) (Splits.of [0, 1, 2, 3] kr rfl)
                ·
                 have h := condF hb51 h
                 refine TO.skip rfl dc (TO.skip rfl dc (TO.pick (b := false) rfl dc rfl rfl (TO.move rfl dc rfl (TO.skip rfl dc (TO.skip rfl dc (TO.pick (b := false) rfl dc rfl rfl (TO.assign rfl dc rfl (TO.nil (TX.next (TC.condF rfl (TC.skip (TX.blockNormal (TX.blockNormal ?_)))))))))))))
                 subst hag2
                 exact TX.againD (n1, next5, stop4, m3 + 1) h (Nat.lt_succ_self _) rfl (Sbs.cons rfl (Sbs.cons rfl (Sbs.cons rfl (Sbs.cons rfl (Sbs.cons rfl (Sbs.nil)))))) (Splits.of [0, 1, 2, 3] kr rfl)
               ·
                have h := condF hb50 h
                refine TO.skip rfl dc (TO.skip rfl dc (TO.skip rfl dc (TO.skip rfl dc (TO.skip rfl dc (TO.skip rfl dc (TO.skip rfl dc (TO.pick (b := false) rfl dc rfl rfl (TO.move rfl dc rfl (TO.skip rfl dc (TO.skip rfl dc (TO.pick (b := false) rfl dc rfl rfl (TO.move rfl dc rfl (TO.skip rfl dc ?_)))))))))))))
                refine TO.skip rfl dc (TO.pick (b := false) rfl dc rfl rfl (TO.assign rfl dc rfl (TO.nil (TX.next (TC.condF rfl (TC.skip (TX.blockNormal (TX.blockNormal ?_))))))))
                subst hag2
                exact TX.againD (n1, next5, stop4, m3 + 1) h (Nat.lt_succ_self _) rfl (Sbs.cons rfl (Sbs.cons rfl (Sbs.cons rfl (Sbs.cons rfl (Sbs.cons rfl (Sbs.nil)))))) (Splits.of [0, 1, 2, 3] kr rfl)
             ·
              have h := condF hb48 h
              refine TO.skip rfl dc (TO.skip rfl dc (TO.pick (b := false) rfl dc rfl rfl (TO.assign rfl dc rfl (TO.nil (TX.next (TC.condF rfl (TC.seq (TC.region (TO.move rfl dc rfl (TO.move rfl dc rfl ?_))))))))))
              refine TO.split (s := 95) rfl (fun hb54 => ?_) (fun hb54 => ?_)
              ·
               have h := condT hb54 h
               refine TO.move rfl dc rfl (TO.move rfl dc rfl (TO.conv rfl dc rfl (conv_rune Try.underlying21 Try.underlying9) (TO.lenStr rfl dc rfl Try.underlying9 ?_)))
               obtain ⟨hg14, h⟩ := grdE h
               refine TO.bin rfl dc rfl rfl (bin_add (r := (p1.i : Int) + ((Utf8.encode (p1.r : Int)).size : Int)) (IntWalk.i64_in _ hg14)) (TO.move rfl dc rfl (TO.bin rfl dc rfl rfl bin_eql (TO.pick (b := true) rfl dc rfl rfl (TO.move rfl dc rfl ?_))))
               refine TO.split (s := 104) rfl (fun hb55 => ?_) (fun hb55 => ?_)
               ·
                have h := condT hb55 h
                refine TO.move rfl dc rfl (TO.bin rfl dc rfl rfl bin_neq (TO.pick (b := true) rfl dc rfl rfl (TO.move rfl dc rfl ?_)))
                refine TO.split (s := 108) rfl (fun hb56 => ?_) (fun hb56 => ?_)
                ·
                 have h := condT hb56 h
                 refine TO.move rfl dc rfl (TO.bin rfl dc rfl rfl bin_neq (TO.pick (b := true) rfl dc rfl rfl (TO.assign rfl dc rfl (TO.nil (TX.next ?_)))))
                 refine TC.condB rfl (fun hb57 => ?_) (fun hb57 => ?_)
                 ·
                  have h := condT hb57 h
                  refine TC.seq (TC.region (TO.assign rfl dc rfl (TO.nil (TX.next (TC.ret (TX.blockRet (TX.blockRet (TX.thenRet (TX.blockRet (TX.thenRet ?_))))))))))
                  cases h
                  exact TX.finM (rs := [.tmp 2]) ds1 () (.inl rfl) (Splits.open0 (k := 3) rfl) Try.results5 (.cons (.tmp rfl) .nil) rfl Splits.nil
                 ·
                  have h := condF hb57 h
                  refine TC.skip (TX.blockNormal (TX.blockNormal ?_))
                  subst hag2
                  exact TX.againD (n1, next5, stop4, m3 + 1) h (Nat.lt_succ_self _) rfl (Sbs.cons rfl (Sbs.cons rfl (Sbs.cons rfl (Sbs.cons rfl (Sbs.cons rfl (Sbs.nil)))))) (Splits.of [0, 1, 2, 3] kr rfl)
                ·
                 have h := condF hb56 h
                 refine TO.skip rfl dc (TO.skip rfl dc (TO.pick (b := false) rfl dc rfl rfl (TO.assign rfl dc rfl (TO.nil (TX.next (TC.condF rfl (TC.skip (TX.blockNormal (TX.blockNormal ?_)))))))))
                 subst hag2
                 exact TX.againD (n1, next5, stop4, m3 + 1) h (Nat.lt_succ_self _) rfl (Sbs.cons rfl (Sbs.cons rfl (Sbs.cons rfl (Sbs.cons rfl (Sbs.cons rfl (Sbs.nil)))))) (Splits.of [0, 1, 2, 3] kr rfl)
               ·
                have h := condF hb55 h
                refine TO.skip rfl dc (TO.skip rfl dc (TO.pick (b := false) rfl dc rfl rfl (TO.move rfl dc rfl (TO.skip rfl dc (TO.skip rfl dc (TO.pick (b := false) rfl dc rfl rfl (TO.assign rfl dc rfl (TO.nil (TX.next (TC.condF rfl (TC.skip (TX.blockNormal (TX.blockNormal ?_)))))))))))))
                subst hag2
                exact TX.againD (n1, next5, stop4, m3 + 1) h (Nat.lt_succ_self _) rfl (Sbs.cons rfl (Sbs.cons rfl (Sbs.cons rfl (Sbs.cons rfl (Sbs.cons rfl (Sbs.nil)))))) (Splits.of [0, 1, 2, 3] kr rfl)
              ·
               have h := condF hb54 h
               refine TO.skip rfl dc (TO.skip rfl dc (TO.skip rfl dc (TO.skip rfl dc (TO.skip rfl dc (TO.skip rfl dc (TO.skip rfl dc (TO.pick (b := false) rfl dc rfl rfl (TO.move rfl dc rfl (TO.skip rfl dc (TO.skip rfl dc (TO.pick (b := false) rfl dc rfl rfl (TO.move rfl dc rfl (TO.skip rfl dc ?_)))))))))))))
               refine TO.skip rfl dc (TO.pick (b := false) rfl dc rfl rfl (TO.assign rfl dc rfl (TO.nil (TX.next (TC.condF rfl (TC.skip (TX.blockNormal (TX.blockNormal ?_))))))))
               subst hag2
               exact TX.againD (n1, next5, stop4, m3 + 1) h (Nat.lt_succ_self _) rfl (Sbs.cons rfl (Sbs.cons rfl (Sbs.cons rfl (Sbs.cons rfl (Sbs.cons rfl (Sbs.nil)))))) (Splits.of [0, 1, 2, 3] kr rfl)
            ·
             have h := condF hb47 h
             refine TO.skip rfl dc (TO.skip rfl dc (TO.pick (b := false) rfl dc rfl rfl (TO.move rfl dc rfl (TO.skip rfl dc (TO.skip rfl dc (TO.pick (b := false) rfl dc rfl rfl (TO.assign rfl dc rfl (TO.nil (TX.next (TC.condF rfl (TC.seq (TC.region (TO.move rfl dc rfl ?_)))))))))))))
             refine TO.move rfl dc rfl ?_
             refine TO.split (s := 95) rfl (fun hb58 => ?_) (fun hb58 => ?_)
             ·
              have h := condT hb58 h
              refine TO.move rfl dc rfl (TO.move rfl dc rfl (TO.conv rfl dc rfl (conv_rune Try.underlying21 Try.underlying9) (TO.lenStr rfl dc rfl Try.underlying9 ?_)))
              obtain ⟨hg15, h⟩ := grdE h
              refine TO.bin rfl dc rfl rfl (bin_add (r := (p1.i : Int) + ((Utf8.encode (p1.r : Int)).size : Int)) (IntWalk.i64_in _ hg15)) (TO.move rfl dc rfl (TO.bin rfl dc rfl rfl bin_eql (TO.pick (b := true) rfl dc rfl rfl (TO.move rfl dc rfl ?_))))
              refine TO.split (s := 104) rfl (fun hb59 => ?_) (fun hb59 => ?_)
              ·
               have h := condT hb59 h
               refine TO.move rfl dc rfl (TO.bin rfl dc rfl rfl bin_neq (TO.pick (b := true) rfl dc rfl rfl (TO.move rfl dc rfl ?_)))
               refine TO.split (s := 108) rfl (fun hb60 => ?_) (fun hb60 => ?_)
               ·
                have h := condT hb60 h
                refine TO.move rfl dc rfl (TO.bin rfl dc rfl rfl bin_neq (TO.pick (b := true) rfl dc rfl rfl (TO.assign rfl dc rfl (TO.nil (TX.next ?_)))))
                refine TC.condB rfl (fun hb61 => ?_) (fun hb61 => ?_)
                ·
                 have h := condT hb61 h
                 refine TC.seq (TC.region (TO.assign rfl dc rfl (TO.nil (TX.next (TC.ret (TX.blockRet (TX.blockRet (TX.thenRet (TX.blockRet (TX.thenRet ?_))))))))))
                 cases h
                 exact TX.finM (rs := [.tmp 2]) ds1 () (.inl rfl) (Splits.open0 (k := 3) rfl) Try.results5 (.cons (.tmp rfl) .nil) rfl Splits.nil
                ·
                 have h := condF hb61 h
                 refine TC.skip (TX.blockNormal (TX.blockNormal ?_))
                 subst hag2
                 exact TX.againD (n1, next5, stop4, m3 + 1) h (Nat.lt_succ_self _) rfl (Sbs.cons rfl (Sbs.cons rfl (Sbs.cons rfl (Sbs.cons rfl (Sbs.cons rfl (Sbs.nil)))))) (Splits.of [0, 1, 2, 3] kr rfl)
               ·
                have h := condF hb60 h
                refine TO.skip rfl dc (TO.skip rfl dc (TO.pick (b := false) rfl dc rfl rfl (TO.assign rfl dc rfl (TO.nil (TX.next (TC.condF rfl (TC.skip (TX.blockNormal (TX.blockNormal ?_)))))))))
                subst hag2
                exact TX.againD (n1, next5, stop4, m3 + 1) h (Nat.lt_succ_self _) rfl (Sbs.cons rfl (Sbs.cons rfl (Sbs.cons rfl (Sbs.cons rfl (Sbs.cons rfl (Sbs.nil)))))) (Splits.of [0, 1, 2, 3] kr rfl)
              ·
               have h := condF hb59 h
               refine TO.skip rfl dc (TO.skip rfl dc (TO.pick (b := false) rfl dc rfl rfl (TO.move rfl dc rfl (TO.skip rfl dc (TO.skip rfl dc (TO.pick (b := false) rfl dc rfl rfl (TO.assign rfl dc rfl (TO.nil (TX.next (TC.condF rfl (TC.skip (TX.blockNormal (TX.blockNormal ?_)))))))))))))
               subst hag2
               exact TX.againD (n1, next5, stop4, m3 + 1) h (Nat.lt_succ_self _) rfl (Sbs.cons rfl (Sbs.cons rfl (Sbs.cons rfl (Sbs.cons rfl (Sbs.cons rfl (Sbs.nil)))))) (Splits.of [0, 1, 2, 3] kr rfl)
             ·
              have h := condF hb58 h
              refine TO.skip rfl dc (TO.skip rfl dc (TO.skip rfl dc (TO.skip rfl dc (TO.skip rfl dc (TO.skip rfl dc (TO.skip rfl dc (TO.pick (b := false) rfl dc rfl rfl (TO.move rfl dc rfl (TO.skip rfl dc (TO.skip rfl dc (TO.pick (b := false) rfl dc rfl rfl (TO.move rfl dc rfl (TO.skip rfl dc ?_)))))))))))))
              refine TO.skip rfl dc (TO.pick (b := false) rfl dc rfl rfl (TO.assign rfl dc rfl (TO.nil (TX.next (TC.condF rfl (TC.skip (TX.blockNormal (TX.blockNormal ?_))))))))
              subst hag2
              exact TX.againD (n1, next5, stop4, m3 + 1) h (Nat.lt_succ_self _) rfl (Sbs.cons rfl (Sbs.cons rfl (Sbs.cons rfl (Sbs.cons rfl (Sbs.cons rfl (Sbs.nil)))))) (Splits.of [0, 1, 2, 3] kr rfl)
           ·
            have h := condF hb46 h
            refine TO.skip rfl dc (TO.skip rfl dc (TO.pick (b := false) rfl dc rfl rfl (TO.move rfl dc rfl (TO.skip rfl dc (TO.skip rfl dc (TO.pick (b := false) rfl dc rfl rfl (TO.move rfl dc rfl (TO.skip rfl dc (TO.skip rfl dc (TO.pick (b := false) rfl dc rfl rfl (TO.assign rfl dc rfl (TO.nil (TX.next ?_)))))))))))))
            refine TC.condF rfl (TC.seq (TC.region (TO.move rfl dc rfl (TO.move rfl dc rfl ?_))))
            refine TO.split (s := 95) rfl (fun hb62 => ?_) (fun hb62 => ?_)
            ·
             have h := condT hb62 h
             refine TO.move rfl dc rfl (TO.move rfl dc rfl (TO.conv rfl dc rfl (conv_rune Try.underlying21 Try.underlying9) (TO.lenStr rfl dc rfl Try.underlying9 ?_)))
             obtain ⟨hg16, h⟩ := grdE h
             refine TO.bin rfl dc rfl rfl (bin_add (r := (p1.i : Int) + ((Utf8.encode (p1.r : Int)).size : Int)) (IntWalk.i64_in _ hg16)) (TO.move rfl dc rfl (TO.bin rfl dc rfl rfl bin_eql (TO.pick (b := true) rfl dc rfl rfl (TO.move rfl dc rfl ?_))))
             refine TO.split (s := 104) rfl (fun hb63 => ?_) (fun hb63 => ?_)
             ·
              have h := condT hb63 h
              refine TO.move rfl dc rfl (TO.bin rfl dc rfl rfl bin_neq (TO.pick (b := true) rfl dc rfl rfl (TO.move rfl dc rfl ?_)))
              refine TO.split (s := 108) rfl (fun hb64 => ?_) (fun hb64 => ?_)
              ·
               have h := condT hb64 h
               refine TO.move rfl dc rfl (TO.bin rfl dc rfl rfl bin_neq (TO.pick (b := true) rfl dc rfl rfl (TO.assign rfl dc rfl (TO.nil (TX.next ?_)))))
               refine TC.condB rfl (fun hb65 => ?_) (fun hb65 => ?_)
               ·
                have h := condT hb65 h
                refine TC.seq (TC.region (TO.assign rfl dc rfl (TO.nil (TX.next (TC.ret (TX.blockRet (TX.blockRet (TX.thenRet (TX.blockRet (TX.thenRet ?_))))))))))
                cases h
                exact TX.finM (rs := [.tmp 2]) ds1 () (.inl rfl) (Splits.open0 (k := 3) rfl) Try.results5 (.cons (.tmp rfl) .nil) rfl Splits.nil
               ·
                have h := condF hb65 h
                refine TC.skip (TX.blockNormal (TX.blockNormal ?_))
                subst hag2
                exact TX.againD (n1, next5, stop4, m3 + 1) h (Nat.lt_succ_self _) rfl (Sbs.cons rfl (Sbs.cons rfl (Sbs.cons rfl (Sbs.cons rfl (Sbs.cons rfl (Sbs.nil)))))) (Splits.of [0, 1, 2, 3] kr rfl)
              ·
               have h := condF hb64 h
               refine TO.skip rfl dc (TO.skip rfl dc (TO.pick (b := false) rfl dc rfl rfl (TO.assign rfl dc rfl (TO.nil (TX.next (TC.condF rfl (TC.skip (TX.blockNormal (TX.blockNormal ?_)))))))))
               subst hag2
               exact TX.againD (n1, next5, stop4, m3 + 1) h (Nat.lt_succ_self _) rfl (Sbs.cons rfl (Sbs.cons rfl (Sbs.cons rfl (Sbs.cons rfl (Sbs.cons rfl (Sbs.nil)))))) (Splits.of [0, 1, 2, 3] kr rfl)
             ·
              have h := condF hb63 h
              refine TO.skip rfl dc (TO.skip rfl dc (TO.pick (b := false) rfl dc rfl rfl (TO.move rfl dc rfl (TO.skip rfl dc (TO.skip rfl dc (TO.pick (b := false) rfl dc rfl rfl (TO.assign rfl dc rfl (TO.nil (TX.next (TC.condF rfl (TC.skip (TX.blockNormal (TX.blockNormal ?_)))))))))))))
              subst hag2
              exact TX.againD (n1, next5, stop4, m3 + 1) h (Nat.lt_succ_self _) rfl (Sbs.cons rfl (Sbs.cons rfl (Sbs.cons rfl (Sbs.cons rfl (Sbs.cons rfl (Sbs.nil)))))) (Splits.of [0, 1, 2, 3] kr rfl)
            ·
             have h := condF hb62 h
             refine TO.skip rfl dc (TO.skip rfl dc (TO.skip rfl dc (TO.skip rfl dc (TO.skip rfl dc (TO.skip rfl dc (TO.skip rfl dc (TO.pick (b := false) rfl dc rfl rfl (TO.move rfl dc rfl (TO.skip rfl dc (TO.skip rfl dc (TO.pick (b := false) rfl dc rfl rfl (TO.move rfl dc rfl (TO.skip rfl dc ?_)))))))))))))
             refine TO.skip rfl dc (TO.pick (b := false) rfl dc rfl rfl (TO.assign rfl dc rfl (TO.nil (TX.next (TC.condF rfl (TC.skip (TX.blockNormal (TX.blockNormal ?_))))))))
             subst hag2
             exact TX.againD (n1, next5, stop4, m3 + 1) h (Nat.lt_succ_self _) rfl (Sbs.cons rfl (Sbs.cons rfl (Sbs.cons rfl (Sbs.cons rfl (Sbs.cons rfl (Sbs.nil)))))) (Splits.of [0, 1, 2, 3] kr rfl)
          ·
           have h := condF hb45 h
           refine TO.skip rfl dc (TO.skip rfl dc (TO.pick (b := false) rfl dc rfl rfl (TO.move rfl dc rfl (TO.skip rfl dc (TO.skip rfl dc (TO.pick (b := false) rfl dc rfl rfl (TO.move rfl dc rfl (TO.skip rfl dc (TO.skip rfl dc (TO.pick (b := false) rfl dc rfl rfl (TO.move rfl dc rfl (TO.skip rfl dc (TO.skip rfl dc ?_)))))))))))))
           refine TO.pick (b := false) rfl dc rfl rfl (TO.assign rfl dc rfl (TO.nil (TX.next (TC.condF rfl (TC.seq (TC.region (TO.move rfl dc rfl (TO.move rfl dc rfl ?_))))))))
           refine TO.split (s := 95) rfl (fun hb66 => ?_) (fun hb66 => ?_)
           ·
            have h := condT hb66 h
            refine TO.move rfl dc rfl (TO.move rfl dc rfl (TO.conv rfl dc rfl (conv_rune Try.underlying21 Try.underlying9) (TO.lenStr rfl dc rfl Try.underlying9 ?_)))
            obtain ⟨hg17, h⟩ := grdE h
            refine TO.bin rfl dc rfl rfl (bin_add (r := (p1.i : Int) + ((Utf8.encode (p1.r : Int)).size : Int)) (IntWalk.i64_in _ hg17)) (TO.move rfl dc rfl (TO.bin rfl dc rfl rfl bin_eql (TO.pick (b := true) rfl dc rfl rfl (TO.move rfl dc rfl ?_))))
            refine TO.split (s := 104) rfl (fun hb67 => ?_) (fun hb67 => ?_)
            ·
             have h := condT hb67 h
             refine TO.move rfl dc rfl (TO.bin rfl dc rfl rfl bin_neq (TO.pick (b := true) rfl dc rfl rfl (TO.move rfl dc rfl ?_)))
             refine TO.split (s := 108) rfl (fun hb68 => ?_) (fun hb68 => ?_)
             ·
              have h := condT hb68 h
              refine TO.move rfl dc rfl (TO.bin rfl dc rfl rfl bin_neq (TO.pick (b := true) rfl dc rfl rfl (TO.assign rfl dc rfl (TO.nil (TX.next ?_)))))
              refine TC.condB rfl (fun hb69 => ?_) (fun hb69 => ?_)
              ·
               have h := condT hb69 h
               refine TC.seq (TC.region (TO.assign rfl dc rfl (TO.nil (TX.next (TC.ret (TX.blockRet (TX.blockRet (TX.thenRet (TX.blockRet (TX.thenRet ?_))))))))))
               cases h
               exact TX.finM (rs := [.tmp 2]) ds1 () (.inl rfl) (Splits.open0 (k := 3) rfl) Try.results5 (.cons (.tmp rfl) .nil) rfl Splits.nil
              ·
               have h := condF hb69 h
               refine TC.skip (TX.blockNormal (TX.blockNormal ?_))
               subst hag2
               exact TX.againD (n1, next5, stop4, m3 + 1) h (Nat.lt_succ_self _) rfl (Sbs.cons rfl (Sbs.cons rfl (Sbs.cons rfl (Sbs.cons rfl (Sbs.cons rfl (Sbs.nil)))))) (Splits.of [0, 1, 2, 3] kr rfl)
             ·
              have h := condF hb68 h
              refine TO.skip rfl dc (TO.skip rfl dc (TO.pick (b := false) rfl dc rfl rfl (TO.assign rfl dc rfl (TO.nil (TX.next (TC.condF rfl (TC.skip (TX.blockNormal (TX.blockNormal ?_)))))))))
              subst hag2
              exact TX.againD (n1, next5, stop4, m3 + 1) h (Nat.lt_succ_self _) rfl (Sbs.cons rfl (Sbs.cons rfl (Sbs.cons rfl (Sbs.cons rfl (Sbs.cons rfl (Sbs.nil)))))) (Splits.of [0, 1, 2, 3] kr rfl)
            ·
             have h := condF hb67 h
             refine TO.skip rfl dc (TO.skip rfl dc (TO.pick (b := false) rfl dc rfl rfl (TO.move rfl dc rfl (TO.skip rfl dc (TO.skip rfl dc (TO.pick (b := false) rfl dc rfl rfl (TO.assign rfl dc rfl (TO.nil (TX.next (TC.condF rfl (TC.skip (TX.blockNormal (TX.blockNormal ?_)))))))))))))
             subst hag2
             exact TX.againD (n1, next5, stop4, m3 + 1) h (Nat.lt_succ_self _) rfl (Sbs.cons rfl (Sbs.cons rfl (Sbs.cons rfl (Sbs.cons rfl (Sbs.cons rfl (Sbs.nil)))))) (Splits.of [0, 1, 2, 3] kr rfl)
           ·
            have h := condF hb66 h
            refine TO.skip rfl dc (TO.skip rfl dc (TO.skip rfl dc (TO.skip rfl dc (TO.skip rfl dc (TO.skip rfl dc (TO.skip rfl dc (TO.pick (b := false) rfl dc rfl rfl (TO.move rfl dc rfl (TO.skip rfl dc (TO.skip rfl dc (TO.pick (b := false) rfl dc rfl rfl (TO.move rfl dc rfl (TO.skip rfl dc ?_)))))))))))))
            refine TO.skip rfl dc (TO.pick (b := false) rfl dc rfl rfl (TO.assign rfl dc rfl (TO.nil (TX.next (TC.condF rfl (TC.skip (TX.blockNormal (TX.blockNormal ?_))))))))
            subst hag2
            exact TX.againD (n1, next5, stop4, m3 + 1) h (Nat.lt_succ_self _) rfl (Sbs.cons rfl (Sbs.cons rfl (Sbs.cons rfl (Sbs.cons rfl (Sbs.cons rfl (Sbs.nil)))))) (Splits.of [0, 1, 2, 3] kr rfl)
         ·
          have h := condF hb44 h
          refine TO.skip rfl dc (TO.skip rfl dc (TO.pick (b := false) rfl dc rfl rfl (TO.move rfl dc rfl (TO.skip rfl dc (TO.skip rfl dc (TO.pick (b := false) rfl dc rfl rfl (TO.move rfl dc rfl (TO.skip rfl dc (TO.skip rfl dc (TO.pick (b := false) rfl dc rfl rfl (TO.move rfl dc rfl (TO.skip rfl dc (TO.skip rfl dc ?_)))))))))))))
          refine TO.pick (b := false) rfl dc rfl rfl (TO.move rfl dc rfl (TO.skip rfl dc (TO.skip rfl dc (TO.pick (b := false) rfl dc rfl rfl (TO.assign rfl dc rfl (TO.nil (TX.next (TC.condF rfl (TC.seq (TC.region (TO.move rfl dc rfl (TO.move rfl dc rfl ?_))))))))))))
          refine TO.split (s := 95) rfl (fun hb70 => ?_) (fun hb70 => ?_)
          ·
           have h := condT hb70 h
           refine TO.move rfl dc rfl (TO.move rfl dc rfl (TO.conv rfl dc rfl (conv_rune Try.underlying21 Try.underlying9) (TO.lenStr rfl dc rfl Try.underlying9 ?_)))
           obtain ⟨hg18, h⟩ := grdE h
           refine TO.bin rfl dc rfl rfl (bin_add (r := (p1.i : Int) + ((Utf8.encode (p1.r : Int)).size : Int)) (IntWalk.i64_in _ hg18)) (TO.move rfl dc rfl (TO.bin rfl dc rfl rfl bin_eql (TO.pick (b := true) rfl dc rfl rfl (TO.move rfl dc rfl ?_))))
           refine TO.split (s := 104) rfl (fun hb71 => ?_) (fun hb71 => ?_)
           ·
            have h := condT hb71 h
            refine TO.move rfl dc rfl (TO.bin rfl dc rfl rfl bin_neq (TO.pick (b := true) rfl dc rfl rfl (TO.move rfl dc rfl ?_)))
            refine TO.split (s := 108) rfl (fun hb72 => ?_) (fun hb72 => ?_)
            ·
             have h := condT hb72 h
             refine TO.move rfl dc rfl (TO.bin rfl dc rfl rfl bin_neq (TO.pick (b := true) rfl dc rfl rfl (TO.assign rfl dc rfl (TO.nil (TX.next ?_)))))
             refine TC.condB rfl (fun hb73 => ?_) (fun hb73 => ?_)
             ·
              have h := condT hb73 h
              refine TC.seq (TC.region (TO.assign rfl dc rfl (TO.nil (TX.next (TC.ret (TX.blockRet (TX.blockRet (TX.thenRet (TX.blockRet (TX.thenRet ?_))))))))))
              cases h
              exact TX.finM (rs := [.tmp 2]) ds1 () (.inl rfl) (Splits.open0 (k := 3) rfl) Try.results5 (.cons (.tmp rfl) .nil) rfl Splits.nil
             ·
              have h := condF hb73 h
              refine TC.skip (TX.blockNormal (TX.blockNormal ?_))
              subst hag2
              exact TX.againD (n1, next5, stop4, m3 + 1) h (Nat.lt_succ_self _) rfl (Sbs.cons rfl (Sbs.cons rfl (Sbs.cons rfl (Sbs.cons rfl (Sbs.cons rfl (Sbs.nil)))))) (Splits.of [0, 1, 2, 3] kr rfl)
            ·
             have h := condF hb72 h
             refine TO.skip rfl dc (TO.skip rfl dc (TO.pick (b := false) rfl dc rfl rfl (TO.assign rfl dc rfl (TO.nil (TX.next (TC.condF rfl (TC.skip (TX.blockNormal (TX.blockNormal ?_)))))))))
             subst hag2
             exact TX.againD (n1, next5, stop4, m3 + 1) h (Nat.lt_succ_self _) rfl (Sbs.cons rfl (Sbs.cons rfl (Sbs.cons rfl (Sbs.cons rfl (Sbs.cons rfl (Sbs.nil)))))) (Splits.of [0, 1, 2, 3] kr rfl)
           ·
            have h := condF hb71 h
            refine TO.skip rfl dc (TO.skip rfl dc (TO.pick (b := false) rfl dc rfl rfl (TO.move rfl dc rfl (TO.skip rfl dc (TO.skip rfl dc (TO.pick (b := false) rfl dc rfl rfl (TO.assign rfl dc rfl (TO.nil (TX.next (TC.condF rfl (TC.skip (TX.blockNormal (TX.blockNormal ?_)))))))))))))
            subst hag2
            exact TX.againD (n1, next5, stop4, m3 + 1) h (Nat.lt_succ_self _) rfl (Sbs.cons rfl (Sbs.cons rfl (Sbs.cons rfl (Sbs.cons rfl (Sbs.cons rfl (Sbs.nil)))))) (Splits.of [0, 1, 2, 3] kr rfl)
          ·
           have h := condF hb70 h
           refine TO.skip rfl dc (TO.skip rfl dc (TO.skip rfl dc (TO.skip rfl dc (TO.skip rfl dc (TO.skip rfl dc (TO.skip rfl dc (TO.pick (b := false) rfl dc rfl rfl (TO.move rfl dc rfl (TO.skip rfl dc (TO.skip rfl dc (TO.pick (b := false) rfl dc rfl rfl (TO.move rfl dc rfl (TO.skip rfl dc ?_)))))))))))))
           refine TO.skip rfl dc (TO.pick (b := false) rfl dc rfl rfl (TO.assign rfl dc rfl (TO.nil (TX.next (TC.condF rfl (TC.skip (TX.blockNormal (TX.blockNormal ?_))))))))
           subst hag2
           exact TX.againD (n1, next5, stop4, m3 + 1) h (Nat.lt_succ_self _) rfl (Sbs.cons rfl (Sbs.cons rfl (Sbs.cons rfl (Sbs.cons rfl (Sbs.cons rfl (Sbs.nil)))))) (Splits.of [0, 1, 2, 3] kr rfl)
        ·
         have h := condF hb43 h
         refine TO.skip rfl dc (TO.skip rfl dc (TO.pick (b := false) rfl dc rfl rfl (TO.move rfl dc rfl (TO.skip rfl dc (TO.skip rfl dc (TO.pick (b := false) rfl dc rfl rfl (TO.move rfl dc rfl (TO.skip rfl dc (TO.skip rfl dc (TO.pick (b := false) rfl dc rfl rfl (TO.move rfl dc rfl (TO.skip rfl dc (TO.skip rfl dc ?_)))))))))))))
         refine TO.pick (b := false) rfl dc rfl rfl (TO.move rfl dc rfl (TO.skip rfl dc (TO.skip rfl dc (TO.pick (b := false) rfl dc rfl rfl (TO.move rfl dc rfl (TO.skip rfl dc (TO.skip rfl dc (TO.pick (b := false) rfl dc rfl rfl (TO.assign rfl dc rfl (TO.nil (TX.next (TC.condF rfl (TC.seq ?_)))))))))))))
         refine TC.region (TO.move rfl dc rfl (TO.move rfl dc rfl ?_))
         refine TO.split (s := 95) rfl (fun hb74 => ?_) (fun hb74 => ?_)
         ·
          have h := condT hb74 h
          refine TO.move rfl dc rfl (TO.move rfl dc rfl (TO.conv rfl dc rfl (conv_rune Try.underlying21 Try.underlying9) (TO.lenStr rfl dc rfl Try.underlying9 ?_)))
          obtain ⟨hg19, h⟩ := grdE h
          refine TO.bin rfl dc rfl rfl (bin_add (r := (p1.i : Int) + ((Utf8.encode (p1.r : Int)).size : Int)) (IntWalk.i64_in _ hg19)) (TO.move rfl dc rfl (TO.bin rfl dc rfl rfl bin_eql (TO.pick (b := true) rfl dc rfl rfl (TO.move rfl dc rfl ?_))))
          refine TO.split (s := 104) rfl (fun hb75 => ?_) (fun hb75 => ?_)
          ·
           have h := condT hb75 h
           refine TO.move rfl dc rfl (TO.bin rfl dc rfl rfl bin_neq (TO.pick (b := true) rfl dc rfl rfl (TO.move rfl dc rfl ?_)))
           refine TO.split (s := 108) rfl (fun hb76 => ?_) (fun hb76 => ?_)
           ·
            have h := condT hb76 h
            refine TO.move rfl dc rfl (TO.bin rfl dc rfl rfl bin_neq (TO.pick (b := true) rfl dc rfl rfl (TO.assign rfl dc rfl (TO.nil (TX.next ?_)))))
            refine TC.condB rfl (fun hb77 => ?_) (fun hb77 => ?_)
            ·
             have h := condT hb77 h
             refine TC.seq (TC.region (TO.assign rfl dc rfl (TO.nil (TX.next (TC.ret (TX.blockRet (TX.blockRet (TX.thenRet (TX.blockRet (TX.thenRet ?_))))))))))
             cases h
             exact TX.finM (rs := [.tmp 2]) ds1 () (.inl rfl) (Splits.open0 (k := 3) rfl) Try.results5 (.cons (.tmp rfl) .nil) rfl Splits.nil
            ·
             have h := condF hb77 h
             refine TC.skip (TX.blockNormal (TX.blockNormal ?_))
             subst hag2
             exact TX.againD (n1, next5, stop4, m3 + 1) h (Nat.lt_succ_self _) rfl (Sbs.cons rfl (Sbs.cons rfl (Sbs.cons rfl (Sbs.cons rfl (Sbs.cons rfl (Sbs.nil)))))) (Splits.of [0, 1, 2, 3] kr rfl)
           ·
            have h := condF hb76 h
            refine TO.skip rfl dc (TO.skip rfl dc (TO.pick (b := false) rfl dc rfl rfl (TO.assign rfl dc rfl (TO.nil (TX.next (TC.condF rfl (TC.skip (TX.blockNormal (TX.blockNormal ?_)))))))))
            subst hag2
            exact TX.againD (n1, next5, stop4, m3 + 1) h (Nat.lt_succ_self _) rfl (Sbs.cons rfl (Sbs.cons rfl (Sbs.cons rfl (Sbs.cons rfl (Sbs.cons rfl (Sbs.nil)))))) (Splits.of [0, 1, 2, 3] kr rfl)
          ·
           have h := condF hb75 h
           refine TO.skip rfl dc (TO.skip rfl dc (TO.pick (b := false) rfl dc rfl rfl (TO.move rfl dc rfl (TO.skip rfl dc (TO.skip rfl dc (TO.pick (b := false) rfl dc rfl rfl (TO.assign rfl dc rfl (TO.nil (TX.next (TC.condF rfl (TC.skip (TX.blockNormal (TX.blockNormal ?_)))))))))))))
           subst hag2
           exact TX.againD (n1, next5, stop4, m3 + 1) h (Nat.lt_succ_self _) rfl (Sbs.cons rfl (Sbs.cons rfl (Sbs.cons rfl (Sbs.cons rfl (Sbs.cons rfl (Sbs.nil)))))) (Splits.of [0, 1, 2, 3] kr rfl)
         ·
          have h := condF hb74 h
          refine TO.skip rfl dc (TO.skip rfl dc (TO.skip rfl dc (TO.skip rfl dc (TO.skip rfl dc (TO.skip rfl dc (TO.skip rfl dc (TO.pick (b := false) rfl dc rfl rfl (TO.move rfl dc rfl (TO.skip rfl dc (TO.skip rfl dc (TO.pick (b := false) rfl dc rfl rfl (TO.move rfl dc rfl (TO.skip rfl dc ?_)))))))))))))
          refine TO.skip rfl dc (TO.pick (b := false) rfl dc rfl rfl (TO.assign rfl dc rfl (TO.nil (TX.next (TC.condF rfl (TC.skip (TX.blockNormal (TX.blockNormal ?_))))))))
          subst hag2
          exact TX.againD (n1, next5, stop4, m3 + 1) h (Nat.lt_succ_self _) rfl (Sbs.cons rfl (Sbs.cons rfl (Sbs.cons rfl (Sbs.cons rfl (Sbs.cons rfl (Sbs.nil)))))) (Splits.of [0, 1, 2, 3] kr rfl)
     ·
      have h := condF hb2 h
      refine TO.nextEnd (k := 2) (m := m3) rfl dc rfl rfl (Nat.le_of_not_lt (of_decide_eq_false hb2)) (TO.extract rfl dc rfl rfl (TO.nil (TX.next (TC.seq (TC.condF rfl (TC.exit (TX.thenExit (TX.thenExit (TX.blockHere ?_)))))))))
      exact TX.meetD next4 h rfl (Sbs.cons rfl (Sbs.cons rfl (Sbs.cons rfl (Sbs.nil)))) (Splits.of [0, 1, 3] kr rfl)
   ·
    rintro next1 h
    rw [hj2] at h
    show TC _ _ _ _ _ (marksOf ds1) _ _ [(0, .string s2), (3, .int .i64 next1), (5, .pointer (some ⟨b1, 0, none⟩))] [cells b1 [v1] 33, vec enc_Gapi_Span 26 2 v1 l1, star ((ds1 : List Nat).map mark)]
    obtain ⟨j4, hj4, h⟩ := joinE h
    refine TC.cutN (β := Unit) 0 rfl (fun b => j4 = some r) (fun b => marksOf ds1) (fun b => [(3, .int .i64 next1), (5, .pointer (some ⟨b1, 0, none⟩))]) (fun b => [cells b1 [v1] 33, vec enc_Gapi_Span 26 2 v1 l1, star ((ds1 : List Nat).map mark)]) (fun cut => ?_) ?_
    ·
     refine cut (TC.seq (TC.region (TO.load (k := 0) sc_33 rfl dc rfl rfl rfl (TO.lenVec (k := 1) rfl dc rfl rfl Try.underlying33 (TO.move rfl dc rfl (TO.nil (TX.next (TC.block ?_))))))))
     refine TC.loopD (β := Nat × Int) (fun b => loopG (fun _ => none) (law07_WordLetters_s3 s2 l1 j4) b.1 b.2 = some r) (fun b => marksOf ds1) (fun b => [(0, .string s2), (3, .int .i64 next1), (5, .pointer (some ⟨b1, 0, none⟩)), (112, v1), (113, .int .i64 (l1.length : Int)), (114, .int .i64 b.2)]) (fun b => [cells b1 [v1] 33, vec enc_Gapi_Span 26 2 v1 l1, star ((ds1 : List Nat).map mark)]) (fun b => b.1) (fuel, 0) h rfl (Sbs.cons rfl (Sbs.cons rfl (Sbs.cons rfl (Sbs.cons rfl (Sbs.cons rfl (Sbs.cons rfl (Sbs.nil))))))) (Splits.of [0, 1, 2] kr rfl) ?_
     rintro ⟨n2, x4⟩ h
     cases n2 with
     | zero => exact noneE h
     | succ n2 =>
      obtain ⟨ag3, hag3⟩ : ∃ ag, ag = loopG (fun _ => none) (law07_WordLetters_s3 s2 l1 j4) n2 := ⟨_, rfl⟩
      have h : law07_WordLetters_s3 s2 l1 j4 ag3 x4 = some r := by rw [hag3]; exact h
      unfold law07_WordLetters_s3 at h
      show TC _ _ _ _ _ (marksOf ds1) _ _ [(0, .string s2), (3, .int .i64 next1), (5, .pointer (some ⟨b1, 0, none⟩)), (112, v1), (113, .int .i64 (l1.length : Int)), (114, .int .i64 x4)] [cells b1 [v1] 33, vec enc_Gapi_Span 26 2 v1 l1, star ((ds1 : List Nat).map mark)]
      refine TC.seq (TC.region (TO.bin rfl dc rfl rfl bin_lss (TO.nil (TX.next (TC.seq ?_)))))
      refine TC.condB rfl (fun hb78 => ?_) (fun hb78 => ?_)
      ·
       have h := condT hb78 h
       refine TC.skip (TX.next ?_)
       obtain ⟨j5, hj5, h⟩ := joinE h
       refine TC.cutN (β := Unit) 0 rfl (fun b => j5 = some r) (fun b => marksOf ds1) (fun b => [(0, .string s2), (3, .int .i64 next1), (5, .pointer (some ⟨b1, 0, none⟩)), (112, v1), (113, .int .i64 (l1.length : Int)), (114, .int .i64 x4)]) (fun b => [cells b1 [v1] 33, vec enc_Gapi_Span 26 2 v1 l1, star ((ds1 : List Nat).map mark)]) (fun cut => ?_) ?_
       ·
        refine cut (TC.block (TC.seq (TC.region ?_)))
        obtain ⟨q3, hq6, h⟩ := andE h
        refine TO.indexVecI (k := 1) hq6 Try.underlying33 sz_26 rfl dc rfl rfl rfl rfl (TO.loadsVec (i := (x4 : Int).toNat) (j := 0) (k := 1) (q := q3) (cs := [.int .i64 q3.From, .int .i64 q3.To]) rw_26 enc_Gapi_Span_len rfl dc rfl rfl (getO_get hq6) rfl rfl rfl ?_)
        refine TO.alloc zr_26 rfl dc (fun b7 => ?_)
        refine TO.stores (k := 3) (vs := [.int .i64 q3.From, .int .i64 q3.To]) (l' := [.int .i64 q3.From, .int .i64 q3.To]) sz_26 rfl rfl rfl rfl rfl (show _ ≤ _ by simp) rfl rfl ?_
        show TO _ _ _ _ _ _ _ _ _ _ [cells b1 [v1] 33, vec enc_Gapi_Span 26 2 v1 l1, star ((ds1 : List Nat).map mark), cells b7 [.int .i64 q3.From, .int .i64 q3.To] 26]
        refine TO.nil (TX.next (TC.seq (TC.region (TO.move rfl dc rfl (TO.fieldAddr fl_26_0 rfl dc rfl (show _ = 0 from rfl) (TO.load (k := 3) sc_3 rfl dc rfl rfl rfl (TO.fieldAddr fl_26_1 rfl dc rfl (show _ = 1 from rfl) (TO.load (k := 3) sc_3 rfl dc rfl rfl rfl ?_))))))))
        obtain ⟨hg20, h⟩ := grdE h
        refine TO.slice rfl dc rfl rfl rfl (slice_stringI (i := q3.From) (j := q3.To) Try.underlying9 (.inr rfl) (.inr rfl) hg20) ?_
        obtain ⟨r3, hq7, h⟩ := andE h
        refine TO.callP (v := .string r3) (vs := [.string (cutB s2 q3.From q3.To)]) rfl dc rfl rfl rfl en_10 (fold_Fold_fn hq7) ?_
        refine TO.rangeStr Try.underlying9 rfl dc rfl (fun b8 => ?_)
        refine TO.nil (TX.next (TC.block ?_))
        refine TC.loopD (β := Nat × Nat) (fun b => loopG (fun _ => none) (law07_WordLetters_s4 j5 r3) b.1 b.2 = some r) (fun b => marksOf ds1) (fun b => [(0, .string s2), (3, .int .i64 next1), (5, .pointer (some ⟨b1, 0, none⟩)), (112, v1), (113, .int .i64 (l1.length : Int)), (114, .int .i64 x4), (125, .pointer (some ⟨b8, 0, none⟩))]) (fun b => [cells b1 [v1] 33, vec enc_Gapi_Span 26 2 v1 l1, obj b8 (.stringIter r3 (posAt r3 b.2)), star ((ds1 : List Nat).map mark)]) (fun b => b.1) (fuel, 0) h rfl (Sbs.cons rfl (Sbs.cons rfl (Sbs.cons rfl (Sbs.cons rfl (Sbs.cons rfl (Sbs.cons rfl (Sbs.cons rfl (Sbs.nil)))))))) (Splits.of [0, 1, 4, 2] kr rfl) ?_
        rintro ⟨n3, m6⟩ h
        cases n3 with
        | zero => exact noneE h
        | succ n3 =>
         obtain ⟨ag4, hag4⟩ : ∃ ag, ag = loopG (fun _ => none) (law07_WordLetters_s4 j5 r3) n3 := ⟨_, rfl⟩
         have h : law07_WordLetters_s4 j5 r3 ag4 m6 = some r := by rw [hag4]; exact h
         unfold law07_WordLetters_s4 at h
         show TC _ _ _ _ _ (marksOf ds1) _ _ [(0, .string s2), (3, .int .i64 next1), (5, .pointer (some ⟨b1, 0, none⟩)), (112, v1), (113, .int .i64 (l1.length : Int)), (114, .int .i64 x4), (125, .pointer (some ⟨b8, 0, none⟩))] [cells b1 [v1] 33, vec enc_Gapi_Span 26 2 v1 l1, obj b8 (.stringIter r3 (posAt r3 m6)), star ((ds1 : List Nat).map mark)]
         refine TC.seq (TC.region ?_)
         refine TO.bySplit (b := decide (m6 < (pcs r3.data.toList).length)) (fun hb79 => ?_) (fun hb79 => ?_)
         ·
          have h := condT hb79 h
          obtain ⟨p2, hq8, h⟩ := andE h
          refine TO.nextStr (k := 2) (m := m6) (p := p2) rfl dc rfl rfl hq8 (TO.extract rfl dc rfl rfl (TO.nil (TX.next (TC.seq (TC.condT rfl (TC.skip (TX.next (TC.block (TC.seq (TC.region (TO.extract rfl dc rfl rfl (TO.assign rfl dc rfl (TO.nil ?_)))))))))))))
          refine TX.next (TC.seq (TC.region (TO.move rfl dc rfl ?_)))
          obtain ⟨hg21, h⟩ := grdE h
          refine TO.callP (v := .int .i64 (kind (p2.r : Int))) (vs := [.int .i32 (p2.r : Int)]) rfl dc rfl rfl rfl en_16 (FnP.of_same fun w => kind_any (p2.r : Int) w hg21.1 hg21.2) ?_
          refine TO.bin rfl dc rfl rfl bin_eql (TO.move rfl dc rfl ?_)
          refine TO.split (s := 132) rfl (fun hb80 => ?_) (fun hb80 => ?_)
          ·
           have h := condT hb80 h
           refine TO.skip rfl dc (TO.skip rfl dc (TO.pick (b := true) rfl dc rfl rfl (TO.nil (TX.next (TC.condT rfl (TC.seq (TC.region (TO.assign rfl dc rfl (TO.nil (TX.next (TC.ret (TX.blockRet (TX.thenRet ?_)))))))))))))
           refine TX.blockRet (TX.blockRet (TX.thenRet (TX.thenRet (TX.blockRet (TX.thenRet ?_)))))
           cases h
           exact TX.finM (rs := [.tmp 2]) ds1 () (.inl rfl) (Splits.open0 (k := 3) rfl) Try.results5 (.cons (.tmp rfl) .nil) rfl Splits.nil
          ·
           have h := condF hb80 h
           refine TO.move rfl dc rfl ?_
           obtain ⟨hg22, h⟩ := grdE h
           refine TO.callP (v := .bool (great (p2.r : Int))) (vs := [.int .i32 (p2.r : Int)]) rfl dc rfl rfl rfl en_17 (FnP.of_same fun w => great_any (p2.r : Int) w hg22.1 hg22.2) ?_
           refine TO.pick (b := false) rfl dc rfl rfl (TO.nil (TX.next ?_))
           refine TC.condB rfl (fun hb81 => ?_) (fun hb81 => ?_)
           ·
            have h := condT hb81 h
            refine TC.seq (TC.region (TO.assign rfl dc rfl (TO.nil (TX.next (TC.ret (TX.blockRet (TX.thenRet (TX.blockRet (TX.blockRet (TX.thenRet (TX.thenRet (TX.blockRet (TX.thenRet ?_)))))))))))))
            cases h
            exact TX.finM (rs := [.tmp 2]) ds1 () (.inl rfl) (Splits.open0 (k := 3) rfl) Try.results5 (.cons (.tmp rfl) .nil) rfl Splits.nil
           ·
            have h := condF hb81 h
            refine TC.skip (TX.blockNormal ?_)
            subst hag4
            exact TX.againD (n3, m6 + 1) h (Nat.lt_succ_self _) rfl (Sbs.cons rfl (Sbs.cons rfl (Sbs.cons rfl (Sbs.cons rfl (Sbs.cons rfl (Sbs.cons rfl (Sbs.cons rfl (Sbs.nil)))))))) (Splits.of [0, 1, 2, 3] kr rfl)
         ·
          have h := condF hb79 h
          refine TO.nextEnd (k := 2) (m := m6) rfl dc rfl rfl (Nat.le_of_not_lt (of_decide_eq_false hb79)) (TO.extract rfl dc rfl rfl (TO.nil (TX.next (TC.seq (TC.condF rfl (TC.exit (TX.thenExit (TX.thenExit (TX.blockHere (TX.blockNormal ?_))))))))))
          exact TX.meetD () h rfl (Sbs.cons rfl (Sbs.cons rfl (Sbs.cons rfl (Sbs.cons rfl (Sbs.cons rfl (Sbs.cons rfl (Sbs.nil))))))) (Splits.of [0, 1, 3] kr rfl)
       ·
        rintro _ h
        rw [hj5] at h
        show TC _ _ _ _ _ (marksOf ds1) _ _ [(0, .string s2), (3, .int .i64 next1), (5, .pointer (some ⟨b1, 0, none⟩)), (112, v1), (113, .int .i64 (l1.length : Int)), (114, .int .i64 x4)] [cells b1 [v1] 33, vec enc_Gapi_Span 26 2 v1 l1, star ((ds1 : List Nat).map mark)]
        refine TC.region ?_
        obtain ⟨hg23, h⟩ := grdE h
        refine TO.bin rfl dc rfl rfl (bin_add (r := x4 + 1) (IntWalk.i64_in _ hg23)) (TO.move rfl dc rfl (TO.nil ?_))
        subst hag3
        exact TX.againD (n2, x4 + 1) h (Nat.lt_succ_self _) rfl (Sbs.cons rfl (Sbs.cons rfl (Sbs.cons rfl (Sbs.cons rfl (Sbs.cons rfl (Sbs.cons rfl (Sbs.nil))))))) (Splits.of [0, 1, 2] kr rfl)
      ·
       have h := condF hb78 h
       refine TC.exit (TX.thenExit (TX.thenExit (TX.blockHere ?_)))
       exact TX.meetD () h rfl (Sbs.cons rfl (Sbs.cons rfl (Sbs.nil))) (Splits.of [0, 1, 2] kr rfl)
    ·
     rintro _ h
     rw [hj4] at h
     show TC _ _ _ _ _ (marksOf ds1) _ _ [(3, .int .i64 next1), (5, .pointer (some ⟨b1, 0, none⟩))] [cells b1 [v1] 33, vec enc_Gapi_Span 26 2 v1 l1, star ((ds1 : List Nat).map mark)]
     refine TC.seq (TC.region (TO.move rfl dc rfl (TO.load (k := 0) sc_33 rfl dc rfl rfl rfl (TO.lenVec (k := 1) rfl dc rfl rfl Try.underlying33 (TO.bin rfl dc rfl rfl bin_eql (TO.move rfl dc rfl ?_))))))
     refine TO.split (s := 141) rfl (fun hb82 => ?_) (fun hb82 => ?_)
     ·
      have h := condT hb82 h
      obtain ⟨r4, hq9, h⟩ := andE h
      refine TO.callP (v := .bool r4) (vs := []) rfl dc rfl rfl rfl en_13 (law07_wakes_fn hq9) (TO.pick (b := true) rfl dc rfl rfl (TO.assign rfl dc rfl (TO.nil (TX.next (TC.ret ?_)))))
      cases h
      exact TX.finM (rs := [.tmp 2]) ds1 () (.inl rfl) (Splits.open0 (k := 2) rfl) Try.results5 (.cons (.tmp rfl) .nil) rfl Splits.nil
     ·
      have h := condF hb82 h
      refine TO.skip rfl dc (TO.pick (b := false) rfl dc rfl rfl (TO.assign rfl dc rfl (TO.nil (TX.next (TC.ret ?_)))))
      cases h
      exact TX.finM (rs := [.tmp 2]) ds1 () (.inl rfl) (Splits.open0 (k := 2) rfl) Try.results5 (.cons (.tmp rfl) .nil) rfl Splits.nil
end Go.Proofs.Ytlamcpgnmeileaa
namespace Go.Proofs.Ytlamcpgnmeileaa
open Go.RowKit Go.Lib
set_option linter.unusedVariables false
set_option linter.unusedSimpArgs false
/-! ### A word folded -/
def okSeq : Bool → List Tok → Prop
  | _, [] => True
  | p, t :: ts => (isM (tokI t) = true → p = true) ∧ okSeq (isL (tokI t) || (p && isM (tokI t))) ts
def plainT (t : Tok) : Prop := isL (tokI t) = false ∧ isM (tokI t) = false ∧ great (tokI t).Rune = false
def gtT (t : Tok) : Prop := okTok t ∧ (isL (tokI t) = true ∨ isM (tokI t) = true ∨ plainT t)
def gcC (c : Itm × List Itm) : Prop := isL c.1 = true ∨ ∃ t, c.1 = tokI t ∧ okTok t ∧ plainT t
theorem clw : ∀ (ts : List Tok) (d : Itm × List Itm), okSeq (isL d.1) ts → (∀ t ∈ ts, gtT t) → ∀ c ∈ clF (some d) (apL (ts.map tokI)), c.1 = d.1 ∨ gcC c
  | [], d, _, _, c, hc => by
    have : c = d := by simpa [apL, clF] using hc
    exact .inl (by rw [this])
  | t :: ts, d, hs, hg, c, hc => by
    have hg' := fun u hu => hg u (List.mem_cons_of_mem _ hu)
    obtain ⟨ho, hk⟩ := hg t (List.mem_cons_self ..)
    rw [List.map_cons, apL_cons] at hc
    cases hL : isL (tokI t) with
    | true =>
      obtain ⟨y, ms, h1, h3, h4, h5, h6, h7⟩ := apI_item (tokI t)
      have hM : isM y = false := by rw [h5]; exact mrk_letter (show letter (tokI t).Rune = true from hL)
      rw [h1] at hc
      have e : clF (some d) (y :: ms ++ apL (ts.map tokI)) = d :: clF (some (y, ms)) (apL (ts.map tokI)) := by
        show (if isL d.1 && isM y then _ else d :: clF (some (y, [])) (ms ++ apL (ts.map tokI))) = _
        rw [hM, Bool.and_false, clF_own y ms _ h3 h4]; rfl
      rw [e] at hc
      rcases List.mem_cons.1 hc with rfl | hc
      · exact .inl rfl
      · have hs2 := hs.2
        rw [hL, Bool.true_or] at hs2
        rcases clw ts (y, ms) (by rw [show isL (y, ms).1 = true from h7.trans hL]; exact hs2) hg' c hc with h | h
        · exact .inr (.inl (by rw [h]; exact h7.trans hL))
        · exact .inr h
    | false =>
      have e0 : apI (tokI t) = [tokI t] := by unfold apI; rw [hL]; rfl
      rw [e0] at hc
      have hc' : c ∈ (if isL d.1 && isM (tokI t) then clF (some (d.1, d.2 ++ [tokI t])) (apL (ts.map tokI)) else d :: clF (some (tokI t, [])) (apL (ts.map tokI))) := hc
      have hs2 := hs.2
      rw [hL, Bool.false_or] at hs2
      cases hk2 : (isL d.1 && isM (tokI t)) with
      | true =>
        rw [hk2] at hc' hs2
        have hk3 := hk2
        rw [Bool.and_eq_true] at hk3
        rcases clw ts (d.1, d.2 ++ [tokI t]) (by rw [show isL (d.1, d.2 ++ [tokI t]).1 = true from hk3.1]; exact hs2) hg' c hc' with h | h
        · exact .inl h
        · exact .inr h
      | false =>
        rw [hk2] at hc' hs2
        have hM : isM (tokI t) = false := by
          cases hm : isM (tokI t) with
          | false => rfl
          | true => rw [hm, hs.1 hm] at hk2; cases hk2
        have hpl : plainT t := by
          rcases hk with h | h | h
          · rw [hL] at h; cases h
          · rw [hM] at h; cases h
          · exact h
        rcases List.mem_cons.1 hc' with rfl | hc'
        · exact .inl rfl
        · rcases clw ts (tokI t, []) (by rw [show isL (tokI t, ([] : List Itm)).1 = false from hL]; exact hs2) hg' c hc' with h | h
          · exact .inr (.inr ⟨t, h, ho, hpl⟩)
          · exact .inr h
theorem clw0 (ts : List Tok) (hs : okSeq false ts) (hg : ∀ t ∈ ts, gtT t) : ∀ c ∈ clT ts, gcC c := by
  cases ts with
  | nil => intro c hc; cases hc
  | cons t ts =>
    intro c hc
    have hg' := fun u hu => hg u (List.mem_cons_of_mem _ hu)
    obtain ⟨ho, hk⟩ := hg t (List.mem_cons_self ..)
    unfold clT at hc
    rw [List.map_cons, apL_cons] at hc
    obtain ⟨y, ms, h1, h3, h4, h5, h6, h7⟩ := apI_item (tokI t)
    rw [h1] at hc
    have e : cl (y :: ms ++ apL (ts.map tokI)) = clF (some (y, ms)) (apL (ts.map tokI)) := by
      show clF (some (y, [])) (ms ++ apL (ts.map tokI)) = _
      exact clF_own y ms _ h3 h4
    rw [e] at hc
    have hs2 := hs.2
    rw [Bool.false_and, Bool.or_false, ← h7] at hs2
    rcases clw ts (y, ms) hs2 hg' c hc with h | h
    · cases hL : isL (tokI t) with
      | true => exact .inl (by rw [h]; exact h7.trans hL)
      | false =>
        have e0 : apI (tokI t) = [tokI t] := by unfold apI; rw [hL]; rfl
        rw [e0] at h1
        obtain ⟨rfl, _⟩ := List.cons.inj h1
        have hM : isM (tokI t) = false := by
          cases hm : isM (tokI t) with
          | false => rfl
          | true => have := hs.1 hm; cases this
        refine .inr ⟨t, h, ho, ?_⟩
        rcases hk with q | q | q
        · rw [hL] at q; cases q
        · rw [hM] at q; cases q
        · exact q
    · exact h
/-! ### A word's pieces -/
theorem tkd_1 {t : Tok} (h : tkd t = 1) : t.broken = false ∧ letter (t.r : Int) = true := by
  unfold tkd kindOf at h
  cases hb : t.broken with
  | true => rw [hb] at h; simp at h
  | false =>
    rw [hb] at h
    refine ⟨rfl, ?_⟩
    rw [← kind1]; simpa using h
theorem tkd_2 {t : Tok} (h : isMk t = true) : t.broken = false ∧ mrk (t.r : Int) = true := by
  unfold isMk tkd kindOf at h
  cases hb : t.broken with
  | true => rw [hb] at h; simp at h
  | false =>
    rw [hb] at h
    refine ⟨rfl, ?_⟩
    rw [← kind2]; simpa using h
theorem tokI_rune {t : Tok} (h : t.broken = false) : (tokI t).Rune = (t.r : Int) := by unfold tokI; rw [h]; rfl
theorem jw_facts {r : Nat} (h : JW.contains r = true) : mrk (r : Int) = false ∧ great (r : Int) = false ∧ letter (r : Int) = false ∧ (r = 39 ∨ r = 8217 ∨ r = 45 ∨ r = 8208) := by
  have : r = 39 ∨ r = 8217 ∨ r = 45 ∨ r = 8208 := by
    have h' : r ∈ JW := by simpa using h
    simpa [JW] using h'
  rcases this with rfl | rfl | rfl | rfl <;> decide
/-- What a word's token is, and what stands behind it. -/
def Bq : List Tok → Prop
  | [] => True
  | t :: ts => ((kind (t.r : Int) = 1 ∨ kind (t.r : Int) = 2) ∨ ((t.r = 39 ∨ t.r = 8217 ∨ t.r = 45 ∨ t.r = 8208) ∧ (Utf8.encode (t.r : Int)).size = t.bs.length ∧ ts ≠ [])) ∧ Bq ts
theorem kindL {r : Int} (h : letter r = true) : kind r = 1 := by have := kind1 r; rw [h] at this; simpa using this
theorem kindM {r : Int} (h : mrk r = true) : kind r = 2 := by have := kind2 r; rw [h] at this; simpa using this
theorem Bq_lm : ∀ (m r : List Tok), (∀ t ∈ m, kind (t.r : Int) = 1 ∨ kind (t.r : Int) = 2) → Bq r → Bq (m ++ r)
  | [], _, _, h => h
  | t :: m, r, hm, h => ⟨.inl (hm t (List.mem_cons_self ..)), Bq_lm m r (fun u hu => hm u (List.mem_cons_of_mem _ hu)) h⟩
theorem okSeq_marks : ∀ (m r : List Tok), (∀ t ∈ m, isMk t = true) → okSeq true r → okSeq true (m ++ r)
  | [], _, _, h => h
  | t :: m, r, hm, h => by
    obtain ⟨h1, h2⟩ := tkd_2 (hm t (List.mem_cons_self ..))
    have hM : isM (tokI t) = true := by unfold isM; rw [tokI_rune h1]; exact h2
    refine ⟨fun _ => rfl, ?_⟩
    rw [hM, Bool.true_and, Bool.or_true]
    exact okSeq_marks m r (fun u hu => hm u (List.mem_cons_of_mem _ hu)) h
theorem okSeq_weak {r : List Tok} (h : okSeq false r) (p : Bool) : okSeq p r := by
  cases r with
  | nil => trivial
  | cons t r =>
    have hM : isM (tokI t) = false := by
      cases hm : isM (tokI t) with
      | false => rfl
      | true => have := h.1 hm; cases this
    refine ⟨fun e => (by rw [hM] at e; cases e), ?_⟩
    have := h.2
    rw [hM, Bool.and_false] at this ⊢
    exact this
/-- A letter's unit, laid ahead. -/
theorem lay_unit (g : GU) (hg : GOk g) (hk : g.k = 1) (r : List Tok) (h1 : Bq r) (h2 : okSeq true r) : Bq (g.c ++ r) ∧ okSeq false (g.c ++ r) := by
  obtain ⟨t, m, hc, hkt, _, hm, _⟩ := hg
  have ht := tkd_1 (hkt ▸ hk)
  have hL : isL (tokI t) = true := by unfold isL; rw [tokI_rune ht.1]; exact ht.2
  have hM : isM (tokI t) = false := mrk_letter (show letter (tokI t).Rune = true from hL)
  rw [hc, List.cons_append]
  refine ⟨⟨.inl (.inl (kindL ht.2)), Bq_lm m r (fun u hu => .inr (kindM (tkd_2 (hm u hu)).2)) h1⟩, fun e => (by rw [hM] at e; cases e), ?_⟩
  rw [hL, Bool.true_or]
  exact okSeq_marks m r hm h2
theorem lay_letters : ∀ (l : List GU), (∀ g ∈ l, GOk g) → (∀ g ∈ l, g.k = 1) → l ≠ [] → ∀ r : List Tok, Bq r → okSeq true r → Bq (l.flatMap GU.c ++ r) ∧ okSeq false (l.flatMap GU.c ++ r)
  | [], _, _, h, _, _, _ => absurd rfl h
  | [g], hg, hk, _, r, h1, h2 => by
    have := lay_unit g (hg g (by simp)) (hk g (by simp)) r h1 h2
    simpa using this
  | g :: g' :: l, hg, hk, _, r, h1, h2 => by
    obtain ⟨i1, i2⟩ := lay_letters (g' :: l) (fun x hx => hg x (List.mem_cons_of_mem _ hx)) (fun x hx => hk x (List.mem_cons_of_mem _ hx)) (by simp) r h1 h2
    rw [List.flatMap_cons, List.append_assoc]
    exact lay_unit g (hg g (by simp)) (hk g (by simp)) _ i1 (okSeq_weak i2 true)
theorem joint_c {j : GU} (hg : GOk j) (hj : oneOf JW (sh j) = true) : ∃ t, j.c = [t] ∧ t.broken = false ∧ JW.contains t.r = true := by
  obtain ⟨t, m, hc, hkt, hr, hm, _⟩ := hg
  unfold oneOf sh at hj
  simp only [Bool.and_eq_true, beq_iff_eq, bne_iff_ne] at hj
  obtain ⟨⟨h1, h2⟩, h3⟩ := hj
  rw [hc] at h1
  have hm0 : m = [] := by
    cases m with
    | nil => rfl
    | cons x m => simp at h1
  subst hm0
  refine ⟨t, hc, ?_, by rw [← hr]; exact h3⟩
  cases hb : t.broken with
  | false => rfl
  | true => rw [hkt] at h2; unfold tkd kindOf at h2; rw [hb] at h2; simp at h2
theorem c_ne {l : List GU} (h : WG l) (hg : ∀ g ∈ l, GOk g) : l.flatMap GU.c ≠ [] := by
  obtain ⟨g, gs, rfl, _⟩ := h.head
  obtain ⟨t, m, hc, _⟩ := hg g (by simp)
  rw [List.flatMap_cons, hc]; simp
theorem word_toks {l : List GU} (h : WG l) : (∀ g ∈ l, GOk g) → (∀ t ∈ l.flatMap GU.c, okTok t) → Bq (l.flatMap GU.c) ∧ okSeq false (l.flatMap GU.c) := by
  induction h with
  | one l h hl =>
    intro hg ho
    have := lay_letters l hg hl h [] trivial trivial
    simpa using this
  | more l j r h hl hj hj2 hr ih =>
    intro hg ho
    obtain ⟨i1, i2⟩ := ih (fun g hm => hg g (by simp [hm])) (fun t ht => ho t (by rw [List.flatMap_append, List.mem_append, List.flatMap_cons, List.mem_append]; exact .inr (.inr ht)))
    obtain ⟨t, hc, hb, hjw⟩ := joint_c (hg j (by simp)) hj2
    obtain ⟨f1, f2, f3, f4⟩ := jw_facts hjw
    have hot : okTok t := ho t (by rw [List.flatMap_append, List.mem_append, List.flatMap_cons, List.mem_append, hc]; exact .inr (.inl (by simp)))
    have hv : t.valid := by
      rcases hot with h | h
      · exact h
      · rw [hb] at h; cases h
    have hM : isM (tokI t) = false := by unfold isM; rw [tokI_rune hb]; exact f1
    have hL : isL (tokI t) = false := by unfold isL; rw [tokI_rune hb]; exact f3
    have hsz : (Utf8.encode (t.r : Int)).size = t.bs.length := by rw [encode_size, hv.2]
    have e : (l ++ j :: r).flatMap GU.c = l.flatMap GU.c ++ ([t] ++ r.flatMap GU.c) := by rw [List.flatMap_append, List.flatMap_cons, hc]
    rw [e]
    have hne : r.flatMap GU.c ≠ [] := c_ne hr (fun g hm => hg g (by simp [hm]))
    have hq : okSeq true ([t] ++ r.flatMap GU.c) := by
      refine ⟨fun _ => rfl, ?_⟩
      rw [hL, hM, Bool.and_false]; exact i2
    exact lay_letters l (fun g hm => hg g (by simp [hm])) hl h _ ⟨.inr ⟨f4, hsz, hne⟩, i1⟩ hq
theorem word_gt {l : List GU} (h : WG l) : (∀ g ∈ l, GOk g) → (∀ t ∈ l.flatMap GU.c, okTok t) → ∀ t ∈ l.flatMap GU.c, gtT t := by
  have letters : ∀ g : GU, GOk g → g.k = 1 → (∀ t ∈ g.c, okTok t) → ∀ t ∈ g.c, gtT t := fun g hg hk ho t ht => by
    refine ⟨ho t ht, ?_⟩
    obtain ⟨u, m, hc, hkt, _, hm, _⟩ := hg
    rw [hc] at ht
    rcases List.mem_cons.1 ht with rfl | ht
    · have := tkd_1 (hkt ▸ hk)
      exact .inl (by unfold isL; rw [tokI_rune this.1]; exact this.2)
    · have := tkd_2 (hm t ht)
      exact .inr (.inl (by unfold isM; rw [tokI_rune this.1]; exact this.2))
  induction h with
  | one l h hl =>
    intro hg ho t ht
    obtain ⟨g, hgm, hgt⟩ := List.mem_flatMap.1 ht
    exact letters g (hg g hgm) (hl g hgm) (fun u hu => ho u (List.mem_flatMap.2 ⟨g, hgm, hu⟩)) t hgt
  | more l j r h hl hj hj2 hr ih =>
    intro hg ho t ht
    obtain ⟨g, hgm, hgt⟩ := List.mem_flatMap.1 ht
    rcases List.mem_append.1 hgm with hgm | hgm
    · exact letters g (hg g (by simp [hgm])) (hl g hgm) (fun u hu => ho u (List.mem_flatMap.2 ⟨g, by simp [hgm], hu⟩)) t hgt
    · rcases List.mem_cons.1 hgm with rfl | hgm
      · refine ⟨ho t ht, .inr (.inr ?_)⟩
        obtain ⟨u, hc, hb, hjw⟩ := joint_c (hg g (by simp)) hj2
        obtain ⟨f1, f2, f3, f4⟩ := jw_facts hjw
        rw [hc] at hgt
        rw [List.mem_singleton.1 hgt]
        exact ⟨by unfold isL; rw [tokI_rune hb]; exact f3, by unfold isM; rw [tokI_rune hb]; exact f1, by rw [tokI_rune hb]; exact f2⟩
      · exact ih (fun g hm => hg g (by simp [hm])) (fun u hu => ho u (by rw [List.flatMap_append, List.mem_append, List.flatMap_cons, List.mem_append]; exact .inr (.inr hu))) t (List.mem_flatMap.2 ⟨g, hgm, hgt⟩)
/-! ### Tokens that are no words -/
theorem run_nok (k : Int) (js : List Nat) (hk : k ≠ 1) : ∀ (us : List Un), (∀ u ∈ us, oneOf js u = true → u.k ≠ 1) → ∀ u ∈ us.take (runN k js us), u.k ≠ 1
  | [], _, u, hu => by simp at hu
  | v :: us, hj, u, hu => by
    have ih := run_nok k js hk us (fun x hx => hj x (List.mem_cons_of_mem _ hx))
    unfold runN at hu
    split at hu
    · rename_i h
      rw [Nat.add_comm, List.take_succ_cons] at hu
      rcases List.mem_cons.1 hu with rfl | hu
      · omega
      · exact ih u hu
    · split at hu
      · rename_i h
        rw [Nat.add_comm, List.take_succ_cons] at hu
        rcases List.mem_cons.1 hu with rfl | hu
        · exact hj _ (List.mem_cons_self ..) h.1
        · exact ih u hu
      · simp at hu
theorem nok_kind {g : GU} (hg : GOk g) (hk : g.k ≠ 1) : ∀ t ∈ g.c, kind (t.r : Int) ≠ 1 := by
  obtain ⟨t, m, hc, hkt, _, hm, _⟩ := hg
  intro u hu
  rw [hc] at hu
  rcases List.mem_cons.1 hu with rfl | hu
  · rw [hkt] at hk
    unfold tkd kindOf at hk
    cases hb : u.broken with
    | true =>
      have : u.r = 65533 := by unfold Tok.broken at hb; rw [Bool.and_eq_true, beq_iff_eq] at hb; exact hb.1
      rw [this]; decide
    | false => rw [hb] at hk; simpa using hk
  · rw [kindM (tkd_2 (hm u hu)).2]; decide
theorem oneD {g : GU} (hg : GOk g) (h : oneOf JD (sh g) = true) : (sh g).k ≠ 1 := by
  intro hk
  obtain ⟨t, m, hc, hkt, hr, hm, _⟩ := hg
  have ht := tkd_1 (hkt ▸ (show g.k = 1 from hk))
  unfold oneOf sh at h
  simp only [Bool.and_eq_true] at h
  have : g.r ∈ JD := by simpa using h.2
  rw [hr] at this
  have : t.r = 44 ∨ t.r = 46 := by simpa [JD] using this
  rcases this with e | e <;> · rw [e] at ht; exact absurd ht.2 (by decide)
theorem behind_nok (g : GU) (gs : List GU) (hg : g.k ≠ 1) (hok : ∀ x ∈ gs, GOk x) : ∀ x ∈ gs.take (gbh g gs), x.k ≠ 1 := by
  intro x hx
  have hm : ∀ n : Nat, x ∈ gs.take n → sh x ∈ (gs.map sh).take n := fun n h => by rw [← List.map_take]; exact List.mem_map.2 ⟨x, h, rfl⟩
  have hx' := hm _ hx
  show (sh x).k ≠ 1
  have hnil : ∀ u ∈ gs.map sh, oneOf [] u = true → u.k ≠ 1 := fun u _ h => by unfold oneOf at h; simp at h
  unfold gbh behind at hx'
  rw [if_neg (show ¬ (sh g).k = 1 from hg)] at hx'
  split at hx'
  · exact run_nok 3 JD (by decide) _ (fun u hu h => by obtain ⟨y, hy, rfl⟩ := List.mem_map.1 hu; exact oneD (hok y hy) h) _ hx'
  split at hx'
  · exact run_nok 5 [] (by decide) _ hnil _ hx'
  split at hx'
  · exact run_nok 11 [] (by decide) _ hnil _ hx'
  split at hx'
  · cases hgs : gs with
    | nil => rw [hgs] at hx'; simp at hx'
    | cons v vs =>
      rw [hgs] at hx'
      simp only [List.map_cons] at hx'
      split at hx'
      · rename_i h
        simp only [List.take_succ_cons, List.take_zero, List.mem_singleton] at hx'
        rw [hx', h.2.1]; decide
      · simp at hx'
  · simp at hx'
theorem gtok_nok : ∀ (n : Nat) (gs : List GU), gs.length ≤ n → (∀ g ∈ gs, GOk g) → ∀ x ∈ gtok gs, x.1 ≠ 1 → ∀ g ∈ x.2, g.k ≠ 1
  | _, [], _, _, x, h, _ => by rw [gtok_nil] at h; cases h
  | 0, g :: gs, h, _, _, _, _ => by simp at h
  | n + 1, g :: gs, hl, hok, x, h, h1 => by
    rw [gtok_cons] at h
    have hok' : ∀ y ∈ gs, GOk y := fun y hy => hok y (List.mem_cons_of_mem _ hy)
    rcases List.mem_cons.1 h with rfl | h
    · have hg : g.k ≠ 1 := fun e => h1 ((begins_1 _).2 e)
      intro y hy
      rcases List.mem_cons.1 hy with rfl | hy
      · exact hg
      · exact behind_nok g gs hg hok' y hy
    · exact gtok_nok n _ (by simp at hl ⊢; omega) (fun y hy => hok' y (List.mem_of_mem_drop hy)) x h h1
/-! ### The walk over the pieces -/
theorem drop_one {α : Type} {l r : List α} {m : Nat} {x : α} (h : l.drop m = x :: r) : l[m]? = some x ∧ l.drop (m + 1) = r := by
  have hm : m < l.length := by
    by_cases hh : m < l.length
    · exact hh
    · rw [List.drop_eq_nil_of_le (by omega)] at h; cases h
  rw [List.drop_eq_getElem_cons hm] at h
  obtain ⟨h1, h2⟩ := List.cons.inj h
  exact ⟨by rw [List.getElem?_eq_getElem hm, h1], h2⟩
def Fine (p : Pc) (stop : Int) : Prop := (kind (p.r : Int) = 1 → (p.i : Int) < stop) ∧ ((p.i : Int) < stop → kind (p.r : Int) ≠ 1 → kind (p.r : Int) ≠ 2 → (p.r = 39 ∨ p.r = 8217 ∨ p.r = 45 ∨ p.r = 8208) ∧ (p.i : Int) + ((Utf8.encode (p.r : Int)).size : Int) ≠ stop)
theorem joinC {R T : Type} {t : T → Option R} {k : T} {x : Option R} (Q : T → Prop) (hk : Q k) (h : ∀ j, Q j → t j = x) : joinK t k = x := h k hk
theorem neB {a b : Int} (h : a ≠ b) : (a != b) = true := bne_iff_ne.2 h
theorem eqB {a b : Int} (h : a = b) : (a != b) = false := by rw [h]; exact bne_self_eq_false _
theorem step_all (s : ByteArray) (W : List Gapi_Span) (J : Int → Option Bool) (ag : Int → Int → Nat → Option Bool) (n m : Nat) (stop : Int) (p : Pc) (X : Option Bool) (hp : (pcs s.data.toList)[m]? = some p)
    (hr : I32 (p.r : Int)) (hi : p.i ≤ 1000000) (h : ∀ j : Int → Int → Option Bool, (∀ nx st, Fine p st → j nx st = ag nx st (m + 1)) → (bcond (decide ((n : Int) < (W.length : Int))) (andThen (getO W (n : Int)) fun (q1 : Gapi_Span) => bcond (((p.i : Int) : Int) == q1.From) (andThen (getO W (n : Int)) fun (q2 : Gapi_Span) => grd (I64 ((n : Int) + 1)) <| grd (I32 (p.r : Int)) <| bcond (((kind (p.r : Int)) : Int) != 1) (some false) (j ((n : Int) + 1) q2.To)) (j (n : Int) stop)) (j (n : Int) stop)) = X) :
    law07_WordLetters_s2 s W J ag (n : Int) stop m = X := by
  unfold law07_WordLetters_s2
  have hm := lp_lt' hp
  have hez : (Utf8.encode (p.r : Int)).size ≤ 4 := enc_size4 _
  have hI : I64 ((p.i : Int) + ((Utf8.encode (p.r : Int)).size : Int)) := ⟨by omega, by omega⟩
  refine condTI (decide_eq_true hm) (thenI hp (joinC (fun j => ∀ nx st, Fine p st → j nx st = ag nx st (m + 1)) ?_ h))
  intro nx st hf
  obtain ⟨hA, hB⟩ := hf
  refine grdI hr ?_
  by_cases h1 : kind (p.r : Int) = 1
  · have hin := hA h1
    refine condTI (beq_iff_eq.2 h1) (condFI (by rw [decide_eq_true hin]; rfl) (condTI (decide_eq_true hin) (condFI (eqB h1) (condTI (decide_eq_true hin) (grdI hI ?_)))))
    by_cases he : (p.i : Int) + ((Utf8.encode (p.r : Int)).size : Int) = st
    · exact condTI (beq_iff_eq.2 he) (condFI (eqB h1) rfl)
    · exact condFI (beq_eq_false_iff_ne.2 he) rfl
  · refine condFI (beq_eq_false_iff_ne.2 h1) ?_
    by_cases hin : (p.i : Int) < st
    · refine condTI (decide_eq_true hin) (condTI (neB h1) ?_)
      by_cases h2 : kind (p.r : Int) = 2
      · refine condFI (eqB h2) (condTI (decide_eq_true hin) (grdI hI ?_))
        by_cases he : (p.i : Int) + ((Utf8.encode (p.r : Int)).size : Int) = st
        · exact condTI (beq_iff_eq.2 he) (condTI (neB h1) (condFI (eqB h2) rfl))
        · exact condFI (beq_eq_false_iff_ne.2 he) rfl
      · obtain ⟨hr4, he⟩ := hB hin h1 h2
        refine condTI (neB h2) ?_
        have t := condFI (x := (bcond (((kind (p.r : Int)) : Int) != 1) (bcond (((kind (p.r : Int)) : Int) != 2) (some false) (ag nx st (m + 1))) (ag nx st (m + 1)))) (beq_eq_false_iff_ne.2 he) (rfl : ag nx st (m + 1) = ag nx st (m + 1))
        by_cases r1 : (p.r : Int) = 39
        · exact condFI (eqB r1) (condTI (decide_eq_true hin) (grdI hI t))
        refine condTI (neB r1) ?_
        by_cases r2 : (p.r : Int) = 8217
        · exact condFI (eqB r2) (condTI (decide_eq_true hin) (grdI hI t))
        refine condTI (neB r2) ?_
        by_cases r3 : (p.r : Int) = 45
        · exact condFI (eqB r3) (condTI (decide_eq_true hin) (grdI hI t))
        refine condTI (neB r3) ?_
        by_cases r4 : (p.r : Int) = 8208
        · exact condFI (eqB r4) (condTI (decide_eq_true hin) (grdI hI t))
        · exfalso; omega
    · exact condFI (decide_eq_false hin) (condFI (decide_eq_false hin) rfl)
theorem step_same (s : ByteArray) (W : List Gapi_Span) (J : Int → Option Bool) (ag : Int → Int → Nat → Option Bool) (n m : Nat) (stop : Int) (p : Pc) (hp : (pcs s.data.toList)[m]? = some p) (hne : ∀ q, W[n]? = some q → (p.i : Int) ≠ q.From)
    (hr : I32 (p.r : Int)) (hi : p.i ≤ 1000000) (hf : Fine p stop) : law07_WordLetters_s2 s W J ag (n : Int) stop m = ag (n : Int) stop (m + 1) := by
  refine step_all s W J ag n m stop p _ hp hr hi fun j hj => ?_
  by_cases h : n < W.length
  · have hx : W[n]? = some W[n] := List.getElem?_eq_getElem h
    exact condTI (decide_eq_true (by omega)) (thenI (lp_get hx) (condFI (beq_eq_false_iff_ne.2 (hne _ hx)) (hj _ _ hf)))
  · exact condFI (decide_eq_false (by omega)) (hj _ _ hf)
theorem step_first (s : ByteArray) (W : List Gapi_Span) (J : Int → Option Bool) (ag : Int → Int → Nat → Option Bool) (n m : Nat) (stop : Int) (p : Pc) (q : Gapi_Span) (hp : (pcs s.data.toList)[m]? = some p) (hq : W[n]? = some q) (hn : n ≤ 1000000) (hf0 : q.From = (p.i : Int))
    (hr : I32 (p.r : Int)) (hi : p.i ≤ 1000000) (hk : kind (p.r : Int) = 1) (hin : (p.i : Int) < q.To) : law07_WordLetters_s2 s W J ag (n : Int) stop m = ag ((n : Int) + 1) q.To (m + 1) := by
  refine step_all s W J ag n m stop p _ hp hr hi fun j hj => ?_
  refine condTI (lp_lt hq) (thenI (lp_get hq) (condTI (beq_iff_eq.2 hf0.symm) (thenI (lp_get hq) (grdI ⟨by omega, by omega⟩ (grdI hr (condFI (eqB hk) (hj _ _ ⟨fun _ => hin, fun _ h => absurd hk h⟩)))))))
theorem okTok_rng {t : Tok} (h : okTok t) : I32 (t.r : Int) := by
  rcases h with h | h
  · have := h.1; exact ⟨by omega, by omega⟩
  · unfold Tok.broken at h; rw [Bool.and_eq_true, beq_iff_eq] at h; exact ⟨by omega, by omega⟩
theorem bs_pos {t : Tok} (h : okTok t) : 0 < t.bs.length := List.length_pos_iff.2 (bs_ne h)
/-- Pieces of one token, behind its first one where it is a word. -/
theorem run_same (s : ByteArray) (W : List Gapi_Span) (J : Int → Option Bool) (n : Nat) (stop : Int) (N : Nat) (e : Nat) (he : e ≤ 1000000) (hne : ∀ q, W[n]? = some q → (e : Int) ≤ q.From) :
    ∀ (ts : List Tok) (R : List Pc) (i m : Nat), (pcs s.data.toList).drop m = place i ts ++ R → i + (flat ts).length ≤ e → (∀ t ∈ ts, okTok t) → ((stop = (i : Int) + (flat ts).length ∧ Bq ts) ∨ (stop ≤ i ∧ ∀ t ∈ ts, kind (t.r : Int) ≠ 1)) →
      loopG (fun _ _ _ => none) (law07_WordLetters_s2 s W J) (ts.length + N) (n : Int) stop m = loopG (fun _ _ _ => none) (law07_WordLetters_s2 s W J) N (n : Int) stop (m + ts.length)
  | [], R, i, m, _, _, _, _ => by rw [List.length_nil, Nat.zero_add, Nat.add_zero]
  | t :: ts, R, i, m, hd, hl, ho, hs => by
    have ht := ho t (List.mem_cons_self ..)
    have hb := bs_pos ht
    obtain ⟨g1, g2⟩ := drop_one (show (pcs s.data.toList).drop m = ⟨i, t.bs.length, t.r⟩ :: (place (i + t.bs.length) ts ++ R) from hd)
    rw [flat_cons, List.length_append] at hl
    rw [show (t :: ts).length + N = (ts.length + N) + 1 by rw [List.length_cons]; omega, loopI]
    rw [step_same s W J _ n m stop ⟨i, t.bs.length, t.r⟩ g1 (fun q hq => by have := hne q hq; simp only; omega) (okTok_rng ht) (by simp only; omega) ?_]
    · have := run_same s W J n stop N e he hne ts R (i + t.bs.length) (m + 1) g2 (by omega) (fun u hu => ho u (List.mem_cons_of_mem _ hu)) (by
        rcases hs with ⟨h1, h2⟩ | ⟨h1, h2⟩
        · rw [flat_cons, List.length_append] at h1; exact .inl ⟨by omega, h2.2⟩
        · exact .inr ⟨by omega, fun u hu => h2 u (List.mem_cons_of_mem _ hu)⟩)
      rw [this, List.length_cons, show m + 1 + ts.length = m + (ts.length + 1) by omega]
    · rcases hs with ⟨h1, h2⟩ | ⟨h1, h2⟩
      · rw [flat_cons, List.length_append] at h1
        refine ⟨fun _ => by simp only; omega, fun hin k1 k2 => ?_⟩
        rcases h2.1 with h | ⟨h, h', h''⟩
        · rcases h with h | h
          · exact absurd h k1
          · exact absurd h k2
        · refine ⟨h, ?_⟩
          obtain ⟨u, us, rfl⟩ := List.exists_cons_of_ne_nil h''
          have hu := bs_pos (ho u (by simp))
          rw [flat_cons, List.length_append] at h1
          simp only
          rw [h']; omega
      · exact ⟨fun h => absurd h (h2 t (List.mem_cons_self ..)), fun h => by simp only at h; omega⟩
theorem wds_ge : ∀ (A : List GT) (j : Nat), ∀ w ∈ wds (posT j A), j ≤ w.1
  | [], j, w, hw => by simp [posT, wds] at hw
  | x :: A, j, w, hw => by
    have ih := wds_ge A (j + tl x)
    by_cases hk : x.1 = 1
    · have e1 : wds (posT j (x :: A)) = (j, j + tl x) :: wds (posT (j + tl x) A) := by
        show wds (⟨x.1, j, j + tl x⟩ :: posT (j + tl x) A) = _
        simp [wds, hk]
      rw [e1] at hw
      rcases List.mem_cons.1 hw with rfl | hw
      · exact Nat.le_refl _
      · have := ih w hw; omega
    · have e1 : wds (posT j (x :: A)) = wds (posT (j + tl x) A) := by
        show wds (⟨x.1, j, j + tl x⟩ :: posT (j + tl x) A) = _
        simp [wds, hk]
      rw [e1] at hw
      have := ih w hw; omega
/-- All tokens. -/
theorem run_all (s : ByteArray) (W : List Gapi_Span) (J : Int → Option Bool) (hs : s.size ≤ 100000) :
    ∀ (A : List GT) (i m n : Nat) (stop : Int) (N : Nat), (pcs s.data.toList).drop m = place i (cont A) → i + tot A ≤ 100000 → (∀ x ∈ A, (∀ g ∈ x.2, GOk g) ∧ (x.1 = 1 → WG x.2) ∧ (x.1 ≠ 1 → ∀ g ∈ x.2, g.k ≠ 1)) → (∀ t ∈ cont A, okTok t) →
      W.drop n = (wds (posT i A)).map spG → n ≤ i → stop ≤ i → 0 < N → n ≤ W.length →
      loopG (fun _ _ _ => none) (law07_WordLetters_s2 s W J) ((cont A).length + N) (n : Int) stop m = J (W.length : Int)
  | [], i, m, n, stop, N, hd, _, _, _, hW, _, _, hN, hnl => by
    obtain ⟨N, rfl⟩ : ∃ q, N = q + 1 := ⟨N - 1, by omega⟩
    have hlen : (pcs s.data.toList).length ≤ m := by
      have : (pcs s.data.toList).drop m = [] := hd
      have := List.drop_eq_nil_iff.1 this; exact this
    rw [show (cont ([] : List GT)).length + (N + 1) = N + 1 by show 0 + _ = _; omega, loopI]
    generalize loopG (fun _ _ _ => none) (law07_WordLetters_s2 s W J) N = ag
    unfold law07_WordLetters_s2
    have : W.drop n = [] := hW
    have := List.drop_eq_nil_iff.1 this
    refine condFI (decide_eq_false (by omega)) ?_
    rw [show n = W.length by omega]
  | x :: A, i, m, n, stop, N, hd, hl, hA, ho, hW, hni, hst, hN, hnl => by
    obtain ⟨h1, h2, h3⟩ := hA x (List.mem_cons_self ..)
    have hA' := fun y hy => hA y (List.mem_cons_of_mem _ hy)
    have ec : cont (x :: A) = cont [x] ++ cont A := cont_cons x A
    have eo : cont [x] = x.2.flatMap GU.c := cont_one x
    have etl : (flat (cont [x])).length = tl x := by rw [eo, gu_len]; rfl
    have et : tot (x :: A) = tl x + tot A := rfl
    have ho1 : ∀ t ∈ cont [x], okTok t := fun t ht => ho t (by rw [ec]; exact List.mem_append_left _ ht)
    have ho2 : ∀ t ∈ cont A, okTok t := fun t ht => ho t (by rw [ec]; exact List.mem_append_right _ ht)
    rw [ec, place_append, etl] at hd
    rw [ec, List.length_append, Nat.add_assoc]
    rw [et] at hl
    have hge : ∀ (k : Nat), W.drop k = (wds (posT (i + tl x) A)).map spG → ∀ q, W[k]? = some q → ((i + tl x : Nat) : Int) ≤ q.From := by
      intro k hk q hq
      have : q ∈ W.drop k := List.mem_of_getElem? (i := 0) (by rw [List.getElem?_drop, Nat.add_zero]; exact hq)
      rw [hk] at this
      obtain ⟨w, hw, rfl⟩ := List.mem_map.1 this
      have := wds_ge A (i + tl x) w hw
      show ((i + tl x : Nat) : Int) ≤ (w.1 : Int)
      omega
    by_cases hk : x.1 = 1
    · have hw := h2 hk
      have e1 : wds (posT i (x :: A)) = (i, i + tl x) :: wds (posT (i + tl x) A) := by
        show wds (⟨x.1, i, i + tl x⟩ :: posT (i + tl x) A) = _
        simp [wds, hk]
      rw [e1, List.map_cons] at hW
      obtain ⟨w1, w2⟩ := drop_one hW
      obtain ⟨hB, _⟩ := word_toks hw h1 (by rw [← eo]; exact ho1)
      rw [← eo] at hB
      obtain ⟨g, gs, hx, hgk⟩ := hw.head
      obtain ⟨t, mk, hc, hkt, _⟩ := h1 g (by rw [hx]; simp)
      obtain ⟨ts, hts⟩ : ∃ ts, cont [x] = t :: ts := ⟨mk ++ gs.flatMap GU.c, by rw [eo, hx, List.flatMap_cons, hc]; rfl⟩
      rw [hts] at hd hB ho1 etl ⊢
      have ht := ho1 t (List.mem_cons_self ..)
      have hb := bs_pos ht
      rw [flat_cons, List.length_append] at etl
      obtain ⟨g1, g2⟩ := drop_one (show (pcs s.data.toList).drop m = ⟨i, t.bs.length, t.r⟩ :: (place (i + t.bs.length) ts ++ place (i + tl x) (cont A)) from hd)
      have hkl := kindL (tkd_1 (hkt ▸ hgk)).2
      rw [show (t :: ts).length + ((cont A).length + N) = (ts.length + ((cont A).length + N)) + 1 by rw [List.length_cons]; omega, loopI]
      rw [step_first s W J _ n m stop ⟨i, t.bs.length, t.r⟩ (spG (i, i + tl x)) g1 w1 (by omega) rfl (okTok_rng ht) (by simp only; omega) hkl (by show (i : Int) < ((i + tl x : Nat) : Int); omega)]
      rw [show ((n : Int) + 1) = ((n + 1 : Nat) : Int) by omega, show (spG (i, i + tl x)).To = (i : Int) + (tl x : Int) by show ((i + tl x : Nat) : Int) = _; omega]
      rw [run_same s W J (n + 1) _ ((cont A).length + N) (i + tl x) (by omega) (hge (n + 1) w2) ts _ (i + t.bs.length) (m + 1) g2 (by omega) (fun u hu => ho1 u (List.mem_cons_of_mem _ hu)) (.inl ⟨by omega, hB.2⟩)]
      have hd2 : (pcs s.data.toList).drop (m + 1 + ts.length) = place (i + tl x) (cont A) := by
        rw [← List.drop_drop, g2, List.drop_left' (by rw [place_length])]
      exact run_all s W J hs A (i + tl x) _ (n + 1) _ N hd2 (by omega) hA' ho2 w2 (by omega) (by omega) hN (by have := (List.getElem?_eq_some_iff.1 w1).1; omega)
    · have e1 : wds (posT i (x :: A)) = wds (posT (i + tl x) A) := by
        show wds (⟨x.1, i, i + tl x⟩ :: posT (i + tl x) A) = _
        simp [wds, hk]
      rw [e1] at hW
      rw [run_same s W J n _ ((cont A).length + N) (i + tl x) (by omega) (hge n hW) (cont [x]) _ i m hd (by omega) ho1 (.inr ⟨hst, fun t ht => by
        rw [eo] at ht
        obtain ⟨g, hg, hgt⟩ := List.mem_flatMap.1 ht
        exact nok_kind (h1 g hg) (h3 hk g hg) t hgt⟩)]
      have hd2 : (pcs s.data.toList).drop (m + (cont [x]).length) = place (i + tl x) (cont A) := by
        rw [← List.drop_drop, hd, List.drop_left' (by rw [place_length])]
      exact run_all s W J hs A (i + tl x) _ n _ N hd2 (by omega) hA' ho2 hW (by omega) (by omega) hN hnl
/-- The first loop. -/
theorem letters_loop (s : ByteArray) (J : Int → Option Bool) (hs : s.size ≤ 100000) : loopG (fun _ _ _ => none) (law07_WordLetters_s2 s ((wsOf s).map spG) J) fuel 0 0 0 = J (((wsOf s).map spG).length : Int) := by
  have hf := flat_toks s.data.toList
  have hg : (gun (toks s.data.toList)).flatMap GU.c = toks s.data.toList := gun_flat _ _ (Nat.le_refl _)
  have hG : fl2 (G (toks s.data.toList)) = gun (toks s.data.toList) := gtok_flat _ _ (Nat.le_refl _)
  have hc : cont (G (toks s.data.toList)) = toks s.data.toList := by unfold cont; rw [hG, hg]
  have hgo : ∀ g ∈ gun (toks s.data.toList), GOk g := gun_ok _ _ (Nat.le_refl _)
  have hmem : ∀ x ∈ G (toks s.data.toList), ∀ g ∈ x.2, g ∈ gun (toks s.data.toList) := fun x hx g hgm => by rw [← hG]; exact List.mem_flatMap.2 ⟨x, hx, hgm⟩
  have htot : tot (G (toks s.data.toList)) = s.size := by rw [← tot_len, hc, hf, size_listN]
  have hcount : (toks s.data.toList).length ≤ s.size := by
    have h := pcs_count_le s
    unfold pcs at h
    rw [pcs_place, place_length] at h
    exact h
  have := run_all s ((wsOf s).map spG) J hs (G (toks s.data.toList)) 0 0 0 0 (fuel - (toks s.data.toList).length) (by rw [hc]; show pcsFrom 0 _ = _; exact pcs_place _ 0) (by omega)
    (fun x hx => ⟨fun g hgm => hgo g (hmem x hx g hgm), fun hk => gtok_wg _ _ (Nat.le_refl _) x hx hk, fun hk => gtok_nok _ _ (Nat.le_refl _) hgo x hx hk⟩) (by rw [hc]; exact toks_ok _)
    (by rw [List.drop_zero]; unfold wsOf; rw [tks_pos]) (Nat.le_refl _) (Int.le_refl _) (by have := big_fuel (n := (toks s.data.toList).length) (by omega); omega) (Nat.zero_le _)
  rw [hc, show (toks s.data.toList).length + (fuel - (toks s.data.toList).length) = fuel by have := big_fuel (n := (toks s.data.toList).length) (by omega); omega] at this
  exact this
/-! ### The words, folded -/
theorem word_of (s : ByteArray) (w : Nat × Nat) (hw : w ∈ wsOf s) : ∃ x : GT, cw s w = txB x ∧ WG x.2 ∧ (∀ g ∈ x.2, GOk g) ∧ Good (cont [x]) ∧ ∀ t ∈ cont [x], okTok t := by
  have hf := flat_toks s.data.toList
  have hg : (gun (toks s.data.toList)).flatMap GU.c = toks s.data.toList := gun_flat _ _ (Nat.le_refl _)
  have hG : fl2 (G (toks s.data.toList)) = gun (toks s.data.toList) := gtok_flat _ _ (Nat.le_refl _)
  have hc : cont (G (toks s.data.toList)) = toks s.data.toList := by unfold cont; rw [hG, hg]
  have hgo : ∀ g ∈ gun (toks s.data.toList), GOk g := gun_ok _ _ (Nat.le_refl _)
  have hm : cw s w ∈ (wsOf s).map (cw s) := List.mem_map.2 ⟨w, hw, rfl⟩
  rw [ws_txt s (G (toks s.data.toList)) (by rw [hc, hf]) (tks_pos s)] at hm
  obtain ⟨x, hx, e⟩ := List.mem_map.1 hm
  rw [List.mem_filter] at hx
  have hk : x.1 = 1 := by simpa [wf1] using hx.2
  obtain ⟨A, B, hAB⟩ := List.append_of_mem hx.1
  have hsp : toks s.data.toList = cont A ++ (cont [x] ++ cont B) := by rw [← hc, hAB, cont_append, cont_cons]
  refine ⟨x, e.symm, gtok_wg _ _ (Nat.le_refl _) x hx.1 hk, fun g hgm => hgo g (by rw [← hG]; exact List.mem_flatMap.2 ⟨x, hx.1, hgm⟩), ?_, fun t ht => toks_ok s.data.toList t (by rw [hsp]; simp [ht])⟩
  have h1 := good_toks s.data.toList
  rw [hsp] at h1
  exact good_take (good_drop h1)
theorem word_folded (s : ByteArray) (w : Nat × Nat) (hw : w ∈ wsOf s) (hs : (cw s w).size ≤ 65536) : ∀ t ∈ toks (foldS (cw s w)).data.toList, kind (t.r : Int) ≠ 2 ∧ great (t.r : Int) = false := by
  obtain ⟨x, e, hw, hg, hgood, hot⟩ := word_of s w hw
  rw [out_toks gF_ok (foldS_bytes _ hs), e]
  have ht : toks (txB x).data.toList = cont [x] := by
    show toks (flat (cont [x])) = _
    exact hgood
  rw [ht]
  have eo : cont [x] = x.2.flatMap GU.c := cont_one x
  have h1 := (word_toks hw hg (by rw [← eo]; exact hot)).2
  have h2 := word_gt hw hg (by rw [← eo]; exact hot)
  rw [← eo] at h1 h2
  have h3 := clw0 _ h1 h2
  have h4 := clT_clOk hot
  intro t htm
  obtain ⟨c, hc, htc⟩ := List.mem_flatMap.1 htm
  rcases h3 c hc with hL | ⟨u, hu, huo, hL', hM, hgr⟩
  · have hn : getM c.1.Rune tabS = none := by
      rcases h4 c hc with ⟨_, _, h⟩ | ⟨h, _⟩
      · exact h
      · rw [hL] at h; cases h
    unfold mkO at htc
    rw [hL] at htc
    obtain ⟨r, hr, rfl⟩ := List.mem_map.1 (show t ∈ (gF c).map tokR from htc)
    obtain ⟨l1, l2, _⟩ := (foldLet_of (show letter c.1.Rune = true from hL)).2.2 hn r hr
    have hv := letter_vr l1
    have er : (((tokR r).r : Nat) : Int) = r := by unfold vr at hv; show ((r.toNat : Nat) : Int) = r; omega
    rw [er, kindL l1]
    exact ⟨by decide, l2⟩
  · have hL : isL c.1 = false := by rw [hu]; exact hL'
    unfold mkO at htc
    rw [hL] at htc
    have : t = u := by
      have := List.mem_singleton.1 (show t ∈ [itT c.1] from htc)
      rw [this, hu, itT_tok huo]
    subst this
    cases hb : t.broken with
    | true =>
      have : t.r = 65533 := by unfold Tok.broken at hb; rw [Bool.and_eq_true, beq_iff_eq] at hb; exact hb.1
      rw [this]; exact ⟨by decide, by decide⟩
    | false =>
      unfold isM at hM
      rw [tokI_rune hb] at hM hgr
      refine ⟨fun e => ?_, hgr⟩
      have := kind2 (t.r : Int)
      rw [e, hM] at this
      cases this
end Go.Proofs.Ytlamcpgnmeileaa
namespace Go.Proofs.Ytlamcpgnmeileaa
open Go.RowKit Go.Lib
set_option linter.unusedVariables false
set_option linter.unusedSimpArgs false
theorem wakesW_v : law07_wakes_v = some true := by decide +kernel
theorem cutW_v (s : ByteArray) : ∃ x : ByteArray, x.size ≤ 2048 ∧ law07_cut_v s = some x := by
  unfold law07_cut_v
  by_cases h : (2048 : Int) < (s.size : Int)
  · refine ⟨cutB s 0 2048, ?_, condTI (decide_eq_true h) (grdI ⟨by omega, by omega, by omega⟩ rfl)⟩
    unfold cutB; rw [ByteArray.size_extract]; omega
  · exact ⟨s, by omega, condFI (decide_eq_false h) rfl⟩
theorem spans_go (d : List Gapi_Span → Option Bool) : ∀ (ws : List (Nat × Nat)) (l : List Gapi_Span), l.length + ws.length ≤ 1000000 → rangeG d law07_WordLetters_s1 ws l = d (l ++ ws.map spG)
  | [], l, _ => by rw [List.map_nil, List.append_nil]; rfl
  | w :: ws, l, h => by
    rw [List.length_cons] at h
    rw [rangeG_cons]
    unfold law07_WordLetters_s1
    refine grdI (by omega) ?_
    have := spans_go d ws (l ++ [(⟨(w.1 : Int), (w.2 : Int)⟩ : Gapi_Span)]) (by rw [List.length_append]; simp; omega)
    unfold law07_WordLetters_s1 at this
    rw [this, List.append_assoc]; rfl
theorem folded_loop (f : ByteArray) (hf : ∀ t ∈ toks f.data.toList, kind (t.r : Int) ≠ 2 ∧ great (t.r : Int) = false) (hs : f.size ≤ 10000000) (J : Option Bool) : ∀ (n m : Nat), m ≤ (pcs f.data.toList).length → (pcs f.data.toList).length - m < n → loopG (fun _ => none) (law07_WordLetters_s4 J f) n m = J := by
  intro n
  induction n with
  | zero => intro m _ h; omega
  | succ n ih =>
    intro m hm hn
    rw [loopI]
    generalize loopG (fun _ => none) (law07_WordLetters_s4 J f) n = ag at ih ⊢
    unfold law07_WordLetters_s4
    by_cases h : m < (pcs f.data.toList).length
    · have hx : (pcs f.data.toList)[m]? = some (pcs f.data.toList)[m] := List.getElem?_eq_getElem h
      have hmem := List.mem_of_getElem? hx
      generalize (pcs f.data.toList)[m] = p at hx hmem
      have hmem2 := hmem
      unfold pcs at hmem2
      rw [pcs_place] at hmem2
      obtain ⟨a, t, c, hts, _, _, hr⟩ := place_mem (toks f.data.toList) [] p hmem2
      have ht : t ∈ toks f.data.toList := by rw [hts]; simp
      obtain ⟨h1, h2⟩ := hf t ht
      have hI := okTok_rng (toks_ok f.data.toList t ht)
      rw [← hr] at h1 h2 hI
      exact condTI (decide_eq_true h) (thenI hx (grdI hI (condFI (beq_eq_false_iff_ne.2 h1) (grdI hI (condFI h2 (ih (m + 1) (by omega) (by omega)))))))
    · exact condFI (decide_eq_false h) rfl
theorem inc_len : ∀ {l : List (Nat × Nat)} {a b : Nat}, Inc a l → (∀ w ∈ l, w.2 ≤ b) → a ≤ b → a + l.length ≤ b
  | [], a, b, _, _, h => h
  | x :: l, a, b, h, hm, hab => by
    obtain ⟨h1, h2, h3⟩ := h
    have := inc_len h3 (fun w hw => hm w (List.mem_cons_of_mem _ hw)) (hm x (List.mem_cons_self ..))
    rw [List.length_cons]; omega
theorem ws_in (s : ByteArray) (w : Nat × Nat) (h : w ∈ wsOf s) : w.1 ≤ w.2 ∧ w.2 ≤ s.size := by
  unfold wsOf wds at h
  obtain ⟨t, ht, e⟩ := List.mem_filterMap.1 h
  have := (tks_ch s).mem t ht
  split at e
  · cases e; constructor <;> · simp only; omega
  · cases e
theorem wordLetters_v (s : ByteArray) : law07_WordLetters_v s = some true := by
  unfold law07_WordLetters_v
  obtain ⟨x, hx, hc⟩ := cutW_v s
  refine thenI wakesW_v (condFI rfl (joinI (thenI hc (grdI (by omega) (joinI ?_)))))
  have hwl := inc_len (ws_inc x) (fun w hw => (ws_in x w hw).2) (Nat.zero_le _)
  rw [spans_go _ (wsOf x) [] (by simp; omega), List.nil_append]
  refine joinI ?_
  rw [letters_loop x _ (by omega)]
  refine joinI ?_
  have each : ∀ J : Option Bool, loopG (fun _ => none) (law07_WordLetters_s3 x ((wsOf x).map spG) J) fuel 0 = J := by
    intro J
    have key : ∀ (n k : Nat), k ≤ (wsOf x).length → (wsOf x).length - k < n → loopG (fun _ => none) (law07_WordLetters_s3 x ((wsOf x).map spG) J) n (k : Int) = J := by
      intro n
      induction n with
      | zero => intro k _ h; omega
      | succ n ih =>
        intro k hk hn
        rw [loopI]
        generalize loopG (fun _ => none) (law07_WordLetters_s3 x ((wsOf x).map spG) J) n = ag at ih ⊢
        unfold law07_WordLetters_s3
        by_cases h : k < (wsOf x).length
        · have hq : (wsOf x)[k]? = some (wsOf x)[k] := List.getElem?_eq_getElem h
          have hq' : ((wsOf x).map spG)[k]? = some (spG (wsOf x)[k]) := by rw [List.getElem?_map, hq]; rfl
          have hm := List.mem_of_getElem? hq
          generalize (wsOf x)[k] = w at hq hq' hm
          obtain ⟨b1, b2⟩ := ws_in x w hm
          have hcs : (cw x w).size ≤ 2048 := by unfold cw cutB; rw [ByteArray.size_extract]; omega
          have hfd := word_folded x w hm (by omega)
          have hfs := foldS_size (cw x w) (by omega)
          refine condTI (lp_lt hq') (joinI (thenI (lp_get hq') (grdI ?_ ?_)))
          · show 0 ≤ (w.1 : Int) ∧ (w.1 : Int) ≤ (w.2 : Int) ∧ (w.2 : Int) ≤ (x.size : Int)
            omega
          · refine thenI (a := foldS (cw x w)) (fold_v (cw x w) (by omega)) ?_
            have hpc := pcs_count_le (foldS (cw x w))
            have := folded_loop (foldS (cw x w)) hfd (by omega) (grd (I64 ((k : Int) + 1)) (ag ((k : Int) + 1))) fuel 0 (Nat.zero_le _) (by have := big_fuel (n := (pcs (foldS (cw x w)).data.toList).length) (by omega); omega)
            refine this.trans (grdI ⟨by omega, by omega⟩ ?_)
            have := ih (k + 1) (by omega) (by omega)
            rwa [show ((k + 1 : Nat) : Int) = (k : Int) + 1 by omega] at this
        · exact condFI (decide_eq_false (by rw [List.length_map]; omega)) rfl
    exact key fuel 0 (Nat.zero_le _) (by have := big_fuel (n := (wsOf x).length) (by omega); omega)
  rw [each]
  exact condTI (beq_self_eq_true _) (thenI wakesW_v rfl)
theorem wordLetters_any (s : ByteArray) (w : World) (h0 : s.size ≤ 140737488351232) : Calls Try.prog 5 #[.string s] w fun e w' => e = .returned (.bool true) ∧ Below w.heap.size w w' :=
  law07_WordLetters_fn (wordLetters_v s) w
end Go.Proofs.Ytlamcpgnmeileaa
