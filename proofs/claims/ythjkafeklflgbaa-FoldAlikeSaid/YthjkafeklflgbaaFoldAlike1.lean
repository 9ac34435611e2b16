/-
  Texts laid together: Qw, Qk, LfFoldAlike, PlFoldAlike. Nothing is assumed.
-/
import Derived.Test.YthjkafeklflgbaaFb5
import Derived.Test.YthjkafeklflgbaaFb4
namespace Go.Proofs.Ythjkafeklflgbaa
open Go.RowKit Go.Lib
set_option linter.unusedVariables false
set_option linter.unusedSimpArgs false
set_option maxRecDepth 100000 in
theorem wake1 : foldS ⟨#[83, 116, 114, 97, 195, 159, 101, 204, 129]⟩ = ⟨#[115, 116, 114, 97, 115, 115, 101]⟩ := by decide +kernel
set_option maxRecDepth 100000 in
theorem wake2 : foldS ⟨#[195, 137]⟩ = foldS ⟨#[101]⟩ := by decide +kernel
theorem wakes_v : law04_wakes_v = some true :=
  thenI ((fold_v _ (by decide)).trans (congrArg some wake1)) (condTI (decide_eq_true rfl) (thenI (same_v _ _ (by decide) (by decide)) (congrArg some (decide_eq_true wake2))))
theorem cut_le (s : ByteArray) (n : Nat) : (cutB s 0 (min (s.size : Int) n)).size ≤ n := by
  unfold cutB; rw [ByteArray.size_extract]; omega
theorem cut_le' (s : ByteArray) (n : Nat) : (cutB s 0 (n : Int)).size ≤ n := by
  unfold cutB; rw [ByteArray.size_extract]; omega
end Go.Proofs.Ythjkafeklflgbaa
namespace Go.Proofs.Ythjkafeklflgbaa
open Go.RowKit Go.Lib
set_option linter.unusedVariables false
set_option linter.unusedSimpArgs false
theorem strOf_size (l : List Int) : (strOf l).size ≤ l.length * 4 := by rw [strOf_J]; exact J_size _ 4 fun x _ => enc_size4 x
def strip (x : Itm) : Itm := ⟨x.Rune, x.Text, 0⟩
def stripC (c : Itm × List Itm) : Itm × List Itm := (strip c.1, c.2.map strip)
theorem isL_strip (x : Itm) : isL (strip x) = isL x := rfl
theorem isM_strip (x : Itm) : isM (strip x) = isM x := rfl
theorem clF_strip : ∀ (xs : List Itm) (cur : Option (Itm × List Itm)), clF (cur.map stripC) (xs.map strip) = (clF cur xs).map stripC
  | [], none => rfl
  | [], some c => rfl
  | x :: xs, none => clF_strip xs (some (x, []))
  | x :: xs, some c => by
    show (if isL (strip c.1) && isM (strip x) then clF (some (strip c.1, c.2.map strip ++ [strip x])) (xs.map strip) else stripC c :: clF (some (strip x, [])) (xs.map strip)) = (if isL c.1 && isM x then clF (some (c.1, c.2 ++ [x])) xs else c :: clF (some (x, [])) xs).map stripC
    rw [isL_strip, isM_strip]
    have h1 := clF_strip xs (some (c.1, c.2 ++ [x]))
    have h2 := clF_strip xs (some (x, []))
    simp only [Option.map_some, stripC, List.map_append, List.map_cons, List.map_nil] at h1 h2
    split
    · exact h1
    · rw [List.map_cons, ← h2]
theorem cl_strip (xs : List Itm) : cl (xs.map strip) = (cl xs).map stripC := clF_strip xs none
theorem apI_strip (x : Itm) : apI (strip x) = (apI x).map strip := by
  unfold apI
  rw [isL_strip]
  split
  · rw [List.map_map]; rfl
  · rfl
theorem apL_strip (xs : List Itm) : apL (xs.map strip) = (apL xs).map strip := by
  unfold apL
  induction xs with
  | nil => rfl
  | cons x xs ih => rw [List.map_cons, List.flatMap_cons, List.flatMap_cons, List.map_append, ih, apI_strip]
theorem foldC_strip (c : Itm × List Itm) : foldC (stripC c) = foldC c := by
  unfold foldC foldI stripC
  rw [isL_strip]
  split <;> rfl
/-- A token as an item. -/
def tokI (t : Tok) : Itm := ⟨if t.broken then -1 else (t.r : Int), ⟨t.bs.toArray⟩, 0⟩
def clT (ts : List Tok) : List (Itm × List Itm) := cl (apL (ts.map tokI))
def FT (ts : List Tok) : ByteArray := J foldC (clT ts)
theorem items_place (s : ByteArray) : ∀ (ts pre : List Tok), s.data.toList = flat (pre ++ ts) → ((place (flat pre).length ts).map (itG s)).map strip = ts.map tokI
  | [], pre, _ => rfl
  | t :: ts, pre, h => by
    have e : (flat pre).length + t.bs.length = (flat (pre ++ [t])).length := by rw [flat_append, List.length_append]; simp [flat]
    show strip (itG s ⟨(flat pre).length, t.bs.length, t.r⟩) :: ((place ((flat pre).length + t.bs.length) ts).map (itG s)).map strip = _
    rw [e, items_place s ts (pre ++ [t]) (by rw [h]; simp), List.map_cons]
    congr 1
    unfold strip itG tokI
    have hb : (⟨(flat pre).length, t.bs.length, t.r⟩ : Pc).broken = t.broken := rfl
    rw [hb]
    have ht : s.extract (flat pre).length ((flat pre).length + t.bs.length) = ⟨t.bs.toArray⟩ := by
      apply ByteArray.ext; apply Array.toList_inj.1
      rw [Lib.extract_data, h, flat_append, flat_cons]
      simp
    simp only [ht]
theorem items_toks (s : ByteArray) : (itemsP s).map strip = (toks s.data.toList).map tokI := by
  unfold itemsP pcs
  rw [pcs_place]
  have := items_place s (toks s.data.toList) [] (by rw [List.nil_append, flat_toks])
  exact this
theorem clus_strip (s : ByteArray) : (clus s).map stripC = clT (toks s.data.toList) := by
  unfold clT clus
  rw [← items_toks, apL_strip, cl_strip]
theorem foldS_toks (s : ByteArray) : foldS s = FT (toks s.data.toList) := by
  unfold foldS FT
  rw [← clus_strip, J_map]
  exact J_congr fun c _ => (foldC_strip c).symm
/-- The item of a rune. -/
def mkI (r : Int) : Itm := ⟨r, Utf8.encode r, 0⟩
theorem tokI_valid {t : Tok} (h : t.valid) : tokI t = mkI (t.r : Int) := by
  unfold tokI mkI
  rw [valid_not_broken h]
  have : (⟨t.bs.toArray⟩ : ByteArray) = Utf8.encode (t.r : Int) := by
    apply ByteArray.ext; apply Array.toList_inj.1
    rw [encode_list, ← h.2]
  rw [this]; rfl
theorem parts_other {r : Int} (h : letter r = false) : parts r = [r] := by
  unfold parts
  cases e : getM r tabS with
  | none => rfl
  | some p => have := (tabS_rng e).2.2; rw [h] at this; cases this
theorem apI_mk (r : Int) : apI (mkI r) = (parts r).map mkI := by
  unfold apI
  cases h : isL (mkI r) with
  | true => rfl
  | false => rw [parts_other (show letter r = false from h)]; rfl
theorem apL_mk (rs : List Int) : apL (rs.map mkI) = (rs.flatMap parts).map mkI := by
  unfold apL
  induction rs with
  | nil => rfl
  | cons r rs ih => rw [List.map_cons, List.flatMap_cons, List.flatMap_cons, List.map_append, ih, apI_mk]
theorem parts_parts {r x : Int} (h : x ∈ parts r) : parts x = [x] := by
  cases hL : letter r with
  | false =>
    rw [parts_other hL] at h
    simp at h; subst h; exact parts_other hL
  | true =>
    obtain ⟨b, ms, hq, hb, hn, hms, _⟩ := parts_shape hL
    rw [hq] at h
    rcases List.mem_cons.1 h with rfl | h
    · unfold parts; rw [hn]
    · exact parts_other (mrk_not_letter (hms x h))
theorem parts_twice (rs : List Int) : (rs.flatMap parts).flatMap parts = rs.flatMap parts := by
  rw [List.flatMap_assoc]
  congr 1
  funext r
  have : ∀ l : List Int, (∀ x ∈ l, parts x = [x]) → l.flatMap parts = l := by
    intro l
    induction l with
    | nil => intro _; rfl
    | cons y l ih => intro h; rw [List.flatMap_cons, h y (List.mem_cons_self ..), ih (fun z hz => h z (List.mem_cons_of_mem _ hz))]; rfl
  exact this _ fun x hx => parts_parts hx
/-- The tokens of a text of runes. -/
def tokR (r : Int) : Tok := ⟨r.toNat, encodeRune r⟩
theorem tokR_valid {r : Int} (h : vr r) : (tokR r).valid := by
  unfold vr at h
  refine ⟨?_, ?_⟩
  · show r.toNat < 55296 ∨ _; simp only [tokR]; omega
  · show encodeRune r = encodeRune ((r.toNat : Nat) : Int)
    rw [show ((r.toNat : Nat) : Int) = r by omega]
theorem strOf_toks {rs : List Int} (h : ∀ r ∈ rs, vr r) : toks (strOf rs).data.toList = rs.map tokR := by
  have e : (strOf rs).data.toList = flat (rs.map tokR) := by
    rw [strOf_J]
    clear h
    induction rs with
    | nil => rfl
    | cons r rs ih =>
      rw [J_cons, List.map_cons, flat_cons, ← ih]
      have : (Utf8.encode r).data.toList = encodeRune r := encode_list r
      show (Utf8.encode r ++ J Utf8.encode rs).data.toList = encodeRune r ++ _
      rw [← this]; simp
  rw [e]
  have := toks_valids (vs := rs.map tokR) (fun t ht => by obtain ⟨r, hr, rfl⟩ := List.mem_map.1 ht; exact tokR_valid (h r hr)) []
  simpa [toks_nil] using this
theorem foldS_str {rs : List Int} (h : ∀ r ∈ rs, vr r) : foldS (strOf rs) = J foldC (cl ((rs.flatMap parts).map mkI)) := by
  rw [foldS_toks, strOf_toks h]
  unfold FT clT
  have : (rs.map tokR).map tokI = rs.map mkI := by
    rw [List.map_map]
    refine List.map_congr_left fun r hr => ?_
    have hv := h r hr
    show tokI (tokR r) = mkI r
    rw [tokI_valid (tokR_valid hv)]
    show mkI ((r.toNat : Nat) : Int) = mkI r
    rw [show ((r.toNat : Nat) : Int) = r by unfold vr at hv; omega]
  rw [this, apL_mk]
theorem parts_vr {r : Int} (h : vr r) : ∀ x ∈ parts r, vr x := by
  intro x hx
  cases hL : letter r with
  | false => rw [parts_other hL] at hx; simp at hx; subst hx; exact h
  | true =>
    obtain ⟨b, ms, hq, hb, hn, hms, _⟩ := parts_shape hL
    rw [hq] at hx
    rcases List.mem_cons.1 hx with rfl | hx
    · have := letter_rng _ hb; unfold vr; omega
    · have := hms x hx; unfold mrk at this; simp at this; unfold vr; omega
theorem runesOf_vr (s : ByteArray) : ∀ r ∈ runesOf s, vr r := by
  intro r hr
  unfold runesOf at hr
  obtain ⟨p, hp, rfl⟩ := List.mem_map.1 hr
  obtain ⟨g1, g2, hok⟩ := pcs_pos s.data.toList p hp
  have := hok.valid
  unfold vr; omega
theorem fold_parts {rs : List Int} (h : ∀ r ∈ rs, vr r) : foldS (strOf (rs.flatMap parts)) = foldS (strOf rs) := by
  rw [foldS_str h, foldS_str (fun x hx => by obtain ⟨r, hr, hx⟩ := List.mem_flatMap.1 hx; exact parts_vr (h r hr) x hx), parts_twice]
end Go.Proofs.Ythjkafeklflgbaa
namespace Go.Proofs.Ythjkafeklflgbaa
open Go.RowKit Go.Lib
set_option linter.unusedVariables false
set_option linter.unusedSimpArgs false
def law04_FoldAlike_s1 (a1 : ByteArray) (j2 : (List Int) → Option Bool) (ag1 : (List Int) → Int → Option Bool) (l4 : List Int) (x3 : Int) : Option Bool := bcond (decide ((x3 : Int) < ((runesOf a1).length : Int))) ( andThen (getO (runesOf a1) x3) fun (q1 : Int) => andThen (fold_Split_v q1) fun (r16 : (List Int)) => grd (l4.length + r16.length ≤ 2147483648) <| grd (I64 (x3 + 1)) <| ag1 (l4 ++ r16) (x3 + 1)
) ( j2 l4
)
def law04_FoldAlike_v (a1 : ByteArray) (b1 : ByteArray) (c1 : ByteArray) : Option Bool := andThen (law04_wakes_v) fun (r1 : Bool) => bcond (!r1) ( some false
) ( grd (I64 ((a1.size : Int) + (b1.size : Int))) <| grd (I64 (((a1.size : Int) + (b1.size : Int)) + (c1.size : Int))) <| bcond (decide ((4096 : Int) < (((a1.size : Int) + (b1.size : Int)) + (c1.size : Int)))) ( andThen (law04_wakes_v) fun (r2 : Bool) => some r2
) ( joinK (fun (j1 : Option Bool) => andThen (fold_Same_v a1 b1) fun (r3 : Bool) => andThen (fold_Same_v b1 c1) fun (r4 : Bool) => andThen (fold_Same_v a1 c1) fun (r5 : Bool) => andThen (fold_Same_v b1 a1) fun (r6 : Bool) => bcond (r3 != r6) ( some false
) ( bcond (r3) ( bcond (r4) ( bcond (!r5) ( some false
) ( bcond (r3) ( bcond (r5) ( bcond (!r4) ( some false
) ( andThen (fold_Same_v c1 c1) fun (r7 : Bool) => bcond (!r7) ( some false
) ( j1
)
)
) ( andThen (fold_Same_v c1 c1) fun (r8 : Bool) => bcond (!r8) ( some false
) ( j1
)
)
) ( andThen (fold_Same_v c1 c1) fun (r9 : Bool) => bcond (!r9) ( some false
) ( j1
)
)
)
) ( bcond (r3) ( bcond (r5) ( bcond (!r4) ( some false
) ( andThen (fold_Same_v c1 c1) fun (r10 : Bool) => bcond (!r10) ( some false
) ( j1
)
)
) ( andThen (fold_Same_v c1 c1) fun (r11 : Bool) => bcond (!r11) ( some false
) ( j1
)
)
) ( andThen (fold_Same_v c1 c1) fun (r12 : Bool) => bcond (!r12) ( some false
) ( j1
)
)
)
) ( bcond (r3) ( bcond (r5) ( bcond (!r4) ( some false
) ( andThen (fold_Same_v c1 c1) fun (r13 : Bool) => bcond (!r13) ( some false
) ( j1
)
)
) ( andThen (fold_Same_v c1 c1) fun (r14 : Bool) => bcond (!r14) ( some false
) ( j1
)
)
) ( andThen (fold_Same_v c1 c1) fun (r15 : Bool) => bcond (!r15) ( some false
) ( j1
)
)
)
)
) ( joinK (fun (j2 : (List Int) → Option Bool) => grd (a1.size ≤ 1073741824) <| loopG (fun _ _ => none) (law04_FoldAlike_s1 a1 j2) fuel ([] : List Int) 0
) (fun (l1 : List Int) => grd (a1.size ≤ 1073741824) <| andThen (fold_Same_v (strOf l1) (strOf (runesOf a1))) fun (r17 : Bool) => bcond (r17) ( andThen (law04_wakes_v) fun (r18 : Bool) => some r18
) ( some false
)
)
)
)
)
set_option maxRecDepth 100000 in
set_option maxHeartbeats 4000000 in
theorem law04_FoldAlike_fn {a1 : ByteArray} {b1 : ByteArray} {c1 : ByteArray} {r : Bool} (h : law04_FoldAlike_v a1 b1 c1 = some r) : FnP Try.prog 4 [.string a1, .string b1, .string c1] (.bool r) := by
 unfold law04_FoldAlike_v at h
 refine FnP.intro Try.func4 rfl Try.ntmps4 (by simp) ?_
 intro w0 K
 refine TC.seq (TC.region (TO.assign rfl dc rfl (TO.nil (TX.next (TC.seq (TC.seq (TC.region ?_)))))))
 obtain ⟨r1, hq1, h⟩ := andE h
 refine TO.callP (v := .bool r1) (vs := []) rfl dc rfl rfl rfl en_12 (law04_wakes_fn hq1) (TO.un rfl dc rfl un_not (TO.nil (TX.next ?_)))
 refine TC.condB rfl (fun hb1 => ?_) (fun hb1 => ?_)
 ·
  have h := condT hb1 h
  refine TC.seq (TC.region (TO.assign rfl dc rfl (TO.nil (TX.next (TC.ret (TX.thenRet ?_))))))
  cases h
  exact TX.fin (rs := [.tmp 6]) () (.inl rfl) Try.results4 (.cons (.tmp rfl) .nil) rfl Splits.nil
 ·
  have h := condF hb1 h
  refine TC.skip (TX.next (TC.seq (TC.seq (TC.region (TO.move rfl dc rfl (TO.lenStr rfl dc rfl Try.underlying9 (TO.move rfl dc rfl (TO.lenStr rfl dc rfl Try.underlying9 ?_))))))))
  obtain ⟨hg1, h⟩ := grdE h
  refine TO.bin rfl dc rfl rfl (bin_add (r := (a1.size : Int) + (b1.size : Int)) (IntWalk.i64_in _ hg1)) (TO.move rfl dc rfl (TO.lenStr rfl dc rfl Try.underlying9 ?_))
  obtain ⟨hg2, h⟩ := grdE h
  refine TO.bin rfl dc rfl rfl (bin_add (r := ((a1.size : Int) + (b1.size : Int)) + (c1.size : Int)) (IntWalk.i64_in _ hg2)) (TO.bin rfl dc rfl rfl bin_gtr (TO.nil (TX.next ?_)))
  refine TC.condB rfl (fun hb2 => ?_) (fun hb2 => ?_)
  ·
   have h := condT hb2 h
   refine TC.seq (TC.region ?_)
   obtain ⟨r2, hq2, h⟩ := andE h
   refine TO.callP (v := .bool r2) (vs := []) rfl dc rfl rfl rfl en_12 (law04_wakes_fn hq2) (TO.assign rfl dc rfl (TO.nil (TX.next (TC.ret (TX.thenRet ?_)))))
   cases h
   exact TX.fin (rs := [.tmp 6]) () (.inl rfl) Try.results4 (.cons (.tmp rfl) .nil) rfl Splits.nil
  ·
   have h := condF hb2 h
   refine TC.skip (TX.next ?_)
   obtain ⟨j1, hj1, h⟩ := joinE h
   refine TC.cutN (β := Unit) 1 rfl (fun b => j1 = some r) (fun b => []) (fun b => [(0, .string a1)]) (fun b => []) (fun cut => ?_) ?_
   ·
    refine TC.seq (TC.region (TO.move rfl dc rfl (TO.move rfl dc rfl ?_)))
    obtain ⟨r3, hq3, h⟩ := andE h
    refine TO.callP (v := .bool r3) (vs := [.string a1, .string b1]) rfl dc rfl rfl rfl en_13 (fold_Same_fn hq3) (TO.move rfl dc rfl (TO.move rfl dc rfl ?_))
    obtain ⟨r4, hq4, h⟩ := andE h
    refine TO.callP (v := .bool r4) (vs := [.string b1, .string c1]) rfl dc rfl rfl rfl en_13 (fold_Same_fn hq4) (TO.move rfl dc rfl (TO.move rfl dc rfl ?_))
    obtain ⟨r5, hq5, h⟩ := andE h
    refine TO.callP (v := .bool r5) (vs := [.string a1, .string c1]) rfl dc rfl rfl rfl en_13 (fold_Same_fn hq5) (TO.assign rfl dc rfl (TO.assign rfl dc rfl (TO.assign rfl dc rfl (TO.nil (TX.next (cut (TC.seq (TC.region (TO.move rfl dc rfl (TO.move rfl dc rfl (TO.move rfl dc rfl ?_)))))))))))
    obtain ⟨r6, hq6, h⟩ := andE h
    refine TO.callP (v := .bool r6) (vs := [.string b1, .string a1]) rfl dc rfl rfl rfl en_13 (fold_Same_fn hq6) (TO.bin rfl dc rfl rfl (bin_boolneq Try.underlying4) (TO.move rfl dc rfl ?_))
    refine TO.split (s := 39) rfl (fun hb3 => ?_) (fun hb3 => ?_)
    ·
     have h := condT hb3 h
     refine TO.skip rfl dc (TO.skip rfl dc (TO.skip rfl dc (TO.skip rfl dc (TO.skip rfl dc (TO.skip rfl dc (TO.skip rfl dc (TO.skip rfl dc (TO.pick (b := true) rfl dc rfl rfl (TO.move rfl dc rfl (TO.skip rfl dc (TO.skip rfl dc (TO.skip rfl dc (TO.skip rfl dc ?_)))))))))))))
     refine TO.skip rfl dc (TO.skip rfl dc (TO.skip rfl dc (TO.skip rfl dc (TO.pick (b := true) rfl dc rfl rfl (TO.move rfl dc rfl (TO.skip rfl dc (TO.skip rfl dc (TO.skip rfl dc (TO.skip rfl dc (TO.pick (b := true) rfl dc rfl rfl (TO.nil (TX.next (TC.condT rfl ?_)))))))))))))
     refine TC.seq (TC.region (TO.assign rfl dc rfl (TO.nil (TX.next (TC.ret (TX.thenRet ?_))))))
     cases h
     exact TX.fin (rs := [.tmp 6]) () (.inl rfl) Try.results4 (.cons (.tmp rfl) .nil) rfl Splits.nil
    ·
     have h := condF hb3 h
     refine TO.move rfl dc rfl (TO.move rfl dc rfl ?_)
     refine TO.split (s := 41) rfl (fun hb4 => ?_) (fun hb4 => ?_)
     ·
      have h := condT hb4 h
      refine TO.move rfl dc rfl (TO.pick (b := true) rfl dc rfl rfl (TO.move rfl dc rfl ?_))
      refine TO.split (s := 44) rfl (fun hb5 => ?_) (fun hb5 => ?_)
      ·
       have h := condT hb5 h
       refine TO.move rfl dc rfl (TO.un rfl dc rfl un_not (TO.pick (b := true) rfl dc rfl rfl (TO.pick (b := false) rfl dc rfl rfl (TO.move rfl dc rfl ?_))))
       refine TO.split (s := 49) rfl (fun hb6 => ?_) (fun hb6 => ?_)
       ·
        have h := condT hb6 h
        refine TO.skip rfl dc (TO.skip rfl dc (TO.skip rfl dc (TO.skip rfl dc (TO.skip rfl dc (TO.skip rfl dc (TO.skip rfl dc (TO.skip rfl dc (TO.pick (b := true) rfl dc rfl rfl (TO.move rfl dc rfl (TO.skip rfl dc (TO.skip rfl dc (TO.skip rfl dc (TO.skip rfl dc ?_)))))))))))))
        refine TO.pick (b := true) rfl dc rfl rfl (TO.nil (TX.next (TC.condT rfl (TC.seq (TC.region (TO.assign rfl dc rfl (TO.nil (TX.next (TC.ret (TX.thenRet ?_))))))))))
        cases h
        exact TX.fin (rs := [.tmp 6]) () (.inl rfl) Try.results4 (.cons (.tmp rfl) .nil) rfl Splits.nil
       ·
        have h := condF hb6 h
        refine TO.move rfl dc rfl (TO.move rfl dc rfl ?_)
        refine TO.split (s := 51) rfl (fun hb7 => ?_) (fun hb7 => ?_)
        ·
         have h := condT hb7 h
         refine TO.move rfl dc rfl (TO.pick (b := true) rfl dc rfl rfl (TO.move rfl dc rfl ?_))
         refine TO.split (s := 54) rfl (fun hb8 => ?_) (fun hb8 => ?_)
         ·
          have h := condT hb8 h
          refine TO.move rfl dc rfl (TO.un rfl dc rfl un_not (TO.pick (b := true) rfl dc rfl rfl (TO.pick (b := false) rfl dc rfl rfl (TO.move rfl dc rfl ?_))))
          refine TO.split (s := 59) rfl (fun hb9 => ?_) (fun hb9 => ?_)
          ·
           have h := condT hb9 h
           refine TO.skip rfl dc (TO.skip rfl dc (TO.skip rfl dc (TO.skip rfl dc (TO.pick (b := true) rfl dc rfl rfl (TO.nil (TX.next (TC.condT rfl (TC.seq (TC.region (TO.assign rfl dc rfl (TO.nil (TX.next (TC.ret ?_)))))))))))))
           refine TX.thenRet ?_
           cases h
           exact TX.fin (rs := [.tmp 6]) () (.inl rfl) Try.results4 (.cons (.tmp rfl) .nil) rfl Splits.nil
          ·
           have h := condF hb9 h
           refine TO.move rfl dc rfl (TO.move rfl dc rfl ?_)
           obtain ⟨r7, hq7, h⟩ := andE h
           refine TO.callP (v := .bool r7) (vs := [.string c1, .string c1]) rfl dc rfl rfl rfl en_13 (fold_Same_fn hq7) (TO.un rfl dc rfl un_not (TO.pick (b := false) rfl dc rfl rfl (TO.nil (TX.next ?_))))
           refine TC.condB rfl (fun hb10 => ?_) (fun hb10 => ?_)
           ·
            have h := condT hb10 h
            refine TC.seq (TC.region (TO.assign rfl dc rfl (TO.nil (TX.next (TC.ret (TX.thenRet ?_))))))
            cases h
            exact TX.fin (rs := [.tmp 6]) () (.inl rfl) Try.results4 (.cons (.tmp rfl) .nil) rfl Splits.nil
           ·
            have h := condF hb10 h
            refine TC.skip ?_
            exact TX.meetD () h rfl (Sbs.cons rfl (Sbs.nil)) Splits.nil
         ·
          have h := condF hb8 h
          refine TO.skip rfl dc (TO.skip rfl dc (TO.pick (b := false) rfl dc rfl rfl (TO.pick (b := false) rfl dc rfl rfl (TO.move rfl dc rfl (TO.move rfl dc rfl (TO.move rfl dc rfl ?_))))))
          obtain ⟨r8, hq8, h⟩ := andE h
          refine TO.callP (v := .bool r8) (vs := [.string c1, .string c1]) rfl dc rfl rfl rfl en_13 (fold_Same_fn hq8) (TO.un rfl dc rfl un_not (TO.pick (b := false) rfl dc rfl rfl (TO.nil (TX.next ?_))))
          refine TC.condB rfl (fun hb11 => ?_) (fun hb11 => ?_)
          ·
           have h := condT hb11 h
           refine TC.seq (TC.region (TO.assign rfl dc rfl (TO.nil (TX.next (TC.ret (TX.thenRet ?_))))))
           cases h
           exact TX.fin (rs := [.tmp 6]) () (.inl rfl) Try.results4 (.cons (.tmp rfl) .nil) rfl Splits.nil
          ·
           have h := condF hb11 h
           refine TC.skip ?_
           exact TX.meetD () h rfl (Sbs.cons rfl (Sbs.nil)) Splits.nil
        ·
         have h := condF hb7 h
         refine TO.skip rfl dc (TO.pick (b := false) rfl dc rfl rfl (TO.move rfl dc rfl (TO.skip rfl dc (TO.skip rfl dc (TO.pick (b := false) rfl dc rfl rfl (TO.pick (b := false) rfl dc rfl rfl (TO.move rfl dc rfl (TO.move rfl dc rfl (TO.move rfl dc rfl ?_)))))))))
         obtain ⟨r9, hq9, h⟩ := andE h
         refine TO.callP (v := .bool r9) (vs := [.string c1, .string c1]) rfl dc rfl rfl rfl en_13 (fold_Same_fn hq9) (TO.un rfl dc rfl un_not (TO.pick (b := false) rfl dc rfl rfl (TO.nil (TX.next ?_))))
         refine TC.condB rfl (fun hb12 => ?_) (fun hb12 => ?_)
         ·
          have h := condT hb12 h
          refine TC.seq (TC.region (TO.assign rfl dc rfl (TO.nil (TX.next (TC.ret (TX.thenRet ?_))))))
          cases h
          exact TX.fin (rs := [.tmp 6]) () (.inl rfl) Try.results4 (.cons (.tmp rfl) .nil) rfl Splits.nil
         ·
          have h := condF hb12 h
          refine TC.skip ?_
          exact TX.meetD () h rfl (Sbs.cons rfl (Sbs.nil)) Splits.nil
      ·
       have h := condF hb5 h
       refine TO.skip rfl dc (TO.skip rfl dc (TO.pick (b := false) rfl dc rfl rfl (TO.pick (b := false) rfl dc rfl rfl (TO.move rfl dc rfl (TO.move rfl dc rfl (TO.move rfl dc rfl ?_))))))
       refine TO.split (s := 51) rfl (fun hb13 => ?_) (fun hb13 => ?_)
       ·
        have h := condT hb13 h
        refine TO.move rfl dc rfl (TO.pick (b := true) rfl dc rfl rfl (TO.move rfl dc rfl ?_))
        refine TO.split (s := 54) rfl (fun hb14 => ?_) (fun hb14 => ?_)
        ·
         have h := condT hb14 h
         refine TO.move rfl dc rfl (TO.un rfl dc rfl un_not (TO.pick (b := true) rfl dc rfl rfl (TO.pick (b := false) rfl dc rfl rfl (TO.move rfl dc rfl ?_))))
         refine TO.split (s := 59) rfl (fun hb15 => ?_) (fun hb15 => ?_)
         ·
          have h := condT hb15 h
          refine TO.skip rfl dc (TO.skip rfl dc (TO.skip rfl dc (TO.skip rfl dc (TO.pick (b := true) rfl dc rfl rfl (TO.nil (TX.next (TC.condT rfl (TC.seq (TC.region (TO.assign rfl dc rfl (TO.nil (TX.next (TC.ret ?_)))))))))))))
          refine TX.thenRet ?_
          cases h
          exact TX.fin (rs := [.tmp 6]) () (.inl rfl) Try.results4 (.cons (.tmp rfl) .nil) rfl Splits.nil
         ·
          have h := condF hb15 h
          refine TO.move rfl dc rfl (TO.move rfl dc rfl ?_)
          obtain ⟨r10, hq10, h⟩ := andE h
          refine TO.callP (v := .bool r10) (vs := [.string c1, .string c1]) rfl dc rfl rfl rfl en_13 (fold_Same_fn hq10) (TO.un rfl dc rfl un_not (TO.pick (b := false) rfl dc rfl rfl (TO.nil (TX.next ?_))))
          refine TC.condB rfl (fun hb16 => ?_) (fun hb16 => ?_)
          ·
           have h := condT hb16 h
           refine TC.seq (TC.region (TO.assign rfl dc rfl (TO.nil (TX.next (TC.ret (TX.thenRet ?_))))))
           cases h
           exact TX.fin (rs := [.tmp 6]) () (.inl rfl) Try.results4 (.cons (.tmp rfl) .nil) rfl Splits.nil
          ·
           have h := condF hb16 h
           refine TC.skip ?_
           exact TX.meetD () h rfl (Sbs.cons rfl (Sbs.nil)) Splits.nil
        ·
         have h := condF hb14 h
         refine TO.skip rfl dc (TO.skip rfl dc (TO.pick (b := false) rfl dc rfl rfl (TO.pick (b := false) rfl dc rfl rfl (TO.move rfl dc rfl (TO.move rfl dc rfl (TO.move rfl dc rfl ?_))))))
         obtain ⟨r11, hq11, h⟩ := andE h
         refine TO.callP (v := .bool r11) (vs := [.string c1, .string c1]) rfl dc rfl rfl rfl en_13 (fold_Same_fn hq11) (TO.un rfl dc rfl un_not (TO.pick (b := false) rfl dc rfl rfl (TO.nil (TX.next ?_))))
         refine TC.condB rfl (fun hb17 => ?_) (fun hb17 => ?_)
         ·
          have h := condT hb17 h
          refine TC.seq (TC.region (TO.assign rfl dc rfl (TO.nil (TX.next (TC.ret (TX.thenRet ?_))))))
          cases h
          exact TX.fin (rs := [.tmp 6]) () (.inl rfl) Try.results4 (.cons (.tmp rfl) .nil) rfl Splits.nil
         ·
          have h := condF hb17 h
          refine TC.skip ?_
          exact TX.meetD () h rfl (Sbs.cons rfl (Sbs.nil)) Splits.nil
       ·
        have h := condF hb13 h
        refine TO.skip rfl dc (TO.pick (b := false) rfl dc rfl rfl (TO.move rfl dc rfl (TO.skip rfl dc (TO.skip rfl dc (TO.pick (b := false) rfl dc rfl rfl (TO.pick (b := false) rfl dc rfl rfl (TO.move rfl dc rfl (TO.move rfl dc rfl (TO.move rfl dc rfl ?_)))))))))
        obtain ⟨r12, hq12, h⟩ := andE h
        refine TO.callP (v := .bool r12) (vs := [.string c1, .string c1]) rfl dc rfl rfl rfl en_13 (fold_Same_fn hq12) (TO.un rfl dc rfl un_not (TO.pick (b := false) rfl dc rfl rfl (TO.nil (TX.next ?_))))
        refine TC.condB rfl (fun hb18 => ?_) (fun hb18 => ?_)
        ·
         have h := condT hb18 h
         refine TC.seq (TC.region (TO.assign rfl dc rfl (TO.nil (TX.next (TC.ret (TX.thenRet ?_))))))
         cases h
         exact TX.fin (rs := [.tmp 6]) () (.inl rfl) Try.results4 (.cons (.tmp rfl) .nil) rfl Splits.nil
        ·
         have h := condF hb18 h
         refine TC.skip ?_
         exact TX.meetD () h rfl (Sbs.cons rfl (Sbs.nil)) Splits.nil
     ·
      have h := condF hb4 h
      refine TO.skip rfl dc (TO.pick (b := false) rfl dc rfl rfl (TO.move rfl dc rfl (TO.skip rfl dc (TO.skip rfl dc (TO.pick (b := false) rfl dc rfl rfl (TO.pick (b := false) rfl dc rfl rfl (TO.move rfl dc rfl (TO.move rfl dc rfl (TO.move rfl dc rfl ?_)))))))))
      refine TO.split (s := 51) rfl (fun hb19 => ?_) (fun hb19 => ?_)
      ·
       have h := condT hb19 h
       refine TO.move rfl dc rfl (TO.pick (b := true) rfl dc rfl rfl (TO.move rfl dc rfl ?_))
       refine TO.split (s := 54) rfl (fun hb20 => ?_) (fun hb20 => ?_)
       ·
        have h := condT hb20 h
        refine TO.move rfl dc rfl (TO.un rfl dc rfl un_not (TO.pick (b := true) rfl dc rfl rfl (TO.pick (b := false) rfl dc rfl rfl (TO.move rfl dc rfl ?_))))
        refine TO.split (s := 59) rfl (fun hb21 => ?_) (fun hb21 => ?_)
        ·
         have h := condT hb21 h
         refine TO.skip rfl dc (TO.skip rfl dc (TO.skip rfl dc (TO.skip rfl dc (TO.pick (b := true) rfl dc rfl rfl (TO.nil (TX.next (TC.condT rfl (TC.seq (TC.region (TO.assign rfl dc rfl (TO.nil (TX.next (TC.ret ?_)))))))))))))
         refine TX.thenRet ?_
         cases h
         exact TX.fin (rs := [.tmp 6]) () (.inl rfl) Try.results4 (.cons (.tmp rfl) .nil) rfl Splits.nil
        ·
         have h := condF hb21 h
         refine TO.move rfl dc rfl (TO.move rfl dc rfl ?_)
         obtain ⟨r13, hq13, h⟩ := andE h
         refine TO.callP (v := .bool r13) (vs := [.string c1, .string c1]) rfl dc rfl rfl rfl en_13 (fold_Same_fn hq13) (TO.un rfl dc rfl un_not (TO.pick (b := false) rfl dc rfl rfl (TO.nil (TX.next ?_))))
         refine TC.condB rfl (fun hb22 => ?_) (fun hb22 => ?_)
         ·
          have h := condT hb22 h
          refine TC.seq (TC.region (TO.assign rfl dc rfl (TO.nil (TX.next (TC.ret (TX.thenRet ?_))))))
          cases h
          exact TX.fin (rs := [.tmp 6]) () (.inl rfl) Try.results4 (.cons (.tmp rfl) .nil) rfl Splits.nil
         ·
          have h := condF hb22 h
          refine TC.skip ?_
          exact TX.meetD () h rfl (Sbs.cons rfl (Sbs.nil)) Splits.nil
       ·
        have h := condF hb20 h
        refine TO.skip rfl dc (TO.skip rfl dc (TO.pick (b := false) rfl dc rfl rfl (TO.pick (b := false) rfl dc rfl rfl (TO.move rfl dc rfl (TO.move rfl dc rfl (TO.move rfl dc rfl ?_))))))
        obtain ⟨r14, hq14, h⟩ := andE h
        refine TO.callP (v := .bool r14) (vs := [.string c1, .string c1]) rfl dc rfl rfl rfl en_13 (fold_Same_fn hq14) (TO.un rfl dc rfl un_not (TO.pick (b := false) rfl dc rfl rfl (TO.nil (TX.next ?_))))
        refine TC.condB rfl (fun hb23 => ?_) (fun hb23 => ?_)
        ·
         have h := condT hb23 h
         refine TC.seq (TC.region (TO.assign rfl dc rfl (TO.nil (TX.next (TC.ret (TX.thenRet ?_))))))
         cases h
         exact TX.fin (rs := [.tmp 6]) () (.inl rfl) Try.results4 (.cons (.tmp rfl) .nil) rfl Splits.nil
        ·
         have h := condF hb23 h
         refine TC.skip ?_
         exact TX.meetD () h rfl (Sbs.cons rfl (Sbs.nil)) Splits.nil
      ·
       have h := condF hb19 h
       refine TO.skip rfl dc (TO.pick (b := false) rfl dc rfl rfl (TO.move rfl dc rfl (TO.skip rfl dc (TO.skip rfl dc (TO.pick (b := false) rfl dc rfl rfl (TO.pick (b := false) rfl dc rfl rfl (TO.move rfl dc rfl (TO.move rfl dc rfl (TO.move rfl dc rfl ?_)))))))))
       obtain ⟨r15, hq15, h⟩ := andE h
       refine TO.callP (v := .bool r15) (vs := [.string c1, .string c1]) rfl dc rfl rfl rfl en_13 (fold_Same_fn hq15) (TO.un rfl dc rfl un_not (TO.pick (b := false) rfl dc rfl rfl (TO.nil (TX.next ?_))))
       refine TC.condB rfl (fun hb24 => ?_) (fun hb24 => ?_)
       ·
        have h := condT hb24 h
        refine TC.seq (TC.region (TO.assign rfl dc rfl (TO.nil (TX.next (TC.ret (TX.thenRet ?_))))))
        cases h
        exact TX.fin (rs := [.tmp 6]) () (.inl rfl) Try.results4 (.cons (.tmp rfl) .nil) rfl Splits.nil
       ·
        have h := condF hb24 h
        refine TC.skip ?_
        exact TX.meetD () h rfl (Sbs.cons rfl (Sbs.nil)) Splits.nil
   ·
    rintro _ h
    rw [hj1] at h
    show TC _ _ _ _ _ ([]) _ _ [(0, .string a1)] []
    obtain ⟨j2, hj2, h⟩ := joinE h
    refine TC.cutN (β := (List Int) × Value) 1 rfl (fun b => j2 b.1 = some r) (fun b => []) (fun b => [(0, .string a1), (10, b.2)]) (fun b => [vec (encI (.i32)) 21 1 b.2 b.1]) (fun cut => ?_) ?_
    ·
     refine TC.seq (TC.region (TO.assign rfl dc rfl (TO.nil (TX.next (cut (TC.seq (TC.region (TO.move rfl dc rfl ?_))))))))
     obtain ⟨hg3, h⟩ := grdE h
     refine TO.strRunes hg3 rfl dc rfl Try.underlying9 Try.underlying25 Try.underlying21 (fun v2 => ?_)
     refine TO.lenVec (k := 0) rfl dc rfl rfl Try.underlying25 (TO.move rfl dc rfl (TO.nil (TX.next (TC.block (TC.newVec (enc := (encI (.i32))) (e := 21) (size := 1) ?_)))))
     show TC _ _ _ _ _ _ _ _ _ [vec (encI (.i32)) 21 1 v2 (runesOf a1), vec (encI (.i32)) 21 1 (.slice none 0 0) ([] : List Int)]
     refine TC.loopD (β := Nat × (List Int) × Int × Value) (fun b => loopG (fun _ _ => none) (law04_FoldAlike_s1 a1 j2) b.1 b.2.1 b.2.2.1 = some r) (fun b => []) (fun b => [(0, .string a1), (10, b.2.2.2), (66, v2), (67, .int .i64 ((runesOf a1).length : Int)), (68, .int .i64 b.2.2.1)]) (fun b => [vec (encI (.i32)) 21 1 b.2.2.2 b.2.1, vec (encI (.i32)) 21 1 v2 (runesOf a1)]) (fun b => b.1) (fuel, ([] : List Int), 0, (.slice none 0 0)) h rfl (Sbs.cons rfl (Sbs.cons rfl (Sbs.cons rfl (Sbs.cons rfl (Sbs.cons rfl (Sbs.nil)))))) (Splits.of [1, 0] kr rfl) ?_
     rintro ⟨n1, l4, x3, v5⟩ h
     cases n1 with
     | zero => exact noneE h
     | succ n1 =>
      obtain ⟨ag1, hag1⟩ : ∃ ag, ag = loopG (fun _ _ => none) (law04_FoldAlike_s1 a1 j2) n1 := ⟨_, rfl⟩
      have h : law04_FoldAlike_s1 a1 j2 ag1 l4 x3 = some r := by rw [hag1]; exact h
      unfold law04_FoldAlike_s1 at h
      show TC _ _ _ _ _ ([]) _ _ [(0, .string a1), (10, v5), (66, v2), (67, .int .i64 ((runesOf a1).length : Int)), (68, .int .i64 x3)] [vec (encI (.i32)) 21 1 v5 l4, vec (encI (.i32)) 21 1 v2 (runesOf a1)]
      refine TC.seq (TC.region (TO.bin rfl dc rfl rfl bin_lss (TO.nil (TX.next (TC.seq ?_)))))
      refine TC.condB rfl (fun hb25 => ?_) (fun hb25 => ?_)
      ·
       have h := condT hb25 h
       refine TC.skip (TX.next (TC.seq (TC.block (TC.seq (TC.region ?_)))))
       obtain ⟨q1, hq16, h⟩ := andE h
       refine TO.indexVecI (k := 1) hq16 Try.underlying25 sz_21 rfl dc rfl rfl rfl rfl (TO.loadVec (i := (x3 : Int).toNat) (j := 0) (k := 1) (q := q1) sc_21 encI_len rfl dc rfl rfl (getO_get hq16) rfl dc rfl (TO.assign rfl dc rfl (TO.nil (TX.next (TC.region (TO.move rfl dc rfl (TO.move rfl dc rfl ?_)))))))
       obtain ⟨r16, hq17, h⟩ := andE h
       refine TO.call (vs := [.int .i32 q1]) rfl dc rfl rfl rfl en_15 (fold_Split_fn hq17) Splits.nil ?_
       rintro v6
       show TO _ _ _ _ _ _ _ _ _ _ [vec (encI (.i32)) 21 1 v5 l4, vec (encI (.i32)) 21 1 v2 (runesOf a1), vec (encI (.i32)) 21 1 v6 r16]
       refine TO.vecVw (k := 2) rfl (fun hw1 => ?_)
       obtain ⟨hg4, h⟩ := grdE h
       refine TO.appendVw (k := 0) (k2 := 2) Try.underlying25 el_21 encI_len encI_one hw1 rfl dc rfl rfl rfl rfl hg4 (fun v7 => ?_)
       refine TO.assign rfl dc rfl (TO.nil (TX.blockNormal (TX.next (TC.region ?_))))
       obtain ⟨hg5, h⟩ := grdE h
       refine TO.bin rfl dc rfl rfl (bin_add (r := x3 + 1) (IntWalk.i64_in _ hg5)) (TO.move rfl dc rfl (TO.nil ?_))
       subst hag1
       exact TX.againD (n1, l4 ++ r16, x3 + 1, v7) h (Nat.lt_succ_self _) rfl (Sbs.cons rfl (Sbs.cons rfl (Sbs.cons rfl (Sbs.cons rfl (Sbs.cons rfl (Sbs.nil)))))) (Splits.of [0, 1] kr rfl)
      ·
       have h := condF hb25 h
       refine TC.exit (TX.thenExit (TX.thenExit (TX.blockHere ?_)))
       exact TX.meetD (l4, v5) h rfl (Sbs.cons rfl (Sbs.cons rfl (Sbs.nil))) (Splits.of [0] kr rfl)
    ·
     rintro ⟨l1, v1⟩ h
     rw [hj2] at h
     show TC _ _ _ _ _ ([]) _ _ [(0, .string a1), (10, v1)] [vec (encI (.i32)) 21 1 v1 l1]
     refine TC.seq (TC.region (TO.move rfl dc rfl (TO.runesStr (k := 0) rfl dc rfl rfl Try.underlying25 Try.underlying21 Try.underlying9 (TO.move rfl dc rfl ?_))))
     obtain ⟨hg6, h⟩ := grdE h
     refine TO.strRunes hg6 rfl dc rfl Try.underlying9 Try.underlying25 Try.underlying21 (fun v8 => ?_)
     refine TO.runesStr (k := 1) rfl dc rfl rfl Try.underlying25 Try.underlying21 Try.underlying9 ?_
     obtain ⟨r17, hq18, h⟩ := andE h
     refine TO.callP (v := .bool r17) (vs := [.string (strOf l1), .string (strOf (runesOf a1))]) rfl dc rfl rfl rfl en_13 (fold_Same_fn hq18) (TO.move rfl dc rfl ?_)
     refine TO.split (s := 83) rfl (fun hb26 => ?_) (fun hb26 => ?_)
     ·
      have h := condT hb26 h
      obtain ⟨r18, hq19, h⟩ := andE h
      refine TO.callP (v := .bool r18) (vs := []) rfl dc rfl rfl rfl en_12 (law04_wakes_fn hq19) (TO.pick (b := true) rfl dc rfl rfl (TO.assign rfl dc rfl (TO.nil (TX.next (TC.ret ?_)))))
      cases h
      exact TX.fin (rs := [.tmp 6]) () (.inl rfl) Try.results4 (.cons (.tmp rfl) .nil) rfl Splits.nil
     ·
      have h := condF hb26 h
      refine TO.skip rfl dc (TO.pick (b := false) rfl dc rfl rfl (TO.assign rfl dc rfl (TO.nil (TX.next (TC.ret ?_)))))
      cases h
      exact TX.fin (rs := [.tmp 6]) () (.inl rfl) Try.results4 (.cons (.tmp rfl) .nil) rfl Splits.nil
end Go.Proofs.Ythjkafeklflgbaa
namespace Go.Proofs.Ythjkafeklflgbaa
open Go.RowKit Go.Lib
set_option linter.unusedVariables false
set_option linter.unusedSimpArgs false
theorem foldAlike_v (a b c : ByteArray) (ha : a.size ≤ 140737488351232) (hb : b.size ≤ 140737488351232) (hc : c.size ≤ 140737488351232) : law04_FoldAlike_v a b c = some true := by
  unfold law04_FoldAlike_v
  refine thenI wakes_v (condFI rfl (grdI ⟨by omega, by omega⟩ (grdI ⟨by omega, by omega⟩ ?_)))
  by_cases h : (4096 : Int) < ((a.size : Int) + (b.size : Int)) + (c.size : Int)
  · exact condTI (decide_eq_true h) (thenI wakes_v rfl)
  · refine condFI (decide_eq_false h) ?_
    have hl := runesOf_len a
    have hv := runesOf_vr a
    have hpl : ∀ l : List Int, (l.flatMap parts).length ≤ 3 * l.length := by
      intro l
      induction l with
      | nil => simp
      | cons r l ih => have := (parts_len r).1; rw [List.flatMap_cons, List.length_append, List.length_cons]; omega
    have hx := strOf_size ((runesOf a).flatMap parts)
    have hy := strOf_size (runesOf a)
    have hz := hpl (runesOf a)
    have tail : (joinK (fun (j2 : (List Int) → Option Bool) => grd (a.size ≤ 1073741824) <| loopG (fun _ _ => none) (law04_FoldAlike_s1 a j2) fuel ([] : List Int) 0) (fun (l1 : List Int) =>
        grd (a.size ≤ 1073741824) <| andThen (fold_Same_v (strOf l1) (strOf (runesOf a))) fun (r17 : Bool) => bcond (r17) (andThen (law04_wakes_v) fun (r18 : Bool) => some r18) (some false))) = some true := by
      refine joinI (grdI (by omega) ((loop1 (xs := runesOf a) (f := fun l r => l ++ parts r) (J := fun (l1 : List Int) => grd (a.size ≤ 1073741824) <| andThen (fold_Same_v (strOf l1) (strOf (runesOf a))) fun (r17 : Bool) => bcond (r17) (andThen (law04_wakes_v) fun (r18 : Bool) => some r18) (some false)) (fun k l => l.length ≤ 3 * k) ?_ ?_ ?_ (big_fuel (by omega)) (by simp)).trans ?_))
      · intro ag k r l hr hi
        have hk := lp_lt' hr
        have := (parts_len r).1
        unfold law04_FoldAlike_s1
        exact condTI (lp_lt hr) (thenI (lp_get hr) (thenI (split_v r) (grdI (by omega) (grdI (lp_i64 (by omega)) rfl))))
      · intro k r l _ hi; have := (parts_len r).1; rw [List.length_append]; omega
      · intro ag l _; unfold law04_FoldAlike_s1; exact condFI lp_ge rfl
      · rw [fold_app parts, List.nil_append]
        exact grdI (by omega) (thenI (same_v _ _ (by omega) (by omega)) (condTI (decide_eq_true (fold_parts hv)) (thenI wakes_v rfl)))
    refine joinI (thenI (same_v a b (by omega) (by omega)) (thenI (same_v b c (by omega) (by omega)) (thenI (same_v a c (by omega) (by omega)) (thenI (same_v b a (by omega) (by omega)) ?_))))
    have hs : (decide (foldS a = foldS b) != decide (foldS b = foldS a)) = false := by
      rw [bne_eq_false_iff_eq, Bool.eq_iff_iff, decide_eq_true_eq, decide_eq_true_eq]; exact eq_comm
    have hcc : fold_Same_v c c = some true := (same_v c c (by omega) (by omega)).trans (congrArg some (decide_eq_true rfl))
    refine condFI hs ?_
    have fin := thenI (f := fun (r : Bool) => bcond (!r) (some false) _) hcc (condFI rfl tail)
    by_cases h1 : foldS a = foldS b
    · rw [decide_eq_true h1]
      refine condTI rfl ?_
      by_cases h2 : foldS b = foldS c
      · have h3 : foldS a = foldS c := h1.trans h2
        rw [decide_eq_true h2, decide_eq_true h3]
        exact condTI rfl (condFI rfl (condTI rfl (condTI rfl (condFI rfl fin))))
      · have h3 : ¬ foldS a = foldS c := fun e => h2 (h1.symm.trans e)
        rw [decide_eq_false h2, decide_eq_false h3]
        exact condFI rfl (condTI rfl (condFI rfl fin))
    · rw [decide_eq_false h1]
      exact condFI rfl (condFI rfl fin)
theorem foldAlike_any (a b c : ByteArray) (w : World) (ha : a.size ≤ 140737488351232) (hb : b.size ≤ 140737488351232) (hc : c.size ≤ 140737488351232) : Calls Try.prog 4 #[.string a, .string b, .string c] w fun e w' => e = .returned (.bool true) ∧ Below w.heap.size w w' :=
  law04_FoldAlike_fn (foldAlike_v a b c ha hb hc) w
end Go.Proofs.Ythjkafeklflgbaa
