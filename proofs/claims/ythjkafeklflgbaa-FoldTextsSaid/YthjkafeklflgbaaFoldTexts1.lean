/-
  Texts laid together: Qw, Qk, LfW0, LfW1, LfSa, LfFa, Qi, LfG2, LfW3, LfSg, LfF2, Qj, LfFoldTexts, PlFoldTexts. Nothing is assumed.
-/
import Derived.Test.YthjkafeklflgbaaFb5
import Derived.Test.YthjkafeklflgbaaFb4
import Derived.Test.YthjkafeklflgbaaFb3
namespace Go.Proofs.Ythjkafeklflgbaa
open Go.RowKit Go.Lib
set_option linter.unusedVariables false
set_option linter.unusedSimpArgs false
set_option maxRecDepth 100000 in
theorem wake1 : foldS ⟨#[83, 116, 114, 97, 195, 159, 101, 204, 129]⟩ = ⟨#[115, 116, 114, 97, 115, 115, 101]⟩ := by decide +kernel
set_option maxRecDepth 100000 in
theorem wake2 : foldS ⟨#[195, 137]⟩ = foldS ⟨#[101]⟩ := by decide +kernel
theorem wakes_v : law04_wakes_v = some true :=
  thenI ((fold_v _ (by decide)).trans (congrArg some wake1)) (condTI (decide_eq_true rfl) (thenI (same_v _ _ (by decide) (by decide)) (congrArg some (decide_eq_true wake2))))
theorem cut_le (s : ByteArray) (n : Nat) : (cutB s 0 (min (s.size : Int) n)).size ≤ n := by
  unfold cutB; rw [ByteArray.size_extract]; omega
theorem cut_le' (s : ByteArray) (n : Nat) : (cutB s 0 (n : Int)).size ≤ n := by
  unfold cutB; rw [ByteArray.size_extract]; omega
end Go.Proofs.Ythjkafeklflgbaa
namespace Go.Proofs.Ythjkafeklflgbaa
open Go.RowKit Go.Lib
set_option linter.unusedVariables false
set_option linter.unusedSimpArgs false
theorem strOf_size (l : List Int) : (strOf l).size ≤ l.length * 4 := by rw [strOf_J]; exact J_size _ 4 fun x _ => enc_size4 x
def strip (x : Itm) : Itm := ⟨x.Rune, x.Text, 0⟩
def stripC (c : Itm × List Itm) : Itm × List Itm := (strip c.1, c.2.map strip)
theorem isL_strip (x : Itm) : isL (strip x) = isL x := rfl
theorem isM_strip (x : Itm) : isM (strip x) = isM x := rfl
theorem clF_strip : ∀ (xs : List Itm) (cur : Option (Itm × List Itm)), clF (cur.map stripC) (xs.map strip) = (clF cur xs).map stripC
  | [], none => rfl
  | [], some c => rfl
  | x :: xs, none => clF_strip xs (some (x, []))
  | x :: xs, some c => by
    show (if isL (strip c.1) && isM (strip x) then clF (some (strip c.1, c.2.map strip ++ [strip x])) (xs.map strip) else stripC c :: clF (some (strip x, [])) (xs.map strip)) = (if isL c.1 && isM x then clF (some (c.1, c.2 ++ [x])) xs else c :: clF (some (x, [])) xs).map stripC
    rw [isL_strip, isM_strip]
    have h1 := clF_strip xs (some (c.1, c.2 ++ [x]))
    have h2 := clF_strip xs (some (x, []))
    simp only [Option.map_some, stripC, List.map_append, List.map_cons, List.map_nil] at h1 h2
    split
    · exact h1
    · rw [List.map_cons, ← h2]
theorem cl_strip (xs : List Itm) : cl (xs.map strip) = (cl xs).map stripC := clF_strip xs none
theorem apI_strip (x : Itm) : apI (strip x) = (apI x).map strip := by
  unfold apI
  rw [isL_strip]
  split
  · rw [List.map_map]; rfl
  · rfl
theorem apL_strip (xs : List Itm) : apL (xs.map strip) = (apL xs).map strip := by
  unfold apL
  induction xs with
  | nil => rfl
  | cons x xs ih => rw [List.map_cons, List.flatMap_cons, List.flatMap_cons, List.map_append, ih, apI_strip]
theorem foldC_strip (c : Itm × List Itm) : foldC (stripC c) = foldC c := by
  unfold foldC foldI stripC
  rw [isL_strip]
  split <;> rfl
/-- A token as an item. -/
def tokI (t : Tok) : Itm := ⟨if t.broken then -1 else (t.r : Int), ⟨t.bs.toArray⟩, 0⟩
def clT (ts : List Tok) : List (Itm × List Itm) := cl (apL (ts.map tokI))
def FT (ts : List Tok) : ByteArray := J foldC (clT ts)
theorem items_place (s : ByteArray) : ∀ (ts pre : List Tok), s.data.toList = flat (pre ++ ts) → ((place (flat pre).length ts).map (itG s)).map strip = ts.map tokI
  | [], pre, _ => rfl
  | t :: ts, pre, h => by
    have e : (flat pre).length + t.bs.length = (flat (pre ++ [t])).length := by rw [flat_append, List.length_append]; simp [flat]
    show strip (itG s ⟨(flat pre).length, t.bs.length, t.r⟩) :: ((place ((flat pre).length + t.bs.length) ts).map (itG s)).map strip = _
    rw [e, items_place s ts (pre ++ [t]) (by rw [h]; simp), List.map_cons]
    congr 1
    unfold strip itG tokI
    have hb : (⟨(flat pre).length, t.bs.length, t.r⟩ : Pc).broken = t.broken := rfl
    rw [hb]
    have ht : s.extract (flat pre).length ((flat pre).length + t.bs.length) = ⟨t.bs.toArray⟩ := by
      apply ByteArray.ext; apply Array.toList_inj.1
      rw [Lib.extract_data, h, flat_append, flat_cons]
      simp
    simp only [ht]
theorem items_toks (s : ByteArray) : (itemsP s).map strip = (toks s.data.toList).map tokI := by
  unfold itemsP pcs
  rw [pcs_place]
  have := items_place s (toks s.data.toList) [] (by rw [List.nil_append, flat_toks])
  exact this
theorem clus_strip (s : ByteArray) : (clus s).map stripC = clT (toks s.data.toList) := by
  unfold clT clus
  rw [← items_toks, apL_strip, cl_strip]
theorem foldS_toks (s : ByteArray) : foldS s = FT (toks s.data.toList) := by
  unfold foldS FT
  rw [← clus_strip, J_map]
  exact J_congr fun c _ => (foldC_strip c).symm
/-- The item of a rune. -/
def mkI (r : Int) : Itm := ⟨r, Utf8.encode r, 0⟩
theorem tokI_valid {t : Tok} (h : t.valid) : tokI t = mkI (t.r : Int) := by
  unfold tokI mkI
  rw [valid_not_broken h]
  have : (⟨t.bs.toArray⟩ : ByteArray) = Utf8.encode (t.r : Int) := by
    apply ByteArray.ext; apply Array.toList_inj.1
    rw [encode_list, ← h.2]
  rw [this]; rfl
theorem parts_other {r : Int} (h : letter r = false) : parts r = [r] := by
  unfold parts
  cases e : getM r tabS with
  | none => rfl
  | some p => have := (tabS_rng e).2.2; rw [h] at this; cases this
theorem apI_mk (r : Int) : apI (mkI r) = (parts r).map mkI := by
  unfold apI
  cases h : isL (mkI r) with
  | true => rfl
  | false => rw [parts_other (show letter r = false from h)]; rfl
theorem apL_mk (rs : List Int) : apL (rs.map mkI) = (rs.flatMap parts).map mkI := by
  unfold apL
  induction rs with
  | nil => rfl
  | cons r rs ih => rw [List.map_cons, List.flatMap_cons, List.flatMap_cons, List.map_append, ih, apI_mk]
theorem parts_parts {r x : Int} (h : x ∈ parts r) : parts x = [x] := by
  cases hL : letter r with
  | false =>
    rw [parts_other hL] at h
    simp at h; subst h; exact parts_other hL
  | true =>
    obtain ⟨b, ms, hq, hb, hn, hms, _⟩ := parts_shape hL
    rw [hq] at h
    rcases List.mem_cons.1 h with rfl | h
    · unfold parts; rw [hn]
    · exact parts_other (mrk_not_letter (hms x h))
theorem parts_twice (rs : List Int) : (rs.flatMap parts).flatMap parts = rs.flatMap parts := by
  rw [List.flatMap_assoc]
  congr 1
  funext r
  have : ∀ l : List Int, (∀ x ∈ l, parts x = [x]) → l.flatMap parts = l := by
    intro l
    induction l with
    | nil => intro _; rfl
    | cons y l ih => intro h; rw [List.flatMap_cons, h y (List.mem_cons_self ..), ih (fun z hz => h z (List.mem_cons_of_mem _ hz))]; rfl
  exact this _ fun x hx => parts_parts hx
/-- The tokens of a text of runes. -/
def tokR (r : Int) : Tok := ⟨r.toNat, encodeRune r⟩
theorem tokR_valid {r : Int} (h : vr r) : (tokR r).valid := by
  unfold vr at h
  refine ⟨?_, ?_⟩
  · show r.toNat < 55296 ∨ _; simp only [tokR]; omega
  · show encodeRune r = encodeRune ((r.toNat : Nat) : Int)
    rw [show ((r.toNat : Nat) : Int) = r by omega]
theorem strOf_toks {rs : List Int} (h : ∀ r ∈ rs, vr r) : toks (strOf rs).data.toList = rs.map tokR := by
  have e : (strOf rs).data.toList = flat (rs.map tokR) := by
    rw [strOf_J]
    clear h
    induction rs with
    | nil => rfl
    | cons r rs ih =>
      rw [J_cons, List.map_cons, flat_cons, ← ih]
      have : (Utf8.encode r).data.toList = encodeRune r := encode_list r
      show (Utf8.encode r ++ J Utf8.encode rs).data.toList = encodeRune r ++ _
      rw [← this]; simp
  rw [e]
  have := toks_valids (vs := rs.map tokR) (fun t ht => by obtain ⟨r, hr, rfl⟩ := List.mem_map.1 ht; exact tokR_valid (h r hr)) []
  simpa [toks_nil] using this
theorem foldS_str {rs : List Int} (h : ∀ r ∈ rs, vr r) : foldS (strOf rs) = J foldC (cl ((rs.flatMap parts).map mkI)) := by
  rw [foldS_toks, strOf_toks h]
  unfold FT clT
  have : (rs.map tokR).map tokI = rs.map mkI := by
    rw [List.map_map]
    refine List.map_congr_left fun r hr => ?_
    have hv := h r hr
    show tokI (tokR r) = mkI r
    rw [tokI_valid (tokR_valid hv)]
    show mkI ((r.toNat : Nat) : Int) = mkI r
    rw [show ((r.toNat : Nat) : Int) = r by unfold vr at hv; omega]
  rw [this, apL_mk]
theorem parts_vr {r : Int} (h : vr r) : ∀ x ∈ parts r, vr x := by
  intro x hx
  cases hL : letter r with
  | false => rw [parts_other hL] at hx; simp at hx; subst hx; exact h
  | true =>
    obtain ⟨b, ms, hq, hb, hn, hms, _⟩ := parts_shape hL
    rw [hq] at hx
    rcases List.mem_cons.1 hx with rfl | hx
    · have := letter_rng _ hb; unfold vr; omega
    · have := hms x hx; unfold mrk at this; simp at this; unfold vr; omega
theorem runesOf_vr (s : ByteArray) : ∀ r ∈ runesOf s, vr r := by
  intro r hr
  unfold runesOf at hr
  obtain ⟨p, hp, rfl⟩ := List.mem_map.1 hr
  obtain ⟨g1, g2, hok⟩ := pcs_pos s.data.toList p hp
  have := hok.valid
  unfold vr; omega
theorem fold_parts {rs : List Int} (h : ∀ r ∈ rs, vr r) : foldS (strOf (rs.flatMap parts)) = foldS (strOf rs) := by
  rw [foldS_str h, foldS_str (fun x hx => by obtain ⟨r, hr, hx⟩ := List.mem_flatMap.1 hx; exact parts_vr (h r hr) x hx), parts_twice]
end Go.Proofs.Ythjkafeklflgbaa
namespace Go.Proofs.Ythjkafeklflgbaa
open Go.RowKit Go.Lib
set_option linter.unusedVariables false
set_option linter.unusedSimpArgs false
def fold_written_Bare_1_s1 (l1 : List Gfold_unit) (j1 : ByteArray → Option ByteArray) (ag1 : ByteArray → Int → Option ByteArray) (b4 : ByteArray) (x3 : Int) : Option ByteArray := bcond (decide ((x3 : Int) < (l1.length : Int))) ( joinK (fun (j2 : ByteArray → Option ByteArray) => andThen (getO l1 x3) fun (x4 : Gfold_unit) => bcond (decide ((x4.base : Int) < 0)) ( grd (b4.size + 1 ≤ 140737488355328) <| grd (∀ x ∈ ([x4.broken] : List Int), U8 x) <| j2 (b4 ++ (bytesOf [x4.broken]))
) ( andThen (fold_Bare_1_v x4) fun (r1 : ByteArray) => grd (b4.size + r1.size ≤ 140737488355328) <| j2 (b4 ++ r1)
)
) (fun (b5 : ByteArray) => grd (I64 (x3 + 1)) <| ag1 b5 (x3 + 1)
)
) ( j1 b4
)
def fold_written_Bare_1_v (l1 : List Gfold_unit) : Option ByteArray := joinK (fun (j1 : ByteArray → Option ByteArray) => loopG (fun _ _ => none) (fold_written_Bare_1_s1 l1 j1) fuel ByteArray.empty 0
) (fun (b1 : ByteArray) => some b1
)
set_option maxRecDepth 100000 in
set_option maxHeartbeats 4000000 in
theorem fold_written_Bare_1_fn {vvl1 vl1 : Value} {Zl1 : List (Gfold_unit × Hd × Hd)} {kl1 : Nat} {zl1 : List (Gfold_unit × Hd × Hd)} {l1 : List Gfold_unit} (hwl1 : Vw vvl1 Zl1 5 kl1 vl1 zl1) (hzl1 : zl1.map Prod.fst = l1) {r : ByteArray} (h : fold_written_Bare_1_v l1 = some r) : Fn Try.prog 46 [vl1, .func (.func 56) #[] #[]] [vec encN_Gfold_unit 73 5 vvl1 Zl1, own nest_Gfold_unit Zl1] (fun _b : Unit => .string r) (fun _b => [vec encN_Gfold_unit 73 5 vvl1 Zl1, own nest_Gfold_unit Zl1]) := by
 unfold fold_written_Bare_1_v at h
 refine Fn.intro Try.func46 rfl Try.ntmps46 (by simp) ?_
 intro w0 K
 obtain ⟨j1, hj1, h⟩ := joinE h
 refine TC.cutN (β := ByteArray × Value) 2 rfl (fun b => j1 b.1 = some r) (fun b => []) (fun b => [(5, b.2)]) (fun b => [vec encN_Gfold_unit 73 5 vvl1 Zl1, own nest_Gfold_unit Zl1, byt 5 b.2 b.1]) (fun cut => ?_) ?_
 ·
  refine TC.seq (TC.region (TO.assign rfl dc rfl (TO.nil (TX.next (TC.seq (TC.region (TO.assign rfl dc rfl (TO.nil (TX.next (cut (TC.seq (TC.region (TO.move rfl dc rfl ?_)))))))))))))
  refine TO.lenVwZ hzl1 hwl1 rfl dc rfl Try.underlying70 (TO.move rfl dc rfl (TO.nil (TX.next (TC.block (TC.newByt (e := 5) ?_)))))
  show TC _ _ _ _ _ _ _ _ _ [vec encN_Gfold_unit 73 5 vvl1 Zl1, own nest_Gfold_unit Zl1, byt 5 (.slice none 0 0) ByteArray.empty]
  refine TC.loopD (β := Nat × ByteArray × Int × Value) (fun b => loopG (fun _ _ => none) (fold_written_Bare_1_s1 l1 j1) b.1 b.2.1 b.2.2.1 = some r) (fun b => []) (fun b => [(1, .func (.func 56) #[] #[]), (5, b.2.2.2), (8, vl1), (9, .int .i64 (l1.length : Int)), (10, .int .i64 b.2.2.1)]) (fun b => [vec encN_Gfold_unit 73 5 vvl1 Zl1, own nest_Gfold_unit Zl1, byt 5 b.2.2.2 b.2.1]) (fun b => b.1) (fuel, ByteArray.empty, 0, (.slice none 0 0)) h rfl (Sbs.cons rfl (Sbs.cons rfl (Sbs.cons rfl (Sbs.cons rfl (Sbs.cons rfl (Sbs.nil)))))) (Splits.of [0, 1, 2] kr rfl) ?_
  rintro ⟨n1, b4, x3, v4⟩ h
  cases n1 with
  | zero => exact noneE h
  | succ n1 =>
   obtain ⟨ag1, hag1⟩ : ∃ ag, ag = loopG (fun _ _ => none) (fold_written_Bare_1_s1 l1 j1) n1 := ⟨_, rfl⟩
   have h : fold_written_Bare_1_s1 l1 j1 ag1 b4 x3 = some r := by rw [hag1]; exact h
   unfold fold_written_Bare_1_s1 at h
   show TC _ _ _ _ _ ([]) _ _ [(1, .func (.func 56) #[] #[]), (5, v4), (8, vl1), (9, .int .i64 (l1.length : Int)), (10, .int .i64 x3)] [vec encN_Gfold_unit 73 5 vvl1 Zl1, own nest_Gfold_unit Zl1, byt 5 v4 b4]
   refine TC.seq (TC.region (TO.bin rfl dc rfl rfl bin_lss (TO.nil (TX.next (TC.seq ?_)))))
   refine TC.condB rfl (fun hb1 => ?_) (fun hb1 => ?_)
   ·
    have h := condT hb1 h
    refine TC.skip (TX.next ?_)
    obtain ⟨j2, hj2, h⟩ := joinE h
    refine TC.cutN (β := ByteArray × Value) 0 rfl (fun b => j2 b.1 = some r) (fun b => []) (fun b => [(1, .func (.func 56) #[] #[]), (5, b.2), (8, vl1), (9, .int .i64 (l1.length : Int)), (10, .int .i64 x3)]) (fun b => [vec encN_Gfold_unit 73 5 vvl1 Zl1, own nest_Gfold_unit Zl1, byt 5 b.2 b.1]) (fun cut => ?_) ?_
    ·
     refine cut (TC.block (TC.seq (TC.region ?_)))
     obtain ⟨x4, hq1, h⟩ := andE h
     obtain ⟨⟨eh1, eh2⟩, eq1⟩ := getO_z hzl1 hq1
     refine TO.indexVw hwl1 eq1 Try.underlying70 sz_73 rfl dc rfl rfl rfl (TO.loadsVec (i := kl1 + (x3 : Int).toNat) (j := 0) (k := 0) (q := (x4, (eh1, eh2))) (cs := [.int .i64 x4.at_, .int .u8 x4.broken, .int .i32 x4.base, eh1.v, eh2.v]) rw_73 encN_Gfold_unit_len rfl dc rfl rfl (Vw.get hwl1 eq1) rfl rfl rfl ?_)
     refine TO.alloc zr_73 rfl dc (fun b6 => ?_)
     refine TO.stores (k := 3) (vs := [.int .i64 x4.at_, .int .u8 x4.broken, .int .i32 x4.base, eh1.v, eh2.v]) (l' := [.int .i64 x4.at_, .int .u8 x4.broken, .int .i32 x4.base, eh1.v, eh2.v]) sz_73 rfl rfl rfl rfl rfl (show _ ≤ _ by simp) rfl rfl ?_
     show TO _ _ _ _ _ _ _ _ _ _ [vec encN_Gfold_unit 73 5 vvl1 Zl1, own nest_Gfold_unit Zl1, byt 5 v4 b4, cells b6 [.int .i64 x4.at_, .int .u8 x4.broken, .int .i32 x4.base, eh1.v, eh2.v] 73]
     refine TO.nil (TX.next (TC.seq (TC.region (TO.fieldAddr fl_73_2 rfl dc rfl (show _ = 2 from rfl) (TO.load (k := 3) sc_21 rfl dc rfl rfl rfl (TO.bin rfl dc rfl rfl bin_lss (TO.nil (TX.next ?_))))))))
     refine TC.condB rfl (fun hb2 => ?_) (fun hb2 => ?_)
     ·
      have h := condT hb2 h
      refine TC.region (TO.move rfl dc rfl (TO.fieldAddr fl_73_1 rfl dc rfl (show _ = 1 from rfl) (TO.load (k := 3) sc_5 rfl dc rfl rfl rfl ?_)))
      refine TO.buildSlice (cs := [.int .u8 x4.broken]) (te := 5) (ps := [(0, .tmp 19)]) rfl dc rfl (fun _ => by kernel_rfl) (fun b7 => ?_)
      obtain ⟨hg1, h⟩ := grdE h
      obtain ⟨hg2, h⟩ := grdE h
      refine TO.appendByt (k := 2) (k2 := 4) (ys := (bytesOf [x4.broken])) Try.underlying69 by_5 rfl dc rfl rfl rfl rfl (strCells_of hg2) rfl hg1 (fun v6 => ?_)
      show TO _ _ _ _ _ _ _ _ _ _ [vec encN_Gfold_unit 73 5 vvl1 Zl1, own nest_Gfold_unit Zl1, byt 5 v6 (b4 ++ (bytesOf [x4.broken])), cells b6 [.int .i64 x4.at_, .int .u8 x4.broken, .int .i32 x4.base, eh1.v, eh2.v] 73, cells b7 [.int .u8 x4.broken] 5]
      refine TO.assign rfl dc rfl (TO.nil (TX.blockNormal ?_))
      exact TX.meetD (b4 ++ (bytesOf [x4.broken]), v6) h rfl (Sbs.cons rfl (Sbs.cons rfl (Sbs.cons rfl (Sbs.cons rfl (Sbs.cons rfl (Sbs.nil)))))) (Splits.of [0, 1, 2] kr rfl)
     ·
      have h := condF hb2 h
      refine TC.region (TO.move rfl dc rfl (TO.move rfl dc rfl (TO.loads (k := 3) (cs := [.int .i64 x4.at_, .int .u8 x4.broken, .int .i32 x4.base, eh1.v, eh2.v]) rw_73 rfl dc rfl rfl rfl rfl ?_)))
      refine TO.unfold1 (k := 1) rfl (pullE (Vw.get hwl1 eq1)) (fun _ _ => ?_)
      show TO _ _ _ _ _ _ _ _ _ _ [vec encN_Gfold_unit 73 5 vvl1 Zl1, own nest_Gfold_unit (Zl1.eraseIdx (kl1 + (x3 : Int).toNat)), byt 5 v4 b4, cells b6 [.int .i64 x4.at_, .int .u8 x4.broken, .int .i32 x4.base, eh1.v, eh2.v] 73, vec (encI (.i32)) 21 1 eh1.v x4.low, vec (encI (.i32)) 21 1 eh2.v x4.high]
      obtain ⟨r1, hq2, h⟩ := andE h
      refine TO.callK (v := .string r1) (vs := [.agg #[.int .i64 x4.at_, .int .u8 x4.broken, .int .i32 x4.base, eh1.v, eh2.v]]) rfl dc rfl rfl rfl en_56 (fold_Bare_1_fn (u1 := x4) (u1_h0 := eh1) (u1_h1 := eh2) hq2) [4, 5] kr rfl ?_
      obtain ⟨hg3, h⟩ := grdE h
      refine TO.appendStr (k := 2) Try.underlying69 Try.underlying9 by_5 rfl dc rfl rfl rfl hg3 (fun v7 => ?_)
      refine TO.assign rfl dc rfl (TO.nil (TX.blockNormal (TX.fold1 (k := 1) rfl (Splits.of [4, 5] kr rfl) rfl (pushE (nest := nest_Gfold_unit) (Vw.get hwl1 eq1) rfl) ?_)))
      show TX _ _ _ _ _ _ _ [vec encN_Gfold_unit 73 5 vvl1 Zl1, own nest_Gfold_unit Zl1, byt 5 v7 (b4 ++ r1), cells b6 [.int .i64 x4.at_, .int .u8 x4.broken, .int .i32 x4.base, eh1.v, eh2.v] 73, emp, emp]
      exact TX.meetD (b4 ++ r1, v7) h rfl (Sbs.cons rfl (Sbs.cons rfl (Sbs.cons rfl (Sbs.cons rfl (Sbs.cons rfl (Sbs.nil)))))) (Splits.of [0, 1, 2] kr rfl)
    ·
     rintro ⟨b5, v5⟩ h
     rw [hj2] at h
     show TC _ _ _ _ _ ([]) _ _ [(1, .func (.func 56) #[] #[]), (5, v5), (8, vl1), (9, .int .i64 (l1.length : Int)), (10, .int .i64 x3)] [vec encN_Gfold_unit 73 5 vvl1 Zl1, own nest_Gfold_unit Zl1, byt 5 v5 b5]
     refine TC.region ?_
     obtain ⟨hg4, h⟩ := grdE h
     refine TO.bin rfl dc rfl rfl (bin_add (r := x3 + 1) (IntWalk.i64_in _ hg4)) (TO.move rfl dc rfl (TO.nil ?_))
     subst hag1
     exact TX.againD (n1, b5, x3 + 1, v5) h (Nat.lt_succ_self _) rfl (Sbs.cons rfl (Sbs.cons rfl (Sbs.cons rfl (Sbs.cons rfl (Sbs.cons rfl (Sbs.nil)))))) (Splits.of [0, 1, 2] kr rfl)
   ·
    have h := condF hb1 h
    refine TC.exit (TX.thenExit (TX.thenExit (TX.blockHere ?_)))
    exact TX.meetD (b4, v4) h rfl (Sbs.cons rfl (Sbs.nil)) (Splits.of [0, 1, 2] kr rfl)
 ·
  rintro ⟨b1, v1⟩ h
  rw [hj1] at h
  show TC _ _ _ _ _ ([]) _ _ [(5, v1)] [vec encN_Gfold_unit 73 5 vvl1 Zl1, own nest_Gfold_unit Zl1, byt 5 v1 b1]
  refine TC.seq (TC.region (TO.move rfl dc rfl (TO.bytStr (k := 2) rfl dc rfl rfl Try.underlying69 Try.underlying5 Try.underlying9 (TO.assign rfl dc rfl (TO.nil (TX.next (TC.ret ?_)))))))
  cases h
  exact TX.fin (rs := [.tmp 4]) () (.inl rfl) Try.results46 (.cons (.tmp rfl) .nil) rfl (Splits.of [0, 1] kr rfl)
end Go.Proofs.Ythjkafeklflgbaa
namespace Go.Proofs.Ythjkafeklflgbaa
open Go.RowKit Go.Lib
set_option linter.unusedVariables false
set_option linter.unusedSimpArgs false
def fold_written_Apart_1_s1 (l1 : List Gfold_unit) (j1 : ByteArray → Option ByteArray) (ag1 : ByteArray → Int → Option ByteArray) (b4 : ByteArray) (x3 : Int) : Option ByteArray := bcond (decide ((x3 : Int) < (l1.length : Int))) ( joinK (fun (j2 : ByteArray → Option ByteArray) => andThen (getO l1 x3) fun (x4 : Gfold_unit) => bcond (decide ((x4.base : Int) < 0)) ( grd (b4.size + 1 ≤ 140737488355328) <| grd (∀ x ∈ ([x4.broken] : List Int), U8 x) <| j2 (b4 ++ (bytesOf [x4.broken]))
) ( andThen (fold_Apart_1_v x4) fun (r1 : ByteArray) => grd (b4.size + r1.size ≤ 140737488355328) <| j2 (b4 ++ r1)
)
) (fun (b5 : ByteArray) => grd (I64 (x3 + 1)) <| ag1 b5 (x3 + 1)
)
) ( j1 b4
)
def fold_written_Apart_1_v (l1 : List Gfold_unit) : Option ByteArray := joinK (fun (j1 : ByteArray → Option ByteArray) => loopG (fun _ _ => none) (fold_written_Apart_1_s1 l1 j1) fuel ByteArray.empty 0
) (fun (b1 : ByteArray) => some b1
)
set_option maxRecDepth 100000 in
set_option maxHeartbeats 4000000 in
theorem fold_written_Apart_1_fn {vvl1 vl1 : Value} {Zl1 : List (Gfold_unit × Hd × Hd)} {kl1 : Nat} {zl1 : List (Gfold_unit × Hd × Hd)} {l1 : List Gfold_unit} (hwl1 : Vw vvl1 Zl1 5 kl1 vl1 zl1) (hzl1 : zl1.map Prod.fst = l1) {r : ByteArray} (h : fold_written_Apart_1_v l1 = some r) : Fn Try.prog 46 [vl1, .func (.func 48) #[] #[]] [vec encN_Gfold_unit 73 5 vvl1 Zl1, own nest_Gfold_unit Zl1] (fun _b : Unit => .string r) (fun _b => [vec encN_Gfold_unit 73 5 vvl1 Zl1, own nest_Gfold_unit Zl1]) := by
 unfold fold_written_Apart_1_v at h
 refine Fn.intro Try.func46 rfl Try.ntmps46 (by simp) ?_
 intro w0 K
 obtain ⟨j1, hj1, h⟩ := joinE h
 refine TC.cutN (β := ByteArray × Value) 2 rfl (fun b => j1 b.1 = some r) (fun b => []) (fun b => [(5, b.2)]) (fun b => [vec encN_Gfold_unit 73 5 vvl1 Zl1, own nest_Gfold_unit Zl1, byt 5 b.2 b.1]) (fun cut => ?_) ?_
 ·
  refine TC.seq (TC.region (TO.assign rfl dc rfl (TO.nil (TX.next (TC.seq (TC.region (TO.assign rfl dc rfl (TO.nil (TX.next (cut (TC.seq (TC.region (TO.move rfl dc rfl ?_)))))))))))))
  refine TO.lenVwZ hzl1 hwl1 rfl dc rfl Try.underlying70 (TO.move rfl dc rfl (TO.nil (TX.next (TC.block (TC.newByt (e := 5) ?_)))))
  show TC _ _ _ _ _ _ _ _ _ [vec encN_Gfold_unit 73 5 vvl1 Zl1, own nest_Gfold_unit Zl1, byt 5 (.slice none 0 0) ByteArray.empty]
  refine TC.loopD (β := Nat × ByteArray × Int × Value) (fun b => loopG (fun _ _ => none) (fold_written_Apart_1_s1 l1 j1) b.1 b.2.1 b.2.2.1 = some r) (fun b => []) (fun b => [(1, .func (.func 48) #[] #[]), (5, b.2.2.2), (8, vl1), (9, .int .i64 (l1.length : Int)), (10, .int .i64 b.2.2.1)]) (fun b => [vec encN_Gfold_unit 73 5 vvl1 Zl1, own nest_Gfold_unit Zl1, byt 5 b.2.2.2 b.2.1]) (fun b => b.1) (fuel, ByteArray.empty, 0, (.slice none 0 0)) h rfl (Sbs.cons rfl (Sbs.cons rfl (Sbs.cons rfl (Sbs.cons rfl (Sbs.cons rfl (Sbs.nil)))))) (Splits.of [0, 1, 2] kr rfl) ?_
  rintro ⟨n1, b4, x3, v4⟩ h
  cases n1 with
  | zero => exact noneE h
  | succ n1 =>
   obtain ⟨ag1, hag1⟩ : ∃ ag, ag = loopG (fun _ _ => none) (fold_written_Apart_1_s1 l1 j1) n1 := ⟨_, rfl⟩
   have h : fold_written_Apart_1_s1 l1 j1 ag1 b4 x3 = some r := by rw [hag1]; exact h
   unfold fold_written_Apart_1_s1 at h
   show TC _ _ _ _ _ ([]) _ _ [(1, .func (.func 48) #[] #[]), (5, v4), (8, vl1), (9, .int .i64 (l1.length : Int)), (10, .int .i64 x3)] [vec encN_Gfold_unit 73 5 vvl1 Zl1, own nest_Gfold_unit Zl1, byt 5 v4 b4]
   refine TC.seq (TC.region (TO.bin rfl dc rfl rfl bin_lss (TO.nil (TX.next (TC.seq ?_)))))
   refine TC.condB rfl (fun hb1 => ?_) (fun hb1 => ?_)
   ·
    have h := condT hb1 h
    refine TC.skip (TX.next ?_)
    obtain ⟨j2, hj2, h⟩ := joinE h
    refine TC.cutN (β := ByteArray × Value) 0 rfl (fun b => j2 b.1 = some r) (fun b => []) (fun b => [(1, .func (.func 48) #[] #[]), (5, b.2), (8, vl1), (9, .int .i64 (l1.length : Int)), (10, .int .i64 x3)]) (fun b => [vec encN_Gfold_unit 73 5 vvl1 Zl1, own nest_Gfold_unit Zl1, byt 5 b.2 b.1]) (fun cut => ?_) ?_
    ·
     refine cut (TC.block (TC.seq (TC.region ?_)))
     obtain ⟨x4, hq1, h⟩ := andE h
     obtain ⟨⟨eh1, eh2⟩, eq1⟩ := getO_z hzl1 hq1
     refine TO.indexVw hwl1 eq1 Try.underlying70 sz_73 rfl dc rfl rfl rfl (TO.loadsVec (i := kl1 + (x3 : Int).toNat) (j := 0) (k := 0) (q := (x4, (eh1, eh2))) (cs := [.int .i64 x4.at_, .int .u8 x4.broken, .int .i32 x4.base, eh1.v, eh2.v]) rw_73 encN_Gfold_unit_len rfl dc rfl rfl (Vw.get hwl1 eq1) rfl rfl rfl ?_)
     refine TO.alloc zr_73 rfl dc (fun b6 => ?_)
     refine TO.stores (k := 3) (vs := [.int .i64 x4.at_, .int .u8 x4.broken, .int .i32 x4.base, eh1.v, eh2.v]) (l' := [.int .i64 x4.at_, .int .u8 x4.broken, .int .i32 x4.base, eh1.v, eh2.v]) sz_73 rfl rfl rfl rfl rfl (show _ ≤ _ by simp) rfl rfl ?_
     show TO _ _ _ _ _ _ _ _ _ _ [vec encN_Gfold_unit 73 5 vvl1 Zl1, own nest_Gfold_unit Zl1, byt 5 v4 b4, cells b6 [.int .i64 x4.at_, .int .u8 x4.broken, .int .i32 x4.base, eh1.v, eh2.v] 73]
     refine TO.nil (TX.next (TC.seq (TC.region (TO.fieldAddr fl_73_2 rfl dc rfl (show _ = 2 from rfl) (TO.load (k := 3) sc_21 rfl dc rfl rfl rfl (TO.bin rfl dc rfl rfl bin_lss (TO.nil (TX.next ?_))))))))
     refine TC.condB rfl (fun hb2 => ?_) (fun hb2 => ?_)
     ·
      have h := condT hb2 h
      refine TC.region (TO.move rfl dc rfl (TO.fieldAddr fl_73_1 rfl dc rfl (show _ = 1 from rfl) (TO.load (k := 3) sc_5 rfl dc rfl rfl rfl ?_)))
      refine TO.buildSlice (cs := [.int .u8 x4.broken]) (te := 5) (ps := [(0, .tmp 19)]) rfl dc rfl (fun _ => by kernel_rfl) (fun b7 => ?_)
      obtain ⟨hg1, h⟩ := grdE h
      obtain ⟨hg2, h⟩ := grdE h
      refine TO.appendByt (k := 2) (k2 := 4) (ys := (bytesOf [x4.broken])) Try.underlying69 by_5 rfl dc rfl rfl rfl rfl (strCells_of hg2) rfl hg1 (fun v6 => ?_)
      show TO _ _ _ _ _ _ _ _ _ _ [vec encN_Gfold_unit 73 5 vvl1 Zl1, own nest_Gfold_unit Zl1, byt 5 v6 (b4 ++ (bytesOf [x4.broken])), cells b6 [.int .i64 x4.at_, .int .u8 x4.broken, .int .i32 x4.base, eh1.v, eh2.v] 73, cells b7 [.int .u8 x4.broken] 5]
      refine TO.assign rfl dc rfl (TO.nil (TX.blockNormal ?_))
      exact TX.meetD (b4 ++ (bytesOf [x4.broken]), v6) h rfl (Sbs.cons rfl (Sbs.cons rfl (Sbs.cons rfl (Sbs.cons rfl (Sbs.cons rfl (Sbs.nil)))))) (Splits.of [0, 1, 2] kr rfl)
     ·
      have h := condF hb2 h
      refine TC.region (TO.move rfl dc rfl (TO.move rfl dc rfl (TO.loads (k := 3) (cs := [.int .i64 x4.at_, .int .u8 x4.broken, .int .i32 x4.base, eh1.v, eh2.v]) rw_73 rfl dc rfl rfl rfl rfl ?_)))
      refine TO.unfold1 (k := 1) rfl (pullE (Vw.get hwl1 eq1)) (fun _ _ => ?_)
      show TO _ _ _ _ _ _ _ _ _ _ [vec encN_Gfold_unit 73 5 vvl1 Zl1, own nest_Gfold_unit (Zl1.eraseIdx (kl1 + (x3 : Int).toNat)), byt 5 v4 b4, cells b6 [.int .i64 x4.at_, .int .u8 x4.broken, .int .i32 x4.base, eh1.v, eh2.v] 73, vec (encI (.i32)) 21 1 eh1.v x4.low, vec (encI (.i32)) 21 1 eh2.v x4.high]
      obtain ⟨r1, hq2, h⟩ := andE h
      refine TO.callK (v := .string r1) (vs := [.agg #[.int .i64 x4.at_, .int .u8 x4.broken, .int .i32 x4.base, eh1.v, eh2.v]]) rfl dc rfl rfl rfl en_48 (fold_Apart_1_fn (u1 := x4) (u1_h0 := eh1) (u1_h1 := eh2) hq2) [4, 5] kr rfl ?_
      obtain ⟨hg3, h⟩ := grdE h
      refine TO.appendStr (k := 2) Try.underlying69 Try.underlying9 by_5 rfl dc rfl rfl rfl hg3 (fun v7 => ?_)
      refine TO.assign rfl dc rfl (TO.nil (TX.blockNormal (TX.fold1 (k := 1) rfl (Splits.of [4, 5] kr rfl) rfl (pushE (nest := nest_Gfold_unit) (Vw.get hwl1 eq1) rfl) ?_)))
      show TX _ _ _ _ _ _ _ [vec encN_Gfold_unit 73 5 vvl1 Zl1, own nest_Gfold_unit Zl1, byt 5 v7 (b4 ++ r1), cells b6 [.int .i64 x4.at_, .int .u8 x4.broken, .int .i32 x4.base, eh1.v, eh2.v] 73, emp, emp]
      exact TX.meetD (b4 ++ r1, v7) h rfl (Sbs.cons rfl (Sbs.cons rfl (Sbs.cons rfl (Sbs.cons rfl (Sbs.cons rfl (Sbs.nil)))))) (Splits.of [0, 1, 2] kr rfl)
    ·
     rintro ⟨b5, v5⟩ h
     rw [hj2] at h
     show TC _ _ _ _ _ ([]) _ _ [(1, .func (.func 48) #[] #[]), (5, v5), (8, vl1), (9, .int .i64 (l1.length : Int)), (10, .int .i64 x3)] [vec encN_Gfold_unit 73 5 vvl1 Zl1, own nest_Gfold_unit Zl1, byt 5 v5 b5]
     refine TC.region ?_
     obtain ⟨hg4, h⟩ := grdE h
     refine TO.bin rfl dc rfl rfl (bin_add (r := x3 + 1) (IntWalk.i64_in _ hg4)) (TO.move rfl dc rfl (TO.nil ?_))
     subst hag1
     exact TX.againD (n1, b5, x3 + 1, v5) h (Nat.lt_succ_self _) rfl (Sbs.cons rfl (Sbs.cons rfl (Sbs.cons rfl (Sbs.cons rfl (Sbs.cons rfl (Sbs.nil)))))) (Splits.of [0, 1, 2] kr rfl)
   ·
    have h := condF hb1 h
    refine TC.exit (TX.thenExit (TX.thenExit (TX.blockHere ?_)))
    exact TX.meetD (b4, v4) h rfl (Sbs.cons rfl (Sbs.nil)) (Splits.of [0, 1, 2] kr rfl)
 ·
  rintro ⟨b1, v1⟩ h
  rw [hj1] at h
  show TC _ _ _ _ _ ([]) _ _ [(5, v1)] [vec encN_Gfold_unit 73 5 vvl1 Zl1, own nest_Gfold_unit Zl1, byt 5 v1 b1]
  refine TC.seq (TC.region (TO.move rfl dc rfl (TO.bytStr (k := 2) rfl dc rfl rfl Try.underlying69 Try.underlying5 Try.underlying9 (TO.assign rfl dc rfl (TO.nil (TX.next (TC.ret ?_)))))))
  cases h
  exact TX.fin (rs := [.tmp 4]) () (.inl rfl) Try.results46 (.cons (.tmp rfl) .nil) rfl (Splits.of [0, 1] kr rfl)
end Go.Proofs.Ythjkafeklflgbaa
namespace Go.Proofs.Ythjkafeklflgbaa
open Go.RowKit Go.Lib
set_option linter.unusedVariables false
set_option linter.unusedSimpArgs false
def fold_Apart_v (s1 : ByteArray) : Option ByteArray := andThen (fold_units_v s1) fun (r1 : (List Gfold_unit)) => andThen (fold_written_Apart_1_v r1) fun (r2 : ByteArray) => some r2
set_option maxRecDepth 100000 in
set_option maxHeartbeats 4000000 in
theorem fold_Apart_fn {s1 : ByteArray} {r : ByteArray} (h : fold_Apart_v s1 = some r) : FnP Try.prog 21 [.string s1] (.string r) := by
 unfold fold_Apart_v at h
 refine FnP.intro Try.func21 rfl Try.ntmps21 (by simp) ?_
 intro w0 K
 refine TC.seq (TC.region (TO.assign rfl dc rfl (TO.nil (TX.next (TC.seq (TC.region (TO.move rfl dc rfl ?_)))))))
 obtain ⟨r1, hq1, h⟩ := andE h
 refine TO.call (vs := [.string s1]) rfl dc rfl rfl rfl en_45 (fold_units_fn hq1) Splits.nil ?_
 rintro v1
 show TO _ _ _ _ _ _ _ _ _ _ [vecN encN_Gfold_unit nest_Gfold_unit 73 5 v1 r1]
 refine TO.weakenL (L' := [vecN encN_Gfold_unit nest_Gfold_unit 73 5 v1 r1]) (Splits.of [0] kr rfl) ?_
 refine TO.nameHdN (k := 0) rfl (fun hd1 he1 => ?_)
 subst he1
 refine TO.unfold1 (k := 0) rfl openE (fun zs1 hz1 => ?_)
 show TO _ _ _ _ _ _ _ _ _ _ [vec encN_Gfold_unit 73 5 hd1.v zs1, own nest_Gfold_unit zs1]
 refine TO.vecVw (k := 0) rfl (fun hw1 => ?_)
 obtain ⟨r2, hq2, h⟩ := andE h
 refine TO.callK (v := .string r2) (vs := [hd1.v, .func (.func 48) #[] #[]]) rfl dc rfl rfl rfl en_46 (fold_written_Apart_1_fn hw1 hz1 hq2) [0, 1] kr rfl (TO.assign rfl dc rfl (TO.nil (TX.next (TC.ret ?_))))
 cases h
 exact TX.fin (rs := [.tmp 2]) () (.inl rfl) Try.results21 (.cons (.tmp rfl) .nil) rfl Splits.nil
def fold_Bare_v (s1 : ByteArray) : Option ByteArray := andThen (fold_units_v s1) fun (r1 : (List Gfold_unit)) => andThen (fold_written_Bare_1_v r1) fun (r2 : ByteArray) => some r2
set_option maxRecDepth 100000 in
set_option maxHeartbeats 4000000 in
theorem fold_Bare_fn {s1 : ByteArray} {r : ByteArray} (h : fold_Bare_v s1 = some r) : FnP Try.prog 25 [.string s1] (.string r) := by
 unfold fold_Bare_v at h
 refine FnP.intro Try.func25 rfl Try.ntmps25 (by simp) ?_
 intro w0 K
 refine TC.seq (TC.region (TO.assign rfl dc rfl (TO.nil (TX.next (TC.seq (TC.region (TO.move rfl dc rfl ?_)))))))
 obtain ⟨r1, hq1, h⟩ := andE h
 refine TO.call (vs := [.string s1]) rfl dc rfl rfl rfl en_45 (fold_units_fn hq1) Splits.nil ?_
 rintro v1
 show TO _ _ _ _ _ _ _ _ _ _ [vecN encN_Gfold_unit nest_Gfold_unit 73 5 v1 r1]
 refine TO.weakenL (L' := [vecN encN_Gfold_unit nest_Gfold_unit 73 5 v1 r1]) (Splits.of [0] kr rfl) ?_
 refine TO.nameHdN (k := 0) rfl (fun hd1 he1 => ?_)
 subst he1
 refine TO.unfold1 (k := 0) rfl openE (fun zs1 hz1 => ?_)
 show TO _ _ _ _ _ _ _ _ _ _ [vec encN_Gfold_unit 73 5 hd1.v zs1, own nest_Gfold_unit zs1]
 refine TO.vecVw (k := 0) rfl (fun hw1 => ?_)
 obtain ⟨r2, hq2, h⟩ := andE h
 refine TO.callK (v := .string r2) (vs := [hd1.v, .func (.func 56) #[] #[]]) rfl dc rfl rfl rfl en_46 (fold_written_Bare_1_fn hw1 hz1 hq2) [0, 1] kr rfl (TO.assign rfl dc rfl (TO.nil (TX.next (TC.ret ?_))))
 cases h
 exact TX.fin (rs := [.tmp 2]) () (.inl rfl) Try.results25 (.cons (.tmp rfl) .nil) rfl Splits.nil
end Go.Proofs.Ythjkafeklflgbaa
namespace Go.Proofs.Ythjkafeklflgbaa
open Go.RowKit Go.Lib
set_option linter.unusedVariables false
set_option linter.unusedSimpArgs false
def ref04_Apart_v (s1 : ByteArray) : Option ByteArray := andThen (ref04_Items_v s1) fun (r1 : (List Gref04_Item)) => andThen (ref04_apart_v r1) fun (r2 : (List Gref04_Item)) => andThen (ref04_Text_v r2) fun (r3 : ByteArray) => some r3
set_option maxRecDepth 100000 in
set_option maxHeartbeats 4000000 in
theorem ref04_Apart_fn {s1 : ByteArray} {r : ByteArray} (h : ref04_Apart_v s1 = some r) : FnP Try.prog 22 [.string s1] (.string r) := by
 unfold ref04_Apart_v at h
 refine FnP.intro Try.func22 rfl Try.ntmps22 (by simp) ?_
 intro w0 K
 refine TC.seq (TC.region (TO.assign rfl dc rfl (TO.nil (TX.next (TC.seq (TC.region (TO.move rfl dc rfl ?_)))))))
 obtain ⟨r1, hq1, h⟩ := andE h
 refine TO.call (vs := [.string s1]) rfl dc rfl rfl rfl en_50 (ref04_Items_fn hq1) Splits.nil ?_
 rintro v1
 show TO _ _ _ _ _ _ _ _ _ _ [vec enc_Gref04_Item 68 3 v1 r1]
 refine TO.vecVw (k := 0) rfl (fun hw1 => ?_)
 obtain ⟨r2, hq2, h⟩ := andE h
 refine TO.call (vs := [v1]) rfl dc rfl rfl rfl en_49 (ref04_apart_fn hw1 hq2) (Splits.of [0] kr rfl) ?_
 rintro v2
 show TO _ _ _ _ _ _ _ _ _ _ [emp, vec enc_Gref04_Item 68 3 v1 r1, vec enc_Gref04_Item 68 3 v2 r2]
 refine TO.vecVw (k := 2) rfl (fun hw2 => ?_)
 obtain ⟨r3, hq3, h⟩ := andE h
 refine TO.callK (v := .string r3) (vs := [v2]) rfl dc rfl rfl rfl en_41 (ref04_Text_fn hw2 hq3) [2] kr rfl (TO.assign rfl dc rfl (TO.nil (TX.next (TC.ret ?_))))
 cases h
 exact TX.fin (rs := [.tmp 2]) () (.inl rfl) Try.results22 (.cons (.tmp rfl) .nil) rfl Splits.nil
def ref04_Bare_v (s1 : ByteArray) : Option ByteArray := andThen (ref04_Items_v s1) fun (r1 : (List Gref04_Item)) => andThen (ref04_bare_v r1) fun (r2 : (List Gref04_Item)) => andThen (ref04_Text_v r2) fun (r3 : ByteArray) => some r3
set_option maxRecDepth 100000 in
set_option maxHeartbeats 4000000 in
theorem ref04_Bare_fn {s1 : ByteArray} {r : ByteArray} (h : ref04_Bare_v s1 = some r) : FnP Try.prog 26 [.string s1] (.string r) := by
 unfold ref04_Bare_v at h
 refine FnP.intro Try.func26 rfl Try.ntmps26 (by simp) ?_
 intro w0 K
 refine TC.seq (TC.region (TO.assign rfl dc rfl (TO.nil (TX.next (TC.seq (TC.region (TO.move rfl dc rfl ?_)))))))
 obtain ⟨r1, hq1, h⟩ := andE h
 refine TO.call (vs := [.string s1]) rfl dc rfl rfl rfl en_50 (ref04_Items_fn hq1) Splits.nil ?_
 rintro v1
 show TO _ _ _ _ _ _ _ _ _ _ [vec enc_Gref04_Item 68 3 v1 r1]
 refine TO.vecVw (k := 0) rfl (fun hw1 => ?_)
 obtain ⟨r2, hq2, h⟩ := andE h
 refine TO.call (vs := [v1]) rfl dc rfl rfl rfl en_57 (ref04_bare_fn hw1 hq2) (Splits.of [0] kr rfl) ?_
 rintro v2
 show TO _ _ _ _ _ _ _ _ _ _ [emp, vec enc_Gref04_Item 68 3 v1 r1, vec enc_Gref04_Item 68 3 v2 r2]
 refine TO.vecVw (k := 2) rfl (fun hw2 => ?_)
 obtain ⟨r3, hq3, h⟩ := andE h
 refine TO.callK (v := .string r3) (vs := [v2]) rfl dc rfl rfl rfl en_41 (ref04_Text_fn hw2 hq3) [2] kr rfl (TO.assign rfl dc rfl (TO.nil (TX.next (TC.ret ?_))))
 cases h
 exact TX.fin (rs := [.tmp 2]) () (.inl rfl) Try.results26 (.cons (.tmp rfl) .nil) rfl Splits.nil
end Go.Proofs.Ythjkafeklflgbaa
namespace Go.Proofs.Ythjkafeklflgbaa
open Go.RowKit Go.Lib
set_option linter.unusedVariables false
set_option linter.unusedSimpArgs false
theorem wr_Bare_1 (of : Gfold_unit → ByteArray) (l : List Gfold_unit) (hl : l.length ≤ 1048576) (h : ∀ u ∈ l, u.base < 0 ∧ U8 u.broken ∨ 0 ≤ u.base ∧ fold_Bare_1_v u = some (of u) ∧ (of u).size ≤ 1048576) : fold_written_Bare_1_v l = some (J (wr of) l) := by
  unfold fold_written_Bare_1_v
  refine joinI ((loop1 (xs := l) (f := fun b u => b ++ wr of u) (J := some) (fun k b => b.size ≤ k * 1048576) ?_ ?_ ?_ (big_fuel (by omega)) (by decide)).trans rfl)
  · intro ag k u b hu hb
    have hk := lp_lt' hu
    unfold fold_written_Bare_1_s1
    refine condTI (lp_lt hu) (joinI (thenI (lp_get hu) ?_))
    rcases h u (List.mem_of_getElem? hu) with ⟨h1, h2⟩ | ⟨h1, h2, h3⟩
    · exact condTI (decide_eq_true h1) (grdI (by omega) (grdI (by simpa using h2) (grdI (lp_i64 (by omega)) (by simp only [wr, if_pos h1]))))
    · exact condFI (decide_eq_false (by omega)) (thenI h2 (grdI (by omega) (grdI (lp_i64 (by omega)) (by simp only [wr, if_neg (show ¬ u.base < 0 by omega)]))))
  · intro k u b hu hb
    have hw : (wr of u).size ≤ 1048576 := by
      rcases h u (List.mem_of_getElem? hu) with ⟨h1, h2⟩ | ⟨h1, h2, h3⟩
      · unfold wr; rw [if_pos h1, bytesOf_size]; simp
      · unfold wr; rw [if_neg (by omega)]; exact h3
    rw [ByteArray.size_append]; omega
  · intro ag b _; unfold fold_written_Bare_1_s1; exact condFI lp_ge rfl
theorem wr_Apart_1 (of : Gfold_unit → ByteArray) (l : List Gfold_unit) (hl : l.length ≤ 1048576) (h : ∀ u ∈ l, u.base < 0 ∧ U8 u.broken ∨ 0 ≤ u.base ∧ fold_Apart_1_v u = some (of u) ∧ (of u).size ≤ 1048576) : fold_written_Apart_1_v l = some (J (wr of) l) := by
  unfold fold_written_Apart_1_v
  refine joinI ((loop1 (xs := l) (f := fun b u => b ++ wr of u) (J := some) (fun k b => b.size ≤ k * 1048576) ?_ ?_ ?_ (big_fuel (by omega)) (by decide)).trans rfl)
  · intro ag k u b hu hb
    have hk := lp_lt' hu
    unfold fold_written_Apart_1_s1
    refine condTI (lp_lt hu) (joinI (thenI (lp_get hu) ?_))
    rcases h u (List.mem_of_getElem? hu) with ⟨h1, h2⟩ | ⟨h1, h2, h3⟩
    · exact condTI (decide_eq_true h1) (grdI (by omega) (grdI (by simpa using h2) (grdI (lp_i64 (by omega)) (by simp only [wr, if_pos h1]))))
    · exact condFI (decide_eq_false (by omega)) (thenI h2 (grdI (by omega) (grdI (lp_i64 (by omega)) (by simp only [wr, if_neg (show ¬ u.base < 0 by omega)]))))
  · intro k u b hu hb
    have hw : (wr of u).size ≤ 1048576 := by
      rcases h u (List.mem_of_getElem? hu) with ⟨h1, h2⟩ | ⟨h1, h2, h3⟩
      · unfold wr; rw [if_pos h1, bytesOf_size]; simp
      · unfold wr; rw [if_neg (by omega)]; exact h3
    rw [ByteArray.size_append]; omega
  · intro ag b _; unfold fold_written_Apart_1_s1; exact condFI lp_ge rfl
def bareS (s : ByteArray) : ByteArray := J (fun c => c.1.Text) (clus s)
def apartC (c : Itm × List Itm) : ByteArray := J (·.Text) (ordC c)
def apartS (s : ByteArray) : ByteArray := J apartC (clus s)
theorem bare_vv (s : ByteArray) (hs : s.size ≤ 65536) : fold_Bare_v s = some (bareS s) := by
  unfold fold_Bare_v
  obtain ⟨hl, hc⟩ := clus_ok hs
  refine thenI (units_v s hs) (thenI (wr_Bare_1 (fun u => Utf8.encode u.base) _ (by rw [List.length_map]; omega) ?_) ?_)
  · intro u hu
    obtain ⟨c, hcm, rfl⟩ := List.mem_map.1 hu
    obtain ⟨h1, _⟩ := hc c hcm
    rcases toU_cases c h1 with ⟨g1, g2, _⟩ | ⟨g1, g2, g3, g4⟩
    · exact .inl ⟨g1, g2⟩
    · exact .inr ⟨g1, rfl, by have := enc_size4 (toU c).base; omega⟩
  · rw [wr_of _ (fun c => c.1.Text) s hs (fun c hcm h0 => by
      obtain ⟨h1, _⟩ := hc c hcm
      rw [toU_base c h0]
      rcases h1.2 with ⟨h2, _⟩ | ⟨_, h2⟩
      · omega
      · exact h2.symm) (fun c hcm h0 => rfl)]; rfl
theorem rbare_v (s : ByteArray) (hs : s.size ≤ 65536) : ref04_Bare_v s = some (bareS s) := by
  unfold ref04_Bare_v
  obtain ⟨hl, hc⟩ := clus_ok hs
  have h3 : (itemsP s).length ≤ s.size := by unfold itemsP; simpa using pcs_count_le s
  refine thenI (items_v s (by omega)) (thenI (bare_v _ (fun x hx => (okT_item x hx).1) (by omega)) ?_)
  rw [bareI_clus]
  have hsz : sizeI ((clus s).map Prod.fst) ≤ ((clus s).map Prod.fst).length * 4 := sizeI_le (fun x hx => by
    obtain ⟨c, hcm, rfl⟩ := List.mem_map.1 hx
    exact okT_size (hc c hcm).1)
  rw [List.length_map] at hsz
  refine thenI (text_v _ (by rw [List.length_map]; omega) (by omega)) ?_
  rw [catI_J, J_map]; rfl
theorem str_marks (l : List Itm) (h : ∀ m ∈ l, isM m = true ∧ okT m) : strOf (l.map (·.Rune)) = J (·.Text) l := by
  rw [strOf_J, J_map]
  refine J_congr fun m hm => ?_
  obtain ⟨h1, h2⟩ := h m hm
  rcases h2.2 with ⟨h3, _⟩ | ⟨_, h3⟩
  · have : mrk m.Rune = true := h1
    unfold mrk at this; simp at this; omega
  · exact h3.symm
theorem lo_sub {ms : List Itm} {P : Itm → Prop} (h : ∀ m ∈ ms, P m) : (∀ m ∈ loI ms, P m) ∧ ∀ m ∈ hiI ms, P m :=
  ⟨fun m hm => h m (List.mem_filter.1 hm).1, fun m hm => h m (List.mem_filter.1 hm).1⟩
theorem lohi_le (ms : List Itm) : (loI ms).length ≤ ms.length ∧ (hiI ms).length ≤ ms.length := ⟨List.length_filter_le _ _, List.length_filter_le _ _⟩
theorem apart_vv (s : ByteArray) (hs : s.size ≤ 65536) : fold_Apart_v s = some (apartS s) := by
  unfold fold_Apart_v
  obtain ⟨hl, hc⟩ := clus_ok hs
  refine thenI (units_v s hs) (thenI (wr_Apart_1 (fun u => ((Utf8.encode u.base) ++ (strOf u.low)) ++ (strOf u.high)) _ (by rw [List.length_map]; omega) ?_) ?_)
  · intro u hu
    obtain ⟨c, hcm, rfl⟩ := List.mem_map.1 hu
    obtain ⟨h1, _, _, h4⟩ := hc c hcm
    rcases toU_cases c h1 with ⟨g1, g2, _⟩ | ⟨g1, g2, g3, g4⟩
    · exact .inl ⟨g1, g2⟩
    · have hh := lohi_le c.2
      have e1 : (toU c).low.length ≤ 196608 := by rw [g4]; simp; omega
      have e2 : (toU c).high.length ≤ 196608 := by rw [g4]; simp; omega
      have e3 := strOf_size (toU c).low
      have e4 := strOf_size (toU c).high
      have e5 := enc_size4 (toU c).base
      refine .inr ⟨g1, ?_, ?_⟩
      · unfold fold_Apart_1_v
        exact grdI (by omega) (grdI (by rw [ByteArray.size_append]; omega) rfl)
      · rw [ByteArray.size_append, ByteArray.size_append]
        have : (toU c).low.length + (toU c).high.length ≤ 196608 := by
          rw [g4]; have := lohi_len c.2; rw [List.length_append] at this; simp; omega
        omega
  · rw [wr_of _ apartC s hs (fun c hcm h0 => by
      obtain ⟨h1, h2, _⟩ := hc c hcm
      obtain ⟨hlo, hhi⟩ := lo_sub h2
      rcases toU_cases c h1 with ⟨_, _, g3, _⟩ | ⟨g1, g2, g3, g4⟩
      · omega
      · rw [g4]
        show Utf8.encode c.1.Rune ++ strOf ((loI c.2).map (·.Rune)) ++ strOf ((hiI c.2).map (·.Rune)) = _
        rw [str_marks _ hlo, str_marks _ hhi]
        unfold apartC ordC
        rw [J_cons, J_append, g3, ByteArray.append_assoc]) (fun c hcm h0 => by
      obtain ⟨_, _, h3, _⟩ := hc c hcm
      unfold apartC ordC
      rw [h3 (not_letter_neg h0)]
      show J _ [c.1] = _
      rw [J_cons, J_nil, ByteArray.append_empty])]; rfl
theorem rapart_v (s : ByteArray) (hs : s.size ≤ 65536) : ref04_Apart_v s = some (apartS s) := by
  unfold ref04_Apart_v
  have h3 : (itemsP s).length ≤ s.size := by unfold itemsP; simpa using pcs_count_le s
  have hok := okT_ap (okT_item (s := s))
  have h4 := apL_len (itemsP s)
  have h5 := ordI_len (apL (itemsP s))
  refine thenI (items_v s (by omega)) (thenI (apart_v _ (fun x hx => (okT_item x hx).1) (by omega)) ?_)
  have hsz : sizeI (ordI (apL (itemsP s))) ≤ (ordI (apL (itemsP s))).length * 4 := sizeI_le (fun x hx => okT_size (hok x (ordI_mem hx)))
  refine thenI (text_v _ (by omega) (by omega)) ?_
  rw [catI_J]
  show some (J _ ((clus s).flatMap ordC)) = _
  rw [J_flat]; rfl
end Go.Proofs.Ythjkafeklflgbaa
namespace Go.Proofs.Ythjkafeklflgbaa
open Go.RowKit Go.Lib
set_option linter.unusedVariables false
set_option linter.unusedSimpArgs false
def fold_Together_1_s1 (u1 : Gfold_unit) (Mc0 : List (Gfold_pair × Int)) (j2 : Int → (List Int) → Option ByteArray) (ag1 : Int → (List Int) → Bool → Int → Option ByteArray) (u7 : Int) (stayed5 : List Int) (free3 : Bool) (x3 : Int) : Option ByteArray := bcond (decide ((x3 : Int) < (u1.low.length : Int))) ( joinK (fun (j3 : Int → (List Int) → Bool → Option ByteArray) => andThen (getO u1.low x3) fun (q1 : Int) => bcond ((getM (⟨u7, q1⟩ : Gfold_pair) Mc0).isSome) ( bcond (free3) ( j3 ((getM (⟨u7, q1⟩ : Gfold_pair) Mc0).getD 0) stayed5 free3
) ( grd (stayed5.length + 1 ≤ 2147483648) <| j3 u7 (stayed5 ++ [q1]) false
)
) ( grd (stayed5.length + 1 ≤ 2147483648) <| j3 u7 (stayed5 ++ [q1]) false
)
) (fun (u8 : Int) (stayed6 : List Int) (free4 : Bool) => grd (I64 (x3 + 1)) <| ag1 u8 stayed6 free4 (x3 + 1)
)
) ( j2 u7 stayed5
)
def fold_Together_1_s2 (u1 : Gfold_unit) (Mc0 : List (Gfold_pair × Int)) (j4 : Int → (List Int) → Option ByteArray) (ag2 : Int → (List Int) → Bool → Int → Option ByteArray) (u12 : Int) (stayed10 : List Int) (free7 : Bool) (x6 : Int) : Option ByteArray := bcond (decide ((x6 : Int) < (u1.high.length : Int))) ( joinK (fun (j5 : Int → (List Int) → Bool → Option ByteArray) => andThen (getO u1.high x6) fun (q2 : Int) => bcond ((getM (⟨u12, q2⟩ : Gfold_pair) Mc0).isSome) ( bcond (free7) ( j5 ((getM (⟨u12, q2⟩ : Gfold_pair) Mc0).getD 0) stayed10 free7
) ( grd (stayed10.length + 1 ≤ 2147483648) <| j5 u12 (stayed10 ++ [q2]) false
)
) ( grd (stayed10.length + 1 ≤ 2147483648) <| j5 u12 (stayed10 ++ [q2]) false
)
) (fun (u13 : Int) (stayed11 : List Int) (free8 : Bool) => grd (I64 (x6 + 1)) <| ag2 u13 stayed11 free8 (x6 + 1)
)
) ( j4 u12 stayed10
)
def fold_Together_1_v (u1 : Gfold_unit) (Mc0 : List (Gfold_pair × Int)) : Option ByteArray := andThen (fold_unit_letter_v u1) fun (r1 : Bool) => bcond (!r1) ( some (Utf8.encode u1.base)
) ( joinK (fun (j1 : Int → (List Int) → Option ByteArray) => joinK (fun (j2 : Int → (List Int) → Option ByteArray) => loopG (fun _ _ _ _ => none) (fold_Together_1_s1 u1 Mc0 j2) fuel u1.base ([] : List Int) true 0
) (fun (u3 : Int) (stayed2 : List Int) => joinK (fun (j4 : Int → (List Int) → Option ByteArray) => loopG (fun _ _ _ _ => none) (fold_Together_1_s2 u1 Mc0 j4) fuel u3 stayed2 true 0
) (fun (u9 : Int) (stayed7 : List Int) => j1 u9 stayed7
)
)
) (fun (u2 : Int) (stayed1 : List Int) => grd ((Utf8.encode u2).size + (strOf stayed1).size ≤ 9223372036854775807) <| some ((Utf8.encode u2) ++ (strOf stayed1))
)
)
set_option maxRecDepth 100000 in
set_option maxHeartbeats 4000000 in
theorem fold_Together_1_fn {u1 : Gfold_unit} {u1_h0 u1_h1 : Hd} {bc0 bmc0 : Nat} {Mc0 : List (Gfold_pair × Int)} {r : ByteArray} (h : fold_Together_1_v u1 Mc0 = some r) : Fn Try.prog 51 [.agg #[.int .i64 u1.at_, .int .u8 u1.broken, .int .i32 u1.base, u1_h0.v, u1_h1.v], .pointer (some ⟨bc0, 0, none⟩)] [vec (encI (.i32)) 21 1 u1_h0.v u1.low, vec (encI (.i32)) 21 1 u1_h1.v u1.high, cells bc0 [.map (some bmc0)] 62, mapA (fun p : Gfold_pair => Value.agg #[.int .i32 p.e0, .int .i32 p.e1]) (fun n : Int => Value.int .i32 n) bmc0 Mc0] (fun _b : Unit => .string r) (fun _b => [vec (encI (.i32)) 21 1 u1_h0.v u1.low, vec (encI (.i32)) 21 1 u1_h1.v u1.high, cells bc0 [.map (some bmc0)] 62, mapA (fun p : Gfold_pair => Value.agg #[.int .i32 p.e0, .int .i32 p.e1]) (fun n : Int => Value.int .i32 n) bmc0 Mc0]) := by
 unfold fold_Together_1_v at h
 refine Fn.intro Try.func51 rfl Try.ntmps51 (by simp) ?_
 intro w0 K
 refine TC.seq (TC.region ?_)
 refine TO.box rfl dc rfl (fun b1 => ?_)
 refine TO.assign rfl dc rfl (TO.nil (TX.next (TC.seq (TC.seq (TC.region (TO.loads (k := 4) (cs := [.int .i64 u1.at_, .int .u8 u1.broken, .int .i32 u1.base, u1_h0.v, u1_h1.v]) rw_73 rfl dc rfl rfl rfl rfl ?_))))))
 obtain ⟨r1, hq1, h⟩ := andE h
 refine TO.callK (v := .bool r1) (vs := [.agg #[.int .i64 u1.at_, .int .u8 u1.broken, .int .i32 u1.base, u1_h0.v, u1_h1.v]]) rfl dc rfl rfl rfl en_52 (fold_unit_letter_fn (u1 := u1) (u1_h0 := u1_h0) (u1_h1 := u1_h1) hq1) [0, 1] kr rfl (TO.un rfl dc rfl un_not (TO.nil (TX.next ?_)))
 refine TC.condB rfl (fun hb1 => ?_) (fun hb1 => ?_)
 ·
  have h := condT hb1 h
  refine TC.seq (TC.region (TO.fieldAddr fl_73_2 rfl dc rfl (show _ = 2 from rfl) (TO.load (k := 4) sc_21 rfl dc rfl rfl rfl (TO.conv rfl dc rfl (conv_rune Try.underlying21 Try.underlying9) (TO.assign rfl dc rfl (TO.nil (TX.next (TC.ret (TX.thenRet ?_)))))))))
  cases h
  exact TX.fin (rs := [.tmp 3]) () (.inl rfl) Try.results51 (.cons (.tmp rfl) .nil) rfl (Splits.of [0, 1, 2, 3] kr rfl)
 ·
  have h := condF hb1 h
  refine TC.skip (TX.next ?_)
  obtain ⟨j1, hj1, h⟩ := joinE h
  refine TC.cutN (β := Int × (List Int) × Hd) 1 rfl (fun b => j1 b.1 b.2.1 = some r) (fun b => []) (fun b => [(2, .pointer (some ⟨b1, 0, none⟩)), (4, b.2.2.v)]) (fun b => [cells bc0 [.map (some bmc0)] 62, mapA (fun p : Gfold_pair => Value.agg #[.int .i32 p.e0, .int .i32 p.e1]) (fun n : Int => Value.int .i32 n) bmc0 Mc0, vec (encI (.i32)) 21 1 u1_h0.v u1.low, vec (encI (.i32)) 21 1 u1_h1.v u1.high, cells b1 [.int .i64 u1.at_, .int .u8 u1.broken, .int .i32 b.1, u1_h0.v, u1_h1.v] 73, vec (encI (.i32)) 21 1 b.2.2.v b.2.1]) (fun cut => ?_) ?_
  ·
   refine TC.seq (TC.region (TO.assign rfl dc rfl (TO.nil (TX.next (cut (TC.seq (TC.region (TO.fieldAddr fl_73_3 rfl dc rfl (show _ = 3 from rfl) (TO.load (k := 4) sc_25 rfl dc rfl rfl rfl (TO.fieldAddr fl_73_4 rfl dc rfl (show _ = 4 from rfl) (TO.load (k := 4) sc_25 rfl dc rfl rfl rfl ?_)))))))))))
   refine TO.build (v := .agg #[u1_h0.v, u1_h1.v]) (ps := [(0, .tmp 19), (1, .tmp 21)]) rfl dc rfl (fun _ => by kernel_rfl) ?_
   refine TO.move rfl dc rfl (TO.nil (TX.next (TC.block (TC.loopN 3 (TR.succ (TC.seq (TC.region (TO.bin rfl dc rfl rfl (bin_known (show Value.bool (decide ((0 : Int) < 2)) = Value.bool true from congrArg Value.bool dc) bin_lss) (TO.nil (TX.next (TC.seq (TC.condT rfl (TC.skip ?_)))))))))))))
   refine TX.next ?_
   obtain ⟨j2, hj2, h⟩ := joinE h
   refine TC.cutN (β := Int × (List Int) × Hd) 0 rfl (fun b => j2 b.1 b.2.1 = some r) (fun b => []) (fun b => [(1, .pointer (some ⟨bc0, 0, none⟩)), (2, .pointer (some ⟨b1, 0, none⟩)), (4, b.2.2.v), (22, .agg #[u1_h0.v, u1_h1.v]), (23, .int .i64 0)]) (fun b => [cells bc0 [.map (some bmc0)] 62, mapA (fun p : Gfold_pair => Value.agg #[.int .i32 p.e0, .int .i32 p.e1]) (fun n : Int => Value.int .i32 n) bmc0 Mc0, vec (encI (.i32)) 21 1 u1_h0.v u1.low, vec (encI (.i32)) 21 1 u1_h1.v u1.high, cells b1 [.int .i64 u1.at_, .int .u8 u1.broken, .int .i32 b.1, u1_h0.v, u1_h1.v] 73, vec (encI (.i32)) 21 1 b.2.2.v b.2.1]) (fun cut => ?_) ?_
   ·
    refine cut (TC.block (TC.seq (TC.region ?_)))
    refine TO.index (v := u1_h0.v) rfl dc rfl rfl (fun _ => by kernel_rfl) ?_
    refine TO.assign rfl dc rfl (TO.nil (TX.next (TC.seq (TC.region (TO.assign rfl dc rfl (TO.nil (TX.next (TC.seq (TC.region (TO.move rfl dc rfl (TO.lenVec (k := 0) rfl dc rfl rfl Try.underlying25 (TO.move rfl dc rfl (TO.nil ?_)))))))))))))
    refine TX.next (TC.block (TC.newVec (enc := (encI (.i32))) (e := 21) (size := 1) ?_))
    show TC _ _ _ _ _ _ _ _ _ [vec (encI (.i32)) 21 1 u1_h0.v u1.low, vec (encI (.i32)) 21 1 u1_h1.v u1.high, cells bc0 [.map (some bmc0)] 62, mapA (fun p : Gfold_pair => Value.agg #[.int .i32 p.e0, .int .i32 p.e1]) (fun n : Int => Value.int .i32 n) bmc0 Mc0, cells b1 [.int .i64 u1.at_, .int .u8 u1.broken, .int .i32 u1.base, u1_h0.v, u1_h1.v] 73, vec (encI (.i32)) 21 1 (.slice none 0 0) ([] : List Int)]
    refine TC.loopD (β := Nat × Int × (List Int) × Bool × Int × Hd) (fun b => loopG (fun _ _ _ _ => none) (fold_Together_1_s1 u1 Mc0 j2) b.1 b.2.1 b.2.2.1 b.2.2.2.1 b.2.2.2.2.1 = some r) (fun b => []) (fun b => [(1, .pointer (some ⟨bc0, 0, none⟩)), (2, .pointer (some ⟨b1, 0, none⟩)), (4, b.2.2.2.2.2.v), (7, .bool b.2.2.2.1), (22, .agg #[u1_h0.v, u1_h1.v]), (23, .int .i64 0), (26, u1_h0.v), (27, .int .i64 (u1.low.length : Int)), (28, .int .i64 b.2.2.2.2.1)]) (fun b => [cells bc0 [.map (some bmc0)] 62, mapA (fun p : Gfold_pair => Value.agg #[.int .i32 p.e0, .int .i32 p.e1]) (fun n : Int => Value.int .i32 n) bmc0 Mc0, vec (encI (.i32)) 21 1 u1_h0.v u1.low, vec (encI (.i32)) 21 1 u1_h1.v u1.high, cells b1 [.int .i64 u1.at_, .int .u8 u1.broken, .int .i32 b.2.1, u1_h0.v, u1_h1.v] 73, vec (encI (.i32)) 21 1 b.2.2.2.2.2.v b.2.2.1]) (fun b => b.1) (fuel, u1.base, ([] : List Int), true, 0, Hd.nil) h rfl (Sbs.cons rfl (Sbs.cons rfl (Sbs.cons rfl (Sbs.cons rfl (Sbs.cons rfl (Sbs.cons rfl (Sbs.cons rfl (Sbs.cons rfl (Sbs.cons rfl (Sbs.nil)))))))))) (Splits.of [2, 3, 0, 1, 4, 5] kr rfl) ?_
    rintro ⟨n1, u7, stayed5, free3, x3, hd5⟩ h
    cases n1 with
    | zero => exact noneE h
    | succ n1 =>
     obtain ⟨ag1, hag1⟩ : ∃ ag, ag = loopG (fun _ _ _ _ => none) (fold_Together_1_s1 u1 Mc0 j2) n1 := ⟨_, rfl⟩
     have h : fold_Together_1_s1 u1 Mc0 j2 ag1 u7 stayed5 free3 x3 = some r := by rw [hag1]; exact h
     unfold fold_Together_1_s1 at h
     show TC _ _ _ _ _ ([]) _ _ [(1, .pointer (some ⟨bc0, 0, none⟩)), (2, .pointer (some ⟨b1, 0, none⟩)), (4, hd5.v), (7, .bool free3), (22, .agg #[u1_h0.v, u1_h1.v]), (23, .int .i64 0), (26, u1_h0.v), (27, .int .i64 (u1.low.length : Int)), (28, .int .i64 x3)] [cells bc0 [.map (some bmc0)] 62, mapA (fun p : Gfold_pair => Value.agg #[.int .i32 p.e0, .int .i32 p.e1]) (fun n : Int => Value.int .i32 n) bmc0 Mc0, vec (encI (.i32)) 21 1 u1_h0.v u1.low, vec (encI (.i32)) 21 1 u1_h1.v u1.high, cells b1 [.int .i64 u1.at_, .int .u8 u1.broken, .int .i32 u7, u1_h0.v, u1_h1.v] 73, vec (encI (.i32)) 21 1 hd5.v stayed5]
     refine TC.seq (TC.region (TO.bin rfl dc rfl rfl bin_lss (TO.nil (TX.next (TC.seq ?_)))))
     refine TC.condB rfl (fun hb2 => ?_) (fun hb2 => ?_)
     ·
      have h := condT hb2 h
      refine TC.skip (TX.next ?_)
      obtain ⟨j3, hj3, h⟩ := joinE h
      refine TC.cutN (β := Int × (List Int) × Bool × Hd) 0 rfl (fun b => j3 b.1 b.2.1 b.2.2.1 = some r) (fun b => []) (fun b => [(1, .pointer (some ⟨bc0, 0, none⟩)), (2, .pointer (some ⟨b1, 0, none⟩)), (4, b.2.2.2.v), (7, .bool b.2.2.1), (22, .agg #[u1_h0.v, u1_h1.v]), (23, .int .i64 0), (26, u1_h0.v), (27, .int .i64 (u1.low.length : Int)), (28, .int .i64 x3)]) (fun b => [cells bc0 [.map (some bmc0)] 62, mapA (fun p : Gfold_pair => Value.agg #[.int .i32 p.e0, .int .i32 p.e1]) (fun n : Int => Value.int .i32 n) bmc0 Mc0, vec (encI (.i32)) 21 1 u1_h0.v u1.low, vec (encI (.i32)) 21 1 u1_h1.v u1.high, cells b1 [.int .i64 u1.at_, .int .u8 u1.broken, .int .i32 b.1, u1_h0.v, u1_h1.v] 73, vec (encI (.i32)) 21 1 b.2.2.2.v b.2.1]) (fun cut => ?_) ?_
      ·
       refine cut (TC.block (TC.seq (TC.region ?_)))
       obtain ⟨q1, hq2, h⟩ := andE h
       refine TO.indexVecI (k := 2) hq2 Try.underlying25 sz_21 rfl dc rfl rfl rfl rfl (TO.loadVec (i := (x3 : Int).toNat) (j := 0) (k := 2) (q := q1) sc_21 encI_len rfl dc rfl rfl (getO_get hq2) rfl dc rfl (TO.assign rfl dc rfl (TO.nil (TX.next (TC.seq (TC.region (TO.load (k := 0) sc_62 rfl dc rfl rfl rfl (TO.fieldAddr fl_73_2 rfl dc rfl (show _ = 2 from rfl) (TO.load (k := 4) sc_21 rfl dc rfl rfl rfl (TO.move rfl dc rfl ?_))))))))))
       refine TO.build (v := .agg #[.int .i32 u7, .int .i32 q1]) (ps := [(0, .tmp 35), (1, .tmp 36)]) rfl dc rfl (fun _ => by kernel_rfl) ?_
       refine TO.lookupOk (k := 1) (ek := (fun p : Gfold_pair => Value.agg #[.int .i32 p.e0, .int .i32 p.e1])) (ev' := (fun n : Int => Value.int .i32 n)) (kk := (⟨u7, q1⟩ : Gfold_pair)) (z0 := 0) (KeyOk.arr2 (f0 := fun p : Gfold_pair => p.e0) (f1 := fun p : Gfold_pair => p.e1) (fun a b h1 h2 => by cases a; cases b; simp_all) Try.underlying79 Try.underlying21 sz_21) Try.underlying62 kr rfl dc rfl rfl rfl ?_
       refine TO.move rfl dc rfl (TO.extract rfl dc rfl rfl (TO.extract rfl dc rfl rfl (TO.assign rfl dc rfl (TO.assign rfl dc rfl (TO.nil (TX.next (TC.seq (TC.region (TO.move rfl dc rfl (TO.move rfl dc rfl ?_))))))))))
       refine TO.split (s := 42) rfl (fun hb3 => ?_) (fun hb3 => ?_)
       ·
        have h := condT hb3 h
        refine TO.move rfl dc rfl (TO.pick (b := true) rfl dc rfl rfl (TO.nil (TX.next ?_)))
        refine TC.condB rfl (fun hb4 => ?_) (fun hb4 => ?_)
        ·
         have h := condT hb4 h
         refine TC.region (TO.move rfl dc rfl (TO.fieldAddr fl_73_2 rfl dc rfl (show _ = 2 from rfl) ?_))
         refine TO.store (k := 4) (l' := [.int .i64 u1.at_, .int .u8 u1.broken, .int .i32 ((getM (⟨u7, q1⟩ : Gfold_pair) Mc0).getD 0), u1_h0.v, u1_h1.v]) sz_21 rfl rfl rfl rfl rfl (fun _ _ => rfl) rfl ?_
         refine TO.nil (TX.blockNormal ?_)
         exact TX.meetD (((getM (⟨u7, q1⟩ : Gfold_pair) Mc0).getD 0), stayed5, free3, hd5) h rfl (Sbs.cons rfl (Sbs.cons rfl (Sbs.cons rfl (Sbs.cons rfl (Sbs.cons rfl (Sbs.cons rfl (Sbs.cons rfl (Sbs.cons rfl (Sbs.cons rfl (Sbs.nil)))))))))) (Splits.of [0, 1, 2, 3, 4, 5] kr rfl)
        ·
         have h := condF hb4 h
         refine TC.seq (TC.region (TO.move rfl dc rfl (TO.move rfl dc rfl ?_)))
         refine TO.buildSlice (cs := [.int .i32 q1]) (te := 21) (ps := [(0, .tmp 48)]) rfl dc rfl (fun _ => by kernel_rfl) (fun b2 => ?_)
         obtain ⟨hg1, h⟩ := grdE h
         refine TO.appendVec (k := 5) (k2 := 6) (ys := [q1]) Try.underlying25 el_21 encI_len encI_one rfl dc rfl rfl rfl rfl rfl rfl hg1 (fun v1 => ?_)
         refine TO.nameHd (k := 5) rfl (fun hd7 he1 => ?_)
         subst he1
         show TO _ _ _ _ _ _ _ _ _ _ [cells bc0 [.map (some bmc0)] 62, mapA (fun p : Gfold_pair => Value.agg #[.int .i32 p.e0, .int .i32 p.e1]) (fun n : Int => Value.int .i32 n) bmc0 Mc0, vec (encI (.i32)) 21 1 u1_h0.v u1.low, vec (encI (.i32)) 21 1 u1_h1.v u1.high, cells b1 [.int .i64 u1.at_, .int .u8 u1.broken, .int .i32 u7, u1_h0.v, u1_h1.v] 73, vec (encI (.i32)) 21 1 hd7.v (stayed5 ++ [q1]), cells b2 [.int .i32 q1] 21]
         refine TO.assign rfl dc rfl (TO.nil (TX.next (TC.region (TO.assign rfl dc rfl (TO.nil (TX.blockNormal ?_))))))
         exact TX.meetD (u7, stayed5 ++ [q1], false, hd7) h rfl (Sbs.cons rfl (Sbs.cons rfl (Sbs.cons rfl (Sbs.cons rfl (Sbs.cons rfl (Sbs.cons rfl (Sbs.cons rfl (Sbs.cons rfl (Sbs.cons rfl (Sbs.nil)))))))))) (Splits.of [0, 1, 2, 3, 4, 5] kr rfl)
       ·
        have h := condF hb3 h
        refine TO.skip rfl dc (TO.pick (b := false) rfl dc rfl rfl (TO.nil (TX.next (TC.condF rfl (TC.seq (TC.region (TO.move rfl dc rfl (TO.move rfl dc rfl ?_))))))))
        refine TO.buildSlice (cs := [.int .i32 q1]) (te := 21) (ps := [(0, .tmp 48)]) rfl dc rfl (fun _ => by kernel_rfl) (fun b3 => ?_)
        obtain ⟨hg2, h⟩ := grdE h
        refine TO.appendVec (k := 5) (k2 := 6) (ys := [q1]) Try.underlying25 el_21 encI_len encI_one rfl dc rfl rfl rfl rfl rfl rfl hg2 (fun v2 => ?_)
        refine TO.nameHd (k := 5) rfl (fun hd8 he2 => ?_)
        subst he2
        show TO _ _ _ _ _ _ _ _ _ _ [cells bc0 [.map (some bmc0)] 62, mapA (fun p : Gfold_pair => Value.agg #[.int .i32 p.e0, .int .i32 p.e1]) (fun n : Int => Value.int .i32 n) bmc0 Mc0, vec (encI (.i32)) 21 1 u1_h0.v u1.low, vec (encI (.i32)) 21 1 u1_h1.v u1.high, cells b1 [.int .i64 u1.at_, .int .u8 u1.broken, .int .i32 u7, u1_h0.v, u1_h1.v] 73, vec (encI (.i32)) 21 1 hd8.v (stayed5 ++ [q1]), cells b3 [.int .i32 q1] 21]
        refine TO.assign rfl dc rfl (TO.nil (TX.next (TC.region (TO.assign rfl dc rfl (TO.nil (TX.blockNormal ?_))))))
        exact TX.meetD (u7, stayed5 ++ [q1], false, hd8) h rfl (Sbs.cons rfl (Sbs.cons rfl (Sbs.cons rfl (Sbs.cons rfl (Sbs.cons rfl (Sbs.cons rfl (Sbs.cons rfl (Sbs.cons rfl (Sbs.cons rfl (Sbs.nil)))))))))) (Splits.of [0, 1, 2, 3, 4, 5] kr rfl)
      ·
       rintro ⟨u8, stayed6, free4, hd6⟩ h
       rw [hj3] at h
       show TC _ _ _ _ _ ([]) _ _ [(1, .pointer (some ⟨bc0, 0, none⟩)), (2, .pointer (some ⟨b1, 0, none⟩)), (4, hd6.v), (7, .bool free4), (22, .agg #[u1_h0.v, u1_h1.v]), (23, .int .i64 0), (26, u1_h0.v), (27, .int .i64 (u1.low.length : Int)), (28, .int .i64 x3)] [cells bc0 [.map (some bmc0)] 62, mapA (fun p : Gfold_pair => Value.agg #[.int .i32 p.e0, .int .i32 p.e1]) (fun n : Int => Value.int .i32 n) bmc0 Mc0, vec (encI (.i32)) 21 1 u1_h0.v u1.low, vec (encI (.i32)) 21 1 u1_h1.v u1.high, cells b1 [.int .i64 u1.at_, .int .u8 u1.broken, .int .i32 u8, u1_h0.v, u1_h1.v] 73, vec (encI (.i32)) 21 1 hd6.v stayed6]
       refine TC.region ?_
       obtain ⟨hg3, h⟩ := grdE h
       refine TO.bin rfl dc rfl rfl (bin_add (r := x3 + 1) (IntWalk.i64_in _ hg3)) (TO.move rfl dc rfl (TO.nil ?_))
       subst hag1
       exact TX.againD (n1, u8, stayed6, free4, x3 + 1, hd6) h (Nat.lt_succ_self _) rfl (Sbs.cons rfl (Sbs.cons rfl (Sbs.cons rfl (Sbs.cons rfl (Sbs.cons rfl (Sbs.cons rfl (Sbs.cons rfl (Sbs.cons rfl (Sbs.cons rfl (Sbs.nil)))))))))) (Splits.of [0, 1, 2, 3, 4, 5] kr rfl)
     ·
      have h := condF hb2 h
      refine TC.exit (TX.thenExit (TX.thenExit (TX.blockHere (TX.blockNormal ?_))))
      exact TX.meetD (u7, stayed5, hd5) h rfl (Sbs.cons rfl (Sbs.cons rfl (Sbs.cons rfl (Sbs.cons rfl (Sbs.cons rfl (Sbs.nil)))))) (Splits.of [0, 1, 2, 3, 4, 5] kr rfl)
   ·
    rintro ⟨u3, stayed2, hd2⟩ h
    rw [hj2] at h
    show TC _ _ _ _ _ ([]) _ _ [(1, .pointer (some ⟨bc0, 0, none⟩)), (2, .pointer (some ⟨b1, 0, none⟩)), (4, hd2.v), (22, .agg #[u1_h0.v, u1_h1.v]), (23, .int .i64 0)] [cells bc0 [.map (some bmc0)] 62, mapA (fun p : Gfold_pair => Value.agg #[.int .i32 p.e0, .int .i32 p.e1]) (fun n : Int => Value.int .i32 n) bmc0 Mc0, vec (encI (.i32)) 21 1 u1_h0.v u1.low, vec (encI (.i32)) 21 1 u1_h1.v u1.high, cells b1 [.int .i64 u1.at_, .int .u8 u1.broken, .int .i32 u3, u1_h0.v, u1_h1.v] 73, vec (encI (.i32)) 21 1 hd2.v stayed2]
    refine TC.region (TO.bin rfl dc rfl rfl (bin_add (r := 1) dc) (TO.move rfl dc rfl (TO.nil (TX.nextN (TR.succ (TC.seq (TC.region (TO.bin rfl dc rfl rfl (bin_known (show Value.bool (decide ((1 : Int) < 2)) = Value.bool true from congrArg Value.bool dc) bin_lss) (TO.nil (TX.next (TC.seq (TC.condT rfl (TC.skip ?_)))))))))))))
    refine TX.next ?_
    obtain ⟨j4, hj4, h⟩ := joinE h
    refine TC.cutN (β := Int × (List Int) × Hd) 0 rfl (fun b => j4 b.1 b.2.1 = some r) (fun b => []) (fun b => [(1, .pointer (some ⟨bc0, 0, none⟩)), (2, .pointer (some ⟨b1, 0, none⟩)), (4, b.2.2.v), (22, .agg #[u1_h0.v, u1_h1.v]), (23, .int .i64 1)]) (fun b => [cells bc0 [.map (some bmc0)] 62, mapA (fun p : Gfold_pair => Value.agg #[.int .i32 p.e0, .int .i32 p.e1]) (fun n : Int => Value.int .i32 n) bmc0 Mc0, vec (encI (.i32)) 21 1 u1_h0.v u1.low, vec (encI (.i32)) 21 1 u1_h1.v u1.high, cells b1 [.int .i64 u1.at_, .int .u8 u1.broken, .int .i32 b.1, u1_h0.v, u1_h1.v] 73, vec (encI (.i32)) 21 1 b.2.2.v b.2.1]) (fun cut => ?_) ?_
    ·
     refine cut (TC.block (TC.seq (TC.region ?_)))
     refine TO.index (v := u1_h1.v) rfl dc rfl rfl (fun _ => by kernel_rfl) ?_
     refine TO.assign rfl dc rfl (TO.nil (TX.next (TC.seq (TC.region (TO.assign rfl dc rfl (TO.nil (TX.next (TC.seq (TC.region (TO.move rfl dc rfl (TO.lenVec (k := 3) rfl dc rfl rfl Try.underlying25 (TO.move rfl dc rfl (TO.nil ?_)))))))))))))
     refine TX.next (TC.block ?_)
     refine TC.loopD (β := Nat × Int × (List Int) × Bool × Int × Hd) (fun b => loopG (fun _ _ _ _ => none) (fold_Together_1_s2 u1 Mc0 j4) b.1 b.2.1 b.2.2.1 b.2.2.2.1 b.2.2.2.2.1 = some r) (fun b => []) (fun b => [(1, .pointer (some ⟨bc0, 0, none⟩)), (2, .pointer (some ⟨b1, 0, none⟩)), (4, b.2.2.2.2.2.v), (7, .bool b.2.2.2.1), (22, .agg #[u1_h0.v, u1_h1.v]), (23, .int .i64 1), (26, u1_h1.v), (27, .int .i64 (u1.high.length : Int)), (28, .int .i64 b.2.2.2.2.1)]) (fun b => [cells bc0 [.map (some bmc0)] 62, mapA (fun p : Gfold_pair => Value.agg #[.int .i32 p.e0, .int .i32 p.e1]) (fun n : Int => Value.int .i32 n) bmc0 Mc0, vec (encI (.i32)) 21 1 u1_h0.v u1.low, vec (encI (.i32)) 21 1 u1_h1.v u1.high, cells b1 [.int .i64 u1.at_, .int .u8 u1.broken, .int .i32 b.2.1, u1_h0.v, u1_h1.v] 73, vec (encI (.i32)) 21 1 b.2.2.2.2.2.v b.2.2.1]) (fun b => b.1) (fuel, u3, stayed2, true, 0, hd2) h rfl (Sbs.cons rfl (Sbs.cons rfl (Sbs.cons rfl (Sbs.cons rfl (Sbs.cons rfl (Sbs.cons rfl (Sbs.cons rfl (Sbs.cons rfl (Sbs.cons rfl (Sbs.nil)))))))))) (Splits.of [0, 1, 2, 3, 4, 5] kr rfl) ?_
     rintro ⟨n2, u12, stayed10, free7, x6, hd12⟩ h
     cases n2 with
     | zero => exact noneE h
     | succ n2 =>
      obtain ⟨ag2, hag2⟩ : ∃ ag, ag = loopG (fun _ _ _ _ => none) (fold_Together_1_s2 u1 Mc0 j4) n2 := ⟨_, rfl⟩
      have h : fold_Together_1_s2 u1 Mc0 j4 ag2 u12 stayed10 free7 x6 = some r := by rw [hag2]; exact h
      unfold fold_Together_1_s2 at h
      show TC _ _ _ _ _ ([]) _ _ [(1, .pointer (some ⟨bc0, 0, none⟩)), (2, .pointer (some ⟨b1, 0, none⟩)), (4, hd12.v), (7, .bool free7), (22, .agg #[u1_h0.v, u1_h1.v]), (23, .int .i64 1), (26, u1_h1.v), (27, .int .i64 (u1.high.length : Int)), (28, .int .i64 x6)] [cells bc0 [.map (some bmc0)] 62, mapA (fun p : Gfold_pair => Value.agg #[.int .i32 p.e0, .int .i32 p.e1]) (fun n : Int => Value.int .i32 n) bmc0 Mc0, vec (encI (.i32)) 21 1 u1_h0.v u1.low, vec (encI (.i32)) 21 1 u1_h1.v u1.high, cells b1 [.int .i64 u1.at_, .int .u8 u1.broken, .int .i32 u12, u1_h0.v, u1_h1.v] 73, vec (encI (.i32)) 21 1 hd12.v stayed10]
      refine TC.seq (TC.region (TO.bin rfl dc rfl rfl bin_lss (TO.nil (TX.next (TC.seq ?_)))))
      refine TC.condB rfl (fun hb5 => ?_) (fun hb5 => ?_)
      ·
       have h := condT hb5 h
       refine TC.skip (TX.next ?_)
       obtain ⟨j5, hj5, h⟩ := joinE h
       refine TC.cutN (β := Int × (List Int) × Bool × Hd) 0 rfl (fun b => j5 b.1 b.2.1 b.2.2.1 = some r) (fun b => []) (fun b => [(1, .pointer (some ⟨bc0, 0, none⟩)), (2, .pointer (some ⟨b1, 0, none⟩)), (4, b.2.2.2.v), (7, .bool b.2.2.1), (22, .agg #[u1_h0.v, u1_h1.v]), (23, .int .i64 1), (26, u1_h1.v), (27, .int .i64 (u1.high.length : Int)), (28, .int .i64 x6)]) (fun b => [cells bc0 [.map (some bmc0)] 62, mapA (fun p : Gfold_pair => Value.agg #[.int .i32 p.e0, .int .i32 p.e1]) (fun n : Int => Value.int .i32 n) bmc0 Mc0, vec (encI (.i32)) 21 1 u1_h0.v u1.low, vec (encI (.i32)) 21 1 u1_h1.v u1.high, cells b1 [.int .i64 u1.at_, .int .u8 u1.broken, .int .i32 b.1, u1_h0.v, u1_h1.v] 73, vec (encI (.i32)) 21 1 b.2.2.2.v b.2.1]) (fun cut => ?_) ?_
       ·
        refine cut (TC.block (TC.seq (TC.region ?_)))
        obtain ⟨q2, hq3, h⟩ := andE h
        refine TO.indexVecI (k := 3) hq3 Try.underlying25 sz_21 rfl dc rfl rfl rfl rfl (TO.loadVec (i := (x6 : Int).toNat) (j := 0) (k := 3) (q := q2) sc_21 encI_len rfl dc rfl rfl (getO_get hq3) rfl dc rfl (TO.assign rfl dc rfl (TO.nil (TX.next (TC.seq (TC.region (TO.load (k := 0) sc_62 rfl dc rfl rfl rfl (TO.fieldAddr fl_73_2 rfl dc rfl (show _ = 2 from rfl) (TO.load (k := 4) sc_21 rfl dc rfl rfl rfl (TO.move rfl dc rfl ?_))))))))))
        refine TO.build (v := .agg #[.int .i32 u12, .int .i32 q2]) (ps := [(0, .tmp 35), (1, .tmp 36)]) rfl dc rfl (fun _ => by kernel_rfl) ?_
        refine TO.lookupOk (k := 1) (ek := (fun p : Gfold_pair => Value.agg #[.int .i32 p.e0, .int .i32 p.e1])) (ev' := (fun n : Int => Value.int .i32 n)) (kk := (⟨u12, q2⟩ : Gfold_pair)) (z0 := 0) (KeyOk.arr2 (f0 := fun p : Gfold_pair => p.e0) (f1 := fun p : Gfold_pair => p.e1) (fun a b h1 h2 => by cases a; cases b; simp_all) Try.underlying79 Try.underlying21 sz_21) Try.underlying62 kr rfl dc rfl rfl rfl ?_
        refine TO.move rfl dc rfl (TO.extract rfl dc rfl rfl (TO.extract rfl dc rfl rfl (TO.assign rfl dc rfl (TO.assign rfl dc rfl (TO.nil (TX.next (TC.seq (TC.region (TO.move rfl dc rfl (TO.move rfl dc rfl ?_))))))))))
        refine TO.split (s := 42) rfl (fun hb6 => ?_) (fun hb6 => ?_)
        ·
         have h := condT hb6 h
         refine TO.move rfl dc rfl (TO.pick (b := true) rfl dc rfl rfl (TO.nil (TX.next ?_)))
         refine TC.condB rfl (fun hb7 => ?_) (fun hb7 => ?_)
         ·
          have h := condT hb7 h
          refine TC.region (TO.move rfl dc rfl (TO.fieldAddr fl_73_2 rfl dc rfl (show _ = 2 from rfl) ?_))
          refine TO.store (k := 4) (l' := [.int .i64 u1.at_, .int .u8 u1.broken, .int .i32 ((getM (⟨u12, q2⟩ : Gfold_pair) Mc0).getD 0), u1_h0.v, u1_h1.v]) sz_21 rfl rfl rfl rfl rfl (fun _ _ => rfl) rfl ?_
          refine TO.nil (TX.blockNormal ?_)
          exact TX.meetD (((getM (⟨u12, q2⟩ : Gfold_pair) Mc0).getD 0), stayed10, free7, hd12) h rfl (Sbs.cons rfl (Sbs.cons rfl (Sbs.cons rfl (Sbs.cons rfl (Sbs.cons rfl (Sbs.cons rfl (Sbs.cons rfl (Sbs.cons rfl (Sbs.cons rfl (Sbs.nil)))))))))) (Splits.of [0, 1, 2, 3, 4, 5] kr rfl)
         ·
          have h := condF hb7 h
          refine TC.seq (TC.region (TO.move rfl dc rfl (TO.move rfl dc rfl ?_)))
          refine TO.buildSlice (cs := [.int .i32 q2]) (te := 21) (ps := [(0, .tmp 48)]) rfl dc rfl (fun _ => by kernel_rfl) (fun b4 => ?_)
          obtain ⟨hg4, h⟩ := grdE h
          refine TO.appendVec (k := 5) (k2 := 6) (ys := [q2]) Try.underlying25 el_21 encI_len encI_one rfl dc rfl rfl rfl rfl rfl rfl hg4 (fun v3 => ?_)
          refine TO.nameHd (k := 5) rfl (fun hd14 he3 => ?_)
          subst he3
          show TO _ _ _ _ _ _ _ _ _ _ [cells bc0 [.map (some bmc0)] 62, mapA (fun p : Gfold_pair => Value.agg #[.int .i32 p.e0, .int .i32 p.e1]) (fun n : Int => Value.int .i32 n) bmc0 Mc0, vec (encI (.i32)) 21 1 u1_h0.v u1.low, vec (encI (.i32)) 21 1 u1_h1.v u1.high, cells b1 [.int .i64 u1.at_, .int .u8 u1.broken, .int .i32 u12, u1_h0.v, u1_h1.v] 73, vec (encI (.i32)) 21 1 hd14.v (stayed10 ++ [q2]), cells b4 [.int .i32 q2] 21]
          refine TO.assign rfl dc rfl (TO.nil (TX.next (TC.region (TO.assign rfl dc rfl (TO.nil (TX.blockNormal ?_))))))
          exact TX.meetD (u12, stayed10 ++ [q2], false, hd14) h rfl (Sbs.cons rfl (Sbs.cons rfl (Sbs.cons rfl (Sbs.cons rfl (Sbs.cons rfl (Sbs.cons rfl (Sbs.cons rfl (Sbs.cons rfl (Sbs.cons rfl (Sbs.nil)))))))))) (Splits.of [0, 1, 2, 3, 4, 5] kr rfl)
        ·
         have h := condF hb6 h
         refine TO.skip rfl dc (TO.pick (b := false) rfl dc rfl rfl (TO.nil (TX.next (TC.condF rfl (TC.seq (TC.region (TO.move rfl dc rfl (TO.move rfl dc rfl ?_))))))))
         refine TO.buildSlice (cs := [.int .i32 q2]) (te := 21) (ps := [(0, .tmp 48)]) rfl dc rfl (fun _ => by kernel_rfl) (fun b5 => ?_)
         obtain ⟨hg5, h⟩ := grdE h
         refine TO.appendVec (k := 5) (k2 := 6) (ys := [q2]) Try.underlying25 el_21 encI_len encI_one rfl dc rfl rfl rfl rfl rfl rfl hg5 (fun v4 => ?_)
         refine TO.nameHd (k := 5) rfl (fun hd15 he4 => ?_)
         subst he4
         show TO _ _ _ _ _ _ _ _ _ _ [cells bc0 [.map (some bmc0)] 62, mapA (fun p : Gfold_pair => Value.agg #[.int .i32 p.e0, .int .i32 p.e1]) (fun n : Int => Value.int .i32 n) bmc0 Mc0, vec (encI (.i32)) 21 1 u1_h0.v u1.low, vec (encI (.i32)) 21 1 u1_h1.v u1.high, cells b1 [.int .i64 u1.at_, .int .u8 u1.broken, .int .i32 u12, u1_h0.v, u1_h1.v] 73, vec (encI (.i32)) 21 1 hd15.v (stayed10 ++ [q2]), cells b5 [.int .i32 q2] 21]
         refine TO.assign rfl dc rfl (TO.nil (TX.next (TC.region (TO.assign rfl dc rfl (TO.nil (TX.blockNormal ?_))))))
         exact TX.meetD (u12, stayed10 ++ [q2], false, hd15) h rfl (Sbs.cons rfl (Sbs.cons rfl (Sbs.cons rfl (Sbs.cons rfl (Sbs.cons rfl (Sbs.cons rfl (Sbs.cons rfl (Sbs.cons rfl (Sbs.cons rfl (Sbs.nil)))))))))) (Splits.of [0, 1, 2, 3, 4, 5] kr rfl)
       ·
        rintro ⟨u13, stayed11, free8, hd13⟩ h
        rw [hj5] at h
        show TC _ _ _ _ _ ([]) _ _ [(1, .pointer (some ⟨bc0, 0, none⟩)), (2, .pointer (some ⟨b1, 0, none⟩)), (4, hd13.v), (7, .bool free8), (22, .agg #[u1_h0.v, u1_h1.v]), (23, .int .i64 1), (26, u1_h1.v), (27, .int .i64 (u1.high.length : Int)), (28, .int .i64 x6)] [cells bc0 [.map (some bmc0)] 62, mapA (fun p : Gfold_pair => Value.agg #[.int .i32 p.e0, .int .i32 p.e1]) (fun n : Int => Value.int .i32 n) bmc0 Mc0, vec (encI (.i32)) 21 1 u1_h0.v u1.low, vec (encI (.i32)) 21 1 u1_h1.v u1.high, cells b1 [.int .i64 u1.at_, .int .u8 u1.broken, .int .i32 u13, u1_h0.v, u1_h1.v] 73, vec (encI (.i32)) 21 1 hd13.v stayed11]
        refine TC.region ?_
        obtain ⟨hg6, h⟩ := grdE h
        refine TO.bin rfl dc rfl rfl (bin_add (r := x6 + 1) (IntWalk.i64_in _ hg6)) (TO.move rfl dc rfl (TO.nil ?_))
        subst hag2
        exact TX.againD (n2, u13, stayed11, free8, x6 + 1, hd13) h (Nat.lt_succ_self _) rfl (Sbs.cons rfl (Sbs.cons rfl (Sbs.cons rfl (Sbs.cons rfl (Sbs.cons rfl (Sbs.cons rfl (Sbs.cons rfl (Sbs.cons rfl (Sbs.cons rfl (Sbs.nil)))))))))) (Splits.of [0, 1, 2, 3, 4, 5] kr rfl)
      ·
       have h := condF hb5 h
       refine TC.exit (TX.thenExit (TX.thenExit (TX.blockHere (TX.blockNormal ?_))))
       exact TX.meetD (u12, stayed10, hd12) h rfl (Sbs.cons rfl (Sbs.cons rfl (Sbs.cons rfl (Sbs.cons rfl (Sbs.cons rfl (Sbs.nil)))))) (Splits.of [0, 1, 2, 3, 4, 5] kr rfl)
    ·
     rintro ⟨u9, stayed7, hd9⟩ h
     rw [hj4] at h
     show TC _ _ _ _ _ ([]) _ _ [(1, .pointer (some ⟨bc0, 0, none⟩)), (2, .pointer (some ⟨b1, 0, none⟩)), (4, hd9.v), (22, .agg #[u1_h0.v, u1_h1.v]), (23, .int .i64 1)] [cells bc0 [.map (some bmc0)] 62, mapA (fun p : Gfold_pair => Value.agg #[.int .i32 p.e0, .int .i32 p.e1]) (fun n : Int => Value.int .i32 n) bmc0 Mc0, vec (encI (.i32)) 21 1 u1_h0.v u1.low, vec (encI (.i32)) 21 1 u1_h1.v u1.high, cells b1 [.int .i64 u1.at_, .int .u8 u1.broken, .int .i32 u9, u1_h0.v, u1_h1.v] 73, vec (encI (.i32)) 21 1 hd9.v stayed7]
     refine TC.region (TO.bin rfl dc rfl rfl (bin_add (r := 2) dc) (TO.move rfl dc rfl (TO.nil (TX.nextN (TR.succ (TC.seq (TC.region (TO.bin rfl dc rfl rfl (bin_known (show Value.bool (decide ((2 : Int) < 2)) = Value.bool false from congrArg Value.bool dc) bin_lss) (TO.nil (TX.next (TC.seq (TC.condF rfl (TC.exit ?_)))))))))))))
     refine TX.thenExit (TX.thenExit (TX.blockHere ?_))
     exact TX.meetD (u9, stayed7, hd9) h rfl (Sbs.cons rfl (Sbs.cons rfl (Sbs.nil))) (Splits.of [0, 1, 2, 3, 4, 5] kr rfl)
  ·
   rintro ⟨u2, stayed1, hd1⟩ h
   rw [hj1] at h
   show TC _ _ _ _ _ ([]) _ _ [(2, .pointer (some ⟨b1, 0, none⟩)), (4, hd1.v)] [cells bc0 [.map (some bmc0)] 62, mapA (fun p : Gfold_pair => Value.agg #[.int .i32 p.e0, .int .i32 p.e1]) (fun n : Int => Value.int .i32 n) bmc0 Mc0, vec (encI (.i32)) 21 1 u1_h0.v u1.low, vec (encI (.i32)) 21 1 u1_h1.v u1.high, cells b1 [.int .i64 u1.at_, .int .u8 u1.broken, .int .i32 u2, u1_h0.v, u1_h1.v] 73, vec (encI (.i32)) 21 1 hd1.v stayed1]
   refine TC.seq (TC.region (TO.fieldAddr fl_73_2 rfl dc rfl (show _ = 2 from rfl) (TO.load (k := 4) sc_21 rfl dc rfl rfl rfl (TO.conv rfl dc rfl (conv_rune Try.underlying21 Try.underlying9) (TO.move rfl dc rfl (TO.runesStr (k := 5) rfl dc rfl rfl Try.underlying25 Try.underlying21 Try.underlying9 ?_))))))
   obtain ⟨hg7, h⟩ := grdE h
   refine TO.bin rfl dc rfl rfl (bin_sadd hg7) (TO.assign rfl dc rfl (TO.nil (TX.next (TC.ret ?_))))
   cases h
   exact TX.fin (rs := [.tmp 3]) () (.inl rfl) Try.results51 (.cons (.tmp rfl) .nil) rfl (Splits.of [2, 3, 0, 1] kr rfl)
end Go.Proofs.Ythjkafeklflgbaa
namespace Go.Proofs.Ythjkafeklflgbaa
open Go.RowKit Go.Lib
set_option linter.unusedVariables false
set_option linter.unusedSimpArgs false
def fold_written_Together_1_s1 (l1 : List Gfold_unit) (Mof10 : List (Gfold_pair × Int)) (j1 : ByteArray → Option ByteArray) (ag1 : ByteArray → Int → Option ByteArray) (b4 : ByteArray) (x3 : Int) : Option ByteArray := bcond (decide ((x3 : Int) < (l1.length : Int))) ( joinK (fun (j2 : ByteArray → Option ByteArray) => andThen (getO l1 x3) fun (x4 : Gfold_unit) => bcond (decide ((x4.base : Int) < 0)) ( grd (b4.size + 1 ≤ 140737488355328) <| grd (∀ x ∈ ([x4.broken] : List Int), U8 x) <| j2 (b4 ++ (bytesOf [x4.broken]))
) ( andThen (fold_Together_1_v x4 Mof10) fun (r1 : ByteArray) => grd (b4.size + r1.size ≤ 140737488355328) <| j2 (b4 ++ r1)
)
) (fun (b5 : ByteArray) => grd (I64 (x3 + 1)) <| ag1 b5 (x3 + 1)
)
) ( j1 b4
)
def fold_written_Together_1_v (l1 : List Gfold_unit) (Mof10 : List (Gfold_pair × Int)) : Option ByteArray := joinK (fun (j1 : ByteArray → Option ByteArray) => loopG (fun _ _ => none) (fold_written_Together_1_s1 l1 Mof10 j1) fuel ByteArray.empty 0
) (fun (b1 : ByteArray) => some b1
)
set_option maxRecDepth 100000 in
set_option maxHeartbeats 4000000 in
theorem fold_written_Together_1_fn {vvl1 vl1 : Value} {Zl1 : List (Gfold_unit × Hd × Hd)} {kl1 : Nat} {zl1 : List (Gfold_unit × Hd × Hd)} {l1 : List Gfold_unit} (hwl1 : Vw vvl1 Zl1 5 kl1 vl1 zl1) (hzl1 : zl1.map Prod.fst = l1) {bof10 bmof10 : Nat} {Mof10 : List (Gfold_pair × Int)} {r : ByteArray} (h : fold_written_Together_1_v l1 Mof10 = some r) : Fn Try.prog 46 [vl1, .func (.func 51) #[] #[.pointer (some ⟨bof10, 0, none⟩)]] [vec encN_Gfold_unit 73 5 vvl1 Zl1, own nest_Gfold_unit Zl1, cells bof10 [.map (some bmof10)] 62, mapA (fun p : Gfold_pair => Value.agg #[.int .i32 p.e0, .int .i32 p.e1]) (fun n : Int => Value.int .i32 n) bmof10 Mof10] (fun _b : Unit => .string r) (fun _b => [vec encN_Gfold_unit 73 5 vvl1 Zl1, own nest_Gfold_unit Zl1, cells bof10 [.map (some bmof10)] 62, mapA (fun p : Gfold_pair => Value.agg #[.int .i32 p.e0, .int .i32 p.e1]) (fun n : Int => Value.int .i32 n) bmof10 Mof10]) := by
 unfold fold_written_Together_1_v at h
 refine Fn.intro Try.func46 rfl Try.ntmps46 (by simp) ?_
 intro w0 K
 obtain ⟨j1, hj1, h⟩ := joinE h
 refine TC.cutN (β := ByteArray × Value) 2 rfl (fun b => j1 b.1 = some r) (fun b => []) (fun b => [(5, b.2)]) (fun b => [cells bof10 [.map (some bmof10)] 62, mapA (fun p : Gfold_pair => Value.agg #[.int .i32 p.e0, .int .i32 p.e1]) (fun n : Int => Value.int .i32 n) bmof10 Mof10, vec encN_Gfold_unit 73 5 vvl1 Zl1, own nest_Gfold_unit Zl1, byt 5 b.2 b.1]) (fun cut => ?_) ?_
 ·
  refine TC.seq (TC.region (TO.assign rfl dc rfl (TO.nil (TX.next (TC.seq (TC.region (TO.assign rfl dc rfl (TO.nil (TX.next (cut (TC.seq (TC.region (TO.move rfl dc rfl ?_)))))))))))))
  refine TO.lenVwZ hzl1 hwl1 rfl dc rfl Try.underlying70 (TO.move rfl dc rfl (TO.nil (TX.next (TC.block (TC.newByt (e := 5) ?_)))))
  show TC _ _ _ _ _ _ _ _ _ [vec encN_Gfold_unit 73 5 vvl1 Zl1, own nest_Gfold_unit Zl1, cells bof10 [.map (some bmof10)] 62, mapA (fun p : Gfold_pair => Value.agg #[.int .i32 p.e0, .int .i32 p.e1]) (fun n : Int => Value.int .i32 n) bmof10 Mof10, byt 5 (.slice none 0 0) ByteArray.empty]
  refine TC.loopD (β := Nat × ByteArray × Int × Value) (fun b => loopG (fun _ _ => none) (fold_written_Together_1_s1 l1 Mof10 j1) b.1 b.2.1 b.2.2.1 = some r) (fun b => []) (fun b => [(1, .func (.func 51) #[] #[.pointer (some ⟨bof10, 0, none⟩)]), (5, b.2.2.2), (8, vl1), (9, .int .i64 (l1.length : Int)), (10, .int .i64 b.2.2.1)]) (fun b => [cells bof10 [.map (some bmof10)] 62, mapA (fun p : Gfold_pair => Value.agg #[.int .i32 p.e0, .int .i32 p.e1]) (fun n : Int => Value.int .i32 n) bmof10 Mof10, vec encN_Gfold_unit 73 5 vvl1 Zl1, own nest_Gfold_unit Zl1, byt 5 b.2.2.2 b.2.1]) (fun b => b.1) (fuel, ByteArray.empty, 0, (.slice none 0 0)) h rfl (Sbs.cons rfl (Sbs.cons rfl (Sbs.cons rfl (Sbs.cons rfl (Sbs.cons rfl (Sbs.nil)))))) (Splits.of [2, 3, 0, 1, 4] kr rfl) ?_
  rintro ⟨n1, b4, x3, v4⟩ h
  cases n1 with
  | zero => exact noneE h
  | succ n1 =>
   obtain ⟨ag1, hag1⟩ : ∃ ag, ag = loopG (fun _ _ => none) (fold_written_Together_1_s1 l1 Mof10 j1) n1 := ⟨_, rfl⟩
   have h : fold_written_Together_1_s1 l1 Mof10 j1 ag1 b4 x3 = some r := by rw [hag1]; exact h
   unfold fold_written_Together_1_s1 at h
   show TC _ _ _ _ _ ([]) _ _ [(1, .func (.func 51) #[] #[.pointer (some ⟨bof10, 0, none⟩)]), (5, v4), (8, vl1), (9, .int .i64 (l1.length : Int)), (10, .int .i64 x3)] [cells bof10 [.map (some bmof10)] 62, mapA (fun p : Gfold_pair => Value.agg #[.int .i32 p.e0, .int .i32 p.e1]) (fun n : Int => Value.int .i32 n) bmof10 Mof10, vec encN_Gfold_unit 73 5 vvl1 Zl1, own nest_Gfold_unit Zl1, byt 5 v4 b4]
   refine TC.seq (TC.region (TO.bin rfl dc rfl rfl bin_lss (TO.nil (TX.next (TC.seq ?_)))))
   refine TC.condB rfl (fun hb1 => ?_) (fun hb1 => ?_)
   ·
    have h := condT hb1 h
    refine TC.skip (TX.next ?_)
    obtain ⟨j2, hj2, h⟩ := joinE h
    refine TC.cutN (β := ByteArray × Value) 0 rfl (fun b => j2 b.1 = some r) (fun b => []) (fun b => [(1, .func (.func 51) #[] #[.pointer (some ⟨bof10, 0, none⟩)]), (5, b.2), (8, vl1), (9, .int .i64 (l1.length : Int)), (10, .int .i64 x3)]) (fun b => [cells bof10 [.map (some bmof10)] 62, mapA (fun p : Gfold_pair => Value.agg #[.int .i32 p.e0, .int .i32 p.e1]) (fun n : Int => Value.int .i32 n) bmof10 Mof10, vec encN_Gfold_unit 73 5 vvl1 Zl1, own nest_Gfold_unit Zl1, byt 5 b.2 b.1]) (fun cut => ?_) ?_
    ·
     refine cut (TC.block (TC.seq (TC.region ?_)))
     obtain ⟨x4, hq1, h⟩ := andE h
     obtain ⟨⟨eh1, eh2⟩, eq1⟩ := getO_z hzl1 hq1
     refine TO.indexVw hwl1 eq1 Try.underlying70 sz_73 rfl dc rfl rfl rfl (TO.loadsVec (i := kl1 + (x3 : Int).toNat) (j := 0) (k := 2) (q := (x4, (eh1, eh2))) (cs := [.int .i64 x4.at_, .int .u8 x4.broken, .int .i32 x4.base, eh1.v, eh2.v]) rw_73 encN_Gfold_unit_len rfl dc rfl rfl (Vw.get hwl1 eq1) rfl rfl rfl ?_)
     refine TO.alloc zr_73 rfl dc (fun b6 => ?_)
     refine TO.stores (k := 5) (vs := [.int .i64 x4.at_, .int .u8 x4.broken, .int .i32 x4.base, eh1.v, eh2.v]) (l' := [.int .i64 x4.at_, .int .u8 x4.broken, .int .i32 x4.base, eh1.v, eh2.v]) sz_73 rfl rfl rfl rfl rfl (show _ ≤ _ by simp) rfl rfl ?_
     show TO _ _ _ _ _ _ _ _ _ _ [cells bof10 [.map (some bmof10)] 62, mapA (fun p : Gfold_pair => Value.agg #[.int .i32 p.e0, .int .i32 p.e1]) (fun n : Int => Value.int .i32 n) bmof10 Mof10, vec encN_Gfold_unit 73 5 vvl1 Zl1, own nest_Gfold_unit Zl1, byt 5 v4 b4, cells b6 [.int .i64 x4.at_, .int .u8 x4.broken, .int .i32 x4.base, eh1.v, eh2.v] 73]
     refine TO.nil (TX.next (TC.seq (TC.region (TO.fieldAddr fl_73_2 rfl dc rfl (show _ = 2 from rfl) (TO.load (k := 5) sc_21 rfl dc rfl rfl rfl (TO.bin rfl dc rfl rfl bin_lss (TO.nil (TX.next ?_))))))))
     refine TC.condB rfl (fun hb2 => ?_) (fun hb2 => ?_)
     ·
      have h := condT hb2 h
      refine TC.region (TO.move rfl dc rfl (TO.fieldAddr fl_73_1 rfl dc rfl (show _ = 1 from rfl) (TO.load (k := 5) sc_5 rfl dc rfl rfl rfl ?_)))
      refine TO.buildSlice (cs := [.int .u8 x4.broken]) (te := 5) (ps := [(0, .tmp 19)]) rfl dc rfl (fun _ => by kernel_rfl) (fun b7 => ?_)
      obtain ⟨hg1, h⟩ := grdE h
      obtain ⟨hg2, h⟩ := grdE h
      refine TO.appendByt (k := 4) (k2 := 6) (ys := (bytesOf [x4.broken])) Try.underlying69 by_5 rfl dc rfl rfl rfl rfl (strCells_of hg2) rfl hg1 (fun v6 => ?_)
      show TO _ _ _ _ _ _ _ _ _ _ [cells bof10 [.map (some bmof10)] 62, mapA (fun p : Gfold_pair => Value.agg #[.int .i32 p.e0, .int .i32 p.e1]) (fun n : Int => Value.int .i32 n) bmof10 Mof10, vec encN_Gfold_unit 73 5 vvl1 Zl1, own nest_Gfold_unit Zl1, byt 5 v6 (b4 ++ (bytesOf [x4.broken])), cells b6 [.int .i64 x4.at_, .int .u8 x4.broken, .int .i32 x4.base, eh1.v, eh2.v] 73, cells b7 [.int .u8 x4.broken] 5]
      refine TO.assign rfl dc rfl (TO.nil (TX.blockNormal ?_))
      exact TX.meetD (b4 ++ (bytesOf [x4.broken]), v6) h rfl (Sbs.cons rfl (Sbs.cons rfl (Sbs.cons rfl (Sbs.cons rfl (Sbs.cons rfl (Sbs.nil)))))) (Splits.of [0, 1, 2, 3, 4] kr rfl)
     ·
      have h := condF hb2 h
      refine TC.region (TO.move rfl dc rfl (TO.move rfl dc rfl (TO.loads (k := 5) (cs := [.int .i64 x4.at_, .int .u8 x4.broken, .int .i32 x4.base, eh1.v, eh2.v]) rw_73 rfl dc rfl rfl rfl rfl ?_)))
      refine TO.unfold1 (k := 3) rfl (pullE (Vw.get hwl1 eq1)) (fun _ _ => ?_)
      show TO _ _ _ _ _ _ _ _ _ _ [cells bof10 [.map (some bmof10)] 62, mapA (fun p : Gfold_pair => Value.agg #[.int .i32 p.e0, .int .i32 p.e1]) (fun n : Int => Value.int .i32 n) bmof10 Mof10, vec encN_Gfold_unit 73 5 vvl1 Zl1, own nest_Gfold_unit (Zl1.eraseIdx (kl1 + (x3 : Int).toNat)), byt 5 v4 b4, cells b6 [.int .i64 x4.at_, .int .u8 x4.broken, .int .i32 x4.base, eh1.v, eh2.v] 73, vec (encI (.i32)) 21 1 eh1.v x4.low, vec (encI (.i32)) 21 1 eh2.v x4.high]
      obtain ⟨r1, hq2, h⟩ := andE h
      refine TO.callK (v := .string r1) (vs := [.agg #[.int .i64 x4.at_, .int .u8 x4.broken, .int .i32 x4.base, eh1.v, eh2.v]]) rfl dc rfl rfl rfl en_51 (fold_Together_1_fn (u1 := x4) (u1_h0 := eh1) (u1_h1 := eh2) (bmc0 := bmof10) hq2) [6, 7, 0, 1] kr rfl ?_
      obtain ⟨hg3, h⟩ := grdE h
      refine TO.appendStr (k := 4) Try.underlying69 Try.underlying9 by_5 rfl dc rfl rfl rfl hg3 (fun v7 => ?_)
      refine TO.assign rfl dc rfl (TO.nil (TX.blockNormal (TX.fold1 (k := 3) rfl (Splits.of [6, 7] kr rfl) rfl (pushE (nest := nest_Gfold_unit) (Vw.get hwl1 eq1) rfl) ?_)))
      show TX _ _ _ _ _ _ _ [cells bof10 [.map (some bmof10)] 62, mapA (fun p : Gfold_pair => Value.agg #[.int .i32 p.e0, .int .i32 p.e1]) (fun n : Int => Value.int .i32 n) bmof10 Mof10, vec encN_Gfold_unit 73 5 vvl1 Zl1, own nest_Gfold_unit Zl1, byt 5 v7 (b4 ++ r1), cells b6 [.int .i64 x4.at_, .int .u8 x4.broken, .int .i32 x4.base, eh1.v, eh2.v] 73, emp, emp]
      exact TX.meetD (b4 ++ r1, v7) h rfl (Sbs.cons rfl (Sbs.cons rfl (Sbs.cons rfl (Sbs.cons rfl (Sbs.cons rfl (Sbs.nil)))))) (Splits.of [0, 1, 2, 3, 4] kr rfl)
    ·
     rintro ⟨b5, v5⟩ h
     rw [hj2] at h
     show TC _ _ _ _ _ ([]) _ _ [(1, .func (.func 51) #[] #[.pointer (some ⟨bof10, 0, none⟩)]), (5, v5), (8, vl1), (9, .int .i64 (l1.length : Int)), (10, .int .i64 x3)] [cells bof10 [.map (some bmof10)] 62, mapA (fun p : Gfold_pair => Value.agg #[.int .i32 p.e0, .int .i32 p.e1]) (fun n : Int => Value.int .i32 n) bmof10 Mof10, vec encN_Gfold_unit 73 5 vvl1 Zl1, own nest_Gfold_unit Zl1, byt 5 v5 b5]
     refine TC.region ?_
     obtain ⟨hg4, h⟩ := grdE h
     refine TO.bin rfl dc rfl rfl (bin_add (r := x3 + 1) (IntWalk.i64_in _ hg4)) (TO.move rfl dc rfl (TO.nil ?_))
     subst hag1
     exact TX.againD (n1, b5, x3 + 1, v5) h (Nat.lt_succ_self _) rfl (Sbs.cons rfl (Sbs.cons rfl (Sbs.cons rfl (Sbs.cons rfl (Sbs.cons rfl (Sbs.nil)))))) (Splits.of [0, 1, 2, 3, 4] kr rfl)
   ·
    have h := condF hb1 h
    refine TC.exit (TX.thenExit (TX.thenExit (TX.blockHere ?_)))
    exact TX.meetD (b4, v4) h rfl (Sbs.cons rfl (Sbs.nil)) (Splits.of [0, 1, 2, 3, 4] kr rfl)
 ·
  rintro ⟨b1, v1⟩ h
  rw [hj1] at h
  show TC _ _ _ _ _ ([]) _ _ [(5, v1)] [cells bof10 [.map (some bmof10)] 62, mapA (fun p : Gfold_pair => Value.agg #[.int .i32 p.e0, .int .i32 p.e1]) (fun n : Int => Value.int .i32 n) bmof10 Mof10, vec encN_Gfold_unit 73 5 vvl1 Zl1, own nest_Gfold_unit Zl1, byt 5 v1 b1]
  refine TC.seq (TC.region (TO.move rfl dc rfl (TO.bytStr (k := 4) rfl dc rfl rfl Try.underlying69 Try.underlying5 Try.underlying9 (TO.assign rfl dc rfl (TO.nil (TX.next (TC.ret ?_)))))))
  cases h
  exact TX.fin (rs := [.tmp 4]) () (.inl rfl) Try.results46 (.cons (.tmp rfl) .nil) rfl (Splits.of [2, 3, 0, 1] kr rfl)
end Go.Proofs.Ythjkafeklflgbaa
namespace Go.Proofs.Ythjkafeklflgbaa
open Go.RowKit Go.Lib
set_option linter.unusedVariables false
set_option linter.unusedSimpArgs false
def fold_Together_v (s1 : ByteArray) : Option ByteArray := andThen (fold_tables_v) fun (r1 : ((List (Gfold_pair × Int)) × (List (Int × Gfold_pair)))) => andThen (fold_units_v s1) fun (r2 : (List Gfold_unit)) => andThen (fold_written_Together_1_v r2 r1.1) fun (r3 : ByteArray) => some r3
set_option maxRecDepth 100000 in
set_option maxHeartbeats 4000000 in
theorem fold_Together_fn {s1 : ByteArray} {r : ByteArray} (h : fold_Together_v s1 = some r) : FnP Try.prog 23 [.string s1] (.string r) := by
 unfold fold_Together_v at h
 refine FnP.intro Try.func23 rfl Try.ntmps23 (by simp) ?_
 intro w0 K
 refine TC.seq (TC.region (TO.assign rfl dc rfl (TO.nil (TX.next (TC.seq (TC.region ?_))))))
 obtain ⟨r1, hq1, h⟩ := andE h
 refine TO.call (vs := []) rfl dc rfl rfl rfl en_43 (fold_tables_fn hq1) Splits.nil ?_
 rintro ⟨b1, b2⟩
 show TO _ _ _ _ _ _ _ _ _ _ [mapA (fun p : Gfold_pair => Value.agg #[.int .i32 p.e0, .int .i32 p.e1]) (fun n : Int => Value.int .i32 n) b1 r1.1, mapA (fun n : Int => Value.int .i32 n) (fun p : Gfold_pair => Value.agg #[.int .i32 p.e0, .int .i32 p.e1]) b2 r1.2]
 refine TO.weakenL (L' := [mapA (fun p : Gfold_pair => Value.agg #[.int .i32 p.e0, .int .i32 p.e1]) (fun n : Int => Value.int .i32 n) b1 r1.1, mapA (fun n : Int => Value.int .i32 n) (fun p : Gfold_pair => Value.agg #[.int .i32 p.e0, .int .i32 p.e1]) b2 r1.2]) (Splits.of [0, 1] kr rfl) ?_
 refine TO.move rfl dc rfl (TO.extract rfl dc rfl rfl (TO.extract rfl dc rfl rfl ?_))
 refine TO.alloc zr_62 rfl dc (fun b3 => ?_)
 refine TO.store (k := 2) (l' := [.map (some b1)]) sz_62 rfl rfl rfl rfl rfl (fun _ _ => rfl) rfl ?_
 show TO _ _ _ _ _ _ _ _ _ _ [mapA (fun p : Gfold_pair => Value.agg #[.int .i32 p.e0, .int .i32 p.e1]) (fun n : Int => Value.int .i32 n) b1 r1.1, mapA (fun n : Int => Value.int .i32 n) (fun p : Gfold_pair => Value.agg #[.int .i32 p.e0, .int .i32 p.e1]) b2 r1.2, cells b3 [.map (some b1)] 62]
 refine TO.assign rfl dc rfl (TO.nil (TX.next (TC.seq (TC.region (TO.move rfl dc rfl ?_)))))
 obtain ⟨r2, hq2, h⟩ := andE h
 refine TO.call (vs := [.string s1]) rfl dc rfl rfl rfl en_45 (fold_units_fn hq2) Splits.nil ?_
 rintro v1
 show TO _ _ _ _ _ _ _ _ _ _ [mapA (fun p : Gfold_pair => Value.agg #[.int .i32 p.e0, .int .i32 p.e1]) (fun n : Int => Value.int .i32 n) b1 r1.1, mapA (fun n : Int => Value.int .i32 n) (fun p : Gfold_pair => Value.agg #[.int .i32 p.e0, .int .i32 p.e1]) b2 r1.2, cells b3 [.map (some b1)] 62, vecN encN_Gfold_unit nest_Gfold_unit 73 5 v1 r2]
 refine TO.weakenL (L' := [mapA (fun p : Gfold_pair => Value.agg #[.int .i32 p.e0, .int .i32 p.e1]) (fun n : Int => Value.int .i32 n) b1 r1.1, mapA (fun n : Int => Value.int .i32 n) (fun p : Gfold_pair => Value.agg #[.int .i32 p.e0, .int .i32 p.e1]) b2 r1.2, cells b3 [.map (some b1)] 62, vecN encN_Gfold_unit nest_Gfold_unit 73 5 v1 r2]) (Splits.of [0, 1, 2, 3] kr rfl) ?_
 refine TO.nameHdN (k := 3) rfl (fun hd1 he1 => ?_)
 subst he1
 refine TO.makeFunc (x1 := []) (x2 := [.tmp 3]) rfl dc rfl rfl ?_
 refine TO.unfold1 (k := 3) rfl openE (fun zs1 hz1 => ?_)
 show TO _ _ _ _ _ _ _ _ _ _ [mapA (fun p : Gfold_pair => Value.agg #[.int .i32 p.e0, .int .i32 p.e1]) (fun n : Int => Value.int .i32 n) b1 r1.1, mapA (fun n : Int => Value.int .i32 n) (fun p : Gfold_pair => Value.agg #[.int .i32 p.e0, .int .i32 p.e1]) b2 r1.2, cells b3 [.map (some b1)] 62, vec encN_Gfold_unit 73 5 hd1.v zs1, own nest_Gfold_unit zs1]
 refine TO.vecVw (k := 3) rfl (fun hw1 => ?_)
 obtain ⟨r3, hq3, h⟩ := andE h
 refine TO.callK (v := .string r3) (vs := [hd1.v, .func (.func 51) #[] #[.pointer (some ⟨b3, 0, none⟩)]]) rfl dc rfl rfl rfl en_46 (fold_written_Together_1_fn (bmof10 := b1) hw1 hz1 hq3) [3, 4, 2, 0] kr rfl (TO.assign rfl dc rfl (TO.nil (TX.next (TC.ret ?_))))
 cases h
 exact TX.fin (rs := [.tmp 2]) () (.inl rfl) Try.results23 (.cons (.tmp rfl) .nil) rfl Splits.nil
end Go.Proofs.Ythjkafeklflgbaa
namespace Go.Proofs.Ythjkafeklflgbaa
open Go.RowKit Go.Lib
set_option linter.unusedVariables false
set_option linter.unusedSimpArgs false
def ref04_Together_s2 (r2 : (List Gref04_Item)) (j2 : Int → Int → ByteArray → Int → ByteArray → Option ByteArray) (ag2 : Int → Int → ByteArray → Int → ByteArray → Bool → Bool → Int → Option ByteArray) (i7 : Int) (x10 : Int) (x11 : ByteArray) (x12 : Int) (stayed4 : ByteArray) (group5 : Bool) (group6 : Bool) (n4 : Int) : Option ByteArray := bcond (decide ((0 : Int) < n4)) ( joinK (fun (j3 : Int → Option ByteArray) => andThen (getO r2 i7) fun (q2 : Gref04_Item) => andThen (ref04_Low_v q2.Rune) fun (r5 : Bool) => bcond (r5) ( j3 1
) ( j3 0
)
) (fun (k1 : Int) => joinK (fun (j4 : Int → ByteArray → Int → ByteArray → Bool → Bool → Option ByteArray) => andThen (getO r2 i7) fun (q3 : Gref04_Item) => andThen (ref04_Join_v x10 q3.Rune) fun (r6 : Int) => bcond ((r6 : Int) != 0) ( andThen (getO ([group5, group6] : List Bool) k1) fun (q4 : Bool) => bcond (!q4) ( andThen (ref04_of_v r6 (⟨x10, x11, x12⟩ : Gref04_Item)) fun (r7 : Gref04_Item) => j4 r7.Rune r7.Text r7.At stayed4 group5 group6
) ( andThen (getO r2 i7) fun (q5 : Gref04_Item) => grd (stayed4.size + q5.Text.size ≤ 9223372036854775807) <| andThen (getO ([group5, group6] : List Bool) k1) fun (q6 : Bool) => j4 x10 x11 x12 (stayed4 ++ q5.Text) (if (k1 : Int).toNat = 0 then true else group5) (if (k1 : Int).toNat = 1 then true else group6)
)
) ( andThen (getO r2 i7) fun (q7 : Gref04_Item) => grd (stayed4.size + q7.Text.size ≤ 9223372036854775807) <| andThen (getO ([group5, group6] : List Bool) k1) fun (q8 : Bool) => j4 x10 x11 x12 (stayed4 ++ q7.Text) (if (k1 : Int).toNat = 0 then true else group5) (if (k1 : Int).toNat = 1 then true else group6)
)
) (fun (x13 : Int) (x14 : ByteArray) (x15 : Int) (stayed5 : ByteArray) (group7 : Bool) (group8 : Bool) => grd (I64 (i7 + 1)) <| grd (I64 (n4 - 1)) <| ag2 (i7 + 1) x13 x14 x15 stayed5 group7 group8 (n4 - 1)
)
)
) ( j2 i7 x10 x11 x12 stayed4
)
def ref04_Together_s1 (j1 : ByteArray → Option ByteArray) (r2 : (List Gref04_Item)) (ag1 : ByteArray → Int → Option ByteArray) (out4 : ByteArray) (i3 : Int) : Option ByteArray := bcond (decide ((i3 : Int) < (r2.length : Int))) ( andThen (getO r2 i3) fun (q1 : Gref04_Item) => grd (I64 (i3 + 1)) <| andThen (ref04_Item_letter_v q1) fun (r3 : Bool) => bcond (!r3) ( grd (out4.size + q1.Text.size ≤ 9223372036854775807) <| ag1 (out4 ++ q1.Text) (i3 + 1)
) ( joinK (fun (j2 : Int → Int → ByteArray → Int → ByteArray → Option ByteArray) => grd (0 ≤ (i3 + 1 : Int) ∧ (i3 + 1 : Int) ≤ (r2.length : Int) ∧ ((r2.length : Int) : Int) ≤ (r2.length : Int)) <| andThen (ref04_marks_v (cutL r2 (i3 + 1) (r2.length : Int))) fun (r4 : Int) => loopG (fun _ _ _ _ _ _ _ _ => none) (ref04_Together_s2 r2 j2) fuel (i3 + 1) q1.Rune q1.Text q1.At (⟨#[]⟩ : ByteArray) false false r4
) (fun (i4 : Int) (x1 : Int) (x2 : ByteArray) (x3 : Int) (stayed1 : ByteArray) => grd (x2.size + stayed1.size ≤ 9223372036854775807) <| grd (out4.size + (x2 ++ stayed1).size ≤ 9223372036854775807) <| ag1 (out4 ++ (x2 ++ stayed1)) i4
)
)
) ( j1 out4
)
def ref04_Together_v (s1 : ByteArray) : Option ByteArray := joinK (fun (j1 : ByteArray → Option ByteArray) => andThen (ref04_Items_v s1) fun (r1 : (List Gref04_Item)) => andThen (ref04_apart_v r1) fun (r2 : (List Gref04_Item)) => loopG (fun _ _ => none) (ref04_Together_s1 j1 r2) fuel (⟨#[]⟩ : ByteArray) 0
) (fun (out1 : ByteArray) => some out1
)
set_option maxRecDepth 100000 in
set_option maxHeartbeats 4000000 in
theorem ref04_Together_fn {s1 : ByteArray} {r : ByteArray} (h : ref04_Together_v s1 = some r) : FnP Try.prog 24 [.string s1] (.string r) := by
 unfold ref04_Together_v at h
 refine FnP.intro Try.func24 rfl Try.ntmps24 (by simp) ?_
 intro w0 K
 obtain ⟨j1, hj1, h⟩ := joinE h
 refine TC.cutN (β := ByteArray) 3 rfl (fun b => j1 b = some r) (fun b => []) (fun b => [(4, .string b)]) (fun b => []) (fun cut => ?_) ?_
 ·
  refine TC.seq (TC.region (TO.assign rfl dc rfl (TO.nil (TX.next (TC.seq (TC.region (TO.move rfl dc rfl ?_)))))))
  obtain ⟨r1, hq1, h⟩ := andE h
  refine TO.call (vs := [.string s1]) rfl dc rfl rfl rfl en_50 (ref04_Items_fn hq1) Splits.nil ?_
  rintro v1
  show TO _ _ _ _ _ _ _ _ _ _ [vec enc_Gref04_Item 68 3 v1 r1]
  refine TO.vecVw (k := 0) rfl (fun hw1 => ?_)
  obtain ⟨r2, hq2, h⟩ := andE h
  refine TO.call (vs := [v1]) rfl dc rfl rfl rfl en_49 (ref04_apart_fn hw1 hq2) (Splits.of [0] kr rfl) ?_
  rintro v2
  show TO _ _ _ _ _ _ _ _ _ _ [emp, vec enc_Gref04_Item 68 3 v1 r1, vec enc_Gref04_Item 68 3 v2 r2]
  refine TO.assign rfl dc rfl (TO.nil (TX.next (TC.seq (TC.region (TO.assign rfl dc rfl (TO.nil (TX.next (cut (TC.seq (TC.region (TO.assign rfl dc rfl (TO.nil (TX.next ?_)))))))))))))
  refine TC.block ?_
  refine TC.loopD (β := Nat × ByteArray × Int) (fun b => loopG (fun _ _ => none) (ref04_Together_s1 j1 r2) b.1 b.2.1 b.2.2 = some r) (fun b => []) (fun b => [(3, v2), (4, .string b.2.1), (5, .int .i64 b.2.2)]) (fun b => [vec enc_Gref04_Item 68 3 v2 r2]) (fun b => b.1) (fuel, (⟨#[]⟩ : ByteArray), 0) h rfl (Sbs.cons rfl (Sbs.cons rfl (Sbs.cons rfl (Sbs.nil)))) (Splits.of [2] kr rfl) ?_
  rintro ⟨n1, out4, i3⟩ h
  cases n1 with
  | zero => exact noneE h
  | succ n1 =>
   obtain ⟨ag1, hag1⟩ : ∃ ag, ag = loopG (fun _ _ => none) (ref04_Together_s1 j1 r2) n1 := ⟨_, rfl⟩
   have h : ref04_Together_s1 j1 r2 ag1 out4 i3 = some r := by rw [hag1]; exact h
   unfold ref04_Together_s1 at h
   show TC _ _ _ _ _ ([]) _ _ [(3, v2), (4, .string out4), (5, .int .i64 i3)] [vec enc_Gref04_Item 68 3 v2 r2]
   refine TC.seq (TC.seq (TC.region (TO.move rfl dc rfl (TO.move rfl dc rfl (TO.lenVec (k := 0) rfl dc rfl rfl Try.underlying60 (TO.bin rfl dc rfl rfl bin_lss (TO.nil (TX.next ?_))))))))
   refine TC.condB rfl (fun hb1 => ?_) (fun hb1 => ?_)
   ·
    have h := condT hb1 h
    refine TC.skip (TX.next (TC.block (TC.seq (TC.region (TO.move rfl dc rfl (TO.move rfl dc rfl ?_))))))
    obtain ⟨q1, hq3, h⟩ := andE h
    refine TO.indexVecI (k := 0) hq3 Try.underlying60 sz_68 rfl dc rfl rfl rfl rfl (TO.loadsVec (i := (i3 : Int).toNat) (j := 0) (k := 0) (q := q1) (cs := [.int .i32 q1.Rune, .string q1.Text, .int .i64 q1.At]) rw_68 enc_Gref04_Item_len rfl dc rfl rfl (getO_get hq3) rfl rfl rfl ?_)
    refine TO.alloc zr_68 rfl dc (fun b1 => ?_)
    refine TO.stores (k := 1) (vs := [.int .i32 q1.Rune, .string q1.Text, .int .i64 q1.At]) (l' := [.int .i32 q1.Rune, .string q1.Text, .int .i64 q1.At]) sz_68 rfl rfl rfl rfl rfl (show _ ≤ _ by simp) rfl rfl ?_
    show TO _ _ _ _ _ _ _ _ _ _ [vec enc_Gref04_Item 68 3 v2 r2, cells b1 [.int .i32 q1.Rune, .string q1.Text, .int .i64 q1.At] 68]
    refine TO.nil (TX.next (TC.seq (TC.region (TO.move rfl dc rfl ?_))))
    obtain ⟨hg1, h⟩ := grdE h
    refine TO.bin rfl dc rfl rfl (bin_add (r := i3 + 1) (IntWalk.i64_in _ hg1)) (TO.assign rfl dc rfl (TO.nil (TX.next (TC.seq (TC.seq (TC.region (TO.loads (k := 1) (cs := [.int .i32 q1.Rune, .string q1.Text, .int .i64 q1.At]) rw_68 rfl dc rfl rfl rfl rfl ?_)))))))
    obtain ⟨r3, hq4, h⟩ := andE h
    refine TO.callP (v := .bool r3) (vs := [.agg #[.int .i32 q1.Rune, .string q1.Text, .int .i64 q1.At]]) rfl dc rfl rfl rfl en_53 (ref04_Item_letter_fn (x1 := q1) hq4) (TO.un rfl dc rfl un_not (TO.nil (TX.next ?_)))
    refine TC.condB rfl (fun hb2 => ?_) (fun hb2 => ?_)
    ·
     have h := condT hb2 h
     refine TC.seq (TC.region (TO.move rfl dc rfl (TO.fieldAddr fl_68_1 rfl dc rfl (show _ = 1 from rfl) (TO.load (k := 1) sc_9 rfl dc rfl rfl rfl ?_))))
     obtain ⟨hg2, h⟩ := grdE h
     refine TO.bin rfl dc rfl rfl (bin_sadd hg2) (TO.assign rfl dc rfl (TO.nil (TX.next (TC.exit (TX.thenExit (TX.blockHere ?_))))))
     subst hag1
     exact TX.againD (n1, out4 ++ q1.Text, i3 + 1) h (Nat.lt_succ_self _) rfl (Sbs.cons rfl (Sbs.cons rfl (Sbs.cons rfl (Sbs.nil)))) (Splits.of [0] kr rfl)
    ·
     have h := condF hb2 h
     refine TC.skip (TX.next ?_)
     obtain ⟨j2, hj2, h⟩ := joinE h
     refine TC.cutN (β := Int × Int × ByteArray × Int × ByteArray) 2 rfl (fun b => j2 b.1 b.2.1 b.2.2.1 b.2.2.2.1 b.2.2.2.2 = some r) (fun b => []) (fun b => [(3, v2), (4, .string out4), (5, .int .i64 b.1), (6, .pointer (some ⟨b1, 0, none⟩)), (7, .string b.2.2.2.2)]) (fun b => [vec enc_Gref04_Item 68 3 v2 r2, cells b1 [.int .i32 b.2.1, .string b.2.2.1, .int .i64 b.2.2.2.1] 68]) (fun cut => ?_) ?_
     ·
      refine TC.seq (TC.region (TO.assign rfl dc rfl (TO.nil (TX.next (TC.seq (TC.region ?_))))))
      refine TO.build (v := .agg #[.bool false, .bool false]) (ps := []) rfl dc rfl (fun _ => by kernel_rfl) ?_
      refine TO.alloc zr_80 rfl dc (fun b2 => ?_)
      refine TO.stores (k := 2) (vs := [.bool false, .bool false]) (l' := [.bool false, .bool false]) sz_80 rfl rfl rfl rfl rfl (show _ ≤ _ by simp) rfl rfl ?_
      show TO _ _ _ _ _ _ _ _ _ _ [vec enc_Gref04_Item 68 3 v2 r2, cells b1 [.int .i32 q1.Rune, .string q1.Text, .int .i64 q1.At] 68, cells b2 [.bool false, .bool false] 80]
      refine TO.nil (TX.next (cut (TC.seq (TC.region (TO.move rfl dc rfl (TO.move rfl dc rfl ?_))))))
      refine TO.vecVw (k := 0) rfl (fun hw2 => ?_)
      obtain ⟨hg3, h⟩ := grdE h
      obtain ⟨v3, hv1, hs1⟩ := slice_Vw (lo := some (.int .i64 (i3 + 1))) (hi := none) hw2 Try.underlying60 sz_68 (.inr rfl) (.inl ⟨rfl, rfl⟩) hg3
      refine TO.slice rfl dc rfl rfl rfl hs1 ?_
      obtain ⟨r4, hq5, h⟩ := andE h
      refine TO.callK (v := .int .i64 r4) (vs := [v3]) rfl dc rfl rfl rfl en_54 (ref04_marks_fn hv1 hq5) [0] kr rfl (TO.assign rfl dc rfl (TO.nil (TX.next (TC.block ?_))))
      refine TC.loopD (β := Nat × Int × Int × ByteArray × Int × ByteArray × Bool × Bool × Int) (fun b => loopG (fun _ _ _ _ _ _ _ _ => none) (ref04_Together_s2 r2 j2) b.1 b.2.1 b.2.2.1 b.2.2.2.1 b.2.2.2.2.1 b.2.2.2.2.2.1 b.2.2.2.2.2.2.1 b.2.2.2.2.2.2.2.1 b.2.2.2.2.2.2.2.2 = some r) (fun b => []) (fun b => [(3, v2), (4, .string out4), (5, .int .i64 b.2.1), (6, .pointer (some ⟨b1, 0, none⟩)), (7, .string b.2.2.2.2.2.1), (8, .pointer (some ⟨b2, 0, none⟩)), (9, .int .i64 b.2.2.2.2.2.2.2.2)]) (fun b => [vec enc_Gref04_Item 68 3 v2 r2, cells b1 [.int .i32 b.2.2.1, .string b.2.2.2.1, .int .i64 b.2.2.2.2.1] 68, cells b2 [.bool b.2.2.2.2.2.2.1, .bool b.2.2.2.2.2.2.2.1] 80]) (fun b => b.1) (fuel, i3 + 1, q1.Rune, q1.Text, q1.At, (⟨#[]⟩ : ByteArray), false, false, r4) h rfl (Sbs.cons rfl (Sbs.cons rfl (Sbs.cons rfl (Sbs.cons rfl (Sbs.cons rfl (Sbs.cons rfl (Sbs.cons rfl (Sbs.nil)))))))) (Splits.of [0, 1, 2] kr rfl) ?_
      rintro ⟨n5, i7, x10, x11, x12, stayed4, group5, group6, n4⟩ h
      cases n5 with
      | zero => exact noneE h
      | succ n5 =>
       obtain ⟨ag2, hag2⟩ : ∃ ag, ag = loopG (fun _ _ _ _ _ _ _ _ => none) (ref04_Together_s2 r2 j2) n5 := ⟨_, rfl⟩
       have h : ref04_Together_s2 r2 j2 ag2 i7 x10 x11 x12 stayed4 group5 group6 n4 = some r := by rw [hag2]; exact h
       unfold ref04_Together_s2 at h
       show TC _ _ _ _ _ ([]) _ _ [(3, v2), (4, .string out4), (5, .int .i64 i7), (6, .pointer (some ⟨b1, 0, none⟩)), (7, .string stayed4), (8, .pointer (some ⟨b2, 0, none⟩)), (9, .int .i64 n4)] [vec enc_Gref04_Item 68 3 v2 r2, cells b1 [.int .i32 x10, .string x11, .int .i64 x12] 68, cells b2 [.bool group5, .bool group6] 80]
       refine TC.seq (TC.seq (TC.region (TO.move rfl dc rfl (TO.bin rfl dc rfl rfl bin_gtr (TO.nil (TX.next ?_))))))
       refine TC.condB rfl (fun hb3 => ?_) (fun hb3 => ?_)
       ·
        have h := condT hb3 h
        refine TC.skip (TX.next (TC.seq (TC.block ?_)))
        obtain ⟨j3, hj3, h⟩ := joinE h
        refine TC.cutN (β := Int) 1 rfl (fun b => j3 b = some r) (fun b => []) (fun b => [(3, v2), (4, .string out4), (5, .int .i64 i7), (6, .pointer (some ⟨b1, 0, none⟩)), (7, .string stayed4), (8, .pointer (some ⟨b2, 0, none⟩)), (9, .int .i64 n4), (10, .int .i64 b)]) (fun b => [vec enc_Gref04_Item 68 3 v2 r2, cells b1 [.int .i32 x10, .string x11, .int .i64 x12] 68, cells b2 [.bool group5, .bool group6] 80]) (fun cut => ?_) ?_
        ·
         refine TC.seq (TC.region (TO.assign rfl dc rfl (TO.nil (TX.next (cut (TC.seq (TC.region (TO.move rfl dc rfl (TO.move rfl dc rfl ?_)))))))))
         obtain ⟨q2, hq6, h⟩ := andE h
         refine TO.indexVecI (k := 0) hq6 Try.underlying60 sz_68 rfl dc rfl rfl rfl rfl (TO.fieldAddr fl_68_0 rfl dc rfl (show _ = ((i7 : Int).toNat) * 3 from rfl) (TO.loadVec (i := (i7 : Int).toNat) (j := 0) (k := 0) (q := q2) sc_21 enc_Gref04_Item_len rfl dc rfl rfl (getO_get hq6) rfl dc rfl ?_))
         obtain ⟨r5, hq7, h⟩ := andE h
         refine TO.callP (v := .bool r5) (vs := [.int .i32 q2.Rune]) rfl dc rfl rfl rfl en_36 (ref04_Low_fn hq7) (TO.nil (TX.next ?_))
         refine TC.condB rfl (fun hb4 => ?_) (fun hb4 => ?_)
         ·
          have h := condT hb4 h
          refine TC.region (TO.assign rfl dc rfl (TO.nil ?_))
          exact TX.meetD 1 h rfl (Sbs.cons rfl (Sbs.cons rfl (Sbs.cons rfl (Sbs.cons rfl (Sbs.cons rfl (Sbs.cons rfl (Sbs.cons rfl (Sbs.cons rfl (Sbs.nil))))))))) (Splits.of [0, 1, 2] kr rfl)
         ·
          have h := condF hb4 h
          refine TC.skip ?_
          exact TX.meetD 0 h rfl (Sbs.cons rfl (Sbs.cons rfl (Sbs.cons rfl (Sbs.cons rfl (Sbs.cons rfl (Sbs.cons rfl (Sbs.cons rfl (Sbs.cons rfl (Sbs.nil))))))))) (Splits.of [0, 1, 2] kr rfl)
        ·
         rintro k1 h
         rw [hj3] at h
         show TC _ _ _ _ _ ([]) _ _ [(3, v2), (4, .string out4), (5, .int .i64 i7), (6, .pointer (some ⟨b1, 0, none⟩)), (7, .string stayed4), (8, .pointer (some ⟨b2, 0, none⟩)), (9, .int .i64 n4), (10, .int .i64 k1)] [vec enc_Gref04_Item 68 3 v2 r2, cells b1 [.int .i32 x10, .string x11, .int .i64 x12] 68, cells b2 [.bool group5, .bool group6] 80]
         obtain ⟨j4, hj4, h⟩ := joinE h
         refine TC.cutN (β := Int × ByteArray × Int × ByteArray × Bool × Bool) 0 rfl (fun b => j4 b.1 b.2.1 b.2.2.1 b.2.2.2.1 b.2.2.2.2.1 b.2.2.2.2.2 = some r) (fun b => []) (fun b => [(3, v2), (4, .string out4), (5, .int .i64 i7), (6, .pointer (some ⟨b1, 0, none⟩)), (7, .string b.2.2.2.1), (8, .pointer (some ⟨b2, 0, none⟩)), (9, .int .i64 n4)]) (fun b => [vec enc_Gref04_Item 68 3 v2 r2, cells b1 [.int .i32 b.1, .string b.2.1, .int .i64 b.2.2.1] 68, cells b2 [.bool b.2.2.2.2.1, .bool b.2.2.2.2.2] 80]) (fun cut => ?_) ?_
         ·
          refine cut (TC.seq ?_)
          obtain ⟨q3, hq8, h⟩ := andE h
          obtain ⟨r6, hq9, h⟩ := andE h
          refine TC.drawN 7 [(0, 47, .pointer (some ⟨b1, 0, none⟩)), (1, 48, .int .i32 x10), (2, 49, v2), (3, 50, .int .i64 i7), (4, 51, .pointer (some ⟨vblk v2, (i7 : Int).toNat * 3, none⟩)), (5, 52, .pointer (some ⟨vblk v2, ((i7 : Int).toNat) * 3, none⟩)), (6, 53, .int .i32 q3.Rune)] mixed kr kr dc (by rfl) kr kr (DrawPre.cons ?_ (DrawPre.cons ?_ (DrawPre.cons ?_ (DrawPre.cons ?_ (DrawPre.cons ?_ (DrawPre.cons ?_ (DrawPre.cons ?_ DrawPre.nil))))))) ?_
          ·
           intro D hn hd hcl hu hi
           refine TO.fieldAddr fl_68_0 rfl dc (dl_old (by rfl) rfl) (show _ = 0 from rfl) ?_
           exact TX.quiet 0 hu hi rfl
          ·
           intro D hn hd hcl hu hi
           refine TO.load (k := 1) sc_21 rfl dc (dl_lookup (m := 0) hu rfl (hd 0 dc)) rfl rfl ?_
           exact TX.quiet 1 hu hi rfl
          ·
           intro D hn hd hcl hu hi
           refine TO.move rfl dc (dl_old (by rfl) rfl) ?_
           exact TX.quiet 2 hu hi rfl
          ·
           intro D hn hd hcl hu hi
           refine TO.move rfl dc (dl_old (by rfl) rfl) ?_
           exact TX.quiet 3 hu hi rfl
          ·
           intro D hn hd hcl hu hi
           refine TO.indexVecI (k := 0) hq8 Try.underlying60 sz_68 rfl dc (dl_lookup (m := 2) hu rfl (hd 2 dc)) (dl_lookup (m := 3) hu rfl (hd 3 dc)) rfl rfl ?_
           exact TX.quiet 4 hu hi rfl
          ·
           intro D hn hd hcl hu hi
           refine TO.fieldAddr fl_68_0 rfl dc (dl_lookup (m := 4) hu rfl (hd 4 dc)) (show _ = ((i7 : Int).toNat) * 3 from rfl) ?_
           exact TX.quiet 5 hu hi rfl
          ·
           intro D hn hd hcl hu hi
           refine TO.loadVec (i := (i7 : Int).toNat) (j := 0) (k := 0) (q := q3) sc_21 enc_Gref04_Item_len rfl dc (dl_lookup (m := 5) hu rfl (hd 5 dc)) rfl (getO_get hq8) rfl dc rfl ?_
           exact TX.quiet 6 hu hi rfl
          refine TO.callP (v := .int .i32 r6) (vs := [.int .i32 x10, .int .i32 q3.Rune]) rfl dc rfl rfl rfl en_34 (ref04_Join_fn hq9) (TO.assign rfl dc rfl (TO.nil (TX.next (TC.seq (TC.region (TO.move rfl dc rfl (TO.bin rfl dc rfl rfl bin_neq (TO.move rfl dc rfl ?_))))))))
          refine TO.split (s := 57) rfl (fun hb5 => ?_) (fun hb5 => ?_)
          ·
           have h := condT hb5 h
           refine TO.move rfl dc rfl ?_
           obtain ⟨q4, hq10, h⟩ := andE h
           refine TO.indexArr (getO_pos hq10) Try.underlying80 sz_4 rfl dc rfl rfl (Nat.zero_add _) (TO.toVec (enc := encB) (size := 1) ([group5, group6] : List Bool) (k := 2) rfl encB_len rfl (show 2 ≤ maxLen by decide) ?_)
           show TO _ _ _ _ _ _ _ _ _ _ [vec enc_Gref04_Item 68 3 v2 r2, cells b1 [.int .i32 x10, .string x11, .int .i64 x12] 68, vec encB 80 1 (.slice (some ⟨b2, 0, none⟩) 2 2) ([group5, group6] : List Bool)]
           refine TO.loadVec (i := (k1 : Int).toNat) (j := 0) (k := 2) (q := q4) sc_4 encB_len rfl dc rfl rfl (getO_get hq10) rfl dc rfl (TO.ent (k := 2) rfl (Ent.fromVecs (by rfl)) ?_)
           show TO _ _ _ _ _ _ _ _ _ _ [vec enc_Gref04_Item 68 3 v2 r2, cells b1 [.int .i32 x10, .string x11, .int .i64 x12] 68, cells b2 [.bool group5, .bool group6] 80]
           refine TO.un rfl dc rfl un_not (TO.pick (b := true) rfl dc rfl rfl (TO.nil (TX.next ?_)))
           refine TC.condB rfl (fun hb6 => ?_) (fun hb6 => ?_)
           ·
            have h := condT hb6 h
            refine TC.region (TO.move rfl dc rfl (TO.loads (k := 1) (cs := [.int .i32 x10, .string x11, .int .i64 x12]) rw_68 rfl dc rfl rfl rfl rfl ?_))
            obtain ⟨r7, hq11, h⟩ := andE h
            refine TO.callP (v := .agg #[.int .i32 r7.Rune, .string r7.Text, .int .i64 r7.At]) (vs := [.int .i32 r6, .agg #[.int .i32 x10, .string x11, .int .i64 x12]]) rfl dc rfl rfl rfl en_55 (ref04_of_fn (x1 := (⟨x10, x11, x12⟩ : Gref04_Item)) hq11) (TO.stores (k := 1) (vs := [.int .i32 r7.Rune, .string r7.Text, .int .i64 r7.At]) (l' := [.int .i32 r7.Rune, .string r7.Text, .int .i64 r7.At]) sz_68 rfl rfl rfl rfl rfl (show _ ≤ _ by simp) rfl rfl (TO.nil ?_))
            exact TX.meetD (r7.Rune, r7.Text, r7.At, stayed4, group5, group6) h rfl (Sbs.cons rfl (Sbs.cons rfl (Sbs.cons rfl (Sbs.cons rfl (Sbs.cons rfl (Sbs.cons rfl (Sbs.cons rfl (Sbs.nil)))))))) (Splits.of [0, 1, 2] kr rfl)
           ·
            have h := condF hb6 h
            refine TC.seq (TC.region (TO.move rfl dc rfl (TO.move rfl dc rfl (TO.move rfl dc rfl ?_))))
            obtain ⟨q5, hq12, h⟩ := andE h
            refine TO.indexVecI (k := 0) hq12 Try.underlying60 sz_68 rfl dc rfl rfl rfl rfl (TO.fieldAddr fl_68_1 rfl dc rfl (show _ = ((i7 : Int).toNat) * 3 + 1 from rfl) (TO.loadVec (i := (i7 : Int).toNat) (j := 1) (k := 0) (q := q5) sc_9 enc_Gref04_Item_len rfl dc rfl rfl (getO_get hq12) rfl dc rfl ?_))
            obtain ⟨hg4, h⟩ := grdE h
            refine TO.bin rfl dc rfl rfl (bin_sadd hg4) (TO.assign rfl dc rfl (TO.nil (TX.next (TC.region (TO.move rfl dc rfl ?_)))))
            obtain ⟨q6, hq13, h⟩ := andE h
            refine TO.indexArr (getO_pos hq13) Try.underlying80 sz_4 rfl dc rfl rfl (Nat.zero_add _) (TO.toVec (enc := encB) (size := 1) ([group5, group6] : List Bool) (k := 2) rfl encB_len rfl (show 2 ≤ maxLen by decide) ?_)
            show TO _ _ _ _ _ _ _ _ _ _ [vec enc_Gref04_Item 68 3 v2 r2, cells b1 [.int .i32 x10, .string x11, .int .i64 x12] 68, vec encB 80 1 (.slice (some ⟨b2, 0, none⟩) 2 2) ([group5, group6] : List Bool)]
            refine TO.storeVec (i := (k1 : Int).toNat) (j := 0) (k := 2) (q := q6) (q' := true) sz_4 encB_len rfl rfl rfl rfl (getO_get hq13) rfl dc rfl (fun _ _ => rfl) ?_
            refine TO.rewE (k := 2) rfl (congrArg (vec encB 80 1 (.slice (some ⟨b2, 0, none⟩) 2 2)) (show _ = ([(if (k1 : Int).toNat = 0 then true else group5), (if (k1 : Int).toNat = 1 then true else group6)] : List Bool) from set_ifs _ _ _)) (TO.ent (k := 2) rfl (Ent.fromVecs (by rfl)) ?_)
            show TO _ _ _ _ _ _ _ _ _ _ [vec enc_Gref04_Item 68 3 v2 r2, cells b1 [.int .i32 x10, .string x11, .int .i64 x12] 68, cells b2 [.bool (if (k1 : Int).toNat = 0 then true else group5), .bool (if (k1 : Int).toNat = 1 then true else group6)] 80]
            refine TO.nil ?_
            exact TX.meetD (x10, x11, x12, stayed4 ++ q5.Text, if (k1 : Int).toNat = 0 then true else group5, if (k1 : Int).toNat = 1 then true else group6) h rfl (Sbs.cons rfl (Sbs.cons rfl (Sbs.cons rfl (Sbs.cons rfl (Sbs.cons rfl (Sbs.cons rfl (Sbs.cons rfl (Sbs.nil)))))))) (Splits.of [0, 1, 2] kr rfl)
          ·
           have h := condF hb5 h
           refine TO.skip rfl dc (TO.skip rfl dc (TO.skip rfl dc (TO.skip rfl dc (TO.pick (b := false) rfl dc rfl rfl (TO.nil (TX.next (TC.condF rfl (TC.seq (TC.region (TO.move rfl dc rfl (TO.move rfl dc rfl (TO.move rfl dc rfl ?_))))))))))))
           obtain ⟨q7, hq14, h⟩ := andE h
           refine TO.indexVecI (k := 0) hq14 Try.underlying60 sz_68 rfl dc rfl rfl rfl rfl (TO.fieldAddr fl_68_1 rfl dc rfl (show _ = ((i7 : Int).toNat) * 3 + 1 from rfl) (TO.loadVec (i := (i7 : Int).toNat) (j := 1) (k := 0) (q := q7) sc_9 enc_Gref04_Item_len rfl dc rfl rfl (getO_get hq14) rfl dc rfl ?_))
           obtain ⟨hg5, h⟩ := grdE h
           refine TO.bin rfl dc rfl rfl (bin_sadd hg5) (TO.assign rfl dc rfl (TO.nil (TX.next (TC.region (TO.move rfl dc rfl ?_)))))
           obtain ⟨q8, hq15, h⟩ := andE h
           refine TO.indexArr (getO_pos hq15) Try.underlying80 sz_4 rfl dc rfl rfl (Nat.zero_add _) (TO.toVec (enc := encB) (size := 1) ([group5, group6] : List Bool) (k := 2) rfl encB_len rfl (show 2 ≤ maxLen by decide) ?_)
           show TO _ _ _ _ _ _ _ _ _ _ [vec enc_Gref04_Item 68 3 v2 r2, cells b1 [.int .i32 x10, .string x11, .int .i64 x12] 68, vec encB 80 1 (.slice (some ⟨b2, 0, none⟩) 2 2) ([group5, group6] : List Bool)]
           refine TO.storeVec (i := (k1 : Int).toNat) (j := 0) (k := 2) (q := q8) (q' := true) sz_4 encB_len rfl rfl rfl rfl (getO_get hq15) rfl dc rfl (fun _ _ => rfl) ?_
           refine TO.rewE (k := 2) rfl (congrArg (vec encB 80 1 (.slice (some ⟨b2, 0, none⟩) 2 2)) (show _ = ([(if (k1 : Int).toNat = 0 then true else group5), (if (k1 : Int).toNat = 1 then true else group6)] : List Bool) from set_ifs _ _ _)) (TO.ent (k := 2) rfl (Ent.fromVecs (by rfl)) ?_)
           show TO _ _ _ _ _ _ _ _ _ _ [vec enc_Gref04_Item 68 3 v2 r2, cells b1 [.int .i32 x10, .string x11, .int .i64 x12] 68, cells b2 [.bool (if (k1 : Int).toNat = 0 then true else group5), .bool (if (k1 : Int).toNat = 1 then true else group6)] 80]
           refine TO.nil ?_
           exact TX.meetD (x10, x11, x12, stayed4 ++ q7.Text, if (k1 : Int).toNat = 0 then true else group5, if (k1 : Int).toNat = 1 then true else group6) h rfl (Sbs.cons rfl (Sbs.cons rfl (Sbs.cons rfl (Sbs.cons rfl (Sbs.cons rfl (Sbs.cons rfl (Sbs.cons rfl (Sbs.nil)))))))) (Splits.of [0, 1, 2] kr rfl)
         ·
          rintro ⟨x13, x14, x15, stayed5, group7, group8⟩ h
          rw [hj4] at h
          show TC _ _ _ _ _ ([]) _ _ [(3, v2), (4, .string out4), (5, .int .i64 i7), (6, .pointer (some ⟨b1, 0, none⟩)), (7, .string stayed5), (8, .pointer (some ⟨b2, 0, none⟩)), (9, .int .i64 n4)] [vec enc_Gref04_Item 68 3 v2 r2, cells b1 [.int .i32 x13, .string x14, .int .i64 x15] 68, cells b2 [.bool group7, .bool group8] 80]
          refine TC.region (TO.move rfl dc rfl ?_)
          obtain ⟨hg6, h⟩ := grdE h
          refine TO.bin rfl dc rfl rfl (bin_add (r := i7 + 1) (IntWalk.i64_in _ hg6)) (TO.assign rfl dc rfl (TO.nil (TX.blockNormal (TX.next (TC.region (TO.move rfl dc rfl ?_))))))
          obtain ⟨hg7, h⟩ := grdE h
          refine TO.bin rfl dc rfl rfl (bin_sub (r := n4 - 1) (IntWalk.i64_in _ hg7)) (TO.assign rfl dc rfl (TO.nil ?_))
          subst hag2
          exact TX.againD (n5, i7 + 1, x13, x14, x15, stayed5, group7, group8, n4 - 1) h (Nat.lt_succ_self _) rfl (Sbs.cons rfl (Sbs.cons rfl (Sbs.cons rfl (Sbs.cons rfl (Sbs.cons rfl (Sbs.cons rfl (Sbs.cons rfl (Sbs.nil)))))))) (Splits.of [0, 1, 2] kr rfl)
       ·
        have h := condF hb3 h
        refine TC.exit (TX.thenExit (TX.thenExit (TX.blockHere ?_)))
        exact TX.meetD (i7, x10, x11, x12, stayed4) h rfl (Sbs.cons rfl (Sbs.cons rfl (Sbs.cons rfl (Sbs.cons rfl (Sbs.cons rfl (Sbs.nil)))))) (Splits.of [0, 1] kr rfl)
     ·
      rintro ⟨i4, x1, x2, x3, stayed1⟩ h
      rw [hj2] at h
      show TC _ _ _ _ _ ([]) _ _ [(3, v2), (4, .string out4), (5, .int .i64 i4), (6, .pointer (some ⟨b1, 0, none⟩)), (7, .string stayed1)] [vec enc_Gref04_Item 68 3 v2 r2, cells b1 [.int .i32 x1, .string x2, .int .i64 x3] 68]
      refine TC.region (TO.move rfl dc rfl (TO.fieldAddr fl_68_1 rfl dc rfl (show _ = 1 from rfl) (TO.load (k := 1) sc_9 rfl dc rfl rfl rfl (TO.move rfl dc rfl ?_))))
      obtain ⟨hg8, h⟩ := grdE h
      refine TO.bin rfl dc rfl rfl (bin_sadd hg8) ?_
      obtain ⟨hg9, h⟩ := grdE h
      refine TO.bin rfl dc rfl rfl (bin_sadd hg9) (TO.assign rfl dc rfl (TO.nil (TX.blockNormal ?_)))
      subst hag1
      exact TX.againD (n1, out4 ++ (x2 ++ stayed1), i4) h (Nat.lt_succ_self _) rfl (Sbs.cons rfl (Sbs.cons rfl (Sbs.cons rfl (Sbs.nil)))) (Splits.of [0] kr rfl)
   ·
    have h := condF hb1 h
    refine TC.exit (TX.thenExit (TX.thenExit (TX.blockHere ?_)))
    exact TX.meetD out4 h rfl (Sbs.cons rfl (Sbs.nil)) Splits.nil
 ·
  rintro out1 h
  rw [hj1] at h
  show TC _ _ _ _ _ ([]) _ _ [(4, .string out1)] []
  refine TC.seq (TC.region (TO.move rfl dc rfl (TO.assign rfl dc rfl (TO.nil (TX.next (TC.ret ?_))))))
  cases h
  exact TX.fin (rs := [.tmp 2]) () (.inl rfl) Try.results24 (.cons (.tmp rfl) .nil) rfl Splits.nil
end Go.Proofs.Ythjkafeklflgbaa
namespace Go.Proofs.Ythjkafeklflgbaa
open Go.RowKit Go.Lib
set_option linter.unusedVariables false
set_option linter.unusedSimpArgs false
theorem wr_Together_1 (M : List (Gfold_pair × Int)) (of : Gfold_unit → ByteArray) (l : List Gfold_unit) (hl : l.length ≤ 1048576) (h : ∀ u ∈ l, u.base < 0 ∧ U8 u.broken ∨ 0 ≤ u.base ∧ fold_Together_1_v u M = some (of u) ∧ (of u).size ≤ 1048576) : fold_written_Together_1_v l M = some (J (wr of) l) := by
  unfold fold_written_Together_1_v
  refine joinI ((loop1 (xs := l) (f := fun b u => b ++ wr of u) (J := some) (fun k b => b.size ≤ k * 1048576) ?_ ?_ ?_ (big_fuel (by omega)) (by decide)).trans rfl)
  · intro ag k u b hu hb
    have hk := lp_lt' hu
    unfold fold_written_Together_1_s1
    refine condTI (lp_lt hu) (joinI (thenI (lp_get hu) ?_))
    rcases h u (List.mem_of_getElem? hu) with ⟨h1, h2⟩ | ⟨h1, h2, h3⟩
    · exact condTI (decide_eq_true h1) (grdI (by omega) (grdI (by simpa using h2) (grdI (lp_i64 (by omega)) (by simp only [wr, if_pos h1]))))
    · exact condFI (decide_eq_false (by omega)) (thenI h2 (grdI (by omega) (grdI (lp_i64 (by omega)) (by simp only [wr, if_neg (show ¬ u.base < 0 by omega)]))))
  · intro k u b hu hb
    have hw : (wr of u).size ≤ 1048576 := by
      rcases h u (List.mem_of_getElem? hu) with ⟨h1, h2⟩ | ⟨h1, h2, h3⟩
      · unfold wr; rw [if_pos h1, bytesOf_size]; simp
      · unfold wr; rw [if_neg (by omega)]; exact h3
    rw [ByteArray.size_append]; omega
  · intro ag b _; unfold fold_written_Together_1_s1; exact condFI lp_ge rfl

set_option maxRecDepth 100000 in
theorem tabP_rng : (tabP.all fun p => decide (0 < p.2 ∧ p.2 ≤ 2000) && letter p.2) = true := by decide +kernel
theorem joined_rng {b m j : Int} (h : joined b m = some j) : 0 < j ∧ j ≤ 2000 ∧ letter j = true := by
  have := List.all_eq_true.1 tabP_rng _ (getM_mem h)
  simp only [Bool.and_eq_true, decide_eq_true_eq] at this
  exact ⟨this.1.1, this.1.2, this.2⟩
/-- One mark more: it is joined, or it stays. -/
def tgS (a : Int × List Int × Bool) (m : Int) : Int × List Int × Bool :=
  match joined a.1 m with
  | some j => if a.2.2 then (j, a.2.1, true) else (a.1, a.2.1 ++ [m], false)
  | none => (a.1, a.2.1 ++ [m], false)
def tgU (b : Int) (lo hi : List Int) : ByteArray :=
  Utf8.encode (hi.foldl tgS ((lo.foldl tgS (b, [], true)).1, (lo.foldl tgS (b, [], true)).2.1, true)).1 ++ strOf (hi.foldl tgS ((lo.foldl tgS (b, [], true)).1, (lo.foldl tgS (b, [], true)).2.1, true)).2.1
theorem tgS_len (a : Int × List Int × Bool) (m : Int) : (tgS a m).2.1.length ≤ a.2.1.length + 1 := by
  unfold tgS
  split
  · split <;> simp
  · simp
theorem tgS_lens (ms : List Int) : ∀ a : Int × List Int × Bool, (ms.foldl tgS a).2.1.length ≤ a.2.1.length + ms.length := by
  induction ms with
  | nil => intro a; simp
  | cons m ms ih => intro a; have := ih (tgS a m); have := tgS_len a m; rw [List.foldl_cons, List.length_cons]; omega
section
variable {R X A B C : Type} {xs : List X}
theorem loop3 {F : (A → B → C → Int → Option R) → A → B → C → Int → Option R} {bot : A → B → C → Int → Option R} {f : A × B × C → X → A × B × C} {Jf : A → B → Option R} (Inv : Nat → A × B × C → Prop)
    (hs : ∀ ag k x (a : A × B × C), xs[k]? = some x → Inv k a → F ag a.1 a.2.1 a.2.2 (k : Int) = ag (f a x).1 (f a x).2.1 (f a x).2.2 ((k : Int) + 1)) (hI : ∀ k x a, xs[k]? = some x → Inv k a → Inv (k + 1) (f a x))
    (he : ∀ ag (a : A × B × C), Inv xs.length a → F ag a.1 a.2.1 a.2.2 (xs.length : Int) = Jf a.1 a.2.1) {n : Nat} (hn : xs.length < n) {a : A × B × C} (h0 : Inv 0 a) : loopG bot F n a.1 a.2.1 a.2.2 0 = Jf (xs.foldl f a).1 (xs.foldl f a).2.1 := by
  have key : ∀ (n k : Nat) (a : A × B × C), k ≤ xs.length → xs.length - k < n → Inv k a → loopG bot F n a.1 a.2.1 a.2.2 (k : Int) = Jf ((xs.drop k).foldl f a).1 ((xs.drop k).foldl f a).2.1 := by
    intro n
    induction n with
    | zero => intro k a _ h; omega
    | succ n ih =>
      intro k a hk hn hi
      rw [loopI]
      by_cases h : k < xs.length
      · have hx : xs[k]? = some xs[k] := List.getElem?_eq_getElem h
        rw [hs _ k _ a hx hi, List.drop_eq_getElem_cons h, List.foldl_cons]
        exact ih (k + 1) _ (by omega) (by omega) (hI k _ a hx hi)
      · have : k = xs.length := by omega
        subst this
        rw [he _ a hi, List.drop_length]; rfl
  have := key n 0 a (Nat.zero_le _) (by omega) h0
  simpa using this
end
def tgJ : Int → List Int → Option ByteArray := fun u9 stayed7 => grd ((Utf8.encode u9).size + (strOf stayed7).size ≤ 9223372036854775807) <| some ((Utf8.encode u9) ++ (strOf stayed7))
def tgJlo (u : Gfold_unit) : Int → List Int → Option ByteArray := fun u3 stayed2 => joinK (fun (j4 : Int → (List Int) → Option ByteArray) => loopG (fun _ _ _ _ => none) (fold_Together_1_s2 u tabP j4) fuel u3 stayed2 true 0) tgJ
theorem tg_v (u : Gfold_unit) (hu : I32 u.base) (h1 : u.low.length ≤ 200000) (h2 : u.high.length ≤ 200000) : fold_Together_1_v u tabP = some (if letter u.base then tgU u.base u.low u.high else Utf8.encode u.base) := by
  unfold fold_Together_1_v
  refine thenI (letter_v u hu) ?_
  cases hL : letter u.base with
  | false => exact condTI rfl rfl
  | true =>
    refine condFI rfl (joinI (joinI ?_))
    have step : ∀ (xs : List Int) (k : Nat) (x : Int) (a : Int × List Int × Bool) (ag : Int → List Int → Bool → Int → Option ByteArray), xs[k]? = some x → xs.length ≤ 200000 → a.2.1.length ≤ 400000 →
        (andThen (getO xs (k : Int)) fun (q1 : Int) => bcond ((getM (⟨a.1, q1⟩ : Gfold_pair) tabP).isSome) (bcond (a.2.2) ((fun (u8 : Int) (stayed6 : List Int) (free4 : Bool) => grd (I64 ((k : Int) + 1)) <| ag u8 stayed6 free4 ((k : Int) + 1)) ((getM (⟨a.1, q1⟩ : Gfold_pair) tabP).getD 0) a.2.1 a.2.2)
          (grd (a.2.1.length + 1 ≤ 2147483648) <| (fun (u8 : Int) (stayed6 : List Int) (free4 : Bool) => grd (I64 ((k : Int) + 1)) <| ag u8 stayed6 free4 ((k : Int) + 1)) a.1 (a.2.1 ++ [q1]) false))
          (grd (a.2.1.length + 1 ≤ 2147483648) <| (fun (u8 : Int) (stayed6 : List Int) (free4 : Bool) => grd (I64 ((k : Int) + 1)) <| ag u8 stayed6 free4 ((k : Int) + 1)) a.1 (a.2.1 ++ [q1]) false)) = ag (tgS a x).1 (tgS a x).2.1 (tgS a x).2.2 ((k : Int) + 1) := by
      intro xs k x a ag hx hxs ha
      have hk := lp_lt' hx
      refine thenI (lp_get hx) ?_
      unfold tgS joined
      cases getM (⟨a.1, x⟩ : Gfold_pair) tabP with
      | none => exact condFI rfl (grdI (by omega) (grdI (lp_i64 (by omega)) rfl))
      | some j =>
        refine condTI rfl ?_
        cases hf : a.2.2 with
        | true => exact condTI rfl (grdI (lp_i64 (by omega)) rfl)
        | false => exact condFI rfl (grdI (by omega) (grdI (lp_i64 (by omega)) rfl))
    have hb1 := tgS_lens u.low (u.base, [], true)
    have lo := loop3 (xs := u.low) (F := fold_Together_1_s1 u tabP (tgJlo u)) (bot := fun _ _ _ _ => none) (f := tgS) (Jf := tgJlo u) (fun k a => a.2.1.length ≤ k) (fun ag k x a hx hi => by
          have hk := lp_lt' hx
          unfold fold_Together_1_s1
          exact condTI (lp_lt hx) (joinI (step u.low k x a ag hx h1 (by omega)))) (fun k x a _ hi => by have := tgS_len a x; omega) (fun ag a _ => by unfold fold_Together_1_s1; exact condFI lp_ge rfl) (n := fuel) (big_fuel (by omega)) (a := (u.base, [], true)) (Nat.le_refl _)
    refine lo.trans ?_
    show loopG (fun _ _ _ _ => none) (fold_Together_1_s2 u tabP tgJ) fuel _ _ true 0 = _
    simp only [List.length_nil, Nat.zero_add] at hb1
    generalize hA : u.low.foldl tgS (u.base, [], true) = A at hb1 ⊢
    have hb2 := tgS_lens u.high (A.1, A.2.1, true)
    have hi' := loop3 (xs := u.high) (F := fold_Together_1_s2 u tabP tgJ) (bot := fun _ _ _ _ => none) (f := tgS) (Jf := tgJ) (fun k a => a.2.1.length ≤ 200000 + k) (fun ag k x a hx hi => by
          have hk := lp_lt' hx
          unfold fold_Together_1_s2
          exact condTI (lp_lt hx) (joinI (step u.high k x a ag hx h2 (by omega)))) (fun k x a _ hi => by have := tgS_len a x; omega) (fun ag a _ => by unfold fold_Together_1_s2; exact condFI lp_ge rfl) (n := fuel) (big_fuel (by omega)) (a := (A.1, A.2.1, true)) (by show A.2.1.length ≤ 200000 + 0; omega)
    refine hi'.trans ?_
    simp only at hb2
    have e1 := enc_size4 (u.high.foldl tgS (A.1, A.2.1, true)).1
    have e2 := strOf_size (u.high.foldl tgS (A.1, A.2.1, true)).2.1
    refine grdI (by omega) ?_
    show some _ = some (tgU _ _ _)
    unfold tgU
    rw [hA]
/-! ### The reference -/
/-- What one mark does to the letter, its text, what has stayed and the two flags. -/
def tgR (a : Int × ByteArray × ByteArray × Bool × Bool) (m : Itm) : Int × ByteArray × ByteArray × Bool × Bool :=
  match joined a.1 m.Rune with
  | some j => if isLo m then (if a.2.2.2.2 then (a.1, a.2.1, a.2.2.1 ++ m.Text, a.2.2.2.1, true) else (j, Utf8.encode j, a.2.2.1, a.2.2.2.1, a.2.2.2.2)) else (if a.2.2.2.1 then (a.1, a.2.1, a.2.2.1 ++ m.Text, true, a.2.2.2.2) else (j, Utf8.encode j, a.2.2.1, a.2.2.2.1, a.2.2.2.2))
  | none => if isLo m then (a.1, a.2.1, a.2.2.1 ++ m.Text, a.2.2.2.1, true) else (a.1, a.2.1, a.2.2.1 ++ m.Text, true, a.2.2.2.2)
theorem tgR_size (a : Int × ByteArray × ByteArray × Bool × Bool) (m : Itm) (hm : m.Text.size ≤ 4) (ha : a.2.1.size ≤ 4) : (tgR a m).2.2.1.size ≤ a.2.2.1.size + 4 ∧ (tgR a m).2.1.size ≤ 4 := by
  unfold tgR
  have := enc_size4
  split
  · split <;> split <;> simp [ByteArray.size_append] <;> (try exact ⟨by omega, ha⟩) <;> (try exact enc_size4 _)
  · split <;> simp [ByteArray.size_append] <;> exact ⟨by omega, ha⟩
theorem tgR_lo : ∀ (P : List Itm) (b : Int) (st : List Int) (g5 g6 : Bool), (∀ m ∈ P, isLo m = true ∧ m.Text = Utf8.encode m.Rune) →
    P.foldl tgR (b, Utf8.encode b, strOf st, g5, g6) = (((P.map (·.Rune)).foldl tgS (b, st, !g6)).1, Utf8.encode ((P.map (·.Rune)).foldl tgS (b, st, !g6)).1, strOf ((P.map (·.Rune)).foldl tgS (b, st, !g6)).2.1, g5, !((P.map (·.Rune)).foldl tgS (b, st, !g6)).2.2)
  | [], b, st, g5, g6, _ => by simp
  | m :: P, b, st, g5, g6, h => by
    obtain ⟨h1, h2⟩ := h m (List.mem_cons_self ..)
    have ih := fun b st g6 => tgR_lo P b st g5 g6 (fun z hz => h z (List.mem_cons_of_mem _ hz))
    have hst : strOf st ++ m.Text = strOf (st ++ [m.Rune]) := by rw [strOf_J, strOf_J, J_append, J_cons, J_nil, ByteArray.append_empty, h2]
    rw [List.foldl_cons, List.map_cons, List.foldl_cons]
    unfold tgR tgS
    simp only [h1, if_true]
    cases joined b m.Rune with
    | none => simp only [hst]; exact ih b (st ++ [m.Rune]) true
    | some j =>
      cases g6 with
      | true => simp only [if_true, hst, Bool.not_true, Bool.false_eq_true, if_false]; exact ih b (st ++ [m.Rune]) true
      | false => simp only [Bool.false_eq_true, if_false, Bool.not_false, if_true]; exact ih j st false
theorem tgR_hi : ∀ (P : List Itm) (b : Int) (st : List Int) (g5 g6 : Bool), (∀ m ∈ P, isLo m = false ∧ m.Text = Utf8.encode m.Rune) →
    P.foldl tgR (b, Utf8.encode b, strOf st, g5, g6) = (((P.map (·.Rune)).foldl tgS (b, st, !g5)).1, Utf8.encode ((P.map (·.Rune)).foldl tgS (b, st, !g5)).1, strOf ((P.map (·.Rune)).foldl tgS (b, st, !g5)).2.1, !((P.map (·.Rune)).foldl tgS (b, st, !g5)).2.2, g6)
  | [], b, st, g5, g6, _ => by simp
  | m :: P, b, st, g5, g6, h => by
    obtain ⟨h1, h2⟩ := h m (List.mem_cons_self ..)
    have ih := fun b st g5 => tgR_hi P b st g5 g6 (fun z hz => h z (List.mem_cons_of_mem _ hz))
    have hst : strOf st ++ m.Text = strOf (st ++ [m.Rune]) := by rw [strOf_J, strOf_J, J_append, J_cons, J_nil, ByteArray.append_empty, h2]
    rw [List.foldl_cons, List.map_cons, List.foldl_cons]
    unfold tgR tgS
    simp only [h1, Bool.false_eq_true, if_false]
    cases joined b m.Rune with
    | none => simp only [hst]; exact ih b (st ++ [m.Rune]) true
    | some j =>
      cases g5 with
      | true => simp only [if_true, hst, Bool.not_true, Bool.false_eq_true, if_false]; exact ih b (st ++ [m.Rune]) true
      | false => simp only [Bool.false_eq_true, if_false, Bool.not_false, if_true]; exact ih j st false
def tgC (c : Itm × List Itm) : ByteArray := if isL c.1 then tgU c.1.Rune ((loI c.2).map (·.Rune)) ((hiI c.2).map (·.Rune)) else c.1.Text
def togS (s : ByteArray) : ByteArray := J tgC (clus s)
theorem tgU_size (b : Int) (lo hi : List Int) (h1 : lo.length ≤ 200000) (h2 : hi.length ≤ 200000) : (tgU b lo hi).size ≤ 4 + 4 * (lo.length + hi.length) := by
  unfold tgU
  rw [ByteArray.size_append]
  have a1 := tgS_lens lo (b, [], true)
  have a2 := tgS_lens hi ((lo.foldl tgS (b, [], true)).1, (lo.foldl tgS (b, [], true)).2.1, true)
  have a3 := strOf_size (hi.foldl tgS ((lo.foldl tgS (b, [], true)).1, (lo.foldl tgS (b, [], true)).2.1, true)).2.1
  have a4 := enc_size4 (hi.foldl tgS ((lo.foldl tgS (b, [], true)).1, (lo.foldl tgS (b, [], true)).2.1, true)).1
  simp only [List.length_nil, Nat.zero_add] at a1
  simp only at a2
  omega
theorem tog_v (s : ByteArray) (hs : s.size ≤ 65536) : fold_Together_v s = some (togS s) := by
  unfold fold_Together_v
  obtain ⟨hl, hc⟩ := clus_ok hs
  refine thenI tables_v (thenI (units_v s hs) (thenI (wr_Together_1 tabP (fun u => if letter u.base then tgU u.base u.low u.high else Utf8.encode u.base) _ (by rw [List.length_map]; omega) ?_) ?_))
  · intro u hu
    obtain ⟨c, hcm, rfl⟩ := List.mem_map.1 hu
    obtain ⟨h1, _, _, h4⟩ := hc c hcm
    rcases toU_cases c h1 with ⟨g1, g2, _⟩ | ⟨g1, g2, g3, g4⟩
    · exact .inl ⟨g1, g2⟩
    · have hh := lohi_le c.2
      have e1 : (toU c).low.length ≤ 196608 := by rw [g4]; simp; omega
      have e2 : (toU c).high.length ≤ 196608 := by rw [g4]; simp; omega
      have e3 : (toU c).low.length + (toU c).high.length ≤ 196608 := by
        rw [g4]; have := lohi_len c.2; rw [List.length_append] at this; simp; omega
      refine .inr ⟨g1, tg_v _ (by rw [toU_base c g2]; exact h1.1) (by omega) (by omega), ?_⟩
      split
      · have := tgU_size (toU c).base (toU c).low (toU c).high (by omega) (by omega); omega
      · have := enc_size4 (toU c).base; omega
  · rw [wr_of _ tgC s hs (fun c hcm h0 => by
      obtain ⟨h1, _⟩ := hc c hcm
      rcases toU_cases c h1 with ⟨_, _, g3, _⟩ | ⟨g1, g2, g3, g4⟩
      · omega
      · unfold tgC isL
        rw [g4]
        show (if letter c.1.Rune then _ else _) = _
        cases letter c.1.Rune with
        | true => rfl
        | false => simp [g3]) (fun c hcm h0 => by unfold tgC; rw [not_letter_neg h0]; rfl)]; rfl
theorem tog_inner (r2 : List Itm) (J : Int → Int → ByteArray → Int → ByteArray → Option ByteArray) (hb : r2.length ≤ 1000000) (at_ : Int) : ∀ (P A R : List Itm) (n : Nat) (a : Int × ByteArray × ByteArray × Bool × Bool), r2 = A ++ (P ++ R) → P.length < n → (∀ m ∈ P, m.Text.size ≤ 4) → a.2.1.size ≤ 4 → a.2.2.1.size ≤ 4 * A.length →
    loopG (fun _ _ _ _ _ _ _ _ => none) (ref04_Together_s2 r2 J) n (A.length : Int) a.1 a.2.1 at_ a.2.2.1 a.2.2.2.1 a.2.2.2.2 (P.length : Int) = J ((A.length + P.length : Nat) : Int) (P.foldl tgR a).1 (P.foldl tgR a).2.1 at_ (P.foldl tgR a).2.2.1 := by
  intro P
  induction P with
  | nil =>
    intro A R n a hr hn _ _ _
    obtain ⟨n, rfl⟩ : ∃ k, n = k + 1 := ⟨n - 1, by omega⟩
    rw [loopI]
    unfold ref04_Together_s2
    exact condFI (by decide) rfl
  | cons m P ih =>
    intro A R n a hr hn hm ha hs
    obtain ⟨n, rfl⟩ : ∃ k, n = k + 1 := ⟨n - 1, by omega⟩
    have hlen : r2.length = A.length + 1 + P.length + R.length := by rw [hr]; simp; omega
    have hget : getO r2 (A.length : Int) = some m := getO_nat (by rw [hr, List.cons_append]; exact get_at A m _)
    have h4 := hm m (List.mem_cons_self ..)
    have hsz := tgR_size a m h4 ha
    have nx := ih (A ++ [m]) R n (tgR a m) (by rw [hr]; simp) (by simp at hn; omega) (fun z hz => hm z (List.mem_cons_of_mem _ hz)) hsz.2 (by simp; omega)
    rw [loopI]
    generalize loopG (fun _ _ _ _ _ _ _ _ => none) (ref04_Together_s2 r2 J) n = ag at nx ⊢
    unfold ref04_Together_s2
    have fin : ∀ (x13 : Int) (x14 : ByteArray) (st : ByteArray) (g7 g8 : Bool), (x13, x14, st, g7, g8) = tgR a m → (grd (I64 ((A.length : Int) + 1)) <| grd (I64 (((m :: P).length : Int) - 1)) <| ag ((A.length : Int) + 1) x13 x14 at_ st g7 g8 (((m :: P).length : Int) - 1)) = J ((A.length + (m :: P).length : Nat) : Int) ((m :: P).foldl tgR a).1 ((m :: P).foldl tgR a).2.1 at_ ((m :: P).foldl tgR a).2.2.1 := by
      intro x13 x14 st g7 g8 he
      rw [← he] at nx
      simp only [List.length_append, List.length_cons, List.length_nil, Nat.zero_add] at nx
      push_cast at nx
      refine grdI ⟨by omega, by omega⟩ (grdI ⟨by simp only [List.length_cons]; omega, by simp only [List.length_cons]; omega⟩ ?_)
      rw [show (((m :: P).length : Int) - 1) = (P.length : Int) by simp, nx, List.foldl_cons, ← he]
      congr 1
      simp only [List.length_cons]; push_cast; omega
    refine condTI (decide_eq_true (by simp only [List.length_cons]; omega)) (joinI (thenI hget (thenI (rlow_v _) ?_)))
    have hlo : lowR m.Rune = isLo m := rfl
    rw [hlo]
    have body : ∀ (k1 : Int), k1 = (if isLo m then 1 else 0) → (joinK (fun (j4 : Int → ByteArray → Int → ByteArray → Bool → Bool → Option ByteArray) =>
        andThen (getO r2 (A.length : Int)) fun (q3 : Itm) => andThen (ref04_Join_v a.1 q3.Rune) fun (r6 : Int) =>
        bcond ((r6 : Int) != 0) (andThen (getO ([a.2.2.2.1, a.2.2.2.2] : List Bool) k1) fun (q4 : Bool) => bcond (!q4) (andThen (ref04_of_v r6 (⟨a.1, a.2.1, at_⟩ : Itm)) fun (r7 : Itm) => j4 r7.Rune r7.Text r7.At a.2.2.1 a.2.2.2.1 a.2.2.2.2)
          (andThen (getO r2 (A.length : Int)) fun (q5 : Itm) => grd (a.2.2.1.size + q5.Text.size ≤ 9223372036854775807) <| andThen (getO ([a.2.2.2.1, a.2.2.2.2] : List Bool) k1) fun (q6 : Bool) => j4 a.1 a.2.1 at_ (a.2.2.1 ++ q5.Text) (if (k1 : Int).toNat = 0 then true else a.2.2.2.1) (if (k1 : Int).toNat = 1 then true else a.2.2.2.2)))
          (andThen (getO r2 (A.length : Int)) fun (q7 : Itm) => grd (a.2.2.1.size + q7.Text.size ≤ 9223372036854775807) <| andThen (getO ([a.2.2.2.1, a.2.2.2.2] : List Bool) k1) fun (q8 : Bool) => j4 a.1 a.2.1 at_ (a.2.2.1 ++ q7.Text) (if (k1 : Int).toNat = 0 then true else a.2.2.2.1) (if (k1 : Int).toNat = 1 then true else a.2.2.2.2)))
        (fun (x13 : Int) (x14 : ByteArray) (x15 : Int) (stayed5 : ByteArray) (group7 : Bool) (group8 : Bool) => grd (I64 ((A.length : Int) + 1)) <| grd (I64 (((m :: P).length : Int) - 1)) <| ag ((A.length : Int) + 1) x13 x14 x15 stayed5 group7 group8 (((m :: P).length : Int) - 1))) = J ((A.length + (m :: P).length : Nat) : Int) ((m :: P).foldl tgR a).1 ((m :: P).foldl tgR a).2.1 at_ ((m :: P).foldl tgR a).2.2.1 := by
      intro k1 hk1
      refine joinI (thenI hget (thenI (rjoin_v _ _) ?_))
      cases hj : joined a.1 m.Rune with
      | none =>
        refine condFI rfl (thenI hget (grdI (by omega) ?_))
        cases hl : isLo m with
        | true => rw [hl] at hk1; subst hk1; exact thenI rfl (fin _ _ _ _ _ (by unfold tgR; rw [hj, hl]; rfl))
        | false => rw [hl] at hk1; subst hk1; exact thenI rfl (fin _ _ _ _ _ (by unfold tgR; rw [hj, hl]; rfl))
      | some j =>
        have hr := joined_rng hj
        refine condTI (by rw [Option.getD_some, bne_iff_ne]; omega) ?_
        cases hl : isLo m with
        | true =>
          rw [hl] at hk1; subst hk1
          refine thenI (a := a.2.2.2.2) rfl ?_
          cases hg : a.2.2.2.2 with
          | true => exact condFI rfl (thenI hget (grdI (by omega) (thenI (a := true) rfl (fin _ _ _ _ _ (by unfold tgR; rw [hj, hl, hg]; rfl)))))
          | false => exact condTI rfl (thenI (of_v j _ ⟨by omega, by omega⟩) (fin _ _ _ _ _ (by unfold tgR; rw [hj, hl, hg]; rfl)))
        | false =>
          rw [hl] at hk1; subst hk1
          refine thenI (a := a.2.2.2.1) rfl ?_
          cases hg : a.2.2.2.1 with
          | true => exact condFI rfl (thenI hget (grdI (by omega) (thenI (a := true) rfl (fin _ _ _ _ _ (by unfold tgR; rw [hj, hl, hg]; rfl)))))
          | false => exact condTI rfl (thenI (of_v j _ ⟨by omega, by omega⟩) (fin _ _ _ _ _ (by unfold tgR; rw [hj, hl, hg]; rfl)))
    cases hl : isLo m with
    | true => rw [hl] at body; exact condTI rfl (body 1 rfl)
    | false => rw [hl] at body; exact condFI rfl (body 0 rfl)
theorem J_snoc {α : Type} (f : α → ByteArray) (x : α) (l : List α) (b : ByteArray) : (b ++ f x) ++ J f l = b ++ J f (x :: l) := by rw [J_cons, ByteArray.append_assoc]
theorem tgR_all (x : Itm) (M : List Itm) (hx : x.Text = Utf8.encode x.Rune) (hM : ∀ m ∈ M, m.Text = Utf8.encode m.Rune) :
    ((loI M ++ hiI M).foldl tgR (x.Rune, x.Text, (⟨#[]⟩ : ByteArray), false, false)).2.1 ++ ((loI M ++ hiI M).foldl tgR (x.Rune, x.Text, (⟨#[]⟩ : ByteArray), false, false)).2.2.1 = tgU x.Rune ((loI M).map (·.Rune)) ((hiI M).map (·.Rune)) := by
  have h1 := tgR_lo (loI M) x.Rune [] false false (fun m hm => by
    unfold loI at hm; rw [List.mem_filter] at hm; exact ⟨hm.2, hM m hm.1⟩)
  rw [← hx, show strOf [] = (⟨#[]⟩ : ByteArray) from rfl] at h1
  rw [List.foldl_append, h1]
  have h2 := tgR_hi (hiI M) (((loI M).map (·.Rune)).foldl tgS (x.Rune, [], !false)).1 (((loI M).map (·.Rune)).foldl tgS (x.Rune, [], !false)).2.1 false (!(((loI M).map (·.Rune)).foldl tgS (x.Rune, [], !false)).2.2) (fun m hm => by
    unfold hiI at hm; rw [List.mem_filter] at hm; exact ⟨by simpa using hm.2, hM m hm.1⟩)
  rw [h2]
  rfl
theorem mark_text {m : Itm} (h : okT m) (hm : isM m = true) : m.Text = Utf8.encode m.Rune := by
  rcases h.2 with ⟨h3, _⟩ | ⟨_, h3⟩
  · have : mrk m.Rune = true := hm
    unfold mrk at this; simp at this; omega
  · exact h3
theorem tog_loop (r1 : List Itm) (Jf : ByteArray → Option ByteArray) (hb : r1.length ≤ 200000) : ∀ (m n : Nat) (A B : List Itm) (out : ByteArray), B.length ≤ m → B.length < n → r1 = A ++ ordI B → (∀ x ∈ B, okT x) → out.size ≤ 4 * A.length →
    loopG (fun _ _ => none) (ref04_Together_s1 Jf r1) n out (A.length : Int) = Jf (out ++ J tgC (cl B)) := by
  have fin : ∀ (n : Nat) (A : List Itm) (out : ByteArray), 0 < n → r1 = A → loopG (fun _ _ => none) (ref04_Together_s1 Jf r1) n out (A.length : Int) = Jf (out ++ J tgC (cl [])) := by
    intro n A out hn he
    obtain ⟨n, rfl⟩ : ∃ k, n = k + 1 := ⟨n - 1, by omega⟩
    rw [loopI]
    unfold ref04_Together_s1
    exact condFI (decide_eq_false (by rw [he]; omega)) (by rw [cl_nil, J_nil, ByteArray.append_empty])
  intro m
  induction m with
  | zero =>
    intro n A B out hB hn he hok ho
    have : B = [] := List.eq_nil_of_length_eq_zero (by omega)
    subst this
    exact fin n A out (by omega) (by rw [he, ordI_nil, List.append_nil])
  | succ m ih =>
    intro n A B out hB hn he hok ho
    cases B with
    | nil => exact fin n A out (by omega) (by rw [he, ordI_nil, List.append_nil])
    | cons x xs =>
      simp only [List.length_cons] at hB hn
      obtain ⟨n, rfl⟩ : ∃ k, n = k + 1 := ⟨n - 1, by omega⟩
      have hx := hok x (List.mem_cons_self ..)
      have hsx := okT_size hx
      have hlen : r1.length = A.length + 1 + xs.length := by rw [he, List.length_append, ordI_len]; simp; omega
      rw [loopI]
      generalize hag : loopG (fun _ _ => none) (ref04_Together_s1 Jf r1) n = ag at ih ⊢
      unfold ref04_Together_s1
      have hget : getO r1 (A.length : Int) = some x := getO_nat (by
        rw [he]
        cases hL : isL x with
        | true => rw [ordI_letter hL]; exact get_at A x _
        | false => rw [ordI_other hL]; exact get_at A x _)
      refine condTI (decide_eq_true (by omega)) (thenI hget (grdI ⟨by omega, by omega⟩ (thenI (iletter_v x hx.1) ?_)))
      have hL' : letter x.Rune = isL x := rfl
      rw [hL']
      cases hL : isL x with
      | false =>
        rw [ordI_other hL] at he
        refine condTI rfl (grdI (by omega) ?_)
        have := ih n (A ++ [x]) xs (out ++ x.Text) (by omega) (by omega) (by rw [he]; simp) (fun z hz => hok z (List.mem_cons_of_mem _ hz)) (by rw [ByteArray.size_append]; simp; omega)
        rw [hag] at this
        have ht : tgC (x, []) = x.Text := by unfold tgC; rw [hL]; rfl
        rw [show ((A.length : Int) + 1) = ((A ++ [x]).length : Int) by simp, this, cl_other hL, ← J_snoc, ht]
      | true =>
        rw [ordI_letter hL] at he
        obtain ⟨M, R, hM, hR, hMR⟩ : ∃ M R, M = xs.takeWhile isM ∧ R = xs.dropWhile isM ∧ xs = M ++ R := ⟨_, _, rfl, rfl, (List.takeWhile_append_dropWhile).symm⟩
        rw [← hM, ← hR] at he
        have hl2 := lohi_len M
        have hxs : xs.length = M.length + R.length := by rw [hMR]; simp
        have hMm : ∀ y ∈ M, isM y = true := by rw [hM]; exact take_marks xs
        have hMok : ∀ y ∈ M, okT y := fun y hy => hok y (by rw [hMR]; exact List.mem_cons_of_mem _ (List.mem_append_left _ hy))
        have hcut : cutL r1 ((A.length : Int) + 1) (r1.length : Int) = (loI M ++ hiI M) ++ ordI R := by
          rw [he]; exact cut_rest A x _ _ rfl
        refine condFI rfl (joinI (grdI ⟨by omega, by omega, by omega⟩ ?_))
        rw [hcut]
        refine thenI (marks_v _ (by rw [List.length_append, ordI_len]; omega)) ?_
        have htw : (((loI M ++ hiI M) ++ ordI R).takeWhile fun x => mrk x.Rune) = loI M ++ hiI M := take_ord _ _ (lohi_marks hMm) (by rw [hR]; exact head_drop xs)
        rw [htw]
        have hxt : x.Text = Utf8.encode x.Rune := by
          rcases hx.2 with ⟨h3, _⟩ | ⟨_, h3⟩
          · have := not_letter_neg h3; rw [hL] at this; cases this
          · exact h3
        have inner := tog_inner r1 (fun (i4 : Int) (x1 : Int) (x2 : ByteArray) (x3 : Int) (stayed1 : ByteArray) => grd (x2.size + stayed1.size ≤ 9223372036854775807) <| grd (out.size + (x2 ++ stayed1).size ≤ 9223372036854775807) <| ag (out ++ (x2 ++ stayed1)) i4) (by omega) x.At (loI M ++ hiI M) (A ++ [x]) (ordI R) fuel (x.Rune, x.Text, (⟨#[]⟩ : ByteArray), false, false) (by rw [he]; simp) (big_fuel (by omega)) (fun y hy => by
            have hy' : y ∈ M := by
              unfold loI hiI at hy
              rw [List.mem_append, List.mem_filter, List.mem_filter] at hy
              rcases hy with hy | hy <;> exact hy.1
            exact okT_size (hMok y hy')) hsx (Nat.zero_le _)
        rw [show (((A ++ [x]).length : Nat) : Int) = (A.length : Int) + 1 by simp] at inner
        refine inner.trans ?_
        have hall := tgR_all x M hxt (fun y hy => mark_text (hMok y hy) (hMm y hy))
        have hsz : (tgU x.Rune ((loI M).map (·.Rune)) ((hiI M).map (·.Rune))).size ≤ 4 + 4 * M.length := by
          have := tgU_size x.Rune ((loI M).map (·.Rune)) ((hiI M).map (·.Rune)) (by simp; have := (lohi_le M).1; omega) (by simp; have := (lohi_le M).2; omega)
          rw [List.length_append] at hl2
          simp only [List.length_map] at this
          omega
        have hsum : (((loI M ++ hiI M).foldl tgR (x.Rune, x.Text, (⟨#[]⟩ : ByteArray), false, false)).2.1.size + ((loI M ++ hiI M).foldl tgR (x.Rune, x.Text, (⟨#[]⟩ : ByteArray), false, false)).2.2.1.size) ≤ 4 + 4 * M.length := by
          rw [← ByteArray.size_append, hall]; exact hsz
        refine grdI (by omega) (grdI (by rw [ByteArray.size_append]; omega) ?_)
        rw [hall]
        have ht : tgC (x, M) = tgU x.Rune ((loI M).map (·.Rune)) ((hiI M).map (·.Rune)) := by unfold tgC; rw [hL]; rfl
        have := ih n (A ++ [x] ++ (loI M ++ hiI M)) R (out ++ tgC (x, M)) (by omega) (by omega) (by rw [he]; simp) (fun z hz => hok z (by rw [hMR]; exact List.mem_cons_of_mem _ (List.mem_append_right _ hz))) (by rw [ByteArray.size_append, ht]; simp only [List.length_append, List.length_cons, List.length_nil] at hl2 ⊢; omega)
        rw [hag] at this
        rw [ht] at this
        rw [show ((((A ++ [x]).length + (loI M ++ hiI M).length : Nat)) : Int) = ((A ++ [x] ++ (loI M ++ hiI M)).length : Int) by rw [← List.length_append], this, cl_letter hL, ← hM, ← hR, ← J_snoc, ht]
theorem rtog_v (s : ByteArray) (hs : s.size ≤ 65536) : ref04_Together_v s = some (togS s) := by
  unfold ref04_Together_v
  have h3 : (itemsP s).length ≤ s.size := by unfold itemsP; simpa using pcs_count_le s
  have hok := okT_ap (okT_item (s := s))
  have h4 := apL_len (itemsP s)
  have h5 := ordI_len (apL (itemsP s))
  refine joinI (thenI (items_v s (by omega)) (thenI (apart_v _ (fun x hx => (okT_item x hx).1) (by omega)) ?_))
  have := tog_loop (ordI (apL (itemsP s))) some (by omega) (apL (itemsP s)).length fuel [] (apL (itemsP s)) (⟨#[]⟩ : ByteArray) (Nat.le_refl _) (big_fuel (by omega)) rfl hok (by decide)
  refine this.trans ?_
  rw [show (⟨#[]⟩ : ByteArray) = ByteArray.empty from rfl, ByteArray.empty_append]; rfl
end Go.Proofs.Ythjkafeklflgbaa
namespace Go.Proofs.Ythjkafeklflgbaa
open Go.RowKit Go.Lib
set_option linter.unusedVariables false
set_option linter.unusedSimpArgs false
def law04_FoldTexts_v (s1 : ByteArray) : Option Bool := andThen (law04_wakes_v) fun (r1 : Bool) => bcond (!r1) ( some false
) ( joinK (fun (j1 : ByteArray → Option Bool) => bcond (decide ((16384 : Int) < (s1.size : Int))) ( grd (0 ≤ (0 : Int) ∧ (0 : Int) ≤ 16384 ∧ (16384 : Int) ≤ (s1.size : Int)) <| j1 (cutB s1 0 16384)
) ( j1 s1
)
) (fun (s2 : ByteArray) => andThen (fold_Apart_v s2) fun (r2 : ByteArray) => andThen (ref04_Apart_v s2) fun (r3 : ByteArray) => bcond (decide (r2 = r3)) ( andThen (fold_Together_v s2) fun (r4 : ByteArray) => andThen (ref04_Together_v s2) fun (r5 : ByteArray) => bcond (decide (r4 = r5)) ( andThen (fold_Bare_v s2) fun (r6 : ByteArray) => andThen (ref04_Bare_v s2) fun (r7 : ByteArray) => bcond (decide (r6 = r7)) ( andThen (fold_Fold_v s2) fun (r8 : ByteArray) => andThen (ref04_Fold_v s2) fun (r9 : ByteArray) => bcond (decide (r8 = r9)) ( andThen (law04_wakes_v) fun (r10 : Bool) => some r10
) ( some false
)
) ( some false
)
) ( some false
)
) ( some false
)
)
)
set_option maxRecDepth 100000 in
set_option maxHeartbeats 4000000 in
theorem law04_FoldTexts_fn {s1 : ByteArray} {r : Bool} (h : law04_FoldTexts_v s1 = some r) : FnP Try.prog 6 [.string s1] (.bool r) := by
 unfold law04_FoldTexts_v at h
 refine FnP.intro Try.func6 rfl Try.ntmps6 (by simp) ?_
 intro w0 K
 refine TC.seq (TC.region (TO.assign rfl dc rfl (TO.nil (TX.next (TC.seq (TC.seq (TC.region ?_)))))))
 obtain ⟨r1, hq1, h⟩ := andE h
 refine TO.callP (v := .bool r1) (vs := []) rfl dc rfl rfl rfl en_12 (law04_wakes_fn hq1) (TO.un rfl dc rfl un_not (TO.nil (TX.next ?_)))
 refine TC.condB rfl (fun hb1 => ?_) (fun hb1 => ?_)
 ·
  have h := condT hb1 h
  refine TC.seq (TC.region (TO.assign rfl dc rfl (TO.nil (TX.next (TC.ret (TX.thenRet ?_))))))
  cases h
  exact TX.fin (rs := [.tmp 2]) () (.inl rfl) Try.results6 (.cons (.tmp rfl) .nil) rfl Splits.nil
 ·
  have h := condF hb1 h
  refine TC.skip (TX.next ?_)
  obtain ⟨j1, hj1, h⟩ := joinE h
  refine TC.cutN (β := ByteArray) 0 rfl (fun b => j1 b = some r) (fun b => []) (fun b => [(0, .string b)]) (fun b => []) (fun cut => ?_) ?_
  ·
   refine cut (TC.seq (TC.region (TO.move rfl dc rfl (TO.lenStr rfl dc rfl Try.underlying9 (TO.bin rfl dc rfl rfl bin_gtr (TO.nil (TX.next ?_)))))))
   refine TC.condB rfl (fun hb2 => ?_) (fun hb2 => ?_)
   ·
    have h := condT hb2 h
    refine TC.region (TO.move rfl dc rfl ?_)
    obtain ⟨hg1, h⟩ := grdE h
    refine TO.slice rfl dc rfl rfl rfl (slice_stringI (i := 0) (j := 16384) Try.underlying9 (.inl ⟨rfl, rfl⟩) (.inr rfl) hg1) (TO.assign rfl dc rfl (TO.nil ?_))
    exact TX.meetD (cutB s1 0 16384) h rfl (Sbs.cons rfl (Sbs.nil)) Splits.nil
   ·
    have h := condF hb2 h
    refine TC.skip ?_
    exact TX.meetD s1 h rfl (Sbs.cons rfl (Sbs.nil)) Splits.nil
  ·
   rintro s2 h
   rw [hj1] at h
   show TC _ _ _ _ _ ([]) _ _ [(0, .string s2)] []
   refine TC.seq (TC.region (TO.move rfl dc rfl ?_))
   obtain ⟨r2, hq2, h⟩ := andE h
   refine TO.callP (v := .string r2) (vs := [.string s2]) rfl dc rfl rfl rfl en_21 (fold_Apart_fn hq2) (TO.move rfl dc rfl ?_)
   obtain ⟨r3, hq3, h⟩ := andE h
   refine TO.callP (v := .string r3) (vs := [.string s2]) rfl dc rfl rfl rfl en_22 (ref04_Apart_fn hq3) (TO.bin rfl dc rfl rfl bin_seql (TO.move rfl dc rfl ?_))
   refine TO.split (s := 15) rfl (fun hb3 => ?_) (fun hb3 => ?_)
   ·
    have h := condT hb3 h
    refine TO.move rfl dc rfl ?_
    obtain ⟨r4, hq4, h⟩ := andE h
    refine TO.callP (v := .string r4) (vs := [.string s2]) rfl dc rfl rfl rfl en_23 (fold_Together_fn hq4) (TO.move rfl dc rfl ?_)
    obtain ⟨r5, hq5, h⟩ := andE h
    refine TO.callP (v := .string r5) (vs := [.string s2]) rfl dc rfl rfl rfl en_24 (ref04_Together_fn hq5) (TO.bin rfl dc rfl rfl bin_seql (TO.pick (b := true) rfl dc rfl rfl (TO.move rfl dc rfl ?_)))
    refine TO.split (s := 22) rfl (fun hb4 => ?_) (fun hb4 => ?_)
    ·
     have h := condT hb4 h
     refine TO.move rfl dc rfl ?_
     obtain ⟨r6, hq6, h⟩ := andE h
     refine TO.callP (v := .string r6) (vs := [.string s2]) rfl dc rfl rfl rfl en_25 (fold_Bare_fn hq6) (TO.move rfl dc rfl ?_)
     obtain ⟨r7, hq7, h⟩ := andE h
     refine TO.callP (v := .string r7) (vs := [.string s2]) rfl dc rfl rfl rfl en_26 (ref04_Bare_fn hq7) (TO.bin rfl dc rfl rfl bin_seql (TO.pick (b := true) rfl dc rfl rfl (TO.move rfl dc rfl ?_)))
     refine TO.split (s := 29) rfl (fun hb5 => ?_) (fun hb5 => ?_)
     ·
      have h := condT hb5 h
      refine TO.move rfl dc rfl ?_
      obtain ⟨r8, hq8, h⟩ := andE h
      refine TO.callP (v := .string r8) (vs := [.string s2]) rfl dc rfl rfl rfl en_27 (fold_Fold_fn hq8) (TO.move rfl dc rfl ?_)
      obtain ⟨r9, hq9, h⟩ := andE h
      refine TO.callP (v := .string r9) (vs := [.string s2]) rfl dc rfl rfl rfl en_14 (ref04_Fold_fn hq9) (TO.bin rfl dc rfl rfl bin_seql (TO.pick (b := true) rfl dc rfl rfl (TO.move rfl dc rfl ?_)))
      refine TO.split (s := 36) rfl (fun hb6 => ?_) (fun hb6 => ?_)
      ·
       have h := condT hb6 h
       obtain ⟨r10, hq10, h⟩ := andE h
       refine TO.callP (v := .bool r10) (vs := []) rfl dc rfl rfl rfl en_12 (law04_wakes_fn hq10) (TO.pick (b := true) rfl dc rfl rfl (TO.assign rfl dc rfl (TO.nil (TX.next (TC.ret ?_)))))
       cases h
       exact TX.fin (rs := [.tmp 2]) () (.inl rfl) Try.results6 (.cons (.tmp rfl) .nil) rfl Splits.nil
      ·
       have h := condF hb6 h
       refine TO.skip rfl dc (TO.pick (b := false) rfl dc rfl rfl (TO.assign rfl dc rfl (TO.nil (TX.next (TC.ret ?_)))))
       cases h
       exact TX.fin (rs := [.tmp 2]) () (.inl rfl) Try.results6 (.cons (.tmp rfl) .nil) rfl Splits.nil
     ·
      have h := condF hb5 h
      refine TO.skip rfl dc (TO.skip rfl dc (TO.skip rfl dc (TO.skip rfl dc (TO.skip rfl dc (TO.pick (b := false) rfl dc rfl rfl (TO.move rfl dc rfl (TO.skip rfl dc (TO.pick (b := false) rfl dc rfl rfl (TO.assign rfl dc rfl (TO.nil (TX.next (TC.ret ?_))))))))))))
      cases h
      exact TX.fin (rs := [.tmp 2]) () (.inl rfl) Try.results6 (.cons (.tmp rfl) .nil) rfl Splits.nil
    ·
     have h := condF hb4 h
     refine TO.skip rfl dc (TO.skip rfl dc (TO.skip rfl dc (TO.skip rfl dc (TO.skip rfl dc (TO.pick (b := false) rfl dc rfl rfl (TO.move rfl dc rfl (TO.skip rfl dc (TO.skip rfl dc (TO.skip rfl dc (TO.skip rfl dc (TO.skip rfl dc (TO.pick (b := false) rfl dc rfl rfl (TO.move rfl dc rfl ?_)))))))))))))
     refine TO.skip rfl dc (TO.pick (b := false) rfl dc rfl rfl (TO.assign rfl dc rfl (TO.nil (TX.next (TC.ret ?_)))))
     cases h
     exact TX.fin (rs := [.tmp 2]) () (.inl rfl) Try.results6 (.cons (.tmp rfl) .nil) rfl Splits.nil
   ·
    have h := condF hb3 h
    refine TO.skip rfl dc (TO.skip rfl dc (TO.skip rfl dc (TO.skip rfl dc (TO.skip rfl dc (TO.pick (b := false) rfl dc rfl rfl (TO.move rfl dc rfl (TO.skip rfl dc (TO.skip rfl dc (TO.skip rfl dc (TO.skip rfl dc (TO.skip rfl dc (TO.pick (b := false) rfl dc rfl rfl (TO.move rfl dc rfl ?_)))))))))))))
    refine TO.skip rfl dc (TO.skip rfl dc (TO.skip rfl dc (TO.skip rfl dc (TO.skip rfl dc (TO.pick (b := false) rfl dc rfl rfl (TO.move rfl dc rfl (TO.skip rfl dc (TO.pick (b := false) rfl dc rfl rfl (TO.assign rfl dc rfl (TO.nil (TX.next (TC.ret ?_))))))))))))
    cases h
    exact TX.fin (rs := [.tmp 2]) () (.inl rfl) Try.results6 (.cons (.tmp rfl) .nil) rfl Splits.nil
end Go.Proofs.Ythjkafeklflgbaa
namespace Go.Proofs.Ythjkafeklflgbaa
open Go.RowKit Go.Lib
set_option linter.unusedVariables false
set_option linter.unusedSimpArgs false
theorem foldTexts_v (s : ByteArray) : law04_FoldTexts_v s = some true := by
  unfold law04_FoldTexts_v
  refine thenI wakes_v (condFI rfl (joinI ?_))
  have tail : ∀ x : ByteArray, x.size ≤ 16384 → (andThen (fold_Apart_v x) fun (r2 : ByteArray) => andThen (ref04_Apart_v x) fun (r3 : ByteArray) => bcond (decide (r2 = r3)) (andThen (fold_Together_v x) fun (r4 : ByteArray) => andThen (ref04_Together_v x) fun (r5 : ByteArray) =>
      bcond (decide (r4 = r5)) (andThen (fold_Bare_v x) fun (r6 : ByteArray) => andThen (ref04_Bare_v x) fun (r7 : ByteArray) => bcond (decide (r6 = r7)) (andThen (fold_Fold_v x) fun (r8 : ByteArray) => andThen (ref04_Fold_v x) fun (r9 : ByteArray) =>
      bcond (decide (r8 = r9)) (andThen (law04_wakes_v) fun (r10 : Bool) => some r10) (some false)) (some false)) (some false)) (some false)) = some true := fun x hx =>
    thenI (apart_vv x (by omega)) (thenI (rapart_v x (by omega)) (condTI (decide_eq_true rfl) (thenI (tog_v x (by omega)) (thenI (rtog_v x (by omega)) (condTI (decide_eq_true rfl) (thenI (bare_vv x (by omega)) (thenI (rbare_v x (by omega)) (condTI (decide_eq_true rfl)
      (thenI (fold_v x (by omega)) (thenI (rfold_v x (by omega)) (condTI (decide_eq_true rfl) (thenI wakes_v rfl))))))))))))
  by_cases h : (16384 : Int) < (s.size : Int)
  · exact condTI (decide_eq_true h) (grdI ⟨by omega, by omega, by omega⟩ (tail _ (cut_le' s 16384)))
  · exact condFI (decide_eq_false h) (tail s (by omega))
theorem foldTexts_any (s : ByteArray) (w : World) (h0 : s.size ≤ 140737488351232) : Calls Try.prog 6 #[.string s] w fun e w' => e = .returned (.bool true) ∧ Below w.heap.size w w' :=
  law04_FoldTexts_fn (foldTexts_v s) w
end Go.Proofs.Ythjkafeklflgbaa
