/-
  Texts laid together: LfSa, LfFa, Qi, LfG2, LfW3, LfSg, LfF2, Qj, Qp, LfLk, Qs, Qv, Qy, LfSi, LfFi, Fi. Nothing is assumed.
-/
import Derived.Test.YtlamcpgnmeileaaFb5
import Derived.Test.YtlamcpgnmeileaaFb4
namespace Go.Proofs.Ytlamcpgnmeileaa
open Go.RowKit Go.Lib
set_option linter.unusedVariables false
set_option linter.unusedSimpArgs false
def fold_Apart_v (s1 : ByteArray) : Option ByteArray := andThen (fold_units_v s1) fun (r1 : (List Gfold_unit)) => andThen (fold_written_Apart_1_v r1) fun (r2 : ByteArray) => some r2
set_option maxRecDepth 100000 in
set_option maxHeartbeats 4000000 in
theorem fold_Apart_fn {s1 : ByteArray} {r : ByteArray} (h : fold_Apart_v s1 = some r) : FnP Try.prog 18 [.string s1] (.string r) := by
 unfold fold_Apart_v at h
 refine FnP.intro Try.func18 rfl Try.ntmps18 (by simp) ?_
 intro w0 K
 refine TC.seq (TC.region (TO.assign rfl dc rfl (TO.nil (TX.next (TC.seq (TC.region (TO.move rfl dc rfl ?_)))))))
 obtain ⟨r1, hq1, h⟩ := andE h
 refine TO.call (vs := [.string s1]) rfl dc rfl rfl rfl en_24 (fold_units_fn hq1) Splits.nil ?_
 rintro v1
 show TO _ _ _ _ _ _ _ _ _ _ [vecN encN_Gfold_unit nest_Gfold_unit 46 5 v1 r1]
 refine TO.weakenL (L' := [vecN encN_Gfold_unit nest_Gfold_unit 46 5 v1 r1]) (Splits.of [0] kr rfl) ?_
 refine TO.nameHdN (k := 0) rfl (fun hd1 he1 => ?_)
 subst he1
 refine TO.unfold1 (k := 0) rfl openE (fun zs1 hz1 => ?_)
 show TO _ _ _ _ _ _ _ _ _ _ [vec encN_Gfold_unit 46 5 hd1.v zs1, own nest_Gfold_unit zs1]
 refine TO.vecVw (k := 0) rfl (fun hw1 => ?_)
 obtain ⟨r2, hq2, h⟩ := andE h
 refine TO.callK (v := .string r2) (vs := [hd1.v, .func (.func 39) #[] #[]]) rfl dc rfl rfl rfl en_25 (fold_written_Apart_1_fn hw1 hz1 hq2) [0, 1] kr rfl (TO.assign rfl dc rfl (TO.nil (TX.next (TC.ret ?_))))
 cases h
 exact TX.fin (rs := [.tmp 2]) () (.inl rfl) Try.results18 (.cons (.tmp rfl) .nil) rfl Splits.nil
def fold_Bare_v (s1 : ByteArray) : Option ByteArray := andThen (fold_units_v s1) fun (r1 : (List Gfold_unit)) => andThen (fold_written_Bare_1_v r1) fun (r2 : ByteArray) => some r2
set_option maxRecDepth 100000 in
set_option maxHeartbeats 4000000 in
theorem fold_Bare_fn {s1 : ByteArray} {r : ByteArray} (h : fold_Bare_v s1 = some r) : FnP Try.prog 20 [.string s1] (.string r) := by
 unfold fold_Bare_v at h
 refine FnP.intro Try.func20 rfl Try.ntmps20 (by simp) ?_
 intro w0 K
 refine TC.seq (TC.region (TO.assign rfl dc rfl (TO.nil (TX.next (TC.seq (TC.region (TO.move rfl dc rfl ?_)))))))
 obtain ⟨r1, hq1, h⟩ := andE h
 refine TO.call (vs := [.string s1]) rfl dc rfl rfl rfl en_24 (fold_units_fn hq1) Splits.nil ?_
 rintro v1
 show TO _ _ _ _ _ _ _ _ _ _ [vecN encN_Gfold_unit nest_Gfold_unit 46 5 v1 r1]
 refine TO.weakenL (L' := [vecN encN_Gfold_unit nest_Gfold_unit 46 5 v1 r1]) (Splits.of [0] kr rfl) ?_
 refine TO.nameHdN (k := 0) rfl (fun hd1 he1 => ?_)
 subst he1
 refine TO.unfold1 (k := 0) rfl openE (fun zs1 hz1 => ?_)
 show TO _ _ _ _ _ _ _ _ _ _ [vec encN_Gfold_unit 46 5 hd1.v zs1, own nest_Gfold_unit zs1]
 refine TO.vecVw (k := 0) rfl (fun hw1 => ?_)
 obtain ⟨r2, hq2, h⟩ := andE h
 refine TO.callK (v := .string r2) (vs := [hd1.v, .func (.func 43) #[] #[]]) rfl dc rfl rfl rfl en_25 (fold_written_Bare_1_fn hw1 hz1 hq2) [0, 1] kr rfl (TO.assign rfl dc rfl (TO.nil (TX.next (TC.ret ?_))))
 cases h
 exact TX.fin (rs := [.tmp 2]) () (.inl rfl) Try.results20 (.cons (.tmp rfl) .nil) rfl Splits.nil
end Go.Proofs.Ytlamcpgnmeileaa
namespace Go.Proofs.Ytlamcpgnmeileaa
open Go.RowKit Go.Lib
set_option linter.unusedVariables false
set_option linter.unusedSimpArgs false

end Go.Proofs.Ytlamcpgnmeileaa
namespace Go.Proofs.Ytlamcpgnmeileaa
open Go.RowKit Go.Lib
set_option linter.unusedVariables false
set_option linter.unusedSimpArgs false
theorem wr_Bare_1 (of : Gfold_unit → ByteArray) (l : List Gfold_unit) (hl : l.length ≤ 1048576) (h : ∀ u ∈ l, u.base < 0 ∧ U8 u.broken ∨ 0 ≤ u.base ∧ fold_Bare_1_v u = some (of u) ∧ (of u).size ≤ 1048576) : fold_written_Bare_1_v l = some (J (wr of) l) := by
  unfold fold_written_Bare_1_v
  refine joinI ((loop1 (xs := l) (f := fun b u => b ++ wr of u) (J := some) (fun k b => b.size ≤ k * 1048576) ?_ ?_ ?_ (big_fuel (by omega)) (by decide)).trans rfl)
  · intro ag k u b hu hb
    have hk := lp_lt' hu
    unfold fold_written_Bare_1_s1
    refine condTI (lp_lt hu) (joinI (thenI (lp_get hu) ?_))
    rcases h u (List.mem_of_getElem? hu) with ⟨h1, h2⟩ | ⟨h1, h2, h3⟩
    · exact condTI (decide_eq_true h1) (grdI (by omega) (grdI (by simpa using h2) (grdI (lp_i64 (by omega)) (by simp only [wr, if_pos h1]))))
    · exact condFI (decide_eq_false (by omega)) (thenI h2 (grdI (by omega) (grdI (lp_i64 (by omega)) (by simp only [wr, if_neg (show ¬ u.base < 0 by omega)]))))
  · intro k u b hu hb
    have hw : (wr of u).size ≤ 1048576 := by
      rcases h u (List.mem_of_getElem? hu) with ⟨h1, h2⟩ | ⟨h1, h2, h3⟩
      · unfold wr; rw [if_pos h1, bytesOf_size]; simp
      · unfold wr; rw [if_neg (by omega)]; exact h3
    rw [ByteArray.size_append]; omega
  · intro ag b _; unfold fold_written_Bare_1_s1; exact condFI lp_ge rfl
theorem wr_Apart_1 (of : Gfold_unit → ByteArray) (l : List Gfold_unit) (hl : l.length ≤ 1048576) (h : ∀ u ∈ l, u.base < 0 ∧ U8 u.broken ∨ 0 ≤ u.base ∧ fold_Apart_1_v u = some (of u) ∧ (of u).size ≤ 1048576) : fold_written_Apart_1_v l = some (J (wr of) l) := by
  unfold fold_written_Apart_1_v
  refine joinI ((loop1 (xs := l) (f := fun b u => b ++ wr of u) (J := some) (fun k b => b.size ≤ k * 1048576) ?_ ?_ ?_ (big_fuel (by omega)) (by decide)).trans rfl)
  · intro ag k u b hu hb
    have hk := lp_lt' hu
    unfold fold_written_Apart_1_s1
    refine condTI (lp_lt hu) (joinI (thenI (lp_get hu) ?_))
    rcases h u (List.mem_of_getElem? hu) with ⟨h1, h2⟩ | ⟨h1, h2, h3⟩
    · exact condTI (decide_eq_true h1) (grdI (by omega) (grdI (by simpa using h2) (grdI (lp_i64 (by omega)) (by simp only [wr, if_pos h1]))))
    · exact condFI (decide_eq_false (by omega)) (thenI h2 (grdI (by omega) (grdI (lp_i64 (by omega)) (by simp only [wr, if_neg (show ¬ u.base < 0 by omega)]))))
  · intro k u b hu hb
    have hw : (wr of u).size ≤ 1048576 := by
      rcases h u (List.mem_of_getElem? hu) with ⟨h1, h2⟩ | ⟨h1, h2, h3⟩
      · unfold wr; rw [if_pos h1, bytesOf_size]; simp
      · unfold wr; rw [if_neg (by omega)]; exact h3
    rw [ByteArray.size_append]; omega
  · intro ag b _; unfold fold_written_Apart_1_s1; exact condFI lp_ge rfl
def bareS (s : ByteArray) : ByteArray := J (fun c => c.1.Text) (clus s)
def apartC (c : Itm × List Itm) : ByteArray := J (·.Text) (ordC c)
def apartS (s : ByteArray) : ByteArray := J apartC (clus s)
theorem bare_vv (s : ByteArray) (hs : s.size ≤ 65536) : fold_Bare_v s = some (bareS s) := by
  unfold fold_Bare_v
  obtain ⟨hl, hc⟩ := clus_ok hs
  refine thenI (units_v s hs) (thenI (wr_Bare_1 (fun u => Utf8.encode u.base) _ (by rw [List.length_map]; omega) ?_) ?_)
  · intro u hu
    obtain ⟨c, hcm, rfl⟩ := List.mem_map.1 hu
    obtain ⟨h1, _⟩ := hc c hcm
    rcases toU_cases c h1 with ⟨g1, g2, _⟩ | ⟨g1, g2, g3, g4⟩
    · exact .inl ⟨g1, g2⟩
    · exact .inr ⟨g1, rfl, by have := enc_size4 (toU c).base; omega⟩
  · rw [wr_of _ (fun c => c.1.Text) s hs (fun c hcm h0 => by
      obtain ⟨h1, _⟩ := hc c hcm
      rw [toU_base c h0]
      rcases h1.2 with ⟨h2, _⟩ | ⟨_, h2⟩
      · omega
      · exact h2.symm) (fun c hcm h0 => rfl)]; rfl
theorem str_marks (l : List Itm) (h : ∀ m ∈ l, isM m = true ∧ okT m) : strOf (l.map (·.Rune)) = J (·.Text) l := by
  rw [strOf_J, J_map]
  refine J_congr fun m hm => ?_
  obtain ⟨h1, h2⟩ := h m hm
  rcases h2.2 with ⟨h3, _⟩ | ⟨_, h3⟩
  · have : mrk m.Rune = true := h1
    unfold mrk at this; simp at this; omega
  · exact h3.symm
theorem lo_sub {ms : List Itm} {P : Itm → Prop} (h : ∀ m ∈ ms, P m) : (∀ m ∈ loI ms, P m) ∧ ∀ m ∈ hiI ms, P m :=
  ⟨fun m hm => h m (List.mem_filter.1 hm).1, fun m hm => h m (List.mem_filter.1 hm).1⟩
theorem lohi_le (ms : List Itm) : (loI ms).length ≤ ms.length ∧ (hiI ms).length ≤ ms.length := ⟨List.length_filter_le _ _, List.length_filter_le _ _⟩
theorem apart_vv (s : ByteArray) (hs : s.size ≤ 65536) : fold_Apart_v s = some (apartS s) := by
  unfold fold_Apart_v
  obtain ⟨hl, hc⟩ := clus_ok hs
  refine thenI (units_v s hs) (thenI (wr_Apart_1 (fun u => ((Utf8.encode u.base) ++ (strOf u.low)) ++ (strOf u.high)) _ (by rw [List.length_map]; omega) ?_) ?_)
  · intro u hu
    obtain ⟨c, hcm, rfl⟩ := List.mem_map.1 hu
    obtain ⟨h1, _, _, h4⟩ := hc c hcm
    rcases toU_cases c h1 with ⟨g1, g2, _⟩ | ⟨g1, g2, g3, g4⟩
    · exact .inl ⟨g1, g2⟩
    · have hh := lohi_le c.2
      have e1 : (toU c).low.length ≤ 196608 := by rw [g4]; simp; omega
      have e2 : (toU c).high.length ≤ 196608 := by rw [g4]; simp; omega
      have e3 := strOf_size (toU c).low
      have e4 := strOf_size (toU c).high
      have e5 := enc_size4 (toU c).base
      refine .inr ⟨g1, ?_, ?_⟩
      · unfold fold_Apart_1_v
        exact grdI (by omega) (grdI (by rw [ByteArray.size_append]; omega) rfl)
      · rw [ByteArray.size_append, ByteArray.size_append]
        have : (toU c).low.length + (toU c).high.length ≤ 196608 := by
          rw [g4]; have := lohi_len c.2; rw [List.length_append] at this; simp; omega
        omega
  · rw [wr_of _ apartC s hs (fun c hcm h0 => by
      obtain ⟨h1, h2, _⟩ := hc c hcm
      obtain ⟨hlo, hhi⟩ := lo_sub h2
      rcases toU_cases c h1 with ⟨_, _, g3, _⟩ | ⟨g1, g2, g3, g4⟩
      · omega
      · rw [g4]
        show Utf8.encode c.1.Rune ++ strOf ((loI c.2).map (·.Rune)) ++ strOf ((hiI c.2).map (·.Rune)) = _
        rw [str_marks _ hlo, str_marks _ hhi]
        unfold apartC ordC
        rw [J_cons, J_append, g3, ByteArray.append_assoc]) (fun c hcm h0 => by
      obtain ⟨_, _, h3, _⟩ := hc c hcm
      unfold apartC ordC
      rw [h3 (not_letter_neg h0)]
      show J _ [c.1] = _
      rw [J_cons, J_nil, ByteArray.append_empty])]; rfl
end Go.Proofs.Ytlamcpgnmeileaa
namespace Go.Proofs.Ytlamcpgnmeileaa
open Go.RowKit Go.Lib
set_option linter.unusedVariables false
set_option linter.unusedSimpArgs false
def fold_Together_1_s1 (u1 : Gfold_unit) (Mc0 : List (Gfold_pair × Int)) (j2 : Int → (List Int) → Option ByteArray) (ag1 : Int → (List Int) → Bool → Int → Option ByteArray) (u7 : Int) (stayed5 : List Int) (free3 : Bool) (x3 : Int) : Option ByteArray := bcond (decide ((x3 : Int) < (u1.low.length : Int))) ( joinK (fun (j3 : Int → (List Int) → Bool → Option ByteArray) => andThen (getO u1.low x3) fun (q1 : Int) => bcond ((getM (⟨u7, q1⟩ : Gfold_pair) Mc0).isSome) ( bcond (free3) ( j3 ((getM (⟨u7, q1⟩ : Gfold_pair) Mc0).getD 0) stayed5 free3
) ( grd (stayed5.length + 1 ≤ 2147483648) <| j3 u7 (stayed5 ++ [q1]) false
)
) ( grd (stayed5.length + 1 ≤ 2147483648) <| j3 u7 (stayed5 ++ [q1]) false
)
) (fun (u8 : Int) (stayed6 : List Int) (free4 : Bool) => grd (I64 (x3 + 1)) <| ag1 u8 stayed6 free4 (x3 + 1)
)
) ( j2 u7 stayed5
)
def fold_Together_1_s2 (u1 : Gfold_unit) (Mc0 : List (Gfold_pair × Int)) (j4 : Int → (List Int) → Option ByteArray) (ag2 : Int → (List Int) → Bool → Int → Option ByteArray) (u12 : Int) (stayed10 : List Int) (free7 : Bool) (x6 : Int) : Option ByteArray := bcond (decide ((x6 : Int) < (u1.high.length : Int))) ( joinK (fun (j5 : Int → (List Int) → Bool → Option ByteArray) => andThen (getO u1.high x6) fun (q2 : Int) => bcond ((getM (⟨u12, q2⟩ : Gfold_pair) Mc0).isSome) ( bcond (free7) ( j5 ((getM (⟨u12, q2⟩ : Gfold_pair) Mc0).getD 0) stayed10 free7
) ( grd (stayed10.length + 1 ≤ 2147483648) <| j5 u12 (stayed10 ++ [q2]) false
)
) ( grd (stayed10.length + 1 ≤ 2147483648) <| j5 u12 (stayed10 ++ [q2]) false
)
) (fun (u13 : Int) (stayed11 : List Int) (free8 : Bool) => grd (I64 (x6 + 1)) <| ag2 u13 stayed11 free8 (x6 + 1)
)
) ( j4 u12 stayed10
)
def fold_Together_1_v (u1 : Gfold_unit) (Mc0 : List (Gfold_pair × Int)) : Option ByteArray := andThen (fold_unit_letter_v u1) fun (r1 : Bool) => bcond (!r1) ( some (Utf8.encode u1.base)
) ( joinK (fun (j1 : Int → (List Int) → Option ByteArray) => joinK (fun (j2 : Int → (List Int) → Option ByteArray) => loopG (fun _ _ _ _ => none) (fold_Together_1_s1 u1 Mc0 j2) fuel u1.base ([] : List Int) true 0
) (fun (u3 : Int) (stayed2 : List Int) => joinK (fun (j4 : Int → (List Int) → Option ByteArray) => loopG (fun _ _ _ _ => none) (fold_Together_1_s2 u1 Mc0 j4) fuel u3 stayed2 true 0
) (fun (u9 : Int) (stayed7 : List Int) => j1 u9 stayed7
)
)
) (fun (u2 : Int) (stayed1 : List Int) => grd ((Utf8.encode u2).size + (strOf stayed1).size ≤ 9223372036854775807) <| some ((Utf8.encode u2) ++ (strOf stayed1))
)
)
set_option maxRecDepth 100000 in
set_option maxHeartbeats 4000000 in
theorem fold_Together_1_fn {u1 : Gfold_unit} {u1_h0 u1_h1 : Hd} {bc0 bmc0 : Nat} {Mc0 : List (Gfold_pair × Int)} {r : ByteArray} (h : fold_Together_1_v u1 Mc0 = some r) : Fn Try.prog 41 [.agg #[.int .i64 u1.at_, .int .u8 u1.broken, .int .i32 u1.base, u1_h0.v, u1_h1.v], .pointer (some ⟨bc0, 0, none⟩)] [vec (encI (.i32)) 21 1 u1_h0.v u1.low, vec (encI (.i32)) 21 1 u1_h1.v u1.high, cells bc0 [.map (some bmc0)] 66, mapA (fun p : Gfold_pair => Value.agg #[.int .i32 p.e0, .int .i32 p.e1]) (fun n : Int => Value.int .i32 n) bmc0 Mc0] (fun _b : Unit => .string r) (fun _b => [vec (encI (.i32)) 21 1 u1_h0.v u1.low, vec (encI (.i32)) 21 1 u1_h1.v u1.high, cells bc0 [.map (some bmc0)] 66, mapA (fun p : Gfold_pair => Value.agg #[.int .i32 p.e0, .int .i32 p.e1]) (fun n : Int => Value.int .i32 n) bmc0 Mc0]) := by
 unfold fold_Together_1_v at h
 refine Fn.intro Try.func41 rfl Try.ntmps41 (by simp) ?_
 intro w0 K
 refine TC.seq (TC.region ?_)
 refine TO.box rfl dc rfl (fun b1 => ?_)
 refine TO.assign rfl dc rfl (TO.nil (TX.next (TC.seq (TC.seq (TC.region (TO.loads (k := 4) (cs := [.int .i64 u1.at_, .int .u8 u1.broken, .int .i32 u1.base, u1_h0.v, u1_h1.v]) rw_46 rfl dc rfl rfl rfl rfl ?_))))))
 obtain ⟨r1, hq1, h⟩ := andE h
 refine TO.callK (v := .bool r1) (vs := [.agg #[.int .i64 u1.at_, .int .u8 u1.broken, .int .i32 u1.base, u1_h0.v, u1_h1.v]]) rfl dc rfl rfl rfl en_42 (fold_unit_letter_fn (u1 := u1) (u1_h0 := u1_h0) (u1_h1 := u1_h1) hq1) [0, 1] kr rfl (TO.un rfl dc rfl un_not (TO.nil (TX.next ?_)))
 refine TC.condB rfl (fun hb1 => ?_) (fun hb1 => ?_)
 ·
  have h := condT hb1 h
  refine TC.seq (TC.region (TO.fieldAddr fl_46_2 rfl dc rfl (show _ = 2 from rfl) (TO.load (k := 4) sc_21 rfl dc rfl rfl rfl (TO.conv rfl dc rfl (conv_rune Try.underlying21 Try.underlying9) (TO.assign rfl dc rfl (TO.nil (TX.next (TC.ret (TX.thenRet ?_)))))))))
  cases h
  exact TX.fin (rs := [.tmp 3]) () (.inl rfl) Try.results41 (.cons (.tmp rfl) .nil) rfl (Splits.of [0, 1, 2, 3] kr rfl)
 ·
  have h := condF hb1 h
  refine TC.skip (TX.next ?_)
  obtain ⟨j1, hj1, h⟩ := joinE h
  refine TC.cutN (β := Int × (List Int) × Hd) 1 rfl (fun b => j1 b.1 b.2.1 = some r) (fun b => []) (fun b => [(2, .pointer (some ⟨b1, 0, none⟩)), (4, b.2.2.v)]) (fun b => [cells bc0 [.map (some bmc0)] 66, mapA (fun p : Gfold_pair => Value.agg #[.int .i32 p.e0, .int .i32 p.e1]) (fun n : Int => Value.int .i32 n) bmc0 Mc0, vec (encI (.i32)) 21 1 u1_h0.v u1.low, vec (encI (.i32)) 21 1 u1_h1.v u1.high, cells b1 [.int .i64 u1.at_, .int .u8 u1.broken, .int .i32 b.1, u1_h0.v, u1_h1.v] 46, vec (encI (.i32)) 21 1 b.2.2.v b.2.1]) (fun cut => ?_) ?_
  ·
   refine TC.seq (TC.region (TO.assign rfl dc rfl (TO.nil (TX.next (cut (TC.seq (TC.region (TO.fieldAddr fl_46_3 rfl dc rfl (show _ = 3 from rfl) (TO.load (k := 4) sc_44 rfl dc rfl rfl rfl (TO.fieldAddr fl_46_4 rfl dc rfl (show _ = 4 from rfl) (TO.load (k := 4) sc_44 rfl dc rfl rfl rfl ?_)))))))))))
   refine TO.build (v := .agg #[u1_h0.v, u1_h1.v]) (ps := [(0, .tmp 19), (1, .tmp 21)]) rfl dc rfl (fun _ => by kernel_rfl) ?_
   refine TO.move rfl dc rfl (TO.nil (TX.next (TC.block (TC.loopN 3 (TR.succ (TC.seq (TC.region (TO.bin rfl dc rfl rfl (bin_known (show Value.bool (decide ((0 : Int) < 2)) = Value.bool true from congrArg Value.bool dc) bin_lss) (TO.nil (TX.next (TC.seq (TC.condT rfl (TC.skip ?_)))))))))))))
   refine TX.next ?_
   obtain ⟨j2, hj2, h⟩ := joinE h
   refine TC.cutN (β := Int × (List Int) × Hd) 0 rfl (fun b => j2 b.1 b.2.1 = some r) (fun b => []) (fun b => [(1, .pointer (some ⟨bc0, 0, none⟩)), (2, .pointer (some ⟨b1, 0, none⟩)), (4, b.2.2.v), (22, .agg #[u1_h0.v, u1_h1.v]), (23, .int .i64 0)]) (fun b => [cells bc0 [.map (some bmc0)] 66, mapA (fun p : Gfold_pair => Value.agg #[.int .i32 p.e0, .int .i32 p.e1]) (fun n : Int => Value.int .i32 n) bmc0 Mc0, vec (encI (.i32)) 21 1 u1_h0.v u1.low, vec (encI (.i32)) 21 1 u1_h1.v u1.high, cells b1 [.int .i64 u1.at_, .int .u8 u1.broken, .int .i32 b.1, u1_h0.v, u1_h1.v] 46, vec (encI (.i32)) 21 1 b.2.2.v b.2.1]) (fun cut => ?_) ?_
   ·
    refine cut (TC.block (TC.seq (TC.region ?_)))
    refine TO.index (v := u1_h0.v) rfl dc rfl rfl (fun _ => by kernel_rfl) ?_
    refine TO.assign rfl dc rfl (TO.nil (TX.next (TC.seq (TC.region (TO.assign rfl dc rfl (TO.nil (TX.next (TC.seq (TC.region (TO.move rfl dc rfl (TO.lenVec (k := 0) rfl dc rfl rfl Try.underlying44 (TO.move rfl dc rfl (TO.nil ?_)))))))))))))
    refine TX.next (TC.block (TC.newVec (enc := (encI (.i32))) (e := 21) (size := 1) ?_))
    show TC _ _ _ _ _ _ _ _ _ [vec (encI (.i32)) 21 1 u1_h0.v u1.low, vec (encI (.i32)) 21 1 u1_h1.v u1.high, cells bc0 [.map (some bmc0)] 66, mapA (fun p : Gfold_pair => Value.agg #[.int .i32 p.e0, .int .i32 p.e1]) (fun n : Int => Value.int .i32 n) bmc0 Mc0, cells b1 [.int .i64 u1.at_, .int .u8 u1.broken, .int .i32 u1.base, u1_h0.v, u1_h1.v] 46, vec (encI (.i32)) 21 1 (.slice none 0 0) ([] : List Int)]
    refine TC.loopD (β := Nat × Int × (List Int) × Bool × Int × Hd) (fun b => loopG (fun _ _ _ _ => none) (fold_Together_1_s1 u1 Mc0 j2) b.1 b.2.1 b.2.2.1 b.2.2.2.1 b.2.2.2.2.1 = some r) (fun b => []) (fun b => [(1, .pointer (some ⟨bc0, 0, none⟩)), (2, .pointer (some ⟨b1, 0, none⟩)), (4, b.2.2.2.2.2.v), (7, .bool b.2.2.2.1), (22, .agg #[u1_h0.v, u1_h1.v]), (23, .int .i64 0), (26, u1_h0.v), (27, .int .i64 (u1.low.length : Int)), (28, .int .i64 b.2.2.2.2.1)]) (fun b => [cells bc0 [.map (some bmc0)] 66, mapA (fun p : Gfold_pair => Value.agg #[.int .i32 p.e0, .int .i32 p.e1]) (fun n : Int => Value.int .i32 n) bmc0 Mc0, vec (encI (.i32)) 21 1 u1_h0.v u1.low, vec (encI (.i32)) 21 1 u1_h1.v u1.high, cells b1 [.int .i64 u1.at_, .int .u8 u1.broken, .int .i32 b.2.1, u1_h0.v, u1_h1.v] 46, vec (encI (.i32)) 21 1 b.2.2.2.2.2.v b.2.2.1]) (fun b => b.1) (fuel, u1.base, ([] : List Int), true, 0, Hd.nil) h rfl (Sbs.cons rfl (Sbs.cons rfl (Sbs.cons rfl (Sbs.cons rfl (Sbs.cons rfl (Sbs.cons rfl (Sbs.cons rfl (Sbs.cons rfl (Sbs.cons rfl (Sbs.nil)))))))))) (Splits.of [2, 3, 0, 1, 4, 5] kr rfl) ?_
    rintro ⟨n1, u7, stayed5, free3, x3, hd5⟩ h
    cases n1 with
    | zero => exact noneE h
    | succ n1 =>
     obtain ⟨ag1, hag1⟩ : ∃ ag, ag = loopG (fun _ _ _ _ => none) (fold_Together_1_s1 u1 Mc0 j2) n1 := ⟨_, rfl⟩
     have h : fold_Together_1_s1 u1 Mc0 j2 ag1 u7 stayed5 free3 x3 = some r := by rw [hag1]; exact h
     unfold fold_Together_1_s1 at h
     show TC _ _ _ _ _ ([]) _ _ [(1, .pointer (some ⟨bc0, 0, none⟩)), (2, .pointer (some ⟨b1, 0, none⟩)), (4, hd5.v), (7, .bool free3), (22, .agg #[u1_h0.v, u1_h1.v]), (23, .int .i64 0), (26, u1_h0.v), (27, .int .i64 (u1.low.length : Int)), (28, .int .i64 x3)] [cells bc0 [.map (some bmc0)] 66, mapA (fun p : Gfold_pair => Value.agg #[.int .i32 p.e0, .int .i32 p.e1]) (fun n : Int => Value.int .i32 n) bmc0 Mc0, vec (encI (.i32)) 21 1 u1_h0.v u1.low, vec (encI (.i32)) 21 1 u1_h1.v u1.high, cells b1 [.int .i64 u1.at_, .int .u8 u1.broken, .int .i32 u7, u1_h0.v, u1_h1.v] 46, vec (encI (.i32)) 21 1 hd5.v stayed5]
     refine TC.seq (TC.region (TO.bin rfl dc rfl rfl bin_lss (TO.nil (TX.next (TC.seq ?_)))))
     refine TC.condB rfl (fun hb2 => ?_) (fun hb2 => ?_)
     ·
      have h := condT hb2 h
      refine TC.skip (TX.next ?_)
      obtain ⟨j3, hj3, h⟩ := joinE h
      refine TC.cutN (β := Int × (List Int) × Bool × Hd) 0 rfl (fun b => j3 b.1 b.2.1 b.2.2.1 = some r) (fun b => []) (fun b => [(1, .pointer (some ⟨bc0, 0, none⟩)), (2, .pointer (some ⟨b1, 0, none⟩)), (4, b.2.2.2.v), (7, .bool b.2.2.1), (22, .agg #[u1_h0.v, u1_h1.v]), (23, .int .i64 0), (26, u1_h0.v), (27, .int .i64 (u1.low.length : Int)), (28, .int .i64 x3)]) (fun b => [cells bc0 [.map (some bmc0)] 66, mapA (fun p : Gfold_pair => Value.agg #[.int .i32 p.e0, .int .i32 p.e1]) (fun n : Int => Value.int .i32 n) bmc0 Mc0, vec (encI (.i32)) 21 1 u1_h0.v u1.low, vec (encI (.i32)) 21 1 u1_h1.v u1.high, cells b1 [.int .i64 u1.at_, .int .u8 u1.broken, .int .i32 b.1, u1_h0.v, u1_h1.v] 46, vec (encI (.i32)) 21 1 b.2.2.2.v b.2.1]) (fun cut => ?_) ?_
      ·
       refine cut (TC.block (TC.seq (TC.region ?_)))
       obtain ⟨q1, hq2, h⟩ := andE h
       refine TO.indexVecI (k := 2) hq2 Try.underlying44 sz_21 rfl dc rfl rfl rfl rfl (TO.loadVec (i := (x3 : Int).toNat) (j := 0) (k := 2) (q := q1) sc_21 encI_len rfl dc rfl rfl (getO_get hq2) rfl dc rfl (TO.assign rfl dc rfl (TO.nil (TX.next (TC.seq (TC.region (TO.load (k := 0) sc_66 rfl dc rfl rfl rfl (TO.fieldAddr fl_46_2 rfl dc rfl (show _ = 2 from rfl) (TO.load (k := 4) sc_21 rfl dc rfl rfl rfl (TO.move rfl dc rfl ?_))))))))))
       refine TO.build (v := .agg #[.int .i32 u7, .int .i32 q1]) (ps := [(0, .tmp 35), (1, .tmp 36)]) rfl dc rfl (fun _ => by kernel_rfl) ?_
       refine TO.lookupOk (k := 1) (ek := (fun p : Gfold_pair => Value.agg #[.int .i32 p.e0, .int .i32 p.e1])) (ev' := (fun n : Int => Value.int .i32 n)) (kk := (⟨u7, q1⟩ : Gfold_pair)) (z0 := 0) (KeyOk.arr2 (f0 := fun p : Gfold_pair => p.e0) (f1 := fun p : Gfold_pair => p.e1) (fun a b h1 h2 => by cases a; cases b; simp_all) Try.underlying73 Try.underlying21 sz_21) Try.underlying66 kr rfl dc rfl rfl rfl ?_
       refine TO.move rfl dc rfl (TO.extract rfl dc rfl rfl (TO.extract rfl dc rfl rfl (TO.assign rfl dc rfl (TO.assign rfl dc rfl (TO.nil (TX.next (TC.seq (TC.region (TO.move rfl dc rfl (TO.move rfl dc rfl ?_))))))))))
       refine TO.split (s := 42) rfl (fun hb3 => ?_) (fun hb3 => ?_)
       ·
        have h := condT hb3 h
        refine TO.move rfl dc rfl (TO.pick (b := true) rfl dc rfl rfl (TO.nil (TX.next ?_)))
        refine TC.condB rfl (fun hb4 => ?_) (fun hb4 => ?_)
        ·
         have h := condT hb4 h
         refine TC.region (TO.move rfl dc rfl (TO.fieldAddr fl_46_2 rfl dc rfl (show _ = 2 from rfl) ?_))
         refine TO.store (k := 4) (l' := [.int .i64 u1.at_, .int .u8 u1.broken, .int .i32 ((getM (⟨u7, q1⟩ : Gfold_pair) Mc0).getD 0), u1_h0.v, u1_h1.v]) sz_21 rfl rfl rfl rfl rfl (fun _ _ => rfl) rfl ?_
         refine TO.nil (TX.blockNormal ?_)
         exact TX.meetD (((getM (⟨u7, q1⟩ : Gfold_pair) Mc0).getD 0), stayed5, free3, hd5) h rfl (Sbs.cons rfl (Sbs.cons rfl (Sbs.cons rfl (Sbs.cons rfl (Sbs.cons rfl (Sbs.cons rfl (Sbs.cons rfl (Sbs.cons rfl (Sbs.cons rfl (Sbs.nil)))))))))) (Splits.of [0, 1, 2, 3, 4, 5] kr rfl)
        ·
         have h := condF hb4 h
         refine TC.seq (TC.region (TO.move rfl dc rfl (TO.move rfl dc rfl ?_)))
         refine TO.buildSlice (cs := [.int .i32 q1]) (te := 21) (ps := [(0, .tmp 48)]) rfl dc rfl (fun _ => by kernel_rfl) (fun b2 => ?_)
         obtain ⟨hg1, h⟩ := grdE h
         refine TO.appendVec (k := 5) (k2 := 6) (ys := [q1]) Try.underlying44 el_21 encI_len encI_one rfl dc rfl rfl rfl rfl rfl rfl hg1 (fun v1 => ?_)
         refine TO.nameHd (k := 5) rfl (fun hd7 he1 => ?_)
         subst he1
         show TO _ _ _ _ _ _ _ _ _ _ [cells bc0 [.map (some bmc0)] 66, mapA (fun p : Gfold_pair => Value.agg #[.int .i32 p.e0, .int .i32 p.e1]) (fun n : Int => Value.int .i32 n) bmc0 Mc0, vec (encI (.i32)) 21 1 u1_h0.v u1.low, vec (encI (.i32)) 21 1 u1_h1.v u1.high, cells b1 [.int .i64 u1.at_, .int .u8 u1.broken, .int .i32 u7, u1_h0.v, u1_h1.v] 46, vec (encI (.i32)) 21 1 hd7.v (stayed5 ++ [q1]), cells b2 [.int .i32 q1] 21]
         refine TO.assign rfl dc rfl (TO.nil (TX.next (TC.region (TO.assign rfl dc rfl (TO.nil (TX.blockNormal ?_))))))
         exact TX.meetD (u7, stayed5 ++ [q1], false, hd7) h rfl (Sbs.cons rfl (Sbs.cons rfl (Sbs.cons rfl (Sbs.cons rfl (Sbs.cons rfl (Sbs.cons rfl (Sbs.cons rfl (Sbs.cons rfl (Sbs.cons rfl (Sbs.nil)))))))))) (Splits.of [0, 1, 2, 3, 4, 5] kr rfl)
       ·
        have h := condF hb3 h
        refine TO.skip rfl dc (TO.pick (b := false) rfl dc rfl rfl (TO.nil (TX.next (TC.condF rfl (TC.seq (TC.region (TO.move rfl dc rfl (TO.move rfl dc rfl ?_))))))))
        refine TO.buildSlice (cs := [.int .i32 q1]) (te := 21) (ps := [(0, .tmp 48)]) rfl dc rfl (fun _ => by kernel_rfl) (fun b3 => ?_)
        obtain ⟨hg2, h⟩ := grdE h
        refine TO.appendVec (k := 5) (k2 := 6) (ys := [q1]) Try.underlying44 el_21 encI_len encI_one rfl dc rfl rfl rfl rfl rfl rfl hg2 (fun v2 => ?_)
        refine TO.nameHd (k := 5) rfl (fun hd8 he2 => ?_)
        subst he2
        show TO _ _ _ _ _ _ _ _ _ _ [cells bc0 [.map (some bmc0)] 66, mapA (fun p : Gfold_pair => Value.agg #[.int .i32 p.e0, .int .i32 p.e1]) (fun n : Int => Value.int .i32 n) bmc0 Mc0, vec (encI (.i32)) 21 1 u1_h0.v u1.low, vec (encI (.i32)) 21 1 u1_h1.v u1.high, cells b1 [.int .i64 u1.at_, .int .u8 u1.broken, .int .i32 u7, u1_h0.v, u1_h1.v] 46, vec (encI (.i32)) 21 1 hd8.v (stayed5 ++ [q1]), cells b3 [.int .i32 q1] 21]
        refine TO.assign rfl dc rfl (TO.nil (TX.next (TC.region (TO.assign rfl dc rfl (TO.nil (TX.blockNormal ?_))))))
        exact TX.meetD (u7, stayed5 ++ [q1], false, hd8) h rfl (Sbs.cons rfl (Sbs.cons rfl (Sbs.cons rfl (Sbs.cons rfl (Sbs.cons rfl (Sbs.cons rfl (Sbs.cons rfl (Sbs.cons rfl (Sbs.cons rfl (Sbs.nil)))))))))) (Splits.of [0, 1, 2, 3, 4, 5] kr rfl)
      ·
       rintro ⟨u8, stayed6, free4, hd6⟩ h
       rw [hj3] at h
       show TC _ _ _ _ _ ([]) _ _ [(1, .pointer (some ⟨bc0, 0, none⟩)), (2, .pointer (some ⟨b1, 0, none⟩)), (4, hd6.v), (7, .bool free4), (22, .agg #[u1_h0.v, u1_h1.v]), (23, .int .i64 0), (26, u1_h0.v), (27, .int .i64 (u1.low.length : Int)), (28, .int .i64 x3)] [cells bc0 [.map (some bmc0)] 66, mapA (fun p : Gfold_pair => Value.agg #[.int .i32 p.e0, .int .i32 p.e1]) (fun n : Int => Value.int .i32 n) bmc0 Mc0, vec (encI (.i32)) 21 1 u1_h0.v u1.low, vec (encI (.i32)) 21 1 u1_h1.v u1.high, cells b1 [.int .i64 u1.at_, .int .u8 u1.broken, .int .i32 u8, u1_h0.v, u1_h1.v] 46, vec (encI (.i32)) 21 1 hd6.v stayed6]
       refine TC.region ?_
       obtain ⟨hg3, h⟩ := grdE h
       refine TO.bin rfl dc rfl rfl (bin_add (r := x3 + 1) (IntWalk.i64_in _ hg3)) (TO.move rfl dc rfl (TO.nil ?_))
       subst hag1
       exact TX.againD (n1, u8, stayed6, free4, x3 + 1, hd6) h (Nat.lt_succ_self _) rfl (Sbs.cons rfl (Sbs.cons rfl (Sbs.cons rfl (Sbs.cons rfl (Sbs.cons rfl (Sbs.cons rfl (Sbs.cons rfl (Sbs.cons rfl (Sbs.cons rfl (Sbs.nil)))))))))) (Splits.of [0, 1, 2, 3, 4, 5] kr rfl)
     ·
      have h := condF hb2 h
      refine TC.exit (TX.thenExit (TX.thenExit (TX.blockHere (TX.blockNormal ?_))))
      exact TX.meetD (u7, stayed5, hd5) h rfl (Sbs.cons rfl (Sbs.cons rfl (Sbs.cons rfl (Sbs.cons rfl (Sbs.cons rfl (Sbs.nil)))))) (Splits.of [0, 1, 2, 3, 4, 5] kr rfl)
   ·
    rintro ⟨u3, stayed2, hd2⟩ h
    rw [hj2] at h
    show TC _ _ _ _ _ ([]) _ _ [(1, .pointer (some ⟨bc0, 0, none⟩)), (2, .pointer (some ⟨b1, 0, none⟩)), (4, hd2.v), (22, .agg #[u1_h0.v, u1_h1.v]), (23, .int .i64 0)] [cells bc0 [.map (some bmc0)] 66, mapA (fun p : Gfold_pair => Value.agg #[.int .i32 p.e0, .int .i32 p.e1]) (fun n : Int => Value.int .i32 n) bmc0 Mc0, vec (encI (.i32)) 21 1 u1_h0.v u1.low, vec (encI (.i32)) 21 1 u1_h1.v u1.high, cells b1 [.int .i64 u1.at_, .int .u8 u1.broken, .int .i32 u3, u1_h0.v, u1_h1.v] 46, vec (encI (.i32)) 21 1 hd2.v stayed2]
    refine TC.region (TO.bin rfl dc rfl rfl (bin_add (r := 1) dc) (TO.move rfl dc rfl (TO.nil (TX.nextN (TR.succ (TC.seq (TC.region (TO.bin rfl dc rfl rfl (bin_known (show Value.bool (decide ((1 : Int) < 2)) = Value.bool true from congrArg Value.bool dc) bin_lss) (TO.nil (TX.next (TC.seq (TC.condT rfl (TC.skip ?_)))))))))))))
    refine TX.next ?_
    obtain ⟨j4, hj4, h⟩ := joinE h
    refine TC.cutN (β := Int × (List Int) × Hd) 0 rfl (fun b => j4 b.1 b.2.1 = some r) (fun b => []) (fun b => [(1, .pointer (some ⟨bc0, 0, none⟩)), (2, .pointer (some ⟨b1, 0, none⟩)), (4, b.2.2.v), (22, .agg #[u1_h0.v, u1_h1.v]), (23, .int .i64 1)]) (fun b => [cells bc0 [.map (some bmc0)] 66, mapA (fun p : Gfold_pair => Value.agg #[.int .i32 p.e0, .int .i32 p.e1]) (fun n : Int => Value.int .i32 n) bmc0 Mc0, vec (encI (.i32)) 21 1 u1_h0.v u1.low, vec (encI (.i32)) 21 1 u1_h1.v u1.high, cells b1 [.int .i64 u1.at_, .int .u8 u1.broken, .int .i32 b.1, u1_h0.v, u1_h1.v] 46, vec (encI (.i32)) 21 1 b.2.2.v b.2.1]) (fun cut => ?_) ?_
    ·
     refine cut (TC.block (TC.seq (TC.region ?_)))
     refine TO.index (v := u1_h1.v) rfl dc rfl rfl (fun _ => by kernel_rfl) ?_
     refine TO.assign rfl dc rfl (TO.nil (TX.next (TC.seq (TC.region (TO.assign rfl dc rfl (TO.nil (TX.next (TC.seq (TC.region (TO.move rfl dc rfl (TO.lenVec (k := 3) rfl dc rfl rfl Try.underlying44 (TO.move rfl dc rfl (TO.nil ?_)))))))))))))
     refine TX.next (TC.block ?_)
     refine TC.loopD (β := Nat × Int × (List Int) × Bool × Int × Hd) (fun b => loopG (fun _ _ _ _ => none) (fold_Together_1_s2 u1 Mc0 j4) b.1 b.2.1 b.2.2.1 b.2.2.2.1 b.2.2.2.2.1 = some r) (fun b => []) (fun b => [(1, .pointer (some ⟨bc0, 0, none⟩)), (2, .pointer (some ⟨b1, 0, none⟩)), (4, b.2.2.2.2.2.v), (7, .bool b.2.2.2.1), (22, .agg #[u1_h0.v, u1_h1.v]), (23, .int .i64 1), (26, u1_h1.v), (27, .int .i64 (u1.high.length : Int)), (28, .int .i64 b.2.2.2.2.1)]) (fun b => [cells bc0 [.map (some bmc0)] 66, mapA (fun p : Gfold_pair => Value.agg #[.int .i32 p.e0, .int .i32 p.e1]) (fun n : Int => Value.int .i32 n) bmc0 Mc0, vec (encI (.i32)) 21 1 u1_h0.v u1.low, vec (encI (.i32)) 21 1 u1_h1.v u1.high, cells b1 [.int .i64 u1.at_, .int .u8 u1.broken, .int .i32 b.2.1, u1_h0.v, u1_h1.v] 46, vec (encI (.i32)) 21 1 b.2.2.2.2.2.v b.2.2.1]) (fun b => b.1) (fuel, u3, stayed2, true, 0, hd2) h rfl (Sbs.cons rfl (Sbs.cons rfl (Sbs.cons rfl (Sbs.cons rfl (Sbs.cons rfl (Sbs.cons rfl (Sbs.cons rfl (Sbs.cons rfl (Sbs.cons rfl (Sbs.nil)))))))))) (Splits.of [0, 1, 2, 3, 4, 5] kr rfl) ?_
     rintro ⟨n2, u12, stayed10, free7, x6, hd12⟩ h
     cases n2 with
     | zero => exact noneE h
     | succ n2 =>
      obtain ⟨ag2, hag2⟩ : ∃ ag, ag = loopG (fun _ _ _ _ => none) (fold_Together_1_s2 u1 Mc0 j4) n2 := ⟨_, rfl⟩
      have h : fold_Together_1_s2 u1 Mc0 j4 ag2 u12 stayed10 free7 x6 = some r := by rw [hag2]; exact h
      unfold fold_Together_1_s2 at h
      show TC _ _ _ _ _ ([]) _ _ [(1, .pointer (some ⟨bc0, 0, none⟩)), (2, .pointer (some ⟨b1, 0, none⟩)), (4, hd12.v), (7, .bool free7), (22, .agg #[u1_h0.v, u1_h1.v]), (23, .int .i64 1), (26, u1_h1.v), (27, .int .i64 (u1.high.length : Int)), (28, .int .i64 x6)] [cells bc0 [.map (some bmc0)] 66, mapA (fun p : Gfold_pair => Value.agg #[.int .i32 p.e0, .int .i32 p.e1]) (fun n : Int => Value.int .i32 n) bmc0 Mc0, vec (encI (.i32)) 21 1 u1_h0.v u1.low, vec (encI (.i32)) 21 1 u1_h1.v u1.high, cells b1 [.int .i64 u1.at_, .int .u8 u1.broken, .int .i32 u12, u1_h0.v, u1_h1.v] 46, vec (encI (.i32)) 21 1 hd12.v stayed10]
      refine TC.seq (TC.region (TO.bin rfl dc rfl rfl bin_lss (TO.nil (TX.next (TC.seq ?_)))))
      refine TC.condB rfl (fun hb5 => ?_) (fun hb5 => ?_)
      ·
       have h := condT hb5 h
       refine TC.skip (TX.next ?_)
       obtain ⟨j5, hj5, h⟩ := joinE h
       refine TC.cutN (β := Int × (List Int) × Bool × Hd) 0 rfl (fun b => j5 b.1 b.2.1 b.2.2.1 = some r) (fun b => []) (fun b => [(1, .pointer (some ⟨bc0, 0, none⟩)), (2, .pointer (some ⟨b1, 0, none⟩)), (4, b.2.2.2.v), (7, .bool b.2.2.1), (22, .agg #[u1_h0.v, u1_h1.v]), (23, .int .i64 1), (26, u1_h1.v), (27, .int .i64 (u1.high.length : Int)), (28, .int .i64 x6)]) (fun b => [cells bc0 [.map (some bmc0)] 66, mapA (fun p : Gfold_pair => Value.agg #[.int .i32 p.e0, .int .i32 p.e1]) (fun n : Int => Value.int .i32 n) bmc0 Mc0, vec (encI (.i32)) 21 1 u1_h0.v u1.low, vec (encI (.i32)) 21 1 u1_h1.v u1.high, cells b1 [.int .i64 u1.at_, .int .u8 u1.broken, .int .i32 b.1, u1_h0.v, u1_h1.v] 46, vec (encI (.i32)) 21 1 b.2.2.2.v b.2.1]) (fun cut => ?_) ?_
       ·
        refine cut (TC.block (TC.seq (TC.region ?_)))
        obtain ⟨q2, hq3, h⟩ := andE h
        refine TO.indexVecI (k := 3) hq3 Try.underlying44 sz_21 rfl dc rfl rfl rfl rfl (TO.loadVec (i := (x6 : Int).toNat) (j := 0) (k := 3) (q := q2) sc_21 encI_len rfl dc rfl rfl (getO_get hq3) rfl dc rfl (TO.assign rfl dc rfl (TO.nil (TX.next (TC.seq (TC.region (TO.load (k := 0) sc_66 rfl dc rfl rfl rfl (TO.fieldAddr fl_46_2 rfl dc rfl (show _ = 2 from rfl) (TO.load (k := 4) sc_21 rfl dc rfl rfl rfl (TO.move rfl dc rfl ?_))))))))))
        refine TO.build (v := .agg #[.int .i32 u12, .int .i32 q2]) (ps := [(0, .tmp 35), (1, .tmp 36)]) rfl dc rfl (fun _ => by kernel_rfl) ?_
        refine TO.lookupOk (k := 1) (ek := (fun p : Gfold_pair => Value.agg #[.int .i32 p.e0, .int .i32 p.e1])) (ev' := (fun n : Int => Value.int .i32 n)) (kk := (⟨u12, q2⟩ : Gfold_pair)) (z0 := 0) (KeyOk.arr2 (f0 := fun p : Gfold_pair => p.e0) (f1 := fun p : Gfold_pair => p.e1) (fun a b h1 h2 => by cases a; cases b; simp_all) Try.underlying73 Try.underlying21 sz_21) Try.underlying66 kr rfl dc rfl rfl rfl ?_
        refine TO.move rfl dc rfl (TO.extract rfl dc rfl rfl (TO.extract rfl dc rfl rfl (TO.assign rfl dc rfl (TO.assign rfl dc rfl (TO.nil (TX.next (TC.seq (TC.region (TO.move rfl dc rfl (TO.move rfl dc rfl ?_))))))))))
        refine TO.split (s := 42) rfl (fun hb6 => ?_) (fun hb6 => ?_)
        ·
         have h := condT hb6 h
         refine TO.move rfl dc rfl (TO.pick (b := true) rfl dc rfl rfl (TO.nil (TX.next ?_)))
         refine TC.condB rfl (fun hb7 => ?_) (fun hb7 => ?_)
         ·
          have h := condT hb7 h
          refine TC.region (TO.move rfl dc rfl (TO.fieldAddr fl_46_2 rfl dc rfl (show _ = 2 from rfl) ?_))
          refine TO.store (k := 4) (l' := [.int .i64 u1.at_, .int .u8 u1.broken, .int .i32 ((getM (⟨u12, q2⟩ : Gfold_pair) Mc0).getD 0), u1_h0.v, u1_h1.v]) sz_21 rfl rfl rfl rfl rfl (fun _ _ => rfl) rfl ?_
          refine TO.nil (TX.blockNormal ?_)
          exact TX.meetD (((getM (⟨u12, q2⟩ : Gfold_pair) Mc0).getD 0), stayed10, free7, hd12) h rfl (Sbs.cons rfl (Sbs.cons rfl (Sbs.cons rfl (Sbs.cons rfl (Sbs.cons rfl (Sbs.cons rfl (Sbs.cons rfl (Sbs.cons rfl (Sbs.cons rfl (Sbs.nil)))))))))) (Splits.of [0, 1, 2, 3, 4, 5] kr rfl)
         ·
          have h := condF hb7 h
          refine TC.seq (TC.region (TO.move rfl dc rfl (TO.move rfl dc rfl ?_)))
          refine TO.buildSlice (cs := [.int .i32 q2]) (te := 21) (ps := [(0, .tmp 48)]) rfl dc rfl (fun _ => by kernel_rfl) (fun b4 => ?_)
          obtain ⟨hg4, h⟩ := grdE h
          refine TO.appendVec (k := 5) (k2 := 6) (ys := [q2]) Try.underlying44 el_21 encI_len encI_one rfl dc rfl rfl rfl rfl rfl rfl hg4 (fun v3 => ?_)
          refine TO.nameHd (k := 5) rfl (fun hd14 he3 => ?_)
          subst he3
          show TO _ _ _ _ _ _ _ _ _ _ [cells bc0 [.map (some bmc0)] 66, mapA (fun p : Gfold_pair => Value.agg #[.int .i32 p.e0, .int .i32 p.e1]) (fun n : Int => Value.int .i32 n) bmc0 Mc0, vec (encI (.i32)) 21 1 u1_h0.v u1.low, vec (encI (.i32)) 21 1 u1_h1.v u1.high, cells b1 [.int .i64 u1.at_, .int .u8 u1.broken, .int .i32 u12, u1_h0.v, u1_h1.v] 46, vec (encI (.i32)) 21 1 hd14.v (stayed10 ++ [q2]), cells b4 [.int .i32 q2] 21]
          refine TO.assign rfl dc rfl (TO.nil (TX.next (TC.region (TO.assign rfl dc rfl (TO.nil (TX.blockNormal ?_))))))
          exact TX.meetD (u12, stayed10 ++ [q2], false, hd14) h rfl (Sbs.cons rfl (Sbs.cons rfl (Sbs.cons rfl (Sbs.cons rfl (Sbs.cons rfl (Sbs.cons rfl (Sbs.cons rfl (Sbs.cons rfl (Sbs.cons rfl (Sbs.nil)))))))))) (Splits.of [0, 1, 2, 3, 4, 5] kr rfl)
        ·
         have h := condF hb6 h
         refine TO.skip rfl dc (TO.pick (b := false) rfl dc rfl rfl (TO.nil (TX.next (TC.condF rfl (TC.seq (TC.region (TO.move rfl dc rfl (TO.move rfl dc rfl ?_))))))))
         refine TO.buildSlice (cs := [.int .i32 q2]) (te := 21) (ps := [(0, .tmp 48)]) rfl dc rfl (fun _ => by kernel_rfl) (fun b5 => ?_)
         obtain ⟨hg5, h⟩ := grdE h
         refine TO.appendVec (k := 5) (k2 := 6) (ys := [q2]) Try.underlying44 el_21 encI_len encI_one rfl dc rfl rfl rfl rfl rfl rfl hg5 (fun v4 => ?_)
         refine TO.nameHd (k := 5) rfl (fun hd15 he4 => ?_)
         subst he4
         show TO _ _ _ _ _ _ _ _ _ _ [cells bc0 [.map (some bmc0)] 66, mapA (fun p : Gfold_pair => Value.agg #[.int .i32 p.e0, .int .i32 p.e1]) (fun n : Int => Value.int .i32 n) bmc0 Mc0, vec (encI (.i32)) 21 1 u1_h0.v u1.low, vec (encI (.i32)) 21 1 u1_h1.v u1.high, cells b1 [.int .i64 u1.at_, .int .u8 u1.broken, .int .i32 u12, u1_h0.v, u1_h1.v] 46, vec (encI (.i32)) 21 1 hd15.v (stayed10 ++ [q2]), cells b5 [.int .i32 q2] 21]
         refine TO.assign rfl dc rfl (TO.nil (TX.next (TC.region (TO.assign rfl dc rfl (TO.nil (TX.blockNormal ?_))))))
         exact TX.meetD (u12, stayed10 ++ [q2], false, hd15) h rfl (Sbs.cons rfl (Sbs.cons rfl (Sbs.cons rfl (Sbs.cons rfl (Sbs.cons rfl (Sbs.cons rfl (Sbs.cons rfl (Sbs.cons rfl (Sbs.cons rfl (Sbs.nil)))))))))) (Splits.of [0, 1, 2, 3, 4, 5] kr rfl)
       ·
        rintro ⟨u13, stayed11, free8, hd13⟩ h
        rw [hj5] at h
        show TC _ _ _ _ _ ([]) _ _ [(1, .pointer (some ⟨bc0, 0, none⟩)), (2, .pointer (some ⟨b1, 0, none⟩)), (4, hd13.v), (7, .bool free8), (22, .agg #[u1_h0.v, u1_h1.v]), (23, .int .i64 1), (26, u1_h1.v), (27, .int .i64 (u1.high.length : Int)), (28, .int .i64 x6)] [cells bc0 [.map (some bmc0)] 66, mapA (fun p : Gfold_pair => Value.agg #[.int .i32 p.e0, .int .i32 p.e1]) (fun n : Int => Value.int .i32 n) bmc0 Mc0, vec (encI (.i32)) 21 1 u1_h0.v u1.low, vec (encI (.i32)) 21 1 u1_h1.v u1.high, cells b1 [.int .i64 u1.at_, .int .u8 u1.broken, .int .i32 u13, u1_h0.v, u1_h1.v] 46, vec (encI (.i32)) 21 1 hd13.v stayed11]
        refine TC.region ?_
        obtain ⟨hg6, h⟩ := grdE h
        refine TO.bin rfl dc rfl rfl (bin_add (r := x6 + 1) (IntWalk.i64_in _ hg6)) (TO.move rfl dc rfl (TO.nil ?_))
        subst hag2
        exact TX.againD (n2, u13, stayed11, free8, x6 + 1, hd13) h (Nat.lt_succ_self _) rfl (Sbs.cons rfl (Sbs.cons rfl (Sbs.cons rfl (Sbs.cons rfl (Sbs.cons rfl (Sbs.cons rfl (Sbs.cons rfl (Sbs.cons rfl (Sbs.cons rfl (Sbs.nil)))))))))) (Splits.of [0, 1, 2, 3, 4, 5] kr rfl)
      ·
       have h := condF hb5 h
       refine TC.exit (TX.thenExit (TX.thenExit (TX.blockHere (TX.blockNormal ?_))))
       exact TX.meetD (u12, stayed10, hd12) h rfl (Sbs.cons rfl (Sbs.cons rfl (Sbs.cons rfl (Sbs.cons rfl (Sbs.cons rfl (Sbs.nil)))))) (Splits.of [0, 1, 2, 3, 4, 5] kr rfl)
    ·
     rintro ⟨u9, stayed7, hd9⟩ h
     rw [hj4] at h
     show TC _ _ _ _ _ ([]) _ _ [(1, .pointer (some ⟨bc0, 0, none⟩)), (2, .pointer (some ⟨b1, 0, none⟩)), (4, hd9.v), (22, .agg #[u1_h0.v, u1_h1.v]), (23, .int .i64 1)] [cells bc0 [.map (some bmc0)] 66, mapA (fun p : Gfold_pair => Value.agg #[.int .i32 p.e0, .int .i32 p.e1]) (fun n : Int => Value.int .i32 n) bmc0 Mc0, vec (encI (.i32)) 21 1 u1_h0.v u1.low, vec (encI (.i32)) 21 1 u1_h1.v u1.high, cells b1 [.int .i64 u1.at_, .int .u8 u1.broken, .int .i32 u9, u1_h0.v, u1_h1.v] 46, vec (encI (.i32)) 21 1 hd9.v stayed7]
     refine TC.region (TO.bin rfl dc rfl rfl (bin_add (r := 2) dc) (TO.move rfl dc rfl (TO.nil (TX.nextN (TR.succ (TC.seq (TC.region (TO.bin rfl dc rfl rfl (bin_known (show Value.bool (decide ((2 : Int) < 2)) = Value.bool false from congrArg Value.bool dc) bin_lss) (TO.nil (TX.next (TC.seq (TC.condF rfl (TC.exit ?_)))))))))))))
     refine TX.thenExit (TX.thenExit (TX.blockHere ?_))
     exact TX.meetD (u9, stayed7, hd9) h rfl (Sbs.cons rfl (Sbs.cons rfl (Sbs.nil))) (Splits.of [0, 1, 2, 3, 4, 5] kr rfl)
  ·
   rintro ⟨u2, stayed1, hd1⟩ h
   rw [hj1] at h
   show TC _ _ _ _ _ ([]) _ _ [(2, .pointer (some ⟨b1, 0, none⟩)), (4, hd1.v)] [cells bc0 [.map (some bmc0)] 66, mapA (fun p : Gfold_pair => Value.agg #[.int .i32 p.e0, .int .i32 p.e1]) (fun n : Int => Value.int .i32 n) bmc0 Mc0, vec (encI (.i32)) 21 1 u1_h0.v u1.low, vec (encI (.i32)) 21 1 u1_h1.v u1.high, cells b1 [.int .i64 u1.at_, .int .u8 u1.broken, .int .i32 u2, u1_h0.v, u1_h1.v] 46, vec (encI (.i32)) 21 1 hd1.v stayed1]
   refine TC.seq (TC.region (TO.fieldAddr fl_46_2 rfl dc rfl (show _ = 2 from rfl) (TO.load (k := 4) sc_21 rfl dc rfl rfl rfl (TO.conv rfl dc rfl (conv_rune Try.underlying21 Try.underlying9) (TO.move rfl dc rfl (TO.runesStr (k := 5) rfl dc rfl rfl Try.underlying44 Try.underlying21 Try.underlying9 ?_))))))
   obtain ⟨hg7, h⟩ := grdE h
   refine TO.bin rfl dc rfl rfl (bin_sadd hg7) (TO.assign rfl dc rfl (TO.nil (TX.next (TC.ret ?_))))
   cases h
   exact TX.fin (rs := [.tmp 3]) () (.inl rfl) Try.results41 (.cons (.tmp rfl) .nil) rfl (Splits.of [2, 3, 0, 1] kr rfl)
end Go.Proofs.Ytlamcpgnmeileaa
namespace Go.Proofs.Ytlamcpgnmeileaa
open Go.RowKit Go.Lib
set_option linter.unusedVariables false
set_option linter.unusedSimpArgs false
def fold_written_Together_1_s1 (l1 : List Gfold_unit) (Mof10 : List (Gfold_pair × Int)) (j1 : ByteArray → Option ByteArray) (ag1 : ByteArray → Int → Option ByteArray) (b4 : ByteArray) (x3 : Int) : Option ByteArray := bcond (decide ((x3 : Int) < (l1.length : Int))) ( joinK (fun (j2 : ByteArray → Option ByteArray) => andThen (getO l1 x3) fun (x4 : Gfold_unit) => bcond (decide ((x4.base : Int) < 0)) ( grd (b4.size + 1 ≤ 140737488355328) <| grd (∀ x ∈ ([x4.broken] : List Int), U8 x) <| j2 (b4 ++ (bytesOf [x4.broken]))
) ( andThen (fold_Together_1_v x4 Mof10) fun (r1 : ByteArray) => grd (b4.size + r1.size ≤ 140737488355328) <| j2 (b4 ++ r1)
)
) (fun (b5 : ByteArray) => grd (I64 (x3 + 1)) <| ag1 b5 (x3 + 1)
)
) ( j1 b4
)
def fold_written_Together_1_v (l1 : List Gfold_unit) (Mof10 : List (Gfold_pair × Int)) : Option ByteArray := joinK (fun (j1 : ByteArray → Option ByteArray) => loopG (fun _ _ => none) (fold_written_Together_1_s1 l1 Mof10 j1) fuel ByteArray.empty 0
) (fun (b1 : ByteArray) => some b1
)
set_option maxRecDepth 100000 in
set_option maxHeartbeats 4000000 in
theorem fold_written_Together_1_fn {vvl1 vl1 : Value} {Zl1 : List (Gfold_unit × Hd × Hd)} {kl1 : Nat} {zl1 : List (Gfold_unit × Hd × Hd)} {l1 : List Gfold_unit} (hwl1 : Vw vvl1 Zl1 5 kl1 vl1 zl1) (hzl1 : zl1.map Prod.fst = l1) {bof10 bmof10 : Nat} {Mof10 : List (Gfold_pair × Int)} {r : ByteArray} (h : fold_written_Together_1_v l1 Mof10 = some r) : Fn Try.prog 25 [vl1, .func (.func 41) #[] #[.pointer (some ⟨bof10, 0, none⟩)]] [vec encN_Gfold_unit 46 5 vvl1 Zl1, own nest_Gfold_unit Zl1, cells bof10 [.map (some bmof10)] 66, mapA (fun p : Gfold_pair => Value.agg #[.int .i32 p.e0, .int .i32 p.e1]) (fun n : Int => Value.int .i32 n) bmof10 Mof10] (fun _b : Unit => .string r) (fun _b => [vec encN_Gfold_unit 46 5 vvl1 Zl1, own nest_Gfold_unit Zl1, cells bof10 [.map (some bmof10)] 66, mapA (fun p : Gfold_pair => Value.agg #[.int .i32 p.e0, .int .i32 p.e1]) (fun n : Int => Value.int .i32 n) bmof10 Mof10]) := by
 unfold fold_written_Together_1_v at h
 refine Fn.intro Try.func25 rfl Try.ntmps25 (by simp) ?_
 intro w0 K
 obtain ⟨j1, hj1, h⟩ := joinE h
 refine TC.cutN (β := ByteArray × Value) 2 rfl (fun b => j1 b.1 = some r) (fun b => []) (fun b => [(5, b.2)]) (fun b => [cells bof10 [.map (some bmof10)] 66, mapA (fun p : Gfold_pair => Value.agg #[.int .i32 p.e0, .int .i32 p.e1]) (fun n : Int => Value.int .i32 n) bmof10 Mof10, vec encN_Gfold_unit 46 5 vvl1 Zl1, own nest_Gfold_unit Zl1, byt 5 b.2 b.1]) (fun cut => ?_) ?_
 ·
  refine TC.seq (TC.region (TO.assign rfl dc rfl (TO.nil (TX.next (TC.seq (TC.region (TO.assign rfl dc rfl (TO.nil (TX.next (cut (TC.seq (TC.region (TO.move rfl dc rfl ?_)))))))))))))
  refine TO.lenVwZ hzl1 hwl1 rfl dc rfl Try.underlying42 (TO.move rfl dc rfl (TO.nil (TX.next (TC.block (TC.newByt (e := 5) ?_)))))
  show TC _ _ _ _ _ _ _ _ _ [vec encN_Gfold_unit 46 5 vvl1 Zl1, own nest_Gfold_unit Zl1, cells bof10 [.map (some bmof10)] 66, mapA (fun p : Gfold_pair => Value.agg #[.int .i32 p.e0, .int .i32 p.e1]) (fun n : Int => Value.int .i32 n) bmof10 Mof10, byt 5 (.slice none 0 0) ByteArray.empty]
  refine TC.loopD (β := Nat × ByteArray × Int × Value) (fun b => loopG (fun _ _ => none) (fold_written_Together_1_s1 l1 Mof10 j1) b.1 b.2.1 b.2.2.1 = some r) (fun b => []) (fun b => [(1, .func (.func 41) #[] #[.pointer (some ⟨bof10, 0, none⟩)]), (5, b.2.2.2), (8, vl1), (9, .int .i64 (l1.length : Int)), (10, .int .i64 b.2.2.1)]) (fun b => [cells bof10 [.map (some bmof10)] 66, mapA (fun p : Gfold_pair => Value.agg #[.int .i32 p.e0, .int .i32 p.e1]) (fun n : Int => Value.int .i32 n) bmof10 Mof10, vec encN_Gfold_unit 46 5 vvl1 Zl1, own nest_Gfold_unit Zl1, byt 5 b.2.2.2 b.2.1]) (fun b => b.1) (fuel, ByteArray.empty, 0, (.slice none 0 0)) h rfl (Sbs.cons rfl (Sbs.cons rfl (Sbs.cons rfl (Sbs.cons rfl (Sbs.cons rfl (Sbs.nil)))))) (Splits.of [2, 3, 0, 1, 4] kr rfl) ?_
  rintro ⟨n1, b4, x3, v4⟩ h
  cases n1 with
  | zero => exact noneE h
  | succ n1 =>
   obtain ⟨ag1, hag1⟩ : ∃ ag, ag = loopG (fun _ _ => none) (fold_written_Together_1_s1 l1 Mof10 j1) n1 := ⟨_, rfl⟩
   have h : fold_written_Together_1_s1 l1 Mof10 j1 ag1 b4 x3 = some r := by rw [hag1]; exact h
   unfold fold_written_Together_1_s1 at h
   show TC _ _ _ _ _ ([]) _ _ [(1, .func (.func 41) #[] #[.pointer (some ⟨bof10, 0, none⟩)]), (5, v4), (8, vl1), (9, .int .i64 (l1.length : Int)), (10, .int .i64 x3)] [cells bof10 [.map (some bmof10)] 66, mapA (fun p : Gfold_pair => Value.agg #[.int .i32 p.e0, .int .i32 p.e1]) (fun n : Int => Value.int .i32 n) bmof10 Mof10, vec encN_Gfold_unit 46 5 vvl1 Zl1, own nest_Gfold_unit Zl1, byt 5 v4 b4]
   refine TC.seq (TC.region (TO.bin rfl dc rfl rfl bin_lss (TO.nil (TX.next (TC.seq ?_)))))
   refine TC.condB rfl (fun hb1 => ?_) (fun hb1 => ?_)
   ·
    have h := condT hb1 h
    refine TC.skip (TX.next ?_)
    obtain ⟨j2, hj2, h⟩ := joinE h
    refine TC.cutN (β := ByteArray × Value) 0 rfl (fun b => j2 b.1 = some r) (fun b => []) (fun b => [(1, .func (.func 41) #[] #[.pointer (some ⟨bof10, 0, none⟩)]), (5, b.2), (8, vl1), (9, .int .i64 (l1.length : Int)), (10, .int .i64 x3)]) (fun b => [cells bof10 [.map (some bmof10)] 66, mapA (fun p : Gfold_pair => Value.agg #[.int .i32 p.e0, .int .i32 p.e1]) (fun n : Int => Value.int .i32 n) bmof10 Mof10, vec encN_Gfold_unit 46 5 vvl1 Zl1, own nest_Gfold_unit Zl1, byt 5 b.2 b.1]) (fun cut => ?_) ?_
    ·
     refine cut (TC.block (TC.seq (TC.region ?_)))
     obtain ⟨x4, hq1, h⟩ := andE h
     obtain ⟨⟨eh1, eh2⟩, eq1⟩ := getO_z hzl1 hq1
     refine TO.indexVw hwl1 eq1 Try.underlying42 sz_46 rfl dc rfl rfl rfl (TO.loadsVec (i := kl1 + (x3 : Int).toNat) (j := 0) (k := 2) (q := (x4, (eh1, eh2))) (cs := [.int .i64 x4.at_, .int .u8 x4.broken, .int .i32 x4.base, eh1.v, eh2.v]) rw_46 encN_Gfold_unit_len rfl dc rfl rfl (Vw.get hwl1 eq1) rfl rfl rfl ?_)
     refine TO.alloc zr_46 rfl dc (fun b6 => ?_)
     refine TO.stores (k := 5) (vs := [.int .i64 x4.at_, .int .u8 x4.broken, .int .i32 x4.base, eh1.v, eh2.v]) (l' := [.int .i64 x4.at_, .int .u8 x4.broken, .int .i32 x4.base, eh1.v, eh2.v]) sz_46 rfl rfl rfl rfl rfl (show _ ≤ _ by simp) rfl rfl ?_
     show TO _ _ _ _ _ _ _ _ _ _ [cells bof10 [.map (some bmof10)] 66, mapA (fun p : Gfold_pair => Value.agg #[.int .i32 p.e0, .int .i32 p.e1]) (fun n : Int => Value.int .i32 n) bmof10 Mof10, vec encN_Gfold_unit 46 5 vvl1 Zl1, own nest_Gfold_unit Zl1, byt 5 v4 b4, cells b6 [.int .i64 x4.at_, .int .u8 x4.broken, .int .i32 x4.base, eh1.v, eh2.v] 46]
     refine TO.nil (TX.next (TC.seq (TC.region (TO.fieldAddr fl_46_2 rfl dc rfl (show _ = 2 from rfl) (TO.load (k := 5) sc_21 rfl dc rfl rfl rfl (TO.bin rfl dc rfl rfl bin_lss (TO.nil (TX.next ?_))))))))
     refine TC.condB rfl (fun hb2 => ?_) (fun hb2 => ?_)
     ·
      have h := condT hb2 h
      refine TC.region (TO.move rfl dc rfl (TO.fieldAddr fl_46_1 rfl dc rfl (show _ = 1 from rfl) (TO.load (k := 5) sc_5 rfl dc rfl rfl rfl ?_)))
      refine TO.buildSlice (cs := [.int .u8 x4.broken]) (te := 5) (ps := [(0, .tmp 19)]) rfl dc rfl (fun _ => by kernel_rfl) (fun b7 => ?_)
      obtain ⟨hg1, h⟩ := grdE h
      obtain ⟨hg2, h⟩ := grdE h
      refine TO.appendByt (k := 4) (k2 := 6) (ys := (bytesOf [x4.broken])) Try.underlying82 by_5 rfl dc rfl rfl rfl rfl (strCells_of hg2) rfl hg1 (fun v6 => ?_)
      show TO _ _ _ _ _ _ _ _ _ _ [cells bof10 [.map (some bmof10)] 66, mapA (fun p : Gfold_pair => Value.agg #[.int .i32 p.e0, .int .i32 p.e1]) (fun n : Int => Value.int .i32 n) bmof10 Mof10, vec encN_Gfold_unit 46 5 vvl1 Zl1, own nest_Gfold_unit Zl1, byt 5 v6 (b4 ++ (bytesOf [x4.broken])), cells b6 [.int .i64 x4.at_, .int .u8 x4.broken, .int .i32 x4.base, eh1.v, eh2.v] 46, cells b7 [.int .u8 x4.broken] 5]
      refine TO.assign rfl dc rfl (TO.nil (TX.blockNormal ?_))
      exact TX.meetD (b4 ++ (bytesOf [x4.broken]), v6) h rfl (Sbs.cons rfl (Sbs.cons rfl (Sbs.cons rfl (Sbs.cons rfl (Sbs.cons rfl (Sbs.nil)))))) (Splits.of [0, 1, 2, 3, 4] kr rfl)
     ·
      have h := condF hb2 h
      refine TC.region (TO.move rfl dc rfl (TO.move rfl dc rfl (TO.loads (k := 5) (cs := [.int .i64 x4.at_, .int .u8 x4.broken, .int .i32 x4.base, eh1.v, eh2.v]) rw_46 rfl dc rfl rfl rfl rfl ?_)))
      refine TO.unfold1 (k := 3) rfl (pullE (Vw.get hwl1 eq1)) (fun _ _ => ?_)
      show TO _ _ _ _ _ _ _ _ _ _ [cells bof10 [.map (some bmof10)] 66, mapA (fun p : Gfold_pair => Value.agg #[.int .i32 p.e0, .int .i32 p.e1]) (fun n : Int => Value.int .i32 n) bmof10 Mof10, vec encN_Gfold_unit 46 5 vvl1 Zl1, own nest_Gfold_unit (Zl1.eraseIdx (kl1 + (x3 : Int).toNat)), byt 5 v4 b4, cells b6 [.int .i64 x4.at_, .int .u8 x4.broken, .int .i32 x4.base, eh1.v, eh2.v] 46, vec (encI (.i32)) 21 1 eh1.v x4.low, vec (encI (.i32)) 21 1 eh2.v x4.high]
      obtain ⟨r1, hq2, h⟩ := andE h
      refine TO.callK (v := .string r1) (vs := [.agg #[.int .i64 x4.at_, .int .u8 x4.broken, .int .i32 x4.base, eh1.v, eh2.v]]) rfl dc rfl rfl rfl en_41 (fold_Together_1_fn (u1 := x4) (u1_h0 := eh1) (u1_h1 := eh2) (bmc0 := bmof10) hq2) [6, 7, 0, 1] kr rfl ?_
      obtain ⟨hg3, h⟩ := grdE h
      refine TO.appendStr (k := 4) Try.underlying82 Try.underlying9 by_5 rfl dc rfl rfl rfl hg3 (fun v7 => ?_)
      refine TO.assign rfl dc rfl (TO.nil (TX.blockNormal (TX.fold1 (k := 3) rfl (Splits.of [6, 7] kr rfl) rfl (pushE (nest := nest_Gfold_unit) (Vw.get hwl1 eq1) rfl) ?_)))
      show TX _ _ _ _ _ _ _ [cells bof10 [.map (some bmof10)] 66, mapA (fun p : Gfold_pair => Value.agg #[.int .i32 p.e0, .int .i32 p.e1]) (fun n : Int => Value.int .i32 n) bmof10 Mof10, vec encN_Gfold_unit 46 5 vvl1 Zl1, own nest_Gfold_unit Zl1, byt 5 v7 (b4 ++ r1), cells b6 [.int .i64 x4.at_, .int .u8 x4.broken, .int .i32 x4.base, eh1.v, eh2.v] 46, emp, emp]
      exact TX.meetD (b4 ++ r1, v7) h rfl (Sbs.cons rfl (Sbs.cons rfl (Sbs.cons rfl (Sbs.cons rfl (Sbs.cons rfl (Sbs.nil)))))) (Splits.of [0, 1, 2, 3, 4] kr rfl)
    ·
     rintro ⟨b5, v5⟩ h
     rw [hj2] at h
     show TC _ _ _ _ _ ([]) _ _ [(1, .func (.func 41) #[] #[.pointer (some ⟨bof10, 0, none⟩)]), (5, v5), (8, vl1), (9, .int .i64 (l1.length : Int)), (10, .int .i64 x3)] [cells bof10 [.map (some bmof10)] 66, mapA (fun p : Gfold_pair => Value.agg #[.int .i32 p.e0, .int .i32 p.e1]) (fun n : Int => Value.int .i32 n) bmof10 Mof10, vec encN_Gfold_unit 46 5 vvl1 Zl1, own nest_Gfold_unit Zl1, byt 5 v5 b5]
     refine TC.region ?_
     obtain ⟨hg4, h⟩ := grdE h
     refine TO.bin rfl dc rfl rfl (bin_add (r := x3 + 1) (IntWalk.i64_in _ hg4)) (TO.move rfl dc rfl (TO.nil ?_))
     subst hag1
     exact TX.againD (n1, b5, x3 + 1, v5) h (Nat.lt_succ_self _) rfl (Sbs.cons rfl (Sbs.cons rfl (Sbs.cons rfl (Sbs.cons rfl (Sbs.cons rfl (Sbs.nil)))))) (Splits.of [0, 1, 2, 3, 4] kr rfl)
   ·
    have h := condF hb1 h
    refine TC.exit (TX.thenExit (TX.thenExit (TX.blockHere ?_)))
    exact TX.meetD (b4, v4) h rfl (Sbs.cons rfl (Sbs.nil)) (Splits.of [0, 1, 2, 3, 4] kr rfl)
 ·
  rintro ⟨b1, v1⟩ h
  rw [hj1] at h
  show TC _ _ _ _ _ ([]) _ _ [(5, v1)] [cells bof10 [.map (some bmof10)] 66, mapA (fun p : Gfold_pair => Value.agg #[.int .i32 p.e0, .int .i32 p.e1]) (fun n : Int => Value.int .i32 n) bmof10 Mof10, vec encN_Gfold_unit 46 5 vvl1 Zl1, own nest_Gfold_unit Zl1, byt 5 v1 b1]
  refine TC.seq (TC.region (TO.move rfl dc rfl (TO.bytStr (k := 4) rfl dc rfl rfl Try.underlying82 Try.underlying5 Try.underlying9 (TO.assign rfl dc rfl (TO.nil (TX.next (TC.ret ?_)))))))
  cases h
  exact TX.fin (rs := [.tmp 4]) () (.inl rfl) Try.results25 (.cons (.tmp rfl) .nil) rfl (Splits.of [2, 3, 0, 1] kr rfl)
end Go.Proofs.Ytlamcpgnmeileaa
namespace Go.Proofs.Ytlamcpgnmeileaa
open Go.RowKit Go.Lib
set_option linter.unusedVariables false
set_option linter.unusedSimpArgs false
def fold_Together_v (s1 : ByteArray) : Option ByteArray := andThen (fold_tables_v) fun (r1 : ((List (Gfold_pair × Int)) × (List (Int × Gfold_pair)))) => andThen (fold_units_v s1) fun (r2 : (List Gfold_unit)) => andThen (fold_written_Together_1_v r2 r1.1) fun (r3 : ByteArray) => some r3
set_option maxRecDepth 100000 in
set_option maxHeartbeats 4000000 in
theorem fold_Together_fn {s1 : ByteArray} {r : ByteArray} (h : fold_Together_v s1 = some r) : FnP Try.prog 19 [.string s1] (.string r) := by
 unfold fold_Together_v at h
 refine FnP.intro Try.func19 rfl Try.ntmps19 (by simp) ?_
 intro w0 K
 refine TC.seq (TC.region (TO.assign rfl dc rfl (TO.nil (TX.next (TC.seq (TC.region ?_))))))
 obtain ⟨r1, hq1, h⟩ := andE h
 refine TO.call (vs := []) rfl dc rfl rfl rfl en_40 (fold_tables_fn hq1) Splits.nil ?_
 rintro ⟨b1, b2⟩
 show TO _ _ _ _ _ _ _ _ _ _ [mapA (fun p : Gfold_pair => Value.agg #[.int .i32 p.e0, .int .i32 p.e1]) (fun n : Int => Value.int .i32 n) b1 r1.1, mapA (fun n : Int => Value.int .i32 n) (fun p : Gfold_pair => Value.agg #[.int .i32 p.e0, .int .i32 p.e1]) b2 r1.2]
 refine TO.weakenL (L' := [mapA (fun p : Gfold_pair => Value.agg #[.int .i32 p.e0, .int .i32 p.e1]) (fun n : Int => Value.int .i32 n) b1 r1.1, mapA (fun n : Int => Value.int .i32 n) (fun p : Gfold_pair => Value.agg #[.int .i32 p.e0, .int .i32 p.e1]) b2 r1.2]) (Splits.of [0, 1] kr rfl) ?_
 refine TO.move rfl dc rfl (TO.extract rfl dc rfl rfl (TO.extract rfl dc rfl rfl ?_))
 refine TO.alloc zr_66 rfl dc (fun b3 => ?_)
 refine TO.store (k := 2) (l' := [.map (some b1)]) sz_66 rfl rfl rfl rfl rfl (fun _ _ => rfl) rfl ?_
 show TO _ _ _ _ _ _ _ _ _ _ [mapA (fun p : Gfold_pair => Value.agg #[.int .i32 p.e0, .int .i32 p.e1]) (fun n : Int => Value.int .i32 n) b1 r1.1, mapA (fun n : Int => Value.int .i32 n) (fun p : Gfold_pair => Value.agg #[.int .i32 p.e0, .int .i32 p.e1]) b2 r1.2, cells b3 [.map (some b1)] 66]
 refine TO.assign rfl dc rfl (TO.nil (TX.next (TC.seq (TC.region (TO.move rfl dc rfl ?_)))))
 obtain ⟨r2, hq2, h⟩ := andE h
 refine TO.call (vs := [.string s1]) rfl dc rfl rfl rfl en_24 (fold_units_fn hq2) Splits.nil ?_
 rintro v1
 show TO _ _ _ _ _ _ _ _ _ _ [mapA (fun p : Gfold_pair => Value.agg #[.int .i32 p.e0, .int .i32 p.e1]) (fun n : Int => Value.int .i32 n) b1 r1.1, mapA (fun n : Int => Value.int .i32 n) (fun p : Gfold_pair => Value.agg #[.int .i32 p.e0, .int .i32 p.e1]) b2 r1.2, cells b3 [.map (some b1)] 66, vecN encN_Gfold_unit nest_Gfold_unit 46 5 v1 r2]
 refine TO.weakenL (L' := [mapA (fun p : Gfold_pair => Value.agg #[.int .i32 p.e0, .int .i32 p.e1]) (fun n : Int => Value.int .i32 n) b1 r1.1, mapA (fun n : Int => Value.int .i32 n) (fun p : Gfold_pair => Value.agg #[.int .i32 p.e0, .int .i32 p.e1]) b2 r1.2, cells b3 [.map (some b1)] 66, vecN encN_Gfold_unit nest_Gfold_unit 46 5 v1 r2]) (Splits.of [0, 1, 2, 3] kr rfl) ?_
 refine TO.nameHdN (k := 3) rfl (fun hd1 he1 => ?_)
 subst he1
 refine TO.makeFunc (x1 := []) (x2 := [.tmp 3]) rfl dc rfl rfl ?_
 refine TO.unfold1 (k := 3) rfl openE (fun zs1 hz1 => ?_)
 show TO _ _ _ _ _ _ _ _ _ _ [mapA (fun p : Gfold_pair => Value.agg #[.int .i32 p.e0, .int .i32 p.e1]) (fun n : Int => Value.int .i32 n) b1 r1.1, mapA (fun n : Int => Value.int .i32 n) (fun p : Gfold_pair => Value.agg #[.int .i32 p.e0, .int .i32 p.e1]) b2 r1.2, cells b3 [.map (some b1)] 66, vec encN_Gfold_unit 46 5 hd1.v zs1, own nest_Gfold_unit zs1]
 refine TO.vecVw (k := 3) rfl (fun hw1 => ?_)
 obtain ⟨r3, hq3, h⟩ := andE h
 refine TO.callK (v := .string r3) (vs := [hd1.v, .func (.func 41) #[] #[.pointer (some ⟨b3, 0, none⟩)]]) rfl dc rfl rfl rfl en_25 (fold_written_Together_1_fn (bmof10 := b1) hw1 hz1 hq3) [3, 4, 2, 0] kr rfl (TO.assign rfl dc rfl (TO.nil (TX.next (TC.ret ?_))))
 cases h
 exact TX.fin (rs := [.tmp 2]) () (.inl rfl) Try.results19 (.cons (.tmp rfl) .nil) rfl Splits.nil
end Go.Proofs.Ytlamcpgnmeileaa
namespace Go.Proofs.Ytlamcpgnmeileaa
open Go.RowKit Go.Lib
set_option linter.unusedVariables false
set_option linter.unusedSimpArgs false

end Go.Proofs.Ytlamcpgnmeileaa
namespace Go.Proofs.Ytlamcpgnmeileaa
open Go.RowKit Go.Lib
set_option linter.unusedVariables false
set_option linter.unusedSimpArgs false
theorem wr_Together_1 (M : List (Gfold_pair × Int)) (of : Gfold_unit → ByteArray) (l : List Gfold_unit) (hl : l.length ≤ 1048576) (h : ∀ u ∈ l, u.base < 0 ∧ U8 u.broken ∨ 0 ≤ u.base ∧ fold_Together_1_v u M = some (of u) ∧ (of u).size ≤ 1048576) : fold_written_Together_1_v l M = some (J (wr of) l) := by
  unfold fold_written_Together_1_v
  refine joinI ((loop1 (xs := l) (f := fun b u => b ++ wr of u) (J := some) (fun k b => b.size ≤ k * 1048576) ?_ ?_ ?_ (big_fuel (by omega)) (by decide)).trans rfl)
  · intro ag k u b hu hb
    have hk := lp_lt' hu
    unfold fold_written_Together_1_s1
    refine condTI (lp_lt hu) (joinI (thenI (lp_get hu) ?_))
    rcases h u (List.mem_of_getElem? hu) with ⟨h1, h2⟩ | ⟨h1, h2, h3⟩
    · exact condTI (decide_eq_true h1) (grdI (by omega) (grdI (by simpa using h2) (grdI (lp_i64 (by omega)) (by simp only [wr, if_pos h1]))))
    · exact condFI (decide_eq_false (by omega)) (thenI h2 (grdI (by omega) (grdI (lp_i64 (by omega)) (by simp only [wr, if_neg (show ¬ u.base < 0 by omega)]))))
  · intro k u b hu hb
    have hw : (wr of u).size ≤ 1048576 := by
      rcases h u (List.mem_of_getElem? hu) with ⟨h1, h2⟩ | ⟨h1, h2, h3⟩
      · unfold wr; rw [if_pos h1, bytesOf_size]; simp
      · unfold wr; rw [if_neg (by omega)]; exact h3
    rw [ByteArray.size_append]; omega
  · intro ag b _; unfold fold_written_Together_1_s1; exact condFI lp_ge rfl

set_option maxRecDepth 100000 in
theorem tabP_rng : (tabP.all fun p => decide (0 < p.2 ∧ p.2 ≤ 2000) && letter p.2) = true := by decide +kernel
theorem joined_rng {b m j : Int} (h : joined b m = some j) : 0 < j ∧ j ≤ 2000 ∧ letter j = true := by
  have := List.all_eq_true.1 tabP_rng _ (getM_mem h)
  simp only [Bool.and_eq_true, decide_eq_true_eq] at this
  exact ⟨this.1.1, this.1.2, this.2⟩
/-- One mark more: it is joined, or it stays. -/
def tgS (a : Int × List Int × Bool) (m : Int) : Int × List Int × Bool :=
  match joined a.1 m with
  | some j => if a.2.2 then (j, a.2.1, true) else (a.1, a.2.1 ++ [m], false)
  | none => (a.1, a.2.1 ++ [m], false)
def tgU (b : Int) (lo hi : List Int) : ByteArray :=
  Utf8.encode (hi.foldl tgS ((lo.foldl tgS (b, [], true)).1, (lo.foldl tgS (b, [], true)).2.1, true)).1 ++ strOf (hi.foldl tgS ((lo.foldl tgS (b, [], true)).1, (lo.foldl tgS (b, [], true)).2.1, true)).2.1
theorem tgS_len (a : Int × List Int × Bool) (m : Int) : (tgS a m).2.1.length ≤ a.2.1.length + 1 := by
  unfold tgS
  split
  · split <;> simp
  · simp
theorem tgS_lens (ms : List Int) : ∀ a : Int × List Int × Bool, (ms.foldl tgS a).2.1.length ≤ a.2.1.length + ms.length := by
  induction ms with
  | nil => intro a; simp
  | cons m ms ih => intro a; have := ih (tgS a m); have := tgS_len a m; rw [List.foldl_cons, List.length_cons]; omega
section
variable {R X A B C : Type} {xs : List X}
theorem loop3 {F : (A → B → C → Int → Option R) → A → B → C → Int → Option R} {bot : A → B → C → Int → Option R} {f : A × B × C → X → A × B × C} {Jf : A → B → Option R} (Inv : Nat → A × B × C → Prop)
    (hs : ∀ ag k x (a : A × B × C), xs[k]? = some x → Inv k a → F ag a.1 a.2.1 a.2.2 (k : Int) = ag (f a x).1 (f a x).2.1 (f a x).2.2 ((k : Int) + 1)) (hI : ∀ k x a, xs[k]? = some x → Inv k a → Inv (k + 1) (f a x))
    (he : ∀ ag (a : A × B × C), Inv xs.length a → F ag a.1 a.2.1 a.2.2 (xs.length : Int) = Jf a.1 a.2.1) {n : Nat} (hn : xs.length < n) {a : A × B × C} (h0 : Inv 0 a) : loopG bot F n a.1 a.2.1 a.2.2 0 = Jf (xs.foldl f a).1 (xs.foldl f a).2.1 := by
  have key : ∀ (n k : Nat) (a : A × B × C), k ≤ xs.length → xs.length - k < n → Inv k a → loopG bot F n a.1 a.2.1 a.2.2 (k : Int) = Jf ((xs.drop k).foldl f a).1 ((xs.drop k).foldl f a).2.1 := by
    intro n
    induction n with
    | zero => intro k a _ h; omega
    | succ n ih =>
      intro k a hk hn hi
      rw [loopI]
      by_cases h : k < xs.length
      · have hx : xs[k]? = some xs[k] := List.getElem?_eq_getElem h
        rw [hs _ k _ a hx hi, List.drop_eq_getElem_cons h, List.foldl_cons]
        exact ih (k + 1) _ (by omega) (by omega) (hI k _ a hx hi)
      · have : k = xs.length := by omega
        subst this
        rw [he _ a hi, List.drop_length]; rfl
  have := key n 0 a (Nat.zero_le _) (by omega) h0
  simpa using this
end
def tgJ : Int → List Int → Option ByteArray := fun u9 stayed7 => grd ((Utf8.encode u9).size + (strOf stayed7).size ≤ 9223372036854775807) <| some ((Utf8.encode u9) ++ (strOf stayed7))
def tgJlo (u : Gfold_unit) : Int → List Int → Option ByteArray := fun u3 stayed2 => joinK (fun (j4 : Int → (List Int) → Option ByteArray) => loopG (fun _ _ _ _ => none) (fold_Together_1_s2 u tabP j4) fuel u3 stayed2 true 0) tgJ
theorem tg_v (u : Gfold_unit) (hu : I32 u.base) (h1 : u.low.length ≤ 200000) (h2 : u.high.length ≤ 200000) : fold_Together_1_v u tabP = some (if letter u.base then tgU u.base u.low u.high else Utf8.encode u.base) := by
  unfold fold_Together_1_v
  refine thenI (letter_v u hu) ?_
  cases hL : letter u.base with
  | false => exact condTI rfl rfl
  | true =>
    refine condFI rfl (joinI (joinI ?_))
    have step : ∀ (xs : List Int) (k : Nat) (x : Int) (a : Int × List Int × Bool) (ag : Int → List Int → Bool → Int → Option ByteArray), xs[k]? = some x → xs.length ≤ 200000 → a.2.1.length ≤ 400000 →
        (andThen (getO xs (k : Int)) fun (q1 : Int) => bcond ((getM (⟨a.1, q1⟩ : Gfold_pair) tabP).isSome) (bcond (a.2.2) ((fun (u8 : Int) (stayed6 : List Int) (free4 : Bool) => grd (I64 ((k : Int) + 1)) <| ag u8 stayed6 free4 ((k : Int) + 1)) ((getM (⟨a.1, q1⟩ : Gfold_pair) tabP).getD 0) a.2.1 a.2.2)
          (grd (a.2.1.length + 1 ≤ 2147483648) <| (fun (u8 : Int) (stayed6 : List Int) (free4 : Bool) => grd (I64 ((k : Int) + 1)) <| ag u8 stayed6 free4 ((k : Int) + 1)) a.1 (a.2.1 ++ [q1]) false))
          (grd (a.2.1.length + 1 ≤ 2147483648) <| (fun (u8 : Int) (stayed6 : List Int) (free4 : Bool) => grd (I64 ((k : Int) + 1)) <| ag u8 stayed6 free4 ((k : Int) + 1)) a.1 (a.2.1 ++ [q1]) false)) = ag (tgS a x).1 (tgS a x).2.1 (tgS a x).2.2 ((k : Int) + 1) := by
      intro xs k x a ag hx hxs ha
      have hk := lp_lt' hx
      refine thenI (lp_get hx) ?_
      unfold tgS joined
      cases getM (⟨a.1, x⟩ : Gfold_pair) tabP with
      | none => exact condFI rfl (grdI (by omega) (grdI (lp_i64 (by omega)) rfl))
      | some j =>
        refine condTI rfl ?_
        cases hf : a.2.2 with
        | true => exact condTI rfl (grdI (lp_i64 (by omega)) rfl)
        | false => exact condFI rfl (grdI (by omega) (grdI (lp_i64 (by omega)) rfl))
    have hb1 := tgS_lens u.low (u.base, [], true)
    have lo := loop3 (xs := u.low) (F := fold_Together_1_s1 u tabP (tgJlo u)) (bot := fun _ _ _ _ => none) (f := tgS) (Jf := tgJlo u) (fun k a => a.2.1.length ≤ k) (fun ag k x a hx hi => by
          have hk := lp_lt' hx
          unfold fold_Together_1_s1
          exact condTI (lp_lt hx) (joinI (step u.low k x a ag hx h1 (by omega)))) (fun k x a _ hi => by have := tgS_len a x; omega) (fun ag a _ => by unfold fold_Together_1_s1; exact condFI lp_ge rfl) (n := fuel) (big_fuel (by omega)) (a := (u.base, [], true)) (Nat.le_refl _)
    refine lo.trans ?_
    show loopG (fun _ _ _ _ => none) (fold_Together_1_s2 u tabP tgJ) fuel _ _ true 0 = _
    simp only [List.length_nil, Nat.zero_add] at hb1
    generalize hA : u.low.foldl tgS (u.base, [], true) = A at hb1 ⊢
    have hb2 := tgS_lens u.high (A.1, A.2.1, true)
    have hi' := loop3 (xs := u.high) (F := fold_Together_1_s2 u tabP tgJ) (bot := fun _ _ _ _ => none) (f := tgS) (Jf := tgJ) (fun k a => a.2.1.length ≤ 200000 + k) (fun ag k x a hx hi => by
          have hk := lp_lt' hx
          unfold fold_Together_1_s2
          exact condTI (lp_lt hx) (joinI (step u.high k x a ag hx h2 (by omega)))) (fun k x a _ hi => by have := tgS_len a x; omega) (fun ag a _ => by unfold fold_Together_1_s2; exact condFI lp_ge rfl) (n := fuel) (big_fuel (by omega)) (a := (A.1, A.2.1, true)) (by show A.2.1.length ≤ 200000 + 0; omega)
    refine hi'.trans ?_
    simp only at hb2
    have e1 := enc_size4 (u.high.foldl tgS (A.1, A.2.1, true)).1
    have e2 := strOf_size (u.high.foldl tgS (A.1, A.2.1, true)).2.1
    refine grdI (by omega) ?_
    show some _ = some (tgU _ _ _)
    unfold tgU
    rw [hA]
/-! ### The reference -/
/-- What one mark does to the letter, its text, what has stayed and the two flags. -/
def tgR (a : Int × ByteArray × ByteArray × Bool × Bool) (m : Itm) : Int × ByteArray × ByteArray × Bool × Bool :=
  match joined a.1 m.Rune with
  | some j => if isLo m then (if a.2.2.2.2 then (a.1, a.2.1, a.2.2.1 ++ m.Text, a.2.2.2.1, true) else (j, Utf8.encode j, a.2.2.1, a.2.2.2.1, a.2.2.2.2)) else (if a.2.2.2.1 then (a.1, a.2.1, a.2.2.1 ++ m.Text, true, a.2.2.2.2) else (j, Utf8.encode j, a.2.2.1, a.2.2.2.1, a.2.2.2.2))
  | none => if isLo m then (a.1, a.2.1, a.2.2.1 ++ m.Text, a.2.2.2.1, true) else (a.1, a.2.1, a.2.2.1 ++ m.Text, true, a.2.2.2.2)
theorem tgR_size (a : Int × ByteArray × ByteArray × Bool × Bool) (m : Itm) (hm : m.Text.size ≤ 4) (ha : a.2.1.size ≤ 4) : (tgR a m).2.2.1.size ≤ a.2.2.1.size + 4 ∧ (tgR a m).2.1.size ≤ 4 := by
  unfold tgR
  have := enc_size4
  split
  · split <;> split <;> simp [ByteArray.size_append] <;> (try exact ⟨by omega, ha⟩) <;> (try exact enc_size4 _)
  · split <;> simp [ByteArray.size_append] <;> exact ⟨by omega, ha⟩
theorem tgR_lo : ∀ (P : List Itm) (b : Int) (st : List Int) (g5 g6 : Bool), (∀ m ∈ P, isLo m = true ∧ m.Text = Utf8.encode m.Rune) →
    P.foldl tgR (b, Utf8.encode b, strOf st, g5, g6) = (((P.map (·.Rune)).foldl tgS (b, st, !g6)).1, Utf8.encode ((P.map (·.Rune)).foldl tgS (b, st, !g6)).1, strOf ((P.map (·.Rune)).foldl tgS (b, st, !g6)).2.1, g5, !((P.map (·.Rune)).foldl tgS (b, st, !g6)).2.2)
  | [], b, st, g5, g6, _ => by simp
  | m :: P, b, st, g5, g6, h => by
    obtain ⟨h1, h2⟩ := h m (List.mem_cons_self ..)
    have ih := fun b st g6 => tgR_lo P b st g5 g6 (fun z hz => h z (List.mem_cons_of_mem _ hz))
    have hst : strOf st ++ m.Text = strOf (st ++ [m.Rune]) := by rw [strOf_J, strOf_J, J_append, J_cons, J_nil, ByteArray.append_empty, h2]
    rw [List.foldl_cons, List.map_cons, List.foldl_cons]
    unfold tgR tgS
    simp only [h1, if_true]
    cases joined b m.Rune with
    | none => simp only [hst]; exact ih b (st ++ [m.Rune]) true
    | some j =>
      cases g6 with
      | true => simp only [if_true, hst, Bool.not_true, Bool.false_eq_true, if_false]; exact ih b (st ++ [m.Rune]) true
      | false => simp only [Bool.false_eq_true, if_false, Bool.not_false, if_true]; exact ih j st false
theorem tgR_hi : ∀ (P : List Itm) (b : Int) (st : List Int) (g5 g6 : Bool), (∀ m ∈ P, isLo m = false ∧ m.Text = Utf8.encode m.Rune) →
    P.foldl tgR (b, Utf8.encode b, strOf st, g5, g6) = (((P.map (·.Rune)).foldl tgS (b, st, !g5)).1, Utf8.encode ((P.map (·.Rune)).foldl tgS (b, st, !g5)).1, strOf ((P.map (·.Rune)).foldl tgS (b, st, !g5)).2.1, !((P.map (·.Rune)).foldl tgS (b, st, !g5)).2.2, g6)
  | [], b, st, g5, g6, _ => by simp
  | m :: P, b, st, g5, g6, h => by
    obtain ⟨h1, h2⟩ := h m (List.mem_cons_self ..)
    have ih := fun b st g5 => tgR_hi P b st g5 g6 (fun z hz => h z (List.mem_cons_of_mem _ hz))
    have hst : strOf st ++ m.Text = strOf (st ++ [m.Rune]) := by rw [strOf_J, strOf_J, J_append, J_cons, J_nil, ByteArray.append_empty, h2]
    rw [List.foldl_cons, List.map_cons, List.foldl_cons]
    unfold tgR tgS
    simp only [h1, Bool.false_eq_true, if_false]
    cases joined b m.Rune with
    | none => simp only [hst]; exact ih b (st ++ [m.Rune]) true
    | some j =>
      cases g5 with
      | true => simp only [if_true, hst, Bool.not_true, Bool.false_eq_true, if_false]; exact ih b (st ++ [m.Rune]) true
      | false => simp only [Bool.false_eq_true, if_false, Bool.not_false, if_true]; exact ih j st false
def tgC (c : Itm × List Itm) : ByteArray := if isL c.1 then tgU c.1.Rune ((loI c.2).map (·.Rune)) ((hiI c.2).map (·.Rune)) else c.1.Text
def togS (s : ByteArray) : ByteArray := J tgC (clus s)
theorem tgU_size (b : Int) (lo hi : List Int) (h1 : lo.length ≤ 200000) (h2 : hi.length ≤ 200000) : (tgU b lo hi).size ≤ 4 + 4 * (lo.length + hi.length) := by
  unfold tgU
  rw [ByteArray.size_append]
  have a1 := tgS_lens lo (b, [], true)
  have a2 := tgS_lens hi ((lo.foldl tgS (b, [], true)).1, (lo.foldl tgS (b, [], true)).2.1, true)
  have a3 := strOf_size (hi.foldl tgS ((lo.foldl tgS (b, [], true)).1, (lo.foldl tgS (b, [], true)).2.1, true)).2.1
  have a4 := enc_size4 (hi.foldl tgS ((lo.foldl tgS (b, [], true)).1, (lo.foldl tgS (b, [], true)).2.1, true)).1
  simp only [List.length_nil, Nat.zero_add] at a1
  simp only at a2
  omega
theorem tog_v (s : ByteArray) (hs : s.size ≤ 65536) : fold_Together_v s = some (togS s) := by
  unfold fold_Together_v
  obtain ⟨hl, hc⟩ := clus_ok hs
  refine thenI tables_v (thenI (units_v s hs) (thenI (wr_Together_1 tabP (fun u => if letter u.base then tgU u.base u.low u.high else Utf8.encode u.base) _ (by rw [List.length_map]; omega) ?_) ?_))
  · intro u hu
    obtain ⟨c, hcm, rfl⟩ := List.mem_map.1 hu
    obtain ⟨h1, _, _, h4⟩ := hc c hcm
    rcases toU_cases c h1 with ⟨g1, g2, _⟩ | ⟨g1, g2, g3, g4⟩
    · exact .inl ⟨g1, g2⟩
    · have hh := lohi_le c.2
      have e1 : (toU c).low.length ≤ 196608 := by rw [g4]; simp; omega
      have e2 : (toU c).high.length ≤ 196608 := by rw [g4]; simp; omega
      have e3 : (toU c).low.length + (toU c).high.length ≤ 196608 := by
        rw [g4]; have := lohi_len c.2; rw [List.length_append] at this; simp; omega
      refine .inr ⟨g1, tg_v _ (by rw [toU_base c g2]; exact h1.1) (by omega) (by omega), ?_⟩
      split
      · have := tgU_size (toU c).base (toU c).low (toU c).high (by omega) (by omega); omega
      · have := enc_size4 (toU c).base; omega
  · rw [wr_of _ tgC s hs (fun c hcm h0 => by
      obtain ⟨h1, _⟩ := hc c hcm
      rcases toU_cases c h1 with ⟨_, _, g3, _⟩ | ⟨g1, g2, g3, g4⟩
      · omega
      · unfold tgC isL
        rw [g4]
        show (if letter c.1.Rune then _ else _) = _
        cases letter c.1.Rune with
        | true => rfl
        | false => simp [g3]) (fun c hcm h0 => by unfold tgC; rw [not_letter_neg h0]; rfl)]; rfl
theorem J_snoc {α : Type} (f : α → ByteArray) (x : α) (l : List α) (b : ByteArray) : (b ++ f x) ++ J f l = b ++ J f (x :: l) := by rw [J_cons, ByteArray.append_assoc]
theorem tgR_all (x : Itm) (M : List Itm) (hx : x.Text = Utf8.encode x.Rune) (hM : ∀ m ∈ M, m.Text = Utf8.encode m.Rune) :
    ((loI M ++ hiI M).foldl tgR (x.Rune, x.Text, (⟨#[]⟩ : ByteArray), false, false)).2.1 ++ ((loI M ++ hiI M).foldl tgR (x.Rune, x.Text, (⟨#[]⟩ : ByteArray), false, false)).2.2.1 = tgU x.Rune ((loI M).map (·.Rune)) ((hiI M).map (·.Rune)) := by
  have h1 := tgR_lo (loI M) x.Rune [] false false (fun m hm => by
    unfold loI at hm; rw [List.mem_filter] at hm; exact ⟨hm.2, hM m hm.1⟩)
  rw [← hx, show strOf [] = (⟨#[]⟩ : ByteArray) from rfl] at h1
  rw [List.foldl_append, h1]
  have h2 := tgR_hi (hiI M) (((loI M).map (·.Rune)).foldl tgS (x.Rune, [], !false)).1 (((loI M).map (·.Rune)).foldl tgS (x.Rune, [], !false)).2.1 false (!(((loI M).map (·.Rune)).foldl tgS (x.Rune, [], !false)).2.2) (fun m hm => by
    unfold hiI at hm; rw [List.mem_filter] at hm; exact ⟨by simpa using hm.2, hM m hm.1⟩)
  rw [h2]
  rfl
theorem mark_text {m : Itm} (h : okT m) (hm : isM m = true) : m.Text = Utf8.encode m.Rune := by
  rcases h.2 with ⟨h3, _⟩ | ⟨_, h3⟩
  · have : mrk m.Rune = true := hm
    unfold mrk at this; simp at this; omega
  · exact h3
end Go.Proofs.Ytlamcpgnmeileaa
namespace Go.Proofs.Ytlamcpgnmeileaa
open Go.RowKit Go.Lib
set_option linter.unusedVariables false
set_option linter.unusedSimpArgs false
theorem size_listN (s : ByteArray) : s.data.toList.length = s.size := by rw [Array.length_toList]; rfl
/-! ### Seams -/
theorem within_some (s : ByteArray) (at_ : Nat) (hat : at_ ≤ s.size) (hsz : s.size ≤ 100) : ∃ p ok, runes_within_v s (at_ : Int) = some (p, ok) ∧ (0 ≤ p.At ∧ p.At ≤ 100 ∧ 0 ≤ p.Width ∧ p.Width ≤ 100) ∧
    (ok = false → ∀ m, at_ - 3 ≤ m → m < at_ → ¬ ((decodeL (s.data.toList.drop m)).1 = 65533 ∧ (decodeL (s.data.toList.drop m)).2 = 1) → m + (decodeL (s.data.toList.drop m)).2 ≤ at_) := by
  unfold runes_within_v
  have key : ∀ (n m : Nat), m ≤ at_ → at_ - m < n → ∃ p ok, loopG (fun _ => none) (runes_within_s1 s (at_ : Int) (some ((⟨0, 0, 0, false⟩ : Gapi_Piece), false))) n (m : Int) = some (p, ok) ∧ (0 ≤ p.At ∧ p.At ≤ 100 ∧ 0 ≤ p.Width ∧ p.Width ≤ 100) ∧
      (ok = false → ∀ k, m ≤ k → k < at_ → ¬ ((decodeL (s.data.toList.drop k)).1 = 65533 ∧ (decodeL (s.data.toList.drop k)).2 = 1) → k + (decodeL (s.data.toList.drop k)).2 ≤ at_) := by
    intro n
    induction n with
    | zero => intro m _ h; omega
    | succ n ih =>
      intro m hm hn
      rw [loopI]
      generalize loopG (fun _ => none) (runes_within_s1 s (at_ : Int) (some ((⟨0, 0, 0, false⟩ : Gapi_Piece), false))) n = ag at ih ⊢
      unfold runes_within_s1
      by_cases h : m < at_
      · have hne : s.data.toList.drop m ≠ [] := by
          intro h; have := congrArg List.length h; simp at this; omega
        have hok := decOk _ hne
        have hle := hok.le; have hpos := hok.pos
        have hlen : (s.data.toList.drop m).length = s.size - m := by simp
        have hr := readV s m (by omega) (by omega)
        have e1 : (pcG ⟨m, (decodeL (s.data.toList.drop m)).2, (decodeL (s.data.toList.drop m)).1⟩).Width = ((decodeL (s.data.toList.drop m)).2 : Int) := rfl
        have e2 : (pcG ⟨m, (decodeL (s.data.toList.drop m)).2, (decodeL (s.data.toList.drop m)).1⟩).At = (m : Int) := rfl
        have c0 : decide ((m : Int) < (at_ : Int)) = true := decide_eq_true (by omega)
        have c1 : I64 ((m : Int) + (pcG ⟨m, (decodeL (s.data.toList.drop m)).2, (decodeL (s.data.toList.drop m)).1⟩).Width) := ⟨by rw [e1]; omega, by rw [e1]; omega⟩
        have c2 : at_ < m + (decodeL (s.data.toList.drop m)).2 → decide ((at_ : Int) < (m : Int) + (pcG ⟨m, (decodeL (s.data.toList.drop m)).2, (decodeL (s.data.toList.drop m)).1⟩).Width) = true := fun h => decide_eq_true (by rw [e1]; omega)
        have c3 : ¬ at_ < m + (decodeL (s.data.toList.drop m)).2 → decide ((at_ : Int) < (m : Int) + (pcG ⟨m, (decodeL (s.data.toList.drop m)).2, (decodeL (s.data.toList.drop m)).1⟩).Width) = false := fun h => decide_eq_false (by rw [e1]; omega)
        have c4 : 0 ≤ (pcG ⟨m, (decodeL (s.data.toList.drop m)).2, (decodeL (s.data.toList.drop m)).1⟩).At ∧ (pcG ⟨m, (decodeL (s.data.toList.drop m)).2, (decodeL (s.data.toList.drop m)).1⟩).At ≤ 100 ∧ 0 ≤ (pcG ⟨m, (decodeL (s.data.toList.drop m)).2, (decodeL (s.data.toList.drop m)).1⟩).Width ∧ (pcG ⟨m, (decodeL (s.data.toList.drop m)).2, (decodeL (s.data.toList.drop m)).1⟩).Width ≤ 100 := by rw [e1, e2]; omega
        have c5 : I64 ((m : Int) + 1) := lp_i64 (by omega)
        have c6 : m + 1 ≤ at_ ∧ at_ - (m + 1) < n := by omega
        clear e1 e2
        -- the tail
        have tl : (¬ ((decodeL (s.data.toList.drop m)).1 = 65533 ∧ (decodeL (s.data.toList.drop m)).2 = 1) → m + (decodeL (s.data.toList.drop m)).2 ≤ at_) → ∃ p ok, (grd (I64 ((m : Int) + 1)) <| ag ((m : Int) + 1)) = some (p, ok) ∧ (0 ≤ p.At ∧ p.At ≤ 100 ∧ 0 ≤ p.Width ∧ p.Width ≤ 100) ∧
            (ok = false → ∀ k, m ≤ k → k < at_ → ¬ ((decodeL (s.data.toList.drop k)).1 = 65533 ∧ (decodeL (s.data.toList.drop k)).2 = 1) → k + (decodeL (s.data.toList.drop k)).2 ≤ at_) := by
          intro h0
          obtain ⟨p, ok, g1, g2, g3⟩ := ih (m + 1) c6.1 c6.2
          push_cast at g1
          refine ⟨p, ok, grdI c5 g1, g2, fun ho k hk hk2 hb => ?_⟩
          by_cases hkm : k = m
          · subst hkm; exact h0 hb
          · exact g3 ho k (Nat.lt_of_le_of_ne hk (Ne.symm hkm)) hk2 hb
        by_cases h1 : at_ < m + (decodeL (s.data.toList.drop m)).2
        · by_cases h2 : (decodeL (s.data.toList.drop m)).1 = 65533 ∧ (decodeL (s.data.toList.drop m)).2 = 1
          · obtain ⟨p, ok, g1, g2, g3⟩ := tl (fun h => absurd h2 h)
            have hbr : (pcG ⟨m, (decodeL (s.data.toList.drop m)).2, (decodeL (s.data.toList.drop m)).1⟩).Broken = true := by simp [pcG, Pc.broken, h2]
            exact ⟨p, ok, condTI c0 (joinI (thenI hr (grdI c1 (condTI (c2 h1) (condFI (by rw [hbr]; rfl) g1))))), g2, g3⟩
          · have hbr : (pcG ⟨m, (decodeL (s.data.toList.drop m)).2, (decodeL (s.data.toList.drop m)).1⟩).Broken = false := by simpa [pcG, Pc.broken] using h2
            exact ⟨_, true, condTI c0 (joinI (thenI hr (grdI c1 (condTI (c2 h1) (condTI (by rw [hbr]; rfl) rfl))))), c4, fun h => by cases h⟩
        · obtain ⟨p, ok, g1, g2, g3⟩ := tl (fun _ => Nat.le_of_not_lt h1)
          exact ⟨p, ok, condTI c0 (joinI (thenI hr (grdI c1 (condFI (c3 h1) g1)))), g2, g3⟩
      · have c0 : decide ((m : Int) < (at_ : Int)) = false := decide_eq_false (by omega)
        exact ⟨⟨0, 0, 0, false⟩, false, condFI c0 rfl, by simp, fun _ k hk hk2 => absurd (Nat.lt_of_le_of_lt hk hk2) h⟩
  obtain ⟨p, ok, g1, g2, g3⟩ := key fuel (at_ - 3) (by omega) (by have := big_fuel (n := at_) (by omega); omega)
  refine ⟨p, ok, joinI (grdI ⟨by omega, by omega⟩ ?_), g2, fun ho m hm => g3 ho m hm⟩
  rw [show max ((at_ : Int) - 3) 0 = ((at_ - 3 : Nat) : Int) by omega]; exact g1
/-- A row of tokens falls in two at a place, or one of them goes over it. -/
theorem toks_place : ∀ (ts : List Tok) (A B : List UInt8), flat ts = A ++ B → (∃ ta tb, ts = ta ++ tb ∧ flat ta = A ∧ flat tb = B) ∨ ∃ pre t post, ts = pre ++ t :: post ∧ (flat pre).length < A.length ∧ A.length < (flat pre).length + t.bs.length
  | [], A, B, h => .inl ⟨[], [], rfl, by
      have : A ++ B = [] := h.symm
      exact ((List.append_eq_nil_iff.1 this).1).symm, by
      have : A ++ B = [] := h.symm
      exact ((List.append_eq_nil_iff.1 this).2).symm⟩
  | t :: ts, A, B, h => by
    rw [flat_cons] at h
    by_cases h0 : A = []
    · subst h0
      exact .inl ⟨[], t :: ts, rfl, rfl, by rw [flat_cons]; exact h⟩
    · have hA : 0 < A.length := List.length_pos_iff.2 h0
      by_cases h1 : A.length < t.bs.length
      · exact .inr ⟨[], t, ts, rfl, by simpa [flat] using hA, by simpa [flat] using h1⟩
      · have e1 : t.bs = A.take t.bs.length := by
          have := congrArg (List.take t.bs.length) h
          rw [List.take_left, List.take_append_of_le_length (by omega)] at this; exact this
        have e2 : flat ts = A.drop t.bs.length ++ B := by
          have := congrArg (List.drop t.bs.length) h
          rw [List.drop_left, List.drop_append_of_le_length (by omega)] at this; exact this
        rcases toks_place ts (A.drop t.bs.length) B e2 with ⟨ta, tb, g1, g2, g3⟩ | ⟨pre, u, post, g1, g2, g3⟩
        · exact .inl ⟨t :: ta, tb, by rw [g1]; rfl, by rw [flat_cons, g2]; exact (congrArg (fun z => z ++ A.drop t.bs.length) e1).trans (List.take_append_drop _ _), g3⟩
        · refine .inr ⟨t :: pre, u, post, by rw [g1]; rfl, ?_, ?_⟩ <;> rw [flat_cons, List.length_append] <;> rw [List.length_drop] at g2 g3 <;> omega
theorem good_prefix : ∀ (ta tb : List Tok), Good (ta ++ tb) → Good ta
  | [], tb, _ => toks_nil
  | t :: ta, tb, hg => by
    have ih := good_prefix ta tb (good_tail hg)
    have hok := good_ok hg t (by simp)
    unfold Good
    rw [flat_cons]
    rcases hok with hv | hb
    · rw [toks_valid hv, show toks (flat ta) = ta from ih]
    · have hne := bs_ne (.inr hb)
      have hlen : t.bs.length = 1 := by unfold Tok.broken at hb; simp at hb; exact hb.2
      have hr : t.r = 65533 := by unfold Tok.broken at hb; simp at hb; exact hb.1
      have hfull : decodeL (t.bs ++ flat (ta ++ tb)) = (65533, 1) := by
        have h : toks (flat (t :: ta ++ tb)) = t :: (ta ++ tb) := hg
        rw [List.cons_append, flat_cons, toks_cons _ (by simp [hne])] at h
        have h1 := (List.cons.inj h).1
        have h2 := congrArg Tok.r h1
        have h3 := congrArg Tok.bs h1
        simp only at h2 h3
        have h4 := dec_le (t.bs ++ flat (ta ++ tb)) (by simp [hne])
        have h5 := congrArg List.length h3
        rw [List.length_take, Nat.min_eq_left h4, hlen] at h5
        rw [hr] at h2
        exact Prod.ext h2 h5
      have hdec : decodeL (t.bs ++ flat ta) = (65533, 1) := by
        have hn : t.bs ++ flat ta ≠ [] := by simp [hne]
        by_cases hbr : (decodeL (t.bs ++ flat ta)).1 = 65533 ∧ (decodeL (t.bs ++ flat ta)).2 = 1
        · exact Prod.ext hbr.1 hbr.2
        · exfalso
          have hok := decOk _ hn
          have hby := hok.bytes hbr
          have hw := hok.width hbr
          have e : t.bs ++ flat (ta ++ tb) = encodeRune ((decodeL (t.bs ++ flat ta)).1 : Int) ++ ((t.bs ++ flat ta).drop (decodeL (t.bs ++ flat ta)).2 ++ flat tb) := by
            rw [hby, ← List.append_assoc, List.take_append_drop, flat_append, List.append_assoc]
          rw [e, dec_enc _ hok.valid] at hfull
          have h1 := (Prod.mk.inj hfull).1
          have h2 := (Prod.mk.inj hfull).2
          exact hbr ⟨h1, by omega⟩
      rw [toks_cons _ (by simp [hne]), hdec]
      have e1 : (t.bs ++ flat ta).take 1 = t.bs := by rw [← hlen, List.take_left]
      have e2 : (t.bs ++ flat ta).drop 1 = flat ta := by rw [← hlen, List.drop_left]
      rw [e1, e2, show toks (flat ta) = ta from ih]
      congr 1
      cases t; simp at hr; subst hr; rfl
/-! ### Clusters of two texts -/
theorem clF_append (y : Itm) (Y : List Itm) (hy : isM y = false) : ∀ (X : List Itm) (cur : Option (Itm × List Itm)), clF cur (X ++ y :: Y) = clF cur X ++ clF none (y :: Y)
  | [], none => rfl
  | [], some c => by
    show (if isL c.1 && isM y then _ else c :: clF (some (y, [])) Y) = _
    rw [hy, Bool.and_false]; rfl
  | x :: X, none => clF_append y Y hy X (some (x, []))
  | x :: X, some c => by
    show (if isL c.1 && isM x then clF (some (c.1, c.2 ++ [x])) (X ++ y :: Y) else c :: clF (some (x, [])) (X ++ y :: Y)) = (if isL c.1 && isM x then clF (some (c.1, c.2 ++ [x])) X else c :: clF (some (x, [])) X) ++ _
    split
    · exact clF_append y Y hy X _
    · rw [clF_append y Y hy X]; rfl
theorem clT_append (ta tb : List Tok) (h : ∀ t, tb.head? = some t → mrk (tokI t).Rune = false) : clT (ta ++ tb) = clT ta ++ clT tb := by
  unfold clT
  rw [List.map_append]
  have e : ∀ x y : List Itm, apL (x ++ y) = apL x ++ apL y := fun x y => by unfold apL; rw [List.flatMap_append]
  rw [e]
  cases tb with
  | nil => simp [apL, cl, clF]
  | cons t tb =>
    have ht := h t rfl
    obtain ⟨y, ys, hy, hm⟩ : ∃ y ys, apL ((t :: tb).map tokI) = y :: ys ∧ isM y = false := by
      unfold apL
      rw [List.map_cons, List.flatMap_cons]
      unfold apI
      split
      · rename_i hL
        obtain ⟨b, ms, hq, hb, _⟩ := parts_shape (show letter (tokI t).Rune = true from hL)
        rw [hq]
        refine ⟨_, _, rfl, ?_⟩
        cases e : isM (⟨b, Utf8.encode b, (tokI t).At⟩ : Itm) with
        | false => rfl
        | true => have := mrk_not_letter (show mrk b = true from e); rw [hb] at this; cases this
      · exact ⟨_, _, rfl, ht⟩
    rw [hy]
    exact clF_append y ys hm _ none
theorem J_laid (f : Itm × List Itm → ByteArray) (hf : ∀ c, f (stripC c) = f c) (a b : ByteArray) (h : toks (a.data.toList ++ b.data.toList) = toks a.data.toList ++ toks b.data.toList) (hm : ∀ t, (toks b.data.toList).head? = some t → mrk (tokI t).Rune = false) :
    J f (clus (a ++ b)) = J f (clus a) ++ J f (clus b) := by
  have e : ∀ s : ByteArray, J f (clus s) = J f (clT (toks s.data.toList)) := fun s => by
    rw [← clus_strip, J_map]; exact J_congr fun c _ => (hf c).symm
  rw [e, e, e, show (a ++ b).data.toList = a.data.toList ++ b.data.toList by simp, h, clT_append _ _ hm, J_append]
theorem lo_strip (l : List Itm) : loI (l.map strip) = (loI l).map strip ∧ hiI (l.map strip) = (hiI l).map strip := by
  unfold loI hiI
  rw [List.filter_map, List.filter_map]
  exact ⟨rfl, rfl⟩
theorem apartC_strip (c : Itm × List Itm) : apartC (stripC c) = apartC c := by
  unfold apartC ordC stripC
  simp only
  rw [(lo_strip c.2).1, (lo_strip c.2).2, ← List.map_append, J_cons, J_cons, J_map]; rfl
theorem tgC_strip (c : Itm × List Itm) : tgC (stripC c) = tgC c := by
  unfold tgC stripC
  simp only
  rw [isL_strip, (lo_strip c.2).1, (lo_strip c.2).2, List.map_map, List.map_map]; rfl
end Go.Proofs.Ytlamcpgnmeileaa
namespace Go.Proofs.Ytlamcpgnmeileaa
open Go.RowKit Go.Lib
set_option linter.unusedVariables false
set_option linter.unusedSimpArgs false

end Go.Proofs.Ytlamcpgnmeileaa
namespace Go.Proofs.Ytlamcpgnmeileaa
open Go.RowKit Go.Lib
set_option linter.unusedVariables false
set_option linter.unusedSimpArgs false
def okTok (t : Tok) : Prop := t.valid ∨ t.broken = true
def itT (x : Itm) : Tok := ⟨if x.Rune < 0 then 65533 else x.Rune.toNat, x.Text.data.toList⟩
theorem itT_tok {t : Tok} (h : okTok t) : itT (tokI t) = t := by
  unfold itT tokI
  rcases h with h | h
  · rw [valid_not_broken h]
    cases t; simp; intro h; omega
  · rw [h]
    have : t.r = 65533 := by unfold Tok.broken at h; simp at h; exact h.1
    cases t; simp at this; subst this; simp
def LM (t : Tok) : Prop := letter (t.r : Int) = true ∨ mrk (t.r : Int) = true
/-- A group of tokens and its cluster. -/
def grpOk (g : List Tok × (Itm × List Itm)) : Prop :=
  (isL g.2.1 = true ∧ g.1 ≠ [] ∧ (∀ t ∈ g.1, t.valid ∧ LM t) ∧ (∀ m ∈ g.2.2, isM m = true) ∧ getM g.2.1.Rune tabS = none) ∨ (isL g.2.1 = false ∧ g.2.2 = [] ∧ ∃ t, g.1 = [t] ∧ okTok t ∧ g.2.1 = tokI t)
theorem tok_mark {t : Tok} (h : okTok t) (hm : isM (tokI t) = true) : t.valid ∧ mrk (t.r : Int) = true := by
  rcases h with h | h
  · refine ⟨h, ?_⟩
    unfold isM tokI at hm
    rw [valid_not_broken h] at hm; exact hm
  · unfold isM tokI at hm
    rw [h] at hm; exact absurd (show mrk (-1) = true from hm) (by decide)
/-- What a token becomes. -/
theorem apI_tok {t : Tok} (h : okTok t) : ∃ x ms, apI (tokI t) = x :: ms ∧ grpOk ([t], (x, ms)) ∧ (∀ m ∈ ms, isM m = true) ∧ (isL x = false → ms = []) ∧ isM x = isM (tokI t) := by
  cases hL : isL (tokI t) with
  | false =>
    exact ⟨tokI t, [], by unfold apI; rw [hL]; rfl, .inr ⟨hL, rfl, t, rfl, h, rfl⟩, by simp, fun _ => rfl, rfl⟩
  | true =>
    have hL' : letter (tokI t).Rune = true := hL
    obtain ⟨b, ms, hq, hb, hn, hms, _⟩ := parts_shape hL'
    have hv : t.valid := by
      rcases h with h | h
      · exact h
      · unfold tokI at hL'; rw [h] at hL'; exact absurd (show letter (-1) = true from hL') (by decide)
    have hlt : letter (t.r : Int) = true := by unfold tokI at hL'; rw [valid_not_broken hv] at hL'; exact hL'
    have hM1 : isM (tokI t) = false := by
      cases e : isM (tokI t) with
      | false => rfl
      | true => have := mrk_not_letter (show mrk (tokI t).Rune = true from e); rw [hL'] at this; cases this
    have hM2 : isM (⟨b, Utf8.encode b, (tokI t).At⟩ : Itm) = false := by
      cases e : isM (⟨b, Utf8.encode b, (tokI t).At⟩ : Itm) with
      | false => rfl
      | true => have := mrk_not_letter (show mrk b = true from e); rw [hb] at this; cases this
    have hmm : ∀ m ∈ ms.map (fun r => (⟨r, Utf8.encode r, (tokI t).At⟩ : Itm)), isM m = true := fun m hm => by
      obtain ⟨r, hr, rfl⟩ := List.mem_map.1 hm; exact hms r hr
    exact ⟨⟨b, Utf8.encode b, (tokI t).At⟩, ms.map fun r => ⟨r, Utf8.encode r, (tokI t).At⟩, by unfold apI; rw [hL, hq]; rfl, .inl ⟨hb, by simp, fun u hu => by simp at hu; subst hu; exact ⟨hv, .inl hlt⟩, hmm, hn⟩, hmm,
      (fun e => by rw [show isL (⟨b, Utf8.encode b, (tokI t).At⟩ : Itm) = true from hb] at e; cases e), by rw [hM1, hM2]⟩
theorem groupsF : ∀ (ts gs : List Tok) (c : Itm × List Itm), (∀ t ∈ ts, okTok t) → grpOk (gs, c) → ∃ G : List (List Tok × (Itm × List Itm)), gs ++ ts = G.flatMap (·.1) ∧ clF (some c) (apL (ts.map tokI)) = G.map (·.2) ∧ ∀ g ∈ G, grpOk g
  | [], gs, c, _, hc => ⟨[(gs, c)], by simp, by simp [apL, clF], by simpa using hc⟩
  | t :: ts, gs, c, hok, hc => by
    have ht := hok t (List.mem_cons_self ..)
    have hts := fun u hu => hok u (List.mem_cons_of_mem _ hu)
    have hap : apL ((t :: ts).map tokI) = apI (tokI t) ++ apL (ts.map tokI) := by unfold apL; rw [List.map_cons, List.flatMap_cons]
    obtain ⟨x, ms, h1, h2, h3, h4, h5⟩ := apI_tok ht
    rw [hap]
    cases hk : (isL c.1 && isM (tokI t)) with
    | true =>
      rw [Bool.and_eq_true] at hk
      have hL : isL (tokI t) = false := mrk_not_letter (show mrk (tokI t).Rune = true from hk.2)
      have ha : apI (tokI t) = [tokI t] := by unfold apI; rw [hL]; rfl
      obtain ⟨hv, hm⟩ := tok_mark ht hk.2
      have hc' : grpOk (gs ++ [t], (c.1, c.2 ++ [tokI t])) := by
        rcases hc with ⟨g1, g2, g3, g4, g5⟩ | ⟨g1, _⟩
        · refine .inl ⟨g1, by simp, fun u hu => ?_, fun m hm2 => ?_, g5⟩
          · rcases List.mem_append.1 hu with hu | hu
            · exact g3 u hu
            · simp at hu; subst hu; exact ⟨hv, .inr hm⟩
          · rcases List.mem_append.1 hm2 with hm2 | hm2
            · exact g4 m hm2
            · simp at hm2; subst hm2; exact hk.2
        · rw [hk.1] at g1; cases g1
      obtain ⟨G, e1, e2, e3⟩ := groupsF ts (gs ++ [t]) (c.1, c.2 ++ [tokI t]) hts hc'
      refine ⟨G, by rw [← e1]; simp, ?_, e3⟩
      rw [ha, ← e2, List.singleton_append]
      show (if isL c.1 && isM (tokI t) then clF (some (c.1, c.2 ++ [tokI t])) (apL (ts.map tokI)) else _) = _
      rw [hk.1, hk.2]; rfl
    | false =>
      obtain ⟨G, e1, e2, e3⟩ := groupsF ts [t] (x, ms) hts h2
      refine ⟨(gs, c) :: G, by rw [List.flatMap_cons, ← e1]; simp, ?_, fun g hg => ?_⟩
      · rw [h1, List.cons_append, List.map_cons, ← e2]
        show (if isL c.1 && isM x then _ else c :: clF (some (x, [])) (ms ++ apL (ts.map tokI))) = _
        rw [h5, hk]
        have h6 : clF (some (x, [])) (ms ++ apL (ts.map tokI)) = clF (some (x, ms)) (apL (ts.map tokI)) := by
          cases hx : isL x with
          | true => rw [clF_marks x hx _ ms [] h3]; rfl
          | false => rw [h4 hx]; rfl
        rw [← h6]; rfl
      · rcases List.mem_cons.1 hg with rfl | hg
        · exact hc
        · exact e3 g hg
theorem groups (ts : List Tok) (hok : ∀ t ∈ ts, okTok t) : ∃ G : List (List Tok × (Itm × List Itm)), ts = G.flatMap (·.1) ∧ clT ts = G.map (·.2) ∧ ∀ g ∈ G, grpOk g := by
  cases ts with
  | nil => exact ⟨[], rfl, rfl, by simp⟩
  | cons t ts =>
    obtain ⟨x, ms, h1, h2, h3, h4, h5⟩ := apI_tok (hok t (List.mem_cons_self ..))
    obtain ⟨G, e1, e2, e3⟩ := groupsF ts [t] (x, ms) (fun u hu => hok u (List.mem_cons_of_mem _ hu)) h2
    refine ⟨G, by rw [← e1]; rfl, ?_, e3⟩
    unfold clT
    have hap : apL ((t :: ts).map tokI) = apI (tokI t) ++ apL (ts.map tokI) := by unfold apL; rw [List.map_cons, List.flatMap_cons]
    rw [hap, h1, ← e2]
    show clF (some (x, [])) (ms ++ apL (ts.map tokI)) = _
    cases hx : isL x with
    | true => rw [clF_marks x hx _ ms [] h3]; rfl
    | false => rw [h4 hx]; rfl
/-- How a form lays out a cluster. -/
structure OutOk (out : Itm × List Itm → List Tok) : Prop where
  other : ∀ x, isL x = false → out (x, []) = [itT x]
  ne : ∀ c, isL c.1 = true → out c ≠ []
  val : ∀ c, isL c.1 = true → getM c.1.Rune tabS = none → (∀ m ∈ c.2, isM m = true) → ∀ t ∈ out c, t.valid ∧ LM t
theorem out_sub {out : Itm × List Itm → List Tok} (ho : OutOk out) : ∀ (G : List (List Tok × (Itm × List Itm))), (∀ g ∈ G, grpOk g) → Sub (G.flatMap (·.1)) ((G.map (·.2)).flatMap out)
  | [], _ => Sub.nil
  | g :: G, h => by
    have ih := out_sub ho G (fun x hx => h x (List.mem_cons_of_mem _ hx))
    rw [List.flatMap_cons, List.map_cons, List.flatMap_cons]
    rcases h g (List.mem_cons_self ..) with ⟨g1, g2, g3, g4, g5⟩ | ⟨g1, g2, t, g3, g4, g5⟩
    · exact Sub.val g2 (ho.ne _ g1) (fun t ht => (g3 t ht).1) (fun t ht => (ho.val _ g1 g5 g4 t ht).1) ih
    · have e : out g.2 = [t] := by
        rw [show g.2 = (g.2.1, []) from Prod.ext rfl g2, ho.other _ g1, g5, itT_tok g4]
      rw [g3, e]
      rcases g4 with g4 | g4
      · exact Sub.one g4 (by simp) (by simpa using g4) ih
      · exact Sub.brk g4 ih
/-- The tokens of a form. -/
theorem out_toks {out : Itm × List Itm → List Tok} (ho : OutOk out) {s x : ByteArray} (hx : x.data.toList = flat ((clT (toks s.data.toList)).flatMap out)) : toks x.data.toList = (clT (toks s.data.toList)).flatMap out := by
  obtain ⟨G, e1, e2, e3⟩ := groups (toks s.data.toList) (toks_ok _)
  rw [hx, e2]
  have := (out_sub ho G e3).good (by rw [← e1]; exact good_toks _)
  exact this
/-! ### What is kept -/
def sp : ByteArray := ⟨#[32]⟩
def itK (x : Itm) : ByteArray := if x.Rune < 0 then x.Text ++ sp else if letter x.Rune || mrk x.Rune then ByteArray.empty else x.Text ++ sp
def keptS (s : ByteArray) : ByteArray := J (fun t => itK (tokI t)) (toks s.data.toList)
theorem itK_strip (x : Itm) : itK (strip x) = itK x := rfl
theorem keptS_items (s : ByteArray) : J itK (itemsP s) = keptS s := by
  unfold keptS
  rw [← J_map itK tokI, ← items_toks, J_map]; rfl
theorem kept_out {out : Itm × List Itm → List Tok} (ho : OutOk out) {s x : ByteArray} (hx : x.data.toList = flat ((clT (toks s.data.toList)).flatMap out)) : keptS x = keptS s := by
  unfold keptS
  rw [out_toks ho hx]
  obtain ⟨G, e1, e2, e3⟩ := groups (toks s.data.toList) (toks_ok _)
  rw [e2]
  conv => rhs; rw [e1]
  rw [J_flat, J_flat, J_map]
  refine J_congr fun g hg => ?_
  have none_of : ∀ l : List Tok, (∀ t ∈ l, t.valid ∧ LM t) → J (fun t => itK (tokI t)) l = ByteArray.empty := by
    intro l
    induction l with
    | nil => intro _; rfl
    | cons t l ih =>
      intro h
      obtain ⟨hv, hl⟩ := h t (List.mem_cons_self ..)
      rw [J_cons, ih (fun u hu => h u (List.mem_cons_of_mem _ hu)), ByteArray.append_empty]
      unfold itK
      rw [tokI_valid hv]
      show (if ((t.r : Nat) : Int) < 0 then _ else if letter (t.r : Int) || mrk (t.r : Int) then _ else _) = _
      rw [if_neg (by omega)]
      rcases hl with hl | hl <;> rw [hl] <;> simp
  rcases e3 g hg with ⟨g1, g2, g3, g4, g5⟩ | ⟨g1, g2, t, g3, g4, g5⟩
  · rw [none_of _ g3, none_of _ (ho.val _ g1 g5 g4)]
  · rw [show g.2 = (g.2.1, []) from Prod.ext rfl g2, ho.other _ g1, g5, itT_tok g4, g3]
end Go.Proofs.Ytlamcpgnmeileaa
namespace Go.Proofs.Ytlamcpgnmeileaa
open Go.RowKit Go.Lib
set_option linter.unusedVariables false
set_option linter.unusedSimpArgs false
/-- A token as an item, where it stands. -/
def itAt (i : Nat) (t : Tok) : Itm := ⟨if t.broken then -1 else (t.r : Int), ⟨t.bs.toArray⟩, (i : Int)⟩
def itP : Nat → List Tok → List Itm
  | _, [] => []
  | i, t :: ts => itAt i t :: itP (i + t.bs.length) ts
theorem itP_strip : ∀ (ts : List Tok) (i : Nat), (itP i ts).map strip = ts.map tokI
  | [], _ => rfl
  | t :: ts, i => by show strip (itAt i t) :: (itP _ ts).map strip = _; rw [itP_strip ts]; rfl
theorem itP_items (s : ByteArray) : ∀ (ts pre : List Tok), s.data.toList = flat (pre ++ ts) → (place (flat pre).length ts).map (itG s) = itP (flat pre).length ts
  | [], pre, _ => rfl
  | t :: ts, pre, h => by
    have e : (flat pre).length + t.bs.length = (flat (pre ++ [t])).length := by rw [flat_append, List.length_append]; simp [flat]
    show itG s ⟨(flat pre).length, t.bs.length, t.r⟩ :: (place ((flat pre).length + t.bs.length) ts).map (itG s) = itAt (flat pre).length t :: itP ((flat pre).length + t.bs.length) ts
    rw [e, itP_items s ts (pre ++ [t]) (by rw [h]; simp)]
    congr 1
    unfold itG itAt
    have hb : (⟨(flat pre).length, t.bs.length, t.r⟩ : Pc).broken = t.broken := rfl
    rw [hb]
    have ht : s.extract (flat pre).length ((flat pre).length + t.bs.length) = ⟨t.bs.toArray⟩ := by
      apply ByteArray.ext; apply Array.toList_inj.1
      rw [Lib.extract_data, h, flat_append, flat_cons]
      simp
    simp only [ht]
def clP (i : Nat) (ts : List Tok) : List (Itm × List Itm) := cl (apL (itP i ts))
theorem clus_clP (s : ByteArray) : clus s = clP 0 (toks s.data.toList) := by
  unfold clus clP itemsP pcs
  rw [pcs_place]
  have := itP_items s (toks s.data.toList) [] (by rw [List.nil_append, flat_toks])
  rw [show (flat []).length = 0 from rfl] at this
  rw [this]
theorem clP_strip (i : Nat) (ts : List Tok) : (clP i ts).map stripC = clT ts := by
  unfold clP clT
  rw [← itP_strip ts i, apL_strip, cl_strip]
theorem apI_item (x : Itm) : ∃ y ms, apI x = y :: ms ∧ (∀ m ∈ ms, isM m = true) ∧ (isL y = false → ms = []) ∧ isM y = isM x ∧ y.At = x.At ∧ isL y = isL x := by
  cases hL : isL x with
  | false => exact ⟨x, [], by unfold apI; rw [hL]; rfl, by simp, fun _ => rfl, rfl, rfl, hL⟩
  | true =>
    obtain ⟨b, ms, hq, hb, hn, hms, _⟩ := parts_shape (show letter x.Rune = true from hL)
    have hM1 : isM x = false := by
      cases e : isM x with
      | false => rfl
      | true => have := mrk_not_letter (show mrk x.Rune = true from e); rw [show letter x.Rune = true from hL] at this; cases this
    have hM2 : isM (⟨b, Utf8.encode b, x.At⟩ : Itm) = false := by
      cases e : isM (⟨b, Utf8.encode b, x.At⟩ : Itm) with
      | false => rfl
      | true => have := mrk_not_letter (show mrk b = true from e); rw [hb] at this; cases this
    refine ⟨⟨b, Utf8.encode b, x.At⟩, ms.map fun r => ⟨r, Utf8.encode r, x.At⟩, by unfold apI; rw [hL, hq]; rfl, fun m hm => ?_, (fun e => by rw [show isL (⟨b, Utf8.encode b, x.At⟩ : Itm) = true from hb] at e; cases e), by rw [hM1, hM2], rfl, hb⟩
    obtain ⟨r, hr, rfl⟩ := List.mem_map.1 hm; exact hms r hr
theorem clF_own (y : Itm) (ms xs : List Itm) (h3 : ∀ m ∈ ms, isM m = true) (h4 : isL y = false → ms = []) : clF (some (y, [])) (ms ++ xs) = clF (some (y, ms)) xs := by
  cases hx : isL y with
  | true => rw [clF_marks y hx _ ms [] h3]; rfl
  | false => rw [h4 hx]; rfl
theorem clF_first : ∀ (xs : List Itm) (d : Itm × List Itm), ∃ ms cs, clF (some d) xs = (d.1, ms) :: cs
  | [], d => ⟨d.2, [], rfl⟩
  | x :: xs, d => by
    show ∃ ms cs, (if isL d.1 && isM x then clF (some (d.1, d.2 ++ [x])) xs else d :: clF (some (x, [])) xs) = _
    split
    · exact clF_first xs (d.1, d.2 ++ [x])
    · exact ⟨d.2, _, rfl⟩
theorem itP_apL (i : Nat) (t : Tok) (ts : List Tok) : apL (itP i (t :: ts)) = apI (itAt i t) ++ apL (itP (i + t.bs.length) ts) := by
  show apL (itAt i t :: itP (i + t.bs.length) ts) = _
  unfold apL; rw [List.flatMap_cons]
theorem clP_splitF : ∀ (ts : List Tok) (i : Nat) (d : Itm × List Itm) (C1 : List (Itm × List Itm)) (c : Itm × List Itm) (C2 : List (Itm × List Itm)), C1 ≠ [] → clF (some d) (apL (itP i ts)) = C1 ++ c :: C2 →
    ∃ ta tb, ts = ta ++ tb ∧ tb ≠ [] ∧ clF (some d) (apL (itP i ta)) = C1 ∧ clP (i + (flat ta).length) tb = c :: C2 ∧ c.1.At = ((i + (flat ta).length : Nat) : Int)
  | [], i, d, C1, c, C2, hne, h => by
    have h' : [d] = C1 ++ c :: C2 := h
    cases C1 with
    | nil => exact absurd rfl hne
    | cons a A => have := congrArg List.length h'; simp at this
  | t :: ts, i, d, C1, c, C2, hne, h => by
    obtain ⟨y, ms, h1, h3, h4, h5, h6, _⟩ := apI_item (itAt i t)
    have hap := itP_apL i t ts
    have hfl : ∀ ta : List Tok, i + t.bs.length + (flat ta).length = i + (flat (t :: ta)).length := fun ta => by rw [flat_cons, List.length_append]; omega
    cases hk : (isL d.1 && isM y) with
    | true =>
      have hk' := hk
      rw [Bool.and_eq_true] at hk'
      have hms : ms = [] := h4 (mrk_not_letter (show mrk y.Rune = true from hk'.2))
      have e : ∀ zs, clF (some d) (apI (itAt i t) ++ zs) = clF (some (d.1, d.2 ++ [y])) zs := fun zs => by
        rw [h1, hms]
        show (if isL d.1 && isM y then clF (some (d.1, d.2 ++ [y])) zs else _) = _
        rw [hk]; rfl
      rw [hap, e] at h
      obtain ⟨ta, tb, g1, g2, g3, g4, g5⟩ := clP_splitF ts (i + t.bs.length) (d.1, d.2 ++ [y]) C1 c C2 hne h
      exact ⟨t :: ta, tb, by rw [g1]; rfl, g2, by rw [itP_apL, e]; exact g3, by rw [← hfl]; exact g4, by rw [← hfl]; exact g5⟩
    | false =>
      have e : ∀ zs, clF (some d) (apI (itAt i t) ++ zs) = d :: clF (some (y, ms)) zs := fun zs => by
        rw [h1]
        show (if isL d.1 && isM y then _ else d :: clF (some (y, [])) (ms ++ zs)) = _
        rw [hk, clF_own y ms zs h3 h4]; rfl
      have e0 : ∀ zs, cl (apI (itAt i t) ++ zs) = clF (some (y, ms)) zs := fun zs => by
        rw [h1]
        show clF (some (y, [])) (ms ++ zs) = _
        exact clF_own y ms zs h3 h4
      rw [hap, e] at h
      cases C1 with
      | nil => exact absurd rfl hne
      | cons a A =>
        rw [List.cons_append] at h
        obtain ⟨q1, q2⟩ := List.cons.inj h
        subst q1
        cases A with
        | nil =>
          obtain ⟨ks, cs, hf⟩ := clF_first (apL (itP (i + t.bs.length) ts)) (y, ms)
          have q3 : clF (some (y, ms)) (apL (itP (i + t.bs.length) ts)) = c :: C2 := q2
          refine ⟨[], t :: ts, rfl, by simp, rfl, ?_, ?_⟩
          · show cl (apL (itP (i + 0) (t :: ts))) = _
            rw [Nat.add_zero, hap, e0]; exact q3
          · rw [hf] at q3
            rw [← (List.cons.inj q3).1]
            show y.At = _
            rw [h6]; rfl
        | cons a' A =>
          obtain ⟨ta, tb, g1, g2, g3, g4, g5⟩ := clP_splitF ts (i + t.bs.length) (y, ms) (a' :: A) c C2 (by simp) q2
          exact ⟨t :: ta, tb, by rw [g1]; rfl, g2, by rw [itP_apL, e, g3], by rw [← hfl]; exact g4, by rw [← hfl]; exact g5⟩
theorem clP_split (ts : List Tok) (i : Nat) (C1 : List (Itm × List Itm)) (c : Itm × List Itm) (C2 : List (Itm × List Itm)) (h : clP i ts = C1 ++ c :: C2) :
    ∃ ta tb, ts = ta ++ tb ∧ tb ≠ [] ∧ clP i ta = C1 ∧ clP (i + (flat ta).length) tb = c :: C2 ∧ c.1.At = ((i + (flat ta).length : Nat) : Int) := by
  cases ts with
  | nil =>
    have : ([] : List (Itm × List Itm)) = C1 ++ c :: C2 := h
    have := congrArg List.length this; simp at this
  | cons t ts =>
    obtain ⟨y, ms, h1, h3, h4, h5, h6, _⟩ := apI_item (itAt i t)
    have hap := itP_apL i t
    have e0 : ∀ zs, cl (apI (itAt i t) ++ zs) = clF (some (y, ms)) zs := fun zs => by
      rw [h1]
      show clF (some (y, [])) (ms ++ zs) = _
      exact clF_own y ms zs h3 h4
    have hfl : ∀ ta : List Tok, i + t.bs.length + (flat ta).length = i + (flat (t :: ta)).length := fun ta => by rw [flat_cons, List.length_append]; omega
    cases C1 with
    | nil =>
      refine ⟨[], t :: ts, rfl, by simp, rfl, h, ?_⟩
      unfold clP at h
      rw [hap, e0] at h
      obtain ⟨ks, cs, hf⟩ := clF_first (apL (itP (i + t.bs.length) ts)) (y, ms)
      rw [hf] at h
      have := (List.cons.inj h).1
      rw [← this]
      show y.At = _
      rw [h6]; rfl
    | cons a A =>
      unfold clP at h
      rw [hap, e0] at h
      obtain ⟨ta, tb, g1, g2, g3, g4, g5⟩ := clP_splitF ts (i + t.bs.length) (y, ms) (a :: A) c C2 (by simp) h
      exact ⟨t :: ta, tb, by rw [g1]; rfl, g2, by unfold clP; rw [hap, e0]; exact g3, by rw [← hfl]; exact g4, by rw [← hfl]; exact g5⟩
/-- Where what is left begins. -/
def endAt (C : List (Itm × List Itm)) (z : Int) : Int := match C with | [] => z | c :: _ => c.1.At
theorem clP_cut (ts : List Tok) (i : Nat) (C1 C2 : List (Itm × List Itm)) (h : clP i ts = C1 ++ C2) :
    ∃ ta tb, ts = ta ++ tb ∧ clP i ta = C1 ∧ clP (i + (flat ta).length) tb = C2 ∧ endAt C2 ((i + (flat ts).length : Nat) : Int) = ((i + (flat ta).length : Nat) : Int) := by
  cases C2 with
  | nil => exact ⟨ts, [], by simp, by simpa using h, rfl, rfl⟩
  | cons c C2 =>
    obtain ⟨ta, tb, g1, g2, g3, g4, g5⟩ := clP_split ts i C1 c C2 h
    exact ⟨ta, tb, g1, g3, g4, g5⟩
theorem clP_ne {i : Nat} {ts : List Tok} (h : ts = []) : clP i ts = [] := by subst h; rfl
/-- A part of a text. -/
theorem part_v (s : ByteArray) (C1 C2 C3 : List (Itm × List Itm)) (h : clus s = C1 ++ (C2 ++ C3)) (hs : s.size ≤ 65536) :
    ∃ a b : Nat, endAt (C2 ++ C3) (s.size : Int) = (a : Int) ∧ endAt C3 (s.size : Int) = (b : Int) ∧ a ≤ b ∧ b ≤ s.size ∧ (C2 ≠ [] → a < b) ∧ foldS (cutB s (a : Int) (b : Int)) = J foldC C2 ∧ (cutB s (a : Int) (b : Int)).size = b - a ∧
      runes_Boundary_v s (a : Int) = some true ∧ runes_Boundary_v s (b : Int) = some true := by
  have hfl := flat_toks s.data.toList
  have hgood := good_toks s.data.toList
  have hok := toks_ok s.data.toList
  have hlen : s.data.toList.length = s.size := size_listN s
  rw [clus_clP] at h
  generalize toks s.data.toList = ts at h hfl hgood hok
  obtain ⟨ta, tb, g1, g2, g3, g4⟩ := clP_cut ts 0 C1 (C2 ++ C3) h
  obtain ⟨tm, tc, k1, k2, k3, k4⟩ := clP_cut tb _ C2 C3 g3
  subst k1; subst g1
  have hsz : (flat (ta ++ (tm ++ tc))).length = s.size := by rw [hfl, hlen]
  have hsz2 : (flat ta).length + ((flat tm).length + (flat tc).length) = s.size := by rw [← hsz, flat_append, flat_append]; simp
  have e4 : endAt (C2 ++ C3) (s.size : Int) = (((flat ta).length : Nat) : Int) := by
    rw [Nat.zero_add, Nat.zero_add, hsz] at g4; exact g4
  have e3 : endAt C3 (s.size : Int) = (((flat (ta ++ tm)).length : Nat) : Int) := by
    have : 0 + (flat ta).length + (flat (tm ++ tc)).length = s.size := by rw [flat_append, List.length_append]; omega
    rw [this] at k4
    rw [k4, flat_append, List.length_append]; simp
  have hm : (flat (ta ++ tm)).length = (flat ta).length + (flat tm).length := by rw [flat_append, List.length_append]
  have hb : (cutB s (((flat ta).length : Nat) : Int) (((flat (ta ++ tm)).length : Nat) : Int)).data.toList = flat tm := by
    rw [hm, show (((flat ta).length + (flat tm).length : Nat) : Int) = (((flat ta).length : Nat) : Int) + ((flat tm).length : Nat) by omega, cutB_list, ← hfl, flat_append, List.drop_left, flat_append, List.take_left]
  have hgm : Good tm := good_prefix tm tc (good_drop hgood)
  refine ⟨(flat ta).length, (flat (ta ++ tm)).length, e4, e3, by omega, by omega, ?_, ?_, ?_, ?_, ?_⟩
  · intro hne
    have : tm ≠ [] := fun e => hne (by rw [← k2]; exact clP_ne e)
    obtain ⟨t, tm', e⟩ := List.exists_cons_of_ne_nil this
    have hbs := bs_ne (hok t (by rw [e]; simp))
    have := List.length_pos_iff.2 hbs
    rw [hm, e, flat_cons, List.length_append]; omega
  · rw [foldS_toks, hb, hgm]
    unfold FT
    rw [← clP_strip (0 + (flat ta).length) tm, k2, J_map]
    exact J_congr fun c _ => foldC_strip c
  · rw [← size_listN, hb]; omega
  · exact boundaryV s ta (tm ++ tc) hfl.symm hgood (by omega)
  · exact boundaryV s (ta ++ tm) tc (by rw [← hfl, List.append_assoc]) (by rw [List.append_assoc]; exact hgood) (by omega)
end Go.Proofs.Ytlamcpgnmeileaa
namespace Go.Proofs.Ytlamcpgnmeileaa
open Go.RowKit Go.Lib
set_option linter.unusedVariables false
set_option linter.unusedSimpArgs false
abbrev Clu := Itm × List Itm
def hitF (want : ByteArray) : ByteArray → List Clu → Option (List Clu)
  | _, [] => none
  | acc, c :: cs => if acc ++ foldC c = want then some cs else hitF want (acc ++ foldC c) cs
def findF (want : ByteArray) (f z : Int) : List Clu → Option (Int × Int)
  | [] => none
  | c :: cs => if c.1.At < f then findF want f z cs else match hitF want ByteArray.empty (c :: cs) with
    | some r => some (c.1.At, endAt r z)
    | none => findF want f z cs
theorem hitF_some {want : ByteArray} : ∀ {l : List Clu} {acc : ByteArray} {r : List Clu}, hitF want acc l = some r → ∃ C2, C2 ≠ [] ∧ l = C2 ++ r ∧ acc ++ J foldC C2 = want
  | [], acc, r, h => by cases h
  | c :: cs, acc, r, h => by
    unfold hitF at h
    by_cases e : acc ++ foldC c = want
    · rw [if_pos e] at h
      cases h
      exact ⟨[c], by simp, rfl, by rw [J_cons, J_nil, ByteArray.append_empty]; exact e⟩
    · rw [if_neg e] at h
      obtain ⟨C2, h1, h2, h3⟩ := hitF_some h
      exact ⟨c :: C2, by simp, by rw [h2]; rfl, by rw [J_cons, ← ByteArray.append_assoc]; exact h3⟩
theorem hitF_none {want : ByteArray} : ∀ {l : List Clu} {acc : ByteArray}, hitF want acc l = none → ∀ C2 r, C2 ≠ [] → l = C2 ++ r → acc ++ J foldC C2 ≠ want
  | [], acc, h, C2, r, hne, hl => by
    cases C2 with
    | nil => exact absurd rfl hne
    | cons a A => cases hl
  | c :: cs, acc, h, C2, r, hne, hl => by
    unfold hitF at h
    by_cases e : acc ++ foldC c = want
    · rw [if_pos e] at h; cases h
    · rw [if_neg e] at h
      cases C2 with
      | nil => exact absurd rfl hne
      | cons a A =>
        obtain ⟨q1, q2⟩ := List.cons.inj hl
        subst q1
        rw [J_cons]
        cases A with
        | nil => rw [J_nil, ByteArray.append_empty]; exact e
        | cons a' A => rw [← ByteArray.append_assoc]; exact hitF_none h (a' :: A) r (by simp) q2
/-- No hit where what stands is no prefix. -/
theorem hitF_off {want : ByteArray} {l : List Clu} {acc : ByteArray} (h : ∀ b, acc ++ b ≠ want) : hitF want acc l = none := by
  cases e : hitF want acc l with
  | none => rfl
  | some r => obtain ⟨C2, _, _, h3⟩ := hitF_some e; exact absurd h3 (h _)
theorem findF_some {want : ByteArray} {f z a b : Int} : ∀ {l : List Clu}, findF want f z l = some (a, b) → ∃ C1 C2 C3, l = C1 ++ (C2 ++ C3) ∧ C2 ≠ [] ∧ J foldC C2 = want ∧ a = endAt (C2 ++ C3) z ∧ b = endAt C3 z ∧ f ≤ a
  | [], h => by cases h
  | c :: cs, h => by
    unfold findF at h
    by_cases e : c.1.At < f
    · rw [if_pos e] at h
      obtain ⟨C1, C2, C3, h1, h2⟩ := findF_some h
      exact ⟨c :: C1, C2, C3, by rw [h1]; rfl, h2⟩
    · rw [if_neg e] at h
      cases hh : hitF want ByteArray.empty (c :: cs) with
      | none =>
        rw [hh] at h
        obtain ⟨C1, C2, C3, h1, h2⟩ := findF_some h
        exact ⟨c :: C1, C2, C3, by rw [h1]; rfl, h2⟩
      | some r =>
        rw [hh] at h
        obtain ⟨C2, h1, h2, h3⟩ := hitF_some hh
        have h' := Prod.mk.inj (Option.some.inj h)
        refine ⟨[], C2, r, h2, h1, by rw [ByteArray.empty_append] at h3; exact h3, ?_, h'.2.symm, by rw [← h'.1]; omega⟩
        rw [← h2]; exact h'.1.symm
theorem findF_again {want : ByteArray} {f z a b : Int} : ∀ {l : List Clu}, findF want f z l = some (a, b) → findF want a z l = some (a, b)
  | [], h => by cases h
  | c :: cs, h => by
    have hfa : f ≤ a := by obtain ⟨_, _, _, _, _, _, _, _, h⟩ := findF_some h; exact h
    unfold findF at h ⊢
    by_cases e : c.1.At < f
    · rw [if_pos e] at h
      rw [if_pos (by omega)]
      exact findF_again h
    · rw [if_neg e] at h
      cases hh : hitF want ByteArray.empty (c :: cs) with
      | none =>
        rw [hh] at h
        have ih := findF_again h
        split
        · exact ih
        · exact ih
      | some r =>
        rw [hh] at h
        have h' := Prod.mk.inj (Option.some.inj h)
        rw [if_neg (by rw [h'.1]; omega)]
        exact h
theorem findF_none {want : ByteArray} {f g z : Int} : ∀ {l : List Clu}, findF want f z l = none → ∀ a b, findF want g z l = some (a, b) → a < f
  | [], _, a, b, h => by cases h
  | c :: cs, hn, a, b, h => by
    unfold findF at hn h
    by_cases e : c.1.At < f
    · rw [if_pos e] at hn
      by_cases e2 : c.1.At < g
      · rw [if_pos e2] at h
        exact findF_none hn a b h
      · rw [if_neg e2] at h
        cases hh : hitF want ByteArray.empty (c :: cs) with
        | none => rw [hh] at h; exact findF_none hn a b h
        | some r =>
          rw [hh] at h
          have h' := Prod.mk.inj (Option.some.inj h)
          rw [← h'.1]; exact e
    · rw [if_neg e] at hn
      cases hh : hitF want ByteArray.empty (c :: cs) with
      | some r => rw [hh] at hn; cases hn
      | none =>
        rw [hh] at hn h
        have h2 : findF want g z cs = some (a, b) := by
          by_cases e2 : c.1.At < g
          · rw [if_pos e2] at h; exact h
          · rw [if_neg e2] at h; exact h
        exact findF_none hn a b h2
/-- All of the text. -/
theorem findF_all {want : ByteArray} {z : Int} {l : List Clu} (h0 : ∀ c ∈ l, 0 ≤ c.1.At) (hne : l ≠ []) (hn : findF want 0 z l = none) : J foldC l ≠ want := by
  obtain ⟨c, cs, rfl⟩ := List.exists_cons_of_ne_nil hne
  unfold findF at hn
  rw [if_neg (by have := h0 c (List.mem_cons_self ..); omega)] at hn
  cases hh : hitF want ByteArray.empty (c :: cs) with
  | some r => rw [hh] at hn; cases hn
  | none =>
    have := hitF_none hh (c :: cs) [] (by simp) (by simp)
    rwa [ByteArray.empty_append] at this
def findS (s t : ByteArray) (f : Int) : Gapi_Span × Bool :=
  if f < 0 ∨ (s.size : Int) < f ∨ foldS t = ByteArray.empty then (⟨0, 0⟩, false)
  else match findF (foldS t) f (s.size : Int) (clus s) with
    | some (a, b) => (⟨a, b⟩, true)
    | none => (⟨0, 0⟩, false)
end Go.Proofs.Ytlamcpgnmeileaa
namespace Go.Proofs.Ytlamcpgnmeileaa
open Go.RowKit Go.Lib
set_option linter.unusedVariables false
set_option linter.unusedSimpArgs false
def fold_Find_s2 (s1 : ByteArray) (r2 : (List Gfold_unit)) (x3 : Int) (j2 : Option (Gapi_Span × Bool)) (x4 : Gfold_unit) (ag2 : ByteArray → Int → Option (Gapi_Span × Bool)) (rest3 : ByteArray) (x7 : Int) : Option (Gapi_Span × Bool) := bcond (decide ((x7 : Int) < ((cutL r2 x3 (r2.length : Int)).length : Int))) ( andThen (getO (cutL r2 x3 (r2.length : Int)) x7) fun (x8 : Gfold_unit) => andThen (fold_written_plain_v ([x8])) fun (r3 : ByteArray) => bcond (decide (((rest3.size : Int) : Int) < (r3.size : Int))) ( j2
) ( grd (0 ≤ (0 : Int) ∧ (0 : Int) ≤ (r3.size : Int) ∧ ((r3.size : Int) : Int) ≤ (rest3.size : Int)) <| bcond (!decide (cutB rest3 0 (r3.size : Int) = r3)) ( j2
) ( grd (0 ≤ ((r3.size : Int) : Int) ∧ ((r3.size : Int) : Int) ≤ (rest3.size : Int) ∧ ((rest3.size : Int) : Int) ≤ (rest3.size : Int)) <| bcond (decide (cutB rest3 (r3.size : Int) (rest3.size : Int) = (⟨#[]⟩ : ByteArray))) ( joinK (fun (j3 : Int → Option (Gapi_Span × Bool)) => grd (I64 (x3 + x7)) <| grd (I64 ((x3 + x7) + 1)) <| bcond (decide ((((x3 + x7) + 1) : Int) < (r2.length : Int))) ( grd (I64 (x3 + x7)) <| grd (I64 ((x3 + x7) + 1)) <| andThen (getO r2 ((x3 + x7) + 1)) fun (x9 : Gfold_unit) => j3 x9.at_
) ( j3 (s1.size : Int)
)
) (fun (end1 : Int) => some ((⟨x4.at_, end1⟩ : Gapi_Span), true)
)
) ( grd (I64 (x7 + 1)) <| ag2 (cutB rest3 (r3.size : Int) (rest3.size : Int)) (x7 + 1)
)
)
)
) ( j2
)
def fold_Find_s1 (s1 : ByteArray) (from1 : Int) (r1 : ByteArray) (j1 : Option (Gapi_Span × Bool)) (r2 : (List Gfold_unit)) (ag1 : Int → Option (Gapi_Span × Bool)) (x3 : Int) : Option (Gapi_Span × Bool) := bcond (decide ((x3 : Int) < (r2.length : Int))) ( joinK (fun (j2 : Option (Gapi_Span × Bool)) => andThen (getO r2 x3) fun (x4 : Gfold_unit) => bcond (decide ((x4.at_ : Int) < from1)) ( j2
) ( grd (0 ≤ (x3 : Int) ∧ (x3 : Int) ≤ (r2.length : Int) ∧ ((r2.length : Int) : Int) ≤ (r2.length : Int)) <| loopG (fun _ _ => none) (fold_Find_s2 s1 r2 x3 j2 x4) fuel r1 0
)
) ( grd (I64 (x3 + 1)) <| ag1 (x3 + 1)
)
) ( j1
)
def fold_Find_v (s1 : ByteArray) (t1 : ByteArray) (from1 : Int) : Option (Gapi_Span × Bool) := andThen (fold_Fold_v t1) fun (r1 : ByteArray) => bcond (decide ((from1 : Int) < 0)) ( some ((⟨0, 0⟩ : Gapi_Span), false)
) ( bcond (decide (((s1.size : Int) : Int) < from1)) ( some ((⟨0, 0⟩ : Gapi_Span), false)
) ( bcond (decide (r1 = (⟨#[]⟩ : ByteArray))) ( some ((⟨0, 0⟩ : Gapi_Span), false)
) ( joinK (fun (j1 : Option (Gapi_Span × Bool)) => andThen (fold_units_v s1) fun (r2 : (List Gfold_unit)) => loopG (fun _ => none) (fold_Find_s1 s1 from1 r1 j1 r2) fuel 0
) ( some ((⟨0, 0⟩ : Gapi_Span), false)
)
)
)
)
set_option maxRecDepth 100000 in
set_option maxHeartbeats 4000000 in
theorem fold_Find_fn {s1 : ByteArray} {t1 : ByteArray} {from1 : Int} {r : (Gapi_Span × Bool)} (h : fold_Find_v s1 t1 from1 = some r) : FnP Try.prog 8 [.string s1, .string t1, .int .i64 from1] (.tuple #[.agg #[.int .i64 r.1.From, .int .i64 r.1.To], .bool r.2]) := by
 unfold fold_Find_v at h
 refine FnP.intro Try.func8 rfl Try.ntmps8 (by simp) ?_
 intro w0 K
 refine TC.seq (TC.region ?_)
 refine TO.alloc zr_26 rfl dc (fun b1 => ?_)
 refine TO.assign rfl dc rfl (TO.nil (TX.next ?_))
 refine TC.scope (β := Unit) (l := 0) (fun _ => False) (fun _ => []) (fun _ => []) rfl ?_ ?_
 ·
  refine TC.seq (TC.region (TO.move rfl dc rfl ?_))
  obtain ⟨r1, hq1, h⟩ := andE h
  refine TO.callP (v := .string r1) (vs := [.string t1]) rfl dc rfl rfl rfl en_10 (fold_Fold_fn hq1) (TO.assign rfl dc rfl (TO.nil (TX.next (TC.seq (TC.seq (TC.region (TO.move rfl dc rfl (TO.bin rfl dc rfl rfl bin_lss (TO.move rfl dc rfl ?_)))))))))
  refine TO.split (s := 21) rfl (fun hb1 => ?_) (fun hb1 => ?_)
  ·
   have h := condT hb1 h
   refine TO.skip rfl dc (TO.skip rfl dc (TO.skip rfl dc (TO.skip rfl dc (TO.pick (b := true) rfl dc rfl rfl (TO.move rfl dc rfl (TO.skip rfl dc (TO.skip rfl dc (TO.pick (b := true) rfl dc rfl rfl (TO.nil (TX.next (TC.condT rfl (TC.seq (TC.region ?_)))))))))))))
   refine TO.build (v := .agg #[.int .i64 0, .int .i64 0]) (ps := []) rfl dc rfl (fun _ => by kernel_rfl) ?_
   refine TO.stores (k := 0) (vs := [.int .i64 0, .int .i64 0]) (l' := [.int .i64 0, .int .i64 0]) sz_26 rfl rfl rfl rfl rfl (show _ ≤ _ by simp) rfl rfl ?_
   show TO _ _ _ _ _ _ _ _ _ _ [cells b1 [.int .i64 0, .int .i64 0] 26]
   refine TO.assign rfl dc rfl (TO.nil (TX.next (TC.ret (TX.thenRet (TX.jumpOn (by simp) ?_)))))
   cases h
   exact TX.fin (rs := [.cell 6 26, .tmp 7]) () (.inl rfl) Try.results8 (.cons (.cells rw_26 (k := 0) rfl rfl rfl) (.cons (.tmp rfl) .nil)) rfl Splits.nil
  ·
   have h := condF hb1 h
   refine TO.move rfl dc rfl (TO.move rfl dc rfl (TO.lenStr rfl dc rfl Try.underlying9 (TO.bin rfl dc rfl rfl bin_gtr (TO.pick (b := false) rfl dc rfl rfl (TO.move rfl dc rfl ?_)))))
   refine TO.split (s := 27) rfl (fun hb2 => ?_) (fun hb2 => ?_)
   ·
    have h := condT hb2 h
    refine TO.skip rfl dc (TO.skip rfl dc (TO.pick (b := true) rfl dc rfl rfl (TO.nil (TX.next (TC.condT rfl (TC.seq (TC.region ?_)))))))
    refine TO.build (v := .agg #[.int .i64 0, .int .i64 0]) (ps := []) rfl dc rfl (fun _ => by kernel_rfl) ?_
    refine TO.stores (k := 0) (vs := [.int .i64 0, .int .i64 0]) (l' := [.int .i64 0, .int .i64 0]) sz_26 rfl rfl rfl rfl rfl (show _ ≤ _ by simp) rfl rfl ?_
    show TO _ _ _ _ _ _ _ _ _ _ [cells b1 [.int .i64 0, .int .i64 0] 26]
    refine TO.assign rfl dc rfl (TO.nil (TX.next (TC.ret (TX.thenRet (TX.jumpOn (by simp) ?_)))))
    cases h
    exact TX.fin (rs := [.cell 6 26, .tmp 7]) () (.inl rfl) Try.results8 (.cons (.cells rw_26 (k := 0) rfl rfl rfl) (.cons (.tmp rfl) .nil)) rfl Splits.nil
   ·
    have h := condF hb2 h
    refine TO.move rfl dc rfl (TO.bin rfl dc rfl rfl bin_seql (TO.pick (b := false) rfl dc rfl rfl (TO.nil (TX.next ?_))))
    refine TC.condB rfl (fun hb3 => ?_) (fun hb3 => ?_)
    ·
     have h := condT hb3 h
     refine TC.seq (TC.region ?_)
     refine TO.build (v := .agg #[.int .i64 0, .int .i64 0]) (ps := []) rfl dc rfl (fun _ => by kernel_rfl) ?_
     refine TO.stores (k := 0) (vs := [.int .i64 0, .int .i64 0]) (l' := [.int .i64 0, .int .i64 0]) sz_26 rfl rfl rfl rfl rfl (show _ ≤ _ by simp) rfl rfl ?_
     show TO _ _ _ _ _ _ _ _ _ _ [cells b1 [.int .i64 0, .int .i64 0] 26]
     refine TO.assign rfl dc rfl (TO.nil (TX.next (TC.ret (TX.thenRet (TX.jumpOn (by simp) ?_)))))
     cases h
     exact TX.fin (rs := [.cell 6 26, .tmp 7]) () (.inl rfl) Try.results8 (.cons (.cells rw_26 (k := 0) rfl rfl rfl) (.cons (.tmp rfl) .nil)) rfl Splits.nil
    ·
     have h := condF hb3 h
     refine TC.skip (TX.next ?_)
     obtain ⟨j1, hj1, h⟩ := joinE h
     refine TC.cutN (β := Unit) 2 rfl (fun b => j1 = some r) (fun b => []) (fun b => [(6, .pointer (some ⟨b1, 0, none⟩))]) (fun b => [cells b1 [.int .i64 0, .int .i64 0] 26]) (fun cut => ?_) ?_
     ·
      refine TC.seq (TC.region (TO.move rfl dc rfl ?_))
      obtain ⟨r2, hq2, h⟩ := andE h
      refine TO.call (vs := [.string s1]) rfl dc rfl rfl rfl en_24 (fold_units_fn hq2) Splits.nil ?_
      rintro v1
      show TO _ _ _ _ _ _ _ _ _ _ [cells b1 [.int .i64 0, .int .i64 0] 26, vecN encN_Gfold_unit nest_Gfold_unit 46 5 v1 r2]
      refine TO.weakenL (L' := [cells b1 [.int .i64 0, .int .i64 0] 26, vecN encN_Gfold_unit nest_Gfold_unit 46 5 v1 r2]) (Splits.of [0, 1] kr rfl) ?_
      refine TO.nameHdN (k := 1) rfl (fun hd1 he1 => ?_)
      subst he1
      refine TO.assign rfl dc rfl (TO.nil (TX.next (TC.seq (TC.label (TX.next (cut (TC.seq (TC.region (TO.move rfl dc rfl (TO.lenVecN (k := 1) rfl dc rfl rfl Try.underlying42 (TO.move rfl dc rfl (TO.nil (TX.next ?_)))))))))))))
      refine TC.block ?_
      refine TC.loopD (β := Nat × Int) (fun b => loopG (fun _ => none) (fold_Find_s1 s1 from1 r1 j1 r2) b.1 b.2 = some r) (fun b => []) (fun b => [(0, .string s1), (2, .int .i64 from1), (6, .pointer (some ⟨b1, 0, none⟩)), (8, .string r1), (9, hd1.v), (34, hd1.v), (35, .int .i64 (r2.length : Int)), (36, .int .i64 b.2)]) (fun b => [cells b1 [.int .i64 0, .int .i64 0] 26, vecN encN_Gfold_unit nest_Gfold_unit 46 5 hd1.v r2]) (fun b => b.1) (fuel, 0) h rfl (Sbs.cons rfl (Sbs.cons rfl (Sbs.cons rfl (Sbs.cons rfl (Sbs.cons rfl (Sbs.cons rfl (Sbs.cons rfl (Sbs.cons rfl (Sbs.nil))))))))) (Splits.of [0, 1] kr rfl) ?_
      rintro ⟨n1, x3⟩ h
      cases n1 with
      | zero => exact noneE h
      | succ n1 =>
       obtain ⟨ag1, hag1⟩ : ∃ ag, ag = loopG (fun _ => none) (fold_Find_s1 s1 from1 r1 j1 r2) n1 := ⟨_, rfl⟩
       have h : fold_Find_s1 s1 from1 r1 j1 r2 ag1 x3 = some r := by rw [hag1]; exact h
       unfold fold_Find_s1 at h
       show TC _ _ _ _ _ ([]) _ _ [(0, .string s1), (2, .int .i64 from1), (6, .pointer (some ⟨b1, 0, none⟩)), (8, .string r1), (9, hd1.v), (34, hd1.v), (35, .int .i64 (r2.length : Int)), (36, .int .i64 x3)] [cells b1 [.int .i64 0, .int .i64 0] 26, vecN encN_Gfold_unit nest_Gfold_unit 46 5 hd1.v r2]
       refine TC.seq (TC.region (TO.bin rfl dc rfl rfl bin_lss (TO.nil (TX.next (TC.seq ?_)))))
       refine TC.condB rfl (fun hb4 => ?_) (fun hb4 => ?_)
       ·
        have h := condT hb4 h
        refine TC.skip (TX.next ?_)
        obtain ⟨j2, hj2, h⟩ := joinE h
        refine TC.cutN (β := Unit) 0 rfl (fun b => j2 = some r) (fun b => []) (fun b => [(0, .string s1), (2, .int .i64 from1), (6, .pointer (some ⟨b1, 0, none⟩)), (8, .string r1), (9, hd1.v), (34, hd1.v), (35, .int .i64 (r2.length : Int)), (36, .int .i64 x3)]) (fun b => [cells b1 [.int .i64 0, .int .i64 0] 26, vecN encN_Gfold_unit nest_Gfold_unit 46 5 hd1.v r2]) (fun cut => ?_) ?_
        ·
         refine cut (TC.block (TC.seq (TC.region (TO.move rfl dc rfl ?_))))
         refine TO.unfold1 (k := 1) rfl openE (fun zs1 hz1 => ?_)
         show TO _ _ _ _ _ _ _ _ _ _ [cells b1 [.int .i64 0, .int .i64 0] 26, vec encN_Gfold_unit 46 5 hd1.v zs1, own nest_Gfold_unit zs1]
         obtain ⟨x4, hq3, h⟩ := andE h
         obtain ⟨⟨eh1, eh2⟩, eq1⟩ := getO_z hz1 hq3
         refine TO.indexVecI (k := 1) eq1 Try.underlying42 sz_46 rfl dc rfl rfl rfl rfl (TO.loadsVec (i := (x3 : Int).toNat) (j := 0) (k := 1) (q := (x4, (eh1, eh2))) (cs := [.int .i64 x4.at_, .int .u8 x4.broken, .int .i32 x4.base, eh1.v, eh2.v]) rw_46 encN_Gfold_unit_len rfl dc rfl rfl (getO_get eq1) rfl rfl rfl ?_)
         refine TO.alloc zr_46 rfl dc (fun b2 => ?_)
         refine TO.assign rfl dc rfl (TO.stores (k := 3) (vs := [.int .i64 x4.at_, .int .u8 x4.broken, .int .i32 x4.base, eh1.v, eh2.v]) (l' := [.int .i64 x4.at_, .int .u8 x4.broken, .int .i32 x4.base, eh1.v, eh2.v]) sz_46 rfl rfl rfl rfl rfl (show _ ≤ _ by simp) rfl rfl ?_)
         show TO _ _ _ _ _ _ _ _ _ _ [cells b1 [.int .i64 0, .int .i64 0] 26, vec encN_Gfold_unit 46 5 hd1.v zs1, own nest_Gfold_unit zs1, cells b2 [.int .i64 x4.at_, .int .u8 x4.broken, .int .i32 x4.base, eh1.v, eh2.v] 46]
         refine TO.nil (TX.next (TC.seq (TC.seq (TC.region (TO.fieldAddr fl_46_0 rfl dc rfl (show _ = 0 from rfl) (TO.load (k := 3) sc_3 rfl dc rfl rfl rfl (TO.move rfl dc rfl (TO.bin rfl dc rfl rfl bin_lss (TO.nil (TX.next ?_))))))))))
         refine TC.condB rfl (fun hb5 => ?_) (fun hb5 => ?_)
         ·
          have h := condT hb5 h
          refine TC.exit (TX.thenExit (TX.blockHere (TX.fold1 (k := 1) rfl (Splits.of [2] kr rfl) rfl (closeE (enc := encN_Gfold_unit) (nest := nest_Gfold_unit) hz1) ?_)))
          show TX _ _ _ _ _ _ _ [cells b1 [.int .i64 0, .int .i64 0] 26, vecN encN_Gfold_unit nest_Gfold_unit 46 5 hd1.v r2, emp, cells b2 [.int .i64 x4.at_, .int .u8 x4.broken, .int .i32 x4.base, eh1.v, eh2.v] 46]
          exact TX.meetD () h rfl (Sbs.cons rfl (Sbs.cons rfl (Sbs.cons rfl (Sbs.cons rfl (Sbs.cons rfl (Sbs.cons rfl (Sbs.cons rfl (Sbs.cons rfl (Sbs.nil))))))))) (Splits.of [0, 1] kr rfl)
         ·
          have h := condF hb5 h
          refine TC.skip (TX.next (TC.seq (TC.region (TO.move rfl dc rfl (TO.assign rfl dc rfl (TO.nil (TX.next (TC.seq (TC.region (TO.move rfl dc rfl (TO.move rfl dc rfl ?_)))))))))))
          refine TO.vecVw (k := 1) rfl (fun hw1 => ?_)
          obtain ⟨hg1, h⟩ := grdE h
          obtain ⟨v2, hv1, hs1⟩ := slice_Vw (lo := some (.int .i64 x3)) (hi := none) (i := x3) (j := (r2.length : Int)) hw1 Try.underlying42 sz_46 (.inr rfl) (.inl ⟨rfl, by rw [zlen hz1]⟩) (zcut hz1 hg1)
          refine TO.slice rfl dc rfl rfl rfl hs1 (TO.lenVwZ (cutL_map hz1) hv1 rfl dc rfl Try.underlying42 (TO.move rfl dc rfl (TO.nil (TX.next (TC.block ?_)))))
          refine TC.loopD (β := Nat × ByteArray × Int) (fun b => loopG (fun _ _ => none) (fold_Find_s2 s1 r2 x3 j2 x4) b.1 b.2.1 b.2.2 = some r) (fun b => []) (fun b => [(0, .string s1), (2, .int .i64 from1), (6, .pointer (some ⟨b1, 0, none⟩)), (8, .string r1), (9, hd1.v), (10, .int .i64 x3), (11, .pointer (some ⟨b2, 0, none⟩)), (12, .string b.2.1), (34, hd1.v), (35, .int .i64 (r2.length : Int)), (36, .int .i64 x3), (48, v2), (49, .int .i64 ((cutL r2 x3 (r2.length : Int)).length : Int)), (50, .int .i64 b.2.2)]) (fun b => [cells b1 [.int .i64 0, .int .i64 0] 26, vec encN_Gfold_unit 46 5 hd1.v zs1, own nest_Gfold_unit zs1, cells b2 [.int .i64 x4.at_, .int .u8 x4.broken, .int .i32 x4.base, eh1.v, eh2.v] 46]) (fun b => b.1) (fuel, r1, 0) h rfl (Sbs.cons rfl (Sbs.cons rfl (Sbs.cons rfl (Sbs.cons rfl (Sbs.cons rfl (Sbs.cons rfl (Sbs.cons rfl (Sbs.cons rfl (Sbs.cons rfl (Sbs.cons rfl (Sbs.cons rfl (Sbs.cons rfl (Sbs.cons rfl (Sbs.cons rfl (Sbs.nil))))))))))))))) (Splits.of [0, 1, 2, 3] kr rfl) ?_
          rintro ⟨n2, rest3, x7⟩ h
          cases n2 with
          | zero => exact noneE h
          | succ n2 =>
           obtain ⟨ag2, hag2⟩ : ∃ ag, ag = loopG (fun _ _ => none) (fold_Find_s2 s1 r2 x3 j2 x4) n2 := ⟨_, rfl⟩
           have h : fold_Find_s2 s1 r2 x3 j2 x4 ag2 rest3 x7 = some r := by rw [hag2]; exact h
           unfold fold_Find_s2 at h
           show TC _ _ _ _ _ ([]) _ _ [(0, .string s1), (2, .int .i64 from1), (6, .pointer (some ⟨b1, 0, none⟩)), (8, .string r1), (9, hd1.v), (10, .int .i64 x3), (11, .pointer (some ⟨b2, 0, none⟩)), (12, .string rest3), (34, hd1.v), (35, .int .i64 (r2.length : Int)), (36, .int .i64 x3), (48, v2), (49, .int .i64 ((cutL r2 x3 (r2.length : Int)).length : Int)), (50, .int .i64 x7)] [cells b1 [.int .i64 0, .int .i64 0] 26, vec encN_Gfold_unit 46 5 hd1.v zs1, own nest_Gfold_unit zs1, cells b2 [.int .i64 x4.at_, .int .u8 x4.broken, .int .i32 x4.base, eh1.v, eh2.v] 46]
           refine TC.seq (TC.region (TO.bin rfl dc rfl rfl bin_lss (TO.nil (TX.next (TC.seq ?_)))))
           refine TC.condB rfl (fun hb6 => ?_) (fun hb6 => ?_)
           ·
            have h := condT hb6 h
            refine TC.skip (TX.next (TC.seq (TC.block (TC.seq (TC.region (TO.move rfl dc rfl ?_))))))
            obtain ⟨x8, hq4, h⟩ := andE h
            obtain ⟨⟨eh3, eh4⟩, eq2⟩ := getO_z (cutL_map hz1) hq4
            refine TO.indexVw hv1 eq2 Try.underlying42 sz_46 rfl dc rfl rfl rfl (TO.loadsVec (i := 0 + (x3 : Int).toNat + (x7 : Int).toNat) (j := 0) (k := 1) (q := (x8, (eh3, eh4))) (cs := [.int .i64 x8.at_, .int .u8 x8.broken, .int .i32 x8.base, eh3.v, eh4.v]) rw_46 encN_Gfold_unit_len rfl dc rfl rfl (Vw.get hv1 eq2) rfl rfl rfl ?_)
            refine TO.alloc zr_46 rfl dc (fun b3 => ?_)
            refine TO.assign rfl dc rfl (TO.stores (k := 4) (vs := [.int .i64 x8.at_, .int .u8 x8.broken, .int .i32 x8.base, eh3.v, eh4.v]) (l' := [.int .i64 x8.at_, .int .u8 x8.broken, .int .i32 x8.base, eh3.v, eh4.v]) sz_46 rfl rfl rfl rfl rfl (show _ ≤ _ by simp) rfl rfl ?_)
            show TO _ _ _ _ _ _ _ _ _ _ [cells b1 [.int .i64 0, .int .i64 0] 26, vec encN_Gfold_unit 46 5 hd1.v zs1, own nest_Gfold_unit zs1, cells b2 [.int .i64 x4.at_, .int .u8 x4.broken, .int .i32 x4.base, eh1.v, eh2.v] 46, cells b3 [.int .i64 x8.at_, .int .u8 x8.broken, .int .i32 x8.base, eh3.v, eh4.v] 46]
            refine TO.nil (TX.next (TC.seq (TC.region (TO.loads (k := 4) (cs := [.int .i64 x8.at_, .int .u8 x8.broken, .int .i32 x8.base, eh3.v, eh4.v]) rw_46 rfl dc rfl rfl rfl rfl ?_))))
            refine TO.buildSlice (cs := [.int .i64 x8.at_, .int .u8 x8.broken, .int .i32 x8.base, eh3.v, eh4.v]) (te := 46) (ps := [(0, .tmp 55)]) rfl dc rfl (fun _ => by kernel_rfl) (fun b4 => ?_)
            refine TO.unfold1 (k := 2) rfl (pullE (Vw.get hv1 eq2)) (fun _ _ => ?_)
            show TO _ _ _ _ _ _ _ _ _ _ [cells b1 [.int .i64 0, .int .i64 0] 26, vec encN_Gfold_unit 46 5 hd1.v zs1, own nest_Gfold_unit (zs1.eraseIdx (0 + (x3 : Int).toNat + (x7 : Int).toNat)), cells b2 [.int .i64 x4.at_, .int .u8 x4.broken, .int .i32 x4.base, eh1.v, eh2.v] 46, cells b3 [.int .i64 x8.at_, .int .u8 x8.broken, .int .i32 x8.base, eh3.v, eh4.v] 46, cells b4 [.int .i64 x8.at_, .int .u8 x8.broken, .int .i32 x8.base, eh3.v, eh4.v] 46, vec (encI (.i32)) 21 1 eh3.v x8.low, vec (encI (.i32)) 21 1 eh4.v x8.high]
            refine TO.toVec (enc := encN_Gfold_unit) [(x8, (eh3, eh4))] (k := 5) rfl encN_Gfold_unit_len rfl (show 1 ≤ maxLen by decide) ?_
            show TO _ _ _ _ _ _ _ _ _ _ [cells b1 [.int .i64 0, .int .i64 0] 26, vec encN_Gfold_unit 46 5 hd1.v zs1, own nest_Gfold_unit (zs1.eraseIdx (0 + (x3 : Int).toNat + (x7 : Int).toNat)), cells b2 [.int .i64 x4.at_, .int .u8 x4.broken, .int .i32 x4.base, eh1.v, eh2.v] 46, cells b3 [.int .i64 x8.at_, .int .u8 x8.broken, .int .i32 x8.base, eh3.v, eh4.v] 46, vec encN_Gfold_unit 46 5 (.slice (some ⟨b4, 0, none⟩) 1 1) ([(x8, (eh3, eh4))]), vec (encI (.i32)) 21 1 eh3.v x8.low, vec (encI (.i32)) 21 1 eh4.v x8.high]
            refine TO.padE ?_
            show TO _ _ _ _ _ _ _ _ _ _ [cells b1 [.int .i64 0, .int .i64 0] 26, vec encN_Gfold_unit 46 5 hd1.v zs1, own nest_Gfold_unit (zs1.eraseIdx (0 + (x3 : Int).toNat + (x7 : Int).toNat)), cells b2 [.int .i64 x4.at_, .int .u8 x4.broken, .int .i32 x4.base, eh1.v, eh2.v] 46, cells b3 [.int .i64 x8.at_, .int .u8 x8.broken, .int .i32 x8.base, eh3.v, eh4.v] 46, vec encN_Gfold_unit 46 5 (.slice (some ⟨b4, 0, none⟩) 1 1) ([(x8, (eh3, eh4))]), vec (encI (.i32)) 21 1 eh3.v x8.low, vec (encI (.i32)) 21 1 eh4.v x8.high, emp]
            refine TO.fold1 (k := 8) rfl (Splits.of [6, 7] kr rfl) rfl (ownOne (nest := nest_Gfold_unit) (z := (x8, (eh3, eh4)))) ?_
            show TO _ _ _ _ _ _ _ _ _ _ [cells b1 [.int .i64 0, .int .i64 0] 26, vec encN_Gfold_unit 46 5 hd1.v zs1, own nest_Gfold_unit (zs1.eraseIdx (0 + (x3 : Int).toNat + (x7 : Int).toNat)), cells b2 [.int .i64 x4.at_, .int .u8 x4.broken, .int .i32 x4.base, eh1.v, eh2.v] 46, cells b3 [.int .i64 x8.at_, .int .u8 x8.broken, .int .i32 x8.base, eh3.v, eh4.v] 46, vec encN_Gfold_unit 46 5 (.slice (some ⟨b4, 0, none⟩) 1 1) ([(x8, (eh3, eh4))]), emp, emp, own nest_Gfold_unit ([(x8, (eh3, eh4))])]
            refine TO.vecVw (k := 5) rfl (fun hw2 => ?_)
            obtain ⟨r3, hq5, h⟩ := andE h
            refine TO.callK (v := .string r3) (vs := [.slice (some ⟨b4, 0, none⟩) 1 1, .func (.func 26) #[] #[]]) rfl dc rfl rfl rfl en_25 (fold_written_plain_fn hw2 rfl hq5) [5, 8] kr rfl ?_
            refine TO.unfold1 (k := 8) rfl ownBack (fun _ _ => ?_)
            show TO _ _ _ _ _ _ _ _ _ _ [cells b1 [.int .i64 0, .int .i64 0] 26, vec encN_Gfold_unit 46 5 hd1.v zs1, own nest_Gfold_unit (zs1.eraseIdx (0 + (x3 : Int).toNat + (x7 : Int).toNat)), cells b2 [.int .i64 x4.at_, .int .u8 x4.broken, .int .i32 x4.base, eh1.v, eh2.v] 46, cells b3 [.int .i64 x8.at_, .int .u8 x8.broken, .int .i32 x8.base, eh3.v, eh4.v] 46, vec encN_Gfold_unit 46 5 (.slice (some ⟨b4, 0, none⟩) 1 1) ([(x8, (eh3, eh4))]), emp, emp, emp, vec (encI (.i32)) 21 1 eh3.v x8.low, vec (encI (.i32)) 21 1 eh4.v x8.high]
            refine TO.weakenL (L' := [cells b1 [.int .i64 0, .int .i64 0] 26, vec encN_Gfold_unit 46 5 hd1.v zs1, own nest_Gfold_unit (zs1.eraseIdx (0 + (x3 : Int).toNat + (x7 : Int).toNat)), cells b2 [.int .i64 x4.at_, .int .u8 x4.broken, .int .i32 x4.base, eh1.v, eh2.v] 46, cells b3 [.int .i64 x8.at_, .int .u8 x8.broken, .int .i32 x8.base, eh3.v, eh4.v] 46, vec encN_Gfold_unit 46 5 (.slice (some ⟨b4, 0, none⟩) 1 1) ([(x8, (eh3, eh4))]), vec (encI (.i32)) 21 1 eh3.v x8.low, vec (encI (.i32)) 21 1 eh4.v x8.high]) (Splits.of [0, 1, 2, 3, 4, 5, 9, 10] kr rfl) (TO.assign rfl dc rfl (TO.nil (TX.next (TC.seq (TC.seq (TC.region (TO.move rfl dc rfl (TO.lenStr rfl dc rfl Try.underlying9 (TO.move rfl dc rfl (TO.lenStr rfl dc rfl Try.underlying9 (TO.bin rfl dc rfl rfl bin_gtr (TO.move rfl dc rfl ?_))))))))))))
            refine TO.split (s := 63) rfl (fun hb7 => ?_) (fun hb7 => ?_)
            ·
             have h := condT hb7 h
             refine TO.skip rfl dc (TO.skip rfl dc (TO.skip rfl dc (TO.skip rfl dc (TO.skip rfl dc (TO.skip rfl dc (TO.pick (b := true) rfl dc rfl rfl (TO.nil (TX.next (TC.condT rfl (TC.exit (TX.thenExit (TX.blockOn dc (TX.thenExit ?_)))))))))))))
             refine TX.thenExit (TX.blockOn dc (TX.blockHere (TX.fold1 (k := 2) rfl (Splits.of [6, 7] kr rfl) rfl (pushE (nest := nest_Gfold_unit) (Vw.get hv1 eq2) rfl) ?_)))
             show TX _ _ _ _ _ _ _ [cells b1 [.int .i64 0, .int .i64 0] 26, vec encN_Gfold_unit 46 5 hd1.v zs1, own nest_Gfold_unit zs1, cells b2 [.int .i64 x4.at_, .int .u8 x4.broken, .int .i32 x4.base, eh1.v, eh2.v] 46, cells b3 [.int .i64 x8.at_, .int .u8 x8.broken, .int .i32 x8.base, eh3.v, eh4.v] 46, vec encN_Gfold_unit 46 5 (.slice (some ⟨b4, 0, none⟩) 1 1) ([(x8, (eh3, eh4))]), emp, emp]
             refine TX.fold1 (k := 1) rfl (Splits.of [2] kr rfl) rfl (closeE (enc := encN_Gfold_unit) (nest := nest_Gfold_unit) hz1) ?_
             show TX _ _ _ _ _ _ _ [cells b1 [.int .i64 0, .int .i64 0] 26, vecN encN_Gfold_unit nest_Gfold_unit 46 5 hd1.v r2, emp, cells b2 [.int .i64 x4.at_, .int .u8 x4.broken, .int .i32 x4.base, eh1.v, eh2.v] 46, cells b3 [.int .i64 x8.at_, .int .u8 x8.broken, .int .i32 x8.base, eh3.v, eh4.v] 46, vec encN_Gfold_unit 46 5 (.slice (some ⟨b4, 0, none⟩) 1 1) ([(x8, (eh3, eh4))]), emp, emp]
             exact TX.meetD () h rfl (Sbs.cons rfl (Sbs.cons rfl (Sbs.cons rfl (Sbs.cons rfl (Sbs.cons rfl (Sbs.cons rfl (Sbs.cons rfl (Sbs.cons rfl (Sbs.nil))))))))) (Splits.of [0, 1] kr rfl)
            ·
             have h := condF hb7 h
             refine TO.move rfl dc rfl (TO.move rfl dc rfl (TO.lenStr rfl dc rfl Try.underlying9 ?_))
             obtain ⟨hg2, h⟩ := grdE h
             refine TO.slice rfl dc rfl rfl rfl (slice_stringI (i := 0) (j := (r3.size : Int)) Try.underlying9 (.inl ⟨rfl, rfl⟩) (.inr rfl) hg2) (TO.move rfl dc rfl (TO.bin rfl dc rfl rfl bin_sneq (TO.pick (b := false) rfl dc rfl rfl (TO.nil (TX.next ?_)))))
             refine TC.condB rfl (fun hb8 => ?_) (fun hb8 => ?_)
             ·
              have h := condT hb8 h
              refine TC.exit (TX.thenExit (TX.blockOn dc (TX.thenExit (TX.thenExit (TX.blockOn dc (TX.blockHere (TX.fold1 (k := 2) rfl (Splits.of [6, 7] kr rfl) rfl (pushE (nest := nest_Gfold_unit) (Vw.get hv1 eq2) rfl) ?_)))))))
              show TX _ _ _ _ _ _ _ [cells b1 [.int .i64 0, .int .i64 0] 26, vec encN_Gfold_unit 46 5 hd1.v zs1, own nest_Gfold_unit zs1, cells b2 [.int .i64 x4.at_, .int .u8 x4.broken, .int .i32 x4.base, eh1.v, eh2.v] 46, cells b3 [.int .i64 x8.at_, .int .u8 x8.broken, .int .i32 x8.base, eh3.v, eh4.v] 46, vec encN_Gfold_unit 46 5 (.slice (some ⟨b4, 0, none⟩) 1 1) ([(x8, (eh3, eh4))]), emp, emp]
              refine TX.fold1 (k := 1) rfl (Splits.of [2] kr rfl) rfl (closeE (enc := encN_Gfold_unit) (nest := nest_Gfold_unit) hz1) ?_
              show TX _ _ _ _ _ _ _ [cells b1 [.int .i64 0, .int .i64 0] 26, vecN encN_Gfold_unit nest_Gfold_unit 46 5 hd1.v r2, emp, cells b2 [.int .i64 x4.at_, .int .u8 x4.broken, .int .i32 x4.base, eh1.v, eh2.v] 46, cells b3 [.int .i64 x8.at_, .int .u8 x8.broken, .int .i32 x8.base, eh3.v, eh4.v] 46, vec encN_Gfold_unit 46 5 (.slice (some ⟨b4, 0, none⟩) 1 1) ([(x8, (eh3, eh4))]), emp, emp]
              exact TX.meetD () h rfl (Sbs.cons rfl (Sbs.cons rfl (Sbs.cons rfl (Sbs.cons rfl (Sbs.cons rfl (Sbs.cons rfl (Sbs.cons rfl (Sbs.cons rfl (Sbs.nil))))))))) (Splits.of [0, 1] kr rfl)
             ·
              have h := condF hb8 h
              refine TC.skip (TX.next (TC.seq (TC.region (TO.move rfl dc rfl (TO.move rfl dc rfl (TO.lenStr rfl dc rfl Try.underlying9 ?_))))))
              obtain ⟨hg3, h⟩ := grdE h
              refine TO.slice rfl dc rfl rfl rfl (slice_stringI (i := (r3.size : Int)) (j := (rest3.size : Int)) Try.underlying9 (.inr rfl) (.inl ⟨rfl, rfl⟩) hg3) (TO.assign rfl dc rfl (TO.nil (TX.next (TC.seq (TC.region (TO.move rfl dc rfl (TO.bin rfl dc rfl rfl bin_seql (TO.nil (TX.next ?_)))))))))
              refine TC.condB rfl (fun hb9 => ?_) (fun hb9 => ?_)
              ·
               have h := condT hb9 h
               obtain ⟨j3, hj3, h⟩ := joinE h
               refine TC.cutN (β := Int) 1 rfl (fun b => j3 b = some r) (fun b => []) (fun b => [(6, .pointer (some ⟨b1, 0, none⟩)), (11, .pointer (some ⟨b2, 0, none⟩)), (16, .int .i64 b)]) (fun b => [cells b1 [.int .i64 0, .int .i64 0] 26, cells b2 [.int .i64 x4.at_, .int .u8 x4.broken, .int .i32 x4.base, eh1.v, eh2.v] 46, vec encN_Gfold_unit 46 5 hd1.v zs1, own nest_Gfold_unit zs1]) (fun cut => ?_) ?_
               ·
                refine TC.seq (TC.region (TO.move rfl dc rfl (TO.lenStr rfl dc rfl Try.underlying9 (TO.assign rfl dc rfl (TO.nil (TX.next (cut (TC.seq (TC.region (TO.move rfl dc rfl (TO.move rfl dc rfl ?_)))))))))))
                obtain ⟨hg4, h⟩ := grdE h
                refine TO.bin rfl dc rfl rfl (bin_add (r := x3 + x7) (IntWalk.i64_in _ hg4)) ?_
                obtain ⟨hg5, h⟩ := grdE h
                refine TO.bin rfl dc rfl rfl (bin_add (r := (x3 + x7) + 1) (IntWalk.i64_in _ hg5)) (TO.move rfl dc rfl (TO.lenVecZ (k := 1) hz1 rfl dc rfl rfl Try.underlying42 (TO.bin rfl dc rfl rfl bin_lss (TO.nil (TX.next ?_)))))
                refine TC.condB rfl (fun hb10 => ?_) (fun hb10 => ?_)
                ·
                 have h := condT hb10 h
                 refine TC.region (TO.move rfl dc rfl (TO.move rfl dc rfl (TO.move rfl dc rfl ?_)))
                 obtain ⟨hg6, h⟩ := grdE h
                 refine TO.bin rfl dc rfl rfl (bin_add (r := x3 + x7) (IntWalk.i64_in _ hg6)) ?_
                 obtain ⟨hg7, h⟩ := grdE h
                 refine TO.bin rfl dc rfl rfl (bin_add (r := (x3 + x7) + 1) (IntWalk.i64_in _ hg7)) ?_
                 obtain ⟨x9, hq6, h⟩ := andE h
                 obtain ⟨⟨eh5, eh6⟩, eq3⟩ := getO_z hz1 hq6
                 refine TO.indexVecI (k := 1) eq3 Try.underlying42 sz_46 rfl dc rfl rfl rfl rfl (TO.fieldAddr fl_46_0 rfl dc rfl (show _ = (((x3 + x7) + 1 : Int).toNat) * 5 from rfl) (TO.loadVec (i := ((x3 + x7) + 1 : Int).toNat) (j := 0) (k := 1) (q := (x9, (eh5, eh6))) sc_3 encN_Gfold_unit_len rfl dc rfl rfl (getO_get eq3) rfl dc rfl (TO.assign rfl dc rfl (TO.nil (TX.fold1 (k := 2) rfl (Splits.of [6, 7] kr rfl) rfl (pushE (nest := nest_Gfold_unit) (Vw.get hv1 eq2) rfl) ?_)))))
                 show TX _ _ _ _ _ _ _ [cells b1 [.int .i64 0, .int .i64 0] 26, vec encN_Gfold_unit 46 5 hd1.v zs1, own nest_Gfold_unit zs1, cells b2 [.int .i64 x4.at_, .int .u8 x4.broken, .int .i32 x4.base, eh1.v, eh2.v] 46, cells b3 [.int .i64 x8.at_, .int .u8 x8.broken, .int .i32 x8.base, eh3.v, eh4.v] 46, vec encN_Gfold_unit 46 5 (.slice (some ⟨b4, 0, none⟩) 1 1) ([(x8, (eh3, eh4))]), emp, emp]
                 exact TX.meetD x9.at_ h rfl (Sbs.cons rfl (Sbs.cons rfl (Sbs.cons rfl (Sbs.nil)))) (Splits.of [0, 3, 1, 2] kr rfl)
                ·
                 have h := condF hb10 h
                 refine TC.skip (TX.fold1 (k := 2) rfl (Splits.of [6, 7] kr rfl) rfl (pushE (nest := nest_Gfold_unit) (Vw.get hv1 eq2) rfl) ?_)
                 show TX _ _ _ _ _ _ _ [cells b1 [.int .i64 0, .int .i64 0] 26, vec encN_Gfold_unit 46 5 hd1.v zs1, own nest_Gfold_unit zs1, cells b2 [.int .i64 x4.at_, .int .u8 x4.broken, .int .i32 x4.base, eh1.v, eh2.v] 46, cells b3 [.int .i64 x8.at_, .int .u8 x8.broken, .int .i32 x8.base, eh3.v, eh4.v] 46, vec encN_Gfold_unit 46 5 (.slice (some ⟨b4, 0, none⟩) 1 1) ([(x8, (eh3, eh4))]), emp, emp]
                 exact TX.meetD (s1.size : Int) h rfl (Sbs.cons rfl (Sbs.cons rfl (Sbs.cons rfl (Sbs.nil)))) (Splits.of [0, 3, 1, 2] kr rfl)
               ·
                rintro end1 h
                rw [hj3] at h
                show TC _ _ _ _ _ ([]) _ _ [(6, .pointer (some ⟨b1, 0, none⟩)), (11, .pointer (some ⟨b2, 0, none⟩)), (16, .int .i64 end1)] [cells b1 [.int .i64 0, .int .i64 0] 26, cells b2 [.int .i64 x4.at_, .int .u8 x4.broken, .int .i32 x4.base, eh1.v, eh2.v] 46, vec encN_Gfold_unit 46 5 hd1.v zs1, own nest_Gfold_unit zs1]
                refine TC.seq (TC.region (TO.fieldAddr fl_46_0 rfl dc rfl (show _ = 0 from rfl) (TO.load (k := 1) sc_3 rfl dc rfl rfl rfl (TO.move rfl dc rfl ?_))))
                refine TO.build (v := .agg #[.int .i64 x4.at_, .int .i64 end1]) (ps := [(0, .tmp 95), (1, .tmp 96)]) rfl dc rfl (fun _ => by kernel_rfl) ?_
                refine TO.stores (k := 0) (vs := [.int .i64 x4.at_, .int .i64 end1]) (l' := [.int .i64 x4.at_, .int .i64 end1]) sz_26 rfl rfl rfl rfl rfl (show _ ≤ _ by simp) rfl rfl (TO.assign rfl dc rfl (TO.nil (TX.next (TC.ret (TX.blockRet (TX.thenRet (TX.thenRet (TX.blockRet (TX.blockRet (TX.thenRet (TX.thenRet (TX.blockRet (TX.thenRet ?_)))))))))))))
                refine TX.jumpOn (by simp) ?_
                cases h
                exact TX.fin (rs := [.cell 6 26, .tmp 7]) () (.inl rfl) Try.results8 (.cons (.cells rw_26 (k := 0) rfl rfl rfl) (.cons (.tmp rfl) .nil)) rfl Splits.nil
              ·
               have h := condF hb9 h
               refine TC.skip (TX.blockNormal (TX.next (TC.region ?_)))
               obtain ⟨hg8, h⟩ := grdE h
               refine TO.bin rfl dc rfl rfl (bin_add (r := x7 + 1) (IntWalk.i64_in _ hg8)) (TO.move rfl dc rfl (TO.nil (TX.fold1 (k := 2) rfl (Splits.of [6, 7] kr rfl) rfl (pushE (nest := nest_Gfold_unit) (Vw.get hv1 eq2) rfl) ?_)))
               show TX _ _ _ _ _ _ _ [cells b1 [.int .i64 0, .int .i64 0] 26, vec encN_Gfold_unit 46 5 hd1.v zs1, own nest_Gfold_unit zs1, cells b2 [.int .i64 x4.at_, .int .u8 x4.broken, .int .i32 x4.base, eh1.v, eh2.v] 46, cells b3 [.int .i64 x8.at_, .int .u8 x8.broken, .int .i32 x8.base, eh3.v, eh4.v] 46, vec encN_Gfold_unit 46 5 (.slice (some ⟨b4, 0, none⟩) 1 1) ([(x8, (eh3, eh4))]), emp, emp]
               subst hag2
               exact TX.againD (n2, cutB rest3 (r3.size : Int) (rest3.size : Int), x7 + 1) h (Nat.lt_succ_self _) rfl (Sbs.cons rfl (Sbs.cons rfl (Sbs.cons rfl (Sbs.cons rfl (Sbs.cons rfl (Sbs.cons rfl (Sbs.cons rfl (Sbs.cons rfl (Sbs.cons rfl (Sbs.cons rfl (Sbs.cons rfl (Sbs.cons rfl (Sbs.cons rfl (Sbs.cons rfl (Sbs.nil))))))))))))))) (Splits.of [0, 1, 2, 3] kr rfl)
           ·
            have h := condF hb6 h
            refine TC.exit (TX.thenExit (TX.thenExit (TX.blockHere (TX.blockNormal (TX.fold1 (k := 1) rfl (Splits.of [2] kr rfl) rfl (closeE (enc := encN_Gfold_unit) (nest := nest_Gfold_unit) hz1) ?_)))))
            show TX _ _ _ _ _ _ _ [cells b1 [.int .i64 0, .int .i64 0] 26, vecN encN_Gfold_unit nest_Gfold_unit 46 5 hd1.v r2, emp, cells b2 [.int .i64 x4.at_, .int .u8 x4.broken, .int .i32 x4.base, eh1.v, eh2.v] 46]
            exact TX.meetD () h rfl (Sbs.cons rfl (Sbs.cons rfl (Sbs.cons rfl (Sbs.cons rfl (Sbs.cons rfl (Sbs.cons rfl (Sbs.cons rfl (Sbs.cons rfl (Sbs.nil))))))))) (Splits.of [0, 1] kr rfl)
        ·
         rintro _ h
         rw [hj2] at h
         show TC _ _ _ _ _ ([]) _ _ [(0, .string s1), (2, .int .i64 from1), (6, .pointer (some ⟨b1, 0, none⟩)), (8, .string r1), (9, hd1.v), (34, hd1.v), (35, .int .i64 (r2.length : Int)), (36, .int .i64 x3)] [cells b1 [.int .i64 0, .int .i64 0] 26, vecN encN_Gfold_unit nest_Gfold_unit 46 5 hd1.v r2]
         refine TC.region ?_
         obtain ⟨hg9, h⟩ := grdE h
         refine TO.bin rfl dc rfl rfl (bin_add (r := x3 + 1) (IntWalk.i64_in _ hg9)) (TO.move rfl dc rfl (TO.nil ?_))
         subst hag1
         exact TX.againD (n1, x3 + 1) h (Nat.lt_succ_self _) rfl (Sbs.cons rfl (Sbs.cons rfl (Sbs.cons rfl (Sbs.cons rfl (Sbs.cons rfl (Sbs.cons rfl (Sbs.cons rfl (Sbs.cons rfl (Sbs.nil))))))))) (Splits.of [0, 1] kr rfl)
       ·
        have h := condF hb4 h
        refine TC.exit (TX.thenExit (TX.thenExit (TX.blockHere ?_)))
        exact TX.meetD () h rfl (Sbs.cons rfl (Sbs.nil)) (Splits.of [0] kr rfl)
     ·
      rintro _ h
      rw [hj1] at h
      show TC _ _ _ _ _ ([]) _ _ [(6, .pointer (some ⟨b1, 0, none⟩))] [cells b1 [.int .i64 0, .int .i64 0] 26]
      refine TC.seq (TC.region ?_)
      refine TO.build (v := .agg #[.int .i64 0, .int .i64 0]) (ps := []) rfl dc rfl (fun _ => by kernel_rfl) ?_
      refine TO.stores (k := 0) (vs := [.int .i64 0, .int .i64 0]) (l' := [.int .i64 0, .int .i64 0]) sz_26 rfl rfl rfl rfl rfl (show _ ≤ _ by simp) rfl rfl (TO.assign rfl dc rfl (TO.nil (TX.next (TC.ret (TX.jumpOn (by simp) ?_)))))
      cases h
      exact TX.fin (rs := [.cell 6 26, .tmp 7]) () (.inl rfl) Try.results8 (.cons (.cells rw_26 (k := 0) rfl rfl rfl) (.cons (.tmp rfl) .nil)) rfl Splits.nil
 ·
  exact fun b hb => hb.elim
end Go.Proofs.Ytlamcpgnmeileaa
namespace Go.Proofs.Ytlamcpgnmeileaa
open Go.RowKit Go.Lib
set_option linter.unusedVariables false
set_option linter.unusedSimpArgs false
def ref04_Find_s1 (j1 : (List Int) → Option (Gapi_Span × Bool)) (r2 : (List Gref04_Item)) (ag1 : (List Int) → Bool → Int → Option (Gapi_Span × Bool)) (ends4 : List Int) (own3 : Bool) (x3 : Int) : Option (Gapi_Span × Bool) := bcond (decide ((x3 : Int) < (r2.length : Int))) ( joinK (fun (j2 : (List Int) → Bool → Option (Gapi_Span × Bool)) => andThen (getO r2 x3) fun (q1 : Gref04_Item) => bcond (!own3) ( grd (ends4.length + 1 ≤ 2147483648) <| andThen (ref04_Item_letter_v q1) fun (r3 : Bool) => j2 (ends4 ++ [q1.At]) r3
) ( andThen (ref04_Item_mark_v q1) fun (r4 : Bool) => bcond (!r4) ( grd (ends4.length + 1 ≤ 2147483648) <| andThen (ref04_Item_letter_v q1) fun (r5 : Bool) => j2 (ends4 ++ [q1.At]) r5
) ( j2 ends4 own3
)
)
) (fun (ends5 : List Int) (own4 : Bool) => grd (I64 (x3 + 1)) <| ag1 ends5 own4 (x3 + 1)
)
) ( j1 ends4
)
def ref04_Find_s3 (s1 : ByteArray) (from1 : Int) (r1 : ByteArray) (ends1 : List Int) (x6 : Int) (j4 : Option (Gapi_Span × Bool)) (q2 : Int) (ag3 : Int → Option (Gapi_Span × Bool)) (x9 : Int) : Option (Gapi_Span × Bool) := bcond (decide ((x9 : Int) < ((cutL (ends1 ++ [(s1.size : Int)]) x6 ((ends1 ++ [(s1.size : Int)]).length : Int)).length : Int))) ( joinK (fun (j5 : Option (Gapi_Span × Bool)) => andThen (getO (cutL (ends1 ++ [(s1.size : Int)]) x6 ((ends1 ++ [(s1.size : Int)]).length : Int)) x9) fun (q3 : Int) => bcond (decide ((from1 : Int) ≤ q2)) ( grd (0 ≤ (q2 : Int) ∧ (q2 : Int) ≤ q3 ∧ (q3 : Int) ≤ (s1.size : Int)) <| andThen (ref04_Fold_v (cutB s1 q2 q3)) fun (r6 : ByteArray) => bcond (decide (r6 = r1)) ( some ((⟨q2, q3⟩ : Gapi_Span), true)
) ( j5
)
) ( j5
)
) ( grd (I64 (x9 + 1)) <| ag3 (x9 + 1)
)
) ( j4
)
def ref04_Find_s2 (s1 : ByteArray) (from1 : Int) (r1 : ByteArray) (ends1 : List Int) (j3 : Option (Gapi_Span × Bool)) (ag2 : Int → Option (Gapi_Span × Bool)) (x6 : Int) : Option (Gapi_Span × Bool) := bcond (decide ((x6 : Int) < ((ends1 ++ [(s1.size : Int)]).length : Int))) ( joinK (fun (j4 : Option (Gapi_Span × Bool)) => andThen (getO (ends1 ++ [(s1.size : Int)]) x6) fun (q2 : Int) => grd (0 ≤ (x6 : Int) ∧ (x6 : Int) ≤ ((ends1 ++ [(s1.size : Int)]).length : Int) ∧ (((ends1 ++ [(s1.size : Int)]).length : Int) : Int) ≤ ((ends1 ++ [(s1.size : Int)]).length : Int)) <| loopG (fun _ => none) (ref04_Find_s3 s1 from1 r1 ends1 x6 j4 q2) fuel 0
) ( grd (I64 (x6 + 1)) <| ag2 (x6 + 1)
)
) ( j3
)
def ref04_Find_v (s1 : ByteArray) (t1 : ByteArray) (from1 : Int) : Option (Gapi_Span × Bool) := andThen (ref04_Fold_v t1) fun (r1 : ByteArray) => bcond (decide ((from1 : Int) < 0)) ( some ((⟨0, 0⟩ : Gapi_Span), false)
) ( bcond (decide (((s1.size : Int) : Int) < from1)) ( some ((⟨0, 0⟩ : Gapi_Span), false)
) ( bcond (decide (r1 = (⟨#[]⟩ : ByteArray))) ( some ((⟨0, 0⟩ : Gapi_Span), false)
) ( joinK (fun (j1 : (List Int) → Option (Gapi_Span × Bool)) => andThen (ref04_Items_v s1) fun (r2 : (List Gref04_Item)) => loopG (fun _ _ _ => none) (ref04_Find_s1 j1 r2) fuel ([] : List Int) false 0
) (fun (ends1 : List Int) => joinK (fun (j3 : Option (Gapi_Span × Bool)) => grd (ends1.length + 1 ≤ 2147483648) <| loopG (fun _ => none) (ref04_Find_s2 s1 from1 r1 ends1 j3) fuel 0
) ( some ((⟨0, 0⟩ : Gapi_Span), false)
)
)
)
)
)
set_option maxRecDepth 100000 in
set_option maxHeartbeats 4000000 in
theorem ref04_Find_fn {s1 : ByteArray} {t1 : ByteArray} {from1 : Int} {r : (Gapi_Span × Bool)} (h : ref04_Find_v s1 t1 from1 = some r) : FnP Try.prog 9 [.string s1, .string t1, .int .i64 from1] (.tuple #[.agg #[.int .i64 r.1.From, .int .i64 r.1.To], .bool r.2]) := by
 unfold ref04_Find_v at h
 refine FnP.intro Try.func9 rfl Try.ntmps9 (by simp) ?_
 intro w0 K
 refine TC.seq (TC.region ?_)
 refine TO.alloc zr_26 rfl dc (fun b1 => ?_)
 refine TO.assign rfl dc rfl (TO.nil (TX.next (TC.seq (TC.region (TO.move rfl dc rfl ?_)))))
 obtain ⟨r1, hq1, h⟩ := andE h
 refine TO.callP (v := .string r1) (vs := [.string t1]) rfl dc rfl rfl rfl en_27 (ref04_Fold_fn hq1) (TO.assign rfl dc rfl (TO.nil (TX.next (TC.seq (TC.seq (TC.region (TO.move rfl dc rfl (TO.bin rfl dc rfl rfl bin_lss (TO.move rfl dc rfl ?_)))))))))
 refine TO.split (s := 22) rfl (fun hb1 => ?_) (fun hb1 => ?_)
 ·
  have h := condT hb1 h
  refine TO.skip rfl dc (TO.skip rfl dc (TO.skip rfl dc (TO.skip rfl dc (TO.pick (b := true) rfl dc rfl rfl (TO.move rfl dc rfl (TO.skip rfl dc (TO.skip rfl dc (TO.pick (b := true) rfl dc rfl rfl (TO.nil (TX.next (TC.condT rfl (TC.seq (TC.region ?_)))))))))))))
  refine TO.build (v := .agg #[.int .i64 0, .int .i64 0]) (ps := []) rfl dc rfl (fun _ => by kernel_rfl) ?_
  refine TO.stores (k := 0) (vs := [.int .i64 0, .int .i64 0]) (l' := [.int .i64 0, .int .i64 0]) sz_26 rfl rfl rfl rfl rfl (show _ ≤ _ by simp) rfl rfl ?_
  show TO _ _ _ _ _ _ _ _ _ _ [cells b1 [.int .i64 0, .int .i64 0] 26]
  refine TO.assign rfl dc rfl (TO.nil (TX.next (TC.ret (TX.thenRet ?_))))
  cases h
  exact TX.fin (rs := [.cell 6 26, .tmp 7]) () (.inl rfl) Try.results9 (.cons (.cells rw_26 (k := 0) rfl rfl rfl) (.cons (.tmp rfl) .nil)) rfl Splits.nil
 ·
  have h := condF hb1 h
  refine TO.move rfl dc rfl (TO.move rfl dc rfl (TO.lenStr rfl dc rfl Try.underlying9 (TO.bin rfl dc rfl rfl bin_gtr (TO.pick (b := false) rfl dc rfl rfl (TO.move rfl dc rfl ?_)))))
  refine TO.split (s := 28) rfl (fun hb2 => ?_) (fun hb2 => ?_)
  ·
   have h := condT hb2 h
   refine TO.skip rfl dc (TO.skip rfl dc (TO.pick (b := true) rfl dc rfl rfl (TO.nil (TX.next (TC.condT rfl (TC.seq (TC.region ?_)))))))
   refine TO.build (v := .agg #[.int .i64 0, .int .i64 0]) (ps := []) rfl dc rfl (fun _ => by kernel_rfl) ?_
   refine TO.stores (k := 0) (vs := [.int .i64 0, .int .i64 0]) (l' := [.int .i64 0, .int .i64 0]) sz_26 rfl rfl rfl rfl rfl (show _ ≤ _ by simp) rfl rfl ?_
   show TO _ _ _ _ _ _ _ _ _ _ [cells b1 [.int .i64 0, .int .i64 0] 26]
   refine TO.assign rfl dc rfl (TO.nil (TX.next (TC.ret (TX.thenRet ?_))))
   cases h
   exact TX.fin (rs := [.cell 6 26, .tmp 7]) () (.inl rfl) Try.results9 (.cons (.cells rw_26 (k := 0) rfl rfl rfl) (.cons (.tmp rfl) .nil)) rfl Splits.nil
  ·
   have h := condF hb2 h
   refine TO.move rfl dc rfl (TO.bin rfl dc rfl rfl bin_seql (TO.pick (b := false) rfl dc rfl rfl (TO.nil (TX.next ?_))))
   refine TC.condB rfl (fun hb3 => ?_) (fun hb3 => ?_)
   ·
    have h := condT hb3 h
    refine TC.seq (TC.region ?_)
    refine TO.build (v := .agg #[.int .i64 0, .int .i64 0]) (ps := []) rfl dc rfl (fun _ => by kernel_rfl) ?_
    refine TO.stores (k := 0) (vs := [.int .i64 0, .int .i64 0]) (l' := [.int .i64 0, .int .i64 0]) sz_26 rfl rfl rfl rfl rfl (show _ ≤ _ by simp) rfl rfl ?_
    show TO _ _ _ _ _ _ _ _ _ _ [cells b1 [.int .i64 0, .int .i64 0] 26]
    refine TO.assign rfl dc rfl (TO.nil (TX.next (TC.ret (TX.thenRet ?_))))
    cases h
    exact TX.fin (rs := [.cell 6 26, .tmp 7]) () (.inl rfl) Try.results9 (.cons (.cells rw_26 (k := 0) rfl rfl rfl) (.cons (.tmp rfl) .nil)) rfl Splits.nil
   ·
    have h := condF hb3 h
    refine TC.skip (TX.next ?_)
    obtain ⟨j1, hj1, h⟩ := joinE h
    refine TC.cutN (β := (List Int) × Value) 3 rfl (fun b => j1 b.1 = some r) (fun b => []) (fun b => [(0, .string s1), (2, .int .i64 from1), (6, .pointer (some ⟨b1, 0, none⟩)), (8, .string r1), (10, b.2)]) (fun b => [cells b1 [.int .i64 0, .int .i64 0] 26, vec (encI (.i64)) 3 1 b.2 b.1]) (fun cut => ?_) ?_
    ·
     refine TC.seq (TC.region (TO.move rfl dc rfl ?_))
     obtain ⟨r2, hq2, h⟩ := andE h
     refine TO.call (vs := [.string s1]) rfl dc rfl rfl rfl en_28 (ref04_Items_fn hq2) Splits.nil ?_
     rintro v2
     show TO _ _ _ _ _ _ _ _ _ _ [cells b1 [.int .i64 0, .int .i64 0] 26, vec enc_Gref04_Item 53 3 v2 r2]
     refine TO.assign rfl dc rfl (TO.nil (TX.next (TC.seq (TC.region (TO.assign rfl dc rfl (TO.nil (TX.next (TC.seq (TC.region (TO.assign rfl dc rfl (TO.nil (TX.next (cut ?_)))))))))))))
     refine TC.seq (TC.region (TO.move rfl dc rfl (TO.lenVec (k := 1) rfl dc rfl rfl Try.underlying49 (TO.move rfl dc rfl (TO.nil (TX.next (TC.block (TC.newVec (enc := (encI (.i64))) (e := 3) (size := 1) ?_))))))))
     show TC _ _ _ _ _ _ _ _ _ [cells b1 [.int .i64 0, .int .i64 0] 26, vec enc_Gref04_Item 53 3 v2 r2, vec (encI (.i64)) 3 1 (.slice none 0 0) ([] : List Int)]
     refine TC.loopD (β := Nat × (List Int) × Bool × Int × Value) (fun b => loopG (fun _ _ _ => none) (ref04_Find_s1 j1 r2) b.1 b.2.1 b.2.2.1 b.2.2.2.1 = some r) (fun b => []) (fun b => [(0, .string s1), (2, .int .i64 from1), (6, .pointer (some ⟨b1, 0, none⟩)), (8, .string r1), (10, b.2.2.2.2), (11, .bool b.2.2.1), (35, v2), (36, .int .i64 (r2.length : Int)), (37, .int .i64 b.2.2.2.1)]) (fun b => [cells b1 [.int .i64 0, .int .i64 0] 26, vec (encI (.i64)) 3 1 b.2.2.2.2 b.2.1, vec enc_Gref04_Item 53 3 v2 r2]) (fun b => b.1) (fuel, ([] : List Int), false, 0, (.slice none 0 0)) h rfl (Sbs.cons rfl (Sbs.cons rfl (Sbs.cons rfl (Sbs.cons rfl (Sbs.cons rfl (Sbs.cons rfl (Sbs.cons rfl (Sbs.cons rfl (Sbs.cons rfl (Sbs.nil)))))))))) (Splits.of [0, 2, 1] kr rfl) ?_
     rintro ⟨n1, ends4, own3, x3, v5⟩ h
     cases n1 with
     | zero => exact noneE h
     | succ n1 =>
      obtain ⟨ag1, hag1⟩ : ∃ ag, ag = loopG (fun _ _ _ => none) (ref04_Find_s1 j1 r2) n1 := ⟨_, rfl⟩
      have h : ref04_Find_s1 j1 r2 ag1 ends4 own3 x3 = some r := by rw [hag1]; exact h
      unfold ref04_Find_s1 at h
      show TC _ _ _ _ _ ([]) _ _ [(0, .string s1), (2, .int .i64 from1), (6, .pointer (some ⟨b1, 0, none⟩)), (8, .string r1), (10, v5), (11, .bool own3), (35, v2), (36, .int .i64 (r2.length : Int)), (37, .int .i64 x3)] [cells b1 [.int .i64 0, .int .i64 0] 26, vec (encI (.i64)) 3 1 v5 ends4, vec enc_Gref04_Item 53 3 v2 r2]
      refine TC.seq (TC.region (TO.bin rfl dc rfl rfl bin_lss (TO.nil (TX.next (TC.seq ?_)))))
      refine TC.condB rfl (fun hb4 => ?_) (fun hb4 => ?_)
      ·
       have h := condT hb4 h
       refine TC.skip (TX.next ?_)
       obtain ⟨j2, hj2, h⟩ := joinE h
       refine TC.cutN (β := (List Int) × Bool × Value) 0 rfl (fun b => j2 b.1 b.2.1 = some r) (fun b => []) (fun b => [(0, .string s1), (2, .int .i64 from1), (6, .pointer (some ⟨b1, 0, none⟩)), (8, .string r1), (10, b.2.2), (11, .bool b.2.1), (35, v2), (36, .int .i64 (r2.length : Int)), (37, .int .i64 x3)]) (fun b => [cells b1 [.int .i64 0, .int .i64 0] 26, vec (encI (.i64)) 3 1 b.2.2 b.1, vec enc_Gref04_Item 53 3 v2 r2]) (fun cut => ?_) ?_
       ·
        refine cut (TC.block (TC.seq (TC.region ?_)))
        obtain ⟨q1, hq3, h⟩ := andE h
        refine TO.indexVecI (k := 2) hq3 Try.underlying49 sz_53 rfl dc rfl rfl rfl rfl (TO.loadsVec (i := (x3 : Int).toNat) (j := 0) (k := 2) (q := q1) (cs := [.int .i32 q1.Rune, .string q1.Text, .int .i64 q1.At]) rw_53 enc_Gref04_Item_len rfl dc rfl rfl (getO_get hq3) rfl rfl rfl ?_)
        refine TO.alloc zr_53 rfl dc (fun b2 => ?_)
        refine TO.stores (k := 3) (vs := [.int .i32 q1.Rune, .string q1.Text, .int .i64 q1.At]) (l' := [.int .i32 q1.Rune, .string q1.Text, .int .i64 q1.At]) sz_53 rfl rfl rfl rfl rfl (show _ ≤ _ by simp) rfl rfl ?_
        show TO _ _ _ _ _ _ _ _ _ _ [cells b1 [.int .i64 0, .int .i64 0] 26, vec (encI (.i64)) 3 1 v5 ends4, vec enc_Gref04_Item 53 3 v2 r2, cells b2 [.int .i32 q1.Rune, .string q1.Text, .int .i64 q1.At] 53]
        refine TO.nil (TX.next (TC.seq (TC.region (TO.move rfl dc rfl (TO.un rfl dc rfl un_not (TO.move rfl dc rfl ?_))))))
        refine TO.split (s := 43) rfl (fun hb5 => ?_) (fun hb5 => ?_)
        ·
         have h := condT hb5 h
         refine TO.skip rfl dc (TO.skip rfl dc (TO.skip rfl dc (TO.pick (b := true) rfl dc rfl rfl (TO.nil (TX.next (TC.condT rfl (TC.seq (TC.region (TO.move rfl dc rfl (TO.fieldAddr fl_53_2 rfl dc rfl (show _ = 2 from rfl) (TO.load (k := 3) sc_3 rfl dc rfl rfl rfl ?_)))))))))))
         refine TO.buildSlice (cs := [.int .i64 q1.At]) (te := 3) (ps := [(0, .tmp 50)]) rfl dc rfl (fun _ => by kernel_rfl) (fun b3 => ?_)
         obtain ⟨hg1, h⟩ := grdE h
         refine TO.appendVec (k := 1) (k2 := 4) (ys := [q1.At]) Try.underlying51 el_3 encI_len encI_one rfl dc rfl rfl rfl rfl rfl rfl hg1 (fun v7 => ?_)
         show TO _ _ _ _ _ _ _ _ _ _ [cells b1 [.int .i64 0, .int .i64 0] 26, vec (encI (.i64)) 3 1 v7 (ends4 ++ [q1.At]), vec enc_Gref04_Item 53 3 v2 r2, cells b2 [.int .i32 q1.Rune, .string q1.Text, .int .i64 q1.At] 53, cells b3 [.int .i64 q1.At] 3]
         refine TO.assign rfl dc rfl (TO.nil (TX.next (TC.region (TO.loads (k := 3) (cs := [.int .i32 q1.Rune, .string q1.Text, .int .i64 q1.At]) rw_53 rfl dc rfl rfl rfl rfl ?_))))
         obtain ⟨r3, hq4, h⟩ := andE h
         refine TO.callP (v := .bool r3) (vs := [.agg #[.int .i32 q1.Rune, .string q1.Text, .int .i64 q1.At]]) rfl dc rfl rfl rfl en_30 (ref04_Item_letter_fn (x1 := q1) hq4) (TO.assign rfl dc rfl (TO.nil (TX.blockNormal ?_)))
         exact TX.meetD (ends4 ++ [q1.At], r3, v7) h rfl (Sbs.cons rfl (Sbs.cons rfl (Sbs.cons rfl (Sbs.cons rfl (Sbs.cons rfl (Sbs.cons rfl (Sbs.cons rfl (Sbs.cons rfl (Sbs.cons rfl (Sbs.nil)))))))))) (Splits.of [0, 1, 2] kr rfl)
        ·
         have h := condF hb5 h
         refine TO.loads (k := 3) (cs := [.int .i32 q1.Rune, .string q1.Text, .int .i64 q1.At]) rw_53 rfl dc rfl rfl rfl rfl ?_
         obtain ⟨r4, hq5, h⟩ := andE h
         refine TO.callP (v := .bool r4) (vs := [.agg #[.int .i32 q1.Rune, .string q1.Text, .int .i64 q1.At]]) rfl dc rfl rfl rfl en_29 (ref04_Item_mark_fn (x1 := q1) hq5) (TO.un rfl dc rfl un_not (TO.pick (b := false) rfl dc rfl rfl (TO.nil (TX.next ?_))))
         refine TC.condB rfl (fun hb6 => ?_) (fun hb6 => ?_)
         ·
          have h := condT hb6 h
          refine TC.seq (TC.region (TO.move rfl dc rfl (TO.fieldAddr fl_53_2 rfl dc rfl (show _ = 2 from rfl) (TO.load (k := 3) sc_3 rfl dc rfl rfl rfl ?_))))
          refine TO.buildSlice (cs := [.int .i64 q1.At]) (te := 3) (ps := [(0, .tmp 50)]) rfl dc rfl (fun _ => by kernel_rfl) (fun b4 => ?_)
          obtain ⟨hg2, h⟩ := grdE h
          refine TO.appendVec (k := 1) (k2 := 4) (ys := [q1.At]) Try.underlying51 el_3 encI_len encI_one rfl dc rfl rfl rfl rfl rfl rfl hg2 (fun v8 => ?_)
          show TO _ _ _ _ _ _ _ _ _ _ [cells b1 [.int .i64 0, .int .i64 0] 26, vec (encI (.i64)) 3 1 v8 (ends4 ++ [q1.At]), vec enc_Gref04_Item 53 3 v2 r2, cells b2 [.int .i32 q1.Rune, .string q1.Text, .int .i64 q1.At] 53, cells b4 [.int .i64 q1.At] 3]
          refine TO.assign rfl dc rfl (TO.nil (TX.next (TC.region (TO.loads (k := 3) (cs := [.int .i32 q1.Rune, .string q1.Text, .int .i64 q1.At]) rw_53 rfl dc rfl rfl rfl rfl ?_))))
          obtain ⟨r5, hq6, h⟩ := andE h
          refine TO.callP (v := .bool r5) (vs := [.agg #[.int .i32 q1.Rune, .string q1.Text, .int .i64 q1.At]]) rfl dc rfl rfl rfl en_30 (ref04_Item_letter_fn (x1 := q1) hq6) (TO.assign rfl dc rfl (TO.nil (TX.blockNormal ?_)))
          exact TX.meetD (ends4 ++ [q1.At], r5, v8) h rfl (Sbs.cons rfl (Sbs.cons rfl (Sbs.cons rfl (Sbs.cons rfl (Sbs.cons rfl (Sbs.cons rfl (Sbs.cons rfl (Sbs.cons rfl (Sbs.cons rfl (Sbs.nil)))))))))) (Splits.of [0, 1, 2] kr rfl)
         ·
          have h := condF hb6 h
          refine TC.skip (TX.blockNormal ?_)
          exact TX.meetD (ends4, own3, v5) h rfl (Sbs.cons rfl (Sbs.cons rfl (Sbs.cons rfl (Sbs.cons rfl (Sbs.cons rfl (Sbs.cons rfl (Sbs.cons rfl (Sbs.cons rfl (Sbs.cons rfl (Sbs.nil)))))))))) (Splits.of [0, 1, 2] kr rfl)
       ·
        rintro ⟨ends5, own4, v6⟩ h
        rw [hj2] at h
        show TC _ _ _ _ _ ([]) _ _ [(0, .string s1), (2, .int .i64 from1), (6, .pointer (some ⟨b1, 0, none⟩)), (8, .string r1), (10, v6), (11, .bool own4), (35, v2), (36, .int .i64 (r2.length : Int)), (37, .int .i64 x3)] [cells b1 [.int .i64 0, .int .i64 0] 26, vec (encI (.i64)) 3 1 v6 ends5, vec enc_Gref04_Item 53 3 v2 r2]
        refine TC.region ?_
        obtain ⟨hg3, h⟩ := grdE h
        refine TO.bin rfl dc rfl rfl (bin_add (r := x3 + 1) (IntWalk.i64_in _ hg3)) (TO.move rfl dc rfl (TO.nil ?_))
        subst hag1
        exact TX.againD (n1, ends5, own4, x3 + 1, v6) h (Nat.lt_succ_self _) rfl (Sbs.cons rfl (Sbs.cons rfl (Sbs.cons rfl (Sbs.cons rfl (Sbs.cons rfl (Sbs.cons rfl (Sbs.cons rfl (Sbs.cons rfl (Sbs.cons rfl (Sbs.nil)))))))))) (Splits.of [0, 1, 2] kr rfl)
      ·
       have h := condF hb4 h
       refine TC.exit (TX.thenExit (TX.thenExit (TX.blockHere ?_)))
       exact TX.meetD (ends4, v5) h rfl (Sbs.cons rfl (Sbs.cons rfl (Sbs.cons rfl (Sbs.cons rfl (Sbs.cons rfl (Sbs.nil)))))) (Splits.of [0, 1] kr rfl)
    ·
     rintro ⟨ends1, v1⟩ h
     rw [hj1] at h
     show TC _ _ _ _ _ ([]) _ _ [(0, .string s1), (2, .int .i64 from1), (6, .pointer (some ⟨b1, 0, none⟩)), (8, .string r1), (10, v1)] [cells b1 [.int .i64 0, .int .i64 0] 26, vec (encI (.i64)) 3 1 v1 ends1]
     obtain ⟨j3, hj3, h⟩ := joinE h
     refine TC.cutN (β := Unit) 1 rfl (fun b => j3 = some r) (fun b => []) (fun b => [(6, .pointer (some ⟨b1, 0, none⟩))]) (fun b => [cells b1 [.int .i64 0, .int .i64 0] 26]) (fun cut => ?_) ?_
     ·
      refine TC.seq (TC.region (TO.move rfl dc rfl (TO.move rfl dc rfl (TO.lenStr rfl dc rfl Try.underlying9 ?_))))
      refine TO.buildSlice (cs := [.int .i64 (s1.size : Int)]) (te := 3) (ps := [(0, .tmp 58)]) rfl dc rfl (fun _ => by kernel_rfl) (fun b5 => ?_)
      obtain ⟨hg4, h⟩ := grdE h
      refine TO.appendVec (k := 1) (k2 := 2) (ys := [(s1.size : Int)]) Try.underlying51 el_3 encI_len encI_one rfl dc rfl rfl rfl rfl rfl rfl hg4 (fun v9 => ?_)
      show TO _ _ _ _ _ _ _ _ _ _ [cells b1 [.int .i64 0, .int .i64 0] 26, vec (encI (.i64)) 3 1 v9 (ends1 ++ [(s1.size : Int)]), cells b5 [.int .i64 (s1.size : Int)] 3]
      refine TO.assign rfl dc rfl (TO.nil (TX.next (cut (TC.seq (TC.region (TO.move rfl dc rfl (TO.lenVec (k := 1) rfl dc rfl rfl Try.underlying51 (TO.move rfl dc rfl (TO.nil (TX.next (TC.block ?_)))))))))))
      refine TC.loopD (β := Nat × Int) (fun b => loopG (fun _ => none) (ref04_Find_s2 s1 from1 r1 ends1 j3) b.1 b.2 = some r) (fun b => []) (fun b => [(0, .string s1), (2, .int .i64 from1), (6, .pointer (some ⟨b1, 0, none⟩)), (8, .string r1), (10, v9), (61, v9), (62, .int .i64 ((ends1 ++ [(s1.size : Int)]).length : Int)), (63, .int .i64 b.2)]) (fun b => [cells b1 [.int .i64 0, .int .i64 0] 26, vec (encI (.i64)) 3 1 v9 (ends1 ++ [(s1.size : Int)])]) (fun b => b.1) (fuel, 0) h rfl (Sbs.cons rfl (Sbs.cons rfl (Sbs.cons rfl (Sbs.cons rfl (Sbs.cons rfl (Sbs.cons rfl (Sbs.cons rfl (Sbs.cons rfl (Sbs.nil))))))))) (Splits.of [0, 1] kr rfl) ?_
      rintro ⟨n2, x6⟩ h
      cases n2 with
      | zero => exact noneE h
      | succ n2 =>
       obtain ⟨ag2, hag2⟩ : ∃ ag, ag = loopG (fun _ => none) (ref04_Find_s2 s1 from1 r1 ends1 j3) n2 := ⟨_, rfl⟩
       have h : ref04_Find_s2 s1 from1 r1 ends1 j3 ag2 x6 = some r := by rw [hag2]; exact h
       unfold ref04_Find_s2 at h
       show TC _ _ _ _ _ ([]) _ _ [(0, .string s1), (2, .int .i64 from1), (6, .pointer (some ⟨b1, 0, none⟩)), (8, .string r1), (10, v9), (61, v9), (62, .int .i64 ((ends1 ++ [(s1.size : Int)]).length : Int)), (63, .int .i64 x6)] [cells b1 [.int .i64 0, .int .i64 0] 26, vec (encI (.i64)) 3 1 v9 (ends1 ++ [(s1.size : Int)])]
       refine TC.seq (TC.region (TO.bin rfl dc rfl rfl bin_lss (TO.nil (TX.next (TC.seq ?_)))))
       refine TC.condB rfl (fun hb7 => ?_) (fun hb7 => ?_)
       ·
        have h := condT hb7 h
        refine TC.skip (TX.next ?_)
        obtain ⟨j4, hj4, h⟩ := joinE h
        refine TC.cutN (β := Unit) 0 rfl (fun b => j4 = some r) (fun b => []) (fun b => [(0, .string s1), (2, .int .i64 from1), (6, .pointer (some ⟨b1, 0, none⟩)), (8, .string r1), (10, v9), (61, v9), (62, .int .i64 ((ends1 ++ [(s1.size : Int)]).length : Int)), (63, .int .i64 x6)]) (fun b => [cells b1 [.int .i64 0, .int .i64 0] 26, vec (encI (.i64)) 3 1 v9 (ends1 ++ [(s1.size : Int)])]) (fun cut => ?_) ?_
        ·
         refine cut (TC.block (TC.seq (TC.region (TO.move rfl dc rfl ?_))))
         obtain ⟨q2, hq7, h⟩ := andE h
         refine TO.indexVecI (k := 1) hq7 Try.underlying51 sz_3 rfl dc rfl rfl rfl rfl (TO.loadVec (i := (x6 : Int).toNat) (j := 0) (k := 1) (q := q2) sc_3 encI_len rfl dc rfl rfl (getO_get hq7) rfl dc rfl (TO.assign rfl dc rfl (TO.assign rfl dc rfl (TO.nil (TX.next (TC.seq (TC.region (TO.move rfl dc rfl (TO.move rfl dc rfl ?_)))))))))
         refine TO.vecVw (k := 1) rfl (fun hw1 => ?_)
         obtain ⟨hg5, h⟩ := grdE h
         obtain ⟨v10, hv1, hs1⟩ := slice_Vw (lo := some (.int .i64 x6)) (hi := none) hw1 Try.underlying51 sz_3 (.inr rfl) (.inl ⟨rfl, rfl⟩) hg5
         refine TO.slice rfl dc rfl rfl rfl hs1 (TO.lenVw hv1 rfl dc rfl Try.underlying51 (TO.move rfl dc rfl (TO.nil (TX.next (TC.block ?_)))))
         refine TC.loopD (β := Nat × Int) (fun b => loopG (fun _ => none) (ref04_Find_s3 s1 from1 r1 ends1 x6 j4 q2) b.1 b.2 = some r) (fun b => []) (fun b => [(0, .string s1), (2, .int .i64 from1), (6, .pointer (some ⟨b1, 0, none⟩)), (8, .string r1), (10, v9), (15, .int .i64 q2), (61, v9), (62, .int .i64 ((ends1 ++ [(s1.size : Int)]).length : Int)), (63, .int .i64 x6), (70, v10), (71, .int .i64 ((cutL (ends1 ++ [(s1.size : Int)]) x6 ((ends1 ++ [(s1.size : Int)]).length : Int)).length : Int)), (72, .int .i64 b.2)]) (fun b => [cells b1 [.int .i64 0, .int .i64 0] 26, vec (encI (.i64)) 3 1 v9 (ends1 ++ [(s1.size : Int)])]) (fun b => b.1) (fuel, 0) h rfl (Sbs.cons rfl (Sbs.cons rfl (Sbs.cons rfl (Sbs.cons rfl (Sbs.cons rfl (Sbs.cons rfl (Sbs.cons rfl (Sbs.cons rfl (Sbs.cons rfl (Sbs.cons rfl (Sbs.cons rfl (Sbs.cons rfl (Sbs.nil))))))))))))) (Splits.of [0, 1] kr rfl) ?_
         rintro ⟨n3, x9⟩ h
         cases n3 with
         | zero => exact noneE h
         | succ n3 =>
          obtain ⟨ag3, hag3⟩ : ∃ ag, ag = loopG (fun _ => none) (ref04_Find_s3 s1 from1 r1 ends1 x6 j4 q2) n3 := ⟨_, rfl⟩
          have h : ref04_Find_s3 s1 from1 r1 ends1 x6 j4 q2 ag3 x9 = some r := by rw [hag3]; exact h
          unfold ref04_Find_s3 at h
          show TC _ _ _ _ _ ([]) _ _ [(0, .string s1), (2, .int .i64 from1), (6, .pointer (some ⟨b1, 0, none⟩)), (8, .string r1), (10, v9), (15, .int .i64 q2), (61, v9), (62, .int .i64 ((ends1 ++ [(s1.size : Int)]).length : Int)), (63, .int .i64 x6), (70, v10), (71, .int .i64 ((cutL (ends1 ++ [(s1.size : Int)]) x6 ((ends1 ++ [(s1.size : Int)]).length : Int)).length : Int)), (72, .int .i64 x9)] [cells b1 [.int .i64 0, .int .i64 0] 26, vec (encI (.i64)) 3 1 v9 (ends1 ++ [(s1.size : Int)])]
          refine TC.seq (TC.region (TO.bin rfl dc rfl rfl bin_lss (TO.nil (TX.next (TC.seq ?_)))))
          refine TC.condB rfl (fun hb8 => ?_) (fun hb8 => ?_)
          ·
           have h := condT hb8 h
           refine TC.skip (TX.next ?_)
           obtain ⟨j5, hj5, h⟩ := joinE h
           refine TC.cutN (β := Unit) 0 rfl (fun b => j5 = some r) (fun b => []) (fun b => [(0, .string s1), (2, .int .i64 from1), (6, .pointer (some ⟨b1, 0, none⟩)), (8, .string r1), (10, v9), (15, .int .i64 q2), (61, v9), (62, .int .i64 ((ends1 ++ [(s1.size : Int)]).length : Int)), (63, .int .i64 x6), (70, v10), (71, .int .i64 ((cutL (ends1 ++ [(s1.size : Int)]) x6 ((ends1 ++ [(s1.size : Int)]).length : Int)).length : Int)), (72, .int .i64 x9)]) (fun b => [cells b1 [.int .i64 0, .int .i64 0] 26, vec (encI (.i64)) 3 1 v9 (ends1 ++ [(s1.size : Int)])]) (fun cut => ?_) ?_
           ·
            refine cut (TC.block (TC.seq (TC.region ?_)))
            obtain ⟨q3, hq8, h⟩ := andE h
            refine TO.indexVw hv1 hq8 Try.underlying51 sz_3 rfl dc rfl rfl rfl (TO.loadVec (i := 0 + (x6 : Int).toNat + (x9 : Int).toNat) (j := 0) (k := 1) (q := q3) sc_3 encI_len rfl dc rfl rfl (Vw.get hv1 hq8) rfl dc rfl (TO.assign rfl dc rfl (TO.nil (TX.next (TC.seq (TC.region (TO.move rfl dc rfl (TO.move rfl dc rfl (TO.bin rfl dc rfl rfl bin_geq (TO.move rfl dc rfl ?_))))))))))
            refine TO.split (s := 79) rfl (fun hb9 => ?_) (fun hb9 => ?_)
            ·
             have h := condT hb9 h
             refine TO.move rfl dc rfl (TO.move rfl dc rfl (TO.move rfl dc rfl ?_))
             obtain ⟨hg6, h⟩ := grdE h
             refine TO.slice rfl dc rfl rfl rfl (slice_stringI (i := q2) (j := q3) Try.underlying9 (.inr rfl) (.inr rfl) hg6) ?_
             obtain ⟨r6, hq9, h⟩ := andE h
             refine TO.callP (v := .string r6) (vs := [.string (cutB s1 q2 q3)]) rfl dc rfl rfl rfl en_27 (ref04_Fold_fn hq9) (TO.move rfl dc rfl (TO.bin rfl dc rfl rfl bin_seql (TO.pick (b := true) rfl dc rfl rfl (TO.nil (TX.next ?_)))))
             refine TC.condB rfl (fun hb10 => ?_) (fun hb10 => ?_)
             ·
              have h := condT hb10 h
              refine TC.seq (TC.region (TO.move rfl dc rfl (TO.move rfl dc rfl ?_)))
              refine TO.build (v := .agg #[.int .i64 q2, .int .i64 q3]) (ps := [(0, .tmp 88), (1, .tmp 89)]) rfl dc rfl (fun _ => by kernel_rfl) ?_
              refine TO.stores (k := 0) (vs := [.int .i64 q2, .int .i64 q3]) (l' := [.int .i64 q2, .int .i64 q3]) sz_26 rfl rfl rfl rfl rfl (show _ ≤ _ by simp) rfl rfl (TO.assign rfl dc rfl (TO.nil (TX.next (TC.ret (TX.blockRet (TX.thenRet (TX.thenRet (TX.blockRet (TX.blockRet (TX.thenRet (TX.thenRet (TX.blockRet (TX.thenRet ?_)))))))))))))
              cases h
              exact TX.fin (rs := [.cell 6 26, .tmp 7]) () (.inl rfl) Try.results9 (.cons (.cells rw_26 (k := 0) rfl rfl rfl) (.cons (.tmp rfl) .nil)) rfl Splits.nil
             ·
              have h := condF hb10 h
              refine TC.skip (TX.blockNormal ?_)
              exact TX.meetD () h rfl (Sbs.cons rfl (Sbs.cons rfl (Sbs.cons rfl (Sbs.cons rfl (Sbs.cons rfl (Sbs.cons rfl (Sbs.cons rfl (Sbs.cons rfl (Sbs.cons rfl (Sbs.cons rfl (Sbs.cons rfl (Sbs.cons rfl (Sbs.nil))))))))))))) (Splits.of [0, 1] kr rfl)
            ·
             have h := condF hb9 h
             refine TO.skip rfl dc (TO.skip rfl dc (TO.skip rfl dc (TO.skip rfl dc (TO.skip rfl dc (TO.skip rfl dc (TO.skip rfl dc (TO.pick (b := false) rfl dc rfl rfl (TO.nil (TX.next (TC.condF rfl (TC.skip (TX.blockNormal ?_))))))))))))
             exact TX.meetD () h rfl (Sbs.cons rfl (Sbs.cons rfl (Sbs.cons rfl (Sbs.cons rfl (Sbs.cons rfl (Sbs.cons rfl (Sbs.cons rfl (Sbs.cons rfl (Sbs.cons rfl (Sbs.cons rfl (Sbs.cons rfl (Sbs.cons rfl (Sbs.nil))))))))))))) (Splits.of [0, 1] kr rfl)
           ·
            rintro _ h
            rw [hj5] at h
            show TC _ _ _ _ _ ([]) _ _ [(0, .string s1), (2, .int .i64 from1), (6, .pointer (some ⟨b1, 0, none⟩)), (8, .string r1), (10, v9), (15, .int .i64 q2), (61, v9), (62, .int .i64 ((ends1 ++ [(s1.size : Int)]).length : Int)), (63, .int .i64 x6), (70, v10), (71, .int .i64 ((cutL (ends1 ++ [(s1.size : Int)]) x6 ((ends1 ++ [(s1.size : Int)]).length : Int)).length : Int)), (72, .int .i64 x9)] [cells b1 [.int .i64 0, .int .i64 0] 26, vec (encI (.i64)) 3 1 v9 (ends1 ++ [(s1.size : Int)])]
            refine TC.region ?_
            obtain ⟨hg7, h⟩ := grdE h
            refine TO.bin rfl dc rfl rfl (bin_add (r := x9 + 1) (IntWalk.i64_in _ hg7)) (TO.move rfl dc rfl (TO.nil ?_))
            subst hag3
            exact TX.againD (n3, x9 + 1) h (Nat.lt_succ_self _) rfl (Sbs.cons rfl (Sbs.cons rfl (Sbs.cons rfl (Sbs.cons rfl (Sbs.cons rfl (Sbs.cons rfl (Sbs.cons rfl (Sbs.cons rfl (Sbs.cons rfl (Sbs.cons rfl (Sbs.cons rfl (Sbs.cons rfl (Sbs.nil))))))))))))) (Splits.of [0, 1] kr rfl)
          ·
           have h := condF hb8 h
           refine TC.exit (TX.thenExit (TX.thenExit (TX.blockHere (TX.blockNormal ?_))))
           exact TX.meetD () h rfl (Sbs.cons rfl (Sbs.cons rfl (Sbs.cons rfl (Sbs.cons rfl (Sbs.cons rfl (Sbs.cons rfl (Sbs.cons rfl (Sbs.cons rfl (Sbs.nil))))))))) (Splits.of [0, 1] kr rfl)
        ·
         rintro _ h
         rw [hj4] at h
         show TC _ _ _ _ _ ([]) _ _ [(0, .string s1), (2, .int .i64 from1), (6, .pointer (some ⟨b1, 0, none⟩)), (8, .string r1), (10, v9), (61, v9), (62, .int .i64 ((ends1 ++ [(s1.size : Int)]).length : Int)), (63, .int .i64 x6)] [cells b1 [.int .i64 0, .int .i64 0] 26, vec (encI (.i64)) 3 1 v9 (ends1 ++ [(s1.size : Int)])]
         refine TC.region ?_
         obtain ⟨hg8, h⟩ := grdE h
         refine TO.bin rfl dc rfl rfl (bin_add (r := x6 + 1) (IntWalk.i64_in _ hg8)) (TO.move rfl dc rfl (TO.nil ?_))
         subst hag2
         exact TX.againD (n2, x6 + 1) h (Nat.lt_succ_self _) rfl (Sbs.cons rfl (Sbs.cons rfl (Sbs.cons rfl (Sbs.cons rfl (Sbs.cons rfl (Sbs.cons rfl (Sbs.cons rfl (Sbs.cons rfl (Sbs.nil))))))))) (Splits.of [0, 1] kr rfl)
       ·
        have h := condF hb7 h
        refine TC.exit (TX.thenExit (TX.thenExit (TX.blockHere ?_)))
        exact TX.meetD () h rfl (Sbs.cons rfl (Sbs.nil)) (Splits.of [0] kr rfl)
     ·
      rintro _ h
      rw [hj3] at h
      show TC _ _ _ _ _ ([]) _ _ [(6, .pointer (some ⟨b1, 0, none⟩))] [cells b1 [.int .i64 0, .int .i64 0] 26]
      refine TC.seq (TC.region ?_)
      refine TO.build (v := .agg #[.int .i64 0, .int .i64 0]) (ps := []) rfl dc rfl (fun _ => by kernel_rfl) ?_
      refine TO.stores (k := 0) (vs := [.int .i64 0, .int .i64 0]) (l' := [.int .i64 0, .int .i64 0]) sz_26 rfl rfl rfl rfl rfl (show _ ≤ _ by simp) rfl rfl (TO.assign rfl dc rfl (TO.nil (TX.next (TC.ret ?_))))
      cases h
      exact TX.fin (rs := [.cell 6 26, .tmp 7]) () (.inl rfl) Try.results9 (.cons (.cells rw_26 (k := 0) rfl rfl rfl) (.cons (.tmp rfl) .nil)) rfl Splits.nil
end Go.Proofs.Ytlamcpgnmeileaa
namespace Go.Proofs.Ytlamcpgnmeileaa
open Go.RowKit Go.Lib
set_option linter.unusedVariables false
set_option linter.unusedSimpArgs false
theorem ba_eq {a b : ByteArray} (h : a.data.toList = b.data.toList) : a = b := ByteArray.ext (Array.toList_inj.1 h)
theorem ba_app (a b : ByteArray) : (a ++ b).data.toList = a.data.toList ++ b.data.toList := by simp
theorem app_cancel {a b c : ByteArray} (h : a ++ b = a ++ c) : b = c := by
  have := congrArg (fun x : ByteArray => x.data.toList) h
  simp only [ba_app] at this
  exact ba_eq (List.append_cancel_left this)
theorem cut_to (r : ByteArray) (n : Nat) : (cutB r 0 (n : Int)).data.toList = r.data.toList.take n := by
  have := cutB_list r 0 n; simpa using this
theorem cut_from (r : ByteArray) (n : Nat) (h : n ≤ r.size) : (cutB r (n : Int) (r.size : Int)).data.toList = r.data.toList.drop n := by
  have := cutB_list r n (r.size - n)
  rw [show ((n : Nat) : Int) + ((r.size - n : Nat) : Int) = (r.size : Int) by omega] at this
  rw [this, List.take_of_length_le (by rw [List.length_drop, size_listN]; omega)]
theorem cut_split (r : ByteArray) (n : Nat) (h : n ≤ r.size) : r = cutB r 0 (n : Int) ++ cutB r (n : Int) (r.size : Int) := by
  apply ba_eq; rw [ba_app, cut_to, cut_from r n h, List.take_append_drop]
theorem cut_pre (x b : ByteArray) : cutB (x ++ b) 0 (x.size : Int) = x := by
  apply ba_eq; rw [cut_to, ba_app, ← size_listN, List.take_left]
theorem cut_post (x b : ByteArray) : cutB (x ++ b) (x.size : Int) ((x ++ b).size : Int) = b := by
  apply ba_eq; rw [cut_from _ _ (by rw [ByteArray.size_append]; omega), ba_app, ← size_listN, List.drop_left]
theorem cutL_from {α : Type} (l : List α) (k : Nat) (h : k ≤ l.length) : cutL l (k : Int) (l.length : Int) = l.drop k := by
  unfold cutL
  rw [Int.toNat_natCast, Int.toNat_natCast, List.take_of_length_le (by rw [List.length_drop]; omega)]
/-! ### The program -/
theorem one_v (c : Clu) (h : okT c.1) : fold_written_plain_v [toU c] = some (foldC c) := by
  obtain ⟨h1, h2, h3, h4⟩ := wr_foldC c h
  have hw := wr_plain plU [toU c] (by simp) (fun v hv => by simp at hv; subst hv; exact h4)
  rw [J_cons, J_nil, ByteArray.append_empty, h1] at hw
  exact hw
def fRes (a z : Int) (j : Option (Gapi_Span × Bool)) : Option (List Clu) → Option (Gapi_Span × Bool)
  | some r => some (⟨a, endAt r z⟩, true)
  | none => j
theorem find_in (s want : ByteArray) (hs : s.size ≤ 65536) (k : Nat) (hk : k < (clus s).length) (j : Option (Gapi_Span × Bool)) (x4 : Gfold_unit) :
    ∀ (n m : Nat) (acc rest : ByteArray), k + m ≤ (clus s).length → (clus s).length - (k + m) < n → acc ++ rest = want →
      loopG (fun _ _ => none) (fold_Find_s2 s ((clus s).map toU) (k : Int) j x4) n rest (m : Int) = fRes x4.at_ (s.size : Int) j (hitF want acc ((clus s).drop (k + m))) := by
  obtain ⟨hl, hc⟩ := clus_ok hs
  have hcut : cutL ((clus s).map toU) (k : Int) (((clus s).map toU).length : Int) = ((clus s).drop k).map toU := by
    rw [cutL_from _ _ (by rw [List.length_map]; omega), List.map_drop]
  intro n
  induction n with
  | zero => intro m acc rest _ h; omega
  | succ n ih =>
    intro m acc rest hm hn hw
    rw [loopI]
    generalize loopG (fun _ _ => none) (fold_Find_s2 s ((clus s).map toU) (k : Int) j x4) n = ag at ih ⊢
    unfold fold_Find_s2
    rw [hcut]
    by_cases h : k + m < (clus s).length
    · have hx : (clus s)[k + m]? = some (clus s)[k + m] := List.getElem?_eq_getElem h
      have hx' : (((clus s).drop k).map toU)[m]? = some (toU (clus s)[k + m]) := by
        rw [List.getElem?_map, List.getElem?_drop, hx]; rfl
      have hmem := List.mem_of_getElem? hx
      rw [List.drop_eq_getElem_cons h]
      generalize (clus s)[k + m] = c at hx hx' hmem
      obtain ⟨h1, _⟩ := hc c hmem
      refine condTI (lp_lt hx') (thenI (lp_get hx') (thenI (one_v c h1) ?_))
      have off : (∀ b : ByteArray, foldC c ++ b ≠ rest) → j = fRes x4.at_ (s.size : Int) j (hitF want acc (c :: (clus s).drop (k + m + 1))) := by
        intro ho
        have e1 : ∀ b : ByteArray, acc ++ foldC c ++ b ≠ want := fun b e => by
          rw [← hw, ByteArray.append_assoc] at e
          exact ho b (app_cancel e)
        have e2 : hitF want acc (c :: (clus s).drop (k + m + 1)) = none := by
          unfold hitF
          rw [if_neg (fun e => e1 ByteArray.empty (by rw [ByteArray.append_empty]; exact e)), hitF_off e1]
        rw [e2]; rfl
      by_cases h2 : rest.size < (foldC c).size
      · refine condTI (decide_eq_true (by omega)) (off fun b e => ?_)
        rw [← e, ByteArray.size_append] at h2; omega
      · refine condFI (decide_eq_false (by omega)) (grdI ⟨by omega, by omega, by omega⟩ ?_)
        by_cases h3 : cutB rest 0 ((foldC c).size : Int) = foldC c
        · refine condFI (by rw [decide_eq_true h3]; rfl) (grdI ⟨by omega, by omega, by omega⟩ ?_)
          have hsp : foldC c ++ cutB rest ((foldC c).size : Int) (rest.size : Int) = rest := by
            have := cut_split rest (foldC c).size (by omega)
            rw [h3] at this; exact this.symm
          generalize cutB rest ((foldC c).size : Int) (rest.size : Int) = rest' at hsp
          by_cases h4 : rest' = (⟨#[]⟩ : ByteArray)
          · have e : acc ++ foldC c = want := by rw [← hw, ← hsp, h4]; show _ = acc ++ (foldC c ++ ByteArray.empty); rw [ByteArray.append_empty]
            refine condTI (decide_eq_true h4) ?_
            unfold hitF
            rw [if_pos e]
            refine joinI ?_
            have hlen : ((clus s).map toU).length = (clus s).length := List.length_map ..
            refine grdI ⟨by omega, by omega⟩ (grdI ⟨by omega, by omega⟩ ?_)
            rw [hlen]
            by_cases h5 : k + m + 1 < (clus s).length
            · have hy : (clus s)[k + m + 1]? = some (clus s)[k + m + 1] := List.getElem?_eq_getElem h5
              refine condTI (decide_eq_true (by omega)) (grdI ⟨by omega, by omega⟩ (grdI ⟨by omega, by omega⟩ (thenI (getO_of (n := k + m + 1) (by omega) (q := toU (clus s)[k + m + 1]) (by rw [List.getElem?_map, hy]; rfl)) ?_)))
              rw [List.drop_eq_getElem_cons h5]
              have : (toU (clus s)[k + m + 1]).at_ = (clus s)[k + m + 1].1.At := by unfold toU; split <;> rfl
              rw [this]; rfl
            · refine condFI (decide_eq_false (by omega)) ?_
              rw [List.drop_eq_nil_of_le (by omega)]; rfl
          · have e : acc ++ foldC c ≠ want := fun e => h4 (by
              rw [← hsp, ← ByteArray.append_assoc, e] at hw
              exact app_cancel (a := want) (by rw [hw]; show want = want ++ ByteArray.empty; rw [ByteArray.append_empty]))
            refine condFI (decide_eq_false h4) (grdI ⟨by omega, by omega⟩ ?_)
            have := ih (m + 1) (acc ++ foldC c) rest' (by omega) (by omega) (by rw [ByteArray.append_assoc, hsp]; exact hw)
            rw [show ((m + 1 : Nat) : Int) = (m : Int) + 1 by omega] at this
            rw [this]
            conv => rhs; unfold hitF
            rw [if_neg e]; rfl
        · refine condTI (by rw [decide_eq_false h3]; rfl) (off fun b e => h3 ?_)
          rw [← e, cut_pre]
    · have hge : k + m = (clus s).length := by omega
      refine condFI (decide_eq_false (by rw [List.length_map, List.length_drop]; omega)) ?_
      rw [List.drop_eq_nil_of_le (by omega)]; rfl
def gRes (j : Option (Gapi_Span × Bool)) : Option (Int × Int) → Option (Gapi_Span × Bool)
  | some (a, b) => some (⟨a, b⟩, true)
  | none => j
theorem findF_cons (want : ByteArray) (f z : Int) (c : Clu) (cs : List Clu) : findF want f z (c :: cs) = if c.1.At < f then findF want f z cs else (hitF want ByteArray.empty (c :: cs)).elim (findF want f z cs) (fun r => some (c.1.At, endAt r z)) := by
  rw [findF]
  split
  · rfl
  · cases hitF want ByteArray.empty (c :: cs) <;> rfl
theorem res_step (a z : Int) (j g : Option (Gapi_Span × Bool)) (o : Option (List Clu)) (q : Option (Int × Int)) (h : g = gRes j q) : fRes a z g o = gRes j (o.elim q (fun r => some (a, endAt r z))) := by
  cases o with
  | some r => rfl
  | none => exact h
theorem find_out (s want : ByteArray) (f : Int) (hs : s.size ≤ 65536) (j : Option (Gapi_Span × Bool)) :
    ∀ (n k : Nat), k ≤ (clus s).length → (clus s).length - k < n → loopG (fun _ => none) (fold_Find_s1 s f want j ((clus s).map toU)) n (k : Int) = gRes j (findF want f (s.size : Int) ((clus s).drop k)) := by
  obtain ⟨hl, hc⟩ := clus_ok hs
  intro n
  induction n with
  | zero => intro k _ h; omega
  | succ n ih =>
    intro k hk hn
    rw [loopI]
    generalize loopG (fun _ => none) (fold_Find_s1 s f want j ((clus s).map toU)) n = ag at ih ⊢
    unfold fold_Find_s1
    by_cases h : k < (clus s).length
    · have hx : (clus s)[k]? = some (clus s)[k] := List.getElem?_eq_getElem h
      have hx' : ((clus s).map toU)[k]? = some (toU (clus s)[k]) := by rw [List.getElem?_map, hx]; rfl
      have hd := List.drop_eq_getElem_cons h
      generalize (clus s)[k] = c at hx hx' hd
      have hat : (toU c).at_ = c.1.At := by unfold toU; split <;> rfl
      have hi := ih (k + 1) (by omega) (by omega)
      rw [show ((k + 1 : Nat) : Int) = (k : Int) + 1 by omega] at hi
      refine condTI (lp_lt hx') (joinI (thenI (lp_get hx') ?_))
      rw [hd, findF_cons]
      by_cases h2 : c.1.At < f
      · refine condTI (decide_eq_true (by rw [hat]; exact h2)) ?_
        rw [if_pos h2]; exact grdI ⟨by omega, by omega⟩ hi
      · refine condFI (decide_eq_false (by rw [hat]; exact h2)) (grdI ⟨by omega, by rw [List.length_map]; omega, by omega⟩ ?_)
        rw [if_neg h2]
        have := find_in s want hs k h (grd (I64 ((k : Int) + 1)) (ag ((k : Int) + 1))) (toU c) fuel 0 ByteArray.empty want (by omega) (by have := big_fuel (n := (clus s).length) (by omega); omega) (ByteArray.empty_append ..)
        rw [Nat.add_zero, hd, hat, show ((0 : Nat) : Int) = 0 from rfl] at this
        rw [this]
        exact res_step _ _ j _ _ _ (grdI (lp_i64 (by omega)) hi)
    · refine condFI (decide_eq_false (by rw [List.length_map]; omega)) ?_
      rw [List.drop_eq_nil_of_le (by omega)]; rfl
theorem find_v (s t : ByteArray) (f : Int) (hs : s.size ≤ 65536) (ht : t.size ≤ 65536) : fold_Find_v s t f = some (findS s t f) := by
  unfold fold_Find_v findS
  refine thenI (fold_v t ht) ?_
  by_cases h1 : f < 0
  · rw [if_pos (.inl h1)]; exact condTI (decide_eq_true h1) rfl
  by_cases h2 : (s.size : Int) < f
  · rw [if_pos (.inr (.inl h2))]; exact condFI (decide_eq_false h1) (condTI (decide_eq_true h2) rfl)
  by_cases h3 : foldS t = ByteArray.empty
  · rw [if_pos (.inr (.inr h3))]; exact condFI (decide_eq_false h1) (condFI (decide_eq_false h2) (condTI (decide_eq_true h3) rfl))
  rw [if_neg (by simp [h1, h2, h3])]
  refine condFI (decide_eq_false h1) (condFI (decide_eq_false h2) (condFI (decide_eq_false h3) (joinI (thenI (units_v s hs) ?_))))
  obtain ⟨hl, hc⟩ := clus_ok hs
  have := find_out s (foldS t) f hs (some (⟨0, 0⟩, false)) fuel 0 (Nat.zero_le _) (by have := big_fuel (n := (clus s).length) (by omega); omega)
  rw [List.drop_zero] at this
  refine this.trans ?_
  cases findF (foldS t) f (s.size : Int) (clus s) with
  | some p => rfl
  | none => rfl
/-! ### The reference -/
def endsF : Bool → List Itm → List Int
  | _, [] => []
  | own, x :: xs => if own && isM x then endsF own xs else x.At :: endsF (isL x) xs
theorem endsF_clF : ∀ (xs : List Itm) (d : Clu), (clF (some d) (apL xs)).map (fun c => c.1.At) = d.1.At :: endsF (isL d.1) xs
  | [], d => rfl
  | x :: xs, d => by
    obtain ⟨y, ms, h1, h3, h4, h5, h6, h7⟩ := apI_item x
    have hap : apL (x :: xs) = apI x ++ apL xs := by unfold apL; rw [List.flatMap_cons]
    rw [hap, h1]
    show (if isL d.1 && isM y then clF (some (d.1, d.2 ++ [y])) (ms ++ apL xs) else d :: clF (some (y, [])) (ms ++ apL xs)).map _ = d.1.At :: (if isL d.1 && isM x then endsF (isL d.1) xs else x.At :: endsF (isL x) xs)
    rw [← h5]
    cases hk : (isL d.1 && isM y) with
    | true =>
      have hk' := hk
      rw [Bool.and_eq_true] at hk'
      have hms : ms = [] := h4 (mrk_not_letter (show mrk y.Rune = true from hk'.2))
      rw [hms]
      exact endsF_clF xs (d.1, d.2 ++ [y])
    | false =>
      simp only [Bool.false_eq_true, if_false, List.map_cons]
      rw [clF_own y ms _ h3 h4, endsF_clF xs (y, ms), h6, h7]
theorem ends_clus (s : ByteArray) : endsF false (itemsP s) = (clus s).map (fun c => c.1.At) := by
  unfold clus
  cases itemsP s with
  | nil => rfl
  | cons x xs =>
    obtain ⟨y, ms, h1, h3, h4, h5, h6, h7⟩ := apI_item x
    have hap : apL (x :: xs) = apI x ++ apL xs := by unfold apL; rw [List.flatMap_cons]
    rw [hap, h1]
    show (x.At :: endsF (isL x) xs) = (clF (some (y, [])) (ms ++ apL xs)).map _
    rw [clF_own y ms _ h3 h4, endsF_clF xs (y, ms), h6, h7]
theorem ends_loop (j : List Int → Option (Gapi_Span × Bool)) (l : List Itm) (hl : l.length ≤ 1000000000) (hok : ∀ x ∈ l, I32 x.Rune) :
    ∀ (n k : Nat) (E : List Int) (own : Bool), k ≤ l.length → l.length - k < n → E.length ≤ k → loopG (fun _ _ _ => none) (ref04_Find_s1 j l) n E own (k : Int) = j (E ++ endsF own (l.drop k)) := by
  intro n
  induction n with
  | zero => intro k E own _ h; omega
  | succ n ih =>
    intro k E own hk hn hE
    rw [loopI]
    generalize loopG (fun _ _ _ => none) (ref04_Find_s1 j l) n = ag at ih ⊢
    unfold ref04_Find_s1
    by_cases h : k < l.length
    · have hx : l[k]? = some l[k] := List.getElem?_eq_getElem h
      have hd := List.drop_eq_getElem_cons h
      have hm := List.mem_of_getElem? hx
      generalize l[k] = x at hx hd hm
      refine condTI (lp_lt hx) (joinI (thenI (lp_get hx) ?_))
      rw [hd]
      have go : ∀ (E2 : List Int) (o2 : Bool), E2.length ≤ k + 1 → grd (I64 ((k : Int) + 1)) (ag E2 o2 ((k : Int) + 1)) = j (E2 ++ endsF o2 (l.drop (k + 1))) := fun E2 o2 hE2 => by
        have := ih (k + 1) E2 o2 (by omega) (by omega) hE2
        rw [show ((k + 1 : Nat) : Int) = (k : Int) + 1 by omega] at this
        exact grdI ⟨by omega, by omega⟩ this
      have put : grd (I64 ((k : Int) + 1)) (ag (E ++ [x.At]) (letter x.Rune) ((k : Int) + 1)) = j (E ++ (x.At :: endsF (isL x) (l.drop (k + 1)))) := by
        rw [go (E ++ [x.At]) (letter x.Rune) (by simp; omega), List.append_assoc]; rfl
      unfold endsF
      cases own with
      | false => exact condTI rfl (grdI (by omega) (thenI (iletter_v x (hok x hm)) put))
      | true =>
        refine condFI rfl (thenI (imark_v x) ?_)
        show bcond (!mrk x.Rune) _ _ = j (E ++ (if (true && mrk x.Rune) = true then _ else _))
        cases hmk : mrk x.Rune with
        | false => exact condTI rfl (grdI (by omega) (thenI (iletter_v x (hok x hm)) put))
        | true => exact condFI rfl (go E true (by omega))
    · have : k = l.length := by omega
      subst this
      refine condFI lp_ge ?_
      rw [List.drop_length]
      show j E = j (E ++ [])
      rw [List.append_nil]
theorem endAt_get (C : List Clu) (z : Int) (m : Nat) (h : m ≤ C.length) : (C.map (fun c => c.1.At) ++ [z])[m]? = some (endAt (C.drop m) z) := by
  by_cases h1 : m < C.length
  · rw [List.getElem?_append_left (by rw [List.length_map]; exact h1), List.getElem?_map, List.getElem?_eq_getElem h1, List.drop_eq_getElem_cons h1]; rfl
  · have : m = C.length := by omega
    subst this
    rw [List.getElem?_append_right (by rw [List.length_map]; omega), List.length_map, Nat.sub_self, List.drop_length]; rfl
theorem rfind_in (s want : ByteArray) (f : Int) (hs : s.size ≤ 65536) (i : Nat) (hi : i ≤ (clus s).length) (hf : f ≤ endAt ((clus s).drop i) (s.size : Int)) (j : Option (Gapi_Span × Bool)) :
    ∀ (n m : Nat), i + m ≤ (clus s).length → (clus s).length - (i + m) + 1 < n →
      loopG (fun _ => none) (ref04_Find_s3 s f want ((clus s).map fun c => c.1.At) (i : Int) j (endAt ((clus s).drop i) (s.size : Int))) n ((m : Int) + 1) =
        fRes (endAt ((clus s).drop i) (s.size : Int)) (s.size : Int) j (hitF want (J foldC (((clus s).drop i).take m)) ((clus s).drop (i + m))) := by
  obtain ⟨hl, hc⟩ := clus_ok hs
  have hlen : ((clus s).map (fun c => c.1.At) ++ [(s.size : Int)]).length = (clus s).length + 1 := by simp
  have hcut : cutL ((clus s).map (fun c => c.1.At) ++ [(s.size : Int)]) (i : Int) ((((clus s).map (fun c => c.1.At) ++ [(s.size : Int)]).length : Nat) : Int) = ((clus s).map (fun c => c.1.At) ++ [(s.size : Int)]).drop i := cutL_from _ _ (by omega)
  intro n
  induction n with
  | zero => intro m _ h; omega
  | succ n ih =>
    intro m hm hn
    rw [loopI]
    generalize loopG (fun _ => none) (ref04_Find_s3 s f want ((clus s).map fun c => c.1.At) (i : Int) j (endAt ((clus s).drop i) (s.size : Int))) n = ag at ih ⊢
    unfold ref04_Find_s3
    rw [hcut, List.length_drop, hlen]
    by_cases h : i + m < (clus s).length
    · have hg : (((clus s).map (fun c => c.1.At) ++ [(s.size : Int)]).drop i)[m + 1]? = some (endAt ((clus s).drop (i + (m + 1))) (s.size : Int)) := by
        rw [List.getElem?_drop, endAt_get _ _ _ (by omega)]
      have e1 : clus s = (clus s).take i ++ (((clus s).drop i).take (m + 1) ++ (clus s).drop (i + (m + 1))) := by
        rw [← List.drop_drop, List.take_append_drop, List.take_append_drop]
      obtain ⟨a, b, p1, p2, p3, p4, _, p5, _⟩ := part_v s _ _ _ e1 hs
      have e2 : ((clus s).drop i).take (m + 1) ++ (clus s).drop (i + (m + 1)) = (clus s).drop i := by rw [← List.drop_drop, List.take_append_drop]
      rw [e2] at p1
      have hd := List.drop_eq_getElem_cons h
      have ht : ((clus s).drop i).take (m + 1) = ((clus s).drop i).take m ++ [(clus s)[i + m]] := by
        rw [List.take_add_one, List.getElem?_drop, List.getElem?_eq_getElem h]; rfl
      generalize (clus s)[i + m] = c at hd ht
      rw [ht, J_append, J_cons, J_nil, ByteArray.append_empty] at p5
      refine condTI (decide_eq_true (by omega)) (joinI (thenI (getO_of (n := m + 1) (by omega) hg) (condTI (decide_eq_true hf) ?_)))
      rw [p1, p2]
      refine grdI ⟨by omega, by omega, by omega⟩ (thenI (rfold_v _ (by have := p4; unfold cutB; rw [ByteArray.size_extract]; omega)) ?_)
      rw [p5, hd]
      conv => rhs; unfold hitF
      by_cases h2 : J foldC (((clus s).drop i).take m) ++ foldC c = want
      · rw [if_pos h2]
        refine condTI (decide_eq_true h2) ?_
        show some _ = some _
        rw [show i + m + 1 = i + (m + 1) by omega, p2]
      · rw [if_neg h2]
        refine condFI (decide_eq_false h2) (grdI ⟨by omega, by omega⟩ ?_)
        have := ih (m + 1) (by omega) (by omega)
        rw [show ((m + 1 : Nat) : Int) + 1 = (m : Int) + 1 + 1 by omega, ht, J_append, J_cons, J_nil, ByteArray.append_empty, p1] at this
        rw [show i + m + 1 = i + (m + 1) by omega]
        exact this
    · have : i + m = (clus s).length := by omega
      refine condFI (decide_eq_false (by omega)) ?_
      rw [show (clus s).drop (i + m) = [] from List.drop_eq_nil_of_le (by omega)]; rfl
theorem rfind_row (s want : ByteArray) (f : Int) (hs : s.size ≤ 65536) (hw : want ≠ ByteArray.empty) (i : Nat) (hi : i ≤ (clus s).length) (j : Option (Gapi_Span × Bool)) :
    loopG (fun _ => none) (ref04_Find_s3 s f want ((clus s).map fun c => c.1.At) (i : Int) j (endAt ((clus s).drop i) (s.size : Int))) fuel 0 =
      if endAt ((clus s).drop i) (s.size : Int) < f then j else fRes (endAt ((clus s).drop i) (s.size : Int)) (s.size : Int) j (hitF want ByteArray.empty ((clus s).drop i)) := by
  obtain ⟨hl, hc⟩ := clus_ok hs
  have hlen : ((clus s).map (fun c => c.1.At) ++ [(s.size : Int)]).length = (clus s).length + 1 := by simp
  have hcut : cutL ((clus s).map (fun c => c.1.At) ++ [(s.size : Int)]) (i : Int) ((((clus s).map (fun c => c.1.At) ++ [(s.size : Int)]).length : Nat) : Int) = ((clus s).map (fun c => c.1.At) ++ [(s.size : Int)]).drop i := cutL_from _ _ (by omega)
  by_cases hf : endAt ((clus s).drop i) (s.size : Int) < f
  · rw [if_pos hf]
    have key : ∀ (n m : Nat), i + m ≤ (clus s).length + 1 → (clus s).length + 1 - (i + m) < n → loopG (fun _ => none) (ref04_Find_s3 s f want ((clus s).map fun c => c.1.At) (i : Int) j (endAt ((clus s).drop i) (s.size : Int))) n (m : Int) = j := by
      intro n
      induction n with
      | zero => intro m _ h; omega
      | succ n ih =>
        intro m hm hn
        rw [loopI]
        generalize loopG (fun _ => none) (ref04_Find_s3 s f want ((clus s).map fun c => c.1.At) (i : Int) j (endAt ((clus s).drop i) (s.size : Int))) n = ag at ih ⊢
        unfold ref04_Find_s3
        rw [hcut, List.length_drop, hlen]
        by_cases h : i + m < (clus s).length + 1
        · have hg : (((clus s).map (fun c => c.1.At) ++ [(s.size : Int)]).drop i)[m]? = some (endAt ((clus s).drop (i + m)) (s.size : Int)) := by
            rw [List.getElem?_drop, endAt_get _ _ _ (by omega)]
          refine condTI (decide_eq_true (by omega)) (joinI (thenI (lp_get hg) (condFI (decide_eq_false (by omega)) (grdI ⟨by omega, by omega⟩ ?_))))
          have := ih (m + 1) (by omega) (by omega)
          rwa [show ((m + 1 : Nat) : Int) = (m : Int) + 1 by omega] at this
        · exact condFI (decide_eq_false (by omega)) rfl
    exact key fuel 0 (by omega) (by have := big_fuel (n := (clus s).length + 1) (by omega); omega)
  · rw [if_neg hf]
    have hfu : fuel = 18446744073709551615 + 1 := rfl
    rw [hfu, loopI]
    have hin := rfind_in s want f hs i hi (by omega) j 18446744073709551615 0 (by omega) (by omega)
    rw [List.take_zero, J_nil, Nat.add_zero] at hin
    generalize loopG (fun _ => none) (ref04_Find_s3 s f want ((clus s).map fun c => c.1.At) (i : Int) j (endAt ((clus s).drop i) (s.size : Int))) 18446744073709551615 = ag at hin ⊢
    unfold ref04_Find_s3
    rw [hcut, List.length_drop, hlen]
    have hg : (((clus s).map (fun c => c.1.At) ++ [(s.size : Int)]).drop i)[0]? = some (endAt ((clus s).drop i) (s.size : Int)) := by
      rw [List.getElem?_drop, endAt_get _ _ _ (by omega), Nat.add_zero]
    have e1 : clus s = (clus s).take i ++ ([] ++ (clus s).drop i) := by rw [List.nil_append, List.take_append_drop]
    obtain ⟨a, b, p1, p2, p3, p4, _, p5, _⟩ := part_v s _ _ _ e1 hs
    rw [List.nil_append] at p1
    have hab : a = b := by rw [p1] at p2; omega
    subst hab
    refine condTI (decide_eq_true (by omega)) (joinI (thenI (getO_of (n := 0) rfl hg) (condTI (decide_eq_true (by omega)) ?_)))
    rw [p1]
    refine grdI ⟨by omega, by omega, by omega⟩ (thenI (rfold_v _ (by unfold cutB; rw [ByteArray.size_extract]; omega)) ?_)
    rw [p5, J_nil]
    refine condFI (decide_eq_false (fun e => hw e.symm)) (grdI ⟨by omega, by omega⟩ ?_)
    rw [p1] at hin
    exact hin
theorem rfind_out (s want : ByteArray) (f : Int) (hs : s.size ≤ 65536) (hf : f ≤ (s.size : Int)) (hw : want ≠ ByteArray.empty) (j : Option (Gapi_Span × Bool)) :
    ∀ (n i : Nat), i ≤ (clus s).length → (clus s).length - i + 1 < n → loopG (fun _ => none) (ref04_Find_s2 s f want ((clus s).map fun c => c.1.At) j) n (i : Int) = gRes j (findF want f (s.size : Int) ((clus s).drop i)) := by
  obtain ⟨hl, hc⟩ := clus_ok hs
  have hlen : ((clus s).map (fun c => c.1.At) ++ [(s.size : Int)]).length = (clus s).length + 1 := by simp
  intro n
  induction n with
  | zero => intro i _ h; omega
  | succ n ih =>
    intro i hi hn
    rw [loopI]
    have hend : ∀ m, 0 < m → loopG (fun _ => none) (ref04_Find_s2 s f want ((clus s).map fun c => c.1.At) j) m (((clus s).length : Int) + 1) = j := by
      intro m hm
      obtain ⟨m, rfl⟩ : ∃ q, m = q + 1 := ⟨m - 1, by omega⟩
      rw [loopI]
      generalize loopG (fun _ => none) (ref04_Find_s2 s f want ((clus s).map fun c => c.1.At) j) m = ag
      unfold ref04_Find_s2
      exact condFI (decide_eq_false (by rw [hlen]; omega)) rfl
    have hend' := hend n (by omega)
    generalize loopG (fun _ => none) (ref04_Find_s2 s f want ((clus s).map fun c => c.1.At) j) n = ag at ih hend' ⊢
    unfold ref04_Find_s2
    refine condTI (decide_eq_true (by rw [hlen]; omega)) (joinI (thenI (lp_get (endAt_get _ _ i hi)) (grdI ⟨by omega, by rw [hlen]; omega, by omega⟩ ?_)))
    rw [rfind_row s want f hs hw i hi]
    have hnext : ag ((i : Int) + 1) = gRes j (findF want f (s.size : Int) ((clus s).drop (i + 1))) := by
      by_cases h : i < (clus s).length
      · have := ih (i + 1) (by omega) (by omega)
        rwa [show ((i + 1 : Nat) : Int) = (i : Int) + 1 by omega] at this
      · have e : i = (clus s).length := by omega
        rw [e, hend', List.drop_eq_nil_of_le (by omega)]; rfl
    by_cases h : i < (clus s).length
    · have hd := List.drop_eq_getElem_cons h
      generalize (clus s)[i] = c at hd
      rw [hd]
      show (if c.1.At < f then _ else fRes c.1.At _ _ _) = _
      rw [findF_cons]
      split
      · exact grdI (lp_i64 (by omega)) hnext
      · exact res_step _ _ j _ _ _ (grdI (lp_i64 (by omega)) hnext)
    · have e : (clus s).drop i = [] := List.drop_eq_nil_of_le (by omega)
      have e2 : (clus s).drop (i + 1) = [] := List.drop_eq_nil_of_le (by omega)
      rw [e2, show findF want f (s.size : Int) [] = none from rfl] at hnext
      rw [e, show endAt [] (s.size : Int) = (s.size : Int) from rfl, if_neg (by omega), show hitF want ByteArray.empty [] = none from rfl, show findF want f (s.size : Int) [] = none from rfl]
      exact res_step _ _ j _ none none (grdI (lp_i64 (by omega)) hnext)
theorem rfind_v (s t : ByteArray) (f : Int) (hs : s.size ≤ 65536) (ht : t.size ≤ 65536) : ref04_Find_v s t f = some (findS s t f) := by
  unfold ref04_Find_v findS
  refine thenI (rfold_v t ht) ?_
  by_cases h1 : f < 0
  · rw [if_pos (.inl h1)]; exact condTI (decide_eq_true h1) rfl
  by_cases h2 : (s.size : Int) < f
  · rw [if_pos (.inr (.inl h2))]; exact condFI (decide_eq_false h1) (condTI (decide_eq_true h2) rfl)
  by_cases h3 : foldS t = ByteArray.empty
  · rw [if_pos (.inr (.inr h3))]; exact condFI (decide_eq_false h1) (condFI (decide_eq_false h2) (condTI (decide_eq_true h3) rfl))
  rw [if_neg (by simp [h1, h2, h3])]
  obtain ⟨hl, hc⟩ := clus_ok hs
  have hcount := pcs_count_le s
  have hil : (itemsP s).length ≤ 65536 := by unfold itemsP; rw [List.length_map]; omega
  refine condFI (decide_eq_false h1) (condFI (decide_eq_false h2) (condFI (decide_eq_false h3) (joinI (thenI (items_v s (by omega)) ?_))))
  have hen := ends_loop (fun ends1 : List Int => joinK (fun (j3 : Option (Gapi_Span × Bool)) => grd (ends1.length + 1 ≤ 2147483648) <| loopG (fun _ => none) (ref04_Find_s2 s f (foldS t) ends1 j3) fuel 0) (some ((⟨0, 0⟩ : Gapi_Span), false))) (itemsP s) (by omega) (fun x hx => (okT_item x hx).1) fuel 0 [] false (Nat.zero_le _) (by have := big_fuel (n := (itemsP s).length) (by omega); omega) (Nat.zero_le _)
  rw [List.drop_zero, List.nil_append, ends_clus] at hen
  refine hen.trans (joinI (grdI (by rw [List.length_map]; omega) ?_))
  have := rfind_out s (foldS t) f hs (by omega) h3 (some (⟨0, 0⟩, false)) fuel 0 (Nat.zero_le _) (by have := big_fuel (n := (clus s).length + 1) (by omega); omega)
  rw [List.drop_zero] at this
  refine this.trans ?_
  cases findF (foldS t) f (s.size : Int) (clus s) with
  | some p => rfl
  | none => rfl
end Go.Proofs.Ytlamcpgnmeileaa
