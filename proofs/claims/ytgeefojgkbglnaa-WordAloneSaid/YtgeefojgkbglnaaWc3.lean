/-
  Texts laid together: WordA, WordB, WordC, WordD, WordE, WordF. Nothing is assumed.
-/
import Derived.Test.YtgeefojgkbglnaaWc2
import Derived.Test.YtgeefojgkbglnaaWc1
namespace Go.Proofs.Ytgeefojgkbglnaa
open Go.RowKit Go.Lib
set_option linter.unusedVariables false
set_option linter.unusedSimpArgs false
theorem enc_ne_lost (r : Int) (hv : 0 ≤ r ∧ (r < 55296 ∨ (57343 < r ∧ r ≤ 1114111))) (hr : ¬ r = 65533) : ¬ Utf8.encode r = ⟨#[239, 191, 189]⟩ := by
  intro h
  obtain ⟨n, rfl⟩ := Int.eq_ofNat_of_zero_le hv.1
  have h1 : encodeRune ((n : Nat) : Int) = [239, 191, 189] := by rw [← encode_list, h]
  have h2 := dec_enc n (by omega) []
  have h3 := dec_enc 65533 (by omega) []
  rw [h1] at h2
  rw [enc_lost] at h3
  rw [h2] at h3
  have := (Prod.mk.inj h3).1
  omega
/-- The text from a piece on begins with that piece. -/
theorem pcs_head (s : ByteArray) (p : Pc) (hp : p ∈ pcs s.data.toList) : (pcs (s.extract p.i s.size).data.toList)[0]? = some ⟨0, p.w, p.r⟩ := by
  obtain ⟨g1, g2, hok⟩ := pcs_pos s.data.toList p hp
  have hlen : s.data.toList.length = s.size := by rw [Array.length_toList]; rfl
  have he := ext_end s p.i
  rw [he]
  have hne : s.data.toList.drop p.i ≠ [] := by
    intro h; have := congrArg List.length h; simp at this; omega
  unfold pcs
  rw [pcsFrom_cons _ _ hne, hok.eq]; rfl
set_option maxRecDepth 100000 in
set_option maxHeartbeats 4000000 in
theorem width_p (r : Int) (hv : 0 ≤ r ∧ (r < 55296 ∨ (57343 < r ∧ r ≤ 1114111))) : FnP Try.prog 80 [.int .i32 r] (.int .i64 ((Utf8.encode r).size : Int)) := by
 by_cases hr : r = 65533
 ·
  skip
  refine FnP.intro Try.func80 rfl Try.ntmps80 (by simp) ?_
  intro w0 K
  refine TC.seq (TC.region (TO.assign rfl (by decide) rfl (TO.nil (TX.next (TC.seq (TC.seq (TC.region (TO.move rfl (by decide) rfl (TO.bin rfl (by decide) rfl rfl (bin_known (congrArg Value.bool (show ((r : Int) != 65533) = false from (bne_eq_false_iff_eq.2 hr))) bin_neq) (TO.move rfl (by decide) rfl (TO.skip rfl (by decide) (TO.skip rfl (by decide) (TO.skip rfl (by decide) ?_)))))))))))))
  refine TO.pick (b := false) rfl (by decide) rfl rfl (TO.nil (TX.next (TC.condF rfl (TC.skip (TX.next (TC.seq (TC.region (TO.move rfl (by decide) rfl (TO.conv rfl (by decide) rfl (conv_rune Try.underlying21 Try.underlying9) (TO.lenStr rfl (by decide) rfl Try.underlying9 (TO.assign rfl (by decide) rfl (TO.nil (TX.next ?_)))))))))))))
  refine TC.ret ?_
  exact TX.fin (rs := [.tmp 2]) () (.inl rfl) Try.results80 (.cons (.tmp rfl) .nil) rfl Splits.nil
 ·
  skip
  refine FnP.intro Try.func80 rfl Try.ntmps80 (by simp) ?_
  intro w0 K
  refine TC.seq (TC.region (TO.assign rfl (by decide) rfl (TO.nil (TX.next (TC.seq (TC.seq (TC.region (TO.move rfl (by decide) rfl (TO.bin rfl (by decide) rfl rfl (bin_known (congrArg Value.bool (show ((r : Int) != 65533) = true from (bne_iff_ne.2 hr))) bin_neq) (TO.move rfl (by decide) rfl (TO.move rfl (by decide) rfl (TO.conv rfl (by decide) rfl (conv_rune Try.underlying21 Try.underlying9) (TO.bin rfl (by decide) rfl rfl (bin_known (congrArg Value.bool (show (decide (Utf8.encode r = ⟨#[239, 191, 189]⟩)) = false from (decide_eq_false (enc_ne_lost r hv hr)))) bin_seql) ?_)))))))))))))
  refine TO.pick (b := true) rfl (by decide) rfl rfl (TO.nil (TX.next (TC.condF rfl (TC.skip (TX.next (TC.seq (TC.region (TO.move rfl (by decide) rfl (TO.conv rfl (by decide) rfl (conv_rune Try.underlying21 Try.underlying9) (TO.lenStr rfl (by decide) rfl Try.underlying9 (TO.assign rfl (by decide) rfl (TO.nil (TX.next ?_)))))))))))))
  refine TC.ret ?_
  exact TX.fin (rs := [.tmp 2]) () (.inl rfl) Try.results80 (.cons (.tmp rfl) .nil) rfl Splits.nil

set_option maxRecDepth 100000 in
set_option maxHeartbeats 4000000 in
theorem read_p (s : ByteArray) (hs : s.size ≤ 9223372036854775800) (p : Pc) (hp : p ∈ pcs s.data.toList) : FnP Try.prog 68 [.string s, .int .i64 p.i] (.agg #[.int .i64 p.i, .int .i64 p.w, .int .i32 p.r, .bool p.broken]) := by
 obtain ⟨g1, g2, hok⟩ := pcs_pos s.data.toList p hp
 have hlen : s.data.toList.length = s.size := by rw [Array.length_toList]; rfl
 rw [hlen] at g2
 have hval := hok.valid
 have hq := pcs_head s p hp
 have hsl3 : p.i + 3 ≤ s.size → (s.extract p.i (p.i + 3)).data.toList = (s.data.toList.drop p.i).take 3 := fun h => by rw [Lib.extract_data]; simp
 by_cases hr : p.r = 65533
 ·
  by_cases hw : p.w = 1
  ·
   have hb : p.broken = true := by simp [Pc.broken, hr, hw]
   have hres : resVal [.agg #[.int .i64 p.i, .int .i64 1, .int .i32 65533, .bool true]] = Value.agg #[.int .i64 p.i, .int .i64 p.w, .int .i32 p.r, .bool p.broken] := by rw [hb, hr, hw]; rfl
   by_cases h3 : s.size - p.i < 3
   ·
    skip
    refine FnP.intro Try.func68 rfl Try.ntmps68 (by simp) ?_
    intro w0 K
    refine TC.seq (TC.region ?_)
    refine TO.alloc zr_78 rfl (by decide) (fun b1 => ?_)
    refine TO.nil (TX.next (TC.seq (TC.seq (TC.region (TO.move rfl (by decide) rfl (TO.move rfl (by decide) rfl (TO.slice rfl (by decide) rfl rfl rfl (slice_string (i := p.i) (j := s.size) Try.underlying9 (.inr rfl) (.inl ⟨rfl, rfl⟩) (by omega) (Nat.le_refl _)) ?_)))))))
    refine TO.rangeStr Try.underlying9 rfl (by decide) rfl (fun b2 => ?_)
    show TO _ _ _ _ _ _ _ _ _ _ [cells b1 [.int .i64 0, .int .i64 0, .int .i32 0, .bool false] 78, obj b2 (.stringIter (s.extract p.i s.size) (posAt (s.extract p.i s.size) 0))]
    refine TO.nil (TX.next (TC.block ?_))
    refine TC.loop (β := Unit) (fun _u => True) (fun _u => [(0, .string s), (1, .int .i64 (p.i : Int)), (4, .pointer (some ⟨b1, 0, none⟩)), (11, .pointer (some ⟨b2, 0, none⟩))]) (fun _u => [cells b1 [.int .i64 0, .int .i64 0, .int .i32 0, .bool false] 78, obj b2 (.stringIter (s.extract p.i s.size) (posAt (s.extract p.i s.size) 0))]) (fun _u => 0) () trivial (Sbs.cons rfl (Sbs.cons rfl (Sbs.cons rfl (Sbs.cons rfl (Sbs.nil))))) (Splits.of [0, 1] (by as_aux_lemma => kernel_rfl) rfl) ?_
    rintro _ _
    refine TC.seq (TC.region (TO.nextStr (k := 1) (m := 0) (p := ⟨0, p.w, p.r⟩) rfl (by decide) rfl rfl hq (TO.extract rfl (by decide) rfl rfl (TO.nil (TX.next (TC.seq (TC.condT rfl (TC.skip (TX.next (TC.block (TC.seq (TC.region (TO.extract rfl (by decide) rfl rfl ?_)))))))))))))
    refine TO.assign rfl (by decide) rfl (TO.nil (TX.next (TC.seq (TC.region (TO.move rfl (by decide) rfl (TO.callP (v := .int .i64 ((Utf8.encode (p.r : Int)).size : Int)) (vs := [.int .i32 (p.r : Int)]) rfl (by decide) rfl rfl rfl en_80 (width_p _ (by omega)) (TO.assign rfl (by decide) rfl (TO.nil (TX.next (TC.seq (TC.seq (TC.region (TO.move rfl (by decide) rfl ?_)))))))))))))
    refine TO.bin rfl (by decide) rfl rfl (bin_known (congrArg Value.bool (show (((p.r : Int) : Int) == 65533) = true from (beq_iff_eq.2 (by omega)))) bin_eql) (TO.move rfl (by decide) rfl (TO.move rfl (by decide) rfl (TO.lenStr rfl (by decide) rfl Try.underlying9 (TO.move rfl (by decide) rfl (TO.bin rfl (by decide) rfl rfl (bin_sub (r := (s.size : Int) - (p.i : Int)) (IntWalk.i64_in _ (by omega))) (TO.bin rfl (by decide) rfl rfl (bin_known (congrArg Value.bool (show (decide ((((s.size : Int) - (p.i : Int)) : Int) < 3)) = true from (decide_eq_true (by omega)))) bin_lss) (TO.move rfl (by decide) rfl (TO.skip rfl (by decide) (TO.skip rfl (by decide) (TO.skip rfl (by decide) (TO.skip rfl (by decide) (TO.skip rfl (by decide) (TO.skip rfl (by decide) ?_)))))))))))))
    refine TO.pick (b := true) rfl (by decide) rfl rfl (TO.pick (b := true) rfl (by decide) rfl rfl (TO.nil (TX.next (TC.condT rfl (TC.seq (TC.region (TO.move rfl (by decide) rfl ?_)))))))
    refine TO.build (v := .agg #[.int .i64 (p.i : Int), .int .i64 1, .int .i32 65533, .bool true]) (ps := [(0, .tmp 34), (1, .const (.int .i64 1)), (2, .const (.int .i32 65533)), (3, .const (.bool true))]) rfl (by decide) rfl (fun _ => by kernel_rfl) ?_
    refine TO.stores (k := 0) (vs := [.int .i64 (p.i : Int), .int .i64 1, .int .i32 65533, .bool true]) (l' := [.int .i64 (p.i : Int), .int .i64 1, .int .i32 65533, .bool true]) sz_78 rfl rfl rfl rfl rfl (show _ ≤ _ by simp) rfl rfl ?_
    show TO _ _ _ _ _ _ _ _ _ _ [cells b1 [.int .i64 (p.i : Int), .int .i64 1, .int .i32 65533, .bool true] 78, obj b2 (.stringIter (s.extract p.i s.size) (posAt (s.extract p.i s.size) (0 + 1)))]
    refine TO.nil (TX.next (TC.ret (TX.thenRet (TX.blockRet (TX.thenRet (TX.blockRet (TX.thenRet ?_)))))))
    exact TX.fin (rs := [.cell 4 78]) () (.inl rfl) Try.results68 (.cons (.cells rw_78 (k := 0) rfl rfl rfl) .nil) hres Splits.nil
   ·
    have hsl : ¬ s.extract p.i (p.i + 3) = ⟨#[239, 191, 189]⟩ := fun h => hok.lost_bad hr hw (by rw [← hsl3 (by omega), h])
    refine FnP.intro Try.func68 rfl Try.ntmps68 (by simp) ?_
    intro w0 K
    refine TC.seq (TC.region ?_)
    refine TO.alloc zr_78 rfl (by decide) (fun b1 => ?_)
    refine TO.nil (TX.next (TC.seq (TC.seq (TC.region (TO.move rfl (by decide) rfl (TO.move rfl (by decide) rfl (TO.slice rfl (by decide) rfl rfl rfl (slice_string (i := p.i) (j := s.size) Try.underlying9 (.inr rfl) (.inl ⟨rfl, rfl⟩) (by omega) (Nat.le_refl _)) ?_)))))))
    refine TO.rangeStr Try.underlying9 rfl (by decide) rfl (fun b2 => ?_)
    show TO _ _ _ _ _ _ _ _ _ _ [cells b1 [.int .i64 0, .int .i64 0, .int .i32 0, .bool false] 78, obj b2 (.stringIter (s.extract p.i s.size) (posAt (s.extract p.i s.size) 0))]
    refine TO.nil (TX.next (TC.block ?_))
    refine TC.loop (β := Unit) (fun _u => True) (fun _u => [(0, .string s), (1, .int .i64 (p.i : Int)), (4, .pointer (some ⟨b1, 0, none⟩)), (11, .pointer (some ⟨b2, 0, none⟩))]) (fun _u => [cells b1 [.int .i64 0, .int .i64 0, .int .i32 0, .bool false] 78, obj b2 (.stringIter (s.extract p.i s.size) (posAt (s.extract p.i s.size) 0))]) (fun _u => 0) () trivial (Sbs.cons rfl (Sbs.cons rfl (Sbs.cons rfl (Sbs.cons rfl (Sbs.nil))))) (Splits.of [0, 1] (by as_aux_lemma => kernel_rfl) rfl) ?_
    rintro _ _
    refine TC.seq (TC.region (TO.nextStr (k := 1) (m := 0) (p := ⟨0, p.w, p.r⟩) rfl (by decide) rfl rfl hq (TO.extract rfl (by decide) rfl rfl (TO.nil (TX.next (TC.seq (TC.condT rfl (TC.skip (TX.next (TC.block (TC.seq (TC.region (TO.extract rfl (by decide) rfl rfl ?_)))))))))))))
    refine TO.assign rfl (by decide) rfl (TO.nil (TX.next (TC.seq (TC.region (TO.move rfl (by decide) rfl (TO.callP (v := .int .i64 ((Utf8.encode (p.r : Int)).size : Int)) (vs := [.int .i32 (p.r : Int)]) rfl (by decide) rfl rfl rfl en_80 (width_p _ (by omega)) (TO.assign rfl (by decide) rfl (TO.nil (TX.next (TC.seq (TC.seq (TC.region (TO.move rfl (by decide) rfl ?_)))))))))))))
    refine TO.bin rfl (by decide) rfl rfl (bin_known (congrArg Value.bool (show (((p.r : Int) : Int) == 65533) = true from (beq_iff_eq.2 (by omega)))) bin_eql) (TO.move rfl (by decide) rfl (TO.move rfl (by decide) rfl (TO.lenStr rfl (by decide) rfl Try.underlying9 (TO.move rfl (by decide) rfl (TO.bin rfl (by decide) rfl rfl (bin_sub (r := (s.size : Int) - (p.i : Int)) (IntWalk.i64_in _ (by omega))) (TO.bin rfl (by decide) rfl rfl (bin_known (congrArg Value.bool (show (decide ((((s.size : Int) - (p.i : Int)) : Int) < 3)) = false from (decide_eq_false (by omega)))) bin_lss) (TO.move rfl (by decide) rfl (TO.move rfl (by decide) rfl (TO.move rfl (by decide) rfl (TO.move rfl (by decide) rfl (TO.bin rfl (by decide) rfl rfl (bin_add (r := ((p.i + 3 : Nat) : Int)) (by rw [IntWalk.i64_in _ (by omega)]; omega)) (TO.slice rfl (by decide) rfl rfl rfl (slice_string (i := p.i) (j := p.i + 3) Try.underlying9 (.inr rfl) (.inr rfl) (by omega) (by omega)) (TO.bin rfl (by decide) rfl rfl (bin_known (congrArg Value.bool (show (!decide (s.extract p.i (p.i + 3) = ⟨#[239, 191, 189]⟩)) = true from (by rw [decide_eq_false hsl]; rfl))) bin_sneq) ?_)))))))))))))
    refine TO.pick (b := false) rfl (by decide) rfl rfl (TO.pick (b := true) rfl (by decide) rfl rfl (TO.nil (TX.next (TC.condT rfl (TC.seq (TC.region (TO.move rfl (by decide) rfl ?_)))))))
    refine TO.build (v := .agg #[.int .i64 (p.i : Int), .int .i64 1, .int .i32 65533, .bool true]) (ps := [(0, .tmp 34), (1, .const (.int .i64 1)), (2, .const (.int .i32 65533)), (3, .const (.bool true))]) rfl (by decide) rfl (fun _ => by kernel_rfl) ?_
    refine TO.stores (k := 0) (vs := [.int .i64 (p.i : Int), .int .i64 1, .int .i32 65533, .bool true]) (l' := [.int .i64 (p.i : Int), .int .i64 1, .int .i32 65533, .bool true]) sz_78 rfl rfl rfl rfl rfl (show _ ≤ _ by simp) rfl rfl ?_
    show TO _ _ _ _ _ _ _ _ _ _ [cells b1 [.int .i64 (p.i : Int), .int .i64 1, .int .i32 65533, .bool true] 78, obj b2 (.stringIter (s.extract p.i s.size) (posAt (s.extract p.i s.size) (0 + 1)))]
    refine TO.nil (TX.next (TC.ret (TX.thenRet (TX.blockRet (TX.thenRet (TX.blockRet (TX.thenRet ?_)))))))
    exact TX.fin (rs := [.cell 4 78]) () (.inl rfl) Try.results68 (.cons (.cells rw_78 (k := 0) rfl rfl rfl) .nil) hres Splits.nil
  ·
   have hb : p.broken = false := by simp [Pc.broken, hw]
   obtain ⟨e1, e2⟩ := hok.lost_ok hr hw
   have hsz : (Utf8.encode (p.r : Int)).size = p.w := by rw [encode_size]; exact hok.width (fun h => hw h.2)
   have hres : resVal [.agg #[.int .i64 p.i, .int .i64 ((Utf8.encode (p.r : Int)).size : Int), .int .i32 p.r, .bool false]] = Value.agg #[.int .i64 p.i, .int .i64 p.w, .int .i32 p.r, .bool p.broken] := by rw [hb, hsz]; rfl
   have hsl : s.extract p.i (p.i + 3) = ⟨#[239, 191, 189]⟩ := by apply ByteArray.ext; apply Array.toList_inj.1; rw [hsl3 (by omega), e1]
   refine FnP.intro Try.func68 rfl Try.ntmps68 (by simp) ?_
   intro w0 K
   refine TC.seq (TC.region ?_)
   refine TO.alloc zr_78 rfl (by decide) (fun b1 => ?_)
   refine TO.nil (TX.next (TC.seq (TC.seq (TC.region (TO.move rfl (by decide) rfl (TO.move rfl (by decide) rfl (TO.slice rfl (by decide) rfl rfl rfl (slice_string (i := p.i) (j := s.size) Try.underlying9 (.inr rfl) (.inl ⟨rfl, rfl⟩) (by omega) (Nat.le_refl _)) ?_)))))))
   refine TO.rangeStr Try.underlying9 rfl (by decide) rfl (fun b2 => ?_)
   show TO _ _ _ _ _ _ _ _ _ _ [cells b1 [.int .i64 0, .int .i64 0, .int .i32 0, .bool false] 78, obj b2 (.stringIter (s.extract p.i s.size) (posAt (s.extract p.i s.size) 0))]
   refine TO.nil (TX.next (TC.block ?_))
   refine TC.loop (β := Unit) (fun _u => True) (fun _u => [(0, .string s), (1, .int .i64 (p.i : Int)), (4, .pointer (some ⟨b1, 0, none⟩)), (11, .pointer (some ⟨b2, 0, none⟩))]) (fun _u => [cells b1 [.int .i64 0, .int .i64 0, .int .i32 0, .bool false] 78, obj b2 (.stringIter (s.extract p.i s.size) (posAt (s.extract p.i s.size) 0))]) (fun _u => 0) () trivial (Sbs.cons rfl (Sbs.cons rfl (Sbs.cons rfl (Sbs.cons rfl (Sbs.nil))))) (Splits.of [0, 1] (by as_aux_lemma => kernel_rfl) rfl) ?_
   rintro _ _
   refine TC.seq (TC.region (TO.nextStr (k := 1) (m := 0) (p := ⟨0, p.w, p.r⟩) rfl (by decide) rfl rfl hq (TO.extract rfl (by decide) rfl rfl (TO.nil (TX.next (TC.seq (TC.condT rfl (TC.skip (TX.next (TC.block (TC.seq (TC.region (TO.extract rfl (by decide) rfl rfl ?_)))))))))))))
   refine TO.assign rfl (by decide) rfl (TO.nil (TX.next (TC.seq (TC.region (TO.move rfl (by decide) rfl (TO.callP (v := .int .i64 ((Utf8.encode (p.r : Int)).size : Int)) (vs := [.int .i32 (p.r : Int)]) rfl (by decide) rfl rfl rfl en_80 (width_p _ (by omega)) (TO.assign rfl (by decide) rfl (TO.nil (TX.next (TC.seq (TC.seq (TC.region (TO.move rfl (by decide) rfl ?_)))))))))))))
   refine TO.bin rfl (by decide) rfl rfl (bin_known (congrArg Value.bool (show (((p.r : Int) : Int) == 65533) = true from (beq_iff_eq.2 (by omega)))) bin_eql) (TO.move rfl (by decide) rfl (TO.move rfl (by decide) rfl (TO.lenStr rfl (by decide) rfl Try.underlying9 (TO.move rfl (by decide) rfl (TO.bin rfl (by decide) rfl rfl (bin_sub (r := (s.size : Int) - (p.i : Int)) (IntWalk.i64_in _ (by omega))) (TO.bin rfl (by decide) rfl rfl (bin_known (congrArg Value.bool (show (decide ((((s.size : Int) - (p.i : Int)) : Int) < 3)) = false from (decide_eq_false (by omega)))) bin_lss) (TO.move rfl (by decide) rfl (TO.move rfl (by decide) rfl (TO.move rfl (by decide) rfl (TO.move rfl (by decide) rfl (TO.bin rfl (by decide) rfl rfl (bin_add (r := ((p.i + 3 : Nat) : Int)) (by rw [IntWalk.i64_in _ (by omega)]; omega)) (TO.slice rfl (by decide) rfl rfl rfl (slice_string (i := p.i) (j := p.i + 3) Try.underlying9 (.inr rfl) (.inr rfl) (by omega) (by omega)) (TO.bin rfl (by decide) rfl rfl (bin_known (congrArg Value.bool (show (!decide (s.extract p.i (p.i + 3) = ⟨#[239, 191, 189]⟩)) = false from (by rw [decide_eq_true hsl]; rfl))) bin_sneq) ?_)))))))))))))
   refine TO.pick (b := false) rfl (by decide) rfl rfl (TO.pick (b := true) rfl (by decide) rfl rfl (TO.nil (TX.next (TC.condF rfl (TC.skip (TX.next (TC.seq (TC.region (TO.move rfl (by decide) rfl (TO.move rfl (by decide) rfl (TO.move rfl (by decide) rfl ?_)))))))))))
   refine TO.build (v := .agg #[.int .i64 (p.i : Int), .int .i64 ((Utf8.encode (p.r : Int)).size : Int), .int .i32 (p.r : Int), .bool false]) (ps := [(0, .tmp 36), (1, .tmp 37), (2, .tmp 38)]) rfl (by decide) rfl (fun _ => by kernel_rfl) ?_
   refine TO.stores (k := 0) (vs := [.int .i64 (p.i : Int), .int .i64 ((Utf8.encode (p.r : Int)).size : Int), .int .i32 (p.r : Int), .bool false]) (l' := [.int .i64 (p.i : Int), .int .i64 ((Utf8.encode (p.r : Int)).size : Int), .int .i32 (p.r : Int), .bool false]) sz_78 rfl rfl rfl rfl rfl (show _ ≤ _ by simp) rfl rfl ?_
   show TO _ _ _ _ _ _ _ _ _ _ [cells b1 [.int .i64 (p.i : Int), .int .i64 ((Utf8.encode (p.r : Int)).size : Int), .int .i32 (p.r : Int), .bool false] 78, obj b2 (.stringIter (s.extract p.i s.size) (posAt (s.extract p.i s.size) (0 + 1)))]
   refine TO.nil (TX.next (TC.ret (TX.blockRet (TX.thenRet (TX.blockRet (TX.thenRet ?_))))))
   exact TX.fin (rs := [.cell 4 78]) () (.inl rfl) Try.results68 (.cons (.cells rw_78 (k := 0) rfl rfl rfl) .nil) hres Splits.nil
 ·
  have hb : p.broken = false := by simp [Pc.broken, hr]
  have hsz : (Utf8.encode (p.r : Int)).size = p.w := by rw [encode_size]; exact hok.width (fun h => hr h.1)
  have hres : resVal [.agg #[.int .i64 p.i, .int .i64 ((Utf8.encode (p.r : Int)).size : Int), .int .i32 p.r, .bool false]] = Value.agg #[.int .i64 p.i, .int .i64 p.w, .int .i32 p.r, .bool p.broken] := by rw [hb, hsz]; rfl
  refine FnP.intro Try.func68 rfl Try.ntmps68 (by simp) ?_
  intro w0 K
  refine TC.seq (TC.region ?_)
  refine TO.alloc zr_78 rfl (by decide) (fun b1 => ?_)
  refine TO.nil (TX.next (TC.seq (TC.seq (TC.region (TO.move rfl (by decide) rfl (TO.move rfl (by decide) rfl (TO.slice rfl (by decide) rfl rfl rfl (slice_string (i := p.i) (j := s.size) Try.underlying9 (.inr rfl) (.inl ⟨rfl, rfl⟩) (by omega) (Nat.le_refl _)) ?_)))))))
  refine TO.rangeStr Try.underlying9 rfl (by decide) rfl (fun b2 => ?_)
  show TO _ _ _ _ _ _ _ _ _ _ [cells b1 [.int .i64 0, .int .i64 0, .int .i32 0, .bool false] 78, obj b2 (.stringIter (s.extract p.i s.size) (posAt (s.extract p.i s.size) 0))]
  refine TO.nil (TX.next (TC.block ?_))
  refine TC.loop (β := Unit) (fun _u => True) (fun _u => [(0, .string s), (1, .int .i64 (p.i : Int)), (4, .pointer (some ⟨b1, 0, none⟩)), (11, .pointer (some ⟨b2, 0, none⟩))]) (fun _u => [cells b1 [.int .i64 0, .int .i64 0, .int .i32 0, .bool false] 78, obj b2 (.stringIter (s.extract p.i s.size) (posAt (s.extract p.i s.size) 0))]) (fun _u => 0) () trivial (Sbs.cons rfl (Sbs.cons rfl (Sbs.cons rfl (Sbs.cons rfl (Sbs.nil))))) (Splits.of [0, 1] (by as_aux_lemma => kernel_rfl) rfl) ?_
  rintro _ _
  refine TC.seq (TC.region (TO.nextStr (k := 1) (m := 0) (p := ⟨0, p.w, p.r⟩) rfl (by decide) rfl rfl hq (TO.extract rfl (by decide) rfl rfl (TO.nil (TX.next (TC.seq (TC.condT rfl (TC.skip (TX.next (TC.block (TC.seq (TC.region (TO.extract rfl (by decide) rfl rfl ?_)))))))))))))
  refine TO.assign rfl (by decide) rfl (TO.nil (TX.next (TC.seq (TC.region (TO.move rfl (by decide) rfl (TO.callP (v := .int .i64 ((Utf8.encode (p.r : Int)).size : Int)) (vs := [.int .i32 (p.r : Int)]) rfl (by decide) rfl rfl rfl en_80 (width_p _ (by omega)) (TO.assign rfl (by decide) rfl (TO.nil (TX.next (TC.seq (TC.seq (TC.region (TO.move rfl (by decide) rfl ?_)))))))))))))
  refine TO.bin rfl (by decide) rfl rfl (bin_known (congrArg Value.bool (show (((p.r : Int) : Int) == 65533) = false from (beq_eq_false_iff_ne.2 (by omega)))) bin_eql) (TO.move rfl (by decide) rfl (TO.skip rfl (by decide) (TO.skip rfl (by decide) (TO.skip rfl (by decide) (TO.skip rfl (by decide) (TO.skip rfl (by decide) (TO.skip rfl (by decide) (TO.skip rfl (by decide) (TO.skip rfl (by decide) (TO.skip rfl (by decide) (TO.skip rfl (by decide) (TO.skip rfl (by decide) (TO.skip rfl (by decide) ?_)))))))))))))
  refine TO.skip rfl (by decide) (TO.pick (b := false) rfl (by decide) rfl rfl (TO.nil (TX.next (TC.condF rfl (TC.skip (TX.next (TC.seq (TC.region (TO.move rfl (by decide) rfl (TO.move rfl (by decide) rfl (TO.move rfl (by decide) rfl ?_)))))))))))
  refine TO.build (v := .agg #[.int .i64 (p.i : Int), .int .i64 ((Utf8.encode (p.r : Int)).size : Int), .int .i32 (p.r : Int), .bool false]) (ps := [(0, .tmp 36), (1, .tmp 37), (2, .tmp 38)]) rfl (by decide) rfl (fun _ => by kernel_rfl) ?_
  refine TO.stores (k := 0) (vs := [.int .i64 (p.i : Int), .int .i64 ((Utf8.encode (p.r : Int)).size : Int), .int .i32 (p.r : Int), .bool false]) (l' := [.int .i64 (p.i : Int), .int .i64 ((Utf8.encode (p.r : Int)).size : Int), .int .i32 (p.r : Int), .bool false]) sz_78 rfl rfl rfl rfl rfl (show _ ≤ _ by simp) rfl rfl ?_
  show TO _ _ _ _ _ _ _ _ _ _ [cells b1 [.int .i64 (p.i : Int), .int .i64 ((Utf8.encode (p.r : Int)).size : Int), .int .i32 (p.r : Int), .bool false] 78, obj b2 (.stringIter (s.extract p.i s.size) (posAt (s.extract p.i s.size) (0 + 1)))]
  refine TO.nil (TX.next (TC.ret (TX.blockRet (TX.thenRet (TX.blockRet (TX.thenRet ?_))))))
  exact TX.fin (rs := [.cell 4 78]) () (.inl rfl) Try.results68 (.cons (.cells rw_78 (k := 0) rfl rfl rfl) .nil) hres Splits.nil
end Go.Proofs.Ytgeefojgkbglnaa
namespace Go.Proofs.Ytgeefojgkbglnaa
open Go.RowKit Go.Lib
set_option linter.unusedVariables false
set_option linter.unusedSimpArgs false
theorem take_cons_drop {α : Type} {l : List α} {k : Nat} {p : α} (h : l[k]? = some p) : l = l.take k ++ p :: l.drop (k + 1) := by
  obtain ⟨hk, hp⟩ := List.getElem?_eq_some_iff.1 h
  have h1 := List.drop_eq_getElem_cons hk
  rw [hp] at h1
  rw [← h1, List.take_append_drop]
theorem take_snoc {α : Type} (L : List α) (k : Nat) (x : α) (h : L[k]? = some x) : L.take (k + 1) = L.take k ++ [x] := by
  obtain ⟨hk, rfl⟩ := List.getElem?_eq_some_iff.1 h
  simp
def uK : Option Un → Int | none => 0 | some n => n.k
def uR : Option Un → Int | none => 0 | some n => n.r
def uF : Option Un → Int | none => 0 | some n => n.f
def uT : Option Un → Int | none => 0 | some n => n.t
def uA : Option Un → Bool | none => false | some n => n.al
def unV (u : Un) : List Value := [.int .i64 u.k, .int .i32 u.r, .int .i64 u.f, .int .i64 u.t, .bool u.al]
def unA (u : Un) : List Value := [.agg (unV u).toArray]
set_option maxRecDepth 100000 in
set_option maxHeartbeats 4000000 in
theorem rpieces1_itr (s : ByteArray) (hs : s.size ≤ 4611686018427387904) (Bs : Nat) : Itr Try.prog 79 [.pointer (some ⟨Bs, 0, none⟩)] pcA (pcs s.data.toList) [(Bs, .cells #[.string s] 9 (0, 0))] := by
 refine Itr.intro Try.func79 rfl Try.ntmps79 (by simp) ?_
 intro l w0 K I X hRo hy
 refine TC.seq (TC.region (TO.loadRo (i := 0) hRo sc_9 rfl (by decide) rfl rfl rfl ?_))
 refine TO.rangeStr Try.underlying9 rfl (by decide) rfl (fun b1 => ?_)
 refine TO.nil (TX.next (TC.block ?_))
 refine TC.loop (β := Nat) (fun k => True) (fun k => [(0, .func (.yield l) #[] #[]), (1, .pointer (some ⟨Bs, 0, none⟩)), (5, .pointer (some ⟨b1, 0, none⟩))]) (fun k => [I ((pcs s.data.toList).take k), obj b1 (.stringIter s (posAt s k))]) (fun k => (pcs s.data.toList).length - k) 0 trivial (Sbs.cons rfl (Sbs.cons rfl (Sbs.cons rfl (Sbs.nil)))) (Splits.of [0, 1] (by as_aux_lemma => kernel_rfl) rfl) ?_
 rintro k _
 by_cases hlt : k < (pcs s.data.toList).length
 ·
  obtain ⟨p, hp⟩ : ∃ p, (pcs s.data.toList)[k]? = some p := ⟨_, List.getElem?_eq_getElem hlt⟩
  have hz : pcs s.data.toList = (pcs s.data.toList).take k ++ p :: (pcs s.data.toList).drop (k + 1) := take_cons_drop hp
  refine TC.seq (TC.region (TO.nextStr (k := 1) (m := k) (p := p) rfl (by decide) rfl rfl hp (TO.extract rfl (by decide) rfl rfl (TO.nil (TX.next (TC.seq (TC.condT rfl (TC.skip (TX.next (TC.block (TC.seq (TC.region (TO.extract rfl (by decide) rfl rfl ?_)))))))))))))
  refine TO.assign rfl (by decide) rfl (TO.nil (TX.next (TC.seq (TC.region (TO.move rfl (by decide) rfl (TO.loadRo (i := 0) hRo sc_9 rfl (by decide) rfl rfl rfl (TO.move rfl (by decide) rfl (TO.callP (v := .agg #[.int .i64 (p.i : Int), .int .i64 (p.w : Int), .int .i32 (p.r : Int), .bool p.broken]) (vs := [.string s, .int .i64 (p.i : Int)]) rfl (by decide) rfl rfl rfl en_68 (read_p s (by omega) p (List.mem_of_getElem? hp)) ?_))))))))
  refine TO.yield hy rfl (by decide) rfl hz rfl (k := 0) rfl ?_ ?_
  ·
   -- yes
   refine TO.un rfl (by decide) rfl un_not (TO.nil (TX.next (TC.condF rfl (TC.skip (TX.blockNormal ?_)))))
   skip
   refine TX.rewE (k := 0) rfl (show I ((pcs s.data.toList).take k ++ [p]) = I ((pcs s.data.toList).take (k + 1)) from (congrArg I (take_snoc _ _ _ hp).symm)) ?_
   show TX _ _ _ _ _ _ _ [I ((pcs s.data.toList).take (k + 1)), obj b1 (.stringIter s (posAt s (k + 1)))]
   exact TX.again (k + 1) trivial (by omega) (Sbs.cons rfl (Sbs.cons rfl (Sbs.cons rfl (Sbs.nil)))) (Splits.of [0, 1] (by as_aux_lemma => kernel_rfl) rfl)
  ·
   -- no
   refine TO.un rfl (by decide) rfl un_not (TO.nil (TX.next (TC.condT rfl (TC.ret (TX.blockRet (TX.thenRet (TX.blockRet ?_)))))))
   exact TX.finX (ds := []) _ p _ hz (.inl rfl) Splits.nil Try.results79 (Splits.of [0] (by as_aux_lemma => kernel_rfl) rfl)
 ·
  have he : I (pcs s.data.toList) = I ((pcs s.data.toList).take k) := by rw [List.take_of_length_le (Nat.le_of_not_lt hlt)]
  refine TC.seq (TC.region (TO.nextEnd (k := 1) (m := k) rfl (by decide) rfl rfl (by omega) (TO.extract rfl (by decide) rfl rfl (TO.nil (TX.next (TC.seq (TC.condF rfl (TC.exit (TX.thenExit (TX.thenExit (TX.blockHere ?_)))))))))))
  exact TX.finY (ds := []) (.inr rfl) Splits.nil Try.results79 he (Splits.of [0] (by as_aux_lemma => kernel_rfl) rfl)

theorem rpcs_fn (s : ByteArray) : Fn Try.prog 63 [.string s] [] (fun b : Nat => .func (.func 79) #[] #[.pointer (some ⟨b, 0, none⟩)]) (fun b => [cells b [.string s] 9]) := by
 refine Fn.intro Try.func63 rfl Try.ntmps63 (by simp) ?_
 intro w0 K
 refine TC.seq (TC.region ?_)
 refine TO.box rfl (by decide) rfl (fun b1 => ?_)
 refine TO.assign rfl (by decide) rfl (TO.nil (TX.next (TC.seq (TC.region (TO.makeFunc (x1 := []) (x2 := [.tmp 1]) rfl (by decide) rfl rfl (TO.assign rfl (by decide) rfl (TO.nil (TX.next (TC.ret ?_)))))))))
 exact TX.fin (rs := [.tmp 2]) b1 (.inl rfl) Try.results63 (.cons (.tmp rfl) .nil) rfl (Splits.of [0] (by as_aux_lemma => kernel_rfl) rfl)

theorem bare_p (k : Int) : FnP Try.prog 65 [.int .i64 k] (.bool (ubare k)) := by
 refine FnP.intro Try.func65 rfl Try.ntmps65 (by simp) ?_
 intro w0 K
 refine TC.seq (TC.region (TO.assign rfl (by decide) rfl (TO.nil (TX.next (TC.seq (TC.region (TO.move rfl (by decide) rfl (TO.bin rfl (by decide) rfl rfl bin_eql (TO.move rfl (by decide) rfl ?_)))))))))
 refine TO.split (s := 5) rfl (fun h1 => ?_) (fun h1 => ?_)
 ·
  -- yes
  have h1 := beq_iff_eq.1 h1
  refine TO.skip rfl (by decide) (TO.skip rfl (by decide) (TO.pick (b := true) rfl (by decide) rfl rfl (TO.move rfl (by decide) rfl (TO.skip rfl (by decide) (TO.skip rfl (by decide) (TO.pick (b := true) rfl (by decide) rfl rfl (TO.assign rfl (by decide) rfl (TO.nil (TX.next (TC.ret ?_))))))))))
  exact TX.fin (rs := [.tmp 2]) () (.inl rfl) Try.results65 (.cons (.tmp rfl) .nil) (congrArg Value.bool (by rw [Bool.eq_iff_iff]; unfold ubare; simp_all <;> (try intro _) <;> omega)) Splits.nil
 ·
  -- no
  have h1 := beq_eq_false_iff_ne.1 h1
  refine TO.move rfl (by decide) rfl (TO.bin rfl (by decide) rfl rfl bin_eql (TO.pick (b := false) rfl (by decide) rfl rfl (TO.move rfl (by decide) rfl ?_)))
  refine TO.split (s := 9) rfl (fun h2 => ?_) (fun h2 => ?_)
  ·
   -- yes
   have h2 := beq_iff_eq.1 h2
   refine TO.skip rfl (by decide) (TO.skip rfl (by decide) (TO.pick (b := true) rfl (by decide) rfl rfl (TO.assign rfl (by decide) rfl (TO.nil (TX.next (TC.ret ?_))))))
   exact TX.fin (rs := [.tmp 2]) () (.inl rfl) Try.results65 (.cons (.tmp rfl) .nil) (congrArg Value.bool (by rw [Bool.eq_iff_iff]; unfold ubare; simp_all <;> (try intro _) <;> omega)) Splits.nil
  ·
   -- no
   have h2 := beq_eq_false_iff_ne.1 h2
   refine TO.move rfl (by decide) rfl (TO.bin rfl (by decide) rfl rfl bin_eql (TO.pick (b := false) rfl (by decide) rfl rfl (TO.assign rfl (by decide) rfl (TO.nil (TX.next (TC.ret ?_))))))
   exact TX.fin (rs := [.tmp 2]) () (.inl rfl) Try.results65 (.cons (.tmp rfl) .nil) (congrArg Value.bool (by rw [Bool.eq_iff_iff]; unfold ubare; simp_all <;> (try intro _) <;> omega)) Splits.nil

theorem joint_p (u : Un) : FnP Try.prog 66 [.agg #[.int .i64 u.k, .int .i32 u.r, .int .i64 u.f, .int .i64 u.t, .bool u.al]] (.bool (joint u)) := by
 refine FnP.intro Try.func66 rfl Try.ntmps66 (by simp) ?_
 intro w0 K
 refine TC.seq (TC.region ?_)
 refine TO.box rfl (by decide) rfl (fun b1 => ?_)
 refine TO.assign rfl (by decide) rfl (TO.nil (TX.next (TC.seq (TC.seq (TC.region (TO.fieldAddr fl_67_1 rfl (by decide) rfl (show _ = 1 from rfl) (TO.load (k := 0) sc_21 rfl (by decide) rfl rfl rfl (TO.nil (TX.next (TC.block (TC.seq (TC.seq (TC.region ?_)))))))))))))
 refine TO.bin rfl (by decide) rfl rfl bin_eql (TO.assign rfl (by decide) rfl (TO.nil (TX.next ?_)))
 refine TC.condB rfl (fun h1 => ?_) (fun h1 => ?_)
 ·
  -- yes
  have h1 := beq_iff_eq.1 h1
  refine TC.skip (TX.next ?_)
  refine TC.condB rfl (fun h2 => ?_) (fun h2 => ?_)
  ·
   -- yes
   have h2 := beq_iff_eq.1 h2
   refine TC.seq (TC.region (TO.fieldAddr fl_67_3 rfl (by decide) rfl (show _ = 4 from rfl) (TO.load (k := 0) sc_4 rfl (by decide) rfl rfl rfl (TO.assign rfl (by decide) rfl (TO.nil (TX.next (TC.ret (TX.blockRet (TX.thenRet ?_)))))))))
   exact TX.fin (rs := [.tmp 2]) () (.inl rfl) Try.results66 (.cons (.tmp rfl) .nil) (congrArg Value.bool (by rw [Bool.eq_iff_iff]; unfold joint; simp_all <;> (try intro _) <;> omega)) Splits.nil
  ·
   -- no
   have h2 := beq_eq_false_iff_ne.1 h2
   refine TC.skip (TX.blockNormal (TX.next (TC.seq (TC.region (TO.assign rfl (by decide) rfl (TO.nil (TX.next (TC.ret ?_))))))))
   exact TX.fin (rs := [.tmp 2]) () (.inl rfl) Try.results66 (.cons (.tmp rfl) .nil) (congrArg Value.bool (by rw [Bool.eq_iff_iff]; unfold joint; simp_all <;> (try intro _) <;> omega)) Splits.nil
 ·
  -- no
  have h1 := beq_eq_false_iff_ne.1 h1
  refine TC.seq (TC.region (TO.bin rfl (by decide) rfl rfl bin_eql (TO.assign rfl (by decide) rfl (TO.nil (TX.next ?_)))))
  refine TC.condB rfl (fun h3 => ?_) (fun h3 => ?_)
  ·
   -- yes
   have h3 := beq_iff_eq.1 h3
   refine TC.skip (TX.next ?_)
   refine TC.condB rfl (fun h4 => ?_) (fun h4 => ?_)
   ·
    -- yes
    have h4 := beq_iff_eq.1 h4
    refine TC.seq (TC.region (TO.fieldAddr fl_67_3 rfl (by decide) rfl (show _ = 4 from rfl) (TO.load (k := 0) sc_4 rfl (by decide) rfl rfl rfl (TO.assign rfl (by decide) rfl (TO.nil (TX.next (TC.ret (TX.blockRet (TX.thenRet ?_)))))))))
    exact TX.fin (rs := [.tmp 2]) () (.inl rfl) Try.results66 (.cons (.tmp rfl) .nil) (congrArg Value.bool (by rw [Bool.eq_iff_iff]; unfold joint; simp_all <;> (try intro _) <;> omega)) Splits.nil
   ·
    -- no
    have h4 := beq_eq_false_iff_ne.1 h4
    refine TC.skip (TX.blockNormal (TX.next (TC.seq (TC.region (TO.assign rfl (by decide) rfl (TO.nil (TX.next (TC.ret ?_))))))))
    exact TX.fin (rs := [.tmp 2]) () (.inl rfl) Try.results66 (.cons (.tmp rfl) .nil) (congrArg Value.bool (by rw [Bool.eq_iff_iff]; unfold joint; simp_all <;> (try intro _) <;> omega)) Splits.nil
  ·
   -- no
   have h3 := beq_eq_false_iff_ne.1 h3
   refine TC.seq (TC.region (TO.bin rfl (by decide) rfl rfl bin_eql (TO.assign rfl (by decide) rfl (TO.nil (TX.next ?_)))))
   refine TC.condB rfl (fun h5 => ?_) (fun h5 => ?_)
   ·
    -- yes
    have h5 := beq_iff_eq.1 h5
    refine TC.skip (TX.next ?_)
    refine TC.condB rfl (fun h6 => ?_) (fun h6 => ?_)
    ·
     -- yes
     have h6 := beq_iff_eq.1 h6
     refine TC.seq (TC.region (TO.fieldAddr fl_67_3 rfl (by decide) rfl (show _ = 4 from rfl) (TO.load (k := 0) sc_4 rfl (by decide) rfl rfl rfl (TO.assign rfl (by decide) rfl (TO.nil (TX.next (TC.ret (TX.blockRet (TX.thenRet ?_)))))))))
     exact TX.fin (rs := [.tmp 2]) () (.inl rfl) Try.results66 (.cons (.tmp rfl) .nil) (congrArg Value.bool (by rw [Bool.eq_iff_iff]; unfold joint; simp_all <;> (try intro _) <;> omega)) Splits.nil
    ·
     -- no
     have h6 := beq_eq_false_iff_ne.1 h6
     refine TC.skip (TX.blockNormal (TX.next (TC.seq (TC.region (TO.assign rfl (by decide) rfl (TO.nil (TX.next (TC.ret ?_))))))))
     exact TX.fin (rs := [.tmp 2]) () (.inl rfl) Try.results66 (.cons (.tmp rfl) .nil) (congrArg Value.bool (by rw [Bool.eq_iff_iff]; unfold joint; simp_all <;> (try intro _) <;> omega)) Splits.nil
   ·
    -- no
    have h5 := beq_eq_false_iff_ne.1 h5
    refine TC.region (TO.bin rfl (by decide) rfl rfl bin_eql (TO.assign rfl (by decide) rfl (TO.nil (TX.next ?_))))
    refine TC.condB rfl (fun h7 => ?_) (fun h7 => ?_)
    ·
     -- yes
     have h7 := beq_iff_eq.1 h7
     refine TC.seq (TC.region (TO.fieldAddr fl_67_3 rfl (by decide) rfl (show _ = 4 from rfl) (TO.load (k := 0) sc_4 rfl (by decide) rfl rfl rfl (TO.assign rfl (by decide) rfl (TO.nil (TX.next (TC.ret (TX.blockRet (TX.thenRet ?_)))))))))
     exact TX.fin (rs := [.tmp 2]) () (.inl rfl) Try.results66 (.cons (.tmp rfl) .nil) (congrArg Value.bool (by rw [Bool.eq_iff_iff]; unfold joint; simp_all <;> (try intro _) <;> omega)) Splits.nil
    ·
     -- no
     have h7 := beq_eq_false_iff_ne.1 h7
     refine TC.skip (TX.blockNormal (TX.next (TC.seq (TC.region (TO.assign rfl (by decide) rfl (TO.nil (TX.next (TC.ret ?_))))))))
     exact TX.fin (rs := [.tmp 2]) () (.inl rfl) Try.results66 (.cons (.tmp rfl) .nil) (congrArg Value.bool (by rw [Bool.eq_iff_iff]; unfold joint; simp_all <;> (try intro _) <;> omega)) Splits.nil

theorem dot_p (u : Un) : FnP Try.prog 67 [.agg #[.int .i64 u.k, .int .i32 u.r, .int .i64 u.f, .int .i64 u.t, .bool u.al]] (.bool (dot u)) := by
 refine FnP.intro Try.func67 rfl Try.ntmps67 (by simp) ?_
 intro w0 K
 refine TC.seq (TC.region ?_)
 refine TO.box rfl (by decide) rfl (fun b1 => ?_)
 refine TO.assign rfl (by decide) rfl (TO.nil (TX.next (TC.seq (TC.region (TO.fieldAddr fl_67_3 rfl (by decide) rfl (show _ = 4 from rfl) (TO.load (k := 0) sc_4 rfl (by decide) rfl rfl rfl (TO.move rfl (by decide) rfl ?_)))))))
 refine TO.split (s := 5) rfl (fun h1 => ?_) (fun h1 => ?_)
 ·
  -- yes
  refine TO.fieldAddr fl_67_1 rfl (by decide) rfl (show _ = 1 from rfl) (TO.load (k := 0) sc_21 rfl (by decide) rfl rfl rfl (TO.bin rfl (by decide) rfl rfl bin_eql (TO.move rfl (by decide) rfl ?_)))
  refine TO.split (s := 9) rfl (fun h2 => ?_) (fun h2 => ?_)
  ·
   -- yes
   have h2 := beq_iff_eq.1 h2
   refine TO.skip rfl (by decide) (TO.skip rfl (by decide) (TO.skip rfl (by decide) (TO.pick (b := true) rfl (by decide) rfl rfl (TO.pick (b := true) rfl (by decide) rfl rfl (TO.assign rfl (by decide) rfl (TO.nil (TX.next (TC.ret ?_))))))))
   exact TX.fin (rs := [.tmp 2]) () (.inl rfl) Try.results67 (.cons (.tmp rfl) .nil) (congrArg Value.bool (by rw [Bool.eq_iff_iff]; unfold dot; simp_all <;> (try intro _) <;> omega)) Splits.nil
  ·
   -- no
   have h2 := beq_eq_false_iff_ne.1 h2
   refine TO.fieldAddr fl_67_1 rfl (by decide) rfl (show _ = 1 from rfl) (TO.load (k := 0) sc_21 rfl (by decide) rfl rfl rfl (TO.bin rfl (by decide) rfl rfl bin_eql (TO.pick (b := false) rfl (by decide) rfl rfl (TO.pick (b := true) rfl (by decide) rfl rfl (TO.assign rfl (by decide) rfl (TO.nil (TX.next (TC.ret ?_))))))))
   exact TX.fin (rs := [.tmp 2]) () (.inl rfl) Try.results67 (.cons (.tmp rfl) .nil) (congrArg Value.bool (by rw [Bool.eq_iff_iff]; unfold dot; simp_all <;> (try intro _) <;> omega)) Splits.nil
 ·
  -- no
  refine TO.skip rfl (by decide) (TO.skip rfl (by decide) (TO.skip rfl (by decide) (TO.skip rfl (by decide) (TO.skip rfl (by decide) (TO.skip rfl (by decide) (TO.skip rfl (by decide) (TO.skip rfl (by decide) (TO.pick (b := false) rfl (by decide) rfl rfl (TO.assign rfl (by decide) rfl (TO.nil (TX.next (TC.ret ?_))))))))))))
  exact TX.fin (rs := [.tmp 2]) () (.inl rfl) Try.results67 (.cons (.tmp rfl) .nil) (congrArg Value.bool (by rw [Bool.eq_iff_iff]; unfold dot; simp_all <;> (try intro _) <;> omega)) Splits.nil

theorem bare_p' (k : Int) (b : Bool) (h : ubare k = b) : FnP Try.prog 65 [.int .i64 k] (.bool b) := h ▸ bare_p k

set_option maxRecDepth 100000 in
set_option maxHeartbeats 4000000 in
theorem units1_itr (s : ByteArray) (hs : s.size ≤ 4611686018427387904) (Bs : Nat) : Itr Try.prog 62 [.pointer (some ⟨Bs, 0, none⟩)] unA (units (pcs s.data.toList)) [(Bs, .cells #[.string s] 9 (0, 0))] := by
 refine Itr.intro Try.func62 rfl Try.ntmps62 (by simp) ?_
 intro l w0 K I X hRo hy
 refine TC.seq (TC.region ?_)
 refine TO.box rfl (by decide) rfl (fun b1 => ?_)
 refine TO.nil (TX.next (TC.seq (TC.region ?_)))
 refine TO.alloc zr_67 rfl (by decide) (fun b2 => ?_)
 refine TO.nil (TX.next (TC.seq (TC.seq (TC.region (TO.loadRo (i := 0) hRo sc_9 rfl (by decide) rfl rfl rfl (TO.call (vs := [.string s]) rfl (by decide) rfl rfl rfl en_63 (rpcs_fn s) Splits.nil ?_))))))
 rintro bp
 show TO _ _ _ _ _ _ _ _ _ _ [I [], cells b1 [.func (.yield l) #[] #[]] 91, cells b2 [.int .i64 0, .int .i32 0, .int .i64 0, .int .i64 0, .bool false] 67, cells bp [.string s] 9]
 refine TO.nil (TX.next (TC.block ?_))
 refine TC.range (α := Pc) (β := List Un × Option Un) (γ := List Un × Un × List Un) (δ := Nat) (ps := [8]) hRo rfl en_79 (rpieces1_itr s (by omega) bp) (fun pre b => ufold pre = b) (fun pre b => [cells b1 [.func (.yield l) #[] #[]] 91, cells b2 [.int .i64 (uK b.2), .int .i32 (uR b.2), .int .i64 (uF b.2), .int .i64 (uT b.2), .bool (uA b.2)] 67, I b.1]) (fun c pre g => c = .ret ∧ units (pcs s.data.toList) = g.1 ++ g.2.1 :: g.2.2) (fun c pre g => [X (g.1 ++ [g.2.1])]) (fun pre x b j => [(2, .pointer (some ⟨b1, 0, none⟩)), (3, .pointer (some ⟨b2, 0, none⟩)), (4, .pointer (some ⟨j, 0, none⟩))]) (fun pre x b j => [cells b1 [.func (.yield l) #[] #[]] 91, cells b2 [.int .i64 (uK b.2), .int .i32 (uR b.2), .int .i64 (uF b.2), .int .i64 (uT b.2), .bool (uA b.2)] 67, I b.1, cells j [.int .i64 (x.i : Int), .int .i64 (x.w : Int), .int .i32 (x.r : Int), .bool x.broken] 78]) ([], none) rfl (Splits.of [1, 2, 0] (by as_aux_lemma => kernel_rfl) rfl) ⟨.inl ⟨3, rfl⟩, trivial⟩ (fun _ => rfl) (by decide) ?_ ?_ ?_ ?_
 ·
  rintro lp rc pre x post b w1 K1 hxs hext hro hinv
  refine TC.region ?_
  refine TO.alloc zr_78 rfl (by decide) (fun b3 => ?_)
  refine TO.stores (k := 3) (vs := [.int .i64 (x.i : Int), .int .i64 (x.w : Int), .int .i32 (x.r : Int), .bool x.broken]) (l' := [.int .i64 (x.i : Int), .int .i64 (x.w : Int), .int .i32 (x.r : Int), .bool x.broken]) sz_78 rfl rfl rfl rfl rfl (show _ ≤ _ by simp) rfl rfl ?_
  show TO _ _ _ _ _ _ _ _ _ _ [cells b1 [.func (.yield l) #[] #[]] 91, cells b2 [.int .i64 (uK b.2), .int .i32 (uR b.2), .int .i64 (uF b.2), .int .i64 (uT b.2), .bool (uA b.2)] 67, I b.1, cells b3 [.int .i64 (x.i : Int), .int .i64 (x.w : Int), .int .i32 (x.r : Int), .bool x.broken] 78]
  refine TO.nil ?_
  exact fun a w ha hw => ⟨b3, (Sbs.cons rfl (Sbs.cons rfl (Sbs.cons rfl (Sbs.nil)))) _ _ _ ha, hw.weaken (Splits.of [0, 1, 2, 3] (by as_aux_lemma => kernel_rfl) rfl)⟩
 ·
  rintro lp rc pre x post b j w1 K1 hxs hext hro hinv
  have hmem : x ∈ pcs s.data.toList := by rw [hxs]; simp
  have hv := pcs_valid _ x hmem
  have hend : x.i + x.w ≤ s.size := by simpa using (pcs_pos _ x hmem).2.1
  have hsn := ufold_snoc pre x
  obtain ⟨E, o⟩ := b
  have hinv : ufold pre = (E, o) := hinv
  rw [hinv] at hsn
  rcases o with _ | n
  ·
   show TC _ _ _ _ _ _ _ _ _ [cells b1 [.func (.yield l) #[] #[]] 91, cells b2 [.int .i64 0, .int .i32 0, .int .i64 0, .int .i64 0, .bool false] 67, I E, cells j [.int .i64 (x.i : Int), .int .i64 (x.w : Int), .int .i32 (x.r : Int), .bool x.broken] 78]
   by_cases hm : pk x = 2
   ·
    refine TC.block (TC.seq (TC.region (TO.loads (k := 3) (cs := [.int .i64 (x.i : Int), .int .i64 (x.w : Int), .int .i32 (x.r : Int), .bool x.broken]) rw_78 rfl (by decide) rfl rfl rfl rfl (TO.callP (v := .int .i64 (pk x)) (vs := [.agg #[.int .i64 (x.i : Int), .int .i64 (x.w : Int), .int .i32 (x.r : Int), .bool x.broken]]) rfl (by decide) rfl rfl rfl en_64 (of_p _ _ _ _ (by omega) (by omega)) (TO.assign rfl (by decide) rfl (TO.nil (TX.next (TC.seq (TC.seq (TC.region (TO.move rfl (by decide) rfl (TO.bin rfl (by decide) rfl rfl (bin_known (congrArg Value.bool (show (((pk x) : Int) == 2) = true from (beq_iff_eq.2 hm))) bin_eql) (TO.move rfl (by decide) rfl ?_)))))))))))))
    refine TO.fieldAddr fl_67_2 rfl (by decide) rfl (show _ = 2 from rfl) (TO.fieldAddr fl_34_1 rfl (by decide) rfl (show _ = 3 from rfl) (TO.load (k := 1) sc_3 rfl (by decide) rfl rfl rfl (TO.bin rfl (by decide) rfl rfl (bin_known (congrArg Value.bool (show (decide ((0 : Int) < 0)) = false from (by decide))) bin_gtr) (TO.pick (b := true) rfl (by decide) rfl rfl (TO.move rfl (by decide) rfl (TO.skip rfl (by decide) (TO.skip rfl (by decide) (TO.skip rfl (by decide) (TO.skip rfl (by decide) (TO.pick (b := false) rfl (by decide) rfl rfl (TO.nil (TX.next (TC.condF rfl ?_)))))))))))))
    refine TC.skip (TX.next (TC.seq (TC.seq (TC.region (TO.fieldAddr fl_67_2 rfl (by decide) rfl (show _ = 2 from rfl) (TO.fieldAddr fl_34_1 rfl (by decide) rfl (show _ = 3 from rfl) (TO.load (k := 1) sc_3 rfl (by decide) rfl rfl rfl (TO.bin rfl (by decide) rfl rfl (bin_known (congrArg Value.bool (show (decide ((0 : Int) < 0)) = false from (by decide))) bin_gtr) (TO.move rfl (by decide) rfl (TO.skip rfl (by decide) (TO.skip rfl (by decide) (TO.skip rfl (by decide) (TO.skip rfl (by decide) ?_)))))))))))))
    refine TO.pick (b := false) rfl (by decide) rfl rfl (TO.nil (TX.next (TC.condF rfl (TC.skip (TX.next (TC.region (TO.move rfl (by decide) rfl (TO.fieldAddr fl_78_2 rfl (by decide) rfl (show _ = 2 from rfl) (TO.load (k := 3) sc_21 rfl (by decide) rfl rfl rfl (TO.fieldAddr fl_78_0 rfl (by decide) rfl (show _ = 0 from rfl) (TO.load (k := 3) sc_3 rfl (by decide) rfl rfl rfl (TO.fieldAddr fl_78_0 rfl (by decide) rfl (show _ = 0 from rfl) (TO.load (k := 3) sc_3 rfl (by decide) rfl rfl rfl ?_)))))))))))))
    refine TO.fieldAddr fl_78_1 rfl (by decide) rfl (show _ = 1 from rfl) (TO.load (k := 3) sc_3 rfl (by decide) rfl rfl rfl (TO.bin rfl (by decide) rfl rfl (bin_add (r := (x.i : Int) + (x.w : Int)) (IntWalk.i64_in _ (by omega))) ?_))
    refine TO.build (v := .agg #[.int .i64 (x.i : Int), .int .i64 ((x.i : Int) + (x.w : Int))]) (ps := [(0, .tmp 48), (1, .tmp 53)]) rfl (by decide) rfl (fun _ => by kernel_rfl) ?_
    refine TO.build (v := .agg #[.int .i64 (pk x), .int .i32 (x.r : Int), .int .i64 (x.i : Int), .int .i64 ((x.i : Int) + (x.w : Int)), .bool true]) (ps := [(0, .tmp 44), (1, .tmp 46), (2, .tmp 54), (3, .const (.bool true))]) rfl (by decide) rfl (fun _ => by kernel_rfl) ?_
    refine TO.stores (k := 1) (vs := [.int .i64 (pk x), .int .i32 (x.r : Int), .int .i64 (x.i : Int), .int .i64 ((x.i : Int) + (x.w : Int)), .bool true]) (l' := [.int .i64 (pk x), .int .i32 (x.r : Int), .int .i64 (x.i : Int), .int .i64 ((x.i : Int) + (x.w : Int)), .bool true]) sz_67 rfl rfl rfl rfl rfl (show _ ≤ _ by simp) rfl rfl (TO.nil (TX.blockNormal ?_))
    exact TX.round (E, some (unew x)) (by show ufold (pre ++ [x]) = _; rw [hsn]; rfl) (Splits.of [0, 1, 2] (by as_aux_lemma => kernel_rfl) rfl)
   ·
    refine TC.block (TC.seq (TC.region (TO.loads (k := 3) (cs := [.int .i64 (x.i : Int), .int .i64 (x.w : Int), .int .i32 (x.r : Int), .bool x.broken]) rw_78 rfl (by decide) rfl rfl rfl rfl (TO.callP (v := .int .i64 (pk x)) (vs := [.agg #[.int .i64 (x.i : Int), .int .i64 (x.w : Int), .int .i32 (x.r : Int), .bool x.broken]]) rfl (by decide) rfl rfl rfl en_64 (of_p _ _ _ _ (by omega) (by omega)) (TO.assign rfl (by decide) rfl (TO.nil (TX.next (TC.seq (TC.seq (TC.region (TO.move rfl (by decide) rfl (TO.bin rfl (by decide) rfl rfl (bin_known (congrArg Value.bool (show (((pk x) : Int) == 2) = false from (beq_eq_false_iff_ne.2 hm))) bin_eql) (TO.move rfl (by decide) rfl ?_)))))))))))))
    refine TO.skip rfl (by decide) (TO.skip rfl (by decide) (TO.skip rfl (by decide) (TO.skip rfl (by decide) (TO.pick (b := false) rfl (by decide) rfl rfl (TO.move rfl (by decide) rfl (TO.skip rfl (by decide) (TO.skip rfl (by decide) (TO.skip rfl (by decide) (TO.skip rfl (by decide) (TO.pick (b := false) rfl (by decide) rfl rfl (TO.nil (TX.next (TC.condF rfl ?_)))))))))))))
    refine TC.skip (TX.next (TC.seq (TC.seq (TC.region (TO.fieldAddr fl_67_2 rfl (by decide) rfl (show _ = 2 from rfl) (TO.fieldAddr fl_34_1 rfl (by decide) rfl (show _ = 3 from rfl) (TO.load (k := 1) sc_3 rfl (by decide) rfl rfl rfl (TO.bin rfl (by decide) rfl rfl (bin_known (congrArg Value.bool (show (decide ((0 : Int) < 0)) = false from (by decide))) bin_gtr) (TO.move rfl (by decide) rfl (TO.skip rfl (by decide) (TO.skip rfl (by decide) (TO.skip rfl (by decide) (TO.skip rfl (by decide) ?_)))))))))))))
    refine TO.pick (b := false) rfl (by decide) rfl rfl (TO.nil (TX.next (TC.condF rfl (TC.skip (TX.next (TC.region (TO.move rfl (by decide) rfl (TO.fieldAddr fl_78_2 rfl (by decide) rfl (show _ = 2 from rfl) (TO.load (k := 3) sc_21 rfl (by decide) rfl rfl rfl (TO.fieldAddr fl_78_0 rfl (by decide) rfl (show _ = 0 from rfl) (TO.load (k := 3) sc_3 rfl (by decide) rfl rfl rfl (TO.fieldAddr fl_78_0 rfl (by decide) rfl (show _ = 0 from rfl) (TO.load (k := 3) sc_3 rfl (by decide) rfl rfl rfl ?_)))))))))))))
    refine TO.fieldAddr fl_78_1 rfl (by decide) rfl (show _ = 1 from rfl) (TO.load (k := 3) sc_3 rfl (by decide) rfl rfl rfl (TO.bin rfl (by decide) rfl rfl (bin_add (r := (x.i : Int) + (x.w : Int)) (IntWalk.i64_in _ (by omega))) ?_))
    refine TO.build (v := .agg #[.int .i64 (x.i : Int), .int .i64 ((x.i : Int) + (x.w : Int))]) (ps := [(0, .tmp 48), (1, .tmp 53)]) rfl (by decide) rfl (fun _ => by kernel_rfl) ?_
    refine TO.build (v := .agg #[.int .i64 (pk x), .int .i32 (x.r : Int), .int .i64 (x.i : Int), .int .i64 ((x.i : Int) + (x.w : Int)), .bool true]) (ps := [(0, .tmp 44), (1, .tmp 46), (2, .tmp 54), (3, .const (.bool true))]) rfl (by decide) rfl (fun _ => by kernel_rfl) ?_
    refine TO.stores (k := 1) (vs := [.int .i64 (pk x), .int .i32 (x.r : Int), .int .i64 (x.i : Int), .int .i64 ((x.i : Int) + (x.w : Int)), .bool true]) (l' := [.int .i64 (pk x), .int .i32 (x.r : Int), .int .i64 (x.i : Int), .int .i64 ((x.i : Int) + (x.w : Int)), .bool true]) sz_67 rfl rfl rfl rfl rfl (show _ ≤ _ by simp) rfl rfl (TO.nil (TX.blockNormal ?_))
    exact TX.round (E, some (unew x)) (by show ufold (pre ++ [x]) = _; rw [hsn]; rfl) (Splits.of [0, 1, 2] (by as_aux_lemma => kernel_rfl) rfl)
  ·
   show TC _ _ _ _ _ _ _ _ _ [cells b1 [.func (.yield l) #[] #[]] 91, cells b2 [.int .i64 n.k, .int .i32 (n.r : Int), .int .i64 (n.f : Int), .int .i64 (n.t : Int), .bool n.al] 67, I E, cells j [.int .i64 (x.i : Int), .int .i64 (x.w : Int), .int .i32 (x.r : Int), .bool x.broken] 78]
   have hwf := ufold_end s.data.toList _ pre (x :: post) (Nat.le_refl _) hxs E n hinv
   have hxi : x.i = n.t := hwf.2.2.1 x rfl
   have ht0 : (0 : Int) < n.t := by have := hwf.1; omega
   by_cases hm : pk x = 2
   ·
    cases hb : ubare n.k
    ·
     refine TC.block (TC.seq (TC.region (TO.loads (k := 3) (cs := [.int .i64 (x.i : Int), .int .i64 (x.w : Int), .int .i32 (x.r : Int), .bool x.broken]) rw_78 rfl (by decide) rfl rfl rfl rfl (TO.callP (v := .int .i64 (pk x)) (vs := [.agg #[.int .i64 (x.i : Int), .int .i64 (x.w : Int), .int .i32 (x.r : Int), .bool x.broken]]) rfl (by decide) rfl rfl rfl en_64 (of_p _ _ _ _ (by omega) (by omega)) (TO.assign rfl (by decide) rfl (TO.nil (TX.next (TC.seq (TC.seq (TC.region (TO.move rfl (by decide) rfl (TO.bin rfl (by decide) rfl rfl (bin_known (congrArg Value.bool (show (((pk x) : Int) == 2) = true from (beq_iff_eq.2 hm))) bin_eql) (TO.move rfl (by decide) rfl ?_)))))))))))))
     refine TO.fieldAddr fl_67_2 rfl (by decide) rfl (show _ = 2 from rfl) (TO.fieldAddr fl_34_1 rfl (by decide) rfl (show _ = 3 from rfl) (TO.load (k := 1) sc_3 rfl (by decide) rfl rfl rfl (TO.bin rfl (by decide) rfl rfl (bin_known (congrArg Value.bool (show (decide ((0 : Int) < (n.t : Int))) = true from (decide_eq_true ht0))) bin_gtr) (TO.pick (b := true) rfl (by decide) rfl rfl (TO.move rfl (by decide) rfl (TO.fieldAddr fl_67_0 rfl (by decide) rfl (show _ = 0 from rfl) (TO.load (k := 1) sc_56 rfl (by decide) rfl rfl rfl (TO.callP (v := .bool false) (vs := [.int .i64 n.k]) rfl (by decide) rfl rfl rfl en_65 (bare_p' _ _ hb) (TO.un rfl (by decide) rfl un_not (TO.pick (b := true) rfl (by decide) rfl rfl (TO.nil (TX.next (TC.condT rfl ?_)))))))))))))
     refine TC.seq (TC.region (TO.fieldAddr fl_67_2 rfl (by decide) rfl (show _ = 2 from rfl) (TO.fieldAddr fl_34_1 rfl (by decide) rfl (show _ = 3 from rfl) (TO.load (k := 1) sc_3 rfl (by decide) rfl rfl rfl (TO.fieldAddr fl_78_1 rfl (by decide) rfl (show _ = 1 from rfl) (TO.load (k := 3) sc_3 rfl (by decide) rfl rfl rfl (TO.bin rfl (by decide) rfl rfl (bin_add (r := (n.t : Int) + (x.w : Int)) (IntWalk.i64_in _ (by omega))) (TO.fieldAddr fl_67_2 rfl (by decide) rfl (show _ = 2 from rfl) (TO.fieldAddr fl_34_1 rfl (by decide) rfl (show _ = 3 from rfl) ?_)))))))))
     refine TO.store (k := 1) (l' := [.int .i64 n.k, .int .i32 (n.r : Int), .int .i64 (n.f : Int), .int .i64 ((n.t : Int) + (x.w : Int)), .bool n.al]) sz_3 rfl rfl rfl rfl rfl (fun _ _ => rfl) rfl ?_
     refine TO.nil (TX.next (TC.seq (TC.region (TO.fieldAddr fl_67_3 rfl (by decide) rfl (show _ = 4 from rfl) ?_))))
     refine TO.store (k := 1) (l' := [.int .i64 n.k, .int .i32 (n.r : Int), .int .i64 (n.f : Int), .int .i64 ((n.t : Int) + (x.w : Int)), .bool false]) sz_4 rfl rfl rfl rfl rfl (fun _ _ => rfl) rfl ?_
     show TO _ _ _ _ _ _ _ _ _ _ [cells b1 [.func (.yield l) #[] #[]] 91, cells b2 [.int .i64 n.k, .int .i32 (n.r : Int), .int .i64 (n.f : Int), .int .i64 ((n.t : Int) + (x.w : Int)), .bool false] 67, I E, cells j [.int .i64 (x.i : Int), .int .i64 (x.w : Int), .int .i32 (x.r : Int), .bool x.broken] 78]
     refine TO.nil (TX.next (TC.exit (TX.thenExit (TX.blockHere ?_))))
     exact TX.round (E, some ⟨n.k, n.r, n.f, n.t + x.w, false⟩) (by show ufold (pre ++ [x]) = _; rw [hsn]; simp only [ustep]; rw [if_pos ⟨hm, hb⟩]) (Splits.of [0, 1, 2] (by as_aux_lemma => kernel_rfl) rfl)
    ·
     have hne : ¬ (pk x = 2 ∧ ubare n.k = false) := fun h => by rw [hb] at h; cases h.2
     refine TC.block (TC.seq (TC.region (TO.loads (k := 3) (cs := [.int .i64 (x.i : Int), .int .i64 (x.w : Int), .int .i32 (x.r : Int), .bool x.broken]) rw_78 rfl (by decide) rfl rfl rfl rfl (TO.callP (v := .int .i64 (pk x)) (vs := [.agg #[.int .i64 (x.i : Int), .int .i64 (x.w : Int), .int .i32 (x.r : Int), .bool x.broken]]) rfl (by decide) rfl rfl rfl en_64 (of_p _ _ _ _ (by omega) (by omega)) (TO.assign rfl (by decide) rfl (TO.nil (TX.next (TC.seq (TC.seq (TC.region (TO.move rfl (by decide) rfl (TO.bin rfl (by decide) rfl rfl (bin_known (congrArg Value.bool (show (((pk x) : Int) == 2) = true from (beq_iff_eq.2 hm))) bin_eql) (TO.move rfl (by decide) rfl ?_)))))))))))))
     refine TO.fieldAddr fl_67_2 rfl (by decide) rfl (show _ = 2 from rfl) (TO.fieldAddr fl_34_1 rfl (by decide) rfl (show _ = 3 from rfl) (TO.load (k := 1) sc_3 rfl (by decide) rfl rfl rfl (TO.bin rfl (by decide) rfl rfl (bin_known (congrArg Value.bool (show (decide ((0 : Int) < (n.t : Int))) = true from (decide_eq_true ht0))) bin_gtr) (TO.pick (b := true) rfl (by decide) rfl rfl (TO.move rfl (by decide) rfl (TO.fieldAddr fl_67_0 rfl (by decide) rfl (show _ = 0 from rfl) (TO.load (k := 1) sc_56 rfl (by decide) rfl rfl rfl (TO.callP (v := .bool true) (vs := [.int .i64 n.k]) rfl (by decide) rfl rfl rfl en_65 (bare_p' _ _ hb) (TO.un rfl (by decide) rfl un_not (TO.pick (b := true) rfl (by decide) rfl rfl (TO.nil (TX.next (TC.condF rfl ?_)))))))))))))
     refine TC.skip (TX.next (TC.seq (TC.seq (TC.region (TO.fieldAddr fl_67_2 rfl (by decide) rfl (show _ = 2 from rfl) (TO.fieldAddr fl_34_1 rfl (by decide) rfl (show _ = 3 from rfl) (TO.load (k := 1) sc_3 rfl (by decide) rfl rfl rfl (TO.bin rfl (by decide) rfl rfl (bin_known (congrArg Value.bool (show (decide ((0 : Int) < (n.t : Int))) = true from (decide_eq_true ht0))) bin_gtr) (TO.move rfl (by decide) rfl (TO.load (k := 0) sc_91 rfl (by decide) rfl rfl rfl (TO.loads (k := 1) (cs := [.int .i64 n.k, .int .i32 (n.r : Int), .int .i64 (n.f : Int), .int .i64 (n.t : Int), .bool n.al]) rw_67 rfl (by decide) rfl rfl rfl rfl ?_)))))))))))
     obtain ⟨q, hq⟩ := units_at pre post x E n hinv hne
     refine TO.yield (hy.later hext) rfl (by decide) rfl (hxs ▸ hq) rfl (k := 2) rfl ?_ ?_
     ·
      -- yes
      refine TO.un rfl (by decide) rfl un_not (TO.pick (b := true) rfl (by decide) rfl rfl (TO.nil (TX.next (TC.condF rfl (TC.skip (TX.next (TC.region (TO.move rfl (by decide) rfl (TO.fieldAddr fl_78_2 rfl (by decide) rfl (show _ = 2 from rfl) (TO.load (k := 3) sc_21 rfl (by decide) rfl rfl rfl (TO.fieldAddr fl_78_0 rfl (by decide) rfl (show _ = 0 from rfl) (TO.load (k := 3) sc_3 rfl (by decide) rfl rfl rfl (TO.fieldAddr fl_78_0 rfl (by decide) rfl (show _ = 0 from rfl) ?_)))))))))))))
      refine TO.load (k := 3) sc_3 rfl (by decide) rfl rfl rfl (TO.fieldAddr fl_78_1 rfl (by decide) rfl (show _ = 1 from rfl) (TO.load (k := 3) sc_3 rfl (by decide) rfl rfl rfl (TO.bin rfl (by decide) rfl rfl (bin_add (r := (x.i : Int) + (x.w : Int)) (IntWalk.i64_in _ (by omega))) ?_)))
      refine TO.build (v := .agg #[.int .i64 (x.i : Int), .int .i64 ((x.i : Int) + (x.w : Int))]) (ps := [(0, .tmp 48), (1, .tmp 53)]) rfl (by decide) rfl (fun _ => by kernel_rfl) ?_
      refine TO.build (v := .agg #[.int .i64 (pk x), .int .i32 (x.r : Int), .int .i64 (x.i : Int), .int .i64 ((x.i : Int) + (x.w : Int)), .bool true]) (ps := [(0, .tmp 44), (1, .tmp 46), (2, .tmp 54), (3, .const (.bool true))]) rfl (by decide) rfl (fun _ => by kernel_rfl) ?_
      refine TO.stores (k := 1) (vs := [.int .i64 (pk x), .int .i32 (x.r : Int), .int .i64 (x.i : Int), .int .i64 ((x.i : Int) + (x.w : Int)), .bool true]) (l' := [.int .i64 (pk x), .int .i32 (x.r : Int), .int .i64 (x.i : Int), .int .i64 ((x.i : Int) + (x.w : Int)), .bool true]) sz_67 rfl rfl rfl rfl rfl (show _ ≤ _ by simp) rfl rfl (TO.nil (TX.blockNormal ?_))
      exact TX.round (E ++ [n], some (unew x)) (by show ufold (pre ++ [x]) = _; rw [hsn]; simp only [ustep]; rw [if_neg hne]) (Splits.of [0, 1, 2] (by as_aux_lemma => kernel_rfl) rfl)
     ·
      -- no
      refine TO.un rfl (by decide) rfl un_not (TO.pick (b := true) rfl (by decide) rfl rfl (TO.nil (TX.next (TC.condT rfl (TC.ret (TX.thenRet (TX.blockRet ?_)))))))
      exact TX.roundRet (E, n, q) ⟨rfl, (hxs ▸ hq)⟩ (Splits.of [2] (by as_aux_lemma => kernel_rfl) rfl)
   ·
    have hne : ¬ (pk x = 2 ∧ ubare n.k = false) := fun h => hm h.1
    refine TC.block (TC.seq (TC.region (TO.loads (k := 3) (cs := [.int .i64 (x.i : Int), .int .i64 (x.w : Int), .int .i32 (x.r : Int), .bool x.broken]) rw_78 rfl (by decide) rfl rfl rfl rfl (TO.callP (v := .int .i64 (pk x)) (vs := [.agg #[.int .i64 (x.i : Int), .int .i64 (x.w : Int), .int .i32 (x.r : Int), .bool x.broken]]) rfl (by decide) rfl rfl rfl en_64 (of_p _ _ _ _ (by omega) (by omega)) (TO.assign rfl (by decide) rfl (TO.nil (TX.next (TC.seq (TC.seq (TC.region (TO.move rfl (by decide) rfl (TO.bin rfl (by decide) rfl rfl (bin_known (congrArg Value.bool (show (((pk x) : Int) == 2) = false from (beq_eq_false_iff_ne.2 hm))) bin_eql) (TO.move rfl (by decide) rfl ?_)))))))))))))
    refine TO.skip rfl (by decide) (TO.skip rfl (by decide) (TO.skip rfl (by decide) (TO.skip rfl (by decide) (TO.pick (b := false) rfl (by decide) rfl rfl (TO.move rfl (by decide) rfl (TO.skip rfl (by decide) (TO.skip rfl (by decide) (TO.skip rfl (by decide) (TO.skip rfl (by decide) (TO.pick (b := false) rfl (by decide) rfl rfl (TO.nil (TX.next (TC.condF rfl ?_)))))))))))))
    refine TC.skip (TX.next (TC.seq (TC.seq (TC.region (TO.fieldAddr fl_67_2 rfl (by decide) rfl (show _ = 2 from rfl) (TO.fieldAddr fl_34_1 rfl (by decide) rfl (show _ = 3 from rfl) (TO.load (k := 1) sc_3 rfl (by decide) rfl rfl rfl (TO.bin rfl (by decide) rfl rfl (bin_known (congrArg Value.bool (show (decide ((0 : Int) < (n.t : Int))) = true from (decide_eq_true ht0))) bin_gtr) (TO.move rfl (by decide) rfl (TO.load (k := 0) sc_91 rfl (by decide) rfl rfl rfl (TO.loads (k := 1) (cs := [.int .i64 n.k, .int .i32 (n.r : Int), .int .i64 (n.f : Int), .int .i64 (n.t : Int), .bool n.al]) rw_67 rfl (by decide) rfl rfl rfl rfl ?_)))))))))))
    obtain ⟨q, hq⟩ := units_at pre post x E n hinv hne
    refine TO.yield (hy.later hext) rfl (by decide) rfl (hxs ▸ hq) rfl (k := 2) rfl ?_ ?_
    ·
     -- yes
     refine TO.un rfl (by decide) rfl un_not (TO.pick (b := true) rfl (by decide) rfl rfl (TO.nil (TX.next (TC.condF rfl (TC.skip (TX.next (TC.region (TO.move rfl (by decide) rfl (TO.fieldAddr fl_78_2 rfl (by decide) rfl (show _ = 2 from rfl) (TO.load (k := 3) sc_21 rfl (by decide) rfl rfl rfl (TO.fieldAddr fl_78_0 rfl (by decide) rfl (show _ = 0 from rfl) (TO.load (k := 3) sc_3 rfl (by decide) rfl rfl rfl (TO.fieldAddr fl_78_0 rfl (by decide) rfl (show _ = 0 from rfl) ?_)))))))))))))
     refine TO.load (k := 3) sc_3 rfl (by decide) rfl rfl rfl (TO.fieldAddr fl_78_1 rfl (by decide) rfl (show _ = 1 from rfl) (TO.load (k := 3) sc_3 rfl (by decide) rfl rfl rfl (TO.bin rfl (by decide) rfl rfl (bin_add (r := (x.i : Int) + (x.w : Int)) (IntWalk.i64_in _ (by omega))) ?_)))
     refine TO.build (v := .agg #[.int .i64 (x.i : Int), .int .i64 ((x.i : Int) + (x.w : Int))]) (ps := [(0, .tmp 48), (1, .tmp 53)]) rfl (by decide) rfl (fun _ => by kernel_rfl) ?_
     refine TO.build (v := .agg #[.int .i64 (pk x), .int .i32 (x.r : Int), .int .i64 (x.i : Int), .int .i64 ((x.i : Int) + (x.w : Int)), .bool true]) (ps := [(0, .tmp 44), (1, .tmp 46), (2, .tmp 54), (3, .const (.bool true))]) rfl (by decide) rfl (fun _ => by kernel_rfl) ?_
     refine TO.stores (k := 1) (vs := [.int .i64 (pk x), .int .i32 (x.r : Int), .int .i64 (x.i : Int), .int .i64 ((x.i : Int) + (x.w : Int)), .bool true]) (l' := [.int .i64 (pk x), .int .i32 (x.r : Int), .int .i64 (x.i : Int), .int .i64 ((x.i : Int) + (x.w : Int)), .bool true]) sz_67 rfl rfl rfl rfl rfl (show _ ≤ _ by simp) rfl rfl (TO.nil (TX.blockNormal ?_))
     exact TX.round (E ++ [n], some (unew x)) (by show ufold (pre ++ [x]) = _; rw [hsn]; simp only [ustep]; rw [if_neg hne]) (Splits.of [0, 1, 2] (by as_aux_lemma => kernel_rfl) rfl)
    ·
     -- no
     refine TO.un rfl (by decide) rfl un_not (TO.pick (b := true) rfl (by decide) rfl rfl (TO.nil (TX.next (TC.condT rfl (TC.ret (TX.thenRet (TX.blockRet ?_)))))))
     exact TX.roundRet (E, n, q) ⟨rfl, (hxs ▸ hq)⟩ (Splits.of [2] (by as_aux_lemma => kernel_rfl) rfl)
 ·
  rintro d b hinv
  show TX _ _ _ _ _ _ _ [emp, emp, emp, cells bp [.string s] 9, cells b1 [.func (.yield l) #[] #[]] 91, cells b2 [.int .i64 (uK b.2), .int .i32 (uR b.2), .int .i64 (uF b.2), .int .i64 (uT b.2), .bool (uA b.2)] 67, I b.1, mark d]
  obtain ⟨E, o⟩ := b
  have hinv : ufold (pcs s.data.toList) = (E, o) := hinv
  rcases o with _ | n
  ·
   show TX _ _ _ _ _ _ _ [emp, emp, emp, cells bp [.string s] 9, cells b1 [.func (.yield l) #[] #[]] 91, cells b2 [.int .i64 0, .int .i32 0, .int .i64 0, .int .i64 0, .bool false] 67, I E, mark d]
   refine TX.blockNormal (TX.next (TC.seq (TC.region (TO.fieldAddr fl_67_2 rfl (by decide) rfl (show _ = 2 from rfl) (TO.fieldAddr fl_34_1 rfl (by decide) rfl (show _ = 3 from rfl) (TO.load (k := 5) sc_3 rfl (by decide) rfl rfl rfl (TO.bin rfl (by decide) rfl rfl (bin_known (congrArg Value.bool (show (decide ((0 : Int) < 0)) = false from (by decide))) bin_gtr) (TO.nil (TX.next (TC.condF rfl (TC.skip ?_)))))))))))
   have he : I (units (pcs s.data.toList)) = I E := by unfold units; rw [hinv]; rfl
   exact TX.finY (ds := [d]) (.inr rfl) (Splits.of [7] (by as_aux_lemma => kernel_rfl) rfl) Try.results62 he (Splits.of [6] (by as_aux_lemma => kernel_rfl) rfl)
  ·
   show TX _ _ _ _ _ _ _ [emp, emp, emp, cells bp [.string s] 9, cells b1 [.func (.yield l) #[] #[]] 91, cells b2 [.int .i64 n.k, .int .i32 (n.r : Int), .int .i64 (n.f : Int), .int .i64 (n.t : Int), .bool n.al] 67, I E, mark d]
   have hwf := ufold_end s.data.toList _ (pcs s.data.toList) [] (Nat.le_refl _) (by simp) E n hinv
   have ht0 : (0 : Int) < n.t := by have := hwf.1; omega
   refine TX.blockNormal (TX.next (TC.seq (TC.region (TO.fieldAddr fl_67_2 rfl (by decide) rfl (show _ = 2 from rfl) (TO.fieldAddr fl_34_1 rfl (by decide) rfl (show _ = 3 from rfl) (TO.load (k := 5) sc_3 rfl (by decide) rfl rfl rfl (TO.bin rfl (by decide) rfl rfl (bin_known (congrArg Value.bool (show (decide ((0 : Int) < (n.t : Int))) = true from (decide_eq_true ht0))) bin_gtr) (TO.nil (TX.next (TC.condT rfl (TC.region (TO.load (k := 4) sc_91 rfl (by decide) rfl rfl rfl (TO.loads (k := 5) (cs := [.int .i64 n.k, .int .i32 (n.r : Int), .int .i64 (n.f : Int), .int .i64 (n.t : Int), .bool n.al]) rw_67 rfl (by decide) rfl rfl rfl rfl ?_)))))))))))))
   refine TO.yield hy rfl (by decide) rfl (pre := E) (e := n) (post := []) (units_last _ E n hinv) rfl (k := 6) rfl ?_ ?_
   ·
    -- yes
    refine TO.nil ?_
    have he : I (units (pcs s.data.toList)) = I (E ++ [n]) := by rw [units_last _ E n hinv]
    exact TX.finY (ds := [d]) (.inr rfl) (Splits.of [7] (by as_aux_lemma => kernel_rfl) rfl) Try.results62 he (Splits.of [6] (by as_aux_lemma => kernel_rfl) rfl)
   ·
    -- no
    refine TO.nil ?_
    exact TX.finX (ds := [d]) E n [] (units_last _ E n hinv) (.inr rfl) (Splits.of [7] (by as_aux_lemma => kernel_rfl) rfl) Try.results62 (Splits.of [6] (by as_aux_lemma => kernel_rfl) rfl)
 ·
  rintro d c pre x post g hxs hX
  show TC _ _ _ _ _ _ _ _ _ [emp, emp, emp, cells bp [.string s] 9, X (g.1 ++ [g.2.1]), mark d]
  obtain ⟨E, n, q⟩ := g
  obtain ⟨rfl, hq⟩ := hX
  refine TC.ret (TX.blockRet (TX.thenRet ?_))
  exact TX.finX (ds := [d]) E n q hq (.inl rfl) (Splits.of [5] (by as_aux_lemma => kernel_rfl) rfl) Try.results62 (Splits.of [4] (by as_aux_lemma => kernel_rfl) rfl)

theorem units_fn (s : ByteArray) : Fn Try.prog 47 [.string s] [] (fun b : Nat => .func (.func 62) #[] #[.pointer (some ⟨b, 0, none⟩)]) (fun b => [cells b [.string s] 9]) := by
 refine Fn.intro Try.func47 rfl Try.ntmps47 (by simp) ?_
 intro w0 K
 refine TC.seq (TC.region ?_)
 refine TO.box rfl (by decide) rfl (fun b1 => ?_)
 refine TO.assign rfl (by decide) rfl (TO.nil (TX.next (TC.seq (TC.region (TO.makeFunc (x1 := []) (x2 := [.tmp 1]) rfl (by decide) rfl rfl (TO.assign rfl (by decide) rfl (TO.nil (TX.next (TC.ret ?_)))))))))
 exact TX.fin (rs := [.tmp 2]) b1 (.inl rfl) Try.results47 (.cons (.tmp rfl) .nil) rfl (Splits.of [0] (by as_aux_lemma => kernel_rfl) rfl)
end Go.Proofs.Ytgeefojgkbglnaa
namespace Go.Proofs.Ytgeefojgkbglnaa
open Go.RowKit Go.Lib
set_option linter.unusedVariables false
set_option linter.unusedSimpArgs false
def scV (s : Sc) : List Value := [.int .i64 s.st, .int .i64 s.tk.k, .int .i64 s.tk.f, .int .i64 s.tk.t, .int .i64 s.h.k, .int .i32 s.h.r, .int .i64 s.h.f, .int .i64 s.h.t, .bool s.h.al]
def tkV (t : Tk) : List Value := [.int .i64 t.k, .int .i64 t.f, .int .i64 t.t]
def tkA (t : Tk) : List Value := [.agg (tkV t).toArray]
def fitted (s : Sc) (u : Un) : Sc := ⟨(fits s.st u).1, s.tk, if (fits s.st u).2 = 2 then u else s.h⟩
theorem Holds.fact {w0 w : World} {K : Nat → Prop} {L : List Asn} {p : Prop} (h : Holds w0 K L w) (hp : p) : Holds w0 K (L ++ [fact p]) w :=
  h.grow (C' := fun _ => False) (Ext.refl _ _) (sepL.one (A := Go.Proofs.Ytgeefojgkbglnaa.fact p) ⟨fun _ h => h, hp⟩)
theorem TX.finE {P : Program} {F : Fence} {w0 : World} {K : Nat → Prop} {N : Nat} {σ : List (Nat × Value)} {L R As : List Asn} {fn : Func} {rs : List ResultVar} {vs : List Value} {β : Type} {V : β → Value} {Bs : β → List Asn} {e : Exit} {p : Prop} (b : β)
    (he : e = .ret ∨ e = .normal) (hrs : fn.results = rs.toArray) (hres : ResOks P σ L rs vs) (hv : resVal vs = V b) (hs : Splits L As R) (hp : p) (hB : Bs b = As ++ [fact p] := by rfl) :
    TX w0 K N [] (bodyPostM F 0 P fn (FR P V Bs w0 K)) e σ L := by
  intro a w ha hw
  have h1 := results_run hrs hres ha hw
  have h2 : LeavesInM F 0 P fn a.tmps (FR P V Bs w0 K) a.defers .returning w := by
    rw [ha.2.1]
    exact ⟨resVal vs, h1, b, by rw [hv], by rw [hB]; exact (hw.weaken hs).fact hp⟩
  rcases he with rfl | rfl <;> exact h2
set_option maxRecDepth 100000 in
set_option maxHeartbeats 4000000 in
theorem fits_fn (b : Nat) (s : Sc) (u : Un) : Fn Try.prog 48 [.pointer (some ⟨b, 0, none⟩), .agg #[.int .i64 u.k, .int .i32 u.r, .int .i64 u.f, .int .i64 u.t, .bool u.al]] [cells b (scV s) 69] (fun _ : Unit => .int .i64 (fits s.st u).2) (fun _ => [cells b (scV (fitted s u)) 69]) := by
 refine Fn.intro Try.func48 rfl Try.ntmps48 (by simp) ?_
 intro w0 K
 show TC _ _ _ _ _ _ _ _ _ [cells b [.int .i64 s.st, .int .i64 s.tk.k, .int .i64 (s.tk.f : Int), .int .i64 (s.tk.t : Int), .int .i64 s.h.k, .int .i32 (s.h.r : Int), .int .i64 (s.h.f : Int), .int .i64 (s.h.t : Int), .bool s.h.al] 69]
 refine TC.seq (TC.region ?_)
 refine TO.box rfl (by decide) rfl (fun b1 => ?_)
 refine TO.assign rfl (by decide) rfl (TO.nil (TX.next (TC.seq (TC.region (TO.fieldAddr fl_67_0 rfl (by decide) rfl (show _ = 0 from rfl) (TO.load (k := 1) sc_56 rfl (by decide) rfl rfl rfl (TO.assign rfl (by decide) rfl (TO.nil (TX.next (TC.seq (TC.seq (TC.region (TO.move rfl (by decide) rfl ?_)))))))))))))
 refine TO.nilCheck rfl (by decide) rfl (TO.fieldAddr fl_69_0 rfl (by decide) rfl (show _ = 0 from rfl) (TO.load (k := 0) sc_3 rfl (by decide) rfl rfl rfl (TO.nil (TX.next (TC.block (TC.seq (TC.seq (TC.region (TO.bin rfl (by decide) rfl rfl bin_eql (TO.assign rfl (by decide) rfl (TO.nil (TX.next ?_))))))))))))
 refine TC.condB rfl (fun h1 => ?_) (fun h1 => ?_)
 ·
  -- yes
  have h1 := beq_iff_eq.1 h1
  refine TC.skip (TX.next ?_)
  refine TC.condB rfl (fun h2 => ?_) (fun h2 => ?_)
  ·
   -- yes
   have h2 := beq_iff_eq.1 h2
   refine TC.seq (TC.seq (TC.region (TO.move rfl (by decide) rfl (TO.bin rfl (by decide) rfl rfl bin_eql (TO.nil (TX.next ?_))))))
   refine TC.condB rfl (fun h3 => ?_) (fun h3 => ?_)
   ·
    -- yes
    have h3 := beq_iff_eq.1 h3
    refine TC.seq (TC.region (TO.move rfl (by decide) rfl (TO.nilCheck rfl (by decide) rfl (TO.fieldAddr fl_69_0 rfl (by decide) rfl (show _ = 0 from rfl) ?_))))
    refine TO.store (k := 0) (l' := [.int .i64 1, .int .i64 s.tk.k, .int .i64 (s.tk.f : Int), .int .i64 (s.tk.t : Int), .int .i64 s.h.k, .int .i32 (s.h.r : Int), .int .i64 (s.h.f : Int), .int .i64 (s.h.t : Int), .bool s.h.al]) sz_3 rfl rfl rfl rfl rfl (fun _ _ => rfl) rfl ?_
    refine TO.nil (TX.next (TC.seq (TC.region (TO.assign rfl (by decide) rfl (TO.nil (TX.next (TC.ret (TX.thenRet (TX.blockRet (TX.thenRet ?_))))))))))
    have hfit : fits s.st u = (1, 1) := by unfold fits; simp_all <;> omega
    have hB : [.int .i64 1, .int .i64 s.tk.k, .int .i64 (s.tk.f : Int), .int .i64 (s.tk.t : Int), .int .i64 s.h.k, .int .i32 (s.h.r : Int), .int .i64 (s.h.f : Int), .int .i64 (s.h.t : Int), .bool s.h.al] = scV (fitted s u) := by unfold fitted; rw [hfit]; rfl
    refine TX.rewE (k := 0) rfl (show cells b [.int .i64 1, .int .i64 s.tk.k, .int .i64 (s.tk.f : Int), .int .i64 (s.tk.t : Int), .int .i64 s.h.k, .int .i32 (s.h.r : Int), .int .i64 (s.h.f : Int), .int .i64 (s.h.t : Int), .bool s.h.al] 69 = cells b (scV (fitted s u)) 69 from (congrArg (fun z => cells b z 69) hB)) ?_
    show TX _ _ _ _ _ _ _ [cells b (scV (fitted s u)) 69, cells b1 [.int .i64 u.k, .int .i32 (u.r : Int), .int .i64 (u.f : Int), .int .i64 (u.t : Int), .bool u.al] 67]
    exact TX.fin (rs := [.tmp 4]) () (.inl rfl) Try.results48 (.cons (.tmp rfl) .nil) (by rw [hfit]; rfl) (Splits.of [0] (by as_aux_lemma => kernel_rfl) rfl)
   ·
    -- no
    have h3 := beq_eq_false_iff_ne.1 h3
    refine TC.skip (TX.next (TC.seq (TC.region (TO.move rfl (by decide) rfl (TO.nilCheck rfl (by decide) rfl (TO.fieldAddr fl_69_0 rfl (by decide) rfl (show _ = 0 from rfl) (TO.load (k := 0) sc_3 rfl (by decide) rfl rfl rfl (TO.bin rfl (by decide) rfl rfl bin_eql (TO.move rfl (by decide) rfl ?_)))))))))
    refine TO.split (s := 25) rfl (fun h4 => ?_) (fun h4 => ?_)
    ·
     -- yes
     have h4 := beq_iff_eq.1 h4
     refine TO.loads (k := 1) (cs := [.int .i64 u.k, .int .i32 (u.r : Int), .int .i64 (u.f : Int), .int .i64 (u.t : Int), .bool u.al]) rw_67 rfl (by decide) rfl rfl rfl rfl (TO.callP (v := .bool (joint u)) (vs := [.agg #[.int .i64 u.k, .int .i32 (u.r : Int), .int .i64 (u.f : Int), .int .i64 (u.t : Int), .bool u.al]]) rfl (by decide) rfl rfl rfl en_66 (joint_p u) (TO.pick (b := true) rfl (by decide) rfl rfl (TO.nil (TX.next ?_))))
     refine TC.condB rfl (fun h5 => ?_) (fun h5 => ?_)
     ·
      -- yes
      refine TC.seq ?_
      refine TC.drawB (β := Unit) 6 5 _ [(0, 29, .pointer (some ⟨b, 0, none⟩)), (1, 30, .pointer (some ⟨b, 0, none⟩)), (2, 31, .agg #[.int .i64 u.k, .int .i32 (u.r : Int), .int .i64 (u.f : Int), .int .i64 (u.t : Int), .bool u.al]), (3, 32, .pointer (some ⟨b, 0, none⟩)), (4, 33, .pointer (some ⟨b, 0, none⟩))] (fun _b => []) (fun _b => [cells b [.int .i64 2, .int .i64 s.tk.k, .int .i64 (s.tk.f : Int), .int .i64 (s.tk.t : Int), .int .i64 s.h.k, .int .i32 (s.h.r : Int), .int .i64 (s.h.f : Int), .int .i64 (s.h.t : Int), .bool s.h.al] 69, cells b1 [.int .i64 u.k, .int .i32 (u.r : Int), .int .i64 (u.f : Int), .int .i64 (u.t : Int), .bool u.al] 67]) mixed (by as_aux_lemma => kernel_rfl) (by as_aux_lemma => kernel_rfl) rfl (by decide) (by decide) (by rfl) (by as_aux_lemma => kernel_rfl) (by as_aux_lemma => kernel_rfl) (DrawPreX.cons ?_ (DrawPreX.cons ?_ (DrawPreX.cons ?_ (DrawPreX.cons ?_ (DrawPreX.cons ?_ (DrawPreX.here DrawPreX.nil)))))) (fun _b => (DrawPreX.cons ?_ (DrawPreX.cons ?_ (DrawPreX.cons ?_ (DrawPreX.cons ?_ (DrawPreX.cons ?_ (DrawPreX.here DrawPreX.nil))))))) ?_ ?_
      ·
       intro D hn hd hcl hu hi
       refine TO.move rfl (by decide) (dl_old (by rfl) rfl) ?_
       exact TX.quiet 0 hu hi rfl
      ·
       intro D hn hd hcl hu hi
       refine TO.move rfl (by decide) (dl_old (by rfl) rfl) ?_
       exact TX.quiet 1 hu hi rfl
      ·
       intro D hn hd hcl hu hi
       refine TO.loads (k := 1) (cs := [.int .i64 u.k, .int .i32 (u.r : Int), .int .i64 (u.f : Int), .int .i64 (u.t : Int), .bool u.al]) rw_67 rfl (by decide) (dl_old (by rfl) rfl) rfl rfl rfl ?_
       exact TX.quiet 2 hu hi rfl
      ·
       intro D hn hd hcl hu hi
       refine TO.nilCheck rfl (by decide) (dl_lookup (m := 0) hu rfl (hd 0 (by decide))) ?_
       exact TX.quiet 3 hu hi rfl
      ·
       intro D hn hd hcl hu hi
       refine TO.fieldAddr fl_69_0 rfl (by decide) (dl_lookup (m := 3) hu rfl (hd 3 (by decide))) (show _ = 0 from rfl) ?_
       exact TX.quiet 4 hu hi rfl
      ·
       intro D hn hd hcl hu hi
       refine TO.move rfl (by decide) (dl_old (by rfl) rfl) ?_
       exact TX.quiet 0 hu hi rfl
      ·
       intro D hn hd hcl hu hi
       refine TO.move rfl (by decide) (dl_old (by rfl) rfl) ?_
       exact TX.quiet 1 hu hi rfl
      ·
       intro D hn hd hcl hu hi
       refine TO.loads (k := 1) (cs := [.int .i64 u.k, .int .i32 (u.r : Int), .int .i64 (u.f : Int), .int .i64 (u.t : Int), .bool u.al]) rw_67 rfl (by decide) (dl_old (by rfl) rfl) rfl rfl rfl ?_
       exact TX.quiet 2 hu hi rfl
      ·
       intro D hn hd hcl hu hi
       refine TO.nilCheck rfl (by decide) (dl_lookup (m := 0) hu rfl (hd 0 (by decide))) ?_
       exact TX.quiet 3 hu hi rfl
      ·
       intro D hn hd hcl hu hi
       refine TO.fieldAddr fl_69_0 rfl (by decide) (dl_lookup (m := 3) hu rfl (hd 3 (by decide))) (show _ = 0 from rfl) ?_
       exact TX.quiet 4 hu hi rfl
      ·
       intro D hn hd hcl
       refine TO.store (k := 0) (l' := [.int .i64 2, .int .i64 s.tk.k, .int .i64 (s.tk.f : Int), .int .i64 (s.tk.t : Int), .int .i64 s.h.k, .int .i32 (s.h.r : Int), .int .i64 (s.h.f : Int), .int .i64 (s.h.t : Int), .bool s.h.al]) sz_3 rfl (dl_lookup (m := 4) (by as_aux_lemma => kernel_rfl) rfl (hd 4 (by decide))) rfl rfl rfl (fun _ _ => rfl) rfl ?_
       exact fun a w ha hw => ⟨(), ha, hw⟩
      intro _b
      show TO _ _ _ _ _ _ _ _ _ _ [cells b [.int .i64 2, .int .i64 s.tk.k, .int .i64 (s.tk.f : Int), .int .i64 (s.tk.t : Int), .int .i64 s.h.k, .int .i32 (s.h.r : Int), .int .i64 (s.h.f : Int), .int .i64 (s.h.t : Int), .bool s.h.al] 69, cells b1 [.int .i64 u.k, .int .i32 (u.r : Int), .int .i64 (u.f : Int), .int .i64 (u.t : Int), .bool u.al] 67]
      refine TO.nilCheck rfl (by decide) rfl (TO.fieldAddr fl_69_2 rfl (by decide) rfl (show _ = 4 from rfl) (TO.stores (k := 0) (vs := [.int .i64 u.k, .int .i32 (u.r : Int), .int .i64 (u.f : Int), .int .i64 (u.t : Int), .bool u.al]) (l' := [.int .i64 2, .int .i64 s.tk.k, .int .i64 (s.tk.f : Int), .int .i64 (s.tk.t : Int), .int .i64 u.k, .int .i32 (u.r : Int), .int .i64 (u.f : Int), .int .i64 (u.t : Int), .bool u.al]) sz_67 rfl rfl rfl rfl rfl (show _ ≤ _ by simp) rfl rfl (TO.nil (TX.next (TC.seq (TC.region (TO.assign rfl (by decide) rfl (TO.nil (TX.next (TC.ret (TX.blockRet (TX.thenRet ?_))))))))))))
      have hfit : fits s.st u = (2, 2) := by unfold fits; simp_all <;> omega
      have hB : [.int .i64 2, .int .i64 s.tk.k, .int .i64 (s.tk.f : Int), .int .i64 (s.tk.t : Int), .int .i64 u.k, .int .i32 (u.r : Int), .int .i64 (u.f : Int), .int .i64 (u.t : Int), .bool u.al] = scV (fitted s u) := by unfold fitted; rw [hfit]; rfl
      refine TX.rewE (k := 0) rfl (show cells b [.int .i64 2, .int .i64 s.tk.k, .int .i64 (s.tk.f : Int), .int .i64 (s.tk.t : Int), .int .i64 u.k, .int .i32 (u.r : Int), .int .i64 (u.f : Int), .int .i64 (u.t : Int), .bool u.al] 69 = cells b (scV (fitted s u)) 69 from (congrArg (fun z => cells b z 69) hB)) ?_
      show TX _ _ _ _ _ _ _ [cells b (scV (fitted s u)) 69, cells b1 [.int .i64 u.k, .int .i32 (u.r : Int), .int .i64 (u.f : Int), .int .i64 (u.t : Int), .bool u.al] 67]
      exact TX.fin (rs := [.tmp 4]) () (.inl rfl) Try.results48 (.cons (.tmp rfl) .nil) (by rw [hfit]; rfl) (Splits.of [0] (by as_aux_lemma => kernel_rfl) rfl)
     ·
      -- no
      refine TC.skip (TX.blockNormal (TX.next (TC.seq (TC.region (TO.assign rfl (by decide) rfl (TO.nil (TX.next (TC.ret ?_))))))))
      have hfit : fits s.st u = (s.st, 0) := by unfold fits; simp_all <;> omega
      have hB : [.int .i64 s.st, .int .i64 s.tk.k, .int .i64 (s.tk.f : Int), .int .i64 (s.tk.t : Int), .int .i64 s.h.k, .int .i32 (s.h.r : Int), .int .i64 (s.h.f : Int), .int .i64 (s.h.t : Int), .bool s.h.al] = scV (fitted s u) := by unfold fitted; rw [hfit]; rfl
      refine TX.rewE (k := 0) rfl (show cells b [.int .i64 s.st, .int .i64 s.tk.k, .int .i64 (s.tk.f : Int), .int .i64 (s.tk.t : Int), .int .i64 s.h.k, .int .i32 (s.h.r : Int), .int .i64 (s.h.f : Int), .int .i64 (s.h.t : Int), .bool s.h.al] 69 = cells b (scV (fitted s u)) 69 from (congrArg (fun z => cells b z 69) hB)) ?_
      show TX _ _ _ _ _ _ _ [cells b (scV (fitted s u)) 69, cells b1 [.int .i64 u.k, .int .i32 (u.r : Int), .int .i64 (u.f : Int), .int .i64 (u.t : Int), .bool u.al] 67]
      exact TX.fin (rs := [.tmp 4]) () (.inl rfl) Try.results48 (.cons (.tmp rfl) .nil) (by rw [hfit]; rfl) (Splits.of [0] (by as_aux_lemma => kernel_rfl) rfl)
    ·
     -- no
     have h4 := beq_eq_false_iff_ne.1 h4
     refine TO.skip rfl (by decide) (TO.skip rfl (by decide) (TO.pick (b := false) rfl (by decide) rfl rfl (TO.nil (TX.next (TC.condF rfl (TC.skip (TX.blockNormal (TX.next (TC.seq (TC.region (TO.assign rfl (by decide) rfl (TO.nil (TX.next ?_)))))))))))))
     refine TC.ret ?_
     have hfit : fits s.st u = (s.st, 0) := by unfold fits; simp_all <;> omega
     have hB : [.int .i64 s.st, .int .i64 s.tk.k, .int .i64 (s.tk.f : Int), .int .i64 (s.tk.t : Int), .int .i64 s.h.k, .int .i32 (s.h.r : Int), .int .i64 (s.h.f : Int), .int .i64 (s.h.t : Int), .bool s.h.al] = scV (fitted s u) := by unfold fitted; rw [hfit]; rfl
     refine TX.rewE (k := 0) rfl (show cells b [.int .i64 s.st, .int .i64 s.tk.k, .int .i64 (s.tk.f : Int), .int .i64 (s.tk.t : Int), .int .i64 s.h.k, .int .i32 (s.h.r : Int), .int .i64 (s.h.f : Int), .int .i64 (s.h.t : Int), .bool s.h.al] 69 = cells b (scV (fitted s u)) 69 from (congrArg (fun z => cells b z 69) hB)) ?_
     show TX _ _ _ _ _ _ _ [cells b (scV (fitted s u)) 69, cells b1 [.int .i64 u.k, .int .i32 (u.r : Int), .int .i64 (u.f : Int), .int .i64 (u.t : Int), .bool u.al] 67]
     exact TX.fin (rs := [.tmp 4]) () (.inl rfl) Try.results48 (.cons (.tmp rfl) .nil) (by rw [hfit]; rfl) (Splits.of [0] (by as_aux_lemma => kernel_rfl) rfl)
  ·
   -- no
   have h2 := beq_eq_false_iff_ne.1 h2
   refine TC.seq (TC.seq (TC.region (TO.bin rfl (by decide) rfl rfl bin_eql (TO.assign rfl (by decide) rfl (TO.nil (TX.next ?_))))))
   refine TC.condB rfl (fun h6 => ?_) (fun h6 => ?_)
   ·
    -- yes
    have h6 := beq_iff_eq.1 h6
    refine TC.skip (TX.next ?_)
    refine TC.condB rfl (fun h7 => ?_) (fun h7 => ?_)
    ·
     -- yes
     have h7 := beq_iff_eq.1 h7
     refine TC.seq (TC.seq (TC.region (TO.move rfl (by decide) rfl (TO.bin rfl (by decide) rfl rfl bin_eql (TO.nil (TX.next ?_))))))
     refine TC.condB rfl (fun h8 => ?_) (fun h8 => ?_)
     ·
      -- yes
      have h8 := beq_iff_eq.1 h8
      refine TC.seq (TC.region (TO.move rfl (by decide) rfl (TO.nilCheck rfl (by decide) rfl (TO.fieldAddr fl_69_0 rfl (by decide) rfl (show _ = 0 from rfl) ?_))))
      refine TO.store (k := 0) (l' := [.int .i64 3, .int .i64 s.tk.k, .int .i64 (s.tk.f : Int), .int .i64 (s.tk.t : Int), .int .i64 s.h.k, .int .i32 (s.h.r : Int), .int .i64 (s.h.f : Int), .int .i64 (s.h.t : Int), .bool s.h.al]) sz_3 rfl rfl rfl rfl rfl (fun _ _ => rfl) rfl ?_
      refine TO.nil (TX.next (TC.seq (TC.region (TO.assign rfl (by decide) rfl (TO.nil (TX.next (TC.ret (TX.thenRet (TX.blockRet (TX.thenRet ?_))))))))))
      have hfit : fits s.st u = (3, 1) := by unfold fits; simp_all <;> omega
      have hB : [.int .i64 3, .int .i64 s.tk.k, .int .i64 (s.tk.f : Int), .int .i64 (s.tk.t : Int), .int .i64 s.h.k, .int .i32 (s.h.r : Int), .int .i64 (s.h.f : Int), .int .i64 (s.h.t : Int), .bool s.h.al] = scV (fitted s u) := by unfold fitted; rw [hfit]; rfl
      refine TX.rewE (k := 0) rfl (show cells b [.int .i64 3, .int .i64 s.tk.k, .int .i64 (s.tk.f : Int), .int .i64 (s.tk.t : Int), .int .i64 s.h.k, .int .i32 (s.h.r : Int), .int .i64 (s.h.f : Int), .int .i64 (s.h.t : Int), .bool s.h.al] 69 = cells b (scV (fitted s u)) 69 from (congrArg (fun z => cells b z 69) hB)) ?_
      show TX _ _ _ _ _ _ _ [cells b (scV (fitted s u)) 69, cells b1 [.int .i64 u.k, .int .i32 (u.r : Int), .int .i64 (u.f : Int), .int .i64 (u.t : Int), .bool u.al] 67]
      exact TX.fin (rs := [.tmp 4]) () (.inl rfl) Try.results48 (.cons (.tmp rfl) .nil) (by rw [hfit]; rfl) (Splits.of [0] (by as_aux_lemma => kernel_rfl) rfl)
     ·
      -- no
      have h8 := beq_eq_false_iff_ne.1 h8
      refine TC.skip (TX.next (TC.seq (TC.region (TO.move rfl (by decide) rfl (TO.nilCheck rfl (by decide) rfl (TO.fieldAddr fl_69_0 rfl (by decide) rfl (show _ = 0 from rfl) (TO.load (k := 0) sc_3 rfl (by decide) rfl rfl rfl (TO.bin rfl (by decide) rfl rfl bin_eql (TO.move rfl (by decide) rfl ?_)))))))))
      refine TO.split (s := 49) rfl (fun h9 => ?_) (fun h9 => ?_)
      ·
       -- yes
       have h9 := beq_iff_eq.1 h9
       refine TO.loads (k := 1) (cs := [.int .i64 u.k, .int .i32 (u.r : Int), .int .i64 (u.f : Int), .int .i64 (u.t : Int), .bool u.al]) rw_67 rfl (by decide) rfl rfl rfl rfl (TO.callP (v := .bool (dot u)) (vs := [.agg #[.int .i64 u.k, .int .i32 (u.r : Int), .int .i64 (u.f : Int), .int .i64 (u.t : Int), .bool u.al]]) rfl (by decide) rfl rfl rfl en_67 (dot_p u) (TO.pick (b := true) rfl (by decide) rfl rfl (TO.nil (TX.next ?_))))
       refine TC.condB rfl (fun h10 => ?_) (fun h10 => ?_)
       ·
        -- yes
        refine TC.seq ?_
        refine TC.drawB (β := Unit) 6 5 _ [(0, 53, .pointer (some ⟨b, 0, none⟩)), (1, 54, .pointer (some ⟨b, 0, none⟩)), (2, 55, .agg #[.int .i64 u.k, .int .i32 (u.r : Int), .int .i64 (u.f : Int), .int .i64 (u.t : Int), .bool u.al]), (3, 56, .pointer (some ⟨b, 0, none⟩)), (4, 57, .pointer (some ⟨b, 0, none⟩))] (fun _b => []) (fun _b => [cells b [.int .i64 4, .int .i64 s.tk.k, .int .i64 (s.tk.f : Int), .int .i64 (s.tk.t : Int), .int .i64 s.h.k, .int .i32 (s.h.r : Int), .int .i64 (s.h.f : Int), .int .i64 (s.h.t : Int), .bool s.h.al] 69, cells b1 [.int .i64 u.k, .int .i32 (u.r : Int), .int .i64 (u.f : Int), .int .i64 (u.t : Int), .bool u.al] 67]) mixed (by as_aux_lemma => kernel_rfl) (by as_aux_lemma => kernel_rfl) rfl (by decide) (by decide) (by rfl) (by as_aux_lemma => kernel_rfl) (by as_aux_lemma => kernel_rfl) (DrawPreX.cons ?_ (DrawPreX.cons ?_ (DrawPreX.cons ?_ (DrawPreX.cons ?_ (DrawPreX.cons ?_ (DrawPreX.here DrawPreX.nil)))))) (fun _b => (DrawPreX.cons ?_ (DrawPreX.cons ?_ (DrawPreX.cons ?_ (DrawPreX.cons ?_ (DrawPreX.cons ?_ (DrawPreX.here DrawPreX.nil))))))) ?_ ?_
        ·
         intro D hn hd hcl hu hi
         refine TO.move rfl (by decide) (dl_old (by rfl) rfl) ?_
         exact TX.quiet 0 hu hi rfl
        ·
         intro D hn hd hcl hu hi
         refine TO.move rfl (by decide) (dl_old (by rfl) rfl) ?_
         exact TX.quiet 1 hu hi rfl
        ·
         intro D hn hd hcl hu hi
         refine TO.loads (k := 1) (cs := [.int .i64 u.k, .int .i32 (u.r : Int), .int .i64 (u.f : Int), .int .i64 (u.t : Int), .bool u.al]) rw_67 rfl (by decide) (dl_old (by rfl) rfl) rfl rfl rfl ?_
         exact TX.quiet 2 hu hi rfl
        ·
         intro D hn hd hcl hu hi
         refine TO.nilCheck rfl (by decide) (dl_lookup (m := 0) hu rfl (hd 0 (by decide))) ?_
         exact TX.quiet 3 hu hi rfl
        ·
         intro D hn hd hcl hu hi
         refine TO.fieldAddr fl_69_0 rfl (by decide) (dl_lookup (m := 3) hu rfl (hd 3 (by decide))) (show _ = 0 from rfl) ?_
         exact TX.quiet 4 hu hi rfl
        ·
         intro D hn hd hcl hu hi
         refine TO.move rfl (by decide) (dl_old (by rfl) rfl) ?_
         exact TX.quiet 0 hu hi rfl
        ·
         intro D hn hd hcl hu hi
         refine TO.move rfl (by decide) (dl_old (by rfl) rfl) ?_
         exact TX.quiet 1 hu hi rfl
        ·
         intro D hn hd hcl hu hi
         refine TO.loads (k := 1) (cs := [.int .i64 u.k, .int .i32 (u.r : Int), .int .i64 (u.f : Int), .int .i64 (u.t : Int), .bool u.al]) rw_67 rfl (by decide) (dl_old (by rfl) rfl) rfl rfl rfl ?_
         exact TX.quiet 2 hu hi rfl
        ·
         intro D hn hd hcl hu hi
         refine TO.nilCheck rfl (by decide) (dl_lookup (m := 0) hu rfl (hd 0 (by decide))) ?_
         exact TX.quiet 3 hu hi rfl
        ·
         intro D hn hd hcl hu hi
         refine TO.fieldAddr fl_69_0 rfl (by decide) (dl_lookup (m := 3) hu rfl (hd 3 (by decide))) (show _ = 0 from rfl) ?_
         exact TX.quiet 4 hu hi rfl
        ·
         intro D hn hd hcl
         refine TO.store (k := 0) (l' := [.int .i64 4, .int .i64 s.tk.k, .int .i64 (s.tk.f : Int), .int .i64 (s.tk.t : Int), .int .i64 s.h.k, .int .i32 (s.h.r : Int), .int .i64 (s.h.f : Int), .int .i64 (s.h.t : Int), .bool s.h.al]) sz_3 rfl (dl_lookup (m := 4) (by as_aux_lemma => kernel_rfl) rfl (hd 4 (by decide))) rfl rfl rfl (fun _ _ => rfl) rfl ?_
         exact fun a w ha hw => ⟨(), ha, hw⟩
        intro _b
        show TO _ _ _ _ _ _ _ _ _ _ [cells b [.int .i64 4, .int .i64 s.tk.k, .int .i64 (s.tk.f : Int), .int .i64 (s.tk.t : Int), .int .i64 s.h.k, .int .i32 (s.h.r : Int), .int .i64 (s.h.f : Int), .int .i64 (s.h.t : Int), .bool s.h.al] 69, cells b1 [.int .i64 u.k, .int .i32 (u.r : Int), .int .i64 (u.f : Int), .int .i64 (u.t : Int), .bool u.al] 67]
        refine TO.nilCheck rfl (by decide) rfl (TO.fieldAddr fl_69_2 rfl (by decide) rfl (show _ = 4 from rfl) (TO.stores (k := 0) (vs := [.int .i64 u.k, .int .i32 (u.r : Int), .int .i64 (u.f : Int), .int .i64 (u.t : Int), .bool u.al]) (l' := [.int .i64 4, .int .i64 s.tk.k, .int .i64 (s.tk.f : Int), .int .i64 (s.tk.t : Int), .int .i64 u.k, .int .i32 (u.r : Int), .int .i64 (u.f : Int), .int .i64 (u.t : Int), .bool u.al]) sz_67 rfl rfl rfl rfl rfl (show _ ≤ _ by simp) rfl rfl (TO.nil (TX.next (TC.seq (TC.region (TO.assign rfl (by decide) rfl (TO.nil (TX.next (TC.ret (TX.blockRet (TX.thenRet ?_))))))))))))
        have hfit : fits s.st u = (4, 2) := by unfold fits; simp_all <;> omega
        have hB : [.int .i64 4, .int .i64 s.tk.k, .int .i64 (s.tk.f : Int), .int .i64 (s.tk.t : Int), .int .i64 u.k, .int .i32 (u.r : Int), .int .i64 (u.f : Int), .int .i64 (u.t : Int), .bool u.al] = scV (fitted s u) := by unfold fitted; rw [hfit]; rfl
        refine TX.rewE (k := 0) rfl (show cells b [.int .i64 4, .int .i64 s.tk.k, .int .i64 (s.tk.f : Int), .int .i64 (s.tk.t : Int), .int .i64 u.k, .int .i32 (u.r : Int), .int .i64 (u.f : Int), .int .i64 (u.t : Int), .bool u.al] 69 = cells b (scV (fitted s u)) 69 from (congrArg (fun z => cells b z 69) hB)) ?_
        show TX _ _ _ _ _ _ _ [cells b (scV (fitted s u)) 69, cells b1 [.int .i64 u.k, .int .i32 (u.r : Int), .int .i64 (u.f : Int), .int .i64 (u.t : Int), .bool u.al] 67]
        exact TX.fin (rs := [.tmp 4]) () (.inl rfl) Try.results48 (.cons (.tmp rfl) .nil) (by rw [hfit]; rfl) (Splits.of [0] (by as_aux_lemma => kernel_rfl) rfl)
       ·
        -- no
        refine TC.skip (TX.blockNormal (TX.next (TC.seq (TC.region (TO.assign rfl (by decide) rfl (TO.nil (TX.next (TC.ret ?_))))))))
        have hfit : fits s.st u = (s.st, 0) := by unfold fits; simp_all <;> omega
        have hB : [.int .i64 s.st, .int .i64 s.tk.k, .int .i64 (s.tk.f : Int), .int .i64 (s.tk.t : Int), .int .i64 s.h.k, .int .i32 (s.h.r : Int), .int .i64 (s.h.f : Int), .int .i64 (s.h.t : Int), .bool s.h.al] = scV (fitted s u) := by unfold fitted; rw [hfit]; rfl
        refine TX.rewE (k := 0) rfl (show cells b [.int .i64 s.st, .int .i64 s.tk.k, .int .i64 (s.tk.f : Int), .int .i64 (s.tk.t : Int), .int .i64 s.h.k, .int .i32 (s.h.r : Int), .int .i64 (s.h.f : Int), .int .i64 (s.h.t : Int), .bool s.h.al] 69 = cells b (scV (fitted s u)) 69 from (congrArg (fun z => cells b z 69) hB)) ?_
        show TX _ _ _ _ _ _ _ [cells b (scV (fitted s u)) 69, cells b1 [.int .i64 u.k, .int .i32 (u.r : Int), .int .i64 (u.f : Int), .int .i64 (u.t : Int), .bool u.al] 67]
        exact TX.fin (rs := [.tmp 4]) () (.inl rfl) Try.results48 (.cons (.tmp rfl) .nil) (by rw [hfit]; rfl) (Splits.of [0] (by as_aux_lemma => kernel_rfl) rfl)
      ·
       -- no
       have h9 := beq_eq_false_iff_ne.1 h9
       refine TO.skip rfl (by decide) (TO.skip rfl (by decide) (TO.pick (b := false) rfl (by decide) rfl rfl (TO.nil (TX.next (TC.condF rfl (TC.skip (TX.blockNormal (TX.next (TC.seq (TC.region (TO.assign rfl (by decide) rfl (TO.nil (TX.next ?_)))))))))))))
       refine TC.ret ?_
       have hfit : fits s.st u = (s.st, 0) := by unfold fits; simp_all <;> omega
       have hB : [.int .i64 s.st, .int .i64 s.tk.k, .int .i64 (s.tk.f : Int), .int .i64 (s.tk.t : Int), .int .i64 s.h.k, .int .i32 (s.h.r : Int), .int .i64 (s.h.f : Int), .int .i64 (s.h.t : Int), .bool s.h.al] = scV (fitted s u) := by unfold fitted; rw [hfit]; rfl
       refine TX.rewE (k := 0) rfl (show cells b [.int .i64 s.st, .int .i64 s.tk.k, .int .i64 (s.tk.f : Int), .int .i64 (s.tk.t : Int), .int .i64 s.h.k, .int .i32 (s.h.r : Int), .int .i64 (s.h.f : Int), .int .i64 (s.h.t : Int), .bool s.h.al] 69 = cells b (scV (fitted s u)) 69 from (congrArg (fun z => cells b z 69) hB)) ?_
       show TX _ _ _ _ _ _ _ [cells b (scV (fitted s u)) 69, cells b1 [.int .i64 u.k, .int .i32 (u.r : Int), .int .i64 (u.f : Int), .int .i64 (u.t : Int), .bool u.al] 67]
       exact TX.fin (rs := [.tmp 4]) () (.inl rfl) Try.results48 (.cons (.tmp rfl) .nil) (by rw [hfit]; rfl) (Splits.of [0] (by as_aux_lemma => kernel_rfl) rfl)
    ·
     -- no
     have h7 := beq_eq_false_iff_ne.1 h7
     refine TC.seq (TC.region (TO.bin rfl (by decide) rfl rfl bin_eql (TO.assign rfl (by decide) rfl (TO.nil (TX.next ?_)))))
     refine TC.condB rfl (fun h11 => ?_) (fun h11 => ?_)
     ·
      -- yes
      have h11 := beq_iff_eq.1 h11
      refine TC.seq (TC.region (TO.move rfl (by decide) rfl (TO.bin rfl (by decide) rfl rfl bin_eql (TO.nil (TX.next ?_)))))
      refine TC.condB rfl (fun h12 => ?_) (fun h12 => ?_)
      ·
       -- yes
       have h12 := beq_iff_eq.1 h12
       refine TC.seq (TC.region (TO.assign rfl (by decide) rfl (TO.nil (TX.next (TC.ret (TX.blockRet (TX.thenRet ?_)))))))
       have hfit : fits s.st u = (s.st, 1) := by unfold fits; simp_all <;> omega
       have hB : [.int .i64 s.st, .int .i64 s.tk.k, .int .i64 (s.tk.f : Int), .int .i64 (s.tk.t : Int), .int .i64 s.h.k, .int .i32 (s.h.r : Int), .int .i64 (s.h.f : Int), .int .i64 (s.h.t : Int), .bool s.h.al] = scV (fitted s u) := by unfold fitted; rw [hfit]; rfl
       refine TX.rewE (k := 0) rfl (show cells b [.int .i64 s.st, .int .i64 s.tk.k, .int .i64 (s.tk.f : Int), .int .i64 (s.tk.t : Int), .int .i64 s.h.k, .int .i32 (s.h.r : Int), .int .i64 (s.h.f : Int), .int .i64 (s.h.t : Int), .bool s.h.al] 69 = cells b (scV (fitted s u)) 69 from (congrArg (fun z => cells b z 69) hB)) ?_
       show TX _ _ _ _ _ _ _ [cells b (scV (fitted s u)) 69, cells b1 [.int .i64 u.k, .int .i32 (u.r : Int), .int .i64 (u.f : Int), .int .i64 (u.t : Int), .bool u.al] 67]
       exact TX.fin (rs := [.tmp 4]) () (.inl rfl) Try.results48 (.cons (.tmp rfl) .nil) (by rw [hfit]; rfl) (Splits.of [0] (by as_aux_lemma => kernel_rfl) rfl)
      ·
       -- no
       have h12 := beq_eq_false_iff_ne.1 h12
       refine TC.skip (TX.blockNormal (TX.next (TC.seq (TC.region (TO.assign rfl (by decide) rfl (TO.nil (TX.next (TC.ret ?_))))))))
       have hfit : fits s.st u = (s.st, 0) := by unfold fits; simp_all <;> omega
       have hB : [.int .i64 s.st, .int .i64 s.tk.k, .int .i64 (s.tk.f : Int), .int .i64 (s.tk.t : Int), .int .i64 s.h.k, .int .i32 (s.h.r : Int), .int .i64 (s.h.f : Int), .int .i64 (s.h.t : Int), .bool s.h.al] = scV (fitted s u) := by unfold fitted; rw [hfit]; rfl
       refine TX.rewE (k := 0) rfl (show cells b [.int .i64 s.st, .int .i64 s.tk.k, .int .i64 (s.tk.f : Int), .int .i64 (s.tk.t : Int), .int .i64 s.h.k, .int .i32 (s.h.r : Int), .int .i64 (s.h.f : Int), .int .i64 (s.h.t : Int), .bool s.h.al] 69 = cells b (scV (fitted s u)) 69 from (congrArg (fun z => cells b z 69) hB)) ?_
       show TX _ _ _ _ _ _ _ [cells b (scV (fitted s u)) 69, cells b1 [.int .i64 u.k, .int .i32 (u.r : Int), .int .i64 (u.f : Int), .int .i64 (u.t : Int), .bool u.al] 67]
       exact TX.fin (rs := [.tmp 4]) () (.inl rfl) Try.results48 (.cons (.tmp rfl) .nil) (by rw [hfit]; rfl) (Splits.of [0] (by as_aux_lemma => kernel_rfl) rfl)
     ·
      -- no
      have h11 := beq_eq_false_iff_ne.1 h11
      refine TC.seq (TC.region (TO.bin rfl (by decide) rfl rfl bin_eql (TO.assign rfl (by decide) rfl (TO.nil (TX.next ?_)))))
      refine TC.condB rfl (fun h13 => ?_) (fun h13 => ?_)
      ·
       -- yes
       have h13 := beq_iff_eq.1 h13
       refine TC.seq (TC.region (TO.move rfl (by decide) rfl (TO.bin rfl (by decide) rfl rfl bin_eql (TO.nil (TX.next ?_)))))
       refine TC.condB rfl (fun h14 => ?_) (fun h14 => ?_)
       ·
        -- yes
        have h14 := beq_iff_eq.1 h14
        refine TC.seq (TC.region (TO.assign rfl (by decide) rfl (TO.nil (TX.next (TC.ret (TX.blockRet (TX.thenRet ?_)))))))
        have hfit : fits s.st u = (s.st, 1) := by unfold fits; simp_all <;> omega
        have hB : [.int .i64 s.st, .int .i64 s.tk.k, .int .i64 (s.tk.f : Int), .int .i64 (s.tk.t : Int), .int .i64 s.h.k, .int .i32 (s.h.r : Int), .int .i64 (s.h.f : Int), .int .i64 (s.h.t : Int), .bool s.h.al] = scV (fitted s u) := by unfold fitted; rw [hfit]; rfl
        refine TX.rewE (k := 0) rfl (show cells b [.int .i64 s.st, .int .i64 s.tk.k, .int .i64 (s.tk.f : Int), .int .i64 (s.tk.t : Int), .int .i64 s.h.k, .int .i32 (s.h.r : Int), .int .i64 (s.h.f : Int), .int .i64 (s.h.t : Int), .bool s.h.al] 69 = cells b (scV (fitted s u)) 69 from (congrArg (fun z => cells b z 69) hB)) ?_
        show TX _ _ _ _ _ _ _ [cells b (scV (fitted s u)) 69, cells b1 [.int .i64 u.k, .int .i32 (u.r : Int), .int .i64 (u.f : Int), .int .i64 (u.t : Int), .bool u.al] 67]
        exact TX.fin (rs := [.tmp 4]) () (.inl rfl) Try.results48 (.cons (.tmp rfl) .nil) (by rw [hfit]; rfl) (Splits.of [0] (by as_aux_lemma => kernel_rfl) rfl)
       ·
        -- no
        have h14 := beq_eq_false_iff_ne.1 h14
        refine TC.skip (TX.blockNormal (TX.next (TC.seq (TC.region (TO.assign rfl (by decide) rfl (TO.nil (TX.next (TC.ret ?_))))))))
        have hfit : fits s.st u = (s.st, 0) := by unfold fits; simp_all <;> omega
        have hB : [.int .i64 s.st, .int .i64 s.tk.k, .int .i64 (s.tk.f : Int), .int .i64 (s.tk.t : Int), .int .i64 s.h.k, .int .i32 (s.h.r : Int), .int .i64 (s.h.f : Int), .int .i64 (s.h.t : Int), .bool s.h.al] = scV (fitted s u) := by unfold fitted; rw [hfit]; rfl
        refine TX.rewE (k := 0) rfl (show cells b [.int .i64 s.st, .int .i64 s.tk.k, .int .i64 (s.tk.f : Int), .int .i64 (s.tk.t : Int), .int .i64 s.h.k, .int .i32 (s.h.r : Int), .int .i64 (s.h.f : Int), .int .i64 (s.h.t : Int), .bool s.h.al] 69 = cells b (scV (fitted s u)) 69 from (congrArg (fun z => cells b z 69) hB)) ?_
        show TX _ _ _ _ _ _ _ [cells b (scV (fitted s u)) 69, cells b1 [.int .i64 u.k, .int .i32 (u.r : Int), .int .i64 (u.f : Int), .int .i64 (u.t : Int), .bool u.al] 67]
        exact TX.fin (rs := [.tmp 4]) () (.inl rfl) Try.results48 (.cons (.tmp rfl) .nil) (by rw [hfit]; rfl) (Splits.of [0] (by as_aux_lemma => kernel_rfl) rfl)
      ·
       -- no
       have h13 := beq_eq_false_iff_ne.1 h13
       refine TC.seq (TC.region (TO.bin rfl (by decide) rfl rfl bin_eql (TO.assign rfl (by decide) rfl (TO.nil (TX.next ?_)))))
       refine TC.condB rfl (fun h15 => ?_) (fun h15 => ?_)
       ·
        -- yes
        have h15 := beq_iff_eq.1 h15
        refine TC.seq (TC.region (TO.move rfl (by decide) rfl (TO.bin rfl (by decide) rfl rfl bin_eql (TO.move rfl (by decide) rfl ?_))))
        refine TO.split (s := 72) rfl (fun h16 => ?_) (fun h16 => ?_)
        ·
         -- yes
         have h16 := beq_iff_eq.1 h16
         refine TO.fieldAddr fl_67_1 rfl (by decide) rfl (show _ = 1 from rfl) (TO.load (k := 1) sc_21 rfl (by decide) rfl rfl rfl (TO.bin rfl (by decide) rfl rfl bin_eql (TO.pick (b := true) rfl (by decide) rfl rfl (TO.nil (TX.next ?_)))))
         refine TC.condB rfl (fun h17 => ?_) (fun h17 => ?_)
         ·
          -- yes
          have h17 := beq_iff_eq.1 h17
          refine TC.seq (TC.region (TO.move rfl (by decide) rfl (TO.nilCheck rfl (by decide) rfl (TO.fieldAddr fl_69_0 rfl (by decide) rfl (show _ = 0 from rfl) ?_))))
          refine TO.store (k := 0) (l' := [.int .i64 7, .int .i64 s.tk.k, .int .i64 (s.tk.f : Int), .int .i64 (s.tk.t : Int), .int .i64 s.h.k, .int .i32 (s.h.r : Int), .int .i64 (s.h.f : Int), .int .i64 (s.h.t : Int), .bool s.h.al]) sz_3 rfl rfl rfl rfl rfl (fun _ _ => rfl) rfl ?_
          refine TO.nil (TX.next (TC.seq (TC.region (TO.assign rfl (by decide) rfl (TO.nil (TX.next (TC.ret (TX.blockRet (TX.thenRet ?_)))))))))
          have hfit : fits s.st u = (7, 1) := by unfold fits; simp_all <;> omega
          have hB : [.int .i64 7, .int .i64 s.tk.k, .int .i64 (s.tk.f : Int), .int .i64 (s.tk.t : Int), .int .i64 s.h.k, .int .i32 (s.h.r : Int), .int .i64 (s.h.f : Int), .int .i64 (s.h.t : Int), .bool s.h.al] = scV (fitted s u) := by unfold fitted; rw [hfit]; rfl
          refine TX.rewE (k := 0) rfl (show cells b [.int .i64 7, .int .i64 s.tk.k, .int .i64 (s.tk.f : Int), .int .i64 (s.tk.t : Int), .int .i64 s.h.k, .int .i32 (s.h.r : Int), .int .i64 (s.h.f : Int), .int .i64 (s.h.t : Int), .bool s.h.al] 69 = cells b (scV (fitted s u)) 69 from (congrArg (fun z => cells b z 69) hB)) ?_
          show TX _ _ _ _ _ _ _ [cells b (scV (fitted s u)) 69, cells b1 [.int .i64 u.k, .int .i32 (u.r : Int), .int .i64 (u.f : Int), .int .i64 (u.t : Int), .bool u.al] 67]
          exact TX.fin (rs := [.tmp 4]) () (.inl rfl) Try.results48 (.cons (.tmp rfl) .nil) (by rw [hfit]; rfl) (Splits.of [0] (by as_aux_lemma => kernel_rfl) rfl)
         ·
          -- no
          have h17 := beq_eq_false_iff_ne.1 h17
          refine TC.skip (TX.blockNormal (TX.next (TC.seq (TC.region (TO.assign rfl (by decide) rfl (TO.nil (TX.next (TC.ret ?_))))))))
          have hfit : fits s.st u = (s.st, 0) := by unfold fits; simp_all <;> omega
          have hB : [.int .i64 s.st, .int .i64 s.tk.k, .int .i64 (s.tk.f : Int), .int .i64 (s.tk.t : Int), .int .i64 s.h.k, .int .i32 (s.h.r : Int), .int .i64 (s.h.f : Int), .int .i64 (s.h.t : Int), .bool s.h.al] = scV (fitted s u) := by unfold fitted; rw [hfit]; rfl
          refine TX.rewE (k := 0) rfl (show cells b [.int .i64 s.st, .int .i64 s.tk.k, .int .i64 (s.tk.f : Int), .int .i64 (s.tk.t : Int), .int .i64 s.h.k, .int .i32 (s.h.r : Int), .int .i64 (s.h.f : Int), .int .i64 (s.h.t : Int), .bool s.h.al] 69 = cells b (scV (fitted s u)) 69 from (congrArg (fun z => cells b z 69) hB)) ?_
          show TX _ _ _ _ _ _ _ [cells b (scV (fitted s u)) 69, cells b1 [.int .i64 u.k, .int .i32 (u.r : Int), .int .i64 (u.f : Int), .int .i64 (u.t : Int), .bool u.al] 67]
          exact TX.fin (rs := [.tmp 4]) () (.inl rfl) Try.results48 (.cons (.tmp rfl) .nil) (by rw [hfit]; rfl) (Splits.of [0] (by as_aux_lemma => kernel_rfl) rfl)
        ·
         -- no
         have h16 := beq_eq_false_iff_ne.1 h16
         refine TO.skip rfl (by decide) (TO.skip rfl (by decide) (TO.skip rfl (by decide) (TO.pick (b := false) rfl (by decide) rfl rfl (TO.nil (TX.next (TC.condF rfl (TC.skip (TX.blockNormal (TX.next (TC.seq (TC.region (TO.assign rfl (by decide) rfl (TO.nil ?_)))))))))))))
         refine TX.next (TC.ret ?_)
         have hfit : fits s.st u = (s.st, 0) := by unfold fits; simp_all <;> omega
         have hB : [.int .i64 s.st, .int .i64 s.tk.k, .int .i64 (s.tk.f : Int), .int .i64 (s.tk.t : Int), .int .i64 s.h.k, .int .i32 (s.h.r : Int), .int .i64 (s.h.f : Int), .int .i64 (s.h.t : Int), .bool s.h.al] = scV (fitted s u) := by unfold fitted; rw [hfit]; rfl
         refine TX.rewE (k := 0) rfl (show cells b [.int .i64 s.st, .int .i64 s.tk.k, .int .i64 (s.tk.f : Int), .int .i64 (s.tk.t : Int), .int .i64 s.h.k, .int .i32 (s.h.r : Int), .int .i64 (s.h.f : Int), .int .i64 (s.h.t : Int), .bool s.h.al] 69 = cells b (scV (fitted s u)) 69 from (congrArg (fun z => cells b z 69) hB)) ?_
         show TX _ _ _ _ _ _ _ [cells b (scV (fitted s u)) 69, cells b1 [.int .i64 u.k, .int .i32 (u.r : Int), .int .i64 (u.f : Int), .int .i64 (u.t : Int), .bool u.al] 67]
         exact TX.fin (rs := [.tmp 4]) () (.inl rfl) Try.results48 (.cons (.tmp rfl) .nil) (by rw [hfit]; rfl) (Splits.of [0] (by as_aux_lemma => kernel_rfl) rfl)
       ·
        -- no
        have h15 := beq_eq_false_iff_ne.1 h15
        refine TC.skip (TX.blockNormal (TX.next (TC.seq (TC.region (TO.assign rfl (by decide) rfl (TO.nil (TX.next (TC.ret ?_))))))))
        have hfit : fits s.st u = (s.st, 0) := by unfold fits; simp_all <;> omega
        have hB : [.int .i64 s.st, .int .i64 s.tk.k, .int .i64 (s.tk.f : Int), .int .i64 (s.tk.t : Int), .int .i64 s.h.k, .int .i32 (s.h.r : Int), .int .i64 (s.h.f : Int), .int .i64 (s.h.t : Int), .bool s.h.al] = scV (fitted s u) := by unfold fitted; rw [hfit]; rfl
        refine TX.rewE (k := 0) rfl (show cells b [.int .i64 s.st, .int .i64 s.tk.k, .int .i64 (s.tk.f : Int), .int .i64 (s.tk.t : Int), .int .i64 s.h.k, .int .i32 (s.h.r : Int), .int .i64 (s.h.f : Int), .int .i64 (s.h.t : Int), .bool s.h.al] 69 = cells b (scV (fitted s u)) 69 from (congrArg (fun z => cells b z 69) hB)) ?_
        show TX _ _ _ _ _ _ _ [cells b (scV (fitted s u)) 69, cells b1 [.int .i64 u.k, .int .i32 (u.r : Int), .int .i64 (u.f : Int), .int .i64 (u.t : Int), .bool u.al] 67]
        exact TX.fin (rs := [.tmp 4]) () (.inl rfl) Try.results48 (.cons (.tmp rfl) .nil) (by rw [hfit]; rfl) (Splits.of [0] (by as_aux_lemma => kernel_rfl) rfl)
   ·
    -- no
    have h6 := beq_eq_false_iff_ne.1 h6
    refine TC.region (TO.bin rfl (by decide) rfl rfl bin_eql (TO.assign rfl (by decide) rfl (TO.nil (TX.next ?_))))
    refine TC.condB rfl (fun h18 => ?_) (fun h18 => ?_)
    ·
     -- yes
     have h18 := beq_iff_eq.1 h18
     refine TC.seq (TC.seq (TC.region (TO.move rfl (by decide) rfl (TO.bin rfl (by decide) rfl rfl bin_eql (TO.nil (TX.next ?_))))))
     refine TC.condB rfl (fun h19 => ?_) (fun h19 => ?_)
     ·
      -- yes
      have h19 := beq_iff_eq.1 h19
      refine TC.seq (TC.region (TO.move rfl (by decide) rfl (TO.nilCheck rfl (by decide) rfl (TO.fieldAddr fl_69_0 rfl (by decide) rfl (show _ = 0 from rfl) ?_))))
      refine TO.store (k := 0) (l' := [.int .i64 3, .int .i64 s.tk.k, .int .i64 (s.tk.f : Int), .int .i64 (s.tk.t : Int), .int .i64 s.h.k, .int .i32 (s.h.r : Int), .int .i64 (s.h.f : Int), .int .i64 (s.h.t : Int), .bool s.h.al]) sz_3 rfl rfl rfl rfl rfl (fun _ _ => rfl) rfl ?_
      refine TO.nil (TX.next (TC.seq (TC.region (TO.assign rfl (by decide) rfl (TO.nil (TX.next (TC.ret (TX.thenRet (TX.blockRet (TX.thenRet ?_))))))))))
      have hfit : fits s.st u = (3, 1) := by unfold fits; simp_all <;> omega
      have hB : [.int .i64 3, .int .i64 s.tk.k, .int .i64 (s.tk.f : Int), .int .i64 (s.tk.t : Int), .int .i64 s.h.k, .int .i32 (s.h.r : Int), .int .i64 (s.h.f : Int), .int .i64 (s.h.t : Int), .bool s.h.al] = scV (fitted s u) := by unfold fitted; rw [hfit]; rfl
      refine TX.rewE (k := 0) rfl (show cells b [.int .i64 3, .int .i64 s.tk.k, .int .i64 (s.tk.f : Int), .int .i64 (s.tk.t : Int), .int .i64 s.h.k, .int .i32 (s.h.r : Int), .int .i64 (s.h.f : Int), .int .i64 (s.h.t : Int), .bool s.h.al] 69 = cells b (scV (fitted s u)) 69 from (congrArg (fun z => cells b z 69) hB)) ?_
      show TX _ _ _ _ _ _ _ [cells b (scV (fitted s u)) 69, cells b1 [.int .i64 u.k, .int .i32 (u.r : Int), .int .i64 (u.f : Int), .int .i64 (u.t : Int), .bool u.al] 67]
      exact TX.fin (rs := [.tmp 4]) () (.inl rfl) Try.results48 (.cons (.tmp rfl) .nil) (by rw [hfit]; rfl) (Splits.of [0] (by as_aux_lemma => kernel_rfl) rfl)
     ·
      -- no
      have h19 := beq_eq_false_iff_ne.1 h19
      refine TC.skip (TX.next (TC.seq (TC.region (TO.move rfl (by decide) rfl (TO.nilCheck rfl (by decide) rfl (TO.fieldAddr fl_69_0 rfl (by decide) rfl (show _ = 0 from rfl) (TO.load (k := 0) sc_3 rfl (by decide) rfl rfl rfl (TO.bin rfl (by decide) rfl rfl bin_eql (TO.move rfl (by decide) rfl ?_)))))))))
      refine TO.split (s := 49) rfl (fun h20 => ?_) (fun h20 => ?_)
      ·
       -- yes
       have h20 := beq_iff_eq.1 h20
       refine TO.loads (k := 1) (cs := [.int .i64 u.k, .int .i32 (u.r : Int), .int .i64 (u.f : Int), .int .i64 (u.t : Int), .bool u.al]) rw_67 rfl (by decide) rfl rfl rfl rfl (TO.callP (v := .bool (dot u)) (vs := [.agg #[.int .i64 u.k, .int .i32 (u.r : Int), .int .i64 (u.f : Int), .int .i64 (u.t : Int), .bool u.al]]) rfl (by decide) rfl rfl rfl en_67 (dot_p u) (TO.pick (b := true) rfl (by decide) rfl rfl (TO.nil (TX.next ?_))))
       refine TC.condB rfl (fun h21 => ?_) (fun h21 => ?_)
       ·
        -- yes
        refine TC.seq ?_
        refine TC.drawB (β := Unit) 6 5 _ [(0, 53, .pointer (some ⟨b, 0, none⟩)), (1, 54, .pointer (some ⟨b, 0, none⟩)), (2, 55, .agg #[.int .i64 u.k, .int .i32 (u.r : Int), .int .i64 (u.f : Int), .int .i64 (u.t : Int), .bool u.al]), (3, 56, .pointer (some ⟨b, 0, none⟩)), (4, 57, .pointer (some ⟨b, 0, none⟩))] (fun _b => []) (fun _b => [cells b [.int .i64 4, .int .i64 s.tk.k, .int .i64 (s.tk.f : Int), .int .i64 (s.tk.t : Int), .int .i64 s.h.k, .int .i32 (s.h.r : Int), .int .i64 (s.h.f : Int), .int .i64 (s.h.t : Int), .bool s.h.al] 69, cells b1 [.int .i64 u.k, .int .i32 (u.r : Int), .int .i64 (u.f : Int), .int .i64 (u.t : Int), .bool u.al] 67]) mixed (by as_aux_lemma => kernel_rfl) (by as_aux_lemma => kernel_rfl) rfl (by decide) (by decide) (by rfl) (by as_aux_lemma => kernel_rfl) (by as_aux_lemma => kernel_rfl) (DrawPreX.cons ?_ (DrawPreX.cons ?_ (DrawPreX.cons ?_ (DrawPreX.cons ?_ (DrawPreX.cons ?_ (DrawPreX.here DrawPreX.nil)))))) (fun _b => (DrawPreX.cons ?_ (DrawPreX.cons ?_ (DrawPreX.cons ?_ (DrawPreX.cons ?_ (DrawPreX.cons ?_ (DrawPreX.here DrawPreX.nil))))))) ?_ ?_
        ·
         intro D hn hd hcl hu hi
         refine TO.move rfl (by decide) (dl_old (by rfl) rfl) ?_
         exact TX.quiet 0 hu hi rfl
        ·
         intro D hn hd hcl hu hi
         refine TO.move rfl (by decide) (dl_old (by rfl) rfl) ?_
         exact TX.quiet 1 hu hi rfl
        ·
         intro D hn hd hcl hu hi
         refine TO.loads (k := 1) (cs := [.int .i64 u.k, .int .i32 (u.r : Int), .int .i64 (u.f : Int), .int .i64 (u.t : Int), .bool u.al]) rw_67 rfl (by decide) (dl_old (by rfl) rfl) rfl rfl rfl ?_
         exact TX.quiet 2 hu hi rfl
        ·
         intro D hn hd hcl hu hi
         refine TO.nilCheck rfl (by decide) (dl_lookup (m := 0) hu rfl (hd 0 (by decide))) ?_
         exact TX.quiet 3 hu hi rfl
        ·
         intro D hn hd hcl hu hi
         refine TO.fieldAddr fl_69_0 rfl (by decide) (dl_lookup (m := 3) hu rfl (hd 3 (by decide))) (show _ = 0 from rfl) ?_
         exact TX.quiet 4 hu hi rfl
        ·
         intro D hn hd hcl hu hi
         refine TO.move rfl (by decide) (dl_old (by rfl) rfl) ?_
         exact TX.quiet 0 hu hi rfl
        ·
         intro D hn hd hcl hu hi
         refine TO.move rfl (by decide) (dl_old (by rfl) rfl) ?_
         exact TX.quiet 1 hu hi rfl
        ·
         intro D hn hd hcl hu hi
         refine TO.loads (k := 1) (cs := [.int .i64 u.k, .int .i32 (u.r : Int), .int .i64 (u.f : Int), .int .i64 (u.t : Int), .bool u.al]) rw_67 rfl (by decide) (dl_old (by rfl) rfl) rfl rfl rfl ?_
         exact TX.quiet 2 hu hi rfl
        ·
         intro D hn hd hcl hu hi
         refine TO.nilCheck rfl (by decide) (dl_lookup (m := 0) hu rfl (hd 0 (by decide))) ?_
         exact TX.quiet 3 hu hi rfl
        ·
         intro D hn hd hcl hu hi
         refine TO.fieldAddr fl_69_0 rfl (by decide) (dl_lookup (m := 3) hu rfl (hd 3 (by decide))) (show _ = 0 from rfl) ?_
         exact TX.quiet 4 hu hi rfl
        ·
         intro D hn hd hcl
         refine TO.store (k := 0) (l' := [.int .i64 4, .int .i64 s.tk.k, .int .i64 (s.tk.f : Int), .int .i64 (s.tk.t : Int), .int .i64 s.h.k, .int .i32 (s.h.r : Int), .int .i64 (s.h.f : Int), .int .i64 (s.h.t : Int), .bool s.h.al]) sz_3 rfl (dl_lookup (m := 4) (by as_aux_lemma => kernel_rfl) rfl (hd 4 (by decide))) rfl rfl rfl (fun _ _ => rfl) rfl ?_
         exact fun a w ha hw => ⟨(), ha, hw⟩
        intro _b
        show TO _ _ _ _ _ _ _ _ _ _ [cells b [.int .i64 4, .int .i64 s.tk.k, .int .i64 (s.tk.f : Int), .int .i64 (s.tk.t : Int), .int .i64 s.h.k, .int .i32 (s.h.r : Int), .int .i64 (s.h.f : Int), .int .i64 (s.h.t : Int), .bool s.h.al] 69, cells b1 [.int .i64 u.k, .int .i32 (u.r : Int), .int .i64 (u.f : Int), .int .i64 (u.t : Int), .bool u.al] 67]
        refine TO.nilCheck rfl (by decide) rfl (TO.fieldAddr fl_69_2 rfl (by decide) rfl (show _ = 4 from rfl) (TO.stores (k := 0) (vs := [.int .i64 u.k, .int .i32 (u.r : Int), .int .i64 (u.f : Int), .int .i64 (u.t : Int), .bool u.al]) (l' := [.int .i64 4, .int .i64 s.tk.k, .int .i64 (s.tk.f : Int), .int .i64 (s.tk.t : Int), .int .i64 u.k, .int .i32 (u.r : Int), .int .i64 (u.f : Int), .int .i64 (u.t : Int), .bool u.al]) sz_67 rfl rfl rfl rfl rfl (show _ ≤ _ by simp) rfl rfl (TO.nil (TX.next (TC.seq (TC.region (TO.assign rfl (by decide) rfl (TO.nil (TX.next (TC.ret (TX.blockRet (TX.thenRet ?_))))))))))))
        have hfit : fits s.st u = (4, 2) := by unfold fits; simp_all <;> omega
        have hB : [.int .i64 4, .int .i64 s.tk.k, .int .i64 (s.tk.f : Int), .int .i64 (s.tk.t : Int), .int .i64 u.k, .int .i32 (u.r : Int), .int .i64 (u.f : Int), .int .i64 (u.t : Int), .bool u.al] = scV (fitted s u) := by unfold fitted; rw [hfit]; rfl
        refine TX.rewE (k := 0) rfl (show cells b [.int .i64 4, .int .i64 s.tk.k, .int .i64 (s.tk.f : Int), .int .i64 (s.tk.t : Int), .int .i64 u.k, .int .i32 (u.r : Int), .int .i64 (u.f : Int), .int .i64 (u.t : Int), .bool u.al] 69 = cells b (scV (fitted s u)) 69 from (congrArg (fun z => cells b z 69) hB)) ?_
        show TX _ _ _ _ _ _ _ [cells b (scV (fitted s u)) 69, cells b1 [.int .i64 u.k, .int .i32 (u.r : Int), .int .i64 (u.f : Int), .int .i64 (u.t : Int), .bool u.al] 67]
        exact TX.fin (rs := [.tmp 4]) () (.inl rfl) Try.results48 (.cons (.tmp rfl) .nil) (by rw [hfit]; rfl) (Splits.of [0] (by as_aux_lemma => kernel_rfl) rfl)
       ·
        -- no
        refine TC.skip (TX.blockNormal (TX.next (TC.seq (TC.region (TO.assign rfl (by decide) rfl (TO.nil (TX.next (TC.ret ?_))))))))
        have hfit : fits s.st u = (s.st, 0) := by unfold fits; simp_all <;> omega
        have hB : [.int .i64 s.st, .int .i64 s.tk.k, .int .i64 (s.tk.f : Int), .int .i64 (s.tk.t : Int), .int .i64 s.h.k, .int .i32 (s.h.r : Int), .int .i64 (s.h.f : Int), .int .i64 (s.h.t : Int), .bool s.h.al] = scV (fitted s u) := by unfold fitted; rw [hfit]; rfl
        refine TX.rewE (k := 0) rfl (show cells b [.int .i64 s.st, .int .i64 s.tk.k, .int .i64 (s.tk.f : Int), .int .i64 (s.tk.t : Int), .int .i64 s.h.k, .int .i32 (s.h.r : Int), .int .i64 (s.h.f : Int), .int .i64 (s.h.t : Int), .bool s.h.al] 69 = cells b (scV (fitted s u)) 69 from (congrArg (fun z => cells b z 69) hB)) ?_
        show TX _ _ _ _ _ _ _ [cells b (scV (fitted s u)) 69, cells b1 [.int .i64 u.k, .int .i32 (u.r : Int), .int .i64 (u.f : Int), .int .i64 (u.t : Int), .bool u.al] 67]
        exact TX.fin (rs := [.tmp 4]) () (.inl rfl) Try.results48 (.cons (.tmp rfl) .nil) (by rw [hfit]; rfl) (Splits.of [0] (by as_aux_lemma => kernel_rfl) rfl)
      ·
       -- no
       have h20 := beq_eq_false_iff_ne.1 h20
       refine TO.skip rfl (by decide) (TO.skip rfl (by decide) (TO.pick (b := false) rfl (by decide) rfl rfl (TO.nil (TX.next (TC.condF rfl (TC.skip (TX.blockNormal (TX.next (TC.seq (TC.region (TO.assign rfl (by decide) rfl (TO.nil (TX.next ?_)))))))))))))
       refine TC.ret ?_
       have hfit : fits s.st u = (s.st, 0) := by unfold fits; simp_all <;> omega
       have hB : [.int .i64 s.st, .int .i64 s.tk.k, .int .i64 (s.tk.f : Int), .int .i64 (s.tk.t : Int), .int .i64 s.h.k, .int .i32 (s.h.r : Int), .int .i64 (s.h.f : Int), .int .i64 (s.h.t : Int), .bool s.h.al] = scV (fitted s u) := by unfold fitted; rw [hfit]; rfl
       refine TX.rewE (k := 0) rfl (show cells b [.int .i64 s.st, .int .i64 s.tk.k, .int .i64 (s.tk.f : Int), .int .i64 (s.tk.t : Int), .int .i64 s.h.k, .int .i32 (s.h.r : Int), .int .i64 (s.h.f : Int), .int .i64 (s.h.t : Int), .bool s.h.al] 69 = cells b (scV (fitted s u)) 69 from (congrArg (fun z => cells b z 69) hB)) ?_
       show TX _ _ _ _ _ _ _ [cells b (scV (fitted s u)) 69, cells b1 [.int .i64 u.k, .int .i32 (u.r : Int), .int .i64 (u.f : Int), .int .i64 (u.t : Int), .bool u.al] 67]
       exact TX.fin (rs := [.tmp 4]) () (.inl rfl) Try.results48 (.cons (.tmp rfl) .nil) (by rw [hfit]; rfl) (Splits.of [0] (by as_aux_lemma => kernel_rfl) rfl)
    ·
     -- no
     have h18 := beq_eq_false_iff_ne.1 h18
     refine TC.seq (TC.region (TO.bin rfl (by decide) rfl rfl bin_eql (TO.assign rfl (by decide) rfl (TO.nil (TX.next ?_)))))
     refine TC.condB rfl (fun h22 => ?_) (fun h22 => ?_)
     ·
      -- yes
      have h22 := beq_iff_eq.1 h22
      refine TC.seq (TC.region (TO.move rfl (by decide) rfl (TO.bin rfl (by decide) rfl rfl bin_eql (TO.nil (TX.next ?_)))))
      refine TC.condB rfl (fun h23 => ?_) (fun h23 => ?_)
      ·
       -- yes
       have h23 := beq_iff_eq.1 h23
       refine TC.seq (TC.region (TO.assign rfl (by decide) rfl (TO.nil (TX.next (TC.ret (TX.blockRet (TX.thenRet ?_)))))))
       have hfit : fits s.st u = (s.st, 1) := by unfold fits; simp_all <;> omega
       have hB : [.int .i64 s.st, .int .i64 s.tk.k, .int .i64 (s.tk.f : Int), .int .i64 (s.tk.t : Int), .int .i64 s.h.k, .int .i32 (s.h.r : Int), .int .i64 (s.h.f : Int), .int .i64 (s.h.t : Int), .bool s.h.al] = scV (fitted s u) := by unfold fitted; rw [hfit]; rfl
       refine TX.rewE (k := 0) rfl (show cells b [.int .i64 s.st, .int .i64 s.tk.k, .int .i64 (s.tk.f : Int), .int .i64 (s.tk.t : Int), .int .i64 s.h.k, .int .i32 (s.h.r : Int), .int .i64 (s.h.f : Int), .int .i64 (s.h.t : Int), .bool s.h.al] 69 = cells b (scV (fitted s u)) 69 from (congrArg (fun z => cells b z 69) hB)) ?_
       show TX _ _ _ _ _ _ _ [cells b (scV (fitted s u)) 69, cells b1 [.int .i64 u.k, .int .i32 (u.r : Int), .int .i64 (u.f : Int), .int .i64 (u.t : Int), .bool u.al] 67]
       exact TX.fin (rs := [.tmp 4]) () (.inl rfl) Try.results48 (.cons (.tmp rfl) .nil) (by rw [hfit]; rfl) (Splits.of [0] (by as_aux_lemma => kernel_rfl) rfl)
      ·
       -- no
       have h23 := beq_eq_false_iff_ne.1 h23
       refine TC.skip (TX.blockNormal (TX.next (TC.seq (TC.region (TO.assign rfl (by decide) rfl (TO.nil (TX.next (TC.ret ?_))))))))
       have hfit : fits s.st u = (s.st, 0) := by unfold fits; simp_all <;> omega
       have hB : [.int .i64 s.st, .int .i64 s.tk.k, .int .i64 (s.tk.f : Int), .int .i64 (s.tk.t : Int), .int .i64 s.h.k, .int .i32 (s.h.r : Int), .int .i64 (s.h.f : Int), .int .i64 (s.h.t : Int), .bool s.h.al] = scV (fitted s u) := by unfold fitted; rw [hfit]; rfl
       refine TX.rewE (k := 0) rfl (show cells b [.int .i64 s.st, .int .i64 s.tk.k, .int .i64 (s.tk.f : Int), .int .i64 (s.tk.t : Int), .int .i64 s.h.k, .int .i32 (s.h.r : Int), .int .i64 (s.h.f : Int), .int .i64 (s.h.t : Int), .bool s.h.al] 69 = cells b (scV (fitted s u)) 69 from (congrArg (fun z => cells b z 69) hB)) ?_
       show TX _ _ _ _ _ _ _ [cells b (scV (fitted s u)) 69, cells b1 [.int .i64 u.k, .int .i32 (u.r : Int), .int .i64 (u.f : Int), .int .i64 (u.t : Int), .bool u.al] 67]
       exact TX.fin (rs := [.tmp 4]) () (.inl rfl) Try.results48 (.cons (.tmp rfl) .nil) (by rw [hfit]; rfl) (Splits.of [0] (by as_aux_lemma => kernel_rfl) rfl)
     ·
      -- no
      have h22 := beq_eq_false_iff_ne.1 h22
      refine TC.seq (TC.region (TO.bin rfl (by decide) rfl rfl bin_eql (TO.assign rfl (by decide) rfl (TO.nil (TX.next ?_)))))
      refine TC.condB rfl (fun h24 => ?_) (fun h24 => ?_)
      ·
       -- yes
       have h24 := beq_iff_eq.1 h24
       refine TC.seq (TC.region (TO.move rfl (by decide) rfl (TO.bin rfl (by decide) rfl rfl bin_eql (TO.nil (TX.next ?_)))))
       refine TC.condB rfl (fun h25 => ?_) (fun h25 => ?_)
       ·
        -- yes
        have h25 := beq_iff_eq.1 h25
        refine TC.seq (TC.region (TO.assign rfl (by decide) rfl (TO.nil (TX.next (TC.ret (TX.blockRet (TX.thenRet ?_)))))))
        have hfit : fits s.st u = (s.st, 1) := by unfold fits; simp_all <;> omega
        have hB : [.int .i64 s.st, .int .i64 s.tk.k, .int .i64 (s.tk.f : Int), .int .i64 (s.tk.t : Int), .int .i64 s.h.k, .int .i32 (s.h.r : Int), .int .i64 (s.h.f : Int), .int .i64 (s.h.t : Int), .bool s.h.al] = scV (fitted s u) := by unfold fitted; rw [hfit]; rfl
        refine TX.rewE (k := 0) rfl (show cells b [.int .i64 s.st, .int .i64 s.tk.k, .int .i64 (s.tk.f : Int), .int .i64 (s.tk.t : Int), .int .i64 s.h.k, .int .i32 (s.h.r : Int), .int .i64 (s.h.f : Int), .int .i64 (s.h.t : Int), .bool s.h.al] 69 = cells b (scV (fitted s u)) 69 from (congrArg (fun z => cells b z 69) hB)) ?_
        show TX _ _ _ _ _ _ _ [cells b (scV (fitted s u)) 69, cells b1 [.int .i64 u.k, .int .i32 (u.r : Int), .int .i64 (u.f : Int), .int .i64 (u.t : Int), .bool u.al] 67]
        exact TX.fin (rs := [.tmp 4]) () (.inl rfl) Try.results48 (.cons (.tmp rfl) .nil) (by rw [hfit]; rfl) (Splits.of [0] (by as_aux_lemma => kernel_rfl) rfl)
       ·
        -- no
        have h25 := beq_eq_false_iff_ne.1 h25
        refine TC.skip (TX.blockNormal (TX.next (TC.seq (TC.region (TO.assign rfl (by decide) rfl (TO.nil (TX.next (TC.ret ?_))))))))
        have hfit : fits s.st u = (s.st, 0) := by unfold fits; simp_all <;> omega
        have hB : [.int .i64 s.st, .int .i64 s.tk.k, .int .i64 (s.tk.f : Int), .int .i64 (s.tk.t : Int), .int .i64 s.h.k, .int .i32 (s.h.r : Int), .int .i64 (s.h.f : Int), .int .i64 (s.h.t : Int), .bool s.h.al] = scV (fitted s u) := by unfold fitted; rw [hfit]; rfl
        refine TX.rewE (k := 0) rfl (show cells b [.int .i64 s.st, .int .i64 s.tk.k, .int .i64 (s.tk.f : Int), .int .i64 (s.tk.t : Int), .int .i64 s.h.k, .int .i32 (s.h.r : Int), .int .i64 (s.h.f : Int), .int .i64 (s.h.t : Int), .bool s.h.al] 69 = cells b (scV (fitted s u)) 69 from (congrArg (fun z => cells b z 69) hB)) ?_
        show TX _ _ _ _ _ _ _ [cells b (scV (fitted s u)) 69, cells b1 [.int .i64 u.k, .int .i32 (u.r : Int), .int .i64 (u.f : Int), .int .i64 (u.t : Int), .bool u.al] 67]
        exact TX.fin (rs := [.tmp 4]) () (.inl rfl) Try.results48 (.cons (.tmp rfl) .nil) (by rw [hfit]; rfl) (Splits.of [0] (by as_aux_lemma => kernel_rfl) rfl)
      ·
       -- no
       have h24 := beq_eq_false_iff_ne.1 h24
       refine TC.seq (TC.region (TO.bin rfl (by decide) rfl rfl bin_eql (TO.assign rfl (by decide) rfl (TO.nil (TX.next ?_)))))
       refine TC.condB rfl (fun h26 => ?_) (fun h26 => ?_)
       ·
        -- yes
        have h26 := beq_iff_eq.1 h26
        refine TC.seq (TC.region (TO.move rfl (by decide) rfl (TO.bin rfl (by decide) rfl rfl bin_eql (TO.move rfl (by decide) rfl ?_))))
        refine TO.split (s := 72) rfl (fun h27 => ?_) (fun h27 => ?_)
        ·
         -- yes
         have h27 := beq_iff_eq.1 h27
         refine TO.fieldAddr fl_67_1 rfl (by decide) rfl (show _ = 1 from rfl) (TO.load (k := 1) sc_21 rfl (by decide) rfl rfl rfl (TO.bin rfl (by decide) rfl rfl bin_eql (TO.pick (b := true) rfl (by decide) rfl rfl (TO.nil (TX.next ?_)))))
         refine TC.condB rfl (fun h28 => ?_) (fun h28 => ?_)
         ·
          -- yes
          have h28 := beq_iff_eq.1 h28
          refine TC.seq (TC.region (TO.move rfl (by decide) rfl (TO.nilCheck rfl (by decide) rfl (TO.fieldAddr fl_69_0 rfl (by decide) rfl (show _ = 0 from rfl) ?_))))
          refine TO.store (k := 0) (l' := [.int .i64 7, .int .i64 s.tk.k, .int .i64 (s.tk.f : Int), .int .i64 (s.tk.t : Int), .int .i64 s.h.k, .int .i32 (s.h.r : Int), .int .i64 (s.h.f : Int), .int .i64 (s.h.t : Int), .bool s.h.al]) sz_3 rfl rfl rfl rfl rfl (fun _ _ => rfl) rfl ?_
          refine TO.nil (TX.next (TC.seq (TC.region (TO.assign rfl (by decide) rfl (TO.nil (TX.next (TC.ret (TX.blockRet (TX.thenRet ?_)))))))))
          have hfit : fits s.st u = (7, 1) := by unfold fits; simp_all <;> omega
          have hB : [.int .i64 7, .int .i64 s.tk.k, .int .i64 (s.tk.f : Int), .int .i64 (s.tk.t : Int), .int .i64 s.h.k, .int .i32 (s.h.r : Int), .int .i64 (s.h.f : Int), .int .i64 (s.h.t : Int), .bool s.h.al] = scV (fitted s u) := by unfold fitted; rw [hfit]; rfl
          refine TX.rewE (k := 0) rfl (show cells b [.int .i64 7, .int .i64 s.tk.k, .int .i64 (s.tk.f : Int), .int .i64 (s.tk.t : Int), .int .i64 s.h.k, .int .i32 (s.h.r : Int), .int .i64 (s.h.f : Int), .int .i64 (s.h.t : Int), .bool s.h.al] 69 = cells b (scV (fitted s u)) 69 from (congrArg (fun z => cells b z 69) hB)) ?_
          show TX _ _ _ _ _ _ _ [cells b (scV (fitted s u)) 69, cells b1 [.int .i64 u.k, .int .i32 (u.r : Int), .int .i64 (u.f : Int), .int .i64 (u.t : Int), .bool u.al] 67]
          exact TX.fin (rs := [.tmp 4]) () (.inl rfl) Try.results48 (.cons (.tmp rfl) .nil) (by rw [hfit]; rfl) (Splits.of [0] (by as_aux_lemma => kernel_rfl) rfl)
         ·
          -- no
          have h28 := beq_eq_false_iff_ne.1 h28
          refine TC.skip (TX.blockNormal (TX.next (TC.seq (TC.region (TO.assign rfl (by decide) rfl (TO.nil (TX.next (TC.ret ?_))))))))
          have hfit : fits s.st u = (s.st, 0) := by unfold fits; simp_all <;> omega
          have hB : [.int .i64 s.st, .int .i64 s.tk.k, .int .i64 (s.tk.f : Int), .int .i64 (s.tk.t : Int), .int .i64 s.h.k, .int .i32 (s.h.r : Int), .int .i64 (s.h.f : Int), .int .i64 (s.h.t : Int), .bool s.h.al] = scV (fitted s u) := by unfold fitted; rw [hfit]; rfl
          refine TX.rewE (k := 0) rfl (show cells b [.int .i64 s.st, .int .i64 s.tk.k, .int .i64 (s.tk.f : Int), .int .i64 (s.tk.t : Int), .int .i64 s.h.k, .int .i32 (s.h.r : Int), .int .i64 (s.h.f : Int), .int .i64 (s.h.t : Int), .bool s.h.al] 69 = cells b (scV (fitted s u)) 69 from (congrArg (fun z => cells b z 69) hB)) ?_
          show TX _ _ _ _ _ _ _ [cells b (scV (fitted s u)) 69, cells b1 [.int .i64 u.k, .int .i32 (u.r : Int), .int .i64 (u.f : Int), .int .i64 (u.t : Int), .bool u.al] 67]
          exact TX.fin (rs := [.tmp 4]) () (.inl rfl) Try.results48 (.cons (.tmp rfl) .nil) (by rw [hfit]; rfl) (Splits.of [0] (by as_aux_lemma => kernel_rfl) rfl)
        ·
         -- no
         have h27 := beq_eq_false_iff_ne.1 h27
         refine TO.skip rfl (by decide) (TO.skip rfl (by decide) (TO.skip rfl (by decide) (TO.pick (b := false) rfl (by decide) rfl rfl (TO.nil (TX.next (TC.condF rfl (TC.skip (TX.blockNormal (TX.next (TC.seq (TC.region (TO.assign rfl (by decide) rfl (TO.nil ?_)))))))))))))
         refine TX.next (TC.ret ?_)
         have hfit : fits s.st u = (s.st, 0) := by unfold fits; simp_all <;> omega
         have hB : [.int .i64 s.st, .int .i64 s.tk.k, .int .i64 (s.tk.f : Int), .int .i64 (s.tk.t : Int), .int .i64 s.h.k, .int .i32 (s.h.r : Int), .int .i64 (s.h.f : Int), .int .i64 (s.h.t : Int), .bool s.h.al] = scV (fitted s u) := by unfold fitted; rw [hfit]; rfl
         refine TX.rewE (k := 0) rfl (show cells b [.int .i64 s.st, .int .i64 s.tk.k, .int .i64 (s.tk.f : Int), .int .i64 (s.tk.t : Int), .int .i64 s.h.k, .int .i32 (s.h.r : Int), .int .i64 (s.h.f : Int), .int .i64 (s.h.t : Int), .bool s.h.al] 69 = cells b (scV (fitted s u)) 69 from (congrArg (fun z => cells b z 69) hB)) ?_
         show TX _ _ _ _ _ _ _ [cells b (scV (fitted s u)) 69, cells b1 [.int .i64 u.k, .int .i32 (u.r : Int), .int .i64 (u.f : Int), .int .i64 (u.t : Int), .bool u.al] 67]
         exact TX.fin (rs := [.tmp 4]) () (.inl rfl) Try.results48 (.cons (.tmp rfl) .nil) (by rw [hfit]; rfl) (Splits.of [0] (by as_aux_lemma => kernel_rfl) rfl)
       ·
        -- no
        have h26 := beq_eq_false_iff_ne.1 h26
        refine TC.skip (TX.blockNormal (TX.next (TC.seq (TC.region (TO.assign rfl (by decide) rfl (TO.nil (TX.next (TC.ret ?_))))))))
        have hfit : fits s.st u = (s.st, 0) := by unfold fits; simp_all <;> omega
        have hB : [.int .i64 s.st, .int .i64 s.tk.k, .int .i64 (s.tk.f : Int), .int .i64 (s.tk.t : Int), .int .i64 s.h.k, .int .i32 (s.h.r : Int), .int .i64 (s.h.f : Int), .int .i64 (s.h.t : Int), .bool s.h.al] = scV (fitted s u) := by unfold fitted; rw [hfit]; rfl
        refine TX.rewE (k := 0) rfl (show cells b [.int .i64 s.st, .int .i64 s.tk.k, .int .i64 (s.tk.f : Int), .int .i64 (s.tk.t : Int), .int .i64 s.h.k, .int .i32 (s.h.r : Int), .int .i64 (s.h.f : Int), .int .i64 (s.h.t : Int), .bool s.h.al] 69 = cells b (scV (fitted s u)) 69 from (congrArg (fun z => cells b z 69) hB)) ?_
        show TX _ _ _ _ _ _ _ [cells b (scV (fitted s u)) 69, cells b1 [.int .i64 u.k, .int .i32 (u.r : Int), .int .i64 (u.f : Int), .int .i64 (u.t : Int), .bool u.al] 67]
        exact TX.fin (rs := [.tmp 4]) () (.inl rfl) Try.results48 (.cons (.tmp rfl) .nil) (by rw [hfit]; rfl) (Splits.of [0] (by as_aux_lemma => kernel_rfl) rfl)
 ·
  -- no
  have h1 := beq_eq_false_iff_ne.1 h1
  refine TC.region (TO.bin rfl (by decide) rfl rfl bin_eql (TO.assign rfl (by decide) rfl (TO.nil (TX.next ?_))))
  refine TC.condB rfl (fun h29 => ?_) (fun h29 => ?_)
  ·
   -- yes
   have h29 := beq_iff_eq.1 h29
   refine TC.seq (TC.seq (TC.region (TO.move rfl (by decide) rfl (TO.bin rfl (by decide) rfl rfl bin_eql (TO.nil (TX.next ?_))))))
   refine TC.condB rfl (fun h30 => ?_) (fun h30 => ?_)
   ·
    -- yes
    have h30 := beq_iff_eq.1 h30
    refine TC.seq (TC.region (TO.move rfl (by decide) rfl (TO.nilCheck rfl (by decide) rfl (TO.fieldAddr fl_69_0 rfl (by decide) rfl (show _ = 0 from rfl) ?_))))
    refine TO.store (k := 0) (l' := [.int .i64 1, .int .i64 s.tk.k, .int .i64 (s.tk.f : Int), .int .i64 (s.tk.t : Int), .int .i64 s.h.k, .int .i32 (s.h.r : Int), .int .i64 (s.h.f : Int), .int .i64 (s.h.t : Int), .bool s.h.al]) sz_3 rfl rfl rfl rfl rfl (fun _ _ => rfl) rfl ?_
    refine TO.nil (TX.next (TC.seq (TC.region (TO.assign rfl (by decide) rfl (TO.nil (TX.next (TC.ret (TX.thenRet (TX.blockRet (TX.thenRet ?_))))))))))
    have hfit : fits s.st u = (1, 1) := by unfold fits; simp_all <;> omega
    have hB : [.int .i64 1, .int .i64 s.tk.k, .int .i64 (s.tk.f : Int), .int .i64 (s.tk.t : Int), .int .i64 s.h.k, .int .i32 (s.h.r : Int), .int .i64 (s.h.f : Int), .int .i64 (s.h.t : Int), .bool s.h.al] = scV (fitted s u) := by unfold fitted; rw [hfit]; rfl
    refine TX.rewE (k := 0) rfl (show cells b [.int .i64 1, .int .i64 s.tk.k, .int .i64 (s.tk.f : Int), .int .i64 (s.tk.t : Int), .int .i64 s.h.k, .int .i32 (s.h.r : Int), .int .i64 (s.h.f : Int), .int .i64 (s.h.t : Int), .bool s.h.al] 69 = cells b (scV (fitted s u)) 69 from (congrArg (fun z => cells b z 69) hB)) ?_
    show TX _ _ _ _ _ _ _ [cells b (scV (fitted s u)) 69, cells b1 [.int .i64 u.k, .int .i32 (u.r : Int), .int .i64 (u.f : Int), .int .i64 (u.t : Int), .bool u.al] 67]
    exact TX.fin (rs := [.tmp 4]) () (.inl rfl) Try.results48 (.cons (.tmp rfl) .nil) (by rw [hfit]; rfl) (Splits.of [0] (by as_aux_lemma => kernel_rfl) rfl)
   ·
    -- no
    have h30 := beq_eq_false_iff_ne.1 h30
    refine TC.skip (TX.next (TC.seq (TC.region (TO.move rfl (by decide) rfl (TO.nilCheck rfl (by decide) rfl (TO.fieldAddr fl_69_0 rfl (by decide) rfl (show _ = 0 from rfl) (TO.load (k := 0) sc_3 rfl (by decide) rfl rfl rfl (TO.bin rfl (by decide) rfl rfl bin_eql (TO.move rfl (by decide) rfl ?_)))))))))
    refine TO.split (s := 25) rfl (fun h31 => ?_) (fun h31 => ?_)
    ·
     -- yes
     have h31 := beq_iff_eq.1 h31
     refine TO.loads (k := 1) (cs := [.int .i64 u.k, .int .i32 (u.r : Int), .int .i64 (u.f : Int), .int .i64 (u.t : Int), .bool u.al]) rw_67 rfl (by decide) rfl rfl rfl rfl (TO.callP (v := .bool (joint u)) (vs := [.agg #[.int .i64 u.k, .int .i32 (u.r : Int), .int .i64 (u.f : Int), .int .i64 (u.t : Int), .bool u.al]]) rfl (by decide) rfl rfl rfl en_66 (joint_p u) (TO.pick (b := true) rfl (by decide) rfl rfl (TO.nil (TX.next ?_))))
     refine TC.condB rfl (fun h32 => ?_) (fun h32 => ?_)
     ·
      -- yes
      refine TC.seq ?_
      refine TC.drawB (β := Unit) 6 5 _ [(0, 29, .pointer (some ⟨b, 0, none⟩)), (1, 30, .pointer (some ⟨b, 0, none⟩)), (2, 31, .agg #[.int .i64 u.k, .int .i32 (u.r : Int), .int .i64 (u.f : Int), .int .i64 (u.t : Int), .bool u.al]), (3, 32, .pointer (some ⟨b, 0, none⟩)), (4, 33, .pointer (some ⟨b, 0, none⟩))] (fun _b => []) (fun _b => [cells b [.int .i64 2, .int .i64 s.tk.k, .int .i64 (s.tk.f : Int), .int .i64 (s.tk.t : Int), .int .i64 s.h.k, .int .i32 (s.h.r : Int), .int .i64 (s.h.f : Int), .int .i64 (s.h.t : Int), .bool s.h.al] 69, cells b1 [.int .i64 u.k, .int .i32 (u.r : Int), .int .i64 (u.f : Int), .int .i64 (u.t : Int), .bool u.al] 67]) mixed (by as_aux_lemma => kernel_rfl) (by as_aux_lemma => kernel_rfl) rfl (by decide) (by decide) (by rfl) (by as_aux_lemma => kernel_rfl) (by as_aux_lemma => kernel_rfl) (DrawPreX.cons ?_ (DrawPreX.cons ?_ (DrawPreX.cons ?_ (DrawPreX.cons ?_ (DrawPreX.cons ?_ (DrawPreX.here DrawPreX.nil)))))) (fun _b => (DrawPreX.cons ?_ (DrawPreX.cons ?_ (DrawPreX.cons ?_ (DrawPreX.cons ?_ (DrawPreX.cons ?_ (DrawPreX.here DrawPreX.nil))))))) ?_ ?_
      ·
       intro D hn hd hcl hu hi
       refine TO.move rfl (by decide) (dl_old (by rfl) rfl) ?_
       exact TX.quiet 0 hu hi rfl
      ·
       intro D hn hd hcl hu hi
       refine TO.move rfl (by decide) (dl_old (by rfl) rfl) ?_
       exact TX.quiet 1 hu hi rfl
      ·
       intro D hn hd hcl hu hi
       refine TO.loads (k := 1) (cs := [.int .i64 u.k, .int .i32 (u.r : Int), .int .i64 (u.f : Int), .int .i64 (u.t : Int), .bool u.al]) rw_67 rfl (by decide) (dl_old (by rfl) rfl) rfl rfl rfl ?_
       exact TX.quiet 2 hu hi rfl
      ·
       intro D hn hd hcl hu hi
       refine TO.nilCheck rfl (by decide) (dl_lookup (m := 0) hu rfl (hd 0 (by decide))) ?_
       exact TX.quiet 3 hu hi rfl
      ·
       intro D hn hd hcl hu hi
       refine TO.fieldAddr fl_69_0 rfl (by decide) (dl_lookup (m := 3) hu rfl (hd 3 (by decide))) (show _ = 0 from rfl) ?_
       exact TX.quiet 4 hu hi rfl
      ·
       intro D hn hd hcl hu hi
       refine TO.move rfl (by decide) (dl_old (by rfl) rfl) ?_
       exact TX.quiet 0 hu hi rfl
      ·
       intro D hn hd hcl hu hi
       refine TO.move rfl (by decide) (dl_old (by rfl) rfl) ?_
       exact TX.quiet 1 hu hi rfl
      ·
       intro D hn hd hcl hu hi
       refine TO.loads (k := 1) (cs := [.int .i64 u.k, .int .i32 (u.r : Int), .int .i64 (u.f : Int), .int .i64 (u.t : Int), .bool u.al]) rw_67 rfl (by decide) (dl_old (by rfl) rfl) rfl rfl rfl ?_
       exact TX.quiet 2 hu hi rfl
      ·
       intro D hn hd hcl hu hi
       refine TO.nilCheck rfl (by decide) (dl_lookup (m := 0) hu rfl (hd 0 (by decide))) ?_
       exact TX.quiet 3 hu hi rfl
      ·
       intro D hn hd hcl hu hi
       refine TO.fieldAddr fl_69_0 rfl (by decide) (dl_lookup (m := 3) hu rfl (hd 3 (by decide))) (show _ = 0 from rfl) ?_
       exact TX.quiet 4 hu hi rfl
      ·
       intro D hn hd hcl
       refine TO.store (k := 0) (l' := [.int .i64 2, .int .i64 s.tk.k, .int .i64 (s.tk.f : Int), .int .i64 (s.tk.t : Int), .int .i64 s.h.k, .int .i32 (s.h.r : Int), .int .i64 (s.h.f : Int), .int .i64 (s.h.t : Int), .bool s.h.al]) sz_3 rfl (dl_lookup (m := 4) (by as_aux_lemma => kernel_rfl) rfl (hd 4 (by decide))) rfl rfl rfl (fun _ _ => rfl) rfl ?_
       exact fun a w ha hw => ⟨(), ha, hw⟩
      intro _b
      show TO _ _ _ _ _ _ _ _ _ _ [cells b [.int .i64 2, .int .i64 s.tk.k, .int .i64 (s.tk.f : Int), .int .i64 (s.tk.t : Int), .int .i64 s.h.k, .int .i32 (s.h.r : Int), .int .i64 (s.h.f : Int), .int .i64 (s.h.t : Int), .bool s.h.al] 69, cells b1 [.int .i64 u.k, .int .i32 (u.r : Int), .int .i64 (u.f : Int), .int .i64 (u.t : Int), .bool u.al] 67]
      refine TO.nilCheck rfl (by decide) rfl (TO.fieldAddr fl_69_2 rfl (by decide) rfl (show _ = 4 from rfl) (TO.stores (k := 0) (vs := [.int .i64 u.k, .int .i32 (u.r : Int), .int .i64 (u.f : Int), .int .i64 (u.t : Int), .bool u.al]) (l' := [.int .i64 2, .int .i64 s.tk.k, .int .i64 (s.tk.f : Int), .int .i64 (s.tk.t : Int), .int .i64 u.k, .int .i32 (u.r : Int), .int .i64 (u.f : Int), .int .i64 (u.t : Int), .bool u.al]) sz_67 rfl rfl rfl rfl rfl (show _ ≤ _ by simp) rfl rfl (TO.nil (TX.next (TC.seq (TC.region (TO.assign rfl (by decide) rfl (TO.nil (TX.next (TC.ret (TX.blockRet (TX.thenRet ?_))))))))))))
      have hfit : fits s.st u = (2, 2) := by unfold fits; simp_all <;> omega
      have hB : [.int .i64 2, .int .i64 s.tk.k, .int .i64 (s.tk.f : Int), .int .i64 (s.tk.t : Int), .int .i64 u.k, .int .i32 (u.r : Int), .int .i64 (u.f : Int), .int .i64 (u.t : Int), .bool u.al] = scV (fitted s u) := by unfold fitted; rw [hfit]; rfl
      refine TX.rewE (k := 0) rfl (show cells b [.int .i64 2, .int .i64 s.tk.k, .int .i64 (s.tk.f : Int), .int .i64 (s.tk.t : Int), .int .i64 u.k, .int .i32 (u.r : Int), .int .i64 (u.f : Int), .int .i64 (u.t : Int), .bool u.al] 69 = cells b (scV (fitted s u)) 69 from (congrArg (fun z => cells b z 69) hB)) ?_
      show TX _ _ _ _ _ _ _ [cells b (scV (fitted s u)) 69, cells b1 [.int .i64 u.k, .int .i32 (u.r : Int), .int .i64 (u.f : Int), .int .i64 (u.t : Int), .bool u.al] 67]
      exact TX.fin (rs := [.tmp 4]) () (.inl rfl) Try.results48 (.cons (.tmp rfl) .nil) (by rw [hfit]; rfl) (Splits.of [0] (by as_aux_lemma => kernel_rfl) rfl)
     ·
      -- no
      refine TC.skip (TX.blockNormal (TX.next (TC.seq (TC.region (TO.assign rfl (by decide) rfl (TO.nil (TX.next (TC.ret ?_))))))))
      have hfit : fits s.st u = (s.st, 0) := by unfold fits; simp_all <;> omega
      have hB : [.int .i64 s.st, .int .i64 s.tk.k, .int .i64 (s.tk.f : Int), .int .i64 (s.tk.t : Int), .int .i64 s.h.k, .int .i32 (s.h.r : Int), .int .i64 (s.h.f : Int), .int .i64 (s.h.t : Int), .bool s.h.al] = scV (fitted s u) := by unfold fitted; rw [hfit]; rfl
      refine TX.rewE (k := 0) rfl (show cells b [.int .i64 s.st, .int .i64 s.tk.k, .int .i64 (s.tk.f : Int), .int .i64 (s.tk.t : Int), .int .i64 s.h.k, .int .i32 (s.h.r : Int), .int .i64 (s.h.f : Int), .int .i64 (s.h.t : Int), .bool s.h.al] 69 = cells b (scV (fitted s u)) 69 from (congrArg (fun z => cells b z 69) hB)) ?_
      show TX _ _ _ _ _ _ _ [cells b (scV (fitted s u)) 69, cells b1 [.int .i64 u.k, .int .i32 (u.r : Int), .int .i64 (u.f : Int), .int .i64 (u.t : Int), .bool u.al] 67]
      exact TX.fin (rs := [.tmp 4]) () (.inl rfl) Try.results48 (.cons (.tmp rfl) .nil) (by rw [hfit]; rfl) (Splits.of [0] (by as_aux_lemma => kernel_rfl) rfl)
    ·
     -- no
     have h31 := beq_eq_false_iff_ne.1 h31
     refine TO.skip rfl (by decide) (TO.skip rfl (by decide) (TO.pick (b := false) rfl (by decide) rfl rfl (TO.nil (TX.next (TC.condF rfl (TC.skip (TX.blockNormal (TX.next (TC.seq (TC.region (TO.assign rfl (by decide) rfl (TO.nil (TX.next ?_)))))))))))))
     refine TC.ret ?_
     have hfit : fits s.st u = (s.st, 0) := by unfold fits; simp_all <;> omega
     have hB : [.int .i64 s.st, .int .i64 s.tk.k, .int .i64 (s.tk.f : Int), .int .i64 (s.tk.t : Int), .int .i64 s.h.k, .int .i32 (s.h.r : Int), .int .i64 (s.h.f : Int), .int .i64 (s.h.t : Int), .bool s.h.al] = scV (fitted s u) := by unfold fitted; rw [hfit]; rfl
     refine TX.rewE (k := 0) rfl (show cells b [.int .i64 s.st, .int .i64 s.tk.k, .int .i64 (s.tk.f : Int), .int .i64 (s.tk.t : Int), .int .i64 s.h.k, .int .i32 (s.h.r : Int), .int .i64 (s.h.f : Int), .int .i64 (s.h.t : Int), .bool s.h.al] 69 = cells b (scV (fitted s u)) 69 from (congrArg (fun z => cells b z 69) hB)) ?_
     show TX _ _ _ _ _ _ _ [cells b (scV (fitted s u)) 69, cells b1 [.int .i64 u.k, .int .i32 (u.r : Int), .int .i64 (u.f : Int), .int .i64 (u.t : Int), .bool u.al] 67]
     exact TX.fin (rs := [.tmp 4]) () (.inl rfl) Try.results48 (.cons (.tmp rfl) .nil) (by rw [hfit]; rfl) (Splits.of [0] (by as_aux_lemma => kernel_rfl) rfl)
  ·
   -- no
   have h29 := beq_eq_false_iff_ne.1 h29
   refine TC.seq (TC.seq (TC.region (TO.bin rfl (by decide) rfl rfl bin_eql (TO.assign rfl (by decide) rfl (TO.nil (TX.next ?_))))))
   refine TC.condB rfl (fun h33 => ?_) (fun h33 => ?_)
   ·
    -- yes
    have h33 := beq_iff_eq.1 h33
    refine TC.skip (TX.next ?_)
    refine TC.condB rfl (fun h34 => ?_) (fun h34 => ?_)
    ·
     -- yes
     have h34 := beq_iff_eq.1 h34
     refine TC.seq (TC.seq (TC.region (TO.move rfl (by decide) rfl (TO.bin rfl (by decide) rfl rfl bin_eql (TO.nil (TX.next ?_))))))
     refine TC.condB rfl (fun h35 => ?_) (fun h35 => ?_)
     ·
      -- yes
      have h35 := beq_iff_eq.1 h35
      refine TC.seq (TC.region (TO.move rfl (by decide) rfl (TO.nilCheck rfl (by decide) rfl (TO.fieldAddr fl_69_0 rfl (by decide) rfl (show _ = 0 from rfl) ?_))))
      refine TO.store (k := 0) (l' := [.int .i64 3, .int .i64 s.tk.k, .int .i64 (s.tk.f : Int), .int .i64 (s.tk.t : Int), .int .i64 s.h.k, .int .i32 (s.h.r : Int), .int .i64 (s.h.f : Int), .int .i64 (s.h.t : Int), .bool s.h.al]) sz_3 rfl rfl rfl rfl rfl (fun _ _ => rfl) rfl ?_
      refine TO.nil (TX.next (TC.seq (TC.region (TO.assign rfl (by decide) rfl (TO.nil (TX.next (TC.ret (TX.thenRet (TX.blockRet (TX.thenRet ?_))))))))))
      have hfit : fits s.st u = (3, 1) := by unfold fits; simp_all <;> omega
      have hB : [.int .i64 3, .int .i64 s.tk.k, .int .i64 (s.tk.f : Int), .int .i64 (s.tk.t : Int), .int .i64 s.h.k, .int .i32 (s.h.r : Int), .int .i64 (s.h.f : Int), .int .i64 (s.h.t : Int), .bool s.h.al] = scV (fitted s u) := by unfold fitted; rw [hfit]; rfl
      refine TX.rewE (k := 0) rfl (show cells b [.int .i64 3, .int .i64 s.tk.k, .int .i64 (s.tk.f : Int), .int .i64 (s.tk.t : Int), .int .i64 s.h.k, .int .i32 (s.h.r : Int), .int .i64 (s.h.f : Int), .int .i64 (s.h.t : Int), .bool s.h.al] 69 = cells b (scV (fitted s u)) 69 from (congrArg (fun z => cells b z 69) hB)) ?_
      show TX _ _ _ _ _ _ _ [cells b (scV (fitted s u)) 69, cells b1 [.int .i64 u.k, .int .i32 (u.r : Int), .int .i64 (u.f : Int), .int .i64 (u.t : Int), .bool u.al] 67]
      exact TX.fin (rs := [.tmp 4]) () (.inl rfl) Try.results48 (.cons (.tmp rfl) .nil) (by rw [hfit]; rfl) (Splits.of [0] (by as_aux_lemma => kernel_rfl) rfl)
     ·
      -- no
      have h35 := beq_eq_false_iff_ne.1 h35
      refine TC.skip (TX.next (TC.seq (TC.region (TO.move rfl (by decide) rfl (TO.nilCheck rfl (by decide) rfl (TO.fieldAddr fl_69_0 rfl (by decide) rfl (show _ = 0 from rfl) (TO.load (k := 0) sc_3 rfl (by decide) rfl rfl rfl (TO.bin rfl (by decide) rfl rfl bin_eql (TO.move rfl (by decide) rfl ?_)))))))))
      refine TO.split (s := 49) rfl (fun h36 => ?_) (fun h36 => ?_)
      ·
       -- yes
       have h36 := beq_iff_eq.1 h36
       refine TO.loads (k := 1) (cs := [.int .i64 u.k, .int .i32 (u.r : Int), .int .i64 (u.f : Int), .int .i64 (u.t : Int), .bool u.al]) rw_67 rfl (by decide) rfl rfl rfl rfl (TO.callP (v := .bool (dot u)) (vs := [.agg #[.int .i64 u.k, .int .i32 (u.r : Int), .int .i64 (u.f : Int), .int .i64 (u.t : Int), .bool u.al]]) rfl (by decide) rfl rfl rfl en_67 (dot_p u) (TO.pick (b := true) rfl (by decide) rfl rfl (TO.nil (TX.next ?_))))
       refine TC.condB rfl (fun h37 => ?_) (fun h37 => ?_)
       ·
        -- yes
        refine TC.seq ?_
        refine TC.drawB (β := Unit) 6 5 _ [(0, 53, .pointer (some ⟨b, 0, none⟩)), (1, 54, .pointer (some ⟨b, 0, none⟩)), (2, 55, .agg #[.int .i64 u.k, .int .i32 (u.r : Int), .int .i64 (u.f : Int), .int .i64 (u.t : Int), .bool u.al]), (3, 56, .pointer (some ⟨b, 0, none⟩)), (4, 57, .pointer (some ⟨b, 0, none⟩))] (fun _b => []) (fun _b => [cells b [.int .i64 4, .int .i64 s.tk.k, .int .i64 (s.tk.f : Int), .int .i64 (s.tk.t : Int), .int .i64 s.h.k, .int .i32 (s.h.r : Int), .int .i64 (s.h.f : Int), .int .i64 (s.h.t : Int), .bool s.h.al] 69, cells b1 [.int .i64 u.k, .int .i32 (u.r : Int), .int .i64 (u.f : Int), .int .i64 (u.t : Int), .bool u.al] 67]) mixed (by as_aux_lemma => kernel_rfl) (by as_aux_lemma => kernel_rfl) rfl (by decide) (by decide) (by rfl) (by as_aux_lemma => kernel_rfl) (by as_aux_lemma => kernel_rfl) (DrawPreX.cons ?_ (DrawPreX.cons ?_ (DrawPreX.cons ?_ (DrawPreX.cons ?_ (DrawPreX.cons ?_ (DrawPreX.here DrawPreX.nil)))))) (fun _b => (DrawPreX.cons ?_ (DrawPreX.cons ?_ (DrawPreX.cons ?_ (DrawPreX.cons ?_ (DrawPreX.cons ?_ (DrawPreX.here DrawPreX.nil))))))) ?_ ?_
        ·
         intro D hn hd hcl hu hi
         refine TO.move rfl (by decide) (dl_old (by rfl) rfl) ?_
         exact TX.quiet 0 hu hi rfl
        ·
         intro D hn hd hcl hu hi
         refine TO.move rfl (by decide) (dl_old (by rfl) rfl) ?_
         exact TX.quiet 1 hu hi rfl
        ·
         intro D hn hd hcl hu hi
         refine TO.loads (k := 1) (cs := [.int .i64 u.k, .int .i32 (u.r : Int), .int .i64 (u.f : Int), .int .i64 (u.t : Int), .bool u.al]) rw_67 rfl (by decide) (dl_old (by rfl) rfl) rfl rfl rfl ?_
         exact TX.quiet 2 hu hi rfl
        ·
         intro D hn hd hcl hu hi
         refine TO.nilCheck rfl (by decide) (dl_lookup (m := 0) hu rfl (hd 0 (by decide))) ?_
         exact TX.quiet 3 hu hi rfl
        ·
         intro D hn hd hcl hu hi
         refine TO.fieldAddr fl_69_0 rfl (by decide) (dl_lookup (m := 3) hu rfl (hd 3 (by decide))) (show _ = 0 from rfl) ?_
         exact TX.quiet 4 hu hi rfl
        ·
         intro D hn hd hcl hu hi
         refine TO.move rfl (by decide) (dl_old (by rfl) rfl) ?_
         exact TX.quiet 0 hu hi rfl
        ·
         intro D hn hd hcl hu hi
         refine TO.move rfl (by decide) (dl_old (by rfl) rfl) ?_
         exact TX.quiet 1 hu hi rfl
        ·
         intro D hn hd hcl hu hi
         refine TO.loads (k := 1) (cs := [.int .i64 u.k, .int .i32 (u.r : Int), .int .i64 (u.f : Int), .int .i64 (u.t : Int), .bool u.al]) rw_67 rfl (by decide) (dl_old (by rfl) rfl) rfl rfl rfl ?_
         exact TX.quiet 2 hu hi rfl
        ·
         intro D hn hd hcl hu hi
         refine TO.nilCheck rfl (by decide) (dl_lookup (m := 0) hu rfl (hd 0 (by decide))) ?_
         exact TX.quiet 3 hu hi rfl
        ·
         intro D hn hd hcl hu hi
         refine TO.fieldAddr fl_69_0 rfl (by decide) (dl_lookup (m := 3) hu rfl (hd 3 (by decide))) (show _ = 0 from rfl) ?_
         exact TX.quiet 4 hu hi rfl
        ·
         intro D hn hd hcl
         refine TO.store (k := 0) (l' := [.int .i64 4, .int .i64 s.tk.k, .int .i64 (s.tk.f : Int), .int .i64 (s.tk.t : Int), .int .i64 s.h.k, .int .i32 (s.h.r : Int), .int .i64 (s.h.f : Int), .int .i64 (s.h.t : Int), .bool s.h.al]) sz_3 rfl (dl_lookup (m := 4) (by as_aux_lemma => kernel_rfl) rfl (hd 4 (by decide))) rfl rfl rfl (fun _ _ => rfl) rfl ?_
         exact fun a w ha hw => ⟨(), ha, hw⟩
        intro _b
        show TO _ _ _ _ _ _ _ _ _ _ [cells b [.int .i64 4, .int .i64 s.tk.k, .int .i64 (s.tk.f : Int), .int .i64 (s.tk.t : Int), .int .i64 s.h.k, .int .i32 (s.h.r : Int), .int .i64 (s.h.f : Int), .int .i64 (s.h.t : Int), .bool s.h.al] 69, cells b1 [.int .i64 u.k, .int .i32 (u.r : Int), .int .i64 (u.f : Int), .int .i64 (u.t : Int), .bool u.al] 67]
        refine TO.nilCheck rfl (by decide) rfl (TO.fieldAddr fl_69_2 rfl (by decide) rfl (show _ = 4 from rfl) (TO.stores (k := 0) (vs := [.int .i64 u.k, .int .i32 (u.r : Int), .int .i64 (u.f : Int), .int .i64 (u.t : Int), .bool u.al]) (l' := [.int .i64 4, .int .i64 s.tk.k, .int .i64 (s.tk.f : Int), .int .i64 (s.tk.t : Int), .int .i64 u.k, .int .i32 (u.r : Int), .int .i64 (u.f : Int), .int .i64 (u.t : Int), .bool u.al]) sz_67 rfl rfl rfl rfl rfl (show _ ≤ _ by simp) rfl rfl (TO.nil (TX.next (TC.seq (TC.region (TO.assign rfl (by decide) rfl (TO.nil (TX.next (TC.ret (TX.blockRet (TX.thenRet ?_))))))))))))
        have hfit : fits s.st u = (4, 2) := by unfold fits; simp_all <;> omega
        have hB : [.int .i64 4, .int .i64 s.tk.k, .int .i64 (s.tk.f : Int), .int .i64 (s.tk.t : Int), .int .i64 u.k, .int .i32 (u.r : Int), .int .i64 (u.f : Int), .int .i64 (u.t : Int), .bool u.al] = scV (fitted s u) := by unfold fitted; rw [hfit]; rfl
        refine TX.rewE (k := 0) rfl (show cells b [.int .i64 4, .int .i64 s.tk.k, .int .i64 (s.tk.f : Int), .int .i64 (s.tk.t : Int), .int .i64 u.k, .int .i32 (u.r : Int), .int .i64 (u.f : Int), .int .i64 (u.t : Int), .bool u.al] 69 = cells b (scV (fitted s u)) 69 from (congrArg (fun z => cells b z 69) hB)) ?_
        show TX _ _ _ _ _ _ _ [cells b (scV (fitted s u)) 69, cells b1 [.int .i64 u.k, .int .i32 (u.r : Int), .int .i64 (u.f : Int), .int .i64 (u.t : Int), .bool u.al] 67]
        exact TX.fin (rs := [.tmp 4]) () (.inl rfl) Try.results48 (.cons (.tmp rfl) .nil) (by rw [hfit]; rfl) (Splits.of [0] (by as_aux_lemma => kernel_rfl) rfl)
       ·
        -- no
        refine TC.skip (TX.blockNormal (TX.next (TC.seq (TC.region (TO.assign rfl (by decide) rfl (TO.nil (TX.next (TC.ret ?_))))))))
        have hfit : fits s.st u = (s.st, 0) := by unfold fits; simp_all <;> omega
        have hB : [.int .i64 s.st, .int .i64 s.tk.k, .int .i64 (s.tk.f : Int), .int .i64 (s.tk.t : Int), .int .i64 s.h.k, .int .i32 (s.h.r : Int), .int .i64 (s.h.f : Int), .int .i64 (s.h.t : Int), .bool s.h.al] = scV (fitted s u) := by unfold fitted; rw [hfit]; rfl
        refine TX.rewE (k := 0) rfl (show cells b [.int .i64 s.st, .int .i64 s.tk.k, .int .i64 (s.tk.f : Int), .int .i64 (s.tk.t : Int), .int .i64 s.h.k, .int .i32 (s.h.r : Int), .int .i64 (s.h.f : Int), .int .i64 (s.h.t : Int), .bool s.h.al] 69 = cells b (scV (fitted s u)) 69 from (congrArg (fun z => cells b z 69) hB)) ?_
        show TX _ _ _ _ _ _ _ [cells b (scV (fitted s u)) 69, cells b1 [.int .i64 u.k, .int .i32 (u.r : Int), .int .i64 (u.f : Int), .int .i64 (u.t : Int), .bool u.al] 67]
        exact TX.fin (rs := [.tmp 4]) () (.inl rfl) Try.results48 (.cons (.tmp rfl) .nil) (by rw [hfit]; rfl) (Splits.of [0] (by as_aux_lemma => kernel_rfl) rfl)
      ·
       -- no
       have h36 := beq_eq_false_iff_ne.1 h36
       refine TO.skip rfl (by decide) (TO.skip rfl (by decide) (TO.pick (b := false) rfl (by decide) rfl rfl (TO.nil (TX.next (TC.condF rfl (TC.skip (TX.blockNormal (TX.next (TC.seq (TC.region (TO.assign rfl (by decide) rfl (TO.nil (TX.next ?_)))))))))))))
       refine TC.ret ?_
       have hfit : fits s.st u = (s.st, 0) := by unfold fits; simp_all <;> omega
       have hB : [.int .i64 s.st, .int .i64 s.tk.k, .int .i64 (s.tk.f : Int), .int .i64 (s.tk.t : Int), .int .i64 s.h.k, .int .i32 (s.h.r : Int), .int .i64 (s.h.f : Int), .int .i64 (s.h.t : Int), .bool s.h.al] = scV (fitted s u) := by unfold fitted; rw [hfit]; rfl
       refine TX.rewE (k := 0) rfl (show cells b [.int .i64 s.st, .int .i64 s.tk.k, .int .i64 (s.tk.f : Int), .int .i64 (s.tk.t : Int), .int .i64 s.h.k, .int .i32 (s.h.r : Int), .int .i64 (s.h.f : Int), .int .i64 (s.h.t : Int), .bool s.h.al] 69 = cells b (scV (fitted s u)) 69 from (congrArg (fun z => cells b z 69) hB)) ?_
       show TX _ _ _ _ _ _ _ [cells b (scV (fitted s u)) 69, cells b1 [.int .i64 u.k, .int .i32 (u.r : Int), .int .i64 (u.f : Int), .int .i64 (u.t : Int), .bool u.al] 67]
       exact TX.fin (rs := [.tmp 4]) () (.inl rfl) Try.results48 (.cons (.tmp rfl) .nil) (by rw [hfit]; rfl) (Splits.of [0] (by as_aux_lemma => kernel_rfl) rfl)
    ·
     -- no
     have h34 := beq_eq_false_iff_ne.1 h34
     refine TC.seq (TC.region (TO.bin rfl (by decide) rfl rfl bin_eql (TO.assign rfl (by decide) rfl (TO.nil (TX.next ?_)))))
     refine TC.condB rfl (fun h38 => ?_) (fun h38 => ?_)
     ·
      -- yes
      have h38 := beq_iff_eq.1 h38
      refine TC.seq (TC.region (TO.move rfl (by decide) rfl (TO.bin rfl (by decide) rfl rfl bin_eql (TO.nil (TX.next ?_)))))
      refine TC.condB rfl (fun h39 => ?_) (fun h39 => ?_)
      ·
       -- yes
       have h39 := beq_iff_eq.1 h39
       refine TC.seq (TC.region (TO.assign rfl (by decide) rfl (TO.nil (TX.next (TC.ret (TX.blockRet (TX.thenRet ?_)))))))
       have hfit : fits s.st u = (s.st, 1) := by unfold fits; simp_all <;> omega
       have hB : [.int .i64 s.st, .int .i64 s.tk.k, .int .i64 (s.tk.f : Int), .int .i64 (s.tk.t : Int), .int .i64 s.h.k, .int .i32 (s.h.r : Int), .int .i64 (s.h.f : Int), .int .i64 (s.h.t : Int), .bool s.h.al] = scV (fitted s u) := by unfold fitted; rw [hfit]; rfl
       refine TX.rewE (k := 0) rfl (show cells b [.int .i64 s.st, .int .i64 s.tk.k, .int .i64 (s.tk.f : Int), .int .i64 (s.tk.t : Int), .int .i64 s.h.k, .int .i32 (s.h.r : Int), .int .i64 (s.h.f : Int), .int .i64 (s.h.t : Int), .bool s.h.al] 69 = cells b (scV (fitted s u)) 69 from (congrArg (fun z => cells b z 69) hB)) ?_
       show TX _ _ _ _ _ _ _ [cells b (scV (fitted s u)) 69, cells b1 [.int .i64 u.k, .int .i32 (u.r : Int), .int .i64 (u.f : Int), .int .i64 (u.t : Int), .bool u.al] 67]
       exact TX.fin (rs := [.tmp 4]) () (.inl rfl) Try.results48 (.cons (.tmp rfl) .nil) (by rw [hfit]; rfl) (Splits.of [0] (by as_aux_lemma => kernel_rfl) rfl)
      ·
       -- no
       have h39 := beq_eq_false_iff_ne.1 h39
       refine TC.skip (TX.blockNormal (TX.next (TC.seq (TC.region (TO.assign rfl (by decide) rfl (TO.nil (TX.next (TC.ret ?_))))))))
       have hfit : fits s.st u = (s.st, 0) := by unfold fits; simp_all <;> omega
       have hB : [.int .i64 s.st, .int .i64 s.tk.k, .int .i64 (s.tk.f : Int), .int .i64 (s.tk.t : Int), .int .i64 s.h.k, .int .i32 (s.h.r : Int), .int .i64 (s.h.f : Int), .int .i64 (s.h.t : Int), .bool s.h.al] = scV (fitted s u) := by unfold fitted; rw [hfit]; rfl
       refine TX.rewE (k := 0) rfl (show cells b [.int .i64 s.st, .int .i64 s.tk.k, .int .i64 (s.tk.f : Int), .int .i64 (s.tk.t : Int), .int .i64 s.h.k, .int .i32 (s.h.r : Int), .int .i64 (s.h.f : Int), .int .i64 (s.h.t : Int), .bool s.h.al] 69 = cells b (scV (fitted s u)) 69 from (congrArg (fun z => cells b z 69) hB)) ?_
       show TX _ _ _ _ _ _ _ [cells b (scV (fitted s u)) 69, cells b1 [.int .i64 u.k, .int .i32 (u.r : Int), .int .i64 (u.f : Int), .int .i64 (u.t : Int), .bool u.al] 67]
       exact TX.fin (rs := [.tmp 4]) () (.inl rfl) Try.results48 (.cons (.tmp rfl) .nil) (by rw [hfit]; rfl) (Splits.of [0] (by as_aux_lemma => kernel_rfl) rfl)
     ·
      -- no
      have h38 := beq_eq_false_iff_ne.1 h38
      refine TC.seq (TC.region (TO.bin rfl (by decide) rfl rfl bin_eql (TO.assign rfl (by decide) rfl (TO.nil (TX.next ?_)))))
      refine TC.condB rfl (fun h40 => ?_) (fun h40 => ?_)
      ·
       -- yes
       have h40 := beq_iff_eq.1 h40
       refine TC.seq (TC.region (TO.move rfl (by decide) rfl (TO.bin rfl (by decide) rfl rfl bin_eql (TO.nil (TX.next ?_)))))
       refine TC.condB rfl (fun h41 => ?_) (fun h41 => ?_)
       ·
        -- yes
        have h41 := beq_iff_eq.1 h41
        refine TC.seq (TC.region (TO.assign rfl (by decide) rfl (TO.nil (TX.next (TC.ret (TX.blockRet (TX.thenRet ?_)))))))
        have hfit : fits s.st u = (s.st, 1) := by unfold fits; simp_all <;> omega
        have hB : [.int .i64 s.st, .int .i64 s.tk.k, .int .i64 (s.tk.f : Int), .int .i64 (s.tk.t : Int), .int .i64 s.h.k, .int .i32 (s.h.r : Int), .int .i64 (s.h.f : Int), .int .i64 (s.h.t : Int), .bool s.h.al] = scV (fitted s u) := by unfold fitted; rw [hfit]; rfl
        refine TX.rewE (k := 0) rfl (show cells b [.int .i64 s.st, .int .i64 s.tk.k, .int .i64 (s.tk.f : Int), .int .i64 (s.tk.t : Int), .int .i64 s.h.k, .int .i32 (s.h.r : Int), .int .i64 (s.h.f : Int), .int .i64 (s.h.t : Int), .bool s.h.al] 69 = cells b (scV (fitted s u)) 69 from (congrArg (fun z => cells b z 69) hB)) ?_
        show TX _ _ _ _ _ _ _ [cells b (scV (fitted s u)) 69, cells b1 [.int .i64 u.k, .int .i32 (u.r : Int), .int .i64 (u.f : Int), .int .i64 (u.t : Int), .bool u.al] 67]
        exact TX.fin (rs := [.tmp 4]) () (.inl rfl) Try.results48 (.cons (.tmp rfl) .nil) (by rw [hfit]; rfl) (Splits.of [0] (by as_aux_lemma => kernel_rfl) rfl)
       ·
        -- no
        have h41 := beq_eq_false_iff_ne.1 h41
        refine TC.skip (TX.blockNormal (TX.next (TC.seq (TC.region (TO.assign rfl (by decide) rfl (TO.nil (TX.next (TC.ret ?_))))))))
        have hfit : fits s.st u = (s.st, 0) := by unfold fits; simp_all <;> omega
        have hB : [.int .i64 s.st, .int .i64 s.tk.k, .int .i64 (s.tk.f : Int), .int .i64 (s.tk.t : Int), .int .i64 s.h.k, .int .i32 (s.h.r : Int), .int .i64 (s.h.f : Int), .int .i64 (s.h.t : Int), .bool s.h.al] = scV (fitted s u) := by unfold fitted; rw [hfit]; rfl
        refine TX.rewE (k := 0) rfl (show cells b [.int .i64 s.st, .int .i64 s.tk.k, .int .i64 (s.tk.f : Int), .int .i64 (s.tk.t : Int), .int .i64 s.h.k, .int .i32 (s.h.r : Int), .int .i64 (s.h.f : Int), .int .i64 (s.h.t : Int), .bool s.h.al] 69 = cells b (scV (fitted s u)) 69 from (congrArg (fun z => cells b z 69) hB)) ?_
        show TX _ _ _ _ _ _ _ [cells b (scV (fitted s u)) 69, cells b1 [.int .i64 u.k, .int .i32 (u.r : Int), .int .i64 (u.f : Int), .int .i64 (u.t : Int), .bool u.al] 67]
        exact TX.fin (rs := [.tmp 4]) () (.inl rfl) Try.results48 (.cons (.tmp rfl) .nil) (by rw [hfit]; rfl) (Splits.of [0] (by as_aux_lemma => kernel_rfl) rfl)
      ·
       -- no
       have h40 := beq_eq_false_iff_ne.1 h40
       refine TC.seq (TC.region (TO.bin rfl (by decide) rfl rfl bin_eql (TO.assign rfl (by decide) rfl (TO.nil (TX.next ?_)))))
       refine TC.condB rfl (fun h42 => ?_) (fun h42 => ?_)
       ·
        -- yes
        have h42 := beq_iff_eq.1 h42
        refine TC.seq (TC.region (TO.move rfl (by decide) rfl (TO.bin rfl (by decide) rfl rfl bin_eql (TO.move rfl (by decide) rfl ?_))))
        refine TO.split (s := 72) rfl (fun h43 => ?_) (fun h43 => ?_)
        ·
         -- yes
         have h43 := beq_iff_eq.1 h43
         refine TO.fieldAddr fl_67_1 rfl (by decide) rfl (show _ = 1 from rfl) (TO.load (k := 1) sc_21 rfl (by decide) rfl rfl rfl (TO.bin rfl (by decide) rfl rfl bin_eql (TO.pick (b := true) rfl (by decide) rfl rfl (TO.nil (TX.next ?_)))))
         refine TC.condB rfl (fun h44 => ?_) (fun h44 => ?_)
         ·
          -- yes
          have h44 := beq_iff_eq.1 h44
          refine TC.seq (TC.region (TO.move rfl (by decide) rfl (TO.nilCheck rfl (by decide) rfl (TO.fieldAddr fl_69_0 rfl (by decide) rfl (show _ = 0 from rfl) ?_))))
          refine TO.store (k := 0) (l' := [.int .i64 7, .int .i64 s.tk.k, .int .i64 (s.tk.f : Int), .int .i64 (s.tk.t : Int), .int .i64 s.h.k, .int .i32 (s.h.r : Int), .int .i64 (s.h.f : Int), .int .i64 (s.h.t : Int), .bool s.h.al]) sz_3 rfl rfl rfl rfl rfl (fun _ _ => rfl) rfl ?_
          refine TO.nil (TX.next (TC.seq (TC.region (TO.assign rfl (by decide) rfl (TO.nil (TX.next (TC.ret (TX.blockRet (TX.thenRet ?_)))))))))
          have hfit : fits s.st u = (7, 1) := by unfold fits; simp_all <;> omega
          have hB : [.int .i64 7, .int .i64 s.tk.k, .int .i64 (s.tk.f : Int), .int .i64 (s.tk.t : Int), .int .i64 s.h.k, .int .i32 (s.h.r : Int), .int .i64 (s.h.f : Int), .int .i64 (s.h.t : Int), .bool s.h.al] = scV (fitted s u) := by unfold fitted; rw [hfit]; rfl
          refine TX.rewE (k := 0) rfl (show cells b [.int .i64 7, .int .i64 s.tk.k, .int .i64 (s.tk.f : Int), .int .i64 (s.tk.t : Int), .int .i64 s.h.k, .int .i32 (s.h.r : Int), .int .i64 (s.h.f : Int), .int .i64 (s.h.t : Int), .bool s.h.al] 69 = cells b (scV (fitted s u)) 69 from (congrArg (fun z => cells b z 69) hB)) ?_
          show TX _ _ _ _ _ _ _ [cells b (scV (fitted s u)) 69, cells b1 [.int .i64 u.k, .int .i32 (u.r : Int), .int .i64 (u.f : Int), .int .i64 (u.t : Int), .bool u.al] 67]
          exact TX.fin (rs := [.tmp 4]) () (.inl rfl) Try.results48 (.cons (.tmp rfl) .nil) (by rw [hfit]; rfl) (Splits.of [0] (by as_aux_lemma => kernel_rfl) rfl)
         ·
          -- no
          have h44 := beq_eq_false_iff_ne.1 h44
          refine TC.skip (TX.blockNormal (TX.next (TC.seq (TC.region (TO.assign rfl (by decide) rfl (TO.nil (TX.next (TC.ret ?_))))))))
          have hfit : fits s.st u = (s.st, 0) := by unfold fits; simp_all <;> omega
          have hB : [.int .i64 s.st, .int .i64 s.tk.k, .int .i64 (s.tk.f : Int), .int .i64 (s.tk.t : Int), .int .i64 s.h.k, .int .i32 (s.h.r : Int), .int .i64 (s.h.f : Int), .int .i64 (s.h.t : Int), .bool s.h.al] = scV (fitted s u) := by unfold fitted; rw [hfit]; rfl
          refine TX.rewE (k := 0) rfl (show cells b [.int .i64 s.st, .int .i64 s.tk.k, .int .i64 (s.tk.f : Int), .int .i64 (s.tk.t : Int), .int .i64 s.h.k, .int .i32 (s.h.r : Int), .int .i64 (s.h.f : Int), .int .i64 (s.h.t : Int), .bool s.h.al] 69 = cells b (scV (fitted s u)) 69 from (congrArg (fun z => cells b z 69) hB)) ?_
          show TX _ _ _ _ _ _ _ [cells b (scV (fitted s u)) 69, cells b1 [.int .i64 u.k, .int .i32 (u.r : Int), .int .i64 (u.f : Int), .int .i64 (u.t : Int), .bool u.al] 67]
          exact TX.fin (rs := [.tmp 4]) () (.inl rfl) Try.results48 (.cons (.tmp rfl) .nil) (by rw [hfit]; rfl) (Splits.of [0] (by as_aux_lemma => kernel_rfl) rfl)
        ·
         -- no
         have h43 := beq_eq_false_iff_ne.1 h43
         refine TO.skip rfl (by decide) (TO.skip rfl (by decide) (TO.skip rfl (by decide) (TO.pick (b := false) rfl (by decide) rfl rfl (TO.nil (TX.next (TC.condF rfl (TC.skip (TX.blockNormal (TX.next (TC.seq (TC.region (TO.assign rfl (by decide) rfl (TO.nil ?_)))))))))))))
         refine TX.next (TC.ret ?_)
         have hfit : fits s.st u = (s.st, 0) := by unfold fits; simp_all <;> omega
         have hB : [.int .i64 s.st, .int .i64 s.tk.k, .int .i64 (s.tk.f : Int), .int .i64 (s.tk.t : Int), .int .i64 s.h.k, .int .i32 (s.h.r : Int), .int .i64 (s.h.f : Int), .int .i64 (s.h.t : Int), .bool s.h.al] = scV (fitted s u) := by unfold fitted; rw [hfit]; rfl
         refine TX.rewE (k := 0) rfl (show cells b [.int .i64 s.st, .int .i64 s.tk.k, .int .i64 (s.tk.f : Int), .int .i64 (s.tk.t : Int), .int .i64 s.h.k, .int .i32 (s.h.r : Int), .int .i64 (s.h.f : Int), .int .i64 (s.h.t : Int), .bool s.h.al] 69 = cells b (scV (fitted s u)) 69 from (congrArg (fun z => cells b z 69) hB)) ?_
         show TX _ _ _ _ _ _ _ [cells b (scV (fitted s u)) 69, cells b1 [.int .i64 u.k, .int .i32 (u.r : Int), .int .i64 (u.f : Int), .int .i64 (u.t : Int), .bool u.al] 67]
         exact TX.fin (rs := [.tmp 4]) () (.inl rfl) Try.results48 (.cons (.tmp rfl) .nil) (by rw [hfit]; rfl) (Splits.of [0] (by as_aux_lemma => kernel_rfl) rfl)
       ·
        -- no
        have h42 := beq_eq_false_iff_ne.1 h42
        refine TC.skip (TX.blockNormal (TX.next (TC.seq (TC.region (TO.assign rfl (by decide) rfl (TO.nil (TX.next (TC.ret ?_))))))))
        have hfit : fits s.st u = (s.st, 0) := by unfold fits; simp_all <;> omega
        have hB : [.int .i64 s.st, .int .i64 s.tk.k, .int .i64 (s.tk.f : Int), .int .i64 (s.tk.t : Int), .int .i64 s.h.k, .int .i32 (s.h.r : Int), .int .i64 (s.h.f : Int), .int .i64 (s.h.t : Int), .bool s.h.al] = scV (fitted s u) := by unfold fitted; rw [hfit]; rfl
        refine TX.rewE (k := 0) rfl (show cells b [.int .i64 s.st, .int .i64 s.tk.k, .int .i64 (s.tk.f : Int), .int .i64 (s.tk.t : Int), .int .i64 s.h.k, .int .i32 (s.h.r : Int), .int .i64 (s.h.f : Int), .int .i64 (s.h.t : Int), .bool s.h.al] 69 = cells b (scV (fitted s u)) 69 from (congrArg (fun z => cells b z 69) hB)) ?_
        show TX _ _ _ _ _ _ _ [cells b (scV (fitted s u)) 69, cells b1 [.int .i64 u.k, .int .i32 (u.r : Int), .int .i64 (u.f : Int), .int .i64 (u.t : Int), .bool u.al] 67]
        exact TX.fin (rs := [.tmp 4]) () (.inl rfl) Try.results48 (.cons (.tmp rfl) .nil) (by rw [hfit]; rfl) (Splits.of [0] (by as_aux_lemma => kernel_rfl) rfl)
   ·
    -- no
    have h33 := beq_eq_false_iff_ne.1 h33
    refine TC.region (TO.bin rfl (by decide) rfl rfl bin_eql (TO.assign rfl (by decide) rfl (TO.nil (TX.next ?_))))
    refine TC.condB rfl (fun h45 => ?_) (fun h45 => ?_)
    ·
     -- yes
     have h45 := beq_iff_eq.1 h45
     refine TC.seq (TC.seq (TC.region (TO.move rfl (by decide) rfl (TO.bin rfl (by decide) rfl rfl bin_eql (TO.nil (TX.next ?_))))))
     refine TC.condB rfl (fun h46 => ?_) (fun h46 => ?_)
     ·
      -- yes
      have h46 := beq_iff_eq.1 h46
      refine TC.seq (TC.region (TO.move rfl (by decide) rfl (TO.nilCheck rfl (by decide) rfl (TO.fieldAddr fl_69_0 rfl (by decide) rfl (show _ = 0 from rfl) ?_))))
      refine TO.store (k := 0) (l' := [.int .i64 3, .int .i64 s.tk.k, .int .i64 (s.tk.f : Int), .int .i64 (s.tk.t : Int), .int .i64 s.h.k, .int .i32 (s.h.r : Int), .int .i64 (s.h.f : Int), .int .i64 (s.h.t : Int), .bool s.h.al]) sz_3 rfl rfl rfl rfl rfl (fun _ _ => rfl) rfl ?_
      refine TO.nil (TX.next (TC.seq (TC.region (TO.assign rfl (by decide) rfl (TO.nil (TX.next (TC.ret (TX.thenRet (TX.blockRet (TX.thenRet ?_))))))))))
      have hfit : fits s.st u = (3, 1) := by unfold fits; simp_all <;> omega
      have hB : [.int .i64 3, .int .i64 s.tk.k, .int .i64 (s.tk.f : Int), .int .i64 (s.tk.t : Int), .int .i64 s.h.k, .int .i32 (s.h.r : Int), .int .i64 (s.h.f : Int), .int .i64 (s.h.t : Int), .bool s.h.al] = scV (fitted s u) := by unfold fitted; rw [hfit]; rfl
      refine TX.rewE (k := 0) rfl (show cells b [.int .i64 3, .int .i64 s.tk.k, .int .i64 (s.tk.f : Int), .int .i64 (s.tk.t : Int), .int .i64 s.h.k, .int .i32 (s.h.r : Int), .int .i64 (s.h.f : Int), .int .i64 (s.h.t : Int), .bool s.h.al] 69 = cells b (scV (fitted s u)) 69 from (congrArg (fun z => cells b z 69) hB)) ?_
      show TX _ _ _ _ _ _ _ [cells b (scV (fitted s u)) 69, cells b1 [.int .i64 u.k, .int .i32 (u.r : Int), .int .i64 (u.f : Int), .int .i64 (u.t : Int), .bool u.al] 67]
      exact TX.fin (rs := [.tmp 4]) () (.inl rfl) Try.results48 (.cons (.tmp rfl) .nil) (by rw [hfit]; rfl) (Splits.of [0] (by as_aux_lemma => kernel_rfl) rfl)
     ·
      -- no
      have h46 := beq_eq_false_iff_ne.1 h46
      refine TC.skip (TX.next (TC.seq (TC.region (TO.move rfl (by decide) rfl (TO.nilCheck rfl (by decide) rfl (TO.fieldAddr fl_69_0 rfl (by decide) rfl (show _ = 0 from rfl) (TO.load (k := 0) sc_3 rfl (by decide) rfl rfl rfl (TO.bin rfl (by decide) rfl rfl bin_eql (TO.move rfl (by decide) rfl ?_)))))))))
      refine TO.split (s := 49) rfl (fun h47 => ?_) (fun h47 => ?_)
      ·
       -- yes
       have h47 := beq_iff_eq.1 h47
       refine TO.loads (k := 1) (cs := [.int .i64 u.k, .int .i32 (u.r : Int), .int .i64 (u.f : Int), .int .i64 (u.t : Int), .bool u.al]) rw_67 rfl (by decide) rfl rfl rfl rfl (TO.callP (v := .bool (dot u)) (vs := [.agg #[.int .i64 u.k, .int .i32 (u.r : Int), .int .i64 (u.f : Int), .int .i64 (u.t : Int), .bool u.al]]) rfl (by decide) rfl rfl rfl en_67 (dot_p u) (TO.pick (b := true) rfl (by decide) rfl rfl (TO.nil (TX.next ?_))))
       refine TC.condB rfl (fun h48 => ?_) (fun h48 => ?_)
       ·
        -- yes
        refine TC.seq ?_
        refine TC.drawB (β := Unit) 6 5 _ [(0, 53, .pointer (some ⟨b, 0, none⟩)), (1, 54, .pointer (some ⟨b, 0, none⟩)), (2, 55, .agg #[.int .i64 u.k, .int .i32 (u.r : Int), .int .i64 (u.f : Int), .int .i64 (u.t : Int), .bool u.al]), (3, 56, .pointer (some ⟨b, 0, none⟩)), (4, 57, .pointer (some ⟨b, 0, none⟩))] (fun _b => []) (fun _b => [cells b [.int .i64 4, .int .i64 s.tk.k, .int .i64 (s.tk.f : Int), .int .i64 (s.tk.t : Int), .int .i64 s.h.k, .int .i32 (s.h.r : Int), .int .i64 (s.h.f : Int), .int .i64 (s.h.t : Int), .bool s.h.al] 69, cells b1 [.int .i64 u.k, .int .i32 (u.r : Int), .int .i64 (u.f : Int), .int .i64 (u.t : Int), .bool u.al] 67]) mixed (by as_aux_lemma => kernel_rfl) (by as_aux_lemma => kernel_rfl) rfl (by decide) (by decide) (by rfl) (by as_aux_lemma => kernel_rfl) (by as_aux_lemma => kernel_rfl) (DrawPreX.cons ?_ (DrawPreX.cons ?_ (DrawPreX.cons ?_ (DrawPreX.cons ?_ (DrawPreX.cons ?_ (DrawPreX.here DrawPreX.nil)))))) (fun _b => (DrawPreX.cons ?_ (DrawPreX.cons ?_ (DrawPreX.cons ?_ (DrawPreX.cons ?_ (DrawPreX.cons ?_ (DrawPreX.here DrawPreX.nil))))))) ?_ ?_
        ·
         intro D hn hd hcl hu hi
         refine TO.move rfl (by decide) (dl_old (by rfl) rfl) ?_
         exact TX.quiet 0 hu hi rfl
        ·
         intro D hn hd hcl hu hi
         refine TO.move rfl (by decide) (dl_old (by rfl) rfl) ?_
         exact TX.quiet 1 hu hi rfl
        ·
         intro D hn hd hcl hu hi
         refine TO.loads (k := 1) (cs := [.int .i64 u.k, .int .i32 (u.r : Int), .int .i64 (u.f : Int), .int .i64 (u.t : Int), .bool u.al]) rw_67 rfl (by decide) (dl_old (by rfl) rfl) rfl rfl rfl ?_
         exact TX.quiet 2 hu hi rfl
        ·
         intro D hn hd hcl hu hi
         refine TO.nilCheck rfl (by decide) (dl_lookup (m := 0) hu rfl (hd 0 (by decide))) ?_
         exact TX.quiet 3 hu hi rfl
        ·
         intro D hn hd hcl hu hi
         refine TO.fieldAddr fl_69_0 rfl (by decide) (dl_lookup (m := 3) hu rfl (hd 3 (by decide))) (show _ = 0 from rfl) ?_
         exact TX.quiet 4 hu hi rfl
        ·
         intro D hn hd hcl hu hi
         refine TO.move rfl (by decide) (dl_old (by rfl) rfl) ?_
         exact TX.quiet 0 hu hi rfl
        ·
         intro D hn hd hcl hu hi
         refine TO.move rfl (by decide) (dl_old (by rfl) rfl) ?_
         exact TX.quiet 1 hu hi rfl
        ·
         intro D hn hd hcl hu hi
         refine TO.loads (k := 1) (cs := [.int .i64 u.k, .int .i32 (u.r : Int), .int .i64 (u.f : Int), .int .i64 (u.t : Int), .bool u.al]) rw_67 rfl (by decide) (dl_old (by rfl) rfl) rfl rfl rfl ?_
         exact TX.quiet 2 hu hi rfl
        ·
         intro D hn hd hcl hu hi
         refine TO.nilCheck rfl (by decide) (dl_lookup (m := 0) hu rfl (hd 0 (by decide))) ?_
         exact TX.quiet 3 hu hi rfl
        ·
         intro D hn hd hcl hu hi
         refine TO.fieldAddr fl_69_0 rfl (by decide) (dl_lookup (m := 3) hu rfl (hd 3 (by decide))) (show _ = 0 from rfl) ?_
         exact TX.quiet 4 hu hi rfl
        ·
         intro D hn hd hcl
         refine TO.store (k := 0) (l' := [.int .i64 4, .int .i64 s.tk.k, .int .i64 (s.tk.f : Int), .int .i64 (s.tk.t : Int), .int .i64 s.h.k, .int .i32 (s.h.r : Int), .int .i64 (s.h.f : Int), .int .i64 (s.h.t : Int), .bool s.h.al]) sz_3 rfl (dl_lookup (m := 4) (by as_aux_lemma => kernel_rfl) rfl (hd 4 (by decide))) rfl rfl rfl (fun _ _ => rfl) rfl ?_
         exact fun a w ha hw => ⟨(), ha, hw⟩
        intro _b
        show TO _ _ _ _ _ _ _ _ _ _ [cells b [.int .i64 4, .int .i64 s.tk.k, .int .i64 (s.tk.f : Int), .int .i64 (s.tk.t : Int), .int .i64 s.h.k, .int .i32 (s.h.r : Int), .int .i64 (s.h.f : Int), .int .i64 (s.h.t : Int), .bool s.h.al] 69, cells b1 [.int .i64 u.k, .int .i32 (u.r : Int), .int .i64 (u.f : Int), .int .i64 (u.t : Int), .bool u.al] 67]
        refine TO.nilCheck rfl (by decide) rfl (TO.fieldAddr fl_69_2 rfl (by decide) rfl (show _ = 4 from rfl) (TO.stores (k := 0) (vs := [.int .i64 u.k, .int .i32 (u.r : Int), .int .i64 (u.f : Int), .int .i64 (u.t : Int), .bool u.al]) (l' := [.int .i64 4, .int .i64 s.tk.k, .int .i64 (s.tk.f : Int), .int .i64 (s.tk.t : Int), .int .i64 u.k, .int .i32 (u.r : Int), .int .i64 (u.f : Int), .int .i64 (u.t : Int), .bool u.al]) sz_67 rfl rfl rfl rfl rfl (show _ ≤ _ by simp) rfl rfl (TO.nil (TX.next (TC.seq (TC.region (TO.assign rfl (by decide) rfl (TO.nil (TX.next (TC.ret (TX.blockRet (TX.thenRet ?_))))))))))))
        have hfit : fits s.st u = (4, 2) := by unfold fits; simp_all <;> omega
        have hB : [.int .i64 4, .int .i64 s.tk.k, .int .i64 (s.tk.f : Int), .int .i64 (s.tk.t : Int), .int .i64 u.k, .int .i32 (u.r : Int), .int .i64 (u.f : Int), .int .i64 (u.t : Int), .bool u.al] = scV (fitted s u) := by unfold fitted; rw [hfit]; rfl
        refine TX.rewE (k := 0) rfl (show cells b [.int .i64 4, .int .i64 s.tk.k, .int .i64 (s.tk.f : Int), .int .i64 (s.tk.t : Int), .int .i64 u.k, .int .i32 (u.r : Int), .int .i64 (u.f : Int), .int .i64 (u.t : Int), .bool u.al] 69 = cells b (scV (fitted s u)) 69 from (congrArg (fun z => cells b z 69) hB)) ?_
        show TX _ _ _ _ _ _ _ [cells b (scV (fitted s u)) 69, cells b1 [.int .i64 u.k, .int .i32 (u.r : Int), .int .i64 (u.f : Int), .int .i64 (u.t : Int), .bool u.al] 67]
        exact TX.fin (rs := [.tmp 4]) () (.inl rfl) Try.results48 (.cons (.tmp rfl) .nil) (by rw [hfit]; rfl) (Splits.of [0] (by as_aux_lemma => kernel_rfl) rfl)
       ·
        -- no
        refine TC.skip (TX.blockNormal (TX.next (TC.seq (TC.region (TO.assign rfl (by decide) rfl (TO.nil (TX.next (TC.ret ?_))))))))
        have hfit : fits s.st u = (s.st, 0) := by unfold fits; simp_all <;> omega
        have hB : [.int .i64 s.st, .int .i64 s.tk.k, .int .i64 (s.tk.f : Int), .int .i64 (s.tk.t : Int), .int .i64 s.h.k, .int .i32 (s.h.r : Int), .int .i64 (s.h.f : Int), .int .i64 (s.h.t : Int), .bool s.h.al] = scV (fitted s u) := by unfold fitted; rw [hfit]; rfl
        refine TX.rewE (k := 0) rfl (show cells b [.int .i64 s.st, .int .i64 s.tk.k, .int .i64 (s.tk.f : Int), .int .i64 (s.tk.t : Int), .int .i64 s.h.k, .int .i32 (s.h.r : Int), .int .i64 (s.h.f : Int), .int .i64 (s.h.t : Int), .bool s.h.al] 69 = cells b (scV (fitted s u)) 69 from (congrArg (fun z => cells b z 69) hB)) ?_
        show TX _ _ _ _ _ _ _ [cells b (scV (fitted s u)) 69, cells b1 [.int .i64 u.k, .int .i32 (u.r : Int), .int .i64 (u.f : Int), .int .i64 (u.t : Int), .bool u.al] 67]
        exact TX.fin (rs := [.tmp 4]) () (.inl rfl) Try.results48 (.cons (.tmp rfl) .nil) (by rw [hfit]; rfl) (Splits.of [0] (by as_aux_lemma => kernel_rfl) rfl)
      ·
       -- no
       have h47 := beq_eq_false_iff_ne.1 h47
       refine TO.skip rfl (by decide) (TO.skip rfl (by decide) (TO.pick (b := false) rfl (by decide) rfl rfl (TO.nil (TX.next (TC.condF rfl (TC.skip (TX.blockNormal (TX.next (TC.seq (TC.region (TO.assign rfl (by decide) rfl (TO.nil (TX.next ?_)))))))))))))
       refine TC.ret ?_
       have hfit : fits s.st u = (s.st, 0) := by unfold fits; simp_all <;> omega
       have hB : [.int .i64 s.st, .int .i64 s.tk.k, .int .i64 (s.tk.f : Int), .int .i64 (s.tk.t : Int), .int .i64 s.h.k, .int .i32 (s.h.r : Int), .int .i64 (s.h.f : Int), .int .i64 (s.h.t : Int), .bool s.h.al] = scV (fitted s u) := by unfold fitted; rw [hfit]; rfl
       refine TX.rewE (k := 0) rfl (show cells b [.int .i64 s.st, .int .i64 s.tk.k, .int .i64 (s.tk.f : Int), .int .i64 (s.tk.t : Int), .int .i64 s.h.k, .int .i32 (s.h.r : Int), .int .i64 (s.h.f : Int), .int .i64 (s.h.t : Int), .bool s.h.al] 69 = cells b (scV (fitted s u)) 69 from (congrArg (fun z => cells b z 69) hB)) ?_
       show TX _ _ _ _ _ _ _ [cells b (scV (fitted s u)) 69, cells b1 [.int .i64 u.k, .int .i32 (u.r : Int), .int .i64 (u.f : Int), .int .i64 (u.t : Int), .bool u.al] 67]
       exact TX.fin (rs := [.tmp 4]) () (.inl rfl) Try.results48 (.cons (.tmp rfl) .nil) (by rw [hfit]; rfl) (Splits.of [0] (by as_aux_lemma => kernel_rfl) rfl)
    ·
     -- no
     have h45 := beq_eq_false_iff_ne.1 h45
     refine TC.seq (TC.region (TO.bin rfl (by decide) rfl rfl bin_eql (TO.assign rfl (by decide) rfl (TO.nil (TX.next ?_)))))
     refine TC.condB rfl (fun h49 => ?_) (fun h49 => ?_)
     ·
      -- yes
      have h49 := beq_iff_eq.1 h49
      refine TC.seq (TC.region (TO.move rfl (by decide) rfl (TO.bin rfl (by decide) rfl rfl bin_eql (TO.nil (TX.next ?_)))))
      refine TC.condB rfl (fun h50 => ?_) (fun h50 => ?_)
      ·
       -- yes
       have h50 := beq_iff_eq.1 h50
       refine TC.seq (TC.region (TO.assign rfl (by decide) rfl (TO.nil (TX.next (TC.ret (TX.blockRet (TX.thenRet ?_)))))))
       have hfit : fits s.st u = (s.st, 1) := by unfold fits; simp_all <;> omega
       have hB : [.int .i64 s.st, .int .i64 s.tk.k, .int .i64 (s.tk.f : Int), .int .i64 (s.tk.t : Int), .int .i64 s.h.k, .int .i32 (s.h.r : Int), .int .i64 (s.h.f : Int), .int .i64 (s.h.t : Int), .bool s.h.al] = scV (fitted s u) := by unfold fitted; rw [hfit]; rfl
       refine TX.rewE (k := 0) rfl (show cells b [.int .i64 s.st, .int .i64 s.tk.k, .int .i64 (s.tk.f : Int), .int .i64 (s.tk.t : Int), .int .i64 s.h.k, .int .i32 (s.h.r : Int), .int .i64 (s.h.f : Int), .int .i64 (s.h.t : Int), .bool s.h.al] 69 = cells b (scV (fitted s u)) 69 from (congrArg (fun z => cells b z 69) hB)) ?_
       show TX _ _ _ _ _ _ _ [cells b (scV (fitted s u)) 69, cells b1 [.int .i64 u.k, .int .i32 (u.r : Int), .int .i64 (u.f : Int), .int .i64 (u.t : Int), .bool u.al] 67]
       exact TX.fin (rs := [.tmp 4]) () (.inl rfl) Try.results48 (.cons (.tmp rfl) .nil) (by rw [hfit]; rfl) (Splits.of [0] (by as_aux_lemma => kernel_rfl) rfl)
      ·
       -- no
       have h50 := beq_eq_false_iff_ne.1 h50
       refine TC.skip (TX.blockNormal (TX.next (TC.seq (TC.region (TO.assign rfl (by decide) rfl (TO.nil (TX.next (TC.ret ?_))))))))
       have hfit : fits s.st u = (s.st, 0) := by unfold fits; simp_all <;> omega
       have hB : [.int .i64 s.st, .int .i64 s.tk.k, .int .i64 (s.tk.f : Int), .int .i64 (s.tk.t : Int), .int .i64 s.h.k, .int .i32 (s.h.r : Int), .int .i64 (s.h.f : Int), .int .i64 (s.h.t : Int), .bool s.h.al] = scV (fitted s u) := by unfold fitted; rw [hfit]; rfl
       refine TX.rewE (k := 0) rfl (show cells b [.int .i64 s.st, .int .i64 s.tk.k, .int .i64 (s.tk.f : Int), .int .i64 (s.tk.t : Int), .int .i64 s.h.k, .int .i32 (s.h.r : Int), .int .i64 (s.h.f : Int), .int .i64 (s.h.t : Int), .bool s.h.al] 69 = cells b (scV (fitted s u)) 69 from (congrArg (fun z => cells b z 69) hB)) ?_
       show TX _ _ _ _ _ _ _ [cells b (scV (fitted s u)) 69, cells b1 [.int .i64 u.k, .int .i32 (u.r : Int), .int .i64 (u.f : Int), .int .i64 (u.t : Int), .bool u.al] 67]
       exact TX.fin (rs := [.tmp 4]) () (.inl rfl) Try.results48 (.cons (.tmp rfl) .nil) (by rw [hfit]; rfl) (Splits.of [0] (by as_aux_lemma => kernel_rfl) rfl)
     ·
      -- no
      have h49 := beq_eq_false_iff_ne.1 h49
      refine TC.seq (TC.region (TO.bin rfl (by decide) rfl rfl bin_eql (TO.assign rfl (by decide) rfl (TO.nil (TX.next ?_)))))
      refine TC.condB rfl (fun h51 => ?_) (fun h51 => ?_)
      ·
       -- yes
       have h51 := beq_iff_eq.1 h51
       refine TC.seq (TC.region (TO.move rfl (by decide) rfl (TO.bin rfl (by decide) rfl rfl bin_eql (TO.nil (TX.next ?_)))))
       refine TC.condB rfl (fun h52 => ?_) (fun h52 => ?_)
       ·
        -- yes
        have h52 := beq_iff_eq.1 h52
        refine TC.seq (TC.region (TO.assign rfl (by decide) rfl (TO.nil (TX.next (TC.ret (TX.blockRet (TX.thenRet ?_)))))))
        have hfit : fits s.st u = (s.st, 1) := by unfold fits; simp_all <;> omega
        have hB : [.int .i64 s.st, .int .i64 s.tk.k, .int .i64 (s.tk.f : Int), .int .i64 (s.tk.t : Int), .int .i64 s.h.k, .int .i32 (s.h.r : Int), .int .i64 (s.h.f : Int), .int .i64 (s.h.t : Int), .bool s.h.al] = scV (fitted s u) := by unfold fitted; rw [hfit]; rfl
        refine TX.rewE (k := 0) rfl (show cells b [.int .i64 s.st, .int .i64 s.tk.k, .int .i64 (s.tk.f : Int), .int .i64 (s.tk.t : Int), .int .i64 s.h.k, .int .i32 (s.h.r : Int), .int .i64 (s.h.f : Int), .int .i64 (s.h.t : Int), .bool s.h.al] 69 = cells b (scV (fitted s u)) 69 from (congrArg (fun z => cells b z 69) hB)) ?_
        show TX _ _ _ _ _ _ _ [cells b (scV (fitted s u)) 69, cells b1 [.int .i64 u.k, .int .i32 (u.r : Int), .int .i64 (u.f : Int), .int .i64 (u.t : Int), .bool u.al] 67]
        exact TX.fin (rs := [.tmp 4]) () (.inl rfl) Try.results48 (.cons (.tmp rfl) .nil) (by rw [hfit]; rfl) (Splits.of [0] (by as_aux_lemma => kernel_rfl) rfl)
       ·
        -- no
        have h52 := beq_eq_false_iff_ne.1 h52
        refine TC.skip (TX.blockNormal (TX.next (TC.seq (TC.region (TO.assign rfl (by decide) rfl (TO.nil (TX.next (TC.ret ?_))))))))
        have hfit : fits s.st u = (s.st, 0) := by unfold fits; simp_all <;> omega
        have hB : [.int .i64 s.st, .int .i64 s.tk.k, .int .i64 (s.tk.f : Int), .int .i64 (s.tk.t : Int), .int .i64 s.h.k, .int .i32 (s.h.r : Int), .int .i64 (s.h.f : Int), .int .i64 (s.h.t : Int), .bool s.h.al] = scV (fitted s u) := by unfold fitted; rw [hfit]; rfl
        refine TX.rewE (k := 0) rfl (show cells b [.int .i64 s.st, .int .i64 s.tk.k, .int .i64 (s.tk.f : Int), .int .i64 (s.tk.t : Int), .int .i64 s.h.k, .int .i32 (s.h.r : Int), .int .i64 (s.h.f : Int), .int .i64 (s.h.t : Int), .bool s.h.al] 69 = cells b (scV (fitted s u)) 69 from (congrArg (fun z => cells b z 69) hB)) ?_
        show TX _ _ _ _ _ _ _ [cells b (scV (fitted s u)) 69, cells b1 [.int .i64 u.k, .int .i32 (u.r : Int), .int .i64 (u.f : Int), .int .i64 (u.t : Int), .bool u.al] 67]
        exact TX.fin (rs := [.tmp 4]) () (.inl rfl) Try.results48 (.cons (.tmp rfl) .nil) (by rw [hfit]; rfl) (Splits.of [0] (by as_aux_lemma => kernel_rfl) rfl)
      ·
       -- no
       have h51 := beq_eq_false_iff_ne.1 h51
       refine TC.seq (TC.region (TO.bin rfl (by decide) rfl rfl bin_eql (TO.assign rfl (by decide) rfl (TO.nil (TX.next ?_)))))
       refine TC.condB rfl (fun h53 => ?_) (fun h53 => ?_)
       ·
        -- yes
        have h53 := beq_iff_eq.1 h53
        refine TC.seq (TC.region (TO.move rfl (by decide) rfl (TO.bin rfl (by decide) rfl rfl bin_eql (TO.move rfl (by decide) rfl ?_))))
        refine TO.split (s := 72) rfl (fun h54 => ?_) (fun h54 => ?_)
        ·
         -- yes
         have h54 := beq_iff_eq.1 h54
         refine TO.fieldAddr fl_67_1 rfl (by decide) rfl (show _ = 1 from rfl) (TO.load (k := 1) sc_21 rfl (by decide) rfl rfl rfl (TO.bin rfl (by decide) rfl rfl bin_eql (TO.pick (b := true) rfl (by decide) rfl rfl (TO.nil (TX.next ?_)))))
         refine TC.condB rfl (fun h55 => ?_) (fun h55 => ?_)
         ·
          -- yes
          have h55 := beq_iff_eq.1 h55
          refine TC.seq (TC.region (TO.move rfl (by decide) rfl (TO.nilCheck rfl (by decide) rfl (TO.fieldAddr fl_69_0 rfl (by decide) rfl (show _ = 0 from rfl) ?_))))
          refine TO.store (k := 0) (l' := [.int .i64 7, .int .i64 s.tk.k, .int .i64 (s.tk.f : Int), .int .i64 (s.tk.t : Int), .int .i64 s.h.k, .int .i32 (s.h.r : Int), .int .i64 (s.h.f : Int), .int .i64 (s.h.t : Int), .bool s.h.al]) sz_3 rfl rfl rfl rfl rfl (fun _ _ => rfl) rfl ?_
          refine TO.nil (TX.next (TC.seq (TC.region (TO.assign rfl (by decide) rfl (TO.nil (TX.next (TC.ret (TX.blockRet (TX.thenRet ?_)))))))))
          have hfit : fits s.st u = (7, 1) := by unfold fits; simp_all <;> omega
          have hB : [.int .i64 7, .int .i64 s.tk.k, .int .i64 (s.tk.f : Int), .int .i64 (s.tk.t : Int), .int .i64 s.h.k, .int .i32 (s.h.r : Int), .int .i64 (s.h.f : Int), .int .i64 (s.h.t : Int), .bool s.h.al] = scV (fitted s u) := by unfold fitted; rw [hfit]; rfl
          refine TX.rewE (k := 0) rfl (show cells b [.int .i64 7, .int .i64 s.tk.k, .int .i64 (s.tk.f : Int), .int .i64 (s.tk.t : Int), .int .i64 s.h.k, .int .i32 (s.h.r : Int), .int .i64 (s.h.f : Int), .int .i64 (s.h.t : Int), .bool s.h.al] 69 = cells b (scV (fitted s u)) 69 from (congrArg (fun z => cells b z 69) hB)) ?_
          show TX _ _ _ _ _ _ _ [cells b (scV (fitted s u)) 69, cells b1 [.int .i64 u.k, .int .i32 (u.r : Int), .int .i64 (u.f : Int), .int .i64 (u.t : Int), .bool u.al] 67]
          exact TX.fin (rs := [.tmp 4]) () (.inl rfl) Try.results48 (.cons (.tmp rfl) .nil) (by rw [hfit]; rfl) (Splits.of [0] (by as_aux_lemma => kernel_rfl) rfl)
         ·
          -- no
          have h55 := beq_eq_false_iff_ne.1 h55
          refine TC.skip (TX.blockNormal (TX.next (TC.seq (TC.region (TO.assign rfl (by decide) rfl (TO.nil (TX.next (TC.ret ?_))))))))
          have hfit : fits s.st u = (s.st, 0) := by unfold fits; simp_all <;> omega
          have hB : [.int .i64 s.st, .int .i64 s.tk.k, .int .i64 (s.tk.f : Int), .int .i64 (s.tk.t : Int), .int .i64 s.h.k, .int .i32 (s.h.r : Int), .int .i64 (s.h.f : Int), .int .i64 (s.h.t : Int), .bool s.h.al] = scV (fitted s u) := by unfold fitted; rw [hfit]; rfl
          refine TX.rewE (k := 0) rfl (show cells b [.int .i64 s.st, .int .i64 s.tk.k, .int .i64 (s.tk.f : Int), .int .i64 (s.tk.t : Int), .int .i64 s.h.k, .int .i32 (s.h.r : Int), .int .i64 (s.h.f : Int), .int .i64 (s.h.t : Int), .bool s.h.al] 69 = cells b (scV (fitted s u)) 69 from (congrArg (fun z => cells b z 69) hB)) ?_
          show TX _ _ _ _ _ _ _ [cells b (scV (fitted s u)) 69, cells b1 [.int .i64 u.k, .int .i32 (u.r : Int), .int .i64 (u.f : Int), .int .i64 (u.t : Int), .bool u.al] 67]
          exact TX.fin (rs := [.tmp 4]) () (.inl rfl) Try.results48 (.cons (.tmp rfl) .nil) (by rw [hfit]; rfl) (Splits.of [0] (by as_aux_lemma => kernel_rfl) rfl)
        ·
         -- no
         have h54 := beq_eq_false_iff_ne.1 h54
         refine TO.skip rfl (by decide) (TO.skip rfl (by decide) (TO.skip rfl (by decide) (TO.pick (b := false) rfl (by decide) rfl rfl (TO.nil (TX.next (TC.condF rfl (TC.skip (TX.blockNormal (TX.next (TC.seq (TC.region (TO.assign rfl (by decide) rfl (TO.nil ?_)))))))))))))
         refine TX.next (TC.ret ?_)
         have hfit : fits s.st u = (s.st, 0) := by unfold fits; simp_all <;> omega
         have hB : [.int .i64 s.st, .int .i64 s.tk.k, .int .i64 (s.tk.f : Int), .int .i64 (s.tk.t : Int), .int .i64 s.h.k, .int .i32 (s.h.r : Int), .int .i64 (s.h.f : Int), .int .i64 (s.h.t : Int), .bool s.h.al] = scV (fitted s u) := by unfold fitted; rw [hfit]; rfl
         refine TX.rewE (k := 0) rfl (show cells b [.int .i64 s.st, .int .i64 s.tk.k, .int .i64 (s.tk.f : Int), .int .i64 (s.tk.t : Int), .int .i64 s.h.k, .int .i32 (s.h.r : Int), .int .i64 (s.h.f : Int), .int .i64 (s.h.t : Int), .bool s.h.al] 69 = cells b (scV (fitted s u)) 69 from (congrArg (fun z => cells b z 69) hB)) ?_
         show TX _ _ _ _ _ _ _ [cells b (scV (fitted s u)) 69, cells b1 [.int .i64 u.k, .int .i32 (u.r : Int), .int .i64 (u.f : Int), .int .i64 (u.t : Int), .bool u.al] 67]
         exact TX.fin (rs := [.tmp 4]) () (.inl rfl) Try.results48 (.cons (.tmp rfl) .nil) (by rw [hfit]; rfl) (Splits.of [0] (by as_aux_lemma => kernel_rfl) rfl)
       ·
        -- no
        have h53 := beq_eq_false_iff_ne.1 h53
        refine TC.skip (TX.blockNormal (TX.next (TC.seq (TC.region (TO.assign rfl (by decide) rfl (TO.nil (TX.next (TC.ret ?_))))))))
        have hfit : fits s.st u = (s.st, 0) := by unfold fits; simp_all <;> omega
        have hB : [.int .i64 s.st, .int .i64 s.tk.k, .int .i64 (s.tk.f : Int), .int .i64 (s.tk.t : Int), .int .i64 s.h.k, .int .i32 (s.h.r : Int), .int .i64 (s.h.f : Int), .int .i64 (s.h.t : Int), .bool s.h.al] = scV (fitted s u) := by unfold fitted; rw [hfit]; rfl
        refine TX.rewE (k := 0) rfl (show cells b [.int .i64 s.st, .int .i64 s.tk.k, .int .i64 (s.tk.f : Int), .int .i64 (s.tk.t : Int), .int .i64 s.h.k, .int .i32 (s.h.r : Int), .int .i64 (s.h.f : Int), .int .i64 (s.h.t : Int), .bool s.h.al] 69 = cells b (scV (fitted s u)) 69 from (congrArg (fun z => cells b z 69) hB)) ?_
        show TX _ _ _ _ _ _ _ [cells b (scV (fitted s u)) 69, cells b1 [.int .i64 u.k, .int .i32 (u.r : Int), .int .i64 (u.f : Int), .int .i64 (u.t : Int), .bool u.al] 67]
        exact TX.fin (rs := [.tmp 4]) () (.inl rfl) Try.results48 (.cons (.tmp rfl) .nil) (by rw [hfit]; rfl) (Splits.of [0] (by as_aux_lemma => kernel_rfl) rfl)

set_option maxRecDepth 100000 in
set_option maxHeartbeats 4000000 in
theorem begin_fn (b : Nat) (s : Sc) (u : Un) : Fn Try.prog 50 [.pointer (some ⟨b, 0, none⟩), .agg #[.int .i64 u.k, .int .i32 u.r, .int .i64 u.f, .int .i64 u.t, .bool u.al]] [cells b (scV s) 69] (fun _ : Unit => .tuple #[]) (fun _ => [cells b (scV (began s u)) 69]) := by
 refine Fn.intro Try.func50 rfl Try.ntmps50 (by simp) ?_
 intro w0 K
 show TC _ _ _ _ _ _ _ _ _ [cells b [.int .i64 s.st, .int .i64 s.tk.k, .int .i64 (s.tk.f : Int), .int .i64 (s.tk.t : Int), .int .i64 s.h.k, .int .i32 (s.h.r : Int), .int .i64 (s.h.f : Int), .int .i64 (s.h.t : Int), .bool s.h.al] 69]
 refine TC.seq (TC.region ?_)
 refine TO.box rfl (by decide) rfl (fun b1 => ?_)
 refine TO.nil (TX.next (TC.seq (TC.region (TO.move rfl (by decide) rfl (TO.fieldAddr fl_67_2 rfl (by decide) rfl (show _ = 2 from rfl) (TO.loads (k := 1) (cs := [.int .i64 (u.f : Int), .int .i64 (u.t : Int)]) rw_34 rfl (by decide) rfl rfl rfl rfl ?_))))))
 refine TO.build (v := .agg #[.int .i64 6, .int .i64 (u.f : Int), .int .i64 (u.t : Int)]) (ps := [(0, .const (.int .i64 6)), (1, .tmp 6)]) rfl (by decide) rfl (fun _ => by kernel_rfl) ?_
 refine TO.nilCheck rfl (by decide) rfl (TO.fieldAddr fl_69_1 rfl (by decide) rfl (show _ = 1 from rfl) (TO.stores (k := 0) (vs := [.int .i64 6, .int .i64 (u.f : Int), .int .i64 (u.t : Int)]) (l' := [.int .i64 s.st, .int .i64 6, .int .i64 (u.f : Int), .int .i64 (u.t : Int), .int .i64 s.h.k, .int .i32 (s.h.r : Int), .int .i64 (s.h.f : Int), .int .i64 (s.h.t : Int), .bool s.h.al]) sz_36 rfl rfl rfl rfl rfl (show _ ≤ _ by simp) rfl rfl (TO.nil (TX.next (TC.seq (TC.region (TO.move rfl (by decide) rfl (TO.nilCheck rfl (by decide) rfl (TO.fieldAddr fl_69_0 rfl (by decide) rfl (show _ = 0 from rfl) ?_)))))))))
 refine TO.store (k := 0) (l' := [.int .i64 9, .int .i64 6, .int .i64 (u.f : Int), .int .i64 (u.t : Int), .int .i64 s.h.k, .int .i32 (s.h.r : Int), .int .i64 (s.h.f : Int), .int .i64 (s.h.t : Int), .bool s.h.al]) sz_3 rfl rfl rfl rfl rfl (fun _ _ => rfl) rfl ?_
 show TO _ _ _ _ _ _ _ _ _ _ [cells b [.int .i64 9, .int .i64 6, .int .i64 (u.f : Int), .int .i64 (u.t : Int), .int .i64 s.h.k, .int .i32 (s.h.r : Int), .int .i64 (s.h.f : Int), .int .i64 (s.h.t : Int), .bool s.h.al] 69, cells b1 [.int .i64 u.k, .int .i32 (u.r : Int), .int .i64 (u.f : Int), .int .i64 (u.t : Int), .bool u.al] 67]
 refine TO.nil (TX.next (TC.seq (TC.region (TO.fieldAddr fl_67_0 rfl (by decide) rfl (show _ = 0 from rfl) (TO.load (k := 1) sc_56 rfl (by decide) rfl rfl rfl (TO.nil (TX.next (TC.block (TC.seq (TC.region (TO.bin rfl (by decide) rfl rfl bin_eql (TO.assign rfl (by decide) rfl (TO.nil ?_)))))))))))))
 refine TX.next ?_
 refine TC.condB rfl (fun h1 => ?_) (fun h1 => ?_)
 ·
  -- yes
  have h1 := beq_iff_eq.1 h1
  refine TC.region (TO.move rfl (by decide) rfl (TO.move rfl (by decide) rfl (TO.nilCheck rfl (by decide) rfl (TO.fieldAddr fl_69_1 rfl (by decide) rfl (show _ = 1 from rfl) (TO.fieldAddr fl_36_0 rfl (by decide) rfl (show _ = 1 from rfl) ?_)))))
  refine TO.store (k := 0) (l' := [.int .i64 9, .int .i64 1, .int .i64 (u.f : Int), .int .i64 (u.t : Int), .int .i64 s.h.k, .int .i32 (s.h.r : Int), .int .i64 (s.h.f : Int), .int .i64 (s.h.t : Int), .bool s.h.al]) sz_3 rfl rfl rfl rfl rfl (fun _ _ => rfl) rfl ?_
  refine TO.nilCheck rfl (by decide) rfl (TO.fieldAddr fl_69_0 rfl (by decide) rfl (show _ = 0 from rfl) ?_)
  refine TO.store (k := 0) (l' := [.int .i64 1, .int .i64 1, .int .i64 (u.f : Int), .int .i64 (u.t : Int), .int .i64 s.h.k, .int .i32 (s.h.r : Int), .int .i64 (s.h.f : Int), .int .i64 (s.h.t : Int), .bool s.h.al]) sz_3 rfl rfl rfl rfl rfl (fun _ _ => rfl) rfl ?_
  show TO _ _ _ _ _ _ _ _ _ _ [cells b [.int .i64 1, .int .i64 1, .int .i64 (u.f : Int), .int .i64 (u.t : Int), .int .i64 s.h.k, .int .i32 (s.h.r : Int), .int .i64 (s.h.f : Int), .int .i64 (s.h.t : Int), .bool s.h.al] 69, cells b1 [.int .i64 u.k, .int .i32 (u.r : Int), .int .i64 (u.f : Int), .int .i64 (u.t : Int), .bool u.al] 67]
  refine TO.nil (TX.blockNormal ?_)
  have hB : [.int .i64 1, .int .i64 1, .int .i64 (u.f : Int), .int .i64 (u.t : Int), .int .i64 s.h.k, .int .i32 (s.h.r : Int), .int .i64 (s.h.f : Int), .int .i64 (s.h.t : Int), .bool s.h.al] = scV (began s u) := by simp_all [began, begins, scV] <;> omega
  refine TX.rewE (k := 0) rfl (show cells b [.int .i64 1, .int .i64 1, .int .i64 (u.f : Int), .int .i64 (u.t : Int), .int .i64 s.h.k, .int .i32 (s.h.r : Int), .int .i64 (s.h.f : Int), .int .i64 (s.h.t : Int), .bool s.h.al] 69 = cells b (scV (began s u)) 69 from (congrArg (fun z => cells b z 69) hB)) ?_
  show TX _ _ _ _ _ _ _ [cells b (scV (began s u)) 69, cells b1 [.int .i64 u.k, .int .i32 (u.r : Int), .int .i64 (u.f : Int), .int .i64 (u.t : Int), .bool u.al] 67]
  exact TX.fin (rs := []) () (.inr rfl) Try.results50 .nil rfl (Splits.of [0] (by as_aux_lemma => kernel_rfl) rfl)
 ·
  -- no
  have h1 := beq_eq_false_iff_ne.1 h1
  refine TC.seq (TC.region (TO.bin rfl (by decide) rfl rfl bin_eql (TO.assign rfl (by decide) rfl (TO.nil (TX.next ?_)))))
  refine TC.condB rfl (fun h2 => ?_) (fun h2 => ?_)
  ·
   -- yes
   have h2 := beq_iff_eq.1 h2
   refine TC.region (TO.move rfl (by decide) rfl (TO.move rfl (by decide) rfl (TO.nilCheck rfl (by decide) rfl (TO.fieldAddr fl_69_1 rfl (by decide) rfl (show _ = 1 from rfl) (TO.fieldAddr fl_36_0 rfl (by decide) rfl (show _ = 1 from rfl) ?_)))))
   refine TO.store (k := 0) (l' := [.int .i64 9, .int .i64 2, .int .i64 (u.f : Int), .int .i64 (u.t : Int), .int .i64 s.h.k, .int .i32 (s.h.r : Int), .int .i64 (s.h.f : Int), .int .i64 (s.h.t : Int), .bool s.h.al]) sz_3 rfl rfl rfl rfl rfl (fun _ _ => rfl) rfl ?_
   refine TO.nilCheck rfl (by decide) rfl (TO.fieldAddr fl_69_0 rfl (by decide) rfl (show _ = 0 from rfl) ?_)
   refine TO.store (k := 0) (l' := [.int .i64 3, .int .i64 2, .int .i64 (u.f : Int), .int .i64 (u.t : Int), .int .i64 s.h.k, .int .i32 (s.h.r : Int), .int .i64 (s.h.f : Int), .int .i64 (s.h.t : Int), .bool s.h.al]) sz_3 rfl rfl rfl rfl rfl (fun _ _ => rfl) rfl ?_
   show TO _ _ _ _ _ _ _ _ _ _ [cells b [.int .i64 3, .int .i64 2, .int .i64 (u.f : Int), .int .i64 (u.t : Int), .int .i64 s.h.k, .int .i32 (s.h.r : Int), .int .i64 (s.h.f : Int), .int .i64 (s.h.t : Int), .bool s.h.al] 69, cells b1 [.int .i64 u.k, .int .i32 (u.r : Int), .int .i64 (u.f : Int), .int .i64 (u.t : Int), .bool u.al] 67]
   refine TO.nil (TX.blockNormal ?_)
   have hB : [.int .i64 3, .int .i64 2, .int .i64 (u.f : Int), .int .i64 (u.t : Int), .int .i64 s.h.k, .int .i32 (s.h.r : Int), .int .i64 (s.h.f : Int), .int .i64 (s.h.t : Int), .bool s.h.al] = scV (began s u) := by simp_all [began, begins, scV] <;> omega
   refine TX.rewE (k := 0) rfl (show cells b [.int .i64 3, .int .i64 2, .int .i64 (u.f : Int), .int .i64 (u.t : Int), .int .i64 s.h.k, .int .i32 (s.h.r : Int), .int .i64 (s.h.f : Int), .int .i64 (s.h.t : Int), .bool s.h.al] 69 = cells b (scV (began s u)) 69 from (congrArg (fun z => cells b z 69) hB)) ?_
   show TX _ _ _ _ _ _ _ [cells b (scV (began s u)) 69, cells b1 [.int .i64 u.k, .int .i32 (u.r : Int), .int .i64 (u.f : Int), .int .i64 (u.t : Int), .bool u.al] 67]
   exact TX.fin (rs := []) () (.inr rfl) Try.results50 .nil rfl (Splits.of [0] (by as_aux_lemma => kernel_rfl) rfl)
  ·
   -- no
   have h2 := beq_eq_false_iff_ne.1 h2
   refine TC.seq (TC.region (TO.bin rfl (by decide) rfl rfl bin_eql (TO.assign rfl (by decide) rfl (TO.nil (TX.next ?_)))))
   refine TC.condB rfl (fun h3 => ?_) (fun h3 => ?_)
   ·
    -- yes
    have h3 := beq_iff_eq.1 h3
    refine TC.region (TO.move rfl (by decide) rfl (TO.move rfl (by decide) rfl (TO.nilCheck rfl (by decide) rfl (TO.fieldAddr fl_69_1 rfl (by decide) rfl (show _ = 1 from rfl) (TO.fieldAddr fl_36_0 rfl (by decide) rfl (show _ = 1 from rfl) ?_)))))
    refine TO.store (k := 0) (l' := [.int .i64 9, .int .i64 3, .int .i64 (u.f : Int), .int .i64 (u.t : Int), .int .i64 s.h.k, .int .i32 (s.h.r : Int), .int .i64 (s.h.f : Int), .int .i64 (s.h.t : Int), .bool s.h.al]) sz_3 rfl rfl rfl rfl rfl (fun _ _ => rfl) rfl ?_
    refine TO.nilCheck rfl (by decide) rfl (TO.fieldAddr fl_69_0 rfl (by decide) rfl (show _ = 0 from rfl) ?_)
    refine TO.store (k := 0) (l' := [.int .i64 5, .int .i64 3, .int .i64 (u.f : Int), .int .i64 (u.t : Int), .int .i64 s.h.k, .int .i32 (s.h.r : Int), .int .i64 (s.h.f : Int), .int .i64 (s.h.t : Int), .bool s.h.al]) sz_3 rfl rfl rfl rfl rfl (fun _ _ => rfl) rfl ?_
    show TO _ _ _ _ _ _ _ _ _ _ [cells b [.int .i64 5, .int .i64 3, .int .i64 (u.f : Int), .int .i64 (u.t : Int), .int .i64 s.h.k, .int .i32 (s.h.r : Int), .int .i64 (s.h.f : Int), .int .i64 (s.h.t : Int), .bool s.h.al] 69, cells b1 [.int .i64 u.k, .int .i32 (u.r : Int), .int .i64 (u.f : Int), .int .i64 (u.t : Int), .bool u.al] 67]
    refine TO.nil (TX.blockNormal ?_)
    have hB : [.int .i64 5, .int .i64 3, .int .i64 (u.f : Int), .int .i64 (u.t : Int), .int .i64 s.h.k, .int .i32 (s.h.r : Int), .int .i64 (s.h.f : Int), .int .i64 (s.h.t : Int), .bool s.h.al] = scV (began s u) := by simp_all [began, begins, scV] <;> omega
    refine TX.rewE (k := 0) rfl (show cells b [.int .i64 5, .int .i64 3, .int .i64 (u.f : Int), .int .i64 (u.t : Int), .int .i64 s.h.k, .int .i32 (s.h.r : Int), .int .i64 (s.h.f : Int), .int .i64 (s.h.t : Int), .bool s.h.al] 69 = cells b (scV (began s u)) 69 from (congrArg (fun z => cells b z 69) hB)) ?_
    show TX _ _ _ _ _ _ _ [cells b (scV (began s u)) 69, cells b1 [.int .i64 u.k, .int .i32 (u.r : Int), .int .i64 (u.f : Int), .int .i64 (u.t : Int), .bool u.al] 67]
    exact TX.fin (rs := []) () (.inr rfl) Try.results50 .nil rfl (Splits.of [0] (by as_aux_lemma => kernel_rfl) rfl)
   ·
    -- no
    have h3 := beq_eq_false_iff_ne.1 h3
    refine TC.seq (TC.region (TO.bin rfl (by decide) rfl rfl bin_eql (TO.assign rfl (by decide) rfl (TO.nil (TX.next ?_)))))
    refine TC.condB rfl (fun h4 => ?_) (fun h4 => ?_)
    ·
     -- yes
     have h4 := beq_iff_eq.1 h4
     refine TC.region (TO.move rfl (by decide) rfl (TO.move rfl (by decide) rfl (TO.nilCheck rfl (by decide) rfl (TO.fieldAddr fl_69_1 rfl (by decide) rfl (show _ = 1 from rfl) (TO.fieldAddr fl_36_0 rfl (by decide) rfl (show _ = 1 from rfl) ?_)))))
     refine TO.store (k := 0) (l' := [.int .i64 9, .int .i64 7, .int .i64 (u.f : Int), .int .i64 (u.t : Int), .int .i64 s.h.k, .int .i32 (s.h.r : Int), .int .i64 (s.h.f : Int), .int .i64 (s.h.t : Int), .bool s.h.al]) sz_3 rfl rfl rfl rfl rfl (fun _ _ => rfl) rfl ?_
     refine TO.nilCheck rfl (by decide) rfl (TO.fieldAddr fl_69_0 rfl (by decide) rfl (show _ = 0 from rfl) ?_)
     refine TO.store (k := 0) (l' := [.int .i64 6, .int .i64 7, .int .i64 (u.f : Int), .int .i64 (u.t : Int), .int .i64 s.h.k, .int .i32 (s.h.r : Int), .int .i64 (s.h.f : Int), .int .i64 (s.h.t : Int), .bool s.h.al]) sz_3 rfl rfl rfl rfl rfl (fun _ _ => rfl) rfl ?_
     show TO _ _ _ _ _ _ _ _ _ _ [cells b [.int .i64 6, .int .i64 7, .int .i64 (u.f : Int), .int .i64 (u.t : Int), .int .i64 s.h.k, .int .i32 (s.h.r : Int), .int .i64 (s.h.f : Int), .int .i64 (s.h.t : Int), .bool s.h.al] 69, cells b1 [.int .i64 u.k, .int .i32 (u.r : Int), .int .i64 (u.f : Int), .int .i64 (u.t : Int), .bool u.al] 67]
     refine TO.nil (TX.blockNormal ?_)
     have hB : [.int .i64 6, .int .i64 7, .int .i64 (u.f : Int), .int .i64 (u.t : Int), .int .i64 s.h.k, .int .i32 (s.h.r : Int), .int .i64 (s.h.f : Int), .int .i64 (s.h.t : Int), .bool s.h.al] = scV (began s u) := by simp_all [began, begins, scV] <;> omega
     refine TX.rewE (k := 0) rfl (show cells b [.int .i64 6, .int .i64 7, .int .i64 (u.f : Int), .int .i64 (u.t : Int), .int .i64 s.h.k, .int .i32 (s.h.r : Int), .int .i64 (s.h.f : Int), .int .i64 (s.h.t : Int), .bool s.h.al] 69 = cells b (scV (began s u)) 69 from (congrArg (fun z => cells b z 69) hB)) ?_
     show TX _ _ _ _ _ _ _ [cells b (scV (began s u)) 69, cells b1 [.int .i64 u.k, .int .i32 (u.r : Int), .int .i64 (u.f : Int), .int .i64 (u.t : Int), .bool u.al] 67]
     exact TX.fin (rs := []) () (.inr rfl) Try.results50 .nil rfl (Splits.of [0] (by as_aux_lemma => kernel_rfl) rfl)
    ·
     -- no
     have h4 := beq_eq_false_iff_ne.1 h4
     refine TC.seq (TC.region (TO.bin rfl (by decide) rfl rfl bin_eql (TO.assign rfl (by decide) rfl (TO.nil (TX.next ?_)))))
     refine TC.condB rfl (fun h5 => ?_) (fun h5 => ?_)
     ·
      -- yes
      have h5 := beq_iff_eq.1 h5
      refine TC.seq (TC.region (TO.move rfl (by decide) rfl (TO.move rfl (by decide) rfl (TO.nilCheck rfl (by decide) rfl (TO.fieldAddr fl_69_1 rfl (by decide) rfl (show _ = 1 from rfl) (TO.fieldAddr fl_36_0 rfl (by decide) rfl (show _ = 1 from rfl) ?_))))))
      refine TO.store (k := 0) (l' := [.int .i64 9, .int .i64 4, .int .i64 (u.f : Int), .int .i64 (u.t : Int), .int .i64 s.h.k, .int .i32 (s.h.r : Int), .int .i64 (s.h.f : Int), .int .i64 (s.h.t : Int), .bool s.h.al]) sz_3 rfl rfl rfl rfl rfl (fun _ _ => rfl) rfl ?_
      refine TO.nilCheck rfl (by decide) rfl (TO.fieldAddr fl_69_0 rfl (by decide) rfl (show _ = 0 from rfl) ?_)
      refine TO.store (k := 0) (l' := [.int .i64 7, .int .i64 4, .int .i64 (u.f : Int), .int .i64 (u.t : Int), .int .i64 s.h.k, .int .i32 (s.h.r : Int), .int .i64 (s.h.f : Int), .int .i64 (s.h.t : Int), .bool s.h.al]) sz_3 rfl rfl rfl rfl rfl (fun _ _ => rfl) rfl ?_
      show TO _ _ _ _ _ _ _ _ _ _ [cells b [.int .i64 7, .int .i64 4, .int .i64 (u.f : Int), .int .i64 (u.t : Int), .int .i64 s.h.k, .int .i32 (s.h.r : Int), .int .i64 (s.h.f : Int), .int .i64 (s.h.t : Int), .bool s.h.al] 69, cells b1 [.int .i64 u.k, .int .i32 (u.r : Int), .int .i64 (u.f : Int), .int .i64 (u.t : Int), .bool u.al] 67]
      refine TO.nil (TX.next (TC.seq (TC.region (TO.fieldAddr fl_67_1 rfl (by decide) rfl (show _ = 1 from rfl) (TO.load (k := 1) sc_21 rfl (by decide) rfl rfl rfl (TO.bin rfl (by decide) rfl rfl bin_eql (TO.nil (TX.next ?_))))))))
      refine TC.condB rfl (fun h6 => ?_) (fun h6 => ?_)
      ·
       -- yes
       have h6 := beq_iff_eq.1 h6
       refine TC.region (TO.move rfl (by decide) rfl (TO.nilCheck rfl (by decide) rfl (TO.fieldAddr fl_69_0 rfl (by decide) rfl (show _ = 0 from rfl) ?_)))
       refine TO.store (k := 0) (l' := [.int .i64 8, .int .i64 4, .int .i64 (u.f : Int), .int .i64 (u.t : Int), .int .i64 s.h.k, .int .i32 (s.h.r : Int), .int .i64 (s.h.f : Int), .int .i64 (s.h.t : Int), .bool s.h.al]) sz_3 rfl rfl rfl rfl rfl (fun _ _ => rfl) rfl ?_
       refine TO.nil (TX.blockNormal ?_)
       have hB : [.int .i64 8, .int .i64 4, .int .i64 (u.f : Int), .int .i64 (u.t : Int), .int .i64 s.h.k, .int .i32 (s.h.r : Int), .int .i64 (s.h.f : Int), .int .i64 (s.h.t : Int), .bool s.h.al] = scV (began s u) := by simp_all [began, begins, scV] <;> omega
       refine TX.rewE (k := 0) rfl (show cells b [.int .i64 8, .int .i64 4, .int .i64 (u.f : Int), .int .i64 (u.t : Int), .int .i64 s.h.k, .int .i32 (s.h.r : Int), .int .i64 (s.h.f : Int), .int .i64 (s.h.t : Int), .bool s.h.al] 69 = cells b (scV (began s u)) 69 from (congrArg (fun z => cells b z 69) hB)) ?_
       show TX _ _ _ _ _ _ _ [cells b (scV (began s u)) 69, cells b1 [.int .i64 u.k, .int .i32 (u.r : Int), .int .i64 (u.f : Int), .int .i64 (u.t : Int), .bool u.al] 67]
       exact TX.fin (rs := []) () (.inr rfl) Try.results50 .nil rfl (Splits.of [0] (by as_aux_lemma => kernel_rfl) rfl)
      ·
       -- no
       have h6 := beq_eq_false_iff_ne.1 h6
       refine TC.skip (TX.blockNormal ?_)
       have hB : [.int .i64 7, .int .i64 4, .int .i64 (u.f : Int), .int .i64 (u.t : Int), .int .i64 s.h.k, .int .i32 (s.h.r : Int), .int .i64 (s.h.f : Int), .int .i64 (s.h.t : Int), .bool s.h.al] = scV (began s u) := by simp_all [began, begins, scV] <;> omega
       refine TX.rewE (k := 0) rfl (show cells b [.int .i64 7, .int .i64 4, .int .i64 (u.f : Int), .int .i64 (u.t : Int), .int .i64 s.h.k, .int .i32 (s.h.r : Int), .int .i64 (s.h.f : Int), .int .i64 (s.h.t : Int), .bool s.h.al] 69 = cells b (scV (began s u)) 69 from (congrArg (fun z => cells b z 69) hB)) ?_
       show TX _ _ _ _ _ _ _ [cells b (scV (began s u)) 69, cells b1 [.int .i64 u.k, .int .i32 (u.r : Int), .int .i64 (u.f : Int), .int .i64 (u.t : Int), .bool u.al] 67]
       exact TX.fin (rs := []) () (.inr rfl) Try.results50 .nil rfl (Splits.of [0] (by as_aux_lemma => kernel_rfl) rfl)
     ·
      -- no
      have h5 := beq_eq_false_iff_ne.1 h5
      refine TC.seq (TC.seq (TC.region (TO.bin rfl (by decide) rfl rfl bin_eql (TO.assign rfl (by decide) rfl (TO.nil (TX.next ?_))))))
      refine TC.condB rfl (fun h7 => ?_) (fun h7 => ?_)
      ·
       -- yes
       have h7 := beq_iff_eq.1 h7
       refine TC.skip (TX.next ?_)
       refine TC.condB rfl (fun h8 => ?_) (fun h8 => ?_)
       ·
        -- yes
        have h8 := beq_iff_eq.1 h8
        refine TC.region (TO.move rfl (by decide) rfl (TO.nilCheck rfl (by decide) rfl (TO.fieldAddr fl_69_1 rfl (by decide) rfl (show _ = 1 from rfl) (TO.fieldAddr fl_36_0 rfl (by decide) rfl (show _ = 1 from rfl) ?_))))
        refine TO.store (k := 0) (l' := [.int .i64 9, .int .i64 5, .int .i64 (u.f : Int), .int .i64 (u.t : Int), .int .i64 s.h.k, .int .i32 (s.h.r : Int), .int .i64 (s.h.f : Int), .int .i64 (s.h.t : Int), .bool s.h.al]) sz_3 rfl rfl rfl rfl rfl (fun _ _ => rfl) rfl ?_
        refine TO.nil (TX.blockNormal ?_)
        have hB : [.int .i64 9, .int .i64 5, .int .i64 (u.f : Int), .int .i64 (u.t : Int), .int .i64 s.h.k, .int .i32 (s.h.r : Int), .int .i64 (s.h.f : Int), .int .i64 (s.h.t : Int), .bool s.h.al] = scV (began s u) := by simp_all [began, begins, scV] <;> omega
        refine TX.rewE (k := 0) rfl (show cells b [.int .i64 9, .int .i64 5, .int .i64 (u.f : Int), .int .i64 (u.t : Int), .int .i64 s.h.k, .int .i32 (s.h.r : Int), .int .i64 (s.h.f : Int), .int .i64 (s.h.t : Int), .bool s.h.al] 69 = cells b (scV (began s u)) 69 from (congrArg (fun z => cells b z 69) hB)) ?_
        show TX _ _ _ _ _ _ _ [cells b (scV (began s u)) 69, cells b1 [.int .i64 u.k, .int .i32 (u.r : Int), .int .i64 (u.f : Int), .int .i64 (u.t : Int), .bool u.al] 67]
        exact TX.fin (rs := []) () (.inr rfl) Try.results50 .nil rfl (Splits.of [0] (by as_aux_lemma => kernel_rfl) rfl)
       ·
        -- no
        have h8 := beq_eq_false_iff_ne.1 h8
        refine TC.skip (TX.blockNormal ?_)
        have hB : [.int .i64 9, .int .i64 6, .int .i64 (u.f : Int), .int .i64 (u.t : Int), .int .i64 s.h.k, .int .i32 (s.h.r : Int), .int .i64 (s.h.f : Int), .int .i64 (s.h.t : Int), .bool s.h.al] = scV (began s u) := by simp_all [began, begins, scV] <;> omega
        refine TX.rewE (k := 0) rfl (show cells b [.int .i64 9, .int .i64 6, .int .i64 (u.f : Int), .int .i64 (u.t : Int), .int .i64 s.h.k, .int .i32 (s.h.r : Int), .int .i64 (s.h.f : Int), .int .i64 (s.h.t : Int), .bool s.h.al] 69 = cells b (scV (began s u)) 69 from (congrArg (fun z => cells b z 69) hB)) ?_
        show TX _ _ _ _ _ _ _ [cells b (scV (began s u)) 69, cells b1 [.int .i64 u.k, .int .i32 (u.r : Int), .int .i64 (u.f : Int), .int .i64 (u.t : Int), .bool u.al] 67]
        exact TX.fin (rs := []) () (.inr rfl) Try.results50 .nil rfl (Splits.of [0] (by as_aux_lemma => kernel_rfl) rfl)
      ·
       -- no
       have h7 := beq_eq_false_iff_ne.1 h7
       refine TC.seq (TC.region (TO.bin rfl (by decide) rfl rfl bin_eql (TO.assign rfl (by decide) rfl (TO.nil (TX.next ?_)))))
       refine TC.condB rfl (fun h9 => ?_) (fun h9 => ?_)
       ·
        -- yes
        have h9 := beq_iff_eq.1 h9
        refine TC.skip (TX.next ?_)
        refine TC.condB rfl (fun h10 => ?_) (fun h10 => ?_)
        ·
         -- yes
         have h10 := beq_iff_eq.1 h10
         refine TC.region (TO.move rfl (by decide) rfl (TO.nilCheck rfl (by decide) rfl (TO.fieldAddr fl_69_1 rfl (by decide) rfl (show _ = 1 from rfl) (TO.fieldAddr fl_36_0 rfl (by decide) rfl (show _ = 1 from rfl) ?_))))
         refine TO.store (k := 0) (l' := [.int .i64 9, .int .i64 5, .int .i64 (u.f : Int), .int .i64 (u.t : Int), .int .i64 s.h.k, .int .i32 (s.h.r : Int), .int .i64 (s.h.f : Int), .int .i64 (s.h.t : Int), .bool s.h.al]) sz_3 rfl rfl rfl rfl rfl (fun _ _ => rfl) rfl ?_
         refine TO.nil (TX.blockNormal ?_)
         have hB : [.int .i64 9, .int .i64 5, .int .i64 (u.f : Int), .int .i64 (u.t : Int), .int .i64 s.h.k, .int .i32 (s.h.r : Int), .int .i64 (s.h.f : Int), .int .i64 (s.h.t : Int), .bool s.h.al] = scV (began s u) := by simp_all [began, begins, scV] <;> omega
         refine TX.rewE (k := 0) rfl (show cells b [.int .i64 9, .int .i64 5, .int .i64 (u.f : Int), .int .i64 (u.t : Int), .int .i64 s.h.k, .int .i32 (s.h.r : Int), .int .i64 (s.h.f : Int), .int .i64 (s.h.t : Int), .bool s.h.al] 69 = cells b (scV (began s u)) 69 from (congrArg (fun z => cells b z 69) hB)) ?_
         show TX _ _ _ _ _ _ _ [cells b (scV (began s u)) 69, cells b1 [.int .i64 u.k, .int .i32 (u.r : Int), .int .i64 (u.f : Int), .int .i64 (u.t : Int), .bool u.al] 67]
         exact TX.fin (rs := []) () (.inr rfl) Try.results50 .nil rfl (Splits.of [0] (by as_aux_lemma => kernel_rfl) rfl)
        ·
         -- no
         have h10 := beq_eq_false_iff_ne.1 h10
         refine TC.skip (TX.blockNormal ?_)
         have hB : [.int .i64 9, .int .i64 6, .int .i64 (u.f : Int), .int .i64 (u.t : Int), .int .i64 s.h.k, .int .i32 (s.h.r : Int), .int .i64 (s.h.f : Int), .int .i64 (s.h.t : Int), .bool s.h.al] = scV (began s u) := by simp_all [began, begins, scV] <;> omega
         refine TX.rewE (k := 0) rfl (show cells b [.int .i64 9, .int .i64 6, .int .i64 (u.f : Int), .int .i64 (u.t : Int), .int .i64 s.h.k, .int .i32 (s.h.r : Int), .int .i64 (s.h.f : Int), .int .i64 (s.h.t : Int), .bool s.h.al] 69 = cells b (scV (began s u)) 69 from (congrArg (fun z => cells b z 69) hB)) ?_
         show TX _ _ _ _ _ _ _ [cells b (scV (began s u)) 69, cells b1 [.int .i64 u.k, .int .i32 (u.r : Int), .int .i64 (u.f : Int), .int .i64 (u.t : Int), .bool u.al] 67]
         exact TX.fin (rs := []) () (.inr rfl) Try.results50 .nil rfl (Splits.of [0] (by as_aux_lemma => kernel_rfl) rfl)
       ·
        -- no
        have h9 := beq_eq_false_iff_ne.1 h9
        refine TC.region (TO.bin rfl (by decide) rfl rfl bin_eql (TO.assign rfl (by decide) rfl (TO.nil (TX.next ?_))))
        refine TC.condB rfl (fun h11 => ?_) (fun h11 => ?_)
        ·
         -- yes
         have h11 := beq_iff_eq.1 h11
         refine TC.region (TO.move rfl (by decide) rfl (TO.nilCheck rfl (by decide) rfl (TO.fieldAddr fl_69_1 rfl (by decide) rfl (show _ = 1 from rfl) (TO.fieldAddr fl_36_0 rfl (by decide) rfl (show _ = 1 from rfl) ?_))))
         refine TO.store (k := 0) (l' := [.int .i64 9, .int .i64 5, .int .i64 (u.f : Int), .int .i64 (u.t : Int), .int .i64 s.h.k, .int .i32 (s.h.r : Int), .int .i64 (s.h.f : Int), .int .i64 (s.h.t : Int), .bool s.h.al]) sz_3 rfl rfl rfl rfl rfl (fun _ _ => rfl) rfl ?_
         refine TO.nil (TX.blockNormal ?_)
         have hB : [.int .i64 9, .int .i64 5, .int .i64 (u.f : Int), .int .i64 (u.t : Int), .int .i64 s.h.k, .int .i32 (s.h.r : Int), .int .i64 (s.h.f : Int), .int .i64 (s.h.t : Int), .bool s.h.al] = scV (began s u) := by simp_all [began, begins, scV] <;> omega
         refine TX.rewE (k := 0) rfl (show cells b [.int .i64 9, .int .i64 5, .int .i64 (u.f : Int), .int .i64 (u.t : Int), .int .i64 s.h.k, .int .i32 (s.h.r : Int), .int .i64 (s.h.f : Int), .int .i64 (s.h.t : Int), .bool s.h.al] 69 = cells b (scV (began s u)) 69 from (congrArg (fun z => cells b z 69) hB)) ?_
         show TX _ _ _ _ _ _ _ [cells b (scV (began s u)) 69, cells b1 [.int .i64 u.k, .int .i32 (u.r : Int), .int .i64 (u.f : Int), .int .i64 (u.t : Int), .bool u.al] 67]
         exact TX.fin (rs := []) () (.inr rfl) Try.results50 .nil rfl (Splits.of [0] (by as_aux_lemma => kernel_rfl) rfl)
        ·
         -- no
         have h11 := beq_eq_false_iff_ne.1 h11
         refine TC.skip (TX.blockNormal ?_)
         have hB : [.int .i64 9, .int .i64 6, .int .i64 (u.f : Int), .int .i64 (u.t : Int), .int .i64 s.h.k, .int .i32 (s.h.r : Int), .int .i64 (s.h.f : Int), .int .i64 (s.h.t : Int), .bool s.h.al] = scV (began s u) := by simp_all [began, begins, scV] <;> omega
         refine TX.rewE (k := 0) rfl (show cells b [.int .i64 9, .int .i64 6, .int .i64 (u.f : Int), .int .i64 (u.t : Int), .int .i64 s.h.k, .int .i32 (s.h.r : Int), .int .i64 (s.h.f : Int), .int .i64 (s.h.t : Int), .bool s.h.al] 69 = cells b (scV (began s u)) 69 from (congrArg (fun z => cells b z 69) hB)) ?_
         show TX _ _ _ _ _ _ _ [cells b (scV (began s u)) 69, cells b1 [.int .i64 u.k, .int .i32 (u.r : Int), .int .i64 (u.f : Int), .int .i64 (u.t : Int), .bool u.al] 67]
         exact TX.fin (rs := []) () (.inr rfl) Try.results50 .nil rfl (Splits.of [0] (by as_aux_lemma => kernel_rfl) rfl)

set_option maxRecDepth 100000 in
set_option maxHeartbeats 4000000 in
theorem end_w {l : Nat} {zs : List Tk} {I X : List Tk → Asn} {w : World} {C : Nat → Prop} (hy : YC Try.prog l tkA zs I X w C) (b : Nat) (s : Sc) (pre post : List Tk) (hz : zs = pre ++ ended s ++ post) :
  FnW Try.prog 49 [.pointer (some ⟨b, 0, none⟩), .func (.yield l) #[] #[]] [cells b (scV s) 69, I pre] (fun x : Option (List Tk × Tk × List Tk) => .bool x.isNone)
   (fun x => match x with | none => [cells b (scV s) 69, I (pre ++ ended s)] | some g => [cells b (scV s) 69, X (pre ++ g.1 ++ [g.2.1]), fact (ended s = g.1 ++ g.2.1 :: g.2.2)]) w C := by
 refine FnW.intro Try.func49 rfl Try.ntmps49 (by simp) ?_
 show TC _ _ _ _ _ _ _ _ _ [cells b [.int .i64 s.st, .int .i64 s.tk.k, .int .i64 (s.tk.f : Int), .int .i64 (s.tk.t : Int), .int .i64 s.h.k, .int .i32 (s.h.r : Int), .int .i64 (s.h.f : Int), .int .i64 (s.h.t : Int), .bool s.h.al] 69, I pre]
 refine TC.seq (TC.region (TO.assign rfl (by decide) rfl (TO.nil (TX.next (TC.seq (TC.seq (TC.region (TO.move rfl (by decide) rfl (TO.nilCheck rfl (by decide) rfl (TO.fieldAddr fl_69_0 rfl (by decide) rfl (show _ = 0 from rfl) (TO.load (k := 0) sc_3 rfl (by decide) rfl rfl rfl (TO.nil (TX.next ?_)))))))))))))
 refine TC.block (TC.seq (TC.region (TO.bin rfl (by decide) rfl rfl bin_eql (TO.assign rfl (by decide) rfl (TO.nil (TX.next ?_))))))
 refine TC.condB rfl (fun h1 => ?_) (fun h1 => ?_)
 ·
  -- yes
  have h1 := beq_iff_eq.1 h1
  refine TC.seq (TC.region (TO.assign rfl (by decide) rfl (TO.nil (TX.next (TC.ret (TX.blockRet (TX.thenRet ?_)))))))
  have hen : ended s = [] := by unfold ended; simp_all
  refine TX.rewE (k := 1) rfl (show I pre = I (pre ++ ended s) from (by simp [hen])) ?_
  show TX _ _ _ _ _ _ _ [cells b [.int .i64 s.st, .int .i64 s.tk.k, .int .i64 (s.tk.f : Int), .int .i64 (s.tk.t : Int), .int .i64 s.h.k, .int .i32 (s.h.r : Int), .int .i64 (s.h.f : Int), .int .i64 (s.h.t : Int), .bool s.h.al] 69, I (pre ++ ended s)]
  exact TX.fin (rs := [.tmp 4]) (none : Option (List Tk × Tk × List Tk)) (.inl rfl) Try.results49 (.cons (.tmp rfl) .nil) rfl (Splits.of [0, 1] (by as_aux_lemma => kernel_rfl) rfl)
 ·
  -- no
  have h1 := beq_eq_false_iff_ne.1 h1
  refine TC.seq (TC.seq (TC.region (TO.bin rfl (by decide) rfl rfl bin_eql (TO.assign rfl (by decide) rfl (TO.nil (TX.next ?_))))))
  refine TC.condB rfl (fun h2 => ?_) (fun h2 => ?_)
  ·
   -- yes
   have h2 := beq_iff_eq.1 h2
   refine TC.skip (TX.next ?_)
   refine TC.condB rfl (fun h3 => ?_) (fun h3 => ?_)
   ·
    -- yes
    have h3 := beq_iff_eq.1 h3
    refine TC.seq ?_
    have hen : ended s = [s.tk, ⟨5, s.h.f, s.h.t⟩] := by unfold ended; simp_all
    refine TC.region (TO.move rfl (by decide) rfl (TO.move rfl (by decide) rfl (TO.nilCheck rfl (by decide) rfl (TO.fieldAddr fl_69_1 rfl (by decide) rfl (show _ = 1 from rfl) (TO.loads (k := 0) (cs := [.int .i64 s.tk.k, .int .i64 (s.tk.f : Int), .int .i64 (s.tk.t : Int)]) rw_36 rfl (by decide) rfl rfl rfl rfl ?_)))))
    refine TO.yield hy rfl (by decide) rfl (pre := pre) (e := s.tk) (post := [⟨5, s.h.f, s.h.t⟩] ++ post) (by rw [hz, hen]; simp) rfl (k := 1) rfl ?_ ?_
    ·
     -- yes
     refine TO.move rfl (by decide) rfl (TO.move rfl (by decide) rfl (TO.move rfl (by decide) rfl (TO.nilCheck rfl (by decide) rfl (TO.fieldAddr fl_69_2 rfl (by decide) rfl (show _ = 4 from rfl) (TO.fieldAddr fl_67_2 rfl (by decide) rfl (show _ = 6 from rfl) (TO.loads (k := 0) (cs := [.int .i64 (s.h.f : Int), .int .i64 (s.h.t : Int)]) rw_34 rfl (by decide) rfl rfl rfl rfl ?_))))))
     refine TO.build (v := .agg #[.int .i64 5, .int .i64 (s.h.f : Int), .int .i64 (s.h.t : Int)]) (ps := [(0, .const (.int .i64 5)), (1, .tmp 26)]) rfl (by decide) rfl (fun _ => by kernel_rfl) ?_
     refine TO.yield hy rfl (by decide) rfl (pre := (pre ++ [s.tk])) (e := (⟨5, s.h.f, s.h.t⟩ : Tk)) (post := post) (by rw [hz, hen]; simp) rfl (k := 1) rfl ?_ ?_
     ·
      -- yes
      refine TO.pick (b := true) rfl (by decide) rfl rfl (TO.assign rfl (by decide) rfl (TO.nil (TX.next (TC.ret (TX.blockRet (TX.thenRet (TX.rewE (k := 1) rfl (show I ((pre ++ [s.tk]) ++ [(⟨5, s.h.f, s.h.t⟩ : Tk)]) = I (pre ++ ended s) from (by simp [hen])) ?_)))))))
      show TX _ _ _ _ _ _ _ [cells b [.int .i64 s.st, .int .i64 s.tk.k, .int .i64 (s.tk.f : Int), .int .i64 (s.tk.t : Int), .int .i64 s.h.k, .int .i32 (s.h.r : Int), .int .i64 (s.h.f : Int), .int .i64 (s.h.t : Int), .bool s.h.al] 69, I (pre ++ ended s)]
      exact TX.fin (rs := [.tmp 4]) (none : Option (List Tk × Tk × List Tk)) (.inl rfl) Try.results49 (.cons (.tmp rfl) .nil) rfl (Splits.of [0, 1] (by as_aux_lemma => kernel_rfl) rfl)
     ·
      -- no
      refine TO.pick (b := true) rfl (by decide) rfl rfl (TO.assign rfl (by decide) rfl (TO.nil (TX.next (TC.ret (TX.blockRet (TX.thenRet (TX.rewE (k := 1) rfl (show X ((pre ++ [s.tk]) ++ [(⟨5, s.h.f, s.h.t⟩ : Tk)]) = X (pre ++ (([s.tk], (⟨5, s.h.f, s.h.t⟩ : Tk), []) : List Tk × Tk × List Tk).1 ++ [(([s.tk], (⟨5, s.h.f, s.h.t⟩ : Tk), []) : List Tk × Tk × List Tk).2.1]) from (by simp)) ?_)))))))
      show TX _ _ _ _ _ _ _ [cells b [.int .i64 s.st, .int .i64 s.tk.k, .int .i64 (s.tk.f : Int), .int .i64 (s.tk.t : Int), .int .i64 s.h.k, .int .i32 (s.h.r : Int), .int .i64 (s.h.f : Int), .int .i64 (s.h.t : Int), .bool s.h.al] 69, X (pre ++ (([s.tk], (⟨5, s.h.f, s.h.t⟩ : Tk), []) : List Tk × Tk × List Tk).1 ++ [(([s.tk], (⟨5, s.h.f, s.h.t⟩ : Tk), []) : List Tk × Tk × List Tk).2.1])]
      exact TX.finE (rs := [.tmp 4]) (As := [cells b (scV s) 69, X (pre ++ (([s.tk], (⟨5, s.h.f, s.h.t⟩ : Tk), []) : List Tk × Tk × List Tk).1 ++ [(([s.tk], (⟨5, s.h.f, s.h.t⟩ : Tk), []) : List Tk × Tk × List Tk).2.1])]) (p := ended s = (([s.tk], (⟨5, s.h.f, s.h.t⟩ : Tk), []) : List Tk × Tk × List Tk).1 ++ (([s.tk], (⟨5, s.h.f, s.h.t⟩ : Tk), []) : List Tk × Tk × List Tk).2.1 :: (([s.tk], (⟨5, s.h.f, s.h.t⟩ : Tk), []) : List Tk × Tk × List Tk).2.2) (some (([s.tk], (⟨5, s.h.f, s.h.t⟩ : Tk), []) : List Tk × Tk × List Tk)) (.inl rfl) Try.results49 (.cons (.tmp rfl) .nil) rfl (Splits.of [0, 1] (by as_aux_lemma => kernel_rfl) rfl) (by rw [hen]; rfl)
    ·
     -- no
     refine TO.move rfl (by decide) rfl (TO.skip rfl (by decide) (TO.skip rfl (by decide) (TO.skip rfl (by decide) (TO.skip rfl (by decide) (TO.skip rfl (by decide) (TO.skip rfl (by decide) (TO.skip rfl (by decide) (TO.skip rfl (by decide) (TO.pick (b := false) rfl (by decide) rfl rfl (TO.assign rfl (by decide) rfl (TO.nil (TX.next (TC.ret ?_)))))))))))))
     refine TX.blockRet (TX.thenRet (TX.rewE (k := 1) rfl (show X (pre ++ [s.tk]) = X (pre ++ (([], s.tk, [(⟨5, s.h.f, s.h.t⟩ : Tk)]) : List Tk × Tk × List Tk).1 ++ [(([], s.tk, [(⟨5, s.h.f, s.h.t⟩ : Tk)]) : List Tk × Tk × List Tk).2.1]) from (by simp)) ?_))
     show TX _ _ _ _ _ _ _ [cells b [.int .i64 s.st, .int .i64 s.tk.k, .int .i64 (s.tk.f : Int), .int .i64 (s.tk.t : Int), .int .i64 s.h.k, .int .i32 (s.h.r : Int), .int .i64 (s.h.f : Int), .int .i64 (s.h.t : Int), .bool s.h.al] 69, X (pre ++ (([], s.tk, [(⟨5, s.h.f, s.h.t⟩ : Tk)]) : List Tk × Tk × List Tk).1 ++ [(([], s.tk, [(⟨5, s.h.f, s.h.t⟩ : Tk)]) : List Tk × Tk × List Tk).2.1])]
     exact TX.finE (rs := [.tmp 4]) (As := [cells b (scV s) 69, X (pre ++ (([], s.tk, [(⟨5, s.h.f, s.h.t⟩ : Tk)]) : List Tk × Tk × List Tk).1 ++ [(([], s.tk, [(⟨5, s.h.f, s.h.t⟩ : Tk)]) : List Tk × Tk × List Tk).2.1])]) (p := ended s = (([], s.tk, [(⟨5, s.h.f, s.h.t⟩ : Tk)]) : List Tk × Tk × List Tk).1 ++ (([], s.tk, [(⟨5, s.h.f, s.h.t⟩ : Tk)]) : List Tk × Tk × List Tk).2.1 :: (([], s.tk, [(⟨5, s.h.f, s.h.t⟩ : Tk)]) : List Tk × Tk × List Tk).2.2) (some (([], s.tk, [(⟨5, s.h.f, s.h.t⟩ : Tk)]) : List Tk × Tk × List Tk)) (.inl rfl) Try.results49 (.cons (.tmp rfl) .nil) rfl (Splits.of [0, 1] (by as_aux_lemma => kernel_rfl) rfl) (by rw [hen]; rfl)
   ·
    -- no
    have h3 := beq_eq_false_iff_ne.1 h3
    refine TC.skip (TX.blockNormal (TX.next (TC.seq ?_)))
    have hen : ended s = [s.tk] := by unfold ended; simp_all
    refine TC.region (TO.move rfl (by decide) rfl (TO.move rfl (by decide) rfl (TO.nilCheck rfl (by decide) rfl (TO.fieldAddr fl_69_1 rfl (by decide) rfl (show _ = 1 from rfl) (TO.loads (k := 0) (cs := [.int .i64 s.tk.k, .int .i64 (s.tk.f : Int), .int .i64 (s.tk.t : Int)]) rw_36 rfl (by decide) rfl rfl rfl rfl ?_)))))
    refine TO.yield hy rfl (by decide) rfl (pre := pre) (e := s.tk) (post := post) (by rw [hz, hen]; simp) rfl (k := 1) rfl ?_ ?_
    ·
     -- yes
     refine TO.assign rfl (by decide) rfl (TO.nil (TX.next (TC.ret (TX.rewE (k := 1) rfl (show I (pre ++ [s.tk]) = I (pre ++ ended s) from (by simp [hen])) ?_))))
     show TX _ _ _ _ _ _ _ [cells b [.int .i64 s.st, .int .i64 s.tk.k, .int .i64 (s.tk.f : Int), .int .i64 (s.tk.t : Int), .int .i64 s.h.k, .int .i32 (s.h.r : Int), .int .i64 (s.h.f : Int), .int .i64 (s.h.t : Int), .bool s.h.al] 69, I (pre ++ ended s)]
     exact TX.fin (rs := [.tmp 4]) (none : Option (List Tk × Tk × List Tk)) (.inl rfl) Try.results49 (.cons (.tmp rfl) .nil) rfl (Splits.of [0, 1] (by as_aux_lemma => kernel_rfl) rfl)
    ·
     -- no
     refine TO.assign rfl (by decide) rfl (TO.nil (TX.next (TC.ret (TX.rewE (k := 1) rfl (show X (pre ++ [s.tk]) = X (pre ++ (([], s.tk, []) : List Tk × Tk × List Tk).1 ++ [(([], s.tk, []) : List Tk × Tk × List Tk).2.1]) from (by simp)) ?_))))
     show TX _ _ _ _ _ _ _ [cells b [.int .i64 s.st, .int .i64 s.tk.k, .int .i64 (s.tk.f : Int), .int .i64 (s.tk.t : Int), .int .i64 s.h.k, .int .i32 (s.h.r : Int), .int .i64 (s.h.f : Int), .int .i64 (s.h.t : Int), .bool s.h.al] 69, X (pre ++ (([], s.tk, []) : List Tk × Tk × List Tk).1 ++ [(([], s.tk, []) : List Tk × Tk × List Tk).2.1])]
     exact TX.finE (rs := [.tmp 4]) (As := [cells b (scV s) 69, X (pre ++ (([], s.tk, []) : List Tk × Tk × List Tk).1 ++ [(([], s.tk, []) : List Tk × Tk × List Tk).2.1])]) (p := ended s = (([], s.tk, []) : List Tk × Tk × List Tk).1 ++ (([], s.tk, []) : List Tk × Tk × List Tk).2.1 :: (([], s.tk, []) : List Tk × Tk × List Tk).2.2) (some (([], s.tk, []) : List Tk × Tk × List Tk)) (.inl rfl) Try.results49 (.cons (.tmp rfl) .nil) rfl (Splits.of [0, 1] (by as_aux_lemma => kernel_rfl) rfl) (by rw [hen]; rfl)
  ·
   -- no
   have h2 := beq_eq_false_iff_ne.1 h2
   refine TC.region (TO.bin rfl (by decide) rfl rfl bin_eql (TO.assign rfl (by decide) rfl (TO.nil (TX.next ?_))))
   refine TC.condB rfl (fun h4 => ?_) (fun h4 => ?_)
   ·
    -- yes
    have h4 := beq_iff_eq.1 h4
    refine TC.seq ?_
    have hen : ended s = [s.tk, ⟨5, s.h.f, s.h.t⟩] := by unfold ended; simp_all
    refine TC.region (TO.move rfl (by decide) rfl (TO.move rfl (by decide) rfl (TO.nilCheck rfl (by decide) rfl (TO.fieldAddr fl_69_1 rfl (by decide) rfl (show _ = 1 from rfl) (TO.loads (k := 0) (cs := [.int .i64 s.tk.k, .int .i64 (s.tk.f : Int), .int .i64 (s.tk.t : Int)]) rw_36 rfl (by decide) rfl rfl rfl rfl ?_)))))
    refine TO.yield hy rfl (by decide) rfl (pre := pre) (e := s.tk) (post := [⟨5, s.h.f, s.h.t⟩] ++ post) (by rw [hz, hen]; simp) rfl (k := 1) rfl ?_ ?_
    ·
     -- yes
     refine TO.move rfl (by decide) rfl (TO.move rfl (by decide) rfl (TO.move rfl (by decide) rfl (TO.nilCheck rfl (by decide) rfl (TO.fieldAddr fl_69_2 rfl (by decide) rfl (show _ = 4 from rfl) (TO.fieldAddr fl_67_2 rfl (by decide) rfl (show _ = 6 from rfl) (TO.loads (k := 0) (cs := [.int .i64 (s.h.f : Int), .int .i64 (s.h.t : Int)]) rw_34 rfl (by decide) rfl rfl rfl rfl ?_))))))
     refine TO.build (v := .agg #[.int .i64 5, .int .i64 (s.h.f : Int), .int .i64 (s.h.t : Int)]) (ps := [(0, .const (.int .i64 5)), (1, .tmp 26)]) rfl (by decide) rfl (fun _ => by kernel_rfl) ?_
     refine TO.yield hy rfl (by decide) rfl (pre := (pre ++ [s.tk])) (e := (⟨5, s.h.f, s.h.t⟩ : Tk)) (post := post) (by rw [hz, hen]; simp) rfl (k := 1) rfl ?_ ?_
     ·
      -- yes
      refine TO.pick (b := true) rfl (by decide) rfl rfl (TO.assign rfl (by decide) rfl (TO.nil (TX.next (TC.ret (TX.blockRet (TX.thenRet (TX.rewE (k := 1) rfl (show I ((pre ++ [s.tk]) ++ [(⟨5, s.h.f, s.h.t⟩ : Tk)]) = I (pre ++ ended s) from (by simp [hen])) ?_)))))))
      show TX _ _ _ _ _ _ _ [cells b [.int .i64 s.st, .int .i64 s.tk.k, .int .i64 (s.tk.f : Int), .int .i64 (s.tk.t : Int), .int .i64 s.h.k, .int .i32 (s.h.r : Int), .int .i64 (s.h.f : Int), .int .i64 (s.h.t : Int), .bool s.h.al] 69, I (pre ++ ended s)]
      exact TX.fin (rs := [.tmp 4]) (none : Option (List Tk × Tk × List Tk)) (.inl rfl) Try.results49 (.cons (.tmp rfl) .nil) rfl (Splits.of [0, 1] (by as_aux_lemma => kernel_rfl) rfl)
     ·
      -- no
      refine TO.pick (b := true) rfl (by decide) rfl rfl (TO.assign rfl (by decide) rfl (TO.nil (TX.next (TC.ret (TX.blockRet (TX.thenRet (TX.rewE (k := 1) rfl (show X ((pre ++ [s.tk]) ++ [(⟨5, s.h.f, s.h.t⟩ : Tk)]) = X (pre ++ (([s.tk], (⟨5, s.h.f, s.h.t⟩ : Tk), []) : List Tk × Tk × List Tk).1 ++ [(([s.tk], (⟨5, s.h.f, s.h.t⟩ : Tk), []) : List Tk × Tk × List Tk).2.1]) from (by simp)) ?_)))))))
      show TX _ _ _ _ _ _ _ [cells b [.int .i64 s.st, .int .i64 s.tk.k, .int .i64 (s.tk.f : Int), .int .i64 (s.tk.t : Int), .int .i64 s.h.k, .int .i32 (s.h.r : Int), .int .i64 (s.h.f : Int), .int .i64 (s.h.t : Int), .bool s.h.al] 69, X (pre ++ (([s.tk], (⟨5, s.h.f, s.h.t⟩ : Tk), []) : List Tk × Tk × List Tk).1 ++ [(([s.tk], (⟨5, s.h.f, s.h.t⟩ : Tk), []) : List Tk × Tk × List Tk).2.1])]
      exact TX.finE (rs := [.tmp 4]) (As := [cells b (scV s) 69, X (pre ++ (([s.tk], (⟨5, s.h.f, s.h.t⟩ : Tk), []) : List Tk × Tk × List Tk).1 ++ [(([s.tk], (⟨5, s.h.f, s.h.t⟩ : Tk), []) : List Tk × Tk × List Tk).2.1])]) (p := ended s = (([s.tk], (⟨5, s.h.f, s.h.t⟩ : Tk), []) : List Tk × Tk × List Tk).1 ++ (([s.tk], (⟨5, s.h.f, s.h.t⟩ : Tk), []) : List Tk × Tk × List Tk).2.1 :: (([s.tk], (⟨5, s.h.f, s.h.t⟩ : Tk), []) : List Tk × Tk × List Tk).2.2) (some (([s.tk], (⟨5, s.h.f, s.h.t⟩ : Tk), []) : List Tk × Tk × List Tk)) (.inl rfl) Try.results49 (.cons (.tmp rfl) .nil) rfl (Splits.of [0, 1] (by as_aux_lemma => kernel_rfl) rfl) (by rw [hen]; rfl)
    ·
     -- no
     refine TO.move rfl (by decide) rfl (TO.skip rfl (by decide) (TO.skip rfl (by decide) (TO.skip rfl (by decide) (TO.skip rfl (by decide) (TO.skip rfl (by decide) (TO.skip rfl (by decide) (TO.skip rfl (by decide) (TO.skip rfl (by decide) (TO.pick (b := false) rfl (by decide) rfl rfl (TO.assign rfl (by decide) rfl (TO.nil (TX.next (TC.ret ?_)))))))))))))
     refine TX.blockRet (TX.thenRet (TX.rewE (k := 1) rfl (show X (pre ++ [s.tk]) = X (pre ++ (([], s.tk, [(⟨5, s.h.f, s.h.t⟩ : Tk)]) : List Tk × Tk × List Tk).1 ++ [(([], s.tk, [(⟨5, s.h.f, s.h.t⟩ : Tk)]) : List Tk × Tk × List Tk).2.1]) from (by simp)) ?_))
     show TX _ _ _ _ _ _ _ [cells b [.int .i64 s.st, .int .i64 s.tk.k, .int .i64 (s.tk.f : Int), .int .i64 (s.tk.t : Int), .int .i64 s.h.k, .int .i32 (s.h.r : Int), .int .i64 (s.h.f : Int), .int .i64 (s.h.t : Int), .bool s.h.al] 69, X (pre ++ (([], s.tk, [(⟨5, s.h.f, s.h.t⟩ : Tk)]) : List Tk × Tk × List Tk).1 ++ [(([], s.tk, [(⟨5, s.h.f, s.h.t⟩ : Tk)]) : List Tk × Tk × List Tk).2.1])]
     exact TX.finE (rs := [.tmp 4]) (As := [cells b (scV s) 69, X (pre ++ (([], s.tk, [(⟨5, s.h.f, s.h.t⟩ : Tk)]) : List Tk × Tk × List Tk).1 ++ [(([], s.tk, [(⟨5, s.h.f, s.h.t⟩ : Tk)]) : List Tk × Tk × List Tk).2.1])]) (p := ended s = (([], s.tk, [(⟨5, s.h.f, s.h.t⟩ : Tk)]) : List Tk × Tk × List Tk).1 ++ (([], s.tk, [(⟨5, s.h.f, s.h.t⟩ : Tk)]) : List Tk × Tk × List Tk).2.1 :: (([], s.tk, [(⟨5, s.h.f, s.h.t⟩ : Tk)]) : List Tk × Tk × List Tk).2.2) (some (([], s.tk, [(⟨5, s.h.f, s.h.t⟩ : Tk)]) : List Tk × Tk × List Tk)) (.inl rfl) Try.results49 (.cons (.tmp rfl) .nil) rfl (Splits.of [0, 1] (by as_aux_lemma => kernel_rfl) rfl) (by rw [hen]; rfl)
   ·
    -- no
    have h4 := beq_eq_false_iff_ne.1 h4
    refine TC.skip (TX.blockNormal (TX.next (TC.seq ?_)))
    have hen : ended s = [s.tk] := by unfold ended; simp_all
    refine TC.region (TO.move rfl (by decide) rfl (TO.move rfl (by decide) rfl (TO.nilCheck rfl (by decide) rfl (TO.fieldAddr fl_69_1 rfl (by decide) rfl (show _ = 1 from rfl) (TO.loads (k := 0) (cs := [.int .i64 s.tk.k, .int .i64 (s.tk.f : Int), .int .i64 (s.tk.t : Int)]) rw_36 rfl (by decide) rfl rfl rfl rfl ?_)))))
    refine TO.yield hy rfl (by decide) rfl (pre := pre) (e := s.tk) (post := post) (by rw [hz, hen]; simp) rfl (k := 1) rfl ?_ ?_
    ·
     -- yes
     refine TO.assign rfl (by decide) rfl (TO.nil (TX.next (TC.ret (TX.rewE (k := 1) rfl (show I (pre ++ [s.tk]) = I (pre ++ ended s) from (by simp [hen])) ?_))))
     show TX _ _ _ _ _ _ _ [cells b [.int .i64 s.st, .int .i64 s.tk.k, .int .i64 (s.tk.f : Int), .int .i64 (s.tk.t : Int), .int .i64 s.h.k, .int .i32 (s.h.r : Int), .int .i64 (s.h.f : Int), .int .i64 (s.h.t : Int), .bool s.h.al] 69, I (pre ++ ended s)]
     exact TX.fin (rs := [.tmp 4]) (none : Option (List Tk × Tk × List Tk)) (.inl rfl) Try.results49 (.cons (.tmp rfl) .nil) rfl (Splits.of [0, 1] (by as_aux_lemma => kernel_rfl) rfl)
    ·
     -- no
     refine TO.assign rfl (by decide) rfl (TO.nil (TX.next (TC.ret (TX.rewE (k := 1) rfl (show X (pre ++ [s.tk]) = X (pre ++ (([], s.tk, []) : List Tk × Tk × List Tk).1 ++ [(([], s.tk, []) : List Tk × Tk × List Tk).2.1]) from (by simp)) ?_))))
     show TX _ _ _ _ _ _ _ [cells b [.int .i64 s.st, .int .i64 s.tk.k, .int .i64 (s.tk.f : Int), .int .i64 (s.tk.t : Int), .int .i64 s.h.k, .int .i32 (s.h.r : Int), .int .i64 (s.h.f : Int), .int .i64 (s.h.t : Int), .bool s.h.al] 69, X (pre ++ (([], s.tk, []) : List Tk × Tk × List Tk).1 ++ [(([], s.tk, []) : List Tk × Tk × List Tk).2.1])]
     exact TX.finE (rs := [.tmp 4]) (As := [cells b (scV s) 69, X (pre ++ (([], s.tk, []) : List Tk × Tk × List Tk).1 ++ [(([], s.tk, []) : List Tk × Tk × List Tk).2.1])]) (p := ended s = (([], s.tk, []) : List Tk × Tk × List Tk).1 ++ (([], s.tk, []) : List Tk × Tk × List Tk).2.1 :: (([], s.tk, []) : List Tk × Tk × List Tk).2.2) (some (([], s.tk, []) : List Tk × Tk × List Tk)) (.inl rfl) Try.results49 (.cons (.tmp rfl) .nil) rfl (Splits.of [0, 1] (by as_aux_lemma => kernel_rfl) rfl) (by rw [hen]; rfl)
end Go.Proofs.Ytgeefojgkbglnaa
namespace Go.Proofs.Ytgeefojgkbglnaa
open Go.RowKit Go.Lib
set_option linter.unusedVariables false
set_option linter.unusedSimpArgs false
theorem TO.fact {F : Fence} {P : Program} {w0 : World} {K : Nat → Prop} {N : Nat} {dfs : List Deferred} {ops : Array Oper} {Q : Exit → Act → World → Prop} {rest : List Oper} {σ : List (Nat × Value)} {L : List Asn} {k : Nat} {p : Prop}
    (hk : L[k]? = some (Go.Proofs.Ytgeefojgkbglnaa.fact p)) (h : p → TO F P w0 K N dfs ops Q rest σ L) : TO F P w0 K N dfs ops Q rest σ L := fun a w ha hw => by
  obtain ⟨C1, _, h2, _⟩ := hw.focus' hk
  exact h h2.2 a w ha hw
theorem fitted_zero (s : Sc) (u : Un) (h2 : (fits s.st u).2 ≠ 2) (h1 : (fits s.st u).2 ≠ 1) : fitted s u = s := by
  have h3 : (fits s.st u).1 = s.st := by
    revert h2 h1
    unfold fits
    repeat' split
    all_goals simp_all
  unfold fitted
  rw [if_neg h2, h3]
set_option maxRecDepth 100000 in
set_option maxHeartbeats 4000000 in
theorem scan1_itr (s : ByteArray) (hs : s.size ≤ 4611686018427387904) (Bs : Nat) : Itr Try.prog 46 [.pointer (some ⟨Bs, 0, none⟩)] tkA (scan (units (pcs s.data.toList))) [(Bs, .cells #[.string s] 9 (0, 0))] := by
 refine Itr.intro Try.func46 rfl Try.ntmps46 (by simp) ?_
 intro l w0 K I X hRo hy
 refine TC.seq (TC.region ?_)
 refine TO.box rfl (by decide) rfl (fun b1 => ?_)
 refine TO.nil (TX.next (TC.seq (TC.region ?_)))
 refine TO.alloc zr_69 rfl (by decide) (fun b2 => ?_)
 refine TO.nil (TX.next (TC.seq (TC.seq (TC.region (TO.loadRo (i := 0) hRo sc_9 rfl (by decide) rfl rfl rfl (TO.call (vs := [.string s]) rfl (by decide) rfl rfl rfl en_47 (units_fn s) Splits.nil ?_))))))
 rintro bp
 show TO _ _ _ _ _ _ _ _ _ _ [I [], cells b1 [.func (.yield l) #[] #[]] 65, cells b2 [.int .i64 0, .int .i64 0, .int .i64 0, .int .i64 0, .int .i64 0, .int .i32 0, .int .i64 0, .int .i64 0, .bool false] 69, cells bp [.string s] 9]
 refine TO.nil (TX.next (TC.block ?_))
 refine TC.range (α := Un) (β := List Tk × Sc) (γ := List Tk × Tk × List Tk) (δ := Nat) (ps := [7]) hRo rfl en_62 (units1_itr s (by omega) bp) (fun pre b => mfold pre = b) (fun pre b => [cells b1 [.func (.yield l) #[] #[]] 65, cells b2 [.int .i64 b.2.st, .int .i64 b.2.tk.k, .int .i64 (b.2.tk.f : Int), .int .i64 (b.2.tk.t : Int), .int .i64 b.2.h.k, .int .i32 (b.2.h.r : Int), .int .i64 (b.2.h.f : Int), .int .i64 (b.2.h.t : Int), .bool b.2.h.al] 69, I b.1]) (fun c pre g => c = .ret ∧ scan (units (pcs s.data.toList)) = g.1 ++ g.2.1 :: g.2.2) (fun c pre g => [X (g.1 ++ [g.2.1])]) (fun pre x b j => [(2, .pointer (some ⟨b1, 0, none⟩)), (3, .pointer (some ⟨b2, 0, none⟩)), (4, .pointer (some ⟨j, 0, none⟩))]) (fun pre x b j => [cells b1 [.func (.yield l) #[] #[]] 65, cells b2 [.int .i64 b.2.st, .int .i64 b.2.tk.k, .int .i64 (b.2.tk.f : Int), .int .i64 (b.2.tk.t : Int), .int .i64 b.2.h.k, .int .i32 (b.2.h.r : Int), .int .i64 (b.2.h.f : Int), .int .i64 (b.2.h.t : Int), .bool b.2.h.al] 69, I b.1, cells j [.int .i64 x.k, .int .i32 (x.r : Int), .int .i64 (x.f : Int), .int .i64 (x.t : Int), .bool x.al] 67]) ([], sc0) rfl (Splits.of [1, 2, 0] (by as_aux_lemma => kernel_rfl) rfl) ⟨.inl ⟨3, rfl⟩, trivial⟩ (fun _ => rfl) (by decide) ?_ ?_ ?_ ?_
 ·
  rintro lp rc pre x post b w1 K1 hxs hext hro hinv
  refine TC.region ?_
  refine TO.alloc zr_67 rfl (by decide) (fun b3 => ?_)
  refine TO.stores (k := 3) (vs := [.int .i64 x.k, .int .i32 (x.r : Int), .int .i64 (x.f : Int), .int .i64 (x.t : Int), .bool x.al]) (l' := [.int .i64 x.k, .int .i32 (x.r : Int), .int .i64 (x.f : Int), .int .i64 (x.t : Int), .bool x.al]) sz_67 rfl rfl rfl rfl rfl (show _ ≤ _ by simp) rfl rfl ?_
  show TO _ _ _ _ _ _ _ _ _ _ [cells b1 [.func (.yield l) #[] #[]] 65, cells b2 [.int .i64 b.2.st, .int .i64 b.2.tk.k, .int .i64 (b.2.tk.f : Int), .int .i64 (b.2.tk.t : Int), .int .i64 b.2.h.k, .int .i32 (b.2.h.r : Int), .int .i64 (b.2.h.f : Int), .int .i64 (b.2.h.t : Int), .bool b.2.h.al] 69, I b.1, cells b3 [.int .i64 x.k, .int .i32 (x.r : Int), .int .i64 (x.f : Int), .int .i64 (x.t : Int), .bool x.al] 67]
  refine TO.nil ?_
  exact fun a w ha hw => ⟨b3, (Sbs.cons rfl (Sbs.cons rfl (Sbs.cons rfl (Sbs.nil)))) _ _ _ ha, hw.weaken (Splits.of [0, 1, 2, 3] (by as_aux_lemma => kernel_rfl) rfl)⟩
 ·
  rintro lp rc pre x post b j w1 K1 hxs hext hro hinv
  obtain ⟨E, sc⟩ := b
  have hinv : mfold pre = (E, sc) := hinv
  have hsn := mfold_snoc pre x
  rw [hinv] at hsn
  show TC _ _ _ _ _ _ _ _ _ [cells b1 [.func (.yield l) #[] #[]] 65, cells b2 [.int .i64 sc.st, .int .i64 sc.tk.k, .int .i64 (sc.tk.f : Int), .int .i64 (sc.tk.t : Int), .int .i64 sc.h.k, .int .i32 (sc.h.r : Int), .int .i64 (sc.h.f : Int), .int .i64 (sc.h.t : Int), .bool sc.h.al] 69, I E, cells j [.int .i64 x.k, .int .i32 (x.r : Int), .int .i64 (x.f : Int), .int .i64 (x.t : Int), .bool x.al] 67]
  by_cases h2 : (fits sc.st x).2 = 2
  ·
   refine TC.block ?_
   refine TC.scope (β := Unit) (l := 0) (fun _ => False) (fun _ => [(2, .pointer (some ⟨b1, 0, none⟩)), (3, .pointer (some ⟨b2, 0, none⟩)), (4, .pointer (some ⟨j, 0, none⟩))]) (fun _ => [cells b1 [.func (.yield l) #[] #[]] 65, cells b2 [.int .i64 ((fitted sc x).st), .int .i64 ((fitted sc x).tk.k), .int .i64 ((fitted sc x).tk.f : Int), .int .i64 ((fitted sc x).tk.t : Int), .int .i64 ((fitted sc x).h.k), .int .i32 ((fitted sc x).h.r : Int), .int .i64 ((fitted sc x).h.f : Int), .int .i64 ((fitted sc x).h.t : Int), .bool ((fitted sc x).h.al)] 69, I E, cells j [.int .i64 x.k, .int .i32 (x.r : Int), .int .i64 (x.f : Int), .int .i64 (x.t : Int), .bool x.al] 67]) rfl ?_ ?_
   ·
    refine TC.seq (TC.seq (TC.region (TO.loads (k := 3) (cs := [.int .i64 x.k, .int .i32 (x.r : Int), .int .i64 (x.f : Int), .int .i64 (x.t : Int), .bool x.al]) rw_67 rfl (by decide) rfl rfl rfl rfl (TO.call (vs := [.pointer (some ⟨b2, 0, none⟩), .agg #[.int .i64 x.k, .int .i32 (x.r : Int), .int .i64 (x.f : Int), .int .i64 (x.t : Int), .bool x.al]]) rfl (by decide) rfl rfl rfl en_48 (fits_fn b2 sc x) (Splits.of [1] (by as_aux_lemma => kernel_rfl) rfl) ?_))))
    rintro ⟨⟩
    show TO _ _ _ _ _ _ _ _ _ _ [cells b1 [.func (.yield l) #[] #[]] 65, emp, I E, cells j [.int .i64 x.k, .int .i32 (x.r : Int), .int .i64 (x.f : Int), .int .i64 (x.t : Int), .bool x.al] 67, cells b2 [.int .i64 ((fitted sc x).st), .int .i64 ((fitted sc x).tk.k), .int .i64 ((fitted sc x).tk.f : Int), .int .i64 ((fitted sc x).tk.t : Int), .int .i64 ((fitted sc x).h.k), .int .i32 ((fitted sc x).h.r : Int), .int .i64 ((fitted sc x).h.f : Int), .int .i64 ((fitted sc x).h.t : Int), .bool ((fitted sc x).h.al)] 69]
    refine TO.nil (TX.next (TC.block (TC.seq (TC.region (TO.bin rfl (by decide) rfl rfl (bin_known (congrArg Value.bool (show ((((fits sc.st x).2) : Int) == 2) = true from (beq_iff_eq.2 h2))) bin_eql) (TO.assign rfl (by decide) rfl (TO.nil (TX.next (TC.condT rfl (TC.exit (TX.blockOn (by decide) (TX.thenExit (TX.jumpOn (by simp) ?_)))))))))))))
    refine TX.blockHere ?_
    exact TX.round (E, fitted sc x) (by show mfold (pre ++ [x]) = _; rw [hsn]; simp only [mstep, fitted]; rw [if_pos h2, if_pos h2]) (Splits.of [0, 4, 2] (by as_aux_lemma => kernel_rfl) rfl)
   ·
    rintro ⟨⟩ hI
    show TC _ _ _ _ _ _ _ _ _ [cells b1 [.func (.yield l) #[] #[]] 65, cells b2 [.int .i64 ((fitted sc x).st), .int .i64 ((fitted sc x).tk.k), .int .i64 ((fitted sc x).tk.f : Int), .int .i64 ((fitted sc x).tk.t : Int), .int .i64 ((fitted sc x).h.k), .int .i32 ((fitted sc x).h.r : Int), .int .i64 ((fitted sc x).h.f : Int), .int .i64 ((fitted sc x).h.t : Int), .bool ((fitted sc x).h.al)] 69, I E, cells j [.int .i64 x.k, .int .i32 (x.r : Int), .int .i64 (x.f : Int), .int .i64 (x.t : Int), .bool x.al] 67]
    exact hI.elim
  ·
   by_cases h1 : (fits sc.st x).2 = 1
   ·
    refine TC.block ?_
    refine TC.scope (β := Unit) (l := 0) (fun _ => True) (fun _ => [(2, .pointer (some ⟨b1, 0, none⟩)), (3, .pointer (some ⟨b2, 0, none⟩)), (4, .pointer (some ⟨j, 0, none⟩))]) (fun _ => [cells b1 [.func (.yield l) #[] #[]] 65, cells b2 [.int .i64 ((fitted sc x).st), .int .i64 ((fitted sc x).tk.k), .int .i64 ((fitted sc x).tk.f : Int), .int .i64 ((fitted sc x).tk.t : Int), .int .i64 ((fitted sc x).h.k), .int .i32 ((fitted sc x).h.r : Int), .int .i64 ((fitted sc x).h.f : Int), .int .i64 ((fitted sc x).h.t : Int), .bool ((fitted sc x).h.al)] 69, I E, cells j [.int .i64 x.k, .int .i32 (x.r : Int), .int .i64 (x.f : Int), .int .i64 (x.t : Int), .bool x.al] 67]) rfl ?_ ?_
    ·
     refine TC.seq (TC.seq (TC.region (TO.loads (k := 3) (cs := [.int .i64 x.k, .int .i32 (x.r : Int), .int .i64 (x.f : Int), .int .i64 (x.t : Int), .bool x.al]) rw_67 rfl (by decide) rfl rfl rfl rfl (TO.call (vs := [.pointer (some ⟨b2, 0, none⟩), .agg #[.int .i64 x.k, .int .i32 (x.r : Int), .int .i64 (x.f : Int), .int .i64 (x.t : Int), .bool x.al]]) rfl (by decide) rfl rfl rfl en_48 (fits_fn b2 sc x) (Splits.of [1] (by as_aux_lemma => kernel_rfl) rfl) ?_))))
     rintro ⟨⟩
     show TO _ _ _ _ _ _ _ _ _ _ [cells b1 [.func (.yield l) #[] #[]] 65, emp, I E, cells j [.int .i64 x.k, .int .i32 (x.r : Int), .int .i64 (x.f : Int), .int .i64 (x.t : Int), .bool x.al] 67, cells b2 [.int .i64 ((fitted sc x).st), .int .i64 ((fitted sc x).tk.k), .int .i64 ((fitted sc x).tk.f : Int), .int .i64 ((fitted sc x).tk.t : Int), .int .i64 ((fitted sc x).h.k), .int .i32 ((fitted sc x).h.r : Int), .int .i64 ((fitted sc x).h.f : Int), .int .i64 ((fitted sc x).h.t : Int), .bool ((fitted sc x).h.al)] 69]
     refine TO.nil (TX.next (TC.block (TC.seq (TC.region (TO.bin rfl (by decide) rfl rfl (bin_known (congrArg Value.bool (show ((((fits sc.st x).2) : Int) == 2) = false from (beq_eq_false_iff_ne.2 h2))) bin_eql) (TO.assign rfl (by decide) rfl (TO.nil (TX.next (TC.condF rfl (TC.seq (TC.region (TO.bin rfl (by decide) rfl rfl (bin_known (congrArg Value.bool (show ((((fits sc.st x).2) : Int) == 1) = true from (beq_iff_eq.2 h1))) bin_eql) (TO.assign rfl (by decide) rfl ?_)))))))))))))
     refine TO.nil (TX.next (TC.condT rfl (TC.goto (TX.blockGoto (TX.thenGoto ?_)))))
     exact TX.jump () trivial (Sbs.cons rfl (Sbs.cons rfl (Sbs.cons rfl (Sbs.nil)))) (Splits.of [0, 4, 2, 3] (by as_aux_lemma => kernel_rfl) rfl)
    ·
     rintro ⟨⟩ hI
     show TC _ _ _ _ _ _ _ _ _ [cells b1 [.func (.yield l) #[] #[]] 65, cells b2 [.int .i64 ((fitted sc x).st), .int .i64 ((fitted sc x).tk.k), .int .i64 ((fitted sc x).tk.f : Int), .int .i64 ((fitted sc x).tk.t : Int), .int .i64 ((fitted sc x).h.k), .int .i32 ((fitted sc x).h.r : Int), .int .i64 ((fitted sc x).h.f : Int), .int .i64 ((fitted sc x).h.t : Int), .bool ((fitted sc x).h.al)] 69, I E, cells j [.int .i64 x.k, .int .i32 (x.r : Int), .int .i64 (x.f : Int), .int .i64 (x.t : Int), .bool x.al] 67]
     refine TC.seq (TC.skip (TX.next (TC.region (TO.fieldAddr fl_67_2 rfl (by decide) rfl (show _ = 2 from rfl) (TO.fieldAddr fl_34_1 rfl (by decide) rfl (show _ = 3 from rfl) (TO.load (k := 3) sc_3 rfl (by decide) rfl rfl rfl (TO.fieldAddr fl_69_1 rfl (by decide) rfl (show _ = 1 from rfl) (TO.fieldAddr fl_36_1 rfl (by decide) rfl (show _ = 2 from rfl) (TO.fieldAddr fl_34_1 rfl (by decide) rfl (show _ = 3 from rfl) ?_)))))))))
     refine TO.store (k := 1) (l' := [.int .i64 ((fitted sc x).st), .int .i64 ((fitted sc x).tk.k), .int .i64 ((fitted sc x).tk.f : Int), .int .i64 (x.t : Int), .int .i64 ((fitted sc x).h.k), .int .i32 ((fitted sc x).h.r : Int), .int .i64 ((fitted sc x).h.f : Int), .int .i64 ((fitted sc x).h.t : Int), .bool ((fitted sc x).h.al)]) sz_3 rfl rfl rfl rfl rfl (fun _ _ => rfl) rfl ?_
     refine TO.nil (TX.noGoto (by simp) (TX.blockNormal ?_))
     exact TX.round (E, ⟨(fits sc.st x).1, ⟨sc.tk.k, sc.tk.f, x.t⟩, (fitted sc x).h⟩) (by show mfold (pre ++ [x]) = _; rw [hsn]; simp only [mstep, fitted]; rw [if_neg h2, if_pos h1, if_neg h2]) (Splits.of [0, 1, 2] (by as_aux_lemma => kernel_rfl) rfl)
   ·
    refine TC.block ?_
    refine TC.scope (β := Unit) (l := 0) (fun _ => False) (fun _ => [(2, .pointer (some ⟨b1, 0, none⟩)), (3, .pointer (some ⟨b2, 0, none⟩)), (4, .pointer (some ⟨j, 0, none⟩))]) (fun _ => [cells b1 [.func (.yield l) #[] #[]] 65, cells b2 [.int .i64 ((fitted sc x).st), .int .i64 ((fitted sc x).tk.k), .int .i64 ((fitted sc x).tk.f : Int), .int .i64 ((fitted sc x).tk.t : Int), .int .i64 ((fitted sc x).h.k), .int .i32 ((fitted sc x).h.r : Int), .int .i64 ((fitted sc x).h.f : Int), .int .i64 ((fitted sc x).h.t : Int), .bool ((fitted sc x).h.al)] 69, I E, cells j [.int .i64 x.k, .int .i32 (x.r : Int), .int .i64 (x.f : Int), .int .i64 (x.t : Int), .bool x.al] 67]) rfl ?_ ?_
    ·
     refine TC.seq (TC.seq (TC.region (TO.loads (k := 3) (cs := [.int .i64 x.k, .int .i32 (x.r : Int), .int .i64 (x.f : Int), .int .i64 (x.t : Int), .bool x.al]) rw_67 rfl (by decide) rfl rfl rfl rfl (TO.call (vs := [.pointer (some ⟨b2, 0, none⟩), .agg #[.int .i64 x.k, .int .i32 (x.r : Int), .int .i64 (x.f : Int), .int .i64 (x.t : Int), .bool x.al]]) rfl (by decide) rfl rfl rfl en_48 (fits_fn b2 sc x) (Splits.of [1] (by as_aux_lemma => kernel_rfl) rfl) ?_))))
     rintro ⟨⟩
     show TO _ _ _ _ _ _ _ _ _ _ [cells b1 [.func (.yield l) #[] #[]] 65, emp, I E, cells j [.int .i64 x.k, .int .i32 (x.r : Int), .int .i64 (x.f : Int), .int .i64 (x.t : Int), .bool x.al] 67, cells b2 [.int .i64 ((fitted sc x).st), .int .i64 ((fitted sc x).tk.k), .int .i64 ((fitted sc x).tk.f : Int), .int .i64 ((fitted sc x).tk.t : Int), .int .i64 ((fitted sc x).h.k), .int .i32 ((fitted sc x).h.r : Int), .int .i64 ((fitted sc x).h.f : Int), .int .i64 ((fitted sc x).h.t : Int), .bool ((fitted sc x).h.al)] 69]
     refine TO.nil (TX.next (TC.block (TC.seq (TC.region (TO.bin rfl (by decide) rfl rfl (bin_known (congrArg Value.bool (show ((((fits sc.st x).2) : Int) == 2) = false from (beq_eq_false_iff_ne.2 h2))) bin_eql) (TO.assign rfl (by decide) rfl (TO.nil (TX.next (TC.condF rfl (TC.seq (TC.region (TO.bin rfl (by decide) rfl rfl (bin_known (congrArg Value.bool (show ((((fits sc.st x).2) : Int) == 1) = false from (beq_eq_false_iff_ne.2 h1))) bin_eql) (TO.assign rfl (by decide) rfl ?_)))))))))))))
     refine TO.nil (TX.next (TC.condF rfl (TC.skip (TX.blockNormal (TX.next (TC.seq (TC.seq (TC.region (TO.load (k := 0) sc_65 rfl (by decide) rfl rfl rfl ?_)))))))))
     refine TO.rewE (k := 4) rfl (show cells b2 [.int .i64 ((fitted sc x).st), .int .i64 ((fitted sc x).tk.k), .int .i64 ((fitted sc x).tk.f : Int), .int .i64 ((fitted sc x).tk.t : Int), .int .i64 ((fitted sc x).h.k), .int .i32 ((fitted sc x).h.r : Int), .int .i64 ((fitted sc x).h.f : Int), .int .i64 ((fitted sc x).h.t : Int), .bool ((fitted sc x).h.al)] 69 = cells b2 [.int .i64 sc.st, .int .i64 sc.tk.k, .int .i64 (sc.tk.f : Int), .int .i64 (sc.tk.t : Int), .int .i64 sc.h.k, .int .i32 (sc.h.r : Int), .int .i64 (sc.h.f : Int), .int .i64 (sc.h.t : Int), .bool sc.h.al] 69 from (congrArg (fun z => cells b2 (scV z) 69) (fitted_zero sc x h2 h1))) ?_
     show TO _ _ _ _ _ _ _ _ _ _ [cells b1 [.func (.yield l) #[] #[]] 65, emp, I E, cells j [.int .i64 x.k, .int .i32 (x.r : Int), .int .i64 (x.f : Int), .int .i64 (x.t : Int), .bool x.al] 67, cells b2 [.int .i64 sc.st, .int .i64 sc.tk.k, .int .i64 (sc.tk.f : Int), .int .i64 (sc.tk.t : Int), .int .i64 sc.h.k, .int .i32 (sc.h.r : Int), .int .i64 (sc.h.f : Int), .int .i64 (sc.h.t : Int), .bool sc.h.al] 69]
     obtain ⟨q, hq⟩ := scan_at pre post x (by rw [hinv]; exact ⟨h2, h1⟩)
     rw [hinv, ← hxs] at hq
     refine TO.callW (vs := [.pointer (some ⟨b2, 0, none⟩), .func (.yield l) #[] #[]]) rfl (by decide) rfl rfl rfl en_49 (fun w C hx => end_w (hy.later (hext.trans hx)) b2 sc E q hq) (Splits.of [4, 2] (by as_aux_lemma => kernel_rfl) rfl) ?_
     rintro (_ | g)
     ·
      -- yes
      show TO _ _ _ _ _ _ _ _ _ _ [cells b1 [.func (.yield l) #[] #[]] 65, emp, emp, cells j [.int .i64 x.k, .int .i32 (x.r : Int), .int .i64 (x.f : Int), .int .i64 (x.t : Int), .bool x.al] 67, emp, cells b2 [.int .i64 sc.st, .int .i64 sc.tk.k, .int .i64 (sc.tk.f : Int), .int .i64 (sc.tk.t : Int), .int .i64 sc.h.k, .int .i32 (sc.h.r : Int), .int .i64 (sc.h.f : Int), .int .i64 (sc.h.t : Int), .bool sc.h.al] 69, I (E ++ ended sc)]
      refine TO.un rfl (by decide) rfl un_not (TO.nil (TX.next (TC.condF rfl (TC.skip (TX.next (TC.seq (TC.region (TO.loads (k := 3) (cs := [.int .i64 x.k, .int .i32 (x.r : Int), .int .i64 (x.f : Int), .int .i64 (x.t : Int), .bool x.al]) rw_67 rfl (by decide) rfl rfl rfl rfl (TO.call (vs := [.pointer (some ⟨b2, 0, none⟩), .agg #[.int .i64 x.k, .int .i32 (x.r : Int), .int .i64 (x.f : Int), .int .i64 (x.t : Int), .bool x.al]]) rfl (by decide) rfl rfl rfl en_50 (begin_fn b2 sc x) (Splits.of [5] (by as_aux_lemma => kernel_rfl) rfl) ?_)))))))))
      rintro ⟨⟩
      show TO _ _ _ _ _ _ _ _ _ _ [cells b1 [.func (.yield l) #[] #[]] 65, emp, emp, cells j [.int .i64 x.k, .int .i32 (x.r : Int), .int .i64 (x.f : Int), .int .i64 (x.t : Int), .bool x.al] 67, emp, emp, I (E ++ ended sc), cells b2 [.int .i64 ((began sc x).st), .int .i64 ((began sc x).tk.k), .int .i64 ((began sc x).tk.f : Int), .int .i64 ((began sc x).tk.t : Int), .int .i64 ((began sc x).h.k), .int .i32 ((began sc x).h.r : Int), .int .i64 ((began sc x).h.f : Int), .int .i64 ((began sc x).h.t : Int), .bool ((began sc x).h.al)] 69]
      refine TO.nil (TX.next (TC.seq (TC.exit (TX.thenExit (TX.jumpOn (by simp) (TX.blockHere ?_))))))
      exact TX.round (E ++ ended sc, began sc x) (by show mfold (pre ++ [x]) = _; rw [hsn, mstep_begin (E, sc) x h2 h1]) (Splits.of [0, 7, 6] (by as_aux_lemma => kernel_rfl) rfl)
     ·
      -- no
      show TO _ _ _ _ _ _ _ _ _ _ [cells b1 [.func (.yield l) #[] #[]] 65, emp, emp, cells j [.int .i64 x.k, .int .i32 (x.r : Int), .int .i64 (x.f : Int), .int .i64 (x.t : Int), .bool x.al] 67, emp, cells b2 [.int .i64 sc.st, .int .i64 sc.tk.k, .int .i64 (sc.tk.f : Int), .int .i64 (sc.tk.t : Int), .int .i64 sc.h.k, .int .i32 (sc.h.r : Int), .int .i64 (sc.h.f : Int), .int .i64 (sc.h.t : Int), .bool sc.h.al] 69, X (E ++ g.1 ++ [g.2.1]), fact (ended sc = g.1 ++ g.2.1 :: g.2.2)]
      refine TO.fact (k := 7) rfl (fun hg => ?_)
      refine TO.un rfl (by decide) rfl un_not (TO.nil (TX.next (TC.condT rfl (TC.ret (TX.thenRet (TX.jumpOn (by simp) (TX.blockRet ?_)))))))
      exact TX.roundRet (E ++ g.1, g.2.1, g.2.2 ++ q) ⟨rfl, by rw [hq, hg]; simp⟩ (Splits.of [6] (by as_aux_lemma => kernel_rfl) rfl)
    ·
     rintro ⟨⟩ hI
     show TC _ _ _ _ _ _ _ _ _ [cells b1 [.func (.yield l) #[] #[]] 65, cells b2 [.int .i64 ((fitted sc x).st), .int .i64 ((fitted sc x).tk.k), .int .i64 ((fitted sc x).tk.f : Int), .int .i64 ((fitted sc x).tk.t : Int), .int .i64 ((fitted sc x).h.k), .int .i32 ((fitted sc x).h.r : Int), .int .i64 ((fitted sc x).h.f : Int), .int .i64 ((fitted sc x).h.t : Int), .bool ((fitted sc x).h.al)] 69, I E, cells j [.int .i64 x.k, .int .i32 (x.r : Int), .int .i64 (x.f : Int), .int .i64 (x.t : Int), .bool x.al] 67]
     exact hI.elim
 ·
  rintro d b hinv
  show TX _ _ _ _ _ _ _ [emp, emp, emp, cells bp [.string s] 9, cells b1 [.func (.yield l) #[] #[]] 65, cells b2 [.int .i64 b.2.st, .int .i64 b.2.tk.k, .int .i64 (b.2.tk.f : Int), .int .i64 (b.2.tk.t : Int), .int .i64 b.2.h.k, .int .i32 (b.2.h.r : Int), .int .i64 (b.2.h.f : Int), .int .i64 (b.2.h.t : Int), .bool b.2.h.al] 69, I b.1, mark d]
  obtain ⟨E, sc⟩ := b
  have hinv : mfold (units (pcs s.data.toList)) = (E, sc) := hinv
  show TX _ _ _ _ _ _ _ [emp, emp, emp, cells bp [.string s] 9, cells b1 [.func (.yield l) #[] #[]] 65, cells b2 [.int .i64 sc.st, .int .i64 sc.tk.k, .int .i64 (sc.tk.f : Int), .int .i64 (sc.tk.t : Int), .int .i64 sc.h.k, .int .i32 (sc.h.r : Int), .int .i64 (sc.h.f : Int), .int .i64 (sc.h.t : Int), .bool sc.h.al] 69, I E, mark d]
  refine TX.blockNormal (TX.next (TC.region (TO.load (k := 4) sc_65 rfl (by decide) rfl rfl rfl ?_)))
  have hq : scan (units (pcs s.data.toList)) = E ++ ended sc ++ [] := by rw [List.append_nil]; unfold scan; rw [hinv]
  refine TO.callW (vs := [.pointer (some ⟨b2, 0, none⟩), .func (.yield l) #[] #[]]) rfl (by decide) rfl rfl rfl en_49 (fun w C hx => end_w (hy.later hx) b2 sc E [] hq) (Splits.of [5, 6] (by as_aux_lemma => kernel_rfl) rfl) ?_
  rintro (_ | g)
  ·
   -- yes
   show TO _ _ _ _ _ _ _ _ _ _ [emp, emp, emp, cells bp [.string s] 9, cells b1 [.func (.yield l) #[] #[]] 65, emp, emp, mark d, cells b2 [.int .i64 sc.st, .int .i64 sc.tk.k, .int .i64 (sc.tk.f : Int), .int .i64 (sc.tk.t : Int), .int .i64 sc.h.k, .int .i32 (sc.h.r : Int), .int .i64 (sc.h.f : Int), .int .i64 (sc.h.t : Int), .bool sc.h.al] 69, I (E ++ ended sc)]
   refine TO.nil ?_
   have he : I (scan (units (pcs s.data.toList))) = I (E ++ ended sc) := by rw [hq, List.append_nil]
   exact TX.finY (ds := [d]) (.inr rfl) (Splits.of [7] (by as_aux_lemma => kernel_rfl) rfl) Try.results46 he (Splits.of [9] (by as_aux_lemma => kernel_rfl) rfl)
  ·
   -- no
   show TO _ _ _ _ _ _ _ _ _ _ [emp, emp, emp, cells bp [.string s] 9, cells b1 [.func (.yield l) #[] #[]] 65, emp, emp, mark d, cells b2 [.int .i64 sc.st, .int .i64 sc.tk.k, .int .i64 (sc.tk.f : Int), .int .i64 (sc.tk.t : Int), .int .i64 sc.h.k, .int .i32 (sc.h.r : Int), .int .i64 (sc.h.f : Int), .int .i64 (sc.h.t : Int), .bool sc.h.al] 69, X (E ++ g.1 ++ [g.2.1]), fact (ended sc = g.1 ++ g.2.1 :: g.2.2)]
   refine TO.fact (k := 10) rfl (fun hg => ?_)
   refine TO.nil ?_
   exact TX.finX (ds := [d]) (E ++ g.1) g.2.1 g.2.2 (by rw [hq, hg]; simp) (.inr rfl) (Splits.of [7] (by as_aux_lemma => kernel_rfl) rfl) Try.results46 (Splits.of [9] (by as_aux_lemma => kernel_rfl) rfl)
 ·
  rintro d c pre x post g hxs hX
  show TC _ _ _ _ _ _ _ _ _ [emp, emp, emp, cells bp [.string s] 9, X (g.1 ++ [g.2.1]), mark d]
  obtain ⟨E, n, q⟩ := g
  obtain ⟨rfl, hq⟩ := hX
  refine TC.ret (TX.blockRet (TX.thenRet ?_))
  exact TX.finX (ds := [d]) E n q hq (.inl rfl) (Splits.of [5] (by as_aux_lemma => kernel_rfl) rfl) Try.results46 (Splits.of [4] (by as_aux_lemma => kernel_rfl) rfl)

theorem scan_fn (s : ByteArray) : Fn Try.prog 15 [.string s] [] (fun b : Nat => .func (.func 46) #[] #[.pointer (some ⟨b, 0, none⟩)]) (fun b => [cells b [.string s] 9]) := by
 refine Fn.intro Try.func15 rfl Try.ntmps15 (by simp) ?_
 intro w0 K
 refine TC.seq (TC.region ?_)
 refine TO.box rfl (by decide) rfl (fun b1 => ?_)
 refine TO.assign rfl (by decide) rfl (TO.nil (TX.next (TC.seq (TC.region (TO.makeFunc (x1 := []) (x2 := [.tmp 1]) rfl (by decide) rfl rfl (TO.assign rfl (by decide) rfl (TO.nil (TX.next (TC.ret ?_)))))))))
 exact TX.fin (rs := [.tmp 2]) b1 (.inl rfl) Try.results15 (.cons (.tmp rfl) .nil) rfl (Splits.of [0] (by as_aux_lemma => kernel_rfl) rfl)
end Go.Proofs.Ytgeefojgkbglnaa
namespace Go.Proofs.Ytgeefojgkbglnaa
open Go.RowKit Go.Lib
set_option linter.unusedVariables false
set_option linter.unusedSimpArgs false
/-- The words' spans. -/
def wds (l : List Tk) : List (Nat × Nat) := l.filterMap fun t => if t.k = 1 then some (t.f, t.t) else none
def spV (p : Nat × Nat) : List Value := [.int .i64 (p.1 : Int), .int .i64 (p.2 : Int)]
def spA (p : Nat × Nat) : List Value := [.agg (spV p).toArray]
set_option maxRecDepth 100000 in
set_option maxHeartbeats 4000000 in
theorem words1_itr (s : ByteArray) (hs : s.size ≤ 4611686018427387904) (Bs : Nat) : Itr Try.prog 51 [.pointer (some ⟨Bs, 0, none⟩)] spA (wds (scan (units (pcs s.data.toList)))) [(Bs, .cells #[.string s] 9 (0, 0))] := by
 refine Itr.intro Try.func51 rfl Try.ntmps51 (by simp) ?_
 intro l w0 K I X hRo hy
 refine TC.seq (TC.region ?_)
 refine TO.box rfl (by decide) rfl (fun b1 => ?_)
 refine TO.nil (TX.next (TC.seq (TC.region (TO.loadRo (i := 0) hRo sc_9 rfl (by decide) rfl rfl rfl (TO.call (vs := [.string s]) rfl (by decide) rfl rfl rfl en_15 (scan_fn s) Splits.nil ?_)))))
 rintro bp
 show TO _ _ _ _ _ _ _ _ _ _ [I [], cells b1 [.func (.yield l) #[] #[]] 76, cells bp [.string s] 9]
 refine TO.nil (TX.next (TC.block ?_))
 refine TC.range (α := Tk) (β := Unit) (γ := List (Nat × Nat) × (Nat × Nat) × List (Nat × Nat)) (δ := Nat) (ps := [6]) hRo rfl en_46 (scan1_itr s (by omega) bp) (fun pre b => True) (fun pre b => [cells b1 [.func (.yield l) #[] #[]] 76, I (wds pre)]) (fun c pre g => c = .ret ∧ wds (scan (units (pcs s.data.toList))) = g.1 ++ g.2.1 :: g.2.2) (fun c pre g => [X (g.1 ++ [g.2.1])]) (fun pre x b j => [(2, .pointer (some ⟨b1, 0, none⟩)), (3, .pointer (some ⟨j, 0, none⟩))]) (fun pre x b j => [cells b1 [.func (.yield l) #[] #[]] 76, I (wds pre), cells j [.int .i64 x.k, .int .i64 (x.f : Int), .int .i64 (x.t : Int)] 36]) () trivial (Splits.of [1, 0] (by as_aux_lemma => kernel_rfl) rfl) ⟨.inl ⟨2, rfl⟩, trivial⟩ (fun _ => rfl) (by decide) ?_ ?_ ?_ ?_
 ·
  rintro lp rc pre x post b w1 K1 hxs hext hro hinv
  refine TC.region ?_
  refine TO.alloc zr_36 rfl (by decide) (fun b2 => ?_)
  refine TO.stores (k := 2) (vs := [.int .i64 x.k, .int .i64 (x.f : Int), .int .i64 (x.t : Int)]) (l' := [.int .i64 x.k, .int .i64 (x.f : Int), .int .i64 (x.t : Int)]) sz_36 rfl rfl rfl rfl rfl (show _ ≤ _ by simp) rfl rfl ?_
  show TO _ _ _ _ _ _ _ _ _ _ [cells b1 [.func (.yield l) #[] #[]] 76, I (wds pre), cells b2 [.int .i64 x.k, .int .i64 (x.f : Int), .int .i64 (x.t : Int)] 36]
  refine TO.nil ?_
  exact fun a w ha hw => ⟨b2, (Sbs.cons rfl (Sbs.cons rfl (Sbs.nil))) _ _ _ ha, hw.weaken (Splits.of [0, 1, 2] (by as_aux_lemma => kernel_rfl) rfl)⟩
 ·
  rintro lp rc pre x post b j w1 K1 hxs hext hro hinv
  by_cases hk : x.k = 1
  ·
   refine TC.block (TC.seq (TC.region (TO.fieldAddr fl_36_0 rfl (by decide) rfl (show _ = 0 from rfl) (TO.load (k := 2) sc_3 rfl (by decide) rfl rfl rfl (TO.bin rfl (by decide) rfl rfl (bin_known (congrArg Value.bool (show ((x.k : Int) == 1) = true from (beq_iff_eq.2 hk))) bin_eql) (TO.move rfl (by decide) rfl (TO.load (k := 0) sc_76 rfl (by decide) rfl rfl rfl (TO.fieldAddr fl_36_1 rfl (by decide) rfl (show _ = 1 from rfl) (TO.loads (k := 2) (cs := [.int .i64 (x.f : Int), .int .i64 (x.t : Int)]) rw_34 rfl (by decide) rfl rfl rfl rfl ?_)))))))))
   have hq : wds (scan (units (pcs s.data.toList))) = wds pre ++ (x.f, x.t) :: wds post := by rw [hxs]; simp [wds, hk]
   refine TO.yield (hy.later hext) rfl (by decide) rfl hq rfl (k := 1) rfl ?_ ?_
   ·
    -- yes
    refine TO.un rfl (by decide) rfl un_not (TO.pick (b := true) rfl (by decide) rfl rfl (TO.nil (TX.next (TC.condF rfl (TC.skip (TX.blockNormal (TX.rewE (k := 1) rfl (show I (wds pre ++ [(x.f, x.t)]) = I (wds (pre ++ [x])) from (by simp [wds, hk])) ?_)))))))
    show TX _ _ _ _ _ _ _ [cells b1 [.func (.yield l) #[] #[]] 76, I (wds (pre ++ [x])), cells j [.int .i64 x.k, .int .i64 (x.f : Int), .int .i64 (x.t : Int)] 36]
    exact TX.round () trivial (Splits.of [0, 1] (by as_aux_lemma => kernel_rfl) rfl)
   ·
    -- no
    refine TO.un rfl (by decide) rfl un_not (TO.pick (b := true) rfl (by decide) rfl rfl (TO.nil (TX.next (TC.condT rfl (TC.ret (TX.blockRet ?_))))))
    exact TX.roundRet (wds pre, (x.f, x.t), wds post) ⟨rfl, hq⟩ (Splits.of [1] (by as_aux_lemma => kernel_rfl) rfl)
  ·
   refine TC.block (TC.seq (TC.region (TO.fieldAddr fl_36_0 rfl (by decide) rfl (show _ = 0 from rfl) (TO.load (k := 2) sc_3 rfl (by decide) rfl rfl rfl (TO.bin rfl (by decide) rfl rfl (bin_known (congrArg Value.bool (show ((x.k : Int) == 1) = false from (beq_eq_false_iff_ne.2 hk))) bin_eql) (TO.move rfl (by decide) rfl (TO.skip rfl (by decide) (TO.skip rfl (by decide) (TO.skip rfl (by decide) (TO.skip rfl (by decide) (TO.skip rfl (by decide) (TO.pick (b := false) rfl (by decide) rfl rfl (TO.nil ?_)))))))))))))
   refine TX.next (TC.condF rfl (TC.skip (TX.blockNormal (TX.rewE (k := 1) rfl (show I (wds pre) = I (wds (pre ++ [x])) from (by simp [wds, hk])) ?_))))
   show TX _ _ _ _ _ _ _ [cells b1 [.func (.yield l) #[] #[]] 76, I (wds (pre ++ [x])), cells j [.int .i64 x.k, .int .i64 (x.f : Int), .int .i64 (x.t : Int)] 36]
   exact TX.round () trivial (Splits.of [0, 1] (by as_aux_lemma => kernel_rfl) rfl)
 ·
  rintro d b hinv
  show TX _ _ _ _ _ _ _ [emp, emp, cells bp [.string s] 9, cells b1 [.func (.yield l) #[] #[]] 76, I (wds (scan (units (pcs s.data.toList)))), mark d]
  refine TX.blockNormal ?_
  exact TX.finY (ds := [d]) (.inr rfl) (Splits.of [5] (by as_aux_lemma => kernel_rfl) rfl) Try.results51 rfl (Splits.of [4] (by as_aux_lemma => kernel_rfl) rfl)
 ·
  rintro d c pre x post g hxs hX
  show TC _ _ _ _ _ _ _ _ _ [emp, emp, cells bp [.string s] 9, X (g.1 ++ [g.2.1]), mark d]
  obtain ⟨E, n, q⟩ := g
  obtain ⟨rfl, hq⟩ := hX
  refine TC.ret (TX.blockRet ?_)
  exact TX.finX (ds := [d]) E n q hq (.inl rfl) (Splits.of [4] (by as_aux_lemma => kernel_rfl) rfl) Try.results51 (Splits.of [3] (by as_aux_lemma => kernel_rfl) rfl)

theorem words_fn (s : ByteArray) : Fn Try.prog 16 [.string s] [] (fun b : Nat => .func (.func 51) #[] #[.pointer (some ⟨b, 0, none⟩)]) (fun b => [cells b [.string s] 9]) := by
 refine Fn.intro Try.func16 rfl Try.ntmps16 (by simp) ?_
 intro w0 K
 refine TC.seq (TC.region ?_)
 refine TO.box rfl (by decide) rfl (fun b1 => ?_)
 refine TO.assign rfl (by decide) rfl (TO.nil (TX.next (TC.seq (TC.region (TO.makeFunc (x1 := []) (x2 := [.tmp 1]) rfl (by decide) rfl rfl (TO.assign rfl (by decide) rfl (TO.nil (TX.next (TC.ret ?_)))))))))
 exact TX.fin (rs := [.tmp 2]) b1 (.inl rfl) Try.results16 (.cons (.tmp rfl) .nil) rfl (Splits.of [0] (by as_aux_lemma => kernel_rfl) rfl)
end Go.Proofs.Ytgeefojgkbglnaa
namespace Go.Proofs.Ytgeefojgkbglnaa
open Go.RowKit Go.Lib
set_option linter.unusedVariables false
set_option linter.unusedSimpArgs false
theorem ended_len (s : Sc) : (ended s).length ≤ 2 := by
  unfold ended; repeat' split
  all_goals simp
theorem mfold_len : ∀ (us : List Un) (S : List Tk × Sc), (us.foldl mstep S).1.length ≤ S.1.length + 2 * us.length
  | [], S => by simp
  | u :: us, S => by
    have h := mfold_len us (mstep S u)
    have h2 : (mstep S u).1.length ≤ S.1.length + 2 := by
      have := ended_len S.2
      unfold mstep; repeat' split
      all_goals simp
      omega
    simp only [List.foldl_cons, List.length_cons]; omega
theorem ufold_len : ∀ (L : List Pc) (S : List Un × Option Un), (uout (L.foldl ustep S)).length ≤ (uout S).length + L.length
  | [], S => by simp
  | p :: L, S => by
    have h := ufold_len L (ustep S p)
    have h2 : (uout (ustep S p)).length ≤ (uout S).length + 1 := by
      obtain ⟨E, o⟩ := S
      rcases o with _ | n
      · simp [ustep, uout]
      · simp only [ustep]; split <;> simp [uout]
    simp only [List.foldl_cons, List.length_cons]; omega
theorem pcs_len (s : ByteArray) : (pcs s.data.toList).length ≤ s.size := by
  rcases List.eq_nil_or_concat (pcs s.data.toList) with h0 | ⟨D, p, h0⟩
  · rw [h0]; simp
  · rw [List.concat_eq_append] at h0
    have h1 := pcs_count _ _ D p [] (Nat.le_refl _) h0
    have h2 := pcs_pos s.data.toList p (by rw [h0]; simp)
    have h3 : p.i + p.w ≤ s.size := by simpa using h2.2.1
    rw [h0, List.length_append]; simp; omega
theorem scan_len (s : ByteArray) : (scan (units (pcs s.data.toList))).length ≤ 2 * s.size + 2 := by
  have h1 := mfold_len (units (pcs s.data.toList)) ([], sc0)
  have h2 := ended_len (mfold (units (pcs s.data.toList))).2
  have h3 := ufold_len (pcs s.data.toList) ([], none)
  have h4 := pcs_len s
  have h5 : (uout (([], none) : List Un × Option Un)).length = 0 := rfl
  have h6 : (units (pcs s.data.toList)).length ≤ s.size := by unfold units ufold; omega
  unfold scan mfold at *
  simp only [List.length_append, List.length_nil] at *
  omega
def nextV : Option (Nat × Nat) → Value
  | some p => .tuple #[.agg (spV p).toArray, .bool true]
  | none => .tuple #[.agg #[.int .i64 0, .int .i64 0], .bool false]
set_option maxRecDepth 100000 in
set_option maxHeartbeats 4000000 in
theorem count_p (s : ByteArray) (hs : s.size ≤ 140737488351232) : FnP Try.prog 17 [.string s] (.tuple #[.int .i64 ((scan (units (pcs s.data.toList))).length : Int), .int .i64 ((wds (scan (units (pcs s.data.toList)))).length : Int)]) := by
 refine FnP.intro Try.func17 rfl Try.ntmps17 (by simp) ?_
 intro w0 K
 refine TC.seq (TC.region (TO.assign rfl (by decide) rfl (TO.assign rfl (by decide) rfl (TO.nil (TX.next (TC.seq (TC.region ?_)))))))
 refine TO.alloc zr_3 rfl (by decide) (fun b1 => ?_)
 refine TO.alloc zr_3 rfl (by decide) (fun b2 => ?_)
 show TO _ _ _ _ _ _ _ _ _ _ [cells b1 [.int .i64 0] 3, cells b2 [.int .i64 0] 3]
 refine TO.store (k := 0) (l' := [.int .i64 0]) sz_3 rfl rfl rfl rfl rfl (fun _ _ => rfl) rfl ?_
 refine TO.store (k := 1) (l' := [.int .i64 0]) sz_3 rfl rfl rfl rfl rfl (fun _ _ => rfl) rfl ?_
 show TO _ _ _ _ _ _ _ _ _ _ [cells b1 [.int .i64 0] 3, cells b2 [.int .i64 0] 3]
 refine TO.nil (TX.next (TC.seq (TC.seq (TC.region (TO.move rfl (by decide) rfl (TO.call (vs := [.string s]) rfl (by decide) rfl rfl rfl en_15 (scan_fn s) Splits.nil ?_))))))
 rintro bp
 show TO _ _ _ _ _ _ _ _ _ _ [cells b1 [.int .i64 0] 3, cells b2 [.int .i64 0] 3, cells bp [.string s] 9]
 refine TO.nil (TX.next (TC.block ?_))
 refine TC.range (α := Tk) (β := Unit) (γ := Unit) (δ := Nat) (ps := [9]) Ro.nil rfl en_46 (scan1_itr s (by omega) bp) (fun pre b => True) (fun pre b => [cells b1 [.int .i64 (pre.length : Int)] 3, cells b2 [.int .i64 ((wds pre).length : Int)] 3]) (fun c pre g => False) (fun c pre g => []) (fun pre x b j => [(4, .pointer (some ⟨b1, 0, none⟩)), (5, .pointer (some ⟨b2, 0, none⟩)), (6, .pointer (some ⟨j, 0, none⟩))]) (fun pre x b j => [cells b1 [.int .i64 (pre.length : Int)] 3, cells b2 [.int .i64 ((wds pre).length : Int)] 3, cells j [.int .i64 x.k, .int .i64 (x.f : Int), .int .i64 (x.t : Int)] 36]) () trivial (Splits.of [0, 1] (by as_aux_lemma => kernel_rfl) rfl) ⟨.inl ⟨2, rfl⟩, trivial⟩ (fun _ => rfl) (by decide) ?_ ?_ ?_ ?_
 ·
  rintro lp rc pre x post b w1 K1 hxs hext hro hinv
  refine TC.region ?_
  refine TO.alloc zr_36 rfl (by decide) (fun b3 => ?_)
  refine TO.stores (k := 2) (vs := [.int .i64 x.k, .int .i64 (x.f : Int), .int .i64 (x.t : Int)]) (l' := [.int .i64 x.k, .int .i64 (x.f : Int), .int .i64 (x.t : Int)]) sz_36 rfl rfl rfl rfl rfl (show _ ≤ _ by simp) rfl rfl ?_
  show TO _ _ _ _ _ _ _ _ _ _ [cells b1 [.int .i64 (pre.length : Int)] 3, cells b2 [.int .i64 ((wds pre).length : Int)] 3, cells b3 [.int .i64 x.k, .int .i64 (x.f : Int), .int .i64 (x.t : Int)] 36]
  refine TO.nil ?_
  exact fun a w ha hw => ⟨b3, (Sbs.cons rfl (Sbs.cons rfl (Sbs.cons rfl (Sbs.nil)))) _ _ _ ha, hw.weaken (Splits.of [0, 1, 2] (by as_aux_lemma => kernel_rfl) rfl)⟩
 ·
  rintro lp rc pre x post b j w1 K1 hxs hext hro hinv
  have hlen : pre.length < (scan (units (pcs s.data.toList))).length := by rw [hxs]; simp
  have hmx := scan_len s
  have hwl : (wds pre).length ≤ pre.length := List.length_filterMap_le _ _
  by_cases hk : x.k = 1
  ·
   refine TC.block (TC.seq (TC.region (TO.load (k := 0) sc_3 rfl (by decide) rfl rfl rfl (TO.bin rfl (by decide) rfl rfl (bin_add (r := (pre.length : Int) + 1) (IntWalk.i64_in _ (by omega))) ?_))))
   refine TO.store (k := 0) (l' := [.int .i64 ((pre.length : Int) + 1)]) sz_3 rfl rfl rfl rfl rfl (fun _ _ => rfl) rfl ?_
   refine TO.nil (TX.next (TC.seq (TC.region (TO.fieldAddr fl_36_0 rfl (by decide) rfl (show _ = 0 from rfl) (TO.load (k := 2) sc_3 rfl (by decide) rfl rfl rfl (TO.bin rfl (by decide) rfl rfl (bin_known (congrArg Value.bool (show ((x.k : Int) == 1) = true from (beq_iff_eq.2 hk))) bin_eql) (TO.nil (TX.next (TC.condT rfl (TC.region (TO.load (k := 1) sc_3 rfl (by decide) rfl rfl rfl (TO.bin rfl (by decide) rfl rfl (bin_add (r := ((wds pre).length : Int) + 1) (IntWalk.i64_in _ (by omega))) ?_))))))))))))
   refine TO.store (k := 1) (l' := [.int .i64 (((wds pre).length : Int) + 1)]) sz_3 rfl rfl rfl rfl rfl (fun _ _ => rfl) rfl ?_
   show TO _ _ _ _ _ _ _ _ _ _ [cells b1 [.int .i64 ((pre.length : Int) + 1)] 3, cells b2 [.int .i64 (((wds pre).length : Int) + 1)] 3, cells j [.int .i64 x.k, .int .i64 (x.f : Int), .int .i64 (x.t : Int)] 36]
   refine TO.nil (TX.blockNormal ?_)
   refine TX.rewE (k := 0) rfl (show cells b1 [.int .i64 ((pre.length : Int) + 1)] 3 = cells b1 [.int .i64 ((pre ++ [x]).length : Int)] 3 from (congrArg (fun z : Int => cells b1 [.int .i64 z] 3) (by simp))) ?_
   show TX _ _ _ _ _ _ _ [cells b1 [.int .i64 ((pre ++ [x]).length : Int)] 3, cells b2 [.int .i64 (((wds pre).length : Int) + 1)] 3, cells j [.int .i64 x.k, .int .i64 (x.f : Int), .int .i64 (x.t : Int)] 36]
   refine TX.rewE (k := 1) rfl (show cells b2 [.int .i64 (((wds pre).length : Int) + 1)] 3 = cells b2 [.int .i64 ((wds (pre ++ [x])).length : Int)] 3 from (congrArg (fun z : Int => cells b2 [.int .i64 z] 3) (by simp [wds, hk]))) ?_
   show TX _ _ _ _ _ _ _ [cells b1 [.int .i64 ((pre ++ [x]).length : Int)] 3, cells b2 [.int .i64 ((wds (pre ++ [x])).length : Int)] 3, cells j [.int .i64 x.k, .int .i64 (x.f : Int), .int .i64 (x.t : Int)] 36]
   exact TX.round () trivial (Splits.of [0, 1] (by as_aux_lemma => kernel_rfl) rfl)
  ·
   refine TC.block (TC.seq (TC.region (TO.load (k := 0) sc_3 rfl (by decide) rfl rfl rfl (TO.bin rfl (by decide) rfl rfl (bin_add (r := (pre.length : Int) + 1) (IntWalk.i64_in _ (by omega))) ?_))))
   refine TO.store (k := 0) (l' := [.int .i64 ((pre.length : Int) + 1)]) sz_3 rfl rfl rfl rfl rfl (fun _ _ => rfl) rfl ?_
   refine TO.nil (TX.next (TC.seq (TC.region (TO.fieldAddr fl_36_0 rfl (by decide) rfl (show _ = 0 from rfl) (TO.load (k := 2) sc_3 rfl (by decide) rfl rfl rfl (TO.bin rfl (by decide) rfl rfl (bin_known (congrArg Value.bool (show ((x.k : Int) == 1) = false from (beq_eq_false_iff_ne.2 hk))) bin_eql) (TO.nil (TX.next (TC.condF rfl (TC.skip (TX.blockNormal ?_)))))))))))
   refine TX.rewE (k := 0) rfl (show cells b1 [.int .i64 ((pre.length : Int) + 1)] 3 = cells b1 [.int .i64 ((pre ++ [x]).length : Int)] 3 from (congrArg (fun z : Int => cells b1 [.int .i64 z] 3) (by simp))) ?_
   show TX _ _ _ _ _ _ _ [cells b1 [.int .i64 ((pre ++ [x]).length : Int)] 3, cells b2 [.int .i64 ((wds pre).length : Int)] 3, cells j [.int .i64 x.k, .int .i64 (x.f : Int), .int .i64 (x.t : Int)] 36]
   refine TX.rewE (k := 1) rfl (show cells b2 [.int .i64 ((wds pre).length : Int)] 3 = cells b2 [.int .i64 ((wds (pre ++ [x])).length : Int)] 3 from (congrArg (fun z : Int => cells b2 [.int .i64 z] 3) (by simp [wds, hk]))) ?_
   show TX _ _ _ _ _ _ _ [cells b1 [.int .i64 ((pre ++ [x]).length : Int)] 3, cells b2 [.int .i64 ((wds (pre ++ [x])).length : Int)] 3, cells j [.int .i64 x.k, .int .i64 (x.f : Int), .int .i64 (x.t : Int)] 36]
   exact TX.round () trivial (Splits.of [0, 1] (by as_aux_lemma => kernel_rfl) rfl)
 ·
  rintro d b hinv
  show TX _ _ _ _ _ _ _ [emp, emp, cells bp [.string s] 9, cells b1 [.int .i64 ((scan (units (pcs s.data.toList))).length : Int)] 3, cells b2 [.int .i64 ((wds (scan (units (pcs s.data.toList)))).length : Int)] 3, mark d]
  refine TX.blockNormal (TX.next (TC.seq ?_))
  refine TC.drawN 3 [(0, 17, .int .i64 ((scan (units (pcs s.data.toList))).length : Int)), (1, 18, .int .i64 ((wds (scan (units (pcs s.data.toList)))).length : Int)), (2, 2, .int .i64 ((scan (units (pcs s.data.toList))).length : Int))] mixed (by as_aux_lemma => kernel_rfl) (by as_aux_lemma => kernel_rfl) (by decide) (by rfl) (by as_aux_lemma => kernel_rfl) (by as_aux_lemma => kernel_rfl) (DrawPre.cons ?_ (DrawPre.cons ?_ (DrawPre.cons ?_ DrawPre.nil))) ?_
  ·
   intro D hn hd hcl hu hi
   refine TO.load (k := 3) sc_3 rfl (by decide) (dl_old (by rfl) rfl) rfl rfl ?_
   exact TX.quiet 0 hu hi rfl
  ·
   intro D hn hd hcl hu hi
   refine TO.load (k := 4) sc_3 rfl (by decide) (dl_old (by rfl) rfl) rfl rfl ?_
   exact TX.quiet 1 hu hi rfl
  ·
   intro D hn hd hcl hu hi
   refine TO.assign rfl (by decide) (dl_lookup (m := 0) hu rfl (hd 0 (by decide))) ?_
   exact TX.quiet 2 hu hi rfl
  refine TO.assign rfl (by decide) rfl (TO.nil (TX.next (TC.ret ?_)))
  exact TX.finM (rs := [.tmp 2, .tmp 3]) [d] () (.inl rfl) (Splits.of [5] (by as_aux_lemma => kernel_rfl) rfl) Try.results17 (.cons (.tmp rfl) (.cons (.tmp rfl) .nil)) rfl Splits.nil
 ·
  rintro d c pre x post g hxs hX
  exact hX.elim

set_option maxRecDepth 100000 in
set_option maxHeartbeats 4000000 in
theorem next_p (s : ByteArray) (hs : s.size ≤ 140737488351232) (n : Int) : FnP Try.prog 35 [.string s, .int .i64 n] (nextV ((wds (scan (units (pcs s.data.toList)))).find? (fun p => decide (n ≤ (p.1 : Int))))) := by
 refine FnP.intro Try.func35 rfl Try.ntmps35 (by simp) ?_
 intro w0 K
 refine TC.seq (TC.region ?_)
 refine TO.box rfl (by decide) rfl (fun b1 => ?_)
 refine TO.alloc zr_34 rfl (by decide) (fun b2 => ?_)
 refine TO.alloc zr_4 rfl (by decide) (fun b3 => ?_)
 show TO _ _ _ _ _ _ _ _ _ _ [cells b1 [.int .i64 n] 3, cells b2 [.int .i64 0, .int .i64 0] 34, cells b3 [.bool false] 4]
 refine TO.nil (TX.next (TC.seq (TC.seq (TC.region (TO.move rfl (by decide) rfl (TO.call (vs := [.string s]) rfl (by decide) rfl rfl rfl en_16 (words_fn s) Splits.nil ?_))))))
 rintro bp
 show TO _ _ _ _ _ _ _ _ _ _ [cells b1 [.int .i64 n] 3, cells b2 [.int .i64 0, .int .i64 0] 34, cells b3 [.bool false] 4, cells bp [.string s] 9]
 refine TO.nil (TX.next (TC.block ?_))
 refine TC.range (α := Nat × Nat) (β := Unit) (γ := Nat × Nat) (δ := Nat) (ps := [9]) Ro.nil rfl en_51 (words1_itr s (by omega) bp) (fun pre b => ∀ y ∈ pre, (decide (n ≤ (y.1 : Int))) = false) (fun pre b => [cells b1 [.int .i64 n] 3, cells b2 [.int .i64 0, .int .i64 0] 34, cells b3 [.bool false] 4]) (fun c pre g => c = .ret ∧ (wds (scan (units (pcs s.data.toList)))).find? (fun p => decide (n ≤ (p.1 : Int))) = some g) (fun c pre g => [cells b1 [.int .i64 n] 3, cells b2 [.int .i64 (g.1 : Int), .int .i64 (g.2 : Int)] 34, cells b3 [.bool true] 4]) (fun pre x b j => [(3, .pointer (some ⟨b1, 0, none⟩)), (4, .pointer (some ⟨b2, 0, none⟩)), (5, .pointer (some ⟨b3, 0, none⟩)), (6, .pointer (some ⟨j, 0, none⟩))]) (fun pre x b j => [cells b1 [.int .i64 n] 3, cells b2 [.int .i64 0, .int .i64 0] 34, cells b3 [.bool false] 4, cells j [.int .i64 (x.1 : Int), .int .i64 (x.2 : Int)] 34]) () (by simp) (Splits.of [0, 1, 2] (by as_aux_lemma => kernel_rfl) rfl) ⟨.inl ⟨3, rfl⟩, trivial⟩ (fun _ => rfl) (by decide) ?_ ?_ ?_ ?_
 ·
  rintro lp rc pre x post b w1 K1 hxs hext hro hinv
  refine TC.region ?_
  refine TO.alloc zr_34 rfl (by decide) (fun b4 => ?_)
  refine TO.stores (k := 3) (vs := [.int .i64 (x.1 : Int), .int .i64 (x.2 : Int)]) (l' := [.int .i64 (x.1 : Int), .int .i64 (x.2 : Int)]) sz_34 rfl rfl rfl rfl rfl (show _ ≤ _ by simp) rfl rfl ?_
  show TO _ _ _ _ _ _ _ _ _ _ [cells b1 [.int .i64 n] 3, cells b2 [.int .i64 0, .int .i64 0] 34, cells b3 [.bool false] 4, cells b4 [.int .i64 (x.1 : Int), .int .i64 (x.2 : Int)] 34]
  refine TO.nil ?_
  exact fun a w ha hw => ⟨b4, (Sbs.cons rfl (Sbs.cons rfl (Sbs.cons rfl (Sbs.cons rfl (Sbs.nil))))) _ _ _ ha, hw.weaken (Splits.of [0, 1, 2, 3] (by as_aux_lemma => kernel_rfl) rfl)⟩
 ·
  rintro lp rc pre x post b j w1 K1 hxs hext hro hinv
  refine TC.block (TC.seq (TC.region (TO.fieldAddr fl_34_0 rfl (by decide) rfl (show _ = 0 from rfl) (TO.load (k := 3) sc_3 rfl (by decide) rfl rfl rfl (TO.load (k := 0) sc_3 rfl (by decide) rfl rfl rfl (TO.bin rfl (by decide) rfl rfl bin_geq (TO.nil (TX.next ?_))))))))
  refine TC.condB rfl (fun h1 => ?_) (fun h1 => ?_)
  ·
   -- yes
   have h1 := of_decide_eq_true h1
   refine TC.seq (TC.region (TO.loads (k := 3) (cs := [.int .i64 (x.1 : Int), .int .i64 (x.2 : Int)]) rw_34 rfl (by decide) rfl rfl rfl rfl (TO.stores (k := 1) (vs := [.int .i64 (x.1 : Int), .int .i64 (x.2 : Int)]) (l' := [.int .i64 (x.1 : Int), .int .i64 (x.2 : Int)]) sz_34 rfl rfl rfl rfl rfl (show _ ≤ _ by simp) rfl rfl ?_)))
   refine TO.store (k := 2) (l' := [.bool true]) sz_4 rfl rfl rfl rfl rfl (fun _ _ => rfl) rfl ?_
   show TO _ _ _ _ _ _ _ _ _ _ [cells b1 [.int .i64 n] 3, cells b2 [.int .i64 (x.1 : Int), .int .i64 (x.2 : Int)] 34, cells b3 [.bool true] 4, cells j [.int .i64 (x.1 : Int), .int .i64 (x.2 : Int)] 34]
   refine TO.nil (TX.next (TC.ret (TX.blockRet ?_)))
   exact TX.roundRet x ⟨rfl, by rw [hxs, List.find?_append, List.find?_eq_none.2 (fun y hy => by simpa using hinv y hy)]; simp; omega⟩ (Splits.of [0, 1, 2] (by as_aux_lemma => kernel_rfl) rfl)
  ·
   -- no
   have h1 := of_decide_eq_false h1
   refine TC.skip (TX.blockNormal ?_)
   exact TX.round () (by intro y hy; rcases List.mem_append.1 hy with h | h; exact hinv y h; simp only [List.mem_singleton] at h; subst h; simp; omega) (Splits.of [0, 1, 2] (by as_aux_lemma => kernel_rfl) rfl)
 ·
  rintro d b hinv
  show TX _ _ _ _ _ _ _ [emp, emp, emp, cells bp [.string s] 9, cells b1 [.int .i64 n] 3, cells b2 [.int .i64 0, .int .i64 0] 34, cells b3 [.bool false] 4, mark d]
  have hf : (wds (scan (units (pcs s.data.toList)))).find? (fun p => decide (n ≤ (p.1 : Int))) = none := List.find?_eq_none.2 (fun y hy => by simpa using hinv y hy)
  refine TX.blockNormal (TX.next (TC.seq (TC.region ?_)))
  refine TO.build (v := .agg #[.int .i64 0, .int .i64 0]) (ps := []) rfl (by decide) rfl (fun _ => by kernel_rfl) ?_
  refine TO.stores (k := 5) (vs := [.int .i64 0, .int .i64 0]) (l' := [.int .i64 0, .int .i64 0]) sz_34 rfl rfl rfl rfl rfl (show _ ≤ _ by simp) rfl rfl ?_
  refine TO.store (k := 6) (l' := [.bool false]) sz_4 rfl rfl rfl rfl rfl (fun _ _ => rfl) rfl ?_
  show TO _ _ _ _ _ _ _ _ _ _ [emp, emp, emp, cells bp [.string s] 9, cells b1 [.int .i64 n] 3, cells b2 [.int .i64 0, .int .i64 0] 34, cells b3 [.bool false] 4, mark d]
  refine TO.nil (TX.next (TC.ret ?_))
  exact TX.finM (rs := [.cell 4 34, .cell 5 4]) [d] () (.inl rfl) (Splits.of [7] (by as_aux_lemma => kernel_rfl) rfl) Try.results35 (.cons (.cells rw_34 rfl (k := 5) rfl rfl) (.cons (.cell sc_4 rfl (k := 6) rfl) .nil)) (by rw [hf]; rfl) Splits.nil
 ·
  rintro d c pre x post g hxs hX
  show TC _ _ _ _ _ _ _ _ _ [emp, emp, emp, cells bp [.string s] 9, cells b1 [.int .i64 n] 3, cells b2 [.int .i64 (g.1 : Int), .int .i64 (g.2 : Int)] 34, cells b3 [.bool true] 4, mark d]
  obtain ⟨rfl, hf⟩ := hX
  refine TC.ret (TX.blockRet (TX.thenRet ?_))
  exact TX.finM (rs := [.cell 4 34, .cell 5 4]) [d] () (.inl rfl) (Splits.of [7] (by as_aux_lemma => kernel_rfl) rfl) Try.results35 (.cons (.cells rw_34 rfl (k := 5) rfl rfl) (.cons (.cell sc_4 rfl (k := 6) rfl) .nil)) (by rw [hf]; rfl) Splits.nil
end Go.Proofs.Ytgeefojgkbglnaa
