/-
  Texts laid together: LfFoldFinds, PlFoldFinds. Nothing is assumed.
-/
import Derived.Test.YtlamcpgnmeileaaFb5
import Derived.Test.YtlamcpgnmeileaaFb6
namespace Go.Proofs.Ytlamcpgnmeileaa
open Go.RowKit Go.Lib
set_option linter.unusedVariables false
set_option linter.unusedSimpArgs false
def law04_FoldFinds_s1 (from1 : Int) (s2 : ByteArray) (t2 : ByteArray) (j3 : Option Bool) (ag1 : Int → Option Bool) (x3 : Int) : Option Bool := bcond (decide ((x3 : Int) < 3)) ( andThen (getO ([from1, IntKind.i64.wrap (Int.tmod (IntKind.u64.wrap from1) (IntKind.u64.wrap ((s2.size : Int) + 1))), 0] : List Int) x3) fun (q1 : Int) => andThen (fold_Find_v s2 t2 q1) fun (r2 : (Gapi_Span × Bool)) => andThen (ref04_Find_v s2 t2 q1) fun (r3 : (Gapi_Span × Bool)) => bcond (!(eq_Gapi_Span r2.1 r3.1)) ( some false
) ( bcond (r2.2 != r3.2) ( some false
) ( grd (I64 (x3 + 1)) <| ag1 (x3 + 1)
)
)
) ( j3
)
def law04_FoldFinds_v (s1 : ByteArray) (t1 : ByteArray) (from1 : Int) : Option Bool := andThen (law04_wakes_v) fun (r1 : Bool) => bcond (!r1) ( some false
) ( joinK (fun (j1 : ByteArray → Option Bool) => bcond (decide ((60 : Int) < (s1.size : Int))) ( grd (0 ≤ (0 : Int) ∧ (0 : Int) ≤ 60 ∧ (60 : Int) ≤ (s1.size : Int)) <| j1 (cutB s1 0 60)
) ( j1 s1
)
) (fun (s2 : ByteArray) => joinK (fun (j2 : ByteArray → Option Bool) => bcond (decide ((60 : Int) < (t1.size : Int))) ( grd (0 ≤ (0 : Int) ∧ (0 : Int) ≤ 60 ∧ (60 : Int) ≤ (t1.size : Int)) <| j2 (cutB t1 0 60)
) ( j2 t1
)
) (fun (t2 : ByteArray) => joinK (fun (j3 : Option Bool) => grd (I64 ((s2.size : Int) + 1)) <| grd ((IntKind.u64.wrap ((s2.size : Int) + 1)) ≠ 0) <| loopG (fun _ => none) (law04_FoldFinds_s1 from1 s2 t2 j3) fuel 0
) ( andThen (law04_wakes_v) fun (r4 : Bool) => some r4
)
)
)
)
set_option maxRecDepth 100000 in
set_option maxHeartbeats 4000000 in
theorem law04_FoldFinds_fn {s1 : ByteArray} {t1 : ByteArray} {from1 : Int} {r : Bool} (h : law04_FoldFinds_v s1 t1 from1 = some r) : FnP Try.prog 3 [.string s1, .string t1, .int .i64 from1] (.bool r) := by
 unfold law04_FoldFinds_v at h
 refine FnP.intro Try.func3 rfl Try.ntmps3 (by simp) ?_
 intro w0 K
 refine TC.seq (TC.region (TO.assign rfl dc rfl (TO.nil (TX.next (TC.seq (TC.seq (TC.region ?_)))))))
 obtain ⟨r1, hq1, h⟩ := andE h
 refine TO.callP (v := .bool r1) (vs := []) rfl dc rfl rfl rfl en_7 (law04_wakes_fn hq1) (TO.un rfl dc rfl un_not (TO.nil (TX.next ?_)))
 refine TC.condB rfl (fun hb1 => ?_) (fun hb1 => ?_)
 ·
  have h := condT hb1 h
  refine TC.seq (TC.region (TO.assign rfl dc rfl (TO.nil (TX.next (TC.ret (TX.thenRet ?_))))))
  cases h
  exact TX.fin (rs := [.tmp 6]) () (.inl rfl) Try.results3 (.cons (.tmp rfl) .nil) rfl Splits.nil
 ·
  have h := condF hb1 h
  refine TC.skip (TX.next ?_)
  obtain ⟨j1, hj1, h⟩ := joinE h
  refine TC.cutN (β := ByteArray) 0 rfl (fun b => j1 b = some r) (fun b => []) (fun b => [(0, .string b), (1, .string t1), (2, .int .i64 from1)]) (fun b => []) (fun cut => ?_) ?_
  ·
   refine cut (TC.seq (TC.region (TO.move rfl dc rfl (TO.lenStr rfl dc rfl Try.underlying9 (TO.bin rfl dc rfl rfl bin_gtr (TO.nil (TX.next ?_)))))))
   refine TC.condB rfl (fun hb2 => ?_) (fun hb2 => ?_)
   ·
    have h := condT hb2 h
    refine TC.region (TO.move rfl dc rfl ?_)
    obtain ⟨hg1, h⟩ := grdE h
    refine TO.slice rfl dc rfl rfl rfl (slice_stringI (i := 0) (j := 60) Try.underlying9 (.inl ⟨rfl, rfl⟩) (.inr rfl) hg1) (TO.assign rfl dc rfl (TO.nil ?_))
    exact TX.meetD (cutB s1 0 60) h rfl (Sbs.cons rfl (Sbs.cons rfl (Sbs.cons rfl (Sbs.nil)))) Splits.nil
   ·
    have h := condF hb2 h
    refine TC.skip ?_
    exact TX.meetD s1 h rfl (Sbs.cons rfl (Sbs.cons rfl (Sbs.cons rfl (Sbs.nil)))) Splits.nil
  ·
   rintro s2 h
   rw [hj1] at h
   show TC _ _ _ _ _ ([]) _ _ [(0, .string s2), (1, .string t1), (2, .int .i64 from1)] []
   obtain ⟨j2, hj2, h⟩ := joinE h
   refine TC.cutN (β := ByteArray) 0 rfl (fun b => j2 b = some r) (fun b => []) (fun b => [(0, .string s2), (1, .string b), (2, .int .i64 from1)]) (fun b => []) (fun cut => ?_) ?_
   ·
    refine cut (TC.seq (TC.region (TO.move rfl dc rfl (TO.lenStr rfl dc rfl Try.underlying9 (TO.bin rfl dc rfl rfl bin_gtr (TO.nil (TX.next ?_)))))))
    refine TC.condB rfl (fun hb3 => ?_) (fun hb3 => ?_)
    ·
     have h := condT hb3 h
     refine TC.region (TO.move rfl dc rfl ?_)
     obtain ⟨hg2, h⟩ := grdE h
     refine TO.slice rfl dc rfl rfl rfl (slice_stringI (i := 0) (j := 60) Try.underlying9 (.inl ⟨rfl, rfl⟩) (.inr rfl) hg2) (TO.assign rfl dc rfl (TO.nil ?_))
     exact TX.meetD (cutB t1 0 60) h rfl (Sbs.cons rfl (Sbs.cons rfl (Sbs.cons rfl (Sbs.nil)))) Splits.nil
    ·
     have h := condF hb3 h
     refine TC.skip ?_
     exact TX.meetD t1 h rfl (Sbs.cons rfl (Sbs.cons rfl (Sbs.cons rfl (Sbs.nil)))) Splits.nil
   ·
    rintro t2 h
    rw [hj2] at h
    show TC _ _ _ _ _ ([]) _ _ [(0, .string s2), (1, .string t2), (2, .int .i64 from1)] []
    obtain ⟨j3, hj3, h⟩ := joinE h
    refine TC.cutN (β := Unit) 0 rfl (fun b => j3 = some r) (fun b => []) (fun b => []) (fun b => []) (fun cut => ?_) ?_
    ·
     refine cut (TC.seq (TC.region (TO.move rfl dc rfl (TO.move rfl dc rfl (TO.conv rfl dc rfl (conv_wrap Try.underlying3 Try.underlying23) (TO.move rfl dc rfl (TO.lenStr rfl dc rfl Try.underlying9 ?_)))))))
     obtain ⟨hg3, h⟩ := grdE h
     refine TO.bin rfl dc rfl rfl (bin_add (r := (s2.size : Int) + 1) (IntWalk.i64_in _ hg3)) (TO.conv rfl dc rfl (conv_wrap Try.underlying3 Try.underlying23) ?_)
     obtain ⟨hg4, h⟩ := grdE h
     refine TO.bin rfl dc rfl rfl (bin_rem hg4 rfl) (TO.conv rfl dc rfl (conv_wrap Try.underlying23 Try.underlying3) ?_)
     refine TO.build (v := .agg #[.int .i64 from1, .int .i64 (IntKind.i64.wrap (Int.tmod (IntKind.u64.wrap from1) (IntKind.u64.wrap ((s2.size : Int) + 1)))), .int .i64 0]) (ps := [(0, .tmp 25), (1, .tmp 33), (2, .const (.int .i64 0))]) rfl dc rfl (fun _ => by kernel_rfl) ?_
     refine TO.move rfl dc rfl (TO.nil (TX.next (TC.block ?_)))
     refine TC.loopD (β := Nat × Int) (fun b => loopG (fun _ => none) (law04_FoldFinds_s1 from1 s2 t2 j3) b.1 b.2 = some r) (fun b => []) (fun b => [(0, .string s2), (1, .string t2), (34, .agg #[.int .i64 from1, .int .i64 (IntKind.i64.wrap (Int.tmod (IntKind.u64.wrap from1) (IntKind.u64.wrap ((s2.size : Int) + 1)))), .int .i64 0]), (35, .int .i64 b.2)]) (fun b => []) (fun b => b.1) (fuel, 0) h rfl (Sbs.cons rfl (Sbs.cons rfl (Sbs.cons rfl (Sbs.cons rfl (Sbs.nil))))) Splits.nil ?_
     rintro ⟨n1, x3⟩ h
     cases n1 with
     | zero => exact noneE h
     | succ n1 =>
      obtain ⟨ag1, hag1⟩ : ∃ ag, ag = loopG (fun _ => none) (law04_FoldFinds_s1 from1 s2 t2 j3) n1 := ⟨_, rfl⟩
      have h : law04_FoldFinds_s1 from1 s2 t2 j3 ag1 x3 = some r := by rw [hag1]; exact h
      unfold law04_FoldFinds_s1 at h
      show TC _ _ _ _ _ ([]) _ _ [(0, .string s2), (1, .string t2), (34, .agg #[.int .i64 from1, .int .i64 (IntKind.i64.wrap (Int.tmod (IntKind.u64.wrap from1) (IntKind.u64.wrap ((s2.size : Int) + 1)))), .int .i64 0]), (35, .int .i64 x3)] []
      refine TC.seq (TC.region (TO.bin rfl dc rfl rfl bin_lss (TO.nil (TX.next (TC.seq ?_)))))
      refine TC.condB rfl (fun hb4 => ?_) (fun hb4 => ?_)
      ·
       have h := condT hb4 h
       refine TC.skip (TX.next (TC.seq (TC.block (TC.seq (TC.region ?_)))))
       obtain ⟨q1, hq2, h⟩ := andE h
       refine TO.index (v := .int .i64 q1) rfl dc rfl rfl (index_arr (enc := (encI (.i64))) (xs := ([from1, IntKind.i64.wrap (Int.tmod (IntKind.u64.wrap from1) (IntKind.u64.wrap ((s2.size : Int) + 1))), 0] : List Int)) (q := q1) Try.underlying24 sz_3 rfl encI_len hq2 (fun _ => part_arr (enc := (encI (.i64))) sc_3 encI_len rfl (getO_get hq2))) ?_
       refine TO.assign rfl dc rfl (TO.nil (TX.next (TC.seq (TC.region (TO.move rfl dc rfl (TO.move rfl dc rfl (TO.move rfl dc rfl ?_)))))))
       obtain ⟨r2, hq3, h⟩ := andE h
       refine TO.callP (v := .tuple #[.agg #[.int .i64 r2.1.From, .int .i64 r2.1.To], .bool r2.2]) (vs := [.string s2, .string t2, .int .i64 q1]) rfl dc rfl rfl rfl en_8 (fold_Find_fn hq3) (TO.move rfl dc rfl (TO.extract rfl dc rfl rfl (TO.extract rfl dc rfl rfl ?_)))
       refine TO.alloc zr_26 rfl dc (fun b1 => ?_)
       refine TO.stores (k := 0) (vs := [.int .i64 r2.1.From, .int .i64 r2.1.To]) (l' := [.int .i64 r2.1.From, .int .i64 r2.1.To]) sz_26 rfl rfl rfl rfl rfl (show _ ≤ _ by simp) rfl rfl ?_
       show TO _ _ _ _ _ _ _ _ _ _ [cells b1 [.int .i64 r2.1.From, .int .i64 r2.1.To] 26]
       refine TO.assign rfl dc rfl (TO.nil (TX.next (TC.seq (TC.region (TO.move rfl dc rfl (TO.move rfl dc rfl (TO.move rfl dc rfl ?_)))))))
       obtain ⟨r3, hq4, h⟩ := andE h
       refine TO.callP (v := .tuple #[.agg #[.int .i64 r3.1.From, .int .i64 r3.1.To], .bool r3.2]) (vs := [.string s2, .string t2, .int .i64 q1]) rfl dc rfl rfl rfl en_9 (ref04_Find_fn hq4) (TO.move rfl dc rfl (TO.extract rfl dc rfl rfl (TO.extract rfl dc rfl rfl ?_)))
       refine TO.alloc zr_26 rfl dc (fun b2 => ?_)
       refine TO.stores (k := 1) (vs := [.int .i64 r3.1.From, .int .i64 r3.1.To]) (l' := [.int .i64 r3.1.From, .int .i64 r3.1.To]) sz_26 rfl rfl rfl rfl rfl (show _ ≤ _ by simp) rfl rfl ?_
       show TO _ _ _ _ _ _ _ _ _ _ [cells b1 [.int .i64 r2.1.From, .int .i64 r2.1.To] 26, cells b2 [.int .i64 r3.1.From, .int .i64 r3.1.To] 26]
       refine TO.assign rfl dc rfl (TO.nil (TX.next (TC.seq (TC.region (TO.loads (k := 0) (cs := [.int .i64 r2.1.From, .int .i64 r2.1.To]) rw_26 rfl dc rfl rfl rfl rfl (TO.loads (k := 1) (cs := [.int .i64 r3.1.From, .int .i64 r3.1.To]) rw_26 rfl dc rfl rfl rfl rfl (TO.bin rfl dc rfl rfl (bin_neq_26 r2.1 r3.1) (TO.move rfl dc rfl ?_))))))))
       refine TO.split (s := 55) rfl (fun hb5 => ?_) (fun hb5 => ?_)
       ·
        have h := condT hb5 h
        refine TO.skip rfl dc (TO.skip rfl dc (TO.skip rfl dc (TO.pick (b := true) rfl dc rfl rfl (TO.nil (TX.next (TC.condT rfl (TC.seq (TC.region (TO.assign rfl dc rfl (TO.nil (TX.next (TC.ret (TX.blockRet ?_)))))))))))))
        refine TX.thenRet (TX.thenRet (TX.blockRet (TX.thenRet ?_)))
        cases h
        exact TX.fin (rs := [.tmp 6]) () (.inl rfl) Try.results3 (.cons (.tmp rfl) .nil) rfl Splits.nil
       ·
        have h := condF hb5 h
        refine TO.move rfl dc rfl (TO.move rfl dc rfl (TO.bin rfl dc rfl rfl (bin_boolneq Try.underlying4) (TO.pick (b := false) rfl dc rfl rfl (TO.nil (TX.next ?_)))))
        refine TC.condB rfl (fun hb6 => ?_) (fun hb6 => ?_)
        ·
         have h := condT hb6 h
         refine TC.seq (TC.region (TO.assign rfl dc rfl (TO.nil (TX.next (TC.ret (TX.blockRet (TX.thenRet (TX.thenRet (TX.blockRet (TX.thenRet ?_))))))))))
         cases h
         exact TX.fin (rs := [.tmp 6]) () (.inl rfl) Try.results3 (.cons (.tmp rfl) .nil) rfl Splits.nil
        ·
         have h := condF hb6 h
         refine TC.skip (TX.blockNormal (TX.next (TC.region ?_)))
         obtain ⟨hg5, h⟩ := grdE h
         refine TO.bin rfl dc rfl rfl (bin_add (r := x3 + 1) (IntWalk.i64_in _ hg5)) (TO.move rfl dc rfl (TO.nil ?_))
         subst hag1
         exact TX.againD (n1, x3 + 1) h (Nat.lt_succ_self _) rfl (Sbs.cons rfl (Sbs.cons rfl (Sbs.cons rfl (Sbs.cons rfl (Sbs.nil))))) Splits.nil
      ·
       have h := condF hb4 h
       refine TC.exit (TX.thenExit (TX.thenExit (TX.blockHere ?_)))
       exact TX.meetD () h rfl (Sbs.nil) Splits.nil
    ·
     rintro _ h
     rw [hj3] at h
     show TC _ _ _ _ _ ([]) _ _ [] []
     refine TC.seq (TC.region ?_)
     obtain ⟨r4, hq5, h⟩ := andE h
     refine TO.callP (v := .bool r4) (vs := []) rfl dc rfl rfl rfl en_7 (law04_wakes_fn hq5) (TO.assign rfl dc rfl (TO.nil (TX.next (TC.ret ?_))))
     cases h
     exact TX.fin (rs := [.tmp 6]) () (.inl rfl) Try.results3 (.cons (.tmp rfl) .nil) rfl Splits.nil
end Go.Proofs.Ytlamcpgnmeileaa
namespace Go.Proofs.Ytlamcpgnmeileaa
open Go.RowKit Go.Lib
set_option linter.unusedVariables false
set_option linter.unusedSimpArgs false
theorem fget3 {a b c : Int} {k : Nat} (hk : k < 3) : ∃ q, getO [a, b, c] (k : Int) = some q := by
  obtain h | h | h : k = 0 ∨ k = 1 ∨ k = 2 := by omega
  · subst h; exact ⟨a, rfl⟩
  · subst h; exact ⟨b, rfl⟩
  · subst h; exact ⟨c, rfl⟩
theorem finds_cut {R : Type} {K : ByteArray → Option R} {X : Option R} (s : ByteArray) (h : ∀ x : ByteArray, x.size ≤ 60 → K x = X) : joinK (fun (j1 : ByteArray → Option R) => bcond (decide ((60 : Int) < (s.size : Int))) (grd (0 ≤ (0 : Int) ∧ (0 : Int) ≤ 60 ∧ (60 : Int) ≤ (s.size : Int)) <| j1 (cutB s 0 60)) (j1 s)) K = X := by
  by_cases hh : (60 : Int) < (s.size : Int)
  · exact condTI (decide_eq_true hh) (grdI ⟨by omega, by omega, by omega⟩ (h _ (cut_le' s 60)))
  · exact condFI (decide_eq_false hh) (h s (by omega))
theorem eqs_span (x : Gapi_Span) : (!(eq_Gapi_Span x x)) = false := by rw [(eq_Gapi_Span_iff _ _).2 rfl]; rfl
theorem finds_loop (f : Int) (s t : ByteArray) (hs : s.size ≤ 60) (ht : t.size ≤ 60) (j : Option Bool) : ∀ (n k : Nat), k ≤ 3 → 3 - k < n → loopG (fun _ => none) (law04_FoldFinds_s1 f s t j) n (k : Int) = j := by
  intro n
  induction n with
  | zero => intro k _ h; omega
  | succ n ih =>
    intro k hk hn
    rw [loopI]
    generalize loopG (fun _ => none) (law04_FoldFinds_s1 f s t j) n = ag at ih ⊢
    unfold law04_FoldFinds_s1
    by_cases h : k < 3
    · obtain ⟨q, hq⟩ := fget3 (a := f) (b := IntKind.i64.wrap (Int.tmod (IntKind.u64.wrap f) (IntKind.u64.wrap ((s.size : Int) + 1)))) (c := 0) h
      refine condTI (decide_eq_true (by omega)) (thenI hq (thenI (find_v s t q (by omega) (by omega)) (thenI (rfind_v s t q (by omega) (by omega)) (condFI (eqs_span _) (condFI (bne_self_eq_false _) (grdI ⟨by omega, by omega⟩ ?_))))))
      have := ih (k + 1) (by omega) (by omega)
      rwa [show ((k + 1 : Nat) : Int) = (k : Int) + 1 by omega] at this
    · exact condFI (decide_eq_false (by omega)) rfl
theorem u64wF (x : Int) (h : 0 ≤ x ∧ x ≤ 18446744073709551615) : IntKind.u64.wrap x = x := IntWalk.u64_in x h
theorem foldFinds_v (s t : ByteArray) (f : Int) : law04_FoldFinds_v s t f = some true := by
  unfold law04_FoldFinds_v
  refine thenI wakes_v (condFI rfl (finds_cut s fun s hs => finds_cut t fun t ht => joinI ?_))
  refine grdI ⟨by omega, by omega⟩ (grdI ?_ ?_)
  · rw [u64wF _ (by omega)]; omega
  · have := finds_loop f s t hs ht (andThen (law04_wakes_v) fun (r4 : Bool) => some r4) fuel 0 (by omega) (by have := big_fuel (n := 3) (by omega); omega)
    exact this.trans (thenI wakes_v rfl)
theorem foldFinds_any (s t : ByteArray) (f : Int) (w : World) (h0 : s.size ≤ 140737488351232) (h1 : t.size ≤ 140737488351232) (h2 : -9223372036854775808 ≤ f) (h3 : f ≤ 9223372036854775807) : Calls Try.prog 3 #[.string s, .string t, .int .i64 f] w fun e w' => e = .returned (.bool true) ∧ Below w.heap.size w w' :=
  law04_FoldFinds_fn (foldFinds_v s t f) w
end Go.Proofs.Ytlamcpgnmeileaa
