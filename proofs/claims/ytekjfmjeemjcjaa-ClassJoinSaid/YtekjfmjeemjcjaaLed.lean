/-
  The reference's Led and Followed. Nothing is assumed.
-/
import Derived.Test.YtekjfmjeemjcjaaRefCase
import Derived.Test.YtekjfmjeemjcjaaRuns
namespace Go.Proofs.Ytekjfmjeemjcjaa
open Go.RowKit Go.Lib Go.Shelf
attribute [local go_sem] Oper.semAt_some
set_option linter.unusedVariables false
set_option linter.unusedSimpArgs false

/-- Is the first piece that is no mark a letter? -/
def aft : List Pc → Bool
  | [] => false
  | p :: t => if pk p = 2 then aft t else pk p == 1
theorem take_rev_snoc (l : List Pc) (j : Nat) (x : Pc) (h : l[j]? = some x) : (l.take (j + 1)).reverse = x :: (l.take j).reverse := by
  rw [take_snoc l j x h]; simp
theorem drop_cons (l : List Pc) (j : Nat) (x : Pc) (h : l[j]? = some x) : l.drop j = x :: l.drop (j + 1) := by
  obtain ⟨hk, rfl⟩ := List.getElem?_eq_some_iff.1 h
  exact List.drop_eq_getElem_cons hk

set_option maxRecDepth 100000 in
set_option maxHeartbeats 4000000 in
theorem led_any (l : List Pc) (v : Value) (k base : Nat) (w : World) (hlen : l.length ≤ 2147483647) (hk : k ≤ l.length) (hval : ∀ p ∈ l, p.r ≤ 1114111)
    (hrw : Rw enc4 w base 47 4 v (l.map fun p => (p, p.broken))) :
    Calls Try.prog 54 #[v, .int .i64 k] w fun e w' => e = .returned (.bool (aft (l.take k).reverse)) ∧ Below w.heap.size w w' := by
  have hk1 : k ≤ 2147483647 := by omega
  have Hval := Lib.hid hval; have Hrw0 := Lib.hid hrw
  clear hval
  go_enter Try.func54, Try.ntmps54
  go_wp2
  go_loopw [5] (fun i w' => ∃ j : Nat, i = .int .i64 ((j : Int) - 1) ∧ j ≤ k ∧ Hid (aft (l.take k).reverse = aft (l.take j).reverse) ∧ Hid (Rw enc4 w' base 47 4 v (l.map fun p => (p, p.broken))) ∧ Hid (Below w.heap.size w w')) (fun i _ => (intOf i + 1).toNat)
  case atStart => exact ⟨k, rfl, Nat.le_refl _, rfl, Hrw0, Below.refl _ _⟩
  case round =>
    obtain ⟨j, rfl, hj, he, hr, hb⟩ := hrel
    rcases Nat.eq_zero_or_pos j with rfl | hj0
    · go_wp2
      go_ret
      exact ⟨by rw [he.out]; rfl, hb.out⟩
    · obtain ⟨m, rfl⟩ : ∃ m, j = m + 1 := ⟨j - 1, by omega⟩
      have hm1 : (((m + 1 : Nat) : Int) - 1) = (m : Int) := by omega
      rw [hm1]
      clear hm1 hj0
      have hml : m < l.length := by omega
      obtain ⟨x, hx⟩ : ∃ x, l[m]? = some x := ⟨_, List.getElem?_eq_getElem hml⟩
      have hLk : (l.map fun p => (p, p.broken))[m]? = some (x, x.broken) := by rw [List.getElem?_map, hx]; rfl
      have hv : x.r ≤ 1114111 := Hval.out x (List.mem_of_getElem? hx)
      have hv1 : (-2147483648 : Int) ≤ (x.r : Int) := by omega
      have hv2 : (x.r : Int) ≤ 2147483647 := by omega
      have hlen' : (l.map fun p => (p, p.broken)).length = l.length := by simp
      have hsn := take_rev_snoc l m x hx
      rcases hr.out.shape with ⟨rfl, hL⟩ | ⟨g, cap, rfl, hbg, hglt, _, _⟩
      · exfalso; have : l = [] := by simpa using hL
        subst this; simp at hml
      · have hr' := hr.out
        have c0 : wr.cell? ⟨g, m * 4, none⟩ = some (.int .i64 x.i) := hr'.cell enc4_len hLk (j := 0) (by omega) rfl
        have c1 : wr.cell? ⟨g, m * 4 + 1, none⟩ = some (.int .i64 x.w) := hr'.cell enc4_len hLk (j := 1) (by omega) rfl
        have c2 : wr.cell? ⟨g, m * 4 + 2, none⟩ = some (.int .i32 x.r) := hr'.cell enc4_len hLk (j := 2) (by omega) rfl
        have c3 : wr.cell? ⟨g, m * 4 + 3, none⟩ = some (.bool x.broken) := hr'.cell enc4_len hLk (j := 3) (by omega) rfl
        have Hx := Lib.hid hx; have HLk := Lib.hid hLk; have Hlen := Lib.hid hlen'; have Hsn := Lib.hid hsn; have Hhrw := Lib.hid hrw
        rw [hlen']
        clear hx hLk hlen' hr' hv hsn hrw hbg hglt
        go_wp2_with fail
        refine (rof_any _ _ _ _ _ (by omega) (by omega)).mono ?_
        rintro e w2 ⟨rfl, hb2⟩
        have hr2 := hr.out.below hb2
        have hb3 := hb.out.trans (hb2.mono hb.out.size)
        cases h2 : (kindOf x.broken (x.r : Int) != 2)
        · have hpk : pk x = 2 := by unfold pk; simpa [bne] using h2
          have Hpk := Lib.hid hpk; have Hr2 := Lib.hid hr2; have Hb3 := Lib.hid hb3
          clear hpk hr2 hb2 hb3 c0 c1 c2 c3
          go_wp2
          go_roundw
          case rel => exact ⟨m, rfl, by omega, by show _ = _; rw [he.out, Hsn.out]; simp [aft, Hpk.out], by show Rw enc4 _ _ _ _ (.slice _ l.length _) _; rw [← Hlen.out]; exact Hr2.out, Hb3.out⟩
          case measure => show ((m : Int) - 1 + 1).toNat < ((m : Int) + 1).toNat; omega
        · have hpk : pk x ≠ 2 := by unfold pk; simpa [bne] using h2
          have d0 : w2.cell? ⟨g, m * 4, none⟩ = some (.int .i64 x.i) := hr2.cell enc4_len HLk.out (j := 0) (by omega) rfl
          have d1 : w2.cell? ⟨g, m * 4 + 1, none⟩ = some (.int .i64 x.w) := hr2.cell enc4_len HLk.out (j := 1) (by omega) rfl
          have d2 : w2.cell? ⟨g, m * 4 + 2, none⟩ = some (.int .i32 x.r) := hr2.cell enc4_len HLk.out (j := 2) (by omega) rfl
          have d3 : w2.cell? ⟨g, m * 4 + 3, none⟩ = some (.bool x.broken) := hr2.cell enc4_len HLk.out (j := 3) (by omega) rfl
          have Hpk := Lib.hid hpk; have Hr2 := Lib.hid hr2; have Hb3 := Lib.hid hb3
          clear hpk hr2 hb2 hb3 c0 c1 c2 c3
          go_wp2_with fail
          refine (rof_any _ _ _ _ _ (by omega) (by omega)).mono ?_
          rintro e w3 ⟨rfl, hb4⟩
          have Hb4 := Lib.hid (Hb3.out.trans (hb4.mono Hb3.out.size))
          clear hb4 d0 d1 d2 d3
          go_wp2
          go_ret
          refine ⟨ret_bool ?_, Hb4.out⟩
          rw [he.out, Hsn.out]; simp [aft, Hpk.out]; rfl

set_option maxRecDepth 100000 in
set_option maxHeartbeats 4000000 in
theorem fol_any (l : List Pc) (v : Value) (k base : Nat) (w : World) (hlen : l.length ≤ 2147483647) (hk : k < l.length) (hval : ∀ p ∈ l, p.r ≤ 1114111)
    (hrw : Rw enc4 w base 47 4 v (l.map fun p => (p, p.broken))) :
    Calls Try.prog 71 #[v, .int .i64 k] w fun e w' => e = .returned (.bool (aft (l.drop (k + 1)))) ∧ Below w.heap.size w w' := by
  have hk1 : k ≤ 2147483647 := by omega
  have Hval := Lib.hid hval
  have hsh := hrw.shape
  rw [show (l.map fun p => (p, p.broken)).length = l.length by simp] at hsh
  rcases hsh with ⟨rfl, hL⟩ | ⟨g, cap, rfl, hbg, hglt, _, _⟩
  · exfalso; have : l = [] := by simpa using hL
    subst this; simp at hk
  clear hbg hglt hval
  have Hrw0 := Lib.hid hrw
  clear hrw
  go_enter Try.func71, Try.ntmps71
  go_wp2
  go_loopw [5] (fun i w' => ∃ j : Nat, i = .int .i64 j ∧ j ≤ l.length ∧ Hid (aft (l.drop (k + 1)) = aft (l.drop j)) ∧ Hid (Rw enc4 w' base 47 4 (.slice (some ⟨g, 0, none⟩) l.length cap) (l.map fun p => (p, p.broken))) ∧ Hid (Below w.heap.size w w')) (fun i _ => l.length - (intOf i).toNat)
  case atStart => exact ⟨k + 1, rfl, by omega, rfl, Hrw0, Below.refl _ _⟩
  case round =>
    obtain ⟨m, rfl, hj, he, hr, hb⟩ := hrel
    by_cases hml : m < l.length
    · obtain ⟨x, hx⟩ : ∃ x, l[m]? = some x := ⟨_, List.getElem?_eq_getElem hml⟩
      have hLk : (l.map fun p => (p, p.broken))[m]? = some (x, x.broken) := by rw [List.getElem?_map, hx]; rfl
      have hv : x.r ≤ 1114111 := Hval.out x (List.mem_of_getElem? hx)
      have hv1 : (-2147483648 : Int) ≤ (x.r : Int) := by omega
      have hv2 : (x.r : Int) ≤ 2147483647 := by omega
      have hlen' : (l.map fun p => (p, p.broken)).length = l.length := by simp
      have hsn := drop_cons l m x hx
      have hr' := hr.out
      rw [← hlen'] at hr'
      have c0 : wr.cell? ⟨g, m * 4, none⟩ = some (.int .i64 x.i) := hr'.cell enc4_len hLk (j := 0) (by omega) rfl
      have c1 : wr.cell? ⟨g, m * 4 + 1, none⟩ = some (.int .i64 x.w) := hr'.cell enc4_len hLk (j := 1) (by omega) rfl
      have c2 : wr.cell? ⟨g, m * 4 + 2, none⟩ = some (.int .i32 x.r) := hr'.cell enc4_len hLk (j := 2) (by omega) rfl
      have c3 : wr.cell? ⟨g, m * 4 + 3, none⟩ = some (.bool x.broken) := hr'.cell enc4_len hLk (j := 3) (by omega) rfl
      have Hx := Lib.hid hx; have HLk := Lib.hid hLk; have Hlen := Lib.hid hlen'; have Hsn := Lib.hid hsn; have Hr' := Lib.hid hr'
      clear hx hLk hlen' hr' hv hsn
      go_wp2_with fail
      refine (rof_any _ _ _ _ _ (by omega) (by omega)).mono ?_
      rintro e w2 ⟨rfl, hb2⟩
      have hr2 := Hr'.out.below hb2
      have hb3 := hb.out.trans (hb2.mono hb.out.size)
      cases h2 : (kindOf x.broken (x.r : Int) != 2)
      · have hpk : pk x = 2 := by unfold pk; simpa [bne] using h2
        have Hpk := Lib.hid hpk; have Hr2 := Lib.hid hr2; have Hb3 := Lib.hid hb3
        clear hpk hr2 hb2 hb3 c0 c1 c2 c3
        go_wp2
        go_roundw
        case rel => exact ⟨m + 1, rfl, by omega, by show _ = _; rw [he.out, Hsn.out]; simp [aft, Hpk.out], by show Rw enc4 _ _ _ _ (.slice _ l.length _) _; rw [← Hlen.out]; exact Hr2.out, Hb3.out⟩
        case measure => show l.length - (m + 1 : Int).toNat < l.length - (m : Int).toNat; omega
      · have hpk : pk x ≠ 2 := by unfold pk; simpa [bne] using h2
        have d0 : w2.cell? ⟨g, m * 4, none⟩ = some (.int .i64 x.i) := hr2.cell enc4_len HLk.out (j := 0) (by omega) rfl
        have d1 : w2.cell? ⟨g, m * 4 + 1, none⟩ = some (.int .i64 x.w) := hr2.cell enc4_len HLk.out (j := 1) (by omega) rfl
        have d2 : w2.cell? ⟨g, m * 4 + 2, none⟩ = some (.int .i32 x.r) := hr2.cell enc4_len HLk.out (j := 2) (by omega) rfl
        have d3 : w2.cell? ⟨g, m * 4 + 3, none⟩ = some (.bool x.broken) := hr2.cell enc4_len HLk.out (j := 3) (by omega) rfl
        have Hpk := Lib.hid hpk; have Hr2 := Lib.hid hr2; have Hb3 := Lib.hid hb3
        clear hpk hr2 hb2 hb3 c0 c1 c2 c3
        go_wp2_with fail
        refine (rof_any _ _ _ _ _ (by omega) (by omega)).mono ?_
        rintro e w3 ⟨rfl, hb4⟩
        have Hb4 := Lib.hid (Hb3.out.trans (hb4.mono Hb3.out.size))
        clear hb4 d0 d1 d2 d3
        go_wp2
        go_ret
        refine ⟨ret_bool ?_, Hb4.out⟩
        rw [he.out, Hsn.out]; simp [aft, Hpk.out]; rfl
    · have hkk : m = l.length := by omega
      subst hkk
      go_wp2
      go_ret
      refine ⟨ret_bool ?_, hb.out⟩
      rw [he.out, List.drop_length]; rfl

end Go.Proofs.Ytekjfmjeemjcjaa
