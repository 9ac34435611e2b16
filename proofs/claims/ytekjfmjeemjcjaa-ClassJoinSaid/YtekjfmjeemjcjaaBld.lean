/-
  strings.Builder's WriteString and String, at a builder that the call has made. Nothing is assumed.
-/
import Derived.Test.YtekjfmjeemjcjaaOnes
import Derived.Test.YtekjfmjeemjcjaaSep
import Derived.Lib.Builder
import Derived.Outline
import Derived.Lib.UnsafeStr
namespace Go.Proofs.Ytekjfmjeemjcjaa
open Go.RowKit Go.Lib Go.Shelf
attribute [local go_sem] Oper.semAt_some
set_option linter.unusedVariables false
set_option linter.unusedSimpArgs false

theorem bSize : ∃ j, Try.prog.info? 78 = some j ∧ j.size ≠ 0 := by
  have h : (Try.prog.info? 78).map (fun j => decide (j.size ≠ 0)) = some true := by kernel_rfl
  cases hj : Try.prog.info? 78 with
  | none => rw [hj] at h; simp at h
  | some j => rw [hj] at h; exact ⟨j, rfl, by simpa using h⟩

set_option maxRecDepth 100000 in
set_option maxHeartbeats 4000000 in
theorem check_new (b : Nat) (v : Value) (w : World) (h : w.heap[b]? = some (.cells #[.pointer none, v] 78 (0, 0))) :
    Calls Try.prog 74 #[.pointer (some ⟨b, 0, none⟩)] w fun e w' => e = .returned (.tuple #[]) ∧ w' = w.setCell ⟨b, 0, none⟩ (.pointer (some ⟨b, 0, none⟩)) := by
  have c0 : w.cell? ⟨b, 0, none⟩ = some (.pointer none) := cell_at h rfl
  have f0 := frozen_at h 0
  have hsh : w.shape? b = some (78, 2) := by simp [World.shape?, h]
  obtain ⟨j, hj, hjs⟩ := bSize
  clear h
  go_enter Try.func74, Try.ntmps74
  go_wp2
  rw [Lib.run_to_unsafe w ⟨b, 0, none⟩ (t := 78) (by kernel_rfl) (by kernel_rfl) hj hjs hsh (Nat.zero_lt_succ 1)]
  simp only [Result.andThen]
  rw [Oper.upon_value]
  go_wp2
  rw [run_callFunc_extern Try.func76 (by kernel_rfl) (by kernel_rfl) (by kernel_rfl) (e := Extern.AbiNoEscape.same) (by kernel_rfl)]
  rw [Lib.run_noEscape]
  simp only [Result.andThen]
  rw [Oper.upon_value]
  go_wp2
  rw [Lib.run_from_unsafe w ⟨b, 0, none⟩ (u := 78) (by kernel_rfl) (by kernel_rfl) hj hsh (by kernel_rfl)]
  simp only [Result.andThen]
  rw [Oper.upon_value]
  go_wp2
  go_end0
  exact ⟨rfl, rfl⟩
theorem check_used (b : Nat) (v : Value) (w : World) (h : w.heap[b]? = some (.cells #[.pointer (some ⟨b, 0, none⟩), v] 78 (0, 0))) :
    Calls Try.prog 74 #[.pointer (some ⟨b, 0, none⟩)] w fun e w' => e = .returned (.tuple #[]) ∧ w' = w := by
  have c0 : w.cell? ⟨b, 0, none⟩ = some (.pointer (some ⟨b, 0, none⟩)) := cell_at h rfl
  obtain ⟨j, hj, hjs⟩ := bSize
  clear h
  go_enter Try.func74, Try.ntmps74
  go_wp2
  rw [Lib.run_neq_ptr_same w _ (te := 78) (by kernel_rfl) hj]
  go_wp2
  go_end0
  exact ⟨rfl, rfl⟩

/-- A builder in block b that holds the bytes bs; C: its blocks. -/
def Bld (b : Nat) (bs : ByteArray) (C : Nat → Prop) (w : World) : Prop :=
  ∃ p v D, w.heap[b]? = some (.cells #[p, v] 78 (0, 0)) ∧ (p = .pointer none ∨ p = .pointer (some ⟨b, 0, none⟩)) ∧ Byt 5 v bs D w ∧ ¬ D b ∧ C = (fun k => k = b ∨ D k)
theorem Bld.local {b : Nat} {bs : ByteArray} {C : Nat → Prop} {w w' : World} (h : Bld b bs C w) (hk : ∀ k, C k → w'.heap[k]? = w.heap[k]?) : Bld b bs C w' := by
  obtain ⟨p, v, D, h1, h2, h3, h4, rfl⟩ := h
  exact ⟨p, v, D, (hk b (.inl rfl)).trans h1, h2, h3.local (fun k h => hk k (.inr h)), h4, rfl⟩
theorem Bld.lt {b : Nat} {bs : ByteArray} {C : Nat → Prop} {w : World} (h : Bld b bs C w) : ∀ k, C k → k < w.heap.size := by
  obtain ⟨p, v, D, h1, h2, h3, h4, rfl⟩ := h
  rintro k (rfl | hk)
  · exact lt_of_some h1
  · exact h3.lt k hk
theorem Bld.ext {b : Nat} {bs : ByteArray} {C D D' : Nat → Prop} {w w' : World} (h : Bld b bs C w) (hx : Ext D D' w w') (hd : ∀ k, C k → ¬ D k) : Bld b bs C w' :=
  h.local (fun k hk => hx.1.keep k (h.lt k hk) (hd k hk))
theorem Bld.new (w : World) : Bld w.heap.size ⟨#[]⟩ (fun k => k = w.heap.size) (w.alloc (.cells #[.pointer none, .slice none 0 0] 78)) :=
  ⟨_, _, _, World.alloc_heap_new w _, .inl rfl, Byt.nil, by simp, by funext k; simp⟩

set_option maxRecDepth 100000 in
set_option maxHeartbeats 4000000 in
theorem writeString_any (b : Nat) (bs s : ByteArray) (C : Nat → Prop) (w : World) (h : Bld b bs C w) (hn : bs.size + s.size ≤ 140737488355328) :
    Calls Try.prog 68 #[.pointer (some ⟨b, 0, none⟩), .string s] w fun e w' => (∃ u, e = .returned u) ∧ ∃ C', Bld b (bs ++ s) C' w' ∧ Ext C C' w w' := by
  obtain ⟨p, v, D, hbk, hp, hbr, hne, rfl⟩ := h
  obtain ⟨ip, hpi, hpz, hps, hpb⟩ := info_parts binfo
  obtain ⟨w1, hck, hb1, hbr1, hx1⟩ : ∃ w1, (Calls Try.prog 74 #[.pointer (some ⟨b, 0, none⟩)] w fun e w' => e = .returned (.tuple #[]) ∧ w' = w1) ∧
      w1.heap[b]? = some (.cells #[.pointer (some ⟨b, 0, none⟩), v] 78 (0, 0)) ∧ Byt 5 v bs D w1 ∧ Ext (fun k => k = b ∨ D k) (fun k => k = b ∨ D k) w w1 := by
    rcases hp with rfl | rfl
    · have hx : Ext (fun k => k = b) (fun k => k = b) w (w.setCell ⟨b, 0, none⟩ (.pointer (some ⟨b, 0, none⟩))) := Ext.setCell (C' := fun k => k = b) (Ext.refl _ _) (p := ⟨b, 0, none⟩) rfl _
      refine ⟨_, check_new b v w hbk, ?_, hbr.ext hx (by rintro k hk rfl; exact hne hk), Ext.setCell (C' := fun k => k = b ∨ D k) (Ext.refl _ _) (p := ⟨b, 0, none⟩) (.inl rfl) _⟩
      simp [World.setCell, Array.getElem?_modify, hbk]
    · exact ⟨w, check_used b v w hbk, hbk, hbr, Ext.refl _ _⟩
  have c1 : w1.cell? ⟨b, 1, none⟩ = some v := cell_at hb1 rfl
  have hlt : b < w1.heap.size := lt_of_some hb1
  have Hbk := Lib.hid hbk; have Hbr := Lib.hid hbr; have Hx1 := Lib.hid hx1
  clear hbk hbr hx1
  go_enter Try.func68, Try.ntmps68
  go_wp2_with (first | (go_at_call 74; refine hck.mono ?_; rintro e w' ⟨rfl, rfl⟩) | (refine wpList_append_byt _ rfl _ _ _ _ rfl 5 _ (by kernel_rfl) (by kernel_rfl) hpi hpz hps hpb _ _ _ rfl hbr1 _ rfl hn ?_))
  rintro v' w2 D' hr2 hx2
  have hb2 : w2.heap[b]? = some (.cells #[.pointer (some ⟨b, 0, none⟩), v] 78 (0, 0)) := (hx2.1.keep b hlt hne).trans hb1
  have f1 := frozen_at hb2 1
  have d1 : w2.cell? ⟨b, 1, none⟩ = some v := cell_at hb2 rfl
  have hne' : ¬ D' b := hx2.not hlt hne
  obtain ⟨ao, n', cap', rfl⟩ : ∃ ao n' cap', v' = .slice ao n' cap' := by
    rcases hr2.shape with ⟨rfl, _⟩ | ⟨g, cap, cur, rfl, _⟩ <;> exact ⟨_, _, _, rfl⟩
  have Hr2 := Lib.hid hr2; have Hx2 := Lib.hid hx2; have Hb2 := Lib.hid hb2
  clear hr2 hx2 hb2
  go_wp2
  go_ret2
  have hx3 : Ext (fun k => k = b ∨ D' k) (fun k => k = b ∨ D' k) w2 (w2.setCell ⟨b, 1, none⟩ (.slice ao n' cap')) := Ext.setCell (C' := fun k => k = b ∨ D' k) (Ext.refl _ _) (p := ⟨b, 1, none⟩) (.inl rfl) _
  have hx3' : Ext (fun k => k = b) (fun k => k = b) w2 (w2.setCell ⟨b, 1, none⟩ (.slice ao n' cap')) := Ext.setCell (C' := fun k => k = b) (Ext.refl _ _) (p := ⟨b, 1, none⟩) rfl _
  refine ⟨⟨_, rfl⟩, fun k => k = b ∨ D' k, ⟨_, _, D', ?_, .inr rfl, Hr2.out.ext hx3' (by rintro k hk rfl; exact hne' hk), hne', rfl⟩, ?_⟩
  · simp [World.setCell, Array.getElem?_modify, Hb2.out]
  · refine (Hx1.out.trans ?_).trans hx3
    exact ⟨Hx2.out.1.weaken (fun k _ h => .inr h), fun k hk => by
      rcases hk with rfl | hk
      · exact .inl (.inl rfl)
      · exact (Hx2.out.2 k hk).imp .inr id⟩

/-- The string of a builder. -/
theorem freeze_ext {C C' : Nat → Prop} {a w : World} (h : Ext C C' a w) {g : Nat} (hg : C' g) (m : Nat) : Ext C C' a (w.freeze ⟨g, 0, none⟩ m) := by
  unfold World.freeze
  split
  · exact h
  · have hs : ∀ f : Obj → Obj, ({ w with heap := w.heap.modify g f } : World).heap.size = w.heap.size := fun f => by simp
    refine ⟨⟨h.1.os, h.1.tape, h.1.output, by simpa using h.1.size, fun k hk hn => ?_⟩, fun k hk => by simpa using h.2 k hk⟩
    rw [Array.getElem?_modify]
    rw [if_neg]
    · exact h.1.keep k hk hn
    · intro e
      have e' : g = k := e
      subst e'
      rcases h.2 _ hg with h' | h'
      · exact hn h'
      · omega

set_option maxRecDepth 100000 in
set_option maxHeartbeats 4000000 in
theorem bstring_any (b : Nat) (bs : ByteArray) (C : Nat → Prop) (w : World) (h : Bld b bs C w) :
    Calls Try.prog 69 #[.pointer (some ⟨b, 0, none⟩)] w fun e w' => e = .returned (.string bs) ∧ Ext C C w w' := by
  obtain ⟨p, v, D, hbk, hp, hbr, hne, rfl⟩ := h
  rcases hbr.shape with ⟨rfl, rfl, rfl⟩ | ⟨g, cap, cur, rfl, hgl, hbc, hcm, rfl, hg⟩
  · have c1 : w.drew.cell? ⟨b, 1, none⟩ = some (.slice none 0 0) := cell_at (w := w.drew) hbk rfl
    have hSD : (Builtin.unsafeSliceData_ #[67] 84 #[.slice none 0 0]).run Try.prog w.drew = .ok (.pointer none) w.drew := rfl
    have hUS : ∀ W q, (Builtin.unsafeString_ #[84, 3] 9 #[.pointer q, .int .i64 0]).run Try.prog W = .ok (.string .empty) W := fun W q => Lib.run_unsafeString_none W _ _ _ q
    clear hbk hbr
    go_enter Try.func69, Try.ntmps69
    go_wp2
    go_region
    all_goals (go_wp2; go_ret; exact ⟨rfl, (Ext.refl _ _).drew⟩)
  · by_cases h0 : bs.size = 0
    · have hbs : bs = ⟨#[]⟩ := by apply ByteArray.ext; exact Array.eq_empty_of_size_eq_zero h0
      subst hbs
      have h00 : (⟨#[]⟩ : ByteArray).size = 0 := rfl
      rw [h00] at hbk hbr
      have hUS : ∀ W q, (Builtin.unsafeString_ #[84, 3] 9 #[.pointer q, .int .i64 0]).run Try.prog W = .ok (.string .empty) W := fun W q => Lib.run_unsafeString_none W _ _ _ q
      have c1 : w.drew.cell? ⟨b, 1, none⟩ = some (.slice (some ⟨g, 0, none⟩) 0 cap) := cell_at (w := w.drew) hbk rfl
      by_cases hc0 : cap = 0
      · subst hc0
        have hSD : (Builtin.unsafeSliceData_ #[67] 84 #[.slice (some ⟨g, 0, none⟩) 0 0]).run Try.prog w.drew = .ok (.pointer (some ⟨w.drew.heap.size, 0, none⟩)) (w.drew.alloc (.view ⟨g, 0, none⟩ 5)) :=
          Lib.run_unsafeSliceData_zero w.drew _ _ 5 (by kernel_rfl) ⟨g, 0, none⟩ 0 (5, cur.size) (by have hg' : w.drew.heap[g]? = some (.cells cur 5 (0, 0)) := hg; simp [World.shape?, hg'])
        have hlt := lt_of_some hbk
        have c2 : (w.drew.alloc (.view ⟨g, 0, none⟩ 5)).cell? ⟨b, 1, none⟩ = some (.slice (some ⟨g, 0, none⟩) 0 0) := cell_at (w := w.drew.alloc _) ((Below.heap_alloc w.drew _ b hlt).trans hbk) rfl
        have c3 : (w.alloc (.view ⟨g, 0, none⟩ 5)).drew.cell? ⟨b, 1, none⟩ = some (.slice (some ⟨g, 0, none⟩) 0 0) := c2
        have c0 : w.cell? ⟨b, 1, none⟩ = some (.slice (some ⟨g, 0, none⟩) 0 0) := c1
        clear hbk hbr hg
        go_enter Try.func69, Try.ntmps69
        go_wp2
        go_region
        all_goals (go_wp2; go_ret; exact ⟨rfl, (Ext.refl _ _).drew.alloc _⟩)
      · have hSD : (Builtin.unsafeSliceData_ #[67] 84 #[.slice (some ⟨g, 0, none⟩) 0 cap]).run Try.prog w.drew = .ok (.pointer (some ⟨g, 0, none⟩)) w.drew := Lib.run_unsafeSliceData_row _ _ _ _ _ _ hc0
        clear hbk hbr hg hc0
        go_enter Try.func69, Try.ntmps69
        go_wp2
        go_region
        all_goals (go_wp2; go_ret; exact ⟨rfl, (Ext.refl _ _).drew⟩)
    · obtain ⟨l, hl⟩ : ∃ l, l = bs.data.toList := ⟨_, rfl⟩
      have hll : l.length = bs.size := by rw [hl, Array.length_toList]; rfl
      have hbs : bs = ⟨l.toArray⟩ := by rw [hl]
      have hl0 : l ≠ [] := by intro e; rw [e] at hll; exact h0 hll.symm
      rw [← hll] at hbk hbc hbr
      have c1 : w.drew.cell? ⟨b, 1, none⟩ = some (.slice (some ⟨g, 0, none⟩) l.length cap) := cell_at (w := w.drew) hbk rfl
      have hSD : (Builtin.unsafeSliceData_ #[67] 84 #[.slice (some ⟨g, 0, none⟩) l.length cap]).run Try.prog w.drew = .ok (.pointer (some ⟨g, 0, none⟩)) w.drew :=
        Lib.run_unsafeSliceData_row _ _ _ _ _ _ (by omega)
      have hcs : cur.size = cap * 1 := by
        rcases hbr.1.2 with ⟨h1, _⟩ | ⟨g', cap', cur', h1, _, h3, _, _, h6, _⟩
        · cases h1
        · have e1 : g = g' := by injection h1 with q1 q2 q3; injection q1 with q1; injection q1
          have e2 : cap = cap' := by injection h1
          subst e1; subst e2
          rw [hg] at h3; injection h3 with h3; injection h3 with h3
          rw [h3]; exact h6
      have hUS : (Builtin.unsafeString_ #[84, 3] 9 #[.pointer (some ⟨g, 0, none⟩), .int .i64 l.length]).run Try.prog w.drew = .ok (.string ⟨l.toArray⟩) (w.drew.freeze ⟨g, 0, none⟩ l.length) := by
        refine Lib.run_unsafeString_row w.drew 84 3 9 5 (by kernel_rfl) (by kernel_rfl) g cur.size (by have hg' : w.drew.heap[g]? = some (.cells cur 5 (0, 0)) := hg; simp [World.shape?, hg']) l hl0 (by omega) (by unfold maxLen at hcm; omega) ?_
        intro j x hx
        refine World.ownsRow.cells hbr.1 (g := g) rfl j (.int .u8 x.toNat) ?_
        unfold strCells
        rw [List.getElem?_map, ← hl, hx]; rfl
      rw [hbs]
      have hx : Ext (fun k => k = b ∨ k = g) (fun k => k = b ∨ k = g) w (w.drew.freeze ⟨g, 0, none⟩ l.length) := freeze_ext ((Ext.refl _ _).drew) (.inr rfl) _
      have Hx := Lib.hid hx
      clear hbk hbr hg hx hbs hll hcs
      clear hl
      go_enter Try.func69, Try.ntmps69
      go_wp2
      go_region
      all_goals (go_wp2; go_ret; exact ⟨rfl, Hx.out⟩)

end Go.Proofs.Ytekjfmjeemjcjaa
