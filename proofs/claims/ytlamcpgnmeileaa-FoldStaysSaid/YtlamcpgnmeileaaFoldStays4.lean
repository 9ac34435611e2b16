/-
  Texts laid together: RefLow, RefUp, Small, Ones, Bld, Turn, RefHead, Txt, Txt2, Tf, Texts, LfFoldStays, PlFoldStays. Nothing is assumed.
-/
import Derived.Test.YtlamcpgnmeileaaFoldStays3
import Derived.Test.YtlamcpgnmeileaaFoldStays1
import Derived.Lib.Builder
import Derived.Outline
import Derived.Lib.UnsafeStr
import Derived.Shelf.AbstractIn
import Derived.Test.YtlamcpgnmeileaaFoldStays2
namespace Go.Proofs.Ytlamcpgnmeileaa
open Go.RowKit Go.Lib Go.Shelf
attribute [local go_sem] Oper.semAt_some
set_option linter.unusedVariables false
set_option linter.unusedSimpArgs false

/-- The first k pieces' forms, one behind the other. -/
def cat (f : Nat → Pc → ByteArray) (l : List Pc) : Nat → ByteArray
  | 0 => ⟨#[]⟩
  | k + 1 => cat f l k ++ (match l[k]? with | some x => f k x | none => ⟨#[]⟩)
theorem cat_succ (f : Nat → Pc → ByteArray) (l : List Pc) (k : Nat) (x : Pc) (h : l[k]? = some x) : cat f l (k + 1) = cat f l k ++ f k x := by simp [cat, h]
def lowText (s : ByteArray) : ByteArray := cat (fun k x => lowOne s (pcs s.data.toList) k x) (pcs s.data.toList) (pcs s.data.toList).length

theorem pcs_w4 (l : List UInt8) (x : Pc) (h : x ∈ pcs l) : x.w ≤ 4 := by
  obtain ⟨_, _, hok⟩ := pcs_pos l x h
  by_cases hb : x.r = 65533 ∧ x.w = 1
  · omega
  · have := hok.width hb
    have := (encodeRune_len (x.r : Int)).2
    omega
theorem binfo : (Try.prog.info? 5).map (fun i => (i.zero, i.size, i.bytes)) = some (some (.int .u8 0), 1, 1) := by kernel_rfl

end Go.Proofs.Ytlamcpgnmeileaa
namespace Go.Proofs.Ytlamcpgnmeileaa
open Go.RowKit Go.Lib Go.Shelf
attribute [local go_sem] Oper.semAt_some
set_option linter.unusedVariables false
set_option linter.unusedSimpArgs false

/-- A piece in great letters. -/
def upOne (s : ByteArray) (p : Pc) : ByteArray :=
  if pk p ≠ 1 then s.extract p.i (p.i + p.w) else if p.r = 223 then ⟨#[83, 83]⟩ else Utf8.encode (upper p.r)
def upText (s : ByteArray) : ByteArray := cat (fun _ x => upOne s x) (pcs s.data.toList) (pcs s.data.toList).length
end Go.Proofs.Ytlamcpgnmeileaa
namespace Go.Proofs.Ytlamcpgnmeileaa
open Go.RowKit Go.Lib Go.Shelf
attribute [local go_sem] Oper.semAt_some
set_option linter.unusedVariables false
set_option linter.unusedSimpArgs false

/-- A letter in small letters: what stands ahead and behind is told. -/
def smallOne (r : Int) (led : Bool) (rest : ByteArray) : ByteArray := if r = 931 ∧ led = true ∧ aft (pcs rest.data.toList) = false then ⟨#[207, 130]⟩ else Utf8.encode (lower r)

set_option maxRecDepth 100000 in
set_option maxHeartbeats 4000000 in
theorem small1_any (r : Int) (led : Bool) (rest : ByteArray) (w : World) (h0 : -2147483648 ≤ r) (h1 : r ≤ 2147483647) (hs : rest.size ≤ 2147483647) :
    Calls Try.prog 45 #[.int .i32 r, .bool led, .string rest] w fun e w' => e = .returned (.string (smallOne r led rest)) ∧ Below w.heap.size w w' := by
  have hno : ∀ w, (r == 931) = false → Calls Try.prog 45 #[.int .i32 r, .bool led, .string rest] w fun e w' => e = .returned (.string (smallOne r led rest)) ∧ Below w.heap.size w w' := by
    intro w e1
    have h2 : r ≠ 931 := by simpa using e1
    have hq : Hid (smallOne r led rest = Utf8.encode (lower r)) := by show _ = _; unfold smallOne; rw [if_neg (by simp [h2])]
    clear h2
    go_enter Try.func45, Try.ntmps45
    go_wp2_with (first | (go_at_call 52; refine (lower_any _ _ (by omega) (by omega)).mono ?_; rintro e w' ⟨rfl, rfl⟩))
    go_ret
    exact ⟨ret_str hq.out.symm, Below.refl _ _⟩
  by_cases h931 : r = 931
  · have e1 : (r == 931) = true := by simp [h931]
    cases led
    · have hq : Hid (smallOne r false rest = Utf8.encode (lower r)) := by show _ = _; unfold smallOne; rw [if_neg (by simp)]
      clear hno h931
      go_enter Try.func45, Try.ntmps45
      go_wp2_with (first | (go_at_call 52; refine (lower_any _ _ (by omega) (by omega)).mono ?_; rintro e w' ⟨rfl, rfl⟩))
      go_ret
      exact ⟨ret_str hq.out.symm, Below.refl _ _⟩
    · have H := Lib.hid h931
      clear hno h931
      go_enter Try.func45, Try.ntmps45
      go_wp2_with fail
      refine (followed_any _ _ hs).mono ?_
      rintro e w2 ⟨rfl, hb⟩
      have Hb := Lib.hid hb
      clear hb
      cases hf : aft (pcs rest.data.toList)
      · have hq : Hid (smallOne r true rest = ⟨#[207, 130]⟩) := by show _ = _; unfold smallOne; rw [if_pos ⟨H.out, rfl, hf⟩]
        clear hf
        go_wp2
        go_ret
        exact ⟨ret_str hq.out.symm, Hb.out⟩
      · have hq : Hid (smallOne r true rest = Utf8.encode (lower r)) := by show _ = _; unfold smallOne; rw [if_neg (by simp [hf])]
        clear hf
        go_wp2_with (first | (go_at_call 52; refine (lower_any _ _ (by omega) (by omega)).mono ?_; rintro e w' ⟨rfl, rfl⟩))
        go_ret
        exact ⟨ret_str hq.out.symm, Hb.out⟩
  · exact hno w (by simp [h931])

end Go.Proofs.Ytlamcpgnmeileaa
namespace Go.Proofs.Ytlamcpgnmeileaa
open Go.RowKit Go.Lib Go.Shelf
attribute [local go_sem] Oper.semAt_some
set_option linter.unusedVariables false
set_option linter.unusedSimpArgs false

def upLet (r : Int) : ByteArray := if r = 223 then ⟨#[83, 83]⟩ else Utf8.encode (upper r)
def headLet (r : Int) (led : Bool) (rest : ByteArray) : ByteArray := if led = true then smallOne r led rest else Utf8.encode (upper r)

set_option maxRecDepth 100000 in
set_option maxHeartbeats 4000000 in
theorem up1_any (r : Int) (led : Bool) (rest : ByteArray) (w : World) (h0 : -2147483648 ≤ r) (h1 : r ≤ 2147483647) :
    Calls Try.prog 46 #[.int .i32 r, .bool led, .string rest] w fun e w' => e = .returned (.string (upLet r)) ∧ Below w.heap.size w w' := by
  by_cases hr : r = 223
  · have e1 : (r == 223) = true := by simp [hr]
    have hq : Hid (upLet r = ⟨#[83, 83]⟩) := by show _ = _; unfold upLet; rw [if_pos hr]
    clear hr
    go_enter Try.func46, Try.ntmps46
    go_wp2
    go_ret
    exact ⟨ret_str hq.out.symm, Below.refl _ _⟩
  · have e1 : (r == 223) = false := by simp [hr]
    have hq : Hid (upLet r = Utf8.encode (upper r)) := by show _ = _; unfold upLet; rw [if_neg hr]
    clear hr
    go_enter Try.func46, Try.ntmps46
    go_wp2_with (first | (go_at_call 47; refine (upper_any _ _ (by omega) (by omega)).mono ?_; rintro e w' ⟨rfl, rfl⟩))
    go_ret
    exact ⟨ret_str hq.out.symm, Below.refl _ _⟩

set_option maxRecDepth 100000 in
set_option maxHeartbeats 4000000 in
theorem head1_any (r : Int) (led : Bool) (rest : ByteArray) (w : World) (h0 : -2147483648 ≤ r) (h1 : r ≤ 2147483647) (hs : rest.size ≤ 2147483647) :
    Calls Try.prog 48 #[.int .i32 r, .bool led, .string rest] w fun e w' => e = .returned (.string (headLet r led rest)) ∧ Below w.heap.size w w' := by
  cases led
  · have hq : Hid (headLet r false rest = Utf8.encode (upper r)) := by show _ = _; unfold headLet; rw [if_neg (by simp)]
    go_enter Try.func48, Try.ntmps48
    go_wp2_with (first | (go_at_call 47; refine (upper_any _ _ (by omega) (by omega)).mono ?_; rintro e w' ⟨rfl, rfl⟩))
    go_ret
    exact ⟨ret_str hq.out.symm, Below.refl _ _⟩
  · have hq : Hid (headLet r true rest = smallOne r true rest) := by show _ = _; unfold headLet; rw [if_pos rfl]
    go_enter Try.func48, Try.ntmps48
    go_wp2_with fail
    refine (small1_any _ _ _ _ (by omega) (by omega) hs).mono ?_
    rintro e w2 ⟨rfl, hb⟩
    have Hb := Lib.hid hb
    clear hb
    go_wp2
    go_ret
    exact ⟨ret_str hq.out.symm, Hb.out⟩

end Go.Proofs.Ytlamcpgnmeileaa
namespace Go.Proofs.Ytlamcpgnmeileaa
open Go.RowKit Go.Lib Go.Shelf
attribute [local go_sem] Oper.semAt_some
set_option linter.unusedVariables false
set_option linter.unusedSimpArgs false

theorem bSize : ∃ j, Try.prog.info? 102 = some j ∧ j.size ≠ 0 := by
  have h : (Try.prog.info? 102).map (fun j => decide (j.size ≠ 0)) = some true := by kernel_rfl
  cases hj : Try.prog.info? 102 with
  | none => rw [hj] at h; simp at h
  | some j => rw [hj] at h; exact ⟨j, rfl, by simpa using h⟩

set_option maxRecDepth 100000 in
set_option maxHeartbeats 4000000 in
theorem check_new (b : Nat) (v : Value) (w : World) (h : w.heap[b]? = some (.cells #[.pointer none, v] 102 (0, 0))) :
    Calls Try.prog 88 #[.pointer (some ⟨b, 0, none⟩)] w fun e w' => e = .returned (.tuple #[]) ∧ w' = w.setCell ⟨b, 0, none⟩ (.pointer (some ⟨b, 0, none⟩)) := by
  have c0 : w.cell? ⟨b, 0, none⟩ = some (.pointer none) := cell_at h rfl
  have f0 := frozen_at h 0
  have hsh : w.shape? b = some (102, 2) := by simp [World.shape?, h]
  obtain ⟨j, hj, hjs⟩ := bSize
  clear h
  go_enter Try.func88, Try.ntmps88
  go_wp2
  rw [Lib.run_to_unsafe w ⟨b, 0, none⟩ (t := 102) (by kernel_rfl) (by kernel_rfl) hj hjs hsh (Nat.zero_lt_succ 1)]
  simp only [Result.andThen]
  rw [Oper.upon_value]
  go_wp2
  rw [run_callFunc_extern Try.func95 (by kernel_rfl) (by kernel_rfl) (by kernel_rfl) (e := Extern.AbiNoEscape.same) (by kernel_rfl)]
  rw [Lib.run_noEscape]
  simp only [Result.andThen]
  rw [Oper.upon_value]
  go_wp2
  rw [Lib.run_from_unsafe w ⟨b, 0, none⟩ (u := 102) (by kernel_rfl) (by kernel_rfl) hj hsh (by kernel_rfl)]
  simp only [Result.andThen]
  rw [Oper.upon_value]
  go_wp2
  go_end0
  exact ⟨rfl, rfl⟩
set_option maxRecDepth 100000 in
set_option maxHeartbeats 4000000 in
theorem check_used (b : Nat) (v : Value) (w : World) (h : w.heap[b]? = some (.cells #[.pointer (some ⟨b, 0, none⟩), v] 102 (0, 0))) :
    Calls Try.prog 88 #[.pointer (some ⟨b, 0, none⟩)] w fun e w' => e = .returned (.tuple #[]) ∧ w' = w := by
  have c0 : w.cell? ⟨b, 0, none⟩ = some (.pointer (some ⟨b, 0, none⟩)) := cell_at h rfl
  obtain ⟨j, hj, hjs⟩ := bSize
  clear h
  go_enter Try.func88, Try.ntmps88
  go_wp2
  rw [Lib.run_neq_ptr_same w _ (te := 102) (by kernel_rfl) hj]
  go_wp2
  go_end0
  exact ⟨rfl, rfl⟩

/-- A builder in block b that holds the bytes bs; C: its blocks. -/
def Bld (b : Nat) (bs : ByteArray) (C : Nat → Prop) (w : World) : Prop :=
  ∃ p v D, w.heap[b]? = some (.cells #[p, v] 102 (0, 0)) ∧ (p = .pointer none ∨ p = .pointer (some ⟨b, 0, none⟩)) ∧ Byt 5 v bs D w ∧ ¬ D b ∧ C = (fun k => k = b ∨ D k)
theorem Bld.local {b : Nat} {bs : ByteArray} {C : Nat → Prop} {w w' : World} (h : Bld b bs C w) (hk : ∀ k, C k → w'.heap[k]? = w.heap[k]?) : Bld b bs C w' := by
  obtain ⟨p, v, D, h1, h2, h3, h4, rfl⟩ := h
  exact ⟨p, v, D, (hk b (.inl rfl)).trans h1, h2, h3.local (fun k h => hk k (.inr h)), h4, rfl⟩
theorem Bld.lt {b : Nat} {bs : ByteArray} {C : Nat → Prop} {w : World} (h : Bld b bs C w) : ∀ k, C k → k < w.heap.size := by
  obtain ⟨p, v, D, h1, h2, h3, h4, rfl⟩ := h
  rintro k (rfl | hk)
  · exact lt_of_some h1
  · exact h3.lt k hk
theorem Bld.ext {b : Nat} {bs : ByteArray} {C D D' : Nat → Prop} {w w' : World} (h : Bld b bs C w) (hx : Ext D D' w w') (hd : ∀ k, C k → ¬ D k) : Bld b bs C w' :=
  h.local (fun k hk => hx.1.keep k (h.lt k hk) (hd k hk))
theorem Bld.new (w : World) : Bld w.heap.size ⟨#[]⟩ (fun k => k = w.heap.size) (w.alloc (.cells #[.pointer none, .slice none 0 0] 102)) :=
  ⟨_, _, _, World.alloc_heap_new w _, .inl rfl, Byt.nil, by simp, by funext k; simp⟩

set_option maxRecDepth 100000 in
set_option maxHeartbeats 4000000 in
theorem writeString_any (b : Nat) (bs s : ByteArray) (C : Nat → Prop) (w : World) (h : Bld b bs C w) (hn : bs.size + s.size ≤ 140737488355328) :
    Calls Try.prog 69 #[.pointer (some ⟨b, 0, none⟩), .string s] w fun e w' => (∃ u, e = .returned u) ∧ ∃ C', Bld b (bs ++ s) C' w' ∧ Ext C C' w w' := by
  obtain ⟨p, v, D, hbk, hp, hbr, hne, rfl⟩ := h
  obtain ⟨ip, hpi, hpz, hps, hpb⟩ := info_parts binfo
  obtain ⟨w1, hck, hb1, hbr1, hx1⟩ : ∃ w1, (Calls Try.prog 88 #[.pointer (some ⟨b, 0, none⟩)] w fun e w' => e = .returned (.tuple #[]) ∧ w' = w1) ∧
      w1.heap[b]? = some (.cells #[.pointer (some ⟨b, 0, none⟩), v] 102 (0, 0)) ∧ Byt 5 v bs D w1 ∧ Ext (fun k => k = b ∨ D k) (fun k => k = b ∨ D k) w w1 := by
    rcases hp with rfl | rfl
    · have hx : Ext (fun k => k = b) (fun k => k = b) w (w.setCell ⟨b, 0, none⟩ (.pointer (some ⟨b, 0, none⟩))) := Ext.setCell (C' := fun k => k = b) (Ext.refl _ _) (p := ⟨b, 0, none⟩) rfl _
      refine ⟨_, check_new b v w hbk, ?_, hbr.ext hx (by rintro k hk rfl; exact hne hk), Ext.setCell (C' := fun k => k = b ∨ D k) (Ext.refl _ _) (p := ⟨b, 0, none⟩) (.inl rfl) _⟩
      simp [World.setCell, Array.getElem?_modify, hbk]
    · exact ⟨w, check_used b v w hbk, hbk, hbr, Ext.refl _ _⟩
  have c1 : w1.cell? ⟨b, 1, none⟩ = some v := cell_at hb1 rfl
  have hlt : b < w1.heap.size := lt_of_some hb1
  have Hbk := Lib.hid hbk; have Hbr := Lib.hid hbr; have Hx1 := Lib.hid hx1
  clear hbk hbr hx1
  go_enter Try.func69, Try.ntmps69
  go_wp2_with (first | (go_at_call 88; refine hck.mono ?_; rintro e w' ⟨rfl, rfl⟩) | (refine wpList_append_byt _ rfl _ _ _ _ rfl 5 _ (by kernel_rfl) (by kernel_rfl) hpi hpz hps hpb _ _ _ rfl hbr1 _ rfl hn ?_))
  rintro v' w2 D' hr2 hx2
  have hb2 : w2.heap[b]? = some (.cells #[.pointer (some ⟨b, 0, none⟩), v] 102 (0, 0)) := (hx2.1.keep b hlt hne).trans hb1
  have f1 := frozen_at hb2 1
  have d1 : w2.cell? ⟨b, 1, none⟩ = some v := cell_at hb2 rfl
  have hne' : ¬ D' b := hx2.not hlt hne
  obtain ⟨ao, n', cap', rfl⟩ : ∃ ao n' cap', v' = .slice ao n' cap' := by
    rcases hr2.shape with ⟨rfl, _⟩ | ⟨g, cap, cur, rfl, _⟩ <;> exact ⟨_, _, _, rfl⟩
  have Hr2 := Lib.hid hr2; have Hx2 := Lib.hid hx2; have Hb2 := Lib.hid hb2
  clear hr2 hx2 hb2
  go_wp2
  go_ret2
  have hx3 : Ext (fun k => k = b ∨ D' k) (fun k => k = b ∨ D' k) w2 (w2.setCell ⟨b, 1, none⟩ (.slice ao n' cap')) := Ext.setCell (C' := fun k => k = b ∨ D' k) (Ext.refl _ _) (p := ⟨b, 1, none⟩) (.inl rfl) _
  have hx3' : Ext (fun k => k = b) (fun k => k = b) w2 (w2.setCell ⟨b, 1, none⟩ (.slice ao n' cap')) := Ext.setCell (C' := fun k => k = b) (Ext.refl _ _) (p := ⟨b, 1, none⟩) rfl _
  refine ⟨⟨_, rfl⟩, fun k => k = b ∨ D' k, ⟨_, _, D', ?_, .inr rfl, Hr2.out.ext hx3' (by rintro k hk rfl; exact hne' hk), hne', rfl⟩, ?_⟩
  · simp [World.setCell, Array.getElem?_modify, Hb2.out]
  · refine (Hx1.out.trans ?_).trans hx3
    exact ⟨Hx2.out.1.weaken (fun k _ h => .inr h), fun k hk => by
      rcases hk with rfl | hk
      · exact .inl (.inl rfl)
      · exact (Hx2.out.2 k hk).imp .inr id⟩

/-- The string of a builder. -/
theorem freeze_ext {C C' : Nat → Prop} {a w : World} (h : Ext C C' a w) {g : Nat} (hg : C' g) (m : Nat) : Ext C C' a (w.freeze ⟨g, 0, none⟩ m) := by
  unfold World.freeze
  split
  · exact h
  · have hs : ∀ f : Obj → Obj, ({ w with heap := w.heap.modify g f } : World).heap.size = w.heap.size := fun f => by simp
    refine ⟨⟨h.1.os, h.1.tape, h.1.output, by simpa using h.1.size, fun k hk hn => ?_⟩, fun k hk => by simpa using h.2 k hk⟩
    rw [Array.getElem?_modify]
    rw [if_neg]
    · exact h.1.keep k hk hn
    · intro e
      have e' : g = k := e
      subst e'
      rcases h.2 _ hg with h' | h'
      · exact hn h'
      · omega

set_option maxRecDepth 100000 in
set_option maxHeartbeats 4000000 in
theorem bstring_any (b : Nat) (bs : ByteArray) (C : Nat → Prop) (w : World) (h : Bld b bs C w) :
    Calls Try.prog 70 #[.pointer (some ⟨b, 0, none⟩)] w fun e w' => e = .returned (.string bs) ∧ Ext C C w w' := by
  obtain ⟨p, v, D, hbk, hp, hbr, hne, rfl⟩ := h
  rcases hbr.shape with ⟨rfl, rfl, rfl⟩ | ⟨g, cap, cur, rfl, hgl, hbc, hcm, rfl, hg⟩
  · have c1 : w.drew.cell? ⟨b, 1, none⟩ = some (.slice none 0 0) := cell_at (w := w.drew) hbk rfl
    have hSD : (Builtin.unsafeSliceData_ #[82] 119 #[.slice none 0 0]).run Try.prog w.drew = .ok (.pointer none) w.drew := rfl
    have hUS : ∀ W q, (Builtin.unsafeString_ #[119, 3] 9 #[.pointer q, .int .i64 0]).run Try.prog W = .ok (.string .empty) W := fun W q => Lib.run_unsafeString_none W _ _ _ q
    clear hbk hbr
    go_enter Try.func70, Try.ntmps70
    go_wp2
    go_region
    all_goals (go_wp2; go_ret; exact ⟨rfl, (Ext.refl _ _).drew⟩)
  · by_cases h0 : bs.size = 0
    · have hbs : bs = ⟨#[]⟩ := by apply ByteArray.ext; exact Array.eq_empty_of_size_eq_zero h0
      subst hbs
      have h00 : (⟨#[]⟩ : ByteArray).size = 0 := rfl
      rw [h00] at hbk hbr
      have hUS : ∀ W q, (Builtin.unsafeString_ #[119, 3] 9 #[.pointer q, .int .i64 0]).run Try.prog W = .ok (.string .empty) W := fun W q => Lib.run_unsafeString_none W _ _ _ q
      have c1 : w.drew.cell? ⟨b, 1, none⟩ = some (.slice (some ⟨g, 0, none⟩) 0 cap) := cell_at (w := w.drew) hbk rfl
      by_cases hc0 : cap = 0
      · subst hc0
        have hSD : (Builtin.unsafeSliceData_ #[82] 119 #[.slice (some ⟨g, 0, none⟩) 0 0]).run Try.prog w.drew = .ok (.pointer (some ⟨w.drew.heap.size, 0, none⟩)) (w.drew.alloc (.view ⟨g, 0, none⟩ 5)) :=
          Lib.run_unsafeSliceData_zero w.drew _ _ 5 (by kernel_rfl) ⟨g, 0, none⟩ 0 (5, cur.size) (by have hg' : w.drew.heap[g]? = some (.cells cur 5 (0, 0)) := hg; simp [World.shape?, hg'])
        have hlt := lt_of_some hbk
        have c2 : (w.drew.alloc (.view ⟨g, 0, none⟩ 5)).cell? ⟨b, 1, none⟩ = some (.slice (some ⟨g, 0, none⟩) 0 0) := cell_at (w := w.drew.alloc _) ((Below.heap_alloc w.drew _ b hlt).trans hbk) rfl
        have c3 : (w.alloc (.view ⟨g, 0, none⟩ 5)).drew.cell? ⟨b, 1, none⟩ = some (.slice (some ⟨g, 0, none⟩) 0 0) := c2
        have c0 : w.cell? ⟨b, 1, none⟩ = some (.slice (some ⟨g, 0, none⟩) 0 0) := c1
        clear hbk hbr hg
        go_enter Try.func70, Try.ntmps70
        go_wp2
        go_region
        all_goals (go_wp2; go_ret; exact ⟨rfl, (Ext.refl _ _).drew.alloc _⟩)
      · have hSD : (Builtin.unsafeSliceData_ #[82] 119 #[.slice (some ⟨g, 0, none⟩) 0 cap]).run Try.prog w.drew = .ok (.pointer (some ⟨g, 0, none⟩)) w.drew := Lib.run_unsafeSliceData_row _ _ _ _ _ _ hc0
        clear hbk hbr hg hc0
        go_enter Try.func70, Try.ntmps70
        go_wp2
        go_region
        all_goals (go_wp2; go_ret; exact ⟨rfl, (Ext.refl _ _).drew⟩)
    · obtain ⟨l, hl⟩ : ∃ l, l = bs.data.toList := ⟨_, rfl⟩
      have hll : l.length = bs.size := by rw [hl, Array.length_toList]; rfl
      have hbs : bs = ⟨l.toArray⟩ := by rw [hl]
      have hl0 : l ≠ [] := by intro e; rw [e] at hll; exact h0 hll.symm
      rw [← hll] at hbk hbc hbr
      have c1 : w.drew.cell? ⟨b, 1, none⟩ = some (.slice (some ⟨g, 0, none⟩) l.length cap) := cell_at (w := w.drew) hbk rfl
      have hSD : (Builtin.unsafeSliceData_ #[82] 119 #[.slice (some ⟨g, 0, none⟩) l.length cap]).run Try.prog w.drew = .ok (.pointer (some ⟨g, 0, none⟩)) w.drew :=
        Lib.run_unsafeSliceData_row _ _ _ _ _ _ (by omega)
      have hcs : cur.size = cap * 1 := by
        rcases hbr.1.2 with ⟨h1, _⟩ | ⟨g', cap', cur', h1, _, h3, _, _, h6, _⟩
        · cases h1
        · have e1 : g = g' := by injection h1 with q1 q2 q3; injection q1 with q1; injection q1
          have e2 : cap = cap' := by injection h1
          subst e1; subst e2
          rw [hg] at h3; injection h3 with h3; injection h3 with h3
          rw [h3]; exact h6
      have hUS : (Builtin.unsafeString_ #[119, 3] 9 #[.pointer (some ⟨g, 0, none⟩), .int .i64 l.length]).run Try.prog w.drew = .ok (.string ⟨l.toArray⟩) (w.drew.freeze ⟨g, 0, none⟩ l.length) := by
        refine Lib.run_unsafeString_row w.drew 119 3 9 5 (by kernel_rfl) (by kernel_rfl) g cur.size (by have hg' : w.drew.heap[g]? = some (.cells cur 5 (0, 0)) := hg; simp [World.shape?, hg']) l hl0 (by omega) (by unfold maxLen at hcm; omega) ?_
        intro j x hx
        refine World.ownsRow.cells hbr.1 (g := g) rfl j (.int .u8 x.toNat) ?_
        unfold strCells
        rw [List.getElem?_map, ← hl, hx]; rfl
      rw [hbs]
      have hx : Ext (fun k => k = b ∨ k = g) (fun k => k = b ∨ k = g) w (w.drew.freeze ⟨g, 0, none⟩ l.length) := freeze_ext ((Ext.refl _ _).drew) (.inr rfl) _
      have Hx := Lib.hid hx
      clear hbk hbr hg hx hbs hll hcs
      clear hl
      go_enter Try.func70, Try.ntmps70
      go_wp2
      go_region
      all_goals (go_wp2; go_ret; exact ⟨rfl, Hx.out⟩)

end Go.Proofs.Ytlamcpgnmeileaa
namespace Go.Proofs.Ytlamcpgnmeileaa
open Go.RowKit Go.Lib Go.Shelf
attribute [local go_sem] Oper.semAt_some wide_fn wide_in_fn wide_depth
set_option linter.unusedVariables false
set_option linter.unusedSimpArgs false

/-- What class.turn has written, and whether a letter leads, behind some pieces. -/
def turnStep (s : ByteArray) (one : Int → Bool → ByteArray → ByteArray) (st : ByteArray × Bool) (p : Pc) : ByteArray × Bool :=
  (st.1 ++ (if pk p = 1 then one p.r st.2 (s.extract (p.i + p.w) s.size) else s.extract p.i (p.i + p.w)), if pk p = 2 then st.2 else pk p == 1)
def turnP (s : ByteArray) (one : Int → Bool → ByteArray → ByteArray) (pre : List Pc) : ByteArray × Bool := pre.foldl (turnStep s one) (⟨#[]⟩, false)
theorem turnP_snoc (s : ByteArray) (one : Int → Bool → ByteArray → ByteArray) (pre : List Pc) (p : Pc) : turnP s one (pre ++ [p]) = turnStep s one (turnP s one pre) p := by
  unfold turnP; rw [List.foldl_append]; rfl
theorem turnP_size (s : ByteArray) (one : Int → Bool → ByteArray → ByteArray) (h1 : ∀ r b t, (one r b t).size ≤ 4) : ∀ (pre : List Pc), (∀ p ∈ pre, p.w ≤ 4) → (turnP s one pre).1.size ≤ 4 * pre.length := by
  have key : ∀ (pre : List Pc) (st : ByteArray × Bool), (∀ p ∈ pre, p.w ≤ 4) → (pre.foldl (turnStep s one) st).1.size ≤ st.1.size + 4 * pre.length := by
    intro pre
    induction pre with
    | nil => intro st h; simp
    | cons p pre ih =>
      intro st h
      have h2 := ih (turnStep s one st p) (fun q hq => h q (List.mem_cons_of_mem _ hq))
      have h3 : (turnStep s one st p).1.size ≤ st.1.size + 4 := by
        have hw := h p (List.mem_cons_self ..)
        simp only [turnStep, ByteArray.size_append]
        split
        · have := h1 (p.r : Int) st.2 (s.extract (p.i + p.w) s.size); omega
        · simp; omega
      simp only [List.foldl_cons, List.length_cons]
      omega
  intro pre h
  have := key pre (⟨#[]⟩, false) h
  rw [show (⟨#[]⟩ : ByteArray).size = 0 from rfl, Nat.zero_add] at this
  exact this

abbrev turnI (s : ByteArray) (one : Int → Bool → ByteArray → ByteArray) (B : Nat) (pre : List Pc) (C : Nat → Prop) (W : World) : Prop :=
  ∃ D, Bld B (turnP s one pre).1 D W ∧ Boxed W (B + 1) 4 (.bool (turnP s one pre).2) ∧ ¬ D (B + 1) ∧ C = (fun k => D k ∨ k = B + 1)

set_option maxRecDepth 100000 in
set_option maxHeartbeats 4000000 in
theorem turn_any (s : ByteArray) (fone : FuncId) (one : Int → Bool → ByteArray → ByteArray) (w : World) (hs : s.size ≤ 2147483647)
    (hent : ∀ args w, (callFunc fone args).run Try.prog w = .ok (.enter fone args) w)
    (hone : ∀ (r : Nat) (led : Bool) (rest : ByteArray) (w : World), r ≤ 1114111 → rest.size ≤ 2147483647 → Calls Try.prog fone #[.int .i32 r, .bool led, .string rest] w fun e w' => e = .returned (.string (one r led rest)) ∧ Below w.heap.size w w')
    (hsz : ∀ r b t, (one r b t).size ≤ 4) :
    Calls Try.prog 44 #[.string s, .func (.func fone) #[] #[]] w fun e w' => e = .returned (.string (turnP s one (pcs s.data.toList)).1) ∧ Below w.heap.size w w' := by
  (refine calls_of_body Try.func44 rfl ?_; simp only [Try.ntmps44, List.size_toArray, List.length_cons, List.length_nil, Nat.reduceAdd, Nat.reduceSub, Array.replicate_succ, Array.replicate_zero, List.push_toArray, List.append_toArray, List.nil_append, List.cons_append])
  have Hone := Lib.hid hone; have Hsz := Lib.hid hsz; have Hent := Lib.hid hent
  clear hone hsz hent
  gi_wp2_with (gi_at_call 67; refine (CallsIn.mono (callsIn_wide.2 (pieces_any _ _)) ?_); rintro e w' ⟨rfl, rfl⟩)
  obtain ⟨Wa, hWa⟩ : ∃ Wa, (((((w.alloc (.cells #[.string s] 9)).alloc (.cells #[.func (.func fone) #[] #[]] 75)).alloc (.cells #[.pointer none, .slice none 0 0] 102)).alloc (.cells #[.bool false] 4)).alloc (.cells #[.string s] 9)) = Wa := ⟨_, rfl⟩
  have bS : Boxed Wa w.heap.size 9 (.string s) := by rw [← hWa]; exact ((((Boxed.new w _ _).alloc _).alloc _).alloc _).alloc _
  have bF : Boxed Wa (w.heap.size + 1) 75 (.func (.func fone) #[] #[]) := by
    rw [← hWa]; have := (((Boxed.new (w.alloc (.cells #[.string s] 9)) 75 (.func (.func fone) #[] #[])).alloc (.cells #[.pointer none, .slice none 0 0] 102)).alloc (.cells #[.bool false] 4)).alloc (.cells #[.string s] 9); simpa only [World.size_alloc] using this
  have bB : Bld (w.heap.size + 1 + 1) ⟨#[]⟩ (fun k => k = w.heap.size + 1 + 1) Wa := by
    rw [← hWa]; have := Bld.new ((w.alloc (.cells #[.string s] 9)).alloc (.cells #[.func (.func fone) #[] #[]] 75))
    simp only [World.size_alloc] at this
    exact this.local (fun k hk => by subst hk; rw [Below.heap_alloc _ _ _ (by simp), Below.heap_alloc _ _ _ (by simp)])
  have bL : Boxed Wa (w.heap.size + 1 + 1 + 1) 4 (.bool false) := by
    rw [← hWa]; have := (Boxed.new (((w.alloc (.cells #[.string s] 9)).alloc (.cells #[.func (.func fone) #[] #[]] 75)).alloc (.cells #[.pointer none, .slice none 0 0] 102)) 4 (.bool false)).alloc (.cells #[.string s] 9); simpa only [World.size_alloc] using this
  have bD : Boxed Wa (w.heap.size + 1 + 1 + 1 + 1) 9 (.string s) := by
    rw [← hWa]; have := Boxed.new ((((w.alloc (.cells #[.string s] 9)).alloc (.cells #[.func (.func fone) #[] #[]] 75)).alloc (.cells #[.pointer none, .slice none 0 0] 102)).alloc (.cells #[.bool false] 4)) 9 (.string s); simpa only [World.size_alloc] using this
  have hba : Below w.heap.size w Wa := by
    rw [← hWa]; exact (((((Below.refl _ w).alloc (Nat.le_refl _) _).alloc (by simp) _).alloc (by simp; omega) _).alloc (by simp; omega) _).alloc (by simp; omega) _
  have hsa : Wa.heap.size = w.heap.size + 5 := by rw [← hWa]; simp
  simp only [hWa]
  clear hWa
  have hloc : Local (turnI s one (w.heap.size + 1 + 1)) := by
    rintro pre C W1 W2 ⟨D, h1, h2, h3, rfl⟩ hs hk
    exact ⟨D, h1.local (fun k h => hk k (.inl h)), (hk _ (.inr rfl)).trans h2, h3, rfl⟩
  refine wp_range (gf := 86) (lb := #[.pointer (some ⟨w.heap.size + 1 + 1 + 1 + 1, 0, none⟩)]) rfl (enters_of Try.func86 (by kernel_rfl) rfl)
    (pieces1_yields s (by omega) (w.heap.size + 1 + 1 + 1 + 1) Wa bD) (fun k hk => ⟨by rw [hk, hsa]; omega, rfl⟩) (Nat.le_refl _) (fun _ => rfl)
    (turnI s one (w.heap.size + 1 + 1)) (fun _ _ _ _ => False)
    (JBox (turnI s one (w.heap.size + 1 + 1)) 55 pcCells ?act)
    hloc ?hX ?hJ (fun k => k = w.heap.size + 1 + 1 ∨ k = w.heap.size + 1 + 1 + 1) ?hC0 ⟨_, bB, bL, by omega, rfl⟩ ?hassign ?hbody ?hdone ?hstop
  case hX => rintro c pre C W1 W2 h; exact h.elim
  case hJ => exact fun pre x a => JBox.local hloc pre x a
  case hC0 => rintro k (rfl | rfl) <;> exact ⟨by omega, by omega⟩
  case hassign =>
    intro l' pre x post C W1 hxs hext hi hn hlt hr
    simp only [encPc]
    gi_wp2
    refine JBox.assign hloc hi (hext.lt (fun k hk => by rcases hk with rfl | rfl <;> omega)) rfl ?_
    intro b hb
    rw [← hb]
  case hstop => rintro d c pre x post C W hxs hext hX; exact hX.elim
  case hbody =>
    rintro l' pre x post C1 W1 a1 hxs hext ⟨C, b, rfl, hnb, ⟨Db, hB1, bL1, hDL, rfl⟩, hb, rfl⟩ hn hlt hr
    have hmem : x ∈ pcs s.data.toList := by rw [hxs]; simp
    have hv : x.r ≤ 1114111 := pcs_valid _ x hmem
    have hv1 : (-2147483648 : Int) ≤ (x.r : Int) := by omega
    have hv2 : (x.r : Int) ≤ 2147483647 := by omega
    have hend : x.i + x.w ≤ s.size := by simpa using (pcs_pos _ x hmem).2.1
    have hout : (turnP s one pre).1.size ≤ 4 * s.size := by
      have h1 := turnP_size s one Hsz.out pre (fun p hp => pcs_w4 s.data.toList p (by rw [hxs]; simp [hp]))
      have h2 := pcs_len s
      rw [hxs, List.length_append] at h2
      omega
    have hsn := turnP_snoc s one pre x
    have bS1 : Boxed W1 w.heap.size _ _ := hext.1.at bS (fun h => by omega)
    have bF1 : Boxed W1 (w.heap.size + 1) _ _ := hext.1.at bF (fun h => by omega)
    have d0 : W1.cell? ⟨b, 0, none⟩ = some (.int .i64 x.i) := cell_at hb rfl
    have d1 : W1.cell? ⟨b, 1, none⟩ = some (.int .i64 x.w) := cell_at hb rfl
    have d2 : W1.cell? ⟨b, 2, none⟩ = some (.int .i32 x.r) := cell_at hb rfl
    have d3 : W1.cell? ⟨b, 3, none⟩ = some (.bool x.broken) := cell_at hb rfl
    have Hext := Lib.hid hext; have Hxs := Lib.hid hxs; have Hsn := Lib.hid hsn; have Hmem := Lib.hid hmem
    clear hxs hext hr hn hsn hmem
    gi_wp2_with (fail)
    refine CallsIn.inRound l' (CallsIn.mono (callsIn_wide.2 (of_any _ _ _ _ _ (by omega) (by omega))) ?_)
    rintro e w2 ⟨rfl, hb2⟩
    have hpk : kindOf x.broken (x.r : Int) = pk x := rfl
    rw [hpk]
    clear hpk
    have hb2' : w2.heap[b]? = _ := some_lt hb hb2
    have bS2 : Boxed w2 w.heap.size _ _ := some_lt bS1 hb2
    have bF2 : Boxed w2 (w.heap.size + 1) _ _ := some_lt bF1 hb2
    have bL2 : Boxed w2 (w.heap.size + 1 + 1 + 1) _ _ := some_lt bL1 hb2
    have hB2 : Bld (w.heap.size + 1 + 1) (turnP s one pre).1 Db w2 := hB1.local (fun k hk => hb2.block k (hB1.lt k hk))
    have c0 : w2.cell? ⟨b, 0, none⟩ = some (.int .i64 x.i) := cell_at hb2' rfl
    have c2 : w2.cell? ⟨b, 2, none⟩ = some (.int .i32 x.r) := cell_at hb2' rfl
    have cS := bS2.cell; have cF := bF2.cell; have cL := bL2.cell; have fL := bL2.frozen
    have hDb : ¬ Db b := fun h => hnb (.inl h)
    have hbL : b ≠ w.heap.size + 1 + 1 + 1 := fun h => hnb (.inr h)
    have Hb2 := Lib.hid hb2; have HB2 := Lib.hid hB2
    generalize hT : turnP s one pre = T at *
    obtain ⟨out, led⟩ := T
    clear hb2 hB2 hB1 d0 d1 d2 d3
    have HT := Lib.hid hT
    clear hT
    by_cases hp : pk x = 1
    · have e1 : (pk x == 1) = true := by simp [hp]
      have e2 : (pk x != 2) = true := by simp [hp]
      have Hp := Lib.hid hp
      clear hp
      gi_wp2
      refine wpIn_region_vals (by kernel_rfl) (by kernel_rfl) [22, 23, 24, 25, 26, 27, 28, 29, 30]
        [(0, 22, .func (.func fone) #[] #[]), (1, 23, .pointer (some ⟨b, 2, none⟩)), (2, 24, .int .i32 x.r), (3, 25, .bool led), (4, 26, .string s), (5, 27, .int .i64 (x.i + x.w)), (6, 28, .string (s.extract (x.i + x.w) s.size)), (7, 29, .string (one x.r led (s.extract (x.i + x.w) s.size)))]
        (fun D W => (¬ D 7 → W = w2.drew) ∧ (D 7 → ¬ D 8 → Below w2.heap.size w2 W) ∧ (D 8 → ∃ D', Bld (w.heap.size + 1 + 1) (out ++ one x.r led (s.extract (x.i + x.w) s.size)) D' W ∧ Ext Db D' w2 W)) (by simp) ?_ ?_
      · refine ⟨?_, ?_, ?_, ?_, ?_, ?_, ?_, ?_, ?_, trivial⟩
        · rintro E u W hn hd hcl hV hP
          have hW : W = w2.drew := hP.1 (fun h => hn (hcl 7 _ rfl h 0 (by decide)))
          subst hW
          simp only [puts, List.foldl_cons, List.foldl_nil, Act.put, List.setIfInBounds_toArray, List.set_cons_succ, List.set_cons_zero]
          have HV := Lib.hid hV; have HP := Lib.hid hP
          clear hV hP hd hn hcl
          gi_wp2
          exact ⟨upd u 22 (.func (.func fone) #[] #[]), by simp only [puts, List.foldl_cons, List.foldl_nil, Act.put, List.setIfInBounds_toArray, List.set_cons_succ, List.set_cons_zero, upd, Nat.reduceEqDiff, if_true, if_false], HV.out.step (by simp), by simpa using HP.out⟩
        · rintro E u W hn hd hcl hV hP
          have hW : W = w2.drew := hP.1 (fun h => hn (hcl 2 _ rfl (hcl 7 _ rfl h 2 (by decide)) 1 (by decide)))
          subst hW
          simp only [puts, List.foldl_cons, List.foldl_nil, Act.put, List.setIfInBounds_toArray, List.set_cons_succ, List.set_cons_zero]
          have HV := Lib.hid hV; have HP := Lib.hid hP
          clear hV hP hd hn hcl
          gi_wp2
          exact ⟨upd u 23 (.pointer (some ⟨b, 2, none⟩)), by simp only [puts, List.foldl_cons, List.foldl_nil, Act.put, List.setIfInBounds_toArray, List.set_cons_succ, List.set_cons_zero, upd, Nat.reduceEqDiff, if_true, if_false], HV.out.step (by simp), by simpa using HP.out⟩
        · rintro E u W hn hd hcl hV hP
          have hW : W = w2.drew := hP.1 (fun h => hn (hcl 7 _ rfl h 2 (by decide)))
          subst hW
          have q1 : u 23 = .pointer (some ⟨b, 2, none⟩) := hV (1, 23, _) (by simp) (hd 1 (by decide))
          simp only [puts, List.foldl_cons, List.foldl_nil, Act.put, List.setIfInBounds_toArray, List.set_cons_succ, List.set_cons_zero]
          simp only [q1]
          have HV := Lib.hid hV; have HP := Lib.hid hP
          have Q1 := Lib.hid q1
          clear hV hP hd hn hcl q1
          gi_wp2
          exact ⟨upd u 24 (.int .i32 x.r), by simp only [puts, List.foldl_cons, List.foldl_nil, Act.put, List.setIfInBounds_toArray, List.set_cons_succ, List.set_cons_zero, upd, Nat.reduceEqDiff, if_true, if_false]; simp only [Q1.out], HV.out.step (by simp), by simpa using HP.out⟩
        · rintro E u W hn hd hcl hV hP
          have hW : W = w2.drew := hP.1 (fun h => hn (hcl 7 _ rfl h 3 (by decide)))
          subst hW
          simp only [puts, List.foldl_cons, List.foldl_nil, Act.put, List.setIfInBounds_toArray, List.set_cons_succ, List.set_cons_zero]
          have HV := Lib.hid hV; have HP := Lib.hid hP
          clear hV hP hd hn hcl
          gi_wp2
          exact ⟨upd u 25 (.bool led), by simp only [puts, List.foldl_cons, List.foldl_nil, Act.put, List.setIfInBounds_toArray, List.set_cons_succ, List.set_cons_zero, upd, Nat.reduceEqDiff, if_true, if_false], HV.out.step (by simp), by simpa using HP.out⟩
        · rintro E u W hn hd hcl hV hP
          have hW : W = w2.drew := hP.1 (fun h => hn (hcl 6 _ rfl (hcl 7 _ rfl h 6 (by decide)) 4 (by decide)))
          subst hW
          simp only [puts, List.foldl_cons, List.foldl_nil, Act.put, List.setIfInBounds_toArray, List.set_cons_succ, List.set_cons_zero]
          have HV := Lib.hid hV; have HP := Lib.hid hP
          clear hV hP hd hn hcl
          gi_wp2
          exact ⟨upd u 26 (.string s), by simp only [puts, List.foldl_cons, List.foldl_nil, Act.put, List.setIfInBounds_toArray, List.set_cons_succ, List.set_cons_zero, upd, Nat.reduceEqDiff, if_true, if_false], HV.out.step (by simp), by simpa using HP.out⟩
        · rintro E u W hn hd hcl hV hP
          have hW : W = w2.drew := hP.1 (fun h => hn (hcl 6 _ rfl (hcl 7 _ rfl h 6 (by decide)) 5 (by decide)))
          subst hW
          simp only [puts, List.foldl_cons, List.foldl_nil, Act.put, List.setIfInBounds_toArray, List.set_cons_succ, List.set_cons_zero]
          have HV := Lib.hid hV; have HP := Lib.hid hP
          clear hV hP hd hn hcl
          gi_wp2
          exact ⟨upd u 27 (.int .i64 (x.i + x.w)), by simp only [puts, List.foldl_cons, List.foldl_nil, Act.put, List.setIfInBounds_toArray, List.set_cons_succ, List.set_cons_zero, upd, Nat.reduceEqDiff, if_true, if_false], HV.out.step (by simp), by simpa using HP.out⟩
        · rintro E u W hn hd hcl hV hP
          have hW : W = w2.drew := hP.1 (fun h => hn (hcl 7 _ rfl h 6 (by decide)))
          subst hW
          have q4 : u 26 = .string s := hV (4, 26, _) (by simp) (hd 4 (by decide))
          have q5 : u 27 = .int .i64 (x.i + x.w) := hV (5, 27, _) (by simp) (hd 5 (by decide))
          simp only [puts, List.foldl_cons, List.foldl_nil, Act.put, List.setIfInBounds_toArray, List.set_cons_succ, List.set_cons_zero]
          simp only [q4, q5]
          have HV := Lib.hid hV; have HP := Lib.hid hP
          have Q4 := Lib.hid q4; have Q5 := Lib.hid q5
          clear hV hP hd hn hcl q4 q5
          gi_wp2
          exact ⟨upd u 28 (.string (s.extract (x.i + x.w) s.size)), by simp only [puts, List.foldl_cons, List.foldl_nil, Act.put, List.setIfInBounds_toArray, List.set_cons_succ, List.set_cons_zero, upd, Nat.reduceEqDiff, if_true, if_false]; simp only [Q4.out, Q5.out], HV.out.step (by simp), by simpa using HP.out⟩
        · rintro E u W hn hd hcl hV hP
          have hW : W = w2.drew := hP.1 hn
          subst hW
          have q0 : u 22 = .func (.func fone) #[] #[] := hV (0, 22, _) (by simp) (hd 0 (by decide))
          have q2 : u 24 = .int .i32 x.r := hV (2, 24, _) (by simp) (hd 2 (by decide))
          have q3 : u 25 = .bool led := hV (3, 25, _) (by simp) (hd 3 (by decide))
          have q6 : u 28 = .string (s.extract (x.i + x.w) s.size) := hV (6, 28, _) (by simp) (hd 6 (by decide))
          simp only [puts, List.foldl_cons, List.foldl_nil, Act.put, List.setIfInBounds_toArray, List.set_cons_succ, List.set_cons_zero]
          simp only [q0, q2, q3, q6]
          have h8 : ¬ E 8 := fun h => hn (hcl 8 _ rfl h 7 (by decide))
          have HV := Lib.hid hV; have H8 := Lib.hid h8; have Q0 := Lib.hid q0; have Q2 := Lib.hid q2; have Q3 := Lib.hid q3; have Q6 := Lib.hid q6
          have hent := Hent.out
          clear hV hP hd hn hcl q0 q2 q3 q6 h8
          gi_wp2_with (gi_at_fn fone; refine CallsIn.inRound l' (CallsIn.mono (callsIn_wide.2 (Hone.out x.r led (s.extract (x.i + x.w) s.size) _ hv (by simp; omega))) ?_); rintro e w3 ⟨rfl, hb3⟩)
          have hz : Below w2.heap.size w2 w3 := (Below.refl _ _).drew.trans hb3
          have Hz := Lib.hid hz
          exact ⟨upd u 29 (.string (one x.r led (s.extract (x.i + x.w) s.size))), by simp only [puts, List.foldl_cons, List.foldl_nil, Act.put, List.setIfInBounds_toArray, List.set_cons_succ, List.set_cons_zero, upd, Nat.reduceEqDiff, if_true, if_false]; simp only [Q0.out, Q2.out, Q3.out, Q6.out], HV.out.step (by simp), by simp, fun _ _ => Hz.out, fun h => by simp at h; exact absurd h H8.out⟩
        · rintro E u W hn hd hcl hV hP
          have h7 : E 7 := hd 7 (by decide)
          have hz := hP.2.1 h7 hn
          have q7 : u 29 = .string (one x.r led (s.extract (x.i + x.w) s.size)) := hV (7, 29, _) (by simp) h7
          simp only [puts, List.foldl_cons, List.foldl_nil, Act.put, List.setIfInBounds_toArray, List.set_cons_succ, List.set_cons_zero]
          simp only [q7]
          have hB3 : Bld (w.heap.size + 1 + 1) out Db W := HB2.out.local (fun k hk => hz.block k (HB2.out.lt k hk))
          have HV := Lib.hid hV; have Hz := Lib.hid hz; have H7 := Lib.hid h7; have Q7 := Lib.hid q7
          have h1 : out.size + (one x.r led (s.extract (x.i + x.w) s.size)).size ≤ 140737488355328 := by have := Hsz.out (x.r : Int) led (s.extract (x.i + x.w) s.size); (try simp only at hout); omega
          clear hV hP hd hn hcl q7 hz h7
          gi_wp2_with (gi_at_call 69; refine CallsIn.inRound l' (CallsIn.mono (callsIn_wide.2 (writeString_any _ _ _ _ _ hB3 h1)) ?_); rintro e w4 ⟨⟨uu, rfl⟩, D', hB4, hx4⟩)
          have hx : Ext Db D' w2 w4 := (Ext.below Hz.out).trans hx4
          exact ⟨upd u 30 uu, by (try simp only [puts, List.foldl_cons, List.foldl_nil, Act.put, List.setIfInBounds_toArray, List.set_cons_succ, List.set_cons_zero, upd, Nat.reduceEqDiff, if_true, if_false]); (try simp only [Q7.out]), HV.out.step (by simp), by simp [H7.out], fun _ h => by simp at h, fun _ => ⟨D', hB4, hx⟩⟩
      · rintro E u W hD hV hP
        obtain ⟨D', hB4, hx4⟩ := hP.2.2 (hD 8 (by decide))
        simp only [puts, List.foldl_cons, List.foldl_nil, Act.put, List.setIfInBounds_toArray, List.set_cons_succ, List.set_cons_zero]
        have bL4 : Boxed W (w.heap.size + 1 + 1 + 1) _ _ := hx4.1.at bL2 hDL
        have cL4 := bL4.cell; have fL4 := bL4.frozen
        have hDL' : ¬ D' (w.heap.size + 1 + 1 + 1) := hx4.not (lt_of_some bL2) hDL
        have HB4 := Lib.hid hB4; have Hx4 := Lib.hid hx4
        clear hP hV hD hB4 hx4
        gi_wp2
        have hx5 : Ext (fun k => D' k ∨ k = w.heap.size + 1 + 1 + 1) (fun k => D' k ∨ k = w.heap.size + 1 + 1 + 1) W (W.setCell ⟨w.heap.size + 1 + 1 + 1, 0, none⟩ (.bool true)) := (Ext.refl _ _).setCell (p := ⟨w.heap.size + 1 + 1 + 1, 0, none⟩) (.inr rfl) _
        refine ⟨fun k => D' k ∨ k = w.heap.size + 1 + 1 + 1, ?_, D', ?_, ?_, hDL', rfl⟩
        · refine (Ext.below Hb2.out).trans (Ext.trans (C1 := fun k => (D' k ∨ k = w.heap.size + 1 + 1 + 1) ∨ k = b) ?_ ((hx5.weaken (fun k h => .inl h))))
          exact ⟨Hx4.out.1.weaken (fun k _ h => .inl (.inl h)), fun k hk => by
            rcases hk with (hk | rfl) | rfl
            · exact (Hx4.out.2 k hk).imp (fun h => .inl (.inl h)) id
            · exact .inl (.inl (.inr rfl))
            · exact .inl (.inr rfl)⟩
        · rw [Hsn.out]; simp only [turnStep, HT.out, if_pos Hp.out]
          exact HB4.out.local (fun k hk => Below.heap_setCell _ _ _ _ (by rintro rfl; exact hDL' hk))
        · rw [Hsn.out]; simp only [turnStep, HT.out, Hp.out]
          exact bL4.set _
    · have e1 : (pk x == 1) = false := by simp [hp]
      have hw1 : (x.i : Int) ≤ (x.i + x.w : Int) := by omega
      have h1 : out.size + (s.extract x.i (x.i + x.w)).size ≤ 140737488355328 := by (try simp only at hout); simp; omega
      by_cases hp2 : pk x = 2
      · have e2 : (pk x != 2) = false := by simp [hp2]
        have Hp := Lib.hid hp; have Hp2 := Lib.hid hp2
        clear hp hp2
        gi_wp2_with (gi_at_call 69; refine CallsIn.inRound l' (CallsIn.mono (callsIn_wide.2 (writeString_any _ _ _ _ _ HB2.out h1)) ?_); rintro e w4 ⟨⟨uu, rfl⟩, D', hB4, hx4⟩)
        have bL4 : Boxed w4 (w.heap.size + 1 + 1 + 1) _ _ := hx4.1.at bL2 hDL
        have hDL' : ¬ D' (w.heap.size + 1 + 1 + 1) := hx4.not (lt_of_some bL2) hDL
        refine ⟨fun k => D' k ∨ k = w.heap.size + 1 + 1 + 1, ?_, D', ?_, ?_, hDL', rfl⟩
        · refine (Ext.below Hb2.out).trans ⟨hx4.1.weaken (fun k _ h => .inl (.inl h)), fun k hk => ?_⟩
          rcases hk with hk | rfl
          · exact (hx4.2 k hk).imp (fun h => .inl (.inl h)) id
          · exact .inl (.inl (.inr rfl))
        · rw [Hsn.out]; simp only [turnStep, HT.out, if_neg Hp.out]
          exact hB4
        · rw [Hsn.out]; simp only [turnStep, HT.out, if_pos Hp2.out]
          exact bL4
      · have e2 : (pk x != 2) = true := by simp [bne, hp2]
        have Hp := Lib.hid hp; have Hp2 := Lib.hid hp2
        clear hp hp2
        gi_wp2_with (fail)
        refine CallsIn.inRound l' (CallsIn.mono (callsIn_wide.2 (writeString_any _ _ _ _ _ HB2.out h1)) ?_)
        rintro e w4 ⟨⟨uu, rfl⟩, D', hB4, hx4⟩
        have bL4 : Boxed w4 (w.heap.size + 1 + 1 + 1) _ _ := hx4.1.at bL2 hDL
        have hDL' : ¬ D' (w.heap.size + 1 + 1 + 1) := hx4.not (lt_of_some bL2) hDL
        have cL4 := bL4.cell; have fL4 := bL4.frozen
        have HB4 := Lib.hid hB4; have Hx4 := Lib.hid hx4
        clear hB4 hx4
        gi_wp2
        have hx5 : Ext (fun k => D' k ∨ k = w.heap.size + 1 + 1 + 1) (fun k => D' k ∨ k = w.heap.size + 1 + 1 + 1) w4 (w4.setCell ⟨w.heap.size + 1 + 1 + 1, 0, none⟩ (.bool false)) := (Ext.refl _ _).setCell (p := ⟨w.heap.size + 1 + 1 + 1, 0, none⟩) (.inr rfl) _
        refine ⟨fun k => D' k ∨ k = w.heap.size + 1 + 1 + 1, ?_, D', ?_, ?_, hDL', rfl⟩
        · refine (Ext.below Hb2.out).trans (Ext.trans (C1 := fun k => (D' k ∨ k = w.heap.size + 1 + 1 + 1) ∨ k = b) ?_ ((hx5.weaken (fun k h => .inl h))))
          exact ⟨Hx4.out.1.weaken (fun k _ h => .inl (.inl h)), fun k hk => by
            rcases hk with (hk | rfl) | rfl
            · exact (Hx4.out.2 k hk).imp (fun h => .inl (.inl h)) id
            · exact .inl (.inl (.inr rfl))
            · exact .inl (.inr rfl)⟩
        · rw [Hsn.out]; simp only [turnStep, HT.out, if_neg Hp.out]
          exact HB4.out.local (fun k hk => Below.heap_setCell _ _ _ _ (by rintro rfl; exact hDL' hk))
        · rw [Hsn.out]; simp only [turnStep, HT.out, if_neg Hp2.out, e1]
          exact bL4.set _
  case hdone =>
    rintro d C W hext ⟨Db, hB, bL5, hDL, rfl⟩ hld hCd hdef
    have hWs := hext.1.size
    have Hext := Lib.hid hext; have Hba := Lib.hid hba
    have hDd : ¬ Db d := fun h => hCd (.inl h)
    clear hext hba
    gi_wp2_with (gi_at_call 70; refine CallsIn.mono (callsIn_wide.2 (bstring_any _ _ _ _ hB)) ?_; rintro e w4 ⟨rfl, hx4⟩)
    have hdd : w4.heap[d]? = some (.deferred (some [])) := (hx4.1.keep d (lt_of_some hdef) hDd).trans hdef
    refine leaves_marks [d] _ (by simp) (by intro e he; simp at he; subst he; exact hdd) (fun w' hw hsw => ?_)
    refine ⟨.string _, by simp [results, Try.results44, go_sem], rfl, ?_⟩
    have hDb : ∀ k, Db k → w.heap.size ≤ k := fun k hk => by
      rcases Hext.out.2 k (.inl hk) with (rfl | rfl) | h
      · omega
      · omega
      · omega
    have F1 : Below w.heap.size w W := Hba.out.trans (Hext.out.1.toBelow (by omega) (fun k hk h => by rcases h with rfl | rfl <;> omega))
    have F2 : Below w.heap.size w w4 := F1.trans (hx4.1.toBelow (by omega) (fun k hk h => by have := hDb k h; omega))
    have h4 := hx4.1.size
    exact F2.trans (hw.toBelow (by omega) (fun k hk h => by have h5 : k = d := (List.mem_singleton.1 h); omega))

end Go.Proofs.Ytlamcpgnmeileaa
namespace Go.Proofs.Ytlamcpgnmeileaa
open Go.RowKit Go.Lib Go.Shelf
attribute [local go_sem] Oper.semAt_some
set_option linter.unusedVariables false
set_option linter.unusedSimpArgs false

/-- The k-th piece in a text whose words begin with great letters. -/
def headOne (s : ByteArray) (l : List Pc) (k : Nat) (p : Pc) : ByteArray :=
  if pk p = 1 ∧ aft (l.take k).reverse = false then Utf8.encode (upper p.r) else lowOne s l k p
def headText (s : ByteArray) : ByteArray := cat (fun k x => headOne s (pcs s.data.toList) k x) (pcs s.data.toList) (pcs s.data.toList).length
end Go.Proofs.Ytlamcpgnmeileaa
namespace Go.Proofs.Ytlamcpgnmeileaa
open Go.RowKit Go.Lib
set_option linter.unusedVariables false
set_option linter.unusedSimpArgs false

/-! ### class.turn's text is the reference's -/
theorem ba_ext {a b : ByteArray} (h : a.data.toList = b.data.toList) : a = b := by
  apply ByteArray.ext; exact Array.toList_inj.1 h
theorem aft_pcsFrom (l : List UInt8) : ∀ i j, aft (pcsFrom i l) = aft (pcsFrom j l) := by
  induction l using dec_induction with
  | h0 => intro i j; rw [pcsFrom_nil, pcsFrom_nil]
  | h1 l hn ih =>
    intro i j
    rw [pcsFrom_cons i l hn, pcsFrom_cons j l hn]
    unfold aft
    rw [ih (i + (decodeL l).2) (j + (decodeL l).2)]
    rfl
theorem aft_rest (s : ByteArray) (k : Nat) (x : Pc) (hx : (pcs s.data.toList)[k]? = some x) : aft (pcs (s.extract (x.i + x.w) s.size).data.toList) = aft ((pcs s.data.toList).drop (k + 1)) := by
  obtain ⟨hk, rfl⟩ := List.getElem?_eq_some_iff.1 hx
  have hsp : pcs s.data.toList = (pcs s.data.toList).take k ++ (pcs s.data.toList)[k] :: (pcs s.data.toList).drop (k + 1) := by
    rw [← List.drop_eq_getElem_cons hk, List.take_append_drop]
  obtain ⟨_, _, _, h4⟩ := pcs_split _ _ _ _ hsp
  rw [ext_end, h4]
  exact aft_pcsFrom _ _ _
theorem turn_cat (s : ByteArray) (one : Int → Bool → ByteArray → ByteArray) (g : Nat → Pc → ByteArray)
    (hg : ∀ k x, (pcs s.data.toList)[k]? = some x → g k x = (turnStep s one (⟨#[]⟩, aft ((pcs s.data.toList).take k).reverse) x).1) :
    ∀ k, k ≤ (pcs s.data.toList).length → turnP s one ((pcs s.data.toList).take k) = (cat g (pcs s.data.toList) k, aft ((pcs s.data.toList).take k).reverse) := by
  intro k
  induction k with
  | zero => intro _; rfl
  | succ k ih =>
    intro hk
    obtain ⟨x, hx⟩ : ∃ x, (pcs s.data.toList)[k]? = some x := ⟨_, List.getElem?_eq_getElem (by omega)⟩
    rw [take_snoc _ k x hx, turnP_snoc, ih (by omega), cat_succ _ _ k x hx, hg k x hx]
    have e0 : (⟨#[]⟩ : ByteArray) ++ (if pk x = 1 then one (x.r : Int) (aft ((pcs s.data.toList).take k).reverse) (s.extract (x.i + x.w) s.size) else s.extract x.i (x.i + x.w)) = (if pk x = 1 then one (x.r : Int) (aft ((pcs s.data.toList).take k).reverse) (s.extract (x.i + x.w) s.size) else s.extract x.i (x.i + x.w)) := by
      apply ba_ext; simp
    simp only [turnStep, e0]
    rw [List.reverse_append]
    rfl
theorem nil_app (b : ByteArray) : (⟨#[]⟩ : ByteArray) ++ b = b := by apply ba_ext; simp
theorem turn_low (s : ByteArray) : (turnP s smallOne (pcs s.data.toList)).1 = lowText s := by
  have h := turn_cat s smallOne (fun k x => lowOne s (pcs s.data.toList) k x) (fun k x hx => by
    simp only [turnStep, nil_app, lowOne, smallOne]
    rw [aft_rest s k x hx]
    by_cases hp : pk x = 1
    · rw [if_neg (by simp [hp]), if_pos hp]
      simp only [show (x.r = 931 ↔ (x.r : Int) = 931) by omega]
    · rw [if_pos hp, if_neg hp]) _ (Nat.le_refl _)
  rw [List.take_length] at h
  rw [h]; rfl
theorem turn_head (s : ByteArray) : (turnP s headLet (pcs s.data.toList)).1 = headText s := by
  have h := turn_cat s headLet (fun k x => headOne s (pcs s.data.toList) k x) (fun k x hx => by
    simp only [turnStep, nil_app, headOne, lowOne, headLet, smallOne]
    rw [aft_rest s k x hx]
    by_cases hp : pk x = 1
    · rw [if_pos hp]
      cases hl : aft ((pcs s.data.toList).take k).reverse
      · simp [hp]
      · simp only [show (x.r = 931 ↔ (x.r : Int) = 931) by omega]
        simp [hp]
    · simp [hp]) _ (Nat.le_refl _)
  rw [List.take_length] at h
  rw [h]; rfl
theorem turn_up (s : ByteArray) : (turnP s (fun r _ _ => upLet r) (pcs s.data.toList)).1 = upText s := by
  have h := turn_cat s (fun r _ _ => upLet r) (fun _ x => upOne s x) (fun k x hx => by
    simp only [turnStep, nil_app, upOne, upLet]
    by_cases hp : pk x = 1
    · rw [if_neg (by simp [hp]), if_pos hp]
      simp only [show (x.r = 223 ↔ (x.r : Int) = 223) by omega]
    · rw [if_pos hp, if_neg hp]) _ (Nat.le_refl _)
  rw [List.take_length] at h
  rw [h]; rfl

/-! ### The pieces of a turned text -/
def tk (t : Tok) : Int := kindOf t.broken t.r
def aftT : List Tok → Bool
  | [] => false
  | t :: ts => if tk t = 2 then aftT ts else tk t == 1
def nxt (led : Bool) (t : Tok) : Bool := if tk t = 2 then led else tk t == 1
theorem pk_place (i : Nat) (t : Tok) : pk ⟨i, t.bs.length, t.r⟩ = tk t := rfl
theorem aft_place (ts : List Tok) : ∀ i, aft (place i ts) = aftT ts := by
  induction ts with
  | nil => intro i; rfl
  | cons t ts ih => intro i; simp only [place, aft, aftT, ih, pk_place]
/-- A list of pieces in which each letter becomes others. -/
def turnT (f : Tok → Bool → List Tok → List Tok) : Bool → List Tok → List Tok
  | _, [] => []
  | led, t :: ts => (if tk t = 1 then f t led ts else [t]) ++ turnT f (nxt led t) ts
theorem turn_toks (s : ByteArray) (one : Int → Bool → ByteArray → ByteArray) (f : Tok → Bool → List Tok → List Tok)
    (hf : ∀ t led ts rest, Good (t :: ts) → tk t = 1 → rest.data.toList = flat ts → (one t.r led rest).data.toList = flat (f t led ts)) :
    ∀ (ts : List Tok) (pre : List UInt8) (out : ByteArray) (led : Bool), Good ts → s.data.toList = pre ++ flat ts →
      ((place pre.length ts).foldl (turnStep s one) (out, led)).1.data.toList = out.data.toList ++ flat (turnT f led ts) := by
  intro ts
  induction ts with
  | nil => intro pre out led _ _; simp [place, turnT, flat]
  | cons t ts ih =>
    intro pre out led hg hs
    simp only [place, List.foldl_cons]
    have hs' : s.data.toList = (pre ++ t.bs) ++ flat ts := by rw [hs, flat_cons, List.append_assoc]
    have hst : turnStep s one (out, led) ⟨pre.length, t.bs.length, t.r⟩ = (out ++ (if tk t = 1 then one t.r led (s.extract (pre.length + t.bs.length) s.size) else s.extract pre.length (pre.length + t.bs.length)), nxt led t) := rfl
    rw [hst]
    have hi := ih (pre ++ t.bs) (out ++ (if tk t = 1 then one t.r led (s.extract (pre.length + t.bs.length) s.size) else s.extract pre.length (pre.length + t.bs.length))) (nxt led t) (good_tail hg) hs'
    rw [List.length_append] at hi
    rw [hi, turnT, flat_append, ByteArray.data_append, Array.toList_append, List.append_assoc]
    congr 2
    by_cases hp : tk t = 1
    · rw [if_pos hp, if_pos hp]
      refine hf t led ts _ hg hp ?_
      rw [ext_end, hs', ← List.length_append, List.drop_left]
    · rw [if_neg hp, if_neg hp]
      have : (s.extract pre.length (pre.length + t.bs.length)).data.toList = (s.data.toList.drop pre.length).take t.bs.length := by
        simp [ByteArray.data_extract, List.extract_eq_take_drop]
      rw [this, hs, List.drop_left, flat_cons, List.take_left]
      simp [flat]

theorem turn_text (s : ByteArray) (one : Int → Bool → ByteArray → ByteArray) (f : Tok → Bool → List Tok → List Tok)
    (hf : ∀ t led ts rest, Good (t :: ts) → tk t = 1 → rest.data.toList = flat ts → (one t.r led rest).data.toList = flat (f t led ts)) :
    (turnP s one (pcs s.data.toList)).1.data.toList = flat (turnT f false (toks s.data.toList)) := by
  have h := turn_toks s one f hf (toks s.data.toList) [] ⟨#[]⟩ false (good_toks _) (by rw [flat_toks]; rfl)
  have hp : pcs s.data.toList = place 0 (toks s.data.toList) := pcs_place _ 0
  rw [hp]
  simpa [turnP] using h
theorem turnT_sub (f : Tok → Bool → List Tok → List Tok) (hf : ∀ t led ts, t.valid → tk t = 1 → f t led ts ≠ [] ∧ ∀ u ∈ f t led ts, u.valid) :
    ∀ ts led, (∀ t ∈ ts, t.valid ∨ t.broken = true) → Sub ts (turnT f led ts) := by
  intro ts
  induction ts with
  | nil => intro led _; exact .nil
  | cons t ts ih =>
    intro led h
    have h2 := ih (nxt led t) (fun q hq => h q (List.mem_cons_of_mem _ hq))
    rw [turnT]
    rcases h t (List.mem_cons_self ..) with hv | hb
    · by_cases hp : tk t = 1
      · rw [if_pos hp]; exact h2.one hv (hf t led ts hv hp).1 (hf t led ts hv hp).2
      · rw [if_neg hp]; exact h2.one hv (by simp) (by simpa using hv)
    · have hp : ¬ tk t = 1 := by unfold tk kindOf; rw [hb]; simp
      rw [if_neg hp]
      exact .brk hb h2

end Go.Proofs.Ytlamcpgnmeileaa
namespace Go.Proofs.Ytlamcpgnmeileaa
open Go.RowKit Go.Lib
set_option linter.unusedVariables false
set_option linter.unusedSimpArgs false

def mkT (r : Nat) : Tok := ⟨r, encodeRune r⟩
theorem mkT_valid {r : Nat} (h : r < 55296) : (mkT r).valid := ⟨.inl h, rfl⟩
theorem letter_lt (r : Int) (h : letter r = true) : 0 ≤ r ∧ r < 1120 := by
  simp only [letter, Bool.or_eq_true, great_iff, small_iff, greatP, smallP] at h
  omega
def chkLow (n : Nat) : Bool := !letter (n : Int) || (letter (lower n) && decide (0 ≤ lower n) && decide (lower n < 1120) && (lower (lower n) == lower n) && (lower n != 931) && decide ((encodeRune (lower n)).length ≤ (encodeRune n).length))
def chkUp (n : Nat) : Bool := !letter (n : Int) || (letter (upper n) && decide (0 ≤ upper n) && decide (upper n < 1120) && (upper (upper n) == upper n) && (n == 223 || upper n != 223) && decide ((encodeRune (upper n)).length ≤ (encodeRune n).length))
theorem all_low : (List.range 1120).all chkLow = true := by decide +kernel
theorem all_up : (List.range 1120).all chkUp = true := by decide +kernel
theorem fin_low (n : Nat) (hn : n < 1120) (hl : letter (n : Int) = true) :
    letter (lower n) = true ∧ 0 ≤ lower n ∧ lower n < 1120 ∧ lower (lower n) = lower n ∧ lower n ≠ 931 ∧ (encodeRune (lower n)).length ≤ (encodeRune n).length := by
  have h := List.all_eq_true.1 all_low n (List.mem_range.2 hn)
  simp only [chkLow, hl, Bool.not_true, Bool.false_or, Bool.and_eq_true, decide_eq_true_eq, beq_iff_eq, bne_iff_ne, ne_eq] at h
  exact ⟨h.1.1.1.1.1, h.1.1.1.1.2, h.1.1.1.2, h.1.1.2, h.1.2, h.2⟩
theorem fin_up (n : Nat) (hn : n < 1120) (hl : letter (n : Int) = true) :
    letter (upper n) = true ∧ 0 ≤ upper n ∧ upper n < 1120 ∧ upper (upper n) = upper n ∧ (n ≠ 223 → upper n ≠ 223) ∧ (encodeRune (upper n)).length ≤ (encodeRune n).length := by
  have h := List.all_eq_true.1 all_up n (List.mem_range.2 hn)
  simp only [chkUp, hl, Bool.not_true, Bool.false_or, Bool.and_eq_true, Bool.or_eq_true, decide_eq_true_eq, beq_iff_eq, bne_iff_ne, ne_eq] at h
  exact ⟨h.1.1.1.1.1, h.1.1.1.1.2, h.1.1.1.2, h.1.1.2, fun q => h.1.2.resolve_left q, h.2⟩
theorem kind_other (r : Int) (h : letter r = false) : kind r ≠ 1 := by
  unfold kind kindP
  rw [h]
  simp only [Bool.false_eq_true, if_false]
  (repeat' split) <;> omega
theorem tk_letter {t : Tok} (h : tk t = 1) : letter (t.r : Int) = true ∧ t.broken = false ∧ t.r < 1120 := by
  cases hb : t.broken
  · have h' : kind (t.r : Int) = 1 := by simpa only [tk, kindOf, hb, Bool.false_eq_true, if_false] using h
    have hl : letter (t.r : Int) = true := by
      cases hl : letter (t.r : Int)
      · exact absurd h' (kind_other _ hl)
      · rfl
    exact ⟨hl, rfl, by have := letter_lt _ hl; omega⟩
  · unfold tk kindOf at h; rw [hb] at h; simp at h

def lowRn (r : Nat) (led aft : Bool) : Nat := if r = 931 ∧ led = true ∧ aft = false then 962 else (lower r).toNat
def lowF (t : Tok) (led : Bool) (ts : List Tok) : List Tok := [mkT (lowRn t.r led (aftT ts))]
def upF (t : Tok) (_ : Bool) (_ : List Tok) : List Tok := if t.r = 223 then [mkT 83, mkT 83] else [mkT (upper t.r).toNat]
def headF (t : Tok) (led : Bool) (ts : List Tok) : List Tok := if led = true then lowF t led ts else [mkT (upper t.r).toNat]
theorem low_fin (r : Nat) (hl : letter (r : Int) = true) (led a : Bool) : letter (lowRn r led a : Int) = true ∧ lowRn r led a < 1120 ∧ lower (lowRn r led a : Int) = (lowRn r led a : Int) ∧ lowRn r led a ≠ 931 ∧ (encodeRune (lowRn r led a)).length ≤ (encodeRune r).length := by
  have h1 := letter_lt _ hl
  unfold lowRn
  split
  · rename_i h
    rw [h.1]
    exact ⟨by decide, by decide, by decide, by decide, by decide⟩
  · obtain ⟨a1, a2, a3, a4, a5, a6⟩ := fin_low r (by omega) hl
    have e : (((lower (r : Int)).toNat : Nat) : Int) = lower (r : Int) := by omega
    rw [e]
    exact ⟨a1, by omega, a4, by omega, a6⟩
theorem up_fin (r : Nat) (hl : letter (r : Int) = true) : letter ((upper (r : Int)).toNat : Int) = true ∧ (upper (r : Int)).toNat < 1120 ∧ upper ((upper (r : Int)).toNat : Int) = ((upper (r : Int)).toNat : Int) ∧ (r ≠ 223 → (upper (r : Int)).toNat ≠ 223) ∧ (encodeRune ((upper (r : Int)).toNat : Int)).length ≤ (encodeRune r).length := by
  have h1 := letter_lt _ hl
  obtain ⟨a1, a2, a3, a4, a5, a6⟩ := fin_up r (by omega) hl
  have e : (((upper (r : Int)).toNat : Nat) : Int) = upper (r : Int) := by omega
  rw [e]
  exact ⟨a1, by omega, a4, fun h => by have := a5 h; omega, a6⟩
/-- The pieces of each turned text. -/
theorem aft_flat {ts : List Tok} (hg : Good ts) {rest : ByteArray} (h : rest.data.toList = flat ts) : aft (pcs rest.data.toList) = aftT ts := by
  rw [h, show pcs (flat ts) = place 0 (toks (flat ts)) from pcs_place _ 0, hg, aft_place]
theorem enc_nat (z : Int) (h : 0 ≤ z) : (Utf8.encode z).data.toList = encodeRune (z.toNat : Int) := by
  rw [encode_list, show ((z.toNat : Nat) : Int) = z by omega]
theorem low_f (t : Tok) (led : Bool) (ts : List Tok) (rest : ByteArray) (hg : Good (t :: ts)) (hk : tk t = 1) (h : rest.data.toList = flat ts) : (smallOne t.r led rest).data.toList = flat (lowF t led ts) := by
  have hl := (tk_letter hk).1
  have h0 := fin_low t.r (tk_letter hk).2.2 hl
  unfold smallOne lowF lowRn
  rw [aft_flat (good_tail hg) h]
  by_cases hc : t.r = 931 ∧ led = true ∧ aftT ts = false
  · rw [if_pos ⟨by omega, hc.2.1, hc.2.2⟩, if_pos hc]; decide
  · rw [if_neg (fun q => hc ⟨by omega, q.2.1, q.2.2⟩), if_neg hc, enc_nat _ h0.2.1]; simp [flat, mkT]
theorem up_f (t : Tok) (led : Bool) (ts : List Tok) (rest : ByteArray) (hg : Good (t :: ts)) (hk : tk t = 1) (h : rest.data.toList = flat ts) : (upLet t.r).data.toList = flat (upF t led ts) := by
  have hl := (tk_letter hk).1
  have h0 := fin_up t.r (tk_letter hk).2.2 hl
  unfold upLet upF
  by_cases hc : t.r = 223
  · rw [if_pos (by omega), if_pos hc]; decide
  · rw [if_neg (by omega), if_neg hc, enc_nat _ h0.2.1]; simp [flat, mkT]
theorem head_f (t : Tok) (led : Bool) (ts : List Tok) (rest : ByteArray) (hg : Good (t :: ts)) (hk : tk t = 1) (h : rest.data.toList = flat ts) : (headLet t.r led rest).data.toList = flat (headF t led ts) := by
  have hl := (tk_letter hk).1
  have h0 := fin_up t.r (tk_letter hk).2.2 hl
  unfold headLet headF
  cases led
  · rw [if_neg (by simp), if_neg (by simp), enc_nat _ h0.2.1]; simp [flat, mkT]
  · rw [if_pos rfl, if_pos rfl]; exact low_f t true ts rest hg hk h
theorem low_vT (t : Tok) (led : Bool) (ts : List Tok) (hv : t.valid) (hk : tk t = 1) : lowF t led ts ≠ [] ∧ ∀ u ∈ lowF t led ts, u.valid := by
  have h := low_fin t.r (tk_letter hk).1 led (aftT ts)
  exact ⟨by simp [lowF], fun u hu => by rw [List.mem_singleton.1 hu]; exact mkT_valid (by omega)⟩
theorem up_v (t : Tok) (led : Bool) (ts : List Tok) (hv : t.valid) (hk : tk t = 1) : upF t led ts ≠ [] ∧ ∀ u ∈ upF t led ts, u.valid := by
  have h := up_fin t.r (tk_letter hk).1
  unfold upF
  split
  · exact ⟨by simp, fun u hu => by simp at hu; subst hu; exact mkT_valid (by decide)⟩
  · exact ⟨by simp, fun u hu => by rw [List.mem_singleton.1 hu]; exact mkT_valid (by omega)⟩
theorem head_v (t : Tok) (led : Bool) (ts : List Tok) (hv : t.valid) (hk : tk t = 1) : headF t led ts ≠ [] ∧ ∀ u ∈ headF t led ts, u.valid := by
  have h := up_fin t.r (tk_letter hk).1
  unfold headF
  split
  · exact low_vT t led ts hv hk
  · exact ⟨by simp, fun u hu => by rw [List.mem_singleton.1 hu]; exact mkT_valid (by omega)⟩
theorem low_list (s : ByteArray) : (lowText s).data.toList = flat (turnT lowF false (toks s.data.toList)) := by rw [← turn_low]; exact turn_text s smallOne lowF low_f
theorem up_list (s : ByteArray) : (upText s).data.toList = flat (turnT upF false (toks s.data.toList)) := by rw [← turn_up]; exact turn_text s _ upF up_f
theorem head_list (s : ByteArray) : (headText s).data.toList = flat (turnT headF false (toks s.data.toList)) := by rw [← turn_head]; exact turn_text s headLet headF head_f
theorem low_toks (s : ByteArray) : toks (lowText s).data.toList = turnT lowF false (toks s.data.toList) := by
  rw [low_list]; exact (turnT_sub lowF low_vT _ false (toks_ok _)).good (good_toks _)
theorem up_toks (s : ByteArray) : toks (upText s).data.toList = turnT upF false (toks s.data.toList) := by
  rw [up_list]; exact (turnT_sub upF up_v _ false (toks_ok _)).good (good_toks _)
theorem head_toks (s : ByteArray) : toks (headText s).data.toList = turnT headF false (toks s.data.toList) := by
  rw [head_list]; exact (turnT_sub headF head_v _ false (toks_ok _)).good (good_toks _)

end Go.Proofs.Ytlamcpgnmeileaa
namespace Go.Proofs.Ytlamcpgnmeileaa
open Go.RowKit Go.Lib
set_option linter.unusedVariables false
set_option linter.unusedSimpArgs false
/-- What a token gives in a folded text. -/
def em (t : Tok) : ByteArray := match apI (tokI t) with | x :: _ => (foldI x).Text | [] => ByteArray.empty
def fF : Bool → List Tok → ByteArray
  | _, [] => ByteArray.empty
  | p, t :: ts => if p && isM (tokI t) then fF p ts else em t ++ fF (isL (tokI t)) ts
theorem fF_clF : ∀ (ts : List Tok) (d : Itm × List Itm), J foldC (clF (some d) (apL (ts.map tokI))) = foldC d ++ fF (isL d.1) ts
  | [], d => by
    show J foldC [d] = foldC d ++ ByteArray.empty
    rw [J_cons, J_nil]
  | t :: ts, d => by
    obtain ⟨y, ms, h1, h3, h4, h5, h6, h7⟩ := apI_item (tokI t)
    have hem : em t = foldC (y, ms) := by unfold em; rw [h1]; rfl
    rw [List.map_cons, apL_cons, h1]
    show J foldC (if isL d.1 && isM y then clF (some (d.1, d.2 ++ [y])) (ms ++ apL (ts.map tokI)) else d :: clF (some (y, [])) (ms ++ apL (ts.map tokI))) = foldC d ++ (if isL d.1 && isM (tokI t) then fF (isL d.1) ts else em t ++ fF (isL (tokI t)) ts)
    rw [← h5, ← h7, hem]
    cases hk : (isL d.1 && isM y) with
    | true =>
      have hk' := hk
      rw [Bool.and_eq_true] at hk'
      have hms : ms = [] := h4 (mrk_not_letter (show mrk y.Rune = true from hk'.2))
      rw [hms]
      exact fF_clF ts (d.1, d.2 ++ [y])
    | false =>
      simp only [Bool.false_eq_true, if_false]
      rw [clF_own y ms _ h3 h4, J_cons, fF_clF ts (y, ms)]
theorem FT_fF (ts : List Tok) : FT ts = fF false ts := by
  unfold FT clT
  cases ts with
  | nil => rfl
  | cons t ts =>
    obtain ⟨y, ms, h1, h3, h4, h5, h6, h7⟩ := apI_item (tokI t)
    have hem : em t = foldC (y, ms) := by unfold em; rw [h1]; rfl
    rw [List.map_cons, apL_cons, h1]
    show J foldC (clF (some (y, [])) (ms ++ apL (ts.map tokI))) = em t ++ fF (isL (tokI t)) ts
    rw [clF_own y ms _ h3 h4, fF_clF, hem, h7]
theorem fF_turn (f : Tok → Bool → List Tok → List Tok) (hf : ∀ t led ts, okTok t → tk t = 1 → ∀ p rest, fF p (f t led ts ++ rest) = em t ++ fF true rest) : ∀ (ts : List Tok) (led p : Bool), (∀ t ∈ ts, okTok t) → fF p (turnT f led ts) = fF p ts
  | [], _, _, _ => rfl
  | t :: ts, led, p, h => by
    have ih := fun p => fF_turn f hf ts (nxt led t) p fun u hu => h u (List.mem_cons_of_mem _ hu)
    have hok := h t (List.mem_cons_self ..)
    rw [turnT]
    by_cases hk : tk t = 1
    · rw [if_pos hk, hf t led ts hok hk, ih]
      obtain ⟨g1, g2, g3⟩ := tk_letter hk
      have hL : isL (tokI t) = true := by unfold isL tokI; rw [g2]; exact g1
      have hM : isM (tokI t) = false := mrk_letter (show letter (tokI t).Rune = true from hL)
      show _ = (if p && isM (tokI t) then fF p ts else em t ++ fF (isL (tokI t)) ts)
      rw [hM, hL, Bool.and_false]; rfl
    · rw [if_neg hk]
      show (if p && isM (tokI t) then fF p (turnT f (nxt led t) ts) else em t ++ fF (isL (tokI t)) (turnT f (nxt led t) ts)) = (if p && isM (tokI t) then fF p ts else em t ++ fF (isL (tokI t)) ts)
      rw [ih, ih]
/-! ### Letters, turned -/
def emR (r : Int) : ByteArray := plainR (lower ((parts r).headD 0))
def emChk (n : Nat) : Bool := !letter (n : Int) || (decide (emR (lower n) = emR n) && (n == 223 || decide (emR (upper n) = emR n)))
set_option maxRecDepth 100000 in
theorem emAll : ((List.range 1120).all emChk) = true := by decide +kernel
set_option maxRecDepth 100000 in
theorem em962 : emR 962 = emR 931 ∧ emR 83 ++ emR 83 = emR 223 := by decide +kernel
theorem em_low {n : Nat} (h : letter (n : Int) = true) : emR (lower n) = emR n ∧ (n ≠ 223 → emR (upper n) = emR n) := by
  have hr := letter_lt _ h
  have := List.all_eq_true.1 emAll n (List.mem_range.2 (by omega))
  unfold emChk at this
  rw [h] at this
  simp only [Bool.not_true, Bool.false_or, Bool.and_eq_true, decide_eq_true_eq, Bool.or_eq_true, beq_iff_eq] at this
  exact ⟨this.1, fun hn => by rcases this.2 with h | h; exact absurd h hn; exact h⟩
theorem tokI_mkT {n : Nat} (h : n < 55296) : tokI (mkT n) = mkI (n : Int) := tokI_valid (mkT_valid h)
theorem em_mk {t : Tok} {r : Int} (ht : tokI t = mkI r) (h : letter r = true) : em t = emR r := by
  unfold em emR
  obtain ⟨b, ms, hq, hb, _⟩ := parts_shape h
  rw [ht, apI_mk, hq]
  show (foldI (mkI b)).Text = plainR (lower b)
  unfold foldI
  rw [show isL (mkI b) = true from hb]; rfl
theorem fF_one {n : Nat} (h : letter (n : Int) = true) (p : Bool) (rest : List Tok) : fF p (mkT n :: rest) = emR n ++ fF true rest := by
  have hr := letter_lt _ h
  have ht := tokI_mkT (n := n) (by omega)
  have hL : isL (tokI (mkT n)) = true := by rw [ht]; exact h
  show (if p && isM (tokI (mkT n)) then _ else em (mkT n) ++ fF (isL (tokI (mkT n))) rest) = _
  rw [hL, show isM (tokI (mkT n)) = false from mrk_letter (show letter (tokI (mkT n)).Rune = true from hL), Bool.and_false, em_mk ht h]; rfl
theorem em_tok {t : Tok} (ho : okTok t) (hk : tk t = 1) : em t = emR t.r := by
  obtain ⟨g1, g2, g3⟩ := tk_letter hk
  refine em_mk ?_ g1
  rcases ho with ho | ho
  · exact tokI_valid ho
  · rw [g2] at ho; cases ho
theorem low_em (t : Tok) (led : Bool) (ts : List Tok) (ho : okTok t) (hk : tk t = 1) (p : Bool) (rest : List Tok) : fF p (lowF t led ts ++ rest) = em t ++ fF true rest := by
  obtain ⟨g1, g2, g3⟩ := tk_letter hk
  obtain ⟨l1, l2, _⟩ := low_fin t.r g1 led (aftT ts)
  unfold lowF
  rw [List.singleton_append, fF_one l1, em_tok ho hk]
  congr 1
  unfold lowRn
  split
  · rename_i h; rw [h.1]; exact em962.1
  · obtain ⟨a1, a2, _⟩ := fin_low t.r g3 g1
    rw [show (((lower (t.r : Int)).toNat : Nat) : Int) = lower (t.r : Int) by omega]
    exact (em_low g1).1
theorem up_em (t : Tok) (led : Bool) (ts : List Tok) (ho : okTok t) (hk : tk t = 1) (p : Bool) (rest : List Tok) : fF p (upF t led ts ++ rest) = em t ++ fF true rest := by
  obtain ⟨g1, g2, g3⟩ := tk_letter hk
  unfold upF
  split
  · rename_i h
    rw [List.cons_append, List.singleton_append, fF_one (n := 83) (by decide), fF_one (n := 83) (by decide), ← ByteArray.append_assoc, em_tok ho hk, h]
    exact congrArg (· ++ fF true rest) em962.2
  · rename_i h
    obtain ⟨u1, u2, _⟩ := up_fin t.r g1
    obtain ⟨a1, a2, _⟩ := fin_up t.r g3 g1
    rw [List.singleton_append, fF_one u1, em_tok ho hk, show (((upper (t.r : Int)).toNat : Nat) : Int) = upper (t.r : Int) by omega, (em_low g1).2 h]
theorem head_em (t : Tok) (led : Bool) (ts : List Tok) (ho : okTok t) (hk : tk t = 1) (p : Bool) (rest : List Tok) : fF p (headF t led ts ++ rest) = em t ++ fF true rest := by
  obtain ⟨g1, g2, g3⟩ := tk_letter hk
  unfold headF
  split
  · exact low_em t led ts ho hk p rest
  · obtain ⟨u1, u2, _⟩ := up_fin t.r g1
    obtain ⟨a1, a2, _⟩ := fin_up t.r g3 g1
    rw [List.singleton_append, fF_one u1, em_tok ho hk, show (((upper (t.r : Int)).toNat : Nat) : Int) = upper (t.r : Int) by omega]
    congr 1
    by_cases h : t.r = 223
    · rw [h]; exact (by decide +kernel : emR (upper 223) = emR 223)
    · exact (em_low g1).2 h
theorem fold_low (s : ByteArray) : foldS (lowText s) = foldS s := by
  rw [foldS_toks, foldS_toks, low_toks, FT_fF, FT_fF, fF_turn lowF low_em _ false false (toks_ok _)]
theorem fold_up (s : ByteArray) : foldS (upText s) = foldS s := by
  rw [foldS_toks, foldS_toks, up_toks, FT_fF, FT_fF, fF_turn upF up_em _ false false (toks_ok _)]
theorem fold_head (s : ByteArray) : foldS (headText s) = foldS s := by
  rw [foldS_toks, foldS_toks, head_toks, FT_fF, FT_fF, fF_turn headF head_em _ false false (toks_ok _)]
end Go.Proofs.Ytlamcpgnmeileaa
namespace Go.Proofs.Ytlamcpgnmeileaa
open Go.RowKit Go.Lib Go.Shelf
attribute [local go_sem] Oper.semAt_some
set_option linter.unusedVariables false
set_option linter.unusedSimpArgs false

theorem smallOne_size (r : Int) (b : Bool) (t : ByteArray) : (smallOne r b t).size ≤ 4 := by
  unfold smallOne; split
  · decide
  · rw [encode_size]; exact (encodeRune_len _).2
theorem headLet_size (r : Int) (b : Bool) (t : ByteArray) : (headLet r b t).size ≤ 4 := by
  unfold headLet; split
  · exact smallOne_size r b t
  · rw [encode_size]; exact (encodeRune_len _).2
theorem upLet_size (r : Int) : (upLet r).size ≤ 4 := by
  unfold upLet; split
  · decide
  · rw [encode_size]; exact (encodeRune_len _).2

set_option maxHeartbeats 1000000 in
theorem lowText_any (s : ByteArray) (w : World) (hs : s.size ≤ 2147483647) :
    Calls Try.prog 21 #[.string s] w fun e w' => e = .returned (.string (lowText s)) ∧ Below w.heap.size w w' := by
  have hc := turn_any s 45 smallOne w hs (enters_of Try.func45 (by kernel_rfl) rfl) (fun r led rest w h1 h2 => small1_any r led rest w (by omega) (by omega) h2) smallOne_size
  rw [turn_low] at hc
  go_enter Try.func21, Try.ntmps21
  go_wp2_with (go_at_call 44; refine hc.mono ?_; rintro e w' ⟨rfl, hb⟩)
  go_ret
  exact ⟨rfl, hb⟩
set_option maxHeartbeats 1000000 in
theorem upText_any (s : ByteArray) (w : World) (hs : s.size ≤ 2147483647) :
    Calls Try.prog 22 #[.string s] w fun e w' => e = .returned (.string (upText s)) ∧ Below w.heap.size w w' := by
  have hc := turn_any s 46 (fun r _ _ => upLet r) w hs (enters_of Try.func46 (by kernel_rfl) rfl) (fun r led rest w h1 h2 => up1_any r led rest w (by omega) (by omega)) (fun r _ _ => upLet_size r)
  rw [turn_up] at hc
  go_enter Try.func22, Try.ntmps22
  go_wp2_with (go_at_call 44; refine hc.mono ?_; rintro e w' ⟨rfl, hb⟩)
  go_ret
  exact ⟨rfl, hb⟩
set_option maxHeartbeats 1000000 in
theorem headText_any (s : ByteArray) (w : World) (hs : s.size ≤ 2147483647) :
    Calls Try.prog 23 #[.string s] w fun e w' => e = .returned (.string (headText s)) ∧ Below w.heap.size w w' := by
  have hc := turn_any s 48 headLet w hs (enters_of Try.func48 (by kernel_rfl) rfl) (fun r led rest w h1 h2 => head1_any r led rest w (by omega) (by omega) h2) headLet_size
  rw [turn_head] at hc
  go_enter Try.func23, Try.ntmps23
  go_wp2_with (go_at_call 44; refine hc.mono ?_; rintro e w' ⟨rfl, hb⟩)
  go_ret
  exact ⟨rfl, hb⟩

end Go.Proofs.Ytlamcpgnmeileaa
namespace Go.Proofs.Ytlamcpgnmeileaa
open Go.RowKit Go.Lib
set_option linter.unusedVariables false
set_option linter.unusedSimpArgs false
def law04_FoldStays_s1 (s2 : ByteArray) (r2 : ByteArray) (r3 : ByteArray) (r4 : ByteArray) (r5 : ByteArray) (j2 : Option Bool) (ag1 : Int → Option Bool) (x3 : Int) : Option Bool := bcond (decide ((x3 : Int) < 6)) ( andThen (getO ([r2, r3, r4, lowText s2, upText s2, headText s2] : List ByteArray) x3) fun (q1 : ByteArray) => andThen (fold_Fold_v q1) fun (r14 : ByteArray) => bcond (!decide (r14 = r5)) ( some false
) ( andThen (fold_Same_v q1 s2) fun (r15 : Bool) => bcond (!r15) ( some false
) ( grd (I64 (x3 + 1)) <| ag1 (x3 + 1)
)
)
) ( j2
)
def law04_FoldStays_v (s1 : ByteArray) : Option Bool := andThen (law04_wakes_v) fun (r1 : Bool) => bcond (!r1) ( some false
) ( joinK (fun (j1 : ByteArray → Option Bool) => bcond (decide ((4096 : Int) < (s1.size : Int))) ( grd (0 ≤ (0 : Int) ∧ (0 : Int) ≤ 4096 ∧ (4096 : Int) ≤ (s1.size : Int)) <| j1 (cutB s1 0 4096)
) ( j1 s1
)
) (fun (s2 : ByteArray) => andThen (fold_Apart_v s2) fun (r2 : ByteArray) => andThen (fold_Together_v s2) fun (r3 : ByteArray) => andThen (fold_Bare_v s2) fun (r4 : ByteArray) => andThen (fold_Fold_v s2) fun (r5 : ByteArray) => andThen (fold_Apart_v r2) fun (r6 : ByteArray) => bcond (!decide (r6 = r2)) ( some false
) ( andThen (fold_Together_v r3) fun (r7 : ByteArray) => bcond (!decide (r7 = r3)) ( some false
) ( andThen (fold_Bare_v r4) fun (r8 : ByteArray) => bcond (!decide (r8 = r4)) ( some false
) ( andThen (fold_Fold_v r5) fun (r9 : ByteArray) => bcond (!decide (r9 = r5)) ( some false
) ( andThen (fold_Apart_v r3) fun (r10 : ByteArray) => bcond (!decide (r10 = r2)) ( some false
) ( andThen (fold_Together_v r2) fun (r11 : ByteArray) => bcond (!decide (r11 = r3)) ( some false
) ( andThen (fold_Bare_v r2) fun (r12 : ByteArray) => bcond (!decide (r12 = r4)) ( some false
) ( andThen (fold_Bare_v r3) fun (r13 : ByteArray) => bcond (!decide (r13 = r4)) ( some false
) ( joinK (fun (j2 : Option Bool) => grd (s2.size ≤ 2147483647) <| grd (s2.size ≤ 2147483647) <| grd (s2.size ≤ 2147483647) <| loopG (fun _ => none) (law04_FoldStays_s1 s2 r2 r3 r4 r5 j2) fuel 0
) ( andThen (law04_wakes_v) fun (r16 : Bool) => some r16
)
)
)
)
)
)
)
)
)
)
)
set_option maxRecDepth 100000 in
set_option maxHeartbeats 4000000 in
theorem law04_FoldStays_fn {s1 : ByteArray} {r : Bool} (h : law04_FoldStays_v s1 = some r) : FnP Try.prog 6 [.string s1] (.bool r) := by
 unfold law04_FoldStays_v at h
 refine FnP.intro Try.func6 rfl Try.ntmps6 (by simp) ?_
 intro w0 K
 refine TC.seq (TC.region (TO.assign rfl dc rfl (TO.nil (TX.next (TC.seq (TC.seq (TC.region ?_)))))))
 obtain ⟨r1, hq1, h⟩ := andE h
 refine TO.callP (v := .bool r1) (vs := []) rfl dc rfl rfl rfl en_7 (law04_wakes_fn hq1) (TO.un rfl dc rfl un_not (TO.nil (TX.next ?_)))
 refine TC.condB rfl (fun hb1 => ?_) (fun hb1 => ?_)
 ·
  have h := condT hb1 h
  refine TC.seq (TC.region (TO.assign rfl dc rfl (TO.nil (TX.next (TC.ret (TX.thenRet ?_))))))
  cases h
  exact TX.fin (rs := [.tmp 2]) () (.inl rfl) Try.results6 (.cons (.tmp rfl) .nil) rfl Splits.nil
 ·
  have h := condF hb1 h
  refine TC.skip (TX.next ?_)
  obtain ⟨j1, hj1, h⟩ := joinE h
  refine TC.cutN (β := ByteArray) 0 rfl (fun b => j1 b = some r) (fun b => []) (fun b => [(0, .string b)]) (fun b => []) (fun cut => ?_) ?_
  ·
   refine cut (TC.seq (TC.region (TO.move rfl dc rfl (TO.lenStr rfl dc rfl Try.underlying9 (TO.bin rfl dc rfl rfl bin_gtr (TO.nil (TX.next ?_)))))))
   refine TC.condB rfl (fun hb2 => ?_) (fun hb2 => ?_)
   ·
    have h := condT hb2 h
    refine TC.region (TO.move rfl dc rfl ?_)
    obtain ⟨hg1, h⟩ := grdE h
    refine TO.slice rfl dc rfl rfl rfl (slice_stringI (i := 0) (j := 4096) Try.underlying9 (.inl ⟨rfl, rfl⟩) (.inr rfl) hg1) (TO.assign rfl dc rfl (TO.nil ?_))
    exact TX.meetD (cutB s1 0 4096) h rfl (Sbs.cons rfl (Sbs.nil)) Splits.nil
   ·
    have h := condF hb2 h
    refine TC.skip ?_
    exact TX.meetD s1 h rfl (Sbs.cons rfl (Sbs.nil)) Splits.nil
  ·
   rintro s2 h
   rw [hj1] at h
   show TC _ _ _ _ _ ([]) _ _ [(0, .string s2)] []
   refine TC.seq (TC.region (TO.move rfl dc rfl ?_))
   obtain ⟨r2, hq2, h⟩ := andE h
   refine TO.callP (v := .string r2) (vs := [.string s2]) rfl dc rfl rfl rfl en_18 (fold_Apart_fn hq2) (TO.move rfl dc rfl ?_)
   obtain ⟨r3, hq3, h⟩ := andE h
   refine TO.callP (v := .string r3) (vs := [.string s2]) rfl dc rfl rfl rfl en_19 (fold_Together_fn hq3) (TO.move rfl dc rfl ?_)
   obtain ⟨r4, hq4, h⟩ := andE h
   refine TO.callP (v := .string r4) (vs := [.string s2]) rfl dc rfl rfl rfl en_20 (fold_Bare_fn hq4) (TO.move rfl dc rfl ?_)
   obtain ⟨r5, hq5, h⟩ := andE h
   refine TO.callP (v := .string r5) (vs := [.string s2]) rfl dc rfl rfl rfl en_10 (fold_Fold_fn hq5) (TO.assign rfl dc rfl (TO.assign rfl dc rfl (TO.assign rfl dc rfl (TO.assign rfl dc rfl (TO.nil (TX.next (TC.seq (TC.seq (TC.region (TO.move rfl dc rfl ?_))))))))))
   obtain ⟨r6, hq6, h⟩ := andE h
   refine TO.callP (v := .string r6) (vs := [.string r2]) rfl dc rfl rfl rfl en_18 (fold_Apart_fn hq6) (TO.move rfl dc rfl (TO.bin rfl dc rfl rfl bin_sneq (TO.move rfl dc rfl ?_)))
   refine TO.split (s := 28) rfl (fun hb3 => ?_) (fun hb3 => ?_)
   ·
    have h := condT hb3 h
    refine TO.skip rfl dc (TO.skip rfl dc (TO.skip rfl dc (TO.skip rfl dc (TO.pick (b := true) rfl dc rfl rfl (TO.move rfl dc rfl (TO.skip rfl dc (TO.skip rfl dc (TO.skip rfl dc (TO.skip rfl dc (TO.pick (b := true) rfl dc rfl rfl (TO.move rfl dc rfl (TO.skip rfl dc (TO.skip rfl dc ?_)))))))))))))
    refine TO.skip rfl dc (TO.skip rfl dc (TO.pick (b := true) rfl dc rfl rfl (TO.nil (TX.next (TC.condT rfl (TC.seq (TC.region (TO.assign rfl dc rfl (TO.nil (TX.next (TC.ret (TX.thenRet ?_))))))))))))
    cases h
    exact TX.fin (rs := [.tmp 2]) () (.inl rfl) Try.results6 (.cons (.tmp rfl) .nil) rfl Splits.nil
   ·
    have h := condF hb3 h
    refine TO.move rfl dc rfl ?_
    obtain ⟨r7, hq7, h⟩ := andE h
    refine TO.callP (v := .string r7) (vs := [.string r3]) rfl dc rfl rfl rfl en_19 (fold_Together_fn hq7) (TO.move rfl dc rfl (TO.bin rfl dc rfl rfl bin_sneq (TO.pick (b := false) rfl dc rfl rfl (TO.move rfl dc rfl ?_))))
    refine TO.split (s := 34) rfl (fun hb4 => ?_) (fun hb4 => ?_)
    ·
     have h := condT hb4 h
     refine TO.skip rfl dc (TO.skip rfl dc (TO.skip rfl dc (TO.skip rfl dc (TO.pick (b := true) rfl dc rfl rfl (TO.move rfl dc rfl (TO.skip rfl dc (TO.skip rfl dc (TO.skip rfl dc (TO.skip rfl dc (TO.pick (b := true) rfl dc rfl rfl (TO.nil (TX.next (TC.condT rfl ?_)))))))))))))
     refine TC.seq (TC.region (TO.assign rfl dc rfl (TO.nil (TX.next (TC.ret (TX.thenRet ?_))))))
     cases h
     exact TX.fin (rs := [.tmp 2]) () (.inl rfl) Try.results6 (.cons (.tmp rfl) .nil) rfl Splits.nil
    ·
     have h := condF hb4 h
     refine TO.move rfl dc rfl ?_
     obtain ⟨r8, hq8, h⟩ := andE h
     refine TO.callP (v := .string r8) (vs := [.string r4]) rfl dc rfl rfl rfl en_20 (fold_Bare_fn hq8) (TO.move rfl dc rfl (TO.bin rfl dc rfl rfl bin_sneq (TO.pick (b := false) rfl dc rfl rfl (TO.move rfl dc rfl ?_))))
     refine TO.split (s := 40) rfl (fun hb5 => ?_) (fun hb5 => ?_)
     ·
      have h := condT hb5 h
      refine TO.skip rfl dc (TO.skip rfl dc (TO.skip rfl dc (TO.skip rfl dc (TO.pick (b := true) rfl dc rfl rfl (TO.nil (TX.next (TC.condT rfl (TC.seq (TC.region (TO.assign rfl dc rfl (TO.nil (TX.next (TC.ret ?_)))))))))))))
      refine TX.thenRet ?_
      cases h
      exact TX.fin (rs := [.tmp 2]) () (.inl rfl) Try.results6 (.cons (.tmp rfl) .nil) rfl Splits.nil
     ·
      have h := condF hb5 h
      refine TO.move rfl dc rfl ?_
      obtain ⟨r9, hq9, h⟩ := andE h
      refine TO.callP (v := .string r9) (vs := [.string r5]) rfl dc rfl rfl rfl en_10 (fold_Fold_fn hq9) (TO.move rfl dc rfl (TO.bin rfl dc rfl rfl bin_sneq (TO.pick (b := false) rfl dc rfl rfl (TO.nil (TX.next ?_)))))
      refine TC.condB rfl (fun hb6 => ?_) (fun hb6 => ?_)
      ·
       have h := condT hb6 h
       refine TC.seq (TC.region (TO.assign rfl dc rfl (TO.nil (TX.next (TC.ret (TX.thenRet ?_))))))
       cases h
       exact TX.fin (rs := [.tmp 2]) () (.inl rfl) Try.results6 (.cons (.tmp rfl) .nil) rfl Splits.nil
      ·
       have h := condF hb6 h
       refine TC.skip (TX.next (TC.seq (TC.seq (TC.region (TO.move rfl dc rfl ?_)))))
       obtain ⟨r10, hq10, h⟩ := andE h
       refine TO.callP (v := .string r10) (vs := [.string r3]) rfl dc rfl rfl rfl en_18 (fold_Apart_fn hq10) (TO.move rfl dc rfl (TO.bin rfl dc rfl rfl bin_sneq (TO.move rfl dc rfl ?_)))
       refine TO.split (s := 50) rfl (fun hb7 => ?_) (fun hb7 => ?_)
       ·
        have h := condT hb7 h
        refine TO.skip rfl dc (TO.skip rfl dc (TO.skip rfl dc (TO.skip rfl dc (TO.pick (b := true) rfl dc rfl rfl (TO.move rfl dc rfl (TO.skip rfl dc (TO.skip rfl dc (TO.skip rfl dc (TO.skip rfl dc (TO.pick (b := true) rfl dc rfl rfl (TO.move rfl dc rfl (TO.skip rfl dc (TO.skip rfl dc ?_)))))))))))))
        refine TO.skip rfl dc (TO.skip rfl dc (TO.pick (b := true) rfl dc rfl rfl (TO.nil (TX.next (TC.condT rfl (TC.seq (TC.region (TO.assign rfl dc rfl (TO.nil (TX.next (TC.ret (TX.thenRet ?_))))))))))))
        cases h
        exact TX.fin (rs := [.tmp 2]) () (.inl rfl) Try.results6 (.cons (.tmp rfl) .nil) rfl Splits.nil
       ·
        have h := condF hb7 h
        refine TO.move rfl dc rfl ?_
        obtain ⟨r11, hq11, h⟩ := andE h
        refine TO.callP (v := .string r11) (vs := [.string r2]) rfl dc rfl rfl rfl en_19 (fold_Together_fn hq11) (TO.move rfl dc rfl (TO.bin rfl dc rfl rfl bin_sneq (TO.pick (b := false) rfl dc rfl rfl (TO.move rfl dc rfl ?_))))
        refine TO.split (s := 56) rfl (fun hb8 => ?_) (fun hb8 => ?_)
        ·
         have h := condT hb8 h
         refine TO.skip rfl dc (TO.skip rfl dc (TO.skip rfl dc (TO.skip rfl dc (TO.pick (b := true) rfl dc rfl rfl (TO.move rfl dc rfl (TO.skip rfl dc (TO.skip rfl dc (TO.skip rfl dc (TO.skip rfl dc (TO.pick (b := true) rfl dc rfl rfl (TO.nil (TX.next (TC.condT rfl ?_)))))))))))))
         refine TC.seq (TC.region (TO.assign rfl dc rfl (TO.nil (TX.next (TC.ret (TX.thenRet ?_))))))
         cases h
         exact TX.fin (rs := [.tmp 2]) () (.inl rfl) Try.results6 (.cons (.tmp rfl) .nil) rfl Splits.nil
        ·
         have h := condF hb8 h
         refine TO.move rfl dc rfl ?_
         obtain ⟨r12, hq12, h⟩ := andE h
         refine TO.callP (v := .string r12) (vs := [.string r2]) rfl dc rfl rfl rfl en_20 (fold_Bare_fn hq12) (TO.move rfl dc rfl (TO.bin rfl dc rfl rfl bin_sneq (TO.pick (b := false) rfl dc rfl rfl (TO.move rfl dc rfl ?_))))
         refine TO.split (s := 62) rfl (fun hb9 => ?_) (fun hb9 => ?_)
         ·
          have h := condT hb9 h
          refine TO.skip rfl dc (TO.skip rfl dc (TO.skip rfl dc (TO.skip rfl dc (TO.pick (b := true) rfl dc rfl rfl (TO.nil (TX.next (TC.condT rfl (TC.seq (TC.region (TO.assign rfl dc rfl (TO.nil (TX.next (TC.ret ?_)))))))))))))
          refine TX.thenRet ?_
          cases h
          exact TX.fin (rs := [.tmp 2]) () (.inl rfl) Try.results6 (.cons (.tmp rfl) .nil) rfl Splits.nil
         ·
          have h := condF hb9 h
          refine TO.move rfl dc rfl ?_
          obtain ⟨r13, hq13, h⟩ := andE h
          refine TO.callP (v := .string r13) (vs := [.string r3]) rfl dc rfl rfl rfl en_20 (fold_Bare_fn hq13) (TO.move rfl dc rfl (TO.bin rfl dc rfl rfl bin_sneq (TO.pick (b := false) rfl dc rfl rfl (TO.nil (TX.next ?_)))))
          refine TC.condB rfl (fun hb10 => ?_) (fun hb10 => ?_)
          ·
           have h := condT hb10 h
           refine TC.seq (TC.region (TO.assign rfl dc rfl (TO.nil (TX.next (TC.ret (TX.thenRet ?_))))))
           cases h
           exact TX.fin (rs := [.tmp 2]) () (.inl rfl) Try.results6 (.cons (.tmp rfl) .nil) rfl Splits.nil
          ·
           have h := condF hb10 h
           refine TC.skip (TX.next ?_)
           obtain ⟨j2, hj2, h⟩ := joinE h
           refine TC.cutN (β := Unit) 0 rfl (fun b => j2 = some r) (fun b => []) (fun b => []) (fun b => []) (fun cut => ?_) ?_
           ·
            refine cut (TC.seq (TC.region (TO.move rfl dc rfl (TO.move rfl dc rfl (TO.move rfl dc rfl (TO.move rfl dc rfl ?_))))))
            obtain ⟨hg2, h⟩ := grdE h
            refine TO.callP (v := .string (lowText s2)) (vs := [.string s2]) rfl dc rfl rfl rfl en_21 (fun w => lowText_any s2 w hg2) ?_
            refine TO.move rfl dc rfl ?_
            obtain ⟨hg3, h⟩ := grdE h
            refine TO.callP (v := .string (upText s2)) (vs := [.string s2]) rfl dc rfl rfl rfl en_22 (fun w => upText_any s2 w hg3) ?_
            refine TO.move rfl dc rfl ?_
            obtain ⟨hg4, h⟩ := grdE h
            refine TO.callP (v := .string (headText s2)) (vs := [.string s2]) rfl dc rfl rfl rfl en_23 (fun w => headText_any s2 w hg4) ?_
            refine TO.build (v := .agg #[.string r2, .string r3, .string r4, .string (lowText s2), .string (upText s2), .string (headText s2)]) (ps := [(0, .tmp 68), (1, .tmp 69), (2, .tmp 70), (3, .tmp 72), (4, .tmp 74), (5, .tmp 76)]) rfl dc rfl (fun _ => by kernel_rfl) ?_
            refine TO.move rfl dc rfl (TO.nil (TX.next (TC.block ?_)))
            refine TC.loopD (β := Nat × Int) (fun b => loopG (fun _ => none) (law04_FoldStays_s1 s2 r2 r3 r4 r5 j2) b.1 b.2 = some r) (fun b => []) (fun b => [(0, .string s2), (6, .string r5), (77, .agg #[.string r2, .string r3, .string r4, .string (lowText s2), .string (upText s2), .string (headText s2)]), (78, .int .i64 b.2)]) (fun b => []) (fun b => b.1) (fuel, 0) h rfl (Sbs.cons rfl (Sbs.cons rfl (Sbs.cons rfl (Sbs.cons rfl (Sbs.nil))))) Splits.nil ?_
            rintro ⟨n1, x3⟩ h
            cases n1 with
            | zero => exact noneE h
            | succ n1 =>
             obtain ⟨ag1, hag1⟩ : ∃ ag, ag = loopG (fun _ => none) (law04_FoldStays_s1 s2 r2 r3 r4 r5 j2) n1 := ⟨_, rfl⟩
             have h : law04_FoldStays_s1 s2 r2 r3 r4 r5 j2 ag1 x3 = some r := by rw [hag1]; exact h
             unfold law04_FoldStays_s1 at h
             show TC _ _ _ _ _ ([]) _ _ [(0, .string s2), (6, .string r5), (77, .agg #[.string r2, .string r3, .string r4, .string (lowText s2), .string (upText s2), .string (headText s2)]), (78, .int .i64 x3)] []
             refine TC.seq (TC.region (TO.bin rfl dc rfl rfl bin_lss (TO.nil (TX.next (TC.seq ?_)))))
             refine TC.condB rfl (fun hb11 => ?_) (fun hb11 => ?_)
             ·
              have h := condT hb11 h
              refine TC.skip (TX.next (TC.seq (TC.block (TC.seq (TC.region ?_)))))
              obtain ⟨q1, hq14, h⟩ := andE h
              refine TO.index (v := .string q1) rfl dc rfl rfl (index_arr (enc := encS) (xs := ([r2, r3, r4, lowText s2, upText s2, headText s2] : List ByteArray)) (q := q1) Try.underlying41 sz_9 rfl encS_len hq14 (fun _ => part_arr (enc := encS) sc_9 encS_len rfl (getO_get hq14))) ?_
              refine TO.assign rfl dc rfl (TO.nil (TX.next (TC.seq (TC.region (TO.move rfl dc rfl ?_)))))
              obtain ⟨r14, hq15, h⟩ := andE h
              refine TO.callP (v := .string r14) (vs := [.string q1]) rfl dc rfl rfl rfl en_10 (fold_Fold_fn hq15) (TO.move rfl dc rfl (TO.bin rfl dc rfl rfl bin_sneq (TO.move rfl dc rfl ?_)))
              refine TO.split (s := 85) rfl (fun hb12 => ?_) (fun hb12 => ?_)
              ·
               have h := condT hb12 h
               refine TO.skip rfl dc (TO.skip rfl dc (TO.skip rfl dc (TO.skip rfl dc (TO.pick (b := true) rfl dc rfl rfl (TO.nil (TX.next (TC.condT rfl (TC.seq (TC.region (TO.assign rfl dc rfl (TO.nil (TX.next (TC.ret ?_)))))))))))))
               refine TX.blockRet (TX.thenRet (TX.thenRet (TX.blockRet (TX.thenRet ?_))))
               cases h
               exact TX.fin (rs := [.tmp 2]) () (.inl rfl) Try.results6 (.cons (.tmp rfl) .nil) rfl Splits.nil
              ·
               have h := condF hb12 h
               refine TO.move rfl dc rfl (TO.move rfl dc rfl ?_)
               obtain ⟨r15, hq16, h⟩ := andE h
               refine TO.callP (v := .bool r15) (vs := [.string q1, .string s2]) rfl dc rfl rfl rfl en_11 (fold_Same_fn hq16) (TO.un rfl dc rfl un_not (TO.pick (b := false) rfl dc rfl rfl (TO.nil (TX.next ?_))))
               refine TC.condB rfl (fun hb13 => ?_) (fun hb13 => ?_)
               ·
                have h := condT hb13 h
                refine TC.seq (TC.region (TO.assign rfl dc rfl (TO.nil (TX.next (TC.ret (TX.blockRet (TX.thenRet (TX.thenRet (TX.blockRet (TX.thenRet ?_))))))))))
                cases h
                exact TX.fin (rs := [.tmp 2]) () (.inl rfl) Try.results6 (.cons (.tmp rfl) .nil) rfl Splits.nil
               ·
                have h := condF hb13 h
                refine TC.skip (TX.blockNormal (TX.next (TC.region ?_)))
                obtain ⟨hg5, h⟩ := grdE h
                refine TO.bin rfl dc rfl rfl (bin_add (r := x3 + 1) (IntWalk.i64_in _ hg5)) (TO.move rfl dc rfl (TO.nil ?_))
                subst hag1
                exact TX.againD (n1, x3 + 1) h (Nat.lt_succ_self _) rfl (Sbs.cons rfl (Sbs.cons rfl (Sbs.cons rfl (Sbs.cons rfl (Sbs.nil))))) Splits.nil
             ·
              have h := condF hb11 h
              refine TC.exit (TX.thenExit (TX.thenExit (TX.blockHere ?_)))
              exact TX.meetD () h rfl (Sbs.nil) Splits.nil
           ·
            rintro _ h
            rw [hj2] at h
            show TC _ _ _ _ _ ([]) _ _ [] []
            refine TC.seq (TC.region ?_)
            obtain ⟨r16, hq17, h⟩ := andE h
            refine TO.callP (v := .bool r16) (vs := []) rfl dc rfl rfl rfl en_7 (law04_wakes_fn hq17) (TO.assign rfl dc rfl (TO.nil (TX.next (TC.ret ?_))))
            cases h
            exact TX.fin (rs := [.tmp 2]) () (.inl rfl) Try.results6 (.cons (.tmp rfl) .nil) rfl Splits.nil
end Go.Proofs.Ytlamcpgnmeileaa
namespace Go.Proofs.Ytlamcpgnmeileaa
open Go.RowKit Go.Lib
set_option linter.unusedVariables false
set_option linter.unusedSimpArgs false
theorem stays_cut {R : Type} {K : ByteArray → Option R} {X : Option R} (s : ByteArray) (h : ∀ x : ByteArray, x.size ≤ 4096 → K x = X) : joinK (fun (j1 : ByteArray → Option R) => bcond (decide ((4096 : Int) < (s.size : Int))) (grd (0 ≤ (0 : Int) ∧ (0 : Int) ≤ 4096 ∧ (4096 : Int) ≤ (s.size : Int)) <| j1 (cutB s 0 4096)) (j1 s)) K = X := by
  by_cases hh : (4096 : Int) < (s.size : Int)
  · exact condTI (decide_eq_true hh) (grdI ⟨by omega, by omega, by omega⟩ (h _ (cut_le' s 4096)))
  · exact condFI (decide_eq_false hh) (h s (by omega))
theorem J_w (f : Itm × List Itm → ByteArray) : ∀ {l : List (Itm × List Itm)}, (∀ c ∈ l, (f c).size ≤ 4 * (ordC c).length) → (J f l).size ≤ 4 * (l.flatMap ordC).length
  | [], _ => Nat.zero_le _
  | c :: l, h => by
    have := J_w f (l := l) fun d hd => h d (List.mem_cons_of_mem _ hd)
    have h1 := h c (List.mem_cons_self ..)
    rw [J_cons, ByteArray.size_append, List.flatMap_cons, List.length_append]; omega
theorem clus_w (s : ByteArray) : ((clus s).flatMap ordC).length ≤ 3 * s.size := by
  have h1 := ordI_len (apL (itemsP s))
  have h2 := apL_len (itemsP s)
  have h3 := pcs_count_le s
  have h4 : (itemsP s).length = (pcs s.data.toList).length := by unfold itemsP; rw [List.length_map]
  show (ordI (apL (itemsP s))).length ≤ _
  omega
theorem ordC_len (c : Itm × List Itm) : (ordC c).length = 1 + c.2.length := by
  unfold ordC; rw [List.length_cons, lohi_len]; omega
theorem forms_few (s : ByteArray) (hs : s.size ≤ 65536) : (foldS s).size ≤ 12 * s.size ∧ (apartS s).size ≤ 12 * s.size ∧ (bareS s).size ≤ 12 * s.size ∧ (togS s).size ≤ 12 * s.size := by
  obtain ⟨hl, hc⟩ := clus_ok hs
  have hw := clus_w s
  refine ⟨?_, ?_, ?_, ?_⟩
  · have := J_w foldC (l := clus s) (fun c hcm => by have := foldI_size (hc c hcm).1; have := ordC_len c; show (foldI c.1).Text.size ≤ _; omega)
    unfold foldS; omega
  · have := J_w apartC (l := clus s) (fun c hcm => by
      obtain ⟨h1, h2, _, h4⟩ := hc c hcm
      have := J_size (fun x : Itm => x.Text) 4 (l := ordC c) (fun x hx => by
        unfold ordC at hx
        rcases List.mem_cons.1 hx with rfl | hx
        · exact okT_size h1
        · have hx' : x ∈ c.2 := by
            unfold loI hiI at hx
            rw [List.mem_append, List.mem_filter, List.mem_filter] at hx
            rcases hx with hx | hx <;> exact hx.1
          exact okT_size (h2 x hx').2)
      unfold apartC; omega)
    unfold apartS; omega
  · have := J_w (fun c : Itm × List Itm => c.1.Text) (l := clus s) (fun c hcm => by have := okT_size (hc c hcm).1; have := ordC_len c; show c.1.Text.size ≤ _; omega)
    unfold bareS; omega
  · have := J_w tgC (l := clus s) (fun c hcm => by
      obtain ⟨h1, h2, _, h4⟩ := hc c hcm
      have hh := lohi_le c.2
      have h5 := lohi_len c.2
      have h6 := ordC_len c
      rw [List.length_append] at h5
      unfold tgC
      split
      · have := tgU_size c.1.Rune ((loI c.2).map (·.Rune)) ((hiI c.2).map (·.Rune)) (by simp; omega) (by simp; omega)
        simp only [List.length_map] at this; omega
      · have := okT_size h1; omega)
    unfold togS; omega
theorem turn_few (f : Tok → Bool → List Tok → List Tok) (hf : ∀ t led ts, (flat (f t led ts)).length ≤ 4) : ∀ (ts : List Tok) (led : Bool), (∀ t ∈ ts, okTok t) → (flat (turnT f led ts)).length ≤ 4 * ts.length
  | [], _, _ => Nat.zero_le _
  | t :: ts, led, h => by
    have ih := turn_few f hf ts (nxt led t) fun u hu => h u (List.mem_cons_of_mem _ hu)
    have ht : t.bs.length ≤ 4 := by
      rcases h t (List.mem_cons_self ..) with ho | ho
      · rw [ho.2]; exact (encodeRune_len _).2
      · unfold Tok.broken at ho; rw [Bool.and_eq_true, beq_iff_eq, beq_iff_eq] at ho; omega
    have h1 : (flat (if tk t = 1 then f t led ts else [t])).length ≤ 4 := by
      split
      · exact hf t led ts
      · simpa [flat] using ht
    rw [turnT, flat_append, List.length_append, List.length_cons]; omega
theorem one_few (r : Nat) : (flat [mkT r]).length ≤ 4 := by
  have := (encodeRune_len (r : Int)).2
  simpa [flat, mkT] using this
theorem toks_few (s : ByteArray) : (toks s.data.toList).length ≤ s.size := by
  have h := pcs_count_le s
  unfold pcs at h
  rw [pcs_place, place_length] at h
  exact h
theorem turned_few (s : ByteArray) : (lowText s).size ≤ 4 * s.size ∧ (upText s).size ≤ 4 * s.size ∧ (headText s).size ≤ 4 * s.size := by
  have h0 := toks_few s
  refine ⟨?_, ?_, ?_⟩
  · rw [← size_listN, low_list]
    have := turn_few lowF (fun t led ts => one_few _) (toks s.data.toList) false (toks_ok _)
    omega
  · rw [← size_listN, up_list]
    have := turn_few upF (fun t led ts => by unfold upF; split; decide; exact one_few _) (toks s.data.toList) false (toks_ok _)
    omega
  · rw [← size_listN, head_list]
    have := turn_few headF (fun t led ts => by unfold headF; split; exact one_few _; exact one_few _) (toks s.data.toList) false (toks_ok _)
    omega
theorem stays_loop (s a t b f : ByteArray) (hs : s.size ≤ 65536) (hq : ∀ q ∈ [a, t, b, lowText s, upText s, headText s], q.size ≤ 65536 ∧ foldS q = f) (hf : foldS s = f) (j : Option Bool) : ∀ (n k : Nat), k ≤ 6 → 6 - k < n → loopG (fun _ => none) (law04_FoldStays_s1 s a t b f j) n (k : Int) = j := by
  intro n
  induction n with
  | zero => intro k _ h; omega
  | succ n ih =>
    intro k hk hn
    rw [loopI]
    generalize loopG (fun _ => none) (law04_FoldStays_s1 s a t b f j) n = ag at ih ⊢
    unfold law04_FoldStays_s1
    by_cases h : k < 6
    · generalize hL : [a, t, b, lowText s, upText s, headText s] = L at hq ⊢
      have hlen : L.length = 6 := by rw [← hL]; rfl
      have hx : L[k]? = some (L[k]'(by omega)) := List.getElem?_eq_getElem (by omega)
      obtain ⟨h1, h2⟩ := hq _ (List.mem_of_getElem? hx)
      generalize L[k]'(by omega) = q at hx h1 h2
      refine condTI (decide_eq_true (by omega)) (thenI (lp_get hx) (thenI (fold_v q h1) (condFI (by rw [decide_eq_true h2]; rfl) (thenI (same_v q s h1 hs) (condFI (by rw [decide_eq_true (h2.trans hf.symm)]; rfl) (grdI ⟨by omega, by omega⟩ ?_))))))
      have := ih (k + 1) (by omega) (by omega)
      rwa [show ((k + 1 : Nat) : Int) = (k : Int) + 1 by omega] at this
    · exact condFI (decide_eq_false (by omega)) rfl
theorem foldStays_v (s : ByteArray) : law04_FoldStays_v s = some true := by
  unfold law04_FoldStays_v
  refine thenI wakes_v (condFI rfl (stays_cut s fun s hs => ?_))
  have h0 : s.size ≤ 65536 := by omega
  obtain ⟨f1, f2, f3, f4⟩ := forms_few s h0
  obtain ⟨t1, t2, t3⟩ := turned_few s
  have ne : ∀ {x y : ByteArray}, x = y → (!decide (x = y)) = false := fun h => by rw [decide_eq_true h]; rfl
  refine thenI (apart_vv s h0) (thenI (tog_v s h0) (thenI (bare_vv s h0) (thenI (fold_v s h0) ?_)))
  refine thenI (apart_vv _ (by omega)) (condFI (ne (apart_apart s h0)) (thenI (tog_v _ (by omega)) (condFI (ne (tog_tog s h0)) (thenI (bare_vv _ (by omega)) (condFI (ne (bare_bare s h0)) (thenI (fold_v _ (by omega)) (condFI (ne (fold_fold s h0)) ?_)))))))
  refine thenI (apart_vv _ (by omega)) (condFI (ne (apart_tog s h0)) (thenI (tog_v _ (by omega)) (condFI (ne (tog_apart s h0)) (thenI (bare_vv _ (by omega)) (condFI (ne (bare_apart s h0)) (thenI (bare_vv _ (by omega)) (condFI (ne (bare_tog s h0)) (joinI ?_))))))))
  refine grdI (by omega) (grdI (by omega) (grdI (by omega) ?_))
  have := stays_loop s (apartS s) (togS s) (bareS s) (foldS s) h0 (fun q hq => by
    simp only [List.mem_cons, List.not_mem_nil, or_false] at hq
    rcases hq with rfl | rfl | rfl | rfl | rfl | rfl
    · exact ⟨by omega, fold_apart s h0⟩
    · exact ⟨by omega, fold_tog s h0⟩
    · exact ⟨by omega, fold_bare s h0⟩
    · exact ⟨by omega, fold_low s⟩
    · exact ⟨by omega, fold_up s⟩
    · exact ⟨by omega, fold_head s⟩) rfl (andThen (law04_wakes_v) fun (r16 : Bool) => some r16) fuel 0 (by omega) (by have := big_fuel (n := 6) (by omega); omega)
  exact this.trans (thenI wakes_v rfl)
theorem foldStays_any (s : ByteArray) (w : World) (h0 : s.size ≤ 140737488351232) : Calls Try.prog 6 #[.string s] w fun e w' => e = .returned (.bool true) ∧ Below w.heap.size w w' :=
  law04_FoldStays_fn (foldStays_v s) w
end Go.Proofs.Ytlamcpgnmeileaa
