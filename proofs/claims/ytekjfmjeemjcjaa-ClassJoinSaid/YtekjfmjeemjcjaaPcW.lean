/-
  Walks: strings.HasPrefix; the pieces of a text as class.pieces gives them. Nothing is assumed.
-/
import Derived.Test.YtekjfmjeemjcjaaProg
import Derived.Test.YtekjfmjeemjcjaaIter
import Derived.Test.YtekjfmjeemjcjaaUtf
namespace Go.Proofs.Ytekjfmjeemjcjaa
open Go.RowKit Go.Lib Go.Shelf
attribute [local go_sem] Oper.semAt_some wide_fn wide_in_fn wide_depth
set_option linter.unusedVariables false

theorem ret_bool {a b : Bool} (h : a = b) : Ending.returned (.bool a) = .returned (.bool b) := by rw [h]
theorem ret_int {k : IntKind} {a b : Int} (h : a = b) : Ending.returned (.int k a) = .returned (.int k b) := by rw [h]

def hasPre (l p : List UInt8) : Bool := decide (l.take p.length = p)

set_option maxHeartbeats 400000 in
theorem hasPrefix0_any (s p : ByteArray) (w : World) :
    Calls Try.prog 72 #[.string s, .string p] w fun e w' => e = .returned (.bool (hasPre s.data.toList p.data.toList)) ∧ w = w' := by
  by_cases h : p.size ≤ s.size
  · go_enter Try.func72, Try.ntmps72
    go_wp2
    go_ret
    refine ⟨ret_bool ?_, rfl⟩
    rw [Lib.toList_data, Lib.toList_data, extract_data]
    simp only [hasPre, List.drop_zero, Nat.sub_zero]
    rw [show p.data.toList.length = p.size from by simp]
    rw [Bool.eq_iff_iff]
    rw [beq_iff_eq, decide_eq_true_iff]
  · go_enter Try.func72, Try.ntmps72
    go_wp2
    go_ret
    refine ⟨ret_bool ?_, rfl⟩
    symm
    simp only [hasPre, decide_eq_false_iff_not]
    intro e
    have := congrArg List.length e
    simp at this
    omega

set_option maxHeartbeats 400000 in
theorem hasPrefix_any (s p : ByteArray) (w : World) :
    Calls Try.prog 64 #[.string s, .string p] w fun e w' => e = .returned (.bool (hasPre s.data.toList p.data.toList)) ∧ w = w' := by
  go_enter Try.func64, Try.ntmps64
  go_wp2_with (go_at_call 72; refine (hasPrefix0_any _ _ _).mono ?_; rintro e w' ⟨rfl, rfl⟩)
  go_ret
  exact ⟨rfl, rfl⟩

def encPc (p : Pc) : Array Value := #[.agg #[.int .i64 p.i, .int .i64 p.w, .int .i32 p.r, .bool p.broken]]

set_option maxRecDepth 100000 in
set_option maxHeartbeats 1000000 in
theorem pieces1_yields (s : ByteArray) (hs : s.size ≤ 4611686018427387904) (Bs : Nat) (W0 : World) (hB : Boxed W0 Bs 9 (.string s)) :
    Yields Try.prog 63 #[.pointer (some ⟨Bs, 0, none⟩)] encPc (pcs s.data.toList) (fun k => k = Bs) W0 := by
  intro l I X C0 W hD hsz hC0 hI hX hY h0
  have hBW : Boxed W Bs 9 (.string s) := (hD Bs rfl).2.trans hB
  have hc := hBW.cell
  refine calls_of_body Try.func63 rfl ?_
  simp only [Try.ntmps63, List.size_toArray, List.length_cons, List.length_nil, Nat.reduceAdd, Nat.reduceSub, Array.replicate_succ, Array.replicate_zero, List.push_toArray, List.append_toArray, List.nil_append, List.cons_append]
  gi_wp2
  gi_loopw [] (fun wr => ∃ pre C pos, pcs s.data.toList = pre ++ pcsFrom pos (s.data.toList.drop pos) ∧ pos ≤ s.size ∧ I pre C wr ∧ Ext C0 C W wr ∧ ¬ C W.heap.size ∧ wr.heap[W.heap.size]? = some (.stringIter s pos)) (fun wr => s.size - wr.iterPos W.heap.size)
  case atStart =>
    have h1 := World.iter_heap W s 0
    refine ⟨[], C0, 0, rfl, Nat.zero_le _, ?_, ?_, fun h => by have := (hC0 _ h).1; omega, h1⟩
    · exact hI _ _ _ _ h0 (by simp [World.iter]) (fun k hk => Below.heap_alloc W _ k (hC0 k hk).1)
    · exact Ext.of_fr ((Fr.refl _ _).alloc _)
  case round =>
    obtain ⟨pre, C, pos, hx, hpos, hi, hext, hnC, hit⟩ := hrel
    have hitlt : W.heap.size < wr.heap.size := lt_of_some hit
    have hBr : Boxed wr Bs 9 (.string s) := hext.1.at hBW (fun h => (hC0 _ h).2 rfl)
    have hBne : Bs ≠ W.heap.size := by have := (hD Bs rfl).1; omega
    by_cases hlt : pos < s.size
    · have hnx : ∀ ty, (Instr.next (.pointer (some ⟨W.heap.size, 0, none⟩)) true ty).run Try.prog wr = _ := fun ty => Lib.run_next_any_at wr W.heap.size s pos ty hit hlt
      have hne : s.data.toList.drop pos ≠ [] := by
        intro e; have := congrArg List.length e; simp at this; omega
      have hdl := decodeL_drop s pos
      have hv := dec_valid (s.data.toList.drop pos)
      have hle := dec_le _ hne
      have hwd := dec_width _ hne
      have hlo := dec_lost_ok _ hne
      have hlb := dec_lost_bad (s.data.toList.drop pos)
      have hp1 := dec_pos (s.data.toList.drop pos)
      rw [pcsFrom_cons pos _ hne] at hx
      rw [List.drop_drop] at hx
      rw [hdl] at hx hv hle hwd hlo hlb hp1
      clear hdl
      rcases hd : Utf8.decode s pos with ⟨r, wd⟩
      rw [hd] at hx hv hle hwd hlo hlb hp1 hnx
      clear hd
      simp only at hx hv hle hwd hlo hlb hp1 hnx
      have hle' : pos + wd ≤ s.size := by simp at hle; omega
      obtain ⟨W1, hW1⟩ : ∃ W1, wr.iterAt W.heap.size s (pos + wd) = W1 := ⟨_, rfl⟩
      have hit1 : W1.heap[W.heap.size]? = some (.stringIter s (pos + wd)) := by rw [← hW1]; exact iterAt_heap wr _ s pos _ hit
      have hf1 : Fr (fun k => k = W.heap.size) wr W1 := by rw [← hW1]; exact Fr.iterAt (Fr.refl (fun k => k = W.heap.size) wr) (.inl rfl) s _
      have hB1 : Boxed W1 Bs 9 (.string s) := hf1.at hBr hBne
      have hc1 := hB1.cell
      have hsz1 : W1.heap.size = wr.heap.size := by rw [← hW1, iterAt_size]
      rw [hW1] at hnx
      clear hW1 hc
      have hiA : ∀ w', Fr (fun k => k = W.heap.size) wr w' → I pre C w' := fun w' hf => hI.own hi hext (fun k hk => (hC0 k hk).1) hf (by rintro k rfl; exact hnC)
      have heA : ∀ w', Fr (fun k => k = W.heap.size) wr w' → Ext C0 C W w' := fun w' hf => hext.own hf (by rintro k rfl; exact Nat.le_refl _)
      have hx' : pcs s.data.toList = (pre ++ [⟨pos, wd, r⟩]) ++ pcsFrom (pos + wd) (s.data.toList.drop (pos + wd)) := by rw [hx]; simp
      have hx'' := Lib.hid hx'
      have fin : ∀ (b : Bool) (W2 W3 : World), Fr (fun k => k = W.heap.size) wr W2 → W2.heap[W.heap.size]? = some (.stringIter s (pos + wd)) →
          (∃ C', Ext C C' W2 W3 ∧ ((b = true ∧ I (pre ++ [⟨pos, wd, r⟩]) C' W3) ∨ (b = false ∧ X (pre ++ [⟨pos, wd, r⟩]) C' W3))) →
          (b = true ∧ (∃ pre C pos, pcs s.data.toList = pre ++ pcsFrom pos (s.data.toList.drop pos) ∧ pos ≤ s.size ∧ I pre C W3 ∧ Ext C0 C W W3 ∧ ¬ C W.heap.size ∧ W3.heap[W.heap.size]? = some (.stringIter s pos)) ∧ s.size - W3.iterPos W.heap.size < s.size - wr.iterPos W.heap.size) ∨
          (b = false ∧ ∃ C', Ext C0 C' W W3 ∧ (I (pcs s.data.toList) C' W3 ∨ ∃ pre x post, pcs s.data.toList = pre ++ x :: post ∧ X (pre ++ [x]) C' W3)) := by
        rintro b W2 W3 hf2 hit2 ⟨C', he3, ⟨rfl, hi3⟩ | ⟨rfl, hx3⟩⟩
        · have hit3 := he3.1.at hit2 hnC
          refine .inl ⟨rfl, ⟨_, C', pos + wd, hx', hle', hi3, (heA _ hf2).trans he3, he3.not (lt_of_some hit2) hnC, hit3⟩, ?_⟩
          simp only [World.iterPos, hit3, hit]
          omega
        · exact .inr ⟨rfl, C', (heA _ hf2).trans he3, .inr ⟨pre, _, _, hx, hx3⟩⟩
      have hitA : ∀ o, (W1.alloc o).heap[W.heap.size]? = some (.stringIter s (pos + wd)) := fun o => (Below.heap_alloc W1 o _ (by omega)).trans hit1
      by_cases h1 : r = 65533
      · subst h1
        have hex1 : ∀ b, hasPre (s.extract pos s.size).data.toList (ByteArray.mk #[239, 191, 189]).data.toList = b → ∀ w : World,
            Calls Try.prog 64 #[.string (s.extract pos s.size), .string (ByteArray.mk #[239, 191, 189])] w fun e w' => e = .returned (.bool b) ∧ w = w' := by
          intro b hb w
          rw [← hb]
          exact hasPrefix_any _ _ w
        rw [ext_end] at hex1
        have hw3 : (Utf8.encode 65533).size = 3 := by decide
        have hcA : ∀ o, (W1.alloc o).cell? ⟨Bs, 0, none⟩ = some (.string s) := fun o => (Boxed.alloc hB1 o).cell
        by_cases h2 : wd = 1
        · subst h2
          have hp := hex1 false (by simp only [hasPre, decide_eq_false_iff_not]; exact hlb rfl rfl)
          have hbr : Pc.broken ⟨pos, 1, 65533⟩ = true := rfl
          have hyy : YAt Try.prog l #[.agg #[.int .i64 pos, .int .i64 1, .int .i32 65533, .bool true]] (W1.alloc (.cells #[.int .i64 pos, .int .i64 1, .int .i32 65533, .bool true] 51)) _ := hY pre ⟨pos, 1, 65533⟩ _ C (W1.alloc (.cells #[.int .i64 pos, .int .i64 1, .int .i32 65533, .bool true] 51)) hx (heA _ (hf1.alloc _)) (hiA _ (hf1.alloc _))
          have hitB : (W1.alloc (.cells #[.int .i64 pos, .int .i64 1, .int .i32 65533, .bool true] 51)).heap[W.heap.size]? = some (.stringIter s (pos + 1)) := ((Fr.refl (fun _ => False) W1).alloc _).at hit1 (fun h => h)
          obtain ⟨fn, tmps, assign, body, hy, hR⟩ := hyy
          have fin' := Lib.hid (fin)
          have hf1'' : Fr (fun k => k = W.heap.size) wr (W1.alloc (.cells #[.int .i64 pos, .int .i64 1, .int .i32 65533, .bool true] 51)) := hf1.alloc _
          have hf1' := Lib.hid hf1''
          clear hf1''
          have hitA' := Lib.hid hitB
          clear hbr hwd hlo hlb hv hx hx' hY hiA hD hext fin hf1 hitA heA hex1 hitB
          gi_wp2_with (gi_at_call 64; refine (CallsIn.mono (callsIn_wide.2 (hp _)) ?_); rintro e w' ⟨rfl, rfl⟩)
          refine hR.mono ?_
          rintro e W3 ⟨b, rfl, hex⟩
          rcases fin'.out b _ W3 hf1'.out hitA'.out hex with ⟨rfl, hrel, hmu⟩ | ⟨rfl, hend⟩
          · have hrel' := Lib.hid hrel; have hmu' := Lib.hid hmu
            clear hrel hmu hex fin' hitA' hf1'
            gi_wp2
            go_roundw
            case rel => exact hrel'.out
            case measure => exact hmu'.out
          · have hend' := Lib.hid hend
            clear hend hex fin' hitA' hf1'
            gi_wp2
            exact ⟨_, results_none rfl _ _ _, ⟨_, rfl⟩, hend'.out⟩
        · obtain ⟨hl3, rfl⟩ := hlo rfl h2
          have hp := hex1 true (by simp only [hasPre, decide_eq_true_eq]; exact hl3)
          clear h2 hl3
          have hbr : Pc.broken ⟨pos, 3, 65533⟩ = false := rfl
          have hyy : YAt Try.prog l #[.agg #[.int .i64 pos, .int .i64 3, .int .i32 65533, .bool false]] (W1.alloc (.cells #[.int .i64 pos, .int .i64 3, .int .i32 65533, .bool false] 51)) _ := hY pre ⟨pos, 3, 65533⟩ _ C (W1.alloc (.cells #[.int .i64 pos, .int .i64 3, .int .i32 65533, .bool false] 51)) hx (heA _ (hf1.alloc _)) (hiA _ (hf1.alloc _))
          have hitB : (W1.alloc (.cells #[.int .i64 pos, .int .i64 3, .int .i32 65533, .bool false] 51)).heap[W.heap.size]? = some (.stringIter s (pos + 3)) := ((Fr.refl (fun _ => False) W1).alloc _).at hit1 (fun h => h)
          obtain ⟨fn, tmps, assign, body, hy, hR⟩ := hyy
          have fin' := Lib.hid (fin)
          have hf1'' : Fr (fun k => k = W.heap.size) wr (W1.alloc (.cells #[.int .i64 pos, .int .i64 3, .int .i32 65533, .bool false] 51)) := hf1.alloc _
          have hf1' := Lib.hid hf1''
          clear hf1''
          have hitA' := Lib.hid hitB
          clear hbr hwd hlo hlb hv hx hx' hY hiA hD hext fin hf1 hitA heA hex1 hitB
          gi_wp2_with (gi_at_call 64; refine (CallsIn.mono (callsIn_wide.2 (hp _)) ?_); rintro e w' ⟨rfl, rfl⟩)
          refine hR.mono ?_
          rintro e W3 ⟨b, rfl, hex⟩
          rcases fin'.out b _ W3 hf1'.out hitA'.out hex with ⟨rfl, hrel, hmu⟩ | ⟨rfl, hend⟩
          · have hrel' := Lib.hid hrel; have hmu' := Lib.hid hmu
            clear hrel hmu hex fin' hitA' hf1'
            gi_wp2
            go_roundw
            case rel => exact hrel'.out
            case measure => exact hmu'.out
          · have hend' := Lib.hid hend
            clear hend hex fin' hitA' hf1'
            gi_wp2
            exact ⟨_, results_none rfl _ _ _, ⟨_, rfl⟩, hend'.out⟩
      · have h1' : ((r : Int) == 65533) = false := by simp; omega
        have hw2 : (Utf8.encode (r : Int)).size = wd := by rw [encode_size]; exact hwd (fun h => h1 h.1)
        have hbr : Pc.broken ⟨pos, wd, r⟩ = false := by simp [Pc.broken, h1]
        have hyy := hY pre ⟨pos, wd, r⟩ _ C (W1.alloc (.cells #[.int .i64 pos, .int .i64 wd, .int .i32 r, .bool false] 51)) hx (heA _ (hf1.alloc _)) (hiA _ (hf1.alloc _))
        simp only [encPc, hbr] at hyy
        obtain ⟨fn, tmps, assign, body, hy, hR⟩ := hyy
        have fin' := Lib.hid (fin)
        have hf1' := Lib.hid hf1
        have hitA' := Lib.hid hitA
        clear hbr h1 hwd hlo hlb hv hx hx' hY hiA hD hext fin hf1 hitA heA
        gi_wp2
        refine hR.mono ?_
        rintro e W3 ⟨b, rfl, hex⟩
        rcases fin'.out b _ W3 (hf1'.out.alloc _) (hitA'.out _) hex with ⟨rfl, hrel, hmu⟩ | ⟨rfl, hend⟩
        · have hrel' := Lib.hid hrel; have hmu' := Lib.hid hmu
          clear hrel hmu hex fin' hitA' hf1'
          gi_wp2
          go_roundw
          case rel => exact hrel'.out
          case measure => exact hmu'.out
        · have hend' := Lib.hid hend
          clear hend hex fin' hitA' hf1'
          gi_wp2
          exact ⟨_, results_none rfl _ _ _, ⟨_, rfl⟩, hend'.out⟩
    · have hnx : ∀ ty, (Instr.next (.pointer (some ⟨W.heap.size, 0, none⟩)) true ty).run Try.prog wr = _ := fun ty => Lib.run_next_end_at wr W.heap.size s pos ty hit hlt
      have hx0 : pcs s.data.toList = pre := by rw [hx, List.drop_eq_nil_of_le (by simp; omega), pcsFrom_nil, List.append_nil]
      have hend : ∃ C', Ext C0 C' W wr ∧ (I (pcs s.data.toList) C' wr ∨ ∃ pre x post, pcs s.data.toList = pre ++ x :: post ∧ X (pre ++ [x]) C' wr) := ⟨C, hext, .inl (by rw [hx0]; exact hi)⟩
      have hend' := Lib.hid hend
      clear hx0 hend hx hY hD
      gi_wp2
      exact ⟨_, results_none rfl _ _ _, ⟨_, rfl⟩, hend'.out⟩

end Go.Proofs.Ytekjfmjeemjcjaa
