/-
  Plain lemmas on UTF-8: the pieces of a text, as a range over it tells them. No program is named here. Nothing is assumed.
-/
import Derived.Test.YtekjfmjeemjcjaaFr
namespace Go.Proofs.Ytekjfmjeemjcjaa
open Go.RowKit Go.Lib

theorem ext_end (s : ByteArray) (a : Nat) : (s.extract a s.size).data.toList = s.data.toList.drop a := by
  rw [extract_data]; rw [List.take_of_length_le]; simp
theorem encode_list (r : Int) : (Utf8.encode r).data.toList = encodeRune r := by
  unfold Utf8.encode encodeRune
  rw [validRune_eq]
  by_cases hv : validRune r = true
  · have hv' : (0 ≤ r ∧ r < 55296) ∨ (57343 < r ∧ r ≤ 1114111) := by simpa [validRune] using hv
    rw [hv]
    simp only [if_true]
    obtain ⟨n, rfl⟩ : ∃ n : Nat, r = n := ⟨r.toNat, by omega⟩
    simp only [Int.toNat_natCast]
    by_cases h1 : n < 128
    · rw [encodeRuneZ_one (by omega) (by omega), if_pos h1]; rfl
    · by_cases h2 : n < 2048
      · rw [encodeRuneZ_two (by omega) (by omega), if_neg h1, if_pos h2]
        simp only [List.map_cons, List.map_nil]
        rw [show ((192 : Int) + n / 64).toNat = 192 + n / 64 from by omega, show ((128 : Int) + n % 64).toNat = 128 + n % 64 from by omega]
      · by_cases h3 : n < 65536
        · rw [encodeRuneZ_three (by omega), if_neg h1, if_neg h2, if_pos h3]
          simp only [List.map_cons, List.map_nil]
          rw [show ((224 : Int) + n / 4096).toNat = 224 + n / 4096 from by omega, show ((128 : Int) + n / 64 % 64).toNat = 128 + n / 64 % 64 from by omega, show ((128 : Int) + n % 64).toNat = 128 + n % 64 from by omega]
        · rw [encodeRuneZ_four (by omega) (by omega), if_neg h1, if_neg h2, if_neg h3]
          simp only [List.map_cons, List.map_nil]
          rw [show ((240 : Int) + n / 262144).toNat = 240 + n / 262144 from by omega, show ((128 : Int) + n / 4096 % 64).toNat = 128 + n / 4096 % 64 from by omega, show ((128 : Int) + n / 64 % 64).toNat = 128 + n / 64 % 64 from by omega, show ((128 : Int) + n % 64).toNat = 128 + n % 64 from by omega]
  · have hv' : ¬ ((0 ≤ r ∧ r < 55296) ∨ (57343 < r ∧ r ≤ 1114111)) := by simpa [validRune] using hv
    have hv2 : validRune r = false := by simpa using hv
    rw [hv2, encodeRuneZ_bad (by omega)]
    simp [Utf8.runeError]

theorem encode_size (r : Int) : (Utf8.encode r).size = (encodeRune r).length := by
  rw [← encode_list]; simp
theorem encodeRune_len (r : Int) : 1 ≤ (encodeRune r).length ∧ (encodeRune r).length ≤ 4 := by
  have := encodeRuneZ_length r; simpa [encodeRune] using this

/-- A piece of a text: where it stands, how many bytes it has, its rune. -/
structure Pc where
  i : Nat
  w : Nat
  r : Nat
  deriving DecidableEq
def Pc.broken (p : Pc) : Bool := p.r == 65533 && p.w == 1

def pcsF : Nat → Nat → List UInt8 → List Pc
  | 0, _, _ => []
  | f + 1, i, l => if l = [] then [] else ⟨i, (decodeL l).2, (decodeL l).1⟩ :: pcsF f (i + (decodeL l).2) (l.drop (decodeL l).2)
def pcsFrom (i : Nat) (l : List UInt8) : List Pc := pcsF l.length i l
def pcs (l : List UInt8) : List Pc := pcsFrom 0 l

theorem dec_pos (l : List UInt8) : 1 ≤ (decodeL l).2 := decodeL_width l
theorem dec_le (l : List UInt8) (h : l ≠ []) : (decodeL l).2 ≤ l.length := decodeL_le l h

theorem pcsF_enough : ∀ (f g i : Nat) (l : List UInt8), l.length ≤ f → l.length ≤ g → pcsF f i l = pcsF g i l := by
  intro f
  induction f with
  | zero =>
    intro g i l h1 h2
    have : l = [] := List.eq_nil_of_length_eq_zero (by omega)
    subst this
    cases g <;> simp [pcsF]
  | succ f ih =>
    intro g i l h1 h2
    cases g with
    | zero =>
      have : l = [] := List.eq_nil_of_length_eq_zero (by omega)
      subst this
      simp [pcsF]
    | succ g =>
      by_cases hl : l = []
      · simp [pcsF, hl]
      · simp only [pcsF, hl, if_false]
        have := dec_pos l
        have hlen : 0 < l.length := List.length_pos_iff.2 hl
        rw [ih g _ _ (by simp; omega) (by simp; omega)]

theorem pcsFrom_nil (i : Nat) : pcsFrom i [] = [] := by simp [pcsFrom, pcsF]
theorem pcsFrom_cons (i : Nat) (l : List UInt8) (h : l ≠ []) :
    pcsFrom i l = ⟨i, (decodeL l).2, (decodeL l).1⟩ :: pcsFrom (i + (decodeL l).2) (l.drop (decodeL l).2) := by
  have hlen : 0 < l.length := List.length_pos_iff.2 h
  unfold pcsFrom
  obtain ⟨n, hn⟩ : ∃ n, l.length = n + 1 := ⟨l.length - 1, by omega⟩
  rw [hn]
  simp only [pcsF, h, if_false]
  have := dec_pos l
  rw [pcsF_enough n (l.drop (decodeL l).2).length _ _ (by simp; omega) (Nat.le_refl _)]

/-- What a piece's width is: its rune's form, or one broken byte. -/
theorem dec_width (l : List UInt8) (h : l ≠ []) (hb : ¬ ((decodeL l).1 = 65533 ∧ (decodeL l).2 = 1)) : (encodeRune ((decodeL l).1 : Nat)).length = (decodeL l).2 := by
  rw [encode_decode l h hb]
  have := dec_le l h
  simp; omega
theorem enc_lost : encodeRune ((65533 : Nat) : Int) = [239, 191, 189] := by decide
/-- The lost sign's form, written out, against a broken byte. -/
theorem dec_lost_ok (l : List UInt8) (h : l ≠ []) (hr : (decodeL l).1 = 65533) (hw : (decodeL l).2 ≠ 1) : l.take 3 = [239, 191, 189] ∧ (decodeL l).2 = 3 := by
  have h1 := encode_decode l h (fun h => hw h.2)
  have h2 := dec_width l h (fun h => hw h.2)
  rw [hr, enc_lost] at h1 h2
  simp at h2
  rw [← h2] at h1
  exact ⟨h1.symm, h2.symm⟩
theorem dec_lost_bad (l : List UInt8) (hr : (decodeL l).1 = 65533) (hw : (decodeL l).2 = 1) : l.take 3 ≠ [239, 191, 189] := by
  intro h3
  obtain ⟨t, rfl⟩ : ∃ t, l = 239 :: 191 :: 189 :: t := by
    rcases l with _ | ⟨a, _ | ⟨b, _ | ⟨c, t⟩⟩⟩ <;> simp at h3
    exact ⟨t, by simp [h3]⟩
  rw [decodeL_N] at hw
  simp [decodeN] at hw

theorem dec_rune_le (l : List UInt8) : (decodeL l).1 ≤ 1114111 := decodeL_rune l
theorem dec_valid (l : List UInt8) : (decodeL l).1 < 55296 ∨ (57343 < (decodeL l).1 ∧ (decodeL l).1 ≤ 1114111) := by
  rw [decodeL_N]; exact decodeN_valid _ _ _ _ _ (UInt8.toNat_lt _)

/-- What is known of a piece that begins a text. -/
structure DecOk (l : List UInt8) (r wd : Nat) : Prop where
  eq : decodeL l = (r, wd)
  pos : 1 ≤ wd
  le : wd ≤ l.length
  valid : r < 55296 ∨ (57343 < r ∧ r ≤ 1114111)
  width : ¬ (r = 65533 ∧ wd = 1) → (encodeRune ((r : Nat) : Int)).length = wd
  bytes : ¬ (r = 65533 ∧ wd = 1) → encodeRune ((r : Nat) : Int) = l.take wd
  lost_ok : r = 65533 → wd ≠ 1 → l.take 3 = [239, 191, 189] ∧ wd = 3
  lost_bad : r = 65533 → wd = 1 → l.take 3 ≠ [239, 191, 189]

theorem decOk (l : List UInt8) (h : l ≠ []) : DecOk l (decodeL l).1 (decodeL l).2 :=
  ⟨rfl, dec_pos l, dec_le l h, dec_valid l, dec_width l h, encode_decode l h, dec_lost_ok l h, dec_lost_bad l⟩

/-- One step of a range over a string, in whatever world. -/
theorem next_some (P : Program) (wr : World) (it : Nat) (s : ByteArray) (pos : Nat) (hit : wr.heap[it]? = some (.stringIter s pos)) (hlt : pos < s.size) :
    ∃ (r wd : Nat) (W1 : World), (∀ ty, (Instr.next (.pointer (some ⟨it, 0, none⟩)) true ty).run P wr = .ok (.tuple #[.bool true, .int .i64 pos, .int .i32 r]) W1) ∧
      Fr (fun k => k = it) wr W1 ∧ W1.heap[it]? = some (.stringIter s (pos + wd)) ∧ W1.heap.size = wr.heap.size ∧
      DecOk (s.data.toList.drop pos) r wd ∧ pcsFrom pos (s.data.toList.drop pos) = ⟨pos, wd, r⟩ :: pcsFrom (pos + wd) (s.data.toList.drop (pos + wd)) ∧ pos + wd ≤ s.size ∧ 1 ≤ wd := by
  have hne : s.data.toList.drop pos ≠ [] := by
    intro e; have := congrArg List.length e; simp at this; omega
  have hd := decodeL_drop s pos
  have hok := decOk _ hne
  refine ⟨(decodeL (s.data.toList.drop pos)).1, (decodeL (s.data.toList.drop pos)).2, wr.iterAt it s (pos + (decodeL (s.data.toList.drop pos)).2), ?_, Fr.iterAt (Fr.refl (fun k => k = it) wr) (.inl rfl) s _, iterAt_heap wr it s pos _ hit, iterAt_size .., hok, ?_, ?_, dec_pos _⟩
  · intro ty
    rw [hd]
    exact run_next_any_at wr it s pos ty hit hlt
  · rw [pcsFrom_cons pos _ hne, List.drop_drop]
  · have := hok.le; simp at this; omega
theorem next_none (P : Program) (wr : World) (it : Nat) (s : ByteArray) (pos : Nat) (hit : wr.heap[it]? = some (.stringIter s pos)) (hlt : ¬ pos < s.size) :
    (∀ ty, (Instr.next (.pointer (some ⟨it, 0, none⟩)) true ty).run P wr = .ok (.tuple #[.bool false]) wr) ∧ pcsFrom pos (s.data.toList.drop pos) = [] :=
  ⟨fun ty => run_next_end_at wr it s pos ty hit hlt, by rw [List.drop_eq_nil_of_le (by simp; omega), pcsFrom_nil]⟩
theorem iterPos_at {w : World} {it : Nat} {s : ByteArray} {pos : Nat} (h : w.heap[it]? = some (.stringIter s pos)) : w.iterPos it = pos := by simp [World.iterPos, h]

/-- The runes of a text. -/
def runesL (l : List UInt8) : List Nat := (pcs l).map (·.r)

end Go.Proofs.Ytekjfmjeemjcjaa
