/-
  The reference's LowerText. Nothing is assumed.
-/
import Derived.Test.YtekjfmjeemjcjaaLowered
import Derived.Test.YtekjfmjeemjcjaaBytes
namespace Go.Proofs.Ytekjfmjeemjcjaa
open Go.RowKit Go.Lib Go.Shelf
attribute [local go_sem] Oper.semAt_some
set_option linter.unusedVariables false
set_option linter.unusedSimpArgs false

/-- The first k pieces' forms, one behind the other. -/
def cat (f : Nat → Pc → ByteArray) (l : List Pc) : Nat → ByteArray
  | 0 => ⟨#[]⟩
  | k + 1 => cat f l k ++ (match l[k]? with | some x => f k x | none => ⟨#[]⟩)
theorem cat_succ (f : Nat → Pc → ByteArray) (l : List Pc) (k : Nat) (x : Pc) (h : l[k]? = some x) : cat f l (k + 1) = cat f l k ++ f k x := by simp [cat, h]
def lowText (s : ByteArray) : ByteArray := cat (fun k x => lowOne s (pcs s.data.toList) k x) (pcs s.data.toList) (pcs s.data.toList).length

theorem pcs_w4 (l : List UInt8) (x : Pc) (h : x ∈ pcs l) : x.w ≤ 4 := by
  obtain ⟨_, _, hok⟩ := pcs_pos l x h
  by_cases hb : x.r = 65533 ∧ x.w = 1
  · omega
  · have := hok.width hb
    have := (encodeRune_len (x.r : Int)).2
    omega
theorem lowOne_size (s : ByteArray) (l : List Pc) (k : Nat) (x : Pc) (hw : x.w ≤ 4) : (lowOne s l k x).size ≤ 4 := by
  unfold lowOne
  split
  · simp; omega
  · split
    · decide
    · rw [encode_size]; exact (encodeRune_len _).2
theorem cat_size (f : Nat → Pc → ByteArray) (l : List Pc) (hf : ∀ k x, l[k]? = some x → (f k x).size ≤ 4) : ∀ k, (cat f l k).size ≤ 4 * k
  | 0 => Nat.le_refl 0
  | k + 1 => by
    unfold cat
    have := cat_size f l hf k
    rw [ByteArray.size_append]
    rcases h : l[k]? with _ | x
    · have h0 : (⟨#[]⟩ : ByteArray).size = 0 := rfl
      simp only [h0]; omega
    · have := hf k x h; simp only; omega
theorem binfo : (Try.prog.info? 5).map (fun i => (i.zero, i.size, i.bytes)) = some (some (.int .u8 0), 1, 1) := by kernel_rfl

set_option maxRecDepth 100000 in
set_option maxHeartbeats 4000000 in
theorem rlow_any (s : ByteArray) (w : World) (hs : s.size ≤ 2147483647) :
    Calls Try.prog 57 #[.string s] w fun e w' => e = .returned (.string (lowText s)) ∧ Below w.heap.size w w' := by
  have hll := pcs_len s
  have hval := pcs_valid s.data.toList
  have hend : ∀ x ∈ pcs s.data.toList, x.i + x.w ≤ s.size := fun x hx => by simpa using (pcs_pos _ x hx).2.1
  have hw4 := pcs_w4 s.data.toList
  unfold lowText
  generalize hl : pcs s.data.toList = l at *
  have hlen : l.length ≤ 2147483647 := by omega
  have hcs := cat_size (fun k x => lowOne s l k x) l (fun k x hx => lowOne_size s l k x (hw4 x (List.mem_of_getElem? hx)))
  have Hcs := Lib.hid hcs; have Hval := Lib.hid hval; have Hend := Lib.hid hend
  clear hcs hval hend hw4
  obtain ⟨ip, hpi, hpz, hps, hpb⟩ := info_parts binfo
  go_enter Try.func57, Try.ntmps57
  go_wp2_with fail
  refine (rpieces_any _ _ (by omega)).mono ?_
  rintro e w1 ⟨v, rfl, hrw, hb⟩
  rw [hl] at hrw
  have hlm : (l.map fun p => (p, p.broken)).length = l.length := by simp
  have hsh := hrw.shape
  rw [hlm] at hsh
  have hvl : Hid (v = .slice none 0 0 ∧ l = [] ∨ ∃ g cap, v = .slice (some ⟨g, 0, none⟩) l.length cap) := by
    rcases hsh with ⟨h1, h2⟩ | ⟨g, cap, h1, _⟩
    · exact .inl ⟨h1, by simpa using h2⟩
    · exact .inr ⟨g, cap, h1⟩
  have Hrw := Lib.hid hrw; have Hb := Lib.hid hb
  clear hsh hrw hb hl hlm hll
  obtain ⟨n, cap, a, rfl, hn⟩ : ∃ (n cap : Nat) (a : Option Addr), v = .slice a n cap ∧ n = l.length := by
    rcases hvl.out with ⟨h1, h2⟩ | ⟨g, cap, h1⟩
    · exact ⟨0, 0, none, h1, by rw [h2]; rfl⟩
    · exact ⟨l.length, cap, some ⟨g, 0, none⟩, h1, rfl⟩
  subst hn
  go_wp2
  go_loopw [5, 4] (fun i o w' => ∃ k : Nat, i = .int .i64 k ∧ k ≤ l.length ∧ Hid (Br w' w1.heap.size 5 o (cat (fun k x => lowOne s l k x) l k)) ∧ Hid (Below w1.heap.size w1 w')) (fun i _ _ => l.length - (intOf i).toNat)
  case atStart => exact ⟨0, rfl, Nat.zero_le _, Br.nil _ _ _, Below.refl _ _⟩
  case round =>
    obtain ⟨k, rfl, hk, hr, hbb⟩ := hrel
    by_cases hkm : k < l.length
    · obtain ⟨x, hx⟩ : ∃ x, l[k]? = some x := ⟨_, List.getElem?_eq_getElem hkm⟩
      have Hx := Lib.hid hx
      clear hx
      go_wp2_with fail
      refine (lowered_any s l _ k w.heap.size x _ hs hlen Hx.out Hval.out (Hend.out x (List.mem_of_getElem? Hx.out)) (Hrw.out.below hbb.out)).mono ?_
      rintro e w2 ⟨rfl, hb2⟩
      have hr2 := hr.out.below hb2
      have hb3 := hbb.out.trans (hb2.mono hbb.out.size)
      have hs4 := Hcs.out (k + 1)
      rw [cat_succ _ l k x Hx.out, ByteArray.size_append] at hs4
      have Hr2 := Lib.hid hr2; have Hb3 := Lib.hid hb3; have Hs4 := Lib.hid hs4
      clear hr2 hb2 hb3 hs4
      go_wp2_with ((refine wpList_append_bytes _ rfl _ _ _ _ rfl w1.heap.size 5 _ (by kernel_rfl) (by kernel_rfl) hpi hpz hps hpb _ _ rfl Hr2.out _ rfl (by have := Hs4.out; omega) Hb3.out.size ?_))
      rintro v' w3 hr3 hg3
      have HbN := Lib.hid ((Fr.of_below Hb3.out).grown hg3 (fun r hr => Or.inl (Hr2.out.lt r hr).1))
      have Hr3 := Lib.hid hr3
      clear hr3 hg3
      go_wp2
      go_roundw
      case rel => exact ⟨k + 1, rfl, by omega, by show Br _ _ _ _ _; rw [cat_succ _ l k x Hx.out]; exact Hr3.out, HbN.out.toBelow (Nat.le_refl _) (fun q hq h => by have h' : w1.heap.size ≤ q := h; omega)⟩
      case measure => show l.length - (k + 1 : Int).toNat < l.length - (k : Int).toNat; omega
    · have hkk : k = l.length := by omega
      subst hkk
      have hcv := hr.out.conv (P := Try.prog) 67 9 5 (by kernel_rfl) (by kernel_rfl) (by kernel_rfl)
      go_wp2
      go_ret
      exact ⟨rfl, Hb.out.trans (hbb.out.mono Hb.out.size)⟩

end Go.Proofs.Ytekjfmjeemjcjaa
