/-
  Texts laid together: Qt, PlB, Qa, Qb, Qc, Qd, LfR, Qr, LfU, Qe, LfW2, LfS, Qf, Qg, Qh, LfL, Qw, LfSt, LfFt, Qn, Qk, Qo, LfW0, LfW1. Nothing is assumed.
-/
import Derived.Test.YtlamcpgnmeileaaFb3
import Derived.Test.YtlamcpgnmeileaaFb4
namespace Go.Proofs.Ytlamcpgnmeileaa
open Go.RowKit Go.Lib
set_option linter.unusedVariables false
set_option linter.unusedSimpArgs false
/-- base, mark, joined. -/
def tab : List (Int × Int × Int) := [(65, 768, 192), (69, 768, 200), (73, 768, 204), (79, 768, 210), (85, 768, 217), (97, 768, 224), (101, 768, 232), (105, 768, 236), (111, 768, 242), (117, 768, 249), (1045, 768, 1024), (1048, 768, 1037), (1077, 768, 1104), (1080, 768, 1117), (65, 769, 193), (69, 769, 201), (73, 769, 205), (79, 769, 211), (85, 769, 218), (89, 769, 221), (97, 769, 225), (101, 769, 233), (105, 769, 237), (111, 769, 243), (117, 769, 250), (121, 769, 253), (67, 769, 262), (76, 769, 313), (78, 769, 323), (82, 769, 340), (83, 769, 346), (90, 769, 377), (99, 769, 263), (108, 769, 314), (110, 769, 324), (114, 769, 341), (115, 769, 347), (122, 769, 378), (913, 769, 902), (917, 769, 904), (919, 769, 905), (921, 769, 906), (927, 769, 908), (933, 769, 910), (937, 769, 911), (945, 769, 940), (949, 769, 941), (951, 769, 942), (953, 769, 943), (959, 769, 972), (965, 769, 973), (969, 769, 974), (1043, 769, 1027), (1050, 769, 1036), (1075, 769, 1107), (1082, 769, 1116), (970, 769, 912), (971, 769, 944), (65, 770, 194), (69, 770, 202), (73, 770, 206), (79, 770, 212), (85, 770, 219), (97, 770, 226), (101, 770, 234), (105, 770, 238), (111, 770, 244), (117, 770, 251), (67, 770, 264), (71, 770, 284), (72, 770, 292), (74, 770, 308), (83, 770, 348), (87, 770, 372), (89, 770, 374), (99, 770, 265), (103, 770, 285), (104, 770, 293), (106, 770, 309), (115, 770, 349), (119, 770, 373), (121, 770, 375), (65, 771, 195), (78, 771, 209), (79, 771, 213), (97, 771, 227), (110, 771, 241), (111, 771, 245), (73, 771, 296), (85, 771, 360), (105, 771, 297), (117, 771, 361), (65, 772, 256), (69, 772, 274), (73, 772, 298), (79, 772, 332), (85, 772, 362), (97, 772, 257), (101, 772, 275), (105, 772, 299), (111, 772, 333), (117, 772, 363), (65, 774, 258), (69, 774, 276), (71, 774, 286), (73, 774, 300), (79, 774, 334), (85, 774, 364), (97, 774, 259), (101, 774, 277), (103, 774, 287), (105, 774, 301), (111, 774, 335), (117, 774, 365), (1048, 774, 1049), (1059, 774, 1038), (1080, 774, 1081), (1091, 774, 1118), (67, 775, 266), (69, 775, 278), (71, 775, 288), (73, 775, 304), (90, 775, 379), (99, 775, 267), (101, 775, 279), (103, 775, 289), (122, 775, 380), (65, 776, 196), (69, 776, 203), (73, 776, 207), (79, 776, 214), (85, 776, 220), (97, 776, 228), (101, 776, 235), (105, 776, 239), (111, 776, 246), (117, 776, 252), (121, 776, 255), (89, 776, 376), (1045, 776, 1025), (1030, 776, 1031), (1077, 776, 1105), (1110, 776, 1111), (921, 776, 938), (933, 776, 939), (953, 776, 970), (965, 776, 971), (65, 778, 197), (85, 778, 366), (97, 778, 229), (117, 778, 367), (79, 779, 336), (85, 779, 368), (111, 779, 337), (117, 779, 369), (67, 780, 268), (68, 780, 270), (69, 780, 282), (76, 780, 317), (78, 780, 327), (82, 780, 344), (83, 780, 352), (84, 780, 356), (90, 780, 381), (99, 780, 269), (100, 780, 271), (101, 780, 283), (108, 780, 318), (110, 780, 328), (114, 780, 345), (115, 780, 353), (116, 780, 357), (122, 780, 382), (67, 807, 199), (71, 807, 290), (75, 807, 310), (76, 807, 315), (78, 807, 325), (82, 807, 342), (83, 807, 350), (84, 807, 354), (99, 807, 231), (103, 807, 291), (107, 807, 311), (108, 807, 316), (110, 807, 326), (114, 807, 343), (115, 807, 351), (116, 807, 355), (65, 808, 260), (69, 808, 280), (73, 808, 302), (85, 808, 370), (97, 808, 261), (101, 808, 281), (105, 808, 303), (117, 808, 371)]
def tabP : List (Gfold_pair × Int) := tab.map fun t => (⟨t.1, t.2.1⟩, t.2.2)
def tabS : List (Int × Gfold_pair) := tab.map fun t => (t.2.2, ⟨t.1, t.2.1⟩)
set_option maxRecDepth 100000 in
theorem pairs_v : fold_pairs_v = some tabP := by decide +kernel
set_option maxRecDepth 100000 in
theorem tables_v : fold_tables_v = some (tabP, tabS) := by decide +kernel
end Go.Proofs.Ytlamcpgnmeileaa
namespace Go.Proofs.Ytlamcpgnmeileaa
open Go.RowKit Go.Lib
set_option linter.unusedVariables false
set_option linter.unusedSimpArgs false
theorem loopS {T : Type} {bot : T} {step : T → T} {n : Nat} : loopG bot step (n + 1) = step (loopG bot step n) := rfl
/-- The i-th byte of a text from a place on, as a number. -/
def byI (l : List UInt8) (i : Nat) : Int := ((l.getD i 0).toNat : Int)
theorem byI_rng (l : List UInt8) (i : Nat) : 0 ≤ byI l i ∧ byI l i ≤ 255 := by
  have := (l.getD i 0).toNat_lt; unfold byI; omega
theorem getB_by {s : ByteArray} {a i : Nat} (h : a + i < s.size) : getB s ((a : Int) + (i : Int)) = some (byI (s.data.toList.drop a) i) := by
  rw [getB_of (n := a + i) (by omega) h]
  have e : (s.data.toList.drop a).getD i 0 = s[a + i] := by
    rw [List.getD_eq_getElem?_getD, List.getElem?_drop, List.getElem?_eq_getElem (by simpa using h)]
    simp; rfl
  unfold byI; rw [e]
def cand (l : List UInt8) : Nat → Int
  | 1 => byI l 0
  | 2 => (byI l 0 - 192) * 64 + byI l 1 - 128
  | 3 => ((byI l 0 - 224) * 64 + byI l 1 - 128) * 64 + byI l 2 - 128
  | 4 => (((byI l 0 - 240) * 64 + byI l 1 - 128) * 64 + byI l 2 - 128) * 64 + byI l 3 - 128
  | _ => 0
theorem cand_rng (l : List UInt8) (n : Nat) : -100000000 ≤ cand l n ∧ cand l n ≤ 100000000 := by
  have h0 := byI_rng l 0; have h1 := byI_rng l 1; have h2 := byI_rng l 2; have h3 := byI_rng l 3
  unfold cand; split <;> omega
def acc (s : ByteArray) (a n : Nat) : Prop := vr (cand (s.data.toList.drop a) n) ∧ wd (cand (s.data.toList.drop a) n) = n ∧ Utf8.encode (cand (s.data.toList.drop a) n) = cutB s a ((a : Int) + n)
theorem in_step {s : ByteArray} {a i n : Nat} {j : Int → Option (Int × Int)} {ag : Int → Int → Option (Int × Int)} {r : Int} (h : i < n) (hs : a + i < s.size) (hsz : s.size ≤ 9223372036854775000) (hr : -10000000 ≤ r ∧ r ≤ 10000000) (hi : i ≤ 4) :
    ref01_Form_s2 s a n j ag r (i : Int) = ag (r * 64 + byI (s.data.toList.drop a) i - 128) ((i + 1 : Nat) : Int) := by
  have hb := byI_rng (s.data.toList.drop a) i
  unfold ref01_Form_s2
  refine condTI (decide_eq_true (by omega)) (grdI ⟨by omega, by omega⟩ (grdI ⟨by omega, by omega⟩ (thenI (getB_by hs) (grdI ⟨by omega, by omega⟩ (grdI ⟨by omega, by omega⟩ (grdI ⟨by omega, by omega⟩ (grdI ⟨by omega, by omega⟩ ?_)))))))
  rfl
theorem in_end {s : ByteArray} {a n : Nat} {j : Int → Option (Int × Int)} {ag : Int → Int → Option (Int × Int)} {r : Int} : ref01_Form_s2 s a n j ag r (n : Int) = j r := by
  unfold ref01_Form_s2; exact condFI (decide_eq_false (by omega)) rfl
theorem test_v (s : ByteArray) (a n : Nat) (hn : 1 ≤ n ∧ n ≤ 4) (hs : a + n ≤ s.size) (hsz : s.size ≤ 9223372036854775000) (j2 : Option (Int × Int)) (r2 : Int) (hr : r2 = cand (s.data.toList.drop a) n) [Decidable (acc s a n)] :
    (andThen (ref01_None_v r2) fun (r6 : Bool) => bcond (!r6) (andThen (ref01_Width_v r2) fun (r7 : Int) => bcond ((r7 : Int) == (n : Int)) (andThen (ref01_Encode_v r2) fun (r8 : ByteArray) =>
      grd (I64 ((a : Int) + n)) <| grd (0 ≤ (a : Int) ∧ (a : Int) ≤ ((a : Int) + n) ∧ ((a : Int) + n) ≤ (s.size : Int)) <| bcond (decide (r8 = cutB s a ((a : Int) + n))) (some (r2, (n : Int))) j2) j2) j2) =
    if acc s a n then some (cand (s.data.toList.drop a) n, (n : Int)) else j2 := by
  subst hr
  have hc := cand_rng (s.data.toList.drop a) n
  refine thenI (none_v _) ?_
  by_cases h1 : vr (cand (s.data.toList.drop a) n)
  · refine condTI (by simp [h1]) (thenI (width_v _) ?_)
    by_cases h2 : wd (cand (s.data.toList.drop a) n) = n
    · refine condTI (by simp [h2]) (thenI (encode_v _ ⟨by omega, by omega⟩) (grdI ⟨by omega, by omega⟩ (grdI ⟨by omega, by omega, by omega⟩ ?_)))
      by_cases h3 : Utf8.encode (cand (s.data.toList.drop a) n) = cutB s a ((a : Int) + n)
      · rw [if_pos (show acc s a n from ⟨h1, h2, h3⟩)]; exact condTI (decide_eq_true h3) rfl
      · rw [if_neg (fun h : acc s a n => h3 h.2.2)]; exact condFI (decide_eq_false h3) rfl
    · rw [if_neg (fun h : acc s a n => h2 h.2.1)]; exact condFI (beq_eq_false_iff_ne.2 h2) rfl
  · rw [if_neg (fun h : acc s a n => h1 h.1)]; exact condFI (by simp [h1]) rfl
open Classical in
theorem form_step (s : ByteArray) (a n : Nat) (hn : 1 ≤ n ∧ n ≤ 4) (hs : a + n ≤ s.size) (hsz : s.size ≤ 9223372036854775000) (j1 : Option (Int × Int)) (ag : Int → Option (Int × Int)) :
    ref01_Form_s1 s a j1 ag (n : Int) = if acc s a n then some (cand (s.data.toList.drop a) n, (n : Int)) else ag ((n + 1 : Nat) : Int) := by
  obtain ⟨F, hF, _⟩ := fuel_eq 5 (by omega)
  have h0 := byI_rng (s.data.toList.drop a) 0; have h1 := byI_rng (s.data.toList.drop a) 1; have h2 := byI_rng (s.data.toList.drop a) 2; have h3 := byI_rng (s.data.toList.drop a) 3
  have hg : getB s (a : Int) = some (byI (s.data.toList.drop a) 0) := by have := getB_by (s := s) (a := a) (i := 0) (by omega); simpa using this
  unfold ref01_Form_s1
  refine condTI (decide_eq_true (by omega)) (grdI ⟨by omega, by omega⟩ (condTI (decide_eq_true (by omega)) (joinI (joinI (thenI hg (grdI ⟨by omega, by omega⟩ ?_))))))
  have fin : ∀ r2 : Int, r2 = cand (s.data.toList.drop a) n → ∀ z, z = ag ((n + 1 : Nat) : Int) → (andThen (ref01_None_v r2) fun (r6 : Bool) => bcond (!r6) (andThen (ref01_Width_v r2) fun (r7 : Int) => bcond ((r7 : Int) == (n : Int)) (andThen (ref01_Encode_v r2) fun (r8 : ByteArray) =>
      grd (I64 ((a : Int) + n)) <| grd (0 ≤ (a : Int) ∧ (a : Int) ≤ ((a : Int) + n) ∧ ((a : Int) + n) ≤ (s.size : Int)) <| bcond (decide (r8 = cutB s a ((a : Int) + n))) (some (r2, (n : Int))) z) z) z) =
      if acc s a n then some (cand (s.data.toList.drop a) n, (n : Int)) else ag ((n + 1 : Nat) : Int) := fun r2 hr z hz => by subst hz; exact test_v s a n hn hs hsz _ r2 hr
  have hz : (grd (I64 ((n : Int) + 1)) <| ag ((n : Int) + 1)) = ag ((n + 1 : Nat) : Int) := grdI ⟨by omega, by omega⟩ rfl
  rw [hz, hF]
  obtain rfl | rfl | rfl | rfl : n = 1 ∨ n = 2 ∨ n = 3 ∨ n = 4 := by omega
  · refine condFI rfl (joinI ?_)
    rw [loopS, show ((1 : Int)) = ((1 : Nat) : Int) from rfl, in_end]
    exact fin _ rfl _ rfl
  · have e : (256 - (shlI .i32 1 (8 - ((2 : Nat) : Int)))) = 192 := by decide
    rw [e]
    refine condTI rfl (grdI ⟨by omega, by omega⟩ (grdI (by omega) (grdI ⟨by omega, by omega⟩ (grdI ⟨by omega, by omega⟩ (joinI ?_)))))
    rw [loopS, show ((1 : Int)) = ((1 : Nat) : Int) from rfl, in_step (by omega) (by omega) hsz (by omega) (by omega), loopS, in_end]
    exact fin _ rfl _ rfl
  · have e : (256 - (shlI .i32 1 (8 - ((3 : Nat) : Int)))) = 224 := by decide
    rw [e]
    refine condTI rfl (grdI ⟨by omega, by omega⟩ (grdI (by omega) (grdI ⟨by omega, by omega⟩ (grdI ⟨by omega, by omega⟩ (joinI ?_)))))
    rw [loopS, show ((1 : Int)) = ((1 : Nat) : Int) from rfl, in_step (by omega) (by omega) hsz (by omega) (by omega), loopS, in_step (by omega) (by omega) hsz (by omega) (by omega), loopS, in_end]
    exact fin _ rfl _ rfl
  · have e : (256 - (shlI .i32 1 (8 - ((4 : Nat) : Int)))) = 240 := by decide
    rw [e]
    refine condTI rfl (grdI ⟨by omega, by omega⟩ (grdI (by omega) (grdI ⟨by omega, by omega⟩ (grdI ⟨by omega, by omega⟩ (joinI ?_)))))
    rw [loopS, show ((1 : Int)) = ((1 : Nat) : Int) from rfl, in_step (by omega) (by omega) hsz (by omega) (by omega), loopS, in_step (by omega) (by omega) hsz (by omega) (by omega), loopS, in_step (by omega) (by omega) hsz (by have q := byI_rng (s.data.toList.drop a) (1 + 1); omega) (by omega), loopS, in_end]
    exact fin _ rfl _ rfl
theorem cutB_list (s : ByteArray) (a n : Nat) : (cutB s a ((a : Int) + n)).data.toList = (s.data.toList.drop a).take n := by
  unfold cutB
  rw [extract_data]
  simp only [Int.toNat_natCast, show ((a : Int) + (n : Int)).toNat = a + n by omega]
  rw [show a + n - a = n by omega]
/-- What is accepted is what is decoded. -/
theorem acc_dec {s : ByteArray} {a n : Nat} (hn : 1 ≤ n ∧ n ≤ 4) (hs : a + n ≤ s.size) (h : acc s a n) : ((decodeL (s.data.toList.drop a)).1 : Int) = cand (s.data.toList.drop a) n ∧ (decodeL (s.data.toList.drop a)).2 = n ∧ ¬ ((decodeL (s.data.toList.drop a)).1 = 65533 ∧ (decodeL (s.data.toList.drop a)).2 = 1) := by
  obtain ⟨h1, h2, h3⟩ := h
  have h4 := congrArg (fun b : ByteArray => b.data.toList) h3
  simp only [encode_list, cutB_list] at h4
  have hv := h1
  unfold vr at h1
  generalize hc : cand (s.data.toList.drop a) n = c at *
  obtain ⟨m, rfl⟩ : ∃ m : Nat, c = m := ⟨c.toNat, by omega⟩
  have h5 := dec_enc m (by omega) ((s.data.toList.drop a).drop n)
  rw [h4, List.take_append_drop] at h5
  have h6 : ((s.data.toList.drop a).take n).length = n := by simp; omega
  rw [h6] at h5
  rw [h5]
  refine ⟨rfl, rfl, fun ⟨e1, e2⟩ => ?_⟩
  simp only at e1 e2
  subst e1; subst e2
  unfold wd at h2; revert h2; decide
theorem byI_of {l : List UInt8} {i : Nat} {x : Int} (h : l[i]? = some (x.toNat.toUInt8)) (hx : 0 ≤ x ∧ x ≤ 255) : byI l i = x := by
  unfold byI
  rw [List.getD_eq_getElem?_getD, h]
  simp; omega
/-- What is decoded is accepted. -/
theorem dec_acc {s : ByteArray} {a : Nat} (ha : a < s.size) (hb : ¬ ((decodeL (s.data.toList.drop a)).1 = 65533 ∧ (decodeL (s.data.toList.drop a)).2 = 1)) :
    acc s a (decodeL (s.data.toList.drop a)).2 ∧ 1 ≤ (decodeL (s.data.toList.drop a)).2 ∧ (decodeL (s.data.toList.drop a)).2 ≤ 4 ∧ a + (decodeL (s.data.toList.drop a)).2 ≤ s.size := by
  have hne : s.data.toList.drop a ≠ [] := by
    intro h; have := congrArg List.length h; simp at this; omega
  have hok := decOk _ hne
  generalize hl : s.data.toList.drop a = l at *
  generalize hr : (decodeL l).1 = r at *
  generalize hw : (decodeL l).2 = w at *
  have hlen : l.length = s.size - a := by rw [← hl]; simp
  have hv := hok.valid
  have hvr : vr (r : Int) := by unfold vr; omega
  have h1 := hok.width hb
  have h2 := hok.bytes hb
  have h3 := wd_len _ hvr
  have hle := hok.le
  have hcand : cand l w = r := by
    have hget : ∀ (i : Nat) (x : Int), (encodeRuneZ (r : Int))[i]? = some x → l[i]? = some (x.toNat.toUInt8) := by
      intro i x hx
      have hi : i < w := by
        rw [← h1]; unfold encodeRune; rw [List.length_map]; exact (List.getElem?_eq_some_iff.1 hx).1
      have : (encodeRune (r : Int))[i]? = some (x.toNat.toUInt8) := by unfold encodeRune; rw [List.getElem?_map, hx]; rfl
      rw [h2, List.getElem?_take, if_pos hi] at this
      exact this
    unfold wd at h3
    rw [if_pos hvr] at h3
    split at h3
    · rw [encodeRuneZ_one (by omega) (by omega)] at hget
      have hw1 : w = 1 := by omega
      rw [hw1]
      exact byI_of (hget 0 _ rfl) (by omega)
    · split at h3
      · rw [encodeRuneZ_two (by omega) (by omega)] at hget
        have hw1 : w = 2 := by omega
        rw [hw1]
        simp only [cand]
        rw [byI_of (hget 0 _ rfl) (by omega), byI_of (hget 1 _ rfl) (by omega)]; omega
      · split at h3
        · rw [encodeRuneZ_three (by omega)] at hget
          have hw1 : w = 3 := by omega
          rw [hw1]
          simp only [cand]
          rw [byI_of (hget 0 _ rfl) (by omega), byI_of (hget 1 _ rfl) (by omega), byI_of (hget 2 _ rfl) (by omega)]; omega
        · rw [encodeRuneZ_four (by omega) (by omega)] at hget
          have hw1 : w = 4 := by omega
          rw [hw1]
          simp only [cand]
          rw [byI_of (hget 0 _ rfl) (by omega), byI_of (hget 1 _ rfl) (by omega), byI_of (hget 2 _ rfl) (by omega), byI_of (hget 3 _ rfl) (by omega)]; omega
  have h4 := encodeRune_len (r : Int)
  refine ⟨⟨by rw [hl, hcand]; exact hvr, by rw [hl, hcand]; omega, ?_⟩, hok.pos, by omega, by omega⟩
  rw [hl, hcand]
  apply ByteArray.ext
  apply Array.toList_inj.1
  rw [encode_list, cutB_list, hl, h2]
/-- A piece, as the reference has it. -/
def pcG (p : Pc) : Gapi_Piece := ⟨p.i, p.w, p.r, p.broken⟩
def formO (l : List UInt8) : Int × Int := if (decodeL l).1 = 65533 ∧ (decodeL l).2 = 1 then (0, 0) else ((decodeL l).1, (decodeL l).2)
theorem form_v (s : ByteArray) (a : Nat) (ha : a < s.size) (hsz : s.size ≤ 9223372036854775000) : ref01_Form_v s a = some (formO (s.data.toList.drop a)) := by
  classical
  unfold ref01_Form_v
  refine joinI ?_
  obtain ⟨F, hF, _⟩ := fuel_eq 6 (by omega)
  rw [hF]
  have key : ∀ k m : Nat, m + k = 5 → 1 ≤ m → (∀ n, 1 ≤ n → n < m → a + n ≤ s.size → ¬ acc s a n) → ∀ G, loopG (fun _ => none) (ref01_Form_s1 s a (some (0, 0))) (G + k + 1) (m : Int) = some (formO (s.data.toList.drop a)) := by
    intro k
    induction k with
    | zero =>
      intro m hm h1 hno G
      have hm5 : m = 5 := by omega
      rw [hm5, loopS]
      unfold ref01_Form_s1
      refine condFI rfl ?_
      unfold formO
      rw [if_pos]
      by_cases hb : (decodeL (s.data.toList.drop a)).1 = 65533 ∧ (decodeL (s.data.toList.drop a)).2 = 1
      · exact hb
      · obtain ⟨h2, h3, h4, h5⟩ := dec_acc ha hb
        exact absurd h2 (hno _ h3 (by omega) h5)
    | succ k ih =>
      intro m hm h1 hno G
      rw [loopS]
      by_cases hs : a + m ≤ s.size
      · rw [form_step s a m ⟨h1, by omega⟩ hs hsz]
        by_cases hac : acc s a m
        · rw [if_pos hac]
          obtain ⟨e1, e2, e3⟩ := acc_dec ⟨h1, by omega⟩ hs hac
          unfold formO; rw [if_neg e3, e1, e2]
        · rw [if_neg hac]
          exact ih (m + 1) (by omega) (by omega) (fun n hn1 hn2 hn3 => by
            by_cases h : n = m
            · subst h; exact hac
            · exact hno n hn1 (by omega) hn3) G
      · unfold ref01_Form_s1
        refine condTI (decide_eq_true (by omega)) (grdI ⟨by omega, by omega⟩ (condFI (decide_eq_false (by omega)) ?_))
        unfold formO
        rw [if_pos]
        by_cases hb : (decodeL (s.data.toList.drop a)).1 = 65533 ∧ (decodeL (s.data.toList.drop a)).2 = 1
        · exact hb
        · obtain ⟨h2, h3, h4, h5⟩ := dec_acc ha hb
          exact absurd h2 (hno _ h3 (by omega) h5)
  exact key 4 1 rfl (by omega) (fun n h1 h2 => by omega) (F + 1)
theorem at_v (s : ByteArray) (a : Nat) (ha : a < s.size) (hsz : s.size ≤ 9223372036854775000) : ref01_At_v s a = some (pcG ⟨a, (decodeL (s.data.toList.drop a)).2, (decodeL (s.data.toList.drop a)).1⟩) := by
  unfold ref01_At_v
  refine thenI (form_v s a ha hsz) ?_
  unfold formO pcG Pc.broken
  have hp := dec_pos (s.data.toList.drop a)
  by_cases hb : (decodeL (s.data.toList.drop a)).1 = 65533 ∧ (decodeL (s.data.toList.drop a)).2 = 1
  · rw [if_pos hb]
    refine condFI rfl ?_
    rw [hb.1, hb.2]; rfl
  · rw [if_neg hb]
    refine condTI (decide_eq_true (by simp only; omega)) ?_
    have : ((decodeL (s.data.toList.drop a)).1 == 65533 && (decodeL (s.data.toList.drop a)).2 == 1) = false := by
      rw [Bool.and_eq_false_iff]
      by_cases h : (decodeL (s.data.toList.drop a)).1 = 65533
      · right; exact beq_eq_false_iff_ne.2 (fun h2 => hb ⟨h, h2⟩)
      · left; exact beq_eq_false_iff_ne.2 h
    simp only [this]
theorem pieces_v (s : ByteArray) (hsz : s.size ≤ 2147483648) : ref01_Pieces_v s = some ((pcs s.data.toList).map pcG) := by
  unfold ref01_Pieces_v
  refine joinI ?_
  have key : ∀ n a : Nat, a ≤ s.size → s.size - a < n → ∀ l : List Gapi_Piece, l.length ≤ a → loopG (fun _ _ => none) (ref01_Pieces_s1 s some) n l (a : Int) = some (l ++ (pcsFrom a (s.data.toList.drop a)).map pcG) := by
    intro n
    induction n with
    | zero => intro a _ h; omega
    | succ n ih =>
      intro a ha hn l hl
      rw [loopS]
      generalize hg : loopG (fun _ _ => none) (ref01_Pieces_s1 s some) n = ag
      unfold ref01_Pieces_s1
      by_cases h : a < s.size
      · have hne : s.data.toList.drop a ≠ [] := by
          intro h; have := congrArg List.length h; simp at this; omega
        have hok := decOk _ hne
        have h1 := hok.pos; have h2 := hok.le
        have hlen : (s.data.toList.drop a).length = s.size - a := by simp
        refine condTI (decide_eq_true (by omega)) (thenI (at_v s a h (by omega)) (grdI (by omega) (grdI ⟨by simp only [pcG]; omega, by simp only [pcG]; omega⟩ ?_)))
        have := ih (a + (decodeL (s.data.toList.drop a)).2) (by omega) (by omega) (l ++ [pcG ⟨a, (decodeL (s.data.toList.drop a)).2, (decodeL (s.data.toList.drop a)).1⟩]) (by simp; omega)
        rw [pcsFrom_cons _ _ hne, List.drop_drop]
        rw [show ((a : Int) + (pcG ⟨a, (decodeL (s.data.toList.drop a)).2, (decodeL (s.data.toList.drop a)).1⟩).Width) = ((a + (decodeL (s.data.toList.drop a)).2 : Nat) : Int) by simp [pcG]]
        rw [← hg, this]; simp
      · refine condFI (decide_eq_false (by omega)) ?_
        have : s.data.toList.drop a = [] := List.drop_eq_nil_of_le (by simp; omega)
        rw [this, pcsFrom_nil]; simp
  exact key fuel 0 (by omega) (by unfold fuel; omega) [] (by simp)
end Go.Proofs.Ytlamcpgnmeileaa
namespace Go.Proofs.Ytlamcpgnmeileaa
open Go.RowKit Go.Lib
set_option linter.unusedVariables false
set_option linter.unusedSimpArgs false
def mrk (r : Int) : Bool := decide (768 ≤ r ∧ r ≤ 879)
theorem letter_rng (r : Int) (h : letter r = true) : 0 ≤ r ∧ r < 1120 ∧ ¬ (768 ≤ r ∧ r ≤ 879) := by
  unfold letter at h
  rw [Bool.or_eq_true, great_iff, small_iff] at h
  unfold greatP smallP at h
  refine ⟨?_, ?_, ?_⟩ <;> omega
theorem kind1 (r : Int) : ((kind r : Int) == 1) = letter r := by
  cases h : letter r with
  | true =>
    have := letter_rng r h
    have e : kind r = 1 := by unfold kind kindP; rw [if_neg (by omega), if_pos h]
    rw [e]; rfl
  | false =>
    rw [beq_eq_false_iff_ne]
    unfold kind kindP
    rw [h]
    simp only [Bool.false_eq_true, if_false]
    (repeat' split) <;> omega
theorem kind2 (r : Int) : ((kind r : Int) == 2) = mrk r := by
  unfold mrk
  by_cases h : 768 ≤ r ∧ r ≤ 879
  · rw [decide_eq_true h, beq_iff_eq]
    have hl : letter r = false := by
      cases h' : letter r with
      | false => rfl
      | true => exact absurd h (letter_rng r h').2.2
    unfold kind kindP
    rw [if_neg (by omega), hl, if_neg (by simp), if_pos h]
  · rw [decide_eq_false h, beq_eq_false_iff_ne]
    unfold kind kindP
    (repeat' split) <;> omega
theorem letter_v (u : Gfold_unit) (h : I32 u.base) : fold_unit_letter_v u = some (letter u.base) := by
  unfold fold_unit_letter_v
  by_cases h0 : 0 ≤ u.base
  · exact condTI (decide_eq_true h0) (grdI h (congrArg some (kind1 _)))
  · refine condFI (decide_eq_false h0) (congrArg some ?_)
    cases h' : letter u.base with
    | false => rfl
    | true => exact absurd (letter_rng _ h').1 h0
theorem iletter_v (x : Gref04_Item) (h : I32 x.Rune) : ref04_Item_letter_v x = some (letter x.Rune) := by
  unfold ref04_Item_letter_v ref04_Letter_v
  by_cases h0 : 0 ≤ x.Rune
  · refine condTI (decide_eq_true h0) (thenI (a := letter x.Rune) (grdI h ?_) rfl)
    cases hg : great x.Rune with
    | true => exact condTI rfl (by unfold letter; rw [hg]; rfl)
    | false => exact condFI rfl (grdI h (by unfold letter; rw [hg]; rfl))
  · refine condFI (decide_eq_false h0) (congrArg some ?_)
    cases h' : letter x.Rune with
    | false => rfl
    | true => exact absurd (letter_rng _ h').1 h0
theorem imark_v (x : Gref04_Item) : ref04_Item_mark_v x = some (mrk x.Rune) := by
  unfold ref04_Item_mark_v ref04_Mark_v mrk
  by_cases h0 : 0 ≤ x.Rune
  · refine condTI (decide_eq_true h0) (thenI (a := mrk x.Rune) ?_ rfl)
    unfold mrk
    by_cases h1 : 768 ≤ x.Rune
    · exact condTI (decide_eq_true h1) (congrArg some (by simp [h1]))
    · exact condFI (decide_eq_false h1) (congrArg some (by simp [h1]))
  · exact condFI (decide_eq_false h0) (congrArg some (by symm; rw [decide_eq_false]; omega))
def lows : List (Int × Int) := [(790, 793), (796, 800), (803, 819), (825, 828), (837, 841), (845, 846), (851, 854), (857, 858)]
def lowR (r : Int) : Bool := lows.any fun p => decide (p.1 ≤ r) && decide (r ≤ p.2)
theorem rlow_v (r : Int) : ref04_Low_v r = some (lowR r) := by
  unfold ref04_Low_v
  refine joinI ?_
  have := seek (xs := ([(⟨790, 793⟩ : T_2_int32), (⟨796, 800⟩ : T_2_int32), (⟨803, 819⟩ : T_2_int32), (⟨825, 828⟩ : T_2_int32), (⟨837, 841⟩ : T_2_int32), (⟨845, 846⟩ : T_2_int32), (⟨851, 854⟩ : T_2_int32), (⟨857, 858⟩ : T_2_int32)] : List T_2_int32)) (F := ref04_Low_s1 r (some false)) (bot := fun _ => none)
    (g := fun p => if decide (p.e0 ≤ r) && decide (r ≤ p.e1) then some (some true) else none) (J := some false) (fun ag k x hx => by
      have hk : k < 8 := lp_lt' hx
      unfold ref04_Low_s1
      refine condTI (decide_eq_true (by omega)) (joinI (thenI (lp_get hx) ?_))
      have tl : (grd (I64 ((k : Int) + 1)) <| ag ((k : Int) + 1)) = ag ((k : Int) + 1) := grdI (lp_i64 (by omega)) rfl
      by_cases h1 : x.e0 ≤ r
      · refine condTI (decide_eq_true h1) ?_
        by_cases h2 : r ≤ x.e1
        · exact condTI (decide_eq_true h2) (by simp [h1, h2])
        · exact condFI (decide_eq_false h2) (by simp [h1, h2, tl])
      · exact condFI (decide_eq_false h1) (by simp [h1, tl])) (fun ag => condFI (by decide) rfl) (n := fuel) (big_fuel (by decide))
  rw [this]
  simp only [List.findSome?_cons, List.findSome?_nil, lowR, lows, List.any_cons, List.any_nil, Bool.or_false]
  (repeat' split) <;> simp_all
theorem low_v (r : Int) : fold_Low_v r = some (lowR r) := by
  have h : r < 790 ∨ (790 ≤ r ∧ r ≤ 793) ∨ (793 < r ∧ r < 796) ∨ (796 ≤ r ∧ r ≤ 800) ∨ (800 < r ∧ r < 803) ∨ (803 ≤ r ∧ r ≤ 819) ∨ (819 < r ∧ r < 825) ∨ (825 ≤ r ∧ r ≤ 828) ∨ (828 < r ∧ r < 837) ∨ (837 ≤ r ∧ r ≤ 841) ∨ (841 < r ∧ r < 845) ∨ (845 ≤ r ∧ r ≤ 846) ∨ (846 < r ∧ r < 851) ∨ (851 ≤ r ∧ r ≤ 854) ∨ (854 < r ∧ r < 857) ∨ (857 ≤ r ∧ r ≤ 858) ∨ 858 < r := by omega
  unfold fold_Low_v
  simp only [joinK, bcond, lowR, lows, List.any_cons, List.any_nil, Bool.or_false]
  rcases h with h | h | h | h | h | h | h | h | h | h | h | h | h | h | h | h | h <;> simp (disch := omega) only [decide_eq_true, decide_eq_false, cond_true, cond_false, Bool.and_true, Bool.and_false, Bool.true_and, Bool.false_and, Bool.true_or, Bool.false_or, Bool.or_true, Bool.or_false]
end Go.Proofs.Ytlamcpgnmeileaa
namespace Go.Proofs.Ytlamcpgnmeileaa
open Go.RowKit Go.Lib
set_option linter.unusedVariables false
set_option linter.unusedSimpArgs false
def refL : List (Int × Int × Int) := [(65, 768, 192), (69, 768, 200), (73, 768, 204), (79, 768, 210), (85, 768, 217), (97, 768, 224), (101, 768, 232), (105, 768, 236), (111, 768, 242), (117, 768, 249), (1045, 768, 1024), (1048, 768, 1037), (1077, 768, 1104), (1080, 768, 1117), (65, 769, 193), (69, 769, 201), (73, 769, 205), (79, 769, 211), (85, 769, 218), (89, 769, 221), (97, 769, 225), (101, 769, 233), (105, 769, 237), (111, 769, 243), (117, 769, 250), (121, 769, 253), (67, 769, 262), (76, 769, 313), (78, 769, 323), (82, 769, 340), (83, 769, 346), (90, 769, 377), (99, 769, 263), (108, 769, 314), (110, 769, 324), (114, 769, 341), (115, 769, 347), (122, 769, 378), (913, 769, 902), (917, 769, 904), (919, 769, 905), (921, 769, 906), (927, 769, 908), (933, 769, 910), (937, 769, 911), (945, 769, 940), (949, 769, 941), (951, 769, 942), (953, 769, 943), (959, 769, 972), (965, 769, 973), (969, 769, 974), (1043, 769, 1027), (1050, 769, 1036), (1075, 769, 1107), (1082, 769, 1116), (970, 769, 912), (971, 769, 944), (65, 770, 194), (69, 770, 202), (73, 770, 206), (79, 770, 212), (85, 770, 219), (97, 770, 226), (101, 770, 234), (105, 770, 238), (111, 770, 244), (117, 770, 251), (67, 770, 264), (71, 770, 284), (72, 770, 292), (74, 770, 308), (83, 770, 348), (87, 770, 372), (89, 770, 374), (99, 770, 265), (103, 770, 285), (104, 770, 293), (106, 770, 309), (115, 770, 349), (119, 770, 373), (121, 770, 375), (65, 771, 195), (78, 771, 209), (79, 771, 213), (97, 771, 227), (110, 771, 241), (111, 771, 245), (73, 771, 296), (85, 771, 360), (105, 771, 297), (117, 771, 361), (65, 772, 256), (69, 772, 274), (73, 772, 298), (79, 772, 332), (85, 772, 362), (97, 772, 257), (101, 772, 275), (105, 772, 299), (111, 772, 333), (117, 772, 363), (65, 774, 258), (69, 774, 276), (71, 774, 286), (73, 774, 300), (79, 774, 334), (85, 774, 364), (97, 774, 259), (101, 774, 277), (103, 774, 287), (105, 774, 301), (111, 774, 335), (117, 774, 365), (1048, 774, 1049), (1059, 774, 1038), (1080, 774, 1081), (1091, 774, 1118), (67, 775, 266), (69, 775, 278), (71, 775, 288), (73, 775, 304), (90, 775, 379), (99, 775, 267), (101, 775, 279), (103, 775, 289), (122, 775, 380), (65, 776, 196), (69, 776, 203), (73, 776, 207), (79, 776, 214), (85, 776, 220), (97, 776, 228), (101, 776, 235), (105, 776, 239), (111, 776, 246), (117, 776, 252), (121, 776, 255), (89, 776, 376), (1045, 776, 1025), (1030, 776, 1031), (1077, 776, 1105), (1110, 776, 1111), (921, 776, 938), (933, 776, 939), (953, 776, 970), (965, 776, 971), (65, 778, 197), (85, 778, 366), (97, 778, 229), (117, 778, 367), (79, 779, 336), (85, 779, 368), (111, 779, 337), (117, 779, 369), (67, 780, 268), (68, 780, 270), (69, 780, 282), (76, 780, 317), (78, 780, 327), (82, 780, 344), (83, 780, 352), (84, 780, 356), (90, 780, 381), (99, 780, 269), (100, 780, 271), (101, 780, 283), (108, 780, 318), (110, 780, 328), (114, 780, 345), (115, 780, 353), (116, 780, 357), (122, 780, 382), (67, 807, 199), (71, 807, 290), (75, 807, 310), (76, 807, 315), (78, 807, 325), (82, 807, 342), (83, 807, 350), (84, 807, 354), (99, 807, 231), (103, 807, 291), (107, 807, 311), (108, 807, 316), (110, 807, 326), (114, 807, 343), (115, 807, 351), (116, 807, 355), (65, 808, 260), (69, 808, 280), (73, 808, 302), (85, 808, 370), (97, 808, 261), (101, 808, 281), (105, 808, 303), (117, 808, 371)]

section
variable {κ ν : Type} [DecidableEq κ]
theorem getM_mem {k : κ} {v : ν} : ∀ {L : List (κ × ν)}, getM k L = some v → (k, v) ∈ L
  | [], h => by cases h
  | p :: L, h => by
    unfold getM at h
    split at h
    · rename_i e; cases h; rw [e]; exact List.mem_cons_self ..
    · exact List.mem_cons_of_mem _ (getM_mem h)
theorem getM_agree {A B : List (κ × ν)} (h1 : ∀ p ∈ A, getM p.1 B = getM p.1 A) (h2 : ∀ p ∈ B, getM p.1 A = getM p.1 B) (k : κ) : getM k A = getM k B := by
  cases h : getM k A with
  | some v => have := h1 _ (getM_mem h); rw [← h]; exact this.symm
  | none =>
    cases h' : getM k B with
    | none => rfl
    | some v => have := h2 _ (getM_mem h'); simp only at this; rw [h, h'] at this; cases this
end
def refP : List (Gfold_pair × Int) := refL.map fun t => (⟨t.1, t.2.1⟩, t.2.2)
def refS : List (Int × Gfold_pair) := refL.map fun t => (t.2.2, ⟨t.1, t.2.1⟩)
set_option maxRecDepth 100000 in
theorem agreeS1 : ∀ p ∈ refS, getM p.1 tabS = getM p.1 refS := by decide +kernel
set_option maxRecDepth 100000 in
theorem agreeS2 : ∀ p ∈ tabS, getM p.1 refS = getM p.1 tabS := by decide +kernel
set_option maxRecDepth 100000 in
theorem agreeP1 : ∀ p ∈ refP, getM p.1 tabP = getM p.1 refP := by decide +kernel
set_option maxRecDepth 100000 in
theorem agreeP2 : ∀ p ∈ tabP, getM p.1 refP = getM p.1 tabP := by decide +kernel
theorem getS (r : Int) : getM r refS = getM r tabS := getM_agree agreeS1 agreeS2 r
theorem getP (p : Gfold_pair) : getM p refP = getM p tabP := getM_agree agreeP1 agreeP2 p
/-- The table's rows. -/
def rowsT : List T_3_string := (ref04_Table_v).getD []
theorem table_v : ref04_Table_v = some rowsT := rfl
def trip (q : T_3_string) : List (Int × Int × Int) := ((runesOf q.e1).zip (runesOf q.e2)).map fun p => (p.1, (runesOf q.e0).headD 0, p.2)
set_option maxRecDepth 100000 in
theorem rows_eq : rowsT.flatMap trip = refL := by decide +kernel
def rowOk (q : T_3_string) : Bool := decide ((runesOf q.e1).length = (runesOf q.e2).length) && decide ((runesOf q.e0).length = 1) && decide (q.e0.size ≤ 1000 ∧ q.e1.size ≤ 1000 ∧ q.e2.size ≤ 1000)
set_option maxRecDepth 100000 in
theorem rows_ok : rowsT.all rowOk = true := by decide +kernel
theorem row_ok {q : T_3_string} (h : q ∈ rowsT) : (runesOf q.e1).length = (runesOf q.e2).length ∧ getO (runesOf q.e0) 0 = some ((runesOf q.e0).headD 0) ∧ q.e0.size ≤ 1000 ∧ q.e1.size ≤ 1000 ∧ q.e2.size ≤ 1000 := by
  have := List.all_eq_true.1 rows_ok q h
  unfold rowOk at this
  simp only [Bool.and_eq_true, decide_eq_true_eq] at this
  obtain ⟨⟨h1, h2⟩, h3⟩ := this
  refine ⟨h1, ?_, h3⟩
  cases e : runesOf q.e0 with
  | nil => rw [e] at h2; cases h2
  | cons x l => rfl
theorem findSome_flat {α β γ : Type} (f : α → List β) (g : β → Option γ) : ∀ xs : List α, (xs.findSome? fun x => (f x).findSome? g) = (xs.flatMap f).findSome? g
  | [] => rfl
  | x :: xs => by
    rw [List.flatMap_cons, List.findSome?_append, List.findSome?_cons, findSome_flat f g xs]
    cases (f x).findSome? g <;> rfl
theorem find_getS {γ : Type} (r : Int) (F : Int → Int → γ) : ∀ L : List (Int × Int × Int), (L.findSome? fun t => if (t.2.2 == r) then some (F t.1 t.2.1) else none) = (getM r (L.map fun t => ((t.2.2, ⟨t.1, t.2.1⟩) : Int × Gfold_pair))).map fun p => F p.e0 p.e1
  | [] => rfl
  | t :: L => by
    rw [List.findSome?_cons, List.map_cons]
    unfold getM
    by_cases h : r = t.2.2
    · subst h; simp
    · have : (t.2.2 == r) = false := by rw [beq_eq_false_iff_ne]; exact fun e => h e.symm
      rw [this, if_neg h]; exact find_getS r F L
theorem find_getP (b m : Int) : ∀ L : List (Int × Int × Int), (L.findSome? fun t => if (t.1 == b) && (t.2.1 == m) then some t.2.2 else none) = getM (⟨b, m⟩ : Gfold_pair) (L.map fun t => ((⟨t.1, t.2.1⟩, t.2.2) : Gfold_pair × Int))
  | [] => rfl
  | t :: L => by
    rw [List.findSome?_cons, List.map_cons]
    unfold getM
    by_cases h : (⟨b, m⟩ : Gfold_pair) = ⟨t.1, t.2.1⟩
    · cases h; simp
    · have : ((t.1 == b) && (t.2.1 == m)) = false := by
        cases e : ((t.1 == b) && (t.2.1 == m)) with
        | false => rfl
        | true => simp at e; exact absurd (by rw [e.1, e.2]) h
      rw [this, if_neg h]; exact find_getP b m L
/-- One step of the parting of a rune. -/
def spStep (rcall : Int → Option (List Int)) (r : Int) : Option (List Int) :=
  match getM r tabS with
  | none => some [r]
  | some p => andThen (rcall p.e0) fun l => grd (l.length + 1 ≤ 2147483648) <| some (l ++ [p.e1])
theorem zip_get {α β : Type} {a : List α} {b : List β} {k : Nat} {p : α × β} (h : (a.zip b)[k]? = some p) : a[k]? = some p.1 ∧ b[k]? = some p.2 := by
  rw [List.getElem?_zip_eq_some] at h; exact h
theorem rsplit_step (rcall : Int → Option (List Int)) (r : Int) : ref04_Split_b rcall r = spStep rcall r := by
  unfold ref04_Split_b
  refine joinI (thenI table_v ?_)
  have hlen : rowsT.length = 14 := by decide
  have inner : ∀ (q : T_3_string) (j2 : Option (List Int)), q ∈ rowsT → loopG (fun _ => none) (ref04_Split_s2 rcall r j2 q) fuel 0 = (((trip q)).findSome? fun t => if (t.2.2 == r) then some (andThen (rcall t.1) fun l => grd (l.length + 1 ≤ 2147483648) <| some (l ++ [t.2.1])) else none).getD j2 := by
    intro q j2 hq
    obtain ⟨h1, h2, h3, h4, h5⟩ := row_ok hq
    have hz : (trip q).length = (runesOf q.e2).length := by unfold trip; simp [h1]
    have hl := runesOf_len q.e2
    refine seek (xs := trip q) (fun ag k x hx => ?_) (fun ag => ?_) (big_fuel (by omega))
    · have hx2 : ∃ p, ((runesOf q.e1).zip (runesOf q.e2))[k]? = some p ∧ x = (p.1, (runesOf q.e0).headD 0, p.2) := by
        unfold trip at hx
        rw [List.getElem?_map] at hx
        obtain ⟨p, hp, e⟩ := Option.map_eq_some_iff.1 hx
        exact ⟨p, hp, e.symm⟩
      obtain ⟨p, hp, rfl⟩ := hx2
      obtain ⟨e1, e2⟩ := zip_get hp
      have hk := lp_lt' e2
      unfold ref04_Split_s2
      refine condTI (lp_lt e2) (thenI (lp_get e2) ?_)
      cases h : (p.2 == r) with
      | true => exact condTI rfl (thenI (lp_get e1) (by
          rw [if_pos rfl, Option.getD_some]
          cases rcall p.1 with
          | none => rfl
          | some l => exact (thenI rfl (grdI (by omega) (thenI h2 rfl))).trans (and_some rfl).symm))
      | false => exact condFI rfl (grdI (lp_i64 (by omega)) rfl)
    · rw [hz]; unfold ref04_Split_s2; exact condFI lp_ge rfl
  have outer := seek (xs := rowsT) (F := ref04_Split_s1 rcall r (some [r]) rowsT) (bot := fun _ => none) (g := fun q => (trip q).findSome? fun t => if (t.2.2 == r) then some (andThen (rcall t.1) fun l => grd (l.length + 1 ≤ 2147483648) <| some (l ++ [t.2.1])) else none) (J := some [r]) (fun ag k q hq => by
    have hm := List.mem_of_getElem? hq
    have hk := lp_lt' hq
    obtain ⟨h1, h2, h3, h4, h5⟩ := row_ok hm
    unfold ref04_Split_s1
    refine condTI (lp_lt hq) (joinI (thenI (lp_get hq) (grdI (by omega) (grdI (by omega) ?_))))
    rw [inner q _ hm]
    exact congrArg _ (grdI (lp_i64 (by omega)) rfl)) (fun ag => by unfold ref04_Split_s1; exact condFI lp_ge rfl) (n := fuel) (big_fuel (by omega))
  rw [outer, findSome_flat, rows_eq, find_getS r (fun a m => andThen (rcall a) fun l => grd (l.length + 1 ≤ 2147483648) <| some (l ++ [m]))]
  show ((getM r refS).map _).getD _ = _
  rw [getS]
  unfold spStep
  cases getM r tabS <;> rfl
theorem psplit_step (rcall : (List (Int × Gfold_pair)) → Int → Option (List Int)) (r : Int) : fold_parted_b rcall tabS r = spStep (rcall tabS) r := by
  unfold fold_parted_b spStep
  cases getM r tabS with
  | none => exact condTI rfl rfl
  | some p => exact condFI rfl rfl
def spB : Option (List Int) → Prop := fun _ => True
def spF : Nat → Int → Option (List Int)
  | 0, _ => none
  | n + 1, r => spStep (spF n) r
theorem rsplit_F : ∀ (n : Nat) (r : Int), loopG (fun _ => none) ref04_Split_b n r = spF n r
  | 0, r => rfl
  | n + 1, r => by
    rw [loopI, rsplit_step]
    show spStep _ r = spStep _ r
    congr 1; funext x; exact rsplit_F n x
theorem psplit_F : ∀ (n : Nat) (r : Int), loopG (fun _ _ => none) fold_parted_b n tabS r = spF n r
  | 0, r => rfl
  | n + 1, r => by
    rw [loopI, psplit_step]
    show spStep _ r = spStep _ r
    congr 1; funext x; exact psplit_F n x
/-- The parts of a rune. -/
def parts (r : Int) : List Int :=
  match getM r tabS with
  | none => [r]
  | some p => (match getM p.e0 tabS with
    | none => [p.e0]
    | some q => [q.e0, q.e1]) ++ [p.e1]
def deep : Bool := tabS.all fun p => match getM p.2.e0 tabS with | none => true | some q => decide (getM q.e0 tabS = none)
set_option maxRecDepth 100000 in
theorem deep_ok : deep = true := by decide +kernel
theorem spF_parts (n : Nat) (r : Int) : spF (n + 3) r = some (parts r) := by
  show spStep (spF (n + 2)) r = _
  unfold spStep parts
  cases h : getM r tabS with
  | none => rfl
  | some p =>
    have hd := List.all_eq_true.1 deep_ok _ (getM_mem h)
    simp only at hd
    refine thenI (a := match getM p.e0 tabS with | none => [p.e0] | some q => [q.e0, q.e1]) ?_ (grdI (by cases getM p.e0 tabS <;> simp) rfl)
    show spStep (spF (n + 1)) p.e0 = _
    unfold spStep
    cases h2 : getM p.e0 tabS with
    | none => rfl
    | some q =>
      rw [h2] at hd
      simp only [decide_eq_true_eq] at hd
      refine thenI (a := [q.e0]) ?_ (grdI (by simp) rfl)
      show spStep (spF n) q.e0 = _
      unfold spStep
      rw [hd]
theorem rsplit_v (r : Int) : ref04_Split_v r = some (parts r) := by
  unfold ref04_Split_v
  rw [rsplit_F]
  obtain ⟨n, hn, _⟩ := fuel_eq 3 (by omega)
  rw [hn]; exact spF_parts n r
theorem parted_v (r : Int) : fold_parted_v tabS r = some (parts r) := by
  unfold fold_parted_v
  rw [psplit_F]
  obtain ⟨n, hn, _⟩ := fuel_eq 3 (by omega)
  rw [hn]; exact spF_parts n r
end Go.Proofs.Ytlamcpgnmeileaa
namespace Go.Proofs.Ytlamcpgnmeileaa
open Go.RowKit Go.Lib
set_option linter.unusedVariables false
set_option linter.unusedSimpArgs false
def joined (b m : Int) : Option Int := getM (⟨b, m⟩ : Gfold_pair) tabP
/-! ### Items -/
def itG (s : ByteArray) (p : Pc) : Gref04_Item := ⟨if p.broken then -1 else (p.r : Int), s.extract p.i (p.i + p.w), p.i⟩
def itemsP (s : ByteArray) : List Gref04_Item := (pcs s.data.toList).map (itG s)
theorem pcs_fit {s : ByteArray} {p : Pc} (hp : p ∈ pcs s.data.toList) : p.i + p.w ≤ s.size := by
  obtain ⟨g1, g2, hok⟩ := pcs_pos s.data.toList p hp
  have hlen : s.data.toList.length = s.size := by rw [Array.length_toList]; rfl
  omega
theorem pcs_count_le (s : ByteArray) : (pcs s.data.toList).length ≤ s.size := by
  have := runesOf_len s; unfold runesOf at this; simpa using this
theorem items_v (s : ByteArray) (hs : s.size ≤ 1073741824) : ref04_Items_v s = some (itemsP s) := by
  unfold ref04_Items_v
  refine joinI (thenI (pieces_v s (by omega)) ?_)
  have hc := pcs_count_le s
  refine (loop1 (xs := (pcs s.data.toList).map pcG) (f := fun l (x : Gapi_Piece) => l ++ [(⟨if x.Broken then -1 else x.Rune, cutB s x.At (x.At + x.Width), x.At⟩ : Gref04_Item)]) (J := some) (fun k l => l.length = k) ?_ ?_ ?_ (big_fuel (by simp; omega)) rfl).trans ?_
  · intro ag k x l hx hl
    have hk := lp_lt' hx
    have hk2 : k < (pcs s.data.toList).length := by simpa using hk
    have hx' := hx
    rw [List.getElem?_map] at hx'
    obtain ⟨p, hp, rfl⟩ := Option.map_eq_some_iff.1 hx'
    have hf := pcs_fit (List.mem_of_getElem? hp)
    unfold ref04_Items_s1
    refine condTI (lp_lt hx) (joinI (thenI (lp_get hx) (thenI (a := cutB s p.i ((p.i : Int) + p.w)) (grdI ⟨by simp only [pcG]; omega, by simp only [pcG]; omega⟩ (grdI ⟨by simp only [pcG]; omega, by simp only [pcG]; omega, by simp only [pcG]; omega⟩ rfl)) ?_)))
    cases hb : (pcG p).Broken with
    | true => exact condTI rfl (grdI (by omega) (grdI (lp_i64 (by omega)) (by simp [hb, pcG])))
    | false => exact condFI rfl (grdI (by omega) (grdI (lp_i64 (by omega)) (by simp [hb, pcG])))
  · intro k x l hx hl; simp [hl]
  · intro ag l hl; unfold ref04_Items_s1; exact condFI lp_ge rfl
  · have : ∀ (ps : List Pc) (l : List Gref04_Item), (ps.map pcG).foldl (fun l (x : Gapi_Piece) => l ++ [(⟨if x.Broken then -1 else x.Rune, cutB s x.At (x.At + x.Width), x.At⟩ : Gref04_Item)]) l = l ++ ps.map (itG s) := by
      intro ps
      induction ps with
      | nil => intro l; simp
      | cons p ps ih => intro l; rw [List.map_cons, List.foldl_cons, ih]; simp [itG, pcG, cutB]; exact ⟨rfl, by congr 1⟩
    rw [this]; rfl
/-- The texts of items, one behind the other. -/
def catI (l : List Gref04_Item) : ByteArray := l.foldl (fun s x => s ++ x.Text) (⟨#[]⟩ : ByteArray)
def sizeI (l : List Gref04_Item) : Nat := (l.map fun x => x.Text.size).sum
theorem text_v (l : List Gref04_Item) (hl : l.length ≤ 1099511627776) (hs : sizeI l ≤ 1099511627776) : ref04_Text_v l = some (catI l) := by
  unfold ref04_Text_v
  refine joinI ((loop1 (xs := l) (f := fun s (x : Gref04_Item) => s ++ x.Text) (J := some) (fun k s => s.size = sizeI (l.take k)) ?_ ?_ ?_ (big_fuel (by omega)) rfl).trans rfl)
  · intro ag k x s hx hi
    have hk := lp_lt' hx
    have h1 : sizeI (l.take k) + x.Text.size ≤ sizeI l := by
      have h2 : l = l.take k ++ x :: l.drop (k + 1) := by
        have := List.getElem?_eq_some_iff.1 hx
        obtain ⟨hlt, he⟩ := this
        rw [← he, ← List.drop_eq_getElem_cons hlt, List.take_append_drop]
      have : sizeI l = sizeI (l.take k) + (x.Text.size + sizeI (l.drop (k + 1))) := by
        conv => lhs; rw [h2]
        simp [sizeI]
      omega
    unfold ref04_Text_s1
    exact condTI (lp_lt hx) (thenI (lp_get hx) (grdI (by omega) (grdI (lp_i64 (by omega)) rfl)))
  · intro k x s hx hi
    have h2 : l.take (k + 1) = l.take k ++ [x] := by
      rw [List.take_add_one, hx]; rfl
    rw [h2, ByteArray.size_append, hi]; simp [sizeI]
  · intro ag s _; unfold ref04_Text_s1; exact condFI lp_ge rfl
theorem of_v (r : Int) (x : Gref04_Item) (hr : I32 r) : ref04_of_v r x = some ⟨r, Utf8.encode r, x.At⟩ := thenI (encode_v r hr) rfl
/-- How many marks stand ahead. -/
theorem marks_v (l : List Gref04_Item) (hl : l.length ≤ 1099511627776) : ref04_marks_v l = some (((l.takeWhile fun x => mrk x.Rune).length : Nat) : Int) := by
  unfold ref04_marks_v
  refine joinI ?_
  have key : ∀ (n k : Nat), k ≤ l.length → l.length - k < n → loopG (fun _ => none) (ref04_marks_s1 l some) n (k : Int) = some ((k + ((l.drop k).takeWhile fun x => mrk x.Rune).length : Nat) : Int) := by
    intro n
    induction n with
    | zero => intro k _ h; omega
    | succ n ih =>
      intro k hk hn
      rw [loopI]
      generalize loopG (fun _ => none) (ref04_marks_s1 l some) n = ag at ih ⊢
      unfold ref04_marks_s1
      by_cases h : k < l.length
      · have hx : l[k]? = some l[k] := List.getElem?_eq_getElem h
        refine condTI (lp_lt hx) (thenI (lp_get hx) (thenI (imark_v _) ?_))
        rw [List.drop_eq_getElem_cons h, List.takeWhile_cons]
        cases hm : mrk l[k].Rune with
        | true =>
          refine condTI rfl (grdI (lp_i64 (by omega)) ?_)
          have := ih (k + 1) (by omega) (by omega)
          push_cast at this ⊢
          rw [this]; simp; omega
        | false => exact condFI rfl (by simp)
      · have : k = l.length := by omega
        subst this
        exact condFI lp_ge (by rw [List.drop_length]; simp)
  have := key fuel 0 (Nat.zero_le _) (by have := big_fuel (n := l.length) (by omega); omega)
  simpa using this
end Go.Proofs.Ytlamcpgnmeileaa
namespace Go.Proofs.Ytlamcpgnmeileaa
open Go.RowKit Go.Lib
set_option linter.unusedVariables false
set_option linter.unusedSimpArgs false
abbrev Itm := Gref04_Item
def isL (x : Itm) : Bool := letter x.Rune
def isM (x : Itm) : Bool := mrk x.Rune
def isLo (x : Itm) : Bool := lowR x.Rune
theorem mrk_not_letter {r : Int} (h : mrk r = true) : letter r = false := by
  cases e : letter r with
  | false => rfl
  | true => have := letter_rng r e; unfold mrk at h; simp at h; omega
/-! ### The parts of letters -/
def shape (r : Int) : Bool := match parts r with
  | [] => false
  | b :: ms => letter b && decide (getM b tabS = none) && ms.all mrk && decide ((b :: ms).length ≤ 3)
set_option maxRecDepth 100000 in
theorem shapes : (tabS.all fun p => shape p.1) = true := by decide +kernel
set_option maxRecDepth 100000 in
theorem tab_rng : (tabS.all fun p => decide (0 ≤ p.1 ∧ p.1 ≤ 2000 ∧ 0 ≤ p.2.e0 ∧ p.2.e0 ≤ 2000 ∧ 0 ≤ p.2.e1 ∧ p.2.e1 ≤ 2000) && letter p.1) = true := by decide +kernel
theorem parts_shape {r : Int} (h : letter r = true) : ∃ b ms, parts r = b :: ms ∧ letter b = true ∧ getM b tabS = none ∧ (∀ m ∈ ms, mrk m = true) ∧ ms.length ≤ 2 := by
  cases e : getM r tabS with
  | none => exact ⟨r, [], by unfold parts; rw [e], h, e, by simp, by simp⟩
  | some p =>
    have h1 := List.all_eq_true.1 shapes _ (getM_mem e)
    unfold shape at h1
    simp only at h1
    cases hp : parts r with
    | nil => rw [hp] at h1; cases h1
    | cons b ms =>
      rw [hp] at h1
      simp only [Bool.and_eq_true, decide_eq_true_eq, List.all_eq_true, List.length_cons] at h1
      exact ⟨b, ms, rfl, h1.1.1.1, h1.1.1.2, h1.1.2, by omega⟩
theorem parts_len (r : Int) : (parts r).length ≤ 3 ∧ 1 ≤ (parts r).length := by
  unfold parts
  (repeat' split) <;> simp
theorem tabS_rng {k : Int} {p : Gfold_pair} (h : getM k tabS = some p) : (0 ≤ p.e0 ∧ p.e0 ≤ 2000) ∧ (0 ≤ p.e1 ∧ p.e1 ≤ 2000) ∧ letter k = true := by
  have := List.all_eq_true.1 tab_rng _ (getM_mem h)
  simp only [Bool.and_eq_true, decide_eq_true_eq] at this
  obtain ⟨⟨h1, h2, h3, h4, h5, h6⟩, h7⟩ := this
  exact ⟨⟨h3, h4⟩, ⟨h5, h6⟩, h7⟩
theorem parts_i32 {r : Int} (h : I32 r) : ∀ y ∈ parts r, I32 y := by
  intro y hy
  unfold parts at hy
  split at hy
  · simp at hy; subst hy; exact h
  · rename_i p hp
    obtain ⟨h1, h2, _⟩ := tabS_rng hp
    split at hy
    · simp at hy; rcases hy with rfl | rfl <;> exact ⟨by omega, by omega⟩
    · rename_i q hq
      obtain ⟨h3, h4, _⟩ := tabS_rng hq
      simp at hy; rcases hy with rfl | rfl | rfl <;> exact ⟨by omega, by omega⟩
/-! ### Clusters -/
def clF : Option (Itm × List Itm) → List Itm → List (Itm × List Itm)
  | none, [] => []
  | some c, [] => [c]
  | none, x :: xs => clF (some (x, [])) xs
  | some c, x :: xs => if isL c.1 && isM x then clF (some (c.1, c.2 ++ [x])) xs else c :: clF (some (x, [])) xs
def cl (xs : List Itm) : List (Itm × List Itm) := clF none xs
theorem clF_letter (x : Itm) (h : isL x = true) : ∀ (xs ms : List Itm), clF (some (x, ms)) xs = (x, ms ++ xs.takeWhile isM) :: cl (xs.dropWhile isM)
  | [], ms => by simp [clF, cl]
  | y :: xs, ms => by
    unfold clF
    cases hm : isM y with
    | true => rw [h, List.takeWhile_cons, List.dropWhile_cons, hm]; simp only [Bool.and_self, if_true]; rw [clF_letter x h xs]; simp
    | false => rw [List.takeWhile_cons, List.dropWhile_cons, hm]; simp [cl, clF]
theorem clF_other (x : Itm) (h : isL x = false) (xs : List Itm) : clF (some (x, [])) xs = (x, []) :: cl xs := by
  cases xs with
  | nil => rfl
  | cons y xs => unfold clF; rw [h]; simp [cl, clF]
theorem cl_nil : cl [] = [] := rfl
theorem cl_letter {x : Itm} (h : isL x = true) (xs : List Itm) : cl (x :: xs) = (x, xs.takeWhile isM) :: cl (xs.dropWhile isM) := by
  show clF (some (x, [])) xs = _
  rw [clF_letter x h]; rfl
theorem cl_other {x : Itm} (h : isL x = false) (xs : List Itm) : cl (x :: xs) = (x, []) :: cl xs := clF_other x h xs
def loI (ms : List Itm) : List Itm := ms.filter isLo
def hiI (ms : List Itm) : List Itm := ms.filter fun x => !isLo x
def ordC (c : Itm × List Itm) : List Itm := c.1 :: (loI c.2 ++ hiI c.2)
def ordI (xs : List Itm) : List Itm := (cl xs).flatMap ordC
theorem lohi_len (ms : List Itm) : (loI ms ++ hiI ms).length = ms.length := by
  unfold loI hiI
  induction ms with
  | nil => rfl
  | cons x ms ih =>
    rw [List.filter_cons, List.filter_cons]
    rw [List.length_append] at ih ⊢
    cases isLo x <;> simp <;> omega
theorem lohi_marks {ms : List Itm} (h : ∀ m ∈ ms, isM m = true) : ∀ m ∈ loI ms ++ hiI ms, isM m = true := by
  intro m hm
  unfold loI hiI at hm
  rw [List.mem_append, List.mem_filter, List.mem_filter] at hm
  rcases hm with hm | hm <;> exact h m hm.1
theorem take_marks (xs : List Itm) : ∀ m ∈ xs.takeWhile isM, isM m = true := List.all_eq_true.1 List.all_takeWhile
/-- What a letter is taken apart into. -/
def apI (x : Itm) : List Itm := if isL x then (parts x.Rune).map fun r => ⟨r, Utf8.encode r, x.At⟩ else [x]
def apL (l : List Itm) : List Itm := l.flatMap apI
theorem apI_len (x : Itm) : (apI x).length ≤ 3 := by
  unfold apI
  split
  · simp; exact (parts_len _).1
  · simp
def okIs (l : List Itm) : Prop := ∀ x ∈ l, I32 x.Rune
theorem okIs_ap {l : List Itm} (h : okIs l) : okIs (apL l) := by
  intro y hy
  unfold apL at hy
  obtain ⟨x, hx, hy⟩ := List.mem_flatMap.1 hy
  unfold apI at hy
  split at hy
  · obtain ⟨r, hr, rfl⟩ := List.mem_map.1 hy
    exact parts_i32 (h x hx) r hr
  · simp at hy; subst hy; exact h _ hx
theorem apL_len (l : List Itm) : (apL l).length ≤ 3 * l.length := by
  unfold apL
  induction l with
  | nil => simp
  | cons x l ih => rw [List.flatMap_cons, List.length_append, List.length_cons]; have := apI_len x; omega
theorem fold_app {α β : Type} (g : α → List β) : ∀ (xs : List α) (a : List β), xs.foldl (fun a x => a ++ g x) a = a ++ xs.flatMap g
  | [], a => by simp
  | x :: xs, a => by rw [List.foldl_cons, fold_app g xs]; simp
/-- The first loop. -/
theorem apart1 (l : List Itm) (hok : okIs l) (hl : l.length ≤ 268435456) (J : List Itm → Option (List Itm)) : loopG (fun _ _ => none) (ref04_apart_s1 l J) fuel [] 0 = J (apL l) := by
  refine (loop1 (xs := l) (f := fun a x => a ++ apI x) (J := J) (fun k a => a.length ≤ 3 * k) ?_ ?_ ?_ (big_fuel (by omega)) (by simp)).trans ?_
  · intro ag k x a hx hi
    have hk := lp_lt' hx
    have hx32 := hok x (List.mem_of_getElem? hx)
    unfold ref04_apart_s1
    refine condTI (lp_lt hx) (joinI (thenI (lp_get hx) (thenI (iletter_v x hx32) ?_)))
    cases hL : letter x.Rune with
    | false =>
      have : apI x = [x] := by unfold apI isL; rw [hL]; rfl
      rw [this]
      exact condTI rfl (grdI (by omega) (grdI (lp_i64 (by omega)) rfl))
    | true =>
      have : apI x = (parts x.Rune).map fun r => ⟨r, Utf8.encode r, x.At⟩ := by unfold apI isL; rw [hL]; rfl
      rw [this]
      refine condFI rfl (thenI (rsplit_v _) ?_)
      have hp := parts_len x.Rune
      refine (loop1 (xs := parts x.Rune) (f := fun a (r : Int) => a ++ [(⟨r, Utf8.encode r, x.At⟩ : Itm)]) (J := fun out5 => grd (I64 ((k : Int) + 1)) <| ag out5 ((k : Int) + 1)) (fun j b => b.length ≤ 3 * k + j) ?_ ?_ ?_ (big_fuel (by omega)) (by omega)).trans ?_
      · intro ag2 j r b hr hb
        have hj := lp_lt' hr
        unfold ref04_apart_s2
        exact condTI (lp_lt hr) (thenI (lp_get hr) (thenI (of_v r x (parts_i32 hx32 r (List.mem_of_getElem? hr))) (grdI (by omega) (grdI (lp_i64 (by omega)) rfl))))
      · intro j r b _ hb; simp; omega
      · intro ag2 b _; unfold ref04_apart_s2; exact condFI lp_ge rfl
      · rw [fold_app (fun r => [(⟨r, Utf8.encode r, x.At⟩ : Itm)])]
        refine grdI (lp_i64 (by omega)) ?_
        rw [List.map_eq_flatMap]
  · intro k x a _ hi; simp only [List.length_append]; have := apI_len x; omega
  · intro ag a _; unfold ref04_apart_s1; exact condFI lp_ge rfl
  · rw [fold_app apI]; rfl
/-! ### The second loop -/
theorem get_at {α : Type} (A : List α) (x : α) (B : List α) : (A ++ x :: B)[A.length]? = some x := by simp
theorem cut_rest {α : Type} (A : List α) (x : α) (B : List α) (i : Int) (hi : i = (A.length : Int)) : cutL (A ++ x :: B) (i + 1) (((A ++ x :: B).length : Nat) : Int) = B := by
  subst hi
  unfold cutL
  rw [show ((A.length : Int) + 1).toNat = (A ++ [x]).length by simp]
  rw [show A ++ x :: B = (A ++ [x]) ++ B by simp, List.drop_left, List.take_of_length_le (by simp; omega)]
theorem cut_row {α : Type} (A : List α) (x : α) (M B : List α) (i r : Int) (hi : i = (A.length : Int)) (hr : r = (M.length : Int)) : cutL (A ++ x :: (M ++ B)) (i + 1) ((i + 1) + r) = M := by
  subst hi; subst hr
  unfold cutL
  rw [show ((A.length : Int) + 1).toNat = (A ++ [x]).length by simp]
  rw [show A ++ x :: (M ++ B) = (A ++ [x]) ++ (M ++ B) by simp, List.drop_left]
  rw [show (((A.length : Int) + 1 + (M.length : Int)).toNat - (A ++ [x]).length) = M.length by simp; omega, List.take_left]
theorem over_row {α : Type} (A : List α) (x : α) (M B Y : List α) (j : Nat) (hj : j = A.length + 1) (hy : Y.length = M.length) : overL (A ++ x :: (M ++ B)) j Y = A ++ x :: (Y ++ B) := by
  subst hj
  unfold overL
  rw [show A ++ x :: (M ++ B) = ((A ++ [x]) ++ M) ++ B by simp, hy]
  rw [show ((A ++ [x]) ++ M ++ B).take (A.length + 1) = A ++ [x] by
    rw [List.append_assoc, show A.length + 1 = (A ++ [x]).length by simp, List.take_left]]
  rw [show ((A ++ [x]) ++ M ++ B).drop (A.length + 1 + M.length) = B by
    rw [show A.length + 1 + M.length = ((A ++ [x]) ++ M).length by simp; omega, List.drop_left]]
  simp
theorem lohi_fold (M : List Itm) : ∀ a : List Itm × List Itm, M.foldl (fun a x => if isLo x then (a.1 ++ [x], a.2) else (a.1, a.2 ++ [x])) a = (a.1 ++ loI M, a.2 ++ hiI M) := by
  induction M with
  | nil => intro a; simp [loI, hiI]
  | cons x M ih =>
    intro a
    rw [List.foldl_cons, ih]
    unfold loI hiI
    cases h : isLo x <;> simp [h]
/-- One letter's marks are laid in order. -/
theorem apart_step (out1 A M B : List Itm) (x : Itm) (J : List Itm → Option (List Itm)) (ag : List Itm → Int → Option (List Itm)) (i : Int) (hi : i = (A.length : Int)) (hlen : out1.length = (A ++ x :: (M ++ B)).length) (hx : isL x = true) (hx32 : I32 x.Rune)
    (hM : (M ++ B).takeWhile isM = M) (hb : out1.length ≤ 1073741824) : ref04_apart_s3 out1 J ag (A ++ x :: (M ++ B)) i = ag (A ++ x :: ((loI M ++ hiI M) ++ B)) (i + 1) := by
  have hl : (A ++ x :: (M ++ B)).length = A.length + 1 + M.length + B.length := by simp; omega
  unfold ref04_apart_s3
  refine condTI (decide_eq_true (by omega)) (joinI (thenI (getO_of hi (get_at A x _)) (thenI (iletter_v x hx32) ?_)))
  have hx' : letter x.Rune = true := hx
  rw [hx']
  refine condFI rfl (joinI (grdI ⟨by omega, by omega⟩ (grdI ⟨by omega, by omega⟩ (grdI ⟨by omega, by omega⟩ (grdI ⟨by omega, by omega, by omega⟩ ?_)))))
  rw [cut_rest A x (M ++ B) i hi]
  refine thenI (marks_v (M ++ B) (by simp; omega)) ?_
  have hM' : ((M ++ B).takeWhile fun x => mrk x.Rune) = M := hM
  rw [hM']
  refine grdI ⟨by omega, by omega⟩ (grdI ⟨by omega, by omega, by omega⟩ ?_)
  have hrow := cut_row A x M B i (M.length : Int) hi rfl
  refine (loop2 (xs := M) (F := ref04_apart_s4 (A ++ x :: (M ++ B)) i _ (M.length : Int)) (f := fun (a : List Itm × List Itm) x => if isLo x then (a.1 ++ [x], a.2) else (a.1, a.2 ++ [x]))
    (J := fun lo hi' => grd (lo.length + hi'.length ≤ 2147483648) <| grd (I64 (i + 1)) <| ag (overL (A ++ x :: (M ++ B)) (0 + (i + 1 : Int).toNat) ((lo ++ hi').take M.length)) (i + 1)) (fun k a => a.1.length + a.2.length = k) ?_ ?_ ?_ (big_fuel (by omega)) (a := ([], [])) rfl).trans ?_
  · intro ag2 k y a hy hi2
    have hk := lp_lt' hy
    unfold ref04_apart_s4
    rw [hrow]
    refine condTI (lp_lt hy) (joinI (thenI (lp_get hy) (thenI (rlow_v _) ?_)))
    have : lowR y.Rune = isLo y := rfl
    rw [this]
    cases isLo y with
    | true => exact condTI rfl (grdI (by omega) (grdI (lp_i64 (by omega)) rfl))
    | false => exact condFI rfl (grdI (by omega) (grdI (lp_i64 (by omega)) rfl))
  · intro k y a _ hi2; split <;> simp <;> omega
  · intro ag2 a ha
    unfold ref04_apart_s4
    rw [hrow]
    exact condFI lp_ge rfl
  · rw [lohi_fold]
    simp only [List.nil_append]
    have h1 := lohi_len M
    rw [List.length_append] at h1
    refine grdI (by omega) (grdI ⟨by omega, by omega⟩ ?_)
    rw [List.take_of_length_le (by rw [List.length_append]; omega), over_row A x M B _ _ (by omega) (lohi_len M)]
theorem apart_skip (out1 A B : List Itm) (x : Itm) (J : List Itm → Option (List Itm)) (ag : List Itm → Int → Option (List Itm)) (i : Int) (hi : i = (A.length : Int)) (hlen : out1.length = (A ++ x :: B).length) (hx : isL x = false) (hx32 : I32 x.Rune) (hb : out1.length ≤ 1073741824) :
    ref04_apart_s3 out1 J ag (A ++ x :: B) i = ag (A ++ x :: B) (i + 1) := by
  have hl : (A ++ x :: B).length = A.length + 1 + B.length := by simp; omega
  unfold ref04_apart_s3
  refine condTI (decide_eq_true (by omega)) (joinI (thenI (getO_of hi (get_at A x _)) (thenI (iletter_v x hx32) ?_)))
  have hx' : letter x.Rune = false := hx
  rw [hx']
  exact condTI rfl (grdI ⟨by omega, by omega⟩ rfl)
theorem ordI_nil : ordI [] = [] := rfl
theorem ordI_letter {x : Itm} (h : isL x = true) (xs : List Itm) : ordI (x :: xs) = x :: ((loI (xs.takeWhile isM) ++ hiI (xs.takeWhile isM)) ++ ordI (xs.dropWhile isM)) := by
  unfold ordI; rw [cl_letter h]; simp [ordC]
theorem ordI_other {x : Itm} (h : isL x = false) (xs : List Itm) : ordI (x :: xs) = x :: ordI xs := by
  unfold ordI; rw [cl_other h]; simp [ordC, loI, hiI]
theorem apart2 (out1 : List Itm) (J : List Itm → Option (List Itm)) (hb : out1.length ≤ 1073741824) : ∀ (m n : Nat) (A B : List Itm), B.length ≤ m → B.length < n → out1.length = (A ++ B).length → okIs B →
    loopG (fun _ _ => none) (ref04_apart_s3 out1 J) n (A ++ B) (A.length : Int) = J (A ++ ordI B) := by
  -- marks that are no letters' are passed over
  have skip : ∀ (M A B : List Itm) (n : Nat), (∀ y ∈ M, isL y = false) → okIs M → out1.length = (A ++ (M ++ B)).length → loopG (fun _ _ => none) (ref04_apart_s3 out1 J) (n + M.length) (A ++ (M ++ B)) (A.length : Int) = loopG (fun _ _ => none) (ref04_apart_s3 out1 J) n (A ++ (M ++ B)) ((A ++ M).length : Int) := by
    intro M
    induction M with
    | nil => intro A B n _ _ _; simp
    | cons y M ih =>
      intro A B n hM hok hlen
      rw [show n + (y :: M).length = (n + M.length) + 1 by simp; omega, loopI, List.cons_append, apart_skip out1 A (M ++ B) y J _ _ rfl hlen (hM y (List.mem_cons_self ..)) (hok y (List.mem_cons_self ..)) hb]
      have := ih (A ++ [y]) B n (fun z hz => hM z (List.mem_cons_of_mem _ hz)) (fun z hz => hok z (List.mem_cons_of_mem _ hz)) (by rw [hlen]; simp)
      have e1 : A ++ [y] ++ (M ++ B) = A ++ y :: (M ++ B) := by simp
      have e2 : A ++ [y] ++ M = A ++ y :: M := by simp
      rw [e1, e2] at this
      rw [← this]
      congr 1; simp
  intro m
  induction m with
  | zero =>
    intro n A B hB hn hlen hok
    have : B = [] := List.eq_nil_of_length_eq_zero (by omega)
    subst this
    obtain ⟨n, rfl⟩ : ∃ k, n = k + 1 := ⟨n - 1, by omega⟩
    rw [loopI]
    unfold ref04_apart_s3
    rw [List.append_nil] at hlen ⊢
    exact condFI (decide_eq_false (by omega)) (by rw [ordI_nil, List.append_nil])
  | succ m ih =>
    intro n A B hB hn hlen hok
    obtain ⟨n, rfl⟩ : ∃ k, n = k + 1 := ⟨n - 1, by omega⟩
    cases B with
    | nil =>
      rw [loopI]
      unfold ref04_apart_s3
      rw [List.append_nil] at hlen ⊢
      exact condFI (decide_eq_false (by omega)) (by rw [ordI_nil, List.append_nil])
    | cons x xs =>
      rw [loopI]
      simp only [List.length_cons] at hB
      cases hL : isL x with
      | false =>
        rw [apart_skip out1 A xs x J _ _ rfl hlen hL (hok x (List.mem_cons_self ..)) hb, ordI_other hL]
        simp only [List.length_cons] at hn
        have := ih n (A ++ [x]) xs (by omega) (by omega) (by rw [hlen]; simp) (fun z hz => hok z (List.mem_cons_of_mem _ hz))
        have e1 : A ++ [x] ++ xs = A ++ x :: xs := by simp
        rw [e1] at this
        rw [show ((A.length : Int) + 1) = ((A ++ [x]).length : Int) by simp, this]
        simp
      | true =>
        obtain ⟨M, R, hM, hR, hMR⟩ : ∃ M R, M = xs.takeWhile isM ∧ R = xs.dropWhile isM ∧ xs = M ++ R := ⟨_, _, rfl, rfl, (List.takeWhile_append_dropWhile).symm⟩
        have hstep := apart_step out1 A M R x J (loopG (fun _ _ => none) (ref04_apart_s3 out1 J) n) (A.length : Int) rfl (by rw [← hMR]; exact hlen) hL (hok x (List.mem_cons_self ..)) (by rw [← hMR, ← hM]) hb
        rw [← hMR] at hstep
        have hmarks : ∀ y ∈ loI M ++ hiI M, isM y = true := lohi_marks (by rw [hM]; exact take_marks xs)
        have hokM : okIs (loI M ++ hiI M) := fun y hy => hok y (by
          unfold loI hiI at hy
          rw [List.mem_append, List.mem_filter, List.mem_filter] at hy
          rw [hMR]
          rcases hy with hy | hy <;> exact List.mem_cons_of_mem _ (List.mem_append_left _ hy.1))
        have hl2 := lohi_len M
        have hxs : xs.length = M.length + R.length := by rw [hMR]; simp
        have hAl : (A ++ x :: xs).length = A.length + 1 + xs.length := by simp; omega
        rw [hstep, ordI_letter hL, ← hM, ← hR]
        simp only [List.length_cons] at hn
        obtain ⟨k, hk⟩ : ∃ k, n = k + (loI M ++ hiI M).length := ⟨n - M.length, by omega⟩
        have hsk := skip (loI M ++ hiI M) (A ++ [x]) R k (fun y hy => mrk_not_letter (hmarks y hy)) hokM (by rw [hlen, hAl, hxs]; simp only [List.length_append, List.length_cons, List.length_nil] at hl2 ⊢; omega)
        have e1 : A ++ [x] ++ (loI M ++ hiI M ++ R) = A ++ x :: (loI M ++ hiI M ++ R) := by simp
        rw [e1] at hsk
        rw [hk, show ((A.length : Int) + 1) = ((A ++ [x]).length : Int) by simp, hsk]
        have := ih k (A ++ [x] ++ (loI M ++ hiI M)) R (by omega) (by omega) (by rw [hlen, hAl, hxs]; simp only [List.length_append, List.length_cons, List.length_nil] at hl2 ⊢; omega) (fun z hz => hok z (by rw [hMR]; exact List.mem_cons_of_mem _ (List.mem_append_right _ hz)))
        have e2 : A ++ [x] ++ (loI M ++ hiI M) ++ R = A ++ x :: (loI M ++ hiI M ++ R) := by simp
        rw [e2] at this
        rw [this]; simp
theorem apart_v (l : List Itm) (hok : okIs l) (hl : l.length ≤ 268435456) : ref04_apart_v l = some (ordI (apL l)) := by
  unfold ref04_apart_v
  refine joinI ((apart1 l hok hl _).trans (joinI ?_))
  have h1 := apL_len l
  have := apart2 (apL l) some (by omega) (apL l).length fuel [] (apL l) (Nat.le_refl _) (big_fuel (by omega)) rfl (okIs_ap hok)
  simpa using this
end Go.Proofs.Ytlamcpgnmeileaa
namespace Go.Proofs.Ytlamcpgnmeileaa
open Go.RowKit Go.Lib
set_option linter.unusedVariables false
set_option linter.unusedSimpArgs false
def runes_Width_v (r1 : Int) : Option Int := joinK (fun (j1 : Option Int) => bcond ((r1 : Int) != 65533) ( bcond (decide (Utf8.encode r1 = (⟨#[239, 191, 189]⟩ : ByteArray))) ( some 0
) ( j1
)
) ( j1
)
) ( some ((Utf8.encode r1).size : Int)
)
set_option maxRecDepth 100000 in
set_option maxHeartbeats 4000000 in
theorem runes_Width_fn {r1 : Int} {r : Int} (h : runes_Width_v r1 = some r) : FnP Try.prog 81 [.int .i32 r1] (.int .i64 r) := by
 unfold runes_Width_v at h
 refine FnP.intro Try.func81 rfl Try.ntmps81 (by simp) ?_
 intro w0 K
 obtain ⟨j1, hj1, h⟩ := joinE h
 refine TC.cutN (β := Unit) 1 rfl (fun b => j1 = some r) (fun b => []) (fun b => [(0, .int .i32 r1)]) (fun b => []) (fun cut => ?_) ?_
 ·
  refine TC.seq (TC.region (TO.assign rfl dc rfl (TO.nil (TX.next (cut (TC.seq (TC.region (TO.move rfl dc rfl (TO.bin rfl dc rfl rfl bin_neq (TO.move rfl dc rfl ?_))))))))))
  refine TO.split (s := 5) rfl (fun hb1 => ?_) (fun hb1 => ?_)
  ·
   have h := condT hb1 h
   refine TO.move rfl dc rfl (TO.conv rfl dc rfl (conv_rune Try.underlying21 Try.underlying9) (TO.bin rfl dc rfl rfl bin_seql (TO.pick (b := true) rfl dc rfl rfl (TO.nil (TX.next ?_)))))
   refine TC.condB rfl (fun hb2 => ?_) (fun hb2 => ?_)
   ·
    have h := condT hb2 h
    refine TC.seq (TC.region (TO.assign rfl dc rfl (TO.nil (TX.next (TC.ret (TX.thenRet ?_))))))
    cases h
    exact TX.fin (rs := [.tmp 2]) () (.inl rfl) Try.results81 (.cons (.tmp rfl) .nil) rfl Splits.nil
   ·
    have h := condF hb2 h
    refine TC.skip ?_
    exact TX.meetD () h rfl (Sbs.cons rfl (Sbs.nil)) Splits.nil
  ·
   have h := condF hb1 h
   refine TO.skip rfl dc (TO.skip rfl dc (TO.skip rfl dc (TO.pick (b := false) rfl dc rfl rfl (TO.nil (TX.next (TC.condF rfl (TC.skip ?_)))))))
   exact TX.meetD () h rfl (Sbs.cons rfl (Sbs.nil)) Splits.nil
 ·
  rintro _ h
  rw [hj1] at h
  show TC _ _ _ _ _ ([]) _ _ [(0, .int .i32 r1)] []
  refine TC.seq (TC.region (TO.move rfl dc rfl (TO.conv rfl dc rfl (conv_rune Try.underlying21 Try.underlying9) (TO.lenStr rfl dc rfl Try.underlying9 (TO.assign rfl dc rfl (TO.nil (TX.next (TC.ret ?_))))))))
  cases h
  exact TX.fin (rs := [.tmp 2]) () (.inl rfl) Try.results81 (.cons (.tmp rfl) .nil) rfl Splits.nil
def runes_read_s1 (s1 : ByteArray) (at1 : Int) (j1 : Option Gapi_Piece) (ag1 : Option Gapi_Piece) : Option Gapi_Piece := bcond (decide (0 < (pcs (cutB s1 at1 (s1.size : Int)).data.toList).length)) ( andThen ((pcs (cutB s1 at1 (s1.size : Int)).data.toList)[0]?) fun (p1 : Pc) => joinK (fun (j2 : Int → Option Gapi_Piece) => andThen (runes_Width_v (p1.r : Int)) fun (r1 : Int) => bcond (((p1.r : Int) : Int) == 65533) ( grd (I64 ((s1.size : Int) - at1)) <| bcond (decide ((((s1.size : Int) - at1) : Int) < 3)) ( some (⟨at1, 1, 65533, true⟩ : Gapi_Piece)
) ( grd (I64 (at1 + 3)) <| grd (0 ≤ (at1 : Int) ∧ (at1 : Int) ≤ (at1 + 3) ∧ (at1 + 3 : Int) ≤ (s1.size : Int)) <| bcond (!decide (cutB s1 at1 (at1 + 3) = (⟨#[239, 191, 189]⟩ : ByteArray))) ( some (⟨at1, 1, 65533, true⟩ : Gapi_Piece)
) ( j2 r1
)
)
) ( j2 r1
)
) (fun (n2 : Int) => some (⟨at1, n2, (p1.r : Int), false⟩ : Gapi_Piece)
)
) ( j1
)
def runes_read_v (s1 : ByteArray) (at1 : Int) : Option Gapi_Piece := joinK (fun (j1 : Option Gapi_Piece) => grd (0 ≤ (at1 : Int) ∧ (at1 : Int) ≤ (s1.size : Int) ∧ ((s1.size : Int) : Int) ≤ (s1.size : Int)) <| loopG none (runes_read_s1 s1 at1 j1) fuel
) ( some (⟨0, 0, 0, false⟩ : Gapi_Piece)
)
set_option maxRecDepth 100000 in
set_option maxHeartbeats 4000000 in
theorem runes_read_fn {s1 : ByteArray} {at1 : Int} {r : Gapi_Piece} (h : runes_read_v s1 at1 = some r) : FnP Try.prog 59 [.string s1, .int .i64 at1] (.agg #[.int .i64 r.At, .int .i64 r.Width, .int .i32 r.Rune, .bool r.Broken]) := by
 unfold runes_read_v at h
 refine FnP.intro Try.func59 rfl Try.ntmps59 (by simp) ?_
 intro w0 K
 obtain ⟨j1, hj1, h⟩ := joinE h
 refine TC.cutN (β := Nat) 1 rfl (fun b => j1 = some r) (fun b => []) (fun b => [(4, .pointer (some ⟨b, 0, none⟩))]) (fun b => [cells b [.int .i64 0, .int .i64 0, .int .i32 0, .bool false] 55]) (fun cut => ?_) ?_
 ·
  refine TC.seq (TC.region ?_)
  refine TO.alloc zr_55 rfl dc (fun b2 => ?_)
  refine TO.nil (TX.next (cut (TC.seq (TC.region (TO.move rfl dc rfl (TO.move rfl dc rfl ?_))))))
  obtain ⟨hg1, h⟩ := grdE h
  refine TO.slice rfl dc rfl rfl rfl (slice_stringI (i := at1) (j := (s1.size : Int)) Try.underlying9 (.inr rfl) (.inl ⟨rfl, rfl⟩) hg1) ?_
  refine TO.rangeStr Try.underlying9 rfl dc rfl (fun b3 => ?_)
  show TO _ _ _ _ _ _ _ _ _ _ [cells b2 [.int .i64 0, .int .i64 0, .int .i32 0, .bool false] 55, obj b3 (.stringIter (cutB s1 at1 (s1.size : Int)) (posAt (cutB s1 at1 (s1.size : Int)) 0))]
  refine TO.nil (TX.next (TC.block ?_))
  refine TC.loopD (β := Nat) (fun b => loopG none (runes_read_s1 s1 at1 j1) b = some r) (fun b => []) (fun b => [(0, .string s1), (1, .int .i64 at1), (4, .pointer (some ⟨b2, 0, none⟩)), (11, .pointer (some ⟨b3, 0, none⟩))]) (fun b => [cells b2 [.int .i64 0, .int .i64 0, .int .i32 0, .bool false] 55, obj b3 (.stringIter (cutB s1 at1 (s1.size : Int)) (posAt (cutB s1 at1 (s1.size : Int)) 0))]) (fun b => b) fuel h rfl (Sbs.cons rfl (Sbs.cons rfl (Sbs.cons rfl (Sbs.cons rfl (Sbs.nil))))) (Splits.of [0, 1] kr rfl) ?_
  rintro n1 h
  cases n1 with
  | zero => exact noneE h
  | succ n1 =>
   obtain ⟨ag1, hag1⟩ : ∃ ag, ag = loopG none (runes_read_s1 s1 at1 j1) n1 := ⟨_, rfl⟩
   have h : runes_read_s1 s1 at1 j1 ag1 = some r := by rw [hag1]; exact h
   unfold runes_read_s1 at h
   show TC _ _ _ _ _ ([]) _ _ [(0, .string s1), (1, .int .i64 at1), (4, .pointer (some ⟨b2, 0, none⟩)), (11, .pointer (some ⟨b3, 0, none⟩))] [cells b2 [.int .i64 0, .int .i64 0, .int .i32 0, .bool false] 55, obj b3 (.stringIter (cutB s1 at1 (s1.size : Int)) (posAt (cutB s1 at1 (s1.size : Int)) 0))]
   refine TC.seq (TC.region ?_)
   refine TO.bySplit (b := decide (0 < (pcs (cutB s1 at1 (s1.size : Int)).data.toList).length)) (fun hb1 => ?_) (fun hb1 => ?_)
   ·
    have h := condT hb1 h
    obtain ⟨p1, hq1, h⟩ := andE h
    refine TO.nextStr (k := 1) (m := 0) (p := p1) rfl dc rfl rfl hq1 (TO.extract rfl dc rfl rfl (TO.nil (TX.next (TC.seq (TC.condT rfl (TC.skip (TX.next (TC.block ?_))))))))
    obtain ⟨j2, hj2, h⟩ := joinE h
    refine TC.cutN (β := Int) 2 rfl (fun b => j2 b = some r) (fun b => []) (fun b => [(1, .int .i64 at1), (4, .pointer (some ⟨b2, 0, none⟩)), (6, .int .i32 (p1.r : Int)), (7, .int .i64 b)]) (fun b => [cells b2 [.int .i64 0, .int .i64 0, .int .i32 0, .bool false] 55]) (fun cut => ?_) ?_
    ·
     refine TC.seq (TC.region (TO.extract rfl dc rfl rfl (TO.assign rfl dc rfl (TO.nil (TX.next (TC.seq (TC.region (TO.move rfl dc rfl ?_))))))))
     obtain ⟨r1, hq2, h⟩ := andE h
     refine TO.callP (v := .int .i64 r1) (vs := [.int .i32 (p1.r : Int)]) rfl dc rfl rfl rfl en_81 (runes_Width_fn hq2) (TO.assign rfl dc rfl (TO.nil (TX.next (cut (TC.seq (TC.region (TO.move rfl dc rfl (TO.bin rfl dc rfl rfl bin_eql (TO.move rfl dc rfl ?_)))))))))
     refine TO.split (s := 19) rfl (fun hb2 => ?_) (fun hb2 => ?_)
     ·
      have h := condT hb2 h
      refine TO.move rfl dc rfl (TO.lenStr rfl dc rfl Try.underlying9 (TO.move rfl dc rfl ?_))
      obtain ⟨hg2, h⟩ := grdE h
      refine TO.bin rfl dc rfl rfl (bin_sub (r := (s1.size : Int) - at1) (IntWalk.i64_in _ hg2)) (TO.bin rfl dc rfl rfl bin_lss (TO.move rfl dc rfl ?_))
      refine TO.split (s := 25) rfl (fun hb3 => ?_) (fun hb3 => ?_)
      ·
       have h := condT hb3 h
       refine TO.skip rfl dc (TO.skip rfl dc (TO.skip rfl dc (TO.skip rfl dc (TO.skip rfl dc (TO.skip rfl dc (TO.pick (b := true) rfl dc rfl rfl (TO.pick (b := true) rfl dc rfl rfl (TO.nil (TX.next (TC.condT rfl (TC.seq (TC.region (TO.move rfl dc rfl ?_)))))))))))))
       refine TO.build (v := .agg #[.int .i64 at1, .int .i64 1, .int .i32 65533, .bool true]) (ps := [(0, .tmp 34), (1, .const (.int .i64 1)), (2, .const (.int .i32 65533)), (3, .const (.bool true))]) rfl dc rfl (fun _ => by kernel_rfl) ?_
       refine TO.stores (k := 0) (vs := [.int .i64 at1, .int .i64 1, .int .i32 65533, .bool true]) (l' := [.int .i64 at1, .int .i64 1, .int .i32 65533, .bool true]) sz_55 rfl rfl rfl rfl rfl (show _ ≤ _ by simp) rfl rfl ?_
       show TO _ _ _ _ _ _ _ _ _ _ [cells b2 [.int .i64 at1, .int .i64 1, .int .i32 65533, .bool true] 55, obj b3 (.stringIter (cutB s1 at1 (s1.size : Int)) (posAt (cutB s1 at1 (s1.size : Int)) (0 + 1)))]
       refine TO.nil (TX.next (TC.ret (TX.thenRet (TX.blockRet (TX.thenRet (TX.blockRet (TX.thenRet ?_)))))))
       cases h
       exact TX.fin (rs := [.cell 4 55]) () (.inl rfl) Try.results59 (.cons (.cells rw_55 (k := 0) rfl rfl rfl) .nil) rfl Splits.nil
      ·
       have h := condF hb3 h
       refine TO.move rfl dc rfl (TO.move rfl dc rfl (TO.move rfl dc rfl ?_))
       obtain ⟨hg3, h⟩ := grdE h
       refine TO.bin rfl dc rfl rfl (bin_add (r := at1 + 3) (IntWalk.i64_in _ hg3)) ?_
       obtain ⟨hg4, h⟩ := grdE h
       refine TO.slice rfl dc rfl rfl rfl (slice_stringI (i := at1) (j := at1 + 3) Try.underlying9 (.inr rfl) (.inr rfl) hg4) (TO.bin rfl dc rfl rfl bin_sneq (TO.pick (b := false) rfl dc rfl rfl (TO.pick (b := true) rfl dc rfl rfl (TO.nil (TX.next ?_)))))
       refine TC.condB rfl (fun hb4 => ?_) (fun hb4 => ?_)
       ·
        have h := condT hb4 h
        refine TC.seq (TC.region (TO.move rfl dc rfl ?_))
        refine TO.build (v := .agg #[.int .i64 at1, .int .i64 1, .int .i32 65533, .bool true]) (ps := [(0, .tmp 34), (1, .const (.int .i64 1)), (2, .const (.int .i32 65533)), (3, .const (.bool true))]) rfl dc rfl (fun _ => by kernel_rfl) ?_
        refine TO.stores (k := 0) (vs := [.int .i64 at1, .int .i64 1, .int .i32 65533, .bool true]) (l' := [.int .i64 at1, .int .i64 1, .int .i32 65533, .bool true]) sz_55 rfl rfl rfl rfl rfl (show _ ≤ _ by simp) rfl rfl ?_
        show TO _ _ _ _ _ _ _ _ _ _ [cells b2 [.int .i64 at1, .int .i64 1, .int .i32 65533, .bool true] 55, obj b3 (.stringIter (cutB s1 at1 (s1.size : Int)) (posAt (cutB s1 at1 (s1.size : Int)) (0 + 1)))]
        refine TO.nil (TX.next (TC.ret (TX.thenRet (TX.blockRet (TX.thenRet (TX.blockRet (TX.thenRet ?_)))))))
        cases h
        exact TX.fin (rs := [.cell 4 55]) () (.inl rfl) Try.results59 (.cons (.cells rw_55 (k := 0) rfl rfl rfl) .nil) rfl Splits.nil
       ·
        have h := condF hb4 h
        refine TC.skip ?_
        exact TX.meetD r1 h rfl (Sbs.cons rfl (Sbs.cons rfl (Sbs.cons rfl (Sbs.cons rfl (Sbs.nil))))) (Splits.of [0] kr rfl)
     ·
      have h := condF hb2 h
      refine TO.skip rfl dc (TO.skip rfl dc (TO.skip rfl dc (TO.skip rfl dc (TO.skip rfl dc (TO.skip rfl dc (TO.skip rfl dc (TO.skip rfl dc (TO.skip rfl dc (TO.skip rfl dc (TO.skip rfl dc (TO.skip rfl dc (TO.skip rfl dc (TO.pick (b := false) rfl dc rfl rfl ?_)))))))))))))
      refine TO.nil (TX.next (TC.condF rfl (TC.skip ?_)))
      exact TX.meetD r1 h rfl (Sbs.cons rfl (Sbs.cons rfl (Sbs.cons rfl (Sbs.cons rfl (Sbs.nil))))) (Splits.of [0] kr rfl)
    ·
     rintro n2 h
     rw [hj2] at h
     show TC _ _ _ _ _ ([]) _ _ [(1, .int .i64 at1), (4, .pointer (some ⟨b2, 0, none⟩)), (6, .int .i32 (p1.r : Int)), (7, .int .i64 n2)] [cells b2 [.int .i64 0, .int .i64 0, .int .i32 0, .bool false] 55]
     refine TC.seq (TC.region (TO.move rfl dc rfl (TO.move rfl dc rfl (TO.move rfl dc rfl ?_))))
     refine TO.build (v := .agg #[.int .i64 at1, .int .i64 n2, .int .i32 (p1.r : Int), .bool false]) (ps := [(0, .tmp 36), (1, .tmp 37), (2, .tmp 38)]) rfl dc rfl (fun _ => by kernel_rfl) ?_
     refine TO.stores (k := 0) (vs := [.int .i64 at1, .int .i64 n2, .int .i32 (p1.r : Int), .bool false]) (l' := [.int .i64 at1, .int .i64 n2, .int .i32 (p1.r : Int), .bool false]) sz_55 rfl rfl rfl rfl rfl (show _ ≤ _ by simp) rfl rfl (TO.nil (TX.next (TC.ret (TX.blockRet (TX.thenRet (TX.blockRet (TX.thenRet ?_)))))))
     cases h
     exact TX.fin (rs := [.cell 4 55]) () (.inl rfl) Try.results59 (.cons (.cells rw_55 (k := 0) rfl rfl rfl) .nil) rfl Splits.nil
   ·
    have h := condF hb1 h
    refine TO.nextEnd (k := 1) (m := 0) rfl dc rfl rfl (Nat.le_of_not_lt (of_decide_eq_false hb1)) (TO.extract rfl dc rfl rfl (TO.nil (TX.next (TC.seq (TC.condF rfl (TC.exit (TX.thenExit (TX.thenExit (TX.blockHere ?_)))))))))
    exact TX.meetD b2 h rfl (Sbs.cons rfl (Sbs.nil)) (Splits.of [0] kr rfl)
 ·
  rintro b1 h
  rw [hj1] at h
  show TC _ _ _ _ _ ([]) _ _ [(4, .pointer (some ⟨b1, 0, none⟩))] [cells b1 [.int .i64 0, .int .i64 0, .int .i32 0, .bool false] 55]
  refine TC.seq (TC.region ?_)
  refine TO.build (v := .agg #[.int .i64 0, .int .i64 0, .int .i32 0, .bool false]) (ps := []) rfl dc rfl (fun _ => by kernel_rfl) ?_
  refine TO.stores (k := 0) (vs := [.int .i64 0, .int .i64 0, .int .i32 0, .bool false]) (l' := [.int .i64 0, .int .i64 0, .int .i32 0, .bool false]) sz_55 rfl rfl rfl rfl rfl (show _ ≤ _ by simp) rfl rfl (TO.nil (TX.next (TC.ret ?_)))
  cases h
  exact TX.fin (rs := [.cell 4 55]) () (.inl rfl) Try.results59 (.cons (.cells rw_55 (k := 0) rfl rfl rfl) .nil) rfl Splits.nil
def runes_within_s1 (s1 : ByteArray) (at1 : Int) (j1 : Option (Gapi_Piece × Bool)) (ag1 : Int → Option (Gapi_Piece × Bool)) (from3 : Int) : Option (Gapi_Piece × Bool) := bcond (decide ((from3 : Int) < at1)) ( joinK (fun (j2 : Option (Gapi_Piece × Bool)) => andThen (runes_read_v s1 from3) fun (r1 : Gapi_Piece) => grd (I64 (from3 + r1.Width)) <| bcond (decide ((at1 : Int) < (from3 + r1.Width))) ( bcond (!r1.Broken) ( some (r1, true)
) ( j2
)
) ( j2
)
) ( grd (I64 (from3 + 1)) <| ag1 (from3 + 1)
)
) ( j1
)
def runes_within_v (s1 : ByteArray) (at1 : Int) : Option (Gapi_Piece × Bool) := joinK (fun (j1 : Option (Gapi_Piece × Bool)) => grd (I64 (at1 - 3)) <| loopG (fun _ => none) (runes_within_s1 s1 at1 j1) fuel (max (at1 - 3) 0)
) ( some ((⟨0, 0, 0, false⟩ : Gapi_Piece), false)
)
set_option maxRecDepth 100000 in
set_option maxHeartbeats 4000000 in
theorem runes_within_fn {s1 : ByteArray} {at1 : Int} {r : (Gapi_Piece × Bool)} (h : runes_within_v s1 at1 = some r) : FnP Try.prog 31 [.string s1, .int .i64 at1] (.tuple #[.agg #[.int .i64 r.1.At, .int .i64 r.1.Width, .int .i32 r.1.Rune, .bool r.1.Broken], .bool r.2]) := by
 unfold runes_within_v at h
 refine FnP.intro Try.func31 rfl Try.ntmps31 (by simp) ?_
 intro w0 K
 obtain ⟨j1, hj1, h⟩ := joinE h
 refine TC.cutN (β := Nat) 1 rfl (fun b => j1 = some r) (fun b => []) (fun b => [(4, .pointer (some ⟨b, 0, none⟩))]) (fun b => [cells b [.int .i64 0, .int .i64 0, .int .i32 0, .bool false] 55]) (fun cut => ?_) ?_
 ·
  refine TC.seq (TC.region ?_)
  refine TO.alloc zr_55 rfl dc (fun b2 => ?_)
  refine TO.assign rfl dc rfl (TO.nil (TX.next (cut (TC.seq (TC.region (TO.move rfl dc rfl ?_))))))
  obtain ⟨hg1, h⟩ := grdE h
  refine TO.bin rfl dc rfl rfl (bin_sub (r := at1 - 3) (IntWalk.i64_in _ hg1)) (TO.max2 rfl dc rfl rfl (TO.assign rfl dc rfl (TO.nil (TX.next (TC.block ?_)))))
  refine TC.loopD (β := Nat × Int) (fun b => loopG (fun _ => none) (runes_within_s1 s1 at1 j1) b.1 b.2 = some r) (fun b => []) (fun b => [(0, .string s1), (1, .int .i64 at1), (4, .pointer (some ⟨b2, 0, none⟩)), (6, .int .i64 b.2)]) (fun b => [cells b2 [.int .i64 0, .int .i64 0, .int .i32 0, .bool false] 55]) (fun b => b.1) (fuel, max (at1 - 3) 0) h rfl (Sbs.cons rfl (Sbs.cons rfl (Sbs.cons rfl (Sbs.cons rfl (Sbs.nil))))) (Splits.of [0] kr rfl) ?_
  rintro ⟨n1, from3⟩ h
  cases n1 with
  | zero => exact noneE h
  | succ n1 =>
   obtain ⟨ag1, hag1⟩ : ∃ ag, ag = loopG (fun _ => none) (runes_within_s1 s1 at1 j1) n1 := ⟨_, rfl⟩
   have h : runes_within_s1 s1 at1 j1 ag1 from3 = some r := by rw [hag1]; exact h
   unfold runes_within_s1 at h
   show TC _ _ _ _ _ ([]) _ _ [(0, .string s1), (1, .int .i64 at1), (4, .pointer (some ⟨b2, 0, none⟩)), (6, .int .i64 from3)] [cells b2 [.int .i64 0, .int .i64 0, .int .i32 0, .bool false] 55]
   refine TC.seq (TC.seq (TC.region (TO.move rfl dc rfl (TO.move rfl dc rfl (TO.bin rfl dc rfl rfl bin_lss (TO.nil (TX.next ?_)))))))
   refine TC.condB rfl (fun hb1 => ?_) (fun hb1 => ?_)
   ·
    have h := condT hb1 h
    refine TC.skip (TX.next ?_)
    obtain ⟨j2, hj2, h⟩ := joinE h
    refine TC.cutN (β := Unit) 0 rfl (fun b => j2 = some r) (fun b => []) (fun b => [(0, .string s1), (1, .int .i64 at1), (4, .pointer (some ⟨b2, 0, none⟩)), (6, .int .i64 from3)]) (fun b => [cells b2 [.int .i64 0, .int .i64 0, .int .i32 0, .bool false] 55]) (fun cut => ?_) ?_
    ·
     refine cut (TC.block (TC.seq (TC.region (TO.move rfl dc rfl (TO.move rfl dc rfl ?_)))))
     obtain ⟨r1, hq1, h⟩ := andE h
     refine TO.callP (v := .agg #[.int .i64 r1.At, .int .i64 r1.Width, .int .i32 r1.Rune, .bool r1.Broken]) (vs := [.string s1, .int .i64 from3]) rfl dc rfl rfl rfl en_59 (runes_read_fn hq1) ?_
     refine TO.alloc zr_55 rfl dc (fun b3 => ?_)
     refine TO.stores (k := 1) (vs := [.int .i64 r1.At, .int .i64 r1.Width, .int .i32 r1.Rune, .bool r1.Broken]) (l' := [.int .i64 r1.At, .int .i64 r1.Width, .int .i32 r1.Rune, .bool r1.Broken]) sz_55 rfl rfl rfl rfl rfl (show _ ≤ _ by simp) rfl rfl ?_
     show TO _ _ _ _ _ _ _ _ _ _ [cells b2 [.int .i64 0, .int .i64 0, .int .i32 0, .bool false] 55, cells b3 [.int .i64 r1.At, .int .i64 r1.Width, .int .i32 r1.Rune, .bool r1.Broken] 55]
     refine TO.nil (TX.next (TC.seq (TC.region (TO.move rfl dc rfl (TO.fieldAddr fl_55_1 rfl dc rfl (show _ = 1 from rfl) (TO.load (k := 1) sc_3 rfl dc rfl rfl rfl ?_))))))
     obtain ⟨hg2, h⟩ := grdE h
     refine TO.bin rfl dc rfl rfl (bin_add (r := from3 + r1.Width) (IntWalk.i64_in _ hg2)) (TO.move rfl dc rfl (TO.bin rfl dc rfl rfl bin_gtr (TO.move rfl dc rfl ?_)))
     refine TO.split (s := 25) rfl (fun hb2 => ?_) (fun hb2 => ?_)
     ·
      have h := condT hb2 h
      refine TO.fieldAddr fl_55_3 rfl dc rfl (show _ = 3 from rfl) (TO.load (k := 1) sc_4 rfl dc rfl rfl rfl (TO.un rfl dc rfl un_not (TO.pick (b := true) rfl dc rfl rfl (TO.nil (TX.next ?_)))))
      refine TC.condB rfl (fun hb3 => ?_) (fun hb3 => ?_)
      ·
       have h := condT hb3 h
       refine TC.seq (TC.region (TO.loads (k := 1) (cs := [.int .i64 r1.At, .int .i64 r1.Width, .int .i32 r1.Rune, .bool r1.Broken]) rw_55 rfl dc rfl rfl rfl rfl (TO.stores (k := 0) (vs := [.int .i64 r1.At, .int .i64 r1.Width, .int .i32 r1.Rune, .bool r1.Broken]) (l' := [.int .i64 r1.At, .int .i64 r1.Width, .int .i32 r1.Rune, .bool r1.Broken]) sz_55 rfl rfl rfl rfl rfl (show _ ≤ _ by simp) rfl rfl (TO.assign rfl dc rfl (TO.nil (TX.next (TC.ret (TX.blockRet (TX.thenRet (TX.thenRet (TX.blockRet (TX.thenRet ?_))))))))))))
       cases h
       exact TX.fin (rs := [.cell 4 55, .tmp 5]) () (.inl rfl) Try.results31 (.cons (.cells rw_55 (k := 0) rfl rfl rfl) (.cons (.tmp rfl) .nil)) rfl Splits.nil
      ·
       have h := condF hb3 h
       refine TC.skip (TX.blockNormal ?_)
       exact TX.meetD () h rfl (Sbs.cons rfl (Sbs.cons rfl (Sbs.cons rfl (Sbs.cons rfl (Sbs.nil))))) (Splits.of [0] kr rfl)
     ·
      have h := condF hb2 h
      refine TO.skip rfl dc (TO.skip rfl dc (TO.skip rfl dc (TO.pick (b := false) rfl dc rfl rfl (TO.nil (TX.next (TC.condF rfl (TC.skip (TX.blockNormal ?_))))))))
      exact TX.meetD () h rfl (Sbs.cons rfl (Sbs.cons rfl (Sbs.cons rfl (Sbs.cons rfl (Sbs.nil))))) (Splits.of [0] kr rfl)
    ·
     rintro _ h
     rw [hj2] at h
     show TC _ _ _ _ _ ([]) _ _ [(0, .string s1), (1, .int .i64 at1), (4, .pointer (some ⟨b2, 0, none⟩)), (6, .int .i64 from3)] [cells b2 [.int .i64 0, .int .i64 0, .int .i32 0, .bool false] 55]
     refine TC.region (TO.move rfl dc rfl ?_)
     obtain ⟨hg3, h⟩ := grdE h
     refine TO.bin rfl dc rfl rfl (bin_add (r := from3 + 1) (IntWalk.i64_in _ hg3)) (TO.assign rfl dc rfl (TO.nil ?_))
     subst hag1
     exact TX.againD (n1, from3 + 1) h (Nat.lt_succ_self _) rfl (Sbs.cons rfl (Sbs.cons rfl (Sbs.cons rfl (Sbs.cons rfl (Sbs.nil))))) (Splits.of [0] kr rfl)
   ·
    have h := condF hb1 h
    refine TC.exit (TX.thenExit (TX.thenExit (TX.blockHere ?_)))
    exact TX.meetD b2 h rfl (Sbs.cons rfl (Sbs.nil)) (Splits.of [0] kr rfl)
 ·
  rintro b1 h
  rw [hj1] at h
  show TC _ _ _ _ _ ([]) _ _ [(4, .pointer (some ⟨b1, 0, none⟩))] [cells b1 [.int .i64 0, .int .i64 0, .int .i32 0, .bool false] 55]
  refine TC.seq (TC.region ?_)
  refine TO.build (v := .agg #[.int .i64 0, .int .i64 0, .int .i32 0, .bool false]) (ps := []) rfl dc rfl (fun _ => by kernel_rfl) ?_
  refine TO.stores (k := 0) (vs := [.int .i64 0, .int .i64 0, .int .i32 0, .bool false]) (l' := [.int .i64 0, .int .i64 0, .int .i32 0, .bool false]) sz_55 rfl rfl rfl rfl rfl (show _ ≤ _ by simp) rfl rfl (TO.assign rfl dc rfl (TO.nil (TX.next (TC.ret ?_))))
  cases h
  exact TX.fin (rs := [.cell 4 55, .tmp 5]) () (.inl rfl) Try.results31 (.cons (.cells rw_55 (k := 0) rfl rfl rfl) (.cons (.tmp rfl) .nil)) rfl Splits.nil
def runes_Boundary_v (s1 : ByteArray) (at1 : Int) : Option Bool := bcond (decide ((at1 : Int) < 0)) ( some false
) ( bcond (decide (((s1.size : Int) : Int) < at1)) ( some false
) ( andThen (runes_within_v s1 at1) fun (r1 : (Gapi_Piece × Bool)) => some (!r1.2)
)
)
set_option maxRecDepth 100000 in
set_option maxHeartbeats 4000000 in
theorem runes_Boundary_fn {s1 : ByteArray} {at1 : Int} {r : Bool} (h : runes_Boundary_v s1 at1 = some r) : FnP Try.prog 12 [.string s1, .int .i64 at1] (.bool r) := by
 unfold runes_Boundary_v at h
 refine FnP.intro Try.func12 rfl Try.ntmps12 (by simp) ?_
 intro w0 K
 refine TC.seq (TC.region (TO.assign rfl dc rfl (TO.nil (TX.next (TC.seq (TC.seq (TC.region (TO.move rfl dc rfl (TO.bin rfl dc rfl rfl bin_lss (TO.move rfl dc rfl ?_))))))))))
 refine TO.split (s := 9) rfl (fun hb1 => ?_) (fun hb1 => ?_)
 ·
  have h := condT hb1 h
  refine TO.skip rfl dc (TO.skip rfl dc (TO.skip rfl dc (TO.skip rfl dc (TO.pick (b := true) rfl dc rfl rfl (TO.nil (TX.next (TC.condT rfl (TC.seq (TC.region (TO.assign rfl dc rfl (TO.nil (TX.next (TC.ret ?_)))))))))))))
  refine TX.thenRet ?_
  cases h
  exact TX.fin (rs := [.tmp 4]) () (.inl rfl) Try.results12 (.cons (.tmp rfl) .nil) rfl Splits.nil
 ·
  have h := condF hb1 h
  refine TO.move rfl dc rfl (TO.move rfl dc rfl (TO.lenStr rfl dc rfl Try.underlying9 (TO.bin rfl dc rfl rfl bin_gtr (TO.pick (b := false) rfl dc rfl rfl (TO.nil (TX.next ?_))))))
  refine TC.condB rfl (fun hb2 => ?_) (fun hb2 => ?_)
  ·
   have h := condT hb2 h
   refine TC.seq (TC.region (TO.assign rfl dc rfl (TO.nil (TX.next (TC.ret (TX.thenRet ?_))))))
   cases h
   exact TX.fin (rs := [.tmp 4]) () (.inl rfl) Try.results12 (.cons (.tmp rfl) .nil) rfl Splits.nil
  ·
   have h := condF hb2 h
   refine TC.skip (TX.next (TC.seq (TC.region (TO.move rfl dc rfl (TO.move rfl dc rfl ?_)))))
   obtain ⟨r1, hq1, h⟩ := andE h
   refine TO.callP (v := .tuple #[.agg #[.int .i64 r1.1.At, .int .i64 r1.1.Width, .int .i32 r1.1.Rune, .bool r1.1.Broken], .bool r1.2]) (vs := [.string s1, .int .i64 at1]) rfl dc rfl rfl rfl en_31 (runes_within_fn hq1) (TO.move rfl dc rfl (TO.extract rfl dc rfl rfl (TO.extract rfl dc rfl rfl ?_)))
   refine TO.alloc zr_55 rfl dc (fun b1 => ?_)
   refine TO.stores (k := 0) (vs := [.int .i64 r1.1.At, .int .i64 r1.1.Width, .int .i32 r1.1.Rune, .bool r1.1.Broken]) (l' := [.int .i64 r1.1.At, .int .i64 r1.1.Width, .int .i32 r1.1.Rune, .bool r1.1.Broken]) sz_55 rfl rfl rfl rfl rfl (show _ ≤ _ by simp) rfl rfl ?_
   show TO _ _ _ _ _ _ _ _ _ _ [cells b1 [.int .i64 r1.1.At, .int .i64 r1.1.Width, .int .i32 r1.1.Rune, .bool r1.1.Broken] 55]
   refine TO.assign rfl dc rfl (TO.nil (TX.next (TC.seq (TC.region (TO.move rfl dc rfl (TO.un rfl dc rfl un_not (TO.assign rfl dc rfl (TO.nil (TX.next (TC.ret ?_))))))))))
   cases h
   exact TX.fin (rs := [.tmp 4]) () (.inl rfl) Try.results12 (.cons (.tmp rfl) .nil) rfl Splits.nil
def runes_Pieces_1_s1 (c0 : ByteArray) (ag1 : Nat → Option (List Gapi_Piece)) (m3 : Nat) : Option (List Gapi_Piece) := bcond (decide (m3 < (pcs c0.data.toList).length)) ( andThen ((pcs c0.data.toList)[m3]?) fun (p1 : Pc) => andThen (runes_read_v c0 (p1.i : Int)) fun (r1 : Gapi_Piece) => consO r1 <| ag1 (m3 + 1)
) ( some []
)
def runes_Pieces_1_v (c0 : ByteArray) : Option (List Gapi_Piece) := loopG (fun _ => none) (runes_Pieces_1_s1 c0) fuel 0
set_option maxRecDepth 100000 in
set_option maxHeartbeats 4000000 in
theorem runes_Pieces_1_itr {b_c0 : Nat} {c0 : ByteArray} {xs : (List Gapi_Piece)} (h : runes_Pieces_1_v c0 = some xs) : Itr Try.prog 73 [.pointer (some ⟨b_c0, 0, none⟩)] (fun q : Gapi_Piece => [.agg #[.int .i64 q.At, .int .i64 q.Width, .int .i32 q.Rune, .bool q.Broken]]) xs [(b_c0, .cells #[.string c0] 9 (0, 0))] := by
 unfold runes_Pieces_1_v at h
 refine Itr.intro Try.func73 rfl Try.ntmps73 (by simp) ?_
 intro l w0 K I X hRo hy
 obtain ⟨r0, hx0⟩ : ∃ r, xs = [] ++ r := ⟨xs, rfl⟩
 have hr0 : xs = r0 := hx0
 rw [hr0] at h
 refine TC.seq (TC.region (TO.loadRo (i := 0) hRo sc_9 rfl dc rfl rfl rfl ?_))
 refine TO.rangeStr Try.underlying9 rfl dc rfl (fun b1 => ?_)
 refine TO.nil (TX.next (TC.block ?_))
 refine TC.loopD (β := Nat × Nat × (List Gapi_Piece) × (List Gapi_Piece)) (fun b => loopG (fun _ => none) (runes_Pieces_1_s1 c0) b.1 b.2.1 = some b.2.2.2 ∧ xs = b.2.2.1 ++ b.2.2.2) (fun b => []) (fun b => [(0, .func (.yield l) #[] #[]), (1, .pointer (some ⟨b_c0, 0, none⟩)), (5, .pointer (some ⟨b1, 0, none⟩))]) (fun b => [I b.2.2.1, obj b1 (.stringIter c0 (posAt c0 b.2.1))]) (fun b => b.1) (fuel, 0, ([] : List Gapi_Piece), r0) ⟨h, hx0⟩ rfl (Sbs.cons rfl (Sbs.cons rfl (Sbs.cons rfl (Sbs.nil)))) (Splits.of [0, 1] kr rfl) ?_
 rintro ⟨n1, m3, acc3, rr3⟩ ⟨h, hx3⟩
 cases n1 with
 | zero => exact noneE h
 | succ n1 =>
  obtain ⟨ag1, hag1⟩ : ∃ ag, ag = loopG (fun _ => none) (runes_Pieces_1_s1 c0) n1 := ⟨_, rfl⟩
  have h : runes_Pieces_1_s1 c0 ag1 m3 = some rr3 := by rw [hag1]; exact h
  unfold runes_Pieces_1_s1 at h
  show TC _ _ _ _ _ ([]) _ _ [(0, .func (.yield l) #[] #[]), (1, .pointer (some ⟨b_c0, 0, none⟩)), (5, .pointer (some ⟨b1, 0, none⟩))] [I acc3, obj b1 (.stringIter c0 (posAt c0 m3))]
  refine TC.seq (TC.region ?_)
  refine TO.bySplit (b := decide (m3 < (pcs c0.data.toList).length)) (fun hb1 => ?_) (fun hb1 => ?_)
  ·
   have h := condT hb1 h
   obtain ⟨p1, hq1, h⟩ := andE h
   refine TO.nextStr (k := 1) (m := m3) (p := p1) rfl dc rfl rfl hq1 (TO.extract rfl dc rfl rfl (TO.nil (TX.next (TC.seq (TC.condT rfl (TC.skip (TX.next (TC.block (TC.seq (TC.region (TO.extract rfl dc rfl rfl (TO.assign rfl dc rfl (TO.nil ?_)))))))))))))
   refine TX.next (TC.seq (TC.region (TO.move rfl dc rfl (TO.loadRo (i := 0) hRo sc_9 rfl dc rfl rfl rfl (TO.move rfl dc rfl ?_)))))
   obtain ⟨r1, hq2, h⟩ := andE h
   refine TO.callP (v := .agg #[.int .i64 r1.At, .int .i64 r1.Width, .int .i32 r1.Rune, .bool r1.Broken]) (vs := [.string c0, .int .i64 (p1.i : Int)]) rfl dc rfl rfl rfl en_59 (runes_read_fn hq2) ?_
   obtain ⟨rr4, hr1, h⟩ := consE h
   have hx4 : xs = acc3 ++ r1 :: rr4 := by rw [hx3, hr1]
   refine TO.yield hy rfl dc rfl hx4 rfl (k := 0) rfl ?_ ?_
   ·
    have hx5 : xs = (acc3 ++ [r1]) ++ rr4 := by rw [hx4]; simp
    show TO _ _ _ _ _ _ _ _ _ _ [I (acc3 ++ [r1]), obj b1 (.stringIter c0 (posAt c0 (m3 + 1)))]
    refine TO.un rfl dc rfl un_not (TO.nil (TX.next (TC.condF rfl (TC.skip (TX.blockNormal ?_)))))
    subst hag1
    exact TX.againD (n1, m3 + 1, acc3 ++ [r1], rr4) ⟨h, hx5⟩ (Nat.lt_succ_self _) rfl (Sbs.cons rfl (Sbs.cons rfl (Sbs.cons rfl (Sbs.nil)))) (Splits.of [0, 1] kr rfl)
   ·
    show TO _ _ _ _ _ _ _ _ _ _ [X (acc3 ++ [r1]), obj b1 (.stringIter c0 (posAt c0 (m3 + 1)))]
    refine TO.un rfl dc rfl un_not (TO.nil (TX.next (TC.condT rfl (TC.ret (TX.blockRet (TX.thenRet (TX.blockRet ?_)))))))
    exact TX.finX (ds := []) acc3 r1 rr4 hx4 (.inl rfl) Splits.nil Try.results73 (Splits.of [0] kr rfl)
  ·
   have h := condF hb1 h
   refine TO.nextEnd (k := 1) (m := m3) rfl dc rfl rfl (Nat.le_of_not_lt (of_decide_eq_false hb1)) (TO.extract rfl dc rfl rfl (TO.nil (TX.next (TC.seq (TC.condF rfl (TC.exit (TX.thenExit (TX.thenExit (TX.blockHere ?_)))))))))
   cases h
   exact TX.finY (ds := []) (.inr rfl) Splits.nil Try.results73 (congrArg I (hx3.trans (List.append_nil _))) (Splits.of [0] kr rfl)
def runes_Pieces_v (s1 : ByteArray) : Option ByteArray := some s1
set_option maxRecDepth 100000 in
set_option maxHeartbeats 4000000 in
theorem runes_Pieces_fn {s1 : ByteArray} {r : ByteArray} (h : runes_Pieces_v s1 = some r) : Fn Try.prog 49 [.string s1] [] (fun v0 : Nat => .func (.func 73) #[] #[.pointer (some ⟨v0, 0, none⟩)]) (fun v0 => [cells v0 [.string r] 9]) := by
 unfold runes_Pieces_v at h
 refine Fn.intro Try.func49 rfl Try.ntmps49 (by simp) ?_
 intro w0 K
 refine TC.seq (TC.region ?_)
 refine TO.box rfl dc rfl (fun b1 => ?_)
 refine TO.assign rfl dc rfl (TO.nil (TX.next (TC.seq (TC.region (TO.makeFunc (x1 := []) (x2 := [.tmp 1]) rfl dc rfl rfl (TO.assign rfl dc rfl (TO.nil (TX.next (TC.ret ?_)))))))))
 cases h
 exact TX.fin (rs := [.tmp 2]) b1 (.inl rfl) Try.results49 (.cons (.tmp rfl) .nil) rfl (Splits.of [0] kr rfl)
end Go.Proofs.Ytlamcpgnmeileaa
namespace Go.Proofs.Ytlamcpgnmeileaa
open Go.RowKit Go.Lib
set_option linter.unusedVariables false
set_option linter.unusedSimpArgs false
theorem encNeLost (r : Int) (hv : 0 ≤ r ∧ (r < 55296 ∨ (57343 < r ∧ r ≤ 1114111))) (hr : ¬ r = 65533) : ¬ Utf8.encode r = ⟨#[239, 191, 189]⟩ := by
  intro h
  obtain ⟨n, rfl⟩ := Int.eq_ofNat_of_zero_le hv.1
  have h1 : encodeRune ((n : Nat) : Int) = [239, 191, 189] := by rw [← encode_list, h]
  have h2 := dec_enc n (by omega) []
  have h3 := dec_enc 65533 (by omega) []
  rw [h1] at h2
  rw [enc_lost] at h3
  rw [h2] at h3
  have := (Prod.mk.inj h3).1
  omega
theorem rwidthV (r : Int) (hv : vr r) : runes_Width_v r = some ((Utf8.encode r).size : Int) := by
  unfold runes_Width_v
  refine joinI ?_
  by_cases h : r = 65533
  · exact condFI (bne_eq_false_iff_eq.2 h) rfl
  · exact condTI (bne_iff_ne.2 h) (condFI (decide_eq_false (encNeLost r (by unfold vr at hv; omega) h)) rfl)
theorem readV (s : ByteArray) (a : Nat) (ha : a < s.size) (hsz : s.size ≤ 9223372036854775000) : runes_read_v s (a : Int) = some (pcG ⟨a, (decodeL (s.data.toList.drop a)).2, (decodeL (s.data.toList.drop a)).1⟩) := by
  unfold runes_read_v
  obtain ⟨F, hF, _⟩ := fuel_eq 1 (by omega)
  rw [hF]
  refine joinI (grdI ⟨by omega, by omega, by omega⟩ ?_)
  rw [loopI]
  generalize loopG _ _ F = ag
  unfold runes_read_s1
  have hne : s.data.toList.drop a ≠ [] := by
    intro h; have := congrArg List.length h; simp at this; omega
  have hok := decOk _ hne
  have hlen : (s.data.toList.drop a).length = s.size - a := by simp
  have hle := hok.le
  have e : (cutB s (a : Int) (s.size : Int)).data.toList = s.data.toList.drop a := by unfold cutB; exact ext_end s a
  have hp : pcs (cutB s (a : Int) (s.size : Int)).data.toList = ⟨0, (decodeL (s.data.toList.drop a)).2, (decodeL (s.data.toList.drop a)).1⟩ :: pcsFrom (0 + (decodeL (s.data.toList.drop a)).2) ((s.data.toList.drop a).drop (decodeL (s.data.toList.drop a)).2) := by
    rw [e]; unfold pcs; rw [pcsFrom_cons _ _ hne]
  have hvr : vr ((decodeL (s.data.toList.drop a)).1 : Int) := by have := hok.valid; unfold vr; omega
  refine condTI (decide_eq_true (by rw [hp]; simp)) (thenI (by rw [hp]; rfl) (joinI (thenI (rwidthV _ hvr) ?_)))
  simp only
  unfold pcG Pc.broken
  have hw := hok.width
  have hl3 := hok.lost_ok
  have hl1 := hok.lost_bad
  generalize decodeL (s.data.toList.drop a) = d at *
  rcases d with ⟨r, w⟩
  simp only at *
  by_cases hr : r = 65533
  · subst hr
    refine condTI (by decide) (grdI ⟨by omega, by omega⟩ ?_)
    by_cases h3 : (s.size : Int) - a < 3
    · refine condTI (decide_eq_true h3) ?_
      have hw1 : w = 1 := by
        by_cases hw1 : w = 1
        · exact hw1
        · have := (hl3 rfl hw1).2; omega
      subst hw1; rfl
    · have e3 := cutB_list s a 3
      refine condFI (decide_eq_false h3) (grdI ⟨by omega, by omega⟩ (grdI ⟨by omega, by omega, by omega⟩ ?_))
      by_cases hw1 : w = 1
      · refine condTI ?_ (by subst hw1; rfl)
        rw [decide_eq_false]
        · rfl
        · intro h
          exact hl1 rfl hw1 (by rw [← e3]; exact congrArg (fun b : ByteArray => b.data.toList) h)
      · obtain ⟨h4, h5⟩ := hl3 rfl hw1
        refine condFI ?_ ?_
        · rw [decide_eq_true]
          · rfl
          · apply ByteArray.ext; apply Array.toList_inj.1; rw [show ((a : Int) + 3) = (a : Int) + (3 : Nat) from rfl, e3, h4]
        · rw [encode_size, hw (by omega)]
          subst h5; rfl
  · refine condFI (by rw [beq_eq_false_iff_ne]; omega) ?_
    rw [encode_size, hw (by omega)]
    have : (r == 65533 && w == 1) = false := by simp [hr]
    rw [this]
theorem piecesI (s : ByteArray) (hs : s.size ≤ 2147483648) : runes_Pieces_1_v s = some ((pcs s.data.toList).map pcG) := by
  unfold runes_Pieces_1_v
  have hc : (pcs s.data.toList).length ≤ s.size := by have := runesOf_len s; unfold runesOf at this; simpa using this
  have key : ∀ (n k : Nat), k ≤ (pcs s.data.toList).length → (pcs s.data.toList).length - k < n → loopG (fun _ => none) (runes_Pieces_1_s1 s) n k = some (((pcs s.data.toList).drop k).map pcG) := by
    intro n
    induction n with
    | zero => intro k _ h; omega
    | succ n ih =>
      intro k hk hn
      rw [loopI]
      generalize loopG (fun _ => none) (runes_Pieces_1_s1 s) n = ag at ih ⊢
      unfold runes_Pieces_1_s1
      by_cases h : k < (pcs s.data.toList).length
      · have hx : (pcs s.data.toList)[k]? = some (pcs s.data.toList)[k] := List.getElem?_eq_getElem h
        have hm := List.mem_of_getElem? hx
        generalize (pcs s.data.toList)[k] = p at hx hm
        obtain ⟨g1, g2, hok⟩ := pcs_pos s.data.toList p hm
        have hlen : s.data.toList.length = s.size := by rw [Array.length_toList]; rfl
        have hw := hok.pos
        have hr : runes_read_v s (p.i : Int) = some (pcG p) := by
          have := readV s p.i (by omega) (by omega)
          rw [this]
          have he := hok.eq
          rw [he]
        refine condTI (decide_eq_true h) (thenI hx (thenI hr ?_))
        rw [ih (k + 1) (by omega) (by omega)]
        have hd : (pcs s.data.toList).drop k = p :: (pcs s.data.toList).drop (k + 1) := by
          obtain ⟨hlt, he⟩ := List.getElem?_eq_some_iff.1 hx
          rw [← he]; exact List.drop_eq_getElem_cons hlt
        rw [hd]; rfl
      · have : k = (pcs s.data.toList).length := by omega
        subst this
        exact condFI (decide_eq_false (by omega)) (by rw [List.drop_length]; rfl)
  have := key fuel 0 (Nat.zero_le _) (by unfold fuel; omega)
  simpa using this
end Go.Proofs.Ytlamcpgnmeileaa
namespace Go.Proofs.Ytlamcpgnmeileaa
open Go.RowKit Go.Lib
set_option linter.unusedVariables false
set_option linter.unusedSimpArgs false
def fold_units_s2 (j3 : Int → Int → Int → (List Int) → (List Int) → Option (List Gfold_unit)) (r6 : (List Int)) (ag2 : Int → Int → Int → (List Int) → (List Int) → Int → Option (List Gfold_unit)) (u23 : Int) (u24 : Int) (u25 : Int) (u26 : List Int) (u27 : List Int) (x6 : Int) : Option (List Gfold_unit) := bcond (decide ((x6 : Int) < ((cutL r6 1 (r6.length : Int)).length : Int))) ( andThen (getO (cutL r6 1 (r6.length : Int)) x6) fun (q2 : Int) => andThen (fold_unit_mark_v (⟨u23, u24, u25, u26, u27⟩ : Gfold_unit) q2) fun (r7 : Gfold_unit) => grd (I64 (x6 + 1)) <| ag2 r7.at_ r7.broken r7.base r7.low r7.high (x6 + 1)
) ( j3 u23 u24 u25 u26 u27
)
def fold_units_s1 (s1 : ByteArray) (r1 : ((List (Gfold_pair × Int)) × (List (Int × Gfold_pair)))) (x1 : Gapi_Piece) (ag1 : (List Gfold_unit) → Option (List Gfold_unit)) (l4 : List Gfold_unit) : Option (List Gfold_unit) := bcond (x1.Broken) ( andThen (getB s1 x1.At) fun (c1 : Int) => grd (l4.length + 1 ≤ 2147483648) <| ag1 (l4 ++ [(⟨x1.At, c1, (-1), ([] : List Int), ([] : List Int)⟩ : Gfold_unit)])
) ( joinK (fun (j2 : Option (List Gfold_unit)) => bcond (decide ((0 : Int) < (l4.length : Int))) ( grd (I64 ((l4.length : Int) - 1)) <| andThen (getO l4 ((l4.length : Int) - 1)) fun (x2 : Gfold_unit) => andThen (fold_unit_letter_v x2) fun (r3 : Bool) => bcond (r3) ( grd (I32 x1.Rune) <| bcond (((kind x1.Rune) : Int) == 2) ( grd (I64 ((l4.length : Int) - 1)) <| andThen (getO l4 ((l4.length : Int) - 1)) fun (x3 : Gfold_unit) => andThen (fold_unit_mark_v x3 x1.Rune) fun (r4 : Gfold_unit) => ag1 (l4.set ((l4.length : Int) - 1 : Int).toNat r4)
) ( j2
)
) ( j2
)
) ( j2
)
) ( joinK (fun (j3 : Int → Int → Int → (List Int) → (List Int) → Option (List Gfold_unit)) => andThen (fold_unit_letter_v (⟨x1.At, 0, x1.Rune, ([] : List Int), ([] : List Int)⟩ : Gfold_unit)) fun (r5 : Bool) => bcond (r5) ( andThen (fold_parted_v r1.2 x1.Rune) fun (r6 : (List Int)) => andThen (getO r6 0) fun (q1 : Int) => grd (0 ≤ (1 : Int) ∧ (1 : Int) ≤ (r6.length : Int) ∧ ((r6.length : Int) : Int) ≤ (r6.length : Int)) <| loopG (fun _ _ _ _ _ _ => none) (fold_units_s2 j3 r6) fuel x1.At 0 q1 ([] : List Int) ([] : List Int) 0
) ( j3 x1.At 0 x1.Rune ([] : List Int) ([] : List Int)
)
) (fun (u1 : Int) (u2 : Int) (u3 : Int) (u4 : List Int) (u5 : List Int) => grd (l4.length + 1 ≤ 2147483648) <| ag1 (l4 ++ [(⟨u1, u2, u3, u4, u5⟩ : Gfold_unit)])
)
)
)
def fold_units_v (s1 : ByteArray) : Option (List Gfold_unit) := joinK (fun (j1 : (List Gfold_unit) → Option (List Gfold_unit)) => andThen (fold_tables_v) fun (r1 : ((List (Gfold_pair × Int)) × (List (Int × Gfold_pair)))) => andThen (runes_Pieces_v s1) fun (r2 : ByteArray) => andThen (runes_Pieces_1_v r2) fun (its1 : (List Gapi_Piece)) => joinK (fun (d1 : (List Gfold_unit) → Option (List Gfold_unit)) => rangeG d1 (fold_units_s1 s1 r1) its1 ([] : List Gfold_unit)
) (fun (l4 : List Gfold_unit) => j1 l4
)
) (fun (l1 : List Gfold_unit) => some l1
)
set_option maxRecDepth 100000 in
set_option maxHeartbeats 4000000 in
theorem fold_units_fn {s1 : ByteArray} {r : (List Gfold_unit)} (h : fold_units_v s1 = some r) : Fn Try.prog 24 [.string s1] [] (fun v0 : Value => v0) (fun v0 => [vecN encN_Gfold_unit nest_Gfold_unit 46 5 v0 r]) := by
 unfold fold_units_v at h
 refine Fn.intro Try.func24 rfl Try.ntmps24 (by simp) ?_
 intro w0 K
 refine TC.star0 ?_
 show TC _ _ _ _ _ _ _ _ _ [star ((([] : List Nat) : List Nat).map mark)]
 refine TC.seq (TC.region ?_)
 refine TO.box rfl dc rfl (fun b1 => ?_)
 refine TO.assign rfl dc rfl (TO.nil (TX.next ?_))
 refine TC.scope (β := Unit) (l := 0) (fun _ => False) (fun _ => []) (fun _ => []) rfl ?_ ?_
 ·
  obtain ⟨j1, hj1, h⟩ := joinE h
  refine TC.cutN (β := (List Gfold_unit) × Nat × Hd × (List Nat)) 3 rfl (fun b => j1 b.1 = some r) (fun b => marksOf b.2.2.2) (fun b => [(5, .pointer (some ⟨b.2.1, 0, none⟩))]) (fun b => [cells b.2.1 [b.2.2.1.v] 42, vecN encN_Gfold_unit nest_Gfold_unit 46 5 b.2.2.1.v b.1, star ((b.2.2.2 : List Nat).map mark)]) (fun cut => ?_) ?_
  ·
   refine TC.seq (TC.region ?_)
   obtain ⟨r1, hq1, h⟩ := andE h
   refine TO.call (vs := []) rfl dc rfl rfl rfl en_40 (fold_tables_fn hq1) Splits.nil ?_
   rintro ⟨b3, b4⟩
   show TO _ _ _ _ _ _ _ _ _ _ [star ((([] : List Nat) : List Nat).map mark), cells b1 [.string s1] 9, mapA (fun p : Gfold_pair => Value.agg #[.int .i32 p.e0, .int .i32 p.e1]) (fun n : Int => Value.int .i32 n) b3 r1.1, mapA (fun n : Int => Value.int .i32 n) (fun p : Gfold_pair => Value.agg #[.int .i32 p.e0, .int .i32 p.e1]) b4 r1.2]
   refine TO.weakenL (L' := [star ((([] : List Nat) : List Nat).map mark), cells b1 [.string s1] 9, mapA (fun p : Gfold_pair => Value.agg #[.int .i32 p.e0, .int .i32 p.e1]) (fun n : Int => Value.int .i32 n) b3 r1.1, mapA (fun n : Int => Value.int .i32 n) (fun p : Gfold_pair => Value.agg #[.int .i32 p.e0, .int .i32 p.e1]) b4 r1.2]) (Splits.of [0, 1, 2, 3] kr rfl) ?_
   refine TO.move rfl dc rfl (TO.extract rfl dc rfl rfl (TO.extract rfl dc rfl rfl ?_))
   refine TO.alloc zr_67 rfl dc (fun b5 => ?_)
   refine TO.assign rfl dc rfl ?_
   refine TO.store (k := 4) (l' := [.map (some b4)]) sz_67 rfl rfl rfl rfl rfl (fun _ _ => rfl) rfl ?_
   show TO _ _ _ _ _ _ _ _ _ _ [star ((([] : List Nat) : List Nat).map mark), cells b1 [.string s1] 9, mapA (fun p : Gfold_pair => Value.agg #[.int .i32 p.e0, .int .i32 p.e1]) (fun n : Int => Value.int .i32 n) b3 r1.1, mapA (fun n : Int => Value.int .i32 n) (fun p : Gfold_pair => Value.agg #[.int .i32 p.e0, .int .i32 p.e1]) b4 r1.2, cells b5 [.map (some b4)] 67]
   refine TO.nil (TX.next (TC.seq (TC.region ?_)))
   refine TO.alloc zr_42 rfl dc (fun b6 => ?_)
   refine TO.nil (TX.next (TC.seq (TC.label (TX.next (cut (TC.seq (TC.region (TO.load (k := 1) sc_9 rfl dc rfl rfl rfl ?_))))))))
   obtain ⟨r2, hq2, h⟩ := andE h
   refine TO.call (vs := [.string s1]) rfl dc rfl rfl rfl en_49 (runes_Pieces_fn hq2) Splits.nil ?_
   rintro b7
   show TO _ _ _ _ _ _ _ _ _ _ [star ((([] : List Nat) : List Nat).map mark), cells b1 [.string s1] 9, mapA (fun p : Gfold_pair => Value.agg #[.int .i32 p.e0, .int .i32 p.e1]) (fun n : Int => Value.int .i32 n) b3 r1.1, mapA (fun n : Int => Value.int .i32 n) (fun p : Gfold_pair => Value.agg #[.int .i32 p.e0, .int .i32 p.e1]) b4 r1.2, cells b5 [.map (some b4)] 67, cells b6 [.slice none 0 0] 42, cells b7 [.string r2] 9]
   refine TO.weakenL (L' := [star ((([] : List Nat) : List Nat).map mark), cells b1 [.string s1] 9, mapA (fun p : Gfold_pair => Value.agg #[.int .i32 p.e0, .int .i32 p.e1]) (fun n : Int => Value.int .i32 n) b3 r1.1, mapA (fun n : Int => Value.int .i32 n) (fun p : Gfold_pair => Value.agg #[.int .i32 p.e0, .int .i32 p.e1]) b4 r1.2, cells b5 [.map (some b4)] 67, cells b6 [.slice none 0 0] 42, cells b7 [.string r2] 9]) (Splits.of [0, 1, 2, 3, 4, 5, 6] kr rfl) ?_
   refine TO.nil (TX.next (TC.block ?_))
   obtain ⟨its1, hq3, h⟩ := andE h
   refine TC.newN (enc := encN_Gfold_unit) (nest := nest_Gfold_unit) (e := 46) (size := 5) ?_
   show TC _ _ _ _ _ _ _ _ _ [star ((([] : List Nat) : List Nat).map mark), cells b1 [.string s1] 9, mapA (fun p : Gfold_pair => Value.agg #[.int .i32 p.e0, .int .i32 p.e1]) (fun n : Int => Value.int .i32 n) b3 r1.1, mapA (fun n : Int => Value.int .i32 n) (fun p : Gfold_pair => Value.agg #[.int .i32 p.e0, .int .i32 p.e1]) b4 r1.2, cells b5 [.map (some b4)] 67, cells b6 [.slice none 0 0] 42, cells b7 [.string r2] 9, vecN encN_Gfold_unit nest_Gfold_unit 46 5 (.slice none 0 0) ([] : List Gfold_unit)]
   obtain ⟨d1, hd1, h⟩ := joinE h
   refine TC.range (α := Gapi_Piece) (β := (List Gfold_unit) × Hd) (γ := Unit) (δ := Nat) (ps := [18]) Ro.nil rfl en_73 (runes_Pieces_1_itr hq3) (fun pre b => ∀ post, its1 = pre ++ post → rangeG d1 (fold_units_s1 s1 r1) post b.1 = some r) (fun pre b => [cells b1 [.string s1] 9, cells b5 [.map (some b4)] 67, mapA (fun n : Int => Value.int .i32 n) (fun p : Gfold_pair => Value.agg #[.int .i32 p.e0, .int .i32 p.e1]) b4 r1.2, cells b6 [b.2.v] 42, vecN encN_Gfold_unit nest_Gfold_unit 46 5 b.2.v b.1]) (fun c pre g => False) (fun c pre g => []) (fun pre x b j => [(1, .pointer (some ⟨b1, 0, none⟩)), (2, .slice none 0 0), (4, .pointer (some ⟨b5, 0, none⟩)), (5, .pointer (some ⟨b6, 0, none⟩)), (17, .func (.func 73) #[] #[.pointer (some ⟨b7, 0, none⟩)]), (6, .pointer (some ⟨j, 0, none⟩))]) (fun pre x b j => [cells b1 [.string s1] 9, cells b5 [.map (some b4)] 67, mapA (fun n : Int => Value.int .i32 n) (fun p : Gfold_pair => Value.agg #[.int .i32 p.e0, .int .i32 p.e1]) b4 r1.2, cells b6 [b.2.v] 42, vecN encN_Gfold_unit nest_Gfold_unit 46 5 b.2.v b.1, cells j [.int .i64 x.At, .int .i64 x.Width, .int .i32 x.Rune, .bool x.Broken] 55]) (([] : List Gfold_unit), Hd.nil) (fun post e => by rw [List.nil_append] at e; subst e; exact h) (Splits.of [1, 4, 3, 5, 7] kr rfl) ⟨.inl ⟨6, rfl⟩, trivial⟩ (fun _ => rfl) dc ?_ ?_ ?_ ?_
   ·
    rintro lp rc pre x1 post ⟨l4, hd4⟩ w1 K1 hxs1 hext hro hinv
    refine TC.region ?_
    refine TO.alloc zr_55 rfl dc (fun b8 => ?_)
    refine TO.stores (k := 5) (vs := [.int .i64 x1.At, .int .i64 x1.Width, .int .i32 x1.Rune, .bool x1.Broken]) (l' := [.int .i64 x1.At, .int .i64 x1.Width, .int .i32 x1.Rune, .bool x1.Broken]) sz_55 rfl rfl rfl rfl rfl (show _ ≤ _ by simp) rfl rfl ?_
    show TO _ _ _ _ _ _ _ _ _ _ [cells b1 [.string s1] 9, cells b5 [.map (some b4)] 67, mapA (fun n : Int => Value.int .i32 n) (fun p : Gfold_pair => Value.agg #[.int .i32 p.e0, .int .i32 p.e1]) b4 r1.2, cells b6 [hd4.v] 42, vecN encN_Gfold_unit nest_Gfold_unit 46 5 hd4.v l4, cells b8 [.int .i64 x1.At, .int .i64 x1.Width, .int .i32 x1.Rune, .bool x1.Broken] 55]
    refine TO.nil ?_
    exact fun a w ha hw => ⟨b8, (Sbs.cons rfl (Sbs.cons rfl (Sbs.cons rfl (Sbs.cons rfl (Sbs.cons rfl (Sbs.cons rfl (Sbs.nil))))))) _ _ _ ha, hw.weaken (Splits.of [0, 1, 2, 3, 4, 5] kr rfl)⟩
   ·
    rintro lp rc pre x1 post1 ⟨l4, hd4⟩ jb1 w1 K1 hxs1 hext hro hinv
    have h := hinv (x1 :: post1) hxs1
    obtain ⟨ag1, hag1⟩ : ∃ ag, ag = rangeG d1 (fold_units_s1 s1 r1) post1 := ⟨_, rfl⟩
    have h : fold_units_s1 s1 r1 x1 ag1 l4 = some r := by rw [hag1]; exact h
    unfold fold_units_s1 at h
    show TC _ _ _ _ _ _ _ _ [(1, .pointer (some ⟨b1, 0, none⟩)), (2, .slice none 0 0), (4, .pointer (some ⟨b5, 0, none⟩)), (5, .pointer (some ⟨b6, 0, none⟩)), (17, .func (.func 73) #[] #[.pointer (some ⟨b7, 0, none⟩)]), (6, .pointer (some ⟨jb1, 0, none⟩))] [cells b1 [.string s1] 9, cells b5 [.map (some b4)] 67, mapA (fun n : Int => Value.int .i32 n) (fun p : Gfold_pair => Value.agg #[.int .i32 p.e0, .int .i32 p.e1]) b4 r1.2, cells b6 [hd4.v] 42, vecN encN_Gfold_unit nest_Gfold_unit 46 5 hd4.v l4, cells jb1 [.int .i64 x1.At, .int .i64 x1.Width, .int .i32 x1.Rune, .bool x1.Broken] 55]
    refine TC.block (TC.seq (TC.seq (TC.region (TO.fieldAddr fl_55_3 rfl dc rfl (show _ = 3 from rfl) (TO.load (k := 5) sc_4 rfl dc rfl rfl rfl (TO.nil (TX.next ?_)))))))
    refine TC.condB rfl (fun hb1 => ?_) (fun hb1 => ?_)
    ·
     have h := condT hb1 h
     refine TC.seq ?_
     obtain ⟨c1, hq4, h⟩ := andE h
     obtain ⟨hg1, h⟩ := grdE h
     refine TC.drawB (β := Nat) 9 8 _ [(0, 21, hd4.v), (1, 22, .pointer (some ⟨jb1, 0, none⟩)), (2, 23, .int .i64 x1.At), (3, 24, .string s1), (4, 25, .pointer (some ⟨jb1, 0, none⟩)), (5, 26, .int .i64 x1.At), (6, 27, .int .u8 c1), (7, 28, .agg #[.int .i64 x1.At, .int .u8 c1, .int .i32 (-1), .slice none 0 0, .slice none 0 0])] (fun b9 => [(29, .slice (some ⟨b9, 0, none⟩) 1 1)]) (fun b9 => [cells b1 [.string s1] 9, cells b5 [.map (some b4)] 67, mapA (fun n : Int => Value.int .i32 n) (fun p : Gfold_pair => Value.agg #[.int .i32 p.e0, .int .i32 p.e1]) b4 r1.2, cells b6 [hd4.v] 42, vecN encN_Gfold_unit nest_Gfold_unit 46 5 hd4.v l4, cells jb1 [.int .i64 x1.At, .int .i64 x1.Width, .int .i32 x1.Rune, .bool x1.Broken] 55, cells b9 [.int .i64 x1.At, .int .u8 c1, .int .i32 (-1), .slice none 0 0, .slice none 0 0] 46]) mixed kr kr rfl dc dc (by rfl) kr kr (DrawPreX.cons ?_ (DrawPreX.cons ?_ (DrawPreX.cons ?_ (DrawPreX.cons ?_ (DrawPreX.cons ?_ (DrawPreX.cons ?_ (DrawPreX.cons ?_ (DrawPreX.cons ?_ (DrawPreX.here DrawPreX.nil))))))))) (fun b9 => (DrawPreX.cons ?_ (DrawPreX.cons ?_ (DrawPreX.cons ?_ (DrawPreX.cons ?_ (DrawPreX.cons ?_ (DrawPreX.cons ?_ (DrawPreX.cons ?_ (DrawPreX.cons ?_ (DrawPreX.here DrawPreX.nil)))))))))) ?_ ?_
     ·
      intro D hn hd hcl hu hi
      refine TO.load (k := 3) sc_42 rfl dc (dl_old (by rfl) rfl) rfl rfl ?_
      exact TX.quiet 0 hu hi rfl
     ·
      intro D hn hd hcl hu hi
      refine TO.fieldAddr fl_55_0 rfl dc (dl_old (by rfl) rfl) (show _ = 0 from rfl) ?_
      exact TX.quiet 1 hu hi rfl
     ·
      intro D hn hd hcl hu hi
      refine TO.load (k := 5) sc_3 rfl dc (dl_lookup (m := 1) hu rfl (hd 1 dc)) rfl rfl ?_
      exact TX.quiet 2 hu hi rfl
     ·
      intro D hn hd hcl hu hi
      refine TO.load (k := 0) sc_9 rfl dc (dl_old (by rfl) rfl) rfl rfl ?_
      exact TX.quiet 3 hu hi rfl
     ·
      intro D hn hd hcl hu hi
      refine TO.fieldAddr fl_55_0 rfl dc (dl_old (by rfl) rfl) (show _ = 0 from rfl) ?_
      exact TX.quiet 4 hu hi rfl
     ·
      intro D hn hd hcl hu hi
      refine TO.load (k := 5) sc_3 rfl dc (dl_lookup (m := 4) hu rfl (hd 4 dc)) rfl rfl ?_
      exact TX.quiet 5 hu hi rfl
     ·
      intro D hn hd hcl hu hi
      refine TO.index rfl dc (dl_lookup (m := 3) hu rfl (hd 3 dc)) (dl_lookup (m := 5) hu rfl (hd 5 dc)) (index_stringI Try.underlying9 hq4) ?_
      exact TX.quiet 6 hu hi rfl
     ·
      intro D hn hd hcl hu hi
      refine TO.build (v := .agg #[.int .i64 x1.At, .int .u8 c1, .int .i32 (-1), .slice none 0 0, .slice none 0 0]) (ps := [(0, .tmp 23), (1, .tmp 27), (2, .const (.int .i32 (-1)))]) rfl dc (evP.cons (dl_lookup (m := 2) hu rfl (hd 2 dc)) (evP.cons (dl_lookup (m := 6) hu rfl (hd 6 dc)) (evP.cons rfl evP.nil))) (fun _ => by kernel_rfl) ?_
      exact TX.quiet 7 hu hi rfl
     ·
      intro D hn hd hcl hu hi
      refine TO.load (k := 3) sc_42 rfl dc (dl_old (by rfl) rfl) rfl rfl ?_
      exact TX.quiet 0 hu hi rfl
     ·
      intro D hn hd hcl hu hi
      refine TO.fieldAddr fl_55_0 rfl dc (dl_old (by rfl) rfl) (show _ = 0 from rfl) ?_
      exact TX.quiet 1 hu hi rfl
     ·
      intro D hn hd hcl hu hi
      refine TO.load (k := 5) sc_3 rfl dc (dl_lookup (m := 1) hu rfl (hd 1 dc)) rfl rfl ?_
      exact TX.quiet 2 hu hi rfl
     ·
      intro D hn hd hcl hu hi
      refine TO.load (k := 0) sc_9 rfl dc (dl_old (by rfl) rfl) rfl rfl ?_
      exact TX.quiet 3 hu hi rfl
     ·
      intro D hn hd hcl hu hi
      refine TO.fieldAddr fl_55_0 rfl dc (dl_old (by rfl) rfl) (show _ = 0 from rfl) ?_
      exact TX.quiet 4 hu hi rfl
     ·
      intro D hn hd hcl hu hi
      refine TO.load (k := 5) sc_3 rfl dc (dl_lookup (m := 4) hu rfl (hd 4 dc)) rfl rfl ?_
      exact TX.quiet 5 hu hi rfl
     ·
      intro D hn hd hcl hu hi
      refine TO.index rfl dc (dl_lookup (m := 3) hu rfl (hd 3 dc)) (dl_lookup (m := 5) hu rfl (hd 5 dc)) (index_stringI Try.underlying9 hq4) ?_
      exact TX.quiet 6 hu hi rfl
     ·
      intro D hn hd hcl hu hi
      refine TO.build (v := .agg #[.int .i64 x1.At, .int .u8 c1, .int .i32 (-1), .slice none 0 0, .slice none 0 0]) (ps := [(0, .tmp 23), (1, .tmp 27), (2, .const (.int .i32 (-1)))]) rfl dc (evP.cons (dl_lookup (m := 2) hu rfl (hd 2 dc)) (evP.cons (dl_lookup (m := 6) hu rfl (hd 6 dc)) (evP.cons rfl evP.nil))) (fun _ => by kernel_rfl) ?_
      exact TX.quiet 7 hu hi rfl
     ·
      intro D hn hd hcl
      refine TO.buildSlice (cs := [.int .i64 x1.At, .int .u8 c1, .int .i32 (-1), .slice none 0 0, .slice none 0 0]) (te := 46) (ps := [(0, .tmp 28)]) rfl dc (evP.cons (dl_lookup (m := 7) kr rfl (hd 7 dc)) evP.nil) (fun _ => by kernel_rfl) (fun b9 => ?_)
      exact fun a w ha hw => ⟨b9, Sbs.mid (by rfl) _ _ _ ha, hw⟩
     intro b9
     show TO _ _ _ _ _ _ _ _ _ _ [cells b1 [.string s1] 9, cells b5 [.map (some b4)] 67, mapA (fun n : Int => Value.int .i32 n) (fun p : Gfold_pair => Value.agg #[.int .i32 p.e0, .int .i32 p.e1]) b4 r1.2, cells b6 [hd4.v] 42, vecN encN_Gfold_unit nest_Gfold_unit 46 5 hd4.v l4, cells jb1 [.int .i64 x1.At, .int .i64 x1.Width, .int .i32 x1.Rune, .bool x1.Broken] 55, cells b9 [.int .i64 x1.At, .int .u8 c1, .int .i32 (-1), .slice none 0 0, .slice none 0 0] 46]
     refine TO.newVec (enc := (encI (.i32))) (e := 21) (size := 1) ?_
     show TO _ _ _ _ _ _ _ _ _ _ [cells b1 [.string s1] 9, cells b5 [.map (some b4)] 67, mapA (fun n : Int => Value.int .i32 n) (fun p : Gfold_pair => Value.agg #[.int .i32 p.e0, .int .i32 p.e1]) b4 r1.2, cells b6 [hd4.v] 42, vecN encN_Gfold_unit nest_Gfold_unit 46 5 hd4.v l4, cells jb1 [.int .i64 x1.At, .int .i64 x1.Width, .int .i32 x1.Rune, .bool x1.Broken] 55, cells b9 [.int .i64 x1.At, .int .u8 c1, .int .i32 (-1), .slice none 0 0, .slice none 0 0] 46, vec (encI (.i32)) 21 1 (.slice none 0 0) ([] : List Int)]
     refine TO.newVec (enc := (encI (.i32))) (e := 21) (size := 1) ?_
     show TO _ _ _ _ _ _ _ _ _ _ [cells b1 [.string s1] 9, cells b5 [.map (some b4)] 67, mapA (fun n : Int => Value.int .i32 n) (fun p : Gfold_pair => Value.agg #[.int .i32 p.e0, .int .i32 p.e1]) b4 r1.2, cells b6 [hd4.v] 42, vecN encN_Gfold_unit nest_Gfold_unit 46 5 hd4.v l4, cells jb1 [.int .i64 x1.At, .int .i64 x1.Width, .int .i32 x1.Rune, .bool x1.Broken] 55, cells b9 [.int .i64 x1.At, .int .u8 c1, .int .i32 (-1), .slice none 0 0, .slice none 0 0] 46, vec (encI (.i32)) 21 1 (.slice none 0 0) ([] : List Int), vec (encI (.i32)) 21 1 (.slice none 0 0) ([] : List Int)]
     refine TO.unfold1 (k := 4) rfl openE (fun zs1 hz1 => ?_)
     show TO _ _ _ _ _ _ _ _ _ _ [cells b1 [.string s1] 9, cells b5 [.map (some b4)] 67, mapA (fun n : Int => Value.int .i32 n) (fun p : Gfold_pair => Value.agg #[.int .i32 p.e0, .int .i32 p.e1]) b4 r1.2, cells b6 [hd4.v] 42, vec encN_Gfold_unit 46 5 hd4.v zs1, cells jb1 [.int .i64 x1.At, .int .i64 x1.Width, .int .i32 x1.Rune, .bool x1.Broken] 55, cells b9 [.int .i64 x1.At, .int .u8 c1, .int .i32 (-1), .slice none 0 0, .slice none 0 0] 46, vec (encI (.i32)) 21 1 (.slice none 0 0) ([] : List Int), vec (encI (.i32)) 21 1 (.slice none 0 0) ([] : List Int), own nest_Gfold_unit zs1]
     refine TO.appendVec (k := 4) (k2 := 6) (ys := [((⟨x1.At, c1, (-1), ([] : List Int), ([] : List Int)⟩ : Gfold_unit), (Hd.nil, Hd.nil))]) Try.underlying42 el_46 encN_Gfold_unit_len encN_Gfold_unit_one rfl dc rfl rfl rfl rfl rfl rfl (by rw [zlen hz1]; exact hg1) (fun v1 => ?_)
     show TO _ _ _ _ _ _ _ _ _ _ [cells b1 [.string s1] 9, cells b5 [.map (some b4)] 67, mapA (fun n : Int => Value.int .i32 n) (fun p : Gfold_pair => Value.agg #[.int .i32 p.e0, .int .i32 p.e1]) b4 r1.2, cells b6 [hd4.v] 42, vec encN_Gfold_unit 46 5 v1 (zs1 ++ [((⟨x1.At, c1, (-1), ([] : List Int), ([] : List Int)⟩ : Gfold_unit), (Hd.nil, Hd.nil))]), cells jb1 [.int .i64 x1.At, .int .i64 x1.Width, .int .i32 x1.Rune, .bool x1.Broken] 55, cells b9 [.int .i64 x1.At, .int .u8 c1, .int .i32 (-1), .slice none 0 0, .slice none 0 0] 46, vec (encI (.i32)) 21 1 (.slice none 0 0) ([] : List Int), vec (encI (.i32)) 21 1 (.slice none 0 0) ([] : List Int), own nest_Gfold_unit zs1]
     refine TO.nameHd (k := 4) rfl (fun hd5 he1 => ?_)
     subst he1
     refine TO.fold1 (k := 9) rfl (Splits.of [7, 8] kr rfl) rfl (ownApp (nest := nest_Gfold_unit) (zs := zs1) (z := ((⟨x1.At, c1, (-1), ([] : List Int), ([] : List Int)⟩ : Gfold_unit), (Hd.nil, Hd.nil)))) ?_
     show TO _ _ _ _ _ _ _ _ _ _ [cells b1 [.string s1] 9, cells b5 [.map (some b4)] 67, mapA (fun n : Int => Value.int .i32 n) (fun p : Gfold_pair => Value.agg #[.int .i32 p.e0, .int .i32 p.e1]) b4 r1.2, cells b6 [hd4.v] 42, vec encN_Gfold_unit 46 5 hd5.v (zs1 ++ [((⟨x1.At, c1, (-1), ([] : List Int), ([] : List Int)⟩ : Gfold_unit), (Hd.nil, Hd.nil))]), cells jb1 [.int .i64 x1.At, .int .i64 x1.Width, .int .i32 x1.Rune, .bool x1.Broken] 55, cells b9 [.int .i64 x1.At, .int .u8 c1, .int .i32 (-1), .slice none 0 0, .slice none 0 0] 46, emp, emp, own nest_Gfold_unit (zs1 ++ [((⟨x1.At, c1, (-1), ([] : List Int), ([] : List Int)⟩ : Gfold_unit), (Hd.nil, Hd.nil))])]
     refine TO.fold1 (k := 4) rfl (Splits.of [9] kr rfl) rfl (closeE (enc := encN_Gfold_unit) (nest := nest_Gfold_unit) (zapp hz1)) ?_
     show TO _ _ _ _ _ _ _ _ _ _ [cells b1 [.string s1] 9, cells b5 [.map (some b4)] 67, mapA (fun n : Int => Value.int .i32 n) (fun p : Gfold_pair => Value.agg #[.int .i32 p.e0, .int .i32 p.e1]) b4 r1.2, cells b6 [hd4.v] 42, vecN encN_Gfold_unit nest_Gfold_unit 46 5 hd5.v (l4 ++ [(⟨x1.At, c1, (-1), ([] : List Int), ([] : List Int)⟩ : Gfold_unit)]), cells jb1 [.int .i64 x1.At, .int .i64 x1.Width, .int .i32 x1.Rune, .bool x1.Broken] 55, cells b9 [.int .i64 x1.At, .int .u8 c1, .int .i32 (-1), .slice none 0 0, .slice none 0 0] 46, emp, emp, emp]
     refine TO.weakenL (L' := [cells b1 [.string s1] 9, cells b5 [.map (some b4)] 67, mapA (fun n : Int => Value.int .i32 n) (fun p : Gfold_pair => Value.agg #[.int .i32 p.e0, .int .i32 p.e1]) b4 r1.2, cells b6 [hd4.v] 42, vecN encN_Gfold_unit nest_Gfold_unit 46 5 hd5.v (l4 ++ [(⟨x1.At, c1, (-1), ([] : List Int), ([] : List Int)⟩ : Gfold_unit)]), cells jb1 [.int .i64 x1.At, .int .i64 x1.Width, .int .i32 x1.Rune, .bool x1.Broken] 55, cells b9 [.int .i64 x1.At, .int .u8 c1, .int .i32 (-1), .slice none 0 0, .slice none 0 0] 46]) (Splits.of [0, 1, 2, 3, 4, 5, 6] kr rfl) ?_
     refine TO.store (k := 3) (l' := [hd5.v]) sz_42 rfl rfl rfl rfl rfl (fun _ _ => rfl) rfl ?_
     show TO _ _ _ _ _ _ _ _ _ _ [cells b1 [.string s1] 9, cells b5 [.map (some b4)] 67, mapA (fun n : Int => Value.int .i32 n) (fun p : Gfold_pair => Value.agg #[.int .i32 p.e0, .int .i32 p.e1]) b4 r1.2, cells b6 [hd5.v] 42, vecN encN_Gfold_unit nest_Gfold_unit 46 5 hd5.v (l4 ++ [(⟨x1.At, c1, (-1), ([] : List Int), ([] : List Int)⟩ : Gfold_unit)]), cells jb1 [.int .i64 x1.At, .int .i64 x1.Width, .int .i32 x1.Rune, .bool x1.Broken] 55, cells b9 [.int .i64 x1.At, .int .u8 c1, .int .i32 (-1), .slice none 0 0, .slice none 0 0] 46]
     refine TO.nil (TX.next (TC.exit (TX.thenExit (TX.blockHere ?_))))
     exact TX.round (l4 ++ [(⟨x1.At, c1, (-1), ([] : List Int), ([] : List Int)⟩ : Gfold_unit)], hd5) (fun post2 e2 => by have e9 := snoc_post hxs1 e2; subst e9; subst hag1; exact h) (Splits.of [0, 1, 2, 3, 4] kr rfl)
    ·
     have h := condF hb1 h
     refine TC.skip (TX.next ?_)
     obtain ⟨j2, hj2, h⟩ := joinE h
     refine TC.cutN (β := Unit) 0 rfl (fun b => j2 = some r) (fun b => []) (fun b => [(1, .pointer (some ⟨b1, 0, none⟩)), (2, .slice none 0 0), (4, .pointer (some ⟨b5, 0, none⟩)), (5, .pointer (some ⟨b6, 0, none⟩)), (6, .pointer (some ⟨jb1, 0, none⟩)), (17, .func (.func 73) #[] #[.pointer (some ⟨b7, 0, none⟩)])]) (fun b => [cells b1 [.string s1] 9, cells b5 [.map (some b4)] 67, mapA (fun n : Int => Value.int .i32 n) (fun p : Gfold_pair => Value.agg #[.int .i32 p.e0, .int .i32 p.e1]) b4 r1.2, cells b6 [hd4.v] 42, vecN encN_Gfold_unit nest_Gfold_unit 46 5 hd4.v l4, cells jb1 [.int .i64 x1.At, .int .i64 x1.Width, .int .i32 x1.Rune, .bool x1.Broken] 55]) (fun cut => ?_) ?_
     ·
      refine cut (TC.seq (TC.region (TO.load (k := 3) sc_42 rfl dc rfl rfl rfl (TO.lenVecN (k := 4) rfl dc rfl rfl Try.underlying42 (TO.assign rfl dc rfl (TO.nil (TX.next (TC.seq (TC.region (TO.move rfl dc rfl (TO.bin rfl dc rfl rfl bin_gtr (TO.move rfl dc rfl ?_))))))))))))
      refine TO.split (s := 35) rfl (fun hb2 => ?_) (fun hb2 => ?_)
      ·
       have h := condT hb2 h
       refine TO.load (k := 3) sc_42 rfl dc rfl rfl rfl (TO.move rfl dc rfl ?_)
       obtain ⟨hg2, h⟩ := grdE h
       refine TO.bin rfl dc rfl rfl (bin_sub (r := (l4.length : Int) - 1) (IntWalk.i64_in _ hg2)) ?_
       refine TO.unfold1 (k := 4) rfl openE (fun zs2 hz2 => ?_)
       show TO _ _ _ _ _ _ _ _ _ _ [cells b1 [.string s1] 9, cells b5 [.map (some b4)] 67, mapA (fun n : Int => Value.int .i32 n) (fun p : Gfold_pair => Value.agg #[.int .i32 p.e0, .int .i32 p.e1]) b4 r1.2, cells b6 [hd4.v] 42, vec encN_Gfold_unit 46 5 hd4.v zs2, cells jb1 [.int .i64 x1.At, .int .i64 x1.Width, .int .i32 x1.Rune, .bool x1.Broken] 55, own nest_Gfold_unit zs2]
       obtain ⟨x2, hq5, h⟩ := andE h
       obtain ⟨⟨eh1, eh2⟩, eq1⟩ := getO_z hz2 hq5
       refine TO.indexVecI (k := 4) eq1 Try.underlying42 sz_46 rfl dc rfl rfl rfl rfl (TO.loadsVec (i := ((l4.length : Int) - 1 : Int).toNat) (j := 0) (k := 4) (q := (x2, (eh1, eh2))) (cs := [.int .i64 x2.at_, .int .u8 x2.broken, .int .i32 x2.base, eh1.v, eh2.v]) rw_46 encN_Gfold_unit_len rfl dc rfl rfl (getO_get eq1) rfl rfl rfl ?_)
       refine TO.unfold1 (k := 6) rfl (pullE (getO_get eq1)) (fun _ _ => ?_)
       show TO _ _ _ _ _ _ _ _ _ _ [cells b1 [.string s1] 9, cells b5 [.map (some b4)] 67, mapA (fun n : Int => Value.int .i32 n) (fun p : Gfold_pair => Value.agg #[.int .i32 p.e0, .int .i32 p.e1]) b4 r1.2, cells b6 [hd4.v] 42, vec encN_Gfold_unit 46 5 hd4.v zs2, cells jb1 [.int .i64 x1.At, .int .i64 x1.Width, .int .i32 x1.Rune, .bool x1.Broken] 55, own nest_Gfold_unit (zs2.eraseIdx (((l4.length : Int) - 1 : Int).toNat)), vec (encI (.i32)) 21 1 eh1.v x2.low, vec (encI (.i32)) 21 1 eh2.v x2.high]
       obtain ⟨r3, hq6, h⟩ := andE h
       refine TO.callK (v := .bool r3) (vs := [.agg #[.int .i64 x2.at_, .int .u8 x2.broken, .int .i32 x2.base, eh1.v, eh2.v]]) rfl dc rfl rfl rfl en_42 (fold_unit_letter_fn (u1 := x2) (u1_h0 := eh1) (u1_h1 := eh2) hq6) [7, 8] kr rfl (TO.pick (b := true) rfl dc rfl rfl (TO.move rfl dc rfl ?_))
       refine TO.split (s := 43) rfl (fun hb3 => ?_) (fun hb3 => ?_)
       ·
        have h := condT hb3 h
        refine TO.fieldAddr fl_55_2 rfl dc rfl (show _ = 2 from rfl) (TO.load (k := 5) sc_21 rfl dc rfl rfl rfl ?_)
        obtain ⟨hg3, h⟩ := grdE h
        refine TO.callP (v := .int .i64 (kind x1.Rune)) (vs := [.int .i32 x1.Rune]) rfl dc rfl rfl rfl en_16 (FnP.of_same fun w => kind_any x1.Rune w hg3.1 hg3.2) ?_
        refine TO.bin rfl dc rfl rfl bin_eql (TO.pick (b := true) rfl dc rfl rfl (TO.nil (TX.next ?_)))
        refine TC.condB rfl (fun hb4 => ?_) (fun hb4 => ?_)
        ·
         have h := condT hb4 h
         refine TC.seq (TC.fold1 (k := 6) rfl (Splits.of [7, 8] kr rfl) rfl (pushE (nest := nest_Gfold_unit) (getO_get eq1) rfl) ?_)
         show TC _ _ _ _ _ _ _ _ _ [cells b1 [.string s1] 9, cells b5 [.map (some b4)] 67, mapA (fun n : Int => Value.int .i32 n) (fun p : Gfold_pair => Value.agg #[.int .i32 p.e0, .int .i32 p.e1]) b4 r1.2, cells b6 [hd4.v] 42, vec encN_Gfold_unit 46 5 hd4.v zs2, cells jb1 [.int .i64 x1.At, .int .i64 x1.Width, .int .i32 x1.Rune, .bool x1.Broken] 55, own nest_Gfold_unit zs2, emp, emp]
         obtain ⟨hg4, h⟩ := grdE h
         obtain ⟨x3, hq7, h⟩ := andE h
         obtain ⟨⟨eh3, eh4⟩, eq2⟩ := getO_z hz2 hq7
         obtain ⟨r4, hq8, h⟩ := andE h
         refine TC.drawN 6 [(0, 49, hd4.v), (1, 50, .int .i64 (l4.length : Int)), (2, 51, .int .i64 ((l4.length : Int) - 1)), (3, 52, .pointer (some ⟨vblk hd4.v, ((l4.length : Int) - 1 : Int).toNat * 5, none⟩)), (4, 53, .pointer (some ⟨jb1, 2, none⟩)), (5, 54, .int .i32 x1.Rune)] mixed kr kr dc (by rfl) kr kr (DrawPre.cons ?_ (DrawPre.cons ?_ (DrawPre.cons ?_ (DrawPre.cons ?_ (DrawPre.cons ?_ (DrawPre.cons ?_ DrawPre.nil)))))) ?_
         ·
          intro D hn hd hcl hu hi
          refine TO.load (k := 3) sc_42 rfl dc (dl_old (by rfl) rfl) rfl rfl ?_
          exact TX.quiet 0 hu hi rfl
         ·
          intro D hn hd hcl hu hi
          refine TO.move rfl dc (dl_old (by rfl) rfl) ?_
          exact TX.quiet 1 hu hi rfl
         ·
          intro D hn hd hcl hu hi
          refine TO.bin rfl dc (dl_lookup (m := 1) hu rfl (hd 1 dc)) rfl (bin_sub (r := (l4.length : Int) - 1) (IntWalk.i64_in _ hg4)) ?_
          exact TX.quiet 2 hu hi rfl
         ·
          intro D hn hd hcl hu hi
          refine TO.indexVecI (k := 4) eq2 Try.underlying42 sz_46 rfl dc (dl_lookup (m := 0) hu rfl (hd 0 dc)) (dl_lookup (m := 2) hu rfl (hd 2 dc)) rfl rfl ?_
          exact TX.quiet 3 hu hi rfl
         ·
          intro D hn hd hcl hu hi
          refine TO.fieldAddr fl_55_2 rfl dc (dl_old (by rfl) rfl) (show _ = 2 from rfl) ?_
          exact TX.quiet 4 hu hi rfl
         ·
          intro D hn hd hcl hu hi
          refine TO.load (k := 5) sc_21 rfl dc (dl_lookup (m := 4) hu rfl (hd 4 dc)) rfl rfl ?_
          exact TX.quiet 5 hu hi rfl
         refine TO.unfold1 (k := 6) rfl (pullE (getO_get eq2)) (fun _ _ => ?_)
         show TO _ _ _ _ _ _ _ _ _ _ [cells b1 [.string s1] 9, cells b5 [.map (some b4)] 67, mapA (fun n : Int => Value.int .i32 n) (fun p : Gfold_pair => Value.agg #[.int .i32 p.e0, .int .i32 p.e1]) b4 r1.2, cells b6 [hd4.v] 42, vec encN_Gfold_unit 46 5 hd4.v zs2, cells jb1 [.int .i64 x1.At, .int .i64 x1.Width, .int .i32 x1.Rune, .bool x1.Broken] 55, own nest_Gfold_unit (zs2.eraseIdx (((l4.length : Int) - 1 : Int).toNat)), emp, emp, vec (encI (.i32)) 21 1 eh3.v x3.low, vec (encI (.i32)) 21 1 eh4.v x3.high]
         refine TO.call (vs := [.pointer (some ⟨vblk hd4.v, ((l4.length : Int) - 1 : Int).toNat * 5, none⟩), .int .i32 x1.Rune]) rfl dc rfl rfl rfl en_50 (fold_unit_mark_fn (vu1 := hd4.v) (u1 := x3) (u1_h0 := eh3) (u1_h1 := eh4) (getO_get eq2) hq8) (Splits.of [4, 9, 10] kr rfl) ?_
         rintro ⟨hd6, hd7⟩
         show TO _ _ _ _ _ _ _ _ _ _ [cells b1 [.string s1] 9, cells b5 [.map (some b4)] 67, mapA (fun n : Int => Value.int .i32 n) (fun p : Gfold_pair => Value.agg #[.int .i32 p.e0, .int .i32 p.e1]) b4 r1.2, cells b6 [hd4.v] 42, emp, cells jb1 [.int .i64 x1.At, .int .i64 x1.Width, .int .i32 x1.Rune, .bool x1.Broken] 55, own nest_Gfold_unit (zs2.eraseIdx (((l4.length : Int) - 1 : Int).toNat)), emp, emp, emp, emp, vec encN_Gfold_unit 46 5 hd4.v (zs2.set (((l4.length : Int) - 1 : Int).toNat) (r4, (hd6, hd7))), vec (encI (.i32)) 21 1 hd6.v r4.low, vec (encI (.i32)) 21 1 hd7.v r4.high]
         refine TO.weakenL (L' := [cells b1 [.string s1] 9, cells b5 [.map (some b4)] 67, mapA (fun n : Int => Value.int .i32 n) (fun p : Gfold_pair => Value.agg #[.int .i32 p.e0, .int .i32 p.e1]) b4 r1.2, cells b6 [hd4.v] 42, vec encN_Gfold_unit 46 5 hd4.v (zs2.set (((l4.length : Int) - 1 : Int).toNat) (r4, (hd6, hd7))), cells jb1 [.int .i64 x1.At, .int .i64 x1.Width, .int .i32 x1.Rune, .bool x1.Broken] 55, own nest_Gfold_unit (zs2.eraseIdx (((l4.length : Int) - 1 : Int).toNat)), emp, emp, emp, emp, vec (encI (.i32)) 21 1 hd6.v r4.low, vec (encI (.i32)) 21 1 hd7.v r4.high]) (Splits.of [0, 1, 2, 3, 11, 5, 6, 7, 8, 9, 10, 12, 13] kr rfl) ?_
         refine TO.fold1 (k := 6) rfl (Splits.of [11, 12] kr rfl) rfl (pushE (nest := nest_Gfold_unit) (zs := zs2) (z := (r4, (hd6, hd7))) (set_get (getO_get eq2)) set_erase) ?_
         show TO _ _ _ _ _ _ _ _ _ _ [cells b1 [.string s1] 9, cells b5 [.map (some b4)] 67, mapA (fun n : Int => Value.int .i32 n) (fun p : Gfold_pair => Value.agg #[.int .i32 p.e0, .int .i32 p.e1]) b4 r1.2, cells b6 [hd4.v] 42, vec encN_Gfold_unit 46 5 hd4.v (zs2.set (((l4.length : Int) - 1 : Int).toNat) (r4, (hd6, hd7))), cells jb1 [.int .i64 x1.At, .int .i64 x1.Width, .int .i32 x1.Rune, .bool x1.Broken] 55, own nest_Gfold_unit (zs2.set (((l4.length : Int) - 1 : Int).toNat) (r4, (hd6, hd7))), emp, emp, emp, emp, emp, emp]
         refine TO.weakenL (L' := [cells b1 [.string s1] 9, cells b5 [.map (some b4)] 67, mapA (fun n : Int => Value.int .i32 n) (fun p : Gfold_pair => Value.agg #[.int .i32 p.e0, .int .i32 p.e1]) b4 r1.2, cells b6 [hd4.v] 42, vec encN_Gfold_unit 46 5 hd4.v (zs2.set (((l4.length : Int) - 1 : Int).toNat) (r4, (hd6, hd7))), cells jb1 [.int .i64 x1.At, .int .i64 x1.Width, .int .i32 x1.Rune, .bool x1.Broken] 55, own nest_Gfold_unit (zs2.set (((l4.length : Int) - 1 : Int).toNat) (r4, (hd6, hd7))), emp, emp]) (Splits.of [0, 1, 2, 3, 4, 5, 6, 7, 8] kr rfl) ?_
         refine TO.nil (TX.next (TC.exit (TX.thenExit (TX.blockHere (TX.fold1 (k := 4) rfl (Splits.of [6] kr rfl) rfl (closeE (enc := encN_Gfold_unit) (nest := nest_Gfold_unit) (zset hz2)) ?_)))))
         show TX _ _ _ _ _ _ _ [cells b1 [.string s1] 9, cells b5 [.map (some b4)] 67, mapA (fun n : Int => Value.int .i32 n) (fun p : Gfold_pair => Value.agg #[.int .i32 p.e0, .int .i32 p.e1]) b4 r1.2, cells b6 [hd4.v] 42, vecN encN_Gfold_unit nest_Gfold_unit 46 5 hd4.v (l4.set ((l4.length : Int) - 1 : Int).toNat r4), cells jb1 [.int .i64 x1.At, .int .i64 x1.Width, .int .i32 x1.Rune, .bool x1.Broken] 55, emp, emp, emp]
         exact TX.round (l4.set ((l4.length : Int) - 1 : Int).toNat r4, hd4) (fun post2 e2 => by have e9 := snoc_post hxs1 e2; subst e9; subst hag1; exact h) (Splits.of [0, 1, 2, 3, 4] kr rfl)
        ·
         have h := condF hb4 h
         refine TC.skip (TX.fold1 (k := 6) rfl (Splits.of [7, 8] kr rfl) rfl (pushE (nest := nest_Gfold_unit) (getO_get eq1) rfl) ?_)
         show TX _ _ _ _ _ _ _ [cells b1 [.string s1] 9, cells b5 [.map (some b4)] 67, mapA (fun n : Int => Value.int .i32 n) (fun p : Gfold_pair => Value.agg #[.int .i32 p.e0, .int .i32 p.e1]) b4 r1.2, cells b6 [hd4.v] 42, vec encN_Gfold_unit 46 5 hd4.v zs2, cells jb1 [.int .i64 x1.At, .int .i64 x1.Width, .int .i32 x1.Rune, .bool x1.Broken] 55, own nest_Gfold_unit zs2, emp, emp]
         refine TX.fold1 (k := 4) rfl (Splits.of [6] kr rfl) rfl (closeE (enc := encN_Gfold_unit) (nest := nest_Gfold_unit) hz2) ?_
         show TX _ _ _ _ _ _ _ [cells b1 [.string s1] 9, cells b5 [.map (some b4)] 67, mapA (fun n : Int => Value.int .i32 n) (fun p : Gfold_pair => Value.agg #[.int .i32 p.e0, .int .i32 p.e1]) b4 r1.2, cells b6 [hd4.v] 42, vecN encN_Gfold_unit nest_Gfold_unit 46 5 hd4.v l4, cells jb1 [.int .i64 x1.At, .int .i64 x1.Width, .int .i32 x1.Rune, .bool x1.Broken] 55, emp, emp, emp]
         exact TX.meetD () h rfl (Sbs.cons rfl (Sbs.cons rfl (Sbs.cons rfl (Sbs.cons rfl (Sbs.cons rfl (Sbs.cons rfl (Sbs.nil))))))) (Splits.of [0, 1, 2, 3, 4, 5] kr rfl)
       ·
        have h := condF hb3 h
        refine TO.skip rfl dc (TO.skip rfl dc (TO.skip rfl dc (TO.skip rfl dc (TO.pick (b := false) rfl dc rfl rfl (TO.nil (TX.next (TC.condF rfl (TC.skip (TX.fold1 (k := 6) rfl (Splits.of [7, 8] kr rfl) rfl (pushE (nest := nest_Gfold_unit) (getO_get eq1) rfl) ?_)))))))))
        show TX _ _ _ _ _ _ _ [cells b1 [.string s1] 9, cells b5 [.map (some b4)] 67, mapA (fun n : Int => Value.int .i32 n) (fun p : Gfold_pair => Value.agg #[.int .i32 p.e0, .int .i32 p.e1]) b4 r1.2, cells b6 [hd4.v] 42, vec encN_Gfold_unit 46 5 hd4.v zs2, cells jb1 [.int .i64 x1.At, .int .i64 x1.Width, .int .i32 x1.Rune, .bool x1.Broken] 55, own nest_Gfold_unit zs2, emp, emp]
        refine TX.fold1 (k := 4) rfl (Splits.of [6] kr rfl) rfl (closeE (enc := encN_Gfold_unit) (nest := nest_Gfold_unit) hz2) ?_
        show TX _ _ _ _ _ _ _ [cells b1 [.string s1] 9, cells b5 [.map (some b4)] 67, mapA (fun n : Int => Value.int .i32 n) (fun p : Gfold_pair => Value.agg #[.int .i32 p.e0, .int .i32 p.e1]) b4 r1.2, cells b6 [hd4.v] 42, vecN encN_Gfold_unit nest_Gfold_unit 46 5 hd4.v l4, cells jb1 [.int .i64 x1.At, .int .i64 x1.Width, .int .i32 x1.Rune, .bool x1.Broken] 55, emp, emp, emp]
        exact TX.meetD () h rfl (Sbs.cons rfl (Sbs.cons rfl (Sbs.cons rfl (Sbs.cons rfl (Sbs.cons rfl (Sbs.cons rfl (Sbs.nil))))))) (Splits.of [0, 1, 2, 3, 4, 5] kr rfl)
      ·
       have h := condF hb2 h
       refine TO.skip rfl dc (TO.skip rfl dc (TO.skip rfl dc (TO.skip rfl dc (TO.skip rfl dc (TO.skip rfl dc (TO.pick (b := false) rfl dc rfl rfl (TO.move rfl dc rfl (TO.skip rfl dc (TO.skip rfl dc (TO.skip rfl dc (TO.skip rfl dc (TO.pick (b := false) rfl dc rfl rfl (TO.nil ?_)))))))))))))
       refine TX.next (TC.condF rfl (TC.skip ?_))
       exact TX.meetD () h rfl (Sbs.cons rfl (Sbs.cons rfl (Sbs.cons rfl (Sbs.cons rfl (Sbs.cons rfl (Sbs.cons rfl (Sbs.nil))))))) (Splits.of [0, 1, 2, 3, 4, 5] kr rfl)
     ·
      rintro _ h
      rw [hj2] at h
      show TC _ _ _ _ _ ([]) _ _ [(1, .pointer (some ⟨b1, 0, none⟩)), (2, .slice none 0 0), (4, .pointer (some ⟨b5, 0, none⟩)), (5, .pointer (some ⟨b6, 0, none⟩)), (6, .pointer (some ⟨jb1, 0, none⟩)), (17, .func (.func 73) #[] #[.pointer (some ⟨b7, 0, none⟩)])] [cells b1 [.string s1] 9, cells b5 [.map (some b4)] 67, mapA (fun n : Int => Value.int .i32 n) (fun p : Gfold_pair => Value.agg #[.int .i32 p.e0, .int .i32 p.e1]) b4 r1.2, cells b6 [hd4.v] 42, vecN encN_Gfold_unit nest_Gfold_unit 46 5 hd4.v l4, cells jb1 [.int .i64 x1.At, .int .i64 x1.Width, .int .i32 x1.Rune, .bool x1.Broken] 55]
      obtain ⟨j3, hj3, h⟩ := joinE h
      refine TC.cutN (β := Int × Int × Int × (List Int) × (List Int) × Nat × Hd × Hd) 1 rfl (fun b => j3 b.1 b.2.1 b.2.2.1 b.2.2.2.1 b.2.2.2.2.1 = some r) (fun b => []) (fun b => [(1, .pointer (some ⟨b1, 0, none⟩)), (2, .slice none 0 0), (4, .pointer (some ⟨b5, 0, none⟩)), (5, .pointer (some ⟨b6, 0, none⟩)), (8, .pointer (some ⟨b.2.2.2.2.2.1, 0, none⟩)), (17, .func (.func 73) #[] #[.pointer (some ⟨b7, 0, none⟩)])]) (fun b => [cells b1 [.string s1] 9, cells b5 [.map (some b4)] 67, mapA (fun n : Int => Value.int .i32 n) (fun p : Gfold_pair => Value.agg #[.int .i32 p.e0, .int .i32 p.e1]) b4 r1.2, cells b6 [hd4.v] 42, vecN encN_Gfold_unit nest_Gfold_unit 46 5 hd4.v l4, cells b.2.2.2.2.2.1 [.int .i64 b.1, .int .u8 b.2.1, .int .i32 b.2.2.1, b.2.2.2.2.2.2.1.v, b.2.2.2.2.2.2.2.v] 46, vec (encI (.i32)) 21 1 b.2.2.2.2.2.2.1.v b.2.2.2.1, vec (encI (.i32)) 21 1 b.2.2.2.2.2.2.2.v b.2.2.2.2.1]) (fun cut => ?_) ?_
      ·
       refine TC.seq (TC.region (TO.fieldAddr fl_55_0 rfl dc rfl (show _ = 0 from rfl) (TO.load (k := 5) sc_3 rfl dc rfl rfl rfl (TO.fieldAddr fl_55_2 rfl dc rfl (show _ = 2 from rfl) (TO.load (k := 5) sc_21 rfl dc rfl rfl rfl ?_)))))
       refine TO.build (v := .agg #[.int .i64 x1.At, .int .u8 0, .int .i32 x1.Rune, .slice none 0 0, .slice none 0 0]) (ps := [(0, .tmp 57), (2, .tmp 59)]) rfl dc rfl (fun _ => by kernel_rfl) ?_
       refine TO.alloc zr_46 rfl dc (fun b11 => ?_)
       refine TO.stores (k := 6) (vs := [.int .i64 x1.At, .int .u8 0, .int .i32 x1.Rune, .slice none 0 0, .slice none 0 0]) (l' := [.int .i64 x1.At, .int .u8 0, .int .i32 x1.Rune, .slice none 0 0, .slice none 0 0]) sz_46 rfl rfl rfl rfl rfl (show _ ≤ _ by simp) rfl rfl ?_
       show TO _ _ _ _ _ _ _ _ _ _ [cells b1 [.string s1] 9, cells b5 [.map (some b4)] 67, mapA (fun n : Int => Value.int .i32 n) (fun p : Gfold_pair => Value.agg #[.int .i32 p.e0, .int .i32 p.e1]) b4 r1.2, cells b6 [hd4.v] 42, vecN encN_Gfold_unit nest_Gfold_unit 46 5 hd4.v l4, cells jb1 [.int .i64 x1.At, .int .i64 x1.Width, .int .i32 x1.Rune, .bool x1.Broken] 55, cells b11 [.int .i64 x1.At, .int .u8 0, .int .i32 x1.Rune, .slice none 0 0, .slice none 0 0] 46]
       refine TO.nil (TX.next (cut (TC.seq (TC.region (TO.loads (k := 6) (cs := [.int .i64 x1.At, .int .u8 0, .int .i32 x1.Rune, .slice none 0 0, .slice none 0 0]) rw_46 rfl dc rfl rfl rfl rfl (TO.newVec (enc := (encI (.i32))) (e := 21) (size := 1) ?_))))))
       show TO _ _ _ _ _ _ _ _ _ _ [cells b1 [.string s1] 9, cells b5 [.map (some b4)] 67, mapA (fun n : Int => Value.int .i32 n) (fun p : Gfold_pair => Value.agg #[.int .i32 p.e0, .int .i32 p.e1]) b4 r1.2, cells b6 [hd4.v] 42, vecN encN_Gfold_unit nest_Gfold_unit 46 5 hd4.v l4, cells jb1 [.int .i64 x1.At, .int .i64 x1.Width, .int .i32 x1.Rune, .bool x1.Broken] 55, cells b11 [.int .i64 x1.At, .int .u8 0, .int .i32 x1.Rune, .slice none 0 0, .slice none 0 0] 46, vec (encI (.i32)) 21 1 (.slice none 0 0) ([] : List Int)]
       refine TO.newVec (enc := (encI (.i32))) (e := 21) (size := 1) ?_
       show TO _ _ _ _ _ _ _ _ _ _ [cells b1 [.string s1] 9, cells b5 [.map (some b4)] 67, mapA (fun n : Int => Value.int .i32 n) (fun p : Gfold_pair => Value.agg #[.int .i32 p.e0, .int .i32 p.e1]) b4 r1.2, cells b6 [hd4.v] 42, vecN encN_Gfold_unit nest_Gfold_unit 46 5 hd4.v l4, cells jb1 [.int .i64 x1.At, .int .i64 x1.Width, .int .i32 x1.Rune, .bool x1.Broken] 55, cells b11 [.int .i64 x1.At, .int .u8 0, .int .i32 x1.Rune, .slice none 0 0, .slice none 0 0] 46, vec (encI (.i32)) 21 1 (.slice none 0 0) ([] : List Int), vec (encI (.i32)) 21 1 (.slice none 0 0) ([] : List Int)]
       obtain ⟨r5, hq9, h⟩ := andE h
       refine TO.callK (v := .bool r5) (vs := [.agg #[.int .i64 x1.At, .int .u8 0, .int .i32 x1.Rune, .slice none 0 0, .slice none 0 0]]) rfl dc rfl rfl rfl en_42 (fold_unit_letter_fn (u1 := (⟨x1.At, 0, x1.Rune, ([] : List Int), ([] : List Int)⟩ : Gfold_unit)) (u1_h0 := Hd.nil) (u1_h1 := Hd.nil) hq9) [7, 8] kr rfl (TO.nil (TX.next ?_))
       refine TC.condB rfl (fun hb5 => ?_) (fun hb5 => ?_)
       ·
        have h := condT hb5 h
        refine TC.seq (TC.region (TO.load (k := 1) sc_67 rfl dc rfl rfl rfl (TO.fieldAddr fl_55_2 rfl dc rfl (show _ = 2 from rfl) (TO.load (k := 5) sc_21 rfl dc rfl rfl rfl ?_))))
        obtain ⟨r6, hq10, h⟩ := andE h
        refine TO.call (vs := [.map (some b4), .int .i32 x1.Rune]) rfl dc rfl rfl rfl en_51 (fold_parted_fn hq10) (Splits.of [2] kr rfl) ?_
        rintro v2
        show TO _ _ _ _ _ _ _ _ _ _ [cells b1 [.string s1] 9, cells b5 [.map (some b4)] 67, emp, cells b6 [hd4.v] 42, vecN encN_Gfold_unit nest_Gfold_unit 46 5 hd4.v l4, cells jb1 [.int .i64 x1.At, .int .i64 x1.Width, .int .i32 x1.Rune, .bool x1.Broken] 55, cells b11 [.int .i64 x1.At, .int .u8 0, .int .i32 x1.Rune, .slice none 0 0, .slice none 0 0] 46, vec (encI (.i32)) 21 1 (.slice none 0 0) ([] : List Int), vec (encI (.i32)) 21 1 (.slice none 0 0) ([] : List Int), mapA (fun n : Int => Value.int .i32 n) (fun p : Gfold_pair => Value.agg #[.int .i32 p.e0, .int .i32 p.e1]) b4 r1.2, vec (encI (.i32)) 21 1 v2 r6]
        refine TO.weakenL (L' := [cells b1 [.string s1] 9, cells b5 [.map (some b4)] 67, mapA (fun n : Int => Value.int .i32 n) (fun p : Gfold_pair => Value.agg #[.int .i32 p.e0, .int .i32 p.e1]) b4 r1.2, cells b6 [hd4.v] 42, vecN encN_Gfold_unit nest_Gfold_unit 46 5 hd4.v l4, cells jb1 [.int .i64 x1.At, .int .i64 x1.Width, .int .i32 x1.Rune, .bool x1.Broken] 55, cells b11 [.int .i64 x1.At, .int .u8 0, .int .i32 x1.Rune, .slice none 0 0, .slice none 0 0] 46, vec (encI (.i32)) 21 1 (.slice none 0 0) ([] : List Int), vec (encI (.i32)) 21 1 (.slice none 0 0) ([] : List Int), vec (encI (.i32)) 21 1 v2 r6]) (Splits.of [0, 1, 9, 3, 4, 5, 6, 7, 8, 10] kr rfl) ?_
        refine TO.nameHd (k := 9) rfl (fun hd10 he2 => ?_)
        subst he2
        refine TO.assign rfl dc rfl (TO.nil (TX.next (TC.seq (TC.region (TO.move rfl dc rfl ?_)))))
        obtain ⟨q1, hq11, h⟩ := andE h
        refine TO.indexVecI (k := 9) hq11 Try.underlying44 sz_21 rfl dc rfl rfl rfl rfl (TO.loadVec (i := (0 : Int).toNat) (j := 0) (k := 9) (q := q1) sc_21 encI_len rfl dc rfl rfl (getO_get hq11) rfl dc rfl (TO.fieldAddr fl_46_2 rfl dc rfl (show _ = 2 from rfl) ?_))
        refine TO.store (k := 6) (l' := [.int .i64 x1.At, .int .u8 0, .int .i32 q1, .slice none 0 0, .slice none 0 0]) sz_21 rfl rfl rfl rfl rfl (fun _ _ => rfl) rfl ?_
        refine TO.nil (TX.next (TC.seq (TC.region (TO.move rfl dc rfl ?_))))
        refine TO.vecVw (k := 9) rfl (fun hw1 => ?_)
        obtain ⟨hg5, h⟩ := grdE h
        obtain ⟨v3, hv1, hs1⟩ := slice_Vw (lo := some (.int .i64 1)) (hi := none) hw1 Try.underlying44 sz_21 (.inr rfl) (.inl ⟨rfl, rfl⟩) hg5
        refine TO.slice rfl dc rfl rfl rfl hs1 (TO.lenVw hv1 rfl dc rfl Try.underlying44 (TO.move rfl dc rfl (TO.nil (TX.next (TC.block (TC.newVec (enc := (encI (.i32))) (e := 21) (size := 1) ?_))))))
        show TC _ _ _ _ _ _ _ _ _ [cells b1 [.string s1] 9, cells b5 [.map (some b4)] 67, mapA (fun n : Int => Value.int .i32 n) (fun p : Gfold_pair => Value.agg #[.int .i32 p.e0, .int .i32 p.e1]) b4 r1.2, cells b6 [hd4.v] 42, vecN encN_Gfold_unit nest_Gfold_unit 46 5 hd4.v l4, cells jb1 [.int .i64 x1.At, .int .i64 x1.Width, .int .i32 x1.Rune, .bool x1.Broken] 55, cells b11 [.int .i64 x1.At, .int .u8 0, .int .i32 q1, .slice none 0 0, .slice none 0 0] 46, vec (encI (.i32)) 21 1 (.slice none 0 0) ([] : List Int), vec (encI (.i32)) 21 1 (.slice none 0 0) ([] : List Int), vec (encI (.i32)) 21 1 hd10.v r6, vec (encI (.i32)) 21 1 (.slice none 0 0) ([] : List Int)]
        refine TC.newVec (enc := (encI (.i32))) (e := 21) (size := 1) ?_
        show TC _ _ _ _ _ _ _ _ _ [cells b1 [.string s1] 9, cells b5 [.map (some b4)] 67, mapA (fun n : Int => Value.int .i32 n) (fun p : Gfold_pair => Value.agg #[.int .i32 p.e0, .int .i32 p.e1]) b4 r1.2, cells b6 [hd4.v] 42, vecN encN_Gfold_unit nest_Gfold_unit 46 5 hd4.v l4, cells jb1 [.int .i64 x1.At, .int .i64 x1.Width, .int .i32 x1.Rune, .bool x1.Broken] 55, cells b11 [.int .i64 x1.At, .int .u8 0, .int .i32 q1, (.slice none 0 0), .slice none 0 0] 46, vec (encI (.i32)) 21 1 (.slice none 0 0) ([] : List Int), vec (encI (.i32)) 21 1 (.slice none 0 0) ([] : List Int), vec (encI (.i32)) 21 1 hd10.v r6, vec (encI (.i32)) 21 1 (.slice none 0 0) ([] : List Int), vec (encI (.i32)) 21 1 (.slice none 0 0) ([] : List Int)]
        refine TC.loopD (β := Nat × Int × Int × Int × (List Int) × (List Int) × Int × Hd × Hd) (fun b => loopG (fun _ _ _ _ _ _ => none) (fold_units_s2 j3 r6) b.1 b.2.1 b.2.2.1 b.2.2.2.1 b.2.2.2.2.1 b.2.2.2.2.2.1 b.2.2.2.2.2.2.1 = some r) (fun b => []) (fun b => [(1, .pointer (some ⟨b1, 0, none⟩)), (2, .slice none 0 0), (4, .pointer (some ⟨b5, 0, none⟩)), (5, .pointer (some ⟨b6, 0, none⟩)), (8, .pointer (some ⟨b11, 0, none⟩)), (17, .func (.func 73) #[] #[.pointer (some ⟨b7, 0, none⟩)]), (72, v3), (73, .int .i64 ((cutL r6 1 (r6.length : Int)).length : Int)), (74, .int .i64 b.2.2.2.2.2.2.1)]) (fun b => [cells b1 [.string s1] 9, cells b5 [.map (some b4)] 67, mapA (fun n : Int => Value.int .i32 n) (fun p : Gfold_pair => Value.agg #[.int .i32 p.e0, .int .i32 p.e1]) b4 r1.2, cells b6 [hd4.v] 42, vecN encN_Gfold_unit nest_Gfold_unit 46 5 hd4.v l4, cells b11 [.int .i64 b.2.1, .int .u8 b.2.2.1, .int .i32 b.2.2.2.1, b.2.2.2.2.2.2.2.1.v, b.2.2.2.2.2.2.2.2.v] 46, vec (encI (.i32)) 21 1 b.2.2.2.2.2.2.2.1.v b.2.2.2.2.1, vec (encI (.i32)) 21 1 b.2.2.2.2.2.2.2.2.v b.2.2.2.2.2.1, vec (encI (.i32)) 21 1 hd10.v r6]) (fun b => b.1) (fuel, x1.At, 0, q1, ([] : List Int), ([] : List Int), 0, Hd.nil, Hd.nil) h rfl (Sbs.cons rfl (Sbs.cons rfl (Sbs.cons rfl (Sbs.cons rfl (Sbs.cons rfl (Sbs.cons rfl (Sbs.cons rfl (Sbs.cons rfl (Sbs.cons rfl (Sbs.nil)))))))))) (Splits.of [0, 1, 2, 3, 4, 6, 10, 11, 9] kr rfl) ?_
        rintro ⟨n1, u23, u24, u25, u26, u27, x6, hd16, hd17⟩ h
        cases n1 with
        | zero => exact noneE h
        | succ n1 =>
         obtain ⟨ag2, hag2⟩ : ∃ ag, ag = loopG (fun _ _ _ _ _ _ => none) (fold_units_s2 j3 r6) n1 := ⟨_, rfl⟩
         have h : fold_units_s2 j3 r6 ag2 u23 u24 u25 u26 u27 x6 = some r := by rw [hag2]; exact h
         unfold fold_units_s2 at h
         show TC _ _ _ _ _ ([]) _ _ [(1, .pointer (some ⟨b1, 0, none⟩)), (2, .slice none 0 0), (4, .pointer (some ⟨b5, 0, none⟩)), (5, .pointer (some ⟨b6, 0, none⟩)), (8, .pointer (some ⟨b11, 0, none⟩)), (17, .func (.func 73) #[] #[.pointer (some ⟨b7, 0, none⟩)]), (72, v3), (73, .int .i64 ((cutL r6 1 (r6.length : Int)).length : Int)), (74, .int .i64 x6)] [cells b1 [.string s1] 9, cells b5 [.map (some b4)] 67, mapA (fun n : Int => Value.int .i32 n) (fun p : Gfold_pair => Value.agg #[.int .i32 p.e0, .int .i32 p.e1]) b4 r1.2, cells b6 [hd4.v] 42, vecN encN_Gfold_unit nest_Gfold_unit 46 5 hd4.v l4, cells b11 [.int .i64 u23, .int .u8 u24, .int .i32 u25, hd16.v, hd17.v] 46, vec (encI (.i32)) 21 1 hd16.v u26, vec (encI (.i32)) 21 1 hd17.v u27, vec (encI (.i32)) 21 1 hd10.v r6]
         refine TC.seq (TC.region (TO.bin rfl dc rfl rfl bin_lss (TO.nil (TX.next (TC.seq ?_)))))
         refine TC.condB rfl (fun hb6 => ?_) (fun hb6 => ?_)
         ·
          have h := condT hb6 h
          refine TC.skip (TX.next (TC.seq (TC.block (TC.seq (TC.region ?_)))))
          obtain ⟨q2, hq12, h⟩ := andE h
          refine TO.indexVw hv1 hq12 Try.underlying44 sz_21 rfl dc rfl rfl rfl (TO.loadVec (i := 0 + (1 : Int).toNat + (x6 : Int).toNat) (j := 0) (k := 8) (q := q2) sc_21 encI_len rfl dc rfl rfl (Vw.get hv1 hq12) rfl dc rfl (TO.assign rfl dc rfl (TO.nil (TX.next (TC.region (TO.move rfl dc rfl (TO.toVec (enc := encN_Gfold_unit) [((⟨u23, u24, u25, u26, u27⟩ : Gfold_unit), (hd16, hd17))] (k := 5) rfl encN_Gfold_unit_len rfl (show 1 ≤ maxLen by decide) ?_)))))))
          show TO _ _ _ _ _ _ _ _ _ _ [cells b1 [.string s1] 9, cells b5 [.map (some b4)] 67, mapA (fun n : Int => Value.int .i32 n) (fun p : Gfold_pair => Value.agg #[.int .i32 p.e0, .int .i32 p.e1]) b4 r1.2, cells b6 [hd4.v] 42, vecN encN_Gfold_unit nest_Gfold_unit 46 5 hd4.v l4, vec encN_Gfold_unit 46 5 (.slice (some ⟨b11, 0, none⟩) 1 1) [((⟨u23, u24, u25, u26, u27⟩ : Gfold_unit), (hd16, hd17))], vec (encI (.i32)) 21 1 hd16.v u26, vec (encI (.i32)) 21 1 hd17.v u27, vec (encI (.i32)) 21 1 hd10.v r6]
          obtain ⟨r7, hq13, h⟩ := andE h
          refine TO.call (vs := [.pointer (some ⟨b11, 0, none⟩), .int .i32 q2]) rfl dc rfl rfl rfl en_50 (fold_unit_mark_fn (vu1 := (.slice (some ⟨b11, 0, none⟩) 1 1)) (u1 := (⟨u23, u24, u25, u26, u27⟩ : Gfold_unit)) (u1_h0 := hd16) (u1_h1 := hd17) (show [((⟨u23, u24, u25, u26, u27⟩ : Gfold_unit), (hd16, hd17))][0]? = some ((⟨u23, u24, u25, u26, u27⟩ : Gfold_unit), (hd16, hd17)) from rfl) hq13) (Splits.of [5, 6, 7] kr rfl) ?_
          rintro ⟨hd18, hd19⟩
          show TO _ _ _ _ _ _ _ _ _ _ [cells b1 [.string s1] 9, cells b5 [.map (some b4)] 67, mapA (fun n : Int => Value.int .i32 n) (fun p : Gfold_pair => Value.agg #[.int .i32 p.e0, .int .i32 p.e1]) b4 r1.2, cells b6 [hd4.v] 42, vecN encN_Gfold_unit nest_Gfold_unit 46 5 hd4.v l4, emp, emp, emp, vec (encI (.i32)) 21 1 hd10.v r6, vec encN_Gfold_unit 46 5 (.slice (some ⟨b11, 0, none⟩) 1 1) [(r7, (hd18, hd19))], vec (encI (.i32)) 21 1 hd18.v r7.low, vec (encI (.i32)) 21 1 hd19.v r7.high]
          refine TO.weakenL (L' := [cells b1 [.string s1] 9, cells b5 [.map (some b4)] 67, mapA (fun n : Int => Value.int .i32 n) (fun p : Gfold_pair => Value.agg #[.int .i32 p.e0, .int .i32 p.e1]) b4 r1.2, cells b6 [hd4.v] 42, vecN encN_Gfold_unit nest_Gfold_unit 46 5 hd4.v l4, vec encN_Gfold_unit 46 5 (.slice (some ⟨b11, 0, none⟩) 1 1) [(r7, (hd18, hd19))], emp, emp, vec (encI (.i32)) 21 1 hd10.v r6, vec (encI (.i32)) 21 1 hd18.v r7.low, vec (encI (.i32)) 21 1 hd19.v r7.high]) (Splits.of [0, 1, 2, 3, 4, 9, 6, 7, 8, 10, 11] kr rfl) ?_
          refine TO.ent (k := 5) rfl (boxE encN_Gfold_unit_len) ?_
          show TO _ _ _ _ _ _ _ _ _ _ [cells b1 [.string s1] 9, cells b5 [.map (some b4)] 67, mapA (fun n : Int => Value.int .i32 n) (fun p : Gfold_pair => Value.agg #[.int .i32 p.e0, .int .i32 p.e1]) b4 r1.2, cells b6 [hd4.v] 42, vecN encN_Gfold_unit nest_Gfold_unit 46 5 hd4.v l4, cells b11 [.int .i64 r7.at_, .int .u8 r7.broken, .int .i32 r7.base, hd18.v, hd19.v] 46, emp, emp, vec (encI (.i32)) 21 1 hd10.v r6, vec (encI (.i32)) 21 1 hd18.v r7.low, vec (encI (.i32)) 21 1 hd19.v r7.high]
          refine TO.nil (TX.blockNormal (TX.next (TC.region ?_)))
          obtain ⟨hg6, h⟩ := grdE h
          refine TO.bin rfl dc rfl rfl (bin_add (r := x6 + 1) (IntWalk.i64_in _ hg6)) (TO.move rfl dc rfl (TO.nil ?_))
          subst hag2
          exact TX.againD (n1, r7.at_, r7.broken, r7.base, r7.low, r7.high, x6 + 1, hd18, hd19) h (Nat.lt_succ_self _) rfl (Sbs.cons rfl (Sbs.cons rfl (Sbs.cons rfl (Sbs.cons rfl (Sbs.cons rfl (Sbs.cons rfl (Sbs.cons rfl (Sbs.cons rfl (Sbs.cons rfl (Sbs.nil)))))))))) (Splits.of [0, 1, 2, 3, 4, 5, 9, 10, 8] kr rfl)
         ·
          have h := condF hb6 h
          refine TC.exit (TX.thenExit (TX.thenExit (TX.blockHere ?_)))
          exact TX.meetD (u23, u24, u25, u26, u27, b11, hd16, hd17) h rfl (Sbs.cons rfl (Sbs.cons rfl (Sbs.cons rfl (Sbs.cons rfl (Sbs.cons rfl (Sbs.cons rfl (Sbs.nil))))))) (Splits.of [0, 1, 2, 3, 4, 5, 6, 7] kr rfl)
       ·
        have h := condF hb5 h
        refine TC.skip (TX.newVec (enc := (encI (.i32))) (e := 21) (size := 1) ?_)
        show TX _ _ _ _ _ _ _ [cells b1 [.string s1] 9, cells b5 [.map (some b4)] 67, mapA (fun n : Int => Value.int .i32 n) (fun p : Gfold_pair => Value.agg #[.int .i32 p.e0, .int .i32 p.e1]) b4 r1.2, cells b6 [hd4.v] 42, vecN encN_Gfold_unit nest_Gfold_unit 46 5 hd4.v l4, cells jb1 [.int .i64 x1.At, .int .i64 x1.Width, .int .i32 x1.Rune, .bool x1.Broken] 55, cells b11 [.int .i64 x1.At, .int .u8 0, .int .i32 x1.Rune, .slice none 0 0, .slice none 0 0] 46, vec (encI (.i32)) 21 1 (.slice none 0 0) ([] : List Int), vec (encI (.i32)) 21 1 (.slice none 0 0) ([] : List Int), vec (encI (.i32)) 21 1 (.slice none 0 0) ([] : List Int)]
        refine TX.newVec (enc := (encI (.i32))) (e := 21) (size := 1) ?_
        show TX _ _ _ _ _ _ _ [cells b1 [.string s1] 9, cells b5 [.map (some b4)] 67, mapA (fun n : Int => Value.int .i32 n) (fun p : Gfold_pair => Value.agg #[.int .i32 p.e0, .int .i32 p.e1]) b4 r1.2, cells b6 [hd4.v] 42, vecN encN_Gfold_unit nest_Gfold_unit 46 5 hd4.v l4, cells jb1 [.int .i64 x1.At, .int .i64 x1.Width, .int .i32 x1.Rune, .bool x1.Broken] 55, cells b11 [.int .i64 x1.At, .int .u8 0, .int .i32 x1.Rune, (.slice none 0 0), .slice none 0 0] 46, vec (encI (.i32)) 21 1 (.slice none 0 0) ([] : List Int), vec (encI (.i32)) 21 1 (.slice none 0 0) ([] : List Int), vec (encI (.i32)) 21 1 (.slice none 0 0) ([] : List Int), vec (encI (.i32)) 21 1 (.slice none 0 0) ([] : List Int)]
        exact TX.meetD (x1.At, 0, x1.Rune, ([] : List Int), ([] : List Int), b11, Hd.nil, Hd.nil) h rfl (Sbs.cons rfl (Sbs.cons rfl (Sbs.cons rfl (Sbs.cons rfl (Sbs.cons rfl (Sbs.cons rfl (Sbs.nil))))))) (Splits.of [0, 1, 2, 3, 4, 6, 9, 10] kr rfl)
      ·
       rintro ⟨u1, u2, u3, u4, u5, b10, hd8, hd9⟩ h
       rw [hj3] at h
       show TC _ _ _ _ _ ([]) _ _ [(1, .pointer (some ⟨b1, 0, none⟩)), (2, .slice none 0 0), (4, .pointer (some ⟨b5, 0, none⟩)), (5, .pointer (some ⟨b6, 0, none⟩)), (8, .pointer (some ⟨b10, 0, none⟩)), (17, .func (.func 73) #[] #[.pointer (some ⟨b7, 0, none⟩)])] [cells b1 [.string s1] 9, cells b5 [.map (some b4)] 67, mapA (fun n : Int => Value.int .i32 n) (fun p : Gfold_pair => Value.agg #[.int .i32 p.e0, .int .i32 p.e1]) b4 r1.2, cells b6 [hd4.v] 42, vecN encN_Gfold_unit nest_Gfold_unit 46 5 hd4.v l4, cells b10 [.int .i64 u1, .int .u8 u2, .int .i32 u3, hd8.v, hd9.v] 46, vec (encI (.i32)) 21 1 hd8.v u4, vec (encI (.i32)) 21 1 hd9.v u5]
       refine TC.region (TO.load (k := 3) sc_42 rfl dc rfl rfl rfl (TO.loads (k := 5) (cs := [.int .i64 u1, .int .u8 u2, .int .i32 u3, hd8.v, hd9.v]) rw_46 rfl dc rfl rfl rfl rfl ?_))
       refine TO.buildSlice (cs := [.int .i64 u1, .int .u8 u2, .int .i32 u3, hd8.v, hd9.v]) (te := 46) (ps := [(0, .tmp 82)]) rfl dc rfl (fun _ => by kernel_rfl) (fun b12 => ?_)
       refine TO.unfold1 (k := 4) rfl openE (fun zs3 hz3 => ?_)
       show TO _ _ _ _ _ _ _ _ _ _ [cells b1 [.string s1] 9, cells b5 [.map (some b4)] 67, mapA (fun n : Int => Value.int .i32 n) (fun p : Gfold_pair => Value.agg #[.int .i32 p.e0, .int .i32 p.e1]) b4 r1.2, cells b6 [hd4.v] 42, vec encN_Gfold_unit 46 5 hd4.v zs3, cells b10 [.int .i64 u1, .int .u8 u2, .int .i32 u3, hd8.v, hd9.v] 46, vec (encI (.i32)) 21 1 hd8.v u4, vec (encI (.i32)) 21 1 hd9.v u5, cells b12 [.int .i64 u1, .int .u8 u2, .int .i32 u3, hd8.v, hd9.v] 46, own nest_Gfold_unit zs3]
       obtain ⟨hg7, h⟩ := grdE h
       refine TO.appendVec (k := 4) (k2 := 8) (ys := [((⟨u1, u2, u3, u4, u5⟩ : Gfold_unit), (hd8, hd9))]) Try.underlying42 el_46 encN_Gfold_unit_len encN_Gfold_unit_one rfl dc rfl rfl rfl rfl rfl rfl (by rw [zlen hz3]; exact hg7) (fun v4 => ?_)
       show TO _ _ _ _ _ _ _ _ _ _ [cells b1 [.string s1] 9, cells b5 [.map (some b4)] 67, mapA (fun n : Int => Value.int .i32 n) (fun p : Gfold_pair => Value.agg #[.int .i32 p.e0, .int .i32 p.e1]) b4 r1.2, cells b6 [hd4.v] 42, vec encN_Gfold_unit 46 5 v4 (zs3 ++ [((⟨u1, u2, u3, u4, u5⟩ : Gfold_unit), (hd8, hd9))]), cells b10 [.int .i64 u1, .int .u8 u2, .int .i32 u3, hd8.v, hd9.v] 46, vec (encI (.i32)) 21 1 hd8.v u4, vec (encI (.i32)) 21 1 hd9.v u5, cells b12 [.int .i64 u1, .int .u8 u2, .int .i32 u3, hd8.v, hd9.v] 46, own nest_Gfold_unit zs3]
       refine TO.nameHd (k := 4) rfl (fun hd20 he3 => ?_)
       subst he3
       refine TO.fold1 (k := 9) rfl (Splits.of [6, 7] kr rfl) rfl (ownApp (nest := nest_Gfold_unit) (zs := zs3) (z := ((⟨u1, u2, u3, u4, u5⟩ : Gfold_unit), (hd8, hd9)))) ?_
       show TO _ _ _ _ _ _ _ _ _ _ [cells b1 [.string s1] 9, cells b5 [.map (some b4)] 67, mapA (fun n : Int => Value.int .i32 n) (fun p : Gfold_pair => Value.agg #[.int .i32 p.e0, .int .i32 p.e1]) b4 r1.2, cells b6 [hd4.v] 42, vec encN_Gfold_unit 46 5 hd20.v (zs3 ++ [((⟨u1, u2, u3, u4, u5⟩ : Gfold_unit), (hd8, hd9))]), cells b10 [.int .i64 u1, .int .u8 u2, .int .i32 u3, hd8.v, hd9.v] 46, emp, emp, cells b12 [.int .i64 u1, .int .u8 u2, .int .i32 u3, hd8.v, hd9.v] 46, own nest_Gfold_unit (zs3 ++ [((⟨u1, u2, u3, u4, u5⟩ : Gfold_unit), (hd8, hd9))])]
       refine TO.fold1 (k := 4) rfl (Splits.of [9] kr rfl) rfl (closeE (enc := encN_Gfold_unit) (nest := nest_Gfold_unit) (zapp hz3)) ?_
       show TO _ _ _ _ _ _ _ _ _ _ [cells b1 [.string s1] 9, cells b5 [.map (some b4)] 67, mapA (fun n : Int => Value.int .i32 n) (fun p : Gfold_pair => Value.agg #[.int .i32 p.e0, .int .i32 p.e1]) b4 r1.2, cells b6 [hd4.v] 42, vecN encN_Gfold_unit nest_Gfold_unit 46 5 hd20.v (l4 ++ [(⟨u1, u2, u3, u4, u5⟩ : Gfold_unit)]), cells b10 [.int .i64 u1, .int .u8 u2, .int .i32 u3, hd8.v, hd9.v] 46, emp, emp, cells b12 [.int .i64 u1, .int .u8 u2, .int .i32 u3, hd8.v, hd9.v] 46, emp]
       refine TO.weakenL (L' := [cells b1 [.string s1] 9, cells b5 [.map (some b4)] 67, mapA (fun n : Int => Value.int .i32 n) (fun p : Gfold_pair => Value.agg #[.int .i32 p.e0, .int .i32 p.e1]) b4 r1.2, cells b6 [hd4.v] 42, vecN encN_Gfold_unit nest_Gfold_unit 46 5 hd20.v (l4 ++ [(⟨u1, u2, u3, u4, u5⟩ : Gfold_unit)]), cells b10 [.int .i64 u1, .int .u8 u2, .int .i32 u3, hd8.v, hd9.v] 46, emp, emp, cells b12 [.int .i64 u1, .int .u8 u2, .int .i32 u3, hd8.v, hd9.v] 46]) (Splits.of [0, 1, 2, 3, 4, 5, 6, 7, 8] kr rfl) ?_
       refine TO.store (k := 3) (l' := [hd20.v]) sz_42 rfl rfl rfl rfl rfl (fun _ _ => rfl) rfl ?_
       show TO _ _ _ _ _ _ _ _ _ _ [cells b1 [.string s1] 9, cells b5 [.map (some b4)] 67, mapA (fun n : Int => Value.int .i32 n) (fun p : Gfold_pair => Value.agg #[.int .i32 p.e0, .int .i32 p.e1]) b4 r1.2, cells b6 [hd20.v] 42, vecN encN_Gfold_unit nest_Gfold_unit 46 5 hd20.v (l4 ++ [(⟨u1, u2, u3, u4, u5⟩ : Gfold_unit)]), cells b10 [.int .i64 u1, .int .u8 u2, .int .i32 u3, hd8.v, hd9.v] 46, emp, emp, cells b12 [.int .i64 u1, .int .u8 u2, .int .i32 u3, hd8.v, hd9.v] 46]
       refine TO.nil (TX.blockNormal ?_)
       exact TX.round (l4 ++ [(⟨u1, u2, u3, u4, u5⟩ : Gfold_unit)], hd20) (fun post2 e2 => by have e9 := snoc_post hxs1 e2; subst e9; subst hag1; exact h) (Splits.of [0, 1, 2, 3, 4] kr rfl)
   ·
    rintro dm1 ⟨l4, hd4⟩ hinv
    have h : d1 l4 = some r := hinv [] (List.append_nil _).symm
    rw [hd1] at h
    show TX _ _ _ _ _ _ _ [star ((([] : List Nat) : List Nat).map mark), emp, mapA (fun p : Gfold_pair => Value.agg #[.int .i32 p.e0, .int .i32 p.e1]) (fun n : Int => Value.int .i32 n) b3 r1.1, emp, emp, emp, cells b7 [.string r2] 9, emp, cells b1 [.string s1] 9, cells b5 [.map (some b4)] 67, mapA (fun n : Int => Value.int .i32 n) (fun p : Gfold_pair => Value.agg #[.int .i32 p.e0, .int .i32 p.e1]) b4 r1.2, cells b6 [hd4.v] 42, vecN encN_Gfold_unit nest_Gfold_unit 46 5 hd4.v l4, mark dm1]
    refine TX.starCons (k := 13) (j := 0) rfl rfl dc ?_
    show TX _ _ _ _ _ _ _ [star ((dm1 :: ([] : List Nat) : List Nat).map mark), emp, mapA (fun p : Gfold_pair => Value.agg #[.int .i32 p.e0, .int .i32 p.e1]) (fun n : Int => Value.int .i32 n) b3 r1.1, emp, emp, emp, cells b7 [.string r2] 9, emp, cells b1 [.string s1] 9, cells b5 [.map (some b4)] 67, mapA (fun n : Int => Value.int .i32 n) (fun p : Gfold_pair => Value.agg #[.int .i32 p.e0, .int .i32 p.e1]) b4 r1.2, cells b6 [hd4.v] 42, vecN encN_Gfold_unit nest_Gfold_unit 46 5 hd4.v l4, emp]
    refine TX.blockNormal ?_
    exact TX.meetD (l4, b6, hd4, dm1 :: ([] : List Nat)) h rfl (Sbs.cons rfl (Sbs.nil)) (Splits.of [11, 12, 0] kr rfl)
   ·
    rintro dm1 c pre x1 post g hxs hX
    exact (show False from hX).elim
  ·
   rintro ⟨l1, b2, hd1, ds1⟩ h
   rw [hj1] at h
   show TC _ _ _ _ _ (marksOf ds1) _ _ [(5, .pointer (some ⟨b2, 0, none⟩))] [cells b2 [hd1.v] 42, vecN encN_Gfold_unit nest_Gfold_unit 46 5 hd1.v l1, star ((ds1 : List Nat).map mark)]
   refine TC.seq (TC.region (TO.load (k := 0) sc_42 rfl dc rfl rfl rfl (TO.assign rfl dc rfl (TO.nil (TX.next (TC.ret (TX.jumpOn (by simp) ?_)))))))
   cases h
   exact TX.finM (rs := [.tmp 2]) ds1 hd1.v (.inl rfl) (Splits.open0 (k := 2) rfl) Try.results24 (.cons (.tmp rfl) .nil) rfl (Splits.of [1] kr rfl)
 ·
  exact fun b hb => hb.elim
end Go.Proofs.Ytlamcpgnmeileaa
namespace Go.Proofs.Ytlamcpgnmeileaa
open Go.RowKit Go.Lib
set_option linter.unusedVariables false
set_option linter.unusedSimpArgs false
theorem rg_inv {R A X : Type} {step : X → (A → Option R) → A → Option R} {f : A → X → A} {K : A → Option R} (Inv : Nat → A → Prop) (hI : ∀ k x a, Inv k a → Inv (k + 1) (f a x)) : ∀ (xs : List X) (k : Nat) (a : A), Inv k a → (∀ x ∈ xs, ∀ (j : Nat) ag a, j < k + xs.length → Inv j a → step x ag a = ag (f a x)) → rangeG K step xs a = K (xs.foldl f a)
  | [], k, a, _, _ => rfl
  | x :: xs, k, a, h, hs => by
    rw [rangeG_cons, hs x (List.mem_cons_self ..) k _ a (by simp) h, rg_inv Inv hI xs (k + 1) (f a x) (hI k x a h) (fun y hy j ag a hj hi => hs y (List.mem_cons_of_mem _ hy) j ag a (by simp; omega) hi)]; rfl
def byte0 (b : ByteArray) : Int := ((b.data.toList.headD 0).toNat : Int)
def toU (c : Itm × List Itm) : Gfold_unit := if c.1.Rune < 0 then ⟨c.1.At, byte0 c.1.Text, -1, [], []⟩ else ⟨c.1.At, 0, c.1.Rune, (loI c.2).map (·.Rune), (hiI c.2).map (·.Rune)⟩
def markU (u : Gfold_unit) (r : Int) : Gfold_unit := if lowR r then ⟨u.at_, u.broken, u.base, u.low ++ [r], u.high⟩ else ⟨u.at_, u.broken, u.base, u.low, u.high ++ [r]⟩
theorem mark_v (u : Gfold_unit) (r : Int) (h1 : u.low.length ≤ 2000000000) (h2 : u.high.length ≤ 2000000000) : fold_unit_mark_v u r = some (markU u r) := by
  unfold fold_unit_mark_v
  refine thenI (low_v r) ?_
  unfold markU
  cases lowR r with
  | true => exact condTI rfl (grdI (by omega) rfl)
  | false => exact condFI rfl (grdI (by omega) rfl)
theorem mark_toU (x : Itm) (hx : 0 ≤ x.Rune) (ms : List Itm) (y : Itm) : markU (toU (x, ms)) y.Rune = toU (x, ms ++ [y]) := by
  unfold markU toU loI hiI
  simp only [if_neg (show ¬ x.Rune < 0 by omega), List.filter_append]
  show (if isLo y then _ else _) = _
  cases h : isLo y <;> simp [h]
/-- The parts' marks, laid by package fold. -/
theorem marks_loop (u : Gfold_unit) (ms : List Int) (r6 : List Int) (b : Int) (hr : r6 = b :: ms) (hl : u.low.length + u.high.length + ms.length ≤ 1000000000) (J : Int → Int → Int → (List Int) → (List Int) → Option (List Gfold_unit)) :
    loopG (fun _ _ _ _ _ _ => none) (fold_units_s2 J r6) fuel u.at_ u.broken u.base u.low u.high 0 = J (ms.foldl markU u).at_ (ms.foldl markU u).broken (ms.foldl markU u).base (ms.foldl markU u).low (ms.foldl markU u).high := by
  have hc : cutL r6 1 (r6.length : Int) = ms := by
    subst hr; unfold cutL; simp
  have key : ∀ (n k : Nat) (u : Gfold_unit), k ≤ ms.length → ms.length - k < n → u.low.length + u.high.length + (ms.length - k) ≤ 1000000000 →
      loopG (fun _ _ _ _ _ _ => none) (fold_units_s2 J r6) n u.at_ u.broken u.base u.low u.high (k : Int) = J ((ms.drop k).foldl markU u).at_ ((ms.drop k).foldl markU u).broken ((ms.drop k).foldl markU u).base ((ms.drop k).foldl markU u).low ((ms.drop k).foldl markU u).high := by
    intro n
    induction n with
    | zero => intro k u _ h; omega
    | succ n ih =>
      intro k u hk hn hb
      rw [loopI]
      generalize loopG (fun _ _ _ _ _ _ => none) (fold_units_s2 J r6) n = ag at ih ⊢
      unfold fold_units_s2
      rw [hc]
      by_cases h : k < ms.length
      · have hx : ms[k]? = some ms[k] := List.getElem?_eq_getElem h
        refine condTI (lp_lt hx) (thenI (lp_get hx) (thenI (mark_v u _ (by omega) (by omega)) (grdI (lp_i64 (by omega)) ?_)))
        have hm : (markU u ms[k]).low.length + (markU u ms[k]).high.length = u.low.length + u.high.length + 1 := by
          unfold markU; split <;> simp <;> omega
        have := ih (k + 1) (markU u ms[k]) (by omega) (by omega) (by omega)
        push_cast at this
        rw [this, List.drop_eq_getElem_cons h]; rfl
      · have : k = ms.length := by omega
        subst this
        exact condFI lp_ge (by rw [List.drop_length]; rfl)
  have := key fuel 0 u (Nat.zero_le _) (by have := big_fuel (n := ms.length) (by omega); omega) (by omega)
  simpa using this
/-- One piece more. -/
def addU (s : ByteArray) (l : List Gfold_unit) (p : Gapi_Piece) : List Gfold_unit :=
  if p.Broken then l ++ [⟨p.At, (getB s p.At).getD 0, -1, [], []⟩]
  else match l.getLast? with
    | some u => if letter u.base && mrk p.Rune then l.set (l.length - 1) (markU u p.Rune) else l ++ [if letter p.Rune then (parts p.Rune).tail.foldl markU ⟨p.At, 0, (parts p.Rune).headD 0, [], []⟩ else ⟨p.At, 0, p.Rune, [], []⟩]
    | none => l ++ [if letter p.Rune then (parts p.Rune).tail.foldl markU ⟨p.At, 0, (parts p.Rune).headD 0, [], []⟩ else ⟨p.At, 0, p.Rune, [], []⟩]
def bigU (k : Nat) (l : List Gfold_unit) : Prop := l.length ≤ k ∧ ∀ u ∈ l, u.low.length + u.high.length ≤ 3 * k ∧ I32 u.base
theorem markU_len (u : Gfold_unit) (r : Int) : (markU u r).low.length + (markU u r).high.length = u.low.length + u.high.length + 1 ∧ (markU u r).base = u.base := by
  unfold markU; split <;> simp <;> omega
theorem marksU_len (ms : List Int) : ∀ u : Gfold_unit, (ms.foldl markU u).low.length + (ms.foldl markU u).high.length = u.low.length + u.high.length + ms.length ∧ (ms.foldl markU u).base = u.base := by
  induction ms with
  | nil => intro u; simp
  | cons m ms ih => intro u; have := ih (markU u m); have h2 := markU_len u m; rw [List.foldl_cons]; simp only [List.length_cons]; constructor; omega; rw [this.2, h2.2]
theorem newU_ok (p : Gapi_Piece) (hp : I32 p.Rune) (k : Nat) : ((if letter p.Rune then (parts p.Rune).tail.foldl markU ⟨p.At, 0, (parts p.Rune).headD 0, [], []⟩ else ⟨p.At, 0, p.Rune, [], []⟩ : Gfold_unit).low.length + (if letter p.Rune then (parts p.Rune).tail.foldl markU ⟨p.At, 0, (parts p.Rune).headD 0, [], []⟩ else ⟨p.At, 0, p.Rune, [], []⟩ : Gfold_unit).high.length ≤ 3 * (k + 1)) ∧ I32 (if letter p.Rune then (parts p.Rune).tail.foldl markU ⟨p.At, 0, (parts p.Rune).headD 0, [], []⟩ else ⟨p.At, 0, p.Rune, [], []⟩ : Gfold_unit).base := by
  cases h : letter p.Rune with
  | false => simp only [Bool.false_eq_true, if_false]; exact ⟨by simp, hp⟩
  | true =>
    simp only [if_true]
    have h1 := marksU_len (parts p.Rune).tail ⟨p.At, 0, (parts p.Rune).headD 0, [], []⟩
    have h2 := parts_len p.Rune
    have h3 : (parts p.Rune).tail.length ≤ 2 := by rw [List.length_tail]; omega
    refine ⟨by rw [h1.1]; simp; omega, ?_⟩
    rw [h1.2]
    have h4 := parts_i32 hp
    cases hq : parts p.Rune with
    | nil => rw [hq] at h2; simp at h2
    | cons b ms => exact h4 b (by rw [hq]; exact List.mem_cons_self ..)
theorem addU_big (s : ByteArray) (k : Nat) (p : Gapi_Piece) (l : List Gfold_unit) (hp : I32 p.Rune) (h : bigU k l) : bigU (k + 1) (addU s l p) := by
  obtain ⟨h1, h2⟩ := h
  have app : ∀ u : Gfold_unit, (u.low.length + u.high.length ≤ 3 * (k + 1) ∧ I32 u.base) → bigU (k + 1) (l ++ [u]) := fun u hu => ⟨by simp; omega, fun v hv => by
    rcases List.mem_append.1 hv with hv | hv
    · have := h2 v hv; exact ⟨by omega, this.2⟩
    · simp at hv; subst hv; exact hu⟩
  unfold addU
  split
  · exact app _ ⟨by simp, (show I32 (-1) from ⟨by omega, by omega⟩)⟩
  · split
    · rename_i u hu
      split
      · have hm := List.mem_of_getLast? hu
        refine ⟨by simp; omega, fun v hv => ?_⟩
        rcases List.mem_or_eq_of_mem_set hv with hv | rfl
        · have := h2 v hv; exact ⟨by omega, this.2⟩
        · have := h2 u hm; have h3 := markU_len u p.Rune; exact ⟨by omega, by rw [h3.2]; exact this.2⟩
      · exact app _ (newU_ok p hp k)
    · exact app _ (newU_ok p hp k)
theorem units_fold (s : ByteArray) (hs : s.size ≤ 65536) : fold_units_v s = some (((pcs s.data.toList).map pcG).foldl (addU s) []) := by
  unfold fold_units_v
  refine joinI (thenI tables_v (thenI (a := s) rfl (thenI (piecesI s (by omega)) (joinI ?_))))
  have hc := pcs_count_le s
  have hr : ∀ p ∈ (pcs s.data.toList).map pcG, I32 p.Rune ∧ (p.Broken = true → getB s p.At = some ((getB s p.At).getD 0)) := by
    intro p hp
    obtain ⟨q, hq, rfl⟩ := List.mem_map.1 hp
    obtain ⟨g1, g2, hok⟩ := pcs_pos s.data.toList q hq
    have hv := hok.valid
    have hlen : s.data.toList.length = s.size := by rw [Array.length_toList]; rfl
    refine ⟨⟨by simp only [pcG]; omega, by simp only [pcG]; omega⟩, fun _ => ?_⟩
    have hw := hok.pos
    rw [show (pcG q).At = (q.i : Int) from rfl, getB_of (n := q.i) rfl (by omega)]; rfl
  have key : ∀ (ps : List Gapi_Piece) (k : Nat) (l : List Gfold_unit), bigU k l → k + ps.length ≤ 65536 → (∀ p ∈ ps, I32 p.Rune ∧ (p.Broken = true → getB s p.At = some ((getB s p.At).getD 0))) → rangeG (some : List Gfold_unit → _) (fold_units_s1 s (tabP, tabS)) ps l = some (ps.foldl (addU s) l) := by
    intro ps
    induction ps with
    | nil => intro k l _ _ _; rfl
    | cons p ps ih =>
      intro k l hb hk hp
      obtain ⟨hp1, hp2⟩ := hp p (List.mem_cons_self ..)
      obtain ⟨hb1, hb2⟩ := hb
      simp only [List.length_cons] at hk
      rw [rangeG_cons, List.foldl_cons, ← ih (k + 1) (addU s l p) (addU_big s k p l hp1 ⟨hb1, hb2⟩) (by omega) (fun q hq => hp q (List.mem_cons_of_mem _ hq))]
      generalize rangeG (some : List Gfold_unit → _) (fold_units_s1 s (tabP, tabS)) ps = ag
      unfold fold_units_s1 addU
      cases hB : p.Broken with
      | true => exact condTI rfl (thenI (hp2 hB) (grdI (by omega) (by simp)))
      | false =>
        simp only [Bool.false_eq_true, if_false]
        refine condFI rfl (joinI ?_)
        have new : (joinK (fun (j3 : Int → Int → Int → (List Int) → (List Int) → Option (List Gfold_unit)) =>
            andThen (fold_unit_letter_v (⟨p.At, 0, p.Rune, ([] : List Int), ([] : List Int)⟩ : Gfold_unit)) fun (r5 : Bool) =>
            bcond (r5) (andThen (fold_parted_v (tabP, tabS).2 p.Rune) fun (r6 : (List Int)) =>
              andThen (getO r6 0) fun (q1 : Int) => grd (0 ≤ (1 : Int) ∧ (1 : Int) ≤ (r6.length : Int) ∧ ((r6.length : Int) : Int) ≤ (r6.length : Int)) <|
              loopG (fun _ _ _ _ _ _ => none) (fold_units_s2 j3 r6) fuel p.At 0 q1 ([] : List Int) ([] : List Int) 0) (j3 p.At 0 p.Rune ([] : List Int) ([] : List Int)))
            (fun (u1 : Int) (u2 : Int) (u3 : Int) (u4 : List Int) (u5 : List Int) => grd (l.length + 1 ≤ 2147483648) <| ag (l ++ [(⟨u1, u2, u3, u4, u5⟩ : Gfold_unit)]))) =
            ag (l ++ [if letter p.Rune then (parts p.Rune).tail.foldl markU ⟨p.At, 0, (parts p.Rune).headD 0, [], []⟩ else ⟨p.At, 0, p.Rune, [], []⟩]) := by
          refine joinI (thenI (letter_v _ hp1) ?_)
          show bcond (letter p.Rune) _ _ = _
          cases hL : letter p.Rune with
          | false => exact condFI rfl (grdI (by omega) (by simp))
          | true =>
            obtain ⟨b, ms, hq, _, _, _, hms⟩ := parts_shape hL
            refine condTI rfl (thenI (parted_v _) (thenI (a := b) (by rw [hq]; rfl) (grdI (by rw [hq]; simp only [List.length_cons]; omega) ?_)))
            refine (marks_loop (⟨p.At, 0, b, [], []⟩ : Gfold_unit) ms (parts p.Rune) b hq (by simp; omega) _).trans (grdI (by omega) ?_)
            rw [hq]; simp
        cases hl : l.getLast? with
        | none =>
          have : l = [] := List.getLast?_eq_none_iff.1 hl
          subst this
          exact condFI (by decide) new
        | some u =>
          have hne : l ≠ [] := by intro h; subst h; cases hl
          have hlen : 0 < l.length := List.length_pos_iff.2 hne
          have hm := List.mem_of_getLast? hl
          have hu := hb2 u hm
          have hg : getO l ((l.length : Int) - 1) = some u := getO_of (n := l.length - 1) (by omega) (by rw [← List.getLast?_eq_getElem?]; exact hl)
          refine condTI (decide_eq_true (by omega)) (grdI ⟨by omega, by omega⟩ (thenI hg (thenI (letter_v u hu.2) ?_)))
          cases hL : letter u.base with
          | false => exact condFI rfl (by simpa [hL] using new)
          | true =>
            refine condTI rfl (grdI hp1 ?_)
            rw [kind2]
            cases hM : mrk p.Rune with
            | false => exact condFI rfl (by simpa [hL, hM] using new)
            | true =>
              refine condTI rfl (grdI ⟨by omega, by omega⟩ (thenI hg (thenI (mark_v u _ (by omega) (by omega)) ?_)))
              simp only [Bool.and_self, if_true]
              rw [show ((l.length : Int) - 1).toNat = l.length - 1 by omega]
              simp [hL]
  have := key ((pcs s.data.toList).map pcG) 0 [] ⟨by simp, by simp⟩ (by simp; omega) hr
  exact this
/-! ### Units are clusters -/
theorem item_of {s : ByteArray} {p : Pc} (hp : p ∈ pcs s.data.toList) : (p.broken = true → (itG s p).Rune = -1 ∧ (itG s p).Text.size = 1 ∧ byte0 (itG s p).Text = (getB s p.i).getD 0) ∧ (p.broken = false → (itG s p).Rune = p.r ∧ (itG s p).Text = Utf8.encode (p.r : Int)) := by
  obtain ⟨g1, g2, hok⟩ := pcs_pos s.data.toList p hp
  have hlen : s.data.toList.length = s.size := by rw [Array.length_toList]; rfl
  have hf := pcs_fit hp
  have hw := hok.pos
  constructor
  · intro hb
    have hw1 : p.w = 1 := by unfold Pc.broken at hb; simp at hb; exact hb.2
    refine ⟨by simp [itG, hb], by simp [itG, hw1]; omega, ?_⟩
    have e : (itG s p).Text.data.toList = (s.data.toList.drop p.i).take p.w := by
      show (s.extract p.i (p.i + p.w)).data.toList = _
      rw [Lib.extract_data]; simp
    unfold byte0
    rw [e, hw1, getB_of (n := p.i) rfl (by omega)]
    have hi : p.i < s.data.toList.length := by omega
    rw [List.drop_eq_getElem_cons hi]
    simp
    rfl
  · intro hb
    refine ⟨by simp [itG, hb], ?_⟩
    have hnb : ¬ (p.r = 65533 ∧ p.w = 1) := by
      unfold Pc.broken at hb; simpa using hb
    apply ByteArray.ext; apply Array.toList_inj.1
    show (s.extract p.i (p.i + p.w)).data.toList = _
    rw [Lib.extract_data]
    have h1 := hok.bytes hnb
    rw [encode_list, h1]
    simp
theorem clF_push (cur : Option (Itm × List Itm)) (x : Itm) (xs : List Itm) (h : ∀ c, cur = some c → (isL c.1 && isM x) = false) : clF cur (x :: xs) = cur.toList ++ clF (some (x, [])) xs := by
  cases cur with
  | none => rfl
  | some c =>
    show (if isL c.1 && isM x then clF (some (c.1, c.2 ++ [x])) xs else c :: clF (some (x, [])) xs) = _
    rw [h c rfl]; rfl
theorem clF_marks (x : Itm) (hx : isL x = true) (xs : List Itm) : ∀ (ms ks : List Itm), (∀ m ∈ ms, isM m = true) → clF (some (x, ks)) (ms ++ xs) = clF (some (x, ks ++ ms)) xs
  | [], ks, _ => by simp
  | m :: ms, ks, h => by
    rw [List.cons_append]
    show (if isL x && isM m then clF (some (x, ks ++ [m])) (ms ++ xs) else _) = _
    rw [hx, h m (List.mem_cons_self ..)]
    simp only [Bool.and_self, if_true]
    rw [clF_marks x hx xs ms (ks ++ [m]) (fun z hz => h z (List.mem_cons_of_mem _ hz))]
    simp
theorem marks_toU (x : Itm) (hx : 0 ≤ x.Rune) : ∀ (ms ks : List Itm), (ms.map (·.Rune)).foldl markU (toU (x, ks)) = toU (x, ks ++ ms)
  | [], ks => by simp
  | m :: ms, ks => by
    rw [List.map_cons, List.foldl_cons, mark_toU x hx, marks_toU x hx ms]; simp
theorem toU_base (c : Itm × List Itm) (h : 0 ≤ c.1.Rune) : (toU c).base = c.1.Rune := by
  unfold toU; rw [if_neg (by omega)]
theorem toU_letter (c : Itm × List Itm) : letter (toU c).base = isL c.1 := by
  unfold toU isL
  split
  · rename_i h
    have h1 : letter (-1) = false := by decide
    have h2 : letter c.1.Rune = false := by
      cases e : letter c.1.Rune with
      | false => rfl
      | true => have := (letter_rng _ e).1; omega
    rw [h2]; exact h1
  · rfl
theorem units_cl (s : ByteArray) : ∀ (ps : List Pc) (cur : Option (Itm × List Itm)) (L : List Gfold_unit), (∀ p ∈ ps, p ∈ pcs s.data.toList) → (cur = none → L = []) →
    (ps.map pcG).foldl (addU s) (L ++ cur.toList.map toU) = L ++ (clF cur (apL (ps.map (itG s)))).map toU
  | [], cur, L, _, _ => by
    cases cur <;> simp [apL, clF]
  | p :: ps, cur, L, hp, hcur => by
    rw [List.map_cons, List.foldl_cons, List.map_cons]
    have hap : apL (itG s p :: ps.map (itG s)) = apI (itG s p) ++ apL (ps.map (itG s)) := by unfold apL; rw [List.flatMap_cons]
    rw [hap]
    obtain ⟨hb1, hb2⟩ := item_of (hp p (List.mem_cons_self ..))
    have tail := fun cur' L' hc => units_cl s ps cur' L' (fun q hq => hp q (List.mem_cons_of_mem _ hq)) hc
    have hv : p.broken = false → 0 ≤ (itG s p).Rune := fun h => by rw [(hb2 h).1]; omega
    -- a new unit
    have new : ∀ (x : Itm) (ms : List Itm), (isL x = false → ms = []) → (∀ m ∈ ms, isM m = true) → (∀ c, cur = some c → (isL c.1 && isM x) = false) → addU s (L ++ cur.toList.map toU) (pcG p) = (L ++ cur.toList.map toU) ++ [toU (x, ms)] → apI (itG s p) = x :: ms →
        (ps.map pcG).foldl (addU s) (addU s (L ++ cur.toList.map toU) (pcG p)) = L ++ (clF cur (apI (itG s p) ++ apL (ps.map (itG s)))).map toU := by
      intro x ms h1 h2 h3 h4 h5
      rw [h4, h5, List.cons_append, clF_push cur x _ h3]
      have h6 : clF (some (x, [])) (ms ++ apL (ps.map (itG s))) = clF (some (x, ms)) (apL (ps.map (itG s))) := by
        cases hx : isL x with
        | true => rw [clF_marks x hx _ ms [] h2]; rfl
        | false => rw [h1 hx]; rfl
      have := tail (some (x, ms)) (L ++ cur.toList.map toU) (by simp)
      rw [show (L ++ cur.toList.map toU) ++ [toU (x, ms)] = (L ++ cur.toList.map toU) ++ (some (x, ms)).toList.map toU from rfl, this, h6]
      simp
    cases hB : p.broken with
    | true =>
      obtain ⟨e1, e2, e3⟩ := hb1 hB
      have hL : isL (itG s p) = false := by unfold isL; rw [e1]; decide
      have hM : isM (itG s p) = false := by unfold isM; rw [e1]; decide
      refine new (itG s p) [] (fun _ => rfl) (by simp) (fun c _ => by rw [hM, Bool.and_false]) ?_ (by unfold apI; rw [hL]; rfl)
      unfold addU
      rw [show (pcG p).Broken = true from hB]
      simp only [if_true]
      have : toU (itG s p, []) = ⟨(itG s p).At, byte0 (itG s p).Text, -1, [], []⟩ := by unfold toU; rw [if_pos (by rw [e1]; omega)]
      rw [this, e3]; rfl
    | false =>
      obtain ⟨e1, e2⟩ := hb2 hB
      have h0 : 0 ≤ (itG s p).Rune := hv hB
      have hpr : (pcG p).Rune = (itG s p).Rune := by rw [e1]; rfl
      -- what the new unit is
      have hnew : ∃ x ms, apI (itG s p) = x :: ms ∧ (isL x = false → ms = []) ∧ (∀ m ∈ ms, isM m = true) ∧ isL x = isL (itG s p) ∧ isM x = isM (itG s p) ∧
          (if letter (pcG p).Rune then (parts (pcG p).Rune).tail.foldl markU ⟨(pcG p).At, 0, (parts (pcG p).Rune).headD 0, [], []⟩ else ⟨(pcG p).At, 0, (pcG p).Rune, [], []⟩) = toU (x, ms) := by
        rw [hpr]
        cases hL : isL (itG s p) with
        | false =>
          have hL' : letter (itG s p).Rune = false := hL
          refine ⟨itG s p, [], by unfold apI; rw [hL]; rfl, fun _ => rfl, by simp, hL, rfl, ?_⟩
          rw [hL']
          unfold toU
          rw [if_neg (show ¬ (itG s p, ([] : List Itm)).1.Rune < 0 by show ¬ (itG s p).Rune < 0; omega)]
          rfl
        | true =>
          have hL' : letter (itG s p).Rune = true := hL
          obtain ⟨b, ms, hq, hb, _, hms, _⟩ := parts_shape hL'
          have hb0 := (letter_rng b hb).1
          refine ⟨⟨b, Utf8.encode b, (itG s p).At⟩, ms.map fun r => ⟨r, Utf8.encode r, (itG s p).At⟩, by unfold apI; rw [hL, hq]; rfl, (fun h => by rw [show isL (⟨b, Utf8.encode b, (itG s p).At⟩ : Itm) = true from hb] at h; cases h), ?_, hb, ?_, ?_⟩
          · intro m hm
            obtain ⟨r, hr, rfl⟩ := List.mem_map.1 hm
            exact hms r hr
          · have hM1 : isM (itG s p) = false := by
              cases e : isM (itG s p) with
              | false => rfl
              | true => have := mrk_not_letter (show mrk (itG s p).Rune = true from e); rw [hL'] at this; cases this
            have hM2 : isM (⟨b, Utf8.encode b, (itG s p).At⟩ : Itm) = false := by
              cases e : isM (⟨b, Utf8.encode b, (itG s p).At⟩ : Itm) with
              | false => rfl
              | true => have := mrk_not_letter (show mrk b = true from e); rw [hb] at this; cases this
            rw [hM1, hM2]
          · rw [hL', hq]
            have := marks_toU ⟨b, Utf8.encode b, (itG s p).At⟩ hb0 (ms.map fun r => ⟨r, Utf8.encode r, (itG s p).At⟩) []
            have hm : (ms.map fun r => (⟨r, Utf8.encode r, (itG s p).At⟩ : Itm)).map (·.Rune) = ms := by rw [List.map_map]; simp [Function.comp_def]
            rw [hm] at this
            rw [List.nil_append] at this
            rw [← this]
            have ht : toU (⟨b, Utf8.encode b, (itG s p).At⟩, []) = ⟨(itG s p).At, 0, b, [], []⟩ := by
              unfold toU; rw [if_neg (show ¬ b < 0 by omega)]; rfl
            rw [ht]; rfl
      obtain ⟨x, ms, ha, hm1, hm2, hm3, hm4, hnew⟩ := hnew
      cases cur with
      | none =>
        have hL := hcur rfl
        subst hL
        refine new x ms hm1 hm2 (fun c h => by cases h) ?_ ha
        unfold addU
        rw [show (pcG p).Broken = false from hB]
        simp only [Bool.false_eq_true, if_false, Option.toList_none, List.map_nil, List.append_nil, List.getLast?_nil]
        rw [hnew]
      | some c =>
        have hlast : (L ++ [toU c]).getLast? = some (toU c) := by simp
        cases hk : (isL c.1 && isM x) with
        | false =>
          refine new x ms hm1 hm2 (fun c' h => by cases h; exact hk) ?_ ha
          show addU s (L ++ [toU c]) (pcG p) = (L ++ [toU c]) ++ [toU (x, ms)]
          unfold addU
          rw [show (pcG p).Broken = false from hB, hlast]
          simp only [Bool.false_eq_true, if_false]
          rw [toU_letter, show mrk (pcG p).Rune = isM x by rw [hm4, hpr]; rfl, hk, hnew]
          simp
        | true =>
          have hk' := hk
          rw [Bool.and_eq_true] at hk'
          have hMx : isM (itG s p) = true := by rw [← hm4]; exact hk'.2
          have hLx : isL (itG s p) = false := mrk_not_letter hMx
          have hax : apI (itG s p) = [itG s p] := by unfold apI; rw [hLx]; rfl
          rw [hax, List.singleton_append]
          have hadd : addU s (L ++ (some c).toList.map toU) (pcG p) = L ++ (some (c.1, c.2 ++ [itG s p])).toList.map toU := by
            show addU s (L ++ [toU c]) (pcG p) = L ++ [toU (c.1, c.2 ++ [itG s p])]
            unfold addU
            rw [show (pcG p).Broken = false from hB, hlast]
            simp only [Bool.false_eq_true, if_false]
            rw [toU_letter, show mrk (pcG p).Rune = isM x by rw [hm4, hpr]; rfl, hk]
            simp only [if_true]
            have h0c : 0 ≤ c.1.Rune := (letter_rng _ hk'.1).1
            rw [hpr, mark_toU c.1 h0c c.2 (itG s p)]
            simp
          rw [hadd, tail _ _ (by simp)]
          congr 2
          show _ = clF (some c) (itG s p :: apL (ps.map (itG s)))
          show _ = (if isL c.1 && isM (itG s p) then clF (some (c.1, c.2 ++ [itG s p])) (apL (ps.map (itG s))) else _)
          rw [hk'.1, hMx]; rfl
/-- The clusters of a text. -/
def clus (s : ByteArray) : List (Itm × List Itm) := cl (apL (itemsP s))
theorem units_v (s : ByteArray) (hs : s.size ≤ 65536) : fold_units_v s = some ((clus s).map toU) := by
  rw [units_fold s hs]
  have := units_cl s (pcs s.data.toList) none [] (fun p hp => hp) (fun _ => rfl)
  simp only [Option.toList_none, List.map_nil, List.append_nil, List.nil_append] at this
  rw [this]; rfl
end Go.Proofs.Ytlamcpgnmeileaa
namespace Go.Proofs.Ytlamcpgnmeileaa
open Go.RowKit Go.Lib
set_option linter.unusedVariables false
set_option linter.unusedSimpArgs false
def fold_written_plain_s1 (l1 : List Gfold_unit) (j1 : ByteArray → Option ByteArray) (ag1 : ByteArray → Int → Option ByteArray) (b4 : ByteArray) (x3 : Int) : Option ByteArray := bcond (decide ((x3 : Int) < (l1.length : Int))) ( joinK (fun (j2 : ByteArray → Option ByteArray) => andThen (getO l1 x3) fun (x4 : Gfold_unit) => bcond (decide ((x4.base : Int) < 0)) ( grd (b4.size + 1 ≤ 140737488355328) <| grd (∀ x ∈ ([x4.broken] : List Int), U8 x) <| j2 (b4 ++ (bytesOf [x4.broken]))
) ( andThen (fold_plain_v x4) fun (r1 : ByteArray) => grd (b4.size + r1.size ≤ 140737488355328) <| j2 (b4 ++ r1)
)
) (fun (b5 : ByteArray) => grd (I64 (x3 + 1)) <| ag1 b5 (x3 + 1)
)
) ( j1 b4
)
def fold_written_plain_v (l1 : List Gfold_unit) : Option ByteArray := joinK (fun (j1 : ByteArray → Option ByteArray) => loopG (fun _ _ => none) (fold_written_plain_s1 l1 j1) fuel ByteArray.empty 0
) (fun (b1 : ByteArray) => some b1
)
set_option maxRecDepth 100000 in
set_option maxHeartbeats 4000000 in
theorem fold_written_plain_fn {vvl1 vl1 : Value} {Zl1 : List (Gfold_unit × Hd × Hd)} {kl1 : Nat} {zl1 : List (Gfold_unit × Hd × Hd)} {l1 : List Gfold_unit} (hwl1 : Vw vvl1 Zl1 5 kl1 vl1 zl1) (hzl1 : zl1.map Prod.fst = l1) {r : ByteArray} (h : fold_written_plain_v l1 = some r) : Fn Try.prog 25 [vl1, .func (.func 26) #[] #[]] [vec encN_Gfold_unit 46 5 vvl1 Zl1, own nest_Gfold_unit Zl1] (fun _b : Unit => .string r) (fun _b => [vec encN_Gfold_unit 46 5 vvl1 Zl1, own nest_Gfold_unit Zl1]) := by
 unfold fold_written_plain_v at h
 refine Fn.intro Try.func25 rfl Try.ntmps25 (by simp) ?_
 intro w0 K
 obtain ⟨j1, hj1, h⟩ := joinE h
 refine TC.cutN (β := ByteArray × Value) 2 rfl (fun b => j1 b.1 = some r) (fun b => []) (fun b => [(5, b.2)]) (fun b => [vec encN_Gfold_unit 46 5 vvl1 Zl1, own nest_Gfold_unit Zl1, byt 5 b.2 b.1]) (fun cut => ?_) ?_
 ·
  refine TC.seq (TC.region (TO.assign rfl dc rfl (TO.nil (TX.next (TC.seq (TC.region (TO.assign rfl dc rfl (TO.nil (TX.next (cut (TC.seq (TC.region (TO.move rfl dc rfl ?_)))))))))))))
  refine TO.lenVwZ hzl1 hwl1 rfl dc rfl Try.underlying42 (TO.move rfl dc rfl (TO.nil (TX.next (TC.block (TC.newByt (e := 5) ?_)))))
  show TC _ _ _ _ _ _ _ _ _ [vec encN_Gfold_unit 46 5 vvl1 Zl1, own nest_Gfold_unit Zl1, byt 5 (.slice none 0 0) ByteArray.empty]
  refine TC.loopD (β := Nat × ByteArray × Int × Value) (fun b => loopG (fun _ _ => none) (fold_written_plain_s1 l1 j1) b.1 b.2.1 b.2.2.1 = some r) (fun b => []) (fun b => [(1, .func (.func 26) #[] #[]), (5, b.2.2.2), (8, vl1), (9, .int .i64 (l1.length : Int)), (10, .int .i64 b.2.2.1)]) (fun b => [vec encN_Gfold_unit 46 5 vvl1 Zl1, own nest_Gfold_unit Zl1, byt 5 b.2.2.2 b.2.1]) (fun b => b.1) (fuel, ByteArray.empty, 0, (.slice none 0 0)) h rfl (Sbs.cons rfl (Sbs.cons rfl (Sbs.cons rfl (Sbs.cons rfl (Sbs.cons rfl (Sbs.nil)))))) (Splits.of [0, 1, 2] kr rfl) ?_
  rintro ⟨n1, b4, x3, v4⟩ h
  cases n1 with
  | zero => exact noneE h
  | succ n1 =>
   obtain ⟨ag1, hag1⟩ : ∃ ag, ag = loopG (fun _ _ => none) (fold_written_plain_s1 l1 j1) n1 := ⟨_, rfl⟩
   have h : fold_written_plain_s1 l1 j1 ag1 b4 x3 = some r := by rw [hag1]; exact h
   unfold fold_written_plain_s1 at h
   show TC _ _ _ _ _ ([]) _ _ [(1, .func (.func 26) #[] #[]), (5, v4), (8, vl1), (9, .int .i64 (l1.length : Int)), (10, .int .i64 x3)] [vec encN_Gfold_unit 46 5 vvl1 Zl1, own nest_Gfold_unit Zl1, byt 5 v4 b4]
   refine TC.seq (TC.region (TO.bin rfl dc rfl rfl bin_lss (TO.nil (TX.next (TC.seq ?_)))))
   refine TC.condB rfl (fun hb1 => ?_) (fun hb1 => ?_)
   ·
    have h := condT hb1 h
    refine TC.skip (TX.next ?_)
    obtain ⟨j2, hj2, h⟩ := joinE h
    refine TC.cutN (β := ByteArray × Value) 0 rfl (fun b => j2 b.1 = some r) (fun b => []) (fun b => [(1, .func (.func 26) #[] #[]), (5, b.2), (8, vl1), (9, .int .i64 (l1.length : Int)), (10, .int .i64 x3)]) (fun b => [vec encN_Gfold_unit 46 5 vvl1 Zl1, own nest_Gfold_unit Zl1, byt 5 b.2 b.1]) (fun cut => ?_) ?_
    ·
     refine cut (TC.block (TC.seq (TC.region ?_)))
     obtain ⟨x4, hq1, h⟩ := andE h
     obtain ⟨⟨eh1, eh2⟩, eq1⟩ := getO_z hzl1 hq1
     refine TO.indexVw hwl1 eq1 Try.underlying42 sz_46 rfl dc rfl rfl rfl (TO.loadsVec (i := kl1 + (x3 : Int).toNat) (j := 0) (k := 0) (q := (x4, (eh1, eh2))) (cs := [.int .i64 x4.at_, .int .u8 x4.broken, .int .i32 x4.base, eh1.v, eh2.v]) rw_46 encN_Gfold_unit_len rfl dc rfl rfl (Vw.get hwl1 eq1) rfl rfl rfl ?_)
     refine TO.alloc zr_46 rfl dc (fun b6 => ?_)
     refine TO.stores (k := 3) (vs := [.int .i64 x4.at_, .int .u8 x4.broken, .int .i32 x4.base, eh1.v, eh2.v]) (l' := [.int .i64 x4.at_, .int .u8 x4.broken, .int .i32 x4.base, eh1.v, eh2.v]) sz_46 rfl rfl rfl rfl rfl (show _ ≤ _ by simp) rfl rfl ?_
     show TO _ _ _ _ _ _ _ _ _ _ [vec encN_Gfold_unit 46 5 vvl1 Zl1, own nest_Gfold_unit Zl1, byt 5 v4 b4, cells b6 [.int .i64 x4.at_, .int .u8 x4.broken, .int .i32 x4.base, eh1.v, eh2.v] 46]
     refine TO.nil (TX.next (TC.seq (TC.region (TO.fieldAddr fl_46_2 rfl dc rfl (show _ = 2 from rfl) (TO.load (k := 3) sc_21 rfl dc rfl rfl rfl (TO.bin rfl dc rfl rfl bin_lss (TO.nil (TX.next ?_))))))))
     refine TC.condB rfl (fun hb2 => ?_) (fun hb2 => ?_)
     ·
      have h := condT hb2 h
      refine TC.region (TO.move rfl dc rfl (TO.fieldAddr fl_46_1 rfl dc rfl (show _ = 1 from rfl) (TO.load (k := 3) sc_5 rfl dc rfl rfl rfl ?_)))
      refine TO.buildSlice (cs := [.int .u8 x4.broken]) (te := 5) (ps := [(0, .tmp 19)]) rfl dc rfl (fun _ => by kernel_rfl) (fun b7 => ?_)
      obtain ⟨hg1, h⟩ := grdE h
      obtain ⟨hg2, h⟩ := grdE h
      refine TO.appendByt (k := 2) (k2 := 4) (ys := (bytesOf [x4.broken])) Try.underlying82 by_5 rfl dc rfl rfl rfl rfl (strCells_of hg2) rfl hg1 (fun v6 => ?_)
      show TO _ _ _ _ _ _ _ _ _ _ [vec encN_Gfold_unit 46 5 vvl1 Zl1, own nest_Gfold_unit Zl1, byt 5 v6 (b4 ++ (bytesOf [x4.broken])), cells b6 [.int .i64 x4.at_, .int .u8 x4.broken, .int .i32 x4.base, eh1.v, eh2.v] 46, cells b7 [.int .u8 x4.broken] 5]
      refine TO.assign rfl dc rfl (TO.nil (TX.blockNormal ?_))
      exact TX.meetD (b4 ++ (bytesOf [x4.broken]), v6) h rfl (Sbs.cons rfl (Sbs.cons rfl (Sbs.cons rfl (Sbs.cons rfl (Sbs.cons rfl (Sbs.nil)))))) (Splits.of [0, 1, 2] kr rfl)
     ·
      have h := condF hb2 h
      refine TC.region (TO.move rfl dc rfl (TO.move rfl dc rfl (TO.loads (k := 3) (cs := [.int .i64 x4.at_, .int .u8 x4.broken, .int .i32 x4.base, eh1.v, eh2.v]) rw_46 rfl dc rfl rfl rfl rfl ?_)))
      refine TO.unfold1 (k := 1) rfl (pullE (Vw.get hwl1 eq1)) (fun _ _ => ?_)
      show TO _ _ _ _ _ _ _ _ _ _ [vec encN_Gfold_unit 46 5 vvl1 Zl1, own nest_Gfold_unit (Zl1.eraseIdx (kl1 + (x3 : Int).toNat)), byt 5 v4 b4, cells b6 [.int .i64 x4.at_, .int .u8 x4.broken, .int .i32 x4.base, eh1.v, eh2.v] 46, vec (encI (.i32)) 21 1 eh1.v x4.low, vec (encI (.i32)) 21 1 eh2.v x4.high]
      obtain ⟨r1, hq2, h⟩ := andE h
      refine TO.callK (v := .string r1) (vs := [.agg #[.int .i64 x4.at_, .int .u8 x4.broken, .int .i32 x4.base, eh1.v, eh2.v]]) rfl dc rfl rfl rfl en_26 (fold_plain_fn (u1 := x4) (u1_h0 := eh1) (u1_h1 := eh2) hq2) [4, 5] kr rfl ?_
      obtain ⟨hg3, h⟩ := grdE h
      refine TO.appendStr (k := 2) Try.underlying82 Try.underlying9 by_5 rfl dc rfl rfl rfl hg3 (fun v7 => ?_)
      refine TO.assign rfl dc rfl (TO.nil (TX.blockNormal (TX.fold1 (k := 1) rfl (Splits.of [4, 5] kr rfl) rfl (pushE (nest := nest_Gfold_unit) (Vw.get hwl1 eq1) rfl) ?_)))
      show TX _ _ _ _ _ _ _ [vec encN_Gfold_unit 46 5 vvl1 Zl1, own nest_Gfold_unit Zl1, byt 5 v7 (b4 ++ r1), cells b6 [.int .i64 x4.at_, .int .u8 x4.broken, .int .i32 x4.base, eh1.v, eh2.v] 46, emp, emp]
      exact TX.meetD (b4 ++ r1, v7) h rfl (Sbs.cons rfl (Sbs.cons rfl (Sbs.cons rfl (Sbs.cons rfl (Sbs.cons rfl (Sbs.nil)))))) (Splits.of [0, 1, 2] kr rfl)
    ·
     rintro ⟨b5, v5⟩ h
     rw [hj2] at h
     show TC _ _ _ _ _ ([]) _ _ [(1, .func (.func 26) #[] #[]), (5, v5), (8, vl1), (9, .int .i64 (l1.length : Int)), (10, .int .i64 x3)] [vec encN_Gfold_unit 46 5 vvl1 Zl1, own nest_Gfold_unit Zl1, byt 5 v5 b5]
     refine TC.region ?_
     obtain ⟨hg4, h⟩ := grdE h
     refine TO.bin rfl dc rfl rfl (bin_add (r := x3 + 1) (IntWalk.i64_in _ hg4)) (TO.move rfl dc rfl (TO.nil ?_))
     subst hag1
     exact TX.againD (n1, b5, x3 + 1, v5) h (Nat.lt_succ_self _) rfl (Sbs.cons rfl (Sbs.cons rfl (Sbs.cons rfl (Sbs.cons rfl (Sbs.cons rfl (Sbs.nil)))))) (Splits.of [0, 1, 2] kr rfl)
   ·
    have h := condF hb1 h
    refine TC.exit (TX.thenExit (TX.thenExit (TX.blockHere ?_)))
    exact TX.meetD (b4, v4) h rfl (Sbs.cons rfl (Sbs.nil)) (Splits.of [0, 1, 2] kr rfl)
 ·
  rintro ⟨b1, v1⟩ h
  rw [hj1] at h
  show TC _ _ _ _ _ ([]) _ _ [(5, v1)] [vec encN_Gfold_unit 46 5 vvl1 Zl1, own nest_Gfold_unit Zl1, byt 5 v1 b1]
  refine TC.seq (TC.region (TO.move rfl dc rfl (TO.bytStr (k := 2) rfl dc rfl rfl Try.underlying82 Try.underlying5 Try.underlying9 (TO.assign rfl dc rfl (TO.nil (TX.next (TC.ret ?_)))))))
  cases h
  exact TX.fin (rs := [.tmp 4]) () (.inl rfl) Try.results25 (.cons (.tmp rfl) .nil) rfl (Splits.of [0, 1] kr rfl)
end Go.Proofs.Ytlamcpgnmeileaa
namespace Go.Proofs.Ytlamcpgnmeileaa
open Go.RowKit Go.Lib
set_option linter.unusedVariables false
set_option linter.unusedSimpArgs false
def fold_Fold_v (s1 : ByteArray) : Option ByteArray := andThen (fold_units_v s1) fun (r1 : (List Gfold_unit)) => andThen (fold_written_plain_v r1) fun (r2 : ByteArray) => some r2
set_option maxRecDepth 100000 in
set_option maxHeartbeats 4000000 in
theorem fold_Fold_fn {s1 : ByteArray} {r : ByteArray} (h : fold_Fold_v s1 = some r) : FnP Try.prog 10 [.string s1] (.string r) := by
 unfold fold_Fold_v at h
 refine FnP.intro Try.func10 rfl Try.ntmps10 (by simp) ?_
 intro w0 K
 refine TC.seq (TC.region (TO.assign rfl dc rfl (TO.nil (TX.next (TC.seq (TC.region (TO.move rfl dc rfl ?_)))))))
 obtain ⟨r1, hq1, h⟩ := andE h
 refine TO.call (vs := [.string s1]) rfl dc rfl rfl rfl en_24 (fold_units_fn hq1) Splits.nil ?_
 rintro v1
 show TO _ _ _ _ _ _ _ _ _ _ [vecN encN_Gfold_unit nest_Gfold_unit 46 5 v1 r1]
 refine TO.weakenL (L' := [vecN encN_Gfold_unit nest_Gfold_unit 46 5 v1 r1]) (Splits.of [0] kr rfl) ?_
 refine TO.nameHdN (k := 0) rfl (fun hd1 he1 => ?_)
 subst he1
 refine TO.unfold1 (k := 0) rfl openE (fun zs1 hz1 => ?_)
 show TO _ _ _ _ _ _ _ _ _ _ [vec encN_Gfold_unit 46 5 hd1.v zs1, own nest_Gfold_unit zs1]
 refine TO.vecVw (k := 0) rfl (fun hw1 => ?_)
 obtain ⟨r2, hq2, h⟩ := andE h
 refine TO.callK (v := .string r2) (vs := [hd1.v, .func (.func 26) #[] #[]]) rfl dc rfl rfl rfl en_25 (fold_written_plain_fn hw1 hz1 hq2) [0, 1] kr rfl (TO.assign rfl dc rfl (TO.nil (TX.next (TC.ret ?_))))
 cases h
 exact TX.fin (rs := [.tmp 2]) () (.inl rfl) Try.results10 (.cons (.tmp rfl) .nil) rfl Splits.nil
def fold_Same_v (a1 : ByteArray) (b1 : ByteArray) : Option Bool := andThen (fold_Fold_v a1) fun (r1 : ByteArray) => andThen (fold_Fold_v b1) fun (r2 : ByteArray) => some (decide (r1 = r2))
set_option maxRecDepth 100000 in
set_option maxHeartbeats 4000000 in
theorem fold_Same_fn {a1 : ByteArray} {b1 : ByteArray} {r : Bool} (h : fold_Same_v a1 b1 = some r) : FnP Try.prog 11 [.string a1, .string b1] (.bool r) := by
 unfold fold_Same_v at h
 refine FnP.intro Try.func11 rfl Try.ntmps11 (by simp) ?_
 intro w0 K
 refine TC.seq (TC.region (TO.assign rfl dc rfl (TO.nil (TX.next (TC.seq (TC.region (TO.move rfl dc rfl ?_)))))))
 obtain ⟨r1, hq1, h⟩ := andE h
 refine TO.callP (v := .string r1) (vs := [.string a1]) rfl dc rfl rfl rfl en_10 (fold_Fold_fn hq1) (TO.move rfl dc rfl ?_)
 obtain ⟨r2, hq2, h⟩ := andE h
 refine TO.callP (v := .string r2) (vs := [.string b1]) rfl dc rfl rfl rfl en_10 (fold_Fold_fn hq2) (TO.bin rfl dc rfl rfl bin_seql (TO.assign rfl dc rfl (TO.nil (TX.next (TC.ret ?_)))))
 cases h
 exact TX.fin (rs := [.tmp 4]) () (.inl rfl) Try.results11 (.cons (.tmp rfl) .nil) rfl Splits.nil
end Go.Proofs.Ytlamcpgnmeileaa
namespace Go.Proofs.Ytlamcpgnmeileaa
open Go.RowKit Go.Lib
set_option linter.unusedVariables false
set_option linter.unusedSimpArgs false
/-! ### Texts laid together -/
section
variable {α β : Type}
def J (f : α → ByteArray) (l : List α) : ByteArray := l.foldl (fun s x => s ++ f x) ByteArray.empty
theorem J_acc (f : α → ByteArray) : ∀ (l : List α) (b : ByteArray), l.foldl (fun s x => s ++ f x) b = b ++ J f l
  | [], b => by simp [J]
  | x :: l, b => by
    unfold J
    rw [List.foldl_cons, J_acc f l, List.foldl_cons, J_acc f l (ByteArray.empty ++ f x), ByteArray.empty_append, ByteArray.append_assoc]
theorem J_nil (f : α → ByteArray) : J f [] = ByteArray.empty := rfl
theorem J_cons (f : α → ByteArray) (x : α) (l : List α) : J f (x :: l) = f x ++ J f l := by
  show (l.foldl _ (ByteArray.empty ++ f x)) = _
  rw [J_acc, ByteArray.empty_append]
theorem J_append (f : α → ByteArray) : ∀ (a b : List α), J f (a ++ b) = J f a ++ J f b
  | [], b => by rw [List.nil_append, J_nil, ByteArray.empty_append]
  | x :: a, b => by rw [List.cons_append, J_cons, J_cons, J_append f a, ByteArray.append_assoc]
theorem J_flat (f : β → ByteArray) (g : α → List β) : ∀ l : List α, J f (l.flatMap g) = J (fun x => J f (g x)) l
  | [] => rfl
  | x :: l => by rw [List.flatMap_cons, J_append, J_cons, J_flat f g l]
theorem J_map (f : β → ByteArray) (g : α → β) : ∀ l : List α, J f (l.map g) = J (fun x => f (g x)) l
  | [] => rfl
  | x :: l => by rw [List.map_cons, J_cons, J_cons, J_map f g l]
theorem J_congr {f g : α → ByteArray} : ∀ {l : List α}, (∀ x ∈ l, f x = g x) → J f l = J g l
  | [], _ => rfl
  | x :: l, h => by rw [J_cons, J_cons, h x (List.mem_cons_self ..), J_congr (fun y hy => h y (List.mem_cons_of_mem _ hy))]
theorem J_size (f : α → ByteArray) (m : Nat) : ∀ {l : List α}, (∀ x ∈ l, (f x).size ≤ m) → (J f l).size ≤ l.length * m
  | [], _ => by simp [J]
  | x :: l, h => by
    rw [J_cons, ByteArray.size_append, List.length_cons, Nat.add_mul, Nat.one_mul]
    have := J_size f m (fun y hy => h y (List.mem_cons_of_mem _ hy))
    have := h x (List.mem_cons_self ..)
    omega
end
theorem strOf_J (l : List Int) : strOf l = J Utf8.encode l := rfl
theorem catI_J (l : List Itm) : catI l = J (·.Text) l := rfl
theorem enc_size4 (r : Int) : (Utf8.encode r).size ≤ 4 := by
  rw [encode_size]; exact (encodeRune_len r).2
def wr (of : Gfold_unit → ByteArray) (u : Gfold_unit) : ByteArray := if u.base < 0 then bytesOf [u.broken] else of u
theorem wr_plain (of : Gfold_unit → ByteArray) (l : List Gfold_unit) (hl : l.length ≤ 1048576) (h : ∀ u ∈ l, u.base < 0 ∧ U8 u.broken ∨ 0 ≤ u.base ∧ fold_plain_v u = some (of u) ∧ (of u).size ≤ 1048576) : fold_written_plain_v l = some (J (wr of) l) := by
  unfold fold_written_plain_v
  refine joinI ((loop1 (xs := l) (f := fun b u => b ++ wr of u) (J := some) (fun k b => b.size ≤ k * 1048576) ?_ ?_ ?_ (big_fuel (by omega)) (by decide)).trans rfl)
  · intro ag k u b hu hb
    have hk := lp_lt' hu
    unfold fold_written_plain_s1
    refine condTI (lp_lt hu) (joinI (thenI (lp_get hu) ?_))
    rcases h u (List.mem_of_getElem? hu) with ⟨h1, h2⟩ | ⟨h1, h2, h3⟩
    · exact condTI (decide_eq_true h1) (grdI (by omega) (grdI (by simpa using h2) (grdI (lp_i64 (by omega)) (by simp only [wr, if_pos h1]))))
    · exact condFI (decide_eq_false (by omega)) (thenI h2 (grdI (by omega) (grdI (lp_i64 (by omega)) (by simp only [wr, if_neg (show ¬ u.base < 0 by omega)]))))
  · intro k u b hu hb
    have hw : (wr of u).size ≤ 1048576 := by
      rcases h u (List.mem_of_getElem? hu) with ⟨h1, h2⟩ | ⟨h1, h2, h3⟩
      · unfold wr; rw [if_pos h1, bytesOf_size]; simp
      · unfold wr; rw [if_neg (by omega)]; exact h3
    rw [ByteArray.size_append]; omega
  · intro ag b _; unfold fold_written_plain_s1; exact condFI lp_ge rfl
/-! ### Items in order -/
def okT (x : Itm) : Prop := I32 x.Rune ∧ ((x.Rune < 0 ∧ x.Text.size = 1) ∨ (0 ≤ x.Rune ∧ x.Text = Utf8.encode x.Rune))
theorem okT_item {s : ByteArray} : ∀ x ∈ itemsP s, okT x := by
  intro x hx
  unfold itemsP at hx
  obtain ⟨p, hp, rfl⟩ := List.mem_map.1 hx
  obtain ⟨h1, h2⟩ := item_of hp
  obtain ⟨g1, g2, hok⟩ := pcs_pos s.data.toList p hp
  have hv := hok.valid
  cases hb : p.broken with
  | true => obtain ⟨e1, e2, _⟩ := h1 hb; exact ⟨by rw [e1]; exact ⟨by omega, by omega⟩, .inl ⟨by omega, e2⟩⟩
  | false =>
    obtain ⟨e1, e2⟩ := h2 hb
    refine ⟨by rw [e1]; exact ⟨by omega, by omega⟩, .inr ⟨by omega, by rw [e2, e1]⟩⟩
theorem okT_ap {l : List Itm} (h : ∀ x ∈ l, okT x) : ∀ x ∈ apL l, okT x := by
  intro y hy
  unfold apL at hy
  obtain ⟨x, hx, hy⟩ := List.mem_flatMap.1 hy
  unfold apI at hy
  split at hy
  · rename_i hL
    obtain ⟨r, hr, rfl⟩ := List.mem_map.1 hy
    obtain ⟨b, ms, hq, hb, _, hms, _⟩ := parts_shape (show letter x.Rune = true from hL)
    have h0 : 0 ≤ r := by
      rw [hq] at hr
      rcases List.mem_cons.1 hr with rfl | hr
      · exact (letter_rng _ hb).1
      · have := hms r hr; unfold mrk at this; simp at this; omega
    exact ⟨parts_i32 (h x hx).1 r hr, .inr ⟨h0, rfl⟩⟩
  · simp at hy; subst hy; exact h _ hx
theorem clF_mem : ∀ (xs : List Itm) (cur : Option (Itm × List Itm)) (c : Itm × List Itm), c ∈ clF cur xs → (∀ d, cur = some d → isL d.1 = false → d.2 = []) → ((c.1 ∈ xs ∨ ∃ d, cur = some d ∧ c.1 = d.1) ∧ (∀ m ∈ c.2, (isM m = true ∧ m ∈ xs) ∨ ∃ d, cur = some d ∧ m ∈ d.2) ∧ (isL c.1 = false → c.2 = []))
  | [], none, c, h, _ => by cases h
  | [], some d, c, h, hd => by
    simp [clF] at h; subst h
    exact ⟨.inr ⟨c, rfl, rfl⟩, fun m hm => .inr ⟨c, rfl, hm⟩, hd c rfl⟩
  | x :: xs, none, c, h, _ => by
    obtain ⟨h1, h2, h3⟩ := clF_mem xs (some (x, [])) c h (fun d hd _ => by cases hd; rfl)
    refine ⟨.inl ?_, fun m hm => .inl ?_, h3⟩
    · rcases h1 with h1 | ⟨d, hd, h1⟩
      · exact List.mem_cons_of_mem _ h1
      · cases hd; rw [h1]; exact List.mem_cons_self ..
    · rcases h2 m hm with ⟨a, b⟩ | ⟨d, hd, h2⟩
      · exact ⟨a, List.mem_cons_of_mem _ b⟩
      · cases hd; cases h2
  | x :: xs, some d, c, h, hd => by
    have h' : c ∈ (if isL d.1 && isM x then clF (some (d.1, d.2 ++ [x])) xs else d :: clF (some (x, [])) xs) := h
    cases hk : (isL d.1 && isM x) with
    | true =>
      rw [hk] at h'
      rw [Bool.and_eq_true] at hk
      obtain ⟨h1, h2, h3⟩ := clF_mem xs (some (d.1, d.2 ++ [x])) c h' (fun e he hl => by cases he; rw [hk.1] at hl; cases hl)
      refine ⟨?_, fun m hm => ?_, h3⟩
      · rcases h1 with h1 | ⟨e, he, h1⟩
        · exact .inl (List.mem_cons_of_mem _ h1)
        · cases he; exact .inr ⟨d, rfl, h1⟩
      · rcases h2 m hm with ⟨a, b⟩ | ⟨e, he, h2⟩
        · exact .inl ⟨a, List.mem_cons_of_mem _ b⟩
        · cases he
          rcases List.mem_append.1 h2 with h2 | h2
          · exact .inr ⟨d, rfl, h2⟩
          · simp at h2; subst h2; exact .inl ⟨hk.2, List.mem_cons_self ..⟩
    | false =>
      rw [hk] at h'
      rcases List.mem_cons.1 h' with rfl | h'
      · exact ⟨.inr ⟨c, rfl, rfl⟩, fun m hm => .inr ⟨c, rfl, hm⟩, hd c rfl⟩
      · obtain ⟨h1, h2, h3⟩ := clF_mem xs (some (x, [])) c h' (fun e he _ => by cases he; rfl)
        refine ⟨.inl ?_, fun m hm => .inl ?_, h3⟩
        · rcases h1 with h1 | ⟨e, he, h1⟩
          · exact List.mem_cons_of_mem _ h1
          · cases he; rw [h1]; exact List.mem_cons_self ..
        · rcases h2 m hm with ⟨a, b⟩ | ⟨e, he, h2⟩
          · exact ⟨a, List.mem_cons_of_mem _ b⟩
          · cases he; cases h2
theorem cl_mem {xs : List Itm} {c : Itm × List Itm} (h : c ∈ cl xs) : c.1 ∈ xs ∧ (∀ m ∈ c.2, isM m = true ∧ m ∈ xs) ∧ (isL c.1 = false → c.2 = []) := by
  obtain ⟨h1, h2, h3⟩ := clF_mem xs none c h (fun d hd => by cases hd)
  refine ⟨?_, fun m hm => ?_, h3⟩
  · rcases h1 with h1 | ⟨d, hd, _⟩
    · exact h1
    · cases hd
  · rcases h2 m hm with h2 | ⟨d, hd, _⟩
    · exact h2
    · cases hd
theorem clF_len : ∀ (xs : List Itm) (cur : Option (Itm × List Itm)), (clF cur xs).length ≤ xs.length + cur.toList.length ∧ ∀ c ∈ clF cur xs, c.2.length ≤ xs.length + (cur.toList.map (·.2.length)).sum
  | [], none => by simp [clF]
  | [], some d => by simp [clF]
  | x :: xs, none => by
    have := clF_len xs (some (x, []))
    refine ⟨?_, fun c hc => ?_⟩
    · have h1 := this.1; show (clF (some (x, [])) xs).length ≤ _; simp at h1 ⊢; omega
    · have h1 := this.2 c hc; simp at h1 ⊢; omega
  | x :: xs, some d => by
    have a := clF_len xs (some (d.1, d.2 ++ [x]))
    have b := clF_len xs (some (x, []))
    show (if isL d.1 && isM x then clF (some (d.1, d.2 ++ [x])) xs else d :: clF (some (x, [])) xs).length ≤ _ ∧ _
    show _ ∧ ∀ c ∈ (if isL d.1 && isM x then clF (some (d.1, d.2 ++ [x])) xs else d :: clF (some (x, [])) xs), _
    split
    · refine ⟨by have := a.1; simp at this ⊢; omega, fun c hc => by have := a.2 c hc; simp at this ⊢; omega⟩
    · refine ⟨by have := b.1; simp at this ⊢; omega, fun c hc => ?_⟩
      rcases List.mem_cons.1 hc with rfl | hc
      · simp
      · have := b.2 c hc; simp at this ⊢; omega
theorem cl_len (xs : List Itm) : (cl xs).length ≤ xs.length ∧ ∀ c ∈ cl xs, c.2.length ≤ xs.length := by
  have := clF_len xs none
  simpa [cl] using this
theorem clus_ok {s : ByteArray} (hs : s.size ≤ 65536) : (clus s).length ≤ 196608 ∧ ∀ c ∈ clus s, okT c.1 ∧ (∀ m ∈ c.2, isM m = true ∧ okT m) ∧ (isL c.1 = false → c.2 = []) ∧ c.2.length ≤ 196608 := by
  have h1 := cl_len (apL (itemsP s))
  have h2 := apL_len (itemsP s)
  have h3 : (itemsP s).length ≤ s.size := by unfold itemsP; simpa using pcs_count_le s
  have hok := okT_ap (okT_item (s := s))
  refine ⟨by unfold clus; omega, fun c hc => ?_⟩
  obtain ⟨g1, g2, g3⟩ := cl_mem hc
  exact ⟨hok _ g1, fun m hm => ⟨(g2 m hm).1, hok _ (g2 m hm).2⟩, g3, by have := h1.2 c hc; omega⟩
theorem toU_cases (c : Itm × List Itm) (h : okT c.1) : (toU c).base < 0 ∧ U8 (toU c).broken ∧ c.1.Rune < 0 ∧ bytesOf [(toU c).broken] = c.1.Text ∨ 0 ≤ (toU c).base ∧ 0 ≤ c.1.Rune ∧ c.1.Text = Utf8.encode c.1.Rune ∧ toU c = ⟨c.1.At, 0, c.1.Rune, (loI c.2).map (·.Rune), (hiI c.2).map (·.Rune)⟩ := by
  rcases h.2 with ⟨h1, h2⟩ | ⟨h1, h2⟩
  · left
    have e : toU c = ⟨c.1.At, byte0 c.1.Text, -1, [], []⟩ := by unfold toU; rw [if_pos h1]
    rw [e]
    refine ⟨by show (-1 : Int) < 0; omega, ?_, h1, ?_⟩
    · show U8 (byte0 c.1.Text); unfold byte0; constructor
      · omega
      · have := (c.1.Text.data.toList.headD 0).toNat_lt; omega
    · show bytesOf [byte0 c.1.Text] = _
      apply ByteArray.ext; apply Array.toList_inj.1
      have hl : c.1.Text.data.toList.length = 1 := by rw [Array.length_toList]; exact h2
      cases hq : c.1.Text.data.toList with
      | nil => rw [hq] at hl; cases hl
      | cons b l =>
        rw [hq] at hl
        have : l = [] := List.eq_nil_of_length_eq_zero (by simpa using hl)
        subst this
        unfold bytesOf byte0
        rw [hq]; simp
  · right
    have e : toU c = ⟨c.1.At, 0, c.1.Rune, (loI c.2).map (·.Rune), (hiI c.2).map (·.Rune)⟩ := by unfold toU; rw [if_neg (by omega)]
    rw [e]
    exact ⟨h1, h1, h2, rfl⟩
end Go.Proofs.Ytlamcpgnmeileaa
namespace Go.Proofs.Ytlamcpgnmeileaa
open Go.RowKit Go.Lib
set_option linter.unusedVariables false
set_option linter.unusedSimpArgs false
def bareI (xs : List Itm) : List Itm := (cl xs).map Prod.fst
theorem bareI_nil : bareI [] = [] := rfl
theorem bareI_letter {x : Itm} (h : isL x = true) (xs : List Itm) : bareI (x :: xs) = x :: bareI (xs.dropWhile isM) := by unfold bareI; rw [cl_letter h]; rfl
theorem bareI_other {x : Itm} (h : isL x = false) (xs : List Itm) : bareI (x :: xs) = x :: bareI xs := by unfold bareI; rw [cl_other h]; rfl
theorem take_ord (P R : List Itm) (hP : ∀ m ∈ P, isM m = true) (hR : ∀ y, R.head? = some y → isM y = false) : (P ++ ordI R).takeWhile isM = P := by
  induction P with
  | nil =>
    cases R with
    | nil => rfl
    | cons y R =>
      have hy := hR y rfl
      rw [List.nil_append]
      cases hL : isL y with
      | true => rw [ordI_letter hL, List.takeWhile_cons, hy]; rfl
      | false => rw [ordI_other hL, List.takeWhile_cons, hy]; rfl
  | cons m P ih =>
    rw [List.cons_append, List.takeWhile_cons, hP m (List.mem_cons_self ..)]
    simp only [if_true]
    rw [ih (fun z hz => hP z (List.mem_cons_of_mem _ hz))]
theorem head_drop (xs : List Itm) : ∀ y, (xs.dropWhile isM).head? = some y → isM y = false := by
  intro y hy
  have := List.head?_dropWhile_not (p := isM) (l := xs)
  rw [hy] at this
  simpa using this
theorem ordI_len (xs : List Itm) : (ordI xs).length = xs.length := by
  obtain ⟨n, hn⟩ : ∃ n, xs.length ≤ n := ⟨_, Nat.le_refl _⟩
  induction n generalizing xs with
  | zero => have : xs = [] := List.eq_nil_of_length_eq_zero (by omega); subst this; rfl
  | succ n ih =>
    cases xs with
    | nil => rfl
    | cons x xs =>
      simp only [List.length_cons] at hn
      cases hL : isL x with
      | false => rw [ordI_other hL, List.length_cons, List.length_cons, ih xs (by omega)]
      | true =>
        have h1 := lohi_len (xs.takeWhile isM)
        have h2 : xs.length = (xs.takeWhile isM).length + (xs.dropWhile isM).length := by
          have := congrArg List.length (List.takeWhile_append_dropWhile (p := isM) (l := xs))
          rw [List.length_append] at this; exact this.symm
        rw [ordI_letter hL, List.length_cons, List.length_append, h1, ih _ (by omega), List.length_cons]; omega
theorem ordI_mem {xs : List Itm} {y : Itm} (h : y ∈ ordI xs) : y ∈ xs := by
  unfold ordI at h
  obtain ⟨c, hc, hy⟩ := List.mem_flatMap.1 h
  obtain ⟨h1, h2, _⟩ := cl_mem hc
  unfold ordC loI hiI at hy
  rcases List.mem_cons.1 hy with rfl | hy
  · exact h1
  · rw [List.mem_append, List.mem_filter, List.mem_filter] at hy
    rcases hy with hy | hy <;> exact (h2 y hy.1).2
theorem bare_loop (r1 : List Itm) (J : List Itm → Option (List Itm)) (hb : r1.length ≤ 1073741824) : ∀ (m n : Nat) (A B out : List Itm), B.length ≤ m → B.length < n → r1 = A ++ ordI B → okIs B → out.length ≤ A.length →
    loopG (fun _ _ => none) (ref04_bare_s1 J r1) n out (A.length : Int) = J (out ++ bareI B) := by
  intro m
  induction m with
  | zero =>
    intro n A B out hB hn he hok ho
    have : B = [] := List.eq_nil_of_length_eq_zero (by omega)
    subst this
    obtain ⟨n, rfl⟩ : ∃ k, n = k + 1 := ⟨n - 1, by omega⟩
    rw [ordI_nil, List.append_nil] at he
    rw [loopI]
    unfold ref04_bare_s1
    exact condFI (decide_eq_false (by rw [he]; omega)) (by rw [bareI_nil, List.append_nil])
  | succ m ih =>
    intro n A B out hB hn he hok ho
    obtain ⟨n, rfl⟩ : ∃ k, n = k + 1 := ⟨n - 1, by omega⟩
    cases B with
    | nil =>
      rw [ordI_nil, List.append_nil] at he
      rw [loopI]
      unfold ref04_bare_s1
      exact condFI (decide_eq_false (by rw [he]; omega)) (by rw [bareI_nil, List.append_nil])
    | cons x xs =>
      simp only [List.length_cons] at hB hn
      have hx32 := hok x (List.mem_cons_self ..)
      have hlen : r1.length = A.length + 1 + xs.length := by rw [he, List.length_append, ordI_len]; simp; omega
      rw [loopI]
      generalize hag : loopG (fun _ _ => none) (ref04_bare_s1 J r1) n = ag at ih ⊢
      unfold ref04_bare_s1
      have hget : getO r1 (A.length : Int) = some x := getO_nat (by
        rw [he]
        cases hL : isL x with
        | true => rw [ordI_letter hL]; exact get_at A x _
        | false => rw [ordI_other hL]; exact get_at A x _)
      refine condTI (decide_eq_true (by omega)) (joinI (thenI hget (grdI (by omega) (thenI hget (thenI (iletter_v x hx32) ?_)))))
      have hL' : letter x.Rune = isL x := rfl
      rw [hL']
      cases hL : isL x with
      | false =>
        rw [ordI_other hL] at he
        refine condFI rfl (grdI ⟨by omega, by omega⟩ ?_)
        have := ih n (A ++ [x]) xs (out ++ [x]) (by omega) (by omega) (by rw [he]; simp) (fun z hz => hok z (List.mem_cons_of_mem _ hz)) (by simp; omega)
        rw [hag] at this
        rw [show ((A.length : Int) + 1) = ((A ++ [x]).length : Int) by simp, this, bareI_other hL]; simp
      | true =>
        rw [ordI_letter hL] at he
        obtain ⟨M, R, hM, hR, hMR⟩ : ∃ M R, M = xs.takeWhile isM ∧ R = xs.dropWhile isM ∧ xs = M ++ R := ⟨_, _, rfl, rfl, (List.takeWhile_append_dropWhile).symm⟩
        rw [← hM, ← hR] at he
        have hl2 := lohi_len M
        have hxs : xs.length = M.length + R.length := by rw [hMR]; simp
        have hcut : cutL r1 ((A.length : Int) + 1) (r1.length : Int) = (loI M ++ hiI M) ++ ordI R := by
          rw [he]; exact cut_rest A x _ _ rfl
        refine condTI rfl (grdI ⟨by omega, by omega⟩ (grdI ⟨by omega, by omega, by omega⟩ ?_))
        rw [hcut]
        refine thenI (marks_v _ (by rw [List.length_append, ordI_len]; omega)) ?_
        have htw : (((loI M ++ hiI M) ++ ordI R).takeWhile fun x => mrk x.Rune) = loI M ++ hiI M := take_ord _ _ (lohi_marks (by rw [hM]; exact take_marks xs)) (by rw [hR]; exact head_drop xs)
        rw [htw, hl2]
        refine grdI ⟨by omega, by omega⟩ (grdI ⟨by omega, by omega⟩ ?_)
        have := ih n (A ++ [x] ++ (loI M ++ hiI M)) R (out ++ [x]) (by omega) (by omega) (by rw [he]; simp) (fun z hz => hok z (by rw [hMR]; exact List.mem_cons_of_mem _ (List.mem_append_right _ hz))) (by simp; omega)
        rw [hag] at this
        rw [show ((A.length : Int) + (M.length : Int) + 1) = ((A ++ [x] ++ (loI M ++ hiI M)).length : Int) by rw [List.length_append, hl2]; simp; omega, this, bareI_letter hL, ← hR]; simp
theorem bare_v (l : List Itm) (hok : okIs l) (hl : l.length ≤ 268435456) : ref04_bare_v l = some (bareI (apL l)) := by
  unfold ref04_bare_v
  refine joinI (thenI (apart_v l hok hl) ?_)
  have h1 := apL_len l
  have h2 := ordI_len (apL l)
  have := bare_loop (ordI (apL l)) some (by omega) (apL l).length fuel [] (apL l) [] (Nat.le_refl _) (big_fuel (by omega)) rfl (okIs_ap hok) (Nat.le_refl _)
  simpa using this
/-! ### Plain letters -/
def plT : List (Int × List UInt8) := [(223, [115, 115]), (230, [97, 101]), (248, [111]), (240, [100]), (254, [116, 104]), (273, [100]), (295, [104]), (305, [105]), (307, [105, 106]), (312, [113]), (320, [108]), (322, [108]), (329, [110]), (331, [110, 103]), (339, [111, 101]), (359, [116]), (383, [115]), (962, [207, 131])]
def plainR (r : Int) : ByteArray := match getM r plT with | some b => ⟨b.toArray⟩ | none => Utf8.encode r
theorem rplain_v (r : Int) (hr : I32 r) : ref04_plain_v r = some (plainR r) := by
  unfold plainR plT
  simp only [getM]
  unfold ref04_plain_v
  simp only [joinK]
  have e : ∀ n : Int, (((r : Int) == n) = decide (r = n)) := fun n => by rw [Bool.eq_iff_iff]; simp
  by_cases h1 : r = 223
  · subst h1; rfl
  by_cases h2 : r = 230
  · subst h2; rfl
  by_cases h3 : r = 248
  · subst h3; rfl
  by_cases h4 : r = 240
  · subst h4; rfl
  by_cases h5 : r = 273
  · subst h5; rfl
  by_cases h6 : r = 254
  · subst h6; rfl
  by_cases h7 : r = 295
  · subst h7; rfl
  by_cases h8 : r = 305
  · subst h8; rfl
  by_cases h9 : r = 307
  · subst h9; rfl
  by_cases h10 : r = 312
  · subst h10; rfl
  by_cases h11 : r = 320
  · subst h11; rfl
  by_cases h12 : r = 322
  · subst h12; rfl
  by_cases h13 : r = 329
  · subst h13; rfl
  by_cases h14 : r = 331
  · subst h14; rfl
  by_cases h15 : r = 339
  · subst h15; rfl
  by_cases h16 : r = 359
  · subst h16; rfl
  by_cases h17 : r = 383
  · subst h17; rfl
  by_cases h18 : r = 962
  · subst h18; rfl
  simp only [e, decide_eq_false h1, decide_eq_false h2, decide_eq_false h3, decide_eq_false h4, decide_eq_false h5, decide_eq_false h6, decide_eq_false h7, decide_eq_false h8, decide_eq_false h9, decide_eq_false h10, decide_eq_false h11, decide_eq_false h12, decide_eq_false h13, decide_eq_false h14, decide_eq_false h15, decide_eq_false h16, decide_eq_false h17, decide_eq_false h18, bcond, cond_false, h1, h2, h3, h4, h5, h6, h7, h8, h9, h10, h11, h12, h13, h14, h15, h16, h17, h18, if_false]
  exact thenI (encode_v r hr) rfl
theorem plainR_size (r : Int) : (plainR r).size ≤ 4 := by
  unfold plainR
  split
  · rename_i b hb
    have h : ∀ p ∈ plT, p.2.length ≤ 4 := by decide
    have := h _ (getM_mem hb)
    show (b.toArray).size ≤ 4; simpa using this
  · exact enc_size4 r
/-- Folded, one item. -/
def foldI (x : Itm) : Itm := if isL x then ⟨x.Rune, plainR (lower x.Rune), x.At⟩ else x
theorem lower_i32 (r : Int) (h : letter r = true) : I32 (lower r) := by
  have := letter_rng r h
  unfold lower
  constructor <;> ((repeat' split) <;> omega)
theorem folded_v (s : ByteArray) (hs : s.size ≤ 65536) : ref04_Folded_v s = some ((bareI (apL (itemsP s))).map foldI) := by
  unfold ref04_Folded_v
  have h3 : (itemsP s).length ≤ s.size := by unfold itemsP; simpa using pcs_count_le s
  have hok : okIs (itemsP s) := fun x hx => (okT_item x hx).1
  refine joinI (thenI (items_v s (by omega)) (thenI (bare_v _ hok (by omega)) ?_))
  have hokB : okIs (bareI (apL (itemsP s))) := by
    intro x hx
    unfold bareI at hx
    obtain ⟨c, hc, rfl⟩ := List.mem_map.1 hx
    exact okIs_ap hok _ (cl_mem hc).1
  have hlB : (bareI (apL (itemsP s))).length ≤ 196608 := by
    have h1 := (cl_len (apL (itemsP s))).1
    have h2 := apL_len (itemsP s)
    unfold bareI; rw [List.length_map]; omega
  generalize bareI (apL (itemsP s)) = B at hokB hlB
  have key : ∀ (n k : Nat), k ≤ B.length → B.length - k < n → loopG (fun _ _ => none) (ref04_Folded_s1 some B) n ((B.take k).map foldI ++ B.drop k) (k : Int) = some (B.map foldI) := by
    intro n
    induction n with
    | zero => intro k _ h; omega
    | succ n ih =>
      intro k hk hn
      rw [loopI]
      generalize loopG (fun _ _ => none) (ref04_Folded_s1 some B) n = ag at ih ⊢
      unfold ref04_Folded_s1
      by_cases h : k < B.length
      · have hx : B[k]? = some B[k] := List.getElem?_eq_getElem h
        have hd := List.drop_eq_getElem_cons h
        have h32 := hokB B[k] (List.mem_of_getElem? hx)
        have hnx := ih (k + 1) (by omega) (by omega)
        have ht : B.take (k + 1) = B.take k ++ [B[k]] := by rw [List.take_add_one, hx]; rfl
        generalize hxe : B[k] = x at *
        have hlA : ((B.take k).map foldI).length = k := by simp; omega
        have hg : getO ((B.take k).map foldI ++ B.drop k) (k : Int) = some x := getO_nat (by
          rw [hd]
          have := get_at ((B.take k).map foldI) x (B.drop (k + 1))
          rwa [hlA] at this)
        refine condTI (decide_eq_true (by omega)) (joinI (thenI hg (thenI (iletter_v x h32) ?_)))
        have hL' : letter x.Rune = isL x := rfl
        rw [hL']
        rw [ht, List.map_append] at hnx
        push_cast at hnx
        cases hL : isL x with
        | false =>
          refine condFI rfl (grdI (lp_i64 (by omega)) ?_)
          have hf : foldI x = x := by unfold foldI; rw [hL]; rfl
          rw [← hnx, hd]
          congr 1
          simp [hf]
        | true =>
          refine condTI rfl (grdI h32 (thenI (rplain_v _ (lower_i32 _ hL)) (thenI hg (grdI (lp_i64 (by omega)) ?_))))
          have hf : foldI x = ⟨x.Rune, plainR (lower x.Rune), x.At⟩ := by unfold foldI; rw [hL]; rfl
          rw [← hnx]
          congr 1
          rw [hd, show ((k : Int)).toNat = ((B.take k).map foldI).length by rw [hlA]; simp, List.set_append_right _ _ (Nat.le_refl _)]
          simp [hf]
      · have : k = B.length := by omega
        subst this
        exact condFI lp_ge (by rw [List.take_length, List.drop_length, List.append_nil])
  have := key fuel 0 (Nat.zero_le _) (by have := big_fuel (n := B.length) (by omega); omega)
  simpa using this
end Go.Proofs.Ytlamcpgnmeileaa
namespace Go.Proofs.Ytlamcpgnmeileaa
open Go.RowKit Go.Lib
set_option linter.unusedVariables false
set_option linter.unusedSimpArgs false
def plS (sm : Int) (j1 : Option ByteArray) (ag1 : Int → Bool → Nat → Option ByteArray) (from3 : Int) (head3 : Bool) (m3 : Nat) : Option ByteArray := bcond (decide (m3 < (pcs str_f9f7e721.data.toList).length)) ( andThen ((pcs str_f9f7e721.data.toList)[m3]?) fun (p1 : Pc) => joinK (fun (j2 : Int → Option ByteArray) => bcond (((p1.r : Int) : Int) == 32) ( bcond (decide ((0 : Int) ≤ from3)) ( grd (0 ≤ (from3 : Int) ∧ (from3 : Int) ≤ (p1.i : Int) ∧ ((p1.i : Int) : Int) ≤ (str_f9f7e721.size : Int)) <| some (cutB str_f9f7e721 from3 (p1.i : Int))
) ( bcond (((p1.r : Int) : Int) == 32) ( j2 from3
) ( bcond (head3) ( bcond (((p1.r : Int) : Int) == sm) ( grd (I64 ((p1.i : Int) + ((Utf8.encode (p1.r : Int)).size : Int))) <| j2 ((p1.i : Int) + ((Utf8.encode (p1.r : Int)).size : Int))
) ( j2 from3
)
) ( j2 from3
)
)
)
) ( bcond (((p1.r : Int) : Int) == 32) ( j2 from3
) ( bcond (head3) ( bcond (((p1.r : Int) : Int) == sm) ( grd (I64 ((p1.i : Int) + ((Utf8.encode (p1.r : Int)).size : Int))) <| j2 ((p1.i : Int) + ((Utf8.encode (p1.r : Int)).size : Int))
) ( j2 from3
)
) ( j2 from3
)
)
)
) (fun (from4 : Int) => ag1 from4 (((p1.r : Int) : Int) == 32) (m3 + 1)
)
) ( j1
)
def othP : List Pc := pcs str_f9f7e721.data.toList
def plL (sm : Int) : Option ByteArray := loopG (fun _ _ _ => none) (plS sm (some (Utf8.encode sm))) fuel (-1) true 0
def hds : List Pc → Bool → List Int
  | [], _ => []
  | p :: ps, h => (if (p.r == 32) then [] else if h then [(p.r : Int)] else []) ++ hds ps (p.r == 32)
set_option maxRecDepth 100000 in
theorem hds_eq : hds othP true = plT.map Prod.fst := by decide +kernel
set_option maxRecDepth 100000 in
theorem plL_keys : (plT.all fun p => decide (plL p.1 = some (plainR p.1))) = true := by decide +kernel
theorem plL_none (sm : Int) (J : Option ByteArray) : ∀ (n m : Nat) (h : Bool), m ≤ othP.length → othP.length - m < n → sm ∉ hds (othP.drop m) h → loopG (fun _ _ _ => none) (plS sm J) n (-1) h m = J := by
  intro n
  induction n with
  | zero => intro m h _ hn; omega
  | succ n ih =>
    intro m h hm hn hs
    rw [loopI]
    generalize loopG (fun _ _ _ => none) (plS sm J) n = ag at ih ⊢
    unfold plS
    by_cases hlt : m < othP.length
    · have hx : othP[m]? = some othP[m] := List.getElem?_eq_getElem hlt
      rw [List.drop_eq_getElem_cons hlt] at hs
      generalize othP[m] = p at hx hs
      unfold hds at hs
      rw [List.mem_append, not_or] at hs
      have e : ((p.r : Int) == 32) = (p.r == 32) := by rw [Bool.eq_iff_iff]; simp; omega
      refine condTI (decide_eq_true hlt) (thenI hx (joinI ?_))
      have nx : ag (-1) ((p.r : Int) == 32) (m + 1) = J := ih (m + 1) _ (by omega) (by omega) (by rw [e]; exact hs.2)
      cases h32 : ((p.r : Int) == 32) with
      | true =>
        rw [h32] at nx
        exact condTI rfl (condFI (by decide) (condTI rfl nx))
      | false =>
        rw [h32] at nx
        refine condFI rfl (condFI rfl ?_)
        cases h with
        | false => exact condFI rfl nx
        | true =>
          have h1 := hs.1
          rw [← e, h32] at h1
          refine condTI rfl (condFI ?_ nx)
          rw [beq_eq_false_iff_ne]
          intro e2
          exact h1 (by simp [e2])
    · exact condFI (decide_eq_false hlt) rfl
theorem plL_v (sm : Int) : plL sm = some (plainR sm) := by
  by_cases h : sm ∈ plT.map Prod.fst
  · obtain ⟨p, hp, rfl⟩ := List.mem_map.1 h
    exact of_decide_eq_true (List.all_eq_true.1 plL_keys p hp)
  · have : plL sm = some (Utf8.encode sm) := plL_none sm _ fuel 0 true (Nat.zero_le _) (by
      have : othP.length ≤ 100000 := by decide +kernel
      unfold fuel; omega) (by rw [List.drop_zero, hds_eq]; exact h)
    rw [this]
    unfold plainR
    cases hg : getM sm plT with
    | none => rfl
    | some b => exact absurd (List.mem_map.2 ⟨_, getM_mem hg, rfl⟩) h
theorem plain_v (u : Gfold_unit) (hu : I32 u.base) : fold_plain_v u = some (if letter u.base then plainR (lower u.base) else Utf8.encode u.base) := by
  unfold fold_plain_v
  refine thenI (letter_v u hu) ?_
  cases hL : letter u.base with
  | false => exact condTI rfl rfl
  | true => exact condFI rfl (joinI (grdI hu (plL_v (lower u.base))))
/-! ### Fold, Bare, Apart -/
def foldC (c : Itm × List Itm) : ByteArray := (foldI c.1).Text
def foldS (s : ByteArray) : ByteArray := J foldC (clus s)
theorem wr_of (of : Gfold_unit → ByteArray) (g : Itm × List Itm → ByteArray) (s : ByteArray) (hs : s.size ≤ 65536) (h : ∀ c ∈ clus s, 0 ≤ c.1.Rune → of (toU c) = g c) (hneg : ∀ c ∈ clus s, c.1.Rune < 0 → g c = c.1.Text) : J (wr of) ((clus s).map toU) = J g (clus s) := by
  rw [J_map]
  refine J_congr fun c hc => ?_
  obtain ⟨h1, h2, h3, _⟩ := (clus_ok hs).2 c hc
  unfold wr
  rcases toU_cases c h1 with ⟨g1, _, g3, g4⟩ | ⟨g1, g2, g3, g4⟩
  · rw [if_pos g1, g4, hneg c hc g3]
  · rw [if_neg (by omega), h c hc g2]
theorem not_letter_neg {x : Itm} (h : x.Rune < 0) : isL x = false := by
  cases e : isL x with
  | false => rfl
  | true => have := (letter_rng x.Rune e).1; omega
theorem foldC_eq (c : Itm × List Itm) (h : okT c.1) : (0 ≤ c.1.Rune → (if letter (toU c).base then plainR (lower (toU c).base) else Utf8.encode (toU c).base) = foldC c) ∧ (c.1.Rune < 0 → foldC c = c.1.Text) := by
  constructor
  · intro h0
    have hb := toU_base c h0
    rw [hb]
    unfold foldC foldI isL
    rcases h.2 with ⟨h1, _⟩ | ⟨_, h2⟩
    · omega
    · cases letter c.1.Rune with
      | true => rfl
      | false => simp [h2]
  · intro h0
    unfold foldC foldI; rw [not_letter_neg h0]; rfl
theorem fold_v (s : ByteArray) (hs : s.size ≤ 65536) : fold_Fold_v s = some (foldS s) := by
  unfold fold_Fold_v
  obtain ⟨hl, hc⟩ := clus_ok hs
  refine thenI (units_v s hs) (thenI (wr_plain (fun u => if letter u.base then plainR (lower u.base) else Utf8.encode u.base) _ (by rw [List.length_map]; omega) ?_) ?_)
  · intro u hu
    obtain ⟨c, hcm, rfl⟩ := List.mem_map.1 hu
    obtain ⟨h1, _⟩ := hc c hcm
    rcases toU_cases c h1 with ⟨g1, g2, _⟩ | ⟨g1, g2, g3, g4⟩
    · exact .inl ⟨g1, g2⟩
    · refine .inr ⟨g1, plain_v _ (by rw [toU_base c g2]; exact h1.1), ?_⟩
      split
      · have := plainR_size (lower (toU c).base); omega
      · have := enc_size4 (toU c).base; omega
  · rw [wr_of _ foldC s hs (fun c hcm h0 => (foldC_eq c (hc c hcm).1).1 h0) (fun c hcm h0 => (foldC_eq c (hc c hcm).1).2 h0)]; rfl
theorem sizeI_le {l : List Itm} {m : Nat} (h : ∀ x ∈ l, x.Text.size ≤ m) : sizeI l ≤ l.length * m := by
  unfold sizeI
  induction l with
  | nil => simp
  | cons x l ih =>
    have := ih (fun y hy => h y (List.mem_cons_of_mem _ hy))
    have := h x (List.mem_cons_self ..)
    simp only [List.map_cons, List.sum_cons, List.length_cons, Nat.add_mul, Nat.one_mul]; omega
theorem okT_size {x : Itm} (h : okT x) : x.Text.size ≤ 4 := by
  rcases h.2 with ⟨_, h⟩ | ⟨_, h⟩
  · omega
  · rw [h]; exact enc_size4 _
theorem foldI_size {x : Itm} (h : okT x) : (foldI x).Text.size ≤ 4 := by
  unfold foldI
  split
  · exact plainR_size _
  · exact okT_size h
theorem bareI_clus (s : ByteArray) : bareI (apL (itemsP s)) = (clus s).map Prod.fst := rfl
theorem rfold_v (s : ByteArray) (hs : s.size ≤ 65536) : ref04_Fold_v s = some (foldS s) := by
  unfold ref04_Fold_v
  obtain ⟨hl, hc⟩ := clus_ok hs
  refine thenI (folded_v s hs) ?_
  rw [bareI_clus, List.map_map]
  have hsz : sizeI ((clus s).map (foldI ∘ Prod.fst)) ≤ ((clus s).map (foldI ∘ Prod.fst)).length * 4 := sizeI_le (fun x hx => by
    obtain ⟨c, hcm, rfl⟩ := List.mem_map.1 hx
    exact foldI_size (hc c hcm).1)
  rw [List.length_map] at hsz
  refine thenI (text_v _ (by rw [List.length_map]; omega) (by omega)) ?_
  rw [catI_J, J_map]; rfl
theorem same_v (a b : ByteArray) (ha : a.size ≤ 65536) (hb : b.size ≤ 65536) : fold_Same_v a b = some (decide (foldS a = foldS b)) := thenI (fold_v a ha) (thenI (fold_v b hb) rfl)
end Go.Proofs.Ytlamcpgnmeileaa
namespace Go.Proofs.Ytlamcpgnmeileaa
open Go.RowKit Go.Lib
set_option linter.unusedVariables false
set_option linter.unusedSimpArgs false
def law04_wakes_v  : Option Bool := andThen (fold_Fold_v (⟨#[83, 116, 114, 97, 195, 159, 101, 204, 129]⟩ : ByteArray)) fun (r1 : ByteArray) => bcond (decide (r1 = (⟨#[115, 116, 114, 97, 115, 115, 101]⟩ : ByteArray))) ( andThen (fold_Same_v (⟨#[195, 137]⟩ : ByteArray) (⟨#[101]⟩ : ByteArray)) fun (r2 : Bool) => some r2
) ( some false
)
set_option maxRecDepth 100000 in
set_option maxHeartbeats 4000000 in
theorem law04_wakes_fn  {r : Bool} (h : law04_wakes_v = some r) : FnP Try.prog 7 [] (.bool r) := by
 unfold law04_wakes_v at h
 refine FnP.intro Try.func7 rfl Try.ntmps7 (by simp) ?_
 intro w0 K
 refine TC.seq (TC.region (TO.assign rfl dc rfl (TO.nil (TX.next (TC.seq (TC.region ?_))))))
 obtain ⟨r1, hq1, h⟩ := andE h
 refine TO.callP (v := .string r1) (vs := [.string (⟨#[83, 116, 114, 97, 195, 159, 101, 204, 129]⟩ : ByteArray)]) rfl dc rfl rfl rfl en_10 (fold_Fold_fn hq1) (TO.bin rfl dc rfl rfl bin_seql (TO.move rfl dc rfl ?_))
 refine TO.split (s := 3) rfl (fun hb1 => ?_) (fun hb1 => ?_)
 ·
  have h := condT hb1 h
  obtain ⟨r2, hq2, h⟩ := andE h
  refine TO.callP (v := .bool r2) (vs := [.string (⟨#[195, 137]⟩ : ByteArray), .string (⟨#[101]⟩ : ByteArray)]) rfl dc rfl rfl rfl en_11 (fold_Same_fn hq2) (TO.pick (b := true) rfl dc rfl rfl (TO.assign rfl dc rfl (TO.nil (TX.next (TC.ret ?_)))))
  cases h
  exact TX.fin (rs := [.tmp 0]) () (.inl rfl) Try.results7 (.cons (.tmp rfl) .nil) rfl Splits.nil
 ·
  have h := condF hb1 h
  refine TO.skip rfl dc (TO.pick (b := false) rfl dc rfl rfl (TO.assign rfl dc rfl (TO.nil (TX.next (TC.ret ?_)))))
  cases h
  exact TX.fin (rs := [.tmp 0]) () (.inl rfl) Try.results7 (.cons (.tmp rfl) .nil) rfl Splits.nil
end Go.Proofs.Ytlamcpgnmeileaa
namespace Go.Proofs.Ytlamcpgnmeileaa
open Go.RowKit Go.Lib
set_option linter.unusedVariables false
set_option linter.unusedSimpArgs false
set_option maxRecDepth 100000 in
theorem wake1 : foldS ⟨#[83, 116, 114, 97, 195, 159, 101, 204, 129]⟩ = ⟨#[115, 116, 114, 97, 115, 115, 101]⟩ := by decide +kernel
set_option maxRecDepth 100000 in
theorem wake2 : foldS ⟨#[195, 137]⟩ = foldS ⟨#[101]⟩ := by decide +kernel
theorem wakes_v : law04_wakes_v = some true :=
  thenI ((fold_v _ (by decide)).trans (congrArg some wake1)) (condTI (decide_eq_true rfl) (thenI (same_v _ _ (by decide) (by decide)) (congrArg some (decide_eq_true wake2))))
theorem cut_le (s : ByteArray) (n : Nat) : (cutB s 0 (min (s.size : Int) n)).size ≤ n := by
  unfold cutB; rw [ByteArray.size_extract]; omega
theorem cut_le' (s : ByteArray) (n : Nat) : (cutB s 0 (n : Int)).size ≤ n := by
  unfold cutB; rw [ByteArray.size_extract]; omega
end Go.Proofs.Ytlamcpgnmeileaa
namespace Go.Proofs.Ytlamcpgnmeileaa
open Go.RowKit Go.Lib
set_option linter.unusedVariables false
set_option linter.unusedSimpArgs false

end Go.Proofs.Ytlamcpgnmeileaa
namespace Go.Proofs.Ytlamcpgnmeileaa
open Go.RowKit Go.Lib
set_option linter.unusedVariables false
set_option linter.unusedSimpArgs false

end Go.Proofs.Ytlamcpgnmeileaa
namespace Go.Proofs.Ytlamcpgnmeileaa
open Go.RowKit Go.Lib
set_option linter.unusedVariables false
set_option linter.unusedSimpArgs false
def trC (c : Itm × List Itm) : List Int := List.replicate (foldC c).size c.1.At
def trS (s : ByteArray) : List Int := (clus s).flatMap trC
def plU (u : Gfold_unit) : ByteArray := if letter u.base then plainR (lower u.base) else Utf8.encode u.base
theorem wr_foldC (c : Itm × List Itm) (h : okT c.1) : wr plU (toU c) = foldC c ∧ (toU c).at_ = c.1.At ∧ (foldC c).size ≤ 4 ∧ ((toU c).base < 0 ∧ U8 (toU c).broken ∨ 0 ≤ (toU c).base ∧ fold_plain_v (toU c) = some (plU (toU c)) ∧ (plU (toU c)).size ≤ 1048576) := by
  have e4 : (foldC c).size ≤ 4 := foldI_size h
  refine ⟨?_, ?_, e4, ?_⟩
  · unfold wr
    rcases toU_cases c h with ⟨g1, _, g3, g4⟩ | ⟨g1, g2, g3, g4⟩
    · rw [if_pos g1, g4, (foldC_eq c h).2 g3]
    · rw [if_neg (by omega)]; exact (foldC_eq c h).1 g2
  · unfold toU; split <;> rfl
  · rcases toU_cases c h with ⟨g1, g2, _⟩ | ⟨g1, g2, g3, g4⟩
    · exact .inl ⟨g1, g2⟩
    · refine .inr ⟨g1, plain_v _ (by rw [toU_base c g2]; exact h.1), ?_⟩
      unfold plU
      split
      · have := plainR_size (lower (toU c).base); omega
      · have := enc_size4 (toU c).base; omega
theorem foldl_eq {α β : Type} {f g : β → α → β} : ∀ {l : List α} (a : β), (∀ x ∈ l, ∀ a, f a x = g a x) → l.foldl f a = l.foldl g a
  | [], a, _ => rfl
  | x :: l, a, h => by rw [List.foldl_cons, List.foldl_cons, h x (List.mem_cons_self ..) a, foldl_eq _ (fun y hy => h y (List.mem_cons_of_mem _ hy))]
theorem trS_fold (cs : List (Itm × List Itm)) : ∀ (b : ByteArray) (l : List Int), cs.foldl (fun (a : ByteArray × List Int) c => (a.1 ++ foldC c, a.2 ++ trC c)) (b, l) = (b ++ J foldC cs, l ++ cs.flatMap trC) := by
  induction cs with
  | nil => intro b l; simp [J_nil]
  | cons c cs ih => intro b l; rw [List.foldl_cons, ih, J_cons, ByteArray.append_assoc, List.flatMap_cons, List.append_assoc]
theorem trS_len (s : ByteArray) : (trS s).length = (foldS s).size := by
  unfold trS foldS
  induction clus s with
  | nil => rfl
  | cons c cs ih => rw [List.flatMap_cons, J_cons, ByteArray.size_append, List.length_append, ih]; unfold trC; rw [List.length_replicate]
theorem foldS_size (s : ByteArray) (hs : s.size ≤ 65536) : (foldS s).size ≤ 786432 := by
  obtain ⟨hl, hc⟩ := clus_ok hs
  have := J_size foldC 4 (l := clus s) (fun c hcm => foldI_size (hc c hcm).1)
  unfold foldS; omega
/-- The way back of a span. -/
def backS (s : ByteArray) (x : Gapi_Span) : Option Gapi_Span :=
  if x.From < 0 ∨ x.To < x.From ∨ ((foldS s).size : Int) < x.To then none
  else some ⟨((trS s ++ [(s.size : Int)])[x.From.toNat]?).getD 0, ((trS s ++ [(s.size : Int)])[x.To.toNat]?).getD 0⟩
theorem at_way {s : ByteArray} {i : Int} (h : 0 ≤ i ∧ i ≤ ((foldS s).size : Int)) : getO (trS s ++ [(s.size : Int)]) i = some (((trS s ++ [(s.size : Int)])[i.toNat]?).getD 0) := by
  have hl := trS_len s
  unfold getO
  rw [if_pos h.1]
  have : i.toNat < (trS s ++ [(s.size : Int)]).length := by simp; omega
  rw [List.getElem?_eq_getElem this]; rfl
end Go.Proofs.Ytlamcpgnmeileaa
namespace Go.Proofs.Ytlamcpgnmeileaa
open Go.RowKit Go.Lib
set_option linter.unusedVariables false
set_option linter.unusedSimpArgs false
theorem strOf_size (l : List Int) : (strOf l).size ≤ l.length * 4 := by rw [strOf_J]; exact J_size _ 4 fun x _ => enc_size4 x
def strip (x : Itm) : Itm := ⟨x.Rune, x.Text, 0⟩
def stripC (c : Itm × List Itm) : Itm × List Itm := (strip c.1, c.2.map strip)
theorem isL_strip (x : Itm) : isL (strip x) = isL x := rfl
theorem isM_strip (x : Itm) : isM (strip x) = isM x := rfl
theorem clF_strip : ∀ (xs : List Itm) (cur : Option (Itm × List Itm)), clF (cur.map stripC) (xs.map strip) = (clF cur xs).map stripC
  | [], none => rfl
  | [], some c => rfl
  | x :: xs, none => clF_strip xs (some (x, []))
  | x :: xs, some c => by
    show (if isL (strip c.1) && isM (strip x) then clF (some (strip c.1, c.2.map strip ++ [strip x])) (xs.map strip) else stripC c :: clF (some (strip x, [])) (xs.map strip)) = (if isL c.1 && isM x then clF (some (c.1, c.2 ++ [x])) xs else c :: clF (some (x, [])) xs).map stripC
    rw [isL_strip, isM_strip]
    have h1 := clF_strip xs (some (c.1, c.2 ++ [x]))
    have h2 := clF_strip xs (some (x, []))
    simp only [Option.map_some, stripC, List.map_append, List.map_cons, List.map_nil] at h1 h2
    split
    · exact h1
    · rw [List.map_cons, ← h2]
theorem cl_strip (xs : List Itm) : cl (xs.map strip) = (cl xs).map stripC := clF_strip xs none
theorem apI_strip (x : Itm) : apI (strip x) = (apI x).map strip := by
  unfold apI
  rw [isL_strip]
  split
  · rw [List.map_map]; rfl
  · rfl
theorem apL_strip (xs : List Itm) : apL (xs.map strip) = (apL xs).map strip := by
  unfold apL
  induction xs with
  | nil => rfl
  | cons x xs ih => rw [List.map_cons, List.flatMap_cons, List.flatMap_cons, List.map_append, ih, apI_strip]
theorem foldC_strip (c : Itm × List Itm) : foldC (stripC c) = foldC c := by
  unfold foldC foldI stripC
  rw [isL_strip]
  split <;> rfl
/-- A token as an item. -/
def tokI (t : Tok) : Itm := ⟨if t.broken then -1 else (t.r : Int), ⟨t.bs.toArray⟩, 0⟩
def clT (ts : List Tok) : List (Itm × List Itm) := cl (apL (ts.map tokI))
def FT (ts : List Tok) : ByteArray := J foldC (clT ts)
theorem items_place (s : ByteArray) : ∀ (ts pre : List Tok), s.data.toList = flat (pre ++ ts) → ((place (flat pre).length ts).map (itG s)).map strip = ts.map tokI
  | [], pre, _ => rfl
  | t :: ts, pre, h => by
    have e : (flat pre).length + t.bs.length = (flat (pre ++ [t])).length := by rw [flat_append, List.length_append]; simp [flat]
    show strip (itG s ⟨(flat pre).length, t.bs.length, t.r⟩) :: ((place ((flat pre).length + t.bs.length) ts).map (itG s)).map strip = _
    rw [e, items_place s ts (pre ++ [t]) (by rw [h]; simp), List.map_cons]
    congr 1
    unfold strip itG tokI
    have hb : (⟨(flat pre).length, t.bs.length, t.r⟩ : Pc).broken = t.broken := rfl
    rw [hb]
    have ht : s.extract (flat pre).length ((flat pre).length + t.bs.length) = ⟨t.bs.toArray⟩ := by
      apply ByteArray.ext; apply Array.toList_inj.1
      rw [Lib.extract_data, h, flat_append, flat_cons]
      simp
    simp only [ht]
theorem items_toks (s : ByteArray) : (itemsP s).map strip = (toks s.data.toList).map tokI := by
  unfold itemsP pcs
  rw [pcs_place]
  have := items_place s (toks s.data.toList) [] (by rw [List.nil_append, flat_toks])
  exact this
theorem clus_strip (s : ByteArray) : (clus s).map stripC = clT (toks s.data.toList) := by
  unfold clT clus
  rw [← items_toks, apL_strip, cl_strip]
theorem foldS_toks (s : ByteArray) : foldS s = FT (toks s.data.toList) := by
  unfold foldS FT
  rw [← clus_strip, J_map]
  exact J_congr fun c _ => (foldC_strip c).symm
/-- The item of a rune. -/
def mkI (r : Int) : Itm := ⟨r, Utf8.encode r, 0⟩
theorem tokI_valid {t : Tok} (h : t.valid) : tokI t = mkI (t.r : Int) := by
  unfold tokI mkI
  rw [valid_not_broken h]
  have : (⟨t.bs.toArray⟩ : ByteArray) = Utf8.encode (t.r : Int) := by
    apply ByteArray.ext; apply Array.toList_inj.1
    rw [encode_list, ← h.2]
  rw [this]; rfl
theorem parts_other {r : Int} (h : letter r = false) : parts r = [r] := by
  unfold parts
  cases e : getM r tabS with
  | none => rfl
  | some p => have := (tabS_rng e).2.2; rw [h] at this; cases this
theorem apI_mk (r : Int) : apI (mkI r) = (parts r).map mkI := by
  unfold apI
  cases h : isL (mkI r) with
  | true => rfl
  | false => rw [parts_other (show letter r = false from h)]; rfl
theorem apL_mk (rs : List Int) : apL (rs.map mkI) = (rs.flatMap parts).map mkI := by
  unfold apL
  induction rs with
  | nil => rfl
  | cons r rs ih => rw [List.map_cons, List.flatMap_cons, List.flatMap_cons, List.map_append, ih, apI_mk]
theorem parts_parts {r x : Int} (h : x ∈ parts r) : parts x = [x] := by
  cases hL : letter r with
  | false =>
    rw [parts_other hL] at h
    simp at h; subst h; exact parts_other hL
  | true =>
    obtain ⟨b, ms, hq, hb, hn, hms, _⟩ := parts_shape hL
    rw [hq] at h
    rcases List.mem_cons.1 h with rfl | h
    · unfold parts; rw [hn]
    · exact parts_other (mrk_not_letter (hms x h))
theorem parts_twice (rs : List Int) : (rs.flatMap parts).flatMap parts = rs.flatMap parts := by
  rw [List.flatMap_assoc]
  congr 1
  funext r
  have : ∀ l : List Int, (∀ x ∈ l, parts x = [x]) → l.flatMap parts = l := by
    intro l
    induction l with
    | nil => intro _; rfl
    | cons y l ih => intro h; rw [List.flatMap_cons, h y (List.mem_cons_self ..), ih (fun z hz => h z (List.mem_cons_of_mem _ hz))]; rfl
  exact this _ fun x hx => parts_parts hx
/-- The tokens of a text of runes. -/
def tokR (r : Int) : Tok := ⟨r.toNat, encodeRune r⟩
theorem tokR_valid {r : Int} (h : vr r) : (tokR r).valid := by
  unfold vr at h
  refine ⟨?_, ?_⟩
  · show r.toNat < 55296 ∨ _; simp only [tokR]; omega
  · show encodeRune r = encodeRune ((r.toNat : Nat) : Int)
    rw [show ((r.toNat : Nat) : Int) = r by omega]
theorem strOf_toks {rs : List Int} (h : ∀ r ∈ rs, vr r) : toks (strOf rs).data.toList = rs.map tokR := by
  have e : (strOf rs).data.toList = flat (rs.map tokR) := by
    rw [strOf_J]
    clear h
    induction rs with
    | nil => rfl
    | cons r rs ih =>
      rw [J_cons, List.map_cons, flat_cons, ← ih]
      have : (Utf8.encode r).data.toList = encodeRune r := encode_list r
      show (Utf8.encode r ++ J Utf8.encode rs).data.toList = encodeRune r ++ _
      rw [← this]; simp
  rw [e]
  have := toks_valids (vs := rs.map tokR) (fun t ht => by obtain ⟨r, hr, rfl⟩ := List.mem_map.1 ht; exact tokR_valid (h r hr)) []
  simpa [toks_nil] using this
theorem foldS_str {rs : List Int} (h : ∀ r ∈ rs, vr r) : foldS (strOf rs) = J foldC (cl ((rs.flatMap parts).map mkI)) := by
  rw [foldS_toks, strOf_toks h]
  unfold FT clT
  have : (rs.map tokR).map tokI = rs.map mkI := by
    rw [List.map_map]
    refine List.map_congr_left fun r hr => ?_
    have hv := h r hr
    show tokI (tokR r) = mkI r
    rw [tokI_valid (tokR_valid hv)]
    show mkI ((r.toNat : Nat) : Int) = mkI r
    rw [show ((r.toNat : Nat) : Int) = r by unfold vr at hv; omega]
  rw [this, apL_mk]
theorem parts_vr {r : Int} (h : vr r) : ∀ x ∈ parts r, vr x := by
  intro x hx
  cases hL : letter r with
  | false => rw [parts_other hL] at hx; simp at hx; subst hx; exact h
  | true =>
    obtain ⟨b, ms, hq, hb, hn, hms, _⟩ := parts_shape hL
    rw [hq] at hx
    rcases List.mem_cons.1 hx with rfl | hx
    · have := letter_rng _ hb; unfold vr; omega
    · have := hms x hx; unfold mrk at this; simp at this; unfold vr; omega
theorem runesOf_vr (s : ByteArray) : ∀ r ∈ runesOf s, vr r := by
  intro r hr
  unfold runesOf at hr
  obtain ⟨p, hp, rfl⟩ := List.mem_map.1 hr
  obtain ⟨g1, g2, hok⟩ := pcs_pos s.data.toList p hp
  have := hok.valid
  unfold vr; omega
theorem fold_parts {rs : List Int} (h : ∀ r ∈ rs, vr r) : foldS (strOf (rs.flatMap parts)) = foldS (strOf rs) := by
  rw [foldS_str h, foldS_str (fun x hx => by obtain ⟨r, hr, hx⟩ := List.mem_flatMap.1 hx; exact parts_vr (h r hr) x hx), parts_twice]
end Go.Proofs.Ytlamcpgnmeileaa
namespace Go.Proofs.Ytlamcpgnmeileaa
open Go.RowKit Go.Lib
set_option linter.unusedVariables false
set_option linter.unusedSimpArgs false
theorem decCont {b : UInt8} {l : List UInt8} (h : contB b = true) : decodeL (b :: l) = (65533, 1) := by
  rw [decodeL_N]
  have hb : b.toNat / 64 = 2 := by simpa [contB] using h
  have e : ((b :: l).getD 0 0).toNat = b.toNat := rfl
  unfold decodeN
  rw [e, if_neg (by omega), if_neg (by omega), if_neg (by omega), if_neg (by omega)]
theorem encTail (r : Nat) (hv : r < 55296 ∨ (57343 < r ∧ r ≤ 1114111)) (i : Nat) (b : UInt8) (hi : 0 < i) (h : (encodeRune r)[i]? = some b) : contB b = true := by
  unfold encodeRune at h
  rw [List.getElem?_map, Option.map_eq_some_iff] at h
  obtain ⟨z, hz, rfl⟩ := h
  have key : 128 ≤ z ∧ z < 192 := by
    rcases encZ_shape r hv with ⟨_, e⟩ | ⟨_, _, e⟩ | ⟨_, _, e⟩ | ⟨_, _, e⟩ <;> rw [e] at hz
    · rcases i with _ | i
      · omega
      · simp at hz
    · rcases i with _ | _ | i
      · omega
      · simp at hz; omega
      · simp at hz
    · rcases i with _ | _ | _ | i
      · omega
      · simp at hz; omega
      · simp at hz; omega
      · simp at hz
    · rcases i with _ | _ | _ | _ | i
      · omega
      · simp at hz; omega
      · simp at hz; omega
      · simp at hz; omega
      · simp at hz
  unfold contB
  rw [u8_toNat z (by omega) (by omega)]
  simp; omega
/-- No form goes over a boundary. -/
theorem noOver : ∀ (a b : List Tok), Good (a ++ b) → ∀ m, m < (flat a).length → ¬ ((decodeL ((flat (a ++ b)).drop m)).1 = 65533 ∧ (decodeL ((flat (a ++ b)).drop m)).2 = 1) → m + (decodeL ((flat (a ++ b)).drop m)).2 ≤ (flat a).length
  | [], b, _, m, hm, _ => by simp [flat] at hm
  | t :: a, b, hg, m, hm, hb => by
    have hok := good_ok hg t (by simp)
    have hne := bs_ne hok
    have hlt : 0 < t.bs.length := List.length_pos_iff.2 hne
    have hfl : flat (t :: a ++ b) = t.bs ++ flat (a ++ b) := by rw [List.cons_append, flat_cons]
    have hfa : (flat (t :: a)).length = t.bs.length + (flat a).length := by rw [flat_cons, List.length_append]
    rw [hfl] at hb ⊢
    rw [hfa] at hm ⊢
    by_cases h0 : m = 0
    · subst h0
      have h : toks (flat (t :: a ++ b)) = t :: (a ++ b) := hg
      rw [hfl, toks_cons _ (by simp [hne])] at h
      have h1 := congrArg Tok.bs (List.cons.inj h).1
      simp only at h1
      have h2 := dec_le (t.bs ++ flat (a ++ b)) (by simp [hne])
      have h3 := congrArg List.length h1
      rw [List.length_take, Nat.min_eq_left h2] at h3
      rw [List.drop_zero]; omega
    · by_cases h1 : m < t.bs.length
      · exfalso
        rcases hok with hv | hbr
        · have hget : (encodeRune t.r)[m]? = some (t.bs[m]) := by rw [← hv.2]; exact List.getElem?_eq_getElem h1
          have hc := encTail t.r hv.1 m _ (by omega) hget
          have hd : (t.bs ++ flat (a ++ b)).drop m = t.bs[m] :: (t.bs ++ flat (a ++ b)).drop (m + 1) := by
            rw [List.drop_eq_getElem_cons (by simp; omega), List.getElem_append_left h1]
          rw [hd, decCont hc] at hb
          exact hb ⟨rfl, rfl⟩
        · unfold Tok.broken at hbr
          simp at hbr; omega
      · have e : (t.bs ++ flat (a ++ b)).drop m = (flat (a ++ b)).drop (m - t.bs.length) := by
          rw [List.drop_append, List.drop_eq_nil_of_le (by omega), List.nil_append]
        rw [e] at hb ⊢
        have := noOver a b (good_tail hg) (m - t.bs.length) (by omega) hb
        omega
/-- Nothing goes over a boundary. -/
theorem boundaryV (s : ByteArray) (a b : List Tok) (hd : s.data.toList = flat (a ++ b)) (hg : Good (a ++ b)) (hsz : s.size ≤ 9223372036854775000) : runes_Boundary_v s ((flat a).length : Int) = some true := by
  have hn : (flat a).length ≤ s.size := by
    have h1 : s.data.toList.length = s.size := by simp
    rw [← h1, hd, flat_append, List.length_append]; omega
  unfold runes_Boundary_v
  refine condFI (decide_eq_false (by omega)) (condFI (decide_eq_false (by omega)) (thenI (a := ((⟨0, 0, 0, false⟩ : Gapi_Piece), false)) ?_ rfl))
  unfold runes_within_v
  refine joinI (grdI ⟨by omega, by omega⟩ ?_)
  have key : ∀ n m : Nat, m ≤ (flat a).length → (flat a).length - m < n → loopG (fun _ => none) (runes_within_s1 s ((flat a).length : Int) (some ((⟨0, 0, 0, false⟩ : Gapi_Piece), false))) n (m : Int) = some ((⟨0, 0, 0, false⟩ : Gapi_Piece), false) := by
    intro n
    induction n with
    | zero => intro m _ h; omega
    | succ n ih =>
      intro m hm hn2
      rw [loopI]
      generalize hag : loopG _ _ n = ag at ih ⊢
      unfold runes_within_s1
      by_cases h : m < (flat a).length
      · have hne : s.data.toList.drop m ≠ [] := by
          intro h; have := congrArg List.length h; simp at this; omega
        have hle := dec_le _ hne
        have hlen : (s.data.toList.drop m).length = s.size - m := by simp
        have ho := noOver a b hg m h
        rw [← hd] at ho
        refine condTI (decide_eq_true (by omega)) (joinI (thenI (readV s m (by omega) hsz) (grdI ⟨by simp only [pcG]; omega, by simp only [pcG]; omega⟩ ?_)))
        have tail : (grd (I64 ((m : Int) + 1)) <| ag ((m : Int) + 1)) = some ((⟨0, 0, 0, false⟩ : Gapi_Piece), false) := grdI ⟨by omega, by omega⟩ (ih (m + 1) (by omega) (by omega))
        by_cases hb : (decodeL (s.data.toList.drop m)).1 = 65533 ∧ (decodeL (s.data.toList.drop m)).2 = 1
        · have hbr : (pcG ⟨m, (decodeL (s.data.toList.drop m)).2, (decodeL (s.data.toList.drop m)).1⟩).Broken = true := by simp [pcG, Pc.broken, hb]
          cases decide (((flat a).length : Int) < (m : Int) + (pcG ⟨m, (decodeL (s.data.toList.drop m)).2, (decodeL (s.data.toList.drop m)).1⟩).Width)
          · exact condFI rfl tail
          · exact condTI rfl (condFI (by rw [hbr]; rfl) tail)
        · exact condFI (decide_eq_false (by have := ho hb; simp only [pcG]; omega)) tail
      · exact condFI (decide_eq_false (by omega)) rfl
  obtain ⟨m, hm, hm2⟩ : ∃ m : Nat, max (((flat a).length : Int) - 3) 0 = m ∧ m ≤ (flat a).length := ⟨(flat a).length - 3, by omega, by omega⟩
  rw [hm]
  exact key fuel m hm2 (by unfold fuel; omega)


theorem place_mem : ∀ (ts pre : List Tok) (p : Pc), p ∈ place (flat pre).length ts → ∃ a t c, ts = a ++ t :: c ∧ p.i = (flat (pre ++ a)).length ∧ p.w = t.bs.length ∧ p.r = t.r
  | [], pre, p, h => by cases h
  | t :: ts, pre, p, h => by
    have e : (flat pre).length + t.bs.length = (flat (pre ++ [t])).length := by rw [flat_append, List.length_append]; simp [flat]
    have h' : p ∈ (⟨(flat pre).length, t.bs.length, t.r⟩ : Pc) :: place ((flat pre).length + t.bs.length) ts := h
    rcases List.mem_cons.1 h' with rfl | h'
    · exact ⟨[], t, ts, rfl, by simp, rfl, rfl⟩
    · rw [e] at h'
      obtain ⟨a, u, c, h1, h2, h3, h4⟩ := place_mem ts (pre ++ [t]) p h'
      exact ⟨t :: a, u, c, by rw [h1]; rfl, by rw [h2]; simp, h3, h4⟩
/-- A piece begins at a boundary. -/
theorem piece_at {s : ByteArray} {p : Pc} (h : p ∈ pcs s.data.toList) (hs : s.size ≤ 65536) : runes_Boundary_v s (p.i : Int) = some true ∧ p.i < s.size := by
  have hf := pcs_fit h
  obtain ⟨g1, g2, hok⟩ := pcs_pos s.data.toList p h
  have hw := hok.pos
  unfold pcs at h
  rw [pcs_place] at h
  obtain ⟨a, t, c, h1, h2, _, _⟩ := place_mem (toks s.data.toList) [] p h
  refine ⟨?_, by omega⟩
  have := boundaryV s a (t :: c) (by rw [← h1, flat_toks]) (by rw [← h1]; exact good_toks _) (by omega)
  rw [h2]; simpa using this
theorem place_sorted : ∀ (ts : List Tok) (i : Nat), (place i ts).Pairwise (fun p q => p.i ≤ q.i) ∧ ∀ p ∈ place i ts, i ≤ p.i
  | [], i => ⟨List.Pairwise.nil, fun p h => by cases h⟩
  | t :: ts, i => by
    obtain ⟨h1, h2⟩ := place_sorted ts (i + t.bs.length)
    refine ⟨List.Pairwise.cons (fun q hq => by have := h2 q hq; show i ≤ q.i; omega) h1, fun p hp => ?_⟩
    rcases List.mem_cons.1 hp with rfl | hp
    · exact Nat.le_refl _
    · have := h2 p hp; omega
theorem items_sorted (s : ByteArray) : (itemsP s).Pairwise (fun x y => x.At ≤ y.At) := by
  unfold itemsP pcs
  rw [pcs_place, List.pairwise_map]
  exact (place_sorted (toks s.data.toList) 0).1.imp (fun h => by show (_ : Int) ≤ _; simp only [itG]; omega)
theorem apI_at {x y : Itm} (h : y ∈ apI x) : y.At = x.At := by
  unfold apI at h
  split at h
  · obtain ⟨r, _, rfl⟩ := List.mem_map.1 h; rfl
  · simp at h; rw [h]
theorem apL_sorted : ∀ {l : List Itm}, l.Pairwise (fun x y => x.At ≤ y.At) → (apL l).Pairwise (fun x y => x.At ≤ y.At)
  | [], _ => List.Pairwise.nil
  | x :: l, h => by
    rw [List.pairwise_cons] at h
    show (apI x ++ apL l).Pairwise _
    rw [List.pairwise_append]
    refine ⟨?_, apL_sorted h.2, fun a ha b hb => ?_⟩
    · rw [List.pairwise_iff_forall_sublist]
      intro a b hab
      have ha : a ∈ apI x := hab.subset (by simp)
      have hb : b ∈ apI x := hab.subset (by simp)
      rw [apI_at ha, apI_at hb]; exact Int.le_refl _
    · obtain ⟨z, hz, hb⟩ := List.mem_flatMap.1 hb
      rw [apI_at ha, apI_at hb]; exact h.1 z hz
theorem clF_sub : ∀ (xs : List Itm) (cur : Option (Itm × List Itm)), ((clF cur xs).map Prod.fst).Sublist ((cur.toList.map Prod.fst) ++ xs)
  | [], none => List.Sublist.refl _
  | [], some c => by simp [clF]
  | x :: xs, none => clF_sub xs (some (x, []))
  | x :: xs, some c => by
    show ((if isL c.1 && isM x then clF (some (c.1, c.2 ++ [x])) xs else c :: clF (some (x, [])) xs).map Prod.fst).Sublist (c.1 :: x :: xs)
    split
    · exact (clF_sub xs (some (c.1, c.2 ++ [x]))).trans (List.Sublist.cons_cons _ (List.sublist_cons_self _ _))
    · exact List.Sublist.cons_cons _ (clF_sub xs (some (x, [])))
theorem clus_sorted (s : ByteArray) : (clus s).Pairwise (fun c d => c.1.At ≤ d.1.At) := by
  have h := (apL_sorted (items_sorted s)).sublist (clF_sub (apL (itemsP s)) none)
  rw [List.pairwise_map] at h
  exact h
/-- Where a cluster begins. -/
theorem clus_at {s : ByteArray} {c : Itm × List Itm} (h : c ∈ clus s) : ∃ p ∈ pcs s.data.toList, c.1.At = (p.i : Int) := by
  obtain ⟨h1, _⟩ := cl_mem h
  obtain ⟨x, hx, hy⟩ := List.mem_flatMap.1 h1
  obtain ⟨p, hp, rfl⟩ := List.mem_map.1 hx
  exact ⟨p, hp, apI_at hy⟩
theorem foldC_pos {c : Itm × List Itm} (h : okT c.1) : 0 < (foldC c).size := by
  have he : ∀ r, 0 < (Utf8.encode r).size := fun r => by rw [encode_size]; exact (encodeRune_len r).1
  unfold foldC foldI
  split
  · show 0 < (plainR _).size
    unfold plainR
    split
    · rename_i b hb
      have : ∀ p ∈ plT, 0 < p.2.length := by decide
      have := this _ (getM_mem hb)
      show 0 < (b.toArray).size; simpa using this
    · exact he _
  · rcases h.2 with ⟨_, h2⟩ | ⟨_, h2⟩
    · omega
    · rw [h2]; exact he _
theorem rep_sorted (f : Itm × List Itm → Nat) : ∀ {l : List (Itm × List Itm)}, l.Pairwise (fun c d => c.1.At ≤ d.1.At) → (l.flatMap fun c => List.replicate (f c) c.1.At).Pairwise (fun a b => a ≤ b)
  | [], _ => List.Pairwise.nil
  | c :: l, h => by
    rw [List.pairwise_cons] at h
    rw [List.flatMap_cons, List.pairwise_append]
    refine ⟨?_, rep_sorted f h.2, fun a ha b hb => ?_⟩
    · rw [List.pairwise_replicate]; exact .inr (Int.le_refl _)
    · obtain ⟨d, hd, hb⟩ := List.mem_flatMap.1 hb
      rw [(List.mem_replicate.1 ha).2, (List.mem_replicate.1 hb).2]; exact h.1 d hd
theorem trS_sorted (s : ByteArray) : (trS s).Pairwise (fun a b => a ≤ b) := rep_sorted (fun c => (foldC c).size) (clus_sorted s)
theorem trS_mem {s : ByteArray} {a : Int} (h : a ∈ trS s) : ∃ p ∈ pcs s.data.toList, a = (p.i : Int) := by
  obtain ⟨c, hc, ha⟩ := List.mem_flatMap.1 h
  obtain ⟨p, hp, he⟩ := clus_at hc
  exact ⟨p, hp, by rw [(List.mem_replicate.1 ha).2, he]⟩
theorem trS_head {s : ByteArray} (hs : s.size ≤ 65536) (h : 0 < (trS s).length) : (trS s)[0]? = some 0 := by
  -- the first piece is at 0, and nothing is before it
  have hne : pcs s.data.toList ≠ [] := by
    intro e
    have : trS s = [] := by
      cases hq : trS s with
      | nil => rfl
      | cons a l =>
        obtain ⟨p, hp, _⟩ := trS_mem (s := s) (a := a) (by rw [hq]; exact List.mem_cons_self ..)
        rw [e] at hp; cases hp
    rw [this] at h; cases h
  obtain ⟨p, ps, hp⟩ := List.exists_cons_of_ne_nil hne
  have hp0 : p.i = 0 := by
    have h1 : pcs s.data.toList = place 0 (toks s.data.toList) := pcs_place _ 0
    rw [hp] at h1
    cases ht : toks s.data.toList with
    | nil => rw [ht] at h1; cases h1
    | cons t ts => rw [ht] at h1; have := (List.cons.inj h1).1; rw [this]
  have hit : itemsP s = itG s p :: ps.map (itG s) := by unfold itemsP; rw [hp]; rfl
  obtain ⟨y, ys, hy⟩ : ∃ y ys, apI (itG s p) = y :: ys := by
    unfold apI
    split
    · have := (parts_len (itG s p).Rune).2
      cases hq : parts (itG s p).Rune with
      | nil => rw [hq] at this; simp at this
      | cons b ms => exact ⟨_, _, rfl⟩
    · exact ⟨_, _, rfl⟩
  have hap : apL (itemsP s) = y :: (ys ++ apL (ps.map (itG s))) := by rw [hit]; unfold apL; rw [List.flatMap_cons, hy]; rfl
  have hya : y.At = 0 := by rw [apI_at (x := itG s p) (y := y) (by rw [hy]; exact List.mem_cons_self ..)]; show (p.i : Int) = 0; rw [hp0]; rfl
  obtain ⟨c, cs, hc, hc1⟩ : ∃ c cs, clus s = c :: cs ∧ c.1 = y := by
    unfold clus
    rw [hap]
    cases hL : isL y with
    | true => exact ⟨_, _, cl_letter hL _, rfl⟩
    | false => exact ⟨_, _, cl_other hL _, rfl⟩
  have hpos := foldC_pos ((clus_ok hs).2 c (by rw [hc]; exact List.mem_cons_self ..)).1
  unfold trS
  rw [hc, List.flatMap_cons]
  unfold trC
  obtain ⟨m, hm⟩ : ∃ m, (foldC c).size = m + 1 := ⟨(foldC c).size - 1, by omega⟩
  rw [hm, List.replicate_succ, hc1, hya]; rfl
end Go.Proofs.Ytlamcpgnmeileaa
namespace Go.Proofs.Ytlamcpgnmeileaa
open Go.RowKit Go.Lib
set_option linter.unusedVariables false
set_option linter.unusedSimpArgs false
def fold_written_Bare_1_s1 (l1 : List Gfold_unit) (j1 : ByteArray → Option ByteArray) (ag1 : ByteArray → Int → Option ByteArray) (b4 : ByteArray) (x3 : Int) : Option ByteArray := bcond (decide ((x3 : Int) < (l1.length : Int))) ( joinK (fun (j2 : ByteArray → Option ByteArray) => andThen (getO l1 x3) fun (x4 : Gfold_unit) => bcond (decide ((x4.base : Int) < 0)) ( grd (b4.size + 1 ≤ 140737488355328) <| grd (∀ x ∈ ([x4.broken] : List Int), U8 x) <| j2 (b4 ++ (bytesOf [x4.broken]))
) ( andThen (fold_Bare_1_v x4) fun (r1 : ByteArray) => grd (b4.size + r1.size ≤ 140737488355328) <| j2 (b4 ++ r1)
)
) (fun (b5 : ByteArray) => grd (I64 (x3 + 1)) <| ag1 b5 (x3 + 1)
)
) ( j1 b4
)
def fold_written_Bare_1_v (l1 : List Gfold_unit) : Option ByteArray := joinK (fun (j1 : ByteArray → Option ByteArray) => loopG (fun _ _ => none) (fold_written_Bare_1_s1 l1 j1) fuel ByteArray.empty 0
) (fun (b1 : ByteArray) => some b1
)
set_option maxRecDepth 100000 in
set_option maxHeartbeats 4000000 in
theorem fold_written_Bare_1_fn {vvl1 vl1 : Value} {Zl1 : List (Gfold_unit × Hd × Hd)} {kl1 : Nat} {zl1 : List (Gfold_unit × Hd × Hd)} {l1 : List Gfold_unit} (hwl1 : Vw vvl1 Zl1 5 kl1 vl1 zl1) (hzl1 : zl1.map Prod.fst = l1) {r : ByteArray} (h : fold_written_Bare_1_v l1 = some r) : Fn Try.prog 25 [vl1, .func (.func 43) #[] #[]] [vec encN_Gfold_unit 46 5 vvl1 Zl1, own nest_Gfold_unit Zl1] (fun _b : Unit => .string r) (fun _b => [vec encN_Gfold_unit 46 5 vvl1 Zl1, own nest_Gfold_unit Zl1]) := by
 unfold fold_written_Bare_1_v at h
 refine Fn.intro Try.func25 rfl Try.ntmps25 (by simp) ?_
 intro w0 K
 obtain ⟨j1, hj1, h⟩ := joinE h
 refine TC.cutN (β := ByteArray × Value) 2 rfl (fun b => j1 b.1 = some r) (fun b => []) (fun b => [(5, b.2)]) (fun b => [vec encN_Gfold_unit 46 5 vvl1 Zl1, own nest_Gfold_unit Zl1, byt 5 b.2 b.1]) (fun cut => ?_) ?_
 ·
  refine TC.seq (TC.region (TO.assign rfl dc rfl (TO.nil (TX.next (TC.seq (TC.region (TO.assign rfl dc rfl (TO.nil (TX.next (cut (TC.seq (TC.region (TO.move rfl dc rfl ?_)))))))))))))
  refine TO.lenVwZ hzl1 hwl1 rfl dc rfl Try.underlying42 (TO.move rfl dc rfl (TO.nil (TX.next (TC.block (TC.newByt (e := 5) ?_)))))
  show TC _ _ _ _ _ _ _ _ _ [vec encN_Gfold_unit 46 5 vvl1 Zl1, own nest_Gfold_unit Zl1, byt 5 (.slice none 0 0) ByteArray.empty]
  refine TC.loopD (β := Nat × ByteArray × Int × Value) (fun b => loopG (fun _ _ => none) (fold_written_Bare_1_s1 l1 j1) b.1 b.2.1 b.2.2.1 = some r) (fun b => []) (fun b => [(1, .func (.func 43) #[] #[]), (5, b.2.2.2), (8, vl1), (9, .int .i64 (l1.length : Int)), (10, .int .i64 b.2.2.1)]) (fun b => [vec encN_Gfold_unit 46 5 vvl1 Zl1, own nest_Gfold_unit Zl1, byt 5 b.2.2.2 b.2.1]) (fun b => b.1) (fuel, ByteArray.empty, 0, (.slice none 0 0)) h rfl (Sbs.cons rfl (Sbs.cons rfl (Sbs.cons rfl (Sbs.cons rfl (Sbs.cons rfl (Sbs.nil)))))) (Splits.of [0, 1, 2] kr rfl) ?_
  rintro ⟨n1, b4, x3, v4⟩ h
  cases n1 with
  | zero => exact noneE h
  | succ n1 =>
   obtain ⟨ag1, hag1⟩ : ∃ ag, ag = loopG (fun _ _ => none) (fold_written_Bare_1_s1 l1 j1) n1 := ⟨_, rfl⟩
   have h : fold_written_Bare_1_s1 l1 j1 ag1 b4 x3 = some r := by rw [hag1]; exact h
   unfold fold_written_Bare_1_s1 at h
   show TC _ _ _ _ _ ([]) _ _ [(1, .func (.func 43) #[] #[]), (5, v4), (8, vl1), (9, .int .i64 (l1.length : Int)), (10, .int .i64 x3)] [vec encN_Gfold_unit 46 5 vvl1 Zl1, own nest_Gfold_unit Zl1, byt 5 v4 b4]
   refine TC.seq (TC.region (TO.bin rfl dc rfl rfl bin_lss (TO.nil (TX.next (TC.seq ?_)))))
   refine TC.condB rfl (fun hb1 => ?_) (fun hb1 => ?_)
   ·
    have h := condT hb1 h
    refine TC.skip (TX.next ?_)
    obtain ⟨j2, hj2, h⟩ := joinE h
    refine TC.cutN (β := ByteArray × Value) 0 rfl (fun b => j2 b.1 = some r) (fun b => []) (fun b => [(1, .func (.func 43) #[] #[]), (5, b.2), (8, vl1), (9, .int .i64 (l1.length : Int)), (10, .int .i64 x3)]) (fun b => [vec encN_Gfold_unit 46 5 vvl1 Zl1, own nest_Gfold_unit Zl1, byt 5 b.2 b.1]) (fun cut => ?_) ?_
    ·
     refine cut (TC.block (TC.seq (TC.region ?_)))
     obtain ⟨x4, hq1, h⟩ := andE h
     obtain ⟨⟨eh1, eh2⟩, eq1⟩ := getO_z hzl1 hq1
     refine TO.indexVw hwl1 eq1 Try.underlying42 sz_46 rfl dc rfl rfl rfl (TO.loadsVec (i := kl1 + (x3 : Int).toNat) (j := 0) (k := 0) (q := (x4, (eh1, eh2))) (cs := [.int .i64 x4.at_, .int .u8 x4.broken, .int .i32 x4.base, eh1.v, eh2.v]) rw_46 encN_Gfold_unit_len rfl dc rfl rfl (Vw.get hwl1 eq1) rfl rfl rfl ?_)
     refine TO.alloc zr_46 rfl dc (fun b6 => ?_)
     refine TO.stores (k := 3) (vs := [.int .i64 x4.at_, .int .u8 x4.broken, .int .i32 x4.base, eh1.v, eh2.v]) (l' := [.int .i64 x4.at_, .int .u8 x4.broken, .int .i32 x4.base, eh1.v, eh2.v]) sz_46 rfl rfl rfl rfl rfl (show _ ≤ _ by simp) rfl rfl ?_
     show TO _ _ _ _ _ _ _ _ _ _ [vec encN_Gfold_unit 46 5 vvl1 Zl1, own nest_Gfold_unit Zl1, byt 5 v4 b4, cells b6 [.int .i64 x4.at_, .int .u8 x4.broken, .int .i32 x4.base, eh1.v, eh2.v] 46]
     refine TO.nil (TX.next (TC.seq (TC.region (TO.fieldAddr fl_46_2 rfl dc rfl (show _ = 2 from rfl) (TO.load (k := 3) sc_21 rfl dc rfl rfl rfl (TO.bin rfl dc rfl rfl bin_lss (TO.nil (TX.next ?_))))))))
     refine TC.condB rfl (fun hb2 => ?_) (fun hb2 => ?_)
     ·
      have h := condT hb2 h
      refine TC.region (TO.move rfl dc rfl (TO.fieldAddr fl_46_1 rfl dc rfl (show _ = 1 from rfl) (TO.load (k := 3) sc_5 rfl dc rfl rfl rfl ?_)))
      refine TO.buildSlice (cs := [.int .u8 x4.broken]) (te := 5) (ps := [(0, .tmp 19)]) rfl dc rfl (fun _ => by kernel_rfl) (fun b7 => ?_)
      obtain ⟨hg1, h⟩ := grdE h
      obtain ⟨hg2, h⟩ := grdE h
      refine TO.appendByt (k := 2) (k2 := 4) (ys := (bytesOf [x4.broken])) Try.underlying82 by_5 rfl dc rfl rfl rfl rfl (strCells_of hg2) rfl hg1 (fun v6 => ?_)
      show TO _ _ _ _ _ _ _ _ _ _ [vec encN_Gfold_unit 46 5 vvl1 Zl1, own nest_Gfold_unit Zl1, byt 5 v6 (b4 ++ (bytesOf [x4.broken])), cells b6 [.int .i64 x4.at_, .int .u8 x4.broken, .int .i32 x4.base, eh1.v, eh2.v] 46, cells b7 [.int .u8 x4.broken] 5]
      refine TO.assign rfl dc rfl (TO.nil (TX.blockNormal ?_))
      exact TX.meetD (b4 ++ (bytesOf [x4.broken]), v6) h rfl (Sbs.cons rfl (Sbs.cons rfl (Sbs.cons rfl (Sbs.cons rfl (Sbs.cons rfl (Sbs.nil)))))) (Splits.of [0, 1, 2] kr rfl)
     ·
      have h := condF hb2 h
      refine TC.region (TO.move rfl dc rfl (TO.move rfl dc rfl (TO.loads (k := 3) (cs := [.int .i64 x4.at_, .int .u8 x4.broken, .int .i32 x4.base, eh1.v, eh2.v]) rw_46 rfl dc rfl rfl rfl rfl ?_)))
      refine TO.unfold1 (k := 1) rfl (pullE (Vw.get hwl1 eq1)) (fun _ _ => ?_)
      show TO _ _ _ _ _ _ _ _ _ _ [vec encN_Gfold_unit 46 5 vvl1 Zl1, own nest_Gfold_unit (Zl1.eraseIdx (kl1 + (x3 : Int).toNat)), byt 5 v4 b4, cells b6 [.int .i64 x4.at_, .int .u8 x4.broken, .int .i32 x4.base, eh1.v, eh2.v] 46, vec (encI (.i32)) 21 1 eh1.v x4.low, vec (encI (.i32)) 21 1 eh2.v x4.high]
      obtain ⟨r1, hq2, h⟩ := andE h
      refine TO.callK (v := .string r1) (vs := [.agg #[.int .i64 x4.at_, .int .u8 x4.broken, .int .i32 x4.base, eh1.v, eh2.v]]) rfl dc rfl rfl rfl en_43 (fold_Bare_1_fn (u1 := x4) (u1_h0 := eh1) (u1_h1 := eh2) hq2) [4, 5] kr rfl ?_
      obtain ⟨hg3, h⟩ := grdE h
      refine TO.appendStr (k := 2) Try.underlying82 Try.underlying9 by_5 rfl dc rfl rfl rfl hg3 (fun v7 => ?_)
      refine TO.assign rfl dc rfl (TO.nil (TX.blockNormal (TX.fold1 (k := 1) rfl (Splits.of [4, 5] kr rfl) rfl (pushE (nest := nest_Gfold_unit) (Vw.get hwl1 eq1) rfl) ?_)))
      show TX _ _ _ _ _ _ _ [vec encN_Gfold_unit 46 5 vvl1 Zl1, own nest_Gfold_unit Zl1, byt 5 v7 (b4 ++ r1), cells b6 [.int .i64 x4.at_, .int .u8 x4.broken, .int .i32 x4.base, eh1.v, eh2.v] 46, emp, emp]
      exact TX.meetD (b4 ++ r1, v7) h rfl (Sbs.cons rfl (Sbs.cons rfl (Sbs.cons rfl (Sbs.cons rfl (Sbs.cons rfl (Sbs.nil)))))) (Splits.of [0, 1, 2] kr rfl)
    ·
     rintro ⟨b5, v5⟩ h
     rw [hj2] at h
     show TC _ _ _ _ _ ([]) _ _ [(1, .func (.func 43) #[] #[]), (5, v5), (8, vl1), (9, .int .i64 (l1.length : Int)), (10, .int .i64 x3)] [vec encN_Gfold_unit 46 5 vvl1 Zl1, own nest_Gfold_unit Zl1, byt 5 v5 b5]
     refine TC.region ?_
     obtain ⟨hg4, h⟩ := grdE h
     refine TO.bin rfl dc rfl rfl (bin_add (r := x3 + 1) (IntWalk.i64_in _ hg4)) (TO.move rfl dc rfl (TO.nil ?_))
     subst hag1
     exact TX.againD (n1, b5, x3 + 1, v5) h (Nat.lt_succ_self _) rfl (Sbs.cons rfl (Sbs.cons rfl (Sbs.cons rfl (Sbs.cons rfl (Sbs.cons rfl (Sbs.nil)))))) (Splits.of [0, 1, 2] kr rfl)
   ·
    have h := condF hb1 h
    refine TC.exit (TX.thenExit (TX.thenExit (TX.blockHere ?_)))
    exact TX.meetD (b4, v4) h rfl (Sbs.cons rfl (Sbs.nil)) (Splits.of [0, 1, 2] kr rfl)
 ·
  rintro ⟨b1, v1⟩ h
  rw [hj1] at h
  show TC _ _ _ _ _ ([]) _ _ [(5, v1)] [vec encN_Gfold_unit 46 5 vvl1 Zl1, own nest_Gfold_unit Zl1, byt 5 v1 b1]
  refine TC.seq (TC.region (TO.move rfl dc rfl (TO.bytStr (k := 2) rfl dc rfl rfl Try.underlying82 Try.underlying5 Try.underlying9 (TO.assign rfl dc rfl (TO.nil (TX.next (TC.ret ?_)))))))
  cases h
  exact TX.fin (rs := [.tmp 4]) () (.inl rfl) Try.results25 (.cons (.tmp rfl) .nil) rfl (Splits.of [0, 1] kr rfl)
end Go.Proofs.Ytlamcpgnmeileaa
namespace Go.Proofs.Ytlamcpgnmeileaa
open Go.RowKit Go.Lib
set_option linter.unusedVariables false
set_option linter.unusedSimpArgs false
def fold_written_Apart_1_s1 (l1 : List Gfold_unit) (j1 : ByteArray → Option ByteArray) (ag1 : ByteArray → Int → Option ByteArray) (b4 : ByteArray) (x3 : Int) : Option ByteArray := bcond (decide ((x3 : Int) < (l1.length : Int))) ( joinK (fun (j2 : ByteArray → Option ByteArray) => andThen (getO l1 x3) fun (x4 : Gfold_unit) => bcond (decide ((x4.base : Int) < 0)) ( grd (b4.size + 1 ≤ 140737488355328) <| grd (∀ x ∈ ([x4.broken] : List Int), U8 x) <| j2 (b4 ++ (bytesOf [x4.broken]))
) ( andThen (fold_Apart_1_v x4) fun (r1 : ByteArray) => grd (b4.size + r1.size ≤ 140737488355328) <| j2 (b4 ++ r1)
)
) (fun (b5 : ByteArray) => grd (I64 (x3 + 1)) <| ag1 b5 (x3 + 1)
)
) ( j1 b4
)
def fold_written_Apart_1_v (l1 : List Gfold_unit) : Option ByteArray := joinK (fun (j1 : ByteArray → Option ByteArray) => loopG (fun _ _ => none) (fold_written_Apart_1_s1 l1 j1) fuel ByteArray.empty 0
) (fun (b1 : ByteArray) => some b1
)
set_option maxRecDepth 100000 in
set_option maxHeartbeats 4000000 in
theorem fold_written_Apart_1_fn {vvl1 vl1 : Value} {Zl1 : List (Gfold_unit × Hd × Hd)} {kl1 : Nat} {zl1 : List (Gfold_unit × Hd × Hd)} {l1 : List Gfold_unit} (hwl1 : Vw vvl1 Zl1 5 kl1 vl1 zl1) (hzl1 : zl1.map Prod.fst = l1) {r : ByteArray} (h : fold_written_Apart_1_v l1 = some r) : Fn Try.prog 25 [vl1, .func (.func 39) #[] #[]] [vec encN_Gfold_unit 46 5 vvl1 Zl1, own nest_Gfold_unit Zl1] (fun _b : Unit => .string r) (fun _b => [vec encN_Gfold_unit 46 5 vvl1 Zl1, own nest_Gfold_unit Zl1]) := by
 unfold fold_written_Apart_1_v at h
 refine Fn.intro Try.func25 rfl Try.ntmps25 (by simp) ?_
 intro w0 K
 obtain ⟨j1, hj1, h⟩ := joinE h
 refine TC.cutN (β := ByteArray × Value) 2 rfl (fun b => j1 b.1 = some r) (fun b => []) (fun b => [(5, b.2)]) (fun b => [vec encN_Gfold_unit 46 5 vvl1 Zl1, own nest_Gfold_unit Zl1, byt 5 b.2 b.1]) (fun cut => ?_) ?_
 ·
  refine TC.seq (TC.region (TO.assign rfl dc rfl (TO.nil (TX.next (TC.seq (TC.region (TO.assign rfl dc rfl (TO.nil (TX.next (cut (TC.seq (TC.region (TO.move rfl dc rfl ?_)))))))))))))
  refine TO.lenVwZ hzl1 hwl1 rfl dc rfl Try.underlying42 (TO.move rfl dc rfl (TO.nil (TX.next (TC.block (TC.newByt (e := 5) ?_)))))
  show TC _ _ _ _ _ _ _ _ _ [vec encN_Gfold_unit 46 5 vvl1 Zl1, own nest_Gfold_unit Zl1, byt 5 (.slice none 0 0) ByteArray.empty]
  refine TC.loopD (β := Nat × ByteArray × Int × Value) (fun b => loopG (fun _ _ => none) (fold_written_Apart_1_s1 l1 j1) b.1 b.2.1 b.2.2.1 = some r) (fun b => []) (fun b => [(1, .func (.func 39) #[] #[]), (5, b.2.2.2), (8, vl1), (9, .int .i64 (l1.length : Int)), (10, .int .i64 b.2.2.1)]) (fun b => [vec encN_Gfold_unit 46 5 vvl1 Zl1, own nest_Gfold_unit Zl1, byt 5 b.2.2.2 b.2.1]) (fun b => b.1) (fuel, ByteArray.empty, 0, (.slice none 0 0)) h rfl (Sbs.cons rfl (Sbs.cons rfl (Sbs.cons rfl (Sbs.cons rfl (Sbs.cons rfl (Sbs.nil)))))) (Splits.of [0, 1, 2] kr rfl) ?_
  rintro ⟨n1, b4, x3, v4⟩ h
  cases n1 with
  | zero => exact noneE h
  | succ n1 =>
   obtain ⟨ag1, hag1⟩ : ∃ ag, ag = loopG (fun _ _ => none) (fold_written_Apart_1_s1 l1 j1) n1 := ⟨_, rfl⟩
   have h : fold_written_Apart_1_s1 l1 j1 ag1 b4 x3 = some r := by rw [hag1]; exact h
   unfold fold_written_Apart_1_s1 at h
   show TC _ _ _ _ _ ([]) _ _ [(1, .func (.func 39) #[] #[]), (5, v4), (8, vl1), (9, .int .i64 (l1.length : Int)), (10, .int .i64 x3)] [vec encN_Gfold_unit 46 5 vvl1 Zl1, own nest_Gfold_unit Zl1, byt 5 v4 b4]
   refine TC.seq (TC.region (TO.bin rfl dc rfl rfl bin_lss (TO.nil (TX.next (TC.seq ?_)))))
   refine TC.condB rfl (fun hb1 => ?_) (fun hb1 => ?_)
   ·
    have h := condT hb1 h
    refine TC.skip (TX.next ?_)
    obtain ⟨j2, hj2, h⟩ := joinE h
    refine TC.cutN (β := ByteArray × Value) 0 rfl (fun b => j2 b.1 = some r) (fun b => []) (fun b => [(1, .func (.func 39) #[] #[]), (5, b.2), (8, vl1), (9, .int .i64 (l1.length : Int)), (10, .int .i64 x3)]) (fun b => [vec encN_Gfold_unit 46 5 vvl1 Zl1, own nest_Gfold_unit Zl1, byt 5 b.2 b.1]) (fun cut => ?_) ?_
    ·
     refine cut (TC.block (TC.seq (TC.region ?_)))
     obtain ⟨x4, hq1, h⟩ := andE h
     obtain ⟨⟨eh1, eh2⟩, eq1⟩ := getO_z hzl1 hq1
     refine TO.indexVw hwl1 eq1 Try.underlying42 sz_46 rfl dc rfl rfl rfl (TO.loadsVec (i := kl1 + (x3 : Int).toNat) (j := 0) (k := 0) (q := (x4, (eh1, eh2))) (cs := [.int .i64 x4.at_, .int .u8 x4.broken, .int .i32 x4.base, eh1.v, eh2.v]) rw_46 encN_Gfold_unit_len rfl dc rfl rfl (Vw.get hwl1 eq1) rfl rfl rfl ?_)
     refine TO.alloc zr_46 rfl dc (fun b6 => ?_)
     refine TO.stores (k := 3) (vs := [.int .i64 x4.at_, .int .u8 x4.broken, .int .i32 x4.base, eh1.v, eh2.v]) (l' := [.int .i64 x4.at_, .int .u8 x4.broken, .int .i32 x4.base, eh1.v, eh2.v]) sz_46 rfl rfl rfl rfl rfl (show _ ≤ _ by simp) rfl rfl ?_
     show TO _ _ _ _ _ _ _ _ _ _ [vec encN_Gfold_unit 46 5 vvl1 Zl1, own nest_Gfold_unit Zl1, byt 5 v4 b4, cells b6 [.int .i64 x4.at_, .int .u8 x4.broken, .int .i32 x4.base, eh1.v, eh2.v] 46]
     refine TO.nil (TX.next (TC.seq (TC.region (TO.fieldAddr fl_46_2 rfl dc rfl (show _ = 2 from rfl) (TO.load (k := 3) sc_21 rfl dc rfl rfl rfl (TO.bin rfl dc rfl rfl bin_lss (TO.nil (TX.next ?_))))))))
     refine TC.condB rfl (fun hb2 => ?_) (fun hb2 => ?_)
     ·
      have h := condT hb2 h
      refine TC.region (TO.move rfl dc rfl (TO.fieldAddr fl_46_1 rfl dc rfl (show _ = 1 from rfl) (TO.load (k := 3) sc_5 rfl dc rfl rfl rfl ?_)))
      refine TO.buildSlice (cs := [.int .u8 x4.broken]) (te := 5) (ps := [(0, .tmp 19)]) rfl dc rfl (fun _ => by kernel_rfl) (fun b7 => ?_)
      obtain ⟨hg1, h⟩ := grdE h
      obtain ⟨hg2, h⟩ := grdE h
      refine TO.appendByt (k := 2) (k2 := 4) (ys := (bytesOf [x4.broken])) Try.underlying82 by_5 rfl dc rfl rfl rfl rfl (strCells_of hg2) rfl hg1 (fun v6 => ?_)
      show TO _ _ _ _ _ _ _ _ _ _ [vec encN_Gfold_unit 46 5 vvl1 Zl1, own nest_Gfold_unit Zl1, byt 5 v6 (b4 ++ (bytesOf [x4.broken])), cells b6 [.int .i64 x4.at_, .int .u8 x4.broken, .int .i32 x4.base, eh1.v, eh2.v] 46, cells b7 [.int .u8 x4.broken] 5]
      refine TO.assign rfl dc rfl (TO.nil (TX.blockNormal ?_))
      exact TX.meetD (b4 ++ (bytesOf [x4.broken]), v6) h rfl (Sbs.cons rfl (Sbs.cons rfl (Sbs.cons rfl (Sbs.cons rfl (Sbs.cons rfl (Sbs.nil)))))) (Splits.of [0, 1, 2] kr rfl)
     ·
      have h := condF hb2 h
      refine TC.region (TO.move rfl dc rfl (TO.move rfl dc rfl (TO.loads (k := 3) (cs := [.int .i64 x4.at_, .int .u8 x4.broken, .int .i32 x4.base, eh1.v, eh2.v]) rw_46 rfl dc rfl rfl rfl rfl ?_)))
      refine TO.unfold1 (k := 1) rfl (pullE (Vw.get hwl1 eq1)) (fun _ _ => ?_)
      show TO _ _ _ _ _ _ _ _ _ _ [vec encN_Gfold_unit 46 5 vvl1 Zl1, own nest_Gfold_unit (Zl1.eraseIdx (kl1 + (x3 : Int).toNat)), byt 5 v4 b4, cells b6 [.int .i64 x4.at_, .int .u8 x4.broken, .int .i32 x4.base, eh1.v, eh2.v] 46, vec (encI (.i32)) 21 1 eh1.v x4.low, vec (encI (.i32)) 21 1 eh2.v x4.high]
      obtain ⟨r1, hq2, h⟩ := andE h
      refine TO.callK (v := .string r1) (vs := [.agg #[.int .i64 x4.at_, .int .u8 x4.broken, .int .i32 x4.base, eh1.v, eh2.v]]) rfl dc rfl rfl rfl en_39 (fold_Apart_1_fn (u1 := x4) (u1_h0 := eh1) (u1_h1 := eh2) hq2) [4, 5] kr rfl ?_
      obtain ⟨hg3, h⟩ := grdE h
      refine TO.appendStr (k := 2) Try.underlying82 Try.underlying9 by_5 rfl dc rfl rfl rfl hg3 (fun v7 => ?_)
      refine TO.assign rfl dc rfl (TO.nil (TX.blockNormal (TX.fold1 (k := 1) rfl (Splits.of [4, 5] kr rfl) rfl (pushE (nest := nest_Gfold_unit) (Vw.get hwl1 eq1) rfl) ?_)))
      show TX _ _ _ _ _ _ _ [vec encN_Gfold_unit 46 5 vvl1 Zl1, own nest_Gfold_unit Zl1, byt 5 v7 (b4 ++ r1), cells b6 [.int .i64 x4.at_, .int .u8 x4.broken, .int .i32 x4.base, eh1.v, eh2.v] 46, emp, emp]
      exact TX.meetD (b4 ++ r1, v7) h rfl (Sbs.cons rfl (Sbs.cons rfl (Sbs.cons rfl (Sbs.cons rfl (Sbs.cons rfl (Sbs.nil)))))) (Splits.of [0, 1, 2] kr rfl)
    ·
     rintro ⟨b5, v5⟩ h
     rw [hj2] at h
     show TC _ _ _ _ _ ([]) _ _ [(1, .func (.func 39) #[] #[]), (5, v5), (8, vl1), (9, .int .i64 (l1.length : Int)), (10, .int .i64 x3)] [vec encN_Gfold_unit 46 5 vvl1 Zl1, own nest_Gfold_unit Zl1, byt 5 v5 b5]
     refine TC.region ?_
     obtain ⟨hg4, h⟩ := grdE h
     refine TO.bin rfl dc rfl rfl (bin_add (r := x3 + 1) (IntWalk.i64_in _ hg4)) (TO.move rfl dc rfl (TO.nil ?_))
     subst hag1
     exact TX.againD (n1, b5, x3 + 1, v5) h (Nat.lt_succ_self _) rfl (Sbs.cons rfl (Sbs.cons rfl (Sbs.cons rfl (Sbs.cons rfl (Sbs.cons rfl (Sbs.nil)))))) (Splits.of [0, 1, 2] kr rfl)
   ·
    have h := condF hb1 h
    refine TC.exit (TX.thenExit (TX.thenExit (TX.blockHere ?_)))
    exact TX.meetD (b4, v4) h rfl (Sbs.cons rfl (Sbs.nil)) (Splits.of [0, 1, 2] kr rfl)
 ·
  rintro ⟨b1, v1⟩ h
  rw [hj1] at h
  show TC _ _ _ _ _ ([]) _ _ [(5, v1)] [vec encN_Gfold_unit 46 5 vvl1 Zl1, own nest_Gfold_unit Zl1, byt 5 v1 b1]
  refine TC.seq (TC.region (TO.move rfl dc rfl (TO.bytStr (k := 2) rfl dc rfl rfl Try.underlying82 Try.underlying5 Try.underlying9 (TO.assign rfl dc rfl (TO.nil (TX.next (TC.ret ?_)))))))
  cases h
  exact TX.fin (rs := [.tmp 4]) () (.inl rfl) Try.results25 (.cons (.tmp rfl) .nil) rfl (Splits.of [0, 1] kr rfl)
end Go.Proofs.Ytlamcpgnmeileaa
