/-
  The walk of canticleref03.Pieces. Nothing is assumed.
-/
import Derived.Test.YtekjfmjeemjcjaaRow
import Derived.Test.YtekjfmjeemjcjaaPcs
import Derived.Test.YtekjfmjeemjcjaaSeqW
namespace Go.Proofs.Ytekjfmjeemjcjaa
open Go.RowKit Go.Lib Go.Shelf
attribute [local go_sem] Oper.semAt_some
set_option linter.unusedVariables false
set_option linter.unusedSimpArgs false

/-- A reference piece's four cells. -/
def enc4 (x : Pc × Bool) : List Value := [.int .i64 x.1.i, .int .i64 x.1.w, .int .i32 x.1.r, .bool x.2]
theorem enc4_len (x : Pc × Bool) : (enc4 x).length = 4 := rfl
theorem enc4_one (x : Pc × Bool) : ∀ u ∈ enc4 x, u.oneCell' = true := by
  intro u hu; simp [enc4] at hu; rcases hu with rfl | rfl | rfl | rfl <;> rfl
theorem pinfo : (Try.prog.info? 47).map (fun i => (i.zero, i.size, i.bytes)) = some (some (.agg #[.int .i64 0, .int .i64 0, .int .i32 0, .bool false]), 4, 24) := by kernel_rfl

theorem mark_split {α β : Type} (f h : α → β) (A : List α) (k : Nat) (x : α) (hx : A[k]? = some x) :
    ((A.take k).map f ++ (A.drop k).map h)[k]? = some (h x) ∧ ((A.take k).map f ++ (A.drop k).map h).set k (f x) = (A.take (k + 1)).map f ++ (A.drop (k + 1)).map h := by
  obtain ⟨hk, rfl⟩ := List.getElem?_eq_some_iff.1 hx
  have h1 : A.drop k = A[k] :: A.drop (k + 1) := List.drop_eq_getElem_cons hk
  have h2 : A.take (k + 1) = A.take k ++ [A[k]] := by simp
  have h3 : ((A.take k).map f).length = k := by simp; omega
  rw [h1, h2, List.map_cons]
  constructor
  · rw [List.getElem?_append_right (by omega), h3]; simp
  · rw [List.set_append_right _ _ (by omega), h3, Nat.sub_self, List.set_cons_zero, List.map_append, List.append_assoc]; rfl

theorem pcs_count (l : List UInt8) : ∀ (n : Nat) (D : List Pc) (p : Pc) (B : List Pc), D.length ≤ n → pcs l = D ++ p :: B → D.length ≤ p.i
  | 0, D, p, B, hn, h => by omega
  | n + 1, D, p, B, hn, h => by
    rcases List.eq_nil_or_concat D with rfl | ⟨D, q, rfl⟩
    · simp
    · rw [List.concat_eq_append] at h hn ⊢
      have h1 := pcs_count l n D q (p :: B) (by simp at hn; omega) (by rw [h]; simp)
      obtain ⟨_, hok, _, h4⟩ := pcs_split l D q (p :: B) (by rw [h]; simp)
      have := hok.pos
      have h5 : p.i = q.i + q.w := by
        by_cases hd : l.drop (q.i + q.w) = []
        · rw [hd, pcsFrom_nil] at h4; simp at h4
        · rw [pcsFrom_cons _ _ hd] at h4
          simp only [List.cons.injEq] at h4
          rw [h4.1]
      rw [List.length_append, h5]
      simp only [List.length_singleton]; omega

set_option maxRecDepth 100000 in
set_option maxHeartbeats 4000000 in
theorem rpieces_any (s : ByteArray) (w : World) (hs : s.size ≤ 2147483647) :
    Calls Try.prog 23 #[.string s] w fun e w' => ∃ v, e = .returned v ∧ Rw enc4 w' w.heap.size 47 4 v ((pcs s.data.toList).map fun p => (p, p.broken)) ∧ Below w.heap.size w w' := by
  obtain ⟨ip, hpi, hpz, hps, hpb⟩ := info_parts pinfo
  go_enter Try.func23, Try.ntmps23
  go_wp2
  go_loopw [3] (fun v wr => ∃ pos A, pos ≤ s.size ∧ Hid (pcs s.data.toList = A ++ pcsFrom pos (s.data.toList.drop pos)) ∧ wr.heap[w.heap.size]? = some (.stringIter s pos) ∧
      ((A = [] ∧ pos = 0 ∧ v = .slice none 0 0) ∨ ∃ D p g cap m, A = D ++ [p] ∧ p.i + p.w = pos ∧ m = D.length ∧ v = .slice (some ⟨g, 0, none⟩) (m + 1) cap ∧ Rw enc4 wr (w.heap.size + 1) 47 4 v (D.map (fun p => (p, false)) ++ [(⟨p.i, 0, p.r⟩, false)])) ∧
      Fr (fun _ => False) w wr) (fun _ wr => s.size - wr.iterPos w.heap.size)
  case atStart => exact ⟨0, [], Nat.zero_le _, rfl, World.iter_heap w s 0, .inl ⟨rfl, rfl, rfl⟩, (Fr.refl _ _).alloc _⟩
  case round =>
    obtain ⟨pos, A, hpos, hA, hit, hv, hf⟩ := hrel
    by_cases hlt2 : pos < s.size
    · obtain ⟨r, wd, W2, hn2, hf2, hit2, hsz2, hok2, hp2, hle2, h12⟩ := next_some Try.prog wr w.heap.size s pos hit hlt2
      rcases hv with ⟨rfl, rfl, rfl⟩ | ⟨D, p, g, cap, m, rfl, hpw, hm, rfl, hrw⟩
      · have Hit := Lib.hid hit; have Hf2 := Lib.hid hf2; have Hit2 := Lib.hid hit2; have Hok := Lib.hid hok2; have Hp := Lib.hid hp2; have Hf := Lib.hid hf
        have hrn : Rw enc4 W2 (w.heap.size + 1) 47 4 (.slice none 0 0) [] := Rw.nil _ _ _
        clear hit hf2 hit2 hok2 hp2 hf
        have hnew : ∀ o, (W2.alloc o).heap[wr.heap.size]? = some o := by intro o; rw [← hsz2]; exact World.alloc_heap_new W2 o
        go_wp2_with ((refine wpList_append_rec (enc := enc4) _ rfl _ _ 43 rfl (w.heap.size + 1) 47 _ _ 24 (by kernel_rfl) hpi hpz hps hpb rfl (by omega) enc4_len enc4_one _ [] rfl (Rw.nil _ _ _) ((⟨0, 0, r⟩ : Pc), false) wr.heap.size 1 rfl 47 (0, 0) (hnew _) (by simp) (by omega) ?_ ?_))
        · have := Hf.out.size; have := lt_of_some Hit.out; simp; omega
        · rintro v' w3 hr3 hg3 g cap rfl hbg hglt
          have hF : Fr (fun _ => False) w w3 := (((Hf.out.trans' Hf2.out (fun k hk h => by have h' : k = w.heap.size := h; omega)).alloc _).grown hg3 (fun k hk => by simp [Value.ownBlock] at hk))
          have hI : w3.heap[w.heap.size]? = some (.stringIter s (0 + wd)) := (hg3.block _ (by have := lt_of_some Hit2.out; simp; omega) (by simp [Value.ownBlock])).trans ((Below.heap_alloc _ _ _ (lt_of_some Hit2.out)).trans Hit2.out)
          have HF := Lib.hid hF; have HI := Lib.hid hI; have Hr3 := Lib.hid hr3
          have Hip := Lib.hid (iterPos_at Hit.out)
          clear hr3 hg3 hF hI
          go_wp2
          go_roundw
          case rel =>
            refine ⟨0 + wd, [⟨0, wd, r⟩], hle2, ?_, HI.out, .inr ⟨[], ⟨0, wd, r⟩, g, cap, 0, rfl, rfl, rfl, rfl, by simpa using Hr3.out⟩, HF.out⟩
            have := hA.out; rw [Hp.out] at this; exact this
          case measure => rw [Hip.out, iterPos_at HI.out]; omega
      · have hml : m ≤ p.i := by rw [hm]; exact pcs_count _ _ D p (pcsFrom pos (s.data.toList.drop pos)) (Nat.le_refl _) (by rw [hA.out, List.append_assoc]; rfl)
        have hgl := (hrw.lt g rfl)
        have hrw2 := hrw.at (hf2) (fun g' hg' => by cases hg'; intro h; have h' : g = w.heap.size := h; omega)
        have hLm : (D.map (fun p => (p, false)) ++ [((⟨p.i, 0, p.r⟩ : Pc), false)])[m]? = some ((⟨p.i, 0, p.r⟩ : Pc), false) := by rw [hm]; simp
        have hLn : (D.map (fun p => (p, false)) ++ [((⟨p.i, 0, p.r⟩ : Pc), false)]).length = m + 1 := by rw [hm]; simp
        have hLs : (D.map (fun p => (p, false)) ++ [((⟨p.i, 0, p.r⟩ : Pc), false)]).set m (p, false) = (D ++ [p]).map (fun p => (p, false)) := by rw [hm]; simp
        have hrw3 : Rw enc4 W2 (w.heap.size + 1) 47 4 (.slice (some ⟨g, 0, none⟩) (D.map (fun p => (p, false)) ++ [((⟨p.i, 0, p.r⟩ : Pc), false)]).length cap) (D.map (fun p => (p, false)) ++ [((⟨p.i, 0, p.r⟩ : Pc), false)]) := by rw [hLn]; exact hrw2
        have c0 : W2.cell? ⟨g, m * 4, none⟩ = some (.int .i64 p.i) := hrw3.cell enc4_len hLm (j := 0) (by omega) rfl
        have c1 : W2.cell? ⟨g, m * 4 + 1, none⟩ = some (.int .i64 (0 : Nat)) := hrw3.cell enc4_len hLm (j := 1) (by omega) rfl
        have f1 : W2.frozen? ⟨g, m * 4 + 1, none⟩ = false := hrw3.frozen rfl _
        have hww : (pos : Int) - (p.i : Int) = (p.w : Int) := by omega
        have hst := (hrw3.stored enc4_len hLm (j := 1) (by omega) (p, false) (u := .int .i64 p.w) rfl)
        rw [hLs, hLn] at hst
        obtain ⟨hst, hgs⟩ := hst
        rw [← hww] at hst hgs
        have hLl : ((D ++ [p]).map (fun p => (p, false))).length = m + 1 := by rw [hm]; simp
        have hnew : ∀ q u o, ((W2.setCell q u).alloc o).heap[wr.heap.size]? = some o := by intro q u o; have := World.alloc_heap_new (W2.setCell q u) o; rwa [World.size_setCell, hsz2] at this
        have hpi1 : p.i < s.size := by omega
        have hpw' : p.i ≤ pos := by omega
        have Hit := Lib.hid hit; have Hf2 := Lib.hid hf2; have Hit2 := Lib.hid hit2; have Hok := Lib.hid hok2; have Hp := Lib.hid hp2; have Hf := Lib.hid hf
        have Hm := Lib.hid hm; have Hst := Lib.hid hst; have HLl := Lib.hid hLl; have Hpw := Lib.hid hpw; have Hgs := Lib.hid hgs; have Hww := Lib.hid hww
        generalize hLL : (D ++ [p]).map (fun p => (p, false)) = LL at *
        have HLL := Lib.hid hLL
        generalize hxi : p.i = xi at *
        have Hxi := Lib.hid hxi
        clear hit hf2 hit2 hok2 hp2 hf hm hrw hrw2 hrw3 hLm hLn hpw hxi hLs hLl hst hgs hww hLL
        go_wp2_with ((refine wpList_append_rec (enc := enc4) _ rfl _ _ 43 rfl (w.heap.size + 1) 47 _ _ 24 (by kernel_rfl) hpi hpz hps hpb rfl (by omega) enc4_len enc4_one _ LL rfl (World.ownsRow.alloc Hst.out _) ((⟨pos, 0, r⟩ : Pc), false) wr.heap.size 1 rfl 47 (0, 0) (hnew _ _ _) (by rw [HLl.out]; omega) (by omega) ?_ ?_))
        · have := Hf.out.size; have := lt_of_some Hit.out; simp; omega
        · rintro v' w3 hr3 hg3 g3 cap3 rfl hbg hglt
          have hF : Fr (fun _ => False) w w3 := ((((Hf.out.trans' Hf2.out (fun k hk h => by have h' : k = w.heap.size := h; omega)).grown Hgs.out (fun k hk => by cases hk; exact .inr (by omega))).alloc _).grown hg3 (fun k hk => by cases hk; exact .inr (by show w.heap.size ≤ g; omega)))
          have hI : w3.heap[w.heap.size]? = some (.stringIter s (pos + wd)) := (hg3.block _ (by have := lt_of_some Hit2.out; rw [World.size_alloc, World.size_setCell]; omega) (by simp [Value.ownBlock]; omega)).trans ((Below.heap_alloc _ _ _ (by have := lt_of_some Hit2.out; rw [World.size_setCell]; omega)).trans ((Hgs.out.block _ (lt_of_some Hit2.out) (by simp; omega)).trans Hit2.out))
          have HF := Lib.hid hF; have HI := Lib.hid hI; have Hr3 := Lib.hid hr3
          have Hip := Lib.hid (iterPos_at Hit.out)
          clear hr3 hg3 hF hI
          go_wp2
          go_roundw
          case rel =>
            refine ⟨pos + wd, (D ++ [p]) ++ [⟨pos, wd, r⟩], hle2, ?_, HI.out, .inr ⟨D ++ [p], ⟨pos, wd, r⟩, g3, cap3, m + 1, rfl, rfl, by rw [Hm.out]; simp, by rw [HLl.out], ?_⟩, HF.out⟩
            · show pcs _ = _
              rw [hA.out, Hp.out]; simp
            · rw [HLL.out]; exact Hr3.out
          case measure => rw [Hip.out, iterPos_at HI.out]; omega
    · obtain ⟨hn, hp⟩ := next_none Try.prog wr w.heap.size s pos hit hlt2
      have hps : pos = s.size := by omega
      have hpcs : pcs s.data.toList = A := by rw [hA.out, hp]; simp
      have Hf := Lib.hid hf
      clear hp hit hf hA
      rcases hv with ⟨rfl, hp0, rfl⟩ | ⟨D, p, g, cap, m, rfl, hpw, hm, rfl, hrw⟩
      · have Hpcs := Lib.hid hpcs
        clear hpcs
        go_wp2
        go_loopw [6] (fun i w' => i = .int .i64 0 ∧ w' = wr) (fun _ _ => 0)
        case atStart => exact ⟨rfl, rfl⟩
        case round =>
          obtain ⟨rfl, rfl⟩ := hrel
          go_wp2
          go_ret
          exact ⟨_, rfl, by rw [Hpcs.out]; exact Rw.nil _ _ _, Hf.out.toBelow (Nat.le_refl _) (fun _ _ h => h)⟩
      · have hxm : p.i < s.size := by
          have := (pcs_pos s.data.toList p (by rw [hpcs]; simp)).1; omega
        have hml : m ≤ p.i := by rw [hm]; exact pcs_count _ _ D p [] (Nat.le_refl _) hpcs
        have hgl := (hrw.lt g rfl)
        have hLm : (D.map (fun p => (p, false)) ++ [((⟨p.i, 0, p.r⟩ : Pc), false)])[m]? = some ((⟨p.i, 0, p.r⟩ : Pc), false) := by rw [hm]; simp
        have hLn : (D.map (fun p => (p, false)) ++ [((⟨p.i, 0, p.r⟩ : Pc), false)]).length = m + 1 := by rw [hm]; simp
        have hLs : (D.map (fun p => (p, false)) ++ [((⟨p.i, 0, p.r⟩ : Pc), false)]).set m (p, false) = (D ++ [p]).map (fun p => (p, false)) := by rw [hm]; simp
        have hrw3 : Rw enc4 wr (w.heap.size + 1) 47 4 (.slice (some ⟨g, 0, none⟩) (D.map (fun p => (p, false)) ++ [((⟨p.i, 0, p.r⟩ : Pc), false)]).length cap) (D.map (fun p => (p, false)) ++ [((⟨p.i, 0, p.r⟩ : Pc), false)]) := by rw [hLn]; exact hrw
        have c0 : wr.cell? ⟨g, m * 4, none⟩ = some (.int .i64 p.i) := hrw3.cell enc4_len hLm (j := 0) (by omega) rfl
        have c1 : wr.cell? ⟨g, m * 4 + 1, none⟩ = some (.int .i64 (0 : Nat)) := hrw3.cell enc4_len hLm (j := 1) (by omega) rfl
        have f1 : wr.frozen? ⟨g, m * 4 + 1, none⟩ = false := hrw3.frozen rfl _
        have hww : (s.size : Int) - (p.i : Int) = (p.w : Int) := by omega
        have hst := (hrw3.stored enc4_len hLm (j := 1) (by omega) (p, false) (u := .int .i64 p.w) rfl)
        rw [hLs, hLn] at hst
        obtain ⟨hst, hgs⟩ := hst
        rw [← hww] at hst hgs
        have hpi1 : p.i < s.size := by omega
        have hA1 : (D ++ [p]).length = m + 1 := by rw [hm]; simp
        have hF1 := Hf.out.grown hgs (fun k hk => by cases hk; exact .inr (by show w.heap.size ≤ g; omega))
        have Hst := Lib.hid hst; have Hpw := Lib.hid hpw; have HF1 := Lib.hid hF1; have Hm := Lib.hid hm; have HA1 := Lib.hid hA1; have Hpcs := Lib.hid hpcs
        have hm0 : m + 1 ≤ 2147483647 := by omega
        generalize hxi : p.i = xi at *
        have Hxi := Lib.hid hxi
        clear hpw hm hrw hrw3 hLm hLn hxi hLs hst hgs hww hF1 hA1 hpcs
        go_wp2
        go_loopw [6] (fun i w' => ∃ k : Nat, i = .int .i64 k ∧ k ≤ m + 1 ∧ Rw enc4 w' (w.heap.size + 1) 47 4 (.slice (some ⟨g, 0, none⟩) (m + 1) cap) (((D ++ [p]).take k).map (fun p => (p, p.broken)) ++ ((D ++ [p]).drop k).map (fun p => (p, false))) ∧ Fr (fun _ => False) w w') (fun i _ => m + 1 - (intOf i).toNat)
        case atStart => exact ⟨0, rfl, Nat.zero_le _, by simpa using Hst.out, HF1.out⟩
        case round =>
          obtain ⟨k, rfl, hk, hrw, hf⟩ := hrel
          by_cases hkm : k < m + 1
          · obtain ⟨x, hx⟩ : ∃ x, (D ++ [p])[k]? = some x := ⟨_, List.getElem?_eq_getElem (by rw [HA1.out]; exact hkm)⟩
            have hgl := (hrw.lt g rfl)
            have hLl : (((D ++ [p]).take k).map (fun p => (p, p.broken)) ++ ((D ++ [p]).drop k).map (fun p => (p, false))).length = m + 1 := by
              simp [List.length_take, List.length_drop, HA1.out]; have := HA1.out; simp at this; omega
            have hLk : (((D ++ [p]).take k).map (fun p => (p, p.broken)) ++ ((D ++ [p]).drop k).map (fun p => (p, false)))[k]? = some (x, false) := (mark_split (fun p : Pc => (p, p.broken)) (fun p => (p, false)) _ _ _ hx).1
            have hLs : (((D ++ [p]).take k).map (fun p => (p, p.broken)) ++ ((D ++ [p]).drop k).map (fun p => (p, false))).set k (x, x.broken) = ((D ++ [p]).take (k + 1)).map (fun p => (p, p.broken)) ++ ((D ++ [p]).drop (k + 1)).map (fun p => (p, false)) := (mark_split (fun p : Pc => (p, p.broken)) (fun p => (p, false)) _ _ _ hx).2
            rw [← hLl] at hrw
            have c1 : wr.cell? ⟨g, k * 4 + 1, none⟩ = some (.int .i64 x.w) := hrw.cell enc4_len hLk (j := 1) (by omega) rfl
            have c2 : wr.cell? ⟨g, k * 4 + 2, none⟩ = some (.int .i32 x.r) := hrw.cell enc4_len hLk (j := 2) (by omega) rfl
            have c3 : wr.cell? ⟨g, k * 4 + 3, none⟩ = some (.bool false) := hrw.cell enc4_len hLk (j := 3) (by omega) rfl
            have f3 : wr.frozen? ⟨g, k * 4 + 3, none⟩ = false := hrw.frozen rfl _
            have hst := (hrw.stored enc4_len hLk (j := 3) (by omega) (x, x.broken) (u := .bool x.broken) rfl)
            rw [hLs, hLl] at hst
            have Hst := Lib.hid hst; have Hf2 := Lib.hid hf
            have hvx : x.broken = (((x.r : Int) == 65533) && ((x.w : Int) == 1)) := by
              unfold Pc.broken
              have e1 : ((x.r : Int) == 65533) = (x.r == 65533) := by rw [Bool.eq_iff_iff, beq_iff_eq, beq_iff_eq]; omega
              have e2 : ((x.w : Int) == 1) = (x.w == 1) := by rw [Bool.eq_iff_iff, beq_iff_eq, beq_iff_eq]; omega
              rw [e1, e2]
            generalize hxb : x.broken = xb at *
            generalize hxr : x.r = xr at *
            generalize hxw : x.w = xw at *
            have Hgl := Lib.hid hgl
            have Hm0 := Lib.hid hm0
            have hk1 : k ≤ 2147483647 := by omega
            clear hrw hf hLl hLk hLs hst hm0 hxb hxr hxw hx hgl hpi1
            cases hr : ((xr : Int) == 65533)
            · rw [hr] at hvx
              simp only [Bool.false_and] at hvx
              subst hvx
              go_wp2
              go_roundw
              case rel => exact ⟨k + 1, rfl, by omega, Hst.out.1, Hf2.out.setCell (p := ⟨g, k * 4 + 3, none⟩) (.inr (by show w.heap.size ≤ g; have := Hgl.out; omega)) _⟩
              case measure => show m + 1 - (k + 1 : Int).toNat < m + 1 - ((k : Int)).toNat; omega
            · rw [hr] at hvx
              simp only [Bool.true_and] at hvx
              subst hvx
              go_wp2
              go_roundw
              case rel => exact ⟨k + 1, rfl, by omega, Hst.out.1, Hf2.out.setCell (p := ⟨g, k * 4 + 3, none⟩) (.inr (by show w.heap.size ≤ g; have := Hgl.out; omega)) _⟩
              case measure => show m + 1 - (k + 1 : Int).toNat < m + 1 - ((k : Int)).toNat; omega
          · have hkk : k = m + 1 := by omega
            subst hkk
            have Hrw := Lib.hid hrw; have Hf2 := Lib.hid hf
            clear hrw hf
            go_wp2
            go_ret
            refine ⟨_, rfl, ?_, Hf2.out.toBelow (Nat.le_refl _) (fun _ _ h => h)⟩
            have h1 : (D ++ [p]).take (m + 1) = D ++ [p] := List.take_of_length_le (by rw [HA1.out]; exact Nat.le_refl _)
            have h2 : (D ++ [p]).drop (m + 1) = [] := List.drop_eq_nil_of_le (by rw [HA1.out]; exact Nat.le_refl _)
            have h3 := Hrw.out
            rw [h1, h2, List.map_nil, List.append_nil] at h3
            rw [Hpcs.out]
            exact h3.base (by omega)

end Go.Proofs.Ytekjfmjeemjcjaa
