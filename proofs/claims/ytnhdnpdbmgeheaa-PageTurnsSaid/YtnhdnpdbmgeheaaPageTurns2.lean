/-
  Texts laid together: Zn, Mp, Tab, Lt, LfA, Pcs, Tok, PlA, Ql, PlB, Ob, Vs, LpR, LfR, Qr, PcW, Cls, ClsW, ClsW2, SeqW, RefPcs, Runs, C0, Vow, RefW, RefW3, LpC, Pa. Nothing is assumed.
-/
import Derived.Test.YtnhdnpdbmgeheaaPageTurns1
import Derived.LoopNIn
import Derived.MapKept
import Derived.Test.YtnhdnpdbmgeheaaProg
import Derived.Shelf.Abstract
namespace Go.Proofs.Ytnhdnpdbmgeheaa
open Go.RowKit Go.Lib
set_option linter.unusedVariables false
set_option linter.unusedSimpArgs false
/-- Decided. -/
theorem dc {p : Prop} [Decidable p] (h : decide p = true := by rfl) : p := of_decide_eq_true h
/-- The same by computation. -/
theorem kr {α : Sort _} {a b : α} (h : a = b := by as_aux_lemma => kernel_rfl) : a = b := h
/-- What an iterator yields first, and then. -/
def consO {α : Type} (x : α) (o : Option (List α)) : Option (List α) := o.map (x :: ·)
theorem consE {α : Type} {x : α} {o : Option (List α)} {r : List α} (h : consO x o = some r) : ∃ r', r = x :: r' ∧ o = some r' := by
  obtain ⟨r', h1, h2⟩ := Option.map_eq_some_iff.1 h
  exact ⟨r', h2.symm, h1⟩
section
variable {F : Fence} {P : Program} {w0 : World} {K : Nat → Prop} {N : Nat} {dfs : List Deferred} {ops : Array Oper} {Q : Exit → Act → World → Prop} {rest : List Oper} {c : Code} {ex : Exit} {σ : List (Nat × Value)} {L L' As R : List Asn} {A B : Asn} {k : Nat} {β : Type}
theorem TO.weakenL (hs : Splits L L' R) (h : TO F P w0 K N dfs ops Q rest σ L') : TO F P w0 K N dfs ops Q rest σ L := fun a w ha hw => h a w ha (hw.weaken hs)
theorem TC.weakenL (hs : Splits L L' R) (h : TC F P w0 K N dfs Q c σ L') : TC F P w0 K N dfs Q c σ L := fun a w ha hw => h a w ha (hw.weaken hs)
theorem TX.weakenL (hs : Splits L L' R) (h : TX w0 K N dfs Q ex σ L') : TX w0 K N dfs Q ex σ L := fun a w ha hw => h a w ha (hw.weaken hs)
theorem TX.ent (hk : L[k]? = some A) (he : Ent A B) (h : TX w0 K N dfs Q ex σ (L.set k B)) : TX w0 K N dfs Q ex σ L := fun a w ha hw => h a w ha (hw.ent hk he)
/-- A loop of at most m rounds, round by round. -/
def TR (F : Fence) (P : Program) (w0 : World) (K : Nat → Prop) (N : Nat) (dfs : List Deferred) (Q : Exit → Act → World → Prop) (c : Code) (m : Nat) (σ : List (Nat × Value)) (L : List Asn) : Prop :=
  ∀ a w, At N dfs σ a → Holds w0 K L w → Code.roundsIn F 0 P c Q m a w
theorem TR.succ {m : Nat} (h : TC F P w0 K N dfs (Exit.then (Code.roundsIn F 0 P c Q m) Q) c σ L) : TR F P w0 K N dfs Q c (m + 1) σ L := fun a w ha hw => h a w ha hw
end
section
variable {F : Fence} {P : Program} {w0 : World} {K : Nat → Prop} {N : Nat} {dfs : List Deferred} {ops : Array Oper} {Q : Exit → Act → World → Prop} {rest : List Oper} {c : Code} {ex : Exit} {σ : List (Nat × Value)} {L As R : List Asn} {k : Nat}
  {α η : Type} {enc : α × η → List Value} {nest : α × η → List Asn} {e : TypeId} {size : Nat} {v : Value} {xs : List α} {zs zs' : List (α × η)} {z z' : α × η} {i : Nat} {x x' : α} {h h' : η}
/-- What the records zs own. -/
def own (nest : α × η → List Asn) (zs : List (α × η)) : Asn := star (zs.flatMap nest)
variable {d : Nat} {ty : TypeId} {pos : String} {aft : Array Edge} {g : Option (Nat × Bool)} {o : Operand}
theorem TC.nameHd {ε : Type} {enc1 : ε → List Value} {ys : List ε} (hk : L[k]? = some (vec enc1 e size v ys)) (hh : ∀ hd : Hd, v = hd.v → TC F P w0 K N dfs Q c σ L) : TC F P w0 K N dfs Q c σ L := fun a w ha hw => by
  obtain ⟨C, hv, _⟩ := hw.focus hk
  obtain ⟨q, cc, he⟩ := Vec.len hv
  exact hh ⟨q, ys.length, cc⟩ he a w ha hw
end
end Go.Proofs.Ytnhdnpdbmgeheaa
namespace Go.Proofs.Ytnhdnpdbmgeheaa
open Go.RowKit Go.Lib Go.MapKept
set_option linter.unusedVariables false
set_option linter.unusedSimpArgs false
def idxM {κ : Type} [DecidableEq κ] (k : κ) : List κ → Nat → Option Nat
  | [], _ => none
  | p :: l, i => if k = p then some i else idxM k l (i + 1)
/-- What is asked of keys. -/
structure KeyOk (P : Program) (kt : TypeId) {κ : Type} [DecidableEq κ] (ek : κ → Value) : Prop where
  check : ∀ em k (w : World), (Instr.checkKey em 10000 kt (ek k)).run P w = .ok () w
  find : ∀ (es : List MapEntry) (ks : List κ) k (w : World), es.map (·.key) = ks.map ek → (Instr.findKey kt (ek k) es).run P w = .ok ((idxM k ks 0).map fun i => (i, ((es[i]?).map (·.val)).getD default)) w
  same : ∀ k, Instr.sameBits 10000 (ek k) (ek k) = true
theorem idxM_succ {κ : Type} [DecidableEq κ] (k : κ) : ∀ (l : List κ) (i : Nat), idxM k l (i + 1) = (idxM k l i).map (· + 1)
  | [], i => rfl
  | p :: l, i => by unfold idxM; split <;> simp [idxM_succ k l (i + 1)]
theorem find_cons {κ : Type} [DecidableEq κ] (k p : κ) (e : MapEntry) (es : List MapEntry) (ks : List κ) (n : Nat) :
    ((idxM k (p :: ks) 0).map fun i => (i + n, (((e :: es)[i]?).map (·.val)).getD default)) = if k = p then some (n, e.val) else (idxM k ks 0).map fun i => (i + (n + 1), ((es[i]?).map (·.val)).getD default) := by
  have e : idxM k (p :: ks) 0 = if k = p then some 0 else idxM k ks (0 + 1) := rfl
  rw [e]
  split
  · simp
  · rw [idxM_succ, Option.map_map]; congr 1; funext i; simp [Nat.add_assoc, Nat.add_comm 1 n]
theorem KeyOk.int {P : Program} {kt : TypeId} {kd : IntKind} (h : P.underlying kt = some (.int kd)) : KeyOk P kt (fun n : Int => Value.int kd n) where
  check := fun em k w => run_checkKey h (show IsKey (.int kd) (.int kd k) by simp [IsKey]) em 9999
  find := fun es ks k w hk => run_findKey h (by
    have : ∀ (es : List MapEntry) (ks : List Int) (n : Nat), es.map (·.key) = ks.map (fun n : Int => Value.int kd n) → Instr.findNow (.int kd) (.int kd k) es n = some ((idxM k ks 0).map fun i => (i + n, ((es[i]?).map (·.val)).getD default)) := by
      intro es
      induction es with
      | nil => intro ks n h; cases ks with
        | nil => rfl
        | cons _ _ => simp at h
      | cons e es ih => intro ks n h; cases ks with
        | nil => simp at h
        | cons p ks =>
          simp only [List.map_cons, List.cons.injEq] at h
          rw [find_cons]
          have hs : Instr.sameNow (.int kd) (.int kd k) e.key = some (k == p) := by rw [h.1]; simp [Instr.sameNow]
          unfold Instr.findNow
          rw [hs]
          by_cases hp : k = p
          · subst hp; simp
          · have : (k == p) = false := by simpa using hp
            rw [this, if_neg hp]; exact ih ks (n + 1) h.2
    exact this es ks 0 hk)
  same := fun k => by simp [Instr.sameBits]
section
variable {F : Fence} {P : Program} {w0 : World} {K : Nat → Prop} {N : Nat} {dfs : List Deferred} {ops : Array Oper} {Q : Exit → Act → World → Prop} {rest : List Oper} {σ : List (Nat × Value)} {L : List Asn}
  {d : Nat} {ty : TypeId} {pos : String} {aft : Array Edge} {g : Option (Nat × Bool)} {x y z : Operand} {k b : Nat} {κ ν : Type} [DecidableEq κ] {ek : κ → Value} {ev' : ν → Value} {mt kt et : TypeId} {M : List (κ × ν)}
end
end Go.Proofs.Ytnhdnpdbmgeheaa
namespace Go.Proofs.Ytnhdnpdbmgeheaa
open Go.RowKit Go.Lib Go.Shelf
theorem sc_3 : ScalarOk Try.prog 3 := ⟨_, Try.underlying3, rfl⟩
theorem sz_3 : SizeOk Try.prog 3 1 := by unfold SizeOk; as_aux_lemma => kernel_rfl
theorem zr_3 : ZeroOk Try.prog 3 [.int .i64 0] := by unfold ZeroOk; as_aux_lemma => kernel_rfl
theorem el_3 : ElemOk Try.prog 3 1 := ElemOk.mk' (by as_aux_lemma => kernel_rfl)
theorem sc_4 : ScalarOk Try.prog 4 := ⟨_, Try.underlying4, rfl⟩
theorem sz_4 : SizeOk Try.prog 4 1 := by unfold SizeOk; as_aux_lemma => kernel_rfl
theorem zr_4 : ZeroOk Try.prog 4 [.bool false] := by unfold ZeroOk; as_aux_lemma => kernel_rfl
theorem sc_9 : ScalarOk Try.prog 9 := ⟨_, Try.underlying9, rfl⟩
theorem sz_9 : SizeOk Try.prog 9 1 := by unfold SizeOk; as_aux_lemma => kernel_rfl
theorem el_9 : ElemOk Try.prog 9 1 := ElemOk.mk' (by as_aux_lemma => kernel_rfl)
theorem sc_21 : ScalarOk Try.prog 21 := ⟨_, Try.underlying21, rfl⟩
theorem sz_21 : SizeOk Try.prog 21 1 := by unfold SizeOk; as_aux_lemma => kernel_rfl
theorem rw_23 : RowOk Try.prog 23 4 := ⟨_, Try.underlying23, rfl, by as_aux_lemma => kernel_rfl⟩
theorem fl_23_0 : FieldOk Try.prog 23 0 0 := ⟨_, _, Try.underlying23, rfl, rfl, by as_aux_lemma => kernel_rfl⟩
theorem fl_23_1 : FieldOk Try.prog 23 1 1 := ⟨_, _, Try.underlying23, rfl, rfl, by as_aux_lemma => kernel_rfl⟩
theorem fl_23_2 : FieldOk Try.prog 23 2 2 := ⟨_, _, Try.underlying23, rfl, rfl, by as_aux_lemma => kernel_rfl⟩
theorem fl_23_3 : FieldOk Try.prog 23 3 3 := ⟨_, _, Try.underlying23, rfl, rfl, by as_aux_lemma => kernel_rfl⟩
theorem sc_39 : ScalarOk Try.prog 39 := ⟨_, Try.underlying39, rfl⟩
theorem sz_39 : SizeOk Try.prog 39 1 := by unfold SizeOk; as_aux_lemma => kernel_rfl
theorem sc_44 : ScalarOk Try.prog 44 := ⟨_, Try.underlying44, rfl⟩
theorem sz_44 : SizeOk Try.prog 44 1 := by unfold SizeOk; as_aux_lemma => kernel_rfl
theorem rw_50 : RowOk Try.prog 50 2 := ⟨_, Try.underlying50, rfl, by as_aux_lemma => kernel_rfl⟩
theorem fl_50_0 : FieldOk Try.prog 50 0 0 := ⟨_, _, Try.underlying50, rfl, rfl, by as_aux_lemma => kernel_rfl⟩
theorem fl_50_1 : FieldOk Try.prog 50 1 1 := ⟨_, _, Try.underlying50, rfl, rfl, by as_aux_lemma => kernel_rfl⟩
theorem sz_50 : SizeOk Try.prog 50 2 := by unfold SizeOk; as_aux_lemma => kernel_rfl
theorem zr_50 : ZeroOk Try.prog 50 [.int .i64 0, .int .i64 0] := by unfold ZeroOk; as_aux_lemma => kernel_rfl
theorem rw_52 : RowOk Try.prog 52 3 := ⟨_, Try.underlying52, rfl, by as_aux_lemma => kernel_rfl⟩
theorem fl_52_0 : FieldOk Try.prog 52 0 0 := ⟨_, _, Try.underlying52, rfl, rfl, by as_aux_lemma => kernel_rfl⟩
theorem fl_52_1 : FieldOk Try.prog 52 1 2 := ⟨_, _, Try.underlying52, rfl, rfl, by as_aux_lemma => kernel_rfl⟩
theorem sz_52 : SizeOk Try.prog 52 3 := by unfold SizeOk; as_aux_lemma => kernel_rfl
theorem zr_52 : ZeroOk Try.prog 52 [.int .i64 0, .int .i64 0, .int .i64 0] := by unfold ZeroOk; as_aux_lemma => kernel_rfl
theorem el_52 : ElemOk Try.prog 52 3 := ElemOk.mk' (by as_aux_lemma => kernel_rfl)
theorem sc_53 : ScalarOk Try.prog 53 := ⟨_, Try.underlying53, rfl⟩
theorem sz_53 : SizeOk Try.prog 53 1 := by unfold SizeOk; as_aux_lemma => kernel_rfl
theorem zr_53 : ZeroOk Try.prog 53 [.pointer none] := by unfold ZeroOk; as_aux_lemma => kernel_rfl
theorem fl_57_0 : FieldOk Try.prog 57 0 0 := ⟨_, _, Try.underlying57, rfl, rfl, by as_aux_lemma => kernel_rfl⟩
theorem fl_57_1 : FieldOk Try.prog 57 1 1 := ⟨_, _, Try.underlying57, rfl, rfl, by as_aux_lemma => kernel_rfl⟩
theorem fl_57_2 : FieldOk Try.prog 57 2 2 := ⟨_, _, Try.underlying57, rfl, rfl, by as_aux_lemma => kernel_rfl⟩
theorem fl_57_3 : FieldOk Try.prog 57 3 3 := ⟨_, _, Try.underlying57, rfl, rfl, by as_aux_lemma => kernel_rfl⟩
theorem fl_57_4 : FieldOk Try.prog 57 4 4 := ⟨_, _, Try.underlying57, rfl, rfl, by as_aux_lemma => kernel_rfl⟩
theorem fl_57_5 : FieldOk Try.prog 57 5 5 := ⟨_, _, Try.underlying57, rfl, rfl, by as_aux_lemma => kernel_rfl⟩
theorem rw_66 : RowOk Try.prog 66 5 := ⟨_, Try.underlying66, rfl, by as_aux_lemma => kernel_rfl⟩
theorem fl_66_0 : FieldOk Try.prog 66 0 0 := ⟨_, _, Try.underlying66, rfl, rfl, by as_aux_lemma => kernel_rfl⟩
theorem fl_66_1 : FieldOk Try.prog 66 1 2 := ⟨_, _, Try.underlying66, rfl, rfl, by as_aux_lemma => kernel_rfl⟩
theorem fl_66_2 : FieldOk Try.prog 66 2 3 := ⟨_, _, Try.underlying66, rfl, rfl, by as_aux_lemma => kernel_rfl⟩
theorem fl_66_3 : FieldOk Try.prog 66 3 4 := ⟨_, _, Try.underlying66, rfl, rfl, by as_aux_lemma => kernel_rfl⟩
theorem sz_66 : SizeOk Try.prog 66 5 := by unfold SizeOk; as_aux_lemma => kernel_rfl
theorem zr_66 : ZeroOk Try.prog 66 [.int .i64 0, .int .i64 0, .int .i64 0, .bool false, .int .i64 0] := by unfold ZeroOk; as_aux_lemma => kernel_rfl
theorem el_66 : ElemOk Try.prog 66 5 := ElemOk.mk' (by as_aux_lemma => kernel_rfl)
theorem zr_76 : ZeroOk Try.prog 76 [.pointer none, .slice none 0 0] := by unfold ZeroOk; as_aux_lemma => kernel_rfl
theorem rw_86 : RowOk Try.prog 86 3 := ⟨_, Try.underlying86, rfl, by as_aux_lemma => kernel_rfl⟩
theorem fl_86_0 : FieldOk Try.prog 86 0 0 := ⟨_, _, Try.underlying86, rfl, rfl, by as_aux_lemma => kernel_rfl⟩
theorem fl_86_1 : FieldOk Try.prog 86 1 1 := ⟨_, _, Try.underlying86, rfl, rfl, by as_aux_lemma => kernel_rfl⟩
theorem fl_86_2 : FieldOk Try.prog 86 2 2 := ⟨_, _, Try.underlying86, rfl, rfl, by as_aux_lemma => kernel_rfl⟩
theorem sz_86 : SizeOk Try.prog 86 3 := by unfold SizeOk; as_aux_lemma => kernel_rfl
theorem zr_86 : ZeroOk Try.prog 86 [.int .i64 0, .int .i64 0, .int .i64 0] := by unfold ZeroOk; as_aux_lemma => kernel_rfl
theorem el_86 : ElemOk Try.prog 86 3 := ElemOk.mk' (by as_aux_lemma => kernel_rfl)
theorem fl_90_0 : FieldOk Try.prog 90 0 0 := ⟨_, _, Try.underlying90, rfl, rfl, by as_aux_lemma => kernel_rfl⟩
theorem fl_90_1 : FieldOk Try.prog 90 1 1 := ⟨_, _, Try.underlying90, rfl, rfl, by as_aux_lemma => kernel_rfl⟩
theorem fl_90_2 : FieldOk Try.prog 90 2 2 := ⟨_, _, Try.underlying90, rfl, rfl, by as_aux_lemma => kernel_rfl⟩
theorem sz_90 : SizeOk Try.prog 90 3 := by unfold SizeOk; as_aux_lemma => kernel_rfl
theorem el_90 : ElemOk Try.prog 90 3 := ElemOk.mk' (by as_aux_lemma => kernel_rfl)
theorem sc_93 : ScalarOk Try.prog 93 := ⟨_, Try.underlying93, rfl⟩
theorem sc_94 : ScalarOk Try.prog 94 := ⟨_, Try.underlying94, rfl⟩
theorem sz_94 : SizeOk Try.prog 94 1 := by unfold SizeOk; as_aux_lemma => kernel_rfl
theorem zr_94 : ZeroOk Try.prog 94 [.int .i64 0] := by unfold ZeroOk; as_aux_lemma => kernel_rfl
theorem rw_96 : RowOk Try.prog 96 4 := ⟨_, Try.underlying96, rfl, by as_aux_lemma => kernel_rfl⟩
theorem fl_96_0 : FieldOk Try.prog 96 0 0 := ⟨_, _, Try.underlying96, rfl, rfl, by as_aux_lemma => kernel_rfl⟩
theorem fl_96_1 : FieldOk Try.prog 96 1 1 := ⟨_, _, Try.underlying96, rfl, rfl, by as_aux_lemma => kernel_rfl⟩
theorem fl_96_2 : FieldOk Try.prog 96 2 2 := ⟨_, _, Try.underlying96, rfl, rfl, by as_aux_lemma => kernel_rfl⟩
theorem fl_96_3 : FieldOk Try.prog 96 3 3 := ⟨_, _, Try.underlying96, rfl, rfl, by as_aux_lemma => kernel_rfl⟩
theorem sz_96 : SizeOk Try.prog 96 4 := by unfold SizeOk; as_aux_lemma => kernel_rfl
theorem zr_96 : ZeroOk Try.prog 96 [.int .i64 0, .int .i64 0, .int .i32 0, .bool false] := by unfold ZeroOk; as_aux_lemma => kernel_rfl
theorem sz_105 : SizeOk Try.prog 105 12 := by unfold SizeOk; as_aux_lemma => kernel_rfl
theorem zr_105 : ZeroOk Try.prog 105 [.int .i32 0, .int .i32 0, .int .i32 0, .int .i32 0, .int .i32 0, .int .i32 0, .int .i32 0, .int .i32 0, .int .i32 0, .int .i32 0, .int .i32 0, .int .i32 0] := by unfold ZeroOk; as_aux_lemma => kernel_rfl
theorem en_6 : ∀ args w, (callFunc 6 args).run Try.prog w = .ok (.enter 6 args) w := enters_of Try.func6 (by as_aux_lemma => kernel_rfl) rfl
theorem en_7 : ∀ args w, (callFunc 7 args).run Try.prog w = .ok (.enter 7 args) w := enters_of Try.func7 (by as_aux_lemma => kernel_rfl) rfl
theorem en_8 : ∀ args w, (callFunc 8 args).run Try.prog w = .ok (.enter 8 args) w := enters_of Try.func8 (by as_aux_lemma => kernel_rfl) rfl
theorem en_9 : ∀ args w, (callFunc 9 args).run Try.prog w = .ok (.enter 9 args) w := enters_of Try.func9 (by as_aux_lemma => kernel_rfl) rfl
theorem en_10 : ∀ args w, (callFunc 10 args).run Try.prog w = .ok (.enter 10 args) w := enters_of Try.func10 (by as_aux_lemma => kernel_rfl) rfl
theorem en_11 : ∀ args w, (callFunc 11 args).run Try.prog w = .ok (.enter 11 args) w := enters_of Try.func11 (by as_aux_lemma => kernel_rfl) rfl
theorem en_13 : ∀ args w, (callFunc 13 args).run Try.prog w = .ok (.enter 13 args) w := enters_of Try.func13 (by as_aux_lemma => kernel_rfl) rfl
theorem en_14 : ∀ args w, (callFunc 14 args).run Try.prog w = .ok (.enter 14 args) w := enters_of Try.func14 (by as_aux_lemma => kernel_rfl) rfl
theorem en_15 : ∀ args w, (callFunc 15 args).run Try.prog w = .ok (.enter 15 args) w := enters_of Try.func15 (by as_aux_lemma => kernel_rfl) rfl
theorem en_16 : ∀ args w, (callFunc 16 args).run Try.prog w = .ok (.enter 16 args) w := enters_of Try.func16 (by as_aux_lemma => kernel_rfl) rfl
theorem en_17 : ∀ args w, (callFunc 17 args).run Try.prog w = .ok (.enter 17 args) w := enters_of Try.func17 (by as_aux_lemma => kernel_rfl) rfl
theorem en_18 : ∀ args w, (callFunc 18 args).run Try.prog w = .ok (.enter 18 args) w := enters_of Try.func18 (by as_aux_lemma => kernel_rfl) rfl
theorem en_19 : ∀ args w, (callFunc 19 args).run Try.prog w = .ok (.enter 19 args) w := enters_of Try.func19 (by as_aux_lemma => kernel_rfl) rfl
theorem en_20 : ∀ args w, (callFunc 20 args).run Try.prog w = .ok (.enter 20 args) w := enters_of Try.func20 (by as_aux_lemma => kernel_rfl) rfl
theorem en_21 : ∀ args w, (callFunc 21 args).run Try.prog w = .ok (.enter 21 args) w := enters_of Try.func21 (by as_aux_lemma => kernel_rfl) rfl
theorem en_22 : ∀ args w, (callFunc 22 args).run Try.prog w = .ok (.enter 22 args) w := enters_of Try.func22 (by as_aux_lemma => kernel_rfl) rfl
theorem en_23 : ∀ args w, (callFunc 23 args).run Try.prog w = .ok (.enter 23 args) w := enters_of Try.func23 (by as_aux_lemma => kernel_rfl) rfl
theorem en_24 : ∀ args w, (callFunc 24 args).run Try.prog w = .ok (.enter 24 args) w := enters_of Try.func24 (by as_aux_lemma => kernel_rfl) rfl
theorem en_25 : ∀ args w, (callFunc 25 args).run Try.prog w = .ok (.enter 25 args) w := enters_of Try.func25 (by as_aux_lemma => kernel_rfl) rfl
theorem en_26 : ∀ args w, (callFunc 26 args).run Try.prog w = .ok (.enter 26 args) w := enters_of Try.func26 (by as_aux_lemma => kernel_rfl) rfl
theorem en_27 : ∀ args w, (callFunc 27 args).run Try.prog w = .ok (.enter 27 args) w := enters_of Try.func27 (by as_aux_lemma => kernel_rfl) rfl
theorem en_28 : ∀ args w, (callFunc 28 args).run Try.prog w = .ok (.enter 28 args) w := enters_of Try.func28 (by as_aux_lemma => kernel_rfl) rfl
theorem en_29 : ∀ args w, (callFunc 29 args).run Try.prog w = .ok (.enter 29 args) w := enters_of Try.func29 (by as_aux_lemma => kernel_rfl) rfl
theorem en_30 : ∀ args w, (callFunc 30 args).run Try.prog w = .ok (.enter 30 args) w := enters_of Try.func30 (by as_aux_lemma => kernel_rfl) rfl
theorem en_31 : ∀ args w, (callFunc 31 args).run Try.prog w = .ok (.enter 31 args) w := enters_of Try.func31 (by as_aux_lemma => kernel_rfl) rfl
theorem en_32 : ∀ args w, (callFunc 32 args).run Try.prog w = .ok (.enter 32 args) w := enters_of Try.func32 (by as_aux_lemma => kernel_rfl) rfl
theorem en_33 : ∀ args w, (callFunc 33 args).run Try.prog w = .ok (.enter 33 args) w := enters_of Try.func33 (by as_aux_lemma => kernel_rfl) rfl
theorem en_34 : ∀ args w, (callFunc 34 args).run Try.prog w = .ok (.enter 34 args) w := enters_of Try.func34 (by as_aux_lemma => kernel_rfl) rfl
theorem en_35 : ∀ args w, (callFunc 35 args).run Try.prog w = .ok (.enter 35 args) w := enters_of Try.func35 (by as_aux_lemma => kernel_rfl) rfl
theorem en_36 : ∀ args w, (callFunc 36 args).run Try.prog w = .ok (.enter 36 args) w := enters_of Try.func36 (by as_aux_lemma => kernel_rfl) rfl
theorem en_37 : ∀ args w, (callFunc 37 args).run Try.prog w = .ok (.enter 37 args) w := enters_of Try.func37 (by as_aux_lemma => kernel_rfl) rfl
theorem en_38 : ∀ args w, (callFunc 38 args).run Try.prog w = .ok (.enter 38 args) w := enters_of Try.func38 (by as_aux_lemma => kernel_rfl) rfl
theorem en_39 : ∀ args w, (callFunc 39 args).run Try.prog w = .ok (.enter 39 args) w := enters_of Try.func39 (by as_aux_lemma => kernel_rfl) rfl
theorem en_40 : ∀ args w, (callFunc 40 args).run Try.prog w = .ok (.enter 40 args) w := enters_of Try.func40 (by as_aux_lemma => kernel_rfl) rfl
theorem en_41 : ∀ args w, (callFunc 41 args).run Try.prog w = .ok (.enter 41 args) w := enters_of Try.func41 (by as_aux_lemma => kernel_rfl) rfl
theorem en_42 : ∀ args w, (callFunc 42 args).run Try.prog w = .ok (.enter 42 args) w := enters_of Try.func42 (by as_aux_lemma => kernel_rfl) rfl
theorem en_43 : ∀ args w, (callFunc 43 args).run Try.prog w = .ok (.enter 43 args) w := enters_of Try.func43 (by as_aux_lemma => kernel_rfl) rfl
theorem en_49 : ∀ args w, (callFunc 49 args).run Try.prog w = .ok (.enter 49 args) w := enters_of Try.func49 (by as_aux_lemma => kernel_rfl) rfl
theorem en_50 : ∀ args w, (callFunc 50 args).run Try.prog w = .ok (.enter 50 args) w := enters_of Try.func50 (by as_aux_lemma => kernel_rfl) rfl
theorem en_52 : ∀ args w, (callFunc 52 args).run Try.prog w = .ok (.enter 52 args) w := enters_of Try.func52 (by as_aux_lemma => kernel_rfl) rfl
theorem en_55 : ∀ args w, (callFunc 55 args).run Try.prog w = .ok (.enter 55 args) w := enters_of Try.func55 (by as_aux_lemma => kernel_rfl) rfl
theorem mixed : Try.prog.follows .mixedOrders = true := by as_aux_lemma => kernel_rfl
end Go.Proofs.Ytnhdnpdbmgeheaa
namespace Go.Proofs.Ytnhdnpdbmgeheaa
open Go.RowKit Go.Lib
set_option linter.unusedSimpArgs false
@[ext] structure Gapi_Layout where
  Width : Int
  Height : Int
  Turn : Int
  Every : Int
def eq_Gapi_Layout (a b : Gapi_Layout) : Bool := (a.Width == b.Width) && (a.Height == b.Height) && (a.Turn == b.Turn) && (a.Every == b.Every)
theorem eq_Gapi_Layout_iff (a b : Gapi_Layout) : eq_Gapi_Layout a b = true ↔ a = b := by
  rcases a with ⟨a0, a1, a2, a3⟩
  rcases b with ⟨b0, b1, b2, b3⟩
  simp [eq_Gapi_Layout, Bool.and_eq_true, and_assoc]
instance : DecidableEq Gapi_Layout := fun a b => decidable_of_iff _ (eq_Gapi_Layout_iff a b)
@[ext] structure Gapi_Span where
  From : Int
  To : Int
def eq_Gapi_Span (a b : Gapi_Span) : Bool := (a.From == b.From) && (a.To == b.To)
theorem eq_Gapi_Span_iff (a b : Gapi_Span) : eq_Gapi_Span a b = true ↔ a = b := by
  rcases a with ⟨a0, a1⟩
  rcases b with ⟨b0, b1⟩
  simp [eq_Gapi_Span, Bool.and_eq_true, and_assoc]
instance : DecidableEq Gapi_Span := fun a b => decidable_of_iff _ (eq_Gapi_Span_iff a b)
@[ext] structure Gapi_Cell where
  Span_From : Int
  Span_To : Int
  Columns : Int
def enc_Gapi_Cell (x : Gapi_Cell) : List Value := [.int .i64 x.Span_From, .int .i64 x.Span_To, .int .i64 x.Columns]
theorem enc_Gapi_Cell_len (x : Gapi_Cell) : (enc_Gapi_Cell x).length = 3 := rfl
theorem enc_Gapi_Cell_one (x : Gapi_Cell) : ∀ u ∈ enc_Gapi_Cell x, u.oneCell' = true := by
  intro u hu
  simp only [enc_Gapi_Cell, List.mem_cons, List.not_mem_nil, or_false] at hu
  rcases hu with rfl | rfl | rfl <;> rfl
def eq_Gapi_Cell (a b : Gapi_Cell) : Bool := (a.Span_From == b.Span_From) && (a.Span_To == b.Span_To) && (a.Columns == b.Columns)
theorem eq_Gapi_Cell_iff (a b : Gapi_Cell) : eq_Gapi_Cell a b = true ↔ a = b := by
  rcases a with ⟨a0, a1, a2⟩
  rcases b with ⟨b0, b1, b2⟩
  simp [eq_Gapi_Cell, Bool.and_eq_true, and_assoc]
instance : DecidableEq Gapi_Cell := fun a b => decidable_of_iff _ (eq_Gapi_Cell_iff a b)
@[ext] structure Gref05_Piece where
  Span_From : Int
  Span_To : Int
  Kind : Int
  Joiner : Bool
  Columns : Int
def enc_Gref05_Piece (x : Gref05_Piece) : List Value := [.int .i64 x.Span_From, .int .i64 x.Span_To, .int .i64 x.Kind, .bool x.Joiner, .int .i64 x.Columns]
theorem enc_Gref05_Piece_len (x : Gref05_Piece) : (enc_Gref05_Piece x).length = 5 := rfl
theorem enc_Gref05_Piece_one (x : Gref05_Piece) : ∀ u ∈ enc_Gref05_Piece x, u.oneCell' = true := by
  intro u hu
  simp only [enc_Gref05_Piece, List.mem_cons, List.not_mem_nil, or_false] at hu
  rcases hu with rfl | rfl | rfl | rfl | rfl <;> rfl
def eq_Gref05_Piece (a b : Gref05_Piece) : Bool := (a.Span_From == b.Span_From) && (a.Span_To == b.Span_To) && (a.Kind == b.Kind) && (a.Joiner == b.Joiner) && (a.Columns == b.Columns)
theorem eq_Gref05_Piece_iff (a b : Gref05_Piece) : eq_Gref05_Piece a b = true ↔ a = b := by
  rcases a with ⟨a0, a1, a2, a3, a4⟩
  rcases b with ⟨b0, b1, b2, b3, b4⟩
  simp [eq_Gref05_Piece, Bool.and_eq_true, and_assoc]
instance : DecidableEq Gref05_Piece := fun a b => decidable_of_iff _ (eq_Gref05_Piece_iff a b)
@[ext] structure Gpage_best where
  cost : Int
  rows : Int
  to_ : Int
def enc_Gpage_best (x : Gpage_best) : List Value := [.int .i64 x.cost, .int .i64 x.rows, .int .i64 x.to_]
theorem enc_Gpage_best_len (x : Gpage_best) : (enc_Gpage_best x).length = 3 := rfl
def eq_Gpage_best (a b : Gpage_best) : Bool := (a.cost == b.cost) && (a.rows == b.rows) && (a.to_ == b.to_)
theorem eq_Gpage_best_iff (a b : Gpage_best) : eq_Gpage_best a b = true ↔ a = b := by
  rcases a with ⟨a0, a1, a2⟩
  rcases b with ⟨b0, b1, b2⟩
  simp [eq_Gpage_best, Bool.and_eq_true, and_assoc]
instance : DecidableEq Gpage_best := fun a b => decidable_of_iff _ (eq_Gpage_best_iff a b)
@[ext] structure Gref02_Piece where
  At : Int
  Width : Int
  Rune : Int
def enc_Gref02_Piece (x : Gref02_Piece) : List Value := [.int .i64 x.At, .int .i64 x.Width, .int .i32 x.Rune]
theorem enc_Gref02_Piece_len (x : Gref02_Piece) : (enc_Gref02_Piece x).length = 3 := rfl
theorem enc_Gref02_Piece_one (x : Gref02_Piece) : ∀ u ∈ enc_Gref02_Piece x, u.oneCell' = true := by
  intro u hu
  simp only [enc_Gref02_Piece, List.mem_cons, List.not_mem_nil, or_false] at hu
  rcases hu with rfl | rfl | rfl <;> rfl
def eq_Gref02_Piece (a b : Gref02_Piece) : Bool := (a.At == b.At) && (a.Width == b.Width) && (a.Rune == b.Rune)
theorem eq_Gref02_Piece_iff (a b : Gref02_Piece) : eq_Gref02_Piece a b = true ↔ a = b := by
  rcases a with ⟨a0, a1, a2⟩
  rcases b with ⟨b0, b1, b2⟩
  simp [eq_Gref02_Piece, Bool.and_eq_true, and_assoc]
instance : DecidableEq Gref02_Piece := fun a b => decidable_of_iff _ (eq_Gref02_Piece_iff a b)
@[ext] structure Gapi_Piece where
  At : Int
  Width : Int
  Rune : Int
  Broken : Bool
def eq_Gapi_Piece (a b : Gapi_Piece) : Bool := (a.At == b.At) && (a.Width == b.Width) && (a.Rune == b.Rune) && (a.Broken == b.Broken)
theorem eq_Gapi_Piece_iff (a b : Gapi_Piece) : eq_Gapi_Piece a b = true ↔ a = b := by
  rcases a with ⟨a0, a1, a2, a3⟩
  rcases b with ⟨b0, b1, b2, b3⟩
  simp [eq_Gapi_Piece, Bool.and_eq_true, and_assoc]
instance : DecidableEq Gapi_Piece := fun a b => decidable_of_iff _ (eq_Gapi_Piece_iff a b)
@[ext] structure T_12_int32 where
  e0 : Int
  e1 : Int
  e2 : Int
  e3 : Int
  e4 : Int
  e5 : Int
  e6 : Int
  e7 : Int
  e8 : Int
  e9 : Int
  e10 : Int
  e11 : Int
def eq_T_12_int32 (a b : T_12_int32) : Bool := (a.e0 == b.e0) && (a.e1 == b.e1) && (a.e2 == b.e2) && (a.e3 == b.e3) && (a.e4 == b.e4) && (a.e5 == b.e5) && (a.e6 == b.e6) && (a.e7 == b.e7) && (a.e8 == b.e8) && (a.e9 == b.e9) && (a.e10 == b.e10) && (a.e11 == b.e11)
theorem eq_T_12_int32_iff (a b : T_12_int32) : eq_T_12_int32 a b = true ↔ a = b := by
  rcases a with ⟨a0, a1, a2, a3, a4, a5, a6, a7, a8, a9, a10, a11⟩
  rcases b with ⟨b0, b1, b2, b3, b4, b5, b6, b7, b8, b9, b10, b11⟩
  simp [eq_T_12_int32, Bool.and_eq_true, and_assoc]
instance : DecidableEq T_12_int32 := fun a b => decidable_of_iff _ (eq_T_12_int32_iff a b)
structure Glaw30_Line where
  Text : ByteArray
  Cuts : List Int
  Indent : Int
  L_Width : Int
  L_Height : Int
  L_Turn : Int
  L_Every : Int
structure Gpage_turner where
  s : ByteArray
  cells : List Gapi_Cell
  wide : List Int
  ends : List Int
  first : Int
  rest : Int
end Go.Proofs.Ytnhdnpdbmgeheaa
namespace Go.Proofs.Ytnhdnpdbmgeheaa
open Go.RowKit Go.Lib

/-- A piece in the midst: what stands there. -/
theorem pcsFrom_split : ∀ (P : List Pc) (i : Nat) (l : List UInt8) (x : Pc) (B : List Pc), pcsFrom i l = P ++ x :: B →
    ∃ n, x.i = i + n ∧ n + x.w ≤ l.length ∧ DecOk (l.drop n) x.r x.w ∧ pcsFrom (i + n) (l.drop n) = x :: B ∧ B = pcsFrom (x.i + x.w) (l.drop (n + x.w))
  | [], i, l, x, B, h => by
    by_cases hl : l = []
    · subst hl; simp [pcsFrom_nil] at h
    · have hok := decOk l hl
      have h' := h
      rw [pcsFrom_cons i l hl] at h
      simp only [List.nil_append, List.cons.injEq] at h
      obtain ⟨rfl, hB⟩ := h
      exact ⟨0, by simp, by simpa using hok.le, by simpa using hok, by simpa using h', by simpa using hB.symm⟩
  | p :: P, i, l, x, B, h => by
    by_cases hl : l = []
    · subst hl; simp [pcsFrom_nil] at h
    · have hle := dec_le l hl
      rw [pcsFrom_cons i l hl] at h
      simp only [List.cons_append, List.cons.injEq] at h
      obtain ⟨n, h1, h2, h3, h4, h5⟩ := pcsFrom_split P _ _ x B h.2
      refine ⟨(decodeL l).2 + n, by omega, by simp at h2; omega, by rw [← List.drop_drop]; exact h3, by rw [← List.drop_drop, ← Nat.add_assoc]; exact h4, ?_⟩
      rw [h5, List.drop_drop, Nat.add_assoc]
theorem pcs_split (l : List UInt8) (P : List Pc) (x : Pc) (B : List Pc) (h : pcs l = P ++ x :: B) :
    x.i + x.w ≤ l.length ∧ DecOk (l.drop x.i) x.r x.w ∧ pcsFrom x.i (l.drop x.i) = x :: B ∧ B = pcsFrom (x.i + x.w) (l.drop (x.i + x.w)) := by
  obtain ⟨n, h1, h2, h3, h4, h5⟩ := pcsFrom_split P 0 l x B h
  have : x.i = n := by omega
  subst this
  exact ⟨h2, h3, by simpa using h4, h5⟩
theorem pcs_pos (l : List UInt8) (x : Pc) (h : x ∈ pcs l) : 1 ≤ x.w ∧ x.i + x.w ≤ l.length ∧ DecOk (l.drop x.i) x.r x.w := by
  obtain ⟨P, B, hs⟩ := List.append_of_mem h
  obtain ⟨h1, h2, _⟩ := pcs_split l P x B hs
  exact ⟨h2.pos, h1, h2⟩

end Go.Proofs.Ytnhdnpdbmgeheaa
namespace Go.Proofs.Ytnhdnpdbmgeheaa
open Go.RowKit Go.Lib

/-- A piece: its rune, its bytes. -/
structure Tok where
  r : Nat
  bs : List UInt8
  deriving DecidableEq
def Tok.broken (t : Tok) : Bool := t.r == 65533 && t.bs.length == 1
/-- A rune's own form. -/
def Tok.valid (t : Tok) : Prop := (t.r < 55296 ∨ (57343 < t.r ∧ t.r ≤ 1114111)) ∧ t.bs = encodeRune t.r
def flat (ts : List Tok) : List UInt8 := ts.flatMap Tok.bs
def toksF : Nat → List UInt8 → List Tok
  | 0, _ => []
  | f + 1, l => if l = [] then [] else ⟨(decodeL l).1, l.take (decodeL l).2⟩ :: toksF f (l.drop (decodeL l).2)
def toks (l : List UInt8) : List Tok := toksF l.length l

theorem flat_cons (t : Tok) (ts : List Tok) : flat (t :: ts) = t.bs ++ flat ts := by simp [flat]
theorem flat_append (a b : List Tok) : flat (a ++ b) = flat a ++ flat b := by simp [flat]
theorem toksF_enough : ∀ (f g : Nat) (l : List UInt8), l.length ≤ f → l.length ≤ g → toksF f l = toksF g l := by
  intro f
  induction f with
  | zero =>
    intro g l h1 h2
    have : l = [] := List.eq_nil_of_length_eq_zero (by omega)
    subst this
    cases g <;> simp [toksF]
  | succ f ih =>
    intro g l h1 h2
    cases g with
    | zero =>
      have : l = [] := List.eq_nil_of_length_eq_zero (by omega)
      subst this
      simp [toksF]
    | succ g =>
      by_cases hl : l = []
      · simp [toksF, hl]
      · simp only [toksF, hl, if_false]
        have := dec_pos l
        have hlen : 0 < l.length := List.length_pos_iff.2 hl
        rw [ih g _ (by simp; omega) (by simp; omega)]
theorem toks_nil : toks [] = [] := by simp [toks, toksF]
theorem toks_cons (l : List UInt8) (h : l ≠ []) : toks l = ⟨(decodeL l).1, l.take (decodeL l).2⟩ :: toks (l.drop (decodeL l).2) := by
  have hlen : 0 < l.length := List.length_pos_iff.2 h
  unfold toks
  obtain ⟨n, hn⟩ : ∃ n, l.length = n + 1 := ⟨l.length - 1, by omega⟩
  rw [hn]
  simp only [toksF, h, if_false]
  have := dec_pos l
  rw [toksF_enough n (l.drop (decodeL l).2).length _ (by simp; omega) (Nat.le_refl _)]
/-- Induction over a text, piece by piece. -/
theorem dec_induction {P : List UInt8 → Prop} (h0 : P []) (h1 : ∀ l, l ≠ [] → P (l.drop (decodeL l).2) → P l) : ∀ l, P l := by
  have key : ∀ (n : Nat) (l : List UInt8), l.length ≤ n → P l := by
    intro n
    induction n with
    | zero => intro l hl; rw [List.eq_nil_of_length_eq_zero (by omega : l.length = 0)]; exact h0
    | succ n ih =>
      intro l hl
      by_cases hn : l = []
      · rw [hn]; exact h0
      · have := dec_pos l
        exact h1 l hn (ih _ (by simp; omega))
  exact fun l => key l.length l (Nat.le_refl _)
theorem flat_toks (l : List UInt8) : flat (toks l) = l := by
  induction l using dec_induction with
  | h0 => rw [toks_nil]; rfl
  | h1 l hn ih => rw [toks_cons l hn, flat_cons, ih]; exact List.take_append_drop _ _
/-- A piece of a text is a rune's form or a broken byte. -/
theorem tok_ok (l : List UInt8) (h : l ≠ []) : (⟨(decodeL l).1, l.take (decodeL l).2⟩ : Tok).valid ∨ (⟨(decodeL l).1, l.take (decodeL l).2⟩ : Tok).broken = true := by
  by_cases hb : (decodeL l).1 = 65533 ∧ (decodeL l).2 = 1
  · right
    have hlen : 0 < l.length := List.length_pos_iff.2 h
    simp [Tok.broken, hb.1, hb.2]; omega
  · left
    exact ⟨dec_valid l, (encode_decode l h hb).symm⟩
theorem toks_ok (l : List UInt8) : ∀ t ∈ toks l, t.valid ∨ t.broken = true := by
  induction l using dec_induction with
  | h0 => rw [toks_nil]; simp
  | h1 l hn ih =>
    rw [toks_cons l hn]
    intro t ht
    rcases List.mem_cons.1 ht with rfl | ht
    · exact tok_ok l hn
    · exact ih t ht
theorem bs_ne {t : Tok} (h : t.valid ∨ t.broken = true) : t.bs ≠ [] := by
  rcases h with h | h
  · rw [h.2]; intro e; have := (encodeRune_len (t.r : Int)).1; rw [e] at this; simp at this
  · intro e; unfold Tok.broken at h; rw [e] at h; simp at h

/-- A byte that may go on a form. -/
def contB (b : UInt8) : Bool := b.toNat / 64 == 2
/-- What can't go on a form that stands ahead of it. -/
def Stop : List UInt8 → Prop
  | [] => True
  | b :: _ => contB b = false
theorem encZ_shape (r : Nat) (hv : r < 55296 ∨ (57343 < r ∧ r ≤ 1114111)) :
    (r ≤ 127 ∧ encodeRuneZ r = [(r : Int)]) ∨ (128 ≤ r ∧ r ≤ 2047 ∧ encodeRuneZ r = [192 + (r : Int) / 64, 128 + (r : Int) % 64]) ∨
    (2048 ≤ r ∧ r ≤ 65535 ∧ encodeRuneZ r = [224 + (r : Int) / 4096, 128 + (r : Int) / 64 % 64, 128 + (r : Int) % 64]) ∨
    (65536 ≤ r ∧ r ≤ 1114111 ∧ encodeRuneZ r = [240 + (r : Int) / 262144, 128 + (r : Int) / 4096 % 64, 128 + (r : Int) / 64 % 64, 128 + (r : Int) % 64]) := by
  by_cases h1 : r ≤ 127
  · exact .inl ⟨h1, encodeRuneZ_one (by omega) (by omega)⟩
  · by_cases h2 : r ≤ 2047
    · exact .inr (.inl ⟨by omega, h2, encodeRuneZ_two (by omega) (by omega)⟩)
    · by_cases h3 : r ≤ 65535
      · exact .inr (.inr (.inl ⟨by omega, h3, encodeRuneZ_three (by omega)⟩))
      · exact .inr (.inr (.inr ⟨by omega, by omega, encodeRuneZ_four (by omega) (by omega)⟩))
theorem u8_toNat (z : Int) (_h0 : 0 ≤ z) (h1 : z < 256) : (z.toNat.toUInt8).toNat = z.toNat := by
  simp; omega
theorem dec_enc (r : Nat) (hv : r < 55296 ∨ (57343 < r ∧ r ≤ 1114111)) (x : List UInt8) : decodeL (encodeRune r ++ x) = (r, (encodeRune r).length) := by
  rw [decodeL_N]
  rcases encZ_shape r hv with ⟨h, e⟩ | ⟨h, h', e⟩ | ⟨h, h', e⟩ | ⟨h, h', e⟩
  · have hl : encodeRune r = [((r : Int).toNat.toUInt8)] := by simp only [encodeRune, e, List.map_cons, List.map_nil]
    rw [hl]
    simp only [List.cons_append, List.nil_append, List.getD_cons_zero, List.length_cons]
    rw [u8_toNat _ (by omega) (by omega)]
    unfold decodeN
    simp only [Int.toNat_natCast]
    rw [if_pos (by omega)]
    simp
  · have hl : encodeRune r = [((192 + (r : Int) / 64).toNat.toUInt8), ((128 + (r : Int) % 64).toNat.toUInt8)] := by simp only [encodeRune, e, List.map_cons, List.map_nil]
    rw [hl]
    simp only [List.cons_append, List.nil_append, List.getD_cons_zero, List.getD_cons_succ, List.length_cons]
    rw [u8_toNat _ (by omega) (by omega), u8_toNat _ (by omega) (by omega)]
    have a1 : (192 + (r : Int) / 64).toNat = 192 + r / 64 := by omega
    have a2 : (128 + (r : Int) % 64).toNat = 128 + r % 64 := by omega
    rw [a1, a2]
    unfold decodeN
    have c1 : ¬ 192 + r / 64 < 128 := by omega
    have c2 : (192 + r / 64) / 32 = 6 := by omega
    have c3 : (128 + r % 64) / 64 = 2 := by omega
    have c4 : (192 + r / 64) % 32 * 64 + (128 + r % 64) % 64 = r := by omega
    have c5 : 128 ≤ r := by omega
    rw [if_neg c1, if_pos ⟨c2, by omega, c3⟩, c4, if_pos c5]
    rfl
  · have hl : encodeRune r = [((224 + (r : Int) / 4096).toNat.toUInt8), ((128 + (r : Int) / 64 % 64).toNat.toUInt8), ((128 + (r : Int) % 64).toNat.toUInt8)] := by simp only [encodeRune, e, List.map_cons, List.map_nil]
    rw [hl]
    simp only [List.cons_append, List.nil_append, List.getD_cons_zero, List.getD_cons_succ, List.length_cons]
    rw [u8_toNat _ (by omega) (by omega), u8_toNat _ (by omega) (by omega), u8_toNat _ (by omega) (by omega)]
    have a1 : (224 + (r : Int) / 4096).toNat = 224 + r / 4096 := by omega
    have a2 : (128 + (r : Int) / 64 % 64).toNat = 128 + r / 64 % 64 := by omega
    have a3 : (128 + (r : Int) % 64).toNat = 128 + r % 64 := by omega
    rw [a1, a2, a3]
    unfold decodeN
    have c1 : ¬ 224 + r / 4096 < 128 := by omega
    have c2 : (224 + r / 4096) / 32 ≠ 6 := by omega
    have c2' : (224 + r / 4096) / 16 = 14 := by omega
    have c3 : (128 + r / 64 % 64) / 64 = 2 := by omega
    have c3' : (128 + r % 64) / 64 = 2 := by omega
    have c4 : (224 + r / 4096) % 16 * 4096 + (128 + r / 64 % 64) % 64 * 64 + (128 + r % 64) % 64 = r := by omega
    have c5 : 2048 ≤ r := by omega
    rw [if_neg c1, if_neg (fun h => c2 h.1), if_pos ⟨c2', ⟨by omega, c3⟩, ⟨by omega, c3'⟩⟩, c4, if_pos ⟨c5, by omega⟩]
    rfl
  · have hl : encodeRune r = [((240 + (r : Int) / 262144).toNat.toUInt8), ((128 + (r : Int) / 4096 % 64).toNat.toUInt8), ((128 + (r : Int) / 64 % 64).toNat.toUInt8), ((128 + (r : Int) % 64).toNat.toUInt8)] := by simp only [encodeRune, e, List.map_cons, List.map_nil]
    rw [hl]
    simp only [List.cons_append, List.nil_append, List.getD_cons_zero, List.getD_cons_succ, List.length_cons]
    rw [u8_toNat _ (by omega) (by omega), u8_toNat _ (by omega) (by omega), u8_toNat _ (by omega) (by omega), u8_toNat _ (by omega) (by omega)]
    have a1 : (240 + (r : Int) / 262144).toNat = 240 + r / 262144 := by omega
    have a2 : (128 + (r : Int) / 4096 % 64).toNat = 128 + r / 4096 % 64 := by omega
    have a2' : (128 + (r : Int) / 64 % 64).toNat = 128 + r / 64 % 64 := by omega
    have a3 : (128 + (r : Int) % 64).toNat = 128 + r % 64 := by omega
    rw [a1, a2, a2', a3]
    unfold decodeN
    have c1 : ¬ 240 + r / 262144 < 128 := by omega
    have c2 : (240 + r / 262144) / 32 ≠ 6 := by omega
    have c2' : (240 + r / 262144) / 16 ≠ 14 := by omega
    have c2'' : (240 + r / 262144) / 8 = 30 := by omega
    have c3 : (128 + r / 4096 % 64) / 64 = 2 := by omega
    have c3' : (128 + r / 64 % 64) / 64 = 2 := by omega
    have c3'' : (128 + r % 64) / 64 = 2 := by omega
    have c4 : (240 + r / 262144) % 8 * 262144 + (128 + r / 4096 % 64) % 64 * 4096 + (128 + r / 64 % 64) % 64 * 64 + (128 + r % 64) % 64 = r := by omega
    have c5 : 65536 ≤ r := by omega
    rw [if_neg c1, if_neg (fun h => c2 h.1), if_neg (fun h => c2' h.1), if_pos ⟨c2'', ⟨by omega, c3⟩, ⟨by omega, c3'⟩, ⟨by omega, c3''⟩⟩, c4, if_pos ⟨c5, by omega⟩]
    rfl
/-- A rune's form stops what stands ahead of it. -/
theorem stop_enc (r : Nat) (hv : r < 55296 ∨ (57343 < r ∧ r ≤ 1114111)) (x : List UInt8) : Stop (encodeRune r ++ x) := by
  rcases encZ_shape r hv with ⟨h, e⟩ | ⟨h, h', e⟩ | ⟨h, h', e⟩ | ⟨h, h', e⟩ <;>
  · simp only [encodeRune, e, List.map_cons, List.map_nil, List.cons_append, Stop, contB, beq_eq_false_iff_ne, ne_eq]
    rw [u8_toNat _ (by omega) (by omega)]
    omega
theorem stop_valids {vs : List Tok} (hne : vs ≠ []) (h : ∀ t ∈ vs, t.valid) (x : List UInt8) : Stop (flat vs ++ x) := by
  cases vs with
  | nil => exact absurd rfl hne
  | cons t vs =>
    have := h t (List.mem_cons_self ..)
    rw [flat_cons, List.append_assoc, this.2]
    exact stop_enc t.r this.1 _

/-- Broken bytes stay, valid pieces become other valid ones. -/
inductive Sub : List Tok → List Tok → Prop
  | nil : Sub [] []
  | brk {b : Tok} {ts us : List Tok} : b.broken = true → Sub ts us → Sub (b :: ts) (b :: us)
  | val {gs vs ts us : List Tok} : gs ≠ [] → vs ≠ [] → (∀ t ∈ gs, t.valid) → (∀ t ∈ vs, t.valid) → Sub ts us → Sub (gs ++ ts) (vs ++ us)
theorem Sub.one {t : Tok} {vs ts us : List Tok} (ht : t.valid) (hn : vs ≠ []) (hv : ∀ t ∈ vs, t.valid) (h : Sub ts us) : Sub (t :: ts) (vs ++ us) :=
  Sub.val (gs := [t]) (by simp) hn (by simpa using ht) hv h
/-- How a list that is put in another's place begins. -/
theorem Sub.head {ts us : List Tok} (h : Sub ts us) : ∃ B ts' us', (∀ b ∈ B, b.broken = true) ∧ ts = B ++ ts' ∧ us = B ++ us' ∧ Stop (flat ts') ∧ Stop (flat us') := by
  induction h with
  | nil => exact ⟨[], [], [], by simp, rfl, rfl, trivial, trivial⟩
  | brk hb _ ih =>
    obtain ⟨B, ts', us', h1, rfl, rfl, h4, h5⟩ := ih
    exact ⟨_ :: B, ts', us', by simpa [hb] using h1, rfl, rfl, h4, h5⟩
  | @val gs vs ts us h1 h2 h3 h4 _ ih =>
    exact ⟨[], gs ++ ts, vs ++ us, by simp, rfl, rfl, by rw [flat_append]; exact stop_valids h1 h3 _, by rw [flat_append]; exact stop_valids h2 h4 _⟩
/-! ### The pieces with their places -/
def place : Nat → List Tok → List Pc
  | _, [] => []
  | i, t :: ts => ⟨i, t.bs.length, t.r⟩ :: place (i + t.bs.length) ts
theorem pcs_place (l : List UInt8) : ∀ i, pcsFrom i l = place i (toks l) := by
  induction l using dec_induction with
  | h0 => intro i; rw [toks_nil, pcsFrom_nil]; rfl
  | h1 l hn ih =>
    intro i
    have hle := dec_le l hn
    have e : (l.take (decodeL l).2).length = (decodeL l).2 := by simp; omega
    rw [pcsFrom_cons i l hn, toks_cons l hn, place, ih, e]
end Go.Proofs.Ytnhdnpdbmgeheaa
namespace Go.Proofs.Ytnhdnpdbmgeheaa
open Go.RowKit Go.Lib
set_option linter.unusedVariables false
set_option linter.unusedSimpArgs false
section
variable {R S : Type} {c : Prop} [Decidable c] {o x z : Option R} {p : Option S} {f : S → Option R} {b : Bool} {y : Option R}
theorem grdI (h : c) (ho : o = x) : grd c o = x := (grd_pos h).trans ho
theorem thenI {a : S} (h : p = some a) (hf : f a = x) : andThen p f = x := (and_some h).trans hf
theorem condTI (hb : b = true) (h : x = z) : bcond b x y = z := (bcond_T hb).trans h
theorem condFI (hb : b = false) (h : y = z) : bcond b x y = z := (bcond_F hb).trans h
theorem joinI {T : Type} {t : T → Option R} {k : T} (h : t k = x) : joinK t k = x := h
theorem loopI {T : Type} {bot : T} {step : T → T} {n : Nat} : loopG bot step (n + 1) = step (loopG bot step n) := rfl
theorem fuel_eq (k : Nat) (h : k ≤ 1000) : ∃ n, fuel = n + k ∧ 18446744073709550000 ≤ n := ⟨18446744073709551616 - k, by unfold fuel; omega, by omega⟩
end
/-- A rune that has a form. -/
def vr (r : Int) : Prop := (0 ≤ r ∧ r < 55296) ∨ (57343 < r ∧ r ≤ 1114111)
instance (r : Int) : Decidable (vr r) := by unfold vr; infer_instance
def wd (r : Int) : Int := if vr r then (if r < 128 then 1 else if r < 2048 then 2 else if r < 65536 then 3 else 4) else 0
end Go.Proofs.Ytnhdnpdbmgeheaa
namespace Go.Proofs.Ytnhdnpdbmgeheaa
open Go.RowKit Go.Lib
set_option linter.unusedVariables false
set_option linter.unusedSimpArgs false
section
variable {R X A B : Type} {xs : List X}
theorem lp_get {k : Nat} {x : X} (h : xs[k]? = some x) : getO xs (k : Int) = some x := getO_nat h
theorem lp_lt {k : Nat} {x : X} (h : xs[k]? = some x) : decide ((k : Int) < (xs.length : Int)) = true := decide_eq_true (by have := (List.getElem?_eq_some_iff.1 h).1; omega)
theorem lp_ge : decide ((xs.length : Int) < (xs.length : Int)) = false := decide_eq_false (by omega)
theorem lp_lt' {k : Nat} {x : X} (h : xs[k]? = some x) : k < xs.length := (List.getElem?_eq_some_iff.1 h).1
end
theorem big_fuel {n : Nat} (h : n ≤ 4611686018427387904) : n < fuel := by unfold fuel; omega
end Go.Proofs.Ytnhdnpdbmgeheaa
namespace Go.Proofs.Ytnhdnpdbmgeheaa
open Go.RowKit Go.Lib
set_option linter.unusedVariables false
set_option linter.unusedSimpArgs false
/-- The i-th byte of a text from a place on, as a number. -/
def byI (l : List UInt8) (i : Nat) : Int := ((l.getD i 0).toNat : Int)
theorem getB_by {s : ByteArray} {a i : Nat} (h : a + i < s.size) : getB s ((a : Int) + (i : Int)) = some (byI (s.data.toList.drop a) i) := by
  rw [getB_of (n := a + i) (by omega) h]
  have e : (s.data.toList.drop a).getD i 0 = s[a + i] := by
    rw [List.getD_eq_getElem?_getD, List.getElem?_drop, List.getElem?_eq_getElem (by simpa using h)]
    simp; rfl
  unfold byI; rw [e]
def cand (l : List UInt8) : Nat → Int
  | 1 => byI l 0
  | 2 => (byI l 0 - 192) * 64 + byI l 1 - 128
  | 3 => ((byI l 0 - 224) * 64 + byI l 1 - 128) * 64 + byI l 2 - 128
  | 4 => (((byI l 0 - 240) * 64 + byI l 1 - 128) * 64 + byI l 2 - 128) * 64 + byI l 3 - 128
  | _ => 0
def acc (s : ByteArray) (a n : Nat) : Prop := vr (cand (s.data.toList.drop a) n) ∧ wd (cand (s.data.toList.drop a) n) = n ∧ Utf8.encode (cand (s.data.toList.drop a) n) = cutB s a ((a : Int) + n)
theorem cutB_list (s : ByteArray) (a n : Nat) : (cutB s a ((a : Int) + n)).data.toList = (s.data.toList.drop a).take n := by
  unfold cutB
  rw [extract_data]
  simp only [Int.toNat_natCast, show ((a : Int) + (n : Int)).toNat = a + n by omega]
  rw [show a + n - a = n by omega]
/-- A piece, as the reference has it. -/
def pcG (p : Pc) : Gapi_Piece := ⟨p.i, p.w, p.r, p.broken⟩
end Go.Proofs.Ytnhdnpdbmgeheaa
namespace Go.Proofs.Ytnhdnpdbmgeheaa
open Go.RowKit Go.Lib
set_option linter.unusedVariables false
set_option linter.unusedSimpArgs false
/-- They hold at the world w, on blocks that are none of K. -/
def Rd (w : World) (K : Nat → Prop) (RD : List Asn) : Prop := ∀ A ∈ RD, ∃ C, A.P C w ∧ ∀ k, C k → ¬ K k
theorem Rd.nil {w : World} {K : Nat → Prop} : Rd w K [] := fun A h => by cases h
theorem Rd.ext {w0 w : World} {K C : Nat → Prop} {RD : List Asn} (h : Rd w0 K RD) (hx : Ext K C w0 w) : Rd w C RD := fun A hA => by
  obtain ⟨D, h1, h2⟩ := h A hA
  have hlt := A.lt h1
  refine ⟨D, A.loc h1 hx.1.size (fun k hk => hx.1.keep k (hlt k hk) (h2 k hk)), fun k hk hc => ?_⟩
  rcases hx.2 k hc with h | h
  · exact h2 k hk h
  · have := hlt k hk; omega
theorem Rd.append {w : World} {K : Nat → Prop} {A B : List Asn} (h1 : Rd w K A) (h2 : Rd w K B) : Rd w K (A ++ B) := fun X hX => by
  rcases List.mem_append.1 hX with h | h
  · exact h1 X h
  · exact h2 X h
theorem Rd.at {w0 w : World} {K : Nat → Prop} {L RD : List Asn} {A : Asn} {i : Nat} (h : Rd w0 K RD) (hw : Holds w0 K L w) (hi : RD[i]? = some A) : ∃ C, A.P C w := by
  obtain ⟨C, _, hx⟩ := hw
  obtain ⟨D, h1, _⟩ := h.ext hx A (List.mem_of_getElem? hi)
  exact ⟨D, h1⟩
/-- Where read-only assertions come from: entries of one's own (R), or read-only ones (RD0). -/
inductive RdS (R RD0 : List Asn) : List Asn → Prop
  | nil : RdS R RD0 []
  | own {A : Asn} {As R' RD : List Asn} (hs : Splits R As R') (hE : ∀ C w, sepL As C w → A.P C w) (h : RdS R RD0 RD) : RdS R RD0 (A :: RD)
  | ro {A : Asn} {RD : List Asn} (i : Nat) (hi : RD0[i]? = some A) (h : RdS R RD0 RD) : RdS R RD0 (A :: RD)
theorem RdS.rd {w0 w : World} {K C1 C2 : Nat → Prop} {R RD0 RD : List Asn} (h : RdS R RD0 RD) (hR : sepL R C2 w) (hd : ∀ k, C1 k → ¬ C2 k) (h0 : Rd w C1 RD0) : Rd w C1 RD := by
  induction h with
  | nil => exact Rd.nil
  | @own A As R' RD hs hE h ih =>
    intro B hB
    rcases List.mem_cons.1 hB with rfl | hB
    · obtain ⟨D1, D2, g1, g2, g3, g4⟩ := hs C2 w hR
      exact ⟨D1, hE D1 w g1, fun k hk hc => hd k hc ((g4 k).2 (.inl hk))⟩
    · exact ih B hB
  | @ro A RD i hi h ih =>
    intro B hB
    rcases List.mem_cons.1 hB with rfl | hB
    · exact h0 _ (List.mem_of_getElem? hi)
    · exact ih B hB
/-- The contract of a function that reads RD. -/
def FnR (P : Program) (f : FuncId) (vs : List Value) (RD As : List Asn) {β : Type} (V : β → Value) (Bs : β → List Asn) : Prop :=
  ∀ w C, Rd w C RD → FnW P f vs As V Bs w C
section
variable {F : Fence} {P : Program} {w0 : World} {K : Nat → Prop} {N : Nat} {dfs : List Deferred} {ops : Array Oper} {Q : Exit → Act → World → Prop} {rest : List Oper} {σ σ' : List (Nat × Value)} {L L' R As Bs : List Asn} {o : Oper} {v : Value}
  {d : Nat} {t : TypeId} {op : Op} {ty : TypeId} {pos : String} {aft : Array Edge} {g : Option (Nat × Bool)} {x y z : Operand} {c c1 c2 : Code} {k : Nat} {A B : Asn} {RO : List (Nat × Obj)} {RD RD0 : List Asn} {e : TypeId} {ex : Exit}
theorem FnR.intro {f : FuncId} {fn : Func} {vs : List Value} {β : Type} {V : β → Value} {Bs : β → List Asn} (hf : P.funcs[f]? = some fn) (hb : fn.body = some c) (hn : fn.ntmps = N) (hN : vs.length ≤ N)
    (h : ∀ w0 K, Rd w0 K RD → TC Fence.wide P w0 K N [] (bodyPostM Fence.wide 0 P fn (FR P V Bs w0 K)) c (argSlots vs) As) : FnR P f vs RD As V Bs :=
  fun w C hR => FnW.intro hf hb hn hN (h w C hR)
theorem TO.callAnyR [WideF F] {xs : List Operand} {ats : Array TypeId} {f : FuncId} {first cap : Array Value} {vs vs' : List Value} {β : Type} {V : β → Value} {Bs : β → List Asn} {dst : Option Nat} (hRd : Rd w0 K RD0)
    (hg : gd ops σ g = some true) (hx : ev σ x = some (.func (.func f) first cap)) (hxs : evL σ xs = some vs) (hv : first.toList ++ vs ++ cap.toList = vs')
    (hent : ∀ args w, (callFunc f args).run P w = .ok (.enter f args) w) (hF : FnR P f vs' RD As V Bs) (hs : Splits L As R) (hS : RdS R RD0 RD)
    (h : ∀ b a w a', a' = a.put dst (V b) → At N dfs σ a → Holds w0 K (R ++ Bs b) w → wpListIn F 0 P ops Q rest a' w) :
    TO F P w0 K N dfs ops Q (⟨dst, .call { callee := .value x, args := xs.toArray, argTypes := ats }, ty, pos, aft, g⟩ :: rest) σ L := by
  intro a w ha hw
  simp only [wpListIn, gd_wanted (o := ⟨dst, .call { callee := .value x, args := xs.toArray, argTypes := ats }, ty, pos, aft, g⟩) ha hg, if_true]
  refine ⟨fun f _ => WideF.fn f, ?_⟩
  have h1 : (execOp a.eval ⟨dst, .call { callee := .value x, args := xs.toArray, argTypes := ats }, ty, pos, aft, g⟩).run P w = .ok (.enter f vs'.toArray) w := by
    have e : first ++ vs.toArray ++ cap = vs'.toArray := by rw [← hv]; simp
    simp only [execOp, resolve, List.map_toArray, ha.evL hxs, ha.ev hx, Deferred.ofValue, Sem.run_bind, Sem.run_pure, Result.andThen_ok, invoke, e, hent]
  rw [Oper.semAt_plain F _ _ (by simp), h1]
  refine ⟨(fun h => by rw [WideF.depth (F := F)] at h; cases h), ?_⟩
  obtain ⟨C1, C2, hA, g2, g3, hx0, hstep⟩ := hw.split2 hs
  have hRd1 : Rd w C1 RD0 := hRd.ext hx0
  refine WideF.calls ((hF w C1 (hS.rd (w0 := w0) (K := K) g2 g3 hRd1) hA).mono ?_)
  rintro e w' ⟨b, rfl, C', hB, hx'⟩
  exact h b a w' _ rfl ha (hstep _ _ _ hx' hB)
theorem TO.callR [WideF F] {xs : List Operand} {ats : Array TypeId} {f : FuncId} {first cap : Array Value} {vs vs' : List Value} {β : Type} {V : β → Value} {Bs : β → List Asn} (hRd : Rd w0 K RD0)
    (hg : gd ops σ g = some true) (hd : d < N) (hx : ev σ x = some (.func (.func f) first cap)) (hxs : evL σ xs = some vs) (hv : first.toList ++ vs ++ cap.toList = vs')
    (hent : ∀ args w, (callFunc f args).run P w = .ok (.enter f args) w) (hF : FnR P f vs' RD As V Bs) (hs : Splits L As R) (hS : RdS R RD0 RD)
    (h : ∀ b, TO F P w0 K N dfs ops Q rest ((d, V b) :: σ) (R ++ Bs b)) :
    TO F P w0 K N dfs ops Q (⟨some d, .call { callee := .value x, args := xs.toArray, argTypes := ats }, ty, pos, aft, g⟩ :: rest) σ L :=
  TO.callAnyR hRd hg hx hxs hv hent hF hs hS fun b a w a' ha' ha hw => by subst ha'; exact h b _ _ (ha.put hd _) hw
/-- A call that gives a plain value: the entries stay as they are. -/
theorem TO.callPR [WideF F] {xs : List Operand} {ats : Array TypeId} {f : FuncId} {first cap : Array Value} {vs vs' : List Value} (hRd : Rd w0 K RD0)
    (hg : gd ops σ g = some true) (hd : d < N) (hx : ev σ x = some (.func (.func f) first cap)) (hxs : evL σ xs = some vs) (hv : first.toList ++ vs ++ cap.toList = vs')
    (hent : ∀ args w, (callFunc f args).run P w = .ok (.enter f args) w) (hF : FnR P f vs' RD [] (fun _ : Unit => v) (fun _ => [])) (hS : RdS L RD0 RD)
    (h : TO F P w0 K N dfs ops Q rest ((d, v) :: σ) L) :
    TO F P w0 K N dfs ops Q (⟨some d, .call { callee := .value x, args := xs.toArray, argTypes := ats }, ty, pos, aft, g⟩ :: rest) σ L :=
  TO.callAnyR hRd hg hx hxs hv hent hF Splits.nil hS fun b a w a' ha' ha hw => by
    subst ha'
    rw [List.append_nil] at hw
    exact h _ _ (ha.put hd _) hw
/-! ### Reading -/
section
variable {i : Nat}
theorem TO.loadRd [WideF F] {b j : Nat} {l : List Value} {e : TypeId} (hr : Rd w0 K RD) (hi : RD[i]? = some (cells b l e)) (hT : ScalarOk P t) (hg : gd ops σ g = some true) (hd : d < N) (hx : ev σ x = some (.pointer (some ⟨b, j, none⟩))) (hj : l[j]? = some v)
    (h : TO F P w0 K N dfs ops Q rest ((d, v) :: σ) L) : TO F P w0 K N dfs ops Q (⟨some d, .load t x, ty, pos, aft, g⟩ :: rest) σ L := by
  obtain ⟨dd, hu, hrow⟩ := hT
  exact TO.val hg hd (by simp) (fun a w ha hw => by
    obtain ⟨C, hC⟩ := hr.at hw hi
    have hc : w.cell? ⟨b, j, none⟩ = some v := cell_at hC.2 (by simpa using hj)
    cases dd <;> simp_all [execOp, ha.ev hx, Instr.loadAt, Instr.sureAddr, loadVar, isAgg, Sem.run_bind, run_underlying hu]) h
variable {α : Type} {enc : α → List Value} {size : Nat} {vv : Value} {xs : List α}
theorem vec_capR {w : World} {C : Nat → Prop} (h : (vec enc e size vv xs).P C w) : Vw vv xs size 0 vv xs := by
  have hw : Holds w (fun _ => False) [vec enc e size vv xs] w → Vw vv xs size 0 vv xs := fun hh => vec_cap (k := 0) hh rfl
  have : Holds w C [vec enc e size vv xs] w := ⟨C, sepL.one h, Ext.refl _ _⟩
  exact vec_cap (k := 0) this rfl
theorem Rd.vw {w : World} (hr : Rd w K RD) (hi : RD[i]? = some (vec enc e size vv xs)) : Vw vv xs size 0 vv xs := by
  obtain ⟨C, hC, _⟩ := hr _ (List.mem_of_getElem? hi)
  exact vec_capR hC
theorem TO.loadVecRd [WideF F] {n j off : Nat} {q : α} (hr : Rd w0 K RD) (hi : RD[i]? = some (vec enc e size vv xs)) (hT : ScalarOk P t) (hz : ∀ x, (enc x).length = size) (hg : gd ops σ g = some true) (hd : d < N) (hx : ev σ x = some (.pointer (some ⟨vblk vv, off, none⟩)))
    (hq : xs[n]? = some q) (ho : off = n * size + j) (hj : j < size) (hv : (enc q)[j]? = some v) (h : TO F P w0 K N dfs ops Q rest ((d, v) :: σ) L) :
    TO F P w0 K N dfs ops Q (⟨some d, .load t x, ty, pos, aft, g⟩ :: rest) σ L := by
  subst ho
  obtain ⟨dd, hu, hr'⟩ := hT
  refine TO.val hg hd (by simp) (fun a w ha hw => ?_) h
  obtain ⟨C, hC⟩ := hr.at hw hi
  have hV : Vec enc e size vv xs C w := hC
  have hc := hV.cellAt hz hq hj hv
  have h1 := ha.ev hx
  cases dd <;> simp_all [execOp, Instr.loadAt, Instr.sureAddr, loadVar, isAgg, Sem.run_bind, run_underlying hu]
theorem TO.loadsVecRd [WideF F] {m j off n : Nat} {q : α} {cs : List Value} (hr : Rd w0 K RD) (hi : RD[i]? = some (vec enc e size vv xs)) (hT : RowOk P t n) (hz : ∀ x, (enc x).length = size) (hg : gd ops σ g = some true) (hd : d < N) (hx : ev σ x = some (.pointer (some ⟨vblk vv, off, none⟩)))
    (hq : xs[m]? = some q) (ho : off = m * size + j) (hcs : ((enc q).drop j).take n = cs) (hn : cs.length = n)
    (h : TO F P w0 K N dfs ops Q rest ((d, .agg cs.toArray) :: σ) L) : TO F P w0 K N dfs ops Q (⟨some d, .load t x, ty, pos, aft, g⟩ :: rest) σ L := by
  subst ho; subst hn
  obtain ⟨dd, hu, hr', hi'⟩ := hT
  refine TO.val hg hd (by simp) (fun a w ha hw => ?_) h
  obtain ⟨C, hC⟩ := hr.at hw hi
  have hV : Vec enc e size vv xs C w := hC
  have hc : w.rangeAt (vblk vv) (m * size + j) cs := fun n u hn => by
    rw [← hcs] at hn
    rw [List.getElem?_take] at hn
    split at hn
    · rw [List.getElem?_drop] at hn
      have hl : j + n < size := by rw [← hz q]; exact (List.getElem?_eq_some_iff.1 hn).1
      have := hV.cellAt hz hq hl hn
      rwa [← Nat.add_assoc] at this
    · cases hn
  simp only [execOp, ha.ev hx, Sem.run_bind, run_loadAt_mid w _ _ t cs dd hc hu hr' hi']; rfl
end
end
/-! ### A record behind a pointer -/
section
variable {α η : Type} {enc : α × η → List Value} {nest : α × η → List Asn} {t : TypeId} {p : Value} {x : α}
end
end Go.Proofs.Ytnhdnpdbmgeheaa
namespace Go.Proofs.Ytnhdnpdbmgeheaa
open Go.RowKit Go.Lib
set_option linter.unusedVariables false
set_option linter.unusedSimpArgs false

/-- Where the k-th piece begins. -/
def posAt (s : ByteArray) (k : Nat) : Nat := match (pcs s.data.toList)[k]? with
  | some p => p.i
  | none => s.size
theorem posAt_some {s : ByteArray} {k : Nat} {p : Pc} (h : (pcs s.data.toList)[k]? = some p) : posAt s k = p.i := by simp [posAt, h]
theorem posAt_zero (s : ByteArray) : posAt s 0 = 0 := by
  unfold posAt
  by_cases h : s.data.toList = []
  · have : s.size = 0 := by have := congrArg List.length h; simpa using this
    simp [h, pcs, pcsFrom_nil, this]
  · simp [pcs, pcsFrom_cons 0 _ h]
theorem posAt_next {s : ByteArray} {k : Nat} {p : Pc} (h : (pcs s.data.toList)[k]? = some p) : posAt s (k + 1) = p.i + p.w ∧ pcsFrom p.i (s.data.toList.drop p.i) = p :: (pcs s.data.toList).drop (k + 1) := by
  have hk : k < (pcs s.data.toList).length := (List.getElem?_eq_some_iff.1 h).1
  have he : pcs s.data.toList = (pcs s.data.toList).take k ++ p :: (pcs s.data.toList).drop (k + 1) := by
    have h1 := List.drop_eq_getElem_cons hk
    have h2 : (pcs s.data.toList)[k] = p := (List.getElem?_eq_some_iff.1 h).2
    rw [h2] at h1
    rw [← h1, List.take_append_drop]
  obtain ⟨q1, q2, q3, q4⟩ := pcs_split s.data.toList _ p _ he
  have hlen : s.data.toList.length = s.size := by rw [Array.length_toList]; rfl
  refine ⟨?_, q3⟩
  unfold posAt
  have hget : (pcs s.data.toList)[k + 1]? = ((pcs s.data.toList).drop (k + 1))[0]? := by simp
  rw [hget, q4]
  by_cases hd' : s.data.toList.drop (p.i + p.w) = []
  · rw [hd', pcsFrom_nil]
    have h5 := congrArg List.length hd'
    simp only [List.length_drop, List.length_nil, hlen] at h5
    obtain ⟨_, h6, _⟩ := pcs_pos s.data.toList p (List.mem_of_getElem? h)
    simp; omega
  · rw [pcsFrom_cons _ _ hd']; simp
section
variable {F : Fence} {P : Program} {w0 : World} {K : Nat → Prop} {N : Nat} {dfs : List Deferred} {ops : Array Oper} {Q : Exit → Act → World → Prop} {rest : List Oper} {σ : List (Nat × Value)} {L : List Asn}
  {d : Nat} {t : TypeId} {ty : TypeId} {pos : String} {aft : Array Edge} {g : Option (Nat × Bool)} {x : Operand} {k : Nat} {s : ByteArray}
theorem TO.rangeStr [WideF F] (ht : P.underlying t = some .string) (hg : gd ops σ g = some true) (hd : d < N) (hx : ev σ x = some (.string s))
    (h : ∀ b, TO F P w0 K N dfs ops Q rest ((d, .pointer (some ⟨b, 0, none⟩)) :: σ) (L ++ [obj b (.stringIter s (posAt s 0))])) : TO F P w0 K N dfs ops Q (⟨some d, .range t x, ty, pos, aft, g⟩ :: rest) σ L :=
  TO.step hg (by simp) fun a w ha hw => ⟨.pointer (some ⟨w.heap.size, 0, none⟩), w.alloc (.stringIter s 0), by simp [execOp, ha.ev hx, Instr.range, run_underlying ht, Sem.run_bind], h _ _ _ (ha.put hd _) (by rw [posAt_zero]; exact hw.alloc _)⟩
theorem TO.nextStr [WideF F] {it m : Nat} {p : Pc} (hg : gd ops σ g = some true) (hd : d < N) (hx : ev σ x = some (.pointer (some ⟨it, 0, none⟩))) (hk : L[k]? = some (obj it (.stringIter s (posAt s m)))) (hp : (pcs s.data.toList)[m]? = some p)
    (h : TO F P w0 K N dfs ops Q rest ((d, .tuple #[.bool true, .int .i64 p.i, .int .i32 p.r]) :: σ) (L.set k (obj it (.stringIter s (posAt s (m + 1)))))) : TO F P w0 K N dfs ops Q (⟨some d, .next x true, ty, pos, aft, g⟩ :: rest) σ L := by
  refine TO.step hg (by simp) fun a w ha hw => ?_
  have hit := hw.obj hk
  rw [posAt_some hp] at hit
  obtain ⟨h1, h2⟩ := posAt_next hp
  have hmem := List.mem_of_getElem? hp
  obtain ⟨g1, g2, _⟩ := pcs_pos s.data.toList p hmem
  have hlen : s.data.toList.length = s.size := by rw [Array.length_toList]; rfl
  obtain ⟨r, wd, W1, e1, e2, e3, e4, e5, e6, e7, e8⟩ := next_some P w it s p.i hit (by omega)
  rw [h2] at e6
  have hpe : p = ⟨p.i, wd, r⟩ := (List.cons.inj e6).1
  have hw' : p.w = wd := congrArg Pc.w hpe
  have hr : p.r = r := congrArg Pc.r hpe
  obtain ⟨C1, c1, c2⟩ := hw.focus hk
  refine ⟨.tuple #[.bool true, .int .i64 p.i, .int .i32 p.r], W1, by rw [hr]; simp [execOp, ha.ev hx, e1, Sem.run_bind], h _ _ (ha.put hd _) (c2 _ C1 W1 ⟨?_, fun j hj => .inl hj⟩ ⟨c1.1, by rw [h1, hw']; exact e3⟩)⟩
  exact e2.weaken (fun i _ hi => by subst hi; exact (c1.1 _).2 rfl)
theorem TO.nextEnd [WideF F] {it m : Nat} (hg : gd ops σ g = some true) (hd : d < N) (hx : ev σ x = some (.pointer (some ⟨it, 0, none⟩))) (hk : L[k]? = some (obj it (.stringIter s (posAt s m)))) (hm : (pcs s.data.toList).length ≤ m)
    (h : TO F P w0 K N dfs ops Q rest ((d, .tuple #[.bool false]) :: σ) L) : TO F P w0 K N dfs ops Q (⟨some d, .next x true, ty, pos, aft, g⟩ :: rest) σ L := by
  refine TO.step hg (by simp) fun a w ha hw => ?_
  have hit := hw.obj hk
  have e : posAt s m = s.size := by simp [posAt, List.getElem?_eq_none hm]
  rw [e] at hit
  exact ⟨_, w, by simp [execOp, ha.ev hx, (next_none P w it s s.size hit (by omega)).1, Sem.run_bind], h _ _ (ha.put hd _) hw⟩
end
end Go.Proofs.Ytnhdnpdbmgeheaa
namespace Go.Proofs.Ytnhdnpdbmgeheaa
open Go.RowKit Go.Lib
set_option linter.unusedVariables false
set_option linter.unusedSimpArgs false
def runes_Width_v (r1 : Int) : Option Int := joinK (fun (j1 : Option Int) => bcond ((r1 : Int) != 65533) ( bcond (decide (Utf8.encode r1 = (⟨#[239, 191, 189]⟩ : ByteArray))) ( some 0
) ( j1
)
) ( j1
)
) ( some ((Utf8.encode r1).size : Int)
)
set_option maxRecDepth 100000 in
set_option maxHeartbeats 4000000 in
theorem runes_Width_fn {r1 : Int} {r : Int} (h : runes_Width_v r1 = some r) : FnP Try.prog 55 [.int .i32 r1] (.int .i64 r) := by
 unfold runes_Width_v at h
 refine FnP.intro Try.func55 rfl Try.ntmps55 (by simp) ?_
 intro w0 K
 obtain ⟨j1, hj1, h⟩ := joinE h
 refine TC.cutN (β := Unit) 1 rfl (fun b => j1 = some r) (fun b => []) (fun b => [(0, .int .i32 r1)]) (fun b => []) (fun cut => ?_) ?_
 ·
  refine TC.seq (TC.region (TO.assign rfl dc rfl (TO.nil (TX.next (cut (TC.seq (TC.region (TO.move rfl dc rfl (TO.bin rfl dc rfl rfl bin_neq (TO.move rfl dc rfl ?_))))))))))
  refine TO.split (s := 5) rfl (fun hb1 => ?_) (fun hb1 => ?_)
  ·
   have h := condT hb1 h
   refine TO.move rfl dc rfl (TO.conv rfl dc rfl (conv_rune Try.underlying21 Try.underlying9) (TO.bin rfl dc rfl rfl bin_seql (TO.pick (b := true) rfl dc rfl rfl (TO.nil (TX.next ?_)))))
   refine TC.condB rfl (fun hb2 => ?_) (fun hb2 => ?_)
   ·
    have h := condT hb2 h
    refine TC.seq (TC.region (TO.assign rfl dc rfl (TO.nil (TX.next (TC.ret (TX.thenRet ?_))))))
    cases h
    exact TX.fin (rs := [.tmp 2]) () (.inl rfl) Try.results55 (.cons (.tmp rfl) .nil) rfl Splits.nil
   ·
    have h := condF hb2 h
    refine TC.skip ?_
    exact TX.meetD () h rfl (Sbs.cons rfl (Sbs.nil)) Splits.nil
  ·
   have h := condF hb1 h
   refine TO.skip rfl dc (TO.skip rfl dc (TO.skip rfl dc (TO.pick (b := false) rfl dc rfl rfl (TO.nil (TX.next (TC.condF rfl (TC.skip ?_)))))))
   exact TX.meetD () h rfl (Sbs.cons rfl (Sbs.nil)) Splits.nil
 ·
  rintro _ h
  rw [hj1] at h
  show TC _ _ _ _ _ ([]) _ _ [(0, .int .i32 r1)] []
  refine TC.seq (TC.region (TO.move rfl dc rfl (TO.conv rfl dc rfl (conv_rune Try.underlying21 Try.underlying9) (TO.lenStr rfl dc rfl Try.underlying9 (TO.assign rfl dc rfl (TO.nil (TX.next (TC.ret ?_))))))))
  cases h
  exact TX.fin (rs := [.tmp 2]) () (.inl rfl) Try.results55 (.cons (.tmp rfl) .nil) rfl Splits.nil
def runes_read_s1 (s1 : ByteArray) (at1 : Int) (j1 : Option Gapi_Piece) (ag1 : Option Gapi_Piece) : Option Gapi_Piece := bcond (decide (0 < (pcs (cutB s1 at1 (s1.size : Int)).data.toList).length)) ( andThen ((pcs (cutB s1 at1 (s1.size : Int)).data.toList)[0]?) fun (p1 : Pc) => joinK (fun (j2 : Int → Option Gapi_Piece) => andThen (runes_Width_v (p1.r : Int)) fun (r1 : Int) => bcond (((p1.r : Int) : Int) == 65533) ( grd (I64 ((s1.size : Int) - at1)) <| bcond (decide ((((s1.size : Int) - at1) : Int) < 3)) ( some (⟨at1, 1, 65533, true⟩ : Gapi_Piece)
) ( grd (I64 (at1 + 3)) <| grd (0 ≤ (at1 : Int) ∧ (at1 : Int) ≤ (at1 + 3) ∧ (at1 + 3 : Int) ≤ (s1.size : Int)) <| bcond (!decide (cutB s1 at1 (at1 + 3) = (⟨#[239, 191, 189]⟩ : ByteArray))) ( some (⟨at1, 1, 65533, true⟩ : Gapi_Piece)
) ( j2 r1
)
)
) ( j2 r1
)
) (fun (n2 : Int) => some (⟨at1, n2, (p1.r : Int), false⟩ : Gapi_Piece)
)
) ( j1
)
def runes_read_v (s1 : ByteArray) (at1 : Int) : Option Gapi_Piece := joinK (fun (j1 : Option Gapi_Piece) => grd (0 ≤ (at1 : Int) ∧ (at1 : Int) ≤ (s1.size : Int) ∧ ((s1.size : Int) : Int) ≤ (s1.size : Int)) <| loopG none (runes_read_s1 s1 at1 j1) fuel
) ( some (⟨0, 0, 0, false⟩ : Gapi_Piece)
)
set_option maxRecDepth 100000 in
set_option maxHeartbeats 4000000 in
theorem runes_read_fn {s1 : ByteArray} {at1 : Int} {r : Gapi_Piece} (h : runes_read_v s1 at1 = some r) : FnP Try.prog 50 [.string s1, .int .i64 at1] (.agg #[.int .i64 r.At, .int .i64 r.Width, .int .i32 r.Rune, .bool r.Broken]) := by
 unfold runes_read_v at h
 refine FnP.intro Try.func50 rfl Try.ntmps50 (by simp) ?_
 intro w0 K
 obtain ⟨j1, hj1, h⟩ := joinE h
 refine TC.cutN (β := Nat) 1 rfl (fun b => j1 = some r) (fun b => []) (fun b => [(4, .pointer (some ⟨b, 0, none⟩))]) (fun b => [cells b [.int .i64 0, .int .i64 0, .int .i32 0, .bool false] 96]) (fun cut => ?_) ?_
 ·
  refine TC.seq (TC.region ?_)
  refine TO.alloc zr_96 rfl dc (fun b2 => ?_)
  refine TO.nil (TX.next (cut (TC.seq (TC.region (TO.move rfl dc rfl (TO.move rfl dc rfl ?_))))))
  obtain ⟨hg1, h⟩ := grdE h
  refine TO.slice rfl dc rfl rfl rfl (slice_stringI (i := at1) (j := (s1.size : Int)) Try.underlying9 (.inr rfl) (.inl ⟨rfl, rfl⟩) hg1) ?_
  refine TO.rangeStr Try.underlying9 rfl dc rfl (fun b3 => ?_)
  show TO _ _ _ _ _ _ _ _ _ _ [cells b2 [.int .i64 0, .int .i64 0, .int .i32 0, .bool false] 96, obj b3 (.stringIter (cutB s1 at1 (s1.size : Int)) (posAt (cutB s1 at1 (s1.size : Int)) 0))]
  refine TO.nil (TX.next (TC.block ?_))
  refine TC.loopD (β := Nat) (fun b => loopG none (runes_read_s1 s1 at1 j1) b = some r) (fun b => []) (fun b => [(0, .string s1), (1, .int .i64 at1), (4, .pointer (some ⟨b2, 0, none⟩)), (11, .pointer (some ⟨b3, 0, none⟩))]) (fun b => [cells b2 [.int .i64 0, .int .i64 0, .int .i32 0, .bool false] 96, obj b3 (.stringIter (cutB s1 at1 (s1.size : Int)) (posAt (cutB s1 at1 (s1.size : Int)) 0))]) (fun b => b) fuel h rfl (Sbs.cons rfl (Sbs.cons rfl (Sbs.cons rfl (Sbs.cons rfl (Sbs.nil))))) (Splits.of [0, 1] kr rfl) ?_
  rintro n1 h
  cases n1 with
  | zero => exact noneE h
  | succ n1 =>
   obtain ⟨ag1, hag1⟩ : ∃ ag, ag = loopG none (runes_read_s1 s1 at1 j1) n1 := ⟨_, rfl⟩
   have h : runes_read_s1 s1 at1 j1 ag1 = some r := by rw [hag1]; exact h
   unfold runes_read_s1 at h
   show TC _ _ _ _ _ ([]) _ _ [(0, .string s1), (1, .int .i64 at1), (4, .pointer (some ⟨b2, 0, none⟩)), (11, .pointer (some ⟨b3, 0, none⟩))] [cells b2 [.int .i64 0, .int .i64 0, .int .i32 0, .bool false] 96, obj b3 (.stringIter (cutB s1 at1 (s1.size : Int)) (posAt (cutB s1 at1 (s1.size : Int)) 0))]
   refine TC.seq (TC.region ?_)
   refine TO.bySplit (b := decide (0 < (pcs (cutB s1 at1 (s1.size : Int)).data.toList).length)) (fun hb1 => ?_) (fun hb1 => ?_)
   ·
    have h := condT hb1 h
    obtain ⟨p1, hq1, h⟩ := andE h
    refine TO.nextStr (k := 1) (m := 0) (p := p1) rfl dc rfl rfl hq1 (TO.extract rfl dc rfl rfl (TO.nil (TX.next (TC.seq (TC.condT rfl (TC.skip (TX.next (TC.block ?_))))))))
    obtain ⟨j2, hj2, h⟩ := joinE h
    refine TC.cutN (β := Int) 2 rfl (fun b => j2 b = some r) (fun b => []) (fun b => [(1, .int .i64 at1), (4, .pointer (some ⟨b2, 0, none⟩)), (6, .int .i32 (p1.r : Int)), (7, .int .i64 b)]) (fun b => [cells b2 [.int .i64 0, .int .i64 0, .int .i32 0, .bool false] 96]) (fun cut => ?_) ?_
    ·
     refine TC.seq (TC.region (TO.extract rfl dc rfl rfl (TO.assign rfl dc rfl (TO.nil (TX.next (TC.seq (TC.region (TO.move rfl dc rfl ?_))))))))
     obtain ⟨r1, hq2, h⟩ := andE h
     refine TO.callP (v := .int .i64 r1) (vs := [.int .i32 (p1.r : Int)]) rfl dc rfl rfl rfl en_55 (runes_Width_fn hq2) (TO.assign rfl dc rfl (TO.nil (TX.next (cut (TC.seq (TC.region (TO.move rfl dc rfl (TO.bin rfl dc rfl rfl bin_eql (TO.move rfl dc rfl ?_)))))))))
     refine TO.split (s := 19) rfl (fun hb2 => ?_) (fun hb2 => ?_)
     ·
      have h := condT hb2 h
      refine TO.move rfl dc rfl (TO.lenStr rfl dc rfl Try.underlying9 (TO.move rfl dc rfl ?_))
      obtain ⟨hg2, h⟩ := grdE h
      refine TO.bin rfl dc rfl rfl (bin_sub (r := (s1.size : Int) - at1) (IntWalk.i64_in _ hg2)) (TO.bin rfl dc rfl rfl bin_lss (TO.move rfl dc rfl ?_))
      refine TO.split (s := 25) rfl (fun hb3 => ?_) (fun hb3 => ?_)
      ·
       have h := condT hb3 h
       refine TO.skip rfl dc (TO.skip rfl dc (TO.skip rfl dc (TO.skip rfl dc (TO.skip rfl dc (TO.skip rfl dc (TO.pick (b := true) rfl dc rfl rfl (TO.pick (b := true) rfl dc rfl rfl (TO.nil (TX.next (TC.condT rfl (TC.seq (TC.region (TO.move rfl dc rfl ?_)))))))))))))
       refine TO.build (v := .agg #[.int .i64 at1, .int .i64 1, .int .i32 65533, .bool true]) (ps := [(0, .tmp 34), (1, .const (.int .i64 1)), (2, .const (.int .i32 65533)), (3, .const (.bool true))]) rfl dc rfl (fun _ => by kernel_rfl) ?_
       refine TO.stores (k := 0) (vs := [.int .i64 at1, .int .i64 1, .int .i32 65533, .bool true]) (l' := [.int .i64 at1, .int .i64 1, .int .i32 65533, .bool true]) sz_96 rfl rfl rfl rfl rfl (show _ ≤ _ by simp) rfl rfl ?_
       show TO _ _ _ _ _ _ _ _ _ _ [cells b2 [.int .i64 at1, .int .i64 1, .int .i32 65533, .bool true] 96, obj b3 (.stringIter (cutB s1 at1 (s1.size : Int)) (posAt (cutB s1 at1 (s1.size : Int)) (0 + 1)))]
       refine TO.nil (TX.next (TC.ret (TX.thenRet (TX.blockRet (TX.thenRet (TX.blockRet (TX.thenRet ?_)))))))
       cases h
       exact TX.fin (rs := [.cell 4 96]) () (.inl rfl) Try.results50 (.cons (.cells rw_96 (k := 0) rfl rfl rfl) .nil) rfl Splits.nil
      ·
       have h := condF hb3 h
       refine TO.move rfl dc rfl (TO.move rfl dc rfl (TO.move rfl dc rfl ?_))
       obtain ⟨hg3, h⟩ := grdE h
       refine TO.bin rfl dc rfl rfl (bin_add (r := at1 + 3) (IntWalk.i64_in _ hg3)) ?_
       obtain ⟨hg4, h⟩ := grdE h
       refine TO.slice rfl dc rfl rfl rfl (slice_stringI (i := at1) (j := at1 + 3) Try.underlying9 (.inr rfl) (.inr rfl) hg4) (TO.bin rfl dc rfl rfl bin_sneq (TO.pick (b := false) rfl dc rfl rfl (TO.pick (b := true) rfl dc rfl rfl (TO.nil (TX.next ?_)))))
       refine TC.condB rfl (fun hb4 => ?_) (fun hb4 => ?_)
       ·
        have h := condT hb4 h
        refine TC.seq (TC.region (TO.move rfl dc rfl ?_))
        refine TO.build (v := .agg #[.int .i64 at1, .int .i64 1, .int .i32 65533, .bool true]) (ps := [(0, .tmp 34), (1, .const (.int .i64 1)), (2, .const (.int .i32 65533)), (3, .const (.bool true))]) rfl dc rfl (fun _ => by kernel_rfl) ?_
        refine TO.stores (k := 0) (vs := [.int .i64 at1, .int .i64 1, .int .i32 65533, .bool true]) (l' := [.int .i64 at1, .int .i64 1, .int .i32 65533, .bool true]) sz_96 rfl rfl rfl rfl rfl (show _ ≤ _ by simp) rfl rfl ?_
        show TO _ _ _ _ _ _ _ _ _ _ [cells b2 [.int .i64 at1, .int .i64 1, .int .i32 65533, .bool true] 96, obj b3 (.stringIter (cutB s1 at1 (s1.size : Int)) (posAt (cutB s1 at1 (s1.size : Int)) (0 + 1)))]
        refine TO.nil (TX.next (TC.ret (TX.thenRet (TX.blockRet (TX.thenRet (TX.blockRet (TX.thenRet ?_)))))))
        cases h
        exact TX.fin (rs := [.cell 4 96]) () (.inl rfl) Try.results50 (.cons (.cells rw_96 (k := 0) rfl rfl rfl) .nil) rfl Splits.nil
       ·
        have h := condF hb4 h
        refine TC.skip ?_
        exact TX.meetD r1 h rfl (Sbs.cons rfl (Sbs.cons rfl (Sbs.cons rfl (Sbs.cons rfl (Sbs.nil))))) (Splits.of [0] kr rfl)
     ·
      have h := condF hb2 h
      refine TO.skip rfl dc (TO.skip rfl dc (TO.skip rfl dc (TO.skip rfl dc (TO.skip rfl dc (TO.skip rfl dc (TO.skip rfl dc (TO.skip rfl dc (TO.skip rfl dc (TO.skip rfl dc (TO.skip rfl dc (TO.skip rfl dc (TO.skip rfl dc (TO.pick (b := false) rfl dc rfl rfl ?_)))))))))))))
      refine TO.nil (TX.next (TC.condF rfl (TC.skip ?_)))
      exact TX.meetD r1 h rfl (Sbs.cons rfl (Sbs.cons rfl (Sbs.cons rfl (Sbs.cons rfl (Sbs.nil))))) (Splits.of [0] kr rfl)
    ·
     rintro n2 h
     rw [hj2] at h
     show TC _ _ _ _ _ ([]) _ _ [(1, .int .i64 at1), (4, .pointer (some ⟨b2, 0, none⟩)), (6, .int .i32 (p1.r : Int)), (7, .int .i64 n2)] [cells b2 [.int .i64 0, .int .i64 0, .int .i32 0, .bool false] 96]
     refine TC.seq (TC.region (TO.move rfl dc rfl (TO.move rfl dc rfl (TO.move rfl dc rfl ?_))))
     refine TO.build (v := .agg #[.int .i64 at1, .int .i64 n2, .int .i32 (p1.r : Int), .bool false]) (ps := [(0, .tmp 36), (1, .tmp 37), (2, .tmp 38)]) rfl dc rfl (fun _ => by kernel_rfl) ?_
     refine TO.stores (k := 0) (vs := [.int .i64 at1, .int .i64 n2, .int .i32 (p1.r : Int), .bool false]) (l' := [.int .i64 at1, .int .i64 n2, .int .i32 (p1.r : Int), .bool false]) sz_96 rfl rfl rfl rfl rfl (show _ ≤ _ by simp) rfl rfl (TO.nil (TX.next (TC.ret (TX.blockRet (TX.thenRet (TX.blockRet (TX.thenRet ?_)))))))
     cases h
     exact TX.fin (rs := [.cell 4 96]) () (.inl rfl) Try.results50 (.cons (.cells rw_96 (k := 0) rfl rfl rfl) .nil) rfl Splits.nil
   ·
    have h := condF hb1 h
    refine TO.nextEnd (k := 1) (m := 0) rfl dc rfl rfl (Nat.le_of_not_lt (of_decide_eq_false hb1)) (TO.extract rfl dc rfl rfl (TO.nil (TX.next (TC.seq (TC.condF rfl (TC.exit (TX.thenExit (TX.thenExit (TX.blockHere ?_)))))))))
    exact TX.meetD b2 h rfl (Sbs.cons rfl (Sbs.nil)) (Splits.of [0] kr rfl)
 ·
  rintro b1 h
  rw [hj1] at h
  show TC _ _ _ _ _ ([]) _ _ [(4, .pointer (some ⟨b1, 0, none⟩))] [cells b1 [.int .i64 0, .int .i64 0, .int .i32 0, .bool false] 96]
  refine TC.seq (TC.region ?_)
  refine TO.build (v := .agg #[.int .i64 0, .int .i64 0, .int .i32 0, .bool false]) (ps := []) rfl dc rfl (fun _ => by kernel_rfl) ?_
  refine TO.stores (k := 0) (vs := [.int .i64 0, .int .i64 0, .int .i32 0, .bool false]) (l' := [.int .i64 0, .int .i64 0, .int .i32 0, .bool false]) sz_96 rfl rfl rfl rfl rfl (show _ ≤ _ by simp) rfl rfl (TO.nil (TX.next (TC.ret ?_)))
  cases h
  exact TX.fin (rs := [.cell 4 96]) () (.inl rfl) Try.results50 (.cons (.cells rw_96 (k := 0) rfl rfl rfl) .nil) rfl Splits.nil
def runes_Pieces_1_s1 (c0 : ByteArray) (ag1 : Nat → Option (List Gapi_Piece)) (m3 : Nat) : Option (List Gapi_Piece) := bcond (decide (m3 < (pcs c0.data.toList).length)) ( andThen ((pcs c0.data.toList)[m3]?) fun (p1 : Pc) => andThen (runes_read_v c0 (p1.i : Int)) fun (r1 : Gapi_Piece) => consO r1 <| ag1 (m3 + 1)
) ( some []
)
def runes_Pieces_1_v (c0 : ByteArray) : Option (List Gapi_Piece) := loopG (fun _ => none) (runes_Pieces_1_s1 c0) fuel 0
set_option maxRecDepth 100000 in
set_option maxHeartbeats 4000000 in
theorem runes_Pieces_1_itr {b_c0 : Nat} {c0 : ByteArray} {xs : (List Gapi_Piece)} (h : runes_Pieces_1_v c0 = some xs) : Itr Try.prog 49 [.pointer (some ⟨b_c0, 0, none⟩)] (fun q : Gapi_Piece => [.agg #[.int .i64 q.At, .int .i64 q.Width, .int .i32 q.Rune, .bool q.Broken]]) xs [(b_c0, .cells #[.string c0] 9 (0, 0))] := by
 unfold runes_Pieces_1_v at h
 refine Itr.intro Try.func49 rfl Try.ntmps49 (by simp) ?_
 intro l w0 K I X hRo hy
 obtain ⟨r0, hx0⟩ : ∃ r, xs = [] ++ r := ⟨xs, rfl⟩
 have hr0 : xs = r0 := hx0
 rw [hr0] at h
 refine TC.seq (TC.region (TO.loadRo (i := 0) hRo sc_9 rfl dc rfl rfl rfl ?_))
 refine TO.rangeStr Try.underlying9 rfl dc rfl (fun b1 => ?_)
 refine TO.nil (TX.next (TC.block ?_))
 refine TC.loopD (β := Nat × Nat × (List Gapi_Piece) × (List Gapi_Piece)) (fun b => loopG (fun _ => none) (runes_Pieces_1_s1 c0) b.1 b.2.1 = some b.2.2.2 ∧ xs = b.2.2.1 ++ b.2.2.2) (fun b => []) (fun b => [(0, .func (.yield l) #[] #[]), (1, .pointer (some ⟨b_c0, 0, none⟩)), (5, .pointer (some ⟨b1, 0, none⟩))]) (fun b => [I b.2.2.1, obj b1 (.stringIter c0 (posAt c0 b.2.1))]) (fun b => b.1) (fuel, 0, ([] : List Gapi_Piece), r0) ⟨h, hx0⟩ rfl (Sbs.cons rfl (Sbs.cons rfl (Sbs.cons rfl (Sbs.nil)))) (Splits.of [0, 1] kr rfl) ?_
 rintro ⟨n1, m3, acc3, rr3⟩ ⟨h, hx3⟩
 cases n1 with
 | zero => exact noneE h
 | succ n1 =>
  obtain ⟨ag1, hag1⟩ : ∃ ag, ag = loopG (fun _ => none) (runes_Pieces_1_s1 c0) n1 := ⟨_, rfl⟩
  have h : runes_Pieces_1_s1 c0 ag1 m3 = some rr3 := by rw [hag1]; exact h
  unfold runes_Pieces_1_s1 at h
  show TC _ _ _ _ _ ([]) _ _ [(0, .func (.yield l) #[] #[]), (1, .pointer (some ⟨b_c0, 0, none⟩)), (5, .pointer (some ⟨b1, 0, none⟩))] [I acc3, obj b1 (.stringIter c0 (posAt c0 m3))]
  refine TC.seq (TC.region ?_)
  refine TO.bySplit (b := decide (m3 < (pcs c0.data.toList).length)) (fun hb1 => ?_) (fun hb1 => ?_)
  ·
   have h := condT hb1 h
   obtain ⟨p1, hq1, h⟩ := andE h
   refine TO.nextStr (k := 1) (m := m3) (p := p1) rfl dc rfl rfl hq1 (TO.extract rfl dc rfl rfl (TO.nil (TX.next (TC.seq (TC.condT rfl (TC.skip (TX.next (TC.block (TC.seq (TC.region (TO.extract rfl dc rfl rfl (TO.assign rfl dc rfl (TO.nil ?_)))))))))))))
   refine TX.next (TC.seq (TC.region (TO.move rfl dc rfl (TO.loadRo (i := 0) hRo sc_9 rfl dc rfl rfl rfl (TO.move rfl dc rfl ?_)))))
   obtain ⟨r1, hq2, h⟩ := andE h
   refine TO.callP (v := .agg #[.int .i64 r1.At, .int .i64 r1.Width, .int .i32 r1.Rune, .bool r1.Broken]) (vs := [.string c0, .int .i64 (p1.i : Int)]) rfl dc rfl rfl rfl en_50 (runes_read_fn hq2) ?_
   obtain ⟨rr4, hr1, h⟩ := consE h
   have hx4 : xs = acc3 ++ r1 :: rr4 := by rw [hx3, hr1]
   refine TO.yield hy rfl dc rfl hx4 rfl (k := 0) rfl ?_ ?_
   ·
    have hx5 : xs = (acc3 ++ [r1]) ++ rr4 := by rw [hx4]; simp
    show TO _ _ _ _ _ _ _ _ _ _ [I (acc3 ++ [r1]), obj b1 (.stringIter c0 (posAt c0 (m3 + 1)))]
    refine TO.un rfl dc rfl un_not (TO.nil (TX.next (TC.condF rfl (TC.skip (TX.blockNormal ?_)))))
    subst hag1
    exact TX.againD (n1, m3 + 1, acc3 ++ [r1], rr4) ⟨h, hx5⟩ (Nat.lt_succ_self _) rfl (Sbs.cons rfl (Sbs.cons rfl (Sbs.cons rfl (Sbs.nil)))) (Splits.of [0, 1] kr rfl)
   ·
    show TO _ _ _ _ _ _ _ _ _ _ [X (acc3 ++ [r1]), obj b1 (.stringIter c0 (posAt c0 (m3 + 1)))]
    refine TO.un rfl dc rfl un_not (TO.nil (TX.next (TC.condT rfl (TC.ret (TX.blockRet (TX.thenRet (TX.blockRet ?_)))))))
    exact TX.finX (ds := []) acc3 r1 rr4 hx4 (.inl rfl) Splits.nil Try.results49 (Splits.of [0] kr rfl)
  ·
   have h := condF hb1 h
   refine TO.nextEnd (k := 1) (m := m3) rfl dc rfl rfl (Nat.le_of_not_lt (of_decide_eq_false hb1)) (TO.extract rfl dc rfl rfl (TO.nil (TX.next (TC.seq (TC.condF rfl (TC.exit (TX.thenExit (TX.thenExit (TX.blockHere ?_)))))))))
   cases h
   exact TX.finY (ds := []) (.inr rfl) Splits.nil Try.results49 (congrArg I (hx3.trans (List.append_nil _))) (Splits.of [0] kr rfl)
def runes_Pieces_v (s1 : ByteArray) : Option ByteArray := some s1
set_option maxRecDepth 100000 in
set_option maxHeartbeats 4000000 in
theorem runes_Pieces_fn {s1 : ByteArray} {r : ByteArray} (h : runes_Pieces_v s1 = some r) : Fn Try.prog 40 [.string s1] [] (fun v0 : Nat => .func (.func 49) #[] #[.pointer (some ⟨v0, 0, none⟩)]) (fun v0 => [cells v0 [.string r] 9]) := by
 unfold runes_Pieces_v at h
 refine Fn.intro Try.func40 rfl Try.ntmps40 (by simp) ?_
 intro w0 K
 refine TC.seq (TC.region ?_)
 refine TO.box rfl dc rfl (fun b1 => ?_)
 refine TO.assign rfl dc rfl (TO.nil (TX.next (TC.seq (TC.region (TO.makeFunc (x1 := []) (x2 := [.tmp 1]) rfl dc rfl rfl (TO.assign rfl dc rfl (TO.nil (TX.next (TC.ret ?_)))))))))
 cases h
 exact TX.fin (rs := [.tmp 2]) b1 (.inl rfl) Try.results40 (.cons (.tmp rfl) .nil) rfl (Splits.of [0] kr rfl)
end Go.Proofs.Ytnhdnpdbmgeheaa
namespace Go.Proofs.Ytnhdnpdbmgeheaa
open Go.RowKit Go.Lib
set_option linter.unusedVariables false
set_option linter.unusedSimpArgs false
theorem encNeLost (r : Int) (hv : 0 ≤ r ∧ (r < 55296 ∨ (57343 < r ∧ r ≤ 1114111))) (hr : ¬ r = 65533) : ¬ Utf8.encode r = ⟨#[239, 191, 189]⟩ := by
  intro h
  obtain ⟨n, rfl⟩ := Int.eq_ofNat_of_zero_le hv.1
  have h1 : encodeRune ((n : Nat) : Int) = [239, 191, 189] := by rw [← encode_list, h]
  have h2 := dec_enc n (by omega) []
  have h3 := dec_enc 65533 (by omega) []
  rw [h1] at h2
  rw [enc_lost] at h3
  rw [h2] at h3
  have := (Prod.mk.inj h3).1
  omega
theorem rwidthV (r : Int) (hv : vr r) : runes_Width_v r = some ((Utf8.encode r).size : Int) := by
  unfold runes_Width_v
  refine joinI ?_
  by_cases h : r = 65533
  · exact condFI (bne_eq_false_iff_eq.2 h) rfl
  · exact condTI (bne_iff_ne.2 h) (condFI (decide_eq_false (encNeLost r (by unfold vr at hv; omega) h)) rfl)
theorem readV (s : ByteArray) (a : Nat) (ha : a < s.size) (hsz : s.size ≤ 9223372036854775000) : runes_read_v s (a : Int) = some (pcG ⟨a, (decodeL (s.data.toList.drop a)).2, (decodeL (s.data.toList.drop a)).1⟩) := by
  unfold runes_read_v
  obtain ⟨F, hF, _⟩ := fuel_eq 1 (by omega)
  rw [hF]
  refine joinI (grdI ⟨by omega, by omega, by omega⟩ ?_)
  rw [loopI]
  generalize loopG _ _ F = ag
  unfold runes_read_s1
  have hne : s.data.toList.drop a ≠ [] := by
    intro h; have := congrArg List.length h; simp at this; omega
  have hok := decOk _ hne
  have hlen : (s.data.toList.drop a).length = s.size - a := by simp
  have hle := hok.le
  have e : (cutB s (a : Int) (s.size : Int)).data.toList = s.data.toList.drop a := by unfold cutB; exact ext_end s a
  have hp : pcs (cutB s (a : Int) (s.size : Int)).data.toList = ⟨0, (decodeL (s.data.toList.drop a)).2, (decodeL (s.data.toList.drop a)).1⟩ :: pcsFrom (0 + (decodeL (s.data.toList.drop a)).2) ((s.data.toList.drop a).drop (decodeL (s.data.toList.drop a)).2) := by
    rw [e]; unfold pcs; rw [pcsFrom_cons _ _ hne]
  have hvr : vr ((decodeL (s.data.toList.drop a)).1 : Int) := by have := hok.valid; unfold vr; omega
  refine condTI (decide_eq_true (by rw [hp]; simp)) (thenI (by rw [hp]; rfl) (joinI (thenI (rwidthV _ hvr) ?_)))
  simp only
  unfold pcG Pc.broken
  have hw := hok.width
  have hl3 := hok.lost_ok
  have hl1 := hok.lost_bad
  generalize decodeL (s.data.toList.drop a) = d at *
  rcases d with ⟨r, w⟩
  simp only at *
  by_cases hr : r = 65533
  · subst hr
    refine condTI (by decide) (grdI ⟨by omega, by omega⟩ ?_)
    by_cases h3 : (s.size : Int) - a < 3
    · refine condTI (decide_eq_true h3) ?_
      have hw1 : w = 1 := by
        by_cases hw1 : w = 1
        · exact hw1
        · have := (hl3 rfl hw1).2; omega
      subst hw1; rfl
    · have e3 := cutB_list s a 3
      refine condFI (decide_eq_false h3) (grdI ⟨by omega, by omega⟩ (grdI ⟨by omega, by omega, by omega⟩ ?_))
      by_cases hw1 : w = 1
      · refine condTI ?_ (by subst hw1; rfl)
        rw [decide_eq_false]
        · rfl
        · intro h
          exact hl1 rfl hw1 (by rw [← e3]; exact congrArg (fun b : ByteArray => b.data.toList) h)
      · obtain ⟨h4, h5⟩ := hl3 rfl hw1
        refine condFI ?_ ?_
        · rw [decide_eq_true]
          · rfl
          · apply ByteArray.ext; apply Array.toList_inj.1; rw [show ((a : Int) + 3) = (a : Int) + (3 : Nat) from rfl, e3, h4]
        · rw [encode_size, hw (by omega)]
          subst h5; rfl
  · refine condFI (by rw [beq_eq_false_iff_ne]; omega) ?_
    rw [encode_size, hw (by omega)]
    have : (r == 65533 && w == 1) = false := by simp [hr]
    rw [this]
theorem piecesI (s : ByteArray) (hs : s.size ≤ 2147483648) : runes_Pieces_1_v s = some ((pcs s.data.toList).map pcG) := by
  unfold runes_Pieces_1_v
  have hc : (pcs s.data.toList).length ≤ s.size := by have := runesOf_len s; unfold runesOf at this; simpa using this
  have key : ∀ (n k : Nat), k ≤ (pcs s.data.toList).length → (pcs s.data.toList).length - k < n → loopG (fun _ => none) (runes_Pieces_1_s1 s) n k = some (((pcs s.data.toList).drop k).map pcG) := by
    intro n
    induction n with
    | zero => intro k _ h; omega
    | succ n ih =>
      intro k hk hn
      rw [loopI]
      generalize loopG (fun _ => none) (runes_Pieces_1_s1 s) n = ag at ih ⊢
      unfold runes_Pieces_1_s1
      by_cases h : k < (pcs s.data.toList).length
      · have hx : (pcs s.data.toList)[k]? = some (pcs s.data.toList)[k] := List.getElem?_eq_getElem h
        have hm := List.mem_of_getElem? hx
        generalize (pcs s.data.toList)[k] = p at hx hm
        obtain ⟨g1, g2, hok⟩ := pcs_pos s.data.toList p hm
        have hlen : s.data.toList.length = s.size := by rw [Array.length_toList]; rfl
        have hw := hok.pos
        have hr : runes_read_v s (p.i : Int) = some (pcG p) := by
          have := readV s p.i (by omega) (by omega)
          rw [this]
          have he := hok.eq
          rw [he]
        refine condTI (decide_eq_true h) (thenI hx (thenI hr ?_))
        rw [ih (k + 1) (by omega) (by omega)]
        have hd : (pcs s.data.toList).drop k = p :: (pcs s.data.toList).drop (k + 1) := by
          obtain ⟨hlt, he⟩ := List.getElem?_eq_some_iff.1 hx
          rw [← he]; exact List.drop_eq_getElem_cons hlt
        rw [hd]; rfl
      · have : k = (pcs s.data.toList).length := by omega
        subst this
        exact condFI (decide_eq_false (by omega)) (by rw [List.drop_length]; rfl)
  have := key fuel 0 (Nat.zero_le _) (by unfold fuel; omega)
  simpa using this
end Go.Proofs.Ytnhdnpdbmgeheaa
namespace Go.Proofs.Ytnhdnpdbmgeheaa
open Go.RowKit Go.Lib Go.Shelf
attribute [local go_sem] Oper.semAt_some wide_fn wide_in_fn wide_depth
set_option linter.unusedVariables false

theorem ret_bool {a b : Bool} (h : a = b) : Ending.returned (.bool a) = .returned (.bool b) := by rw [h]
theorem ret_int {k : IntKind} {a b : Int} (h : a = b) : Ending.returned (.int k a) = .returned (.int k b) := by rw [h]

end Go.Proofs.Ytnhdnpdbmgeheaa
namespace Go.Proofs.Ytnhdnpdbmgeheaa
open Go.RowKit Go.Lib

def evenB (r : Int) : Bool := decide (r % 2 = 0)
def greatP (r : Int) : Prop :=
  (65 ≤ r ∧ r ≤ 90) ∨ (0xC0 ≤ r ∧ r ≤ 0xDE ∧ r ≠ 0xD7) ∨ (((0x100 ≤ r ∧ r ≤ 0x137) ∨ (0x14A ≤ r ∧ r ≤ 0x177)) ∧ r % 2 = 0) ∨ (0x139 ≤ r ∧ r ≤ 0x148 ∧ r % 2 = 1) ∨ r = 0x178 ∨
  (0x179 ≤ r ∧ r ≤ 0x17D ∧ r % 2 = 1) ∨ (0x386 ≤ r ∧ r ≤ 0x38F ∧ r ≠ 0x387 ∧ r ≠ 0x38B ∧ r ≠ 0x38D) ∨ (0x391 ≤ r ∧ r ≤ 0x3AB ∧ r ≠ 0x3A2) ∨ (0x400 ≤ r ∧ r ≤ 0x42F)
instance (r : Int) : Decidable (greatP r) := by unfold greatP; infer_instance
def great (r : Int) : Bool := decide (greatP r)
def smallP (r : Int) : Prop :=
  (97 ≤ r ∧ r ≤ 122) ∨ (0xDF ≤ r ∧ r ≤ 0xFF ∧ r ≠ 0xF7) ∨ (((0x100 ≤ r ∧ r ≤ 0x137) ∨ (0x14A ≤ r ∧ r ≤ 0x177)) ∧ r % 2 = 1) ∨ r = 0x138 ∨ r = 0x149 ∨ r = 0x17F ∨ r = 0x390 ∨
  (0x139 ≤ r ∧ r ≤ 0x148 ∧ r % 2 = 0) ∨ (0x17A ≤ r ∧ r ≤ 0x17E ∧ r % 2 = 0) ∨ (0x3AC ≤ r ∧ r ≤ 0x3CE) ∨ (0x430 ≤ r ∧ r ≤ 0x45F)
instance (r : Int) : Decidable (smallP r) := by unfold smallP; infer_instance
def small (r : Int) : Bool := decide (smallP r)
def letter (r : Int) : Bool := great r || small r
def back (r : Int) : Int :=
  if r = 0xFF then 0xFF - 0x178
  else if r < 0x100 ∨ (0x3B1 ≤ r ∧ r ≤ 0x3CB) ∨ (0x430 ≤ r ∧ r ≤ 0x44F) then 0x20
  else if r ≤ 0x17F then 1
  else if r = 0x3AC then 0x3AC - 0x386
  else if 0x3AD ≤ r ∧ r ≤ 0x3AF then 0x25
  else if r = 0x3CC then 0x40
  else if r = 0x3CD ∨ r = 0x3CE then 0x3F
  else 0x50
def kindP (r : Int) : Int :=
  if r < 0 ∨ (0xD800 ≤ r ∧ r ≤ 0xDFFF) ∨ 0x10FFFF < r then 0
  else if letter r then 1
  else if 0x300 ≤ r ∧ r ≤ 0x36F then 2
  else if 48 ≤ r ∧ r ≤ 57 then 3
  else if r = 10 ∨ r = 13 then 4
  else if r = 9 ∨ r = 32 ∨ r = 0xA0 ∨ r = 0x202F ∨ r = 0x205F ∨ r = 0x3000 then 5
  else if r = 45 ∨ (0x2010 ≤ r ∧ r ≤ 0x2015) then 6
  else if r = 34 ∨ r = 39 ∨ r = 0xAB ∨ r = 0xBB ∨ r = 0x2039 ∨ r = 0x203A then 7
  else if r = 33 ∨ r = 44 ∨ r = 46 ∨ r = 58 ∨ r = 59 ∨ r = 63 ∨ r = 0xA1 ∨ r = 0xB7 ∨ r = 0xBF ∨ r = 0x2026 then 8
  else if 0x2000 ≤ r ∧ r ≤ 0x200A then 5
  else if 0x2018 ≤ r ∧ r ≤ 0x201F then 7
  else if r < 0x20 ∨ (0x7F ≤ r ∧ r ≤ 0x9F) ∨ (0x200B ≤ r ∧ r ≤ 0x200F) ∨ r = 0xFEFF then 9
  else 10
def kind (r : Int) : Int := kindP r

theorem great_iff (r : Int) : great r = true ↔ greatP r := by simp [great]
theorem small_iff (r : Int) : small r = true ↔ smallP r := by simp [small]

end Go.Proofs.Ytnhdnpdbmgeheaa
namespace Go.Proofs.Ytnhdnpdbmgeheaa
open Go.RowKit Go.Lib Go.Shelf
set_option linter.unusedVariables false
set_option linter.unusedSimpArgs false

theorem and1 (r : Int) (h0 : -2147483648 ≤ r) (h1 : r ≤ 2147483647) : (bits BinOp.and IntKind.i32 r 1 == 0) = evenB r := by
  have hk : bits .and .i32 r 1 = r % 2 := by
    have h1 : (BitVec.ofInt 32 1).toNat = 2 ^ 1 - 1 := by decide
    have key : (BitVec.ofInt 32 r &&& BitVec.ofInt 32 1).toNat = (r % ((2 ^ 32 : Nat) : Int)).toNat % 2 ^ 1 := by
      rw [BitVec.toNat_and, BitVec.toNat_ofInt, h1, Nat.and_two_pow_sub_one_eq_mod]
    show IntKind.i32.wrap ((BitVec.ofInt 32 r &&& BitVec.ofInt 32 1).toNat : Nat) = r % 2
    rw [key, IntKind.wrap_i32]
    omega
  rw [hk, evenB, Bool.eq_iff_iff]
  simp
theorem even_any (r : Int) (w : World) (h0 : -2147483648 ≤ r) (h1 : r ≤ 2147483647) :
    Calls Try.prog 60 #[.int .i32 r] w fun e w' => e = .returned (.bool (evenB r)) ∧ w = w' := by
  go_enter Try.func60, Try.ntmps60
  go_wp2
  go_ret
  exact ⟨ret_bool (and1 r h0 h1), rfl⟩

set_option maxHeartbeats 1000000 in
theorem great_any (r : Int) (w : World) (h0 : -2147483648 ≤ r) (h1 : r ≤ 2147483647) :
    Calls Try.prog 58 #[.int .i32 r] w fun e w' => e = .returned (.bool (great r)) ∧ w = w' := by
  go_enter Try.func58, Try.ntmps58
  go_wp2_with (go_at_call 60; refine (even_any _ _ (by omega) (by omega)).mono ?_; rintro e w' ⟨rfl, rfl⟩)
  all_goals
    go_ret
    refine ⟨ret_bool ?_, rfl⟩
    (go_light; rw [Bool.eq_iff_iff]; (try simp only [great_iff, greatP, evenB, decide_eq_true_eq, bne_iff_ne, ne_eq, Bool.not_eq_true', decide_eq_false_iff_not, Bool.and_eq_true, Bool.or_eq_true, Bool.or_eq_false_iff, Bool.and_eq_false_iff, bne_eq_false_iff_eq, beq_iff_eq, beq_eq_false_iff_ne, Bool.false_eq_true, false_iff, true_iff, iff_true, iff_false, Bool.not_eq_false', Bool.not_true, Bool.not_false] at *); omega)

set_option maxHeartbeats 1000000 in
theorem small_any (r : Int) (w : World) (h0 : -2147483648 ≤ r) (h1 : r ≤ 2147483647) :
    Calls Try.prog 59 #[.int .i32 r] w fun e w' => e = .returned (.bool (small r)) ∧ w = w' := by
  go_enter Try.func59, Try.ntmps59
  go_wp2_with (go_at_call 60; refine (even_any _ _ (by omega) (by omega)).mono ?_; rintro e w' ⟨rfl, rfl⟩)
  all_goals
    go_ret
    refine ⟨ret_bool ?_, rfl⟩
    (go_light; rw [Bool.eq_iff_iff]; (try simp only [small_iff, smallP, evenB, decide_eq_true_eq, bne_iff_ne, ne_eq, Bool.not_eq_true', decide_eq_false_iff_not, Bool.and_eq_true, Bool.or_eq_true, Bool.or_eq_false_iff, Bool.and_eq_false_iff, bne_eq_false_iff_eq, beq_iff_eq, beq_eq_false_iff_ne, Bool.false_eq_true, false_iff, true_iff, iff_true, iff_false, Bool.not_eq_false', Bool.not_true, Bool.not_false] at *); omega)

theorem letter_any (r : Int) (w : World) (h0 : -2147483648 ≤ r) (h1 : r ≤ 2147483647) :
    Calls Try.prog 56 #[.int .i32 r] w fun e w' => e = .returned (.bool (letter r)) ∧ w = w' := by
  go_enter Try.func56, Try.ntmps56
  go_wp2_with (first | (go_at_call 58; refine (great_any _ _ (by omega) (by omega)).mono ?_; rintro e w' ⟨rfl, rfl⟩) | (go_at_call 59; refine (small_any _ _ (by omega) (by omega)).mono ?_; rintro e w' ⟨rfl, rfl⟩))
  all_goals
    go_ret
    refine ⟨ret_bool ?_, rfl⟩
    go_light
    simp_all [letter]

theorem mark_any (r : Int) (w : World) (h0 : -2147483648 ≤ r) (h1 : r ≤ 2147483647) :
    Calls Try.prog 57 #[.int .i32 r] w fun e w' => e = .returned (.bool (decide (0x300 ≤ r ∧ r ≤ 0x36F))) ∧ w = w' := by
  go_enter Try.func57, Try.ntmps57
  go_wp2
  all_goals
    go_ret
    refine ⟨ret_bool ?_, rfl⟩
    (go_light; rw [Bool.eq_iff_iff]; simp only [decide_eq_true_eq, bne_iff_ne, ne_eq, Bool.not_eq_true', decide_eq_false_iff_not, Bool.and_eq_true, Bool.or_eq_true, Bool.or_eq_false_iff, Bool.and_eq_false_iff, bne_eq_false_iff_eq, beq_iff_eq, beq_eq_false_iff_ne, Bool.false_eq_true, false_iff, true_iff, iff_true, iff_false, Bool.not_eq_false', Bool.not_true, Bool.not_false] at *; omega)

end Go.Proofs.Ytnhdnpdbmgeheaa
namespace Go.Proofs.Ytnhdnpdbmgeheaa
open Go.RowKit Go.Lib Go.Shelf
set_option linter.unusedVariables false
set_option linter.unusedSimpArgs false

set_option maxHeartbeats 4000000 in
theorem kind_any (r : Int) (w : World) (h0 : -2147483648 ≤ r) (h1 : r ≤ 2147483647) :
    Calls Try.prog 51 #[.int .i32 r] w fun e w' => e = .returned (.int .i64 (kind r)) ∧ w = w' := by
  go_enter Try.func51, Try.ntmps51
  go_wp2_with (first | (go_at_call 56; refine (letter_any _ _ (by omega) (by omega)).mono ?_; rintro e w' ⟨rfl, rfl⟩) | (go_at_call 57; refine (mark_any _ _ (by omega) (by omega)).mono ?_; rintro e w' ⟨rfl, rfl⟩))
  all_goals
    go_ret
    refine ⟨ret_int ?_, rfl⟩
    go_light
    try simp only [decide_eq_true_eq, bne_iff_ne, ne_eq, Bool.not_eq_true', decide_eq_false_iff_not, Bool.and_eq_true, Bool.or_eq_true, Bool.or_eq_false_iff, Bool.and_eq_false_iff, bne_eq_false_iff_eq, beq_iff_eq, beq_eq_false_iff_ne, Bool.false_eq_true, false_iff, true_iff, iff_true, iff_false, Bool.not_eq_false', Bool.not_true, Bool.not_false] at *
    grind [kind, kindP]

/-- A piece's kind. -/
def kindOf (b : Bool) (r : Int) : Int := if b then 11 else kind r

theorem of_any (i wd r : Int) (b : Bool) (w : World) (h0 : -2147483648 ≤ r) (h1 : r ≤ 2147483647) :
    Calls Try.prog 41 #[.agg #[.int .i64 i, .int .i64 wd, .int .i32 r, .bool b]] w fun e w' => e = .returned (.int .i64 (kindOf b r)) ∧ Below w.heap.size w w' := by
  cases b
  · go_enter Try.func41, Try.ntmps41
    go_wp2_with (go_at_call 51; refine (kind_any _ _ (by omega) (by omega)).mono ?_; rintro e w' ⟨rfl, rfl⟩)
    go_ret
    exact ⟨ret_int (by simp [kindOf]), (Below.refl _ _).alloc (Nat.le_refl _) _⟩
  · go_enter Try.func41, Try.ntmps41
    go_wp2_with (go_at_call 51; refine (kind_any _ _ (by omega) (by omega)).mono ?_; rintro e w' ⟨rfl, rfl⟩)
    go_ret
    exact ⟨ret_int (by simp [kindOf]), (Below.refl _ _).alloc (Nat.le_refl _) _⟩


end Go.Proofs.Ytnhdnpdbmgeheaa
namespace Go.Proofs.Ytnhdnpdbmgeheaa
open Go.RowKit Go.Lib Go.Shelf
attribute [local go_sem] Oper.semAt_some wide_fn wide_in_fn wide_depth
set_option linter.unusedVariables false
set_option linter.unusedSimpArgs false

end Go.Proofs.Ytnhdnpdbmgeheaa
namespace Go.Proofs.Ytnhdnpdbmgeheaa
open Go.RowKit Go.Lib Go.Shelf
attribute [local go_sem] Oper.semAt_some
set_option linter.unusedVariables false
set_option linter.unusedSimpArgs false

theorem pcs_count (l : List UInt8) : ∀ (n : Nat) (D : List Pc) (p : Pc) (B : List Pc), D.length ≤ n → pcs l = D ++ p :: B → D.length ≤ p.i
  | 0, D, p, B, hn, h => by omega
  | n + 1, D, p, B, hn, h => by
    rcases List.eq_nil_or_concat D with rfl | ⟨D, q, rfl⟩
    · simp
    · rw [List.concat_eq_append] at h hn ⊢
      have h1 := pcs_count l n D q (p :: B) (by simp at hn; omega) (by rw [h]; simp)
      obtain ⟨_, hok, _, h4⟩ := pcs_split l D q (p :: B) (by rw [h]; simp)
      have := hok.pos
      have h5 : p.i = q.i + q.w := by
        by_cases hd : l.drop (q.i + q.w) = []
        · rw [hd, pcsFrom_nil] at h4; simp at h4
        · rw [pcsFrom_cons _ _ hd] at h4
          simp only [List.cons.injEq] at h4
          rw [h4.1]
      rw [List.length_append, h5]
      simp only [List.length_singleton]; omega

end Go.Proofs.Ytnhdnpdbmgeheaa
namespace Go.Proofs.Ytnhdnpdbmgeheaa
open Go.RowKit Go.Lib

/-- A longest row of pieces of one kind. -/
structure Rn where
  f : Nat
  t : Nat
  k : Int
  deriving DecidableEq
end Go.Proofs.Ytnhdnpdbmgeheaa
namespace Go.Proofs.Ytnhdnpdbmgeheaa
open Go.RowKit Go.Lib
set_option linter.unusedVariables false

theorem of_p (i wd r : Int) (b : Bool) (h0 : -2147483648 ≤ r) (h1 : r ≤ 2147483647) : FnP Try.prog 41 [.agg #[.int .i64 i, .int .i64 wd, .int .i32 r, .bool b]] (.int .i64 (kindOf b r)) := fun w => of_any i wd r b w h0 h1
theorem Rw.vec {α : Type} {enc : α → List Value} {e : TypeId} {size : Nat} {v : Value} {L : List α} {w w' : World} (h : Rw enc w' w.heap.size e size v L) (hb : Below w.heap.size w w') :
    ∃ C', sepL [vec enc e size v L] C' w' ∧ Ext (fun _ => False) C' w w' := by
  refine ⟨fun k => v.ownBlock = some k, sepL.one ⟨Rw.base h (Nat.zero_le _), rfl⟩, (Fr.of_below hb).weaken (fun i hi h => by omega), fun k hk => .inr ?_⟩
  rcases h.shape with ⟨rfl, _⟩ | ⟨g, cap, rfl, h1, h2, _⟩
  · simp [Value.ownBlock] at hk
  · simp [Value.ownBlock] at hk; omega
end Go.Proofs.Ytnhdnpdbmgeheaa
namespace Go.Proofs.Ytnhdnpdbmgeheaa
open Go.RowKit Go.Lib Go.Shelf
set_option linter.unusedVariables false
set_option linter.unusedSimpArgs false

def vowelRunes : List Int := [0x101, 0x103, 0x105, 0x113, 0x115, 0x117, 0x119, 0x11b, 0x129, 0x12b, 0x12d, 0x12f, 0x131, 0x14d, 0x14f, 0x151, 0x153, 0x169, 0x16b, 0x16d, 0x16f, 0x171, 0x173, 0x177,
  0x390, 0x3ac, 0x3ad, 0x3ae, 0x3af, 0x3b0, 0x3b1, 0x3b5, 0x3b7, 0x3b9, 0x3bf, 0x3c5, 0x3c9, 0x3ca, 0x3cb, 0x3cc, 0x3cd, 0x3ce,
  0x430, 0x435, 0x438, 0x43e, 0x443, 0x44b, 0x44d, 0x44e, 0x44f, 0x450, 0x451, 0x454, 0x456, 0x457, 0x45d]
def vowelS : ByteArray := ⟨#[196, 129, 196, 131, 196, 133, 196, 147, 196, 149, 196, 151, 196, 153, 196, 155, 196, 169, 196, 171, 196, 173, 196, 175, 196, 177, 197, 141, 197, 143, 197, 145, 197, 147, 197, 169, 197, 171, 197, 173, 197, 175, 197, 177, 197, 179, 197, 183, 206, 144, 206, 172, 206, 173, 206, 174, 206, 175, 206, 176, 206, 177, 206, 181, 206, 183, 206, 185, 206, 191, 207, 133, 207, 137, 207, 138, 207, 139, 207, 140, 207, 141, 207, 142, 208, 176, 208, 181, 208, 184, 208, 190, 209, 131, 209, 139, 209, 141, 209, 142, 209, 143, 209, 144, 209, 145, 209, 148, 209, 150, 209, 151, 209, 157]⟩
theorem vowelS_runes : (pcs vowelS.data.toList).map (fun p => (p.r : Int)) = vowelRunes := by decide +kernel
/-- A range over vowelS that looks for a rune: at a round's head. -/
def VowRel (w : World) (x : Int) (wr : World) : Prop :=
  ∃ pre pos, pcs vowelS.data.toList = pre ++ pcsFrom pos (vowelS.data.toList.drop pos) ∧ pos ≤ vowelS.size ∧ (∀ p ∈ pre, (Pc.r p : Int) ≠ x) ∧ Below w.heap.size w wr ∧ wr.heap[w.heap.size]? = some (.stringIter vowelS pos)
theorem VowRel.start (w : World) (x : Int) : VowRel w x (w.iter vowelS 0) :=
  ⟨[], 0, rfl, Nat.zero_le _, by simp, (Below.refl _ _).alloc (Nat.le_refl _) _, World.iter_heap w vowelS 0⟩
theorem VowRel.round {P : Program} {w wr : World} {x : Int} (h : VowRel w x wr) :
    (∃ (pos r : Nat) (W1 : World), (∀ ty, (Instr.next (.pointer (some ⟨w.heap.size, 0, none⟩)) true ty).run P wr = .ok (.tuple #[.bool true, .int .i64 pos, .int .i32 r]) W1) ∧ Below w.heap.size w W1 ∧
      (((r : Int) = x ∧ vowelRunes.contains x = true) ∨ ((r : Int) ≠ x ∧ VowRel w x W1 ∧ vowelS.size - W1.iterPos w.heap.size < vowelS.size - wr.iterPos w.heap.size))) ∨
    ((∀ ty, (Instr.next (.pointer (some ⟨w.heap.size, 0, none⟩)) true ty).run P wr = .ok (.tuple #[.bool false]) wr) ∧ Below w.heap.size w wr ∧ vowelRunes.contains x = false) := by
  obtain ⟨pre, pos, hx, hpos, hpre, hb, hit⟩ := h
  by_cases hlt : pos < vowelS.size
  · obtain ⟨r, wd, W1, hn, hf, hit1, hsz, hok, hp, hle, h1⟩ := next_some P wr w.heap.size vowelS pos hit hlt
    have hb1 : Below w.heap.size w W1 := hb.trans (hf.toBelow hb.size (by intro k hk; omega))
    refine .inl ⟨pos, r, W1, hn, hb1, ?_⟩
    rw [hp] at hx
    by_cases he : (r : Int) = x
    · refine .inl ⟨he, ?_⟩
      rw [← vowelS_runes, hx, List.contains_iff_mem, List.mem_map]
      exact ⟨⟨pos, wd, r⟩, by simp, he⟩
    · refine .inr ⟨he, ⟨pre ++ [⟨pos, wd, r⟩], pos + wd, by rw [hx]; simp, hle, ?_, hb1, hit1⟩, ?_⟩
      · intro p hp
        rcases List.mem_append.1 hp with h | h
        · exact hpre p h
        · simp at h; subst h; exact he
      · rw [iterPos_at hit, iterPos_at hit1]; omega
  · obtain ⟨hn, hp⟩ := next_none P wr w.heap.size vowelS pos hit hlt
    refine .inr ⟨hn, hb, ?_⟩
    rw [hp, List.append_nil] at hx
    rw [← vowelS_runes, hx, ← Bool.not_eq_true, List.contains_iff_mem, List.mem_map]
    rintro ⟨p, hm, he⟩
    exact hpre p hm he

end Go.Proofs.Ytnhdnpdbmgeheaa
namespace Go.Proofs.Ytnhdnpdbmgeheaa
open Go.RowKit Go.Lib Go.Shelf
set_option linter.unusedVariables false
set_option linter.unusedSimpArgs false

def inB (r a b : Int) : Bool := decide (a ≤ r ∧ r ≤ b)
theorem rin_any (r a b : Int) (w : World) :
    Calls Try.prog 46 #[.int .i32 r, .int .i32 a, .int .i32 b] w fun e w' => e = .returned (.bool (inB r a b)) ∧ w = w' := by
  go_enter Try.func46, Try.ntmps46
  go_wp2
  all_goals
    go_ret
    refine ⟨ret_bool ?_, rfl⟩
    (go_light; rw [Bool.eq_iff_iff]; simp only [inB, decide_eq_true_eq, bne_iff_ne, ne_eq, Bool.not_eq_true', decide_eq_false_iff_not, Bool.and_eq_true, Bool.or_eq_true, Bool.or_eq_false_iff, Bool.and_eq_false_iff, bne_eq_false_iff_eq, beq_iff_eq, beq_eq_false_iff_ne, Bool.false_eq_true, false_iff, true_iff, iff_true, iff_false, Bool.not_eq_false', Bool.not_true, Bool.not_false] at *; omega)

set_option maxHeartbeats 4000000 in
theorem rgreat_any (r : Int) (w : World) (h0 : -2147483648 ≤ r) (h1 : r ≤ 2147483647) :
    Calls Try.prog 47 #[.int .i32 r] w fun e w' => e = .returned (.bool (great r)) ∧ w = w' := by
  by_cases hn : 0 ≤ r
  · go_enter Try.func47, Try.ntmps47
    go_wp2_with (first | (go_at_call 46; refine (rin_any _ _ _ _).mono ?_; rintro e w' ⟨rfl, rfl⟩))
    all_goals
      go_ret
      refine ⟨ret_bool ?_, rfl⟩
      (go_light; rw [Bool.eq_iff_iff, great_iff]; simp only [inB, greatP, decide_eq_true_eq, bne_iff_ne, ne_eq, Bool.not_eq_true', decide_eq_false_iff_not, Bool.and_eq_true, Bool.or_eq_true, Bool.or_eq_false_iff, Bool.and_eq_false_iff, bne_eq_false_iff_eq, beq_iff_eq, beq_eq_false_iff_ne, Bool.false_eq_true, false_iff, true_iff, iff_true, iff_false, Bool.not_eq_false', Bool.not_true, Bool.not_false] at *; omega)
  · have i1 : ∀ a b : Int, 0 ≤ a → inB r a b = false := by intro a b ha; simp [inB]; omega
    have hm : great r = false := by rw [Bool.eq_false_iff]; intro h; rw [great_iff] at h; unfold greatP at h; omega
    go_enter Try.func47, Try.ntmps47
    go_wp2_with (first | (go_at_call 46; refine (rin_any _ _ _ _).mono ?_; rintro e w' ⟨rfl, rfl⟩))
    all_goals
      go_ret
      refine ⟨ret_bool ?_, rfl⟩
      (go_light; rw [Bool.eq_iff_iff, great_iff]; simp only [inB, greatP, decide_eq_true_eq, bne_iff_ne, ne_eq, Bool.not_eq_true', decide_eq_false_iff_not, Bool.and_eq_true, Bool.or_eq_true, Bool.or_eq_false_iff, Bool.and_eq_false_iff, bne_eq_false_iff_eq, beq_iff_eq, beq_eq_false_iff_ne, Bool.false_eq_true, false_iff, true_iff, iff_true, iff_false, Bool.not_eq_false', Bool.not_true, Bool.not_false] at *; omega)


set_option maxHeartbeats 4000000 in
theorem rsmall_any (r : Int) (w : World) (h0 : -2147483648 ≤ r) (h1 : r ≤ 2147483647) :
    Calls Try.prog 48 #[.int .i32 r] w fun e w' => e = .returned (.bool (small r)) ∧ w = w' := by
  by_cases hn : 0 ≤ r
  · go_enter Try.func48, Try.ntmps48
    go_wp2_with (first | (go_at_call 46; refine (rin_any _ _ _ _).mono ?_; rintro e w' ⟨rfl, rfl⟩))
    all_goals
      go_ret
      refine ⟨ret_bool ?_, rfl⟩
      (go_light; rw [Bool.eq_iff_iff, small_iff]; simp only [inB, smallP, decide_eq_true_eq, bne_iff_ne, ne_eq, Bool.not_eq_true', decide_eq_false_iff_not, Bool.and_eq_true, Bool.or_eq_true, Bool.or_eq_false_iff, Bool.and_eq_false_iff, bne_eq_false_iff_eq, beq_iff_eq, beq_eq_false_iff_ne, Bool.false_eq_true, false_iff, true_iff, iff_true, iff_false, Bool.not_eq_false', Bool.not_true, Bool.not_false] at *; omega)
  · have i1 : ∀ a b : Int, 0 ≤ a → inB r a b = false := by intro a b ha; simp [inB]; omega
    have hm : small r = false := by rw [Bool.eq_false_iff]; intro h; rw [small_iff] at h; unfold smallP at h; omega
    go_enter Try.func48, Try.ntmps48
    go_wp2_with (first | (go_at_call 46; refine (rin_any _ _ _ _).mono ?_; rintro e w' ⟨rfl, rfl⟩))
    all_goals
      go_ret
      refine ⟨ret_bool ?_, rfl⟩
      (go_light; rw [Bool.eq_iff_iff, small_iff]; simp only [inB, smallP, decide_eq_true_eq, bne_iff_ne, ne_eq, Bool.not_eq_true', decide_eq_false_iff_not, Bool.and_eq_true, Bool.or_eq_true, Bool.or_eq_false_iff, Bool.and_eq_false_iff, bne_eq_false_iff_eq, beq_iff_eq, beq_eq_false_iff_ne, Bool.false_eq_true, false_iff, true_iff, iff_true, iff_false, Bool.not_eq_false', Bool.not_true, Bool.not_false] at *; omega)

end Go.Proofs.Ytnhdnpdbmgeheaa
namespace Go.Proofs.Ytnhdnpdbmgeheaa
open Go.RowKit Go.Lib Go.Shelf
set_option linter.unusedVariables false
set_option linter.unusedSimpArgs false

set_option maxRecDepth 20000 in
set_option maxHeartbeats 4000000 in
theorem rkind_any (r : Int) (w : World) (h0 : -2147483648 ≤ r) (h1 : r ≤ 2147483647) :
    Calls Try.prog 37 #[.int .i32 r] w fun e w' => e = .returned (.int .i64 (kind r)) ∧ w = w' := by
  go_enter Try.func37, Try.ntmps37
  go_wp2_with (first | (go_at_call 46; refine (rin_any _ _ _ _).mono ?_; rintro e w' ⟨rfl, rfl⟩) | (go_at_call 47; refine (rgreat_any _ _ (by omega) (by omega)).mono ?_; rintro e w' ⟨rfl, rfl⟩) | (go_at_call 48; refine (rsmall_any _ _ (by omega) (by omega)).mono ?_; rintro e w' ⟨rfl, rfl⟩))
  all_goals
    go_ret
    refine ⟨ret_int ?_, rfl⟩
    go_light
    try simp only [inB, decide_eq_true_eq, bne_iff_ne, ne_eq, Bool.not_eq_true', decide_eq_false_iff_not, Bool.and_eq_true, Bool.or_eq_true, Bool.or_eq_false_iff, Bool.and_eq_false_iff, bne_eq_false_iff_eq, beq_iff_eq, beq_eq_false_iff_ne, Bool.false_eq_true, false_iff, true_iff, iff_true, iff_false, Bool.not_eq_false', Bool.not_true, Bool.not_false] at *
    grind (splits := 60) [kind, kindP, letter]

end Go.Proofs.Ytnhdnpdbmgeheaa
namespace Go.Proofs.Ytnhdnpdbmgeheaa
open Go.RowKit Go.Lib
set_option linter.unusedVariables false
set_option linter.unusedSimpArgs false
def str_2086a301 : ByteArray := ⟨(List.toArray (List.append [225, 132, 128, 225, 133, 159, 226, 186, 128, 227, 128, 190, 227, 129, 129, 228, 182, 191, 228, 184, 128, 234, 147, 143, 234, 176, 128, 237, 158, 163, 239, 164, 128, 239, 171, 191, 239, 184, 176] [239, 185, 175, 239, 188, 128, 239, 189, 160, 239, 191, 160, 239, 191, 166, 240, 159, 140, 128, 240, 159, 153, 143, 240, 159, 164, 128, 240, 159, 167, 191, 240, 160, 128, 128, 240, 191, 191, 189]))⟩
def cluster_wide_s1 (r1 : Int) (j1 : Option Bool) (ag1 : Bool → Nat → Option Bool) (within3 : Bool) (m3 : Nat) : Option Bool := bcond (decide (m3 < (pcs str_2086a301.data.toList).length)) ( andThen ((pcs str_2086a301.data.toList)[m3]?) fun (p1 : Pc) => joinK (fun (j2 : Bool → Bool → Option Bool) => bcond (!within3) ( bcond (decide ((r1 : Int) < (p1.r : Int))) ( some within3
) ( bcond (within3) ( bcond (decide ((r1 : Int) ≤ (p1.r : Int))) ( some within3
) ( j2 true (decide ((r1 : Int) ≤ (p1.r : Int)))
)
) ( j2 false false
)
)
) ( bcond (within3) ( bcond (decide ((r1 : Int) ≤ (p1.r : Int))) ( some within3
) ( j2 true (decide ((r1 : Int) ≤ (p1.r : Int)))
)
) ( j2 false false
)
)
) (fun (x1 : Bool) (x2 : Bool) => ag1 (!within3) (m3 + 1)
)
) ( j1
)
def cluster_wide_v (r1 : Int) : Option Bool := joinK (fun (j1 : Option Bool) => loopG (fun _ _ => none) (cluster_wide_s1 r1 j1) fuel false 0
) ( some false
)
set_option maxRecDepth 100000 in
set_option maxHeartbeats 4000000 in
theorem cluster_wide_fn {r1 : Int} {r : Bool} (h : cluster_wide_v r1 = some r) : FnP Try.prog 52 [.int .i32 r1] (.bool r) := by
 unfold cluster_wide_v at h
 refine FnP.intro Try.func52 rfl Try.ntmps52 (by simp) ?_
 intro w0 K
 obtain ⟨j1, hj1, h⟩ := joinE h
 refine TC.cutN (β := Unit) 2 rfl (fun b => j1 = some r) (fun b => []) (fun b => []) (fun b => []) (fun cut => ?_) ?_
 ·
  refine TC.seq (TC.region (TO.assign rfl dc rfl (TO.nil (TX.next (TC.seq (TC.region (TO.assign rfl dc rfl (TO.nil (TX.next (cut (TC.seq (TC.region ?_))))))))))))
  refine TO.rangeStr Try.underlying9 rfl dc rfl (fun b1 => ?_)
  refine TO.nil (TX.next (TC.block ?_))
  refine TC.loopD (β := Nat × Bool × Nat) (fun b => loopG (fun _ _ => none) (cluster_wide_s1 r1 j1) b.1 b.2.1 b.2.2 = some r) (fun b => []) (fun b => [(0, .int .i32 r1), (3, .bool b.2.1), (6, .pointer (some ⟨b1, 0, none⟩))]) (fun b => [obj b1 (.stringIter str_2086a301 (posAt str_2086a301 b.2.2))]) (fun b => b.1) (fuel, false, 0) h rfl (Sbs.cons rfl (Sbs.cons rfl (Sbs.cons rfl (Sbs.nil)))) (Splits.of [0] kr rfl) ?_
  rintro ⟨n1, within3, m3⟩ h
  cases n1 with
  | zero => exact noneE h
  | succ n1 =>
   obtain ⟨ag1, hag1⟩ : ∃ ag, ag = loopG (fun _ _ => none) (cluster_wide_s1 r1 j1) n1 := ⟨_, rfl⟩
   have h : cluster_wide_s1 r1 j1 ag1 within3 m3 = some r := by rw [hag1]; exact h
   unfold cluster_wide_s1 at h
   show TC _ _ _ _ _ ([]) _ _ [(0, .int .i32 r1), (3, .bool within3), (6, .pointer (some ⟨b1, 0, none⟩))] [obj b1 (.stringIter str_2086a301 (posAt str_2086a301 m3))]
   refine TC.seq (TC.region ?_)
   refine TO.bySplit (b := decide (m3 < (pcs str_2086a301.data.toList).length)) (fun hb1 => ?_) (fun hb1 => ?_)
   ·
    have h := condT hb1 h
    obtain ⟨p1, hq1, h⟩ := andE h
    refine TO.nextStr (k := 0) (m := m3) (p := p1) rfl dc rfl rfl hq1 (TO.extract rfl dc rfl rfl (TO.nil (TX.next (TC.seq (TC.condT rfl (TC.skip (TX.next (TC.block ?_))))))))
    obtain ⟨j2, hj2, h⟩ := joinE h
    refine TC.cutN (β := Bool × Bool) 1 rfl (fun b => j2 b.1 b.2 = some r) (fun b => []) (fun b => [(0, .int .i32 r1), (3, .bool within3), (6, .pointer (some ⟨b1, 0, none⟩)), (18, .bool within3), (19, .bool b.1), (23, .bool b.2)]) (fun b => [obj b1 (.stringIter str_2086a301 (posAt str_2086a301 (m3 + 1)))]) (fun cut => ?_) ?_
    ·
     refine TC.seq (TC.region (TO.extract rfl dc rfl rfl (TO.assign rfl dc rfl (TO.nil (TX.next (cut (TC.seq (TC.region (TO.move rfl dc rfl (TO.un rfl dc rfl un_not (TO.move rfl dc rfl ?_)))))))))))
     refine TO.split (s := 12) rfl (fun hb2 => ?_) (fun hb2 => ?_)
     ·
      have h := condT hb2 h
      refine TO.move rfl dc rfl (TO.move rfl dc rfl (TO.bin rfl dc rfl rfl bin_lss (TO.pick (b := true) rfl dc rfl rfl (TO.move rfl dc rfl ?_))))
      refine TO.split (s := 17) rfl (fun hb3 => ?_) (fun hb3 => ?_)
      ·
       have h := condT hb3 h
       refine TO.skip rfl dc (TO.skip rfl dc (TO.skip rfl dc (TO.skip rfl dc (TO.skip rfl dc (TO.skip rfl dc (TO.pick (b := true) rfl dc rfl rfl (TO.nil (TX.next (TC.condT rfl (TC.seq (TC.region (TO.move rfl dc rfl (TO.assign rfl dc rfl ?_)))))))))))))
       refine TO.nil (TX.next (TC.ret (TX.thenRet (TX.blockRet (TX.thenRet (TX.blockRet (TX.thenRet ?_)))))))
       cases h
       exact TX.fin (rs := [.tmp 2]) () (.inl rfl) Try.results52 (.cons (.tmp rfl) .nil) rfl Splits.nil
      ·
       have h := condF hb3 h
       refine TO.move rfl dc rfl (TO.move rfl dc rfl ?_)
       refine TO.split (s := 19) rfl (fun hb4 => ?_) (fun hb4 => ?_)
       ·
        have h := condT hb4 h
        refine TO.move rfl dc rfl (TO.move rfl dc rfl (TO.bin rfl dc rfl rfl bin_leq (TO.pick (b := true) rfl dc rfl rfl (TO.pick (b := false) rfl dc rfl rfl (TO.nil (TX.next ?_))))))
        refine TC.condB rfl (fun hb5 => ?_) (fun hb5 => ?_)
        ·
         have h := condT hb5 h
         refine TC.seq (TC.region (TO.move rfl dc rfl (TO.assign rfl dc rfl (TO.nil (TX.next (TC.ret (TX.thenRet (TX.blockRet (TX.thenRet (TX.blockRet (TX.thenRet ?_)))))))))))
         cases h
         exact TX.fin (rs := [.tmp 2]) () (.inl rfl) Try.results52 (.cons (.tmp rfl) .nil) rfl Splits.nil
        ·
         have h := condF hb5 h
         refine TC.skip ?_
         exact TX.meetD (true, decide ((r1 : Int) ≤ (p1.r : Int))) h rfl (Sbs.cons rfl (Sbs.cons rfl (Sbs.cons rfl (Sbs.cons rfl (Sbs.cons rfl (Sbs.cons rfl (Sbs.nil))))))) (Splits.of [0] kr rfl)
       ·
        have h := condF hb4 h
        refine TO.skip rfl dc (TO.skip rfl dc (TO.skip rfl dc (TO.pick (b := false) rfl dc rfl rfl (TO.pick (b := false) rfl dc rfl rfl (TO.nil (TX.next (TC.condF rfl (TC.skip ?_))))))))
        exact TX.meetD (false, false) h rfl (Sbs.cons rfl (Sbs.cons rfl (Sbs.cons rfl (Sbs.cons rfl (Sbs.cons rfl (Sbs.cons rfl (Sbs.nil))))))) (Splits.of [0] kr rfl)
     ·
      have h := condF hb2 h
      refine TO.skip rfl dc (TO.skip rfl dc (TO.skip rfl dc (TO.pick (b := false) rfl dc rfl rfl (TO.move rfl dc rfl (TO.move rfl dc rfl (TO.move rfl dc rfl ?_))))))
      refine TO.split (s := 19) rfl (fun hb6 => ?_) (fun hb6 => ?_)
      ·
       have h := condT hb6 h
       refine TO.move rfl dc rfl (TO.move rfl dc rfl (TO.bin rfl dc rfl rfl bin_leq (TO.pick (b := true) rfl dc rfl rfl (TO.pick (b := false) rfl dc rfl rfl (TO.nil (TX.next ?_))))))
       refine TC.condB rfl (fun hb7 => ?_) (fun hb7 => ?_)
       ·
        have h := condT hb7 h
        refine TC.seq (TC.region (TO.move rfl dc rfl (TO.assign rfl dc rfl (TO.nil (TX.next (TC.ret (TX.thenRet (TX.blockRet (TX.thenRet (TX.blockRet (TX.thenRet ?_)))))))))))
        cases h
        exact TX.fin (rs := [.tmp 2]) () (.inl rfl) Try.results52 (.cons (.tmp rfl) .nil) rfl Splits.nil
       ·
        have h := condF hb7 h
        refine TC.skip ?_
        exact TX.meetD (true, decide ((r1 : Int) ≤ (p1.r : Int))) h rfl (Sbs.cons rfl (Sbs.cons rfl (Sbs.cons rfl (Sbs.cons rfl (Sbs.cons rfl (Sbs.cons rfl (Sbs.nil))))))) (Splits.of [0] kr rfl)
      ·
       have h := condF hb6 h
       refine TO.skip rfl dc (TO.skip rfl dc (TO.skip rfl dc (TO.pick (b := false) rfl dc rfl rfl (TO.pick (b := false) rfl dc rfl rfl (TO.nil (TX.next (TC.condF rfl (TC.skip ?_))))))))
       exact TX.meetD (false, false) h rfl (Sbs.cons rfl (Sbs.cons rfl (Sbs.cons rfl (Sbs.cons rfl (Sbs.cons rfl (Sbs.cons rfl (Sbs.nil))))))) (Splits.of [0] kr rfl)
    ·
     rintro ⟨x1, x2⟩ h
     rw [hj2] at h
     show TC _ _ _ _ _ ([]) _ _ [(0, .int .i32 r1), (3, .bool within3), (6, .pointer (some ⟨b1, 0, none⟩)), (18, .bool within3), (19, .bool x1), (23, .bool x2)] [obj b1 (.stringIter str_2086a301 (posAt str_2086a301 (m3 + 1)))]
     refine TC.region (TO.move rfl dc rfl (TO.un rfl dc rfl un_not (TO.assign rfl dc rfl (TO.nil (TX.blockNormal ?_)))))
     subst hag1
     exact TX.againD (n1, !within3, m3 + 1) h (Nat.lt_succ_self _) rfl (Sbs.cons rfl (Sbs.cons rfl (Sbs.cons rfl (Sbs.nil)))) (Splits.of [0] kr rfl)
   ·
    have h := condF hb1 h
    refine TO.nextEnd (k := 0) (m := m3) rfl dc rfl rfl (Nat.le_of_not_lt (of_decide_eq_false hb1)) (TO.extract rfl dc rfl rfl (TO.nil (TX.next (TC.seq (TC.condF rfl (TC.exit (TX.thenExit (TX.thenExit (TX.blockHere ?_)))))))))
    exact TX.meetD () h rfl (Sbs.nil) Splits.nil
 ·
  rintro _ h
  rw [hj1] at h
  show TC _ _ _ _ _ ([]) _ _ [] []
  refine TC.seq (TC.region (TO.assign rfl dc rfl (TO.nil (TX.next (TC.ret ?_)))))
  cases h
  exact TX.fin (rs := [.tmp 2]) () (.inl rfl) Try.results52 (.cons (.tmp rfl) .nil) rfl Splits.nil
def cluster_columns_v (p1 : Gapi_Piece) : Option Int := grd (I32 p1.Rune) <| bcond (((kindOf p1.Broken p1.Rune) : Int) == 11) ( some 1
) ( joinK (fun (j1 : Bool → Option Int) => bcond (((kindOf p1.Broken p1.Rune) : Int) == 2) ( j1 (((kindOf p1.Broken p1.Rune) : Int) == 2)
) ( bcond (((kindOf p1.Broken p1.Rune) : Int) == 4) ( j1 (((kindOf p1.Broken p1.Rune) : Int) == 4)
) ( j1 (((kindOf p1.Broken p1.Rune) : Int) == 9)
)
)
) (fun (x1 : Bool) => bcond (x1) ( some 0
) ( andThen (cluster_wide_v p1.Rune) fun (r1 : Bool) => bcond (r1) ( some 2
) ( some 1
)
)
)
)
set_option maxRecDepth 100000 in
set_option maxHeartbeats 4000000 in
theorem cluster_columns_fn {p1 : Gapi_Piece} {r : Int} (h : cluster_columns_v p1 = some r) : FnP Try.prog 43 [.agg #[.int .i64 p1.At, .int .i64 p1.Width, .int .i32 p1.Rune, .bool p1.Broken]] (.int .i64 r) := by
 unfold cluster_columns_v at h
 refine FnP.intro Try.func43 rfl Try.ntmps43 (by simp) ?_
 intro w0 K
 refine TC.seq (TC.region ?_)
 refine TO.box rfl dc rfl (fun b1 => ?_)
 refine TO.assign rfl dc rfl (TO.nil (TX.next (TC.seq (TC.seq (TC.region (TO.loads (k := 0) (cs := [.int .i64 p1.At, .int .i64 p1.Width, .int .i32 p1.Rune, .bool p1.Broken]) rw_96 rfl dc rfl rfl rfl rfl ?_))))))
 obtain ⟨hg1, h⟩ := grdE h
 refine TO.callP (v := .int .i64 (kindOf p1.Broken p1.Rune)) (vs := [.agg #[.int .i64 p1.At, .int .i64 p1.Width, .int .i32 p1.Rune, .bool p1.Broken]]) rfl dc rfl rfl rfl en_41 (of_p p1.At p1.Width p1.Rune p1.Broken hg1.1 hg1.2) (TO.nil (TX.next (TC.block (TC.seq (TC.region (TO.bin rfl dc rfl rfl bin_eql (TO.assign rfl dc rfl (TO.nil (TX.next ?_)))))))))
 refine TC.condB rfl (fun hb1 => ?_) (fun hb1 => ?_)
 ·
  have h := condT hb1 h
  refine TC.seq (TC.region (TO.assign rfl dc rfl (TO.nil (TX.next (TC.ret (TX.blockRet (TX.thenRet ?_)))))))
  cases h
  exact TX.fin (rs := [.tmp 2]) () (.inl rfl) Try.results43 (.cons (.tmp rfl) .nil) rfl Splits.nil
 ·
  have h := condF hb1 h
  obtain ⟨j1, hj1, h⟩ := joinE h
  refine TC.cutN (β := Bool) 0 rfl (fun b => j1 b = some r) (fun b => []) (fun b => [(1, .pointer (some ⟨b1, 0, none⟩)), (7, .bool b)]) (fun b => [cells b1 [.int .i64 p1.At, .int .i64 p1.Width, .int .i32 p1.Rune, .bool p1.Broken] 96]) (fun cut => ?_) ?_
  ·
   refine cut (TC.seq (TC.region (TO.bin rfl dc rfl rfl bin_eql (TO.assign rfl dc rfl (TO.nil (TX.next ?_))))))
   refine TC.condB rfl (fun hb2 => ?_) (fun hb2 => ?_)
   ·
    have h := condT hb2 h
    refine TC.skip ?_
    exact TX.meetD (((kindOf p1.Broken p1.Rune) : Int) == 2) h rfl (Sbs.cons rfl (Sbs.cons rfl (Sbs.nil))) (Splits.of [0] kr rfl)
   ·
    have h := condF hb2 h
    refine TC.seq (TC.region (TO.bin rfl dc rfl rfl bin_eql (TO.assign rfl dc rfl (TO.nil (TX.next ?_)))))
    refine TC.condB rfl (fun hb3 => ?_) (fun hb3 => ?_)
    ·
     have h := condT hb3 h
     refine TC.skip ?_
     exact TX.meetD (((kindOf p1.Broken p1.Rune) : Int) == 4) h rfl (Sbs.cons rfl (Sbs.cons rfl (Sbs.nil))) (Splits.of [0] kr rfl)
    ·
     have h := condF hb3 h
     refine TC.region (TO.bin rfl dc rfl rfl bin_eql (TO.assign rfl dc rfl (TO.nil ?_)))
     exact TX.meetD (((kindOf p1.Broken p1.Rune) : Int) == 9) h rfl (Sbs.cons rfl (Sbs.cons rfl (Sbs.nil))) (Splits.of [0] kr rfl)
  ·
   rintro x1 h
   rw [hj1] at h
   show TC _ _ _ _ _ ([]) _ _ [(1, .pointer (some ⟨b1, 0, none⟩)), (7, .bool x1)] [cells b1 [.int .i64 p1.At, .int .i64 p1.Width, .int .i32 p1.Rune, .bool p1.Broken] 96]
   refine TC.condB rfl (fun hb4 => ?_) (fun hb4 => ?_)
   ·
    have h := condT hb4 h
    refine TC.seq (TC.region (TO.assign rfl dc rfl (TO.nil (TX.next (TC.ret (TX.blockRet (TX.thenRet ?_)))))))
    cases h
    exact TX.fin (rs := [.tmp 2]) () (.inl rfl) Try.results43 (.cons (.tmp rfl) .nil) rfl Splits.nil
   ·
    have h := condF hb4 h
    refine TC.skip (TX.blockNormal (TX.next (TC.seq (TC.seq (TC.region (TO.fieldAddr fl_96_2 rfl dc rfl (show _ = 2 from rfl) (TO.load (k := 0) sc_21 rfl dc rfl rfl rfl ?_)))))))
    obtain ⟨r1, hq1, h⟩ := andE h
    refine TO.callP (v := .bool r1) (vs := [.int .i32 p1.Rune]) rfl dc rfl rfl rfl en_52 (cluster_wide_fn hq1) (TO.nil (TX.next ?_))
    refine TC.condB rfl (fun hb5 => ?_) (fun hb5 => ?_)
    ·
     have h := condT hb5 h
     refine TC.seq (TC.region (TO.assign rfl dc rfl (TO.nil (TX.next (TC.ret (TX.thenRet ?_))))))
     cases h
     exact TX.fin (rs := [.tmp 2]) () (.inl rfl) Try.results43 (.cons (.tmp rfl) .nil) rfl Splits.nil
    ·
     have h := condF hb5 h
     refine TC.skip (TX.next (TC.seq (TC.region (TO.assign rfl dc rfl (TO.nil (TX.next (TC.ret ?_)))))))
     cases h
     exact TX.fin (rs := [.tmp 2]) () (.inl rfl) Try.results43 (.cons (.tmp rfl) .nil) rfl Splits.nil
def cluster_joins_v (head1 : Int) (behind1 : Gapi_Piece) (p1 : Gapi_Piece) : Option Bool := bcond (p1.Broken) ( some false
) ( grd (I32 p1.Rune) <| bcond (((kindOf p1.Broken p1.Rune) : Int) == 2) ( some true
) ( bcond ((p1.Rune : Int) == 8205) ( some true
) ( bcond ((head1 : Int) == 10) ( bcond (((kindOf p1.Broken p1.Rune) : Int) == 10) ( some ((behind1.Rune : Int) == 8205)
) ( some false
)
) ( some false
)
)
)
)
set_option maxRecDepth 100000 in
set_option maxHeartbeats 4000000 in
theorem cluster_joins_fn {head1 : Int} {behind1 : Gapi_Piece} {p1 : Gapi_Piece} {r : Bool} (h : cluster_joins_v head1 behind1 p1 = some r) : FnP Try.prog 42 [.int .i64 head1, .agg #[.int .i64 behind1.At, .int .i64 behind1.Width, .int .i32 behind1.Rune, .bool behind1.Broken], .agg #[.int .i64 p1.At, .int .i64 p1.Width, .int .i32 p1.Rune, .bool p1.Broken]] (.bool r) := by
 unfold cluster_joins_v at h
 refine FnP.intro Try.func42 rfl Try.ntmps42 (by simp) ?_
 intro w0 K
 refine TC.seq (TC.region ?_)
 refine TO.box rfl dc rfl (fun b1 => ?_)
 refine TO.box rfl dc rfl (fun b2 => ?_)
 show TO _ _ _ _ _ _ _ _ _ _ [cells b1 [.int .i64 behind1.At, .int .i64 behind1.Width, .int .i32 behind1.Rune, .bool behind1.Broken] 96, cells b2 [.int .i64 p1.At, .int .i64 p1.Width, .int .i32 p1.Rune, .bool p1.Broken] 96]
 refine TO.assign rfl dc rfl (TO.nil (TX.next (TC.seq (TC.seq (TC.region (TO.fieldAddr fl_96_3 rfl dc rfl (show _ = 3 from rfl) (TO.load (k := 1) sc_4 rfl dc rfl rfl rfl (TO.nil (TX.next ?_)))))))))
 refine TC.condB rfl (fun hb1 => ?_) (fun hb1 => ?_)
 ·
  have h := condT hb1 h
  refine TC.seq (TC.region (TO.assign rfl dc rfl (TO.nil (TX.next (TC.ret (TX.thenRet ?_))))))
  cases h
  exact TX.fin (rs := [.tmp 6]) () (.inl rfl) Try.results42 (.cons (.tmp rfl) .nil) rfl Splits.nil
 ·
  have h := condF hb1 h
  refine TC.skip (TX.next (TC.seq (TC.region (TO.loads (k := 1) (cs := [.int .i64 p1.At, .int .i64 p1.Width, .int .i32 p1.Rune, .bool p1.Broken]) rw_96 rfl dc rfl rfl rfl rfl ?_))))
  obtain ⟨hg1, h⟩ := grdE h
  refine TO.callP (v := .int .i64 (kindOf p1.Broken p1.Rune)) (vs := [.agg #[.int .i64 p1.At, .int .i64 p1.Width, .int .i32 p1.Rune, .bool p1.Broken]]) rfl dc rfl rfl rfl en_41 (of_p p1.At p1.Width p1.Rune p1.Broken hg1.1 hg1.2) (TO.assign rfl dc rfl (TO.nil (TX.next (TC.seq (TC.region (TO.move rfl dc rfl (TO.bin rfl dc rfl rfl bin_eql (TO.move rfl dc rfl ?_))))))))
  refine TO.split (s := 14) rfl (fun hb2 => ?_) (fun hb2 => ?_)
  ·
   have h := condT hb2 h
   refine TO.skip rfl dc (TO.skip rfl dc (TO.skip rfl dc (TO.pick (b := true) rfl dc rfl rfl (TO.move rfl dc rfl (TO.skip rfl dc (TO.skip rfl dc (TO.skip rfl dc (TO.skip rfl dc (TO.skip rfl dc (TO.skip rfl dc (TO.skip rfl dc (TO.skip rfl dc (TO.skip rfl dc ?_)))))))))))))
   refine TO.skip rfl dc (TO.skip rfl dc (TO.pick (b := true) rfl dc rfl rfl (TO.assign rfl dc rfl (TO.nil (TX.next (TC.ret ?_))))))
   cases h
   exact TX.fin (rs := [.tmp 6]) () (.inl rfl) Try.results42 (.cons (.tmp rfl) .nil) rfl Splits.nil
  ·
   have h := condF hb2 h
   refine TO.fieldAddr fl_96_2 rfl dc rfl (show _ = 2 from rfl) (TO.load (k := 1) sc_21 rfl dc rfl rfl rfl (TO.bin rfl dc rfl rfl bin_eql (TO.pick (b := false) rfl dc rfl rfl (TO.move rfl dc rfl ?_))))
   refine TO.split (s := 19) rfl (fun hb3 => ?_) (fun hb3 => ?_)
   ·
    have h := condT hb3 h
    refine TO.skip rfl dc (TO.skip rfl dc (TO.skip rfl dc (TO.skip rfl dc (TO.skip rfl dc (TO.skip rfl dc (TO.skip rfl dc (TO.skip rfl dc (TO.skip rfl dc (TO.skip rfl dc (TO.skip rfl dc (TO.pick (b := true) rfl dc rfl rfl (TO.assign rfl dc rfl (TO.nil ?_)))))))))))))
    refine TX.next (TC.ret ?_)
    cases h
    exact TX.fin (rs := [.tmp 6]) () (.inl rfl) Try.results42 (.cons (.tmp rfl) .nil) rfl Splits.nil
   ·
    have h := condF hb3 h
    refine TO.move rfl dc rfl (TO.bin rfl dc rfl rfl bin_eql (TO.move rfl dc rfl ?_))
    refine TO.split (s := 22) rfl (fun hb4 => ?_) (fun hb4 => ?_)
    ·
     have h := condT hb4 h
     refine TO.move rfl dc rfl (TO.bin rfl dc rfl rfl bin_eql (TO.pick (b := true) rfl dc rfl rfl (TO.move rfl dc rfl ?_)))
     refine TO.split (s := 26) rfl (fun hb5 => ?_) (fun hb5 => ?_)
     ·
      have h := condT hb5 h
      refine TO.fieldAddr fl_96_2 rfl dc rfl (show _ = 2 from rfl) (TO.load (k := 0) sc_21 rfl dc rfl rfl rfl (TO.bin rfl dc rfl rfl bin_eql (TO.pick (b := true) rfl dc rfl rfl (TO.pick (b := false) rfl dc rfl rfl (TO.assign rfl dc rfl (TO.nil (TX.next (TC.ret ?_))))))))
      cases h
      exact TX.fin (rs := [.tmp 6]) () (.inl rfl) Try.results42 (.cons (.tmp rfl) .nil) rfl Splits.nil
     ·
      have h := condF hb5 h
      refine TO.skip rfl dc (TO.skip rfl dc (TO.skip rfl dc (TO.pick (b := false) rfl dc rfl rfl (TO.pick (b := false) rfl dc rfl rfl (TO.assign rfl dc rfl (TO.nil (TX.next (TC.ret ?_))))))))
      cases h
      exact TX.fin (rs := [.tmp 6]) () (.inl rfl) Try.results42 (.cons (.tmp rfl) .nil) rfl Splits.nil
    ·
     have h := condF hb4 h
     refine TO.skip rfl dc (TO.skip rfl dc (TO.pick (b := false) rfl dc rfl rfl (TO.move rfl dc rfl (TO.skip rfl dc (TO.skip rfl dc (TO.skip rfl dc (TO.pick (b := false) rfl dc rfl rfl (TO.pick (b := false) rfl dc rfl rfl (TO.assign rfl dc rfl (TO.nil (TX.next (TC.ret ?_))))))))))))
     cases h
     exact TX.fin (rs := [.tmp 6]) () (.inl rfl) Try.results42 (.cons (.tmp rfl) .nil) rfl Splits.nil
def cluster_Each_1_s1 (x1 : Gapi_Piece) (ag1 : Int → Int → Int → Int → Int → Int → Int → Bool → Bool → Option (List Gapi_Cell)) (now13 : Int) (now14 : Int) (now15 : Int) (head4 : Int) (last13 : Int) (last14 : Int) (last15 : Int) (last16 : Bool) (open5 : Bool) : Option (List Gapi_Cell) := joinK (fun (j2 : Option (List Gapi_Cell)) => grd (I32 x1.Rune) <| bcond (!open5) ( j2
) ( bcond ((last15 : Int) == 13) ( bcond ((x1.Rune : Int) == 10) ( grd (I64 (x1.At + x1.Width)) <| ag1 now13 (x1.At + x1.Width) now15 head4 x1.At x1.Width x1.Rune x1.Broken open5
) ( bcond ((head4 : Int) != 11) ( bcond ((head4 : Int) != 4) ( bcond ((head4 : Int) != 9) ( andThen (cluster_joins_v head4 (⟨last13, last14, last15, last16⟩ : Gapi_Piece) x1) fun (r2 : Bool) => bcond (r2) ( grd (I64 (x1.At + x1.Width)) <| andThen (cluster_columns_v x1) fun (r3 : Int) => ag1 now13 (x1.At + x1.Width) (max now15 r3) head4 x1.At x1.Width x1.Rune x1.Broken open5
) ( consO (⟨now13, now14, now15⟩ : Gapi_Cell) <| j2
)
) ( consO (⟨now13, now14, now15⟩ : Gapi_Cell) <| j2
)
) ( consO (⟨now13, now14, now15⟩ : Gapi_Cell) <| j2
)
) ( consO (⟨now13, now14, now15⟩ : Gapi_Cell) <| j2
)
)
) ( bcond ((head4 : Int) != 11) ( bcond ((head4 : Int) != 4) ( bcond ((head4 : Int) != 9) ( andThen (cluster_joins_v head4 (⟨last13, last14, last15, last16⟩ : Gapi_Piece) x1) fun (r4 : Bool) => bcond (r4) ( grd (I64 (x1.At + x1.Width)) <| andThen (cluster_columns_v x1) fun (r5 : Int) => ag1 now13 (x1.At + x1.Width) (max now15 r5) head4 x1.At x1.Width x1.Rune x1.Broken open5
) ( consO (⟨now13, now14, now15⟩ : Gapi_Cell) <| j2
)
) ( consO (⟨now13, now14, now15⟩ : Gapi_Cell) <| j2
)
) ( consO (⟨now13, now14, now15⟩ : Gapi_Cell) <| j2
)
) ( consO (⟨now13, now14, now15⟩ : Gapi_Cell) <| j2
)
)
)
) ( grd (I64 (x1.At + x1.Width)) <| andThen (cluster_columns_v x1) fun (r6 : Int) => ag1 x1.At (x1.At + x1.Width) r6 (kindOf x1.Broken x1.Rune) x1.At x1.Width x1.Rune x1.Broken true
)
def cluster_Each_1_v (c0 : ByteArray) : Option (List Gapi_Cell) := joinK (fun (j1 : Int → Int → Int → Bool → Option (List Gapi_Cell)) => andThen (runes_Pieces_v c0) fun (r1 : ByteArray) => andThen (runes_Pieces_1_v r1) fun (its1 : (List Gapi_Piece)) => joinK (fun (d1 : Int → Int → Int → Int → Int → Int → Int → Bool → Bool → Option (List Gapi_Cell)) => rangeG d1 (cluster_Each_1_s1) its1 0 0 0 0 0 0 0 false false
) (fun (now13 : Int) (now14 : Int) (now15 : Int) (head4 : Int) (last13 : Int) (last14 : Int) (last15 : Int) (last16 : Bool) (open5 : Bool) => j1 now13 now14 now15 open5
)
) (fun (now1 : Int) (now2 : Int) (now3 : Int) (open1 : Bool) => bcond (open1) ( consO (⟨now1, now2, now3⟩ : Gapi_Cell) <| some []
) ( some []
)
)
set_option maxRecDepth 100000 in
set_option maxHeartbeats 4000000 in
theorem cluster_Each_1_itr {b_c0 : Nat} {c0 : ByteArray} {xs : (List Gapi_Cell)} (h : cluster_Each_1_v c0 = some xs) : Itr Try.prog 39 [.pointer (some ⟨b_c0, 0, none⟩)] (fun q : Gapi_Cell => [.agg #[.int .i64 q.Span_From, .int .i64 q.Span_To, .int .i64 q.Columns]]) xs [(b_c0, .cells #[.string c0] 9 (0, 0))] := by
 unfold cluster_Each_1_v at h
 refine Itr.intro Try.func39 rfl Try.ntmps39 (by simp) ?_
 intro l w0 K I X hRo hy
 obtain ⟨r0, hx0⟩ : ∃ r, xs = [] ++ r := ⟨xs, rfl⟩
 have hr0 : xs = r0 := hx0
 rw [hr0] at h
 refine TC.star0 ?_
 show TC _ _ _ _ _ _ _ _ _ [I [], star ((([] : List Nat) : List Nat).map mark)]
 refine TC.seq (TC.region ?_)
 refine TO.box rfl dc rfl (fun b1 => ?_)
 refine TO.nil (TX.next ?_)
 refine TC.scope (β := Unit) (l := 0) (fun _ => False) (fun _ => []) (fun _ => []) rfl ?_ ?_
 ·
  obtain ⟨j1, hj1, h⟩ := joinE h
  refine TC.cutN (β := Int × Int × Int × Bool × (List Gapi_Cell) × (List Gapi_Cell) × Nat × Nat × (List Nat)) 5 rfl (fun b => j1 b.1 b.2.1 b.2.2.1 b.2.2.2.1 = some b.2.2.2.2.2.1 ∧ xs = b.2.2.2.2.1 ++ b.2.2.2.2.2.1) (fun b => marksOf b.2.2.2.2.2.2.2.2) (fun b => [(2, .pointer (some ⟨b1, 0, none⟩)), (3, .pointer (some ⟨b.2.2.2.2.2.2.1, 0, none⟩)), (6, .pointer (some ⟨b.2.2.2.2.2.2.2.1, 0, none⟩))]) (fun b => [I b.2.2.2.2.1, cells b1 [.func (.yield l) #[] #[]] 93, cells b.2.2.2.2.2.2.1 [.int .i64 b.1, .int .i64 b.2.1, .int .i64 b.2.2.1] 52, cells b.2.2.2.2.2.2.2.1 [.bool b.2.2.2.1] 4, star ((b.2.2.2.2.2.2.2.2 : List Nat).map mark)]) (fun cut => ?_) ?_
  ·
   refine TC.seq (TC.region ?_)
   refine TO.alloc zr_52 rfl dc (fun b4 => ?_)
   show TO _ _ _ _ _ _ _ _ _ _ [I [], star ((([] : List Nat) : List Nat).map mark), cells b1 [.func (.yield l) #[] #[]] 93, cells b4 [.int .i64 0, .int .i64 0, .int .i64 0] 52]
   refine TO.nil (TX.next (TC.seq (TC.region ?_)))
   refine TO.alloc zr_94 rfl dc (fun b5 => ?_)
   refine TO.nil (TX.next (TC.seq (TC.region ?_)))
   refine TO.alloc zr_96 rfl dc (fun b6 => ?_)
   show TO _ _ _ _ _ _ _ _ _ _ [I [], star ((([] : List Nat) : List Nat).map mark), cells b1 [.func (.yield l) #[] #[]] 93, cells b4 [.int .i64 0, .int .i64 0, .int .i64 0] 52, cells b5 [.int .i64 0] 94, cells b6 [.int .i64 0, .int .i64 0, .int .i32 0, .bool false] 96]
   refine TO.nil (TX.next (TC.seq (TC.region ?_)))
   refine TO.alloc zr_4 rfl dc (fun b7 => ?_)
   refine TO.store (k := 6) (l' := [.bool false]) sz_4 rfl rfl rfl rfl rfl (fun _ _ => rfl) rfl ?_
   show TO _ _ _ _ _ _ _ _ _ _ [I [], star ((([] : List Nat) : List Nat).map mark), cells b1 [.func (.yield l) #[] #[]] 93, cells b4 [.int .i64 0, .int .i64 0, .int .i64 0] 52, cells b5 [.int .i64 0] 94, cells b6 [.int .i64 0, .int .i64 0, .int .i32 0, .bool false] 96, cells b7 [.bool false] 4]
   refine TO.nil (TX.next (TC.seq (TC.label (TX.next (cut (TC.seq (TC.region (TO.loadRo (i := 0) hRo sc_9 rfl dc rfl rfl rfl ?_))))))))
   obtain ⟨r1, hq1, h⟩ := andE h
   refine TO.call (vs := [.string c0]) rfl dc rfl rfl rfl en_40 (runes_Pieces_fn hq1) Splits.nil ?_
   rintro b8
   show TO _ _ _ _ _ _ _ _ _ _ [I [], star ((([] : List Nat) : List Nat).map mark), cells b1 [.func (.yield l) #[] #[]] 93, cells b4 [.int .i64 0, .int .i64 0, .int .i64 0] 52, cells b5 [.int .i64 0] 94, cells b6 [.int .i64 0, .int .i64 0, .int .i32 0, .bool false] 96, cells b7 [.bool false] 4, cells b8 [.string r1] 9]
   refine TO.nil (TX.next (TC.block ?_))
   obtain ⟨its1, hq2, h⟩ := andE h
   obtain ⟨d1, hd1, h⟩ := joinE h
   refine TC.range (α := Gapi_Piece) (β := Int × Int × Int × Int × Int × Int × Int × Bool × Bool × (List Gapi_Cell) × (List Gapi_Cell)) (γ := (List Gapi_Cell × Gapi_Cell × List Gapi_Cell)) (δ := Nat) (ps := [11]) hRo rfl en_49 (runes_Pieces_1_itr hq2) (fun pre b => (∀ post, its1 = pre ++ post → rangeG d1 (cluster_Each_1_s1) post b.1 b.2.1 b.2.2.1 b.2.2.2.1 b.2.2.2.2.1 b.2.2.2.2.2.1 b.2.2.2.2.2.2.1 b.2.2.2.2.2.2.2.1 b.2.2.2.2.2.2.2.2.1 = some b.2.2.2.2.2.2.2.2.2.2) ∧ xs = b.2.2.2.2.2.2.2.2.2.1 ++ b.2.2.2.2.2.2.2.2.2.2) (fun pre b => [I b.2.2.2.2.2.2.2.2.2.1, cells b1 [.func (.yield l) #[] #[]] 93, cells b4 [.int .i64 b.1, .int .i64 b.2.1, .int .i64 b.2.2.1] 52, cells b5 [.int .i64 b.2.2.2.1] 94, cells b6 [.int .i64 b.2.2.2.2.1, .int .i64 b.2.2.2.2.2.1, .int .i32 b.2.2.2.2.2.2.1, .bool b.2.2.2.2.2.2.2.1] 96, cells b7 [.bool b.2.2.2.2.2.2.2.2.1] 4]) (fun c pre g => (fun g => c = Code.ret ∧ xs = g.1 ++ g.2.1 :: g.2.2) g) (fun c pre g => (fun g => [X (g.1 ++ [g.2.1])]) g) (fun pre x b j => [(2, .pointer (some ⟨b1, 0, none⟩)), (3, .pointer (some ⟨b4, 0, none⟩)), (4, .pointer (some ⟨b5, 0, none⟩)), (5, .pointer (some ⟨b6, 0, none⟩)), (6, .pointer (some ⟨b7, 0, none⟩)), (10, .func (.func 49) #[] #[.pointer (some ⟨b8, 0, none⟩)]), (7, .pointer (some ⟨j, 0, none⟩))]) (fun pre x b j => [I b.2.2.2.2.2.2.2.2.2.1, cells b1 [.func (.yield l) #[] #[]] 93, cells b4 [.int .i64 b.1, .int .i64 b.2.1, .int .i64 b.2.2.1] 52, cells b5 [.int .i64 b.2.2.2.1] 94, cells b6 [.int .i64 b.2.2.2.2.1, .int .i64 b.2.2.2.2.2.1, .int .i32 b.2.2.2.2.2.2.1, .bool b.2.2.2.2.2.2.2.1] 96, cells b7 [.bool b.2.2.2.2.2.2.2.2.1] 4, cells j [.int .i64 x.At, .int .i64 x.Width, .int .i32 x.Rune, .bool x.Broken] 96]) (0, 0, 0, 0, 0, 0, 0, false, false, ([] : List Gapi_Cell), r0) ⟨fun post e => (by rw [List.nil_append] at e; subst e; exact h), hx0⟩ (Splits.of [0, 2, 3, 4, 5, 6] kr rfl) ⟨.inl ⟨7, rfl⟩, trivial⟩ (fun _ => rfl) dc ?_ ?_ ?_ ?_
   ·
    rintro lp rc pre x1 post ⟨now13, now14, now15, head4, last13, last14, last15, last16, open5, acc4, rr4⟩ w1 K1 hxs1 hext hro hinv
    have hy := hy.later hext
    refine TC.region ?_
    refine TO.alloc zr_96 rfl dc (fun b9 => ?_)
    refine TO.stores (k := 6) (vs := [.int .i64 x1.At, .int .i64 x1.Width, .int .i32 x1.Rune, .bool x1.Broken]) (l' := [.int .i64 x1.At, .int .i64 x1.Width, .int .i32 x1.Rune, .bool x1.Broken]) sz_96 rfl rfl rfl rfl rfl (show _ ≤ _ by simp) rfl rfl ?_
    show TO _ _ _ _ _ _ _ _ _ _ [I acc4, cells b1 [.func (.yield l) #[] #[]] 93, cells b4 [.int .i64 now13, .int .i64 now14, .int .i64 now15] 52, cells b5 [.int .i64 head4] 94, cells b6 [.int .i64 last13, .int .i64 last14, .int .i32 last15, .bool last16] 96, cells b7 [.bool open5] 4, cells b9 [.int .i64 x1.At, .int .i64 x1.Width, .int .i32 x1.Rune, .bool x1.Broken] 96]
    refine TO.nil ?_
    exact fun a w ha hw => ⟨b9, (Sbs.cons rfl (Sbs.cons rfl (Sbs.cons rfl (Sbs.cons rfl (Sbs.cons rfl (Sbs.cons rfl (Sbs.cons rfl (Sbs.nil)))))))) _ _ _ ha, hw.weaken (Splits.of [0, 1, 2, 3, 4, 5, 6] kr rfl)⟩
   ·
    rintro lp rc pre x1 post1 ⟨now13, now14, now15, head4, last13, last14, last15, last16, open5, acc4, rr4⟩ jb1 w1 K1 hxs1 hext hro hinv
    have hy := hy.later hext
    obtain ⟨hinv, hx4⟩ := hinv
    have h := hinv (x1 :: post1) hxs1
    obtain ⟨ag1, hag1⟩ : ∃ ag, ag = rangeG d1 (cluster_Each_1_s1) post1 := ⟨_, rfl⟩
    have h : cluster_Each_1_s1 x1 ag1 now13 now14 now15 head4 last13 last14 last15 last16 open5 = some rr4 := by rw [hag1]; exact h
    unfold cluster_Each_1_s1 at h
    show TC _ _ _ _ _ _ _ _ [(2, .pointer (some ⟨b1, 0, none⟩)), (3, .pointer (some ⟨b4, 0, none⟩)), (4, .pointer (some ⟨b5, 0, none⟩)), (5, .pointer (some ⟨b6, 0, none⟩)), (6, .pointer (some ⟨b7, 0, none⟩)), (10, .func (.func 49) #[] #[.pointer (some ⟨b8, 0, none⟩)]), (7, .pointer (some ⟨jb1, 0, none⟩))] [I acc4, cells b1 [.func (.yield l) #[] #[]] 93, cells b4 [.int .i64 now13, .int .i64 now14, .int .i64 now15] 52, cells b5 [.int .i64 head4] 94, cells b6 [.int .i64 last13, .int .i64 last14, .int .i32 last15, .bool last16] 96, cells b7 [.bool open5] 4, cells jb1 [.int .i64 x1.At, .int .i64 x1.Width, .int .i32 x1.Rune, .bool x1.Broken] 96]
    refine TC.block ?_
    obtain ⟨j2, hj2, h⟩ := joinE h
    refine TC.cutN (β := (List Gapi_Cell) × (List Gapi_Cell)) 1 rfl (fun b => j2 = some b.2 ∧ xs = b.1 ++ b.2) (fun b => []) (fun b => [(2, .pointer (some ⟨b1, 0, none⟩)), (3, .pointer (some ⟨b4, 0, none⟩)), (4, .pointer (some ⟨b5, 0, none⟩)), (5, .pointer (some ⟨b6, 0, none⟩)), (6, .pointer (some ⟨b7, 0, none⟩)), (7, .pointer (some ⟨jb1, 0, none⟩)), (8, .int .i64 (kindOf x1.Broken x1.Rune)), (10, .func (.func 49) #[] #[.pointer (some ⟨b8, 0, none⟩)])]) (fun b => [I b.1, cells b1 [.func (.yield l) #[] #[]] 93, cells b4 [.int .i64 now13, .int .i64 now14, .int .i64 now15] 52, cells b5 [.int .i64 head4] 94, cells b6 [.int .i64 last13, .int .i64 last14, .int .i32 last15, .bool last16] 96, cells b7 [.bool open5] 4, cells jb1 [.int .i64 x1.At, .int .i64 x1.Width, .int .i32 x1.Rune, .bool x1.Broken] 96]) (fun cut => ?_) ?_
    ·
     refine TC.seq (TC.region (TO.loads (k := 6) (cs := [.int .i64 x1.At, .int .i64 x1.Width, .int .i32 x1.Rune, .bool x1.Broken]) rw_96 rfl dc rfl rfl rfl rfl ?_))
     obtain ⟨hg1, h⟩ := grdE h
     refine TO.callP (v := .int .i64 (kindOf x1.Broken x1.Rune)) (vs := [.agg #[.int .i64 x1.At, .int .i64 x1.Width, .int .i32 x1.Rune, .bool x1.Broken]]) rfl dc rfl rfl rfl en_41 (of_p x1.At x1.Width x1.Rune x1.Broken hg1.1 hg1.2) (TO.assign rfl dc rfl (TO.nil (TX.next (cut (TC.block (TC.seq (TC.region (TO.load (k := 5) sc_4 rfl dc rfl rfl rfl (TO.un rfl dc rfl un_not (TO.assign rfl dc rfl (TO.nil (TX.next ?_))))))))))))
     refine TC.condB rfl (fun hb1 => ?_) (fun hb1 => ?_)
     ·
      have h := condT hb1 h
      refine TC.skip (TX.blockNormal ?_)
      exact TX.meetD (acc4, rr4) ⟨h, hx4⟩ rfl (Sbs.cons rfl (Sbs.cons rfl (Sbs.cons rfl (Sbs.cons rfl (Sbs.cons rfl (Sbs.cons rfl (Sbs.cons rfl (Sbs.cons rfl (Sbs.nil))))))))) (Splits.of [0, 1, 2, 3, 4, 5, 6] kr rfl)
     ·
      have h := condF hb1 h
      refine TC.seq (TC.region (TO.fieldAddr fl_96_2 rfl dc rfl (show _ = 2 from rfl) (TO.load (k := 4) sc_21 rfl dc rfl rfl rfl (TO.bin rfl dc rfl rfl bin_eql (TO.move rfl dc rfl ?_)))))
      refine TO.split (s := 25) rfl (fun hb2 => ?_) (fun hb2 => ?_)
      ·
       have h := condT hb2 h
       refine TO.fieldAddr fl_96_2 rfl dc rfl (show _ = 2 from rfl) (TO.load (k := 6) sc_21 rfl dc rfl rfl rfl (TO.bin rfl dc rfl rfl bin_eql (TO.pick (b := true) rfl dc rfl rfl (TO.assign rfl dc rfl (TO.nil (TX.next ?_))))))
       refine TC.condB rfl (fun hb3 => ?_) (fun hb3 => ?_)
       ·
        have h := condT hb3 h
        refine TC.seq (TC.region (TO.fieldAddr fl_96_0 rfl dc rfl (show _ = 0 from rfl) (TO.load (k := 6) sc_3 rfl dc rfl rfl rfl (TO.fieldAddr fl_96_1 rfl dc rfl (show _ = 1 from rfl) (TO.load (k := 6) sc_3 rfl dc rfl rfl rfl ?_)))))
        obtain ⟨hg2, h⟩ := grdE h
        refine TO.bin rfl dc rfl rfl (bin_add (r := x1.At + x1.Width) (IntWalk.i64_in _ hg2)) (TO.fieldAddr fl_52_0 rfl dc rfl (show _ = 0 from rfl) (TO.fieldAddr fl_50_1 rfl dc rfl (show _ = 1 from rfl) ?_))
        refine TO.store (k := 2) (l' := [.int .i64 now13, .int .i64 (x1.At + x1.Width), .int .i64 now15]) sz_3 rfl rfl rfl rfl rfl (fun _ _ => rfl) rfl ?_
        refine TO.nil (TX.next (TC.seq (TC.region (TO.loads (k := 6) (cs := [.int .i64 x1.At, .int .i64 x1.Width, .int .i32 x1.Rune, .bool x1.Broken]) rw_96 rfl dc rfl rfl rfl rfl (TO.stores (k := 4) (vs := [.int .i64 x1.At, .int .i64 x1.Width, .int .i32 x1.Rune, .bool x1.Broken]) (l' := [.int .i64 x1.At, .int .i64 x1.Width, .int .i32 x1.Rune, .bool x1.Broken]) sz_96 rfl rfl rfl rfl rfl (show _ ≤ _ by simp) rfl rfl ?_)))))
        show TO _ _ _ _ _ _ _ _ _ _ [I acc4, cells b1 [.func (.yield l) #[] #[]] 93, cells b4 [.int .i64 now13, .int .i64 (x1.At + x1.Width), .int .i64 now15] 52, cells b5 [.int .i64 head4] 94, cells b6 [.int .i64 x1.At, .int .i64 x1.Width, .int .i32 x1.Rune, .bool x1.Broken] 96, cells b7 [.bool open5] 4, cells jb1 [.int .i64 x1.At, .int .i64 x1.Width, .int .i32 x1.Rune, .bool x1.Broken] 96]
        refine TO.nil (TX.next (TC.exit (TX.blockOn dc (TX.thenExit (TX.blockHere ?_)))))
        exact TX.round (now13, x1.At + x1.Width, now15, head4, x1.At, x1.Width, x1.Rune, x1.Broken, open5, acc4, rr4) ⟨fun post2 e2 => (by have e9 := snoc_post hxs1 e2; subst e9; subst hag1; exact h), hx4⟩ (Splits.of [0, 1, 2, 3, 4, 5] kr rfl)
       ·
        have h := condF hb3 h
        refine TC.seq (TC.region (TO.load (k := 3) sc_94 rfl dc rfl rfl rfl (TO.bin rfl dc rfl rfl bin_neq (TO.move rfl dc rfl ?_))))
        refine TO.split (s := 41) rfl (fun hb4 => ?_) (fun hb4 => ?_)
        ·
         have h := condT hb4 h
         refine TO.load (k := 3) sc_94 rfl dc rfl rfl rfl (TO.bin rfl dc rfl rfl bin_neq (TO.pick (b := true) rfl dc rfl rfl (TO.move rfl dc rfl ?_)))
         refine TO.split (s := 45) rfl (fun hb5 => ?_) (fun hb5 => ?_)
         ·
          have h := condT hb5 h
          refine TO.load (k := 3) sc_94 rfl dc rfl rfl rfl (TO.bin rfl dc rfl rfl bin_neq (TO.pick (b := true) rfl dc rfl rfl (TO.move rfl dc rfl ?_)))
          refine TO.split (s := 49) rfl (fun hb6 => ?_) (fun hb6 => ?_)
          ·
           have h := condT hb6 h
           refine TO.load (k := 3) sc_94 rfl dc rfl rfl rfl (TO.loads (k := 4) (cs := [.int .i64 last13, .int .i64 last14, .int .i32 last15, .bool last16]) rw_96 rfl dc rfl rfl rfl rfl (TO.loads (k := 6) (cs := [.int .i64 x1.At, .int .i64 x1.Width, .int .i32 x1.Rune, .bool x1.Broken]) rw_96 rfl dc rfl rfl rfl rfl ?_))
           obtain ⟨r2, hq3, h⟩ := andE h
           refine TO.callP (v := .bool r2) (vs := [.int .i64 head4, .agg #[.int .i64 last13, .int .i64 last14, .int .i32 last15, .bool last16], .agg #[.int .i64 x1.At, .int .i64 x1.Width, .int .i32 x1.Rune, .bool x1.Broken]]) rfl dc rfl rfl rfl en_42 (cluster_joins_fn (behind1 := (⟨last13, last14, last15, last16⟩ : Gapi_Piece)) (p1 := x1) hq3) (TO.pick (b := true) rfl dc rfl rfl (TO.assign rfl dc rfl (TO.nil (TX.next ?_))))
           refine TC.condB rfl (fun hb7 => ?_) (fun hb7 => ?_)
           ·
            have h := condT hb7 h
            refine TC.seq (TC.region (TO.fieldAddr fl_96_0 rfl dc rfl (show _ = 0 from rfl) (TO.load (k := 6) sc_3 rfl dc rfl rfl rfl (TO.fieldAddr fl_96_1 rfl dc rfl (show _ = 1 from rfl) (TO.load (k := 6) sc_3 rfl dc rfl rfl rfl ?_)))))
            obtain ⟨hg3, h⟩ := grdE h
            refine TO.bin rfl dc rfl rfl (bin_add (r := x1.At + x1.Width) (IntWalk.i64_in _ hg3)) (TO.fieldAddr fl_52_0 rfl dc rfl (show _ = 0 from rfl) (TO.fieldAddr fl_50_1 rfl dc rfl (show _ = 1 from rfl) ?_))
            refine TO.store (k := 2) (l' := [.int .i64 now13, .int .i64 (x1.At + x1.Width), .int .i64 now15]) sz_3 rfl rfl rfl rfl rfl (fun _ _ => rfl) rfl ?_
            refine TO.nil (TX.next (TC.seq ?_))
            obtain ⟨r3, hq4, h⟩ := andE h
            refine TC.drawN 4 [(0, 62, .pointer (some ⟨b4, 2, none⟩)), (1, 63, .int .i64 now15), (2, 64, .agg #[.int .i64 x1.At, .int .i64 x1.Width, .int .i32 x1.Rune, .bool x1.Broken]), (3, 65, .int .i64 r3)] mixed kr kr dc (by rfl) kr kr (DrawPre.cons ?_ (DrawPre.cons ?_ (DrawPre.cons ?_ (DrawPre.cons ?_ DrawPre.nil)))) ?_
            ·
             intro D hn hd hcl hu hi
             refine TO.fieldAddr fl_52_1 rfl dc (dl_old (by rfl) rfl) (show _ = 2 from rfl) ?_
             exact TX.quiet 0 hu hi rfl
            ·
             intro D hn hd hcl hu hi
             refine TO.load (k := 2) sc_3 rfl dc (dl_lookup (m := 0) hu rfl (hd 0 dc)) rfl rfl ?_
             exact TX.quiet 1 hu hi rfl
            ·
             intro D hn hd hcl hu hi
             refine TO.loads (k := 6) (cs := [.int .i64 x1.At, .int .i64 x1.Width, .int .i32 x1.Rune, .bool x1.Broken]) rw_96 rfl dc (dl_old (by rfl) rfl) rfl rfl rfl ?_
             exact TX.quiet 2 hu hi rfl
            ·
             intro D hn hd hcl hu hi
             refine TO.callP (v := .int .i64 r3) (vs := [.agg #[.int .i64 x1.At, .int .i64 x1.Width, .int .i32 x1.Rune, .bool x1.Broken]]) rfl dc rfl (evL.cons (dl_lookup (m := 2) hu rfl (hd 2 dc)) evL.nil) rfl en_43 (cluster_columns_fn (p1 := x1) hq4) ?_
             exact TX.quiet 3 hu hi rfl
            refine TO.max2 rfl dc rfl rfl (TO.fieldAddr fl_52_1 rfl dc rfl (show _ = 2 from rfl) ?_)
            refine TO.store (k := 2) (l' := [.int .i64 now13, .int .i64 (x1.At + x1.Width), .int .i64 (max now15 r3)]) sz_3 rfl rfl rfl rfl rfl (fun _ _ => rfl) rfl ?_
            show TO _ _ _ _ _ _ _ _ _ _ [I acc4, cells b1 [.func (.yield l) #[] #[]] 93, cells b4 [.int .i64 now13, .int .i64 (x1.At + x1.Width), .int .i64 (max now15 r3)] 52, cells b5 [.int .i64 head4] 94, cells b6 [.int .i64 last13, .int .i64 last14, .int .i32 last15, .bool last16] 96, cells b7 [.bool open5] 4, cells jb1 [.int .i64 x1.At, .int .i64 x1.Width, .int .i32 x1.Rune, .bool x1.Broken] 96]
            refine TO.nil (TX.next (TC.seq (TC.region (TO.loads (k := 6) (cs := [.int .i64 x1.At, .int .i64 x1.Width, .int .i32 x1.Rune, .bool x1.Broken]) rw_96 rfl dc rfl rfl rfl rfl (TO.stores (k := 4) (vs := [.int .i64 x1.At, .int .i64 x1.Width, .int .i32 x1.Rune, .bool x1.Broken]) (l' := [.int .i64 x1.At, .int .i64 x1.Width, .int .i32 x1.Rune, .bool x1.Broken]) sz_96 rfl rfl rfl rfl rfl (show _ ≤ _ by simp) rfl rfl (TO.nil (TX.next (TC.exit (TX.blockOn dc (TX.thenExit (TX.blockHere ?_)))))))))))
            exact TX.round (now13, x1.At + x1.Width, max now15 r3, head4, x1.At, x1.Width, x1.Rune, x1.Broken, open5, acc4, rr4) ⟨fun post2 e2 => (by have e9 := snoc_post hxs1 e2; subst e9; subst hag1; exact h), hx4⟩ (Splits.of [0, 1, 2, 3, 4, 5] kr rfl)
           ·
            have h := condF hb7 h
            refine TC.seq (TC.region (TO.load (k := 1) sc_93 rfl dc rfl rfl rfl (TO.loads (k := 2) (cs := [.int .i64 now13, .int .i64 now14, .int .i64 now15]) rw_52 rfl dc rfl rfl rfl rfl ?_)))
            obtain ⟨rr6, hr1, h⟩ := consE h
            have hx6 : xs = acc4 ++ (⟨now13, now14, now15⟩ : Gapi_Cell) :: rr6 := by rw [hx4, hr1]
            refine TO.yield hy rfl dc rfl hx6 rfl (k := 0) rfl ?_ ?_
            ·
             have hx7 : xs = (acc4 ++ [(⟨now13, now14, now15⟩ : Gapi_Cell)]) ++ rr6 := by rw [hx6]; simp
             show TO _ _ _ _ _ _ _ _ _ _ [I (acc4 ++ [(⟨now13, now14, now15⟩ : Gapi_Cell)]), cells b1 [.func (.yield l) #[] #[]] 93, cells b4 [.int .i64 now13, .int .i64 now14, .int .i64 now15] 52, cells b5 [.int .i64 head4] 94, cells b6 [.int .i64 last13, .int .i64 last14, .int .i32 last15, .bool last16] 96, cells b7 [.bool open5] 4, cells jb1 [.int .i64 x1.At, .int .i64 x1.Width, .int .i32 x1.Rune, .bool x1.Broken] 96]
             refine TO.un rfl dc rfl un_not (TO.nil (TX.next (TC.condF rfl (TC.skip (TX.blockNormal ?_)))))
             exact TX.meetD (acc4 ++ [(⟨now13, now14, now15⟩ : Gapi_Cell)], rr6) ⟨h, hx7⟩ rfl (Sbs.cons rfl (Sbs.cons rfl (Sbs.cons rfl (Sbs.cons rfl (Sbs.cons rfl (Sbs.cons rfl (Sbs.cons rfl (Sbs.cons rfl (Sbs.nil))))))))) (Splits.of [0, 1, 2, 3, 4, 5, 6] kr rfl)
            ·
             show TO _ _ _ _ _ _ _ _ _ _ [X (acc4 ++ [(⟨now13, now14, now15⟩ : Gapi_Cell)]), cells b1 [.func (.yield l) #[] #[]] 93, cells b4 [.int .i64 now13, .int .i64 now14, .int .i64 now15] 52, cells b5 [.int .i64 head4] 94, cells b6 [.int .i64 last13, .int .i64 last14, .int .i32 last15, .bool last16] 96, cells b7 [.bool open5] 4, cells jb1 [.int .i64 x1.At, .int .i64 x1.Width, .int .i32 x1.Rune, .bool x1.Broken] 96]
             refine TO.un rfl dc rfl un_not (TO.nil (TX.next (TC.condT rfl (TC.ret (TX.blockRet (TX.thenRet (TX.blockRet ?_)))))))
             exact TX.roundRet (acc4, (⟨now13, now14, now15⟩ : Gapi_Cell), rr6) (show _ ∧ _ from ⟨rfl, hx6⟩) (Splits.of [0] kr rfl)
          ·
           have h := condF hb6 h
           refine TO.skip rfl dc (TO.skip rfl dc (TO.skip rfl dc (TO.skip rfl dc (TO.pick (b := false) rfl dc rfl rfl (TO.assign rfl dc rfl (TO.nil (TX.next (TC.condF rfl (TC.seq (TC.region (TO.load (k := 1) sc_93 rfl dc rfl rfl rfl (TO.loads (k := 2) (cs := [.int .i64 now13, .int .i64 now14, .int .i64 now15]) rw_52 rfl dc rfl rfl rfl rfl ?_))))))))))))
           obtain ⟨rr7, hr2, h⟩ := consE h
           have hx8 : xs = acc4 ++ (⟨now13, now14, now15⟩ : Gapi_Cell) :: rr7 := by rw [hx4, hr2]
           refine TO.yield hy rfl dc rfl hx8 rfl (k := 0) rfl ?_ ?_
           ·
            have hx9 : xs = (acc4 ++ [(⟨now13, now14, now15⟩ : Gapi_Cell)]) ++ rr7 := by rw [hx8]; simp
            show TO _ _ _ _ _ _ _ _ _ _ [I (acc4 ++ [(⟨now13, now14, now15⟩ : Gapi_Cell)]), cells b1 [.func (.yield l) #[] #[]] 93, cells b4 [.int .i64 now13, .int .i64 now14, .int .i64 now15] 52, cells b5 [.int .i64 head4] 94, cells b6 [.int .i64 last13, .int .i64 last14, .int .i32 last15, .bool last16] 96, cells b7 [.bool open5] 4, cells jb1 [.int .i64 x1.At, .int .i64 x1.Width, .int .i32 x1.Rune, .bool x1.Broken] 96]
            refine TO.un rfl dc rfl un_not (TO.nil (TX.next (TC.condF rfl (TC.skip (TX.blockNormal ?_)))))
            exact TX.meetD (acc4 ++ [(⟨now13, now14, now15⟩ : Gapi_Cell)], rr7) ⟨h, hx9⟩ rfl (Sbs.cons rfl (Sbs.cons rfl (Sbs.cons rfl (Sbs.cons rfl (Sbs.cons rfl (Sbs.cons rfl (Sbs.cons rfl (Sbs.cons rfl (Sbs.nil))))))))) (Splits.of [0, 1, 2, 3, 4, 5, 6] kr rfl)
           ·
            show TO _ _ _ _ _ _ _ _ _ _ [X (acc4 ++ [(⟨now13, now14, now15⟩ : Gapi_Cell)]), cells b1 [.func (.yield l) #[] #[]] 93, cells b4 [.int .i64 now13, .int .i64 now14, .int .i64 now15] 52, cells b5 [.int .i64 head4] 94, cells b6 [.int .i64 last13, .int .i64 last14, .int .i32 last15, .bool last16] 96, cells b7 [.bool open5] 4, cells jb1 [.int .i64 x1.At, .int .i64 x1.Width, .int .i32 x1.Rune, .bool x1.Broken] 96]
            refine TO.un rfl dc rfl un_not (TO.nil (TX.next (TC.condT rfl (TC.ret (TX.blockRet (TX.thenRet (TX.blockRet ?_)))))))
            exact TX.roundRet (acc4, (⟨now13, now14, now15⟩ : Gapi_Cell), rr7) (show _ ∧ _ from ⟨rfl, hx8⟩) (Splits.of [0] kr rfl)
         ·
          have h := condF hb5 h
          refine TO.skip rfl dc (TO.skip rfl dc (TO.pick (b := false) rfl dc rfl rfl (TO.move rfl dc rfl (TO.skip rfl dc (TO.skip rfl dc (TO.skip rfl dc (TO.skip rfl dc (TO.pick (b := false) rfl dc rfl rfl (TO.assign rfl dc rfl (TO.nil (TX.next (TC.condF rfl (TC.seq ?_)))))))))))))
          refine TC.region (TO.load (k := 1) sc_93 rfl dc rfl rfl rfl (TO.loads (k := 2) (cs := [.int .i64 now13, .int .i64 now14, .int .i64 now15]) rw_52 rfl dc rfl rfl rfl rfl ?_))
          obtain ⟨rr8, hr3, h⟩ := consE h
          have hx10 : xs = acc4 ++ (⟨now13, now14, now15⟩ : Gapi_Cell) :: rr8 := by rw [hx4, hr3]
          refine TO.yield hy rfl dc rfl hx10 rfl (k := 0) rfl ?_ ?_
          ·
           have hx11 : xs = (acc4 ++ [(⟨now13, now14, now15⟩ : Gapi_Cell)]) ++ rr8 := by rw [hx10]; simp
           show TO _ _ _ _ _ _ _ _ _ _ [I (acc4 ++ [(⟨now13, now14, now15⟩ : Gapi_Cell)]), cells b1 [.func (.yield l) #[] #[]] 93, cells b4 [.int .i64 now13, .int .i64 now14, .int .i64 now15] 52, cells b5 [.int .i64 head4] 94, cells b6 [.int .i64 last13, .int .i64 last14, .int .i32 last15, .bool last16] 96, cells b7 [.bool open5] 4, cells jb1 [.int .i64 x1.At, .int .i64 x1.Width, .int .i32 x1.Rune, .bool x1.Broken] 96]
           refine TO.un rfl dc rfl un_not (TO.nil (TX.next (TC.condF rfl (TC.skip (TX.blockNormal ?_)))))
           exact TX.meetD (acc4 ++ [(⟨now13, now14, now15⟩ : Gapi_Cell)], rr8) ⟨h, hx11⟩ rfl (Sbs.cons rfl (Sbs.cons rfl (Sbs.cons rfl (Sbs.cons rfl (Sbs.cons rfl (Sbs.cons rfl (Sbs.cons rfl (Sbs.cons rfl (Sbs.nil))))))))) (Splits.of [0, 1, 2, 3, 4, 5, 6] kr rfl)
          ·
           show TO _ _ _ _ _ _ _ _ _ _ [X (acc4 ++ [(⟨now13, now14, now15⟩ : Gapi_Cell)]), cells b1 [.func (.yield l) #[] #[]] 93, cells b4 [.int .i64 now13, .int .i64 now14, .int .i64 now15] 52, cells b5 [.int .i64 head4] 94, cells b6 [.int .i64 last13, .int .i64 last14, .int .i32 last15, .bool last16] 96, cells b7 [.bool open5] 4, cells jb1 [.int .i64 x1.At, .int .i64 x1.Width, .int .i32 x1.Rune, .bool x1.Broken] 96]
           refine TO.un rfl dc rfl un_not (TO.nil (TX.next (TC.condT rfl (TC.ret (TX.blockRet (TX.thenRet (TX.blockRet ?_)))))))
           exact TX.roundRet (acc4, (⟨now13, now14, now15⟩ : Gapi_Cell), rr8) (show _ ∧ _ from ⟨rfl, hx10⟩) (Splits.of [0] kr rfl)
        ·
         have h := condF hb4 h
         refine TO.skip rfl dc (TO.skip rfl dc (TO.pick (b := false) rfl dc rfl rfl (TO.move rfl dc rfl (TO.skip rfl dc (TO.skip rfl dc (TO.pick (b := false) rfl dc rfl rfl (TO.move rfl dc rfl (TO.skip rfl dc (TO.skip rfl dc (TO.skip rfl dc (TO.skip rfl dc (TO.pick (b := false) rfl dc rfl rfl (TO.assign rfl dc rfl ?_)))))))))))))
         refine TO.nil (TX.next (TC.condF rfl (TC.seq (TC.region (TO.load (k := 1) sc_93 rfl dc rfl rfl rfl (TO.loads (k := 2) (cs := [.int .i64 now13, .int .i64 now14, .int .i64 now15]) rw_52 rfl dc rfl rfl rfl rfl ?_))))))
         obtain ⟨rr9, hr4, h⟩ := consE h
         have hx12 : xs = acc4 ++ (⟨now13, now14, now15⟩ : Gapi_Cell) :: rr9 := by rw [hx4, hr4]
         refine TO.yield hy rfl dc rfl hx12 rfl (k := 0) rfl ?_ ?_
         ·
          have hx13 : xs = (acc4 ++ [(⟨now13, now14, now15⟩ : Gapi_Cell)]) ++ rr9 := by rw [hx12]; simp
          show TO _ _ _ _ _ _ _ _ _ _ [I (acc4 ++ [(⟨now13, now14, now15⟩ : Gapi_Cell)]), cells b1 [.func (.yield l) #[] #[]] 93, cells b4 [.int .i64 now13, .int .i64 now14, .int .i64 now15] 52, cells b5 [.int .i64 head4] 94, cells b6 [.int .i64 last13, .int .i64 last14, .int .i32 last15, .bool last16] 96, cells b7 [.bool open5] 4, cells jb1 [.int .i64 x1.At, .int .i64 x1.Width, .int .i32 x1.Rune, .bool x1.Broken] 96]
          refine TO.un rfl dc rfl un_not (TO.nil (TX.next (TC.condF rfl (TC.skip (TX.blockNormal ?_)))))
          exact TX.meetD (acc4 ++ [(⟨now13, now14, now15⟩ : Gapi_Cell)], rr9) ⟨h, hx13⟩ rfl (Sbs.cons rfl (Sbs.cons rfl (Sbs.cons rfl (Sbs.cons rfl (Sbs.cons rfl (Sbs.cons rfl (Sbs.cons rfl (Sbs.cons rfl (Sbs.nil))))))))) (Splits.of [0, 1, 2, 3, 4, 5, 6] kr rfl)
         ·
          show TO _ _ _ _ _ _ _ _ _ _ [X (acc4 ++ [(⟨now13, now14, now15⟩ : Gapi_Cell)]), cells b1 [.func (.yield l) #[] #[]] 93, cells b4 [.int .i64 now13, .int .i64 now14, .int .i64 now15] 52, cells b5 [.int .i64 head4] 94, cells b6 [.int .i64 last13, .int .i64 last14, .int .i32 last15, .bool last16] 96, cells b7 [.bool open5] 4, cells jb1 [.int .i64 x1.At, .int .i64 x1.Width, .int .i32 x1.Rune, .bool x1.Broken] 96]
          refine TO.un rfl dc rfl un_not (TO.nil (TX.next (TC.condT rfl (TC.ret (TX.blockRet (TX.thenRet (TX.blockRet ?_)))))))
          exact TX.roundRet (acc4, (⟨now13, now14, now15⟩ : Gapi_Cell), rr9) (show _ ∧ _ from ⟨rfl, hx12⟩) (Splits.of [0] kr rfl)
      ·
       have h := condF hb2 h
       refine TO.skip rfl dc (TO.skip rfl dc (TO.skip rfl dc (TO.pick (b := false) rfl dc rfl rfl (TO.assign rfl dc rfl (TO.nil (TX.next (TC.condF rfl (TC.seq (TC.region (TO.load (k := 3) sc_94 rfl dc rfl rfl rfl (TO.bin rfl dc rfl rfl bin_neq (TO.move rfl dc rfl ?_))))))))))))
       refine TO.split (s := 41) rfl (fun hb8 => ?_) (fun hb8 => ?_)
       ·
        have h := condT hb8 h
        refine TO.load (k := 3) sc_94 rfl dc rfl rfl rfl (TO.bin rfl dc rfl rfl bin_neq (TO.pick (b := true) rfl dc rfl rfl (TO.move rfl dc rfl ?_)))
        refine TO.split (s := 45) rfl (fun hb9 => ?_) (fun hb9 => ?_)
        ·
         have h := condT hb9 h
         refine TO.load (k := 3) sc_94 rfl dc rfl rfl rfl (TO.bin rfl dc rfl rfl bin_neq (TO.pick (b := true) rfl dc rfl rfl (TO.move rfl dc rfl ?_)))
         refine TO.split (s := 49) rfl (fun hb10 => ?_) (fun hb10 => ?_)
         ·
          have h := condT hb10 h
          refine TO.load (k := 3) sc_94 rfl dc rfl rfl rfl (TO.loads (k := 4) (cs := [.int .i64 last13, .int .i64 last14, .int .i32 last15, .bool last16]) rw_96 rfl dc rfl rfl rfl rfl (TO.loads (k := 6) (cs := [.int .i64 x1.At, .int .i64 x1.Width, .int .i32 x1.Rune, .bool x1.Broken]) rw_96 rfl dc rfl rfl rfl rfl ?_))
          obtain ⟨r4, hq5, h⟩ := andE h
          refine TO.callP (v := .bool r4) (vs := [.int .i64 head4, .agg #[.int .i64 last13, .int .i64 last14, .int .i32 last15, .bool last16], .agg #[.int .i64 x1.At, .int .i64 x1.Width, .int .i32 x1.Rune, .bool x1.Broken]]) rfl dc rfl rfl rfl en_42 (cluster_joins_fn (behind1 := (⟨last13, last14, last15, last16⟩ : Gapi_Piece)) (p1 := x1) hq5) (TO.pick (b := true) rfl dc rfl rfl (TO.assign rfl dc rfl (TO.nil (TX.next ?_))))
          refine TC.condB rfl (fun hb11 => ?_) (fun hb11 => ?_)
          ·
           have h := condT hb11 h
           refine TC.seq (TC.region (TO.fieldAddr fl_96_0 rfl dc rfl (show _ = 0 from rfl) (TO.load (k := 6) sc_3 rfl dc rfl rfl rfl (TO.fieldAddr fl_96_1 rfl dc rfl (show _ = 1 from rfl) (TO.load (k := 6) sc_3 rfl dc rfl rfl rfl ?_)))))
           obtain ⟨hg4, h⟩ := grdE h
           refine TO.bin rfl dc rfl rfl (bin_add (r := x1.At + x1.Width) (IntWalk.i64_in _ hg4)) (TO.fieldAddr fl_52_0 rfl dc rfl (show _ = 0 from rfl) (TO.fieldAddr fl_50_1 rfl dc rfl (show _ = 1 from rfl) ?_))
           refine TO.store (k := 2) (l' := [.int .i64 now13, .int .i64 (x1.At + x1.Width), .int .i64 now15]) sz_3 rfl rfl rfl rfl rfl (fun _ _ => rfl) rfl ?_
           refine TO.nil (TX.next (TC.seq ?_))
           obtain ⟨r5, hq6, h⟩ := andE h
           refine TC.drawN 4 [(0, 62, .pointer (some ⟨b4, 2, none⟩)), (1, 63, .int .i64 now15), (2, 64, .agg #[.int .i64 x1.At, .int .i64 x1.Width, .int .i32 x1.Rune, .bool x1.Broken]), (3, 65, .int .i64 r5)] mixed kr kr dc (by rfl) kr kr (DrawPre.cons ?_ (DrawPre.cons ?_ (DrawPre.cons ?_ (DrawPre.cons ?_ DrawPre.nil)))) ?_
           ·
            intro D hn hd hcl hu hi
            refine TO.fieldAddr fl_52_1 rfl dc (dl_old (by rfl) rfl) (show _ = 2 from rfl) ?_
            exact TX.quiet 0 hu hi rfl
           ·
            intro D hn hd hcl hu hi
            refine TO.load (k := 2) sc_3 rfl dc (dl_lookup (m := 0) hu rfl (hd 0 dc)) rfl rfl ?_
            exact TX.quiet 1 hu hi rfl
           ·
            intro D hn hd hcl hu hi
            refine TO.loads (k := 6) (cs := [.int .i64 x1.At, .int .i64 x1.Width, .int .i32 x1.Rune, .bool x1.Broken]) rw_96 rfl dc (dl_old (by rfl) rfl) rfl rfl rfl ?_
            exact TX.quiet 2 hu hi rfl
           ·
            intro D hn hd hcl hu hi
            refine TO.callP (v := .int .i64 r5) (vs := [.agg #[.int .i64 x1.At, .int .i64 x1.Width, .int .i32 x1.Rune, .bool x1.Broken]]) rfl dc rfl (evL.cons (dl_lookup (m := 2) hu rfl (hd 2 dc)) evL.nil) rfl en_43 (cluster_columns_fn (p1 := x1) hq6) ?_
            exact TX.quiet 3 hu hi rfl
           refine TO.max2 rfl dc rfl rfl (TO.fieldAddr fl_52_1 rfl dc rfl (show _ = 2 from rfl) ?_)
           refine TO.store (k := 2) (l' := [.int .i64 now13, .int .i64 (x1.At + x1.Width), .int .i64 (max now15 r5)]) sz_3 rfl rfl rfl rfl rfl (fun _ _ => rfl) rfl ?_
           show TO _ _ _ _ _ _ _ _ _ _ [I acc4, cells b1 [.func (.yield l) #[] #[]] 93, cells b4 [.int .i64 now13, .int .i64 (x1.At + x1.Width), .int .i64 (max now15 r5)] 52, cells b5 [.int .i64 head4] 94, cells b6 [.int .i64 last13, .int .i64 last14, .int .i32 last15, .bool last16] 96, cells b7 [.bool open5] 4, cells jb1 [.int .i64 x1.At, .int .i64 x1.Width, .int .i32 x1.Rune, .bool x1.Broken] 96]
           refine TO.nil (TX.next (TC.seq (TC.region (TO.loads (k := 6) (cs := [.int .i64 x1.At, .int .i64 x1.Width, .int .i32 x1.Rune, .bool x1.Broken]) rw_96 rfl dc rfl rfl rfl rfl (TO.stores (k := 4) (vs := [.int .i64 x1.At, .int .i64 x1.Width, .int .i32 x1.Rune, .bool x1.Broken]) (l' := [.int .i64 x1.At, .int .i64 x1.Width, .int .i32 x1.Rune, .bool x1.Broken]) sz_96 rfl rfl rfl rfl rfl (show _ ≤ _ by simp) rfl rfl (TO.nil (TX.next (TC.exit (TX.blockOn dc (TX.thenExit (TX.blockHere ?_)))))))))))
           exact TX.round (now13, x1.At + x1.Width, max now15 r5, head4, x1.At, x1.Width, x1.Rune, x1.Broken, open5, acc4, rr4) ⟨fun post2 e2 => (by have e9 := snoc_post hxs1 e2; subst e9; subst hag1; exact h), hx4⟩ (Splits.of [0, 1, 2, 3, 4, 5] kr rfl)
          ·
           have h := condF hb11 h
           refine TC.seq (TC.region (TO.load (k := 1) sc_93 rfl dc rfl rfl rfl (TO.loads (k := 2) (cs := [.int .i64 now13, .int .i64 now14, .int .i64 now15]) rw_52 rfl dc rfl rfl rfl rfl ?_)))
           obtain ⟨rr10, hr5, h⟩ := consE h
           have hx14 : xs = acc4 ++ (⟨now13, now14, now15⟩ : Gapi_Cell) :: rr10 := by rw [hx4, hr5]
           refine TO.yield hy rfl dc rfl hx14 rfl (k := 0) rfl ?_ ?_
           ·
            have hx15 : xs = (acc4 ++ [(⟨now13, now14, now15⟩ : Gapi_Cell)]) ++ rr10 := by rw [hx14]; simp
            show TO _ _ _ _ _ _ _ _ _ _ [I (acc4 ++ [(⟨now13, now14, now15⟩ : Gapi_Cell)]), cells b1 [.func (.yield l) #[] #[]] 93, cells b4 [.int .i64 now13, .int .i64 now14, .int .i64 now15] 52, cells b5 [.int .i64 head4] 94, cells b6 [.int .i64 last13, .int .i64 last14, .int .i32 last15, .bool last16] 96, cells b7 [.bool open5] 4, cells jb1 [.int .i64 x1.At, .int .i64 x1.Width, .int .i32 x1.Rune, .bool x1.Broken] 96]
            refine TO.un rfl dc rfl un_not (TO.nil (TX.next (TC.condF rfl (TC.skip (TX.blockNormal ?_)))))
            exact TX.meetD (acc4 ++ [(⟨now13, now14, now15⟩ : Gapi_Cell)], rr10) ⟨h, hx15⟩ rfl (Sbs.cons rfl (Sbs.cons rfl (Sbs.cons rfl (Sbs.cons rfl (Sbs.cons rfl (Sbs.cons rfl (Sbs.cons rfl (Sbs.cons rfl (Sbs.nil))))))))) (Splits.of [0, 1, 2, 3, 4, 5, 6] kr rfl)
           ·
            show TO _ _ _ _ _ _ _ _ _ _ [X (acc4 ++ [(⟨now13, now14, now15⟩ : Gapi_Cell)]), cells b1 [.func (.yield l) #[] #[]] 93, cells b4 [.int .i64 now13, .int .i64 now14, .int .i64 now15] 52, cells b5 [.int .i64 head4] 94, cells b6 [.int .i64 last13, .int .i64 last14, .int .i32 last15, .bool last16] 96, cells b7 [.bool open5] 4, cells jb1 [.int .i64 x1.At, .int .i64 x1.Width, .int .i32 x1.Rune, .bool x1.Broken] 96]
            refine TO.un rfl dc rfl un_not (TO.nil (TX.next (TC.condT rfl (TC.ret (TX.blockRet (TX.thenRet (TX.blockRet ?_)))))))
            exact TX.roundRet (acc4, (⟨now13, now14, now15⟩ : Gapi_Cell), rr10) (show _ ∧ _ from ⟨rfl, hx14⟩) (Splits.of [0] kr rfl)
         ·
          have h := condF hb10 h
          refine TO.skip rfl dc (TO.skip rfl dc (TO.skip rfl dc (TO.skip rfl dc (TO.pick (b := false) rfl dc rfl rfl (TO.assign rfl dc rfl (TO.nil (TX.next (TC.condF rfl (TC.seq (TC.region (TO.load (k := 1) sc_93 rfl dc rfl rfl rfl (TO.loads (k := 2) (cs := [.int .i64 now13, .int .i64 now14, .int .i64 now15]) rw_52 rfl dc rfl rfl rfl rfl ?_))))))))))))
          obtain ⟨rr11, hr6, h⟩ := consE h
          have hx16 : xs = acc4 ++ (⟨now13, now14, now15⟩ : Gapi_Cell) :: rr11 := by rw [hx4, hr6]
          refine TO.yield hy rfl dc rfl hx16 rfl (k := 0) rfl ?_ ?_
          ·
           have hx17 : xs = (acc4 ++ [(⟨now13, now14, now15⟩ : Gapi_Cell)]) ++ rr11 := by rw [hx16]; simp
           show TO _ _ _ _ _ _ _ _ _ _ [I (acc4 ++ [(⟨now13, now14, now15⟩ : Gapi_Cell)]), cells b1 [.func (.yield l) #[] #[]] 93, cells b4 [.int .i64 now13, .int .i64 now14, .int .i64 now15] 52, cells b5 [.int .i64 head4] 94, cells b6 [.int .i64 last13, .int .i64 last14, .int .i32 last15, .bool last16] 96, cells b7 [.bool open5] 4, cells jb1 [.int .i64 x1.At, .int .i64 x1.Width, .int .i32 x1.Rune, .bool x1.Broken] 96]
           refine TO.un rfl dc rfl un_not (TO.nil (TX.next (TC.condF rfl (TC.skip (TX.blockNormal ?_)))))
           exact TX.meetD (acc4 ++ [(⟨now13, now14, now15⟩ : Gapi_Cell)], rr11) ⟨h, hx17⟩ rfl (Sbs.cons rfl (Sbs.cons rfl (Sbs.cons rfl (Sbs.cons rfl (Sbs.cons rfl (Sbs.cons rfl (Sbs.cons rfl (Sbs.cons rfl (Sbs.nil))))))))) (Splits.of [0, 1, 2, 3, 4, 5, 6] kr rfl)
          ·
           show TO _ _ _ _ _ _ _ _ _ _ [X (acc4 ++ [(⟨now13, now14, now15⟩ : Gapi_Cell)]), cells b1 [.func (.yield l) #[] #[]] 93, cells b4 [.int .i64 now13, .int .i64 now14, .int .i64 now15] 52, cells b5 [.int .i64 head4] 94, cells b6 [.int .i64 last13, .int .i64 last14, .int .i32 last15, .bool last16] 96, cells b7 [.bool open5] 4, cells jb1 [.int .i64 x1.At, .int .i64 x1.Width, .int .i32 x1.Rune, .bool x1.Broken] 96]
           refine TO.un rfl dc rfl un_not (TO.nil (TX.next (TC.condT rfl (TC.ret (TX.blockRet (TX.thenRet (TX.blockRet ?_)))))))
           exact TX.roundRet (acc4, (⟨now13, now14, now15⟩ : Gapi_Cell), rr11) (show _ ∧ _ from ⟨rfl, hx16⟩) (Splits.of [0] kr rfl)
        ·
         have h := condF hb9 h
         refine TO.skip rfl dc (TO.skip rfl dc (TO.pick (b := false) rfl dc rfl rfl (TO.move rfl dc rfl (TO.skip rfl dc (TO.skip rfl dc (TO.skip rfl dc (TO.skip rfl dc (TO.pick (b := false) rfl dc rfl rfl (TO.assign rfl dc rfl (TO.nil (TX.next (TC.condF rfl (TC.seq ?_)))))))))))))
         refine TC.region (TO.load (k := 1) sc_93 rfl dc rfl rfl rfl (TO.loads (k := 2) (cs := [.int .i64 now13, .int .i64 now14, .int .i64 now15]) rw_52 rfl dc rfl rfl rfl rfl ?_))
         obtain ⟨rr12, hr7, h⟩ := consE h
         have hx18 : xs = acc4 ++ (⟨now13, now14, now15⟩ : Gapi_Cell) :: rr12 := by rw [hx4, hr7]
         refine TO.yield hy rfl dc rfl hx18 rfl (k := 0) rfl ?_ ?_
         ·
          have hx19 : xs = (acc4 ++ [(⟨now13, now14, now15⟩ : Gapi_Cell)]) ++ rr12 := by rw [hx18]; simp
          show TO _ _ _ _ _ _ _ _ _ _ [I (acc4 ++ [(⟨now13, now14, now15⟩ : Gapi_Cell)]), cells b1 [.func (.yield l) #[] #[]] 93, cells b4 [.int .i64 now13, .int .i64 now14, .int .i64 now15] 52, cells b5 [.int .i64 head4] 94, cells b6 [.int .i64 last13, .int .i64 last14, .int .i32 last15, .bool last16] 96, cells b7 [.bool open5] 4, cells jb1 [.int .i64 x1.At, .int .i64 x1.Width, .int .i32 x1.Rune, .bool x1.Broken] 96]
          refine TO.un rfl dc rfl un_not (TO.nil (TX.next (TC.condF rfl (TC.skip (TX.blockNormal ?_)))))
          exact TX.meetD (acc4 ++ [(⟨now13, now14, now15⟩ : Gapi_Cell)], rr12) ⟨h, hx19⟩ rfl (Sbs.cons rfl (Sbs.cons rfl (Sbs.cons rfl (Sbs.cons rfl (Sbs.cons rfl (Sbs.cons rfl (Sbs.cons rfl (Sbs.cons rfl (Sbs.nil))))))))) (Splits.of [0, 1, 2, 3, 4, 5, 6] kr rfl)
         ·
          show TO _ _ _ _ _ _ _ _ _ _ [X (acc4 ++ [(⟨now13, now14, now15⟩ : Gapi_Cell)]), cells b1 [.func (.yield l) #[] #[]] 93, cells b4 [.int .i64 now13, .int .i64 now14, .int .i64 now15] 52, cells b5 [.int .i64 head4] 94, cells b6 [.int .i64 last13, .int .i64 last14, .int .i32 last15, .bool last16] 96, cells b7 [.bool open5] 4, cells jb1 [.int .i64 x1.At, .int .i64 x1.Width, .int .i32 x1.Rune, .bool x1.Broken] 96]
          refine TO.un rfl dc rfl un_not (TO.nil (TX.next (TC.condT rfl (TC.ret (TX.blockRet (TX.thenRet (TX.blockRet ?_)))))))
          exact TX.roundRet (acc4, (⟨now13, now14, now15⟩ : Gapi_Cell), rr12) (show _ ∧ _ from ⟨rfl, hx18⟩) (Splits.of [0] kr rfl)
       ·
        have h := condF hb8 h
        refine TO.skip rfl dc (TO.skip rfl dc (TO.pick (b := false) rfl dc rfl rfl (TO.move rfl dc rfl (TO.skip rfl dc (TO.skip rfl dc (TO.pick (b := false) rfl dc rfl rfl (TO.move rfl dc rfl (TO.skip rfl dc (TO.skip rfl dc (TO.skip rfl dc (TO.skip rfl dc (TO.pick (b := false) rfl dc rfl rfl (TO.assign rfl dc rfl ?_)))))))))))))
        refine TO.nil (TX.next (TC.condF rfl (TC.seq (TC.region (TO.load (k := 1) sc_93 rfl dc rfl rfl rfl (TO.loads (k := 2) (cs := [.int .i64 now13, .int .i64 now14, .int .i64 now15]) rw_52 rfl dc rfl rfl rfl rfl ?_))))))
        obtain ⟨rr13, hr8, h⟩ := consE h
        have hx20 : xs = acc4 ++ (⟨now13, now14, now15⟩ : Gapi_Cell) :: rr13 := by rw [hx4, hr8]
        refine TO.yield hy rfl dc rfl hx20 rfl (k := 0) rfl ?_ ?_
        ·
         have hx21 : xs = (acc4 ++ [(⟨now13, now14, now15⟩ : Gapi_Cell)]) ++ rr13 := by rw [hx20]; simp
         show TO _ _ _ _ _ _ _ _ _ _ [I (acc4 ++ [(⟨now13, now14, now15⟩ : Gapi_Cell)]), cells b1 [.func (.yield l) #[] #[]] 93, cells b4 [.int .i64 now13, .int .i64 now14, .int .i64 now15] 52, cells b5 [.int .i64 head4] 94, cells b6 [.int .i64 last13, .int .i64 last14, .int .i32 last15, .bool last16] 96, cells b7 [.bool open5] 4, cells jb1 [.int .i64 x1.At, .int .i64 x1.Width, .int .i32 x1.Rune, .bool x1.Broken] 96]
         refine TO.un rfl dc rfl un_not (TO.nil (TX.next (TC.condF rfl (TC.skip (TX.blockNormal ?_)))))
         exact TX.meetD (acc4 ++ [(⟨now13, now14, now15⟩ : Gapi_Cell)], rr13) ⟨h, hx21⟩ rfl (Sbs.cons rfl (Sbs.cons rfl (Sbs.cons rfl (Sbs.cons rfl (Sbs.cons rfl (Sbs.cons rfl (Sbs.cons rfl (Sbs.cons rfl (Sbs.nil))))))))) (Splits.of [0, 1, 2, 3, 4, 5, 6] kr rfl)
        ·
         show TO _ _ _ _ _ _ _ _ _ _ [X (acc4 ++ [(⟨now13, now14, now15⟩ : Gapi_Cell)]), cells b1 [.func (.yield l) #[] #[]] 93, cells b4 [.int .i64 now13, .int .i64 now14, .int .i64 now15] 52, cells b5 [.int .i64 head4] 94, cells b6 [.int .i64 last13, .int .i64 last14, .int .i32 last15, .bool last16] 96, cells b7 [.bool open5] 4, cells jb1 [.int .i64 x1.At, .int .i64 x1.Width, .int .i32 x1.Rune, .bool x1.Broken] 96]
         refine TO.un rfl dc rfl un_not (TO.nil (TX.next (TC.condT rfl (TC.ret (TX.blockRet (TX.thenRet (TX.blockRet ?_)))))))
         exact TX.roundRet (acc4, (⟨now13, now14, now15⟩ : Gapi_Cell), rr13) (show _ ∧ _ from ⟨rfl, hx20⟩) (Splits.of [0] kr rfl)
    ·
     rintro ⟨acc5, rr5⟩ ⟨h, hx5⟩
     rw [hj2] at h
     show TC _ _ _ _ _ ([]) _ _ [(2, .pointer (some ⟨b1, 0, none⟩)), (3, .pointer (some ⟨b4, 0, none⟩)), (4, .pointer (some ⟨b5, 0, none⟩)), (5, .pointer (some ⟨b6, 0, none⟩)), (6, .pointer (some ⟨b7, 0, none⟩)), (7, .pointer (some ⟨jb1, 0, none⟩)), (8, .int .i64 (kindOf x1.Broken x1.Rune)), (10, .func (.func 49) #[] #[.pointer (some ⟨b8, 0, none⟩)])] [I acc5, cells b1 [.func (.yield l) #[] #[]] 93, cells b4 [.int .i64 now13, .int .i64 now14, .int .i64 now15] 52, cells b5 [.int .i64 head4] 94, cells b6 [.int .i64 last13, .int .i64 last14, .int .i32 last15, .bool last16] 96, cells b7 [.bool open5] 4, cells jb1 [.int .i64 x1.At, .int .i64 x1.Width, .int .i32 x1.Rune, .bool x1.Broken] 96]
     refine TC.seq ?_
     refine let vals1 : (Unit) → List (Nat × Nat × Value) := fun b => [(0, 69, .int .i64 (kindOf x1.Broken x1.Rune)), (1, 70, .agg #[.int .i64 x1.At, .int .i64 x1.Width, .int .i32 x1.Rune, .bool x1.Broken])]; let LL1 : (Nat → Prop) → (Unit) → List Asn := fun D b => [I acc5, cells b1 [.func (.yield l) #[] #[]] 93, cells b4 [.int .i64 now13, .int .i64 now14, .int .i64 now15] 52, eD D (cells b5 [.int .i64 head4] 94) [(3, cells b5 [.int .i64 (kindOf x1.Broken x1.Rune)] 94)], cells b6 [.int .i64 last13, .int .i64 last14, .int .i32 last15, .bool last16] 96, eD D (cells b7 [.bool open5] 4) [(2, cells b7 [.bool true] 4)], cells jb1 [.int .i64 x1.At, .int .i64 x1.Width, .int .i32 x1.Rune, .bool x1.Broken] 96]; ?_
     refine TC.drawG (β := Unit) 4 () vals1 LL1 mixed kr kr dc (fun _ => rfl) (cons_eq rfl (cons_eq rfl (cons_eq rfl (cons_eq eD_none (cons_eq rfl (cons_eq eD_none (cons_eq rfl rfl))))))) (DrawG.cons ?_ (DrawG.cons ?_ (DrawG.cons ?_ (DrawG.cons ?_ DrawG.nil)))) ?_
     ·
      intro D b hn hd hcl
      refine TO.rewL (L' := [I acc5, cells b1 [.func (.yield l) #[] #[]] 93, cells b4 [.int .i64 now13, .int .i64 now14, .int .i64 now15] 52, cells b5 [.int .i64 head4] 94, cells b6 [.int .i64 last13, .int .i64 last14, .int .i32 last15, .bool last16] 96, eD D (cells b7 [.bool open5] 4) [(2, cells b7 [.bool true] 4)], cells jb1 [.int .i64 x1.At, .int .i64 x1.Width, .int .i32 x1.Rune, .bool x1.Broken] 96]) (cons_eq rfl (cons_eq rfl (cons_eq rfl (cons_eq (eD_miss (fun hD => hn (hcl 3 _ rfl hD 0 dc)) eD_nil) (cons_eq rfl (cons_eq rfl (cons_eq rfl rfl))))))) ?_
      refine TO.move rfl dc (dl_old (by rfl) rfl) ?_
      exact TX.valG (b := b) () 0 (by rfl) (by rfl) rfl (dl_cons_eq (fun _ => rfl) (dl_cons_eq (fun _ => rfl) rfl)) (cons_eq rfl (cons_eq rfl (cons_eq rfl (cons_eq ((eD_skip (by rfl)).trans (eD_miss (fun hD => hn (hcl 3 _ rfl hD 0 dc)) eD_nil)) (cons_eq rfl (cons_eq ((eD_skip (by rfl)).trans rfl) (cons_eq rfl rfl)))))))
     ·
      intro D b hn hd hcl
      refine TO.rewL (L' := [I acc5, cells b1 [.func (.yield l) #[] #[]] 93, cells b4 [.int .i64 now13, .int .i64 now14, .int .i64 now15] 52, eD D (cells b5 [.int .i64 head4] 94) [(3, cells b5 [.int .i64 (kindOf x1.Broken x1.Rune)] 94)], cells b6 [.int .i64 last13, .int .i64 last14, .int .i32 last15, .bool last16] 96, eD D (cells b7 [.bool open5] 4) [(2, cells b7 [.bool true] 4)], cells jb1 [.int .i64 x1.At, .int .i64 x1.Width, .int .i32 x1.Rune, .bool x1.Broken] 96]) (cons_eq rfl (cons_eq rfl (cons_eq rfl (cons_eq rfl (cons_eq rfl (cons_eq rfl (cons_eq rfl rfl))))))) (TO.loads (k := 6) (cs := [.int .i64 x1.At, .int .i64 x1.Width, .int .i32 x1.Rune, .bool x1.Broken]) rw_96 rfl dc (dl_old (by rfl) rfl) rfl rfl rfl ?_)
      exact TX.valG (b := b) () 1 (by rfl) (by rfl) rfl (dl_cons_eq (fun _ => rfl) (dl_cons_eq (fun _ => rfl) rfl)) (cons_eq rfl (cons_eq rfl (cons_eq rfl (cons_eq ((eD_skip (by rfl)).trans rfl) (cons_eq rfl (cons_eq ((eD_skip (by rfl)).trans rfl) (cons_eq rfl rfl)))))))
     ·
      intro D b hn hd hcl
      refine TO.rewL (L' := [I acc5, cells b1 [.func (.yield l) #[] #[]] 93, cells b4 [.int .i64 now13, .int .i64 now14, .int .i64 now15] 52, cells b5 [.int .i64 head4] 94, cells b6 [.int .i64 last13, .int .i64 last14, .int .i32 last15, .bool last16] 96, cells b7 [.bool open5] 4, cells jb1 [.int .i64 x1.At, .int .i64 x1.Width, .int .i32 x1.Rune, .bool x1.Broken] 96]) (cons_eq rfl (cons_eq rfl (cons_eq rfl (cons_eq (eD_miss (fun hD => hn (hcl 3 _ rfl hD 2 dc)) eD_nil) (cons_eq rfl (cons_eq (eD_miss hn eD_nil) (cons_eq rfl rfl))))))) ?_
      refine TO.store (k := 5) (l' := [.bool true]) sz_4 rfl (dl_old (by rfl) rfl) rfl rfl rfl (fun _ _ => rfl) rfl ?_
      exact TX.noneG (b := b) () (by rfl) (dl_cons_eq (fun _ => rfl) (dl_cons_eq (fun _ => rfl) rfl)) (cons_eq rfl (cons_eq rfl (cons_eq rfl (cons_eq ((eD_skip (by rfl)).trans (eD_miss (fun hD => hn (hcl 3 _ rfl hD 2 dc)) eD_nil)) (cons_eq rfl (cons_eq (eD_hit (Or.inr rfl) rfl) (cons_eq rfl rfl)))))))
     ·
      intro D b hn hd hcl
      refine TO.rewL (L' := [I acc5, cells b1 [.func (.yield l) #[] #[]] 93, cells b4 [.int .i64 now13, .int .i64 now14, .int .i64 now15] 52, cells b5 [.int .i64 head4] 94, cells b6 [.int .i64 last13, .int .i64 last14, .int .i32 last15, .bool last16] 96, cells b7 [.bool true] 4, cells jb1 [.int .i64 x1.At, .int .i64 x1.Width, .int .i32 x1.Rune, .bool x1.Broken] 96]) (cons_eq rfl (cons_eq rfl (cons_eq rfl (cons_eq (eD_miss hn eD_nil) (cons_eq rfl (cons_eq (eD_hit (hd 2 dc) rfl) (cons_eq rfl rfl))))))) ?_
      refine TO.store (k := 3) (l' := [.int .i64 (kindOf x1.Broken x1.Rune)]) sz_94 rfl (dl_old (by rfl) rfl) (dl_lookup (m := 0) rfl rfl (hd 0 dc)) rfl rfl (fun _ _ => rfl) rfl ?_
      exact TX.noneG (b := b) () (by rfl) (dl_cons_eq (fun _ => rfl) (dl_cons_eq (fun _ => rfl) rfl)) (cons_eq rfl (cons_eq rfl (cons_eq rfl (cons_eq (eD_hit (Or.inr rfl) rfl) (cons_eq rfl (cons_eq ((eD_skip (by rfl)).trans (eD_hit (hd 2 dc) rfl)) (cons_eq rfl rfl)))))))
     intro D b hall
     refine TO.rewL (L' := [I acc5, cells b1 [.func (.yield l) #[] #[]] 93, cells b4 [.int .i64 now13, .int .i64 now14, .int .i64 now15] 52, cells b5 [.int .i64 (kindOf x1.Broken x1.Rune)] 94, cells b6 [.int .i64 last13, .int .i64 last14, .int .i32 last15, .bool last16] 96, cells b7 [.bool true] 4, cells jb1 [.int .i64 x1.At, .int .i64 x1.Width, .int .i32 x1.Rune, .bool x1.Broken] 96]) (cons_eq rfl (cons_eq rfl (cons_eq rfl (cons_eq (eD_hit (hall 3 dc) rfl) (cons_eq rfl (cons_eq (eD_hit (hall 2 dc) rfl) (cons_eq rfl rfl))))))) (TO.stores (k := 4) (vs := [.int .i64 x1.At, .int .i64 x1.Width, .int .i32 x1.Rune, .bool x1.Broken]) (l' := [.int .i64 x1.At, .int .i64 x1.Width, .int .i32 x1.Rune, .bool x1.Broken]) sz_96 rfl rfl rfl rfl rfl (show _ ≤ _ by simp) rfl rfl (TO.nil (TX.next ?_)))
     obtain ⟨hg5, h⟩ := grdE h
     obtain ⟨r6, hq7, h⟩ := andE h
     refine TC.drawN 10 [(0, 71, .pointer (some ⟨jb1, 0, none⟩)), (1, 72, .int .i64 x1.At), (2, 73, .pointer (some ⟨jb1, 0, none⟩)), (3, 74, .int .i64 x1.At), (4, 75, .pointer (some ⟨jb1, 1, none⟩)), (5, 76, .int .i64 x1.Width), (6, 77, .int .i64 (x1.At + x1.Width)), (7, 78, .agg #[.int .i64 x1.At, .int .i64 (x1.At + x1.Width)]), (8, 79, .agg #[.int .i64 x1.At, .int .i64 x1.Width, .int .i32 x1.Rune, .bool x1.Broken]), (9, 80, .int .i64 r6)] mixed kr kr dc (by rfl) kr kr (DrawPre.cons ?_ (DrawPre.cons ?_ (DrawPre.cons ?_ (DrawPre.cons ?_ (DrawPre.cons ?_ (DrawPre.cons ?_ (DrawPre.cons ?_ (DrawPre.cons ?_ (DrawPre.cons ?_ (DrawPre.cons ?_ DrawPre.nil)))))))))) ?_
     ·
      intro D hn hd hcl hu hi
      refine TO.fieldAddr fl_96_0 rfl dc (dl_old (by rfl) rfl) (show _ = 0 from rfl) ?_
      exact TX.quiet 0 hu hi rfl
     ·
      intro D hn hd hcl hu hi
      refine TO.load (k := 6) sc_3 rfl dc (dl_lookup (m := 0) hu rfl (hd 0 dc)) rfl rfl ?_
      exact TX.quiet 1 hu hi rfl
     ·
      intro D hn hd hcl hu hi
      refine TO.fieldAddr fl_96_0 rfl dc (dl_old (by rfl) rfl) (show _ = 0 from rfl) ?_
      exact TX.quiet 2 hu hi rfl
     ·
      intro D hn hd hcl hu hi
      refine TO.load (k := 6) sc_3 rfl dc (dl_lookup (m := 2) hu rfl (hd 2 dc)) rfl rfl ?_
      exact TX.quiet 3 hu hi rfl
     ·
      intro D hn hd hcl hu hi
      refine TO.fieldAddr fl_96_1 rfl dc (dl_old (by rfl) rfl) (show _ = 1 from rfl) ?_
      exact TX.quiet 4 hu hi rfl
     ·
      intro D hn hd hcl hu hi
      refine TO.load (k := 6) sc_3 rfl dc (dl_lookup (m := 4) hu rfl (hd 4 dc)) rfl rfl ?_
      exact TX.quiet 5 hu hi rfl
     ·
      intro D hn hd hcl hu hi
      refine TO.bin rfl dc (dl_lookup (m := 3) hu rfl (hd 3 dc)) (dl_lookup (m := 5) hu rfl (hd 5 dc)) (bin_add (r := x1.At + x1.Width) (IntWalk.i64_in _ hg5)) ?_
      exact TX.quiet 6 hu hi rfl
     ·
      intro D hn hd hcl hu hi
      refine TO.build (v := .agg #[.int .i64 x1.At, .int .i64 (x1.At + x1.Width)]) (ps := [(0, .tmp 72), (1, .tmp 77)]) rfl dc (evP.cons (dl_lookup (m := 1) hu rfl (hd 1 dc)) (evP.cons (dl_lookup (m := 6) hu rfl (hd 6 dc)) evP.nil)) (fun _ => by kernel_rfl) ?_
      exact TX.quiet 7 hu hi rfl
     ·
      intro D hn hd hcl hu hi
      refine TO.loads (k := 6) (cs := [.int .i64 x1.At, .int .i64 x1.Width, .int .i32 x1.Rune, .bool x1.Broken]) rw_96 rfl dc (dl_old (by rfl) rfl) rfl rfl rfl ?_
      exact TX.quiet 8 hu hi rfl
     ·
      intro D hn hd hcl hu hi
      refine TO.callP (v := .int .i64 r6) (vs := [.agg #[.int .i64 x1.At, .int .i64 x1.Width, .int .i32 x1.Rune, .bool x1.Broken]]) rfl dc rfl (evL.cons (dl_lookup (m := 8) hu rfl (hd 8 dc)) evL.nil) rfl en_43 (cluster_columns_fn (p1 := x1) hq7) ?_
      exact TX.quiet 9 hu hi rfl
     refine TO.build (v := .agg #[.int .i64 x1.At, .int .i64 (x1.At + x1.Width), .int .i64 r6]) (ps := [(0, .tmp 78), (1, .tmp 80)]) rfl dc rfl (fun _ => by kernel_rfl) ?_
     refine TO.stores (k := 2) (vs := [.int .i64 x1.At, .int .i64 (x1.At + x1.Width), .int .i64 r6]) (l' := [.int .i64 x1.At, .int .i64 (x1.At + x1.Width), .int .i64 r6]) sz_52 rfl rfl rfl rfl rfl (show _ ≤ _ by simp) rfl rfl ?_
     show TO _ _ _ _ _ _ _ _ _ _ [I acc5, cells b1 [.func (.yield l) #[] #[]] 93, cells b4 [.int .i64 x1.At, .int .i64 (x1.At + x1.Width), .int .i64 r6] 52, cells b5 [.int .i64 (kindOf x1.Broken x1.Rune)] 94, cells b6 [.int .i64 x1.At, .int .i64 x1.Width, .int .i32 x1.Rune, .bool x1.Broken] 96, cells b7 [.bool true] 4, cells jb1 [.int .i64 x1.At, .int .i64 x1.Width, .int .i32 x1.Rune, .bool x1.Broken] 96]
     refine TO.nil (TX.blockNormal ?_)
     exact TX.round (x1.At, x1.At + x1.Width, r6, kindOf x1.Broken x1.Rune, x1.At, x1.Width, x1.Rune, x1.Broken, true, acc5, rr5) ⟨fun post2 e2 => (by have e9 := snoc_post hxs1 e2; subst e9; subst hag1; exact h), hx5⟩ (Splits.of [0, 1, 2, 3, 4, 5] kr rfl)
   ·
    rintro dm1 ⟨now13, now14, now15, head4, last13, last14, last15, last16, open5, acc4, rr4⟩ hinv
    obtain ⟨hinv, hx4⟩ := hinv
    have h : d1 now13 now14 now15 head4 last13 last14 last15 last16 open5 = some rr4 := hinv [] (List.append_nil _).symm
    rw [hd1] at h
    show TX _ _ _ _ _ _ _ [emp, star ((([] : List Nat) : List Nat).map mark), emp, emp, emp, emp, emp, cells b8 [.string r1] 9, I acc4, cells b1 [.func (.yield l) #[] #[]] 93, cells b4 [.int .i64 now13, .int .i64 now14, .int .i64 now15] 52, cells b5 [.int .i64 head4] 94, cells b6 [.int .i64 last13, .int .i64 last14, .int .i32 last15, .bool last16] 96, cells b7 [.bool open5] 4, mark dm1]
    refine TX.starCons (k := 14) (j := 1) rfl rfl dc ?_
    show TX _ _ _ _ _ _ _ [emp, star ((dm1 :: ([] : List Nat) : List Nat).map mark), emp, emp, emp, emp, emp, cells b8 [.string r1] 9, I acc4, cells b1 [.func (.yield l) #[] #[]] 93, cells b4 [.int .i64 now13, .int .i64 now14, .int .i64 now15] 52, cells b5 [.int .i64 head4] 94, cells b6 [.int .i64 last13, .int .i64 last14, .int .i32 last15, .bool last16] 96, cells b7 [.bool open5] 4, emp]
    refine TX.blockNormal ?_
    exact TX.meetD (now13, now14, now15, open5, acc4, rr4, b4, b7, dm1 :: ([] : List Nat)) ⟨h, hx4⟩ rfl (Sbs.cons rfl (Sbs.cons rfl (Sbs.cons rfl (Sbs.nil)))) (Splits.of [8, 9, 10, 13, 1] kr rfl)
   ·
    rintro dm1 c pre x1 post g hxs hX
    obtain ⟨ta1, tq1, tr1⟩ := g
    obtain ⟨rfl, hx22⟩ := (show _ ∧ _ from hX)
    show TC _ _ _ _ _ _ _ _ _ [emp, star ((([] : List Nat) : List Nat).map mark), emp, emp, emp, emp, emp, cells b8 [.string r1] 9, X (ta1 ++ [tq1]), mark dm1]
    refine TC.starCons (k := 9) (j := 1) rfl rfl dc ?_
    show TC _ _ _ _ _ _ _ _ _ [emp, star ((dm1 :: ([] : List Nat) : List Nat).map mark), emp, emp, emp, emp, emp, cells b8 [.string r1] 9, X (ta1 ++ [tq1]), emp]
    refine TC.ret (TX.blockRet (TX.thenRet (TX.jumpOn (by simp) ?_)))
    exact TX.finX (ds := (dm1 :: ([] : List Nat))) ta1 tq1 tr1 hx22 (.inl rfl) (Splits.open0 (k := 1) rfl) Try.results39 (Splits.of [8] kr rfl)
  ·
   rintro ⟨now1, now2, now3, open1, acc1, rr1, b2, b3, ds1⟩ ⟨h, hx1⟩
   rw [hj1] at h
   show TC _ _ _ _ _ (marksOf ds1) _ _ [(2, .pointer (some ⟨b1, 0, none⟩)), (3, .pointer (some ⟨b2, 0, none⟩)), (6, .pointer (some ⟨b3, 0, none⟩))] [I acc1, cells b1 [.func (.yield l) #[] #[]] 93, cells b2 [.int .i64 now1, .int .i64 now2, .int .i64 now3] 52, cells b3 [.bool open1] 4, star ((ds1 : List Nat).map mark)]
   refine TC.seq (TC.region (TO.load (k := 3) sc_4 rfl dc rfl rfl rfl (TO.nil (TX.next ?_))))
   refine TC.condB rfl (fun hb12 => ?_) (fun hb12 => ?_)
   ·
    have h := condT hb12 h
    refine TC.region (TO.load (k := 1) sc_93 rfl dc rfl rfl rfl (TO.loads (k := 2) (cs := [.int .i64 now1, .int .i64 now2, .int .i64 now3]) rw_52 rfl dc rfl rfl rfl rfl ?_))
    obtain ⟨rr14, hr9, h⟩ := consE h
    have hx23 : xs = acc1 ++ (⟨now1, now2, now3⟩ : Gapi_Cell) :: rr14 := by rw [hx1, hr9]
    refine TO.yield hy rfl dc rfl hx23 rfl (k := 0) rfl ?_ ?_
    ·
     have hx24 : xs = (acc1 ++ [(⟨now1, now2, now3⟩ : Gapi_Cell)]) ++ rr14 := by rw [hx23]; simp
     show TO _ _ _ _ _ _ _ _ _ _ [I (acc1 ++ [(⟨now1, now2, now3⟩ : Gapi_Cell)]), cells b1 [.func (.yield l) #[] #[]] 93, cells b2 [.int .i64 now1, .int .i64 now2, .int .i64 now3] 52, cells b3 [.bool open1] 4, star ((ds1 : List Nat).map mark)]
     refine TO.nil (TX.jumpOn (by simp) ?_)
     cases h
     exact TX.finY (ds := ds1) (.inr rfl) (Splits.open0 (k := 4) rfl) Try.results39 (congrArg I (hx24.trans (List.append_nil _))) (Splits.of [0] kr rfl)
    ·
     show TO _ _ _ _ _ _ _ _ _ _ [X (acc1 ++ [(⟨now1, now2, now3⟩ : Gapi_Cell)]), cells b1 [.func (.yield l) #[] #[]] 93, cells b2 [.int .i64 now1, .int .i64 now2, .int .i64 now3] 52, cells b3 [.bool open1] 4, star ((ds1 : List Nat).map mark)]
     refine TO.nil (TX.jumpOn (by simp) ?_)
     exact TX.finX (ds := ds1) acc1 (⟨now1, now2, now3⟩ : Gapi_Cell) rr14 hx23 (.inr rfl) (Splits.open0 (k := 4) rfl) Try.results39 (Splits.of [0] kr rfl)
   ·
    have h := condF hb12 h
    refine TC.skip (TX.jumpOn (by simp) ?_)
    cases h
    exact TX.finY (ds := ds1) (.inr rfl) (Splits.open0 (k := 4) rfl) Try.results39 (congrArg I (hx1.trans (List.append_nil _))) (Splits.of [0] kr rfl)
 ·
  exact fun b hb => hb.elim
def cluster_Each_v (s1 : ByteArray) : Option ByteArray := some s1
set_option maxRecDepth 100000 in
set_option maxHeartbeats 4000000 in
theorem cluster_Each_fn {s1 : ByteArray} {r : ByteArray} (h : cluster_Each_v s1 = some r) : Fn Try.prog 29 [.string s1] [] (fun v0 : Nat => .func (.func 39) #[] #[.pointer (some ⟨v0, 0, none⟩)]) (fun v0 => [cells v0 [.string r] 9]) := by
 unfold cluster_Each_v at h
 refine Fn.intro Try.func29 rfl Try.ntmps29 (by simp) ?_
 intro w0 K
 refine TC.seq (TC.region ?_)
 refine TO.box rfl dc rfl (fun b1 => ?_)
 refine TO.assign rfl dc rfl (TO.nil (TX.next (TC.seq (TC.region (TO.makeFunc (x1 := []) (x2 := [.tmp 1]) rfl dc rfl rfl (TO.assign rfl dc rfl (TO.nil (TX.next (TC.ret ?_)))))))))
 cases h
 exact TX.fin (rs := [.tmp 2]) b1 (.inl rfl) Try.results29 (.cons (.tmp rfl) .nil) rfl (Splits.of [0] kr rfl)
end Go.Proofs.Ytnhdnpdbmgeheaa
namespace Go.Proofs.Ytnhdnpdbmgeheaa
open Go.RowKit Go.Lib
set_option linter.unusedVariables false
set_option linter.unusedSimpArgs false
theorem size_listP (s : ByteArray) : s.data.toList.length = s.size := by rw [Array.length_toList]; rfl
/-! ### Wide runes -/
def wideL (r : Int) : Bool → List Int → Bool
  | _, [] => false
  | false, e :: es => if r < e then false else wideL r true es
  | true, e :: es => if r ≤ e then true else wideL r false es
def wEdges : List Int := (pcs str_2086a301.data.toList).map fun p => (p.r : Int)
def wideB (r : Int) : Bool := wideL r false wEdges
theorem wide_v (r : Int) : cluster_wide_v r = some (wideB r) := by
  unfold cluster_wide_v wideB wEdges
  refine joinI ?_
  generalize hP : pcs str_2086a301.data.toList = P
  have hlen : P.length ≤ 1000 := by rw [← hP]; decide +kernel
  have key : ∀ (n m : Nat) (w : Bool), m ≤ P.length → P.length - m < n → loopG (fun _ _ => none) (cluster_wide_s1 r (some false)) n w m = some (wideL r w ((P.drop m).map fun p => (p.r : Int))) := by
    intro n
    induction n with
    | zero => intro m w _ h; omega
    | succ n ih =>
      intro m w hm hn
      rw [loopI]
      generalize loopG (fun _ _ => none) (cluster_wide_s1 r (some false)) n = ag at ih ⊢
      unfold cluster_wide_s1
      rw [hP]
      by_cases h : m < P.length
      · have hx : P[m]? = some P[m] := List.getElem?_eq_getElem h
        have hd := List.drop_eq_getElem_cons h
        generalize P[m] = p at hx hd
        have hn1 := fun w => ih (m + 1) w (by omega) (by omega)
        refine condTI (decide_eq_true h) (thenI hx (joinI ?_))
        rw [hd, List.map_cons]
        cases w with
        | false =>
          refine condTI rfl ?_
          unfold wideL
          by_cases h1 : r < (p.r : Int)
          · rw [if_pos h1]; exact condTI (decide_eq_true h1) rfl
          · rw [if_neg h1]; exact condFI (decide_eq_false h1) (condFI rfl (hn1 true))
        | true =>
          refine condFI rfl (condTI rfl ?_)
          unfold wideL
          by_cases h1 : r ≤ (p.r : Int)
          · rw [if_pos h1]; exact condTI (decide_eq_true h1) rfl
          · rw [if_neg h1]; exact condFI (decide_eq_false h1) (hn1 false)
      · have : m = P.length := by omega
        subst this
        refine condFI (decide_eq_false h) ?_
        rw [List.drop_length]
        cases w <;> rfl
  have := key fuel 0 false (Nat.zero_le _) (by have := big_fuel (n := P.length) (by omega); omega)
  rw [List.drop_zero] at this
  exact this
/-! ### A piece's columns; what is taken -/
def kdP (x : Gapi_Piece) : Int := kindOf x.Broken x.Rune
def colP (x : Gapi_Piece) : Int := if kdP x = 11 then 1 else if kdP x = 2 ∨ kdP x = 4 ∨ kdP x = 9 then 0 else if wideB x.Rune = true then 2 else 1
theorem col_rng (x : Gapi_Piece) : 0 ≤ colP x ∧ colP x ≤ 2 := by unfold colP; repeat' split
                                                                 all_goals omega
theorem beqI {a b : Int} (h : a = b) : (a == b) = true := by rw [h]; exact beq_self_eq_true _
theorem beqF {a b : Int} (h : a ≠ b) : (a == b) = false := beq_eq_false_iff_ne.2 h
theorem neqI {a b : Int} (h : a ≠ b) : (a != b) = true := bne_iff_ne.2 h
theorem neqF {a b : Int} (h : a = b) : (a != b) = false := by rw [h]; exact bne_self_eq_false _
theorem columns_v (x : Gapi_Piece) (hx : I32 x.Rune) : cluster_columns_v x = some (colP x) := by
  unfold cluster_columns_v colP
  refine grdI hx ?_
  change bcond (kdP x == 11) _ _ = _
  by_cases h1 : kdP x = 11
  · rw [if_pos h1]; exact condTI (beqI h1) rfl
  rw [if_neg h1]
  refine condFI (beqF h1) (joinI ?_)
  change bcond (kdP x == 2) (bcond (kdP x == 2) _ _) (bcond (kdP x == 4) (bcond (kdP x == 4) _ _) (bcond (kdP x == 9) _ _)) = _
  have wd : (andThen (cluster_wide_v x.Rune) fun (r1 : Bool) => bcond (r1) (some (2 : Int)) (some 1)) = some (if wideB x.Rune = true then 2 else 1) := by
    refine thenI (wide_v x.Rune) ?_
    cases wideB x.Rune <;> rfl
  by_cases h2 : kdP x = 2
  · rw [if_pos (.inl h2)]; exact condTI (beqI h2) (condTI (beqI h2) rfl)
  refine condFI (beqF h2) ?_
  by_cases h4 : kdP x = 4
  · rw [if_pos (.inr (.inl h4))]; exact condTI (beqI h4) (condTI (beqI h4) rfl)
  refine condFI (beqF h4) ?_
  by_cases h9 : kdP x = 9
  · rw [if_pos (.inr (.inr h9))]; exact condTI (beqI h9) rfl
  rw [if_neg (by omega)]
  exact condFI (beqF h9) wd
def joinB (head behind : Int) (x : Gapi_Piece) : Bool := if x.Broken then false else if kdP x = 2 then true else if x.Rune = 8205 then true else if head = 10 then (if kdP x = 10 then decide (behind = 8205) else false) else false
theorem joins_v (head : Int) (b x : Gapi_Piece) (hx : I32 x.Rune) : cluster_joins_v head b x = some (joinB head b.Rune x) := by
  unfold cluster_joins_v joinB
  cases hb : x.Broken with
  | true => exact condTI rfl rfl
  | false =>
    refine condFI rfl (grdI hx ?_)
    have hk : kdP x = kindOf false x.Rune := by unfold kdP; rw [hb]
    rw [← hk]
    simp only [Bool.false_eq_true, if_false]
    by_cases h2 : kdP x = 2
    · rw [if_pos h2]; exact condTI (beqI h2) rfl
    rw [if_neg h2]
    refine condFI (beqF h2) ?_
    by_cases hj : x.Rune = 8205
    · rw [if_pos hj]; exact condTI (beqI hj) rfl
    rw [if_neg hj]
    refine condFI (beqF hj) ?_
    by_cases hh : head = 10
    · rw [if_pos hh]
      refine condTI (beqI hh) ?_
      by_cases h10 : kdP x = 10
      · rw [if_pos h10]
        refine condTI (beqI h10) ?_
        by_cases e : b.Rune = 8205
        · rw [decide_eq_true e, beqI e]
        · rw [decide_eq_false e, beqF e]
      · rw [if_neg h10]; exact condFI (beqF h10) rfl
    · rw [if_neg hh]; exact condFI (beqF hh) rfl
def takesB (head last : Int) (x : Gapi_Piece) : Bool := head != 11 && (head != 4 && (head != 9 && joinB head last x))
/-- The clusters: c is the one that is open, head the kind of its first piece, last the rune of its last one. -/
def cellsF : Gapi_Cell → Int → Int → List Gapi_Piece → List Gapi_Cell
  | c, _, _, [] => [c]
  | c, head, last, x :: xs =>
    if last = 13 ∧ x.Rune = 10 then cellsF ⟨c.Span_From, x.At + x.Width, c.Columns⟩ head x.Rune xs
    else if takesB head last x = true then cellsF ⟨c.Span_From, x.At + x.Width, max c.Columns (colP x)⟩ head x.Rune xs
    else c :: cellsF ⟨x.At, x.At + x.Width, colP x⟩ (kdP x) x.Rune xs
theorem cellsF_cons (c : Gapi_Cell) (head last : Int) (x : Gapi_Piece) (xs : List Gapi_Piece) : cellsF c head last (x :: xs) = if last = 13 ∧ x.Rune = 10 then cellsF ⟨c.Span_From, x.At + x.Width, c.Columns⟩ head x.Rune xs
    else if takesB head last x = true then cellsF ⟨c.Span_From, x.At + x.Width, max c.Columns (colP x)⟩ head x.Rune xs
    else c :: cellsF ⟨x.At, x.At + x.Width, colP x⟩ (kdP x) x.Rune xs := rfl
def cellsP : List Gapi_Piece → List Gapi_Cell
  | [] => []
  | x :: xs => cellsF ⟨x.At, x.At + x.Width, colP x⟩ (kdP x) x.Rune xs
def cellsS (s : ByteArray) : List Gapi_Cell := cellsP ((pcs s.data.toList).map pcG)
def okP (x : Gapi_Piece) : Prop := I32 x.Rune ∧ 0 ≤ x.At ∧ x.At ≤ 4000000000 ∧ 0 < x.Width ∧ x.Width ≤ 4
theorem each_go (d : Int → Int → Int → Int → Int → Int → Int → Bool → Bool → Option (List Gapi_Cell)) (hd : ∀ a b c h l1 l2 l3 l4, d a b c h l1 l2 l3 l4 true = some [⟨a, b, c⟩]) :
    ∀ (xs : List Gapi_Piece) (a b c h l1 l2 l3 : Int) (l4 : Bool), (∀ x ∈ xs, okP x) → rangeG d cluster_Each_1_s1 xs a b c h l1 l2 l3 l4 true = some (cellsF ⟨a, b, c⟩ h l3 xs)
  | [], a, b, c, h, l1, l2, l3, l4, _ => hd a b c h l1 l2 l3 l4
  | x :: xs, a, b, c, h, l1, l2, l3, l4, ho => by
    obtain ⟨o1, o2, o3, o4, o5⟩ := ho x (List.mem_cons_self ..)
    have ih := fun a b c h l1 l2 l3 l4 => each_go d hd xs a b c h l1 l2 l3 l4 (fun y hy => ho y (List.mem_cons_of_mem _ hy))
    rw [rangeG_cons]
    generalize rangeG d cluster_Each_1_s1 xs = ag at ih ⊢
    unfold cluster_Each_1_s1
    refine joinI (grdI o1 (condFI rfl ?_))
    have hI : I64 (x.At + x.Width) := ⟨by omega, by omega⟩
    have new : (grd (I64 (x.At + x.Width)) <| andThen (cluster_columns_v x) fun (r6 : Int) => ag x.At (x.At + x.Width) r6 (kindOf x.Broken x.Rune) x.At x.Width x.Rune x.Broken true) = some (cellsF ⟨x.At, x.At + x.Width, colP x⟩ (kdP x) x.Rune xs) :=
      grdI hI (thenI (columns_v x o1) (ih ..))
    have rest : ¬ (l3 = 13 ∧ x.Rune = 10) → bcond ((h : Int) != 11) (bcond ((h : Int) != 4) (bcond ((h : Int) != 9) (andThen (cluster_joins_v h (⟨l1, l2, l3, l4⟩ : Gapi_Piece) x) fun (r2 : Bool) => bcond (r2) (grd (I64 (x.At + x.Width)) <| andThen (cluster_columns_v x) fun (r3 : Int) => ag a (x.At + x.Width) (max c r3) h x.At x.Width x.Rune x.Broken true)
        (consO (⟨a, b, c⟩ : Gapi_Cell) <| (grd (I64 (x.At + x.Width)) <| andThen (cluster_columns_v x) fun (r6 : Int) => ag x.At (x.At + x.Width) r6 (kindOf x.Broken x.Rune) x.At x.Width x.Rune x.Broken true)))
        (consO (⟨a, b, c⟩ : Gapi_Cell) <| (grd (I64 (x.At + x.Width)) <| andThen (cluster_columns_v x) fun (r6 : Int) => ag x.At (x.At + x.Width) r6 (kindOf x.Broken x.Rune) x.At x.Width x.Rune x.Broken true)))
        (consO (⟨a, b, c⟩ : Gapi_Cell) <| (grd (I64 (x.At + x.Width)) <| andThen (cluster_columns_v x) fun (r6 : Int) => ag x.At (x.At + x.Width) r6 (kindOf x.Broken x.Rune) x.At x.Width x.Rune x.Broken true)))
        (consO (⟨a, b, c⟩ : Gapi_Cell) <| (grd (I64 (x.At + x.Width)) <| andThen (cluster_columns_v x) fun (r6 : Int) => ag x.At (x.At + x.Width) r6 (kindOf x.Broken x.Rune) x.At x.Width x.Rune x.Broken true)) = some (cellsF ⟨a, b, c⟩ h l3 (x :: xs)) := by
      intro hn
      rw [new, cellsF_cons, if_neg hn]
      unfold takesB
      cases h1 : (h != 11) with
      | false => exact condFI rfl rfl
      | true =>
        refine condTI rfl ?_
        cases h2 : (h != 4) with
        | false => exact condFI rfl rfl
        | true =>
          refine condTI rfl ?_
          cases h3 : (h != 9) with
          | false => exact condFI rfl rfl
          | true =>
            refine condTI rfl (thenI (joins_v h _ x o1) ?_)
            show bcond (joinB h l3 x) _ _ = some (if (true && (true && (true && joinB h l3 x))) = true then _ else _)
            cases h4 : joinB h l3 x with
            | false => exact condFI rfl rfl
            | true => exact condTI rfl (grdI hI (thenI (columns_v x o1) (ih ..)))
    by_cases hr : l3 = 13
    · refine condTI (beqI hr) ?_
      by_cases hx : x.Rune = 10
      · refine condTI (beqI hx) (grdI hI ?_)
        rw [ih, cellsF_cons, if_pos ⟨hr, hx⟩]
      · exact condFI (beqF hx) (rest (fun e => hx e.2))
    · exact condFI (beqF hr) (rest (fun e => hr e.1))
theorem pcs_okP (s : ByteArray) (hs : s.size ≤ 2147483648) : ∀ x ∈ (pcs s.data.toList).map pcG, okP x := by
  intro x hx
  obtain ⟨p, hp, rfl⟩ := List.mem_map.1 hx
  obtain ⟨g1, g2, hok⟩ := pcs_pos s.data.toList p hp
  have hl := size_listP s
  have h1 := hok.pos
  have hv := hok.valid
  have hw : p.w ≤ 4 := by
    by_cases h : p.r = 65533 ∧ p.w = 1
    · omega
    · rw [← hok.width h]; exact (encodeRune_len _).2
  refine ⟨⟨?_, ?_⟩, ?_, ?_, ?_, ?_⟩
  · show -2147483648 ≤ (p.r : Int); omega
  · show (p.r : Int) ≤ 2147483647; omega
  · show 0 ≤ (p.i : Int); omega
  · show (p.i : Int) ≤ 4000000000; omega
  · show 0 < (p.w : Int); omega
  · show (p.w : Int) ≤ 4; omega
theorem each_v (s : ByteArray) (hs : s.size ≤ 2147483648) : cluster_Each_1_v s = some (cellsS s) := by
  unfold cluster_Each_1_v
  refine joinI (thenI rfl (thenI (piecesI s hs) (joinI ?_)))
  have ho := pcs_okP s hs
  unfold cellsS
  generalize (pcs s.data.toList).map pcG = P at ho
  cases P with
  | nil => rfl
  | cons x xs =>
    obtain ⟨o1, o2, o3, o4, o5⟩ := ho x (List.mem_cons_self ..)
    rw [rangeG_cons]
    have ih := each_go (fun (now13 : Int) (now14 : Int) (now15 : Int) (head4 : Int) (last13 : Int) (last14 : Int) (last15 : Int) (last16 : Bool) (open5 : Bool) => bcond (open5) (consO (⟨now13, now14, now15⟩ : Gapi_Cell) <| some []) (some [])) (fun a b c h l1 l2 l3 l4 => rfl) xs x.At (x.At + x.Width) (colP x) (kdP x) x.At x.Width x.Rune x.Broken (fun y hy => ho y (List.mem_cons_of_mem _ hy))
    generalize rangeG _ cluster_Each_1_s1 xs = ag at ih ⊢
    unfold cluster_Each_1_s1
    exact joinI (grdI o1 (condTI rfl (grdI ⟨by omega, by omega⟩ (thenI (columns_v x o1) ih))))
/-! ### The clusters cover the text -/
def Cov : Int → List Gapi_Cell → Int → Prop
  | a, [], b => a = b
  | a, c :: cs, b => c.Span_From = a ∧ a < c.Span_To ∧ (0 ≤ c.Columns ∧ c.Columns ≤ 2) ∧ Cov c.Span_To cs b
def CovP : Int → List Gapi_Piece → Int → Prop
  | a, [], b => a = b
  | a, x :: xs, b => x.At = a ∧ 0 < x.Width ∧ CovP (a + x.Width) xs b
theorem cells_cov : ∀ (xs : List Gapi_Piece) (c : Gapi_Cell) (h l : Int) (b : Int), c.Span_From < c.Span_To → 0 ≤ c.Columns ∧ c.Columns ≤ 2 → CovP c.Span_To xs b → Cov c.Span_From (cellsF c h l xs) b
  | [], c, h, l, b, h1, h2, h3 => ⟨rfl, h1, h2, h3⟩
  | x :: xs, c, h, l, b, h1, h2, h3 => by
    obtain ⟨g1, g2, g3⟩ := h3
    rw [← g1] at g3
    have hc := col_rng x
    rw [cellsF_cons]
    split
    · exact cells_cov xs ⟨c.Span_From, x.At + x.Width, c.Columns⟩ h x.Rune b (by show c.Span_From < x.At + x.Width; omega) h2 g3
    split
    · exact cells_cov xs ⟨c.Span_From, x.At + x.Width, max c.Columns (colP x)⟩ h x.Rune b (by show c.Span_From < x.At + x.Width; omega) ⟨by show 0 ≤ max c.Columns (colP x); omega, by show max c.Columns (colP x) ≤ 2; omega⟩ g3
    · refine ⟨rfl, h1, h2, ?_⟩
      have := cells_cov xs ⟨x.At, x.At + x.Width, colP x⟩ (kdP x) x.Rune b (by show x.At < x.At + x.Width; omega) hc g3
      rw [← g1]; exact this
theorem cellsP_cov {xs : List Gapi_Piece} {a b : Int} (h : CovP a xs b) : Cov a (cellsP xs) b := by
  cases xs with
  | nil => exact h
  | cons x xs =>
    obtain ⟨g1, g2, g3⟩ := h
    rw [← g1] at g3 ⊢
    exact cells_cov xs ⟨x.At, x.At + x.Width, colP x⟩ (kdP x) x.Rune b (by show x.At < x.At + x.Width; omega) (col_rng x) g3
theorem place_cov : ∀ (ts : List Tok) (i : Nat), (∀ t ∈ ts, t.valid ∨ t.broken = true) → CovP (i : Int) ((place i ts).map pcG) ((i + (flat ts).length : Nat) : Int)
  | [], i, _ => rfl
  | t :: ts, i, h => by
    have hb := List.length_pos_iff.2 (bs_ne (h t (List.mem_cons_self ..)))
    have ih := place_cov ts (i + t.bs.length) fun u hu => h u (List.mem_cons_of_mem _ hu)
    refine ⟨rfl, ?_, ?_⟩
    · show 0 < (t.bs.length : Int); omega
    · show CovP ((i : Int) + (t.bs.length : Int)) _ _
      rw [show (i : Int) + (t.bs.length : Int) = ((i + t.bs.length : Nat) : Int) by omega, flat_cons, List.length_append, ← Nat.add_assoc]
      exact ih
theorem cellsS_cov (s : ByteArray) : Cov 0 (cellsS s) (s.size : Int) := by
  unfold cellsS
  refine cellsP_cov ?_
  have h := place_cov (toks s.data.toList) 0 (toks_ok _)
  rw [flat_toks, Nat.zero_add, size_listP] at h
  rw [show pcs s.data.toList = place 0 (toks s.data.toList) from pcs_place _ 0]
  exact h
theorem cellsS_len (s : ByteArray) : (cellsS s).length ≤ s.size := by
  have hc := cellsS_cov s
  have key : ∀ (cs : List Gapi_Cell) (a b : Int), Cov a cs b → a + cs.length ≤ b := by
    intro cs
    induction cs with
    | nil => intro a b h; have : a = b := h; simp; omega
    | cons c cs ih =>
      intro a b h
      obtain ⟨h1, h2, _, h3⟩ := h
      have := ih _ _ h3
      rw [List.length_cons]; push_cast; omega
  have := key _ _ _ hc
  omega
end Go.Proofs.Ytnhdnpdbmgeheaa
