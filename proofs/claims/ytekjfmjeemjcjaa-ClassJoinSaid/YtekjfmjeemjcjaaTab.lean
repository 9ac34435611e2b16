/-
  What the table of types says, type by type, and the entries of the functions. Nothing is assumed.
-/
import Derived.Test.YtekjfmjeemjcjaaVl
import Derived.Test.YtekjfmjeemjcjaaProg
import Derived.Shelf.Abstract
namespace Go.Proofs.Ytekjfmjeemjcjaa
open Go.RowKit Go.Lib Go.Shelf
theorem sc_1 : ScalarOk Try.prog 1 := ⟨_, Try.underlying1, rfl⟩
theorem sz_1 : SizeOk Try.prog 1 1 := by unfold SizeOk; as_aux_lemma => kernel_rfl
theorem zr_1 : ZeroOk Try.prog 1 [.nilFunc] := by unfold ZeroOk; as_aux_lemma => kernel_rfl
theorem el_1 : ElemOk Try.prog 1 1 := ElemOk.mk' (by as_aux_lemma => kernel_rfl)
theorem sc_2 : ScalarOk Try.prog 2 := ⟨_, Try.underlying2, rfl⟩
theorem sz_2 : SizeOk Try.prog 2 1 := by unfold SizeOk; as_aux_lemma => kernel_rfl
theorem zr_2 : ZeroOk Try.prog 2 [.int .i64 0] := by unfold ZeroOk; as_aux_lemma => kernel_rfl
theorem el_2 : ElemOk Try.prog 2 1 := ElemOk.mk' (by as_aux_lemma => kernel_rfl)
theorem sc_3 : ScalarOk Try.prog 3 := ⟨_, Try.underlying3, rfl⟩
theorem sz_3 : SizeOk Try.prog 3 1 := by unfold SizeOk; as_aux_lemma => kernel_rfl
theorem zr_3 : ZeroOk Try.prog 3 [.int .i64 0] := by unfold ZeroOk; as_aux_lemma => kernel_rfl
theorem el_3 : ElemOk Try.prog 3 1 := ElemOk.mk' (by as_aux_lemma => kernel_rfl)
theorem sc_4 : ScalarOk Try.prog 4 := ⟨_, Try.underlying4, rfl⟩
theorem sz_4 : SizeOk Try.prog 4 1 := by unfold SizeOk; as_aux_lemma => kernel_rfl
theorem zr_4 : ZeroOk Try.prog 4 [.bool false] := by unfold ZeroOk; as_aux_lemma => kernel_rfl
theorem el_4 : ElemOk Try.prog 4 1 := ElemOk.mk' (by as_aux_lemma => kernel_rfl)
theorem sc_5 : ScalarOk Try.prog 5 := ⟨_, Try.underlying5, rfl⟩
theorem sz_5 : SizeOk Try.prog 5 1 := by unfold SizeOk; as_aux_lemma => kernel_rfl
theorem zr_5 : ZeroOk Try.prog 5 [.int .u8 0] := by unfold ZeroOk; as_aux_lemma => kernel_rfl
theorem el_5 : ElemOk Try.prog 5 1 := ElemOk.mk' (by as_aux_lemma => kernel_rfl)
theorem by_5 : ByteOk Try.prog 5 := ByteOk.mk' (by as_aux_lemma => kernel_rfl)
theorem sc_6 : ScalarOk Try.prog 6 := ⟨_, Try.underlying6, rfl⟩
theorem sz_6 : SizeOk Try.prog 6 1 := by unfold SizeOk; as_aux_lemma => kernel_rfl
theorem zr_6 : ZeroOk Try.prog 6 [.int .u8 0] := by unfold ZeroOk; as_aux_lemma => kernel_rfl
theorem el_6 : ElemOk Try.prog 6 1 := ElemOk.mk' (by as_aux_lemma => kernel_rfl)
theorem by_6 : ByteOk Try.prog 6 := ByteOk.mk' (by as_aux_lemma => kernel_rfl)
theorem rw_7 : RowOk Try.prog 7 4 := ⟨_, Try.underlying7, rfl, by as_aux_lemma => kernel_rfl⟩
theorem fl_7_0 : FieldOk Try.prog 7 0 0 := ⟨_, _, Try.underlying7, rfl, rfl, by as_aux_lemma => kernel_rfl⟩
theorem fl_7_1 : FieldOk Try.prog 7 1 1 := ⟨_, _, Try.underlying7, rfl, rfl, by as_aux_lemma => kernel_rfl⟩
theorem fl_7_2 : FieldOk Try.prog 7 2 2 := ⟨_, _, Try.underlying7, rfl, rfl, by as_aux_lemma => kernel_rfl⟩
theorem fl_7_3 : FieldOk Try.prog 7 3 3 := ⟨_, _, Try.underlying7, rfl, rfl, by as_aux_lemma => kernel_rfl⟩
theorem sz_7 : SizeOk Try.prog 7 4 := by unfold SizeOk; as_aux_lemma => kernel_rfl
theorem zr_7 : ZeroOk Try.prog 7 [.int .i64 0, .int .i64 0, .bool false, .int .u8 0] := by unfold ZeroOk; as_aux_lemma => kernel_rfl
theorem el_7 : ElemOk Try.prog 7 4 := ElemOk.mk' (by as_aux_lemma => kernel_rfl)
theorem rw_8 : RowOk Try.prog 8 4 := ⟨_, Try.underlying8, rfl, by as_aux_lemma => kernel_rfl⟩
theorem fl_8_0 : FieldOk Try.prog 8 0 0 := ⟨_, _, Try.underlying8, rfl, rfl, by as_aux_lemma => kernel_rfl⟩
theorem fl_8_1 : FieldOk Try.prog 8 1 1 := ⟨_, _, Try.underlying8, rfl, rfl, by as_aux_lemma => kernel_rfl⟩
theorem fl_8_2 : FieldOk Try.prog 8 2 2 := ⟨_, _, Try.underlying8, rfl, rfl, by as_aux_lemma => kernel_rfl⟩
theorem fl_8_3 : FieldOk Try.prog 8 3 3 := ⟨_, _, Try.underlying8, rfl, rfl, by as_aux_lemma => kernel_rfl⟩
theorem sz_8 : SizeOk Try.prog 8 4 := by unfold SizeOk; as_aux_lemma => kernel_rfl
theorem zr_8 : ZeroOk Try.prog 8 [.int .i64 0, .int .i64 0, .bool false, .int .u8 0] := by unfold ZeroOk; as_aux_lemma => kernel_rfl
theorem el_8 : ElemOk Try.prog 8 4 := ElemOk.mk' (by as_aux_lemma => kernel_rfl)
theorem sc_9 : ScalarOk Try.prog 9 := ⟨_, Try.underlying9, rfl⟩
theorem sz_9 : SizeOk Try.prog 9 1 := by unfold SizeOk; as_aux_lemma => kernel_rfl
theorem zr_9 : ZeroOk Try.prog 9 [.string ByteArray.empty] := by unfold ZeroOk; as_aux_lemma => kernel_rfl
theorem el_9 : ElemOk Try.prog 9 1 := ElemOk.mk' (by as_aux_lemma => kernel_rfl)
theorem sc_10 : ScalarOk Try.prog 10 := ⟨_, Try.underlying10, rfl⟩
theorem sz_10 : SizeOk Try.prog 10 1 := by unfold SizeOk; as_aux_lemma => kernel_rfl
theorem zr_10 : ZeroOk Try.prog 10 [.string ByteArray.empty] := by unfold ZeroOk; as_aux_lemma => kernel_rfl
theorem el_10 : ElemOk Try.prog 10 1 := ElemOk.mk' (by as_aux_lemma => kernel_rfl)
theorem sc_11 : ScalarOk Try.prog 11 := ⟨_, Try.underlying11, rfl⟩
theorem sz_11 : SizeOk Try.prog 11 1 := by unfold SizeOk; as_aux_lemma => kernel_rfl
theorem zr_11 : ZeroOk Try.prog 11 [.string ByteArray.empty] := by unfold ZeroOk; as_aux_lemma => kernel_rfl
theorem el_11 : ElemOk Try.prog 11 1 := ElemOk.mk' (by as_aux_lemma => kernel_rfl)
theorem sc_12 : ScalarOk Try.prog 12 := ⟨_, Try.underlying12, rfl⟩
theorem sz_12 : SizeOk Try.prog 12 1 := by unfold SizeOk; as_aux_lemma => kernel_rfl
theorem zr_12 : ZeroOk Try.prog 12 [.int .u64 0] := by unfold ZeroOk; as_aux_lemma => kernel_rfl
theorem el_12 : ElemOk Try.prog 12 1 := ElemOk.mk' (by as_aux_lemma => kernel_rfl)
theorem rw_13 : RowOk Try.prog 13 2 := ⟨_, Try.underlying13, rfl, by as_aux_lemma => kernel_rfl⟩
theorem fl_13_0 : FieldOk Try.prog 13 0 0 := ⟨_, _, Try.underlying13, rfl, rfl, by as_aux_lemma => kernel_rfl⟩
theorem fl_13_1 : FieldOk Try.prog 13 1 1 := ⟨_, _, Try.underlying13, rfl, rfl, by as_aux_lemma => kernel_rfl⟩
theorem sz_13 : SizeOk Try.prog 13 2 := by unfold SizeOk; as_aux_lemma => kernel_rfl
theorem zr_13 : ZeroOk Try.prog 13 [.string ByteArray.empty, .int .u64 0] := by unfold ZeroOk; as_aux_lemma => kernel_rfl
theorem el_13 : ElemOk Try.prog 13 2 := ElemOk.mk' (by as_aux_lemma => kernel_rfl)
theorem rw_14 : RowOk Try.prog 14 2 := ⟨_, Try.underlying14, rfl, by as_aux_lemma => kernel_rfl⟩
theorem fl_14_0 : FieldOk Try.prog 14 0 0 := ⟨_, _, Try.underlying14, rfl, rfl, by as_aux_lemma => kernel_rfl⟩
theorem fl_14_1 : FieldOk Try.prog 14 1 1 := ⟨_, _, Try.underlying14, rfl, rfl, by as_aux_lemma => kernel_rfl⟩
theorem sz_14 : SizeOk Try.prog 14 2 := by unfold SizeOk; as_aux_lemma => kernel_rfl
theorem zr_14 : ZeroOk Try.prog 14 [.string ByteArray.empty, .int .u64 0] := by unfold ZeroOk; as_aux_lemma => kernel_rfl
theorem el_14 : ElemOk Try.prog 14 2 := ElemOk.mk' (by as_aux_lemma => kernel_rfl)
theorem sc_15 : ScalarOk Try.prog 15 := ⟨_, Try.underlying15, rfl⟩
theorem sz_15 : SizeOk Try.prog 15 1 := by unfold SizeOk; as_aux_lemma => kernel_rfl
theorem zr_15 : ZeroOk Try.prog 15 [.pointer none] := by unfold ZeroOk; as_aux_lemma => kernel_rfl
theorem el_15 : ElemOk Try.prog 15 1 := ElemOk.mk' (by as_aux_lemma => kernel_rfl)
theorem sc_16 : ScalarOk Try.prog 16 := ⟨_, Try.underlying16, rfl⟩
theorem sz_16 : SizeOk Try.prog 16 1 := by unfold SizeOk; as_aux_lemma => kernel_rfl
theorem zr_16 : ZeroOk Try.prog 16 [.pointer none] := by unfold ZeroOk; as_aux_lemma => kernel_rfl
theorem el_16 : ElemOk Try.prog 16 1 := ElemOk.mk' (by as_aux_lemma => kernel_rfl)
theorem sc_17 : ScalarOk Try.prog 17 := ⟨_, Try.underlying17, rfl⟩
theorem sz_17 : SizeOk Try.prog 17 1 := by unfold SizeOk; as_aux_lemma => kernel_rfl
theorem zr_17 : ZeroOk Try.prog 17 [.pointer none] := by unfold ZeroOk; as_aux_lemma => kernel_rfl
theorem el_17 : ElemOk Try.prog 17 1 := ElemOk.mk' (by as_aux_lemma => kernel_rfl)
theorem rw_18 : RowOk Try.prog 18 1 := ⟨_, Try.underlying18, rfl, by as_aux_lemma => kernel_rfl⟩
theorem fl_18_0 : FieldOk Try.prog 18 0 0 := ⟨_, _, Try.underlying18, rfl, rfl, by as_aux_lemma => kernel_rfl⟩
theorem sz_18 : SizeOk Try.prog 18 1 := by unfold SizeOk; as_aux_lemma => kernel_rfl
theorem zr_18 : ZeroOk Try.prog 18 [.pointer none] := by unfold ZeroOk; as_aux_lemma => kernel_rfl
theorem el_18 : ElemOk Try.prog 18 1 := ElemOk.mk' (by as_aux_lemma => kernel_rfl)
theorem rw_19 : RowOk Try.prog 19 1 := ⟨_, Try.underlying19, rfl, by as_aux_lemma => kernel_rfl⟩
theorem fl_19_0 : FieldOk Try.prog 19 0 0 := ⟨_, _, Try.underlying19, rfl, rfl, by as_aux_lemma => kernel_rfl⟩
theorem sz_19 : SizeOk Try.prog 19 1 := by unfold SizeOk; as_aux_lemma => kernel_rfl
theorem zr_19 : ZeroOk Try.prog 19 [.pointer none] := by unfold ZeroOk; as_aux_lemma => kernel_rfl
theorem el_19 : ElemOk Try.prog 19 1 := ElemOk.mk' (by as_aux_lemma => kernel_rfl)
theorem sc_21 : ScalarOk Try.prog 21 := ⟨_, Try.underlying21, rfl⟩
theorem sz_21 : SizeOk Try.prog 21 1 := by unfold SizeOk; as_aux_lemma => kernel_rfl
theorem zr_21 : ZeroOk Try.prog 21 [.int .i32 0] := by unfold ZeroOk; as_aux_lemma => kernel_rfl
theorem el_21 : ElemOk Try.prog 21 1 := ElemOk.mk' (by as_aux_lemma => kernel_rfl)
theorem sc_22 : ScalarOk Try.prog 22 := ⟨_, Try.underlying22, rfl⟩
theorem sz_22 : SizeOk Try.prog 22 1 := by unfold SizeOk; as_aux_lemma => kernel_rfl
theorem zr_22 : ZeroOk Try.prog 22 [.nilFunc] := by unfold ZeroOk; as_aux_lemma => kernel_rfl
theorem el_22 : ElemOk Try.prog 22 1 := ElemOk.mk' (by as_aux_lemma => kernel_rfl)
theorem sc_23 : ScalarOk Try.prog 23 := ⟨_, Try.underlying23, rfl⟩
theorem sz_23 : SizeOk Try.prog 23 1 := by unfold SizeOk; as_aux_lemma => kernel_rfl
theorem zr_23 : ZeroOk Try.prog 23 [.nilFunc] := by unfold ZeroOk; as_aux_lemma => kernel_rfl
theorem el_23 : ElemOk Try.prog 23 1 := ElemOk.mk' (by as_aux_lemma => kernel_rfl)
theorem sc_24 : ScalarOk Try.prog 24 := ⟨_, Try.underlying24, rfl⟩
theorem sz_24 : SizeOk Try.prog 24 1 := by unfold SizeOk; as_aux_lemma => kernel_rfl
theorem zr_24 : ZeroOk Try.prog 24 [.nilFunc] := by unfold ZeroOk; as_aux_lemma => kernel_rfl
theorem el_24 : ElemOk Try.prog 24 1 := ElemOk.mk' (by as_aux_lemma => kernel_rfl)
theorem sc_25 : ScalarOk Try.prog 25 := ⟨_, Try.underlying25, rfl⟩
theorem sz_25 : SizeOk Try.prog 25 1 := by unfold SizeOk; as_aux_lemma => kernel_rfl
theorem zr_25 : ZeroOk Try.prog 25 [.slice none 0 0] := by unfold ZeroOk; as_aux_lemma => kernel_rfl
theorem el_25 : ElemOk Try.prog 25 1 := ElemOk.mk' (by as_aux_lemma => kernel_rfl)
theorem sc_26 : ScalarOk Try.prog 26 := ⟨_, Try.underlying26, rfl⟩
theorem sz_26 : SizeOk Try.prog 26 1 := by unfold SizeOk; as_aux_lemma => kernel_rfl
theorem zr_26 : ZeroOk Try.prog 26 [.nilFunc] := by unfold ZeroOk; as_aux_lemma => kernel_rfl
theorem el_26 : ElemOk Try.prog 26 1 := ElemOk.mk' (by as_aux_lemma => kernel_rfl)
theorem sc_27 : ScalarOk Try.prog 27 := ⟨_, Try.underlying27, rfl⟩
theorem sz_27 : SizeOk Try.prog 27 1 := by unfold SizeOk; as_aux_lemma => kernel_rfl
theorem zr_27 : ZeroOk Try.prog 27 [.nilFunc] := by unfold ZeroOk; as_aux_lemma => kernel_rfl
theorem el_27 : ElemOk Try.prog 27 1 := ElemOk.mk' (by as_aux_lemma => kernel_rfl)
theorem sc_28 : ScalarOk Try.prog 28 := ⟨_, Try.underlying28, rfl⟩
theorem sz_28 : SizeOk Try.prog 28 1 := by unfold SizeOk; as_aux_lemma => kernel_rfl
theorem zr_28 : ZeroOk Try.prog 28 [.nilFunc] := by unfold ZeroOk; as_aux_lemma => kernel_rfl
theorem el_28 : ElemOk Try.prog 28 1 := ElemOk.mk' (by as_aux_lemma => kernel_rfl)
theorem sc_29 : ScalarOk Try.prog 29 := ⟨_, Try.underlying29, rfl⟩
theorem sz_29 : SizeOk Try.prog 29 1 := by unfold SizeOk; as_aux_lemma => kernel_rfl
theorem zr_29 : ZeroOk Try.prog 29 [.nilFunc] := by unfold ZeroOk; as_aux_lemma => kernel_rfl
theorem el_29 : ElemOk Try.prog 29 1 := ElemOk.mk' (by as_aux_lemma => kernel_rfl)
theorem rw_30 : RowOk Try.prog 30 2 := ⟨_, Try.underlying30, rfl, by as_aux_lemma => kernel_rfl⟩
theorem fl_30_0 : FieldOk Try.prog 30 0 0 := ⟨_, _, Try.underlying30, rfl, rfl, by as_aux_lemma => kernel_rfl⟩
theorem fl_30_1 : FieldOk Try.prog 30 1 1 := ⟨_, _, Try.underlying30, rfl, rfl, by as_aux_lemma => kernel_rfl⟩
theorem sz_30 : SizeOk Try.prog 30 2 := by unfold SizeOk; as_aux_lemma => kernel_rfl
theorem zr_30 : ZeroOk Try.prog 30 [.int .i64 0, .int .i64 0] := by unfold ZeroOk; as_aux_lemma => kernel_rfl
theorem el_30 : ElemOk Try.prog 30 2 := ElemOk.mk' (by as_aux_lemma => kernel_rfl)
theorem rw_31 : RowOk Try.prog 31 2 := ⟨_, Try.underlying31, rfl, by as_aux_lemma => kernel_rfl⟩
theorem fl_31_0 : FieldOk Try.prog 31 0 0 := ⟨_, _, Try.underlying31, rfl, rfl, by as_aux_lemma => kernel_rfl⟩
theorem fl_31_1 : FieldOk Try.prog 31 1 1 := ⟨_, _, Try.underlying31, rfl, rfl, by as_aux_lemma => kernel_rfl⟩
theorem sz_31 : SizeOk Try.prog 31 2 := by unfold SizeOk; as_aux_lemma => kernel_rfl
theorem zr_31 : ZeroOk Try.prog 31 [.int .i64 0, .int .i64 0] := by unfold ZeroOk; as_aux_lemma => kernel_rfl
theorem el_31 : ElemOk Try.prog 31 2 := ElemOk.mk' (by as_aux_lemma => kernel_rfl)
theorem sc_32 : ScalarOk Try.prog 32 := ⟨_, Try.underlying32, rfl⟩
theorem sz_32 : SizeOk Try.prog 32 1 := by unfold SizeOk; as_aux_lemma => kernel_rfl
theorem zr_32 : ZeroOk Try.prog 32 [.int .i64 0] := by unfold ZeroOk; as_aux_lemma => kernel_rfl
theorem el_32 : ElemOk Try.prog 32 1 := ElemOk.mk' (by as_aux_lemma => kernel_rfl)
theorem rw_33 : RowOk Try.prog 33 3 := ⟨_, Try.underlying33, rfl, by as_aux_lemma => kernel_rfl⟩
theorem fl_33_0 : FieldOk Try.prog 33 0 0 := ⟨_, _, Try.underlying33, rfl, rfl, by as_aux_lemma => kernel_rfl⟩
theorem fl_33_1 : FieldOk Try.prog 33 1 2 := ⟨_, _, Try.underlying33, rfl, rfl, by as_aux_lemma => kernel_rfl⟩
theorem sz_33 : SizeOk Try.prog 33 3 := by unfold SizeOk; as_aux_lemma => kernel_rfl
theorem zr_33 : ZeroOk Try.prog 33 [.int .i64 0, .int .i64 0, .int .i64 0] := by unfold ZeroOk; as_aux_lemma => kernel_rfl
theorem el_33 : ElemOk Try.prog 33 3 := ElemOk.mk' (by as_aux_lemma => kernel_rfl)
theorem rw_34 : RowOk Try.prog 34 3 := ⟨_, Try.underlying34, rfl, by as_aux_lemma => kernel_rfl⟩
theorem fl_34_0 : FieldOk Try.prog 34 0 0 := ⟨_, _, Try.underlying34, rfl, rfl, by as_aux_lemma => kernel_rfl⟩
theorem fl_34_1 : FieldOk Try.prog 34 1 2 := ⟨_, _, Try.underlying34, rfl, rfl, by as_aux_lemma => kernel_rfl⟩
theorem sz_34 : SizeOk Try.prog 34 3 := by unfold SizeOk; as_aux_lemma => kernel_rfl
theorem zr_34 : ZeroOk Try.prog 34 [.int .i64 0, .int .i64 0, .int .i64 0] := by unfold ZeroOk; as_aux_lemma => kernel_rfl
theorem el_34 : ElemOk Try.prog 34 3 := ElemOk.mk' (by as_aux_lemma => kernel_rfl)
theorem rw_35 : RowOk Try.prog 35 3 := ⟨_, Try.underlying35, rfl, by as_aux_lemma => kernel_rfl⟩
theorem fl_35_0 : FieldOk Try.prog 35 0 0 := ⟨_, _, Try.underlying35, rfl, rfl, by as_aux_lemma => kernel_rfl⟩
theorem fl_35_1 : FieldOk Try.prog 35 1 1 := ⟨_, _, Try.underlying35, rfl, rfl, by as_aux_lemma => kernel_rfl⟩
theorem fl_35_2 : FieldOk Try.prog 35 2 2 := ⟨_, _, Try.underlying35, rfl, rfl, by as_aux_lemma => kernel_rfl⟩
theorem sz_35 : SizeOk Try.prog 35 3 := by unfold SizeOk; as_aux_lemma => kernel_rfl
theorem zr_35 : ZeroOk Try.prog 35 [.int .i64 0, .int .i64 0, .int .i64 0] := by unfold ZeroOk; as_aux_lemma => kernel_rfl
theorem el_35 : ElemOk Try.prog 35 3 := ElemOk.mk' (by as_aux_lemma => kernel_rfl)
theorem rw_36 : RowOk Try.prog 36 3 := ⟨_, Try.underlying36, rfl, by as_aux_lemma => kernel_rfl⟩
theorem fl_36_0 : FieldOk Try.prog 36 0 0 := ⟨_, _, Try.underlying36, rfl, rfl, by as_aux_lemma => kernel_rfl⟩
theorem fl_36_1 : FieldOk Try.prog 36 1 1 := ⟨_, _, Try.underlying36, rfl, rfl, by as_aux_lemma => kernel_rfl⟩
theorem fl_36_2 : FieldOk Try.prog 36 2 2 := ⟨_, _, Try.underlying36, rfl, rfl, by as_aux_lemma => kernel_rfl⟩
theorem sz_36 : SizeOk Try.prog 36 3 := by unfold SizeOk; as_aux_lemma => kernel_rfl
theorem zr_36 : ZeroOk Try.prog 36 [.int .i64 0, .int .i64 0, .int .i64 0] := by unfold ZeroOk; as_aux_lemma => kernel_rfl
theorem el_36 : ElemOk Try.prog 36 3 := ElemOk.mk' (by as_aux_lemma => kernel_rfl)
theorem sc_37 : ScalarOk Try.prog 37 := ⟨_, Try.underlying37, rfl⟩
theorem sz_37 : SizeOk Try.prog 37 1 := by unfold SizeOk; as_aux_lemma => kernel_rfl
theorem zr_37 : ZeroOk Try.prog 37 [.nilFunc] := by unfold ZeroOk; as_aux_lemma => kernel_rfl
theorem el_37 : ElemOk Try.prog 37 1 := ElemOk.mk' (by as_aux_lemma => kernel_rfl)
theorem sc_38 : ScalarOk Try.prog 38 := ⟨_, Try.underlying38, rfl⟩
theorem sz_38 : SizeOk Try.prog 38 1 := by unfold SizeOk; as_aux_lemma => kernel_rfl
theorem zr_38 : ZeroOk Try.prog 38 [.int .i64 0] := by unfold ZeroOk; as_aux_lemma => kernel_rfl
theorem el_38 : ElemOk Try.prog 38 1 := ElemOk.mk' (by as_aux_lemma => kernel_rfl)
theorem sc_39 : ScalarOk Try.prog 39 := ⟨_, Try.underlying39, rfl⟩
theorem sz_39 : SizeOk Try.prog 39 1 := by unfold SizeOk; as_aux_lemma => kernel_rfl
theorem zr_39 : ZeroOk Try.prog 39 [.nilFunc] := by unfold ZeroOk; as_aux_lemma => kernel_rfl
theorem el_39 : ElemOk Try.prog 39 1 := ElemOk.mk' (by as_aux_lemma => kernel_rfl)
theorem sc_40 : ScalarOk Try.prog 40 := ⟨_, Try.underlying40, rfl⟩
theorem sz_40 : SizeOk Try.prog 40 1 := by unfold SizeOk; as_aux_lemma => kernel_rfl
theorem zr_40 : ZeroOk Try.prog 40 [.nilFunc] := by unfold ZeroOk; as_aux_lemma => kernel_rfl
theorem el_40 : ElemOk Try.prog 40 1 := ElemOk.mk' (by as_aux_lemma => kernel_rfl)
theorem sc_41 : ScalarOk Try.prog 41 := ⟨_, Try.underlying41, rfl⟩
theorem sz_41 : SizeOk Try.prog 41 1 := by unfold SizeOk; as_aux_lemma => kernel_rfl
theorem zr_41 : ZeroOk Try.prog 41 [.nilFunc] := by unfold ZeroOk; as_aux_lemma => kernel_rfl
theorem el_41 : ElemOk Try.prog 41 1 := ElemOk.mk' (by as_aux_lemma => kernel_rfl)
theorem sc_42 : ScalarOk Try.prog 42 := ⟨_, Try.underlying42, rfl⟩
theorem sz_42 : SizeOk Try.prog 42 1 := by unfold SizeOk; as_aux_lemma => kernel_rfl
theorem zr_42 : ZeroOk Try.prog 42 [.nilFunc] := by unfold ZeroOk; as_aux_lemma => kernel_rfl
theorem el_42 : ElemOk Try.prog 42 1 := ElemOk.mk' (by as_aux_lemma => kernel_rfl)
theorem sc_43 : ScalarOk Try.prog 43 := ⟨_, Try.underlying43, rfl⟩
theorem sz_43 : SizeOk Try.prog 43 1 := by unfold SizeOk; as_aux_lemma => kernel_rfl
theorem zr_43 : ZeroOk Try.prog 43 [.slice none 0 0] := by unfold ZeroOk; as_aux_lemma => kernel_rfl
theorem el_43 : ElemOk Try.prog 43 1 := ElemOk.mk' (by as_aux_lemma => kernel_rfl)
theorem sc_44 : ScalarOk Try.prog 44 := ⟨_, Try.underlying44, rfl⟩
theorem sz_44 : SizeOk Try.prog 44 1 := by unfold SizeOk; as_aux_lemma => kernel_rfl
theorem zr_44 : ZeroOk Try.prog 44 [.nilFunc] := by unfold ZeroOk; as_aux_lemma => kernel_rfl
theorem el_44 : ElemOk Try.prog 44 1 := ElemOk.mk' (by as_aux_lemma => kernel_rfl)
theorem sc_45 : ScalarOk Try.prog 45 := ⟨_, Try.underlying45, rfl⟩
theorem sz_45 : SizeOk Try.prog 45 1 := by unfold SizeOk; as_aux_lemma => kernel_rfl
theorem zr_45 : ZeroOk Try.prog 45 [.nilFunc] := by unfold ZeroOk; as_aux_lemma => kernel_rfl
theorem el_45 : ElemOk Try.prog 45 1 := ElemOk.mk' (by as_aux_lemma => kernel_rfl)
theorem rw_46 : RowOk Try.prog 46 4 := ⟨_, Try.underlying46, rfl, by as_aux_lemma => kernel_rfl⟩
theorem fl_46_0 : FieldOk Try.prog 46 0 0 := ⟨_, _, Try.underlying46, rfl, rfl, by as_aux_lemma => kernel_rfl⟩
theorem fl_46_1 : FieldOk Try.prog 46 1 1 := ⟨_, _, Try.underlying46, rfl, rfl, by as_aux_lemma => kernel_rfl⟩
theorem fl_46_2 : FieldOk Try.prog 46 2 2 := ⟨_, _, Try.underlying46, rfl, rfl, by as_aux_lemma => kernel_rfl⟩
theorem fl_46_3 : FieldOk Try.prog 46 3 3 := ⟨_, _, Try.underlying46, rfl, rfl, by as_aux_lemma => kernel_rfl⟩
theorem sz_46 : SizeOk Try.prog 46 4 := by unfold SizeOk; as_aux_lemma => kernel_rfl
theorem zr_46 : ZeroOk Try.prog 46 [.int .i64 0, .int .i64 0, .int .i32 0, .bool false] := by unfold ZeroOk; as_aux_lemma => kernel_rfl
theorem el_46 : ElemOk Try.prog 46 4 := ElemOk.mk' (by as_aux_lemma => kernel_rfl)
theorem rw_47 : RowOk Try.prog 47 4 := ⟨_, Try.underlying47, rfl, by as_aux_lemma => kernel_rfl⟩
theorem fl_47_0 : FieldOk Try.prog 47 0 0 := ⟨_, _, Try.underlying47, rfl, rfl, by as_aux_lemma => kernel_rfl⟩
theorem fl_47_1 : FieldOk Try.prog 47 1 1 := ⟨_, _, Try.underlying47, rfl, rfl, by as_aux_lemma => kernel_rfl⟩
theorem fl_47_2 : FieldOk Try.prog 47 2 2 := ⟨_, _, Try.underlying47, rfl, rfl, by as_aux_lemma => kernel_rfl⟩
theorem fl_47_3 : FieldOk Try.prog 47 3 3 := ⟨_, _, Try.underlying47, rfl, rfl, by as_aux_lemma => kernel_rfl⟩
theorem sz_47 : SizeOk Try.prog 47 4 := by unfold SizeOk; as_aux_lemma => kernel_rfl
theorem zr_47 : ZeroOk Try.prog 47 [.int .i64 0, .int .i64 0, .int .i32 0, .bool false] := by unfold ZeroOk; as_aux_lemma => kernel_rfl
theorem el_47 : ElemOk Try.prog 47 4 := ElemOk.mk' (by as_aux_lemma => kernel_rfl)
theorem sc_48 : ScalarOk Try.prog 48 := ⟨_, Try.underlying48, rfl⟩
theorem sz_48 : SizeOk Try.prog 48 1 := by unfold SizeOk; as_aux_lemma => kernel_rfl
theorem zr_48 : ZeroOk Try.prog 48 [.nilFunc] := by unfold ZeroOk; as_aux_lemma => kernel_rfl
theorem el_48 : ElemOk Try.prog 48 1 := ElemOk.mk' (by as_aux_lemma => kernel_rfl)
theorem sc_49 : ScalarOk Try.prog 49 := ⟨_, Try.underlying49, rfl⟩
theorem sz_49 : SizeOk Try.prog 49 1 := by unfold SizeOk; as_aux_lemma => kernel_rfl
theorem zr_49 : ZeroOk Try.prog 49 [.nilFunc] := by unfold ZeroOk; as_aux_lemma => kernel_rfl
theorem el_49 : ElemOk Try.prog 49 1 := ElemOk.mk' (by as_aux_lemma => kernel_rfl)
theorem sc_50 : ScalarOk Try.prog 50 := ⟨_, Try.underlying50, rfl⟩
theorem sz_50 : SizeOk Try.prog 50 1 := by unfold SizeOk; as_aux_lemma => kernel_rfl
theorem zr_50 : ZeroOk Try.prog 50 [.nilFunc] := by unfold ZeroOk; as_aux_lemma => kernel_rfl
theorem el_50 : ElemOk Try.prog 50 1 := ElemOk.mk' (by as_aux_lemma => kernel_rfl)
theorem rw_51 : RowOk Try.prog 51 4 := ⟨_, Try.underlying51, rfl, by as_aux_lemma => kernel_rfl⟩
theorem fl_51_0 : FieldOk Try.prog 51 0 0 := ⟨_, _, Try.underlying51, rfl, rfl, by as_aux_lemma => kernel_rfl⟩
theorem fl_51_1 : FieldOk Try.prog 51 1 1 := ⟨_, _, Try.underlying51, rfl, rfl, by as_aux_lemma => kernel_rfl⟩
theorem fl_51_2 : FieldOk Try.prog 51 2 2 := ⟨_, _, Try.underlying51, rfl, rfl, by as_aux_lemma => kernel_rfl⟩
theorem fl_51_3 : FieldOk Try.prog 51 3 3 := ⟨_, _, Try.underlying51, rfl, rfl, by as_aux_lemma => kernel_rfl⟩
theorem sz_51 : SizeOk Try.prog 51 4 := by unfold SizeOk; as_aux_lemma => kernel_rfl
theorem zr_51 : ZeroOk Try.prog 51 [.int .i64 0, .int .i64 0, .int .i32 0, .bool false] := by unfold ZeroOk; as_aux_lemma => kernel_rfl
theorem el_51 : ElemOk Try.prog 51 4 := ElemOk.mk' (by as_aux_lemma => kernel_rfl)
theorem sc_52 : ScalarOk Try.prog 52 := ⟨_, Try.underlying52, rfl⟩
theorem sz_52 : SizeOk Try.prog 52 1 := by unfold SizeOk; as_aux_lemma => kernel_rfl
theorem zr_52 : ZeroOk Try.prog 52 [.nilFunc] := by unfold ZeroOk; as_aux_lemma => kernel_rfl
theorem el_52 : ElemOk Try.prog 52 1 := ElemOk.mk' (by as_aux_lemma => kernel_rfl)
theorem sc_53 : ScalarOk Try.prog 53 := ⟨_, Try.underlying53, rfl⟩
theorem sz_53 : SizeOk Try.prog 53 1 := by unfold SizeOk; as_aux_lemma => kernel_rfl
theorem zr_53 : ZeroOk Try.prog 53 [.nilFunc] := by unfold ZeroOk; as_aux_lemma => kernel_rfl
theorem el_53 : ElemOk Try.prog 53 1 := ElemOk.mk' (by as_aux_lemma => kernel_rfl)
theorem sc_54 : ScalarOk Try.prog 54 := ⟨_, Try.underlying54, rfl⟩
theorem sz_54 : SizeOk Try.prog 54 1 := by unfold SizeOk; as_aux_lemma => kernel_rfl
theorem zr_54 : ZeroOk Try.prog 54 [.nilFunc] := by unfold ZeroOk; as_aux_lemma => kernel_rfl
theorem el_54 : ElemOk Try.prog 54 1 := ElemOk.mk' (by as_aux_lemma => kernel_rfl)
theorem sc_55 : ScalarOk Try.prog 55 := ⟨_, Try.underlying55, rfl⟩
theorem sz_55 : SizeOk Try.prog 55 1 := by unfold SizeOk; as_aux_lemma => kernel_rfl
theorem zr_55 : ZeroOk Try.prog 55 [.nilFunc] := by unfold ZeroOk; as_aux_lemma => kernel_rfl
theorem el_55 : ElemOk Try.prog 55 1 := ElemOk.mk' (by as_aux_lemma => kernel_rfl)
theorem sc_56 : ScalarOk Try.prog 56 := ⟨_, Try.underlying56, rfl⟩
theorem sz_56 : SizeOk Try.prog 56 1 := by unfold SizeOk; as_aux_lemma => kernel_rfl
theorem zr_56 : ZeroOk Try.prog 56 [.nilFunc] := by unfold ZeroOk; as_aux_lemma => kernel_rfl
theorem el_56 : ElemOk Try.prog 56 1 := ElemOk.mk' (by as_aux_lemma => kernel_rfl)
theorem sc_57 : ScalarOk Try.prog 57 := ⟨_, Try.underlying57, rfl⟩
theorem sz_57 : SizeOk Try.prog 57 1 := by unfold SizeOk; as_aux_lemma => kernel_rfl
theorem zr_57 : ZeroOk Try.prog 57 [.nilFunc] := by unfold ZeroOk; as_aux_lemma => kernel_rfl
theorem el_57 : ElemOk Try.prog 57 1 := ElemOk.mk' (by as_aux_lemma => kernel_rfl)
theorem sc_58 : ScalarOk Try.prog 58 := ⟨_, Try.underlying58, rfl⟩
theorem sz_58 : SizeOk Try.prog 58 1 := by unfold SizeOk; as_aux_lemma => kernel_rfl
theorem zr_58 : ZeroOk Try.prog 58 [.nilFunc] := by unfold ZeroOk; as_aux_lemma => kernel_rfl
theorem el_58 : ElemOk Try.prog 58 1 := ElemOk.mk' (by as_aux_lemma => kernel_rfl)
theorem sc_59 : ScalarOk Try.prog 59 := ⟨_, Try.underlying59, rfl⟩
theorem sz_59 : SizeOk Try.prog 59 1 := by unfold SizeOk; as_aux_lemma => kernel_rfl
theorem zr_59 : ZeroOk Try.prog 59 [.nilFunc] := by unfold ZeroOk; as_aux_lemma => kernel_rfl
theorem el_59 : ElemOk Try.prog 59 1 := ElemOk.mk' (by as_aux_lemma => kernel_rfl)
theorem sc_60 : ScalarOk Try.prog 60 := ⟨_, Try.underlying60, rfl⟩
theorem sz_60 : SizeOk Try.prog 60 1 := by unfold SizeOk; as_aux_lemma => kernel_rfl
theorem zr_60 : ZeroOk Try.prog 60 [.nilFunc] := by unfold ZeroOk; as_aux_lemma => kernel_rfl
theorem el_60 : ElemOk Try.prog 60 1 := ElemOk.mk' (by as_aux_lemma => kernel_rfl)
theorem sc_62 : ScalarOk Try.prog 62 := ⟨_, Try.underlying62, rfl⟩
theorem sz_62 : SizeOk Try.prog 62 1 := by unfold SizeOk; as_aux_lemma => kernel_rfl
theorem zr_62 : ZeroOk Try.prog 62 [.nilFunc] := by unfold ZeroOk; as_aux_lemma => kernel_rfl
theorem el_62 : ElemOk Try.prog 62 1 := ElemOk.mk' (by as_aux_lemma => kernel_rfl)
theorem sc_63 : ScalarOk Try.prog 63 := ⟨_, Try.underlying63, rfl⟩
theorem sz_63 : SizeOk Try.prog 63 1 := by unfold SizeOk; as_aux_lemma => kernel_rfl
theorem zr_63 : ZeroOk Try.prog 63 [.int .i64 0] := by unfold ZeroOk; as_aux_lemma => kernel_rfl
theorem el_63 : ElemOk Try.prog 63 1 := ElemOk.mk' (by as_aux_lemma => kernel_rfl)
theorem sc_64 : ScalarOk Try.prog 64 := ⟨_, Try.underlying64, rfl⟩
theorem sz_64 : SizeOk Try.prog 64 1 := by unfold SizeOk; as_aux_lemma => kernel_rfl
theorem zr_64 : ZeroOk Try.prog 64 [.nilFunc] := by unfold ZeroOk; as_aux_lemma => kernel_rfl
theorem el_64 : ElemOk Try.prog 64 1 := ElemOk.mk' (by as_aux_lemma => kernel_rfl)
theorem sc_65 : ScalarOk Try.prog 65 := ⟨_, Try.underlying65, rfl⟩
theorem sz_65 : SizeOk Try.prog 65 1 := by unfold SizeOk; as_aux_lemma => kernel_rfl
theorem zr_65 : ZeroOk Try.prog 65 [.nilFunc] := by unfold ZeroOk; as_aux_lemma => kernel_rfl
theorem el_65 : ElemOk Try.prog 65 1 := ElemOk.mk' (by as_aux_lemma => kernel_rfl)
theorem sc_66 : ScalarOk Try.prog 66 := ⟨_, Try.underlying66, rfl⟩
theorem sz_66 : SizeOk Try.prog 66 1 := by unfold SizeOk; as_aux_lemma => kernel_rfl
theorem zr_66 : ZeroOk Try.prog 66 [.nilFunc] := by unfold ZeroOk; as_aux_lemma => kernel_rfl
theorem el_66 : ElemOk Try.prog 66 1 := ElemOk.mk' (by as_aux_lemma => kernel_rfl)
theorem sc_67 : ScalarOk Try.prog 67 := ⟨_, Try.underlying67, rfl⟩
theorem sz_67 : SizeOk Try.prog 67 1 := by unfold SizeOk; as_aux_lemma => kernel_rfl
theorem zr_67 : ZeroOk Try.prog 67 [.slice none 0 0] := by unfold ZeroOk; as_aux_lemma => kernel_rfl
theorem el_67 : ElemOk Try.prog 67 1 := ElemOk.mk' (by as_aux_lemma => kernel_rfl)
theorem sc_68 : ScalarOk Try.prog 68 := ⟨_, Try.underlying68, rfl⟩
theorem sz_68 : SizeOk Try.prog 68 1 := by unfold SizeOk; as_aux_lemma => kernel_rfl
theorem zr_68 : ZeroOk Try.prog 68 [.nilFunc] := by unfold ZeroOk; as_aux_lemma => kernel_rfl
theorem el_68 : ElemOk Try.prog 68 1 := ElemOk.mk' (by as_aux_lemma => kernel_rfl)
theorem sc_69 : ScalarOk Try.prog 69 := ⟨_, Try.underlying69, rfl⟩
theorem sz_69 : SizeOk Try.prog 69 1 := by unfold SizeOk; as_aux_lemma => kernel_rfl
theorem zr_69 : ZeroOk Try.prog 69 [.nilFunc] := by unfold ZeroOk; as_aux_lemma => kernel_rfl
theorem el_69 : ElemOk Try.prog 69 1 := ElemOk.mk' (by as_aux_lemma => kernel_rfl)
theorem sc_71 : ScalarOk Try.prog 71 := ⟨_, Try.underlying71, rfl⟩
theorem sz_71 : SizeOk Try.prog 71 1 := by unfold SizeOk; as_aux_lemma => kernel_rfl
theorem zr_71 : ZeroOk Try.prog 71 [.nilFunc] := by unfold ZeroOk; as_aux_lemma => kernel_rfl
theorem el_71 : ElemOk Try.prog 71 1 := ElemOk.mk' (by as_aux_lemma => kernel_rfl)
theorem sc_72 : ScalarOk Try.prog 72 := ⟨_, Try.underlying72, rfl⟩
theorem sz_72 : SizeOk Try.prog 72 1 := by unfold SizeOk; as_aux_lemma => kernel_rfl
theorem zr_72 : ZeroOk Try.prog 72 [.nilFunc] := by unfold ZeroOk; as_aux_lemma => kernel_rfl
theorem el_72 : ElemOk Try.prog 72 1 := ElemOk.mk' (by as_aux_lemma => kernel_rfl)
theorem sc_73 : ScalarOk Try.prog 73 := ⟨_, Try.underlying73, rfl⟩
theorem sz_73 : SizeOk Try.prog 73 1 := by unfold SizeOk; as_aux_lemma => kernel_rfl
theorem zr_73 : ZeroOk Try.prog 73 [.nilFunc] := by unfold ZeroOk; as_aux_lemma => kernel_rfl
theorem el_73 : ElemOk Try.prog 73 1 := ElemOk.mk' (by as_aux_lemma => kernel_rfl)
theorem sc_74 : ScalarOk Try.prog 74 := ⟨_, Try.underlying74, rfl⟩
theorem sz_74 : SizeOk Try.prog 74 1 := by unfold SizeOk; as_aux_lemma => kernel_rfl
theorem zr_74 : ZeroOk Try.prog 74 [.nilFunc] := by unfold ZeroOk; as_aux_lemma => kernel_rfl
theorem el_74 : ElemOk Try.prog 74 1 := ElemOk.mk' (by as_aux_lemma => kernel_rfl)
theorem sc_75 : ScalarOk Try.prog 75 := ⟨_, Try.underlying75, rfl⟩
theorem sz_75 : SizeOk Try.prog 75 1 := by unfold SizeOk; as_aux_lemma => kernel_rfl
theorem zr_75 : ZeroOk Try.prog 75 [.nilFunc] := by unfold ZeroOk; as_aux_lemma => kernel_rfl
theorem el_75 : ElemOk Try.prog 75 1 := ElemOk.mk' (by as_aux_lemma => kernel_rfl)
theorem sc_76 : ScalarOk Try.prog 76 := ⟨_, Try.underlying76, rfl⟩
theorem sz_76 : SizeOk Try.prog 76 1 := by unfold SizeOk; as_aux_lemma => kernel_rfl
theorem zr_76 : ZeroOk Try.prog 76 [.pointer none] := by unfold ZeroOk; as_aux_lemma => kernel_rfl
theorem el_76 : ElemOk Try.prog 76 1 := ElemOk.mk' (by as_aux_lemma => kernel_rfl)
theorem rw_77 : RowOk Try.prog 77 2 := ⟨_, Try.underlying77, rfl, by as_aux_lemma => kernel_rfl⟩
theorem fl_77_0 : FieldOk Try.prog 77 0 0 := ⟨_, _, Try.underlying77, rfl, rfl, by as_aux_lemma => kernel_rfl⟩
theorem fl_77_1 : FieldOk Try.prog 77 1 1 := ⟨_, _, Try.underlying77, rfl, rfl, by as_aux_lemma => kernel_rfl⟩
theorem sz_77 : SizeOk Try.prog 77 2 := by unfold SizeOk; as_aux_lemma => kernel_rfl
theorem zr_77 : ZeroOk Try.prog 77 [.pointer none, .slice none 0 0] := by unfold ZeroOk; as_aux_lemma => kernel_rfl
theorem el_77 : ElemOk Try.prog 77 2 := ElemOk.mk' (by as_aux_lemma => kernel_rfl)
theorem rw_78 : RowOk Try.prog 78 2 := ⟨_, Try.underlying78, rfl, by as_aux_lemma => kernel_rfl⟩
theorem fl_78_0 : FieldOk Try.prog 78 0 0 := ⟨_, _, Try.underlying78, rfl, rfl, by as_aux_lemma => kernel_rfl⟩
theorem fl_78_1 : FieldOk Try.prog 78 1 1 := ⟨_, _, Try.underlying78, rfl, rfl, by as_aux_lemma => kernel_rfl⟩
theorem sz_78 : SizeOk Try.prog 78 2 := by unfold SizeOk; as_aux_lemma => kernel_rfl
theorem zr_78 : ZeroOk Try.prog 78 [.pointer none, .slice none 0 0] := by unfold ZeroOk; as_aux_lemma => kernel_rfl
theorem el_78 : ElemOk Try.prog 78 2 := ElemOk.mk' (by as_aux_lemma => kernel_rfl)
theorem sc_82 : ScalarOk Try.prog 82 := ⟨_, Try.underlying82, rfl⟩
theorem sz_82 : SizeOk Try.prog 82 1 := by unfold SizeOk; as_aux_lemma => kernel_rfl
theorem zr_82 : ZeroOk Try.prog 82 [.nilFunc] := by unfold ZeroOk; as_aux_lemma => kernel_rfl
theorem el_82 : ElemOk Try.prog 82 1 := ElemOk.mk' (by as_aux_lemma => kernel_rfl)
theorem sc_83 : ScalarOk Try.prog 83 := ⟨_, Try.underlying83, rfl⟩
theorem sz_83 : SizeOk Try.prog 83 1 := by unfold SizeOk; as_aux_lemma => kernel_rfl
theorem zr_83 : ZeroOk Try.prog 83 [.nilFunc] := by unfold ZeroOk; as_aux_lemma => kernel_rfl
theorem el_83 : ElemOk Try.prog 83 1 := ElemOk.mk' (by as_aux_lemma => kernel_rfl)
theorem sc_84 : ScalarOk Try.prog 84 := ⟨_, Try.underlying84, rfl⟩
theorem sz_84 : SizeOk Try.prog 84 1 := by unfold SizeOk; as_aux_lemma => kernel_rfl
theorem zr_84 : ZeroOk Try.prog 84 [.pointer none] := by unfold ZeroOk; as_aux_lemma => kernel_rfl
theorem el_84 : ElemOk Try.prog 84 1 := ElemOk.mk' (by as_aux_lemma => kernel_rfl)
theorem sc_85 : ScalarOk Try.prog 85 := ⟨_, Try.underlying85, rfl⟩
theorem sz_85 : SizeOk Try.prog 85 1 := by unfold SizeOk; as_aux_lemma => kernel_rfl
theorem zr_85 : ZeroOk Try.prog 85 [.pointer none] := by unfold ZeroOk; as_aux_lemma => kernel_rfl
theorem el_85 : ElemOk Try.prog 85 1 := ElemOk.mk' (by as_aux_lemma => kernel_rfl)
theorem sc_86 : ScalarOk Try.prog 86 := ⟨_, Try.underlying86, rfl⟩
theorem sz_86 : SizeOk Try.prog 86 1 := by unfold SizeOk; as_aux_lemma => kernel_rfl
theorem zr_86 : ZeroOk Try.prog 86 [.nilFunc] := by unfold ZeroOk; as_aux_lemma => kernel_rfl
theorem el_86 : ElemOk Try.prog 86 1 := ElemOk.mk' (by as_aux_lemma => kernel_rfl)
theorem rw_87 : RowOk Try.prog 87 4 := ⟨_, Try.underlying87, rfl, by as_aux_lemma => kernel_rfl⟩
theorem fl_87_0 : FieldOk Try.prog 87 0 0 := ⟨_, _, Try.underlying87, rfl, rfl, by as_aux_lemma => kernel_rfl⟩
theorem fl_87_1 : FieldOk Try.prog 87 1 1 := ⟨_, _, Try.underlying87, rfl, rfl, by as_aux_lemma => kernel_rfl⟩
theorem fl_87_2 : FieldOk Try.prog 87 2 2 := ⟨_, _, Try.underlying87, rfl, rfl, by as_aux_lemma => kernel_rfl⟩
theorem fl_87_3 : FieldOk Try.prog 87 3 3 := ⟨_, _, Try.underlying87, rfl, rfl, by as_aux_lemma => kernel_rfl⟩
theorem sz_87 : SizeOk Try.prog 87 4 := by unfold SizeOk; as_aux_lemma => kernel_rfl
theorem zr_87 : ZeroOk Try.prog 87 [.pointer none, .pointer none, .pointer none, .string ByteArray.empty] := by unfold ZeroOk; as_aux_lemma => kernel_rfl
theorem el_87 : ElemOk Try.prog 87 4 := ElemOk.mk' (by as_aux_lemma => kernel_rfl)
theorem rw_88 : RowOk Try.prog 88 4 := ⟨_, Try.underlying88, rfl, by as_aux_lemma => kernel_rfl⟩
theorem fl_88_0 : FieldOk Try.prog 88 0 0 := ⟨_, _, Try.underlying88, rfl, rfl, by as_aux_lemma => kernel_rfl⟩
theorem fl_88_1 : FieldOk Try.prog 88 1 1 := ⟨_, _, Try.underlying88, rfl, rfl, by as_aux_lemma => kernel_rfl⟩
theorem fl_88_2 : FieldOk Try.prog 88 2 2 := ⟨_, _, Try.underlying88, rfl, rfl, by as_aux_lemma => kernel_rfl⟩
theorem fl_88_3 : FieldOk Try.prog 88 3 3 := ⟨_, _, Try.underlying88, rfl, rfl, by as_aux_lemma => kernel_rfl⟩
theorem sz_88 : SizeOk Try.prog 88 4 := by unfold SizeOk; as_aux_lemma => kernel_rfl
theorem zr_88 : ZeroOk Try.prog 88 [.pointer none, .pointer none, .pointer none, .string ByteArray.empty] := by unfold ZeroOk; as_aux_lemma => kernel_rfl
theorem el_88 : ElemOk Try.prog 88 4 := ElemOk.mk' (by as_aux_lemma => kernel_rfl)
theorem sz_89 : SizeOk Try.prog 89 0 := by unfold SizeOk; as_aux_lemma => kernel_rfl
theorem sz_90 : SizeOk Try.prog 90 0 := by unfold SizeOk; as_aux_lemma => kernel_rfl
theorem sz_91 : SizeOk Try.prog 91 0 := by unfold SizeOk; as_aux_lemma => kernel_rfl
theorem sc_92 : ScalarOk Try.prog 92 := ⟨_, Try.underlying92, rfl⟩
theorem sz_92 : SizeOk Try.prog 92 1 := by unfold SizeOk; as_aux_lemma => kernel_rfl
theorem zr_92 : ZeroOk Try.prog 92 [.nilFunc] := by unfold ZeroOk; as_aux_lemma => kernel_rfl
theorem el_92 : ElemOk Try.prog 92 1 := ElemOk.mk' (by as_aux_lemma => kernel_rfl)
theorem sc_93 : ScalarOk Try.prog 93 := ⟨_, Try.underlying93, rfl⟩
theorem sz_93 : SizeOk Try.prog 93 1 := by unfold SizeOk; as_aux_lemma => kernel_rfl
theorem zr_93 : ZeroOk Try.prog 93 [.int .u32 0] := by unfold ZeroOk; as_aux_lemma => kernel_rfl
theorem el_93 : ElemOk Try.prog 93 1 := ElemOk.mk' (by as_aux_lemma => kernel_rfl)
theorem sc_94 : ScalarOk Try.prog 94 := ⟨_, Try.underlying94, rfl⟩
theorem sz_94 : SizeOk Try.prog 94 1 := by unfold SizeOk; as_aux_lemma => kernel_rfl
theorem zr_94 : ZeroOk Try.prog 94 [.int .u8 0] := by unfold ZeroOk; as_aux_lemma => kernel_rfl
theorem el_94 : ElemOk Try.prog 94 1 := ElemOk.mk' (by as_aux_lemma => kernel_rfl)
theorem by_94 : ByteOk Try.prog 94 := ByteOk.mk' (by as_aux_lemma => kernel_rfl)
theorem sc_95 : ScalarOk Try.prog 95 := ⟨_, Try.underlying95, rfl⟩
theorem sz_95 : SizeOk Try.prog 95 1 := by unfold SizeOk; as_aux_lemma => kernel_rfl
theorem zr_95 : ZeroOk Try.prog 95 [.int .u8 0] := by unfold ZeroOk; as_aux_lemma => kernel_rfl
theorem el_95 : ElemOk Try.prog 95 1 := ElemOk.mk' (by as_aux_lemma => kernel_rfl)
theorem by_95 : ByteOk Try.prog 95 := ByteOk.mk' (by as_aux_lemma => kernel_rfl)
theorem sc_96 : ScalarOk Try.prog 96 := ⟨_, Try.underlying96, rfl⟩
theorem sz_96 : SizeOk Try.prog 96 1 := by unfold SizeOk; as_aux_lemma => kernel_rfl
theorem zr_96 : ZeroOk Try.prog 96 [.nilFunc] := by unfold ZeroOk; as_aux_lemma => kernel_rfl
theorem el_96 : ElemOk Try.prog 96 1 := ElemOk.mk' (by as_aux_lemma => kernel_rfl)
theorem sc_97 : ScalarOk Try.prog 97 := ⟨_, Try.underlying97, rfl⟩
theorem sz_97 : SizeOk Try.prog 97 1 := by unfold SizeOk; as_aux_lemma => kernel_rfl
theorem zr_97 : ZeroOk Try.prog 97 [.int .i32 0] := by unfold ZeroOk; as_aux_lemma => kernel_rfl
theorem el_97 : ElemOk Try.prog 97 1 := ElemOk.mk' (by as_aux_lemma => kernel_rfl)
theorem sc_98 : ScalarOk Try.prog 98 := ⟨_, Try.underlying98, rfl⟩
theorem sz_98 : SizeOk Try.prog 98 1 := by unfold SizeOk; as_aux_lemma => kernel_rfl
theorem zr_98 : ZeroOk Try.prog 98 [.int .i32 0] := by unfold ZeroOk; as_aux_lemma => kernel_rfl
theorem el_98 : ElemOk Try.prog 98 1 := ElemOk.mk' (by as_aux_lemma => kernel_rfl)
theorem rw_99 : RowOk Try.prog 99 11 := ⟨_, Try.underlying99, rfl, by as_aux_lemma => kernel_rfl⟩
theorem fl_99_0 : FieldOk Try.prog 99 0 0 := ⟨_, _, Try.underlying99, rfl, rfl, by as_aux_lemma => kernel_rfl⟩
theorem fl_99_1 : FieldOk Try.prog 99 1 1 := ⟨_, _, Try.underlying99, rfl, rfl, by as_aux_lemma => kernel_rfl⟩
theorem fl_99_2 : FieldOk Try.prog 99 2 2 := ⟨_, _, Try.underlying99, rfl, rfl, by as_aux_lemma => kernel_rfl⟩
theorem fl_99_3 : FieldOk Try.prog 99 3 3 := ⟨_, _, Try.underlying99, rfl, rfl, by as_aux_lemma => kernel_rfl⟩
theorem fl_99_4 : FieldOk Try.prog 99 4 4 := ⟨_, _, Try.underlying99, rfl, rfl, by as_aux_lemma => kernel_rfl⟩
theorem fl_99_5 : FieldOk Try.prog 99 5 5 := ⟨_, _, Try.underlying99, rfl, rfl, by as_aux_lemma => kernel_rfl⟩
theorem fl_99_6 : FieldOk Try.prog 99 6 6 := ⟨_, _, Try.underlying99, rfl, rfl, by as_aux_lemma => kernel_rfl⟩
theorem fl_99_7 : FieldOk Try.prog 99 7 7 := ⟨_, _, Try.underlying99, rfl, rfl, by as_aux_lemma => kernel_rfl⟩
theorem fl_99_8 : FieldOk Try.prog 99 8 8 := ⟨_, _, Try.underlying99, rfl, rfl, by as_aux_lemma => kernel_rfl⟩
theorem fl_99_9 : FieldOk Try.prog 99 9 9 := ⟨_, _, Try.underlying99, rfl, rfl, by as_aux_lemma => kernel_rfl⟩
theorem fl_99_10 : FieldOk Try.prog 99 10 10 := ⟨_, _, Try.underlying99, rfl, rfl, by as_aux_lemma => kernel_rfl⟩
theorem sz_99 : SizeOk Try.prog 99 11 := by unfold SizeOk; as_aux_lemma => kernel_rfl
theorem zr_99 : ZeroOk Try.prog 99 [.int .u64 0, .int .u64 0, .int .u32 0, .int .u8 0, .int .u8 0, .int .u8 0, .int .u8 0, .nilFunc, .pointer none, .int .i32 0, .int .i32 0] := by unfold ZeroOk; as_aux_lemma => kernel_rfl
theorem el_99 : ElemOk Try.prog 99 11 := ElemOk.mk' (by as_aux_lemma => kernel_rfl)
theorem rw_100 : RowOk Try.prog 100 11 := ⟨_, Try.underlying100, rfl, by as_aux_lemma => kernel_rfl⟩
theorem fl_100_0 : FieldOk Try.prog 100 0 0 := ⟨_, _, Try.underlying100, rfl, rfl, by as_aux_lemma => kernel_rfl⟩
theorem fl_100_1 : FieldOk Try.prog 100 1 1 := ⟨_, _, Try.underlying100, rfl, rfl, by as_aux_lemma => kernel_rfl⟩
theorem fl_100_2 : FieldOk Try.prog 100 2 2 := ⟨_, _, Try.underlying100, rfl, rfl, by as_aux_lemma => kernel_rfl⟩
theorem fl_100_3 : FieldOk Try.prog 100 3 3 := ⟨_, _, Try.underlying100, rfl, rfl, by as_aux_lemma => kernel_rfl⟩
theorem fl_100_4 : FieldOk Try.prog 100 4 4 := ⟨_, _, Try.underlying100, rfl, rfl, by as_aux_lemma => kernel_rfl⟩
theorem fl_100_5 : FieldOk Try.prog 100 5 5 := ⟨_, _, Try.underlying100, rfl, rfl, by as_aux_lemma => kernel_rfl⟩
theorem fl_100_6 : FieldOk Try.prog 100 6 6 := ⟨_, _, Try.underlying100, rfl, rfl, by as_aux_lemma => kernel_rfl⟩
theorem fl_100_7 : FieldOk Try.prog 100 7 7 := ⟨_, _, Try.underlying100, rfl, rfl, by as_aux_lemma => kernel_rfl⟩
theorem fl_100_8 : FieldOk Try.prog 100 8 8 := ⟨_, _, Try.underlying100, rfl, rfl, by as_aux_lemma => kernel_rfl⟩
theorem fl_100_9 : FieldOk Try.prog 100 9 9 := ⟨_, _, Try.underlying100, rfl, rfl, by as_aux_lemma => kernel_rfl⟩
theorem fl_100_10 : FieldOk Try.prog 100 10 10 := ⟨_, _, Try.underlying100, rfl, rfl, by as_aux_lemma => kernel_rfl⟩
theorem sz_100 : SizeOk Try.prog 100 11 := by unfold SizeOk; as_aux_lemma => kernel_rfl
theorem zr_100 : ZeroOk Try.prog 100 [.int .u64 0, .int .u64 0, .int .u32 0, .int .u8 0, .int .u8 0, .int .u8 0, .int .u8 0, .nilFunc, .pointer none, .int .i32 0, .int .i32 0] := by unfold ZeroOk; as_aux_lemma => kernel_rfl
theorem el_100 : ElemOk Try.prog 100 11 := ElemOk.mk' (by as_aux_lemma => kernel_rfl)
theorem en_2 : ∀ args w, (callFunc 2 args).run Try.prog w = .ok (.enter 2 args) w := enters_of Try.func2 (by as_aux_lemma => kernel_rfl) rfl
theorem en_3 : ∀ args w, (callFunc 3 args).run Try.prog w = .ok (.enter 3 args) w := enters_of Try.func3 (by as_aux_lemma => kernel_rfl) rfl
theorem en_4 : ∀ args w, (callFunc 4 args).run Try.prog w = .ok (.enter 4 args) w := enters_of Try.func4 (by as_aux_lemma => kernel_rfl) rfl
theorem en_5 : ∀ args w, (callFunc 5 args).run Try.prog w = .ok (.enter 5 args) w := enters_of Try.func5 (by as_aux_lemma => kernel_rfl) rfl
theorem en_6 : ∀ args w, (callFunc 6 args).run Try.prog w = .ok (.enter 6 args) w := enters_of Try.func6 (by as_aux_lemma => kernel_rfl) rfl
theorem en_7 : ∀ args w, (callFunc 7 args).run Try.prog w = .ok (.enter 7 args) w := enters_of Try.func7 (by as_aux_lemma => kernel_rfl) rfl
theorem en_8 : ∀ args w, (callFunc 8 args).run Try.prog w = .ok (.enter 8 args) w := enters_of Try.func8 (by as_aux_lemma => kernel_rfl) rfl
theorem en_9 : ∀ args w, (callFunc 9 args).run Try.prog w = .ok (.enter 9 args) w := enters_of Try.func9 (by as_aux_lemma => kernel_rfl) rfl
theorem en_10 : ∀ args w, (callFunc 10 args).run Try.prog w = .ok (.enter 10 args) w := enters_of Try.func10 (by as_aux_lemma => kernel_rfl) rfl
theorem en_11 : ∀ args w, (callFunc 11 args).run Try.prog w = .ok (.enter 11 args) w := enters_of Try.func11 (by as_aux_lemma => kernel_rfl) rfl
theorem en_12 : ∀ args w, (callFunc 12 args).run Try.prog w = .ok (.enter 12 args) w := enters_of Try.func12 (by as_aux_lemma => kernel_rfl) rfl
theorem en_13 : ∀ args w, (callFunc 13 args).run Try.prog w = .ok (.enter 13 args) w := enters_of Try.func13 (by as_aux_lemma => kernel_rfl) rfl
theorem en_14 : ∀ args w, (callFunc 14 args).run Try.prog w = .ok (.enter 14 args) w := enters_of Try.func14 (by as_aux_lemma => kernel_rfl) rfl
theorem en_15 : ∀ args w, (callFunc 15 args).run Try.prog w = .ok (.enter 15 args) w := enters_of Try.func15 (by as_aux_lemma => kernel_rfl) rfl
theorem en_16 : ∀ args w, (callFunc 16 args).run Try.prog w = .ok (.enter 16 args) w := enters_of Try.func16 (by as_aux_lemma => kernel_rfl) rfl
theorem en_17 : ∀ args w, (callFunc 17 args).run Try.prog w = .ok (.enter 17 args) w := enters_of Try.func17 (by as_aux_lemma => kernel_rfl) rfl
theorem en_18 : ∀ args w, (callFunc 18 args).run Try.prog w = .ok (.enter 18 args) w := enters_of Try.func18 (by as_aux_lemma => kernel_rfl) rfl
theorem en_19 : ∀ args w, (callFunc 19 args).run Try.prog w = .ok (.enter 19 args) w := enters_of Try.func19 (by as_aux_lemma => kernel_rfl) rfl
theorem en_20 : ∀ args w, (callFunc 20 args).run Try.prog w = .ok (.enter 20 args) w := enters_of Try.func20 (by as_aux_lemma => kernel_rfl) rfl
theorem en_21 : ∀ args w, (callFunc 21 args).run Try.prog w = .ok (.enter 21 args) w := enters_of Try.func21 (by as_aux_lemma => kernel_rfl) rfl
theorem en_22 : ∀ args w, (callFunc 22 args).run Try.prog w = .ok (.enter 22 args) w := enters_of Try.func22 (by as_aux_lemma => kernel_rfl) rfl
theorem en_23 : ∀ args w, (callFunc 23 args).run Try.prog w = .ok (.enter 23 args) w := enters_of Try.func23 (by as_aux_lemma => kernel_rfl) rfl
theorem en_24 : ∀ args w, (callFunc 24 args).run Try.prog w = .ok (.enter 24 args) w := enters_of Try.func24 (by as_aux_lemma => kernel_rfl) rfl
theorem en_25 : ∀ args w, (callFunc 25 args).run Try.prog w = .ok (.enter 25 args) w := enters_of Try.func25 (by as_aux_lemma => kernel_rfl) rfl
theorem en_26 : ∀ args w, (callFunc 26 args).run Try.prog w = .ok (.enter 26 args) w := enters_of Try.func26 (by as_aux_lemma => kernel_rfl) rfl
theorem en_27 : ∀ args w, (callFunc 27 args).run Try.prog w = .ok (.enter 27 args) w := enters_of Try.func27 (by as_aux_lemma => kernel_rfl) rfl
theorem en_28 : ∀ args w, (callFunc 28 args).run Try.prog w = .ok (.enter 28 args) w := enters_of Try.func28 (by as_aux_lemma => kernel_rfl) rfl
theorem en_29 : ∀ args w, (callFunc 29 args).run Try.prog w = .ok (.enter 29 args) w := enters_of Try.func29 (by as_aux_lemma => kernel_rfl) rfl
theorem en_30 : ∀ args w, (callFunc 30 args).run Try.prog w = .ok (.enter 30 args) w := enters_of Try.func30 (by as_aux_lemma => kernel_rfl) rfl
theorem en_31 : ∀ args w, (callFunc 31 args).run Try.prog w = .ok (.enter 31 args) w := enters_of Try.func31 (by as_aux_lemma => kernel_rfl) rfl
theorem en_32 : ∀ args w, (callFunc 32 args).run Try.prog w = .ok (.enter 32 args) w := enters_of Try.func32 (by as_aux_lemma => kernel_rfl) rfl
theorem en_33 : ∀ args w, (callFunc 33 args).run Try.prog w = .ok (.enter 33 args) w := enters_of Try.func33 (by as_aux_lemma => kernel_rfl) rfl
theorem en_34 : ∀ args w, (callFunc 34 args).run Try.prog w = .ok (.enter 34 args) w := enters_of Try.func34 (by as_aux_lemma => kernel_rfl) rfl
theorem en_35 : ∀ args w, (callFunc 35 args).run Try.prog w = .ok (.enter 35 args) w := enters_of Try.func35 (by as_aux_lemma => kernel_rfl) rfl
theorem en_36 : ∀ args w, (callFunc 36 args).run Try.prog w = .ok (.enter 36 args) w := enters_of Try.func36 (by as_aux_lemma => kernel_rfl) rfl
theorem en_37 : ∀ args w, (callFunc 37 args).run Try.prog w = .ok (.enter 37 args) w := enters_of Try.func37 (by as_aux_lemma => kernel_rfl) rfl
theorem en_38 : ∀ args w, (callFunc 38 args).run Try.prog w = .ok (.enter 38 args) w := enters_of Try.func38 (by as_aux_lemma => kernel_rfl) rfl
theorem en_39 : ∀ args w, (callFunc 39 args).run Try.prog w = .ok (.enter 39 args) w := enters_of Try.func39 (by as_aux_lemma => kernel_rfl) rfl
theorem en_40 : ∀ args w, (callFunc 40 args).run Try.prog w = .ok (.enter 40 args) w := enters_of Try.func40 (by as_aux_lemma => kernel_rfl) rfl
theorem en_41 : ∀ args w, (callFunc 41 args).run Try.prog w = .ok (.enter 41 args) w := enters_of Try.func41 (by as_aux_lemma => kernel_rfl) rfl
theorem en_42 : ∀ args w, (callFunc 42 args).run Try.prog w = .ok (.enter 42 args) w := enters_of Try.func42 (by as_aux_lemma => kernel_rfl) rfl
theorem en_43 : ∀ args w, (callFunc 43 args).run Try.prog w = .ok (.enter 43 args) w := enters_of Try.func43 (by as_aux_lemma => kernel_rfl) rfl
theorem en_44 : ∀ args w, (callFunc 44 args).run Try.prog w = .ok (.enter 44 args) w := enters_of Try.func44 (by as_aux_lemma => kernel_rfl) rfl
theorem en_45 : ∀ args w, (callFunc 45 args).run Try.prog w = .ok (.enter 45 args) w := enters_of Try.func45 (by as_aux_lemma => kernel_rfl) rfl
theorem en_46 : ∀ args w, (callFunc 46 args).run Try.prog w = .ok (.enter 46 args) w := enters_of Try.func46 (by as_aux_lemma => kernel_rfl) rfl
theorem en_47 : ∀ args w, (callFunc 47 args).run Try.prog w = .ok (.enter 47 args) w := enters_of Try.func47 (by as_aux_lemma => kernel_rfl) rfl
theorem en_48 : ∀ args w, (callFunc 48 args).run Try.prog w = .ok (.enter 48 args) w := enters_of Try.func48 (by as_aux_lemma => kernel_rfl) rfl
theorem en_49 : ∀ args w, (callFunc 49 args).run Try.prog w = .ok (.enter 49 args) w := enters_of Try.func49 (by as_aux_lemma => kernel_rfl) rfl
theorem en_50 : ∀ args w, (callFunc 50 args).run Try.prog w = .ok (.enter 50 args) w := enters_of Try.func50 (by as_aux_lemma => kernel_rfl) rfl
theorem en_51 : ∀ args w, (callFunc 51 args).run Try.prog w = .ok (.enter 51 args) w := enters_of Try.func51 (by as_aux_lemma => kernel_rfl) rfl
theorem en_52 : ∀ args w, (callFunc 52 args).run Try.prog w = .ok (.enter 52 args) w := enters_of Try.func52 (by as_aux_lemma => kernel_rfl) rfl
theorem en_53 : ∀ args w, (callFunc 53 args).run Try.prog w = .ok (.enter 53 args) w := enters_of Try.func53 (by as_aux_lemma => kernel_rfl) rfl
theorem en_54 : ∀ args w, (callFunc 54 args).run Try.prog w = .ok (.enter 54 args) w := enters_of Try.func54 (by as_aux_lemma => kernel_rfl) rfl
theorem en_55 : ∀ args w, (callFunc 55 args).run Try.prog w = .ok (.enter 55 args) w := enters_of Try.func55 (by as_aux_lemma => kernel_rfl) rfl
theorem en_56 : ∀ args w, (callFunc 56 args).run Try.prog w = .ok (.enter 56 args) w := enters_of Try.func56 (by as_aux_lemma => kernel_rfl) rfl
theorem en_57 : ∀ args w, (callFunc 57 args).run Try.prog w = .ok (.enter 57 args) w := enters_of Try.func57 (by as_aux_lemma => kernel_rfl) rfl
theorem en_58 : ∀ args w, (callFunc 58 args).run Try.prog w = .ok (.enter 58 args) w := enters_of Try.func58 (by as_aux_lemma => kernel_rfl) rfl
theorem en_59 : ∀ args w, (callFunc 59 args).run Try.prog w = .ok (.enter 59 args) w := enters_of Try.func59 (by as_aux_lemma => kernel_rfl) rfl
theorem en_60 : ∀ args w, (callFunc 60 args).run Try.prog w = .ok (.enter 60 args) w := enters_of Try.func60 (by as_aux_lemma => kernel_rfl) rfl
theorem en_61 : ∀ args w, (callFunc 61 args).run Try.prog w = .ok (.enter 61 args) w := enters_of Try.func61 (by as_aux_lemma => kernel_rfl) rfl
theorem en_62 : ∀ args w, (callFunc 62 args).run Try.prog w = .ok (.enter 62 args) w := enters_of Try.func62 (by as_aux_lemma => kernel_rfl) rfl
theorem en_63 : ∀ args w, (callFunc 63 args).run Try.prog w = .ok (.enter 63 args) w := enters_of Try.func63 (by as_aux_lemma => kernel_rfl) rfl
theorem en_64 : ∀ args w, (callFunc 64 args).run Try.prog w = .ok (.enter 64 args) w := enters_of Try.func64 (by as_aux_lemma => kernel_rfl) rfl
theorem en_65 : ∀ args w, (callFunc 65 args).run Try.prog w = .ok (.enter 65 args) w := enters_of Try.func65 (by as_aux_lemma => kernel_rfl) rfl
theorem en_66 : ∀ args w, (callFunc 66 args).run Try.prog w = .ok (.enter 66 args) w := enters_of Try.func66 (by as_aux_lemma => kernel_rfl) rfl
theorem en_67 : ∀ args w, (callFunc 67 args).run Try.prog w = .ok (.enter 67 args) w := enters_of Try.func67 (by as_aux_lemma => kernel_rfl) rfl
theorem en_68 : ∀ args w, (callFunc 68 args).run Try.prog w = .ok (.enter 68 args) w := enters_of Try.func68 (by as_aux_lemma => kernel_rfl) rfl
theorem en_69 : ∀ args w, (callFunc 69 args).run Try.prog w = .ok (.enter 69 args) w := enters_of Try.func69 (by as_aux_lemma => kernel_rfl) rfl
theorem en_70 : ∀ args w, (callFunc 70 args).run Try.prog w = .ok (.enter 70 args) w := enters_of Try.func70 (by as_aux_lemma => kernel_rfl) rfl
theorem en_71 : ∀ args w, (callFunc 71 args).run Try.prog w = .ok (.enter 71 args) w := enters_of Try.func71 (by as_aux_lemma => kernel_rfl) rfl
theorem en_72 : ∀ args w, (callFunc 72 args).run Try.prog w = .ok (.enter 72 args) w := enters_of Try.func72 (by as_aux_lemma => kernel_rfl) rfl
theorem en_73 : ∀ args w, (callFunc 73 args).run Try.prog w = .ok (.enter 73 args) w := enters_of Try.func73 (by as_aux_lemma => kernel_rfl) rfl
theorem en_74 : ∀ args w, (callFunc 74 args).run Try.prog w = .ok (.enter 74 args) w := enters_of Try.func74 (by as_aux_lemma => kernel_rfl) rfl
theorem mixed : Try.prog.follows .mixedOrders = true := by as_aux_lemma => kernel_rfl
end Go.Proofs.Ytekjfmjeemjcjaa
