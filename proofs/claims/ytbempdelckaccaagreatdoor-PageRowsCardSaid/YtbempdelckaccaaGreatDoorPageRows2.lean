/-
  Texts laid together: Tab, Lt, Pcs, Tok, PlA, Ql, PlB, Ob, Vs, PcW, Cls, ClsW, ClsW2, SeqW, RefPcs, Runs, C0, Vow, RefW, RefW3, Ro, Shf, Sf, Op, Ir, Rq, Lr, Bytes, Bld, Gr, Bn, Ar, Cr, Shg, Pw, Sh. Nothing is assumed.
-/
import Derived.Test.YtbempdelckaccaaGreatDoorPageRows1
import Derived.Test.YtbempdelckaccaaGreatDoorProg
import Derived.Shelf.Abstract
import Derived.Shelf.Strings.Builder1
import Derived.Shelf.Strings.Builder2
import Derived.Shelf.Strings.Trim
import Derived.Shelf.Small.Utf8
import Derived.Shelf.Small.Strs
import Derived.Shelf.Strings.BuilderF
import Derived.Shelf.Strings.Search1
import Derived.Shelf.Strings.Prefix
import Derived.Shelf.Strings.Runes
import Derived.Shelf.Strings.IndexAny
import Derived.Shelf.Strings.AsciiSet
import Derived.Shelf.Strings.IndexAnyAll
import Derived.Shelf.Bits.Mul64
import Derived.Shelf.Strings.Repeat
import Derived.Shelf.Unicode.DecodeSlow
import Derived.Shelf.Strings.SlTrimAscii
import Derived.Lib.AppendStr
import Derived.Laws.IdiomStrings
import Derived.Lib.BufferRead
import Derived.Lib.Builder
import Derived.Outline
import Derived.Lib.UnsafeStr
import Derived.Lib.MakeNoZero
import Derived.Shelf.Strconv.Itoa1
import Derived.OpenShut
import Derived.SliceStrings
import Derived.ProofKit
set_option maxRecDepth 100000
set_option maxHeartbeats 4000000

namespace Go.Proofs.YtbempdelckaccaaGreatDoor
open Go.RowKit Go.Lib Go.Shelf
theorem zbr:zce Tryz.prog 3:=⟨_,Tryz.underlying3,rfl⟩
theorem zeA:SizeOk Tryz.prog 3 1:=by unfold SizeOk; as_aux_lemma=>kernel_rfl
theorem zt6:ZeroOk Tryz.prog 3 [.int .i64 0]:=by unfold ZeroOk; as_aux_lemma=>kernel_rfl
theorem ztR:ElemOk Tryz.prog 3 1:=ElemOk.mk' (by as_aux_lemma=>kernel_rfl)
theorem zl4:zce Tryz.prog 4:=⟨_,Tryz.underlying4,rfl⟩
theorem zoA:SizeOk Tryz.prog 4 1:=by unfold SizeOk; as_aux_lemma=>kernel_rfl
theorem zyr:ZeroOk Tryz.prog 4 [.bool false]:=by unfold ZeroOk; as_aux_lemma=>kernel_rfl
theorem zyt:SizeOk Tryz.prog 5 1:=by unfold SizeOk; as_aux_lemma=>kernel_rfl
theorem zyF:ZeroOk Tryz.prog 5 [.int .u8 0]:=by unfold ZeroOk; as_aux_lemma=>kernel_rfl
theorem zyU:ElemOk Tryz.prog 5 1:=ElemOk.mk' (by as_aux_lemma=>kernel_rfl)
theorem zou:zce Tryz.prog 9:=⟨_,Tryz.underlying9,rfl⟩
theorem zwX:SizeOk Tryz.prog 9 1:=by unfold SizeOk; as_aux_lemma=>kernel_rfl
theorem zyv:ElemOk Tryz.prog 9 1:=ElemOk.mk' (by as_aux_lemma=>kernel_rfl)
theorem ziu:zce Tryz.prog 21:=⟨_,Tryz.underlying21,rfl⟩
theorem zvD:SizeOk Tryz.prog 21 1:=by unfold SizeOk; as_aux_lemma=>kernel_rfl
theorem zlD:zhF Tryz.prog 23 4:=⟨_,Tryz.underlying23,rfl,by as_aux_lemma=>kernel_rfl⟩
theorem zhw:zbf Tryz.prog 23 0 0:=⟨_,_,Tryz.underlying23,rfl,rfl,by as_aux_lemma=>kernel_rfl⟩
theorem zk7:zbf Tryz.prog 23 1 1:=⟨_,_,Tryz.underlying23,rfl,rfl,by as_aux_lemma=>kernel_rfl⟩
theorem zjo:zbf Tryz.prog 23 2 2:=⟨_,_,Tryz.underlying23,rfl,rfl,by as_aux_lemma=>kernel_rfl⟩
theorem zjn:zbf Tryz.prog 23 3 3:=⟨_,_,Tryz.underlying23,rfl,rfl,by as_aux_lemma=>kernel_rfl⟩
theorem zsN:zce Tryz.prog 25:=⟨_,Tryz.underlying25,rfl⟩
theorem zq4:zce Tryz.prog 26:=⟨_,Tryz.underlying26,rfl⟩
theorem zxj:SizeOk Tryz.prog 26 1:=by unfold SizeOk; as_aux_lemma=>kernel_rfl
theorem zje:zhF Tryz.prog 33 6:=⟨_,Tryz.underlying33,rfl,by as_aux_lemma=>kernel_rfl⟩
theorem zie:zbf Tryz.prog 33 0 0:=⟨_,_,Tryz.underlying33,rfl,rfl,by as_aux_lemma=>kernel_rfl⟩
theorem zid:zbf Tryz.prog 33 1 1:=⟨_,_,Tryz.underlying33,rfl,rfl,by as_aux_lemma=>kernel_rfl⟩
theorem zk6:zbf Tryz.prog 33 3 3:=⟨_,_,Tryz.underlying33,rfl,rfl,by as_aux_lemma=>kernel_rfl⟩
theorem zk5:zbf Tryz.prog 33 4 4:=⟨_,_,Tryz.underlying33,rfl,rfl,by as_aux_lemma=>kernel_rfl⟩
theorem zk4:zbf Tryz.prog 33 5 5:=⟨_,_,Tryz.underlying33,rfl,rfl,by as_aux_lemma=>kernel_rfl⟩
theorem zhj:SizeOk Tryz.prog 33 6:=by unfold SizeOk; as_aux_lemma=>kernel_rfl
theorem zpS:ZeroOk Tryz.prog 33 [.int .i64 0,.int .i64 0,.int .i64 0,.int .i64 0,.int .i64 0,.string ByteArray.empty]:=by unfold ZeroOk; as_aux_lemma=>kernel_rfl
theorem zrT:ElemOk Tryz.prog 33 6:=ElemOk.mk' (by as_aux_lemma=>kernel_rfl)
theorem znB:zhF Tryz.prog 38 2:=⟨_,Tryz.underlying38,rfl,by as_aux_lemma=>kernel_rfl⟩
theorem zdc:zbf Tryz.prog 38 0 0:=⟨_,_,Tryz.underlying38,rfl,rfl,by as_aux_lemma=>kernel_rfl⟩
theorem zdY:zbf Tryz.prog 38 1 1:=⟨_,_,Tryz.underlying38,rfl,rfl,by as_aux_lemma=>kernel_rfl⟩
theorem zkt:SizeOk Tryz.prog 38 2:=by unfold SizeOk; as_aux_lemma=>kernel_rfl
theorem zqC:ZeroOk Tryz.prog 38 [.int .i64 0,.int .i64 0]:=by unfold ZeroOk; as_aux_lemma=>kernel_rfl
theorem zna:ElemOk Tryz.prog 38 2:=ElemOk.mk' (by as_aux_lemma=>kernel_rfl)
theorem zjU:zhF Tryz.prog 40 3:=⟨_,Tryz.underlying40,rfl,by as_aux_lemma=>kernel_rfl⟩
theorem zfP:zbf Tryz.prog 40 0 0:=⟨_,_,Tryz.underlying40,rfl,rfl,by as_aux_lemma=>kernel_rfl⟩
theorem zgU:zbf Tryz.prog 40 1 2:=⟨_,_,Tryz.underlying40,rfl,rfl,by as_aux_lemma=>kernel_rfl⟩
theorem zmB:SizeOk Tryz.prog 40 3:=by unfold SizeOk; as_aux_lemma=>kernel_rfl
theorem zsA:ZeroOk Tryz.prog 40 [.int .i64 0,.int .i64 0,.int .i64 0]:=by unfold ZeroOk; as_aux_lemma=>kernel_rfl
theorem zwG:ElemOk Tryz.prog 40 3:=ElemOk.mk' (by as_aux_lemma=>kernel_rfl)
theorem zhn:zce Tryz.prog 43:=⟨_,Tryz.underlying43,rfl⟩
theorem zsG:SizeOk Tryz.prog 43 1:=by unfold SizeOk; as_aux_lemma=>kernel_rfl
theorem zxe:ZeroOk Tryz.prog 43 [.slice none 0 0]:=by unfold ZeroOk; as_aux_lemma=>kernel_rfl
theorem zyc:ElemOk Tryz.prog 43 1:=ElemOk.mk' (by as_aux_lemma=>kernel_rfl)
theorem zgA:zce Tryz.prog 49:=⟨_,Tryz.underlying49,rfl⟩
theorem zpW:SizeOk Tryz.prog 49 1:=by unfold SizeOk; as_aux_lemma=>kernel_rfl
theorem zxd:ZeroOk Tryz.prog 49 [.slice none 0 0]:=by unfold ZeroOk; as_aux_lemma=>kernel_rfl
theorem zvN:zce Tryz.prog 52:=⟨_,Tryz.underlying52,rfl⟩
theorem zvM:zce Tryz.prog 58:=⟨_,Tryz.underlying58,rfl⟩
theorem zmK:zhF Tryz.prog 60 2:=⟨_,Tryz.underlying60,rfl,by as_aux_lemma=>kernel_rfl⟩
theorem zrH:zbf Tryz.prog 60 0 0:=⟨_,_,Tryz.underlying60,rfl,rfl,by as_aux_lemma=>kernel_rfl⟩
theorem zks:SizeOk Tryz.prog 60 2:=by unfold SizeOk; as_aux_lemma=>kernel_rfl
theorem zsz:ZeroOk Tryz.prog 60 [.int .i64 0,.int .i64 0]:=by unfold ZeroOk; as_aux_lemma=>kernel_rfl
theorem zuh:zce Tryz.prog 70:=⟨_,Tryz.underlying70,rfl⟩
theorem zqR:SizeOk Tryz.prog 70 1:=by unfold SizeOk; as_aux_lemma=>kernel_rfl
theorem zyb:ElemOk Tryz.prog 70 1:=ElemOk.mk' (by as_aux_lemma=>kernel_rfl)
theorem zuk:zhF Tryz.prog 76 6:=⟨_,Tryz.underlying76,rfl,by as_aux_lemma=>kernel_rfl⟩
theorem zrG:zbf Tryz.prog 76 0 0:=⟨_,_,Tryz.underlying76,rfl,rfl,by as_aux_lemma=>kernel_rfl⟩
theorem zrF:zbf Tryz.prog 76 1 1:=⟨_,_,Tryz.underlying76,rfl,rfl,by as_aux_lemma=>kernel_rfl⟩
theorem zm5:zbf Tryz.prog 76 2 2:=⟨_,_,Tryz.underlying76,rfl,rfl,by as_aux_lemma=>kernel_rfl⟩
theorem zqQ:SizeOk Tryz.prog 76 6:=by unfold SizeOk; as_aux_lemma=>kernel_rfl
theorem zt5:ZeroOk Tryz.prog 76 [.string ByteArray.empty,.int .i64 0,.int .i64 0,.int .i64 0,.int .i64 0,.int .i64 0]:=by unfold ZeroOk; as_aux_lemma=>kernel_rfl
theorem zwF:ElemOk Tryz.prog 76 6:=ElemOk.mk' (by as_aux_lemma=>kernel_rfl)
theorem zq3:zce Tryz.prog 79:=⟨_,Tryz.underlying79,rfl⟩
theorem zxi:SizeOk Tryz.prog 79 1:=by unfold SizeOk; as_aux_lemma=>kernel_rfl
theorem zuH:zbf Tryz.prog 81 0 0:=⟨_,_,Tryz.underlying81,rfl,rfl,by as_aux_lemma=>kernel_rfl⟩
theorem zjm:zbf Tryz.prog 81 1 4:=⟨_,_,Tryz.underlying81,rfl,rfl,by as_aux_lemma=>kernel_rfl⟩
theorem zrE:zbf Tryz.prog 81 2 5:=⟨_,_,Tryz.underlying81,rfl,rfl,by as_aux_lemma=>kernel_rfl⟩
theorem zmJ:zce Tryz.prog 82:=⟨_,Tryz.underlying82,rfl⟩
theorem znA:zce Tryz.prog 83:=⟨_,Tryz.underlying83,rfl⟩
theorem zxh:SizeOk Tryz.prog 83 1:=by unfold SizeOk; as_aux_lemma=>kernel_rfl
theorem zxc:ZeroOk Tryz.prog 83 [.int .i64 0]:=by unfold ZeroOk; as_aux_lemma=>kernel_rfl
theorem zg8:zhF Tryz.prog 85 4:=⟨_,Tryz.underlying85,rfl,by as_aux_lemma=>kernel_rfl⟩
theorem zk3:zbf Tryz.prog 85 0 0:=⟨_,_,Tryz.underlying85,rfl,rfl,by as_aux_lemma=>kernel_rfl⟩
theorem zm4:zbf Tryz.prog 85 1 1:=⟨_,_,Tryz.underlying85,rfl,rfl,by as_aux_lemma=>kernel_rfl⟩
theorem zk2:zbf Tryz.prog 85 2 2:=⟨_,_,Tryz.underlying85,rfl,rfl,by as_aux_lemma=>kernel_rfl⟩
theorem zuG:zbf Tryz.prog 85 3 3:=⟨_,_,Tryz.underlying85,rfl,rfl,by as_aux_lemma=>kernel_rfl⟩
theorem zmA:SizeOk Tryz.prog 85 4:=by unfold SizeOk; as_aux_lemma=>kernel_rfl
theorem zt4:ZeroOk Tryz.prog 85 [.int .i64 0,.int .i64 0,.int .i32 0,.bool false]:=by unfold ZeroOk; as_aux_lemma=>kernel_rfl
theorem zpX:zce Tryz.prog 94:=⟨_,Tryz.underlying94,rfl⟩
theorem zxg:SizeOk Tryz.prog 94 1:=by unfold SizeOk; as_aux_lemma=>kernel_rfl
theorem zpk:zce Tryz.prog 102:=⟨_,Tryz.underlying102,rfl⟩
theorem zvH:SizeOk Tryz.prog 102 1:=by unfold SizeOk; as_aux_lemma=>kernel_rfl
theorem ztd:zbf Tryz.prog 104 0 0:=⟨_,_,Tryz.underlying104,rfl,rfl,by as_aux_lemma=>kernel_rfl⟩
theorem zhM:zbf Tryz.prog 104 1 1:=⟨_,_,Tryz.underlying104,rfl,rfl,by as_aux_lemma=>kernel_rfl⟩
theorem ziQ:zbf Tryz.prog 104 2 2:=⟨_,_,Tryz.underlying104,rfl,rfl,by as_aux_lemma=>kernel_rfl⟩
theorem zeU:zbf Tryz.prog 106 0 0:=⟨_,_,Tryz.underlying106,rfl,rfl,by as_aux_lemma=>kernel_rfl⟩
theorem zl5:zce Tryz.prog 112:=⟨_,Tryz.underlying112,rfl⟩
theorem zvG:SizeOk Tryz.prog 112 1:=by unfold SizeOk; as_aux_lemma=>kernel_rfl
theorem zvt:ZeroOk Tryz.prog 123 [.pointer none,.slice none 0 0]:=by unfold ZeroOk; as_aux_lemma=>kernel_rfl
theorem zh0:zce Tryz.prog 129:=⟨_,Tryz.underlying129,rfl⟩
theorem zgj:zbf Tryz.prog 131 0 0:=⟨_,_,Tryz.underlying131,rfl,rfl,by as_aux_lemma=>kernel_rfl⟩
theorem zkg:zbf Tryz.prog 131 1 1:=⟨_,_,Tryz.underlying131,rfl,rfl,by as_aux_lemma=>kernel_rfl⟩
theorem ziP:zbf Tryz.prog 131 2 2:=⟨_,_,Tryz.underlying131,rfl,rfl,by as_aux_lemma=>kernel_rfl⟩
theorem zkf:zbf Tryz.prog 131 3 3:=⟨_,_,Tryz.underlying131,rfl,rfl,by as_aux_lemma=>kernel_rfl⟩
theorem zpE:zbf Tryz.prog 131 4 4:=⟨_,_,Tryz.underlying131,rfl,rfl,by as_aux_lemma=>kernel_rfl⟩
theorem zl6:zhF Tryz.prog 135 2:=⟨_,Tryz.underlying135,rfl,by as_aux_lemma=>kernel_rfl⟩
theorem ztc:zbf Tryz.prog 135 0 0:=⟨_,_,Tryz.underlying135,rfl,rfl,by as_aux_lemma=>kernel_rfl⟩
theorem zgX:zbf Tryz.prog 135 1 1:=⟨_,_,Tryz.underlying135,rfl,rfl,by as_aux_lemma=>kernel_rfl⟩
theorem znv:SizeOk Tryz.prog 135 2:=by unfold SizeOk; as_aux_lemma=>kernel_rfl
theorem zqD:ZeroOk Tryz.prog 135 [.string ByteArray.empty,.slice none 0 0]:=by unfold ZeroOk; as_aux_lemma=>kernel_rfl
theorem zvO:zhF Tryz.prog 146 5:=⟨_,Tryz.underlying146,rfl,by as_aux_lemma=>kernel_rfl⟩
theorem zhL:zbf Tryz.prog 146 0 0:=⟨_,_,Tryz.underlying146,rfl,rfl,by as_aux_lemma=>kernel_rfl⟩
theorem zdR:zbf Tryz.prog 146 1 2:=⟨_,_,Tryz.underlying146,rfl,rfl,by as_aux_lemma=>kernel_rfl⟩
theorem zfF:zbf Tryz.prog 146 2 3:=⟨_,_,Tryz.underlying146,rfl,rfl,by as_aux_lemma=>kernel_rfl⟩
theorem zfj:zbf Tryz.prog 146 3 4:=⟨_,_,Tryz.underlying146,rfl,rfl,by as_aux_lemma=>kernel_rfl⟩
theorem zeK:SizeOk Tryz.prog 146 5:=by unfold SizeOk; as_aux_lemma=>kernel_rfl
theorem zvs:ZeroOk Tryz.prog 146 [.int .i64 0,.int .i64 0,.int .i64 0,.bool false,.int .i64 0]:=by unfold ZeroOk; as_aux_lemma=>kernel_rfl
theorem zwI:ElemOk Tryz.prog 146 5:=ElemOk.mk' (by as_aux_lemma=>kernel_rfl)
theorem zq5:zce Tryz.prog 150:=⟨_,Tryz.underlying150,rfl⟩
theorem ztC:SizeOk Tryz.prog 150 1:=by unfold SizeOk; as_aux_lemma=>kernel_rfl
theorem zjI:zce Tryz.prog 151:=⟨_,Tryz.underlying151,rfl⟩
theorem ztB:SizeOk Tryz.prog 151 1:=by unfold SizeOk; as_aux_lemma=>kernel_rfl
theorem ziO:zbf Tryz.prog 153 1 1:=⟨_,_,Tryz.underlying153,rfl,rfl,by as_aux_lemma=>kernel_rfl⟩
theorem zfE:zbf Tryz.prog 153 2 2:=⟨_,_,Tryz.underlying153,rfl,rfl,by as_aux_lemma=>kernel_rfl⟩
theorem ztG:zhF Tryz.prog 155 5:=⟨_,Tryz.underlying155,rfl,by as_aux_lemma=>kernel_rfl⟩
theorem zpD:zbf Tryz.prog 155 0 0:=⟨_,_,Tryz.underlying155,rfl,rfl,by as_aux_lemma=>kernel_rfl⟩
theorem zpC:zbf Tryz.prog 155 1 1:=⟨_,_,Tryz.underlying155,rfl,rfl,by as_aux_lemma=>kernel_rfl⟩
theorem zke:zbf Tryz.prog 155 2 2:=⟨_,_,Tryz.underlying155,rfl,rfl,by as_aux_lemma=>kernel_rfl⟩
theorem zpB:zbf Tryz.prog 155 3 3:=⟨_,_,Tryz.underlying155,rfl,rfl,by as_aux_lemma=>kernel_rfl⟩
theorem zm7:zbf Tryz.prog 155 4 4:=⟨_,_,Tryz.underlying155,rfl,rfl,by as_aux_lemma=>kernel_rfl⟩
theorem zvF:SizeOk Tryz.prog 155 5:=by unfold SizeOk; as_aux_lemma=>kernel_rfl
theorem zvr:ZeroOk Tryz.prog 155 [.int .i64 0,.int .i64 0,.int .i64 0,.int .i64 0,.int .i64 0]:=by unfold ZeroOk; as_aux_lemma=>kernel_rfl
theorem ztU:ElemOk Tryz.prog 155 5:=ElemOk.mk' (by as_aux_lemma=>kernel_rfl)
theorem ztF:zhF Tryz.prog 157 4:=⟨_,Tryz.underlying157,rfl,by as_aux_lemma=>kernel_rfl⟩
theorem zkd:zbf Tryz.prog 157 0 0:=⟨_,_,Tryz.underlying157,rfl,rfl,by as_aux_lemma=>kernel_rfl⟩
theorem zm6:zbf Tryz.prog 157 1 2:=⟨_,_,Tryz.underlying157,rfl,rfl,by as_aux_lemma=>kernel_rfl⟩
theorem zl0:SizeOk Tryz.prog 157 4:=by unfold SizeOk; as_aux_lemma=>kernel_rfl
theorem zvq:ZeroOk Tryz.prog 157 [.int .i64 0,.int .i64 0,.int .i64 0,.int .i64 0]:=by unfold ZeroOk; as_aux_lemma=>kernel_rfl
theorem ztT:ElemOk Tryz.prog 157 4:=ElemOk.mk' (by as_aux_lemma=>kernel_rfl)
theorem zjJ:zhF Tryz.prog 176 3:=⟨_,Tryz.underlying176,rfl,by as_aux_lemma=>kernel_rfl⟩
theorem zeT:zbf Tryz.prog 176 0 0:=⟨_,_,Tryz.underlying176,rfl,rfl,by as_aux_lemma=>kernel_rfl⟩
theorem zfi:zbf Tryz.prog 176 1 1:=⟨_,_,Tryz.underlying176,rfl,rfl,by as_aux_lemma=>kernel_rfl⟩
theorem zkc:zbf Tryz.prog 176 2 2:=⟨_,_,Tryz.underlying176,rfl,rfl,by as_aux_lemma=>kernel_rfl⟩
theorem zc8:SizeOk Tryz.prog 176 3:=by unfold SizeOk; as_aux_lemma=>kernel_rfl
theorem zlT:ZeroOk Tryz.prog 176 [.int .i64 0,.int .i64 0,.int .i64 0]:=by unfold ZeroOk; as_aux_lemma=>kernel_rfl
theorem ztS:ElemOk Tryz.prog 176 3:=ElemOk.mk' (by as_aux_lemma=>kernel_rfl)
theorem zho:zce Tryz.prog 179:=⟨_,Tryz.underlying179,rfl⟩
theorem zvE:SizeOk Tryz.prog 179 1:=by unfold SizeOk; as_aux_lemma=>kernel_rfl
theorem zvp:ZeroOk Tryz.prog 179 [.pointer none]:=by unfold ZeroOk; as_aux_lemma=>kernel_rfl
theorem zhK:zbf Tryz.prog 187 0 0:=⟨_,_,Tryz.underlying187,rfl,rfl,by as_aux_lemma=>kernel_rfl⟩
theorem ziN:zbf Tryz.prog 187 1 1:=⟨_,_,Tryz.underlying187,rfl,rfl,by as_aux_lemma=>kernel_rfl⟩
theorem zgW:zbf Tryz.prog 187 2 2:=⟨_,_,Tryz.underlying187,rfl,rfl,by as_aux_lemma=>kernel_rfl⟩
theorem zfn:SizeOk Tryz.prog 187 3:=by unfold SizeOk; as_aux_lemma=>kernel_rfl
theorem zwH:ElemOk Tryz.prog 187 3:=ElemOk.mk' (by as_aux_lemma=>kernel_rfl)
theorem zpA:zbf Tryz.prog 203 0 0:=⟨_,_,Tryz.underlying203,rfl,rfl,by as_aux_lemma=>kernel_rfl⟩
theorem zgV:zbf Tryz.prog 203 1 1:=⟨_,_,Tryz.underlying203,rfl,rfl,by as_aux_lemma=>kernel_rfl⟩
theorem ziM:zbf Tryz.prog 203 2 2:=⟨_,_,Tryz.underlying203,rfl,rfl,by as_aux_lemma=>kernel_rfl⟩
theorem ziL:zbf Tryz.prog 203 3 3:=⟨_,_,Tryz.underlying203,rfl,rfl,by as_aux_lemma=>kernel_rfl⟩
theorem ztb:zbf Tryz.prog 203 4 4:=⟨_,_,Tryz.underlying203,rfl,rfl,by as_aux_lemma=>kernel_rfl⟩
theorem zta:zbf Tryz.prog 203 5 5:=⟨_,_,Tryz.underlying203,rfl,rfl,by as_aux_lemma=>kernel_rfl⟩
theorem ztA:SizeOk Tryz.prog 207 12:=by unfold SizeOk; as_aux_lemma=>kernel_rfl
theorem ztv:ZeroOk Tryz.prog 207 [.int .i32 0,.int .i32 0,.int .i32 0,.int .i32 0,.int .i32 0,.int .i32 0,.int .i32 0,.int .i32 0,.int .i32 0,.int .i32 0,.int .i32 0,.int .i32 0]:=by unfold ZeroOk; as_aux_lemma=>kernel_rfl
theorem zvo:ZeroOk Tryz.prog 211 [.int .u8 0,.int .u8 0,.int .u8 0,.int .u8 0,.int .u8 0,.int .u8 0,.int .u8 0,.int .u8 0,.int .u8 0,.int .u8 0,.int .u8 0,.int .u8 0,.int .u8 0,.int .u8 0,.int .u8 0,.int .u8 0,.int .u8 0,.int .u8 0,.int .u8 0,.int .u8 0,.int .u8 0,.int .u8 0,.int .u8 0,.int .u8 0]:=by unfold ZeroOk; as_aux_lemma=>kernel_rfl
theorem zyT:∀ args w,(callFunc 8 args).run Tryz.prog w=.ok (.enter 8 args) w:=enters_of Tryz.func8 (by as_aux_lemma=>kernel_rfl) rfl
theorem zyM:∀ args w,(callFunc 9 args).run Tryz.prog w=.ok (.enter 9 args) w:=enters_of Tryz.func9 (by as_aux_lemma=>kernel_rfl) rfl
theorem zwD:∀ args w,(callFunc 10 args).run Tryz.prog w=.ok (.enter 10 args) w:=enters_of Tryz.func10 (by as_aux_lemma=>kernel_rfl) rfl
theorem zwz:∀ args w,(callFunc 11 args).run Tryz.prog w=.ok (.enter 11 args) w:=enters_of Tryz.func11 (by as_aux_lemma=>kernel_rfl) rfl
theorem zya:∀ args w,(callFunc 12 args).run Tryz.prog w=.ok (.enter 12 args) w:=enters_of Tryz.func12 (by as_aux_lemma=>kernel_rfl) rfl
theorem zx9:∀ args w,(callFunc 16 args).run Tryz.prog w=.ok (.enter 16 args) w:=enters_of Tryz.func16 (by as_aux_lemma=>kernel_rfl) rfl
theorem zx8:∀ args w,(callFunc 19 args).run Tryz.prog w=.ok (.enter 19 args) w:=enters_of Tryz.func19 (by as_aux_lemma=>kernel_rfl) rfl
theorem zx7:∀ args w,(callFunc 22 args).run Tryz.prog w=.ok (.enter 22 args) w:=enters_of Tryz.func22 (by as_aux_lemma=>kernel_rfl) rfl
theorem zx6:∀ args w,(callFunc 27 args).run Tryz.prog w=.ok (.enter 27 args) w:=enters_of Tryz.func27 (by as_aux_lemma=>kernel_rfl) rfl
theorem zx5:∀ args w,(callFunc 28 args).run Tryz.prog w=.ok (.enter 28 args) w:=enters_of Tryz.func28 (by as_aux_lemma=>kernel_rfl) rfl
theorem zx4:∀ args w,(callFunc 29 args).run Tryz.prog w=.ok (.enter 29 args) w:=enters_of Tryz.func29 (by as_aux_lemma=>kernel_rfl) rfl
theorem zx3:∀ args w,(callFunc 30 args).run Tryz.prog w=.ok (.enter 30 args) w:=enters_of Tryz.func30 (by as_aux_lemma=>kernel_rfl) rfl
theorem zx2:∀ args w,(callFunc 31 args).run Tryz.prog w=.ok (.enter 31 args) w:=enters_of Tryz.func31 (by as_aux_lemma=>kernel_rfl) rfl
theorem zwt:∀ args w,(callFunc 32 args).run Tryz.prog w=.ok (.enter 32 args) w:=enters_of Tryz.func32 (by as_aux_lemma=>kernel_rfl) rfl
theorem zws:∀ args w,(callFunc 33 args).run Tryz.prog w=.ok (.enter 33 args) w:=enters_of Tryz.func33 (by as_aux_lemma=>kernel_rfl) rfl
theorem zx1:∀ args w,(callFunc 34 args).run Tryz.prog w=.ok (.enter 34 args) w:=enters_of Tryz.func34 (by as_aux_lemma=>kernel_rfl) rfl
theorem zuP:∀ args w,(callFunc 35 args).run Tryz.prog w=.ok (.enter 35 args) w:=enters_of Tryz.func35 (by as_aux_lemma=>kernel_rfl) rfl
theorem zwr:∀ args w,(callFunc 36 args).run Tryz.prog w=.ok (.enter 36 args) w:=enters_of Tryz.func36 (by as_aux_lemma=>kernel_rfl) rfl
theorem zuO:∀ args w,(callFunc 37 args).run Tryz.prog w=.ok (.enter 37 args) w:=enters_of Tryz.func37 (by as_aux_lemma=>kernel_rfl) rfl
theorem zwq:∀ args w,(callFunc 38 args).run Tryz.prog w=.ok (.enter 38 args) w:=enters_of Tryz.func38 (by as_aux_lemma=>kernel_rfl) rfl
theorem zx0:∀ args w,(callFunc 39 args).run Tryz.prog w=.ok (.enter 39 args) w:=enters_of Tryz.func39 (by as_aux_lemma=>kernel_rfl) rfl
theorem zxZ:∀ args w,(callFunc 40 args).run Tryz.prog w=.ok (.enter 40 args) w:=enters_of Tryz.func40 (by as_aux_lemma=>kernel_rfl) rfl
theorem zxY:∀ args w,(callFunc 41 args).run Tryz.prog w=.ok (.enter 41 args) w:=enters_of Tryz.func41 (by as_aux_lemma=>kernel_rfl) rfl
theorem zxX:∀ args w,(callFunc 44 args).run Tryz.prog w=.ok (.enter 44 args) w:=enters_of Tryz.func44 (by as_aux_lemma=>kernel_rfl) rfl
theorem zxW:∀ args w,(callFunc 45 args).run Tryz.prog w=.ok (.enter 45 args) w:=enters_of Tryz.func45 (by as_aux_lemma=>kernel_rfl) rfl
theorem zxV:∀ args w,(callFunc 46 args).run Tryz.prog w=.ok (.enter 46 args) w:=enters_of Tryz.func46 (by as_aux_lemma=>kernel_rfl) rfl
theorem zxU:∀ args w,(callFunc 47 args).run Tryz.prog w=.ok (.enter 47 args) w:=enters_of Tryz.func47 (by as_aux_lemma=>kernel_rfl) rfl
theorem zxT:∀ args w,(callFunc 48 args).run Tryz.prog w=.ok (.enter 48 args) w:=enters_of Tryz.func48 (by as_aux_lemma=>kernel_rfl) rfl
theorem zxS:∀ args w,(callFunc 49 args).run Tryz.prog w=.ok (.enter 49 args) w:=enters_of Tryz.func49 (by as_aux_lemma=>kernel_rfl) rfl
theorem zxR:∀ args w,(callFunc 50 args).run Tryz.prog w=.ok (.enter 50 args) w:=enters_of Tryz.func50 (by as_aux_lemma=>kernel_rfl) rfl
theorem zxQ:∀ args w,(callFunc 51 args).run Tryz.prog w=.ok (.enter 51 args) w:=enters_of Tryz.func51 (by as_aux_lemma=>kernel_rfl) rfl
theorem zxP:∀ args w,(callFunc 53 args).run Tryz.prog w=.ok (.enter 53 args) w:=enters_of Tryz.func53 (by as_aux_lemma=>kernel_rfl) rfl
theorem zwp:∀ args w,(callFunc 54 args).run Tryz.prog w=.ok (.enter 54 args) w:=enters_of Tryz.func54 (by as_aux_lemma=>kernel_rfl) rfl
theorem zwo:∀ args w,(callFunc 58 args).run Tryz.prog w=.ok (.enter 58 args) w:=enters_of Tryz.func58 (by as_aux_lemma=>kernel_rfl) rfl
theorem zxO:∀ args w,(callFunc 59 args).run Tryz.prog w=.ok (.enter 59 args) w:=enters_of Tryz.func59 (by as_aux_lemma=>kernel_rfl) rfl
theorem zwn:∀ args w,(callFunc 60 args).run Tryz.prog w=.ok (.enter 60 args) w:=enters_of Tryz.func60 (by as_aux_lemma=>kernel_rfl) rfl
theorem zxN:∀ args w,(callFunc 61 args).run Tryz.prog w=.ok (.enter 61 args) w:=enters_of Tryz.func61 (by as_aux_lemma=>kernel_rfl) rfl
theorem zxM:∀ args w,(callFunc 62 args).run Tryz.prog w=.ok (.enter 62 args) w:=enters_of Tryz.func62 (by as_aux_lemma=>kernel_rfl) rfl
theorem zxL:∀ args w,(callFunc 63 args).run Tryz.prog w=.ok (.enter 63 args) w:=enters_of Tryz.func63 (by as_aux_lemma=>kernel_rfl) rfl
theorem zwm:∀ args w,(callFunc 64 args).run Tryz.prog w=.ok (.enter 64 args) w:=enters_of Tryz.func64 (by as_aux_lemma=>kernel_rfl) rfl
theorem zxK:∀ args w,(callFunc 65 args).run Tryz.prog w=.ok (.enter 65 args) w:=enters_of Tryz.func65 (by as_aux_lemma=>kernel_rfl) rfl
theorem zxJ:∀ args w,(callFunc 66 args).run Tryz.prog w=.ok (.enter 66 args) w:=enters_of Tryz.func66 (by as_aux_lemma=>kernel_rfl) rfl
theorem zwl:∀ args w,(callFunc 67 args).run Tryz.prog w=.ok (.enter 67 args) w:=enters_of Tryz.func67 (by as_aux_lemma=>kernel_rfl) rfl
theorem zxI:∀ args w,(callFunc 68 args).run Tryz.prog w=.ok (.enter 68 args) w:=enters_of Tryz.func68 (by as_aux_lemma=>kernel_rfl) rfl
theorem zxH:∀ args w,(callFunc 69 args).run Tryz.prog w=.ok (.enter 69 args) w:=enters_of Tryz.func69 (by as_aux_lemma=>kernel_rfl) rfl
theorem zxG:∀ args w,(callFunc 70 args).run Tryz.prog w=.ok (.enter 70 args) w:=enters_of Tryz.func70 (by as_aux_lemma=>kernel_rfl) rfl
theorem zxF:∀ args w,(callFunc 72 args).run Tryz.prog w=.ok (.enter 72 args) w:=enters_of Tryz.func72 (by as_aux_lemma=>kernel_rfl) rfl
theorem zxE:∀ args w,(callFunc 73 args).run Tryz.prog w=.ok (.enter 73 args) w:=enters_of Tryz.func73 (by as_aux_lemma=>kernel_rfl) rfl
theorem zxD:∀ args w,(callFunc 74 args).run Tryz.prog w=.ok (.enter 74 args) w:=enters_of Tryz.func74 (by as_aux_lemma=>kernel_rfl) rfl
theorem zxC:∀ args w,(callFunc 78 args).run Tryz.prog w=.ok (.enter 78 args) w:=enters_of Tryz.func78 (by as_aux_lemma=>kernel_rfl) rfl
theorem zxB:∀ args w,(callFunc 79 args).run Tryz.prog w=.ok (.enter 79 args) w:=enters_of Tryz.func79 (by as_aux_lemma=>kernel_rfl) rfl
theorem zwk:∀ args w,(callFunc 80 args).run Tryz.prog w=.ok (.enter 80 args) w:=enters_of Tryz.func80 (by as_aux_lemma=>kernel_rfl) rfl
theorem zxA:∀ args w,(callFunc 86 args).run Tryz.prog w=.ok (.enter 86 args) w:=enters_of Tryz.func86 (by as_aux_lemma=>kernel_rfl) rfl
theorem zxz:∀ args w,(callFunc 92 args).run Tryz.prog w=.ok (.enter 92 args) w:=enters_of Tryz.func92 (by as_aux_lemma=>kernel_rfl) rfl
theorem zwj:∀ args w,(callFunc 93 args).run Tryz.prog w=.ok (.enter 93 args) w:=enters_of Tryz.func93 (by as_aux_lemma=>kernel_rfl) rfl
theorem zxy:∀ args w,(callFunc 94 args).run Tryz.prog w=.ok (.enter 94 args) w:=enters_of Tryz.func94 (by as_aux_lemma=>kernel_rfl) rfl
theorem zxx:∀ args w,(callFunc 95 args).run Tryz.prog w=.ok (.enter 95 args) w:=enters_of Tryz.func95 (by as_aux_lemma=>kernel_rfl) rfl
theorem zxw:∀ args w,(callFunc 96 args).run Tryz.prog w=.ok (.enter 96 args) w:=enters_of Tryz.func96 (by as_aux_lemma=>kernel_rfl) rfl
theorem zxv:∀ args w,(callFunc 97 args).run Tryz.prog w=.ok (.enter 97 args) w:=enters_of Tryz.func97 (by as_aux_lemma=>kernel_rfl) rfl
theorem zxu:∀ args w,(callFunc 98 args).run Tryz.prog w=.ok (.enter 98 args) w:=enters_of Tryz.func98 (by as_aux_lemma=>kernel_rfl) rfl
theorem zxt:∀ args w,(callFunc 99 args).run Tryz.prog w=.ok (.enter 99 args) w:=enters_of Tryz.func99 (by as_aux_lemma=>kernel_rfl) rfl
theorem zwC:∀ args w,(callFunc 100 args).run Tryz.prog w=.ok (.enter 100 args) w:=enters_of Tryz.func100 (by as_aux_lemma=>kernel_rfl) rfl
theorem zmf:∀ args w,(callFunc 101 args).run Tryz.prog w=.ok (.enter 101 args) w:=enters_of Tryz.func101 (by as_aux_lemma=>kernel_rfl) rfl
theorem zwB:∀ args w,(callFunc 102 args).run Tryz.prog w=.ok (.enter 102 args) w:=enters_of Tryz.func102 (by as_aux_lemma=>kernel_rfl) rfl
theorem zwA:∀ args w,(callFunc 105 args).run Tryz.prog w=.ok (.enter 105 args) w:=enters_of Tryz.func105 (by as_aux_lemma=>kernel_rfl) rfl
theorem ztQ:∀ args w,(callFunc 106 args).run Tryz.prog w=.ok (.enter 106 args) w:=enters_of Tryz.func106 (by as_aux_lemma=>kernel_rfl) rfl
theorem ztP:∀ args w,(callFunc 107 args).run Tryz.prog w=.ok (.enter 107 args) w:=enters_of Tryz.func107 (by as_aux_lemma=>kernel_rfl) rfl
theorem zwy:∀ args w,(callFunc 115 args).run Tryz.prog w=.ok (.enter 115 args) w:=enters_of Tryz.func115 (by as_aux_lemma=>kernel_rfl) rfl
theorem zwx:∀ args w,(callFunc 120 args).run Tryz.prog w=.ok (.enter 120 args) w:=enters_of Tryz.func120 (by as_aux_lemma=>kernel_rfl) rfl
theorem zrR:∀ args w,(callFunc 121 args).run Tryz.prog w=.ok (.enter 121 args) w:=enters_of Tryz.func121 (by as_aux_lemma=>kernel_rfl) rfl
theorem zww:∀ args w,(callFunc 122 args).run Tryz.prog w=.ok (.enter 122 args) w:=enters_of Tryz.func122 (by as_aux_lemma=>kernel_rfl) rfl
theorem zrQ:∀ args w,(callFunc 123 args).run Tryz.prog w=.ok (.enter 123 args) w:=enters_of Tryz.func123 (by as_aux_lemma=>kernel_rfl) rfl
theorem zrP:∀ args w,(callFunc 124 args).run Tryz.prog w=.ok (.enter 124 args) w:=enters_of Tryz.func124 (by as_aux_lemma=>kernel_rfl) rfl
theorem zwv:∀ args w,(callFunc 125 args).run Tryz.prog w=.ok (.enter 125 args) w:=enters_of Tryz.func125 (by as_aux_lemma=>kernel_rfl) rfl
theorem ztO:∀ args w,(callFunc 126 args).run Tryz.prog w=.ok (.enter 126 args) w:=enters_of Tryz.func126 (by as_aux_lemma=>kernel_rfl) rfl
theorem zwu:∀ args w,(callFunc 137 args).run Tryz.prog w=.ok (.enter 137 args) w:=enters_of Tryz.func137 (by as_aux_lemma=>kernel_rfl) rfl
theorem mixed:Tryz.prog.follows .mixedOrders=true:=by as_aux_lemma=>kernel_rfl
end Go.Proofs.YtbempdelckaccaaGreatDoor

namespace Go.Proofs.YtbempdelckaccaaGreatDoor
open Go.RowKit Go.Lib
set_option linter.unusedSimpArgs false
@[ext] structure Gapi_Layout where
 Width:Int
 Height:Int
 Turn:Int
 Every:Int
def zh1 (a b:Gapi_Layout):Bool:=(a.Width==b.Width)&&(a.Height==b.Height)&&(a.Turn==b.Turn)&&(a.Every==b.Every)
theorem ziW (a b:Gapi_Layout):zh1 a b=true↔a=b:=by
 rcases a with ⟨a0,a1,a2,a3⟩
 rcases b with ⟨b0,b1,b2,b3⟩
 simp [zh1,Bool.and_eq_true,and_assoc]
instance:DecidableEq Gapi_Layout:=fun a b=>decidable_of_iff _ (ziW a b)
@[ext] structure Gapi_Row where
 Line:Int
 Stanza:Int
 Part:Int
 Indent:Int
 Number:Int
 Text:ByteArray
def zbo (x:Gapi_Row):List Value:=[.int .i64 x.Line,.int .i64 x.Stanza,.int .i64 x.Part,.int .i64 x.Indent,.int .i64 x.Number,.string x.Text]
theorem zbj (x:Gapi_Row):(zbo x).length=6:=rfl
theorem zeh (x:Gapi_Row):∀ u∈zbo x,u.oneCell'=true:=by
 intro u hu
 simp only [zbo,List.mem_cons,List.not_mem_nil,or_false] at hu
 rcases hu with rfl | rfl | rfl | rfl | rfl | rfl <;> rfl
def zd5 (a b:Gapi_Row):Bool:=(a.Line==b.Line)&&(a.Stanza==b.Stanza)&&(a.Part==b.Part)&&(a.Indent==b.Indent)&&(a.Number==b.Number)&&decide (a.Text=b.Text)
theorem zhA (a b:Gapi_Row):zd5 a b=true↔a=b:=by
 rcases a with ⟨a0,a1,a2,a3,a4,a5⟩
 rcases b with ⟨b0,b1,b2,b3,b4,b5⟩
 simp [zd5,Bool.and_eq_true,and_assoc]
instance:DecidableEq Gapi_Row:=fun a b=>decidable_of_iff _ (zhA a b)
@[ext] structure Gapi_Span where
 From:Int
 To:Int
def zdI (x:Gapi_Span):List Value:=[.int .i64 x.From,.int .i64 x.To]
theorem zbp (x:Gapi_Span):(zdI x).length=2:=rfl
theorem zcl (x:Gapi_Span):∀ u∈zdI x,u.oneCell'=true:=by
 intro u hu
 simp only [zdI,List.mem_cons,List.not_mem_nil,or_false] at hu
 rcases hu with rfl | rfl <;> rfl
def zjO (a b:Gapi_Span):Bool:=(a.From==b.From)&&(a.To==b.To)
theorem zjY (a b:Gapi_Span):zjO a b=true↔a=b:=by
 rcases a with ⟨a0,a1⟩
 rcases b with ⟨b0,b1⟩
 simp [zjO,Bool.and_eq_true,and_assoc]
instance:DecidableEq Gapi_Span:=fun a b=>decidable_of_iff _ (zjY a b)
@[ext] structure Gapi_Cell where
 Span_From:Int
 Span_To:Int
 Columns:Int
def zeF (x:Gapi_Cell):List Value:=[.int .i64 x.Span_From,.int .i64 x.Span_To,.int .i64 x.Columns]
theorem zcM (x:Gapi_Cell):(zeF x).length=3:=rfl
theorem zgI (x:Gapi_Cell):∀ u∈zeF x,u.oneCell'=true:=by
 intro u hu
 simp only [zeF,List.mem_cons,List.not_mem_nil,or_false] at hu
 rcases hu with rfl | rfl | rfl <;> rfl
def zjP (a b:Gapi_Cell):Bool:=(a.Span_From==b.Span_From)&&(a.Span_To==b.Span_To)&&(a.Columns==b.Columns)
theorem zjZ (a b:Gapi_Cell):zjP a b=true↔a=b:=by
 rcases a with ⟨a0,a1,a2⟩
 rcases b with ⟨b0,b1,b2⟩
 simp [zjP,Bool.and_eq_true,and_assoc]
instance:DecidableEq Gapi_Cell:=fun a b=>decidable_of_iff _ (zjZ a b)
@[ext] structure Gapi_Spot where
 Err:Int
 At:Int
def zjN (a b:Gapi_Spot):Bool:=(a.Err==b.Err)&&(a.At==b.At)
theorem zjX (a b:Gapi_Spot):zjN a b=true↔a=b:=by
 rcases a with ⟨a0,a1⟩
 rcases b with ⟨b0,b1⟩
 simp [zjN,Bool.and_eq_true,and_assoc]
instance:DecidableEq Gapi_Spot:=fun a b=>decidable_of_iff _ (zjX a b)
@[ext] structure Gapi_Verse where
 Text:ByteArray
 Indent:Int
 Stanza:Int
 In:Int
 Span_From:Int
 Span_To:Int
def zbA (x:Gapi_Verse):List Value:=[.string x.Text,.int .i64 x.Indent,.int .i64 x.Stanza,.int .i64 x.In,.int .i64 x.Span_From,.int .i64 x.Span_To]
theorem zes (x:Gapi_Verse):(zbA x).length=6:=rfl
theorem zgl (x:Gapi_Verse):∀ u∈zbA x,u.oneCell'=true:=by
 intro u hu
 simp only [zbA,List.mem_cons,List.not_mem_nil,or_false] at hu
 rcases hu with rfl | rfl | rfl | rfl | rfl | rfl <;> rfl
def ziT (a b:Gapi_Verse):Bool:=decide (a.Text=b.Text)&&(a.Indent==b.Indent)&&(a.Stanza==b.Stanza)&&(a.In==b.In)&&(a.Span_From==b.Span_From)&&(a.Span_To==b.Span_To)
theorem zjr (a b:Gapi_Verse):ziT a b=true↔a=b:=by
 rcases a with ⟨a0,a1,a2,a3,a4,a5⟩
 rcases b with ⟨b0,b1,b2,b3,b4,b5⟩
 simp [ziT,Bool.and_eq_true,and_assoc]
instance:DecidableEq Gapi_Verse:=fun a b=>decidable_of_iff _ (zjr a b)
@[ext] structure Gapi_Piece where
 At:Int
 Width:Int
 Rune:Int
 Broken:Bool
def ziV (a b:Gapi_Piece):Bool:=(a.At==b.At)&&(a.Width==b.Width)&&(a.Rune==b.Rune)&&(a.Broken==b.Broken)
theorem zjt (a b:Gapi_Piece):ziV a b=true↔a=b:=by
 rcases a with ⟨a0,a1,a2,a3⟩
 rcases b with ⟨b0,b1,b2,b3⟩
 simp [ziV,Bool.and_eq_true,and_assoc]
instance:DecidableEq Gapi_Piece:=fun a b=>decidable_of_iff _ (zjt a b)
@[ext] structure Gref05_Piece where
 Span_From:Int
 Span_To:Int
 Kind:Int
 Joiner:Bool
 Columns:Int
def zef (x:Gref05_Piece):List Value:=[.int .i64 x.Span_From,.int .i64 x.Span_To,.int .i64 x.Kind,.bool x.Joiner,.int .i64 x.Columns]
theorem zaV (x:Gref05_Piece):(zef x).length=5:=rfl
theorem zhW (x:Gref05_Piece):∀ u∈zef x,u.oneCell'=true:=by
 intro u hu
 simp only [zef,List.mem_cons,List.not_mem_nil,or_false] at hu
 rcases hu with rfl | rfl | rfl | rfl | rfl <;> rfl
def zhx (a b:Gref05_Piece):Bool:=(a.Span_From==b.Span_From)&&(a.Span_To==b.Span_To)&&(a.Kind==b.Kind)&&(a.Joiner==b.Joiner)&&(a.Columns==b.Columns)
theorem zif (a b:Gref05_Piece):zhx a b=true↔a=b:=by
 rcases a with ⟨a0,a1,a2,a3,a4⟩
 rcases b with ⟨b0,b1,b2,b3,b4⟩
 simp [zhx,Bool.and_eq_true,and_assoc]
instance:DecidableEq Gref05_Piece:=fun a b=>decidable_of_iff _ (zif a b)
@[ext] structure Gapi_Place where
 Byte:Int
 Rune:Int
 Unit:Int
 Line:Int
 Col:Int
def zem (x:Gapi_Place):List Value:=[.int .i64 x.Byte,.int .i64 x.Rune,.int .i64 x.Unit,.int .i64 x.Line,.int .i64 x.Col]
theorem zgn (x:Gapi_Place):(zem x).length=5:=rfl
theorem zgm (x:Gapi_Place):∀ u∈zem x,u.oneCell'=true:=by
 intro u hu
 simp only [zem,List.mem_cons,List.not_mem_nil,or_false] at hu
 rcases hu with rfl | rfl | rfl | rfl | rfl <;> rfl
def ziU (a b:Gapi_Place):Bool:=(a.Byte==b.Byte)&&(a.Rune==b.Rune)&&(a.Unit==b.Unit)&&(a.Line==b.Line)&&(a.Col==b.Col)
theorem zjs (a b:Gapi_Place):ziU a b=true↔a=b:=by
 rcases a with ⟨a0,a1,a2,a3,a4⟩
 rcases b with ⟨b0,b1,b2,b3,b4⟩
 simp [ziU,Bool.and_eq_true,and_assoc]
instance:DecidableEq Gapi_Place:=fun a b=>decidable_of_iff _ (zjs a b)
@[ext] structure Gplace_ended where
 span_From:Int
 span_To:Int
 end_:Int
 first:Int
def zdy (x:Gplace_ended):List Value:=[.int .i64 x.span_From,.int .i64 x.span_To,.int .i64 x.end_,.int .i64 x.first]
theorem zcI (x:Gplace_ended):(zdy x).length=4:=rfl
theorem zfR (x:Gplace_ended):∀ u∈zdy x,u.oneCell'=true:=by
 intro u hu
 simp only [zdy,List.mem_cons,List.not_mem_nil,or_false] at hu
 rcases hu with rfl | rfl | rfl | rfl <;> rfl
def zhz (a b:Gplace_ended):Bool:=(a.span_From==b.span_From)&&(a.span_To==b.span_To)&&(a.end_==b.end_)&&(a.first==b.first)
theorem zih (a b:Gplace_ended):zhz a b=true↔a=b:=by
 rcases a with ⟨a0,a1,a2,a3⟩
 rcases b with ⟨b0,b1,b2,b3⟩
 simp [zhz,Bool.and_eq_true,and_assoc]
instance:DecidableEq Gplace_ended:=fun a b=>decidable_of_iff _ (zih a b)
@[ext] structure Gpage_best where
 cost:Int
 rows:Int
 to_:Int
def zh3 (x:Gpage_best):List Value:=[.int .i64 x.cost,.int .i64 x.rows,.int .i64 x.to_]
theorem zaZ (x:Gpage_best):(zh3 x).length=3:=rfl
def ziS (a b:Gpage_best):Bool:=(a.cost==b.cost)&&(a.rows==b.rows)&&(a.to_==b.to_)
theorem zjq (a b:Gpage_best):ziS a b=true↔a=b:=by
 rcases a with ⟨a0,a1,a2⟩
 rcases b with ⟨b0,b1,b2⟩
 simp [ziS,Bool.and_eq_true,and_assoc]
instance:DecidableEq Gpage_best:=fun a b=>decidable_of_iff _ (zjq a b)
@[ext] structure Gref02_Piece where
 At:Int
 Width:Int
 Rune:Int
def zeg (x:Gref02_Piece):List Value:=[.int .i64 x.At,.int .i64 x.Width,.int .i32 x.Rune]
theorem za2 (x:Gref02_Piece):(zeg x).length=3:=rfl
theorem zhX (x:Gref02_Piece):∀ u∈zeg x,u.oneCell'=true:=by
 intro u hu
 simp only [zeg,List.mem_cons,List.not_mem_nil,or_false] at hu
 rcases hu with rfl | rfl | rfl <;> rfl
def zhy (a b:Gref02_Piece):Bool:=(a.At==b.At)&&(a.Width==b.Width)&&(a.Rune==b.Rune)
theorem zig (a b:Gref02_Piece):zhy a b=true↔a=b:=by
 rcases a with ⟨a0,a1,a2⟩
 rcases b with ⟨b0,b1,b2⟩
 simp [zhy,Bool.and_eq_true,and_assoc]
instance:DecidableEq Gref02_Piece:=fun a b=>decidable_of_iff _ (zig a b)
@[ext] structure T_12_int32 where
 e0:Int
 e1:Int
 e2:Int
 e3:Int
 e4:Int
 e5:Int
 e6:Int
 e7:Int
 e8:Int
 e9:Int
 e10:Int
 e11:Int
def ziR (a b:T_12_int32):Bool:=(a.e0==b.e0)&&(a.e1==b.e1)&&(a.e2==b.e2)&&(a.e3==b.e3)&&(a.e4==b.e4)&&(a.e5==b.e5)&&(a.e6==b.e6)&&(a.e7==b.e7)&&(a.e8==b.e8)&&(a.e9==b.e9)&&(a.e10==b.e10)&&(a.e11==b.e11)
theorem zjp (a b:T_12_int32):ziR a b=true↔a=b:=by
 rcases a with ⟨a0,a1,a2,a3,a4,a5,a6,a7,a8,a9,a10,a11⟩
 rcases b with ⟨b0,b1,b2,b3,b4,b5,b6,b7,b8,b9,b10,b11⟩
 simp [ziR,Bool.and_eq_true,and_assoc]
instance:DecidableEq T_12_int32:=fun a b=>decidable_of_iff _ (zjp a b)
@[ext] structure T_24_uint8 where
 e0:Int
 e1:Int
 e2:Int
 e3:Int
 e4:Int
 e5:Int
 e6:Int
 e7:Int
 e8:Int
 e9:Int
 e10:Int
 e11:Int
 e12:Int
 e13:Int
 e14:Int
 e15:Int
 e16:Int
 e17:Int
 e18:Int
 e19:Int
 e20:Int
 e21:Int
 e22:Int
 e23:Int
@[ext] structure T_20_uint64 where
 e0:Int
 e1:Int
 e2:Int
 e3:Int
 e4:Int
 e5:Int
 e6:Int
 e7:Int
 e8:Int
 e9:Int
 e10:Int
 e11:Int
 e12:Int
 e13:Int
 e14:Int
 e15:Int
 e16:Int
 e17:Int
 e18:Int
 e19:Int
@[ext] structure T_16_utf8_acceptRange where
 e0_lo:Int
 e0_hi:Int
 e1_lo:Int
 e1_hi:Int
 e2_lo:Int
 e2_hi:Int
 e3_lo:Int
 e3_hi:Int
 e4_lo:Int
 e4_hi:Int
 e5_lo:Int
 e5_hi:Int
 e6_lo:Int
 e6_hi:Int
 e7_lo:Int
 e7_hi:Int
 e8_lo:Int
 e8_hi:Int
 e9_lo:Int
 e9_hi:Int
 e10_lo:Int
 e10_hi:Int
 e11_lo:Int
 e11_hi:Int
 e12_lo:Int
 e12_hi:Int
 e13_lo:Int
 e13_hi:Int
 e14_lo:Int
 e14_hi:Int
 e15_lo:Int
 e15_hi:Int
@[ext] structure T_32_uint8 where
 e0:Int
 e1:Int
 e2:Int
 e3:Int
 e4:Int
 e5:Int
 e6:Int
 e7:Int
 e8:Int
 e9:Int
 e10:Int
 e11:Int
 e12:Int
 e13:Int
 e14:Int
 e15:Int
 e16:Int
 e17:Int
 e18:Int
 e19:Int
 e20:Int
 e21:Int
 e22:Int
 e23:Int
 e24:Int
 e25:Int
 e26:Int
 e27:Int
 e28:Int
 e29:Int
 e30:Int
 e31:Int
theorem zmn {x y:Operand} (a b:Gapi_Row) (w:World):(do eqGuard .neq 33 x y (.agg #[.int .i64 a.Line,.int .i64 a.Stanza,.int .i64 a.Part,.int .i64 a.Indent,.int .i64 a.Number,.string a.Text]) (.agg #[.int .i64 b.Line,.int .i64 b.Stanza,.int .i64 b.Part,.int .i64 b.Indent,.int .i64 b.Number,.string b.Text]); binOp .neq 33 (.agg #[.int .i64 a.Line,.int .i64 a.Stanza,.int .i64 a.Part,.int .i64 a.Indent,.int .i64 a.Number,.string a.Text]) (.agg #[.int .i64 b.Line,.int .i64 b.Stanza,.int .i64 b.Part,.int .i64 b.Indent,.int .i64 b.Number,.string b.Text]):Sem Value).run Tryz.prog w=.ok (.bool (!zd5 a b)) w :=
 ztl (by as_aux_lemma=>kernel_rfl) (show ((a.Line==b.Line)&&((a.Stanza==b.Stanza)&&((a.Part==b.Part)&&((a.Indent==b.Indent)&&((a.Number==b.Number)&&(decide (a.Text=b.Text)&&true))))))=zd5 a b by simp [zd5,Bool.and_assoc]) (zuL (dd:=9999) (by as_aux_lemma=>kernel_rfl) (by as_aux_lemma=>kernel_rfl) (zme (ft:=3) (off:=0) (a:=.int .i64 a.Line) (b:=.int .i64 b.Line) (by as_aux_lemma=>kernel_rfl) (fun _=>by kernel_rfl) (fun _=>by kernel_rfl) (zk8 Tryz.underlying3) (zme (ft:=3) (off:=1) (a:=.int .i64 a.Stanza) (b:=.int .i64 b.Stanza) (by as_aux_lemma=>kernel_rfl) (fun _=>by kernel_rfl) (fun _=>by kernel_rfl) (zk8 Tryz.underlying3) (zme (ft:=3) (off:=2) (a:=.int .i64 a.Part) (b:=.int .i64 b.Part) (by as_aux_lemma=>kernel_rfl) (fun _=>by kernel_rfl) (fun _=>by kernel_rfl) (zk8 Tryz.underlying3) (zme (ft:=3) (off:=3) (a:=.int .i64 a.Indent) (b:=.int .i64 b.Indent) (by as_aux_lemma=>kernel_rfl) (fun _=>by kernel_rfl) (fun _=>by kernel_rfl) (zk8 Tryz.underlying3) (zme (ft:=3) (off:=4) (a:=.int .i64 a.Number) (b:=.int .i64 b.Number) (by as_aux_lemma=>kernel_rfl) (fun _=>by kernel_rfl) (fun _=>by kernel_rfl) (zk8 Tryz.underlying3) (zme (ft:=9) (off:=5) (a:=.string a.Text) (b:=.string b.Text) (by as_aux_lemma=>kernel_rfl) (fun _=>by kernel_rfl) (fun _=>by kernel_rfl) (zuJ Tryz.underlying9) (zuK (n:=6) (by as_aux_lemma=>kernel_rfl))))))))) w
def zaD (z:(List Gapi_Row)×Hd):List Value:=[z.2.v]
def zaP (z:(List Gapi_Row)×Hd):List Asn:=[vec zbo 33 6 z.2.v z.1]
theorem zet (z:(List Gapi_Row)×Hd):(zaD z).length=1:=rfl
theorem ziY (z:(List Gapi_Row)×Hd):∀ u∈zaD z,u.oneCell'=true:=by
 intro u hu
 simp only [zaD,List.mem_cons,List.not_mem_nil,or_false] at hu
 rcases hu with rfl <;> rfl
def zbz (z:(List ByteArray)×Hd):List Value:=[z.2.v]
def zbx (z:(List ByteArray)×Hd):List Asn:=[vec zrN 9 1 z.2.v z.1]
theorem zdZ (z:(List ByteArray)×Hd):(zbz z).length=1:=rfl
theorem zjv (z:(List ByteArray)×Hd):∀ u∈zbz z,u.oneCell'=true:=by
 intro u hu
 simp only [zbz,List.mem_cons,List.not_mem_nil,or_false] at hu
 rcases hu with rfl <;> rfl
structure Gpage_Book where
 layout_Width:Int
 layout_Height:Int
 layout_Turn:Int
 layout_Every:Int
 pages:List (List Gapi_Row)
 cost:Int
def zbR (z:Gpage_Book×Hd):List Value:=[.int .i64 z.1.layout_Width,.int .i64 z.1.layout_Height,.int .i64 z.1.layout_Turn,.int .i64 z.1.layout_Every,z.2.v,.int .i64 z.1.cost]
def zbQ (z:Gpage_Book×Hd):List Asn:=[zfM zaD zaP 43 1 z.2.v z.1.pages]
structure Gpoem_told where
 title:ByteArray
 lines:List Gapi_Verse
 stanzas:List Gapi_Span
structure Gpoem_Poem where
 told_title:ByteArray
 told_lines:List Gapi_Verse
 told_stanzas:List Gapi_Span
 source:ByteArray
def zcW (z:Gpoem_Poem×Hd×Hd):List Value:=[.string z.1.told_title,z.2.1.v,z.2.2.v,.string z.1.source]
def zcV (z:Gpoem_Poem×Hd×Hd):List Asn:=[vec zbA 76 6 z.2.1.v z.1.told_lines,vec zdI 38 2 z.2.2.v z.1.told_stanzas]
structure Gpage_parter where
 rows:List Gapi_Row
 blanks:List Int
 firsts:List Int
 lasts:List Int
 heights:Int
structure Gref17_Poem where
 Title:ByteArray
 Stanzas:List (List ByteArray)
structure Gplace_Map where
 text:ByteArray
 places:List Gapi_Place
 lines:List Gplace_ended
def zex (z:Gplace_Map×Hd×Hd):List Value:=[.string z.1.text,z.2.1.v,z.2.2.v]
def zev (z:Gplace_Map×Hd×Hd):List Asn:=[vec zem 155 5 z.2.1.v z.1.places,vec zdy 157 4 z.2.2.v z.1.lines]
structure Gpage_turner where
 s:ByteArray
 cells:List Gapi_Cell
 wide:List Int
 ends:List Int
 first:Int
 rest:Int
end Go.Proofs.YtbempdelckaccaaGreatDoor

namespace Go.Proofs.YtbempdelckaccaaGreatDoor
open Go.RowKit Go.Lib
theorem ziB:∀ (P:List Pc) (i:Nat) (l:List UInt8) (x:Pc) (B:List Pc),zdw i l=P++x::B →
  ∃ n,x.i=i+n∧n+x.w≤l.length∧DecOk (l.drop n) x.r x.w∧zdw (i+n) (l.drop n)=x::B∧B=zdw (x.i+x.w) (l.drop (n+x.w))
 | [],i,l,x,B,h=>by
  by_cases hl:l=[]
  ·subst hl; simp [zc6] at h
  ·have hok:=ztf l hl
   have h':=h
   rw [zcw i l hl] at h
   simp only [List.nil_append,List.cons.injEq] at h
   obtain ⟨rfl,hB⟩:=h
   exact ⟨0,by simp,by simpa using hok.le,by simpa using hok,by simpa using h',by simpa using hB.symm⟩
 | p::P,i,l,x,B,h=>by
  by_cases hl:l=[]
  ·subst hl; simp [zc6] at h
  ·have hle:=zmh l hl
   rw [zcw i l hl] at h
   simp only [List.cons_append,List.cons.injEq] at h
   obtain ⟨n,h1,h2,h3,h4,h5⟩:=ziB P _ _ x B h.2
   refine ⟨(decodeL l).2+n,by omega,by simp at h2; omega,by rw [← List.drop_drop]; exact h3,by rw [← List.drop_drop,← Nat.add_assoc]; exact h4,?_⟩
   rw [h5,List.drop_drop,Nat.add_assoc]
theorem ziA (l:List UInt8) (P:List Pc) (x:Pc) (B:List Pc) (h:pcs l=P++x::B) :
  x.i+x.w≤l.length∧DecOk (l.drop x.i) x.r x.w∧zdw x.i (l.drop x.i)=x::B∧B=zdw (x.i+x.w) (l.drop (x.i+x.w)):=by
 obtain ⟨n,h1,h2,h3,h4,h5⟩:=ziB P 0 l x B h
 have:x.i=n:=by omega
 subst this
 exact ⟨h2,h3,by simpa using h4,h5⟩
theorem zga (l:List UInt8) (x:Pc) (h:x∈pcs l):1≤x.w∧x.i+x.w≤l.length∧DecOk (l.drop x.i) x.r x.w:=by
 obtain ⟨P,B,hs⟩:=List.append_of_mem h
 obtain ⟨h1,h2,_⟩:=ziA l P x B hs
 exact ⟨h2.pos,h1,h2⟩
end Go.Proofs.YtbempdelckaccaaGreatDoor

namespace Go.Proofs.YtbempdelckaccaaGreatDoor
open Go.RowKit Go.Lib
structure Tok where
 r:Nat
 bs:List UInt8
 deriving DecidableEq
def Tok.broken (t:Tok):Bool:=t.r==65533&&t.bs.length==1
def Tok.valid (t:Tok):Prop:=(t.r<55296∨(57343<t.r∧t.r≤1114111))∧t.bs=encodeRune t.r
def zgx (ts:List Tok):List UInt8:=ts.flatMap Tok.bs
def zlC:Nat→List UInt8→List Tok
 | 0,_=>[]
 | f+1,l=>if l=[] then [] else ⟨(decodeL l).1,l.take (decodeL l).2⟩::zlC f (l.drop (decodeL l).2)
def zkq (l:List UInt8):List Tok:=zlC l.length l
theorem zhv (t:Tok) (ts:List Tok):zgx (t::ts)=t.bs++zgx ts:=by simp [zgx]
theorem ze3 (a b:List Tok):zgx (a++b)=zgx a++zgx b:=by simp [zgx]
theorem znt:∀ (f g:Nat) (l:List UInt8),l.length≤f→l.length≤g→zlC f l=zlC g l:=by
 intro f
 induction f with
 | zero =>
  intro g l h1 h2
  have:l=[]:=List.eq_nil_of_length_eq_zero (by omega)
  subst this
  cases g <;> simp [zlC]
 | succ f ih =>
  intro g l h1 h2
  cases g with
  | zero =>
   have:l=[]:=List.eq_nil_of_length_eq_zero (by omega)
   subst this
   simp [zlC]
  | succ g =>
   by_cases hl:l=[]
   ·simp [zlC,hl]
   ·simp only [zlC,hl,if_false]
    have:=zgY l
    have hlen:0<l.length:=List.length_pos_iff.2 hl
    rw [ih g _ (by simp; omega) (by simp; omega)]
theorem ziq:zkq []=[]:=by simp [zkq,zlC]
theorem zf5 (l:List UInt8) (h:l≠[]):zkq l=⟨(decodeL l).1,l.take (decodeL l).2⟩::zkq (l.drop (decodeL l).2):=by
 have hlen:0<l.length:=List.length_pos_iff.2 h
 unfold zkq
 obtain ⟨n,hn⟩:∃ n,l.length=n+1:=⟨l.length - 1,by omega⟩
 rw [hn]
 simp only [zlC,h,if_false]
 have:=zgY l
 rw [znt n (l.drop (decodeL l).2).length _ (by simp; omega) (Nat.le_refl _)]
theorem zfU {P:List UInt8→Prop} (h0:P []) (h1:∀ l,l≠[]→P (l.drop (decodeL l).2)→P l):∀ l,P l:=by
 have key:∀ (n:Nat) (l:List UInt8),l.length≤n→P l:=by
  intro n
  induction n with
  | zero=>intro l hl; rw [List.eq_nil_of_length_eq_zero (by omega:l.length=0)]; exact h0
  | succ n ih =>
   intro l hl
   by_cases hn:l=[]
   ·rw [hn]; exact h0
   ·have:=zgY l
    exact h1 l hn (ih _ (by simp; omega))
 exact fun l=>key l.length l (Nat.le_refl _)
theorem zrC (l:List UInt8):zgx (zkq l)=l:=by
 induction l using zfU with
 | h0=>rw [ziq]; rfl
 | h1 l hn ih=>rw [zf5 l hn,zhv,ih]; exact List.take_append_drop _ _
theorem zvA (l:List UInt8) (h:l≠[]):(⟨(decodeL l).1,l.take (decodeL l).2⟩:Tok).valid∨(⟨(decodeL l).1,l.take (decodeL l).2⟩:Tok).broken=true:=by
 by_cases hb:(decodeL l).1=65533∧(decodeL l).2=1
 ·right
  have hlen:0<l.length:=List.length_pos_iff.2 h
  simp [Tok.broken,hb.1,hb.2]; omega
 ·left
  exact ⟨zn8 l,(encode_decode l h hb).symm⟩
theorem zuc (l:List UInt8):∀ t∈zkq l,t.valid∨t.broken=true:=by
 induction l using zfU with
 | h0=>rw [ziq]; simp
 | h1 l hn ih =>
  rw [zf5 l hn]
  intro t ht
  rcases List.mem_cons.1 ht with rfl | ht
  ·exact zvA l hn
  ·exact ih t ht
theorem zuZ {t:Tok} (h:t.valid∨t.broken=true):t.bs≠[]:=by
 rcases h with h | h
 ·rw [h.2]; intro e; have:=(zh2 (t.r:Int)).1; rw [e] at this; simp at this
 ·intro e; unfold Tok.broken at h; rw [e] at h; simp at h
def zuV (b:UInt8):Bool:=b.toNat / 64==2
def ztt:List UInt8→Prop
 | []=>True
 | b::_=>zuV b=false
theorem zne {n b0 b1 b2 b3 c1 c2 c3 m:Nat} (h1:n≤1∨b1 / 64≠2) (h2:m≤1∨c1 / 64≠2):decodeN n b0 b1 b2 b3=decodeN m b0 c1 c2 c3:=by
 unfold decodeN
 have e1:¬ (1<n∧b1 / 64=2):=by omega
 have e2:¬ (1<m∧c1 / 64=2):=by omega
 simp only [e1,e2,and_false,false_and,if_false]
theorem znd {n b0 b1 b2 b3 c2 c3 m:Nat} (hn:1<n) (hm:1<m) (h1:n≤2∨b2 / 64≠2) (h2:m≤2∨c2 / 64≠2):decodeN n b0 b1 b2 b3=decodeN m b0 b1 c2 c3:=by
 unfold decodeN
 have e1:¬ (2<n∧b2 / 64=2):=by omega
 have e2:¬ (2<m∧c2 / 64=2):=by omega
 simp only [e1,e2,and_false,false_and,if_false,hn,hm,true_and]
theorem znc {n b0 b1 b2 b3 c3 m:Nat} (hn:2<n) (hm:2<m) (h1:n≤3∨b3 / 64≠2) (h2:m≤3∨c3 / 64≠2):decodeN n b0 b1 b2 b3=decodeN m b0 b1 b2 c3:=by
 unfold decodeN
 have e1:¬ (3<n∧b3 / 64=2):=by omega
 have e2:¬ (3<m∧c3 / 64=2):=by omega
 have h1n:1<n:=by omega
 have h1m:1<m:=by omega
 simp only [e1,e2,and_false,if_false,hn,hm,h1n,h1m,true_and]
theorem znb {n b0 b1 b2 b3 m:Nat} (hn:3<n) (hm:3<m):decodeN n b0 b1 b2 b3=decodeN m b0 b1 b2 b3:=by
 unfold decodeN
 have h1n:1<n:=by omega
 have h1m:1<m:=by omega
 have h2n:2<n:=by omega
 have h2m:2<m:=by omega
 simp only [hn,hm,h1n,h1m,h2n,h2m,true_and]
theorem zmE {x:List UInt8} (h:ztt x) (n:Nat):n+x.length≤n∨(x.getD 0 0).toNat / 64≠2:=by
 cases x with
 | nil=>simp
 | cons b x=>right; simpa [ztt,zuV] using h
theorem zte (l x:List UInt8) (hl:l≠[]) (hx:ztt x):decodeL (l++x)=decodeL l:=by
 rw [decodeL_N,decodeL_N]
 rcases l with _ | ⟨a,_ | ⟨b,_ | ⟨c,_ | ⟨d,l⟩⟩⟩⟩
 ·exact absurd rfl hl
 ·refine zne ?_ (.inl (by simp))
  rcases zmE hx 1 with h | h
  ·left; simp only [List.length_append,List.length_cons,List.length_nil]; omega
  ·right; simpa using h
 ·refine znd (by simp) (by simp) ?_ (.inl (by simp))
  rcases zmE hx 2 with h | h
  ·left; simp only [List.length_append,List.length_cons,List.length_nil]; omega
  ·right; simpa using h
 ·refine znc (by simp) (by simp) ?_ (.inl (by simp))
  rcases zmE hx 3 with h | h
  ·left; simp only [List.length_append,List.length_cons,List.length_nil]; omega
  ·right; simpa using h
 ·exact znb (by simp) (by simp)
theorem zf6 (l x:List UInt8) (hx:ztt x):zkq (l++x)=zkq l++zkq x:=by
 induction l using zfU with
 | h0=>rw [ziq]; rfl
 | h1 l hn ih =>
  have hle:=zmh l hn
  have hne:l++x≠[]:=by simp [hn]
  rw [zf5 _ hne,zf5 l hn,zte l x hn hx,List.drop_append_of_le_length hle,ih,List.take_append_of_le_length hle]
  rfl
theorem zju (r:Nat) (hv:r<55296∨(57343<r∧r≤1114111)) :
  (r≤127∧encodeRuneZ r=[(r:Int)])∨(128≤r∧r≤2047∧encodeRuneZ r=[192+(r:Int) / 64,128+(r:Int) % 64]) ∨
  (2048≤r∧r≤65535∧encodeRuneZ r=[224+(r:Int) / 4096,128+(r:Int) / 64 % 64,128+(r:Int) % 64]) ∨
  (65536≤r∧r≤1114111∧encodeRuneZ r=[240+(r:Int) / 262144,128+(r:Int) / 4096 % 64,128+(r:Int) / 64 % 64,128+(r:Int) % 64]):=by
 by_cases h1:r≤127
 ·exact .inl ⟨h1,encodeRuneZ_one (by omega) (by omega)⟩
 ·by_cases h2:r≤2047
  ·exact .inr (.inl ⟨by omega,h2,encodeRuneZ_two (by omega) (by omega)⟩)
  ·by_cases h3:r≤65535
   ·exact .inr (.inr (.inl ⟨by omega,h3,encodeRuneZ_three (by omega)⟩))
   ·exact .inr (.inr (.inr ⟨by omega,by omega,encodeRuneZ_four (by omega) (by omega)⟩))
theorem zer (z:Int) (_h0:0≤z) (h1:z<256):(z.toNat.toUInt8).toNat=z.toNat:=by
 simp; omega
theorem znf (r:Nat) (hv:r<55296∨(57343<r∧r≤1114111)) (x:List UInt8):decodeL (encodeRune r++x)=(r,(encodeRune r).length):=by
 rw [decodeL_N]
 rcases zju r hv with ⟨h,e⟩ | ⟨h,h',e⟩ | ⟨h,h',e⟩ | ⟨h,h',e⟩
 ·have hl:encodeRune r=[((r:Int).toNat.toUInt8)]:=by simp only [encodeRune,e,List.map_cons,List.map_nil]
  rw [hl]
  simp only [List.cons_append,List.nil_append,List.getD_cons_zero,List.length_cons]
  rw [zer _ (by omega) (by omega)]
  unfold decodeN
  simp only [Int.toNat_natCast]
  rw [if_pos (by omega)]
  simp
 ·have hl:encodeRune r=[((192+(r:Int) / 64).toNat.toUInt8),((128+(r:Int) % 64).toNat.toUInt8)]:=by simp only [encodeRune,e,List.map_cons,List.map_nil]
  rw [hl]
  simp only [List.cons_append,List.nil_append,List.getD_cons_zero,List.getD_cons_succ,List.length_cons]
  rw [zer _ (by omega) (by omega),zer _ (by omega) (by omega)]
  have a1:(192+(r:Int) / 64).toNat=192+r / 64:=by omega
  have a2:(128+(r:Int) % 64).toNat=128+r % 64:=by omega
  rw [a1,a2]
  unfold decodeN
  have c1:¬ 192+r / 64<128:=by omega
  have c2:(192+r / 64) / 32=6:=by omega
  have c3:(128+r % 64) / 64=2:=by omega
  have c4:(192+r / 64) % 32*64+(128+r % 64) % 64=r:=by omega
  have c5:128≤r:=by omega
  rw [if_neg c1,if_pos ⟨c2,by omega,c3⟩,c4,if_pos c5]
  rfl
 ·have hl:encodeRune r=[((224+(r:Int) / 4096).toNat.toUInt8),((128+(r:Int) / 64 % 64).toNat.toUInt8),((128+(r:Int) % 64).toNat.toUInt8)]:=by simp only [encodeRune,e,List.map_cons,List.map_nil]
  rw [hl]
  simp only [List.cons_append,List.nil_append,List.getD_cons_zero,List.getD_cons_succ,List.length_cons]
  rw [zer _ (by omega) (by omega),zer _ (by omega) (by omega),zer _ (by omega) (by omega)]
  have a1:(224+(r:Int) / 4096).toNat=224+r / 4096:=by omega
  have a2:(128+(r:Int) / 64 % 64).toNat=128+r / 64 % 64:=by omega
  have a3:(128+(r:Int) % 64).toNat=128+r % 64:=by omega
  rw [a1,a2,a3]
  unfold decodeN
  have c1:¬ 224+r / 4096<128:=by omega
  have c2:(224+r / 4096) / 32≠6:=by omega
  have c2':(224+r / 4096) / 16=14:=by omega
  have c3:(128+r / 64 % 64) / 64=2:=by omega
  have c3':(128+r % 64) / 64=2:=by omega
  have c4:(224+r / 4096) % 16*4096+(128+r / 64 % 64) % 64*64+(128+r % 64) % 64=r:=by omega
  have c5:2048≤r:=by omega
  rw [if_neg c1,if_neg (fun h=>c2 h.1),if_pos ⟨c2',⟨by omega,c3⟩,⟨by omega,c3'⟩⟩,c4,if_pos ⟨c5,by omega⟩]
  rfl
 ·have hl:encodeRune r=[((240+(r:Int) / 262144).toNat.toUInt8),((128+(r:Int) / 4096 % 64).toNat.toUInt8),((128+(r:Int) / 64 % 64).toNat.toUInt8),((128+(r:Int) % 64).toNat.toUInt8)]:=by simp only [encodeRune,e,List.map_cons,List.map_nil]
  rw [hl]
  simp only [List.cons_append,List.nil_append,List.getD_cons_zero,List.getD_cons_succ,List.length_cons]
  rw [zer _ (by omega) (by omega),zer _ (by omega) (by omega),zer _ (by omega) (by omega),zer _ (by omega) (by omega)]
  have a1:(240+(r:Int) / 262144).toNat=240+r / 262144:=by omega
  have a2:(128+(r:Int) / 4096 % 64).toNat=128+r / 4096 % 64:=by omega
  have a2':(128+(r:Int) / 64 % 64).toNat=128+r / 64 % 64:=by omega
  have a3:(128+(r:Int) % 64).toNat=128+r % 64:=by omega
  rw [a1,a2,a2',a3]
  unfold decodeN
  have c1:¬ 240+r / 262144<128:=by omega
  have c2:(240+r / 262144) / 32≠6:=by omega
  have c2':(240+r / 262144) / 16≠14:=by omega
  have c2'':(240+r / 262144) / 8=30:=by omega
  have c3:(128+r / 4096 % 64) / 64=2:=by omega
  have c3':(128+r / 64 % 64) / 64=2:=by omega
  have c3'':(128+r % 64) / 64=2:=by omega
  have c4:(240+r / 262144) % 8*262144+(128+r / 4096 % 64) % 64*4096+(128+r / 64 % 64) % 64*64+(128+r % 64) % 64=r:=by omega
  have c5:65536≤r:=by omega
  rw [if_neg c1,if_neg (fun h=>c2 h.1),if_neg (fun h=>c2' h.1),if_pos ⟨c2'',⟨by omega,c3⟩,⟨by omega,c3'⟩,⟨by omega,c3''⟩⟩,c4,if_pos ⟨c5,by omega⟩]
  rfl
theorem zsI (r:Nat) (hv:r<55296∨(57343<r∧r≤1114111)) (x:List UInt8):ztt (encodeRune r++x):=by
 rcases zju r hv with ⟨h,e⟩ | ⟨h,h',e⟩ | ⟨h,h',e⟩ | ⟨h,h',e⟩ <;>
 ·simp only [encodeRune,e,List.map_cons,List.map_nil,List.cons_append,ztt,zuV,beq_eq_false_iff_ne,ne_eq]
  rw [zer _ (by omega) (by omega)]
  omega
theorem zpU {t:Tok} (h:t.valid) (x:List UInt8):zkq (t.bs++x)=t::zkq x:=by
 have hne:t.bs++x≠[]:=by simp [zuZ (.inl h)]
 rw [zf5 _ hne]
 rw [h.2,znf t.r h.1 x,← h.2]
 simp
theorem zoz {vs:List Tok} (h:∀ t∈vs,t.valid) (x:List UInt8):zkq (zgx vs++x)=vs++zkq x:=by
 induction vs with
 | nil=>rfl
 | cons t vs ih =>
  rw [zhv,List.append_assoc,zpU (h t (List.mem_cons_self ..)),ih (fun q hq=>h q (List.mem_cons_of_mem _ hq))]
  rfl
theorem zkw {vs:List Tok} (hne:vs≠[]) (h:∀ t∈vs,t.valid) (x:List UInt8):ztt (zgx vs++x):=by
 cases vs with
 | nil=>exact absurd rfl hne
 | cons t vs =>
  have:=h t (List.mem_cons_self ..)
  rw [zhv,List.append_assoc,this.2]
  exact zsI t.r this.1 _
def zqB (ts:List Tok):Prop:=zkq (zgx ts)=ts
theorem zkU {t:Tok} {ts:List Tok} (h:zqB (t::ts)):zqB ts:=by
 unfold zqB at *
 by_cases hn:zgx (t::ts)=[]
 ·rw [hn,ziq] at h; cases h
 ·rw [zf5 _ hn] at h
  have h1:(⟨(decodeL (zgx (t::ts))).1,(zgx (t::ts)).take (decodeL (zgx (t::ts))).2⟩:Tok)=t:=by injection h
  have h2:zkq ((zgx (t::ts)).drop (decodeL (zgx (t::ts))).2)=ts:=by injection h
  have h3:(zgx (t::ts)).take (decodeL (zgx (t::ts))).2=t.bs:=congrArg Tok.bs h1
  have h4:=List.take_append_drop (decodeL (zgx (t::ts))).2 (zgx (t::ts))
  rw [h3] at h4
  have h5:(zgx (t::ts)).drop (decodeL (zgx (t::ts))).2=zgx ts:=by
   rw [zhv] at h4 ⊢
   exact List.append_cancel_left h4
  rw [← h5]; exact h2
theorem zkV {a ts:List Tok} (h:zqB (a++ts)):zqB ts:=by
 induction a with
 | nil=>exact h
 | cons t a ih=>exact ih (zkU h)
inductive Sub:List Tok→List Tok→Prop
 | nil:Sub [] []
 | brk {b:Tok} {ts us:List Tok}:b.broken=true→Sub ts us→Sub (b::ts) (b::us)
 | val {gs vs ts us:List Tok}:gs≠[]→vs≠[]→(∀ t∈gs,t.valid)→(∀ t∈vs,t.valid)→Sub ts us→Sub (gs++ts) (vs++us)
theorem Sub.one {t:Tok} {vs ts us:List Tok} (ht:t.valid) (hn:vs≠[]) (hv:∀ t∈vs,t.valid) (h:Sub ts us):Sub (t::ts) (vs++us) :=
 Sub.val (gs:=[t]) (by simp) hn (by simpa using ht) hv h
theorem Sub.head {ts us:List Tok} (h:Sub ts us):∃ B ts' us',(∀ b∈B,b.broken=true)∧ts=B++ts'∧us=B++us'∧ztt (zgx ts')∧ztt (zgx us'):=by
 induction h with
 | nil=>exact ⟨[],[],[],by simp,rfl,rfl,trivial,trivial⟩
 | brk hb _ ih =>
  obtain ⟨B,ts',us',h1,rfl,rfl,h4,h5⟩:=ih
  exact ⟨_::B,ts',us',by simpa [hb] using h1,rfl,rfl,h4,h5⟩
 | @val gs vs ts us h1 h2 h3 h4 _ ih =>
  exact ⟨[],gs++ts,vs++us,by simp,rfl,rfl,by rw [ze3]; exact zkw h1 h3 _,by rw [ze3]; exact zkw h2 h4 _⟩
theorem Sub.good {ts us:List Tok} (h:Sub ts us) (hg:zqB ts):zqB us:=by
 induction h with
 | nil=>exact hg
 | @brk b ts us hb hs ih =>
  have ih':=ih (zkU hg)
  obtain ⟨B,ts',us',h1,rfl,rfl,h4,h5⟩:=hs.head
  unfold zqB at *
  have hne:b.bs≠[]:=zuZ (.inr hb)
  have e1:zgx (b::(B++ts'))=zgx (b::B)++zgx ts':=by rw [← List.cons_append,ze3]
  have e2:zgx (b::(B++us'))=zgx (b::B)++zgx us':=by rw [← List.cons_append,ze3]
  rw [e1,zf6 _ _ h4] at hg
  rw [e2,zf6 _ _ h5]
  have g1:zkq (zgx ts')=ts':=by
   have:=zkV (a:=B) (ts:=ts') (by
    have hh:zqB (b::(B++ts')):=by unfold zqB; rw [e1,zf6 _ _ h4]; exact hg
    exact zkU hh)
   exact this
  rw [ze3,zf6 _ _ h5] at ih'
  have g2:zkq (zgx us')=us':=zkV (a:=B) (by unfold zqB; rw [ze3,zf6 _ _ h5]; exact ih')
  rw [g1,← List.cons_append] at hg
  rw [g2,← List.cons_append]
  rw [List.append_cancel_right hg]
 | @val gs vs ts us h1 h2 h3 h4 _ ih =>
  unfold zqB
  rw [ze3,zoz h4,show zkq (zgx us)=us from ih (zkV hg)]
def place:Nat→List Tok→List Pc
 | _,[]=>[]
 | i,t::ts=>⟨i,t.bs.length,t.r⟩::place (i+t.bs.length) ts
theorem zri (l:List UInt8):∀ i,zdw i l=place i (zkq l):=by
 induction l using zfU with
 | h0=>intro i; rw [ziq,zc6]; rfl
 | h1 l hn ih =>
  intro i
  have hle:=zmh l hn
  have e:(l.take (decodeL l).2).length=(decodeL l).2:=by simp; omega
  rw [zcw i l hn,zf5 l hn,place,ih,e]
end Go.Proofs.YtbempdelckaccaaGreatDoor

namespace Go.Proofs.YtbempdelckaccaaGreatDoor
open Go.RowKit Go.Lib
set_option linter.unusedVariables false
set_option linter.unusedSimpArgs false
section
variable {R S:Type} {c:Prop} [Decidable c] {o x z:Option R} {p:Option S} {f:S→Option R} {b:Bool} {y:Option R}
theorem zbm (h:c) (ho:o=x):grd c o=x:=(zoO h).trans ho
theorem zaO {a:S} (h:p=some a) (hf:f a=x):zal p f=x:=(ztm h).trans hf
theorem zaB (hb:b=true) (h:x=z):zaw b x y=z:=(zu2 hb).trans h
theorem zaz (hb:b=false) (h:y=z):zaw b x y=z:=(zu3 hb).trans h
theorem zby {T:Type} {t:T→Option R} {k:T} (h:t k=x):zbi t k=x:=h
theorem zcJ {T:Type} {bot:T} {step:T→T} {n:Nat}:zaF bot step (n+1)=step (zaF bot step n):=rfl
theorem zoP (k:Nat) (h:k≤1000):∃ n,zbT=n+k∧18446744073709550000≤n:=⟨18446744073709551616 - k,by unfold zbT; omega,by omega⟩
end
def vr (r:Int):Prop:=(0≤r∧r<55296)∨(57343<r∧r≤1114111)
instance (r:Int):Decidable (vr r):=by unfold vr; infer_instance
def wd (r:Int):Int:=if vr r then (if r<128 then 1 else if r<2048 then 2 else if r<65536 then 3 else 4) else 0
theorem zqq {l:List Int} {s:ByteArray} (h:l.map (fun x=>UInt8.ofNat x.toNat)=s.data.toList):zc0 l=s:=by
 apply ByteArray.ext; unfold zc0; simp [h]
end Go.Proofs.YtbempdelckaccaaGreatDoor

namespace Go.Proofs.YtbempdelckaccaaGreatDoor
open Go.RowKit Go.Lib
set_option linter.unusedVariables false
set_option linter.unusedSimpArgs false
section
variable {R X A B:Type} {xs:List X}
theorem zdG {k:Nat} {x:X} (h:xs[k]?=some x):zcb xs (k:Int)=some x:=zc4 h
theorem zqc {k:Nat} {x:X} (h:xs[k]?=some x):decide ((k:Int)<(xs.length:Int))=true:=decide_eq_true (by have:=(List.getElem?_eq_some_iff.1 h).1; omega)
end
theorem zcm {n:Nat} (h:n≤4611686018427387904):n<zbT:=by unfold zbT; omega
end Go.Proofs.YtbempdelckaccaaGreatDoor

namespace Go.Proofs.YtbempdelckaccaaGreatDoor
open Go.RowKit Go.Lib
set_option linter.unusedVariables false
set_option linter.unusedSimpArgs false
def byI (l:List UInt8) (i:Nat):Int:=((l.getD i 0).toNat:Int)
theorem zuE {s:ByteArray} {a i:Nat} (h:a+i<s.size):zin s ((a:Int)+(i:Int))=some (byI (s.data.toList.drop a) i):=by
 rw [zm1 (n:=a+i) (by omega) h]
 have e:(s.data.toList.drop a).getD i 0=s[a+i]:=by
  rw [List.getD_eq_getElem?_getD,List.getElem?_drop,List.getElem?_eq_getElem (by simpa using h)]
  simp; rfl
 unfold byI; rw [e]
def zye (l:List UInt8):Nat→Int
 | 1=>byI l 0
 | 2=>(byI l 0 - 192)*64+byI l 1 - 128
 | 3=>((byI l 0 - 224)*64+byI l 1 - 128)*64+byI l 2 - 128
 | 4=>(((byI l 0 - 240)*64+byI l 1 - 128)*64+byI l 2 - 128)*64+byI l 3 - 128
 | _=>0
def acc (s:ByteArray) (a n:Nat):Prop:=vr (zye (s.data.toList.drop a) n)∧wd (zye (s.data.toList.drop a) n)=n∧Utf8.encode (zye (s.data.toList.drop a) n)=zbU s a ((a:Int)+n)
theorem zgJ (s:ByteArray) (a n:Nat):(zbU s a ((a:Int)+n)).data.toList=(s.data.toList.drop a).take n:=by
 unfold zbU
 rw [extract_data]
 simp only [Int.toNat_natCast,show ((a:Int)+(n:Int)).toNat=a+n by omega]
 rw [show a+n - a=n by omega]
def pcG (p:Pc):Gapi_Piece:=⟨p.i,p.w,p.r,p.broken⟩
end Go.Proofs.YtbempdelckaccaaGreatDoor

namespace Go.Proofs.YtbempdelckaccaaGreatDoor
open Go.RowKit Go.Lib
set_option linter.unusedVariables false
set_option linter.unusedSimpArgs false
def Rd (w:World) (K:Nat→Prop) (RD:List Asn):Prop:=∀ A∈RD,∃ C,A.P C w∧∀ k,C k→¬ K k
theorem Rd.nil {w:World} {K:Nat→Prop}:Rd w K []:=fun A h=>by cases h
theorem Rd.ext {w0 w:World} {K C:Nat→Prop} {RD:List Asn} (h:Rd w0 K RD) (hx:Ext K C w0 w):Rd w C RD:=fun A hA=>by
 obtain ⟨D,h1,h2⟩:=h A hA
 have hlt:=A.lt h1
 refine ⟨D,A.loc h1 hx.1.size (fun k hk=>hx.1.keep k (hlt k hk) (h2 k hk)),fun k hk hc => ?_⟩
 rcases hx.2 k hc with h | h
 ·exact h2 k hk h
 ·have:=hlt k hk; omega
theorem Rd.append {w:World} {K:Nat→Prop} {A B:List Asn} (h1:Rd w K A) (h2:Rd w K B):Rd w K (A++B):=fun X hX=>by
 rcases List.mem_append.1 hX with h | h
 ·exact h1 X h
 ·exact h2 X h
theorem Rd.at {w0 w:World} {K:Nat→Prop} {L RD:List Asn} {A:Asn} {i:Nat} (h:Rd w0 K RD) (hw:Holds w0 K L w) (hi:RD[i]?=some A):∃ C,A.P C w:=by
 obtain ⟨C,_,hx⟩:=hw
 obtain ⟨D,h1,_⟩:=h.ext hx A (List.mem_of_getElem? hi)
 exact ⟨D,h1⟩
theorem Rd.more {w:World} {K:Nat→Prop} {RD As:List Asn} {A:Asn} {i:Nat} (h:Rd w K RD) (hi:RD[i]?=some A) (hE:∀ C,A.P C w→∀ B∈As,∃ D,B.P D w∧∀ k,D k→C k):Rd w K (RD++As):=by
 refine h.append fun B hB => ?_
 obtain ⟨C,h1,h2⟩:=h A (List.mem_of_getElem? hi)
 obtain ⟨D,h3,h4⟩:=hE C h1 B hB
 exact ⟨D,h3,fun k hk=>h2 k (h4 k hk)⟩
theorem znz {w:World}:∀ {L:List Asn} {C:Nat→Prop},sepL L C w→∀ B∈L,∃ D,B.P D w∧∀ k,D k→C k
 | [],_,_,B,hB=>by cases hB
 | A::L,C,⟨C1,C2,h1,h2,h3,h4⟩,B,hB=>by
  rcases List.mem_cons.1 hB with rfl | hB
  ·exact ⟨C1,h1,fun k hk=>(h4 k).2 (.inl hk)⟩
  ·obtain ⟨D,g1,g2⟩:=znz h2 B hB
   exact ⟨D,g1,fun k hk=>(h4 k).2 (.inr (g2 k hk))⟩
inductive RdS (R RD0:List Asn):List Asn→Prop
 | nil:RdS R RD0 []
 | own {A:Asn} {As R' RD:List Asn} (hs:Splits R As R') (hE:∀ C w,sepL As C w→A.P C w) (h:RdS R RD0 RD):RdS R RD0 (A::RD)
 | ro {A:Asn} {RD:List Asn} (i:Nat) (hi:RD0[i]?=some A) (h:RdS R RD0 RD):RdS R RD0 (A::RD)
theorem RdS.rd {w0 w:World} {K C1 C2:Nat→Prop} {R RD0 RD:List Asn} (h:RdS R RD0 RD) (hR:sepL R C2 w) (hd:∀ k,C1 k→¬ C2 k) (h0:Rd w C1 RD0):Rd w C1 RD:=by
 induction h with
 | nil=>exact Rd.nil
 | @own A As R' RD hs hE h ih =>
  intro B hB
  rcases List.mem_cons.1 hB with rfl | hB
  ·obtain ⟨D1,D2,g1,g2,g3,g4⟩:=hs C2 w hR
   exact ⟨D1,hE D1 w g1,fun k hk hc=>hd k hc ((g4 k).2 (.inl hk))⟩
  ·exact ih B hB
 | @ro A RD i hi h ih =>
  intro B hB
  rcases List.mem_cons.1 hB with rfl | hB
  ·exact h0 _ (List.mem_of_getElem? hi)
  ·exact ih B hB
def FnR (P:Program) (f:FuncId) (vs:List Value) (RD As:List Asn) {β:Type} (V:β→Value) (Bs:β→List Asn):Prop :=
 ∀ w C,Rd w C RD→FnW P f vs As V Bs w C
section
variable {F:Fence} {P:Program} {w0:World} {K:Nat→Prop} {N:Nat} {dfs:List Deferred} {ops:Array Oper} {Q:Exit→Act→World→Prop} {rest:List Oper} {σ σ':List (Nat×Value)} {L L' R As Bs:List Asn} {o:Oper} {v:Value}
 {d:Nat} {t:TypeId} {op:Op} {ty:TypeId} {pos:String} {aft:Array Edge} {g:Option (Nat×Bool)} {x y z:Operand} {c c1 c2:Code} {k:Nat} {A B:Asn} {RO:List (Nat×Obj)} {RD RD0:List Asn} {e:TypeId} {ex:Exit}
theorem FnR.intro {f:FuncId} {fn:Func} {vs:List Value} {β:Type} {V:β→Value} {Bs:β→List Asn} (hf:P.funcs[f]?=some fn) (hb:fn.body=some c) (hn:fn.ntmps=N) (hN:vs.length≤N)
  (h:∀ w0 K,Rd w0 K RD→TC Fence.wide P w0 K N [] (bodyPostM Fence.wide 0 P fn (FR P V Bs w0 K)) c (zg0 vs) As):FnR P f vs RD As V Bs :=
 fun w C hR=>FnW.intro hf hb hn hN (h w C hR)
theorem zls [WideF F] {xs:List Operand} {ats:Array TypeId} {f:FuncId} {first cap:Array Value} {vs vs':List Value} {β:Type} {V:β→Value} {Bs:β→List Asn} {dst:Option Nat} (hRd:Rd w0 K RD0)
  (hg:gd ops σ g=some true) (hx:ev σ x=some (.func (.func f) first cap)) (hxs:evL σ xs=some vs) (hv:first.toList++vs++cap.toList=vs')
  (hent:∀ args w,(callFunc f args).run P w=.ok (.enter f args) w) (hF:FnR P f vs' RD As V Bs) (hs:Splits L As R) (hS:RdS R RD0 RD)
  (h:∀ b a w a',a'=a.put dst (V b)→At N dfs σ a→Holds w0 K (R++Bs b) w→wpListIn F 0 P ops Q rest a' w) :
  TO F P w0 K N dfs ops Q (⟨dst,.call { callee:=.value x,args:=xs.toArray,argTypes:=ats },ty,pos,aft,g⟩::rest) σ L:=by
 intro a w ha hw
 simp only [wpListIn,zgG (o:=⟨dst,.call { callee:=.value x,args:=xs.toArray,argTypes:=ats },ty,pos,aft,g⟩) ha hg,if_true]
 refine ⟨fun f _=>WideF.fn f,?_⟩
 have h1:(execOp a.eval ⟨dst,.call { callee:=.value x,args:=xs.toArray,argTypes:=ats },ty,pos,aft,g⟩).run P w=.ok (.enter f vs'.toArray) w:=by
  have e:first++vs.toArray++cap=vs'.toArray:=by rw [← hv]; simp
  simp only [execOp,resolve,List.map_toArray,ha.evL hxs,ha.ev hx,Deferred.ofValue,Sem.run_bind,Sem.run_pure,Result.andThen_ok,invoke,e,hent]
 rw [Oper.semAt_plain F _ _ (by simp),h1]
 refine ⟨(fun h=>by rw [WideF.depth (F:=F)] at h; cases h),?_⟩
 obtain ⟨C1,C2,hA,g2,g3,hx0,hstep⟩:=hw.split2 hs
 have hRd1:Rd w C1 RD0:=hRd.ext hx0
 refine WideF.calls ((hF w C1 (hS.rd (w0:=w0) (K:=K) g2 g3 hRd1) hA).mono ?_)
 rintro e w' ⟨b,rfl,C',hB,hx'⟩
 exact h b a w' _ rfl ha (hstep _ _ _ hx' hB)
theorem zfY [WideF F] {xs:List Operand} {ats:Array TypeId} {f:FuncId} {first cap:Array Value} {vs vs':List Value} {β:Type} {V:β→Value} {Bs:β→List Asn} (hRd:Rd w0 K RD0)
  (hg:gd ops σ g=some true) (hd:d<N) (hx:ev σ x=some (.func (.func f) first cap)) (hxs:evL σ xs=some vs) (hv:first.toList++vs++cap.toList=vs')
  (hent:∀ args w,(callFunc f args).run P w=.ok (.enter f args) w) (hF:FnR P f vs' RD As V Bs) (hs:Splits L As R) (hS:RdS R RD0 RD)
  (h:∀ b,TO F P w0 K N dfs ops Q rest ((d,V b)::σ) (R++Bs b)) :
  TO F P w0 K N dfs ops Q (⟨some d,.call { callee:=.value x,args:=xs.toArray,argTypes:=ats },ty,pos,aft,g⟩::rest) σ L :=
 zls hRd hg hx hxs hv hent hF hs hS fun b a w a' ha' ha hw=>by subst ha'; exact h b _ _ (ha.put hd _) hw
theorem zcH [WideF F] {xs:List Operand} {ats:Array TypeId} {f:FuncId} {first cap:Array Value} {vs vs':List Value} (hRd:Rd w0 K RD0)
  (hg:gd ops σ g=some true) (hd:d<N) (hx:ev σ x=some (.func (.func f) first cap)) (hxs:evL σ xs=some vs) (hv:first.toList++vs++cap.toList=vs')
  (hent:∀ args w,(callFunc f args).run P w=.ok (.enter f args) w) (hF:FnR P f vs' RD [] (fun _:Unit=>v) (fun _=>[])) (hS:RdS L RD0 RD)
  (h:TO F P w0 K N dfs ops Q rest ((d,v)::σ) L) :
  TO F P w0 K N dfs ops Q (⟨some d,.call { callee:=.value x,args:=xs.toArray,argTypes:=ats },ty,pos,aft,g⟩::rest) σ L :=
 zls hRd hg hx hxs hv hent hF Splits.nil hS fun b a w a' ha' ha hw=>by
  subst ha'
  rw [List.append_nil] at hw
  exact h _ _ (ha.put hd _) hw
section
variable {i:Nat}
theorem zbk [WideF F] {b j:Nat} {l:List Value} {e:TypeId} (hr:Rd w0 K RD) (hi:RD[i]?=some (cells b l e)) (hT:zce P t) (hg:gd ops σ g=some true) (hd:d<N) (hx:ev σ x=some (.pointer (some ⟨b,j,none⟩))) (hj:l[j]?=some v)
  (h:TO F P w0 K N dfs ops Q rest ((d,v)::σ) L):TO F P w0 K N dfs ops Q (⟨some d,.load t x,ty,pos,aft,g⟩::rest) σ L:=by
 obtain ⟨dd,hu,hrow⟩:=hT
 exact zdt hg hd (by simp) (fun a w ha hw=>by
  obtain ⟨C,hC⟩:=hr.at hw hi
  have hc:w.cell? ⟨b,j,none⟩=some v:=ze4 hC.2 (by simpa using hj)
  cases dd <;> simp_all [execOp,ha.ev hx,Instr.loadAt,Instr.sureAddr,loadVar,isAgg,Sem.run_bind,run_underlying hu]) h
variable {α:Type} {enc:α→List Value} {size:Nat} {vv:Value} {xs:List α}
theorem zmy {w:World} {C:Nat→Prop} (h:(vec enc e size vv xs).P C w):Vw vv xs size 0 vv xs:=by
 have hw:Holds w (fun _=>False) [vec enc e size vv xs] w→Vw vv xs size 0 vv xs:=fun hh=>zkn (k:=0) hh rfl
 have:Holds w C [vec enc e size vv xs] w:=⟨C,sepL.one h,Ext.refl _ _⟩
 exact zkn (k:=0) this rfl
theorem Rd.vw {w:World} (hr:Rd w K RD) (hi:RD[i]?=some (vec enc e size vv xs)):Vw vv xs size 0 vv xs:=by
 obtain ⟨C,hC,_⟩:=hr _ (List.mem_of_getElem? hi)
 exact zmy hC
theorem zcy [WideF F] {n j off:Nat} {q:α} (hr:Rd w0 K RD) (hi:RD[i]?=some (vec enc e size vv xs)) (hT:zce P t) (hz:∀ x,(enc x).length=size) (hg:gd ops σ g=some true) (hd:d<N) (hx:ev σ x=some (.pointer (some ⟨zcN vv,off,none⟩)))
  (hq:xs[n]?=some q) (ho:off=n*size+j) (hj:j<size) (hv:(enc q)[j]?=some v) (h:TO F P w0 K N dfs ops Q rest ((d,v)::σ) L) :
  TO F P w0 K N dfs ops Q (⟨some d,.load t x,ty,pos,aft,g⟩::rest) σ L:=by
 subst ho
 obtain ⟨dd,hu,hr'⟩:=hT
 refine zdt hg hd (by simp) (fun a w ha hw => ?_) h
 obtain ⟨C,hC⟩:=hr.at hw hi
 have hV:Vec enc e size vv xs C w:=hC
 have hc:=hV.cellAt hz hq hj hv
 have h1:=ha.ev hx
 cases dd <;> simp_all [execOp,Instr.loadAt,Instr.sureAddr,loadVar,isAgg,Sem.run_bind,run_underlying hu]
theorem zeI [WideF F] {m j off n:Nat} {q:α} {cs:List Value} (hr:Rd w0 K RD) (hi:RD[i]?=some (vec enc e size vv xs)) (hT:zhF P t n) (hz:∀ x,(enc x).length=size) (hg:gd ops σ g=some true) (hd:d<N) (hx:ev σ x=some (.pointer (some ⟨zcN vv,off,none⟩)))
  (hq:xs[m]?=some q) (ho:off=m*size+j) (hcs:((enc q).drop j).take n=cs) (hn:cs.length=n)
  (h:TO F P w0 K N dfs ops Q rest ((d,.agg cs.toArray)::σ) L):TO F P w0 K N dfs ops Q (⟨some d,.load t x,ty,pos,aft,g⟩::rest) σ L:=by
 subst ho; subst hn
 obtain ⟨dd,hu,hr',hi'⟩:=hT
 refine zdt hg hd (by simp) (fun a w ha hw => ?_) h
 obtain ⟨C,hC⟩:=hr.at hw hi
 have hV:Vec enc e size vv xs C w:=hC
 have hc:w.rangeAt (zcN vv) (m*size+j) cs:=fun n u hn=>by
  rw [← hcs] at hn
  rw [List.getElem?_take] at hn
  split at hn
  ·rw [List.getElem?_drop] at hn
   have hl:j+n<size:=by rw [← hz q]; exact (List.getElem?_eq_some_iff.1 hn).1
   have:=hV.cellAt hz hq hl hn
   rwa [← Nat.add_assoc] at this
  ·cases hn
 simp only [execOp,ha.ev hx,Sem.run_bind,run_loadAt_mid w _ _ t cs dd hc hu hr' hi']; rfl
end
end
section
variable {α η:Type} {enc:α×η→List Value} {nest:α×η→List Asn} {t:TypeId} {p:Value} {x:α}
def zmV (enc:α×η→List Value) (nest:α×η→List Asn) (t:TypeId) (p:Value):Option α→Asn
 | none=>zwi (p=.pointer none)
 | some x=>exA fun bh:Nat×η=>zhe (zwi (p=.pointer (some ⟨bh.1,0,none⟩))::cells bh.1 (enc (x,bh.2)) t::nest (x,bh.2))
theorem fact_sep {q:Prop} {L:List Asn} {C:Nat→Prop} {w:World}:sepL (zwi q::L) C w↔q∧sepL L C w:=by
 constructor
 ·rintro ⟨C1,C2,⟨h1,hq⟩,h2,h3,h4⟩
  have:C=C2:=funext fun k=>propext ⟨fun h=>((h4 k).1 h).resolve_left (h1 k),fun h=>(h4 k).2 (.inr h)⟩
  subst this
  exact ⟨hq,h2⟩
 ·rintro ⟨hq,h⟩
  exact ⟨fun _=>False,C,⟨fun _ h=>h,hq⟩,h,fun _ h=>h.elim,fun k=>by simp⟩
theorem pobj_some {C:Nat→Prop} {w:World}:(zmV enc nest t p (some x)).P C w↔∃ b h,p=.pointer (some ⟨b,0,none⟩)∧sepL (cells b (enc (x,h)) t::nest (x,h)) C w:=by
 constructor
 ·rintro ⟨⟨b,h⟩,hh⟩
  obtain ⟨h1,h2⟩:=fact_sep.1 hh
  exact ⟨b,h,h1,h2⟩
 ·rintro ⟨b,h,h1,h2⟩
  exact ⟨⟨b,h⟩,fact_sep.2 ⟨h1,h2⟩⟩
theorem zut {b:Nat} {hd:η} {w:World} {C:Nat→Prop} (h:sepL (cells b (enc (x,hd)) t::nest (x,hd)) C w):(zmV enc nest t (.pointer (some ⟨b,0,none⟩)) (some x)).P C w:=pobj_some.2 ⟨b,hd,rfl,h⟩
theorem zjE {b:Nat} {hd:η}:Entl (cells b (enc (x,hd)) t::nest (x,hd)) (fun _:Unit=>[zmV enc nest t (.pointer (some ⟨b,0,none⟩)) (some x)]) (fun _=>True):=fun C w h=>⟨(),trivial,sepL.one1.2 (zut h)⟩
theorem zl8 {m:Option α} {C:Nat→Prop} {w:World} (h:(zmV enc nest t p m).P C w):(m=none∧p=.pointer none)∨(∃ x b,m=some x∧p=.pointer (some ⟨b,0,none⟩)):=by
 cases m with
 | none=>exact .inl ⟨rfl,h.2⟩
 | some x=>obtain ⟨b,_,h2,_⟩:=pobj_some.1 h; exact .inr ⟨x,b,rfl,h2⟩
end
end Go.Proofs.YtbempdelckaccaaGreatDoor

namespace Go.Proofs.YtbempdelckaccaaGreatDoor
open Go.RowKit Go.Lib
set_option linter.unusedVariables false
set_option linter.unusedSimpArgs false
def zfS (s:ByteArray) (k:Nat):Nat:=match (pcs s.data.toList)[k]? with
 | some p=>p.i
 | none=>s.size
theorem zp8 {s:ByteArray} {k:Nat} {p:Pc} (h:(pcs s.data.toList)[k]?=some p):zfS s k=p.i:=by simp [zfS,h]
theorem zp7 (s:ByteArray):zfS s 0=0:=by
 unfold zfS
 by_cases h:s.data.toList=[]
 ·have:s.size=0:=by have:=congrArg List.length h; simpa using this
  simp [h,pcs,zc6,this]
 ·simp [pcs,zcw 0 _ h]
theorem zp9 {s:ByteArray} {k:Nat} {p:Pc} (h:(pcs s.data.toList)[k]?=some p):zfS s (k+1)=p.i+p.w∧zdw p.i (s.data.toList.drop p.i)=p::(pcs s.data.toList).drop (k+1):=by
 have hk:k<(pcs s.data.toList).length:=(List.getElem?_eq_some_iff.1 h).1
 have he:pcs s.data.toList=(pcs s.data.toList).take k++p::(pcs s.data.toList).drop (k+1):=by
  have h1:=List.drop_eq_getElem_cons hk
  have h2:(pcs s.data.toList)[k]=p:=(List.getElem?_eq_some_iff.1 h).2
  rw [h2] at h1
  rw [← h1,List.take_append_drop]
 obtain ⟨q1,q2,q3,q4⟩:=ziA s.data.toList _ p _ he
 have hlen:s.data.toList.length=s.size:=by rw [Array.length_toList]; rfl
 refine ⟨?_,q3⟩
 unfold zfS
 have hget:(pcs s.data.toList)[k+1]?=((pcs s.data.toList).drop (k+1))[0]?:=by simp
 rw [hget,q4]
 by_cases hd':s.data.toList.drop (p.i+p.w)=[]
 ·rw [hd',zc6]
  have h5:=congrArg List.length hd'
  simp only [List.length_drop,List.length_nil,hlen] at h5
  obtain ⟨_,h6,_⟩:=zga s.data.toList p (List.mem_of_getElem? h)
  simp; omega
 ·rw [zcw _ _ hd']; simp
section
variable {F:Fence} {P:Program} {w0:World} {K:Nat→Prop} {N:Nat} {dfs:List Deferred} {ops:Array Oper} {Q:Exit→Act→World→Prop} {rest:List Oper} {σ:List (Nat×Value)} {L:List Asn}
 {d:Nat} {t:TypeId} {ty:TypeId} {pos:String} {aft:Array Edge} {g:Option (Nat×Bool)} {x:Operand} {k:Nat} {s:ByteArray}
theorem zfz [WideF F] (ht:P.underlying t=some .string) (hg:gd ops σ g=some true) (hd:d<N) (hx:ev σ x=some (.string s))
  (h:∀ b,TO F P w0 K N dfs ops Q rest ((d,.pointer (some ⟨b,0,none⟩))::σ) (L++[obj b (.stringIter s (zfS s 0))])):TO F P w0 K N dfs ops Q (⟨some d,.range t x,ty,pos,aft,g⟩::rest) σ L :=
 zgw hg (by simp) fun a w ha hw=>⟨.pointer (some ⟨w.heap.size,0,none⟩),w.alloc (.stringIter s 0),by simp [execOp,ha.ev hx,Instr.range,run_underlying ht,Sem.run_bind],h _ _ _ (ha.put hd _) (by rw [zp7]; exact hw.alloc _)⟩
theorem zf2 [WideF F] {it m:Nat} {p:Pc} (hg:gd ops σ g=some true) (hd:d<N) (hx:ev σ x=some (.pointer (some ⟨it,0,none⟩))) (hk:L[k]?=some (obj it (.stringIter s (zfS s m)))) (hp:(pcs s.data.toList)[m]?=some p)
  (h:TO F P w0 K N dfs ops Q rest ((d,.tuple #[.bool true,.int .i64 p.i,.int .i32 p.r])::σ) (L.set k (obj it (.stringIter s (zfS s (m+1)))))):TO F P w0 K N dfs ops Q (⟨some d,.next x true,ty,pos,aft,g⟩::rest) σ L:=by
 refine zgw hg (by simp) fun a w ha hw => ?_
 have hit:=hw.obj hk
 rw [zp8 hp] at hit
 obtain ⟨h1,h2⟩:=zp9 hp
 have hmem:=List.mem_of_getElem? hp
 obtain ⟨g1,g2,_⟩:=zga s.data.toList p hmem
 have hlen:s.data.toList.length=s.size:=by rw [Array.length_toList]; rfl
 obtain ⟨r,wd,W1,e1,e2,e3,e4,e5,e6,e7,e8⟩:=znR P w it s p.i hit (by omega)
 rw [h2] at e6
 have hpe:p=⟨p.i,wd,r⟩:=(List.cons.inj e6).1
 have hw':p.w=wd:=congrArg Pc.w hpe
 have hr:p.r=r:=congrArg Pc.r hpe
 obtain ⟨C1,c1,c2⟩:=hw.focus hk
 refine ⟨.tuple #[.bool true,.int .i64 p.i,.int .i32 p.r],W1,by rw [hr]; simp [execOp,ha.ev hx,e1,Sem.run_bind],h _ _ (ha.put hd _) (c2 _ C1 W1 ⟨?_,fun j hj=>.inl hj⟩ ⟨c1.1,by rw [h1,hw']; exact e3⟩)⟩
 exact e2.weaken (fun i _ hi=>by subst hi; exact (c1.1 _).2 rfl)
theorem zf3 [WideF F] {it m:Nat} (hg:gd ops σ g=some true) (hd:d<N) (hx:ev σ x=some (.pointer (some ⟨it,0,none⟩))) (hk:L[k]?=some (obj it (.stringIter s (zfS s m)))) (hm:(pcs s.data.toList).length≤m)
  (h:TO F P w0 K N dfs ops Q rest ((d,.tuple #[.bool false])::σ) L):TO F P w0 K N dfs ops Q (⟨some d,.next x true,ty,pos,aft,g⟩::rest) σ L:=by
 refine zgw hg (by simp) fun a w ha hw => ?_
 have hit:=hw.obj hk
 have e:zfS s m=s.size:=by simp [zfS,List.getElem?_eq_none hm]
 rw [e] at hit
 exact ⟨_,w,by simp [execOp,ha.ev hx,(znS P w it s s.size hit (by omega)).1,Sem.run_bind],h _ _ (ha.put hd _) hw⟩
end
end Go.Proofs.YtbempdelckaccaaGreatDoor

namespace Go.Proofs.YtbempdelckaccaaGreatDoor
open Go.RowKit Go.Lib Go.Shelf
attribute [local go_sem] Oper.semAt_some zqI zlU zlV
set_option linter.unusedVariables false
theorem zfD {a b:Bool} (h:a=b):Ending.returned (.bool a)=.returned (.bool b):=by rw [h]
theorem zmR {k:IntKind} {a b:Int} (h:a=b):Ending.returned (.int k a)=.returned (.int k b):=by rw [h]
end Go.Proofs.YtbempdelckaccaaGreatDoor

namespace Go.Proofs.YtbempdelckaccaaGreatDoor
open Go.RowKit Go.Lib
def zrL (r:Int):Bool:=decide (r % 2=0)
def zjM (r:Int):Prop :=
 (65≤r∧r≤90)∨(0xC0≤r∧r≤0xDE∧r≠0xD7)∨(((0x100≤r∧r≤0x137)∨(0x14A≤r∧r≤0x177))∧r % 2=0)∨(0x139≤r∧r≤0x148∧r % 2=1)∨r=0x178 ∨
 (0x179≤r∧r≤0x17D∧r % 2=1)∨(0x386≤r∧r≤0x38F∧r≠0x387∧r≠0x38B∧r≠0x38D)∨(0x391≤r∧r≤0x3AB∧r≠0x3A2)∨(0x400≤r∧r≤0x42F)
instance (r:Int):Decidable (zjM r):=by unfold zjM; infer_instance
def zqf (r:Int):Bool:=decide (zjM r)
def zjH (r:Int):Prop :=
 (97≤r∧r≤122)∨(0xDF≤r∧r≤0xFF∧r≠0xF7)∨(((0x100≤r∧r≤0x137)∨(0x14A≤r∧r≤0x177))∧r % 2=1)∨r=0x138∨r=0x149∨r=0x17F∨r=0x390 ∨
 (0x139≤r∧r≤0x148∧r % 2=0)∨(0x17A≤r∧r≤0x17E∧r % 2=0)∨(0x3AC≤r∧r≤0x3CE)∨(0x430≤r∧r≤0x45F)
instance (r:Int):Decidable (zjH r):=by unfold zjH; infer_instance
def zmH (r:Int):Bool:=decide (zjH r)
def zps (r:Int):Bool:=zqf r||zmH r
def back (r:Int):Int :=
 if r=0xFF then 0xFF - 0x178
 else if r<0x100∨(0x3B1≤r∧r≤0x3CB)∨(0x430≤r∧r≤0x44F) then 0x20
 else if r≤0x17F then 1
 else if r=0x3AC then 0x3AC - 0x386
 else if 0x3AD≤r∧r≤0x3AF then 0x25
 else if r=0x3CC then 0x40
 else if r=0x3CD∨r=0x3CE then 0x3F
 else 0x50
def zs7 (r:Int):Int :=
 if r<0∨(0xD800≤r∧r≤0xDFFF)∨0x10FFFF<r then 0
 else if zps r then 1
 else if 0x300≤r∧r≤0x36F then 2
 else if 48≤r∧r≤57 then 3
 else if r=10∨r=13 then 4
 else if r=9∨r=32∨r=0xA0∨r=0x202F∨r=0x205F∨r=0x3000 then 5
 else if r=45∨(0x2010≤r∧r≤0x2015) then 6
 else if r=34∨r=39∨r=0xAB∨r=0xBB∨r=0x2039∨r=0x203A then 7
 else if r=33∨r=44∨r=46∨r=58∨r=59∨r=63∨r=0xA1∨r=0xB7∨r=0xBF∨r=0x2026 then 8
 else if 0x2000≤r∧r≤0x200A then 5
 else if 0x2018≤r∧r≤0x201F then 7
 else if r<0x20∨(0x7F≤r∧r≤0x9F)∨(0x200B≤r∧r≤0x200F)∨r=0xFEFF then 9
 else 10
def kind (r:Int):Int:=zs7 r
theorem ziJ (r:Int):zqf r=true↔zjM r:=by simp [zqf]
theorem zis (r:Int):zmH r=true↔zjH r:=by simp [zmH]
end Go.Proofs.YtbempdelckaccaaGreatDoor

namespace Go.Proofs.YtbempdelckaccaaGreatDoor
open Go.RowKit Go.Lib Go.Shelf
set_option linter.unusedVariables false
set_option linter.unusedSimpArgs false
theorem zyV (r:Int) (h0 : -2147483648≤r) (h1:r≤2147483647):(bits BinOp.and IntKind.i32 r 1==0)=zrL r:=by
 have hk:bits .and .i32 r 1=r % 2:=by
  have h1:(BitVec.ofInt 32 1).toNat=2 ^ 1 - 1:=by decide
  have key:(BitVec.ofInt 32 r &&& BitVec.ofInt 32 1).toNat=(r % ((2 ^ 32:Nat):Int)).toNat % 2 ^ 1:=by
   rw [BitVec.toNat_and,BitVec.toNat_ofInt,h1,Nat.and_two_pow_sub_one_eq_mod]
  show IntKind.i32.wrap ((BitVec.ofInt 32 r &&& BitVec.ofInt 32 1).toNat:Nat)=r % 2
  rw [key,IntKind.wrap_i32]
  omega
 rw [hk,zrL,Bool.eq_iff_iff]
 simp
theorem zpF (r:Int) (w:World) (h0 : -2147483648≤r) (h1:r≤2147483647) :
  Calls Tryz.prog 141 #[.int .i32 r] w fun e w'=>e=.returned (.bool (zrL r))∧w=w':=by
 go_enter Tryz.func141,Tryz.ntmps141
 go_wp2
 go_ret
 exact ⟨zfD (zyV r h0 h1),rfl⟩
set_option maxHeartbeats 1000000 in
theorem zry (r:Int) (w:World) (h0 : -2147483648≤r) (h1:r≤2147483647) :
  Calls Tryz.prog 127 #[.int .i32 r] w fun e w'=>e=.returned (.bool (zqf r))∧w=w':=by
 go_enter Tryz.func127,Tryz.ntmps127
 go_wp2_with (go_at_call 141; refine (zpF _ _ (by omega) (by omega)).mono ?_; rintro e w' ⟨rfl,rfl⟩)
 all_goals
  go_ret
  refine ⟨zfD ?_,rfl⟩
  (go_light; rw [Bool.eq_iff_iff]; (try simp only [ziJ,zjM,zrL,decide_eq_true_eq,bne_iff_ne,ne_eq,Bool.not_eq_true',decide_eq_false_iff_not,Bool.and_eq_true,Bool.or_eq_true,Bool.or_eq_false_iff,Bool.and_eq_false_iff,bne_eq_false_iff_eq,beq_iff_eq,beq_eq_false_iff_ne,Bool.false_eq_true,false_iff,true_iff,iff_true,iff_false,Bool.not_eq_false',Bool.not_true,Bool.not_false] at *); omega)
set_option maxHeartbeats 1000000 in
theorem zqY (r:Int) (w:World) (h0 : -2147483648≤r) (h1:r≤2147483647) :
  Calls Tryz.prog 128 #[.int .i32 r] w fun e w'=>e=.returned (.bool (zmH r))∧w=w':=by
 go_enter Tryz.func128,Tryz.ntmps128
 go_wp2_with (go_at_call 141; refine (zpF _ _ (by omega) (by omega)).mono ?_; rintro e w' ⟨rfl,rfl⟩)
 all_goals
  go_ret
  refine ⟨zfD ?_,rfl⟩
  (go_light; rw [Bool.eq_iff_iff]; (try simp only [zis,zjH,zrL,decide_eq_true_eq,bne_iff_ne,ne_eq,Bool.not_eq_true',decide_eq_false_iff_not,Bool.and_eq_true,Bool.or_eq_true,Bool.or_eq_false_iff,Bool.and_eq_false_iff,bne_eq_false_iff_eq,beq_iff_eq,beq_eq_false_iff_ne,Bool.false_eq_true,false_iff,true_iff,iff_true,iff_false,Bool.not_eq_false',Bool.not_true,Bool.not_false] at *); omega)
theorem zqe (r:Int) (w:World) (h0 : -2147483648≤r) (h1:r≤2147483647) :
  Calls Tryz.prog 103 #[.int .i32 r] w fun e w'=>e=.returned (.bool (zps r))∧w=w':=by
 go_enter Tryz.func103,Tryz.ntmps103
 go_wp2_with (first | (go_at_call 127; refine (zry _ _ (by omega) (by omega)).mono ?_; rintro e w' ⟨rfl,rfl⟩) | (go_at_call 128; refine (zqY _ _ (by omega) (by omega)).mono ?_; rintro e w' ⟨rfl,rfl⟩))
 all_goals
  go_ret
  refine ⟨zfD ?_,rfl⟩
  go_light
  simp_all [zps]
theorem zs4 (r:Int) (w:World) (h0 : -2147483648≤r) (h1:r≤2147483647) :
  Calls Tryz.prog 104 #[.int .i32 r] w fun e w'=>e=.returned (.bool (decide (0x300≤r∧r≤0x36F)))∧w=w':=by
 go_enter Tryz.func104,Tryz.ntmps104
 go_wp2
 all_goals
  go_ret
  refine ⟨zfD ?_,rfl⟩
  (go_light; rw [Bool.eq_iff_iff]; simp only [decide_eq_true_eq,bne_iff_ne,ne_eq,Bool.not_eq_true',decide_eq_false_iff_not,Bool.and_eq_true,Bool.or_eq_true,Bool.or_eq_false_iff,Bool.and_eq_false_iff,bne_eq_false_iff_eq,beq_iff_eq,beq_eq_false_iff_ne,Bool.false_eq_true,false_iff,true_iff,iff_true,iff_false,Bool.not_eq_false',Bool.not_true,Bool.not_false] at *; omega)
end Go.Proofs.YtbempdelckaccaaGreatDoor

namespace Go.Proofs.YtbempdelckaccaaGreatDoor
open Go.RowKit Go.Lib Go.Shelf
set_option linter.unusedVariables false
set_option linter.unusedSimpArgs false
theorem zpt (r:Int) (w:World) (h0 : -2147483648≤r) (h1:r≤2147483647) :
  Calls Tryz.prog 71 #[.int .i32 r] w fun e w'=>e=.returned (.int .i64 (kind r))∧w=w':=by
 go_enter Tryz.func71,Tryz.ntmps71
 go_wp2_with (first | (go_at_call 103; refine (zqe _ _ (by omega) (by omega)).mono ?_; rintro e w' ⟨rfl,rfl⟩) | (go_at_call 104; refine (zs4 _ _ (by omega) (by omega)).mono ?_; rintro e w' ⟨rfl,rfl⟩))
 all_goals
  go_ret
  refine ⟨zmR ?_,rfl⟩
  go_light
  try simp only [decide_eq_true_eq,bne_iff_ne,ne_eq,Bool.not_eq_true',decide_eq_false_iff_not,Bool.and_eq_true,Bool.or_eq_true,Bool.or_eq_false_iff,Bool.and_eq_false_iff,bne_eq_false_iff_eq,beq_iff_eq,beq_eq_false_iff_ne,Bool.false_eq_true,false_iff,true_iff,iff_true,iff_false,Bool.not_eq_false',Bool.not_true,Bool.not_false] at *
  grind [kind,zs7]
def zdi (b:Bool) (r:Int):Int:=if b then 11 else kind r
theorem zwa (i wd r:Int) (b:Bool) (w:World) (h0 : -2147483648≤r) (h1:r≤2147483647) :
  Calls Tryz.prog 35 #[.agg #[.int .i64 i,.int .i64 wd,.int .i32 r,.bool b]] w fun e w'=>e=.returned (.int .i64 (zdi b r))∧Below w.heap.size w w':=by
 cases b
 ·go_enter Tryz.func35,Tryz.ntmps35
  go_wp2_with (go_at_call 71; refine (zpt _ _ (by omega) (by omega)).mono ?_; rintro e w' ⟨rfl,rfl⟩)
  go_ret
  exact ⟨zmR (by simp [zdi]),(Below.refl _ _).alloc (Nat.le_refl _) _⟩
 ·go_enter Tryz.func35,Tryz.ntmps35
  go_wp2_with (go_at_call 71; refine (zpt _ _ (by omega) (by omega)).mono ?_; rintro e w' ⟨rfl,rfl⟩)
  go_ret
  exact ⟨zmR (by simp [zdi]),(Below.refl _ _).alloc (Nat.le_refl _) _⟩
end Go.Proofs.YtbempdelckaccaaGreatDoor

namespace Go.Proofs.YtbempdelckaccaaGreatDoor
open Go.RowKit Go.Lib Go.Shelf
attribute [local go_sem] Oper.semAt_some zqI zlU zlV
set_option linter.unusedVariables false
set_option linter.unusedSimpArgs false
end Go.Proofs.YtbempdelckaccaaGreatDoor

namespace Go.Proofs.YtbempdelckaccaaGreatDoor
open Go.RowKit Go.Lib Go.Shelf
attribute [local go_sem] Oper.semAt_some
set_option linter.unusedVariables false
set_option linter.unusedSimpArgs false
theorem zgC (l:List UInt8):∀ (n:Nat) (D:List Pc) (p:Pc) (B:List Pc),D.length≤n→pcs l=D++p::B→D.length≤p.i
 | 0,D,p,B,hn,h=>by omega
 | n+1,D,p,B,hn,h=>by
  rcases List.eq_nil_or_concat D with rfl | ⟨D,q,rfl⟩
  ·simp
  ·rw [List.concat_eq_append] at h hn ⊢
   have h1:=zgC l n D q (p::B) (by simp at hn; omega) (by rw [h]; simp)
   obtain ⟨_,hok,_,h4⟩:=ziA l D q (p::B) (by rw [h]; simp)
   have:=hok.pos
   have h5:p.i=q.i+q.w:=by
    by_cases hd:l.drop (q.i+q.w)=[]
    ·rw [hd,zc6] at h4; simp at h4
    ·rw [zcw _ _ hd] at h4
     simp only [List.cons.injEq] at h4
     rw [h4.1]
   rw [List.length_append,h5]
   simp only [List.length_singleton]; omega
end Go.Proofs.YtbempdelckaccaaGreatDoor

namespace Go.Proofs.YtbempdelckaccaaGreatDoor
open Go.RowKit Go.Lib
structure Rn where
 f:Nat
 t:Nat
 k:Int
 deriving DecidableEq
end Go.Proofs.YtbempdelckaccaaGreatDoor

namespace Go.Proofs.YtbempdelckaccaaGreatDoor
open Go.RowKit Go.Lib
set_option linter.unusedVariables false
theorem zxp (i wd r:Int) (b:Bool) (h0 : -2147483648≤r) (h1:r≤2147483647):FnP Tryz.prog 35 [.agg #[.int .i64 i,.int .i64 wd,.int .i32 r,.bool b]] (.int .i64 (zdi b r)):=fun w=>zwa i wd r b w h0 h1
theorem Rw.vec {α:Type} {enc:α→List Value} {e:TypeId} {size:Nat} {v:Value} {L:List α} {w w':World} (h:Rw enc w' w.heap.size e size v L) (hb:Below w.heap.size w w') :
  ∃ C',sepL [vec enc e size v L] C' w'∧Ext (fun _=>False) C' w w':=by
 refine ⟨fun k=>v.ownBlock=some k,sepL.one ⟨zu7 h (Nat.zero_le _),rfl⟩,(zo4 hb).weaken (fun i hi h=>by omega),fun k hk=>.inr ?_⟩
 rcases h.shape with ⟨rfl,_⟩ | ⟨g,cap,rfl,h1,h2,_⟩
 ·simp [Value.ownBlock] at hk
 ·simp [Value.ownBlock] at hk; omega
theorem zoX {P:Program} {t:TypeId} {x y:Operand} {u:TypeDesc} {fn:Go.Fn} {a b:Array Value} (hu:P.underlying t=some u) (hf:(match u with | .func ..=>true | _=>false)=true) (w:World) :
  (do eqGuard .eql t x y (.func fn a b) .nilFunc; binOp .eql t (.func fn a b) .nilFunc:Sem Value).run P w=.ok (.bool false) w:=by
 cases u <;> simp at hf
 have h:∀ d,(Op.equalIn (d+1) t (.func fn a b) .nilFunc).run P w=.ok false w:=fun d=>by simp [Op.equalIn,run_underlying hu]
 have h':(Op.equalIn Op.maxDepth t (.func fn a b) .nilFunc).run P w=.ok false w:=h 9999
 simp [eqGuard,binOp,Op.equal,h']
end Go.Proofs.YtbempdelckaccaaGreatDoor

namespace Go.Proofs.YtbempdelckaccaaGreatDoor
open Go.RowKit Go.Lib Go.Shelf
set_option linter.unusedVariables false
set_option linter.unusedSimpArgs false
def vowelRunes:List Int:=[0x101,0x103,0x105,0x113,0x115,0x117,0x119,0x11b,0x129,0x12b,0x12d,0x12f,0x131,0x14d,0x14f,0x151,0x153,0x169,0x16b,0x16d,0x16f,0x171,0x173,0x177,
 0x390,0x3ac,0x3ad,0x3ae,0x3af,0x3b0,0x3b1,0x3b5,0x3b7,0x3b9,0x3bf,0x3c5,0x3c9,0x3ca,0x3cb,0x3cc,0x3cd,0x3ce,
 0x430,0x435,0x438,0x43e,0x443,0x44b,0x44d,0x44e,0x44f,0x450,0x451,0x454,0x456,0x457,0x45d]
def vowelS:ByteArray:=⟨#[196,129,196,131,196,133,196,147,196,149,196,151,196,153,196,155,196,169,196,171,196,173,196,175,196,177,197,141,197,143,197,145,197,147,197,169,197,171,197,173,197,175,197,177,197,179,197,183,206,144,206,172,206,173,206,174,206,175,206,176,206,177,206,181,206,183,206,185,206,191,207,133,207,137,207,138,207,139,207,140,207,141,207,142,208,176,208,181,208,184,208,190,209,131,209,139,209,141,209,142,209,143,209,144,209,145,209,148,209,150,209,151,209,157]⟩
theorem zjF:(pcs vowelS.data.toList).map (fun p=>(p.r:Int))=vowelRunes:=by decide +kernel
def VowRel (w:World) (x:Int) (wr:World):Prop :=
 ∃ pre pos,pcs vowelS.data.toList=pre++zdw pos (vowelS.data.toList.drop pos)∧pos≤vowelS.size∧(∀ p∈pre,(Pc.r p:Int)≠x)∧Below w.heap.size w wr∧wr.heap[w.heap.size]?=some (.stringIter vowelS pos)
theorem VowRel.start (w:World) (x:Int):VowRel w x (w.iter vowelS 0) :=
 ⟨[],0,rfl,Nat.zero_le _,by simp,(Below.refl _ _).alloc (Nat.le_refl _) _,World.iter_heap w vowelS 0⟩
theorem VowRel.round {P:Program} {w wr:World} {x:Int} (h:VowRel w x wr) :
  (∃ (pos r:Nat) (W1:World),(∀ ty,(Instr.next (.pointer (some ⟨w.heap.size,0,none⟩)) true ty).run P wr=.ok (.tuple #[.bool true,.int .i64 pos,.int .i32 r]) W1)∧Below w.heap.size w W1 ∧
   (((r:Int)=x∧vowelRunes.contains x=true)∨((r:Int)≠x∧VowRel w x W1∧vowelS.size - W1.iterPos w.heap.size<vowelS.size - wr.iterPos w.heap.size))) ∨
  ((∀ ty,(Instr.next (.pointer (some ⟨w.heap.size,0,none⟩)) true ty).run P wr=.ok (.tuple #[.bool false]) wr)∧Below w.heap.size w wr∧vowelRunes.contains x=false):=by
 obtain ⟨pre,pos,hx,hpos,hpre,hb,hit⟩:=h
 by_cases hlt:pos<vowelS.size
 ·obtain ⟨r,wd,W1,hn,hf,hit1,hsz,hok,hp,hle,h1⟩:=znR P wr w.heap.size vowelS pos hit hlt
  have hb1:Below w.heap.size w W1:=hb.trans (hf.toBelow hb.size (by intro k hk; omega))
  refine .inl ⟨pos,r,W1,hn,hb1,?_⟩
  rw [hp] at hx
  by_cases he:(r:Int)=x
  ·refine .inl ⟨he,?_⟩
   rw [← zjF,hx,List.contains_iff_mem,List.mem_map]
   exact ⟨⟨pos,wd,r⟩,by simp,he⟩
  ·refine .inr ⟨he,⟨pre++[⟨pos,wd,r⟩],pos+wd,by rw [hx]; simp,hle,?_,hb1,hit1⟩,?_⟩
   ·intro p hp
    rcases List.mem_append.1 hp with h | h
    ·exact hpre p h
    ·simp at h; subst h; exact he
   ·rw [zmb hit,zmb hit1]; omega
 ·obtain ⟨hn,hp⟩:=znS P wr w.heap.size vowelS pos hit hlt
  refine .inr ⟨hn,hb,?_⟩
  rw [hp,List.append_nil] at hx
  rw [← zjF,hx,← Bool.not_eq_true,List.contains_iff_mem,List.mem_map]
  rintro ⟨p,hm,he⟩
  exact hpre p hm he
end Go.Proofs.YtbempdelckaccaaGreatDoor

namespace Go.Proofs.YtbempdelckaccaaGreatDoor
open Go.RowKit Go.Lib Go.Shelf
set_option linter.unusedVariables false
set_option linter.unusedSimpArgs false
def inB (r a b:Int):Bool:=decide (a≤r∧r≤b)
theorem zkE (r a b:Int) (w:World) :
  Calls Tryz.prog 129 #[.int .i32 r,.int .i32 a,.int .i32 b] w fun e w'=>e=.returned (.bool (inB r a b))∧w=w':=by
 go_enter Tryz.func129,Tryz.ntmps129
 go_wp2
 all_goals
  go_ret
  refine ⟨zfD ?_,rfl⟩
  (go_light; rw [Bool.eq_iff_iff]; simp only [inB,decide_eq_true_eq,bne_iff_ne,ne_eq,Bool.not_eq_true',decide_eq_false_iff_not,Bool.and_eq_true,Bool.or_eq_true,Bool.or_eq_false_iff,Bool.and_eq_false_iff,bne_eq_false_iff_eq,beq_iff_eq,beq_eq_false_iff_ne,Bool.false_eq_true,false_iff,true_iff,iff_true,iff_false,Bool.not_eq_false',Bool.not_true,Bool.not_false] at *; omega)
theorem zp0 (r:Int) (w:World) (h0 : -2147483648≤r) (h1:r≤2147483647) :
  Calls Tryz.prog 130 #[.int .i32 r] w fun e w'=>e=.returned (.bool (zqf r))∧w=w':=by
 by_cases hn:0≤r
 ·go_enter Tryz.func130,Tryz.ntmps130
  go_wp2_with (first | (go_at_call 129; refine (zkE _ _ _ _).mono ?_; rintro e w' ⟨rfl,rfl⟩))
  all_goals
   go_ret
   refine ⟨zfD ?_,rfl⟩
   (go_light; rw [Bool.eq_iff_iff,ziJ]; simp only [inB,zjM,decide_eq_true_eq,bne_iff_ne,ne_eq,Bool.not_eq_true',decide_eq_false_iff_not,Bool.and_eq_true,Bool.or_eq_true,Bool.or_eq_false_iff,Bool.and_eq_false_iff,bne_eq_false_iff_eq,beq_iff_eq,beq_eq_false_iff_ne,Bool.false_eq_true,false_iff,true_iff,iff_true,iff_false,Bool.not_eq_false',Bool.not_true,Bool.not_false] at *; omega)
 ·have i1:∀ a b:Int,0≤a→inB r a b=false:=by intro a b ha; simp [inB]; omega
  have hm:zqf r=false:=by rw [Bool.eq_false_iff]; intro h; rw [ziJ] at h; unfold zjM at h; omega
  go_enter Tryz.func130,Tryz.ntmps130
  go_wp2_with (first | (go_at_call 129; refine (zkE _ _ _ _).mono ?_; rintro e w' ⟨rfl,rfl⟩))
  all_goals
   go_ret
   refine ⟨zfD ?_,rfl⟩
   (go_light; rw [Bool.eq_iff_iff,ziJ]; simp only [inB,zjM,decide_eq_true_eq,bne_iff_ne,ne_eq,Bool.not_eq_true',decide_eq_false_iff_not,Bool.and_eq_true,Bool.or_eq_true,Bool.or_eq_false_iff,Bool.and_eq_false_iff,bne_eq_false_iff_eq,beq_iff_eq,beq_eq_false_iff_ne,Bool.false_eq_true,false_iff,true_iff,iff_true,iff_false,Bool.not_eq_false',Bool.not_true,Bool.not_false] at *; omega)
theorem zpY (r:Int) (w:World) (h0 : -2147483648≤r) (h1:r≤2147483647) :
  Calls Tryz.prog 131 #[.int .i32 r] w fun e w'=>e=.returned (.bool (zmH r))∧w=w':=by
 by_cases hn:0≤r
 ·go_enter Tryz.func131,Tryz.ntmps131
  go_wp2_with (first | (go_at_call 129; refine (zkE _ _ _ _).mono ?_; rintro e w' ⟨rfl,rfl⟩))
  all_goals
   go_ret
   refine ⟨zfD ?_,rfl⟩
   (go_light; rw [Bool.eq_iff_iff,zis]; simp only [inB,zjH,decide_eq_true_eq,bne_iff_ne,ne_eq,Bool.not_eq_true',decide_eq_false_iff_not,Bool.and_eq_true,Bool.or_eq_true,Bool.or_eq_false_iff,Bool.and_eq_false_iff,bne_eq_false_iff_eq,beq_iff_eq,beq_eq_false_iff_ne,Bool.false_eq_true,false_iff,true_iff,iff_true,iff_false,Bool.not_eq_false',Bool.not_true,Bool.not_false] at *; omega)
 ·have i1:∀ a b:Int,0≤a→inB r a b=false:=by intro a b ha; simp [inB]; omega
  have hm:zmH r=false:=by rw [Bool.eq_false_iff]; intro h; rw [zis] at h; unfold zjH at h; omega
  go_enter Tryz.func131,Tryz.ntmps131
  go_wp2_with (first | (go_at_call 129; refine (zkE _ _ _ _).mono ?_; rintro e w' ⟨rfl,rfl⟩))
  all_goals
   go_ret
   refine ⟨zfD ?_,rfl⟩
   (go_light; rw [Bool.eq_iff_iff,zis]; simp only [inB,zjH,decide_eq_true_eq,bne_iff_ne,ne_eq,Bool.not_eq_true',decide_eq_false_iff_not,Bool.and_eq_true,Bool.or_eq_true,Bool.or_eq_false_iff,Bool.and_eq_false_iff,bne_eq_false_iff_eq,beq_iff_eq,beq_eq_false_iff_ne,Bool.false_eq_true,false_iff,true_iff,iff_true,iff_false,Bool.not_eq_false',Bool.not_true,Bool.not_false] at *; omega)
end Go.Proofs.YtbempdelckaccaaGreatDoor

namespace Go.Proofs.YtbempdelckaccaaGreatDoor
open Go.RowKit Go.Lib Go.Shelf
set_option linter.unusedVariables false
set_option linter.unusedSimpArgs false
set_option maxRecDepth 20000 in
theorem znG (r:Int) (w:World) (h0 : -2147483648≤r) (h1:r≤2147483647) :
  Calls Tryz.prog 106 #[.int .i32 r] w fun e w'=>e=.returned (.int .i64 (kind r))∧w=w':=by
 go_enter Tryz.func106,Tryz.ntmps106
 go_wp2_with (first | (go_at_call 129; refine (zkE _ _ _ _).mono ?_; rintro e w' ⟨rfl,rfl⟩) | (go_at_call 130; refine (zp0 _ _ (by omega) (by omega)).mono ?_; rintro e w' ⟨rfl,rfl⟩) | (go_at_call 131; refine (zpY _ _ (by omega) (by omega)).mono ?_; rintro e w' ⟨rfl,rfl⟩))
 all_goals
  go_ret
  refine ⟨zmR ?_,rfl⟩
  go_light
  try simp only [inB,decide_eq_true_eq,bne_iff_ne,ne_eq,Bool.not_eq_true',decide_eq_false_iff_not,Bool.and_eq_true,Bool.or_eq_true,Bool.or_eq_false_iff,Bool.and_eq_false_iff,bne_eq_false_iff_eq,beq_iff_eq,beq_eq_false_iff_ne,Bool.false_eq_true,false_iff,true_iff,iff_true,iff_false,Bool.not_eq_false',Bool.not_true,Bool.not_false] at *
  grind (splits:=60) [kind,zs7,zps]
end Go.Proofs.YtbempdelckaccaaGreatDoor

namespace Go.Proofs.YtbempdelckaccaaGreatDoor
open Go.RowKit Go.Lib
set_option linter.unusedVariables false
set_option linter.unusedSimpArgs false
section
variable {α:Type} {enc:α→List Value} {size k:Nat} {vv:Value} {xs:List α}
def zgQ (enc:α→List Value) (size:Nat) (vv:Value) (k:Nat) (xs:List α):Asn :=
  ⟨fun C w=>(∀ b,C b→b<w.heap.size)∧∀ i x j v,k≤i→xs[i]?=some x→(enc x)[j]?=some v→C (zcN vv)∧w.cell? ⟨zcN vv,i*size+j,none⟩=some v,
   fun h b hb=>h.1 b hb,
   fun {C w w'} h hs hk=>⟨fun b hb=>Nat.lt_of_lt_of_le (h.1 b hb) hs,fun i x j v hi hx hv=>by
     obtain ⟨h1,h2⟩:=h.2 i x j v hi hx hv
     refine ⟨h1,?_⟩
     rw [← h2]
     unfold World.cell?
     simp only [hk _ h1]⟩⟩
theorem znF {e:TypeId} (hz:∀ x,(enc x).length=size) {C:Nat→Prop} {w:World} (h:(vec enc e size vv xs).P C w):(zgQ enc size vv 0 xs).P C w:=by
 have hV:Vec enc e size vv xs C w:=h
 refine ⟨(vec enc e size vv xs).lt h,fun i x j v _ hx hv => ?_⟩
 have hj:j<size:=by rw [← hz x]; exact (List.getElem?_eq_some_iff.1 hv).1
 refine ⟨?_,hV.cellAt hz hx hj hv⟩
 rcases hV.shape with ⟨_,h2,_⟩ | ⟨g,cap,rfl,_⟩
 ·rw [h2] at hx; simp at hx
 ·rw [hV.2]; rfl
variable {F:Fence} {P:Program} {w0:World} {K:Nat→Prop} {N:Nat} {dfs:List Deferred} {ops:Array Oper} {Q:Exit→Act→World→Prop} {rest:List Oper} {σ:List (Nat×Value)} {L RD:List Asn} {v:Value}
 {d i:Nat} {t ty:TypeId} {pos:String} {aft:Array Edge} {g:Option (Nat×Bool)} {x:Operand}
theorem zjQ [WideF F] {n j off:Nat} {q:α} (hr:Rd w0 K RD) (hi:RD[i]?=some (zgQ enc size vv k xs)) (hle:k≤n) (hT:zce P t) (hg:gd ops σ g=some true) (hd:d<N) (hx:ev σ x=some (.pointer (some ⟨zcN vv,off,none⟩)))
  (hq:xs[n]?=some q) (ho:off=n*size+j) (hv:(enc q)[j]?=some v) (h:TO F P w0 K N dfs ops Q rest ((d,v)::σ) L) :
  TO F P w0 K N dfs ops Q (⟨some d,.load t x,ty,pos,aft,g⟩::rest) σ L:=by
 subst ho
 obtain ⟨dd,hu,hr'⟩:=hT
 refine zdt hg hd (by simp) (fun a w ha hw => ?_) h
 obtain ⟨C,hC⟩:=hr.at hw hi
 have hc:=(hC.2 n q j v hle hq hv).2
 have h1:=ha.ev hx
 cases dd <;> simp_all [execOp,Instr.loadAt,Instr.sureAddr,loadVar,isAgg,Sem.run_bind,run_underlying hu]
theorem znj [WideF F] {m j off n:Nat} {q:α} {cs:List Value} (hr:Rd w0 K RD) (hi:RD[i]?=some (zgQ enc size vv k xs)) (hle:k≤m) (hT:zhF P t n) (hg:gd ops σ g=some true) (hd:d<N) (hx:ev σ x=some (.pointer (some ⟨zcN vv,off,none⟩)))
  (hq:xs[m]?=some q) (ho:off=m*size+j) (hcs:((enc q).drop j).take n=cs) (hn:cs.length=n)
  (h:TO F P w0 K N dfs ops Q rest ((d,.agg cs.toArray)::σ) L):TO F P w0 K N dfs ops Q (⟨some d,.load t x,ty,pos,aft,g⟩::rest) σ L:=by
 subst ho; subst hn
 obtain ⟨dd,hu,hr',hi'⟩:=hT
 refine zdt hg hd (by simp) (fun a w ha hw => ?_) h
 obtain ⟨C,hC⟩:=hr.at hw hi
 have hc:w.rangeAt (zcN vv) (m*size+j) cs:=fun n u hn=>by
  rw [← hcs] at hn
  rw [List.getElem?_take] at hn
  split at hn
  ·rw [List.getElem?_drop] at hn
   have:=(hC.2 m q (j+n) u hle hq hn).2
   rwa [← Nat.add_assoc] at this
  ·cases hn
 simp only [execOp,ha.ev hx,Sem.run_bind,run_loadAt_mid w _ _ t cs dd hc hu hr' hi']; rfl
end
end Go.Proofs.YtbempdelckaccaaGreatDoor

namespace Go.Proofs
open Go.Shelf
def zj2:Go.Shelf.Ren:=⟨fun | 162=>59 | 232=>88 | 227=>89 | 234=>90 | 236=>91 | 228=>117 | 271=>118 | 151=>119 | 120=>135 | 197=>132 | 152=>136 | 260=>142 | 137=>144 | 119=>145 | 224=>146 | 225=>147 | 217=>153 | 266=>156 | n=>n,fun | 9=>9 | 4=>4 | 3=>3 | 5=>5 | 117=>169 | 116=>168 | 0=>0 | 124=>172 | 21=>21 | 105=>198 | 46=>158 | 119=>221 | 139=>224 | 138=>223 | n=>n,fun | 3=>2 | 4=>3 | n=>n⟩
theorem zol:Go.Proofs.Lays.n162 Tryz.prog zj2:={
 mixed:=by kernel_rfl
 f119:=Tryz.func145.trans (congrArg some (by kernel_rfl))
 f120:=Tryz.func135.trans (congrArg some (by kernel_rfl))
 f137:=Tryz.func144.trans (congrArg some (by kernel_rfl))
 f151:=Tryz.func119.trans (congrArg some (by kernel_rfl))
 f152:=Tryz.func136.trans (congrArg some (by kernel_rfl))
 f162:=Tryz.func59.trans (congrArg some (by kernel_rfl))
 f197:=Tryz.func132.trans (congrArg some (by kernel_rfl))
 f217:=Tryz.func153.trans (congrArg some (by kernel_rfl))
 f224:=Tryz.func146.trans (congrArg some (by kernel_rfl))
 f225:=Tryz.func147.trans (congrArg some (by kernel_rfl))
 f227:=Tryz.func89.trans (congrArg some (by kernel_rfl))
 f228:=Tryz.func117.trans (congrArg some (by kernel_rfl))
 f232:=Tryz.func88.trans (congrArg some (by kernel_rfl))
 f234:=Tryz.func90.trans (congrArg some (by kernel_rfl))
 f236:=Tryz.func91.trans (congrArg some (by kernel_rfl))
 f260:=Tryz.func142.trans (congrArg some (by kernel_rfl))
 f266:=Tryz.func156.trans (congrArg some (by kernel_rfl))
 f271:=Tryz.func118.trans (congrArg some (by kernel_rfl))
 t0:=Tryz.underlying0
 a0:=Tryz.isAgg0
 z0:=Tryz.sizeOf0
 v0:=Tryz.zeroValue0
 t3:=Tryz.underlying3
 a3:=Tryz.isAgg3
 z3:=Tryz.sizeOf3
 v3:=Tryz.zeroValue3
 t4:=Tryz.underlying4
 a4:=Tryz.isAgg4
 z4:=Tryz.sizeOf4
 v4:=Tryz.zeroValue4
 t5:=Tryz.underlying5
 a5:=Tryz.isAgg5
 z5:=Tryz.sizeOf5
 v5:=Tryz.zeroValue5
 t9:=Tryz.underlying9
 a9:=Tryz.isAgg9
 z9:=Tryz.sizeOf9
 v9:=Tryz.zeroValue9
 t21:=Tryz.underlying21
 a21:=Tryz.isAgg21
 z21:=Tryz.sizeOf21
 v21:=Tryz.zeroValue21
 t46:=Tryz.underlying158
 a46:=Tryz.isAgg158
 z46:=Tryz.sizeOf158
 v46:=Tryz.zeroValue158
 t105:=Tryz.underlying198
 a105:=Tryz.isAgg198
 z105:=Tryz.sizeOf198
 v105:=Tryz.zeroValue198
 t116:=Tryz.underlying168
 a116:=Tryz.isAgg168
 z116:=Tryz.sizeOf168
 t117:=Tryz.underlying169
 a117:=Tryz.isAgg169
 z117:=Tryz.sizeOf169
 v117:=Tryz.zeroValue169
 t119:=Tryz.underlying221
 a119:=Tryz.isAgg221
 z119:=Tryz.sizeOf221
 t124:=Tryz.underlying172
 a124:=Tryz.isAgg172
 z124:=Tryz.sizeOf172
 v124:=Tryz.zeroValue172
 t138:=Tryz.underlying223
 a138:=Tryz.isAgg223
 z138:=Tryz.sizeOf223
 v138:=Tryz.zeroValue223
 t139:=Tryz.underlying224
 a139:=Tryz.isAgg224
 z139:=Tryz.sizeOf224
 v139:=Tryz.zeroValue224
 g3:=by kernel_rfl
 g4:=by kernel_rfl }
open Go.RowKit in
theorem Tryz.strings_TrimRight_one (s:ByteArray) (c:UInt8) (hc:c.toNat<128) (w:World) (hs:s.size≤9223372036854775807) :
  Calls Tryz.prog 59 #[.string s,.string ⟨#[c]⟩] w fun e w'=>e=.returned (.string ⟨(Lib.trimRightB s.data.toList c).toArray⟩)∧w'=w:=Any.strings_TrimRight_one zol s c hc w hs
def zj3:Go.Shelf.Ren:=⟨fun | 160=>78 | 232=>88 | 231=>108 | 227=>89 | 234=>90 | 233=>109 | 236=>91 | 235=>110 | 228=>117 | 271=>118 | 151=>119 | 197=>132 | 120=>135 | 152=>136 | 260=>142 | 137=>144 | 119=>145 | 224=>146 | 225=>147 | 217=>153 | 266=>156 | n=>n,fun | 9=>9 | 4=>4 | 3=>3 | 5=>5 | 117=>169 | 116=>168 | 0=>0 | 124=>172 | 21=>21 | 105=>198 | 46=>158 | 119=>221 | 139=>224 | 138=>223 | n=>n,fun | 3=>2 | 4=>3 | n=>n⟩
theorem zom:Go.Proofs.Lays.n160 Tryz.prog zj3:={
 mixed:=by kernel_rfl
 f119:=Tryz.func145.trans (congrArg some (by kernel_rfl))
 f120:=Tryz.func135.trans (congrArg some (by kernel_rfl))
 f137:=Tryz.func144.trans (congrArg some (by kernel_rfl))
 f151:=Tryz.func119.trans (congrArg some (by kernel_rfl))
 f152:=Tryz.func136.trans (congrArg some (by kernel_rfl))
 f160:=Tryz.func78.trans (congrArg some (by kernel_rfl))
 f197:=Tryz.func132.trans (congrArg some (by kernel_rfl))
 f217:=Tryz.func153.trans (congrArg some (by kernel_rfl))
 f224:=Tryz.func146.trans (congrArg some (by kernel_rfl))
 f225:=Tryz.func147.trans (congrArg some (by kernel_rfl))
 f227:=Tryz.func89.trans (congrArg some (by kernel_rfl))
 f228:=Tryz.func117.trans (congrArg some (by kernel_rfl))
 f231:=Tryz.func108.trans (congrArg some (by kernel_rfl))
 f232:=Tryz.func88.trans (congrArg some (by kernel_rfl))
 f233:=Tryz.func109.trans (congrArg some (by kernel_rfl))
 f234:=Tryz.func90.trans (congrArg some (by kernel_rfl))
 f235:=Tryz.func110.trans (congrArg some (by kernel_rfl))
 f236:=Tryz.func91.trans (congrArg some (by kernel_rfl))
 f260:=Tryz.func142.trans (congrArg some (by kernel_rfl))
 f266:=Tryz.func156.trans (congrArg some (by kernel_rfl))
 f271:=Tryz.func118.trans (congrArg some (by kernel_rfl))
 t0:=Tryz.underlying0
 a0:=Tryz.isAgg0
 z0:=Tryz.sizeOf0
 v0:=Tryz.zeroValue0
 t3:=Tryz.underlying3
 a3:=Tryz.isAgg3
 z3:=Tryz.sizeOf3
 v3:=Tryz.zeroValue3
 t4:=Tryz.underlying4
 a4:=Tryz.isAgg4
 z4:=Tryz.sizeOf4
 v4:=Tryz.zeroValue4
 t5:=Tryz.underlying5
 a5:=Tryz.isAgg5
 z5:=Tryz.sizeOf5
 v5:=Tryz.zeroValue5
 t9:=Tryz.underlying9
 a9:=Tryz.isAgg9
 z9:=Tryz.sizeOf9
 v9:=Tryz.zeroValue9
 t21:=Tryz.underlying21
 a21:=Tryz.isAgg21
 z21:=Tryz.sizeOf21
 v21:=Tryz.zeroValue21
 t46:=Tryz.underlying158
 a46:=Tryz.isAgg158
 z46:=Tryz.sizeOf158
 v46:=Tryz.zeroValue158
 t105:=Tryz.underlying198
 a105:=Tryz.isAgg198
 z105:=Tryz.sizeOf198
 v105:=Tryz.zeroValue198
 t116:=Tryz.underlying168
 a116:=Tryz.isAgg168
 z116:=Tryz.sizeOf168
 t117:=Tryz.underlying169
 a117:=Tryz.isAgg169
 z117:=Tryz.sizeOf169
 v117:=Tryz.zeroValue169
 t119:=Tryz.underlying221
 a119:=Tryz.isAgg221
 z119:=Tryz.sizeOf221
 t124:=Tryz.underlying172
 a124:=Tryz.isAgg172
 z124:=Tryz.sizeOf172
 v124:=Tryz.zeroValue172
 t138:=Tryz.underlying223
 a138:=Tryz.isAgg223
 z138:=Tryz.sizeOf223
 v138:=Tryz.zeroValue223
 t139:=Tryz.underlying224
 a139:=Tryz.isAgg224
 z139:=Tryz.sizeOf224
 v139:=Tryz.zeroValue224
 g3:=by kernel_rfl
 g4:=by kernel_rfl }
def zg7:Go.Shelf.Ren:=⟨fun | 105=>54 | 212=>81 | 99=>53 | 165=>82 | 166=>60 | 170=>83 | 169=>63 | 263=>111 | 264=>112 | 206=>80 | 240=>87 | 241=>113 | 276=>116 | 277=>133 | n=>n,fun | 9=>9 | 3=>3 | 4=>4 | 20=>20 | 0=>0 | 46=>158 | 109=>159 | 5=>5 | 72=>123 | 76=>127 | 51=>188 | 146=>189 | 53=>191 | 148=>192 | 70=>120 | 37=>121 | 75=>125 | 127=>173 | 164=>195 | 80=>65 | n=>n,fun | n=>n⟩
theorem zon:Go.Proofs.Lays.n105 Tryz.prog zg7:={
 mixed:=by kernel_rfl
 f99:=Tryz.func53.trans (congrArg some (by kernel_rfl))
 f105:=Tryz.func54.trans (congrArg some (by kernel_rfl))
 f165:=Tryz.func82.trans (congrArg some (by kernel_rfl))
 f166:=Tryz.func60.trans (congrArg some (by kernel_rfl))
 f169:=Tryz.func63.trans (congrArg some (by kernel_rfl))
 f170:=Tryz.func83.trans (congrArg some (by kernel_rfl))
 f206:=Tryz.func80.trans (congrArg some (by kernel_rfl))
 f212:=Tryz.func81.trans (congrArg some (by kernel_rfl))
 f240:=Tryz.func87.trans (congrArg some (by kernel_rfl))
 f241:=Tryz.func113.trans (congrArg some (by kernel_rfl))
 f263:=Tryz.func111.trans (congrArg some (by kernel_rfl))
 f264:=Tryz.func112.trans (congrArg some (by kernel_rfl))
 f276:=Tryz.func116.trans (congrArg some (by kernel_rfl))
 f277:=Tryz.func133.trans (congrArg some (by kernel_rfl))
 t0:=Tryz.underlying0
 a0:=Tryz.isAgg0
 z0:=Tryz.sizeOf0
 v0:=Tryz.zeroValue0
 t3:=Tryz.underlying3
 a3:=Tryz.isAgg3
 z3:=Tryz.sizeOf3
 v3:=Tryz.zeroValue3
 t4:=Tryz.underlying4
 a4:=Tryz.isAgg4
 z4:=Tryz.sizeOf4
 v4:=Tryz.zeroValue4
 t5:=Tryz.underlying5
 a5:=Tryz.isAgg5
 z5:=Tryz.sizeOf5
 v5:=Tryz.zeroValue5
 t9:=Tryz.underlying9
 a9:=Tryz.isAgg9
 z9:=Tryz.sizeOf9
 v9:=Tryz.zeroValue9
 t20:=Tryz.underlying20
 a20:=Tryz.isAgg20
 z20:=Tryz.sizeOf20
 v20:=Tryz.zeroValue20
 t37:=Tryz.underlying121
 a37:=Tryz.isAgg121
 z37:=Tryz.sizeOf121
 v37:=Tryz.zeroValue121
 t46:=Tryz.underlying158
 a46:=Tryz.isAgg158
 z46:=Tryz.sizeOf158
 v46:=Tryz.zeroValue158
 t51:=Tryz.underlying188
 a51:=Tryz.isAgg188
 z51:=Tryz.sizeOf188
 v51:=Tryz.zeroValue188
 t53:=Tryz.underlying191
 a53:=Tryz.isAgg191
 z53:=Tryz.sizeOf191
 v53:=Tryz.zeroValue191
 t70:=Tryz.underlying120
 a70:=Tryz.isAgg120
 z70:=Tryz.sizeOf120
 v70:=Tryz.zeroValue120
 t72:=Tryz.underlying123
 a72:=Tryz.isAgg123
 z72:=Tryz.sizeOf123
 v72:=Tryz.zeroValue123
 t75:=Tryz.underlying125
 a75:=Tryz.isAgg125
 z75:=Tryz.sizeOf125
 v75:=Tryz.zeroValue125
 t76:=Tryz.underlying127
 a76:=Tryz.isAgg127
 z76:=Tryz.sizeOf127
 v76:=Tryz.zeroValue127
 t109:=Tryz.underlying159
 a109:=Tryz.isAgg159
 z109:=Tryz.sizeOf159
 v109:=Tryz.zeroValue159
 t127:=Tryz.underlying173
 a127:=Tryz.isAgg173
 z127:=Tryz.sizeOf173
 v127:=Tryz.zeroValue173
 t146:=Tryz.underlying189
 a146:=Tryz.isAgg189
 z146:=Tryz.sizeOf189
 v146:=Tryz.zeroValue189
 t148:=Tryz.underlying192
 a148:=Tryz.isAgg192
 z148:=Tryz.sizeOf192
 v148:=Tryz.zeroValue192
 t164:=Tryz.underlying195
 a164:=Tryz.isAgg195
 z164:=Tryz.sizeOf195
 v164:=Tryz.zeroValue195 }
theorem zhd:Builder.Extra Tryz.prog zg7:={
 sizeBuilder:=by kernel_rfl
 liesBuilder:=by kernel_rfl
 t5:=Tryz.underlying5
 a5:=Tryz.isAgg5
 z5:=Tryz.sizeOf5
 v5:=Tryz.zeroValue5
 infoByte:=by kernel_rfl
 cellsByte:=by kernel_rfl
 sizeByte:=by kernel_rfl
 neB5:=by decide }
open Go.RowKit Go.Lib in
theorem Tryz.strings_Repeat (s:ByteArray) (c:Nat) (w:World) (hc:c≤9223372036854775807) (hlen:s.size*c≤140737488355328) :
  Calls Tryz.prog 54 #[.string s,.int .i64 c] w fun e w'=>e=.returned (.string ⟨(Lib.repeatL s.data.toList c).toArray⟩)∧Below w.heap.size w w':=Any.strings_Repeat zon zhd s c w hc hlen
end Go.Proofs

namespace Go.Proofs.YtbempdelckaccaaGreatDoor
open Go.RowKit Go.Lib Go.Shelf
set_option linter.unusedVariables false
set_option linter.unusedSimpArgs false
theorem zos {P:Program} {f:FuncId} {vs:List Value} {v:Value} (h:∀ w,Calls P f vs.toArray w fun e w'=>e=.returned v∧w'=w):FnP P f vs v:=fun w=>(h w).mono fun e w' ⟨h1,h2⟩=>⟨h1,h2 ▸ Below.refl _ _⟩
def zbd (n:Int):ByteArray:=⟨(Lib.repeatL [32] n.toNat).toArray⟩
theorem zpf (n:Int) (h:0≤n∧n≤140737488355328):FnP Tryz.prog 54 [.string ⟨#[32]⟩,.int .i64 n] (.string (zbd n)):=fun w=>by
 obtain ⟨c,rfl⟩:∃ c:Nat,n=c:=⟨n.toNat,by omega⟩
 have h1:(⟨#[32]⟩:ByteArray).size=1:=rfl
 exact Tryz.strings_Repeat ⟨#[32]⟩ c w (by omega) (by rw [h1,Nat.one_mul]; omega)
def zo9 (s:ByteArray):ByteArray:=⟨(Lib.trimS s.data.toList [32,9]).toArray⟩
theorem zvz (s:ByteArray) (hs:s.size≤9223372036854775807):FnP Tryz.prog 78 [.string s,.string ⟨#[32,9]⟩] (.string (zo9 s)):=fun w =>
 Any.strings_Trim_laid zom (by kernel_rfl) s ⟨#[32,9]⟩ w hs (by decide) (ascii_of_all (by decide))
end Go.Proofs.YtbempdelckaccaaGreatDoor

namespace Go.Proofs.YtbempdelckaccaaGreatDoor
open Go.RowKit Go.Lib
set_option linter.unusedVariables false
set_option linter.unusedSimpArgs false
section
variable {F:Fence} {P:Program} {w0:World} {K:Nat→Prop} {N:Nat} {dfs:List Deferred} {ops:Array Oper} {Q:Exit→Act→World→Prop} {rest:List Oper} {σ:List (Nat×Value)} {L:List Asn} {c:Code} {ex:Exit} {k:Nat}
 {α η:Type} {enc:α×η→List Value} {nest:α×η→List Asn} {t:TypeId} {p:Value} {m:Option α} {x:α}
theorem zd0 (enc:α×η→List Value) (nest:α×η→List Asn) (t:TypeId) (h:TX w0 K N dfs Q ex σ (L++[zmV enc nest t (.pointer none) none])):TX w0 K N dfs Q ex σ L:=fun a w ha hw =>
 h a w ha (hw.grow (C':=fun _=>False) (Ext.refl _ _) (sepL.one (A:=zmV enc nest t (.pointer none) none) ⟨fun _ h=>h,rfl⟩))
theorem zhG (h:m=some x):Entl [zmV enc nest t p m] (fun bh:Nat×η=>cells bh.1 (enc (x,bh.2)) t::nest (x,bh.2)) (fun bh=>p=.pointer (some ⟨bh.1,0,none⟩)):=fun C w hh=>by
 subst h
 obtain ⟨b,hd,h2,h3⟩:=pobj_some.1 (sepL.one1.1 hh)
 exact ⟨(b,hd),h2,h3⟩
def zwY (p:Value) (m:Option α):Prop:=(m.isNone=true∧p=.pointer none)∨(m.isNone=false∧∃ b,p=.pointer (some ⟨b,0,none⟩))
theorem zln (hk:L[k]?=some (zmV enc nest t p m)) (h:zwY p m→TO F P w0 K N dfs ops Q rest σ L):TO F P w0 K N dfs ops Q rest σ L:=fun a w ha hw=>by
 obtain ⟨C1,h1,_⟩:=hw.focus hk
 refine h ?_ a w ha hw
 rcases zl8 h1 with ⟨rfl,h2⟩ | ⟨x,b,rfl,h2⟩
 ·exact .inl ⟨rfl,h2⟩
 ·exact .inr ⟨rfl,b,h2⟩
theorem zmd {ty e':TypeId} {w:World} (ht:P.underlying ty=some (.pointer e')):(Op.equal ty (.pointer none) (.pointer none)).run P w=.ok true w:=by
 have h:∀ d,(Op.equalIn (d+1) ty (.pointer none) (.pointer none)).run P w=.ok true w:=fun d=>by simp [Op.equalIn,run_underlying ht]
 exact h 9999
theorem zmm {ty e':TypeId} {y z:Operand} (ht:P.underlying ty=some (.pointer e')) (hv:zwY p m) (w:World):(do eqGuard .eql ty y z p (.pointer none); binOp .eql ty p (.pointer none):Sem Value).run P w=.ok (.bool m.isNone) w:=by
 rcases hv with ⟨h1,rfl⟩ | ⟨h1,b,rfl⟩
 ·rw [h1]; simp [eqGuard,binOp,Sem.run_bind,zmd ht]
 ·rw [h1]; exact zdj ht w
theorem zqs {ty e':TypeId} {y z:Operand} (ht:P.underlying ty=some (.pointer e')) (hv:zwY p m) (w:World):(do eqGuard .neq ty y z p (.pointer none); binOp .neq ty p (.pointer none):Sem Value).run P w=.ok (.bool (!m.isNone)) w:=by
 rcases hv with ⟨h1,rfl⟩ | ⟨h1,b,rfl⟩
 ·rw [h1]; simp [eqGuard,binOp,Sem.run_bind,zmd ht]
 ·rw [h1]; exact zlS ht w
end
end Go.Proofs.YtbempdelckaccaaGreatDoor

namespace Go.Proofs.YtbempdelckaccaaGreatDoor
open Go.RowKit Go.Lib
set_option linter.unusedVariables false
set_option linter.unusedSimpArgs false
section
variable {F:Fence} {P:Program} {w0:World} {K:Nat→Prop} {N:Nat} {dfs:List Deferred} {ops:Array Oper} {Q:Exit→Act→World→Prop} {rest:List Oper} {σ σ':List (Nat×Value)} {L L' R As Bs:List Asn} {o:Oper} {v:Value}
 {d:Nat} {t:TypeId} {op:Op} {ty:TypeId} {pos:String} {aft:Array Edge} {g:Option (Nat×Bool)} {x y z:Operand} {c c1 c2:Code} {k:Nat} {A B:Asn} {RO:List (Nat×Obj)} {RD RD0:List Asn}
def ItrR (P:Program) (gf:FuncId) (caps:List Value) {α:Type} (enc:α→List Value) (xs:List α) (RD:List Asn):Prop :=
 ∀ (w:World) (D:Nat→Prop),(∀ A∈RD,∃ C,A.P C w∧∀ k,C k→D k)→(∀ k,D k→k<w.heap.size)→Yields P gf caps.toArray (fun x=>(enc x).toArray) xs D w
theorem ItrR.intro {gf:FuncId} {fn:Func} {caps:List Value} {α:Type} {enc:α→List Value} {xs:List α} (hf:P.funcs[gf]?=some fn) (hb:fn.body=some c) (hn:fn.ntmps=N) (hN:caps.length+1≤N)
  (h:∀ l w0 K (I X:List α→Asn),Rd w0 K RD→YC P l enc xs I X w0 K →
   TC Fence.wide P w0 K N [] (bodyPostM Fence.wide 0 P fn (FY xs I X w0 K)) c (zg0 (.func (.yield l) #[] #[]::caps)) [I []]):ItrR P gf caps enc xs RD:=by
 subst hn
 intro w D hRD hDlt l I X C0 W hD hsz hC0 hIl hXl hy h0
 have hRo:Rd W C0 RD:=fun A hA=>by
  obtain ⟨C,h1,h2⟩:=hRD A hA
  exact ⟨C,A.loc h1 hsz (fun k hk=>(hD k (h2 k hk)).2),fun k hk hc=>(hC0 k hc).2 (h2 k hk)⟩
 have:=h l W C0 (fun pre=>zwZ (I pre) (fun C W W'=>hIl pre C W W')) (fun pre=>zwZ (X pre) (fun C W W'=>hXl pre C W W')) hRo (fun pre x post C W1 hxs he hi=>by
  obtain ⟨f1,t1,a1,b1,hr1,hr2⟩:=hy pre x post C W1 hxs he hi.1
  refine ⟨f1,t1,a1,b1,hr1,hr2.mono ?_⟩
  rintro e w2 ⟨b,rfl,C',hx,hc⟩
  have hlt:∀ k,C' k→k<w2.heap.size:=fun k hk=>by
   have:=hx.1.size
   rcases hx.2 k hk with h | h
   ·have:=hi.2 k h; omega
   ·exact h.2
  exact ⟨b,rfl,C',hx,hc.imp (fun h=>⟨h.1,h.2,hlt⟩) (fun h=>⟨h.1,h.2,hlt⟩)⟩)
 have hs:(Value.func (.yield l) #[] #[]::caps).toArray=#[.func (.yield l) #[] #[]]++caps.toArray:=by simp
 rw [← hs]
 refine (zfV hf hb (this _ W (At.start _ (by simpa using hN)) ⟨C0,sepL.one ⟨h0,fun k hk=>(hC0 k hk).1⟩,Ext.refl _ _⟩)).mono ?_
 rintro e w' ⟨he,hh⟩
 refine ⟨he,?_⟩
 rcases hh with ⟨C',hh,hx⟩ | ⟨pre,x,post,hxs,C',hh,hx⟩
 ·obtain ⟨C1,C2,g1,g2,_,g4⟩:=hh
  have:C'=C1:=funext fun k=>propext (by rw [g4]; exact ⟨fun h=>h.resolve_right (g2 k),.inl⟩)
  subst this
  exact ⟨C',hx,.inl g1.1⟩
 ·obtain ⟨C1,C2,g1,g2,_,g4⟩:=hh
  have:C'=C1:=funext fun k=>propext (by rw [g4]; exact ⟨fun h=>h.resolve_right (g2 k),.inl⟩)
  subst this
  exact ⟨C',hx,.inr ⟨pre,x,post,hxs,g1.1⟩⟩
section
variable {α β γ δ:Type}
theorem zlu {gf:FuncId} {caps:List Value} {enc:α→List Value} {xs:List α} {ps:List Nat} {assign body:Code} (hRd:Rd w0 K RD0) (hRo:Ro w0 K RO)
  (hg:ev σ x=some (.func (.func gf) #[] caps.toArray)) (hent:∀ args w,(callFunc gf args).run P w=.ok (.enter gf args) w) (hY:ItrR P gf caps enc xs RD)
  (Inv:List α→β→Prop) (LI:List α→β→List Asn) (X:Code→List α→γ→Prop) (LX:Code→List α→γ→List Asn) (σJ:List α→α→β→δ→List (Nat×Value)) (LJ:List α→α→β→δ→List Asn) (b0:β)
  (h0:Inv [] b0) (hs:Splits L (LI [] b0) R) (hS:RdS R RD0 RD) (hps:∀ x,(enc x).length=ps.length) (hpN:∀ p∈ps,p<N)
  (hassign:∀ l r pre e post b w1 K1,xs=pre++e::post→Ext K K1 w0 w1→Ro w1 K1 (RO++[(l,.loop r)])→Inv pre b →
   TC (Fence.wide.inRound l) P w1 K1 N [] (Exit.then (fun a w=>∃ j,St w1 K1 N [] (σJ pre e b j) (LJ pre e b j) a w) (fun _ _ _=>False)) assign (zj4 ps (enc e) σ) (LI pre b))
  (hbody:∀ l r pre e post b j w1 K1,xs=pre++e::post→Ext K K1 w0 w1→Ro w1 K1 (RO++[(l,.loop r)])→Inv pre b→TC (Fence.wide.inRound l) P w1 K1 N [] (RQ Inv LI X LX (pre++[e]) w1 K1) body (σJ pre e b j) (LJ pre e b j))
  (hdone:∀ d b,Inv xs b→TX w0 K N ({ target:=.collected d,args:=#[] }::dfs) Q .normal σ (R++(LI xs b++[zi7 d])))
  (hstop:∀ d c pre e post b,xs=pre++e::post→X c (pre++[e]) b→TC Fence.wide P w0 K N ({ target:=.collected d,args:=#[] }::dfs) Q c σ (R++(LX c (pre++[e]) b++[zi7 d]))) :
  TC Fence.wide P w0 K N dfs Q (.rangeFunc x ps.toArray assign body) σ L:=by
 intro a w ha hw
 obtain ⟨C1,C2,g1,g2,g3,gx,hstep⟩:=hw.split2 hs
 have hDh:Rd w C1 RD:=hS.rd (w0:=w0) (K:=K) g2 g3 (hRd.ext gx)
 have hlt1:=g1.lt
 have hro1:∀ {C:Nat→Prop} {W:World},Ext K C w0 W→Ro W C RO:=fun {C W} hx p hp=>by
  obtain ⟨h1,h2⟩:=hRo p hp
  refine ⟨hx.1.at h1 h2,fun h => ?_⟩
  rcases hx.2 _ h with h | h
  ·exact h2 h
  ·have:=zcd h1; omega
 refine zo6 (gf:=gf) (lb:=caps.toArray) (ha.ev hg) hent (hY w (fun k=>k<w.heap.size∧¬ C1 k) (fun A hA=>by
  obtain ⟨C,h1,h2⟩:=hDh A hA
  exact ⟨C,h1,fun k hk=>⟨A.lt h1 k hk,h2 k hk⟩⟩) (fun k h=>h.1)) (fun k h=>⟨h.1,rfl⟩) (Nat.le_refl _) (fun e=>by simp [hps])
  (fun pre C W=>∃ b,Inv pre b∧sepL (LI pre b) C W) (fun c pre C W=>∃ b,X c pre b∧sepL (LX c pre b) C W)
  (fun pre e a1 C W=>∃ b j,Inv pre b∧At N [] (σJ pre e b j) a1∧sepL (LJ pre e b j) C W) ?_ ?_ ?_ C1 (fun k hk=>⟨hlt1 k hk,fun h=>h.2 hk⟩) ⟨b0,h0,g1⟩ ?_ ?_ ?_ ?_
 ·rintro pre C W W' ⟨b,h1,h2⟩ hs hk; exact ⟨b,h1,h2.loc hs hk⟩
 ·rintro c pre C W W' ⟨b,h1,h2⟩ hs hk; exact ⟨b,h1,h2.loc hs hk⟩
 ·rintro pre e a1 _ C W W' ⟨b,j,h1,h2,h3⟩ hs hk; exact ⟨b,j,h1,h2,h3.loc hs hk⟩
 ·rintro l pre e post C W1 hxs hext ⟨b,hb,hi⟩ hn hl ⟨r,hr⟩
  have hx1:Ext K C w0 W1:=gx.trans hext
  refine wpIn_mono (hassign l r pre e post b W1 C hxs hx1 ((hro1 hx1).snoc hr hn) hb _ W1 (ha.zip ps (enc e) hpN) ⟨C,hi,Ext.refl _ _⟩) ?_
  rintro ex a' w' hq
  cases ex with
  | normal =>
   obtain ⟨j,hj,C',hL',hx'⟩:=hq
   exact ⟨C',hx',b,j,hb,hj,hL'⟩
  | _=>exact hq
 ·rintro l pre e post C W1 a1 hxs hext ⟨b,j,hb,hat,hi⟩ hn hl ⟨r,hr⟩
  have hx1:Ext K C w0 W1:=gx.trans hext
  refine wpIn_mono (hbody l r pre e post b j W1 C hxs hx1 ((hro1 hx1).snoc hr hn) hb a1 W1 hat ⟨C,hi,Ext.refl _ _⟩) ?_
  rintro ex a' w' hq
  cases ex with
  | normal=>obtain ⟨b',h1,C',h2,h3⟩:=hq; exact ⟨C',h3,b',h1,h2⟩
  | ret=>obtain ⟨b',h1,C',h2,h3⟩:=hq; exact ⟨C',h3,b',h1,h2⟩
  | exit id=>obtain ⟨b',h1,C',h2,h3⟩:=hq; exact ⟨C',h3,b',h1,h2⟩
  | goto id=>obtain ⟨b',h1,C',h2,h3⟩:=hq; exact ⟨C',h3,b',h1,h2⟩
  | panic _=>exact hq
  | outgrown=>exact hq
 ·rintro d C W hext ⟨b,hb,hi⟩ hd hCd hdef
  refine hdone d b hb _ W ⟨ha.1,by rw [← ha.2.1],ha.2.2⟩ (hstep _ (fun k=>C k∨k=d) W ⟨hext.1,fun k hk => ?_⟩ ?_)
  ·rcases hk with hk | rfl
   ·exact hext.2 k hk
   ·exact .inr ⟨hd,zcd hdef⟩
  ·exact hi.append (sepL.one ⟨fun k=>Iff.rfl,hdef⟩) (fun k hk e=>hCd (e ▸ hk))
 ·rintro d c pre e post C W hxs hext ⟨b,hb,hi⟩ hd hCd hdef
  refine hstop d c pre e post b hxs hb _ W ⟨ha.1,by rw [← ha.2.1],ha.2.2⟩ (hstep _ (fun k=>C k∨k=d) W ⟨hext.1,fun k hk => ?_⟩ ?_)
  ·rcases hk with hk | rfl
   ·exact hext.2 k hk
   ·exact .inr ⟨hd,zcd hdef⟩
  ·exact hi.append (sepL.one ⟨fun k=>Iff.rfl,hdef⟩) (fun k hk e=>hCd (e ▸ hk))
end
end
end Go.Proofs.YtbempdelckaccaaGreatDoor

namespace Go.Proofs.YtbempdelckaccaaGreatDoor
open Go.RowKit Go.Lib
set_option linter.unusedVariables false
set_option linter.unusedSimpArgs false
structure Seat (α:Type) where
 vv:Value
 k:Nat
 L:List α
def zuq {α:Type} (enc:α→List Value) (size:Nat) (hd:Hd) (xs:List α):Asn :=
 exA fun b:{b:Seat α // Vw b.vv b.L size b.k hd.v xs}=>zgQ enc size b.1.vv b.1.k b.1.L
theorem zsS {α:Type} {enc:α→List Value} {size:Nat} {e:TypeId} {hd:Hd} {xs:List α} (hlen:∀ x,(enc x).length=size) {C:Nat→Prop} {w:World} (h:(vec enc e size hd.v xs).P C w):(zuq enc size hd xs).P C w :=
 ⟨⟨⟨hd.v,0,xs⟩,zmy h⟩,znF hlen h⟩
section
variable {α η:Type} {enc:α×η→List Value} {nest nestR:α×η→List Asn} {e:TypeId} {size:Nat} {v:Value} {xs:List α} {zs:List (α×η)} {z:α×η}
def zlL (nestR:α×η→List Asn) (zs:List (α×η)):Asn :=
  ⟨fun C w=>(∀ k,C k→k<w.heap.size)∧∀ z∈zs,∀ A∈nestR z,∃ D,A.P D w∧∀ k,D k→C k,
   fun h k hk=>h.1 k hk,
   fun {C w w'} h hs hk=>⟨fun k hC=>Nat.lt_of_lt_of_le (h.1 k hC) hs,fun z hz A hA=>by
     obtain ⟨D,h1,h2⟩:=h.2 z hz A hA
     exact ⟨D,A.loc h1 hs (fun k hD=>hk k (h2 k hD)),h2⟩⟩⟩
def zu9 (nest nestR:α×η→List Asn):Prop:=∀ z C w,sepL (nest z) C w→∀ A∈nestR z,∃ D,A.P D w∧∀ k,D k→C k
theorem zrD {C:Nat→Prop} {w:World} (h:sepL (zs.flatMap nest) C w) (hz:z∈zs):∃ D,sepL (nest z) D w∧∀ k,D k→C k:=by
 obtain ⟨i,hi⟩:=List.getElem?_of_mem hz
 obtain ⟨C1,C2,h1,_,_,h4⟩:=(zkx hi).1 h
 exact ⟨C1,h1,fun k hk=>(h4 k).2 (.inl hk)⟩
theorem zrd (hG:zu9 nest nestR) {C:Nat→Prop} {w:World} (h:(own nest zs).P C w):(zlL nestR zs).P C w :=
 ⟨(own nest zs).lt h,fun z hz A hA=>by
  obtain ⟨D,h1,h2⟩:=zrD (show sepL (zs.flatMap nest) C w from h) hz
  obtain ⟨E,h3,h4⟩:=hG z D w h1 A hA
  exact ⟨E,h3,fun k hk=>h2 k (h4 k hk)⟩⟩
variable {w0:World} {K:Nat→Prop} {RD:List Asn} {i j:Nat}
theorem Rd.openEl (hr:Rd w0 K RD) (hi:RD[i]?=some (zlL nestR zs)) (hz:zs[j]?=some z):Rd w0 K (RD++nestR z) :=
 hr.more hi fun C hC B hB=>hC.2 z (List.mem_of_getElem? hz) B hB
theorem Rd.openSl {β:Type} {enc1:β→List Value} {hd:Hd} {ys:List β} (hr:Rd w0 K RD) (hi:RD[i]?=some (zuq enc1 size hd ys)):∃ vv k L,Vw vv L size k hd.v ys∧Rd w0 K (RD++[zgQ enc1 size vv k L]):=by
 obtain ⟨C,⟨⟨⟨vv,k,L⟩,hV⟩,hC⟩,hk⟩:=hr _ (List.mem_of_getElem? hi)
 refine ⟨vv,k,L,hV,hr.append fun B hB => ?_⟩
 rw [List.mem_singleton] at hB
 subst hB
 exact ⟨C,hC,hk⟩
theorem Rd.openN (hr:Rd w0 K RD) (hi:RD[i]?=some (zfM enc nest e size v xs)) (hlen:∀ z,(enc z).length=size) (hG:zu9 nest nestR) :
  ∃ zs:List (α×η),zs.map Prod.fst=xs∧Vw v zs size 0 v zs∧Rd w0 K (RD++[zgQ enc size v 0 zs,zlL nestR zs]):=by
 obtain ⟨C,h,hk⟩:=hr _ (List.mem_of_getElem? hi)
 obtain ⟨zs,hz,h1⟩:=zsX C w0 h
 obtain ⟨C1,C2,g1,g2,_,g4⟩:=zl2 h1
 refine ⟨zs,hz,zmy g1,hr.append fun B hB => ?_⟩
 rcases List.mem_cons.1 hB with rfl | hB
 ·exact ⟨C1,znF hlen g1,fun k h=>hk k ((g4 k).2 (.inl h))⟩
 ·rw [List.mem_singleton] at hB
  subst hB
  exact ⟨C2,zrd hG g2,fun k h=>hk k ((g4 k).2 (.inr h))⟩
end
section
variable {α η:Type} {nest:α×η→List Asn} {zs ys:List (α×η)}
end
section
variable {F:Fence} {P:Program} {w0:World} {K:Nat→Prop} {N:Nat} {dfs:List Deferred} {Q:Exit→Act→World→Prop} {σ:List (Nat×Value)} {L:List Asn} {c:Code} {k:Nat} {α η:Type} {enc:α×η→List Value} {nest:α×η→List Asn} {t:TypeId} {p:Value} {m:Option α}
theorem zwM (hk:L[k]?=some (zmV enc nest t p m)) (h:zwY p m→TC F P w0 K N dfs Q c σ L):TC F P w0 K N dfs Q c σ L:=fun a w ha hw=>by
 obtain ⟨C1,h1,_⟩:=hw.focus hk
 refine h ?_ a w ha hw
 rcases zl8 h1 with ⟨rfl,h2⟩ | ⟨x,b,rfl,h2⟩
 ·exact .inl ⟨rfl,h2⟩
 ·exact .inr ⟨rfl,b,h2⟩
end
end Go.Proofs.YtbempdelckaccaaGreatDoor

namespace Go.Proofs.YtbempdelckaccaaGreatDoor
open Go.RowKit Go.Lib
def zcF (z:(List Gapi_Row)×Hd):List Asn:=[zuq zbo 6 z.2 z.1]
theorem zgc:zu9 zaP zcF:=by
 intro z C w h A hA
 simp only [zcF,List.mem_cons,List.not_mem_nil,or_false] at hA
 rcases hA with rfl
 ·obtain ⟨D,h1,h2⟩:=znz h _ (List.mem_of_getElem? (i:=0) rfl); exact ⟨D,zsS zbj h1,h2⟩
end Go.Proofs.YtbempdelckaccaaGreatDoor

namespace Go.Proofs.YtbempdelckaccaaGreatDoor
open Go.RowKit Go.Lib
def Br (w:World) (base:Nat) (e:TypeId) (v:Value) (b:ByteArray):Prop:=w.ownsRow base e 1 v b.size (strCells b)
theorem Br.nil (w:World) (base:Nat) (e:TypeId):Br w base e (.slice none 0 0) ⟨#[]⟩:=World.ownsRow_nil w base e 1
theorem Br.below {w w':World} {base:Nat} {e:TypeId} {v:Value} {b:ByteArray} (h:Br w base e v b) (hb:Below w.heap.size w w'):Br w' base e v b:=by
 refine ⟨h.1,?_⟩
 rcases h.2 with hn | ⟨g,cap,cur,rfl,h2,h3,rest⟩
 ·exact .inl hn
 ·exact .inr ⟨g,cap,cur,rfl,h2,zqX h3 hb,rest⟩
theorem Br.lt {w:World} {base:Nat} {e:TypeId} {v:Value} {b:ByteArray} (h:Br w base e v b):∀ k,v.ownBlock=some k→base≤k∧k<w.heap.size:=World.ownsRow.lt h
theorem Br.conv {P:Program} {w:World} {base:Nat} {el:TypeId} {v:Value} {b:ByteArray} (h:Br w base el v b) (src dst e:TypeId) (hs:P.underlying src=some (.slice e)) (he:P.underlying e=some (.int .u8)) (hd:P.underlying dst=some .string) :
  (convert src dst v).run P w=.ok (.string b) w:=by
 rcases h.2 with ⟨rfl,h2⟩ | ⟨g,cap,cur,rfl,_,_,_⟩
 ·have hb:b=⟨#[]⟩:=by
   apply ByteArray.ext; exact Array.eq_empty_of_size_eq_zero h2
  rw [hb]; exact run_convert_nil_bytes w src dst e 0 hs he hd
 ·have hl:b.data.toList.length=b.size:=by rw [Array.length_toList]; rfl
  have:=run_convert_bytes_back (P:=P) w src dst e ⟨g,0,none⟩ cap b.data.toList hs he hd (fun j hj=>by
   refine World.ownsRow.cells h rfl j _ ?_
   unfold strCells; rw [List.getElem?_map,List.getElem?_eq_getElem hj]; rfl)
  rw [hl] at this
  rw [this]
end Go.Proofs.YtbempdelckaccaaGreatDoor

namespace Go.Proofs.YtbempdelckaccaaGreatDoor
open Go.RowKit Go.Lib Go.Shelf
attribute [local go_sem] Oper.semAt_some
set_option linter.unusedVariables false
set_option linter.unusedSimpArgs false
theorem ztX:(Tryz.prog.info? 5).map (fun i=>(i.zero,i.size,i.bytes))=some (some (.int .u8 0),1,1):=by kernel_rfl
theorem zwJ:∃ j,Tryz.prog.info? 123=some j∧j.size≠0:=by
 have h:(Tryz.prog.info? 123).map (fun j=>decide (j.size≠0))=some true:=by kernel_rfl
 cases hj:Tryz.prog.info? 123 with
 | none=>rw [hj] at h; simp at h
 | some j=>rw [hj] at h; exact ⟨j,rfl,by simpa using h⟩
theorem zoe (b:Nat) (v:Value) (w:World) (h:w.heap[b]?=some (.cells #[.pointer none,v] 123 (0,0))) :
  Calls Tryz.prog 87 #[.pointer (some ⟨b,0,none⟩)] w fun e w'=>e=.returned (.tuple #[])∧w'=w.setCell ⟨b,0,none⟩ (.pointer (some ⟨b,0,none⟩)):=by
 have c0:w.cell? ⟨b,0,none⟩=some (.pointer none):=ze4 h rfl
 have f0:=zkX h 0
 have hsh:w.shape? b=some (123,2):=by simp [World.shape?,h]
 obtain ⟨j,hj,hjs⟩:=zwJ
 clear h
 go_enter Tryz.func87,Tryz.ntmps87
 go_wp2
 rw [Lib.run_to_unsafe w ⟨b,0,none⟩ (t:=123) (by kernel_rfl) (by kernel_rfl) hj hjs hsh (Nat.zero_lt_succ 1)]
 simp only [Result.andThen]
 rw [Oper.upon_value]
 go_wp2
 rw [run_callFunc_extern Tryz.func116 (by kernel_rfl) (by kernel_rfl) (by kernel_rfl) (e:=Extern.AbiNoEscape.same) (by kernel_rfl)]
 rw [Lib.run_noEscape]
 simp only [Result.andThen]
 rw [Oper.upon_value]
 go_wp2
 rw [Lib.run_from_unsafe w ⟨b,0,none⟩ (u:=123) (by kernel_rfl) (by kernel_rfl) hj hsh (by kernel_rfl)]
 simp only [Result.andThen]
 rw [Oper.upon_value]
 go_wp2
 go_end0
 exact ⟨rfl,rfl⟩
theorem zmk (b:Nat) (v:Value) (w:World) (h:w.heap[b]?=some (.cells #[.pointer (some ⟨b,0,none⟩),v] 123 (0,0))) :
  Calls Tryz.prog 87 #[.pointer (some ⟨b,0,none⟩)] w fun e w'=>e=.returned (.tuple #[])∧w'=w:=by
 have c0:w.cell? ⟨b,0,none⟩=some (.pointer (some ⟨b,0,none⟩)):=ze4 h rfl
 obtain ⟨j,hj,hjs⟩:=zwJ
 clear h
 go_enter Tryz.func87,Tryz.ntmps87
 go_wp2
 rw [Lib.run_neq_ptr_same w _ (te:=123) (by kernel_rfl) hj]
 go_wp2
 go_end0
 exact ⟨rfl,rfl⟩
def Bld (b:Nat) (bs:ByteArray) (C:Nat→Prop) (w:World):Prop :=
 ∃ p v D,w.heap[b]?=some (.cells #[p,v] 123 (0,0))∧(p=.pointer none∨p=.pointer (some ⟨b,0,none⟩))∧Byt 5 v bs D w∧¬ D b∧C=(fun k=>k=b∨D k)
theorem Bld.local {b:Nat} {bs:ByteArray} {C:Nat→Prop} {w w':World} (h:Bld b bs C w) (hk:∀ k,C k→w'.heap[k]?=w.heap[k]?):Bld b bs C w':=by
 obtain ⟨p,v,D,h1,h2,h3,h4,rfl⟩:=h
 exact ⟨p,v,D,(hk b (.inl rfl)).trans h1,h2,h3.local (fun k h=>hk k (.inr h)),h4,rfl⟩
theorem Bld.lt {b:Nat} {bs:ByteArray} {C:Nat→Prop} {w:World} (h:Bld b bs C w):∀ k,C k→k<w.heap.size:=by
 obtain ⟨p,v,D,h1,h2,h3,h4,rfl⟩:=h
 rintro k (rfl | hk)
 ·exact zcd h1
 ·exact h3.lt k hk
theorem Bld.ext {b:Nat} {bs:ByteArray} {C D D':Nat→Prop} {w w':World} (h:Bld b bs C w) (hx:Ext D D' w w') (hd:∀ k,C k→¬ D k):Bld b bs C w' :=
 h.local (fun k hk=>hx.1.keep k (h.lt k hk) (hd k hk))
theorem Bld.new (w:World):Bld w.heap.size ⟨#[]⟩ (fun k=>k=w.heap.size) (w.alloc (.cells #[.pointer none,.slice none 0 0] 123)) :=
 ⟨_,_,_,World.alloc_heap_new w _,.inl rfl,Byt.nil,by simp,by funext k; simp⟩
theorem zkm (b:Nat) (bs s:ByteArray) (C:Nat→Prop) (w:World) (h:Bld b bs C w) (hn:bs.size+s.size≤140737488355328) :
  Calls Tryz.prog 60 #[.pointer (some ⟨b,0,none⟩),.string s] w fun e w'=>(∃ u,e=.returned u)∧∃ C',Bld b (bs++s) C' w'∧Ext C C' w w':=by
 obtain ⟨p,v,D,hbk,hp,hbr,hne,rfl⟩:=h
 obtain ⟨ip,hpi,hpz,hps,hpb⟩:=info_parts ztX
 obtain ⟨w1,hck,hb1,hbr1,hx1⟩:∃ w1,(Calls Tryz.prog 87 #[.pointer (some ⟨b,0,none⟩)] w fun e w'=>e=.returned (.tuple #[])∧w'=w1) ∧
   w1.heap[b]?=some (.cells #[.pointer (some ⟨b,0,none⟩),v] 123 (0,0))∧Byt 5 v bs D w1∧Ext (fun k=>k=b∨D k) (fun k=>k=b∨D k) w w1:=by
  rcases hp with rfl | rfl
  ·have hx:Ext (fun k=>k=b) (fun k=>k=b) w (w.setCell ⟨b,0,none⟩ (.pointer (some ⟨b,0,none⟩))):=Ext.setCell (C':=fun k=>k=b) (Ext.refl _ _) (p:=⟨b,0,none⟩) rfl _
   refine ⟨_,zoe b v w hbk,?_,hbr.ext hx (by rintro k hk rfl; exact hne hk),Ext.setCell (C':=fun k=>k=b∨D k) (Ext.refl _ _) (p:=⟨b,0,none⟩) (.inl rfl) _⟩
   simp [World.setCell,Array.getElem?_modify,hbk]
  ·exact ⟨w,zmk b v w hbk,hbk,hbr,Ext.refl _ _⟩
 have c1:w1.cell? ⟨b,1,none⟩=some v:=ze4 hb1 rfl
 have hlt:b<w1.heap.size:=zcd hb1
 have Hbk:=Lib.hid hbk; have Hbr:=Lib.hid hbr; have Hx1:=Lib.hid hx1
 clear hbk hbr hx1
 go_enter Tryz.func60,Tryz.ntmps60
 go_wp2_with (first | (go_at_call 87; refine hck.mono ?_; rintro e w' ⟨rfl,rfl⟩) | (refine zi9 _ rfl _ _ _ _ rfl 5 _ (by kernel_rfl) (by kernel_rfl) hpi hpz hps hpb _ _ _ rfl hbr1 _ rfl hn ?_))
 rintro v' w2 D' hr2 hx2
 have hb2:w2.heap[b]?=some (.cells #[.pointer (some ⟨b,0,none⟩),v] 123 (0,0)):=(hx2.1.keep b hlt hne).trans hb1
 have f1:=zkX hb2 1
 have d1:w2.cell? ⟨b,1,none⟩=some v:=ze4 hb2 rfl
 have hne':¬ D' b:=hx2.not hlt hne
 obtain ⟨ao,n',cap',rfl⟩:∃ ao n' cap',v'=.slice ao n' cap':=by
  rcases hr2.shape with ⟨rfl,_⟩ | ⟨g,cap,cur,rfl,_⟩ <;> exact ⟨_,_,_,rfl⟩
 have Hr2:=Lib.hid hr2; have Hx2:=Lib.hid hx2; have Hb2:=Lib.hid hb2
 clear hr2 hx2 hb2
 go_wp2
 go_ret2
 have hx3:Ext (fun k=>k=b∨D' k) (fun k=>k=b∨D' k) w2 (w2.setCell ⟨b,1,none⟩ (.slice ao n' cap')):=Ext.setCell (C':=fun k=>k=b∨D' k) (Ext.refl _ _) (p:=⟨b,1,none⟩) (.inl rfl) _
 have hx3':Ext (fun k=>k=b) (fun k=>k=b) w2 (w2.setCell ⟨b,1,none⟩ (.slice ao n' cap')):=Ext.setCell (C':=fun k=>k=b) (Ext.refl _ _) (p:=⟨b,1,none⟩) rfl _
 refine ⟨⟨_,rfl⟩,fun k=>k=b∨D' k,⟨_,_,D',?_,.inr rfl,Hr2.out.ext hx3' (by rintro k hk rfl; exact hne' hk),hne',rfl⟩,?_⟩
 ·simp [World.setCell,Array.getElem?_modify,Hb2.out]
 ·refine (Hx1.out.trans ?_).trans hx3
  exact ⟨Hx2.out.1.weaken (fun k _ h=>.inr h),fun k hk=>by
   rcases hk with rfl | hk
   ·exact .inl (.inl rfl)
   ·exact (Hx2.out.2 k hk).imp .inr id⟩
theorem zqh {C C':Nat→Prop} {a w:World} (h:Ext C C' a w) {g:Nat} (hg:C' g) (m:Nat):Ext C C' a (w.freeze ⟨g,0,none⟩ m):=by
 unfold World.freeze
 split
 ·exact h
 ·have hs:∀ f:Obj→Obj,({ w with heap:=w.heap.modify g f }:World).heap.size=w.heap.size:=fun f=>by simp
  refine ⟨⟨h.1.os,h.1.tape,h.1.output,by simpa using h.1.size,fun k hk hn => ?_⟩,fun k hk=>by simpa using h.2 k hk⟩
  rw [Array.getElem?_modify]
  rw [if_neg]
  ·exact h.1.keep k hk hn
  ·intro e
   have e':g=k:=e
   subst e'
   rcases h.2 _ hg with h' | h'
   ·exact hn h'
   ·omega
theorem zoV (b:Nat) (bs:ByteArray) (C:Nat→Prop) (w:World) (h:Bld b bs C w) :
  Calls Tryz.prog 63 #[.pointer (some ⟨b,0,none⟩)] w fun e w'=>e=.returned (.string bs)∧Ext C C w w':=by
 obtain ⟨p,v,D,hbk,hp,hbr,hne,rfl⟩:=h
 rcases hbr.shape with ⟨rfl,rfl,rfl⟩ | ⟨g,cap,cur,rfl,hgl,hbc,hcm,rfl,hg⟩
 ·have c1:w.drew.cell? ⟨b,1,none⟩=some (.slice none 0 0):=ze4 (w:=w.drew) hbk rfl
  have hSD:(Builtin.unsafeSliceData_ #[121] 173 #[.slice none 0 0]).run Tryz.prog w.drew=.ok (.pointer none) w.drew:=rfl
  have hUS:∀ W q,(Builtin.unsafeString_ #[173,3] 9 #[.pointer q,.int .i64 0]).run Tryz.prog W=.ok (.string .empty) W:=fun W q=>Lib.run_unsafeString_none W _ _ _ q
  clear hbk hbr
  go_enter Tryz.func63,Tryz.ntmps63
  go_wp2
  go_region
  all_goals (go_wp2; go_ret; exact ⟨rfl,(Ext.refl _ _).drew⟩)
 ·by_cases h0:bs.size=0
  ·have hbs:bs=⟨#[]⟩:=by apply ByteArray.ext; exact Array.eq_empty_of_size_eq_zero h0
   subst hbs
   have h00:(⟨#[]⟩:ByteArray).size=0:=rfl
   rw [h00] at hbk hbr
   have hUS:∀ W q,(Builtin.unsafeString_ #[173,3] 9 #[.pointer q,.int .i64 0]).run Tryz.prog W=.ok (.string .empty) W:=fun W q=>Lib.run_unsafeString_none W _ _ _ q
   have c1:w.drew.cell? ⟨b,1,none⟩=some (.slice (some ⟨g,0,none⟩) 0 cap):=ze4 (w:=w.drew) hbk rfl
   by_cases hc0:cap=0
   ·subst hc0
    have hSD:(Builtin.unsafeSliceData_ #[121] 173 #[.slice (some ⟨g,0,none⟩) 0 0]).run Tryz.prog w.drew=.ok (.pointer (some ⟨w.drew.heap.size,0,none⟩)) (w.drew.alloc (.view ⟨g,0,none⟩ 5)) :=
     Lib.run_unsafeSliceData_zero w.drew _ _ 5 (by kernel_rfl) ⟨g,0,none⟩ 0 (5,cur.size) (by have hg':w.drew.heap[g]?=some (.cells cur 5 (0,0)):=hg; simp [World.shape?,hg'])
    have hlt:=zcd hbk
    have c2:(w.drew.alloc (.view ⟨g,0,none⟩ 5)).cell? ⟨b,1,none⟩=some (.slice (some ⟨g,0,none⟩) 0 0):=ze4 (w:=w.drew.alloc _) ((Below.heap_alloc w.drew _ b hlt).trans hbk) rfl
    have c3:(w.alloc (.view ⟨g,0,none⟩ 5)).drew.cell? ⟨b,1,none⟩=some (.slice (some ⟨g,0,none⟩) 0 0):=c2
    have c0:w.cell? ⟨b,1,none⟩=some (.slice (some ⟨g,0,none⟩) 0 0):=c1
    clear hbk hbr hg
    go_enter Tryz.func63,Tryz.ntmps63
    go_wp2
    go_region
    all_goals (go_wp2; go_ret; exact ⟨rfl,(Ext.refl _ _).drew.alloc _⟩)
   ·have hSD:(Builtin.unsafeSliceData_ #[121] 173 #[.slice (some ⟨g,0,none⟩) 0 cap]).run Tryz.prog w.drew=.ok (.pointer (some ⟨g,0,none⟩)) w.drew:=Lib.run_unsafeSliceData_row _ _ _ _ _ _ hc0
    clear hbk hbr hg hc0
    go_enter Tryz.func63,Tryz.ntmps63
    go_wp2
    go_region
    all_goals (go_wp2; go_ret; exact ⟨rfl,(Ext.refl _ _).drew⟩)
  ·obtain ⟨l,hl⟩:∃ l,l=bs.data.toList:=⟨_,rfl⟩
   have hll:l.length=bs.size:=by rw [hl,Array.length_toList]; rfl
   have hbs:bs=⟨l.toArray⟩:=by rw [hl]
   have hl0:l≠[]:=by intro e; rw [e] at hll; exact h0 hll.symm
   rw [← hll] at hbk hbc hbr
   have c1:w.drew.cell? ⟨b,1,none⟩=some (.slice (some ⟨g,0,none⟩) l.length cap):=ze4 (w:=w.drew) hbk rfl
   have hSD:(Builtin.unsafeSliceData_ #[121] 173 #[.slice (some ⟨g,0,none⟩) l.length cap]).run Tryz.prog w.drew=.ok (.pointer (some ⟨g,0,none⟩)) w.drew :=
    Lib.run_unsafeSliceData_row _ _ _ _ _ _ (by omega)
   have hcs:cur.size=cap*1:=by
    rcases hbr.1.2 with ⟨h1,_⟩ | ⟨g',cap',cur',h1,_,h3,_,_,h6,_⟩
    ·cases h1
    ·have e1:g=g':=by injection h1 with q1 q2 q3; injection q1 with q1; injection q1
     have e2:cap=cap':=by injection h1
     subst e1; subst e2
     rw [hg] at h3; injection h3 with h3; injection h3 with h3
     rw [h3]; exact h6
   have hUS:(Builtin.unsafeString_ #[173,3] 9 #[.pointer (some ⟨g,0,none⟩),.int .i64 l.length]).run Tryz.prog w.drew=.ok (.string ⟨l.toArray⟩) (w.drew.freeze ⟨g,0,none⟩ l.length):=by
    refine Lib.run_unsafeString_row w.drew 173 3 9 5 (by kernel_rfl) (by kernel_rfl) g cur.size (by have hg':w.drew.heap[g]?=some (.cells cur 5 (0,0)):=hg; simp [World.shape?,hg']) l hl0 (by omega) (by unfold maxLen at hcm; omega) ?_
    intro j x hx
    refine World.ownsRow.cells hbr.1 (g:=g) rfl j (.int .u8 x.toNat) ?_
    unfold strCells
    rw [List.getElem?_map,← hl,hx]; rfl
   rw [hbs]
   have hx:Ext (fun k=>k=b∨k=g) (fun k=>k=b∨k=g) w (w.drew.freeze ⟨g,0,none⟩ l.length):=zqh ((Ext.refl _ _).drew) (.inr rfl) _
   have Hx:=Lib.hid hx
   clear hbk hbr hg hx hbs hll hcs
   clear hl
   go_enter Tryz.func63,Tryz.ntmps63
   go_wp2
   go_region
   all_goals (go_wp2; go_ret; exact ⟨rfl,Hx.out⟩)
end Go.Proofs.YtbempdelckaccaaGreatDoor

namespace Go.Proofs.YtbempdelckaccaaGreatDoor
open Go.RowKit Go.Lib Go.Shelf
attribute [local go_sem] Oper.semAt_some
set_option linter.unusedVariables false
set_option linter.unusedSimpArgs false
theorem Bld.drew {b:Nat} {bs:ByteArray} {C:Nat→Prop} {w:World} (h:Bld b bs C w):Bld b bs C w.drew:=h.local (fun _ _=>rfl)
def zqA (b:Nat) (bs:ByteArray):Asn:=⟨fun C w=>Bld b bs C w,fun h=>h.lt,fun h _ hk=>h.local hk⟩
theorem zqG (b:Nat) (bs s:ByteArray) (hn:bs.size+s.size≤140737488355328):Fn Tryz.prog 60 [.pointer (some ⟨b,0,none⟩),.string s] [zqA b bs] (fun u:Value=>u) (fun _=>[zqA b (bs++s)]):=by
 intro w C hA
 refine (zkm b bs s C w (sepL.one1.1 hA) hn).mono ?_
 rintro e w' ⟨⟨u,rfl⟩,C',h1,h2⟩
 exact ⟨u,rfl,C',sepL.one1.2 h1,h2⟩
theorem zuY (b:Nat) (bs:ByteArray):Fn Tryz.prog 63 [.pointer (some ⟨b,0,none⟩)] [zqA b bs] (fun _:Unit=>.string bs) (fun _=>[]):=by
 intro w C hA
 refine (zoV b bs C w (sepL.one1.1 hA)).mono ?_
 rintro e w' ⟨rfl,h2⟩
 exact ⟨(),rfl,fun _=>False,fun _ h=>h,h2.1,fun k hk=>hk.elim⟩
theorem zqw {b:Nat}:Ent (cells b [.pointer none,.slice none 0 0] 123) (zqA b ⟨#[]⟩):=by
 intro C w h
 have hC:C=fun k=>k=b:=funext fun k=>propext (h.1 k)
 subst hC
 exact ⟨_,_,_,h.2,.inl rfl,Byt.nil,by simp,by funext k; simp⟩
end Go.Proofs.YtbempdelckaccaaGreatDoor

namespace Go.Proofs.YtbempdelckaccaaGreatDoor
open Go.RowKit Go.Lib Go.Shelf
set_option linter.unusedVariables false
set_option linter.unusedSimpArgs false
end Go.Proofs.YtbempdelckaccaaGreatDoor

namespace Go.Proofs.YtbempdelckaccaaGreatDoor
open Go.RowKit Go.Lib
set_option linter.unusedVariables false
set_option linter.unusedSimpArgs false
theorem zhp {α:Type} {enc:α→List Value} {size:Nat} {P:Program} (w:World) (t ty e:TypeId) (i:TypeInfo) (z:Value) (ht:P.underlying t=some (.slice e)) (hi:P.info? e=some i) (hz:i.zero=some z)
  (hsize:i.size=size) (hzs:z.cells.size=size) (hsz:0<size) (hlen:∀ x,(enc x).length=size) (h1:∀ x,∀ u∈enc x,u.oneCell'=true)
  (v:Value) (L:List α) (C:Nat→Prop) (hown:Vec enc e size v L C w) (ys:List α) (a:Addr) (c:Nat)
  (hnews:∀ j u,(ys.flatMap enc)[j]?=some u→w.cell? (a.add j)=some u) (hn:L.length+ys.length≤maxLen) (hbb:(L.length+ys.length)*i.bytes≤140737488355328) :
  ∃ v' w',(Builtin.append_ #[t,t] ty #[v,.slice (some a) ys.length c]).run P w=.ok v' w'∧∃ C',Vec enc e size v' (L++ys) C' w'∧Ext C C' w w':=by
 obtain ⟨hown,rfl⟩:=hown
 have hl:(ys.flatMap enc).length=ys.length*size:=zgT hlen ys
 have h1':∀ u∈ys.flatMap enc,u.oneCell'=true:=by
  intro u hu
  obtain ⟨x,hx,hu⟩:=List.mem_flatMap.1 hu
  exact h1 x u hu
 obtain ⟨v',w',hr,r1,r2,_⟩:=run_append_own (P:=P) w 0 t ty e i z size i.bytes ht hi hz hsize rfl hzs hsz v L.length (L.flatMap enc) hown a ys.length c (ys.flatMap enc) hl hnews h1' hn hbb (Nat.zero_le _)
 have hbl:=zhD (P:=P) w 0 t ty e i z size i.bytes ht hi hz hsize rfl v L.length (L.flatMap enc) hown a ys.length c (ys.flatMap enc) hl hnews h1' hn hbb hr
 have hR:Rw enc w' 0 e size v' (L++ys):=by
  unfold Rw; rw [List.length_append,List.flatMap_append]; exact r1
 exact ⟨v',w',hr,_,⟨hR,rfl⟩,zgk r2 hbl (fun g hg=>(World.ownsRow.lt hR g hg).2)⟩
section
variable {F:Fence} {P:Program} {w0:World} {K:Nat→Prop} {N:Nat} {dfs:List Deferred} {ops:Array Oper} {Q:Exit→Act→World→Prop} {rest:List Oper} {σ:List (Nat×Value)} {L RD:List Asn}
 {d:Nat} {ty:TypeId} {pos:String} {aft:Array Edge} {g:Option (Nat×Bool)} {s x:Operand} {t e e2:TypeId} {k k2 j size:Nat} {vv v2 v:Value} {α:Type} {enc:α→List Value} {xs ys Ls:List α}
theorem zqt {C:Nat→Prop} {w:World} (hlen:∀ x,(enc x).length=size) (hs:0<size) (h:(zgQ enc size v2 j Ls).P C w) (hV:Vw v2 Ls size j v ys) (hne:ys≠[]):∃ c,v=.slice (some ⟨zcN v2,j*size,none⟩) ys.length c∧∀ n u,(ys.flatMap enc)[n]?=some u→w.cell? ((⟨zcN v2,j*size,none⟩:Addr).add n)=some u:=by
 have hgt:=fun (i:Nat) (q:α) (hq:ys[i]?=some q)=>hV.get (i:=(i:Int)) (zc4 hq)
 obtain ⟨_,_,q',c,hq',_,hp⟩:=hV
 have hp:=hp hne
 subst hp
 refine ⟨c,hq',fun n u hu => ?_⟩
 have hadd:(⟨zcN v2,j*size,none⟩:Addr).add n=⟨zcN v2,j*size+n,none⟩:=by unfold Addr.add; split <;> simp_all
 rw [hadd]
 have hnl:n<ys.length*size:=by
  have:=(List.getElem?_eq_some_iff.1 hu).1; rwa [zgT hlen ys] at this
 have hi:n / size<ys.length:=Nat.div_lt_of_lt_mul (by rwa [Nat.mul_comm] at hnl)
 have hr:n % size<size:=Nat.mod_lt _ hs
 have hdm:n / size*size+n % size=n:=Nat.div_add_mod' n size
 have hy:ys[n / size]?=some ys[n / size]:=List.getElem?_eq_getElem hi
 have h2:=zkb hlen ys (n / size) (n % size) _ hy hr
 rw [hdm,hu] at h2
 have h3:=(h.2 _ _ _ _ (Nat.le_add_right _ _) (hgt _ _ hy) h2.symm).2
 have e1:(j+((n / size:Nat):Int).toNat)*size+n % size=j*size+n:=by
  rw [Int.toNat_natCast,Nat.add_mul]; omega
 rwa [e1] at h3
theorem zo3 [WideF F] {i2 B:Nat} (hr:Rd w0 K RD) (hi2:RD[i2]?=some (zgQ enc size v2 j Ls)) (ht:P.underlying t=some (.slice e)) (hE:ElemOk P e size) (hB:∀ i,P.info? e=some i→i.bytes≤B) (hlen:∀ x,(enc x).length=size) (h1:∀ x,∀ u∈enc x,u.oneCell'=true) (hV:Vw v2 Ls size j v ys) (hg:gd ops σ g=some true) (hd:d<N) (hs:ev σ s=some vv) (hx:ev σ x=some v)
  (hk:L[k]?=some (vec enc e size vv xs)) (hn:xs.length+ys.length≤maxLen) (hb:(xs.length+ys.length)*B≤140737488355328)
  (h:∀ v',TO F P w0 K N dfs ops Q rest ((d,v')::σ) (L.set k (vec enc e size v' (xs++ys)))) :
  TO F P w0 K N dfs ops Q (⟨some d,.call { callee:=.builtin .append,args:=#[s,x],argTypes:=#[t,t] },ty,pos,aft,g⟩::rest) σ L:=by
 obtain ⟨i,zv,hi,hz,hsize,hzs,hsz,hbytes⟩:=hE
 have hbb:(xs.length+ys.length)*i.bytes≤140737488355328:=Nat.le_trans (Nat.mul_le_mul_left _ (hB i hi)) hb
 refine zgw hg (by simp) fun a w ha hw => ?_
 obtain ⟨C2,hV2⟩:=hr.at hw hi2
 obtain ⟨C,hV1,hstep⟩:=hw.focus hk
 by_cases hne:ys=[]
 ·subst hne
  obtain ⟨_,_,q',c,hq',_,_⟩:=hV
  subst hq'
  rw [List.append_nil] at h
  rcases q' with _ | q'
  ·obtain ⟨b,cap,hb⟩:=Vec.len hV1
   have hcap:xs.length≤cap:=by
    rcases hV1.shape with ⟨h3,h4,_⟩ | ⟨gb,cap',h3,_,h4,_⟩
    ·rw [h4]; exact Nat.zero_le _
    ·rw [hb] at h3; cases h3; exact h4
   have hr:=zkz (P:=P) w t ty e i ht hi b xs.length cap c hcap
   refine ⟨vv,w,?_,h vv _ _ (ha.put hd _) (hstep _ C w (Ext.refl _ _) hV1)⟩
   subst hb
   simp [execOp,resolve,invoke,builtin,ha.ev hs,ha.ev hx,hr,Sem.run_bind]
  ·obtain ⟨v',w',hr,C',h2,h3⟩:=zhp (P:=P) w t ty e i zv ht hi hz hsize hzs hsz hlen h1 vv xs C hV1 [] q' c (by simp) hn hbb
   rw [List.append_nil] at h2
   refine ⟨v',w',?_,h v' _ _ (ha.put hd _) (hstep _ C' w' h3 h2)⟩
   have hr':(Builtin.append_ #[t,t] ty #[vv,.slice (some q') 0 c]).run P w=.ok v' w':=hr
   simp [execOp,resolve,invoke,builtin,ha.ev hs,ha.ev hx,hr',Sem.run_bind]
 ·obtain ⟨c,rfl,hc⟩:=zqt hlen hsz hV2 hV hne
  obtain ⟨v',w',hr,C',h2,h3⟩:=zhp (P:=P) w t ty e i zv ht hi hz hsize hzs hsz hlen h1 vv xs C hV1 ys _ c hc hn hbb
  refine ⟨v',w',?_,h v' _ _ (ha.put hd _) (hstep _ C' w' h3 h2)⟩
  simp [execOp,resolve,invoke,builtin,ha.ev hs,ha.ev hx,hr,Sem.run_bind]
theorem Vec.cut {C:Nat→Prop} {w:World} {q:Option Addr} {c n m:Nat} (hlen:∀ x,(enc x).length=size) (h:Vec enc e size (.slice q m c) xs C w) (hm:n≤m):Vec enc e size (.slice q n c) (xs.take n) C w:=by
 obtain ⟨⟨h1,h2⟩,rfl⟩:=h
 have hfl:=zgT hlen xs
 have hfn:=zgT hlen (xs.take n)
 rcases h2 with ⟨h2,h3⟩ | ⟨gb,cap,cur,h2,h3,h4,h5,h6,h7,h8⟩
 ·cases h2
  have:xs=[]:=List.length_eq_zero_iff.1 h3
  subst this
  obtain rfl:n=0:=by omega
  exact ⟨⟨by simp,.inl ⟨rfl,by simp⟩⟩,rfl⟩
 ·cases h2
  have hnl:(xs.take n).length=n:=by rw [List.length_take]; omega
  refine ⟨⟨by rw [hfn],.inr ⟨gb,c,cur,by rw [hnl],h3,h4,by rw [hnl]; omega,h6,h7,?_⟩⟩,by funext k; simp [Value.ownBlock]⟩
  rw [hnl]
  have e1:(xs.take n).flatMap enc=(xs.flatMap enc).take (n*size):=by
   conv=>rhs; rw [← List.take_append_drop n xs,List.flatMap_append]
   rw [List.take_left' (by rw [hfn,hnl])]
  rw [e1,← h8,List.take_take,Nat.min_eq_left (Nat.mul_le_mul_right _ hm)]
end
end Go.Proofs.YtbempdelckaccaaGreatDoor

namespace Go.Proofs.YtbempdelckaccaaGreatDoor
open Go.RowKit Go.Lib
set_option linter.unusedVariables false
set_option linter.unusedSimpArgs false
theorem zoi {P:Program} {t e:TypeId} {x:Operand} {q:Option Addr} {n c:Nat} (ht:P.underlying t=some (.slice e)) (w:World):(do eqGuard .eql t x (.const (.slice none 0 0)) (.slice q n c) (.slice none 0 0); binOp .eql t (.slice q n c) (.slice none 0 0):Sem Value).run P w=.ok (.bool q.isNone) w:=by
 have h:∀ d,(Op.equalIn (d+1) t (.slice q n c) (.slice none 0 0)).run P w=.ok q.isNone w:=fun d=>by
  cases q <;> simp [Op.equalIn,run_underlying ht]
 have h':(Op.equalIn Op.maxDepth t (.slice q n c) (.slice none 0 0)).run P w=.ok q.isNone w:=h 9999
 simp [eqGuard,binOp,Sem.run_bind,run_underlying ht,Op.equal,h']
theorem zqr:∀ i,Tryz.prog.info? 33=some i→i.bytes≤56:=fun i hi=>by
 have h:(Tryz.prog.info? 33).all (fun i=>decide (i.bytes≤56))=true:=by kernel_rfl
 rw [hi] at h
 exact of_decide_eq_true h
theorem zuW {vv v:Value} {Ls:List Gapi_Row} {k:Nat} {xs:List Gapi_Row} (hw:Vw vv Ls 6 k v xs) (hb:xs.length*56≤140737488355328):FnR Tryz.prog 44 [v] [zgQ zbo 6 vv k Ls] [] (fun v0:Value=>v0) (fun v0=>[vec zbo 33 6 v0 xs]):=by
 refine FnR.intro Tryz.func44 rfl Tryz.ntmps44 (by simp) ?_
 intro w0 K hrd
 obtain ⟨q,c,hv,_,hq⟩:=hw.2.2
 have hw':=hw
 subst hv
 cases q with
 | none =>
  have hx:xs=[]:=by
   cases xs with
   | nil=>rfl
   | cons x xs=>cases hq (by simp)
  subst hx
  refine zaJ (zat (zhE rfl (by decide) rfl (zaQ (zaI (zaJ (zaJ (zat (zfA rfl (by decide) rfl (zb9 rfl (by decide) rfl rfl (zoi Tryz.underlying43) (zaQ (zaI (za9 rfl ?_))))))))))))
  refine zaJ (zat (zgL (enc:=zbo) (e:=33) (size:=6) (zhE rfl (by decide) rfl (zaQ (zaI (zaE (zaq ?_)))))))
  exact zaS (rs:=[.tmp 2]) (.slice none 0 0) (.inl rfl) Tryz.results44 (.cons (.tmp rfl) .nil) rfl (zad [0] (by as_aux_lemma=>kernel_rfl) rfl)
 | some q =>
  refine zaJ (zat (zhE rfl (by decide) rfl (zaQ (zaI (zaJ (zaJ (zat (zfA rfl (by decide) rfl (zb9 rfl (by decide) rfl rfl (zoi Tryz.underlying43) (zaQ (zaI (zaN rfl (zas ?_)))))))))))))
  refine zaI (zaJ (zat ?_))
  refine zaR (cs:=[]) (te:=33) (ps:=[]) rfl (by decide) rfl (fun _=>by kernel_rfl) (fun b1 => ?_)
  refine zfA rfl (by decide) rfl (zg1 ([]:List Gapi_Row) (k:=0) rfl zbj rfl (show 0≤maxLen by decide) ?_)
  show TO _ _ _ _ _ _ _ _ _ _ [vec zbo 33 6 (.slice (some ⟨b1,0,none⟩) 0 0) ([]:List Gapi_Row)]
  refine zo3 (k:=0) (i2:=0) (B:=56) hrd rfl Tryz.underlying43 zrT zqr zbj zeh hw' rfl (by decide) rfl rfl rfl (by simp only [maxLen,List.length_nil]; omega) (by rw [List.length_nil,Nat.zero_add]; exact hb) (fun v1 => ?_)
  refine zhE rfl (by decide) rfl (zaQ (zaI (zaE ?_)))
  exact zaS (rs:=[.tmp 2]) v1 (.inl rfl) Tryz.results44 (.cons (.tmp rfl) .nil) rfl (zad [0] (by as_aux_lemma=>kernel_rfl) rfl)
def zey (s1:List Gapi_Row):Option (List Gapi_Row) :=
grd (s1.length*56≤140737488355328) <|
some s1
theorem zfX {vvs1 vs1:Value} {Ls1:List Gapi_Row} {ks1:Nat} {s1:List Gapi_Row} (hws1:Vw vvs1 Ls1 6 ks1 vs1 s1) {r:(List Gapi_Row)} (h:zey s1=some r):FnR Tryz.prog 44 [vs1] [zgQ zbo 6 vvs1 ks1 Ls1] [] (fun v0:Value=>v0) (fun v0=>[vec zbo 33 6 v0 r]):=by
 obtain ⟨hb,h⟩:=zbn h
 cases h
 exact zuW hws1 hb
end Go.Proofs.YtbempdelckaccaaGreatDoor

namespace Go.Proofs
open Go.Shelf
def zj1:Go.Shelf.Ren:=⟨fun | 283=>137 | n=>n,fun | 3=>3 | 9=>9 | 4=>4 | n=>n,fun | n=>n⟩
theorem zok:Go.Proofs.Lays.n283 Tryz.prog zj1:={
 mixed:=by kernel_rfl
 f283:=Tryz.func137.trans (congrArg some (by kernel_rfl))
 t3:=Tryz.underlying3
 a3:=Tryz.isAgg3
 z3:=Tryz.sizeOf3
 v3:=Tryz.zeroValue3
 t4:=Tryz.underlying4
 a4:=Tryz.isAgg4
 z4:=Tryz.sizeOf4
 v4:=Tryz.zeroValue4
 t9:=Tryz.underlying9
 a9:=Tryz.isAgg9
 z9:=Tryz.sizeOf9
 v9:=Tryz.zeroValue9 }
open Go.Lib in
theorem Tryz.internal_strconv_small (i:Nat) (h:i<100) (w:World) :
  Calls Tryz.prog 137 #[.int .i64 i] w fun e w'=>e=.returned (.string ⟨(Lib.decDigits i).toArray⟩)∧w'=w:=Any.internal_strconv_small zok i h w
end Go.Proofs

namespace Go.Proofs.YtbempdelckaccaaGreatDoor
open Go.RowKit Go.Lib Go.Shelf
attribute [local go_sem] Oper.semAt_some
set_option linter.unusedVariables false
set_option linter.unusedSimpArgs false
theorem zse {c:Int} (hc:U8 c):(strCells (zc0 [c])).toArray=#[.int .u8 c]:=by
 have h:(((UInt8.ofNat c.toNat).toNat:Nat):Int)=c:=by
  obtain ⟨h1,h2⟩:=hc
  have:(UInt8.ofNat c.toNat).toNat=c.toNat:=by simp; omega
  rw [this]; omega
 show #[Value.int .u8 ((UInt8.ofNat c.toNat).toNat:Int)]=_
 rw [h]
theorem zmv (b:Nat) (bs:ByteArray) (c:Int) (hc:U8 c) (C:Nat→Prop) (w:World) (h:Bld b bs C w) (hn:bs.size+1≤140737488355328) :
  Calls Tryz.prog 58 #[.pointer (some ⟨b,0,none⟩),.int .u8 c] w fun e w'=>(∃ u,e=.returned u)∧∃ C',Bld b (bs++zc0 [c]) C' w'∧Ext C C' w w':=by
 obtain ⟨p,v,D,hbk,hp,hbr,hne,rfl⟩:=h
 obtain ⟨ip,hpi,hpz,hps,hpb⟩:=info_parts ztX
 obtain ⟨w1,hck,hb1,hbr1,hx1⟩:∃ w1,(Calls Tryz.prog 87 #[.pointer (some ⟨b,0,none⟩)] w fun e w'=>e=.returned (.tuple #[])∧w'=w1) ∧
   w1.heap[b]?=some (.cells #[.pointer (some ⟨b,0,none⟩),v] 123 (0,0))∧Byt 5 v bs D w1∧Ext (fun k=>k=b∨D k) (fun k=>k=b∨D k) w w1:=by
  rcases hp with rfl | rfl
  ·have hx:Ext (fun k=>k=b) (fun k=>k=b) w (w.setCell ⟨b,0,none⟩ (.pointer (some ⟨b,0,none⟩))):=Ext.setCell (C':=fun k=>k=b) (Ext.refl _ _) (p:=⟨b,0,none⟩) rfl _
   refine ⟨_,zoe b v w hbk,?_,hbr.ext hx (by rintro k hk rfl; exact hne hk),Ext.setCell (C':=fun k=>k=b∨D k) (Ext.refl _ _) (p:=⟨b,0,none⟩) (.inl rfl) _⟩
   simp [World.setCell,Array.getElem?_modify,hbk]
  ·exact ⟨w,zmk b v w hbk,hbk,hbr,Ext.refl _ _⟩
 have c1:w1.cell? ⟨b,1,none⟩=some v:=ze4 hb1 rfl
 have hlt:b<w1.heap.size:=zcd hb1
 have hcell:=zse hc
 have hblk:(w1.alloc (.cells #[.int .u8 c] 5)).heap[w1.heap.size]?=some (.cells (strCells (zc0 [c])).toArray 5 (0,0)):=by rw [hcell]; exact World.alloc_heap_new w1 _
 have hsz:(zc0 [c]).size=1:=zog [c]
 have hlta:b<(w1.alloc (.cells #[.int .u8 c] 5)).heap.size:=zcd ((Below.heap_alloc _ _ _ hlt).trans hb1)
 have hb1a:(w1.alloc (.cells #[.int .u8 c] 5)).heap[b]?=some (.cells #[.pointer (some ⟨b,0,none⟩),v] 123 (0,0)):=(Below.heap_alloc _ _ _ hlt).trans hb1
 have hx1a:=hx1.alloc (.cells #[.int .u8 c] 5)
 have hbr1a:=hbr1.alloc (.cells #[.int .u8 c] 5)
 have Hbk:=Lib.hid hbk; have Hbr:=Lib.hid hbr; have Hx1:=Lib.hid hx1; have Hcell:=Lib.hid hcell; have Hblk:=Lib.hid hblk; have Hsz:=Lib.hid hsz; have Hbr1:=Lib.hid hbr1; have Hbr1a:=Lib.hid hbr1a; have Hc:=Lib.hid hc; have Hb1a:=Lib.hid hb1a; have Hlta:=Lib.hid hlta; have Hx1a:=Lib.hid hx1a
 clear hbk hbr hx1 hcell hblk hsz hbr1 hbr1a hc hb1a hlta hx1a
 go_enter Tryz.func58,Tryz.ntmps58
 go_wp2_with (first | (go_at_call 87; refine hck.mono ?_; rintro e w' ⟨rfl,rfl⟩) | (refine zip _ rfl _ _ _ rfl 5 _ (by kernel_rfl) hpi hpz hps hpb _ _ D rfl Hbr1a.out (zc0 [c]) _ 1 1 rfl Hsz.out.symm 5 (0,0) Hblk.out (by rw [Hsz.out]; exact hn) ?_))
 rintro v' w2 D' hr2 hx2
 have hb2:w2.heap[b]?=some (.cells #[.pointer (some ⟨b,0,none⟩),v] 123 (0,0)):=(hx2.1.keep b Hlta.out hne).trans Hb1a.out
 have f1:=zkX hb2 1
 have d1:w2.cell? ⟨b,1,none⟩=some v:=ze4 hb2 rfl
 have hne':¬ D' b:=hx2.not Hlta.out hne
 obtain ⟨ao,n',cap',rfl⟩:∃ ao n' cap',v'=.slice ao n' cap':=by
  rcases hr2.shape with ⟨rfl,_⟩ | ⟨g,cap,cur,rfl,_⟩ <;> exact ⟨_,_,_,rfl⟩
 have Hr2:=Lib.hid hr2; have Hx2:=Lib.hid hx2; have Hb2:=Lib.hid hb2
 clear hr2 hx2 hb2
 go_wp2
 go_ret
 have hx3:Ext (fun k=>k=b∨D' k) (fun k=>k=b∨D' k) w2 (w2.setCell ⟨b,1,none⟩ (.slice ao n' cap')):=Ext.setCell (C':=fun k=>k=b∨D' k) (Ext.refl _ _) (p:=⟨b,1,none⟩) (.inl rfl) _
 have hx3':Ext (fun k=>k=b) (fun k=>k=b) w2 (w2.setCell ⟨b,1,none⟩ (.slice ao n' cap')):=Ext.setCell (C':=fun k=>k=b) (Ext.refl _ _) (p:=⟨b,1,none⟩) rfl _
 refine ⟨⟨_,rfl⟩,fun k=>k=b∨D' k,⟨_,_,D',?_,.inr rfl,Hr2.out.ext hx3' (by rintro k hk rfl; exact hne' hk),hne',rfl⟩,?_⟩
 ·simp [World.setCell,Array.getElem?_modify,Hb2.out]
 ·refine (Hx1a.out.trans ?_).trans hx3
  exact ⟨Hx2.out.1.weaken (fun k _ h=>.inr h),fun k hk=>by
   rcases hk with rfl | hk
   ·exact .inl (.inl rfl)
   ·exact (Hx2.out.2 k hk).imp .inr id⟩
theorem zo7 (b:Nat) (bs:ByteArray) (c:Int) (h:bs.size+1≤140737488355328∧U8 c):Fn Tryz.prog 58 [.pointer (some ⟨b,0,none⟩),.int .u8 c] [zqA b bs] (fun u:Value=>u) (fun _=>[zqA b (bs++zc0 [c])]):=by
 intro w C hA
 refine (zmv b bs c h.2 C w (sepL.one1.1 hA) h.1).mono ?_
 rintro e w' ⟨⟨u,rfl⟩,C',h1,h2⟩
 exact ⟨u,rfl,C',sepL.one1.2 h1,h2⟩
def zdm (s:ByteArray):ByteArray:=⟨(Lib.trimRightB s.data.toList 32).toArray⟩
theorem zua (s:ByteArray) (h:s.size≤9223372036854775807):FnP Tryz.prog 59 [.string s,.string ⟨#[32]⟩] (.string (zdm s)):=zos fun w=>Tryz.strings_TrimRight_one s 32 (by decide) w h
def zqm (n:Int):ByteArray:=⟨(Lib.decDigits n.toNat).toArray⟩
theorem zue (n:Int) (h:0≤n∧n<100):FnP Tryz.prog 137 [.int .i64 n] (.string (zqm n)):=zos fun w=>by
 obtain ⟨k,rfl⟩:∃ k:Nat,n=k:=⟨n.toNat,by omega⟩
 exact Tryz.internal_strconv_small k (by omega) w
end Go.Proofs.YtbempdelckaccaaGreatDoor

namespace Go.Proofs.YtbempdelckaccaaGreatDoor
open Go.RowKit Go.Lib Go.ChangeShapes Go.WideShapes
set_option linter.unusedVariables false
set_option linter.unusedSimpArgs false
theorem FnR.p {P:Program} {f:FuncId} {vs:List Value} {RD:List Asn} {v:Value} (h:FnR P f vs RD [] (fun _:Unit=>v) (fun _=>[])) (w:World) (hr:Rd w (fun _=>False) RD):Calls P f vs.toArray w fun e w'=>e=.returned v∧Below w.heap.size w w' :=
 (h w (fun _=>False) hr (fun _ h=>h)).mono fun e w' ⟨_,h1,C',h2,h3⟩=>⟨h1,h3.toBelow (Nat.le_refl _) (fun _ _ h=>h)⟩
section
variable {H:Type} {enc:TypeId×Value→H} {P:Program} {w:World} {base:Nat} {held:Bool} {zbT:Nat} {t e:TypeId} {cs:List Value} {x:DataW H×List MemPlace}
theorem zsM {q:IntKind} {fs:Array Field} (ht:P.underlying t=some (.struct fs)) (hfs:fs.toList.map (fun f=>(f.type,f.offset))=[(e,0),(e,1),(e,2),(e,3)]) (hsz:P.cellsOf t=4) (h1:P.cellsOf e=1) (he:P.underlying e=some (.int q)) {sp:Nat→Bool} (h:DataW.trod enc P w base sp held zbT t cs=some x) :
  ∃ a b c d:Int,cs=[.int q a,.int q b,.int q c,.int q d]∧(Lit.int q a).wf=true∧(Lit.int q b).wf=true∧(Lit.int q c).wf=true∧(Lit.int q d).wf=true:=by
 obtain ⟨xs,n,rfl,rfl,hl,hx,hf⟩:=DataW.trod_struct ht h
 rw [hsz] at hl
 have key:∀ i,i<4→∃ z,DataW.trod enc P w base sp held n e ((cs.drop i).take 1)=some z:=by
  intro i hi
  have hg:(fs.toList.map (fun f=>(f.type,f.offset)))[i]?=some (e,i):=by
   rw [hfs]
   have:i=0∨i=1∨i=2∨i=3:=by omega
   rcases this with rfl | rfl | rfl | rfl <;> rfl
  rw [List.getElem?_map] at hg
  cases hq:fs.toList[i]? with
  | none=>rw [hq] at hg; cases hg
  | some f =>
   rw [hq] at hg
   have hfe:(f.type,f.offset)=(e,i):=Option.some.inj hg
   have h2:=hf i f (by rw [← Array.getElem?_toList]; exact hq)
   rw [(Prod.mk.inj hfe).1,(Prod.mk.inj hfe).2,h1] at h2
   have hsz4:fs.size=4:=by have:=congrArg List.length hfs; simpa using this
   rw [List.getElem?_eq_getElem (by omega)] at h2
   exact ⟨_,h2⟩
 match cs,hl with
 | [c0,c1,c2,c3],_ =>
  obtain ⟨z0,k0⟩:=key 0 (by decide)
  obtain ⟨z1,k1⟩:=key 1 (by decide)
  obtain ⟨z2,k2⟩:=key 2 (by decide)
  obtain ⟨z3,k3⟩:=key 3 (by decide)
  obtain ⟨a,ea,_,wa⟩:=DataW.trod_int he k0
  obtain ⟨b,eb,_,wb⟩:=DataW.trod_int he k1
  obtain ⟨c,ec,_,wc⟩:=DataW.trod_int he k2
  obtain ⟨d,ed,_,wd⟩:=DataW.trod_int he k3
  simp at ea eb ec ed
  exact ⟨a,b,c,d,by rw [ea,eb,ec,ed],wa,wb,wc,wd⟩
theorem see_layout {q:IntKind} {fs:Array Field} {v:Value} {d:DataW H} {ps:List MemPlace} {r:Reach} {b0:Nat} {sp:Nat→Bool} (ht:P.underlying t=some (.struct fs)) (hfs:fs.toList.map (fun f=>(f.type,f.offset))=[(e,0),(e,1),(e,2),(e,3)]) (hsz:P.cellsOf t=4) (h1:P.cellsOf e=1) (he:P.underlying e=some (.int q)) (hval:Value.okWide P w r b0 t v) (h:DataW.Trod enc P w base sp held t v d ps) :
  ∃ a b c g:Int,v=.agg #[.int q a,.int q b,.int q c,.int q g]:=by
 obtain ⟨cs,rfl,hcs⟩:=okWide_struct ht hval
 obtain ⟨zbT,h⟩:=h
 have h:DataW.trod enc P w base sp held zbT t cs.toList=some (d,ps):=h
 obtain ⟨a,b,c,g,h2,_⟩:=zsM ht hfs hsz h1 he h
 exact ⟨a,b,c,g,by rw [← h2]⟩
end
end Go.Proofs.YtbempdelckaccaaGreatDoor
