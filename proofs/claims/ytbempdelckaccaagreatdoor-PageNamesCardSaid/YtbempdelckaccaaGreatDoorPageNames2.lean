/-
  Texts laid together: Tab, Lt, PcW, Cls, ClsW, ClsW2, SeqW, RefPcs, Runs, C0, Vow, RefW, RefW3, Ro, Op, Ir, Rq, Lr, Shf, Sf, Tok, PlA, Ql, Bytes, Bld, Gr, Bn, Ar, Cr, Sh. Nothing is assumed.
-/
import Derived.Test.YtbempdelckaccaaGreatDoorPageNames1
import Derived.Test.YtbempdelckaccaaGreatDoorProg
import Derived.Shelf.Abstract
import Derived.Shelf.Strings.Builder1
import Derived.Shelf.Strings.Builder2
import Derived.Shelf.Strings.Trim
import Derived.Shelf.Small.Utf8
import Derived.Shelf.Small.Strs
import Derived.Shelf.Strings.BuilderF
import Derived.Shelf.Strconv.Itoa0
import Derived.Shelf.Strconv.Itoa1
import Derived.Shelf.LaysM
import Derived.Shelf.Strings.Search1
import Derived.Shelf.Strings.Prefix
import Derived.Shelf.Strings.Runes
import Derived.Shelf.Strings.IndexAny
import Derived.Shelf.Strings.AsciiSet
import Derived.Shelf.Strings.IndexAnyAll
import Derived.Shelf.Bits.Mul64
import Derived.Shelf.Strings.Repeat
import Derived.Shelf.Unicode.DecodeSlow
import Derived.Shelf.Strings.SlTrimAscii
import Derived.Lib.AppendStr
import Derived.Laws.IdiomStrings
import Derived.Lib.BufferRead
import Derived.Lib.Builder
import Derived.Outline
import Derived.Lib.UnsafeStr
import Derived.Lib.MakeNoZero
import Derived.OpenShut
import Derived.SliceStrings
import Derived.ProofKit
set_option maxRecDepth 100000
set_option maxHeartbeats 4000000

namespace Go.Proofs.YtbempdelckaccaaGreatDoor
open Go.RowKit Go.Lib Go.Shelf
theorem zbC:zbE Tryz.prog 3:=⟨_,Tryz.underlying3,rfl⟩
theorem zeX:SizeOk Tryz.prog 3 1:=by unfold SizeOk; as_aux_lemma=>kernel_rfl
theorem zox:ZeroOk Tryz.prog 3 [.int .i64 0]:=by unfold ZeroOk; as_aux_lemma=>kernel_rfl
theorem zm4:ElemOk Tryz.prog 3 1:=ElemOk.mk' (by as_aux_lemma=>kernel_rfl)
theorem zf2:zbE Tryz.prog 4:=⟨_,Tryz.underlying4,rfl⟩
theorem zgj:SizeOk Tryz.prog 4 1:=by unfold SizeOk; as_aux_lemma=>kernel_rfl
theorem zpq:ZeroOk Tryz.prog 4 [.bool false]:=by unfold ZeroOk; as_aux_lemma=>kernel_rfl
theorem ziz:zbE Tryz.prog 9:=⟨_,Tryz.underlying9,rfl⟩
theorem zlZ:SizeOk Tryz.prog 9 1:=by unfold SizeOk; as_aux_lemma=>kernel_rfl
theorem zpt:ElemOk Tryz.prog 9 1:=ElemOk.mk' (by as_aux_lemma=>kernel_rfl)
theorem zlh:zbE Tryz.prog 21:=⟨_,Tryz.underlying21,rfl⟩
theorem zjf:zgh Tryz.prog 23 4:=⟨_,Tryz.underlying23,rfl,by as_aux_lemma=>kernel_rfl⟩
theorem zjn:za8 Tryz.prog 23 0 0:=⟨_,_,Tryz.underlying23,rfl,rfl,by as_aux_lemma=>kernel_rfl⟩
theorem zkj:za8 Tryz.prog 23 1 1:=⟨_,_,Tryz.underlying23,rfl,rfl,by as_aux_lemma=>kernel_rfl⟩
theorem zij:za8 Tryz.prog 23 2 2:=⟨_,_,Tryz.underlying23,rfl,rfl,by as_aux_lemma=>kernel_rfl⟩
theorem zjm:za8 Tryz.prog 23 3 3:=⟨_,_,Tryz.underlying23,rfl,rfl,by as_aux_lemma=>kernel_rfl⟩
theorem zoE:SizeOk Tryz.prog 23 4:=by unfold SizeOk; as_aux_lemma=>kernel_rfl
theorem zoy:ZeroOk Tryz.prog 23 [.int .i64 0,.int .i64 0,.int .i64 0,.int .i64 0]:=by unfold ZeroOk; as_aux_lemma=>kernel_rfl
theorem zlg:zbE Tryz.prog 25:=⟨_,Tryz.underlying25,rfl⟩
theorem zje:zbE Tryz.prog 26:=⟨_,Tryz.underlying26,rfl⟩
theorem zoD:SizeOk Tryz.prog 26 1:=by unfold SizeOk; as_aux_lemma=>kernel_rfl
theorem ziB:zgh Tryz.prog 33 6:=⟨_,Tryz.underlying33,rfl,by as_aux_lemma=>kernel_rfl⟩
theorem zeE:za8 Tryz.prog 33 0 0:=⟨_,_,Tryz.underlying33,rfl,rfl,by as_aux_lemma=>kernel_rfl⟩
theorem zdm:za8 Tryz.prog 33 1 1:=⟨_,_,Tryz.underlying33,rfl,rfl,by as_aux_lemma=>kernel_rfl⟩
theorem zg8:za8 Tryz.prog 33 2 2:=⟨_,_,Tryz.underlying33,rfl,rfl,by as_aux_lemma=>kernel_rfl⟩
theorem zjl:za8 Tryz.prog 33 3 3:=⟨_,_,Tryz.underlying33,rfl,rfl,by as_aux_lemma=>kernel_rfl⟩
theorem zmV:za8 Tryz.prog 33 4 4:=⟨_,_,Tryz.underlying33,rfl,rfl,by as_aux_lemma=>kernel_rfl⟩
theorem zki:za8 Tryz.prog 33 5 5:=⟨_,_,Tryz.underlying33,rfl,rfl,by as_aux_lemma=>kernel_rfl⟩
theorem zf1:SizeOk Tryz.prog 33 6:=by unfold SizeOk; as_aux_lemma=>kernel_rfl
theorem zjy:ZeroOk Tryz.prog 33 [.int .i64 0,.int .i64 0,.int .i64 0,.int .i64 0,.int .i64 0,.string ByteArray.empty]:=by unfold ZeroOk; as_aux_lemma=>kernel_rfl
theorem zm3:ElemOk Tryz.prog 33 6:=ElemOk.mk' (by as_aux_lemma=>kernel_rfl)
theorem zkR:zgh Tryz.prog 38 2:=⟨_,Tryz.underlying38,rfl,by as_aux_lemma=>kernel_rfl⟩
theorem zeT:za8 Tryz.prog 38 0 0:=⟨_,_,Tryz.underlying38,rfl,rfl,by as_aux_lemma=>kernel_rfl⟩
theorem zeD:za8 Tryz.prog 38 1 1:=⟨_,_,Tryz.underlying38,rfl,rfl,by as_aux_lemma=>kernel_rfl⟩
theorem zkO:SizeOk Tryz.prog 38 2:=by unfold SizeOk; as_aux_lemma=>kernel_rfl
theorem zmL:ZeroOk Tryz.prog 38 [.int .i64 0,.int .i64 0]:=by unfold ZeroOk; as_aux_lemma=>kernel_rfl
theorem zpg:ElemOk Tryz.prog 38 2:=ElemOk.mk' (by as_aux_lemma=>kernel_rfl)
theorem ziA:zgh Tryz.prog 40 3:=⟨_,Tryz.underlying40,rfl,by as_aux_lemma=>kernel_rfl⟩
theorem zg7:za8 Tryz.prog 40 0 0:=⟨_,_,Tryz.underlying40,rfl,rfl,by as_aux_lemma=>kernel_rfl⟩
theorem zii:za8 Tryz.prog 40 1 2:=⟨_,_,Tryz.underlying40,rfl,rfl,by as_aux_lemma=>kernel_rfl⟩
theorem zla:SizeOk Tryz.prog 40 3:=by unfold SizeOk; as_aux_lemma=>kernel_rfl
theorem znp:ZeroOk Tryz.prog 40 [.int .i64 0,.int .i64 0,.int .i64 0]:=by unfold ZeroOk; as_aux_lemma=>kernel_rfl
theorem zpf:ElemOk Tryz.prog 40 3:=ElemOk.mk' (by as_aux_lemma=>kernel_rfl)
theorem zjF:zbE Tryz.prog 43:=⟨_,Tryz.underlying43,rfl⟩
theorem znw:SizeOk Tryz.prog 43 1:=by unfold SizeOk; as_aux_lemma=>kernel_rfl
theorem zpe:ElemOk Tryz.prog 43 1:=ElemOk.mk' (by as_aux_lemma=>kernel_rfl)
theorem zfq:zbE Tryz.prog 49:=⟨_,Tryz.underlying49,rfl⟩
theorem zk9:SizeOk Tryz.prog 49 1:=by unfold SizeOk; as_aux_lemma=>kernel_rfl
theorem zoF:zbE Tryz.prog 52:=⟨_,Tryz.underlying52,rfl⟩
theorem znB:zbE Tryz.prog 58:=⟨_,Tryz.underlying58,rfl⟩
theorem zlj:zgh Tryz.prog 60 2:=⟨_,Tryz.underlying60,rfl,by as_aux_lemma=>kernel_rfl⟩
theorem zmU:za8 Tryz.prog 60 0 0:=⟨_,_,Tryz.underlying60,rfl,rfl,by as_aux_lemma=>kernel_rfl⟩
theorem zj8:SizeOk Tryz.prog 60 2:=by unfold SizeOk; as_aux_lemma=>kernel_rfl
theorem zmK:ZeroOk Tryz.prog 60 [.int .i64 0,.int .i64 0]:=by unfold ZeroOk; as_aux_lemma=>kernel_rfl
theorem zj9:zbE Tryz.prog 70:=⟨_,Tryz.underlying70,rfl⟩
theorem zkN:SizeOk Tryz.prog 70 1:=by unfold SizeOk; as_aux_lemma=>kernel_rfl
theorem zpd:ElemOk Tryz.prog 70 1:=ElemOk.mk' (by as_aux_lemma=>kernel_rfl)
theorem zl4:zgh Tryz.prog 76 6:=⟨_,Tryz.underlying76,rfl,by as_aux_lemma=>kernel_rfl⟩
theorem zkh:za8 Tryz.prog 76 0 0:=⟨_,_,Tryz.underlying76,rfl,rfl,by as_aux_lemma=>kernel_rfl⟩
theorem zjk:za8 Tryz.prog 76 1 1:=⟨_,_,Tryz.underlying76,rfl,rfl,by as_aux_lemma=>kernel_rfl⟩
theorem zg6:za8 Tryz.prog 76 2 2:=⟨_,_,Tryz.underlying76,rfl,rfl,by as_aux_lemma=>kernel_rfl⟩
theorem zj7:SizeOk Tryz.prog 76 6:=by unfold SizeOk; as_aux_lemma=>kernel_rfl
theorem zlV:ZeroOk Tryz.prog 76 [.string ByteArray.empty,.int .i64 0,.int .i64 0,.int .i64 0,.int .i64 0,.int .i64 0]:=by unfold ZeroOk; as_aux_lemma=>kernel_rfl
theorem zpc:ElemOk Tryz.prog 76 6:=ElemOk.mk' (by as_aux_lemma=>kernel_rfl)
theorem zmM:zbE Tryz.prog 79:=⟨_,Tryz.underlying79,rfl⟩
theorem zoC:SizeOk Tryz.prog 79 1:=by unfold SizeOk; as_aux_lemma=>kernel_rfl
theorem zjj:za8 Tryz.prog 81 1 4:=⟨_,_,Tryz.underlying81,rfl,rfl,by as_aux_lemma=>kernel_rfl⟩
theorem zkg:za8 Tryz.prog 81 2 5:=⟨_,_,Tryz.underlying81,rfl,rfl,by as_aux_lemma=>kernel_rfl⟩
theorem zjd:zbE Tryz.prog 82:=⟨_,Tryz.underlying82,rfl⟩
theorem zjE:zbE Tryz.prog 83:=⟨_,Tryz.underlying83,rfl⟩
theorem zoB:SizeOk Tryz.prog 83 1:=by unfold SizeOk; as_aux_lemma=>kernel_rfl
theorem zow:ZeroOk Tryz.prog 83 [.int .i64 0]:=by unfold ZeroOk; as_aux_lemma=>kernel_rfl
theorem zfr:zgh Tryz.prog 85 4:=⟨_,Tryz.underlying85,rfl,by as_aux_lemma=>kernel_rfl⟩
theorem zih:za8 Tryz.prog 85 0 0:=⟨_,_,Tryz.underlying85,rfl,rfl,by as_aux_lemma=>kernel_rfl⟩
theorem zji:za8 Tryz.prog 85 1 1:=⟨_,_,Tryz.underlying85,rfl,rfl,by as_aux_lemma=>kernel_rfl⟩
theorem zig:za8 Tryz.prog 85 2 2:=⟨_,_,Tryz.underlying85,rfl,rfl,by as_aux_lemma=>kernel_rfl⟩
theorem zmT:za8 Tryz.prog 85 3 3:=⟨_,_,Tryz.underlying85,rfl,rfl,by as_aux_lemma=>kernel_rfl⟩
theorem zjb:SizeOk Tryz.prog 85 4:=by unfold SizeOk; as_aux_lemma=>kernel_rfl
theorem zmJ:ZeroOk Tryz.prog 85 [.int .i64 0,.int .i64 0,.int .i32 0,.bool false]:=by unfold ZeroOk; as_aux_lemma=>kernel_rfl
theorem zkQ:zbE Tryz.prog 94:=⟨_,Tryz.underlying94,rfl⟩
theorem zoA:SizeOk Tryz.prog 94 1:=by unfold SizeOk; as_aux_lemma=>kernel_rfl
theorem zku:zbE Tryz.prog 102:=⟨_,Tryz.underlying102,rfl⟩
theorem znz:SizeOk Tryz.prog 102 1:=by unfold SizeOk; as_aux_lemma=>kernel_rfl
theorem zgE:za8 Tryz.prog 104 0 0:=⟨_,_,Tryz.underlying104,rfl,rfl,by as_aux_lemma=>kernel_rfl⟩
theorem zd4:za8 Tryz.prog 104 1 1:=⟨_,_,Tryz.underlying104,rfl,rfl,by as_aux_lemma=>kernel_rfl⟩
theorem zgD:za8 Tryz.prog 104 2 2:=⟨_,_,Tryz.underlying104,rfl,rfl,by as_aux_lemma=>kernel_rfl⟩
theorem zcb:za8 Tryz.prog 106 0 0:=⟨_,_,Tryz.underlying106,rfl,rfl,by as_aux_lemma=>kernel_rfl⟩
theorem zk5:ZeroOk Tryz.prog 123 [.pointer none,.slice none 0 0]:=by unfold ZeroOk; as_aux_lemma=>kernel_rfl
theorem zfX:zbE Tryz.prog 129:=⟨_,Tryz.underlying129,rfl⟩
theorem zeI:za8 Tryz.prog 131 0 0:=⟨_,_,Tryz.underlying131,rfl,rfl,by as_aux_lemma=>kernel_rfl⟩
theorem zhW:za8 Tryz.prog 131 1 1:=⟨_,_,Tryz.underlying131,rfl,rfl,by as_aux_lemma=>kernel_rfl⟩
theorem zgC:za8 Tryz.prog 131 2 2:=⟨_,_,Tryz.underlying131,rfl,rfl,by as_aux_lemma=>kernel_rfl⟩
theorem zhV:za8 Tryz.prog 131 3 3:=⟨_,_,Tryz.underlying131,rfl,rfl,by as_aux_lemma=>kernel_rfl⟩
theorem zkD:za8 Tryz.prog 131 4 4:=⟨_,_,Tryz.underlying131,rfl,rfl,by as_aux_lemma=>kernel_rfl⟩
theorem zli:zbE Tryz.prog 150:=⟨_,Tryz.underlying150,rfl⟩
theorem zms:SizeOk Tryz.prog 150 1:=by unfold SizeOk; as_aux_lemma=>kernel_rfl
theorem zhr:zbE Tryz.prog 151:=⟨_,Tryz.underlying151,rfl⟩
theorem zmr:SizeOk Tryz.prog 151 1:=by unfold SizeOk; as_aux_lemma=>kernel_rfl
theorem zgB:za8 Tryz.prog 153 1 1:=⟨_,_,Tryz.underlying153,rfl,rfl,by as_aux_lemma=>kernel_rfl⟩
theorem zd3:za8 Tryz.prog 153 2 2:=⟨_,_,Tryz.underlying153,rfl,rfl,by as_aux_lemma=>kernel_rfl⟩
theorem zmu:zgh Tryz.prog 155 5:=⟨_,Tryz.underlying155,rfl,by as_aux_lemma=>kernel_rfl⟩
theorem zkC:za8 Tryz.prog 155 0 0:=⟨_,_,Tryz.underlying155,rfl,rfl,by as_aux_lemma=>kernel_rfl⟩
theorem zkB:za8 Tryz.prog 155 1 1:=⟨_,_,Tryz.underlying155,rfl,rfl,by as_aux_lemma=>kernel_rfl⟩
theorem zhU:za8 Tryz.prog 155 2 2:=⟨_,_,Tryz.underlying155,rfl,rfl,by as_aux_lemma=>kernel_rfl⟩
theorem zkA:za8 Tryz.prog 155 3 3:=⟨_,_,Tryz.underlying155,rfl,rfl,by as_aux_lemma=>kernel_rfl⟩
theorem zjp:za8 Tryz.prog 155 4 4:=⟨_,_,Tryz.underlying155,rfl,rfl,by as_aux_lemma=>kernel_rfl⟩
theorem zny:SizeOk Tryz.prog 155 5:=by unfold SizeOk; as_aux_lemma=>kernel_rfl
theorem zns:ZeroOk Tryz.prog 155 [.int .i64 0,.int .i64 0,.int .i64 0,.int .i64 0,.int .i64 0]:=by unfold ZeroOk; as_aux_lemma=>kernel_rfl
theorem zmA:ElemOk Tryz.prog 155 5:=ElemOk.mk' (by as_aux_lemma=>kernel_rfl)
theorem zmt:zgh Tryz.prog 157 4:=⟨_,Tryz.underlying157,rfl,by as_aux_lemma=>kernel_rfl⟩
theorem zhT:za8 Tryz.prog 157 0 0:=⟨_,_,Tryz.underlying157,rfl,rfl,by as_aux_lemma=>kernel_rfl⟩
theorem zjo:za8 Tryz.prog 157 1 2:=⟨_,_,Tryz.underlying157,rfl,rfl,by as_aux_lemma=>kernel_rfl⟩
theorem ziO:SizeOk Tryz.prog 157 4:=by unfold SizeOk; as_aux_lemma=>kernel_rfl
theorem znr:ZeroOk Tryz.prog 157 [.int .i64 0,.int .i64 0,.int .i64 0,.int .i64 0]:=by unfold ZeroOk; as_aux_lemma=>kernel_rfl
theorem zmz:ElemOk Tryz.prog 157 4:=ElemOk.mk' (by as_aux_lemma=>kernel_rfl)
theorem zhs:zgh Tryz.prog 176 3:=⟨_,Tryz.underlying176,rfl,by as_aux_lemma=>kernel_rfl⟩
theorem zdp:za8 Tryz.prog 176 0 0:=⟨_,_,Tryz.underlying176,rfl,rfl,by as_aux_lemma=>kernel_rfl⟩
theorem zdK:za8 Tryz.prog 176 1 1:=⟨_,_,Tryz.underlying176,rfl,rfl,by as_aux_lemma=>kernel_rfl⟩
theorem zhS:za8 Tryz.prog 176 2 2:=⟨_,_,Tryz.underlying176,rfl,rfl,by as_aux_lemma=>kernel_rfl⟩
theorem zcc:SizeOk Tryz.prog 176 3:=by unfold SizeOk; as_aux_lemma=>kernel_rfl
theorem ziJ:ZeroOk Tryz.prog 176 [.int .i64 0,.int .i64 0,.int .i64 0]:=by unfold ZeroOk; as_aux_lemma=>kernel_rfl
theorem zmy:ElemOk Tryz.prog 176 3:=ElemOk.mk' (by as_aux_lemma=>kernel_rfl)
theorem zfy:zbE Tryz.prog 179:=⟨_,Tryz.underlying179,rfl⟩
theorem znx:SizeOk Tryz.prog 179 1:=by unfold SizeOk; as_aux_lemma=>kernel_rfl
theorem znq:ZeroOk Tryz.prog 179 [.pointer none]:=by unfold ZeroOk; as_aux_lemma=>kernel_rfl
theorem zkz:za8 Tryz.prog 203 0 0:=⟨_,_,Tryz.underlying203,rfl,rfl,by as_aux_lemma=>kernel_rfl⟩
theorem zfe:za8 Tryz.prog 203 1 1:=⟨_,_,Tryz.underlying203,rfl,rfl,by as_aux_lemma=>kernel_rfl⟩
theorem zgA:za8 Tryz.prog 203 2 2:=⟨_,_,Tryz.underlying203,rfl,rfl,by as_aux_lemma=>kernel_rfl⟩
theorem zgz:za8 Tryz.prog 203 3 3:=⟨_,_,Tryz.underlying203,rfl,rfl,by as_aux_lemma=>kernel_rfl⟩
theorem zmf:za8 Tryz.prog 203 4 4:=⟨_,_,Tryz.underlying203,rfl,rfl,by as_aux_lemma=>kernel_rfl⟩
theorem zme:za8 Tryz.prog 203 5 5:=⟨_,_,Tryz.underlying203,rfl,rfl,by as_aux_lemma=>kernel_rfl⟩
theorem zps:∀ args w,(callFunc 8 args).run Tryz.prog w=.ok (.enter 8 args) w:=enters_of Tryz.func8 (by as_aux_lemma=>kernel_rfl) rfl
theorem zm2:∀ args w,(callFunc 10 args).run Tryz.prog w=.ok (.enter 10 args) w:=enters_of Tryz.func10 (by as_aux_lemma=>kernel_rfl) rfl
theorem zpb:∀ args w,(callFunc 11 args).run Tryz.prog w=.ok (.enter 11 args) w:=enters_of Tryz.func11 (by as_aux_lemma=>kernel_rfl) rfl
theorem znX:∀ args w,(callFunc 16 args).run Tryz.prog w=.ok (.enter 16 args) w:=enters_of Tryz.func16 (by as_aux_lemma=>kernel_rfl) rfl
theorem znW:∀ args w,(callFunc 18 args).run Tryz.prog w=.ok (.enter 18 args) w:=enters_of Tryz.func18 (by as_aux_lemma=>kernel_rfl) rfl
theorem zpa:∀ args w,(callFunc 19 args).run Tryz.prog w=.ok (.enter 19 args) w:=enters_of Tryz.func19 (by as_aux_lemma=>kernel_rfl) rfl
theorem zo9:∀ args w,(callFunc 21 args).run Tryz.prog w=.ok (.enter 21 args) w:=enters_of Tryz.func21 (by as_aux_lemma=>kernel_rfl) rfl
theorem znV:∀ args w,(callFunc 22 args).run Tryz.prog w=.ok (.enter 22 args) w:=enters_of Tryz.func22 (by as_aux_lemma=>kernel_rfl) rfl
theorem zo8:∀ args w,(callFunc 23 args).run Tryz.prog w=.ok (.enter 23 args) w:=enters_of Tryz.func23 (by as_aux_lemma=>kernel_rfl) rfl
theorem zo7:∀ args w,(callFunc 26 args).run Tryz.prog w=.ok (.enter 26 args) w:=enters_of Tryz.func26 (by as_aux_lemma=>kernel_rfl) rfl
theorem znU:∀ args w,(callFunc 27 args).run Tryz.prog w=.ok (.enter 27 args) w:=enters_of Tryz.func27 (by as_aux_lemma=>kernel_rfl) rfl
theorem zm1:∀ args w,(callFunc 28 args).run Tryz.prog w=.ok (.enter 28 args) w:=enters_of Tryz.func28 (by as_aux_lemma=>kernel_rfl) rfl
theorem znT:∀ args w,(callFunc 29 args).run Tryz.prog w=.ok (.enter 29 args) w:=enters_of Tryz.func29 (by as_aux_lemma=>kernel_rfl) rfl
theorem zm0:∀ args w,(callFunc 32 args).run Tryz.prog w=.ok (.enter 32 args) w:=enters_of Tryz.func32 (by as_aux_lemma=>kernel_rfl) rfl
theorem zo6:∀ args w,(callFunc 33 args).run Tryz.prog w=.ok (.enter 33 args) w:=enters_of Tryz.func33 (by as_aux_lemma=>kernel_rfl) rfl
theorem zo5:∀ args w,(callFunc 34 args).run Tryz.prog w=.ok (.enter 34 args) w:=enters_of Tryz.func34 (by as_aux_lemma=>kernel_rfl) rfl
theorem zmZ:∀ args w,(callFunc 35 args).run Tryz.prog w=.ok (.enter 35 args) w:=enters_of Tryz.func35 (by as_aux_lemma=>kernel_rfl) rfl
theorem znS:∀ args w,(callFunc 36 args).run Tryz.prog w=.ok (.enter 36 args) w:=enters_of Tryz.func36 (by as_aux_lemma=>kernel_rfl) rfl
theorem zmY:∀ args w,(callFunc 37 args).run Tryz.prog w=.ok (.enter 37 args) w:=enters_of Tryz.func37 (by as_aux_lemma=>kernel_rfl) rfl
theorem zo4:∀ args w,(callFunc 45 args).run Tryz.prog w=.ok (.enter 45 args) w:=enters_of Tryz.func45 (by as_aux_lemma=>kernel_rfl) rfl
theorem zo3:∀ args w,(callFunc 46 args).run Tryz.prog w=.ok (.enter 46 args) w:=enters_of Tryz.func46 (by as_aux_lemma=>kernel_rfl) rfl
theorem zo2:∀ args w,(callFunc 47 args).run Tryz.prog w=.ok (.enter 47 args) w:=enters_of Tryz.func47 (by as_aux_lemma=>kernel_rfl) rfl
theorem znR:∀ args w,(callFunc 48 args).run Tryz.prog w=.ok (.enter 48 args) w:=enters_of Tryz.func48 (by as_aux_lemma=>kernel_rfl) rfl
theorem znQ:∀ args w,(callFunc 49 args).run Tryz.prog w=.ok (.enter 49 args) w:=enters_of Tryz.func49 (by as_aux_lemma=>kernel_rfl) rfl
theorem zo1:∀ args w,(callFunc 50 args).run Tryz.prog w=.ok (.enter 50 args) w:=enters_of Tryz.func50 (by as_aux_lemma=>kernel_rfl) rfl
theorem zo0:∀ args w,(callFunc 51 args).run Tryz.prog w=.ok (.enter 51 args) w:=enters_of Tryz.func51 (by as_aux_lemma=>kernel_rfl) rfl
theorem zoZ:∀ args w,(callFunc 52 args).run Tryz.prog w=.ok (.enter 52 args) w:=enters_of Tryz.func52 (by as_aux_lemma=>kernel_rfl) rfl
theorem znP:∀ args w,(callFunc 53 args).run Tryz.prog w=.ok (.enter 53 args) w:=enters_of Tryz.func53 (by as_aux_lemma=>kernel_rfl) rfl
theorem zoY:∀ args w,(callFunc 54 args).run Tryz.prog w=.ok (.enter 54 args) w:=enters_of Tryz.func54 (by as_aux_lemma=>kernel_rfl) rfl
theorem zoX:∀ args w,(callFunc 55 args).run Tryz.prog w=.ok (.enter 55 args) w:=enters_of Tryz.func55 (by as_aux_lemma=>kernel_rfl) rfl
theorem zoW:∀ args w,(callFunc 56 args).run Tryz.prog w=.ok (.enter 56 args) w:=enters_of Tryz.func56 (by as_aux_lemma=>kernel_rfl) rfl
theorem zmi:∀ args w,(callFunc 60 args).run Tryz.prog w=.ok (.enter 60 args) w:=enters_of Tryz.func60 (by as_aux_lemma=>kernel_rfl) rfl
theorem zmX:∀ args w,(callFunc 63 args).run Tryz.prog w=.ok (.enter 63 args) w:=enters_of Tryz.func63 (by as_aux_lemma=>kernel_rfl) rfl
theorem znO:∀ args w,(callFunc 64 args).run Tryz.prog w=.ok (.enter 64 args) w:=enters_of Tryz.func64 (by as_aux_lemma=>kernel_rfl) rfl
theorem zoV:∀ args w,(callFunc 65 args).run Tryz.prog w=.ok (.enter 65 args) w:=enters_of Tryz.func65 (by as_aux_lemma=>kernel_rfl) rfl
theorem zoU:∀ args w,(callFunc 66 args).run Tryz.prog w=.ok (.enter 66 args) w:=enters_of Tryz.func66 (by as_aux_lemma=>kernel_rfl) rfl
theorem znN:∀ args w,(callFunc 67 args).run Tryz.prog w=.ok (.enter 67 args) w:=enters_of Tryz.func67 (by as_aux_lemma=>kernel_rfl) rfl
theorem zoT:∀ args w,(callFunc 69 args).run Tryz.prog w=.ok (.enter 69 args) w:=enters_of Tryz.func69 (by as_aux_lemma=>kernel_rfl) rfl
theorem zoS:∀ args w,(callFunc 70 args).run Tryz.prog w=.ok (.enter 70 args) w:=enters_of Tryz.func70 (by as_aux_lemma=>kernel_rfl) rfl
theorem zoR:∀ args w,(callFunc 72 args).run Tryz.prog w=.ok (.enter 72 args) w:=enters_of Tryz.func72 (by as_aux_lemma=>kernel_rfl) rfl
theorem zoQ:∀ args w,(callFunc 78 args).run Tryz.prog w=.ok (.enter 78 args) w:=enters_of Tryz.func78 (by as_aux_lemma=>kernel_rfl) rfl
theorem zoP:∀ args w,(callFunc 79 args).run Tryz.prog w=.ok (.enter 79 args) w:=enters_of Tryz.func79 (by as_aux_lemma=>kernel_rfl) rfl
theorem znM:∀ args w,(callFunc 80 args).run Tryz.prog w=.ok (.enter 80 args) w:=enters_of Tryz.func80 (by as_aux_lemma=>kernel_rfl) rfl
theorem zoO:∀ args w,(callFunc 83 args).run Tryz.prog w=.ok (.enter 83 args) w:=enters_of Tryz.func83 (by as_aux_lemma=>kernel_rfl) rfl
theorem znL:∀ args w,(callFunc 84 args).run Tryz.prog w=.ok (.enter 84 args) w:=enters_of Tryz.func84 (by as_aux_lemma=>kernel_rfl) rfl
theorem zoN:∀ args w,(callFunc 85 args).run Tryz.prog w=.ok (.enter 85 args) w:=enters_of Tryz.func85 (by as_aux_lemma=>kernel_rfl) rfl
theorem zoM:∀ args w,(callFunc 86 args).run Tryz.prog w=.ok (.enter 86 args) w:=enters_of Tryz.func86 (by as_aux_lemma=>kernel_rfl) rfl
theorem znK:∀ args w,(callFunc 93 args).run Tryz.prog w=.ok (.enter 93 args) w:=enters_of Tryz.func93 (by as_aux_lemma=>kernel_rfl) rfl
theorem zoL:∀ args w,(callFunc 94 args).run Tryz.prog w=.ok (.enter 94 args) w:=enters_of Tryz.func94 (by as_aux_lemma=>kernel_rfl) rfl
theorem zoK:∀ args w,(callFunc 95 args).run Tryz.prog w=.ok (.enter 95 args) w:=enters_of Tryz.func95 (by as_aux_lemma=>kernel_rfl) rfl
theorem zoJ:∀ args w,(callFunc 96 args).run Tryz.prog w=.ok (.enter 96 args) w:=enters_of Tryz.func96 (by as_aux_lemma=>kernel_rfl) rfl
theorem zoI:∀ args w,(callFunc 97 args).run Tryz.prog w=.ok (.enter 97 args) w:=enters_of Tryz.func97 (by as_aux_lemma=>kernel_rfl) rfl
theorem zn5:∀ args w,(callFunc 102 args).run Tryz.prog w=.ok (.enter 102 args) w:=enters_of Tryz.func102 (by as_aux_lemma=>kernel_rfl) rfl
theorem zn4:∀ args w,(callFunc 114 args).run Tryz.prog w=.ok (.enter 114 args) w:=enters_of Tryz.func114 (by as_aux_lemma=>kernel_rfl) rfl
theorem zn3:∀ args w,(callFunc 115 args).run Tryz.prog w=.ok (.enter 115 args) w:=enters_of Tryz.func115 (by as_aux_lemma=>kernel_rfl) rfl
theorem zlE:∀ args w,(callFunc 121 args).run Tryz.prog w=.ok (.enter 121 args) w:=enters_of Tryz.func121 (by as_aux_lemma=>kernel_rfl) rfl
theorem zn2:∀ args w,(callFunc 122 args).run Tryz.prog w=.ok (.enter 122 args) w:=enters_of Tryz.func122 (by as_aux_lemma=>kernel_rfl) rfl
theorem zlD:∀ args w,(callFunc 123 args).run Tryz.prog w=.ok (.enter 123 args) w:=enters_of Tryz.func123 (by as_aux_lemma=>kernel_rfl) rfl
theorem zlC:∀ args w,(callFunc 124 args).run Tryz.prog w=.ok (.enter 124 args) w:=enters_of Tryz.func124 (by as_aux_lemma=>kernel_rfl) rfl
theorem zn1:∀ args w,(callFunc 125 args).run Tryz.prog w=.ok (.enter 125 args) w:=enters_of Tryz.func125 (by as_aux_lemma=>kernel_rfl) rfl
theorem zn0:∀ args w,(callFunc 134 args).run Tryz.prog w=.ok (.enter 134 args) w:=enters_of Tryz.func134 (by as_aux_lemma=>kernel_rfl) rfl
theorem znZ:∀ args w,(callFunc 136 args).run Tryz.prog w=.ok (.enter 136 args) w:=enters_of Tryz.func136 (by as_aux_lemma=>kernel_rfl) rfl
theorem znY:∀ args w,(callFunc 143 args).run Tryz.prog w=.ok (.enter 143 args) w:=enters_of Tryz.func143 (by as_aux_lemma=>kernel_rfl) rfl
theorem zlB:∀ args w,(callFunc 144 args).run Tryz.prog w=.ok (.enter 144 args) w:=enters_of Tryz.func144 (by as_aux_lemma=>kernel_rfl) rfl
theorem zmx:∀ args w,(callFunc 145 args).run Tryz.prog w=.ok (.enter 145 args) w:=enters_of Tryz.func145 (by as_aux_lemma=>kernel_rfl) rfl
theorem mixed:Tryz.prog.follows .mixedOrders=true:=by as_aux_lemma=>kernel_rfl
end Go.Proofs.YtbempdelckaccaaGreatDoor

namespace Go.Proofs.YtbempdelckaccaaGreatDoor
open Go.RowKit Go.Lib
set_option linter.unusedSimpArgs false
@[ext] structure Gapi_Layout where
 Width:Int
 Height:Int
 Turn:Int
 Every:Int
def zfZ (a b:Gapi_Layout):Bool:=(a.Width==b.Width)&&(a.Height==b.Height)&&(a.Turn==b.Turn)&&(a.Every==b.Every)
theorem zgK (a b:Gapi_Layout):zfZ a b=true↔a=b:=by
 rcases a with ⟨a0,a1,a2,a3⟩
 rcases b with ⟨b0,b1,b2,b3⟩
 simp [zfZ,Bool.and_eq_true,and_assoc]
instance:DecidableEq Gapi_Layout:=fun a b=>decidable_of_iff _ (zgK a b)
@[ext] structure Gapi_Row where
 Line:Int
 Stanza:Int
 Part:Int
 Indent:Int
 Number:Int
 Text:ByteArray
def zbI (x:Gapi_Row):List Value:=[.int .i64 x.Line,.int .i64 x.Stanza,.int .i64 x.Part,.int .i64 x.Indent,.int .i64 x.Number,.string x.Text]
theorem zbA (x:Gapi_Row):(zbI x).length=6:=rfl
theorem zen (x:Gapi_Row):∀ u∈zbI x,u.oneCell'=true:=by
 intro u hu
 simp only [zbI,List.mem_cons,List.not_mem_nil,or_false] at hu
 rcases hu with rfl | rfl | rfl | rfl | rfl | rfl <;> rfl
def zil (a b:Gapi_Row):Bool:=(a.Line==b.Line)&&(a.Stanza==b.Stanza)&&(a.Part==b.Part)&&(a.Indent==b.Indent)&&(a.Number==b.Number)&&decide (a.Text=b.Text)
theorem zik (a b:Gapi_Row):zil a b=true↔a=b:=by
 rcases a with ⟨a0,a1,a2,a3,a4,a5⟩
 rcases b with ⟨b0,b1,b2,b3,b4,b5⟩
 simp [zil,Bool.and_eq_true,and_assoc]
instance:DecidableEq Gapi_Row:=fun a b=>decidable_of_iff _ (zik a b)
@[ext] structure Gapi_Span where
 From:Int
 To:Int
def zde (x:Gapi_Span):List Value:=[.int .i64 x.From,.int .i64 x.To]
theorem zd0 (x:Gapi_Span):(zde x).length=2:=rfl
theorem zhe (x:Gapi_Span):∀ u∈zde x,u.oneCell'=true:=by
 intro u hu
 simp only [zde,List.mem_cons,List.not_mem_nil,or_false] at hu
 rcases hu with rfl | rfl <;> rfl
def zhz (a b:Gapi_Span):Bool:=(a.From==b.From)&&(a.To==b.To)
theorem zhF (a b:Gapi_Span):zhz a b=true↔a=b:=by
 rcases a with ⟨a0,a1⟩
 rcases b with ⟨b0,b1⟩
 simp [zhz,Bool.and_eq_true,and_assoc]
instance:DecidableEq Gapi_Span:=fun a b=>decidable_of_iff _ (zhF a b)
@[ext] structure Gapi_Cell where
 Span_From:Int
 Span_To:Int
 Columns:Int
def zdL (x:Gapi_Cell):List Value:=[.int .i64 x.Span_From,.int .i64 x.Span_To,.int .i64 x.Columns]
theorem zdf (x:Gapi_Cell):(zdL x).length=3:=rfl
theorem zhf (x:Gapi_Cell):∀ u∈zdL x,u.oneCell'=true:=by
 intro u hu
 simp only [zdL,List.mem_cons,List.not_mem_nil,or_false] at hu
 rcases hu with rfl | rfl | rfl <;> rfl
def zhA (a b:Gapi_Cell):Bool:=(a.Span_From==b.Span_From)&&(a.Span_To==b.Span_To)&&(a.Columns==b.Columns)
theorem zhG (a b:Gapi_Cell):zhA a b=true↔a=b:=by
 rcases a with ⟨a0,a1,a2⟩
 rcases b with ⟨b0,b1,b2⟩
 simp [zhA,Bool.and_eq_true,and_assoc]
instance:DecidableEq Gapi_Cell:=fun a b=>decidable_of_iff _ (zhG a b)
@[ext] structure Gapi_Spot where
 Err:Int
 At:Int
def zhy (a b:Gapi_Spot):Bool:=(a.Err==b.Err)&&(a.At==b.At)
theorem zhE (a b:Gapi_Spot):zhy a b=true↔a=b:=by
 rcases a with ⟨a0,a1⟩
 rcases b with ⟨b0,b1⟩
 simp [zhy,Bool.and_eq_true,and_assoc]
instance:DecidableEq Gapi_Spot:=fun a b=>decidable_of_iff _ (zhE a b)
@[ext] structure Gapi_Verse where
 Text:ByteArray
 Indent:Int
 Stanza:Int
 In:Int
 Span_From:Int
 Span_To:Int
def zcV (x:Gapi_Verse):List Value:=[.string x.Text,.int .i64 x.Indent,.int .i64 x.Stanza,.int .i64 x.In,.int .i64 x.Span_From,.int .i64 x.Span_To]
theorem zc2 (x:Gapi_Verse):(zcV x).length=6:=rfl
theorem zgL (x:Gapi_Verse):∀ u∈zcV x,u.oneCell'=true:=by
 intro u hu
 simp only [zcV,List.mem_cons,List.not_mem_nil,or_false] at hu
 rcases hu with rfl | rfl | rfl | rfl | rfl | rfl <;> rfl
def zgH (a b:Gapi_Verse):Bool:=decide (a.Text=b.Text)&&(a.Indent==b.Indent)&&(a.Stanza==b.Stanza)&&(a.In==b.In)&&(a.Span_From==b.Span_From)&&(a.Span_To==b.Span_To)
theorem zhb (a b:Gapi_Verse):zgH a b=true↔a=b:=by
 rcases a with ⟨a0,a1,a2,a3,a4,a5⟩
 rcases b with ⟨b0,b1,b2,b3,b4,b5⟩
 simp [zgH,Bool.and_eq_true,and_assoc]
instance:DecidableEq Gapi_Verse:=fun a b=>decidable_of_iff _ (zhb a b)
@[ext] structure Gapi_Piece where
 At:Int
 Width:Int
 Rune:Int
 Broken:Bool
def zgJ (a b:Gapi_Piece):Bool:=(a.At==b.At)&&(a.Width==b.Width)&&(a.Rune==b.Rune)&&(a.Broken==b.Broken)
theorem zhd (a b:Gapi_Piece):zgJ a b=true↔a=b:=by
 rcases a with ⟨a0,a1,a2,a3⟩
 rcases b with ⟨b0,b1,b2,b3⟩
 simp [zgJ,Bool.and_eq_true,and_assoc]
instance:DecidableEq Gapi_Piece:=fun a b=>decidable_of_iff _ (zhd a b)
@[ext] structure Gref05_Piece where
 Span_From:Int
 Span_To:Int
 Kind:Int
 Joiner:Bool
 Columns:Int
def zfF (a b:Gref05_Piece):Bool:=(a.Span_From==b.Span_From)&&(a.Span_To==b.Span_To)&&(a.Kind==b.Kind)&&(a.Joiner==b.Joiner)&&(a.Columns==b.Columns)
theorem zgb (a b:Gref05_Piece):zfF a b=true↔a=b:=by
 rcases a with ⟨a0,a1,a2,a3,a4⟩
 rcases b with ⟨b0,b1,b2,b3,b4⟩
 simp [zfF,Bool.and_eq_true,and_assoc]
instance:DecidableEq Gref05_Piece:=fun a b=>decidable_of_iff _ (zgb a b)
@[ext] structure Gapi_Place where
 Byte:Int
 Rune:Int
 Unit:Int
 Line:Int
 Col:Int
def zcW (x:Gapi_Place):List Value:=[.int .i64 x.Byte,.int .i64 x.Rune,.int .i64 x.Unit,.int .i64 x.Line,.int .i64 x.Col]
theorem zeK (x:Gapi_Place):(zcW x).length=5:=rfl
theorem zeJ (x:Gapi_Place):∀ u∈zcW x,u.oneCell'=true:=by
 intro u hu
 simp only [zcW,List.mem_cons,List.not_mem_nil,or_false] at hu
 rcases hu with rfl | rfl | rfl | rfl | rfl <;> rfl
def zgI (a b:Gapi_Place):Bool:=(a.Byte==b.Byte)&&(a.Rune==b.Rune)&&(a.Unit==b.Unit)&&(a.Line==b.Line)&&(a.Col==b.Col)
theorem zhc (a b:Gapi_Place):zgI a b=true↔a=b:=by
 rcases a with ⟨a0,a1,a2,a3,a4⟩
 rcases b with ⟨b0,b1,b2,b3,b4⟩
 simp [zgI,Bool.and_eq_true,and_assoc]
instance:DecidableEq Gapi_Place:=fun a b=>decidable_of_iff _ (zhc a b)
@[ext] structure Gplace_ended where
 span_From:Int
 span_To:Int
 end_:Int
 first:Int
def zcu (x:Gplace_ended):List Value:=[.int .i64 x.span_From,.int .i64 x.span_To,.int .i64 x.end_,.int .i64 x.first]
theorem zbY (x:Gplace_ended):(zcu x).length=4:=rfl
theorem zer (x:Gplace_ended):∀ u∈zcu x,u.oneCell'=true:=by
 intro u hu
 simp only [zcu,List.mem_cons,List.not_mem_nil,or_false] at hu
 rcases hu with rfl | rfl | rfl | rfl <;> rfl
def zfH (a b:Gplace_ended):Bool:=(a.span_From==b.span_From)&&(a.span_To==b.span_To)&&(a.end_==b.end_)&&(a.first==b.first)
theorem zgd (a b:Gplace_ended):zfH a b=true↔a=b:=by
 rcases a with ⟨a0,a1,a2,a3⟩
 rcases b with ⟨b0,b1,b2,b3⟩
 simp [zfH,Bool.and_eq_true,and_assoc]
instance:DecidableEq Gplace_ended:=fun a b=>decidable_of_iff _ (zgd a b)
@[ext] structure Gpage_best where
 cost:Int
 rows:Int
 to_:Int
def zf0 (x:Gpage_best):List Value:=[.int .i64 x.cost,.int .i64 x.rows,.int .i64 x.to_]
theorem zaF (x:Gpage_best):(zf0 x).length=3:=rfl
def zgG (a b:Gpage_best):Bool:=(a.cost==b.cost)&&(a.rows==b.rows)&&(a.to_==b.to_)
theorem zha (a b:Gpage_best):zgG a b=true↔a=b:=by
 rcases a with ⟨a0,a1,a2⟩
 rcases b with ⟨b0,b1,b2⟩
 simp [zgG,Bool.and_eq_true,and_assoc]
instance:DecidableEq Gpage_best:=fun a b=>decidable_of_iff _ (zha a b)
@[ext] structure Gref02_Piece where
 At:Int
 Width:Int
 Rune:Int
def zfG (a b:Gref02_Piece):Bool:=(a.At==b.At)&&(a.Width==b.Width)&&(a.Rune==b.Rune)
theorem zgc (a b:Gref02_Piece):zfG a b=true↔a=b:=by
 rcases a with ⟨a0,a1,a2⟩
 rcases b with ⟨b0,b1,b2⟩
 simp [zfG,Bool.and_eq_true,and_assoc]
instance:DecidableEq Gref02_Piece:=fun a b=>decidable_of_iff _ (zgc a b)
@[ext] structure T_12_int32 where
 e0:Int
 e1:Int
 e2:Int
 e3:Int
 e4:Int
 e5:Int
 e6:Int
 e7:Int
 e8:Int
 e9:Int
 e10:Int
 e11:Int
def zgF (a b:T_12_int32):Bool:=(a.e0==b.e0)&&(a.e1==b.e1)&&(a.e2==b.e2)&&(a.e3==b.e3)&&(a.e4==b.e4)&&(a.e5==b.e5)&&(a.e6==b.e6)&&(a.e7==b.e7)&&(a.e8==b.e8)&&(a.e9==b.e9)&&(a.e10==b.e10)&&(a.e11==b.e11)
theorem zg9 (a b:T_12_int32):zgF a b=true↔a=b:=by
 rcases a with ⟨a0,a1,a2,a3,a4,a5,a6,a7,a8,a9,a10,a11⟩
 rcases b with ⟨b0,b1,b2,b3,b4,b5,b6,b7,b8,b9,b10,b11⟩
 simp [zgF,Bool.and_eq_true,and_assoc]
instance:DecidableEq T_12_int32:=fun a b=>decidable_of_iff _ (zg9 a b)
@[ext] structure T_24_uint8 where
 e0:Int
 e1:Int
 e2:Int
 e3:Int
 e4:Int
 e5:Int
 e6:Int
 e7:Int
 e8:Int
 e9:Int
 e10:Int
 e11:Int
 e12:Int
 e13:Int
 e14:Int
 e15:Int
 e16:Int
 e17:Int
 e18:Int
 e19:Int
 e20:Int
 e21:Int
 e22:Int
 e23:Int
@[ext] structure T_20_uint64 where
 e0:Int
 e1:Int
 e2:Int
 e3:Int
 e4:Int
 e5:Int
 e6:Int
 e7:Int
 e8:Int
 e9:Int
 e10:Int
 e11:Int
 e12:Int
 e13:Int
 e14:Int
 e15:Int
 e16:Int
 e17:Int
 e18:Int
 e19:Int
@[ext] structure T_16_utf8_acceptRange where
 e0_lo:Int
 e0_hi:Int
 e1_lo:Int
 e1_hi:Int
 e2_lo:Int
 e2_hi:Int
 e3_lo:Int
 e3_hi:Int
 e4_lo:Int
 e4_hi:Int
 e5_lo:Int
 e5_hi:Int
 e6_lo:Int
 e6_hi:Int
 e7_lo:Int
 e7_hi:Int
 e8_lo:Int
 e8_hi:Int
 e9_lo:Int
 e9_hi:Int
 e10_lo:Int
 e10_hi:Int
 e11_lo:Int
 e11_hi:Int
 e12_lo:Int
 e12_hi:Int
 e13_lo:Int
 e13_hi:Int
 e14_lo:Int
 e14_hi:Int
 e15_lo:Int
 e15_hi:Int
@[ext] structure T_32_uint8 where
 e0:Int
 e1:Int
 e2:Int
 e3:Int
 e4:Int
 e5:Int
 e6:Int
 e7:Int
 e8:Int
 e9:Int
 e10:Int
 e11:Int
 e12:Int
 e13:Int
 e14:Int
 e15:Int
 e16:Int
 e17:Int
 e18:Int
 e19:Int
 e20:Int
 e21:Int
 e22:Int
 e23:Int
 e24:Int
 e25:Int
 e26:Int
 e27:Int
 e28:Int
 e29:Int
 e30:Int
 e31:Int
def zaN (z:(List Gapi_Row)×Hd):List Value:=[z.2.v]
def zaX (z:(List Gapi_Row)×Hd):List Asn:=[vec zbI 33 6 z.2.v z.1]
theorem zdM (z:(List Gapi_Row)×Hd):(zaN z).length=1:=rfl
theorem zgM (z:(List Gapi_Row)×Hd):∀ u∈zaN z,u.oneCell'=true:=by
 intro u hu
 simp only [zaN,List.mem_cons,List.not_mem_nil,or_false] at hu
 rcases hu with rfl <;> rfl
def zaQ (z:(List ByteArray)×Hd):List Value:=[z.2.v]
def zbf (z:(List ByteArray)×Hd):List Asn:=[vec zhX 9 1 z.2.v z.1]
theorem zb5 (z:(List ByteArray)×Hd):(zaQ z).length=1:=rfl
theorem zhg (z:(List ByteArray)×Hd):∀ u∈zaQ z,u.oneCell'=true:=by
 intro u hu
 simp only [zaQ,List.mem_cons,List.not_mem_nil,or_false] at hu
 rcases hu with rfl <;> rfl
structure Gpage_Book where
 layout_Width:Int
 layout_Height:Int
 layout_Turn:Int
 layout_Every:Int
 pages:List (List Gapi_Row)
 cost:Int
def zbe (z:Gpage_Book×Hd):List Value:=[.int .i64 z.1.layout_Width,.int .i64 z.1.layout_Height,.int .i64 z.1.layout_Turn,.int .i64 z.1.layout_Every,z.2.v,.int .i64 z.1.cost]
def zbd (z:Gpage_Book×Hd):List Asn:=[zfp zaN zaX 43 1 z.2.v z.1.pages]
structure Gpoem_told where
 title:ByteArray
 lines:List Gapi_Verse
 stanzas:List Gapi_Span
structure Gpoem_Poem where
 told_title:ByteArray
 told_lines:List Gapi_Verse
 told_stanzas:List Gapi_Span
 source:ByteArray
def zaI (z:Gpoem_Poem×Hd×Hd):List Value:=[.string z.1.told_title,z.2.1.v,z.2.2.v,.string z.1.source]
def zaH (z:Gpoem_Poem×Hd×Hd):List Asn:=[vec zcV 76 6 z.2.1.v z.1.told_lines,vec zde 38 2 z.2.2.v z.1.told_stanzas]
structure Gpage_parter where
 rows:List Gapi_Row
 blanks:List Int
 firsts:List Int
 lasts:List Int
 heights:Int
structure Gref17_Poem where
 Title:ByteArray
 Stanzas:List (List ByteArray)
structure Gplace_Map where
 text:ByteArray
 places:List Gapi_Place
 lines:List Gplace_ended
def zda (z:Gplace_Map×Hd×Hd):List Value:=[.string z.1.text,z.2.1.v,z.2.2.v]
def zc8 (z:Gplace_Map×Hd×Hd):List Asn:=[vec zcW 155 5 z.2.1.v z.1.places,vec zcu 157 4 z.2.2.v z.1.lines]
structure Gpage_turner where
 s:ByteArray
 cells:List Gapi_Cell
 wide:List Int
 ends:List Int
 first:Int
 rest:Int
end Go.Proofs.YtbempdelckaccaaGreatDoor

namespace Go.Proofs.YtbempdelckaccaaGreatDoor
open Go.RowKit Go.Lib Go.Shelf
attribute [local go_sem] Oper.semAt_some zk6 ziK ziL
set_option linter.unusedVariables false
theorem zgn {a b:Bool} (h:a=b):Ending.returned (.bool a)=.returned (.bool b):=by rw [h]
theorem zka {k:IntKind} {a b:Int} (h:a=b):Ending.returned (.int k a)=.returned (.int k b):=by rw [h]
end Go.Proofs.YtbempdelckaccaaGreatDoor

namespace Go.Proofs.YtbempdelckaccaaGreatDoor
open Go.RowKit Go.Lib
def zlA (r:Int):Bool:=decide (r % 2=0)
def zjP (r:Int):Prop :=
 (65≤r∧r≤90)∨(0xC0≤r∧r≤0xDE∧r≠0xD7)∨(((0x100≤r∧r≤0x137)∨(0x14A≤r∧r≤0x177))∧r % 2=0)∨(0x139≤r∧r≤0x148∧r % 2=1)∨r=0x178 ∨
 (0x179≤r∧r≤0x17D∧r % 2=1)∨(0x386≤r∧r≤0x38F∧r≠0x387∧r≠0x38B∧r≠0x38D)∨(0x391≤r∧r≤0x3AB∧r≠0x3A2)∨(0x400≤r∧r≤0x42F)
instance (r:Int):Decidable (zjP r):=by unfold zjP; infer_instance
def zl9 (r:Int):Bool:=decide (zjP r)
def zjA (r:Int):Prop :=
 (97≤r∧r≤122)∨(0xDF≤r∧r≤0xFF∧r≠0xF7)∨(((0x100≤r∧r≤0x137)∨(0x14A≤r∧r≤0x177))∧r % 2=1)∨r=0x138∨r=0x149∨r=0x17F∨r=0x390 ∨
 (0x139≤r∧r≤0x148∧r % 2=0)∨(0x17A≤r∧r≤0x17E∧r % 2=0)∨(0x3AC≤r∧r≤0x3CE)∨(0x430≤r∧r≤0x45F)
instance (r:Int):Decidable (zjA r):=by unfold zjA; infer_instance
def zl2 (r:Int):Bool:=decide (zjA r)
def zlp (r:Int):Bool:=zl9 r||zl2 r
def zpz (r:Int):Int :=
 if r=0xFF then 0xFF - 0x178
 else if r<0x100∨(0x3B1≤r∧r≤0x3CB)∨(0x430≤r∧r≤0x44F) then 0x20
 else if r≤0x17F then 1
 else if r=0x3AC then 0x3AC - 0x386
 else if 0x3AD≤r∧r≤0x3AF then 0x25
 else if r=0x3CC then 0x40
 else if r=0x3CD∨r=0x3CE then 0x3F
 else 0x50
def znG (r:Int):Int :=
 if r<0∨(0xD800≤r∧r≤0xDFFF)∨0x10FFFF<r then 0
 else if zlp r then 1
 else if 0x300≤r∧r≤0x36F then 2
 else if 48≤r∧r≤57 then 3
 else if r=10∨r=13 then 4
 else if r=9∨r=32∨r=0xA0∨r=0x202F∨r=0x205F∨r=0x3000 then 5
 else if r=45∨(0x2010≤r∧r≤0x2015) then 6
 else if r=34∨r=39∨r=0xAB∨r=0xBB∨r=0x2039∨r=0x203A then 7
 else if r=33∨r=44∨r=46∨r=58∨r=59∨r=63∨r=0xA1∨r=0xB7∨r=0xBF∨r=0x2026 then 8
 else if 0x2000≤r∧r≤0x200A then 5
 else if 0x2018≤r∧r≤0x201F then 7
 else if r<0x20∨(0x7F≤r∧r≤0x9F)∨(0x200B≤r∧r≤0x200F)∨r=0xFEFF then 9
 else 10
def kind (r:Int):Int:=znG r
theorem zls (r:Int):zl9 r=true↔zjP r:=by simp [zl9]
theorem zlc (r:Int):zl2 r=true↔zjA r:=by simp [zl2]
end Go.Proofs.YtbempdelckaccaaGreatDoor

namespace Go.Proofs.YtbempdelckaccaaGreatDoor
open Go.RowKit Go.Lib Go.Shelf
set_option linter.unusedVariables false
set_option linter.unusedSimpArgs false
theorem zpA (r:Int) (h0 : -2147483648≤r) (h1:r≤2147483647):(bits BinOp.and IntKind.i32 r 1==0)=zlA r:=by
 have hk:bits .and .i32 r 1=r % 2:=by
  have h1:(BitVec.ofInt 32 1).toNat=2 ^ 1 - 1:=by decide
  have key:(BitVec.ofInt 32 r &&& BitVec.ofInt 32 1).toNat=(r % ((2 ^ 32:Nat):Int)).toNat % 2 ^ 1:=by
   rw [BitVec.toNat_and,BitVec.toNat_ofInt,h1,Nat.and_two_pow_sub_one_eq_mod]
  show IntKind.i32.wrap ((BitVec.ofInt 32 r &&& BitVec.ofInt 32 1).toNat:Nat)=r % 2
  rw [key,IntKind.wrap_i32]
  omega
 rw [hk,zlA,Bool.eq_iff_iff]
 simp
theorem zkE (r:Int) (w:World) (h0 : -2147483648≤r) (h1:r≤2147483647) :
  Calls Tryz.prog 141 #[.int .i32 r] w fun e w'=>e=.returned (.bool (zlA r))∧w=w':=by
 go_enter Tryz.func141,Tryz.ntmps141
 go_wp2
 go_ret
 exact ⟨zgn (zpA r h0 h1),rfl⟩
set_option maxHeartbeats 1000000 in
theorem zlt (r:Int) (w:World) (h0 : -2147483648≤r) (h1:r≤2147483647) :
  Calls Tryz.prog 127 #[.int .i32 r] w fun e w'=>e=.returned (.bool (zl9 r))∧w=w':=by
 go_enter Tryz.func127,Tryz.ntmps127
 go_wp2_with (go_at_call 141; refine (zkE _ _ (by omega) (by omega)).mono ?_; rintro e w' ⟨rfl,rfl⟩)
 all_goals
  go_ret
  refine ⟨zgn ?_,rfl⟩
  (go_light; rw [Bool.eq_iff_iff]; (try simp only [zls,zjP,zlA,decide_eq_true_eq,bne_iff_ne,ne_eq,Bool.not_eq_true',decide_eq_false_iff_not,Bool.and_eq_true,Bool.or_eq_true,Bool.or_eq_false_iff,Bool.and_eq_false_iff,bne_eq_false_iff_eq,beq_iff_eq,beq_eq_false_iff_ne,Bool.false_eq_true,false_iff,true_iff,iff_true,iff_false,Bool.not_eq_false',Bool.not_true,Bool.not_false] at *); omega)
set_option maxHeartbeats 1000000 in
theorem zld (r:Int) (w:World) (h0 : -2147483648≤r) (h1:r≤2147483647) :
  Calls Tryz.prog 128 #[.int .i32 r] w fun e w'=>e=.returned (.bool (zl2 r))∧w=w':=by
 go_enter Tryz.func128,Tryz.ntmps128
 go_wp2_with (go_at_call 141; refine (zkE _ _ (by omega) (by omega)).mono ?_; rintro e w' ⟨rfl,rfl⟩)
 all_goals
  go_ret
  refine ⟨zgn ?_,rfl⟩
  (go_light; rw [Bool.eq_iff_iff]; (try simp only [zlc,zjA,zlA,decide_eq_true_eq,bne_iff_ne,ne_eq,Bool.not_eq_true',decide_eq_false_iff_not,Bool.and_eq_true,Bool.or_eq_true,Bool.or_eq_false_iff,Bool.and_eq_false_iff,bne_eq_false_iff_eq,beq_iff_eq,beq_eq_false_iff_ne,Bool.false_eq_true,false_iff,true_iff,iff_true,iff_false,Bool.not_eq_false',Bool.not_true,Bool.not_false] at *); omega)
theorem zkW (r:Int) (w:World) (h0 : -2147483648≤r) (h1:r≤2147483647) :
  Calls Tryz.prog 103 #[.int .i32 r] w fun e w'=>e=.returned (.bool (zlp r))∧w=w':=by
 go_enter Tryz.func103,Tryz.ntmps103
 go_wp2_with (first | (go_at_call 127; refine (zlt _ _ (by omega) (by omega)).mono ?_; rintro e w' ⟨rfl,rfl⟩) | (go_at_call 128; refine (zld _ _ (by omega) (by omega)).mono ?_; rintro e w' ⟨rfl,rfl⟩))
 all_goals
  go_ret
  refine ⟨zgn ?_,rfl⟩
  go_light
  simp_all [zlp]
theorem zl6 (r:Int) (w:World) (h0 : -2147483648≤r) (h1:r≤2147483647) :
  Calls Tryz.prog 104 #[.int .i32 r] w fun e w'=>e=.returned (.bool (decide (0x300≤r∧r≤0x36F)))∧w=w':=by
 go_enter Tryz.func104,Tryz.ntmps104
 go_wp2
 all_goals
  go_ret
  refine ⟨zgn ?_,rfl⟩
  (go_light; rw [Bool.eq_iff_iff]; simp only [decide_eq_true_eq,bne_iff_ne,ne_eq,Bool.not_eq_true',decide_eq_false_iff_not,Bool.and_eq_true,Bool.or_eq_true,Bool.or_eq_false_iff,Bool.and_eq_false_iff,bne_eq_false_iff_eq,beq_iff_eq,beq_eq_false_iff_ne,Bool.false_eq_true,false_iff,true_iff,iff_true,iff_false,Bool.not_eq_false',Bool.not_true,Bool.not_false] at *; omega)
end Go.Proofs.YtbempdelckaccaaGreatDoor

namespace Go.Proofs.YtbempdelckaccaaGreatDoor
open Go.RowKit Go.Lib Go.Shelf
set_option linter.unusedVariables false
set_option linter.unusedSimpArgs false
theorem zkx (r:Int) (w:World) (h0 : -2147483648≤r) (h1:r≤2147483647) :
  Calls Tryz.prog 71 #[.int .i32 r] w fun e w'=>e=.returned (.int .i64 (kind r))∧w=w':=by
 go_enter Tryz.func71,Tryz.ntmps71
 go_wp2_with (first | (go_at_call 103; refine (zkW _ _ (by omega) (by omega)).mono ?_; rintro e w' ⟨rfl,rfl⟩) | (go_at_call 104; refine (zl6 _ _ (by omega) (by omega)).mono ?_; rintro e w' ⟨rfl,rfl⟩))
 all_goals
  go_ret
  refine ⟨zka ?_,rfl⟩
  go_light
  try simp only [decide_eq_true_eq,bne_iff_ne,ne_eq,Bool.not_eq_true',decide_eq_false_iff_not,Bool.and_eq_true,Bool.or_eq_true,Bool.or_eq_false_iff,Bool.and_eq_false_iff,bne_eq_false_iff_eq,beq_iff_eq,beq_eq_false_iff_ne,Bool.false_eq_true,false_iff,true_iff,iff_true,iff_false,Bool.not_eq_false',Bool.not_true,Bool.not_false] at *
  grind [kind,znG]
def zc1 (b:Bool) (r:Int):Int:=if b then 11 else kind r
theorem znE (i wd r:Int) (b:Bool) (w:World) (h0 : -2147483648≤r) (h1:r≤2147483647) :
  Calls Tryz.prog 35 #[.agg #[.int .i64 i,.int .i64 wd,.int .i32 r,.bool b]] w fun e w'=>e=.returned (.int .i64 (zc1 b r))∧Below w.heap.size w w':=by
 cases b
 ·go_enter Tryz.func35,Tryz.ntmps35
  go_wp2_with (go_at_call 71; refine (zkx _ _ (by omega) (by omega)).mono ?_; rintro e w' ⟨rfl,rfl⟩)
  go_ret
  exact ⟨zka (by simp [zc1]),(Below.refl _ _).alloc (Nat.le_refl _) _⟩
 ·go_enter Tryz.func35,Tryz.ntmps35
  go_wp2_with (go_at_call 71; refine (zkx _ _ (by omega) (by omega)).mono ?_; rintro e w' ⟨rfl,rfl⟩)
  go_ret
  exact ⟨zka (by simp [zc1]),(Below.refl _ _).alloc (Nat.le_refl _) _⟩
end Go.Proofs.YtbempdelckaccaaGreatDoor

namespace Go.Proofs.YtbempdelckaccaaGreatDoor
open Go.RowKit Go.Lib Go.Shelf
attribute [local go_sem] Oper.semAt_some zk6 ziK ziL
set_option linter.unusedVariables false
set_option linter.unusedSimpArgs false
end Go.Proofs.YtbempdelckaccaaGreatDoor

namespace Go.Proofs.YtbempdelckaccaaGreatDoor
open Go.RowKit Go.Lib Go.Shelf
attribute [local go_sem] Oper.semAt_some
set_option linter.unusedVariables false
set_option linter.unusedSimpArgs false
end Go.Proofs.YtbempdelckaccaaGreatDoor

namespace Go.Proofs.YtbempdelckaccaaGreatDoor
open Go.RowKit Go.Lib
structure Rn where
 f:Nat
 t:Nat
 k:Int
 deriving DecidableEq
end Go.Proofs.YtbempdelckaccaaGreatDoor

namespace Go.Proofs.YtbempdelckaccaaGreatDoor
open Go.RowKit Go.Lib
set_option linter.unusedVariables false
theorem zoG (i wd r:Int) (b:Bool) (h0 : -2147483648≤r) (h1:r≤2147483647):FnP Tryz.prog 35 [.agg #[.int .i64 i,.int .i64 wd,.int .i32 r,.bool b]] (.int .i64 (zc1 b r)):=fun w=>znE i wd r b w h0 h1
theorem Rw.vec {α:Type} {enc:α→List Value} {e:TypeId} {size:Nat} {v:Value} {L:List α} {w w':World} (h:Rw enc w' w.heap.size e size v L) (hb:Below w.heap.size w w') :
  ∃ C',sepL [vec enc e size v L] C' w'∧Ext (fun _=>False) C' w w':=by
 refine ⟨fun k=>v.ownBlock=some k,sepL.one ⟨znc h (Nat.zero_le _),rfl⟩,(zks hb).weaken (fun i hi h=>by omega),fun k hk=>.inr ?_⟩
 rcases h.shape with ⟨rfl,_⟩ | ⟨g,cap,rfl,h1,h2,_⟩
 ·simp [Value.ownBlock] at hk
 ·simp [Value.ownBlock] at hk; omega
end Go.Proofs.YtbempdelckaccaaGreatDoor

namespace Go.Proofs.YtbempdelckaccaaGreatDoor
open Go.RowKit Go.Lib Go.Shelf
set_option linter.unusedVariables false
set_option linter.unusedSimpArgs false
def vowelRunes:List Int:=[0x101,0x103,0x105,0x113,0x115,0x117,0x119,0x11b,0x129,0x12b,0x12d,0x12f,0x131,0x14d,0x14f,0x151,0x153,0x169,0x16b,0x16d,0x16f,0x171,0x173,0x177,
 0x390,0x3ac,0x3ad,0x3ae,0x3af,0x3b0,0x3b1,0x3b5,0x3b7,0x3b9,0x3bf,0x3c5,0x3c9,0x3ca,0x3cb,0x3cc,0x3cd,0x3ce,
 0x430,0x435,0x438,0x43e,0x443,0x44b,0x44d,0x44e,0x44f,0x450,0x451,0x454,0x456,0x457,0x45d]
def vowelS:ByteArray:=⟨#[196,129,196,131,196,133,196,147,196,149,196,151,196,153,196,155,196,169,196,171,196,173,196,175,196,177,197,141,197,143,197,145,197,147,197,169,197,171,197,173,197,175,197,177,197,179,197,183,206,144,206,172,206,173,206,174,206,175,206,176,206,177,206,181,206,183,206,185,206,191,207,133,207,137,207,138,207,139,207,140,207,141,207,142,208,176,208,181,208,184,208,190,209,131,209,139,209,141,209,142,209,143,209,144,209,145,209,148,209,150,209,151,209,157]⟩
theorem zhp:(pcs vowelS.data.toList).map (fun p=>(p.r:Int))=vowelRunes:=by decide +kernel
def VowRel (w:World) (x:Int) (wr:World):Prop :=
 ∃ pre pos,pcs vowelS.data.toList=pre++zcR pos (vowelS.data.toList.drop pos)∧pos≤vowelS.size∧(∀ p∈pre,(Pc.r p:Int)≠x)∧Below w.heap.size w wr∧wr.heap[w.heap.size]?=some (.stringIter vowelS pos)
theorem VowRel.start (w:World) (x:Int):VowRel w x (w.iter vowelS 0) :=
 ⟨[],0,rfl,Nat.zero_le _,by simp,(Below.refl _ _).alloc (Nat.le_refl _) _,World.iter_heap w vowelS 0⟩
theorem VowRel.round {P:Program} {w wr:World} {x:Int} (h:VowRel w x wr) :
  (∃ (pos r:Nat) (W1:World),(∀ ty,(Instr.next (.pointer (some ⟨w.heap.size,0,none⟩)) true ty).run P wr=.ok (.tuple #[.bool true,.int .i64 pos,.int .i32 r]) W1)∧Below w.heap.size w W1 ∧
   (((r:Int)=x∧vowelRunes.contains x=true)∨((r:Int)≠x∧VowRel w x W1∧vowelS.size - W1.iterPos w.heap.size<vowelS.size - wr.iterPos w.heap.size))) ∨
  ((∀ ty,(Instr.next (.pointer (some ⟨w.heap.size,0,none⟩)) true ty).run P wr=.ok (.tuple #[.bool false]) wr)∧Below w.heap.size w wr∧vowelRunes.contains x=false):=by
 obtain ⟨pre,pos,hx,hpos,hpre,hb,hit⟩:=h
 by_cases hlt:pos<vowelS.size
 ·obtain ⟨r,wd,W1,hn,hf,hit1,hsz,hok,hp,hle,h1⟩:=zjL P wr w.heap.size vowelS pos hit hlt
  have hb1:Below w.heap.size w W1:=hb.trans (hf.toBelow hb.size (by intro k hk; omega))
  refine .inl ⟨pos,r,W1,hn,hb1,?_⟩
  rw [hp] at hx
  by_cases he:(r:Int)=x
  ·refine .inl ⟨he,?_⟩
   rw [← zhp,hx,List.contains_iff_mem,List.mem_map]
   exact ⟨⟨pos,wd,r⟩,by simp,he⟩
  ·refine .inr ⟨he,⟨pre++[⟨pos,wd,r⟩],pos+wd,by rw [hx]; simp,hle,?_,hb1,hit1⟩,?_⟩
   ·intro p hp
    rcases List.mem_append.1 hp with h | h
    ·exact hpre p h
    ·simp at h; subst h; exact he
   ·rw [ziT hit,ziT hit1]; omega
 ·obtain ⟨hn,hp⟩:=zjM P wr w.heap.size vowelS pos hit hlt
  refine .inr ⟨hn,hb,?_⟩
  rw [hp,List.append_nil] at hx
  rw [← zhp,hx,← Bool.not_eq_true,List.contains_iff_mem,List.mem_map]
  rintro ⟨p,hm,he⟩
  exact hpre p hm he
end Go.Proofs.YtbempdelckaccaaGreatDoor

namespace Go.Proofs.YtbempdelckaccaaGreatDoor
open Go.RowKit Go.Lib Go.Shelf
set_option linter.unusedVariables false
set_option linter.unusedSimpArgs false
end Go.Proofs.YtbempdelckaccaaGreatDoor

namespace Go.Proofs.YtbempdelckaccaaGreatDoor
open Go.RowKit Go.Lib Go.Shelf
set_option linter.unusedVariables false
set_option linter.unusedSimpArgs false
end Go.Proofs.YtbempdelckaccaaGreatDoor

namespace Go.Proofs.YtbempdelckaccaaGreatDoor
open Go.RowKit Go.Lib
set_option linter.unusedVariables false
set_option linter.unusedSimpArgs false
section
variable {α:Type} {enc:α→List Value} {size k:Nat} {vv:Value} {xs:List α}
def zdR (enc:α→List Value) (size:Nat) (vv:Value) (k:Nat) (xs:List α):Asn :=
  ⟨fun C w=>(∀ b,C b→b<w.heap.size)∧∀ i x j v,k≤i→xs[i]?=some x→(enc x)[j]?=some v→C (zcL vv)∧w.cell? ⟨zcL vv,i*size+j,none⟩=some v,
   fun h b hb=>h.1 b hb,
   fun {C w w'} h hs hk=>⟨fun b hb=>Nat.lt_of_lt_of_le (h.1 b hb) hs,fun i x j v hi hx hv=>by
     obtain ⟨h1,h2⟩:=h.2 i x j v hi hx hv
     refine ⟨h1,?_⟩
     rw [← h2]
     unfold World.cell?
     simp only [hk _ h1]⟩⟩
theorem zh6 {e:TypeId} (hz:∀ x,(enc x).length=size) {C:Nat→Prop} {w:World} (h:(vec enc e size vv xs).P C w):(zdR enc size vv 0 xs).P C w:=by
 have hV:Vec enc e size vv xs C w:=h
 refine ⟨(vec enc e size vv xs).lt h,fun i x j v _ hx hv => ?_⟩
 have hj:j<size:=by rw [← hz x]; exact (List.getElem?_eq_some_iff.1 hv).1
 refine ⟨?_,hV.cellAt hz hx hj hv⟩
 rcases hV.shape with ⟨_,h2,_⟩ | ⟨g,cap,rfl,_⟩
 ·rw [h2] at hx; simp at hx
 ·rw [hV.2]; rfl
variable {F:Fence} {P:Program} {w0:World} {K:Nat→Prop} {N:Nat} {dfs:List Deferred} {ops:Array Oper} {Q:Exit→Act→World→Prop} {rest:List Oper} {σ:List (Nat×Value)} {L RD:List Asn} {v:Value}
 {d i:Nat} {t ty:TypeId} {pos:String} {aft:Array Edge} {g:Option (Nat×Bool)} {x:Operand}
theorem zcO [WideF F] {n j off:Nat} {q:α} (hr:Rd w0 K RD) (hi:RD[i]?=some (zdR enc size vv k xs)) (hle:k≤n) (hT:zbE P t) (hg:gd ops σ g=some true) (hd:d<N) (hx:ev σ x=some (.pointer (some ⟨zcL vv,off,none⟩)))
  (hq:xs[n]?=some q) (ho:off=n*size+j) (hv:(enc q)[j]?=some v) (h:TO F P w0 K N dfs ops Q rest ((d,v)::σ) L) :
  TO F P w0 K N dfs ops Q (⟨some d,.load t x,ty,pos,aft,g⟩::rest) σ L:=by
 subst ho
 obtain ⟨dd,hu,hr'⟩:=hT
 refine zcz hg hd (by simp) (fun a w ha hw => ?_) h
 obtain ⟨C,hC⟩:=hr.at hw hi
 have hc:=(hC.2 n q j v hle hq hv).2
 have h1:=ha.ev hx
 cases dd <;> simp_all [execOp,Instr.loadAt,Instr.sureAddr,loadVar,isAgg,Sem.run_bind,run_underlying hu]
theorem zgR [WideF F] {m j off n:Nat} {q:α} {cs:List Value} (hr:Rd w0 K RD) (hi:RD[i]?=some (zdR enc size vv k xs)) (hle:k≤m) (hT:zgh P t n) (hg:gd ops σ g=some true) (hd:d<N) (hx:ev σ x=some (.pointer (some ⟨zcL vv,off,none⟩)))
  (hq:xs[m]?=some q) (ho:off=m*size+j) (hcs:((enc q).drop j).take n=cs) (hn:cs.length=n)
  (h:TO F P w0 K N dfs ops Q rest ((d,.agg cs.toArray)::σ) L):TO F P w0 K N dfs ops Q (⟨some d,.load t x,ty,pos,aft,g⟩::rest) σ L:=by
 subst ho; subst hn
 obtain ⟨dd,hu,hr',hi'⟩:=hT
 refine zcz hg hd (by simp) (fun a w ha hw => ?_) h
 obtain ⟨C,hC⟩:=hr.at hw hi
 have hc:w.rangeAt (zcL vv) (m*size+j) cs:=fun n u hn=>by
  rw [← hcs] at hn
  rw [List.getElem?_take] at hn
  split at hn
  ·rw [List.getElem?_drop] at hn
   have:=(hC.2 m q (j+n) u hle hq hn).2
   rwa [← Nat.add_assoc] at this
  ·cases hn
 simp only [execOp,ha.ev hx,Sem.run_bind,run_loadAt_mid w _ _ t cs dd hc hu hr' hi']; rfl
end
end Go.Proofs.YtbempdelckaccaaGreatDoor

namespace Go.Proofs.YtbempdelckaccaaGreatDoor
open Go.RowKit Go.Lib
set_option linter.unusedVariables false
set_option linter.unusedSimpArgs false
section
variable {F:Fence} {P:Program} {w0:World} {K:Nat→Prop} {N:Nat} {dfs:List Deferred} {ops:Array Oper} {Q:Exit→Act→World→Prop} {rest:List Oper} {σ:List (Nat×Value)} {L:List Asn} {c:Code} {ex:Exit} {k:Nat}
 {α η:Type} {enc:α×η→List Value} {nest:α×η→List Asn} {t:TypeId} {p:Value} {m:Option α} {x:α}
theorem zca (enc:α×η→List Value) (nest:α×η→List Asn) (t:TypeId) (h:TX w0 K N dfs Q ex σ (L++[zfv enc nest t (.pointer none) none])):TX w0 K N dfs Q ex σ L:=fun a w ha hw =>
 h a w ha (hw.grow (C':=fun _=>False) (Ext.refl _ _) (sepL.one (A:=zfv enc nest t (.pointer none) none) ⟨fun _ h=>h,rfl⟩))
theorem zeN (h:m=some x):Entl [zfv enc nest t p m] (fun bh:Nat×η=>cells bh.1 (enc (x,bh.2)) t::nest (x,bh.2)) (fun bh=>p=.pointer (some ⟨bh.1,0,none⟩)):=fun C w hh=>by
 subst h
 obtain ⟨b,hd,h2,h3⟩:=pobj_some.1 (sepL.one1.1 hh)
 exact ⟨(b,hd),h2,h3⟩
def zoH (p:Value) (m:Option α):Prop:=(m.isNone=true∧p=.pointer none)∨(m.isNone=false∧∃ b,p=.pointer (some ⟨b,0,none⟩))
theorem zfL (hk:L[k]?=some (zfv enc nest t p m)) (h:zoH p m→TO F P w0 K N dfs ops Q rest σ L):TO F P w0 K N dfs ops Q rest σ L:=fun a w ha hw=>by
 obtain ⟨C1,h1,_⟩:=hw.focus hk
 refine h ?_ a w ha hw
 rcases ziS h1 with ⟨rfl,h2⟩ | ⟨x,b,rfl,h2⟩
 ·exact .inl ⟨rfl,h2⟩
 ·exact .inr ⟨rfl,b,h2⟩
theorem zk1 {ty e':TypeId} {w:World} (ht:P.underlying ty=some (.pointer e')):(Op.equal ty (.pointer none) (.pointer none)).run P w=.ok true w:=by
 have h:∀ d,(Op.equalIn (d+1) ty (.pointer none) (.pointer none)).run P w=.ok true w:=fun d=>by simp [Op.equalIn,run_underlying ht]
 exact h 9999
theorem zcK {ty e':TypeId} {y z:Operand} (ht:P.underlying ty=some (.pointer e')) (hv:zoH p m) (w:World):(do eqGuard .eql ty y z p (.pointer none); binOp .eql ty p (.pointer none):Sem Value).run P w=.ok (.bool m.isNone) w:=by
 rcases hv with ⟨h1,rfl⟩ | ⟨h1,b,rfl⟩
 ·rw [h1]; simp [eqGuard,binOp,Sem.run_bind,zk1 ht]
 ·rw [h1]; exact zbB ht w
end
end Go.Proofs.YtbempdelckaccaaGreatDoor

namespace Go.Proofs.YtbempdelckaccaaGreatDoor
open Go.RowKit Go.Lib
set_option linter.unusedVariables false
set_option linter.unusedSimpArgs false
section
variable {F:Fence} {P:Program} {w0:World} {K:Nat→Prop} {N:Nat} {dfs:List Deferred} {ops:Array Oper} {Q:Exit→Act→World→Prop} {rest:List Oper} {σ σ':List (Nat×Value)} {L L' R As Bs:List Asn} {o:Oper} {v:Value}
 {d:Nat} {t:TypeId} {op:Op} {ty:TypeId} {pos:String} {aft:Array Edge} {g:Option (Nat×Bool)} {x y z:Operand} {c c1 c2:Code} {k:Nat} {A B:Asn} {RO:List (Nat×Obj)} {RD RD0:List Asn}
def ItrR (P:Program) (gf:FuncId) (caps:List Value) {α:Type} (enc:α→List Value) (xs:List α) (RD:List Asn):Prop :=
 ∀ (w:World) (D:Nat→Prop),(∀ A∈RD,∃ C,A.P C w∧∀ k,C k→D k)→(∀ k,D k→k<w.heap.size)→Yields P gf caps.toArray (fun x=>(enc x).toArray) xs D w
theorem ItrR.intro {gf:FuncId} {fn:Func} {caps:List Value} {α:Type} {enc:α→List Value} {xs:List α} (hf:P.funcs[gf]?=some fn) (hb:fn.body=some c) (hn:fn.ntmps=N) (hN:caps.length+1≤N)
  (h:∀ l w0 K (I X:List α→Asn),Rd w0 K RD→YC P l enc xs I X w0 K →
   TC Fence.wide P w0 K N [] (bodyPostM Fence.wide 0 P fn (FY xs I X w0 K)) c (zfi (.func (.yield l) #[] #[]::caps)) [I []]):ItrR P gf caps enc xs RD:=by
 subst hn
 intro w D hRD hDlt l I X C0 W hD hsz hC0 hIl hXl hy h0
 have hRo:Rd W C0 RD:=fun A hA=>by
  obtain ⟨C,h1,h2⟩:=hRD A hA
  exact ⟨C,A.loc h1 hsz (fun k hk=>(hD k (h2 k hk)).2),fun k hk hc=>(hC0 k hc).2 (h2 k hk)⟩
 have:=h l W C0 (fun pre=>zoi (I pre) (fun C W W'=>hIl pre C W W')) (fun pre=>zoi (X pre) (fun C W W'=>hXl pre C W W')) hRo (fun pre x post C W1 hxs he hi=>by
  obtain ⟨f1,t1,a1,b1,hr1,hr2⟩:=hy pre x post C W1 hxs he hi.1
  refine ⟨f1,t1,a1,b1,hr1,hr2.mono ?_⟩
  rintro e w2 ⟨b,rfl,C',hx,hc⟩
  have hlt:∀ k,C' k→k<w2.heap.size:=fun k hk=>by
   have:=hx.1.size
   rcases hx.2 k hk with h | h
   ·have:=hi.2 k h; omega
   ·exact h.2
  exact ⟨b,rfl,C',hx,hc.imp (fun h=>⟨h.1,h.2,hlt⟩) (fun h=>⟨h.1,h.2,hlt⟩)⟩)
 have hs:(Value.func (.yield l) #[] #[]::caps).toArray=#[.func (.yield l) #[] #[]]++caps.toArray:=by simp
 rw [← hs]
 refine (zet hf hb (this _ W (At.start _ (by simpa using hN)) ⟨C0,sepL.one ⟨h0,fun k hk=>(hC0 k hk).1⟩,Ext.refl _ _⟩)).mono ?_
 rintro e w' ⟨he,hh⟩
 refine ⟨he,?_⟩
 rcases hh with ⟨C',hh,hx⟩ | ⟨pre,x,post,hxs,C',hh,hx⟩
 ·obtain ⟨C1,C2,g1,g2,_,g4⟩:=hh
  have:C'=C1:=funext fun k=>propext (by rw [g4]; exact ⟨fun h=>h.resolve_right (g2 k),.inl⟩)
  subst this
  exact ⟨C',hx,.inl g1.1⟩
 ·obtain ⟨C1,C2,g1,g2,_,g4⟩:=hh
  have:C'=C1:=funext fun k=>propext (by rw [g4]; exact ⟨fun h=>h.resolve_right (g2 k),.inl⟩)
  subst this
  exact ⟨C',hx,.inr ⟨pre,x,post,hxs,g1.1⟩⟩
section
variable {α β γ δ:Type}
theorem zgT {gf:FuncId} {caps:List Value} {enc:α→List Value} {xs:List α} {ps:List Nat} {assign body:Code} (hRd:Rd w0 K RD0) (hRo:Ro w0 K RO)
  (hg:ev σ x=some (.func (.func gf) #[] caps.toArray)) (hent:∀ args w,(callFunc gf args).run P w=.ok (.enter gf args) w) (hY:ItrR P gf caps enc xs RD)
  (Inv:List α→β→Prop) (LI:List α→β→List Asn) (X:Code→List α→γ→Prop) (LX:Code→List α→γ→List Asn) (σJ:List α→α→β→δ→List (Nat×Value)) (LJ:List α→α→β→δ→List Asn) (b0:β)
  (h0:Inv [] b0) (hs:Splits L (LI [] b0) R) (hS:RdS R RD0 RD) (hps:∀ x,(enc x).length=ps.length) (hpN:∀ p∈ps,p<N)
  (hassign:∀ l r pre e post b w1 K1,xs=pre++e::post→Ext K K1 w0 w1→Ro w1 K1 (RO++[(l,.loop r)])→Inv pre b →
   TC (Fence.wide.inRound l) P w1 K1 N [] (Exit.then (fun a w=>∃ j,St w1 K1 N [] (σJ pre e b j) (LJ pre e b j) a w) (fun _ _ _=>False)) assign (zhN ps (enc e) σ) (LI pre b))
  (hbody:∀ l r pre e post b j w1 K1,xs=pre++e::post→Ext K K1 w0 w1→Ro w1 K1 (RO++[(l,.loop r)])→Inv pre b→TC (Fence.wide.inRound l) P w1 K1 N [] (RQ Inv LI X LX (pre++[e]) w1 K1) body (σJ pre e b j) (LJ pre e b j))
  (hdone:∀ d b,Inv xs b→TX w0 K N ({ target:=.collected d,args:=#[] }::dfs) Q .normal σ (R++(LI xs b++[zhD d])))
  (hstop:∀ d c pre e post b,xs=pre++e::post→X c (pre++[e]) b→TC Fence.wide P w0 K N ({ target:=.collected d,args:=#[] }::dfs) Q c σ (R++(LX c (pre++[e]) b++[zhD d]))) :
  TC Fence.wide P w0 K N dfs Q (.rangeFunc x ps.toArray assign body) σ L:=by
 intro a w ha hw
 obtain ⟨C1,C2,g1,g2,g3,gx,hstep⟩:=hw.split2 hs
 have hDh:Rd w C1 RD:=hS.rd (w0:=w0) (K:=K) g2 g3 (hRd.ext gx)
 have hlt1:=g1.lt
 have hro1:∀ {C:Nat→Prop} {W:World},Ext K C w0 W→Ro W C RO:=fun {C W} hx p hp=>by
  obtain ⟨h1,h2⟩:=hRo p hp
  refine ⟨hx.1.at h1 h2,fun h => ?_⟩
  rcases hx.2 _ h with h | h
  ·exact h2 h
  ·have:=zbL h1; omega
 refine zkt (gf:=gf) (lb:=caps.toArray) (ha.ev hg) hent (hY w (fun k=>k<w.heap.size∧¬ C1 k) (fun A hA=>by
  obtain ⟨C,h1,h2⟩:=hDh A hA
  exact ⟨C,h1,fun k hk=>⟨A.lt h1 k hk,h2 k hk⟩⟩) (fun k h=>h.1)) (fun k h=>⟨h.1,rfl⟩) (Nat.le_refl _) (fun e=>by simp [hps])
  (fun pre C W=>∃ b,Inv pre b∧sepL (LI pre b) C W) (fun c pre C W=>∃ b,X c pre b∧sepL (LX c pre b) C W)
  (fun pre e a1 C W=>∃ b j,Inv pre b∧At N [] (σJ pre e b j) a1∧sepL (LJ pre e b j) C W) ?_ ?_ ?_ C1 (fun k hk=>⟨hlt1 k hk,fun h=>h.2 hk⟩) ⟨b0,h0,g1⟩ ?_ ?_ ?_ ?_
 ·rintro pre C W W' ⟨b,h1,h2⟩ hs hk; exact ⟨b,h1,h2.loc hs hk⟩
 ·rintro c pre C W W' ⟨b,h1,h2⟩ hs hk; exact ⟨b,h1,h2.loc hs hk⟩
 ·rintro pre e a1 _ C W W' ⟨b,j,h1,h2,h3⟩ hs hk; exact ⟨b,j,h1,h2,h3.loc hs hk⟩
 ·rintro l pre e post C W1 hxs hext ⟨b,hb,hi⟩ hn hl ⟨r,hr⟩
  have hx1:Ext K C w0 W1:=gx.trans hext
  refine wpIn_mono (hassign l r pre e post b W1 C hxs hx1 ((hro1 hx1).snoc hr hn) hb _ W1 (ha.zip ps (enc e) hpN) ⟨C,hi,Ext.refl _ _⟩) ?_
  rintro ex a' w' hq
  cases ex with
  | normal =>
   obtain ⟨j,hj,C',hL',hx'⟩:=hq
   exact ⟨C',hx',b,j,hb,hj,hL'⟩
  | _=>exact hq
 ·rintro l pre e post C W1 a1 hxs hext ⟨b,j,hb,hat,hi⟩ hn hl ⟨r,hr⟩
  have hx1:Ext K C w0 W1:=gx.trans hext
  refine wpIn_mono (hbody l r pre e post b j W1 C hxs hx1 ((hro1 hx1).snoc hr hn) hb a1 W1 hat ⟨C,hi,Ext.refl _ _⟩) ?_
  rintro ex a' w' hq
  cases ex with
  | normal=>obtain ⟨b',h1,C',h2,h3⟩:=hq; exact ⟨C',h3,b',h1,h2⟩
  | ret=>obtain ⟨b',h1,C',h2,h3⟩:=hq; exact ⟨C',h3,b',h1,h2⟩
  | exit id=>obtain ⟨b',h1,C',h2,h3⟩:=hq; exact ⟨C',h3,b',h1,h2⟩
  | goto id=>obtain ⟨b',h1,C',h2,h3⟩:=hq; exact ⟨C',h3,b',h1,h2⟩
  | panic _=>exact hq
  | outgrown=>exact hq
 ·rintro d C W hext ⟨b,hb,hi⟩ hd hCd hdef
  refine hdone d b hb _ W ⟨ha.1,by rw [← ha.2.1],ha.2.2⟩ (hstep _ (fun k=>C k∨k=d) W ⟨hext.1,fun k hk => ?_⟩ ?_)
  ·rcases hk with hk | rfl
   ·exact hext.2 k hk
   ·exact .inr ⟨hd,zbL hdef⟩
  ·exact hi.append (sepL.one ⟨fun k=>Iff.rfl,hdef⟩) (fun k hk e=>hCd (e ▸ hk))
 ·rintro d c pre e post C W hxs hext ⟨b,hb,hi⟩ hd hCd hdef
  refine hstop d c pre e post b hxs hb _ W ⟨ha.1,by rw [← ha.2.1],ha.2.2⟩ (hstep _ (fun k=>C k∨k=d) W ⟨hext.1,fun k hk => ?_⟩ ?_)
  ·rcases hk with hk | rfl
   ·exact hext.2 k hk
   ·exact .inr ⟨hd,zbL hdef⟩
  ·exact hi.append (sepL.one ⟨fun k=>Iff.rfl,hdef⟩) (fun k hk e=>hCd (e ▸ hk))
end
end
end Go.Proofs.YtbempdelckaccaaGreatDoor

namespace Go.Proofs.YtbempdelckaccaaGreatDoor
open Go.RowKit Go.Lib
set_option linter.unusedVariables false
set_option linter.unusedSimpArgs false
structure Seat (α:Type) where
 vv:Value
 k:Nat
 L:List α
def zkw {α:Type} (enc:α→List Value) (size:Nat) (hd:Hd) (xs:List α):Asn :=
 exA fun b:{b:Seat α // Vw b.vv b.L size b.k hd.v xs}=>zdR enc size b.1.vv b.1.k b.1.L
theorem zkv {α:Type} {enc:α→List Value} {size:Nat} {e:TypeId} {hd:Hd} {xs:List α} (hlen:∀ x,(enc x).length=size) {C:Nat→Prop} {w:World} (h:(vec enc e size hd.v xs).P C w):(zkw enc size hd xs).P C w :=
 ⟨⟨⟨hd.v,0,xs⟩,zja h⟩,zh6 hlen h⟩
section
variable {α η:Type} {enc:α×η→List Value} {nest nestR:α×η→List Asn} {e:TypeId} {size:Nat} {v:Value} {xs:List α} {zs:List (α×η)} {z:α×η}
def ze9 (nestR:α×η→List Asn) (zs:List (α×η)):Asn :=
  ⟨fun C w=>(∀ k,C k→k<w.heap.size)∧∀ z∈zs,∀ A∈nestR z,∃ D,A.P D w∧∀ k,D k→C k,
   fun h k hk=>h.1 k hk,
   fun {C w w'} h hs hk=>⟨fun k hC=>Nat.lt_of_lt_of_le (h.1 k hC) hs,fun z hz A hA=>by
     obtain ⟨D,h1,h2⟩:=h.2 z hz A hA
     exact ⟨D,A.loc h1 hs (fun k hD=>hk k (h2 k hD)),h2⟩⟩⟩
def zlP (nest nestR:α×η→List Asn):Prop:=∀ z C w,sepL (nest z) C w→∀ A∈nestR z,∃ D,A.P D w∧∀ k,D k→C k
theorem zlw {C:Nat→Prop} {w:World} (h:sepL (zs.flatMap nest) C w) (hz:z∈zs):∃ D,sepL (nest z) D w∧∀ k,D k→C k:=by
 obtain ⟨i,hi⟩:=List.getElem?_of_mem hz
 obtain ⟨C1,C2,h1,_,_,h4⟩:=(zh3 hi).1 h
 exact ⟨C1,h1,fun k hk=>(h4 k).2 (.inl hk)⟩
theorem zlk (hG:zlP nest nestR) {C:Nat→Prop} {w:World} (h:(own nest zs).P C w):(ze9 nestR zs).P C w :=
 ⟨(own nest zs).lt h,fun z hz A hA=>by
  obtain ⟨D,h1,h2⟩:=zlw (show sepL (zs.flatMap nest) C w from h) hz
  obtain ⟨E,h3,h4⟩:=hG z D w h1 A hA
  exact ⟨E,h3,fun k hk=>h2 k (h4 k hk)⟩⟩
variable {w0:World} {K:Nat→Prop} {RD:List Asn} {i j:Nat}
theorem Rd.openEl (hr:Rd w0 K RD) (hi:RD[i]?=some (ze9 nestR zs)) (hz:zs[j]?=some z):Rd w0 K (RD++nestR z) :=
 hr.more hi fun C hC B hB=>hC.2 z (List.mem_of_getElem? hz) B hB
theorem Rd.openSl {β:Type} {enc1:β→List Value} {hd:Hd} {ys:List β} (hr:Rd w0 K RD) (hi:RD[i]?=some (zkw enc1 size hd ys)):∃ vv k L,Vw vv L size k hd.v ys∧Rd w0 K (RD++[zdR enc1 size vv k L]):=by
 obtain ⟨C,⟨⟨⟨vv,k,L⟩,hV⟩,hC⟩,hk⟩:=hr _ (List.mem_of_getElem? hi)
 refine ⟨vv,k,L,hV,hr.append fun B hB => ?_⟩
 rw [List.mem_singleton] at hB
 subst hB
 exact ⟨C,hC,hk⟩
theorem Rd.openN (hr:Rd w0 K RD) (hi:RD[i]?=some (zfp enc nest e size v xs)) (hlen:∀ z,(enc z).length=size) (hG:zlP nest nestR) :
  ∃ zs:List (α×η),zs.map Prod.fst=xs∧Vw v zs size 0 v zs∧Rd w0 K (RD++[zdR enc size v 0 zs,ze9 nestR zs]):=by
 obtain ⟨C,h,hk⟩:=hr _ (List.mem_of_getElem? hi)
 obtain ⟨zs,hz,h1⟩:=zl5 C w0 h
 obtain ⟨C1,C2,g1,g2,_,g4⟩:=ziP h1
 refine ⟨zs,hz,zja g1,hr.append fun B hB => ?_⟩
 rcases List.mem_cons.1 hB with rfl | hB
 ·exact ⟨C1,zh6 hlen g1,fun k h=>hk k ((g4 k).2 (.inl h))⟩
 ·rw [List.mem_singleton] at hB
  subst hB
  exact ⟨C2,zlk hG g2,fun k h=>hk k ((g4 k).2 (.inr h))⟩
theorem zk4 {P:Program} {f:FuncId} {vs:List Value} {RD1 RD2 As:List Asn} {β:Type} {V:β→Value} {Bs:β→List Asn} (hlen:∀ z,(enc z).length=size) (hG:zlP nest nestR)
  (h:∀ zs:List (α×η),zs.map Prod.fst=xs→Vw v zs size 0 v zs→FnR P f vs (RD1++[zdR enc size v 0 zs,ze9 nestR zs]++RD2) As V Bs):FnR P f vs (RD1++[zfp enc nest e size v xs]++RD2) As V Bs:=fun w C hR=>by
 obtain ⟨zs,hz,hV,h1⟩:=hR.openN (i:=RD1.length) (nest:=nest) (e:=e) (v:=v) (xs:=xs) (by simp) hlen hG
 refine h zs hz hV w C fun A hA=>h1 A ?_
 simp only [List.mem_append,List.mem_cons,List.not_mem_nil,or_false] at hA ⊢
 rcases hA with (hA | hA) | hA
 ·exact .inl (.inl (.inl hA))
 ·exact .inr hA
 ·exact .inl (.inr hA)
end
section
variable {α η:Type} {nest:α×η→List Asn} {zs ys:List (α×η)}
end
section
variable {F:Fence} {P:Program} {w0:World} {K:Nat→Prop} {N:Nat} {dfs:List Deferred} {Q:Exit→Act→World→Prop} {σ:List (Nat×Value)} {L:List Asn} {c:Code} {k:Nat} {α η:Type} {enc:α×η→List Value} {nest:α×η→List Asn} {t:TypeId} {p:Value} {m:Option α}
theorem zob (hk:L[k]?=some (zfv enc nest t p m)) (h:zoH p m→TC F P w0 K N dfs Q c σ L):TC F P w0 K N dfs Q c σ L:=fun a w ha hw=>by
 obtain ⟨C1,h1,_⟩:=hw.focus hk
 refine h ?_ a w ha hw
 rcases ziS h1 with ⟨rfl,h2⟩ | ⟨x,b,rfl,h2⟩
 ·exact .inl ⟨rfl,h2⟩
 ·exact .inr ⟨rfl,b,h2⟩
end
end Go.Proofs.YtbempdelckaccaaGreatDoor

namespace Go.Proofs.YtbempdelckaccaaGreatDoor
open Go.RowKit Go.Lib
def zcH (z:(List Gapi_Row)×Hd):List Asn:=[zkw zbI 6 z.2 z.1]
theorem zfE:zlP zaX zcH:=by
 intro z C w h A hA
 simp only [zcH,List.mem_cons,List.not_mem_nil,or_false] at hA
 rcases hA with rfl
 ·obtain ⟨D,h1,h2⟩:=zh4 h _ (List.mem_of_getElem? (i:=0) rfl); exact ⟨D,zkv zbA h1,h2⟩
def zbu (z:(List ByteArray)×Hd):List Asn:=[zkw zhX 1 z.2 z.1]
theorem ziH:zlP zbf zbu:=by
 intro z C w h A hA
 simp only [zbu,List.mem_cons,List.not_mem_nil,or_false] at hA
 rcases hA with rfl
 ·obtain ⟨D,h1,h2⟩:=zh4 h _ (List.mem_of_getElem? (i:=0) rfl); exact ⟨D,zkv zff h1,h2⟩
end Go.Proofs.YtbempdelckaccaaGreatDoor

namespace Go.Proofs
open Go.Shelf
def zhJ:Go.Shelf.Ren:=⟨fun | 160=>78 | 232=>88 | 231=>108 | 227=>89 | 234=>90 | 233=>109 | 236=>91 | 235=>110 | 228=>117 | 271=>118 | 151=>119 | 197=>132 | 120=>135 | 152=>136 | 260=>142 | 137=>144 | 119=>145 | 224=>146 | 225=>147 | 217=>153 | 266=>156 | n=>n,fun | 9=>9 | 4=>4 | 3=>3 | 5=>5 | 117=>169 | 116=>168 | 0=>0 | 124=>172 | 21=>21 | 105=>198 | 46=>158 | 119=>221 | 139=>224 | 138=>223 | n=>n,fun | 3=>2 | 4=>3 | n=>n⟩
theorem zjZ:Go.Proofs.Lays.n160 Tryz.prog zhJ:={
 mixed:=by kernel_rfl
 f119:=Tryz.func145.trans (congrArg some (by kernel_rfl))
 f120:=Tryz.func135.trans (congrArg some (by kernel_rfl))
 f137:=Tryz.func144.trans (congrArg some (by kernel_rfl))
 f151:=Tryz.func119.trans (congrArg some (by kernel_rfl))
 f152:=Tryz.func136.trans (congrArg some (by kernel_rfl))
 f160:=Tryz.func78.trans (congrArg some (by kernel_rfl))
 f197:=Tryz.func132.trans (congrArg some (by kernel_rfl))
 f217:=Tryz.func153.trans (congrArg some (by kernel_rfl))
 f224:=Tryz.func146.trans (congrArg some (by kernel_rfl))
 f225:=Tryz.func147.trans (congrArg some (by kernel_rfl))
 f227:=Tryz.func89.trans (congrArg some (by kernel_rfl))
 f228:=Tryz.func117.trans (congrArg some (by kernel_rfl))
 f231:=Tryz.func108.trans (congrArg some (by kernel_rfl))
 f232:=Tryz.func88.trans (congrArg some (by kernel_rfl))
 f233:=Tryz.func109.trans (congrArg some (by kernel_rfl))
 f234:=Tryz.func90.trans (congrArg some (by kernel_rfl))
 f235:=Tryz.func110.trans (congrArg some (by kernel_rfl))
 f236:=Tryz.func91.trans (congrArg some (by kernel_rfl))
 f260:=Tryz.func142.trans (congrArg some (by kernel_rfl))
 f266:=Tryz.func156.trans (congrArg some (by kernel_rfl))
 f271:=Tryz.func118.trans (congrArg some (by kernel_rfl))
 t0:=Tryz.underlying0
 a0:=Tryz.isAgg0
 z0:=Tryz.sizeOf0
 v0:=Tryz.zeroValue0
 t3:=Tryz.underlying3
 a3:=Tryz.isAgg3
 z3:=Tryz.sizeOf3
 v3:=Tryz.zeroValue3
 t4:=Tryz.underlying4
 a4:=Tryz.isAgg4
 z4:=Tryz.sizeOf4
 v4:=Tryz.zeroValue4
 t5:=Tryz.underlying5
 a5:=Tryz.isAgg5
 z5:=Tryz.sizeOf5
 v5:=Tryz.zeroValue5
 t9:=Tryz.underlying9
 a9:=Tryz.isAgg9
 z9:=Tryz.sizeOf9
 v9:=Tryz.zeroValue9
 t21:=Tryz.underlying21
 a21:=Tryz.isAgg21
 z21:=Tryz.sizeOf21
 v21:=Tryz.zeroValue21
 t46:=Tryz.underlying158
 a46:=Tryz.isAgg158
 z46:=Tryz.sizeOf158
 v46:=Tryz.zeroValue158
 t105:=Tryz.underlying198
 a105:=Tryz.isAgg198
 z105:=Tryz.sizeOf198
 v105:=Tryz.zeroValue198
 t116:=Tryz.underlying168
 a116:=Tryz.isAgg168
 z116:=Tryz.sizeOf168
 t117:=Tryz.underlying169
 a117:=Tryz.isAgg169
 z117:=Tryz.sizeOf169
 v117:=Tryz.zeroValue169
 t119:=Tryz.underlying221
 a119:=Tryz.isAgg221
 z119:=Tryz.sizeOf221
 t124:=Tryz.underlying172
 a124:=Tryz.isAgg172
 z124:=Tryz.sizeOf172
 v124:=Tryz.zeroValue172
 t138:=Tryz.underlying223
 a138:=Tryz.isAgg223
 z138:=Tryz.sizeOf223
 v138:=Tryz.zeroValue223
 t139:=Tryz.underlying224
 a139:=Tryz.isAgg224
 z139:=Tryz.sizeOf224
 v139:=Tryz.zeroValue224
 g3:=by kernel_rfl
 g4:=by kernel_rfl }
def zhM:Go.Shelf.Ren:=⟨fun | 119=>145 | n=>n,fun | 21=>21 | 4=>4 | n=>n,fun | n=>n⟩
theorem zj1:Go.Proofs.Lays.n119 Tryz.prog zhM:={
 mixed:=by kernel_rfl
 f119:=Tryz.func145.trans (congrArg some (by kernel_rfl))
 t4:=Tryz.underlying4
 a4:=Tryz.isAgg4
 z4:=Tryz.sizeOf4
 v4:=Tryz.zeroValue4
 t21:=Tryz.underlying21
 a21:=Tryz.isAgg21
 z21:=Tryz.sizeOf21
 v21:=Tryz.zeroValue21 }
theorem Tryz.utf8_ValidRune (r:Int) (w:World) :
  Calls Tryz.prog 145 #[.int .i32 r] w fun e w'=>e=.returned (.bool (Lib.validRune r))∧w'=w:=Any.utf8_ValidRune zj1 r w
def zhL:Go.Shelf.Ren:=⟨fun | 137=>144 | 217=>153 | 266=>156 | n=>n,fun | 9=>9 | 5=>5 | 3=>3 | n=>n,fun | n=>n⟩
theorem zj0:Go.Proofs.Lays.n137 Tryz.prog zhL:={
 mixed:=by kernel_rfl
 f137:=Tryz.func144.trans (congrArg some (by kernel_rfl))
 f217:=Tryz.func153.trans (congrArg some (by kernel_rfl))
 f266:=Tryz.func156.trans (congrArg some (by kernel_rfl))
 t3:=Tryz.underlying3
 a3:=Tryz.isAgg3
 z3:=Tryz.sizeOf3
 v3:=Tryz.zeroValue3
 t5:=Tryz.underlying5
 a5:=Tryz.isAgg5
 z5:=Tryz.sizeOf5
 v5:=Tryz.zeroValue5
 t9:=Tryz.underlying9
 a9:=Tryz.isAgg9
 z9:=Tryz.sizeOf9
 v9:=Tryz.zeroValue9 }
open Go.RowKit in
theorem Tryz.strings_IndexByte (s:ByteArray) (c:Int) (w:World) :
  Calls Tryz.prog 144 #[.string s,.int .u8 c] w fun e w'=>e=.returned (.int .i64 (Lib.indexByte s.data.toList c.toNat.toUInt8))∧w'=w:=Any.strings_IndexByte zj0 s c w
def zhI:Go.Shelf.Ren:=⟨fun | 226=>143 | n=>n,fun | 3=>3 | 4=>4 | n=>n,fun | n=>n⟩
theorem zjY:Go.Proofs.Lays.n226 Tryz.prog zhI:={
 mixed:=by kernel_rfl
 f226:=Tryz.func143.trans (congrArg some (by kernel_rfl))
 t3:=Tryz.underlying3
 a3:=Tryz.isAgg3
 z3:=Tryz.sizeOf3
 v3:=Tryz.zeroValue3
 t4:=Tryz.underlying4
 a4:=Tryz.isAgg4
 z4:=Tryz.sizeOf4
 v4:=Tryz.zeroValue4 }
open Go.RowKit Go.Lib in
theorem Tryz.strings_shouldUseASCIISet (n:Int) (w:World) :
  Calls Tryz.prog 143 #[.int .i64 n] w fun e w'=>e=.returned (.bool (decide (8<n)))∧w'=w:=Any.strings_shouldUseASCIISet zjY n w
def zhK:Go.Shelf.Ren:=⟨fun | 153=>134 | 152=>136 | 226=>143 | 227=>89 | 228=>117 | 137=>144 | 119=>145 | 224=>146 | 225=>147 | 217=>153 | 266=>156 | n=>n,fun | 9=>9 | 3=>3 | 4=>4 | 5=>5 | 21=>21 | 117=>169 | 116=>168 | 0=>0 | 46=>158 | 124=>172 | n=>n,fun | n=>n⟩
theorem zhB:Go.Proofs.Lays.n153 Tryz.prog zhK:={
 mixed:=by kernel_rfl
 f119:=Tryz.func145.trans (congrArg some (by kernel_rfl))
 f137:=Tryz.func144.trans (congrArg some (by kernel_rfl))
 f152:=Tryz.func136.trans (congrArg some (by kernel_rfl))
 f153:=Tryz.func134.trans (congrArg some (by kernel_rfl))
 f217:=Tryz.func153.trans (congrArg some (by kernel_rfl))
 f224:=Tryz.func146.trans (congrArg some (by kernel_rfl))
 f225:=Tryz.func147.trans (congrArg some (by kernel_rfl))
 f226:=Tryz.func143.trans (congrArg some (by kernel_rfl))
 f227:=Tryz.func89.trans (congrArg some (by kernel_rfl))
 f228:=Tryz.func117.trans (congrArg some (by kernel_rfl))
 f266:=Tryz.func156.trans (congrArg some (by kernel_rfl))
 t0:=Tryz.underlying0
 a0:=Tryz.isAgg0
 z0:=Tryz.sizeOf0
 v0:=Tryz.zeroValue0
 t3:=Tryz.underlying3
 a3:=Tryz.isAgg3
 z3:=Tryz.sizeOf3
 v3:=Tryz.zeroValue3
 t4:=Tryz.underlying4
 a4:=Tryz.isAgg4
 z4:=Tryz.sizeOf4
 v4:=Tryz.zeroValue4
 t5:=Tryz.underlying5
 a5:=Tryz.isAgg5
 z5:=Tryz.sizeOf5
 v5:=Tryz.zeroValue5
 t9:=Tryz.underlying9
 a9:=Tryz.isAgg9
 z9:=Tryz.sizeOf9
 v9:=Tryz.zeroValue9
 t21:=Tryz.underlying21
 a21:=Tryz.isAgg21
 z21:=Tryz.sizeOf21
 v21:=Tryz.zeroValue21
 t46:=Tryz.underlying158
 a46:=Tryz.isAgg158
 z46:=Tryz.sizeOf158
 v46:=Tryz.zeroValue158
 t116:=Tryz.underlying168
 a116:=Tryz.isAgg168
 z116:=Tryz.sizeOf168
 t117:=Tryz.underlying169
 a117:=Tryz.isAgg169
 z117:=Tryz.sizeOf169
 v117:=Tryz.zeroValue169
 t124:=Tryz.underlying172
 a124:=Tryz.isAgg172
 z124:=Tryz.sizeOf172
 v124:=Tryz.zeroValue172 }
open Go.RowKit Go.Lib in
theorem Tryz.strings_IndexAny_long (hv116:∀ w,(zeroValue 168).run Tryz.prog w=.ok (.agg (Array.replicate 256 (.bool false))) w) (s chars:ByteArray) (w:World) (h2:2≤chars.size) (h8:8<s.size) (hs:s.size<4294967281) (hcs:chars.size<4294967281) (hascii:∀ (j:Nat) b,chars.data.toList[j]?=some b→b.toNat<128) :
  Calls Tryz.prog 134 #[.string s,.string chars] w fun e w'=>e=.returned (.int .i64 (Lib.indexAny s.data.toList chars.data.toList))∧w'=((w.alloc (.cells (Lib.setCells chars.data.toList) 168)).alloc (.cells (Lib.setCells chars.data.toList) 168)):=Any.strings_IndexAny_long zhB hv116 (by kernel_rfl) s chars w h2 h8 hs hcs hascii
def zfo:Go.Shelf.Ren:=⟨fun | 105=>54 | 212=>81 | 99=>53 | 165=>82 | 166=>60 | 170=>83 | 169=>63 | 263=>111 | 264=>112 | 206=>80 | 240=>87 | 241=>113 | 276=>116 | 277=>133 | n=>n,fun | 9=>9 | 3=>3 | 4=>4 | 20=>20 | 0=>0 | 46=>158 | 109=>159 | 5=>5 | 72=>123 | 76=>127 | 51=>188 | 146=>189 | 53=>191 | 148=>192 | 70=>120 | 37=>121 | 75=>125 | 127=>173 | 164=>195 | 80=>65 | n=>n,fun | n=>n⟩
theorem zj2:Go.Proofs.Lays.n105 Tryz.prog zfo:={
 mixed:=by kernel_rfl
 f99:=Tryz.func53.trans (congrArg some (by kernel_rfl))
 f105:=Tryz.func54.trans (congrArg some (by kernel_rfl))
 f165:=Tryz.func82.trans (congrArg some (by kernel_rfl))
 f166:=Tryz.func60.trans (congrArg some (by kernel_rfl))
 f169:=Tryz.func63.trans (congrArg some (by kernel_rfl))
 f170:=Tryz.func83.trans (congrArg some (by kernel_rfl))
 f206:=Tryz.func80.trans (congrArg some (by kernel_rfl))
 f212:=Tryz.func81.trans (congrArg some (by kernel_rfl))
 f240:=Tryz.func87.trans (congrArg some (by kernel_rfl))
 f241:=Tryz.func113.trans (congrArg some (by kernel_rfl))
 f263:=Tryz.func111.trans (congrArg some (by kernel_rfl))
 f264:=Tryz.func112.trans (congrArg some (by kernel_rfl))
 f276:=Tryz.func116.trans (congrArg some (by kernel_rfl))
 f277:=Tryz.func133.trans (congrArg some (by kernel_rfl))
 t0:=Tryz.underlying0
 a0:=Tryz.isAgg0
 z0:=Tryz.sizeOf0
 v0:=Tryz.zeroValue0
 t3:=Tryz.underlying3
 a3:=Tryz.isAgg3
 z3:=Tryz.sizeOf3
 v3:=Tryz.zeroValue3
 t4:=Tryz.underlying4
 a4:=Tryz.isAgg4
 z4:=Tryz.sizeOf4
 v4:=Tryz.zeroValue4
 t5:=Tryz.underlying5
 a5:=Tryz.isAgg5
 z5:=Tryz.sizeOf5
 v5:=Tryz.zeroValue5
 t9:=Tryz.underlying9
 a9:=Tryz.isAgg9
 z9:=Tryz.sizeOf9
 v9:=Tryz.zeroValue9
 t20:=Tryz.underlying20
 a20:=Tryz.isAgg20
 z20:=Tryz.sizeOf20
 v20:=Tryz.zeroValue20
 t37:=Tryz.underlying121
 a37:=Tryz.isAgg121
 z37:=Tryz.sizeOf121
 v37:=Tryz.zeroValue121
 t46:=Tryz.underlying158
 a46:=Tryz.isAgg158
 z46:=Tryz.sizeOf158
 v46:=Tryz.zeroValue158
 t51:=Tryz.underlying188
 a51:=Tryz.isAgg188
 z51:=Tryz.sizeOf188
 v51:=Tryz.zeroValue188
 t53:=Tryz.underlying191
 a53:=Tryz.isAgg191
 z53:=Tryz.sizeOf191
 v53:=Tryz.zeroValue191
 t70:=Tryz.underlying120
 a70:=Tryz.isAgg120
 z70:=Tryz.sizeOf120
 v70:=Tryz.zeroValue120
 t72:=Tryz.underlying123
 a72:=Tryz.isAgg123
 z72:=Tryz.sizeOf123
 v72:=Tryz.zeroValue123
 t75:=Tryz.underlying125
 a75:=Tryz.isAgg125
 z75:=Tryz.sizeOf125
 v75:=Tryz.zeroValue125
 t76:=Tryz.underlying127
 a76:=Tryz.isAgg127
 z76:=Tryz.sizeOf127
 v76:=Tryz.zeroValue127
 t109:=Tryz.underlying159
 a109:=Tryz.isAgg159
 z109:=Tryz.sizeOf159
 v109:=Tryz.zeroValue159
 t127:=Tryz.underlying173
 a127:=Tryz.isAgg173
 z127:=Tryz.sizeOf173
 v127:=Tryz.zeroValue173
 t146:=Tryz.underlying189
 a146:=Tryz.isAgg189
 z146:=Tryz.sizeOf189
 v146:=Tryz.zeroValue189
 t148:=Tryz.underlying192
 a148:=Tryz.isAgg192
 z148:=Tryz.sizeOf192
 v148:=Tryz.zeroValue192
 t164:=Tryz.underlying195
 a164:=Tryz.isAgg195
 z164:=Tryz.sizeOf195
 v164:=Tryz.zeroValue195 }
theorem zfu:Builder.Extra Tryz.prog zfo:={
 sizeBuilder:=by kernel_rfl
 liesBuilder:=by kernel_rfl
 t5:=Tryz.underlying5
 a5:=Tryz.isAgg5
 z5:=Tryz.sizeOf5
 v5:=Tryz.zeroValue5
 infoByte:=by kernel_rfl
 cellsByte:=by kernel_rfl
 sizeByte:=by kernel_rfl
 neB5:=by decide }
open Go.RowKit Go.Lib in
theorem Tryz.strings_Repeat (s:ByteArray) (c:Nat) (w:World) (hc:c≤9223372036854775807) (hlen:s.size*c≤140737488355328) :
  Calls Tryz.prog 54 #[.string s,.int .i64 c] w fun e w'=>e=.returned (.string ⟨(Lib.repeatL s.data.toList c).toArray⟩)∧Below w.heap.size w w':=Any.strings_Repeat zj2 zfu s c w hc hlen
end Go.Proofs

namespace Go.Proofs.YtbempdelckaccaaGreatDoor
open Go.RowKit Go.Lib Go.Shelf
set_option linter.unusedVariables false
set_option linter.unusedSimpArgs false
theorem zit {P:Program} {f:FuncId} {vs:List Value} {v:Value} (h:∀ w,Calls P f vs.toArray w fun e w'=>e=.returned v∧w'=w):FnP P f vs v:=fun w=>(h w).mono fun e w' ⟨h1,h2⟩=>⟨h1,h2 ▸ Below.refl _ _⟩
theorem zkf (s:ByteArray) (c:Int):FnP Tryz.prog 144 [.string s,.int .u8 c] (.int .i64 (Lib.indexByte s.data.toList c.toNat.toUInt8)):=zit fun w=>Tryz.strings_IndexByte s c w
theorem zk7 (r:Int):FnP Tryz.prog 145 [.int .i32 r] (.bool (Lib.validRune r)):=zit fun w=>Tryz.utf8_ValidRune r w
theorem znA (n:Int):FnP Tryz.prog 143 [.int .i64 n] (.bool (decide (8<n))):=zit fun w=>Tryz.strings_shouldUseASCIISet n w
def zdT (n:Int):ByteArray:=⟨(Lib.repeatL [32] n.toNat).toArray⟩
theorem zl1 (n:Int) (h:0≤n∧n≤140737488355328):FnP Tryz.prog 54 [.string ⟨#[32]⟩,.int .i64 n] (.string (zdT n)):=fun w=>by
 obtain ⟨c,rfl⟩:∃ c:Nat,n=c:=⟨n.toNat,by omega⟩
 have h1:(⟨#[32]⟩:ByteArray).size=1:=rfl
 exact Tryz.strings_Repeat ⟨#[32]⟩ c w (by omega) (by rw [h1,Nat.one_mul]; omega)
def zk8 (s:ByteArray):ByteArray:=⟨(Lib.trimS s.data.toList [32,9]).toArray⟩
theorem znu (s:ByteArray) (hs:s.size≤9223372036854775807):FnP Tryz.prog 78 [.string s,.string ⟨#[32,9]⟩] (.string (zk8 s)):=fun w =>
 Any.strings_Trim_laid zjZ (by kernel_rfl) s ⟨#[32,9]⟩ w hs (by decide) (ascii_of_all (by decide))
theorem zl8 (s:ByteArray) (h8:8<s.size) (hs:s.size<4294967281):FnP Tryz.prog 134 [.string s,.string ⟨#[13,10]⟩] (.int .i64 (Lib.indexAny s.data.toList [13,10])):=fun w=>by
 refine (Any.strings_IndexAny_long zhB (zero_of_info (n:=256) (by kernel_rfl)).1 (by kernel_rfl) s ⟨#[13,10]⟩ w (by decide) h8 hs (by decide) (ascii_of_all (by decide))).mono fun e w' ⟨h1,h2⟩=>⟨h1,?_⟩
 rw [h2]
 exact ((Below.refl _ _).alloc (Nat.le_refl _) _).alloc (by simp) _
end Go.Proofs.YtbempdelckaccaaGreatDoor

namespace Go.Proofs.YtbempdelckaccaaGreatDoor
open Go.RowKit Go.Lib
structure Tok where
 r:Nat
 bs:List UInt8
 deriving DecidableEq
def Tok.broken (t:Tok):Bool:=t.r==65533&&t.bs.length==1
def Tok.valid (t:Tok):Prop:=(t.r<55296∨(57343<t.r∧t.r≤1114111))∧t.bs=encodeRune t.r
def zly (ts:List Tok):List UInt8:=ts.flatMap Tok.bs
theorem zlx (t:Tok) (ts:List Tok):zly (t::ts)=t.bs++zly ts:=by simp [zly]
theorem zif (a b:List Tok):zly (a++b)=zly a++zly b:=by simp [zly]
def zn6 (b:UInt8):Bool:=b.toNat / 64==2
def zod:List UInt8→Prop
 | []=>True
 | b::_=>zn6 b=false
theorem ziV (r:Nat) (hv:r<55296∨(57343<r∧r≤1114111)) :
  (r≤127∧encodeRuneZ r=[(r:Int)])∨(128≤r∧r≤2047∧encodeRuneZ r=[192+(r:Int) / 64,128+(r:Int) % 64]) ∨
  (2048≤r∧r≤65535∧encodeRuneZ r=[224+(r:Int) / 4096,128+(r:Int) / 64 % 64,128+(r:Int) % 64]) ∨
  (65536≤r∧r≤1114111∧encodeRuneZ r=[240+(r:Int) / 262144,128+(r:Int) / 4096 % 64,128+(r:Int) / 64 % 64,128+(r:Int) % 64]):=by
 by_cases h1:r≤127
 ·exact .inl ⟨h1,encodeRuneZ_one (by omega) (by omega)⟩
 ·by_cases h2:r≤2047
  ·exact .inr (.inl ⟨by omega,h2,encodeRuneZ_two (by omega) (by omega)⟩)
  ·by_cases h3:r≤65535
   ·exact .inr (.inr (.inl ⟨by omega,h3,encodeRuneZ_three (by omega)⟩))
   ·exact .inr (.inr (.inr ⟨by omega,by omega,encodeRuneZ_four (by omega) (by omega)⟩))
theorem zhO (z:Int) (_h0:0≤z) (h1:z<256):(z.toNat.toUInt8).toNat=z.toNat:=by
 simp; omega
theorem zl0 (r:Nat) (hv:r<55296∨(57343<r∧r≤1114111)) (x:List UInt8):zod (encodeRune r++x):=by
 rcases ziV r hv with ⟨h,e⟩ | ⟨h,h',e⟩ | ⟨h,h',e⟩ | ⟨h,h',e⟩ <;>
 ·simp only [encodeRune,e,List.map_cons,List.map_nil,List.cons_append,zod,zn6,beq_eq_false_iff_ne,ne_eq]
  rw [zhO _ (by omega) (by omega)]
  omega
theorem zh2 {vs:List Tok} (hne:vs≠[]) (h:∀ t∈vs,t.valid) (x:List UInt8):zod (zly vs++x):=by
 cases vs with
 | nil=>exact absurd rfl hne
 | cons t vs =>
  have:=h t (List.mem_cons_self ..)
  rw [zlx,List.append_assoc,this.2]
  exact zl0 t.r this.1 _
inductive Sub:List Tok→List Tok→Prop
 | nil:Sub [] []
 | brk {b:Tok} {ts us:List Tok}:b.broken=true→Sub ts us→Sub (b::ts) (b::us)
 | val {gs vs ts us:List Tok}:gs≠[]→vs≠[]→(∀ t∈gs,t.valid)→(∀ t∈vs,t.valid)→Sub ts us→Sub (gs++ts) (vs++us)
theorem Sub.one {t:Tok} {vs ts us:List Tok} (ht:t.valid) (hn:vs≠[]) (hv:∀ t∈vs,t.valid) (h:Sub ts us):Sub (t::ts) (vs++us) :=
 Sub.val (gs:=[t]) (by simp) hn (by simpa using ht) hv h
theorem Sub.head {ts us:List Tok} (h:Sub ts us):∃ B ts' us',(∀ b∈B,b.broken=true)∧ts=B++ts'∧us=B++us'∧zod (zly ts')∧zod (zly us'):=by
 induction h with
 | nil=>exact ⟨[],[],[],by simp,rfl,rfl,trivial,trivial⟩
 | brk hb _ ih =>
  obtain ⟨B,ts',us',h1,rfl,rfl,h4,h5⟩:=ih
  exact ⟨_::B,ts',us',by simpa [hb] using h1,rfl,rfl,h4,h5⟩
 | @val gs vs ts us h1 h2 h3 h4 _ ih =>
  exact ⟨[],gs++ts,vs++us,by simp,rfl,rfl,by rw [zif]; exact zh2 h1 h3 _,by rw [zif]; exact zh2 h2 h4 _⟩
def place:Nat→List Tok→List Pc
 | _,[]=>[]
 | i,t::ts=>⟨i,t.bs.length,t.r⟩::place (i+t.bs.length) ts
end Go.Proofs.YtbempdelckaccaaGreatDoor

namespace Go.Proofs.YtbempdelckaccaaGreatDoor
open Go.RowKit Go.Lib
set_option linter.unusedVariables false
set_option linter.unusedSimpArgs false
section
variable {R S:Type} {c:Prop} [Decidable c] {o x z:Option R} {p:Option S} {f:S→Option R} {b:Bool} {y:Option R}
theorem zoj (h:c) (ho:o=x):grd c o=x:=(zmQ h).trans ho
theorem ziy {a:S} (h:p=some a) (hf:f a=x):zar p f=x:=(zml h).trans hf
theorem zfm (hb:b=true) (h:x=z):zav b x y=z:=(zm8 hb).trans h
theorem ze2 (hb:b=false) (h:y=z):zav b x y=z:=(zm9 hb).trans h
theorem zlq {T:Type} {t:T→Option R} {k:T} (h:t k=x):zbp t k=x:=h
theorem zlv (k:Nat) (h:k≤1000):∃ n,zcN=n+k∧18446744073709550000≤n:=⟨18446744073709551616 - k,by unfold zcN; omega,by omega⟩
end
def vr (r:Int):Prop:=(0≤r∧r<55296)∨(57343<r∧r≤1114111)
instance (r:Int):Decidable (vr r):=by unfold vr; infer_instance
def wd (r:Int):Int:=if vr r then (if r<128 then 1 else if r<2048 then 2 else if r<65536 then 3 else 4) else 0
theorem u8w (x:Int) (h:0≤x∧x≤255):IntKind.u8.wrap x=x:=IntWalk.u8_in x h
end Go.Proofs.YtbempdelckaccaaGreatDoor

namespace Go.Proofs.YtbempdelckaccaaGreatDoor
open Go.RowKit Go.Lib
set_option linter.unusedVariables false
set_option linter.unusedSimpArgs false
section
variable {R X A B:Type} {xs:List X}
end
end Go.Proofs.YtbempdelckaccaaGreatDoor

namespace Go.Proofs.YtbempdelckaccaaGreatDoor
open Go.RowKit Go.Lib
def Br (w:World) (base:Nat) (e:TypeId) (v:Value) (b:ByteArray):Prop:=w.ownsRow base e 1 v b.size (strCells b)
theorem Br.nil (w:World) (base:Nat) (e:TypeId):Br w base e (.slice none 0 0) ⟨#[]⟩:=World.ownsRow_nil w base e 1
theorem Br.below {w w':World} {base:Nat} {e:TypeId} {v:Value} {b:ByteArray} (h:Br w base e v b) (hb:Below w.heap.size w w'):Br w' base e v b:=by
 refine ⟨h.1,?_⟩
 rcases h.2 with hn | ⟨g,cap,cur,rfl,h2,h3,rest⟩
 ·exact .inl hn
 ·exact .inr ⟨g,cap,cur,rfl,h2,zlb h3 hb,rest⟩
theorem Br.lt {w:World} {base:Nat} {e:TypeId} {v:Value} {b:ByteArray} (h:Br w base e v b):∀ k,v.ownBlock=some k→base≤k∧k<w.heap.size:=World.ownsRow.lt h
theorem Br.conv {P:Program} {w:World} {base:Nat} {el:TypeId} {v:Value} {b:ByteArray} (h:Br w base el v b) (src dst e:TypeId) (hs:P.underlying src=some (.slice e)) (he:P.underlying e=some (.int .u8)) (hd:P.underlying dst=some .string) :
  (convert src dst v).run P w=.ok (.string b) w:=by
 rcases h.2 with ⟨rfl,h2⟩ | ⟨g,cap,cur,rfl,_,_,_⟩
 ·have hb:b=⟨#[]⟩:=by
   apply ByteArray.ext; exact Array.eq_empty_of_size_eq_zero h2
  rw [hb]; exact run_convert_nil_bytes w src dst e 0 hs he hd
 ·have hl:b.data.toList.length=b.size:=by rw [Array.length_toList]; rfl
  have:=run_convert_bytes_back (P:=P) w src dst e ⟨g,0,none⟩ cap b.data.toList hs he hd (fun j hj=>by
   refine World.ownsRow.cells h rfl j _ ?_
   unfold strCells; rw [List.getElem?_map,List.getElem?_eq_getElem hj]; rfl)
  rw [hl] at this
  rw [this]
end Go.Proofs.YtbempdelckaccaaGreatDoor

namespace Go.Proofs.YtbempdelckaccaaGreatDoor
open Go.RowKit Go.Lib Go.Shelf
attribute [local go_sem] Oper.semAt_some
set_option linter.unusedVariables false
set_option linter.unusedSimpArgs false
theorem zn7:(Tryz.prog.info? 5).map (fun i=>(i.zero,i.size,i.bytes))=some (some (.int .u8 0),1,1):=by kernel_rfl
theorem zn8:∃ j,Tryz.prog.info? 123=some j∧j.size≠0:=by
 have h:(Tryz.prog.info? 123).map (fun j=>decide (j.size≠0))=some true:=by kernel_rfl
 cases hj:Tryz.prog.info? 123 with
 | none=>rw [hj] at h; simp at h
 | some j=>rw [hj] at h; exact ⟨j,rfl,by simpa using h⟩
theorem zlI (b:Nat) (v:Value) (w:World) (h:w.heap[b]?=some (.cells #[.pointer none,v] 123 (0,0))) :
  Calls Tryz.prog 87 #[.pointer (some ⟨b,0,none⟩)] w fun e w'=>e=.returned (.tuple #[])∧w'=w.setCell ⟨b,0,none⟩ (.pointer (some ⟨b,0,none⟩)):=by
 have c0:w.cell? ⟨b,0,none⟩=some (.pointer none):=zdP h rfl
 have f0:=zjR h 0
 have hsh:w.shape? b=some (123,2):=by simp [World.shape?,h]
 obtain ⟨j,hj,hjs⟩:=zn8
 clear h
 go_enter Tryz.func87,Tryz.ntmps87
 go_wp2
 rw [Lib.run_to_unsafe w ⟨b,0,none⟩ (t:=123) (by kernel_rfl) (by kernel_rfl) hj hjs hsh (Nat.zero_lt_succ 1)]
 simp only [Result.andThen]
 rw [Oper.upon_value]
 go_wp2
 rw [run_callFunc_extern Tryz.func116 (by kernel_rfl) (by kernel_rfl) (by kernel_rfl) (e:=Extern.AbiNoEscape.same) (by kernel_rfl)]
 rw [Lib.run_noEscape]
 simp only [Result.andThen]
 rw [Oper.upon_value]
 go_wp2
 rw [Lib.run_from_unsafe w ⟨b,0,none⟩ (u:=123) (by kernel_rfl) (by kernel_rfl) hj hsh (by kernel_rfl)]
 simp only [Result.andThen]
 rw [Oper.upon_value]
 go_wp2
 go_end0
 exact ⟨rfl,rfl⟩
theorem zk3 (b:Nat) (v:Value) (w:World) (h:w.heap[b]?=some (.cells #[.pointer (some ⟨b,0,none⟩),v] 123 (0,0))) :
  Calls Tryz.prog 87 #[.pointer (some ⟨b,0,none⟩)] w fun e w'=>e=.returned (.tuple #[])∧w'=w:=by
 have c0:w.cell? ⟨b,0,none⟩=some (.pointer (some ⟨b,0,none⟩)):=zdP h rfl
 obtain ⟨j,hj,hjs⟩:=zn8
 clear h
 go_enter Tryz.func87,Tryz.ntmps87
 go_wp2
 rw [Lib.run_neq_ptr_same w _ (te:=123) (by kernel_rfl) hj]
 go_wp2
 go_end0
 exact ⟨rfl,rfl⟩
def Bld (b:Nat) (bs:ByteArray) (C:Nat→Prop) (w:World):Prop :=
 ∃ p v D,w.heap[b]?=some (.cells #[p,v] 123 (0,0))∧(p=.pointer none∨p=.pointer (some ⟨b,0,none⟩))∧Byt 5 v bs D w∧¬ D b∧C=(fun k=>k=b∨D k)
theorem Bld.local {b:Nat} {bs:ByteArray} {C:Nat→Prop} {w w':World} (h:Bld b bs C w) (hk:∀ k,C k→w'.heap[k]?=w.heap[k]?):Bld b bs C w':=by
 obtain ⟨p,v,D,h1,h2,h3,h4,rfl⟩:=h
 exact ⟨p,v,D,(hk b (.inl rfl)).trans h1,h2,h3.local (fun k h=>hk k (.inr h)),h4,rfl⟩
theorem Bld.lt {b:Nat} {bs:ByteArray} {C:Nat→Prop} {w:World} (h:Bld b bs C w):∀ k,C k→k<w.heap.size:=by
 obtain ⟨p,v,D,h1,h2,h3,h4,rfl⟩:=h
 rintro k (rfl | hk)
 ·exact zbL h1
 ·exact h3.lt k hk
theorem Bld.ext {b:Nat} {bs:ByteArray} {C D D':Nat→Prop} {w w':World} (h:Bld b bs C w) (hx:Ext D D' w w') (hd:∀ k,C k→¬ D k):Bld b bs C w' :=
 h.local (fun k hk=>hx.1.keep k (h.lt k hk) (hd k hk))
theorem zh0 (b:Nat) (bs s:ByteArray) (C:Nat→Prop) (w:World) (h:Bld b bs C w) (hn:bs.size+s.size≤140737488355328) :
  Calls Tryz.prog 60 #[.pointer (some ⟨b,0,none⟩),.string s] w fun e w'=>(∃ u,e=.returned u)∧∃ C',Bld b (bs++s) C' w'∧Ext C C' w w':=by
 obtain ⟨p,v,D,hbk,hp,hbr,hne,rfl⟩:=h
 obtain ⟨ip,hpi,hpz,hps,hpb⟩:=info_parts zn7
 obtain ⟨w1,hck,hb1,hbr1,hx1⟩:∃ w1,(Calls Tryz.prog 87 #[.pointer (some ⟨b,0,none⟩)] w fun e w'=>e=.returned (.tuple #[])∧w'=w1) ∧
   w1.heap[b]?=some (.cells #[.pointer (some ⟨b,0,none⟩),v] 123 (0,0))∧Byt 5 v bs D w1∧Ext (fun k=>k=b∨D k) (fun k=>k=b∨D k) w w1:=by
  rcases hp with rfl | rfl
  ·have hx:Ext (fun k=>k=b) (fun k=>k=b) w (w.setCell ⟨b,0,none⟩ (.pointer (some ⟨b,0,none⟩))):=Ext.setCell (C':=fun k=>k=b) (Ext.refl _ _) (p:=⟨b,0,none⟩) rfl _
   refine ⟨_,zlI b v w hbk,?_,hbr.ext hx (by rintro k hk rfl; exact hne hk),Ext.setCell (C':=fun k=>k=b∨D k) (Ext.refl _ _) (p:=⟨b,0,none⟩) (.inl rfl) _⟩
   simp [World.setCell,Array.getElem?_modify,hbk]
  ·exact ⟨w,zk3 b v w hbk,hbk,hbr,Ext.refl _ _⟩
 have c1:w1.cell? ⟨b,1,none⟩=some v:=zdP hb1 rfl
 have hlt:b<w1.heap.size:=zbL hb1
 have Hbk:=Lib.hid hbk; have Hbr:=Lib.hid hbr; have Hx1:=Lib.hid hx1
 clear hbk hbr hx1
 go_enter Tryz.func60,Tryz.ntmps60
 go_wp2_with (first | (go_at_call 87; refine hck.mono ?_; rintro e w' ⟨rfl,rfl⟩) | (refine zgY _ rfl _ _ _ _ rfl 5 _ (by kernel_rfl) (by kernel_rfl) hpi hpz hps hpb _ _ _ rfl hbr1 _ rfl hn ?_))
 rintro v' w2 D' hr2 hx2
 have hb2:w2.heap[b]?=some (.cells #[.pointer (some ⟨b,0,none⟩),v] 123 (0,0)):=(hx2.1.keep b hlt hne).trans hb1
 have f1:=zjR hb2 1
 have d1:w2.cell? ⟨b,1,none⟩=some v:=zdP hb2 rfl
 have hne':¬ D' b:=hx2.not hlt hne
 obtain ⟨ao,n',cap',rfl⟩:∃ ao n' cap',v'=.slice ao n' cap':=by
  rcases hr2.shape with ⟨rfl,_⟩ | ⟨g,cap,cur,rfl,_⟩ <;> exact ⟨_,_,_,rfl⟩
 have Hr2:=Lib.hid hr2; have Hx2:=Lib.hid hx2; have Hb2:=Lib.hid hb2
 clear hr2 hx2 hb2
 go_wp2
 go_ret2
 have hx3:Ext (fun k=>k=b∨D' k) (fun k=>k=b∨D' k) w2 (w2.setCell ⟨b,1,none⟩ (.slice ao n' cap')):=Ext.setCell (C':=fun k=>k=b∨D' k) (Ext.refl _ _) (p:=⟨b,1,none⟩) (.inl rfl) _
 have hx3':Ext (fun k=>k=b) (fun k=>k=b) w2 (w2.setCell ⟨b,1,none⟩ (.slice ao n' cap')):=Ext.setCell (C':=fun k=>k=b) (Ext.refl _ _) (p:=⟨b,1,none⟩) rfl _
 refine ⟨⟨_,rfl⟩,fun k=>k=b∨D' k,⟨_,_,D',?_,.inr rfl,Hr2.out.ext hx3' (by rintro k hk rfl; exact hne' hk),hne',rfl⟩,?_⟩
 ·simp [World.setCell,Array.getElem?_modify,Hb2.out]
 ·refine (Hx1.out.trans ?_).trans hx3
  exact ⟨Hx2.out.1.weaken (fun k _ h=>.inr h),fun k hk=>by
   rcases hk with rfl | hk
   ·exact .inl (.inl rfl)
   ·exact (Hx2.out.2 k hk).imp .inr id⟩
theorem zkZ {C C':Nat→Prop} {a w:World} (h:Ext C C' a w) {g:Nat} (hg:C' g) (m:Nat):Ext C C' a (w.freeze ⟨g,0,none⟩ m):=by
 unfold World.freeze
 split
 ·exact h
 ·have hs:∀ f:Obj→Obj,({ w with heap:=w.heap.modify g f }:World).heap.size=w.heap.size:=fun f=>by simp
  refine ⟨⟨h.1.os,h.1.tape,h.1.output,by simpa using h.1.size,fun k hk hn => ?_⟩,fun k hk=>by simpa using h.2 k hk⟩
  rw [Array.getElem?_modify]
  rw [if_neg]
  ·exact h.1.keep k hk hn
  ·intro e
   have e':g=k:=e
   subst e'
   rcases h.2 _ hg with h' | h'
   ·exact hn h'
   ·omega
theorem zkn (b:Nat) (bs:ByteArray) (C:Nat→Prop) (w:World) (h:Bld b bs C w) :
  Calls Tryz.prog 63 #[.pointer (some ⟨b,0,none⟩)] w fun e w'=>e=.returned (.string bs)∧Ext C C w w':=by
 obtain ⟨p,v,D,hbk,hp,hbr,hne,rfl⟩:=h
 rcases hbr.shape with ⟨rfl,rfl,rfl⟩ | ⟨g,cap,cur,rfl,hgl,hbc,hcm,rfl,hg⟩
 ·have c1:w.drew.cell? ⟨b,1,none⟩=some (.slice none 0 0):=zdP (w:=w.drew) hbk rfl
  have hSD:(Builtin.unsafeSliceData_ #[121] 173 #[.slice none 0 0]).run Tryz.prog w.drew=.ok (.pointer none) w.drew:=rfl
  have hUS:∀ W q,(Builtin.unsafeString_ #[173,3] 9 #[.pointer q,.int .i64 0]).run Tryz.prog W=.ok (.string .empty) W:=fun W q=>Lib.run_unsafeString_none W _ _ _ q
  clear hbk hbr
  go_enter Tryz.func63,Tryz.ntmps63
  go_wp2
  go_region
  all_goals (go_wp2; go_ret; exact ⟨rfl,(Ext.refl _ _).drew⟩)
 ·by_cases h0:bs.size=0
  ·have hbs:bs=⟨#[]⟩:=by apply ByteArray.ext; exact Array.eq_empty_of_size_eq_zero h0
   subst hbs
   have h00:(⟨#[]⟩:ByteArray).size=0:=rfl
   rw [h00] at hbk hbr
   have hUS:∀ W q,(Builtin.unsafeString_ #[173,3] 9 #[.pointer q,.int .i64 0]).run Tryz.prog W=.ok (.string .empty) W:=fun W q=>Lib.run_unsafeString_none W _ _ _ q
   have c1:w.drew.cell? ⟨b,1,none⟩=some (.slice (some ⟨g,0,none⟩) 0 cap):=zdP (w:=w.drew) hbk rfl
   by_cases hc0:cap=0
   ·subst hc0
    have hSD:(Builtin.unsafeSliceData_ #[121] 173 #[.slice (some ⟨g,0,none⟩) 0 0]).run Tryz.prog w.drew=.ok (.pointer (some ⟨w.drew.heap.size,0,none⟩)) (w.drew.alloc (.view ⟨g,0,none⟩ 5)) :=
     Lib.run_unsafeSliceData_zero w.drew _ _ 5 (by kernel_rfl) ⟨g,0,none⟩ 0 (5,cur.size) (by have hg':w.drew.heap[g]?=some (.cells cur 5 (0,0)):=hg; simp [World.shape?,hg'])
    have hlt:=zbL hbk
    have c2:(w.drew.alloc (.view ⟨g,0,none⟩ 5)).cell? ⟨b,1,none⟩=some (.slice (some ⟨g,0,none⟩) 0 0):=zdP (w:=w.drew.alloc _) ((Below.heap_alloc w.drew _ b hlt).trans hbk) rfl
    have c3:(w.alloc (.view ⟨g,0,none⟩ 5)).drew.cell? ⟨b,1,none⟩=some (.slice (some ⟨g,0,none⟩) 0 0):=c2
    have c0:w.cell? ⟨b,1,none⟩=some (.slice (some ⟨g,0,none⟩) 0 0):=c1
    clear hbk hbr hg
    go_enter Tryz.func63,Tryz.ntmps63
    go_wp2
    go_region
    all_goals (go_wp2; go_ret; exact ⟨rfl,(Ext.refl _ _).drew.alloc _⟩)
   ·have hSD:(Builtin.unsafeSliceData_ #[121] 173 #[.slice (some ⟨g,0,none⟩) 0 cap]).run Tryz.prog w.drew=.ok (.pointer (some ⟨g,0,none⟩)) w.drew:=Lib.run_unsafeSliceData_row _ _ _ _ _ _ hc0
    clear hbk hbr hg hc0
    go_enter Tryz.func63,Tryz.ntmps63
    go_wp2
    go_region
    all_goals (go_wp2; go_ret; exact ⟨rfl,(Ext.refl _ _).drew⟩)
  ·obtain ⟨l,hl⟩:∃ l,l=bs.data.toList:=⟨_,rfl⟩
   have hll:l.length=bs.size:=by rw [hl,Array.length_toList]; rfl
   have hbs:bs=⟨l.toArray⟩:=by rw [hl]
   have hl0:l≠[]:=by intro e; rw [e] at hll; exact h0 hll.symm
   rw [← hll] at hbk hbc hbr
   have c1:w.drew.cell? ⟨b,1,none⟩=some (.slice (some ⟨g,0,none⟩) l.length cap):=zdP (w:=w.drew) hbk rfl
   have hSD:(Builtin.unsafeSliceData_ #[121] 173 #[.slice (some ⟨g,0,none⟩) l.length cap]).run Tryz.prog w.drew=.ok (.pointer (some ⟨g,0,none⟩)) w.drew :=
    Lib.run_unsafeSliceData_row _ _ _ _ _ _ (by omega)
   have hcs:cur.size=cap*1:=by
    rcases hbr.1.2 with ⟨h1,_⟩ | ⟨g',cap',cur',h1,_,h3,_,_,h6,_⟩
    ·cases h1
    ·have e1:g=g':=by injection h1 with q1 q2 q3; injection q1 with q1; injection q1
     have e2:cap=cap':=by injection h1
     subst e1; subst e2
     rw [hg] at h3; injection h3 with h3; injection h3 with h3
     rw [h3]; exact h6
   have hUS:(Builtin.unsafeString_ #[173,3] 9 #[.pointer (some ⟨g,0,none⟩),.int .i64 l.length]).run Tryz.prog w.drew=.ok (.string ⟨l.toArray⟩) (w.drew.freeze ⟨g,0,none⟩ l.length):=by
    refine Lib.run_unsafeString_row w.drew 173 3 9 5 (by kernel_rfl) (by kernel_rfl) g cur.size (by have hg':w.drew.heap[g]?=some (.cells cur 5 (0,0)):=hg; simp [World.shape?,hg']) l hl0 (by omega) (by unfold maxLen at hcm; omega) ?_
    intro j x hx
    refine World.ownsRow.cells hbr.1 (g:=g) rfl j (.int .u8 x.toNat) ?_
    unfold strCells
    rw [List.getElem?_map,← hl,hx]; rfl
   rw [hbs]
   have hx:Ext (fun k=>k=b∨k=g) (fun k=>k=b∨k=g) w (w.drew.freeze ⟨g,0,none⟩ l.length):=zkZ ((Ext.refl _ _).drew) (.inr rfl) _
   have Hx:=Lib.hid hx
   clear hbk hbr hg hx hbs hll hcs
   clear hl
   go_enter Tryz.func63,Tryz.ntmps63
   go_wp2
   go_region
   all_goals (go_wp2; go_ret; exact ⟨rfl,Hx.out⟩)
end Go.Proofs.YtbempdelckaccaaGreatDoor

namespace Go.Proofs.YtbempdelckaccaaGreatDoor
open Go.RowKit Go.Lib Go.Shelf
attribute [local go_sem] Oper.semAt_some
set_option linter.unusedVariables false
set_option linter.unusedSimpArgs false
theorem Bld.drew {b:Nat} {bs:ByteArray} {C:Nat→Prop} {w:World} (h:Bld b bs C w):Bld b bs C w.drew:=h.local (fun _ _=>rfl)
def ziZ (b:Nat) (bs:ByteArray):Asn:=⟨fun C w=>Bld b bs C w,fun h=>h.lt,fun h _ hk=>h.local hk⟩
theorem zi8 (b:Nat) (bs s:ByteArray) (hn:bs.size+s.size≤140737488355328):Fn Tryz.prog 60 [.pointer (some ⟨b,0,none⟩),.string s] [ziZ b bs] (fun u:Value=>u) (fun _=>[ziZ b (bs++s)]):=by
 intro w C hA
 refine (zh0 b bs s C w (sepL.one1.1 hA) hn).mono ?_
 rintro e w' ⟨⟨u,rfl⟩,C',h1,h2⟩
 exact ⟨u,rfl,C',sepL.one1.2 h1,h2⟩
theorem zko (b:Nat) (bs:ByteArray):Fn Tryz.prog 63 [.pointer (some ⟨b,0,none⟩)] [ziZ b bs] (fun _:Unit=>.string bs) (fun _=>[]):=by
 intro w C hA
 refine (zkn b bs C w (sepL.one1.1 hA)).mono ?_
 rintro e w' ⟨rfl,h2⟩
 exact ⟨(),rfl,fun _=>False,fun _ h=>h,h2.1,fun k hk=>hk.elim⟩
theorem zho {b:Nat}:Ent (cells b [.pointer none,.slice none 0 0] 123) (ziZ b ⟨#[]⟩):=by
 intro C w h
 have hC:C=fun k=>k=b:=funext fun k=>propext (h.1 k)
 subst hC
 exact ⟨_,_,_,h.2,.inl rfl,Byt.nil,by simp,by funext k; simp⟩
end Go.Proofs.YtbempdelckaccaaGreatDoor

namespace Go.Proofs.YtbempdelckaccaaGreatDoor
open Go.RowKit Go.Lib Go.Shelf
set_option linter.unusedVariables false
set_option linter.unusedSimpArgs false
theorem zmk (b:Nat) (bs:ByteArray) (C:Nat→Prop) (w:World) (h:Bld b bs C w) :
  Calls Tryz.prog 83 #[.pointer (some ⟨b,0,none⟩)] w fun e w'=>e=.returned (.int .i64 (bs.size:Int))∧w=w':=by
 obtain ⟨p,v,D,hbk,hp,hbr,hne,rfl⟩:=h
 rcases hbr.shape with ⟨rfl,rfl,rfl⟩ | ⟨g,cap,cur,rfl,hgl,hbc,hcm,rfl,hg⟩
 ·have c1:w.cell? ⟨b,1,none⟩=some (.slice none 0 0):=zdP hbk rfl
  clear hbk hbr
  go_enter Tryz.func83,Tryz.ntmps83
  go_wp2
  go_ret
  exact ⟨rfl,rfl⟩
 ·have c1:w.cell? ⟨b,1,none⟩=some (.slice (some ⟨g,0,none⟩) bs.size cap):=zdP hbk rfl
  clear hbk hbr
  go_enter Tryz.func83,Tryz.ntmps83
  go_wp2
  go_ret
  exact ⟨rfl,rfl⟩
theorem zm6 (b:Nat) (bs:ByteArray):Fn Tryz.prog 83 [.pointer (some ⟨b,0,none⟩)] [ziZ b bs] (fun _:Unit=>.int .i64 (bs.size:Int)) (fun _=>[ziZ b bs]):=by
 intro w C hA
 refine (zmk b bs C w (sepL.one1.1 hA)).mono ?_
 rintro e w' ⟨rfl,rfl⟩
 exact ⟨(),rfl,C,hA,Ext.refl _ _⟩
end Go.Proofs.YtbempdelckaccaaGreatDoor

namespace Go.Proofs.YtbempdelckaccaaGreatDoor
open Go.RowKit Go.Lib
set_option linter.unusedVariables false
set_option linter.unusedSimpArgs false
section
variable {F:Fence} {P:Program} {w0:World} {K:Nat→Prop} {N:Nat} {dfs:List Deferred} {ops:Array Oper} {Q:Exit→Act→World→Prop} {rest:List Oper} {σ:List (Nat×Value)} {L RD:List Asn}
 {d:Nat} {ty:TypeId} {pos:String} {aft:Array Edge} {g:Option (Nat×Bool)} {s x:Operand} {t e e2:TypeId} {k k2 j size:Nat} {vv v2 v:Value} {α:Type} {enc:α→List Value} {xs ys Ls:List α}
theorem Vec.cut {C:Nat→Prop} {w:World} {q:Option Addr} {c n m:Nat} (hlen:∀ x,(enc x).length=size) (h:Vec enc e size (.slice q m c) xs C w) (hm:n≤m):Vec enc e size (.slice q n c) (xs.take n) C w:=by
 obtain ⟨⟨h1,h2⟩,rfl⟩:=h
 have hfl:=zgy hlen xs
 have hfn:=zgy hlen (xs.take n)
 rcases h2 with ⟨h2,h3⟩ | ⟨gb,cap,cur,h2,h3,h4,h5,h6,h7,h8⟩
 ·cases h2
  have:xs=[]:=List.length_eq_zero_iff.1 h3
  subst this
  obtain rfl:n=0:=by omega
  exact ⟨⟨by simp,.inl ⟨rfl,by simp⟩⟩,rfl⟩
 ·cases h2
  have hnl:(xs.take n).length=n:=by rw [List.length_take]; omega
  refine ⟨⟨by rw [hfn],.inr ⟨gb,c,cur,by rw [hnl],h3,h4,by rw [hnl]; omega,h6,h7,?_⟩⟩,by funext k; simp [Value.ownBlock]⟩
  rw [hnl]
  have e1:(xs.take n).flatMap enc=(xs.flatMap enc).take (n*size):=by
   conv=>rhs; rw [← List.take_append_drop n xs,List.flatMap_append]
   rw [List.take_left' (by rw [hfn,hnl])]
  rw [e1,← h8,List.take_take,Nat.min_eq_left (Nat.mul_le_mul_right _ hm)]
end
end Go.Proofs.YtbempdelckaccaaGreatDoor

namespace Go.Proofs.YtbempdelckaccaaGreatDoor
open Go.RowKit Go.Lib
set_option linter.unusedVariables false
set_option linter.unusedSimpArgs false
end Go.Proofs.YtbempdelckaccaaGreatDoor

namespace Go.Proofs.YtbempdelckaccaaGreatDoor
open Go.RowKit Go.Lib Go.ChangeShapes Go.WideShapes
set_option linter.unusedVariables false
set_option linter.unusedSimpArgs false
theorem FnR.p {P:Program} {f:FuncId} {vs:List Value} {RD:List Asn} {v:Value} (h:FnR P f vs RD [] (fun _:Unit=>v) (fun _=>[])) (w:World) (hr:Rd w (fun _=>False) RD):Calls P f vs.toArray w fun e w'=>e=.returned v∧Below w.heap.size w w' :=
 (h w (fun _=>False) hr (fun _ h=>h)).mono fun e w' ⟨_,h1,C',h2,h3⟩=>⟨h1,h3.toBelow (Nat.le_refl _) (fun _ _ h=>h)⟩
section
variable {H:Type} {enc:TypeId×Value→H} {P:Program} {w:World} {base:Nat} {held:Bool} {zcN:Nat} {t e:TypeId} {cs:List Value} {x:DataW H×List MemPlace}
end
end Go.Proofs.YtbempdelckaccaaGreatDoor
