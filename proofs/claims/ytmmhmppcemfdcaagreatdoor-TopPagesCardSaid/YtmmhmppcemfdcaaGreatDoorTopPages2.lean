/-
  Texts laid together: Tab, Lt, Pcs, Tok, Ob, Vs, PcW, Cls, ClsW, ClsW2, SeqW, RefPcs, Runs, C0, Vow, RefW, RefW3, Bytes, Bld, Gr, Ro, Shf, Sf, Op, Ir, Rq, Lr, Bn, Word, WordP, Ar, Cr, Sh, Sy. Nothing is assumed.
-/
import Derived.Test.YtmmhmppcemfdcaaGreatDoorTopPages1
import Derived.Test.YtmmhmppcemfdcaaGreatDoorProg
import Derived.Shelf.Abstract
import Derived.Lib.AppendStr
import Derived.Laws.IdiomStrings
import Derived.Lib.BufferRead
import Derived.Lib.Builder
import Derived.Outline
import Derived.Lib.UnsafeStr
import Derived.Lib.MakeNoZero
import Derived.Shelf.Strings.Builder1
import Derived.Shelf.Strings.Builder2
import Derived.Shelf.Strings.Trim
import Derived.Shelf.Small.Utf8
import Derived.Shelf.Small.Strs
import Derived.Shelf.Strings.BuilderF
import Derived.Shelf.Strings.Search1
import Derived.Shelf.Strings.Prefix
import Derived.Shelf.Strings.Runes
import Derived.Shelf.Strings.IndexAny
import Derived.Shelf.Strings.AsciiSet
import Derived.Shelf.Strings.IndexAnyAll
import Derived.Shelf.Bits.Mul64
import Derived.Shelf.Strings.Repeat
import Derived.Shelf.Unicode.DecodeSlow
import Derived.Shelf.Strings.SlTrimAscii
import Derived.OpenShut
import Derived.SliceStrings
import Derived.ProofKit
set_option maxRecDepth 100000
set_option maxHeartbeats 4000000
namespace Go.Proofs.YtmmhmppcemfdcaaGreatDoor
open Go.RowKit Go.Lib
open Tryz
set_option linter.unusedVariables false
set_option linter.unusedSimpArgs false
section
open Go.Shelf
theorem zbW:zcl prog 3:=⟨_,underlying3,rfl⟩
theorem zeI:SizeOk prog 3 1:=by unfold SizeOk; as_aux_lemma=>kernel_rfl
theorem zyk:ZeroOk prog 3 [.int .i64 0]:=by unfold ZeroOk; as_aux_lemma=>kernel_rfl
theorem zxM:ElemOk prog 3 1:=ElemOk.mk' kr
theorem zlc:zcl prog 4:=⟨_,underlying4,rfl⟩
theorem zog:SizeOk prog 4 1:=by unfold SizeOk; as_aux_lemma=>kernel_rfl
theorem zBa:ZeroOk prog 4 [.bool false]:=by unfold ZeroOk; as_aux_lemma=>kernel_rfl
theorem zBm:zcl prog 5:=⟨_,underlying5,rfl⟩
theorem zBh:ByteOk prog 5:=ByteOk.mk' kr
theorem zhk:zcl prog 9:=⟨_,underlying9,rfl⟩
theorem zof:SizeOk prog 9 1:=by unfold SizeOk; as_aux_lemma=>kernel_rfl
theorem zBk:ZeroOk prog 9 [.string ByteArray.empty]:=by unfold ZeroOk; as_aux_lemma=>kernel_rfl
theorem zyc:ElemOk prog 9 1:=ElemOk.mk' kr
theorem zfY:zcl prog 21:=⟨_,underlying21,rfl⟩
theorem zl8:SizeOk prog 21 1:=by unfold SizeOk; as_aux_lemma=>kernel_rfl
theorem zxN:ElemOk prog 21 1:=ElemOk.mk' kr
theorem zjs:zh7 prog 23 4:=⟨_,underlying23,rfl,by as_aux_lemma=>kernel_rfl⟩
theorem zoG:zby prog 23 0 0:=⟨_,_,underlying23,rfl,rfl,by as_aux_lemma=>kernel_rfl⟩
theorem zoF:zby prog 23 1 1:=⟨_,_,underlying23,rfl,rfl,by as_aux_lemma=>kernel_rfl⟩
theorem zoE:zby prog 23 2 2:=⟨_,_,underlying23,rfl,rfl,by as_aux_lemma=>kernel_rfl⟩
theorem zoD:zby prog 23 3 3:=⟨_,_,underlying23,rfl,rfl,by as_aux_lemma=>kernel_rfl⟩
theorem zz5:SizeOk prog 23 4:=by unfold SizeOk; as_aux_lemma=>kernel_rfl
theorem zz0:ZeroOk prog 23 [.int .i64 0,.int .i64 0,.int .i64 0,.int .i64 0]:=by unfold ZeroOk; as_aux_lemma=>kernel_rfl
theorem zhS:zcl prog 24:=⟨_,underlying24,rfl⟩
theorem zs6:SizeOk prog 24 1:=by unfold SizeOk; as_aux_lemma=>kernel_rfl
theorem zxy:zby prog 26 0 0:=⟨_,_,underlying26,rfl,rfl,by as_aux_lemma=>kernel_rfl⟩
theorem zxx:zby prog 26 1 1:=⟨_,_,underlying26,rfl,rfl,by as_aux_lemma=>kernel_rfl⟩
theorem zxw:zby prog 26 2 5:=⟨_,_,underlying26,rfl,rfl,by as_aux_lemma=>kernel_rfl⟩
theorem zxv:zby prog 26 3 6:=⟨_,_,underlying26,rfl,rfl,by as_aux_lemma=>kernel_rfl⟩
theorem zyV:zcl prog 28:=⟨_,underlying28,rfl⟩
theorem zz7:zcl prog 29:=⟨_,underlying29,rfl⟩
theorem zto:zh7 prog 31 2:=⟨_,underlying31,rfl,by as_aux_lemma=>kernel_rfl⟩
theorem zxu:zby prog 31 0 0:=⟨_,_,underlying31,rfl,rfl,by as_aux_lemma=>kernel_rfl⟩
theorem zqe:SizeOk prog 31 2:=by unfold SizeOk; as_aux_lemma=>kernel_rfl
theorem zwP:ZeroOk prog 31 [.int .i64 0,.int .i64 0]:=by unfold ZeroOk; as_aux_lemma=>kernel_rfl
theorem zo1:zcl prog 37:=⟨_,underlying37,rfl⟩
theorem zyI:SizeOk prog 37 1:=by unfold SizeOk; as_aux_lemma=>kernel_rfl
theorem zA0:ElemOk prog 37 1:=ElemOk.mk' kr
theorem znd:zcl prog 38:=⟨_,underlying38,rfl⟩
theorem znb:SizeOk prog 38 1:=by unfold SizeOk; as_aux_lemma=>kernel_rfl
theorem zzZ:ZeroOk prog 38 [.slice none 0 0]:=by unfold ZeroOk; as_aux_lemma=>kernel_rfl
theorem zzD:ElemOk prog 38 1:=ElemOk.mk' kr
theorem zoo:zh7 prog 43 6:=⟨_,underlying43,rfl,by as_aux_lemma=>kernel_rfl⟩
theorem zfB:zby prog 43 0 0:=⟨_,_,underlying43,rfl,rfl,by as_aux_lemma=>kernel_rfl⟩
theorem zfA:zby prog 43 1 1:=⟨_,_,underlying43,rfl,rfl,by as_aux_lemma=>kernel_rfl⟩
theorem zkN:zby prog 43 2 2:=⟨_,_,underlying43,rfl,rfl,by as_aux_lemma=>kernel_rfl⟩
theorem zoC:zby prog 43 3 3:=⟨_,_,underlying43,rfl,rfl,by as_aux_lemma=>kernel_rfl⟩
theorem zxt:zby prog 43 4 4:=⟨_,_,underlying43,rfl,rfl,by as_aux_lemma=>kernel_rfl⟩
theorem zoB:zby prog 43 5 5:=⟨_,_,underlying43,rfl,rfl,by as_aux_lemma=>kernel_rfl⟩
theorem zjq:SizeOk prog 43 6:=by unfold SizeOk; as_aux_lemma=>kernel_rfl
theorem zr8:ZeroOk prog 43 [.int .i64 0,.int .i64 0,.int .i64 0,.int .i64 0,.int .i64 0,.string ByteArray.empty]:=by unfold ZeroOk; as_aux_lemma=>kernel_rfl
theorem zuf:ElemOk prog 43 6:=ElemOk.mk' kr
theorem zne:zh7 prog 48 2:=⟨_,underlying48,rfl,by as_aux_lemma=>kernel_rfl⟩
theorem zhb:zby prog 48 0 0:=⟨_,_,underlying48,rfl,rfl,by as_aux_lemma=>kernel_rfl⟩
theorem zdK:zby prog 48 1 1:=⟨_,_,underlying48,rfl,rfl,by as_aux_lemma=>kernel_rfl⟩
theorem zsf:SizeOk prog 48 2:=by unfold SizeOk; as_aux_lemma=>kernel_rfl
theorem zwO:ZeroOk prog 48 [.int .i64 0,.int .i64 0]:=by unfold ZeroOk; as_aux_lemma=>kernel_rfl
theorem zAZ:ElemOk prog 48 2:=ElemOk.mk' kr
theorem zo2:zh7 prog 50 6:=⟨_,underlying50,rfl,by as_aux_lemma=>kernel_rfl⟩
theorem ziN:zby prog 50 0 0:=⟨_,_,underlying50,rfl,rfl,by as_aux_lemma=>kernel_rfl⟩
theorem ziM:zby prog 50 1 1:=⟨_,_,underlying50,rfl,rfl,by as_aux_lemma=>kernel_rfl⟩
theorem ziL:zby prog 50 2 2:=⟨_,_,underlying50,rfl,rfl,by as_aux_lemma=>kernel_rfl⟩
theorem zjH:SizeOk prog 50 6:=by unfold SizeOk; as_aux_lemma=>kernel_rfl
theorem zoU:ZeroOk prog 50 [.string ByteArray.empty,.int .i64 0,.int .i64 0,.int .i64 0,.int .i64 0,.int .i64 0]:=by unfold ZeroOk; as_aux_lemma=>kernel_rfl
theorem zAY:ElemOk prog 50 6:=ElemOk.mk' kr
theorem zfN:zh7 prog 60 4:=⟨_,underlying60,rfl,by as_aux_lemma=>kernel_rfl⟩
theorem ze3:zby prog 60 0 0:=⟨_,_,underlying60,rfl,rfl,by as_aux_lemma=>kernel_rfl⟩
theorem zhZ:zby prog 60 1 1:=⟨_,_,underlying60,rfl,rfl,by as_aux_lemma=>kernel_rfl⟩
theorem zgo:zby prog 60 2 2:=⟨_,_,underlying60,rfl,rfl,by as_aux_lemma=>kernel_rfl⟩
theorem zqB:zby prog 60 3 3:=⟨_,_,underlying60,rfl,rfl,by as_aux_lemma=>kernel_rfl⟩
theorem zhE:SizeOk prog 60 4:=by unfold SizeOk; as_aux_lemma=>kernel_rfl
theorem zlt:ZeroOk prog 60 [.int .i64 0,.int .i64 0,.int .i32 0,.bool false]:=by unfold ZeroOk; as_aux_lemma=>kernel_rfl
theorem zjL:zcl prog 71:=⟨_,underlying71,rfl⟩
theorem zz4:SizeOk prog 71 1:=by unfold SizeOk; as_aux_lemma=>kernel_rfl
theorem zu7:zcl prog 72:=⟨_,underlying72,rfl⟩
theorem zz3:SizeOk prog 72 1:=by unfold SizeOk; as_aux_lemma=>kernel_rfl
theorem ziK:zby prog 74 0 0:=⟨_,_,underlying74,rfl,rfl,by as_aux_lemma=>kernel_rfl⟩
theorem zfT:zby prog 74 1 1:=⟨_,_,underlying74,rfl,rfl,by as_aux_lemma=>kernel_rfl⟩
theorem zmK:zby prog 74 2 2:=⟨_,_,underlying74,rfl,rfl,by as_aux_lemma=>kernel_rfl⟩
theorem zdr:zby prog 76 0 0:=⟨_,_,underlying76,rfl,rfl,by as_aux_lemma=>kernel_rfl⟩
theorem znc:zcl prog 83:=⟨_,underlying83,rfl⟩
theorem ziJ:zby prog 85 0 0:=⟨_,_,underlying85,rfl,rfl,by as_aux_lemma=>kernel_rfl⟩
theorem zoA:zby prog 85 1 1:=⟨_,_,underlying85,rfl,rfl,by as_aux_lemma=>kernel_rfl⟩
theorem zmJ:zby prog 85 2 2:=⟨_,_,underlying85,rfl,rfl,by as_aux_lemma=>kernel_rfl⟩
theorem zoz:zby prog 85 3 3:=⟨_,_,underlying85,rfl,rfl,by as_aux_lemma=>kernel_rfl⟩
theorem zt5:zby prog 85 4 4:=⟨_,_,underlying85,rfl,rfl,by as_aux_lemma=>kernel_rfl⟩
theorem zu6:zcl prog 87:=⟨_,underlying87,rfl⟩
theorem zz2:SizeOk prog 87 1:=by unfold SizeOk; as_aux_lemma=>kernel_rfl
theorem zmI:zby prog 89 1 4:=⟨_,_,underlying89,rfl,rfl,by as_aux_lemma=>kernel_rfl⟩
theorem zt4:zby prog 89 2 5:=⟨_,_,underlying89,rfl,rfl,by as_aux_lemma=>kernel_rfl⟩
theorem ztj:zcl prog 94:=⟨_,underlying94,rfl⟩
theorem zz1:SizeOk prog 94 1:=by unfold SizeOk; as_aux_lemma=>kernel_rfl
theorem zzY:ZeroOk prog 94 [.slice none 0 0]:=by unfold ZeroOk; as_aux_lemma=>kernel_rfl
theorem zyW:zcl prog 113:=⟨_,underlying113,rfl⟩
theorem zrl:zh7 prog 118 3:=⟨_,underlying118,rfl,by as_aux_lemma=>kernel_rfl⟩
theorem zgv:zby prog 118 0 0:=⟨_,_,underlying118,rfl,rfl,by as_aux_lemma=>kernel_rfl⟩
theorem zrJ:zby prog 118 1 1:=⟨_,_,underlying118,rfl,rfl,by as_aux_lemma=>kernel_rfl⟩
theorem zwc:SizeOk prog 118 3:=by unfold SizeOk; as_aux_lemma=>kernel_rfl
theorem zyu:ZeroOk prog 118 [.int .i64 0,.int .i64 0,.int .i64 0]:=by unfold ZeroOk; as_aux_lemma=>kernel_rfl
theorem zmd:zcl prog 120:=⟨_,underlying120,rfl⟩
theorem zwb:SizeOk prog 120 1:=by unfold SizeOk; as_aux_lemma=>kernel_rfl
theorem zyt:ZeroOk prog 120 [.slice none 0 0]:=by unfold ZeroOk; as_aux_lemma=>kernel_rfl
theorem zis:zcl prog 123:=⟨_,underlying123,rfl⟩
theorem zwa:SizeOk prog 123 1:=by unfold SizeOk; as_aux_lemma=>kernel_rfl
theorem zys:ZeroOk prog 123 [.slice none 0 0]:=by unfold ZeroOk; as_aux_lemma=>kernel_rfl
theorem ztm:zcl prog 125:=⟨_,underlying125,rfl⟩
theorem zvZ:SizeOk prog 125 1:=by unfold SizeOk; as_aux_lemma=>kernel_rfl
theorem zld:zcl prog 126:=⟨_,underlying126,rfl⟩
theorem zvY:SizeOk prog 126 1:=by unfold SizeOk; as_aux_lemma=>kernel_rfl
theorem zj6:zby prog 128 1 1:=⟨_,_,underlying128,rfl,rfl,by as_aux_lemma=>kernel_rfl⟩
theorem zgu:zby prog 128 2 2:=⟨_,_,underlying128,rfl,rfl,by as_aux_lemma=>kernel_rfl⟩
theorem zwi:zh7 prog 130 5:=⟨_,underlying130,rfl,by as_aux_lemma=>kernel_rfl⟩
theorem zrI:zby prog 130 0 0:=⟨_,_,underlying130,rfl,rfl,by as_aux_lemma=>kernel_rfl⟩
theorem zrH:zby prog 130 1 1:=⟨_,_,underlying130,rfl,rfl,by as_aux_lemma=>kernel_rfl⟩
theorem zlW:zby prog 130 2 2:=⟨_,_,underlying130,rfl,rfl,by as_aux_lemma=>kernel_rfl⟩
theorem zrG:zby prog 130 3 3:=⟨_,_,underlying130,rfl,rfl,by as_aux_lemma=>kernel_rfl⟩
theorem zoI:zby prog 130 4 4:=⟨_,_,underlying130,rfl,rfl,by as_aux_lemma=>kernel_rfl⟩
theorem zyM:SizeOk prog 130 5:=by unfold SizeOk; as_aux_lemma=>kernel_rfl
theorem zyr:ZeroOk prog 130 [.int .i64 0,.int .i64 0,.int .i64 0,.int .i64 0,.int .i64 0]:=by unfold ZeroOk; as_aux_lemma=>kernel_rfl
theorem zwC:ElemOk prog 130 5:=ElemOk.mk' kr
theorem zwh:zh7 prog 132 4:=⟨_,underlying132,rfl,by as_aux_lemma=>kernel_rfl⟩
theorem zlV:zby prog 132 0 0:=⟨_,_,underlying132,rfl,rfl,by as_aux_lemma=>kernel_rfl⟩
theorem zoH:zby prog 132 1 2:=⟨_,_,underlying132,rfl,rfl,by as_aux_lemma=>kernel_rfl⟩
theorem znD:SizeOk prog 132 4:=by unfold SizeOk; as_aux_lemma=>kernel_rfl
theorem zyp:ZeroOk prog 132 [.int .i64 0,.int .i64 0,.int .i64 0,.int .i64 0]:=by unfold ZeroOk; as_aux_lemma=>kernel_rfl
theorem zwB:ElemOk prog 132 4:=ElemOk.mk' kr
theorem zle:zh7 prog 137 3:=⟨_,underlying137,rfl,by as_aux_lemma=>kernel_rfl⟩
theorem zfK:zby prog 137 0 0:=⟨_,_,underlying137,rfl,rfl,by as_aux_lemma=>kernel_rfl⟩
theorem zf9:zby prog 137 1 1:=⟨_,_,underlying137,rfl,rfl,by as_aux_lemma=>kernel_rfl⟩
theorem zlU:zby prog 137 2 2:=⟨_,_,underlying137,rfl,rfl,by as_aux_lemma=>kernel_rfl⟩
theorem zdL:SizeOk prog 137 3:=by unfold SizeOk; as_aux_lemma=>kernel_rfl
theorem znt:ZeroOk prog 137 [.int .i64 0,.int .i64 0,.int .i64 0]:=by unfold ZeroOk; as_aux_lemma=>kernel_rfl
theorem zwA:ElemOk prog 137 3:=ElemOk.mk' kr
theorem zvQ:ZeroOk prog 146 [.pointer none,.slice none 0 0]:=by unfold ZeroOk; as_aux_lemma=>kernel_rfl
theorem zir:zcl prog 153:=⟨_,underlying153,rfl⟩
theorem zyL:SizeOk prog 153 1:=by unfold SizeOk; as_aux_lemma=>kernel_rfl
theorem zyo:ZeroOk prog 153 [.pointer none]:=by unfold ZeroOk; as_aux_lemma=>kernel_rfl
theorem zrF:zby prog 156 0 0:=⟨_,_,underlying156,rfl,rfl,by as_aux_lemma=>kernel_rfl⟩
theorem zgt:zby prog 156 1 1:=⟨_,_,underlying156,rfl,rfl,by as_aux_lemma=>kernel_rfl⟩
theorem zj5:zby prog 156 2 2:=⟨_,_,underlying156,rfl,rfl,by as_aux_lemma=>kernel_rfl⟩
theorem zj4:zby prog 156 3 3:=⟨_,_,underlying156,rfl,rfl,by as_aux_lemma=>kernel_rfl⟩
theorem zvw:zby prog 156 4 4:=⟨_,_,underlying156,rfl,rfl,by as_aux_lemma=>kernel_rfl⟩
theorem zvv:zby prog 156 5 5:=⟨_,_,underlying156,rfl,rfl,by as_aux_lemma=>kernel_rfl⟩
theorem zit:zh7 prog 158 3:=⟨_,underlying158,rfl,by as_aux_lemma=>kernel_rfl⟩
theorem zhr:zby prog 158 0 0:=⟨_,_,underlying158,rfl,rfl,by as_aux_lemma=>kernel_rfl⟩
theorem zj3:zby prog 158 1 2:=⟨_,_,underlying158,rfl,rfl,by as_aux_lemma=>kernel_rfl⟩
theorem zla:SizeOk prog 158 3:=by unfold SizeOk; as_aux_lemma=>kernel_rfl
theorem zsS:ZeroOk prog 158 [.int .i64 0,.int .i64 0,.int .i64 0]:=by unfold ZeroOk; as_aux_lemma=>kernel_rfl
theorem zwz:ElemOk prog 158 3:=ElemOk.mk' kr
theorem zwg:zcl prog 162:=⟨_,underlying162,rfl⟩
theorem zia:zcl prog 163:=⟨_,underlying163,rfl⟩
theorem zyK:SizeOk prog 163 1:=by unfold SizeOk; as_aux_lemma=>kernel_rfl
theorem zyn:ZeroOk prog 163 [.int .i64 0]:=by unfold ZeroOk; as_aux_lemma=>kernel_rfl
theorem zeQ:zh7 prog 165 5:=⟨_,underlying165,rfl,by as_aux_lemma=>kernel_rfl⟩
theorem zlT:zby prog 165 0 0:=⟨_,_,underlying165,rfl,rfl,by as_aux_lemma=>kernel_rfl⟩
theorem zhp:zby prog 165 1 1:=⟨_,_,underlying165,rfl,rfl,by as_aux_lemma=>kernel_rfl⟩
theorem zeN:zby prog 165 2 2:=⟨_,_,underlying165,rfl,rfl,by as_aux_lemma=>kernel_rfl⟩
theorem zi0:zby prog 165 3 4:=⟨_,_,underlying165,rfl,rfl,by as_aux_lemma=>kernel_rfl⟩
theorem zim:SizeOk prog 165 5:=by unfold SizeOk; as_aux_lemma=>kernel_rfl
theorem zvP:ZeroOk prog 165 [.int .i64 0,.int .i32 0,.int .i64 0,.int .i64 0,.bool false]:=by unfold ZeroOk; as_aux_lemma=>kernel_rfl
theorem zcd:zby prog 167 0 0:=⟨_,_,underlying167,rfl,rfl,by as_aux_lemma=>kernel_rfl⟩
theorem ze5:zby prog 167 1 1:=⟨_,_,underlying167,rfl,rfl,by as_aux_lemma=>kernel_rfl⟩
theorem zho:zby prog 167 2 4:=⟨_,_,underlying167,rfl,rfl,by as_aux_lemma=>kernel_rfl⟩
theorem zym:ZeroOk prog 167 [.int .i64 0,.int .i64 0,.int .i64 0,.int .i64 0,.int .i64 0,.int .i32 0,.int .i64 0,.int .i64 0,.bool false]:=by unfold ZeroOk; as_aux_lemma=>kernel_rfl
theorem zwf:zcl prog 174:=⟨_,underlying174,rfl⟩
theorem zvX:SizeOk prog 174 1:=by unfold SizeOk; as_aux_lemma=>kernel_rfl
theorem znI:zh7 prog 176 5:=⟨_,underlying176,rfl,by as_aux_lemma=>kernel_rfl⟩
theorem zvu:zby prog 176 1 1:=⟨_,_,underlying176,rfl,rfl,by as_aux_lemma=>kernel_rfl⟩
theorem ziZ:zby prog 176 2 2:=⟨_,_,underlying176,rfl,rfl,by as_aux_lemma=>kernel_rfl⟩
theorem zrE:zby prog 176 3 3:=⟨_,_,underlying176,rfl,rfl,by as_aux_lemma=>kernel_rfl⟩
theorem zrD:zby prog 176 4 4:=⟨_,_,underlying176,rfl,rfl,by as_aux_lemma=>kernel_rfl⟩
theorem zoW:SizeOk prog 176 5:=by unfold SizeOk; as_aux_lemma=>kernel_rfl
theorem zvO:ZeroOk prog 176 [.int .i64 0,.int .u8 0,.int .i32 0,.slice none 0 0,.slice none 0 0]:=by unfold ZeroOk; as_aux_lemma=>kernel_rfl
theorem zwy:ElemOk prog 176 5:=ElemOk.mk' kr
theorem ztl:zcl prog 177:=⟨_,underlying177,rfl⟩
theorem zyJ:SizeOk prog 177 1:=by unfold SizeOk; as_aux_lemma=>kernel_rfl
theorem zyl:ZeroOk prog 177 [.map none]:=by unfold ZeroOk; as_aux_lemma=>kernel_rfl
theorem zrk:zcl prog 178:=⟨_,underlying178,rfl⟩
theorem zvW:SizeOk prog 178 1:=by unfold SizeOk; as_aux_lemma=>kernel_rfl
theorem zvN:ZeroOk prog 178 [.map none]:=by unfold ZeroOk; as_aux_lemma=>kernel_rfl
theorem ztk:zcl prog 204:=⟨_,underlying204,rfl⟩
theorem zo3:zh7 prog 210 2:=⟨_,underlying210,rfl,by as_aux_lemma=>kernel_rfl⟩
theorem zvV:SizeOk prog 210 2:=by unfold SizeOk; as_aux_lemma=>kernel_rfl
theorem zsR:ZeroOk prog 210 [.int .i32 0,.int .i32 0]:=by unfold ZeroOk; as_aux_lemma=>kernel_rfl
theorem zjM:zcl prog 214:=⟨_,underlying214,rfl⟩
abbrev zEN (n:Nat):Prop:=∀ args w,(callFunc n args).run prog w=.ok (.enter n args) w
theorem zBr:zEN 4:=enters_of func4 kr rfl
theorem zBf:zEN 5:=enters_of func5 kr rfl
theorem zBq:zEN 6:=enters_of func6 kr rfl
theorem zzf:zEN 7:=enters_of func7 kr rfl
theorem zBp:zEN 8:=enters_of func8 kr rfl
theorem zBo:zEN 9:=enters_of func9 kr rfl
theorem zxK:zEN 10:=enters_of func10 kr rfl
theorem zAX:zEN 11:=enters_of func11 kr rfl
theorem zAW:zEN 12:=enters_of func12 kr rfl
theorem zAV:zEN 13:=enters_of func13 kr rfl
theorem zzv:zEN 14:=enters_of func14 kr rfl
theorem zAU:zEN 15:=enters_of func15 kr rfl
theorem zAT:zEN 16:=enters_of func16 kr rfl
theorem zAS:zEN 17:=enters_of func17 kr rfl
theorem zAR:zEN 18:=enters_of func18 kr rfl
theorem zAQ:zEN 19:=enters_of func19 kr rfl
theorem zAP:zEN 20:=enters_of func20 kr rfl
theorem zAO:zEN 21:=enters_of func21 kr rfl
theorem zAN:zEN 22:=enters_of func22 kr rfl
theorem zAM:zEN 23:=enters_of func23 kr rfl
theorem zzu:zEN 24:=enters_of func24 kr rfl
theorem zzt:zEN 25:=enters_of func25 kr rfl
theorem zAL:zEN 26:=enters_of func26 kr rfl
theorem zAK:zEN 27:=enters_of func27 kr rfl
theorem zxJ:zEN 28:=enters_of func28 kr rfl
theorem zAJ:zEN 29:=enters_of func29 kr rfl
theorem zAI:zEN 30:=enters_of func30 kr rfl
theorem zAH:zEN 31:=enters_of func31 kr rfl
theorem zxI:zEN 32:=enters_of func32 kr rfl
theorem zAG:zEN 33:=enters_of func33 kr rfl
theorem zzs:zEN 34:=enters_of func34 kr rfl
theorem zzr:zEN 35:=enters_of func35 kr rfl
theorem zAF:zEN 36:=enters_of func36 kr rfl
theorem zzq:zEN 37:=enters_of func37 kr rfl
theorem zAE:zEN 38:=enters_of func38 kr rfl
theorem zAD:zEN 39:=enters_of func39 kr rfl
theorem zAC:zEN 40:=enters_of func40 kr rfl
theorem zzp:zEN 41:=enters_of func41 kr rfl
theorem zzo:zEN 42:=enters_of func42 kr rfl
theorem zvz:zEN 43:=enters_of func43 kr rfl
theorem zxH:zEN 44:=enters_of func44 kr rfl
theorem zAB:zEN 45:=enters_of func45 kr rfl
theorem zAA:zEN 46:=enters_of func46 kr rfl
theorem zAz:zEN 47:=enters_of func47 kr rfl
theorem zAy:zEN 48:=enters_of func48 kr rfl
theorem zAx:zEN 49:=enters_of func49 kr rfl
theorem zAw:zEN 50:=enters_of func50 kr rfl
theorem zAv:zEN 51:=enters_of func51 kr rfl
theorem zAu:zEN 52:=enters_of func52 kr rfl
theorem zzn:zEN 53:=enters_of func53 kr rfl
theorem zzm:zEN 54:=enters_of func54 kr rfl
theorem zAt:zEN 55:=enters_of func55 kr rfl
theorem zzl:zEN 56:=enters_of func56 kr rfl
theorem zAs:zEN 58:=enters_of func58 kr rfl
theorem zqI:zEN 59:=enters_of func59 kr rfl
theorem zAr:zEN 60:=enters_of func60 kr rfl
theorem zzk:zEN 61:=enters_of func61 kr rfl
theorem zzj:zEN 62:=enters_of func62 kr rfl
theorem zAq:zEN 63:=enters_of func63 kr rfl
theorem zzi:zEN 64:=enters_of func64 kr rfl
theorem zzh:zEN 65:=enters_of func65 kr rfl
theorem zzg:zEN 66:=enters_of func66 kr rfl
theorem zvy:zEN 67:=enters_of func67 kr rfl
theorem zua:zEN 68:=enters_of func68 kr rfl
theorem zAp:zEN 69:=enters_of func69 kr rfl
theorem zAo:zEN 70:=enters_of func70 kr rfl
theorem zxG:zEN 71:=enters_of func71 kr rfl
theorem zze:zEN 72:=enters_of func72 kr rfl
theorem zAn:zEN 73:=enters_of func73 kr rfl
theorem zAm:zEN 74:=enters_of func74 kr rfl
theorem zxF:zEN 75:=enters_of func75 kr rfl
theorem zxE:zEN 76:=enters_of func76 kr rfl
theorem zzd:zEN 77:=enters_of func77 kr rfl
theorem zzc:zEN 78:=enters_of func78 kr rfl
theorem zAl:zEN 79:=enters_of func79 kr rfl
theorem zzb:zEN 80:=enters_of func80 kr rfl
theorem zAk:zEN 88:=enters_of func88 kr rfl
theorem zAj:zEN 89:=enters_of func89 kr rfl
theorem zAi:zEN 94:=enters_of func94 kr rfl
theorem zxD:zEN 95:=enters_of func95 kr rfl
theorem zxC:zEN 96:=enters_of func96 kr rfl
theorem zxB:zEN 97:=enters_of func97 kr rfl
theorem zAh:zEN 98:=enters_of func98 kr rfl
theorem zpy:zEN 99:=enters_of func99 kr rfl
theorem zwx:zEN 100:=enters_of func100 kr rfl
theorem zww:zEN 101:=enters_of func101 kr rfl
theorem zrM:zEN 102:=enters_of func102 kr rfl
theorem zzB:zEN 103:=enters_of func103 kr rfl
theorem zzA:zEN 106:=enters_of func106 kr rfl
theorem zwv:zEN 108:=enters_of func108 kr rfl
theorem zwu:zEN 109:=enters_of func109 kr rfl
theorem zuc:zEN 110:=enters_of func110 kr rfl
theorem zzz:zEN 117:=enters_of func117 kr rfl
theorem zzy:zEN 120:=enters_of func120 kr rfl
theorem zzx:zEN 122:=enters_of func122 kr rfl
theorem zzw:zEN 124:=enters_of func124 kr rfl
theorem zub:zEN 125:=enters_of func125 kr rfl
theorem zwt:zEN 126:=enters_of func126 kr rfl
theorem mixed:prog.follows .mixedOrders=true:=by as_aux_lemma=>kernel_rfl
end
@[ext] structure zaO where
 Width:Int
 Height:Int
 Turn:Int
 Every:Int
def zjl (a b:zaO):Bool:=(a.Width==b.Width)&&(a.Height==b.Height)&&(a.Turn==b.Turn)&&(a.Every==b.Every)
theorem zke (a b:zaO):zjl a b=true↔a=b:=by
 rcases a with ⟨a0,a1,a2,a3⟩
 rcases b with ⟨b0,b1,b2,b3⟩
 simp [zjl,Bool.and_eq_true,and_assoc]
instance:DecidableEq zaO:=fun a b=>decidable_of_iff _ (zke a b)
@[ext] structure zbS where
 Err:Int
 At:Int
def zlm (a b:zbS):Bool:=(a.Err==b.Err)&&(a.At==b.At)
theorem zlz (a b:zbS):zlm a b=true↔a=b:=by
 rcases a with ⟨a0,a1⟩
 rcases b with ⟨b0,b1⟩
 simp [zlm,Bool.and_eq_true,and_assoc]
instance:DecidableEq zbS:=fun a b=>decidable_of_iff _ (zlz a b)
@[ext] structure zap where
 Line:Int
 Stanza:Int
 Part:Int
 Indent:Int
 Number:Int
 Text:zBA
def zb9 (x:zap):List Value:=[.int .i64 x.Line,.int .i64 x.Stanza,.int .i64 x.Part,.int .i64 x.Indent,.int .i64 x.Number,.string x.Text]
theorem zbN (x:zap):(zb9 x).length=6:=rfl
theorem zeW (x:zap):∀ u∈zb9 x,u.oneCell'=true:=by
 intro u hu
 simp only [zb9,List.mem_cons,List.not_mem_nil,or_false] at hu
 rcases hu with rfl | rfl | rfl | rfl | rfl | rfl <;> rfl
def zmM (a b:zap):Bool:=(a.Line==b.Line)&&(a.Stanza==b.Stanza)&&(a.Part==b.Part)&&(a.Indent==b.Indent)&&(a.Number==b.Number)&&decide (a.Text=b.Text)
theorem zmL (a b:zap):zmM a b=true↔a=b:=by
 rcases a with ⟨a0,a1,a2,a3,a4,a5⟩
 rcases b with ⟨b0,b1,b2,b3,b4,b5⟩
 simp [zmM,Bool.and_eq_true,and_assoc]
instance:DecidableEq zap:=fun a b=>decidable_of_iff _ (zmL a b)
@[ext] structure Gapi_Span where
 From:Int
 To:Int
def zfq (x:Gapi_Span):List Value:=[.int .i64 x.From,.int .i64 x.To]
theorem zgp (x:Gapi_Span):(zfq x).length=2:=rfl
theorem zkX (x:Gapi_Span):∀ u∈zfq x,u.oneCell'=true:=by
 intro u hu
 simp only [zfq,List.mem_cons,List.not_mem_nil,or_false] at hu
 rcases hu with rfl | rfl <;> rfl
def zln (a b:Gapi_Span):Bool:=(a.From==b.From)&&(a.To==b.To)
theorem zlA (a b:Gapi_Span):zln a b=true↔a=b:=by
 rcases a with ⟨a0,a1⟩
 rcases b with ⟨b0,b1⟩
 simp [zln,Bool.and_eq_true,and_assoc]
instance:DecidableEq Gapi_Span:=fun a b=>decidable_of_iff _ (zlA a b)
@[ext] structure zax where
 Text:zBA
 Indent:Int
 Stanza:Int
 In:Int
 Span_From:Int
 Span_To:Int
def zeZ (x:zax):List Value:=[.string x.Text,.int .i64 x.Indent,.int .i64 x.Stanza,.int .i64 x.In,.int .i64 x.Span_From,.int .i64 x.Span_To]
theorem zeq (x:zax):(zeZ x).length=6:=rfl
theorem zkf (x:zax):∀ u∈zeZ x,u.oneCell'=true:=by
 intro u hu
 simp only [zeZ,List.mem_cons,List.not_mem_nil,or_false] at hu
 rcases hu with rfl | rfl | rfl | rfl | rfl | rfl <;> rfl
def zkb (a b:zax):Bool:=decide (a.Text=b.Text)&&(a.Indent==b.Indent)&&(a.Stanza==b.Stanza)&&(a.In==b.In)&&(a.Span_From==b.Span_From)&&(a.Span_To==b.Span_To)
theorem zkR (a b:zax):zkb a b=true↔a=b:=by
 rcases a with ⟨a0,a1,a2,a3,a4,a5⟩
 rcases b with ⟨b0,b1,b2,b3,b4,b5⟩
 simp [zkb,Bool.and_eq_true,and_assoc]
instance:DecidableEq zax:=fun a b=>decidable_of_iff _ (zkR a b)
@[ext] structure zaX where
 At:Int
 Width:Int
 Rune:Int
 Broken:Bool
def zfp (a b:zaX):Bool:=(a.At==b.At)&&(a.Width==b.Width)&&(a.Rune==b.Rune)&&(a.Broken==b.Broken)
theorem zkU (a b:zaX):zfp a b=true↔a=b:=by
 rcases a with ⟨a0,a1,a2,a3⟩
 rcases b with ⟨b0,b1,b2,b3⟩
 simp [zfp,Bool.and_eq_true,and_assoc]
instance:DecidableEq zaX:=fun a b=>decidable_of_iff _ (zkU a b)
@[ext] structure zk8 where
 Kind:Int
 Span_From:Int
 Span_To:Int
def zkc (a b:zk8):Bool:=(a.Kind==b.Kind)&&(a.Span_From==b.Span_From)&&(a.Span_To==b.Span_To)
theorem zkS (a b:zk8):zkc a b=true↔a=b:=by
 rcases a with ⟨a0,a1,a2⟩
 rcases b with ⟨b0,b1,b2⟩
 simp [zkc,Bool.and_eq_true,and_assoc]
instance:DecidableEq zk8:=fun a b=>decidable_of_iff _ (zkS a b)
@[ext] structure zaU where
 Byte:Int
 Rune:Int
 Unit:Int
 Line:Int
 Col:Int
def ze0 (x:zaU):List Value:=[.int .i64 x.Byte,.int .i64 x.Rune,.int .i64 x.Unit,.int .i64 x.Line,.int .i64 x.Col]
theorem zht (x:zaU):(ze0 x).length=5:=rfl
theorem zhs (x:zaU):∀ u∈ze0 x,u.oneCell'=true:=by
 intro u hu
 simp only [ze0,List.mem_cons,List.not_mem_nil,or_false] at hu
 rcases hu with rfl | rfl | rfl | rfl | rfl <;> rfl
def zkd (a b:zaU):Bool:=(a.Byte==b.Byte)&&(a.Rune==b.Rune)&&(a.Unit==b.Unit)&&(a.Line==b.Line)&&(a.Col==b.Col)
theorem zkT (a b:zaU):zkd a b=true↔a=b:=by
 rcases a with ⟨a0,a1,a2,a3,a4⟩
 rcases b with ⟨b0,b1,b2,b3,b4⟩
 simp [zkd,Bool.and_eq_true,and_assoc]
instance:DecidableEq zaU:=fun a b=>decidable_of_iff _ (zkT a b)
@[ext] structure za6 where
 span_From:Int
 span_To:Int
 end_:Int
 first:Int
def zeh (x:za6):List Value:=[.int .i64 x.span_From,.int .i64 x.span_To,.int .i64 x.end_,.int .i64 x.first]
theorem zdo (x:za6):(zeh x).length=4:=rfl
theorem zgO (x:za6):∀ u∈zeh x,u.oneCell'=true:=by
 intro u hu
 simp only [zeh,List.mem_cons,List.not_mem_nil,or_false] at hu
 rcases hu with rfl | rfl | rfl | rfl <;> rfl
def ziO (a b:za6):Bool:=(a.span_From==b.span_From)&&(a.span_To==b.span_To)&&(a.end_==b.end_)&&(a.first==b.first)
theorem zjz (a b:za6):ziO a b=true↔a=b:=by
 rcases a with ⟨a0,a1,a2,a3⟩
 rcases b with ⟨b0,b1,b2,b3⟩
 simp [ziO,Bool.and_eq_true,and_assoc]
instance:DecidableEq za6:=fun a b=>decidable_of_iff _ (zjz a b)
@[ext] structure zaw where
 cost:Int
 rows:Int
 to_:Int
def zjn (x:zaw):List Value:=[.int .i64 x.cost,.int .i64 x.rows,.int .i64 x.to_]
theorem zbe (x:zaw):(zjn x).length=3:=rfl
def zj9 (a b:zaw):Bool:=(a.cost==b.cost)&&(a.rows==b.rows)&&(a.to_==b.to_)
theorem zkP (a b:zaw):zj9 a b=true↔a=b:=by
 rcases a with ⟨a0,a1,a2⟩
 rcases b with ⟨b0,b1,b2⟩
 simp [zj9,Bool.and_eq_true,and_assoc]
instance:DecidableEq zaw:=fun a b=>decidable_of_iff _ (zkP a b)
@[ext] structure zaH where
 Span_From:Int
 Span_To:Int
 Columns:Int
def zfr (x:zaH):List Value:=[.int .i64 x.Span_From,.int .i64 x.Span_To,.int .i64 x.Columns]
theorem zdw (x:zaH):(zfr x).length=3:=rfl
theorem zhN (x:zaH):∀ u∈zfr x,u.oneCell'=true:=by
 intro u hu
 simp only [zfr,List.mem_cons,List.not_mem_nil,or_false] at hu
 rcases hu with rfl | rfl | rfl <;> rfl
def zlo (a b:zaH):Bool:=(a.Span_From==b.Span_From)&&(a.Span_To==b.Span_To)&&(a.Columns==b.Columns)
theorem zlB (a b:zaH):zlo a b=true↔a=b:=by
 rcases a with ⟨a0,a1,a2⟩
 rcases b with ⟨b0,b1,b2⟩
 simp [zlo,Bool.and_eq_true,and_assoc]
instance:DecidableEq zaH:=fun a b=>decidable_of_iff _ (zlB a b)
@[ext] structure zk7 where
 kind:Int
 r:Int
 span_From:Int
 span_To:Int
 alone:Bool
def zj8 (a b:zk7):Bool:=(a.kind==b.kind)&&(a.r==b.r)&&(a.span_From==b.span_From)&&(a.span_To==b.span_To)&&(a.alone==b.alone)
theorem zkO (a b:zk7):zj8 a b=true↔a=b:=by
 rcases a with ⟨a0,a1,a2,a3,a4⟩
 rcases b with ⟨b0,b1,b2,b3,b4⟩
 simp [zj8,Bool.and_eq_true,and_assoc]
instance:DecidableEq zk7:=fun a b=>decidable_of_iff _ (zkO a b)
@[ext] structure zh8 where
 state:Int
 t_Kind:Int
 t_Span_From:Int
 t_Span_To:Int
 held_kind:Int
 held_r:Int
 held_span_From:Int
 held_span_To:Int
 held_alone:Bool
def zic (a b:zh8):Bool:=(a.state==b.state)&&(a.t_Kind==b.t_Kind)&&(a.t_Span_From==b.t_Span_From)&&(a.t_Span_To==b.t_Span_To)&&(a.held_kind==b.held_kind)&&(a.held_r==b.held_r)&&(a.held_span_From==b.held_span_From)&&(a.held_span_To==b.held_span_To)&&(a.held_alone==b.held_alone)
theorem zjb (a b:zh8):zic a b=true↔a=b:=by
 rcases a with ⟨a0,a1,a2,a3,a4,a5,a6,a7,a8⟩
 rcases b with ⟨b0,b1,b2,b3,b4,b5,b6,b7,b8⟩
 simp [zic,Bool.and_eq_true,and_assoc]
instance:DecidableEq zh8:=fun a b=>decidable_of_iff _ (zjb a b)
@[ext] structure zmT where
 e0:Int
 e1:Int
def zll (a b:zmT):Bool:=(a.e0==b.e0)&&(a.e1==b.e1)
theorem zly (a b:zmT):zll a b=true↔a=b:=by
 rcases a with ⟨a0,a1⟩
 rcases b with ⟨b0,b1⟩
 simp [zll,Bool.and_eq_true,and_assoc]
instance:DecidableEq zmT:=fun a b=>decidable_of_iff _ (zly a b)
@[ext] structure zaA where
 e0:Int
 e1:Int
def zka (a b:zaA):Bool:=(a.e0==b.e0)&&(a.e1==b.e1)
theorem zkQ (a b:zaA):zka a b=true↔a=b:=by
 rcases a with ⟨a0,a1⟩
 rcases b with ⟨b0,b1⟩
 simp [zka,Bool.and_eq_true,and_assoc]
instance:DecidableEq zaA:=fun a b=>decidable_of_iff _ (zkQ a b)
@[ext] structure zpT where
 e0_lo:Int
 e0_hi:Int
 e1_lo:Int
 e1_hi:Int
 e2_lo:Int
 e2_hi:Int
 e3_lo:Int
 e3_hi:Int
 e4_lo:Int
 e4_hi:Int
 e5_lo:Int
 e5_hi:Int
 e6_lo:Int
 e6_hi:Int
 e7_lo:Int
 e7_hi:Int
 e8_lo:Int
 e8_hi:Int
 e9_lo:Int
 e9_hi:Int
 e10_lo:Int
 e10_hi:Int
 e11_lo:Int
 e11_hi:Int
 e12_lo:Int
 e12_hi:Int
 e13_lo:Int
 e13_hi:Int
 e14_lo:Int
 e14_hi:Int
 e15_lo:Int
 e15_hi:Int
theorem zsL {x y:Operand} (a b:zaX) (w:World):(do eqGuard .eql 60 x y (.agg #[.int .i64 a.At,.int .i64 a.Width,.int .i32 a.Rune,.bool a.Broken]) (.agg #[.int .i64 b.At,.int .i64 b.Width,.int .i32 b.Rune,.bool b.Broken]); binOp .eql 60 (.agg #[.int .i64 a.At,.int .i64 a.Width,.int .i32 a.Rune,.bool a.Broken]) (.agg #[.int .i64 b.At,.int .i64 b.Width,.int .i32 b.Rune,.bool b.Broken]):Sem Value).run prog w=.ok (.bool (zfp a b)) w :=
 zvF kr (show ((a.At==b.At)&&((a.Width==b.Width)&&((a.Rune==b.Rune)&&((a.Broken==b.Broken)&&true))))=zfp a b by simp [zfp,Bool.and_assoc]) (zxA (dd:=9999) kr kr (zrL (ft:=3) (off:=0) (a:=.int .i64 a.At) (b:=.int .i64 b.At) kr (fun _=>by kernel_rfl) (fun _=>by kernel_rfl) (zqG underlying3) (zrL (ft:=3) (off:=1) (a:=.int .i64 a.Width) (b:=.int .i64 b.Width) kr (fun _=>by kernel_rfl) (fun _=>by kernel_rfl) (zqG underlying3) (zrL (ft:=21) (off:=2) (a:=.int .i32 a.Rune) (b:=.int .i32 b.Rune) kr (fun _=>by kernel_rfl) (fun _=>by kernel_rfl) (zqG underlying21) (zrL (ft:=4) (off:=3) (a:=.bool a.Broken) (b:=.bool b.Broken) kr (fun _=>by kernel_rfl) (fun _=>by kernel_rfl) (zvx underlying4) (zxz (n:=4) kr)))))) w
structure zdn where
 Text:zBA
 Layout_Width:Int
 Layout_Height:Int
 Layout_Turn:Int
 Layout_Every:Int
 Line:Int
 Cuts:List Int
def zbp (z:(List zap)×Hd):List Value:=[z.2.v]
def zbz (z:(List zap)×Hd):List Asn:=[vec zb9 43 6 z.2.v z.1]
theorem zga (z:(List zap)×Hd):(zbp z).length=1:=rfl
theorem zkh (z:(List zap)×Hd):∀ u∈zbp z,u.oneCell'=true:=by
 intro u hu
 simp only [zbp,List.mem_cons,List.not_mem_nil,or_false] at hu
 rcases hu with rfl <;> rfl
def za9 (z:(List zBA)×Hd):List Value:=[z.2.v]
def zbn (z:(List zBA)×Hd):List Asn:=[vec zkv 9 1 z.2.v z.1]
theorem zcx (z:(List zBA)×Hd):(za9 z).length=1:=rfl
theorem zhO (z:(List zBA)×Hd):∀ u∈za9 z,u.oneCell'=true:=by
 intro u hu
 simp only [za9,List.mem_cons,List.not_mem_nil,or_false] at hu
 rcases hu with rfl <;> rfl
structure zyf where
 title:zBA
 lines:List zax
 stanzas:List Gapi_Span
structure zaC where
 told_title:zBA
 told_lines:List zax
 told_stanzas:List Gapi_Span
 source:zBA
def zbl (z:zaC×Hd×Hd):List Value:=[.string z.1.told_title,z.2.1.v,z.2.2.v,.string z.1.source]
def zbk (z:zaC×Hd×Hd):List Asn:=[vec zeZ 50 6 z.2.1.v z.1.told_lines,vec zfq 48 2 z.2.2.v z.1.told_stanzas]
structure za0 where
 rows:List zap
 blanks:List Int
 firsts:List Int
 lasts:List Int
 heights:Int
structure zb5 where
 layout_Width:Int
 layout_Height:Int
 layout_Turn:Int
 layout_Every:Int
 pages:List (List zap)
 cost:Int
def zff (z:zb5×Hd):List Value:=[.int .i64 z.1.layout_Width,.int .i64 z.1.layout_Height,.int .i64 z.1.layout_Turn,.int .i64 z.1.layout_Every,z.2.v,.int .i64 z.1.cost]
def zfb (z:zb5×Hd):List Asn:=[zgf zbp zbz 37 1 z.2.v z.1.pages]
structure zbR where
 text:zBA
 places:List zaU
 lines:List za6
def zfe (z:zbR×Hd×Hd):List Value:=[.string z.1.text,z.2.1.v,z.2.2.v]
def zfa (z:zbR×Hd×Hd):List Asn:=[vec ze0 130 5 z.2.1.v z.1.places,vec zeh 132 4 z.2.2.v z.1.lines]
structure zbm where
 s:zBA
 cells:List zaH
 wide:List Int
 ends:List Int
 first:Int
 rest:Int
structure zaQ where
 at_:Int
 broken:Int
 base:Int
 low:List Int
 high:List Int
def zbw (z:zaQ×Hd×Hd):List Value:=[.int .i64 z.1.at_,.int .u8 z.1.broken,.int .i32 z.1.base,z.2.1.v,z.2.2.v]
def za5 (z:zaQ×Hd×Hd):List Asn:=[vec (zlp (.i32)) 21 1 z.2.1.v z.1.low,vec (zlp (.i32)) 21 1 z.2.2.v z.1.high]
theorem zbV (z:zaQ×Hd×Hd):(zbw z).length=5:=rfl
theorem zhd (z:zaQ×Hd×Hd):∀ u∈zbw z,u.oneCell'=true:=by
 intro u hu
 simp only [zbw,List.mem_cons,List.not_mem_nil,or_false] at hu
 rcases hu with rfl | rfl | rfl | rfl | rfl <;> rfl
theorem zjU:∀ (P:List Pc) (i:Nat) (l:List UInt8) (x:Pc) (B:List Pc),zdS i l=P++x::B →
  ∃ n,x.i=i+n∧n+x.w≤l.length∧zuM (l.drop n) x.r x.w∧zdS (i+n) (l.drop n)=x::B∧B=zdS (x.i+x.w) (l.drop (n+x.w))
 | [],i,l,x,B,h=>by
  by_cases hl:l=[]
  ·subst hl; simp [zcT] at h
  ·have hok:=zuj l hl
   have h':=h
   rw [zcU i l hl] at h
   simp only [List.nil_append,List.cons.injEq] at h
   obtain ⟨rfl,hB⟩:=h
   exact ⟨0,by simp,by simpa using hok.le,by simpa using hok,by simpa using h',by simpa using hB.symm⟩
 | p::P,i,l,x,B,h=>by
  by_cases hl:l=[]
  ·subst hl; simp [zcT] at h
  ·have hle:=zlq l hl
   rw [zcU i l hl] at h
   simp only [List.cons_append,List.cons.injEq] at h
   obtain ⟨n,h1,h2,h3,h4,h5⟩:=zjU P _ _ x B h.2
   refine ⟨(decodeL l).2+n,by omega,by simp at h2; omega,by rw [← List.drop_drop]; exact h3,by rw [← List.drop_drop,← Nat.add_assoc]; exact h4,?_⟩
   rw [h5,List.drop_drop,Nat.add_assoc]
theorem zml (l:List UInt8) (P:List Pc) (x:Pc) (B:List Pc) (h:pcs l=P++x::B) :
  x.i+x.w≤l.length∧zuM (l.drop x.i) x.r x.w∧zdS x.i (l.drop x.i)=x::B∧B=zdS (x.i+x.w) (l.drop (x.i+x.w)):=by
 obtain ⟨n,h1,h2,h3,h4,h5⟩:=zjU P 0 l x B h
 have:x.i=n:=by omega
 subst this
 exact ⟨h2,h3,by simpa using h4,h5⟩
theorem ziA (l:List UInt8) (x:Pc) (h:x∈pcs l):1≤x.w∧x.i+x.w≤l.length∧zuM (l.drop x.i) x.r x.w:=by
 obtain ⟨P,B,hs⟩:=List.append_of_mem h
 obtain ⟨h1,h2,_⟩:=zml l P x B hs
 exact ⟨h2.pos,h1,h2⟩
structure Tok where
 r:Nat
 bs:List UInt8
 deriving DecidableEq
def Tok.broken (t:Tok):Bool:=t.r==65533&&t.bs.length==1
def Tok.valid (t:Tok):Prop:=(t.r<55296∨(57343<t.r∧t.r≤1114111))∧t.bs=encodeRune t.r
def zyb (ts:List Tok):List UInt8:=ts.flatMap Tok.bs
def zm8:Nat→List UInt8→List Tok
 | 0,_=>[]
 | f+1,l=>if l=[] then [] else ⟨(decodeL l).1,l.take (decodeL l).2⟩::zm8 f (l.drop (decodeL l).2)
def zuQ (l:List UInt8):List Tok:=zm8 l.length l
theorem zpt (t:Tok) (ts:List Tok):zyb (t::ts)=t.bs++zyb ts:=by simp [zyb]
theorem zoV:∀ (f g:Nat) (l:List UInt8),l.length≤f→l.length≤g→zm8 f l=zm8 g l:=by
 intro f
 induction f with
 | zero =>
  intro g l h1 h2
  have:l=[]:=List.eq_nil_of_length_eq_zero (by omega)
  subst this
  cases g <;> simp [zm8]
 | succ f ih =>
  intro g l h1 h2
  cases g with
  | zero =>
   have:l=[]:=List.eq_nil_of_length_eq_zero (by omega)
   subst this
   simp [zm8]
  | succ g =>
   by_cases hl:l=[]
   ·simp [zm8,hl]
   ·simp only [zm8,hl,if_false]
    have:=zgM l
    have hlen:0<l.length:=List.length_pos_iff.2 hl
    rw [ih g _ (by simp; omega) (by simp; omega)]
theorem zoe:zuQ []=[]:=by simp [zuQ,zm8]
theorem zl7 (l:List UInt8) (h:l≠[]):zuQ l=⟨(decodeL l).1,l.take (decodeL l).2⟩::zuQ (l.drop (decodeL l).2):=by
 have hlen:0<l.length:=List.length_pos_iff.2 h
 unfold zuQ
 obtain ⟨n,hn⟩:∃ n,l.length=n+1:=⟨l.length - 1,by omega⟩
 rw [hn]
 simp only [zm8,h,if_false]
 have:=zgM l
 rw [zoV n (l.drop (decodeL l).2).length _ (by simp; omega) (Nat.le_refl _)]
theorem zh2 {P:List UInt8→Prop} (h0:P []) (h1:∀ l,l≠[]→P (l.drop (decodeL l).2)→P l):∀ l,P l:=by
 have key:∀ (n:Nat) (l:List UInt8),l.length≤n→P l:=by
  intro n
  induction n with
  | zero=>intro l hl; rw [List.eq_nil_of_length_eq_zero (by omega:l.length=0)]; exact h0
  | succ n ih =>
   intro l hl
   by_cases hn:l=[]
   ·rw [hn]; exact h0
   ·have:=zgM l
    exact h1 l hn (ih _ (by simp; omega))
 exact fun l=>key l.length l (Nat.le_refl _)
theorem zt2 (l:List UInt8):zyb (zuQ l)=l:=by
 induction l using zh2 with
 | h0=>rw [zoe]; rfl
 | h1 l hn ih=>rw [zl7 l hn,zpt,ih]; exact List.take_append_drop _ _
theorem zyA (l:List UInt8) (h:l≠[]):(⟨(decodeL l).1,l.take (decodeL l).2⟩:Tok).valid∨(⟨(decodeL l).1,l.take (decodeL l).2⟩:Tok).broken=true:=by
 by_cases hb:(decodeL l).1=65533∧(decodeL l).2=1
 ·right
  have hlen:0<l.length:=List.length_pos_iff.2 h
  simp [Tok.broken,hb.1,hb.2]; omega
 ·left
  exact ⟨zmN l,(encode_decode l h hb).symm⟩
theorem zwW (l:List UInt8):∀ t∈zuQ l,t.valid∨t.broken=true:=by
 induction l using zh2 with
 | h0=>rw [zoe]; simp
 | h1 l hn ih =>
  rw [zl7 l hn]
  intro t ht
  rcases List.mem_cons.1 ht with rfl | ht
  ·exact zyA l hn
  ·exact ih t ht
theorem zA4 {t:Tok} (h:t.valid∨t.broken=true):t.bs≠[]:=by
 rcases h with h | h
 ·rw [h.2]; intro e; have:=(zjm (t.r:Int)).1; rw [e] at this; simp at this
 ·intro e; unfold Tok.broken at h; rw [e] at h; simp at h
def zA2 (b:UInt8):Bool:=b.toNat / 64==2
def zBz:List UInt8→Prop
 | []=>True
 | b::_=>zA2 b=false
theorem znR (r:Nat) (hv:r<55296∨(57343<r∧r≤1114111)) :
  (r≤127∧encodeRuneZ r=[(r:Int)])∨(128≤r∧r≤2047∧encodeRuneZ r=[192+(r:Int) / 64,128+(r:Int) % 64]) ∨
  (2048≤r∧r≤65535∧encodeRuneZ r=[224+(r:Int) / 4096,128+(r:Int) / 64 % 64,128+(r:Int) % 64]) ∨
  (65536≤r∧r≤1114111∧encodeRuneZ r=[240+(r:Int) / 262144,128+(r:Int) / 4096 % 64,128+(r:Int) / 64 % 64,128+(r:Int) % 64]):=by
 by_cases h1:r≤127
 ·exact .inl ⟨h1,encodeRuneZ_one (by omega) (by omega)⟩
 ·by_cases h2:r≤2047
  ·exact .inr (.inl ⟨by omega,h2,encodeRuneZ_two (by omega) (by omega)⟩)
  ·by_cases h3:r≤65535
   ·exact .inr (.inr (.inl ⟨by omega,h3,encodeRuneZ_three (by omega)⟩))
   ·exact .inr (.inr (.inr ⟨by omega,by omega,encodeRuneZ_four (by omega) (by omega)⟩))
theorem zfj (z:Int) (_h0:0≤z) (h1:z<256):(z.toNat.toUInt8).toNat=z.toNat:=by
 simp; omega
theorem zoM (r:Nat) (hv:r<55296∨(57343<r∧r≤1114111)) (x:List UInt8):decodeL (encodeRune r++x)=(r,(encodeRune r).length):=by
 rw [decodeL_N]
 rcases znR r hv with ⟨h,e⟩ | ⟨h,h',e⟩ | ⟨h,h',e⟩ | ⟨h,h',e⟩
 ·have hl:encodeRune r=[((r:Int).toNat.toUInt8)]:=by simp only [encodeRune,e,List.map_cons,List.map_nil]
  rw [hl]
  simp only [List.cons_append,List.nil_append,List.getD_cons_zero,List.length_cons]
  rw [zfj _ (by omega) (by omega)]
  unfold decodeN
  simp only [Int.toNat_natCast]
  rw [if_pos (by omega)]
  simp
 ·have hl:encodeRune r=[((192+(r:Int) / 64).toNat.toUInt8),((128+(r:Int) % 64).toNat.toUInt8)]:=by simp only [encodeRune,e,List.map_cons,List.map_nil]
  rw [hl]
  simp only [List.cons_append,List.nil_append,List.getD_cons_zero,List.getD_cons_succ,List.length_cons]
  rw [zfj _ (by omega) (by omega),zfj _ (by omega) (by omega)]
  have a1:(192+(r:Int) / 64).toNat=192+r / 64:=by omega
  have a2:(128+(r:Int) % 64).toNat=128+r % 64:=by omega
  rw [a1,a2]
  unfold decodeN
  have c1:¬ 192+r / 64<128:=by omega
  have c2:(192+r / 64) / 32=6:=by omega
  have c3:(128+r % 64) / 64=2:=by omega
  have c4:(192+r / 64) % 32*64+(128+r % 64) % 64=r:=by omega
  have c5:128≤r:=by omega
  rw [if_neg c1,if_pos ⟨c2,by omega,c3⟩,c4,if_pos c5]
  rfl
 ·have hl:encodeRune r=[((224+(r:Int) / 4096).toNat.toUInt8),((128+(r:Int) / 64 % 64).toNat.toUInt8),((128+(r:Int) % 64).toNat.toUInt8)]:=by simp only [encodeRune,e,List.map_cons,List.map_nil]
  rw [hl]
  simp only [List.cons_append,List.nil_append,List.getD_cons_zero,List.getD_cons_succ,List.length_cons]
  rw [zfj _ (by omega) (by omega),zfj _ (by omega) (by omega),zfj _ (by omega) (by omega)]
  have a1:(224+(r:Int) / 4096).toNat=224+r / 4096:=by omega
  have a2:(128+(r:Int) / 64 % 64).toNat=128+r / 64 % 64:=by omega
  have a3:(128+(r:Int) % 64).toNat=128+r % 64:=by omega
  rw [a1,a2,a3]
  unfold decodeN
  have c1:¬ 224+r / 4096<128:=by omega
  have c2:(224+r / 4096) / 32≠6:=by omega
  have c2':(224+r / 4096) / 16=14:=by omega
  have c3:(128+r / 64 % 64) / 64=2:=by omega
  have c3':(128+r % 64) / 64=2:=by omega
  have c4:(224+r / 4096) % 16*4096+(128+r / 64 % 64) % 64*64+(128+r % 64) % 64=r:=by omega
  have c5:2048≤r:=by omega
  rw [if_neg c1,if_neg (fun h=>c2 h.1),if_pos ⟨c2',⟨by omega,c3⟩,⟨by omega,c3'⟩⟩,c4,if_pos ⟨c5,by omega⟩]
  rfl
 ·have hl:encodeRune r=[((240+(r:Int) / 262144).toNat.toUInt8),((128+(r:Int) / 4096 % 64).toNat.toUInt8),((128+(r:Int) / 64 % 64).toNat.toUInt8),((128+(r:Int) % 64).toNat.toUInt8)]:=by simp only [encodeRune,e,List.map_cons,List.map_nil]
  rw [hl]
  simp only [List.cons_append,List.nil_append,List.getD_cons_zero,List.getD_cons_succ,List.length_cons]
  rw [zfj _ (by omega) (by omega),zfj _ (by omega) (by omega),zfj _ (by omega) (by omega),zfj _ (by omega) (by omega)]
  have a1:(240+(r:Int) / 262144).toNat=240+r / 262144:=by omega
  have a2:(128+(r:Int) / 4096 % 64).toNat=128+r / 4096 % 64:=by omega
  have a2':(128+(r:Int) / 64 % 64).toNat=128+r / 64 % 64:=by omega
  have a3:(128+(r:Int) % 64).toNat=128+r % 64:=by omega
  rw [a1,a2,a2',a3]
  unfold decodeN
  have c1:¬ 240+r / 262144<128:=by omega
  have c2:(240+r / 262144) / 32≠6:=by omega
  have c2':(240+r / 262144) / 16≠14:=by omega
  have c2'':(240+r / 262144) / 8=30:=by omega
  have c3:(128+r / 4096 % 64) / 64=2:=by omega
  have c3':(128+r / 64 % 64) / 64=2:=by omega
  have c3'':(128+r % 64) / 64=2:=by omega
  have c4:(240+r / 262144) % 8*262144+(128+r / 4096 % 64) % 64*4096+(128+r / 64 % 64) % 64*64+(128+r % 64) % 64=r:=by omega
  have c5:65536≤r:=by omega
  rw [if_neg c1,if_neg (fun h=>c2 h.1),if_neg (fun h=>c2' h.1),if_pos ⟨c2'',⟨by omega,c3⟩,⟨by omega,c3'⟩,⟨by omega,c3''⟩⟩,c4,if_pos ⟨c5,by omega⟩]
  rfl
inductive Sub:List Tok→List Tok→Prop
 | nil:Sub [] []
 | brk {b:Tok} {ts us:List Tok}:b.broken=true→Sub ts us→Sub (b::ts) (b::us)
 | val {gs vs ts us:List Tok}:gs≠[]→vs≠[]→(∀ t∈gs,t.valid)→(∀ t∈vs,t.valid)→Sub ts us→Sub (gs++ts) (vs++us)
def place:Nat→List Tok→List Pc
 | _,[]=>[]
 | i,t::ts=>⟨i,t.bs.length,t.r⟩::place (i+t.bs.length) ts
theorem ztB (l:List UInt8):∀ i,zdS i l=place i (zuQ l):=by
 induction l using zh2 with
 | h0=>intro i; rw [zoe,zcT]; rfl
 | h1 l hn ih =>
  intro i
  have hle:=zlq l hn
  have e:(l.take (decodeL l).2).length=(decodeL l).2:=by simp; omega
  rw [zcU i l hn,zl7 l hn,place,ih,e]
def Rd (w:World) (K:Nat→Prop) (RD:List Asn):Prop:=∀ A∈RD,∃ C,A.P C w∧∀ k,C k→¬ K k
theorem Rd.nil {w:World} {K:Nat→Prop}:Rd w K []:=fun A h=>by cases h
theorem Rd.ext {w0 w:World} {K C:Nat→Prop} {RD:List Asn} (h:Rd w0 K RD) (hx:Ext K C w0 w):Rd w C RD:=fun A hA=>by
 obtain ⟨D,h1,h2⟩:=h A hA
 have hlt:=A.lt h1
 refine ⟨D,A.loc h1 hx.1.size (fun k hk=>hx.1.keep k (hlt k hk) (h2 k hk)),fun k hk hc => ?_⟩
 rcases hx.2 k hc with h | h
 ·exact h2 k hk h
 ·have:=hlt k hk; omega
theorem Rd.append {w:World} {K:Nat→Prop} {A B:List Asn} (h1:Rd w K A) (h2:Rd w K B):Rd w K (A++B):=fun X hX=>by
 rcases List.mem_append.1 hX with h | h
 ·exact h1 X h
 ·exact h2 X h
theorem Rd.at {w0 w:World} {K:Nat→Prop} {L RD:List Asn} {A:Asn} {i:Nat} (h:Rd w0 K RD) (hw:Holds w0 K L w) (hi:RD[i]?=some A):∃ C,A.P C w:=by
 obtain ⟨C,_,hx⟩:=hw
 obtain ⟨D,h1,_⟩:=h.ext hx A (List.mem_of_getElem? hi)
 exact ⟨D,h1⟩
theorem Rd.more {w:World} {K:Nat→Prop} {RD As:List Asn} {A:Asn} {i:Nat} (h:Rd w K RD) (hi:RD[i]?=some A) (hE:∀ C,A.P C w→∀ B∈As,∃ D,B.P D w∧∀ k,D k→C k):Rd w K (RD++As):=by
 refine h.append fun B hB => ?_
 obtain ⟨C,h1,h2⟩:=h A (List.mem_of_getElem? hi)
 obtain ⟨D,h3,h4⟩:=hE C h1 B hB
 exact ⟨D,h3,fun k hk=>h2 k (h4 k hk)⟩
theorem zmc {w:World}:∀ {L:List Asn} {C:Nat→Prop},sepL L C w→∀ B∈L,∃ D,B.P D w∧∀ k,D k→C k
 | [],_,_,B,hB=>by cases hB
 | A::L,C,⟨C1,C2,h1,h2,h3,h4⟩,B,hB=>by
  rcases List.mem_cons.1 hB with rfl | hB
  ·exact ⟨C1,h1,fun k hk=>(h4 k).2 (.inl hk)⟩
  ·obtain ⟨D,g1,g2⟩:=zmc h2 B hB
   exact ⟨D,g1,fun k hk=>(h4 k).2 (.inr (g2 k hk))⟩
inductive RdS (R RD0:List Asn):List Asn→Prop
 | nil:RdS R RD0 []
 | own {A:Asn} {As R' RD:List Asn} (hs:Splits R As R') (hE:∀ C w,sepL As C w→A.P C w) (h:RdS R RD0 RD):RdS R RD0 (A::RD)
 | ro {A:Asn} {RD:List Asn} (i:Nat) (hi:RD0[i]?=some A) (h:RdS R RD0 RD):RdS R RD0 (A::RD)
theorem RdS.rd {w0 w:World} {K C1 C2:Nat→Prop} {R RD0 RD:List Asn} (h:RdS R RD0 RD) (hR:sepL R C2 w) (hd:∀ k,C1 k→¬ C2 k) (h0:Rd w C1 RD0):Rd w C1 RD:=by
 induction h with
 | nil=>exact Rd.nil
 | @own A As R' RD hs hE h ih =>
  intro B hB
  rcases List.mem_cons.1 hB with rfl | hB
  ·obtain ⟨D1,D2,g1,g2,g3,g4⟩:=hs C2 w hR
   exact ⟨D1,hE D1 w g1,fun k hk hc=>hd k hc ((g4 k).2 (.inl hk))⟩
  ·exact ih B hB
 | @ro A RD i hi h ih =>
  intro B hB
  rcases List.mem_cons.1 hB with rfl | hB
  ·exact h0 _ (List.mem_of_getElem? hi)
  ·exact ih B hB
def FnR (P:Program) (f:FuncId) (vs:List Value) (RD As:List Asn) {β:Type} (V:β→Value) (Bs:β→List Asn):Prop :=
 ∀ w C,Rd w C RD→FnW P f vs As V Bs w C
section
variable {F:Fence} {P:Program} {w0:World} {K:Nat→Prop} {N:Nat} {dfs:List Deferred} {ops:Array Oper} {Q:Exit→Act→World→Prop} {rest:List Oper} {σ σ':List (Nat×Value)} {L L' R As Bs:List Asn} {o:Oper} {v:Value}
 {d:Nat} {t:TypeId} {op:Op} {ty:TypeId} {pos:String} {aft:Array Edge} {g:Option (Nat×Bool)} {x y z:Operand} {c c1 c2:Code} {k:Nat} {A B:Asn} {RO:List (Nat×Obj)} {RD RD0:List Asn} {e:TypeId} {ex:Exit}
theorem FnR.intro {f:FuncId} {fn:Func} {vs:List Value} {β:Type} {V:β→Value} {Bs:β→List Asn} (hf:P.funcs[f]?=some fn) (hb:fn.body=some c) (hn:fn.ntmps=N) (hN:vs.length≤N)
  (h:∀ w0 K,Rd w0 K RD→TC Fence.wide P w0 K N [] (bodyPostM Fence.wide 0 P fn (FR P V Bs w0 K)) c (zh5 vs) As):FnR P f vs RD As V Bs :=
 fun w C hR=>FnW.intro hf hb hn hN (h w C hR)
theorem zmW [WideF F] {xs:List Operand} {ats:Array TypeId} {f:FuncId} {first cap:Array Value} {vs vs':List Value} {β:Type} {V:β→Value} {Bs:β→List Asn} {dst:Option Nat} (hRd:Rd w0 K RD0)
  (hg:gd ops σ g=some true) (hx:ev σ x=some (.func (.func f) first cap)) (hxs:evL σ xs=some vs) (hv:first.toList++vs++cap.toList=vs')
  (hent:∀ args w,(callFunc f args).run P w=.ok (.enter f args) w) (hF:FnR P f vs' RD As V Bs) (hs:Splits L As R) (hS:RdS R RD0 RD)
  (h:∀ b a w a',a'=a.put dst (V b)→At N dfs σ a→Holds w0 K (R++Bs b) w→wpListIn F 0 P ops Q rest a' w) :
  TO F P w0 K N dfs ops Q (⟨dst,.call { callee:=.value x,args:=xs.toArray,argTypes:=ats },ty,pos,aft,g⟩::rest) σ L:=by
 intro a w ha hw
 simp only [wpListIn,zhL (o:=⟨dst,.call { callee:=.value x,args:=xs.toArray,argTypes:=ats },ty,pos,aft,g⟩) ha hg,if_true]
 refine ⟨fun f _=>WideF.fn f,?_⟩
 have h1:(execOp a.eval ⟨dst,.call { callee:=.value x,args:=xs.toArray,argTypes:=ats },ty,pos,aft,g⟩).run P w=.ok (.enter f vs'.toArray) w:=by
  have e:first++vs.toArray++cap=vs'.toArray:=by rw [← hv]; simp
  simp only [execOp,resolve,List.map_toArray,ha.evL hxs,ha.ev hx,Deferred.ofValue,Sem.run_bind,Sem.run_pure,Result.andThen_ok,invoke,e,hent]
 rw [Oper.semAt_plain F _ _ (by simp),h1]
 refine ⟨(fun h=>by rw [WideF.depth (F:=F)] at h; cases h),?_⟩
 obtain ⟨C1,C2,hA,g2,g3,hx0,hstep⟩:=hw.split2 hs
 have hRd1:Rd w C1 RD0:=hRd.ext hx0
 refine WideF.calls ((hF w C1 (hS.rd (w0:=w0) (K:=K) g2 g3 hRd1) hA).mono ?_)
 rintro e w' ⟨b,rfl,C',hB,hx'⟩
 exact h b a w' _ rfl ha (hstep _ _ _ hx' hB)
theorem zft [WideF F] {xs:List Operand} {ats:Array TypeId} {f:FuncId} {first cap:Array Value} {vs vs':List Value} {β:Type} {V:β→Value} {Bs:β→List Asn} (hRd:Rd w0 K RD0)
  (hg:gd ops σ g=some true) (hd:d<N) (hx:ev σ x=some (.func (.func f) first cap)) (hxs:evL σ xs=some vs) (hv:first.toList++vs++cap.toList=vs')
  (hent:∀ args w,(callFunc f args).run P w=.ok (.enter f args) w) (hF:FnR P f vs' RD As V Bs) (hs:Splits L As R) (hS:RdS R RD0 RD)
  (h:∀ b,TO F P w0 K N dfs ops Q rest ((d,V b)::σ) (R++Bs b)) :
  TO F P w0 K N dfs ops Q (⟨some d,.call { callee:=.value x,args:=xs.toArray,argTypes:=ats },ty,pos,aft,g⟩::rest) σ L :=
 zmW hRd hg hx hxs hv hent hF hs hS fun b a w a' ha' ha hw=>by subst ha'; exact h b _ _ (ha.put hd _) hw
theorem zbK [WideF F] {xs:List Operand} {ats:Array TypeId} {f:FuncId} {first cap:Array Value} {vs vs':List Value} (hRd:Rd w0 K RD0)
  (hg:gd ops σ g=some true) (hd:d<N) (hx:ev σ x=some (.func (.func f) first cap)) (hxs:evL σ xs=some vs) (hv:first.toList++vs++cap.toList=vs')
  (hent:∀ args w,(callFunc f args).run P w=.ok (.enter f args) w) (hF:FnR P f vs' RD [] (fun _:Unit=>v) (fun _=>[])) (hS:RdS L RD0 RD)
  (h:TO F P w0 K N dfs ops Q rest ((d,v)::σ) L) :
  TO F P w0 K N dfs ops Q (⟨some d,.call { callee:=.value x,args:=xs.toArray,argTypes:=ats },ty,pos,aft,g⟩::rest) σ L :=
 zmW hRd hg hx hxs hv hent hF Splits.nil hS fun b a w a' ha' ha hw=>by
  subst ha'
  rw [List.append_nil] at hw
  exact h _ _ (ha.put hd _) hw
section
variable {i:Nat}
theorem zbs [WideF F] {b j:Nat} {l:List Value} {e:TypeId} (hr:Rd w0 K RD) (hi:RD[i]?=some (cells b l e)) (hT:zcl P t) (hg:gd ops σ g=some true) (hd:d<N) (hx:ev σ x=some (.pointer (some ⟨b,j,none⟩))) (hj:l[j]?=some v)
  (h:TO F P w0 K N dfs ops Q rest ((d,v)::σ) L):TO F P w0 K N dfs ops Q (⟨some d,.load t x,ty,pos,aft,g⟩::rest) σ L:=by
 obtain ⟨dd,hu,hrow⟩:=hT
 exact zd3 hg hd (by simp) (fun a w ha hw=>by
  obtain ⟨C,hC⟩:=hr.at hw hi
  have hc:w.cell? ⟨b,j,none⟩=some v:=ze4 hC.2 (by simpa using hj)
  cases dd <;> simp_all [execOp,ha.ev hx,Instr.loadAt,Instr.sureAddr,loadVar,isAgg,Sem.run_bind,run_underlying hu]) h
variable {α:Type} {enc:α→List Value} {size:Nat} {vv:Value} {xs:List α}
theorem zod {w:World} {C:Nat→Prop} (h:(vec enc e size vv xs).P C w):Vw vv xs size 0 vv xs:=by
 have hw:Holds w (fun _=>False) [vec enc e size vv xs] w→Vw vv xs size 0 vv xs:=fun hh=>zqb (k:=0) hh rfl
 have:Holds w C [vec enc e size vv xs] w:=⟨C,sepL.one h,Ext.refl _ _⟩
 exact zqb (k:=0) this rfl
theorem Rd.vw {w:World} (hr:Rd w K RD) (hi:RD[i]?=some (vec enc e size vv xs)):Vw vv xs size 0 vv xs:=by
 obtain ⟨C,hC,_⟩:=hr _ (List.mem_of_getElem? hi)
 exact zod hC
theorem zde [WideF F] {n j off:Nat} {q:α} (hr:Rd w0 K RD) (hi:RD[i]?=some (vec enc e size vv xs)) (hT:zcl P t) (hz:∀ x,(enc x).length=size) (hg:gd ops σ g=some true) (hd:d<N) (hx:ev σ x=some (.pointer (some ⟨zdz vv,off,none⟩)))
  (hq:xs[n]?=some q) (ho:off=n*size+j) (hj:j<size) (hv:(enc q)[j]?=some v) (h:TO F P w0 K N dfs ops Q rest ((d,v)::σ) L) :
  TO F P w0 K N dfs ops Q (⟨some d,.load t x,ty,pos,aft,g⟩::rest) σ L:=by
 subst ho
 obtain ⟨dd,hu,hr'⟩:=hT
 refine zd3 hg hd (by simp) (fun a w ha hw => ?_) h
 obtain ⟨C,hC⟩:=hr.at hw hi
 have hV:Vec enc e size vv xs C w:=hC
 have hc:=hV.cellAt hz hq hj hv
 have h1:=ha.ev hx
 cases dd <;> simp_all [execOp,Instr.loadAt,Instr.sureAddr,loadVar,isAgg,Sem.run_bind,run_underlying hu]
theorem zdT [WideF F] {m j off n:Nat} {q:α} {cs:List Value} (hr:Rd w0 K RD) (hi:RD[i]?=some (vec enc e size vv xs)) (hT:zh7 P t n) (hz:∀ x,(enc x).length=size) (hg:gd ops σ g=some true) (hd:d<N) (hx:ev σ x=some (.pointer (some ⟨zdz vv,off,none⟩)))
  (hq:xs[m]?=some q) (ho:off=m*size+j) (hcs:((enc q).drop j).take n=cs) (hn:cs.length=n)
  (h:TO F P w0 K N dfs ops Q rest ((d,.agg cs.toArray)::σ) L):TO F P w0 K N dfs ops Q (⟨some d,.load t x,ty,pos,aft,g⟩::rest) σ L:=by
 subst ho; subst hn
 obtain ⟨dd,hu,hr',hi'⟩:=hT
 refine zd3 hg hd (by simp) (fun a w ha hw => ?_) h
 obtain ⟨C,hC⟩:=hr.at hw hi
 have hV:Vec enc e size vv xs C w:=hC
 have hc:w.rangeAt (zdz vv) (m*size+j) cs:=fun n u hn=>by
  rw [← hcs] at hn
  rw [List.getElem?_take] at hn
  split at hn
  ·rw [List.getElem?_drop] at hn
   have hl:j+n<size:=by rw [← hz q]; exact (List.getElem?_eq_some_iff.1 hn).1
   have:=hV.cellAt hz hq hl hn
   rwa [← Nat.add_assoc] at this
  ·cases hn
 simp only [execOp,ha.ev hx,Sem.run_bind,run_loadAt_mid w _ _ t cs dd hc hu hr' hi']; rfl
end
end
section
variable {α η:Type} {enc:α×η→List Value} {nest:α×η→List Asn} {t:TypeId} {p:Value} {x:α}
def zlg (enc:α×η→List Value) (nest:α×η→List Asn) (t:TypeId) (p:Value):Option α→Asn
 | none=>fact (p=.pointer none)
 | some x=>exA fun bh:Nat×η=>zhG (fact (p=.pointer (some ⟨bh.1,0,none⟩))::cells bh.1 (enc (x,bh.2)) t::nest (x,bh.2))
theorem fact_sep {q:Prop} {L:List Asn} {C:Nat→Prop} {w:World}:sepL (fact q::L) C w↔q∧sepL L C w:=by
 constructor
 ·rintro ⟨C1,C2,⟨h1,hq⟩,h2,h3,h4⟩
  have:C=C2:=funext fun k=>propext ⟨fun h=>((h4 k).1 h).resolve_left (h1 k),fun h=>(h4 k).2 (.inr h)⟩
  subst this
  exact ⟨hq,h2⟩
 ·rintro ⟨hq,h⟩
  exact ⟨fun _=>False,C,⟨fun _ h=>h,hq⟩,h,fun _ h=>h.elim,fun k=>by simp⟩
theorem pobj_some {C:Nat→Prop} {w:World}:(zlg enc nest t p (some x)).P C w↔∃ b h,p=.pointer (some ⟨b,0,none⟩)∧sepL (cells b (enc (x,h)) t::nest (x,h)) C w:=by
 constructor
 ·rintro ⟨⟨b,h⟩,hh⟩
  obtain ⟨h1,h2⟩:=fact_sep.1 hh
  exact ⟨b,h,h1,h2⟩
 ·rintro ⟨b,h,h1,h2⟩
  exact ⟨⟨b,h⟩,fact_sep.2 ⟨h1,h2⟩⟩
theorem zxa {b:Nat} {hd:η} {w:World} {C:Nat→Prop} (h:sepL (cells b (enc (x,hd)) t::nest (x,hd)) C w):(zlg enc nest t (.pointer (some ⟨b,0,none⟩)) (some x)).P C w:=pobj_some.2 ⟨b,hd,rfl,h⟩
theorem zk9 {b:Nat} {hd:η}:Entl (cells b (enc (x,hd)) t::nest (x,hd)) (fun _:Unit=>[zlg enc nest t (.pointer (some ⟨b,0,none⟩)) (some x)]) (fun _=>True):=fun C w h=>⟨(),trivial,sepL.one1.2 (zxa h)⟩
theorem zso {m:Option α} {C:Nat→Prop} {w:World} (h:(zlg enc nest t p m).P C w):(m=none∧p=.pointer none)∨(∃ x b,m=some x∧p=.pointer (some ⟨b,0,none⟩)):=by
 cases m with
 | none=>exact .inl ⟨rfl,h.2⟩
 | some x=>obtain ⟨b,_,h2,_⟩:=pobj_some.1 h; exact .inr ⟨x,b,rfl,h2⟩
end
def zfl (s:zBA) (k:Nat):Nat:=match (pcs s.data.toList)[k]? with
 | some p=>p.i
 | none=>s.size
theorem zsm {s:zBA} {k:Nat} {p:Pc} (h:(pcs s.data.toList)[k]?=some p):zfl s k=p.i:=by simp [zfl,h]
theorem zsl (s:zBA):zfl s 0=0:=by
 unfold zfl
 by_cases h:s.data.toList=[]
 ·have:s.size=0:=by have:=congrArg List.length h; simpa using this
  simp [h,pcs,zcT,this]
 ·simp [pcs,zcU 0 _ h]
theorem zsn {s:zBA} {k:Nat} {p:Pc} (h:(pcs s.data.toList)[k]?=some p):zfl s (k+1)=p.i+p.w∧zdS p.i (s.data.toList.drop p.i)=p::(pcs s.data.toList).drop (k+1):=by
 have hk:k<(pcs s.data.toList).length:=(List.getElem?_eq_some_iff.1 h).1
 have he:pcs s.data.toList=(pcs s.data.toList).take k++p::(pcs s.data.toList).drop (k+1):=by
  have h1:=List.drop_eq_getElem_cons hk
  have h2:(pcs s.data.toList)[k]=p:=(List.getElem?_eq_some_iff.1 h).2
  rw [h2] at h1
  rw [← h1,List.take_append_drop]
 obtain ⟨q1,q2,q3,q4⟩:=zml s.data.toList _ p _ he
 have hlen:s.data.toList.length=s.size:=by rw [Array.length_toList]; rfl
 refine ⟨?_,q3⟩
 unfold zfl
 have hget:(pcs s.data.toList)[k+1]?=((pcs s.data.toList).drop (k+1))[0]?:=by simp
 rw [hget,q4]
 by_cases hd':s.data.toList.drop (p.i+p.w)=[]
 ·rw [hd',zcT]
  have h5:=congrArg List.length hd'
  simp only [List.length_drop,List.length_nil,hlen] at h5
  obtain ⟨_,h6,_⟩:=ziA s.data.toList p (List.mem_of_getElem? h)
  simp; omega
 ·rw [zcU _ _ hd']; simp
section
variable {F:Fence} {P:Program} {w0:World} {K:Nat→Prop} {N:Nat} {dfs:List Deferred} {ops:Array Oper} {Q:Exit→Act→World→Prop} {rest:List Oper} {σ:List (Nat×Value)} {L:List Asn}
 {d:Nat} {t:TypeId} {ty:TypeId} {pos:String} {aft:Array Edge} {g:Option (Nat×Bool)} {x:Operand} {k:Nat} {s:zBA}
theorem zc9 [WideF F] (ht:P.underlying t=some .string) (hg:gd ops σ g=some true) (hd:d<N) (hx:ev σ x=some (.string s))
  (h:∀ b,TO F P w0 K N dfs ops Q rest ((d,.pointer (some ⟨b,0,none⟩))::σ) (L++[obj b (.stringIter s (zfl s 0))])):TO F P w0 K N dfs ops Q (⟨some d,.range t x,ty,pos,aft,g⟩::rest) σ L :=
 zgd hg (by simp) fun a w ha hw=>⟨.pointer (some ⟨w.heap.size,0,none⟩),w.alloc (.stringIter s 0),by simp [execOp,ha.ev hx,Instr.range,run_underlying ht,Sem.run_bind],h _ _ _ (ha.put hd _) (by rw [zsl]; exact hw.alloc _)⟩
theorem zdy [WideF F] {it m:Nat} {p:Pc} (hg:gd ops σ g=some true) (hd:d<N) (hx:ev σ x=some (.pointer (some ⟨it,0,none⟩))) (hk:L[k]?=some (obj it (.stringIter s (zfl s m)))) (hp:(pcs s.data.toList)[m]?=some p)
  (h:TO F P w0 K N dfs ops Q rest ((d,.tuple #[.bool true,.int .i64 p.i,.int .i32 p.r])::σ) (L.set k (obj it (.stringIter s (zfl s (m+1)))))):TO F P w0 K N dfs ops Q (⟨some d,.next x true,ty,pos,aft,g⟩::rest) σ L:=by
 refine zgd hg (by simp) fun a w ha hw => ?_
 have hit:=hw.obj hk
 rw [zsm hp] at hit
 obtain ⟨h1,h2⟩:=zsn hp
 have hmem:=List.mem_of_getElem? hp
 obtain ⟨g1,g2,_⟩:=ziA s.data.toList p hmem
 have hlen:s.data.toList.length=s.size:=by rw [Array.length_toList]; rfl
 obtain ⟨r,wd,W1,e1,e2,e3,e4,e5,e6,e7,e8⟩:=ztJ P w it s p.i hit (by omega)
 rw [h2] at e6
 have hpe:p=⟨p.i,wd,r⟩:=(List.cons.inj e6).1
 have hw':p.w=wd:=congrArg Pc.w hpe
 have hr:p.r=r:=congrArg Pc.r hpe
 obtain ⟨C1,c1,c2⟩:=hw.focus hk
 refine ⟨.tuple #[.bool true,.int .i64 p.i,.int .i32 p.r],W1,by rw [hr]; simp [execOp,ha.ev hx,e1,Sem.run_bind],h _ _ (ha.put hd _) (c2 _ C1 W1 ⟨?_,fun j hj=>.inl hj⟩ ⟨c1.1,by rw [h1,hw']; exact e3⟩)⟩
 exact e2.weaken (fun i _ hi=>by subst hi; exact (c1.1 _).2 rfl)
theorem zeF [WideF F] {it m:Nat} (hg:gd ops σ g=some true) (hd:d<N) (hx:ev σ x=some (.pointer (some ⟨it,0,none⟩))) (hk:L[k]?=some (obj it (.stringIter s (zfl s m)))) (hm:(pcs s.data.toList).length≤m)
  (h:TO F P w0 K N dfs ops Q rest ((d,.tuple #[.bool false])::σ) L):TO F P w0 K N dfs ops Q (⟨some d,.next x true,ty,pos,aft,g⟩::rest) σ L:=by
 refine zgd hg (by simp) fun a w ha hw => ?_
 have hit:=hw.obj hk
 have e:zfl s m=s.size:=by simp [zfl,List.getElem?_eq_none hm]
 rw [e] at hit
 exact ⟨_,w,by simp [execOp,ha.ev hx,(ztK P w it s s.size hit (by omega)).1,Sem.run_bind],h _ _ (ha.put hd _) hw⟩
end
section
open Go.Shelf
attribute [local go_sem] Oper.semAt_some zsV znu znv
theorem zjP {a b:Bool} (h:a=b):Ending.returned (.bool a)=.returned (.bool b):=by rw [h]
theorem zmi {k:IntKind} {a b:Int} (h:a=b):Ending.returned (.int k a)=.returned (.int k b):=by rw [h]
end
def zt7 (r:Int):Bool:=decide (r % 2=0)
def znN (r:Int):Prop :=
 (65≤r∧r≤90)∨(0xC0≤r∧r≤0xDE∧r≠0xD7)∨(((0x100≤r∧r≤0x137)∨(0x14A≤r∧r≤0x177))∧r % 2=0)∨(0x139≤r∧r≤0x148∧r % 2=1)∨r=0x178 ∨
 (0x179≤r∧r≤0x17D∧r % 2=1)∨(0x386≤r∧r≤0x38F∧r≠0x387∧r≠0x38B∧r≠0x38D)∨(0x391≤r∧r≤0x3AB∧r≠0x3A2)∨(0x400≤r∧r≤0x42F)
instance (r:Int):Decidable (znN r):=by unfold znN; infer_instance
def zsx (r:Int):Bool:=decide (znN r)
def zoZ (r:Int):Prop :=
 (97≤r∧r≤122)∨(0xDF≤r∧r≤0xFF∧r≠0xF7)∨(((0x100≤r∧r≤0x137)∨(0x14A≤r∧r≤0x177))∧r % 2=1)∨r=0x138∨r=0x149∨r=0x17F∨r=0x390 ∨
 (0x139≤r∧r≤0x148∧r % 2=0)∨(0x17A≤r∧r≤0x17E∧r % 2=0)∨(0x3AC≤r∧r≤0x3CE)∨(0x430≤r∧r≤0x45F)
instance (r:Int):Decidable (zoZ r):=by unfold zoZ; infer_instance
def zu0 (r:Int):Bool:=decide (zoZ r)
def ztR (r:Int):Bool:=zsx r||zu0 r
def znm (r:Int):Int :=
 if !zsx r then r
 else if r=0x130 then 0x69 else if r=0x178 then 0xFF else if r=0x386 then 0x3AC else if r=0x38C then 0x3CC
 else if 0x388≤r∧r≤0x38A then r+0x25 else if r=0x38E∨r=0x38F then r+0x3F
 else if 0x400≤r∧r≤0x40F then r+0x50 else if r<0x100∨0x17F<r then r+0x20 else r+1
def zy6 (r:Int):Int :=
 if r<0∨(0xD800≤r∧r≤0xDFFF)∨0x10FFFF<r then 0
 else if ztR r then 1
 else if 0x300≤r∧r≤0x36F then 2
 else if 48≤r∧r≤57 then 3
 else if r=10∨r=13 then 4
 else if r=9∨r=32∨r=0xA0∨r=0x202F∨r=0x205F∨r=0x3000 then 5
 else if r=45∨(0x2010≤r∧r≤0x2015) then 6
 else if r=34∨r=39∨r=0xAB∨r=0xBB∨r=0x2039∨r=0x203A then 7
 else if r=33∨r=44∨r=46∨r=58∨r=59∨r=63∨r=0xA1∨r=0xB7∨r=0xBF∨r=0x2026 then 8
 else if 0x2000≤r∧r≤0x200A then 5
 else if 0x2018≤r∧r≤0x201F then 7
 else if r<0x20∨(0x7F≤r∧r≤0x9F)∨(0x200B≤r∧r≤0x200F)∨r=0xFEFF then 9
 else 10
def kind (r:Int):Int:=zy6 r
theorem zpp (r:Int):zsx r=true↔znN r:=by simp [zsx]
theorem ztc (r:Int):zu0 r=true↔zoZ r:=by simp [zu0]
section
open Go.Shelf
theorem zBu (r:Int) (h0 : -2147483648≤r) (h1:r≤2147483647):(bits BinOp.and IntKind.i32 r 1==0)=zt7 r:=by
 have hk:bits .and .i32 r 1=r % 2:=by
  have h1:(BitVec.ofInt 32 1).toNat=2 ^ 1 - 1:=by decide
  have key:(BitVec.ofInt 32 r &&& BitVec.ofInt 32 1).toNat=(r % ((2 ^ 32:Nat):Int)).toNat % 2 ^ 1:=by
   rw [BitVec.toNat_and,BitVec.toNat_ofInt,h1,Nat.and_two_pow_sub_one_eq_mod]
  show IntKind.i32.wrap ((BitVec.ofInt 32 r &&& BitVec.ofInt 32 1).toNat:Nat)=r % 2
  rw [key,IntKind.wrap_i32]
  omega
 rw [hk,zt7,Bool.eq_iff_iff]
 simp
theorem zrK (r:Int) (w:World) (h0 : -2147483648≤r) (h1:r≤2147483647) :
  Calls prog 119 #[.int .i32 r] w fun e w'=>e=.returned (.bool (zt7 r))∧w=w':=by
 go_enter func119,ntmps119
 go_wp2
 go_ret
 exact ⟨zjP (zBu r h0 h1),rfl⟩
set_option maxHeartbeats 1000000 in
theorem zmz (r:Int) (w:World) (h0 : -2147483648≤r) (h1:r≤2147483647) :
  Calls prog 107 #[.int .i32 r] w fun e w'=>e=.returned (.bool (zsx r))∧w=w':=by
 go_enter func107,ntmps107
 go_wp2_with (go_at_call 119; refine (zrK _ _ (by omega) (by omega)).mono ?_; rintro e w' ⟨rfl,rfl⟩)
 all_goals
  go_ret
  refine ⟨zjP ?_,rfl⟩
  (go_light; rw [Bool.eq_iff_iff]; (try simp only [zpp,znN,zt7,decide_eq_true_eq,bne_iff_ne,ne_eq,Bool.not_eq_true',decide_eq_false_iff_not,Bool.and_eq_true,Bool.or_eq_true,Bool.or_eq_false_iff,Bool.and_eq_false_iff,bne_eq_false_iff_eq,beq_iff_eq,beq_eq_false_iff_ne,Bool.false_eq_true,false_iff,true_iff,iff_true,iff_false,Bool.not_eq_false',Bool.not_true,Bool.not_false] at *); omega)
set_option maxHeartbeats 1000000 in
theorem ztd (r:Int) (w:World) (h0 : -2147483648≤r) (h1:r≤2147483647) :
  Calls prog 118 #[.int .i32 r] w fun e w'=>e=.returned (.bool (zu0 r))∧w=w':=by
 go_enter func118,ntmps118
 go_wp2_with (go_at_call 119; refine (zrK _ _ (by omega) (by omega)).mono ?_; rintro e w' ⟨rfl,rfl⟩)
 all_goals
  go_ret
  refine ⟨zjP ?_,rfl⟩
  (go_light; rw [Bool.eq_iff_iff]; (try simp only [ztc,zoZ,zt7,decide_eq_true_eq,bne_iff_ne,ne_eq,Bool.not_eq_true',decide_eq_false_iff_not,Bool.and_eq_true,Bool.or_eq_true,Bool.or_eq_false_iff,Bool.and_eq_false_iff,bne_eq_false_iff_eq,beq_iff_eq,beq_eq_false_iff_ne,Bool.false_eq_true,false_iff,true_iff,iff_true,iff_false,Bool.not_eq_false',Bool.not_true,Bool.not_false] at *); omega)
theorem zst (r:Int) (w:World) (h0 : -2147483648≤r) (h1:r≤2147483647) :
  Calls prog 104 #[.int .i32 r] w fun e w'=>e=.returned (.bool (ztR r))∧w=w':=by
 go_enter func104,ntmps104
 go_wp2_with (first | (go_at_call 107; refine (zmz _ _ (by omega) (by omega)).mono ?_; rintro e w' ⟨rfl,rfl⟩) | (go_at_call 118; refine (ztd _ _ (by omega) (by omega)).mono ?_; rintro e w' ⟨rfl,rfl⟩))
 all_goals
  go_ret
  refine ⟨zjP ?_,rfl⟩
  go_light
  simp_all [ztR]
set_option maxHeartbeats 1000000 in
theorem ztP (r:Int) (w:World) (h0 : -2147483648≤r) (h1:r≤2147483647) :
  Calls prog 79 #[.int .i32 r] w fun e w'=>e=.returned (.int .i32 (znm r))∧w=w':=by
 by_cases hg:zsx r=true
 ·have hb:r≤2000∧0≤r:=by rw [zpp] at hg; unfold znN at hg; omega
  have hb1:=hb.1; have hb2:=hb.2; clear hb
  go_enter func79,ntmps79
  go_wp2_with (go_at_call 107; refine (zmz _ _ (by omega) (by omega)).mono ?_; rintro e w' ⟨rfl,rfl⟩)
  all_goals
   go_ret
   refine ⟨zmi ?_,rfl⟩
   go_light
   grind [znm]
 ·go_enter func79,ntmps79
  go_wp2_with (go_at_call 107; refine (zmz _ _ (by omega) (by omega)).mono ?_; rintro e w' ⟨rfl,rfl⟩)
  all_goals
   go_ret
   refine ⟨zmi ?_,rfl⟩
   go_light
   simp_all [znm]
theorem zvi (r:Int) (w:World) (h0 : -2147483648≤r) (h1:r≤2147483647) :
  Calls prog 105 #[.int .i32 r] w fun e w'=>e=.returned (.bool (decide (0x300≤r∧r≤0x36F)))∧w=w':=by
 go_enter func105,ntmps105
 go_wp2
 all_goals
  go_ret
  refine ⟨zjP ?_,rfl⟩
  (go_light; rw [Bool.eq_iff_iff]; simp only [decide_eq_true_eq,bne_iff_ne,ne_eq,Bool.not_eq_true',decide_eq_false_iff_not,Bool.and_eq_true,Bool.or_eq_true,Bool.or_eq_false_iff,Bool.and_eq_false_iff,bne_eq_false_iff_eq,beq_iff_eq,beq_eq_false_iff_ne,Bool.false_eq_true,false_iff,true_iff,iff_true,iff_false,Bool.not_eq_false',Bool.not_true,Bool.not_false] at *; omega)
end
section
open Go.Shelf
theorem zjZ (r:Int) (w:World) (h0 : -2147483648≤r) (h1:r≤2147483647) :
  Calls prog 76 #[.int .i32 r] w fun e w'=>e=.returned (.int .i64 (kind r))∧w=w':=by
 go_enter func76,ntmps76
 go_wp2_with (first | (go_at_call 104; refine (zst _ _ (by omega) (by omega)).mono ?_; rintro e w' ⟨rfl,rfl⟩) | (go_at_call 105; refine (zvi _ _ (by omega) (by omega)).mono ?_; rintro e w' ⟨rfl,rfl⟩))
 all_goals
  go_ret
  refine ⟨zmi ?_,rfl⟩
  go_light
  try simp only [decide_eq_true_eq,bne_iff_ne,ne_eq,Bool.not_eq_true',decide_eq_false_iff_not,Bool.and_eq_true,Bool.or_eq_true,Bool.or_eq_false_iff,Bool.and_eq_false_iff,bne_eq_false_iff_eq,beq_iff_eq,beq_eq_false_iff_ne,Bool.false_eq_true,false_iff,true_iff,iff_true,iff_false,Bool.not_eq_false',Bool.not_true,Bool.not_false] at *
  grind [kind,zy6]
def zd2 (b:Bool) (r:Int):Int:=if b then 11 else kind r
theorem zy1 (i wd r:Int) (b:Bool) (w:World) (h0 : -2147483648≤r) (h1:r≤2147483647) :
  Calls prog 99 #[.agg #[.int .i64 i,.int .i64 wd,.int .i32 r,.bool b]] w fun e w'=>e=.returned (.int .i64 (zd2 b r))∧Below w.heap.size w w':=by
 cases b
 ·go_enter func99,ntmps99
  go_wp2_with (go_at_call 76; refine (zjZ _ _ (by omega) (by omega)).mono ?_; rintro e w' ⟨rfl,rfl⟩)
  go_ret
  exact ⟨zmi (by simp [zd2]),(Below.refl _ _).alloc (Nat.le_refl _) _⟩
 ·go_enter func99,ntmps99
  go_wp2_with (go_at_call 76; refine (zjZ _ _ (by omega) (by omega)).mono ?_; rintro e w' ⟨rfl,rfl⟩)
  go_ret
  exact ⟨zmi (by simp [zd2]),(Below.refl _ _).alloc (Nat.le_refl _) _⟩
end
section
open Go.Shelf
attribute [local go_sem] Oper.semAt_some zsV znu znv
theorem znK:∀ (f i:Nat) (l:List UInt8),∀ p∈zsp f i l,p.r≤1114111
 | 0,_,_,p,h=>by simp [zsp] at h
 | f+1,i,l,p,h=>by
  unfold zsp at h
  split at h
  ·simp at h
  ·rcases List.mem_cons.1 h with rfl | h
   ·exact zqL l
   ·exact znK f _ _ p h
theorem zxc (l:List UInt8):∀ p∈pcs l,p.r≤1114111:=znK _ _ _
end
section
open Go.Shelf
attribute [local go_sem] Oper.semAt_some
end
structure Rn where
 f:Nat
 t:Nat
 k:Int
 deriving DecidableEq
def pk (p:Pc):Int:=zd2 p.broken p.r
def pcV (p:Pc):List Value:=[.int .i64 p.i,.int .i64 p.w,.int .i32 p.r,.bool p.broken]
def pcA (p:Pc):List Value:=[.agg (pcV p).toArray]
theorem zwo (i wd r:Int) (b:Bool) (h0 : -2147483648≤r) (h1:r≤2147483647):FnP prog 99 [.agg #[.int .i64 i,.int .i64 wd,.int .i32 r,.bool b]] (.int .i64 (zd2 b r)):=fun w=>zy1 i wd r b w h0 h1
section
open Go.Shelf

end
section
open Go.Shelf

end
section
open Go.Shelf

end

section
open Go.Shelf
attribute [local go_sem] Oper.semAt_some
theorem zzG:(prog.info? 5).map (fun i=>(i.zero,i.size,i.bytes))=some (some (.int .u8 0),1,1):=by kernel_rfl
theorem zzI:∃ j,prog.info? 146=some j∧j.size≠0:=by
 have h:(prog.info? 146).map (fun j=>decide (j.size≠0))=some true:=by kernel_rfl
 cases hj:prog.info? 146 with
 | none=>rw [hj] at h; simp at h
 | some j=>rw [hj] at h; exact ⟨j,rfl,by simpa using h⟩
theorem zpJ (b:Nat) (v:Value) (w:World) (h:w.heap[b]?=some (.cells #[.pointer none,v] 146 (0,0))) :
  Calls prog 92 #[.pointer (some ⟨b,0,none⟩)] w fun e w'=>e=.returned (.tuple #[])∧w'=w.setCell ⟨b,0,none⟩ (.pointer (some ⟨b,0,none⟩)):=by
 have c0:w.cell? ⟨b,0,none⟩=some (.pointer none):=ze4 h rfl
 have f0:=zmD h 0
 have hsh:w.shape? b=some (146,2):=by simp [World.shape?,h]
 obtain ⟨j,hj,hjs⟩:=zzI
 clear h
 go_enter func92,ntmps92
 go_wp2
 rw [Lib.run_to_unsafe w ⟨b,0,none⟩ (t:=146) kr kr hj hjs hsh (Nat.zero_lt_succ 1)]
 simp only [Result.andThen]
 rw [Oper.upon_value]
 go_wp2
 rw [run_callFunc_extern func115 kr kr kr (e:=Extern.AbiNoEscape.same) kr]
 rw [Lib.run_noEscape]
 simp only [Result.andThen]
 rw [Oper.upon_value]
 go_wp2
 rw [Lib.run_from_unsafe w ⟨b,0,none⟩ (u:=146) kr kr hj hsh kr]
 simp only [Result.andThen]
 rw [Oper.upon_value]
 go_wp2
 go_end0
 exact ⟨rfl,rfl⟩
theorem zsI (b:Nat) (v:Value) (w:World) (h:w.heap[b]?=some (.cells #[.pointer (some ⟨b,0,none⟩),v] 146 (0,0))) :
  Calls prog 92 #[.pointer (some ⟨b,0,none⟩)] w fun e w'=>e=.returned (.tuple #[])∧w'=w:=by
 have c0:w.cell? ⟨b,0,none⟩=some (.pointer (some ⟨b,0,none⟩)):=ze4 h rfl
 obtain ⟨j,hj,hjs⟩:=zzI
 clear h
 go_enter func92,ntmps92
 go_wp2
 rw [Lib.run_neq_ptr_same w _ (te:=146) kr hj]
 go_wp2
 go_end0
 exact ⟨rfl,rfl⟩
def Bld (b:Nat) (bs:zBA) (C:Nat→Prop) (w:World):Prop :=
 ∃ p v D,w.heap[b]?=some (.cells #[p,v] 146 (0,0))∧(p=.pointer none∨p=.pointer (some ⟨b,0,none⟩))∧Byt 5 v bs D w∧¬ D b∧C=(fun k=>k=b∨D k)
theorem Bld.local {b:Nat} {bs:zBA} {C:Nat→Prop} {w w':World} (h:Bld b bs C w) (hk:∀ k,C k→w'.heap[k]?=w.heap[k]?):Bld b bs C w':=by
 obtain ⟨p,v,D,h1,h2,h3,h4,rfl⟩:=h
 exact ⟨p,v,D,(hk b (.inl rfl)).trans h1,h2,h3.local (fun k h=>hk k (.inr h)),h4,rfl⟩
theorem Bld.lt {b:Nat} {bs:zBA} {C:Nat→Prop} {w:World} (h:Bld b bs C w):∀ k,C k→k<w.heap.size:=by
 obtain ⟨p,v,D,h1,h2,h3,h4,rfl⟩:=h
 rintro k (rfl | hk)
 ·exact zcM h1
 ·exact h3.lt k hk
theorem zl2 (b:Nat) (bs s:zBA) (C:Nat→Prop) (w:World) (h:Bld b bs C w) (hn:bs.size+s.size≤140737488355328) :
  Calls prog 59 #[.pointer (some ⟨b,0,none⟩),.string s] w fun e w'=>(∃ u,e=.returned u)∧∃ C',Bld b (bs++s) C' w'∧Ext C C' w w':=by
 obtain ⟨p,v,D,hbk,hp,hbr,hne,rfl⟩:=h
 obtain ⟨ip,hpi,hpz,hps,hpb⟩:=info_parts zzG
 obtain ⟨w1,hck,hb1,hbr1,hx1⟩:∃ w1,(Calls prog 92 #[.pointer (some ⟨b,0,none⟩)] w fun e w'=>e=.returned (.tuple #[])∧w'=w1) ∧
   w1.heap[b]?=some (.cells #[.pointer (some ⟨b,0,none⟩),v] 146 (0,0))∧Byt 5 v bs D w1∧Ext (fun k=>k=b∨D k) (fun k=>k=b∨D k) w w1:=by
  rcases hp with rfl | rfl
  ·have hx:Ext (fun k=>k=b) (fun k=>k=b) w (w.setCell ⟨b,0,none⟩ (.pointer (some ⟨b,0,none⟩))):=Ext.setCell (C':=fun k=>k=b) (Ext.refl _ _) (p:=⟨b,0,none⟩) rfl _
   refine ⟨_,zpJ b v w hbk,?_,hbr.ext hx (by rintro k hk rfl; exact hne hk),Ext.setCell (C':=fun k=>k=b∨D k) (Ext.refl _ _) (p:=⟨b,0,none⟩) (.inl rfl) _⟩
   simp [World.setCell,Array.getElem?_modify,hbk]
  ·exact ⟨w,zsI b v w hbk,hbk,hbr,Ext.refl _ _⟩
 have c1:w1.cell? ⟨b,1,none⟩=some v:=ze4 hb1 rfl
 have hlt:b<w1.heap.size:=zcM hb1
 have Hbk:=Lib.hid hbk; have Hbr:=Lib.hid hbr; have Hx1:=Lib.hid hx1
 clear hbk hbr hx1
 go_enter func59,ntmps59
 go_wp2_with (first | (go_at_call 92; refine hck.mono ?_; rintro e w' ⟨rfl,rfl⟩) | (refine zky _ rfl _ _ _ _ rfl 5 _ kr kr hpi hpz hps hpb _ _ _ rfl hbr1 _ rfl hn ?_))
 rintro v' w2 D' hr2 hx2
 have hb2:w2.heap[b]?=some (.cells #[.pointer (some ⟨b,0,none⟩),v] 146 (0,0)):=(hx2.1.keep b hlt hne).trans hb1
 have f1:=zmD hb2 1
 have d1:w2.cell? ⟨b,1,none⟩=some v:=ze4 hb2 rfl
 have hne':¬ D' b:=hx2.not hlt hne
 obtain ⟨ao,n',cap',rfl⟩:∃ ao n' cap',v'=.slice ao n' cap':=by
  rcases hr2.shape with ⟨rfl,_⟩ | ⟨g,cap,cur,rfl,_⟩ <;> exact ⟨_,_,_,rfl⟩
 have Hr2:=Lib.hid hr2; have Hx2:=Lib.hid hx2; have Hb2:=Lib.hid hb2
 clear hr2 hx2 hb2
 go_wp2
 go_ret2
 have hx3:Ext (fun k=>k=b∨D' k) (fun k=>k=b∨D' k) w2 (w2.setCell ⟨b,1,none⟩ (.slice ao n' cap')):=Ext.setCell (C':=fun k=>k=b∨D' k) (Ext.refl _ _) (p:=⟨b,1,none⟩) (.inl rfl) _
 have hx3':Ext (fun k=>k=b) (fun k=>k=b) w2 (w2.setCell ⟨b,1,none⟩ (.slice ao n' cap')):=Ext.setCell (C':=fun k=>k=b) (Ext.refl _ _) (p:=⟨b,1,none⟩) rfl _
 refine ⟨⟨_,rfl⟩,fun k=>k=b∨D' k,⟨_,_,D',?_,.inr rfl,Hr2.out.ext hx3' (by rintro k hk rfl; exact hne' hk),hne',rfl⟩,?_⟩
 ·simp [World.setCell,Array.getElem?_modify,Hb2.out]
 ·refine (Hx1.out.trans ?_).trans hx3
  exact ⟨Hx2.out.1.weaken (fun k _ h=>.inr h),fun k hk=>by
   rcases hk with rfl | hk
   ·exact .inl (.inl rfl)
   ·exact (Hx2.out.2 k hk).imp .inr id⟩
theorem zsz {C C':Nat→Prop} {a w:World} (h:Ext C C' a w) {g:Nat} (hg:C' g) (m:Nat):Ext C C' a (w.freeze ⟨g,0,none⟩ m):=by
 unfold World.freeze
 split
 ·exact h
 ·have hs:∀ f:Obj→Obj,({ w with heap:=w.heap.modify g f }:World).heap.size=w.heap.size:=fun f=>by simp
  refine ⟨⟨h.1.os,h.1.tape,h.1.output,by simpa using h.1.size,fun k hk hn => ?_⟩,fun k hk=>by simpa using h.2 k hk⟩
  rw [Array.getElem?_modify]
  rw [if_neg]
  ·exact h.1.keep k hk hn
  ·intro e
   have e':g=k:=e
   subst e'
   rcases h.2 _ hg with h' | h'
   ·exact hn h'
   ·omega
theorem zqR (b:Nat) (bs:zBA) (C:Nat→Prop) (w:World) (h:Bld b bs C w) :
  Calls prog 61 #[.pointer (some ⟨b,0,none⟩)] w fun e w'=>e=.returned (.string bs)∧Ext C C w w':=by
 obtain ⟨p,v,D,hbk,hp,hbr,hne,rfl⟩:=h
 rcases hbr.shape with ⟨rfl,rfl,rfl⟩ | ⟨g,cap,cur,rfl,hgl,hbc,hcm,rfl,hg⟩
 ·have c1:w.drew.cell? ⟨b,1,none⟩=some (.slice none 0 0):=ze4 (w:=w.drew) hbk rfl
  have hSD:(Builtin.unsafeSliceData_ #[144] 202 #[.slice none 0 0]).run prog w.drew=.ok (.pointer none) w.drew:=rfl
  have hUS:∀ W q,(Builtin.unsafeString_ #[202,3] 9 #[.pointer q,.int .i64 0]).run prog W=.ok (.string .empty) W:=fun W q=>Lib.run_unsafeString_none W _ _ _ q
  clear hbk hbr
  go_enter func61,ntmps61
  go_wp2
  go_region
  all_goals (go_wp2; go_ret; exact ⟨rfl,(Ext.refl _ _).drew⟩)
 ·by_cases h0:bs.size=0
  ·have hbs:bs=⟨#[]⟩:=by apply ByteArray.ext; exact Array.eq_empty_of_size_eq_zero h0
   subst hbs
   have h00:(⟨#[]⟩:zBA).size=0:=rfl
   rw [h00] at hbk hbr
   have hUS:∀ W q,(Builtin.unsafeString_ #[202,3] 9 #[.pointer q,.int .i64 0]).run prog W=.ok (.string .empty) W:=fun W q=>Lib.run_unsafeString_none W _ _ _ q
   have c1:w.drew.cell? ⟨b,1,none⟩=some (.slice (some ⟨g,0,none⟩) 0 cap):=ze4 (w:=w.drew) hbk rfl
   by_cases hc0:cap=0
   ·subst hc0
    have hSD:(Builtin.unsafeSliceData_ #[144] 202 #[.slice (some ⟨g,0,none⟩) 0 0]).run prog w.drew=.ok (.pointer (some ⟨w.drew.heap.size,0,none⟩)) (w.drew.alloc (.view ⟨g,0,none⟩ 5)) :=
     Lib.run_unsafeSliceData_zero w.drew _ _ 5 kr ⟨g,0,none⟩ 0 (5,cur.size) (by have hg':w.drew.heap[g]?=some (.cells cur 5 (0,0)):=hg; simp [World.shape?,hg'])
    have hlt:=zcM hbk
    have c2:(w.drew.alloc (.view ⟨g,0,none⟩ 5)).cell? ⟨b,1,none⟩=some (.slice (some ⟨g,0,none⟩) 0 0):=ze4 (w:=w.drew.alloc _) ((Below.heap_alloc w.drew _ b hlt).trans hbk) rfl
    have c3:(w.alloc (.view ⟨g,0,none⟩ 5)).drew.cell? ⟨b,1,none⟩=some (.slice (some ⟨g,0,none⟩) 0 0):=c2
    have c0:w.cell? ⟨b,1,none⟩=some (.slice (some ⟨g,0,none⟩) 0 0):=c1
    clear hbk hbr hg
    go_enter func61,ntmps61
    go_wp2
    go_region
    all_goals (go_wp2; go_ret; exact ⟨rfl,(Ext.refl _ _).drew.alloc _⟩)
   ·have hSD:(Builtin.unsafeSliceData_ #[144] 202 #[.slice (some ⟨g,0,none⟩) 0 cap]).run prog w.drew=.ok (.pointer (some ⟨g,0,none⟩)) w.drew:=Lib.run_unsafeSliceData_row _ _ _ _ _ _ hc0
    clear hbk hbr hg hc0
    go_enter func61,ntmps61
    go_wp2
    go_region
    all_goals (go_wp2; go_ret; exact ⟨rfl,(Ext.refl _ _).drew⟩)
  ·obtain ⟨l,hl⟩:∃ l,l=bs.data.toList:=⟨_,rfl⟩
   have hll:l.length=bs.size:=by rw [hl,Array.length_toList]; rfl
   have hbs:bs=⟨l.toArray⟩:=by rw [hl]
   have hl0:l≠[]:=by intro e; rw [e] at hll; exact h0 hll.symm
   rw [← hll] at hbk hbc hbr
   have c1:w.drew.cell? ⟨b,1,none⟩=some (.slice (some ⟨g,0,none⟩) l.length cap):=ze4 (w:=w.drew) hbk rfl
   have hSD:(Builtin.unsafeSliceData_ #[144] 202 #[.slice (some ⟨g,0,none⟩) l.length cap]).run prog w.drew=.ok (.pointer (some ⟨g,0,none⟩)) w.drew :=
    Lib.run_unsafeSliceData_row _ _ _ _ _ _ (by omega)
   have hcs:cur.size=cap*1:=by
    rcases hbr.1.2 with ⟨h1,_⟩ | ⟨g',cap',cur',h1,_,h3,_,_,h6,_⟩
    ·cases h1
    ·have e1:g=g':=by injection h1 with q1 q2 q3; injection q1 with q1; injection q1
     have e2:cap=cap':=by injection h1
     subst e1; subst e2
     rw [hg] at h3; injection h3 with h3; injection h3 with h3
     rw [h3]; exact h6
   have hUS:(Builtin.unsafeString_ #[202,3] 9 #[.pointer (some ⟨g,0,none⟩),.int .i64 l.length]).run prog w.drew=.ok (.string ⟨l.toArray⟩) (w.drew.freeze ⟨g,0,none⟩ l.length):=by
    refine Lib.run_unsafeString_row w.drew 202 3 9 5 kr kr g cur.size (by have hg':w.drew.heap[g]?=some (.cells cur 5 (0,0)):=hg; simp [World.shape?,hg']) l hl0 (by omega) (by unfold maxLen at hcm; omega) ?_
    intro j x hx
    refine World.ownsRow.cells hbr.1 (g:=g) rfl j (.int .u8 x.toNat) ?_
    unfold strCells
    rw [List.getElem?_map,← hl,hx]; rfl
   rw [hbs]
   have hx:Ext (fun k=>k=b∨k=g) (fun k=>k=b∨k=g) w (w.drew.freeze ⟨g,0,none⟩ l.length):=zsz ((Ext.refl _ _).drew) (.inr rfl) _
   have Hx:=Lib.hid hx
   clear hbk hbr hg hx hbs hll hcs
   clear hl
   go_enter func61,ntmps61
   go_wp2
   go_region
   all_goals (go_wp2; go_ret; exact ⟨rfl,Hx.out⟩)
end
section
open Go.Shelf
attribute [local go_sem] Oper.semAt_some
theorem ztY {b:Nat} {p:Value} {w:World} {cs:Array Value} (hp:p=.pointer none∨p=.pointer (some ⟨b,0,none⟩)) (hbk:w.heap[b]?=some (.cells #[p,.slice none 0 0] 146 (0,0))) (hm:cs.size≤maxLen) :
  ∃ C',Bld b ⟨#[]⟩ C' ((w.setCell ⟨b,1,none⟩ (.slice (some ⟨w.heap.size,0,none⟩) 0 cs.size)).alloc (.cells cs 5)).drew.drew.drew∧Ext (fun k=>k=b) C' w ((w.setCell ⟨b,1,none⟩ (.slice (some ⟨w.heap.size,0,none⟩) 0 cs.size)).alloc (.cells cs 5)).drew.drew.drew:=by
 have hlt:b<w.heap.size:=zcM hbk
 have hsz:(w.setCell ⟨b,1,none⟩ (.slice (some ⟨w.heap.size,0,none⟩) 0 cs.size)).heap.size=w.heap.size:=by simp [World.setCell]
 have hb2:(w.setCell ⟨b,1,none⟩ (.slice (some ⟨w.heap.size,0,none⟩) 0 cs.size)).heap[b]?=some (.cells #[p,.slice (some ⟨w.heap.size,0,none⟩) 0 cs.size] 146 (0,0)):=by
  simp [World.setCell,Array.getElem?_modify,hbk]
 have hx:Ext (fun k=>k=b) (fun k=>k=b) w (w.setCell ⟨b,1,none⟩ (.slice (some ⟨w.heap.size,0,none⟩) 0 cs.size)):=Ext.setCell (C':=fun k=>k=b) (Ext.refl _ _) (p:=⟨b,1,none⟩) rfl _
 generalize w.setCell ⟨b,1,none⟩ (.slice (some ⟨w.heap.size,0,none⟩) 0 cs.size)=W at hsz hb2 hx ⊢
 refine ⟨fun k=>k=b∨k=w.heap.size,⟨p,.slice (some ⟨w.heap.size,0,none⟩) 0 cs.size,fun k=>k=w.heap.size,?_,hp,?_,(fun e:b=w.heap.size=>by omega),rfl⟩,?_⟩
 ·exact (Lib.alloc_old W _ b (by omega)).trans hb2
 ·refine ⟨⟨rfl,.inr ⟨w.heap.size,cs.size,cs,rfl,Nat.zero_le _,?_,Nat.zero_le _,hm,(Nat.mul_one _).symm,?_⟩⟩,?_⟩
  ·show (W.alloc (.cells cs 5)).heap[w.heap.size]?=_
   rw [← hsz]; exact World.alloc_heap_new W _
  ·show cs.toList.take (0*1)=_
   rw [Nat.zero_mul,List.take_zero]; rfl
  ·funext k; simp [Value.ownBlock,eq_comm]
 ·have h1:Ext (fun k=>k=b) (fun k=>k=b∨k=w.heap.size) w (W.alloc (.cells cs 5)) :=
   ⟨hx.1.alloc _,fun k hk=>by
    rcases hk with rfl | rfl
    ·exact .inl rfl
    ·exact .inr ⟨Nat.le_refl _,by simp; omega⟩⟩
  exact h1.drew.drew.drew
theorem zux (b n:Nat) (w:World) (hbk:w.heap[b]?=some (.cells #[.pointer (some ⟨b,0,none⟩),.slice none 0 0] 146 (0,0))) (hn:n≤140737488355328) :
  Calls prog 93 #[.pointer (some ⟨b,0,none⟩),.int .i64 n] w fun e w'=>e=.returned (.tuple #[])∧∃ C',Bld b ⟨#[]⟩ C' w'∧Ext (fun k=>k=b) C' w w':=by
 obtain ⟨cs,hrun,hle,hmax⟩:=Lib.run_makeNoZero (P:=prog) w.drew #[3] 144 5 underlying144 n (by omega)
 have hw:IntKind.i64.wrap (IntKind.i64.wrap 0+(n:Int))=n:=by
  rw [IntKind.wrap_i64,IntKind.wrap_i64]
  omega
 have hcall:(callFunc 116 #[.int .i64 (IntKind.i64.wrap (IntKind.i64.wrap 0+(n:Int)))]).run prog w.drew=.ok (.value (.slice (some ⟨w.drew.heap.size,0,none⟩) n cs.size)) (w.drew.drew.drew.alloc (.cells cs 5)):=by
  rw [hw,run_callFunc_extern func116 kr kr kr (e:=Extern.BytealgMakeNoZero.makeNoZero #[3] #[144]) kr,hrun]
  rfl
 have hlt:b<w.heap.size:=zcM hbk
 have c1:w.drew.cell? ⟨b,1,none⟩=some (.slice none 0 0):=ze4 (w:=w.drew) hbk rfl
 have c2:(w.alloc (.cells cs 5)).cell? ⟨b,1,none⟩=some (.slice none 0 0):=ze4 ((Lib.alloc_old w _ b hlt).trans hbk) rfl
 have f2:(w.alloc (.cells cs 5)).frozen? ⟨b,1,none⟩=false:=zmD ((Lib.alloc_old w _ b hlt).trans hbk) 1
 have hcopy:∀ W:World,(Builtin.copy_ #[144,144] 3 #[.slice (some ⟨w.heap.size,0,none⟩) 0 cs.size,.slice none 0 0]).run prog W=.ok (goInt 0) W :=
  fun W=>run_copy_none W 144 144 3 5 _ _ 0 cs.size 0 0 underlying144 kr rfl
 clear hw
 have hfin:=ztY (cs:=cs) (.inr rfl) hbk (hmax (by unfold maxLen; omega))
 clear hbk
 go_enter func93,ntmps93
 go_wp2
 go_region
 all_goals (go_wp2; go_end0; exact ⟨rfl,hfin⟩)
theorem Bld.drew {b:Nat} {bs:zBA} {C:Nat→Prop} {w:World} (h:Bld b bs C w):Bld b bs C w.drew:=h.local (fun _ _=>rfl)
theorem zuB (b n:Nat) (w:World) (hbk:w.heap[b]?=some (.cells #[.pointer none,.slice none 0 0] 146 (0,0))) (hn:n≤140737488355328) :
  Calls prog 58 #[.pointer (some ⟨b,0,none⟩),.int .i64 n] w fun e w'=>e=.returned (.tuple #[])∧∃ C',Bld b ⟨#[]⟩ C' w'∧Ext (fun k=>k=b) C' w w':=by
 have hck:=zpJ b (.slice none 0 0) w hbk
 have hbk1:(w.setCell ⟨b,0,none⟩ (.pointer (some ⟨b,0,none⟩))).heap[b]?=some (.cells #[.pointer (some ⟨b,0,none⟩),.slice none 0 0] 146 (0,0)):=by
  simp [World.setCell,Array.getElem?_modify,hbk]
 have hx:Ext (fun k=>k=b) (fun k=>k=b) w (w.setCell ⟨b,0,none⟩ (.pointer (some ⟨b,0,none⟩))):=Ext.setCell (C':=fun k=>k=b) (Ext.refl _ _) (p:=⟨b,0,none⟩) rfl _
 have hU:Bld b ⟨#[]⟩ (fun k=>k=b) (w.setCell ⟨b,0,none⟩ (.pointer (some ⟨b,0,none⟩))):=⟨_,_,_,hbk1,.inr rfl,Byt.nil,by simp,by funext k; simp⟩
 have hG:=zux b n (w.setCell ⟨b,0,none⟩ (.pointer (some ⟨b,0,none⟩))).drew hbk1 hn
 have c1:(w.setCell ⟨b,0,none⟩ (.pointer (some ⟨b,0,none⟩))).cell? ⟨b,1,none⟩=some (.slice none 0 0):=ze4 hbk1 rfl
 have c1':(w.setCell ⟨b,0,none⟩ (.pointer (some ⟨b,0,none⟩))).drew.cell? ⟨b,1,none⟩=some (.slice none 0 0):=c1
 clear hbk hbk1
 go_enter func58,ntmps58
 go_wp2_with (go_at_call 92; refine hck.mono ?_; rintro e w' ⟨rfl,rfl⟩)
 go_region
 all_goals go_wp2_with (go_at_call 93; refine hG.mono ?_; rintro e w' ⟨rfl,C',h1,h2⟩)
 all_goals first
  | (go_end0; exact ⟨rfl,C',h1,hx.drew.trans h2⟩)
  | (go_end0; exact ⟨rfl,_,hU.drew,hx.drew⟩)
def zqS (b:Nat) (bs:zBA):Asn:=⟨fun C w=>Bld b bs C w,fun h=>h.lt,fun h _ hk=>h.local hk⟩
theorem zxo (b:Nat) (n:Int) (h0:0≤n) (hn:n≤140737488355328):Fn prog 58 [.pointer (some ⟨b,0,none⟩),.int .i64 n] [cells b [.pointer none,.slice none 0 0] 146] (fun _:Unit=>.tuple #[]) (fun _=>[zqS b ⟨#[]⟩]):=by
 intro w C hA
 have h:=sepL.one1.1 hA
 have hC:C=fun k=>k=b:=funext fun k=>propext (h.1 k)
 subst hC
 obtain ⟨m,rfl⟩:∃ m:Nat,n=m:=⟨n.toNat,by omega⟩
 refine (zuB b m w h.2 (by omega)).mono ?_
 rintro e w' ⟨rfl,C',h1,h2⟩
 exact ⟨(),rfl,C',sepL.one1.2 h1,h2⟩
theorem zjp (b:Nat) (bs s:zBA) (hn:bs.size+s.size≤140737488355328):Fn prog 59 [.pointer (some ⟨b,0,none⟩),.string s] [zqS b bs] (fun u:Value=>u) (fun _=>[zqS b (bs++s)]):=by
 intro w C hA
 refine (zl2 b bs s C w (sepL.one1.1 hA) hn).mono ?_
 rintro e w' ⟨⟨u,rfl⟩,C',h1,h2⟩
 exact ⟨u,rfl,C',sepL.one1.2 h1,h2⟩
theorem zus (b:Nat) (bs:zBA):Fn prog 61 [.pointer (some ⟨b,0,none⟩)] [zqS b bs] (fun _:Unit=>.string bs) (fun _=>[]):=by
 intro w C hA
 refine (zqR b bs C w (sepL.one1.1 hA)).mono ?_
 rintro e w' ⟨rfl,h2⟩
 exact ⟨(),rfl,fun _=>False,fun _ h=>h,h2.1,fun k hk=>hk.elim⟩
theorem zsO {b:Nat}:Ent (cells b [.pointer none,.slice none 0 0] 146) (zqS b ⟨#[]⟩):=by
 intro C w h
 have hC:C=fun k=>k=b:=funext fun k=>propext (h.1 k)
 subst hC
 exact ⟨_,_,_,h.2,.inl rfl,Byt.nil,by simp,by funext k; simp⟩
end
section
variable {α:Type} {enc:α→List Value} {size k:Nat} {vv:Value} {xs:List α}
def zeJ (enc:α→List Value) (size:Nat) (vv:Value) (k:Nat) (xs:List α):Asn :=
  ⟨fun C w=>(∀ b,C b→b<w.heap.size)∧∀ i x j v,k≤i→xs[i]?=some x→(enc x)[j]?=some v→C (zdz vv)∧w.cell? ⟨zdz vv,i*size+j,none⟩=some v,
   fun h b hb=>h.1 b hb,
   fun {C w w'} h hs hk=>⟨fun b hb=>Nat.lt_of_lt_of_le (h.1 b hb) hs,fun i x j v hi hx hv=>by
     obtain ⟨h1,h2⟩:=h.2 i x j v hi hx hv
     refine ⟨h1,?_⟩
     rw [← h2]
     unfold World.cell?
     simp only [hk _ h1]⟩⟩
theorem zhH {e:TypeId} (hz:∀ x,(enc x).length=size) {C:Nat→Prop} {w:World} (h:(vec enc e size vv xs).P C w):(zeJ enc size vv 0 xs).P C w:=by
 have hV:Vec enc e size vv xs C w:=h
 refine ⟨(vec enc e size vv xs).lt h,fun i x j v _ hx hv => ?_⟩
 have hj:j<size:=by rw [← hz x]; exact (List.getElem?_eq_some_iff.1 hv).1
 refine ⟨?_,hV.cellAt hz hx hj hv⟩
 rcases hV.shape with ⟨_,h2,_⟩ | ⟨g,cap,rfl,_⟩
 ·rw [h2] at hx; simp at hx
 ·rw [hV.2]; rfl
variable {F:Fence} {P:Program} {w0:World} {K:Nat→Prop} {N:Nat} {dfs:List Deferred} {ops:Array Oper} {Q:Exit→Act→World→Prop} {rest:List Oper} {σ:List (Nat×Value)} {L RD:List Asn} {v:Value}
 {d i:Nat} {t ty:TypeId} {pos:String} {aft:Array Edge} {g:Option (Nat×Bool)} {x:Operand}
theorem zcW [WideF F] {n j off:Nat} {q:α} (hr:Rd w0 K RD) (hi:RD[i]?=some (zeJ enc size vv k xs)) (hle:k≤n) (hT:zcl P t) (hg:gd ops σ g=some true) (hd:d<N) (hx:ev σ x=some (.pointer (some ⟨zdz vv,off,none⟩)))
  (hq:xs[n]?=some q) (ho:off=n*size+j) (hv:(enc q)[j]?=some v) (h:TO F P w0 K N dfs ops Q rest ((d,v)::σ) L) :
  TO F P w0 K N dfs ops Q (⟨some d,.load t x,ty,pos,aft,g⟩::rest) σ L:=by
 subst ho
 obtain ⟨dd,hu,hr'⟩:=hT
 refine zd3 hg hd (by simp) (fun a w ha hw => ?_) h
 obtain ⟨C,hC⟩:=hr.at hw hi
 have hc:=(hC.2 n q j v hle hq hv).2
 have h1:=ha.ev hx
 cases dd <;> simp_all [execOp,Instr.loadAt,Instr.sureAddr,loadVar,isAgg,Sem.run_bind,run_underlying hu]
theorem zoP [WideF F] {m j off n:Nat} {q:α} {cs:List Value} (hr:Rd w0 K RD) (hi:RD[i]?=some (zeJ enc size vv k xs)) (hle:k≤m) (hT:zh7 P t n) (hg:gd ops σ g=some true) (hd:d<N) (hx:ev σ x=some (.pointer (some ⟨zdz vv,off,none⟩)))
  (hq:xs[m]?=some q) (ho:off=m*size+j) (hcs:((enc q).drop j).take n=cs) (hn:cs.length=n)
  (h:TO F P w0 K N dfs ops Q rest ((d,.agg cs.toArray)::σ) L):TO F P w0 K N dfs ops Q (⟨some d,.load t x,ty,pos,aft,g⟩::rest) σ L:=by
 subst ho; subst hn
 obtain ⟨dd,hu,hr',hi'⟩:=hT
 refine zd3 hg hd (by simp) (fun a w ha hw => ?_) h
 obtain ⟨C,hC⟩:=hr.at hw hi
 have hc:w.rangeAt (zdz vv) (m*size+j) cs:=fun n u hn=>by
  rw [← hcs] at hn
  rw [List.getElem?_take] at hn
  split at hn
  ·rw [List.getElem?_drop] at hn
   have:=(hC.2 m q (j+n) u hle hq hn).2
   rwa [← Nat.add_assoc] at this
  ·cases hn
 simp only [execOp,ha.ev hx,Sem.run_bind,run_loadAt_mid w _ _ t cs dd hc hu hr' hi']; rfl
end
end Go.Proofs.YtmmhmppcemfdcaaGreatDoor

namespace Go.Proofs
open Go.Shelf
def zlH:Go.Shelf.Ren:=⟨fun | 160=>51 | 232=>82 | 231=>81 | 227=>83 | 234=>85 | 233=>84 | 236=>87 | 235=>86 | 228=>111 | 271=>114 | 151=>113 | 197=>112 | 120=>123 | 152=>122 | 260=>121 | 137=>125 | 119=>126 | 224=>127 | 225=>128 | 217=>129 | 266=>130 | n=>n,fun | 9=>9 | 4=>4 | 3=>3 | 5=>5 | 117=>191 | 116=>190 | 0=>0 | 124=>194 | 21=>21 | 105=>218 | 46=>140 | 119=>227 | 139=>230 | 138=>229 | n=>n,fun | 3=>1 | 4=>2 | n=>n⟩
theorem zpO:Go.Proofs.Lays.n160 Tryz.prog zlH:={
 mixed:=by kernel_rfl
 f119:=Tryz.func126.trans (congrArg some (by kernel_rfl))
 f120:=Tryz.func123.trans (congrArg some (by kernel_rfl))
 f137:=Tryz.func125.trans (congrArg some (by kernel_rfl))
 f151:=Tryz.func113.trans (congrArg some (by kernel_rfl))
 f152:=Tryz.func122.trans (congrArg some (by kernel_rfl))
 f160:=Tryz.func51.trans (congrArg some (by kernel_rfl))
 f197:=Tryz.func112.trans (congrArg some (by kernel_rfl))
 f217:=Tryz.func129.trans (congrArg some (by kernel_rfl))
 f224:=Tryz.func127.trans (congrArg some (by kernel_rfl))
 f225:=Tryz.func128.trans (congrArg some (by kernel_rfl))
 f227:=Tryz.func83.trans (congrArg some (by kernel_rfl))
 f228:=Tryz.func111.trans (congrArg some (by kernel_rfl))
 f231:=Tryz.func81.trans (congrArg some (by kernel_rfl))
 f232:=Tryz.func82.trans (congrArg some (by kernel_rfl))
 f233:=Tryz.func84.trans (congrArg some (by kernel_rfl))
 f234:=Tryz.func85.trans (congrArg some (by kernel_rfl))
 f235:=Tryz.func86.trans (congrArg some (by kernel_rfl))
 f236:=Tryz.func87.trans (congrArg some (by kernel_rfl))
 f260:=Tryz.func121.trans (congrArg some (by kernel_rfl))
 f266:=Tryz.func130.trans (congrArg some (by kernel_rfl))
 f271:=Tryz.func114.trans (congrArg some (by kernel_rfl))
 t0:=Tryz.underlying0
 a0:=Tryz.isAgg0
 z0:=Tryz.sizeOf0
 v0:=Tryz.zeroValue0
 t3:=Tryz.underlying3
 a3:=Tryz.isAgg3
 z3:=Tryz.sizeOf3
 v3:=Tryz.zeroValue3
 t4:=Tryz.underlying4
 a4:=Tryz.isAgg4
 z4:=Tryz.sizeOf4
 v4:=Tryz.zeroValue4
 t5:=Tryz.underlying5
 a5:=Tryz.isAgg5
 z5:=Tryz.sizeOf5
 v5:=Tryz.zeroValue5
 t9:=Tryz.underlying9
 a9:=Tryz.isAgg9
 z9:=Tryz.sizeOf9
 v9:=Tryz.zeroValue9
 t21:=Tryz.underlying21
 a21:=Tryz.isAgg21
 z21:=Tryz.sizeOf21
 v21:=Tryz.zeroValue21
 t46:=Tryz.underlying140
 a46:=Tryz.isAgg140
 z46:=Tryz.sizeOf140
 v46:=Tryz.zeroValue140
 t105:=Tryz.underlying218
 a105:=Tryz.isAgg218
 z105:=Tryz.sizeOf218
 v105:=Tryz.zeroValue218
 t116:=Tryz.underlying190
 a116:=Tryz.isAgg190
 z116:=Tryz.sizeOf190
 t117:=Tryz.underlying191
 a117:=Tryz.isAgg191
 z117:=Tryz.sizeOf191
 v117:=Tryz.zeroValue191
 t119:=Tryz.underlying227
 a119:=Tryz.isAgg227
 z119:=Tryz.sizeOf227
 t124:=Tryz.underlying194
 a124:=Tryz.isAgg194
 z124:=Tryz.sizeOf194
 v124:=Tryz.zeroValue194
 t138:=Tryz.underlying229
 a138:=Tryz.isAgg229
 z138:=Tryz.sizeOf229
 v138:=Tryz.zeroValue229
 t139:=Tryz.underlying230
 a139:=Tryz.isAgg230
 z139:=Tryz.sizeOf230
 v139:=Tryz.zeroValue230
 g3:=by kernel_rfl
 g4:=by kernel_rfl }
def zlK:Go.Shelf.Ren:=⟨fun | 119=>126 | n=>n,fun | 21=>21 | 4=>4 | n=>n,fun | n=>n⟩
theorem zpR:Go.Proofs.Lays.n119 Tryz.prog zlK:={
 mixed:=by kernel_rfl
 f119:=Tryz.func126.trans (congrArg some (by kernel_rfl))
 t4:=Tryz.underlying4
 a4:=Tryz.isAgg4
 z4:=Tryz.sizeOf4
 v4:=Tryz.zeroValue4
 t21:=Tryz.underlying21
 a21:=Tryz.isAgg21
 z21:=Tryz.sizeOf21
 v21:=Tryz.zeroValue21 }
theorem Tryz.utf8_ValidRune (r:Int) (w:World) :
  Calls Tryz.prog 126 #[.int .i32 r] w fun e w'=>e=.returned (.bool (Lib.validRune r))∧w'=w:=Any.utf8_ValidRune zpR r w
def zlJ:Go.Shelf.Ren:=⟨fun | 137=>125 | 217=>129 | 266=>130 | n=>n,fun | 9=>9 | 5=>5 | 3=>3 | n=>n,fun | n=>n⟩
theorem zpQ:Go.Proofs.Lays.n137 Tryz.prog zlJ:={
 mixed:=by kernel_rfl
 f137:=Tryz.func125.trans (congrArg some (by kernel_rfl))
 f217:=Tryz.func129.trans (congrArg some (by kernel_rfl))
 f266:=Tryz.func130.trans (congrArg some (by kernel_rfl))
 t3:=Tryz.underlying3
 a3:=Tryz.isAgg3
 z3:=Tryz.sizeOf3
 v3:=Tryz.zeroValue3
 t5:=Tryz.underlying5
 a5:=Tryz.isAgg5
 z5:=Tryz.sizeOf5
 v5:=Tryz.zeroValue5
 t9:=Tryz.underlying9
 a9:=Tryz.isAgg9
 z9:=Tryz.sizeOf9
 v9:=Tryz.zeroValue9 }
open Go.RowKit in
theorem Tryz.strings_IndexByte (s:ByteArray) (c:Int) (w:World) :
  Calls Tryz.prog 125 #[.string s,.int .u8 c] w fun e w'=>e=.returned (.int .i64 (Lib.indexByte s.data.toList c.toNat.toUInt8))∧w'=w:=Any.strings_IndexByte zpQ s c w
def zlG:Go.Shelf.Ren:=⟨fun | 226=>124 | n=>n,fun | 3=>3 | 4=>4 | n=>n,fun | n=>n⟩
theorem zpN:Go.Proofs.Lays.n226 Tryz.prog zlG:={
 mixed:=by kernel_rfl
 f226:=Tryz.func124.trans (congrArg some (by kernel_rfl))
 t3:=Tryz.underlying3
 a3:=Tryz.isAgg3
 z3:=Tryz.sizeOf3
 v3:=Tryz.zeroValue3
 t4:=Tryz.underlying4
 a4:=Tryz.isAgg4
 z4:=Tryz.sizeOf4
 v4:=Tryz.zeroValue4 }
open Go.RowKit Go.Lib in
theorem Tryz.strings_shouldUseASCIISet (n:Int) (w:World) :
  Calls Tryz.prog 124 #[.int .i64 n] w fun e w'=>e=.returned (.bool (decide (8<n)))∧w'=w:=Any.strings_shouldUseASCIISet zpN n w
def zlI:Go.Shelf.Ren:=⟨fun | 153=>117 | 152=>122 | 226=>124 | 227=>83 | 228=>111 | 137=>125 | 119=>126 | 224=>127 | 225=>128 | 217=>129 | 266=>130 | n=>n,fun | 9=>9 | 3=>3 | 4=>4 | 5=>5 | 21=>21 | 117=>191 | 116=>190 | 0=>0 | 46=>140 | 124=>194 | n=>n,fun | n=>n⟩
theorem zpP:Go.Proofs.Lays.n153 Tryz.prog zlI:={
 mixed:=by kernel_rfl
 f119:=Tryz.func126.trans (congrArg some (by kernel_rfl))
 f137:=Tryz.func125.trans (congrArg some (by kernel_rfl))
 f152:=Tryz.func122.trans (congrArg some (by kernel_rfl))
 f153:=Tryz.func117.trans (congrArg some (by kernel_rfl))
 f217:=Tryz.func129.trans (congrArg some (by kernel_rfl))
 f224:=Tryz.func127.trans (congrArg some (by kernel_rfl))
 f225:=Tryz.func128.trans (congrArg some (by kernel_rfl))
 f226:=Tryz.func124.trans (congrArg some (by kernel_rfl))
 f227:=Tryz.func83.trans (congrArg some (by kernel_rfl))
 f228:=Tryz.func111.trans (congrArg some (by kernel_rfl))
 f266:=Tryz.func130.trans (congrArg some (by kernel_rfl))
 t0:=Tryz.underlying0
 a0:=Tryz.isAgg0
 z0:=Tryz.sizeOf0
 v0:=Tryz.zeroValue0
 t3:=Tryz.underlying3
 a3:=Tryz.isAgg3
 z3:=Tryz.sizeOf3
 v3:=Tryz.zeroValue3
 t4:=Tryz.underlying4
 a4:=Tryz.isAgg4
 z4:=Tryz.sizeOf4
 v4:=Tryz.zeroValue4
 t5:=Tryz.underlying5
 a5:=Tryz.isAgg5
 z5:=Tryz.sizeOf5
 v5:=Tryz.zeroValue5
 t9:=Tryz.underlying9
 a9:=Tryz.isAgg9
 z9:=Tryz.sizeOf9
 v9:=Tryz.zeroValue9
 t21:=Tryz.underlying21
 a21:=Tryz.isAgg21
 z21:=Tryz.sizeOf21
 v21:=Tryz.zeroValue21
 t46:=Tryz.underlying140
 a46:=Tryz.isAgg140
 z46:=Tryz.sizeOf140
 v46:=Tryz.zeroValue140
 t116:=Tryz.underlying190
 a116:=Tryz.isAgg190
 z116:=Tryz.sizeOf190
 t117:=Tryz.underlying191
 a117:=Tryz.isAgg191
 z117:=Tryz.sizeOf191
 v117:=Tryz.zeroValue191
 t124:=Tryz.underlying194
 a124:=Tryz.isAgg194
 z124:=Tryz.sizeOf194
 v124:=Tryz.zeroValue194 }
def zif:Go.Shelf.Ren:=⟨fun | 105=>35 | 212=>57 | 99=>34 | 165=>58 | 166=>59 | 170=>60 | 169=>61 | 263=>90 | 264=>91 | 206=>56 | 240=>92 | 241=>93 | 276=>115 | 277=>116 | n=>n,fun | 9=>9 | 3=>3 | 4=>4 | 20=>20 | 0=>0 | 46=>140 | 109=>141 | 5=>5 | 72=>146 | 76=>150 | 51=>196 | 146=>197 | 53=>199 | 148=>200 | 70=>143 | 37=>144 | 75=>149 | 127=>202 | 164=>221 | 80=>53 | n=>n,fun | n=>n⟩
theorem zpS:Go.Proofs.Lays.n105 Tryz.prog zif:={
 mixed:=by kernel_rfl
 f99:=Tryz.func34.trans (congrArg some (by kernel_rfl))
 f105:=Tryz.func35.trans (congrArg some (by kernel_rfl))
 f165:=Tryz.func58.trans (congrArg some (by kernel_rfl))
 f166:=Tryz.func59.trans (congrArg some (by kernel_rfl))
 f169:=Tryz.func61.trans (congrArg some (by kernel_rfl))
 f170:=Tryz.func60.trans (congrArg some (by kernel_rfl))
 f206:=Tryz.func56.trans (congrArg some (by kernel_rfl))
 f212:=Tryz.func57.trans (congrArg some (by kernel_rfl))
 f240:=Tryz.func92.trans (congrArg some (by kernel_rfl))
 f241:=Tryz.func93.trans (congrArg some (by kernel_rfl))
 f263:=Tryz.func90.trans (congrArg some (by kernel_rfl))
 f264:=Tryz.func91.trans (congrArg some (by kernel_rfl))
 f276:=Tryz.func115.trans (congrArg some (by kernel_rfl))
 f277:=Tryz.func116.trans (congrArg some (by kernel_rfl))
 t0:=Tryz.underlying0
 a0:=Tryz.isAgg0
 z0:=Tryz.sizeOf0
 v0:=Tryz.zeroValue0
 t3:=Tryz.underlying3
 a3:=Tryz.isAgg3
 z3:=Tryz.sizeOf3
 v3:=Tryz.zeroValue3
 t4:=Tryz.underlying4
 a4:=Tryz.isAgg4
 z4:=Tryz.sizeOf4
 v4:=Tryz.zeroValue4
 t5:=Tryz.underlying5
 a5:=Tryz.isAgg5
 z5:=Tryz.sizeOf5
 v5:=Tryz.zeroValue5
 t9:=Tryz.underlying9
 a9:=Tryz.isAgg9
 z9:=Tryz.sizeOf9
 v9:=Tryz.zeroValue9
 t20:=Tryz.underlying20
 a20:=Tryz.isAgg20
 z20:=Tryz.sizeOf20
 v20:=Tryz.zeroValue20
 t37:=Tryz.underlying144
 a37:=Tryz.isAgg144
 z37:=Tryz.sizeOf144
 v37:=Tryz.zeroValue144
 t46:=Tryz.underlying140
 a46:=Tryz.isAgg140
 z46:=Tryz.sizeOf140
 v46:=Tryz.zeroValue140
 t51:=Tryz.underlying196
 a51:=Tryz.isAgg196
 z51:=Tryz.sizeOf196
 v51:=Tryz.zeroValue196
 t53:=Tryz.underlying199
 a53:=Tryz.isAgg199
 z53:=Tryz.sizeOf199
 v53:=Tryz.zeroValue199
 t70:=Tryz.underlying143
 a70:=Tryz.isAgg143
 z70:=Tryz.sizeOf143
 v70:=Tryz.zeroValue143
 t72:=Tryz.underlying146
 a72:=Tryz.isAgg146
 z72:=Tryz.sizeOf146
 v72:=Tryz.zeroValue146
 t75:=Tryz.underlying149
 a75:=Tryz.isAgg149
 z75:=Tryz.sizeOf149
 v75:=Tryz.zeroValue149
 t76:=Tryz.underlying150
 a76:=Tryz.isAgg150
 z76:=Tryz.sizeOf150
 v76:=Tryz.zeroValue150
 t109:=Tryz.underlying141
 a109:=Tryz.isAgg141
 z109:=Tryz.sizeOf141
 v109:=Tryz.zeroValue141
 t127:=Tryz.underlying202
 a127:=Tryz.isAgg202
 z127:=Tryz.sizeOf202
 v127:=Tryz.zeroValue202
 t146:=Tryz.underlying197
 a146:=Tryz.isAgg197
 z146:=Tryz.sizeOf197
 v146:=Tryz.zeroValue197
 t148:=Tryz.underlying200
 a148:=Tryz.isAgg200
 z148:=Tryz.sizeOf200
 v148:=Tryz.zeroValue200
 t164:=Tryz.underlying221
 a164:=Tryz.isAgg221
 z164:=Tryz.sizeOf221
 v164:=Tryz.zeroValue221 }
theorem zii:Builder.Extra Tryz.prog zif:={
 sizeBuilder:=by kernel_rfl
 liesBuilder:=by kernel_rfl
 t5:=Tryz.underlying5
 a5:=Tryz.isAgg5
 z5:=Tryz.sizeOf5
 v5:=Tryz.zeroValue5
 infoByte:=by kernel_rfl
 cellsByte:=by kernel_rfl
 sizeByte:=by kernel_rfl
 neB5:=by decide }
open Go.RowKit Go.Lib in
theorem Tryz.strings_Repeat (s:ByteArray) (c:Nat) (w:World) (hc:c≤9223372036854775807) (hlen:s.size*c≤140737488355328) :
  Calls Tryz.prog 35 #[.string s,.int .i64 c] w fun e w'=>e=.returned (.string ⟨(Lib.repeatL s.data.toList c).toArray⟩)∧Below w.heap.size w w':=Any.strings_Repeat zpS zii s c w hc hlen
end Go.Proofs

namespace Go.Proofs.YtmmhmppcemfdcaaGreatDoor
open Go.RowKit Go.Lib
open Tryz
set_option linter.unusedVariables false
set_option linter.unusedSimpArgs false
section
open Go.Shelf
theorem zm1 {P:Program} {f:FuncId} {vs:List Value} {v:Value} (h:∀ w,Calls P f vs.toArray w fun e w'=>e=.returned v∧w'=w):FnP P f vs v:=fun w=>(h w).mono fun e w' ⟨h1,h2⟩=>⟨h1,h2 ▸ Below.refl _ _⟩
theorem zqw (s:zBA) (c:Int):FnP prog 125 [.string s,.int .u8 c] (.int .i64 (Lib.indexByte s.data.toList c.toNat.toUInt8)):=zm1 fun w=>Tryz.strings_IndexByte s c w
theorem zsX (r:Int):FnP prog 126 [.int .i32 r] (.bool (Lib.validRune r)):=zm1 fun w=>Tryz.utf8_ValidRune r w
theorem zyT (n:Int):FnP prog 124 [.int .i64 n] (.bool (decide (8<n))):=zm1 fun w=>Tryz.strings_shouldUseASCIISet n w
def zcv (n:Int):zBA:=⟨(Lib.repeatL [32] n.toNat).toArray⟩
theorem zrh (n:Int) (h:0≤n∧n≤140737488355328):FnP prog 35 [.string ⟨#[32]⟩,.int .i64 n] (.string (zcv n)):=fun w=>by
 obtain ⟨c,rfl⟩:∃ c:Nat,n=c:=⟨n.toNat,by omega⟩
 have h1:(⟨#[32]⟩:zBA).size=1:=rfl
 exact Tryz.strings_Repeat ⟨#[32]⟩ c w (by omega) (by rw [h1,Nat.one_mul]; omega)
def zq9 (s:zBA):zBA:=⟨(Lib.trimS s.data.toList [32,9]).toArray⟩
theorem zyy (s:zBA) (hs:s.size≤9223372036854775807):FnP prog 51 [.string s,.string ⟨#[32,9]⟩] (.string (zq9 s)):=fun w =>
 Any.strings_Trim_laid zpO kr s ⟨#[32,9]⟩ w hs (by decide) (ascii_of_all (by decide))
theorem zvn (s:zBA) (h8:8<s.size) (hs:s.size<4294967281):FnP prog 117 [.string s,.string ⟨#[13,10]⟩] (.int .i64 (Lib.indexAny s.data.toList [13,10])):=fun w=>by
 refine (Any.strings_IndexAny_long zpP (zero_of_info (n:=256) kr).1 kr s ⟨#[13,10]⟩ w (by decide) h8 hs (by decide) (ascii_of_all (by decide))).mono fun e w' ⟨h1,h2⟩=>⟨h1,?_⟩
 rw [h2]
 exact ((Below.refl _ _).alloc (Nat.le_refl _) _).alloc (by simp) _
end
section
variable {F:Fence} {P:Program} {w0:World} {K:Nat→Prop} {N:Nat} {dfs:List Deferred} {ops:Array Oper} {Q:Exit→Act→World→Prop} {rest:List Oper} {σ:List (Nat×Value)} {L:List Asn} {c:Code} {ex:Exit} {k:Nat}
 {α η:Type} {enc:α×η→List Value} {nest:α×η→List Asn} {t:TypeId} {p:Value} {m:Option α} {x:α}
theorem zdQ (enc:α×η→List Value) (nest:α×η→List Asn) (t:TypeId) (h:TX w0 K N dfs Q ex σ (L++[zlg enc nest t (.pointer none) none])):TX w0 K N dfs Q ex σ L:=fun a w ha hw =>
 h a w ha (hw.grow (C':=fun _=>False) (Ext.refl _ _) (sepL.one (A:=zlg enc nest t (.pointer none) none) ⟨fun _ h=>h,rfl⟩))
theorem zgH (h:m=some x):Entl [zlg enc nest t p m] (fun bh:Nat×η=>cells bh.1 (enc (x,bh.2)) t::nest (x,bh.2)) (fun bh=>p=.pointer (some ⟨bh.1,0,none⟩)):=fun C w hh=>by
 subst h
 obtain ⟨b,hd,h2,h3⟩:=pobj_some.1 (sepL.one1.1 hh)
 exact ⟨(b,hd),h2,h3⟩
def zBc (p:Value) (m:Option α):Prop:=(m.isNone=true∧p=.pointer none)∨(m.isNone=false∧∃ b,p=.pointer (some ⟨b,0,none⟩))
theorem zpV (hk:L[k]?=some (zlg enc nest t p m)) (h:zBc p m→TO F P w0 K N dfs ops Q rest σ L):TO F P w0 K N dfs ops Q rest σ L:=fun a w ha hw=>by
 obtain ⟨C1,h1,_⟩:=hw.focus hk
 refine h ?_ a w ha hw
 rcases zso h1 with ⟨rfl,h2⟩ | ⟨x,b,rfl,h2⟩
 ·exact .inl ⟨rfl,h2⟩
 ·exact .inr ⟨rfl,b,h2⟩
theorem zsC {ty e':TypeId} {w:World} (ht:P.underlying ty=some (.pointer e')):(Op.equal ty (.pointer none) (.pointer none)).run P w=.ok true w:=by
 have h:∀ d,(Op.equalIn (d+1) ty (.pointer none) (.pointer none)).run P w=.ok true w:=fun d=>by simp [Op.equalIn,run_underlying ht]
 exact h 9999
theorem znY {ty e':TypeId} {y z:Operand} (ht:P.underlying ty=some (.pointer e')) (hv:zBc p m) (w:World):(do eqGuard .eql ty y z p (.pointer none); binOp .eql ty p (.pointer none):Sem Value).run P w=.ok (.bool m.isNone) w:=by
 rcases hv with ⟨h1,rfl⟩ | ⟨h1,b,rfl⟩
 ·rw [h1]; simp [eqGuard,binOp,Sem.run_bind,zsC ht]
 ·rw [h1]; exact zcq ht w
end
section
variable {F:Fence} {P:Program} {w0:World} {K:Nat→Prop} {N:Nat} {dfs:List Deferred} {ops:Array Oper} {Q:Exit→Act→World→Prop} {rest:List Oper} {σ σ':List (Nat×Value)} {L L' R As Bs:List Asn} {o:Oper} {v:Value}
 {d:Nat} {t:TypeId} {op:Op} {ty:TypeId} {pos:String} {aft:Array Edge} {g:Option (Nat×Bool)} {x y z:Operand} {c c1 c2:Code} {k:Nat} {A B:Asn} {RO:List (Nat×Obj)} {RD RD0:List Asn}
def ItrR (P:Program) (gf:FuncId) (caps:List Value) {α:Type} (enc:α→List Value) (xs:List α) (RD:List Asn):Prop :=
 ∀ (w:World) (D:Nat→Prop),(∀ A∈RD,∃ C,A.P C w∧∀ k,C k→D k)→(∀ k,D k→k<w.heap.size)→zrW P gf caps.toArray (fun x=>(enc x).toArray) xs D w
theorem ItrR.intro {gf:FuncId} {fn:Func} {caps:List Value} {α:Type} {enc:α→List Value} {xs:List α} (hf:P.funcs[gf]?=some fn) (hb:fn.body=some c) (hn:fn.ntmps=N) (hN:caps.length+1≤N)
  (h:∀ l w0 K (I X:List α→Asn),Rd w0 K RD→YC P l enc xs I X w0 K →
   TC Fence.wide P w0 K N [] (bodyPostM Fence.wide 0 P fn (FY xs I X w0 K)) c (zh5 (.func (.yield l) #[] #[]::caps)) [I []]):ItrR P gf caps enc xs RD:=by
 subst hn
 intro w D hRD hDlt l I X C0 W hD hsz hC0 hIl hXl hy h0
 have hRo:Rd W C0 RD:=fun A hA=>by
  obtain ⟨C,h1,h2⟩:=hRD A hA
  exact ⟨C,A.loc h1 hsz (fun k hk=>(hD k (h2 k hk)).2),fun k hk hc=>(hC0 k hc).2 (h2 k hk)⟩
 have:=h l W C0 (fun pre=>zzT (I pre) (fun C W W'=>hIl pre C W W')) (fun pre=>zzT (X pre) (fun C W W'=>hXl pre C W W')) hRo (fun pre x post C W1 hxs he hi=>by
  obtain ⟨f1,t1,a1,b1,hr1,hr2⟩:=hy pre x post C W1 hxs he hi.1
  refine ⟨f1,t1,a1,b1,hr1,hr2.mono ?_⟩
  rintro e w2 ⟨b,rfl,C',hx,hc⟩
  have hlt:∀ k,C' k→k<w2.heap.size:=fun k hk=>by
   have:=hx.1.size
   rcases hx.2 k hk with h | h
   ·have:=hi.2 k h; omega
   ·exact h.2
  exact ⟨b,rfl,C',hx,hc.imp (fun h=>⟨h.1,h.2,hlt⟩) (fun h=>⟨h.1,h.2,hlt⟩)⟩)
 have hs:(Value.func (.yield l) #[] #[]::caps).toArray=#[.func (.yield l) #[] #[]]++caps.toArray:=by simp
 rw [← hs]
 refine (zgV hf hb (this _ W (zl0 _ (by simpa using hN)) ⟨C0,sepL.one ⟨h0,fun k hk=>(hC0 k hk).1⟩,Ext.refl _ _⟩)).mono ?_
 rintro e w' ⟨he,hh⟩
 refine ⟨he,?_⟩
 rcases hh with ⟨C',hh,hx⟩ | ⟨pre,x,post,hxs,C',hh,hx⟩
 ·obtain ⟨C1,C2,g1,g2,_,g4⟩:=hh
  have:C'=C1:=funext fun k=>propext (by rw [g4]; exact ⟨fun h=>h.resolve_right (g2 k),.inl⟩)
  subst this
  exact ⟨C',hx,.inl g1.1⟩
 ·obtain ⟨C1,C2,g1,g2,_,g4⟩:=hh
  have:C'=C1:=funext fun k=>propext (by rw [g4]; exact ⟨fun h=>h.resolve_right (g2 k),.inl⟩)
  subst this
  exact ⟨C',hx,.inr ⟨pre,x,post,hxs,g1.1⟩⟩
section
variable {α β γ δ:Type}
theorem zmY {gf:FuncId} {caps:List Value} {enc:α→List Value} {xs:List α} {ps:List Nat} {assign body:Code} (hRd:Rd w0 K RD0) (hRo:Ro w0 K RO)
  (hg:ev σ x=some (.func (.func gf) #[] caps.toArray)) (hent:∀ args w,(callFunc gf args).run P w=.ok (.enter gf args) w) (hY:ItrR P gf caps enc xs RD)
  (Inv:List α→β→Prop) (LI:List α→β→List Asn) (X:Code→List α→γ→Prop) (LX:Code→List α→γ→List Asn) (σJ:List α→α→β→δ→List (Nat×Value)) (LJ:List α→α→β→δ→List Asn) (b0:β)
  (h0:Inv [] b0) (hs:Splits L (LI [] b0) R) (hS:RdS R RD0 RD) (hps:∀ x,(enc x).length=ps.length) (hpN:∀ p∈ps,p<N)
  (hassign:∀ l r pre e post b w1 K1,xs=pre++e::post→Ext K K1 w0 w1→Ro w1 K1 (RO++[(l,.loop r)])→Inv pre b →
   TC (Fence.wide.inRound l) P w1 K1 N [] (Exit.then (fun a w=>∃ j,St w1 K1 N [] (σJ pre e b j) (LJ pre e b j) a w) (fun _ _ _=>False)) assign (zlL ps (enc e) σ) (LI pre b))
  (hbody:∀ l r pre e post b j w1 K1,xs=pre++e::post→Ext K K1 w0 w1→Ro w1 K1 (RO++[(l,.loop r)])→Inv pre b→TC (Fence.wide.inRound l) P w1 K1 N [] (RQ Inv LI X LX (pre++[e]) w1 K1) body (σJ pre e b j) (LJ pre e b j))
  (hdone:∀ d b,Inv xs b→TX w0 K N ({ target:=.collected d,args:=#[] }::dfs) Q .normal σ (R++(LI xs b++[zib d])))
  (hstop:∀ d c pre e post b,xs=pre++e::post→X c (pre++[e]) b→TC Fence.wide P w0 K N ({ target:=.collected d,args:=#[] }::dfs) Q c σ (R++(LX c (pre++[e]) b++[zib d]))) :
  TC Fence.wide P w0 K N dfs Q (.rangeFunc x ps.toArray assign body) σ L:=by
 intro a w ha hw
 obtain ⟨C1,C2,g1,g2,g3,gx,hstep⟩:=hw.split2 hs
 have hDh:Rd w C1 RD:=hS.rd (w0:=w0) (K:=K) g2 g3 (hRd.ext gx)
 have hlt1:=g1.lt
 have hro1:∀ {C:Nat→Prop} {W:World},Ext K C w0 W→Ro W C RO:=fun {C W} hx p hp=>by
  obtain ⟨h1,h2⟩:=hRo p hp
  refine ⟨hx.1.at h1 h2,fun h => ?_⟩
  rcases hx.2 _ h with h | h
  ·exact h2 h
  ·have:=zcM h1; omega
 refine zq5 (gf:=gf) (lb:=caps.toArray) (ha.ev hg) hent (hY w (fun k=>k<w.heap.size∧¬ C1 k) (fun A hA=>by
  obtain ⟨C,h1,h2⟩:=hDh A hA
  exact ⟨C,h1,fun k hk=>⟨A.lt h1 k hk,h2 k hk⟩⟩) (fun k h=>h.1)) (fun k h=>⟨h.1,rfl⟩) (Nat.le_refl _) (fun e=>by simp [hps])
  (fun pre C W=>∃ b,Inv pre b∧sepL (LI pre b) C W) (fun c pre C W=>∃ b,X c pre b∧sepL (LX c pre b) C W)
  (fun pre e a1 C W=>∃ b j,Inv pre b∧At N [] (σJ pre e b j) a1∧sepL (LJ pre e b j) C W) ?_ ?_ ?_ C1 (fun k hk=>⟨hlt1 k hk,fun h=>h.2 hk⟩) ⟨b0,h0,g1⟩ ?_ ?_ ?_ ?_
 ·rintro pre C W W' ⟨b,h1,h2⟩ hs hk; exact ⟨b,h1,h2.loc hs hk⟩
 ·rintro c pre C W W' ⟨b,h1,h2⟩ hs hk; exact ⟨b,h1,h2.loc hs hk⟩
 ·rintro pre e a1 _ C W W' ⟨b,j,h1,h2,h3⟩ hs hk; exact ⟨b,j,h1,h2,h3.loc hs hk⟩
 ·rintro l pre e post C W1 hxs hext ⟨b,hb,hi⟩ hn hl ⟨r,hr⟩
  have hx1:Ext K C w0 W1:=gx.trans hext
  refine wpIn_mono (hassign l r pre e post b W1 C hxs hx1 ((hro1 hx1).snoc hr hn) hb _ W1 (ha.zip ps (enc e) hpN) ⟨C,hi,Ext.refl _ _⟩) ?_
  rintro ex a' w' hq
  cases ex with
  | normal =>
   obtain ⟨j,hj,C',hL',hx'⟩:=hq
   exact ⟨C',hx',b,j,hb,hj,hL'⟩
  | _=>exact hq
 ·rintro l pre e post C W1 a1 hxs hext ⟨b,j,hb,hat,hi⟩ hn hl ⟨r,hr⟩
  have hx1:Ext K C w0 W1:=gx.trans hext
  refine wpIn_mono (hbody l r pre e post b j W1 C hxs hx1 ((hro1 hx1).snoc hr hn) hb a1 W1 hat ⟨C,hi,Ext.refl _ _⟩) ?_
  rintro ex a' w' hq
  cases ex with
  | normal=>obtain ⟨b',h1,C',h2,h3⟩:=hq; exact ⟨C',h3,b',h1,h2⟩
  | ret=>obtain ⟨b',h1,C',h2,h3⟩:=hq; exact ⟨C',h3,b',h1,h2⟩
  | exit id=>obtain ⟨b',h1,C',h2,h3⟩:=hq; exact ⟨C',h3,b',h1,h2⟩
  | goto id=>obtain ⟨b',h1,C',h2,h3⟩:=hq; exact ⟨C',h3,b',h1,h2⟩
  | panic _=>exact hq
  | outgrown=>exact hq
 ·rintro d C W hext ⟨b,hb,hi⟩ hd hCd hdef
  refine hdone d b hb _ W ⟨ha.1,by rw [← ha.2.1],ha.2.2⟩ (hstep _ (fun k=>C k∨k=d) W ⟨hext.1,fun k hk => ?_⟩ ?_)
  ·rcases hk with hk | rfl
   ·exact hext.2 k hk
   ·exact .inr ⟨hd,zcM hdef⟩
  ·exact hi.append (sepL.one ⟨fun k=>Iff.rfl,hdef⟩) (fun k hk e=>hCd (e ▸ hk))
 ·rintro d c pre e post C W hxs hext ⟨b,hb,hi⟩ hd hCd hdef
  refine hstop d c pre e post b hxs hb _ W ⟨ha.1,by rw [← ha.2.1],ha.2.2⟩ (hstep _ (fun k=>C k∨k=d) W ⟨hext.1,fun k hk => ?_⟩ ?_)
  ·rcases hk with hk | rfl
   ·exact hext.2 k hk
   ·exact .inr ⟨hd,zcM hdef⟩
  ·exact hi.append (sepL.one ⟨fun k=>Iff.rfl,hdef⟩) (fun k hk e=>hCd (e ▸ hk))
end
end
structure zBv (α:Type) where
 vv:Value
 k:Nat
 L:List α
def zrp {α:Type} (enc:α→List Value) (size:Nat) (hd:Hd) (xs:List α):Asn :=
 exA fun b:{b:zBv α // Vw b.vv b.L size b.k hd.v xs}=>zeJ enc size b.1.vv b.1.k b.1.L
theorem zro {α:Type} {enc:α→List Value} {size:Nat} {e:TypeId} {hd:Hd} {xs:List α} (hlen:∀ x,(enc x).length=size) {C:Nat→Prop} {w:World} (h:(vec enc e size hd.v xs).P C w):(zrp enc size hd xs).P C w :=
 ⟨⟨⟨hd.v,0,xs⟩,zod h⟩,zhH hlen h⟩
section
variable {α η:Type} {enc:α×η→List Value} {nest nestR:α×η→List Asn} {e:TypeId} {size:Nat} {v:Value} {xs:List α} {zs:List (α×η)} {z:α×η}
def zhU (nestR:α×η→List Asn) (zs:List (α×η)):Asn :=
  ⟨fun C w=>(∀ k,C k→k<w.heap.size)∧∀ z∈zs,∀ A∈nestR z,∃ D,A.P D w∧∀ k,D k→C k,
   fun h k hk=>h.1 k hk,
   fun {C w w'} h hs hk=>⟨fun k hC=>Nat.lt_of_lt_of_le (h.1 k hC) hs,fun z hz A hA=>by
     obtain ⟨D,h1,h2⟩:=h.2 z hz A hA
     exact ⟨D,A.loc h1 hs (fun k hD=>hk k (h2 k hD)),h2⟩⟩⟩
def zuJ (nest nestR:α×η→List Asn):Prop:=∀ z C w,sepL (nest z) C w→∀ A∈nestR z,∃ D,A.P D w∧∀ k,D k→C k
theorem zt3 {C:Nat→Prop} {w:World} (h:sepL (zs.flatMap nest) C w) (hz:z∈zs):∃ D,sepL (nest z) D w∧∀ k,D k→C k:=by
 obtain ⟨i,hi⟩:=List.getElem?_of_mem hz
 obtain ⟨C1,C2,h1,_,_,h4⟩:=(zmb hi).1 h
 exact ⟨C1,h1,fun k hk=>(h4 k).2 (.inl hk)⟩
theorem ztu (hG:zuJ nest nestR) {C:Nat→Prop} {w:World} (h:(own nest zs).P C w):(zhU nestR zs).P C w :=
 ⟨(own nest zs).lt h,fun z hz A hA=>by
  obtain ⟨D,h1,h2⟩:=zt3 (show sepL (zs.flatMap nest) C w from h) hz
  obtain ⟨E,h3,h4⟩:=hG z D w h1 A hA
  exact ⟨E,h3,fun k hk=>h2 k (h4 k hk)⟩⟩
variable {w0:World} {K:Nat→Prop} {RD:List Asn} {i j:Nat}
theorem Rd.openEl (hr:Rd w0 K RD) (hi:RD[i]?=some (zhU nestR zs)) (hz:zs[j]?=some z):Rd w0 K (RD++nestR z) :=
 hr.more hi fun C hC B hB=>hC.2 z (List.mem_of_getElem? hz) B hB
theorem Rd.openSl {β:Type} {enc1:β→List Value} {hd:Hd} {ys:List β} (hr:Rd w0 K RD) (hi:RD[i]?=some (zrp enc1 size hd ys)):∃ vv k L,Vw vv L size k hd.v ys∧Rd w0 K (RD++[zeJ enc1 size vv k L]):=by
 obtain ⟨C,⟨⟨⟨vv,k,L⟩,hV⟩,hC⟩,hk⟩:=hr _ (List.mem_of_getElem? hi)
 refine ⟨vv,k,L,hV,hr.append fun B hB => ?_⟩
 rw [List.mem_singleton] at hB
 subst hB
 exact ⟨C,hC,hk⟩
theorem Rd.openN (hr:Rd w0 K RD) (hi:RD[i]?=some (zgf enc nest e size v xs)) (hlen:∀ z,(enc z).length=size) (hG:zuJ nest nestR) :
  ∃ zs:List (α×η),zs.map Prod.fst=xs∧Vw v zs size 0 v zs∧Rd w0 K (RD++[zeJ enc size v 0 zs,zhU nestR zs]):=by
 obtain ⟨C,h,hk⟩:=hr _ (List.mem_of_getElem? hi)
 obtain ⟨zs,hz,h1⟩:=znk C w0 h
 obtain ⟨C1,C2,g1,g2,_,g4⟩:=znG h1
 refine ⟨zs,hz,zod g1,hr.append fun B hB => ?_⟩
 rcases List.mem_cons.1 hB with rfl | hB
 ·exact ⟨C1,zhH hlen g1,fun k h=>hk k ((g4 k).2 (.inl h))⟩
 ·rw [List.mem_singleton] at hB
  subst hB
  exact ⟨C2,ztu hG g2,fun k h=>hk k ((g4 k).2 (.inr h))⟩
theorem zn5 {P:Program} {f:FuncId} {vs:List Value} {RD1 RD2 As:List Asn} {β:Type} {V:β→Value} {Bs:β→List Asn} (hlen:∀ z,(enc z).length=size) (hG:zuJ nest nestR)
  (h:∀ zs:List (α×η),zs.map Prod.fst=xs→Vw v zs size 0 v zs→FnR P f vs (RD1++[zeJ enc size v 0 zs,zhU nestR zs]++RD2) As V Bs):FnR P f vs (RD1++[zgf enc nest e size v xs]++RD2) As V Bs:=fun w C hR=>by
 obtain ⟨zs,hz,hV,h1⟩:=hR.openN (i:=RD1.length) (nest:=nest) (e:=e) (v:=v) (xs:=xs) (by simp) hlen hG
 refine h zs hz hV w C fun A hA=>h1 A ?_
 simp only [List.mem_append,List.mem_cons,List.not_mem_nil,or_false] at hA ⊢
 rcases hA with (hA | hA) | hA
 ·exact .inl (.inl (.inl hA))
 ·exact .inr hA
 ·exact .inl (.inr hA)
end
section
variable {α η:Type} {nest:α×η→List Asn} {zs ys:List (α×η)}
end
section
variable {F:Fence} {P:Program} {w0:World} {K:Nat→Prop} {N:Nat} {dfs:List Deferred} {Q:Exit→Act→World→Prop} {σ:List (Nat×Value)} {L:List Asn} {c:Code} {k:Nat} {α η:Type} {enc:α×η→List Value} {nest:α×η→List Asn} {t:TypeId} {p:Value} {m:Option α}
end
def zeC (z:(List zap)×Hd):List Asn:=[zrp zb9 6 z.2 z.1]
theorem ziE:zuJ zbz zeC:=by
 intro z C w h A hA
 simp only [zeC,List.mem_cons,List.not_mem_nil,or_false] at hA
 rcases hA with rfl
 ·obtain ⟨D,h1,h2⟩:=zmc h _ (List.mem_of_getElem? (i:=0) rfl); exact ⟨D,zro zbN h1,h2⟩
def zcG (z:(List zBA)×Hd):List Asn:=[zrp zkv 1 z.2 z.1]
theorem zjj:zuJ zbn zcG:=by
 intro z C w h A hA
 simp only [zcG,List.mem_cons,List.not_mem_nil,or_false] at hA
 rcases hA with rfl
 ·obtain ⟨D,h1,h2⟩:=zmc h _ (List.mem_of_getElem? (i:=0) rfl); exact ⟨D,zro zey h1,h2⟩
section
open Go.Shelf
theorem zvE (b:Nat) (bs:zBA) (C:Nat→Prop) (w:World) (h:Bld b bs C w) :
  Calls prog 60 #[.pointer (some ⟨b,0,none⟩)] w fun e w'=>e=.returned (.int .i64 (bs.size:Int))∧w=w':=by
 obtain ⟨p,v,D,hbk,hp,hbr,hne,rfl⟩:=h
 rcases hbr.shape with ⟨rfl,rfl,rfl⟩ | ⟨g,cap,cur,rfl,hgl,hbc,hcm,rfl,hg⟩
 ·have c1:w.cell? ⟨b,1,none⟩=some (.slice none 0 0):=ze4 hbk rfl
  clear hbk hbr
  go_enter func60,ntmps60
  go_wp2
  go_ret
  exact ⟨rfl,rfl⟩
 ·have c1:w.cell? ⟨b,1,none⟩=some (.slice (some ⟨g,0,none⟩) bs.size cap):=ze4 hbk rfl
  clear hbk hbr
  go_enter func60,ntmps60
  go_wp2
  go_ret
  exact ⟨rfl,rfl⟩
theorem zxT (b:Nat) (bs:zBA):Fn prog 60 [.pointer (some ⟨b,0,none⟩)] [zqS b bs] (fun _:Unit=>.int .i64 (bs.size:Int)) (fun _=>[zqS b bs]):=by
 intro w C hA
 refine (zvE b bs C w (sepL.one1.1 hA)).mono ?_
 rintro e w' ⟨rfl,rfl⟩
 exact ⟨(),rfl,C,hA,Ext.refl _ _⟩
end
structure Un where
 k:Int
 r:Nat
 f:Nat
 t:Nat
 al:Bool
 deriving DecidableEq
def zlu (k:Int):Bool:=k==11||k==4||k==9
def zq8 (p:Pc):Un:=⟨pk p,p.r,p.i,p.i+p.w,true⟩
def zhy:List Un×Option Un→Pc→List Un×Option Un
 | (E,none),p=>(E,some (zq8 p))
 | (E,some n),p=>if pk p=2∧zlu n.k=false then (E,some ⟨n.k,n.r,n.f,n.t+p.w,false⟩) else (E++[n],some (zq8 p))
def zhD (L:List Pc):List Un×Option Un:=L.foldl zhy ([],none)
def zBl:List Un×Option Un→List Un
 | (E,none)=>E
 | (E,some n)=>E++[n]
def units (L:List Pc):List Un:=zBl (zhD L)
theorem znw (L:List Pc) (p:Pc):zhD (L++[p])=zhy (zhD L) p:=by simp [zhD]
theorem zjG:∀ (L:List Pc) (E:List Un) (o:Option Un),∃ E',(L.foldl zhy (E,o)).1=E++E'
 | [],E,o=>⟨[],by simp⟩
 | p::L,E,o=>by
  rcases o with _ | n
  ·exact zjG L E (some (zq8 p))
  ·by_cases hk:pk p=2∧zlu n.k=false
   ·have:(p::L).foldl zhy (E,some n)=L.foldl zhy (E,some ⟨n.k,n.r,n.f,n.t+p.w,false⟩):=by
     show L.foldl zhy (zhy (E,some n) p)=_
     simp only [zhy]; rw [if_pos hk]
    rw [this]; exact zjG L E _
   ·have:(p::L).foldl zhy (E,some n)=L.foldl zhy (E++[n],some (zq8 p)):=by
     show L.foldl zhy (zhy (E,some n) p)=_
     simp only [zhy]; rw [if_neg hk]
    rw [this]
    obtain ⟨E',h⟩:=zjG L (E++[n]) (some (zq8 p))
    exact ⟨n::E',by rw [h]; simp⟩
theorem zq7 (pre post:List Pc) (x:Pc) (E:List Un) (n:Un) (h:zhD pre=(E,some n)) (hk:¬ (pk x=2∧zlu n.k=false)):∃ q,units (pre++x::post)=E++n::q:=by
 have h1:zhD (pre++x::post)=(post.foldl zhy (E++[n],some (zq8 x))):=by
  unfold zhD at *
  rw [List.foldl_append,h,List.foldl_cons]; simp only [zhy]; rw [if_neg hk]
 obtain ⟨E',h2⟩:=zjG post (E++[n]) (some (zq8 x))
 unfold units; rw [h1]
 rcases hf:post.foldl zhy (E++[n],some (zq8 x)) with ⟨F,_ | m⟩
 ·rw [hf] at h2; exact ⟨E',by show F=_; simp only at h2; rw [h2]; simp⟩
 ·rw [hf] at h2; exact ⟨E'++[m],by show F++[m]=_; simp only at h2; rw [h2]; simp⟩
theorem zkA (L:List Pc) (E:List Un) (n:Un) (h:zhD L=(E,some n)):units L=E++[n]:=by unfold units; rw [h]; rfl
theorem zl3 (l:List UInt8):∀ (k:Nat) (L B:List Pc),L.length≤k→pcs l=L++B→∀ E n,zhD L=(E,some n)→n.f<n.t∧n.t≤l.length∧(∀ p,B[0]?=some p→p.i=n.t)∧(B=[]→n.t=l.length)
 | 0,L,B,hk,h,E,n,hr=>by
  have:L=[]:=List.eq_nil_of_length_eq_zero (by omega)
  subst this; simp [zhD] at hr
 | k+1,L,B,hk,h,E,n,hr=>by
  rcases List.eq_nil_or_concat L with rfl | ⟨D,p,rfl⟩
  ·simp [zhD] at hr
  ·rw [List.concat_eq_append] at h hr hk
   obtain ⟨h1,h2,_⟩:=ziA l p (by rw [h]; simp)
   obtain ⟨q1,q2,q3,q4⟩:=zml l D p B (by rw [h]; simp)
   have hB:(∀ q,B[0]?=some q→q.i=p.i+p.w)∧(B=[]→p.i+p.w=l.length):=by
    by_cases hd':l.drop (p.i+p.w)=[]
    ·rw [hd',zcT] at q4
     subst q4
     refine ⟨fun q hq=>by simp at hq,fun _ => ?_⟩
     have:=congrArg List.length hd'
     simp at this; omega
    ·rw [zcU _ _ hd'] at q4
     refine ⟨fun q hq => ?_,fun he => ?_⟩
     ·rw [q4] at hq; simp at hq; rw [← hq]
     ·rw [he] at q4; cases q4
   rw [znw] at hr
   rcases hd:zhD D with ⟨F,_ | m⟩
   ·rw [hd] at hr; simp [zhy] at hr
    rw [← hr.2]; simp only [zq8]; exact ⟨by omega,by omega,hB.1,hB.2⟩
   ·obtain ⟨h3,h4,h5,_⟩:=zl3 l k D (p::B) (by simp at hk; omega) (by rw [h]; simp) F m hd
    have h6:=h5 p rfl
    rw [hd] at hr
    simp only [zhy] at hr
    by_cases hk':pk p=2∧zlu m.k=false
    ·rw [if_pos hk'] at hr
     simp at hr
     rw [← hr.2]; simp only; rw [← h6]; exact ⟨by omega,by omega,hB.1,hB.2⟩
    ·rw [if_neg hk'] at hr
     simp at hr
     rw [← hr.2]; simp only [zq8]; exact ⟨by omega,by omega,hB.1,hB.2⟩
structure Tk where
 k:Int
 f:Nat
 t:Nat
 deriving DecidableEq
def zlw (u:Un):Bool:=u.al&&(u.r==0x27||u.r==0x2019||u.r==0x2D||u.r==0x2010)
def dot (u:Un):Bool:=u.al&&(u.r==0x2C||u.r==0x2E)
def zlk (st:Int) (u:Un):Int×Int :=
 if st=1∨st=2 then (if u.k=1 then (1,1) else if st=1∧zlw u=true then (2,2) else (st,0))
 else if st=3∨st=4 then (if u.k=3 then (3,1) else if st=3∧dot u=true then (4,2) else (st,0))
 else if st=5 then (if u.k=5 then (5,1) else (5,0))
 else if st=6 then (if u.k=11 then (6,1) else (6,0))
 else if st=8 then (if u.k=4∧u.r=10 then (7,1) else (8,0))
 else (st,0)
def begins (u:Un):Int×Int :=
 if u.k=1 then (1,1) else if u.k=3 then (3,2) else if u.k=5 then (5,3) else if u.k=11 then (6,7)
 else if u.k=4 then (if u.r=13 then 8 else 7,4) else if u.k=6∨u.k=7∨u.k=8 then (9,5) else (9,6)
structure Sc where
 st:Int
 tk:Tk
 h:Un
def zfd (s:Sc):List Tk:=if s.st=0 then [] else if s.st=2∨s.st=4 then [s.tk,⟨5,s.h.f,s.h.t⟩] else [s.tk]
def began (s:Sc) (u:Un):Sc:=⟨(begins u).1,⟨(begins u).2,u.f,u.t⟩,s.h⟩
def zlv (S:List Tk×Sc) (u:Un):List Tk×Sc :=
 if (zlk S.2.st u).2=2 then (S.1,⟨(zlk S.2.st u).1,S.2.tk,u⟩)
 else if (zlk S.2.st u).2=1 then (S.1,⟨(zlk S.2.st u).1,⟨S.2.tk.k,S.2.tk.f,u.t⟩,S.2.h⟩)
 else (S.1++zfd S.2,began S.2 u)
def sc0:Sc:=⟨0,⟨0,0,0⟩,⟨0,0,0,0,false⟩⟩
def zha (us:List Un):List Tk×Sc:=us.foldl zlv ([],sc0)
def zti (us:List Un):List Tk:=(zha us).1++zfd (zha us).2
theorem zsq (us:List Un) (u:Un):zha (us++[u])=zlv (zha us) u:=by simp [zha]
theorem zpj:∀ (us:List Un) (S:List Tk×Sc),∃ q,(us.foldl zlv S).1=S.1++q
 | [],S=>⟨[],by simp⟩
 | u::us,S=>by
  obtain ⟨q,hq⟩:=zpj us (zlv S u)
  simp only [List.foldl_cons]
  rw [hq]
  unfold zlv
  split
  ·exact ⟨q,rfl⟩
  ·split
   ·exact ⟨q,rfl⟩
   ·exact ⟨zfd S.2++q,by simp⟩
theorem zmt (S:List Tk×Sc) (u:Un) (h1:(zlk S.2.st u).2≠2) (h2:(zlk S.2.st u).2≠1):zlv S u=(S.1++zfd S.2,began S.2 u):=by
 unfold zlv; rw [if_neg h1,if_neg h2]
theorem zw1 (pre post:List Un) (u:Un) (h:(zlk (zha pre).2.st u).2≠2∧(zlk (zha pre).2.st u).2≠1):∃ q,zti (pre++u::post)=(zha pre).1++zfd (zha pre).2++q:=by
 have h1:zha (pre++u::post)=post.foldl zlv ((zha pre).1++zfd (zha pre).2,began (zha pre).2 u):=by
  rw [← zmt _ _ h.1 h.2]
  simp [zha,List.foldl_append]
 obtain ⟨q,hq⟩:=zpj post ((zha pre).1++zfd (zha pre).2,began (zha pre).2 u)
 unfold zti; rw [h1,hq]
 exact ⟨_,List.append_assoc _ _ _⟩
def isK (us:List Un) (k:Int):Bool:=match us with | []=>false | u::_=>u.k==k
def zAa (js:List Nat) (u:Un):Bool:=u.al&&u.k != 11&&js.contains u.r
def zya (k:Int) (js:List Nat):List Un→Nat
 | []=>0
 | u::us=>if u.k=k then 1+zya k js us else if zAa js u=true∧isK us k=true then 1+zya k js us else 0
def JW:List Nat:=[0x27,0x2019,0x2D,0x2010]
def JD:List Nat:=[0x2C,0x2E]
def behind (u:Un) (us:List Un):Nat :=
 if u.k=1 then zya 1 JW us else if u.k=3 then zya 3 JD us else if u.k=5 then zya 5 [] us else if u.k=11 then zya 11 [] us
 else if u.k=4 then (match us with | []=>0 | v::_=>if u.r=13∧v.k=4∧v.r=10 then 1 else 0) else 0
def rest (s:Sc) (us:List Un):List Tk:=(us.foldl zlv ([],s)).1++zfd (us.foldl zlv ([],s)).2

theorem ziu {α:Type} {enc:α→List Value} {size:Nat} {P:Program} (w:World) (t ty e:TypeId) (i:TypeInfo) (z:Value) (ht:P.underlying t=some (.slice e)) (hi:P.info? e=some i) (hz:i.zero=some z)
  (hsize:i.size=size) (hzs:z.cells.size=size) (hsz:0<size) (hlen:∀ x,(enc x).length=size) (h1:∀ x,∀ u∈enc x,u.oneCell'=true)
  (v:Value) (L:List α) (C:Nat→Prop) (hown:Vec enc e size v L C w) (ys:List α) (a:Addr) (c:Nat)
  (hnews:∀ j u,(ys.flatMap enc)[j]?=some u→w.cell? (a.add j)=some u) (hn:L.length+ys.length≤maxLen) (hbb:(L.length+ys.length)*i.bytes≤140737488355328) :
  ∃ v' w',(Builtin.append_ #[t,t] ty #[v,.slice (some a) ys.length c]).run P w=.ok v' w'∧∃ C',Vec enc e size v' (L++ys) C' w'∧Ext C C' w w':=by
 obtain ⟨hown,rfl⟩:=hown
 have hl:(ys.flatMap enc).length=ys.length*size:=zj1 hlen ys
 have h1':∀ u∈ys.flatMap enc,u.oneCell'=true:=by
  intro u hu
  obtain ⟨x,hx,hu⟩:=List.mem_flatMap.1 hu
  exact h1 x u hu
 obtain ⟨v',w',hr,r1,r2,_⟩:=run_append_own (P:=P) w 0 t ty e i z size i.bytes ht hi hz hsize rfl hzs hsz v L.length (L.flatMap enc) hown a ys.length c (ys.flatMap enc) hl hnews h1' hn hbb (Nat.zero_le _)
 have hbl:=zhw (P:=P) w 0 t ty e i z size i.bytes ht hi hz hsize rfl v L.length (L.flatMap enc) hown a ys.length c (ys.flatMap enc) hl hnews h1' hn hbb hr
 have hR:Rw enc w' 0 e size v' (L++ys):=by
  unfold Rw; rw [List.length_append,List.flatMap_append]; exact r1
 exact ⟨v',w',hr,_,⟨hR,rfl⟩,zgC r2 hbl (fun g hg=>(World.ownsRow.lt hR g hg).2)⟩
section
variable {F:Fence} {P:Program} {w0:World} {K:Nat→Prop} {N:Nat} {dfs:List Deferred} {ops:Array Oper} {Q:Exit→Act→World→Prop} {rest:List Oper} {σ:List (Nat×Value)} {L RD:List Asn}
 {d:Nat} {ty:TypeId} {pos:String} {aft:Array Edge} {g:Option (Nat×Bool)} {s x:Operand} {t e e2:TypeId} {k k2 j size:Nat} {vv v2 v:Value} {α:Type} {enc:α→List Value} {xs ys Ls:List α}
theorem zsM {C:Nat→Prop} {w:World} (hlen:∀ x,(enc x).length=size) (hs:0<size) (h:(zeJ enc size v2 j Ls).P C w) (hV:Vw v2 Ls size j v ys) (hne:ys≠[]):∃ c,v=.slice (some ⟨zdz v2,j*size,none⟩) ys.length c∧∀ n u,(ys.flatMap enc)[n]?=some u→w.cell? ((⟨zdz v2,j*size,none⟩:Addr).add n)=some u:=by
 have hgt:=fun (i:Nat) (q:α) (hq:ys[i]?=some q)=>hV.get (i:=(i:Int)) (zcY hq)
 obtain ⟨_,_,q',c,hq',_,hp⟩:=hV
 have hp:=hp hne
 subst hp
 refine ⟨c,hq',fun n u hu => ?_⟩
 have hadd:(⟨zdz v2,j*size,none⟩:Addr).add n=⟨zdz v2,j*size+n,none⟩:=by unfold Addr.add; split <;> simp_all
 rw [hadd]
 have hnl:n<ys.length*size:=by
  have:=(List.getElem?_eq_some_iff.1 hu).1; rwa [zj1 hlen ys] at this
 have hi:n / size<ys.length:=Nat.div_lt_of_lt_mul (by rwa [Nat.mul_comm] at hnl)
 have hr:n % size<size:=Nat.mod_lt _ hs
 have hdm:n / size*size+n % size=n:=Nat.div_add_mod' n size
 have hy:ys[n / size]?=some ys[n / size]:=List.getElem?_eq_getElem hi
 have h2:=zlS hlen ys (n / size) (n % size) _ hy hr
 rw [hdm,hu] at h2
 have h3:=(h.2 _ _ _ _ (Nat.le_add_right _ _) (hgt _ _ hy) h2.symm).2
 have e1:(j+((n / size:Nat):Int).toNat)*size+n % size=j*size+n:=by
  rw [Int.toNat_natCast,Nat.add_mul]; omega
 rwa [e1] at h3
theorem zq1 [WideF F] {i2 B:Nat} (hr:Rd w0 K RD) (hi2:RD[i2]?=some (zeJ enc size v2 j Ls)) (ht:P.underlying t=some (.slice e)) (hE:ElemOk P e size) (hB:∀ i,P.info? e=some i→i.bytes≤B) (hlen:∀ x,(enc x).length=size) (h1:∀ x,∀ u∈enc x,u.oneCell'=true) (hV:Vw v2 Ls size j v ys) (hg:gd ops σ g=some true) (hd:d<N) (hs:ev σ s=some vv) (hx:ev σ x=some v)
  (hk:L[k]?=some (vec enc e size vv xs)) (hn:xs.length+ys.length≤maxLen) (hb:(xs.length+ys.length)*B≤140737488355328)
  (h:∀ v',TO F P w0 K N dfs ops Q rest ((d,v')::σ) (L.set k (vec enc e size v' (xs++ys)))) :
  TO F P w0 K N dfs ops Q (⟨some d,.call { callee:=.builtin .append,args:=#[s,x],argTypes:=#[t,t] },ty,pos,aft,g⟩::rest) σ L:=by
 obtain ⟨i,zv,hi,hz,hsize,hzs,hsz,hbytes⟩:=hE
 have hbb:(xs.length+ys.length)*i.bytes≤140737488355328:=Nat.le_trans (Nat.mul_le_mul_left _ (hB i hi)) hb
 refine zgd hg (by simp) fun a w ha hw => ?_
 obtain ⟨C2,hV2⟩:=hr.at hw hi2
 obtain ⟨C,hV1,hstep⟩:=hw.focus hk
 by_cases hne:ys=[]
 ·subst hne
  obtain ⟨_,_,q',c,hq',_,_⟩:=hV
  subst hq'
  rw [List.append_nil] at h
  rcases q' with _ | q'
  ·obtain ⟨b,cap,hb⟩:=Vec.len hV1
   have hcap:xs.length≤cap:=by
    rcases hV1.shape with ⟨h3,h4,_⟩ | ⟨gb,cap',h3,_,h4,_⟩
    ·rw [h4]; exact Nat.zero_le _
    ·rw [hb] at h3; cases h3; exact h4
   have hr:=ziv (P:=P) w t ty e i ht hi b xs.length cap c hcap
   refine ⟨vv,w,?_,h vv _ _ (ha.put hd _) (hstep _ C w (Ext.refl _ _) hV1)⟩
   subst hb
   simp [execOp,resolve,invoke,builtin,ha.ev hs,ha.ev hx,hr,Sem.run_bind]
  ·obtain ⟨v',w',hr,C',h2,h3⟩:=ziu (P:=P) w t ty e i zv ht hi hz hsize hzs hsz hlen h1 vv xs C hV1 [] q' c (by simp) hn hbb
   rw [List.append_nil] at h2
   refine ⟨v',w',?_,h v' _ _ (ha.put hd _) (hstep _ C' w' h3 h2)⟩
   have hr':(Builtin.append_ #[t,t] ty #[vv,.slice (some q') 0 c]).run P w=.ok v' w':=hr
   simp [execOp,resolve,invoke,builtin,ha.ev hs,ha.ev hx,hr',Sem.run_bind]
 ·obtain ⟨c,rfl,hc⟩:=zsM hlen hsz hV2 hV hne
  obtain ⟨v',w',hr,C',h2,h3⟩:=ziu (P:=P) w t ty e i zv ht hi hz hsize hzs hsz hlen h1 vv xs C hV1 ys _ c hc hn hbb
  refine ⟨v',w',?_,h v' _ _ (ha.put hd _) (hstep _ C' w' h3 h2)⟩
  simp [execOp,resolve,invoke,builtin,ha.ev hs,ha.ev hx,hr,Sem.run_bind]
end
theorem zpL {P:Program} {t e:TypeId} {x:Operand} {q:Option Addr} {n c:Nat} (ht:P.underlying t=some (.slice e)) (w:World):(do eqGuard .eql t x (.const (.slice none 0 0)) (.slice q n c) (.slice none 0 0); binOp .eql t (.slice q n c) (.slice none 0 0):Sem Value).run P w=.ok (.bool q.isNone) w:=by
 have h:∀ d,(Op.equalIn (d+1) t (.slice q n c) (.slice none 0 0)).run P w=.ok q.isNone w:=fun d=>by
  cases q <;> simp [Op.equalIn,run_underlying ht]
 have h':(Op.equalIn Op.maxDepth t (.slice q n c) (.slice none 0 0)).run P w=.ok q.isNone w:=h 9999
 simp [eqGuard,binOp,Sem.run_bind,run_underlying ht,Op.equal,h']
theorem zsK:∀ i,prog.info? 43=some i→i.bytes≤56:=fun i hi=>by
 have h:(prog.info? 43).all (fun i=>decide (i.bytes≤56))=true:=by kernel_rfl
 rw [hi] at h
 exact of_decide_eq_true h
theorem zxR {vv v:Value} {Ls:List zap} {k:Nat} {xs:List zap} (hw:Vw vv Ls 6 k v xs) (hb:xs.length*56≤140737488355328):FnR prog 31 [v] [zeJ zb9 6 vv k Ls] [] (fun v0:Value=>v0) (fun v0=>[vec zb9 43 6 v0 xs]):=by
 refine FnR.intro func31 rfl ntmps31 (by simp) ?_
 intro w0 K hrd
 obtain ⟨q,c,hv,_,hq⟩:=hw.2.2
 have hw':=hw
 subst hv
 cases q with
 | none =>
  have hx:xs=[]:=by
   cases xs with
   | nil=>rfl
   | cons x xs=>cases hq (by simp)
  subst hx
  refine zaE (zas (zhj rfl (by decide) rfl (zaP (zay (zaE (zaE (zas (zgq rfl (by decide) rfl (zb6 rfl (by decide) rfl rfl (zpL underlying37) (zaP (zay (zba rfl ?_))))))))))))
  refine zaE (zas (zfi (enc:=zb9) (e:=43) (size:=6) (zhj rfl (by decide) rfl (zaP (zay (zau (zaf ?_)))))))
  exact zbt (rs:=[.tmp 2]) (.slice none 0 0) (.inl rfl) results31 (.cons (.tmp rfl) .nil) rfl (zab [0] kr rfl)
 | some q =>
  refine zaE (zas (zhj rfl (by decide) rfl (zaP (zay (zaE (zaE (zas (zgq rfl (by decide) rfl (zb6 rfl (by decide) rfl rfl (zpL underlying37) (zaP (zay (zaM rfl (zal ?_)))))))))))))
  refine zay (zaE (zas ?_))
  refine zbc (cs:=[]) (te:=43) (ps:=[]) rfl (by decide) rfl (fun _=>by kernel_rfl) (fun b1 => ?_)
  refine zgq rfl (by decide) rfl (zkp ([]:List zap) (k:=0) rfl zbN rfl (show 0≤maxLen by decide) ?_)
  show TO _ _ _ _ _ _ _ _ _ _ [vec zb9 43 6 (.slice (some ⟨b1,0,none⟩) 0 0) ([]:List zap)]
  refine zq1 (k:=0) (i2:=0) (B:=56) hrd rfl underlying37 zuf zsK zbN zeW hw' rfl (by decide) rfl rfl rfl (by simp only [maxLen,List.length_nil]; omega) (by rw [List.length_nil,Nat.zero_add]; exact hb) (fun v1 => ?_)
  refine zhj rfl (by decide) rfl (zaP (zay (zau ?_)))
  exact zbt (rs:=[.tmp 2]) v1 (.inl rfl) results31 (.cons (.tmp rfl) .nil) rfl (zab [0] kr rfl)
def zfh (s1:List zap):Option (List zap) := grd (s1.length*56≤140737488355328) <| some s1
theorem zgY {vvs1 vs1:Value} {Ls1:List zap} {ks1:Nat} {s1:List zap} (hws1:Vw vvs1 Ls1 6 ks1 vs1 s1) {r:(List zap)} (h:zfh s1=some r):FnR prog 31 [vs1] [zeJ zb9 6 vvs1 ks1 Ls1] [] (fun v0:Value=>v0) (fun v0=>[vec zb9 43 6 v0 r]):=by
 obtain ⟨hb,h⟩:=zbQ h
 cases h
 exact zxR hws1 hb
section
open Go.ChangeShapes Go.WideShapes
theorem FnR.p {P:Program} {f:FuncId} {vs:List Value} {RD:List Asn} {v:Value} (h:FnR P f vs RD [] (fun _:Unit=>v) (fun _=>[])) (w:World) (hr:Rd w (fun _=>False) RD):Calls P f vs.toArray w fun e w'=>e=.returned v∧Below w.heap.size w w' :=
 (h w (fun _=>False) hr (fun _ h=>h)).mono fun e w' ⟨_,h1,C',h2,h3⟩=>⟨h1,h3.toBelow (Nat.le_refl _) (fun _ _ h=>h)⟩
theorem zxS {w:World} {b j:Nat} {v:Value} (h:w.cell? ⟨b,j,none⟩=some v):b<w.heap.size:=by
 rcases Nat.lt_or_ge b w.heap.size with h1 | h1
 ·exact h1
 ·have:w.heap[b]?=none:=Array.getElem?_eq_none h1
  simp [World.cell?,this] at h
theorem zwZ {α:Type} {enc:α→List Value} {m:α→Value} (hm:∀ x,enc x=[m x]) {w:World} {a:Addr} {ys:List α} {cap:Nat} (hl:ys.length≤cap) (hc:∀ i y,ys[i]?=some y→w.cell? (a.add i)=some (m y)) :
  ∃ vv k L,Vw vv L 1 k (.slice (some a) ys.length cap) ys∧(zeJ enc 1 vv k L).P (fun b=>b<w.heap.size) w:=by
 cases ys with
 | nil =>
  refine ⟨.slice none 0 0,0,[],⟨Nat.le_refl _,rfl,_,_,rfl,hl,fun h=>absurd rfl h⟩,fun b hb=>hb,fun i x j v hi hx=>by simp at hx⟩
 | cons y ys =>
  obtain ⟨b,off,spot⟩:=a
  have hspot:spot=none:=by simpa [Addr.add] using World.cell?_spot (hc 0 y rfl)
  subst hspot
  refine ⟨.slice (some ⟨b,0,none⟩) 0 0,off,List.replicate off y++(y::ys),⟨by simp,?_,_,_,rfl,hl,fun _=>by simp [zdz]⟩,fun b hb=>hb,fun i x j v hi hx hv => ?_⟩
  ·rw [List.drop_left' (by simp),List.take_length]
  ·rw [List.getElem?_append_right (by simpa using hi),List.length_replicate] at hx
   have h1:=hc _ _ hx
   rw [add_plain,show off+(i - off)=i by omega] at h1
   rw [hm] at hv
   have hj:j=0:=by
    cases j with
    | zero=>rfl
    | succ j=>simp at hv
   subst hj
   have hv':m x=v:=by simpa using hv
   subst hv'
   show b<w.heap.size∧w.cell? ⟨b,i*1+0,none⟩=some (m x)
   rw [Nat.mul_one,Nat.add_zero]
   exact ⟨zxS h1,h1⟩
section
variable {H:Type} {enc:TypeId×Value→H} {P:Program} {w:World} {base:Nat} {held:Bool} {zcD:Nat} {t e:TypeId} {cs:List Value} {x:DataW H×List MemPlace}
theorem zu4 {q:IntKind} (ht:P.underlying t=some (.slice e)) (he:P.underlying e=some (.int q)) (hc:P.cellsOf e=1) (h:DataW.trod enc P w base (fun _=>true) held zcD t cs=some x) :
  ∃ (hd:Hd) (zs:List Int) (vv:Value) (k:Nat) (L:List Int),cs=[hd.v]∧Vw vv L 1 k hd.v zs∧(zeJ (zlp q) 1 vv k L).P (fun b=>b<w.heap.size) w∧(∀ n∈zs,(Lit.int q n).wf=true)∧((x.1=.nil∧zs=[])∨∃ A B,x.1=.slice A B∧A.length=zs.length):=by
 rcases open_ints ht he hc h with ⟨rfl,rfl⟩ | ⟨a,len,cap,zs,rfl,hb,hl,hm,hz,rfl,hcell,hw⟩
 ·exact ⟨Hd.nil,[],.slice none 0 0,0,[],rfl,⟨Nat.le_refl _,rfl,none,0,rfl,Nat.le_refl _,fun h=>absurd rfl h⟩,⟨fun b hb=>hb,fun i x j v hi hx=>by simp at hx⟩,fun n hn=>(by cases hn),.inl ⟨rfl,rfl⟩⟩
 ·rw [if_pos rfl] at hz
  have hlen:(zs.take len).length=len:=by rw [List.length_take]; omega
  have hr:=zwZ (enc:=zlp q) (m:=fun x=>.int q x) (fun _=>rfl) (w:=w) (a:=a) (ys:=zs.take len) (cap:=cap) (by omega) (fun i y hy=>by
   rw [List.getElem?_take] at hy
   split at hy
   ·have hi:i<zs.length:=(List.getElem?_eq_some_iff.1 hy).1
    rw [hcell i hi,List.getD,hy]; rfl
   ·cases hy)
  obtain ⟨vv,k,L,h1,h2⟩:=hr
  rw [hlen] at h1
  exact ⟨⟨some a,len,cap⟩,zs.take len,vv,k,L,rfl,h1,h2,fun n hn=>hw n (List.mem_of_mem_take hn),.inr ⟨_,_,rfl,by simp [lits]⟩⟩
theorem zu5 {q:IntKind} {fs:Array Field} (ht:P.underlying t=some (.struct fs)) (hfs:fs.toList.map (fun f=>(f.type,f.offset))=[(e,0),(e,1),(e,2),(e,3)]) (hsz:P.cellsOf t=4) (h1:P.cellsOf e=1) (he:P.underlying e=some (.int q)) {sp:Nat→Bool} (h:DataW.trod enc P w base sp held zcD t cs=some x) :
  ∃ a b c d:Int,cs=[.int q a,.int q b,.int q c,.int q d]∧(Lit.int q a).wf=true∧(Lit.int q b).wf=true∧(Lit.int q c).wf=true∧(Lit.int q d).wf=true:=by
 obtain ⟨xs,n,rfl,rfl,hl,hx,hf⟩:=DataW.trod_struct ht h
 rw [hsz] at hl
 have key:∀ i,i<4→∃ z,DataW.trod enc P w base sp held n e ((cs.drop i).take 1)=some z:=by
  intro i hi
  have hg:(fs.toList.map (fun f=>(f.type,f.offset)))[i]?=some (e,i):=by
   rw [hfs]
   have:i=0∨i=1∨i=2∨i=3:=by omega
   rcases this with rfl | rfl | rfl | rfl <;> rfl
  rw [List.getElem?_map] at hg
  cases hq:fs.toList[i]? with
  | none=>rw [hq] at hg; cases hg
  | some f =>
   rw [hq] at hg
   have hfe:(f.type,f.offset)=(e,i):=Option.some.inj hg
   have h2:=hf i f (by rw [← Array.getElem?_toList]; exact hq)
   rw [(Prod.mk.inj hfe).1,(Prod.mk.inj hfe).2,h1] at h2
   have hsz4:fs.size=4:=by have:=congrArg List.length hfs; simpa using this
   rw [List.getElem?_eq_getElem (by omega)] at h2
   exact ⟨_,h2⟩
 match cs,hl with
 | [c0,c1,c2,c3],_ =>
  obtain ⟨z0,k0⟩:=key 0 (by decide)
  obtain ⟨z1,k1⟩:=key 1 (by decide)
  obtain ⟨z2,k2⟩:=key 2 (by decide)
  obtain ⟨z3,k3⟩:=key 3 (by decide)
  obtain ⟨a,ea,_,wa⟩:=DataW.trod_int he k0
  obtain ⟨b,eb,_,wb⟩:=DataW.trod_int he k1
  obtain ⟨c,ec,_,wc⟩:=DataW.trod_int he k2
  obtain ⟨d,ed,_,wd⟩:=DataW.trod_int he k3
  simp at ea eb ec ed
  exact ⟨a,b,c,d,by rw [ea,eb,ec,ed],wa,wb,wc,wd⟩
theorem zjK {fs:Array Field} {l:List (TypeId×Nat)} {n:Nat} {sp:Nat→Bool} {xs:List (DataW H×List MemPlace)} (hfs:fs.toList.map (fun f=>(f.type,f.offset))=l) (hx:xs.length=fs.size)
  (hf:∀ (i:Nat) (f:Field),fs[i]?=some f→DataW.trod enc P w base sp held n f.type ((cs.drop f.offset).take (P.cellsOf f.type))=xs[i]?) {i o c:Nat} (hi:l[i]?=some (e,o)) (hc:P.cellsOf e=c) :
  ∃ z,xs[i]?=some z∧DataW.trod enc P w base sp held n e ((cs.drop o).take c)=some z:=by
 have hg:(fs.toList.map (fun f=>(f.type,f.offset)))[i]?=some (e,o):=by rw [hfs]; exact hi
 rw [List.getElem?_map] at hg
 cases hq:fs.toList[i]? with
 | none=>rw [hq] at hg; cases hg
 | some f =>
  rw [hq] at hg
  have hfe:(f.type,f.offset)=(e,o):=Option.some.inj hg
  have h2:=hf i f (by rw [← Array.getElem?_toList]; exact hq)
  rw [(Prod.mk.inj hfe).1,(Prod.mk.inj hfe).2,hc] at h2
  have hlt:i<fs.size:=by have:=(List.getElem?_eq_some_iff.1 hq).1; simpa using this
  rw [List.getElem?_eq_getElem (by omega)] at h2
  exact ⟨_,List.getElem?_eq_getElem (by omega),h2⟩
end
end
section
open Go.ChangeShapes Go.WideShapes
section
variable {H:Type} {enc:TypeId×Value→H} {P:Program} {w:World} {base:Nat} {held:Bool} {t e:TypeId}
theorem see_sheet {ts tc tl:TypeId} {fs fl:Array Field} {v:Value} {d:DataW H} {ps:List MemPlace} {r:Reach} {b0:Nat} (ht:P.underlying t=some (.struct fs)) (hfs:fs.toList.map (fun f=>(f.type,f.offset))=[(ts,0),(tl,1),(e,5),(tc,6)]) (h7:P.cellsOf t=7)
  (hs:P.underlying ts=some .string) (hs1:P.cellsOf ts=1) (hc:P.underlying tc=some (.slice e)) (hc1:P.cellsOf tc=1) (he:P.underlying e=some (.int .i64)) (he1:P.cellsOf e=1)
  (hl:P.underlying tl=some (.struct fl)) (hfl:fl.toList.map (fun f=>(f.type,f.offset))=[(e,0),(e,1),(e,2),(e,3)]) (hl4:P.cellsOf tl=4) (hval:Value.okWide P w r b0 t v) (h:DataW.Trod enc P w base (fun _=>true) held t v d ps) :
  ∃ (s:zBA) (hd:Hd) (zs:List Int) (i a b c g:Int) (vv:Value) (k:Nat) (L:List Int) (y0 y1 y2 y3:DataW H),v=.agg #[.string s,.int .i64 a,.int .i64 b,.int .i64 c,.int .i64 g,.int .i64 i,hd.v]∧Vw vv L 1 k hd.v zs∧(zeJ (zlp .i64) 1 vv k L).P (fun b=>b<w.heap.size) w ∧
   d=.agg [y0,y1,y2,y3]∧((y3=.nil∧zs=[])∨∃ A B,y3=.slice A B∧A.length=zs.length):=by
 obtain ⟨cs,rfl,hcs⟩:=okWide_struct ht hval
 obtain ⟨zcD,h⟩:=h
 have h:DataW.trod enc P w base (fun _=>true) held zcD t cs.toList=some (d,ps):=h
 obtain ⟨xs,n,rfl,hx,hl7,hxl,hf⟩:=DataW.trod_struct ht h
 rw [h7] at hl7
 have h4:fs.size=4:=by have:=congrArg List.length hfs; simpa using this
 obtain ⟨l⟩:=cs
 match l,hl7 with
 | [c0,c1,c2,c3,c4,c5,c6],_ =>
  obtain ⟨z0,x0,k0⟩:=zjK (i:=0) hfs hxl hf rfl hs1
  obtain ⟨z1,x1,k1⟩:=zjK (i:=1) hfs hxl hf rfl hl4
  obtain ⟨z2,x2,k2⟩:=zjK (i:=2) hfs hxl hf rfl he1
  obtain ⟨z3,x3,k3⟩:=zjK (i:=3) hfs hxl hf rfl hc1
  obtain ⟨s,e0,_,_⟩:=DataW.trod_string hs k0
  obtain ⟨a,b,c,g,e3,_⟩:=zu5 hl hfl hl4 he1 he k1
  obtain ⟨i,e2,_,_⟩:=DataW.trod_int he k2
  obtain ⟨hd,zs,vv,k,L,e1,g1,g2,_,g3⟩:=zu4 hc he he1 k3
  simp at e0 e1 e2 e3
  obtain ⟨ea,eb,ec,eg⟩:=e3
  subst e0 e1 e2 ea eb ec eg
  match xs,hxl.trans h4 with
  | [w0,w1,w2,w3],_ =>
   simp at x0 x1 x2 x3
   refine ⟨s,hd,zs,i,a,b,c,g,vv,k,L,w0.1,w1.1,w2.1,w3.1,rfl,g1,g2,(Prod.mk.inj hx).1,?_⟩
   rw [x3]; exact g3
end
end
end Go.Proofs.YtmmhmppcemfdcaaGreatDoor
