/-
  Texts laid together: Vs, Shf, Sf, Tok, PlA, Ql, Ob, Ro, Op, Ir, Rq, Lr, PcW, Bytes, Bld, Gr, Bn, PlB, Cls, ClsW, ClsW2, SeqW, RefPcs, Runs, C0, Vow, RefW, RefW3, Rx, Sh, Sw, Sx. Nothing is assumed.
-/
import Derived.Test.YtbempdelckaccaaDoorPageRefuses1
import Derived.Shelf.Strings.Builder1
import Derived.Shelf.Strings.Builder2
import Derived.Shelf.Strings.Trim
import Derived.Shelf.Small.Utf8
import Derived.Shelf.Small.Strs
import Derived.Shelf.Strings.BuilderF
import Derived.Shelf.Strings.Search1
import Derived.Shelf.Strings.Prefix
import Derived.Shelf.Strings.Runes
import Derived.Shelf.Strings.IndexAny
import Derived.Shelf.Strings.AsciiSet
import Derived.Shelf.Strings.IndexAnyAll
import Derived.Shelf.Bits.Mul64
import Derived.Shelf.Strings.Repeat
import Derived.Shelf.Unicode.DecodeSlow
import Derived.Test.YtbempdelckaccaaDoorProg
import Derived.Shelf.Strings.SlTrimAscii
import Derived.Lib.AppendStr
import Derived.Laws.IdiomStrings
import Derived.Lib.BufferRead
import Derived.Lib.Builder
import Derived.Outline
import Derived.Lib.UnsafeStr
import Derived.Lib.MakeNoZero
import Derived.OpenShut
import Derived.SliceStrings
import Derived.ProofKit
set_option maxRecDepth 100000
set_option maxHeartbeats 4000000

namespace Go.Proofs.YtbempdelckaccaaDoor
open Go.RowKit Go.Lib
set_option linter.unusedVariables false
set_option linter.unusedSimpArgs false
def zed (s:ByteArray) (k:Nat):Nat:=match (pcs s.data.toList)[k]? with
 | some p=>p.i
 | none=>s.size
theorem zlV {s:ByteArray} {k:Nat} {p:Pc} (h:(pcs s.data.toList)[k]?=some p):zed s k=p.i:=by simp [zed,h]
theorem zlU (s:ByteArray):zed s 0=0:=by
 unfold zed
 by_cases h:s.data.toList=[]
 ·have:s.size=0:=by have:=congrArg List.length h; simpa using this
  simp [h,pcs,zca,this]
 ·simp [pcs,zct 0 _ h]
theorem zlW {s:ByteArray} {k:Nat} {p:Pc} (h:(pcs s.data.toList)[k]?=some p):zed s (k+1)=p.i+p.w∧zcB p.i (s.data.toList.drop p.i)=p::(pcs s.data.toList).drop (k+1):=by
 have hk:k<(pcs s.data.toList).length:=(List.getElem?_eq_some_iff.1 h).1
 have he:pcs s.data.toList=(pcs s.data.toList).take k++p::(pcs s.data.toList).drop (k+1):=by
  have h1:=List.drop_eq_getElem_cons hk
  have h2:(pcs s.data.toList)[k]=p:=(List.getElem?_eq_some_iff.1 h).2
  rw [h2] at h1
  rw [← h1,List.take_append_drop]
 obtain ⟨q1,q2,q3,q4⟩:=zkc s.data.toList _ p _ he
 have hlen:s.data.toList.length=s.size:=by rw [Array.length_toList]; rfl
 refine ⟨?_,q3⟩
 unfold zed
 have hget:(pcs s.data.toList)[k+1]?=((pcs s.data.toList).drop (k+1))[0]?:=by simp
 rw [hget,q4]
 by_cases hd':s.data.toList.drop (p.i+p.w)=[]
 ·rw [hd',zca]
  have h5:=congrArg List.length hd'
  simp only [List.length_drop,List.length_nil,hlen] at h5
  obtain ⟨_,h6,_⟩:=zmS s.data.toList p (List.mem_of_getElem? h)
  simp; omega
 ·rw [zct _ _ hd']; simp
section
variable {F:Fence} {P:Program} {w0:World} {K:Nat→Prop} {N:Nat} {dfs:List Deferred} {ops:Array Oper} {Q:Exit→Act→World→Prop} {rest:List Oper} {σ:List (Nat×Value)} {L:List Asn}
 {d:Nat} {t:TypeId} {ty:TypeId} {pos:String} {aft:Array Edge} {g:Option (Nat×Bool)} {x:Operand} {k:Nat} {s:ByteArray}
theorem zdh [WideF F] (ht:P.underlying t=some .string) (hg:gd ops σ g=some true) (hd:d<N) (hx:ev σ x=some (.string s))
  (h:∀ b,TO F P w0 K N dfs ops Q rest ((d,.pointer (some ⟨b,0,none⟩))::σ) (L++[obj b (.stringIter s (zed s 0))])):TO F P w0 K N dfs ops Q (⟨some d,.range t x,ty,pos,aft,g⟩::rest) σ L :=
 zfa hg (by simp) fun a w ha hw=>⟨.pointer (some ⟨w.heap.size,0,none⟩),w.alloc (.stringIter s 0),by simp [execOp,ha.ev hx,Instr.range,run_underlying ht,Sem.run_bind],h _ _ _ (ha.put hd _) (by rw [zlU]; exact hw.alloc _)⟩
theorem zdA [WideF F] {it m:Nat} {p:Pc} (hg:gd ops σ g=some true) (hd:d<N) (hx:ev σ x=some (.pointer (some ⟨it,0,none⟩))) (hk:L[k]?=some (obj it (.stringIter s (zed s m)))) (hp:(pcs s.data.toList)[m]?=some p)
  (h:TO F P w0 K N dfs ops Q rest ((d,.tuple #[.bool true,.int .i64 p.i,.int .i32 p.r])::σ) (L.set k (obj it (.stringIter s (zed s (m+1)))))):TO F P w0 K N dfs ops Q (⟨some d,.next x true,ty,pos,aft,g⟩::rest) σ L:=by
 refine zfa hg (by simp) fun a w ha hw => ?_
 have hit:=hw.obj hk
 rw [zlV hp] at hit
 obtain ⟨h1,h2⟩:=zlW hp
 have hmem:=List.mem_of_getElem? hp
 obtain ⟨g1,g2,_⟩:=zmS s.data.toList p hmem
 have hlen:s.data.toList.length=s.size:=by rw [Array.length_toList]; rfl
 obtain ⟨r,wd,W1,e1,e2,e3,e4,e5,e6,e7,e8⟩:=zkh P w it s p.i hit (by omega)
 rw [h2] at e6
 have hpe:p=⟨p.i,wd,r⟩:=(List.cons.inj e6).1
 have hw':p.w=wd:=congrArg Pc.w hpe
 have hr:p.r=r:=congrArg Pc.r hpe
 obtain ⟨C1,c1,c2⟩:=hw.focus hk
 refine ⟨.tuple #[.bool true,.int .i64 p.i,.int .i32 p.r],W1,by rw [hr]; simp [execOp,ha.ev hx,e1,Sem.run_bind],h _ _ (ha.put hd _) (c2 _ C1 W1 ⟨?_,fun j hj=>.inl hj⟩ ⟨c1.1,by rw [h1,hw']; exact e3⟩)⟩
 exact e2.weaken (fun i _ hi=>by subst hi; exact (c1.1 _).2 rfl)
theorem zdB [WideF F] {it m:Nat} (hg:gd ops σ g=some true) (hd:d<N) (hx:ev σ x=some (.pointer (some ⟨it,0,none⟩))) (hk:L[k]?=some (obj it (.stringIter s (zed s m)))) (hm:(pcs s.data.toList).length≤m)
  (h:TO F P w0 K N dfs ops Q rest ((d,.tuple #[.bool false])::σ) L):TO F P w0 K N dfs ops Q (⟨some d,.next x true,ty,pos,aft,g⟩::rest) σ L:=by
 refine zfa hg (by simp) fun a w ha hw => ?_
 have hit:=hw.obj hk
 have e:zed s m=s.size:=by simp [zed,List.getElem?_eq_none hm]
 rw [e] at hit
 exact ⟨_,w,by simp [execOp,ha.ev hx,(zki P w it s s.size hit (by omega)).1,Sem.run_bind],h _ _ (ha.put hd _) hw⟩
end
end Go.Proofs.YtbempdelckaccaaDoor

namespace Go.Proofs
open Go.Shelf
def zhz:Go.Shelf.Ren:=⟨fun | 160=>51 | 232=>73 | 231=>72 | 227=>74 | 234=>76 | 233=>75 | 236=>78 | 235=>77 | 228=>94 | 271=>97 | 151=>96 | 197=>95 | 120=>111 | 152=>92 | 260=>110 | 137=>106 | 119=>107 | 224=>108 | 225=>109 | 217=>116 | 266=>120 | n=>n,fun | 9=>9 | 4=>4 | 3=>3 | 5=>5 | 117=>158 | 116=>157 | 0=>0 | 124=>161 | 21=>21 | 105=>181 | 46=>107 | 119=>200 | 139=>203 | 138=>202 | n=>n,fun | 3=>1 | 4=>2 | n=>n⟩
theorem zkE:Go.Proofs.Lays.n160 Tryd.prog zhz:={
 mixed:=by kernel_rfl
 f119:=Tryd.func107.trans (congrArg some (by kernel_rfl))
 f120:=Tryd.func111.trans (congrArg some (by kernel_rfl))
 f137:=Tryd.func106.trans (congrArg some (by kernel_rfl))
 f151:=Tryd.func96.trans (congrArg some (by kernel_rfl))
 f152:=Tryd.func92.trans (congrArg some (by kernel_rfl))
 f160:=Tryd.func51.trans (congrArg some (by kernel_rfl))
 f197:=Tryd.func95.trans (congrArg some (by kernel_rfl))
 f217:=Tryd.func116.trans (congrArg some (by kernel_rfl))
 f224:=Tryd.func108.trans (congrArg some (by kernel_rfl))
 f225:=Tryd.func109.trans (congrArg some (by kernel_rfl))
 f227:=Tryd.func74.trans (congrArg some (by kernel_rfl))
 f228:=Tryd.func94.trans (congrArg some (by kernel_rfl))
 f231:=Tryd.func72.trans (congrArg some (by kernel_rfl))
 f232:=Tryd.func73.trans (congrArg some (by kernel_rfl))
 f233:=Tryd.func75.trans (congrArg some (by kernel_rfl))
 f234:=Tryd.func76.trans (congrArg some (by kernel_rfl))
 f235:=Tryd.func77.trans (congrArg some (by kernel_rfl))
 f236:=Tryd.func78.trans (congrArg some (by kernel_rfl))
 f260:=Tryd.func110.trans (congrArg some (by kernel_rfl))
 f266:=Tryd.func120.trans (congrArg some (by kernel_rfl))
 f271:=Tryd.func97.trans (congrArg some (by kernel_rfl))
 t0:=Tryd.underlying0
 a0:=Tryd.isAgg0
 z0:=Tryd.sizeOf0
 v0:=Tryd.zeroValue0
 t3:=Tryd.underlying3
 a3:=Tryd.isAgg3
 z3:=Tryd.sizeOf3
 v3:=Tryd.zeroValue3
 t4:=Tryd.underlying4
 a4:=Tryd.isAgg4
 z4:=Tryd.sizeOf4
 v4:=Tryd.zeroValue4
 t5:=Tryd.underlying5
 a5:=Tryd.isAgg5
 z5:=Tryd.sizeOf5
 v5:=Tryd.zeroValue5
 t9:=Tryd.underlying9
 a9:=Tryd.isAgg9
 z9:=Tryd.sizeOf9
 v9:=Tryd.zeroValue9
 t21:=Tryd.underlying21
 a21:=Tryd.isAgg21
 z21:=Tryd.sizeOf21
 v21:=Tryd.zeroValue21
 t46:=Tryd.underlying107
 a46:=Tryd.isAgg107
 z46:=Tryd.sizeOf107
 v46:=Tryd.zeroValue107
 t105:=Tryd.underlying181
 a105:=Tryd.isAgg181
 z105:=Tryd.sizeOf181
 v105:=Tryd.zeroValue181
 t116:=Tryd.underlying157
 a116:=Tryd.isAgg157
 z116:=Tryd.sizeOf157
 t117:=Tryd.underlying158
 a117:=Tryd.isAgg158
 z117:=Tryd.sizeOf158
 v117:=Tryd.zeroValue158
 t119:=Tryd.underlying200
 a119:=Tryd.isAgg200
 z119:=Tryd.sizeOf200
 t124:=Tryd.underlying161
 a124:=Tryd.isAgg161
 z124:=Tryd.sizeOf161
 v124:=Tryd.zeroValue161
 t138:=Tryd.underlying202
 a138:=Tryd.isAgg202
 z138:=Tryd.sizeOf202
 v138:=Tryd.zeroValue202
 t139:=Tryd.underlying203
 a139:=Tryd.isAgg203
 z139:=Tryd.sizeOf203
 v139:=Tryd.zeroValue203
 g3:=by kernel_rfl
 g4:=by kernel_rfl }
def zhC:Go.Shelf.Ren:=⟨fun | 119=>107 | n=>n,fun | 21=>21 | 4=>4 | n=>n,fun | n=>n⟩
theorem zkG:Go.Proofs.Lays.n119 Tryd.prog zhC:={
 mixed:=by kernel_rfl
 f119:=Tryd.func107.trans (congrArg some (by kernel_rfl))
 t4:=Tryd.underlying4
 a4:=Tryd.isAgg4
 z4:=Tryd.sizeOf4
 v4:=Tryd.zeroValue4
 t21:=Tryd.underlying21
 a21:=Tryd.isAgg21
 z21:=Tryd.sizeOf21
 v21:=Tryd.zeroValue21 }
theorem Tryd.utf8_ValidRune (r:Int) (w:World) :
  Calls Tryd.prog 107 #[.int .i32 r] w fun e w'=>e=.returned (.bool (Lib.validRune r))∧w'=w:=Any.utf8_ValidRune zkG r w
def zhB:Go.Shelf.Ren:=⟨fun | 137=>106 | 217=>116 | 266=>120 | n=>n,fun | 9=>9 | 5=>5 | 3=>3 | n=>n,fun | n=>n⟩
theorem zkF:Go.Proofs.Lays.n137 Tryd.prog zhB:={
 mixed:=by kernel_rfl
 f137:=Tryd.func106.trans (congrArg some (by kernel_rfl))
 f217:=Tryd.func116.trans (congrArg some (by kernel_rfl))
 f266:=Tryd.func120.trans (congrArg some (by kernel_rfl))
 t3:=Tryd.underlying3
 a3:=Tryd.isAgg3
 z3:=Tryd.sizeOf3
 v3:=Tryd.zeroValue3
 t5:=Tryd.underlying5
 a5:=Tryd.isAgg5
 z5:=Tryd.sizeOf5
 v5:=Tryd.zeroValue5
 t9:=Tryd.underlying9
 a9:=Tryd.isAgg9
 z9:=Tryd.sizeOf9
 v9:=Tryd.zeroValue9 }
open Go.RowKit in
theorem Tryd.strings_IndexByte (s:ByteArray) (c:Int) (w:World) :
  Calls Tryd.prog 106 #[.string s,.int .u8 c] w fun e w'=>e=.returned (.int .i64 (Lib.indexByte s.data.toList c.toNat.toUInt8))∧w'=w:=Any.strings_IndexByte zkF s c w
def zhy:Go.Shelf.Ren:=⟨fun | 226=>93 | n=>n,fun | 3=>3 | 4=>4 | n=>n,fun | n=>n⟩
theorem zkD:Go.Proofs.Lays.n226 Tryd.prog zhy:={
 mixed:=by kernel_rfl
 f226:=Tryd.func93.trans (congrArg some (by kernel_rfl))
 t3:=Tryd.underlying3
 a3:=Tryd.isAgg3
 z3:=Tryd.sizeOf3
 v3:=Tryd.zeroValue3
 t4:=Tryd.underlying4
 a4:=Tryd.isAgg4
 z4:=Tryd.sizeOf4
 v4:=Tryd.zeroValue4 }
open Go.RowKit Go.Lib in
theorem Tryd.strings_shouldUseASCIISet (n:Int) (w:World) :
  Calls Tryd.prog 93 #[.int .i64 n] w fun e w'=>e=.returned (.bool (decide (8<n)))∧w'=w:=Any.strings_shouldUseASCIISet zkD n w
def zhA:Go.Shelf.Ren:=⟨fun | 153=>71 | 152=>92 | 226=>93 | 227=>74 | 228=>94 | 137=>106 | 119=>107 | 224=>108 | 225=>109 | 217=>116 | 266=>120 | n=>n,fun | 9=>9 | 3=>3 | 4=>4 | 5=>5 | 21=>21 | 117=>158 | 116=>157 | 0=>0 | 46=>107 | 124=>161 | n=>n,fun | n=>n⟩
theorem zhn:Go.Proofs.Lays.n153 Tryd.prog zhA:={
 mixed:=by kernel_rfl
 f119:=Tryd.func107.trans (congrArg some (by kernel_rfl))
 f137:=Tryd.func106.trans (congrArg some (by kernel_rfl))
 f152:=Tryd.func92.trans (congrArg some (by kernel_rfl))
 f153:=Tryd.func71.trans (congrArg some (by kernel_rfl))
 f217:=Tryd.func116.trans (congrArg some (by kernel_rfl))
 f224:=Tryd.func108.trans (congrArg some (by kernel_rfl))
 f225:=Tryd.func109.trans (congrArg some (by kernel_rfl))
 f226:=Tryd.func93.trans (congrArg some (by kernel_rfl))
 f227:=Tryd.func74.trans (congrArg some (by kernel_rfl))
 f228:=Tryd.func94.trans (congrArg some (by kernel_rfl))
 f266:=Tryd.func120.trans (congrArg some (by kernel_rfl))
 t0:=Tryd.underlying0
 a0:=Tryd.isAgg0
 z0:=Tryd.sizeOf0
 v0:=Tryd.zeroValue0
 t3:=Tryd.underlying3
 a3:=Tryd.isAgg3
 z3:=Tryd.sizeOf3
 v3:=Tryd.zeroValue3
 t4:=Tryd.underlying4
 a4:=Tryd.isAgg4
 z4:=Tryd.sizeOf4
 v4:=Tryd.zeroValue4
 t5:=Tryd.underlying5
 a5:=Tryd.isAgg5
 z5:=Tryd.sizeOf5
 v5:=Tryd.zeroValue5
 t9:=Tryd.underlying9
 a9:=Tryd.isAgg9
 z9:=Tryd.sizeOf9
 v9:=Tryd.zeroValue9
 t21:=Tryd.underlying21
 a21:=Tryd.isAgg21
 z21:=Tryd.sizeOf21
 v21:=Tryd.zeroValue21
 t46:=Tryd.underlying107
 a46:=Tryd.isAgg107
 z46:=Tryd.sizeOf107
 v46:=Tryd.zeroValue107
 t116:=Tryd.underlying157
 a116:=Tryd.isAgg157
 z116:=Tryd.sizeOf157
 t117:=Tryd.underlying158
 a117:=Tryd.isAgg158
 z117:=Tryd.sizeOf158
 v117:=Tryd.zeroValue158
 t124:=Tryd.underlying161
 a124:=Tryd.isAgg161
 z124:=Tryd.sizeOf161
 v124:=Tryd.zeroValue161 }
open Go.RowKit Go.Lib in
theorem Tryd.strings_IndexAny_long (hv116:∀ w,(zeroValue 157).run Tryd.prog w=.ok (.agg (Array.replicate 256 (.bool false))) w) (s chars:ByteArray) (w:World) (h2:2≤chars.size) (h8:8<s.size) (hs:s.size<4294967281) (hcs:chars.size<4294967281) (hascii:∀ (j:Nat) b,chars.data.toList[j]?=some b→b.toNat<128) :
  Calls Tryd.prog 71 #[.string s,.string chars] w fun e w'=>e=.returned (.int .i64 (Lib.indexAny s.data.toList chars.data.toList))∧w'=((w.alloc (.cells (Lib.setCells chars.data.toList) 157)).alloc (.cells (Lib.setCells chars.data.toList) 157)):=Any.strings_IndexAny_long zhn hv116 (by kernel_rfl) s chars w h2 h8 hs hcs hascii
def zfd:Go.Shelf.Ren:=⟨fun | 105=>24 | 212=>45 | 99=>23 | 165=>46 | 166=>47 | 170=>48 | 169=>49 | 263=>67 | 264=>68 | 206=>44 | 240=>69 | 241=>70 | 276=>90 | 277=>91 | n=>n,fun | 9=>9 | 3=>3 | 4=>4 | 20=>20 | 0=>0 | 46=>107 | 109=>108 | 5=>5 | 72=>113 | 76=>117 | 51=>147 | 146=>148 | 53=>150 | 148=>151 | 70=>110 | 37=>111 | 75=>116 | 127=>153 | 164=>176 | 80=>119 | n=>n,fun | n=>n⟩
theorem zkH:Go.Proofs.Lays.n105 Tryd.prog zfd:={
 mixed:=by kernel_rfl
 f99:=Tryd.func23.trans (congrArg some (by kernel_rfl))
 f105:=Tryd.func24.trans (congrArg some (by kernel_rfl))
 f165:=Tryd.func46.trans (congrArg some (by kernel_rfl))
 f166:=Tryd.func47.trans (congrArg some (by kernel_rfl))
 f169:=Tryd.func49.trans (congrArg some (by kernel_rfl))
 f170:=Tryd.func48.trans (congrArg some (by kernel_rfl))
 f206:=Tryd.func44.trans (congrArg some (by kernel_rfl))
 f212:=Tryd.func45.trans (congrArg some (by kernel_rfl))
 f240:=Tryd.func69.trans (congrArg some (by kernel_rfl))
 f241:=Tryd.func70.trans (congrArg some (by kernel_rfl))
 f263:=Tryd.func67.trans (congrArg some (by kernel_rfl))
 f264:=Tryd.func68.trans (congrArg some (by kernel_rfl))
 f276:=Tryd.func90.trans (congrArg some (by kernel_rfl))
 f277:=Tryd.func91.trans (congrArg some (by kernel_rfl))
 t0:=Tryd.underlying0
 a0:=Tryd.isAgg0
 z0:=Tryd.sizeOf0
 v0:=Tryd.zeroValue0
 t3:=Tryd.underlying3
 a3:=Tryd.isAgg3
 z3:=Tryd.sizeOf3
 v3:=Tryd.zeroValue3
 t4:=Tryd.underlying4
 a4:=Tryd.isAgg4
 z4:=Tryd.sizeOf4
 v4:=Tryd.zeroValue4
 t5:=Tryd.underlying5
 a5:=Tryd.isAgg5
 z5:=Tryd.sizeOf5
 v5:=Tryd.zeroValue5
 t9:=Tryd.underlying9
 a9:=Tryd.isAgg9
 z9:=Tryd.sizeOf9
 v9:=Tryd.zeroValue9
 t20:=Tryd.underlying20
 a20:=Tryd.isAgg20
 z20:=Tryd.sizeOf20
 v20:=Tryd.zeroValue20
 t37:=Tryd.underlying111
 a37:=Tryd.isAgg111
 z37:=Tryd.sizeOf111
 v37:=Tryd.zeroValue111
 t46:=Tryd.underlying107
 a46:=Tryd.isAgg107
 z46:=Tryd.sizeOf107
 v46:=Tryd.zeroValue107
 t51:=Tryd.underlying147
 a51:=Tryd.isAgg147
 z51:=Tryd.sizeOf147
 v51:=Tryd.zeroValue147
 t53:=Tryd.underlying150
 a53:=Tryd.isAgg150
 z53:=Tryd.sizeOf150
 v53:=Tryd.zeroValue150
 t70:=Tryd.underlying110
 a70:=Tryd.isAgg110
 z70:=Tryd.sizeOf110
 v70:=Tryd.zeroValue110
 t72:=Tryd.underlying113
 a72:=Tryd.isAgg113
 z72:=Tryd.sizeOf113
 v72:=Tryd.zeroValue113
 t75:=Tryd.underlying116
 a75:=Tryd.isAgg116
 z75:=Tryd.sizeOf116
 v75:=Tryd.zeroValue116
 t76:=Tryd.underlying117
 a76:=Tryd.isAgg117
 z76:=Tryd.sizeOf117
 v76:=Tryd.zeroValue117
 t109:=Tryd.underlying108
 a109:=Tryd.isAgg108
 z109:=Tryd.sizeOf108
 v109:=Tryd.zeroValue108
 t127:=Tryd.underlying153
 a127:=Tryd.isAgg153
 z127:=Tryd.sizeOf153
 v127:=Tryd.zeroValue153
 t146:=Tryd.underlying148
 a146:=Tryd.isAgg148
 z146:=Tryd.sizeOf148
 v146:=Tryd.zeroValue148
 t148:=Tryd.underlying151
 a148:=Tryd.isAgg151
 z148:=Tryd.sizeOf151
 v148:=Tryd.zeroValue151
 t164:=Tryd.underlying176
 a164:=Tryd.isAgg176
 z164:=Tryd.sizeOf176
 v164:=Tryd.zeroValue176 }
theorem zff:Builder.Extra Tryd.prog zfd:={
 sizeBuilder:=by kernel_rfl
 liesBuilder:=by kernel_rfl
 t5:=Tryd.underlying5
 a5:=Tryd.isAgg5
 z5:=Tryd.sizeOf5
 v5:=Tryd.zeroValue5
 infoByte:=by kernel_rfl
 cellsByte:=by kernel_rfl
 sizeByte:=by kernel_rfl
 neB5:=by decide }
open Go.RowKit Go.Lib in
theorem Tryd.strings_Repeat (s:ByteArray) (c:Nat) (w:World) (hc:c≤9223372036854775807) (hlen:s.size*c≤140737488355328) :
  Calls Tryd.prog 24 #[.string s,.int .i64 c] w fun e w'=>e=.returned (.string ⟨(Lib.repeatL s.data.toList c).toArray⟩)∧Below w.heap.size w w':=Any.strings_Repeat zkH zff s c w hc hlen
end Go.Proofs

namespace Go.Proofs.YtbempdelckaccaaDoor
open Go.RowKit Go.Lib Go.Shelf
set_option linter.unusedVariables false
set_option linter.unusedSimpArgs false
theorem ziy {P:Program} {f:FuncId} {vs:List Value} {v:Value} (h:∀ w,Calls P f vs.toArray w fun e w'=>e=.returned v∧w'=w):FnP P f vs v:=fun w=>(h w).mono fun e w' ⟨h1,h2⟩=>⟨h1,h2 ▸ Below.refl _ _⟩
theorem zk1 (s:ByteArray) (c:Int):FnP Tryd.prog 106 [.string s,.int .u8 c] (.int .i64 (Lib.indexByte s.data.toList c.toNat.toUInt8)):=ziy fun w=>Tryd.strings_IndexByte s c w
theorem zmr (r:Int):FnP Tryd.prog 107 [.int .i32 r] (.bool (Lib.validRune r)):=ziy fun w=>Tryd.utf8_ValidRune r w
theorem zpR (n:Int):FnP Tryd.prog 93 [.int .i64 n] (.bool (decide (8<n))):=ziy fun w=>Tryd.strings_shouldUseASCIISet n w
def zb7 (n:Int):ByteArray:=⟨(Lib.repeatL [32] n.toNat).toArray⟩
theorem znN (n:Int) (h:0≤n∧n≤140737488355328):FnP Tryd.prog 24 [.string ⟨#[32]⟩,.int .i64 n] (.string (zb7 n)):=fun w=>by
 obtain ⟨c,rfl⟩:∃ c:Nat,n=c:=⟨n.toNat,by omega⟩
 have h1:(⟨#[32]⟩:ByteArray).size=1:=rfl
 exact Tryd.strings_Repeat ⟨#[32]⟩ c w (by omega) (by rw [h1,Nat.one_mul]; omega)
def zli (s:ByteArray):ByteArray:=⟨(Lib.trimS s.data.toList [32,9]).toArray⟩
theorem zpJ (s:ByteArray) (hs:s.size≤9223372036854775807):FnP Tryd.prog 51 [.string s,.string ⟨#[32,9]⟩] (.string (zli s)):=fun w =>
 Any.strings_Trim_laid zkE (by kernel_rfl) s ⟨#[32,9]⟩ w hs (by decide) (ascii_of_all (by decide))
theorem zn3 (s:ByteArray) (h8:8<s.size) (hs:s.size<4294967281):FnP Tryd.prog 71 [.string s,.string ⟨#[13,10]⟩] (.int .i64 (Lib.indexAny s.data.toList [13,10])):=fun w=>by
 refine (Any.strings_IndexAny_long zhn (zero_of_info (n:=256) (by kernel_rfl)).1 (by kernel_rfl) s ⟨#[13,10]⟩ w (by decide) h8 hs (by decide) (ascii_of_all (by decide))).mono fun e w' ⟨h1,h2⟩=>⟨h1,?_⟩
 rw [h2]
 exact ((Below.refl _ _).alloc (Nat.le_refl _) _).alloc (by simp) _
end Go.Proofs.YtbempdelckaccaaDoor

namespace Go.Proofs.YtbempdelckaccaaDoor
open Go.RowKit Go.Lib
structure Tok where
 r:Nat
 bs:List UInt8
 deriving DecidableEq
def Tok.broken (t:Tok):Bool:=t.r==65533&&t.bs.length==1
def Tok.valid (t:Tok):Prop:=(t.r<55296∨(57343<t.r∧t.r≤1114111))∧t.bs=encodeRune t.r
def zfs (ts:List Tok):List UInt8:=ts.flatMap Tok.bs
def ziC:Nat→List UInt8→List Tok
 | 0,_=>[]
 | f+1,l=>if l=[] then [] else ⟨(decodeL l).1,l.take (decodeL l).2⟩::ziC f (l.drop (decodeL l).2)
def zjS (l:List UInt8):List Tok:=ziC l.length l
theorem zif (t:Tok) (ts:List Tok):zfs (t::ts)=t.bs++zfs ts:=by simp [zfs]
theorem zdv (a b:List Tok):zfs (a++b)=zfs a++zfs b:=by simp [zfs]
theorem zjR:∀ (f g:Nat) (l:List UInt8),l.length≤f→l.length≤g→ziC f l=ziC g l:=by
 intro f
 induction f with
 | zero =>
  intro g l h1 h2
  have:l=[]:=List.eq_nil_of_length_eq_zero (by omega)
  subst this
  cases g <;> simp [ziC]
 | succ f ih =>
  intro g l h1 h2
  cases g with
  | zero =>
   have:l=[]:=List.eq_nil_of_length_eq_zero (by omega)
   subst this
   simp [ziC]
  | succ g =>
   by_cases hl:l=[]
   ·simp [ziC,hl]
   ·simp only [ziC,hl,if_false]
    have:=zeA l
    have hlen:0<l.length:=List.length_pos_iff.2 hl
    rw [ih g _ (by simp; omega) (by simp; omega)]
theorem zlk:zjS []=[]:=by simp [zjS,ziC]
theorem zgf (l:List UInt8) (h:l≠[]):zjS l=⟨(decodeL l).1,l.take (decodeL l).2⟩::zjS (l.drop (decodeL l).2):=by
 have hlen:0<l.length:=List.length_pos_iff.2 h
 unfold zjS
 obtain ⟨n,hn⟩:∃ n,l.length=n+1:=⟨l.length - 1,by omega⟩
 rw [hn]
 simp only [ziC,h,if_false]
 have:=zeA l
 rw [zjR n (l.drop (decodeL l).2).length _ (by simp; omega) (Nat.le_refl _)]
theorem zjI {P:List UInt8→Prop} (h0:P []) (h1:∀ l,l≠[]→P (l.drop (decodeL l).2)→P l):∀ l,P l:=by
 have key:∀ (n:Nat) (l:List UInt8),l.length≤n→P l:=by
  intro n
  induction n with
  | zero=>intro l hl; rw [List.eq_nil_of_length_eq_zero (by omega:l.length=0)]; exact h0
  | succ n ih =>
   intro l hl
   by_cases hn:l=[]
   ·rw [hn]; exact h0
   ·have:=zeA l
    exact h1 l hn (ih _ (by simp; omega))
 exact fun l=>key l.length l (Nat.le_refl _)
theorem zqw {t:Tok} (h:t.valid∨t.broken=true):t.bs≠[]:=by
 rcases h with h | h
 ·rw [h.2]; intro e; have:=(ziJ (t.r:Int)).1; rw [e] at this; simp at this
 ·intro e; unfold Tok.broken at h; rw [e] at h; simp at h
def zpf (b:UInt8):Bool:=b.toNat / 64==2
def zoq:List UInt8→Prop
 | []=>True
 | b::_=>zpf b=false
theorem zjH {n b0 b1 b2 b3 c1 c2 c3 m:Nat} (h1:n≤1∨b1 / 64≠2) (h2:m≤1∨c1 / 64≠2):decodeN n b0 b1 b2 b3=decodeN m b0 c1 c2 c3:=by
 unfold decodeN
 have e1:¬ (1<n∧b1 / 64=2):=by omega
 have e2:¬ (1<m∧c1 / 64=2):=by omega
 simp only [e1,e2,and_false,false_and,if_false]
theorem zjG {n b0 b1 b2 b3 c2 c3 m:Nat} (hn:1<n) (hm:1<m) (h1:n≤2∨b2 / 64≠2) (h2:m≤2∨c2 / 64≠2):decodeN n b0 b1 b2 b3=decodeN m b0 b1 c2 c3:=by
 unfold decodeN
 have e1:¬ (2<n∧b2 / 64=2):=by omega
 have e2:¬ (2<m∧c2 / 64=2):=by omega
 simp only [e1,e2,and_false,false_and,if_false,hn,hm,true_and]
theorem zjF {n b0 b1 b2 b3 c3 m:Nat} (hn:2<n) (hm:2<m) (h1:n≤3∨b3 / 64≠2) (h2:m≤3∨c3 / 64≠2):decodeN n b0 b1 b2 b3=decodeN m b0 b1 b2 c3:=by
 unfold decodeN
 have e1:¬ (3<n∧b3 / 64=2):=by omega
 have e2:¬ (3<m∧c3 / 64=2):=by omega
 have h1n:1<n:=by omega
 have h1m:1<m:=by omega
 simp only [e1,e2,and_false,if_false,hn,hm,h1n,h1m,true_and]
theorem zjE {n b0 b1 b2 b3 m:Nat} (hn:3<n) (hm:3<m):decodeN n b0 b1 b2 b3=decodeN m b0 b1 b2 b3:=by
 unfold decodeN
 have h1n:1<n:=by omega
 have h1m:1<m:=by omega
 have h2n:2<n:=by omega
 have h2m:2<m:=by omega
 simp only [hn,hm,h1n,h1m,h2n,h2m,true_and]
theorem zji {x:List UInt8} (h:zoq x) (n:Nat):n+x.length≤n∨(x.getD 0 0).toNat / 64≠2:=by
 cases x with
 | nil=>simp
 | cons b x=>right; simpa [zoq,zpf] using h
theorem zoe (l x:List UInt8) (hl:l≠[]) (hx:zoq x):decodeL (l++x)=decodeL l:=by
 rw [decodeL_N,decodeL_N]
 rcases l with _ | ⟨a,_ | ⟨b,_ | ⟨c,_ | ⟨d,l⟩⟩⟩⟩
 ·exact absurd rfl hl
 ·refine zjH ?_ (.inl (by simp))
  rcases zji hx 1 with h | h
  ·left; simp only [List.length_append,List.length_cons,List.length_nil]; omega
  ·right; simpa using h
 ·refine zjG (by simp) (by simp) ?_ (.inl (by simp))
  rcases zji hx 2 with h | h
  ·left; simp only [List.length_append,List.length_cons,List.length_nil]; omega
  ·right; simpa using h
 ·refine zjF (by simp) (by simp) ?_ (.inl (by simp))
  rcases zji hx 3 with h | h
  ·left; simp only [List.length_append,List.length_cons,List.length_nil]; omega
  ·right; simpa using h
 ·exact zjE (by simp) (by simp)
theorem zew (l x:List UInt8) (hx:zoq x):zjS (l++x)=zjS l++zjS x:=by
 induction l using zjI with
 | h0=>rw [zlk]; rfl
 | h1 l hn ih =>
  have hle:=zhm l hn
  have hne:l++x≠[]:=by simp [hn]
  rw [zgf _ hne,zgf l hn,zoe l x hn hx,List.drop_append_of_le_length hle,ih,List.take_append_of_le_length hle]
  rfl
theorem zg4 (r:Nat) (hv:r<55296∨(57343<r∧r≤1114111)) :
  (r≤127∧encodeRuneZ r=[(r:Int)])∨(128≤r∧r≤2047∧encodeRuneZ r=[192+(r:Int) / 64,128+(r:Int) % 64]) ∨
  (2048≤r∧r≤65535∧encodeRuneZ r=[224+(r:Int) / 4096,128+(r:Int) / 64 % 64,128+(r:Int) % 64]) ∨
  (65536≤r∧r≤1114111∧encodeRuneZ r=[240+(r:Int) / 262144,128+(r:Int) / 4096 % 64,128+(r:Int) / 64 % 64,128+(r:Int) % 64]):=by
 by_cases h1:r≤127
 ·exact .inl ⟨h1,encodeRuneZ_one (by omega) (by omega)⟩
 ·by_cases h2:r≤2047
  ·exact .inr (.inl ⟨by omega,h2,encodeRuneZ_two (by omega) (by omega)⟩)
  ·by_cases h3:r≤65535
   ·exact .inr (.inr (.inl ⟨by omega,h3,encodeRuneZ_three (by omega)⟩))
   ·exact .inr (.inr (.inr ⟨by omega,by omega,encodeRuneZ_four (by omega) (by omega)⟩))
theorem zc8 (z:Int) (_h0:0≤z) (h1:z<256):(z.toNat.toUInt8).toNat=z.toNat:=by
 simp; omega
theorem zpe (r:Nat) (hv:r<55296∨(57343<r∧r≤1114111)) (x:List UInt8):decodeL (encodeRune r++x)=(r,(encodeRune r).length):=by
 rw [decodeL_N]
 rcases zg4 r hv with ⟨h,e⟩ | ⟨h,h',e⟩ | ⟨h,h',e⟩ | ⟨h,h',e⟩
 ·have hl:encodeRune r=[((r:Int).toNat.toUInt8)]:=by simp only [encodeRune,e,List.map_cons,List.map_nil]
  rw [hl]
  simp only [List.cons_append,List.nil_append,List.getD_cons_zero,List.length_cons]
  rw [zc8 _ (by omega) (by omega)]
  unfold decodeN
  simp only [Int.toNat_natCast]
  rw [if_pos (by omega)]
  simp
 ·have hl:encodeRune r=[((192+(r:Int) / 64).toNat.toUInt8),((128+(r:Int) % 64).toNat.toUInt8)]:=by simp only [encodeRune,e,List.map_cons,List.map_nil]
  rw [hl]
  simp only [List.cons_append,List.nil_append,List.getD_cons_zero,List.getD_cons_succ,List.length_cons]
  rw [zc8 _ (by omega) (by omega),zc8 _ (by omega) (by omega)]
  have a1:(192+(r:Int) / 64).toNat=192+r / 64:=by omega
  have a2:(128+(r:Int) % 64).toNat=128+r % 64:=by omega
  rw [a1,a2]
  unfold decodeN
  have c1:¬ 192+r / 64<128:=by omega
  have c2:(192+r / 64) / 32=6:=by omega
  have c3:(128+r % 64) / 64=2:=by omega
  have c4:(192+r / 64) % 32*64+(128+r % 64) % 64=r:=by omega
  have c5:128≤r:=by omega
  rw [if_neg c1,if_pos ⟨c2,by omega,c3⟩,c4,if_pos c5]
  rfl
 ·have hl:encodeRune r=[((224+(r:Int) / 4096).toNat.toUInt8),((128+(r:Int) / 64 % 64).toNat.toUInt8),((128+(r:Int) % 64).toNat.toUInt8)]:=by simp only [encodeRune,e,List.map_cons,List.map_nil]
  rw [hl]
  simp only [List.cons_append,List.nil_append,List.getD_cons_zero,List.getD_cons_succ,List.length_cons]
  rw [zc8 _ (by omega) (by omega),zc8 _ (by omega) (by omega),zc8 _ (by omega) (by omega)]
  have a1:(224+(r:Int) / 4096).toNat=224+r / 4096:=by omega
  have a2:(128+(r:Int) / 64 % 64).toNat=128+r / 64 % 64:=by omega
  have a3:(128+(r:Int) % 64).toNat=128+r % 64:=by omega
  rw [a1,a2,a3]
  unfold decodeN
  have c1:¬ 224+r / 4096<128:=by omega
  have c2:(224+r / 4096) / 32≠6:=by omega
  have c2':(224+r / 4096) / 16=14:=by omega
  have c3:(128+r / 64 % 64) / 64=2:=by omega
  have c3':(128+r % 64) / 64=2:=by omega
  have c4:(224+r / 4096) % 16*4096+(128+r / 64 % 64) % 64*64+(128+r % 64) % 64=r:=by omega
  have c5:2048≤r:=by omega
  rw [if_neg c1,if_neg (fun h=>c2 h.1),if_pos ⟨c2',⟨by omega,c3⟩,⟨by omega,c3'⟩⟩,c4,if_pos ⟨c5,by omega⟩]
  rfl
 ·have hl:encodeRune r=[((240+(r:Int) / 262144).toNat.toUInt8),((128+(r:Int) / 4096 % 64).toNat.toUInt8),((128+(r:Int) / 64 % 64).toNat.toUInt8),((128+(r:Int) % 64).toNat.toUInt8)]:=by simp only [encodeRune,e,List.map_cons,List.map_nil]
  rw [hl]
  simp only [List.cons_append,List.nil_append,List.getD_cons_zero,List.getD_cons_succ,List.length_cons]
  rw [zc8 _ (by omega) (by omega),zc8 _ (by omega) (by omega),zc8 _ (by omega) (by omega),zc8 _ (by omega) (by omega)]
  have a1:(240+(r:Int) / 262144).toNat=240+r / 262144:=by omega
  have a2:(128+(r:Int) / 4096 % 64).toNat=128+r / 4096 % 64:=by omega
  have a2':(128+(r:Int) / 64 % 64).toNat=128+r / 64 % 64:=by omega
  have a3:(128+(r:Int) % 64).toNat=128+r % 64:=by omega
  rw [a1,a2,a2',a3]
  unfold decodeN
  have c1:¬ 240+r / 262144<128:=by omega
  have c2:(240+r / 262144) / 32≠6:=by omega
  have c2':(240+r / 262144) / 16≠14:=by omega
  have c2'':(240+r / 262144) / 8=30:=by omega
  have c3:(128+r / 4096 % 64) / 64=2:=by omega
  have c3':(128+r / 64 % 64) / 64=2:=by omega
  have c3'':(128+r % 64) / 64=2:=by omega
  have c4:(240+r / 262144) % 8*262144+(128+r / 4096 % 64) % 64*4096+(128+r / 64 % 64) % 64*64+(128+r % 64) % 64=r:=by omega
  have c5:65536≤r:=by omega
  rw [if_neg c1,if_neg (fun h=>c2 h.1),if_neg (fun h=>c2' h.1),if_pos ⟨c2'',⟨by omega,c3⟩,⟨by omega,c3'⟩,⟨by omega,c3''⟩⟩,c4,if_pos ⟨c5,by omega⟩]
  rfl
theorem znM (r:Nat) (hv:r<55296∨(57343<r∧r≤1114111)) (x:List UInt8):zoq (encodeRune r++x):=by
 rcases zg4 r hv with ⟨h,e⟩ | ⟨h,h',e⟩ | ⟨h,h',e⟩ | ⟨h,h',e⟩ <;>
 ·simp only [encodeRune,e,List.map_cons,List.map_nil,List.cons_append,zoq,zpf,beq_eq_false_iff_ne,ne_eq]
  rw [zc8 _ (by omega) (by omega)]
  omega
theorem zlK {t:Tok} (h:t.valid) (x:List UInt8):zjS (t.bs++x)=t::zjS x:=by
 have hne:t.bs++x≠[]:=by simp [zqw (.inl h)]
 rw [zgf _ hne]
 rw [h.2,zpe t.r h.1 x,← h.2]
 simp
theorem zkP {vs:List Tok} (h:∀ t∈vs,t.valid) (x:List UInt8):zjS (zfs vs++x)=vs++zjS x:=by
 induction vs with
 | nil=>rfl
 | cons t vs ih =>
  rw [zif,List.append_assoc,zlK (h t (List.mem_cons_self ..)),ih (fun q hq=>h q (List.mem_cons_of_mem _ hq))]
  rfl
theorem zhT {vs:List Tok} (hne:vs≠[]) (h:∀ t∈vs,t.valid) (x:List UInt8):zoq (zfs vs++x):=by
 cases vs with
 | nil=>exact absurd rfl hne
 | cons t vs =>
  have:=h t (List.mem_cons_self ..)
  rw [zif,List.append_assoc,this.2]
  exact znM t.r this.1 _
def zmj (ts:List Tok):Prop:=zjS (zfs ts)=ts
theorem zic {t:Tok} {ts:List Tok} (h:zmj (t::ts)):zmj ts:=by
 unfold zmj at *
 by_cases hn:zfs (t::ts)=[]
 ·rw [hn,zlk] at h; cases h
 ·rw [zgf _ hn] at h
  have h1:(⟨(decodeL (zfs (t::ts))).1,(zfs (t::ts)).take (decodeL (zfs (t::ts))).2⟩:Tok)=t:=by injection h
  have h2:zjS ((zfs (t::ts)).drop (decodeL (zfs (t::ts))).2)=ts:=by injection h
  have h3:(zfs (t::ts)).take (decodeL (zfs (t::ts))).2=t.bs:=congrArg Tok.bs h1
  have h4:=List.take_append_drop (decodeL (zfs (t::ts))).2 (zfs (t::ts))
  rw [h3] at h4
  have h5:(zfs (t::ts)).drop (decodeL (zfs (t::ts))).2=zfs ts:=by
   rw [zif] at h4 ⊢
   exact List.append_cancel_left h4
  rw [← h5]; exact h2
theorem zid {a ts:List Tok} (h:zmj (a++ts)):zmj ts:=by
 induction a with
 | nil=>exact h
 | cons t a ih=>exact ih (zic h)
inductive Sub:List Tok→List Tok→Prop
 | nil:Sub [] []
 | brk {b:Tok} {ts us:List Tok}:b.broken=true→Sub ts us→Sub (b::ts) (b::us)
 | val {gs vs ts us:List Tok}:gs≠[]→vs≠[]→(∀ t∈gs,t.valid)→(∀ t∈vs,t.valid)→Sub ts us→Sub (gs++ts) (vs++us)
theorem Sub.one {t:Tok} {vs ts us:List Tok} (ht:t.valid) (hn:vs≠[]) (hv:∀ t∈vs,t.valid) (h:Sub ts us):Sub (t::ts) (vs++us) :=
 Sub.val (gs:=[t]) (by simp) hn (by simpa using ht) hv h
theorem Sub.head {ts us:List Tok} (h:Sub ts us):∃ B ts' us',(∀ b∈B,b.broken=true)∧ts=B++ts'∧us=B++us'∧zoq (zfs ts')∧zoq (zfs us'):=by
 induction h with
 | nil=>exact ⟨[],[],[],by simp,rfl,rfl,trivial,trivial⟩
 | brk hb _ ih =>
  obtain ⟨B,ts',us',h1,rfl,rfl,h4,h5⟩:=ih
  exact ⟨_::B,ts',us',by simpa [hb] using h1,rfl,rfl,h4,h5⟩
 | @val gs vs ts us h1 h2 h3 h4 _ ih =>
  exact ⟨[],gs++ts,vs++us,by simp,rfl,rfl,by rw [zdv]; exact zhT h1 h3 _,by rw [zdv]; exact zhT h2 h4 _⟩
theorem Sub.good {ts us:List Tok} (h:Sub ts us) (hg:zmj ts):zmj us:=by
 induction h with
 | nil=>exact hg
 | @brk b ts us hb hs ih =>
  have ih':=ih (zic hg)
  obtain ⟨B,ts',us',h1,rfl,rfl,h4,h5⟩:=hs.head
  unfold zmj at *
  have hne:b.bs≠[]:=zqw (.inr hb)
  have e1:zfs (b::(B++ts'))=zfs (b::B)++zfs ts':=by rw [← List.cons_append,zdv]
  have e2:zfs (b::(B++us'))=zfs (b::B)++zfs us':=by rw [← List.cons_append,zdv]
  rw [e1,zew _ _ h4] at hg
  rw [e2,zew _ _ h5]
  have g1:zjS (zfs ts')=ts':=by
   have:=zid (a:=B) (ts:=ts') (by
    have hh:zmj (b::(B++ts')):=by unfold zmj; rw [e1,zew _ _ h4]; exact hg
    exact zic hh)
   exact this
  rw [zdv,zew _ _ h5] at ih'
  have g2:zjS (zfs us')=us':=zid (a:=B) (by unfold zmj; rw [zdv,zew _ _ h5]; exact ih')
  rw [g1,← List.cons_append] at hg
  rw [g2,← List.cons_append]
  rw [List.append_cancel_right hg]
 | @val gs vs ts us h1 h2 h3 h4 _ ih =>
  unfold zmj
  rw [zdv,zkP h4,show zjS (zfs us)=us from ih (zid hg)]
def place:Nat→List Tok→List Pc
 | _,[]=>[]
 | i,t::ts=>⟨i,t.bs.length,t.r⟩::place (i+t.bs.length) ts
end Go.Proofs.YtbempdelckaccaaDoor

namespace Go.Proofs.YtbempdelckaccaaDoor
open Go.RowKit Go.Lib
set_option linter.unusedVariables false
set_option linter.unusedSimpArgs false
section
variable {R S:Type} {c:Prop} [Decidable c] {o x z:Option R} {p:Option S} {f:S→Option R} {b:Bool} {y:Option R}
theorem zce (h:c) (ho:o=x):grd c o=x:=(zju h).trans ho
theorem za3 {a:S} (h:p=some a) (hf:f a=x):zan p f=x:=(zoi h).trans hf
theorem zaA (hb:b=true) (h:x=z):zam b x y=z:=(zpl hb).trans h
theorem zav (hb:b=false) (h:y=z):zam b x y=z:=(zpm hb).trans h
theorem zbC {T:Type} {t:T→Option R} {k:T} (h:t k=x):zbk t k=x:=h
theorem zfq {T:Type} {bot:T} {step:T→T} {n:Nat}:zaT bot step (n+1)=step (zaT bot step n):=rfl
theorem zm8 (k:Nat) (h:k≤1000):∃ n,zb8=n+k∧18446744073709550000≤n:=⟨18446744073709551616 - k,by unfold zb8; omega,by omega⟩
end
def vr (r:Int):Prop:=(0≤r∧r<55296)∨(57343<r∧r≤1114111)
instance (r:Int):Decidable (vr r):=by unfold vr; infer_instance
def wd (r:Int):Int:=if vr r then (if r<128 then 1 else if r<2048 then 2 else if r<65536 then 3 else 4) else 0
theorem u8w (x:Int) (h:0≤x∧x≤255):IntKind.u8.wrap x=x:=IntWalk.u8_in x h
theorem zma {l:List Int} {s:ByteArray} (h:l.map (fun x=>UInt8.ofNat x.toNat)=s.data.toList):zf9 l=s:=by
 apply ByteArray.ext; unfold zf9; simp [h]
end Go.Proofs.YtbempdelckaccaaDoor

namespace Go.Proofs.YtbempdelckaccaaDoor
open Go.RowKit Go.Lib
set_option linter.unusedVariables false
set_option linter.unusedSimpArgs false
section
variable {R X A B:Type} {xs:List X}
end
theorem zjK {n:Nat} (h:n≤4611686018427387904):n<zb8:=by unfold zb8; omega
end Go.Proofs.YtbempdelckaccaaDoor

namespace Go.Proofs.YtbempdelckaccaaDoor
open Go.RowKit Go.Lib
set_option linter.unusedVariables false
set_option linter.unusedSimpArgs false
def Rd (w:World) (K:Nat→Prop) (RD:List Asn):Prop:=∀ A∈RD,∃ C,A.P C w∧∀ k,C k→¬ K k
theorem Rd.nil {w:World} {K:Nat→Prop}:Rd w K []:=fun A h=>by cases h
theorem Rd.ext {w0 w:World} {K C:Nat→Prop} {RD:List Asn} (h:Rd w0 K RD) (hx:Ext K C w0 w):Rd w C RD:=fun A hA=>by
 obtain ⟨D,h1,h2⟩:=h A hA
 have hlt:=A.lt h1
 refine ⟨D,A.loc h1 hx.1.size (fun k hk=>hx.1.keep k (hlt k hk) (h2 k hk)),fun k hk hc => ?_⟩
 rcases hx.2 k hc with h | h
 ·exact h2 k hk h
 ·have:=hlt k hk; omega
theorem Rd.append {w:World} {K:Nat→Prop} {A B:List Asn} (h1:Rd w K A) (h2:Rd w K B):Rd w K (A++B):=fun X hX=>by
 rcases List.mem_append.1 hX with h | h
 ·exact h1 X h
 ·exact h2 X h
theorem Rd.at {w0 w:World} {K:Nat→Prop} {L RD:List Asn} {A:Asn} {i:Nat} (h:Rd w0 K RD) (hw:Holds w0 K L w) (hi:RD[i]?=some A):∃ C,A.P C w:=by
 obtain ⟨C,_,hx⟩:=hw
 obtain ⟨D,h1,_⟩:=h.ext hx A (List.mem_of_getElem? hi)
 exact ⟨D,h1⟩
theorem Rd.more {w:World} {K:Nat→Prop} {RD As:List Asn} {A:Asn} {i:Nat} (h:Rd w K RD) (hi:RD[i]?=some A) (hE:∀ C,A.P C w→∀ B∈As,∃ D,B.P D w∧∀ k,D k→C k):Rd w K (RD++As):=by
 refine h.append fun B hB => ?_
 obtain ⟨C,h1,h2⟩:=h A (List.mem_of_getElem? hi)
 obtain ⟨D,h3,h4⟩:=hE C h1 B hB
 exact ⟨D,h3,fun k hk=>h2 k (h4 k hk)⟩
theorem zj2 {w:World}:∀ {L:List Asn} {C:Nat→Prop},sepL L C w→∀ B∈L,∃ D,B.P D w∧∀ k,D k→C k
 | [],_,_,B,hB=>by cases hB
 | A::L,C,⟨C1,C2,h1,h2,h3,h4⟩,B,hB=>by
  rcases List.mem_cons.1 hB with rfl | hB
  ·exact ⟨C1,h1,fun k hk=>(h4 k).2 (.inl hk)⟩
  ·obtain ⟨D,g1,g2⟩:=zj2 h2 B hB
   exact ⟨D,g1,fun k hk=>(h4 k).2 (.inr (g2 k hk))⟩
inductive RdS (R RD0:List Asn):List Asn→Prop
 | nil:RdS R RD0 []
 | own {A:Asn} {As R' RD:List Asn} (hs:Splits R As R') (hE:∀ C w,sepL As C w→A.P C w) (h:RdS R RD0 RD):RdS R RD0 (A::RD)
 | ro {A:Asn} {RD:List Asn} (i:Nat) (hi:RD0[i]?=some A) (h:RdS R RD0 RD):RdS R RD0 (A::RD)
theorem RdS.rd {w0 w:World} {K C1 C2:Nat→Prop} {R RD0 RD:List Asn} (h:RdS R RD0 RD) (hR:sepL R C2 w) (hd:∀ k,C1 k→¬ C2 k) (h0:Rd w C1 RD0):Rd w C1 RD:=by
 induction h with
 | nil=>exact Rd.nil
 | @own A As R' RD hs hE h ih =>
  intro B hB
  rcases List.mem_cons.1 hB with rfl | hB
  ·obtain ⟨D1,D2,g1,g2,g3,g4⟩:=hs C2 w hR
   exact ⟨D1,hE D1 w g1,fun k hk hc=>hd k hc ((g4 k).2 (.inl hk))⟩
  ·exact ih B hB
 | @ro A RD i hi h ih =>
  intro B hB
  rcases List.mem_cons.1 hB with rfl | hB
  ·exact h0 _ (List.mem_of_getElem? hi)
  ·exact ih B hB
def FnR (P:Program) (f:FuncId) (vs:List Value) (RD As:List Asn) {β:Type} (V:β→Value) (Bs:β→List Asn):Prop :=
 ∀ w C,Rd w C RD→FnW P f vs As V Bs w C
section
variable {F:Fence} {P:Program} {w0:World} {K:Nat→Prop} {N:Nat} {dfs:List Deferred} {ops:Array Oper} {Q:Exit→Act→World→Prop} {rest:List Oper} {σ σ':List (Nat×Value)} {L L' R As Bs:List Asn} {o:Oper} {v:Value}
 {d:Nat} {t:TypeId} {op:Op} {ty:TypeId} {pos:String} {aft:Array Edge} {g:Option (Nat×Bool)} {x y z:Operand} {c c1 c2:Code} {k:Nat} {A B:Asn} {RO:List (Nat×Obj)} {RD RD0:List Asn} {e:TypeId} {ex:Exit}
theorem FnR.intro {f:FuncId} {fn:Func} {vs:List Value} {β:Type} {V:β→Value} {Bs:β→List Asn} (hf:P.funcs[f]?=some fn) (hb:fn.body=some c) (hn:fn.ntmps=N) (hN:vs.length≤N)
  (h:∀ w0 K,Rd w0 K RD→TC Fence.wide P w0 K N [] (bodyPostM Fence.wide 0 P fn (FR P V Bs w0 K)) c (ze8 vs) As):FnR P f vs RD As V Bs :=
 fun w C hR=>FnW.intro hf hb hn hN (h w C hR)
theorem zix [WideF F] {xs:List Operand} {ats:Array TypeId} {f:FuncId} {first cap:Array Value} {vs vs':List Value} {β:Type} {V:β→Value} {Bs:β→List Asn} {dst:Option Nat} (hRd:Rd w0 K RD0)
  (hg:gd ops σ g=some true) (hx:ev σ x=some (.func (.func f) first cap)) (hxs:evL σ xs=some vs) (hv:first.toList++vs++cap.toList=vs')
  (hent:∀ args w,(callFunc f args).run P w=.ok (.enter f args) w) (hF:FnR P f vs' RD As V Bs) (hs:Splits L As R) (hS:RdS R RD0 RD)
  (h:∀ b a w a',a'=a.put dst (V b)→At N dfs σ a→Holds w0 K (R++Bs b) w→wpListIn F 0 P ops Q rest a' w) :
  TO F P w0 K N dfs ops Q (⟨dst,.call { callee:=.value x,args:=xs.toArray,argTypes:=ats },ty,pos,aft,g⟩::rest) σ L:=by
 intro a w ha hw
 simp only [wpListIn,zeV (o:=⟨dst,.call { callee:=.value x,args:=xs.toArray,argTypes:=ats },ty,pos,aft,g⟩) ha hg,if_true]
 refine ⟨fun f _=>WideF.fn f,?_⟩
 have h1:(execOp a.eval ⟨dst,.call { callee:=.value x,args:=xs.toArray,argTypes:=ats },ty,pos,aft,g⟩).run P w=.ok (.enter f vs'.toArray) w:=by
  have e:first++vs.toArray++cap=vs'.toArray:=by rw [← hv]; simp
  simp only [execOp,resolve,List.map_toArray,ha.evL hxs,ha.ev hx,Deferred.ofValue,Sem.run_bind,Sem.run_pure,Result.andThen_ok,invoke,e,hent]
 rw [Oper.semAt_plain F _ _ (by simp),h1]
 refine ⟨(fun h=>by rw [WideF.depth (F:=F)] at h; cases h),?_⟩
 obtain ⟨C1,C2,hA,g2,g3,hx0,hstep⟩:=hw.split2 hs
 have hRd1:Rd w C1 RD0:=hRd.ext hx0
 refine WideF.calls ((hF w C1 (hS.rd (w0:=w0) (K:=K) g2 g3 hRd1) hA).mono ?_)
 rintro e w' ⟨b,rfl,C',hB,hx'⟩
 exact h b a w' _ rfl ha (hstep _ _ _ hx' hB)
theorem zfK [WideF F] {xs:List Operand} {ats:Array TypeId} {f:FuncId} {first cap:Array Value} {vs vs':List Value} {β:Type} {V:β→Value} {Bs:β→List Asn} (hRd:Rd w0 K RD0)
  (hg:gd ops σ g=some true) (hd:d<N) (hx:ev σ x=some (.func (.func f) first cap)) (hxs:evL σ xs=some vs) (hv:first.toList++vs++cap.toList=vs')
  (hent:∀ args w,(callFunc f args).run P w=.ok (.enter f args) w) (hF:FnR P f vs' RD As V Bs) (hs:Splits L As R) (hS:RdS R RD0 RD)
  (h:∀ b,TO F P w0 K N dfs ops Q rest ((d,V b)::σ) (R++Bs b)) :
  TO F P w0 K N dfs ops Q (⟨some d,.call { callee:=.value x,args:=xs.toArray,argTypes:=ats },ty,pos,aft,g⟩::rest) σ L :=
 zix hRd hg hx hxs hv hent hF hs hS fun b a w a' ha' ha hw=>by subst ha'; exact h b _ _ (ha.put hd _) hw
theorem zco [WideF F] {xs:List Operand} {ats:Array TypeId} {f:FuncId} {first cap:Array Value} {vs vs':List Value} (hRd:Rd w0 K RD0)
  (hg:gd ops σ g=some true) (hd:d<N) (hx:ev σ x=some (.func (.func f) first cap)) (hxs:evL σ xs=some vs) (hv:first.toList++vs++cap.toList=vs')
  (hent:∀ args w,(callFunc f args).run P w=.ok (.enter f args) w) (hF:FnR P f vs' RD [] (fun _:Unit=>v) (fun _=>[])) (hS:RdS L RD0 RD)
  (h:TO F P w0 K N dfs ops Q rest ((d,v)::σ) L) :
  TO F P w0 K N dfs ops Q (⟨some d,.call { callee:=.value x,args:=xs.toArray,argTypes:=ats },ty,pos,aft,g⟩::rest) σ L :=
 zix hRd hg hx hxs hv hent hF Splits.nil hS fun b a w a' ha' ha hw=>by
  subst ha'
  rw [List.append_nil] at hw
  exact h _ _ (ha.put hd _) hw
section
variable {i:Nat}
theorem zbs [WideF F] {b j:Nat} {l:List Value} {e:TypeId} (hr:Rd w0 K RD) (hi:RD[i]?=some (cells b l e)) (hT:zb9 P t) (hg:gd ops σ g=some true) (hd:d<N) (hx:ev σ x=some (.pointer (some ⟨b,j,none⟩))) (hj:l[j]?=some v)
  (h:TO F P w0 K N dfs ops Q rest ((d,v)::σ) L):TO F P w0 K N dfs ops Q (⟨some d,.load t x,ty,pos,aft,g⟩::rest) σ L:=by
 obtain ⟨dd,hu,hrow⟩:=hT
 exact zcm hg hd (by simp) (fun a w ha hw=>by
  obtain ⟨C,hC⟩:=hr.at hw hi
  have hc:w.cell? ⟨b,j,none⟩=some v:=zdP hC.2 (by simpa using hj)
  cases dd <;> simp_all [execOp,ha.ev hx,Instr.loadAt,Instr.sureAddr,loadVar,isAgg,Sem.run_bind,run_underlying hu]) h
variable {α:Type} {enc:α→List Value} {size:Nat} {vv:Value} {xs:List α}
theorem zjg {w:World} {C:Nat→Prop} (h:(vec enc e size vv xs).P C w):Vw vv xs size 0 vv xs:=by
 have hw:Holds w (fun _=>False) [vec enc e size vv xs] w→Vw vv xs size 0 vv xs:=fun hh=>zhO (k:=0) hh rfl
 have:Holds w C [vec enc e size vv xs] w:=⟨C,sepL.one h,Ext.refl _ _⟩
 exact zhO (k:=0) this rfl
theorem Rd.vw {w:World} (hr:Rd w K RD) (hi:RD[i]?=some (vec enc e size vv xs)):Vw vv xs size 0 vv xs:=by
 obtain ⟨C,hC,_⟩:=hr _ (List.mem_of_getElem? hi)
 exact zjg hC
theorem zcT [WideF F] {n j off:Nat} {q:α} (hr:Rd w0 K RD) (hi:RD[i]?=some (vec enc e size vv xs)) (hT:zb9 P t) (hz:∀ x,(enc x).length=size) (hg:gd ops σ g=some true) (hd:d<N) (hx:ev σ x=some (.pointer (some ⟨zc7 vv,off,none⟩)))
  (hq:xs[n]?=some q) (ho:off=n*size+j) (hj:j<size) (hv:(enc q)[j]?=some v) (h:TO F P w0 K N dfs ops Q rest ((d,v)::σ) L) :
  TO F P w0 K N dfs ops Q (⟨some d,.load t x,ty,pos,aft,g⟩::rest) σ L:=by
 subst ho
 obtain ⟨dd,hu,hr'⟩:=hT
 refine zcm hg hd (by simp) (fun a w ha hw => ?_) h
 obtain ⟨C,hC⟩:=hr.at hw hi
 have hV:Vec enc e size vv xs C w:=hC
 have hc:=hV.cellAt hz hq hj hv
 have h1:=ha.ev hx
 cases dd <;> simp_all [execOp,Instr.loadAt,Instr.sureAddr,loadVar,isAgg,Sem.run_bind,run_underlying hu]
theorem zdQ [WideF F] {m j off n:Nat} {q:α} {cs:List Value} (hr:Rd w0 K RD) (hi:RD[i]?=some (vec enc e size vv xs)) (hT:zgc P t n) (hz:∀ x,(enc x).length=size) (hg:gd ops σ g=some true) (hd:d<N) (hx:ev σ x=some (.pointer (some ⟨zc7 vv,off,none⟩)))
  (hq:xs[m]?=some q) (ho:off=m*size+j) (hcs:((enc q).drop j).take n=cs) (hn:cs.length=n)
  (h:TO F P w0 K N dfs ops Q rest ((d,.agg cs.toArray)::σ) L):TO F P w0 K N dfs ops Q (⟨some d,.load t x,ty,pos,aft,g⟩::rest) σ L:=by
 subst ho; subst hn
 obtain ⟨dd,hu,hr',hi'⟩:=hT
 refine zcm hg hd (by simp) (fun a w ha hw => ?_) h
 obtain ⟨C,hC⟩:=hr.at hw hi
 have hV:Vec enc e size vv xs C w:=hC
 have hc:w.rangeAt (zc7 vv) (m*size+j) cs:=fun n u hn=>by
  rw [← hcs] at hn
  rw [List.getElem?_take] at hn
  split at hn
  ·rw [List.getElem?_drop] at hn
   have hl:j+n<size:=by rw [← hz q]; exact (List.getElem?_eq_some_iff.1 hn).1
   have:=hV.cellAt hz hq hl hn
   rwa [← Nat.add_assoc] at this
  ·cases hn
 simp only [execOp,ha.ev hx,Sem.run_bind,run_loadAt_mid w _ _ t cs dd hc hu hr' hi']; rfl
end
end
section
variable {α η:Type} {enc:α×η→List Value} {nest:α×η→List Asn} {t:TypeId} {p:Value} {x:α}
def zhG (enc:α×η→List Value) (nest:α×η→List Asn) (t:TypeId) (p:Value):Option α→Asn
 | none=>zqe (p=.pointer none)
 | some x=>exA fun bh:Nat×η=>ziS (zqe (p=.pointer (some ⟨bh.1,0,none⟩))::cells bh.1 (enc (x,bh.2)) t::nest (x,bh.2))
theorem fact_sep {q:Prop} {L:List Asn} {C:Nat→Prop} {w:World}:sepL (zqe q::L) C w↔q∧sepL L C w:=by
 constructor
 ·rintro ⟨C1,C2,⟨h1,hq⟩,h2,h3,h4⟩
  have:C=C2:=funext fun k=>propext ⟨fun h=>((h4 k).1 h).resolve_left (h1 k),fun h=>(h4 k).2 (.inr h)⟩
  subst this
  exact ⟨hq,h2⟩
 ·rintro ⟨hq,h⟩
  exact ⟨fun _=>False,C,⟨fun _ h=>h,hq⟩,h,fun _ h=>h.elim,fun k=>by simp⟩
theorem pobj_some {C:Nat→Prop} {w:World}:(zhG enc nest t p (some x)).P C w↔∃ b h,p=.pointer (some ⟨b,0,none⟩)∧sepL (cells b (enc (x,h)) t::nest (x,h)) C w:=by
 constructor
 ·rintro ⟨⟨b,h⟩,hh⟩
  obtain ⟨h1,h2⟩:=fact_sep.1 hh
  exact ⟨b,h,h1,h2⟩
 ·rintro ⟨b,h,h1,h2⟩
  exact ⟨⟨b,h⟩,fact_sep.2 ⟨h1,h2⟩⟩
theorem zo3 {b:Nat} {hd:η} {w:World} {C:Nat→Prop} (h:sepL (cells b (enc (x,hd)) t::nest (x,hd)) C w):(zhG enc nest t (.pointer (some ⟨b,0,none⟩)) (some x)).P C w:=pobj_some.2 ⟨b,hd,rfl,h⟩
theorem zja {b:Nat} {hd:η}:Entl (cells b (enc (x,hd)) t::nest (x,hd)) (fun _:Unit=>[zhG enc nest t (.pointer (some ⟨b,0,none⟩)) (some x)]) (fun _=>True):=fun C w h=>⟨(),trivial,sepL.one1.2 (zo3 h)⟩
theorem ziX {m:Option α} {C:Nat→Prop} {w:World} (h:(zhG enc nest t p m).P C w):(m=none∧p=.pointer none)∨(∃ x b,m=some x∧p=.pointer (some ⟨b,0,none⟩)):=by
 cases m with
 | none=>exact .inl ⟨rfl,h.2⟩
 | some x=>obtain ⟨b,_,h2,_⟩:=pobj_some.1 h; exact .inr ⟨x,b,rfl,h2⟩
end
end Go.Proofs.YtbempdelckaccaaDoor

namespace Go.Proofs.YtbempdelckaccaaDoor
open Go.RowKit Go.Lib
set_option linter.unusedVariables false
set_option linter.unusedSimpArgs false
section
variable {α:Type} {enc:α→List Value} {size k:Nat} {vv:Value} {xs:List α}
def zeL (enc:α→List Value) (size:Nat) (vv:Value) (k:Nat) (xs:List α):Asn :=
  ⟨fun C w=>(∀ b,C b→b<w.heap.size)∧∀ i x j v,k≤i→xs[i]?=some x→(enc x)[j]?=some v→C (zc7 vv)∧w.cell? ⟨zc7 vv,i*size+j,none⟩=some v,
   fun h b hb=>h.1 b hb,
   fun {C w w'} h hs hk=>⟨fun b hb=>Nat.lt_of_lt_of_le (h.1 b hb) hs,fun i x j v hi hx hv=>by
     obtain ⟨h1,h2⟩:=h.2 i x j v hi hx hv
     refine ⟨h1,?_⟩
     rw [← h2]
     unfold World.cell?
     simp only [hk _ h1]⟩⟩
theorem zj6 {e:TypeId} (hz:∀ x,(enc x).length=size) {C:Nat→Prop} {w:World} (h:(vec enc e size vv xs).P C w):(zeL enc size vv 0 xs).P C w:=by
 have hV:Vec enc e size vv xs C w:=h
 refine ⟨(vec enc e size vv xs).lt h,fun i x j v _ hx hv => ?_⟩
 have hj:j<size:=by rw [← hz x]; exact (List.getElem?_eq_some_iff.1 hv).1
 refine ⟨?_,hV.cellAt hz hx hj hv⟩
 rcases hV.shape with ⟨_,h2,_⟩ | ⟨g,cap,rfl,_⟩
 ·rw [h2] at hx; simp at hx
 ·rw [hV.2]; rfl
variable {F:Fence} {P:Program} {w0:World} {K:Nat→Prop} {N:Nat} {dfs:List Deferred} {ops:Array Oper} {Q:Exit→Act→World→Prop} {rest:List Oper} {σ:List (Nat×Value)} {L RD:List Asn} {v:Value}
 {d i:Nat} {t ty:TypeId} {pos:String} {aft:Array Edge} {g:Option (Nat×Bool)} {x:Operand}
theorem zdi [WideF F] {n j off:Nat} {q:α} (hr:Rd w0 K RD) (hi:RD[i]?=some (zeL enc size vv k xs)) (hle:k≤n) (hT:zb9 P t) (hg:gd ops σ g=some true) (hd:d<N) (hx:ev σ x=some (.pointer (some ⟨zc7 vv,off,none⟩)))
  (hq:xs[n]?=some q) (ho:off=n*size+j) (hv:(enc q)[j]?=some v) (h:TO F P w0 K N dfs ops Q rest ((d,v)::σ) L) :
  TO F P w0 K N dfs ops Q (⟨some d,.load t x,ty,pos,aft,g⟩::rest) σ L:=by
 subst ho
 obtain ⟨dd,hu,hr'⟩:=hT
 refine zcm hg hd (by simp) (fun a w ha hw => ?_) h
 obtain ⟨C,hC⟩:=hr.at hw hi
 have hc:=(hC.2 n q j v hle hq hv).2
 have h1:=ha.ev hx
 cases dd <;> simp_all [execOp,Instr.loadAt,Instr.sureAddr,loadVar,isAgg,Sem.run_bind,run_underlying hu]
end
end Go.Proofs.YtbempdelckaccaaDoor

namespace Go.Proofs.YtbempdelckaccaaDoor
open Go.RowKit Go.Lib
set_option linter.unusedVariables false
set_option linter.unusedSimpArgs false
section
variable {F:Fence} {P:Program} {w0:World} {K:Nat→Prop} {N:Nat} {dfs:List Deferred} {ops:Array Oper} {Q:Exit→Act→World→Prop} {rest:List Oper} {σ:List (Nat×Value)} {L:List Asn} {c:Code} {ex:Exit} {k:Nat}
 {α η:Type} {enc:α×η→List Value} {nest:α×η→List Asn} {t:TypeId} {p:Value} {m:Option α} {x:α}
theorem zcA (enc:α×η→List Value) (nest:α×η→List Asn) (t:TypeId) (h:TX w0 K N dfs Q ex σ (L++[zhG enc nest t (.pointer none) none])):TX w0 K N dfs Q ex σ L:=fun a w ha hw =>
 h a w ha (hw.grow (C':=fun _=>False) (Ext.refl _ _) (sepL.one (A:=zhG enc nest t (.pointer none) none) ⟨fun _ h=>h,rfl⟩))
theorem zfz (h:m=some x):Entl [zhG enc nest t p m] (fun bh:Nat×η=>cells bh.1 (enc (x,bh.2)) t::nest (x,bh.2)) (fun bh=>p=.pointer (some ⟨bh.1,0,none⟩)):=fun C w hh=>by
 subst h
 obtain ⟨b,hd,h2,h3⟩:=pobj_some.1 (sepL.one1.1 hh)
 exact ⟨(b,hd),h2,h3⟩
def zre (p:Value) (m:Option α):Prop:=(m.isNone=true∧p=.pointer none)∨(m.isNone=false∧∃ b,p=.pointer (some ⟨b,0,none⟩))
theorem zgM (hk:L[k]?=some (zhG enc nest t p m)) (h:zre p m→TO F P w0 K N dfs ops Q rest σ L):TO F P w0 K N dfs ops Q rest σ L:=fun a w ha hw=>by
 obtain ⟨C1,h1,_⟩:=hw.focus hk
 refine h ?_ a w ha hw
 rcases ziX h1 with ⟨rfl,h2⟩ | ⟨x,b,rfl,h2⟩
 ·exact .inl ⟨rfl,h2⟩
 ·exact .inr ⟨rfl,b,h2⟩
theorem zl6 {ty e':TypeId} {w:World} (ht:P.underlying ty=some (.pointer e')):(Op.equal ty (.pointer none) (.pointer none)).run P w=.ok true w:=by
 have h:∀ d,(Op.equalIn (d+1) ty (.pointer none) (.pointer none)).run P w=.ok true w:=fun d=>by simp [Op.equalIn,run_underlying ht]
 exact h 9999
theorem zfH {ty e':TypeId} {y z:Operand} (ht:P.underlying ty=some (.pointer e')) (hv:zre p m) (w:World):(do eqGuard .eql ty y z p (.pointer none); binOp .eql ty p (.pointer none):Sem Value).run P w=.ok (.bool m.isNone) w:=by
 rcases hv with ⟨h1,rfl⟩ | ⟨h1,b,rfl⟩
 ·rw [h1]; simp [eqGuard,binOp,Sem.run_bind,zl6 ht]
 ·rw [h1]; exact zcK ht w
end
end Go.Proofs.YtbempdelckaccaaDoor

namespace Go.Proofs.YtbempdelckaccaaDoor
open Go.RowKit Go.Lib
set_option linter.unusedVariables false
set_option linter.unusedSimpArgs false
section
variable {F:Fence} {P:Program} {w0:World} {K:Nat→Prop} {N:Nat} {dfs:List Deferred} {ops:Array Oper} {Q:Exit→Act→World→Prop} {rest:List Oper} {σ σ':List (Nat×Value)} {L L' R As Bs:List Asn} {o:Oper} {v:Value}
 {d:Nat} {t:TypeId} {op:Op} {ty:TypeId} {pos:String} {aft:Array Edge} {g:Option (Nat×Bool)} {x y z:Operand} {c c1 c2:Code} {k:Nat} {A B:Asn} {RO:List (Nat×Obj)} {RD RD0:List Asn}
def ItrR (P:Program) (gf:FuncId) (caps:List Value) {α:Type} (enc:α→List Value) (xs:List α) (RD:List Asn):Prop :=
 ∀ (w:World) (D:Nat→Prop),(∀ A∈RD,∃ C,A.P C w∧∀ k,C k→D k)→(∀ k,D k→k<w.heap.size)→Yields P gf caps.toArray (fun x=>(enc x).toArray) xs D w
theorem ItrR.intro {gf:FuncId} {fn:Func} {caps:List Value} {α:Type} {enc:α→List Value} {xs:List α} (hf:P.funcs[gf]?=some fn) (hb:fn.body=some c) (hn:fn.ntmps=N) (hN:caps.length+1≤N)
  (h:∀ l w0 K (I X:List α→Asn),Rd w0 K RD→YC P l enc xs I X w0 K →
   TC Fence.wide P w0 K N [] (bodyPostM Fence.wide 0 P fn (FY xs I X w0 K)) c (ze8 (.func (.yield l) #[] #[]::caps)) [I []]):ItrR P gf caps enc xs RD:=by
 subst hn
 intro w D hRD hDlt l I X C0 W hD hsz hC0 hIl hXl hy h0
 have hRo:Rd W C0 RD:=fun A hA=>by
  obtain ⟨C,h1,h2⟩:=hRD A hA
  exact ⟨C,A.loc h1 hsz (fun k hk=>(hD k (h2 k hk)).2),fun k hk hc=>(hC0 k hc).2 (h2 k hk)⟩
 have:=h l W C0 (fun pre=>zqI (I pre) (fun C W W'=>hIl pre C W W')) (fun pre=>zqI (X pre) (fun C W W'=>hXl pre C W W')) hRo (fun pre x post C W1 hxs he hi=>by
  obtain ⟨f1,t1,a1,b1,hr1,hr2⟩:=hy pre x post C W1 hxs he hi.1
  refine ⟨f1,t1,a1,b1,hr1,hr2.mono ?_⟩
  rintro e w2 ⟨b,rfl,C',hx,hc⟩
  have hlt:∀ k,C' k→k<w2.heap.size:=fun k hk=>by
   have:=hx.1.size
   rcases hx.2 k hk with h | h
   ·have:=hi.2 k h; omega
   ·exact h.2
  exact ⟨b,rfl,C',hx,hc.imp (fun h=>⟨h.1,h.2,hlt⟩) (fun h=>⟨h.1,h.2,hlt⟩)⟩)
 have hs:(Value.func (.yield l) #[] #[]::caps).toArray=#[.func (.yield l) #[] #[]]++caps.toArray:=by simp
 rw [← hs]
 refine (zeq hf hb (this _ W (At.start _ (by simpa using hN)) ⟨C0,sepL.one ⟨h0,fun k hk=>(hC0 k hk).1⟩,Ext.refl _ _⟩)).mono ?_
 rintro e w' ⟨he,hh⟩
 refine ⟨he,?_⟩
 rcases hh with ⟨C',hh,hx⟩ | ⟨pre,x,post,hxs,C',hh,hx⟩
 ·obtain ⟨C1,C2,g1,g2,_,g4⟩:=hh
  have:C'=C1:=funext fun k=>propext (by rw [g4]; exact ⟨fun h=>h.resolve_right (g2 k),.inl⟩)
  subst this
  exact ⟨C',hx,.inl g1.1⟩
 ·obtain ⟨C1,C2,g1,g2,_,g4⟩:=hh
  have:C'=C1:=funext fun k=>propext (by rw [g4]; exact ⟨fun h=>h.resolve_right (g2 k),.inl⟩)
  subst this
  exact ⟨C',hx,.inr ⟨pre,x,post,hxs,g1.1⟩⟩
section
variable {α β γ δ:Type}
end
end
end Go.Proofs.YtbempdelckaccaaDoor

namespace Go.Proofs.YtbempdelckaccaaDoor
open Go.RowKit Go.Lib
set_option linter.unusedVariables false
set_option linter.unusedSimpArgs false
structure Seat (α:Type) where
 vv:Value
 k:Nat
 L:List α
def zmI {α:Type} (enc:α→List Value) (size:Nat) (hd:Hd) (xs:List α):Asn :=
 exA fun b:{b:Seat α // Vw b.vv b.L size b.k hd.v xs}=>zeL enc size b.1.vv b.1.k b.1.L
theorem znV {α:Type} {enc:α→List Value} {size:Nat} {e:TypeId} {hd:Hd} {xs:List α} (hlen:∀ x,(enc x).length=size) {C:Nat→Prop} {w:World} (h:(vec enc e size hd.v xs).P C w):(zmI enc size hd xs).P C w :=
 ⟨⟨⟨hd.v,0,xs⟩,zjg h⟩,zj6 hlen h⟩
section
variable {α η:Type} {enc:α×η→List Value} {nest nestR:α×η→List Asn} {e:TypeId} {size:Nat} {v:Value} {xs:List α} {zs:List (α×η)} {z:α×η}
def zfX (nestR:α×η→List Asn) (zs:List (α×η)):Asn :=
  ⟨fun C w=>(∀ k,C k→k<w.heap.size)∧∀ z∈zs,∀ A∈nestR z,∃ D,A.P D w∧∀ k,D k→C k,
   fun h k hk=>h.1 k hk,
   fun {C w w'} h hs hk=>⟨fun k hC=>Nat.lt_of_lt_of_le (h.1 k hC) hs,fun z hz A hA=>by
     obtain ⟨D,h1,h2⟩:=h.2 z hz A hA
     exact ⟨D,A.loc h1 hs (fun k hD=>hk k (h2 k hD)),h2⟩⟩⟩
def zor (nest nestR:α×η→List Asn):Prop:=∀ z C w,sepL (nest z) C w→∀ A∈nestR z,∃ D,A.P D w∧∀ k,D k→C k
theorem zna {C:Nat→Prop} {w:World} (h:sepL (zs.flatMap nest) C w) (hz:z∈zs):∃ D,sepL (nest z) D w∧∀ k,D k→C k:=by
 obtain ⟨i,hi⟩:=List.getElem?_of_mem hz
 obtain ⟨C1,C2,h1,_,_,h4⟩:=(zhU hi).1 h
 exact ⟨C1,h1,fun k hk=>(h4 k).2 (.inl hk)⟩
theorem zmJ (hG:zor nest nestR) {C:Nat→Prop} {w:World} (h:(own nest zs).P C w):(zfX nestR zs).P C w :=
 ⟨(own nest zs).lt h,fun z hz A hA=>by
  obtain ⟨D,h1,h2⟩:=zna (show sepL (zs.flatMap nest) C w from h) hz
  obtain ⟨E,h3,h4⟩:=hG z D w h1 A hA
  exact ⟨E,h3,fun k hk=>h2 k (h4 k hk)⟩⟩
variable {w0:World} {K:Nat→Prop} {RD:List Asn} {i j:Nat}
theorem Rd.openEl (hr:Rd w0 K RD) (hi:RD[i]?=some (zfX nestR zs)) (hz:zs[j]?=some z):Rd w0 K (RD++nestR z) :=
 hr.more hi fun C hC B hB=>hC.2 z (List.mem_of_getElem? hz) B hB
theorem Rd.openSl {β:Type} {enc1:β→List Value} {hd:Hd} {ys:List β} (hr:Rd w0 K RD) (hi:RD[i]?=some (zmI enc1 size hd ys)):∃ vv k L,Vw vv L size k hd.v ys∧Rd w0 K (RD++[zeL enc1 size vv k L]):=by
 obtain ⟨C,⟨⟨⟨vv,k,L⟩,hV⟩,hC⟩,hk⟩:=hr _ (List.mem_of_getElem? hi)
 refine ⟨vv,k,L,hV,hr.append fun B hB => ?_⟩
 rw [List.mem_singleton] at hB
 subst hB
 exact ⟨C,hC,hk⟩
theorem Rd.openN (hr:Rd w0 K RD) (hi:RD[i]?=some (zfV enc nest e size v xs)) (hlen:∀ z,(enc z).length=size) (hG:zor nest nestR) :
  ∃ zs:List (α×η),zs.map Prod.fst=xs∧Vw v zs size 0 v zs∧Rd w0 K (RD++[zeL enc size v 0 zs,zfX nestR zs]):=by
 obtain ⟨C,h,hk⟩:=hr _ (List.mem_of_getElem? hi)
 obtain ⟨zs,hz,h1⟩:=zlX C w0 h
 obtain ⟨C1,C2,g1,g2,_,g4⟩:=ziT h1
 refine ⟨zs,hz,zjg g1,hr.append fun B hB => ?_⟩
 rcases List.mem_cons.1 hB with rfl | hB
 ·exact ⟨C1,zj6 hlen g1,fun k h=>hk k ((g4 k).2 (.inl h))⟩
 ·rw [List.mem_singleton] at hB
  subst hB
  exact ⟨C2,zmJ hG g2,fun k h=>hk k ((g4 k).2 (.inr h))⟩
theorem zi9 {P:Program} {f:FuncId} {vs:List Value} {RD1 RD2 As:List Asn} {β:Type} {V:β→Value} {Bs:β→List Asn} (hlen:∀ z,(enc z).length=size) (hG:zor nest nestR)
  (h:∀ zs:List (α×η),zs.map Prod.fst=xs→Vw v zs size 0 v zs→FnR P f vs (RD1++[zeL enc size v 0 zs,zfX nestR zs]++RD2) As V Bs):FnR P f vs (RD1++[zfV enc nest e size v xs]++RD2) As V Bs:=fun w C hR=>by
 obtain ⟨zs,hz,hV,h1⟩:=hR.openN (i:=RD1.length) (nest:=nest) (e:=e) (v:=v) (xs:=xs) (by simp) hlen hG
 refine h zs hz hV w C fun A hA=>h1 A ?_
 simp only [List.mem_append,List.mem_cons,List.not_mem_nil,or_false] at hA ⊢
 rcases hA with (hA | hA) | hA
 ·exact .inl (.inl (.inl hA))
 ·exact .inr hA
 ·exact .inl (.inr hA)
end
section
variable {α η:Type} {nest:α×η→List Asn} {zs ys:List (α×η)}
end
section
variable {F:Fence} {P:Program} {w0:World} {K:Nat→Prop} {N:Nat} {dfs:List Deferred} {Q:Exit→Act→World→Prop} {σ:List (Nat×Value)} {L:List Asn} {c:Code} {k:Nat} {α η:Type} {enc:α×η→List Value} {nest:α×η→List Asn} {t:TypeId} {p:Value} {m:Option α}
theorem zqB (hk:L[k]?=some (zhG enc nest t p m)) (h:zre p m→TC F P w0 K N dfs Q c σ L):TC F P w0 K N dfs Q c σ L:=fun a w ha hw=>by
 obtain ⟨C1,h1,_⟩:=hw.focus hk
 refine h ?_ a w ha hw
 rcases ziX h1 with ⟨rfl,h2⟩ | ⟨x,b,rfl,h2⟩
 ·exact .inl ⟨rfl,h2⟩
 ·exact .inr ⟨rfl,b,h2⟩
end
end Go.Proofs.YtbempdelckaccaaDoor

namespace Go.Proofs.YtbempdelckaccaaDoor
open Go.RowKit Go.Lib
def zbw (z:(List ByteArray)×Hd):List Asn:=[zmI zhx 1 z.2 z.1]
theorem zfP:zor zaz zbw:=by
 intro z C w h A hA
 simp only [zbw,List.mem_cons,List.not_mem_nil,or_false] at hA
 rcases hA with rfl
 ·obtain ⟨D,h1,h2⟩:=zj2 h _ (List.mem_of_getElem? (i:=0) rfl); exact ⟨D,znV zeo h1,h2⟩
end Go.Proofs.YtbempdelckaccaaDoor

namespace Go.Proofs.YtbempdelckaccaaDoor
open Go.RowKit Go.Lib Go.Shelf
attribute [local go_sem] Oper.semAt_some zmq ziL ziM
set_option linter.unusedVariables false
theorem zgm {a b:Bool} (h:a=b):Ending.returned (.bool a)=.returned (.bool b):=by rw [h]
theorem zkS {k:IntKind} {a b:Int} (h:a=b):Ending.returned (.int k a)=.returned (.int k b):=by rw [h]
end Go.Proofs.YtbempdelckaccaaDoor

namespace Go.Proofs.YtbempdelckaccaaDoor
open Go.RowKit Go.Lib
def Br (w:World) (base:Nat) (e:TypeId) (v:Value) (b:ByteArray):Prop:=w.ownsRow base e 1 v b.size (strCells b)
theorem Br.nil (w:World) (base:Nat) (e:TypeId):Br w base e (.slice none 0 0) ⟨#[]⟩:=World.ownsRow_nil w base e 1
theorem Br.below {w w':World} {base:Nat} {e:TypeId} {v:Value} {b:ByteArray} (h:Br w base e v b) (hb:Below w.heap.size w w'):Br w' base e v b:=by
 refine ⟨h.1,?_⟩
 rcases h.2 with hn | ⟨g,cap,cur,rfl,h2,h3,rest⟩
 ·exact .inl hn
 ·exact .inr ⟨g,cap,cur,rfl,h2,zmw h3 hb,rest⟩
theorem Br.lt {w:World} {base:Nat} {e:TypeId} {v:Value} {b:ByteArray} (h:Br w base e v b):∀ k,v.ownBlock=some k→base≤k∧k<w.heap.size:=World.ownsRow.lt h
theorem Br.conv {P:Program} {w:World} {base:Nat} {el:TypeId} {v:Value} {b:ByteArray} (h:Br w base el v b) (src dst e:TypeId) (hs:P.underlying src=some (.slice e)) (he:P.underlying e=some (.int .u8)) (hd:P.underlying dst=some .string) :
  (convert src dst v).run P w=.ok (.string b) w:=by
 rcases h.2 with ⟨rfl,h2⟩ | ⟨g,cap,cur,rfl,_,_,_⟩
 ·have hb:b=⟨#[]⟩:=by
   apply ByteArray.ext; exact Array.eq_empty_of_size_eq_zero h2
  rw [hb]; exact run_convert_nil_bytes w src dst e 0 hs he hd
 ·have hl:b.data.toList.length=b.size:=by rw [Array.length_toList]; rfl
  have:=run_convert_bytes_back (P:=P) w src dst e ⟨g,0,none⟩ cap b.data.toList hs he hd (fun j hj=>by
   refine World.ownsRow.cells h rfl j _ ?_
   unfold strCells; rw [List.getElem?_map,List.getElem?_eq_getElem hj]; rfl)
  rw [hl] at this
  rw [this]
end Go.Proofs.YtbempdelckaccaaDoor

namespace Go.Proofs.YtbempdelckaccaaDoor
open Go.RowKit Go.Lib Go.Shelf
attribute [local go_sem] Oper.semAt_some
set_option linter.unusedVariables false
set_option linter.unusedSimpArgs false
theorem zqx:(Tryd.prog.info? 5).map (fun i=>(i.zero,i.size,i.bytes))=some (some (.int .u8 0),1,1):=by kernel_rfl
theorem zqy:∃ j,Tryd.prog.info? 113=some j∧j.size≠0:=by
 have h:(Tryd.prog.info? 113).map (fun j=>decide (j.size≠0))=some true:=by kernel_rfl
 cases hj:Tryd.prog.info? 113 with
 | none=>rw [hj] at h; simp at h
 | some j=>rw [hj] at h; exact ⟨j,rfl,by simpa using h⟩
theorem zns (b:Nat) (v:Value) (w:World) (h:w.heap[b]?=some (.cells #[.pointer none,v] 113 (0,0))) :
  Calls Tryd.prog 69 #[.pointer (some ⟨b,0,none⟩)] w fun e w'=>e=.returned (.tuple #[])∧w'=w.setCell ⟨b,0,none⟩ (.pointer (some ⟨b,0,none⟩)):=by
 have c0:w.cell? ⟨b,0,none⟩=some (.pointer none):=zdP h rfl
 have f0:=zkr h 0
 have hsh:w.shape? b=some (113,2):=by simp [World.shape?,h]
 obtain ⟨j,hj,hjs⟩:=zqy
 clear h
 go_enter Tryd.func69,Tryd.ntmps69
 go_wp2
 rw [Lib.run_to_unsafe w ⟨b,0,none⟩ (t:=113) (by kernel_rfl) (by kernel_rfl) hj hjs hsh (Nat.zero_lt_succ 1)]
 simp only [Result.andThen]
 rw [Oper.upon_value]
 go_wp2
 rw [run_callFunc_extern Tryd.func90 (by kernel_rfl) (by kernel_rfl) (by kernel_rfl) (e:=Extern.AbiNoEscape.same) (by kernel_rfl)]
 rw [Lib.run_noEscape]
 simp only [Result.andThen]
 rw [Oper.upon_value]
 go_wp2
 rw [Lib.run_from_unsafe w ⟨b,0,none⟩ (u:=113) (by kernel_rfl) (by kernel_rfl) hj hsh (by kernel_rfl)]
 simp only [Result.andThen]
 rw [Oper.upon_value]
 go_wp2
 go_end0
 exact ⟨rfl,rfl⟩
theorem zl9 (b:Nat) (v:Value) (w:World) (h:w.heap[b]?=some (.cells #[.pointer (some ⟨b,0,none⟩),v] 113 (0,0))) :
  Calls Tryd.prog 69 #[.pointer (some ⟨b,0,none⟩)] w fun e w'=>e=.returned (.tuple #[])∧w'=w:=by
 have c0:w.cell? ⟨b,0,none⟩=some (.pointer (some ⟨b,0,none⟩)):=zdP h rfl
 obtain ⟨j,hj,hjs⟩:=zqy
 clear h
 go_enter Tryd.func69,Tryd.ntmps69
 go_wp2
 rw [Lib.run_neq_ptr_same w _ (te:=113) (by kernel_rfl) hj]
 go_wp2
 go_end0
 exact ⟨rfl,rfl⟩
def Bld (b:Nat) (bs:ByteArray) (C:Nat→Prop) (w:World):Prop :=
 ∃ p v D,w.heap[b]?=some (.cells #[p,v] 113 (0,0))∧(p=.pointer none∨p=.pointer (some ⟨b,0,none⟩))∧Byt 5 v bs D w∧¬ D b∧C=(fun k=>k=b∨D k)
theorem Bld.local {b:Nat} {bs:ByteArray} {C:Nat→Prop} {w w':World} (h:Bld b bs C w) (hk:∀ k,C k→w'.heap[k]?=w.heap[k]?):Bld b bs C w':=by
 obtain ⟨p,v,D,h1,h2,h3,h4,rfl⟩:=h
 exact ⟨p,v,D,(hk b (.inl rfl)).trans h1,h2,h3.local (fun k h=>hk k (.inr h)),h4,rfl⟩
theorem Bld.lt {b:Nat} {bs:ByteArray} {C:Nat→Prop} {w:World} (h:Bld b bs C w):∀ k,C k→k<w.heap.size:=by
 obtain ⟨p,v,D,h1,h2,h3,h4,rfl⟩:=h
 rintro k (rfl | hk)
 ·exact zcb h1
 ·exact h3.lt k hk
theorem Bld.ext {b:Nat} {bs:ByteArray} {C D D':Nat→Prop} {w w':World} (h:Bld b bs C w) (hx:Ext D D' w w') (hd:∀ k,C k→¬ D k):Bld b bs C w' :=
 h.local (fun k hk=>hx.1.keep k (h.lt k hk) (hd k hk))
theorem Bld.new (w:World):Bld w.heap.size ⟨#[]⟩ (fun k=>k=w.heap.size) (w.alloc (.cells #[.pointer none,.slice none 0 0] 113)) :=
 ⟨_,_,_,World.alloc_heap_new w _,.inl rfl,Byt.nil,by simp,by funext k; simp⟩
theorem zhN (b:Nat) (bs s:ByteArray) (C:Nat→Prop) (w:World) (h:Bld b bs C w) (hn:bs.size+s.size≤140737488355328) :
  Calls Tryd.prog 47 #[.pointer (some ⟨b,0,none⟩),.string s] w fun e w'=>(∃ u,e=.returned u)∧∃ C',Bld b (bs++s) C' w'∧Ext C C' w w':=by
 obtain ⟨p,v,D,hbk,hp,hbr,hne,rfl⟩:=h
 obtain ⟨ip,hpi,hpz,hps,hpb⟩:=info_parts zqx
 obtain ⟨w1,hck,hb1,hbr1,hx1⟩:∃ w1,(Calls Tryd.prog 69 #[.pointer (some ⟨b,0,none⟩)] w fun e w'=>e=.returned (.tuple #[])∧w'=w1) ∧
   w1.heap[b]?=some (.cells #[.pointer (some ⟨b,0,none⟩),v] 113 (0,0))∧Byt 5 v bs D w1∧Ext (fun k=>k=b∨D k) (fun k=>k=b∨D k) w w1:=by
  rcases hp with rfl | rfl
  ·have hx:Ext (fun k=>k=b) (fun k=>k=b) w (w.setCell ⟨b,0,none⟩ (.pointer (some ⟨b,0,none⟩))):=Ext.setCell (C':=fun k=>k=b) (Ext.refl _ _) (p:=⟨b,0,none⟩) rfl _
   refine ⟨_,zns b v w hbk,?_,hbr.ext hx (by rintro k hk rfl; exact hne hk),Ext.setCell (C':=fun k=>k=b∨D k) (Ext.refl _ _) (p:=⟨b,0,none⟩) (.inl rfl) _⟩
   simp [World.setCell,Array.getElem?_modify,hbk]
  ·exact ⟨w,zl9 b v w hbk,hbk,hbr,Ext.refl _ _⟩
 have c1:w1.cell? ⟨b,1,none⟩=some v:=zdP hb1 rfl
 have hlt:b<w1.heap.size:=zcb hb1
 have Hbk:=Lib.hid hbk; have Hbr:=Lib.hid hbr; have Hx1:=Lib.hid hx1
 clear hbk hbr hx1
 go_enter Tryd.func47,Tryd.ntmps47
 go_wp2_with (first | (go_at_call 69; refine hck.mono ?_; rintro e w' ⟨rfl,rfl⟩) | (refine zgQ _ rfl _ _ _ _ rfl 5 _ (by kernel_rfl) (by kernel_rfl) hpi hpz hps hpb _ _ _ rfl hbr1 _ rfl hn ?_))
 rintro v' w2 D' hr2 hx2
 have hb2:w2.heap[b]?=some (.cells #[.pointer (some ⟨b,0,none⟩),v] 113 (0,0)):=(hx2.1.keep b hlt hne).trans hb1
 have f1:=zkr hb2 1
 have d1:w2.cell? ⟨b,1,none⟩=some v:=zdP hb2 rfl
 have hne':¬ D' b:=hx2.not hlt hne
 obtain ⟨ao,n',cap',rfl⟩:∃ ao n' cap',v'=.slice ao n' cap':=by
  rcases hr2.shape with ⟨rfl,_⟩ | ⟨g,cap,cur,rfl,_⟩ <;> exact ⟨_,_,_,rfl⟩
 have Hr2:=Lib.hid hr2; have Hx2:=Lib.hid hx2; have Hb2:=Lib.hid hb2
 clear hr2 hx2 hb2
 go_wp2
 go_ret2
 have hx3:Ext (fun k=>k=b∨D' k) (fun k=>k=b∨D' k) w2 (w2.setCell ⟨b,1,none⟩ (.slice ao n' cap')):=Ext.setCell (C':=fun k=>k=b∨D' k) (Ext.refl _ _) (p:=⟨b,1,none⟩) (.inl rfl) _
 have hx3':Ext (fun k=>k=b) (fun k=>k=b) w2 (w2.setCell ⟨b,1,none⟩ (.slice ao n' cap')):=Ext.setCell (C':=fun k=>k=b) (Ext.refl _ _) (p:=⟨b,1,none⟩) rfl _
 refine ⟨⟨_,rfl⟩,fun k=>k=b∨D' k,⟨_,_,D',?_,.inr rfl,Hr2.out.ext hx3' (by rintro k hk rfl; exact hne' hk),hne',rfl⟩,?_⟩
 ·simp [World.setCell,Array.getElem?_modify,Hb2.out]
 ·refine (Hx1.out.trans ?_).trans hx3
  exact ⟨Hx2.out.1.weaken (fun k _ h=>.inr h),fun k hk=>by
   rcases hk with rfl | hk
   ·exact .inl (.inl rfl)
   ·exact (Hx2.out.2 k hk).imp .inr id⟩
theorem zl3 {C C':Nat→Prop} {a w:World} (h:Ext C C' a w) {g:Nat} (hg:C' g) (m:Nat):Ext C C' a (w.freeze ⟨g,0,none⟩ m):=by
 unfold World.freeze
 split
 ·exact h
 ·have hs:∀ f:Obj→Obj,({ w with heap:=w.heap.modify g f }:World).heap.size=w.heap.size:=fun f=>by simp
  refine ⟨⟨h.1.os,h.1.tape,h.1.output,by simpa using h.1.size,fun k hk hn => ?_⟩,fun k hk=>by simpa using h.2 k hk⟩
  rw [Array.getElem?_modify]
  rw [if_neg]
  ·exact h.1.keep k hk hn
  ·intro e
   have e':g=k:=e
   subst e'
   rcases h.2 _ hg with h' | h'
   ·exact hn h'
   ·omega
theorem zk5 (b:Nat) (bs:ByteArray) (C:Nat→Prop) (w:World) (h:Bld b bs C w) :
  Calls Tryd.prog 49 #[.pointer (some ⟨b,0,none⟩)] w fun e w'=>e=.returned (.string bs)∧Ext C C w w':=by
 obtain ⟨p,v,D,hbk,hp,hbr,hne,rfl⟩:=h
 rcases hbr.shape with ⟨rfl,rfl,rfl⟩ | ⟨g,cap,cur,rfl,hgl,hbc,hcm,rfl,hg⟩
 ·have c1:w.drew.cell? ⟨b,1,none⟩=some (.slice none 0 0):=zdP (w:=w.drew) hbk rfl
  have hSD:(Builtin.unsafeSliceData_ #[111] 153 #[.slice none 0 0]).run Tryd.prog w.drew=.ok (.pointer none) w.drew:=rfl
  have hUS:∀ W q,(Builtin.unsafeString_ #[153,3] 9 #[.pointer q,.int .i64 0]).run Tryd.prog W=.ok (.string .empty) W:=fun W q=>Lib.run_unsafeString_none W _ _ _ q
  clear hbk hbr
  go_enter Tryd.func49,Tryd.ntmps49
  go_wp2
  go_region
  all_goals (go_wp2; go_ret; exact ⟨rfl,(Ext.refl _ _).drew⟩)
 ·by_cases h0:bs.size=0
  ·have hbs:bs=⟨#[]⟩:=by apply ByteArray.ext; exact Array.eq_empty_of_size_eq_zero h0
   subst hbs
   have h00:(⟨#[]⟩:ByteArray).size=0:=rfl
   rw [h00] at hbk hbr
   have hUS:∀ W q,(Builtin.unsafeString_ #[153,3] 9 #[.pointer q,.int .i64 0]).run Tryd.prog W=.ok (.string .empty) W:=fun W q=>Lib.run_unsafeString_none W _ _ _ q
   have c1:w.drew.cell? ⟨b,1,none⟩=some (.slice (some ⟨g,0,none⟩) 0 cap):=zdP (w:=w.drew) hbk rfl
   by_cases hc0:cap=0
   ·subst hc0
    have hSD:(Builtin.unsafeSliceData_ #[111] 153 #[.slice (some ⟨g,0,none⟩) 0 0]).run Tryd.prog w.drew=.ok (.pointer (some ⟨w.drew.heap.size,0,none⟩)) (w.drew.alloc (.view ⟨g,0,none⟩ 5)) :=
     Lib.run_unsafeSliceData_zero w.drew _ _ 5 (by kernel_rfl) ⟨g,0,none⟩ 0 (5,cur.size) (by have hg':w.drew.heap[g]?=some (.cells cur 5 (0,0)):=hg; simp [World.shape?,hg'])
    have hlt:=zcb hbk
    have c2:(w.drew.alloc (.view ⟨g,0,none⟩ 5)).cell? ⟨b,1,none⟩=some (.slice (some ⟨g,0,none⟩) 0 0):=zdP (w:=w.drew.alloc _) ((Below.heap_alloc w.drew _ b hlt).trans hbk) rfl
    have c3:(w.alloc (.view ⟨g,0,none⟩ 5)).drew.cell? ⟨b,1,none⟩=some (.slice (some ⟨g,0,none⟩) 0 0):=c2
    have c0:w.cell? ⟨b,1,none⟩=some (.slice (some ⟨g,0,none⟩) 0 0):=c1
    clear hbk hbr hg
    go_enter Tryd.func49,Tryd.ntmps49
    go_wp2
    go_region
    all_goals (go_wp2; go_ret; exact ⟨rfl,(Ext.refl _ _).drew.alloc _⟩)
   ·have hSD:(Builtin.unsafeSliceData_ #[111] 153 #[.slice (some ⟨g,0,none⟩) 0 cap]).run Tryd.prog w.drew=.ok (.pointer (some ⟨g,0,none⟩)) w.drew:=Lib.run_unsafeSliceData_row _ _ _ _ _ _ hc0
    clear hbk hbr hg hc0
    go_enter Tryd.func49,Tryd.ntmps49
    go_wp2
    go_region
    all_goals (go_wp2; go_ret; exact ⟨rfl,(Ext.refl _ _).drew⟩)
  ·obtain ⟨l,hl⟩:∃ l,l=bs.data.toList:=⟨_,rfl⟩
   have hll:l.length=bs.size:=by rw [hl,Array.length_toList]; rfl
   have hbs:bs=⟨l.toArray⟩:=by rw [hl]
   have hl0:l≠[]:=by intro e; rw [e] at hll; exact h0 hll.symm
   rw [← hll] at hbk hbc hbr
   have c1:w.drew.cell? ⟨b,1,none⟩=some (.slice (some ⟨g,0,none⟩) l.length cap):=zdP (w:=w.drew) hbk rfl
   have hSD:(Builtin.unsafeSliceData_ #[111] 153 #[.slice (some ⟨g,0,none⟩) l.length cap]).run Tryd.prog w.drew=.ok (.pointer (some ⟨g,0,none⟩)) w.drew :=
    Lib.run_unsafeSliceData_row _ _ _ _ _ _ (by omega)
   have hcs:cur.size=cap*1:=by
    rcases hbr.1.2 with ⟨h1,_⟩ | ⟨g',cap',cur',h1,_,h3,_,_,h6,_⟩
    ·cases h1
    ·have e1:g=g':=by injection h1 with q1 q2 q3; injection q1 with q1; injection q1
     have e2:cap=cap':=by injection h1
     subst e1; subst e2
     rw [hg] at h3; injection h3 with h3; injection h3 with h3
     rw [h3]; exact h6
   have hUS:(Builtin.unsafeString_ #[153,3] 9 #[.pointer (some ⟨g,0,none⟩),.int .i64 l.length]).run Tryd.prog w.drew=.ok (.string ⟨l.toArray⟩) (w.drew.freeze ⟨g,0,none⟩ l.length):=by
    refine Lib.run_unsafeString_row w.drew 153 3 9 5 (by kernel_rfl) (by kernel_rfl) g cur.size (by have hg':w.drew.heap[g]?=some (.cells cur 5 (0,0)):=hg; simp [World.shape?,hg']) l hl0 (by omega) (by unfold maxLen at hcm; omega) ?_
    intro j x hx
    refine World.ownsRow.cells hbr.1 (g:=g) rfl j (.int .u8 x.toNat) ?_
    unfold strCells
    rw [List.getElem?_map,← hl,hx]; rfl
   rw [hbs]
   have hx:Ext (fun k=>k=b∨k=g) (fun k=>k=b∨k=g) w (w.drew.freeze ⟨g,0,none⟩ l.length):=zl3 ((Ext.refl _ _).drew) (.inr rfl) _
   have Hx:=Lib.hid hx
   clear hbk hbr hg hx hbs hll hcs
   clear hl
   go_enter Tryd.func49,Tryd.ntmps49
   go_wp2
   go_region
   all_goals (go_wp2; go_ret; exact ⟨rfl,Hx.out⟩)
end Go.Proofs.YtbempdelckaccaaDoor

namespace Go.Proofs.YtbempdelckaccaaDoor
open Go.RowKit Go.Lib Go.Shelf
attribute [local go_sem] Oper.semAt_some
set_option linter.unusedVariables false
set_option linter.unusedSimpArgs false
theorem Bld.drew {b:Nat} {bs:ByteArray} {C:Nat→Prop} {w:World} (h:Bld b bs C w):Bld b bs C w.drew:=h.local (fun _ _=>rfl)
def zmi (b:Nat) (bs:ByteArray):Asn:=⟨fun C w=>Bld b bs C w,fun h=>h.lt,fun h _ hk=>h.local hk⟩
theorem zje (b:Nat) (bs s:ByteArray) (hn:bs.size+s.size≤140737488355328):Fn Tryd.prog 47 [.pointer (some ⟨b,0,none⟩),.string s] [zmi b bs] (fun u:Value=>u) (fun _=>[zmi b (bs++s)]):=by
 intro w C hA
 refine (zhN b bs s C w (sepL.one1.1 hA) hn).mono ?_
 rintro e w' ⟨⟨u,rfl⟩,C',h1,h2⟩
 exact ⟨u,rfl,C',sepL.one1.2 h1,h2⟩
theorem zpi (b:Nat) (bs:ByteArray):Fn Tryd.prog 49 [.pointer (some ⟨b,0,none⟩)] [zmi b bs] (fun _:Unit=>.string bs) (fun _=>[]):=by
 intro w C hA
 refine (zk5 b bs C w (sepL.one1.1 hA)).mono ?_
 rintro e w' ⟨rfl,h2⟩
 exact ⟨(),rfl,fun _=>False,fun _ h=>h,h2.1,fun k hk=>hk.elim⟩
theorem zmc {b:Nat}:Ent (cells b [.pointer none,.slice none 0 0] 113) (zmi b ⟨#[]⟩):=by
 intro C w h
 have hC:C=fun k=>k=b:=funext fun k=>propext (h.1 k)
 subst hC
 exact ⟨_,_,_,h.2,.inl rfl,Byt.nil,by simp,by funext k; simp⟩
end Go.Proofs.YtbempdelckaccaaDoor

namespace Go.Proofs.YtbempdelckaccaaDoor
open Go.RowKit Go.Lib Go.Shelf
set_option linter.unusedVariables false
set_option linter.unusedSimpArgs false
theorem zoh (b:Nat) (bs:ByteArray) (C:Nat→Prop) (w:World) (h:Bld b bs C w) :
  Calls Tryd.prog 48 #[.pointer (some ⟨b,0,none⟩)] w fun e w'=>e=.returned (.int .i64 (bs.size:Int))∧w=w':=by
 obtain ⟨p,v,D,hbk,hp,hbr,hne,rfl⟩:=h
 rcases hbr.shape with ⟨rfl,rfl,rfl⟩ | ⟨g,cap,cur,rfl,hgl,hbc,hcm,rfl,hg⟩
 ·have c1:w.cell? ⟨b,1,none⟩=some (.slice none 0 0):=zdP hbk rfl
  clear hbk hbr
  go_enter Tryd.func48,Tryd.ntmps48
  go_wp2
  go_ret
  exact ⟨rfl,rfl⟩
 ·have c1:w.cell? ⟨b,1,none⟩=some (.slice (some ⟨g,0,none⟩) bs.size cap):=zdP hbk rfl
  clear hbk hbr
  go_enter Tryd.func48,Tryd.ntmps48
  go_wp2
  go_ret
  exact ⟨rfl,rfl⟩
theorem zpj (b:Nat) (bs:ByteArray):Fn Tryd.prog 48 [.pointer (some ⟨b,0,none⟩)] [zmi b bs] (fun _:Unit=>.int .i64 (bs.size:Int)) (fun _=>[zmi b bs]):=by
 intro w C hA
 refine (zoh b bs C w (sepL.one1.1 hA)).mono ?_
 rintro e w' ⟨rfl,rfl⟩
 exact ⟨(),rfl,C,hA,Ext.refl _ _⟩
end Go.Proofs.YtbempdelckaccaaDoor

namespace Go.Proofs.YtbempdelckaccaaDoor
open Go.RowKit Go.Lib
set_option linter.unusedVariables false
set_option linter.unusedSimpArgs false
def byI (l:List UInt8) (i:Nat):Int:=((l.getD i 0).toNat:Int)
def zrX (l:List UInt8):Nat→Int
 | 1=>byI l 0
 | 2=>(byI l 0 - 192)*64+byI l 1 - 128
 | 3=>((byI l 0 - 224)*64+byI l 1 - 128)*64+byI l 2 - 128
 | 4=>(((byI l 0 - 240)*64+byI l 1 - 128)*64+byI l 2 - 128)*64+byI l 3 - 128
 | _=>0
def acc (s:ByteArray) (a n:Nat):Prop:=vr (zrX (s.data.toList.drop a) n)∧wd (zrX (s.data.toList.drop a) n)=n∧Utf8.encode (zrX (s.data.toList.drop a) n)=zcu s a ((a:Int)+n)
def pcG (p:Pc):Gapi_Piece:=⟨p.i,p.w,p.r,p.broken⟩
end Go.Proofs.YtbempdelckaccaaDoor

namespace Go.Proofs.YtbempdelckaccaaDoor
open Go.RowKit Go.Lib
def znh (r:Int):Bool:=decide (r % 2=0)
def zkp (r:Int):Prop :=
 (65≤r∧r≤90)∨(0xC0≤r∧r≤0xDE∧r≠0xD7)∨(((0x100≤r∧r≤0x137)∨(0x14A≤r∧r≤0x177))∧r % 2=0)∨(0x139≤r∧r≤0x148∧r % 2=1)∨r=0x178 ∨
 (0x179≤r∧r≤0x17D∧r % 2=1)∨(0x386≤r∧r≤0x38F∧r≠0x387∧r≠0x38B∧r≠0x38D)∨(0x391≤r∧r≤0x3AB∧r≠0x3A2)∨(0x400≤r∧r≤0x42F)
instance (r:Int):Decidable (zkp r):=by unfold zkp; infer_instance
def zn5 (r:Int):Bool:=decide (zkp r)
def zjY (r:Int):Prop :=
 (97≤r∧r≤122)∨(0xDF≤r∧r≤0xFF∧r≠0xF7)∨(((0x100≤r∧r≤0x137)∨(0x14A≤r∧r≤0x177))∧r % 2=1)∨r=0x138∨r=0x149∨r=0x17F∨r=0x390 ∨
 (0x139≤r∧r≤0x148∧r % 2=0)∨(0x17A≤r∧r≤0x17E∧r % 2=0)∨(0x3AC≤r∧r≤0x3CE)∨(0x430≤r∧r≤0x45F)
instance (r:Int):Decidable (zjY r):=by unfold zjY; infer_instance
def znO (r:Int):Bool:=decide (zjY r)
def zmY (r:Int):Bool:=zn5 r||znO r
def zsJ (r:Int):Int :=
 if r=0xFF then 0xFF - 0x178
 else if r<0x100∨(0x3B1≤r∧r≤0x3CB)∨(0x430≤r∧r≤0x44F) then 0x20
 else if r≤0x17F then 1
 else if r=0x3AC then 0x3AC - 0x386
 else if 0x3AD≤r∧r≤0x3AF then 0x25
 else if r=0x3CC then 0x40
 else if r=0x3CD∨r=0x3CE then 0x3F
 else 0x50
def zqa (r:Int):Int :=
 if r<0∨(0xD800≤r∧r≤0xDFFF)∨0x10FFFF<r then 0
 else if zmY r then 1
 else if 0x300≤r∧r≤0x36F then 2
 else if 48≤r∧r≤57 then 3
 else if r=10∨r=13 then 4
 else if r=9∨r=32∨r=0xA0∨r=0x202F∨r=0x205F∨r=0x3000 then 5
 else if r=45∨(0x2010≤r∧r≤0x2015) then 6
 else if r=34∨r=39∨r=0xAB∨r=0xBB∨r=0x2039∨r=0x203A then 7
 else if r=33∨r=44∨r=46∨r=58∨r=59∨r=63∨r=0xA1∨r=0xB7∨r=0xBF∨r=0x2026 then 8
 else if 0x2000≤r∧r≤0x200A then 5
 else if 0x2018≤r∧r≤0x201F then 7
 else if r<0x20∨(0x7F≤r∧r≤0x9F)∨(0x200B≤r∧r≤0x200F)∨r=0xFEFF then 9
 else 10
def kind (r:Int):Int:=zqa r
theorem zm2 (r:Int):zn5 r=true↔zkp r:=by simp [zn5]
theorem zmx (r:Int):znO r=true↔zjY r:=by simp [znO]
end Go.Proofs.YtbempdelckaccaaDoor

namespace Go.Proofs.YtbempdelckaccaaDoor
open Go.RowKit Go.Lib Go.Shelf
set_option linter.unusedVariables false
set_option linter.unusedSimpArgs false
theorem zsK (r:Int) (h0 : -2147483648≤r) (h1:r≤2147483647):(bits BinOp.and IntKind.i32 r 1==0)=znh r:=by
 have hk:bits .and .i32 r 1=r % 2:=by
  have h1:(BitVec.ofInt 32 1).toNat=2 ^ 1 - 1:=by decide
  have key:(BitVec.ofInt 32 r &&& BitVec.ofInt 32 1).toNat=(r % ((2 ^ 32:Nat):Int)).toNat % 2 ^ 1:=by
   rw [BitVec.toNat_and,BitVec.toNat_ofInt,h1,Nat.and_two_pow_sub_one_eq_mod]
  show IntKind.i32.wrap ((BitVec.ofInt 32 r &&& BitVec.ofInt 32 1).toNat:Nat)=r % 2
  rw [key,IntKind.wrap_i32]
  omega
 rw [hk,znh,Bool.eq_iff_iff]
 simp
theorem zly (r:Int) (w:World) (h0 : -2147483648≤r) (h1:r≤2147483647) :
  Calls Tryd.prog 123 #[.int .i32 r] w fun e w'=>e=.returned (.bool (znh r))∧w=w':=by
 go_enter Tryd.func123,Tryd.ntmps123
 go_wp2
 go_ret
 exact ⟨zgm (zsK r h0 h1),rfl⟩
set_option maxHeartbeats 1000000 in
theorem zm3 (r:Int) (w:World) (h0 : -2147483648≤r) (h1:r≤2147483647) :
  Calls Tryd.prog 121 #[.int .i32 r] w fun e w'=>e=.returned (.bool (zn5 r))∧w=w':=by
 go_enter Tryd.func121,Tryd.ntmps121
 go_wp2_with (go_at_call 123; refine (zly _ _ (by omega) (by omega)).mono ?_; rintro e w' ⟨rfl,rfl⟩)
 all_goals
  go_ret
  refine ⟨zgm ?_,rfl⟩
  (go_light; rw [Bool.eq_iff_iff]; (try simp only [zm2,zkp,znh,decide_eq_true_eq,bne_iff_ne,ne_eq,Bool.not_eq_true',decide_eq_false_iff_not,Bool.and_eq_true,Bool.or_eq_true,Bool.or_eq_false_iff,Bool.and_eq_false_iff,bne_eq_false_iff_eq,beq_iff_eq,beq_eq_false_iff_ne,Bool.false_eq_true,false_iff,true_iff,iff_true,iff_false,Bool.not_eq_false',Bool.not_true,Bool.not_false] at *); omega)
set_option maxHeartbeats 1000000 in
theorem zmy (r:Int) (w:World) (h0 : -2147483648≤r) (h1:r≤2147483647) :
  Calls Tryd.prog 122 #[.int .i32 r] w fun e w'=>e=.returned (.bool (znO r))∧w=w':=by
 go_enter Tryd.func122,Tryd.ntmps122
 go_wp2_with (go_at_call 123; refine (zly _ _ (by omega) (by omega)).mono ?_; rintro e w' ⟨rfl,rfl⟩)
 all_goals
  go_ret
  refine ⟨zgm ?_,rfl⟩
  (go_light; rw [Bool.eq_iff_iff]; (try simp only [zmx,zjY,znh,decide_eq_true_eq,bne_iff_ne,ne_eq,Bool.not_eq_true',decide_eq_false_iff_not,Bool.and_eq_true,Bool.or_eq_true,Bool.or_eq_false_iff,Bool.and_eq_false_iff,bne_eq_false_iff_eq,beq_iff_eq,beq_eq_false_iff_ne,Bool.false_eq_true,false_iff,true_iff,iff_true,iff_false,Bool.not_eq_false',Bool.not_true,Bool.not_false] at *); omega)
theorem zlZ (r:Int) (w:World) (h0 : -2147483648≤r) (h1:r≤2147483647) :
  Calls Tryd.prog 118 #[.int .i32 r] w fun e w'=>e=.returned (.bool (zmY r))∧w=w':=by
 go_enter Tryd.func118,Tryd.ntmps118
 go_wp2_with (first | (go_at_call 121; refine (zm3 _ _ (by omega) (by omega)).mono ?_; rintro e w' ⟨rfl,rfl⟩) | (go_at_call 122; refine (zmy _ _ (by omega) (by omega)).mono ?_; rintro e w' ⟨rfl,rfl⟩))
 all_goals
  go_ret
  refine ⟨zgm ?_,rfl⟩
  go_light
  simp_all [zmY]
theorem znZ (r:Int) (w:World) (h0 : -2147483648≤r) (h1:r≤2147483647) :
  Calls Tryd.prog 119 #[.int .i32 r] w fun e w'=>e=.returned (.bool (decide (0x300≤r∧r≤0x36F)))∧w=w':=by
 go_enter Tryd.func119,Tryd.ntmps119
 go_wp2
 all_goals
  go_ret
  refine ⟨zgm ?_,rfl⟩
  (go_light; rw [Bool.eq_iff_iff]; simp only [decide_eq_true_eq,bne_iff_ne,ne_eq,Bool.not_eq_true',decide_eq_false_iff_not,Bool.and_eq_true,Bool.or_eq_true,Bool.or_eq_false_iff,Bool.and_eq_false_iff,bne_eq_false_iff_eq,beq_iff_eq,beq_eq_false_iff_ne,Bool.false_eq_true,false_iff,true_iff,iff_true,iff_false,Bool.not_eq_false',Bool.not_true,Bool.not_false] at *; omega)
end Go.Proofs.YtbempdelckaccaaDoor

namespace Go.Proofs.YtbempdelckaccaaDoor
open Go.RowKit Go.Lib Go.Shelf
set_option linter.unusedVariables false
set_option linter.unusedSimpArgs false
theorem zlp (r:Int) (w:World) (h0 : -2147483648≤r) (h1:r≤2147483647) :
  Calls Tryd.prog 114 #[.int .i32 r] w fun e w'=>e=.returned (.int .i64 (kind r))∧w=w':=by
 go_enter Tryd.func114,Tryd.ntmps114
 go_wp2_with (first | (go_at_call 118; refine (zlZ _ _ (by omega) (by omega)).mono ?_; rintro e w' ⟨rfl,rfl⟩) | (go_at_call 119; refine (znZ _ _ (by omega) (by omega)).mono ?_; rintro e w' ⟨rfl,rfl⟩))
 all_goals
  go_ret
  refine ⟨zkS ?_,rfl⟩
  go_light
  try simp only [decide_eq_true_eq,bne_iff_ne,ne_eq,Bool.not_eq_true',decide_eq_false_iff_not,Bool.and_eq_true,Bool.or_eq_true,Bool.or_eq_false_iff,Bool.and_eq_false_iff,bne_eq_false_iff_eq,beq_iff_eq,beq_eq_false_iff_ne,Bool.false_eq_true,false_iff,true_iff,iff_true,iff_false,Bool.not_eq_false',Bool.not_true,Bool.not_false] at *
  grind [kind,zqa]
def zc0 (b:Bool) (r:Int):Int:=if b then 11 else kind r
theorem zp4 (i wd r:Int) (b:Bool) (w:World) (h0 : -2147483648≤r) (h1:r≤2147483647) :
  Calls Tryd.prog 100 #[.agg #[.int .i64 i,.int .i64 wd,.int .i32 r,.bool b]] w fun e w'=>e=.returned (.int .i64 (zc0 b r))∧Below w.heap.size w w':=by
 cases b
 ·go_enter Tryd.func100,Tryd.ntmps100
  go_wp2_with (go_at_call 114; refine (zlp _ _ (by omega) (by omega)).mono ?_; rintro e w' ⟨rfl,rfl⟩)
  go_ret
  exact ⟨zkS (by simp [zc0]),(Below.refl _ _).alloc (Nat.le_refl _) _⟩
 ·go_enter Tryd.func100,Tryd.ntmps100
  go_wp2_with (go_at_call 114; refine (zlp _ _ (by omega) (by omega)).mono ?_; rintro e w' ⟨rfl,rfl⟩)
  go_ret
  exact ⟨zkS (by simp [zc0]),(Below.refl _ _).alloc (Nat.le_refl _) _⟩
end Go.Proofs.YtbempdelckaccaaDoor

namespace Go.Proofs.YtbempdelckaccaaDoor
open Go.RowKit Go.Lib Go.Shelf
attribute [local go_sem] Oper.semAt_some zmq ziL ziM
set_option linter.unusedVariables false
set_option linter.unusedSimpArgs false
end Go.Proofs.YtbempdelckaccaaDoor

namespace Go.Proofs.YtbempdelckaccaaDoor
open Go.RowKit Go.Lib Go.Shelf
attribute [local go_sem] Oper.semAt_some
set_option linter.unusedVariables false
set_option linter.unusedSimpArgs false
end Go.Proofs.YtbempdelckaccaaDoor

namespace Go.Proofs.YtbempdelckaccaaDoor
open Go.RowKit Go.Lib
structure Rn where
 f:Nat
 t:Nat
 k:Int
 deriving DecidableEq
end Go.Proofs.YtbempdelckaccaaDoor

namespace Go.Proofs.YtbempdelckaccaaDoor
open Go.RowKit Go.Lib
set_option linter.unusedVariables false
theorem zrd (i wd r:Int) (b:Bool) (h0 : -2147483648≤r) (h1:r≤2147483647):FnP Tryd.prog 100 [.agg #[.int .i64 i,.int .i64 wd,.int .i32 r,.bool b]] (.int .i64 (zc0 b r)):=fun w=>zp4 i wd r b w h0 h1
theorem Rw.vec {α:Type} {enc:α→List Value} {e:TypeId} {size:Nat} {v:Value} {L:List α} {w w':World} (h:Rw enc w' w.heap.size e size v L) (hb:Below w.heap.size w w') :
  ∃ C',sepL [vec enc e size v L] C' w'∧Ext (fun _=>False) C' w w':=by
 refine ⟨fun k=>v.ownBlock=some k,sepL.one ⟨zpr h (Nat.zero_le _),rfl⟩,(zle hb).weaken (fun i hi h=>by omega),fun k hk=>.inr ?_⟩
 rcases h.shape with ⟨rfl,_⟩ | ⟨g,cap,rfl,h1,h2,_⟩
 ·simp [Value.ownBlock] at hk
 ·simp [Value.ownBlock] at hk; omega
end Go.Proofs.YtbempdelckaccaaDoor

namespace Go.Proofs.YtbempdelckaccaaDoor
open Go.RowKit Go.Lib Go.Shelf
set_option linter.unusedVariables false
set_option linter.unusedSimpArgs false
def vowelRunes:List Int:=[0x101,0x103,0x105,0x113,0x115,0x117,0x119,0x11b,0x129,0x12b,0x12d,0x12f,0x131,0x14d,0x14f,0x151,0x153,0x169,0x16b,0x16d,0x16f,0x171,0x173,0x177,
 0x390,0x3ac,0x3ad,0x3ae,0x3af,0x3b0,0x3b1,0x3b5,0x3b7,0x3b9,0x3bf,0x3c5,0x3c9,0x3ca,0x3cb,0x3cc,0x3cd,0x3ce,
 0x430,0x435,0x438,0x43e,0x443,0x44b,0x44d,0x44e,0x44f,0x450,0x451,0x454,0x456,0x457,0x45d]
def vowelS:ByteArray:=⟨#[196,129,196,131,196,133,196,147,196,149,196,151,196,153,196,155,196,169,196,171,196,173,196,175,196,177,197,141,197,143,197,145,197,147,197,169,197,171,197,173,197,175,197,177,197,179,197,183,206,144,206,172,206,173,206,174,206,175,206,176,206,177,206,181,206,183,206,185,206,191,207,133,207,137,207,138,207,139,207,140,207,141,207,142,208,176,208,181,208,184,208,190,209,131,209,139,209,141,209,142,209,143,209,144,209,145,209,148,209,150,209,151,209,157]⟩
theorem zg9:(pcs vowelS.data.toList).map (fun p=>(p.r:Int))=vowelRunes:=by decide +kernel
def VowRel (w:World) (x:Int) (wr:World):Prop :=
 ∃ pre pos,pcs vowelS.data.toList=pre++zcB pos (vowelS.data.toList.drop pos)∧pos≤vowelS.size∧(∀ p∈pre,(Pc.r p:Int)≠x)∧Below w.heap.size w wr∧wr.heap[w.heap.size]?=some (.stringIter vowelS pos)
theorem VowRel.start (w:World) (x:Int):VowRel w x (w.iter vowelS 0) :=
 ⟨[],0,rfl,Nat.zero_le _,by simp,(Below.refl _ _).alloc (Nat.le_refl _) _,World.iter_heap w vowelS 0⟩
theorem VowRel.round {P:Program} {w wr:World} {x:Int} (h:VowRel w x wr) :
  (∃ (pos r:Nat) (W1:World),(∀ ty,(Instr.next (.pointer (some ⟨w.heap.size,0,none⟩)) true ty).run P wr=.ok (.tuple #[.bool true,.int .i64 pos,.int .i32 r]) W1)∧Below w.heap.size w W1 ∧
   (((r:Int)=x∧vowelRunes.contains x=true)∨((r:Int)≠x∧VowRel w x W1∧vowelS.size - W1.iterPos w.heap.size<vowelS.size - wr.iterPos w.heap.size))) ∨
  ((∀ ty,(Instr.next (.pointer (some ⟨w.heap.size,0,none⟩)) true ty).run P wr=.ok (.tuple #[.bool false]) wr)∧Below w.heap.size w wr∧vowelRunes.contains x=false):=by
 obtain ⟨pre,pos,hx,hpos,hpre,hb,hit⟩:=h
 by_cases hlt:pos<vowelS.size
 ·obtain ⟨r,wd,W1,hn,hf,hit1,hsz,hok,hp,hle,h1⟩:=zkh P wr w.heap.size vowelS pos hit hlt
  have hb1:Below w.heap.size w W1:=hb.trans (hf.toBelow hb.size (by intro k hk; omega))
  refine .inl ⟨pos,r,W1,hn,hb1,?_⟩
  rw [hp] at hx
  by_cases he:(r:Int)=x
  ·refine .inl ⟨he,?_⟩
   rw [← zg9,hx,List.contains_iff_mem,List.mem_map]
   exact ⟨⟨pos,wd,r⟩,by simp,he⟩
  ·refine .inr ⟨he,⟨pre++[⟨pos,wd,r⟩],pos+wd,by rw [hx]; simp,hle,?_,hb1,hit1⟩,?_⟩
   ·intro p hp
    rcases List.mem_append.1 hp with h | h
    ·exact hpre p h
    ·simp at h; subst h; exact he
   ·rw [ziY hit,ziY hit1]; omega
 ·obtain ⟨hn,hp⟩:=zki P wr w.heap.size vowelS pos hit hlt
  refine .inr ⟨hn,hb,?_⟩
  rw [hp,List.append_nil] at hx
  rw [← zg9,hx,← Bool.not_eq_true,List.contains_iff_mem,List.mem_map]
  rintro ⟨p,hm,he⟩
  exact hpre p hm he
end Go.Proofs.YtbempdelckaccaaDoor

namespace Go.Proofs.YtbempdelckaccaaDoor
open Go.RowKit Go.Lib Go.Shelf
set_option linter.unusedVariables false
set_option linter.unusedSimpArgs false
end Go.Proofs.YtbempdelckaccaaDoor

namespace Go.Proofs.YtbempdelckaccaaDoor
open Go.RowKit Go.Lib Go.Shelf
set_option linter.unusedVariables false
set_option linter.unusedSimpArgs false
end Go.Proofs.YtbempdelckaccaaDoor

namespace Go.Proofs.YtbempdelckaccaaDoor
open Go.RowKit Go.Lib
set_option linter.unusedVariables false
set_option linter.unusedSimpArgs false
section
variable {α:Type} {enc:α→List Value} {size o:Nat} {vv:Value} {xs:List α}
def zhd (enc:α→List Value) (size:Nat) (vv:Value) (o:Nat) (xs:List α):Asn :=
  ⟨fun C w=>(∀ b,C b→b<w.heap.size)∧∀ i x j v,xs[i]?=some x→(enc x)[j]?=some v→C (zc7 vv)∧w.cell? ⟨zc7 vv,o+i*size+j,none⟩=some v,
   fun h b hb=>h.1 b hb,
   fun {C w w'} h hs hk=>⟨fun b hb=>Nat.lt_of_lt_of_le (h.1 b hb) hs,fun i x j v hx hv=>by
     obtain ⟨h1,h2⟩:=h.2 i x j v hx hv
     refine ⟨h1,?_⟩
     rw [← h2]
     unfold World.cell?
     simp only [hk _ h1]⟩⟩
def VwO (vv:Value) (o:Nat) (v:Value) (xs:List α):Prop :=
 ∃ q c,v=.slice q xs.length c∧xs.length≤c∧(xs≠[]→q=some ⟨zc7 vv,o,none⟩)
theorem VwO.one {v:Value} (h:VwO vv o v xs):v.oneCell'=true:=by
 obtain ⟨q,c,rfl,_⟩:=h; rfl
variable {F:Fence} {P:Program} {w0:World} {K:Nat→Prop} {N:Nat} {dfs:List Deferred} {ops:Array Oper} {Q:Exit→Act→World→Prop} {rest:List Oper} {σ:List (Nat×Value)} {L RD:List Asn} {v:Value}
 {d i:Nat} {t ty e:TypeId} {pos:String} {aft:Array Edge} {g:Option (Nat×Bool)} {x y:Operand}
theorem ziw [WideF F] {tt te:TypeId} (hV:VwO vv o v xs) (hg:gd ops σ g=some true) (hd:d<N) (hx:ev σ x=some v) (ht:P.underlying tt=some (.slice te))
  (h:TO F P w0 K N dfs ops Q rest ((d,.int .i64 (xs.length:Int))::σ) L):TO F P w0 K N dfs ops Q (⟨some d,.call { callee:=.builtin .len,args:=#[x],argTypes:=#[tt] },ty,pos,aft,g⟩::rest) σ L :=
 zcm hg hd (by simp) (fun a w ha hw=>by
  obtain ⟨q,c,hq,_⟩:=hV
  have:=ha.ev hx
  simp [execOp,resolve,invoke,builtin,this,hq,Builtin.len_,run_underlying ht,Sem.run_bind,goInt]) h
theorem zd2 [WideF F] {off:Nat} {i:Int} {q:α} (hV:VwO vv o v xs) (hq:zcI xs i=some q) (ht:P.underlying t=some (.slice e)) (hT:SizeOk P e size) (hg:gd ops σ g=some true) (hd:d<N) (hx:ev σ x=some v) (hy:ev σ y=some (.int .i64 i))
  (ho:o+i.toNat*size=off)
  (h:TO F P w0 K N dfs ops Q rest ((d,.pointer (some ⟨zc7 vv,off,none⟩))::σ) L):TO F P w0 K N dfs ops Q (⟨some d,.indexAddr t x y,ty,pos,aft,g⟩::rest) σ L:=by
 obtain ⟨ii,hu,hs⟩:=hT.some
 subst ho; subst hs
 obtain ⟨h0,hl⟩:=zlq hq
 obtain ⟨n,rfl⟩:∃ n:Nat,i=n:=⟨i.toNat,by omega⟩
 refine zcm hg hd (by simp) (fun a w ha hw => ?_) h
 obtain ⟨q',c,hq',_,hp⟩:=hV
 have hp:=hp (by intro h; simp [h] at hl; omega)
 subst hp; subst hq'
 have h1:=ha.ev hx; have h2:=ha.ev hy
 have hi':n<xs.length:=by omega
 simp [execOp,Instr.indexAt,h1,h2,asIntOf,run_underlying ht,Sem.run_bind,hi',sizeOf,typeInfo,hu,Addr.add_mid,Nat.add_mul]
theorem zes [WideF F] {n j off:Nat} {q:α} (hr:Rd w0 K RD) (hi:RD[i]?=some (zhd enc size vv o xs)) (hT:zb9 P t) (hg:gd ops σ g=some true) (hd:d<N) (hx:ev σ x=some (.pointer (some ⟨zc7 vv,off,none⟩)))
  (hq:xs[n]?=some q) (ho:off=o+n*size+j) (hv:(enc q)[j]?=some v) (h:TO F P w0 K N dfs ops Q rest ((d,v)::σ) L) :
  TO F P w0 K N dfs ops Q (⟨some d,.load t x,ty,pos,aft,g⟩::rest) σ L:=by
 subst ho
 obtain ⟨dd,hu,hr'⟩:=hT
 refine zcm hg hd (by simp) (fun a w ha hw => ?_) h
 obtain ⟨C,hC⟩:=hr.at hw hi
 have hc:=(hC.2 n q j v hq hv).2
 have h1:=ha.ev hx
 cases dd <;> simp_all [execOp,Instr.loadAt,Instr.sureAddr,loadVar,isAgg,Sem.run_bind,run_underlying hu]
theorem zfT [WideF F] {m j off n:Nat} {q:α} {cs:List Value} (hr:Rd w0 K RD) (hi:RD[i]?=some (zhd enc size vv o xs)) (hT:zgc P t n) (hg:gd ops σ g=some true) (hd:d<N) (hx:ev σ x=some (.pointer (some ⟨zc7 vv,off,none⟩)))
  (hq:xs[m]?=some q) (ho:off=o+m*size+j) (hcs:((enc q).drop j).take n=cs) (hn:cs.length=n)
  (h:TO F P w0 K N dfs ops Q rest ((d,.agg cs.toArray)::σ) L):TO F P w0 K N dfs ops Q (⟨some d,.load t x,ty,pos,aft,g⟩::rest) σ L:=by
 subst ho; subst hn
 obtain ⟨dd,hu,hr',hi'⟩:=hT
 refine zcm hg hd (by simp) (fun a w ha hw => ?_) h
 obtain ⟨C,hC⟩:=hr.at hw hi
 have hc:w.rangeAt (zc7 vv) (o+m*size+j) cs:=fun n u hn=>by
  rw [← hcs] at hn
  rw [List.getElem?_take] at hn
  split at hn
  ·rw [List.getElem?_drop] at hn
   have:=(hC.2 m q (j+n) u hq hn).2
   rwa [← Nat.add_assoc] at this
  ·cases hn
 simp only [execOp,ha.ev hx,Sem.run_bind,run_loadAt_mid w _ _ t cs dd hc hu hr' hi']; rfl
end
end Go.Proofs.YtbempdelckaccaaDoor

namespace Go.Proofs.YtbempdelckaccaaDoor
open Go.RowKit Go.Lib Go.ChangeShapes Go.WideShapes
set_option linter.unusedVariables false
set_option linter.unusedSimpArgs false
theorem FnR.p {P:Program} {f:FuncId} {vs:List Value} {RD:List Asn} {v:Value} (h:FnR P f vs RD [] (fun _:Unit=>v) (fun _=>[])) (w:World) (hr:Rd w (fun _=>False) RD):Calls P f vs.toArray w fun e w'=>e=.returned v∧Below w.heap.size w w' :=
 (h w (fun _=>False) hr (fun _ h=>h)).mono fun e w' ⟨_,h1,C',h2,h3⟩=>⟨h1,h3.toBelow (Nat.le_refl _) (fun _ _ h=>h)⟩
theorem zpg {w:World} {b j:Nat} {v:Value} (h:w.cell? ⟨b,j,none⟩=some v):b<w.heap.size:=by
 rcases Nat.lt_or_ge b w.heap.size with h1 | h1
 ·exact h1
 ·have:w.heap[b]?=none:=Array.getElem?_eq_none h1
  simp [World.cell?,this] at h
section
variable {H:Type} {enc:TypeId×Value→H} {P:Program} {w:World} {base:Nat} {held:Bool} {zb8:Nat} {t e:TypeId} {cs:List Value} {x:DataW H×List MemPlace}
theorem zeS {fs:Array Field} {l:List (TypeId×Nat)} {n:Nat} {sp:Nat→Bool} {xs:List (DataW H×List MemPlace)} (hfs:fs.toList.map (fun f=>(f.type,f.offset))=l) (hx:xs.length=fs.size)
  (hf:∀ (i:Nat) (f:Field),fs[i]?=some f→DataW.trod enc P w base sp held n f.type ((cs.drop f.offset).take (P.cellsOf f.type))=xs[i]?) {i o c:Nat} (hi:l[i]?=some (e,o)) (hc:P.cellsOf e=c) :
  ∃ z,xs[i]?=some z∧DataW.trod enc P w base sp held n e ((cs.drop o).take c)=some z:=by
 have hg:(fs.toList.map (fun f=>(f.type,f.offset)))[i]?=some (e,o):=by rw [hfs]; exact hi
 rw [List.getElem?_map] at hg
 cases hq:fs.toList[i]? with
 | none=>rw [hq] at hg; cases hg
 | some f =>
  rw [hq] at hg
  have hfe:(f.type,f.offset)=(e,o):=Option.some.inj hg
  have h2:=hf i f (by rw [← Array.getElem?_toList]; exact hq)
  rw [(Prod.mk.inj hfe).1,(Prod.mk.inj hfe).2,hc] at h2
  have hlt:i<fs.size:=by have:=(List.getElem?_eq_some_iff.1 hq).1; simpa using this
  rw [List.getElem?_eq_getElem (by omega)] at h2
  exact ⟨_,List.getElem?_eq_getElem (by omega),h2⟩
end
end Go.Proofs.YtbempdelckaccaaDoor

namespace Go.Proofs.YtbempdelckaccaaDoor
open Go.RowKit Go.Lib Go.ChangeShapes Go.WideShapes
set_option linter.unusedVariables false
theorem zh8 {α:Type} (R:Nat→α→Prop):∀ n:Nat,(∀ i,i<n→∃ z,R i z)→∃ zs:List α,zs.length=n∧∀ i z,zs[i]?=some z→R i z
 | 0,_=>⟨[],rfl,fun i z h=>by simp at h⟩
 | n+1,h=>by
  obtain ⟨zs,h1,h2⟩:=zh8 R n fun i hi=>h i (by omega)
  obtain ⟨z,hz⟩:=h n (by omega)
  refine ⟨zs++[z],by simp [h1],fun i y hy => ?_⟩
  rcases Nat.lt_or_ge i zs.length with hi | hi
  ·rw [List.getElem?_append_left hi] at hy; exact h2 i y hy
  ·rw [List.getElem?_append_right hi] at hy
   have h0:i - zs.length=0:=by
    rcases Nat.eq_zero_or_pos (i - zs.length) with e | e
    ·exact e
    ·rw [List.getElem?_eq_none (by simp; omega)] at hy; cases hy
   rw [h0] at hy
   have e:i=n:=by omega
   rw [e,← Option.some.inj hy]; exact hz
section
variable {H:Type} {enc:TypeId×Value→H} {P:Program} {w:World} {base:Nat} {held:Bool} {zb8:Nat} {t e:TypeId} {cs:List Value} {x:DataW H×List MemPlace}
end
end Go.Proofs.YtbempdelckaccaaDoor

namespace Go.Proofs.YtbempdelckaccaaDoor
open Go.RowKit Go.Lib Go.ChangeShapes Go.WideShapes
set_option linter.unusedVariables false
theorem znR {α:Type} {enc:α→List Value} {n:Nat} (hn:0<n) (hlen:∀ x,(enc x).length=n) {w:World} {a:Addr} {ys:List α} {cap:Nat} (hl:ys.length≤cap) (hc:∀ i y,ys[i]?=some y→∀ j v,(enc y)[j]?=some v→w.cell? ((a.add (i*n)).add j)=some v) :
  ∃ vv o,VwO vv o (.slice (some a) ys.length cap) ys∧(zhd enc n vv o ys).P (fun b=>b<w.heap.size) w:=by
 cases ys with
 | nil =>
  exact ⟨.slice none 0 0,0,⟨_,_,rfl,hl,fun h=>absurd rfl h⟩,⟨fun b hb=>hb,fun i x j v hx=>by simp at hx⟩⟩
 | cons y ys =>
  obtain ⟨b,off,spot⟩:=a
  have h0:∃ v,(enc y)[0]?=some v:=⟨_,List.getElem?_eq_getElem (by rw [hlen y]; exact hn)⟩
  obtain ⟨v0,hv0⟩:=h0
  have hspot:spot=none:=by
   have:=World.cell?_spot (hc 0 y rfl 0 v0 hv0)
   simpa [Addr.add] using this
  subst hspot
  refine ⟨.slice (some ⟨b,0,none⟩) 0 0,off,⟨_,_,rfl,hl,fun _=>by simp [zc7]⟩,⟨fun b hb=>hb,fun i x j v hx hv => ?_⟩⟩
  have h1:=hc i x hx j v hv
  rw [add_plain,add_plain] at h1
  exact ⟨zpg h1,h1⟩
section
variable {H:Type} {enc:TypeId×Value→H} {P:Program} {w:World} {base:Nat} {held:Bool} {zb8:Nat} {t e:TypeId} {cs:List Value} {x:DataW H×List MemPlace}
theorem see_eachO {α:Type} {en:α→List Value} {n:Nat} (hn:0<n) (hlen:∀ z,(en z).length=n) (Q:α→DataW H→Prop) (ht:P.underlying t=some (.slice e)) (hc:P.cellsOf e=n)
  (hd:∀ n cs y,DataW.trod enc P w base (fun _=>true) held n e cs=some y→∃ z,cs=en z∧Q z y.1)
  (h:DataW.trod enc P w base (fun _=>true) held zb8 t cs=some x) :
  ∃ (hd:Hd) (zs:List α) (vv:Value) (o:Nat),cs=[hd.v]∧VwO vv o hd.v zs∧(zhd en n vv o zs).P (fun b=>b<w.heap.size) w∧((x.1=.nil∧zs=[])∨∃ A B:List (DataW H),x.1=.slice A B∧A.length=zs.length∧∀ (i:Nat) (z:α),zs[i]?=some z→∃ y,A[i]?=some y∧Q z y):=by
 rcases DataW.trod_slice ht h with ⟨rfl,rfl⟩ | ⟨a,len,cap,elems,rest,m,_,rfl,rfl,hb,hl,hm',hlen',hel,hsp,hns⟩
 ·exact ⟨Hd.nil,[],.slice none 0 0,0,rfl,⟨none,0,rfl,Nat.le_refl _,fun h=>absurd rfl h⟩,⟨fun b hb=>hb,fun i x j v hx=>by simp at hx⟩,.inl ⟨rfl,rfl⟩⟩
 ·obtain ⟨zs,z1,z2⟩:=zh8 (fun i z=>(∀ j v,(en z)[j]?=some v→w.cell? ((a.add (i*n)).add j)=some v)∧∃ y,elems[i]?=some y∧Q z y.1) len fun i hi=>by
   have h1:=hel i hi
   rw [hc] at h1
   rw [List.getElem?_eq_getElem (by omega)] at h1
   obtain ⟨cs',hcs,hy⟩:=Option.bind_eq_some_iff.1 h1
   obtain ⟨z,rfl,hQ⟩:=hd _ _ _ hy
   obtain ⟨_,_,h2⟩:=World.cells?_some hcs
   refine ⟨z,fun j v hv => ?_,_,List.getElem?_eq_getElem (by omega),hQ⟩
   have hj:j<n:=by rw [← hlen z]; exact (List.getElem?_eq_some_iff.1 hv).1
   rw [h2 j hj,hv]
  obtain ⟨vv,o,h1,h2⟩:=znR (enc:=en) hn hlen (w:=w) (a:=a) (ys:=zs) (cap:=cap) (by omega) (fun i y hy=>(z2 i y hy).1)
  rw [z1] at h1
  refine ⟨⟨some a,len,cap⟩,zs,vv,o,rfl,h1,h2,.inr ⟨_,_,rfl,by rw [List.length_map]; omega,fun i z hz => ?_⟩⟩
  obtain ⟨_,y,hy,hQ⟩:=z2 i z hz
  exact ⟨y.1,by rw [List.getElem?_map,hy]; rfl,hQ⟩
theorem see_apirow {ti ts:TypeId} {fs:Array Field} (ht:P.underlying t=some (.struct fs)) (hfs:fs.toList.map (fun f=>(f.type,f.offset))=[(ti,0),(ti,1),(ti,2),(ti,3),(ti,4),(ts,5)]) (h6:P.cellsOf t=6) (hi1:P.cellsOf ti=1) (hi:P.underlying ti=some (.int .i64)) (hs1:P.cellsOf ts=1) (hs:P.underlying ts=some .string)
  (h:DataW.trod enc P w base (fun _=>true) held zb8 t cs=some x) :
  ∃ (a b c d g:Int) (s:ByteArray),cs=[.int .i64 a,.int .i64 b,.int .i64 c,.int .i64 d,.int .i64 g,.string s]∧∃ y0 y1 y2 y3 y4:DataW H,x.1=.agg [y0,y1,y2,y3,y4,.lit (.string s.data.toList)]:=by
 have h60:fs.size=6:=by have:=congrArg List.length hfs; simpa using this
 obtain ⟨xs,n,rfl,hx,hl6,hxl,hf⟩:=DataW.trod_struct ht h
 rw [h6] at hl6
 match cs,hl6 with
 | [c0,c1,c2,c3,c4,c5],_ =>
  obtain ⟨z0,x0,k0⟩:=zeS (i:=0) hfs hxl hf rfl hi1
  obtain ⟨z1,x1,k1⟩:=zeS (i:=1) hfs hxl hf rfl hi1
  obtain ⟨z2,x2,k2⟩:=zeS (i:=2) hfs hxl hf rfl hi1
  obtain ⟨z3,x3,k3⟩:=zeS (i:=3) hfs hxl hf rfl hi1
  obtain ⟨z4,x4,k4⟩:=zeS (i:=4) hfs hxl hf rfl hi1
  obtain ⟨z5,x5,k5⟩:=zeS (i:=5) hfs hxl hf rfl hs1
  obtain ⟨a,e0,_,_⟩:=DataW.trod_int hi k0
  obtain ⟨b,e1,_,_⟩:=DataW.trod_int hi k1
  obtain ⟨c,e2,_,_⟩:=DataW.trod_int hi k2
  obtain ⟨d,e3,_,_⟩:=DataW.trod_int hi k3
  obtain ⟨g,e4,_,_⟩:=DataW.trod_int hi k4
  obtain ⟨s,e5,e6,_⟩:=DataW.trod_string hs k5
  simp at e0 e1 e2 e3 e4 e5
  subst e0 e1 e2 e3 e4 e5
  refine ⟨a,b,c,d,g,s,rfl,?_⟩
  match xs,hxl.trans h60 with
  | [w0,w1,w2,w3,w4,w5],_ =>
   simp at x0 x1 x2 x3 x4 x5
   refine ⟨w0.1,w1.1,w2.1,w3.1,w4.1,?_⟩
   rw [hx,← (show w5.1=.lit (.string s.data.toList) by rw [x5,e6])]
   rfl
theorem zfM {n:Nat} {y:DataW H} (hn:n∈DataW.weights P e y):∀ {A:List (DataW H)},y∈A→n∈DataW.weightsAll P e A
 | z::A,h=>by
  show n∈DataW.weights P e z++DataW.weightsAll P e A
  rcases List.mem_cons.1 h with rfl | h
  ·exact List.mem_append_left _ hn
  ·exact List.mem_append_right _ (zfM hn h)
theorem zlJ {ti ts:TypeId} {fs:Array Field} (ht:P.underlying e=some (.struct fs)) (hfs:fs.toList.map (·.type)=[ti,ti,ti,ti,ti,ts]) (y0 y1 y2 y3 y4:DataW H) (l:List UInt8):l.length∈DataW.weights P e (.agg [y0,y1,y2,y3,y4,.lit (.string l)]):=by
 simp only [DataW.weights,ht,hfs,DataW.weightsEach]
 simp
theorem weight_rows {ti ts:TypeId} {fs:Array Field} (hu:P.underlying t=some (.slice e)) (ht:P.underlying e=some (.struct fs)) (hfs:fs.toList.map (·.type)=[ti,ti,ti,ti,ti,ts]) {A B:List (DataW H)} {y0 y1 y2 y3 y4:DataW H} {l:List UInt8} (hm : .agg [y0,y1,y2,y3,y4,.lit (.string l)]∈A):l.length∈DataW.weights P t (.slice A B):=by
 simp only [DataW.weights,hu]
 exact List.mem_cons_of_mem _ (List.mem_append_left _ (zfM (zlJ ht hfs y0 y1 y2 y3 y4 l) hm))
end
end Go.Proofs.YtbempdelckaccaaDoor
