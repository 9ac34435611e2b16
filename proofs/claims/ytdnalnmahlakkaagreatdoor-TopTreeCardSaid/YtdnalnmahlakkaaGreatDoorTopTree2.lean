/-
  Texts laid together: Vs, Tab, If, Lt, PcW, Cls, ClsW, ClsW2, SeqW, RefPcs, Runs, C0, Ro, Op, Ir, Rq, Lr, Shw, Tz, Od, Tok, Word, WordA, WordB, WordC, WordD, WordE, WordP, Wd, Shf, So, Vow, RefW, RefW3, Ar, Rx, Cw, Mq, Ms, Dr, Ds, Gi, Za, Sh, Sw, Sx. Nothing is assumed.
-/
import Derived.Test.YtdnalnmahlakkaaGreatDoorTopTree1
import Derived.Test.YtdnalnmahlakkaaGreatDoorProg
import Derived.Shelf.Abstract
import Derived.Shelf.Spec.TrailingZeros
import Derived.Shelf.SlSortCmp.WholeK
import Derived.Shelf.Small.Bits
import Derived.Shelf.Small.Strs
import Derived.Shelf.Strconv.Itoa0
import Derived.Lib.TrailingZeros
import Derived.OpenShut
import Derived.SliceStrings
import Derived.ProofKit
set_option maxRecDepth 100000
set_option maxHeartbeats 4000000
namespace Go.Proofs.YtdnalnmahlakkaaGreatDoor
open Go.RowKit Go.Lib
open Tryz
set_option linter.unusedVariables false
set_option linter.unusedSimpArgs false
def zeW (s:zBA) (k:Nat):Nat:=match (pcs s.data.toList)[k]? with
 | some p=>p.i
 | none=>s.size
theorem zoH {s:zBA} {k:Nat} {p:Pc} (h:(pcs s.data.toList)[k]?=some p):zeW s k=p.i:=by simp [zeW,h]
theorem zoG (s:zBA):zeW s 0=0:=by
 unfold zeW
 by_cases h:s.data.toList=[]
 ·have:s.size=0:=by have:=congrArg List.length h; simpa using this
  simp [h,pcs,zd9,this]
 ·simp [pcs,zdp 0 _ h]
theorem zoI {s:zBA} {k:Nat} {p:Pc} (h:(pcs s.data.toList)[k]?=some p):zeW s (k+1)=p.i+p.w∧zef p.i (s.data.toList.drop p.i)=p::(pcs s.data.toList).drop (k+1):=by
 have hk:k<(pcs s.data.toList).length:=(List.getElem?_eq_some_iff.1 h).1
 have he:pcs s.data.toList=(pcs s.data.toList).take k++p::(pcs s.data.toList).drop (k+1):=by
  have h1:=List.drop_eq_getElem_cons hk
  have h2:(pcs s.data.toList)[k]=p:=(List.getElem?_eq_some_iff.1 h).2
  rw [h2] at h1
  rw [← h1,List.take_append_drop]
 obtain ⟨q1,q2,q3,q4⟩:=zkm s.data.toList _ p _ he
 have hlen:s.data.toList.length=s.size:=by rw [Array.length_toList]; rfl
 refine ⟨?_,q3⟩
 unfold zeW
 have hget:(pcs s.data.toList)[k+1]?=((pcs s.data.toList).drop (k+1))[0]?:=by simp
 rw [hget,q4]
 by_cases hd':s.data.toList.drop (p.i+p.w)=[]
 ·rw [hd',zd9]
  have h5:=congrArg List.length hd'
  simp only [List.length_drop,List.length_nil,hlen] at h5
  obtain ⟨_,h6,_⟩:=zf6 s.data.toList p (List.mem_of_getElem? h)
  simp; omega
 ·rw [zdp _ _ hd']; simp
section
variable {F:Fence} {P:Program} {w0:World} {K:Nat→Prop} {N:Nat} {dfs:List Deferred} {ops:Array Oper} {Q:Exit→Act→World→Prop} {rest:List Oper} {σ:List (Nat×Value)} {L:List Asn}
 {d:Nat} {t:TypeId} {ty:TypeId} {pos:String} {aft:Array Edge} {g:Option (Nat×Bool)} {x:Operand} {k:Nat} {s:zBA}
theorem zea [WideF F] (ht:P.underlying t=some .string) (hg:gd ops σ g=some true) (hd:d<N) (hx:ev σ x=some (.string s))
  (h:∀ b,TO F P w0 K N dfs ops Q rest ((d,.pointer (some ⟨b,0,none⟩))::σ) (L++[obj b (.stringIter s (zeW s 0))])):TO F P w0 K N dfs ops Q (⟨some d,.range t x,ty,pos,aft,g⟩::rest) σ L :=
 zfR hg (by simp) fun a w ha hw=>⟨.pointer (some ⟨w.heap.size,0,none⟩),w.alloc (.stringIter s 0),by simp [execOp,ha.ev hx,Instr.range,run_underlying ht,Sem.run_bind],h _ _ _ (ha.put hd _) (by rw [zoG]; exact hw.alloc _)⟩
theorem zex [WideF F] {it m:Nat} {p:Pc} (hg:gd ops σ g=some true) (hd:d<N) (hx:ev σ x=some (.pointer (some ⟨it,0,none⟩))) (hk:L[k]?=some (obj it (.stringIter s (zeW s m)))) (hp:(pcs s.data.toList)[m]?=some p)
  (h:TO F P w0 K N dfs ops Q rest ((d,.tuple #[.bool true,.int .i64 p.i,.int .i32 p.r])::σ) (L.set k (obj it (.stringIter s (zeW s (m+1)))))):TO F P w0 K N dfs ops Q (⟨some d,.next x true,ty,pos,aft,g⟩::rest) σ L:=by
 refine zfR hg (by simp) fun a w ha hw => ?_
 have hit:=hw.obj hk
 rw [zoH hp] at hit
 obtain ⟨h1,h2⟩:=zoI hp
 have hmem:=List.mem_of_getElem? hp
 obtain ⟨g1,g2,_⟩:=zf6 s.data.toList p hmem
 have hlen:s.data.toList.length=s.size:=by rw [Array.length_toList]; rfl
 obtain ⟨r,wd,W1,e1,e2,e3,e4,e5,e6,e7,e8⟩:=zpz P w it s p.i hit (by omega)
 rw [h2] at e6
 have hpe:p=⟨p.i,wd,r⟩:=(List.cons.inj e6).1
 have hw':p.w=wd:=congrArg Pc.w hpe
 have hr:p.r=r:=congrArg Pc.r hpe
 obtain ⟨C1,c1,c2⟩:=hw.focus hk
 refine ⟨.tuple #[.bool true,.int .i64 p.i,.int .i32 p.r],W1,by rw [hr]; simp [execOp,ha.ev hx,e1,Sem.run_bind],h _ _ (ha.put hd _) (c2 _ C1 W1 ⟨?_,fun j hj=>.inl hj⟩ ⟨c1.1,by rw [h1,hw']; exact e3⟩)⟩
 exact e2.weaken (fun i _ hi=>by subst hi; exact (c1.1 _).2 rfl)
theorem zgg [WideF F] {it m:Nat} (hg:gd ops σ g=some true) (hd:d<N) (hx:ev σ x=some (.pointer (some ⟨it,0,none⟩))) (hk:L[k]?=some (obj it (.stringIter s (zeW s m)))) (hm:(pcs s.data.toList).length≤m)
  (h:TO F P w0 K N dfs ops Q rest ((d,.tuple #[.bool false])::σ) L):TO F P w0 K N dfs ops Q (⟨some d,.next x true,ty,pos,aft,g⟩::rest) σ L:=by
 refine zfR hg (by simp) fun a w ha hw => ?_
 have hit:=hw.obj hk
 have e:zeW s m=s.size:=by simp [zeW,List.getElem?_eq_none hm]
 rw [e] at hit
 exact ⟨_,w,by simp [execOp,ha.ev hx,(zpA P w it s s.size hit (by omega)).1,Sem.run_bind],h _ _ (ha.put hd _) hw⟩
end
section
open Go.Shelf
theorem zdk:zcc prog 3:=⟨_,underlying3,rfl⟩
theorem zeR:SizeOk prog 3 1:=by unfold SizeOk; as_aux_lemma=>kernel_rfl
theorem zo6:ZeroOk prog 3 [.int .i64 0]:=by unfold ZeroOk; as_aux_lemma=>kernel_rfl
theorem ztX:ElemOk prog 3 1:=ElemOk.mk' kr
theorem zkg:zcc prog 4:=⟨_,underlying4,rfl⟩
theorem zlF:SizeOk prog 4 1:=by unfold SizeOk; as_aux_lemma=>kernel_rfl
theorem zwN:ZeroOk prog 4 [.bool false]:=by unfold ZeroOk; as_aux_lemma=>kernel_rfl
theorem zw0:zcc prog 5:=⟨_,underlying5,rfl⟩
theorem zwR:ByteOk prog 5:=ByteOk.mk' kr
theorem zhH:zcc prog 9:=⟨_,underlying9,rfl⟩
theorem zrJ:SizeOk prog 9 1:=by unfold SizeOk; as_aux_lemma=>kernel_rfl
theorem zwX:ZeroOk prog 9 [.string ByteArray.empty]:=by unfold ZeroOk; as_aux_lemma=>kernel_rfl
theorem zvj:ElemOk prog 9 1:=ElemOk.mk' kr
theorem zfq:zcc prog 21:=⟨_,underlying21,rfl⟩
theorem zkb:SizeOk prog 21 1:=by unfold SizeOk; as_aux_lemma=>kernel_rfl
theorem ztx:ElemOk prog 21 1:=ElemOk.mk' kr
theorem zfr:zcc prog 24:=⟨_,underlying24,rfl⟩
theorem zka:SizeOk prog 24 1:=by unfold SizeOk; as_aux_lemma=>kernel_rfl
theorem zt3:ZeroOk prog 24 [.pointer none]:=by unfold ZeroOk; as_aux_lemma=>kernel_rfl
theorem ziR:zcc prog 25:=⟨_,underlying25,rfl⟩
theorem zkR:SizeOk prog 25 1:=by unfold SizeOk; as_aux_lemma=>kernel_rfl
theorem zvy:ZeroOk prog 25 [.int .i64 0]:=by unfold ZeroOk; as_aux_lemma=>kernel_rfl
theorem zvI:zim prog 30 2:=⟨_,underlying30,rfl,by as_aux_lemma=>kernel_rfl⟩
theorem zkw:zco prog 30 0 0:=⟨_,_,underlying30,rfl,rfl,by as_aux_lemma=>kernel_rfl⟩
theorem zkv:zco prog 30 1 1:=⟨_,_,underlying30,rfl,rfl,by as_aux_lemma=>kernel_rfl⟩
theorem zug:SizeOk prog 30 2:=by unfold SizeOk; as_aux_lemma=>kernel_rfl
theorem zvx:ZeroOk prog 30 [.string ByteArray.empty,.string ByteArray.empty]:=by unfold ZeroOk; as_aux_lemma=>kernel_rfl
theorem zwF:ElemOk prog 30 2:=ElemOk.mk' kr
theorem zid:zim prog 37 2:=⟨_,underlying37,rfl,by as_aux_lemma=>kernel_rfl⟩
theorem zlW:zco prog 37 0 0:=⟨_,_,underlying37,rfl,rfl,by as_aux_lemma=>kernel_rfl⟩
theorem zix:SizeOk prog 37 2:=by unfold SizeOk; as_aux_lemma=>kernel_rfl
theorem zlA:ZeroOk prog 37 [.int .i64 0,.int .i64 0]:=by unfold ZeroOk; as_aux_lemma=>kernel_rfl
theorem ze7:zim prog 47 4:=⟨_,underlying47,rfl,by as_aux_lemma=>kernel_rfl⟩
theorem zeo:zco prog 47 0 0:=⟨_,_,underlying47,rfl,rfl,by as_aux_lemma=>kernel_rfl⟩
theorem zgI:zco prog 47 1 1:=⟨_,_,underlying47,rfl,rfl,by as_aux_lemma=>kernel_rfl⟩
theorem zfN:zco prog 47 2 2:=⟨_,_,underlying47,rfl,rfl,by as_aux_lemma=>kernel_rfl⟩
theorem znz:zco prog 47 3 3:=⟨_,_,underlying47,rfl,rfl,by as_aux_lemma=>kernel_rfl⟩
theorem zgE:SizeOk prog 47 4:=by unfold SizeOk; as_aux_lemma=>kernel_rfl
theorem zje:ZeroOk prog 47 [.int .i64 0,.int .i64 0,.int .i32 0,.bool false]:=by unfold ZeroOk; as_aux_lemma=>kernel_rfl
theorem zic:zcc prog 55:=⟨_,underlying55,rfl⟩
theorem zmk:SizeOk prog 55 1:=by unfold SizeOk; as_aux_lemma=>kernel_rfl
theorem zvw:ZeroOk prog 55 [.slice none 0 0]:=by unfold ZeroOk; as_aux_lemma=>kernel_rfl
theorem zwE:ElemOk prog 55 1:=ElemOk.mk' kr
theorem zvH:zcc prog 56:=⟨_,underlying56,rfl⟩
theorem zvE:SizeOk prog 56 1:=by unfold SizeOk; as_aux_lemma=>kernel_rfl
theorem zoE:zcc prog 57:=⟨_,underlying57,rfl⟩
theorem zvD:SizeOk prog 57 1:=by unfold SizeOk; as_aux_lemma=>kernel_rfl
theorem zlL:zcc prog 58:=⟨_,underlying58,rfl⟩
theorem zvC:SizeOk prog 58 1:=by unfold SizeOk; as_aux_lemma=>kernel_rfl
theorem zhQ:zco prog 60 0 0:=⟨_,_,underlying60,rfl,rfl,by as_aux_lemma=>kernel_rfl⟩
theorem zpW:zco prog 60 1 1:=⟨_,_,underlying60,rfl,rfl,by as_aux_lemma=>kernel_rfl⟩
theorem zpV:zco prog 60 2 2:=⟨_,_,underlying60,rfl,rfl,by as_aux_lemma=>kernel_rfl⟩
theorem ziC:zco prog 60 3 3:=⟨_,_,underlying60,rfl,rfl,by as_aux_lemma=>kernel_rfl⟩
theorem zgH:zco prog 60 4 4:=⟨_,_,underlying60,rfl,rfl,by as_aux_lemma=>kernel_rfl⟩
theorem zsF:zcc prog 62:=⟨_,underlying62,rfl⟩
theorem zvB:SizeOk prog 62 1:=by unfold SizeOk; as_aux_lemma=>kernel_rfl
theorem zvv:ZeroOk prog 62 [.slice none 0 0]:=by unfold ZeroOk; as_aux_lemma=>kernel_rfl
theorem zwD:ElemOk prog 62 1:=ElemOk.mk' kr
theorem zpl:zim prog 64 2:=⟨_,underlying64,rfl,by as_aux_lemma=>kernel_rfl⟩
theorem zpU:zco prog 64 0 0:=⟨_,_,underlying64,rfl,rfl,by as_aux_lemma=>kernel_rfl⟩
theorem zeB:zco prog 64 1 1:=⟨_,_,underlying64,rfl,rfl,by as_aux_lemma=>kernel_rfl⟩
theorem zvA:SizeOk prog 64 2:=by unfold SizeOk; as_aux_lemma=>kernel_rfl
theorem zvu:ZeroOk prog 64 [.int .i64 0,.int .i64 0]:=by unfold ZeroOk; as_aux_lemma=>kernel_rfl
theorem zwC:ElemOk prog 64 2:=ElemOk.mk' kr
theorem zlK:zcc prog 68:=⟨_,underlying68,rfl⟩
theorem zuf:SizeOk prog 68 1:=by unfold SizeOk; as_aux_lemma=>kernel_rfl
theorem zvt:ZeroOk prog 68 [.slice none 0 0]:=by unfold ZeroOk; as_aux_lemma=>kernel_rfl
theorem zqO:zim prog 70 2:=⟨_,underlying70,rfl,by as_aux_lemma=>kernel_rfl⟩
theorem zlV:zco prog 70 0 0:=⟨_,_,underlying70,rfl,rfl,by as_aux_lemma=>kernel_rfl⟩
theorem zku:zco prog 70 1 1:=⟨_,_,underlying70,rfl,rfl,by as_aux_lemma=>kernel_rfl⟩
theorem znh:SizeOk prog 70 2:=by unfold SizeOk; as_aux_lemma=>kernel_rfl
theorem zvs:ZeroOk prog 70 [.slice none 0 0,.slice none 0 0]:=by unfold ZeroOk; as_aux_lemma=>kernel_rfl
theorem ztw:ElemOk prog 70 2:=ElemOk.mk' kr
theorem zvG:zcc prog 76:=⟨_,underlying76,rfl⟩
theorem zlU:zco prog 85 0 0:=⟨_,_,underlying85,rfl,rfl,by as_aux_lemma=>kernel_rfl⟩
theorem zsw:SizeOk prog 85 1:=by unfold SizeOk; as_aux_lemma=>kernel_rfl
theorem zso:ZeroOk prog 85 [.int .i64 0]:=by unfold ZeroOk; as_aux_lemma=>kernel_rfl
theorem zvF:zcc prog 90:=⟨_,underlying90,rfl⟩
theorem zqN:zim prog 95 3:=⟨_,underlying95,rfl,by as_aux_lemma=>kernel_rfl⟩
theorem zgG:zco prog 95 0 0:=⟨_,_,underlying95,rfl,rfl,by as_aux_lemma=>kernel_rfl⟩
theorem zpT:zco prog 95 1 1:=⟨_,_,underlying95,rfl,rfl,by as_aux_lemma=>kernel_rfl⟩
theorem zue:SizeOk prog 95 3:=by unfold SizeOk; as_aux_lemma=>kernel_rfl
theorem zvr:ZeroOk prog 95 [.int .i64 0,.int .i64 0,.int .i64 0]:=by unfold ZeroOk; as_aux_lemma=>kernel_rfl
theorem znj:zcc prog 97:=⟨_,underlying97,rfl⟩
theorem zud:SizeOk prog 97 1:=by unfold SizeOk; as_aux_lemma=>kernel_rfl
theorem zvq:ZeroOk prog 97 [.slice none 0 0]:=by unfold ZeroOk; as_aux_lemma=>kernel_rfl
theorem zrS:zcc prog 100:=⟨_,underlying100,rfl⟩
theorem zuk:SizeOk prog 100 1:=by unfold SizeOk; as_aux_lemma=>kernel_rfl
theorem zt9:ZeroOk prog 100 [.slice none 0 0]:=by unfold ZeroOk; as_aux_lemma=>kernel_rfl
theorem zhi:zcc prog 102:=⟨_,underlying102,rfl⟩
theorem zuj:SizeOk prog 102 1:=by unfold SizeOk; as_aux_lemma=>kernel_rfl
theorem zt8:ZeroOk prog 102 [.int .i64 0]:=by unfold ZeroOk; as_aux_lemma=>kernel_rfl
theorem zrR:zcc prog 110:=⟨_,underlying110,rfl⟩
theorem zfs:zcc prog 112:=⟨_,underlying112,rfl⟩
theorem zn2:SizeOk prog 112 1:=by unfold SizeOk; as_aux_lemma=>kernel_rfl
theorem zrI:ZeroOk prog 112 [.int .u64 0]:=by unfold ZeroOk; as_aux_lemma=>kernel_rfl
theorem zrd:zco prog 115 0 0:=⟨_,_,underlying115,rfl,rfl,by as_aux_lemma=>kernel_rfl⟩
theorem zi4:zco prog 115 1 1:=⟨_,_,underlying115,rfl,rfl,by as_aux_lemma=>kernel_rfl⟩
theorem zeq:zco prog 115 2 2:=⟨_,_,underlying115,rfl,rfl,by as_aux_lemma=>kernel_rfl⟩
theorem zj1:zco prog 115 3 3:=⟨_,_,underlying115,rfl,rfl,by as_aux_lemma=>kernel_rfl⟩
theorem zn5:zim prog 121 3:=⟨_,underlying121,rfl,by as_aux_lemma=>kernel_rfl⟩
theorem zj0:zco prog 121 0 0:=⟨_,_,underlying121,rfl,rfl,by as_aux_lemma=>kernel_rfl⟩
theorem zjZ:zco prog 121 1 1:=⟨_,_,underlying121,rfl,rfl,by as_aux_lemma=>kernel_rfl⟩
theorem zrc:zco prog 121 2 2:=⟨_,_,underlying121,rfl,rfl,by as_aux_lemma=>kernel_rfl⟩
theorem zmm:SizeOk prog 121 3:=by unfold SizeOk; as_aux_lemma=>kernel_rfl
theorem zmf:ZeroOk prog 121 [.nilIface,.nilIface,.int .u64 0]:=by unfold ZeroOk; as_aux_lemma=>kernel_rfl
theorem zrQ:zcc prog 126:=⟨_,underlying126,rfl⟩
theorem zeu:zim prog 128 5:=⟨_,underlying128,rfl,by as_aux_lemma=>kernel_rfl⟩
theorem zjY:zco prog 128 0 0:=⟨_,_,underlying128,rfl,rfl,by as_aux_lemma=>kernel_rfl⟩
theorem zgy:zco prog 128 1 1:=⟨_,_,underlying128,rfl,rfl,by as_aux_lemma=>kernel_rfl⟩
theorem zep:zco prog 128 2 2:=⟨_,_,underlying128,rfl,rfl,by as_aux_lemma=>kernel_rfl⟩
theorem zh3:zco prog 128 3 4:=⟨_,_,underlying128,rfl,rfl,by as_aux_lemma=>kernel_rfl⟩
theorem zhE:SizeOk prog 128 5:=by unfold SizeOk; as_aux_lemma=>kernel_rfl
theorem zrH:ZeroOk prog 128 [.int .i64 0,.int .i32 0,.int .i64 0,.int .i64 0,.bool false]:=by unfold ZeroOk; as_aux_lemma=>kernel_rfl
theorem zb5:zco prog 130 0 0:=⟨_,_,underlying130,rfl,rfl,by as_aux_lemma=>kernel_rfl⟩
theorem zeE:zco prog 130 1 1:=⟨_,_,underlying130,rfl,rfl,by as_aux_lemma=>kernel_rfl⟩
theorem zgx:zco prog 130 2 4:=⟨_,_,underlying130,rfl,rfl,by as_aux_lemma=>kernel_rfl⟩
theorem zt7:ZeroOk prog 130 [.int .i64 0,.int .i64 0,.int .i64 0,.int .i64 0,.int .i64 0,.int .i32 0,.int .i64 0,.int .i64 0,.bool false]:=by unfold ZeroOk; as_aux_lemma=>kernel_rfl
theorem zrP:zcc prog 138:=⟨_,underlying138,rfl⟩
theorem zrO:SizeOk prog 138 1:=by unfold SizeOk; as_aux_lemma=>kernel_rfl
theorem zlj:zim prog 140 5:=⟨_,underlying140,rfl,by as_aux_lemma=>kernel_rfl⟩
theorem zrb:zco prog 140 1 1:=⟨_,_,underlying140,rfl,rfl,by as_aux_lemma=>kernel_rfl⟩
theorem zh2:zco prog 140 2 2:=⟨_,_,underlying140,rfl,rfl,by as_aux_lemma=>kernel_rfl⟩
theorem zok:zco prog 140 3 3:=⟨_,_,underlying140,rfl,rfl,by as_aux_lemma=>kernel_rfl⟩
theorem zoj:zco prog 140 4 4:=⟨_,_,underlying140,rfl,rfl,by as_aux_lemma=>kernel_rfl⟩
theorem zml:SizeOk prog 140 5:=by unfold SizeOk; as_aux_lemma=>kernel_rfl
theorem zrG:ZeroOk prog 140 [.int .i64 0,.int .u8 0,.int .i32 0,.slice none 0 0,.slice none 0 0]:=by unfold ZeroOk; as_aux_lemma=>kernel_rfl
theorem zr9:ElemOk prog 140 5:=ElemOk.mk' kr
theorem zpk:zcc prog 141:=⟨_,underlying141,rfl⟩
theorem zui:SizeOk prog 141 1:=by unfold SizeOk; as_aux_lemma=>kernel_rfl
theorem zt6:ZeroOk prog 141 [.map none]:=by unfold ZeroOk; as_aux_lemma=>kernel_rfl
theorem zn4:zcc prog 142:=⟨_,underlying142,rfl⟩
theorem zrN:SizeOk prog 142 1:=by unfold SizeOk; as_aux_lemma=>kernel_rfl
theorem zrF:ZeroOk prog 142 [.map none]:=by unfold ZeroOk; as_aux_lemma=>kernel_rfl
theorem zio:zim prog 153 3:=⟨_,underlying153,rfl,by as_aux_lemma=>kernel_rfl⟩
theorem zlX:zco prog 153 0 0:=⟨_,_,underlying153,rfl,rfl,by as_aux_lemma=>kernel_rfl⟩
theorem zjX:zco prog 153 1 2:=⟨_,_,underlying153,rfl,rfl,by as_aux_lemma=>kernel_rfl⟩
theorem zrM:SizeOk prog 153 3:=by unfold SizeOk; as_aux_lemma=>kernel_rfl
theorem zrE:ZeroOk prog 153 [.int .i64 0,.int .i64 0,.int .i64 0]:=by unfold ZeroOk; as_aux_lemma=>kernel_rfl
theorem zuZ:ElemOk prog 153 3:=ElemOk.mk' kr
theorem zn3:zcc prog 154:=⟨_,underlying154,rfl⟩
theorem zuh:SizeOk prog 154 1:=by unfold SizeOk; as_aux_lemma=>kernel_rfl
theorem zt5:ZeroOk prog 154 [.slice none 0 0]:=by unfold ZeroOk; as_aux_lemma=>kernel_rfl
theorem zup:zim prog 156 2:=⟨_,underlying156,rfl,by as_aux_lemma=>kernel_rfl⟩
theorem zra:zco prog 156 1 1:=⟨_,_,underlying156,rfl,rfl,by as_aux_lemma=>kernel_rfl⟩
theorem zrL:SizeOk prog 156 2:=by unfold SizeOk; as_aux_lemma=>kernel_rfl
theorem zt4:ZeroOk prog 156 [.string ByteArray.empty,.nilIface]:=by unfold ZeroOk; as_aux_lemma=>kernel_rfl
theorem zuY:ElemOk prog 156 2:=ElemOk.mk' kr
theorem zpj:zcc prog 167:=⟨_,underlying167,rfl⟩
theorem zms:zim prog 172 2:=⟨_,underlying172,rfl,by as_aux_lemma=>kernel_rfl⟩
theorem zrK:SizeOk prog 172 2:=by unfold SizeOk; as_aux_lemma=>kernel_rfl
theorem zo8:ZeroOk prog 172 [.int .i32 0,.int .i32 0]:=by unfold ZeroOk; as_aux_lemma=>kernel_rfl
theorem ziS:zcc prog 176:=⟨_,underlying176,rfl⟩
abbrev zEN (n:Nat):Prop:=∀ args w,(callFunc n args).run prog w=.ok (.enter n args) w
theorem zw5:zEN 4:=enters_of func4 kr rfl
theorem zw4:zEN 5:=enters_of func5 kr rfl
theorem zw3:zEN 6:=enters_of func6 kr rfl
theorem zw2:zEN 7:=enters_of func7 kr rfl
theorem zw1:zEN 8:=enters_of func8 kr rfl
theorem zvW:zEN 9:=enters_of func9 kr rfl
theorem zwB:zEN 10:=enters_of func10 kr rfl
theorem ztv:zEN 11:=enters_of func11 kr rfl
theorem zwA:zEN 12:=enters_of func12 kr rfl
theorem zwz:zEN 13:=enters_of func13 kr rfl
theorem zuV:zEN 14:=enters_of func14 kr rfl
theorem ztu:zEN 15:=enters_of func15 kr rfl
theorem zwy:zEN 16:=enters_of func16 kr rfl
theorem zuU:zEN 17:=enters_of func17 kr rfl
theorem zwx:zEN 18:=enters_of func18 kr rfl
theorem zww:zEN 19:=enters_of func19 kr rfl
theorem zwv:zEN 20:=enters_of func20 kr rfl
theorem zuT:zEN 21:=enters_of func21 kr rfl
theorem zrm:zEN 22:=enters_of func22 kr rfl
theorem zwu:zEN 23:=enters_of func23 kr rfl
theorem zuS:zEN 24:=enters_of func24 kr rfl
theorem zuR:zEN 25:=enters_of func25 kr rfl
theorem zuQ:zEN 26:=enters_of func26 kr rfl
theorem zuP:zEN 27:=enters_of func27 kr rfl
theorem zrl:zEN 28:=enters_of func28 kr rfl
theorem zp4:zEN 29:=enters_of func29 kr rfl
theorem ztt:zEN 30:=enters_of func30 kr rfl
theorem zuO:zEN 31:=enters_of func31 kr rfl
theorem zwt:zEN 32:=enters_of func32 kr rfl
theorem zws:zEN 33:=enters_of func33 kr rfl
theorem zwr:zEN 34:=enters_of func34 kr rfl
theorem zwq:zEN 35:=enters_of func35 kr rfl
theorem zwp:zEN 36:=enters_of func36 kr rfl
theorem zlZ:zEN 37:=enters_of func37 kr rfl
theorem zts:zEN 38:=enters_of func38 kr rfl
theorem znE:zEN 39:=enters_of func39 kr rfl
theorem zuN:zEN 40:=enters_of func40 kr rfl
theorem znD:zEN 41:=enters_of func41 kr rfl
theorem zwo:zEN 42:=enters_of func42 kr rfl
theorem zuM:zEN 43:=enters_of func43 kr rfl
theorem ztr:zEN 44:=enters_of func44 kr rfl
theorem ztq:zEN 45:=enters_of func45 kr rfl
theorem zuL:zEN 46:=enters_of func46 kr rfl
theorem zwn:zEN 47:=enters_of func47 kr rfl
theorem ztp:zEN 48:=enters_of func48 kr rfl
theorem zto:zEN 49:=enters_of func49 kr rfl
theorem zp3:zEN 50:=enters_of func50 kr rfl
theorem zp2:zEN 51:=enters_of func51 kr rfl
theorem zwm:zEN 52:=enters_of func52 kr rfl
theorem zwl:zEN 53:=enters_of func53 kr rfl
theorem ztn:zEN 54:=enters_of func54 kr rfl
theorem zuK:zEN 55:=enters_of func55 kr rfl
theorem zwk:zEN 56:=enters_of func56 kr rfl
theorem zwj:zEN 57:=enters_of func57 kr rfl
theorem ztm:zEN 58:=enters_of func58 kr rfl
theorem ztl:zEN 59:=enters_of func59 kr rfl
theorem zuJ:zEN 60:=enters_of func60 kr rfl
theorem zuI:zEN 61:=enters_of func61 kr rfl
theorem zwi:zEN 62:=enters_of func62 kr rfl
theorem zwh:zEN 63:=enters_of func63 kr rfl
theorem ztk:zEN 64:=enters_of func64 kr rfl
theorem zwg:zEN 65:=enters_of func65 kr rfl
theorem zwf:zEN 66:=enters_of func66 kr rfl
theorem zwe:zEN 67:=enters_of func67 kr rfl
theorem ztj:zEN 69:=enters_of func69 kr rfl
theorem zwd:zEN 71:=enters_of func71 kr rfl
theorem zwc:zEN 72:=enters_of func72 kr rfl
theorem zwb:zEN 73:=enters_of func73 kr rfl
theorem zwa:zEN 76:=enters_of func76 kr rfl
theorem zuH:zEN 77:=enters_of func77 kr rfl
theorem zuG:zEN 78:=enters_of func78 kr rfl
theorem zrk:zEN 79:=enters_of func79 kr rfl
theorem zvZ:zEN 80:=enters_of func80 kr rfl
theorem zvY:zEN 83:=enters_of func83 kr rfl
theorem zvX:zEN 85:=enters_of func85 kr rfl
theorem zuF:zEN 86:=enters_of func86 kr rfl
theorem zti:zEN 87:=enters_of func87 kr rfl
theorem zvV:zEN 91:=enters_of func91 kr rfl
theorem zvU:zEN 94:=enters_of func94 kr rfl
theorem zuX:zEN 128:=enters_of func128 kr rfl
theorem zuW:zEN 129:=enters_of func129 kr rfl
theorem mixed:prog.follows .mixedOrders=true:=by as_aux_lemma=>kernel_rfl
end
section
variable {F:Fence} {P:Program} {w0:World} {K:Nat→Prop} {N:Nat} {dfs:List Deferred} {ops:Array Oper} {Q:Exit→Act→World→Prop} {rest:List Oper} {σ:List (Nat×Value)} {L:List Asn} {v:Value} {ty:TypeId} {pos:String} {aft:Array Edge} {g:Option (Nat×Bool)} {d:Nat} {x y:Operand} {t:TypeId}
theorem zfE [WideF F] {v1:Value} (hg:gd ops σ g=some true) (hd:d<N) (hx:ev σ x=some v1)
  (hb:∀ w:World,(Instr.makeInterface t v1).run P w=.ok v w) (h:TO F P w0 K N dfs ops Q rest ((d,v)::σ) L) :
  TO F P w0 K N dfs ops Q (⟨some d,.makeInterface t x,ty,pos,aft,g⟩::rest) σ L :=
 zdF hg hd (by simp) (fun a w ha hw=>by simp only [execOp,ha.ev hx,Sem.run_bind,hb w]; rfl) h
theorem zfQ [WideF F] {u:TypeId} {c:Bool} {v1:Value} (hg:gd ops σ g=some true) (hd:d<N) (hx:ev σ x=some v1)
  (hb:∀ w:World,(Instr.typeAssert v1 t u c).run P w=.ok v w) (h:TO F P w0 K N dfs ops Q rest ((d,v)::σ) L) :
  TO F P w0 K N dfs ops Q (⟨some d,.typeAssert x t u c,ty,pos,aft,g⟩::rest) σ L :=
 zdF hg hd (by simp) (fun a w ha hw=>by simp only [execOp,ha.ev hx,Sem.run_bind,hb w]; rfl) h
end
section
variable {P:Program} {t u k:TypeId} {v z:Value} {w:World}
theorem zoa {fs:Array Field} (hu:P.underlying t=some (.struct fs)):(Instr.makeInterface t v).run P w=.ok (.iface t v) w:=by
 simp only [Instr.makeInterface,Sem.run_bind,run_underlying hu,Result.andThen_ok]; rfl
theorem zpc {fs:Array Field} (hu:P.underlying u=some (.struct fs)):(Instr.typeAssert (.iface u v) t u true).run P w=.ok (.tuple #[v,.bool true]) w:=by
 simp only [Instr.typeAssert,Sem.run_bind,run_underlying hu,Result.andThen_ok,if_true]; rfl
theorem zn0 {fs:Array Field} (hu:P.underlying u=some (.struct fs)) (hk:k≠u) (hz:∀ w,(zeroValue u).run P w=.ok z w):(Instr.typeAssert (.iface k v) t u true).run P w=.ok (.tuple #[z,.bool false]) w:=by
 simp only [Instr.typeAssert,Sem.run_bind,run_underlying hu,Result.andThen_ok,if_neg hk,if_true,hz]; rfl
theorem zpb {fs:Array Field} (hu:P.underlying u=some (.struct fs)) (hz:∀ w,(zeroValue u).run P w=.ok z w):(Instr.typeAssert .nilIface t u true).run P w=.ok (.tuple #[z,.bool false]) w:=by
 simp only [Instr.typeAssert,Sem.run_bind,run_underlying hu,Result.andThen_ok,if_true,hz]; rfl
theorem zmY {x:Operand} {ms:Array (String×TypeId)} (hu:P.underlying t=some (.interface ms)):(do eqGuard .eql t x (.const .nilIface) .nilIface .nilIface; binOp .eql t .nilIface .nilIface:Sem Value).run P w=.ok (.bool true) w:=by
 have h:∀ d,(Op.equalIn (d+1) t .nilIface .nilIface).run P w=.ok true w:=fun d=>by simp [Op.equalIn,run_underlying hu]
 have h':(Op.equalIn Op.maxDepth t .nilIface .nilIface).run P w=.ok true w:=h 9999
 simp [eqGuard,binOp,Op.equal,h']
theorem zit {x:Operand} {ms:Array (String×TypeId)} (hu:P.underlying t=some (.interface ms)):(do eqGuard .eql t x (.const .nilIface) (.iface k v) .nilIface; binOp .eql t (.iface k v) .nilIface:Sem Value).run P w=.ok (.bool false) w:=by
 have h:∀ d,(Op.equalIn (d+1) t (.iface k v) .nilIface).run P w=.ok false w:=fun d=>by simp [Op.equalIn,run_underlying hu]
 have h':(Op.equalIn Op.maxDepth t (.iface k v) .nilIface).run P w=.ok false w:=h 9999
 simp [eqGuard,binOp,Op.equal,h']
theorem zmX {x:Operand} {ms:Array (String×TypeId)} (hu:P.underlying t=some (.interface ms)):(do eqGuard .neq t x (.const .nilIface) .nilIface .nilIface; binOp .neq t .nilIface .nilIface:Sem Value).run P w=.ok (.bool false) w:=by
 have h:∀ d,(Op.equalIn (d+1) t .nilIface .nilIface).run P w=.ok true w:=fun d=>by simp [Op.equalIn,run_underlying hu]
 have h':(Op.equalIn Op.maxDepth t .nilIface .nilIface).run P w=.ok true w:=h 9999
 simp [eqGuard,binOp,Op.equal,h']
theorem zis {x:Operand} {ms:Array (String×TypeId)} (hu:P.underlying t=some (.interface ms)):(do eqGuard .neq t x (.const .nilIface) (.iface k v) .nilIface; binOp .neq t (.iface k v) .nilIface:Sem Value).run P w=.ok (.bool true) w:=by
 have h:∀ d,(Op.equalIn (d+1) t (.iface k v) .nilIface).run P w=.ok false w:=fun d=>by simp [Op.equalIn,run_underlying hu]
 have h':(Op.equalIn Op.maxDepth t (.iface k v) .nilIface).run P w=.ok false w:=h 9999
 simp [eqGuard,binOp,Op.equal,h']
end
def IvP (P:Program) (m:String) (x v:Value):Prop:=∃ f rcv,(∀ w,(callMethod x m #[]).run P w=(callFunc f #[rcv]).run P w)∧(∀ args w,(callFunc f args).run P w=.ok (.enter f args) w)∧FnP P f [rcv] v
section
variable {F:Fence} {P:Program} {w0:World} {K:Nat→Prop} {N:Nat} {dfs:List Deferred} {ops:Array Oper} {Q:Exit→Act→World→Prop} {rest:List Oper} {σ:List (Nat×Value)} {L:List Asn} {v:Value} {ty:TypeId} {pos:String} {aft:Array Edge} {g:Option (Nat×Bool)} {d:Nat}
theorem zgV [WideF F] {recv:Operand} {m:String} {x:Value} {ats:Array TypeId} (hg:gd ops σ g=some true) (hd:d<N) (hx:ev σ recv=some x) (hF:IvP P m x v) (h:TO F P w0 K N dfs ops Q rest ((d,v)::σ) L) :
  TO F P w0 K N dfs ops Q (⟨some d,.call { callee:=.invoke recv m,args:=#[],argTypes:=ats },ty,pos,aft,g⟩::rest) σ L:=by
 obtain ⟨f,rcv,hm,hent,hF⟩:=hF
 intro a w ha hw
 simp only [wpListIn,zgl (o:=⟨some d,.call { callee:=.invoke recv m,args:=#[],argTypes:=ats },ty,pos,aft,g⟩) ha hg,if_true]
 refine ⟨fun f _=>WideF.fn f,?_⟩
 have h1:(execOp a.eval ⟨some d,.call { callee:=.invoke recv m,args:=#[],argTypes:=ats },ty,pos,aft,g⟩).run P w=.ok (.enter f [rcv].toArray) w:=by
  have e:(#[x]++(#[]:Array Operand).map a.eval:Array Value)=#[x]:=by simp
  simp only [execOp,resolve,ha.ev hx,Sem.run_bind,Sem.run_pure,Result.andThen_ok,invoke,e]
  have e2:(#[x]:Array Value)[0]?=some x:=rfl
  have e3:(#[x]:Array Value).extract 1 (#[x]:Array Value).size=#[]:=rfl
  simp only [e2,e3,hm,hent]
 rw [Oper.semAt_plain F _ _ (by simp),h1]
 refine ⟨(fun h=>by rw [WideF.depth (F:=F)] at h; cases h),?_⟩
 refine WideF.calls ((hF w).mono ?_)
 rintro e w' ⟨rfl,hb⟩
 obtain ⟨C1,hx0,hA,hstep⟩:=hw.splitX Splits.nil
 have:=hstep [] C1 w' (ziK hb) hA
 exact h _ _ (ha.put hd _) (by simpa using this)
end
def ziI (k:IntKind) (a b:Int):Int:=k.wrap ((BitVec.ofInt k.bits a &&& ~~~BitVec.ofInt k.bits b).toNat:Int)
theorem zo0 {P:Program} {t:TypeId} {x y:Operand} {k:IntKind} {m n:Int} (w:World):(do eqGuard .andNot t x y (.int k m) (.int k n); binOp .andNot t (.int k m) (.int k n):Sem Value).run P w=.ok (.int k (ziI k m n)) w:=by
 simp [eqGuard,binOp,Op.intBits,Sem.run_bind,ziI]
inductive Iwitness_tree where
 | nil
 | leaf (witness:Int)
 | joint (left:Iwitness_tree) (right:Iwitness_tree) (all:Int)
 deriving DecidableEq
def zab:Iwitness_tree→Value
 | .nil=>.nilIface
 | .leaf a0=>.iface 85 (.agg #[.int .i64 a0])
 | .joint a0 a1 a2=>.iface 121 (.agg #[zab a0,zab a1,.int .u64 a2])
theorem zbX (x:Iwitness_tree):(zab x).oneCell'=true:=by cases x <;> rfl
def Iwitness_tree.isnil:Iwitness_tree→Bool
 | .nil=>true
 | _=>false
@[ext] structure zbp where
 Name:zBA
 Text:zBA
def enc_Gapi_Witness (x:zbp):List Value:=[.string x.Name,.string x.Text]
theorem enc_Gapi_Witness_len (x:zbp):(enc_Gapi_Witness x).length=2:=rfl
theorem zij (x:zbp):∀ u∈enc_Gapi_Witness x,u.oneCell'=true:=by
 intro u hu
 simp only [enc_Gapi_Witness,List.mem_cons,List.not_mem_nil,or_false] at hu
 rcases hu with rfl | rfl <;> rfl
def zhS (a b:zbp):Bool:=decide (a.Name=b.Name)&&decide (a.Text=b.Text)
theorem ziD (a b:zbp):zhS a b=true↔a=b:=by
 rcases a with ⟨a0,a1⟩
 rcases b with ⟨b0,b1⟩
 simp [zhS,Bool.and_eq_true,and_assoc]
instance:DecidableEq zbp:=fun a b=>decidable_of_iff _ (ziD a b)
@[ext] structure zbY where
 Err:Int
 At:Int
def zdS (a b:zbY):Bool:=(a.Err==b.Err)&&(a.At==b.At)
theorem zf7 (a b:zbY):zdS a b=true↔a=b:=by
 rcases a with ⟨a0,a1⟩
 rcases b with ⟨b0,b1⟩
 simp [zdS,Bool.and_eq_true,and_assoc]
instance:DecidableEq zbY:=fun a b=>decidable_of_iff _ (zf7 a b)
@[ext] structure zaY where
 At:Int
 Width:Int
 Rune:Int
 Broken:Bool
def ze0 (a b:zaY):Bool:=(a.At==b.At)&&(a.Width==b.Width)&&(a.Rune==b.Rune)&&(a.Broken==b.Broken)
theorem zjr (a b:zaY):ze0 a b=true↔a=b:=by
 rcases a with ⟨a0,a1,a2,a3⟩
 rcases b with ⟨b0,b1,b2,b3⟩
 simp [ze0,Bool.and_eq_true,and_assoc]
instance:DecidableEq zaY:=fun a b=>decidable_of_iff _ (zjr a b)
@[ext] structure za0 where
 From:Int
 To:Int
def ze1 (x:za0):List Value:=[.int .i64 x.From,.int .i64 x.To]
theorem zjt (x:za0):(ze1 x).length=2:=rfl
theorem zjs (x:za0):∀ u∈ze1 x,u.oneCell'=true:=by
 intro u hu
 simp only [ze1,List.mem_cons,List.not_mem_nil,or_false] at hu
 rcases hu with rfl | rfl <;> rfl
def zjJ (a b:za0):Bool:=(a.From==b.From)&&(a.To==b.To)
theorem zjQ (a b:za0):zjJ a b=true↔a=b:=by
 rcases a with ⟨a0,a1⟩
 rcases b with ⟨b0,b1⟩
 simp [zjJ,Bool.and_eq_true,and_assoc]
instance:DecidableEq za0:=fun a b=>decidable_of_iff _ (zjQ a b)
@[ext] structure zd6 where
 witness:Int
def zhm (a b:zd6):Bool:=(a.witness==b.witness)
theorem zii (a b:zd6):zhm a b=true↔a=b:=by
 rcases a with ⟨a0⟩
 rcases b with ⟨b0⟩
 simp [zhm,Bool.and_eq_true,and_assoc]
instance:DecidableEq zd6:=fun a b=>decidable_of_iff _ (zii a b)
@[ext] structure zjD where
 Kind:Int
 Span_From:Int
 Span_To:Int
def zi7 (a b:zjD):Bool:=(a.Kind==b.Kind)&&(a.Span_From==b.Span_From)&&(a.Span_To==b.Span_To)
theorem zjq (a b:zjD):zi7 a b=true↔a=b:=by
 rcases a with ⟨a0,a1,a2⟩
 rcases b with ⟨b0,b1,b2⟩
 simp [zi7,Bool.and_eq_true,and_assoc]
instance:DecidableEq zjD:=fun a b=>decidable_of_iff _ (zjq a b)
@[ext] structure Gwitness_reader where
 text:zBA
 at_:Int
 seen:Int
@[ext] structure zdT where
 left:Iwitness_tree
 right:Iwitness_tree
 all:Int
def zgS (a b:zdT):Bool:=decide (a.left=b.left)&&decide (a.right=b.right)&&(a.all==b.all)
theorem zhR (a b:zdT):zgS a b=true↔a=b:=by
 rcases a with ⟨a0,a1,a2⟩
 rcases b with ⟨b0,b1,b2⟩
 simp [zgS,Bool.and_eq_true,and_assoc]
instance:DecidableEq zdT:=fun a b=>decidable_of_iff _ (zhR a b)
@[ext] structure zjC where
 kind:Int
 r:Int
 span_From:Int
 span_To:Int
 alone:Bool
def zi5 (a b:zjC):Bool:=(a.kind==b.kind)&&(a.r==b.r)&&(a.span_From==b.span_From)&&(a.span_To==b.span_To)&&(a.alone==b.alone)
theorem zjo (a b:zjC):zi5 a b=true↔a=b:=by
 rcases a with ⟨a0,a1,a2,a3,a4⟩
 rcases b with ⟨b0,b1,b2,b3,b4⟩
 simp [zi5,Bool.and_eq_true,and_assoc]
instance:DecidableEq zjC:=fun a b=>decidable_of_iff _ (zjo a b)
@[ext] structure zhe where
 state:Int
 t_Kind:Int
 t_Span_From:Int
 t_Span_To:Int
 held_kind:Int
 held_r:Int
 held_span_From:Int
 held_span_To:Int
 held_alone:Bool
def zhk (a b:zhe):Bool:=(a.state==b.state)&&(a.t_Kind==b.t_Kind)&&(a.t_Span_From==b.t_Span_From)&&(a.t_Span_To==b.t_Span_To)&&(a.held_kind==b.held_kind)&&(a.held_r==b.held_r)&&(a.held_span_From==b.held_span_From)&&(a.held_span_To==b.held_span_To)&&(a.held_alone==b.held_alone)
theorem zig (a b:zhe):zhk a b=true↔a=b:=by
 rcases a with ⟨a0,a1,a2,a3,a4,a5,a6,a7,a8⟩
 rcases b with ⟨b0,b1,b2,b3,b4,b5,b6,b7,b8⟩
 simp [zhk,Bool.and_eq_true,and_assoc]
instance:DecidableEq zhe:=fun a b=>decidable_of_iff _ (zig a b)
@[ext] structure zaO where
 Span_From:Int
 Span_To:Int
 Columns:Int
def zdR (x:zaO):List Value:=[.int .i64 x.Span_From,.int .i64 x.Span_To,.int .i64 x.Columns]
theorem zjv (x:zaO):(zdR x).length=3:=rfl
theorem zju (x:zaO):∀ u∈zdR x,u.oneCell'=true:=by
 intro u hu
 simp only [zdR,List.mem_cons,List.not_mem_nil,or_false] at hu
 rcases hu with rfl | rfl | rfl <;> rfl
def zjK (a b:zaO):Bool:=(a.Span_From==b.Span_From)&&(a.Span_To==b.Span_To)&&(a.Columns==b.Columns)
theorem zjR (a b:zaO):zjK a b=true↔a=b:=by
 rcases a with ⟨a0,a1,a2⟩
 rcases b with ⟨b0,b1,b2⟩
 simp [zjK,Bool.and_eq_true,and_assoc]
instance:DecidableEq zaO:=fun a b=>decidable_of_iff _ (zjR a b)
@[ext] structure zaN where
 figures:zBA
 x:Iwitness_tree
def zbj (x:zaN):List Value:=[.string x.figures,zab x.x]
theorem zf0 (x:zaN):(zbj x).length=2:=rfl
theorem zfZ (x:zaN):∀ u∈zbj x,u.oneCell'=true:=by
 intro u hu
 simp only [zbj,List.mem_cons,List.not_mem_nil,or_false] at hu
 rcases hu with rfl | rfl <;> first | rfl | exact zbX _
def zhl (a b:zaN):Bool:=decide (a.figures=b.figures)&&decide (a.x=b.x)
theorem zih (a b:zaN):zhl a b=true↔a=b:=by
 rcases a with ⟨a0,a1⟩
 rcases b with ⟨b0,b1⟩
 simp [zhl,Bool.and_eq_true,and_assoc]
instance:DecidableEq zaN:=fun a b=>decidable_of_iff _ (zih a b)
@[ext] structure zkE where
 e0:Int
 e1:Int
def zjI (a b:zkE):Bool:=(a.e0==b.e0)&&(a.e1==b.e1)
theorem zjP (a b:zkE):zjI a b=true↔a=b:=by
 rcases a with ⟨a0,a1⟩
 rcases b with ⟨b0,b1⟩
 simp [zjI,Bool.and_eq_true,and_assoc]
instance:DecidableEq zkE:=fun a b=>decidable_of_iff _ (zjP a b)
@[ext] structure zaz where
 e0:Int
 e1:Int
def zi6 (a b:zaz):Bool:=(a.e0==b.e0)&&(a.e1==b.e1)
theorem zjp (a b:zaz):zi6 a b=true↔a=b:=by
 rcases a with ⟨a0,a1⟩
 rcases b with ⟨b0,b1⟩
 simp [zi6,Bool.and_eq_true,and_assoc]
instance:DecidableEq zaz:=fun a b=>decidable_of_iff _ (zjp a b)
@[ext] structure ztZ where
 e0:Int
 e1:Int
 e2:Int
 e3:Int
 e4:Int
 e5:Int
 e6:Int
 e7:Int
 e8:Int
 e9:Int
 e10:Int
 e11:Int
 e12:Int
 e13:Int
 e14:Int
 e15:Int
 e16:Int
 e17:Int
 e18:Int
 e19:Int
 e20:Int
 e21:Int
 e22:Int
 e23:Int
 e24:Int
 e25:Int
 e26:Int
 e27:Int
 e28:Int
 e29:Int
 e30:Int
 e31:Int
theorem zls {x y:Operand} (a b:zbY) (w:World):(do eqGuard .neq 37 x y (.agg #[.int .i64 a.Err,.int .i64 a.At]) (.agg #[.int .i64 b.Err,.int .i64 b.At]); binOp .neq 37 (.agg #[.int .i64 a.Err,.int .i64 a.At]) (.agg #[.int .i64 b.Err,.int .i64 b.At]):Sem Value).run prog w=.ok (.bool (!zdS a b)) w :=
 zru kr (show ((a.Err==b.Err)&&((a.At==b.At)&&true))=zdS a b by simp [zdS,Bool.and_assoc]) (zp0 (dd:=9999) kr kr (zlo (ft:=25) (off:=0) (a:=.int .i64 a.Err) (b:=.int .i64 b.Err) kr (fun _=>by kernel_rfl) (fun _=>by kernel_rfl) (zkx underlying25) (zlo (ft:=3) (off:=1) (a:=.int .i64 a.At) (b:=.int .i64 b.At) kr (fun _=>by kernel_rfl) (fun _=>by kernel_rfl) (zkx underlying3) (zpZ (n:=2) kr)))) w
theorem zoZ {x y:Operand} (a b:zaY) (w:World):(do eqGuard .eql 47 x y (.agg #[.int .i64 a.At,.int .i64 a.Width,.int .i32 a.Rune,.bool a.Broken]) (.agg #[.int .i64 b.At,.int .i64 b.Width,.int .i32 b.Rune,.bool b.Broken]); binOp .eql 47 (.agg #[.int .i64 a.At,.int .i64 a.Width,.int .i32 a.Rune,.bool a.Broken]) (.agg #[.int .i64 b.At,.int .i64 b.Width,.int .i32 b.Rune,.bool b.Broken]):Sem Value).run prog w=.ok (.bool (ze0 a b)) w :=
 zrv kr (show ((a.At==b.At)&&((a.Width==b.Width)&&((a.Rune==b.Rune)&&((a.Broken==b.Broken)&&true))))=ze0 a b by simp [ze0,Bool.and_assoc]) (zp0 (dd:=9999) kr kr (zlo (ft:=3) (off:=0) (a:=.int .i64 a.At) (b:=.int .i64 b.At) kr (fun _=>by kernel_rfl) (fun _=>by kernel_rfl) (zkx underlying3) (zlo (ft:=3) (off:=1) (a:=.int .i64 a.Width) (b:=.int .i64 b.Width) kr (fun _=>by kernel_rfl) (fun _=>by kernel_rfl) (zkx underlying3) (zlo (ft:=21) (off:=2) (a:=.int .i32 a.Rune) (b:=.int .i32 b.Rune) kr (fun _=>by kernel_rfl) (fun _=>by kernel_rfl) (zkx underlying21) (zlo (ft:=4) (off:=3) (a:=.bool a.Broken) (b:=.bool b.Broken) kr (fun _=>by kernel_rfl) (fun _=>by kernel_rfl) (zrj underlying4) (zpZ (n:=4) kr)))))) w
def zaj (z:(List zBA)×Hd):List Value:=[z.2.v]
def zal (z:(List zBA)×Hd):List Asn:=[vec zgA 9 1 z.2.v z.1]
theorem ze2 (z:(List zBA)×Hd):(zaj z).length=1:=rfl
theorem zjw (z:(List zBA)×Hd):∀ u∈zaj z,u.oneCell'=true:=by
 intro u hu
 simp only [zaj,List.mem_cons,List.not_mem_nil,or_false] at hu
 rcases hu with rfl <;> rfl
def zam (z:(List za0)×Hd):List Value:=[z.2.v]
def zaf (z:(List za0)×Hd):List Asn:=[vec ze1 64 2 z.2.v z.1]
theorem ziF (z:(List za0)×Hd):(zam z).length=1:=rfl
theorem ziE (z:(List za0)×Hd):∀ u∈zam z,u.oneCell'=true:=by
 intro u hu
 simp only [zam,List.mem_cons,List.not_mem_nil,or_false] at hu
 rcases hu with rfl <;> rfl
structure zan where
 words:List Int
 readings:List Int
def zaq (z:zan×Hd×Hd):List Value:=[z.2.1.v,z.2.2.v]
def zak (z:zan×Hd×Hd):List Asn:=[vec (zfH (.i64)) 3 1 z.2.1.v z.1.words,vec (zfH (.i64)) 3 1 z.2.2.v z.1.readings]
theorem zbz (z:zan×Hd×Hd):(zaq z).length=2:=rfl
theorem zeg (z:zan×Hd×Hd):∀ u∈zaq z,u.oneCell'=true:=by
 intro u hu
 simp only [zaq,List.mem_cons,List.not_mem_nil,or_false] at hu
 rcases hu with rfl | rfl <;> rfl
structure zai where
 names:List zBA
 texts:List zBA
 spans:List (List za0)
 keys:List (List zBA)
 columns:List zan
def za8 (z:zai×Hd×Hd×Hd×Hd×Hd):List Value:=[z.2.1.v,z.2.2.1.v,z.2.2.2.1.v,z.2.2.2.2.1.v,z.2.2.2.2.2.v]
def za7 (z:zai×Hd×Hd×Hd×Hd×Hd):List Asn:=[vec zgA 9 1 z.2.1.v z.1.names,vec zgA 9 1 z.2.2.1.v z.1.texts,zba zam zaf 62 1 z.2.2.2.1.v z.1.spans,zba zaj zal 55 1 z.2.2.2.2.1.v z.1.keys,zba zaq zak 70 2 z.2.2.2.2.2.v z.1.columns]
structure zaC where
 at_:Int
 broken:Int
 base:Int
 low:List Int
 high:List Int
def zbo (z:zaC×Hd×Hd):List Value:=[.int .i64 z.1.at_,.int .u8 z.1.broken,.int .i32 z.1.base,z.2.1.v,z.2.2.v]
def za1 (z:zaC×Hd×Hd):List Asn:=[vec (zfH (.i32)) 21 1 z.2.1.v z.1.low,vec (zfH (.i32)) 21 1 z.2.2.v z.1.high]
theorem zbQ (z:zaC×Hd×Hd):(zbo z).length=5:=rfl
theorem zgn (z:zaC×Hd×Hd):∀ u∈zbo z,u.oneCell'=true:=by
 intro u hu
 simp only [zbo,List.mem_cons,List.not_mem_nil,or_false] at hu
 rcases hu with rfl | rfl | rfl | rfl | rfl <;> rfl
theorem zjO:zcc prog 72:=⟨_,underlying72,rfl⟩
theorem zsx:SizeOk prog 72 1:=by unfold SizeOk; as_aux_lemma=>kernel_rfl
theorem zt2:ZeroOk prog 72 [.nilIface]:=by unfold ZeroOk; as_aux_lemma=>kernel_rfl
def Iwitness_tree.is_leaf:Iwitness_tree→Bool
 | .leaf _=>true
 | _=>false
def Iwitness_tree.get_leaf:Iwitness_tree→zd6
 | .leaf a0=>⟨a0⟩
 | _=>⟨0⟩
theorem zdi (a0:Int) (w:World):(Instr.makeInterface 85 (.agg #[.int .i64 a0])).run prog w=.ok (zab (.leaf a0)) w:=zoa underlying85
theorem zez (x:Iwitness_tree) (w:World):(Instr.typeAssert (zab x) 72 85 true).run prog w=.ok (.tuple #[.agg #[.int .i64 ((x.get_leaf).witness)],.bool x.is_leaf]) w:=by
 have hz:∀ w,(zeroValue 85).run prog w=.ok (.agg #[.int .i64 0]) w:=fun w=>by kernel_rfl
 cases x with
 | nil=>exact zpb underlying85 hz
 | leaf=>exact zpc underlying85
 | joint=>exact zn0 underlying85 (by decide) hz
def Iwitness_tree.is_joint:Iwitness_tree→Bool
 | .joint _ _ _=>true
 | _=>false
def Iwitness_tree.get_joint:Iwitness_tree→zdT
 | .joint a0 a1 a2=>⟨a0,a1,a2⟩
 | _=>⟨Iwitness_tree.nil,Iwitness_tree.nil,0⟩
theorem zdq (a0:Iwitness_tree) (a1:Iwitness_tree) (a2:Int) (w:World):(Instr.makeInterface 121 (.agg #[zab a0,zab a1,.int .u64 a2])).run prog w=.ok (zab (.joint a0 a1 a2)) w:=zoa underlying121
theorem zdQ (x:Iwitness_tree) (w:World):(Instr.typeAssert (zab x) 72 121 true).run prog w=.ok (.tuple #[.agg #[zab (x.get_joint).left,zab (x.get_joint).right,.int .u64 ((x.get_joint).all)],.bool x.is_joint]) w:=by
 have hz:∀ w,(zeroValue 121).run prog w=.ok (.agg #[.nilIface,.nilIface,.int .u64 0]) w:=fun w=>by kernel_rfl
 cases x with
 | nil=>exact zpb underlying121 hz
 | leaf=>exact zn0 underlying121 (by decide) hz
 | joint=>exact zpc underlying121
theorem zqg (a0:Iwitness_tree) (a1:Iwitness_tree) (a2:Int) (w:World):(Instr.build 121 #[(0,zab a0),(1,zab a1),(2,.int .u64 a2)]).run prog w=.ok (.agg #[zab a0,zab a1,.int .u64 a2]) w:=by cases a0 <;> cases a1 <;> kernel_rfl
theorem zqf (a0:zBA) (a1:Iwitness_tree) (w:World):(Instr.build 156 #[(0,.string a0),(1,zab a1)]).run prog w=.ok (.agg #[.string a0,zab a1]) w:=by cases a1 <;> kernel_rfl
theorem zct {x:Operand} (a:Iwitness_tree) (w:World):(do eqGuard .eql 72 x (.const .nilIface) (zab a) .nilIface; binOp .eql 72 (zab a) .nilIface:Sem Value).run prog w=.ok (.bool (a.isnil)) w:=by
 cases a with
 | nil=>exact zmY underlying72
 | leaf=>exact zit underlying72
 | joint=>exact zit underlying72
theorem zhV {x:Operand} (a:Iwitness_tree) (w:World):(do eqGuard .neq 72 x (.const .nilIface) (zab a) .nilIface; binOp .neq 72 (zab a) .nilIface:Sem Value).run prog w=.ok (.bool (!a.isnil)) w:=by
 cases a with
 | nil=>exact zmX underlying72
 | leaf=>exact zis underlying72
 | joint=>exact zis underlying72
section
open Go.Shelf
attribute [local go_sem] Oper.semAt_some zo9 zla zlb
theorem ziV {a b:Bool} (h:a=b):Ending.returned (.bool a)=.returned (.bool b):=by rw [h]
theorem zkj {k:IntKind} {a b:Int} (h:a=b):Ending.returned (.int k a)=.returned (.int k b):=by rw [h]
end
def zpY (r:Int):Bool:=decide (r % 2=0)
def zkt (r:Int):Prop :=
 (65≤r∧r≤90)∨(0xC0≤r∧r≤0xDE∧r≠0xD7)∨(((0x100≤r∧r≤0x137)∨(0x14A≤r∧r≤0x177))∧r % 2=0)∨(0x139≤r∧r≤0x148∧r % 2=1)∨r=0x178 ∨
 (0x179≤r∧r≤0x17D∧r % 2=1)∨(0x386≤r∧r≤0x38F∧r≠0x387∧r≠0x38B∧r≠0x38D)∨(0x391≤r∧r≤0x3AB∧r≠0x3A2)∨(0x400≤r∧r≤0x42F)
instance (r:Int):Decidable (zkt r):=by unfold zkt; infer_instance
def zoQ (r:Int):Bool:=decide (zkt r)
def zlg (r:Int):Prop :=
 (97≤r∧r≤122)∨(0xDF≤r∧r≤0xFF∧r≠0xF7)∨(((0x100≤r∧r≤0x137)∨(0x14A≤r∧r≤0x177))∧r % 2=1)∨r=0x138∨r=0x149∨r=0x17F∨r=0x390 ∨
 (0x139≤r∧r≤0x148∧r % 2=0)∨(0x17A≤r∧r≤0x17E∧r % 2=0)∨(0x3AC≤r∧r≤0x3CE)∨(0x430≤r∧r≤0x45F)
instance (r:Int):Decidable (zlg r):=by unfold zlg; infer_instance
def zpg (r:Int):Bool:=decide (zlg r)
def zcT (r:Int):Bool:=zoQ r||zpg r
def zif (r:Int):Int :=
 if !zoQ r then r
 else if r=0x130 then 0x69 else if r=0x178 then 0xFF else if r=0x386 then 0x3AC else if r=0x38C then 0x3CC
 else if 0x388≤r∧r≤0x38A then r+0x25 else if r=0x38E∨r=0x38F then r+0x3F
 else if 0x400≤r∧r≤0x40F then r+0x50 else if r<0x100∨0x17F<r then r+0x20 else r+1
def zoP (r:Int):Int :=
 if r<0∨(0xD800≤r∧r≤0xDFFF)∨0x10FFFF<r then 0
 else if zcT r then 1
 else if 0x300≤r∧r≤0x36F then 2
 else if 48≤r∧r≤57 then 3
 else if r=10∨r=13 then 4
 else if r=9∨r=32∨r=0xA0∨r=0x202F∨r=0x205F∨r=0x3000 then 5
 else if r=45∨(0x2010≤r∧r≤0x2015) then 6
 else if r=34∨r=39∨r=0xAB∨r=0xBB∨r=0x2039∨r=0x203A then 7
 else if r=33∨r=44∨r=46∨r=58∨r=59∨r=63∨r=0xA1∨r=0xB7∨r=0xBF∨r=0x2026 then 8
 else if 0x2000≤r∧r≤0x200A then 5
 else if 0x2018≤r∧r≤0x201F then 7
 else if r<0x20∨(0x7F≤r∧r≤0x9F)∨(0x200B≤r∧r≤0x200F)∨r=0xFEFF then 9
 else 10
def kind (r:Int):Int:=zoP r
theorem zkr (r:Int):zoQ r=true↔zkt r:=by simp [zoQ]
theorem zmn (r:Int):zpg r=true↔zlg r:=by simp [zpg]
section
open Go.Shelf
theorem zw8 (r:Int) (h0 : -2147483648≤r) (h1:r≤2147483647):(bits BinOp.and IntKind.i32 r 1==0)=zpY r:=by
 have hk:bits .and .i32 r 1=r % 2:=by
  have h1:(BitVec.ofInt 32 1).toNat=2 ^ 1 - 1:=by decide
  have key:(BitVec.ofInt 32 r &&& BitVec.ofInt 32 1).toNat=(r % ((2 ^ 32:Nat):Int)).toNat % 2 ^ 1:=by
   rw [BitVec.toNat_and,BitVec.toNat_ofInt,h1,Nat.and_two_pow_sub_one_eq_mod]
  show IntKind.i32.wrap ((BitVec.ofInt 32 r &&& BitVec.ofInt 32 1).toNat:Nat)=r % 2
  rw [key,IntKind.wrap_i32]
  omega
 rw [hk,zpY,Bool.eq_iff_iff]
 simp
theorem zol (r:Int) (w:World) (h0 : -2147483648≤r) (h1:r≤2147483647) :
  Calls prog 93 #[.int .i32 r] w fun e w'=>e=.returned (.bool (zpY r))∧w=w':=by
 go_enter func93,ntmps93
 go_wp2
 go_ret
 exact ⟨ziV (zw8 r h0 h1),rfl⟩
set_option maxHeartbeats 1000000 in
theorem zks (r:Int) (w:World) (h0 : -2147483648≤r) (h1:r≤2147483647) :
  Calls prog 84 #[.int .i32 r] w fun e w'=>e=.returned (.bool (zoQ r))∧w=w':=by
 go_enter func84,ntmps84
 go_wp2_with (go_at_call 93; refine (zol _ _ (by omega) (by omega)).mono ?_; rintro e w' ⟨rfl,rfl⟩)
 all_goals
  go_ret
  refine ⟨ziV ?_,rfl⟩
  (go_light; rw [Bool.eq_iff_iff]; (try simp only [zkr,zkt,zpY,decide_eq_true_eq,bne_iff_ne,ne_eq,Bool.not_eq_true',decide_eq_false_iff_not,Bool.and_eq_true,Bool.or_eq_true,Bool.or_eq_false_iff,Bool.and_eq_false_iff,bne_eq_false_iff_eq,beq_iff_eq,beq_eq_false_iff_ne,Bool.false_eq_true,false_iff,true_iff,iff_true,iff_false,Bool.not_eq_false',Bool.not_true,Bool.not_false] at *); omega)
set_option maxHeartbeats 1000000 in
theorem zpf (r:Int) (w:World) (h0 : -2147483648≤r) (h1:r≤2147483647) :
  Calls prog 92 #[.int .i32 r] w fun e w'=>e=.returned (.bool (zpg r))∧w=w':=by
 go_enter func92,ntmps92
 go_wp2_with (go_at_call 93; refine (zol _ _ (by omega) (by omega)).mono ?_; rintro e w' ⟨rfl,rfl⟩)
 all_goals
  go_ret
  refine ⟨ziV ?_,rfl⟩
  (go_light; rw [Bool.eq_iff_iff]; (try simp only [zmn,zlg,zpY,decide_eq_true_eq,bne_iff_ne,ne_eq,Bool.not_eq_true',decide_eq_false_iff_not,Bool.and_eq_true,Bool.or_eq_true,Bool.or_eq_false_iff,Bool.and_eq_false_iff,bne_eq_false_iff_eq,beq_iff_eq,beq_eq_false_iff_ne,Bool.false_eq_true,false_iff,true_iff,iff_true,iff_false,Bool.not_eq_false',Bool.not_true,Bool.not_false] at *); omega)
theorem zoO (r:Int) (w:World) (h0 : -2147483648≤r) (h1:r≤2147483647) :
  Calls prog 81 #[.int .i32 r] w fun e w'=>e=.returned (.bool (zcT r))∧w=w':=by
 go_enter func81,ntmps81
 go_wp2_with (first | (go_at_call 84; refine (zks _ _ (by omega) (by omega)).mono ?_; rintro e w' ⟨rfl,rfl⟩) | (go_at_call 92; refine (zpf _ _ (by omega) (by omega)).mono ?_; rintro e w' ⟨rfl,rfl⟩))
 all_goals
  go_ret
  refine ⟨ziV ?_,rfl⟩
  go_light
  simp_all [zcT]
set_option maxHeartbeats 1000000 in
theorem zpF (r:Int) (w:World) (h0 : -2147483648≤r) (h1:r≤2147483647) :
  Calls prog 62 #[.int .i32 r] w fun e w'=>e=.returned (.int .i32 (zif r))∧w=w':=by
 by_cases hg:zoQ r=true
 ·have hb:r≤2000∧0≤r:=by rw [zkr] at hg; unfold zkt at hg; omega
  have hb1:=hb.1; have hb2:=hb.2; clear hb
  go_enter func62,ntmps62
  go_wp2_with (go_at_call 84; refine (zks _ _ (by omega) (by omega)).mono ?_; rintro e w' ⟨rfl,rfl⟩)
  all_goals
   go_ret
   refine ⟨zkj ?_,rfl⟩
   go_light
   grind [zif]
 ·go_enter func62,ntmps62
  go_wp2_with (go_at_call 84; refine (zks _ _ (by omega) (by omega)).mono ?_; rintro e w' ⟨rfl,rfl⟩)
  all_goals
   go_ret
   refine ⟨zkj ?_,rfl⟩
   go_light
   simp_all [zif]
theorem zq4 (r:Int) (w:World) (h0 : -2147483648≤r) (h1:r≤2147483647) :
  Calls prog 82 #[.int .i32 r] w fun e w'=>e=.returned (.bool (decide (0x300≤r∧r≤0x36F)))∧w=w':=by
 go_enter func82,ntmps82
 go_wp2
 all_goals
  go_ret
  refine ⟨ziV ?_,rfl⟩
  (go_light; rw [Bool.eq_iff_iff]; simp only [decide_eq_true_eq,bne_iff_ne,ne_eq,Bool.not_eq_true',decide_eq_false_iff_not,Bool.and_eq_true,Bool.or_eq_true,Bool.or_eq_false_iff,Bool.and_eq_false_iff,bne_eq_false_iff_eq,beq_iff_eq,beq_eq_false_iff_ne,Bool.false_eq_true,false_iff,true_iff,iff_true,iff_false,Bool.not_eq_false',Bool.not_true,Bool.not_false] at *; omega)
end
section
open Go.Shelf
theorem zi2 (r:Int) (w:World) (h0 : -2147483648≤r) (h1:r≤2147483647) :
  Calls prog 59 #[.int .i32 r] w fun e w'=>e=.returned (.int .i64 (kind r))∧w=w':=by
 go_enter func59,ntmps59
 go_wp2_with (first | (go_at_call 81; refine (zoO _ _ (by omega) (by omega)).mono ?_; rintro e w' ⟨rfl,rfl⟩) | (go_at_call 82; refine (zq4 _ _ (by omega) (by omega)).mono ?_; rintro e w' ⟨rfl,rfl⟩))
 all_goals
  go_ret
  refine ⟨zkj ?_,rfl⟩
  go_light
  try simp only [decide_eq_true_eq,bne_iff_ne,ne_eq,Bool.not_eq_true',decide_eq_false_iff_not,Bool.and_eq_true,Bool.or_eq_true,Bool.or_eq_false_iff,Bool.and_eq_false_iff,bne_eq_false_iff_eq,beq_iff_eq,beq_eq_false_iff_ne,Bool.false_eq_true,false_iff,true_iff,iff_true,iff_false,Bool.not_eq_false',Bool.not_true,Bool.not_false] at *
  grind [kind,zoP]
def zdu (b:Bool) (r:Int):Int:=if b then 11 else kind r
theorem zut (i wd r:Int) (b:Bool) (w:World) (h0 : -2147483648≤r) (h1:r≤2147483647) :
  Calls prog 37 #[.agg #[.int .i64 i,.int .i64 wd,.int .i32 r,.bool b]] w fun e w'=>e=.returned (.int .i64 (zdu b r))∧Below w.heap.size w w':=by
 cases b
 ·go_enter func37,ntmps37
  go_wp2_with (go_at_call 59; refine (zi2 _ _ (by omega) (by omega)).mono ?_; rintro e w' ⟨rfl,rfl⟩)
  go_ret
  exact ⟨zkj (by simp [zdu]),(Below.refl _ _).alloc (Nat.le_refl _) _⟩
 ·go_enter func37,ntmps37
  go_wp2_with (go_at_call 59; refine (zi2 _ _ (by omega) (by omega)).mono ?_; rintro e w' ⟨rfl,rfl⟩)
  go_ret
  exact ⟨zkj (by simp [zdu]),(Below.refl _ _).alloc (Nat.le_refl _) _⟩
end
section
open Go.Shelf
attribute [local go_sem] Oper.semAt_some zo9 zla zlb
theorem zlm:∀ (f i:Nat) (l:List UInt8),∀ p∈zoJ f i l,p.r≤1114111
 | 0,_,_,p,h=>by simp [zoJ] at h
 | f+1,i,l,p,h=>by
  unfold zoJ at h
  split at h
  ·simp at h
  ·rcases List.mem_cons.1 h with rfl | h
   ·exact znF l
   ·exact zlm f _ _ p h
theorem zpq (l:List UInt8):∀ p∈pcs l,p.r≤1114111:=zlm _ _ _
end
section
open Go.Shelf
attribute [local go_sem] Oper.semAt_some
end
structure Rn where
 f:Nat
 t:Nat
 k:Int
 deriving DecidableEq
def pk (p:Pc):Int:=zdu p.broken p.r
def pcV (p:Pc):List Value:=[.int .i64 p.i,.int .i64 p.w,.int .i32 p.r,.bool p.broken]
def pcA (p:Pc):List Value:=[.agg (pcV p).toArray]
theorem zqZ (i wd r:Int) (b:Bool) (h0 : -2147483648≤r) (h1:r≤2147483647):FnP prog 37 [.agg #[.int .i64 i,.int .i64 wd,.int .i32 r,.bool b]] (.int .i64 (zdu b r)):=fun w=>zut i wd r b w h0 h1
section
variable {α:Type} {enc:α→List Value} {size k:Nat} {vv:Value} {xs:List α}
def zcR (enc:α→List Value) (size:Nat) (vv:Value) (k:Nat) (xs:List α):Asn :=
  ⟨fun C w=>(∀ b,C b→b<w.heap.size)∧∀ i x j v,k≤i→xs[i]?=some x→(enc x)[j]?=some v→C (zgc vv)∧w.cell? ⟨zgc vv,i*size+j,none⟩=some v,
   fun h b hb=>h.1 b hb,
   fun {C w w'} h hs hk=>⟨fun b hb=>Nat.lt_of_lt_of_le (h.1 b hb) hs,fun i x j v hi hx hv=>by
     obtain ⟨h1,h2⟩:=h.2 i x j v hi hx hv
     refine ⟨h1,?_⟩
     rw [← h2]
     unfold World.cell?
     simp only [hk _ h1]⟩⟩
theorem zdW {e:TypeId} (hz:∀ x,(enc x).length=size) {C:Nat→Prop} {w:World} (h:(vec enc e size vv xs).P C w):(zcR enc size vv 0 xs).P C w:=by
 have hV:Vec enc e size vv xs C w:=h
 refine ⟨(vec enc e size vv xs).lt h,fun i x j v _ hx hv => ?_⟩
 have hj:j<size:=by rw [← hz x]; exact (List.getElem?_eq_some_iff.1 hv).1
 refine ⟨?_,hV.cellAt hz hx hj hv⟩
 rcases hV.shape with ⟨_,h2,_⟩ | ⟨g,cap,rfl,_⟩
 ·rw [h2] at hx; simp at hx
 ·rw [hV.2]; rfl
variable {F:Fence} {P:Program} {w0:World} {K:Nat→Prop} {N:Nat} {dfs:List Deferred} {ops:Array Oper} {Q:Exit→Act→World→Prop} {rest:List Oper} {σ:List (Nat×Value)} {L RD:List Asn} {v:Value}
 {d i:Nat} {t ty:TypeId} {pos:String} {aft:Array Edge} {g:Option (Nat×Bool)} {x:Operand}
theorem zdj [WideF F] {n j off:Nat} {q:α} (hr:Rd w0 K RD) (hi:RD[i]?=some (zcR enc size vv k xs)) (hle:k≤n) (hT:zcc P t) (hg:gd ops σ g=some true) (hd:d<N) (hx:ev σ x=some (.pointer (some ⟨zgc vv,off,none⟩)))
  (hq:xs[n]?=some q) (ho:off=n*size+j) (hv:(enc q)[j]?=some v) (h:TO F P w0 K N dfs ops Q rest ((d,v)::σ) L) :
  TO F P w0 K N dfs ops Q (⟨some d,.load t x,ty,pos,aft,g⟩::rest) σ L:=by
 subst ho
 obtain ⟨dd,hu,hr'⟩:=hT
 refine zdF hg hd (by simp) (fun a w ha hw => ?_) h
 obtain ⟨C,hC⟩:=hr.at hw hi
 have hc:=(hC.2 n q j v hle hq hv).2
 have h1:=ha.ev hx
 cases dd <;> simp_all [execOp,Instr.loadAt,Instr.sureAddr,loadVar,isAgg,Sem.run_bind,run_underlying hu]
theorem zja [WideF F] {m j off n:Nat} {q:α} {cs:List Value} (hr:Rd w0 K RD) (hi:RD[i]?=some (zcR enc size vv k xs)) (hle:k≤m) (hT:zim P t n) (hg:gd ops σ g=some true) (hd:d<N) (hx:ev σ x=some (.pointer (some ⟨zgc vv,off,none⟩)))
  (hq:xs[m]?=some q) (ho:off=m*size+j) (hcs:((enc q).drop j).take n=cs) (hn:cs.length=n)
  (h:TO F P w0 K N dfs ops Q rest ((d,.agg cs.toArray)::σ) L):TO F P w0 K N dfs ops Q (⟨some d,.load t x,ty,pos,aft,g⟩::rest) σ L:=by
 subst ho; subst hn
 obtain ⟨dd,hu,hr',hi'⟩:=hT
 refine zdF hg hd (by simp) (fun a w ha hw => ?_) h
 obtain ⟨C,hC⟩:=hr.at hw hi
 have hc:w.rangeAt (zgc vv) (m*size+j) cs:=fun n u hn=>by
  rw [← hcs] at hn
  rw [List.getElem?_take] at hn
  split at hn
  ·rw [List.getElem?_drop] at hn
   have:=(hC.2 m q (j+n) u hle hq hn).2
   rwa [← Nat.add_assoc] at this
  ·cases hn
 simp only [execOp,ha.ev hx,Sem.run_bind,run_loadAt_mid w _ _ t cs dd hc hu hr' hi']; rfl
end
section
variable {F:Fence} {P:Program} {w0:World} {K:Nat→Prop} {N:Nat} {dfs:List Deferred} {ops:Array Oper} {Q:Exit→Act→World→Prop} {rest:List Oper} {σ:List (Nat×Value)} {L:List Asn} {c:Code} {ex:Exit} {k:Nat}
 {α η:Type} {enc:α×η→List Value} {nest:α×η→List Asn} {t:TypeId} {p:Value} {m:Option α} {x:α}
theorem zfB (enc:α×η→List Value) (nest:α×η→List Asn) (t:TypeId) (h:TX w0 K N dfs Q ex σ (L++[zkL enc nest t (.pointer none) none])):TX w0 K N dfs Q ex σ L:=fun a w ha hw =>
 h a w ha (hw.grow (C':=fun _=>False) (Ext.refl _ _) (sepL.one (A:=zkL enc nest t (.pointer none) none) ⟨fun _ h=>h,rfl⟩))
theorem zna (h:m=some x):Entl [zkL enc nest t p m] (fun bh:Nat×η=>cells bh.1 (enc (x,bh.2)) t::nest (x,bh.2)) (fun bh=>p=.pointer (some ⟨bh.1,0,none⟩)):=fun C w hh=>by
 subst h
 obtain ⟨b,hd,h2,h3⟩:=pobj_some.1 (sepL.one1.1 hh)
 exact ⟨(b,hd),h2,h3⟩
def zwP (p:Value) (m:Option α):Prop:=(m.isNone=true∧p=.pointer none)∨(m.isNone=false∧∃ b,p=.pointer (some ⟨b,0,none⟩))
theorem zqp (hk:L[k]?=some (zkL enc nest t p m)) (h:zwP p m→TO F P w0 K N dfs ops Q rest σ L):TO F P w0 K N dfs ops Q rest σ L:=fun a w ha hw=>by
 obtain ⟨C1,h1,_⟩:=hw.focus hk
 refine h ?_ a w ha hw
 rcases zll h1 with ⟨rfl,h2⟩ | ⟨x,b,rfl,h2⟩
 ·exact .inl ⟨rfl,h2⟩
 ·exact .inr ⟨rfl,b,h2⟩
theorem zoU {ty e':TypeId} {w:World} (ht:P.underlying ty=some (.pointer e')):(Op.equal ty (.pointer none) (.pointer none)).run P w=.ok true w:=by
 have h:∀ d,(Op.equalIn (d+1) ty (.pointer none) (.pointer none)).run P w=.ok true w:=fun d=>by simp [Op.equalIn,run_underlying ht]
 exact h 9999
theorem zoY {ty e':TypeId} {y z:Operand} (ht:P.underlying ty=some (.pointer e')) (hv:zwP p m) (w:World):(do eqGuard .eql ty y z p (.pointer none); binOp .eql ty p (.pointer none):Sem Value).run P w=.ok (.bool m.isNone) w:=by
 rcases hv with ⟨h1,rfl⟩ | ⟨h1,b,rfl⟩
 ·rw [h1]; simp [eqGuard,binOp,Sem.run_bind,zoU ht]
 ·rw [h1]; exact zgL ht w
end
section
variable {F:Fence} {P:Program} {w0:World} {K:Nat→Prop} {N:Nat} {dfs:List Deferred} {ops:Array Oper} {Q:Exit→Act→World→Prop} {rest:List Oper} {σ σ':List (Nat×Value)} {L L' R As Bs:List Asn} {o:Oper} {v:Value}
 {d:Nat} {t:TypeId} {op:Op} {ty:TypeId} {pos:String} {aft:Array Edge} {g:Option (Nat×Bool)} {x y z:Operand} {c c1 c2:Code} {k:Nat} {A B:Asn} {RO:List (Nat×Obj)} {RD RD0:List Asn}
def ItrR (P:Program) (gf:FuncId) (caps:List Value) {α:Type} (enc:α→List Value) (xs:List α) (RD:List Asn):Prop :=
 ∀ (w:World) (D:Nat→Prop),(∀ A∈RD,∃ C,A.P C w∧∀ k,C k→D k)→(∀ k,D k→k<w.heap.size)→zm0 P gf caps.toArray (fun x=>(enc x).toArray) xs D w
theorem ItrR.intro {gf:FuncId} {fn:Func} {caps:List Value} {α:Type} {enc:α→List Value} {xs:List α} (hf:P.funcs[gf]?=some fn) (hb:fn.body=some c) (hn:fn.ntmps=N) (hN:caps.length+1≤N)
  (h:∀ l w0 K (I X:List α→Asn),Rd w0 K RD→YC P l enc xs I X w0 K →
   TC Fence.wide P w0 K N [] (bodyPostM Fence.wide 0 P fn (FY xs I X w0 K)) c (zg8 (.func (.yield l) #[] #[]::caps)) [I []]):ItrR P gf caps enc xs RD:=by
 subst hn
 intro w D hRD hDlt l I X C0 W hD hsz hC0 hIl hXl hy h0
 have hRo:Rd W C0 RD:=fun A hA=>by
  obtain ⟨C,h1,h2⟩:=hRD A hA
  exact ⟨C,A.loc h1 hsz (fun k hk=>(hD k (h2 k hk)).2),fun k hk hc=>(hC0 k hc).2 (h2 k hk)⟩
 have:=h l W C0 (fun pre=>zvg (I pre) (fun C W W'=>hIl pre C W W')) (fun pre=>zvg (X pre) (fun C W W'=>hXl pre C W W')) hRo (fun pre x post C W1 hxs he hi=>by
  obtain ⟨f1,t1,a1,b1,hr1,hr2⟩:=hy pre x post C W1 hxs he hi.1
  refine ⟨f1,t1,a1,b1,hr1,hr2.mono ?_⟩
  rintro e w2 ⟨b,rfl,C',hx,hc⟩
  have hlt:∀ k,C' k→k<w2.heap.size:=fun k hk=>by
   have:=hx.1.size
   rcases hx.2 k hk with h | h
   ·have:=hi.2 k h; omega
   ·exact h.2
  exact ⟨b,rfl,C',hx,hc.imp (fun h=>⟨h.1,h.2,hlt⟩) (fun h=>⟨h.1,h.2,hlt⟩)⟩)
 have hs:(Value.func (.yield l) #[] #[]::caps).toArray=#[.func (.yield l) #[] #[]]++caps.toArray:=by simp
 rw [← hs]
 refine (zge hf hb (this _ W (zj6 _ (by simpa using hN)) ⟨C0,sepL.one ⟨h0,fun k hk=>(hC0 k hk).1⟩,Ext.refl _ _⟩)).mono ?_
 rintro e w' ⟨he,hh⟩
 refine ⟨he,?_⟩
 rcases hh with ⟨C',hh,hx⟩ | ⟨pre,x,post,hxs,C',hh,hx⟩
 ·obtain ⟨C1,C2,g1,g2,_,g4⟩:=hh
  have:C'=C1:=funext fun k=>propext (by rw [g4]; exact ⟨fun h=>h.resolve_right (g2 k),.inl⟩)
  subst this
  exact ⟨C',hx,.inl g1.1⟩
 ·obtain ⟨C1,C2,g1,g2,_,g4⟩:=hh
  have:C'=C1:=funext fun k=>propext (by rw [g4]; exact ⟨fun h=>h.resolve_right (g2 k),.inl⟩)
  subst this
  exact ⟨C',hx,.inr ⟨pre,x,post,hxs,g1.1⟩⟩
section
variable {α β γ δ:Type}
theorem zhX {gf:FuncId} {caps:List Value} {enc:α→List Value} {xs:List α} {ps:List Nat} {assign body:Code} (hRd:Rd w0 K RD0) (hRo:Ro w0 K RO)
  (hg:ev σ x=some (.func (.func gf) #[] caps.toArray)) (hent:∀ args w,(callFunc gf args).run P w=.ok (.enter gf args) w) (hY:ItrR P gf caps enc xs RD)
  (Inv:List α→β→Prop) (LI:List α→β→List Asn) (X:Code→List α→γ→Prop) (LX:Code→List α→γ→List Asn) (σJ:List α→α→β→δ→List (Nat×Value)) (LJ:List α→α→β→δ→List Asn) (b0:β)
  (h0:Inv [] b0) (hs:Splits L (LI [] b0) R) (hS:RdS R RD0 RD) (hps:∀ x,(enc x).length=ps.length) (hpN:∀ p∈ps,p<N)
  (hassign:∀ l r pre e post b w1 K1,xs=pre++e::post→Ext K K1 w0 w1→Ro w1 K1 (RO++[(l,.loop r)])→Inv pre b →
   TC (Fence.wide.inRound l) P w1 K1 N [] (Exit.then (fun a w=>∃ j,St w1 K1 N [] (σJ pre e b j) (LJ pre e b j) a w) (fun _ _ _=>False)) assign (ziM ps (enc e) σ) (LI pre b))
  (hbody:∀ l r pre e post b j w1 K1,xs=pre++e::post→Ext K K1 w0 w1→Ro w1 K1 (RO++[(l,.loop r)])→Inv pre b→TC (Fence.wide.inRound l) P w1 K1 N [] (RQ Inv LI X LX (pre++[e]) w1 K1) body (σJ pre e b j) (LJ pre e b j))
  (hdone:∀ d b,Inv xs b→TX w0 K N ({ target:=.collected d,args:=#[] }::dfs) Q .normal σ (R++(LI xs b++[zcu d])))
  (hstop:∀ d c pre e post b,xs=pre++e::post→X c (pre++[e]) b→TC Fence.wide P w0 K N ({ target:=.collected d,args:=#[] }::dfs) Q c σ (R++(LX c (pre++[e]) b++[zcu d]))) :
  TC Fence.wide P w0 K N dfs Q (.rangeFunc x ps.toArray assign body) σ L:=by
 intro a w ha hw
 obtain ⟨C1,C2,g1,g2,g3,gx,hstep⟩:=hw.split2 hs
 have hDh:Rd w C1 RD:=hS.rd (w0:=w0) (K:=K) g2 g3 (hRd.ext gx)
 have hlt1:=g1.lt
 have hro1:∀ {C:Nat→Prop} {W:World},Ext K C w0 W→Ro W C RO:=fun {C W} hx p hp=>by
  obtain ⟨h1,h2⟩:=hRo p hp
  refine ⟨hx.1.at h1 h2,fun h => ?_⟩
  rcases hx.2 _ h with h | h
  ·exact h2 h
  ·have:=zdn h1; omega
 refine znR (gf:=gf) (lb:=caps.toArray) (ha.ev hg) hent (hY w (fun k=>k<w.heap.size∧¬ C1 k) (fun A hA=>by
  obtain ⟨C,h1,h2⟩:=hDh A hA
  exact ⟨C,h1,fun k hk=>⟨A.lt h1 k hk,h2 k hk⟩⟩) (fun k h=>h.1)) (fun k h=>⟨h.1,rfl⟩) (Nat.le_refl _) (fun e=>by simp [hps])
  (fun pre C W=>∃ b,Inv pre b∧sepL (LI pre b) C W) (fun c pre C W=>∃ b,X c pre b∧sepL (LX c pre b) C W)
  (fun pre e a1 C W=>∃ b j,Inv pre b∧At N [] (σJ pre e b j) a1∧sepL (LJ pre e b j) C W) ?_ ?_ ?_ C1 (fun k hk=>⟨hlt1 k hk,fun h=>h.2 hk⟩) ⟨b0,h0,g1⟩ ?_ ?_ ?_ ?_
 ·rintro pre C W W' ⟨b,h1,h2⟩ hs hk; exact ⟨b,h1,h2.loc hs hk⟩
 ·rintro c pre C W W' ⟨b,h1,h2⟩ hs hk; exact ⟨b,h1,h2.loc hs hk⟩
 ·rintro pre e a1 _ C W W' ⟨b,j,h1,h2,h3⟩ hs hk; exact ⟨b,j,h1,h2,h3.loc hs hk⟩
 ·rintro l pre e post C W1 hxs hext ⟨b,hb,hi⟩ hn hl ⟨r,hr⟩
  have hx1:Ext K C w0 W1:=gx.trans hext
  refine wpIn_mono (hassign l r pre e post b W1 C hxs hx1 ((hro1 hx1).snoc hr hn) hb _ W1 (ha.zip ps (enc e) hpN) ⟨C,hi,Ext.refl _ _⟩) ?_
  rintro ex a' w' hq
  cases ex with
  | normal =>
   obtain ⟨j,hj,C',hL',hx'⟩:=hq
   exact ⟨C',hx',b,j,hb,hj,hL'⟩
  | _=>exact hq
 ·rintro l pre e post C W1 a1 hxs hext ⟨b,j,hb,hat,hi⟩ hn hl ⟨r,hr⟩
  have hx1:Ext K C w0 W1:=gx.trans hext
  refine wpIn_mono (hbody l r pre e post b j W1 C hxs hx1 ((hro1 hx1).snoc hr hn) hb a1 W1 hat ⟨C,hi,Ext.refl _ _⟩) ?_
  rintro ex a' w' hq
  cases ex with
  | normal=>obtain ⟨b',h1,C',h2,h3⟩:=hq; exact ⟨C',h3,b',h1,h2⟩
  | ret=>obtain ⟨b',h1,C',h2,h3⟩:=hq; exact ⟨C',h3,b',h1,h2⟩
  | exit id=>obtain ⟨b',h1,C',h2,h3⟩:=hq; exact ⟨C',h3,b',h1,h2⟩
  | goto id=>obtain ⟨b',h1,C',h2,h3⟩:=hq; exact ⟨C',h3,b',h1,h2⟩
  | panic _=>exact hq
  | outgrown=>exact hq
 ·rintro d C W hext ⟨b,hb,hi⟩ hd hCd hdef
  refine hdone d b hb _ W ⟨ha.1,by rw [← ha.2.1],ha.2.2⟩ (hstep _ (fun k=>C k∨k=d) W ⟨hext.1,fun k hk => ?_⟩ ?_)
  ·rcases hk with hk | rfl
   ·exact hext.2 k hk
   ·exact .inr ⟨hd,zdn hdef⟩
  ·exact hi.append (sepL.one ⟨fun k=>Iff.rfl,hdef⟩) (fun k hk e=>hCd (e ▸ hk))
 ·rintro d c pre e post C W hxs hext ⟨b,hb,hi⟩ hd hCd hdef
  refine hstop d c pre e post b hxs hb _ W ⟨ha.1,by rw [← ha.2.1],ha.2.2⟩ (hstep _ (fun k=>C k∨k=d) W ⟨hext.1,fun k hk => ?_⟩ ?_)
  ·rcases hk with hk | rfl
   ·exact hext.2 k hk
   ·exact .inr ⟨hd,zdn hdef⟩
  ·exact hi.append (sepL.one ⟨fun k=>Iff.rfl,hdef⟩) (fun k hk e=>hCd (e ▸ hk))
theorem znO {l₀ i₀:Nat} {r₀:Loop} {gf:FuncId} {caps:List Value} {enc:α→List Value} {xs:List α} {ps:List Nat} {assign body:Code} (hRd:Rd w0 K RD0) (hRo:Ro w0 K RO) (hl₀:RO[i₀]?=some (l₀,.loop r₀))
  (hg:ev σ x=some (.func (.func gf) #[] caps.toArray)) (hent:∀ args w,(callFunc gf args).run P w=.ok (.enter gf args) w) (hY:ItrR P gf caps enc xs RD)
  (Inv:List α→β→Prop) (LI:List α→β→List Asn) (X:Code→List α→γ→Prop) (LX:Code→List α→γ→List Asn) (σJ:List α→α→β→δ→List (Nat×Value)) (LJ:List α→α→β→δ→List Asn) (b0:β)
  (h0:Inv [] b0) (hs:Splits L (LI [] b0) R) (hS:RdS R RD0 RD) (hps:∀ x,(enc x).length=ps.length) (hpN:∀ p∈ps,p<N)
  (hassign:∀ l r pre e post b w1 K1,xs=pre++e::post→Ext K K1 w0 w1→Ro w1 K1 (RO++[(l,.loop r)])→Inv pre b →
   TC (Fence.wide.inRound l) P w1 K1 N [] (Exit.then (fun a w=>∃ j,St w1 K1 N [] (σJ pre e b j) (LJ pre e b j) a w) (fun _ _ _=>False)) assign (ziM ps (enc e) σ) (LI pre b))
  (hbody:∀ l r pre e post b j w1 K1,xs=pre++e::post→Ext K K1 w0 w1→Ro w1 K1 (RO++[(l,.loop r)])→Inv pre b→TC (Fence.wide.inRound l) P w1 K1 N [] (RQ Inv LI X LX (pre++[e]) w1 K1) body (σJ pre e b j) (LJ pre e b j))
  (hdone:∀ b,Inv xs b→TX w0 K N dfs Q .normal σ (R++LI xs b))
  (hstop:∀ c pre e post b,xs=pre++e::post→X c (pre++[e]) b→TC (Fence.wide.inRound l₀) P w0 K N dfs Q c σ (R++LX c (pre++[e]) b)) :
  TC (Fence.wide.inRound l₀) P w0 K N dfs Q (.rangeFunc x ps.toArray assign body) σ L:=by
 intro a w ha hw
 obtain ⟨C1,C2,g1,g2,g3,gx,hstep⟩:=hw.split2 hs
 have hDh:Rd w C1 RD:=hS.rd (w0:=w0) (K:=K) g2 g3 (hRd.ext gx)
 have hlt1:=g1.lt
 have hro1:∀ {C:Nat→Prop} {W:World},Ext K C w0 W→Ro W C RO:=fun {C W} hx p hp=>by
  obtain ⟨h1,h2⟩:=hRo p hp
  refine ⟨hx.1.at h1 h2,fun h => ?_⟩
  rcases hx.2 _ h with h | h
  ·exact h2 h
  ·have:=zdn h1; omega
 refine znd ⟨r₀,hw.ro hRo hl₀⟩ (gf:=gf) (lb:=caps.toArray) (ha.ev hg) hent (hY w (fun k=>k<w.heap.size∧¬ C1 k) (fun A hA=>by
  obtain ⟨C,h1,h2⟩:=hDh A hA
  exact ⟨C,h1,fun k hk=>⟨A.lt h1 k hk,h2 k hk⟩⟩) (fun k h=>h.1)) (fun k h=>⟨h.1,rfl⟩) (Nat.le_refl _) (fun e=>by simp [hps])
  (fun pre C W=>∃ b,Inv pre b∧sepL (LI pre b) C W) (fun c pre C W=>∃ b,X c pre b∧sepL (LX c pre b) C W)
  (fun pre e a1 C W=>∃ b j,Inv pre b∧At N [] (σJ pre e b j) a1∧sepL (LJ pre e b j) C W) ?_ ?_ ?_ C1 (fun k hk=>⟨hlt1 k hk,fun h=>h.2 hk⟩) ⟨b0,h0,g1⟩ ?_ ?_ ?_ ?_
 ·rintro pre C W W' ⟨b,h1,h2⟩ hs hk; exact ⟨b,h1,h2.loc hs hk⟩
 ·rintro c pre C W W' ⟨b,h1,h2⟩ hs hk; exact ⟨b,h1,h2.loc hs hk⟩
 ·rintro pre e a1 _ C W W' ⟨b,j,h1,h2,h3⟩ hs hk; exact ⟨b,j,h1,h2,h3.loc hs hk⟩
 ·rintro l pre e post C W1 hxs hext ⟨b,hb,hi⟩ hn hl ⟨r,hr⟩
  have hx1:Ext K C w0 W1:=gx.trans hext
  refine wpIn_mono (hassign l r pre e post b W1 C hxs hx1 ((hro1 hx1).snoc hr hn) hb _ W1 (ha.zip ps (enc e) hpN) ⟨C,hi,Ext.refl _ _⟩) ?_
  rintro ex a' w' hq
  cases ex with
  | normal =>
   obtain ⟨j,hj,C',hL',hx'⟩:=hq
   exact ⟨C',hx',b,j,hb,hj,hL'⟩
  | _=>exact hq
 ·rintro l pre e post C W1 a1 hxs hext ⟨b,j,hb,hat,hi⟩ hn hl ⟨r,hr⟩
  have hx1:Ext K C w0 W1:=gx.trans hext
  refine wpIn_mono (hbody l r pre e post b j W1 C hxs hx1 ((hro1 hx1).snoc hr hn) hb a1 W1 hat ⟨C,hi,Ext.refl _ _⟩) ?_
  rintro ex a' w' hq
  cases ex with
  | normal=>obtain ⟨b',h1,C',h2,h3⟩:=hq; exact ⟨C',h3,b',h1,h2⟩
  | ret=>obtain ⟨b',h1,C',h2,h3⟩:=hq; exact ⟨C',h3,b',h1,h2⟩
  | exit id=>obtain ⟨b',h1,C',h2,h3⟩:=hq; exact ⟨C',h3,b',h1,h2⟩
  | goto id=>obtain ⟨b',h1,C',h2,h3⟩:=hq; exact ⟨C',h3,b',h1,h2⟩
  | panic _=>exact hq
  | outgrown=>exact hq
 ·rintro C W hext ⟨b,hb,hi⟩
  exact hdone b hb _ W ha (hstep _ C W hext hi)
 ·rintro c pre e post C W hxs hext ⟨b,hb,hi⟩
  exact hstop c pre e post b hxs hb _ W ha (hstep _ C W hext hi)
end
end
theorem zh0 {α:Type} {enc:α→List Value} {size k:Nat} {vv:Value} {xs:List α} {e:TypeId} (hz:∀ x,(enc x).length=size) {C:Nat→Prop} {w:World} (h:(vec enc e size vv xs).P C w):(zcR enc size vv k xs).P C w :=
 ⟨(zdW hz h).1,fun i x j v h1 h2 h3=>(zdW hz h).2 i x j v (Nat.zero_le _) h2 h3⟩
structure zw9 (α:Type) where
 vv:Value
 k:Nat
 L:List α
def zjU {α:Type} (enc:α→List Value) (size:Nat) (hd:Hd) (xs:List α):Asn :=
 exA fun b:{b:zw9 α // Vw b.vv b.L size b.k hd.v xs}=>zcR enc size b.1.vv b.1.k b.1.L
theorem zlM {α:Type} {enc:α→List Value} {size:Nat} {e:TypeId} {hd:Hd} {xs:List α} (hlen:∀ x,(enc x).length=size) {C:Nat→Prop} {w:World} (h:(vec enc e size hd.v xs).P C w):(zjU enc size hd xs).P C w :=
 ⟨⟨⟨hd.v,0,xs⟩,zlD h⟩,zdW hlen h⟩
section
variable {α η:Type} {enc:α×η→List Value} {nest nestR:α×η→List Asn} {e:TypeId} {size:Nat} {v:Value} {xs:List α} {zs:List (α×η)} {z:α×η}
def zhu (nestR:α×η→List Asn) (zs:List (α×η)):Asn :=
  ⟨fun C w=>(∀ k,C k→k<w.heap.size)∧∀ z∈zs,∀ A∈nestR z,∃ D,A.P D w∧∀ k,D k→C k,
   fun h k hk=>h.1 k hk,
   fun {C w w'} h hs hk=>⟨fun k hC=>Nat.lt_of_lt_of_le (h.1 k hC) hs,fun z hz A hA=>by
     obtain ⟨D,h1,h2⟩:=h.2 z hz A hA
     exact ⟨D,A.loc h1 hs (fun k hD=>hk k (h2 k hD)),h2⟩⟩⟩
def zrD (nest nestR:α×η→List Asn):Prop:=∀ z C w,sepL (nest z) C w→∀ A∈nestR z,∃ D,A.P D w∧∀ k,D k→C k
theorem zpR {C:Nat→Prop} {w:World} (h:sepL (zs.flatMap nest) C w) (hz:z∈zs):∃ D,sepL (nest z) D w∧∀ k,D k→C k:=by
 obtain ⟨i,hi⟩:=List.getElem?_of_mem hz
 obtain ⟨C1,C2,h1,_,_,h4⟩:=(zkf hi).1 h
 exact ⟨C1,h1,fun k hk=>(h4 k).2 (.inl hk)⟩
theorem zpm (hG:zrD nest nestR) {C:Nat→Prop} {w:World} (h:(own nest zs).P C w):(zhu nestR zs).P C w :=
 ⟨(own nest zs).lt h,fun z hz A hA=>by
  obtain ⟨D,h1,h2⟩:=zpR (show sepL (zs.flatMap nest) C w from h) hz
  obtain ⟨E,h3,h4⟩:=hG z D w h1 A hA
  exact ⟨E,h3,fun k hk=>h2 k (h4 k hk)⟩⟩
variable {w0:World} {K:Nat→Prop} {RD:List Asn} {i j:Nat}
theorem Rd.openEl (hr:Rd w0 K RD) (hi:RD[i]?=some (zhu nestR zs)) (hz:zs[j]?=some z):Rd w0 K (RD++nestR z) :=
 hr.more hi fun C hC B hB=>hC.2 z (List.mem_of_getElem? hz) B hB
theorem Rd.openSl {β:Type} {enc1:β→List Value} {hd:Hd} {ys:List β} (hr:Rd w0 K RD) (hi:RD[i]?=some (zjU enc1 size hd ys)):∃ vv k L,Vw vv L size k hd.v ys∧Rd w0 K (RD++[zcR enc1 size vv k L]):=by
 obtain ⟨C,⟨⟨⟨vv,k,L⟩,hV⟩,hC⟩,hk⟩:=hr _ (List.mem_of_getElem? hi)
 refine ⟨vv,k,L,hV,hr.append fun B hB => ?_⟩
 rw [List.mem_singleton] at hB
 subst hB
 exact ⟨C,hC,hk⟩
theorem Rd.openN (hr:Rd w0 K RD) (hi:RD[i]?=some (zba enc nest e size v xs)) (hlen:∀ z,(enc z).length=size) (hG:zrD nest nestR) :
  ∃ zs:List (α×η),zs.map Prod.fst=xs∧Vw v zs size 0 v zs∧Rd w0 K (RD++[zcR enc size v 0 zs,zhu nestR zs]):=by
 obtain ⟨C,h,hk⟩:=hr _ (List.mem_of_getElem? hi)
 obtain ⟨zs,hz,h1⟩:=zi0 C w0 h
 obtain ⟨C1,C2,g1,g2,_,g4⟩:=zlh h1
 refine ⟨zs,hz,zlD g1,hr.append fun B hB => ?_⟩
 rcases List.mem_cons.1 hB with rfl | hB
 ·exact ⟨C1,zdW hlen g1,fun k h=>hk k ((g4 k).2 (.inl h))⟩
 ·rw [List.mem_singleton] at hB
  subst hB
  exact ⟨C2,zpm hG g2,fun k h=>hk k ((g4 k).2 (.inr h))⟩
end
section
variable {α η:Type} {nest:α×η→List Asn} {zs ys:List (α×η)}
theorem zwO (xs:List α) (h:η):(xs.map (fun x=>(x,h))).map Prod.fst=xs:=by
 rw [List.map_map]
 exact List.map_id _
end
section
variable {F:Fence} {P:Program} {w0:World} {K:Nat→Prop} {N:Nat} {dfs:List Deferred} {Q:Exit→Act→World→Prop} {σ:List (Nat×Value)} {L:List Asn} {c:Code} {k:Nat} {α η:Type} {enc:α×η→List Value} {nest:α×η→List Asn} {t:TypeId} {p:Value} {m:Option α}
end
def zcQ (z:(List zBA)×Hd):List Asn:=[zjU zgA 1 z.2 z.1]
theorem zip:zrD zal zcQ:=by
 intro z C w h A hA
 simp only [zcQ,List.mem_cons,List.not_mem_nil,or_false] at hA
 rcases hA with rfl
 ·obtain ⟨D,h1,h2⟩:=sepL.each h _ (List.mem_of_getElem? (i:=0) rfl); exact ⟨D,zlM zeF h1,h2⟩
def zdh (z:zan×Hd×Hd):List Asn:=[zjU (zfH (.i64)) 1 z.2.1 z.1.words,zjU (zfH (.i64)) 1 z.2.2 z.1.readings]
theorem zhK:zrD zak zdh:=by
 intro z C w h A hA
 simp only [zdh,List.mem_cons,List.not_mem_nil,or_false] at hA
 rcases hA with rfl | rfl
 ·obtain ⟨D,h1,h2⟩:=sepL.each h _ (List.mem_of_getElem? (i:=0) rfl); exact ⟨D,zlM zci h1,h2⟩
 ·obtain ⟨D,h1,h2⟩:=sepL.each h _ (List.mem_of_getElem? (i:=1) rfl); exact ⟨D,zlM zci h1,h2⟩
end Go.Proofs.YtdnalnmahlakkaaGreatDoor

namespace Go.Proofs
open Go.Shelf
def Tryz.laysNm727_ren:Go.Shelf.Ren:=⟨fun | 27=>49 | 28=>74 | 29=>75 | n=>n,fun | 25=>112 | 3=>3 | 27=>162 | 22=>164 | 4=>4 | 53=>181 | 0=>0 | 5=>5 | 54=>182 | n=>n,fun | 0=>0 | 1=>1 | n=>n⟩
theorem zk8:Go.Proofs.Lays7.n27 Tryz.prog Tryz.laysNm727_ren:={
 mixed:=by kernel_rfl
 f27:=Tryz.func49.trans (congrArg some (by kernel_rfl))
 f28:=Tryz.func74.trans (congrArg some (by kernel_rfl))
 f29:=Tryz.func75.trans (congrArg some (by kernel_rfl))
 t0:=Tryz.underlying0
 a0:=Tryz.isAgg0
 z0:=Tryz.sizeOf0
 v0:=Tryz.zeroValue0
 i0:=by kernel_rfl
 t3:=Tryz.underlying3
 a3:=Tryz.isAgg3
 z3:=Tryz.sizeOf3
 v3:=Tryz.zeroValue3
 i3:=by kernel_rfl
 t4:=Tryz.underlying4
 a4:=Tryz.isAgg4
 z4:=Tryz.sizeOf4
 v4:=Tryz.zeroValue4
 i4:=by kernel_rfl
 t5:=Tryz.underlying5
 a5:=Tryz.isAgg5
 z5:=Tryz.sizeOf5
 v5:=Tryz.zeroValue5
 i5:=by kernel_rfl
 t22:=Tryz.underlying164
 a22:=Tryz.isAgg164
 z22:=Tryz.sizeOf164
 v22:=Tryz.zeroValue164
 i22:=by kernel_rfl
 t25:=Tryz.underlying112
 a25:=Tryz.isAgg112
 z25:=Tryz.sizeOf112
 v25:=Tryz.zeroValue112
 i25:=by kernel_rfl
 t27:=Tryz.underlying162
 a27:=Tryz.isAgg162
 z27:=Tryz.sizeOf162
 v27:=Tryz.zeroValue162
 i27:=by kernel_rfl
 t53:=Tryz.underlying181
 a53:=Tryz.isAgg181
 z53:=Tryz.sizeOf181
 v53:=Tryz.zeroValue181
 i53:=by kernel_rfl
 t54:=Tryz.underlying182
 a54:=Tryz.isAgg182
 z54:=Tryz.sizeOf182
 g0:=by kernel_rfl
 g1:=by kernel_rfl }
def zi9:Go.Shelf.Ren:=⟨fun | 6=>66 | 15=>89 | 14=>88 | 28=>103 | 29=>104 | 20=>95 | 21=>96 | 22=>97 | 23=>98 | 24=>99 | 25=>100 | 26=>101 | 27=>102 | 46=>106 | 47=>107 | 48=>108 | 49=>109 | 50=>110 | 57=>111 | n=>n,fun | 22=>154 | 24=>156 | 25=>159 | 3=>3 | 39=>112 | 0=>0 | 53=>162 | 55=>164 | 4=>4 | 46=>186 | 45=>185 | 50=>190 | 5=>5 | 9=>9 | 66=>192 | 70=>105 | 76=>197 | 77=>44 | n=>n,fun | n=>n⟩
theorem zk7:Go.Proofs.SlLaysF0.n6 Tryz.prog zi9:={
 mixed:=by kernel_rfl
 f6:=⟨Tryz.f66.name,by decide,Tryz.func66.trans (congrArg some (by kernel_rfl))⟩
 f14:=⟨Tryz.f88.name,by decide,Tryz.func88.trans (congrArg some (by kernel_rfl))⟩
 f15:=Tryz.func89.trans (congrArg some (by kernel_rfl))
 f20:=⟨Tryz.f95.name,by decide,Tryz.func95.trans (congrArg some (by kernel_rfl))⟩
 f21:=⟨Tryz.f96.name,by decide,Tryz.func96.trans (congrArg some (by kernel_rfl))⟩
 f22:=⟨Tryz.f97.name,by decide,Tryz.func97.trans (congrArg some (by kernel_rfl))⟩
 f23:=⟨Tryz.f98.name,by decide,Tryz.func98.trans (congrArg some (by kernel_rfl))⟩
 f24:=⟨Tryz.f99.name,by decide,Tryz.func99.trans (congrArg some (by kernel_rfl))⟩
 f25:=⟨Tryz.f100.name,by decide,Tryz.func100.trans (congrArg some (by kernel_rfl))⟩
 f26:=⟨Tryz.f101.name,by decide,Tryz.func101.trans (congrArg some (by kernel_rfl))⟩
 f27:=⟨Tryz.f102.name,by decide,Tryz.func102.trans (congrArg some (by kernel_rfl))⟩
 f28:=Tryz.func103.trans (congrArg some (by kernel_rfl))
 f29:=Tryz.func104.trans (congrArg some (by kernel_rfl))
 f46:=⟨Tryz.f106.name,by decide,Tryz.func106.trans (congrArg some (by kernel_rfl))⟩
 f47:=Tryz.func107.trans (congrArg some (by kernel_rfl))
 f48:=Tryz.func108.trans (congrArg some (by kernel_rfl))
 f49:=⟨Tryz.f109.name,by decide,Tryz.func109.trans (congrArg some (by kernel_rfl))⟩
 f50:=⟨Tryz.f110.name,by decide,Tryz.func110.trans (congrArg some (by kernel_rfl))⟩
 f57:=⟨Tryz.f111.name,by decide,Tryz.func111.trans (congrArg some (by kernel_rfl))⟩
 t0:=Tryz.underlying0
 a0:=Tryz.isAgg0
 z0:=Tryz.sizeOf0
 v0:=Tryz.zeroValue0
 t3:=Tryz.underlying3
 a3:=Tryz.isAgg3
 z3:=Tryz.sizeOf3
 v3:=Tryz.zeroValue3
 t4:=Tryz.underlying4
 a4:=Tryz.isAgg4
 z4:=Tryz.sizeOf4
 v4:=Tryz.zeroValue4
 t5:=Tryz.underlying5
 a5:=Tryz.isAgg5
 z5:=Tryz.sizeOf5
 v5:=Tryz.zeroValue5
 t9:=Tryz.underlying9
 a9:=Tryz.isAgg9
 z9:=Tryz.sizeOf9
 v9:=Tryz.zeroValue9
 t22:=Tryz.underlying154
 a22:=Tryz.isAgg154
 z22:=Tryz.sizeOf154
 v22:=Tryz.zeroValue154
 t25:=Tryz.underlying159
 a25:=Tryz.isAgg159
 z25:=Tryz.sizeOf159
 v25:=Tryz.zeroValue159
 t39:=Tryz.underlying112
 a39:=Tryz.isAgg112
 z39:=Tryz.sizeOf112
 v39:=Tryz.zeroValue112
 t45:=Tryz.underlying185
 a45:=Tryz.isAgg185
 z45:=Tryz.sizeOf185
 v45:=Tryz.zeroValue185
 t46:=Tryz.underlying186
 a46:=Tryz.isAgg186
 z46:=Tryz.sizeOf186
 v46:=Tryz.zeroValue186
 t50:=Tryz.underlying190
 a50:=Tryz.isAgg190
 z50:=Tryz.sizeOf190
 v50:=Tryz.zeroValue190
 t53:=Tryz.underlying162
 a53:=Tryz.isAgg162
 z53:=Tryz.sizeOf162
 v53:=Tryz.zeroValue162
 t55:=Tryz.underlying164
 a55:=Tryz.isAgg164
 z55:=Tryz.sizeOf164
 v55:=Tryz.zeroValue164
 t66:=Tryz.underlying192
 a66:=Tryz.isAgg192
 z66:=Tryz.sizeOf192
 v66:=Tryz.zeroValue192
 t70:=Tryz.underlying105
 a70:=Tryz.isAgg105
 z70:=Tryz.sizeOf105
 v70:=Tryz.zeroValue105
 t76:=Tryz.underlying197
 a76:=Tryz.isAgg197
 z76:=Tryz.sizeOf197
 v76:=Tryz.zeroValue197
 t77:=Tryz.underlying44
 a77:=Tryz.isAgg44
 z77:=Tryz.sizeOf44
 v77:=Tryz.zeroValue44 }
end Go.Proofs

namespace Go.Proofs.YtdnalnmahlakkaaGreatDoor
open Go.RowKit Go.Lib
open Tryz
set_option linter.unusedVariables false
set_option linter.unusedSimpArgs false
section
open Go.Shelf
theorem zlx {α:Type} {enc:α→List Value} {e:TypeId} {size:Nat} {vv:Value} {xs:List α} {w:World} {K:Nat→Prop} {RD:List Asn} {i:Nat} (h:Rd w K RD) (hi:RD[i]?=some (vec enc e size vv xs)) (hz:∀ x,(enc x).length=size):Rd w K (RD++[zcR enc size vv 0 xs]) :=
 h.more hi fun C hC B hB=>by
  obtain rfl:B=_:=List.mem_singleton.1 hB
  exact ⟨C,zdW hz hC,fun _ hk=>hk⟩
def tz64A:Asn :=
  ⟨fun C w=>(∀ k,C k↔k=Tryz.laysNm727_ren.g 1)∧Tryz.laysNm727_ren.g 1<w.heap.size∧TabAt (Tryz.laysNm727_ren.g 1) Lib.deBruijn64tab w,
   fun h k hk=>by rw [(h.1 k).1 hk]; exact h.2.1,
   fun {C w w'} h hs hk=>⟨h.1,Nat.lt_of_lt_of_le h.2.1 hs,fun j hj=>by
     have:=h.2.2 j hj
     have e:w'.heap[Tryz.laysNm727_ren.g 1]?=w.heap[Tryz.laysNm727_ren.g 1]?:=hk _ ((h.1 _).2 rfl)
     unfold World.cell? at this ⊢
     simp only [e]; exact this⟩⟩
def tzI (x:Int):Int:=(Lib.ctz 64 x.toNat:Nat)
theorem zst {x:Int} (hx:0≤x∧x<18446744073709551616):FnR prog 49 [.int .u64 x] [tz64A] [] (fun _:Unit=>.int .i64 (tzI x)) (fun _=>[]):=fun w C hR hC=>by
 obtain ⟨D,hD,_⟩:=hR tz64A (by simp)
 obtain ⟨n,rfl⟩:∃ n:Nat,x=n:=⟨x.toNat,by omega⟩
 have h:=Any7.bits_TrailingZeros zk8 n (by omega) w (fun _=>hD.2.2)
 exact h.mono fun e w' ⟨h1,h2⟩=>⟨(),by simpa [tzI] using h1,C,by subst h2; exact hC,by subst h2; exact ziK (Below.refl _ _)⟩
end
section
variable {α η:Type} {nest:α×η→List Asn} {zs:List (α×η)} {z:α×η} {i d:Nat}
theorem zu2 (hz:zs[i]?=some z) (g:d=i):(zs.drop d)[0]?=some z:=by
 subst g
 rw [List.getElem?_drop]
 exact hz
theorem zu0:(zs.drop d).eraseIdx 0=zs.drop (d+1):=by
 rw [List.eraseIdx_zero,List.tail_drop]
theorem zsK (hz:zs[i]?=some z) (g:d=i) (C:Nat→Prop) (w:World) (h:(own nest (zs.drop d)).P C w):∃ _u:Unit,True∧sepL (own nest (zs.drop (d+1))::nest z) C w:=by
 have h2:=znl (zu2 hz g) C w h
 rw [zu0] at h2
 exact h2
theorem zvL (hz:zs[i]?=some z) (g:d=i) (C:Nat→Prop) (w:World) (h:sepL (own nest (zs.drop (d+1))::nest z) C w):(own nest (zs.drop d)).P C w :=
 zlN (zs:=zs.drop d) (zs':=zs.drop d) (zu2 hz g) rfl C w (by rw [zu0]; exact h)
end
theorem zhf {P:Program} {f:FuncId} {vs:List Value} {RD As:List Asn} {b n:Nat} {Bs:Unit→List Asn} (h:FnR P f vs RD As (fun _:Unit=>.pointer (some ⟨b,(0+n)*1,none⟩)) Bs):FnR P f vs RD As (fun _:Unit=>.pointer (some ⟨b,n*1,none⟩)) Bs:=by
 have e:0+n=n:=Nat.zero_add n
 rw [e] at h
 exact h
structure Tok where
 r:Nat
 bs:List UInt8
 deriving DecidableEq
def Tok.broken (t:Tok):Bool:=t.r==65533&&t.bs.length==1
def Tok.valid (t:Tok):Prop:=(t.r<55296∨(57343<t.r∧t.r≤1114111))∧t.bs=encodeRune t.r
def zpS (ts:List Tok):List UInt8:=ts.flatMap Tok.bs
def zkP:Nat→List UInt8→List Tok
 | 0,_=>[]
 | f+1,l=>if l=[] then [] else ⟨(decodeL l).1,l.take (decodeL l).2⟩::zkP f (l.drop (decodeL l).2)
def zlE (l:List UInt8):List Tok:=zkP l.length l
theorem zq9:zpS []=[]:=rfl
theorem zhP (t:Tok) (ts:List Tok):zpS (t::ts)=t.bs++zpS ts:=by simp [zpS]
theorem zmi:∀ (f g:Nat) (l:List UInt8),l.length≤f→l.length≤g→zkP f l=zkP g l:=by
 intro f
 induction f with
 | zero =>
  intro g l h1 h2
  have:l=[]:=List.eq_nil_of_length_eq_zero (by omega)
  subst this
  cases g <;> simp [zkP]
 | succ f ih =>
  intro g l h1 h2
  cases g with
  | zero =>
   have:l=[]:=List.eq_nil_of_length_eq_zero (by omega)
   subst this
   simp [zkP]
  | succ g =>
   by_cases hl:l=[]
   ·simp [zkP,hl]
   ·simp only [zkP,hl,if_false]
    have:=zhT l
    have hlen:0<l.length:=List.length_pos_iff.2 hl
    rw [ih g _ (by simp; omega) (by simp; omega)]
theorem ziO:zlE []=[]:=by simp [zlE,zkP]
theorem zhD (l:List UInt8) (h:l≠[]):zlE l=⟨(decodeL l).1,l.take (decodeL l).2⟩::zlE (l.drop (decodeL l).2):=by
 have hlen:0<l.length:=List.length_pos_iff.2 h
 unfold zlE
 obtain ⟨n,hn⟩:∃ n,l.length=n+1:=⟨l.length - 1,by omega⟩
 rw [hn]
 simp only [zkP,h,if_false]
 have:=zhT l
 rw [zmi n (l.drop (decodeL l).2).length _ (by simp; omega) (Nat.le_refl _)]
theorem zg4 {P:List UInt8→Prop} (h0:P []) (h1:∀ l,l≠[]→P (l.drop (decodeL l).2)→P l):∀ l,P l:=by
 have key:∀ (n:Nat) (l:List UInt8),l.length≤n→P l:=by
  intro n
  induction n with
  | zero=>intro l hl; rw [List.eq_nil_of_length_eq_zero (by omega:l.length=0)]; exact h0
  | succ n ih =>
   intro l hl
   by_cases hn:l=[]
   ·rw [hn]; exact h0
   ·have:=zhT l
    exact h1 l hn (ih _ (by simp; omega))
 exact fun l=>key l.length l (Nat.le_refl _)
theorem zhO (l:List UInt8):zpS (zlE l)=l:=by
 induction l using zg4 with
 | h0=>rw [ziO]; rfl
 | h1 l hn ih=>rw [zhD l hn,zhP,ih]; exact List.take_append_drop _ _
theorem zwI {t:Tok} (h:t.valid∨t.broken=true):t.bs≠[]:=by
 rcases h with h | h
 ·rw [h.2]; intro e; have:=(zir (t.r:Int)).1; rw [e] at this; simp at this
 ·intro e; unfold Tok.broken at h; rw [e] at h; simp at h
def ztC (b:UInt8):Bool:=b.toNat / 64==2
def zu9:List UInt8→Prop
 | []=>True
 | b::_=>ztC b=false
theorem zl4 {n b0 b1 b2 b3 c1 c2 c3 m:Nat} (h1:n≤1∨b1 / 64≠2) (h2:m≤1∨c1 / 64≠2):decodeN n b0 b1 b2 b3=decodeN m b0 c1 c2 c3:=by
 unfold decodeN
 have e1:¬ (1<n∧b1 / 64=2):=by omega
 have e2:¬ (1<m∧c1 / 64=2):=by omega
 simp only [e1,e2,and_false,false_and,if_false]
theorem zl3 {n b0 b1 b2 b3 c2 c3 m:Nat} (hn:1<n) (hm:1<m) (h1:n≤2∨b2 / 64≠2) (h2:m≤2∨c2 / 64≠2):decodeN n b0 b1 b2 b3=decodeN m b0 b1 c2 c3:=by
 unfold decodeN
 have e1:¬ (2<n∧b2 / 64=2):=by omega
 have e2:¬ (2<m∧c2 / 64=2):=by omega
 simp only [e1,e2,and_false,false_and,if_false,hn,hm,true_and]
theorem zl2 {n b0 b1 b2 b3 c3 m:Nat} (hn:2<n) (hm:2<m) (h1:n≤3∨b3 / 64≠2) (h2:m≤3∨c3 / 64≠2):decodeN n b0 b1 b2 b3=decodeN m b0 b1 b2 c3:=by
 unfold decodeN
 have e1:¬ (3<n∧b3 / 64=2):=by omega
 have e2:¬ (3<m∧c3 / 64=2):=by omega
 have h1n:1<n:=by omega
 have h1m:1<m:=by omega
 simp only [e1,e2,and_false,if_false,hn,hm,h1n,h1m,true_and]
theorem zl0 {n b0 b1 b2 b3 m:Nat} (hn:3<n) (hm:3<m):decodeN n b0 b1 b2 b3=decodeN m b0 b1 b2 b3:=by
 unfold decodeN
 have h1n:1<n:=by omega
 have h1m:1<m:=by omega
 have h2n:2<n:=by omega
 have h2m:2<m:=by omega
 simp only [hn,hm,h1n,h1m,h2n,h2m,true_and]
theorem zlG {x:List UInt8} (h:zu9 x) (n:Nat):n+x.length≤n∨(x.getD 0 0).toNat / 64≠2:=by
 cases x with
 | nil=>simp
 | cons b x=>right; simpa [zu9,ztC] using h
theorem zro (l x:List UInt8) (hl:l≠[]) (hx:zu9 x):decodeL (l++x)=decodeL l:=by
 rw [decodeL_N,decodeL_N]
 rcases l with _ | ⟨a,_ | ⟨b,_ | ⟨c,_ | ⟨d,l⟩⟩⟩⟩
 ·exact absurd rfl hl
 ·refine zl4 ?_ (.inl (by simp))
  rcases zlG hx 1 with h | h
  ·left; simp only [List.length_append,List.length_cons,List.length_nil]; omega
  ·right; simpa using h
 ·refine zl3 (by simp) (by simp) ?_ (.inl (by simp))
  rcases zlG hx 2 with h | h
  ·left; simp only [List.length_append,List.length_cons,List.length_nil]; omega
  ·right; simpa using h
 ·refine zl2 (by simp) (by simp) ?_ (.inl (by simp))
  rcases zlG hx 3 with h | h
  ·left; simp only [List.length_append,List.length_cons,List.length_nil]; omega
  ·right; simpa using h
 ·exact zl0 (by simp) (by simp)
theorem zng (l x:List UInt8) (hx:zu9 x):zlE (l++x)=zlE l++zlE x:=by
 induction l using zg4 with
 | h0=>rw [ziO]; rfl
 | h1 l hn ih =>
  have hle:=zmP l hn
  have hne:l++x≠[]:=by simp [hn]
  rw [zhD _ hne,zhD l hn,zro l x hn hx,List.drop_append_of_le_length hle,ih,List.take_append_of_le_length hle]
  rfl
theorem zoV (r:Nat) (hv:r<55296∨(57343<r∧r≤1114111)) :
  (r≤127∧encodeRuneZ r=[(r:Int)])∨(128≤r∧r≤2047∧encodeRuneZ r=[192+(r:Int) / 64,128+(r:Int) % 64]) ∨
  (2048≤r∧r≤65535∧encodeRuneZ r=[224+(r:Int) / 4096,128+(r:Int) / 64 % 64,128+(r:Int) % 64]) ∨
  (65536≤r∧r≤1114111∧encodeRuneZ r=[240+(r:Int) / 262144,128+(r:Int) / 4096 % 64,128+(r:Int) / 64 % 64,128+(r:Int) % 64]):=by
 by_cases h1:r≤127
 ·exact .inl ⟨h1,encodeRuneZ_one (by omega) (by omega)⟩
 ·by_cases h2:r≤2047
  ·exact .inr (.inl ⟨by omega,h2,encodeRuneZ_two (by omega) (by omega)⟩)
  ·by_cases h3:r≤65535
   ·exact .inr (.inr (.inl ⟨by omega,h3,encodeRuneZ_three (by omega)⟩))
   ·exact .inr (.inr (.inr ⟨by omega,by omega,encodeRuneZ_four (by omega) (by omega)⟩))
theorem zfS (z:Int) (_h0:0≤z) (h1:z<256):(z.toNat.toUInt8).toNat=z.toNat:=by
 simp; omega
theorem zky (r:Nat) (hv:r<55296∨(57343<r∧r≤1114111)) (x:List UInt8):decodeL (encodeRune r++x)=(r,(encodeRune r).length):=by
 rw [decodeL_N]
 rcases zoV r hv with ⟨h,e⟩ | ⟨h,h',e⟩ | ⟨h,h',e⟩ | ⟨h,h',e⟩
 ·have hl:encodeRune r=[((r:Int).toNat.toUInt8)]:=by simp only [encodeRune,e,List.map_cons,List.map_nil]
  rw [hl]
  simp only [List.cons_append,List.nil_append,List.getD_cons_zero,List.length_cons]
  rw [zfS _ (by omega) (by omega)]
  unfold decodeN
  simp only [Int.toNat_natCast]
  rw [if_pos (by omega)]
  simp
 ·have hl:encodeRune r=[((192+(r:Int) / 64).toNat.toUInt8),((128+(r:Int) % 64).toNat.toUInt8)]:=by simp only [encodeRune,e,List.map_cons,List.map_nil]
  rw [hl]
  simp only [List.cons_append,List.nil_append,List.getD_cons_zero,List.getD_cons_succ,List.length_cons]
  rw [zfS _ (by omega) (by omega),zfS _ (by omega) (by omega)]
  have a1:(192+(r:Int) / 64).toNat=192+r / 64:=by omega
  have a2:(128+(r:Int) % 64).toNat=128+r % 64:=by omega
  rw [a1,a2]
  unfold decodeN
  have c1:¬ 192+r / 64<128:=by omega
  have c2:(192+r / 64) / 32=6:=by omega
  have c3:(128+r % 64) / 64=2:=by omega
  have c4:(192+r / 64) % 32*64+(128+r % 64) % 64=r:=by omega
  have c5:128≤r:=by omega
  rw [if_neg c1,if_pos ⟨c2,by omega,c3⟩,c4,if_pos c5]
  rfl
 ·have hl:encodeRune r=[((224+(r:Int) / 4096).toNat.toUInt8),((128+(r:Int) / 64 % 64).toNat.toUInt8),((128+(r:Int) % 64).toNat.toUInt8)]:=by simp only [encodeRune,e,List.map_cons,List.map_nil]
  rw [hl]
  simp only [List.cons_append,List.nil_append,List.getD_cons_zero,List.getD_cons_succ,List.length_cons]
  rw [zfS _ (by omega) (by omega),zfS _ (by omega) (by omega),zfS _ (by omega) (by omega)]
  have a1:(224+(r:Int) / 4096).toNat=224+r / 4096:=by omega
  have a2:(128+(r:Int) / 64 % 64).toNat=128+r / 64 % 64:=by omega
  have a3:(128+(r:Int) % 64).toNat=128+r % 64:=by omega
  rw [a1,a2,a3]
  unfold decodeN
  have c1:¬ 224+r / 4096<128:=by omega
  have c2:(224+r / 4096) / 32≠6:=by omega
  have c2':(224+r / 4096) / 16=14:=by omega
  have c3:(128+r / 64 % 64) / 64=2:=by omega
  have c3':(128+r % 64) / 64=2:=by omega
  have c4:(224+r / 4096) % 16*4096+(128+r / 64 % 64) % 64*64+(128+r % 64) % 64=r:=by omega
  have c5:2048≤r:=by omega
  rw [if_neg c1,if_neg (fun h=>c2 h.1),if_pos ⟨c2',⟨by omega,c3⟩,⟨by omega,c3'⟩⟩,c4,if_pos ⟨c5,by omega⟩]
  rfl
 ·have hl:encodeRune r=[((240+(r:Int) / 262144).toNat.toUInt8),((128+(r:Int) / 4096 % 64).toNat.toUInt8),((128+(r:Int) / 64 % 64).toNat.toUInt8),((128+(r:Int) % 64).toNat.toUInt8)]:=by simp only [encodeRune,e,List.map_cons,List.map_nil]
  rw [hl]
  simp only [List.cons_append,List.nil_append,List.getD_cons_zero,List.getD_cons_succ,List.length_cons]
  rw [zfS _ (by omega) (by omega),zfS _ (by omega) (by omega),zfS _ (by omega) (by omega),zfS _ (by omega) (by omega)]
  have a1:(240+(r:Int) / 262144).toNat=240+r / 262144:=by omega
  have a2:(128+(r:Int) / 4096 % 64).toNat=128+r / 4096 % 64:=by omega
  have a2':(128+(r:Int) / 64 % 64).toNat=128+r / 64 % 64:=by omega
  have a3:(128+(r:Int) % 64).toNat=128+r % 64:=by omega
  rw [a1,a2,a2',a3]
  unfold decodeN
  have c1:¬ 240+r / 262144<128:=by omega
  have c2:(240+r / 262144) / 32≠6:=by omega
  have c2':(240+r / 262144) / 16≠14:=by omega
  have c2'':(240+r / 262144) / 8=30:=by omega
  have c3:(128+r / 4096 % 64) / 64=2:=by omega
  have c3':(128+r / 64 % 64) / 64=2:=by omega
  have c3'':(128+r % 64) / 64=2:=by omega
  have c4:(240+r / 262144) % 8*262144+(128+r / 4096 % 64) % 64*4096+(128+r / 64 % 64) % 64*64+(128+r % 64) % 64=r:=by omega
  have c5:65536≤r:=by omega
  rw [if_neg c1,if_neg (fun h=>c2 h.1),if_neg (fun h=>c2' h.1),if_pos ⟨c2'',⟨by omega,c3⟩,⟨by omega,c3'⟩,⟨by omega,c3''⟩⟩,c4,if_pos ⟨c5,by omega⟩]
  rfl
theorem zlc {t:Tok} (h:t.valid) (x:List UInt8):zlE (t.bs++x)=t::zlE x:=by
 have hne:t.bs++x≠[]:=by simp [zwI (.inl h)]
 rw [zhD _ hne]
 rw [h.2,zky t.r h.1 x,← h.2]
 simp
inductive Sub:List Tok→List Tok→Prop
 | nil:Sub [] []
 | brk {b:Tok} {ts us:List Tok}:b.broken=true→Sub ts us→Sub (b::ts) (b::us)
 | val {gs vs ts us:List Tok}:gs≠[]→vs≠[]→(∀ t∈gs,t.valid)→(∀ t∈vs,t.valid)→Sub ts us→Sub (gs++ts) (vs++us)
def place:Nat→List Tok→List Pc
 | _,[]=>[]
 | i,t::ts=>⟨i,t.bs.length,t.r⟩::place (i+t.bs.length) ts
theorem zpr (l:List UInt8):∀ i,zef i l=place i (zlE l):=by
 induction l using zg4 with
 | h0=>intro i; rw [ziO,zd9]; rfl
 | h1 l hn ih =>
  intro i
  have hle:=zmP l hn
  have e:(l.take (decodeL l).2).length=(decodeL l).2:=by simp; omega
  rw [zdp i l hn,zhD l hn,place,ih,e]
structure Un where
 k:Int
 r:Nat
 f:Nat
 t:Nat
 al:Bool
 deriving DecidableEq
def zjh (k:Int):Bool:=k==11||k==4||k==9
def znX (p:Pc):Un:=⟨pk p,p.r,p.i,p.i+p.w,true⟩
def zf4:List Un×Option Un→Pc→List Un×Option Un
 | (E,none),p=>(E,some (znX p))
 | (E,some n),p=>if pk p=2∧zjh n.k=false then (E,some ⟨n.k,n.r,n.f,n.t+p.w,false⟩) else (E++[n],some (znX p))
def zfY (L:List Pc):List Un×Option Un:=L.foldl zf4 ([],none)
def zwZ:List Un×Option Un→List Un
 | (E,none)=>E
 | (E,some n)=>E++[n]
def units (L:List Pc):List Un:=zwZ (zfY L)
theorem zhZ (L:List Pc) (p:Pc):zfY (L++[p])=zf4 (zfY L) p:=by simp [zfY]
theorem zox (S:List Un×Option Un) (p:Pc):∃ E n,zf4 S p=(E,some n):=by
 rcases S with ⟨E,_ | n⟩
 ·exact ⟨E,_,rfl⟩
 ·unfold zf4
  by_cases h:pk p=2∧zjh n.k=false
  ·exact ⟨E,⟨n.k,n.r,n.f,n.t+p.w,false⟩,if_pos h⟩
  ·exact ⟨E++[n],_,if_neg h⟩
theorem ziN:∀ (L:List Pc) (E:List Un) (o:Option Un),∃ E',(L.foldl zf4 (E,o)).1=E++E'
 | [],E,o=>⟨[],by simp⟩
 | p::L,E,o=>by
  rcases o with _ | n
  ·exact ziN L E (some (znX p))
  ·by_cases hk:pk p=2∧zjh n.k=false
   ·have:(p::L).foldl zf4 (E,some n)=L.foldl zf4 (E,some ⟨n.k,n.r,n.f,n.t+p.w,false⟩):=by
     show L.foldl zf4 (zf4 (E,some n) p)=_
     simp only [zf4]; rw [if_pos hk]
    rw [this]; exact ziN L E _
   ·have:(p::L).foldl zf4 (E,some n)=L.foldl zf4 (E++[n],some (znX p)):=by
     show L.foldl zf4 (zf4 (E,some n) p)=_
     simp only [zf4]; rw [if_neg hk]
    rw [this]
    obtain ⟨E',h⟩:=ziN L (E++[n]) (some (znX p))
    exact ⟨n::E',by rw [h]; simp⟩
theorem znW (pre post:List Pc) (x:Pc) (E:List Un) (n:Un) (h:zfY pre=(E,some n)) (hk:¬ (pk x=2∧zjh n.k=false)):∃ q,units (pre++x::post)=E++n::q:=by
 have h1:zfY (pre++x::post)=(post.foldl zf4 (E++[n],some (znX x))):=by
  unfold zfY at *
  rw [List.foldl_append,h,List.foldl_cons]; simp only [zf4]; rw [if_neg hk]
 obtain ⟨E',h2⟩:=ziN post (E++[n]) (some (znX x))
 unfold units; rw [h1]
 rcases hf:post.foldl zf4 (E++[n],some (znX x)) with ⟨F,_ | m⟩
 ·rw [hf] at h2; exact ⟨E',by show F=_; simp only at h2; rw [h2]; simp⟩
 ·rw [hf] at h2; exact ⟨E'++[m],by show F++[m]=_; simp only at h2; rw [h2]; simp⟩
theorem zhY (L:List Pc) (E:List Un) (n:Un) (h:zfY L=(E,some n)):units L=E++[n]:=by unfold units; rw [h]; rfl
theorem zmh (L:List Pc) (E:List Un) (h:zfY L=(E,none)):L=[]∧E=[]:=by
 rcases List.eq_nil_or_concat L with rfl | ⟨D,p,rfl⟩
 ·simp [zfY] at h; exact ⟨rfl,h⟩
 ·rw [List.concat_eq_append,zhZ] at h
  obtain ⟨E',n,h'⟩:=zox (zfY D) p
  rw [h'] at h; simp at h
theorem zhC (l:List UInt8):∀ (k:Nat) (L B:List Pc),L.length≤k→pcs l=L++B→∀ E n,zfY L=(E,some n)→n.f<n.t∧n.t≤l.length∧(∀ p,B[0]?=some p→p.i=n.t)∧(B=[]→n.t=l.length)
 | 0,L,B,hk,h,E,n,hr=>by
  have:L=[]:=List.eq_nil_of_length_eq_zero (by omega)
  subst this; simp [zfY] at hr
 | k+1,L,B,hk,h,E,n,hr=>by
  rcases List.eq_nil_or_concat L with rfl | ⟨D,p,rfl⟩
  ·simp [zfY] at hr
  ·rw [List.concat_eq_append] at h hr hk
   obtain ⟨h1,h2,_⟩:=zf6 l p (by rw [h]; simp)
   obtain ⟨q1,q2,q3,q4⟩:=zkm l D p B (by rw [h]; simp)
   have hB:(∀ q,B[0]?=some q→q.i=p.i+p.w)∧(B=[]→p.i+p.w=l.length):=by
    by_cases hd':l.drop (p.i+p.w)=[]
    ·rw [hd',zd9] at q4
     subst q4
     refine ⟨fun q hq=>by simp at hq,fun _ => ?_⟩
     have:=congrArg List.length hd'
     simp at this; omega
    ·rw [zdp _ _ hd'] at q4
     refine ⟨fun q hq => ?_,fun he => ?_⟩
     ·rw [q4] at hq; simp at hq; rw [← hq]
     ·rw [he] at q4; cases q4
   rw [zhZ] at hr
   rcases hd:zfY D with ⟨F,_ | m⟩
   ·rw [hd] at hr; simp [zf4] at hr
    rw [← hr.2]; simp only [znX]; exact ⟨by omega,by omega,hB.1,hB.2⟩
   ·obtain ⟨h3,h4,h5,_⟩:=zhC l k D (p::B) (by simp at hk; omega) (by rw [h]; simp) F m hd
    have h6:=h5 p rfl
    rw [hd] at hr
    simp only [zf4] at hr
    by_cases hk':pk p=2∧zjh m.k=false
    ·rw [if_pos hk'] at hr
     simp at hr
     rw [← hr.2]; simp only; rw [← h6]; exact ⟨by omega,by omega,hB.1,hB.2⟩
    ·rw [if_neg hk'] at hr
     simp at hr
     rw [← hr.2]; simp only [znX]; exact ⟨by omega,by omega,hB.1,hB.2⟩
structure Tk where
 k:Int
 f:Nat
 t:Nat
 deriving DecidableEq
def joint (u:Un):Bool:=u.al&&(u.r==0x27||u.r==0x2019||u.r==0x2D||u.r==0x2010)
def dot (u:Un):Bool:=u.al&&(u.r==0x2C||u.r==0x2E)
def zgM (st:Int) (u:Un):Int×Int :=
 if st=1∨st=2 then (if u.k=1 then (1,1) else if st=1∧joint u=true then (2,2) else (st,0))
 else if st=3∨st=4 then (if u.k=3 then (3,1) else if st=3∧dot u=true then (4,2) else (st,0))
 else if st=5 then (if u.k=5 then (5,1) else (5,0))
 else if st=6 then (if u.k=11 then (6,1) else (6,0))
 else if st=8 then (if u.k=4∧u.r=10 then (7,1) else (8,0))
 else (st,0)
def begins (u:Un):Int×Int :=
 if u.k=1 then (1,1) else if u.k=3 then (3,2) else if u.k=5 then (5,3) else if u.k=11 then (6,7)
 else if u.k=4 then (if u.r=13 then 8 else 7,4) else if u.k=6∨u.k=7∨u.k=8 then (9,5) else (9,6)
structure Sc where
 st:Int
 tk:Tk
 h:Un
def zdU (s:Sc):List Tk:=if s.st=0 then [] else if s.st=2∨s.st=4 then [s.tk,⟨5,s.h.f,s.h.t⟩] else [s.tk]
def began (s:Sc) (u:Un):Sc:=⟨(begins u).1,⟨(begins u).2,u.f,u.t⟩,s.h⟩
def zie (S:List Tk×Sc) (u:Un):List Tk×Sc :=
 if (zgM S.2.st u).2=2 then (S.1,⟨(zgM S.2.st u).1,S.2.tk,u⟩)
 else if (zgM S.2.st u).2=1 then (S.1,⟨(zgM S.2.st u).1,⟨S.2.tk.k,S.2.tk.f,u.t⟩,S.2.h⟩)
 else (S.1++zdU S.2,began S.2 u)
def sc0:Sc:=⟨0,⟨0,0,0⟩,⟨0,0,0,0,false⟩⟩
def zgk (us:List Un):List Tk×Sc:=us.foldl zie ([],sc0)
def zoD (us:List Un):List Tk:=(zgk us).1++zdU (zgk us).2
theorem zoK (us:List Un) (u:Un):zgk (us++[u])=zie (zgk us) u:=by simp [zgk]
theorem zmB:∀ (us:List Un) (S:List Tk×Sc),∃ q,(us.foldl zie S).1=S.1++q
 | [],S=>⟨[],by simp⟩
 | u::us,S=>by
  obtain ⟨q,hq⟩:=zmB us (zie S u)
  simp only [List.foldl_cons]
  rw [hq]
  unfold zie
  split
  ·exact ⟨q,rfl⟩
  ·split
   ·exact ⟨q,rfl⟩
   ·exact ⟨zdU S.2++q,by simp⟩
theorem ziB (S:List Tk×Sc) (u:Un) (h1:(zgM S.2.st u).2≠2) (h2:(zgM S.2.st u).2≠1):zie S u=(S.1++zdU S.2,began S.2 u):=by
 unfold zie; rw [if_neg h1,if_neg h2]
theorem zsE (pre post:List Un) (u:Un) (h:(zgM (zgk pre).2.st u).2≠2∧(zgM (zgk pre).2.st u).2≠1):∃ q,zoD (pre++u::post)=(zgk pre).1++zdU (zgk pre).2++q:=by
 have h1:zgk (pre++u::post)=post.foldl zie ((zgk pre).1++zdU (zgk pre).2,began (zgk pre).2 u):=by
  rw [← ziB _ _ h.1 h.2]
  simp [zgk,List.foldl_append]
 obtain ⟨q,hq⟩:=zmB post ((zgk pre).1++zdU (zgk pre).2,began (zgk pre).2 u)
 unfold zoD; rw [h1,hq]
 exact ⟨_,List.append_assoc _ _ _⟩
def rest (s:Sc) (us:List Un):List Tk:=(us.foldl zie ([],s)).1++zdU (us.foldl zie ([],s)).2
theorem zaI {F:Fence} {P:Program} {w0:World} {K:Nat→Prop} {N:Nat} {dfs:List Deferred} {Q:Exit→Act→World→Prop} {σ:List (Nat×Value)} {L:List Asn} {ops:Array Oper} {vals:List (Nat×Nat×Value)} {D:Nat→Prop} (m:Nat) {i t:Nat} {v:Value} (hu:zdl (vals.map (fun p=>p.2.1))=true) (hi:zdl (vals.map (fun p=>p.1))=true) (hm:vals[m]?=some (i,t,v):=by exact rfl) :
  TO F P w0 K N dfs ops (Exit.then (fun a w=>At N dfs (Go.Proofs.YtdnalnmahlakkaaGreatDoor.dl (fun j=>D j∨j=i) vals++σ) a∧Holds w0 K L w) Q) [] ((t,v)::(Go.Proofs.YtdnalnmahlakkaaGreatDoor.dl D vals++σ)) L:=zbf m hu hi hm
theorem zbN {P:Program} {F:Fence} {w0:World} {K:Nat→Prop} {N:Nat} {σ:List (Nat×Value)} {L:List Asn} {fn:Func} {V:Unit→Value} {Bs:Unit→List Asn} {v:Value} (n:Nat) (hrs:fn.results=#[.tmp n]) (hσ:σ.lookup n=some v:=by rfl) (hv:v=V ():=by rfl) (hB:Bs ()=[]:=by rfl) :
  TX w0 K N [] (bodyPostM F 0 P fn (FR P V Bs w0 K)) .ret σ L :=
 zbA (rs:=[.tmp n]) () (.inl rfl) hrs (.cons (.tmp hσ) .nil) hv (by rw [hB]; exact Splits.nil)
theorem zxa {R RD0 RD:List Asn} {A:Asn} (k:Nat) (h:RdS R RD0 RD) (hs:zf5 R [k]=some [A]:=by kernel_rfl):RdS R RD0 (A::RD):=.own (zaa [k] hs rfl) (fun _ _ h=>sepL.one1.1 h) h
theorem zaH {D:Nat→Prop} {S:Nat→Prop} [DecidablePred S] {σ:List (Nat×Value)} {vals:List (Nat×Nat×Value)} {i t:Nat} {v:Value} (m:Nat) (hu:zdl (vals.map (fun p=>p.2.1))=true) (hd:∀ j,S j→D j) (hm:vals[m]?=some (i,t,v):=by exact rfl) (hs:decide (S i)=true:=by exact rfl):(dl D vals++σ).lookup t=some v:=zaU hu hm (hd i (of_decide_eq_true hs))
theorem znC (r:Int) (hv:0≤r∧(r<55296∨(57343<r∧r≤1114111))) (hr:¬ r=65533):¬ Utf8.encode r=⟨#[239,191,189]⟩:=by
 intro h
 obtain ⟨n,rfl⟩:=Int.eq_ofNat_of_zero_le hv.1
 have h1:encodeRune ((n:Nat):Int)=[239,191,189]:=by rw [← zg3,h]
 have h2:=zky n (by omega) []
 have h3:=zky 65533 (by omega) []
 rw [h1] at h2
 rw [zlY] at h3
 rw [h2] at h3
 have:=(Prod.mk.inj h3).1
 omega
theorem zqS (s:zBA) (p:Pc) (hp:p∈pcs s.data.toList):(pcs (s.extract p.i s.size).data.toList)[0]?=some ⟨0,p.w,p.r⟩:=by
 obtain ⟨g1,g2,hok⟩:=zf6 s.data.toList p hp
 have hlen:s.data.toList.length=s.size:=by rw [Array.length_toList]; rfl
 have he:=zpX s p.i
 rw [he]
 have hne:s.data.toList.drop p.i≠[]:=by
  intro h; have:=congrArg List.length h; simp at this; omega
 unfold pcs
 rw [zdp _ _ hne,hok.eq]; rfl
theorem zlC (r:Int) (hv:0≤r∧(r<55296∨(57343<r∧r≤1114111))):FnP prog 51 [.int .i32 r] (.int .i64 ((Utf8.encode r).size:Int)):=by
 by_cases hr:r=65533
 ·
  skip
  refine FnP.intro func51 rfl ntmps51 (by simp) ?_
  intro w0 K
  refine zar (zad (zaw rfl dc rfl (zap (zag (zar (zar (zad (zaD rfl dc rfl (zaX rfl dc rfl rfl (zbU (congrArg Value.bool (show ((r:Int) != 65533)=false from (bne_eq_false_iff_eq.2 hr))) zdZ) (zaD rfl dc rfl (zaW rfl dc (zaW rfl dc (zaW rfl dc ?_)))))))))))))
  refine zbx (b:=false) rfl dc rfl rfl (zap (zag (zaS rfl (zax (zag (zar (zad (zaD rfl dc rfl (zf9 rfl dc rfl (zfa underlying21 underlying9) (zdC rfl dc rfl underlying9 (zaw rfl dc rfl (zap (zag ?_)))))))))))))
  refine zaE ?_
  exact zbN 2 results51
 ·
  skip
  refine FnP.intro func51 rfl ntmps51 (by simp) ?_
  intro w0 K
  refine zar (zad (zaw rfl dc rfl (zap (zag (zar (zar (zad (zaD rfl dc rfl (zaX rfl dc rfl rfl (zbU (congrArg Value.bool (show ((r:Int) != 65533)=true from (bne_iff_ne.2 hr))) zdZ) (zaD rfl dc rfl (zaD rfl dc rfl (zf9 rfl dc rfl (zfa underlying21 underlying9) (zaX rfl dc rfl rfl (zbU (congrArg Value.bool (show (decide (Utf8.encode r=⟨#[239,191,189]⟩))=false from (decide_eq_false (znC r hv hr)))) zh6) ?_)))))))))))))
  refine zbx (b:=true) rfl dc rfl rfl (zap (zag (zaS rfl (zax (zag (zar (zad (zaD rfl dc rfl (zf9 rfl dc rfl (zfa underlying21 underlying9) (zdC rfl dc rfl underlying9 (zaw rfl dc rfl (zap (zag ?_)))))))))))))
  refine zaE ?_
  exact zbN 2 results51
theorem zuq (s:zBA) (hs:s.size≤9223372036854775800) (p:Pc) (hp:p∈pcs s.data.toList):FnP prog 30 [.string s,.int .i64 p.i] (.agg #[.int .i64 p.i,.int .i64 p.w,.int .i32 p.r,.bool p.broken]):=by
 obtain ⟨g1,g2,hok⟩:=zf6 s.data.toList p hp
 have hlen:s.data.toList.length=s.size:=by rw [Array.length_toList]; rfl
 rw [hlen] at g2
 have hval:=hok.valid
 have hq:=zqS s p hp
 have hsl3:p.i+3≤s.size→(s.extract p.i (p.i+3)).data.toList=(s.data.toList.drop p.i).take 3:=fun h=>by rw [Lib.extract_data]; simp
 by_cases hr:p.r=65533
 ·
  by_cases hw:p.w=1
  ·
   have hb:p.broken=true:=by simp [Pc.broken,hr,hw]
   have hres:zhJ [.agg #[.int .i64 p.i,.int .i64 1,.int .i32 65533,.bool true]]=Value.agg #[.int .i64 p.i,.int .i64 p.w,.int .i32 p.r,.bool p.broken]:=by rw [hb,hr,hw]; rfl
   by_cases h3:s.size - p.i<3
   ·
    skip
    refine FnP.intro func30 rfl ntmps30 (by simp) ?_
    intro w0 K
    refine zar (zad ?_)
    refine za6 zje rfl dc (fun b1 => ?_)
    refine zap (zag (zar (zar (zad (zaD rfl dc rfl (zaD rfl dc rfl (zeG rfl dc rfl rfl rfl (zeL (i:=p.i) (j:=s.size) underlying9 (.inr rfl) (.inl ⟨rfl,rfl⟩) (by omega) (Nat.le_refl _)) ?_)))))))
    refine zea underlying9 rfl dc rfl (fun b2 => ?_)
    show TO _ _ _ _ _ _ _ _ _ _ [cells b1 [.int .i64 0,.int .i64 0,.int .i32 0,.bool false] 47,obj b2 (.stringIter (s.extract p.i s.size) (zeW (s.extract p.i s.size) 0))]
    refine zap (zag (zaK ?_))
    refine zkI (β:=Unit) (fun _u=>True) (fun _u=>[(0,.string s),(1,.int .i64 (p.i:Int)),(4,.pointer (some ⟨b1,0,none⟩)),(11,.pointer (some ⟨b2,0,none⟩))]) (fun _u=>[cells b1 [.int .i64 0,.int .i64 0,.int .i32 0,.bool false] 47,obj b2 (.stringIter (s.extract p.i s.size) (zeW (s.extract p.i s.size) 0))]) (fun _u=>0) () trivial (zb7 rfl (zb7 rfl (zb7 rfl (zb7 rfl (zeQ))))) (zaa [0,1] kr rfl) ?_
    rintro _ _
    refine zar (zad (zex (k:=1) (m:=0) (p:=⟨0,p.w,p.r⟩) rfl dc rfl rfl hq (zaJ rfl dc rfl rfl (zap (zag (zar (zbw rfl (zax (zag (zaK (zar (zad (zaJ rfl dc rfl rfl ?_)))))))))))))
    refine zaw rfl dc rfl (zap (zag (zar (zad (zaD rfl dc rfl (zbv (v:=.int .i64 ((Utf8.encode (p.r:Int)).size:Int)) (vs:=[.int .i32 (p.r:Int)]) rfl dc rfl rfl rfl zp2 (zlC _ (by omega)) (zaw rfl dc rfl (zap (zag (zar (zar (zad (zaD rfl dc rfl ?_)))))))))))))
    refine zaX rfl dc rfl rfl (zbU (congrArg Value.bool (show (((p.r:Int):Int)==65533)=true from (beq_iff_eq.2 (by omega)))) zaP) (zaD rfl dc rfl (zaD rfl dc rfl (zdC rfl dc rfl underlying9 (zaD rfl dc rfl (zaX rfl dc rfl rfl (zfO (r:=(s.size:Int) - (p.i:Int)) (IntWalk.i64_in _ (by omega))) (zaX rfl dc rfl rfl (zbU (congrArg Value.bool (show (decide ((((s.size:Int) - (p.i:Int)):Int)<3))=true from (decide_eq_true (by omega)))) zb4) (zaD rfl dc rfl (zaW rfl dc (zaW rfl dc (zaW rfl dc (zaW rfl dc (zaW rfl dc (zaW rfl dc ?_)))))))))))))
    refine zbx (b:=true) rfl dc rfl rfl (zbx (b:=true) rfl dc rfl rfl (zap (zag (zbw rfl (zar (zad (zaD rfl dc rfl ?_)))))))
    refine zbB (v:=.agg #[.int .i64 (p.i:Int),.int .i64 1,.int .i32 65533,.bool true]) (ps:=[(0,.tmp 34),(1,.const (.int .i64 1)),(2,.const (.int .i32 65533)),(3,.const (.bool true))]) rfl dc rfl (fun _=>by kernel_rfl) ?_
    refine za2 (k:=0) (vs:=[.int .i64 (p.i:Int),.int .i64 1,.int .i32 65533,.bool true]) (l':=[.int .i64 (p.i:Int),.int .i64 1,.int .i32 65533,.bool true]) zgE rfl rfl rfl rfl rfl (Nat.le_of_ble_eq_true rfl) rfl rfl ?_
    show TO _ _ _ _ _ _ _ _ _ _ [cells b1 [.int .i64 (p.i:Int),.int .i64 1,.int .i32 65533,.bool true] 47,obj b2 (.stringIter (s.extract p.i s.size) (zeW (s.extract p.i s.size) (0+1)))]
    refine zap (zag (zaE (zao (zau (zao (zau (zao ?_)))))))
    exact zbA (rs:=[.cell 4 47]) () (.inl rfl) results30 (.cons (.cells ze7 (k:=0) rfl rfl rfl) .nil) hres Splits.nil
   ·
    have hsl:¬ s.extract p.i (p.i+3)=⟨#[239,191,189]⟩:=fun h=>hok.lost_bad hr hw (by rw [← hsl3 (by omega),h])
    refine FnP.intro func30 rfl ntmps30 (by simp) ?_
    intro w0 K
    refine zar (zad ?_)
    refine za6 zje rfl dc (fun b1 => ?_)
    refine zap (zag (zar (zar (zad (zaD rfl dc rfl (zaD rfl dc rfl (zeG rfl dc rfl rfl rfl (zeL (i:=p.i) (j:=s.size) underlying9 (.inr rfl) (.inl ⟨rfl,rfl⟩) (by omega) (Nat.le_refl _)) ?_)))))))
    refine zea underlying9 rfl dc rfl (fun b2 => ?_)
    show TO _ _ _ _ _ _ _ _ _ _ [cells b1 [.int .i64 0,.int .i64 0,.int .i32 0,.bool false] 47,obj b2 (.stringIter (s.extract p.i s.size) (zeW (s.extract p.i s.size) 0))]
    refine zap (zag (zaK ?_))
    refine zkI (β:=Unit) (fun _u=>True) (fun _u=>[(0,.string s),(1,.int .i64 (p.i:Int)),(4,.pointer (some ⟨b1,0,none⟩)),(11,.pointer (some ⟨b2,0,none⟩))]) (fun _u=>[cells b1 [.int .i64 0,.int .i64 0,.int .i32 0,.bool false] 47,obj b2 (.stringIter (s.extract p.i s.size) (zeW (s.extract p.i s.size) 0))]) (fun _u=>0) () trivial (zb7 rfl (zb7 rfl (zb7 rfl (zb7 rfl (zeQ))))) (zaa [0,1] kr rfl) ?_
    rintro _ _
    refine zar (zad (zex (k:=1) (m:=0) (p:=⟨0,p.w,p.r⟩) rfl dc rfl rfl hq (zaJ rfl dc rfl rfl (zap (zag (zar (zbw rfl (zax (zag (zaK (zar (zad (zaJ rfl dc rfl rfl ?_)))))))))))))
    refine zaw rfl dc rfl (zap (zag (zar (zad (zaD rfl dc rfl (zbv (v:=.int .i64 ((Utf8.encode (p.r:Int)).size:Int)) (vs:=[.int .i32 (p.r:Int)]) rfl dc rfl rfl rfl zp2 (zlC _ (by omega)) (zaw rfl dc rfl (zap (zag (zar (zar (zad (zaD rfl dc rfl ?_)))))))))))))
    refine zaX rfl dc rfl rfl (zbU (congrArg Value.bool (show (((p.r:Int):Int)==65533)=true from (beq_iff_eq.2 (by omega)))) zaP) (zaD rfl dc rfl (zaD rfl dc rfl (zdC rfl dc rfl underlying9 (zaD rfl dc rfl (zaX rfl dc rfl rfl (zfO (r:=(s.size:Int) - (p.i:Int)) (IntWalk.i64_in _ (by omega))) (zaX rfl dc rfl rfl (zbU (congrArg Value.bool (show (decide ((((s.size:Int) - (p.i:Int)):Int)<3))=false from (decide_eq_false (by omega)))) zb4) (zaD rfl dc rfl (zaD rfl dc rfl (zaD rfl dc rfl (zaD rfl dc rfl (zaX rfl dc rfl rfl (zbs (r:=((p.i+3:Nat):Int)) (by rw [IntWalk.i64_in _ (by omega)]; omega)) (zeG rfl dc rfl rfl rfl (zeL (i:=p.i) (j:=p.i+3) underlying9 (.inr rfl) (.inr rfl) (by omega) (by omega)) (zaX rfl dc rfl rfl (zbU (congrArg Value.bool (show (!decide (s.extract p.i (p.i+3)=⟨#[239,191,189]⟩))=true from (by rw [decide_eq_false hsl]; rfl))) zh5) ?_)))))))))))))
    refine zbx (b:=false) rfl dc rfl rfl (zbx (b:=true) rfl dc rfl rfl (zap (zag (zbw rfl (zar (zad (zaD rfl dc rfl ?_)))))))
    refine zbB (v:=.agg #[.int .i64 (p.i:Int),.int .i64 1,.int .i32 65533,.bool true]) (ps:=[(0,.tmp 34),(1,.const (.int .i64 1)),(2,.const (.int .i32 65533)),(3,.const (.bool true))]) rfl dc rfl (fun _=>by kernel_rfl) ?_
    refine za2 (k:=0) (vs:=[.int .i64 (p.i:Int),.int .i64 1,.int .i32 65533,.bool true]) (l':=[.int .i64 (p.i:Int),.int .i64 1,.int .i32 65533,.bool true]) zgE rfl rfl rfl rfl rfl (Nat.le_of_ble_eq_true rfl) rfl rfl ?_
    show TO _ _ _ _ _ _ _ _ _ _ [cells b1 [.int .i64 (p.i:Int),.int .i64 1,.int .i32 65533,.bool true] 47,obj b2 (.stringIter (s.extract p.i s.size) (zeW (s.extract p.i s.size) (0+1)))]
    refine zap (zag (zaE (zao (zau (zao (zau (zao ?_)))))))
    exact zbA (rs:=[.cell 4 47]) () (.inl rfl) results30 (.cons (.cells ze7 (k:=0) rfl rfl rfl) .nil) hres Splits.nil
  ·
   have hb:p.broken=false:=by simp [Pc.broken,hw]
   obtain ⟨e1,e2⟩:=hok.lost_ok hr hw
   have hsz:(Utf8.encode (p.r:Int)).size=p.w:=by rw [zgm]; exact hok.width (fun h=>hw h.2)
   have hres:zhJ [.agg #[.int .i64 p.i,.int .i64 ((Utf8.encode (p.r:Int)).size:Int),.int .i32 p.r,.bool false]]=Value.agg #[.int .i64 p.i,.int .i64 p.w,.int .i32 p.r,.bool p.broken]:=by rw [hb,hsz]; rfl
   have hsl:s.extract p.i (p.i+3)=⟨#[239,191,189]⟩:=by apply ByteArray.ext; apply Array.toList_inj.1; rw [hsl3 (by omega),e1]
   refine FnP.intro func30 rfl ntmps30 (by simp) ?_
   intro w0 K
   refine zar (zad ?_)
   refine za6 zje rfl dc (fun b1 => ?_)
   refine zap (zag (zar (zar (zad (zaD rfl dc rfl (zaD rfl dc rfl (zeG rfl dc rfl rfl rfl (zeL (i:=p.i) (j:=s.size) underlying9 (.inr rfl) (.inl ⟨rfl,rfl⟩) (by omega) (Nat.le_refl _)) ?_)))))))
   refine zea underlying9 rfl dc rfl (fun b2 => ?_)
   show TO _ _ _ _ _ _ _ _ _ _ [cells b1 [.int .i64 0,.int .i64 0,.int .i32 0,.bool false] 47,obj b2 (.stringIter (s.extract p.i s.size) (zeW (s.extract p.i s.size) 0))]
   refine zap (zag (zaK ?_))
   refine zkI (β:=Unit) (fun _u=>True) (fun _u=>[(0,.string s),(1,.int .i64 (p.i:Int)),(4,.pointer (some ⟨b1,0,none⟩)),(11,.pointer (some ⟨b2,0,none⟩))]) (fun _u=>[cells b1 [.int .i64 0,.int .i64 0,.int .i32 0,.bool false] 47,obj b2 (.stringIter (s.extract p.i s.size) (zeW (s.extract p.i s.size) 0))]) (fun _u=>0) () trivial (zb7 rfl (zb7 rfl (zb7 rfl (zb7 rfl (zeQ))))) (zaa [0,1] kr rfl) ?_
   rintro _ _
   refine zar (zad (zex (k:=1) (m:=0) (p:=⟨0,p.w,p.r⟩) rfl dc rfl rfl hq (zaJ rfl dc rfl rfl (zap (zag (zar (zbw rfl (zax (zag (zaK (zar (zad (zaJ rfl dc rfl rfl ?_)))))))))))))
   refine zaw rfl dc rfl (zap (zag (zar (zad (zaD rfl dc rfl (zbv (v:=.int .i64 ((Utf8.encode (p.r:Int)).size:Int)) (vs:=[.int .i32 (p.r:Int)]) rfl dc rfl rfl rfl zp2 (zlC _ (by omega)) (zaw rfl dc rfl (zap (zag (zar (zar (zad (zaD rfl dc rfl ?_)))))))))))))
   refine zaX rfl dc rfl rfl (zbU (congrArg Value.bool (show (((p.r:Int):Int)==65533)=true from (beq_iff_eq.2 (by omega)))) zaP) (zaD rfl dc rfl (zaD rfl dc rfl (zdC rfl dc rfl underlying9 (zaD rfl dc rfl (zaX rfl dc rfl rfl (zfO (r:=(s.size:Int) - (p.i:Int)) (IntWalk.i64_in _ (by omega))) (zaX rfl dc rfl rfl (zbU (congrArg Value.bool (show (decide ((((s.size:Int) - (p.i:Int)):Int)<3))=false from (decide_eq_false (by omega)))) zb4) (zaD rfl dc rfl (zaD rfl dc rfl (zaD rfl dc rfl (zaD rfl dc rfl (zaX rfl dc rfl rfl (zbs (r:=((p.i+3:Nat):Int)) (by rw [IntWalk.i64_in _ (by omega)]; omega)) (zeG rfl dc rfl rfl rfl (zeL (i:=p.i) (j:=p.i+3) underlying9 (.inr rfl) (.inr rfl) (by omega) (by omega)) (zaX rfl dc rfl rfl (zbU (congrArg Value.bool (show (!decide (s.extract p.i (p.i+3)=⟨#[239,191,189]⟩))=false from (by rw [decide_eq_true hsl]; rfl))) zh5) ?_)))))))))))))
   refine zbx (b:=false) rfl dc rfl rfl (zbx (b:=true) rfl dc rfl rfl (zap (zag (zaS rfl (zax (zag (zar (zad (zaD rfl dc rfl (zaD rfl dc rfl (zaD rfl dc rfl ?_)))))))))))
   refine zbB (v:=.agg #[.int .i64 (p.i:Int),.int .i64 ((Utf8.encode (p.r:Int)).size:Int),.int .i32 (p.r:Int),.bool false]) (ps:=[(0,.tmp 36),(1,.tmp 37),(2,.tmp 38)]) rfl dc rfl (fun _=>by kernel_rfl) ?_
   refine za2 (k:=0) (vs:=[.int .i64 (p.i:Int),.int .i64 ((Utf8.encode (p.r:Int)).size:Int),.int .i32 (p.r:Int),.bool false]) (l':=[.int .i64 (p.i:Int),.int .i64 ((Utf8.encode (p.r:Int)).size:Int),.int .i32 (p.r:Int),.bool false]) zgE rfl rfl rfl rfl rfl (Nat.le_of_ble_eq_true rfl) rfl rfl ?_
   show TO _ _ _ _ _ _ _ _ _ _ [cells b1 [.int .i64 (p.i:Int),.int .i64 ((Utf8.encode (p.r:Int)).size:Int),.int .i32 (p.r:Int),.bool false] 47,obj b2 (.stringIter (s.extract p.i s.size) (zeW (s.extract p.i s.size) (0+1)))]
   refine zap (zag (zaE (zau (zao (zau (zao ?_))))))
   exact zbA (rs:=[.cell 4 47]) () (.inl rfl) results30 (.cons (.cells ze7 (k:=0) rfl rfl rfl) .nil) hres Splits.nil
 ·
  have hb:p.broken=false:=by simp [Pc.broken,hr]
  have hsz:(Utf8.encode (p.r:Int)).size=p.w:=by rw [zgm]; exact hok.width (fun h=>hr h.1)
  have hres:zhJ [.agg #[.int .i64 p.i,.int .i64 ((Utf8.encode (p.r:Int)).size:Int),.int .i32 p.r,.bool false]]=Value.agg #[.int .i64 p.i,.int .i64 p.w,.int .i32 p.r,.bool p.broken]:=by rw [hb,hsz]; rfl
  refine FnP.intro func30 rfl ntmps30 (by simp) ?_
  intro w0 K
  refine zar (zad ?_)
  refine za6 zje rfl dc (fun b1 => ?_)
  refine zap (zag (zar (zar (zad (zaD rfl dc rfl (zaD rfl dc rfl (zeG rfl dc rfl rfl rfl (zeL (i:=p.i) (j:=s.size) underlying9 (.inr rfl) (.inl ⟨rfl,rfl⟩) (by omega) (Nat.le_refl _)) ?_)))))))
  refine zea underlying9 rfl dc rfl (fun b2 => ?_)
  show TO _ _ _ _ _ _ _ _ _ _ [cells b1 [.int .i64 0,.int .i64 0,.int .i32 0,.bool false] 47,obj b2 (.stringIter (s.extract p.i s.size) (zeW (s.extract p.i s.size) 0))]
  refine zap (zag (zaK ?_))
  refine zkI (β:=Unit) (fun _u=>True) (fun _u=>[(0,.string s),(1,.int .i64 (p.i:Int)),(4,.pointer (some ⟨b1,0,none⟩)),(11,.pointer (some ⟨b2,0,none⟩))]) (fun _u=>[cells b1 [.int .i64 0,.int .i64 0,.int .i32 0,.bool false] 47,obj b2 (.stringIter (s.extract p.i s.size) (zeW (s.extract p.i s.size) 0))]) (fun _u=>0) () trivial (zb7 rfl (zb7 rfl (zb7 rfl (zb7 rfl (zeQ))))) (zaa [0,1] kr rfl) ?_
  rintro _ _
  refine zar (zad (zex (k:=1) (m:=0) (p:=⟨0,p.w,p.r⟩) rfl dc rfl rfl hq (zaJ rfl dc rfl rfl (zap (zag (zar (zbw rfl (zax (zag (zaK (zar (zad (zaJ rfl dc rfl rfl ?_)))))))))))))
  refine zaw rfl dc rfl (zap (zag (zar (zad (zaD rfl dc rfl (zbv (v:=.int .i64 ((Utf8.encode (p.r:Int)).size:Int)) (vs:=[.int .i32 (p.r:Int)]) rfl dc rfl rfl rfl zp2 (zlC _ (by omega)) (zaw rfl dc rfl (zap (zag (zar (zar (zad (zaD rfl dc rfl ?_)))))))))))))
  refine zaX rfl dc rfl rfl (zbU (congrArg Value.bool (show (((p.r:Int):Int)==65533)=false from (beq_eq_false_iff_ne.2 (by omega)))) zaP) (zaD rfl dc rfl (zaW rfl dc (zaW rfl dc (zaW rfl dc (zaW rfl dc (zaW rfl dc (zaW rfl dc (zaW rfl dc (zaW rfl dc (zaW rfl dc (zaW rfl dc (zaW rfl dc (zaW rfl dc ?_)))))))))))))
  refine zaW rfl dc (zbx (b:=false) rfl dc rfl rfl (zap (zag (zaS rfl (zax (zag (zar (zad (zaD rfl dc rfl (zaD rfl dc rfl (zaD rfl dc rfl ?_)))))))))))
  refine zbB (v:=.agg #[.int .i64 (p.i:Int),.int .i64 ((Utf8.encode (p.r:Int)).size:Int),.int .i32 (p.r:Int),.bool false]) (ps:=[(0,.tmp 36),(1,.tmp 37),(2,.tmp 38)]) rfl dc rfl (fun _=>by kernel_rfl) ?_
  refine za2 (k:=0) (vs:=[.int .i64 (p.i:Int),.int .i64 ((Utf8.encode (p.r:Int)).size:Int),.int .i32 (p.r:Int),.bool false]) (l':=[.int .i64 (p.i:Int),.int .i64 ((Utf8.encode (p.r:Int)).size:Int),.int .i32 (p.r:Int),.bool false]) zgE rfl rfl rfl rfl rfl (Nat.le_of_ble_eq_true rfl) rfl rfl ?_
  show TO _ _ _ _ _ _ _ _ _ _ [cells b1 [.int .i64 (p.i:Int),.int .i64 ((Utf8.encode (p.r:Int)).size:Int),.int .i32 (p.r:Int),.bool false] 47,obj b2 (.stringIter (s.extract p.i s.size) (zeW (s.extract p.i s.size) (0+1)))]
  refine zap (zag (zaE (zau (zao (zau (zao ?_))))))
  exact zbA (rs:=[.cell 4 47]) () (.inl rfl) results30 (.cons (.cells ze7 (k:=0) rfl rfl rfl) .nil) hres Splits.nil
abbrev unC (x:Un):List Value:=[.int .i64 x.k,.int .i32 (x.r:Int),.int .i64 (x.f:Int),.int .i64 (x.t:Int),.bool x.al]
abbrev scC (v:Int) (s:Sc):List Value:=[.int .i64 v,.int .i64 s.tk.k,.int .i64 (s.tk.f:Int),.int .i64 (s.tk.t:Int),.int .i64 s.h.k,.int .i32 (s.h.r:Int),.int .i64 (s.h.f:Int),.int .i64 (s.h.t:Int),.bool s.h.al]
theorem zkQ {α:Type} {l:List α} {k:Nat} {p:α} (h:l[k]?=some p):l=l.take k++p::l.drop (k+1):=by
 obtain ⟨hk,hp⟩:=List.getElem?_eq_some_iff.1 h
 have h1:=List.drop_eq_getElem_cons hk
 rw [hp] at h1
 rw [← h1,List.take_append_drop]
theorem zpd {α:Type} (L:List α) (k:Nat) (x:α) (h:L[k]?=some x):L.take (k+1)=L.take k++[x]:=by
 obtain ⟨hk,rfl⟩:=List.getElem?_eq_some_iff.1 h
 simp
def uK:Option Un→Int | none=>0 | some n=>n.k
def uR:Option Un→Int | none=>0 | some n=>n.r
def uF:Option Un→Int | none=>0 | some n=>n.f
def uT:Option Un→Int | none=>0 | some n=>n.t
def uA:Option Un→Bool | none=>false | some n=>n.al
def unV (u:Un):List Value:=[.int .i64 u.k,.int .i32 u.r,.int .i64 u.f,.int .i64 u.t,.bool u.al]
def unA (u:Un):List Value:=[.agg (unV u).toArray]
theorem zmu (s:zBA) (hs:s.size≤4611686018427387904) (Bs:Nat):Itr prog 50 [.pointer (some ⟨Bs,0,none⟩)] pcA (pcs s.data.toList) [(Bs,.cells #[.string s] 9 (0,0))]:=by
 refine Itr.intro func50 rfl ntmps50 (by simp) ?_
 intro l w0 K I X hRo hy
 refine zar (zad (zf2 (i:=0) hRo zhH rfl dc rfl rfl rfl ?_))
 refine zea underlying9 rfl dc rfl (fun b1 => ?_)
 refine zap (zag (zaK ?_))
 refine zkI (β:=Nat) (fun k=>True) (fun k=>[(0,.func (.yield l) #[] #[]),(1,.pointer (some ⟨Bs,0,none⟩)),(5,.pointer (some ⟨b1,0,none⟩))]) (fun k=>[I ((pcs s.data.toList).take k),obj b1 (.stringIter s (zeW s k))]) (fun k=>(pcs s.data.toList).length - k) 0 trivial (zb7 rfl (zb7 rfl (zb7 rfl (zeQ)))) (zaa [0,1] kr rfl) ?_
 rintro k _
 by_cases hlt:k<(pcs s.data.toList).length
 ·
  obtain ⟨p,hp⟩:∃ p,(pcs s.data.toList)[k]?=some p:=⟨_,List.getElem?_eq_getElem hlt⟩
  have hz:pcs s.data.toList=(pcs s.data.toList).take k++p::(pcs s.data.toList).drop (k+1):=zkQ hp
  refine zar (zad (zex (k:=1) (m:=k) (p:=p) rfl dc rfl rfl hp (zaJ rfl dc rfl rfl (zap (zag (zar (zbw rfl (zax (zag (zaK (zar (zad (zaJ rfl dc rfl rfl ?_)))))))))))))
  refine zaw rfl dc rfl (zap (zag (zar (zad (zaD rfl dc rfl (zf2 (i:=0) hRo zhH rfl dc rfl rfl rfl (zaD rfl dc rfl (zbv (v:=.agg #[.int .i64 (p.i:Int),.int .i64 (p.w:Int),.int .i32 (p.r:Int),.bool p.broken]) (vs:=[.string s,.int .i64 (p.i:Int)]) rfl dc rfl rfl rfl ztt (zuq s (by omega) p (List.mem_of_getElem? hp)) ?_))))))))
  refine zcX hy rfl dc rfl hz rfl (k:=0) rfl ?_ ?_
  ·
   refine zdM rfl dc rfl zcA (zap (zag (zaS rfl (zax (zah ?_)))))
   skip
   refine zfA (k:=0) rfl (show I ((pcs s.data.toList).take k++[p])=I ((pcs s.data.toList).take (k+1)) from (congrArg I (zpd _ _ _ hp).symm)) ?_
   show TX _ _ _ _ _ _ _ [I ((pcs s.data.toList).take (k+1)),obj b1 (.stringIter s (zeW s (k+1)))]
   exact zrA (k+1) trivial (by omega) (zb7 rfl (zb7 rfl (zb7 rfl (zeQ)))) (zaa [0,1] kr rfl)
  ·
   refine zdM rfl dc rfl zcA (zap (zag (zbw rfl (zaE (zau (zao (zau ?_)))))))
   exact zfi (ds:=[]) _ p _ hz (.inl rfl) Splits.nil results50 (zaa [0] kr rfl)
 ·
  have he:I (pcs s.data.toList)=I ((pcs s.data.toList).take k):=by rw [List.take_of_length_le (Nat.le_of_not_lt hlt)]
  refine zar (zad (zgg (k:=1) (m:=k) rfl dc rfl rfl (by omega) (zaJ rfl dc rfl rfl (zap (zag (zar (zaS rfl (zcy (zaV (zaV (zbh ?_)))))))))))
  exact zfD (ds:=[]) (.inr rfl) Splits.nil results50 he (zaa [0] kr rfl)
theorem zsJ (s:zBA):Fn prog 29 [.string s] [] (fun b:Nat=>.func (.func 50) #[] #[.pointer (some ⟨b,0,none⟩)]) (fun b=>[cells b [.string s] 9]):=by
 refine Fn.intro func29 rfl ntmps29 (by simp) ?_
 intro w0 K
 refine zar (zad ?_)
 refine zdN rfl dc rfl (fun b1 => ?_)
 refine zaw rfl dc rfl (zap (zag (zar (zad (zdH (x1:=[]) (x2:=[.tmp 1]) rfl dc rfl rfl (zaw rfl dc rfl (zap (zag (zaE ?_)))))))))
 exact zbA (rs:=[.tmp 2]) b1 (.inl rfl) results29 (.cons (.tmp rfl) .nil) rfl (zaa [0] kr rfl)
theorem zu7 (k:Int):FnP prog 77 [.int .i64 k] (.bool (zjh k)):=by
 refine FnP.intro func77 rfl ntmps77 (by simp) ?_
 intro w0 K
 refine zar (zad (zaw rfl dc rfl (zap (zag (zar (zad (zaD rfl dc rfl (zaX rfl dc rfl rfl zaP (zaD rfl dc rfl ?_)))))))))
 refine zes (s:=5) rfl (fun h1 => ?_) (fun h1 => ?_)
 ·
  have h1:=beq_iff_eq.1 h1
  refine zaW rfl dc (zaW rfl dc (zbx (b:=true) rfl dc rfl rfl (zaD rfl dc rfl (zaW rfl dc (zaW rfl dc (zbx (b:=true) rfl dc rfl rfl (zaw rfl dc rfl (zap (zag (zaE ?_))))))))))
  exact zbA (rs:=[.tmp 2]) () (.inl rfl) results77 (.cons (.tmp rfl) .nil) (congrArg Value.bool (by rw [Bool.eq_iff_iff]; unfold zjh; simp_all <;> (try intro _) <;> omega)) Splits.nil
 ·
  have h1:=beq_eq_false_iff_ne.1 h1
  refine zaD rfl dc rfl (zaX rfl dc rfl rfl zaP (zbx (b:=false) rfl dc rfl rfl (zaD rfl dc rfl ?_)))
  refine zes (s:=9) rfl (fun h2 => ?_) (fun h2 => ?_)
  ·
   have h2:=beq_iff_eq.1 h2
   refine zaW rfl dc (zaW rfl dc (zbx (b:=true) rfl dc rfl rfl (zaw rfl dc rfl (zap (zag (zaE ?_))))))
   exact zbA (rs:=[.tmp 2]) () (.inl rfl) results77 (.cons (.tmp rfl) .nil) (congrArg Value.bool (by rw [Bool.eq_iff_iff]; unfold zjh; simp_all <;> (try intro _) <;> omega)) Splits.nil
  ·
   have h2:=beq_eq_false_iff_ne.1 h2
   refine zaD rfl dc rfl (zaX rfl dc rfl rfl zaP (zbx (b:=false) rfl dc rfl rfl (zaw rfl dc rfl (zap (zag (zaE ?_))))))
   exact zbA (rs:=[.tmp 2]) () (.inl rfl) results77 (.cons (.tmp rfl) .nil) (congrArg Value.bool (by rw [Bool.eq_iff_iff]; unfold zjh; simp_all <;> (try intro _) <;> omega)) Splits.nil
theorem zpI (u:Un):FnP prog 78 [.agg #[.int .i64 u.k,.int .i32 u.r,.int .i64 u.f,.int .i64 u.t,.bool u.al]] (.bool (joint u)):=by
 refine FnP.intro func78 rfl ntmps78 (by simp) ?_
 intro w0 K
 refine zar (zad ?_)
 refine zdN rfl dc rfl (fun b1 => ?_)
 refine zaw rfl dc rfl (zap (zag (zar (zar (zad (zac zgy rfl dc rfl (show _=1 from rfl) (zat (k:=0) zfq rfl dc rfl rfl rfl (zap (zag (zaK (zar (zar (zad ?_)))))))))))))
 refine zaX rfl dc rfl rfl zaP (zaw rfl dc rfl (zap (zag ?_)))
 refine zbb rfl (fun h1 => ?_) (fun h1 => ?_)
 ·
  have h1:=beq_iff_eq.1 h1
  refine zax (zag ?_)
  refine zbb rfl (fun h2 => ?_) (fun h2 => ?_)
  ·
   have h2:=beq_iff_eq.1 h2
   refine zar (zad (zac zh3 rfl dc rfl (show _=4 from rfl) (zat (k:=0) zkg rfl dc rfl rfl rfl (zaw rfl dc rfl (zap (zag (zaE (zau (zao ?_)))))))))
   exact zbA (rs:=[.tmp 2]) () (.inl rfl) results78 (.cons (.tmp rfl) .nil) (congrArg Value.bool (by rw [Bool.eq_iff_iff]; unfold joint; simp_all <;> (try intro _) <;> omega)) Splits.nil
  ·
   have h2:=beq_eq_false_iff_ne.1 h2
   refine zax (zah (zag (zar (zad (zaw rfl dc rfl (zap (zag (zaE ?_))))))))
   exact zbA (rs:=[.tmp 2]) () (.inl rfl) results78 (.cons (.tmp rfl) .nil) (congrArg Value.bool (by rw [Bool.eq_iff_iff]; unfold joint; simp_all <;> (try intro _) <;> omega)) Splits.nil
 ·
  have h1:=beq_eq_false_iff_ne.1 h1
  refine zar (zad (zaX rfl dc rfl rfl zaP (zaw rfl dc rfl (zap (zag ?_)))))
  refine zbb rfl (fun h3 => ?_) (fun h3 => ?_)
  ·
   have h3:=beq_iff_eq.1 h3
   refine zax (zag ?_)
   refine zbb rfl (fun h4 => ?_) (fun h4 => ?_)
   ·
    have h4:=beq_iff_eq.1 h4
    refine zar (zad (zac zh3 rfl dc rfl (show _=4 from rfl) (zat (k:=0) zkg rfl dc rfl rfl rfl (zaw rfl dc rfl (zap (zag (zaE (zau (zao ?_)))))))))
    exact zbA (rs:=[.tmp 2]) () (.inl rfl) results78 (.cons (.tmp rfl) .nil) (congrArg Value.bool (by rw [Bool.eq_iff_iff]; unfold joint; simp_all <;> (try intro _) <;> omega)) Splits.nil
   ·
    have h4:=beq_eq_false_iff_ne.1 h4
    refine zax (zah (zag (zar (zad (zaw rfl dc rfl (zap (zag (zaE ?_))))))))
    exact zbA (rs:=[.tmp 2]) () (.inl rfl) results78 (.cons (.tmp rfl) .nil) (congrArg Value.bool (by rw [Bool.eq_iff_iff]; unfold joint; simp_all <;> (try intro _) <;> omega)) Splits.nil
  ·
   have h3:=beq_eq_false_iff_ne.1 h3
   refine zar (zad (zaX rfl dc rfl rfl zaP (zaw rfl dc rfl (zap (zag ?_)))))
   refine zbb rfl (fun h5 => ?_) (fun h5 => ?_)
   ·
    have h5:=beq_iff_eq.1 h5
    refine zax (zag ?_)
    refine zbb rfl (fun h6 => ?_) (fun h6 => ?_)
    ·
     have h6:=beq_iff_eq.1 h6
     refine zar (zad (zac zh3 rfl dc rfl (show _=4 from rfl) (zat (k:=0) zkg rfl dc rfl rfl rfl (zaw rfl dc rfl (zap (zag (zaE (zau (zao ?_)))))))))
     exact zbA (rs:=[.tmp 2]) () (.inl rfl) results78 (.cons (.tmp rfl) .nil) (congrArg Value.bool (by rw [Bool.eq_iff_iff]; unfold joint; simp_all <;> (try intro _) <;> omega)) Splits.nil
    ·
     have h6:=beq_eq_false_iff_ne.1 h6
     refine zax (zah (zag (zar (zad (zaw rfl dc rfl (zap (zag (zaE ?_))))))))
     exact zbA (rs:=[.tmp 2]) () (.inl rfl) results78 (.cons (.tmp rfl) .nil) (congrArg Value.bool (by rw [Bool.eq_iff_iff]; unfold joint; simp_all <;> (try intro _) <;> omega)) Splits.nil
   ·
    have h5:=beq_eq_false_iff_ne.1 h5
    refine zad (zaX rfl dc rfl rfl zaP (zaw rfl dc rfl (zap (zag ?_))))
    refine zbb rfl (fun h7 => ?_) (fun h7 => ?_)
    ·
     have h7:=beq_iff_eq.1 h7
     refine zar (zad (zac zh3 rfl dc rfl (show _=4 from rfl) (zat (k:=0) zkg rfl dc rfl rfl rfl (zaw rfl dc rfl (zap (zag (zaE (zau (zao ?_)))))))))
     exact zbA (rs:=[.tmp 2]) () (.inl rfl) results78 (.cons (.tmp rfl) .nil) (congrArg Value.bool (by rw [Bool.eq_iff_iff]; unfold joint; simp_all <;> (try intro _) <;> omega)) Splits.nil
    ·
     have h7:=beq_eq_false_iff_ne.1 h7
     refine zax (zah (zag (zar (zad (zaw rfl dc rfl (zap (zag (zaE ?_))))))))
     exact zbA (rs:=[.tmp 2]) () (.inl rfl) results78 (.cons (.tmp rfl) .nil) (congrArg Value.bool (by rw [Bool.eq_iff_iff]; unfold joint; simp_all <;> (try intro _) <;> omega)) Splits.nil
theorem zrn (u:Un):FnP prog 79 [.agg #[.int .i64 u.k,.int .i32 u.r,.int .i64 u.f,.int .i64 u.t,.bool u.al]] (.bool (dot u)):=by
 refine FnP.intro func79 rfl ntmps79 (by simp) ?_
 intro w0 K
 refine zar (zad ?_)
 refine zdN rfl dc rfl (fun b1 => ?_)
 refine zaw rfl dc rfl (zap (zag (zar (zad (zac zh3 rfl dc rfl (show _=4 from rfl) (zat (k:=0) zkg rfl dc rfl rfl rfl (zaD rfl dc rfl ?_)))))))
 refine zes (s:=5) rfl (fun h1 => ?_) (fun h1 => ?_)
 ·
  refine zac zgy rfl dc rfl (show _=1 from rfl) (zat (k:=0) zfq rfl dc rfl rfl rfl (zaX rfl dc rfl rfl zaP (zaD rfl dc rfl ?_)))
  refine zes (s:=9) rfl (fun h2 => ?_) (fun h2 => ?_)
  ·
   have h2:=beq_iff_eq.1 h2
   refine zaW rfl dc (zaW rfl dc (zaW rfl dc (zbx (b:=true) rfl dc rfl rfl (zbx (b:=true) rfl dc rfl rfl (zaw rfl dc rfl (zap (zag (zaE ?_))))))))
   exact zbA (rs:=[.tmp 2]) () (.inl rfl) results79 (.cons (.tmp rfl) .nil) (congrArg Value.bool (by rw [Bool.eq_iff_iff]; unfold dot; simp_all <;> (try intro _) <;> omega)) Splits.nil
  ·
   have h2:=beq_eq_false_iff_ne.1 h2
   refine zac zgy rfl dc rfl (show _=1 from rfl) (zat (k:=0) zfq rfl dc rfl rfl rfl (zaX rfl dc rfl rfl zaP (zbx (b:=false) rfl dc rfl rfl (zbx (b:=true) rfl dc rfl rfl (zaw rfl dc rfl (zap (zag (zaE ?_))))))))
   exact zbA (rs:=[.tmp 2]) () (.inl rfl) results79 (.cons (.tmp rfl) .nil) (congrArg Value.bool (by rw [Bool.eq_iff_iff]; unfold dot; simp_all <;> (try intro _) <;> omega)) Splits.nil
 ·
  refine zaW rfl dc (zaW rfl dc (zaW rfl dc (zaW rfl dc (zaW rfl dc (zaW rfl dc (zaW rfl dc (zaW rfl dc (zbx (b:=false) rfl dc rfl rfl (zaw rfl dc rfl (zap (zag (zaE ?_))))))))))))
  exact zbA (rs:=[.tmp 2]) () (.inl rfl) results79 (.cons (.tmp rfl) .nil) (congrArg Value.bool (by rw [Bool.eq_iff_iff]; unfold dot; simp_all <;> (try intro _) <;> omega)) Splits.nil
theorem zql (k:Int) (b:Bool) (h:zjh k=b):FnP prog 77 [.int .i64 k] (.bool b):=h ▸ zu7 k
theorem zoz (s:zBA) (hs:s.size≤4611686018427387904) (Bs:Nat):Itr prog 76 [.pointer (some ⟨Bs,0,none⟩)] unA (units (pcs s.data.toList)) [(Bs,.cells #[.string s] 9 (0,0))]:=by
 refine Itr.intro func76 rfl ntmps76 (by simp) ?_
 intro l w0 K I X hRo hy
 refine zar (zad ?_)
 refine zdN rfl dc rfl (fun b1 => ?_)
 refine zap (zag (zar (zad ?_)))
 refine za6 zrH rfl dc (fun b2 => ?_)
 refine zap (zag (zar (zar (zad (zf2 (i:=0) hRo zhH rfl dc rfl rfl rfl (zdE (vs:=[.string s]) rfl dc rfl rfl rfl zp4 (zsJ s) Splits.nil ?_))))))
 rintro bp
 show TO _ _ _ _ _ _ _ _ _ _ [I [],cells b1 [.func (.yield l) #[] #[]] 167,cells b2 [.int .i64 0,.int .i32 0,.int .i64 0,.int .i64 0,.bool false] 128,cells bp [.string s] 9]
 refine zap (zag (zaK ?_))
 refine zfF (α:=Pc) (β:=List Un×Option Un) (γ:=List Un×Un×List Un) (δ:=Nat) (ps:=[8]) hRo rfl zp3 (zmu s (by omega) bp) (fun pre b=>zfY pre=b) (fun pre b=>[cells b1 [.func (.yield l) #[] #[]] 167,cells b2 [.int .i64 (uK b.2),.int .i32 (uR b.2),.int .i64 (uF b.2),.int .i64 (uT b.2),.bool (uA b.2)] 128,I b.1]) (fun c pre g=>c=.ret∧units (pcs s.data.toList)=g.1++g.2.1::g.2.2) (fun c pre g=>[X (g.1++[g.2.1])]) (fun pre x b j=>[(2,.pointer (some ⟨b1,0,none⟩)),(3,.pointer (some ⟨b2,0,none⟩)),(4,.pointer (some ⟨j,0,none⟩))]) (fun pre x b j=>[cells b1 [.func (.yield l) #[] #[]] 167,cells b2 [.int .i64 (uK b.2),.int .i32 (uR b.2),.int .i64 (uF b.2),.int .i64 (uT b.2),.bool (uA b.2)] 128,I b.1,cells j [.int .i64 (x.i:Int),.int .i64 (x.w:Int),.int .i32 (x.r:Int),.bool x.broken] 47]) ([],none) rfl (zaa [1,2,0] kr rfl) ⟨.inl ⟨3,rfl⟩,trivial⟩ (fun _=>rfl) dc ?_ ?_ ?_ ?_
 ·
  rintro lp rc pre x post b w1 K1 hxs hext hro hinv
  refine zad ?_
  refine za6 zje rfl dc (fun b3 => ?_)
  refine za2 (k:=3) (vs:=[.int .i64 (x.i:Int),.int .i64 (x.w:Int),.int .i32 (x.r:Int),.bool x.broken]) (l':=[.int .i64 (x.i:Int),.int .i64 (x.w:Int),.int .i32 (x.r:Int),.bool x.broken]) zgE rfl rfl rfl rfl rfl (Nat.le_of_ble_eq_true rfl) rfl rfl ?_
  show TO _ _ _ _ _ _ _ _ _ _ [cells b1 [.func (.yield l) #[] #[]] 167,cells b2 [.int .i64 (uK b.2),.int .i32 (uR b.2),.int .i64 (uF b.2),.int .i64 (uT b.2),.bool (uA b.2)] 128,I b.1,cells b3 [.int .i64 (x.i:Int),.int .i64 (x.w:Int),.int .i32 (x.r:Int),.bool x.broken] 47]
  refine zap ?_
  exact fun a w ha hw=>⟨b3,(zb7 rfl (zb7 rfl (zb7 rfl (zeQ)))) _ _ _ ha,hw.weaken (zaa [0,1,2,3] kr rfl)⟩
 ·
  rintro lp rc pre x post b j w1 K1 hxs hext hro hinv
  have hmem:x∈pcs s.data.toList:=by rw [hxs]; simp
  have hv:=zpq _ x hmem
  have hend:x.i+x.w≤s.size:=by simpa using (zf6 _ x hmem).2.1
  have hsn:=zhZ pre x
  obtain ⟨E,o⟩:=b
  have hinv:zfY pre=(E,o):=hinv
  rw [hinv] at hsn
  rcases o with _ | n
  ·
   show TC _ _ _ _ _ _ _ _ _ [cells b1 [.func (.yield l) #[] #[]] 167,cells b2 [.int .i64 0,.int .i32 0,.int .i64 0,.int .i64 0,.bool false] 128,I E,cells j [.int .i64 (x.i:Int),.int .i64 (x.w:Int),.int .i32 (x.r:Int),.bool x.broken] 47]
   by_cases hm:pk x=2
   ·
    refine zaK (zar (zad (zaZ (k:=3) (cs:=[.int .i64 (x.i:Int),.int .i64 (x.w:Int),.int .i32 (x.r:Int),.bool x.broken]) ze7 rfl dc rfl rfl rfl rfl (zbv (v:=.int .i64 (pk x)) (vs:=[.agg #[.int .i64 (x.i:Int),.int .i64 (x.w:Int),.int .i32 (x.r:Int),.bool x.broken]]) rfl dc rfl rfl rfl zlZ (zqZ _ _ _ _ (by omega) (by omega)) (zaw rfl dc rfl (zap (zag (zar (zar (zad (zaD rfl dc rfl (zaX rfl dc rfl rfl (zbU (congrArg Value.bool (show (((pk x):Int)==2)=true from (beq_iff_eq.2 hm))) zaP) (zaD rfl dc rfl ?_)))))))))))))
    refine zac zep rfl dc rfl (show _=2 from rfl) (zac zeB rfl dc rfl (show _=3 from rfl) (zat (k:=1) zdk rfl dc rfl rfl rfl (zaX rfl dc rfl rfl (zbU (congrArg Value.bool (show (decide ((0:Int)<0))=false from dc)) zeP) (zbx (b:=true) rfl dc rfl rfl (zaD rfl dc rfl (zaW rfl dc (zaW rfl dc (zaW rfl dc (zaW rfl dc (zbx (b:=false) rfl dc rfl rfl (zap (zag (zaS rfl ?_)))))))))))))
    refine zax (zag (zar (zar (zad (zac zep rfl dc rfl (show _=2 from rfl) (zac zeB rfl dc rfl (show _=3 from rfl) (zat (k:=1) zdk rfl dc rfl rfl rfl (zaX rfl dc rfl rfl (zbU (congrArg Value.bool (show (decide ((0:Int)<0))=false from dc)) zeP) (zaD rfl dc rfl (zaW rfl dc (zaW rfl dc (zaW rfl dc (zaW rfl dc ?_)))))))))))))
    refine zbx (b:=false) rfl dc rfl rfl (zap (zag (zaS rfl (zax (zag (zad (zaD rfl dc rfl (zac zfN rfl dc rfl (show _=2 from rfl) (zat (k:=3) zfq rfl dc rfl rfl rfl (zac zeo rfl dc rfl (show _=0 from rfl) (zat (k:=3) zdk rfl dc rfl rfl rfl (zac zeo rfl dc rfl (show _=0 from rfl) (zat (k:=3) zdk rfl dc rfl rfl rfl ?_)))))))))))))
    refine zac zgI rfl dc rfl (show _=1 from rfl) (zat (k:=3) zdk rfl dc rfl rfl rfl (zaX rfl dc rfl rfl (zbs (r:=(x.i:Int)+(x.w:Int)) (IntWalk.i64_in _ (by omega))) ?_))
    refine zbB (v:=.agg #[.int .i64 (x.i:Int),.int .i64 ((x.i:Int)+(x.w:Int))]) (ps:=[(0,.tmp 48),(1,.tmp 53)]) rfl dc rfl (fun _=>by kernel_rfl) ?_
    refine zbB (v:=.agg #[.int .i64 (pk x),.int .i32 (x.r:Int),.int .i64 (x.i:Int),.int .i64 ((x.i:Int)+(x.w:Int)),.bool true]) (ps:=[(0,.tmp 44),(1,.tmp 46),(2,.tmp 54),(3,.const (.bool true))]) rfl dc rfl (fun _=>by kernel_rfl) ?_
    refine za2 (k:=1) (vs:=[.int .i64 (pk x),.int .i32 (x.r:Int),.int .i64 (x.i:Int),.int .i64 ((x.i:Int)+(x.w:Int)),.bool true]) (l':=[.int .i64 (pk x),.int .i32 (x.r:Int),.int .i64 (x.i:Int),.int .i64 ((x.i:Int)+(x.w:Int)),.bool true]) zhE rfl rfl rfl rfl rfl (Nat.le_of_ble_eq_true rfl) rfl rfl (zap (zah ?_))
    exact zcj (E,some (znX x)) (by show zfY (pre++[x])=_; rw [hsn]; rfl) (zaa [0,1,2] kr rfl)
   ·
    refine zaK (zar (zad (zaZ (k:=3) (cs:=[.int .i64 (x.i:Int),.int .i64 (x.w:Int),.int .i32 (x.r:Int),.bool x.broken]) ze7 rfl dc rfl rfl rfl rfl (zbv (v:=.int .i64 (pk x)) (vs:=[.agg #[.int .i64 (x.i:Int),.int .i64 (x.w:Int),.int .i32 (x.r:Int),.bool x.broken]]) rfl dc rfl rfl rfl zlZ (zqZ _ _ _ _ (by omega) (by omega)) (zaw rfl dc rfl (zap (zag (zar (zar (zad (zaD rfl dc rfl (zaX rfl dc rfl rfl (zbU (congrArg Value.bool (show (((pk x):Int)==2)=false from (beq_eq_false_iff_ne.2 hm))) zaP) (zaD rfl dc rfl ?_)))))))))))))
    refine zaW rfl dc (zaW rfl dc (zaW rfl dc (zaW rfl dc (zbx (b:=false) rfl dc rfl rfl (zaD rfl dc rfl (zaW rfl dc (zaW rfl dc (zaW rfl dc (zaW rfl dc (zbx (b:=false) rfl dc rfl rfl (zap (zag (zaS rfl ?_)))))))))))))
    refine zax (zag (zar (zar (zad (zac zep rfl dc rfl (show _=2 from rfl) (zac zeB rfl dc rfl (show _=3 from rfl) (zat (k:=1) zdk rfl dc rfl rfl rfl (zaX rfl dc rfl rfl (zbU (congrArg Value.bool (show (decide ((0:Int)<0))=false from dc)) zeP) (zaD rfl dc rfl (zaW rfl dc (zaW rfl dc (zaW rfl dc (zaW rfl dc ?_)))))))))))))
    refine zbx (b:=false) rfl dc rfl rfl (zap (zag (zaS rfl (zax (zag (zad (zaD rfl dc rfl (zac zfN rfl dc rfl (show _=2 from rfl) (zat (k:=3) zfq rfl dc rfl rfl rfl (zac zeo rfl dc rfl (show _=0 from rfl) (zat (k:=3) zdk rfl dc rfl rfl rfl (zac zeo rfl dc rfl (show _=0 from rfl) (zat (k:=3) zdk rfl dc rfl rfl rfl ?_)))))))))))))
    refine zac zgI rfl dc rfl (show _=1 from rfl) (zat (k:=3) zdk rfl dc rfl rfl rfl (zaX rfl dc rfl rfl (zbs (r:=(x.i:Int)+(x.w:Int)) (IntWalk.i64_in _ (by omega))) ?_))
    refine zbB (v:=.agg #[.int .i64 (x.i:Int),.int .i64 ((x.i:Int)+(x.w:Int))]) (ps:=[(0,.tmp 48),(1,.tmp 53)]) rfl dc rfl (fun _=>by kernel_rfl) ?_
    refine zbB (v:=.agg #[.int .i64 (pk x),.int .i32 (x.r:Int),.int .i64 (x.i:Int),.int .i64 ((x.i:Int)+(x.w:Int)),.bool true]) (ps:=[(0,.tmp 44),(1,.tmp 46),(2,.tmp 54),(3,.const (.bool true))]) rfl dc rfl (fun _=>by kernel_rfl) ?_
    refine za2 (k:=1) (vs:=[.int .i64 (pk x),.int .i32 (x.r:Int),.int .i64 (x.i:Int),.int .i64 ((x.i:Int)+(x.w:Int)),.bool true]) (l':=[.int .i64 (pk x),.int .i32 (x.r:Int),.int .i64 (x.i:Int),.int .i64 ((x.i:Int)+(x.w:Int)),.bool true]) zhE rfl rfl rfl rfl rfl (Nat.le_of_ble_eq_true rfl) rfl rfl (zap (zah ?_))
    exact zcj (E,some (znX x)) (by show zfY (pre++[x])=_; rw [hsn]; rfl) (zaa [0,1,2] kr rfl)
  ·
   show TC _ _ _ _ _ _ _ _ _ [cells b1 [.func (.yield l) #[] #[]] 167,cells b2 (unC n) 128,I E,cells j [.int .i64 (x.i:Int),.int .i64 (x.w:Int),.int .i32 (x.r:Int),.bool x.broken] 47]
   have hwf:=zhC s.data.toList _ pre (x::post) (Nat.le_refl _) hxs E n hinv
   have hxi:x.i=n.t:=hwf.2.2.1 x rfl
   have ht0:(0:Int)<n.t:=by have:=hwf.1; omega
   by_cases hm:pk x=2
   ·
    cases hb:zjh n.k
    ·
     refine zaK (zar (zad (zaZ (k:=3) (cs:=[.int .i64 (x.i:Int),.int .i64 (x.w:Int),.int .i32 (x.r:Int),.bool x.broken]) ze7 rfl dc rfl rfl rfl rfl (zbv (v:=.int .i64 (pk x)) (vs:=[.agg #[.int .i64 (x.i:Int),.int .i64 (x.w:Int),.int .i32 (x.r:Int),.bool x.broken]]) rfl dc rfl rfl rfl zlZ (zqZ _ _ _ _ (by omega) (by omega)) (zaw rfl dc rfl (zap (zag (zar (zar (zad (zaD rfl dc rfl (zaX rfl dc rfl rfl (zbU (congrArg Value.bool (show (((pk x):Int)==2)=true from (beq_iff_eq.2 hm))) zaP) (zaD rfl dc rfl ?_)))))))))))))
     refine zac zep rfl dc rfl (show _=2 from rfl) (zac zeB rfl dc rfl (show _=3 from rfl) (zat (k:=1) zdk rfl dc rfl rfl rfl (zaX rfl dc rfl rfl (zbU (congrArg Value.bool (show (decide ((0:Int)<(n.t:Int)))=true from (decide_eq_true ht0))) zeP) (zbx (b:=true) rfl dc rfl rfl (zaD rfl dc rfl (zac zjY rfl dc rfl (show _=0 from rfl) (zat (k:=1) zhi rfl dc rfl rfl rfl (zbv (v:=.bool false) (vs:=[.int .i64 n.k]) rfl dc rfl rfl rfl zuH (zql _ _ hb) (zdM rfl dc rfl zcA (zbx (b:=true) rfl dc rfl rfl (zap (zag (zbw rfl ?_)))))))))))))
     refine zar (zad (zac zep rfl dc rfl (show _=2 from rfl) (zac zeB rfl dc rfl (show _=3 from rfl) (zat (k:=1) zdk rfl dc rfl rfl rfl (zac zgI rfl dc rfl (show _=1 from rfl) (zat (k:=3) zdk rfl dc rfl rfl rfl (zaX rfl dc rfl rfl (zbs (r:=(n.t:Int)+(x.w:Int)) (IntWalk.i64_in _ (by omega))) (zac zep rfl dc rfl (show _=2 from rfl) (zac zeB rfl dc rfl (show _=3 from rfl) ?_)))))))))
     refine zaG (k:=1) (l':=[.int .i64 n.k,.int .i32 (n.r:Int),.int .i64 (n.f:Int),.int .i64 ((n.t:Int)+(x.w:Int)),.bool n.al]) zeR rfl rfl rfl rfl rfl (fun _ _=>rfl) rfl ?_
     refine zap (zag (zar (zad (zac zh3 rfl dc rfl (show _=4 from rfl) ?_))))
     refine zaG (k:=1) (l':=[.int .i64 n.k,.int .i32 (n.r:Int),.int .i64 (n.f:Int),.int .i64 ((n.t:Int)+(x.w:Int)),.bool false]) zlF rfl rfl rfl rfl rfl (fun _ _=>rfl) rfl ?_
     show TO _ _ _ _ _ _ _ _ _ _ [cells b1 [.func (.yield l) #[] #[]] 167,cells b2 [.int .i64 n.k,.int .i32 (n.r:Int),.int .i64 (n.f:Int),.int .i64 ((n.t:Int)+(x.w:Int)),.bool false] 128,I E,cells j [.int .i64 (x.i:Int),.int .i64 (x.w:Int),.int .i32 (x.r:Int),.bool x.broken] 47]
     refine zap (zag (zcy (zaV (zbh ?_))))
     exact zcj (E,some ⟨n.k,n.r,n.f,n.t+x.w,false⟩) (by show zfY (pre++[x])=_; rw [hsn]; simp only [zf4]; rw [if_pos ⟨hm,hb⟩]) (zaa [0,1,2] kr rfl)
    ·
     have hne:¬ (pk x=2∧zjh n.k=false):=fun h=>by rw [hb] at h; cases h.2
     refine zaK (zar (zad (zaZ (k:=3) (cs:=[.int .i64 (x.i:Int),.int .i64 (x.w:Int),.int .i32 (x.r:Int),.bool x.broken]) ze7 rfl dc rfl rfl rfl rfl (zbv (v:=.int .i64 (pk x)) (vs:=[.agg #[.int .i64 (x.i:Int),.int .i64 (x.w:Int),.int .i32 (x.r:Int),.bool x.broken]]) rfl dc rfl rfl rfl zlZ (zqZ _ _ _ _ (by omega) (by omega)) (zaw rfl dc rfl (zap (zag (zar (zar (zad (zaD rfl dc rfl (zaX rfl dc rfl rfl (zbU (congrArg Value.bool (show (((pk x):Int)==2)=true from (beq_iff_eq.2 hm))) zaP) (zaD rfl dc rfl ?_)))))))))))))
     refine zac zep rfl dc rfl (show _=2 from rfl) (zac zeB rfl dc rfl (show _=3 from rfl) (zat (k:=1) zdk rfl dc rfl rfl rfl (zaX rfl dc rfl rfl (zbU (congrArg Value.bool (show (decide ((0:Int)<(n.t:Int)))=true from (decide_eq_true ht0))) zeP) (zbx (b:=true) rfl dc rfl rfl (zaD rfl dc rfl (zac zjY rfl dc rfl (show _=0 from rfl) (zat (k:=1) zhi rfl dc rfl rfl rfl (zbv (v:=.bool true) (vs:=[.int .i64 n.k]) rfl dc rfl rfl rfl zuH (zql _ _ hb) (zdM rfl dc rfl zcA (zbx (b:=true) rfl dc rfl rfl (zap (zag (zaS rfl ?_)))))))))))))
     refine zax (zag (zar (zar (zad (zac zep rfl dc rfl (show _=2 from rfl) (zac zeB rfl dc rfl (show _=3 from rfl) (zat (k:=1) zdk rfl dc rfl rfl rfl (zaX rfl dc rfl rfl (zbU (congrArg Value.bool (show (decide ((0:Int)<(n.t:Int)))=true from (decide_eq_true ht0))) zeP) (zaD rfl dc rfl (zat (k:=0) zpj rfl dc rfl rfl rfl (zaZ (k:=1) (cs:=(unC n)) zeu rfl dc rfl rfl rfl rfl ?_)))))))))))
     obtain ⟨q,hq⟩:=znW pre post x E n hinv hne
     refine zcX (hy.later hext) rfl dc rfl (hxs ▸ hq) rfl (k:=2) rfl ?_ ?_
     ·
      refine zdM rfl dc rfl zcA (zbx (b:=true) rfl dc rfl rfl (zap (zag (zaS rfl (zax (zag (zad (zaD rfl dc rfl (zac zfN rfl dc rfl (show _=2 from rfl) (zat (k:=3) zfq rfl dc rfl rfl rfl (zac zeo rfl dc rfl (show _=0 from rfl) (zat (k:=3) zdk rfl dc rfl rfl rfl (zac zeo rfl dc rfl (show _=0 from rfl) ?_)))))))))))))
      refine zat (k:=3) zdk rfl dc rfl rfl rfl (zac zgI rfl dc rfl (show _=1 from rfl) (zat (k:=3) zdk rfl dc rfl rfl rfl (zaX rfl dc rfl rfl (zbs (r:=(x.i:Int)+(x.w:Int)) (IntWalk.i64_in _ (by omega))) ?_)))
      refine zbB (v:=.agg #[.int .i64 (x.i:Int),.int .i64 ((x.i:Int)+(x.w:Int))]) (ps:=[(0,.tmp 48),(1,.tmp 53)]) rfl dc rfl (fun _=>by kernel_rfl) ?_
      refine zbB (v:=.agg #[.int .i64 (pk x),.int .i32 (x.r:Int),.int .i64 (x.i:Int),.int .i64 ((x.i:Int)+(x.w:Int)),.bool true]) (ps:=[(0,.tmp 44),(1,.tmp 46),(2,.tmp 54),(3,.const (.bool true))]) rfl dc rfl (fun _=>by kernel_rfl) ?_
      refine za2 (k:=1) (vs:=[.int .i64 (pk x),.int .i32 (x.r:Int),.int .i64 (x.i:Int),.int .i64 ((x.i:Int)+(x.w:Int)),.bool true]) (l':=[.int .i64 (pk x),.int .i32 (x.r:Int),.int .i64 (x.i:Int),.int .i64 ((x.i:Int)+(x.w:Int)),.bool true]) zhE rfl rfl rfl rfl rfl (Nat.le_of_ble_eq_true rfl) rfl rfl (zap (zah ?_))
      exact zcj (E++[n],some (znX x)) (by show zfY (pre++[x])=_; rw [hsn]; simp only [zf4]; rw [if_neg hne]) (zaa [0,1,2] kr rfl)
     ·
      refine zdM rfl dc rfl zcA (zbx (b:=true) rfl dc rfl rfl (zap (zag (zbw rfl (zaE (zao (zau ?_)))))))
      exact zcv (E,n,q) ⟨rfl,(hxs ▸ hq)⟩ (zaa [2] kr rfl)
   ·
    have hne:¬ (pk x=2∧zjh n.k=false):=fun h=>hm h.1
    refine zaK (zar (zad (zaZ (k:=3) (cs:=[.int .i64 (x.i:Int),.int .i64 (x.w:Int),.int .i32 (x.r:Int),.bool x.broken]) ze7 rfl dc rfl rfl rfl rfl (zbv (v:=.int .i64 (pk x)) (vs:=[.agg #[.int .i64 (x.i:Int),.int .i64 (x.w:Int),.int .i32 (x.r:Int),.bool x.broken]]) rfl dc rfl rfl rfl zlZ (zqZ _ _ _ _ (by omega) (by omega)) (zaw rfl dc rfl (zap (zag (zar (zar (zad (zaD rfl dc rfl (zaX rfl dc rfl rfl (zbU (congrArg Value.bool (show (((pk x):Int)==2)=false from (beq_eq_false_iff_ne.2 hm))) zaP) (zaD rfl dc rfl ?_)))))))))))))
    refine zaW rfl dc (zaW rfl dc (zaW rfl dc (zaW rfl dc (zbx (b:=false) rfl dc rfl rfl (zaD rfl dc rfl (zaW rfl dc (zaW rfl dc (zaW rfl dc (zaW rfl dc (zbx (b:=false) rfl dc rfl rfl (zap (zag (zaS rfl ?_)))))))))))))
    refine zax (zag (zar (zar (zad (zac zep rfl dc rfl (show _=2 from rfl) (zac zeB rfl dc rfl (show _=3 from rfl) (zat (k:=1) zdk rfl dc rfl rfl rfl (zaX rfl dc rfl rfl (zbU (congrArg Value.bool (show (decide ((0:Int)<(n.t:Int)))=true from (decide_eq_true ht0))) zeP) (zaD rfl dc rfl (zat (k:=0) zpj rfl dc rfl rfl rfl (zaZ (k:=1) (cs:=(unC n)) zeu rfl dc rfl rfl rfl rfl ?_)))))))))))
    obtain ⟨q,hq⟩:=znW pre post x E n hinv hne
    refine zcX (hy.later hext) rfl dc rfl (hxs ▸ hq) rfl (k:=2) rfl ?_ ?_
    ·
     refine zdM rfl dc rfl zcA (zbx (b:=true) rfl dc rfl rfl (zap (zag (zaS rfl (zax (zag (zad (zaD rfl dc rfl (zac zfN rfl dc rfl (show _=2 from rfl) (zat (k:=3) zfq rfl dc rfl rfl rfl (zac zeo rfl dc rfl (show _=0 from rfl) (zat (k:=3) zdk rfl dc rfl rfl rfl (zac zeo rfl dc rfl (show _=0 from rfl) ?_)))))))))))))
     refine zat (k:=3) zdk rfl dc rfl rfl rfl (zac zgI rfl dc rfl (show _=1 from rfl) (zat (k:=3) zdk rfl dc rfl rfl rfl (zaX rfl dc rfl rfl (zbs (r:=(x.i:Int)+(x.w:Int)) (IntWalk.i64_in _ (by omega))) ?_)))
     refine zbB (v:=.agg #[.int .i64 (x.i:Int),.int .i64 ((x.i:Int)+(x.w:Int))]) (ps:=[(0,.tmp 48),(1,.tmp 53)]) rfl dc rfl (fun _=>by kernel_rfl) ?_
     refine zbB (v:=.agg #[.int .i64 (pk x),.int .i32 (x.r:Int),.int .i64 (x.i:Int),.int .i64 ((x.i:Int)+(x.w:Int)),.bool true]) (ps:=[(0,.tmp 44),(1,.tmp 46),(2,.tmp 54),(3,.const (.bool true))]) rfl dc rfl (fun _=>by kernel_rfl) ?_
     refine za2 (k:=1) (vs:=[.int .i64 (pk x),.int .i32 (x.r:Int),.int .i64 (x.i:Int),.int .i64 ((x.i:Int)+(x.w:Int)),.bool true]) (l':=[.int .i64 (pk x),.int .i32 (x.r:Int),.int .i64 (x.i:Int),.int .i64 ((x.i:Int)+(x.w:Int)),.bool true]) zhE rfl rfl rfl rfl rfl (Nat.le_of_ble_eq_true rfl) rfl rfl (zap (zah ?_))
     exact zcj (E++[n],some (znX x)) (by show zfY (pre++[x])=_; rw [hsn]; simp only [zf4]; rw [if_neg hne]) (zaa [0,1,2] kr rfl)
    ·
     refine zdM rfl dc rfl zcA (zbx (b:=true) rfl dc rfl rfl (zap (zag (zbw rfl (zaE (zao (zau ?_)))))))
     exact zcv (E,n,q) ⟨rfl,(hxs ▸ hq)⟩ (zaa [2] kr rfl)
 ·
  rintro d b hinv
  show TX _ _ _ _ _ _ _ [emp,emp,emp,cells bp [.string s] 9,cells b1 [.func (.yield l) #[] #[]] 167,cells b2 [.int .i64 (uK b.2),.int .i32 (uR b.2),.int .i64 (uF b.2),.int .i64 (uT b.2),.bool (uA b.2)] 128,I b.1,zcu d]
  obtain ⟨E,o⟩:=b
  have hinv:zfY (pcs s.data.toList)=(E,o):=hinv
  rcases o with _ | n
  ·
   show TX _ _ _ _ _ _ _ [emp,emp,emp,cells bp [.string s] 9,cells b1 [.func (.yield l) #[] #[]] 167,cells b2 [.int .i64 0,.int .i32 0,.int .i64 0,.int .i64 0,.bool false] 128,I E,zcu d]
   refine zah (zag (zar (zad (zac zep rfl dc rfl (show _=2 from rfl) (zac zeB rfl dc rfl (show _=3 from rfl) (zat (k:=5) zdk rfl dc rfl rfl rfl (zaX rfl dc rfl rfl (zbU (congrArg Value.bool (show (decide ((0:Int)<0))=false from dc)) zeP) (zap (zag (zaS rfl (zax ?_)))))))))))
   have he:I (units (pcs s.data.toList))=I E:=by unfold units; rw [hinv]; rfl
   exact zfD (ds:=[d]) (.inr rfl) (zaa [7] kr rfl) results76 he (zaa [6] kr rfl)
  ·
   show TX _ _ _ _ _ _ _ [emp,emp,emp,cells bp [.string s] 9,cells b1 [.func (.yield l) #[] #[]] 167,cells b2 (unC n) 128,I E,zcu d]
   have hwf:=zhC s.data.toList _ (pcs s.data.toList) [] (Nat.le_refl _) (by simp) E n hinv
   have ht0:(0:Int)<n.t:=by have:=hwf.1; omega
   refine zah (zag (zar (zad (zac zep rfl dc rfl (show _=2 from rfl) (zac zeB rfl dc rfl (show _=3 from rfl) (zat (k:=5) zdk rfl dc rfl rfl rfl (zaX rfl dc rfl rfl (zbU (congrArg Value.bool (show (decide ((0:Int)<(n.t:Int)))=true from (decide_eq_true ht0))) zeP) (zap (zag (zbw rfl (zad (zat (k:=4) zpj rfl dc rfl rfl rfl (zaZ (k:=5) (cs:=(unC n)) zeu rfl dc rfl rfl rfl rfl ?_)))))))))))))
   refine zcX hy rfl dc rfl (pre:=E) (e:=n) (post:=[]) (zhY _ E n hinv) rfl (k:=6) rfl ?_ ?_
   ·
    refine zap ?_
    have he:I (units (pcs s.data.toList))=I (E++[n]):=by rw [zhY _ E n hinv]
    exact zfD (ds:=[d]) (.inr rfl) (zaa [7] kr rfl) results76 he (zaa [6] kr rfl)
   ·
    refine zap ?_
    exact zfi (ds:=[d]) E n [] (zhY _ E n hinv) (.inr rfl) (zaa [7] kr rfl) results76 (zaa [6] kr rfl)
 ·
  rintro d c pre x post g hxs hX
  show TC _ _ _ _ _ _ _ _ _ [emp,emp,emp,cells bp [.string s] 9,X (g.1++[g.2.1]),zcu d]
  obtain ⟨E,n,q⟩:=g
  obtain ⟨rfl,hq⟩:=hX
  refine zaE (zau (zao ?_))
  exact zfi (ds:=[d]) E n q hq (.inl rfl) (zaa [5] kr rfl) results76 (zaa [4] kr rfl)
theorem zqD (s:zBA):Fn prog 53 [.string s] [] (fun b:Nat=>.func (.func 76) #[] #[.pointer (some ⟨b,0,none⟩)]) (fun b=>[cells b [.string s] 9]):=by
 refine Fn.intro func53 rfl ntmps53 (by simp) ?_
 intro w0 K
 refine zar (zad ?_)
 refine zdN rfl dc rfl (fun b1 => ?_)
 refine zaw rfl dc rfl (zap (zag (zar (zad (zdH (x1:=[]) (x2:=[.tmp 1]) rfl dc rfl rfl (zaw rfl dc rfl (zap (zag (zaE ?_)))))))))
 exact zbA (rs:=[.tmp 2]) b1 (.inl rfl) results53 (.cons (.tmp rfl) .nil) rfl (zaa [0] kr rfl)
def scV (s:Sc):List Value:=[.int .i64 s.st,.int .i64 s.tk.k,.int .i64 s.tk.f,.int .i64 s.tk.t,.int .i64 s.h.k,.int .i32 s.h.r,.int .i64 s.h.f,.int .i64 s.h.t,.bool s.h.al]
def tkV (t:Tk):List Value:=[.int .i64 t.k,.int .i64 t.f,.int .i64 t.t]
def tkA (t:Tk):List Value:=[.agg (tkV t).toArray]
def zbe (s:Sc) (uz:Un):Sc:=⟨(zgM s.st uz).1,s.tk,if (zgM s.st uz).2=2 then uz else s.h⟩
theorem Holds.fact {w0 w:World} {K:Nat→Prop} {L:List Asn} {p:Prop} (h:Holds w0 K L w) (hp:p):Holds w0 K (L++[fact p]) w :=
 h.grow (C':=fun _=>False) (Ext.refl _ _) (sepL.one (A:=Go.Proofs.YtdnalnmahlakkaaGreatDoor.fact p) ⟨fun _ h=>h,hp⟩)
theorem zjA {P:Program} {F:Fence} {w0:World} {K:Nat→Prop} {N:Nat} {σ:List (Nat×Value)} {L R As:List Asn} {fn:Func} {rs:List ResultVar} {vs:List Value} {β:Type} {V:β→Value} {Bs:β→List Asn} {e:Exit} {p:Prop} (b:β)
  (he:e=.ret∨e=.normal) (hrs:fn.results=rs.toArray) (hres:ResOks P σ L rs vs) (hv:zhJ vs=V b) (hs:Splits L As R) (hp:p) (hB:Bs b=As++[fact p]:=by rfl) :
  TX w0 K N [] (bodyPostM F 0 P fn (FR P V Bs w0 K)) e σ L:=by
 intro a w ha hw
 have h1:=zgj hrs hres ha hw
 have h2:LeavesInM F 0 P fn a.tmps (FR P V Bs w0 K) a.defers .returning w:=by
  rw [ha.2.1]
  exact ⟨zhJ vs,h1,b,by rw [hv],by rw [hB]; exact (hw.weaken hs).fact hp⟩
 rcases he with rfl | rfl <;> exact h2
theorem zbc {P:Program} {F:Fence} {w0:World} {K:Nat→Prop} {N:Nat} {σ:List (Nat×Value)} {L:List Asn} {fn:Func} {b t:Nat} {s:Sc} {uz:Un} {l:List Value} {a c:Int} (hrs:fn.results=#[.tmp 4]) (hfit:zgM s.st uz=(a,c):=by unfold zgM; simp_all <;> omega) (hl:l=scV ⟨a,s.tk,if c=2 then uz else s.h⟩:=by rfl) (hσ:σ.lookup 4=some (.int .i64 c):=by rfl) :
  TX w0 K N [] (bodyPostM F 0 P fn (FR P (fun _:Unit=>.int .i64 (zgM s.st uz).2) (fun _=>[cells b (scV (zbe s uz)) t]) w0 K)) .ret σ (cells b l t::L):=by
 have e:l=scV (zbe s uz):=by rw [hl]; unfold zbe; rw [hfit]
 rw [e]
 exact zbA (rs:=[.tmp 4]) () (.inl rfl) hrs (.cons (.tmp hσ) .nil) (by rw [hfit]; rfl) (zaa [0] rfl rfl)
theorem zev {P:Program} {F:Fence} {w0:World} {K:Nat→Prop} {N:Nat} {σ:List (Nat×Value)} {L:List Asn} {fn:Func} {b t:Nat} {s:Sc} {uz:Un} {l:List Value} {e:Exit} (he:e=.ret∨e=.normal) (hrs:fn.results=#[]) (hB:l=scV (began s uz)) :
  TX w0 K N [] (bodyPostM F 0 P fn (FR P (fun _:Unit=>.tuple #[]) (fun _=>[cells b (scV (began s uz)) t]) w0 K)) e σ (cells b l t::L):=by
 rw [hB]
 exact zbA (rs:=[]) () he hrs .nil rfl (zaa [0] rfl rfl)
theorem znB (b:Nat) (s:Sc) (uz:Un):Fn prog 54 [.pointer (some ⟨b,0,none⟩),.agg #[.int .i64 uz.k,.int .i32 uz.r,.int .i64 uz.f,.int .i64 uz.t,.bool uz.al]] [cells b (scV s) 130] (fun _:Unit=>.int .i64 (zgM s.st uz).2) (fun _=>[cells b (scV (zbe s uz)) 130]):=by
 refine Fn.intro func54 rfl ntmps54 (by simp) ?_
 intro w0 K
 show TC _ _ _ _ _ _ _ _ _ [cells b (scC s.st s) 130]
 refine zar (zad ?_)
 refine zdN rfl dc rfl (fun b1 => ?_)
 refine zaw rfl dc rfl (zap (zag (zar (zad (zac zjY rfl dc rfl (show _=0 from rfl) (zat (k:=1) zhi rfl dc rfl rfl rfl (zaw rfl dc rfl (zap (zag (zar (zar (zad (zaD rfl dc rfl ?_)))))))))))))
 refine zav rfl dc rfl (zac zb5 rfl dc rfl (show _=0 from rfl) (zat (k:=0) zdk rfl dc rfl rfl rfl (zap (zag (zaK (zar (zar (zad (zaX rfl dc rfl rfl zaP (zaw rfl dc rfl (zap (zag ?_))))))))))))
 refine zbb rfl (fun h1 => ?_) (fun h1 => ?_)
 ·
  have h1:=beq_iff_eq.1 h1
  refine zax (zag ?_)
  refine zbb rfl (fun h2 => ?_) (fun h2 => ?_)
  ·
   have h2:=beq_iff_eq.1 h2
   refine zar (zar (zad (zaD rfl dc rfl (zaX rfl dc rfl rfl zaP (zap (zag ?_))))))
   refine zbb rfl (fun h3 => ?_) (fun h3 => ?_)
   ·
    have h3:=beq_iff_eq.1 h3
    refine zar (zad (zaD rfl dc rfl (zav rfl dc rfl (zac zb5 rfl dc rfl (show _=0 from rfl) ?_))))
    refine zaG (k:=0) (l':=(scC 1 s)) zeR rfl rfl rfl rfl rfl (fun _ _=>rfl) rfl ?_
    refine zap (zag (zar (zad (zaw rfl dc rfl (zap (zag (zaE (zao (zau (zao ?_))))))))))
    exact zbc results54 (a:=1) (c:=1)
   ·
    have h3:=beq_eq_false_iff_ne.1 h3
    refine zax (zag (zar (zad (zaD rfl dc rfl (zav rfl dc rfl (zac zb5 rfl dc rfl (show _=0 from rfl) (zat (k:=0) zdk rfl dc rfl rfl rfl (zaX rfl dc rfl rfl zaP (zaD rfl dc rfl ?_)))))))))
    refine zes (s:=25) rfl (fun h4 => ?_) (fun h4 => ?_)
    ·
     have h4:=beq_iff_eq.1 h4
     refine zaZ (k:=1) (cs:=(unC uz)) zeu rfl dc rfl rfl rfl rfl (zbv (v:=.bool (joint uz)) (vs:=[.agg (unC uz).toArray]) rfl dc rfl rfl rfl zuG (zpI uz) (zbx (b:=true) rfl dc rfl rfl (zap (zag ?_))))
     refine zbb rfl (fun h5 => ?_) (fun h5 => ?_)
     ·
      refine zar ?_
      refine zfU (β:=Unit) 6 5 _ [(0,29,.pointer (some ⟨b,0,none⟩)),(1,30,.pointer (some ⟨b,0,none⟩)),(2,31,.agg (unC uz).toArray),(3,32,.pointer (some ⟨b,0,none⟩)),(4,33,.pointer (some ⟨b,0,none⟩))] (fun _b=>[]) (fun _b=>[cells b (scC 2 s) 130,cells b1 (unC uz) 128]) mixed kr kr rfl dc dc (by rfl) kr kr (zas ?_ (zas ?_ (zas ?_ (zas ?_ (zas ?_ (zbO DrawPreX.nil)))))) (fun _b=>(zas ?_ (zas ?_ (zas ?_ (zas ?_ (zas ?_ (zbO DrawPreX.nil))))))) ?_ ?_
      ·
       intro D hn hd hcl hu hi
       refine zaD rfl dc (za3 (by rfl) rfl) ?_
       exact zbf 0 hu hi rfl
      ·
       intro D hn hd hcl hu hi
       refine zaD rfl dc (za3 (by rfl) rfl) ?_
       exact zbf 1 hu hi rfl
      ·
       intro D hn hd hcl hu hi
       refine zaZ (k:=1) (cs:=(unC uz)) zeu rfl dc (za3 (by rfl) rfl) rfl rfl rfl ?_
       exact zbf 2 hu hi rfl
      ·
       intro D hn hd hcl hu hi
       refine zav rfl dc (zaU (m:=0) hu rfl (hd 0 dc)) ?_
       exact zbf 3 hu hi rfl
      ·
       intro D hn hd hcl hu hi
       refine zac zb5 rfl dc (zaU (m:=3) hu rfl (hd 3 dc)) (show _=0 from rfl) ?_
       exact zbf 4 hu hi rfl
      ·
       intro D hn hd hcl hu hi
       refine zaD rfl dc (za3 (by rfl) rfl) ?_
       exact zbf 0 hu hi rfl
      ·
       intro D hn hd hcl hu hi
       refine zaD rfl dc (za3 (by rfl) rfl) ?_
       exact zbf 1 hu hi rfl
      ·
       intro D hn hd hcl hu hi
       refine zaZ (k:=1) (cs:=(unC uz)) zeu rfl dc (za3 (by rfl) rfl) rfl rfl rfl ?_
       exact zbf 2 hu hi rfl
      ·
       intro D hn hd hcl hu hi
       refine zav rfl dc (zaU (m:=0) hu rfl (hd 0 dc)) ?_
       exact zbf 3 hu hi rfl
      ·
       intro D hn hd hcl hu hi
       refine zac zb5 rfl dc (zaU (m:=3) hu rfl (hd 3 dc)) (show _=0 from rfl) ?_
       exact zbf 4 hu hi rfl
      ·
       intro D hn hd hcl
       refine zaG (k:=0) (l':=(scC 2 s)) zeR rfl (zaU (m:=4) kr rfl (hd 4 dc)) rfl rfl rfl (fun _ _=>rfl) rfl ?_
       exact fun a w ha hw=>⟨(),ha,hw⟩
      intro _b
      show TO _ _ _ _ _ _ _ _ _ _ [cells b (scC 2 s) 130,cells b1 (unC uz) 128]
      refine zav rfl dc rfl (zac zgx rfl dc rfl (show _=4 from rfl) (za2 (k:=0) (vs:=(unC uz)) (l':=[.int .i64 2,.int .i64 s.tk.k,.int .i64 (s.tk.f:Int),.int .i64 (s.tk.t:Int),.int .i64 uz.k,.int .i32 (uz.r:Int),.int .i64 (uz.f:Int),.int .i64 (uz.t:Int),.bool uz.al]) zhE rfl rfl rfl rfl rfl (Nat.le_of_ble_eq_true rfl) rfl rfl (zap (zag (zar (zad (zaw rfl dc rfl (zap (zag (zaE (zau (zao ?_))))))))))))
      exact zbc results54 (a:=2) (c:=2)
     ·
      refine zax (zah (zag (zar (zad (zaw rfl dc rfl (zap (zag (zaE ?_))))))))
      exact zbc results54 (a:=s.st) (c:=0)
    ·
     have h4:=beq_eq_false_iff_ne.1 h4
     refine zaW rfl dc (zaW rfl dc (zbx (b:=false) rfl dc rfl rfl (zap (zag (zaS rfl (zax (zah (zag (zar (zad (zaw rfl dc rfl (zap (zag ?_)))))))))))))
     refine zaE ?_
     exact zbc results54 (a:=s.st) (c:=0)
  ·
   have h2:=beq_eq_false_iff_ne.1 h2
   refine zar (zar (zad (zaX rfl dc rfl rfl zaP (zaw rfl dc rfl (zap (zag ?_))))))
   refine zbb rfl (fun h6 => ?_) (fun h6 => ?_)
   ·
    have h6:=beq_iff_eq.1 h6
    refine zax (zag ?_)
    refine zbb rfl (fun h7 => ?_) (fun h7 => ?_)
    ·
     have h7:=beq_iff_eq.1 h7
     refine zar (zar (zad (zaD rfl dc rfl (zaX rfl dc rfl rfl zaP (zap (zag ?_))))))
     refine zbb rfl (fun h8 => ?_) (fun h8 => ?_)
     ·
      have h8:=beq_iff_eq.1 h8
      refine zar (zad (zaD rfl dc rfl (zav rfl dc rfl (zac zb5 rfl dc rfl (show _=0 from rfl) ?_))))
      refine zaG (k:=0) (l':=(scC 3 s)) zeR rfl rfl rfl rfl rfl (fun _ _=>rfl) rfl ?_
      refine zap (zag (zar (zad (zaw rfl dc rfl (zap (zag (zaE (zao (zau (zao ?_))))))))))
      exact zbc results54 (a:=3) (c:=1)
     ·
      have h8:=beq_eq_false_iff_ne.1 h8
      refine zax (zag (zar (zad (zaD rfl dc rfl (zav rfl dc rfl (zac zb5 rfl dc rfl (show _=0 from rfl) (zat (k:=0) zdk rfl dc rfl rfl rfl (zaX rfl dc rfl rfl zaP (zaD rfl dc rfl ?_)))))))))
      refine zes (s:=49) rfl (fun h9 => ?_) (fun h9 => ?_)
      ·
       have h9:=beq_iff_eq.1 h9
       refine zaZ (k:=1) (cs:=(unC uz)) zeu rfl dc rfl rfl rfl rfl (zbv (v:=.bool (dot uz)) (vs:=[.agg (unC uz).toArray]) rfl dc rfl rfl rfl zrk (zrn uz) (zbx (b:=true) rfl dc rfl rfl (zap (zag ?_))))
       refine zbb rfl (fun h10 => ?_) (fun h10 => ?_)
       ·
        refine zar ?_
        refine zfU (β:=Unit) 6 5 _ [(0,53,.pointer (some ⟨b,0,none⟩)),(1,54,.pointer (some ⟨b,0,none⟩)),(2,55,.agg (unC uz).toArray),(3,56,.pointer (some ⟨b,0,none⟩)),(4,57,.pointer (some ⟨b,0,none⟩))] (fun _b=>[]) (fun _b=>[cells b (scC 4 s) 130,cells b1 (unC uz) 128]) mixed kr kr rfl dc dc (by rfl) kr kr (zas ?_ (zas ?_ (zas ?_ (zas ?_ (zas ?_ (zbO DrawPreX.nil)))))) (fun _b=>(zas ?_ (zas ?_ (zas ?_ (zas ?_ (zas ?_ (zbO DrawPreX.nil))))))) ?_ ?_
        ·
         intro D hn hd hcl hu hi
         refine zaD rfl dc (za3 (by rfl) rfl) ?_
         exact zbf 0 hu hi rfl
        ·
         intro D hn hd hcl hu hi
         refine zaD rfl dc (za3 (by rfl) rfl) ?_
         exact zbf 1 hu hi rfl
        ·
         intro D hn hd hcl hu hi
         refine zaZ (k:=1) (cs:=(unC uz)) zeu rfl dc (za3 (by rfl) rfl) rfl rfl rfl ?_
         exact zbf 2 hu hi rfl
        ·
         intro D hn hd hcl hu hi
         refine zav rfl dc (zaU (m:=0) hu rfl (hd 0 dc)) ?_
         exact zbf 3 hu hi rfl
        ·
         intro D hn hd hcl hu hi
         refine zac zb5 rfl dc (zaU (m:=3) hu rfl (hd 3 dc)) (show _=0 from rfl) ?_
         exact zbf 4 hu hi rfl
        ·
         intro D hn hd hcl hu hi
         refine zaD rfl dc (za3 (by rfl) rfl) ?_
         exact zbf 0 hu hi rfl
        ·
         intro D hn hd hcl hu hi
         refine zaD rfl dc (za3 (by rfl) rfl) ?_
         exact zbf 1 hu hi rfl
        ·
         intro D hn hd hcl hu hi
         refine zaZ (k:=1) (cs:=(unC uz)) zeu rfl dc (za3 (by rfl) rfl) rfl rfl rfl ?_
         exact zbf 2 hu hi rfl
        ·
         intro D hn hd hcl hu hi
         refine zav rfl dc (zaU (m:=0) hu rfl (hd 0 dc)) ?_
         exact zbf 3 hu hi rfl
        ·
         intro D hn hd hcl hu hi
         refine zac zb5 rfl dc (zaU (m:=3) hu rfl (hd 3 dc)) (show _=0 from rfl) ?_
         exact zbf 4 hu hi rfl
        ·
         intro D hn hd hcl
         refine zaG (k:=0) (l':=(scC 4 s)) zeR rfl (zaU (m:=4) kr rfl (hd 4 dc)) rfl rfl rfl (fun _ _=>rfl) rfl ?_
         exact fun a w ha hw=>⟨(),ha,hw⟩
        intro _b
        show TO _ _ _ _ _ _ _ _ _ _ [cells b (scC 4 s) 130,cells b1 (unC uz) 128]
        refine zav rfl dc rfl (zac zgx rfl dc rfl (show _=4 from rfl) (za2 (k:=0) (vs:=(unC uz)) (l':=[.int .i64 4,.int .i64 s.tk.k,.int .i64 (s.tk.f:Int),.int .i64 (s.tk.t:Int),.int .i64 uz.k,.int .i32 (uz.r:Int),.int .i64 (uz.f:Int),.int .i64 (uz.t:Int),.bool uz.al]) zhE rfl rfl rfl rfl rfl (Nat.le_of_ble_eq_true rfl) rfl rfl (zap (zag (zar (zad (zaw rfl dc rfl (zap (zag (zaE (zau (zao ?_))))))))))))
        exact zbc results54 (a:=4) (c:=2)
       ·
        refine zax (zah (zag (zar (zad (zaw rfl dc rfl (zap (zag (zaE ?_))))))))
        exact zbc results54 (a:=s.st) (c:=0)
      ·
       have h9:=beq_eq_false_iff_ne.1 h9
       refine zaW rfl dc (zaW rfl dc (zbx (b:=false) rfl dc rfl rfl (zap (zag (zaS rfl (zax (zah (zag (zar (zad (zaw rfl dc rfl (zap (zag ?_)))))))))))))
       refine zaE ?_
       exact zbc results54 (a:=s.st) (c:=0)
    ·
     have h7:=beq_eq_false_iff_ne.1 h7
     refine zar (zad (zaX rfl dc rfl rfl zaP (zaw rfl dc rfl (zap (zag ?_)))))
     refine zbb rfl (fun h11 => ?_) (fun h11 => ?_)
     ·
      have h11:=beq_iff_eq.1 h11
      refine zar (zad (zaD rfl dc rfl (zaX rfl dc rfl rfl zaP (zap (zag ?_)))))
      refine zbb rfl (fun h12 => ?_) (fun h12 => ?_)
      ·
       have h12:=beq_iff_eq.1 h12
       refine zar (zad (zaw rfl dc rfl (zap (zag (zaE (zau (zao ?_)))))))
       exact zbc results54 (a:=s.st) (c:=1)
      ·
       have h12:=beq_eq_false_iff_ne.1 h12
       refine zax (zah (zag (zar (zad (zaw rfl dc rfl (zap (zag (zaE ?_))))))))
       exact zbc results54 (a:=s.st) (c:=0)
     ·
      have h11:=beq_eq_false_iff_ne.1 h11
      refine zar (zad (zaX rfl dc rfl rfl zaP (zaw rfl dc rfl (zap (zag ?_)))))
      refine zbb rfl (fun h13 => ?_) (fun h13 => ?_)
      ·
       have h13:=beq_iff_eq.1 h13
       refine zar (zad (zaD rfl dc rfl (zaX rfl dc rfl rfl zaP (zap (zag ?_)))))
       refine zbb rfl (fun h14 => ?_) (fun h14 => ?_)
       ·
        have h14:=beq_iff_eq.1 h14
        refine zar (zad (zaw rfl dc rfl (zap (zag (zaE (zau (zao ?_)))))))
        exact zbc results54 (a:=s.st) (c:=1)
       ·
        have h14:=beq_eq_false_iff_ne.1 h14
        refine zax (zah (zag (zar (zad (zaw rfl dc rfl (zap (zag (zaE ?_))))))))
        exact zbc results54 (a:=s.st) (c:=0)
      ·
       have h13:=beq_eq_false_iff_ne.1 h13
       refine zar (zad (zaX rfl dc rfl rfl zaP (zaw rfl dc rfl (zap (zag ?_)))))
       refine zbb rfl (fun h15 => ?_) (fun h15 => ?_)
       ·
        have h15:=beq_iff_eq.1 h15
        refine zar (zad (zaD rfl dc rfl (zaX rfl dc rfl rfl zaP (zaD rfl dc rfl ?_))))
        refine zes (s:=72) rfl (fun h16 => ?_) (fun h16 => ?_)
        ·
         have h16:=beq_iff_eq.1 h16
         refine zac zgy rfl dc rfl (show _=1 from rfl) (zat (k:=1) zfq rfl dc rfl rfl rfl (zaX rfl dc rfl rfl zaP (zbx (b:=true) rfl dc rfl rfl (zap (zag ?_)))))
         refine zbb rfl (fun h17 => ?_) (fun h17 => ?_)
         ·
          have h17:=beq_iff_eq.1 h17
          refine zar (zad (zaD rfl dc rfl (zav rfl dc rfl (zac zb5 rfl dc rfl (show _=0 from rfl) ?_))))
          refine zaG (k:=0) (l':=(scC 7 s)) zeR rfl rfl rfl rfl rfl (fun _ _=>rfl) rfl ?_
          refine zap (zag (zar (zad (zaw rfl dc rfl (zap (zag (zaE (zau (zao ?_)))))))))
          exact zbc results54 (a:=7) (c:=1)
         ·
          have h17:=beq_eq_false_iff_ne.1 h17
          refine zax (zah (zag (zar (zad (zaw rfl dc rfl (zap (zag (zaE ?_))))))))
          exact zbc results54 (a:=s.st) (c:=0)
        ·
         have h16:=beq_eq_false_iff_ne.1 h16
         refine zaW rfl dc (zaW rfl dc (zaW rfl dc (zbx (b:=false) rfl dc rfl rfl (zap (zag (zaS rfl (zax (zah (zag (zar (zad (zaw rfl dc rfl (zap ?_)))))))))))))
         refine zag (zaE ?_)
         exact zbc results54 (a:=s.st) (c:=0)
       ·
        have h15:=beq_eq_false_iff_ne.1 h15
        refine zax (zah (zag (zar (zad (zaw rfl dc rfl (zap (zag (zaE ?_))))))))
        exact zbc results54 (a:=s.st) (c:=0)
   ·
    have h6:=beq_eq_false_iff_ne.1 h6
    refine zad (zaX rfl dc rfl rfl zaP (zaw rfl dc rfl (zap (zag ?_))))
    refine zbb rfl (fun h18 => ?_) (fun h18 => ?_)
    ·
     have h18:=beq_iff_eq.1 h18
     refine zar (zar (zad (zaD rfl dc rfl (zaX rfl dc rfl rfl zaP (zap (zag ?_))))))
     refine zbb rfl (fun h19 => ?_) (fun h19 => ?_)
     ·
      have h19:=beq_iff_eq.1 h19
      refine zar (zad (zaD rfl dc rfl (zav rfl dc rfl (zac zb5 rfl dc rfl (show _=0 from rfl) ?_))))
      refine zaG (k:=0) (l':=(scC 3 s)) zeR rfl rfl rfl rfl rfl (fun _ _=>rfl) rfl ?_
      refine zap (zag (zar (zad (zaw rfl dc rfl (zap (zag (zaE (zao (zau (zao ?_))))))))))
      exact zbc results54 (a:=3) (c:=1)
     ·
      have h19:=beq_eq_false_iff_ne.1 h19
      refine zax (zag (zar (zad (zaD rfl dc rfl (zav rfl dc rfl (zac zb5 rfl dc rfl (show _=0 from rfl) (zat (k:=0) zdk rfl dc rfl rfl rfl (zaX rfl dc rfl rfl zaP (zaD rfl dc rfl ?_)))))))))
      refine zes (s:=49) rfl (fun h20 => ?_) (fun h20 => ?_)
      ·
       have h20:=beq_iff_eq.1 h20
       refine zaZ (k:=1) (cs:=(unC uz)) zeu rfl dc rfl rfl rfl rfl (zbv (v:=.bool (dot uz)) (vs:=[.agg (unC uz).toArray]) rfl dc rfl rfl rfl zrk (zrn uz) (zbx (b:=true) rfl dc rfl rfl (zap (zag ?_))))
       refine zbb rfl (fun h21 => ?_) (fun h21 => ?_)
       ·
        refine zar ?_
        refine zfU (β:=Unit) 6 5 _ [(0,53,.pointer (some ⟨b,0,none⟩)),(1,54,.pointer (some ⟨b,0,none⟩)),(2,55,.agg (unC uz).toArray),(3,56,.pointer (some ⟨b,0,none⟩)),(4,57,.pointer (some ⟨b,0,none⟩))] (fun _b=>[]) (fun _b=>[cells b (scC 4 s) 130,cells b1 (unC uz) 128]) mixed kr kr rfl dc dc (by rfl) kr kr (zas ?_ (zas ?_ (zas ?_ (zas ?_ (zas ?_ (zbO DrawPreX.nil)))))) (fun _b=>(zas ?_ (zas ?_ (zas ?_ (zas ?_ (zas ?_ (zbO DrawPreX.nil))))))) ?_ ?_
        ·
         intro D hn hd hcl hu hi
         refine zaD rfl dc (za3 (by rfl) rfl) ?_
         exact zbf 0 hu hi rfl
        ·
         intro D hn hd hcl hu hi
         refine zaD rfl dc (za3 (by rfl) rfl) ?_
         exact zbf 1 hu hi rfl
        ·
         intro D hn hd hcl hu hi
         refine zaZ (k:=1) (cs:=(unC uz)) zeu rfl dc (za3 (by rfl) rfl) rfl rfl rfl ?_
         exact zbf 2 hu hi rfl
        ·
         intro D hn hd hcl hu hi
         refine zav rfl dc (zaU (m:=0) hu rfl (hd 0 dc)) ?_
         exact zbf 3 hu hi rfl
        ·
         intro D hn hd hcl hu hi
         refine zac zb5 rfl dc (zaU (m:=3) hu rfl (hd 3 dc)) (show _=0 from rfl) ?_
         exact zbf 4 hu hi rfl
        ·
         intro D hn hd hcl hu hi
         refine zaD rfl dc (za3 (by rfl) rfl) ?_
         exact zbf 0 hu hi rfl
        ·
         intro D hn hd hcl hu hi
         refine zaD rfl dc (za3 (by rfl) rfl) ?_
         exact zbf 1 hu hi rfl
        ·
         intro D hn hd hcl hu hi
         refine zaZ (k:=1) (cs:=(unC uz)) zeu rfl dc (za3 (by rfl) rfl) rfl rfl rfl ?_
         exact zbf 2 hu hi rfl
        ·
         intro D hn hd hcl hu hi
         refine zav rfl dc (zaU (m:=0) hu rfl (hd 0 dc)) ?_
         exact zbf 3 hu hi rfl
        ·
         intro D hn hd hcl hu hi
         refine zac zb5 rfl dc (zaU (m:=3) hu rfl (hd 3 dc)) (show _=0 from rfl) ?_
         exact zbf 4 hu hi rfl
        ·
         intro D hn hd hcl
         refine zaG (k:=0) (l':=(scC 4 s)) zeR rfl (zaU (m:=4) kr rfl (hd 4 dc)) rfl rfl rfl (fun _ _=>rfl) rfl ?_
         exact fun a w ha hw=>⟨(),ha,hw⟩
        intro _b
        show TO _ _ _ _ _ _ _ _ _ _ [cells b (scC 4 s) 130,cells b1 (unC uz) 128]
        refine zav rfl dc rfl (zac zgx rfl dc rfl (show _=4 from rfl) (za2 (k:=0) (vs:=(unC uz)) (l':=[.int .i64 4,.int .i64 s.tk.k,.int .i64 (s.tk.f:Int),.int .i64 (s.tk.t:Int),.int .i64 uz.k,.int .i32 (uz.r:Int),.int .i64 (uz.f:Int),.int .i64 (uz.t:Int),.bool uz.al]) zhE rfl rfl rfl rfl rfl (Nat.le_of_ble_eq_true rfl) rfl rfl (zap (zag (zar (zad (zaw rfl dc rfl (zap (zag (zaE (zau (zao ?_))))))))))))
        exact zbc results54 (a:=4) (c:=2)
       ·
        refine zax (zah (zag (zar (zad (zaw rfl dc rfl (zap (zag (zaE ?_))))))))
        exact zbc results54 (a:=s.st) (c:=0)
      ·
       have h20:=beq_eq_false_iff_ne.1 h20
       refine zaW rfl dc (zaW rfl dc (zbx (b:=false) rfl dc rfl rfl (zap (zag (zaS rfl (zax (zah (zag (zar (zad (zaw rfl dc rfl (zap (zag ?_)))))))))))))
       refine zaE ?_
       exact zbc results54 (a:=s.st) (c:=0)
    ·
     have h18:=beq_eq_false_iff_ne.1 h18
     refine zar (zad (zaX rfl dc rfl rfl zaP (zaw rfl dc rfl (zap (zag ?_)))))
     refine zbb rfl (fun h22 => ?_) (fun h22 => ?_)
     ·
      have h22:=beq_iff_eq.1 h22
      refine zar (zad (zaD rfl dc rfl (zaX rfl dc rfl rfl zaP (zap (zag ?_)))))
      refine zbb rfl (fun h23 => ?_) (fun h23 => ?_)
      ·
       have h23:=beq_iff_eq.1 h23
       refine zar (zad (zaw rfl dc rfl (zap (zag (zaE (zau (zao ?_)))))))
       exact zbc results54 (a:=s.st) (c:=1)
      ·
       have h23:=beq_eq_false_iff_ne.1 h23
       refine zax (zah (zag (zar (zad (zaw rfl dc rfl (zap (zag (zaE ?_))))))))
       exact zbc results54 (a:=s.st) (c:=0)
     ·
      have h22:=beq_eq_false_iff_ne.1 h22
      refine zar (zad (zaX rfl dc rfl rfl zaP (zaw rfl dc rfl (zap (zag ?_)))))
      refine zbb rfl (fun h24 => ?_) (fun h24 => ?_)
      ·
       have h24:=beq_iff_eq.1 h24
       refine zar (zad (zaD rfl dc rfl (zaX rfl dc rfl rfl zaP (zap (zag ?_)))))
       refine zbb rfl (fun h25 => ?_) (fun h25 => ?_)
       ·
        have h25:=beq_iff_eq.1 h25
        refine zar (zad (zaw rfl dc rfl (zap (zag (zaE (zau (zao ?_)))))))
        exact zbc results54 (a:=s.st) (c:=1)
       ·
        have h25:=beq_eq_false_iff_ne.1 h25
        refine zax (zah (zag (zar (zad (zaw rfl dc rfl (zap (zag (zaE ?_))))))))
        exact zbc results54 (a:=s.st) (c:=0)
      ·
       have h24:=beq_eq_false_iff_ne.1 h24
       refine zar (zad (zaX rfl dc rfl rfl zaP (zaw rfl dc rfl (zap (zag ?_)))))
       refine zbb rfl (fun h26 => ?_) (fun h26 => ?_)
       ·
        have h26:=beq_iff_eq.1 h26
        refine zar (zad (zaD rfl dc rfl (zaX rfl dc rfl rfl zaP (zaD rfl dc rfl ?_))))
        refine zes (s:=72) rfl (fun h27 => ?_) (fun h27 => ?_)
        ·
         have h27:=beq_iff_eq.1 h27
         refine zac zgy rfl dc rfl (show _=1 from rfl) (zat (k:=1) zfq rfl dc rfl rfl rfl (zaX rfl dc rfl rfl zaP (zbx (b:=true) rfl dc rfl rfl (zap (zag ?_)))))
         refine zbb rfl (fun h28 => ?_) (fun h28 => ?_)
         ·
          have h28:=beq_iff_eq.1 h28
          refine zar (zad (zaD rfl dc rfl (zav rfl dc rfl (zac zb5 rfl dc rfl (show _=0 from rfl) ?_))))
          refine zaG (k:=0) (l':=(scC 7 s)) zeR rfl rfl rfl rfl rfl (fun _ _=>rfl) rfl ?_
          refine zap (zag (zar (zad (zaw rfl dc rfl (zap (zag (zaE (zau (zao ?_)))))))))
          exact zbc results54 (a:=7) (c:=1)
         ·
          have h28:=beq_eq_false_iff_ne.1 h28
          refine zax (zah (zag (zar (zad (zaw rfl dc rfl (zap (zag (zaE ?_))))))))
          exact zbc results54 (a:=s.st) (c:=0)
        ·
         have h27:=beq_eq_false_iff_ne.1 h27
         refine zaW rfl dc (zaW rfl dc (zaW rfl dc (zbx (b:=false) rfl dc rfl rfl (zap (zag (zaS rfl (zax (zah (zag (zar (zad (zaw rfl dc rfl (zap ?_)))))))))))))
         refine zag (zaE ?_)
         exact zbc results54 (a:=s.st) (c:=0)
       ·
        have h26:=beq_eq_false_iff_ne.1 h26
        refine zax (zah (zag (zar (zad (zaw rfl dc rfl (zap (zag (zaE ?_))))))))
        exact zbc results54 (a:=s.st) (c:=0)
 ·
  have h1:=beq_eq_false_iff_ne.1 h1
  refine zad (zaX rfl dc rfl rfl zaP (zaw rfl dc rfl (zap (zag ?_))))
  refine zbb rfl (fun h29 => ?_) (fun h29 => ?_)
  ·
   have h29:=beq_iff_eq.1 h29
   refine zar (zar (zad (zaD rfl dc rfl (zaX rfl dc rfl rfl zaP (zap (zag ?_))))))
   refine zbb rfl (fun h30 => ?_) (fun h30 => ?_)
   ·
    have h30:=beq_iff_eq.1 h30
    refine zar (zad (zaD rfl dc rfl (zav rfl dc rfl (zac zb5 rfl dc rfl (show _=0 from rfl) ?_))))
    refine zaG (k:=0) (l':=(scC 1 s)) zeR rfl rfl rfl rfl rfl (fun _ _=>rfl) rfl ?_
    refine zap (zag (zar (zad (zaw rfl dc rfl (zap (zag (zaE (zao (zau (zao ?_))))))))))
    exact zbc results54 (a:=1) (c:=1)
   ·
    have h30:=beq_eq_false_iff_ne.1 h30
    refine zax (zag (zar (zad (zaD rfl dc rfl (zav rfl dc rfl (zac zb5 rfl dc rfl (show _=0 from rfl) (zat (k:=0) zdk rfl dc rfl rfl rfl (zaX rfl dc rfl rfl zaP (zaD rfl dc rfl ?_)))))))))
    refine zes (s:=25) rfl (fun h31 => ?_) (fun h31 => ?_)
    ·
     have h31:=beq_iff_eq.1 h31
     refine zaZ (k:=1) (cs:=(unC uz)) zeu rfl dc rfl rfl rfl rfl (zbv (v:=.bool (joint uz)) (vs:=[.agg (unC uz).toArray]) rfl dc rfl rfl rfl zuG (zpI uz) (zbx (b:=true) rfl dc rfl rfl (zap (zag ?_))))
     refine zbb rfl (fun h32 => ?_) (fun h32 => ?_)
     ·
      refine zar ?_
      refine zfU (β:=Unit) 6 5 _ [(0,29,.pointer (some ⟨b,0,none⟩)),(1,30,.pointer (some ⟨b,0,none⟩)),(2,31,.agg (unC uz).toArray),(3,32,.pointer (some ⟨b,0,none⟩)),(4,33,.pointer (some ⟨b,0,none⟩))] (fun _b=>[]) (fun _b=>[cells b (scC 2 s) 130,cells b1 (unC uz) 128]) mixed kr kr rfl dc dc (by rfl) kr kr (zas ?_ (zas ?_ (zas ?_ (zas ?_ (zas ?_ (zbO DrawPreX.nil)))))) (fun _b=>(zas ?_ (zas ?_ (zas ?_ (zas ?_ (zas ?_ (zbO DrawPreX.nil))))))) ?_ ?_
      ·
       intro D hn hd hcl hu hi
       refine zaD rfl dc (za3 (by rfl) rfl) ?_
       exact zbf 0 hu hi rfl
      ·
       intro D hn hd hcl hu hi
       refine zaD rfl dc (za3 (by rfl) rfl) ?_
       exact zbf 1 hu hi rfl
      ·
       intro D hn hd hcl hu hi
       refine zaZ (k:=1) (cs:=(unC uz)) zeu rfl dc (za3 (by rfl) rfl) rfl rfl rfl ?_
       exact zbf 2 hu hi rfl
      ·
       intro D hn hd hcl hu hi
       refine zav rfl dc (zaU (m:=0) hu rfl (hd 0 dc)) ?_
       exact zbf 3 hu hi rfl
      ·
       intro D hn hd hcl hu hi
       refine zac zb5 rfl dc (zaU (m:=3) hu rfl (hd 3 dc)) (show _=0 from rfl) ?_
       exact zbf 4 hu hi rfl
      ·
       intro D hn hd hcl hu hi
       refine zaD rfl dc (za3 (by rfl) rfl) ?_
       exact zbf 0 hu hi rfl
      ·
       intro D hn hd hcl hu hi
       refine zaD rfl dc (za3 (by rfl) rfl) ?_
       exact zbf 1 hu hi rfl
      ·
       intro D hn hd hcl hu hi
       refine zaZ (k:=1) (cs:=(unC uz)) zeu rfl dc (za3 (by rfl) rfl) rfl rfl rfl ?_
       exact zbf 2 hu hi rfl
      ·
       intro D hn hd hcl hu hi
       refine zav rfl dc (zaU (m:=0) hu rfl (hd 0 dc)) ?_
       exact zbf 3 hu hi rfl
      ·
       intro D hn hd hcl hu hi
       refine zac zb5 rfl dc (zaU (m:=3) hu rfl (hd 3 dc)) (show _=0 from rfl) ?_
       exact zbf 4 hu hi rfl
      ·
       intro D hn hd hcl
       refine zaG (k:=0) (l':=(scC 2 s)) zeR rfl (zaU (m:=4) kr rfl (hd 4 dc)) rfl rfl rfl (fun _ _=>rfl) rfl ?_
       exact fun a w ha hw=>⟨(),ha,hw⟩
      intro _b
      show TO _ _ _ _ _ _ _ _ _ _ [cells b (scC 2 s) 130,cells b1 (unC uz) 128]
      refine zav rfl dc rfl (zac zgx rfl dc rfl (show _=4 from rfl) (za2 (k:=0) (vs:=(unC uz)) (l':=[.int .i64 2,.int .i64 s.tk.k,.int .i64 (s.tk.f:Int),.int .i64 (s.tk.t:Int),.int .i64 uz.k,.int .i32 (uz.r:Int),.int .i64 (uz.f:Int),.int .i64 (uz.t:Int),.bool uz.al]) zhE rfl rfl rfl rfl rfl (Nat.le_of_ble_eq_true rfl) rfl rfl (zap (zag (zar (zad (zaw rfl dc rfl (zap (zag (zaE (zau (zao ?_))))))))))))
      exact zbc results54 (a:=2) (c:=2)
     ·
      refine zax (zah (zag (zar (zad (zaw rfl dc rfl (zap (zag (zaE ?_))))))))
      exact zbc results54 (a:=s.st) (c:=0)
    ·
     have h31:=beq_eq_false_iff_ne.1 h31
     refine zaW rfl dc (zaW rfl dc (zbx (b:=false) rfl dc rfl rfl (zap (zag (zaS rfl (zax (zah (zag (zar (zad (zaw rfl dc rfl (zap (zag ?_)))))))))))))
     refine zaE ?_
     exact zbc results54 (a:=s.st) (c:=0)
  ·
   have h29:=beq_eq_false_iff_ne.1 h29
   refine zar (zar (zad (zaX rfl dc rfl rfl zaP (zaw rfl dc rfl (zap (zag ?_))))))
   refine zbb rfl (fun h33 => ?_) (fun h33 => ?_)
   ·
    have h33:=beq_iff_eq.1 h33
    refine zax (zag ?_)
    refine zbb rfl (fun h34 => ?_) (fun h34 => ?_)
    ·
     have h34:=beq_iff_eq.1 h34
     refine zar (zar (zad (zaD rfl dc rfl (zaX rfl dc rfl rfl zaP (zap (zag ?_))))))
     refine zbb rfl (fun h35 => ?_) (fun h35 => ?_)
     ·
      have h35:=beq_iff_eq.1 h35
      refine zar (zad (zaD rfl dc rfl (zav rfl dc rfl (zac zb5 rfl dc rfl (show _=0 from rfl) ?_))))
      refine zaG (k:=0) (l':=(scC 3 s)) zeR rfl rfl rfl rfl rfl (fun _ _=>rfl) rfl ?_
      refine zap (zag (zar (zad (zaw rfl dc rfl (zap (zag (zaE (zao (zau (zao ?_))))))))))
      exact zbc results54 (a:=3) (c:=1)
     ·
      have h35:=beq_eq_false_iff_ne.1 h35
      refine zax (zag (zar (zad (zaD rfl dc rfl (zav rfl dc rfl (zac zb5 rfl dc rfl (show _=0 from rfl) (zat (k:=0) zdk rfl dc rfl rfl rfl (zaX rfl dc rfl rfl zaP (zaD rfl dc rfl ?_)))))))))
      refine zes (s:=49) rfl (fun h36 => ?_) (fun h36 => ?_)
      ·
       have h36:=beq_iff_eq.1 h36
       refine zaZ (k:=1) (cs:=(unC uz)) zeu rfl dc rfl rfl rfl rfl (zbv (v:=.bool (dot uz)) (vs:=[.agg (unC uz).toArray]) rfl dc rfl rfl rfl zrk (zrn uz) (zbx (b:=true) rfl dc rfl rfl (zap (zag ?_))))
       refine zbb rfl (fun h37 => ?_) (fun h37 => ?_)
       ·
        refine zar ?_
        refine zfU (β:=Unit) 6 5 _ [(0,53,.pointer (some ⟨b,0,none⟩)),(1,54,.pointer (some ⟨b,0,none⟩)),(2,55,.agg (unC uz).toArray),(3,56,.pointer (some ⟨b,0,none⟩)),(4,57,.pointer (some ⟨b,0,none⟩))] (fun _b=>[]) (fun _b=>[cells b (scC 4 s) 130,cells b1 (unC uz) 128]) mixed kr kr rfl dc dc (by rfl) kr kr (zas ?_ (zas ?_ (zas ?_ (zas ?_ (zas ?_ (zbO DrawPreX.nil)))))) (fun _b=>(zas ?_ (zas ?_ (zas ?_ (zas ?_ (zas ?_ (zbO DrawPreX.nil))))))) ?_ ?_
        ·
         intro D hn hd hcl hu hi
         refine zaD rfl dc (za3 (by rfl) rfl) ?_
         exact zbf 0 hu hi rfl
        ·
         intro D hn hd hcl hu hi
         refine zaD rfl dc (za3 (by rfl) rfl) ?_
         exact zbf 1 hu hi rfl
        ·
         intro D hn hd hcl hu hi
         refine zaZ (k:=1) (cs:=(unC uz)) zeu rfl dc (za3 (by rfl) rfl) rfl rfl rfl ?_
         exact zbf 2 hu hi rfl
        ·
         intro D hn hd hcl hu hi
         refine zav rfl dc (zaU (m:=0) hu rfl (hd 0 dc)) ?_
         exact zbf 3 hu hi rfl
        ·
         intro D hn hd hcl hu hi
         refine zac zb5 rfl dc (zaU (m:=3) hu rfl (hd 3 dc)) (show _=0 from rfl) ?_
         exact zbf 4 hu hi rfl
        ·
         intro D hn hd hcl hu hi
         refine zaD rfl dc (za3 (by rfl) rfl) ?_
         exact zbf 0 hu hi rfl
        ·
         intro D hn hd hcl hu hi
         refine zaD rfl dc (za3 (by rfl) rfl) ?_
         exact zbf 1 hu hi rfl
        ·
         intro D hn hd hcl hu hi
         refine zaZ (k:=1) (cs:=(unC uz)) zeu rfl dc (za3 (by rfl) rfl) rfl rfl rfl ?_
         exact zbf 2 hu hi rfl
        ·
         intro D hn hd hcl hu hi
         refine zav rfl dc (zaU (m:=0) hu rfl (hd 0 dc)) ?_
         exact zbf 3 hu hi rfl
        ·
         intro D hn hd hcl hu hi
         refine zac zb5 rfl dc (zaU (m:=3) hu rfl (hd 3 dc)) (show _=0 from rfl) ?_
         exact zbf 4 hu hi rfl
        ·
         intro D hn hd hcl
         refine zaG (k:=0) (l':=(scC 4 s)) zeR rfl (zaU (m:=4) kr rfl (hd 4 dc)) rfl rfl rfl (fun _ _=>rfl) rfl ?_
         exact fun a w ha hw=>⟨(),ha,hw⟩
        intro _b
        show TO _ _ _ _ _ _ _ _ _ _ [cells b (scC 4 s) 130,cells b1 (unC uz) 128]
        refine zav rfl dc rfl (zac zgx rfl dc rfl (show _=4 from rfl) (za2 (k:=0) (vs:=(unC uz)) (l':=[.int .i64 4,.int .i64 s.tk.k,.int .i64 (s.tk.f:Int),.int .i64 (s.tk.t:Int),.int .i64 uz.k,.int .i32 (uz.r:Int),.int .i64 (uz.f:Int),.int .i64 (uz.t:Int),.bool uz.al]) zhE rfl rfl rfl rfl rfl (Nat.le_of_ble_eq_true rfl) rfl rfl (zap (zag (zar (zad (zaw rfl dc rfl (zap (zag (zaE (zau (zao ?_))))))))))))
        exact zbc results54 (a:=4) (c:=2)
       ·
        refine zax (zah (zag (zar (zad (zaw rfl dc rfl (zap (zag (zaE ?_))))))))
        exact zbc results54 (a:=s.st) (c:=0)
      ·
       have h36:=beq_eq_false_iff_ne.1 h36
       refine zaW rfl dc (zaW rfl dc (zbx (b:=false) rfl dc rfl rfl (zap (zag (zaS rfl (zax (zah (zag (zar (zad (zaw rfl dc rfl (zap (zag ?_)))))))))))))
       refine zaE ?_
       exact zbc results54 (a:=s.st) (c:=0)
    ·
     have h34:=beq_eq_false_iff_ne.1 h34
     refine zar (zad (zaX rfl dc rfl rfl zaP (zaw rfl dc rfl (zap (zag ?_)))))
     refine zbb rfl (fun h38 => ?_) (fun h38 => ?_)
     ·
      have h38:=beq_iff_eq.1 h38
      refine zar (zad (zaD rfl dc rfl (zaX rfl dc rfl rfl zaP (zap (zag ?_)))))
      refine zbb rfl (fun h39 => ?_) (fun h39 => ?_)
      ·
       have h39:=beq_iff_eq.1 h39
       refine zar (zad (zaw rfl dc rfl (zap (zag (zaE (zau (zao ?_)))))))
       exact zbc results54 (a:=s.st) (c:=1)
      ·
       have h39:=beq_eq_false_iff_ne.1 h39
       refine zax (zah (zag (zar (zad (zaw rfl dc rfl (zap (zag (zaE ?_))))))))
       exact zbc results54 (a:=s.st) (c:=0)
     ·
      have h38:=beq_eq_false_iff_ne.1 h38
      refine zar (zad (zaX rfl dc rfl rfl zaP (zaw rfl dc rfl (zap (zag ?_)))))
      refine zbb rfl (fun h40 => ?_) (fun h40 => ?_)
      ·
       have h40:=beq_iff_eq.1 h40
       refine zar (zad (zaD rfl dc rfl (zaX rfl dc rfl rfl zaP (zap (zag ?_)))))
       refine zbb rfl (fun h41 => ?_) (fun h41 => ?_)
       ·
        have h41:=beq_iff_eq.1 h41
        refine zar (zad (zaw rfl dc rfl (zap (zag (zaE (zau (zao ?_)))))))
        exact zbc results54 (a:=s.st) (c:=1)
       ·
        have h41:=beq_eq_false_iff_ne.1 h41
        refine zax (zah (zag (zar (zad (zaw rfl dc rfl (zap (zag (zaE ?_))))))))
        exact zbc results54 (a:=s.st) (c:=0)
      ·
       have h40:=beq_eq_false_iff_ne.1 h40
       refine zar (zad (zaX rfl dc rfl rfl zaP (zaw rfl dc rfl (zap (zag ?_)))))
       refine zbb rfl (fun h42 => ?_) (fun h42 => ?_)
       ·
        have h42:=beq_iff_eq.1 h42
        refine zar (zad (zaD rfl dc rfl (zaX rfl dc rfl rfl zaP (zaD rfl dc rfl ?_))))
        refine zes (s:=72) rfl (fun h43 => ?_) (fun h43 => ?_)
        ·
         have h43:=beq_iff_eq.1 h43
         refine zac zgy rfl dc rfl (show _=1 from rfl) (zat (k:=1) zfq rfl dc rfl rfl rfl (zaX rfl dc rfl rfl zaP (zbx (b:=true) rfl dc rfl rfl (zap (zag ?_)))))
         refine zbb rfl (fun h44 => ?_) (fun h44 => ?_)
         ·
          have h44:=beq_iff_eq.1 h44
          refine zar (zad (zaD rfl dc rfl (zav rfl dc rfl (zac zb5 rfl dc rfl (show _=0 from rfl) ?_))))
          refine zaG (k:=0) (l':=(scC 7 s)) zeR rfl rfl rfl rfl rfl (fun _ _=>rfl) rfl ?_
          refine zap (zag (zar (zad (zaw rfl dc rfl (zap (zag (zaE (zau (zao ?_)))))))))
          exact zbc results54 (a:=7) (c:=1)
         ·
          have h44:=beq_eq_false_iff_ne.1 h44
          refine zax (zah (zag (zar (zad (zaw rfl dc rfl (zap (zag (zaE ?_))))))))
          exact zbc results54 (a:=s.st) (c:=0)
        ·
         have h43:=beq_eq_false_iff_ne.1 h43
         refine zaW rfl dc (zaW rfl dc (zaW rfl dc (zbx (b:=false) rfl dc rfl rfl (zap (zag (zaS rfl (zax (zah (zag (zar (zad (zaw rfl dc rfl (zap ?_)))))))))))))
         refine zag (zaE ?_)
         exact zbc results54 (a:=s.st) (c:=0)
       ·
        have h42:=beq_eq_false_iff_ne.1 h42
        refine zax (zah (zag (zar (zad (zaw rfl dc rfl (zap (zag (zaE ?_))))))))
        exact zbc results54 (a:=s.st) (c:=0)
   ·
    have h33:=beq_eq_false_iff_ne.1 h33
    refine zad (zaX rfl dc rfl rfl zaP (zaw rfl dc rfl (zap (zag ?_))))
    refine zbb rfl (fun h45 => ?_) (fun h45 => ?_)
    ·
     have h45:=beq_iff_eq.1 h45
     refine zar (zar (zad (zaD rfl dc rfl (zaX rfl dc rfl rfl zaP (zap (zag ?_))))))
     refine zbb rfl (fun h46 => ?_) (fun h46 => ?_)
     ·
      have h46:=beq_iff_eq.1 h46
      refine zar (zad (zaD rfl dc rfl (zav rfl dc rfl (zac zb5 rfl dc rfl (show _=0 from rfl) ?_))))
      refine zaG (k:=0) (l':=(scC 3 s)) zeR rfl rfl rfl rfl rfl (fun _ _=>rfl) rfl ?_
      refine zap (zag (zar (zad (zaw rfl dc rfl (zap (zag (zaE (zao (zau (zao ?_))))))))))
      exact zbc results54 (a:=3) (c:=1)
     ·
      have h46:=beq_eq_false_iff_ne.1 h46
      refine zax (zag (zar (zad (zaD rfl dc rfl (zav rfl dc rfl (zac zb5 rfl dc rfl (show _=0 from rfl) (zat (k:=0) zdk rfl dc rfl rfl rfl (zaX rfl dc rfl rfl zaP (zaD rfl dc rfl ?_)))))))))
      refine zes (s:=49) rfl (fun h47 => ?_) (fun h47 => ?_)
      ·
       have h47:=beq_iff_eq.1 h47
       refine zaZ (k:=1) (cs:=(unC uz)) zeu rfl dc rfl rfl rfl rfl (zbv (v:=.bool (dot uz)) (vs:=[.agg (unC uz).toArray]) rfl dc rfl rfl rfl zrk (zrn uz) (zbx (b:=true) rfl dc rfl rfl (zap (zag ?_))))
       refine zbb rfl (fun h48 => ?_) (fun h48 => ?_)
       ·
        refine zar ?_
        refine zfU (β:=Unit) 6 5 _ [(0,53,.pointer (some ⟨b,0,none⟩)),(1,54,.pointer (some ⟨b,0,none⟩)),(2,55,.agg (unC uz).toArray),(3,56,.pointer (some ⟨b,0,none⟩)),(4,57,.pointer (some ⟨b,0,none⟩))] (fun _b=>[]) (fun _b=>[cells b (scC 4 s) 130,cells b1 (unC uz) 128]) mixed kr kr rfl dc dc (by rfl) kr kr (zas ?_ (zas ?_ (zas ?_ (zas ?_ (zas ?_ (zbO DrawPreX.nil)))))) (fun _b=>(zas ?_ (zas ?_ (zas ?_ (zas ?_ (zas ?_ (zbO DrawPreX.nil))))))) ?_ ?_
        ·
         intro D hn hd hcl hu hi
         refine zaD rfl dc (za3 (by rfl) rfl) ?_
         exact zbf 0 hu hi rfl
        ·
         intro D hn hd hcl hu hi
         refine zaD rfl dc (za3 (by rfl) rfl) ?_
         exact zbf 1 hu hi rfl
        ·
         intro D hn hd hcl hu hi
         refine zaZ (k:=1) (cs:=(unC uz)) zeu rfl dc (za3 (by rfl) rfl) rfl rfl rfl ?_
         exact zbf 2 hu hi rfl
        ·
         intro D hn hd hcl hu hi
         refine zav rfl dc (zaU (m:=0) hu rfl (hd 0 dc)) ?_
         exact zbf 3 hu hi rfl
        ·
         intro D hn hd hcl hu hi
         refine zac zb5 rfl dc (zaU (m:=3) hu rfl (hd 3 dc)) (show _=0 from rfl) ?_
         exact zbf 4 hu hi rfl
        ·
         intro D hn hd hcl hu hi
         refine zaD rfl dc (za3 (by rfl) rfl) ?_
         exact zbf 0 hu hi rfl
        ·
         intro D hn hd hcl hu hi
         refine zaD rfl dc (za3 (by rfl) rfl) ?_
         exact zbf 1 hu hi rfl
        ·
         intro D hn hd hcl hu hi
         refine zaZ (k:=1) (cs:=(unC uz)) zeu rfl dc (za3 (by rfl) rfl) rfl rfl rfl ?_
         exact zbf 2 hu hi rfl
        ·
         intro D hn hd hcl hu hi
         refine zav rfl dc (zaU (m:=0) hu rfl (hd 0 dc)) ?_
         exact zbf 3 hu hi rfl
        ·
         intro D hn hd hcl hu hi
         refine zac zb5 rfl dc (zaU (m:=3) hu rfl (hd 3 dc)) (show _=0 from rfl) ?_
         exact zbf 4 hu hi rfl
        ·
         intro D hn hd hcl
         refine zaG (k:=0) (l':=(scC 4 s)) zeR rfl (zaU (m:=4) kr rfl (hd 4 dc)) rfl rfl rfl (fun _ _=>rfl) rfl ?_
         exact fun a w ha hw=>⟨(),ha,hw⟩
        intro _b
        show TO _ _ _ _ _ _ _ _ _ _ [cells b (scC 4 s) 130,cells b1 (unC uz) 128]
        refine zav rfl dc rfl (zac zgx rfl dc rfl (show _=4 from rfl) (za2 (k:=0) (vs:=(unC uz)) (l':=[.int .i64 4,.int .i64 s.tk.k,.int .i64 (s.tk.f:Int),.int .i64 (s.tk.t:Int),.int .i64 uz.k,.int .i32 (uz.r:Int),.int .i64 (uz.f:Int),.int .i64 (uz.t:Int),.bool uz.al]) zhE rfl rfl rfl rfl rfl (Nat.le_of_ble_eq_true rfl) rfl rfl (zap (zag (zar (zad (zaw rfl dc rfl (zap (zag (zaE (zau (zao ?_))))))))))))
        exact zbc results54 (a:=4) (c:=2)
       ·
        refine zax (zah (zag (zar (zad (zaw rfl dc rfl (zap (zag (zaE ?_))))))))
        exact zbc results54 (a:=s.st) (c:=0)
      ·
       have h47:=beq_eq_false_iff_ne.1 h47
       refine zaW rfl dc (zaW rfl dc (zbx (b:=false) rfl dc rfl rfl (zap (zag (zaS rfl (zax (zah (zag (zar (zad (zaw rfl dc rfl (zap (zag ?_)))))))))))))
       refine zaE ?_
       exact zbc results54 (a:=s.st) (c:=0)
    ·
     have h45:=beq_eq_false_iff_ne.1 h45
     refine zar (zad (zaX rfl dc rfl rfl zaP (zaw rfl dc rfl (zap (zag ?_)))))
     refine zbb rfl (fun h49 => ?_) (fun h49 => ?_)
     ·
      have h49:=beq_iff_eq.1 h49
      refine zar (zad (zaD rfl dc rfl (zaX rfl dc rfl rfl zaP (zap (zag ?_)))))
      refine zbb rfl (fun h50 => ?_) (fun h50 => ?_)
      ·
       have h50:=beq_iff_eq.1 h50
       refine zar (zad (zaw rfl dc rfl (zap (zag (zaE (zau (zao ?_)))))))
       exact zbc results54 (a:=s.st) (c:=1)
      ·
       have h50:=beq_eq_false_iff_ne.1 h50
       refine zax (zah (zag (zar (zad (zaw rfl dc rfl (zap (zag (zaE ?_))))))))
       exact zbc results54 (a:=s.st) (c:=0)
     ·
      have h49:=beq_eq_false_iff_ne.1 h49
      refine zar (zad (zaX rfl dc rfl rfl zaP (zaw rfl dc rfl (zap (zag ?_)))))
      refine zbb rfl (fun h51 => ?_) (fun h51 => ?_)
      ·
       have h51:=beq_iff_eq.1 h51
       refine zar (zad (zaD rfl dc rfl (zaX rfl dc rfl rfl zaP (zap (zag ?_)))))
       refine zbb rfl (fun h52 => ?_) (fun h52 => ?_)
       ·
        have h52:=beq_iff_eq.1 h52
        refine zar (zad (zaw rfl dc rfl (zap (zag (zaE (zau (zao ?_)))))))
        exact zbc results54 (a:=s.st) (c:=1)
       ·
        have h52:=beq_eq_false_iff_ne.1 h52
        refine zax (zah (zag (zar (zad (zaw rfl dc rfl (zap (zag (zaE ?_))))))))
        exact zbc results54 (a:=s.st) (c:=0)
      ·
       have h51:=beq_eq_false_iff_ne.1 h51
       refine zar (zad (zaX rfl dc rfl rfl zaP (zaw rfl dc rfl (zap (zag ?_)))))
       refine zbb rfl (fun h53 => ?_) (fun h53 => ?_)
       ·
        have h53:=beq_iff_eq.1 h53
        refine zar (zad (zaD rfl dc rfl (zaX rfl dc rfl rfl zaP (zaD rfl dc rfl ?_))))
        refine zes (s:=72) rfl (fun h54 => ?_) (fun h54 => ?_)
        ·
         have h54:=beq_iff_eq.1 h54
         refine zac zgy rfl dc rfl (show _=1 from rfl) (zat (k:=1) zfq rfl dc rfl rfl rfl (zaX rfl dc rfl rfl zaP (zbx (b:=true) rfl dc rfl rfl (zap (zag ?_)))))
         refine zbb rfl (fun h55 => ?_) (fun h55 => ?_)
         ·
          have h55:=beq_iff_eq.1 h55
          refine zar (zad (zaD rfl dc rfl (zav rfl dc rfl (zac zb5 rfl dc rfl (show _=0 from rfl) ?_))))
          refine zaG (k:=0) (l':=(scC 7 s)) zeR rfl rfl rfl rfl rfl (fun _ _=>rfl) rfl ?_
          refine zap (zag (zar (zad (zaw rfl dc rfl (zap (zag (zaE (zau (zao ?_)))))))))
          exact zbc results54 (a:=7) (c:=1)
         ·
          have h55:=beq_eq_false_iff_ne.1 h55
          refine zax (zah (zag (zar (zad (zaw rfl dc rfl (zap (zag (zaE ?_))))))))
          exact zbc results54 (a:=s.st) (c:=0)
        ·
         have h54:=beq_eq_false_iff_ne.1 h54
         refine zaW rfl dc (zaW rfl dc (zaW rfl dc (zbx (b:=false) rfl dc rfl rfl (zap (zag (zaS rfl (zax (zah (zag (zar (zad (zaw rfl dc rfl (zap ?_)))))))))))))
         refine zag (zaE ?_)
         exact zbc results54 (a:=s.st) (c:=0)
       ·
        have h53:=beq_eq_false_iff_ne.1 h53
        refine zax (zah (zag (zar (zad (zaw rfl dc rfl (zap (zag (zaE ?_))))))))
        exact zbc results54 (a:=s.st) (c:=0)
theorem zrw (b:Nat) (s:Sc) (uz:Un):Fn prog 56 [.pointer (some ⟨b,0,none⟩),.agg #[.int .i64 uz.k,.int .i32 uz.r,.int .i64 uz.f,.int .i64 uz.t,.bool uz.al]] [cells b (scV s) 130] (fun _:Unit=>.tuple #[]) (fun _=>[cells b (scV (began s uz)) 130]):=by
 refine Fn.intro func56 rfl ntmps56 (by simp) ?_
 intro w0 K
 show TC _ _ _ _ _ _ _ _ _ [cells b (scC s.st s) 130]
 refine zar (zad ?_)
 refine zdN rfl dc rfl (fun b1 => ?_)
 refine zap (zag (zar (zad (zaD rfl dc rfl (zac zep rfl dc rfl (show _=2 from rfl) (zaZ (k:=1) (cs:=[.int .i64 (uz.f:Int),.int .i64 (uz.t:Int)]) zpl rfl dc rfl rfl rfl rfl ?_))))))
 refine zbB (v:=.agg #[.int .i64 6,.int .i64 (uz.f:Int),.int .i64 (uz.t:Int)]) (ps:=[(0,.const (.int .i64 6)),(1,.tmp 6)]) rfl dc rfl (fun _=>by kernel_rfl) ?_
 refine zav rfl dc rfl (zac zeE rfl dc rfl (show _=1 from rfl) (za2 (k:=0) (vs:=[.int .i64 6,.int .i64 (uz.f:Int),.int .i64 (uz.t:Int)]) (l':=[.int .i64 s.st,.int .i64 6,.int .i64 (uz.f:Int),.int .i64 (uz.t:Int),.int .i64 s.h.k,.int .i32 (s.h.r:Int),.int .i64 (s.h.f:Int),.int .i64 (s.h.t:Int),.bool s.h.al]) zue rfl rfl rfl rfl rfl (Nat.le_of_ble_eq_true rfl) rfl rfl (zap (zag (zar (zad (zaD rfl dc rfl (zav rfl dc rfl (zac zb5 rfl dc rfl (show _=0 from rfl) ?_)))))))))
 refine zaG (k:=0) (l':=[.int .i64 9,.int .i64 6,.int .i64 (uz.f:Int),.int .i64 (uz.t:Int),.int .i64 s.h.k,.int .i32 (s.h.r:Int),.int .i64 (s.h.f:Int),.int .i64 (s.h.t:Int),.bool s.h.al]) zeR rfl rfl rfl rfl rfl (fun _ _=>rfl) rfl ?_
 show TO _ _ _ _ _ _ _ _ _ _ [cells b [.int .i64 9,.int .i64 6,.int .i64 (uz.f:Int),.int .i64 (uz.t:Int),.int .i64 s.h.k,.int .i32 (s.h.r:Int),.int .i64 (s.h.f:Int),.int .i64 (s.h.t:Int),.bool s.h.al] 130,cells b1 (unC uz) 128]
 refine zap (zag (zar (zad (zac zjY rfl dc rfl (show _=0 from rfl) (zat (k:=1) zhi rfl dc rfl rfl rfl (zap (zag (zaK (zar (zad (zaX rfl dc rfl rfl zaP (zaw rfl dc rfl (zap ?_)))))))))))))
 refine zag ?_
 refine zbb rfl (fun h1 => ?_) (fun h1 => ?_)
 ·
  have h1:=beq_iff_eq.1 h1
  refine zad (zaD rfl dc rfl (zaD rfl dc rfl (zav rfl dc rfl (zac zeE rfl dc rfl (show _=1 from rfl) (zac zgG rfl dc rfl (show _=1 from rfl) ?_)))))
  refine zaG (k:=0) (l':=[.int .i64 9,.int .i64 1,.int .i64 (uz.f:Int),.int .i64 (uz.t:Int),.int .i64 s.h.k,.int .i32 (s.h.r:Int),.int .i64 (s.h.f:Int),.int .i64 (s.h.t:Int),.bool s.h.al]) zeR rfl rfl rfl rfl rfl (fun _ _=>rfl) rfl ?_
  refine zav rfl dc rfl (zac zb5 rfl dc rfl (show _=0 from rfl) ?_)
  refine zaG (k:=0) (l':=[.int .i64 1,.int .i64 1,.int .i64 (uz.f:Int),.int .i64 (uz.t:Int),.int .i64 s.h.k,.int .i32 (s.h.r:Int),.int .i64 (s.h.f:Int),.int .i64 (s.h.t:Int),.bool s.h.al]) zeR rfl rfl rfl rfl rfl (fun _ _=>rfl) rfl ?_
  show TO _ _ _ _ _ _ _ _ _ _ [cells b [.int .i64 1,.int .i64 1,.int .i64 (uz.f:Int),.int .i64 (uz.t:Int),.int .i64 s.h.k,.int .i32 (s.h.r:Int),.int .i64 (s.h.f:Int),.int .i64 (s.h.t:Int),.bool s.h.al] 130,cells b1 (unC uz) 128]
  refine zap (zah ?_)
  exact zev (.inr rfl) results56 (by simp_all [began,begins,scV] <;> omega)
 ·
  have h1:=beq_eq_false_iff_ne.1 h1
  refine zar (zad (zaX rfl dc rfl rfl zaP (zaw rfl dc rfl (zap (zag ?_)))))
  refine zbb rfl (fun h2 => ?_) (fun h2 => ?_)
  ·
   have h2:=beq_iff_eq.1 h2
   refine zad (zaD rfl dc rfl (zaD rfl dc rfl (zav rfl dc rfl (zac zeE rfl dc rfl (show _=1 from rfl) (zac zgG rfl dc rfl (show _=1 from rfl) ?_)))))
   refine zaG (k:=0) (l':=[.int .i64 9,.int .i64 2,.int .i64 (uz.f:Int),.int .i64 (uz.t:Int),.int .i64 s.h.k,.int .i32 (s.h.r:Int),.int .i64 (s.h.f:Int),.int .i64 (s.h.t:Int),.bool s.h.al]) zeR rfl rfl rfl rfl rfl (fun _ _=>rfl) rfl ?_
   refine zav rfl dc rfl (zac zb5 rfl dc rfl (show _=0 from rfl) ?_)
   refine zaG (k:=0) (l':=[.int .i64 3,.int .i64 2,.int .i64 (uz.f:Int),.int .i64 (uz.t:Int),.int .i64 s.h.k,.int .i32 (s.h.r:Int),.int .i64 (s.h.f:Int),.int .i64 (s.h.t:Int),.bool s.h.al]) zeR rfl rfl rfl rfl rfl (fun _ _=>rfl) rfl ?_
   show TO _ _ _ _ _ _ _ _ _ _ [cells b [.int .i64 3,.int .i64 2,.int .i64 (uz.f:Int),.int .i64 (uz.t:Int),.int .i64 s.h.k,.int .i32 (s.h.r:Int),.int .i64 (s.h.f:Int),.int .i64 (s.h.t:Int),.bool s.h.al] 130,cells b1 (unC uz) 128]
   refine zap (zah ?_)
   exact zev (.inr rfl) results56 (by simp_all [began,begins,scV] <;> omega)
  ·
   have h2:=beq_eq_false_iff_ne.1 h2
   refine zar (zad (zaX rfl dc rfl rfl zaP (zaw rfl dc rfl (zap (zag ?_)))))
   refine zbb rfl (fun h3 => ?_) (fun h3 => ?_)
   ·
    have h3:=beq_iff_eq.1 h3
    refine zad (zaD rfl dc rfl (zaD rfl dc rfl (zav rfl dc rfl (zac zeE rfl dc rfl (show _=1 from rfl) (zac zgG rfl dc rfl (show _=1 from rfl) ?_)))))
    refine zaG (k:=0) (l':=[.int .i64 9,.int .i64 3,.int .i64 (uz.f:Int),.int .i64 (uz.t:Int),.int .i64 s.h.k,.int .i32 (s.h.r:Int),.int .i64 (s.h.f:Int),.int .i64 (s.h.t:Int),.bool s.h.al]) zeR rfl rfl rfl rfl rfl (fun _ _=>rfl) rfl ?_
    refine zav rfl dc rfl (zac zb5 rfl dc rfl (show _=0 from rfl) ?_)
    refine zaG (k:=0) (l':=[.int .i64 5,.int .i64 3,.int .i64 (uz.f:Int),.int .i64 (uz.t:Int),.int .i64 s.h.k,.int .i32 (s.h.r:Int),.int .i64 (s.h.f:Int),.int .i64 (s.h.t:Int),.bool s.h.al]) zeR rfl rfl rfl rfl rfl (fun _ _=>rfl) rfl ?_
    show TO _ _ _ _ _ _ _ _ _ _ [cells b [.int .i64 5,.int .i64 3,.int .i64 (uz.f:Int),.int .i64 (uz.t:Int),.int .i64 s.h.k,.int .i32 (s.h.r:Int),.int .i64 (s.h.f:Int),.int .i64 (s.h.t:Int),.bool s.h.al] 130,cells b1 (unC uz) 128]
    refine zap (zah ?_)
    exact zev (.inr rfl) results56 (by simp_all [began,begins,scV] <;> omega)
   ·
    have h3:=beq_eq_false_iff_ne.1 h3
    refine zar (zad (zaX rfl dc rfl rfl zaP (zaw rfl dc rfl (zap (zag ?_)))))
    refine zbb rfl (fun h4 => ?_) (fun h4 => ?_)
    ·
     have h4:=beq_iff_eq.1 h4
     refine zad (zaD rfl dc rfl (zaD rfl dc rfl (zav rfl dc rfl (zac zeE rfl dc rfl (show _=1 from rfl) (zac zgG rfl dc rfl (show _=1 from rfl) ?_)))))
     refine zaG (k:=0) (l':=[.int .i64 9,.int .i64 7,.int .i64 (uz.f:Int),.int .i64 (uz.t:Int),.int .i64 s.h.k,.int .i32 (s.h.r:Int),.int .i64 (s.h.f:Int),.int .i64 (s.h.t:Int),.bool s.h.al]) zeR rfl rfl rfl rfl rfl (fun _ _=>rfl) rfl ?_
     refine zav rfl dc rfl (zac zb5 rfl dc rfl (show _=0 from rfl) ?_)
     refine zaG (k:=0) (l':=[.int .i64 6,.int .i64 7,.int .i64 (uz.f:Int),.int .i64 (uz.t:Int),.int .i64 s.h.k,.int .i32 (s.h.r:Int),.int .i64 (s.h.f:Int),.int .i64 (s.h.t:Int),.bool s.h.al]) zeR rfl rfl rfl rfl rfl (fun _ _=>rfl) rfl ?_
     show TO _ _ _ _ _ _ _ _ _ _ [cells b [.int .i64 6,.int .i64 7,.int .i64 (uz.f:Int),.int .i64 (uz.t:Int),.int .i64 s.h.k,.int .i32 (s.h.r:Int),.int .i64 (s.h.f:Int),.int .i64 (s.h.t:Int),.bool s.h.al] 130,cells b1 (unC uz) 128]
     refine zap (zah ?_)
     exact zev (.inr rfl) results56 (by simp_all [began,begins,scV] <;> omega)
    ·
     have h4:=beq_eq_false_iff_ne.1 h4
     refine zar (zad (zaX rfl dc rfl rfl zaP (zaw rfl dc rfl (zap (zag ?_)))))
     refine zbb rfl (fun h5 => ?_) (fun h5 => ?_)
     ·
      have h5:=beq_iff_eq.1 h5
      refine zar (zad (zaD rfl dc rfl (zaD rfl dc rfl (zav rfl dc rfl (zac zeE rfl dc rfl (show _=1 from rfl) (zac zgG rfl dc rfl (show _=1 from rfl) ?_))))))
      refine zaG (k:=0) (l':=[.int .i64 9,.int .i64 4,.int .i64 (uz.f:Int),.int .i64 (uz.t:Int),.int .i64 s.h.k,.int .i32 (s.h.r:Int),.int .i64 (s.h.f:Int),.int .i64 (s.h.t:Int),.bool s.h.al]) zeR rfl rfl rfl rfl rfl (fun _ _=>rfl) rfl ?_
      refine zav rfl dc rfl (zac zb5 rfl dc rfl (show _=0 from rfl) ?_)
      refine zaG (k:=0) (l':=[.int .i64 7,.int .i64 4,.int .i64 (uz.f:Int),.int .i64 (uz.t:Int),.int .i64 s.h.k,.int .i32 (s.h.r:Int),.int .i64 (s.h.f:Int),.int .i64 (s.h.t:Int),.bool s.h.al]) zeR rfl rfl rfl rfl rfl (fun _ _=>rfl) rfl ?_
      show TO _ _ _ _ _ _ _ _ _ _ [cells b [.int .i64 7,.int .i64 4,.int .i64 (uz.f:Int),.int .i64 (uz.t:Int),.int .i64 s.h.k,.int .i32 (s.h.r:Int),.int .i64 (s.h.f:Int),.int .i64 (s.h.t:Int),.bool s.h.al] 130,cells b1 (unC uz) 128]
      refine zap (zag (zar (zad (zac zgy rfl dc rfl (show _=1 from rfl) (zat (k:=1) zfq rfl dc rfl rfl rfl (zaX rfl dc rfl rfl zaP (zap (zag ?_))))))))
      refine zbb rfl (fun h6 => ?_) (fun h6 => ?_)
      ·
       have h6:=beq_iff_eq.1 h6
       refine zad (zaD rfl dc rfl (zav rfl dc rfl (zac zb5 rfl dc rfl (show _=0 from rfl) ?_)))
       refine zaG (k:=0) (l':=[.int .i64 8,.int .i64 4,.int .i64 (uz.f:Int),.int .i64 (uz.t:Int),.int .i64 s.h.k,.int .i32 (s.h.r:Int),.int .i64 (s.h.f:Int),.int .i64 (s.h.t:Int),.bool s.h.al]) zeR rfl rfl rfl rfl rfl (fun _ _=>rfl) rfl ?_
       refine zap (zah ?_)
       exact zev (.inr rfl) results56 (by simp_all [began,begins,scV] <;> omega)
      ·
       have h6:=beq_eq_false_iff_ne.1 h6
       refine zax (zah ?_)
       exact zev (.inr rfl) results56 (by simp_all [began,begins,scV] <;> omega)
     ·
      have h5:=beq_eq_false_iff_ne.1 h5
      refine zar (zar (zad (zaX rfl dc rfl rfl zaP (zaw rfl dc rfl (zap (zag ?_))))))
      refine zbb rfl (fun h7 => ?_) (fun h7 => ?_)
      ·
       have h7:=beq_iff_eq.1 h7
       refine zax (zag ?_)
       refine zbb rfl (fun h8 => ?_) (fun h8 => ?_)
       ·
        have h8:=beq_iff_eq.1 h8
        refine zad (zaD rfl dc rfl (zav rfl dc rfl (zac zeE rfl dc rfl (show _=1 from rfl) (zac zgG rfl dc rfl (show _=1 from rfl) ?_))))
        refine zaG (k:=0) (l':=[.int .i64 9,.int .i64 5,.int .i64 (uz.f:Int),.int .i64 (uz.t:Int),.int .i64 s.h.k,.int .i32 (s.h.r:Int),.int .i64 (s.h.f:Int),.int .i64 (s.h.t:Int),.bool s.h.al]) zeR rfl rfl rfl rfl rfl (fun _ _=>rfl) rfl ?_
        refine zap (zah ?_)
        exact zev (.inr rfl) results56 (by simp_all [began,begins,scV] <;> omega)
       ·
        have h8:=beq_eq_false_iff_ne.1 h8
        refine zax (zah ?_)
        exact zev (.inr rfl) results56 (by simp_all [began,begins,scV] <;> omega)
      ·
       have h7:=beq_eq_false_iff_ne.1 h7
       refine zar (zad (zaX rfl dc rfl rfl zaP (zaw rfl dc rfl (zap (zag ?_)))))
       refine zbb rfl (fun h9 => ?_) (fun h9 => ?_)
       ·
        have h9:=beq_iff_eq.1 h9
        refine zax (zag ?_)
        refine zbb rfl (fun h10 => ?_) (fun h10 => ?_)
        ·
         have h10:=beq_iff_eq.1 h10
         refine zad (zaD rfl dc rfl (zav rfl dc rfl (zac zeE rfl dc rfl (show _=1 from rfl) (zac zgG rfl dc rfl (show _=1 from rfl) ?_))))
         refine zaG (k:=0) (l':=[.int .i64 9,.int .i64 5,.int .i64 (uz.f:Int),.int .i64 (uz.t:Int),.int .i64 s.h.k,.int .i32 (s.h.r:Int),.int .i64 (s.h.f:Int),.int .i64 (s.h.t:Int),.bool s.h.al]) zeR rfl rfl rfl rfl rfl (fun _ _=>rfl) rfl ?_
         refine zap (zah ?_)
         exact zev (.inr rfl) results56 (by simp_all [began,begins,scV] <;> omega)
        ·
         have h10:=beq_eq_false_iff_ne.1 h10
         refine zax (zah ?_)
         exact zev (.inr rfl) results56 (by simp_all [began,begins,scV] <;> omega)
       ·
        have h9:=beq_eq_false_iff_ne.1 h9
        refine zad (zaX rfl dc rfl rfl zaP (zaw rfl dc rfl (zap (zag ?_))))
        refine zbb rfl (fun h11 => ?_) (fun h11 => ?_)
        ·
         have h11:=beq_iff_eq.1 h11
         refine zad (zaD rfl dc rfl (zav rfl dc rfl (zac zeE rfl dc rfl (show _=1 from rfl) (zac zgG rfl dc rfl (show _=1 from rfl) ?_))))
         refine zaG (k:=0) (l':=[.int .i64 9,.int .i64 5,.int .i64 (uz.f:Int),.int .i64 (uz.t:Int),.int .i64 s.h.k,.int .i32 (s.h.r:Int),.int .i64 (s.h.f:Int),.int .i64 (s.h.t:Int),.bool s.h.al]) zeR rfl rfl rfl rfl rfl (fun _ _=>rfl) rfl ?_
         refine zap (zah ?_)
         exact zev (.inr rfl) results56 (by simp_all [began,begins,scV] <;> omega)
        ·
         have h11:=beq_eq_false_iff_ne.1 h11
         refine zax (zah ?_)
         exact zev (.inr rfl) results56 (by simp_all [began,begins,scV] <;> omega)
theorem zuE {l:Nat} {zs:List Tk} {I X:List Tk→Asn} {w:World} {C:Nat→Prop} (hy:YC prog l tkA zs I X w C) (b:Nat) (s:Sc) (pre post:List Tk) (hz:zs=pre++zdU s++post) :
  FnW prog 55 [.pointer (some ⟨b,0,none⟩),.func (.yield l) #[] #[]] [cells b (scV s) 130,I pre] (fun x:Option (List Tk×Tk×List Tk)=>.bool x.isNone)
   (fun x=>match x with | none=>[cells b (scV s) 130,I (pre++zdU s)] | some g=>[cells b (scV s) 130,X (pre++g.1++[g.2.1]),fact (zdU s=g.1++g.2.1::g.2.2)]) w C:=by
 refine FnW.intro func55 rfl ntmps55 (by simp) ?_
 show TC _ _ _ _ _ _ _ _ _ [cells b (scC s.st s) 130,I pre]
 refine zar (zad (zaw rfl dc rfl (zap (zag (zar (zar (zad (zaD rfl dc rfl (zav rfl dc rfl (zac zb5 rfl dc rfl (show _=0 from rfl) (zat (k:=0) zdk rfl dc rfl rfl rfl (zap (zag ?_)))))))))))))
 refine zaK (zar (zad (zaX rfl dc rfl rfl zaP (zaw rfl dc rfl (zap (zag ?_))))))
 refine zbb rfl (fun h1 => ?_) (fun h1 => ?_)
 ·
  have h1:=beq_iff_eq.1 h1
  refine zar (zad (zaw rfl dc rfl (zap (zag (zaE (zau (zao ?_)))))))
  have hen:zdU s=[]:=by unfold zdU; simp_all
  refine zfA (k:=1) rfl (show I pre=I (pre++zdU s) from (by simp [hen])) ?_
  show TX _ _ _ _ _ _ _ [cells b (scC s.st s) 130,I (pre++zdU s)]
  exact zbA (rs:=[.tmp 4]) (none:Option (List Tk×Tk×List Tk)) (.inl rfl) results55 (.cons (.tmp rfl) .nil) rfl (zaa [0,1] kr rfl)
 ·
  have h1:=beq_eq_false_iff_ne.1 h1
  refine zar (zar (zad (zaX rfl dc rfl rfl zaP (zaw rfl dc rfl (zap (zag ?_))))))
  refine zbb rfl (fun h2 => ?_) (fun h2 => ?_)
  ·
   have h2:=beq_iff_eq.1 h2
   refine zax (zag ?_)
   refine zbb rfl (fun h3 => ?_) (fun h3 => ?_)
   ·
    have h3:=beq_iff_eq.1 h3
    refine zar ?_
    have hen:zdU s=[s.tk,⟨5,s.h.f,s.h.t⟩]:=by unfold zdU; simp_all
    refine zad (zaD rfl dc rfl (zaD rfl dc rfl (zav rfl dc rfl (zac zeE rfl dc rfl (show _=1 from rfl) (zaZ (k:=0) (cs:=[.int .i64 s.tk.k,.int .i64 (s.tk.f:Int),.int .i64 (s.tk.t:Int)]) zqN rfl dc rfl rfl rfl rfl ?_)))))
    refine zcX hy rfl dc rfl (pre:=pre) (e:=s.tk) (post:=[⟨5,s.h.f,s.h.t⟩]++post) (by rw [hz,hen]; simp) rfl (k:=1) rfl ?_ ?_
    ·
     refine zaD rfl dc rfl (zaD rfl dc rfl (zaD rfl dc rfl (zav rfl dc rfl (zac zgx rfl dc rfl (show _=4 from rfl) (zac zep rfl dc rfl (show _=6 from rfl) (zaZ (k:=0) (cs:=[.int .i64 (s.h.f:Int),.int .i64 (s.h.t:Int)]) zpl rfl dc rfl rfl rfl rfl ?_))))))
     refine zbB (v:=.agg #[.int .i64 5,.int .i64 (s.h.f:Int),.int .i64 (s.h.t:Int)]) (ps:=[(0,.const (.int .i64 5)),(1,.tmp 26)]) rfl dc rfl (fun _=>by kernel_rfl) ?_
     refine zcX hy rfl dc rfl (pre:=(pre++[s.tk])) (e:=(⟨5,s.h.f,s.h.t⟩:Tk)) (post:=post) (by rw [hz,hen]; simp) rfl (k:=1) rfl ?_ ?_
     ·
      refine zbx (b:=true) rfl dc rfl rfl (zaw rfl dc rfl (zap (zag (zaE (zau (zao (zfA (k:=1) rfl (show I ((pre++[s.tk])++[(⟨5,s.h.f,s.h.t⟩:Tk)])=I (pre++zdU s) from (by simp [hen])) ?_)))))))
      show TX _ _ _ _ _ _ _ [cells b (scC s.st s) 130,I (pre++zdU s)]
      exact zbA (rs:=[.tmp 4]) (none:Option (List Tk×Tk×List Tk)) (.inl rfl) results55 (.cons (.tmp rfl) .nil) rfl (zaa [0,1] kr rfl)
     ·
      refine zbx (b:=true) rfl dc rfl rfl (zaw rfl dc rfl (zap (zag (zaE (zau (zao (zfA (k:=1) rfl (show X ((pre++[s.tk])++[(⟨5,s.h.f,s.h.t⟩:Tk)])=X (pre++(([s.tk],(⟨5,s.h.f,s.h.t⟩:Tk),[]):List Tk×Tk×List Tk).1++[(([s.tk],(⟨5,s.h.f,s.h.t⟩:Tk),[]):List Tk×Tk×List Tk).2.1]) from (by simp)) ?_)))))))
      show TX _ _ _ _ _ _ _ [cells b (scC s.st s) 130,X (pre++(([s.tk],(⟨5,s.h.f,s.h.t⟩:Tk),[]):List Tk×Tk×List Tk).1++[(([s.tk],(⟨5,s.h.f,s.h.t⟩:Tk),[]):List Tk×Tk×List Tk).2.1])]
      exact zjA (rs:=[.tmp 4]) (As:=[cells b (scV s) 130,X (pre++(([s.tk],(⟨5,s.h.f,s.h.t⟩:Tk),[]):List Tk×Tk×List Tk).1++[(([s.tk],(⟨5,s.h.f,s.h.t⟩:Tk),[]):List Tk×Tk×List Tk).2.1])]) (p:=zdU s=(([s.tk],(⟨5,s.h.f,s.h.t⟩:Tk),[]):List Tk×Tk×List Tk).1++(([s.tk],(⟨5,s.h.f,s.h.t⟩:Tk),[]):List Tk×Tk×List Tk).2.1::(([s.tk],(⟨5,s.h.f,s.h.t⟩:Tk),[]):List Tk×Tk×List Tk).2.2) (some (([s.tk],(⟨5,s.h.f,s.h.t⟩:Tk),[]):List Tk×Tk×List Tk)) (.inl rfl) results55 (.cons (.tmp rfl) .nil) rfl (zaa [0,1] kr rfl) (by rw [hen]; rfl)
    ·
     refine zaD rfl dc rfl (zaW rfl dc (zaW rfl dc (zaW rfl dc (zaW rfl dc (zaW rfl dc (zaW rfl dc (zaW rfl dc (zaW rfl dc (zbx (b:=false) rfl dc rfl rfl (zaw rfl dc rfl (zap (zag (zaE ?_)))))))))))))
     refine zau (zao (zfA (k:=1) rfl (show X (pre++[s.tk])=X (pre++(([],s.tk,[(⟨5,s.h.f,s.h.t⟩:Tk)]):List Tk×Tk×List Tk).1++[(([],s.tk,[(⟨5,s.h.f,s.h.t⟩:Tk)]):List Tk×Tk×List Tk).2.1]) from (by simp)) ?_))
     show TX _ _ _ _ _ _ _ [cells b (scC s.st s) 130,X (pre++(([],s.tk,[(⟨5,s.h.f,s.h.t⟩:Tk)]):List Tk×Tk×List Tk).1++[(([],s.tk,[(⟨5,s.h.f,s.h.t⟩:Tk)]):List Tk×Tk×List Tk).2.1])]
     exact zjA (rs:=[.tmp 4]) (As:=[cells b (scV s) 130,X (pre++(([],s.tk,[(⟨5,s.h.f,s.h.t⟩:Tk)]):List Tk×Tk×List Tk).1++[(([],s.tk,[(⟨5,s.h.f,s.h.t⟩:Tk)]):List Tk×Tk×List Tk).2.1])]) (p:=zdU s=(([],s.tk,[(⟨5,s.h.f,s.h.t⟩:Tk)]):List Tk×Tk×List Tk).1++(([],s.tk,[(⟨5,s.h.f,s.h.t⟩:Tk)]):List Tk×Tk×List Tk).2.1::(([],s.tk,[(⟨5,s.h.f,s.h.t⟩:Tk)]):List Tk×Tk×List Tk).2.2) (some (([],s.tk,[(⟨5,s.h.f,s.h.t⟩:Tk)]):List Tk×Tk×List Tk)) (.inl rfl) results55 (.cons (.tmp rfl) .nil) rfl (zaa [0,1] kr rfl) (by rw [hen]; rfl)
   ·
    have h3:=beq_eq_false_iff_ne.1 h3
    refine zax (zah (zag (zar ?_)))
    have hen:zdU s=[s.tk]:=by unfold zdU; simp_all
    refine zad (zaD rfl dc rfl (zaD rfl dc rfl (zav rfl dc rfl (zac zeE rfl dc rfl (show _=1 from rfl) (zaZ (k:=0) (cs:=[.int .i64 s.tk.k,.int .i64 (s.tk.f:Int),.int .i64 (s.tk.t:Int)]) zqN rfl dc rfl rfl rfl rfl ?_)))))
    refine zcX hy rfl dc rfl (pre:=pre) (e:=s.tk) (post:=post) (by rw [hz,hen]; simp) rfl (k:=1) rfl ?_ ?_
    ·
     refine zaw rfl dc rfl (zap (zag (zaE (zfA (k:=1) rfl (show I (pre++[s.tk])=I (pre++zdU s) from (by simp [hen])) ?_))))
     show TX _ _ _ _ _ _ _ [cells b (scC s.st s) 130,I (pre++zdU s)]
     exact zbA (rs:=[.tmp 4]) (none:Option (List Tk×Tk×List Tk)) (.inl rfl) results55 (.cons (.tmp rfl) .nil) rfl (zaa [0,1] kr rfl)
    ·
     refine zaw rfl dc rfl (zap (zag (zaE (zfA (k:=1) rfl (show X (pre++[s.tk])=X (pre++(([],s.tk,[]):List Tk×Tk×List Tk).1++[(([],s.tk,[]):List Tk×Tk×List Tk).2.1]) from (by simp)) ?_))))
     show TX _ _ _ _ _ _ _ [cells b (scC s.st s) 130,X (pre++(([],s.tk,[]):List Tk×Tk×List Tk).1++[(([],s.tk,[]):List Tk×Tk×List Tk).2.1])]
     exact zjA (rs:=[.tmp 4]) (As:=[cells b (scV s) 130,X (pre++(([],s.tk,[]):List Tk×Tk×List Tk).1++[(([],s.tk,[]):List Tk×Tk×List Tk).2.1])]) (p:=zdU s=(([],s.tk,[]):List Tk×Tk×List Tk).1++(([],s.tk,[]):List Tk×Tk×List Tk).2.1::(([],s.tk,[]):List Tk×Tk×List Tk).2.2) (some (([],s.tk,[]):List Tk×Tk×List Tk)) (.inl rfl) results55 (.cons (.tmp rfl) .nil) rfl (zaa [0,1] kr rfl) (by rw [hen]; rfl)
  ·
   have h2:=beq_eq_false_iff_ne.1 h2
   refine zad (zaX rfl dc rfl rfl zaP (zaw rfl dc rfl (zap (zag ?_))))
   refine zbb rfl (fun h4 => ?_) (fun h4 => ?_)
   ·
    have h4:=beq_iff_eq.1 h4
    refine zar ?_
    have hen:zdU s=[s.tk,⟨5,s.h.f,s.h.t⟩]:=by unfold zdU; simp_all
    refine zad (zaD rfl dc rfl (zaD rfl dc rfl (zav rfl dc rfl (zac zeE rfl dc rfl (show _=1 from rfl) (zaZ (k:=0) (cs:=[.int .i64 s.tk.k,.int .i64 (s.tk.f:Int),.int .i64 (s.tk.t:Int)]) zqN rfl dc rfl rfl rfl rfl ?_)))))
    refine zcX hy rfl dc rfl (pre:=pre) (e:=s.tk) (post:=[⟨5,s.h.f,s.h.t⟩]++post) (by rw [hz,hen]; simp) rfl (k:=1) rfl ?_ ?_
    ·
     refine zaD rfl dc rfl (zaD rfl dc rfl (zaD rfl dc rfl (zav rfl dc rfl (zac zgx rfl dc rfl (show _=4 from rfl) (zac zep rfl dc rfl (show _=6 from rfl) (zaZ (k:=0) (cs:=[.int .i64 (s.h.f:Int),.int .i64 (s.h.t:Int)]) zpl rfl dc rfl rfl rfl rfl ?_))))))
     refine zbB (v:=.agg #[.int .i64 5,.int .i64 (s.h.f:Int),.int .i64 (s.h.t:Int)]) (ps:=[(0,.const (.int .i64 5)),(1,.tmp 26)]) rfl dc rfl (fun _=>by kernel_rfl) ?_
     refine zcX hy rfl dc rfl (pre:=(pre++[s.tk])) (e:=(⟨5,s.h.f,s.h.t⟩:Tk)) (post:=post) (by rw [hz,hen]; simp) rfl (k:=1) rfl ?_ ?_
     ·
      refine zbx (b:=true) rfl dc rfl rfl (zaw rfl dc rfl (zap (zag (zaE (zau (zao (zfA (k:=1) rfl (show I ((pre++[s.tk])++[(⟨5,s.h.f,s.h.t⟩:Tk)])=I (pre++zdU s) from (by simp [hen])) ?_)))))))
      show TX _ _ _ _ _ _ _ [cells b (scC s.st s) 130,I (pre++zdU s)]
      exact zbA (rs:=[.tmp 4]) (none:Option (List Tk×Tk×List Tk)) (.inl rfl) results55 (.cons (.tmp rfl) .nil) rfl (zaa [0,1] kr rfl)
     ·
      refine zbx (b:=true) rfl dc rfl rfl (zaw rfl dc rfl (zap (zag (zaE (zau (zao (zfA (k:=1) rfl (show X ((pre++[s.tk])++[(⟨5,s.h.f,s.h.t⟩:Tk)])=X (pre++(([s.tk],(⟨5,s.h.f,s.h.t⟩:Tk),[]):List Tk×Tk×List Tk).1++[(([s.tk],(⟨5,s.h.f,s.h.t⟩:Tk),[]):List Tk×Tk×List Tk).2.1]) from (by simp)) ?_)))))))
      show TX _ _ _ _ _ _ _ [cells b (scC s.st s) 130,X (pre++(([s.tk],(⟨5,s.h.f,s.h.t⟩:Tk),[]):List Tk×Tk×List Tk).1++[(([s.tk],(⟨5,s.h.f,s.h.t⟩:Tk),[]):List Tk×Tk×List Tk).2.1])]
      exact zjA (rs:=[.tmp 4]) (As:=[cells b (scV s) 130,X (pre++(([s.tk],(⟨5,s.h.f,s.h.t⟩:Tk),[]):List Tk×Tk×List Tk).1++[(([s.tk],(⟨5,s.h.f,s.h.t⟩:Tk),[]):List Tk×Tk×List Tk).2.1])]) (p:=zdU s=(([s.tk],(⟨5,s.h.f,s.h.t⟩:Tk),[]):List Tk×Tk×List Tk).1++(([s.tk],(⟨5,s.h.f,s.h.t⟩:Tk),[]):List Tk×Tk×List Tk).2.1::(([s.tk],(⟨5,s.h.f,s.h.t⟩:Tk),[]):List Tk×Tk×List Tk).2.2) (some (([s.tk],(⟨5,s.h.f,s.h.t⟩:Tk),[]):List Tk×Tk×List Tk)) (.inl rfl) results55 (.cons (.tmp rfl) .nil) rfl (zaa [0,1] kr rfl) (by rw [hen]; rfl)
    ·
     refine zaD rfl dc rfl (zaW rfl dc (zaW rfl dc (zaW rfl dc (zaW rfl dc (zaW rfl dc (zaW rfl dc (zaW rfl dc (zaW rfl dc (zbx (b:=false) rfl dc rfl rfl (zaw rfl dc rfl (zap (zag (zaE ?_)))))))))))))
     refine zau (zao (zfA (k:=1) rfl (show X (pre++[s.tk])=X (pre++(([],s.tk,[(⟨5,s.h.f,s.h.t⟩:Tk)]):List Tk×Tk×List Tk).1++[(([],s.tk,[(⟨5,s.h.f,s.h.t⟩:Tk)]):List Tk×Tk×List Tk).2.1]) from (by simp)) ?_))
     show TX _ _ _ _ _ _ _ [cells b (scC s.st s) 130,X (pre++(([],s.tk,[(⟨5,s.h.f,s.h.t⟩:Tk)]):List Tk×Tk×List Tk).1++[(([],s.tk,[(⟨5,s.h.f,s.h.t⟩:Tk)]):List Tk×Tk×List Tk).2.1])]
     exact zjA (rs:=[.tmp 4]) (As:=[cells b (scV s) 130,X (pre++(([],s.tk,[(⟨5,s.h.f,s.h.t⟩:Tk)]):List Tk×Tk×List Tk).1++[(([],s.tk,[(⟨5,s.h.f,s.h.t⟩:Tk)]):List Tk×Tk×List Tk).2.1])]) (p:=zdU s=(([],s.tk,[(⟨5,s.h.f,s.h.t⟩:Tk)]):List Tk×Tk×List Tk).1++(([],s.tk,[(⟨5,s.h.f,s.h.t⟩:Tk)]):List Tk×Tk×List Tk).2.1::(([],s.tk,[(⟨5,s.h.f,s.h.t⟩:Tk)]):List Tk×Tk×List Tk).2.2) (some (([],s.tk,[(⟨5,s.h.f,s.h.t⟩:Tk)]):List Tk×Tk×List Tk)) (.inl rfl) results55 (.cons (.tmp rfl) .nil) rfl (zaa [0,1] kr rfl) (by rw [hen]; rfl)
   ·
    have h4:=beq_eq_false_iff_ne.1 h4
    refine zax (zah (zag (zar ?_)))
    have hen:zdU s=[s.tk]:=by unfold zdU; simp_all
    refine zad (zaD rfl dc rfl (zaD rfl dc rfl (zav rfl dc rfl (zac zeE rfl dc rfl (show _=1 from rfl) (zaZ (k:=0) (cs:=[.int .i64 s.tk.k,.int .i64 (s.tk.f:Int),.int .i64 (s.tk.t:Int)]) zqN rfl dc rfl rfl rfl rfl ?_)))))
    refine zcX hy rfl dc rfl (pre:=pre) (e:=s.tk) (post:=post) (by rw [hz,hen]; simp) rfl (k:=1) rfl ?_ ?_
    ·
     refine zaw rfl dc rfl (zap (zag (zaE (zfA (k:=1) rfl (show I (pre++[s.tk])=I (pre++zdU s) from (by simp [hen])) ?_))))
     show TX _ _ _ _ _ _ _ [cells b (scC s.st s) 130,I (pre++zdU s)]
     exact zbA (rs:=[.tmp 4]) (none:Option (List Tk×Tk×List Tk)) (.inl rfl) results55 (.cons (.tmp rfl) .nil) rfl (zaa [0,1] kr rfl)
    ·
     refine zaw rfl dc rfl (zap (zag (zaE (zfA (k:=1) rfl (show X (pre++[s.tk])=X (pre++(([],s.tk,[]):List Tk×Tk×List Tk).1++[(([],s.tk,[]):List Tk×Tk×List Tk).2.1]) from (by simp)) ?_))))
     show TX _ _ _ _ _ _ _ [cells b (scC s.st s) 130,X (pre++(([],s.tk,[]):List Tk×Tk×List Tk).1++[(([],s.tk,[]):List Tk×Tk×List Tk).2.1])]
     exact zjA (rs:=[.tmp 4]) (As:=[cells b (scV s) 130,X (pre++(([],s.tk,[]):List Tk×Tk×List Tk).1++[(([],s.tk,[]):List Tk×Tk×List Tk).2.1])]) (p:=zdU s=(([],s.tk,[]):List Tk×Tk×List Tk).1++(([],s.tk,[]):List Tk×Tk×List Tk).2.1::(([],s.tk,[]):List Tk×Tk×List Tk).2.2) (some (([],s.tk,[]):List Tk×Tk×List Tk)) (.inl rfl) results55 (.cons (.tmp rfl) .nil) rfl (zaa [0,1] kr rfl) (by rw [hen]; rfl)
theorem zqr {F:Fence} {P:Program} {w0:World} {K:Nat→Prop} {N:Nat} {dfs:List Deferred} {ops:Array Oper} {Q:Exit→Act→World→Prop} {rest:List Oper} {σ:List (Nat×Value)} {L:List Asn} {k:Nat} {p:Prop}
  (hk:L[k]?=some (Go.Proofs.YtdnalnmahlakkaaGreatDoor.fact p)) (h:p→TO F P w0 K N dfs ops Q rest σ L):TO F P w0 K N dfs ops Q rest σ L:=fun a w ha hw=>by
 obtain ⟨C1,_,h2,_⟩:=hw.focus' hk
 exact h h2.2 a w ha hw
theorem znA (s:Sc) (u:Un) (h2:(zgM s.st u).2≠2) (h1:(zgM s.st u).2≠1):zbe s u=s:=by
 have h3:(zgM s.st u).1=s.st:=by
  revert h2 h1
  unfold zgM
  repeat' split
  all_goals simp_all
 unfold zbe
 rw [if_neg h2,h3]
theorem zpi (s:zBA) (hs:s.size≤4611686018427387904) (Bs:Nat):Itr prog 52 [.pointer (some ⟨Bs,0,none⟩)] tkA (zoD (units (pcs s.data.toList))) [(Bs,.cells #[.string s] 9 (0,0))]:=by
 refine Itr.intro func52 rfl ntmps52 (by simp) ?_
 intro l w0 K I X hRo hy
 refine zar (zad ?_)
 refine zdN rfl dc rfl (fun b1 => ?_)
 refine zap (zag (zar (zad ?_)))
 refine za6 zt7 rfl dc (fun b2 => ?_)
 refine zap (zag (zar (zar (zad (zf2 (i:=0) hRo zhH rfl dc rfl rfl rfl (zdE (vs:=[.string s]) rfl dc rfl rfl rfl zwl (zqD s) Splits.nil ?_))))))
 rintro bp
 show TO _ _ _ _ _ _ _ _ _ _ [I [],cells b1 [.func (.yield l) #[] #[]] 126,cells b2 [.int .i64 0,.int .i64 0,.int .i64 0,.int .i64 0,.int .i64 0,.int .i32 0,.int .i64 0,.int .i64 0,.bool false] 130,cells bp [.string s] 9]
 refine zap (zag (zaK ?_))
 refine zfF (α:=Un) (β:=List Tk×Sc) (γ:=List Tk×Tk×List Tk) (δ:=Nat) (ps:=[7]) hRo rfl zwa (zoz s (by omega) bp) (fun pre b=>zgk pre=b) (fun pre b=>[cells b1 [.func (.yield l) #[] #[]] 126,cells b2 [.int .i64 b.2.st,.int .i64 b.2.tk.k,.int .i64 (b.2.tk.f:Int),.int .i64 (b.2.tk.t:Int),.int .i64 b.2.h.k,.int .i32 (b.2.h.r:Int),.int .i64 (b.2.h.f:Int),.int .i64 (b.2.h.t:Int),.bool b.2.h.al] 130,I b.1]) (fun c pre g=>c=.ret∧zoD (units (pcs s.data.toList))=g.1++g.2.1::g.2.2) (fun c pre g=>[X (g.1++[g.2.1])]) (fun pre x b j=>[(2,.pointer (some ⟨b1,0,none⟩)),(3,.pointer (some ⟨b2,0,none⟩)),(4,.pointer (some ⟨j,0,none⟩))]) (fun pre x b j=>[cells b1 [.func (.yield l) #[] #[]] 126,cells b2 [.int .i64 b.2.st,.int .i64 b.2.tk.k,.int .i64 (b.2.tk.f:Int),.int .i64 (b.2.tk.t:Int),.int .i64 b.2.h.k,.int .i32 (b.2.h.r:Int),.int .i64 (b.2.h.f:Int),.int .i64 (b.2.h.t:Int),.bool b.2.h.al] 130,I b.1,cells j (unC x) 128]) ([],sc0) rfl (zaa [1,2,0] kr rfl) ⟨.inl ⟨3,rfl⟩,trivial⟩ (fun _=>rfl) dc ?_ ?_ ?_ ?_
 ·
  rintro lp rc pre x post b w1 K1 hxs hext hro hinv
  refine zad ?_
  refine za6 zrH rfl dc (fun b3 => ?_)
  refine za2 (k:=3) (vs:=(unC x)) (l':=(unC x)) zhE rfl rfl rfl rfl rfl (Nat.le_of_ble_eq_true rfl) rfl rfl ?_
  show TO _ _ _ _ _ _ _ _ _ _ [cells b1 [.func (.yield l) #[] #[]] 126,cells b2 [.int .i64 b.2.st,.int .i64 b.2.tk.k,.int .i64 (b.2.tk.f:Int),.int .i64 (b.2.tk.t:Int),.int .i64 b.2.h.k,.int .i32 (b.2.h.r:Int),.int .i64 (b.2.h.f:Int),.int .i64 (b.2.h.t:Int),.bool b.2.h.al] 130,I b.1,cells b3 (unC x) 128]
  refine zap ?_
  exact fun a w ha hw=>⟨b3,(zb7 rfl (zb7 rfl (zb7 rfl (zeQ)))) _ _ _ ha,hw.weaken (zaa [0,1,2,3] kr rfl)⟩
 ·
  rintro lp rc pre x post b j w1 K1 hxs hext hro hinv
  obtain ⟨E,sc⟩:=b
  have hinv:zgk pre=(E,sc):=hinv
  have hsn:=zoK pre x
  rw [hinv] at hsn
  show TC _ _ _ _ _ _ _ _ _ [cells b1 [.func (.yield l) #[] #[]] 126,cells b2 [.int .i64 sc.st,.int .i64 sc.tk.k,.int .i64 (sc.tk.f:Int),.int .i64 (sc.tk.t:Int),.int .i64 sc.h.k,.int .i32 (sc.h.r:Int),.int .i64 (sc.h.f:Int),.int .i64 (sc.h.t:Int),.bool sc.h.al] 130,I E,cells j (unC x) 128]
  by_cases h2:(zgM sc.st x).2=2
  ·
   refine zaK ?_
   refine zh8 (β:=Unit) (l:=0) (fun _=>False) (fun _=>[(2,.pointer (some ⟨b1,0,none⟩)),(3,.pointer (some ⟨b2,0,none⟩)),(4,.pointer (some ⟨j,0,none⟩))]) (fun _=>[cells b1 [.func (.yield l) #[] #[]] 126,cells b2 [.int .i64 ((zbe sc x).st),.int .i64 ((zbe sc x).tk.k),.int .i64 ((zbe sc x).tk.f:Int),.int .i64 ((zbe sc x).tk.t:Int),.int .i64 ((zbe sc x).h.k),.int .i32 ((zbe sc x).h.r:Int),.int .i64 ((zbe sc x).h.f:Int),.int .i64 ((zbe sc x).h.t:Int),.bool ((zbe sc x).h.al)] 130,I E,cells j (unC x) 128]) rfl ?_ ?_
   ·
    refine zar (zar (zad (zaZ (k:=3) (cs:=(unC x)) zeu rfl dc rfl rfl rfl rfl (zdE (vs:=[.pointer (some ⟨b2,0,none⟩),.agg (unC x).toArray]) rfl dc rfl rfl rfl ztn (znB b2 sc x) (zaa [1] kr rfl) ?_))))
    rintro ⟨⟩
    show TO _ _ _ _ _ _ _ _ _ _ [cells b1 [.func (.yield l) #[] #[]] 126,emp,I E,cells j (unC x) 128,cells b2 [.int .i64 ((zbe sc x).st),.int .i64 ((zbe sc x).tk.k),.int .i64 ((zbe sc x).tk.f:Int),.int .i64 ((zbe sc x).tk.t:Int),.int .i64 ((zbe sc x).h.k),.int .i32 ((zbe sc x).h.r:Int),.int .i64 ((zbe sc x).h.f:Int),.int .i64 ((zbe sc x).h.t:Int),.bool ((zbe sc x).h.al)] 130]
    refine zap (zag (zaK (zar (zad (zaX rfl dc rfl rfl (zbU (congrArg Value.bool (show ((((zgM sc.st x).2):Int)==2)=true from (beq_iff_eq.2 h2))) zaP) (zaw rfl dc rfl (zap (zag (zbw rfl (zcy (zfP dc (zaV (zfC (by simp) ?_)))))))))))))
    refine zbh ?_
    exact zcj (E,zbe sc x) (by show zgk (pre++[x])=_; rw [hsn]; simp only [zie,zbe]; rw [if_pos h2,if_pos h2]) (zaa [0,4,2] kr rfl)
   ·
    rintro ⟨⟩ hI
    show TC _ _ _ _ _ _ _ _ _ [cells b1 [.func (.yield l) #[] #[]] 126,cells b2 [.int .i64 ((zbe sc x).st),.int .i64 ((zbe sc x).tk.k),.int .i64 ((zbe sc x).tk.f:Int),.int .i64 ((zbe sc x).tk.t:Int),.int .i64 ((zbe sc x).h.k),.int .i32 ((zbe sc x).h.r:Int),.int .i64 ((zbe sc x).h.f:Int),.int .i64 ((zbe sc x).h.t:Int),.bool ((zbe sc x).h.al)] 130,I E,cells j (unC x) 128]
    exact hI.elim
  ·
   by_cases h1:(zgM sc.st x).2=1
   ·
    refine zaK ?_
    refine zh8 (β:=Unit) (l:=0) (fun _=>True) (fun _=>[(2,.pointer (some ⟨b1,0,none⟩)),(3,.pointer (some ⟨b2,0,none⟩)),(4,.pointer (some ⟨j,0,none⟩))]) (fun _=>[cells b1 [.func (.yield l) #[] #[]] 126,cells b2 [.int .i64 ((zbe sc x).st),.int .i64 ((zbe sc x).tk.k),.int .i64 ((zbe sc x).tk.f:Int),.int .i64 ((zbe sc x).tk.t:Int),.int .i64 ((zbe sc x).h.k),.int .i32 ((zbe sc x).h.r:Int),.int .i64 ((zbe sc x).h.f:Int),.int .i64 ((zbe sc x).h.t:Int),.bool ((zbe sc x).h.al)] 130,I E,cells j (unC x) 128]) rfl ?_ ?_
    ·
     refine zar (zar (zad (zaZ (k:=3) (cs:=(unC x)) zeu rfl dc rfl rfl rfl rfl (zdE (vs:=[.pointer (some ⟨b2,0,none⟩),.agg (unC x).toArray]) rfl dc rfl rfl rfl ztn (znB b2 sc x) (zaa [1] kr rfl) ?_))))
     rintro ⟨⟩
     show TO _ _ _ _ _ _ _ _ _ _ [cells b1 [.func (.yield l) #[] #[]] 126,emp,I E,cells j (unC x) 128,cells b2 [.int .i64 ((zbe sc x).st),.int .i64 ((zbe sc x).tk.k),.int .i64 ((zbe sc x).tk.f:Int),.int .i64 ((zbe sc x).tk.t:Int),.int .i64 ((zbe sc x).h.k),.int .i32 ((zbe sc x).h.r:Int),.int .i64 ((zbe sc x).h.f:Int),.int .i64 ((zbe sc x).h.t:Int),.bool ((zbe sc x).h.al)] 130]
     refine zap (zag (zaK (zar (zad (zaX rfl dc rfl rfl (zbU (congrArg Value.bool (show ((((zgM sc.st x).2):Int)==2)=false from (beq_eq_false_iff_ne.2 h2))) zaP) (zaw rfl dc rfl (zap (zag (zaS rfl (zar (zad (zaX rfl dc rfl rfl (zbU (congrArg Value.bool (show ((((zgM sc.st x).2):Int)==1)=true from (beq_iff_eq.2 h1))) zaP) (zaw rfl dc rfl ?_)))))))))))))
     refine zap (zag (zbw rfl (ztQ (zm3 (znK ?_)))))
     exact ztM () trivial (zb7 rfl (zb7 rfl (zb7 rfl (zeQ)))) (zaa [0,4,2,3] kr rfl)
    ·
     rintro ⟨⟩ hI
     show TC _ _ _ _ _ _ _ _ _ [cells b1 [.func (.yield l) #[] #[]] 126,cells b2 [.int .i64 ((zbe sc x).st),.int .i64 ((zbe sc x).tk.k),.int .i64 ((zbe sc x).tk.f:Int),.int .i64 ((zbe sc x).tk.t:Int),.int .i64 ((zbe sc x).h.k),.int .i32 ((zbe sc x).h.r:Int),.int .i64 ((zbe sc x).h.f:Int),.int .i64 ((zbe sc x).h.t:Int),.bool ((zbe sc x).h.al)] 130,I E,cells j (unC x) 128]
     refine zar (zax (zag (zad (zac zep rfl dc rfl (show _=2 from rfl) (zac zeB rfl dc rfl (show _=3 from rfl) (zat (k:=3) zdk rfl dc rfl rfl rfl (zac zeE rfl dc rfl (show _=1 from rfl) (zac zpT rfl dc rfl (show _=2 from rfl) (zac zeB rfl dc rfl (show _=3 from rfl) ?_)))))))))
     refine zaG (k:=1) (l':=[.int .i64 ((zbe sc x).st),.int .i64 ((zbe sc x).tk.k),.int .i64 ((zbe sc x).tk.f:Int),.int .i64 (x.t:Int),.int .i64 ((zbe sc x).h.k),.int .i32 ((zbe sc x).h.r:Int),.int .i64 ((zbe sc x).h.f:Int),.int .i64 ((zbe sc x).h.t:Int),.bool ((zbe sc x).h.al)]) zeR rfl rfl rfl rfl rfl (fun _ _=>rfl) rfl ?_
     refine zap (zqn (by simp) (zah ?_))
     exact zcj (E,⟨(zgM sc.st x).1,⟨sc.tk.k,sc.tk.f,x.t⟩,(zbe sc x).h⟩) (by show zgk (pre++[x])=_; rw [hsn]; simp only [zie,zbe]; rw [if_neg h2,if_pos h1,if_neg h2]) (zaa [0,1,2] kr rfl)
   ·
    refine zaK ?_
    refine zh8 (β:=Unit) (l:=0) (fun _=>False) (fun _=>[(2,.pointer (some ⟨b1,0,none⟩)),(3,.pointer (some ⟨b2,0,none⟩)),(4,.pointer (some ⟨j,0,none⟩))]) (fun _=>[cells b1 [.func (.yield l) #[] #[]] 126,cells b2 [.int .i64 ((zbe sc x).st),.int .i64 ((zbe sc x).tk.k),.int .i64 ((zbe sc x).tk.f:Int),.int .i64 ((zbe sc x).tk.t:Int),.int .i64 ((zbe sc x).h.k),.int .i32 ((zbe sc x).h.r:Int),.int .i64 ((zbe sc x).h.f:Int),.int .i64 ((zbe sc x).h.t:Int),.bool ((zbe sc x).h.al)] 130,I E,cells j (unC x) 128]) rfl ?_ ?_
    ·
     refine zar (zar (zad (zaZ (k:=3) (cs:=(unC x)) zeu rfl dc rfl rfl rfl rfl (zdE (vs:=[.pointer (some ⟨b2,0,none⟩),.agg (unC x).toArray]) rfl dc rfl rfl rfl ztn (znB b2 sc x) (zaa [1] kr rfl) ?_))))
     rintro ⟨⟩
     show TO _ _ _ _ _ _ _ _ _ _ [cells b1 [.func (.yield l) #[] #[]] 126,emp,I E,cells j (unC x) 128,cells b2 [.int .i64 ((zbe sc x).st),.int .i64 ((zbe sc x).tk.k),.int .i64 ((zbe sc x).tk.f:Int),.int .i64 ((zbe sc x).tk.t:Int),.int .i64 ((zbe sc x).h.k),.int .i32 ((zbe sc x).h.r:Int),.int .i64 ((zbe sc x).h.f:Int),.int .i64 ((zbe sc x).h.t:Int),.bool ((zbe sc x).h.al)] 130]
     refine zap (zag (zaK (zar (zad (zaX rfl dc rfl rfl (zbU (congrArg Value.bool (show ((((zgM sc.st x).2):Int)==2)=false from (beq_eq_false_iff_ne.2 h2))) zaP) (zaw rfl dc rfl (zap (zag (zaS rfl (zar (zad (zaX rfl dc rfl rfl (zbU (congrArg Value.bool (show ((((zgM sc.st x).2):Int)==1)=false from (beq_eq_false_iff_ne.2 h1))) zaP) (zaw rfl dc rfl ?_)))))))))))))
     refine zap (zag (zaS rfl (zax (zah (zag (zar (zar (zad (zat (k:=0) zrQ rfl dc rfl rfl rfl ?_)))))))))
     refine zqo (k:=4) rfl (show cells b2 [.int .i64 ((zbe sc x).st),.int .i64 ((zbe sc x).tk.k),.int .i64 ((zbe sc x).tk.f:Int),.int .i64 ((zbe sc x).tk.t:Int),.int .i64 ((zbe sc x).h.k),.int .i32 ((zbe sc x).h.r:Int),.int .i64 ((zbe sc x).h.f:Int),.int .i64 ((zbe sc x).h.t:Int),.bool ((zbe sc x).h.al)] 130=cells b2 [.int .i64 sc.st,.int .i64 sc.tk.k,.int .i64 (sc.tk.f:Int),.int .i64 (sc.tk.t:Int),.int .i64 sc.h.k,.int .i32 (sc.h.r:Int),.int .i64 (sc.h.f:Int),.int .i64 (sc.h.t:Int),.bool sc.h.al] 130 from (congrArg (fun z=>cells b2 (scV z) 130) (znA sc x h2 h1))) ?_
     show TO _ _ _ _ _ _ _ _ _ _ [cells b1 [.func (.yield l) #[] #[]] 126,emp,I E,cells j (unC x) 128,cells b2 [.int .i64 sc.st,.int .i64 sc.tk.k,.int .i64 (sc.tk.f:Int),.int .i64 (sc.tk.t:Int),.int .i64 sc.h.k,.int .i32 (sc.h.r:Int),.int .i64 (sc.h.f:Int),.int .i64 (sc.h.t:Int),.bool sc.h.al] 130]
     obtain ⟨q,hq⟩:=zsE pre post x (by rw [hinv]; exact ⟨h2,h1⟩)
     rw [hinv,← hxs] at hq
     refine zor (vs:=[.pointer (some ⟨b2,0,none⟩),.func (.yield l) #[] #[]]) rfl dc rfl rfl rfl zuK (fun w C hx=>zuE (hy.later (hext.trans hx)) b2 sc E q hq) (zaa [4,2] kr rfl) ?_
     rintro (_ | g)
     ·
      show TO _ _ _ _ _ _ _ _ _ _ [cells b1 [.func (.yield l) #[] #[]] 126,emp,emp,cells j (unC x) 128,emp,cells b2 [.int .i64 sc.st,.int .i64 sc.tk.k,.int .i64 (sc.tk.f:Int),.int .i64 (sc.tk.t:Int),.int .i64 sc.h.k,.int .i32 (sc.h.r:Int),.int .i64 (sc.h.f:Int),.int .i64 (sc.h.t:Int),.bool sc.h.al] 130,I (E++zdU sc)]
      refine zdM rfl dc rfl zcA (zap (zag (zaS rfl (zax (zag (zar (zad (zaZ (k:=3) (cs:=(unC x)) zeu rfl dc rfl rfl rfl rfl (zdE (vs:=[.pointer (some ⟨b2,0,none⟩),.agg (unC x).toArray]) rfl dc rfl rfl rfl zwk (zrw b2 sc x) (zaa [5] kr rfl) ?_)))))))))
      rintro ⟨⟩
      show TO _ _ _ _ _ _ _ _ _ _ [cells b1 [.func (.yield l) #[] #[]] 126,emp,emp,cells j (unC x) 128,emp,emp,I (E++zdU sc),cells b2 [.int .i64 ((began sc x).st),.int .i64 ((began sc x).tk.k),.int .i64 ((began sc x).tk.f:Int),.int .i64 ((began sc x).tk.t:Int),.int .i64 ((began sc x).h.k),.int .i32 ((began sc x).h.r:Int),.int .i64 ((began sc x).h.f:Int),.int .i64 ((began sc x).h.t:Int),.bool ((began sc x).h.al)] 130]
      refine zap (zag (zar (zcy (zaV (zfC (by simp) (zbh ?_))))))
      exact zcj (E++zdU sc,began sc x) (by show zgk (pre++[x])=_; rw [hsn,ziB (E,sc) x h2 h1]) (zaa [0,7,6] kr rfl)
     ·
      show TO _ _ _ _ _ _ _ _ _ _ [cells b1 [.func (.yield l) #[] #[]] 126,emp,emp,cells j (unC x) 128,emp,cells b2 [.int .i64 sc.st,.int .i64 sc.tk.k,.int .i64 (sc.tk.f:Int),.int .i64 (sc.tk.t:Int),.int .i64 sc.h.k,.int .i32 (sc.h.r:Int),.int .i64 (sc.h.f:Int),.int .i64 (sc.h.t:Int),.bool sc.h.al] 130,X (E++g.1++[g.2.1]),fact (zdU sc=g.1++g.2.1::g.2.2)]
      refine zqr (k:=7) rfl (fun hg => ?_)
      refine zdM rfl dc rfl zcA (zap (zag (zbw rfl (zaE (zao (zfC (by simp) (zau ?_)))))))
      exact zcv (E++g.1,g.2.1,g.2.2++q) ⟨rfl,by rw [hq,hg]; simp⟩ (zaa [6] kr rfl)
    ·
     rintro ⟨⟩ hI
     show TC _ _ _ _ _ _ _ _ _ [cells b1 [.func (.yield l) #[] #[]] 126,cells b2 [.int .i64 ((zbe sc x).st),.int .i64 ((zbe sc x).tk.k),.int .i64 ((zbe sc x).tk.f:Int),.int .i64 ((zbe sc x).tk.t:Int),.int .i64 ((zbe sc x).h.k),.int .i32 ((zbe sc x).h.r:Int),.int .i64 ((zbe sc x).h.f:Int),.int .i64 ((zbe sc x).h.t:Int),.bool ((zbe sc x).h.al)] 130,I E,cells j (unC x) 128]
     exact hI.elim
 ·
  rintro d b hinv
  show TX _ _ _ _ _ _ _ [emp,emp,emp,cells bp [.string s] 9,cells b1 [.func (.yield l) #[] #[]] 126,cells b2 [.int .i64 b.2.st,.int .i64 b.2.tk.k,.int .i64 (b.2.tk.f:Int),.int .i64 (b.2.tk.t:Int),.int .i64 b.2.h.k,.int .i32 (b.2.h.r:Int),.int .i64 (b.2.h.f:Int),.int .i64 (b.2.h.t:Int),.bool b.2.h.al] 130,I b.1,zcu d]
  obtain ⟨E,sc⟩:=b
  have hinv:zgk (units (pcs s.data.toList))=(E,sc):=hinv
  show TX _ _ _ _ _ _ _ [emp,emp,emp,cells bp [.string s] 9,cells b1 [.func (.yield l) #[] #[]] 126,cells b2 [.int .i64 sc.st,.int .i64 sc.tk.k,.int .i64 (sc.tk.f:Int),.int .i64 (sc.tk.t:Int),.int .i64 sc.h.k,.int .i32 (sc.h.r:Int),.int .i64 (sc.h.f:Int),.int .i64 (sc.h.t:Int),.bool sc.h.al] 130,I E,zcu d]
  refine zah (zag (zad (zat (k:=4) zrQ rfl dc rfl rfl rfl ?_)))
  have hq:zoD (units (pcs s.data.toList))=E++zdU sc++[]:=by rw [List.append_nil]; unfold zoD; rw [hinv]
  refine zor (vs:=[.pointer (some ⟨b2,0,none⟩),.func (.yield l) #[] #[]]) rfl dc rfl rfl rfl zuK (fun w C hx=>zuE (hy.later hx) b2 sc E [] hq) (zaa [5,6] kr rfl) ?_
  rintro (_ | g)
  ·
   show TO _ _ _ _ _ _ _ _ _ _ [emp,emp,emp,cells bp [.string s] 9,cells b1 [.func (.yield l) #[] #[]] 126,emp,emp,zcu d,cells b2 [.int .i64 sc.st,.int .i64 sc.tk.k,.int .i64 (sc.tk.f:Int),.int .i64 (sc.tk.t:Int),.int .i64 sc.h.k,.int .i32 (sc.h.r:Int),.int .i64 (sc.h.f:Int),.int .i64 (sc.h.t:Int),.bool sc.h.al] 130,I (E++zdU sc)]
   refine zap ?_
   have he:I (zoD (units (pcs s.data.toList)))=I (E++zdU sc):=by rw [hq,List.append_nil]
   exact zfD (ds:=[d]) (.inr rfl) (zaa [7] kr rfl) results52 he (zaa [9] kr rfl)
  ·
   show TO _ _ _ _ _ _ _ _ _ _ [emp,emp,emp,cells bp [.string s] 9,cells b1 [.func (.yield l) #[] #[]] 126,emp,emp,zcu d,cells b2 [.int .i64 sc.st,.int .i64 sc.tk.k,.int .i64 (sc.tk.f:Int),.int .i64 (sc.tk.t:Int),.int .i64 sc.h.k,.int .i32 (sc.h.r:Int),.int .i64 (sc.h.f:Int),.int .i64 (sc.h.t:Int),.bool sc.h.al] 130,X (E++g.1++[g.2.1]),fact (zdU sc=g.1++g.2.1::g.2.2)]
   refine zqr (k:=10) rfl (fun hg => ?_)
   refine zap ?_
   exact zfi (ds:=[d]) (E++g.1) g.2.1 g.2.2 (by rw [hq,hg]; simp) (.inr rfl) (zaa [7] kr rfl) results52 (zaa [9] kr rfl)
 ·
  rintro d c pre x post g hxs hX
  show TC _ _ _ _ _ _ _ _ _ [emp,emp,emp,cells bp [.string s] 9,X (g.1++[g.2.1]),zcu d]
  obtain ⟨E,n,q⟩:=g
  obtain ⟨rfl,hq⟩:=hX
  refine zaE (zau (zao ?_))
  exact zfi (ds:=[d]) E n q hq (.inl rfl) (zaa [5] kr rfl) results52 (zaa [4] kr rfl)
theorem zsC (s:zBA):Fn prog 32 [.string s] [] (fun b:Nat=>.func (.func 52) #[] #[.pointer (some ⟨b,0,none⟩)]) (fun b=>[cells b [.string s] 9]):=by
 refine Fn.intro func32 rfl ntmps32 (by simp) ?_
 intro w0 K
 refine zar (zad ?_)
 refine zdN rfl dc rfl (fun b1 => ?_)
 refine zaw rfl dc rfl (zap (zag (zar (zad (zdH (x1:=[]) (x2:=[.tmp 1]) rfl dc rfl rfl (zaw rfl dc rfl (zap (zag (zaE ?_)))))))))
 exact zbA (rs:=[.tmp 2]) b1 (.inl rfl) results32 (.cons (.tmp rfl) .nil) rfl (zaa [0] kr rfl)
def wds (l:List Tk):List (Nat×Nat):=l.filterMap fun t=>if t.k=1 then some (t.f,t.t) else none
def spV (p:Nat×Nat):List Value:=[.int .i64 (p.1:Int),.int .i64 (p.2:Int)]
def spA (p:Nat×Nat):List Value:=[.agg (spV p).toArray]
theorem zk9 (s:zBA) (hs:s.size≤4611686018427387904) (Bs:Nat):Itr prog 31 [.pointer (some ⟨Bs,0,none⟩)] spA (wds (zoD (units (pcs s.data.toList)))) [(Bs,.cells #[.string s] 9 (0,0))]:=by
 refine Itr.intro func31 rfl ntmps31 (by simp) ?_
 intro l w0 K I X hRo hy
 refine zar (zad ?_)
 refine zdN rfl dc rfl (fun b1 => ?_)
 refine zap (zag (zar (zad (zf2 (i:=0) hRo zhH rfl dc rfl rfl rfl (zdE (vs:=[.string s]) rfl dc rfl rfl rfl zwt (zsC s) Splits.nil ?_)))))
 rintro bp
 show TO _ _ _ _ _ _ _ _ _ _ [I [],cells b1 [.func (.yield l) #[] #[]] 90,cells bp [.string s] 9]
 refine zap (zag (zaK ?_))
 refine zfF (α:=Tk) (β:=Unit) (γ:=List (Nat×Nat)×(Nat×Nat)×List (Nat×Nat)) (δ:=Nat) (ps:=[6]) hRo rfl zwm (zpi s (by omega) bp) (fun pre b=>True) (fun pre b=>[cells b1 [.func (.yield l) #[] #[]] 90,I (wds pre)]) (fun c pre g=>c=.ret∧wds (zoD (units (pcs s.data.toList)))=g.1++g.2.1::g.2.2) (fun c pre g=>[X (g.1++[g.2.1])]) (fun pre x b j=>[(2,.pointer (some ⟨b1,0,none⟩)),(3,.pointer (some ⟨j,0,none⟩))]) (fun pre x b j=>[cells b1 [.func (.yield l) #[] #[]] 90,I (wds pre),cells j [.int .i64 x.k,.int .i64 (x.f:Int),.int .i64 (x.t:Int)] 95]) () trivial (zaa [1,0] kr rfl) ⟨.inl ⟨2,rfl⟩,trivial⟩ (fun _=>rfl) dc ?_ ?_ ?_ ?_
 ·
  rintro lp rc pre x post b w1 K1 hxs hext hro hinv
  refine zad ?_
  refine za6 zvr rfl dc (fun b2 => ?_)
  refine za2 (k:=2) (vs:=[.int .i64 x.k,.int .i64 (x.f:Int),.int .i64 (x.t:Int)]) (l':=[.int .i64 x.k,.int .i64 (x.f:Int),.int .i64 (x.t:Int)]) zue rfl rfl rfl rfl rfl (Nat.le_of_ble_eq_true rfl) rfl rfl ?_
  show TO _ _ _ _ _ _ _ _ _ _ [cells b1 [.func (.yield l) #[] #[]] 90,I (wds pre),cells b2 [.int .i64 x.k,.int .i64 (x.f:Int),.int .i64 (x.t:Int)] 95]
  refine zap ?_
  exact fun a w ha hw=>⟨b2,(zb7 rfl (zb7 rfl (zeQ))) _ _ _ ha,hw.weaken (zaa [0,1,2] kr rfl)⟩
 ·
  rintro lp rc pre x post b j w1 K1 hxs hext hro hinv
  by_cases hk:x.k=1
  ·
   refine zaK (zar (zad (zac zgG rfl dc rfl (show _=0 from rfl) (zat (k:=2) zdk rfl dc rfl rfl rfl (zaX rfl dc rfl rfl (zbU (congrArg Value.bool (show ((x.k:Int)==1)=true from (beq_iff_eq.2 hk))) zaP) (zaD rfl dc rfl (zat (k:=0) zvF rfl dc rfl rfl rfl (zac zpT rfl dc rfl (show _=1 from rfl) (zaZ (k:=2) (cs:=[.int .i64 (x.f:Int),.int .i64 (x.t:Int)]) zpl rfl dc rfl rfl rfl rfl ?_)))))))))
   have hq:wds (zoD (units (pcs s.data.toList)))=wds pre++(x.f,x.t)::wds post:=by rw [hxs]; simp [wds,hk]
   refine zcX (hy.later hext) rfl dc rfl hq rfl (k:=1) rfl ?_ ?_
   ·
    refine zdM rfl dc rfl zcA (zbx (b:=true) rfl dc rfl rfl (zap (zag (zaS rfl (zax (zah (zfA (k:=1) rfl (show I (wds pre++[(x.f,x.t)])=I (wds (pre++[x])) from (by simp [wds,hk])) ?_)))))))
    show TX _ _ _ _ _ _ _ [cells b1 [.func (.yield l) #[] #[]] 90,I (wds (pre++[x])),cells j [.int .i64 x.k,.int .i64 (x.f:Int),.int .i64 (x.t:Int)] 95]
    exact zcj () trivial (zaa [0,1] kr rfl)
   ·
    refine zdM rfl dc rfl zcA (zbx (b:=true) rfl dc rfl rfl (zap (zag (zbw rfl (zaE (zau ?_))))))
    exact zcv (wds pre,(x.f,x.t),wds post) ⟨rfl,hq⟩ (zaa [1] kr rfl)
  ·
   refine zaK (zar (zad (zac zgG rfl dc rfl (show _=0 from rfl) (zat (k:=2) zdk rfl dc rfl rfl rfl (zaX rfl dc rfl rfl (zbU (congrArg Value.bool (show ((x.k:Int)==1)=false from (beq_eq_false_iff_ne.2 hk))) zaP) (zaD rfl dc rfl (zaW rfl dc (zaW rfl dc (zaW rfl dc (zaW rfl dc (zaW rfl dc (zbx (b:=false) rfl dc rfl rfl (zap ?_)))))))))))))
   refine zag (zaS rfl (zax (zah (zfA (k:=1) rfl (show I (wds pre)=I (wds (pre++[x])) from (by simp [wds,hk])) ?_))))
   show TX _ _ _ _ _ _ _ [cells b1 [.func (.yield l) #[] #[]] 90,I (wds (pre++[x])),cells j [.int .i64 x.k,.int .i64 (x.f:Int),.int .i64 (x.t:Int)] 95]
   exact zcj () trivial (zaa [0,1] kr rfl)
 ·
  rintro d b hinv
  show TX _ _ _ _ _ _ _ [emp,emp,cells bp [.string s] 9,cells b1 [.func (.yield l) #[] #[]] 90,I (wds (zoD (units (pcs s.data.toList)))),zcu d]
  refine zah ?_
  exact zfD (ds:=[d]) (.inr rfl) (zaa [5] kr rfl) results31 rfl (zaa [4] kr rfl)
 ·
  rintro d c pre x post g hxs hX
  show TC _ _ _ _ _ _ _ _ _ [emp,emp,cells bp [.string s] 9,X (g.1++[g.2.1]),zcu d]
  obtain ⟨E,n,q⟩:=g
  obtain ⟨rfl,hq⟩:=hX
  refine zaE (zau ?_)
  exact zfi (ds:=[d]) E n q hq (.inl rfl) (zaa [4] kr rfl) results31 (zaa [3] kr rfl)
theorem znS (s:zBA):Fn prog 14 [.string s] [] (fun b:Nat=>.func (.func 31) #[] #[.pointer (some ⟨b,0,none⟩)]) (fun b=>[cells b [.string s] 9]):=by
 refine Fn.intro func14 rfl ntmps14 (by simp) ?_
 intro w0 K
 refine zar (zad ?_)
 refine zdN rfl dc rfl (fun b1 => ?_)
 refine zaw rfl dc rfl (zap (zag (zar (zad (zdH (x1:=[]) (x2:=[.tmp 1]) rfl dc rfl rfl (zaw rfl dc rfl (zap (zag (zaE ?_)))))))))
 exact zbA (rs:=[.tmp 2]) b1 (.inl rfl) results14 (.cons (.tmp rfl) .nil) rfl (zaa [0] kr rfl)
def Ch {α:Type} (f t:α→Nat):Nat→List α→Nat→Prop
 | a,[],b=>a=b
 | a,u::us,b=>f u=a∧f u<t u∧Ch f t (t u) us b
theorem Ch.app {α:Type} {f t:α→Nat}:∀ {l:List α} {a b c:Nat} {m:List α},Ch f t a l b→Ch f t b m c→Ch f t a (l++m) c
 | [],a,b,c,m,h,h2=>by cases h; exact h2
 | u::l,a,b,c,m,h,h2=>⟨h.1,h.2.1,Ch.app h.2.2 h2⟩
theorem Ch.one {α:Type} {f t:α→Nat} {u:α} (h:f u<t u):Ch f t (f u) [u] (t u):=⟨rfl,h,rfl⟩
theorem zpt (l:List UInt8) (p:Pc) (B:List Pc) (h:pcs l=p::B):p.i=0:=by
 by_cases hl:l=[]
 ·subst hl; simp [pcs,zd9] at h
 ·have h1:=zdp 0 l hl
  have h2:pcs l=zef 0 l:=rfl
  rw [← h2,h] at h1
  rw [(List.cons.inj h1).1]
theorem zpu (l:List UInt8) (h:pcs l=[]):l=[]:=by
 by_cases hl:l=[]
 ·exact hl
 ·have h1:=zdp 0 l hl
  have h2:pcs l=zef 0 l:=rfl
  rw [← h2,h] at h1
  cases h1
theorem zqF (l:List UInt8):∀ (k:Nat) (L B:List Pc),L.length≤k→pcs l=L++B→∀ E n,zfY L=(E,some n)→Ch Un.f Un.t 0 E n.f:=by
 intro k
 induction k with
 | zero =>
  intro L B hk hl E n h
  have h0:L=[]:=List.length_eq_zero_iff.1 (by omega)
  subst h0; cases h
 | succ k ih =>
  intro L B hk hl E n h
  rcases List.eq_nil_or_concat L with rfl | ⟨D,p,rfl⟩
  ·cases h
  ·rw [List.concat_eq_append] at *
   rw [zhZ] at h
   have hl2:pcs l=D++(p::B):=by rw [hl]; simp
   have hkD:D.length≤k:=by simp at hk; omega
   rcases hD:zfY D with ⟨E0,o⟩
   rw [hD] at h
   rcases o with _ | m
   ·obtain ⟨h1,h2⟩:=zmh D E0 hD
    subst h1; subst h2
    simp only [zf4] at h
    cases h
    have h3:=zpt l p B (by simpa using hl2)
    exact h3.symm
   ·have hm:=ih D (p::B) hkD hl2 E0 m hD
    have hw:=zhC l D.length D (p::B) (Nat.le_refl _) hl2 E0 m hD
    have hp:p.i=m.t:=hw.2.2.1 p rfl
    simp only [zf4] at h
    split at h
    ·cases h; exact hm
    ·cases h
     have h5:=Ch.app hm (Ch.one (f:=Un.f) (t:=Un.t) hw.1)
     show Ch _ _ _ _ p.i
     rw [hp]; exact h5
theorem zqE (l:List UInt8):Ch Un.f Un.t 0 (units (pcs l)) l.length:=by
 rcases hD:zfY (pcs l) with ⟨E,o⟩
 rcases o with _ | n
 ·obtain ⟨h1,h2⟩:=zmh _ E hD
  have h3:l=[]:=zpu l h1
  subst h3
  rw [h1]; rfl
 ·rw [zhY _ E n hD]
  have h1:=zqF l _ (pcs l) [] (Nat.le_refl _) (by simp) E n hD
  have h2:=zhC l _ (pcs l) [] (Nat.le_refl _) (by simp) E n hD
  have h3:=Ch.app h1 (Ch.one (f:=Un.f) (t:=Un.t) h2.1)
  rw [h2.2.2.2 rfl] at h3
  exact h3
def ScI (a:Nat) (S:List Tk×Sc) (c:Nat):Prop :=
 (S.2.st=0∧S.1=[]∧c=a)∨(S.2.st≠0∧Ch Tk.f Tk.t a S.1 S.2.tk.f∧S.2.tk.f<S.2.tk.t ∧
  (((S.2.st=2∨S.2.st=4)∧S.2.h.f=S.2.tk.t∧S.2.h.f<S.2.h.t∧S.2.h.t=c)∨(¬ (S.2.st=2∨S.2.st=4)∧S.2.tk.t=c)))
theorem zre {st:Int} {u:Un} (h:(zgM st u).2=2):(st=1∧(zgM st u).1=2)∨(st=3∧(zgM st u).1=4):=by
 revert h; unfold zgM
 repeat' split
 all_goals simp_all
theorem zrf {st:Int} {u:Un} (h:(zgM st u).2=1):st≠0∧(zgM st u).1≠0∧(zgM st u).1≠2∧(zgM st u).1≠4:=by
 revert h; unfold zgM
 repeat' split
 all_goals simp_all
 all_goals omega
theorem zqj (u:Un):(begins u).1≠0∧(begins u).1≠2∧(begins u).1≠4:=by
 unfold begins
 repeat' split
 all_goals simp_all
theorem zom {a c:Nat} {S:List Tk×Sc} (h:ScI a S c):Ch Tk.f Tk.t a (S.1++zdU S.2) c:=by
 rcases h with ⟨h1,h2,h3⟩ | ⟨h1,h2,h3,h4⟩
 ·rw [h2,h3]; unfold zdU; rw [if_pos h1]; rfl
 ·unfold zdU
  rw [if_neg h1]
  rcases h4 with ⟨h5,h6,h7,h8⟩ | ⟨h5,h6⟩
  ·rw [if_pos h5]
   exact h2.app ⟨rfl,h3,h6,h7,h8⟩
  ·rw [if_neg h5]
   exact h2.app ⟨rfl,h3,h6⟩
theorem zq3 {a c:Nat} {S:List Tk×Sc} {u:Un} (h:ScI a S c) (hf:u.f=c) (hl:u.f<u.t):ScI a (zie S u) u.t:=by
 by_cases h2:(zgM S.2.st u).2=2
 ·have h3:=zre h2
  unfold zie; rw [if_pos h2]
  rcases h with ⟨h4,_⟩ | ⟨h4,h5,h6,h7⟩
  ·omega
  ·right
   refine ⟨by show (zgM S.2.st u).1≠0; omega,h5,h6,.inl ⟨by show (zgM S.2.st u).1=2∨(zgM S.2.st u).1=4; omega,?_,hl,rfl⟩⟩
   show u.f=S.2.tk.t
   rcases h7 with ⟨h8,_⟩ | ⟨_,h8⟩ <;> omega
 ·by_cases h1:(zgM S.2.st u).2=1
  ·have h3:=zrf h1
   unfold zie; rw [if_neg h2,if_pos h1]
   rcases h with ⟨h4,_⟩ | ⟨h4,h5,h6,h7⟩
   ·omega
   ·right
    refine ⟨h3.2.1,h5,?_,.inr ⟨by show ¬ ((zgM S.2.st u).1=2∨(zgM S.2.st u).1=4); omega,rfl⟩⟩
    show S.2.tk.f<u.t
    rcases h7 with ⟨_,h8,h9,h10⟩ | ⟨_,h8⟩ <;> omega
  ·rw [ziB S u h2 h1]
   have h3:=zqj u
   have h4:=zom h
   right
   refine ⟨h3.1,?_,hl,.inr ⟨by show ¬ ((begins u).1=2∨(begins u).1=4); omega,rfl⟩⟩
   show Ch _ _ _ _ u.f
   rw [hf]; exact h4
theorem zob:∀ (us:List Un) {a b c:Nat} {S:List Tk×Sc},ScI a S c→Ch Un.f Un.t c us b→ScI a (us.foldl zie S) b
 | [],a,b,c,S,h,hc=>by cases hc; exact h
 | u::us,a,b,c,S,h,hc=>zob us (zq3 h hc.1 hc.2.1) hc.2.2
theorem zsD (l:List UInt8):Ch Tk.f Tk.t 0 (zoD (units (pcs l))) l.length :=
 zom (zob (units (pcs l)) (S:=([],sc0)) (.inl ⟨rfl,rfl,rfl⟩) (zqE l))
def zsr (s:zBA):List (Nat×Nat):=wds (zoD (units (pcs s.data.toList)))
theorem zsb:∀ {l:List Tk} {a b:Nat},Ch Tk.f Tk.t a l b→l.length+a≤b∧∀ x∈l,x.f≤x.t∧x.t≤b
 | [],a,b,h=>by cases h; exact ⟨by simp,fun x hx=>by cases hx⟩
 | y::l,a,b,h=>by
  obtain ⟨h1,h2⟩:=zsb h.2.2
  have h3:=h.1
  have h4:=h.2.1
  refine ⟨by rw [List.length_cons]; omega,fun x hx => ?_⟩
  rcases List.mem_cons.1 hx with rfl | hx
  ·exact ⟨by omega,by omega⟩
  ·exact h2 x hx
theorem zsq (s:zBA):∀ p∈zsr s,p.1≤p.2∧p.2≤s.size:=by
 intro p hp
 have h:=(zsb (zsD s.data.toList)).2
 obtain ⟨t,ht,he⟩:=List.mem_filterMap.1 hp
 split at he
 ·cases he
  have:=h t ht
  rw [Array.length_toList] at this
  exact this
 ·cases he
end Go.Proofs.YtdnalnmahlakkaaGreatDoor

namespace Go.Proofs
open Go.Shelf
def zjT:Go.Shelf.Ren:=⟨fun | 106=>68 | 213=>90 | 265=>105 | n=>n,fun | 9=>9 | 3=>3 | n=>n,fun | n=>n⟩
theorem zm1:Go.Proofs.Lays.n106 Tryz.prog zjT:={
 mixed:=by kernel_rfl
 f106:=Tryz.func68.trans (congrArg some (by kernel_rfl))
 f213:=Tryz.func90.trans (congrArg some (by kernel_rfl))
 f265:=Tryz.func105.trans (congrArg some (by kernel_rfl))
 t3:=Tryz.underlying3
 a3:=Tryz.isAgg3
 z3:=Tryz.sizeOf3
 v3:=Tryz.zeroValue3
 t9:=Tryz.underlying9
 a9:=Tryz.isAgg9
 z9:=Tryz.sizeOf9
 v9:=Tryz.zeroValue9 }
open Go.RowKit in
theorem Tryz.strings_Compare (a b:ByteArray) (w:World) :
  Calls Tryz.prog 68 #[.string a,.string b] w fun e w'=>e=.returned (.int .i64 (Lib.compareBytes a.data.toList b.data.toList))∧w'=w:=Any.strings_Compare zm1 a b w
end Go.Proofs

namespace Go.Proofs.YtdnalnmahlakkaaGreatDoor
open Go.RowKit Go.Lib
open Tryz
set_option linter.unusedVariables false
set_option linter.unusedSimpArgs false
section
open Go.Shelf Go.Sort
def cfT (x y:zaN):Int:=Lib.compareBytes x.figures.data.toList y.figures.data.toList
set_option maxHeartbeats 1000000 in
theorem zqH (x y:zaN) (W:World):Calls prog 67 #[.agg (zbj x).toArray,.agg (zbj y).toArray] W fun e w'=>e=.returned (.int .i64 (cfT x y))∧∃ q os',w'=grow (W.drewN q) os':=by
 have hcon:=fun W'=>Tryz.strings_Compare x.figures y.figures W'
 unfold cfT
 generalize Lib.compareBytes x.figures.data.toList y.figures.data.toList=r at hcon ⊢
 unfold zbj
 generalize zab x.x=u
 generalize zab y.x=v
 go_enter func67,ntmps67
 go_wp2_with (go_at_call 68; refine (hcon _).mono ?_; rintro e w' ⟨rfl,rfl⟩)
 go_ret
 exact ⟨rfl,0,_,by rw [alloc_eq_grow,alloc_eq_grow,grow_grow]; rfl⟩
instance:Inhabited zaN:=⟨⟨⟨#[]⟩,.nil⟩⟩
def zhG (xs:List zaN):List zaN:=(pdq (ltOf cfT) xs.toArray 0 xs.toArray.size (Lib.bitLen xs.toArray.size) true true).toList
theorem zoC {w:World} {b cap:Nat} {xs:List zaN} (h:Rw zbj w 0 156 2 (.slice (some ⟨b,0,none⟩) xs.length cap) xs):HoldsK zbj 2 w b 0 xs.toArray:=fun j hj=>by
 have hj2:j<xs.toArray.size*2:=by simpa using hj
 have hi:j / 2<xs.length:=by simp at hj2; omega
 have hx:xs[j / 2]?=some xs[j / 2]:=List.getElem?_eq_getElem hi
 have hm:j % 2<2:=Nat.mod_lt _ (by decide)
 have e:(zbj xs[j / 2])[j % 2]?=some (zbj xs[j / 2])[j % 2]!:=by
  rcases (by omega:j % 2=0∨j % 2=1) with h | h <;> rw [h] <;> rfl
 have hc:=Rw.cell (enc:=zbj) (size:=2) (fun _=>rfl) h hx hm e
 have hd:j / 2*2+j % 2=j:=by omega
 rw [hd] at hc
 refine ⟨?_,?_⟩
 ·rw [Nat.zero_add,hc,id,get_flatK _ _ _ _ hj2]
  simp [hi]
 ·exact h.frozen rfl _
theorem zmS:∀ a:List UInt8,Lib.compareBytes a a=0
 | []=>rfl
 | x::a=>by unfold Lib.compareBytes; rw [if_neg (UInt8.lt_irrefl x),if_neg (UInt8.lt_irrefl x)]; exact zmS a
theorem zlr:∀ {a b c:List UInt8},Lib.compareBytes a b<0→Lib.compareBytes b c<0→Lib.compareBytes a c<0
 | [],[],_,h,_=>by simp [Lib.compareBytes] at h
 | [],_::_,[],_,h=>by simp [Lib.compareBytes] at h
 | [],_::_,_::_,_,_=>by simp [Lib.compareBytes]
 | _::_,[],_,h,_=>by simp [Lib.compareBytes] at h
 | _::_,_::_,[],_,h=>by simp [Lib.compareBytes] at h
 | x::a,y::b,z::c,h1,h2=>by
  unfold Lib.compareBytes at h1 h2 ⊢
  simp only [UInt8.lt_iff_toNat_lt] at *
  split at h1
  ·split at h2
   ·rw [if_pos (by omega)]; omega
   ·split at h2
    ·omega
    ·rw [if_pos (by omega)]; omega
  ·split at h1
   ·omega
   ·split at h2
    ·rw [if_pos (by omega)]; omega
    ·split at h2
     ·omega
     ·rw [if_neg (by omega),if_neg (by omega)]; exact zlr h1 h2
theorem zkA:∀ {a b c:List UInt8},0≤Lib.compareBytes a b→0≤Lib.compareBytes b c→0≤Lib.compareBytes a c
 | [],[],_,_,h=>h
 | [],_::_,_,h,_=>by simp [Lib.compareBytes] at h
 | _::_,_,[],_,_=>by simp [Lib.compareBytes]
 | _::_,[],_::_,_,h=>by simp [Lib.compareBytes] at h
 | x::a,y::b,z::c,h1,h2=>by
  unfold Lib.compareBytes at h1 h2 ⊢
  simp only [UInt8.lt_iff_toNat_lt] at *
  split at h1
  ·omega
  ·split at h1
   ·split at h2
    ·omega
    ·split at h2
     ·rw [if_neg (by omega),if_pos (by omega)]; omega
     ·rw [if_neg (by omega),if_pos (by omega)]; omega
   ·split at h2
    ·omega
    ·split at h2
     ·rw [if_neg (by omega),if_pos (by omega)]; omega
     ·rw [if_neg (by omega),if_neg (by omega)]; exact zkA h1 h2
theorem znY:SWO (ltOf cfT) where
 irrefl x:=by simp [ltOf,cfT,zmS]
 trans x y z h1 h2:=decide_eq_true (zlr (of_decide_eq_true h1) (of_decide_eq_true h2))
 ntrans x y z h1 h2:=decide_eq_false (Int.not_lt.2 (zkA (Int.not_lt.1 (of_decide_eq_false h1)) (Int.not_lt.1 (of_decide_eq_false h2))))
theorem zjj (xs:List zaN):(zhG xs).Perm xs:=by
 have h:=(pdq_sorts (ltOf cfT) znY xs.toArray 0 xs.toArray.size (Lib.bitLen xs.toArray.size) true true (Nat.zero_le _) (Nat.le_refl _) (Or.inl rfl)).1
 unfold zhG
 generalize pdq (ltOf cfT) xs.toArray 0 xs.toArray.size (Lib.bitLen xs.toArray.size) true true=d at h
 have h3:=h.2.2
 have e1:d.extract 0 xs.toArray.size=d:=by rw [← h.1]; exact Array.extract_size
 have e2:xs.toArray.extract 0 xs.toArray.size=xs.toArray:=Array.extract_size
 rw [e1,e2] at h3
 exact h3
theorem ziQ (xs:List zaN):(zhG xs).length=xs.length:=(zjj xs).length_eq
theorem zny:∀ l:List zaN,(l.flatMap zbj).length=l.length*2
 | []=>rfl
 | x::l=>by rw [List.flatMap_cons,List.length_append,zny l,List.length_cons]; show 2+_=_; omega
theorem zr8:∀ (l:List zaN) (t:Nat),t<l.length*2→(l.flatMap zbj)[t]?=some (zbj l.toArray[t / 2]!)[t % 2]!
 | x::l,t,h=>by
  rw [List.flatMap_cons]
  rcases (by omega:t=0∨t=1∨2≤t) with rfl | rfl | h2
  ·rfl
  ·rfl
  ·obtain ⟨u,rfl⟩:∃ u,t=u+2:=⟨t - 2,by omega⟩
   rw [List.getElem?_append_right (by show 2≤_; omega),show u+2 - (zbj x).length=u from by show u+2 - 2=u; omega,zr8 l u (by simp at h; omega)]
   rw [show (u+2) / 2=u / 2+1 by omega,show (u+2) % 2=u % 2 by omega]
   have hu:u / 2<l.length:=by simp at h; omega
   simp [hu]
theorem zsz {v:Value} {xs:List zaN} (hx:0<xs.length∧xs.length<4611686018427387904):Fn prog 66 [v,.func (.func 67) #[] #[]] [vec zbj 156 2 v xs] (fun _:Unit=>.tuple #[]) (fun _=>[vec zbj 156 2 v (zhG xs)]):=fun w C hC=>by
 have hV:Vec zbj 156 2 v xs C w:=sepL.one1.1 hC
 obtain ⟨hR,rfl⟩:=hV
 rcases hR.2 with ⟨_,h0⟩ | ⟨b,cap,cur,rfl,_,hb,hcap,hmax,hcs,htk⟩
 ·omega
 have zvT:b<w.heap.size:=(Array.getElem?_eq_some_iff.1 hb).1
 have h:=AnyQ.slices_SortFunc_eq zk7 2 (fun w=>by kernel_rfl) (fun w=>by kernel_rfl) zbj (fun _=>rfl) zfZ cfT znY 67 #[] b 0 cap xs.toArray w zwe (fun _ _ _ _ x y=>zqH x y _) (zoC hR) zvT (by simp; omega)
 have hl:=ziQ xs
 refine h.mono fun e w' ⟨he,n,os,hw⟩=>⟨(),he,fun k=>some b=some k,sepL.one1.2 ⟨⟨?_,.inr ⟨b,cap,putCells id 0 (flatK zbj 2 (zhG xs).toArray) cur,by rw [hl],Nat.zero_le _,?_,by rw [hl]; exact hcap,hmax,by simp [putCells,hcs],?_⟩⟩,rfl⟩,?_⟩
 ·exact zny _
 ·subst hw
  unfold sortWorldK grow putRowK putRow mapBlock Sort.ahead
  simp only
  rw [Array.getElem?_append_left (by simpa using zvT),Array.getElem?_modify,if_pos rfl,hb]
  rfl
 ·apply List.ext_getElem?
  intro t
  rw [List.getElem?_take]
  by_cases ht:t<(zhG xs).length*2
  ·rw [if_pos ht,zr8 _ _ ht]
   have h1:t<cur.size:=by rw [hcs]; rw [hl] at ht; omega
   unfold putCells
   rw [Array.getElem?_toList,Array.getElem?_mapIdx,Array.getElem?_eq_getElem h1]
   simp only [Option.map_some]
   rw [if_pos ⟨Nat.zero_le _,by simpa using ht⟩,Nat.sub_zero,get_flatK _ _ _ _ (by simpa using ht)]
   rfl
  ·rw [if_neg ht,List.getElem?_eq_none (by rw [zny]; omega)]
 ·subst hw
  refine ⟨⟨rfl,rfl,rfl,?_,fun k hk hc => ?_⟩,fun k hk=>.inl hk⟩
  ·unfold sortWorldK grow putRowK putRow mapBlock Sort.ahead; simp
  ·unfold sortWorldK grow putRowK putRow mapBlock Sort.ahead
   simp only
   rw [Array.getElem?_append_left (by simpa using hk),Array.getElem?_modify,if_neg (fun e=>hc (by rw [e]; rfl))]
end
section
open Go.Shelf

end
section
open Go.Shelf

end
section
open Go.Shelf

end
theorem zhI {α:Type} {enc:α→List Value} {size:Nat} {P:Program} (w:World) (t ty e:TypeId) (i:TypeInfo) (z:Value) (ht:P.underlying t=some (.slice e)) (hi:P.info? e=some i) (hz:i.zero=some z)
  (hsize:i.size=size) (hzs:z.cells.size=size) (hsz:0<size) (hlen:∀ x,(enc x).length=size) (h1:∀ x,∀ u∈enc x,u.oneCell'=true)
  (v:Value) (L:List α) (C:Nat→Prop) (hown:Vec enc e size v L C w) (ys:List α) (a:Addr) (c:Nat)
  (hnews:∀ j u,(ys.flatMap enc)[j]?=some u→w.cell? (a.add j)=some u) (hn:L.length+ys.length≤maxLen) (hbb:(L.length+ys.length)*i.bytes≤140737488355328) :
  ∃ v' w',(Builtin.append_ #[t,t] ty #[v,.slice (some a) ys.length c]).run P w=.ok v' w'∧∃ C',Vec enc e size v' (L++ys) C' w'∧Ext C C' w w':=by
 obtain ⟨hown,rfl⟩:=hown
 have hl:(ys.flatMap enc).length=ys.length*size:=zlS hlen ys
 have h1':∀ u∈ys.flatMap enc,u.oneCell'=true:=by
  intro u hu
  obtain ⟨x,hx,hu⟩:=List.mem_flatMap.1 hu
  exact h1 x u hu
 obtain ⟨v',w',hr,r1,r2,_⟩:=run_append_own (P:=P) w 0 t ty e i z size i.bytes ht hi hz hsize rfl hzs hsz v L.length (L.flatMap enc) hown a ys.length c (ys.flatMap enc) hl hnews h1' hn hbb (Nat.zero_le _)
 have hbl:=zhW (P:=P) w 0 t ty e i z size i.bytes ht hi hz hsize rfl v L.length (L.flatMap enc) hown a ys.length c (ys.flatMap enc) hl hnews h1' hn hbb hr
 have hR:Rw enc w' 0 e size v' (L++ys):=by
  unfold Rw; rw [List.length_append,List.flatMap_append]; exact r1
 exact ⟨v',w',hr,_,⟨hR,rfl⟩,zgz r2 hbl (fun g hg=>(World.ownsRow.lt hR g hg).2)⟩
section
variable {F:Fence} {P:Program} {w0:World} {K:Nat→Prop} {N:Nat} {dfs:List Deferred} {ops:Array Oper} {Q:Exit→Act→World→Prop} {rest:List Oper} {σ:List (Nat×Value)} {L RD:List Asn}
 {d:Nat} {ty:TypeId} {pos:String} {aft:Array Edge} {g:Option (Nat×Bool)} {s x:Operand} {t e e2:TypeId} {k k2 j size:Nat} {vv v2 v:Value} {α:Type} {enc:α→List Value} {xs ys Ls:List α}
end
section
variable {α:Type} {enc:α→List Value} {size o:Nat} {vv:Value} {xs:List α}
def zgv (enc:α→List Value) (size:Nat) (vv:Value) (o:Nat) (xs:List α):Asn :=
  ⟨fun C w=>(∀ b,C b→b<w.heap.size)∧∀ i x j v,xs[i]?=some x→(enc x)[j]?=some v→C (zgc vv)∧w.cell? ⟨zgc vv,o+i*size+j,none⟩=some v,
   fun h b hb=>h.1 b hb,
   fun {C w w'} h hs hk=>⟨fun b hb=>Nat.lt_of_lt_of_le (h.1 b hb) hs,fun i x j v hx hv=>by
     obtain ⟨h1,h2⟩:=h.2 i x j v hx hv
     refine ⟨h1,?_⟩
     rw [← h2]
     unfold World.cell?
     simp only [hk _ h1]⟩⟩
def VwO (vv:Value) (o:Nat) (v:Value) (xs:List α):Prop :=
 ∃ q c,v=.slice q xs.length c∧xs.length≤c∧(xs≠[]→q=some ⟨zgc vv,o,none⟩)
variable {F:Fence} {P:Program} {w0:World} {K:Nat→Prop} {N:Nat} {dfs:List Deferred} {ops:Array Oper} {Q:Exit→Act→World→Prop} {rest:List Oper} {σ:List (Nat×Value)} {L RD:List Asn} {v:Value}
 {d i:Nat} {t ty e:TypeId} {pos:String} {aft:Array Edge} {g:Option (Nat×Bool)} {x y:Operand}
end
theorem zmW {P:Program} {t e:TypeId} {x:Operand} {q:Option Addr} {n c:Nat} (ht:P.underlying t=some (.slice e)) (w:World):(do eqGuard .eql t x (.const (.slice none 0 0)) (.slice q n c) (.slice none 0 0); binOp .eql t (.slice q n c) (.slice none 0 0):Sem Value).run P w=.ok (.bool q.isNone) w:=by
 have h:∀ d,(Op.equalIn (d+1) t (.slice q n c) (.slice none 0 0)).run P w=.ok q.isNone w:=fun d=>by
  cases q <;> simp [Op.equalIn,run_underlying ht]
 have h':(Op.equalIn Op.maxDepth t (.slice q n c) (.slice none 0 0)).run P w=.ok q.isNone w:=h 9999
 simp [eqGuard,binOp,Sem.run_bind,run_underlying ht,Op.equal,h']
theorem zoX:∀ i,prog.info? 30=some i→i.bytes≤32:=fun i hi=>by
 have h:(prog.info? 30).all (fun i=>decide (i.bytes≤32))=true:=by kernel_rfl
 rw [hi] at h
 exact of_decide_eq_true h
section
variable {F:Fence} {P:Program} {w0:World} {K:Nat→Prop} {N:Nat} {dfs:List Deferred} {ops:Array Oper} {Q:Exit→Act→World→Prop} {rest:List Oper} {σ:List (Nat×Value)} {L RD:List Asn}
 {d:Nat} {ty:TypeId} {pos:String} {aft:Array Edge} {g:Option (Nat×Bool)} {s x:Operand} {t e:TypeId} {k o size:Nat} {vv v2 v:Value} {α:Type} {enc:α→List Value} {xs ys:List α}
theorem znJ {C:Nat→Prop} {w:World} (hlen:∀ x,(enc x).length=size) (hs:0<size) (h:(zgv enc size v2 o ys).P C w) (hV:VwO v2 o v ys) (hne:ys≠[]):∃ c,v=.slice (some ⟨zgc v2,o,none⟩) ys.length c∧∀ n u,(ys.flatMap enc)[n]?=some u→w.cell? ((⟨zgc v2,o,none⟩:Addr).add n)=some u:=by
 obtain ⟨q',c,hq',_,hp⟩:=hV
 have hp:=hp hne
 subst hp
 refine ⟨c,hq',fun n u hu => ?_⟩
 have hadd:(⟨zgc v2,o,none⟩:Addr).add n=⟨zgc v2,o+n,none⟩:=by unfold Addr.add; split <;> simp_all
 rw [hadd]
 have hnl:n<ys.length*size:=by
  have:=(List.getElem?_eq_some_iff.1 hu).1; rwa [zlS hlen ys] at this
 have hi:n / size<ys.length:=Nat.div_lt_of_lt_mul (by rwa [Nat.mul_comm] at hnl)
 have hr:n % size<size:=Nat.mod_lt _ hs
 have hdm:n / size*size+n % size=n:=Nat.div_add_mod' n size
 have hy:ys[n / size]?=some ys[n / size]:=List.getElem?_eq_getElem hi
 have h2:=zlT hlen ys (n / size) (n % size) _ hy hr
 rw [hdm,hu] at h2
 have h3:=(h.2 _ _ _ _ hy h2.symm).2
 rwa [Nat.add_assoc,hdm] at h3
theorem zm7 [WideF F] {i2 B:Nat} (hr:Rd w0 K RD) (hi2:RD[i2]?=some (zgv enc size v2 o ys)) (ht:P.underlying t=some (.slice e)) (hE:ElemOk P e size) (hB:∀ i,P.info? e=some i→i.bytes≤B) (hlen:∀ x,(enc x).length=size) (h1:∀ x,∀ u∈enc x,u.oneCell'=true) (hV:VwO v2 o v ys) (hg:gd ops σ g=some true) (hd:d<N) (hs:ev σ s=some vv) (hx:ev σ x=some v)
  (hk:L[k]?=some (vec enc e size vv xs)) (hn:xs.length+ys.length≤maxLen) (hb:(xs.length+ys.length)*B≤140737488355328)
  (h:∀ v',TO F P w0 K N dfs ops Q rest ((d,v')::σ) (L.set k (vec enc e size v' (xs++ys)))) :
  TO F P w0 K N dfs ops Q (⟨some d,.call { callee:=.builtin .append,args:=#[s,x],argTypes:=#[t,t] },ty,pos,aft,g⟩::rest) σ L:=by
 obtain ⟨i,zv,hi,hz,hsize,hzs,hsz,hbytes⟩:=hE
 have hbb:(xs.length+ys.length)*i.bytes≤140737488355328:=Nat.le_trans (Nat.mul_le_mul_left _ (hB i hi)) hb
 refine zfR hg (by simp) fun a w ha hw => ?_
 obtain ⟨C2,hV2⟩:=hr.at hw hi2
 obtain ⟨C,hV1,hstep⟩:=hw.focus hk
 by_cases hne:ys=[]
 ·subst hne
  obtain ⟨q',c,hq',_,_⟩:=hV
  subst hq'
  rw [List.append_nil] at h
  rcases q' with _ | q'
  ·obtain ⟨b,cap,hb⟩:=Vec.len hV1
   have hcap:xs.length≤cap:=by
    rcases hV1.shape with ⟨h3,h4,_⟩ | ⟨gb,cap',h3,_,h4,_⟩
    ·rw [h4]; exact Nat.zero_le _
    ·rw [hb] at h3; cases h3; exact h4
   have hr:=zkh (P:=P) w t ty e i ht hi b xs.length cap c hcap
   refine ⟨vv,w,?_,h vv _ _ (ha.put hd _) (hstep _ C w (Ext.refl _ _) hV1)⟩
   subst hb
   simp [execOp,resolve,invoke,builtin,ha.ev hs,ha.ev hx,hr,Sem.run_bind]
  ·obtain ⟨v',w',hr,C',h2,h3⟩:=zhI (P:=P) w t ty e i zv ht hi hz hsize hzs hsz hlen h1 vv xs C hV1 [] q' c (by simp) hn hbb
   rw [List.append_nil] at h2
   refine ⟨v',w',?_,h v' _ _ (ha.put hd _) (hstep _ C' w' h3 h2)⟩
   have hr':(Builtin.append_ #[t,t] ty #[vv,.slice (some q') 0 c]).run P w=.ok v' w':=hr
   simp [execOp,resolve,invoke,builtin,ha.ev hs,ha.ev hx,hr',Sem.run_bind]
 ·obtain ⟨c,rfl,hc⟩:=znJ hlen hsz hV2 hV hne
  obtain ⟨v',w',hr,C',h2,h3⟩:=zhI (P:=P) w t ty e i zv ht hi hz hsize hzs hsz hlen h1 vv xs C hV1 ys _ c hc hn hbb
  refine ⟨v',w',?_,h v' _ _ (ha.put hd _) (hstep _ C' w' h3 h2)⟩
  simp [execOp,resolve,invoke,builtin,ha.ev hs,ha.ev hx,hr,Sem.run_bind]
end
theorem ztE {vv v:Value} {o:Nat} {xs:List zbp} (hw:VwO vv o v xs) (hb:xs.length*32≤140737488355328):FnR prog 6 [v] [zgv enc_Gapi_Witness 2 vv o xs] [] (fun v0:Value=>v0) (fun v0=>[vec enc_Gapi_Witness 30 2 v0 xs]):=by
 refine FnR.intro func6 rfl ntmps6 (by simp) ?_
 intro w0 K hrd
 have hw':=hw
 obtain ⟨q,c,hv,_,hq⟩:=hw
 subst hv
 cases q with
 | none =>
  have hx:xs=[]:=by
   cases xs with
   | nil=>rfl
   | cons x xs=>cases hq (by simp)
  subst hx
  refine zar (zad (zaw rfl (by decide) rfl (zap (zag (zar (zar (zad (zaD rfl (by decide) rfl (zaX rfl (by decide) rfl rfl (zmW underlying22) (zap (zag (zbw rfl ?_))))))))))))
  refine zar (zad (zf1 (enc:=enc_Gapi_Witness) (e:=30) (size:=2) (zaw rfl (by decide) rfl (zap (zag (zaE (zao ?_)))))))
  exact zbA (rs:=[.tmp 2]) (.slice none 0 0) (.inl rfl) results6 (.cons (.tmp rfl) .nil) rfl (zaa [0] kr rfl)
 | some q =>
  refine zar (zad (zaw rfl (by decide) rfl (zap (zag (zar (zar (zad (zaD rfl (by decide) rfl (zaX rfl (by decide) rfl rfl (zmW underlying22) (zap (zag (zaS rfl (zax ?_)))))))))))))
  refine zag (zar (zad ?_))
  refine zby (cs:=[]) (te:=30) (ps:=[]) rfl (by decide) rfl (fun _=>by kernel_rfl) (fun b1 => ?_)
  refine zaD rfl (by decide) rfl (zmb ([]:List zbp) (k:=0) rfl enc_Gapi_Witness_len rfl (show 0≤maxLen by decide) ?_)
  show TO _ _ _ _ _ _ _ _ _ _ [vec enc_Gapi_Witness 30 2 (.slice (some ⟨b1,0,none⟩) 0 0) ([]:List zbp)]
  refine zm7 (k:=0) (i2:=0) (B:=32) hrd rfl underlying22 zwF zoX enc_Gapi_Witness_len zij hw' rfl (by decide) rfl rfl rfl (by simp only [maxLen,List.length_nil]; omega) (by rw [List.length_nil,Nat.zero_add]; exact hb) (fun v1 => ?_)
  refine zaw rfl (by decide) rfl (zap (zag (zaE ?_)))
  exact zbA (rs:=[.tmp 2]) v1 (.inl rfl) results6 (.cons (.tmp rfl) .nil) rfl (zaa [0] kr rfl)
def zde (s1:List zbp):Option (List zbp) := grd (s1.length*32≤140737488355328) <| some s1
theorem zfc {vvs1 vs1:Value} {os1:Nat} {s1:List zbp} (hws1:VwO vvs1 os1 vs1 s1) {r:(List zbp)} (h:zde s1=some r):FnR prog 6 [vs1] [zgv enc_Gapi_Witness 2 vvs1 os1 s1] [] (fun v0:Value=>v0) (fun v0=>[vec enc_Gapi_Witness 30 2 v0 r]):=by
 obtain ⟨hb,h⟩:=zcU h
 cases h
 exact ztE hws1 hb
section
open Go.MapKept
section
variable {F:Fence} {P:Program} {w0:World} {K:Nat→Prop} {N:Nat} {dfs:List Deferred} {ops:Array Oper} {Q:Exit→Act→World→Prop} {rest:List Oper} {σ:List (Nat×Value)} {L RD:List Asn}
 {d:Nat} {ty:TypeId} {pos:String} {aft:Array Edge} {g:Option (Nat×Bool)} {x y z:Operand} {k b:Nat} {κ ν:Type} [DecidableEq κ] {ek:κ→Value} {ev':ν→Value} {mt kt et:TypeId} {M:List (κ×ν)}
end
end
section
def zvT (h:Hd):Nat:=match h.1 with
 | some a=>a.block
 | none=>0
abbrev FsL:Type:=List (zBA×(List zBA×Hd))
def fsV (z:List zBA×Hd):Value:=z.2.v
def fsR (z:List zBA×Hd):List Asn:=[zjU zgA 1 z.2 z.1]
abbrev fsM (b:Nat) (L:FsL):Asn:=zgX (fun s:zBA=>Value.string s) fsV b L
abbrev fsO (L:FsL):Asn:=zhu fsR (L.map Prod.snd)
variable {b:Nat} {M:List (zBA×List zBA)} {L:FsL}
section
variable {F:Fence} {P:Program} {w0:World} {K:Nat→Prop} {N:Nat} {dfs:List Deferred} {ops:Array Oper} {Q:Exit→Act→World→Prop} {rest:List Oper} {σ:List (Nat×Value)} {LL RD:List Asn}
 {d:Nat} {ty:TypeId} {pos:String} {aft:Array Edge} {g:Option (Nat×Bool)} {x y z:Operand} {i:Nat} {mt kt et:TypeId}
end
end
section
variable {F:Fence} {P:Program} {w0:World} {K:Nat→Prop} {N:Nat} {dfs:List Deferred} {ops:Array Oper} {Q:Exit→Act→World→Prop} {rest:List Oper} {σ σ':List (Nat×Value)} {L L' R As Bs:List Asn} {o:Oper} {v:Value}
 {d:Nat} {t:TypeId} {op:Op} {ty:TypeId} {pos:String} {aft:Array Edge} {g:Option (Nat×Bool)} {x y z:Operand} {c c1 c2:Code} {k:Nat} {A B:Asn} {RD RD0:List Asn} {e:TypeId} {ex:Exit}
theorem zbJ {w1:World} {K1:Nat→Prop} (hx:Ext K K1 w0 w1) (h:TX w0 K N dfs Q ex σ L):TX w1 K1 N dfs Q ex σ L:=fun a w ha ⟨C,hC,h1⟩=>h a w ha ⟨C,hC,hx.trans h1⟩
theorem zgW (hs:Splits L As R) (hE:∀ C w,sepL As C w→B.P C w) (hRd:Rd w0 K RD0) (h:∀ w1 K1,Ext K K1 w0 w1→Rd w1 K1 (RD0++[B])→TO F P w1 K1 N dfs ops Q rest σ R):TO F P w0 K N dfs ops Q rest σ L:=by
 intro a w ha hw
 obtain ⟨C,hL,hx⟩:=hw
 obtain ⟨C1,C2,g1,g2,g3,g4⟩:=hs C w hL
 have hx2:Ext K C2 w0 w:=hx.sub fun k hk=>(g4 k).2 (.inr hk)
 refine h w C2 hx2 ((hRd.ext hx2).append fun X hX => ?_) a w ha ⟨C2,g2,Ext.refl _ _⟩
 rw [List.mem_singleton] at hX
 subst hX
 exact ⟨C1,hE C1 w g1,g3⟩
end
section
variable {F:Fence} {P:Program} {w0:World} {K:Nat→Prop} {N:Nat} {dfs:List Deferred} {ops:Array Oper} {Q:Exit→Act→World→Prop} {rest:List Oper} {σ σ':List (Nat×Value)} {L L' R As Bs:List Asn} {o:Oper} {v:Value}
 {d:Nat} {t:TypeId} {op:Op} {ty:TypeId} {pos:String} {aft:Array Edge} {g:Option (Nat×Bool)} {x y z:Operand} {c c1 c2:Code} {k:Nat} {A B:Asn} {RD RD0:List Asn} {e:TypeId} {ex:Exit}
theorem zqW {α η:Type} {enc:α×η→List Value} {nest:α×η→List Asn} {tt:TypeId} {p:Value} {m:Option α} {w:World} (h:Holds w0 K L w) (hk:L[k]?=some (zkL enc nest tt p m)):p.oneCell'=true:=by
 obtain ⟨C,hv,_⟩:=h.focus hk
 rcases zll hv with ⟨_,rfl⟩ | ⟨_,_,_,rfl,_⟩ <;> rfl
end
end Go.Proofs.YtdnalnmahlakkaaGreatDoor

namespace Go.Proofs.YtdnalnmahlakkaaGreatDoor
@[ext] structure ziJ where
 Rune:Int
 Text:zBA
 At:Int
end Go.Proofs.YtdnalnmahlakkaaGreatDoor

namespace Go.Proofs.YtdnalnmahlakkaaGreatDoor
open Go.RowKit Go.Lib
open Tryz
set_option linter.unusedVariables false
set_option linter.unusedSimpArgs false
theorem zjz {a b:Nat} (ha:a<18446744073709551616) (hb:b<18446744073709551616):zaM .u64 (a:Int) (b:Int)=((a &&& b:Nat):Int):=by
 have h:a &&& b<2 ^ 64:=Nat.and_lt_two_pow _ hb
 unfold zaM
 rw [IntKind.wrap_u64,show IntKind.bits .u64=64 from rfl,BitVec.ofInt_natCast,BitVec.ofInt_natCast,BitVec.toNat_and,BitVec.toNat_ofNat,BitVec.toNat_ofNat,Nat.mod_eq_of_lt (by omega),Nat.mod_eq_of_lt (by omega)]
 omega
theorem zmz {a b:Nat} (ha:a<18446744073709551616) (hb:b<18446744073709551616):orI .u64 (a:Int) (b:Int)=((a ||| b:Nat):Int):=by
 have h:a ||| b<2 ^ 64:=Nat.or_lt_two_pow (by omega) (by omega)
 unfold orI
 rw [IntKind.wrap_u64,show IntKind.bits .u64=64 from rfl,BitVec.ofInt_natCast,BitVec.ofInt_natCast,BitVec.toNat_or,BitVec.toNat_ofNat,BitVec.toNat_ofNat,Nat.mod_eq_of_lt (by omega),Nat.mod_eq_of_lt (by omega)]
 omega
def tzN (x:Nat):Nat:=Lib.ctz 64 x
theorem zkc (n:Nat) (h:n≤16):zmo .u64 1 (n:Int)=((2 ^ n:Nat):Int):=by
 unfold zmo
 rw [IntKind.wrap_u64,show IntKind.bits .u64=64 from rfl,Int.toNat_natCast,Nat.min_eq_left (by omega),Int.one_mul]
 have h2:2 ^ n≤2 ^ 16:=Nat.pow_le_pow_right (by omega) h
 have h3:((2:Int) ^ n)=((2 ^ n:Nat):Int):=by rw [Int.natCast_pow]; rfl
 have h4:(2:Nat) ^ 16=65536:=rfl
 rw [h3]
 generalize (2:Nat) ^ n=x at *
 omega
def zjN (s:Nat):Nat→Nat→List Nat
 | 0,_=>[]
 | n+1,p=>if p=0 then [] else p::zjN s n ((p - 1) &&& s)
def zhj (s:Nat):Bool:=s==1||s==2||s==4||s==8||s==16||s==32||s==64||s==128
def zr4 (s:Nat):Nat:=2 ^ tzN s
def zln (s:Nat):List Nat:=(zjN s 300 ((s - 1) &&& s)).filter fun p=>p &&& zr4 s != 0
def zkX (s:Nat):Nat:=s % 2+s / 2 % 2+s / 4 % 2+s / 8 % 2+s / 16 % 2+s / 32 % 2+s / 64 % 2+s / 128 % 2
def zqy:Nat→Nat
 | 1=>1 | 2=>1 | 3=>3 | 4=>15 | 5=>105 | 6=>945 | 7=>10395 | 8=>135135 | _=>0
def zmy (s p:Nat):Bool:=p &&& (s - p)==0&&p ||| (s - p)==s&&p != 0&&decide (tzN p<tzN (s - p))
theorem zpw:((List.range 256).all fun s=>s==0||zhj s||zln s==((List.range s).filter (zmy s)).reverse)=true:=by decide +kernel
theorem zmx {s p:Nat} (hs:s<256) (h0:s≠0) (h1:zhj s=false):p∈zln s↔(p<s∧zmy s p=true):=by
 have h:=List.all_eq_true.1 zpw s (List.mem_range.2 hs)
 rw [h1,Bool.or_false,Bool.or_eq_true,beq_iff_eq] at h
 have h2:=h.resolve_left h0
 rw [beq_iff_eq] at h2
 rw [h2,List.mem_reverse,List.mem_filter,List.mem_range]
theorem zpv:∀ s:Fin 256,s.val≠0→zhj s.val=false→((zln s.val).map fun p=>zqy (zkX p)*zqy (zkX (s.val - p))).sum=zqy (zkX s.val):=by decide +kernel
section
open Go.ChangeShapes Go.WideShapes
theorem FnR.p {P:Program} {f:FuncId} {vs:List Value} {RD:List Asn} {v:Value} (h:FnR P f vs RD [] (fun _:Unit=>v) (fun _=>[])) (w:World) (hr:Rd w (fun _=>False) RD):Calls P f vs.toArray w fun e w'=>e=.returned v∧Below w.heap.size w w' :=
 (h w (fun _=>False) hr (fun _ h=>h)).mono fun e w' ⟨_,h1,C',h2,h3⟩=>⟨h1,h3.toBelow (Nat.le_refl _) (fun _ _ h=>h)⟩
theorem ztG {w:World} {b j:Nat} {v:Value} (h:w.cell? ⟨b,j,none⟩=some v):b<w.heap.size:=by
 rcases Nat.lt_or_ge b w.heap.size with h1 | h1
 ·exact h1
 ·have:w.heap[b]?=none:=Array.getElem?_eq_none h1
  simp [World.cell?,this] at h
section
variable {H:Type} {enc:TypeId×Value→H} {P:Program} {w:World} {base:Nat} {held:Bool} {zc9:Nat} {t e:TypeId} {cs:List Value} {x:DataW H×List MemPlace}
theorem zmr {fs:Array Field} {l:List (TypeId×Nat)} {n:Nat} {sp:Nat→Bool} {xs:List (DataW H×List MemPlace)} (hfs:fs.toList.map (fun f=>(f.type,f.offset))=l) (hx:xs.length=fs.size)
  (hf:∀ (i:Nat) (f:Field),fs[i]?=some f→DataW.trod enc P w base sp held n f.type ((cs.drop f.offset).take (P.cellsOf f.type))=xs[i]?) {i o c:Nat} (hi:l[i]?=some (e,o)) (hc:P.cellsOf e=c) :
  ∃ z,xs[i]?=some z∧DataW.trod enc P w base sp held n e ((cs.drop o).take c)=some z:=by
 have hg:(fs.toList.map (fun f=>(f.type,f.offset)))[i]?=some (e,o):=by rw [hfs]; exact hi
 rw [List.getElem?_map] at hg
 cases hq:fs.toList[i]? with
 | none=>rw [hq] at hg; cases hg
 | some f =>
  rw [hq] at hg
  have hfe:(f.type,f.offset)=(e,o):=Option.some.inj hg
  have h2:=hf i f (by rw [← Array.getElem?_toList]; exact hq)
  rw [(Prod.mk.inj hfe).1,(Prod.mk.inj hfe).2,hc] at h2
  have hlt:i<fs.size:=by have:=(List.getElem?_eq_some_iff.1 hq).1; simpa using this
  rw [List.getElem?_eq_getElem (by omega)] at h2
  exact ⟨_,List.getElem?_eq_getElem (by omega),h2⟩
end
end
section
open Go.ChangeShapes Go.WideShapes
theorem zko {α:Type} (R:Nat→α→Prop):∀ n:Nat,(∀ i,i<n→∃ z,R i z)→∃ zs:List α,zs.length=n∧∀ i z,zs[i]?=some z→R i z
 | 0,_=>⟨[],rfl,fun i z h=>by simp at h⟩
 | n+1,h=>by
  obtain ⟨zs,h1,h2⟩:=zko R n fun i hi=>h i (by omega)
  obtain ⟨z,hz⟩:=h n (by omega)
  refine ⟨zs++[z],by simp [h1],fun i y hy => ?_⟩
  rcases Nat.lt_or_ge i zs.length with hi | hi
  ·rw [List.getElem?_append_left hi] at hy; exact h2 i y hy
  ·rw [List.getElem?_append_right hi] at hy
   have h0:i - zs.length=0:=by
    rcases Nat.eq_zero_or_pos (i - zs.length) with e | e
    ·exact e
    ·rw [List.getElem?_eq_none (by simp; omega)] at hy; cases hy
   rw [h0] at hy
   have e:i=n:=by omega
   rw [e,← Option.some.inj hy]; exact hz
section
variable {H:Type} {enc:TypeId×Value→H} {P:Program} {w:World} {base:Nat} {held:Bool} {zc9:Nat} {t e:TypeId} {cs:List Value} {x:DataW H×List MemPlace}
end
end
section
open Go.ChangeShapes Go.WideShapes
theorem zqM {α:Type} {enc:α→List Value} {n:Nat} (hn:0<n) (hlen:∀ x,(enc x).length=n) {w:World} {a:Addr} {ys:List α} {cap:Nat} (hl:ys.length≤cap) (hc:∀ i y,ys[i]?=some y→∀ j v,(enc y)[j]?=some v→w.cell? ((a.add (i*n)).add j)=some v) :
  ∃ vv o,VwO vv o (.slice (some a) ys.length cap) ys∧(zgv enc n vv o ys).P (fun b=>b<w.heap.size) w:=by
 cases ys with
 | nil =>
  exact ⟨.slice none 0 0,0,⟨_,_,rfl,hl,fun h=>absurd rfl h⟩,⟨fun b hb=>hb,fun i x j v hx=>by simp at hx⟩⟩
 | cons y ys =>
  obtain ⟨b,off,spot⟩:=a
  have h0:∃ v,(enc y)[0]?=some v:=⟨_,List.getElem?_eq_getElem (by rw [hlen y]; exact hn)⟩
  obtain ⟨v0,hv0⟩:=h0
  have hspot:spot=none:=by
   have:=World.cell?_spot (hc 0 y rfl 0 v0 hv0)
   simpa [Addr.add] using this
  subst hspot
  refine ⟨.slice (some ⟨b,0,none⟩) 0 0,off,⟨_,_,rfl,hl,fun _=>by simp [zgc]⟩,⟨fun b hb=>hb,fun i x j v hx hv => ?_⟩⟩
  have h1:=hc i x hx j v hv
  rw [add_plain,add_plain] at h1
  exact ⟨ztG h1,h1⟩
section
variable {H:Type} {enc:TypeId×Value→H} {P:Program} {w:World} {base:Nat} {held:Bool} {zc9:Nat} {t e:TypeId} {cs:List Value} {x:DataW H×List MemPlace}
theorem see_eachO {α:Type} {en:α→List Value} {n:Nat} (hn:0<n) (hlen:∀ z,(en z).length=n) (Q:α→DataW H→Prop) (ht:P.underlying t=some (.slice e)) (hc:P.cellsOf e=n)
  (hd:∀ n cs y,DataW.trod enc P w base (fun _=>true) held n e cs=some y→∃ z,cs=en z∧Q z y.1)
  (h:DataW.trod enc P w base (fun _=>true) held zc9 t cs=some x) :
  ∃ (hd:Hd) (zs:List α) (vv:Value) (o:Nat),cs=[hd.v]∧VwO vv o hd.v zs∧(zgv en n vv o zs).P (fun b=>b<w.heap.size) w∧((x.1=.nil∧zs=[])∨∃ A B:List (DataW H),x.1=.slice A B∧A.length=zs.length∧∀ (i:Nat) (z:α),zs[i]?=some z→∃ y,A[i]?=some y∧Q z y):=by
 rcases DataW.trod_slice ht h with ⟨rfl,rfl⟩ | ⟨a,len,cap,elems,rest,m,_,rfl,rfl,hb,hl,hm',hlen',hel,hsp,hns⟩
 ·exact ⟨Hd.nil,[],.slice none 0 0,0,rfl,⟨none,0,rfl,Nat.le_refl _,fun h=>absurd rfl h⟩,⟨fun b hb=>hb,fun i x j v hx=>by simp at hx⟩,.inl ⟨rfl,rfl⟩⟩
 ·obtain ⟨zs,z1,z2⟩:=zko (fun i z=>(∀ j v,(en z)[j]?=some v→w.cell? ((a.add (i*n)).add j)=some v)∧∃ y,elems[i]?=some y∧Q z y.1) len fun i hi=>by
   have h1:=hel i hi
   rw [hc] at h1
   rw [List.getElem?_eq_getElem (by omega)] at h1
   obtain ⟨cs',hcs,hy⟩:=Option.bind_eq_some_iff.1 h1
   obtain ⟨z,rfl,hQ⟩:=hd _ _ _ hy
   obtain ⟨_,_,h2⟩:=World.cells?_some hcs
   refine ⟨z,fun j v hv => ?_,_,List.getElem?_eq_getElem (by omega),hQ⟩
   have hj:j<n:=by rw [← hlen z]; exact (List.getElem?_eq_some_iff.1 hv).1
   rw [h2 j hj,hv]
  obtain ⟨vv,o,h1,h2⟩:=zqM (enc:=en) hn hlen (w:=w) (a:=a) (ys:=zs) (cap:=cap) (by omega) (fun i y hy=>(z2 i y hy).1)
  rw [z1] at h1
  refine ⟨⟨some a,len,cap⟩,zs,vv,o,rfl,h1,h2,.inr ⟨_,_,rfl,by rw [List.length_map]; omega,fun i z hz => ?_⟩⟩
  obtain ⟨_,y,hy,hQ⟩:=z2 i z hz
  exact ⟨y.1,by rw [List.getElem?_map,hy]; rfl,hQ⟩
theorem zin {n:Nat} {y:DataW H} (hn:n∈DataW.weights P e y):∀ {A:List (DataW H)},y∈A→n∈DataW.weightsAll P e A
 | z::A,h=>by
  show n∈DataW.weights P e z++DataW.weightsAll P e A
  rcases List.mem_cons.1 h with rfl | h
  ·exact List.mem_append_left _ hn
  ·exact List.mem_append_right _ (zin hn h)
end
end
end Go.Proofs.YtdnalnmahlakkaaGreatDoor
