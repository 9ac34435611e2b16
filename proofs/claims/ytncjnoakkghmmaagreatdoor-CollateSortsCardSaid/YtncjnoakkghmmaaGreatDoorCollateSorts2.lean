/-
  Texts laid together: Mp, Ob, Mq, Ro, Op, Ir, Rq, Ms, Tab, Lt, Pcs, Tok, PcW, Cls, ClsW, ClsW2, Vow, RefW, RefW3, Vs, SeqW, RefPcs, Runs, C0, Im, Shf, Ck, Dr, Bytes, Bld, Gr, Shi, In, Ds, Ar, Lr, Db, Mc, Sh. Nothing is assumed.
-/
import Derived.Test.YtncjnoakkghmmaaGreatDoorCollateSorts1
import Derived.MapKept
import Derived.Test.YtncjnoakkghmmaaGreatDoorProg
import Derived.Shelf.Abstract
import Derived.Shelf.Strings.Builder1
import Derived.Shelf.Strings.Trim
import Derived.Shelf.Small.Utf8
import Derived.Shelf.Small.Strs
import Derived.Shelf.Strings.BuilderF
import Derived.Shelf.Strings.Search1
import Derived.Shelf.Strings.Search2
import Derived.Shelf.Strings.Search3
import Derived.Shelf.LaysM
import Derived.Shelf.Strings.Shaped
import Derived.Shelf.Strings.Prefix
import Derived.Shelf.Strings.Runes
import Derived.Shelf.Strings.AsciiSet
import Derived.Shelf.Unicode.DecodeSlow
import Derived.Lib.AppendStr
import Derived.Laws.IdiomStrings
import Derived.Lib.BufferRead
import Derived.Lib.Builder
import Derived.Outline
import Derived.Lib.UnsafeStr
import Derived.Lib.MakeNoZero
import Derived.Shelf.Spec.SlicesInsert
import Derived.Shelf.Spec.SlicesInsertGrow
import Derived.OpenShut
import Derived.SliceStrings
import Derived.ProofKit
set_option maxRecDepth 100000
set_option maxHeartbeats 4000000
namespace Go.Proofs.YtncjnoakkghmmaaGreatDoor
open Go.RowKit Go.Lib
open Tryz
set_option linter.unusedVariables false
set_option linter.unusedSimpArgs false
open _root_.Array renaming length_toList->eC
open _root_.BitVec renaming ofInt->ib
open _root_.Bool renaming and_eq_true->aN,eq_iff_iff->eF,not_eq_true'->cX,or_eq_true->ej,or_eq_false_iff->bU,and_eq_false_iff->cV,false_eq_true->bp,not_eq_false'->cW,not_true->dm,not_false->db,eq_false_iff->vi
open _root_.ByteArray renaming mk->vd,empty->af
open _root_.Function renaming comp_def->ep
open _root_.Go.Ending renaming returned->pC
open _root_.Go.Fence renaming wide->bK
open _root_.Go.Instr renaming checkKey->lM,sameBits->lN,findNow->jg,sameNow->mE,findAsking->vc,mapUpdate->wt,keyThatStays->tA,lookup->gX,loadAt->lK,sureAddr->fq
open _root_.Go.MapKept renaming run_getObj_map->cA
open _root_.Go.Op renaming equalIn->gk
open _root_.Go.Oper renaming semAt_some->mG
open _root_.Go.Program renaming cellsOf->ui
open _root_.Go.Proofs.Tryz renaming underlying48->mr,underlying61->kp,underlying69->mu,underlying79->pA,underlying86->pB,underlying94->vg,underlying102->lr,underlying119->lu
open eh renaming mk'->fT
open cY renaming refl->fy
open Hd renaming nil->fe
open aP renaming one->rY,one1->aL
open _root_.Go.Result renaming andThen_ok->cD
open _root_.Go.RowKit.Below renaming heap_alloc->ik
open _root_.Go.Sem renaming run_bind->al
open _root_.Go.Value renaming int->az,agg->br,string->ad
open _root_.Go.World renaming putObj_heap_same->iY,putObj_heap_other->eu,alloc_heap_new->fQ
open _root_.List renaming map_cons->au,range'_succ->wo,range'_zero->wq,map->nJ,map_map->cF,length->fS,getElem?_map->cx,getElem?_eq_getElem->aJ,mem_of_getElem?->aF,mem_cons->bg,getElem?_eq_some_iff->aq,mem_singleton->bd,mem_cons_of_mem->ak,mem_cons_self->ar,not_mem_nil->dJ,nil_append->bj,cons_append->aW,drop_drop->fY,eq_nil_of_length_eq_zero->cE,length_pos_iff->dh,take_append_drop->bo,length_append->aa,length_cons->ab,length_nil->aB,map_nil->fm,getD_cons_zero->jF,getD_cons_succ->mF,append_assoc->av
open _root_.List.cons renaming injEq->hO
open _root_.Nat renaming add_assoc->gZ,add_one_sub_one->uj,zero_mul->qe,zero_add->bY,one_mul->kW,mul_one->nZ,lt_of_lt_of_le->fx,le_refl->aS
open _root_.Option renaming map_map->jN
open _root_.Option.some renaming inj->kV
open _root_.Prod renaming fst->bE,snd->fv
open _root_.Std.Legacy.Range renaming forIn_eq_forIn_range'->jW,size->nv
section
open Go.MapKept
def cf {κ ν:Type} [DecidableEq κ] (k:κ):List (κ×ν)->Option ν
 |[]=>none
 |p::l=>if k=p.1 then some p.2 else cf k l
def jm {κ ν:Type} [DecidableEq κ] (k:κ) (v:ν):List (κ×ν)->List (κ×ν)
 |[]=>[(k,v)]
 |p::l=>if k=p.1 then (k,v)::l else p::jm k v l
def mL {κ:Type} [DecidableEq κ] (k:κ):List κ->Nat->Option Nat
 |[],_=>none
 |p::l,i=>if k=p then some i else mL k l (i+1)
structure kM (P:Program) (kt:TypeId) {κ:Type} [DecidableEq κ] (ek:κ->Value):Prop where
 check:∀em k (w:World),(lM em 10000 kt (ek k)).run P w=.ok () w
 find:∀ (es:List MapEntry) (ks:List κ) k (w:World),es.map (·.key)=ks.map ek->(Instr.findKey kt (ek k) es).run P w=.ok ((mL k ks 0).map λi=>(i,((es[i]?).map (·.val)).getD default)) w
 same:∀k,lN 10000 (ek k) (ek k)=true
theorem Dx {κ:Type} [DecidableEq κ] (k:κ):∀ (l:List κ) (i:Nat),mL k l (i+1)=(mL k l i).map (· + 1)
 |[],i=>rfl
 |p::l,i=>by unfold mL;split<;>simp[Dx k l (i+1)]
theorem GF {κ:Type} [DecidableEq κ] (k p:κ) (e:MapEntry) (a:List MapEntry) (ks:List κ) (n:Nat) :
  ((mL k (p::ks) 0).map λi=>(i+n,(((e::a)[i]?).map (·.val)).getD default))=if k=p then some (n,e.val) else (mL k ks 0).map λi=>(i+(n+1),((a[i]?).map (·.val)).getD default):=by
 have e:mL k (p::ks) 0=if k=p then some 0 else mL k ks (0+1):=rfl
 rw[e];split
 ·simp
 ·rw[Dx,jN];congr 1;funext i;simp[gZ,Nat.add_comm 1 n]
theorem kM.int {P:Program} {kt:TypeId} {a:IntKind} (h:P.underlying kt=some (.int a)):kM P kt (λn:Int=>az a n) where
 check:=λr k w=>run_checkKey h (show IsKey (.int a) (.int a k) by simp[IsKey]) r 9999
 find:=λf ks k w hk=>run_findKey h (by
  have:∀ (f:List MapEntry) (ks:List Int) (n:Nat),f.map (·.key)=ks.map (λn:Int=>az a n)->jg (.int a) (.int a k) f n=some ((mL k ks 0).map λi=>(i+n,((f[i]?).map (·.val)).getD default)):=by
   intro f
   induction f with
   |nil=>intro ks n h;cases ks with
    |nil=>rfl
    |cons _ _=>simp at h
   |cons e f l=>intro ks n h;cases ks with
    |nil=>simp at h
    |cons p ks=>
     simp only[au,hO] at h;rw[GF];have q:mE (.int a) (.int a k) e.key=some (k==p):=by rw[h.1];simp[mE]
     unfold jg;rw[q];by_cases hp:k=p
     ·subst hp;simp
     ·have:(k==p)=false:=by simpa using hp
      rw[this,ai hp];exact l ks (n+1) h.2
  exact this f ks 0 hk)
 same:=λk=>by simp[lN]
theorem Dy {P:Program} {t:TypeId} {a:IntKind} {xs:Array Value} {j:Nat} {v:Value} {w:World} (h:P.underlying t=some (.int a)) (hv:xs[j]?=some v):(part t xs j).run P w=.ok v w:=by
 simp[part,al,run_underlying h,hv,isAgg]
theorem Sd {P:Program} {t e:TypeId} {f:IntKind} (ht:P.underlying t=some (.array 2 e)) (he:P.underlying e=some (.int f)) (q:bI P e 1) {a b n l:Int} (w:World) : (gk 10000 t (.agg #[.int f a,.int f b]) (.agg #[.int f n,.int f l])).run P w=.ok (a==n&&b==l) w:=by
 obtain⟨i,hi,hsz⟩:=q.some;have h1:∀ (d:Nat) (x y:Int),(gk (d+1) e (.int f x) (.int f y)).run P w=.ok (x==y) w:=λd x y=>run_equalIn_int w d e f f x y he;have p1:∀ (x y:Int),(part e #[.int f x,.int f y] 0).run P w=.ok (.int f x) w:=λx y=>Dy he rfl;have p2:∀ (x y:Int),(part e #[.int f x,.int f y] 1).run P w=.ok (.int f y) w:=λx y=>Dy he rfl;have hc:P.cellsOf e=1:=by simp[ui,hi,hsz]
 have key:∀d:Nat,(gk (d+1+1) t (.agg #[.int f a,.int f b]) (.agg #[.int f n,.int f l])).run P w=.ok (a==n&&b==l) w:=λd=>by
  unfold gk;simp only[al,run_underlying ht,cD,run_sizeOf w hi];simp only[jW,nv,Nat.sub_zero,uj,Nat.div_one,hsz,wo,wq,List.forIn_cons,List.forIn_nil,al,cD,qe,bY,kW,p1,p2,h1,nZ];cases h:(a==n)<;>cases h2:(b==l)<;>simp[al,p1,p2,h1,h,h2,hc]
 exact key 9998
theorem GG {P:Program} {kt e:TypeId} {f:IntKind} {κ:Type} [DecidableEq κ] (f0 f1:κ->Int) (q:∀a b:κ,f0 a=f0 b->f1 a=f1 b->a=b)
  (ht:P.underlying kt=some (.array 2 e)) (he:P.underlying e=some (.int f)) (C:bI P e 1):kM P kt (λp:κ=>br #[.int f (f0 p),.int f (f1 p)]) where
 check:=λu k w=>by
  obtain⟨i,hi,hsz⟩:=C.some;have hc:P.cellsOf e=1:=by simp[ui,hi,hsz]
  have h1:∀ (n:Nat) (x:Int),(lM u (n+1) e (.int f x)).run P w=.ok () w:=λn x=>run_checkKey he (show IsKey (.int f) (.int f x) by simp[IsKey]) u n;have p1:∀ (x y:Int),(part e #[.int f x,.int f y] 0).run P w=.ok (.int f x) w:=λx y=>Dy he rfl;have p2:∀ (x y:Int),(part e #[.int f x,.int f y] 1).run P w=.ok (.int f y) w:=λx y=>Dy he rfl;have key:∀n:Nat,(lM u (n+1+1) kt (.agg #[.int f (f0 k),.int f (f1 k)])).run P w=.ok () w:=λn=>by
   unfold lM;simp only[al,run_underlying ht,cD];simp only[jW,nv,Nat.sub_zero,uj,Nat.div_one,wo,wq,List.forIn_cons,List.forIn_nil,al,run_sizeOf w hi,hsz,cD,qe,bY,kW,p1,p2,h1,nZ];simp[al,run_sizeOf w hi,hsz,p1,p2,h1,hc]
  exact key 9998
 find:=λl ks k w hk=>by
  have hA:∀ (l:List MapEntry) (ks:List κ) (n:Nat),l.map (·.key)=ks.map (λp:κ=>br #[.int f (f0 p),.int f (f1 p)])->(vc kt (.agg #[.int f (f0 k),.int f (f1 k)]) l n).run P w=.ok ((mL k ks 0).map λi=>(i+n,((l[i]?).map (·.val)).getD default)) w:=by
   intro l
   induction l with
   |nil=>intro ks n h;cases ks with
    |nil=>rfl
    |cons _ _=>simp at h
   |cons D l H=>intro ks n h;cases ks with
    |nil=>simp at h
    |cons p ks=>
     simp only[au,hO] at h;rw[GF];unfold vc;rw[h.1];have r:(Op.equal kt (.agg #[.int f (f0 k),.int f (f1 k)]) (.agg #[.int f (f0 p),.int f (f1 p)])).run P w=.ok (f0 k==f0 p&&f1 k==f1 p) w:=Sd ht he C w;simp only[al,r,cD];by_cases hp:k=p
     ·subst hp;simp
     ·have:(f0 k==f0 p&&f1 k==f1 p)=false:=by
       cases h':(f0 k==f0 p&&f1 k==f1 p) with
       |false=>rfl
       |true=>simp at h';exact absurd (q _ _ h'.1 h'.2) hp
      rw[this,ai hp];exact H ks (n+1) h.2
  have hA:=hA l ks 0 hk;unfold Instr.findKey;simp only[al,run_underlying ht,cD];cases l with
  |nil=>cases ks with
   |nil=>rfl
   |cons _ _=>simp at hk
  |cons D l=>cases ks with
   |nil=>simp at hk
   |cons p ks=>
    simp only[au,hO] at hk;have:jg (.array 2 e) (.agg #[.int f (f0 k),.int f (f1 k)]) (D::l) 0=none:=by
     unfold jg;rw[hk.1];rfl
    rw[this];exact hA
 same:=λk=>by simp[lN]
def cH {κ ν:Type} (ek:κ->Value) (ev:ν->Value) (b:Nat) (L:List (κ×ν)):bG :=
 Aa λz:{z:Array MapEntry×Nat // z.1.toList.map (λe=>(e.key,e.val))=L.map (λp=>(ek p.1,ev p.2))}=>obj b (.map z.1.1 z.1.2)
theorem Am {κ ν:Type} [DecidableEq κ] (k:κ):∀ (L:List (κ×ν)),((mL k (L.map bE) 0).bind λi=>(L[i]?).map fv)=cf k L
 |[]=>rfl
 |p::L=>by
  have e:mL k ((p::L).map bE) 0=if k=p.1 then some 0 else mL k (L.map bE) (0+1):=rfl
  rw[e];unfold cf;split
  ·simp
  ·rw[Dx,<-Am k L];cases mL k (L.map bE) 0<;>simp
theorem xU {κ:Type} [DecidableEq κ] (k:κ):∀ (L:List κ) (i n:Nat),mL k L i=some n->i<=n/\n<i+L.length/\L[n-i]?=some k
 |[],i,n,h=>by cases h
 |p::L,i,n,h=>by
  unfold mL at h;split at h
  ·rename_i hp;cases h;subst hp;simp
  ·obtain⟨h1,h2,h3⟩:=xU k L (i+1) n h;refine⟨by omega,by simp;omega,?_⟩;rw[show n-i=(n-(i+1))+1 by omega];simpa using h3
theorem Li {κ ν:Type} [DecidableEq κ] (k:κ) (v:ν):∀ (L:List (κ×ν)),jm k v L=match mL k (L.map bE) 0 with | some i=>L.set i (k,v) | none=>L++[(k,v)]
 |[]=>rfl
 |p::L=>by
  have e:mL k ((p::L).map bE) 0=if k=p.1 then some 0 else mL k (L.map bE) (0+1):=rfl
  rw[e];unfold jm;by_cases h:k=p.1
  ·rw[aj h,aj h];rfl
  ·rw[ai h,ai h,Dx,Li k v L];cases mL k (L.map bE) 0<;>rfl
section
variable {F:Fence} {P:Program} {w0:World} {K:Nat->Prop} {N:Nat} {dfs:List Deferred} {ops:Array Oper} {Q:Exit->Act->World->Prop} {rest:List Oper} {σ:List (Nat×Value)} {L:List bG}
 {d:Nat} {ty:TypeId} {pos:String} {aft:Array Edge} {g:Option (Nat×Bool)} {x y z:Operand} {k b:Nat} {κ ν:Type} [DecidableEq κ] {ek:κ->Value} {ev':ν->Value} {mt kt et:TypeId} {M:List (κ×ν)}
omit [DecidableEq κ] in
theorem xV [bA F] (ek:κ->Value) (ev':ν->Value) (hg:gd ops σ g=some true) (hd:d<N) (h:∀b,TO F P w0 K N dfs ops Q rest ((d,.map (some b))::σ) (L++[cH ek ev' b []])):TO F P w0 K N dfs ops Q (⟨some d,.makeMap mt none,ty,pos,aft,g⟩::rest) σ L :=
 pD hg (by simp) λa w ha f=>⟨.map (some w.heap.size),w.alloc (.map #[] 0),by simp[execOp,Instr.makeMap,al],h _ _ _ (ha.put hd _) (by
  have h1:=f.alloc (.map #[] 0);have h2:=h1.ent (k:=L.length) (A:=obj w.heap.size (.map #[] 0)) (B:=cH ek ev' w.heap.size []) (by simp) (λC w' hp=>⟨⟨(#[],0),rfl⟩,hp⟩);simpa using h2)⟩
variable (k ek ev') in
theorem xW [bA F] (kk:κ) (vv:ν) (W:kM P kt ek) (ht:P.underlying mt=some (.map kt et)) (hg:gd ops σ g=some true) (hx:ev σ x=some (.map (some b))) (hy:ev σ y=some (ek kk)) (hz:ev σ z=some (ev' vv)) (hk:L[k]?=some (cH ek ev' b M)) (h:TO F P w0 K N dfs ops Q rest σ (L.set k (cH ek ev' b (jm kk vv M)))):TO F P w0 K N dfs ops Q (⟨none,.mapUpdate mt x y z,ty,pos,aft,g⟩::rest) σ L :=
 C9 hg (by simp) λa w ha hw=>by
  obtain⟨C1,⟨⟨⟨q,f⟩,u⟩,hC,hb⟩,D⟩:=hw.focus hk;have hb:w.heap[b]?=some (.map q f):=hb;have u:q.toList.map (λe=>(e.key,e.val))=M.map (λp=>(ek p.1,ev' p.2)):=u;have C:q.toList.map (·.key)=(M.map bE).map ek:=by
   have:=aI (nJ bE) u;simpa [cF,ep] using this
  have n:=W.find q.toList (M.map bE) kk w C;have r:=Li kk vv M;have ao:q.toList.length=M.length:=by have:=aI fS u;simpa using this
  have S:∀X:Obj,(∀C' w',(∀k,C' k↔k=b)->w'.heap[b]?=some X->(cH ek ev' b (jm kk vv M)).P C' w')->Holds w0 K (L.set k (cH ek ev' b (jm kk vv M))) (w.putObj b X):=λX ho=>
   D _ C1 _ ⟨(Fr.refl _ _).putObj (.inl ((hC b).2 rfl)) _,λk hk=>.inl hk⟩ (ho _ _ hC (iY (ny hb)))
  have ex:=ha.ev hx;have ey:=ha.ev hy;have ez:=ha.ev hz;cases hi:mL kk (M.map bE) 0 with
  |none=>
   rw[hi] at n r;refine⟨w.putObj b (.map (q.push { key:=ek kk,val:=ev' vv,born:=f }) (f+1)),?_,h _ _ ha (S _ λC' w' h1 h2=>⟨⟨(_,_),?_⟩,h1,h2⟩)⟩
   ·simp[execOp,ex,ey,ez,wt,run_underlying ht,cA hb,W.check,n,run_setObj_map _ hb,al,World.putObj]
   ·simp[r,u]
  |some i=>
   rw[hi] at n r;obtain⟨_,h2,h3⟩:=xU kk _ _ _ hi;simp at h2;have h3:(M.map bE)[i]?=some kk:=by simpa using h3
   have ag:i<q.toList.length:=by omega
   have H:(q[i]?).map (·.key)=some (ek kk):=by
    have:=aI (λl=>l[i]?) C;simp only[cx] at this;rw[show q[i]?=q.toList[i]? by simp,this];have h4:M[i]?.map bE=some kk:=by simpa using h3
    rw[h4];rfl
   refine⟨w.putObj b (.map (q.modify i λe=>{ e with key:=ek kk,val:=ev' vv }) f),?_,h _ _ ha (S _ λC' w' h1 h2=>⟨⟨(q.modify i λe=>{ e with key:=ek kk,val:=ev' vv },f),?_⟩,h1,h2⟩)⟩
   ·have Z:(tA (ek kk) (ek kk)).run P w=.ok (ek kk) w:=by simp[tA,W.same]
    simp[execOp,ex,ey,ez,wt,run_underlying ht,cA hb,W.check,n,H,Z,run_setObj_map _ hb,al,World.putObj]
   ·show nJ (λe=>(e.key,e.val)) (q.modify i λe=>{ e with key:=ek kk,val:=ev' vv }).toList=_;rw[r];apply List.ext_getElem?;intro j;have hj:=aI (λl=>l[j]?) u;simp only[cx] at hj;simp only[Array.toList_modify,cx,List.getElem?_modify,List.getElem?_set];by_cases J:i=j
    ·subst J;have h5:q.toList[i]?=some q.toList[i]:=aJ ag;simp[h5,show i<M.length by omega]
    ·simp[J];simpa using hj
variable (k ek ev') in
theorem Dz [bA F] (kk:κ) (z0:ν) (S:kM P kt ek) (ht:P.underlying mt=some (.map kt et)) (n:(P.info? et).bind (λi=>i.zero)=some (ev' z0)) (hg:gd ops σ g=some true) (hd:d<N) (hx:ev σ x=some (.map (some b))) (hy:ev σ y=some (ek kk)) (hk:L[k]?=some (cH ek ev' b M)) (h:TO F P w0 K N dfs ops Q rest ((d,.tuple #[ev' ((cf kk M).getD z0),.bool (cf kk M).isSome])::σ) L):TO F P w0 K N dfs ops Q (⟨some d,.lookup mt x y true,ty,pos,aft,g⟩::rest) σ L :=
 kJ hg hd (by simp) (λa w ha hw=>by
  obtain⟨C1,⟨⟨⟨D,C⟩,q⟩,hC,hb⟩,W⟩:=hw.focus hk;have hb:w.heap[b]?=some (.map D C):=hb;have q:D.toList.map (λe=>(e.key,e.val))=M.map (λp=>(ek p.1,ev' p.2)):=q;have u:D.toList.map (·.key)=(M.map bE).map ek:=by
   have:=aI (nJ bE) q;simpa [cF,ep] using this
  have f:=S.find D.toList (M.map bE) kk w u;have ex:=ha.ev hx;have Z:=ha.ev hy;have r:(zeroValue et).run P w=.ok (ev' z0) w:=by
   cases hi:P.info? et with
   |none=>rw[hi] at n;cases n
   |some i=>
    rw[hi] at n;have H:i.zero=some (ev' z0):=n;simp[zeroValue,typeInfo,hi,H,al]
  rw[<-Am kk M];cases hi:mL kk (M.map bE) 0 with
  |none=>
   rw[hi] at f;simp[execOp,ex,Z,gX,run_underlying ht,cA hb,S.check,f,r,al]
  |some i=>
   rw[hi] at f;obtain⟨_,h2,h3⟩:=xU kk _ _ _ hi;simp at h2;have hj:=aI (λl=>(l[i]?).map fv) q;simp only[cx,jN,ep] at hj;have X:M[i]?=some M[i]:=aJ h2;have hv:(D.toList[i]?).map (·.val)=some (ev' M[i].2):=by rw[hj,X];rfl
   have J:(D[i]?).map (·.val)=some (ev' M[i].2):=by simpa using hv
   simp[execOp,ex,Z,gX,run_underlying ht,cA hb,S.check,f,J,X,al]) h
end
end
def Rd (w:World) (K:Nat->Prop) (RD:List bG):Prop:=∀A∈RD,∃C,A.P C w/\∀k,C k->¬K k
theorem Rd.nil {w:World} {K:Nat->Prop}:Rd w K []:=λA h=>by cases h
theorem Rd.ext {w0 w:World} {K C:Nat->Prop} {RD:List bG} (h:Rd w0 K RD) (hx:cY K C w0 w):Rd w C RD:=λA hA=>by
 obtain⟨D,h1,h2⟩:=h A hA;have a:=A.lt h1;refine⟨D,A.loc h1 hx.1.size (λk hk=>hx.1.keep k (a k hk) (h2 k hk)),λk hk hc=>?_⟩;rcases hx.2 k hc with h|h
 ·exact h2 k hk h
 ·have:=a k hk;omega
theorem Rd.append {w:World} {K:Nat->Prop} {A B:List bG} (h1:Rd w K A) (h2:Rd w K B):Rd w K (A++B):=λX a=>by
 rcases List.mem_append.1 a with h|h
 ·exact h1 X h
 ·exact h2 X h
theorem Rd.at {w0 w:World} {K:Nat->Prop} {L RD:List bG} {A:bG} {i:Nat} (h:Rd w0 K RD) (a:Holds w0 K L w) (hi:RD[i]?=some A):∃C,A.P C w:=by
 obtain⟨C,_,hx⟩:=a;obtain⟨D,h1,_⟩:=h.ext hx A (aF hi);exact⟨D,h1⟩
theorem Rd.more {w:World} {K:Nat->Prop} {RD As:List bG} {A:bG} {i:Nat} (h:Rd w K RD) (hi:RD[i]?=some A) (a:∀C,A.P C w->∀B∈As,∃D,B.P D w/\∀k,D k->C k):Rd w K (RD++As):=by
 refine h.append λB hB=>?_;obtain⟨C,h1,h2⟩:=h A (aF hi);obtain⟨D,h3,f⟩:=a C h1 B hB;exact⟨D,h3,λk hk=>h2 k (f k hk)⟩
inductive ry (R RD0:List bG):List bG->Prop
 |nil:ry R RD0 []
 |own {A:bG} {As R' RD:List bG} (hs:aH R As R') (hE:∀C w,aP As C w->A.P C w) (h:ry R RD0 RD):ry R RD0 (A::RD)
 |ro {A:bG} {RD:List bG} (i:Nat) (hi:RD0[i]?=some A) (h:ry R RD0 RD):ry R RD0 (A::RD)
theorem ry.rd {w0 w:World} {K C1 C2:Nat->Prop} {R RD0 RD:List bG} (h:ry R RD0 RD) (f:aP R C2 w) (hd:∀k,C1 k->¬C2 k) (h0:Rd w C1 RD0):Rd w C1 RD:=by
 induction h with
 |nil=>exact Rd.nil
 |@own A As R' RD hs hE h ih=>
  intro B hB;rcases bg.1 hB with rfl|hB
  ·obtain⟨a,n,g1,g2,l,g4⟩:=hs C2 w f;exact⟨a,hE a w g1,λk hk hc=>hd k hc ((g4 k).2 (.inl hk))⟩
  ·exact ih B hB
 |@ro A RD i hi h ih=>
  intro B hB;rcases bg.1 hB with rfl|hB
  ·exact h0 _ (aF hi)
  ·exact ih B hB
def gu (P:Program) (f:FuncId) (vs:List Value) (RD As:List bG) {β:Type} (a:β->Value) (Bs:β->List bG):Prop :=
 ∀w C,Rd w C RD->zV P f vs As a Bs w C
section
variable {F:Fence} {P:Program} {w0:World} {K:Nat->Prop} {N:Nat} {dfs:List Deferred} {ops:Array Oper} {Q:Exit->Act->World->Prop} {rest:List Oper} {σ σ':List (Nat×Value)} {L L' R As Bs:List bG} {o:Oper} {v:Value}
 {d:Nat} {t:TypeId} {op:Op} {ty:TypeId} {pos:String} {aft:Array Edge} {g:Option (Nat×Bool)} {x y z:Operand} {c c1 c2:Code} {k:Nat} {A B:bG} {RO:List (Nat×Obj)} {RD RD0:List bG} {e:TypeId} {ex:Exit}
theorem gu.intro {f:FuncId} {fn:Func} {vs:List Value} {β:Type} {a:β->Value} {Bs:β->List bG} (hf:P.funcs[f]?=some fn) (hb:fn.body=some c) (l:fn.ntmps=N) (q:vs.length<=N) (h:∀w0 K,Rd w0 K RD->TC bK P w0 K N [] (bodyPostM bK 0 P fn (FR P a Bs w0 K)) c (vn vs) As):gu P f vs RD As a Bs :=
 λw C n=>zV.intro hf hb l q (h w C n)
theorem Lj [bA F] {xs:List Operand} {q:Array TypeId} {f:FuncId} {first cap:Array Value} {vs l:List Value} {β:Type} {W:β->Value} {Bs:β->List bG} {dst:Option Nat} (J:Rd w0 K RD0) (hg:gd ops σ g=some true) (hx:ev σ x=some (.func (.func f) first cap)) (C:evL σ xs=some vs) (hv:first.toList++vs++cap.toList=l) (r:∀args w,(callFunc f args).run P w=.ok (.enter f args) w) (hF:gu P f l RD As W Bs) (Z:aH L As R) (hS:ry R RD0 RD) (h:∀b a w S,S=a.put dst (W b)->At N dfs σ a->Holds w0 K (R++Bs b) w->wpListIn F 0 P ops Q rest S w) : TO F P w0 K N dfs ops Q (⟨dst,.call {callee:=.value x,args:=xs.toArray,argTypes:=q },ty,pos,aft,g⟩::rest) σ L:=by
 intro a w ha X;simp only[wpListIn,wv (o:=⟨dst,.call { callee:=.value x,args:=xs.toArray,argTypes:=q },ty,pos,aft,g⟩) ha hg,if_true];refine⟨λf _=>bA.fn f,?_⟩;have h1:(execOp a.eval ⟨dst,.call { callee:=.value x,args:=xs.toArray,argTypes:=q },ty,pos,aft,g⟩).run P w=.ok (.enter f l.toArray) w:=by
  have e:first++vs.toArray++cap=l.toArray:=by rw[<-hv];simp
  simp only[execOp,resolve,List.map_toArray,ha.evL C,ha.ev hx,Deferred.ofValue,al,Sem.run_pure,cD,invoke,e,r]
 rw[Oper.semAt_plain F _ _ (by simp),h1];refine⟨(λh=>by rw[bA.depth (F:=F)] at h;cases h),?_⟩;obtain⟨C1,C2,hA,g2,g3,D,n⟩:=X.split2 Z;have u:Rd w C1 RD0:=J.ext D;refine bA.calls ((hF w C1 (hS.rd (w0:=w0) (K:=K) g2 g3 u) hA).mono ?_);rintro e w' ⟨b,rfl,C',hB,H⟩;exact h b a w' _ rfl ha (n _ _ _ H hB)
theorem oQ [bA F] {xs:List Operand} {C:Array TypeId} {f:FuncId} {first cap:Array Value} (vs:List Value){l:List Value} {β:Type} {D:β->Value} {Bs:β->List bG} (u:Rd w0 K RD0) (hg:gd ops σ g=some true) (hd:d<N) (hx:ev σ x=some (.func (.func f) first cap)) (q:evL σ xs=some vs) (hv:first.toList++vs++cap.toList=l) (n:∀args w,(callFunc f args).run P w=.ok (.enter f args) w) (W:gu P f l RD As D Bs) (J:aH L As R) (S:ry R RD0 RD) (h:∀b,TO F P w0 K N dfs ops Q rest ((d,D b)::σ) (R++Bs b)) : TO F P w0 K N dfs ops Q (⟨some d,.call {callee:=.value x,args:=xs.toArray,argTypes:=C },ty,pos,aft,g⟩::rest) σ L :=
 Lj u hg hx q hv n W J S λb a w X r ha H=>by subst r;exact h b _ _ (ha.put hd _) H
variable (v) in
theorem kZ [bA F] {xs:List Operand} {C:Array TypeId} {f:FuncId} {first cap:Array Value} (vs:List Value){l:List Value} (u:Rd w0 K RD0) (hg:gd ops σ g=some true) (hd:d<N) (hx:ev σ x=some (.func (.func f) first cap)) (q:evL σ xs=some vs) (hv:first.toList++vs++cap.toList=l) (n:∀args w,(callFunc f args).run P w=.ok (.enter f args) w) (J:gu P f l RD [] (λ_:Unit=>v) (λ_=>[])) (H:ry L RD0 RD) (h:TO F P w0 K N dfs ops Q rest ((d,v)::σ) L) : TO F P w0 K N dfs ops Q (⟨some d,.call {callee:=.value x,args:=xs.toArray,argTypes:=C },ty,pos,aft,g⟩::rest) σ L :=
 Lj u hg hx q hv n J aH.nil H λb a w S r ha D=>by
  subst r;rw[List.append_nil] at D;exact h _ _ (ha.put hd _) D
section
variable {i:Nat}
variable (i) in
theorem ot [bA F] {b j:Nat} {l:List Value} {e:TypeId} (hr:Rd w0 K RD) (hi:RD[i]?=some (cells b l e)) (q:mW P t) (hg:gd ops σ g=some true) (hd:d<N) (hx:ev σ x=some (.pointer (some ⟨b,j,none⟩))) (hj:l[j]?=some v) (h:TO F P w0 K N dfs ops Q rest ((d,v)::σ) L):TO F P w0 K N dfs ops Q (⟨some d,.load t x,ty,pos,aft,g⟩::rest) σ L:=by
 obtain⟨dd,hu,f⟩:=q;exact kJ hg hd (by simp) (λa w ha n=>by
  obtain⟨C,r⟩:=hr.at n hi;have hc:w.cell? ⟨b,j,none⟩=some v:=qB r.2 (by simpa using hj);cases dd<;>simp_all [execOp,ha.ev hx,lK,fq,loadVar,isAgg,al,run_underlying hu]) h
variable {α:Type} {enc:α->List Value} {size:Nat} {vv:Value} {xs:List α}
theorem Lk {w:World} {C:Nat->Prop} (h:(vec enc e size vv xs).P C w):Vw vv xs size 0 vv xs:=by
 have f:Holds w (λ_=>False) [vec enc e size vv xs] w->Vw vv xs size 0 vv xs:=λa=>Dn (k:=0) a rfl;have:Holds w C [vec enc e size vv xs] w:=⟨C,rY h,fy _ _⟩;exact Dn (k:=0) this rfl
theorem Rd.vw {w:World} (hr:Rd w K RD) (hi:RD[i]?=some (vec enc e size vv xs)):Vw vv xs size 0 vv xs:=by
 obtain⟨C,a,_⟩:=hr _ (aF hi);exact Lk a
theorem GH [bA F] (n j:Nat){off:Nat} (q:α) (hr:Rd w0 K RD) (hi:RD[i]?=some (vec enc e size vv xs)) (D:mW P t) (hz:∀x,(enc x).length=size) (hg:gd ops σ g=some true) (hd:d<N) (hx:ev σ x=some (.pointer (some ⟨eS vv,off,none⟩))) (r:xs[n]?=some q) (u:off=n*size+j) (hj:j<size) (hv:(enc q)[j]?=some v) (h:TO F P w0 K N dfs ops Q rest ((d,v)::σ) L) : TO F P w0 K N dfs ops Q (⟨some d,.load t x,ty,pos,aft,g⟩::rest) σ L:=by
 subst u;obtain⟨dd,hu,l⟩:=D;refine kJ hg hd (by simp) (λa w ha f=>?_) h;obtain⟨C,H⟩:=hr.at f hi;have hV:ji enc e size vv xs C w:=H;have hc:=hV.cellAt hz r hj hv;have h1:=ha.ev hx;cases dd<;>simp_all [execOp,lK,fq,loadVar,isAgg,al,run_underlying hu]
end
end
section
variable {α η:Type} {enc:α×η->List Value} {nest:α×η->List bG} {t:TypeId} {p:Value} {x:α}
def kN (enc:α×η->List Value) (nest:α×η->List bG) (t:TypeId) (p:Value):Option α->bG
 |none=>F9 (p=.pointer none)
 |some x=>Aa λa:Nat×η=>iR (F9 (p=.pointer (some ⟨a.1,0,none⟩))::cells a.1 (enc (x,a.2)) t::nest (x,a.2))
theorem p4 {q:Prop} {L:List bG} {C:Nat->Prop} {w:World}:aP (F9 q::L) C w↔q/\aP L C w:=by
 constructor
 ·rintro⟨C1,C2,⟨h1,a⟩,h2,h3,f⟩;have:C=C2:=funext λk=>propext ⟨λh=>((f k).1 h).resolve_left (h1 k),λh=>(f k).2 (.inr h)⟩;subst this;exact⟨a,h2⟩
 ·rintro⟨a,h⟩;exact⟨λ_=>False,C,⟨λ_ h=>h,a⟩,h,λ_ h=>h.elim,λk=>by simp⟩
theorem mM {C:Nat->Prop} {w:World}:(kN enc nest t p (some x)).P C w↔∃b h,p=.pointer (some ⟨b,0,none⟩)/\aP (cells b (enc (x,h)) t::nest (x,h)) C w:=by
 constructor
 ·rintro⟨⟨b,h⟩,a⟩;obtain⟨h1,h2⟩:=p4.1 a;exact⟨b,h,h1,h2⟩
 ·rintro⟨b,h,h1,h2⟩;exact⟨⟨b,h⟩,p4.2 ⟨h1,h2⟩⟩
theorem Se {b:Nat} {hd:η} {w:World} {C:Nat->Prop} (h:aP (cells b (enc (x,hd)) t::nest (x,hd)) C w):(kN enc nest t (.pointer (some ⟨b,0,none⟩)) (some x)).P C w:=mM.2 ⟨b,hd,rfl,h⟩
variable (enc nest t x) in
theorem Lm (b:Nat) (hd:η):nN (cells b (enc (x,hd)) t::nest (x,hd)) (λ_:Unit=>[kN enc nest t (.pointer (some ⟨b,0,none⟩)) (some x)]) (λ_=>True):=λC w h=>⟨(),trivial,aL.2 (Se h)⟩
theorem Sf {m:Option α} {C:Nat->Prop} {w:World} (h:(kN enc nest t p m).P C w):(m=none/\p=.pointer none)\/(∃x b,m=some x/\p=.pointer (some ⟨b,0,none⟩)):=by
 cases m with
 |none=>exact .inl ⟨rfl,h.2⟩
 |some x=>obtain⟨b,_,h2,_⟩:=mM.1 h;exact .inr ⟨x,b,rfl,h2⟩
end
section
open Go.MapKept
theorem Ln (a b:V):(a==b)=decide (a=b):=by
 cases a with|mk x=>cases b with|mk y=>
 show (x==y)=_;by_cases h:x=y
 ·subst h;simp
 ·have:¬(vd x=vd y):=λe=>h (by cases e;rfl);rw[ah this];exact aA.2 h
theorem ou {P:Program} {kt:TypeId} (h:P.underlying kt=some .string):kM P kt (λs:V=>ad s) where
 check:=λq k w=>run_checkKey h (show IsKey .string (.string k) by simp[IsKey]) q 9999
 find:=λa ks k w hk=>run_findKey h (by
  have:∀ (a:List MapEntry) (ks:List V) (n:Nat),a.map (·.key)=ks.map (λs:V=>ad s)->jg .string (.string k) a n=some ((mL k ks 0).map λi=>(i+n,((a[i]?).map (·.val)).getD default)):=by
   intro a
   induction a with
   |nil=>intro ks n h;cases ks with
    |nil=>rfl
    |cons _ _=>simp at h
   |cons e a f=>intro ks n h;cases ks with
    |nil=>simp at h
    |cons p ks=>
     simp only[au,hO] at h;rw[GF];have l:mE .string (.string k) e.key=some (decide (k=p)):=by rw[h.1];simp[mE,Ln]
     unfold jg;rw[l];by_cases hp:k=p
     ·subst hp;simp
     ·rw[ah hp,ai hp];exact f ks (n+1) h.2
  exact this a ks 0 hk)
 same:=λk=>by simp[lN,Ln]
section
variable {F:Fence} {P:Program} {w0:World} {K:Nat->Prop} {N:Nat} {dfs:List Deferred} {ops:Array Oper} {Q:Exit->Act->World->Prop} {rest:List Oper} {σ:List (Nat×Value)} {L RD:List bG}
 {d:Nat} {ty:TypeId} {pos:String} {aft:Array Edge} {g:Option (Nat×Bool)} {x y z:Operand} {k b:Nat} {κ ν:Type} [DecidableEq κ] {ek:κ->Value} {ev':ν->Value} {mt kt et:TypeId} {M:List (κ×ν)}
variable (k ek ev') in
theorem Lo [bA F] (kk:κ) (z0:ν) (S:kM P kt ek) (ht:P.underlying mt=some (.map kt et)) (n:(P.info? et).bind (λi=>i.zero)=some (ev' z0)) (hg:gd ops σ g=some true) (hd:d<N) (hx:ev σ x=some (.map (some b))) (hy:ev σ y=some (ek kk)) (hk:L[k]?=some (cH ek ev' b M)) (h:TO F P w0 K N dfs ops Q rest ((d,ev' ((cf kk M).getD z0))::σ) L):TO F P w0 K N dfs ops Q (⟨some d,.lookup mt x y false,ty,pos,aft,g⟩::rest) σ L :=
 kJ hg hd (by simp) (λa w ha hw=>by
  obtain⟨C1,⟨⟨⟨D,C⟩,q⟩,hC,hb⟩,W⟩:=hw.focus hk;have hb:w.heap[b]?=some (.map D C):=hb;have q:D.toList.map (λe=>(e.key,e.val))=M.map (λp=>(ek p.1,ev' p.2)):=q;have u:D.toList.map (·.key)=(M.map bE).map ek:=by
   have:=aI (nJ bE) q;simpa [cF,ep] using this
  have f:=S.find D.toList (M.map bE) kk w u;have ex:=ha.ev hx;have Z:=ha.ev hy;have r:(zeroValue et).run P w=.ok (ev' z0) w:=by
   cases hi:P.info? et with
   |none=>rw[hi] at n;cases n
   |some i=>
    rw[hi] at n;have H:i.zero=some (ev' z0):=n;simp[zeroValue,typeInfo,hi,H,al]
  rw[<-Am kk M];cases hi:mL kk (M.map bE) 0 with
  |none=>
   rw[hi] at f;simp[execOp,ex,Z,gX,run_underlying ht,cA hb,S.check,f,r,al]
  |some i=>
   rw[hi] at f;obtain⟨_,h2,h3⟩:=xU kk _ _ _ hi;simp at h2;have hj:=aI (λl=>(l[i]?).map fv) q;simp only[cx,jN,ep] at hj;have X:M[i]?=some M[i]:=aJ h2;have hv:(D.toList[i]?).map (·.val)=some (ev' M[i].2):=by rw[hj,X];rfl
   have J:(D[i]?).map (·.val)=some (ev' M[i].2):=by simpa using hv
   simp[execOp,ex,Z,gX,run_underlying ht,cA hb,S.check,f,J,X,al]) h
variable (k ek ev') in
theorem DA [bA F] (kk:κ) (z0:ν) (S:kM P kt ek) (ht:P.underlying mt=some (.map kt et)) (n:(P.info? et).bind (λi=>i.zero)=some (ev' z0)) (hg:gd ops σ g=some true) (hd:d<N) (hx:ev σ x=some (.map (some b))) (hy:ev σ y=some (ek kk)) (hr:Rd w0 K RD) (hi:RD[k]?=some (cH ek ev' b M)) (h:TO F P w0 K N dfs ops Q rest ((d,.tuple #[ev' ((cf kk M).getD z0),.bool (cf kk M).isSome])::σ) L):TO F P w0 K N dfs ops Q (⟨some d,.lookup mt x y true,ty,pos,aft,g⟩::rest) σ L :=
 kJ hg hd (by simp) (λa w ha Z=>by
  obtain⟨C1,⟨⟨D,C⟩,q⟩,hC,hb⟩:=hr.at Z hi;have hb:w.heap[b]?=some (.map D C):=hb;have q:D.toList.map (λe=>(e.key,e.val))=M.map (λp=>(ek p.1,ev' p.2)):=q;have u:D.toList.map (·.key)=(M.map bE).map ek:=by
   have:=aI (nJ bE) q;simpa [cF,ep] using this
  have f:=S.find D.toList (M.map bE) kk w u;have ex:=ha.ev hx;have X:=ha.ev hy;have r:(zeroValue et).run P w=.ok (ev' z0) w:=by
   cases hi:P.info? et with
   |none=>rw[hi] at n;cases n
   |some i=>
    rw[hi] at n;have H:i.zero=some (ev' z0):=n;simp[zeroValue,typeInfo,hi,H,al]
  rw[<-Am kk M];cases hi:mL kk (M.map bE) 0 with
  |none=>
   rw[hi] at f;simp[execOp,ex,X,gX,run_underlying ht,cA hb,S.check,f,r,al]
  |some i=>
   rw[hi] at f;obtain⟨_,h2,h3⟩:=xU kk _ _ _ hi;simp at h2;have hj:=aI (λl=>(l[i]?).map fv) q;simp only[cx,jN,ep] at hj;have W:M[i]?=some M[i]:=aJ h2;have hv:(D.toList[i]?).map (·.val)=some (ev' M[i].2):=by rw[hj,W];rfl
   have J:(D[i]?).map (·.val)=some (ev' M[i].2):=by simpa using hv
   simp[execOp,ex,X,gX,run_underlying ht,cA hb,S.check,f,J,W,al]) h
variable (k ek ev') in
theorem tJ [bA F] (kk:κ) (z0:ν) (S:kM P kt ek) (ht:P.underlying mt=some (.map kt et)) (n:(P.info? et).bind (λi=>i.zero)=some (ev' z0)) (hg:gd ops σ g=some true) (hd:d<N) (hx:ev σ x=some (.map (some b))) (hy:ev σ y=some (ek kk)) (hr:Rd w0 K RD) (hi:RD[k]?=some (cH ek ev' b M)) (h:TO F P w0 K N dfs ops Q rest ((d,ev' ((cf kk M).getD z0))::σ) L):TO F P w0 K N dfs ops Q (⟨some d,.lookup mt x y false,ty,pos,aft,g⟩::rest) σ L :=
 kJ hg hd (by simp) (λa w ha Z=>by
  obtain⟨C1,⟨⟨D,C⟩,q⟩,hC,hb⟩:=hr.at Z hi;have hb:w.heap[b]?=some (.map D C):=hb;have q:D.toList.map (λe=>(e.key,e.val))=M.map (λp=>(ek p.1,ev' p.2)):=q;have u:D.toList.map (·.key)=(M.map bE).map ek:=by
   have:=aI (nJ bE) q;simpa [cF,ep] using this
  have f:=S.find D.toList (M.map bE) kk w u;have ex:=ha.ev hx;have X:=ha.ev hy;have r:(zeroValue et).run P w=.ok (ev' z0) w:=by
   cases hi:P.info? et with
   |none=>rw[hi] at n;cases n
   |some i=>
    rw[hi] at n;have H:i.zero=some (ev' z0):=n;simp[zeroValue,typeInfo,hi,H,al]
  rw[<-Am kk M];cases hi:mL kk (M.map bE) 0 with
  |none=>
   rw[hi] at f;simp[execOp,ex,X,gX,run_underlying ht,cA hb,S.check,f,r,al]
  |some i=>
   rw[hi] at f;obtain⟨_,h2,h3⟩:=xU kk _ _ _ hi;simp at h2;have hj:=aI (λl=>(l[i]?).map fv) q;simp only[cx,jN,ep] at hj;have W:M[i]?=some M[i]:=aJ h2;have hv:(D.toList[i]?).map (·.val)=some (ev' M[i].2):=by rw[hj,W];rfl
   have J:(D[i]?).map (·.val)=some (ev' M[i].2):=by simpa using hv
   simp[execOp,ex,X,gX,run_underlying ht,cA hb,S.check,f,J,W,al]) h
end
end
section
variable {α:Type} {enc:α->List Value} {size k:Nat} {vv:Value} {xs:List α}
def iM (enc:α->List Value) (size:Nat) (vv:Value) (k:Nat) (xs:List α):bG :=
  ⟨λC w=>(∀b,C b->b<w.heap.size)/\∀i x j v,k<=i->xs[i]?=some x->(enc x)[j]?=some v->C (eS vv)/\w.cell? ⟨eS vv,i*size+j,none⟩=some v,
   λh b hb=>h.1 b hb,
   λ{C w w'} h a hk=>⟨λb hb=>fx (h.1 b hb) a,λi x j v hi hx hv=>by
     obtain⟨h1,h2⟩:=h.2 i x j v hi hx hv;refine⟨h1,?_⟩;rw[<-h2];unfold World.cell?;simp only[hk _ h1]⟩⟩
theorem pF {e:TypeId} (hz:∀x,(enc x).length=size) {C:Nat->Prop} {w:World} (h:(vec enc e size vv xs).P C w):(iM enc size vv 0 xs).P C w:=by
 have hV:ji enc e size vv xs C w:=h;refine⟨(vec enc e size vv xs).lt h,λi x j v _ hx hv=>?_⟩;have hj:j<size:=by rw[<-hz x];exact (aq.1 hv).1
 refine⟨?_,hV.cellAt hz hx hj hv⟩;rcases hV.shape with⟨_,h2,_⟩|⟨g,cap,rfl,_⟩
 ·rw[h2] at hx;simp at hx
 ·rw[hV.2];rfl
variable {F:Fence} {P:Program} {w0:World} {K:Nat->Prop} {N:Nat} {dfs:List Deferred} {ops:Array Oper} {Q:Exit->Act->World->Prop} {rest:List Oper} {σ:List (Nat×Value)} {L RD:List bG} {v:Value}
 {d i:Nat} {t ty:TypeId} {pos:String} {aft:Array Edge} {g:Option (Nat×Bool)} {x:Operand}
variable (i) in
theorem km [bA F] (n j:Nat){off:Nat} (q:α) (hr:Rd w0 K RD) (hi:RD[i]?=some (iM enc size vv k xs)) (f:k<=n) (H:mW P t) (hg:gd ops σ g=some true) (hd:d<N) (hx:ev σ x=some (.pointer (some ⟨eS vv,off,none⟩))) (u:xs[n]?=some q) (D:off=n*size+j) (hv:(enc q)[j]?=some v) (h:TO F P w0 K N dfs ops Q rest ((d,v)::σ) L) : TO F P w0 K N dfs ops Q (⟨some d,.load t x,ty,pos,aft,g⟩::rest) σ L:=by
 subst D;obtain⟨dd,hu,r⟩:=H;refine kJ hg hd (by simp) (λa w ha l=>?_) h;obtain⟨C,J⟩:=hr.at l hi;have hc:=(J.2 n q j v f u hv).2;have h1:=ha.ev hx;cases dd<;>simp_all [execOp,lK,fq,loadVar,isAgg,al,run_underlying hu]
variable (i) in
theorem rz [bA F] (m j:Nat){off n:Nat} (q:α) (cs:List Value) (hr:Rd w0 K RD) (hi:RD[i]?=some (iM enc size vv k xs)) (r:k<=m) (X:qC P t n) (hg:gd ops σ g=some true) (hd:d<N) (hx:ev σ x=some (.pointer (some ⟨eS vv,off,none⟩))) (S:xs[m]?=some q) (W:off=m*size+j) (H:((enc q).drop j).take n=cs) (f:cs.length=n) (h:TO F P w0 K N dfs ops Q rest ((d,.agg cs.toArray)::σ) L):TO F P w0 K N dfs ops Q (⟨some d,.load t x,ty,pos,aft,g⟩::rest) σ L:=by
 subst W;subst f;obtain⟨dd,hu,l,D⟩:=X;refine kJ hg hd (by simp) (λa w ha J=>?_) h;obtain⟨C,Z⟩:=hr.at J hi;have hc:w.rangeAt (eS vv) (m*size+j) cs:=λn u f=>by
  rw[<-H] at f;rw[List.getElem?_take] at f;split at f
  ·rw[List.getElem?_drop] at f;have:=(Z.2 m q (j+n) u r S f).2;rwa [<-gZ] at this
  ·cases f
 simp only[execOp,ha.ev hx,al,run_loadAt_mid w _ _ t cs dd hc hu l D];rfl
end
section
variable {F:Fence} {P:Program} {w0:World} {K:Nat->Prop} {N:Nat} {dfs:List Deferred} {ops:Array Oper} {Q:Exit->Act->World->Prop} {rest:List Oper} {σ:List (Nat×Value)} {L:List bG} {c:Code} {ex:Exit} {k:Nat}
 {α η:Type} {enc:α×η->List Value} {nest:α×η->List bG} {t:TypeId} {p:Value} {m:Option α} {x:α}
theorem DB (enc:α×η->List Value) (nest:α×η->List bG) (t:TypeId) (h:TX w0 K N dfs Q ex σ (L++[kN enc nest t (.pointer none) none])):TX w0 K N dfs Q ex σ L:=λa w ha f=>
 h a w ha (f.grow (C':=λ_=>False) (fy _ _) (rY (A:=kN enc nest t (.pointer none) none) ⟨λ_ h=>h,rfl⟩))
theorem GI (h:m=some x):nN [kN enc nest t p m] (λa:Nat×η=>cells a.1 (enc (x,a.2)) t::nest (x,a.2)) (λa=>p=.pointer (some ⟨a.1,0,none⟩)):=λC w f=>by
 subst h;obtain⟨b,hd,h2,h3⟩:=mM.1 (aL.1 f);exact⟨(b,hd),h2,h3⟩
def Lp (p:Value) (m:Option α):Prop:=(m.isNone=true/\p=.pointer none)\/(m.isNone=false/\∃b,p=.pointer (some ⟨b,0,none⟩))
theorem Sg (hk:L[k]?=some (kN enc nest t p m)) (h:Lp p m->TO F P w0 K N dfs ops Q rest σ L):TO F P w0 K N dfs ops Q rest σ L:=λa w ha f=>by
 obtain⟨C1,h1,_⟩:=f.focus hk;refine h ?_ a w ha f;rcases Sf h1 with⟨rfl,h2⟩|⟨x,b,rfl,h2⟩
 ·exact .inl ⟨rfl,h2⟩
 ·exact .inr ⟨rfl,b,h2⟩
theorem Si {ty a:TypeId} {w:World} (ht:P.underlying ty=some (.pointer a)):(Op.equal ty (.pointer none) (.pointer none)).run P w=.ok true w:=by
 have h:∀d,(gk (d+1) ty (.pointer none) (.pointer none)).run P w=.ok true w:=λd=>by simp[gk,run_underlying ht]
 exact h 9999
theorem Sj {ty a:TypeId} {y z:Operand} (ht:P.underlying ty=some (.pointer a)) (hv:Lp p m) (w:World):(do eqGuard .eql ty y z p (.pointer none);binOp .eql ty p (.pointer none):Sem Value).run P w=.ok (.bool m.isNone) w:=by
 rcases hv with⟨h1,rfl⟩|⟨h1,b,rfl⟩
 ·rw[h1];simp[eqGuard,binOp,al,Si ht]
 ·rw[h1];exact Dq ht w
end
section
variable {F:Fence} {P:Program} {w0:World} {K:Nat->Prop} {N:Nat} {dfs:List Deferred} {ops:Array Oper} {Q:Exit->Act->World->Prop} {rest:List Oper} {σ σ':List (Nat×Value)} {L L' R As Bs:List bG} {o:Oper} {v:Value}
 {d:Nat} {t:TypeId} {op:Op} {ty:TypeId} {pos:String} {aft:Array Edge} {g:Option (Nat×Bool)} {x y z:Operand} {c c1 c2:Code} {k:Nat} {A B:bG} {RO:List (Nat×Obj)} {RD RD0:List bG}
section
variable {α β γ δ:Type}
end
end
theorem Lq {α:Type} {enc:α->List Value} {size k:Nat} {vv:Value} {xs:List α} {e:TypeId} (hz:∀x,(enc x).length=size) {C:Nat->Prop} {w:World} (h:(vec enc e size vv xs).P C w):(iM enc size vv k xs).P C w :=
 ⟨(pF hz h).1,λi x j v h1 h2 h3=>(pF hz h).2 i x j v (Nat.zero_le _) h2 h3⟩
theorem Rd.up {α:Type} {enc:α->List Value} {size k m:Nat} {vv:Value} {xs:List α} {w0:World} {K:Nat->Prop} {RD:List bG} {i:Nat} (hr:Rd w0 K RD) (hi:RD[i]?=some (iM enc size vv k xs)):Rd w0 K (RD++[iM enc size vv (k+m) xs]) :=
 hr.append λB hB=>by
  rw[bd] at hB;subst hB;obtain⟨C,h,hk⟩:=hr _ (aF hi);exact⟨C,⟨h.1,λi x j v h1 h2 h3=>h.2 i x j v z1 h2 h3⟩,hk⟩
structure Sk (α:Type) where
 vv:Value
 k:Nat
 L:List α
def nO {α:Type} (enc:α->List Value) (size:Nat) (hd:Hd) (xs:List α):bG :=
 Aa λb:{b:Sk α // Vw b.vv b.L size b.k hd.v xs}=>iM enc size b.1.vv b.1.k b.1.L
theorem GJ {α:Type} {enc:α->List Value} {size:Nat} {e:TypeId} {hd:Hd} {xs:List α} (a:∀x,(enc x).length=size) {C:Nat->Prop} {w:World} (h:(vec enc e size hd.v xs).P C w):(nO enc size hd xs).P C w :=
 ⟨⟨⟨hd.v,0,xs⟩,Lk h⟩,pF a h⟩
theorem Sm {α:Type} {enc:α->List Value} {size:Nat} {hd:Hd} {xs:List α} {vv:Value} {k:Nat} {L:List α} (hV:Vw vv L size k hd.v xs) {C:Nat->Prop} {w:World} (h:(iM enc size vv k L).P C w):(nO enc size hd xs).P C w :=
 ⟨⟨⟨vv,k,L⟩,hV⟩,h⟩
section
variable {α η:Type} {enc:α×η->List Value} {nest nestR:α×η->List bG} {e:TypeId} {size:Nat} {v:Value} {xs:List α} {zs:List (α×η)} {z:α×η}
def Sn (nestR:α×η->List bG) (zs:List (α×η)):bG :=
  ⟨λC w=>(∀k,C k->k<w.heap.size)/\∀z∈zs,∀A∈nestR z,∃D,A.P D w/\∀k,D k->C k,
   λh k hk=>h.1 k hk,
   λ{C w w'} h a hk=>⟨λk l=>fx (h.1 k l) a,λz hz A hA=>by
     obtain⟨D,h1,h2⟩:=h.2 z hz A hA;exact⟨D,A.loc h1 a (λk f=>hk k (h2 k f)),h2⟩⟩⟩
variable {w0:World} {K:Nat->Prop} {RD:List bG} {i j:Nat}
theorem Rd.openSl {β:Type} {_w:β->List Value} {hd:Hd} {ys:List β} (hr:Rd w0 K RD) (hi:RD[i]?=some (nO _w size hd ys)):∃vv k L,Vw vv L size k hd.v ys/\Rd w0 K (RD++[iM _w size vv k L]):=by
 obtain⟨C,⟨⟨⟨vv,k,L⟩,hV⟩,a⟩,hk⟩:=hr _ (aF hi);refine⟨vv,k,L,hV,hr.append λB hB=>?_⟩;rw[bd] at hB;subst hB;exact⟨C,a,hk⟩
end
section
variable {α η:Type} {nest:α×η->List bG} {zs ys:List (α×η)}
end
section
variable {F:Fence} {P:Program} {w0:World} {K:Nat->Prop} {N:Nat} {dfs:List Deferred} {Q:Exit->Act->World->Prop} {σ:List (Nat×Value)} {L:List bG} {c:Code} {k:Nat} {α η:Type} {enc:α×η->List Value} {nest:α×η->List bG} {t:TypeId} {p:Value} {m:Option α}
end
section
def bc (h:Hd):Nat:=match h.1 with
 |some a=>a.block
 |none=>0
abbrev pG:Type:=List (V×(List V×Hd))
def rA (z:List V×Hd):Value:=z.2.v
def So (z:List V×Hd):List bG:=[nO gK 1 z.2 z.1]
def p5 (L:pG):List (V×List V):=L.map λp=>(p.1,p.2.1)
abbrev rB (b:Nat) (L:pG):bG:=cH (λs:V=>ad s) rA b L
abbrev qY (L:pG):bG:=Sn So (L.map fv)
def dV (b:Nat) (M:List (V×List V)):bG:=Aa λL:{L:pG // p5 L=M}=>iR [rB b L.1,qY L.1]
theorem xX (k:V):∀ (L:pG),cf k (p5 L)=(cf k L).map bE
 |[]=>rfl
 |p::L=>by
  have a:=xX k L;show cf k ((p.1,p.2.1)::p5 L)=(cf k (p::L)).map bE;unfold cf;show (if k=p.1 then some p.2.1 else cf k (p5 L))=(if k=p.1 then some p.2 else cf k L).map bE
  split
  ·rfl
  ·exact a
theorem Lu (k:V) (xs:List V) (hd:Hd):∀ (L:pG),p5 (jm k (xs,hd) L)=jm k xs (p5 L)
 |[]=>rfl
 |p::L=>by
  have a:=Lu k xs hd L;show p5 (jm k (xs,hd) (p::L))=jm k xs ((p.1,p.2.1)::p5 L);unfold jm;show p5 (if k=p.1 then (k,(xs,hd))::L else p::jm k (xs,hd) L)=(if k=p.1 then (k,xs)::p5 L else (p.1,p.2.1)::jm k xs (p5 L))
  split
  ·rfl
  ·show (p.1,p.2.1)::p5 (jm k (xs,hd) L)=_;rw[a]
theorem Lv (k:V) (z:List V×Hd):∀ (L:pG),∀y∈(jm k z L).map fv,y=z\/y∈L.map fv
 |[],y,h=>.inl (by simpa [jm] using h)
 |p::L,y,h=>by
  have a:=Lv k z L;unfold jm at h;have h:y∈(if k=p.1 then (k,z)::L else p::jm k z L).map fv:=h
  split at h
  ·rcases bg.1 h with rfl|h
   ·exact .inl rfl
   ·exact .inr (ak _ h)
  ·rcases bg.1 h with rfl|h
   ·exact .inr (ar ..)
   ·exact (a y h).imp id (ak _)
theorem DC {κ ν:Type} [DecidableEq κ] (k:κ) (v:ν):∀ (L:List (κ×ν)),cf k L=some v->v∈L.map fv
 |[],h=>by cases h
 |p::L,h=>by
  unfold cf at h;have h:(if k=p.1 then some p.2 else cf k L)=some v:=h
  split at h
  ·cases h;exact ar ..
  ·exact ak _ (DC k v L h)
variable {b:Nat} {M:List (V×List V)} {L:pG}
theorem Lw:nN [dV b M] (λL:pG=>[rB b L,qY L]) (λL=>p5 L=M):=λC w h=>by
 obtain⟨⟨L,hL⟩,hz⟩:=aL.1 h;exact⟨L,hL,hz⟩
theorem Lx:nN [rB b []] (λ_:Unit=>[dV b []]) (λ_=>True):=λC w h=>by
 refine⟨(),trivial,aL.2 ⟨⟨[],rfl⟩,?_⟩⟩;have h1:=aL.1 h;exact Gv C (λ_=>False) h1 ⟨λk h=>h.elim,λz hz=>by simp at hz⟩ (λk a b=>b) (λk=>by simp)
theorem Ly (k:V) (xs:List V) (hd:Hd) (hL:p5 L=M):nN [rB b (jm k (xs,hd) L),qY L,nO gK 1 hd xs] (λ_:Unit=>[dV b (jm k xs M)]) (λ_=>True):=λC w h=>by
 obtain⟨C1,C2,h1,h2,h3,f⟩:=h;obtain⟨r,l,g1,g2,n,g4⟩:=h2;have g2:=aL.1 g2;refine⟨(),trivial,aL.2 ⟨⟨jm k (xs,hd) L,by rw[Lu,hL]⟩,?_⟩⟩;refine Gv C1 C2 h1 ⟨λq a=>?_,λz hz A hA=>?_⟩ h3 f
 ·rcases (g4 q).1 a with h|h
  ·exact (qY L).lt g1 q h
  ·exact (nO gK 1 hd xs).lt g2 q h
 ·rcases Lv k (xs,hd) L z hz with rfl|hz
  ·have hA:A=nO gK 1 hd xs:=bd.1 hA;subst hA;exact⟨l,g2,λq a=>(g4 q).2 (.inr a)⟩
  ·obtain⟨D,d1,d2⟩:=g1.2 z hz A hA;exact⟨D,d1,λq a=>(g4 q).2 (.inl (d2 q a))⟩
theorem Rd.fors {w0:World} {K:Nat->Prop} {RD:List bG} {i:Nat} (hr:Rd w0 K RD) (hi:RD[i]?=some (dV b M)):∃L:pG,p5 L=M/\Rd w0 K (RD++[rB b L,qY L]):=by
 obtain⟨C,⟨⟨L,hL⟩,hz⟩,hk⟩:=hr _ (aF hi);obtain⟨C1,C2,h1,h2,h3,a⟩:=KZ hz;refine⟨L,hL,hr.append λB hB=>?_⟩;rcases bg.1 hB with rfl|hB
 ·exact⟨C1,h1,λk h=>hk k ((a k).2 (.inl h))⟩
 ·rw[bd] at hB;subst hB;exact⟨C2,h2,λk h=>hk k ((a k).2 (.inr h))⟩
theorem Rd.forsGet {w0:World} {K:Nat->Prop} {RD:List bG} {i:Nat} {k:V} {xs:List V} {hd:Hd} (hr:Rd w0 K RD) (hi:RD[i]?=some (qY L)) (hg:cf k L=some (xs,hd)):Rd w0 K (RD++[nO gK 1 hd xs]) :=
 hr.more hi λC a B hB=>a.2 _ (DC k _ L hg) B hB
section
variable {F:Fence} {P:Program} {w0:World} {K:Nat->Prop} {N:Nat} {dfs:List Deferred} {ops:Array Oper} {Q:Exit->Act->World->Prop} {rest:List Oper} {σ:List (Nat×Value)} {LL RD:List bG}
 {d:Nat} {ty:TypeId} {pos:String} {aft:Array Edge} {g:Option (Nat×Bool)} {x y z:Operand} {i:Nat} {mt kt et:TypeId}
theorem Lz [bA F] (kk:V) (u:P.underlying kt=some .string) (ht:P.underlying mt=some (.map kt et)) (n:(P.info? et).bind (λi=>i.zero)=some (.slice none 0 0)) (hg:gd ops σ g=some true) (hd:d<N) (hx:ev σ x=some (.map (some b))) (hy:ev σ y=some (.string kk)) (hr:Rd w0 K RD) (hi:RD[i]?=some (dV b M)) (h:∀hd:Hd,(∀xs,cf kk M=some xs->Rd w0 K (RD++[nO gK 1 hd xs]))->TO F P w0 K N dfs ops Q rest ((d,.tuple #[hd.v,.bool (cf kk M).isSome])::σ) LL) : TO F P w0 K N dfs ops Q (⟨some d,.lookup mt x y true,ty,pos,aft,g⟩::rest) σ LL:=by
 obtain⟨L,hL,l⟩:=hr.fors hi;have hb:((cf kk L).getD ([],fe)).2.v=rA ((cf kk L).getD ([],fe)):=rfl;refine DA RD.length _ rA _ ([],fe) (M:=L) (ou u) ht n hg hd hx hy l (by simp) ?_;have h1:=h ((cf kk L).getD ([],fe)).2 (λxs a=>by
  rw[<-hL,xX] at a;cases f:cf kk L with
  |none=>rw[f] at a;cases a
  |some q=>
   rw[f] at a;have:q.1=xs:=kV a;subst this;have h2:=l.forsGet (i:=RD.length+1) (k:=kk) (xs:=q.1) (hd:=q.2) (by simp) f;refine hr.append λB hB=>?_;rw[bd] at hB;subst hB;exact h2 _ (by simp))
 rw[<-hL,xX,hb] at h1;cases r:cf kk L with
 |none=>rw[r] at h1;exact h1
 |some q=>rw[r] at h1;exact h1
end
end
section
open Go.Shelf
theorem ed:mW prog 3:=⟨_,underlying3,rfl⟩
theorem gL:bI prog 3 1:=by unfold bI;as_aux_lemma=>kernel_rfl
theorem xY:cC prog 3 [.int .i64 0]:=by unfold cC;as_aux_lemma=>kernel_rfl
theorem Sp:eh prog 3 1:=fT kr
theorem sW:mW prog 4:=⟨_,underlying4,rfl⟩
theorem qq:bI prog 4 1:=by unfold bI;as_aux_lemma=>kernel_rfl
theorem GK:cC prog 4 [.bool false]:=by unfold cC;as_aux_lemma=>kernel_rfl
theorem GL:mW prog 5:=⟨_,underlying5,rfl⟩
theorem DD:bI prog 5 1:=by unfold bI;as_aux_lemma=>kernel_rfl
theorem Sq:cC prog 5 [.int .u8 0]:=by unfold cC;as_aux_lemma=>kernel_rfl
theorem Sr:eh prog 5 1:=fT kr
theorem vA:mJ prog 5:=mJ.mk' kr
theorem eJ:mW prog 9:=⟨_,underlying9,rfl⟩
theorem gV:bI prog 9 1:=by unfold bI;as_aux_lemma=>kernel_rfl
theorem GM:cC prog 9 [.string af]:=by unfold cC;as_aux_lemma=>kernel_rfl
theorem oR:eh prog 9 1:=fT kr
theorem fU:mW prog 21:=⟨_,underlying21,rfl⟩
theorem mN:bI prog 21 1:=by unfold bI;as_aux_lemma=>kernel_rfl
theorem vB:eh prog 21 1:=fT kr
theorem oS:mW prog 22:=⟨_,underlying22,rfl⟩
theorem uz:bI prog 22 1:=by unfold bI;as_aux_lemma=>kernel_rfl
theorem qF:mW prog 24:=⟨_,underlying24,rfl⟩
theorem DE:bI prog 24 1:=by unfold bI;as_aux_lemma=>kernel_rfl
theorem LA:cC prog 24 [.pointer none]:=by unfold cC;as_aux_lemma=>kernel_rfl
theorem GN:mW prog 36:=⟨_,underlying36,rfl⟩
theorem my:qC prog 38 2:=⟨_,underlying38,rfl,by as_aux_lemma=>kernel_rfl⟩
theorem GO:kE prog 38 0 0:=⟨_,_,underlying38,rfl,rfl,by as_aux_lemma=>kernel_rfl⟩
theorem lR:bI prog 38 2:=by unfold bI;as_aux_lemma=>kernel_rfl
theorem uA:cC prog 38 [.int .i64 0,.int .i64 0]:=by unfold cC;as_aux_lemma=>kernel_rfl
theorem xZ:kE prog 48 0 0:=⟨_,_,mr,rfl,rfl,by as_aux_lemma=>kernel_rfl⟩
theorem DF:kE prog 48 1 1:=⟨_,_,mr,rfl,rfl,by as_aux_lemma=>kernel_rfl⟩
theorem LB:kE prog 48 2 2:=⟨_,_,mr,rfl,rfl,by as_aux_lemma=>kernel_rfl⟩
theorem GP:kE prog 48 3 3:=⟨_,_,mr,rfl,rfl,by as_aux_lemma=>kernel_rfl⟩
theorem GQ:kE prog 48 4 4:=⟨_,_,mr,rfl,rfl,by as_aux_lemma=>kernel_rfl⟩
theorem ph:bI prog 48 5:=by unfold bI;as_aux_lemma=>kernel_rfl
theorem x0:eh prog 48 5:=fT kr
theorem x8:mW prog 57:=⟨_,underlying57,rfl⟩
theorem LC:bI prog 57 1:=by unfold bI;as_aux_lemma=>kernel_rfl
theorem Ss:cC prog 57 [.slice none 0 0]:=by unfold cC;as_aux_lemma=>kernel_rfl
theorem qZ:qC prog 61 5:=⟨_,kp,rfl,by as_aux_lemma=>kernel_rfl⟩
theorem GR:kE prog 61 0 0:=⟨_,_,kp,rfl,rfl,by as_aux_lemma=>kernel_rfl⟩
theorem GS:kE prog 61 1 1:=⟨_,_,kp,rfl,rfl,by as_aux_lemma=>kernel_rfl⟩
theorem DG:kE prog 61 2 2:=⟨_,_,kp,rfl,rfl,by as_aux_lemma=>kernel_rfl⟩
theorem GT:kE prog 61 3 3:=⟨_,_,kp,rfl,rfl,by as_aux_lemma=>kernel_rfl⟩
theorem LD:kE prog 61 4 4:=⟨_,_,kp,rfl,rfl,by as_aux_lemma=>kernel_rfl⟩
theorem qG:bI prog 61 5:=by unfold bI;as_aux_lemma=>kernel_rfl
theorem wH:cC prog 61 [.int .i64 0,.int .i64 0,.string af,.string af,.int .i64 0]:=by unfold cC;as_aux_lemma=>kernel_rfl
theorem LF:eh prog 61 5:=fT kr
theorem Su:qC prog 62 3:=⟨_,underlying62,rfl,by as_aux_lemma=>kernel_rfl⟩
theorem Sv:bI prog 62 3:=by unfold bI;as_aux_lemma=>kernel_rfl
theorem Sw:cC prog 62 [.nilFunc,.nilFunc,.nilFunc]:=by unfold cC;as_aux_lemma=>kernel_rfl
theorem ya:mW prog 65:=⟨_,underlying65,rfl⟩
theorem yb:mW prog 66:=⟨_,underlying66,rfl⟩
theorem tK:mW prog 67:=⟨_,underlying67,rfl⟩
theorem yc:kE prog 69 0 0:=⟨_,_,mu,rfl,rfl,by as_aux_lemma=>kernel_rfl⟩
theorem yd:kE prog 69 1 1:=⟨_,_,mu,rfl,rfl,by as_aux_lemma=>kernel_rfl⟩
theorem GU:kE prog 69 2 2:=⟨_,_,mu,rfl,rfl,by as_aux_lemma=>kernel_rfl⟩
theorem tL:kE prog 69 3 3:=⟨_,_,mu,rfl,rfl,by as_aux_lemma=>kernel_rfl⟩
theorem An:kE prog 69 4 4:=⟨_,_,mu,rfl,rfl,by as_aux_lemma=>kernel_rfl⟩
theorem nC:qC prog 79 3:=⟨_,pA,rfl,by as_aux_lemma=>kernel_rfl⟩
theorem kx:kE prog 79 0 0:=⟨_,_,pA,rfl,rfl,by as_aux_lemma=>kernel_rfl⟩
theorem sZ:kE prog 79 1 1:=⟨_,_,pA,rfl,rfl,by as_aux_lemma=>kernel_rfl⟩
theorem Sx:kE prog 79 2 2:=⟨_,_,pA,rfl,rfl,by as_aux_lemma=>kernel_rfl⟩
theorem iN:bI prog 79 3:=by unfold bI;as_aux_lemma=>kernel_rfl
theorem sx:cC prog 79 [.int .i32 0,.string af,.int .i64 0]:=by unfold cC;as_aux_lemma=>kernel_rfl
theorem vC:eh prog 79 3:=fT kr
theorem ye:kE prog 86 0 0:=⟨_,_,pB,rfl,rfl,by as_aux_lemma=>kernel_rfl⟩
theorem GV:kE prog 86 1 1:=⟨_,_,pB,rfl,rfl,by as_aux_lemma=>kernel_rfl⟩
theorem DH:kE prog 86 2 2:=⟨_,_,pB,rfl,rfl,by as_aux_lemma=>kernel_rfl⟩
theorem Ao:kE prog 86 3 3:=⟨_,_,pB,rfl,rfl,by as_aux_lemma=>kernel_rfl⟩
theorem yf:mW prog 89:=⟨_,underlying89,rfl⟩
theorem LG:bI prog 89 1:=by unfold bI;as_aux_lemma=>kernel_rfl
theorem Sy:qC prog 94 2:=⟨_,vg,rfl,by as_aux_lemma=>kernel_rfl⟩
theorem vD:kE prog 94 0 0:=⟨_,_,vg,rfl,rfl,by as_aux_lemma=>kernel_rfl⟩
theorem yg:kE prog 94 1 1:=⟨_,_,vg,rfl,rfl,by as_aux_lemma=>kernel_rfl⟩
theorem ra:bI prog 94 2:=by unfold bI;as_aux_lemma=>kernel_rfl
theorem Sz:cC prog 94 [.int .i64 0,.string af]:=by unfold cC;as_aux_lemma=>kernel_rfl
theorem SA:eh prog 94 2:=fT kr
theorem LH:mW prog 99:=⟨_,underlying99,rfl⟩
theorem SB:bI prog 99 1:=by unfold bI;as_aux_lemma=>kernel_rfl
theorem nm:qC prog 102 4:=⟨_,lr,rfl,by as_aux_lemma=>kernel_rfl⟩
theorem nD:kE prog 102 0 0:=⟨_,_,lr,rfl,rfl,by as_aux_lemma=>kernel_rfl⟩
theorem s6:kE prog 102 1 1:=⟨_,_,lr,rfl,rfl,by as_aux_lemma=>kernel_rfl⟩
theorem sy:kE prog 102 2 2:=⟨_,_,lr,rfl,rfl,by as_aux_lemma=>kernel_rfl⟩
theorem DI:kE prog 102 3 3:=⟨_,_,lr,rfl,rfl,by as_aux_lemma=>kernel_rfl⟩
theorem mg:bI prog 102 4:=by unfold bI;as_aux_lemma=>kernel_rfl
theorem rb:cC prog 102 [.int .i64 0,.int .i64 0,.int .i32 0,.bool false]:=by unfold cC;as_aux_lemma=>kernel_rfl
theorem LK:eh prog 102 4:=fT kr
theorem SC:mW prog 110:=⟨_,underlying110,rfl⟩
theorem Aq:mW prog 111:=⟨_,underlying111,rfl⟩
theorem LN:bI prog 111 1:=by unfold bI;as_aux_lemma=>kernel_rfl
theorem LO:cC prog 111 [.map none]:=by unfold cC;as_aux_lemma=>kernel_rfl
theorem DJ:mW prog 112:=⟨_,underlying112,rfl⟩
theorem LP:bI prog 112 1:=by unfold bI;as_aux_lemma=>kernel_rfl
theorem LQ:cC prog 112 [.map none]:=by unfold cC;as_aux_lemma=>kernel_rfl
theorem wI:mW prog 116:=⟨_,underlying116,rfl⟩
theorem LR:bI prog 116 1:=by unfold bI;as_aux_lemma=>kernel_rfl
theorem SD:cC prog 116 [.slice none 0 0]:=by unfold cC;as_aux_lemma=>kernel_rfl
theorem s7:qC prog 119 5:=⟨_,lu,rfl,by as_aux_lemma=>kernel_rfl⟩
theorem GW:kE prog 119 1 1:=⟨_,_,lu,rfl,rfl,by as_aux_lemma=>kernel_rfl⟩
theorem qH:kE prog 119 2 2:=⟨_,_,lu,rfl,rfl,by as_aux_lemma=>kernel_rfl⟩
theorem DK:kE prog 119 3 3:=⟨_,_,lu,rfl,rfl,by as_aux_lemma=>kernel_rfl⟩
theorem DL:kE prog 119 4 4:=⟨_,_,lu,rfl,rfl,by as_aux_lemma=>kernel_rfl⟩
theorem uB:bI prog 119 5:=by unfold bI;as_aux_lemma=>kernel_rfl
theorem DM:cC prog 119 [.int .i64 0,.int .u8 0,.int .i32 0,.slice none 0 0,.slice none 0 0]:=by unfold cC;as_aux_lemma=>kernel_rfl
theorem LS:eh prog 119 5:=fT kr
theorem SE:qC prog 122 2:=⟨_,underlying122,rfl,by as_aux_lemma=>kernel_rfl⟩
theorem LU:bI prog 122 2:=by unfold bI;as_aux_lemma=>kernel_rfl
theorem SF:cC prog 122 [.int .i32 0,.int .i32 0]:=by unfold cC;as_aux_lemma=>kernel_rfl
theorem Au:qC prog 123 2:=⟨_,underlying123,rfl,by as_aux_lemma=>kernel_rfl⟩
theorem LV:bI prog 123 2:=by unfold bI;as_aux_lemma=>kernel_rfl
theorem GX:cC prog 123 [.int .i32 0,.int .i32 0]:=by unfold cC;as_aux_lemma=>kernel_rfl
theorem uC:kE prog 126 0 0:=⟨_,_,underlying126,rfl,rfl,by as_aux_lemma=>kernel_rfl⟩
theorem GY:kE prog 126 1 1:=⟨_,_,underlying126,rfl,rfl,by as_aux_lemma=>kernel_rfl⟩
theorem sA:bI prog 126 2:=by unfold bI;as_aux_lemma=>kernel_rfl
theorem LW:eh prog 126 2:=fT kr
theorem GZ:mW prog 154:=⟨_,underlying154,rfl⟩
theorem LY:bI prog 154 1:=by unfold bI;as_aux_lemma=>kernel_rfl
theorem SG:cC prog 154 [.slice none 0 0]:=by unfold cC;as_aux_lemma=>kernel_rfl
theorem SH:cC prog 156 [.pointer none,.slice none 0 0]:=by unfold cC;as_aux_lemma=>kernel_rfl
theorem LZ:qC prog 166 3:=⟨_,underlying166,rfl,by as_aux_lemma=>kernel_rfl⟩
theorem DN:bI prog 166 3:=by unfold bI;as_aux_lemma=>kernel_rfl
theorem L0:cC prog 166 [.string af,.string af,.string af]:=by unfold cC;as_aux_lemma=>kernel_rfl
theorem SI:bI prog 167 2:=by unfold bI;as_aux_lemma=>kernel_rfl
theorem SJ:cC prog 167 [.bool false,.bool false]:=by unfold cC;as_aux_lemma=>kernel_rfl
abbrev dP (n:Nat):Prop:=∀args w,(callFunc n args).run prog w=.ok (.enter n args) w
theorem L3:dP 4:=enters_of func4 kr rfl
theorem SK:dP 5:=enters_of func5 kr rfl
theorem L4:dP 6:=enters_of func6 kr rfl
theorem SL:dP 7:=enters_of func7 kr rfl
theorem SM:dP 8:=enters_of func8 kr rfl
theorem G0:dP 9:=enters_of func9 kr rfl
theorem G1:dP 10:=enters_of func10 kr rfl
theorem G2:dP 11:=enters_of func11 kr rfl
theorem SN:dP 12:=enters_of func12 kr rfl
theorem L5:dP 13:=enters_of func13 kr rfl
theorem SO:dP 14:=enters_of func14 kr rfl
theorem DO:dP 15:=enters_of func15 kr rfl
theorem L6:dP 16:=enters_of func16 kr rfl
theorem DP:dP 17:=enters_of func17 kr rfl
theorem yh:dP 18:=enters_of func18 kr rfl
theorem SP:dP 19:=enters_of func19 kr rfl
theorem SQ:dP 20:=enters_of func20 kr rfl
theorem SR:dP 21:=enters_of func21 kr rfl
theorem SU:dP 22:=enters_of func22 kr rfl
theorem G3:dP 23:=enters_of func23 kr rfl
theorem SV:dP 24:=enters_of func24 kr rfl
theorem SW:dP 25:=enters_of func25 kr rfl
theorem SX:dP 26:=enters_of func26 kr rfl
theorem G4:dP 27:=enters_of func27 kr rfl
theorem G5:dP 28:=enters_of func28 kr rfl
theorem SY:dP 29:=enters_of func29 kr rfl
theorem L7:dP 30:=enters_of func30 kr rfl
theorem SZ:dP 31:=enters_of func31 kr rfl
theorem S3:dP 32:=enters_of func32 kr rfl
theorem S4:dP 33:=enters_of func33 kr rfl
theorem S5:dP 34:=enters_of func34 kr rfl
theorem yi:dP 35:=enters_of func35 kr rfl
theorem L8:dP 36:=enters_of func36 kr rfl
theorem S6:dP 37:=enters_of func37 kr rfl
theorem S7:dP 38:=enters_of func38 kr rfl
theorem S8:dP 39:=enters_of func39 kr rfl
theorem DQ:dP 40:=enters_of func40 kr rfl
theorem DR:dP 41:=enters_of func41 kr rfl
theorem Av:dP 42:=enters_of func42 kr rfl
theorem L9:dP 43:=enters_of func43 kr rfl
theorem Aw:dP 44:=enters_of func44 kr rfl
theorem S9:dP 45:=enters_of func45 kr rfl
theorem Tb:dP 47:=enters_of func47 kr rfl
theorem Tc:dP 48:=enters_of func48 kr rfl
theorem Ma:dP 49:=enters_of func49 kr rfl
theorem Mb:dP 50:=enters_of func50 kr rfl
theorem Td:dP 51:=enters_of func51 kr rfl
theorem Te:dP 52:=enters_of func52 kr rfl
theorem Tf:dP 53:=enters_of func53 kr rfl
theorem tM:dP 54:=enters_of func54 kr rfl
theorem Tg:dP 55:=enters_of func55 kr rfl
theorem Th:dP 56:=enters_of func56 kr rfl
theorem Md:dP 57:=enters_of func57 kr rfl
theorem Ti:dP 58:=enters_of func58 kr rfl
theorem G6:dP 59:=enters_of func59 kr rfl
theorem Tj:dP 60:=enters_of func60 kr rfl
theorem yj:dP 61:=enters_of func61 kr rfl
theorem Tm:dP 62:=enters_of func62 kr rfl
theorem Tn:dP 63:=enters_of func63 kr rfl
theorem Me:dP 64:=enters_of func64 kr rfl
theorem To:dP 65:=enters_of func65 kr rfl
theorem Tp:dP 66:=enters_of func66 kr rfl
theorem Tq:dP 67:=enters_of func67 kr rfl
theorem Tr:dP 68:=enters_of func68 kr rfl
theorem Ts:dP 69:=enters_of func69 kr rfl
theorem G7:dP 70:=enters_of func70 kr rfl
theorem G8:dP 71:=enters_of func71 kr rfl
theorem G9:dP 72:=enters_of func72 kr rfl
theorem Tt:dP 73:=enters_of func73 kr rfl
theorem DS:dP 74:=enters_of func74 kr rfl
theorem Mf:dP 75:=enters_of func75 kr rfl
theorem Ha:dP 76:=enters_of func76 kr rfl
theorem Tu:dP 77:=enters_of func77 kr rfl
theorem Tv:dP 78:=enters_of func78 kr rfl
theorem Mg:dP 79:=enters_of func79 kr rfl
theorem Mh:dP 80:=enters_of func80 kr rfl
theorem DT:dP 81:=enters_of func81 kr rfl
theorem Tw:dP 82:=enters_of func82 kr rfl
theorem Mi:dP 83:=enters_of func83 kr rfl
theorem Hb:dP 84:=enters_of func84 kr rfl
theorem Hc:dP 85:=enters_of func85 kr rfl
theorem He:dP 86:=enters_of func86 kr rfl
theorem Ax:dP 88:=enters_of func88 kr rfl
theorem Tx:dP 89:=enters_of func89 kr rfl
theorem Ty:dP 90:=enters_of func90 kr rfl
theorem Hf:dP 96:=enters_of func96 kr rfl
theorem Tz:dP 97:=enters_of func97 kr rfl
theorem TA:dP 98:=enters_of func98 kr rfl
theorem TB:dP 99:=enters_of func99 kr rfl
theorem TD:dP 100:=enters_of func100 kr rfl
theorem TE:dP 101:=enters_of func101 kr rfl
theorem Ay:dP 102:=enters_of func102 kr rfl
theorem Mj:dP 103:=enters_of func103 kr rfl
theorem TF:dP 104:=enters_of func104 kr rfl
theorem TG:dP 107:=enters_of func107 kr rfl
theorem TH:dP 108:=enters_of func108 kr rfl
theorem Hg:dP 109:=enters_of func109 kr rfl
theorem DU:dP 110:=enters_of func110 kr rfl
theorem Mk:dP 111:=enters_of func111 kr rfl
theorem TI:dP 112:=enters_of func112 kr rfl
theorem Mn:dP 113:=enters_of func113 kr rfl
theorem TJ:dP 114:=enters_of func114 kr rfl
theorem TK:dP 116:=enters_of func116 kr rfl
theorem Mo:dP 117:=enters_of func117 kr rfl
theorem Mr:dP 118:=enters_of func118 kr rfl
theorem TL:dP 119:=enters_of func119 kr rfl
theorem Az:dP 120:=enters_of func120 kr rfl
theorem Hh:dP 121:=enters_of func121 kr rfl
theorem Mt:dP 122:=enters_of func122 kr rfl
theorem TM:dP 123:=enters_of func123 kr rfl
theorem Mu:dP 124:=enters_of func124 kr rfl
theorem TN:dP 125:=enters_of func125 kr rfl
theorem TP:dP 126:=enters_of func126 kr rfl
theorem TQ:dP 127:=enters_of func127 kr rfl
theorem TS:dP 128:=enters_of func128 kr rfl
theorem Mv:dP 131:=enters_of func131 kr rfl
theorem yk:dP 132:=enters_of func132 kr rfl
theorem AA:dP 135:=enters_of func135 kr rfl
theorem TU:dP 136:=enters_of func136 kr rfl
theorem TV:dP 138:=enters_of func138 kr rfl
theorem TW:dP 141:=enters_of func141 kr rfl
theorem TY:dP 142:=enters_of func142 kr rfl
theorem TZ:dP 144:=enters_of func144 kr rfl
theorem DV:dP 145:=enters_of func145 kr rfl
theorem T0:dP 146:=enters_of func146 kr rfl
theorem Hi:dP 147:=enters_of func147 kr rfl
theorem T1:dP 148:=enters_of func148 kr rfl
theorem T2:dP 155:=enters_of func155 kr rfl
theorem AB:dP 157:=enters_of func157 kr rfl
theorem Hj:dP 158:=enters_of func158 kr rfl
theorem mixed:prog.follows .mixedOrders=true:=by as_aux_lemma=>kernel_rfl
end
@[ext] structure de where
 Err:Int
 At:Int
def yl (a b:de):Bool:=(a.Err==b.Err)&&(a.At==b.At)
theorem T3 (a b:de):yl a b=true↔a=b:=by
 rcases a with⟨a0,a1⟩;rcases b with⟨b0,b1⟩;simp[yl,aN,and_assoc]
instance:DecidableEq de:=λa b=>decidable_of_iff _ (T3 a b)
@[ext] structure cZ where
 Sort_:Int
 Digits:V
 Place:Int
 Marks:V
 Great:Bool
def AC (x:cZ):List Value:=[.int .i64 x.Sort_,.string x.Digits,.int .i64 x.Place,.string x.Marks,.bool x.Great]
theorem nn (x:cZ):(AC x).length=5:=rfl
theorem ym (x:cZ):∀u∈AC x,u.oneCell'=true:=by
 intro u hu;simp only[AC,bg,dJ,or_false] at hu;rcases hu with rfl|rfl|rfl|rfl|rfl<;>rfl
def Mw (a b:cZ):Bool:=(a.Sort_==b.Sort_)&&decide (a.Digits=b.Digits)&&(a.Place==b.Place)&&decide (a.Marks=b.Marks)&&(a.Great==b.Great)
theorem T4 (a b:cZ):Mw a b=true↔a=b:=by
 rcases a with⟨a0,a1,r,q,n⟩;rcases b with⟨b0,b1,l,h,f⟩;simp[Mw,aN,and_assoc]
instance:DecidableEq cZ:=λa b=>decidable_of_iff _ (T4 a b)
@[ext] structure dS where
 sort:Int
 place:Int
 digits:V
 marks:V
 great:Int
def s8 (x:dS):List Value:=[.int .i64 x.sort,.int .i64 x.place,.string x.digits,.string x.marks,.int .i64 x.great]
theorem tN (x:dS):(s8 x).length=5:=rfl
theorem Mx (x:dS):∀u∈s8 x,u.oneCell'=true:=by
 intro u hu;simp only[s8,bg,dJ,or_false] at hu;rcases hu with rfl|rfl|rfl|rfl|rfl<;>rfl
def My (a b:dS):Bool:=(a.sort==b.sort)&&(a.place==b.place)&&decide (a.digits=b.digits)&&decide (a.marks=b.marks)&&(a.great==b.great)
theorem T5 (a b:dS):My a b=true↔a=b:=by
 rcases a with⟨a0,a1,r,q,n⟩;rcases b with⟨b0,b1,l,h,f⟩;simp[My,aN,and_assoc]
instance:DecidableEq dS:=λa b=>decidable_of_iff _ (T5 a b)
@[ext] structure cd where
 Rune:Int
 Text:V
 At:Int
def qI (x:cd):List Value:=[.int .i32 x.Rune,.string x.Text,.int .i64 x.At]
theorem kO (x:cd):(qI x).length=3:=rfl
theorem vE (x:cd):∀u∈qI x,u.oneCell'=true:=by
 intro u hu;simp only[qI,bg,dJ,or_false] at hu;rcases hu with rfl|rfl|rfl<;>rfl
def Mz (a b:cd):Bool:=(a.Rune==b.Rune)&&decide (a.Text=b.Text)&&(a.At==b.At)
theorem T6 (a b:cd):Mz a b=true↔a=b:=by
 rcases a with⟨a0,a1,h⟩;rcases b with⟨b0,b1,f⟩;simp[Mz,aN,and_assoc]
instance:DecidableEq cd:=λa b=>decidable_of_iff _ (T6 a b)
@[ext] structure iA where
 at_:Int
 text:V
def wJ (x:iA):List Value:=[.int .i64 x.at_,.string x.text]
theorem DW (x:iA):(wJ x).length=2:=rfl
theorem T7 (x:iA):∀u∈wJ x,u.oneCell'=true:=by
 intro u hu;simp only[wJ,bg,dJ,or_false] at hu;rcases hu with rfl|rfl<;>rfl
def MA (a b:iA):Bool:=(a.at_==b.at_)&&decide (a.text=b.text)
theorem T8 (a b:iA):MA a b=true↔a=b:=by
 rcases a with⟨a0,a1⟩;rcases b with⟨b0,b1⟩;simp[MA,aN,and_assoc]
instance:DecidableEq iA:=λa b=>decidable_of_iff _ (T8 a b)
@[ext] structure dq where
 At:Int
 Width:Int
 Rune:Int
 Broken:Bool
def qs (x:dq):List Value:=[.int .i64 x.At,.int .i64 x.Width,.int .i32 x.Rune,.bool x.Broken]
theorem DX (x:dq):(qs x).length=4:=rfl
theorem MB (x:dq):∀u∈qs x,u.oneCell'=true:=by
 intro u hu;simp only[qs,bg,dJ,or_false] at hu;rcases hu with rfl|rfl|rfl|rfl<;>rfl
def MC (a b:dq):Bool:=(a.At==b.At)&&(a.Width==b.Width)&&(a.Rune==b.Rune)&&(a.Broken==b.Broken)
theorem T9 (a b:dq):MC a b=true↔a=b:=by
 rcases a with⟨a0,a1,n,l⟩;rcases b with⟨b0,b1,h,f⟩;simp[MC,aN,and_assoc]
instance:DecidableEq dq:=λa b=>decidable_of_iff _ (T9 a b)
@[ext] structure lm where
 e0:Int
 e1:Int
def Hk (x:lm):List Value:=[.int .i32 x.e0,.int .i32 x.e1]
theorem MD (x:lm):(Hk x).length=2:=rfl
def ME (a b:lm):Bool:=(a.e0==b.e0)&&(a.e1==b.e1)
theorem Ub (a b:lm):ME a b=true↔a=b:=by
 rcases a with⟨a0,a1⟩;rcases b with⟨b0,b1⟩;simp[ME,aN,and_assoc]
instance:DecidableEq lm:=λa b=>decidable_of_iff _ (Ub a b)
@[ext] structure cM where
 e0:Int
 e1:Int
def MF (a b:cM):Bool:=(a.e0==b.e0)&&(a.e1==b.e1)
theorem Uc (a b:cM):MF a b=true↔a=b:=by
 rcases a with⟨a0,a1⟩;rcases b with⟨b0,b1⟩;simp[MF,aN,and_assoc]
instance:DecidableEq cM:=λa b=>decidable_of_iff _ (Uc a b)
@[ext] structure iO where
 at_:Int
 text:V
def yn (x:iO):List Value:=[.int .i64 x.at_,.string x.text]
theorem Hl (x:iO):(yn x).length=2:=rfl
theorem MG (x:iO):∀u∈yn x,u.oneCell'=true:=by
 intro u hu;simp only[yn,bg,dJ,or_false] at hu;rcases hu with rfl|rfl<;>rfl
def MH (a b:iO):Bool:=(a.at_==b.at_)&&decide (a.text=b.text)
theorem Ud (a b:iO):MH a b=true↔a=b:=by
 rcases a with⟨a0,a1⟩;rcases b with⟨b0,b1⟩;simp[MH,aN,and_assoc]
instance:DecidableEq iO:=λa b=>decidable_of_iff _ (Ud a b)
@[ext] structure iT where
 e0:V
 e1:V
 e2:V
def MI (x:iT):List Value:=[.string x.e0,.string x.e1,.string x.e2]
theorem Hm (x:iT):(MI x).length=3:=rfl
def MJ (a b:iT):Bool:=decide (a.e0=b.e0)&&decide (a.e1=b.e1)&&decide (a.e2=b.e2)
theorem Ue (a b:iT):MJ a b=true↔a=b:=by
 rcases a with⟨a0,a1,h⟩;rcases b with⟨b0,b1,f⟩;simp[MJ,aN,and_assoc]
instance:DecidableEq iT:=λa b=>decidable_of_iff _ (Ue a b)
@[ext] structure Hn where
 e0:Bool
 e1:Bool
def MK (a b:Hn):Bool:=(a.e0==b.e0)&&(a.e1==b.e1)
theorem Uf (a b:Hn):MK a b=true↔a=b:=by
 rcases a with⟨a0,a1⟩;rcases b with⟨b0,b1⟩;simp[MK,aN,and_assoc]
instance:DecidableEq Hn:=λa b=>decidable_of_iff _ (Uf a b)
@[ext] structure zEs where
 e0_0:Int
 e0_1:Int
 e1_0:Int
 e1_1:Int
 e2_0:Int
 e2_1:Int
 e3_0:Int
 e3_1:Int
 e4_0:Int
 e4_1:Int
 e5_0:Int
 e5_1:Int
 e6_0:Int
 e6_1:Int
 e7_0:Int
 e7_1:Int
@[ext] structure zt1 where
 e0_lo:Int
 e0_hi:Int
 e1_lo:Int
 e1_hi:Int
 e2_lo:Int
 e2_hi:Int
 e3_lo:Int
 e3_hi:Int
 e4_lo:Int
 e4_hi:Int
 e5_lo:Int
 e5_hi:Int
 e6_lo:Int
 e6_hi:Int
 e7_lo:Int
 e7_hi:Int
 e8_lo:Int
 e8_hi:Int
 e9_lo:Int
 e9_hi:Int
 e10_lo:Int
 e10_hi:Int
 e11_lo:Int
 e11_hi:Int
 e12_lo:Int
 e12_hi:Int
 e13_lo:Int
 e13_hi:Int
 e14_lo:Int
 e14_hi:Int
 e15_lo:Int
 e15_hi:Int
theorem Ug {x y:Operand} (a b:de) (w:World):(do eqGuard .eql 38 x y (.agg #[.int .i64 a.Err,.int .i64 a.At]) (.agg #[.int .i64 b.Err,.int .i64 b.At]);binOp .eql 38 (.agg #[.int .i64 a.Err,.int .i64 a.At]) (.agg #[.int .i64 b.Err,.int .i64 b.At]):Sem Value).run prog w=.ok (.bool (yl a b)) w :=
 RH kr (show ((a.Err==b.Err)&&((a.At==b.At)&&true))=yl a b by simp[yl,Bool.and_assoc]) (RG 9999 kr kr (KT 0 36 (.int .i64 a.Err) (.int .i64 b.Err) kr (λ_=>by kernel_rfl) (λ_=>by kernel_rfl) (KU underlying36) (KT 1 3 (.int .i64 a.At) (.int .i64 b.At) kr (λ_=>by kernel_rfl) (λ_=>by kernel_rfl) (KU underlying3) (RF 2 kr)))) w
structure co where
 units:List V
 place:List (V×Int)
 fors:List (V×List V)
 skips:List (V×Bool)
 lines:List V
def oT (z:co×Hd×Hd×Hd×Hd×Hd):List Value:=[z.2.1.v,.map (some (bc z.2.2.1)),.map (some (bc z.2.2.2.1)),.map (some (bc z.2.2.2.2.1)),z.2.2.2.2.2.v]
def oU (z:co×Hd×Hd×Hd×Hd×Hd):List bG:=[vec gK 9 1 z.2.1.v z.1.units,cH (λn:V=>ad n) (λn:Int=>az .i64 n) (bc z.2.2.1) z.1.place,dV (bc z.2.2.2.1) z.1.fors,cH (λn:V=>ad n) (λn:Bool=>Value.bool n) (bc z.2.2.2.2.1) z.1.skips,vec gK 9 1 z.2.2.2.2.2.v z.1.lines]
structure dv where
 Units:List V
 Fors:List (V×List V)
 Skips:List V
 Lines:List V
def rC (z:dv×Hd×Hd×Hd×Hd):List Value:=[z.2.1.v,.map (some (bc z.2.2.1)),z.2.2.2.1.v,z.2.2.2.2.v]
def rD (z:dv×Hd×Hd×Hd×Hd):List bG:=[vec gK 9 1 z.2.1.v z.1.Units,dV (bc z.2.2.1) z.1.Fors,vec gK 9 1 z.2.2.2.1.v z.1.Skips,vec gK 9 1 z.2.2.2.2.v z.1.Lines]
structure dy where
 at_:Int
 broken:Int
 base:Int
 low:List Int
 high:List Int
def nE (z:dy×Hd×Hd):List Value:=[.int .i64 z.1.at_,.int .u8 z.1.broken,.int .i32 z.1.base,z.2.1.v,z.2.2.v]
def jB (z:dy×Hd×Hd):List bG:=[vec (mK (.i32)) 21 1 z.2.1.v z.1.low,vec (mK (.i32)) 21 1 z.2.2.v z.1.high]
theorem re (z:dy×Hd×Hd):(nE z).length=5:=rfl
theorem ML (z:dy×Hd×Hd):∀u∈nE z,u.oneCell'=true:=by
 intro u hu;simp only[nE,bg,dJ,or_false] at hu;rcases hu with rfl|rfl|rfl|rfl|rfl<;>rfl
theorem MM:∀ (P:List Pc) (i:Nat) (l:List UInt8) (x:Pc) (B:List Pc),oP i l=P++x::B ->
  ∃n,x.i=i+n/\n+x.w<=l.length/\Ae (l.drop n) x.r x.w/\oP (i+n) (l.drop n)=x::B/\B=oP (x.i+x.w) (l.drop (n+x.w))
 |[],i,l,x,B,h=>by
  by_cases a:l=[]
  ·subst a;simp[ux] at h
  ·have f:=Af l a;have h':=h;rw[uy i l a] at h;simp only[bj,hO] at h;obtain⟨rfl,hB⟩:=h;exact⟨0,by simp,by simpa using f.le,by simpa using f,by simpa using h',by simpa using hB.symm⟩
 |p::P,i,l,x,B,h=>by
  by_cases a:l=[]
  ·subst a;simp[ux] at h
  ·have q:=Ad l a;rw[uy i l a] at h;simp only[aW,hO] at h;obtain⟨n,h1,h2,h3,u,h5⟩:=MM P _ _ x B h.2;refine⟨(decodeL l).2+n,by omega,by simp at h2;omega,by rw[<-fY];exact h3,by rw[<-fY,<-gZ];exact u,?_⟩;rw[h5,fY,gZ]
theorem MN (l:List UInt8) (P:List Pc) (x:Pc) (B:List Pc) (h:fK l=P++x::B) : x.i+x.w<=l.length/\Ae (l.drop x.i) x.r x.w/\oP x.i (l.drop x.i)=x::B/\B=oP (x.i+x.w) (l.drop (x.i+x.w)):=by
 obtain⟨n,h1,h2,h3,a,h5⟩:=MM P 0 l x B h;have:x.i=n:=by omega
 subst this;exact⟨h2,h3,by simpa using a,h5⟩
theorem wK (l:List UInt8) (x:Pc) (h:x∈fK l):1<=x.w/\x.i+x.w<=l.length/\Ae (l.drop x.i) x.r x.w:=by
 obtain⟨P,B,a⟩:=List.append_of_mem h;obtain⟨h1,h2,_⟩:=MN l P x B a;exact⟨h2.pos,h1,h2⟩
structure dM where
 r:Nat
 bs:List UInt8
 deriving DecidableEq
def dM.broken (t:dM):Bool:=t.r==65533&&t.bs.length==1
def dM.valid (t:dM):Prop:=(t.r<55296\/(57343<t.r/\t.r<=1114111))/\t.bs=encodeRune t.r
def c7 (ts:List dM):List UInt8:=ts.flatMap dM.bs
def tO:Nat->List UInt8->List dM
 |0,_=>[]
 |f+1,l=>if l=[] then [] else ⟨(decodeL l).1,l.take (decodeL l).2⟩::tO f (l.drop (decodeL l).2)
def fO (l:List UInt8):List dM:=tO l.length l
theorem nP (t:dM) (ts:List dM):c7 (t::ts)=t.bs++c7 ts:=by simp[c7]
theorem nQ (a b:List dM):c7 (a++b)=c7 a++c7 b:=by simp[c7]
theorem Uh:∀ (f g:Nat) (l:List UInt8),l.length<=f->l.length<=g->tO f l=tO g l:=by
 intro f
 induction f with
 |zero=>
  intro g l h1 h2;have:l=[]:=cE z1;subst this;cases g<;>simp[tO]
 |succ f n=>
  intro g l h1 h2;cases g with
  |zero=>
   have:l=[]:=cE z1;subst this;simp[tO]
  |succ g=>
   by_cases a:l=[]
   ·simp[tO,a]
   ·simp only[tO,a,if_false];have:=uw l;have h:0<l.length:=dh.2 a;rw[n g _ (by simp;omega) (by simp;omega)]
theorem wL:fO []=[]:=by simp[fO,tO]
theorem wM (l:List UInt8) (h:l≠[]):fO l=⟨(decodeL l).1,l.take (decodeL l).2⟩::fO (l.drop (decodeL l).2):=by
 have a:0<l.length:=dh.2 h;unfold fO;obtain⟨n,f⟩:∃n,l.length=n+1:=⟨l.length-1,by omega⟩;rw[f];simp only[tO,h,if_false];have:=uw l;rw[Uh n (l.drop (decodeL l).2).length _ (by simp;omega) (aS _)]
theorem DY {P:List UInt8->Prop} (h0:P []) (h1:∀l,l≠[]->P (l.drop (decodeL l).2)->P l):∀l,P l:=by
 have key:∀ (n:Nat) (l:List UInt8),l.length<=n->P l:=by
  intro n
  induction n with
  |zero=>intro l h;rw[cE (by omega:l.length=0)];exact h0
  |succ n f=>
   intro l h;by_cases a:l=[]
   ·rw[a];exact h0
   ·have:=uw l;exact h1 l a (f _ (by simp;omega))
 exact λl=>key l.length l (aS _)
theorem vF (l:List UInt8):c7 (fO l)=l:=by
 induction l using DY with
 |h0=>rw[wL];rfl
 |h1 l f a=>rw[wM l f,nP,a];exact bo _ _
theorem Ui (l:List UInt8) (h:l≠[]):(⟨(decodeL l).1,l.take (decodeL l).2⟩:dM).valid\/(⟨(decodeL l).1,l.take (decodeL l).2⟩:dM).broken=true:=by
 by_cases hb:(decodeL l).1=65533/\(decodeL l).2=1
 ·right;have a:0<l.length:=dh.2 h;simp[dM.broken,hb.1,hb.2];omega
 ·left;exact⟨K5 l,(encode_decode l h hb).symm⟩
theorem rF (l:List UInt8):∀t∈fO l,t.valid\/t.broken=true:=by
 induction l using DY with
 |h0=>rw[wL];simp
 |h1 l a f=>
  rw[wM l a];intro t ht;rcases bg.1 ht with rfl|ht
  ·exact Ui l a
  ·exact f t ht
theorem yo {t:dM} (h:t.valid):t.broken=false:=by
 unfold dM.broken;by_cases hr:t.r=65533
 ·have:=h.2;rw[hr,Gz] at this;simp[this]
 ·simp[hr]
theorem DZ {t:dM} (h:t.valid\/t.broken=true):t.bs≠[]:=by
 rcases h with h|h
 ·rw[h.2];intro e;have:=(Ac (t.r:Int)).1;rw[e] at this;simp at this
 ·intro e;unfold dM.broken at h;rw[e] at h;simp at h
def Ho (b:UInt8):Bool:=b.toNat / 64==2
def uD:List UInt8->Prop
 |[]=>True
 |b::_=>Ho b=false
theorem Uj {n b0 b1 h f c1 c2 a m:Nat} (h1:n<=1\/b1 / 64≠2) (h2:m<=1\/c1 / 64≠2):decodeN n b0 b1 h f=decodeN m b0 c1 c2 a:=by
 unfold decodeN;have e1:¬(1<n/\b1 / 64=2):=by omega
 have e2:¬(1<m/\c1 / 64=2):=by omega
 simp only[e1,e2,and_false,false_and,if_false]
theorem Uk {n b0 b1 a l c2 h m:Nat} (f:1<n) (hm:1<m) (h1:n<=2\/a / 64≠2) (h2:m<=2\/c2 / 64≠2):decodeN n b0 b1 a l=decodeN m b0 b1 c2 h:=by
 unfold decodeN;have e1:¬(2<n/\a / 64=2):=by omega
 have e2:¬(2<m/\c2 / 64=2):=by omega
 simp only[e1,e2,and_false,false_and,if_false,f,hm,true_and]
theorem Um {n b0 b1 q l h m:Nat} (r:2<n) (hm:2<m) (h1:n<=3\/l / 64≠2) (h2:m<=3\/h / 64≠2):decodeN n b0 b1 q l=decodeN m b0 b1 q h:=by
 unfold decodeN;have e1:¬(3<n/\l / 64=2):=by omega
 have e2:¬(3<m/\h / 64=2):=by omega
 have a:1<n:=by omega
 have f:1<m:=by omega
 simp only[e1,e2,and_false,if_false,r,hm,a,f,true_and]
theorem Un {n b0 b1 r q m:Nat} (u:3<n) (hm:3<m):decodeN n b0 b1 r q=decodeN m b0 b1 r q:=by
 unfold decodeN;have h:1<n:=by omega
 have l:1<m:=by omega
 have a:2<n:=by omega
 have f:2<m:=by omega
 simp only[u,hm,h,l,a,f,true_and]
theorem Hq {x:List UInt8} (h:uD x) (n:Nat):n+x.length<=n\/(x.getD 0 0).toNat / 64≠2:=by
 cases x with
 |nil=>simp
 |cons b x=>right;simpa [uD,Ho] using h
theorem Uo (l x:List UInt8) (f:l≠[]) (hx:uD x):decodeL (l++x)=decodeL l:=by
 rw[decodeL_N,decodeL_N];rcases l with _|⟨a,_|⟨b,_|⟨c,_|⟨d,l⟩⟩⟩⟩
 ·exact absurd rfl f
 ·refine Uj ?_ (.inl (by simp));rcases Hq hx 1 with h|h
  ·left;simp only[aa,ab,aB];omega
  ·right;simpa using h
 ·refine Uk (by simp) (by simp) ?_ (.inl (by simp));rcases Hq hx 2 with h|h
  ·left;simp only[aa,ab,aB];omega
  ·right;simpa using h
 ·refine Um (by simp) (by simp) ?_ (.inl (by simp));rcases Hq hx 3 with h|h
  ·left;simp only[aa,ab,aB];omega
  ·right;simpa using h
 ·exact Un (by simp) (by simp)
theorem AD (l x:List UInt8) (hx:uD x):fO (l++x)=fO l++fO x:=by
 induction l using DY with
 |h0=>rw[wL];rfl
 |h1 l f n=>
  have a:=Ad l f;have h:l++x≠[]:=by simp[f]
  rw[wM _ h,wM l f,Uo l x f hx,List.drop_append_of_le_length a,n,List.take_append_of_le_length a];rfl
theorem Hr (r:Nat) (hv:r<55296\/(57343<r/\r<=1114111)) : (r<=127/\encodeRuneZ r=[(r:Int)])\/(128<=r/\r<=2047/\encodeRuneZ r=[192+(r:Int) / 64,128+(r:Int) % 64]) \/ (2048<=r/\r<=65535/\encodeRuneZ r=[224+(r:Int) / 4096,128+(r:Int) / 64 % 64,128+(r:Int) % 64]) \/ (65536<=r/\r<=1114111/\encodeRuneZ r=[240+(r:Int) / 262144,128+(r:Int) / 4096 % 64,128+(r:Int) / 64 % 64,128+(r:Int) % 64]):=by
 by_cases h1:r<=127
 ·exact .inl ⟨h1,encodeRuneZ_one z1 z1⟩
 ·by_cases h2:r<=2047
  ·exact .inr (.inl ⟨by omega,h2,encodeRuneZ_two z1 z1⟩)
  ·by_cases h3:r<=65535
   ·exact .inr (.inr (.inl ⟨by omega,h3,encodeRuneZ_three z1⟩))
   ·exact .inr (.inr (.inr ⟨by omega,by omega,encodeRuneZ_four z1 z1⟩))
theorem s9 (z:Int) (_h0:0<=z) (h1:z<256):(z.toNat.toUInt8).toNat=z.toNat:=by
 simp;omega
theorem D0 (r:Nat) (hv:r<55296\/(57343<r/\r<=1114111)) (x:List UInt8):decodeL (encodeRune r++x)=(r,(encodeRune r).length):=by
 rw[decodeL_N];rcases Hr r hv with⟨h,e⟩|⟨h,h',e⟩|⟨h,h',e⟩|⟨h,h',e⟩
 ·have a:encodeRune r=[((r:Int).toNat.toUInt8)]:=by simp only[encodeRune,e,au,fm]
  rw[a];simp only[aW,bj,jF,ab];rw[s9 _ z1 z1];unfold decodeN;simp only[Int.toNat_natCast];rw[aj z1];simp
 ·have a:encodeRune r=[((192+(r:Int) / 64).toNat.toUInt8),((128+(r:Int) % 64).toNat.toUInt8)]:=by simp only[encodeRune,e,au,fm]
  rw[a];simp only[aW,bj,jF,mF,ab];rw[s9 _ z1 z1,s9 _ z1 z1];have a1:(192+(r:Int) / 64).toNat=192+r / 64:=by omega
  have D:(128+(r:Int) % 64).toNat=128+r % 64:=by omega
  rw[a1,D];unfold decodeN;have c1:¬192+r / 64<128:=by omega
  have c2:(192+r / 64) / 32=6:=by omega
  have w:(128+r % 64) / 64=2:=by omega
  have q:(192+r / 64) % 32*64+(128+r % 64) % 64=r:=by omega
  have n:128<=r:=by omega
  rw[ai c1,aj ⟨c2,by omega,w⟩,q,aj n];rfl
 ·have a:encodeRune r=[((224+(r:Int) / 4096).toNat.toUInt8),((128+(r:Int) / 64 % 64).toNat.toUInt8),((128+(r:Int) % 64).toNat.toUInt8)]:=by simp only[encodeRune,e,au,fm]
  rw[a];simp only[aW,bj,jF,mF,ab];rw[s9 _ z1 z1,s9 _ z1 z1,s9 _ z1 z1];have a1:(224+(r:Int) / 4096).toNat=224+r / 4096:=by omega
  have D:(128+(r:Int) / 64 % 64).toNat=128+r / 64 % 64:=by omega
  have H:(128+(r:Int) % 64).toNat=128+r % 64:=by omega
  rw[a1,D,H];unfold decodeN;have c1:¬224+r / 4096<128:=by omega
  have c2:(224+r / 4096) / 32≠6:=by omega
  have l:(224+r / 4096) / 16=14:=by omega
  have w:(128+r / 64 % 64) / 64=2:=by omega
  have f:(128+r % 64) / 64=2:=by omega
  have q:(224+r / 4096) % 16*4096+(128+r / 64 % 64) % 64*64+(128+r % 64) % 64=r:=by omega
  have n:2048<=r:=by omega
  rw[ai c1,ai (λh=>c2 h.1),aj ⟨l,⟨by omega,w⟩,⟨by omega,f⟩⟩,q,aj ⟨n,by omega⟩];rfl
 ·have a:encodeRune r=[((240+(r:Int) / 262144).toNat.toUInt8),((128+(r:Int) / 4096 % 64).toNat.toUInt8),((128+(r:Int) / 64 % 64).toNat.toUInt8),((128+(r:Int) % 64).toNat.toUInt8)]:=by simp only[encodeRune,e,au,fm]
  rw[a];simp only[aW,bj,jF,mF,ab];rw[s9 _ z1 z1,s9 _ z1 z1,s9 _ z1 z1,s9 _ z1 z1];have a1:(240+(r:Int) / 262144).toNat=240+r / 262144:=by omega
  have D:(128+(r:Int) / 4096 % 64).toNat=128+r / 4096 % 64:=by omega
  have J:(128+(r:Int) / 64 % 64).toNat=128+r / 64 % 64:=by omega
  have H:(128+(r:Int) % 64).toNat=128+r % 64:=by omega
  rw[a1,D,J,H];unfold decodeN;have c1:¬240+r / 262144<128:=by omega
  have c2:(240+r / 262144) / 32≠6:=by omega
  have l:(240+r / 262144) / 16≠14:=by omega
  have C:(240+r / 262144) / 8=30:=by omega
  have w:(128+r / 4096 % 64) / 64=2:=by omega
  have f:(128+r / 64 % 64) / 64=2:=by omega
  have u:(128+r % 64) / 64=2:=by omega
  have q:(240+r / 262144) % 8*262144+(128+r / 4096 % 64) % 64*4096+(128+r / 64 % 64) % 64*64+(128+r % 64) % 64=r:=by omega
  have n:65536<=r:=by omega
  rw[ai c1,ai (λh=>c2 h.1),ai (λh=>l h.1),aj ⟨C,⟨by omega,w⟩,⟨by omega,f⟩,⟨by omega,u⟩⟩,q,aj ⟨n,by omega⟩];rfl
theorem Up (r:Nat) (hv:r<55296\/(57343<r/\r<=1114111)) (x:List UInt8):uD (encodeRune r++x):=by
 rcases Hr r hv with⟨h,e⟩|⟨h,h',e⟩|⟨h,h',e⟩|⟨h,h',e⟩ <;>
 ·simp only[encodeRune,e,au,fm,aW,uD,Ho,aA,ne_eq];rw[s9 _ z1 z1];omega
theorem Uq {t:dM} (h:t.valid) (x:List UInt8):fO (t.bs++x)=t::fO x:=by
 have a:t.bs++x≠[]:=by simp[DZ (.inl h)]
 rw[wM _ a];rw[h.2,D0 t.r h.1 x,<-h.2];simp
theorem Hs {vs:List dM} (h:∀t∈vs,t.valid) (x:List UInt8):fO (c7 vs++x)=vs++fO x:=by
 induction vs with
 |nil=>rfl
 |cons t vs a=>
  rw[nP,av,Uq (h t (ar ..)),a (λq f=>h q (ak _ f))];rfl
theorem MO {vs:List dM} (a:vs≠[]) (h:∀t∈vs,t.valid) (x:List UInt8):uD (c7 vs++x):=by
 cases vs with
 |nil=>exact absurd rfl a
 |cons t vs=>
  have:=h t (ar ..);rw[nP,av,this.2];exact Up t.r this.1 _
def rf (ts:List dM):Prop:=fO (c7 ts)=ts
theorem MP (l:List UInt8):rf (fO l):=by unfold rf;rw[vF]
theorem Ht {t:dM} {ts:List dM} (h:rf (t::ts)):rf ts:=by
 unfold rf at *;by_cases f:c7 (t::ts)=[]
 ·rw[f,wL] at h;cases h
 ·rw[wM _ f] at h;have h1:(⟨(decodeL (c7 (t::ts))).1,(c7 (t::ts)).take (decodeL (c7 (t::ts))).2⟩:dM)=t:=by injection h
  have h2:fO ((c7 (t::ts)).drop (decodeL (c7 (t::ts))).2)=ts:=by injection h
  have h3:(c7 (t::ts)).take (decodeL (c7 (t::ts))).2=t.bs:=aI dM.bs h1;have a:=bo (decodeL (c7 (t::ts))).2 (c7 (t::ts));rw[h3] at a;have h5:(c7 (t::ts)).drop (decodeL (c7 (t::ts))).2=c7 ts:=by
   rw[nP] at a |-
   exact List.append_cancel_left a
  rw[<-h5];exact h2
theorem D3 (a:List dM){ts:List dM} (h:rf (a++ts)):rf ts:=by
 induction a with
 |nil=>exact h
 |cons t a f=>exact f (Ht h)
inductive pH:List dM->List dM->Prop
 |nil:pH [] []
 |brk {b:dM} {ts us:List dM}:b.broken=true->pH ts us->pH (b::ts) (b::us)
 |val {gs vs ts us:List dM}:gs≠[]->vs≠[]->(∀t∈gs,t.valid)->(∀t∈vs,t.valid)->pH ts us->pH (gs++ts) (vs++us)
theorem pH.one {t:dM} {vs ts us:List dM} (ht:t.valid) (a:vs≠[]) (hv:∀t∈vs,t.valid) (h:pH ts us):pH (t::ts) (vs++us) :=
 pH.val (gs:=[t]) (by simp) a (by simpa using ht) hv h
theorem pH.head {ts us:List dM} (h:pH ts us):∃B f a,(∀b∈B,b.broken=true)/\ts=B++f/\us=B++a/\uD (c7 f)/\uD (c7 a):=by
 induction h with
 |nil=>exact⟨[],[],[],by simp,rfl,rfl,trivial,trivial⟩
 |brk hb _ n=>
  obtain⟨B,f,a,h1,rfl,rfl,l,h5⟩:=n;exact⟨_::B,f,a,by simpa [hb] using h1,rfl,rfl,l,h5⟩
 |@val gs vs ts us h1 h2 h3 l _ n=>
  exact⟨[],gs++ts,vs++us,by simp,rfl,rfl,by rw[nQ];exact MO h1 h3 _,by rw[nQ];exact MO h2 l _⟩
theorem pH.good {ts us:List dM} (h:pH ts us) (hg:rf ts):rf us:=by
 induction h with
 |nil=>exact hg
 |@brk b ts us hb hs ih=>
  have n:=ih (Ht hg);obtain⟨B,f,l,h1,rfl,rfl,q,h5⟩:=hs.head;unfold rf at *;have r:b.bs≠[]:=DZ (.inr hb);have e1:c7 (b::(B++f))=c7 (b::B)++c7 f:=by rw[<-aW,nQ]
  have e2:c7 (b::(B++l))=c7 (b::B)++c7 l:=by rw[<-aW,nQ]
  rw[e1,AD _ _ q] at hg;rw[e2,AD _ _ h5];have g1:fO (c7 f)=f:=by
   have:=D3 B (ts:=f) (by
    have u:rf (b::(B++f)):=by unfold rf;rw[e1,AD _ _ q];exact hg
    exact Ht u)
   exact this
  rw[nQ,AD _ _ h5] at n;have g2:fO (c7 l)=l:=D3 B (by unfold rf;rw[nQ,AD _ _ h5];exact n);rw[g1,<-aW] at hg;rw[g2,<-aW];rw[List.append_cancel_right hg]
 |@val gs vs ts us h1 h2 h3 q _ ih=>
  unfold rf;rw[nQ,Hs q,show fO (c7 us)=us from ih (D3 _ hg)]
def place:Nat->List dM->List Pc
 |_,[]=>[]
 |i,t::ts=>⟨i,t.bs.length,t.r⟩::place (i+t.bs.length) ts
theorem MQ (l:List UInt8):∀i,oP i l=place i (fO l):=by
 induction l using DY with
 |h0=>intro i;rw[wL,ux];rfl
 |h1 l a f=>
  intro i;have h:=Ad l a;have e:(l.take (decodeL l).2).length=(decodeL l).2:=by simp;omega
  rw[uy i l a,wM l a,place,f,e]
section
open Go.Shelf
attribute [local go_sem] mG JU JV JW
theorem tP {a b:Bool} (h:a=b):pC (.bool a)=.returned (.bool b):=by rw[h]
theorem tc {k:IntKind} {a b:Int} (h:a=b):pC (.int k a)=.returned (.int k b):=by rw[h]
end
def AE (r:Int):Bool:=decide (r % 2=0)
def rG (r:Int):Prop :=
 (65<=r/\r<=90)\/(0xC0<=r/\r<=0xDE/\r≠0xD7)\/(((0x100<=r/\r<=0x137)\/(0x14A<=r/\r<=0x177))/\r % 2=0)\/(0x139<=r/\r<=0x148/\r % 2=1)\/r=0x178 \/
 (0x179<=r/\r<=0x17D/\r % 2=1)\/(0x386<=r/\r<=0x38F/\r≠0x387/\r≠0x38B/\r≠0x38D)\/(0x391<=r/\r<=0x3AB/\r≠0x3A2)\/(0x400<=r/\r<=0x42F)
instance (r:Int):Decidable (rG r):=by unfold rG;infer_instance
def great (r:Int):Bool:=decide (rG r)
def td (r:Int):Prop :=
 (97<=r/\r<=122)\/(0xDF<=r/\r<=0xFF/\r≠0xF7)\/(((0x100<=r/\r<=0x137)\/(0x14A<=r/\r<=0x177))/\r % 2=1)\/r=0x138\/r=0x149\/r=0x17F\/r=0x390 \/
 (0x139<=r/\r<=0x148/\r % 2=0)\/(0x17A<=r/\r<=0x17E/\r % 2=0)\/(0x3AC<=r/\r<=0x3CE)\/(0x430<=r/\r<=0x45F)
instance (r:Int):Decidable (td r):=by unfold td;infer_instance
def qJ (r:Int):Bool:=decide (td r)
def dx (r:Int):Bool:=great r||qJ r
def cP (r:Int):Int :=
 if !great r then r
 else if r=0x130 then 0x69 else if r=0x178 then 0xFF else if r=0x386 then 0x3AC else if r=0x38C then 0x3CC
 else if 0x388<=r/\r<=0x38A then r+0x25 else if r=0x38E\/r=0x38F then r+0x3F
 else if 0x400<=r/\r<=0x40F then r+0x50 else if r<0x100\/0x17F<r then r+0x20 else r+1
def vG (r:Int):Int :=
 if r=0xFF then 0xFF-0x178
 else if r<0x100\/(0x3B1<=r/\r<=0x3CB)\/(0x430<=r/\r<=0x44F) then 0x20
 else if r<=0x17F then 1
 else if r=0x3AC then 0x3AC-0x386
 else if 0x3AD<=r/\r<=0x3AF then 0x25
 else if r=0x3CC then 0x40
 else if r=0x3CD\/r=0x3CE then 0x3F
 else 0x50
def AF (r:Int):Int :=
 if !qJ r then r
 else if r=0x131 then 0x49 else if r=0x17F then 0x53 else if r=0x3C2 then 0x3A3
 else if great (r-vG r)&&(cP (r-vG r)==r) then r-vG r else r
def tQ (r:Int):Int :=
 if r<0\/(0xD800<=r/\r<=0xDFFF)\/0x10FFFF<r then 0
 else if dx r then 1
 else if 0x300<=r/\r<=0x36F then 2
 else if 48<=r/\r<=57 then 3
 else if r=10\/r=13 then 4
 else if r=9\/r=32\/r=0xA0\/r=0x202F\/r=0x205F\/r=0x3000 then 5
 else if r=45\/(0x2010<=r/\r<=0x2015) then 6
 else if r=34\/r=39\/r=0xAB\/r=0xBB\/r=0x2039\/r=0x203A then 7
 else if r=33\/r=44\/r=46\/r=58\/r=59\/r=63\/r=0xA1\/r=0xB7\/r=0xBF\/r=0x2026 then 8
 else if 0x2000<=r/\r<=0x200A then 5
 else if 0x2018<=r/\r<=0x201F then 7
 else if r<0x20\/(0x7F<=r/\r<=0x9F)\/(0x200B<=r/\r<=0x200F)\/r=0xFEFF then 9
 else 10
def kind (r:Int):Int:=tQ r
theorem wN (r:Int):great r=true↔rG r:=by simp[great]
theorem yp (r:Int):qJ r=true↔td r:=by simp[qJ]
section
open Go.Shelf
theorem Ur (r:Int) (h0 : -2147483648<=r) (h1:r<=2147483647):(bits BinOp.and IntKind.i32 r 1==0)=AE r:=by
 have hk:bits .and .i32 r 1=r % 2:=by
  have h1:(ib 32 1).toNat=2 ^ 1-1:=by decide
  have key:(ib 32 r &&& ib 32 1).toNat=(r % ((2 ^ 32:Nat):Int)).toNat % 2 ^ 1:=by
   rw[BitVec.toNat_and,BitVec.toNat_ofInt,h1,Nat.and_two_pow_sub_one_eq_mod]
  show IntKind.i32.wrap ((ib 32 r &&& ib 32 1).toNat:Nat)=r % 2;rw[key,IntKind.wrap_i32];omega
 rw[hk,AE,eF];simp
theorem MR (r:Int) (w:World) (h0 : -2147483648<=r) (h1:r<=2147483647) : Calls prog 95 #[.int .i32 r] w λe w'=>e=.returned (.bool (AE r))/\w=w':=by
 go_enter func95,ntmps95;go_wp2;go_ret;exact⟨tP (Ur r h0 h1),rfl⟩
set_option maxHeartbeats 1000000 in
theorem AG (r:Int) (w:World) (h0 : -2147483648<=r) (h1:r<=2147483647) : Calls prog 63 #[.int .i32 r] w λe w'=>e=.returned (.bool (great r))/\w=w':=by
 go_enter func63,ntmps63
 go_wp2_with (go_at_call 95;refine (MR _ _ z1 z1).mono ?_;rintro e w' ⟨rfl,rfl⟩)
 all_goals
  go_ret;refine⟨tP ?_,rfl⟩
  (go_light;rw[eF];(try simp only[wN,rG,AE,decide_eq_true_eq,cQ,ne_eq,cX,decide_eq_false_iff_not,aN,ej,bU,cV,bne_eq_false_iff_eq,beq_iff_eq,aA,bp,false_iff,true_iff,iff_true,iff_false,cW,dm,db] at *);omega)
set_option maxHeartbeats 1000000 in
theorem D4 (r:Int) (w:World) (h0 : -2147483648<=r) (h1:r<=2147483647) : Calls prog 47 #[.int .i32 r] w λe w'=>e=.returned (.bool (qJ r))/\w=w':=by
 go_enter func47,ntmps47
 go_wp2_with (go_at_call 95;refine (MR _ _ z1 z1).mono ?_;rintro e w' ⟨rfl,rfl⟩)
 all_goals
  go_ret;refine⟨tP ?_,rfl⟩
  (go_light;rw[eF];(try simp only[yp,td,AE,decide_eq_true_eq,cQ,ne_eq,cX,decide_eq_false_iff_not,aN,ej,bU,cV,bne_eq_false_iff_eq,beq_iff_eq,aA,bp,false_iff,true_iff,iff_true,iff_false,cW,dm,db] at *);omega)
theorem Us (r:Int) (w:World) (h0 : -2147483648<=r) (h1:r<=2147483647) : Calls prog 139 #[.int .i32 r] w λe w'=>e=.returned (.bool (dx r))/\w=w':=by
 go_enter func139,ntmps139
 go_wp2_with (first | (go_at_call 63;refine (AG _ _ z1 z1).mono ?_;rintro e w' ⟨rfl,rfl⟩) | (go_at_call 47;refine (D4 _ _ z1 z1).mono ?_;rintro e w' ⟨rfl,rfl⟩))
 all_goals
  go_ret;refine⟨tP ?_,rfl⟩
  go_light
  simp_all [dx]
set_option maxHeartbeats 1000000 in
theorem AH (r:Int) (w:World) (h0 : -2147483648<=r) (h1:r<=2147483647) : Calls prog 110 #[.int .i32 r] w λe w'=>e=.returned (.int .i32 (cP r))/\w=w':=by
 by_cases hg:great r=true
 ·have hb:r<=2000/\0<=r:=by rw[wN] at hg;unfold rG at hg;omega
  have f:=hb.1;have a:=hb.2;clear hb;go_enter func110,ntmps110
  go_wp2_with (go_at_call 63;refine (AG _ _ z1 z1).mono ?_;rintro e w' ⟨rfl,rfl⟩)
  all_goals
   go_ret;refine⟨tc ?_,rfl⟩
   go_light
   grind [cP]
 ·go_enter func110,ntmps110
  go_wp2_with (go_at_call 63;refine (AG _ _ z1 z1).mono ?_;rintro e w' ⟨rfl,rfl⟩)
  all_goals
   go_ret;refine⟨tc ?_,rfl⟩
   go_light
   simp_all [cP]
set_option maxHeartbeats 1000000 in
theorem Ut (r:Int) (w:World) (h0 : -2147483648<=r) (h1:r<=2147483647) : Calls prog 115 #[.int .i32 r] w λe w'=>e=.returned (.int .i32 (vG r))/\w=w':=by
 go_enter func115,ntmps115;go_wp2
 all_goals
  go_ret;refine⟨tc ?_,rfl⟩
  go_light
  grind [vG]
theorem MS (r:Int) : -300<=vG r/\vG r<=300:=by unfold vG;(repeat' split)<;>omega
set_option maxHeartbeats 1000000 in
theorem Uu (r:Int) (w:World) (h0 : -2147483648<=r) (h1:r<=2147483647) : Calls prog 69 #[.int .i32 r] w λe w'=>e=.returned (.int .i32 (AF r))/\w=w':=by
 have f:=(MS r).1;have a:=(MS r).2;by_cases hg:qJ r=true
 ·have hb:r<=2000/\0<=r:=by rw[yp] at hg;unfold td at hg;omega
  have l:=hb.1;have h:=hb.2;clear hb;go_enter func69,ntmps69
  go_wp2_with (first | (go_at_call 47;refine (D4 _ _ z1 z1).mono ?_;rintro e w' ⟨rfl,rfl⟩) | (go_at_call 115;refine (Ut _ _ z1 z1).mono ?_;rintro e w' ⟨rfl,rfl⟩) | (go_at_call 63;refine (AG _ _ z1 z1).mono ?_;rintro e w' ⟨rfl,rfl⟩) | (go_at_call 110;refine (AH _ _ z1 z1).mono ?_;rintro e w' ⟨rfl,rfl⟩))
  all_goals
   go_ret;refine⟨tc ?_,rfl⟩
   go_light
   grind [AF]
 ·go_enter func69,ntmps69
  go_wp2_with (first | (go_at_call 47;refine (D4 _ _ z1 z1).mono ?_;rintro e w' ⟨rfl,rfl⟩))
  all_goals
   go_ret;refine⟨tc ?_,rfl⟩
   go_light
   simp_all [AF]
theorem Uv (r:Int) (w:World) (h0 : -2147483648<=r) (h1:r<=2147483647) : Calls prog 140 #[.int .i32 r] w λe w'=>e=.returned (.bool (decide (0x300<=r/\r<=0x36F)))/\w=w':=by
 go_enter func140,ntmps140;go_wp2
 all_goals
  go_ret;refine⟨tP ?_,rfl⟩
  (go_light;rw[eF];simp only[decide_eq_true_eq,cQ,ne_eq,cX,decide_eq_false_iff_not,aN,ej,bU,cV,bne_eq_false_iff_eq,beq_iff_eq,aA,bp,false_iff,true_iff,iff_true,iff_false,cW,dm,db] at *;omega)
end
section
open Go.Shelf
theorem AJ (r:Int) (w:World) (h0 : -2147483648<=r) (h1:r<=2147483647) : Calls prog 109 #[.int .i32 r] w λe w'=>e=.returned (.int .i64 (kind r))/\w=w':=by
 go_enter func109,ntmps109
 go_wp2_with (first | (go_at_call 139;refine (Us _ _ z1 z1).mono ?_;rintro e w' ⟨rfl,rfl⟩) | (go_at_call 140;refine (Uv _ _ z1 z1).mono ?_;rintro e w' ⟨rfl,rfl⟩))
 all_goals
  go_ret;refine⟨tc ?_,rfl⟩
  go_light
  try simp only[decide_eq_true_eq,cQ,ne_eq,cX,decide_eq_false_iff_not,aN,ej,bU,cV,bne_eq_false_iff_eq,beq_iff_eq,aA,bp,false_iff,true_iff,iff_true,iff_false,cW,dm,db] at *
  grind [kind,tQ]
def ie (b:Bool) (r:Int):Int:=if b then 11 else kind r
theorem Uw (i wd r:Int) (b:Bool) (w:World) (h0 : -2147483648<=r) (h1:r<=2147483647) : Calls prog 61 #[.agg #[.int .i64 i,.int .i64 wd,.int .i32 r,.bool b]] w λe w'=>e=.returned (.int .i64 (ie b r))/\Below w.heap.size w w':=by
 cases b
 ·go_enter func61,ntmps61
  go_wp2_with (go_at_call 109;refine (AJ _ _ z1 z1).mono ?_;rintro e w' ⟨rfl,rfl⟩)
  go_ret;exact⟨tc (by simp[ie]),(Below.refl _ _).alloc (aS _) _⟩
 ·go_enter func61,ntmps61
  go_wp2_with (go_at_call 109;refine (AJ _ _ z1 z1).mono ?_;rintro e w' ⟨rfl,rfl⟩)
  go_ret;exact⟨tc (by simp[ie]),(Below.refl _ _).alloc (aS _) _⟩
end
section
open Go.Shelf

end
section
open Go.Shelf
def sB (r a b:Int):Bool:=decide (a<=r/\r<=b)
theorem yq (r a b:Int) (w:World) : Calls prog 87 #[.int .i32 r,.int .i32 a,.int .i32 b] w λe w'=>e=.returned (.bool (sB r a b))/\w=w':=by
 go_enter func87,ntmps87;go_wp2
 all_goals
  go_ret;refine⟨tP ?_,rfl⟩
  (go_light;rw[eF];simp only[sB,decide_eq_true_eq,cQ,ne_eq,cX,decide_eq_false_iff_not,aN,ej,bU,cV,bne_eq_false_iff_eq,beq_iff_eq,aA,bp,false_iff,true_iff,iff_true,iff_false,cW,dm,db] at *;omega)
theorem AK (r:Int) (w:World) (h0 : -2147483648<=r) (h1:r<=2147483647) : Calls prog 43 #[.int .i32 r] w λe w'=>e=.returned (.bool (great r))/\w=w':=by
 by_cases l:0<=r
 ·go_enter func43,ntmps43
  go_wp2_with (first | (go_at_call 87;refine (yq _ _ _ _).mono ?_;rintro e w' ⟨rfl,rfl⟩))
  all_goals
   go_ret;refine⟨tP ?_,rfl⟩
   (go_light;rw[eF,wN];simp only[sB,rG,decide_eq_true_eq,cQ,ne_eq,cX,decide_eq_false_iff_not,aN,ej,bU,cV,bne_eq_false_iff_eq,beq_iff_eq,aA,bp,false_iff,true_iff,iff_true,iff_false,cW,dm,db] at *;omega)
 ·have f:∀a b:Int,0<=a->sB r a b=false:=by intro a b ha;simp[sB];omega
  have hm:great r=false:=by rw[vi];intro h;rw[wN] at h;unfold rG at h;omega
  go_enter func43,ntmps43
  go_wp2_with (first | (go_at_call 87;refine (yq _ _ _ _).mono ?_;rintro e w' ⟨rfl,rfl⟩))
  all_goals
   go_ret;refine⟨tP ?_,rfl⟩
   (go_light;rw[eF,wN];simp only[sB,rG,decide_eq_true_eq,cQ,ne_eq,cX,decide_eq_false_iff_not,aN,ej,bU,cV,bne_eq_false_iff_eq,beq_iff_eq,aA,bp,false_iff,true_iff,iff_true,iff_false,cW,dm,db] at *;omega)
theorem Hu (r:Int) (w:World) (h0 : -2147483648<=r) (h1:r<=2147483647) : Calls prog 75 #[.int .i32 r] w λe w'=>e=.returned (.bool (qJ r))/\w=w':=by
 by_cases l:0<=r
 ·go_enter func75,ntmps75
  go_wp2_with (first | (go_at_call 87;refine (yq _ _ _ _).mono ?_;rintro e w' ⟨rfl,rfl⟩))
  all_goals
   go_ret;refine⟨tP ?_,rfl⟩
   (go_light;rw[eF,yp];simp only[sB,td,decide_eq_true_eq,cQ,ne_eq,cX,decide_eq_false_iff_not,aN,ej,bU,cV,bne_eq_false_iff_eq,beq_iff_eq,aA,bp,false_iff,true_iff,iff_true,iff_false,cW,dm,db] at *;omega)
 ·have f:∀a b:Int,0<=a->sB r a b=false:=by intro a b ha;simp[sB];omega
  have hm:qJ r=false:=by rw[vi];intro h;rw[yp] at h;unfold td at h;omega
  go_enter func75,ntmps75
  go_wp2_with (first | (go_at_call 87;refine (yq _ _ _ _).mono ?_;rintro e w' ⟨rfl,rfl⟩))
  all_goals
   go_ret;refine⟨tP ?_,rfl⟩
   (go_light;rw[eF,yp];simp only[sB,td,decide_eq_true_eq,cQ,ne_eq,cX,decide_eq_false_iff_not,aN,ej,bU,cV,bne_eq_false_iff_eq,beq_iff_eq,aA,bp,false_iff,true_iff,iff_true,iff_false,cW,dm,db] at *;omega)
set_option maxHeartbeats 1000000 in
theorem D5 (r:Int) (w:World) (h0 : -2147483648<=r) (h1:r<=2147483647) : Calls prog 41 #[.int .i32 r] w λe w'=>e=.returned (.int .i32 (cP r))/\w=w':=by
 by_cases hg:great r=true
 ·have hp:=(wN r).1 hg;have hb:r<=2000/\0<=r:=by unfold rG at hp;omega
  have h:=hb.1;have f:=hb.2;clear hb;have a:=Lib.hid hp;clear hp;go_enter func41,ntmps41
  go_wp2_with (first | (go_at_call 43;refine (AK _ _ z1 z1).mono ?_;rintro e w' ⟨rfl,rfl⟩) | (go_at_call 87;refine (yq _ _ _ _).mono ?_;rintro e w' ⟨rfl,rfl⟩))
  all_goals
   go_ret;refine⟨tc ?_,rfl⟩;have hp:=a.out;clear a
   go_light
   unfold rG at hp
   grind [cP,sB]
 ·go_enter func41,ntmps41
  go_wp2_with (first | (go_at_call 43;refine (AK _ _ z1 z1).mono ?_;rintro e w' ⟨rfl,rfl⟩))
  all_goals
   go_ret;refine⟨tc ?_,rfl⟩
   go_light
   simp_all [cP]
end
section
open Go.Shelf
set_option maxRecDepth 20000 in
theorem Ux (r:Int) (w:World) (h0 : -2147483648<=r) (h1:r<=2147483647) : Calls prog 38 #[.int .i32 r] w λe w'=>e=.returned (.int .i64 (kind r))/\w=w':=by
 go_enter func38,ntmps38
 go_wp2_with (first | (go_at_call 87;refine (yq _ _ _ _).mono ?_;rintro e w' ⟨rfl,rfl⟩) | (go_at_call 43;refine (AK _ _ z1 z1).mono ?_;rintro e w' ⟨rfl,rfl⟩) | (go_at_call 75;refine (Hu _ _ z1 z1).mono ?_;rintro e w' ⟨rfl,rfl⟩))
 all_goals
  go_ret;refine⟨tc ?_,rfl⟩
  go_light
  try simp only[sB,decide_eq_true_eq,cQ,ne_eq,cX,decide_eq_false_iff_not,aN,ej,bU,cV,bne_eq_false_iff_eq,beq_iff_eq,aA,bp,false_iff,true_iff,iff_true,iff_false,cW,dm,db] at *
  grind (splits:=60) [kind,tQ,dx]
end
def n8 (s:V) (k:Nat):Nat:=match (fK s.data.toList)[k]? with
 |some p=>p.i
 |none=>s.size
theorem Uy {s:V} {k:Nat} {p:Pc} (h:(fK s.data.toList)[k]?=some p):n8 s k=p.i:=by simp[n8,h]
theorem Uz (s:V):n8 s 0=0:=by
 unfold n8;by_cases h:s.data.toList=[]
 ·have:s.size=0:=by have:=aI fS h;simpa using this
  simp[h,fK,ux,this]
 ·simp[fK,uy 0 _ h]
theorem UA {s:V} {k:Nat} {p:Pc} (h:(fK s.data.toList)[k]?=some p):n8 s (k+1)=p.i+p.w/\oP p.i (s.data.toList.drop p.i)=p::(fK s.data.toList).drop (k+1):=by
 have hk:k<(fK s.data.toList).length:=(aq.1 h).1;have he:fK s.data.toList=(fK s.data.toList).take k++p::(fK s.data.toList).drop (k+1):=by
  have h1:=List.drop_eq_getElem_cons hk;have h2:(fK s.data.toList)[k]=p:=(aq.1 h).2;rw[h2] at h1;rw[<-h1,bo]
 obtain⟨q1,q2,q,n⟩:=MN s.data.toList _ p _ he;have f:s.data.toList.length=s.size:=by rw[eC];rfl
 refine⟨?_,q⟩;unfold n8;have l:(fK s.data.toList)[k+1]?=((fK s.data.toList).drop (k+1))[0]?:=by simp
 rw[l,n];by_cases a:s.data.toList.drop (p.i+p.w)=[]
 ·rw[a,ux];have h5:=aI fS a;simp only[List.length_drop,aB,f] at h5;obtain⟨_,r,_⟩:=wK s.data.toList p (aF h);simp;omega
 ·rw[uy _ _ a];simp
section
variable {F:Fence} {P:Program} {w0:World} {K:Nat->Prop} {N:Nat} {dfs:List Deferred} {ops:Array Oper} {Q:Exit->Act->World->Prop} {rest:List Oper} {σ:List (Nat×Value)} {L:List bG}
 {d:Nat} {t:TypeId} {ty:TypeId} {pos:String} {aft:Array Edge} {g:Option (Nat×Bool)} {x:Operand} {k:Nat} {s:V}
theorem wO [bA F] (ht:P.underlying t=some .string) (hg:gd ops σ g=some true) (hd:d<N) (hx:ev σ x=some (.string s)) (h:∀b,TO F P w0 K N dfs ops Q rest ((d,.pointer (some ⟨b,0,none⟩))::σ) (L++[obj b (.stringIter s (n8 s 0))])):TO F P w0 K N dfs ops Q (⟨some d,.range t x,ty,pos,aft,g⟩::rest) σ L :=
 pD hg (by simp) λa w ha f=>⟨.pointer (some ⟨w.heap.size,0,none⟩),w.alloc (.stringIter s 0),by simp[execOp,ha.ev hx,Instr.range,run_underlying ht,al],h _ _ _ (ha.put hd _) (by rw[Uz];exact f.alloc _)⟩
variable (k) in
theorem wP [bA F] {n:Nat}(m:Nat) (p:Pc) (hg:gd ops σ g=some true) (hd:d<N) (hx:ev σ x=some (.pointer (some ⟨n,0,none⟩))) (hk:L[k]?=some (obj n (.stringIter s (n8 s m)))) (hp:(fK s.data.toList)[m]?=some p) (h:TO F P w0 K N dfs ops Q rest ((d,.tuple #[.bool true,.int .i64 p.i,.int .i32 p.r])::σ) (L.set k (obj n (.stringIter s (n8 s (m+1)))))):TO F P w0 K N dfs ops Q (⟨some d,.next x true,ty,pos,aft,g⟩::rest) σ L:=by
 refine pD hg (by simp) λa w ha u=>?_;have hit:=u.obj hk;rw[Uy hp] at hit;obtain⟨h1,h2⟩:=UA hp;have l:=aF hp;obtain⟨g1,g2,_⟩:=wK s.data.toList p l;have C:s.data.toList.length=s.size:=by rw[eC];rfl
 obtain⟨r,wd,H,e1,e2,J,Z,X,D,W,S⟩:=RX P w n s p.i hit z1;rw[h2] at D;have f:p=⟨p.i,wd,r⟩:=(List.cons.inj D).1;have q:p.w=wd:=aI Pc.w f;have hr:p.r=r:=aI Pc.r f;obtain⟨C1,c1,c2⟩:=u.focus hk;refine⟨.tuple #[.bool true,.int .i64 p.i,.int .i32 p.r],H,by rw[hr];simp[execOp,ha.ev hx,e1,al],h _ _ (ha.put hd _) (c2 _ C1 H ⟨?_,λj hj=>.inl hj⟩ ⟨c1.1,by rw[h1,q];exact J⟩)⟩;exact e2.weaken (λi _ hi=>by subst hi;exact (c1.1 _).2 rfl)
variable (k) in
theorem wQ [bA F] {f:Nat}(m:Nat) (hg:gd ops σ g=some true) (hd:d<N) (hx:ev σ x=some (.pointer (some ⟨f,0,none⟩))) (hk:L[k]?=some (obj f (.stringIter s (n8 s m)))) (hm:(fK s.data.toList).length<=m) (h:TO F P w0 K N dfs ops Q rest ((d,.tuple #[.bool false])::σ) L):TO F P w0 K N dfs ops Q (⟨some d,.next x true,ty,pos,aft,g⟩::rest) σ L:=by
 refine pD hg (by simp) λa w ha l=>?_;have hit:=l.obj hk;have e:n8 s m=s.size:=by simp[n8,List.getElem?_eq_none hm]
 rw[e] at hit;exact⟨_,w,by simp[execOp,ha.ev hx,(RY P w f s s.size hit z1).1,al],h _ _ (ha.put hd _) l⟩
end
section
open Go.Shelf
attribute [local go_sem] mG JU JV JW
end
section
open Go.Shelf
attribute [local go_sem] mG
end
structure Rn where
 f:Nat
 t:Nat
 k:Int
 deriving DecidableEq
theorem yr (i wd r:Int) (b:Bool) (h0 : -2147483648<=r) (h1:r<=2147483647):eO prog 61 [.agg #[.int .i64 i,.int .i64 wd,.int .i32 r,.bool b]] (.int .i64 (ie b r)):=λw=>Uw i wd r b w h0 h1
def Hv {α:Type} (P:Program) (g:FuncId) (lb:Array Value) (enc:α->Array Value) (xs:List α) (M:Nat->Prop) (q:World):Prop :=
 ∀ (l:Nat) (a X:List α->(Nat->Prop)->World->Prop) (h r:Nat->Prop) (W:World),
  (∀k,M k->k<q.heap.size/\W.heap[k]?=q.heap[k]?/\¬h k)->q.heap.size<=W.heap.size->(∀k,h k->k<W.heap.size)->(∀k,r k↔h k\/M k) ->
  qk a->qk X ->
  (∀pre x post C f,xs=pre++x::post->cY r C W f->a pre C f ->
   F5 P l (enc x) f λb n=>∃C',cY C C' f n/\((b=true/\a (pre++[x]) C' n)\/(b=false/\X (pre++[x]) C' n))) ->
  a [] h W ->
  Calls P g (#[.func (.yield l) #[] #[]]++lb) W λe W'=>(∃v,e=.returned v) /\
   ∃C',cY r C' W W'/\(a xs C' W'\/∃pre x post,xs=pre++x::post/\X (pre++[x]) C' W')
section
variable {P:Program}
theorem UB {α:Type} {gf:FuncId} {lb:Array Value} {enc:α->Array Value} {xs:List α} {M:Nat->Prop} {W0:World} (hY:Hv P gf lb enc xs M W0) {fn:FuncId} {tmps:Array Value} {ps:Array Tmp} {assign body:Code} {f:Nat} (bh:∀x,(enc x).size=ps.size) (Ia:List α->(Nat->Prop)->World->Prop) (X:Code->List α->(Nat->Prop)->World->Prop) (J:List α->α->Act->(Nat->Prop)->World->Prop) (hI:qk Ia) (hX:∀c,qk (X c)) (hJ:∀pre x a,qk (λ(_:Unit)=>J pre x a)) (C0 B0:Nat->Prop) (W:World) (l:Nat) (hl:W.heap[l]?=some (.loop {state:=.ready,pending:=none,fn,tmps,params:=ps,assign,body,defers:=f })) (b0:¬C0 l) (b1:¬B0 l) (hM:∀k,M k->k<W0.heap.size/\W.heap[k]?=W0.heap[k]?/\¬C0 k) (hs:W0.heap.size<=W.heap.size) (b3:∀k,C0 k->k<W.heap.size) (hB:∀k,B0 k↔C0 k\/M k) (h0:Ia [] C0 W) (ao:∀pre x post C D,xs=pre++x::post->cY (λk=>B0 k\/k=l) (λk=>C k\/k=l) W D->Ia pre C D->¬C l->(∃r,D.heap[l]?=some (.loop r)/\r.defers=f) -> assign.wpIn (Fence.wide.inRound l) 0 P (Exit.then (λa1 W2=>∃C1,cY C C1 D W2/\J pre x a1 C1 W2) (λ_ _ _=>False)) {tmps:=(ps.zip (enc x)).foldl (λt (p,v)=>t.setIfInBounds p v) tmps,defers:=[] } D) (a5:∀pre x post C D a1,xs=pre++x::post->cY (λk=>B0 k\/k=l) (λk=>C k\/k=l) W D->J pre x a1 C D->¬C l->(∃r,D.heap[l]?=some (.loop r)/\r.defers=f) -> body.wpIn (Fence.wide.inRound l) 0 P (C6 Ia X (pre++[x]) C D) a1 D) : Calls P gf (#[.func (.yield l) #[] #[]]++lb) W λe W'=>(∃v,e=.returned v) /\ ∃C' st pe,cY (λk=>B0 k\/k=l) (λk=>C' k\/k=l) W W'/\¬C' l/\W'.heap[l]?=some (.loop {state:=st,pending:=pe,fn,tmps,params:=ps,assign,body,defers:=f })/\st≠.busy /\ ((pe=none/\Ia xs C' W')\/∃c pre x post,pe=some c/\xs=pre++x::post/\X c (pre++[x]) C' W'):=by
 have bs:l<W.heap.size:=ny hl;refine (hY l
  (λpre Cc D=>∃C,Cc=(λk=>C k\/k=l)/\¬C l/\Ia pre C D/\D.heap[l]?=some (.loop { state:=.ready,pending:=none,fn,tmps,params:=ps,assign,body,defers:=f }))
  (λpre Cc D=>∃C c,Cc=(λk=>C k\/k=l)/\¬C l/\X c pre C D/\D.heap[l]?=some (.loop { state:=.done,pending:=some c,fn,tmps,params:=ps,assign,body,defers:=f }))
  (λk=>C0 k\/k=l) (λk=>B0 k\/k=l) W (λk hk=>⟨(hM k hk).1,(hM k hk).2.1,λh=>h.elim (hM k hk).2.2 (λe=>b1 ((hB l).2 (.inr (e▸hk))))⟩) hs ?_ (λk=>by rw[hB];exact or_right_comm) ?_ ?_ ?_ ?_).mono ?_
 ·rintro k (h | rfl)
  ·exact b3 k h
  ·exact bs
 ·rintro pre Cc D W2 ⟨C,rfl,hn,hi,hr⟩ hsz hk;exact⟨C,rfl,hn,hI _ _ _ _ hi hsz (λk h=>hk k (.inl h)),(hk l (.inr rfl)).trans hr⟩
 ·rintro pre Cc D W2 ⟨C,c,rfl,hn,hi,hr⟩ hsz hk;exact⟨C,c,rfl,hn,hX c _ _ _ _ hi hsz (λk h=>hk k (.inl h)),(hk l (.inr rfl)).trans hr⟩
 ·rintro pre x post Cc D aw H ⟨C,rfl,hn,hi,hr⟩;have a9:l<D.heap.size:=ny hr;have hy:=run_yield (P:=P) (args:=enc x) hr (bh x);refine⟨fn,_,assign,body,hy,roundIn_of_wpIn (F:=bK) trivial (wpIn_mono (ao pre x post C D aw H hi hn ⟨_,hr,rfl⟩) ?_)⟩;clear hy;rintro e a1 W2 hp;cases e with
  |normal=>
   obtain⟨C1,a0,hj⟩:=hp;have a2:¬C1 l:=a0.not a9 hn;have hr2:W2.heap[l]?=_:=a0.1.at hr hn;have hlt2:l<W2.heap.size:=ny hr2;refine⟨_,run_beginRound hr2 rfl,?_⟩;have a7:=iY (w:=W2) (o:=.loop { state:=.busy,pending:=none,fn,tmps,params:=ps,assign,body,defers:=f }) hlt2;have q:∀ (Cz:Nat->Prop) (Wz:World) (o:Obj),¬Cz l->∀k,Cz k->(Wz.putObj l o).heap[k]?=Wz.heap[k]?:=λCz Wz o hz k hk=>eu (by rintro rfl;exact hz hk);have b2:=hJ pre x a1 () C1 W2 (W2.putObj l (.loop { state:=.busy,pending:=none,fn,tmps,params:=ps,assign,body,defers:=f })) hj (by simp) (q C1 W2 _ a2);have bb:cY (λk=>C k\/k=l) (λk=>C1 k\/k=l) D (W2.putObj l (.loop { state:=.busy,pending:=none,fn,tmps,params:=ps,assign,body,defers:=f })) :=
    ⟨(a0.1.weaken (λ_ _ h=>.inl h)).putObj (.inl (.inr rfl)) _,λk hk=>by
     rcases hk with hk|rfl
     ·rcases a0.2 k hk with h'|h'
      ·exact .inl (.inl h')
      ·exact .inr (by simpa using h')
     ·exact .inl (.inr rfl)⟩
   refine wpIn_mono (a5 pre x post C1 _ a1 aw (H.trans bb) b2 a2 ⟨_,a7,rfl⟩) ?_;have a4:∀ (n:Option Code) (C':Nat->Prop) (S:World),cY C1 C' (W2.putObj l (.loop { state:=.busy,pending:=none,fn,tmps,params:=ps,assign,body,defers:=f })) S ->
     ¬C' l/\(Instr.endRound l n).run P S=.ok (.bool n.isNone) (S.putObj l (.loop { state:=if n.isNone then .ready else .done,pending:=n,fn,tmps,params:=ps,assign,body,defers:=f })) /\
     (S.putObj l (.loop { state:=if n.isNone then .ready else .done,pending:=n,fn,tmps,params:=ps,assign,body,defers:=f })).heap[l]?=some (.loop { state:=if n.isNone then .ready else .done,pending:=n,fn,tmps,params:=ps,assign,body,defers:=f }) /\
     cY (λk=>C k\/k=l) (λk=>C' k\/k=l) D (S.putObj l (.loop { state:=if n.isNone then .ready else .done,pending:=n,fn,tmps,params:=ps,assign,body,defers:=f })):=by
    intro n C' S u;have bk:¬C' l:=u.not (by simpa using hlt2) a2;have a6:=u.1.at a7 a2;have a8:l<S.heap.size:=ny a6;refine⟨bk,run_endRound (P:=P) n a6,iY a8,bb.trans ⟨(u.1.weaken (λ_ _ h=>.inl h)).putObj (.inl (.inr rfl)) _,?_⟩⟩;rintro k (hk|rfl)
    ·rcases u.2 k hk with h'|h'
     ·exact .inl (.inl h')
     ·exact .inr (by simpa using h')
    ·exact .inl (.inr rfl)
   rintro e a3 S ag;cases e with
   |normal=>
    obtain⟨C',u,Z⟩:=ag;obtain⟨q1,q2,q3,q4⟩:=a4 none C' S u;exact⟨_,_,q2,true,rfl,_,q4,.inl ⟨rfl,C',rfl,q1,hI _ _ _ _ Z (by simp) (q C' S _ q1),q3⟩⟩
   |ret=>
    obtain⟨C',u,Z⟩:=ag;obtain⟨q1,q2,q3,q4⟩:=a4 (some .ret) C' S u;exact⟨_,_,q2,false,rfl,_,q4,.inr ⟨rfl,C',_,rfl,q1,hX _ _ _ _ _ Z (by simp) (q C' S _ q1),q3⟩⟩
   |exit id=>
    obtain⟨C',u,Z⟩:=ag;obtain⟨q1,q2,q3,q4⟩:=a4 (some (.exit id)) C' S u;exact⟨_,_,q2,false,rfl,_,q4,.inr ⟨rfl,C',_,rfl,q1,hX _ _ _ _ _ Z (by simp) (q C' S _ q1),q3⟩⟩
   |goto t=>
    obtain⟨C',u,Z⟩:=ag;obtain⟨q1,q2,q3,q4⟩:=a4 (some (.goto t)) C' S u;exact⟨_,_,q2,false,rfl,_,q4,.inr ⟨rfl,C',_,rfl,q1,hX _ _ _ _ _ Z (by simp) (q C' S _ q1),q3⟩⟩
   |panic ch=>exact ag.elim
   |outgrown=>exact ag.elim
  |ret=>exact hp.elim
  |exit id=>exact hp.elim
  |goto t=>exact hp.elim
  |panic ch=>exact hp.elim
  |outgrown=>exact hp.elim
 ·exact⟨C0,rfl,b0,h0,hl⟩
 ·rintro e W' ⟨hv,C',H,⟨C,rfl,hn,hi,hr⟩ | ⟨pre,x,post,aw,C,c,rfl,hn,hi,hr⟩⟩
  ·exact⟨hv,C,_,_,H,hn,hr,by simp,.inl ⟨rfl,hi⟩⟩
  ·exact⟨hv,C,_,_,H,hn,hr,by simp,.inr ⟨c,pre,x,post,rfl,aw,hi⟩⟩
theorem UC {α:Type} {g:Operand} {ps:Array Tmp} {assign body:Code} {Q:Exit->Act->World->Prop} {a:Act} {w:World} (gf:FuncId) (lb:Array Value) (hg:a.eval g=.func (.func gf) #[] lb) (eg:∀args w,(callFunc gf args).run P w=.ok (.enter gf args) w) {enc:α->Array Value} {xs:List α} {M:Nat->Prop} {W0:World} (hY:Hv P gf lb enc xs M W0) (hs:W0.heap.size<=w.heap.size) (a8:∀x,(enc x).size=ps.size) (Ia:List α->(Nat->Prop)->World->Prop) (X:Code->List α->(Nat->Prop)->World->Prop) (J:List α->α->Act->(Nat->Prop)->World->Prop) (hI:qk Ia) (hX:∀c,qk (X c)) (hJ:∀pre x a,qk (λ(_:Unit)=>J pre x a)) (C0 H:Nat->Prop) (ag:∀k,C0 k->k<w.heap.size) (hB:∀k,H k↔C0 k\/M k) (hM:∀k,M k->k<W0.heap.size/\w.heap[k]?=W0.heap[k]?/\¬C0 k) (h0:Ia [] C0 w) (Z:∀l pre x post C f,xs=pre++x::post->cY H C w f->Ia pre C f->¬C l->w.heap.size<=l->(∃r,f.heap[l]?=some (.loop r)) -> assign.wpIn (Fence.wide.inRound l) 0 P (Exit.then (λa1 q=>∃C1,cY C C1 f q/\J pre x a1 C1 q) (λ_ _ _=>False)) {tmps:=(ps.zip (enc x)).foldl (λt (p,v)=>t.setIfInBounds p v) a.tmps,defers:=[] } f) (a2:∀l pre x post C f a1,xs=pre++x::post->cY H C w f->J pre x a1 C f->¬C l->w.heap.size<=l->(∃r,f.heap[l]?=some (.loop r)) -> body.wpIn (Fence.wide.inRound l) 0 P (C6 Ia X (pre++[x]) C f) a1 f) (a0:∀ (d:Nat) (C:Nat->Prop) (W:World),cY H C w W->Ia xs C W->w.heap.size<=d->¬C d->W.heap[d]?=some (.deferred (some []))->Q .normal {a with defers:={target:=.collected d,args:=#[] }::a.defers } W) (aw:∀ (d:Nat) (c:Code) (pre:List α) (x:α) (post:List α) (C:Nat->Prop) (W:World),xs=pre++x::post->cY H C w W->X c (pre++[x]) C W->w.heap.size<=d->¬C d->W.heap[d]?=some (.deferred (some [])) -> c.wpIn bK 0 P Q {a with defers:={target:=.collected d,args:=#[] }::a.defers } W) : (Code.rangeFunc g ps assign body).wpIn bK 0 P Q a w:=by
 have a3:∀k,H k->k<w.heap.size:=λk hk=>by
  rcases (hB k).1 hk with h|h
  ·exact ag k h
  ·have:=(hM k h).1;omega
 refine wpIn_rangeFunc ?_;intro fn hfn;obtain⟨f,D⟩:∃f,(w.alloc (.deferred (some []))).alloc (.loop { state:=.ready,pending:=none,fn,tmps:=a.tmps,params:=ps,assign,body,defers:=w.heap.size })=f:=⟨_,rfl⟩;have a9:f.heap[w.heap.size+1]?=some (.loop { state:=.ready,pending:=none,fn,tmps:=a.tmps,params:=ps,assign,body,defers:=w.heap.size }):=by
  rw[<-D];have:=fQ (w.alloc (.deferred (some []))) (.loop { state:=.ready,pending:=none,fn,tmps:=a.tmps,params:=ps,assign,body,defers:=w.heap.size });rwa [World.size_alloc] at this
 have bb:f.heap[w.heap.size]?=some (.deferred (some [])):=by
  rw[<-D];exact (ik _ _ _ (by simp)).trans (fQ w _)
 have a7:Fr H w f:=by rw[<-D];exact ((Fr.refl H w).alloc _).alloc _
 have hsz:f.heap.size=w.heap.size+2:=by rw[<-D];simp
 have ao:∀k,k<w.heap.size->f.heap[k]?=w.heap[k]?:=λk hk=>by rw[<-D];exact (ik _ _ _ (by simp;omega)).trans (ik _ _ _ hk)
 have bh:Ia [] C0 f:=hI _ _ _ _ h0 a7.size (λk hk=>ao k (ag k hk));have u:∀ {C:Nat->Prop} {q:World},cY (λk=>H k\/k=w.heap.size+1) (λk=>C k\/k=w.heap.size+1) f q->¬C (w.heap.size+1)->cY H C w q/\¬C w.heap.size/\q.heap[w.heap.size]?=some (.deferred (some [])):=by
  intro C q h hn;have hnd:¬C w.heap.size:=λhc=>by
   rcases h.2 _ (.inl hc) with (h'|h')|h'
   ·have:=a3 _ h';omega
   ·omega
   ·omega
  refine⟨⟨a7.trans' h.1 (λi hi hc=>hc.resolve_right z1),λk hk=>?_⟩,hnd,h.1.at bb (λhc=>?_)⟩
  ·have h2:=h.1.size;rcases h.2 k (.inl hk) with (h'|h')|h'
   ·exact .inl h'
   ·exact absurd (h'▸hk) hn
   ·exact .inr z1
  ·rcases hc with hc|hc
   ·have:=a3 _ hc;omega
   ·omega
 refine⟨w.heap.size+1,[{ target:=.collected w.heap.size,args:=#[] }],f,{ target:=.fn (.func gf) lb,args:=#[.func (.yield (w.heap.size+1)) #[] #[]] },f,gf,
  #[.func (.yield (w.heap.size+1)) #[] #[]]++lb,f,?_,?_,?_,?_,λh=>by simp[bK] at h,callsIn_wide.2 ?_⟩
 ·rw[<-D];exact run_enterLoop_outer _ _ _ _ _
 ·simp only[resolve,hg];simp[go_sem]
 ·intro f' bk;trivial
 ·simp[invoke,go_sem,eg]
 ·refine (UB hY a8 Ia X J hI hX hJ C0 H f (w.heap.size+1) a9 (λh=>by have:=ag _ h;omega) (λh=>by have:=a3 _ h;omega)
   (λk hk=>⟨(hM k hk).1,(ao k (by have:=(hM k hk).1;omega)).trans (hM k hk).2.1,(hM k hk).2.2⟩) z1 (λk hk=>by have:=ag k hk;omega) hB bh ?_ ?_).mono ?_
  ·rintro pre x post C q S n hi hn ⟨r,hr,_⟩;exact Z _ pre x post C q S (u n hn).1 hi hn z1 ⟨r,hr⟩
  ·rintro pre x post C q a1 S n hj hn ⟨r,hr,_⟩;exact a2 _ pre x post C q a1 S (u n hn).1 hj hn z1 ⟨r,hr⟩
  ·rintro e q ⟨⟨v,rfl⟩,C',st,pe,n,hn,hr,a4,h⟩;obtain⟨q1,q2,q3⟩:=u n hn;have hlt2:w.heap.size+1<q.heap.size:=ny hr;have e1:∀o,cY H C' w (q.putObj (w.heap.size+1) o):=λo=>⟨q1.1.putObj (.inr z1) _,λk hk=>by have:=q1.2 k hk;simpa using this⟩;have a5:∀o,∀k,C' k->(q.putObj (w.heap.size+1) o).heap[k]?=q.heap[k]?:=λo k hk=>eu (by rintro rfl;exact hn hk);have a6:∀o,(q.putObj (w.heap.size+1) o).heap[w.heap.size]?=some (.deferred (some [])):=λo=>(eu z1).trans q3;rcases h with⟨rfl,hi⟩|⟨c,pre,x,post,rfl,S,hx⟩
   ·exact⟨none,_,run_endLoop (P:=P) hr a4,a0 _ C' _ (e1 _) (hI _ _ _ _ hi (by simp) (a5 _)) (aS _) q2 (a6 _)⟩
   ·exact⟨some c,_,run_endLoop (P:=P) hr a4,aw _ c pre x post C' _ S (e1 _) (hX _ _ _ _ _ hx (by simp) (a5 _)) (aS _) q2 (a6 _)⟩
end
section
variable {F:Fence} {P:Program} {w0:World} {K:Nat->Prop} {N:Nat} {dfs:List Deferred} {ops:Array Oper} {Q:Exit->Act->World->Prop} {rest:List Oper} {σ σ':List (Nat×Value)} {L L' R R0 As Bs:List bG} {o:Oper} {v:Value}
 {d:Nat} {t:TypeId} {op:Op} {ty:TypeId} {pos:String} {aft:Array Edge} {g:Option (Nat×Bool)} {x y z:Operand} {c c1 c2:Code} {k:Nat} {A B:bG} {RO:List (Nat×Obj)} {RD RD0:List bG}
def tf (P:Program) (gf:FuncId) (a:List Value) {α:Type} (enc:α->List Value) (xs:List α) (As:List bG):Prop :=
 ∀ (w:World) (M:Nat->Prop),aP As M w->Hv P gf a.toArray (λx=>(enc x).toArray) xs M w
theorem tf.intro {gf:FuncId} {fn:Func} {f:List Value} {α:Type} {enc:α->List Value} {xs:List α} (hf:P.funcs[gf]?=some fn) (hb:fn.body=some c) (hn:fn.ntmps=N) (hN:f.length+1<=N) (h:∀l w0 K (D X:List α->bG),YC P l enc xs D X w0 K -> TC bK P w0 K N [] (bodyPostM bK 0 P fn (FY xs D X w0 K)) c (vn (.func (.yield l) #[] #[]::f)) (D []::As)):tf P gf f enc xs As:=by
 subst hn;intro w M ag l D X C0 B0 W hM hsz Z hB S J hy h0;have u:aP As M W:=ag.loc hsz (λk hk=>(hM k hk).2.1);have:=h l W B0 (λpre=>Dd (D pre) (λC W W'=>S pre C W W')) (λpre=>Dd (X pre) (λC W W'=>J pre C W W')) (λpre x post C W1 n he hi=>by
  obtain⟨f1,t1,a1,b1,H,hr2⟩:=hy pre x post C W1 n he hi.1;refine⟨f1,t1,a1,b1,H,hr2.mono ?_⟩;rintro e w2 ⟨b,rfl,C',hx,hc⟩;have q:∀k,C' k->k<w2.heap.size:=λk hk=>by
   have:=hx.1.size;rcases hx.2 k hk with h|h
   ·have:=hi.2 k h;omega
   ·exact h.2
  exact⟨b,rfl,C',hx,hc.imp (λh=>⟨h.1,h.2,q⟩) (λh=>⟨h.1,h.2,q⟩)⟩)
 have hs:(Value.func (.yield l) #[] #[]::f).toArray=#[.func (.yield l) #[] #[]]++f.toArray:=by simp
 rw[<-hs];refine (zT hf hb (this _ W (zW _ (by simpa using hN)) ⟨B0,⟨C0,M,⟨h0,Z⟩,u,λk a b=>(hM k b).2.2 a,hB⟩,fy _ _⟩)).mono ?_;rintro e w' ⟨he,r⟩;refine⟨he,?_⟩;rcases r with⟨C',r,hx⟩|⟨pre,x,post,n,C',r,hx⟩
 ·obtain⟨C1,C2,g1,g2,_,g4⟩:=r;have:C'=C1:=funext λk=>propext (by rw[g4];exact⟨λh=>h.resolve_right (g2 k),.inl⟩);subst this;exact⟨C',hx,.inl g1.1⟩
 ·obtain⟨C1,C2,g1,g2,_,g4⟩:=r;have:C'=C1:=funext λk=>propext (by rw[g4];exact⟨λh=>h.resolve_right (g2 k),.inl⟩);subst this;exact⟨C',hx,.inr ⟨pre,x,post,n,g1.1⟩⟩
section
variable {α β γ δ:Type}
theorem UD {gf:FuncId} {J:List Value} {enc:α->List Value} {xs:List α} (ps:List Nat) {assign body:Code} (bs:Ro w0 K RO) (hg:ev σ x=some (.func (.func gf) #[] J.toArray)) (a5:∀args w,(callFunc gf args).run P w=.ok (.enter gf args) w) (hY:tf P gf J enc xs As) (Inv:List α->β->Prop) (LI:List α->β->List bG) (X:Code->List α->γ->Prop) (LX:Code->List α->γ->List bG) (σJ:List α->α->β->δ->List (Nat×Value)) (LJ:List α->α->β->δ->List bG) (b0:β) (h0:Inv [] b0) (hs:aH R0 (LI [] b0) R) (a8:aH L As R0) (a9:∀x,(enc x).length=ps.length) (bb:∀p∈ps,p<N) (H:∀l r pre e post b w1 Z,xs=pre++e::post->cY K Z w0 w1->Ro w1 Z (RO++[(l,.loop r)])->Inv pre b -> TC (Fence.wide.inRound l) P w1 Z N [] (Exit.then (λa w=>∃j,St w1 Z N [] (σJ pre e b j) (LJ pre e b j) a w) (λ_ _ _=>False)) assign (De ps (enc e) σ) (LI pre b)) (a0:∀l r pre e post b j w1 Z,xs=pre++e::post->cY K Z w0 w1->Ro w1 Z (RO++[(l,.loop r)])->Inv pre b->TC (Fence.wide.inRound l) P w1 Z N [] (RQ Inv LI X LX (pre++[e]) w1 Z) body (σJ pre e b j) (LJ pre e b j)) (aw:∀d b,Inv xs b->TX w0 K N ({target:=.collected d,args:=#[] }::dfs) Q .normal σ (R++(LI xs b++[iJ d]))) (ao:∀d c pre e post b,xs=pre++e::post->X c (pre++[e]) b->TC bK P w0 K N ({target:=.collected d,args:=#[] }::dfs) Q c σ (R++(LX c (pre++[e]) b++[iJ d]))) : TC bK P w0 K N dfs Q (.rangeFunc x ps.toArray assign body) σ L:=by
 intro a w ha hw;obtain⟨B1,C2,⟨M,C1,a6,g1,bh,b2⟩,g2,g3,gx,D⟩:=hw.split2 (a8.consS hs);have a4:=g1.lt;have a3:=aP.lt (L:=As) a6;have ag:∀ {C:Nat->Prop} {W:World},cY K C w0 W->Ro W C RO:=λ{C W} hx p hp=>by
  obtain⟨h1,h2⟩:=bs p hp;refine⟨hx.1.at h1 h2,λh=>?_⟩;rcases hx.2 _ h with h|h
  ·exact h2 h
  ·have:=ny h1;omega
 refine UC gf J.toArray (ha.ev hg) a5 (hY w M a6) (aS _) (λe=>by simp[a9])
  (λpre C W=>∃b,Inv pre b/\aP (LI pre b) C W) (λc pre C W=>∃b,X c pre b/\aP (LX c pre b) C W)
  (λpre e a1 C W=>∃b j,Inv pre b/\At N [] (σJ pre e b j) a1/\aP (LJ pre e b j) C W) ?_ ?_ ?_ C1 B1 a4 (λk=>by rw[b2];exact or_comm) (λk hk=>⟨a3 k hk,rfl,bh k hk⟩) ⟨b0,h0,g1⟩ ?_ ?_ ?_ ?_
 ·rintro pre C W W' ⟨b,h1,h2⟩ hs hk;exact⟨b,h1,h2.loc hs hk⟩
 ·rintro c pre C W W' ⟨b,h1,h2⟩ hs hk;exact⟨b,h1,h2.loc hs hk⟩
 ·rintro pre e a1 _ C W W' ⟨b,j,h1,h2,h3⟩ hs hk;exact⟨b,j,h1,h2,h3.loc hs hk⟩
 ·rintro l pre e post C W1 q f ⟨b,hb,hi⟩ hn hl ⟨r,hr⟩;have u:cY K C w0 W1:=gx.trans f;refine wpIn_mono (H l r pre e post b W1 C q u ((ag u).snoc hr hn) hb _ W1 (ha.zip ps (enc e) bb) ⟨C,hi,fy _ _⟩) ?_;rintro ex a' w' S;cases ex with
  |normal=>
   obtain⟨j,hj,C',b1,a7⟩:=S;exact⟨C',a7,b,j,hb,hj,b1⟩
  |_=>exact S
 ·rintro l pre e post C W1 a1 q f ⟨b,j,hb,bk,hi⟩ hn hl ⟨r,hr⟩;have u:cY K C w0 W1:=gx.trans f;refine wpIn_mono (a0 l r pre e post b j W1 C q u ((ag u).snoc hr hn) hb a1 W1 bk ⟨C,hi,fy _ _⟩) ?_;rintro ex a' w' S;cases ex with
  |normal=>obtain⟨b',h1,C',h2,h3⟩:=S;exact⟨C',h3,b',h1,h2⟩
  |ret=>obtain⟨b',h1,C',h2,h3⟩:=S;exact⟨C',h3,b',h1,h2⟩
  |exit id=>obtain⟨b',h1,C',h2,h3⟩:=S;exact⟨C',h3,b',h1,h2⟩
  |goto id=>obtain⟨b',h1,C',h2,h3⟩:=S;exact⟨C',h3,b',h1,h2⟩
  |panic _=>exact S
  |outgrown=>exact S
 ·rintro d C W f ⟨b,hb,hi⟩ hd a2 n;refine aw d b hb _ W ⟨ha.1,by rw[<-ha.2.1],ha.2.2⟩ (D _ (λk=>C k\/k=d) W ⟨f.1,λk hk=>?_⟩ ?_)
  ·rcases hk with hk|rfl
   ·exact f.2 k hk
   ·exact .inr ⟨hd,ny n⟩
  ·exact hi.append (rY ⟨λk=>Iff.rfl,n⟩) (λk hk e=>a2 (e▸hk))
 ·rintro d c pre e post C W q f ⟨b,hb,hi⟩ hd a2 n;refine ao d c pre e post b q hb _ W ⟨ha.1,by rw[<-ha.2.1],ha.2.2⟩ (D _ (λk=>C k\/k=d) W ⟨f.1,λk hk=>?_⟩ ?_)
  ·rcases hk with hk|rfl
   ·exact f.2 k hk
   ·exact .inr ⟨hd,ny n⟩
  ·exact hi.append (rY ⟨λk=>Iff.rfl,n⟩) (λk hk e=>a2 (e▸hk))
end
end
end Go.Proofs.YtncjnoakkghmmaaGreatDoor

namespace Go.Proofs
open Go.Shelf
def UE:Go.Shelf.Ren:=⟨fun | 106=>18 | 213=>46 | 265=>94 | n=>n,fun | 9=>9 | 3=>3 | n=>n,fun | n=>n⟩
theorem UF:Go.Proofs.Lays.n106 Tryz.prog UE:={
 mixed:=by kernel_rfl
 f106:=Tryz.func18.trans (congrArg some (by kernel_rfl))
 f213:=Tryz.func46.trans (congrArg some (by kernel_rfl))
 f265:=Tryz.func94.trans (congrArg some (by kernel_rfl))
 t3:=Tryz.underlying3
 a3:=Tryz.isAgg3
 z3:=Tryz.sizeOf3
 v3:=Tryz.zeroValue3
 t9:=Tryz.underlying9
 a9:=Tryz.isAgg9
 z9:=Tryz.sizeOf9
 v9:=Tryz.zeroValue9 }
open Go.RowKit in
theorem Tryz.strings_Compare (a b:ByteArray) (w:World) : Calls Tryz.prog 18 #[.string a,.string b] w λe w'=>e=.returned (.int .i64 (Lib.compareBytes a.data.toList b.data.toList))/\w'=w:=Any.strings_Compare UF a b w
def UG:Go.Shelf.Ren:=⟨fun | 143=>100 | 219=>134 | 217=>150 | 225=>151 | 224=>152 | 267=>153 | 266=>161 | 314=>162 | n=>n,fun | 9=>9 | 3=>3 | 4=>4 | 5=>5 | 46=>170 | 146=>193 | 51=>192 | n=>n,fun | 1=>0 | n=>n⟩
theorem UH:Go.Proofs.Lays.n143 Tryz.prog UG:={
 mixed:=by kernel_rfl
 f143:=Tryz.func100.trans (congrArg some (by kernel_rfl))
 f217:=Tryz.func150.trans (congrArg some (by kernel_rfl))
 f219:=Tryz.func134.trans (congrArg some (by kernel_rfl))
 f224:=Tryz.func152.trans (congrArg some (by kernel_rfl))
 f225:=Tryz.func151.trans (congrArg some (by kernel_rfl))
 f266:=Tryz.func161.trans (congrArg some (by kernel_rfl))
 f267:=Tryz.func153.trans (congrArg some (by kernel_rfl))
 f314:=Tryz.func162.trans (congrArg some (by kernel_rfl))
 t3:=Tryz.underlying3
 a3:=Tryz.isAgg3
 z3:=Tryz.sizeOf3
 v3:=Tryz.zeroValue3
 t4:=Tryz.underlying4
 a4:=Tryz.isAgg4
 z4:=Tryz.sizeOf4
 v4:=Tryz.zeroValue4
 t5:=Tryz.underlying5
 a5:=Tryz.isAgg5
 z5:=Tryz.sizeOf5
 v5:=Tryz.zeroValue5
 t9:=Tryz.underlying9
 a9:=Tryz.isAgg9
 z9:=Tryz.sizeOf9
 v9:=Tryz.zeroValue9
 t46:=Tryz.underlying170
 a46:=Tryz.isAgg170
 z46:=Tryz.sizeOf170
 v46:=Tryz.zeroValue170
 t51:=Tryz.underlying192
 a51:=Tryz.isAgg192
 z51:=Tryz.sizeOf192
 v51:=Tryz.zeroValue192
 t146:=Tryz.underlying193
 a146:=Tryz.isAgg193
 z146:=Tryz.sizeOf193
 v146:=Tryz.zeroValue193
 g1:=by kernel_rfl }
open Go.RowKit Go.Lib in
theorem Tryz.strings_Index_one (s:ByteArray) (c:UInt8) (w:World) : Calls Tryz.prog 100 #[.string s,.string ⟨#[c]⟩] w λe w'=>e=.returned (.int .i64 (Lib.indexByte s.data.toList c))/\w'=w:=Any.strings_Index_one UH s c w
end Go.Proofs

namespace Go.Proofs.YtncjnoakkghmmaaGreatDoor
open Go.RowKit Go.Lib
open Tryz
set_option linter.unusedVariables false
set_option linter.unusedSimpArgs false
open _root_.Array renaming getElem?_modify->ln
open _root_.Go.Builtin renaming unsafeSliceData_->ic,unsafeString_->kX
open _root_.Go.Extern.AbiNoEscape renaming same->wu
open _root_.Go.Fence renaming wide->bK
open _root_.Go.Lib renaming hid->n0,run_unsafeString_none->qA,run_unsafeSliceData_row->pU
open _root_.Go.Oper renaming semAt_some->mG,upon_value->o7
open cY renaming refl->fy,setCell->o0
open Hd renaming nil->fe
open aP renaming one1->aL
open _root_.Go.Result renaming andThen->mq
open _root_.Go.World renaming shape?->oE,setCell->nG
open _root_.List renaming mem_singleton->bd
open _root_.Option.some renaming inj->kV
open _root_.Prod renaming snd->fv
section
open Go.Shelf
theorem MT {P:Program} {f:FuncId} {vs:List Value} {v:Value} (h:∀w,Calls P f vs.toArray w λe w'=>e=.returned v/\w'=w):eO P f vs v:=λw=>(h w).mono λe w' ⟨h1,h2⟩=>⟨h1,h2▸Below.refl _ _⟩
theorem UI (s:V) {a:V} (h:a=⟨#[10]⟩):eO prog 100 [.string s,.string a] (.int .i64 (Lib.indexByte s.data.toList 10)):=by
 subst h;exact MT λw=>Tryz.strings_Index_one s 10 w
theorem yu (a b:V):eO prog 18 [.string a,.string b] (.int .i64 (Lib.compareBytes a.data.toList b.data.toList)):=MT λw=>Tryz.strings_Compare a b w
end
def wR (w0:World) (K:Nat->Prop):bG :=
  ⟨λC w=>(∀k,C k↔K k)/\(∀k,K k->k<w0.heap.size)/\w0.heap.size<=w.heap.size/\∀k,K k->w.heap[k]?=w0.heap[k]?,
   λh k hk=>Nat.lt_of_lt_of_le (h.2.1 k ((h.1 k).1 hk)) h.2.2.1,
   λh b hk=>⟨h.1,h.2.1,Nat.le_trans h.2.2.1 b,λk a=>(hk k ((h.1 k).2 a)).trans (h.2.2.2 k a)⟩⟩
def AL (P:Program) (f:FuncId) (vs:List Value) (RD:List bG) {β:Type} (a:β->Value) (b:β->List bG):Prop :=
 ∀w C,(∀k,C k->k<w.heap.size)->Rd w C RD->Calls P f vs.toArray w λe w'=>∃x:β,e=.returned (a x)/\Below w.heap.size w w'/\Rd w' C (b x)
def FD (P:Program) {β:Type} (a:β->Value) (b:β->List bG) (w0:World) (K:Nat->Prop) (e:Ending) (w:World):Prop:=∃x:β,e=.returned (a x)/\Below w0.heap.size w0 w/\Rd w K (b x)
section
variable {F:Fence} {P:Program} {w0:World} {K:Nat->Prop} {N:Nat} {dfs:List Deferred} {ops:Array Oper} {Q:Exit->Act->World->Prop} {rest:List Oper} {σ σ':List (Nat×Value)} {L L' R As Bs:List bG} {o:Oper} {v:Value}
 {d:Nat} {t:TypeId} {op:Op} {ty:TypeId} {pos:String} {aft:Array Edge} {g:Option (Nat×Bool)} {x y z:Operand} {c c1 c2:Code} {k:Nat} {A B:bG} {RD RD0:List bG} {e:TypeId} {ex:Exit}
theorem AL.intro {f:FuncId} {fn:Func} {vs:List Value} {β:Type} {a:β->Value} {b:β->List bG} (hf:P.funcs[f]?=some fn) (hb:fn.body=some c) (i:fn.ntmps=N) (l:vs.length<=N) (h:∀w0 K,Rd w0 K RD->TC bK P w0 K N [] (bodyPostM bK 0 P fn (FD P a b w0 K)) c (vn vs) [wR w0 K]):AL P f vs RD a b:=by
 subst i;intro w C m j;exact (zT hf hb (h w C j _ w (zW vs l) ⟨C,aP.one ⟨λk=>Iff.rfl,m,Nat.le_refl _,λk _=>rfl⟩,fy _ _⟩)).mono λe w' h=>h
theorem MU {fn:Func} (rs:List ResultVar) {vs:List Value} {β:Type} {m:β->Value} {n:β->List bG} {e:Exit} (b:β) (j:Rd w0 K RD) (he:e=.ret\/e=.normal) (i:fn.results=rs.toArray) (f:kj P σ L rs vs) (hv:vo vs=m b) (q:aH L (wR w0 K::As) R) (hB:∀C w,aP As C w->(∀k,C k->¬K k)->Rd w K RD->Rd w K (n b)):TX w0 K N [] (bodyPostM F 0 P fn (FD P m n w0 K)) e σ L:=by
 intro a w ha p;have h1:=zX _ i f ha p;have h2:LeavesInM F 0 P fn a.tmps (FD P m n w0 K) a.defers .returning w:=by
  rw[ha.2.1];refine⟨vo vs,h1,b,by rw[hv],?_⟩;obtain⟨C,hL,hx⟩:=p;obtain⟨C1,C2,⟨H,u,g1,g2,s,g4⟩,_,h3,r⟩:=q C w hL;have l:∀k,K k->C k:=λk hk=>(r k).2 (.inl ((g4 k).2 (.inl ((g1.1 k).2 hk))));refine⟨⟨hx.1.os,hx.1.tape,hx.1.output,hx.1.size,λk hk=>?_⟩,hB u w g2 (λk a b=>s k ((g1.1 k).2 b) a) λA hA=>?_⟩
  ·by_cases h:K k
   ·exact g1.2.2.2 k h
   ·exact hx.1.keep k hk h
  ·obtain⟨D,d1,d2⟩:=j.ext hx A hA;exact⟨D,d1,λk hk h=>d2 k hk (l k h)⟩
 rcases he with rfl|rfl<;>exact h2
theorem Hw {w1:World} {b:Nat->Prop} (hx:cY K b w0 w1) (h:TX w0 K N dfs Q ex σ L):TX w1 b N dfs Q ex σ L:=λa w ha ⟨C,f,h1⟩=>h a w ha ⟨C,f,hx.trans h1⟩
theorem UJ [bA F] {xs:List Operand} {m:Array TypeId} {f:FuncId} {first cap:Array Value} (vs:List Value){i:List Value} {β:Type} {D:β->Value} {H:β->List bG} (s:Rd w0 K RD0) (hg:gd ops σ g=some true) (hd:d<N) (hx:ev σ x=some (.func (.func f) first cap)) (r:evL σ xs=some vs) (hv:first.toList++vs++cap.toList=i) (p:∀args w,(callFunc f args).run P w=.ok (.enter f args) w) (S:AL P f i RD D H) (M:ry [] RD0 RD) (h:∀b w1 u,cY K u w0 w1->Rd w1 u (RD0++H b)->TO F P w1 u N dfs ops Q rest ((d,D b)::σ) L) : TO F P w0 K N dfs ops Q (⟨some d,.call {callee:=.value x,args:=xs.toArray,argTypes:=m },ty,pos,aft,g⟩::rest) σ L:=by
 intro a w ha J;simp only[wpListIn,wv (o:=⟨some d,.call { callee:=.value x,args:=xs.toArray,argTypes:=m },ty,pos,aft,g⟩) ha hg,if_true];refine⟨λf _=>bA.fn f,?_⟩;have h1:(execOp a.eval ⟨some d,.call { callee:=.value x,args:=xs.toArray,argTypes:=m },ty,pos,aft,g⟩).run P w=.ok (.enter f i.toArray) w:=by
  have e:first++vs.toArray++cap=i.toArray:=by rw[<-hv];simp
  simp only[execOp,resolve,List.map_toArray,ha.evL r,ha.ev hx,Deferred.ofValue,Sem.run_bind,Sem.run_pure,Result.andThen_ok,invoke,e,p]
 rw[Oper.semAt_plain F _ _ (by simp),h1];refine⟨(λh=>by rw[bA.depth (F:=F)] at h;cases h),?_⟩;obtain⟨C,hL,n⟩:=J;have j:Rd w C RD0:=s.ext n;have q:Rd w C RD:=M.rd (w0:=w0) (K:=K) (C2:=λ_=>False) (λ_ h=>h) (λ_ _ h=>h) j;refine bA.calls ((S w C hL.lt q).mono ?_);rintro e w' ⟨b,rfl,hb,hB⟩;have l:cY C C w w':=J0 hb;exact h b w' C (n.trans l) ((j.ext l).append hB) _ _ (ha.put hd _) ⟨C,hL.loc l.1.size (λk hk=>hb.block k (hL.lt k hk)),fy _ _⟩
theorem UK (m:aH L As R) (n:∀C w,aP As C w->B.P C w) (f:Rd w0 K RD0) (h:∀w1 i,cY K i w0 w1->Rd w1 i (RD0++[B])->TO F P w1 i N dfs ops Q rest σ R):TO F P w0 K N dfs ops Q rest σ L:=by
 intro a w ha l;obtain⟨C,hL,hx⟩:=l;obtain⟨C1,C2,g1,g2,p,g4⟩:=m C w hL;have b:cY K C2 w0 w:=hx.sub λk hk=>(g4 k).2 (.inr hk);refine h w C2 b ((f.ext b).append λX j=>?_) a w ha ⟨C2,g2,fy _ _⟩;rw[bd] at j;subst j;exact⟨C1,n C1 w g1,p⟩
theorem Rd.up0 {α:Type} {enc:α->List Value} {size m:Nat} {vv:Value} {xs:List α} {i:Nat} (hr:Rd w0 K RD) (hi:RD[i]?=some (iM enc size vv 0 xs)):Rd w0 K (RD++[iM enc size vv m xs]):=by
 have:=hr.up (m:=m) hi;rwa [Nat.zero_add] at this
theorem Vw.head {α:Type} {L xs:List α} {size k:Nat} {vv v:Value} (h:Vw vv L size k v xs):∃hd:Hd,v=hd.v:=by
 obtain⟨_,_,q,c,rfl,_⟩:=h;exact⟨⟨q,xs.length,c⟩,rfl⟩
theorem MV {α:Type} {enc:α->List Value} {size k:Nat} {e:TypeId} {vv:Value} {L xs:List α} {hd:Hd} (hz:∀x,(enc x).length=size) (hV:Vw vv L size k hd.v xs):rr (vec enc e size vv L) (nO enc size hd xs):=λC w h=>Sm hV (Lq hz h)
def qK (a:Nat) (hd:Hd) (xs:List V):bG:=if a=2 then cT else nO gK 1 hd xs
def pI (a:Nat) (hd:Hd) (xs:List V) (L:pG):Prop:=(a=0->hd=fe/\xs=[])/\(a=2->(xs,hd)∈L.map fv)
theorem pI.own {hd:Hd} {xs:List V} {L:pG}:pI 1 hd xs L:=⟨λh=>(nomatch h),λh=>(nomatch h)⟩
theorem pI.nil {L:pG}:pI 0 fe [] L:=⟨λ_=>⟨rfl,rfl⟩,λh=>(nomatch h)⟩
theorem pI.map {hd:Hd} {xs:List V} {L:pG} (h:(xs,hd)∈L.map fv):pI 2 hd xs L:=⟨λh=>(nomatch h),λ_=>h⟩
theorem Hy {e:TypeId} (hd:Hd) {xs:List V}:rr (vec gK e 1 hd.v xs) (qK 1 hd xs):=λC w h=>(show (nO gK 1 hd xs).P C w from GJ gG h)
theorem MW (hd:Hd) (xs:List V):rr cT (qK 2 hd xs):=λC w h=>h
theorem UL (e:TypeId):rr (vec gK e 1 (.slice none 0 0) []) (qK 0 fe []):=λC w h=>(show (nO gK 1 fe []).P C w from GJ (hd:=fe) gG h)
theorem MX {b:Nat} {hd:Hd} {xs:List V} {M:pG} {i:Nat} (hx:pI b hd xs M) (hi:RD[i]?=some (qY M)):∀C w,aP [qK b hd xs] C w->(∀k,C k->¬K k)->Rd w K RD->Rd w K [nO gK 1 hd xs]:=λC w h l j=>by
 by_cases hk:b=2
 ·obtain⟨D,m,f⟩:=j _ (List.mem_of_getElem? hi);intro B hB;rw[bd] at hB;subst hB;obtain⟨n,e1,e2⟩:=m.2 _ (hx.2 hk) _ (bd.2 rfl);exact⟨n,e1,λk a=>f k (e2 k a)⟩
 ·have h1:=aL.1 h;unfold qK at h1;rw[ai hk] at h1;intro B hB;rw[bd] at hB;subst hB;exact⟨C,h1,l⟩
theorem UM (e:TypeId) (hd:Hd) (xs:List V):∀C w,aP [vec gK e 1 hd.v xs] C w->(∀k,C k->¬K k)->Rd w K RD->Rd w K [nO gK 1 hd xs]:=λC w h a b=>by
 intro B hB;rw[bd] at hB;subst hB;exact⟨C,GJ gG (aL.1 h),a⟩
theorem UN [bA F] (kk:V) {M:pG} {l:List (V×List V)} (i:Nat){b:Nat} {mt m p:TypeId} (s:p5 M=l) (r:P.underlying m=some .string) (ht:P.underlying mt=some (.map m p)) (j:(P.info? p).bind (λi=>i.zero)=some (.slice none 0 0)) (hg:gd ops σ g=some true) (hd:d<N) (hx:ev σ x=some (.map (some b))) (hy:ev σ y=some (.string kk)) (hr:Rd w0 K RD) (hi:RD[i]?=some (rB b M)) (h:∀hd:Hd,(∀xs,cf kk l=some xs->(xs,hd)∈M.map fv)->TO F P w0 K N dfs ops Q rest ((d,.tuple #[hd.v,.bool (cf kk l).isSome])::σ) L) : TO F P w0 K N dfs ops Q (⟨some d,.lookup mt x y true,ty,pos,aft,g⟩::rest) σ L:=by
 subst s;have hb:((cf kk M).getD ([],fe)).2.v=rA ((cf kk M).getD ([],fe)):=rfl;refine DA i _ rA _ ([],fe) (M:=M) (ou r) ht j hg hd hx hy hr hi ?_;have h1:=h ((cf kk M).getD ([],fe)).2 (λxs a=>by
  rw[xX] at a;cases f:cf kk M with
  |none=>rw[f] at a;cases a
  |some q=>
   rw[f] at a;have:q.1=xs:=kV a;subst this;exact DC kk q M f)
 rw[xX,hb] at h1;cases n:cf kk M with
 |none=>rw[n] at h1;exact h1
 |some q=>rw[n] at h1;exact h1
end

section
open Go.Shelf
attribute [local go_sem] mG
theorem UO:(prog.info? 5).map (λi=>(i.zero,i.size,i.bytes))=some (some (.int .u8 0),1,1):=by kernel_rfl
theorem MY:∃j,prog.info? 156=some j/\j.size≠0:=by
 have h:(prog.info? 156).map (λj=>decide (j.size≠0))=some true:=by kernel_rfl
 cases hj:prog.info? 156 with
 |none=>rw[hj] at h;simp at h
 |some j=>rw[hj] at h;exact⟨j,rfl,by simpa using h⟩
theorem UP (b:Nat) (v:Value) (w:World) (h:w.heap[b]?=some (.cells #[.pointer none,v] 156 (0,0))) : Calls prog 143 #[.pointer (some ⟨b,0,none⟩)] w λe w'=>e=.returned (.tuple #[])/\w'=w.setCell ⟨b,0,none⟩ (.pointer (some ⟨b,0,none⟩)):=by
 have c0:w.cell? ⟨b,0,none⟩=some (.pointer none):=qB h rfl;have f0:=JY h 0;have a:w.shape? b=some (156,2):=by simp[oE,h]
 obtain⟨j,hj,f⟩:=MY;clear h;go_enter func143,ntmps143;go_wp2;rw[Lib.run_to_unsafe w ⟨b,0,none⟩ (t:=156) kr kr hj f a (Nat.zero_lt_succ 1)];simp only[mq];rw[o7];go_wp2;rw[run_callFunc_extern func156 kr kr kr (e:=wu) kr];rw[Lib.run_noEscape];simp only[mq];rw[o7];go_wp2;rw[Lib.run_from_unsafe w ⟨b,0,none⟩ (u:=156) kr kr hj a kr];simp only[mq];rw[o7];go_wp2
 go_end0
 exact⟨rfl,rfl⟩
theorem UQ (b:Nat) (v:Value) (w:World) (h:w.heap[b]?=some (.cells #[.pointer (some ⟨b,0,none⟩),v] 156 (0,0))) : Calls prog 143 #[.pointer (some ⟨b,0,none⟩)] w λe w'=>e=.returned (.tuple #[])/\w'=w:=by
 have c0:w.cell? ⟨b,0,none⟩=some (.pointer (some ⟨b,0,none⟩)):=qB h rfl;obtain⟨j,hj,a⟩:=MY;clear h;go_enter func143,ntmps143;go_wp2;rw[Lib.run_neq_ptr_same w _ (te:=156) kr hj];go_wp2
 go_end0
 exact⟨rfl,rfl⟩
def uE (b:Nat) (bs:V) (C:Nat->Prop) (w:World):Prop :=
 ∃p v D,w.heap[b]?=some (.cells #[p,v] 156 (0,0))/\(p=.pointer none\/p=.pointer (some ⟨b,0,none⟩))/\mv 5 v bs D w/\¬D b/\C=(λk=>k=b\/D k)
theorem uE.local {b:Nat} {bs:V} {C:Nat->Prop} {w w':World} (h:uE b bs C w) (hk:∀k,C k->w'.heap[k]?=w.heap[k]?):uE b bs C w':=by
 obtain⟨p,v,D,h1,h2,h3,a,rfl⟩:=h;exact⟨p,v,D,(hk b (.inl rfl)).trans h1,h2,h3.local (λk h=>hk k (.inr h)),a,rfl⟩
theorem uE.lt {b:Nat} {bs:V} {C:Nat->Prop} {w:World} (h:uE b bs C w):∀k,C k->k<w.heap.size:=by
 obtain⟨p,v,D,h1,h2,h3,a,rfl⟩:=h;rintro k (rfl|hk)
 ·exact ny h1
 ·exact h3.lt k hk
theorem UR (b:Nat) (bs s:V) (C:Nat->Prop) (w:World) (h:uE b bs C w) (hn:bs.size+s.size<=140737488355328) : Calls prog 113 #[.pointer (some ⟨b,0,none⟩),.string s] w λe w'=>(∃u,e=.returned u)/\∃C',uE b (bs++s) C' w'/\cY C C' w w':=by
 obtain⟨p,v,D,f,hp,j,n,rfl⟩:=h;obtain⟨ip,a1,aw,a0,a2⟩:=info_parts UO;obtain⟨w1,a3,q,W,M⟩:∃w1,(Calls prog 143 #[.pointer (some ⟨b,0,none⟩)] w λe w'=>e=.returned (.tuple #[])/\w'=w1) /\
   w1.heap[b]?=some (.cells #[.pointer (some ⟨b,0,none⟩),v] 156 (0,0))/\mv 5 v bs D w1/\cY (λk=>k=b\/D k) (λk=>k=b\/D k) w w1:=by
  rcases hp with rfl|rfl
  ·have hx:cY (λk=>k=b) (λk=>k=b) w (w.setCell ⟨b,0,none⟩ (.pointer (some ⟨b,0,none⟩))):=o0 (C':=λk=>k=b) (fy _ _) (p:=⟨b,0,none⟩) rfl _;refine⟨_,UP b v w f,?_,j.ext hx (by rintro k hk rfl;exact n hk),o0 (C':=λk=>k=b\/D k) (fy _ _) (p:=⟨b,0,none⟩) (.inl rfl) _⟩;simp[nG,ln,f]
  ·exact⟨w,UQ b v w f,f,j,fy _ _⟩
 have c1:w1.cell? ⟨b,1,none⟩=some v:=qB q rfl;have S:b<w1.heap.size:=ny q;have a9:=n0 f;have a8:=n0 j;have a4:=n0 M;clear f j M;go_enter func113,ntmps113
 go_wp2_with (first | (go_at_call 143;refine a3.mono ?_;rintro e w' ⟨rfl,rfl⟩) | (refine QS _ rfl _ _ _ _ rfl 5 _ kr kr a1 aw a0 a2 _ _ _ rfl W _ rfl hn ?_))
 rintro v' r H hr2 i;have l:r.heap[b]?=some (.cells #[.pointer (some ⟨b,0,none⟩),v] 156 (0,0)):=(i.1.keep b S n).trans q;have f1:=JY l 1;have d1:r.cell? ⟨b,1,none⟩=some v:=qB l rfl;have m:¬H b:=i.not S n;obtain⟨ao,Z,a,rfl⟩:∃ao Z a,v'=.slice ao Z a:=by
  rcases hr2.shape with⟨rfl,_⟩|⟨g,cap,a7,rfl,_⟩<;>exact⟨_,_,_,rfl⟩
 have a5:=n0 hr2;have X:=n0 i;have a6:=n0 l;clear hr2 i l;go_wp2
 go_ret2
 have ag:cY (λk=>k=b\/H k) (λk=>k=b\/H k) r (r.setCell ⟨b,1,none⟩ (.slice ao Z a)):=o0 (C':=λk=>k=b\/H k) (fy _ _) (p:=⟨b,1,none⟩) (.inl rfl) _;have J:cY (λk=>k=b) (λk=>k=b) r (r.setCell ⟨b,1,none⟩ (.slice ao Z a)):=o0 (C':=λk=>k=b) (fy _ _) (p:=⟨b,1,none⟩) rfl _;refine⟨⟨_,rfl⟩,λk=>k=b\/H k,⟨_,_,H,?_,.inr rfl,a5.out.ext J (by rintro k hk rfl;exact m hk),m,rfl⟩,?_⟩
 ·simp[nG,ln,a6.out]
 ·refine (a4.out.trans ?_).trans ag;exact⟨X.out.1.weaken (λk _ h=>.inr h),λk hk=>by
   rcases hk with rfl|hk
   ·exact .inl (.inl rfl)
   ·exact (X.out.2 k hk).imp .inr id⟩
theorem US {C C':Nat->Prop} {a w:World} (h:cY C C' a w) {g:Nat} (hg:C' g) (m:Nat):cY C C' a (w.freeze ⟨g,0,none⟩ m):=by
 unfold World.freeze;split
 ·exact h
 ·have j:∀f:Obj->Obj,({ w with heap:=w.heap.modify g f }:World).heap.size=w.heap.size:=λf=>by simp
  refine⟨⟨h.1.os,h.1.tape,h.1.output,by simpa using h.1.size,λk hk b=>?_⟩,λk hk=>by simpa using h.2 k hk⟩;rw[ln];rw[ai]
  ·exact h.1.keep k hk b
  ·intro e;have i:g=k:=e;subst i;rcases h.2 _ hg with h'|h'
   ·exact b h'
   ·omega
theorem UT (b:Nat) (bs:V) (C:Nat->Prop) (w:World) (h:uE b bs C w) : Calls prog 114 #[.pointer (some ⟨b,0,none⟩)] w λe w'=>e=.returned (.string bs)/\cY C C w w':=by
 obtain⟨p,v,D,a,hp,f,a1,rfl⟩:=h;rcases f.shape with⟨rfl,rfl,rfl⟩|⟨g,cap,i,rfl,a2,ao,ag,rfl,hg⟩
 ·have c1:w.drew.cell? ⟨b,1,none⟩=some (.slice none 0 0):=qB (w:=w.drew) a rfl;have u:(ic #[154] 178 #[.slice none 0 0]).run prog w.drew=.ok (.pointer none) w.drew:=rfl;have H:∀W q,(kX #[178,3] 9 #[.pointer q,.int .i64 0]).run prog W=.ok (.string .empty) W:=λW q=>qA W _ _ _ q;clear a f;go_enter func114,ntmps114;go_wp2;go_region
  all_goals (go_wp2;go_ret;exact⟨rfl,(fy _ _).drew⟩)
 ·by_cases h0:bs.size=0
  ·have n:bs=⟨#[]⟩:=by apply ByteArray.ext;exact Array.eq_empty_of_size_eq_zero h0
   subst n;have aw:(⟨#[]⟩:V).size=0:=rfl;rw[aw] at a f;have H:∀W q,(kX #[178,3] 9 #[.pointer q,.int .i64 0]).run prog W=.ok (.string .empty) W:=λW q=>qA W _ _ _ q;have c1:w.drew.cell? ⟨b,1,none⟩=some (.slice (some ⟨g,0,none⟩) 0 cap):=qB (w:=w.drew) a rfl;by_cases s:cap=0
   ·subst s;have u:(ic #[154] 178 #[.slice (some ⟨g,0,none⟩) 0 0]).run prog w.drew=.ok (.pointer (some ⟨w.drew.heap.size,0,none⟩)) (w.drew.alloc (.view ⟨g,0,none⟩ 5)) :=
     Lib.run_unsafeSliceData_zero w.drew _ _ 5 kr ⟨g,0,none⟩ 0 (5,i.size) (by have r:w.drew.heap[g]?=some (.cells i 5 (0,0)):=hg;simp[oE,r])
    have S:=ny a;have c2:(w.drew.alloc (.view ⟨g,0,none⟩ 5)).cell? ⟨b,1,none⟩=some (.slice (some ⟨g,0,none⟩) 0 0):=qB (w:=w.drew.alloc _) ((Below.heap_alloc w.drew _ b S).trans a) rfl;have c3:(w.alloc (.view ⟨g,0,none⟩ 5)).drew.cell? ⟨b,1,none⟩=some (.slice (some ⟨g,0,none⟩) 0 0):=c2;have c0:w.cell? ⟨b,1,none⟩=some (.slice (some ⟨g,0,none⟩) 0 0):=c1;clear a f hg;go_enter func114,ntmps114;go_wp2;go_region
    all_goals (go_wp2;go_ret;exact⟨rfl,(fy _ _).drew.alloc _⟩)
   ·have u:(ic #[154] 178 #[.slice (some ⟨g,0,none⟩) 0 cap]).run prog w.drew=.ok (.pointer (some ⟨g,0,none⟩)) w.drew:=pU _ _ _ _ _ _ s;clear a f hg s;go_enter func114,ntmps114;go_wp2;go_region
    all_goals (go_wp2;go_ret;exact⟨rfl,(fy _ _).drew⟩)
  ·obtain⟨l,M⟩:∃l,l=bs.data.toList:=⟨_,rfl⟩;have m:l.length=bs.size:=by rw[M,Array.length_toList];rfl
   have n:bs=⟨l.toArray⟩:=by rw[M]
   have X:l≠[]:=by intro e;rw[e] at m;exact h0 m.symm
   rw[<-m] at a ao f;have c1:w.drew.cell? ⟨b,1,none⟩=some (.slice (some ⟨g,0,none⟩) l.length cap):=qB (w:=w.drew) a rfl;have u:(ic #[154] 178 #[.slice (some ⟨g,0,none⟩) l.length cap]).run prog w.drew=.ok (.pointer (some ⟨g,0,none⟩)) w.drew :=
    pU _ _ _ _ _ _ z1
   have Z:i.size=cap*1:=by
    rcases f.1.2 with⟨h1,_⟩|⟨g',J,a0,h1,_,h3,_,_,h6,_⟩
    ·cases h1
    ·have e1:g=g':=by injection h1 with q1 q2 q3;injection q1 with q1;injection q1
     have e2:cap=J:=by injection h1
     subst e1;subst e2;rw[hg] at h3;injection h3 with h3;injection h3 with h3;rw[h3];exact h6
   have H:(kX #[178,3] 9 #[.pointer (some ⟨g,0,none⟩),.int .i64 l.length]).run prog w.drew=.ok (.string ⟨l.toArray⟩) (w.drew.freeze ⟨g,0,none⟩ l.length):=by
    refine Lib.run_unsafeString_row w.drew 178 3 9 5 kr kr g i.size (by have r:w.drew.heap[g]?=some (.cells i 5 (0,0)):=hg;simp[oE,r]) l X z1 (by unfold maxLen at ag;omega) ?_;intro j x hx;refine World.ownsRow.cells f.1 (g:=g) rfl j (.int .u8 x.toNat) ?_;unfold strCells;rw[List.getElem?_map,<-M,hx];rfl
   rw[n];have hx:cY (λk=>k=b\/k=g) (λk=>k=b\/k=g) w (w.drew.freeze ⟨g,0,none⟩ l.length):=US ((fy _ _).drew) (.inr rfl) _;have Hx:=n0 hx;clear a f hg hx n m Z;clear M;go_enter func114,ntmps114;go_wp2;go_region
   all_goals (go_wp2;go_ret;exact⟨rfl,Hx.out⟩)
end
section
open Go.Shelf
attribute [local go_sem] mG
def uF (b:Nat) (bs:V):bG:=⟨λC w=>uE b bs C w,λh=>h.lt,λh _ hk=>h.local hk⟩
theorem MZ (b:Nat) (bs s:V) (a:bs.size+s.size<=140737488355328):Fn prog 113 [.pointer (some ⟨b,0,none⟩),.string s] [uF b bs] (λu:Value=>u) (λ_=>[uF b (bs++s)]):=by
 intro w C hA;refine (UR b bs s C w (aL.1 hA) a).mono ?_;rintro e w' ⟨⟨u,rfl⟩,C',h1,h2⟩;exact⟨u,rfl,C',aL.2 h1,h2⟩
theorem UU (b:Nat) (bs:V):Fn prog 114 [.pointer (some ⟨b,0,none⟩)] [uF b bs] (λ_:Unit=>.string bs) (λ_=>[]):=by
 intro w C hA;refine (UT b bs C w (aL.1 hA)).mono ?_;rintro e w' ⟨rfl,h2⟩;exact⟨(),rfl,λ_=>False,λ_ h=>h,h2.1,λk hk=>hk.elim⟩
theorem UV {b:Nat}:rr (cells b [.pointer none,.slice none 0 0] 156) (uF b ⟨#[]⟩):=by
 intro C w h;have a:C=λk=>k=b:=funext λk=>propext (h.1 k);subst a;exact⟨_,_,_,h.2,.inl rfl,mv.nil,by simp,by funext k;simp⟩
end
end Go.Proofs.YtncjnoakkghmmaaGreatDoor

namespace Go.Proofs
open Go.Shelf
def Tryz.laysNm222_ren:Go.Shelf.Ren:=⟨fun | 22=>56 | 29=>105 | 30=>106 | 36=>137 | 17=>154 | n=>n,fun | 24=>22 | 9=>9 | 3=>3 | 4=>4 | 0=>0 | n=>n,fun | n=>n⟩
theorem AM:Go.Proofs.Lays2.n22 Tryz.prog Tryz.laysNm222_ren:={
 mixed:=by kernel_rfl
 f17:=Tryz.func154.trans (congrArg some (by kernel_rfl))
 f22:=Tryz.func56.trans (congrArg some (by kernel_rfl))
 f29:=Tryz.func105.trans (congrArg some (by kernel_rfl))
 f30:=Tryz.func106.trans (congrArg some (by kernel_rfl))
 f36:=Tryz.func137.trans (congrArg some (by kernel_rfl))
 t0:=Tryz.underlying0
 a0:=Tryz.isAgg0
 z0:=Tryz.sizeOf0
 v0:=Tryz.zeroValue0
 t3:=Tryz.underlying3
 a3:=Tryz.isAgg3
 z3:=Tryz.sizeOf3
 v3:=Tryz.zeroValue3
 t4:=Tryz.underlying4
 a4:=Tryz.isAgg4
 z4:=Tryz.sizeOf4
 v4:=Tryz.zeroValue4
 t9:=Tryz.underlying9
 a9:=Tryz.isAgg9
 z9:=Tryz.sizeOf9
 v9:=Tryz.zeroValue9
 t24:=Tryz.underlying22
 a24:=Tryz.isAgg22
 z24:=Tryz.sizeOf22
 v24:=Tryz.zeroValue22
 i9:=by kernel_rfl }
end Go.Proofs

namespace Go.Proofs.YtncjnoakkghmmaaGreatDoor
open Go.RowKit Go.Lib
open Tryz
set_option linter.unusedVariables false
set_option linter.unusedSimpArgs false
open _root_.Array renaming length_toList->eC
open _root_.Bool renaming and_eq_true->aN
open _root_.Go.Addr renaming add->pu
open _root_.Go.Builtin renaming zeroCells->cN
open _root_.Go.Ending renaming returned->pC
open _root_.Go.Instr renaming sliceAt->iG,sliceBounds->kI
open _root_.Go.Proofs.Any2 renaming slices_Insert_string_end_grow->ng
open _root_.Go.Proofs.YtncjnoakkghmmaaGreatDoor renaming obj->nu
open cY renaming refl->fy
open Fr renaming refl->qd
open Hd renaming nil->fe
open aP renaming one->rY
open _root_.Go.Sem renaming run_bind->al
open _root_.Go.Value renaming string->ad,ownBlock->cn
open _root_.Go.World renaming shape?->oE,frozen?->nH,alloc_heap_new->fQ
open _root_.List renaming length_map->ax,take_left->lD,length_append->aa,length_singleton->sb,getElem?_take->iQ,drop_eq_nil_of_le->bD,length_drop->aR,length_take->aZ,append_assoc->av,take_append_of_le_length->oC,take_take->l6,take_length->lL,getElem?_eq_some_iff->aq,replicate->aO,length_replicate->mV
open _root_.Nat renaming le_refl->aS,mul_one->nZ,zero_le->bT,zero_add->bY,min_eq_left->px
open _root_.Option.some renaming inj->kV
section
open Go.Shelf
def ky (xs:List V) (i:Int) (x:V):List V:=xs.take i.toNat++x::xs.drop i.toNat
theorem yv:∀ (vs l:List Value) (j:Nat),j+vs.length<=l.length->sS l j vs=l.take j++vs++l.drop (j+vs.length)
 |[],l,j,h=>by simp[sS]
 |v::vs,l,j,h=>by
  have h:j+(vs.length+1)<=l.length:=h;have a:=yv vs (l.set j v) (j+1) (by rw[List.length_set];omega);show sS (l.set j v) (j+1) vs=_;have h1:(l.set j v).take (j+1)=l.take j++[v]:=by
   rw[List.take_add_one,List.take_set_of_le (aS _)];have:(l.set j v)[j]?=some v:=by rw[List.getElem?_set_self z1]
   rw[this];rfl
  have h2:(l.set j v).drop (j+1+vs.length)=l.drop (j+1+vs.length):=List.drop_set_of_lt z1;have h3:j+(v::vs).length=j+1+vs.length:=by rw[List.length_cons];omega
  rw[a,h1,h2,h3];simp
theorem yw (g:Nat) {e:TypeId}:∀ (vs:List Value) (j:Nat) (l:List Value) (w:World),w.heap[g]?=some (.cells l.toArray e (0,0)) ->
  (w.setCells g j vs).heap[g]?=some (.cells (sS l j vs).toArray e (0,0))/\Fr (λk=>k=g) w (w.setCells g j vs)
 |[],j,l,w,h=>⟨h,qd _ _⟩
 |v::vs,j,l,w,h=>by
  have h1:(w.setCell ⟨g,j,none⟩ v).heap[g]?=some (.cells (l.set j v).toArray e (0,0)):=by
   simp[World.setCell,h,Array.getElem?_modify]
  obtain⟨h2,h3⟩:=yw _ vs (j+1) (l.set j v) _ h1;exact⟨h2,((qd (λk=>k=g) w).setCell (p:=⟨g,j,none⟩) (.inl rfl) v).trans h3⟩
theorem Hz (xs:List V):xs.flatMap gK=xs.map ad:=by
 induction xs with
 |nil=>rfl
 |cons x xs a=>rw[List.flatMap_cons,a];rfl
theorem M0 {e:TypeId} {w:World} {g cap n:Nat} {a:List Value} {ys:List V} (hg:w.heap[g]?=some (.cells a.toArray e (0,0))) (b:n=ys.length) (hc:n<=cap) (hm:cap<=maxLen) (f:a.length=cap) (ht:a.take n=ys.map ad) : ji gK e 1 (.slice (some ⟨g,0,none⟩) n cap) ys (λk=>k=g) w:=by
 subst b;refine⟨⟨by rw[Hz,ax,nZ],.inr ⟨g,cap,a.toArray,rfl,bT _,hg,hc,hm,by simp[f],?_⟩⟩,?_⟩
 ·rw[Hz,nZ];exact ht
 ·funext k;simp[cn];exact eq_comm
theorem HA (cs:List Value) (k:Nat) (x:Value) (hk:k<=cs.length) (a:List Value):(cs.take k++[x]++cs.drop k++a).take (cs.length+1)=cs.take k++x::cs.drop k:=by
 have h1:(cs.take k++[x]++cs.drop k).length=cs.length+1:=by simp;omega
 rw[<-h1,lD];simp
theorem D6 (xs:List V) (k:Nat) (x:V):(ky xs (k:Int) x).map ad=(xs.map ad).take k++ad x::(xs.map ad).drop k:=by
 simp[ky,List.map_take,List.map_drop]
theorem UW {v:Value} {xs:List V} {i:Int} {vb:Nat} (x:V) (h:0<=i/\i<=(xs.length:Int)/\xs.length<=2147483648) : Fn prog 56 [v,.int .i64 i,.slice (some ⟨vb,0,none⟩) 1 1] [vec gK 9 1 v xs,cells vb [.string x] 9] (λr:Value=>r) (λr=>[vec gK 9 1 r (ky xs i x)]):=by
 intro w C hs;obtain⟨C1,C2,h1,cc,hd,hC⟩:=hs;have h2:(cells vb [.string x] 9).P C2 w:=aP.one1.1 cc;have h1:ji gK 9 1 v xs C1 w:=h1;obtain⟨k,rfl⟩:∃k:Nat,i=k:=⟨i.toNat,by omega⟩;have hk:k<=xs.length:=by omega
 have hb:w.heap[vb]?=some (.cells #[.string x] 9 (0,0)):=h2.2;have S:∀j u,[ad x][j]?=some u->w.cell? ⟨vb,0+j,none⟩=some u:=λj u hj=>by
  rw[bY];exact qB hb (by simpa using hj)
 have aw:∀u∈[ad x],u.oneCell'=true:=λu hu=>by rw[List.mem_singleton.1 hu];rfl
 have b3:w.shape? vb=some (9,1):=by simp[oE,hb]
 have bh:∀j,w.frozen? ⟨vb,j,none⟩=false:=λj=>by simp[nH,hb]
 have c3:=ji.lt h1;have l:(xs.map ad).length=xs.length:=ax _;have q:∀ (w':World) (cap:Nat) (f:List Value),w'.heap[w.heap.size]?=some (.cells f.toArray 9 (0,0))->Fr (λk=>w.heap.size<=k) w w'->w.heap.size<w'.heap.size->xs.length+1<=cap->cap<=maxLen->f.length=cap->f.take (xs.length+1)=(ky xs (k:Int) x).map ad ->
   ∃y:Value,pC (.slice (some ⟨w.heap.size,0,none⟩) (xs.length+1) cap)=.returned y/\∃C',aP [vec gK 9 1 y (ky xs (k:Int) x)] C' w'/\cY C C' w w':=λw' cap f hg hF hz hn hm hl ht=>by
  have X:xs.length+1=(ky xs (k:Int) x).length:=by simp[ky];omega
  refine⟨_,rfl,_,rY (A:=vec gK 9 1 _ (ky xs (k:Int) x)) (M0 hg X hn hm hl ht),hF.weaken (λi hi hh=>absurd hi z1),λj hj=>.inr ⟨by omega,by omega⟩⟩
 rcases h1.shape with⟨rfl,rfl,_⟩|⟨g,cap,rfl,c4,a0,bk,a6⟩
 ·obtain rfl:k=0:=by simpa using hk
  refine (ng AM none 0 0 vb 0 1 1 [] [.string x] w z1 z1 z1 z1 rfl rfl (λ_=>rfl) (λa ha=>by cases ha) S aw).mono ?_;rintro e w' ⟨rfl,rfl⟩;generalize hZ:grownCap w (0+1) 0 (Tryz.laysNm222_ren.t 9)=p;have hG:0+1<=p:=hZ▸grownCap_ge _ _ _ _;have ao:p<=maxLen:=hZ▸grownCap_le_maxLen _ _ _ _ (by decide);have h8:∀n,(cN (ad ⟨#[]⟩).cells n).size=n*1:=λn=>size_zeroCells _ _;have hA0:(([]++[ad x]).toArray++cN (ad ⟨#[]⟩).cells (p-(0+1)))=([ad x]++(cN (ad ⟨#[]⟩).cells (p-(0+1))).toList).toArray:=by simp
  rw[hA0];refine q _ _ ([.string x]++(cN (ad ⟨#[]⟩).cells (p-(0+1))).toList) (fQ w.drew _) (((qd _ w).drew).alloc _) (by simp) hG ao ?_ rfl;simp only[aa,sb,eC,h8];omega
 ·obtain⟨ch,c5⟩:=h1;rcases ch.2 with⟨hv,_⟩|⟨g',b0,f,hv,_,hg,c0,cv,a4,W⟩
  ·cases hv
  obtain⟨rfl,rfl⟩:g=g'/\cap=b0:=by injection hv with a b c;injection a with a;injection a with a;exact⟨a,c⟩
  rw[nZ] at a4 W;rw[Hz] at W;have hg:w.heap[g]?=some (.cells f.toList.toArray 9 (0,0)):=by rw[hg]
  have b5:vb≠g:=λe=>hd g ((a6▸rfl:C1 g)) ((h2.1 g).2 e.symm);have J:f.toList.length=cap:=by simpa using a4
  have ag:∀j u,f.toList[j]?=some u->w.cell? ⟨g,0+j,none⟩=some u:=λj u hj=>by
   rw[bY];exact qB hg (by simpa using hj)
  have Z:∀j u,(xs.map ad)[j]?=some u->w.cell? ⟨g,0+j,none⟩=some u:=λj u hj=>by
   rw[<-W,iQ] at hj;split at hj
   ·exact ag j u hj
   ·cases hj
  have bb:∀j,w.frozen? ⟨g,j,none⟩=false:=λj=>by simp[nH,hg]
  have a9:∀j,j<cap->(w.cell? ⟨g,0+j,none⟩).isSome=true:=λj hj=>by
   rw[ag j (f.toList[j]'z1) (List.getElem?_eq_getElem z1)];rfl
  have b2:w.shape? g=some (9,cap):=by simp[oE,hg,a4]
  have a1:cap<=9223372036854775807:=by simpa [maxLen] using bk
  have bs:∀u∈xs.map ad,u.oneCell'=true:=λu hu=>by
   obtain⟨y,_,rfl⟩:=List.mem_map.1 hu;rfl
  have M:∀ (w':World) (D:List Value),w'.heap[g]?=some (.cells D.toArray 9 (0,0))->Fr (λk=>k=g) w w'->xs.length+1<=cap->D.length=cap->D.take (xs.length+1)=(ky xs (k:Int) x).map ad ->
    ∃y:Value,pC (.slice (some ⟨g,0,none⟩) (xs.length+1) cap)=.returned y/\∃C',aP [vec gK 9 1 y (ky xs (k:Int) x)] C' w'/\cY C C' w w':=λw' D hg hF hn hl ht=>by
   have X:xs.length+1=(ky xs (k:Int) x).length:=by simp[ky];omega
   refine⟨_,rfl,_,rY (A:=vec gK 9 1 _ (ky xs (k:Int) x)) (M0 hg X hn bk hl ht),hF.weaken (λi hi hh=>(hC i).2 (.inl (a6▸hh))),λj hj=>.inl ((hC j).2 (.inl (a6▸hj)))⟩
  by_cases m:xs.length+1<=cap
  ·by_cases a2:k=xs.length
   ·subst a2;refine (Any2.slices_Insert_string_end_room AM g 0 xs.length cap vb 0 1 1 [.string x] w z1 m a1 rfl (λj hj=>by have:=a9 (xs.length+j) z1;rwa [<-Nat.add_assoc] at this) (λj hj=>bb _) S aw).mono ?_;rintro e w' ⟨rfl,rfl⟩;obtain⟨q1,q2⟩:=yw g [.string x] (0+xs.length) f.toList w hg;refine M _ _ q1 q2 m (by rw[vj];exact J) ?_;rw[yv _ _ _ (by rw[J];simp;omega),bY,W,D6];have h7:=HA (xs.map ad) xs.length (.string x) (by rw[l];exact aS _) (f.toList.drop (xs.length+[ad x].length));rw[l] at h7;rw[<-h7];have h6:(xs.map ad).take xs.length=xs.map ad:=List.take_of_length_le (by rw[l];exact aS _);have h5:(xs.map ad).drop xs.length=[]:=bD (by rw[l];exact aS _);rw[h6,h5,List.append_nil]
   ·refine (Any2.slices_Insert_string_shift AM g 0 xs.length cap k vb 0 1 1 (xs.map ad) [.string x] w z1 z1 m a1 b5 l rfl Z (λj hj=>a9 j z1) (λj hj=>bb _) S bs aw 9 9 1 cap b3 b2 z1 (bh 0) (bh 1)).mono ?_;rintro e w' ⟨rfl,rfl⟩;have b4:w.drew.heap[g]?=some (.cells f.toList.toArray 9 (0,0)):=hg;obtain⟨q1,q2⟩:=yw g ((xs.map ad).drop k) (0+(k+1)) f.toList w.drew b4;obtain⟨q3,q4⟩:=yw g [.string x] (0+k) _ _ q1;refine M _ _ q3 (((qd _ w).drew.trans q2).trans q4) m (by rw[vj,vj];exact J) ?_;have a3:((xs.map ad).drop k).length=xs.length-k:=by rw[aR,l]
    rw[yv _ _ _ (by rw[vj,J];simp;omega),yv _ _ _ (by rw[J,a3];omega),bY,bY,D6];have ha:(f.toList.take (k+1)).length=k+1:=by rw[aZ,J];omega
    have a5:(f.toList.take (k+1)++(xs.map ad).drop k++f.toList.drop (k+1+((xs.map ad).drop k).length)).take k=(xs.map ad).take k:=by
     rw[av,oC (by rw[ha];omega),l6,px z1,<-W,l6,px z1]
    have b6:(f.toList.take (k+1)++(xs.map ad).drop k++f.toList.drop (k+1+((xs.map ad).drop k).length)).drop (k+[ad x].length)=(xs.map ad).drop k++f.toList.drop (k+1+((xs.map ad).drop k).length):=by
     rw[av];have:k+[ad x].length=(f.toList.take (k+1)).length:=by rw[ha];rfl
     rw[this,List.drop_left]
    rw[a5,b6,<-av,<-l];exact HA _ _ _ (by rw[l];exact hk) _
  ·by_cases a2:k=xs.length
   ·subst a2;refine (ng AM (some ⟨g,0,none⟩) xs.length cap vb 0 1 1 (xs.map ad) [.string x] w z1 a0 z1 z1 l rfl (λh=>by cases h) (λa ha j u hj=>by cases ha;rw[Addr.add_lit];exact Z j u hj) S aw).mono ?_;rintro e w' ⟨rfl,rfl⟩;generalize hZ:grownCap w (xs.length+1) cap (Tryz.laysNm222_ren.t 9)=p;have hG:xs.length+1<=p:=hZ▸grownCap_ge _ _ _ _;have ao:p<=maxLen:=hZ▸grownCap_le_maxLen _ _ _ _ (by simp only[maxLen];omega);have h8:∀n,(cN (ad ⟨#[]⟩).cells n).size=n*1:=λn=>size_zeroCells _ _;have hA0:((xs.map ad++[ad x]).toArray++cN (ad ⟨#[]⟩).cells (p-(xs.length+1)))=(xs.map ad++[ad x]++(cN (ad ⟨#[]⟩).cells (p-(xs.length+1))).toList).toArray:=by simp
    rw[hA0];refine q _ _ (xs.map ad++[.string x]++(cN (ad ⟨#[]⟩).cells (p-(xs.length+1))).toList) (fQ w.drew _) (((qd _ w).drew).alloc _) (by simp) hG ao ?_ ?_
    ·simp only[aa,sb,eC,h8,l];omega
    ·have h6:(xs.map ad++[ad x]).length=xs.length+1:=by simp
     rw[<-h6,lD,D6,<-l,lL,List.drop_length]
   ·refine (Any2.slices_Insert_string_grow AM g 0 xs.length cap k vb 0 1 1 (xs.map ad) [.string x] w z1 z1 a0 z1 z1 l rfl Z S bs aw).mono ?_;rintro e w' ⟨rfl,rfl⟩;have h8:∀n,(cN (ad ⟨#[]⟩).cells n).size=n*1:=λn=>size_zeroCells _ _;generalize hZ:grownCap w (xs.length+1) cap (Tryz.laysNm222_ren.t 9)=p;have hG:xs.length+1<=p:=hZ▸grownCap_ge _ _ _ _;have ao:p<=maxLen:=hZ▸grownCap_le_maxLen _ _ _ _ (by simp only[maxLen];omega);obtain⟨A,hA⟩:∃A:List Value,A=(xs.map ad).take k++(cN (ad ⟨#[]⟩).cells (xs.length+1-k)).toList++(cN (ad ⟨#[]⟩).cells (p-(xs.length+1))).toList:=⟨_,rfl⟩;have a7:A.length=p:=by
     rw[hA];simp only[aa,aZ,eC,h8,l];omega
    have hA0:(((xs.map ad).take k).toArray++cN (ad ⟨#[]⟩).cells (xs.length+1-k)++cN (ad ⟨#[]⟩).cells (p-(xs.length+1)))=A.toArray:=by rw[hA];simp
    rw[hA0];have q0:(w.alloc (.cells A.toArray 9)).drew.heap[w.heap.size]?=some (.cells A.toArray 9 (0,0)):=fQ w _;obtain⟨q1,q2⟩:=yw w.heap.size [.string x] k A _ q0;have b1:(((w.alloc (.cells A.toArray 9)).drew.setCells w.heap.size k [.string x]).drew).heap[w.heap.size]?=some (.cells (sS A k [.string x]).toArray 9 (0,0)):=q1;obtain⟨q3,q4⟩:=yw w.heap.size ((xs.map ad).drop k) (k+1) _ _ b1;have b9:Fr (λk=>w.heap.size<=k) w (w.alloc (.cells A.toArray 9)).drew:=((qd _ w).alloc _).drew;have b8:=(b9.trans' (q2.weaken (C':=λk=>w.heap.size<=k) (λi _ h=>by omega)) (λi _ h=>h)).drew.trans' (q4.weaken (C':=λk=>w.heap.size<=k) (λi _ h=>by omega)) (λi _ h=>h);have a3:((xs.map ad).drop k).length=xs.length-k:=by rw[aR,l]
    refine q _ _ _ q3 b8 (ny q3) hG ao (by rw[vj,vj];exact a7) ?_;have a8:((xs.map ad).take k).length=k:=by rw[aZ,l];omega
    rw[yv _ _ _ (by rw[vj,a7,a3];omega),yv _ _ _ (by rw[a7];simp;omega),D6];have b7:A.take k=(xs.map ad).take k:=by
     rw[hA,av,oC (by rw[a8];exact aS _),l6,Nat.min_self]
    have a5:(A.take k++[ad x]++A.drop (k+[ad x].length)).take (k+1)=(xs.map ad).take k++[ad x]:=by
     have:((xs.map ad).take k++[ad x]).length=k+1:=by rw[aa,a8];rfl
     rw[b7,<-this,lD]
    rw[a5,<-l];exact HA _ _ _ (by rw[l];exact hk) _
end
section
variable {F:Fence} {P:Program} {w0:World} {K:Nat->Prop} {N:Nat} {dfs:List Deferred} {ops:Array Oper} {Q:Exit->Act->World->Prop} {rest:List Oper} {σ σ':List (Nat×Value)} {L L' R As Bs:List bG} {o:Oper} {v:Value}
 {d:Nat} {t:TypeId} {op:Op} {ty:TypeId} {pos:String} {aft:Array Edge} {g:Option (Nat×Bool)} {x y z:Operand} {c c1 c2:Code} {k:Nat} {A B:bG} {RD RD0:List bG} {e:TypeId} {ex:Exit}
theorem UX {n:Nat} {hd:Hd} {xs:List V} {M:pG} (i:Nat) (q:aH L [qK n hd xs] R) (hx:pI n hd xs M) (hi:RD0[i]?=some (qY M)) (l:Rd w0 K RD0) (h:∀w1 m,cY K m w0 w1->Rd w1 m (RD0++[nO gK 1 hd xs])->TO F P w1 m N dfs ops Q rest σ R):TO F P w0 K N dfs ops Q rest σ L:=by
 intro a w ha p;obtain⟨C,hL,f⟩:=p;obtain⟨C1,C2,g1,g2,r,g4⟩:=q C w hL;have b:cY K C2 w0 w:=f.sub λk hk=>(g4 k).2 (.inr hk);have h1:=l.ext b;exact h w C2 b (h1.append (MX hx hi C1 w g1 r h1)) a w ha ⟨C2,g2,fy _ _⟩
theorem UY [bA F] (kk:V) {M:pG} {p:List (V×List V)} (i:Nat){b:Nat} {mt m n:TypeId} (u:p5 M=p) (r:P.underlying m=some .string) (ht:P.underlying mt=some (.map m n)) (l:(P.info? n).bind (λi=>i.zero)=some (.slice none 0 0)) (hg:gd ops σ g=some true) (hd:d<N) (hx:ev σ x=some (.map (some b))) (hy:ev σ y=some (.string kk)) (hr:Rd w0 K RD) (hi:RD[i]?=some (rB b M)) (h:∀hd:Hd,(∀xs,cf kk p=some xs->(xs,hd)∈M.map Prod.snd)->TO F P w0 K N dfs ops Q rest ((d,hd.v)::σ) L) : TO F P w0 K N dfs ops Q (⟨some d,.lookup mt x y false,ty,pos,aft,g⟩::rest) σ L:=by
 subst u;have hb:((cf kk M).getD ([],fe)).2.v=rA ((cf kk M).getD ([],fe)):=rfl;refine tJ i _ rA _ ([],fe) (M:=M) (ou r) ht l hg hd hx hy hr hi ?_;have h1:=h ((cf kk M).getD ([],fe)).2 (λxs a=>by
  rw[xX] at a;cases f:cf kk M with
  |none=>rw[f] at a;cases a
  |some q=>
   rw[f] at a;have:q.1=xs:=kV a;subst this;exact DC kk q M f)
 rw[hb] at h1;exact h1
end
section
variable {F:Fence} {P:Program} {w0:World} {K:Nat->Prop} {N:Nat} {dfs:List Deferred} {ops:Array Oper} {Q:Exit->Act->World->Prop} {rest:List Oper} {σ:List (Nat×Value)} {L RD:List bG}
 {d:Nat} {ty:TypeId} {pos:String} {aft:Array Edge} {g:Option (Nat×Bool)} {s x:Operand} {t e e2:TypeId} {k k2 j size:Nat} {vv v2 v:Value} {α:Type} {enc:α->List Value} {xs ys Ls:List α}
theorem M1 {C:Nat->Prop} {w:World} {q:Option Addr} {c n m:Nat} (b:∀x,(enc x).length=size) (h:ji enc e size (.slice q m c) xs C w) (hm:n<=m):ji enc e size (.slice q n c) (xs.take n) C w:=by
 obtain⟨⟨h1,h2⟩,rfl⟩:=h;have i:=sR b xs;have hfn:=sR b (xs.take n);rcases h2 with⟨h2,h3⟩|⟨D,cap,f,h2,h3,u,h5,r,p,l⟩
 ·cases h2;have:xs=[]:=List.length_eq_zero_iff.1 h3;subst this;obtain rfl:n=0:=by omega
  exact⟨⟨by simp,.inl ⟨rfl,by simp⟩⟩,rfl⟩
 ·cases h2;have a:(xs.take n).length=n:=by rw[aZ];omega
  refine⟨⟨by rw[hfn],.inr ⟨D,c,f,by rw[a],h3,u,by rw[a];omega,r,p,?_⟩⟩,by funext k;simp[cn]⟩;rw[a];have e1:(xs.take n).flatMap enc=(xs.flatMap enc).take (n*size):=by
   conv=>rhs;rw[<-List.take_append_drop n xs,List.flatMap_append]
   rw[List.take_left' (by rw[hfn,a])]
  rw[e1,<-l,l6,px (Nat.mul_le_mul_right _ hm)]
theorem UZ (P:Program) {t e:TypeId} {size:Nat} {q:Option Addr} {m c n:Nat} (ht:P.underlying t=some (.slice e)) (h:bI P e size) (b:q=none\/∃a,q=some ⟨a,0,none⟩) (h1:n<=m) (h2:m<=c) (w:World) : (iG t (.slice q m c) none (some (.int .i64 n)) none).run P w=.ok (.slice q n c) w:=by
 obtain⟨f,hu,p⟩:=h.some;have e1:∀w:World,(kI true m c none (some (.int .i64 n)) none).run P w=.ok (0,n,c) w:=by
  intro w;have l:n<=c:=by omega
  have i:¬c<n:=by omega
  unfold kI;simp[al,Instr.sliceBound,asIntOf,l,i]
 have e2:(if c=0 then q else q.map (·.add (0*f.size)))=q:=by
  rcases b with rfl|⟨a,rfl⟩
  ·split<;>rfl
  ·split
   ·rfl
   ·simp[pu]
 simp only[iG,Instr.slice,al,run_underlying ht,Result.andThen_ok,e1];simp[sizeOf,typeInfo,hu,al]
 try (rcases b with rfl | ⟨a,rfl⟩<;>simp[pu])
theorem U0 [bA F] {n:Int} {hi:Operand} (ht:P.underlying t=some (.slice e)) (M:bI P e size) (f:∀x,(enc x).length=size) (hg:gd ops σ g=some true) (hd:d<N) (D:ev σ s=some vv) (l:ev σ hi=some (.int .i64 n)) (hk:L[k]?=some (vec enc e size vv xs)) (S:0<=n/\n<=(xs.length:Int)) (h:∀r,TO F P w0 K N dfs ops Q rest ((d,r)::σ) (L.set k (vec enc e size r (xs.take n.toNat)))) : TO F P w0 K N dfs ops Q (⟨some d,.slice t s none (some hi) none,ty,pos,aft,g⟩::rest) σ L:=by
 obtain⟨m,rfl⟩:∃m:Nat,n=m:=⟨n.toNat,by omega⟩;refine pD hg (by simp) λa w ha u=>?_;obtain⟨C,i,b⟩:=u.focus hk;have hm:m<=xs.length:=by omega
 have key:∃q c,vv=.slice q xs.length c/\(q=none\/∃p,q=some ⟨p,0,none⟩)/\xs.length<=c:=by
  rcases ji.shape i with⟨h1,h2,_⟩|⟨p,cap,h1,_,h2,_,_⟩
  ·exact⟨none,0,by rw[h1,h2];rfl,.inl rfl,by rw[h2];exact aS _⟩
  ·exact⟨_,cap,h1,.inr ⟨p,rfl⟩,h2⟩
 obtain⟨q,c,rfl,J,hc⟩:=key;have hr:=UZ P ht M J hm hc w;refine⟨.slice q m c,w,?_,h (.slice q m c) _ _ (ha.put hd _) (b _ C w (fy _ _) ?_)⟩
 ·simp only[execOp,ha.ev D,ha.ev l,Option.map_none,Option.map_some,al,hr];rfl
 ·exact M1 f i hm
end

section
variable {F:Fence} {P:Program} {w0:World} {K:Nat->Prop} {N:Nat} {dfs:List Deferred} {Q:Exit->Act->World->Prop} {σ:List (Nat×Value)} {L:List bG}
def cr (F:Fence) (P:Program) (w0:World) (K:Nat->Prop) (N:Nat) (dfs:List Deferred) (Q:Exit->Act->World->Prop) (ops:Array Oper) (σ:List (Nat×Value)) (L:List bG) (b:List (Nat×Nat×Value)) (e:Nat):List Oper->Nat->Prop
 |[],_=>True
 |o::rest,i=>(i≠e->∀D:Nat->Prop,¬D i->(∀j∈kf o,D j)->Clo ops D->D e->jn (b.map (λp=>p.2.1))=true->jn (b.map (λp=>p.1))=true ->
   TO F P w0 K N dfs ops (Exit.then (λa w=>At N dfs (dl (λj=>D j\/j=i) b++σ) a/\Holds w0 K L w) Q) [o] (dl D b++σ) L)/\cr F P w0 K N dfs Q ops σ L b e rest (i+1)
theorem cr.nil {ops:Array Oper} {a:List (Nat×Nat×Value)} {e i:Nat}:cr F P w0 K N dfs Q ops σ L a e [] i:=trivial
theorem cr.cons {ops:Array Oper} {b:List (Nat×Nat×Value)} {o:Oper} {rest:List Oper} {e i:Nat} (h:∀D:Nat->Prop,¬D i->(∀j∈kf o,D j)->Clo ops D->jn (b.map (λp=>p.2.1))=true->jn (b.map (λp=>p.1))=true -> TO F P w0 K N dfs ops (Exit.then (λa w=>At N dfs (dl (λj=>D j\/j=i) b++σ) a/\Holds w0 K L w) Q) [o] (dl D b++σ) L) (f:cr F P w0 K N dfs Q ops σ L b e rest (i+1)) : cr F P w0 K N dfs Q ops σ L b e (o::rest) i:=⟨λ_ D l hd hc _=>h D l hd hc,f⟩
theorem cr.here {ops:Array Oper} {a:List (Nat×Nat×Value)} {o:Oper} {rest:List Oper} {e:Nat} (b:cr F P w0 K N dfs Q ops σ L a e rest (e+1)) : cr F P w0 K N dfs Q ops σ L a e (o::rest) e:=⟨λh=>absurd rfl h,b⟩
theorem iP {l:List Oper} {a:List (Nat×Nat×Value)} {o f:Oper} {rest:List Oper} {e i:Nat} (m:l[e]?=some f) (hb:((sU l).getD e []).contains i=true) (p:cr F P w0 K N dfs Q l.toArray σ L a e rest (i+1)) : cr F P w0 K N dfs Q l.toArray σ L a e (o::rest) i :=
 ⟨λ_ D q hd b h _ _=>absurd (Gi l e f m i (by simpa using hb) D (λk n hk=>b k n (by simpa using hk)) (b e f (by simpa using m) h)) q,p⟩
theorem cr.get {ops:Array Oper} {b:List (Nat×Nat×Value)} {e:Nat}:∀ {l:List Oper} {k:Nat},cr F P w0 K N dfs Q ops σ L b e l k->∀i o,l[i]?=some o->k+i≠e->∀D:Nat->Prop,¬D (k+i)->(∀j∈kf o,D j)->Clo ops D->D e->jn (b.map (λp=>p.2.1))=true->jn (b.map (λp=>p.1))=true ->
   TO F P w0 K N dfs ops (Exit.then (λa w=>At N dfs (dl (λj=>D j\/j=k+i) b++σ) a/\Holds w0 K L w) Q) [o] (dl D b++σ) L
 |[],k,_,i,o,h=>by simp at h
 |x::l,k,h,0,o,ho=>by simp at ho;subst ho;exact h.1
 |x::l,k,h,i+1,o,ho=>by
  have:=cr.get h.2 i o (by simpa using ho);rwa [show k+1+i=k+(i+1) by omega] at this
theorem D7 {id:Nat} {l:List Oper} (β:Type) (n e:Nat) (o:Oper) (f:List (Nat×Nat×Value)) (s1:β->List (Nat×Value)) (L1:β->List bG) (hm:P.follows .mixedOrders=true) (bb:(l.zipIdx.all λ(o,i)=>(kf o).all λj=>decide (j<i))=true) (hT:wy l n=true) (ho:l[e]?=some o) (b4:e<n) (a8:n<=l.length) (hval:f.all (λp=>decide (p.1<n)&&p.1 != e)=true) (hu:jn (f.map (λp=>p.2.1))=true) (hi:jn (f.map (λp=>p.1))=true) (a0:ce F P w0 K N dfs Q l.toArray σ L f e (l.take n) 0) (ao:∀b,cr F P w0 K N dfs Q l.toArray (s1 b++σ) (L1 b) f e (l.take n) 0) (a3:∀D:Nat->Prop,¬D e->(∀j∈kf o,D j)->Clo l.toArray D->TO F P w0 K N dfs l.toArray (Exit.then (λa w=>∃b,At N dfs (dl D f++(s1 b++σ)) a/\Holds w0 K (L1 b) w) Q) [o] (dl D f++σ) L) (Z:∀b,TO F P w0 K N dfs l.toArray Q (l.drop n) (f.map (λp=>p.2)++(s1 b++σ)) (L1 b)):TC F P w0 K N dfs Q (.region id l.toArray true) σ L:=by
 intro a w ha hw;have a4:=Gj hT;have b5:e<l.length:=(aq.1 ho).1;obtain⟨J,hJ⟩:∃J:(Nat->Prop)->Act->World->Prop,J=(λD a w=>Clo l.toArray D/\((∃k,n<k/\(∀j,D j↔j<k)/\wpListIn F 0 P l.toArray Q (l.drop k) a w) \/
  ((∀j,D j->j<n)/\((¬D e/\At N dfs (dl D f++σ) a/\Holds w0 K L w)\/(D e/\∃b,At N dfs (dl D f++(s1 b++σ)) a/\Holds w0 K (L1 b) w))))):=⟨_,rfl⟩
 have bs:∀ (D:Nat->Prop),dl (λj=>D j\/j=e) f=dl D f:=λD=>by
  have:∀ (vs:List (Nat×Nat×Value)),vs.all (λp=>decide (p.1<n)&&p.1 != e)=true->dl (λj=>D j\/j=e) vs=dl D vs:=by
   intro vs
   induction vs with
   |nil=>intro _;rfl
   |cons p vs ih=>
    obtain⟨i,t,v⟩:=p;intro h;simp only[List.all_cons,aN,decide_eq_true_eq,cQ,ne_eq] at h;simp only[dl,ih h.2];by_cases hd:D i
    ·rw[aj (.inl hd),aj hd]
    ·rw[ai hd,ai (by rintro (h' | h');exact hd h';exact h.1.2 h')]
  exact this f hval
 have aw:∀p∈f,p.1<n:=λp hp=>by
  have:=List.all_eq_true.1 hval p hp;simp only[aN,decide_eq_true_eq] at this;exact this.1
 refine C8 hm (by simpa using bb) J (by subst hJ;exact⟨λi o _ h=>h.elim,.inr ⟨λ_ h=>h.elim,.inl ⟨λh=>h,by rw[zZ];exact ha,hw.drew⟩⟩⟩) ?_ ?_
 ·have all:∀ (m:List Oper) (k:Nat),(∀i o,m[i]?=some o->l[k+i]?=some o)->gU F 0 P l.toArray Q J m k:=by
   intro m
   induction m with
   |nil=>intro k _;trivial
   |cons q m ih=>
    intro k hl;refine⟨?_,ih (k+1) (λi o' a7=>by have:=hl (i+1) o' (by simpa using a7);rwa [show k+1+i=k+(i+1) by omega])⟩;have hq:l[k]?=some q:=hl 0 q rfl;subst hJ;rintro D a w hn hd ⟨W,hI⟩;have S:Clo l.toArray (λj=>D j\/j=k):=W.add (by simpa using hq) hd;have b3:k<l.length:=(aq.1 hq).1;have ag:l.drop k=q::l.drop (k+1):=by
     obtain⟨h1,h2⟩:=aq.1 hq;rw[<-h2];exact List.drop_eq_getElem_cons h1
    rcases hI with⟨m,a9,X,M⟩|⟨X,hI⟩
    ·have bh:k=m:=by
      have h1:¬k<m:=λh=>hn ((X k).2 h);have h2:=a4 D W k q z1 hq hd;by_cases h3:m<k
      ·have:=(X _).1 (h2 _ h3);omega
      ·omega
     subst bh;rw[ag] at M;refine ql (λa' w' h=>⟨S,.inl ⟨k+1,by omega,λj=>?_,h⟩⟩) (xH M);show D j\/j=k↔_;rw[X];omega
    ·by_cases hk:k<n
     ·by_cases a2:k=e
      ·subst a2;have a6:q=o:=by rw[ho] at hq;exact (kV hq).symm
       subst a6;rcases hI with⟨r,u,C⟩|⟨r,_⟩
       ·refine ql (λa' w' h=>⟨S,.inr ⟨λj hj=>?_,.inr ⟨.inr rfl,?_⟩⟩⟩) (a3 D r hd W a w u C)
        ·rcases hj with hj|rfl
         ·exact X j hj
         ·exact hk
        ·rw[bs];exact h
       ·exact absurd r hn
      ·have a1:(l.take n)[k]?=some q:=by rw[List.getElem?_take_of_lt hk];exact hq
       rcases hI with⟨r,u,C⟩|⟨r,b,u,C⟩
       ·have:=a0.get k q a1 z1 D (by rwa [bY]) hd W hu hi a w u C;rw[bY] at this;refine ql (λa' w' h=>⟨S,.inr ⟨λj hj=>?_,.inl ⟨?_,h.1,h.2⟩⟩⟩) this
        ·rcases hj with hj|rfl
         ·exact X j hj
         ·exact hk
        ·rintro (h | h)
         ·exact r h
         ·exact a2 h.symm
       ·have:=(ao b).get k q a1 z1 D (by rwa [bY]) hd W r hu hi a w u C;rw[bY] at this;refine ql (λa' w' h=>⟨S,.inr ⟨λj hj=>?_,.inr ⟨.inl r,b,h.1,h.2⟩⟩⟩) this;rcases hj with hj|rfl
        ·exact X j hj
        ·exact hk
     ·have hall:=a4 D W k q z1 hq hd;have bk:k=n:=by
       by_cases h:n<k
       ·have:=X _ (hall _ h);omega
       ·omega
      subst bk;rcases hI with⟨r,_⟩|⟨r,b,u,C⟩
      ·exact absurd (hall e z1) r
      ·have M:wpListIn F 0 P l.toArray Q (l.drop k) a w:=by
        refine Z b a w ?_ C;rw[vp (λp hp=>hall _ (aw p hp))] at u;exact u
       rw[ag] at M;refine ql (λa' w' h=>⟨S,.inl ⟨k+1,by omega,λj=>?_,h⟩⟩) (xH M);refine⟨λhj=>?_,λhj=>?_⟩
       ·rcases hj with hj|rfl
        ·have:=X j hj;omega
        ·omega
       ·by_cases h:j=k
        ·exact .inr h
        ·exact .inl (hall j z1)
  exact all _ 0 (λi o ho=>by simpa using ho)
 ·subst hJ;rintro D a w X ⟨W,hI⟩;have hsz:l.toArray.size=l.length:=by simp
  rcases hI with⟨m,a9,b1,M⟩|⟨b0,hI⟩
  ·have:l.length<=m:=by
    by_cases h:m<l.length
    ·have:=(b1 m).1 (X _ (by rw[hsz];omega));omega
    ·omega
   rw[bD this] at M;exact M
  ·have b2:l.length<=n:=by
    by_cases h:n<l.length
    ·have:=b0 n (X _ (by rw[hsz];omega));omega
    ·omega
   rcases hI with⟨r,_⟩|⟨r,b,u,C⟩
   ·exact absurd (X e (by rw[hsz];omega)) r
   ·have a5:∀p∈f,p.1<l.length:=λp hp=>Nat.lt_of_lt_of_le (aw p hp) a8;have:=Z b a w (by
     rw[vp (λp hp=>X _ (by rw[hsz];exact a5 p hp))] at u;exact u) C
    rw[bD z1] at this;exact this
end
section
variable {F:Fence} {P:Program} {w0:World} {K:Nat->Prop} {N:Nat} {dfs:List Deferred} {ops:Array Oper} {Q:Exit->Act->World->Prop} {rest:List Oper} {σ σ':List (Nat×Value)} {L L' R As Bs:List bG} {o:Oper} {v:Value}
variable {ty:TypeId} {pos:String} {aft:Array Edge} {g:Option (Nat×Bool)} {d k size:Nat} {e:TypeId} {α:Type} {enc:α->List Value}
theorem U3 [bA F] {sl:Operand} {J:TypeId} (z:α) {n:Int} (ht:P.underlying J=some (.slice e)) (hE:eh P e size) (hZ:cC P e (enc z)) (f:∀x,(enc x).length=size) (hg:gd ops σ g=some true) (hd:d<N) (hs:ev σ sl=some (.int .i64 n)) (W:0<=n/\n<=2147483648) (h:∀Z,TO F P w0 K N dfs ops Q rest ((d,Z)::σ) (L++[vec enc e size Z ([]:List α)])) : TO F P w0 K N dfs ops Q (⟨some d,.makeSlice J (.const (.int .i64 0)) sl,ty,pos,aft,g⟩::rest) σ L:=by
 obtain⟨i,u,hi,p,m,M,hsz,D⟩:=hE;obtain⟨i',z',r,q,S⟩:=hZ.some;rw[hi] at r;cases r;rw[p] at q;cases q;refine pD hg (by simp) λa w ha hw=>?_;have hb:(i.bytes:Int)*n<=281474976710656:=by
  have h1:(i.bytes:Int)<=65536:=by omega
  calc (i.bytes:Int)*n<=65536*2147483648:=Int.mul_le_mul h1 W.2 W.1 z1
   _<=_:=by omega
 have hr:=run_make (P:=P) w J e i u ht hi p .i64 .i64 0 n (Int.le_refl _) W.1 hb z1;have e0:ev σ (.const (.int .i64 0))=some (.int .i64 0):=rfl;refine⟨_,_,by simp only[execOp,ha.ev e0,ha.ev hs,al,hr];rfl,h _ _ _ (ha.put hd _) ?_⟩;have h2:=hw.alloc (.cells (madeCells u.cells (n.toNat*i.size)) e (0,0));have h3:(nu w.heap.size (.cells (madeCells u.cells (n.toNat*i.size)) e (0,0)))=cells w.heap.size ((aO n.toNat z).flatMap enc) e:=by
  unfold cells;rw[<-KW S M hsz,m]
 rw[h3] at h2;have h4:=h2.toVec (k:=L.length) (size:=size) (aO n.toNat z) (b:=w.heap.size) (e:=e) (by simp) f rfl (by simp[maxLen];omega);have hk:(L++[vec enc e size (.slice (some ⟨w.heap.size,0,none⟩) (aO n.toNat z).length (aO n.toNat z).length) (aO n.toNat z)])[L.length]?=some (vec enc e size (.slice (some ⟨w.heap.size,0,none⟩) (aO n.toNat z).length (aO n.toNat z).length) (aO n.toNat z)):=by simp
 have h5:Holds w0 K (L++[vec enc e size (.slice (some ⟨w.heap.size,0,none⟩) (aO n.toNat z).length (aO n.toNat z).length) (aO n.toNat z)]) (w.alloc (.cells (madeCells u.cells (n.toNat*i.size)) e (0,0))):=by simpa using h4
 obtain⟨C,X,l⟩:=h5.focus hk;have hc:=M1 f X (bT _);rw[List.take_zero,mV] at hc;have h6:=l (vec enc e size (.slice (some ⟨w.heap.size,0,none⟩) 0 n.toNat) []) C _ (fy _ _) hc;simpa using h6
end
section
open Go.ChangeShapes Go.WideShapes
theorem gu.p {P:Program} {f:FuncId} {vs:List Value} {RD:List bG} {v:Value} (h:gu P f vs RD [] (λ_:Unit=>v) (λ_=>[])) (w:World) (hr:Rd w (λ_=>False) RD):Calls P f vs.toArray w λe w'=>e=.returned v/\Below w.heap.size w w' :=
 (h w (λ_=>False) hr (λ_ h=>h)).mono λe w' ⟨_,h1,C',h2,h3⟩=>⟨h1,h3.toBelow (aS _) (λ_ _ h=>h)⟩
theorem U4 {w:World} {b j:Nat} {v:Value} (h:w.cell? ⟨b,j,none⟩=some v):b<w.heap.size:=by
 rcases Nat.lt_or_ge b w.heap.size with h1|h1
 ·exact h1
 ·have:w.heap[b]?=none:=Array.getElem?_eq_none h1;simp[World.cell?,this] at h
theorem U5 {α:Type} (enc:α->List Value) {m:α->Value} (hm:∀x,enc x=[m x]) {w:World} {a:Addr} {ys:List α} {cap:Nat} (p:ys.length<=cap) (hc:∀i y,ys[i]?=some y->w.cell? (a.add i)=some (m y)) : ∃vv k L,Vw vv L 1 k (.slice (some a) ys.length cap) ys/\(iM enc 1 vv k L).P (λb=>b<w.heap.size) w:=by
 cases ys with
 |nil=>
  refine⟨.slice none 0 0,0,[],⟨aS _,rfl,_,_,rfl,p,λh=>absurd rfl h⟩,λb hb=>hb,λi x j v hi hx=>by simp at hx⟩
 |cons y ys=>
  obtain⟨b,off,l⟩:=a;have f:l=none:=by simpa [pu] using World.cell?_spot (hc 0 y rfl)
  subst f;refine⟨.slice (some ⟨b,0,none⟩) 0 0,off,aO off y++(y::ys),⟨by simp,?_,_,_,rfl,p,λ_=>by simp[eS]⟩,λb hb=>hb,λi x j v hi hx hv=>?_⟩
  ·rw[List.drop_left' (by simp),lL]
  ·rw[List.getElem?_append_right (by simpa using hi),mV] at hx;have h1:=hc _ _ hx;rw[add_plain,show off+(i-off)=i by omega] at h1;rw[hm] at hv;have hj:j=0:=by
    cases j with
    |zero=>rfl
    |succ j=>simp at hv
   subst hj;have n:m x=v:=by simpa using hv
   subst n;show b<w.heap.size/\w.cell? ⟨b,i*1+0,none⟩=some (m x);rw[nZ,Nat.add_zero];exact⟨U4 h1,h1⟩
section
variable {H:Type} {enc:TypeId×Value->H} {P:Program} {w:World} {base:Nat} {held:Bool} {bN:Nat} {t e:TypeId} {cs:List Value} {x:DataW H×List MemPlace}
theorem see_strings (ht:P.underlying t=some (.slice e)) (he:P.underlying e=some .string) (hc:P.cellsOf e=1) (h:DataW.trod enc P w base (λ_=>true) held bN t cs=some x) : ∃ (hd:Hd) (zs:List V) (vv:Value) (k:Nat) (L:List V),cs=[hd.v]/\Vw vv L 1 k hd.v zs/\(iM gK 1 vv k L).P (λb=>b<w.heap.size) w/\((x.1=.nil/\zs=[])\/∃B,x.1=.slice (strs zs) B):=by
 rcases open_strings ht he hc h with⟨rfl,rfl⟩|⟨a,len,cap,zs,rfl,hb,p,hm,hz,rfl,f,n⟩
 ·exact⟨fe,[],.slice none 0 0,0,[],rfl,⟨aS _,rfl,none,0,rfl,aS _,λh=>absurd rfl h⟩,⟨λb hb=>hb,λi x j v hi hx=>by simp at hx⟩,.inl ⟨rfl,rfl⟩⟩
 ·rw[aj rfl] at hz;have l:(zs.take len).length=len:=by rw[aZ];omega
  have hr:=U5 gK (m:=λx=>.string x) (λ_=>rfl) (w:=w) (a:=a) (ys:=zs.take len) (cap:=cap) z1 (λi y hy=>by
   rw[iQ] at hy;split at hy
   ·have hi:i<zs.length:=(aq.1 hy).1;rw[f i hi,List.getD,hy];rfl
   ·cases hy)
  obtain⟨vv,k,L,h1,h2⟩:=hr;rw[l] at h1;exact⟨⟨some a,len,cap⟩,zs.take len,vv,k,L,rfl,h1,h2,.inr ⟨_,rfl⟩⟩
end
end
end Go.Proofs.YtncjnoakkghmmaaGreatDoor
