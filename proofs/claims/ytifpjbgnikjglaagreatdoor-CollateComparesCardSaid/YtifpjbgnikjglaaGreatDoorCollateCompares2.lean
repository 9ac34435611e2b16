/-
  Texts laid together: Mp, Ob, Mq, Ro, Op, Ir, Rq, Ms, Tab, Lt, Pcs, Tok, PcW, Cls, ClsW, ClsW2, Vow, RefW, RefW3, Vs, SeqW, RefPcs, Runs, C0, Im, Shf, Ck, Dr, Bytes, Bld, Gr, Shi, In, Ds, Ar, Lr, Bc, Be, Bs. Nothing is assumed.
-/
import Derived.Test.YtifpjbgnikjglaaGreatDoorCollateCompares1
import Derived.MapKept
import Derived.Test.YtifpjbgnikjglaaGreatDoorProg
import Derived.Shelf.Abstract
import Derived.Shelf.Strings.Builder1
import Derived.Shelf.Strings.Trim
import Derived.Shelf.Small.Utf8
import Derived.Shelf.Small.Strs
import Derived.Shelf.Strings.BuilderF
import Derived.Shelf.Strings.Search1
import Derived.Shelf.Strings.Search2
import Derived.Shelf.Strings.Search3
import Derived.Shelf.LaysM
import Derived.Shelf.Strings.Shaped
import Derived.Shelf.Strings.Prefix
import Derived.Shelf.Strings.Runes
import Derived.Shelf.Strings.AsciiSet
import Derived.Shelf.Unicode.DecodeSlow
import Derived.Lib.AppendStr
import Derived.Laws.IdiomStrings
import Derived.Lib.BufferRead
import Derived.Lib.Builder
import Derived.Outline
import Derived.Lib.UnsafeStr
import Derived.Lib.MakeNoZero
import Derived.Shelf.Spec.SlicesInsert
import Derived.Shelf.Spec.SlicesInsertGrow
import Derived.Lib.BytesEntry
set_option maxRecDepth 100000
set_option maxHeartbeats 4000000
namespace Go.Proofs.YtifpjbgnikjglaaGreatDoor
open Go.RowKit Go.Lib
open Tryz
set_option linter.unusedVariables false
set_option linter.unusedSimpArgs false
open _root_.Array renaming length_toList→cU
open _root_.BitVec renaming ofInt→fR
open _root_.Bool renaming and_eq_true→aQ,eq_iff_iff→dJ,not_eq_true'→cK,or_eq_true→dC,or_eq_false_iff→bL,and_eq_false_iff→cH,false_eq_true→bj,not_eq_false'→cI,not_true→cW,not_false→cT,eq_false_iff→tw
open _root_.ByteArray renaming mk→tq,empty→ac
open _root_.Function renaming comp_def→dF
open _root_.Go.Ending renaming returned→kn
open _root_.Go.Fence renaming wide→bF
open _root_.Go.Instr renaming checkKey→kx,sameBits→ky,findNow→ij,sameNow→k5,findAsking→tp,mapUpdate→ut,keyThatStays→rq,lookup→fK,loadAt→kw,sureAddr→er
open _root_.Go.MapKept renaming run_getObj_map→ci
open _root_.Go.Op renaming equalIn→fm
open _root_.Go.Oper renaming semAt_some→k7
open _root_.Go.Program renaming cellsOf→sr
open _root_.Go.Proofs.Tryz renaming underlying39→nW,underlying72→kS,underlying81→nX,underlying91→jk,underlying100→kf,underlying111→rr,underlying123→kg,underlying132→kh
open dP renaming mk'→fv
open cJ renaming refl→eo
open Hd renaming nil→eB
open aO renaming one→qc,one1→aF
open _root_.Go.Result renaming andThen_ok→cj
open _root_.Go.RowKit.Below renaming heap_alloc→fW
open _root_.Go.Sem renaming run_bind→ap
open _root_.Go.Value renaming int→aB,agg→bl,string→af
open _root_.Go.World renaming putObj_heap_same→hU,putObj_heap_other→dG,alloc_heap_new→eV
open _root_.List renaming map_cons→av,range'_succ→uq,range'_zero→ur,map→me,map_map→cn,length→gq,getElem?_map→bU,getElem?_eq_getElem→aJ,mem_of_getElem?→aP,mem_cons→bo,getElem?_eq_some_iff→au,mem_singleton→bO,mem_cons_of_mem→ak,mem_cons_self→ar,not_mem_nil→dm,nil_append→bg,cons_append→aX,drop_drop→ff,eq_nil_of_length_eq_zero→ck,length_pos_iff→cV,take_append_drop→bZ,length_append→aa,length_cons→ab,length_nil→aL,map_nil→ed,getD_cons_zero→iJ,getD_cons_succ→k6,append_assoc→aA
open _root_.List.cons renaming injEq→fO
open _root_.Nat renaming add_assoc→fN,add_one_sub_one→ss,div_one→mA,zero_mul→oz,zero_add→cf,one_mul→jO,mul_one→pB,lt_of_lt_of_le→eG,le_refl→bq
open _root_.Option renaming map_map→iO
open _root_.Option.some renaming inj→mL
open _root_.Prod renaming fst→bw,snd→eC
open _root_.Std.Legacy.Range renaming forIn_eq_forIn_range'→iW,size→lV
section
open Go.MapKept
def zbP {κ ν:Type} [DecidableEq κ] (k:κ):List (κ×ν)→Option ν
 |[]=>none
 |p::l=>if k=p.1 then some p.2 else zbP k l
def iq {κ ν:Type} [DecidableEq κ] (k:κ) (v:ν):List (κ×ν)→List (κ×ν)
 |[]=>[(k,v)]
 |p::l=>if k=p.1 then (k,v)::l else p::iq k v l
def lf {κ:Type} [DecidableEq κ] (k:κ):List κ→Nat→Option Nat
 |[],_=>none
 |p::l,i=>if k=p then some i else lf k l (i+1)
structure jF (P:Program) (kt:TypeId) {κ:Type} [DecidableEq κ] (ek:κ→Value):Prop where
 check:∀em k (w:World),(kx em 10000 kt (ek k)).run P w=.ok () w
 find:∀ (es:List MapEntry) (ks:List κ) k (w:World),es.map (·.key)=ks.map ek→(Instr.findKey kt (ek k) es).run P w=.ok ((lf k ks 0).map fun i=>(i,((es[i]?).map (·.val)).getD default)) w
 same:∀k,ky 10000 (ek k) (ek k)=true
theorem Aw {κ:Type} [DecidableEq κ] (k:κ):∀ (l:List κ) (i:Nat),lf k l (i+1)=(lf k l i).map (· + 1)
 |[],i=>rfl
 |p::l,i=>by unfold lf;split<;>simp[Aw k l (i+1)]
theorem C3 {κ:Type} [DecidableEq κ] (k p:κ) (e:MapEntry) (a:List MapEntry) (ks:List κ) (n:Nat) :
  ((lf k (p::ks) 0).map fun i=>(i+n,(((e::a)[i]?).map (·.val)).getD default))=if k=p then some (n,e.val) else (lf k ks 0).map fun i=>(i+(n+1),((a[i]?).map (·.val)).getD default):=by
 have e:lf k (p::ks) 0=if k=p then some 0 else lf k ks (0+1):=rfl
 rw[e]
 split
 ·simp
 ·rw[Aw,iO];congr 1;funext i;simp[fN,Nat.add_comm 1 n]
theorem jF.int {P:Program} {kt:TypeId} {a:IntKind} (h:P.underlying kt=some (.int a)):jF P kt (fun n:Int=>aB a n) where
 check:=fun r k w=>run_checkKey h (show IsKey (.int a) (.int a k) by simp[IsKey]) r 9999
 find:=fun f ks k w hk=>run_findKey h (by
  have:∀ (f:List MapEntry) (ks:List Int) (n:Nat),f.map (·.key)=ks.map (fun n:Int=>aB a n)→ij (.int a) (.int a k) f n=some ((lf k ks 0).map fun i=>(i+n,((f[i]?).map (·.val)).getD default)):=by
   intro f
   induction f with
   |nil=>intro ks n h;cases ks with
    |nil=>rfl
    |cons _ _=>simp at h
   |cons e f l=>intro ks n h;cases ks with
    |nil=>simp at h
    |cons p ks=>
     simp only[av,fO] at h
     rw[C3]
     have q:k5 (.int a) (.int a k) e.key=some (k==p):=by rw[h.1];simp[k5]
     unfold ij
     rw[q]
     by_cases hp:k=p
     ·subst hp;simp
     ·have:(k==p)=false:=by simpa using hp
      rw[this,aj hp];exact l ks (n+1) h.2
  exact this f ks 0 hk)
 same:=fun k=>by simp[ky]
theorem Ax {P:Program} {t:TypeId} {a:IntKind} {xs:Array Value} {j:Nat} {v:Value} {w:World} (h:P.underlying t=some (.int a)) (hv:xs[j]?=some v):(part t xs j).run P w=.ok v w:=by
 simp[part,ap,run_underlying h,hv,isAgg]
theorem Nm {P:Program} {t e:TypeId} {f:IntKind} (ht:P.underlying t=some (.array 2 e)) (he:P.underlying e=some (.int f)) (q:bC P e 1) {a b n l:Int} (w:World) :
  (fm 10000 t (.agg #[.int f a,.int f b]) (.agg #[.int f n,.int f l])).run P w=.ok (a==n&&b==l) w:=by
 obtain⟨i,hi,hsz⟩:=q.some
 have h1:∀ (d:Nat) (x y:Int),(fm (d+1) e (.int f x) (.int f y)).run P w=.ok (x==y) w:=fun d x y=>run_equalIn_int w d e f f x y he
 have p1:∀ (x y:Int),(part e #[.int f x,.int f y] 0).run P w=.ok (.int f x) w:=fun x y=>Ax he rfl
 have p2:∀ (x y:Int),(part e #[.int f x,.int f y] 1).run P w=.ok (.int f y) w:=fun x y=>Ax he rfl
 have hc:P.cellsOf e=1:=by simp[sr,hi,hsz]
 have key:∀d:Nat,(fm (d+1+1) t (.agg #[.int f a,.int f b]) (.agg #[.int f n,.int f l])).run P w=.ok (a==n&&b==l) w:=fun d=>by
  unfold fm
  simp only[ap,run_underlying ht,cj,run_sizeOf w hi]
  simp only[iW,lV,Nat.sub_zero,ss,mA,hsz,uq,ur,List.forIn_cons,List.forIn_nil,ap,cj,oz,cf,jO,p1,p2,h1,pB]
  cases h:(a==n)<;>cases h2:(b==l)<;>simp[ap,p1,p2,h1,h,h2,hc]
 exact key 9998
theorem C4 {P:Program} {kt e:TypeId} {f:IntKind} {κ:Type} [DecidableEq κ] {f0 f1:κ→Int} (q:∀a b:κ,f0 a=f0 b→f1 a=f1 b→a=b)
  (ht:P.underlying kt=some (.array 2 e)) (he:P.underlying e=some (.int f)) (C:bC P e 1):jF P kt (fun p:κ=>bl #[.int f (f0 p),.int f (f1 p)]) where
 check:=fun u k w=>by
  obtain⟨i,hi,hsz⟩:=C.some
  have hc:P.cellsOf e=1:=by simp[sr,hi,hsz]
  have h1:∀ (n:Nat) (x:Int),(kx u (n+1) e (.int f x)).run P w=.ok () w:=fun n x=>run_checkKey he (show IsKey (.int f) (.int f x) by simp[IsKey]) u n
  have p1:∀ (x y:Int),(part e #[.int f x,.int f y] 0).run P w=.ok (.int f x) w:=fun x y=>Ax he rfl
  have p2:∀ (x y:Int),(part e #[.int f x,.int f y] 1).run P w=.ok (.int f y) w:=fun x y=>Ax he rfl
  have key:∀n:Nat,(kx u (n+1+1) kt (.agg #[.int f (f0 k),.int f (f1 k)])).run P w=.ok () w:=fun n=>by
   unfold kx
   simp only[ap,run_underlying ht,cj]
   simp only[iW,lV,Nat.sub_zero,ss,mA,uq,ur,List.forIn_cons,List.forIn_nil,ap,run_sizeOf w hi,hsz,cj,oz,cf,jO,p1,p2,h1,pB]
   simp[ap,run_sizeOf w hi,hsz,p1,p2,h1,hc]
  exact key 9998
 find:=fun l ks k w hk=>by
  have hA:∀ (l:List MapEntry) (ks:List κ) (n:Nat),l.map (·.key)=ks.map (fun p:κ=>bl #[.int f (f0 p),.int f (f1 p)])→(tp kt (.agg #[.int f (f0 k),.int f (f1 k)]) l n).run P w=.ok ((lf k ks 0).map fun i=>(i+n,((l[i]?).map (·.val)).getD default)) w:=by
   intro l
   induction l with
   |nil=>intro ks n h;cases ks with
    |nil=>rfl
    |cons _ _=>simp at h
   |cons D l E=>intro ks n h;cases ks with
    |nil=>simp at h
    |cons p ks=>
     simp only[av,fO] at h
     rw[C3]
     unfold tp
     rw[h.1]
     have r:(Op.equal kt (.agg #[.int f (f0 k),.int f (f1 k)]) (.agg #[.int f (f0 p),.int f (f1 p)])).run P w=.ok (f0 k==f0 p&&f1 k==f1 p) w:=Nm ht he C w
     simp only[ap,r,cj]
     by_cases hp:k=p
     ·subst hp;simp
     ·have:(f0 k==f0 p&&f1 k==f1 p)=false:=by
       cases h':(f0 k==f0 p&&f1 k==f1 p) with
       |false=>rfl
       |true=>simp at h';exact absurd (q _ _ h'.1 h'.2) hp
      rw[this,aj hp];exact E ks (n+1) h.2
  have hA:=hA l ks 0 hk
  unfold Instr.findKey
  simp only[ap,run_underlying ht,cj]
  cases l with
  |nil=>cases ks with
   |nil=>rfl
   |cons _ _=>simp at hk
  |cons D l=>cases ks with
   |nil=>simp at hk
   |cons p ks=>
    simp only[av,fO] at hk
    have:ij (.array 2 e) (.agg #[.int f (f0 k),.int f (f1 k)]) (D::l) 0=none:=by
     unfold ij;rw[hk.1];rfl
    rw[this];exact hA
 same:=fun k=>by simp[ky]
def cz {κ ν:Type} (ek:κ→Value) (ev:ν→Value) (b:Nat) (L:List (κ×ν)):Asn :=
 xM fun z:{z:Array MapEntry×Nat // z.1.toList.map (fun e=>(e.key,e.val))=L.map (fun p=>(ek p.1,ev p.2))}=>obj b (.map z.1.1 z.1.2)
theorem xZ {κ ν:Type} [DecidableEq κ] (k:κ):∀ (L:List (κ×ν)),((lf k (L.map bw) 0).bind fun i=>(L[i]?).map eC)=zbP k L
 |[]=>rfl
 |p::L=>by
  have e:lf k ((p::L).map bw) 0=if k=p.1 then some 0 else lf k (L.map bw) (0+1):=rfl
  rw[e];unfold zbP
  split
  ·simp
  ·rw[Aw,←xZ k L];cases lf k (L.map bw) 0<;>simp
theorem vU {κ:Type} [DecidableEq κ] (k:κ):∀ (L:List κ) (i n:Nat),lf k L i=some n→i≤n∧n<i+L.length∧L[n-i]?=some k
 |[],i,n,h=>by cases h
 |p::L,i,n,h=>by
  unfold lf at h
  split at h
  ·rename_i hp;cases h;subst hp;simp
  ·obtain⟨h1,h2,h3⟩:=vU k L (i+1) n h
   refine⟨by omega,by simp;omega,?_⟩
   rw[show n-i=(n-(i+1))+1 by omega];simpa using h3
theorem GX {κ ν:Type} [DecidableEq κ] (k:κ) (v:ν):∀ (L:List (κ×ν)),iq k v L=match lf k (L.map bw) 0 with | some i=>L.set i (k,v) | none=>L++[(k,v)]
 |[]=>rfl
 |p::L=>by
  have e:lf k ((p::L).map bw) 0=if k=p.1 then some 0 else lf k (L.map bw) (0+1):=rfl
  rw[e];unfold iq
  by_cases h:k=p.1
  ·rw[am h,am h];rfl
  ·rw[aj h,aj h,Aw,GX k v L];cases lf k (L.map bw) 0<;>rfl
section
variable {F:Fence} {P:Program} {w0:World} {K:Nat→Prop} {N:Nat} {dfs:List Deferred} {ops:Array Oper} {Q:Exit→Act→World→Prop} {rest:List Oper} {σ:List (Nat×Value)} {L:List Asn}
 {d:Nat} {ty:TypeId} {pos:String} {aft:Array Edge} {g:Option (Nat×Bool)} {x y z:Operand} {k b:Nat} {κ ν:Type} [DecidableEq κ] {ek:κ→Value} {ev':ν→Value} {mt kt et:TypeId} {M:List (κ×ν)}
omit [DecidableEq κ] in
theorem vV [bu F] (ek:κ→Value) (ev':ν→Value) (hg:gd ops σ g=some true) (hd:d<N)
  (h:∀b,TO F P w0 K N dfs ops Q rest ((d,.map (some b))::σ) (L++[cz ek ev' b []])):TO F P w0 K N dfs ops Q (⟨some d,.makeMap mt none,ty,pos,aft,g⟩::rest) σ L :=
 oi hg (by simp) fun a w ha f=>⟨.map (some w.heap.size),w.alloc (.map #[] 0),by simp[execOp,Instr.makeMap,ap],h _ _ _ (ha.put hd _) (by
  have h1:=f.alloc (.map #[] 0)
  have h2:=h1.ent (k:=L.length) (A:=obj w.heap.size (.map #[] 0)) (B:=cz ek ev' w.heap.size []) (by simp) (fun C w' hp=>⟨⟨(#[],0),rfl⟩,hp⟩)
  simpa using h2)⟩
theorem vW [bu F] {kk:κ} {vv:ν} (I:jF P kt ek) (ht:P.underlying mt=some (.map kt et)) (hg:gd ops σ g=some true) (hx:ev σ x=some (.map (some b))) (hy:ev σ y=some (ek kk)) (hz:ev σ z=some (ev' vv))
  (hk:L[k]?=some (cz ek ev' b M)) (h:TO F P w0 K N dfs ops Q rest σ (L.set k (cz ek ev' b (iq kk vv M)))):TO F P w0 K N dfs ops Q (⟨none,.mapUpdate mt x y z,ty,pos,aft,g⟩::rest) σ L :=
 Ab hg (by simp) fun a w ha X=>by
  obtain⟨C1,⟨⟨⟨q,f⟩,u⟩,U,hb⟩,D⟩:=X.focus hk
  have hb:w.heap[b]?=some (.map q f):=hb
  have u:q.toList.map (fun e=>(e.key,e.val))=M.map (fun p=>(ek p.1,ev' p.2)):=u
  have C:q.toList.map (·.key)=(M.map bw).map ek:=by
   have:=aM (me bw) u
   simpa [cn,dF] using this
  have n:=I.find q.toList (M.map bw) kk w C
  have r:=GX kk vv M
  have T:q.toList.length=M.length:=by have:=aM gq u;simpa using this
  have H:∀J:Obj,(∀C' w',(∀k,C' k↔k=b)→w'.heap[b]?=some J→(cz ek ev' b (iq kk vv M)).P C' w')→Holds w0 K (L.set k (cz ek ev' b (iq kk vv M))) (w.putObj b J):=fun J Y=>
   D _ C1 _ ⟨(Fr.refl _ _).putObj (.inl ((U b).2 rfl)) _,fun k hk=>.inl hk⟩ (Y _ _ U (hU (lX hb)))
  have ex:=ha.ev hx;have W:=ha.ev hy;have V:=ha.ev hz
  cases hi:lf kk (M.map bw) 0 with
  |none=>
   rw[hi] at n r
   refine⟨w.putObj b (.map (q.push { key:=ek kk,val:=ev' vv,born:=f }) (f+1)),?_,h _ _ ha (H _ fun C' w' h1 h2=>⟨⟨(_,_),?_⟩,h1,h2⟩)⟩
   ·simp[execOp,ex,W,V,ut,run_underlying ht,ci hb,I.check,n,run_setObj_map _ hb,ap,World.putObj]
   ·simp[r,u]
  |some i=>
   rw[hi] at n r
   obtain⟨_,h2,h3⟩:=vU kk _ _ _ hi
   simp at h2
   have h3:(M.map bw)[i]?=some kk:=by simpa using h3
   have S:i<q.toList.length:=by omega
   have E:(q[i]?).map (·.key)=some (ek kk):=by
    have:=aM (fun l=>l[i]?) C
    simp only[bU] at this
    rw[show q[i]?=q.toList[i]? by simp,this]
    have Z:M[i]?.map bw=some kk:=by simpa using h3
    rw[Z];rfl
   refine⟨w.putObj b (.map (q.modify i fun e=>{ e with key:=ek kk,val:=ev' vv }) f),?_,h _ _ ha (H _ fun C' w' h1 h2=>⟨⟨(q.modify i fun e=>{ e with key:=ek kk,val:=ev' vv },f),?_⟩,h1,h2⟩)⟩
   ·have O:(rq (ek kk) (ek kk)).run P w=.ok (ek kk) w:=by simp[rq,I.same]
    simp[execOp,ex,W,V,ut,run_underlying ht,ci hb,I.check,n,E,O,run_setObj_map _ hb,ap,World.putObj]
   ·show me (fun e=>(e.key,e.val)) (q.modify i fun e=>{ e with key:=ek kk,val:=ev' vv }).toList=_
    rw[r]
    apply List.ext_getElem?
    intro j
    have hj:=aM (fun l=>l[j]?) u
    simp only[bU] at hj
    simp only[Array.toList_modify,bU,List.getElem?_modify,List.getElem?_set]
    by_cases G:i=j
    ·subst G
     have h5:q.toList[i]?=some q.toList[i]:=aJ S
     simp[h5,show i<M.length by omega]
    ·simp[G];simpa using hj
theorem zkJ [bu F] {kk:κ} {z0:ν} (H:jF P kt ek) (ht:P.underlying mt=some (.map kt et)) (n:(P.info? et).bind (fun i=>i.zero)=some (ev' z0)) (hg:gd ops σ g=some true) (hd:d<N) (hx:ev σ x=some (.map (some b))) (hy:ev σ y=some (ek kk))
  (hk:L[k]?=some (cz ek ev' b M)) (h:TO F P w0 K N dfs ops Q rest ((d,.tuple #[ev' ((zbP kk M).getD z0),.bool (zbP kk M).isSome])::σ) L):TO F P w0 K N dfs ops Q (⟨some d,.lookup mt x y true,ty,pos,aft,g⟩::rest) σ L :=
 jz hg hd (by simp) (fun a w ha S=>by
  obtain⟨C1,⟨⟨⟨D,C⟩,q⟩,T,hb⟩,I⟩:=S.focus hk
  have hb:w.heap[b]?=some (.map D C):=hb
  have q:D.toList.map (fun e=>(e.key,e.val))=M.map (fun p=>(ek p.1,ev' p.2)):=q
  have u:D.toList.map (·.key)=(M.map bw).map ek:=by
   have:=aM (me bw) q
   simpa [cn,dF] using this
  have f:=H.find D.toList (M.map bw) kk w u
  have ex:=ha.ev hx;have O:=ha.ev hy
  have r:(zeroValue et).run P w=.ok (ev' z0) w:=by
   cases hi:P.info? et with
   |none=>rw[hi] at n;cases n
   |some i=>
    rw[hi] at n
    have E:i.zero=some (ev' z0):=n
    simp[zeroValue,typeInfo,hi,E,ap]
  rw[←xZ kk M]
  cases hi:lf kk (M.map bw) 0 with
  |none=>
   rw[hi] at f
   simp[execOp,ex,O,fK,run_underlying ht,ci hb,H.check,f,r,ap]
  |some i=>
   rw[hi] at f
   obtain⟨_,h2,h3⟩:=vU kk _ _ _ hi
   simp at h2
   have hj:=aM (fun l=>(l[i]?).map eC) q
   simp only[bU,iO,dF] at hj
   have J:M[i]?=some M[i]:=aJ h2
   have hv:(D.toList[i]?).map (·.val)=some (ev' M[i].2):=by rw[hj,J];rfl
   have G:(D[i]?).map (·.val)=some (ev' M[i].2):=by simpa using hv
   simp[execOp,ex,O,fK,run_underlying ht,ci hb,H.check,f,G,J,ap]) h
end
end
def Rd (w:World) (K:Nat→Prop) (RD:List Asn):Prop:=∀A∈RD,∃C,A.P C w∧∀k,C k→¬K k
theorem Rd.nil {w:World} {K:Nat→Prop}:Rd w K []:=fun A h=>by cases h
theorem Rd.ext {w0 w:World} {K C:Nat→Prop} {RD:List Asn} (h:Rd w0 K RD) (hx:cJ K C w0 w):Rd w C RD:=fun A hA=>by
 obtain⟨D,h1,h2⟩:=h A hA
 have a:=A.lt h1
 refine⟨D,A.loc h1 hx.1.size (fun k hk=>hx.1.keep k (a k hk) (h2 k hk)),fun k hk hc=>?_⟩
 rcases hx.2 k hc with h|h
 ·exact h2 k hk h
 ·have:=a k hk;omega
theorem Rd.append {w:World} {K:Nat→Prop} {A B:List Asn} (h1:Rd w K A) (h2:Rd w K B):Rd w K (A++B):=fun X a=>by
 rcases List.mem_append.1 a with h|h
 ·exact h1 X h
 ·exact h2 X h
theorem Rd.at {w0 w:World} {K:Nat→Prop} {L RD:List Asn} {A:Asn} {i:Nat} (h:Rd w0 K RD) (a:Holds w0 K L w) (hi:RD[i]?=some A):∃C,A.P C w:=by
 obtain⟨C,_,hx⟩:=a
 obtain⟨D,h1,_⟩:=h.ext hx A (aP hi)
 exact⟨D,h1⟩
theorem Rd.more {w:World} {K:Nat→Prop} {RD As:List Asn} {A:Asn} {i:Nat} (h:Rd w K RD) (hi:RD[i]?=some A) (a:∀C,A.P C w→∀B∈As,∃D,B.P D w∧∀k,D k→C k):Rd w K (RD++As):=by
 refine h.append fun B hB=>?_
 obtain⟨C,h1,h2⟩:=h A (aP hi)
 obtain⟨D,h3,f⟩:=a C h1 B hB
 exact⟨D,h3,fun k hk=>h2 k (f k hk)⟩
inductive pH (R RD0:List Asn):List Asn→Prop
 |nil:pH R RD0 []
 |own {A:Asn} {As R' RD:List Asn} (hs:aq R As R') (hE:∀C w,aO As C w→A.P C w) (h:pH R RD0 RD):pH R RD0 (A::RD)
 |ro {A:Asn} {RD:List Asn} (i:Nat) (hi:RD0[i]?=some A) (h:pH R RD0 RD):pH R RD0 (A::RD)
theorem pH.rd {w0 w:World} {K C1 C2:Nat→Prop} {R RD0 RD:List Asn} (h:pH R RD0 RD) (f:aO R C2 w) (hd:∀k,C1 k→¬C2 k) (h0:Rd w C1 RD0):Rd w C1 RD:=by
 induction h with
 |nil=>exact Rd.nil
 |@own A As R' RD hs hE h ih=>
  intro B hB
  rcases bo.1 hB with rfl|hB
  ·obtain⟨a,n,g1,g2,l,g4⟩:=hs C2 w f
   exact⟨a,hE a w g1,fun k hk hc=>hd k hc ((g4 k).2 (.inl hk))⟩
  ·exact ih B hB
 |@ro A RD i hi h ih=>
  intro B hB
  rcases bo.1 hB with rfl|hB
  ·exact h0 _ (aP hi)
  ·exact ih B hB
def iu (P:Program) (f:FuncId) (vs:List Value) (RD As:List Asn) {β:Type} (V:β→Value) (Bs:β→List Asn):Prop :=
 ∀w C,Rd w C RD→xG P f vs As V Bs w C
section
variable {F:Fence} {P:Program} {w0:World} {K:Nat→Prop} {N:Nat} {dfs:List Deferred} {ops:Array Oper} {Q:Exit→Act→World→Prop} {rest:List Oper} {σ σ':List (Nat×Value)} {L L' R As Bs:List Asn} {o:Oper} {v:Value}
 {d:Nat} {t:TypeId} {op:Op} {ty:TypeId} {pos:String} {aft:Array Edge} {g:Option (Nat×Bool)} {x y z:Operand} {c c1 c2:Code} {k:Nat} {A B:Asn} {RO:List (Nat×Obj)} {RD RD0:List Asn} {e:TypeId} {ex:Exit}
theorem iu.intro {f:FuncId} {fn:Func} {vs:List Value} {β:Type} {V:β→Value} {Bs:β→List Asn} (hf:P.funcs[f]?=some fn) (hb:fn.body=some c) (a:fn.ntmps=N) (n:vs.length≤N)
  (h:∀w0 K,Rd w0 K RD→TC bF P w0 K N [] (bodyPostM bF 0 P fn (FR P V Bs w0 K)) c (tB vs) As):iu P f vs RD As V Bs :=
 fun w C l=>xG.intro hf hb a n (h w C l)
theorem GY [bu F] {xs:List Operand} {q:Array TypeId} {f:FuncId} {first cap:Array Value} {vs l:List Value} {β:Type} {V:β→Value} {Bs:β→List Asn} {dst:Option Nat} (G:Rd w0 K RD0)
  (hg:gd ops σ g=some true) (hx:ev σ x=some (.func (.func f) first cap)) (C:evL σ xs=some vs) (hv:first.toList++vs++cap.toList=l)
  (r:∀args w,(callFunc f args).run P w=.ok (.enter f args) w) (S:iu P f l RD As V Bs) (J:aq L As R) (O:pH R RD0 RD)
  (h:∀b a w H,H=a.put dst (V b)→At N dfs σ a→Holds w0 K (R++Bs b) w→wpListIn F 0 P ops Q rest H w) :
  TO F P w0 K N dfs ops Q (⟨dst,.call { callee:=.value x,args:=xs.toArray,argTypes:=q },ty,pos,aft,g⟩::rest) σ L:=by
 intro a w ha I
 simp only[wpListIn,uv (o:=⟨dst,.call { callee:=.value x,args:=xs.toArray,argTypes:=q },ty,pos,aft,g⟩) ha hg,if_true]
 refine⟨fun f _=>bu.fn f,?_⟩
 have h1:(execOp a.eval ⟨dst,.call { callee:=.value x,args:=xs.toArray,argTypes:=q },ty,pos,aft,g⟩).run P w=.ok (.enter f l.toArray) w:=by
  have e:first++vs.toArray++cap=l.toArray:=by rw[←hv];simp
  simp only[execOp,resolve,List.map_toArray,ha.evL C,ha.ev hx,Deferred.ofValue,ap,Sem.run_pure,cj,invoke,e,r]
 rw[Oper.semAt_plain F _ _ (by simp),h1]
 refine⟨(fun h=>by rw[bu.depth (F:=F)] at h;cases h),?_⟩
 obtain⟨C1,C2,hA,g2,T,D,n⟩:=I.split2 J
 have u:Rd w C1 RD0:=G.ext D
 refine bu.calls ((S w C1 (O.rd (w0:=w0) (K:=K) g2 T u) hA).mono ?_)
 rintro e w' ⟨b,rfl,C',hB,E⟩
 exact h b a w' _ rfl ha (n _ _ _ E hB)
theorem pI [bu F] {xs:List Operand} {C:Array TypeId} {f:FuncId} {first cap:Array Value} {vs l:List Value} {β:Type} {V:β→Value} {Bs:β→List Asn} (u:Rd w0 K RD0)
  (hg:gd ops σ g=some true) (hd:d<N) (hx:ev σ x=some (.func (.func f) first cap)) (q:evL σ xs=some vs) (hv:first.toList++vs++cap.toList=l)
  (n:∀args w,(callFunc f args).run P w=.ok (.enter f args) w) (H:iu P f l RD As V Bs) (E:aq L As R) (G:pH R RD0 RD)
  (h:∀b,TO F P w0 K N dfs ops Q rest ((d,V b)::σ) (R++Bs b)) :
  TO F P w0 K N dfs ops Q (⟨some d,.call { callee:=.value x,args:=xs.toArray,argTypes:=C },ty,pos,aft,g⟩::rest) σ L :=
 GY u hg hx q hv n H E G fun b a w I r ha D=>by subst r;exact h b _ _ (ha.put hd _) D
theorem lg [bu F] {xs:List Operand} {C:Array TypeId} {f:FuncId} {first cap:Array Value} {vs l:List Value} (u:Rd w0 K RD0)
  (hg:gd ops σ g=some true) (hd:d<N) (hx:ev σ x=some (.func (.func f) first cap)) (q:evL σ xs=some vs) (hv:first.toList++vs++cap.toList=l)
  (n:∀args w,(callFunc f args).run P w=.ok (.enter f args) w) (G:iu P f l RD [] (fun _:Unit=>v) (fun _=>[])) (E:pH L RD0 RD)
  (h:TO F P w0 K N dfs ops Q rest ((d,v)::σ) L) :
  TO F P w0 K N dfs ops Q (⟨some d,.call { callee:=.value x,args:=xs.toArray,argTypes:=C },ty,pos,aft,g⟩::rest) σ L :=
 GY u hg hx q hv n G aq.nil E fun b a w H r ha D=>by
  subst r
  rw[List.append_nil] at D
  exact h _ _ (ha.put hd _) D
section
variable {i:Nat}
theorem zeo [bu F] {b j:Nat} {l:List Value} {e:TypeId} (hr:Rd w0 K RD) (hi:RD[i]?=some (cells b l e)) (q:lA P t) (hg:gd ops σ g=some true) (hd:d<N) (hx:ev σ x=some (.pointer (some ⟨b,j,none⟩))) (hj:l[j]?=some v)
  (h:TO F P w0 K N dfs ops Q rest ((d,v)::σ) L):TO F P w0 K N dfs ops Q (⟨some d,.load t x,ty,pos,aft,g⟩::rest) σ L:=by
 obtain⟨dd,hu,f⟩:=q
 exact jz hg hd (by simp) (fun a w ha n=>by
  obtain⟨C,r⟩:=hr.at n hi
  have hc:w.cell? ⟨b,j,none⟩=some v:=oY r.2 (by simpa using hj)
  cases dd<;>simp_all [execOp,ha.ev hx,kw,er,loadVar,isAgg,ap,run_underlying hu]) h
variable {α:Type} {enc:α→List Value} {size:Nat} {vv:Value} {xs:List α}
theorem GZ {w:World} {C:Nat→Prop} (h:(vec enc e size vv xs).P C w):Vw vv xs size 0 vv xs:=by
 have f:Holds w (fun _=>False) [vec enc e size vv xs] w→Vw vv xs size 0 vv xs:=fun a=>An (k:=0) a rfl
 have:Holds w C [vec enc e size vv xs] w:=⟨C,qc h,eo _ _⟩
 exact An (k:=0) this rfl
theorem Rd.vw {w:World} (hr:Rd w K RD) (hi:RD[i]?=some (vec enc e size vv xs)):Vw vv xs size 0 vv xs:=by
 obtain⟨C,a,_⟩:=hr _ (aP hi)
 exact GZ a
theorem C5 [bu F] {n j off:Nat} {q:α} (hr:Rd w0 K RD) (hi:RD[i]?=some (vec enc e size vv xs)) (D:lA P t) (hz:∀x,(enc x).length=size) (hg:gd ops σ g=some true) (hd:d<N) (hx:ev σ x=some (.pointer (some ⟨eO vv,off,none⟩)))
  (r:xs[n]?=some q) (u:off=n*size+j) (hj:j<size) (hv:(enc q)[j]?=some v) (h:TO F P w0 K N dfs ops Q rest ((d,v)::σ) L) :
  TO F P w0 K N dfs ops Q (⟨some d,.load t x,ty,pos,aft,g⟩::rest) σ L:=by
 subst u
 obtain⟨dd,hu,l⟩:=D
 refine jz hg hd (by simp) (fun a w ha f=>?_) h
 obtain⟨C,E⟩:=hr.at f hi
 have hV:il enc e size vv xs C w:=E
 have hc:=hV.cellAt hz r hj hv
 have h1:=ha.ev hx
 cases dd<;>simp_all [execOp,kw,er,loadVar,isAgg,ap,run_underlying hu]
end
end
section
variable {α η:Type} {enc:α×η→List Value} {nest:α×η→List Asn} {t:TypeId} {p:Value} {x:α}
def jY (enc:α×η→List Value) (nest:α×η→List Asn) (t:TypeId) (p:Value):Option α→Asn
 |none=>zDE (p=.pointer none)
 |some x=>xM fun a:Nat×η=>ziH (zDE (p=.pointer (some ⟨a.1,0,none⟩))::cells a.1 (enc (x,a.2)) t::nest (x,a.2))
theorem ol {q:Prop} {L:List Asn} {C:Nat→Prop} {w:World}:aO (zDE q::L) C w↔q∧aO L C w:=by
 constructor
 ·rintro⟨C1,C2,⟨h1,a⟩,h2,h3,f⟩
  have:C=C2:=funext fun k=>propext ⟨fun h=>((f k).1 h).resolve_left (h1 k),fun h=>(f k).2 (.inr h)⟩
  subst this
  exact⟨a,h2⟩
 ·rintro⟨a,h⟩
  exact⟨fun _=>False,C,⟨fun _ h=>h,a⟩,h,fun _ h=>h.elim,fun k=>by simp⟩
theorem lh {C:Nat→Prop} {w:World}:(jY enc nest t p (some x)).P C w↔∃b h,p=.pointer (some ⟨b,0,none⟩)∧aO (cells b (enc (x,h)) t::nest (x,h)) C w:=by
 constructor
 ·rintro⟨⟨b,h⟩,a⟩
  obtain⟨h1,h2⟩:=ol.1 a
  exact⟨b,h,h1,h2⟩
 ·rintro⟨b,h,h1,h2⟩
  exact⟨⟨b,h⟩,ol.2 ⟨h1,h2⟩⟩
theorem Nn {b:Nat} {hd:η} {w:World} {C:Nat→Prop} (h:aO (cells b (enc (x,hd)) t::nest (x,hd)) C w):(jY enc nest t (.pointer (some ⟨b,0,none⟩)) (some x)).P C w:=lh.2 ⟨b,hd,rfl,h⟩
theorem G0 {b:Nat} {hd:η}:mS (cells b (enc (x,hd)) t::nest (x,hd)) (fun _:Unit=>[jY enc nest t (.pointer (some ⟨b,0,none⟩)) (some x)]) (fun _=>True):=fun C w h=>⟨(),trivial,aF.2 (Nn h)⟩
theorem Np {m:Option α} {C:Nat→Prop} {w:World} (h:(jY enc nest t p m).P C w):(m=none∧p=.pointer none)∨(∃x b,m=some x∧p=.pointer (some ⟨b,0,none⟩)):=by
 cases m with
 |none=>exact .inl ⟨rfl,h.2⟩
 |some x=>obtain⟨b,_,h2,_⟩:=lh.1 h;exact .inr ⟨x,b,rfl,h2⟩
end
section
open Go.MapKept
theorem G1 (a b:ad):(a==b)=decide (a=b):=by
 cases a with|mk x=>cases b with|mk y=>
 show (x==y)=_
 by_cases h:x=y
 ·subst h;simp
 ·have:¬(tq x=tq y):=fun e=>h (by cases e;rfl)
  rw[al this];exact aC.2 h
theorem mT {P:Program} {kt:TypeId} (h:P.underlying kt=some .string):jF P kt (fun s:ad=>af s) where
 check:=fun q k w=>run_checkKey h (show IsKey .string (.string k) by simp[IsKey]) q 9999
 find:=fun a ks k w hk=>run_findKey h (by
  have:∀ (a:List MapEntry) (ks:List ad) (n:Nat),a.map (·.key)=ks.map (fun s:ad=>af s)→ij .string (.string k) a n=some ((lf k ks 0).map fun i=>(i+n,((a[i]?).map (·.val)).getD default)):=by
   intro a
   induction a with
   |nil=>intro ks n h;cases ks with
    |nil=>rfl
    |cons _ _=>simp at h
   |cons e a f=>intro ks n h;cases ks with
    |nil=>simp at h
    |cons p ks=>
     simp only[av,fO] at h
     rw[C3]
     have l:k5 .string (.string k) e.key=some (decide (k=p)):=by rw[h.1];simp[k5,G1]
     unfold ij
     rw[l]
     by_cases hp:k=p
     ·subst hp;simp
     ·rw[al hp,aj hp];exact f ks (n+1) h.2
  exact this a ks 0 hk)
 same:=fun k=>by simp[ky,G1]
section
variable {F:Fence} {P:Program} {w0:World} {K:Nat→Prop} {N:Nat} {dfs:List Deferred} {ops:Array Oper} {Q:Exit→Act→World→Prop} {rest:List Oper} {σ:List (Nat×Value)} {L RD:List Asn}
 {d:Nat} {ty:TypeId} {pos:String} {aft:Array Edge} {g:Option (Nat×Bool)} {x y z:Operand} {k b:Nat} {κ ν:Type} [DecidableEq κ] {ek:κ→Value} {ev':ν→Value} {mt kt et:TypeId} {M:List (κ×ν)}
theorem G2 [bu F] {kk:κ} {z0:ν} (H:jF P kt ek) (ht:P.underlying mt=some (.map kt et)) (n:(P.info? et).bind (fun i=>i.zero)=some (ev' z0)) (hg:gd ops σ g=some true) (hd:d<N) (hx:ev σ x=some (.map (some b))) (hy:ev σ y=some (ek kk))
  (hk:L[k]?=some (cz ek ev' b M)) (h:TO F P w0 K N dfs ops Q rest ((d,ev' ((zbP kk M).getD z0))::σ) L):TO F P w0 K N dfs ops Q (⟨some d,.lookup mt x y false,ty,pos,aft,g⟩::rest) σ L :=
 jz hg hd (by simp) (fun a w ha S=>by
  obtain⟨C1,⟨⟨⟨D,C⟩,q⟩,T,hb⟩,I⟩:=S.focus hk
  have hb:w.heap[b]?=some (.map D C):=hb
  have q:D.toList.map (fun e=>(e.key,e.val))=M.map (fun p=>(ek p.1,ev' p.2)):=q
  have u:D.toList.map (·.key)=(M.map bw).map ek:=by
   have:=aM (me bw) q
   simpa [cn,dF] using this
  have f:=H.find D.toList (M.map bw) kk w u
  have ex:=ha.ev hx;have O:=ha.ev hy
  have r:(zeroValue et).run P w=.ok (ev' z0) w:=by
   cases hi:P.info? et with
   |none=>rw[hi] at n;cases n
   |some i=>
    rw[hi] at n
    have E:i.zero=some (ev' z0):=n
    simp[zeroValue,typeInfo,hi,E,ap]
  rw[←xZ kk M]
  cases hi:lf kk (M.map bw) 0 with
  |none=>
   rw[hi] at f
   simp[execOp,ex,O,fK,run_underlying ht,ci hb,H.check,f,r,ap]
  |some i=>
   rw[hi] at f
   obtain⟨_,h2,h3⟩:=vU kk _ _ _ hi
   simp at h2
   have hj:=aM (fun l=>(l[i]?).map eC) q
   simp only[bU,iO,dF] at hj
   have J:M[i]?=some M[i]:=aJ h2
   have hv:(D.toList[i]?).map (·.val)=some (ev' M[i].2):=by rw[hj,J];rfl
   have G:(D[i]?).map (·.val)=some (ev' M[i].2):=by simpa using hv
   simp[execOp,ex,O,fK,run_underlying ht,ci hb,H.check,f,G,J,ap]) h
theorem Ay [bu F] {kk:κ} {z0:ν} (H:jF P kt ek) (ht:P.underlying mt=some (.map kt et)) (n:(P.info? et).bind (fun i=>i.zero)=some (ev' z0)) (hg:gd ops σ g=some true) (hd:d<N) (hx:ev σ x=some (.map (some b))) (hy:ev σ y=some (ek kk))
  (hr:Rd w0 K RD) (hi:RD[k]?=some (cz ek ev' b M)) (h:TO F P w0 K N dfs ops Q rest ((d,.tuple #[ev' ((zbP kk M).getD z0),.bool (zbP kk M).isSome])::σ) L):TO F P w0 K N dfs ops Q (⟨some d,.lookup mt x y true,ty,pos,aft,g⟩::rest) σ L :=
 jz hg hd (by simp) (fun a w ha O=>by
  obtain⟨C1,⟨⟨D,C⟩,q⟩,S,hb⟩:=hr.at O hi
  have hb:w.heap[b]?=some (.map D C):=hb
  have q:D.toList.map (fun e=>(e.key,e.val))=M.map (fun p=>(ek p.1,ev' p.2)):=q
  have u:D.toList.map (·.key)=(M.map bw).map ek:=by
   have:=aM (me bw) q
   simpa [cn,dF] using this
  have f:=H.find D.toList (M.map bw) kk w u
  have ex:=ha.ev hx;have J:=ha.ev hy
  have r:(zeroValue et).run P w=.ok (ev' z0) w:=by
   cases hi:P.info? et with
   |none=>rw[hi] at n;cases n
   |some i=>
    rw[hi] at n
    have E:i.zero=some (ev' z0):=n
    simp[zeroValue,typeInfo,hi,E,ap]
  rw[←xZ kk M]
  cases hi:lf kk (M.map bw) 0 with
  |none=>
   rw[hi] at f
   simp[execOp,ex,J,fK,run_underlying ht,ci hb,H.check,f,r,ap]
  |some i=>
   rw[hi] at f
   obtain⟨_,h2,h3⟩:=vU kk _ _ _ hi
   simp at h2
   have hj:=aM (fun l=>(l[i]?).map eC) q
   simp only[bU,iO,dF] at hj
   have I:M[i]?=some M[i]:=aJ h2
   have hv:(D.toList[i]?).map (·.val)=some (ev' M[i].2):=by rw[hj,I];rfl
   have G:(D[i]?).map (·.val)=some (ev' M[i].2):=by simpa using hv
   simp[execOp,ex,J,fK,run_underlying ht,ci hb,H.check,f,G,I,ap]) h
theorem rG [bu F] {kk:κ} {z0:ν} (H:jF P kt ek) (ht:P.underlying mt=some (.map kt et)) (n:(P.info? et).bind (fun i=>i.zero)=some (ev' z0)) (hg:gd ops σ g=some true) (hd:d<N) (hx:ev σ x=some (.map (some b))) (hy:ev σ y=some (ek kk))
  (hr:Rd w0 K RD) (hi:RD[k]?=some (cz ek ev' b M)) (h:TO F P w0 K N dfs ops Q rest ((d,ev' ((zbP kk M).getD z0))::σ) L):TO F P w0 K N dfs ops Q (⟨some d,.lookup mt x y false,ty,pos,aft,g⟩::rest) σ L :=
 jz hg hd (by simp) (fun a w ha O=>by
  obtain⟨C1,⟨⟨D,C⟩,q⟩,S,hb⟩:=hr.at O hi
  have hb:w.heap[b]?=some (.map D C):=hb
  have q:D.toList.map (fun e=>(e.key,e.val))=M.map (fun p=>(ek p.1,ev' p.2)):=q
  have u:D.toList.map (·.key)=(M.map bw).map ek:=by
   have:=aM (me bw) q
   simpa [cn,dF] using this
  have f:=H.find D.toList (M.map bw) kk w u
  have ex:=ha.ev hx;have J:=ha.ev hy
  have r:(zeroValue et).run P w=.ok (ev' z0) w:=by
   cases hi:P.info? et with
   |none=>rw[hi] at n;cases n
   |some i=>
    rw[hi] at n
    have E:i.zero=some (ev' z0):=n
    simp[zeroValue,typeInfo,hi,E,ap]
  rw[←xZ kk M]
  cases hi:lf kk (M.map bw) 0 with
  |none=>
   rw[hi] at f
   simp[execOp,ex,J,fK,run_underlying ht,ci hb,H.check,f,r,ap]
  |some i=>
   rw[hi] at f
   obtain⟨_,h2,h3⟩:=vU kk _ _ _ hi
   simp at h2
   have hj:=aM (fun l=>(l[i]?).map eC) q
   simp only[bU,iO,dF] at hj
   have I:M[i]?=some M[i]:=aJ h2
   have hv:(D.toList[i]?).map (·.val)=some (ev' M[i].2):=by rw[hj,I];rfl
   have G:(D[i]?).map (·.val)=some (ev' M[i].2):=by simpa using hv
   simp[execOp,ex,J,fK,run_underlying ht,ci hb,H.check,f,G,I,ap]) h
end
end
section
variable {α:Type} {enc:α→List Value} {size k:Nat} {vv:Value} {xs:List α}
def jh (enc:α→List Value) (size:Nat) (vv:Value) (k:Nat) (xs:List α):Asn :=
  ⟨fun C w=>(∀b,C b→b<w.heap.size)∧∀i x j v,k≤i→xs[i]?=some x→(enc x)[j]?=some v→C (eO vv)∧w.cell? ⟨eO vv,i*size+j,none⟩=some v,
   fun h b hb=>h.1 b hb,
   fun {C w w'} h a hk=>⟨fun b hb=>eG (h.1 b hb) a,fun i x j v hi hx hv=>by
     obtain⟨h1,h2⟩:=h.2 i x j v hi hx hv
     refine⟨h1,?_⟩
     rw[←h2]
     unfold World.cell?
     simp only[hk _ h1]⟩⟩
theorem oK {e:TypeId} (hz:∀x,(enc x).length=size) {C:Nat→Prop} {w:World} (h:(vec enc e size vv xs).P C w):(jh enc size vv 0 xs).P C w:=by
 have hV:il enc e size vv xs C w:=h
 refine⟨(vec enc e size vv xs).lt h,fun i x j v _ hx hv=>?_⟩
 have hj:j<size:=by rw[←hz x];exact (au.1 hv).1
 refine⟨?_,hV.cellAt hz hx hj hv⟩
 rcases hV.shape with⟨_,h2,_⟩|⟨g,cap,rfl,_⟩
 ·rw[h2] at hx;simp at hx
 ·rw[hV.2];rfl
variable {F:Fence} {P:Program} {w0:World} {K:Nat→Prop} {N:Nat} {dfs:List Deferred} {ops:Array Oper} {Q:Exit→Act→World→Prop} {rest:List Oper} {σ:List (Nat×Value)} {L RD:List Asn} {v:Value}
 {d i:Nat} {t ty:TypeId} {pos:String} {aft:Array Edge} {g:Option (Nat×Bool)} {x:Operand}
theorem jG [bu F] {n j off:Nat} {q:α} (hr:Rd w0 K RD) (hi:RD[i]?=some (jh enc size vv k xs)) (f:k≤n) (E:lA P t) (hg:gd ops σ g=some true) (hd:d<N) (hx:ev σ x=some (.pointer (some ⟨eO vv,off,none⟩)))
  (u:xs[n]?=some q) (D:off=n*size+j) (hv:(enc q)[j]?=some v) (h:TO F P w0 K N dfs ops Q rest ((d,v)::σ) L) :
  TO F P w0 K N dfs ops Q (⟨some d,.load t x,ty,pos,aft,g⟩::rest) σ L:=by
 subst D
 obtain⟨dd,hu,r⟩:=E
 refine jz hg hd (by simp) (fun a w ha l=>?_) h
 obtain⟨C,G⟩:=hr.at l hi
 have hc:=(G.2 n q j v f u hv).2
 have h1:=ha.ev hx
 cases dd<;>simp_all [execOp,kw,er,loadVar,isAgg,ap,run_underlying hu]
theorem pJ [bu F] {m j off n:Nat} {q:α} {cs:List Value} (hr:Rd w0 K RD) (hi:RD[i]?=some (jh enc size vv k xs)) (r:k≤m) (J:o0 P t n) (hg:gd ops σ g=some true) (hd:d<N) (hx:ev σ x=some (.pointer (some ⟨eO vv,off,none⟩)))
  (H:xs[m]?=some q) (I:off=m*size+j) (E:((enc q).drop j).take n=cs) (f:cs.length=n)
  (h:TO F P w0 K N dfs ops Q rest ((d,.agg cs.toArray)::σ) L):TO F P w0 K N dfs ops Q (⟨some d,.load t x,ty,pos,aft,g⟩::rest) σ L:=by
 subst I;subst f
 obtain⟨dd,hu,l,D⟩:=J
 refine jz hg hd (by simp) (fun a w ha G=>?_) h
 obtain⟨C,O⟩:=hr.at G hi
 have hc:w.rangeAt (eO vv) (m*size+j) cs:=fun n u f=>by
  rw[←E] at f
  rw[List.getElem?_take] at f
  split at f
  ·rw[List.getElem?_drop] at f
   have:=(O.2 m q (j+n) u r H f).2
   rwa [←fN] at this
  ·cases f
 simp only[execOp,ha.ev hx,ap,run_loadAt_mid w _ _ t cs dd hc hu l D];rfl
end
section
variable {F:Fence} {P:Program} {w0:World} {K:Nat→Prop} {N:Nat} {dfs:List Deferred} {ops:Array Oper} {Q:Exit→Act→World→Prop} {rest:List Oper} {σ:List (Nat×Value)} {L:List Asn} {c:Code} {ex:Exit} {k:Nat}
 {α η:Type} {enc:α×η→List Value} {nest:α×η→List Asn} {t:TypeId} {p:Value} {m:Option α} {x:α}
theorem Az (enc:α×η→List Value) (nest:α×η→List Asn) (t:TypeId) (h:TX w0 K N dfs Q ex σ (L++[jY enc nest t (.pointer none) none])):TX w0 K N dfs Q ex σ L:=fun a w ha f=>
 h a w ha (f.grow (C':=fun _=>False) (eo _ _) (qc (A:=jY enc nest t (.pointer none) none) ⟨fun _ h=>h,rfl⟩))
theorem C6 (h:m=some x):mS [jY enc nest t p m] (fun a:Nat×η=>cells a.1 (enc (x,a.2)) t::nest (x,a.2)) (fun a=>p=.pointer (some ⟨a.1,0,none⟩)):=fun C w f=>by
 subst h
 obtain⟨b,hd,h2,h3⟩:=lh.1 (aF.1 f)
 exact⟨(b,hd),h2,h3⟩
def G3 (p:Value) (m:Option α):Prop:=(m.isNone=true∧p=.pointer none)∨(m.isNone=false∧∃b,p=.pointer (some ⟨b,0,none⟩))
theorem Nq (hk:L[k]?=some (jY enc nest t p m)) (h:G3 p m→TO F P w0 K N dfs ops Q rest σ L):TO F P w0 K N dfs ops Q rest σ L:=fun a w ha f=>by
 obtain⟨C1,h1,_⟩:=f.focus hk
 refine h ?_ a w ha f
 rcases Np h1 with⟨rfl,h2⟩|⟨x,b,rfl,h2⟩
 ·exact .inl ⟨rfl,h2⟩
 ·exact .inr ⟨rfl,b,h2⟩
theorem Nr {ty a:TypeId} {w:World} (ht:P.underlying ty=some (.pointer a)):(Op.equal ty (.pointer none) (.pointer none)).run P w=.ok true w:=by
 have h:∀d,(fm (d+1) ty (.pointer none) (.pointer none)).run P w=.ok true w:=fun d=>by simp[fm,run_underlying ht]
 exact h 9999
theorem Ns {ty a:TypeId} {y z:Operand} (ht:P.underlying ty=some (.pointer a)) (hv:G3 p m) (w:World):(do eqGuard .eql ty y z p (.pointer none);binOp .eql ty p (.pointer none):Sem Value).run P w=.ok (.bool m.isNone) w:=by
 rcases hv with⟨h1,rfl⟩|⟨h1,b,rfl⟩
 ·rw[h1];simp[eqGuard,binOp,ap,Nr ht]
 ·rw[h1];exact zjU ht w
end
section
variable {F:Fence} {P:Program} {w0:World} {K:Nat→Prop} {N:Nat} {dfs:List Deferred} {ops:Array Oper} {Q:Exit→Act→World→Prop} {rest:List Oper} {σ σ':List (Nat×Value)} {L L' R As Bs:List Asn} {o:Oper} {v:Value}
 {d:Nat} {t:TypeId} {op:Op} {ty:TypeId} {pos:String} {aft:Array Edge} {g:Option (Nat×Bool)} {x y z:Operand} {c c1 c2:Code} {k:Nat} {A B:Asn} {RO:List (Nat×Obj)} {RD RD0:List Asn}
section
variable {α β γ δ:Type}
end
end
theorem G4 {α:Type} {enc:α→List Value} {size k:Nat} {vv:Value} {xs:List α} {e:TypeId} (hz:∀x,(enc x).length=size) {C:Nat→Prop} {w:World} (h:(vec enc e size vv xs).P C w):(jh enc size vv k xs).P C w :=
 ⟨(oK hz h).1,fun i x j v h1 h2 h3=>(oK hz h).2 i x j v (Nat.zero_le _) h2 h3⟩
theorem Rd.up {α:Type} {enc:α→List Value} {size k m:Nat} {vv:Value} {xs:List α} {w0:World} {K:Nat→Prop} {RD:List Asn} {i:Nat} (hr:Rd w0 K RD) (hi:RD[i]?=some (jh enc size vv k xs)):Rd w0 K (RD++[jh enc size vv (k+m) xs]) :=
 hr.append fun B hB=>by
  rw[bO] at hB
  subst hB
  obtain⟨C,h,hk⟩:=hr _ (aP hi)
  exact⟨C,⟨h.1,fun i x j v h1 h2 h3=>h.2 i x j v (by omega) h2 h3⟩,hk⟩
structure Nt (α:Type) where
 vv:Value
 k:Nat
 L:List α
def mo {α:Type} (enc:α→List Value) (size:Nat) (hd:Hd) (xs:List α):Asn :=
 xM fun b:{b:Nt α // Vw b.vv b.L size b.k hd.v xs}=>jh enc size b.1.vv b.1.k b.1.L
theorem C7 {α:Type} {enc:α→List Value} {size:Nat} {e:TypeId} {hd:Hd} {xs:List α} (a:∀x,(enc x).length=size) {C:Nat→Prop} {w:World} (h:(vec enc e size hd.v xs).P C w):(mo enc size hd xs).P C w :=
 ⟨⟨⟨hd.v,0,xs⟩,GZ h⟩,oK a h⟩
theorem Nu {α:Type} {enc:α→List Value} {size:Nat} {hd:Hd} {xs:List α} {vv:Value} {k:Nat} {L:List α} (hV:Vw vv L size k hd.v xs) {C:Nat→Prop} {w:World} (h:(jh enc size vv k L).P C w):(mo enc size hd xs).P C w :=
 ⟨⟨⟨vv,k,L⟩,hV⟩,h⟩
section
variable {α η:Type} {enc:α×η→List Value} {nest nestR:α×η→List Asn} {e:TypeId} {size:Nat} {v:Value} {xs:List α} {zs:List (α×η)} {z:α×η}
def Nv (nestR:α×η→List Asn) (zs:List (α×η)):Asn :=
  ⟨fun C w=>(∀k,C k→k<w.heap.size)∧∀z∈zs,∀A∈nestR z,∃D,A.P D w∧∀k,D k→C k,
   fun h k hk=>h.1 k hk,
   fun {C w w'} h a hk=>⟨fun k l=>eG (h.1 k l) a,fun z hz A hA=>by
     obtain⟨D,h1,h2⟩:=h.2 z hz A hA
     exact⟨D,A.loc h1 a (fun k f=>hk k (h2 k f)),h2⟩⟩⟩
variable {w0:World} {K:Nat→Prop} {RD:List Asn} {i j:Nat}
theorem Rd.openSl {β:Type} {_k:β→List Value} {hd:Hd} {ys:List β} (hr:Rd w0 K RD) (hi:RD[i]?=some (mo _k size hd ys)):∃vv k L,Vw vv L size k hd.v ys∧Rd w0 K (RD++[jh _k size vv k L]):=by
 obtain⟨C,⟨⟨⟨vv,k,L⟩,hV⟩,a⟩,hk⟩:=hr _ (aP hi)
 refine⟨vv,k,L,hV,hr.append fun B hB=>?_⟩
 rw[bO] at hB
 subst hB
 exact⟨C,a,hk⟩
end
section
variable {α η:Type} {nest:α×η→List Asn} {zs ys:List (α×η)}
end
section
variable {F:Fence} {P:Program} {w0:World} {K:Nat→Prop} {N:Nat} {dfs:List Deferred} {Q:Exit→Act→World→Prop} {σ:List (Nat×Value)} {L:List Asn} {c:Code} {k:Nat} {α η:Type} {enc:α×η→List Value} {nest:α×η→List Asn} {t:TypeId} {p:Value} {m:Option α}
end
section
def bi (h:Hd):Nat:=match h.1 with
 |some a=>a.block
 |none=>0
abbrev nY:Type:=List (ad×(List ad×Hd))
def pK (z:List ad×Hd):Value:=z.2.v
def Nw (z:List ad×Hd):List Asn:=[mo hO 1 z.2 z.1]
def om (L:nY):List (ad×List ad):=L.map fun p=>(p.1,p.2.1)
abbrev pM (b:Nat) (L:nY):Asn:=cz (fun s:ad=>af s) pK b L
abbrev pr (L:nY):Asn:=Nv Nw (L.map eC)
def dQ (b:Nat) (M:List (ad×List ad)):Asn:=xM fun L:{L:nY // om L=M}=>ziH [pM b L.1,pr L.1]
theorem vX (k:ad):∀ (L:nY),zbP k (om L)=(zbP k L).map bw
 |[]=>rfl
 |p::L=>by
  have a:=vX k L
  show zbP k ((p.1,p.2.1)::om L)=(zbP k (p::L)).map bw
  unfold zbP
  show (if k=p.1 then some p.2.1 else zbP k (om L))=(if k=p.1 then some p.2 else zbP k L).map bw
  split
  ·rfl
  ·exact a
theorem G5 (k:ad) (xs:List ad) (hd:Hd):∀ (L:nY),om (iq k (xs,hd) L)=iq k xs (om L)
 |[]=>rfl
 |p::L=>by
  have a:=G5 k xs hd L
  show om (iq k (xs,hd) (p::L))=iq k xs ((p.1,p.2.1)::om L)
  unfold iq
  show om (if k=p.1 then (k,(xs,hd))::L else p::iq k (xs,hd) L)=(if k=p.1 then (k,xs)::om L else (p.1,p.2.1)::iq k xs (om L))
  split
  ·rfl
  ·show (p.1,p.2.1)::om (iq k (xs,hd) L)=_
   rw[a]
theorem G6 (k:ad) (z:List ad×Hd):∀ (L:nY),∀y∈(iq k z L).map eC,y=z∨y∈L.map eC
 |[],y,h=>.inl (by simpa [iq] using h)
 |p::L,y,h=>by
  have a:=G6 k z L
  unfold iq at h
  have h:y∈(if k=p.1 then (k,z)::L else p::iq k z L).map eC:=h
  split at h
  ·rcases bo.1 h with rfl|h
   ·exact .inl rfl
   ·exact .inr (ak _ h)
  ·rcases bo.1 h with rfl|h
   ·exact .inr (ar ..)
   ·exact (a y h).imp id (ak _)
theorem AA {κ ν:Type} [DecidableEq κ] (k:κ) (v:ν):∀ (L:List (κ×ν)),zbP k L=some v→v∈L.map eC
 |[],h=>by cases h
 |p::L,h=>by
  unfold zbP at h
  have h:(if k=p.1 then some p.2 else zbP k L)=some v:=h
  split at h
  ·cases h;exact ar ..
  ·exact ak _ (AA k v L h)
variable {b:Nat} {M:List (ad×List ad)} {L:nY}
theorem G7:mS [dQ b M] (fun L:nY=>[pM b L,pr L]) (fun L=>om L=M):=fun C w h=>by
 obtain⟨⟨L,hL⟩,hz⟩:=aF.1 h
 exact⟨L,hL,hz⟩
theorem G8:mS [pM b []] (fun _:Unit=>[dQ b []]) (fun _=>True):=fun C w h=>by
 refine⟨(),trivial,aF.2 ⟨⟨[],rfl⟩,?_⟩⟩
 have h1:=aF.1 h
 exact CQ (C1:=C) (C2:=fun _=>False) h1 ⟨fun k h=>h.elim,fun z hz=>by simp at hz⟩ (fun k a b=>b) (fun k=>by simp)
theorem G9 (k:ad) (xs:List ad) (hd:Hd) (hL:om L=M):mS [pM b (iq k (xs,hd) L),pr L,mo hO 1 hd xs] (fun _:Unit=>[dQ b (iq k xs M)]) (fun _=>True):=fun C w h=>by
 obtain⟨C1,C2,h1,h2,h3,f⟩:=h
 obtain⟨r,l,g1,g2,n,g4⟩:=h2
 have g2:=aF.1 g2
 refine⟨(),trivial,aF.2 ⟨⟨iq k (xs,hd) L,by rw[G5,hL]⟩,?_⟩⟩
 refine CQ (C1:=C1) (C2:=C2) h1 ⟨fun q a=>?_,fun z hz A hA=>?_⟩ h3 f
 ·rcases (g4 q).1 a with h|h
  ·exact (pr L).lt g1 q h
  ·exact (mo hO 1 hd xs).lt g2 q h
 ·rcases G6 k (xs,hd) L z hz with rfl|hz
  ·have hA:A=mo hO 1 hd xs:=bO.1 hA
   subst hA
   exact⟨l,g2,fun q a=>(g4 q).2 (.inr a)⟩
  ·obtain⟨D,d1,d2⟩:=g1.2 z hz A hA
   exact⟨D,d1,fun q a=>(g4 q).2 (.inl (d2 q a))⟩
theorem Rd.fors {w0:World} {K:Nat→Prop} {RD:List Asn} {i:Nat} (hr:Rd w0 K RD) (hi:RD[i]?=some (dQ b M)):∃L:nY,om L=M∧Rd w0 K (RD++[pM b L,pr L]):=by
 obtain⟨C,⟨⟨L,hL⟩,hz⟩,hk⟩:=hr _ (aP hi)
 obtain⟨C1,C2,h1,h2,h3,a⟩:=GG hz
 refine⟨L,hL,hr.append fun B hB=>?_⟩
 rcases bo.1 hB with rfl|hB
 ·exact⟨C1,h1,fun k h=>hk k ((a k).2 (.inl h))⟩
 ·rw[bO] at hB
  subst hB
  exact⟨C2,h2,fun k h=>hk k ((a k).2 (.inr h))⟩
theorem Rd.forsGet {w0:World} {K:Nat→Prop} {RD:List Asn} {i:Nat} {k:ad} {xs:List ad} {hd:Hd} (hr:Rd w0 K RD) (hi:RD[i]?=some (pr L)) (hg:zbP k L=some (xs,hd)):Rd w0 K (RD++[mo hO 1 hd xs]) :=
 hr.more hi fun C a B hB=>a.2 _ (AA k _ L hg) B hB
section
variable {F:Fence} {P:Program} {w0:World} {K:Nat→Prop} {N:Nat} {dfs:List Deferred} {ops:Array Oper} {Q:Exit→Act→World→Prop} {rest:List Oper} {σ:List (Nat×Value)} {LL RD:List Asn}
 {d:Nat} {ty:TypeId} {pos:String} {aft:Array Edge} {g:Option (Nat×Bool)} {x y z:Operand} {i:Nat} {mt kt et:TypeId}
theorem Ha [bu F] {kk:ad} (u:P.underlying kt=some .string) (ht:P.underlying mt=some (.map kt et)) (n:(P.info? et).bind (fun i=>i.zero)=some (.slice none 0 0)) (hg:gd ops σ g=some true) (hd:d<N) (hx:ev σ x=some (.map (some b))) (hy:ev σ y=some (.string kk))
  (hr:Rd w0 K RD) (hi:RD[i]?=some (dQ b M))
  (h:∀hd:Hd,(∀xs,zbP kk M=some xs→Rd w0 K (RD++[mo hO 1 hd xs]))→TO F P w0 K N dfs ops Q rest ((d,.tuple #[hd.v,.bool (zbP kk M).isSome])::σ) LL) :
  TO F P w0 K N dfs ops Q (⟨some d,.lookup mt x y true,ty,pos,aft,g⟩::rest) σ LL:=by
 obtain⟨L,hL,l⟩:=hr.fors hi
 have hb:((zbP kk L).getD ([],eB)).2.v=pK ((zbP kk L).getD ([],eB)):=rfl
 refine Ay (k:=RD.length) (M:=L) (z0:=([],eB)) (ev':=pK) (mT u) ht n hg hd hx hy l (by simp) ?_
 have h1:=h ((zbP kk L).getD ([],eB)).2 (fun xs a=>by
  rw[←hL,vX] at a
  cases f:zbP kk L with
  |none=>rw[f] at a;cases a
  |some q=>
   rw[f] at a
   have:q.1=xs:=mL a
   subst this
   have h2:=l.forsGet (i:=RD.length+1) (k:=kk) (xs:=q.1) (hd:=q.2) (by simp) f
   refine hr.append fun B hB=>?_
   rw[bO] at hB
   subst hB
   exact h2 _ (by simp))
 rw[←hL,vX,hb] at h1
 cases r:zbP kk L with
 |none=>rw[r] at h1;exact h1
 |some q=>rw[r] at h1;exact h1
end
end
section
open Go.Shelf
theorem dO:lA prog 3:=⟨_,underlying3,rfl⟩
theorem kp:bC prog 3 1:=by unfold bC;as_aux_lemma=>kernel_rfl
theorem x0:cm prog 3 [.int .i64 0]:=by unfold cm;as_aux_lemma=>kernel_rfl
theorem qS:lA prog 4:=⟨_,underlying4,rfl⟩
theorem oL:bC prog 4 1:=by unfold bC;as_aux_lemma=>kernel_rfl
theorem C8:cm prog 4 [.bool false]:=by unfold cm;as_aux_lemma=>kernel_rfl
theorem AB:lA prog 5:=⟨_,underlying5,rfl⟩
theorem uE:bC prog 5 1:=by unfold bC;as_aux_lemma=>kernel_rfl
theorem Nx:cm prog 5 [.int .u8 0]:=by unfold cm;as_aux_lemma=>kernel_rfl
theorem Ny:dP prog 5 1:=fv kr
theorem oo:lc prog 5:=lc.mk' kr
theorem dU:lA prog 9:=⟨_,underlying9,rfl⟩
theorem gV:bC prog 9 1:=by unfold bC;as_aux_lemma=>kernel_rfl
theorem Hb:cm prog 9 [.string ac]:=by unfold cm;as_aux_lemma=>kernel_rfl
theorem oM:dP prog 9 1:=fv kr
theorem eZ:lA prog 21:=⟨_,underlying21,rfl⟩
theorem lj:bC prog 21 1:=by unfold bC;as_aux_lemma=>kernel_rfl
theorem tL:dP prog 21 1:=fv kr
theorem C9:lA prog 24:=⟨_,underlying24,rfl⟩
theorem kW:o0 prog 26 2:=⟨_,underlying26,rfl,by as_aux_lemma=>kernel_rfl⟩
theorem Da:jy prog 26 0 0:=⟨_,_,underlying26,rfl,rfl,by as_aux_lemma=>kernel_rfl⟩
theorem kC:bC prog 26 2:=by unfold bC;as_aux_lemma=>kernel_rfl
theorem zq8:cm prog 26 [.int .i64 0,.int .i64 0]:=by unfold cm;as_aux_lemma=>kernel_rfl
theorem pN:lA prog 29:=⟨_,underlying29,rfl⟩
theorem AC:bC prog 29 1:=by unfold bC;as_aux_lemma=>kernel_rfl
theorem Hc:cm prog 29 [.pointer none]:=by unfold cm;as_aux_lemma=>kernel_rfl
theorem oq:lA prog 36:=⟨_,underlying36,rfl⟩
theorem sG:bC prog 36 1:=by unfold bC;as_aux_lemma=>kernel_rfl
theorem vY:lA prog 37:=⟨_,underlying37,rfl⟩
theorem vZ:jy prog 39 0 0:=⟨_,_,nW,rfl,rfl,by as_aux_lemma=>kernel_rfl⟩
theorem zuk:jy prog 39 1 1:=⟨_,_,nW,rfl,rfl,by as_aux_lemma=>kernel_rfl⟩
theorem AD:jy prog 39 2 2:=⟨_,_,nW,rfl,rfl,by as_aux_lemma=>kernel_rfl⟩
theorem zpH:jy prog 39 3 3:=⟨_,_,nW,rfl,rfl,by as_aux_lemma=>kernel_rfl⟩
theorem Db:lA prog 46:=⟨_,underlying46,rfl⟩
theorem He:bC prog 46 1:=by unfold bC;as_aux_lemma=>kernel_rfl
theorem Nz:cm prog 46 [.slice none 0 0]:=by unfold cm;as_aux_lemma=>kernel_rfl
theorem NA:cm prog 68 [.pointer none,.slice none 0 0]:=by unfold cm;as_aux_lemma=>kernel_rfl
theorem wa:lA prog 69:=⟨_,underlying69,rfl⟩
theorem rH:lA prog 70:=⟨_,underlying70,rfl⟩
theorem znT:jy prog 72 0 0:=⟨_,_,kS,rfl,rfl,by as_aux_lemma=>kernel_rfl⟩
theorem znS:jy prog 72 1 1:=⟨_,_,kS,rfl,rfl,by as_aux_lemma=>kernel_rfl⟩
theorem Dc:jy prog 72 2 2:=⟨_,_,kS,rfl,rfl,by as_aux_lemma=>kernel_rfl⟩
theorem rI:jy prog 72 3 3:=⟨_,_,kS,rfl,rfl,by as_aux_lemma=>kernel_rfl⟩
theorem zpG:jy prog 72 4 4:=⟨_,_,kS,rfl,rfl,by as_aux_lemma=>kernel_rfl⟩
theorem l7:o0 prog 81 3:=⟨_,nX,rfl,by as_aux_lemma=>kernel_rfl⟩
theorem zdk:jy prog 81 0 0:=⟨_,_,nX,rfl,rfl,by as_aux_lemma=>kernel_rfl⟩
theorem qT:jy prog 81 1 1:=⟨_,_,nX,rfl,rfl,by as_aux_lemma=>kernel_rfl⟩
theorem NB:jy prog 81 2 2:=⟨_,_,nX,rfl,rfl,by as_aux_lemma=>kernel_rfl⟩
theorem gR:bC prog 81 3:=by unfold bC;as_aux_lemma=>kernel_rfl
theorem zor:cm prog 81 [.int .i32 0,.string ac,.int .i64 0]:=by unfold cm;as_aux_lemma=>kernel_rfl
theorem tM:dP prog 81 3:=fv kr
theorem NC:bC prog 82 2:=by unfold bC;as_aux_lemma=>kernel_rfl
theorem ND:cm prog 82 [.bool false,.bool false]:=by unfold cm;as_aux_lemma=>kernel_rfl
theorem wb:lA prog 87:=⟨_,underlying87,rfl⟩
theorem Hf:bC prog 87 1:=by unfold bC;as_aux_lemma=>kernel_rfl
theorem NE:cm prog 87 [.slice none 0 0]:=by unfold cm;as_aux_lemma=>kernel_rfl
theorem ot:o0 prog 91 5:=⟨_,jk,rfl,by as_aux_lemma=>kernel_rfl⟩
theorem zpF:jy prog 91 0 0:=⟨_,_,jk,rfl,rfl,by as_aux_lemma=>kernel_rfl⟩
theorem x8:jy prog 91 1 1:=⟨_,_,jk,rfl,rfl,by as_aux_lemma=>kernel_rfl⟩
theorem wc:jy prog 91 2 2:=⟨_,_,jk,rfl,rfl,by as_aux_lemma=>kernel_rfl⟩
theorem zrI:jy prog 91 3 3:=⟨_,_,jk,rfl,rfl,by as_aux_lemma=>kernel_rfl⟩
theorem zui:jy prog 91 4 4:=⟨_,_,jk,rfl,rfl,by as_aux_lemma=>kernel_rfl⟩
theorem mU:bC prog 91 5:=by unfold bC;as_aux_lemma=>kernel_rfl
theorem rJ:cm prog 91 [.int .i64 0,.int .i64 0,.string ac,.string ac,.int .i64 0]:=by unfold cm;as_aux_lemma=>kernel_rfl
theorem Hg:dP prog 91 5:=fv kr
theorem NF:o0 prog 93 3:=⟨_,underlying93,rfl,by as_aux_lemma=>kernel_rfl⟩
theorem NG:bC prog 93 3:=by unfold bC;as_aux_lemma=>kernel_rfl
theorem NH:cm prog 93 [.nilFunc,.nilFunc,.nilFunc]:=by unfold cm;as_aux_lemma=>kernel_rfl
theorem we:jy prog 100 0 0:=⟨_,_,kf,rfl,rfl,by as_aux_lemma=>kernel_rfl⟩
theorem AE:jy prog 100 1 1:=⟨_,_,kf,rfl,rfl,by as_aux_lemma=>kernel_rfl⟩
theorem Hh:jy prog 100 2 2:=⟨_,_,kf,rfl,rfl,by as_aux_lemma=>kernel_rfl⟩
theorem Dd:jy prog 100 3 3:=⟨_,_,kf,rfl,rfl,by as_aux_lemma=>kernel_rfl⟩
theorem De:jy prog 100 4 4:=⟨_,_,kf,rfl,rfl,by as_aux_lemma=>kernel_rfl⟩
theorem nG:bC prog 100 5:=by unfold bC;as_aux_lemma=>kernel_rfl
theorem wg:dP prog 100 5:=fv kr
theorem wh:lA prog 103:=⟨_,underlying103,rfl⟩
theorem Hi:bC prog 103 1:=by unfold bC;as_aux_lemma=>kernel_rfl
theorem sH:jy prog 106 0 0:=⟨_,_,underlying106,rfl,rfl,by as_aux_lemma=>kernel_rfl⟩
theorem Df:jy prog 106 1 1:=⟨_,_,underlying106,rfl,rfl,by as_aux_lemma=>kernel_rfl⟩
theorem qt:bC prog 106 2:=by unfold bC;as_aux_lemma=>kernel_rfl
theorem Hj:dP prog 106 2:=fv kr
theorem NI:o0 prog 111 2:=⟨_,rr,rfl,by as_aux_lemma=>kernel_rfl⟩
theorem tN:jy prog 111 0 0:=⟨_,_,rr,rfl,rfl,by as_aux_lemma=>kernel_rfl⟩
theorem wi:jy prog 111 1 1:=⟨_,_,rr,rfl,rfl,by as_aux_lemma=>kernel_rfl⟩
theorem pt:bC prog 111 2:=by unfold bC;as_aux_lemma=>kernel_rfl
theorem NJ:cm prog 111 [.int .i64 0,.string ac]:=by unfold cm;as_aux_lemma=>kernel_rfl
theorem NK:dP prog 111 2:=fv kr
theorem ya:lA prog 115:=⟨_,underlying115,rfl⟩
theorem Hk:bC prog 115 1:=by unfold bC;as_aux_lemma=>kernel_rfl
theorem Hl:cm prog 115 [.map none]:=by unfold cm;as_aux_lemma=>kernel_rfl
theorem AF:lA prog 116:=⟨_,underlying116,rfl⟩
theorem Hm:bC prog 116 1:=by unfold bC;as_aux_lemma=>kernel_rfl
theorem Hn:cm prog 116 [.map none]:=by unfold cm;as_aux_lemma=>kernel_rfl
theorem uF:lA prog 120:=⟨_,underlying120,rfl⟩
theorem Ho:bC prog 120 1:=by unfold bC;as_aux_lemma=>kernel_rfl
theorem NL:cm prog 120 [.slice none 0 0]:=by unfold cm;as_aux_lemma=>kernel_rfl
theorem qU:o0 prog 123 5:=⟨_,kg,rfl,by as_aux_lemma=>kernel_rfl⟩
theorem Dh:jy prog 123 1 1:=⟨_,_,kg,rfl,rfl,by as_aux_lemma=>kernel_rfl⟩
theorem zgo:jy prog 123 2 2:=⟨_,_,kg,rfl,rfl,by as_aux_lemma=>kernel_rfl⟩
theorem AG:jy prog 123 3 3:=⟨_,_,kg,rfl,rfl,by as_aux_lemma=>kernel_rfl⟩
theorem AH:jy prog 123 4 4:=⟨_,_,kg,rfl,rfl,by as_aux_lemma=>kernel_rfl⟩
theorem sI:bC prog 123 5:=by unfold bC;as_aux_lemma=>kernel_rfl
theorem AJ:cm prog 123 [.int .i64 0,.int .u8 0,.int .i32 0,.slice none 0 0,.slice none 0 0]:=by unfold cm;as_aux_lemma=>kernel_rfl
theorem Hq:dP prog 123 5:=fv kr
theorem NM:o0 prog 126 2:=⟨_,underlying126,rfl,by as_aux_lemma=>kernel_rfl⟩
theorem Hr:bC prog 126 2:=by unfold bC;as_aux_lemma=>kernel_rfl
theorem NN:cm prog 126 [.int .i32 0,.int .i32 0]:=by unfold cm;as_aux_lemma=>kernel_rfl
theorem yb:o0 prog 127 2:=⟨_,underlying127,rfl,by as_aux_lemma=>kernel_rfl⟩
theorem Hs:bC prog 127 2:=by unfold bC;as_aux_lemma=>kernel_rfl
theorem Di:cm prog 127 [.int .i32 0,.int .i32 0]:=by unfold cm;as_aux_lemma=>kernel_rfl
theorem Ht:lA prog 129:=⟨_,underlying129,rfl⟩
theorem NO:bC prog 129 1:=by unfold bC;as_aux_lemma=>kernel_rfl
theorem lO:o0 prog 132 4:=⟨_,kh,rfl,by as_aux_lemma=>kernel_rfl⟩
theorem zd2:jy prog 132 0 0:=⟨_,_,kh,rfl,rfl,by as_aux_lemma=>kernel_rfl⟩
theorem qV:jy prog 132 1 1:=⟨_,_,kh,rfl,rfl,by as_aux_lemma=>kernel_rfl⟩
theorem qu:jy prog 132 2 2:=⟨_,_,kh,rfl,rfl,by as_aux_lemma=>kernel_rfl⟩
theorem AK:jy prog 132 3 3:=⟨_,_,kh,rfl,rfl,by as_aux_lemma=>kernel_rfl⟩
theorem kM:bC prog 132 4:=by unfold bC;as_aux_lemma=>kernel_rfl
theorem zjr:cm prog 132 [.int .i64 0,.int .i64 0,.int .i32 0,.bool false]:=by unfold cm;as_aux_lemma=>kernel_rfl
theorem Hu:dP prog 132 4:=fv kr
theorem Hv:o0 prog 137 3:=⟨_,underlying137,rfl,by as_aux_lemma=>kernel_rfl⟩
theorem AL:bC prog 137 3:=by unfold bC;as_aux_lemma=>kernel_rfl
theorem Hw:cm prog 137 [.string ac,.string ac,.string ac]:=by unfold cm;as_aux_lemma=>kernel_rfl
theorem NP:lA prog 152:=⟨_,underlying152,rfl⟩
abbrev dx (n:Nat):Prop:=∀args w,(callFunc n args).run prog w=.ok (.enter n args) w
theorem Hy:dx 7:=enters_of func7 kr rfl
theorem Hz:dx 8:=enters_of func8 kr rfl
theorem Dj:dx 9:=enters_of func9 kr rfl
theorem NQ:dx 13:=enters_of func13 kr rfl
theorem NR:dx 14:=enters_of func14 kr rfl
theorem HA:dx 15:=enters_of func15 kr rfl
theorem Dk:dx 16:=enters_of func16 kr rfl
theorem NS:dx 17:=enters_of func17 kr rfl
theorem yc:dx 18:=enters_of func18 kr rfl
theorem HB:dx 19:=enters_of func19 kr rfl
theorem NT:dx 20:=enters_of func20 kr rfl
theorem NU:dx 23:=enters_of func23 kr rfl
theorem NV:dx 25:=enters_of func25 kr rfl
theorem NW:dx 26:=enters_of func26 kr rfl
theorem NX:dx 27:=enters_of func27 kr rfl
theorem NY:dx 28:=enters_of func28 kr rfl
theorem NZ:dx 29:=enters_of func29 kr rfl
theorem N0:dx 30:=enters_of func30 kr rfl
theorem N1:dx 31:=enters_of func31 kr rfl
theorem HC:dx 32:=enters_of func32 kr rfl
theorem N2:dx 33:=enters_of func33 kr rfl
theorem HD:dx 35:=enters_of func35 kr rfl
theorem Dm:dx 36:=enters_of func36 kr rfl
theorem wj:dx 37:=enters_of func37 kr rfl
theorem yd:dx 38:=enters_of func38 kr rfl
theorem Dn:dx 39:=enters_of func39 kr rfl
theorem HE:dx 40:=enters_of func40 kr rfl
theorem N3:dx 41:=enters_of func41 kr rfl
theorem HF:dx 42:=enters_of func42 kr rfl
theorem AM:dx 43:=enters_of func43 kr rfl
theorem N4:dx 44:=enters_of func44 kr rfl
theorem N5:dx 45:=enters_of func45 kr rfl
theorem wk:dx 46:=enters_of func46 kr rfl
theorem N6:dx 47:=enters_of func47 kr rfl
theorem Do:dx 48:=enters_of func48 kr rfl
theorem Dp:dx 49:=enters_of func49 kr rfl
theorem HG:dx 50:=enters_of func50 kr rfl
theorem AN:dx 51:=enters_of func51 kr rfl
theorem N7:dx 55:=enters_of func55 kr rfl
theorem HH:dx 57:=enters_of func57 kr rfl
theorem Dq:dx 58:=enters_of func58 kr rfl
theorem AO:dx 59:=enters_of func59 kr rfl
theorem N8:dx 60:=enters_of func60 kr rfl
theorem HI:dx 61:=enters_of func61 kr rfl
theorem ye:dx 62:=enters_of func62 kr rfl
theorem N9:dx 63:=enters_of func63 kr rfl
theorem Oa:dx 64:=enters_of func64 kr rfl
theorem HJ:dx 65:=enters_of func65 kr rfl
theorem HK:dx 66:=enters_of func66 kr rfl
theorem Oc:dx 67:=enters_of func67 kr rfl
theorem Od:dx 68:=enters_of func68 kr rfl
theorem Oe:dx 69:=enters_of func69 kr rfl
theorem rK:dx 70:=enters_of func70 kr rfl
theorem Of:dx 71:=enters_of func71 kr rfl
theorem Og:dx 72:=enters_of func72 kr rfl
theorem Dt:dx 74:=enters_of func74 kr rfl
theorem Du:dx 75:=enters_of func75 kr rfl
theorem Dv:dx 76:=enters_of func76 kr rfl
theorem Oh:dx 77:=enters_of func77 kr rfl
theorem AP:dx 78:=enters_of func78 kr rfl
theorem Oi:dx 79:=enters_of func79 kr rfl
theorem HL:dx 80:=enters_of func80 kr rfl
theorem yf:dx 81:=enters_of func81 kr rfl
theorem Oj:dx 82:=enters_of func82 kr rfl
theorem HM:dx 83:=enters_of func83 kr rfl
theorem AQ:dx 84:=enters_of func84 kr rfl
theorem HN:dx 85:=enters_of func85 kr rfl
theorem Ok:dx 86:=enters_of func86 kr rfl
theorem Dw:dx 87:=enters_of func87 kr rfl
theorem Ol:dx 88:=enters_of func88 kr rfl
theorem wl:dx 89:=enters_of func89 kr rfl
theorem Om:dx 90:=enters_of func90 kr rfl
theorem On:dx 91:=enters_of func91 kr rfl
theorem HO:dx 92:=enters_of func92 kr rfl
theorem Oo:dx 93:=enters_of func93 kr rfl
theorem Oq:dx 95:=enters_of func95 kr rfl
theorem HP:dx 96:=enters_of func96 kr rfl
theorem Ot:dx 97:=enters_of func97 kr rfl
theorem Ou:dx 98:=enters_of func98 kr rfl
theorem Ov:dx 99:=enters_of func99 kr rfl
theorem AR:dx 100:=enters_of func100 kr rfl
theorem HQ:dx 101:=enters_of func101 kr rfl
theorem yg:dx 102:=enters_of func102 kr rfl
theorem Ow:dx 103:=enters_of func103 kr rfl
theorem Ox:dx 105:=enters_of func105 kr rfl
theorem Oy:dx 106:=enters_of func106 kr rfl
theorem Oz:dx 107:=enters_of func107 kr rfl
theorem Dx:dx 112:=enters_of func112 kr rfl
theorem OA:dx 113:=enters_of func113 kr rfl
theorem OB:dx 114:=enters_of func114 kr rfl
theorem Dy:dx 116:=enters_of func116 kr rfl
theorem OC:dx 117:=enters_of func117 kr rfl
theorem OD:dx 118:=enters_of func118 kr rfl
theorem OE:dx 119:=enters_of func119 kr rfl
theorem OG:dx 120:=enters_of func120 kr rfl
theorem OH:dx 121:=enters_of func121 kr rfl
theorem yh:dx 122:=enters_of func122 kr rfl
theorem HR:dx 123:=enters_of func123 kr rfl
theorem OI:dx 124:=enters_of func124 kr rfl
theorem OJ:dx 128:=enters_of func128 kr rfl
theorem Dz:dx 129:=enters_of func129 kr rfl
theorem HS:dx 130:=enters_of func130 kr rfl
theorem OK:dx 131:=enters_of func131 kr rfl
theorem yi:dx 132:=enters_of func132 kr rfl
theorem DA:dx 133:=enters_of func133 kr rfl
theorem OL:dx 134:=enters_of func134 kr rfl
theorem OM:dx 135:=enters_of func135 kr rfl
theorem AU:dx 136:=enters_of func136 kr rfl
theorem HT:dx 138:=enters_of func138 kr rfl
theorem DB:dx 139:=enters_of func139 kr rfl
theorem ON:dx 140:=enters_of func140 kr rfl
theorem OO:dx 146:=enters_of func146 kr rfl
theorem OP:dx 148:=enters_of func148 kr rfl
theorem OQ:dx 149:=enters_of func149 kr rfl
theorem HU:dx 150:=enters_of func150 kr rfl
theorem wm:dx 151:=enters_of func151 kr rfl
theorem yj:dx 154:=enters_of func154 kr rfl
theorem OR:dx 155:=enters_of func155 kr rfl
theorem OS:dx 159:=enters_of func159 kr rfl
theorem OT:dx 160:=enters_of func160 kr rfl
theorem OU:dx 161:=enters_of func161 kr rfl
theorem OV:dx 165:=enters_of func165 kr rfl
theorem OW:dx 166:=enters_of func166 kr rfl
theorem OX:dx 174:=enters_of func174 kr rfl
theorem mixed:prog.follows .mixedOrders=true:=by as_aux_lemma=>kernel_rfl
end
@[ext] structure zaw where
 Err:Int
 At:Int
def wn (a b:zaw):Bool:=(a.Err==b.Err)&&(a.At==b.At)
theorem OY (a b:zaw):wn a b=true↔a=b:=by
 rcases a with⟨a0,a1⟩
 rcases b with⟨b0,b1⟩
 simp[wn,aQ,and_assoc]
instance:DecidableEq zaw:=fun a b=>decidable_of_iff _ (OY a b)
@[ext] structure bN where
 Rune:Int
 Text:ad
 At:Int
def o9 (x:bN):List Value:=[.int .i32 x.Rune,.string x.Text,.int .i64 x.At]
theorem jH (x:bN):(o9 x).length=3:=rfl
theorem tO (x:bN):∀u∈o9 x,u.oneCell'=true:=by
 intro u hu
 simp only[o9,bo,dm,or_false] at hu
 rcases hu with rfl|rfl|rfl<;>rfl
def HV (a b:bN):Bool:=(a.Rune==b.Rune)&&decide (a.Text=b.Text)&&(a.At==b.At)
theorem OZ (a b:bN):HV a b=true↔a=b:=by
 rcases a with⟨a0,a1,a2⟩
 rcases b with⟨b0,b1,b2⟩
 simp[HV,aQ,and_assoc]
instance:DecidableEq bN:=fun a b=>decidable_of_iff _ (OZ a b)
@[ext] structure DC where
 e0:Bool
 e1:Bool
def HW (a b:DC):Bool:=(a.e0==b.e0)&&(a.e1==b.e1)
theorem O0 (a b:DC):HW a b=true↔a=b:=by
 rcases a with⟨a0,a1⟩
 rcases b with⟨b0,b1⟩
 simp[HW,aQ,and_assoc]
instance:DecidableEq DC:=fun a b=>decidable_of_iff _ (O0 a b)
@[ext] structure c7 where
 sort:Int
 place:Int
 digits:ad
 marks:ad
 great:Int
def qW (x:c7):List Value:=[.int .i64 x.sort,.int .i64 x.place,.string x.digits,.string x.marks,.int .i64 x.great]
theorem pO (x:c7):(qW x).length=5:=rfl
theorem HX (x:c7):∀u∈qW x,u.oneCell'=true:=by
 intro u hu
 simp only[qW,bo,dm,or_false] at hu
 rcases hu with rfl|rfl|rfl|rfl|rfl<;>rfl
def HY (a b:c7):Bool:=(a.sort==b.sort)&&(a.place==b.place)&&decide (a.digits=b.digits)&&decide (a.marks=b.marks)&&(a.great==b.great)
theorem O1 (a b:c7):HY a b=true↔a=b:=by
 rcases a with⟨a0,a1,a2,n,l⟩
 rcases b with⟨b0,b1,b2,h,f⟩
 simp[HY,aQ,and_assoc]
instance:DecidableEq c7:=fun a b=>decidable_of_iff _ (O1 a b)
@[ext] structure cN where
 Sort_:Int
 Digits:ad
 Place:Int
 Marks:ad
 Great:Bool
def yk (x:cN):List Value:=[.int .i64 x.Sort_,.string x.Digits,.int .i64 x.Place,.string x.Marks,.bool x.Great]
theorem lP (x:cN):(yk x).length=5:=rfl
theorem wo (x:cN):∀u∈yk x,u.oneCell'=true:=by
 intro u hu
 simp only[yk,bo,dm,or_false] at hu
 rcases hu with rfl|rfl|rfl|rfl|rfl<;>rfl
def HZ (a b:cN):Bool:=(a.Sort_==b.Sort_)&&decide (a.Digits=b.Digits)&&(a.Place==b.Place)&&decide (a.Marks=b.Marks)&&(a.Great==b.Great)
theorem O2 (a b:cN):HZ a b=true↔a=b:=by
 rcases a with⟨a0,a1,a2,n,l⟩
 rcases b with⟨b0,b1,b2,h,f⟩
 simp[HZ,aQ,and_assoc]
instance:DecidableEq cN:=fun a b=>decidable_of_iff _ (O2 a b)
@[ext] structure gU where
 at_:Int
 text:ad
def wq (x:gU):List Value:=[.int .i64 x.at_,.string x.text]
theorem DD (x:gU):(wq x).length=2:=rfl
theorem H0 (x:gU):∀u∈wq x,u.oneCell'=true:=by
 intro u hu
 simp only[wq,bo,dm,or_false] at hu
 rcases hu with rfl|rfl<;>rfl
def H1 (a b:gU):Bool:=(a.at_==b.at_)&&decide (a.text=b.text)
theorem O3 (a b:gU):H1 a b=true↔a=b:=by
 rcases a with⟨a0,a1⟩
 rcases b with⟨b0,b1⟩
 simp[H1,aQ,and_assoc]
instance:DecidableEq gU:=fun a b=>decidable_of_iff _ (O3 a b)
@[ext] structure gw where
 at_:Int
 text:ad
def uG (x:gw):List Value:=[.int .i64 x.at_,.string x.text]
theorem AV (x:gw):(uG x).length=2:=rfl
theorem O4 (x:gw):∀u∈uG x,u.oneCell'=true:=by
 intro u hu
 simp only[uG,bo,dm,or_false] at hu
 rcases hu with rfl|rfl<;>rfl
def H2 (a b:gw):Bool:=(a.at_==b.at_)&&decide (a.text=b.text)
theorem O5 (a b:gw):H2 a b=true↔a=b:=by
 rcases a with⟨a0,a1⟩
 rcases b with⟨b0,b1⟩
 simp[H2,aQ,and_assoc]
instance:DecidableEq gw:=fun a b=>decidable_of_iff _ (O5 a b)
@[ext] structure jZ where
 e0:Int
 e1:Int
def DE (x:jZ):List Value:=[.int .i32 x.e0,.int .i32 x.e1]
theorem H3 (x:jZ):(DE x).length=2:=rfl
def H4 (a b:jZ):Bool:=(a.e0==b.e0)&&(a.e1==b.e1)
theorem O6 (a b:jZ):H4 a b=true↔a=b:=by
 rcases a with⟨a0,a1⟩
 rcases b with⟨b0,b1⟩
 simp[H4,aQ,and_assoc]
instance:DecidableEq jZ:=fun a b=>decidable_of_iff _ (O6 a b)
@[ext] structure zan where
 e0:Int
 e1:Int
def H5 (a b:zan):Bool:=(a.e0==b.e0)&&(a.e1==b.e1)
theorem O7 (a b:zan):H5 a b=true↔a=b:=by
 rcases a with⟨a0,a1⟩
 rcases b with⟨b0,b1⟩
 simp[H5,aQ,and_assoc]
instance:DecidableEq zan:=fun a b=>decidable_of_iff _ (O7 a b)
@[ext] structure cY where
 At:Int
 Width:Int
 Rune:Int
 Broken:Bool
def oN (x:cY):List Value:=[.int .i64 x.At,.int .i64 x.Width,.int .i32 x.Rune,.bool x.Broken]
theorem AW (x:cY):(oN x).length=4:=rfl
theorem H6 (x:cY):∀u∈oN x,u.oneCell'=true:=by
 intro u hu
 simp only[oN,bo,dm,or_false] at hu
 rcases hu with rfl|rfl|rfl|rfl<;>rfl
def H7 (a b:cY):Bool:=(a.At==b.At)&&(a.Width==b.Width)&&(a.Rune==b.Rune)&&(a.Broken==b.Broken)
theorem O8 (a b:cY):H7 a b=true↔a=b:=by
 rcases a with⟨a0,a1,a2,h⟩
 rcases b with⟨b0,b1,b2,f⟩
 simp[H7,aQ,and_assoc]
instance:DecidableEq cY:=fun a b=>decidable_of_iff _ (O8 a b)
@[ext] structure Wk where
 e0_0:Int
 e0_1:Int
 e1_0:Int
 e1_1:Int
 e2_0:Int
 e2_1:Int
 e3_0:Int
 e3_1:Int
 e4_0:Int
 e4_1:Int
 e5_0:Int
 e5_1:Int
 e6_0:Int
 e6_1:Int
 e7_0:Int
 e7_1:Int
@[ext] structure gW where
 e0:ad
 e1:ad
 e2:ad
def H8 (x:gW):List Value:=[.string x.e0,.string x.e1,.string x.e2]
theorem DF (x:gW):(H8 x).length=3:=rfl
def H9 (a b:gW):Bool:=decide (a.e0=b.e0)&&decide (a.e1=b.e1)&&decide (a.e2=b.e2)
theorem O9 (a b:gW):H9 a b=true↔a=b:=by
 rcases a with⟨a0,a1,a2⟩
 rcases b with⟨b0,b1,b2⟩
 simp[H9,aQ,and_assoc]
instance:DecidableEq gW:=fun a b=>decidable_of_iff _ (O9 a b)
@[ext] structure DG where
 At:Int
 Width:Int
 Rune:Int
 Broken:Bool
def Ia (a b:DG):Bool:=(a.At==b.At)&&(a.Width==b.Width)&&(a.Rune==b.Rune)&&(a.Broken==b.Broken)
theorem Pa (a b:DG):Ia a b=true↔a=b:=by
 rcases a with⟨a0,a1,a2,h⟩
 rcases b with⟨b0,b1,b2,f⟩
 simp[Ia,aQ,and_assoc]
instance:DecidableEq DG:=fun a b=>decidable_of_iff _ (Pa a b)
@[ext] structure Wm where
 e0_lo:Int
 e0_hi:Int
 e1_lo:Int
 e1_hi:Int
 e2_lo:Int
 e2_hi:Int
 e3_lo:Int
 e3_hi:Int
 e4_lo:Int
 e4_hi:Int
 e5_lo:Int
 e5_hi:Int
 e6_lo:Int
 e6_hi:Int
 e7_lo:Int
 e7_hi:Int
 e8_lo:Int
 e8_hi:Int
 e9_lo:Int
 e9_hi:Int
 e10_lo:Int
 e10_hi:Int
 e11_lo:Int
 e11_hi:Int
 e12_lo:Int
 e12_hi:Int
 e13_lo:Int
 e13_hi:Int
 e14_lo:Int
 e14_hi:Int
 e15_lo:Int
 e15_hi:Int
theorem Pb {x y:Operand} (a b:zaw) (w:World):(do eqGuard .eql 26 x y (.agg #[.int .i64 a.Err,.int .i64 a.At]) (.agg #[.int .i64 b.Err,.int .i64 b.At]);binOp .eql 26 (.agg #[.int .i64 a.Err,.int .i64 a.At]) (.agg #[.int .i64 b.Err,.int .i64 b.At]):Sem Value).run prog w=.ok (.bool (wn a b)) w :=
 MT kr (show ((a.Err==b.Err)&&((a.At==b.At)&&true))=wn a b by simp[wn,Bool.and_assoc]) (MS (dd:=9999) kr kr (GC (ft:=24) (off:=0) (a:=.int .i64 a.Err) (b:=.int .i64 b.Err) kr (fun _=>by kernel_rfl) (fun _=>by kernel_rfl) (GD underlying24) (GC (ft:=3) (off:=1) (a:=.int .i64 a.At) (b:=.int .i64 b.At) kr (fun _=>by kernel_rfl) (fun _=>by kernel_rfl) (GD underlying3) (MR (n:=2) kr)))) w
structure dk where
 Units:List ad
 Fors:List (ad×List ad)
 Skips:List ad
 Lines:List ad
def qv (z:dk×Hd×Hd×Hd×Hd):List Value:=[z.2.1.v,.map (some (bi z.2.2.1)),z.2.2.2.1.v,z.2.2.2.2.v]
def qw (z:dk×Hd×Hd×Hd×Hd):List Asn:=[vec hO 9 1 z.2.1.v z.1.Units,dQ (bi z.2.2.1) z.1.Fors,vec hO 9 1 z.2.2.2.1.v z.1.Skips,vec hO 9 1 z.2.2.2.2.v z.1.Lines]
structure cw where
 units:List ad
 place:List (ad×Int)
 fors:List (ad×List ad)
 skips:List (ad×Bool)
 lines:List ad
def nH (z:cw×Hd×Hd×Hd×Hd×Hd):List Value:=[z.2.1.v,.map (some (bi z.2.2.1)),.map (some (bi z.2.2.2.1)),.map (some (bi z.2.2.2.2.1)),z.2.2.2.2.2.v]
def nI (z:cw×Hd×Hd×Hd×Hd×Hd):List Asn:=[vec hO 9 1 z.2.1.v z.1.units,cz (fun n:ad=>af n) (fun n:Int=>aB .i64 n) (bi z.2.2.1) z.1.place,dQ (bi z.2.2.2.1) z.1.fors,cz (fun n:ad=>af n) (fun n:Bool=>Value.bool n) (bi z.2.2.2.2.1) z.1.skips,vec hO 9 1 z.2.2.2.2.2.v z.1.lines]
structure c6 where
 at_:Int
 broken:Int
 base:Int
 low:List Int
 high:List Int
def l8 (z:c6×Hd×Hd):List Value:=[.int .i64 z.1.at_,.int .u8 z.1.broken,.int .i32 z.1.base,z.2.1.v,z.2.2.v]
def iH (z:c6×Hd×Hd):List Asn:=[vec (kV (.i32)) 21 1 z.2.1.v z.1.low,vec (kV (.i32)) 21 1 z.2.2.v z.1.high]
theorem pu (z:c6×Hd×Hd):(l8 z).length=5:=rfl
theorem Ib (z:c6×Hd×Hd):∀u∈l8 z,u.oneCell'=true:=by
 intro u hu
 simp only[l8,bo,dm,or_false] at hu
 rcases hu with rfl|rfl|rfl|rfl|rfl<;>rfl
theorem Ic:∀ (P:List Pc) (i:Nat) (l:List UInt8) (x:Pc) (B:List Pc),nn i l=P++x::B →
  ∃n,x.i=i+n∧n+x.w≤l.length∧xQ (l.drop n) x.r x.w∧nn (i+n) (l.drop n)=x::B∧B=nn (x.i+x.w) (l.drop (n+x.w))
 |[],i,l,x,B,h=>by
  by_cases a:l=[]
  ·subst a;simp[sE] at h
  ·have f:=xR l a
   have h':=h
   rw[sF i l a] at h
   simp only[bg,fO] at h
   obtain⟨rfl,hB⟩:=h
   exact⟨0,by simp,by simpa using f.le,by simpa using f,by simpa using h',by simpa using hB.symm⟩
 |p::P,i,l,x,B,h=>by
  by_cases a:l=[]
  ·subst a;simp[sE] at h
  ·have q:=xP l a
   rw[sF i l a] at h
   simp only[aX,fO] at h
   obtain⟨n,h1,h2,h3,u,h5⟩:=Ic P _ _ x B h.2
   refine⟨(decodeL l).2+n,by omega,by simp at h2;omega,by rw[←ff];exact h3,by rw[←ff,←fN];exact u,?_⟩
   rw[h5,ff,fN]
theorem Ie (l:List UInt8) (P:List Pc) (x:Pc) (B:List Pc) (h:eQ l=P++x::B) :
  x.i+x.w≤l.length∧xQ (l.drop x.i) x.r x.w∧nn x.i (l.drop x.i)=x::B∧B=nn (x.i+x.w) (l.drop (x.i+x.w)):=by
 obtain⟨n,h1,h2,h3,a,h5⟩:=Ic P 0 l x B h
 have:x.i=n:=by omega
 subst this
 exact⟨h2,h3,by simpa using a,h5⟩
theorem uH (l:List UInt8) (x:Pc) (h:x∈eQ l):1≤x.w∧x.i+x.w≤l.length∧xQ (l.drop x.i) x.r x.w:=by
 obtain⟨P,B,a⟩:=List.append_of_mem h
 obtain⟨h1,h2,_⟩:=Ie l P x B a
 exact⟨h2.pos,h1,h2⟩
structure dq where
 r:Nat
 bs:List UInt8
 deriving DecidableEq
def dq.broken (t:dq):Bool:=t.r==65533&&t.bs.length==1
def dq.valid (t:dq):Prop:=(t.r<55296∨(57343<t.r∧t.r≤1114111))∧t.bs=encodeRune t.r
def cP (ts:List dq):List UInt8:=ts.flatMap dq.bs
def rL:Nat→List UInt8→List dq
 |0,_=>[]
 |f+1,l=>if l=[] then [] else ⟨(decodeL l).1,l.take (decodeL l).2⟩::rL f (l.drop (decodeL l).2)
def eU (l:List UInt8):List dq:=rL l.length l
theorem mq (t:dq) (ts:List dq):cP (t::ts)=t.bs++cP ts:=by simp[cP]
theorem mr (a b:List dq):cP (a++b)=cP a++cP b:=by simp[cP]
theorem Pd:∀ (f g:Nat) (l:List UInt8),l.length≤f→l.length≤g→rL f l=rL g l:=by
 intro f
 induction f with
 |zero=>
  intro g l h1 h2
  have:l=[]:=ck (by omega)
  subst this
  cases g<;>simp[rL]
 |succ f n=>
  intro g l h1 h2
  cases g with
  |zero=>
   have:l=[]:=ck (by omega)
   subst this
   simp[rL]
  |succ g=>
   by_cases a:l=[]
   ·simp[rL,a]
   ·simp only[rL,a,if_false]
    have:=sD l
    have h:0<l.length:=cV.2 a
    rw[n g _ (by simp;omega) (by simp;omega)]
theorem uI:eU []=[]:=by simp[eU,rL]
theorem uJ (l:List UInt8) (h:l≠[]):eU l=⟨(decodeL l).1,l.take (decodeL l).2⟩::eU (l.drop (decodeL l).2):=by
 have a:0<l.length:=cV.2 h
 unfold eU
 obtain⟨n,f⟩:∃n,l.length=n+1:=⟨l.length-1,by omega⟩
 rw[f]
 simp only[rL,h,if_false]
 have:=sD l
 rw[Pd n (l.drop (decodeL l).2).length _ (by simp;omega) (bq _)]
theorem AX {P:List UInt8→Prop} (h0:P []) (h1:∀l,l≠[]→P (l.drop (decodeL l).2)→P l):∀l,P l:=by
 have key:∀ (n:Nat) (l:List UInt8),l.length≤n→P l:=by
  intro n
  induction n with
  |zero=>intro l h;rw[ck (by omega:l.length=0)];exact h0
  |succ n f=>
   intro l h
   by_cases a:l=[]
   ·rw[a];exact h0
   ·have:=sD l
    exact h1 l a (f _ (by simp;omega))
 exact fun l=>key l.length l (bq _)
theorem tP (l:List UInt8):cP (eU l)=l:=by
 induction l using AX with
 |h0=>rw[uI];rfl
 |h1 l f a=>rw[uJ l f,mq,a];exact bZ _ _
theorem Pe (l:List UInt8) (h:l≠[]):(⟨(decodeL l).1,l.take (decodeL l).2⟩:dq).valid∨(⟨(decodeL l).1,l.take (decodeL l).2⟩:dq).broken=true:=by
 by_cases hb:(decodeL l).1=65533∧(decodeL l).2=1
 ·right
  have a:0<l.length:=cV.2 h
  simp[dq.broken,hb.1,hb.2];omega
 ·left
  exact⟨GL l,(encode_decode l h hb).symm⟩
theorem pP (l:List UInt8):∀t∈eU l,t.valid∨t.broken=true:=by
 induction l using AX with
 |h0=>rw[uI];simp
 |h1 l a f=>
  rw[uJ l a]
  intro t ht
  rcases bo.1 ht with rfl|ht
  ·exact Pe l a
  ·exact f t ht
theorem wt {t:dq} (h:t.valid):t.broken=false:=by
 unfold dq.broken
 by_cases hr:t.r=65533
 ·have:=h.2;rw[hr,CU] at this;simp[this]
 ·simp[hr]
theorem AY {t:dq} (h:t.valid∨t.broken=true):t.bs≠[]:=by
 rcases h with h|h
 ·rw[h.2];intro e;have:=(xO (t.r:Int)).1;rw[e] at this;simp at this
 ·intro e;unfold dq.broken at h;rw[e] at h;simp at h
def DH (b:UInt8):Bool:=b.toNat / 64==2
def sJ:List UInt8→Prop
 |[]=>True
 |b::_=>DH b=false
theorem Pf {n b0 b1 b2 f c1 c2 a m:Nat} (h1:n≤1∨b1 / 64≠2) (h2:m≤1∨c1 / 64≠2):decodeN n b0 b1 b2 f=decodeN m b0 c1 c2 a:=by
 unfold decodeN
 have e1:¬(1<n∧b1 / 64=2):=by omega
 have e2:¬(1<m∧c1 / 64=2):=by omega
 simp only[e1,e2,and_false,false_and,if_false]
theorem Pg {n b0 b1 b2 h c2 f m:Nat} (a:1<n) (hm:1<m) (h1:n≤2∨b2 / 64≠2) (h2:m≤2∨c2 / 64≠2):decodeN n b0 b1 b2 h=decodeN m b0 b1 c2 f:=by
 unfold decodeN
 have e1:¬(2<n∧b2 / 64=2):=by omega
 have e2:¬(2<m∧c2 / 64=2):=by omega
 simp only[e1,e2,and_false,false_and,if_false,a,hm,true_and]
theorem Ph {n b0 b1 b2 l h m:Nat} (q:2<n) (hm:2<m) (h1:n≤3∨l / 64≠2) (h2:m≤3∨h / 64≠2):decodeN n b0 b1 b2 l=decodeN m b0 b1 b2 h:=by
 unfold decodeN
 have e1:¬(3<n∧l / 64=2):=by omega
 have e2:¬(3<m∧h / 64=2):=by omega
 have a:1<n:=by omega
 have f:1<m:=by omega
 simp only[e1,e2,and_false,if_false,q,hm,a,f,true_and]
theorem Pi {n b0 b1 b2 q m:Nat} (r:3<n) (hm:3<m):decodeN n b0 b1 b2 q=decodeN m b0 b1 b2 q:=by
 unfold decodeN
 have h:1<n:=by omega
 have l:1<m:=by omega
 have a:2<n:=by omega
 have f:2<m:=by omega
 simp only[r,hm,h,l,a,f,true_and]
theorem DI {x:List UInt8} (h:sJ x) (n:Nat):n+x.length≤n∨(x.getD 0 0).toNat / 64≠2:=by
 cases x with
 |nil=>simp
 |cons b x=>right;simpa [sJ,DH] using h
theorem Pj (l x:List UInt8) (f:l≠[]) (hx:sJ x):decodeL (l++x)=decodeL l:=by
 rw[decodeL_N,decodeL_N]
 rcases l with _|⟨a,_|⟨b,_|⟨c,_|⟨d,l⟩⟩⟩⟩
 ·exact absurd rfl f
 ·refine Pf ?_ (.inl (by simp))
  rcases DI hx 1 with h|h
  ·left;simp only[aa,ab,aL];omega
  ·right;simpa using h
 ·refine Pg (by simp) (by simp) ?_ (.inl (by simp))
  rcases DI hx 2 with h|h
  ·left;simp only[aa,ab,aL];omega
  ·right;simpa using h
 ·refine Ph (by simp) (by simp) ?_ (.inl (by simp))
  rcases DI hx 3 with h|h
  ·left;simp only[aa,ab,aL];omega
  ·right;simpa using h
 ·exact Pi (by simp) (by simp)
theorem yl (l x:List UInt8) (hx:sJ x):eU (l++x)=eU l++eU x:=by
 induction l using AX with
 |h0=>rw[uI];rfl
 |h1 l f n=>
  have a:=xP l f
  have h:l++x≠[]:=by simp[f]
  rw[uJ _ h,uJ l f,Pj l x f hx,List.drop_append_of_le_length a,n,List.take_append_of_le_length a]
  rfl
theorem DJ (r:Nat) (hv:r<55296∨(57343<r∧r≤1114111)) :
  (r≤127∧encodeRuneZ r=[(r:Int)])∨(128≤r∧r≤2047∧encodeRuneZ r=[192+(r:Int) / 64,128+(r:Int) % 64]) ∨
  (2048≤r∧r≤65535∧encodeRuneZ r=[224+(r:Int) / 4096,128+(r:Int) / 64 % 64,128+(r:Int) % 64]) ∨
  (65536≤r∧r≤1114111∧encodeRuneZ r=[240+(r:Int) / 262144,128+(r:Int) / 4096 % 64,128+(r:Int) / 64 % 64,128+(r:Int) % 64]):=by
 by_cases h1:r≤127
 ·exact .inl ⟨h1,encodeRuneZ_one (by omega) (by omega)⟩
 ·by_cases h2:r≤2047
  ·exact .inr (.inl ⟨by omega,h2,encodeRuneZ_two (by omega) (by omega)⟩)
  ·by_cases h3:r≤65535
   ·exact .inr (.inr (.inl ⟨by omega,h3,encodeRuneZ_three (by omega)⟩))
   ·exact .inr (.inr (.inr ⟨by omega,by omega,encodeRuneZ_four (by omega) (by omega)⟩))
theorem qX (z:Int) (_h0:0≤z) (h1:z<256):(z.toNat.toUInt8).toNat=z.toNat:=by
 simp;omega
theorem AZ (r:Nat) (hv:r<55296∨(57343<r∧r≤1114111)) (x:List UInt8):decodeL (encodeRune r++x)=(r,(encodeRune r).length):=by
 rw[decodeL_N]
 rcases DJ r hv with⟨h,e⟩|⟨h,h',e⟩|⟨h,h',e⟩|⟨h,h',e⟩
 ·have a:encodeRune r=[((r:Int).toNat.toUInt8)]:=by simp only[encodeRune,e,av,ed]
  rw[a]
  simp only[aX,bg,iJ,ab]
  rw[qX _ (by omega) (by omega)]
  unfold decodeN
  simp only[Int.toNat_natCast]
  rw[am (by omega)]
  simp
 ·have a:encodeRune r=[((192+(r:Int) / 64).toNat.toUInt8),((128+(r:Int) % 64).toNat.toUInt8)]:=by simp only[encodeRune,e,av,ed]
  rw[a]
  simp only[aX,bg,iJ,k6,ab]
  rw[qX _ (by omega) (by omega),qX _ (by omega) (by omega)]
  have a1:(192+(r:Int) / 64).toNat=192+r / 64:=by omega
  have a2:(128+(r:Int) % 64).toNat=128+r % 64:=by omega
  rw[a1,a2]
  unfold decodeN
  have c1:¬192+r / 64<128:=by omega
  have c2:(192+r / 64) / 32=6:=by omega
  have w:(128+r % 64) / 64=2:=by omega
  have q:(192+r / 64) % 32*64+(128+r % 64) % 64=r:=by omega
  have n:128≤r:=by omega
  rw[aj c1,am ⟨c2,by omega,w⟩,q,am n]
  rfl
 ·have a:encodeRune r=[((224+(r:Int) / 4096).toNat.toUInt8),((128+(r:Int) / 64 % 64).toNat.toUInt8),((128+(r:Int) % 64).toNat.toUInt8)]:=by simp only[encodeRune,e,av,ed]
  rw[a]
  simp only[aX,bg,iJ,k6,ab]
  rw[qX _ (by omega) (by omega),qX _ (by omega) (by omega),qX _ (by omega) (by omega)]
  have a1:(224+(r:Int) / 4096).toNat=224+r / 4096:=by omega
  have a2:(128+(r:Int) / 64 % 64).toNat=128+r / 64 % 64:=by omega
  have D:(128+(r:Int) % 64).toNat=128+r % 64:=by omega
  rw[a1,a2,D]
  unfold decodeN
  have c1:¬224+r / 4096<128:=by omega
  have c2:(224+r / 4096) / 32≠6:=by omega
  have l:(224+r / 4096) / 16=14:=by omega
  have w:(128+r / 64 % 64) / 64=2:=by omega
  have f:(128+r % 64) / 64=2:=by omega
  have q:(224+r / 4096) % 16*4096+(128+r / 64 % 64) % 64*64+(128+r % 64) % 64=r:=by omega
  have n:2048≤r:=by omega
  rw[aj c1,aj (fun h=>c2 h.1),am ⟨l,⟨by omega,w⟩,⟨by omega,f⟩⟩,q,am ⟨n,by omega⟩]
  rfl
 ·have a:encodeRune r=[((240+(r:Int) / 262144).toNat.toUInt8),((128+(r:Int) / 4096 % 64).toNat.toUInt8),((128+(r:Int) / 64 % 64).toNat.toUInt8),((128+(r:Int) % 64).toNat.toUInt8)]:=by simp only[encodeRune,e,av,ed]
  rw[a]
  simp only[aX,bg,iJ,k6,ab]
  rw[qX _ (by omega) (by omega),qX _ (by omega) (by omega),qX _ (by omega) (by omega),qX _ (by omega) (by omega)]
  have a1:(240+(r:Int) / 262144).toNat=240+r / 262144:=by omega
  have a2:(128+(r:Int) / 4096 % 64).toNat=128+r / 4096 % 64:=by omega
  have E:(128+(r:Int) / 64 % 64).toNat=128+r / 64 % 64:=by omega
  have D:(128+(r:Int) % 64).toNat=128+r % 64:=by omega
  rw[a1,a2,E,D]
  unfold decodeN
  have c1:¬240+r / 262144<128:=by omega
  have c2:(240+r / 262144) / 32≠6:=by omega
  have l:(240+r / 262144) / 16≠14:=by omega
  have C:(240+r / 262144) / 8=30:=by omega
  have w:(128+r / 4096 % 64) / 64=2:=by omega
  have f:(128+r / 64 % 64) / 64=2:=by omega
  have u:(128+r % 64) / 64=2:=by omega
  have q:(240+r / 262144) % 8*262144+(128+r / 4096 % 64) % 64*4096+(128+r / 64 % 64) % 64*64+(128+r % 64) % 64=r:=by omega
  have n:65536≤r:=by omega
  rw[aj c1,aj (fun h=>c2 h.1),aj (fun h=>l h.1),am ⟨C,⟨by omega,w⟩,⟨by omega,f⟩,⟨by omega,u⟩⟩,q,am ⟨n,by omega⟩]
  rfl
theorem Pk (r:Nat) (hv:r<55296∨(57343<r∧r≤1114111)) (x:List UInt8):sJ (encodeRune r++x):=by
 rcases DJ r hv with⟨h,e⟩|⟨h,h',e⟩|⟨h,h',e⟩|⟨h,h',e⟩ <;>
 ·simp only[encodeRune,e,av,ed,aX,sJ,DH,aC,ne_eq]
  rw[qX _ (by omega) (by omega)]
  omega
theorem Pl {t:dq} (h:t.valid) (x:List UInt8):eU (t.bs++x)=t::eU x:=by
 have a:t.bs++x≠[]:=by simp[AY (.inl h)]
 rw[uJ _ a]
 rw[h.2,AZ t.r h.1 x,←h.2]
 simp
theorem DK {vs:List dq} (h:∀t∈vs,t.valid) (x:List UInt8):eU (cP vs++x)=vs++eU x:=by
 induction vs with
 |nil=>rfl
 |cons t vs a=>
  rw[mq,aA,Pl (h t (ar ..)),a (fun q f=>h q (ak _ f))]
  rfl
theorem Ig {vs:List dq} (a:vs≠[]) (h:∀t∈vs,t.valid) (x:List UInt8):sJ (cP vs++x):=by
 cases vs with
 |nil=>exact absurd rfl a
 |cons t vs=>
  have:=h t (ar ..)
  rw[mq,aA,this.2]
  exact Pk t.r this.1 _
def pv (ts:List dq):Prop:=eU (cP ts)=ts
theorem Ih (l:List UInt8):pv (eU l):=by unfold pv;rw[tP]
theorem DL {t:dq} {ts:List dq} (h:pv (t::ts)):pv ts:=by
 unfold pv at *
 by_cases f:cP (t::ts)=[]
 ·rw[f,uI] at h;cases h
 ·rw[uJ _ f] at h
  have h1:(⟨(decodeL (cP (t::ts))).1,(cP (t::ts)).take (decodeL (cP (t::ts))).2⟩:dq)=t:=by injection h
  have h2:eU ((cP (t::ts)).drop (decodeL (cP (t::ts))).2)=ts:=by injection h
  have h3:(cP (t::ts)).take (decodeL (cP (t::ts))).2=t.bs:=aM dq.bs h1
  have a:=bZ (decodeL (cP (t::ts))).2 (cP (t::ts))
  rw[h3] at a
  have h5:(cP (t::ts)).drop (decodeL (cP (t::ts))).2=cP ts:=by
   rw[mq] at a ⊢
   exact List.append_cancel_left a
  rw[←h5];exact h2
theorem A0 {a ts:List dq} (h:pv (a++ts)):pv ts:=by
 induction a with
 |nil=>exact h
 |cons t a f=>exact f (DL h)
inductive nZ:List dq→List dq→Prop
 |nil:nZ [] []
 |brk {b:dq} {ts us:List dq}:b.broken=true→nZ ts us→nZ (b::ts) (b::us)
 |val {gs vs ts us:List dq}:gs≠[]→vs≠[]→(∀t∈gs,t.valid)→(∀t∈vs,t.valid)→nZ ts us→nZ (gs++ts) (vs++us)
theorem nZ.one {t:dq} {vs ts us:List dq} (ht:t.valid) (a:vs≠[]) (hv:∀t∈vs,t.valid) (h:nZ ts us):nZ (t::ts) (vs++us) :=
 nZ.val (gs:=[t]) (by simp) a (by simpa using ht) hv h
theorem nZ.head {ts us:List dq} (h:nZ ts us):∃B f a,(∀b∈B,b.broken=true)∧ts=B++f∧us=B++a∧sJ (cP f)∧sJ (cP a):=by
 induction h with
 |nil=>exact⟨[],[],[],by simp,rfl,rfl,trivial,trivial⟩
 |brk hb _ n=>
  obtain⟨B,f,a,h1,rfl,rfl,l,h5⟩:=n
  exact⟨_::B,f,a,by simpa [hb] using h1,rfl,rfl,l,h5⟩
 |@val gs vs ts us h1 h2 h3 l _ n=>
  exact⟨[],gs++ts,vs++us,by simp,rfl,rfl,by rw[mr];exact Ig h1 h3 _,by rw[mr];exact Ig h2 l _⟩
theorem nZ.good {ts us:List dq} (h:nZ ts us) (hg:pv ts):pv us:=by
 induction h with
 |nil=>exact hg
 |@brk b ts us hb hs ih=>
  have n:=ih (DL hg)
  obtain⟨B,f,l,h1,rfl,rfl,q,h5⟩:=hs.head
  unfold pv at *
  have r:b.bs≠[]:=AY (.inr hb)
  have e1:cP (b::(B++f))=cP (b::B)++cP f:=by rw[←aX,mr]
  have e2:cP (b::(B++l))=cP (b::B)++cP l:=by rw[←aX,mr]
  rw[e1,yl _ _ q] at hg
  rw[e2,yl _ _ h5]
  have g1:eU (cP f)=f:=by
   have:=A0 (a:=B) (ts:=f) (by
    have u:pv (b::(B++f)):=by unfold pv;rw[e1,yl _ _ q];exact hg
    exact DL u)
   exact this
  rw[mr,yl _ _ h5] at n
  have g2:eU (cP l)=l:=A0 (a:=B) (by unfold pv;rw[mr,yl _ _ h5];exact n)
  rw[g1,←aX] at hg
  rw[g2,←aX]
  rw[List.append_cancel_right hg]
 |@val gs vs ts us h1 h2 h3 q _ ih=>
  unfold pv
  rw[mr,DK q,show eU (cP us)=us from ih (A0 hg)]
def place:Nat→List dq→List Pc
 |_,[]=>[]
 |i,t::ts=>⟨i,t.bs.length,t.r⟩::place (i+t.bs.length) ts
theorem Ii (l:List UInt8):∀i,nn i l=place i (eU l):=by
 induction l using AX with
 |h0=>intro i;rw[uI,sE];rfl
 |h1 l a f=>
  intro i
  have h:=xP l a
  have e:(l.take (decodeL l).2).length=(decodeL l).2:=by simp;omega
  rw[sF i l a,uJ l a,place,f,e]
section
open Go.Shelf
attribute [local go_sem] k7 F0 F1 F2
theorem rM {a b:Bool} (h:a=b):kn (.bool a)=.returned (.bool b):=by rw[h]
theorem qY {k:IntKind} {a b:Int} (h:a=b):kn (.int k a)=.returned (.int k b):=by rw[h]
end
def ym (r:Int):Bool:=decide (r % 2=0)
def pQ (r:Int):Prop :=
 (65≤r∧r≤90)∨(0xC0≤r∧r≤0xDE∧r≠0xD7)∨(((0x100≤r∧r≤0x137)∨(0x14A≤r∧r≤0x177))∧r % 2=0)∨(0x139≤r∧r≤0x148∧r % 2=1)∨r=0x178 ∨
 (0x179≤r∧r≤0x17D∧r % 2=1)∨(0x386≤r∧r≤0x38F∧r≠0x387∧r≠0x38B∧r≠0x38D)∨(0x391≤r∧r≤0x3AB∧r≠0x3A2)∨(0x400≤r∧r≤0x42F)
instance (r:Int):Decidable (pQ r):=by unfold pQ;infer_instance
def great (r:Int):Bool:=decide (pQ r)
def qZ (r:Int):Prop :=
 (97≤r∧r≤122)∨(0xDF≤r∧r≤0xFF∧r≠0xF7)∨(((0x100≤r∧r≤0x137)∨(0x14A≤r∧r≤0x177))∧r % 2=1)∨r=0x138∨r=0x149∨r=0x17F∨r=0x390 ∨
 (0x139≤r∧r≤0x148∧r % 2=0)∨(0x17A≤r∧r≤0x17E∧r % 2=0)∨(0x3AC≤r∧r≤0x3CE)∨(0x430≤r∧r≤0x45F)
instance (r:Int):Decidable (qZ r):=by unfold qZ;infer_instance
def pa (r:Int):Bool:=decide (qZ r)
def cZ (r:Int):Bool:=great r||pa r
def cA (r:Int):Int :=
 if !great r then r
 else if r=0x130 then 0x69 else if r=0x178 then 0xFF else if r=0x386 then 0x3AC else if r=0x38C then 0x3CC
 else if 0x388≤r∧r≤0x38A then r+0x25 else if r=0x38E∨r=0x38F then r+0x3F
 else if 0x400≤r∧r≤0x40F then r+0x50 else if r<0x100∨0x17F<r then r+0x20 else r+1
def tQ (r:Int):Int :=
 if r=0xFF then 0xFF-0x178
 else if r<0x100∨(0x3B1≤r∧r≤0x3CB)∨(0x430≤r∧r≤0x44F) then 0x20
 else if r≤0x17F then 1
 else if r=0x3AC then 0x3AC-0x386
 else if 0x3AD≤r∧r≤0x3AF then 0x25
 else if r=0x3CC then 0x40
 else if r=0x3CD∨r=0x3CE then 0x3F
 else 0x50
def yn (r:Int):Int :=
 if !pa r then r
 else if r=0x131 then 0x49 else if r=0x17F then 0x53 else if r=0x3C2 then 0x3A3
 else if great (r-tQ r)&&(cA (r-tQ r)==r) then r-tQ r else r
def rN (r:Int):Int :=
 if r<0∨(0xD800≤r∧r≤0xDFFF)∨0x10FFFF<r then 0
 else if cZ r then 1
 else if 0x300≤r∧r≤0x36F then 2
 else if 48≤r∧r≤57 then 3
 else if r=10∨r=13 then 4
 else if r=9∨r=32∨r=0xA0∨r=0x202F∨r=0x205F∨r=0x3000 then 5
 else if r=45∨(0x2010≤r∧r≤0x2015) then 6
 else if r=34∨r=39∨r=0xAB∨r=0xBB∨r=0x2039∨r=0x203A then 7
 else if r=33∨r=44∨r=46∨r=58∨r=59∨r=63∨r=0xA1∨r=0xB7∨r=0xBF∨r=0x2026 then 8
 else if 0x2000≤r∧r≤0x200A then 5
 else if 0x2018≤r∧r≤0x201F then 7
 else if r<0x20∨(0x7F≤r∧r≤0x9F)∨(0x200B≤r∧r≤0x200F)∨r=0xFEFF then 9
 else 10
def kind (r:Int):Int:=rN r
theorem uK (r:Int):great r=true↔pQ r:=by simp[great]
theorem wu (r:Int):pa r=true↔qZ r:=by simp[pa]
section
open Go.Shelf
theorem Pm (r:Int) (h0 : -2147483648≤r) (h1:r≤2147483647):(bits BinOp.and IntKind.i32 r 1==0)=ym r:=by
 have hk:bits .and .i32 r 1=r % 2:=by
  have h1:(fR 32 1).toNat=2 ^ 1-1:=by decide
  have key:(fR 32 r &&& fR 32 1).toNat=(r % ((2 ^ 32:Nat):Int)).toNat % 2 ^ 1:=by
   rw[BitVec.toNat_and,BitVec.toNat_ofInt,h1,Nat.and_two_pow_sub_one_eq_mod]
  show IntKind.i32.wrap ((fR 32 r &&& fR 32 1).toNat:Nat)=r % 2
  rw[key,IntKind.wrap_i32]
  omega
 rw[hk,ym,dJ]
 simp
theorem Ij (r:Int) (w:World) (h0 : -2147483648≤r) (h1:r≤2147483647) :
  Calls prog 115 #[.int .i32 r] w fun e w'=>e=.returned (.bool (ym r))∧w=w':=by
 go_enter func115,ntmps115
 go_wp2
 go_ret
 exact⟨rM (Pm r h0 h1),rfl⟩
set_option maxHeartbeats 1000000 in
theorem yo (r:Int) (w:World) (h0 : -2147483648≤r) (h1:r≤2147483647) :
  Calls prog 91 #[.int .i32 r] w fun e w'=>e=.returned (.bool (great r))∧w=w':=by
 go_enter func91,ntmps91
 go_wp2_with (go_at_call 115;refine (Ij _ _ (by omega) (by omega)).mono ?_;rintro e w' ⟨rfl,rfl⟩)
 all_goals
  go_ret
  refine⟨rM ?_,rfl⟩
  (go_light;rw[dJ];(try simp only[uK,pQ,ym,decide_eq_true_eq,cQ,ne_eq,cK,decide_eq_false_iff_not,aQ,dC,bL,cH,bne_eq_false_iff_eq,beq_iff_eq,aC,bj,false_iff,true_iff,iff_true,iff_false,cI,cW,cT] at *);omega)
set_option maxHeartbeats 1000000 in
theorem A1 (r:Int) (w:World) (h0 : -2147483648≤r) (h1:r≤2147483647) :
  Calls prog 63 #[.int .i32 r] w fun e w'=>e=.returned (.bool (pa r))∧w=w':=by
 go_enter func63,ntmps63
 go_wp2_with (go_at_call 115;refine (Ij _ _ (by omega) (by omega)).mono ?_;rintro e w' ⟨rfl,rfl⟩)
 all_goals
  go_ret
  refine⟨rM ?_,rfl⟩
  (go_light;rw[dJ];(try simp only[wu,qZ,ym,decide_eq_true_eq,cQ,ne_eq,cK,decide_eq_false_iff_not,aQ,dC,bL,cH,bne_eq_false_iff_eq,beq_iff_eq,aC,bj,false_iff,true_iff,iff_true,iff_false,cI,cW,cT] at *);omega)
theorem Pn (r:Int) (w:World) (h0 : -2147483648≤r) (h1:r≤2147483647) :
  Calls prog 157 #[.int .i32 r] w fun e w'=>e=.returned (.bool (cZ r))∧w=w':=by
 go_enter func157,ntmps157
 go_wp2_with (first | (go_at_call 91;refine (yo _ _ (by omega) (by omega)).mono ?_;rintro e w' ⟨rfl,rfl⟩) | (go_at_call 63;refine (A1 _ _ (by omega) (by omega)).mono ?_;rintro e w' ⟨rfl,rfl⟩))
 all_goals
  go_ret
  refine⟨rM ?_,rfl⟩
  go_light
  simp_all [cZ]
set_option maxHeartbeats 1000000 in
theorem yp (r:Int) (w:World) (h0 : -2147483648≤r) (h1:r≤2147483647) :
  Calls prog 136 #[.int .i32 r] w fun e w'=>e=.returned (.int .i32 (cA r))∧w=w':=by
 by_cases hg:great r=true
 ·have hb:r≤2000∧0≤r:=by rw[uK] at hg;unfold pQ at hg;omega
  have f:=hb.1;have a:=hb.2;clear hb
  go_enter func136,ntmps136
  go_wp2_with (go_at_call 91;refine (yo _ _ (by omega) (by omega)).mono ?_;rintro e w' ⟨rfl,rfl⟩)
  all_goals
   go_ret
   refine⟨qY ?_,rfl⟩
   go_light
   grind [cA]
 ·go_enter func136,ntmps136
  go_wp2_with (go_at_call 91;refine (yo _ _ (by omega) (by omega)).mono ?_;rintro e w' ⟨rfl,rfl⟩)
  all_goals
   go_ret
   refine⟨qY ?_,rfl⟩
   go_light
   simp_all [cA]
set_option maxHeartbeats 1000000 in
theorem Po (r:Int) (w:World) (h0 : -2147483648≤r) (h1:r≤2147483647) :
  Calls prog 147 #[.int .i32 r] w fun e w'=>e=.returned (.int .i32 (tQ r))∧w=w':=by
 go_enter func147,ntmps147
 go_wp2
 all_goals
  go_ret
  refine⟨qY ?_,rfl⟩
  go_light
  grind [tQ]
theorem Ik (r:Int) : -300≤tQ r∧tQ r≤300:=by unfold tQ;(repeat' split)<;>omega
set_option maxHeartbeats 1000000 in
theorem Pp (r:Int) (w:World) (h0 : -2147483648≤r) (h1:r≤2147483647) :
  Calls prog 107 #[.int .i32 r] w fun e w'=>e=.returned (.int .i32 (yn r))∧w=w':=by
 have f:=(Ik r).1
 have a:=(Ik r).2
 by_cases hg:pa r=true
 ·have hb:r≤2000∧0≤r:=by rw[wu] at hg;unfold qZ at hg;omega
  have l:=hb.1;have h:=hb.2;clear hb
  go_enter func107,ntmps107
  go_wp2_with (first | (go_at_call 63;refine (A1 _ _ (by omega) (by omega)).mono ?_;rintro e w' ⟨rfl,rfl⟩) | (go_at_call 147;refine (Po _ _ (by omega) (by omega)).mono ?_;rintro e w' ⟨rfl,rfl⟩) | (go_at_call 91;refine (yo _ _ (by omega) (by omega)).mono ?_;rintro e w' ⟨rfl,rfl⟩) | (go_at_call 136;refine (yp _ _ (by omega) (by omega)).mono ?_;rintro e w' ⟨rfl,rfl⟩))
  all_goals
   go_ret
   refine⟨qY ?_,rfl⟩
   go_light
   grind [yn]
 ·go_enter func107,ntmps107
  go_wp2_with (first | (go_at_call 63;refine (A1 _ _ (by omega) (by omega)).mono ?_;rintro e w' ⟨rfl,rfl⟩))
  all_goals
   go_ret
   refine⟨qY ?_,rfl⟩
   go_light
   simp_all [yn]
theorem Pq (r:Int) (w:World) (h0 : -2147483648≤r) (h1:r≤2147483647) :
  Calls prog 158 #[.int .i32 r] w fun e w'=>e=.returned (.bool (decide (0x300≤r∧r≤0x36F)))∧w=w':=by
 go_enter func158,ntmps158
 go_wp2
 all_goals
  go_ret
  refine⟨rM ?_,rfl⟩
  (go_light;rw[dJ];simp only[decide_eq_true_eq,cQ,ne_eq,cK,decide_eq_false_iff_not,aQ,dC,bL,cH,bne_eq_false_iff_eq,beq_iff_eq,aC,bj,false_iff,true_iff,iff_true,iff_false,cI,cW,cT] at *;omega)
end
section
open Go.Shelf
theorem yq (r:Int) (w:World) (h0 : -2147483648≤r) (h1:r≤2147483647) :
  Calls prog 129 #[.int .i32 r] w fun e w'=>e=.returned (.int .i64 (kind r))∧w=w':=by
 go_enter func129,ntmps129
 go_wp2_with (first | (go_at_call 157;refine (Pn _ _ (by omega) (by omega)).mono ?_;rintro e w' ⟨rfl,rfl⟩) | (go_at_call 158;refine (Pq _ _ (by omega) (by omega)).mono ?_;rintro e w' ⟨rfl,rfl⟩))
 all_goals
  go_ret
  refine⟨qY ?_,rfl⟩
  go_light
  try simp only[decide_eq_true_eq,cQ,ne_eq,cK,decide_eq_false_iff_not,aQ,dC,bL,cH,bne_eq_false_iff_eq,beq_iff_eq,aC,bj,false_iff,true_iff,iff_true,iff_false,cI,cW,cT] at *
  grind [kind,rN]
def fT (b:Bool) (r:Int):Int:=if b then 11 else kind r
theorem Pr (i wd r:Int) (b:Bool) (w:World) (h0 : -2147483648≤r) (h1:r≤2147483647) :
  Calls prog 89 #[.agg #[.int .i64 i,.int .i64 wd,.int .i32 r,.bool b]] w fun e w'=>e=.returned (.int .i64 (fT b r))∧Below w.heap.size w w':=by
 cases b
 ·go_enter func89,ntmps89
  go_wp2_with (go_at_call 129;refine (yq _ _ (by omega) (by omega)).mono ?_;rintro e w' ⟨rfl,rfl⟩)
  go_ret
  exact⟨qY (by simp[fT]),(Below.refl _ _).alloc (bq _) _⟩
 ·go_enter func89,ntmps89
  go_wp2_with (go_at_call 129;refine (yq _ _ (by omega) (by omega)).mono ?_;rintro e w' ⟨rfl,rfl⟩)
  go_ret
  exact⟨qY (by simp[fT]),(Below.refl _ _).alloc (bq _) _⟩
end
section
open Go.Shelf

end
section
open Go.Shelf
def qx (r a b:Int):Bool:=decide (a≤r∧r≤b)
theorem wv (r a b:Int) (w:World) :
  Calls prog 111 #[.int .i32 r,.int .i32 a,.int .i32 b] w fun e w'=>e=.returned (.bool (qx r a b))∧w=w':=by
 go_enter func111,ntmps111
 go_wp2
 all_goals
  go_ret
  refine⟨rM ?_,rfl⟩
  (go_light;rw[dJ];simp only[qx,decide_eq_true_eq,cQ,ne_eq,cK,decide_eq_false_iff_not,aQ,dC,bL,cH,bne_eq_false_iff_eq,beq_iff_eq,aC,bj,false_iff,true_iff,iff_true,iff_false,cI,cW,cT] at *;omega)
theorem yr (r:Int) (w:World) (h0 : -2147483648≤r) (h1:r≤2147483647) :
  Calls prog 101 #[.int .i32 r] w fun e w'=>e=.returned (.bool (great r))∧w=w':=by
 by_cases l:0≤r
 ·go_enter func101,ntmps101
  go_wp2_with (first | (go_at_call 111;refine (wv _ _ _ _).mono ?_;rintro e w' ⟨rfl,rfl⟩))
  all_goals
   go_ret
   refine⟨rM ?_,rfl⟩
   (go_light;rw[dJ,uK];simp only[qx,pQ,decide_eq_true_eq,cQ,ne_eq,cK,decide_eq_false_iff_not,aQ,dC,bL,cH,bne_eq_false_iff_eq,beq_iff_eq,aC,bj,false_iff,true_iff,iff_true,iff_false,cI,cW,cT] at *;omega)
 ·have f:∀a b:Int,0≤a→qx r a b=false:=by intro a b ha;simp[qx];omega
  have hm:great r=false:=by rw[tw];intro h;rw[uK] at h;unfold pQ at h;omega
  go_enter func101,ntmps101
  go_wp2_with (first | (go_at_call 111;refine (wv _ _ _ _).mono ?_;rintro e w' ⟨rfl,rfl⟩))
  all_goals
   go_ret
   refine⟨rM ?_,rfl⟩
   (go_light;rw[dJ,uK];simp only[qx,pQ,decide_eq_true_eq,cQ,ne_eq,cK,decide_eq_false_iff_not,aQ,dC,bL,cH,bne_eq_false_iff_eq,beq_iff_eq,aC,bj,false_iff,true_iff,iff_true,iff_false,cI,cW,cT] at *;omega)
theorem DM (r:Int) (w:World) (h0 : -2147483648≤r) (h1:r≤2147483647) :
  Calls prog 57 #[.int .i32 r] w fun e w'=>e=.returned (.bool (pa r))∧w=w':=by
 by_cases l:0≤r
 ·go_enter func57,ntmps57
  go_wp2_with (first | (go_at_call 111;refine (wv _ _ _ _).mono ?_;rintro e w' ⟨rfl,rfl⟩))
  all_goals
   go_ret
   refine⟨rM ?_,rfl⟩
   (go_light;rw[dJ,wu];simp only[qx,qZ,decide_eq_true_eq,cQ,ne_eq,cK,decide_eq_false_iff_not,aQ,dC,bL,cH,bne_eq_false_iff_eq,beq_iff_eq,aC,bj,false_iff,true_iff,iff_true,iff_false,cI,cW,cT] at *;omega)
 ·have f:∀a b:Int,0≤a→qx r a b=false:=by intro a b ha;simp[qx];omega
  have hm:pa r=false:=by rw[tw];intro h;rw[wu] at h;unfold qZ at h;omega
  go_enter func57,ntmps57
  go_wp2_with (first | (go_at_call 111;refine (wv _ _ _ _).mono ?_;rintro e w' ⟨rfl,rfl⟩))
  all_goals
   go_ret
   refine⟨rM ?_,rfl⟩
   (go_light;rw[dJ,wu];simp only[qx,qZ,decide_eq_true_eq,cQ,ne_eq,cK,decide_eq_false_iff_not,aQ,dC,bL,cH,bne_eq_false_iff_eq,beq_iff_eq,aC,bj,false_iff,true_iff,iff_true,iff_false,cI,cW,cT] at *;omega)
set_option maxHeartbeats 1000000 in
theorem A2 (r:Int) (w:World) (h0 : -2147483648≤r) (h1:r≤2147483647) :
  Calls prog 100 #[.int .i32 r] w fun e w'=>e=.returned (.int .i32 (cA r))∧w=w':=by
 by_cases hg:great r=true
 ·have hp:=(uK r).1 hg
  have hb:r≤2000∧0≤r:=by unfold pQ at hp;omega
  have h:=hb.1;have f:=hb.2;clear hb
  have a:=Lib.hid hp;clear hp
  go_enter func100,ntmps100
  go_wp2_with (first | (go_at_call 101;refine (yr _ _ (by omega) (by omega)).mono ?_;rintro e w' ⟨rfl,rfl⟩) | (go_at_call 111;refine (wv _ _ _ _).mono ?_;rintro e w' ⟨rfl,rfl⟩))
  all_goals
   go_ret
   refine⟨qY ?_,rfl⟩
   have hp:=a.out
   clear a
   go_light
   unfold pQ at hp
   grind [cA,qx]
 ·go_enter func100,ntmps100
  go_wp2_with (first | (go_at_call 101;refine (yr _ _ (by omega) (by omega)).mono ?_;rintro e w' ⟨rfl,rfl⟩))
  all_goals
   go_ret
   refine⟨qY ?_,rfl⟩
   go_light
   simp_all [cA]
end
section
open Go.Shelf
set_option maxRecDepth 20000 in
theorem Ps (r:Int) (w:World) (h0 : -2147483648≤r) (h1:r≤2147483647) :
  Calls prog 98 #[.int .i32 r] w fun e w'=>e=.returned (.int .i64 (kind r))∧w=w':=by
 go_enter func98,ntmps98
 go_wp2_with (first | (go_at_call 111;refine (wv _ _ _ _).mono ?_;rintro e w' ⟨rfl,rfl⟩) | (go_at_call 101;refine (yr _ _ (by omega) (by omega)).mono ?_;rintro e w' ⟨rfl,rfl⟩) | (go_at_call 57;refine (DM _ _ (by omega) (by omega)).mono ?_;rintro e w' ⟨rfl,rfl⟩))
 all_goals
  go_ret
  refine⟨qY ?_,rfl⟩
  go_light
  try simp only[qx,decide_eq_true_eq,cQ,ne_eq,cK,decide_eq_false_iff_not,aQ,dC,bL,cH,bne_eq_false_iff_eq,beq_iff_eq,aC,bj,false_iff,true_iff,iff_true,iff_false,cI,cW,cT] at *
  grind (splits:=60) [kind,rN,cZ]
end
def mE (s:ad) (k:Nat):Nat:=match (eQ s.data.toList)[k]? with
 |some p=>p.i
 |none=>s.size
theorem Pt {s:ad} {k:Nat} {p:Pc} (h:(eQ s.data.toList)[k]?=some p):mE s k=p.i:=by simp[mE,h]
theorem Pu (s:ad):mE s 0=0:=by
 unfold mE
 by_cases h:s.data.toList=[]
 ·have:s.size=0:=by have:=aM gq h;simpa using this
  simp[h,eQ,sE,this]
 ·simp[eQ,sF 0 _ h]
theorem Pv {s:ad} {k:Nat} {p:Pc} (h:(eQ s.data.toList)[k]?=some p):mE s (k+1)=p.i+p.w∧nn p.i (s.data.toList.drop p.i)=p::(eQ s.data.toList).drop (k+1):=by
 have hk:k<(eQ s.data.toList).length:=(au.1 h).1
 have he:eQ s.data.toList=(eQ s.data.toList).take k++p::(eQ s.data.toList).drop (k+1):=by
  have h1:=List.drop_eq_getElem_cons hk
  have h2:(eQ s.data.toList)[k]=p:=(au.1 h).2
  rw[h2] at h1
  rw[←h1,bZ]
 obtain⟨q1,q2,q,n⟩:=Ie s.data.toList _ p _ he
 have f:s.data.toList.length=s.size:=by rw[cU];rfl
 refine⟨?_,q⟩
 unfold mE
 have l:(eQ s.data.toList)[k+1]?=((eQ s.data.toList).drop (k+1))[0]?:=by simp
 rw[l,n]
 by_cases a:s.data.toList.drop (p.i+p.w)=[]
 ·rw[a,sE]
  have h5:=aM gq a
  simp only[List.length_drop,aL,f] at h5
  obtain⟨_,r,_⟩:=uH s.data.toList p (aP h)
  simp;omega
 ·rw[sF _ _ a];simp
section
variable {F:Fence} {P:Program} {w0:World} {K:Nat→Prop} {N:Nat} {dfs:List Deferred} {ops:Array Oper} {Q:Exit→Act→World→Prop} {rest:List Oper} {σ:List (Nat×Value)} {L:List Asn}
 {d:Nat} {t:TypeId} {ty:TypeId} {pos:String} {aft:Array Edge} {g:Option (Nat×Bool)} {x:Operand} {k:Nat} {s:ad}
theorem uL [bu F] (ht:P.underlying t=some .string) (hg:gd ops σ g=some true) (hd:d<N) (hx:ev σ x=some (.string s))
  (h:∀b,TO F P w0 K N dfs ops Q rest ((d,.pointer (some ⟨b,0,none⟩))::σ) (L++[obj b (.stringIter s (mE s 0))])):TO F P w0 K N dfs ops Q (⟨some d,.range t x,ty,pos,aft,g⟩::rest) σ L :=
 oi hg (by simp) fun a w ha f=>⟨.pointer (some ⟨w.heap.size,0,none⟩),w.alloc (.stringIter s 0),by simp[execOp,ha.ev hx,Instr.range,run_underlying ht,ap],h _ _ _ (ha.put hd _) (by rw[Pu];exact f.alloc _)⟩
theorem uM [bu F] {n m:Nat} {p:Pc} (hg:gd ops σ g=some true) (hd:d<N) (hx:ev σ x=some (.pointer (some ⟨n,0,none⟩))) (hk:L[k]?=some (obj n (.stringIter s (mE s m)))) (hp:(eQ s.data.toList)[m]?=some p)
  (h:TO F P w0 K N dfs ops Q rest ((d,.tuple #[.bool true,.int .i64 p.i,.int .i32 p.r])::σ) (L.set k (obj n (.stringIter s (mE s (m+1)))))):TO F P w0 K N dfs ops Q (⟨some d,.next x true,ty,pos,aft,g⟩::rest) σ L:=by
 refine oi hg (by simp) fun a w ha u=>?_
 have hit:=u.obj hk
 rw[Pt hp] at hit
 obtain⟨h1,h2⟩:=Pv hp
 have l:=aP hp
 obtain⟨g1,g2,_⟩:=uH s.data.toList p l
 have C:s.data.toList.length=s.size:=by rw[cU];rfl
 obtain⟨r,wd,E,e1,e2,G,O,J,D,I,H⟩:=M5 P w n s p.i hit (by omega)
 rw[h2] at D
 have f:p=⟨p.i,wd,r⟩:=(List.cons.inj D).1
 have q:p.w=wd:=aM Pc.w f
 have hr:p.r=r:=aM Pc.r f
 obtain⟨C1,c1,c2⟩:=u.focus hk
 refine⟨.tuple #[.bool true,.int .i64 p.i,.int .i32 p.r],E,by rw[hr];simp[execOp,ha.ev hx,e1,ap],h _ _ (ha.put hd _) (c2 _ C1 E ⟨?_,fun j hj=>.inl hj⟩ ⟨c1.1,by rw[h1,q];exact G⟩)⟩
 exact e2.weaken (fun i _ hi=>by subst hi;exact (c1.1 _).2 rfl)
theorem uN [bu F] {f m:Nat} (hg:gd ops σ g=some true) (hd:d<N) (hx:ev σ x=some (.pointer (some ⟨f,0,none⟩))) (hk:L[k]?=some (obj f (.stringIter s (mE s m)))) (hm:(eQ s.data.toList).length≤m)
  (h:TO F P w0 K N dfs ops Q rest ((d,.tuple #[.bool false])::σ) L):TO F P w0 K N dfs ops Q (⟨some d,.next x true,ty,pos,aft,g⟩::rest) σ L:=by
 refine oi hg (by simp) fun a w ha l=>?_
 have hit:=l.obj hk
 have e:mE s m=s.size:=by simp[mE,List.getElem?_eq_none hm]
 rw[e] at hit
 exact⟨_,w,by simp[execOp,ha.ev hx,(M6 P w f s s.size hit (by omega)).1,ap],h _ _ (ha.put hd _) l⟩
end
section
open Go.Shelf
attribute [local go_sem] k7 F0 F1 F2
end
section
open Go.Shelf
attribute [local go_sem] k7
end
structure Rn where
 f:Nat
 t:Nat
 k:Int
 deriving DecidableEq
theorem ww (i wd r:Int) (b:Bool) (h0 : -2147483648≤r) (h1:r≤2147483647):dN prog 89 [.agg #[.int .i64 i,.int .i64 wd,.int .i32 r,.bool b]] (.int .i64 (fT b r)):=fun w=>Pr i wd r b w h0 h1
def DN {α:Type} (P:Program) (g:FuncId) (lb:Array Value) (enc:α→Array Value) (xs:List α) (M:Nat→Prop) (n:World):Prop :=
 ∀ (l:Nat) (I X:List α→(Nat→Prop)→World→Prop) (f q:Nat→Prop) (W:World),
  (∀k,M k→k<n.heap.size∧W.heap[k]?=n.heap[k]?∧¬f k)→n.heap.size≤W.heap.size→(∀k,f k→k<W.heap.size)→(∀k,q k↔f k∨M k) →
  oE I→oE X →
  (∀pre x post C a,xs=pre++x::post→cJ q C W a→I pre C a →
   Ct P l (enc x) a fun b h=>∃C',cJ C C' a h∧((b=true∧I (pre++[x]) C' h)∨(b=false∧X (pre++[x]) C' h))) →
  I [] f W →
  Calls P g (#[.func (.yield l) #[] #[]]++lb) W fun e W'=>(∃v,e=.returned v) ∧
   ∃C',cJ q C' W W'∧(I xs C' W'∨∃pre x post,xs=pre++x::post∧X (pre++[x]) C' W')
section
variable {P:Program}
theorem Pw {α:Type} {gf:FuncId} {lb:Array Value} {enc:α→Array Value} {xs:List α} {M:Nat→Prop} {W0:World} (hY:DN P gf lb enc xs M W0)
  {fn:FuncId} {tmps:Array Value} {ps:Array Tmp} {assign body:Code} {f:Nat} (a8:∀x,(enc x).size=ps.size)
  (I:List α→(Nat→Prop)→World→Prop) (X:Code→List α→(Nat→Prop)→World→Prop) (J:List α→α→Act→(Nat→Prop)→World→Prop)
  (hI:oE I) (hX:∀c,oE (X c)) (hJ:∀pre x a,oE (fun (_:Unit)=>J pre x a)) (C0 B0:Nat→Prop) (W:World) (l:Nat)
  (hl:W.heap[l]?=some (.loop { state:=.ready,pending:=none,fn,tmps,params:=ps,assign,body,defers:=f })) (bh:¬C0 l) (bk:¬B0 l)
  (hM:∀k,M k→k<W0.heap.size∧W.heap[k]?=W0.heap[k]?∧¬C0 k) (hs:W0.heap.size≤W.heap.size) (b0:∀k,C0 k→k<W.heap.size) (hB:∀k,B0 k↔C0 k∨M k) (h0:I [] C0 W)
  (U:∀pre x post C D,xs=pre++x::post→cJ (fun k=>B0 k∨k=l) (fun k=>C k∨k=l) W D→I pre C D→¬C l→(∃r,D.heap[l]?=some (.loop r)∧r.defers=f) →
   assign.wpIn (Fence.wide.inRound l) 0 P (_root_.Go.Exit.then (fun a1 S=>∃C1,cJ C C1 D S∧J pre x a1 C1 S) (fun _ _ _=>False))
    { tmps:=(ps.zip (enc x)).foldl (fun t (p,v)=>t.setIfInBounds p v) tmps,defers:=[] } D)
  (aw:∀pre x post C D a1,xs=pre++x::post→cJ (fun k=>B0 k∨k=l) (fun k=>C k∨k=l) W D→J pre x a1 C D→¬C l→(∃r,D.heap[l]?=some (.loop r)∧r.defers=f) →
   body.wpIn (Fence.wide.inRound l) 0 P (z8 I X (pre++[x]) C D) a1 D) :
  Calls P gf (#[.func (.yield l) #[] #[]]++lb) W fun e W'=>(∃v,e=.returned v) ∧
   ∃C' st pe,cJ (fun k=>B0 k∨k=l) (fun k=>C' k∨k=l) W W'∧¬C' l∧W'.heap[l]?=some (.loop { state:=st,pending:=pe,fn,tmps,params:=ps,assign,body,defers:=f })∧st≠.busy ∧
    ((pe=none∧I xs C' W')∨∃c pre x post,pe=some c∧xs=pre++x::post∧X c (pre++[x]) C' W'):=by
 have bb:l<W.heap.size:=lX hl
 refine (hY l
  (fun pre Cc D=>∃C,Cc=(fun k=>C k∨k=l)∧¬C l∧I pre C D∧D.heap[l]?=some (.loop { state:=.ready,pending:=none,fn,tmps,params:=ps,assign,body,defers:=f }))
  (fun pre Cc D=>∃C c,Cc=(fun k=>C k∨k=l)∧¬C l∧X c pre C D∧D.heap[l]?=some (.loop { state:=.done,pending:=some c,fn,tmps,params:=ps,assign,body,defers:=f }))
  (fun k=>C0 k∨k=l) (fun k=>B0 k∨k=l) W (fun k hk=>⟨(hM k hk).1,(hM k hk).2.1,fun h=>h.elim (hM k hk).2.2 (fun e=>bk ((hB l).2 (.inr (e▸hk))))⟩) hs ?_ (fun k=>by rw[hB];exact or_right_comm) ?_ ?_ ?_ ?_).mono ?_
 ·rintro k (h | rfl)
  ·exact b0 k h
  ·exact bb
 ·rintro pre Cc D S ⟨C,rfl,T,hi,hr⟩ hsz hk
  exact⟨C,rfl,T,hI _ _ _ _ hi hsz (fun k h=>hk k (.inl h)),(hk l (.inr rfl)).trans hr⟩
 ·rintro pre Cc D S ⟨C,c,rfl,T,hi,hr⟩ hsz hk
  exact⟨C,c,rfl,T,hX c _ _ _ _ hi hsz (fun k h=>hk k (.inl h)),(hk l (.inr rfl)).trans hr⟩
 ·rintro pre x post Cc D V E ⟨C,rfl,T,hi,hr⟩
  have a6:l<D.heap.size:=lX hr
  have hy:=run_yield (P:=P) (args:=enc x) hr (a8 x)
  refine⟨fn,_,assign,body,hy,roundIn_of_wpIn (F:=bF) trivial (wpIn_mono (U pre x post C D V E hi T ⟨_,hr,rfl⟩) ?_)⟩
  clear hy
  rintro e a1 S hp
  cases e with
  |normal=>
   obtain⟨C1,Y,hj⟩:=hp
   have Z:¬C1 l:=Y.not a6 T
   have a4:S.heap[l]?=_:=Y.1.at hr T
   have ao:l<S.heap.size:=lX a4
   refine⟨_,run_beginRound a4 rfl,?_⟩
   have a2:=hU (w:=S) (o:=.loop { state:=.busy,pending:=none,fn,tmps,params:=ps,assign,body,defers:=f }) ao
   have q:∀ (Cz:Nat→Prop) (Wz:World) (o:Obj),¬Cz l→∀k,Cz k→(Wz.putObj l o).heap[k]?=Wz.heap[k]?:=fun Cz Wz o hz k hk=>dG (by rintro rfl;exact hz hk)
   have bs:=hJ pre x a1 () C1 S (S.putObj l (.loop { state:=.busy,pending:=none,fn,tmps,params:=ps,assign,body,defers:=f })) hj (by simp) (q C1 S _ Z)
   have a7:cJ (fun k=>C k∨k=l) (fun k=>C1 k∨k=l) D (S.putObj l (.loop { state:=.busy,pending:=none,fn,tmps,params:=ps,assign,body,defers:=f })) :=
    ⟨(Y.1.weaken (fun _ _ h=>.inl h)).putObj (.inl (.inr rfl)) _,fun k hk=>by
     rcases hk with hk|rfl
     ·rcases Y.2 k hk with h'|h'
      ·exact .inl (.inl h')
      ·exact .inr (by simpa using h')
     ·exact .inl (.inr rfl)⟩
   refine wpIn_mono (aw pre x post C1 _ a1 V (E.trans a7) bs Z ⟨_,a2,rfl⟩) ?_
   have ag:∀ (n:Option Code) (C':Nat→Prop) (G:World),cJ C1 C' (S.putObj l (.loop { state:=.busy,pending:=none,fn,tmps,params:=ps,assign,body,defers:=f })) G →
     ¬C' l∧(Instr.endRound l n).run P G=.ok (.bool n.isNone) (G.putObj l (.loop { state:=if n.isNone then .ready else .done,pending:=n,fn,tmps,params:=ps,assign,body,defers:=f })) ∧
     (G.putObj l (.loop { state:=if n.isNone then .ready else .done,pending:=n,fn,tmps,params:=ps,assign,body,defers:=f })).heap[l]?=some (.loop { state:=if n.isNone then .ready else .done,pending:=n,fn,tmps,params:=ps,assign,body,defers:=f }) ∧
     cJ (fun k=>C k∨k=l) (fun k=>C' k∨k=l) D (G.putObj l (.loop { state:=if n.isNone then .ready else .done,pending:=n,fn,tmps,params:=ps,assign,body,defers:=f })):=by
    intro n C' G u
    have a9:¬C' l:=u.not (by simpa using ao) Z
    have a0:=u.1.at a2 Z
    have a5:l<G.heap.size:=lX a0
    refine⟨a9,run_endRound (P:=P) n a0,hU a5,a7.trans ⟨(u.1.weaken (fun _ _ h=>.inl h)).putObj (.inl (.inr rfl)) _,?_⟩⟩
    rintro k (hk|rfl)
    ·rcases u.2 k hk with h'|h'
     ·exact .inl (.inl h')
     ·exact .inr (by simpa using h')
    ·exact .inl (.inr rfl)
   rintro e a3 G O
   cases e with
   |normal=>
    obtain⟨C',u,H⟩:=O
    obtain⟨q1,q2,q3,q4⟩:=ag none C' G u
    exact⟨_,_,q2,true,rfl,_,q4,.inl ⟨rfl,C',rfl,q1,hI _ _ _ _ H (by simp) (q C' G _ q1),q3⟩⟩
   |ret=>
    obtain⟨C',u,H⟩:=O
    obtain⟨q1,q2,q3,q4⟩:=ag (some .ret) C' G u
    exact⟨_,_,q2,false,rfl,_,q4,.inr ⟨rfl,C',_,rfl,q1,hX _ _ _ _ _ H (by simp) (q C' G _ q1),q3⟩⟩
   |exit id=>
    obtain⟨C',u,H⟩:=O
    obtain⟨q1,q2,q3,q4⟩:=ag (some (.exit id)) C' G u
    exact⟨_,_,q2,false,rfl,_,q4,.inr ⟨rfl,C',_,rfl,q1,hX _ _ _ _ _ H (by simp) (q C' G _ q1),q3⟩⟩
   |goto t=>
    obtain⟨C',u,H⟩:=O
    obtain⟨q1,q2,q3,q4⟩:=ag (some (.goto t)) C' G u
    exact⟨_,_,q2,false,rfl,_,q4,.inr ⟨rfl,C',_,rfl,q1,hX _ _ _ _ _ H (by simp) (q C' G _ q1),q3⟩⟩
   |panic ch=>exact O.elim
   |outgrown=>exact O.elim
  |ret=>exact hp.elim
  |exit id=>exact hp.elim
  |goto t=>exact hp.elim
  |panic ch=>exact hp.elim
  |outgrown=>exact hp.elim
 ·exact⟨C0,rfl,bh,h0,hl⟩
 ·rintro e W' ⟨hv,C',E,⟨C,rfl,T,hi,hr⟩ | ⟨pre,x,post,V,C,c,rfl,T,hi,hr⟩⟩
  ·exact⟨hv,C,_,_,E,T,hr,by simp,.inl ⟨rfl,hi⟩⟩
  ·exact⟨hv,C,_,_,E,T,hr,by simp,.inr ⟨c,pre,x,post,rfl,V,hi⟩⟩
theorem Px {α:Type} {g:Operand} {ps:Array Tmp} {assign body:Code} {Q:Exit→Act→World→Prop} {a:Act} {w:World}
  {gf:FuncId} {lb:Array Value} (hg:a.eval g=.func (.func gf) #[] lb) (eg:∀args w,(callFunc gf args).run P w=.ok (.enter gf args) w)
  {enc:α→Array Value} {xs:List α} {M:Nat→Prop} {W0:World} (hY:DN P gf lb enc xs M W0)
  (hs:W0.heap.size≤w.heap.size) (a2:∀x,(enc x).size=ps.size)
  (I:List α→(Nat→Prop)→World→Prop) (X:Code→List α→(Nat→Prop)→World→Prop) (J:List α→α→Act→(Nat→Prop)→World→Prop)
  (hI:oE I) (hX:∀c,oE (X c)) (hJ:∀pre x a,oE (fun (_:Unit)=>J pre x a)) (C0 E:Nat→Prop)
  (S:∀k,C0 k→k<w.heap.size) (hB:∀k,E k↔C0 k∨M k) (hM:∀k,M k→k<W0.heap.size∧w.heap[k]?=W0.heap[k]?∧¬C0 k) (h0:I [] C0 w)
  (H:∀l pre x post C f,xs=pre++x::post→cJ E C w f→I pre C f→¬C l→w.heap.size≤l→(∃r,f.heap[l]?=some (.loop r)) →
   assign.wpIn (Fence.wide.inRound l) 0 P (_root_.Go.Exit.then (fun a1 q=>∃C1,cJ C C1 f q∧J pre x a1 C1 q) (fun _ _ _=>False))
    { tmps:=(ps.zip (enc x)).foldl (fun t (p,v)=>t.setIfInBounds p v) a.tmps,defers:=[] } f)
  (Y:∀l pre x post C f a1,xs=pre++x::post→cJ E C w f→J pre x a1 C f→¬C l→w.heap.size≤l→(∃r,f.heap[l]?=some (.loop r)) →
   body.wpIn (Fence.wide.inRound l) 0 P (z8 I X (pre++[x]) C f) a1 f)
  (V:∀ (d:Nat) (C:Nat→Prop) (W:World),cJ E C w W→I xs C W→w.heap.size≤d→¬C d→W.heap[d]?=some (.deferred (some []))→Q .normal { a with defers:={ target:=.collected d,args:=#[] }::a.defers } W)
  (U:∀ (d:Nat) (c:Code) (pre:List α) (x:α) (post:List α) (C:Nat→Prop) (W:World),xs=pre++x::post→cJ E C w W→X c (pre++[x]) C W→w.heap.size≤d→¬C d→W.heap[d]?=some (.deferred (some [])) →
   c.wpIn bF 0 P Q { a with defers:={ target:=.collected d,args:=#[] }::a.defers } W) :
  (Code.rangeFunc g ps assign body).wpIn bF 0 P Q a w:=by
 have Z:∀k,E k→k<w.heap.size:=fun k hk=>by
  rcases (hB k).1 hk with h|h
  ·exact S k h
  ·have:=(hM k h).1;omega
 refine wpIn_rangeFunc ?_
 intro fn hfn
 obtain⟨f,D⟩:∃f,(w.alloc (.deferred (some []))).alloc (.loop { state:=.ready,pending:=none,fn,tmps:=a.tmps,params:=ps,assign,body,defers:=w.heap.size })=f:=⟨_,rfl⟩
 have a3:f.heap[w.heap.size+1]?=some (.loop { state:=.ready,pending:=none,fn,tmps:=a.tmps,params:=ps,assign,body,defers:=w.heap.size }):=by
  rw[←D];have:=eV (w.alloc (.deferred (some []))) (.loop { state:=.ready,pending:=none,fn,tmps:=a.tmps,params:=ps,assign,body,defers:=w.heap.size });rwa [World.size_alloc] at this
 have a4:f.heap[w.heap.size]?=some (.deferred (some [])):=by
  rw[←D];exact (fW _ _ _ (by simp)).trans (eV w _)
 have a0:Fr E w f:=by rw[←D];exact ((Fr.refl E w).alloc _).alloc _
 have hsz:f.heap.size=w.heap.size+2:=by rw[←D];simp
 have T:∀k,k<w.heap.size→f.heap[k]?=w.heap[k]?:=fun k hk=>by rw[←D];exact (fW _ _ _ (by simp;omega)).trans (fW _ _ _ hk)
 have a5:I [] C0 f:=hI _ _ _ _ h0 a0.size (fun k hk=>T k (S k hk))
 have u:∀ {C:Nat→Prop} {q:World},cJ (fun k=>E k∨k=w.heap.size+1) (fun k=>C k∨k=w.heap.size+1) f q→¬C (w.heap.size+1)→cJ E C w q∧¬C w.heap.size∧q.heap[w.heap.size]?=some (.deferred (some [])):=by
  intro C q h O
  have hnd:¬C w.heap.size:=fun hc=>by
   rcases h.2 _ (.inl hc) with (h'|h')|h'
   ·have:=Z _ h';omega
   ·omega
   ·omega
  refine⟨⟨a0.trans' h.1 (fun i hi hc=>hc.resolve_right (by omega)),fun k hk=>?_⟩,hnd,h.1.at a4 (fun hc=>?_)⟩
  ·have h2:=h.1.size
   rcases h.2 k (.inl hk) with (h'|h')|h'
   ·exact .inl h'
   ·exact absurd (h'▸hk) O
   ·exact .inr (by omega)
  ·rcases hc with hc|hc
   ·have:=Z _ hc;omega
   ·omega
 refine⟨w.heap.size+1,[{ target:=.collected w.heap.size,args:=#[] }],f,{ target:=.fn (.func gf) lb,args:=#[.func (.yield (w.heap.size+1)) #[] #[]] },f,gf,
  #[.func (.yield (w.heap.size+1)) #[] #[]]++lb,f,?_,?_,?_,?_,fun h=>by simp[bF] at h,callsIn_wide.2 ?_⟩
 ·rw[←D];exact run_enterLoop_outer _ _ _ _ _
 ·simp only[resolve,hg]
  simp[go_sem]
 ·intro f' a7;trivial
 ·simp[invoke,go_sem,eg]
 ·refine (Pw hY a2 I X J hI hX hJ C0 E f (w.heap.size+1) a3 (fun h=>by have:=S _ h;omega) (fun h=>by have:=Z _ h;omega)
   (fun k hk=>⟨(hM k hk).1,(T k (by have:=(hM k hk).1;omega)).trans (hM k hk).2.1,(hM k hk).2.2⟩) (by omega) (fun k hk=>by have:=S k hk;omega) hB a5 ?_ ?_).mono ?_
  ·rintro pre x post C q G n hi O ⟨r,hr,_⟩
   exact H _ pre x post C q G (u n O).1 hi O (by omega) ⟨r,hr⟩
  ·rintro pre x post C q a1 G n hj O ⟨r,hr,_⟩
   exact Y _ pre x post C q a1 G (u n O).1 hj O (by omega) ⟨r,hr⟩
  ·rintro e q ⟨⟨v,rfl⟩,C',st,pe,n,O,hr,ag,h⟩
   obtain⟨q1,q2,q3⟩:=u n O
   have a6:w.heap.size+1<q.heap.size:=lX hr
   have e1:∀o,cJ E C' w (q.putObj (w.heap.size+1) o):=fun o=>⟨q1.1.putObj (.inr (by omega)) _,fun k hk=>by have:=q1.2 k hk;simpa using this⟩
   have ao:∀o,∀k,C' k→(q.putObj (w.heap.size+1) o).heap[k]?=q.heap[k]?:=fun o k hk=>dG (by rintro rfl;exact O hk)
   have aw:∀o,(q.putObj (w.heap.size+1) o).heap[w.heap.size]?=some (.deferred (some [])):=fun o=>(dG (by omega)).trans q3
   rcases h with⟨rfl,hi⟩|⟨c,pre,x,post,rfl,G,hx⟩
   ·exact⟨none,_,run_endLoop (P:=P) hr ag,V _ C' _ (e1 _) (hI _ _ _ _ hi (by simp) (ao _)) (bq _) q2 (aw _)⟩
   ·exact⟨some c,_,run_endLoop (P:=P) hr ag,U _ c pre x post C' _ G (e1 _) (hX _ _ _ _ _ hx (by simp) (ao _)) (bq _) q2 (aw _)⟩
end
section
variable {F:Fence} {P:Program} {w0:World} {K:Nat→Prop} {N:Nat} {dfs:List Deferred} {ops:Array Oper} {Q:Exit→Act→World→Prop} {rest:List Oper} {σ σ':List (Nat×Value)} {L L' R R0 As Bs:List Asn} {o:Oper} {v:Value}
 {d:Nat} {t:TypeId} {op:Op} {ty:TypeId} {pos:String} {aft:Array Edge} {g:Option (Nat×Bool)} {x y z:Operand} {c c1 c2:Code} {k:Nat} {A B:Asn} {RO:List (Nat×Obj)} {RD RD0:List Asn}
def ra (P:Program) (gf:FuncId) (a:List Value) {α:Type} (enc:α→List Value) (xs:List α) (As:List Asn):Prop :=
 ∀ (w:World) (M:Nat→Prop),aO As M w→DN P gf a.toArray (fun x=>(enc x).toArray) xs M w
theorem ra.intro {gf:FuncId} {fn:Func} {f:List Value} {α:Type} {enc:α→List Value} {xs:List α} (hf:P.funcs[gf]?=some fn) (hb:fn.body=some c) (V:fn.ntmps=N) (Y:f.length+1≤N)
  (h:∀l w0 K (I X:List α→Asn),YC P l enc xs I X w0 K →
   TC bF P w0 K N [] (bodyPostM bF 0 P fn (FY xs I X w0 K)) c (tB (.func (.yield l) #[] #[]::f)) (I []::As)):ra P gf f enc xs As:=by
 subst V
 intro w M O l I X C0 T W S hsz J hB H G hy h0
 have u:aO As M W:=O.loc hsz (fun k hk=>(S k hk).2.1)
 have:=h l W T (fun pre=>Ae (I pre) (fun C W W'=>H pre C W W')) (fun pre=>Ae (X pre) (fun C W W'=>G pre C W W')) (fun pre x post C Z n he hi=>by
  obtain⟨f1,t1,a1,b1,E,D⟩:=hy pre x post C Z n he hi.1
  refine⟨f1,t1,a1,b1,E,D.mono ?_⟩
  rintro e w2 ⟨b,rfl,C',hx,hc⟩
  have q:∀k,C' k→k<w2.heap.size:=fun k hk=>by
   have:=hx.1.size
   rcases hx.2 k hk with h|h
   ·have:=hi.2 k h;omega
   ·exact h.2
  exact⟨b,rfl,C',hx,hc.imp (fun h=>⟨h.1,h.2,q⟩) (fun h=>⟨h.1,h.2,q⟩)⟩)
 have U:(Value.func (.yield l) #[] #[]::f).toArray=#[.func (.yield l) #[] #[]]++f.toArray:=by simp
 rw[←U]
 refine (xE hf hb (this _ W (xH _ (by simpa using Y)) ⟨T,⟨C0,M,⟨h0,J⟩,u,fun k a b=>(S k b).2.2 a,hB⟩,eo _ _⟩)).mono ?_
 rintro e w' ⟨he,r⟩
 refine⟨he,?_⟩
 rcases r with⟨C',r,hx⟩|⟨pre,x,post,n,C',r,hx⟩
 ·obtain⟨C1,C2,g1,g2,_,g4⟩:=r
  have:C'=C1:=funext fun k=>propext (by rw[g4];exact⟨fun h=>h.resolve_right (g2 k),.inl⟩)
  subst this
  exact⟨C',hx,.inl g1.1⟩
 ·obtain⟨C1,C2,g1,g2,_,g4⟩:=r
  have:C'=C1:=funext fun k=>propext (by rw[g4];exact⟨fun h=>h.resolve_right (g2 k),.inl⟩)
  subst this
  exact⟨C',hx,.inr ⟨pre,x,post,n,g1.1⟩⟩
section
variable {α β γ δ:Type}
theorem Py {gf:FuncId} {G:List Value} {enc:α→List Value} {xs:List α} {ps:List Nat} {assign body:Code} (a8:Ro w0 K RO)
  (hg:ev σ x=some (.func (.func gf) #[] G.toArray)) (aw:∀args w,(callFunc gf args).run P w=.ok (.enter gf args) w) (hY:ra P gf G enc xs As)
  (Inv:List α→β→Prop) (LI:List α→β→List Asn) (X:Code→List α→γ→Prop) (LX:Code→List α→γ→List Asn) (σJ:List α→α→β→δ→List (Nat×Value)) (LJ:List α→α→β→δ→List Asn) (b0:β)
  (h0:Inv [] b0) (S:aq R0 (LI [] b0) R) (a3:aq L As R0) (a4:∀x,(enc x).length=ps.length) (a5:∀p∈ps,p<N)
  (E:∀l r pre e post b w1 I,xs=pre++e::post→cJ K I w0 w1→Ro w1 I (RO++[(l,.loop r)])→Inv pre b →
   TC (Fence.wide.inRound l) P w1 I N [] (_root_.Go.Exit.then (fun a w=>∃j,St w1 I N [] (σJ pre e b j) (LJ pre e b j) a w) (fun _ _ _=>False)) assign (Af ps (enc e) σ) (LI pre b))
  (U:∀l r pre e post b j w1 I,xs=pre++e::post→cJ K I w0 w1→Ro w1 I (RO++[(l,.loop r)])→Inv pre b→TC (Fence.wide.inRound l) P w1 I N [] (RQ Inv LI X LX (pre++[e]) w1 I) body (σJ pre e b j) (LJ pre e b j))
  (T:∀d b,Inv xs b→TX w0 K N ({ target:=.collected d,args:=#[] }::dfs) Q .normal σ (R++(LI xs b++[gL d])))
  (O:∀d c pre e post b,xs=pre++e::post→X c (pre++[e]) b→TC bF P w0 K N ({ target:=.collected d,args:=#[] }::dfs) Q c σ (R++(LX c (pre++[e]) b++[gL d]))) :
  TC bF P w0 K N dfs Q (.rangeFunc x ps.toArray assign body) σ L:=by
 intro a w ha hw
 obtain⟨B1,C2,⟨M,C1,a0,g1,a6,bb⟩,g2,g3,gx,D⟩:=hw.split2 (a3.consS S)
 have ao:=g1.lt
 have ag:=aO.lt (L:=As) a0
 have J:∀ {C:Nat→Prop} {W:World},cJ K C w0 W→Ro W C RO:=fun {C W} hx p hp=>by
  obtain⟨h1,h2⟩:=a8 p hp
  refine⟨hx.1.at h1 h2,fun h=>?_⟩
  rcases hx.2 _ h with h|h
  ·exact h2 h
  ·have:=lX h1;omega
 refine Px (gf:=gf) (lb:=G.toArray) (ha.ev hg) aw (hY w M a0) (bq _) (fun e=>by simp[a4])
  (fun pre C W=>∃b,Inv pre b∧aO (LI pre b) C W) (fun c pre C W=>∃b,X c pre b∧aO (LX c pre b) C W)
  (fun pre e a1 C W=>∃b j,Inv pre b∧At N [] (σJ pre e b j) a1∧aO (LJ pre e b j) C W) ?_ ?_ ?_ C1 B1 ao (fun k=>by rw[bb];exact or_comm) (fun k hk=>⟨ag k hk,rfl,a6 k hk⟩) ⟨b0,h0,g1⟩ ?_ ?_ ?_ ?_
 ·rintro pre C W W' ⟨b,h1,h2⟩ S hk;exact⟨b,h1,h2.loc S hk⟩
 ·rintro c pre C W W' ⟨b,h1,h2⟩ S hk;exact⟨b,h1,h2.loc S hk⟩
 ·rintro pre e a1 _ C W W' ⟨b,j,h1,h2,h3⟩ S hk;exact⟨b,j,h1,h2,h3.loc S hk⟩
 ·rintro l pre e post C Z q f ⟨b,hb,hi⟩ hn hl ⟨r,hr⟩
  have u:cJ K C w0 Z:=gx.trans f
  refine wpIn_mono (E l r pre e post b Z C q u ((J u).snoc hr hn) hb _ Z (ha.zip ps (enc e) a5) ⟨C,hi,eo _ _⟩) ?_
  rintro ex a' w' H
  cases ex with
  |normal=>
   obtain⟨j,hj,C',a9,a2⟩:=H
   exact⟨C',a2,b,j,hb,hj,a9⟩
  |_=>exact H
 ·rintro l pre e post C Z a1 q f ⟨b,j,hb,a7,hi⟩ hn hl ⟨r,hr⟩
  have u:cJ K C w0 Z:=gx.trans f
  refine wpIn_mono (U l r pre e post b j Z C q u ((J u).snoc hr hn) hb a1 Z a7 ⟨C,hi,eo _ _⟩) ?_
  rintro ex a' w' H
  cases ex with
  |normal=>obtain⟨Y,h1,C',h2,h3⟩:=H;exact⟨C',h3,Y,h1,h2⟩
  |ret=>obtain⟨Y,h1,C',h2,h3⟩:=H;exact⟨C',h3,Y,h1,h2⟩
  |exit id=>obtain⟨Y,h1,C',h2,h3⟩:=H;exact⟨C',h3,Y,h1,h2⟩
  |goto id=>obtain⟨Y,h1,C',h2,h3⟩:=H;exact⟨C',h3,Y,h1,h2⟩
  |panic _=>exact H
  |outgrown=>exact H
 ·rintro d C W f ⟨b,hb,hi⟩ hd V n
  refine T d b hb _ W ⟨ha.1,by rw[←ha.2.1],ha.2.2⟩ (D _ (fun k=>C k∨k=d) W ⟨f.1,fun k hk=>?_⟩ ?_)
  ·rcases hk with hk|rfl
   ·exact f.2 k hk
   ·exact .inr ⟨hd,lX n⟩
  ·exact hi.append (qc ⟨fun k=>Iff.rfl,n⟩) (fun k hk e=>V (e▸hk))
 ·rintro d c pre e post C W q f ⟨b,hb,hi⟩ hd V n
  refine O d c pre e post b q hb _ W ⟨ha.1,by rw[←ha.2.1],ha.2.2⟩ (D _ (fun k=>C k∨k=d) W ⟨f.1,fun k hk=>?_⟩ ?_)
  ·rcases hk with hk|rfl
   ·exact f.2 k hk
   ·exact .inr ⟨hd,lX n⟩
  ·exact hi.append (qc ⟨fun k=>Iff.rfl,n⟩) (fun k hk e=>V (e▸hk))
end
end
end Go.Proofs.YtifpjbgnikjglaaGreatDoor

namespace Go.Proofs
open Go.Shelf
def Pz:Go.Shelf.Ren:=⟨fun | 106=>46 | 213=>94 | 265=>137 | n=>n,fun | 9=>9 | 3=>3 | n=>n,fun | n=>n⟩
theorem PA:Go.Proofs.Lays.n106 Tryz.prog Pz:={
 mixed:=by kernel_rfl
 f106:=Tryz.func46.trans (congrArg some (by kernel_rfl))
 f213:=Tryz.func94.trans (congrArg some (by kernel_rfl))
 f265:=Tryz.func137.trans (congrArg some (by kernel_rfl))
 t3:=Tryz.underlying3
 a3:=Tryz.isAgg3
 z3:=Tryz.sizeOf3
 v3:=Tryz.zeroValue3
 t9:=Tryz.underlying9
 a9:=Tryz.isAgg9
 z9:=Tryz.sizeOf9
 v9:=Tryz.zeroValue9 }
open Go.RowKit in
theorem Tryz.strings_Compare (a b:ByteArray) (w:World) :
  Calls Tryz.prog 46 #[.string a,.string b] w fun e w'=>e=.returned (.int .i64 (Lib.compareBytes a.data.toList b.data.toList))∧w'=w:=Any.strings_Compare PA a b w
def PB:Go.Shelf.Ren:=⟨fun | 143=>120 | 219=>153 | 217=>167 | 225=>168 | 224=>169 | 267=>170 | 266=>175 | 314=>176 | n=>n,fun | 9=>9 | 3=>3 | 4=>4 | 5=>5 | 46=>101 | 146=>202 | 51=>201 | n=>n,fun | 1=>0 | n=>n⟩
theorem PC:Go.Proofs.Lays.n143 Tryz.prog PB:={
 mixed:=by kernel_rfl
 f143:=Tryz.func120.trans (congrArg some (by kernel_rfl))
 f217:=Tryz.func167.trans (congrArg some (by kernel_rfl))
 f219:=Tryz.func153.trans (congrArg some (by kernel_rfl))
 f224:=Tryz.func169.trans (congrArg some (by kernel_rfl))
 f225:=Tryz.func168.trans (congrArg some (by kernel_rfl))
 f266:=Tryz.func175.trans (congrArg some (by kernel_rfl))
 f267:=Tryz.func170.trans (congrArg some (by kernel_rfl))
 f314:=Tryz.func176.trans (congrArg some (by kernel_rfl))
 t3:=Tryz.underlying3
 a3:=Tryz.isAgg3
 z3:=Tryz.sizeOf3
 v3:=Tryz.zeroValue3
 t4:=Tryz.underlying4
 a4:=Tryz.isAgg4
 z4:=Tryz.sizeOf4
 v4:=Tryz.zeroValue4
 t5:=Tryz.underlying5
 a5:=Tryz.isAgg5
 z5:=Tryz.sizeOf5
 v5:=Tryz.zeroValue5
 t9:=Tryz.underlying9
 a9:=Tryz.isAgg9
 z9:=Tryz.sizeOf9
 v9:=Tryz.zeroValue9
 t46:=Tryz.underlying101
 a46:=Tryz.isAgg101
 z46:=Tryz.sizeOf101
 v46:=Tryz.zeroValue101
 t51:=Tryz.underlying201
 a51:=Tryz.isAgg201
 z51:=Tryz.sizeOf201
 v51:=Tryz.zeroValue201
 t146:=Tryz.underlying202
 a146:=Tryz.isAgg202
 z146:=Tryz.sizeOf202
 v146:=Tryz.zeroValue202
 g1:=by kernel_rfl }
open Go.RowKit Go.Lib in
theorem Tryz.strings_Index_one (s:ByteArray) (c:UInt8) (w:World) :
  Calls Tryz.prog 120 #[.string s,.string ⟨#[c]⟩] w fun e w'=>e=.returned (.int .i64 (Lib.indexByte s.data.toList c))∧w'=w:=Any.strings_Index_one PC s c w
end Go.Proofs

namespace Go.Proofs.YtifpjbgnikjglaaGreatDoor
open Go.RowKit Go.Lib
open Tryz
set_option linter.unusedVariables false
set_option linter.unusedSimpArgs false
open _root_.Array renaming getElem?_modify→kc
open _root_.Go.Builtin renaming unsafeSliceData_→fS,unsafeString_→jP
open _root_.Go.Extern.AbiNoEscape renaming same→uu
open _root_.Go.Fence renaming wide→bF
open _root_.Go.Lib renaming hid→mB,run_unsafeString_none→oX,run_unsafeSliceData_row→oh
open _root_.Go.Oper renaming semAt_some→k7,upon_value→ny
open cJ renaming refl→eo,setCell→nv
open Hd renaming nil→eB
open aO renaming one1→aF
open _root_.Go.Result renaming andThen→jn
open _root_.Go.World renaming shape?→nf,setCell→l9
open _root_.Go.World.ownsRow renaming cells→rm
open _root_.List renaming mem_singleton→bO
open _root_.Option.some renaming inj→mL
open _root_.Prod renaming snd→eC
section
open Go.Shelf
theorem Il {P:Program} {f:FuncId} {vs:List Value} {v:Value} (h:∀w,Calls P f vs.toArray w fun e w'=>e=.returned v∧w'=w):dN P f vs v:=fun w=>(h w).mono fun e w' ⟨h1,h2⟩=>⟨h1,h2▸Below.refl _ _⟩
theorem PD (s:ad) {a:ad} (h:a=⟨#[10]⟩):dN prog 120 [.string s,.string a] (.int .i64 (Lib.indexByte s.data.toList 10)):=by
 subst h
 exact Il fun w=>Tryz.strings_Index_one s 10 w
theorem wx (a b:ad):dN prog 46 [.string a,.string b] (.int .i64 (Lib.compareBytes a.data.toList b.data.toList)):=Il fun w=>Tryz.strings_Compare a b w
end
def zua (w0:World) (K:Nat→Prop):Asn :=
  ⟨fun C w=>(∀k,C k↔K k)∧(∀k,K k→k<w0.heap.size)∧w0.heap.size≤w.heap.size∧∀k,K k→w.heap[k]?=w0.heap[k]?,
   fun h k hk=>Nat.lt_of_lt_of_le (h.2.1 k ((h.1 k).1 hk)) h.2.2.1,
   fun h b hk=>⟨h.1,h.2.1,Nat.le_trans h.2.2.1 b,fun k a=>(hk k ((h.1 k).2 a)).trans (h.2.2.2 k a)⟩⟩
def yu (P:Program) (f:FuncId) (vs:List Value) (RD:List Asn) {β:Type} (V:β→Value) (a:β→List Asn):Prop :=
 ∀w C,(∀k,C k→k<w.heap.size)→Rd w C RD→Calls P f vs.toArray w fun e w'=>∃x:β,e=.returned (V x)∧Below w.heap.size w w'∧Rd w' C (a x)
def FD (P:Program) {β:Type} (V:β→Value) (a:β→List Asn) (w0:World) (K:Nat→Prop) (e:Ending) (w:World):Prop:=∃x:β,e=.returned (V x)∧Below w0.heap.size w0 w∧Rd w K (a x)
section
variable {F:Fence} {P:Program} {w0:World} {K:Nat→Prop} {N:Nat} {dfs:List Deferred} {ops:Array Oper} {Q:Exit→Act→World→Prop} {rest:List Oper} {σ σ':List (Nat×Value)} {L L' R As Bs:List Asn} {o:Oper} {v:Value}
 {d:Nat} {t:TypeId} {op:Op} {ty:TypeId} {pos:String} {aft:Array Edge} {g:Option (Nat×Bool)} {x y z:Operand} {c c1 c2:Code} {k:Nat} {A B:Asn} {RD RD0:List Asn} {e:TypeId} {ex:Exit}
theorem yu.intro {f:FuncId} {fn:Func} {vs:List Value} {β:Type} {V:β→Value} {a:β→List Asn} (hf:P.funcs[f]?=some fn) (hb:fn.body=some c) (b:fn.ntmps=N) (j:vs.length≤N)
  (h:∀w0 K,Rd w0 K RD→TC bF P w0 K N [] (bodyPostM bF 0 P fn (FD P V a w0 K)) c (tB vs) [zua w0 K]):yu P f vs RD V a:=by
 subst b
 intro w C l i
 exact (xE hf hb (h w C i _ w (xH vs j) ⟨C,aO.one ⟨fun k=>Iff.rfl,l,Nat.le_refl _,fun k _=>rfl⟩,eo _ _⟩)).mono fun e w' h=>h
theorem Io {fn:Func} {rs:List ResultVar} {vs:List Value} {β:Type} {V:β→Value} {m:β→List Asn} {e:Exit} (b:β) (j:Rd w0 K RD) (he:e=.ret∨e=.normal) (i:fn.results=rs.toArray) (f:je P σ L rs vs) (hv:tC vs=V b)
  (p:aq L (zua w0 K::As) R) (hB:∀C w,aO As C w→(∀k,C k→¬K k)→Rd w K RD→Rd w K (m b)):TX w0 K N [] (bodyPostM F 0 P fn (FD P V m w0 K)) e σ L:=by
 intro a w ha n
 have h1:=xI i f ha n
 have h2:LeavesInM F 0 P fn a.tmps (FD P V m w0 K) a.defers .returning w:=by
  rw[ha.2.1]
  refine⟨tC vs,h1,b,by rw[hv],?_⟩
  obtain⟨C,hL,hx⟩:=n
  obtain⟨C1,C2,⟨u,s,g1,g2,r,g4⟩,_,h3,q⟩:=p C w hL
  have l:∀k,K k→C k:=fun k hk=>(q k).2 (.inl ((g4 k).2 (.inl ((g1.1 k).2 hk))))
  refine⟨⟨hx.1.os,hx.1.tape,hx.1.output,hx.1.size,fun k hk=>?_⟩,hB s w g2 (fun k a b=>r k ((g1.1 k).2 b) a) fun A hA=>?_⟩
  ·by_cases h:K k
   ·exact g1.2.2.2 k h
   ·exact hx.1.keep k hk h
  ·obtain⟨D,d1,d2⟩:=j.ext hx A hA
   exact⟨D,d1,fun k hk h=>d2 k hk (l k h)⟩
 rcases he with rfl|rfl<;>exact h2
theorem DO {w1:World} {b:Nat→Prop} (hx:cJ K b w0 w1) (h:TX w0 K N dfs Q ex σ L):TX w1 b N dfs Q ex σ L:=fun a w ha ⟨C,f,h1⟩=>h a w ha ⟨C,f,hx.trans h1⟩
theorem PE [bu F] {xs:List Operand} {m:Array TypeId} {f:FuncId} {first cap:Array Value} {vs i:List Value} {β:Type} {V:β→Value} {D:β→List Asn} (s:Rd w0 K RD0)
  (hg:gd ops σ g=some true) (hd:d<N) (hx:ev σ x=some (.func (.func f) first cap)) (r:evL σ xs=some vs) (hv:first.toList++vs++cap.toList=i)
  (p:∀args w,(callFunc f args).run P w=.ok (.enter f args) w) (H:yu P f i RD V D) (G:pH [] RD0 RD)
  (h:∀b w1 u,cJ K u w0 w1→Rd w1 u (RD0++D b)→TO F P w1 u N dfs ops Q rest ((d,V b)::σ) L) :
  TO F P w0 K N dfs ops Q (⟨some d,.call { callee:=.value x,args:=xs.toArray,argTypes:=m },ty,pos,aft,g⟩::rest) σ L:=by
 intro a w ha E
 simp only[wpListIn,uv (o:=⟨some d,.call { callee:=.value x,args:=xs.toArray,argTypes:=m },ty,pos,aft,g⟩) ha hg,if_true]
 refine⟨fun f _=>bu.fn f,?_⟩
 have h1:(execOp a.eval ⟨some d,.call { callee:=.value x,args:=xs.toArray,argTypes:=m },ty,pos,aft,g⟩).run P w=.ok (.enter f i.toArray) w:=by
  have e:first++vs.toArray++cap=i.toArray:=by rw[←hv];simp
  simp only[execOp,resolve,List.map_toArray,ha.evL r,ha.ev hx,Deferred.ofValue,Sem.run_bind,Sem.run_pure,Result.andThen_ok,invoke,e,p]
 rw[Oper.semAt_plain F _ _ (by simp),h1]
 refine⟨(fun h=>by rw[bu.depth (F:=F)] at h;cases h),?_⟩
 obtain⟨C,hL,n⟩:=E
 have j:Rd w C RD0:=s.ext n
 have q:Rd w C RD:=G.rd (w0:=w0) (K:=K) (C2:=fun _=>False) (fun _ h=>h) (fun _ _ h=>h) j
 refine bu.calls ((H w C hL.lt q).mono ?_)
 rintro e w' ⟨b,rfl,hb,hB⟩
 have l:cJ C C w w':=F6 hb
 exact h b w' C (n.trans l) ((j.ext l).append hB) _ _ (ha.put hd _) ⟨C,hL.loc l.1.size (fun k hk=>hb.block k (hL.lt k hk)),eo _ _⟩
theorem PF (m:aq L As R) (n:∀C w,aO As C w→B.P C w) (f:Rd w0 K RD0) (h:∀w1 i,cJ K i w0 w1→Rd w1 i (RD0++[B])→TO F P w1 i N dfs ops Q rest σ R):TO F P w0 K N dfs ops Q rest σ L:=by
 intro a w ha l
 obtain⟨C,hL,hx⟩:=l
 obtain⟨C1,C2,g1,g2,p,g4⟩:=m C w hL
 have b:cJ K C2 w0 w:=hx.sub fun k hk=>(g4 k).2 (.inr hk)
 refine h w C2 b ((f.ext b).append fun X j=>?_) a w ha ⟨C2,g2,eo _ _⟩
 rw[bO] at j
 subst j
 exact⟨C1,n C1 w g1,p⟩
theorem Rd.up0 {α:Type} {enc:α→List Value} {size m:Nat} {vv:Value} {xs:List α} {i:Nat} (hr:Rd w0 K RD) (hi:RD[i]?=some (jh enc size vv 0 xs)):Rd w0 K (RD++[jh enc size vv m xs]):=by
 have:=hr.up (m:=m) hi
 rwa [Nat.zero_add] at this
theorem Vw.head {α:Type} {L xs:List α} {size k:Nat} {vv v:Value} (h:Vw vv L size k v xs):∃hd:Hd,v=hd.v:=by
 obtain⟨_,_,q,c,rfl,_⟩:=h
 exact⟨⟨q,xs.length,c⟩,rfl⟩
theorem Ip {α:Type} {enc:α→List Value} {size k:Nat} {e:TypeId} {vv:Value} {L xs:List α} {hd:Hd} (hz:∀x,(enc x).length=size) (hV:Vw vv L size k hd.v xs):pF (vec enc e size vv L) (mo enc size hd xs):=fun C w h=>Nu hV (G4 hz h)
def pb (a:Nat) (hd:Hd) (xs:List ad):Asn:=if a=2 then cE else mo hO 1 hd xs
def n0 (a:Nat) (hd:Hd) (xs:List ad) (L:nY):Prop:=(a=0→hd=eB∧xs=[])∧(a=2→(xs,hd)∈L.map eC)
theorem n0.own {hd:Hd} {xs:List ad} {L:nY}:n0 1 hd xs L:=⟨fun h=>(nomatch h),fun h=>(nomatch h)⟩
theorem n0.nil {L:nY}:n0 0 eB [] L:=⟨fun _=>⟨rfl,rfl⟩,fun h=>(nomatch h)⟩
theorem n0.map {hd:Hd} {xs:List ad} {L:nY} (h:(xs,hd)∈L.map eC):n0 2 hd xs L:=⟨fun h=>(nomatch h),fun _=>h⟩
theorem DP {e:TypeId} {hd:Hd} {xs:List ad}:pF (vec hO e 1 hd.v xs) (pb 1 hd xs):=fun C w h=>(show (mo hO 1 hd xs).P C w from C7 gK h)
theorem Iq {hd:Hd} {xs:List ad}:pF cE (pb 2 hd xs):=fun C w h=>h
theorem PG (e:TypeId):pF (vec hO e 1 (.slice none 0 0) []) (pb 0 eB []):=fun C w h=>(show (mo hO 1 eB []).P C w from C7 (hd:=eB) gK h)
theorem Is {b:Nat} {hd:Hd} {xs:List ad} {M:nY} {i:Nat} (hx:n0 b hd xs M) (hi:RD[i]?=some (pr M)):∀C w,aO [pb b hd xs] C w→(∀k,C k→¬K k)→Rd w K RD→Rd w K [mo hO 1 hd xs]:=fun C w h l j=>by
 by_cases hk:b=2
 ·obtain⟨D,m,f⟩:=j _ (List.mem_of_getElem? hi)
  intro B hB
  rw[bO] at hB
  subst hB
  obtain⟨E,e1,e2⟩:=m.2 _ (hx.2 hk) _ (bO.2 rfl)
  exact⟨E,e1,fun k a=>f k (e2 k a)⟩
 ·have h1:=aF.1 h
  unfold pb at h1
  rw[aj hk] at h1
  intro B hB
  rw[bO] at hB
  subst hB
  exact⟨C,h1,l⟩
theorem PH {e:TypeId} {hd:Hd} {xs:List ad}:∀C w,aO [vec hO e 1 hd.v xs] C w→(∀k,C k→¬K k)→Rd w K RD→Rd w K [mo hO 1 hd xs]:=fun C w h a b=>by
 intro B hB
 rw[bO] at hB
 subst hB
 exact⟨C,C7 gK (aF.1 h),a⟩
theorem PI [bu F] {kk:ad} {M:nY} {l:List (ad×List ad)} {i b:Nat} {mt m p:TypeId} (s:om M=l) (r:P.underlying m=some .string) (ht:P.underlying mt=some (.map m p)) (j:(P.info? p).bind (fun i=>i.zero)=some (.slice none 0 0)) (hg:gd ops σ g=some true) (hd:d<N) (hx:ev σ x=some (.map (some b))) (hy:ev σ y=some (.string kk))
  (hr:Rd w0 K RD) (hi:RD[i]?=some (pM b M))
  (h:∀hd:Hd,(∀xs,zbP kk l=some xs→(xs,hd)∈M.map eC)→TO F P w0 K N dfs ops Q rest ((d,.tuple #[hd.v,.bool (zbP kk l).isSome])::σ) L) :
  TO F P w0 K N dfs ops Q (⟨some d,.lookup mt x y true,ty,pos,aft,g⟩::rest) σ L:=by
 subst s
 have hb:((zbP kk M).getD ([],eB)).2.v=pK ((zbP kk M).getD ([],eB)):=rfl
 refine Ay (k:=i) (M:=M) (z0:=([],eB)) (ev':=pK) (mT r) ht j hg hd hx hy hr hi ?_
 have h1:=h ((zbP kk M).getD ([],eB)).2 (fun xs a=>by
  rw[vX] at a
  cases f:zbP kk M with
  |none=>rw[f] at a;cases a
  |some q=>
   rw[f] at a
   have:q.1=xs:=mL a
   subst this
   exact AA kk q M f)
 rw[vX,hb] at h1
 cases n:zbP kk M with
 |none=>rw[n] at h1;exact h1
 |some q=>rw[n] at h1;exact h1
end

section
open Go.Shelf
attribute [local go_sem] k7
theorem PJ:(prog.info? 5).map (fun i=>(i.zero,i.size,i.bytes))=some (some (.int .u8 0),1,1):=by kernel_rfl
theorem It:∃j,prog.info? 68=some j∧j.size≠0:=by
 have h:(prog.info? 68).map (fun j=>decide (j.size≠0))=some true:=by kernel_rfl
 cases hj:prog.info? 68 with
 |none=>rw[hj] at h;simp at h
 |some j=>rw[hj] at h;exact⟨j,rfl,by simpa using h⟩
theorem PK (b:Nat) (v:Value) (w:World) (h:w.heap[b]?=some (.cells #[.pointer none,v] 68 (0,0))) :
  Calls prog 73 #[.pointer (some ⟨b,0,none⟩)] w fun e w'=>e=.returned (.tuple #[])∧w'=w.setCell ⟨b,0,none⟩ (.pointer (some ⟨b,0,none⟩)):=by
 have c0:w.cell? ⟨b,0,none⟩=some (.pointer none):=oY h rfl
 have f0:=F4 h 0
 have a:w.shape? b=some (68,2):=by simp[nf,h]
 obtain⟨j,hj,f⟩:=It
 clear h
 go_enter func73,ntmps73
 go_wp2
 rw[Lib.run_to_unsafe w ⟨b,0,none⟩ (t:=68) kr kr hj f a (Nat.zero_lt_succ 1)]
 simp only[jn]
 rw[ny]
 go_wp2
 rw[run_callFunc_extern func127 kr kr kr (e:=uu) kr]
 rw[Lib.run_noEscape]
 simp only[jn]
 rw[ny]
 go_wp2
 rw[Lib.run_from_unsafe w ⟨b,0,none⟩ (u:=68) kr kr hj a kr]
 simp only[jn]
 rw[ny]
 go_wp2
 go_end0
 exact⟨rfl,rfl⟩
theorem PL (b:Nat) (v:Value) (w:World) (h:w.heap[b]?=some (.cells #[.pointer (some ⟨b,0,none⟩),v] 68 (0,0))) :
  Calls prog 73 #[.pointer (some ⟨b,0,none⟩)] w fun e w'=>e=.returned (.tuple #[])∧w'=w:=by
 have c0:w.cell? ⟨b,0,none⟩=some (.pointer (some ⟨b,0,none⟩)):=oY h rfl
 obtain⟨j,hj,a⟩:=It
 clear h
 go_enter func73,ntmps73
 go_wp2
 rw[Lib.run_neq_ptr_same w _ (te:=68) kr hj]
 go_wp2
 go_end0
 exact⟨rfl,rfl⟩
def sK (b:Nat) (bs:ad) (C:Nat→Prop) (w:World):Prop :=
 ∃p v D,w.heap[b]?=some (.cells #[p,v] 68 (0,0))∧(p=.pointer none∨p=.pointer (some ⟨b,0,none⟩))∧jC 5 v bs D w∧¬D b∧C=(fun k=>k=b∨D k)
theorem sK.local {b:Nat} {bs:ad} {C:Nat→Prop} {w w':World} (h:sK b bs C w) (hk:∀k,C k→w'.heap[k]?=w.heap[k]?):sK b bs C w':=by
 obtain⟨p,v,D,h1,h2,h3,a,rfl⟩:=h
 exact⟨p,v,D,(hk b (.inl rfl)).trans h1,h2,h3.local (fun k h=>hk k (.inr h)),a,rfl⟩
theorem sK.lt {b:Nat} {bs:ad} {C:Nat→Prop} {w:World} (h:sK b bs C w):∀k,C k→k<w.heap.size:=by
 obtain⟨p,v,D,h1,h2,h3,a,rfl⟩:=h
 rintro k (rfl|hk)
 ·exact lX h1
 ·exact h3.lt k hk
theorem PM (b:Nat) (bs s:ad) (C:Nat→Prop) (w:World) (h:sK b bs C w) (hn:bs.size+s.size≤140737488355328) :
  Calls prog 32 #[.pointer (some ⟨b,0,none⟩),.string s] w fun e w'=>(∃u,e=.returned u)∧∃C',sK b (bs++s) C' w'∧cJ C C' w w':=by
 obtain⟨p,v,D,f,hp,j,q,rfl⟩:=h
 obtain⟨ip,W,U,V,X⟩:=info_parts PJ
 obtain⟨w1,Y,r,J,H⟩:∃w1,(Calls prog 73 #[.pointer (some ⟨b,0,none⟩)] w fun e w'=>e=.returned (.tuple #[])∧w'=w1) ∧
   w1.heap[b]?=some (.cells #[.pointer (some ⟨b,0,none⟩),v] 68 (0,0))∧jC 5 v bs D w1∧cJ (fun k=>k=b∨D k) (fun k=>k=b∨D k) w w1:=by
  rcases hp with rfl|rfl
  ·have hx:cJ (fun k=>k=b) (fun k=>k=b) w (w.setCell ⟨b,0,none⟩ (.pointer (some ⟨b,0,none⟩))):=nv (C':=fun k=>k=b) (eo _ _) (p:=⟨b,0,none⟩) rfl _
   refine⟨_,PK b v w f,?_,j.ext hx (by rintro k hk rfl;exact q hk),nv (C':=fun k=>k=b∨D k) (eo _ _) (p:=⟨b,0,none⟩) (.inl rfl) _⟩
   simp[l9,kc,f]
  ·exact⟨w,PL b v w f,f,j,eo _ _⟩
 have c1:w1.cell? ⟨b,1,none⟩=some v:=oY r rfl
 have I:b<w1.heap.size:=lX r
 have a2:=mB f;have a1:=mB j;have Z:=mB H
 clear f j H
 go_enter func32,ntmps32
 go_wp2_with (first | (go_at_call 73;refine Y.mono ?_;rintro e w' ⟨rfl,rfl⟩) | (refine znw _ rfl _ _ _ _ rfl 5 _ kr kr W U V X _ _ _ rfl J _ rfl hn ?_))
 rintro v' w2 E n i
 have l:w2.heap[b]?=some (.cells #[.pointer (some ⟨b,0,none⟩),v] 68 (0,0)):=(i.1.keep b I q).trans r
 have f1:=F4 l 1
 have d1:w2.cell? ⟨b,1,none⟩=some v:=oY l rfl
 have m:¬E b:=i.not I q
 obtain⟨S,O,a,rfl⟩:∃S O a,v'=.slice S O a:=by
  rcases n.shape with⟨rfl,_⟩|⟨g,cap,a0,rfl,_⟩<;>exact⟨_,_,_,rfl⟩
 have ag:=mB n;have M:=mB i;have aw:=mB l
 clear n i l
 go_wp2
 go_ret2
 have T:cJ (fun k=>k=b∨E k) (fun k=>k=b∨E k) w2 (w2.setCell ⟨b,1,none⟩ (.slice S O a)):=nv (C':=fun k=>k=b∨E k) (eo _ _) (p:=⟨b,1,none⟩) (.inl rfl) _
 have G:cJ (fun k=>k=b) (fun k=>k=b) w2 (w2.setCell ⟨b,1,none⟩ (.slice S O a)):=nv (C':=fun k=>k=b) (eo _ _) (p:=⟨b,1,none⟩) rfl _
 refine⟨⟨_,rfl⟩,fun k=>k=b∨E k,⟨_,_,E,?_,.inr rfl,ag.out.ext G (by rintro k hk rfl;exact m hk),m,rfl⟩,?_⟩
 ·simp[l9,kc,aw.out]
 ·refine (Z.out.trans ?_).trans T
  exact⟨M.out.1.weaken (fun k _ h=>.inr h),fun k hk=>by
   rcases hk with rfl|hk
   ·exact .inl (.inl rfl)
   ·exact (M.out.2 k hk).imp .inr id⟩
theorem PN {C C':Nat→Prop} {a w:World} (h:cJ C C' a w) {g:Nat} (hg:C' g) (m:Nat):cJ C C' a (w.freeze ⟨g,0,none⟩ m):=by
 unfold World.freeze
 split
 ·exact h
 ·have j:∀f:Obj→Obj,({ w with heap:=w.heap.modify g f }:World).heap.size=w.heap.size:=fun f=>by simp
  refine⟨⟨h.1.os,h.1.tape,h.1.output,by simpa using h.1.size,fun k hk b=>?_⟩,fun k hk=>by simpa using h.2 k hk⟩
  rw[kc]
  rw[aj]
  ·exact h.1.keep k hk b
  ·intro e
   have i:g=k:=e
   subst i
   rcases h.2 _ hg with h'|h'
   ·exact b h'
   ·omega
theorem PO (b:Nat) (bs:ad) (C:Nat→Prop) (w:World) (h:sK b bs C w) :
  Calls prog 33 #[.pointer (some ⟨b,0,none⟩)] w fun e w'=>e=.returned (.string bs)∧cJ C C w w':=by
 obtain⟨p,v,D,a,hp,f,V,rfl⟩:=h
 rcases f.shape with⟨rfl,rfl,rfl⟩|⟨g,cap,i,rfl,X,S,O,rfl,hg⟩
 ·have c1:w.drew.cell? ⟨b,1,none⟩=some (.slice none 0 0):=oY (w:=w.drew) a rfl
  have u:(fS #[46] 114 #[.slice none 0 0]).run prog w.drew=.ok (.pointer none) w.drew:=rfl
  have E:∀W q,(jP #[114,3] 9 #[.pointer q,.int .i64 0]).run prog W=.ok (.string .empty) W:=fun W q=>oX W _ _ _ q
  clear a f
  go_enter func33,ntmps33
  go_wp2
  go_region
  all_goals (go_wp2;go_ret;exact⟨rfl,(eo _ _).drew⟩)
 ·by_cases h0:bs.size=0
  ·have n:bs=⟨#[]⟩:=by apply ByteArray.ext;exact Array.eq_empty_of_size_eq_zero h0
   subst n
   have T:(⟨#[]⟩:ad).size=0:=rfl
   rw[T] at a f
   have E:∀W q,(jP #[114,3] 9 #[.pointer q,.int .i64 0]).run prog W=.ok (.string .empty) W:=fun W q=>oX W _ _ _ q
   have c1:w.drew.cell? ⟨b,1,none⟩=some (.slice (some ⟨g,0,none⟩) 0 cap):=oY (w:=w.drew) a rfl
   by_cases s:cap=0
   ·subst s
    have u:(fS #[46] 114 #[.slice (some ⟨g,0,none⟩) 0 0]).run prog w.drew=.ok (.pointer (some ⟨w.drew.heap.size,0,none⟩)) (w.drew.alloc (.view ⟨g,0,none⟩ 5)) :=
     Lib.run_unsafeSliceData_zero w.drew _ _ 5 kr ⟨g,0,none⟩ 0 (5,i.size) (by have r:w.drew.heap[g]?=some (.cells i 5 (0,0)):=hg;simp[nf,r])
    have I:=lX a
    have c2:(w.drew.alloc (.view ⟨g,0,none⟩ 5)).cell? ⟨b,1,none⟩=some (.slice (some ⟨g,0,none⟩) 0 0):=oY (w:=w.drew.alloc _) ((Below.heap_alloc w.drew _ b I).trans a) rfl
    have c3:(w.alloc (.view ⟨g,0,none⟩ 5)).drew.cell? ⟨b,1,none⟩=some (.slice (some ⟨g,0,none⟩) 0 0):=c2
    have c0:w.cell? ⟨b,1,none⟩=some (.slice (some ⟨g,0,none⟩) 0 0):=c1
    clear a f hg
    go_enter func33,ntmps33
    go_wp2
    go_region
    all_goals (go_wp2;go_ret;exact⟨rfl,(eo _ _).drew.alloc _⟩)
   ·have u:(fS #[46] 114 #[.slice (some ⟨g,0,none⟩) 0 cap]).run prog w.drew=.ok (.pointer (some ⟨g,0,none⟩)) w.drew:=oh _ _ _ _ _ _ s
    clear a f hg s
    go_enter func33,ntmps33
    go_wp2
    go_region
    all_goals (go_wp2;go_ret;exact⟨rfl,(eo _ _).drew⟩)
  ·obtain⟨l,H⟩:∃l,l=bs.data.toList:=⟨_,rfl⟩
   have m:l.length=bs.size:=by rw[H,Array.length_toList];rfl
   have n:bs=⟨l.toArray⟩:=by rw[H]
   have J:l≠[]:=by intro e;rw[e] at m;exact h0 m.symm
   rw[←m] at a S f
   have c1:w.drew.cell? ⟨b,1,none⟩=some (.slice (some ⟨g,0,none⟩) l.length cap):=oY (w:=w.drew) a rfl
   have u:(fS #[46] 114 #[.slice (some ⟨g,0,none⟩) l.length cap]).run prog w.drew=.ok (.pointer (some ⟨g,0,none⟩)) w.drew :=
    oh _ _ _ _ _ _ (by omega)
   have M:i.size=cap*1:=by
    rcases f.1.2 with⟨h1,_⟩|⟨Z,G,U,h1,_,h3,_,_,Y,_⟩
    ·cases h1
    ·have e1:g=Z:=by injection h1 with q1 q2 q3;injection q1 with q1;injection q1
     have e2:cap=G:=by injection h1
     subst e1;subst e2
     rw[hg] at h3;injection h3 with h3;injection h3 with h3
     rw[h3];exact Y
   have E:(jP #[114,3] 9 #[.pointer (some ⟨g,0,none⟩),.int .i64 l.length]).run prog w.drew=.ok (.string ⟨l.toArray⟩) (w.drew.freeze ⟨g,0,none⟩ l.length):=by
    refine Lib.run_unsafeString_row w.drew 114 3 9 5 kr kr g i.size (by have r:w.drew.heap[g]?=some (.cells i 5 (0,0)):=hg;simp[nf,r]) l J (by omega) (by unfold maxLen at O;omega) ?_
    intro j x hx
    refine rm f.1 (g:=g) rfl j (.int .u8 x.toNat) ?_
    unfold strCells
    rw[List.getElem?_map,←H,hx];rfl
   rw[n]
   have hx:cJ (fun k=>k=b∨k=g) (fun k=>k=b∨k=g) w (w.drew.freeze ⟨g,0,none⟩ l.length):=PN ((eo _ _).drew) (.inr rfl) _
   have Hx:=mB hx
   clear a f hg hx n m M
   clear H
   go_enter func33,ntmps33
   go_wp2
   go_region
   all_goals (go_wp2;go_ret;exact⟨rfl,Hx.out⟩)
end
section
open Go.Shelf
attribute [local go_sem] k7
def sL (b:Nat) (bs:ad):Asn:=⟨fun C w=>sK b bs C w,fun h=>h.lt,fun h _ hk=>h.local hk⟩
theorem Iu (b:Nat) (bs s:ad) (a:bs.size+s.size≤140737488355328):Fn prog 32 [.pointer (some ⟨b,0,none⟩),.string s] [sL b bs] (fun u:Value=>u) (fun _=>[sL b (bs++s)]):=by
 intro w C hA
 refine (PM b bs s C w (aF.1 hA) a).mono ?_
 rintro e w' ⟨⟨u,rfl⟩,C',h1,h2⟩
 exact⟨u,rfl,C',aF.2 h1,h2⟩
theorem PP (b:Nat) (bs:ad):Fn prog 33 [.pointer (some ⟨b,0,none⟩)] [sL b bs] (fun _:Unit=>.string bs) (fun _=>[]):=by
 intro w C hA
 refine (PO b bs C w (aF.1 hA)).mono ?_
 rintro e w' ⟨rfl,h2⟩
 exact⟨(),rfl,fun _=>False,fun _ h=>h,h2.1,fun k hk=>hk.elim⟩
theorem PQ {b:Nat}:pF (cells b [.pointer none,.slice none 0 0] 68) (sL b ⟨#[]⟩):=by
 intro C w h
 have a:C=fun k=>k=b:=funext fun k=>propext (h.1 k)
 subst a
 exact⟨_,_,_,h.2,.inl rfl,jC.nil,by simp,by funext k;simp⟩
end
end Go.Proofs.YtifpjbgnikjglaaGreatDoor

namespace Go.Proofs
open Go.Shelf
def Tryz.laysNm222_ren:Go.Shelf.Ren:=⟨fun | 22=>72 | 29=>125 | 30=>126 | 36=>156 | 17=>171 | n=>n,fun | 24=>36 | 9=>9 | 3=>3 | 4=>4 | 0=>0 | n=>n,fun | n=>n⟩
theorem yv:Go.Proofs.Lays2.n22 Tryz.prog Tryz.laysNm222_ren:={
 mixed:=by kernel_rfl
 f17:=Tryz.func171.trans (congrArg some (by kernel_rfl))
 f22:=Tryz.func72.trans (congrArg some (by kernel_rfl))
 f29:=Tryz.func125.trans (congrArg some (by kernel_rfl))
 f30:=Tryz.func126.trans (congrArg some (by kernel_rfl))
 f36:=Tryz.func156.trans (congrArg some (by kernel_rfl))
 t0:=Tryz.underlying0
 a0:=Tryz.isAgg0
 z0:=Tryz.sizeOf0
 v0:=Tryz.zeroValue0
 t3:=Tryz.underlying3
 a3:=Tryz.isAgg3
 z3:=Tryz.sizeOf3
 v3:=Tryz.zeroValue3
 t4:=Tryz.underlying4
 a4:=Tryz.isAgg4
 z4:=Tryz.sizeOf4
 v4:=Tryz.zeroValue4
 t9:=Tryz.underlying9
 a9:=Tryz.isAgg9
 z9:=Tryz.sizeOf9
 v9:=Tryz.zeroValue9
 t24:=Tryz.underlying36
 a24:=Tryz.isAgg36
 z24:=Tryz.sizeOf36
 v24:=Tryz.zeroValue36
 i9:=by kernel_rfl }
end Go.Proofs

namespace Go.Proofs.YtifpjbgnikjglaaGreatDoor
open Go.RowKit Go.Lib
open Tryz
set_option linter.unusedVariables false
set_option linter.unusedSimpArgs false
open _root_.Array renaming length_toList→cU
open _root_.Go.Addr renaming add→qa
open _root_.Go.Builtin renaming zeroCells→cy
open _root_.Go.Ending renaming returned→kn
open _root_.Go.Extern.BytealgCompare renaming compare→jp,cmp→rv
open _root_.Go.Extern.Bytes renaming bytesOf→jo
open _root_.Go.Instr renaming sliceAt→gH,sliceBounds→jB
open _root_.Go.Lib renaming bytesOf→ru,compareBytes→bc
open _root_.Go.Proofs.Any2 renaming slices_Insert_string_end_grow→lI
open cJ renaming refl→eo
open Fr renaming refl→oy
open Hd renaming nil→eB
open aO renaming one1→aF,one→qc
open _root_.Go.Result renaming andThen→jn
open _root_.Go.Sem renaming run_bind→ap
open _root_.Go.Value renaming string→af,ownBlock→bT
open _root_.Go.World renaming shape?→nf,frozen?→mb,alloc_heap_new→eV
open _root_.Go.World.ownsRow renaming cells→rm
open _root_.List renaming length_map→az,take_left→ko,length_append→aa,length_singleton→qf,mem_map→aU,length_drop→aS,length_take→bD,append_assoc→aA,take_append_of_le_length→nb,take_take→kJ,getElem?_map→bU
open _root_.Nat renaming le_refl→bq,mul_one→pB,zero_add→cf,min_eq_left→lH
open _root_.Option.some renaming inj→mL
section
open Go.Shelf
def js (xs:List ad) (i:Int) (x:ad):List ad:=xs.take i.toNat++x::xs.drop i.toNat
theorem wy:∀ (vs l:List Value) (j:Nat),j+vs.length≤l.length→qP l j vs=l.take j++vs++l.drop (j+vs.length)
 |[],l,j,h=>by simp[qP]
 |v::vs,l,j,h=>by
  have h:j+(vs.length+1)≤l.length:=h
  have a:=wy vs (l.set j v) (j+1) (by rw[List.length_set];omega)
  show qP (l.set j v) (j+1) vs=_
  have h1:(l.set j v).take (j+1)=l.take j++[v]:=by
   rw[List.take_add_one,List.take_set_of_le (bq _)]
   have:(l.set j v)[j]?=some v:=by rw[List.getElem?_set_self (by omega)]
   rw[this];rfl
  have h2:(l.set j v).drop (j+1+vs.length)=l.drop (j+1+vs.length):=List.drop_set_of_lt (by omega)
  have h3:j+(v::vs).length=j+1+vs.length:=by rw[List.length_cons];omega
  rw[a,h1,h2,h3]
  simp
theorem wz {g:Nat} {e:TypeId}:∀ (vs:List Value) (j:Nat) (l:List Value) (w:World),w.heap[g]?=some (.cells l.toArray e (0,0)) →
  (w.setCells g j vs).heap[g]?=some (.cells (qP l j vs).toArray e (0,0))∧Fr (fun k=>k=g) w (w.setCells g j vs)
 |[],j,l,w,h=>⟨h,oy _ _⟩
 |v::vs,j,l,w,h=>by
  have h1:(w.setCell ⟨g,j,none⟩ v).heap[g]?=some (.cells (l.set j v).toArray e (0,0)):=by
   simp[World.setCell,h,Array.getElem?_modify]
  obtain⟨h2,h3⟩:=wz vs (j+1) (l.set j v) _ h1
  exact⟨h2,((oy (fun k=>k=g) w).setCell (p:=⟨g,j,none⟩) (.inl rfl) v).trans h3⟩
theorem DQ (xs:List ad):xs.flatMap hO=xs.map af:=by
 induction xs with
 |nil=>rfl
 |cons x xs a=>rw[List.flatMap_cons,a];rfl
theorem Iv {e:TypeId} {w:World} {g cap n:Nat} {a:List Value} {ys:List ad} (hg:w.heap[g]?=some (.cells a.toArray e (0,0))) (b:n=ys.length) (hc:n≤cap) (hm:cap≤maxLen) (f:a.length=cap) (ht:a.take n=ys.map af) :
  il hO e 1 (.slice (some ⟨g,0,none⟩) n cap) ys (fun k=>k=g) w:=by
 subst b
 refine⟨⟨by rw[DQ,az,pB],.inr ⟨g,cap,a.toArray,rfl,Nat.zero_le _,hg,hc,hm,by simp[f],?_⟩⟩,?_⟩
 ·rw[DQ,pB];exact ht
 ·funext k;simp[bT];exact eq_comm
theorem DR (cs:List Value) (k:Nat) (x:Value) (hk:k≤cs.length) (a:List Value):(cs.take k++[x]++cs.drop k++a).take (cs.length+1)=cs.take k++x::cs.drop k:=by
 have h1:(cs.take k++[x]++cs.drop k).length=cs.length+1:=by simp;omega
 rw[←h1,ko];simp
theorem A3 (xs:List ad) (k:Nat) (x:ad):(js xs (k:Int) x).map af=(xs.map af).take k++af x::(xs.map af).drop k:=by
 simp[js,List.map_take,List.map_drop]
theorem PR {v:Value} {xs:List ad} {i:Int} {vb:Nat} {x:ad} (h:0≤i∧i≤(xs.length:Int)∧xs.length≤2147483648) :
  Fn prog 72 [v,.int .i64 i,.slice (some ⟨vb,0,none⟩) 1 1] [vec hO 9 1 v xs,cells vb [.string x] 9] (fun r:Value=>r) (fun r=>[vec hO 9 1 r (js xs i x)]):=by
 intro w C hs
 obtain⟨C1,C2,h1,b2,hd,hC⟩:=hs
 have h2:(cells vb [.string x] 9).P C2 w:=aF.1 b2
 have h1:il hO 9 1 v xs C1 w:=h1
 obtain⟨k,rfl⟩:∃k:Nat,i=k:=⟨i.toNat,by omega⟩
 have hk:k≤xs.length:=by omega
 have hb:w.heap[vb]?=some (.cells #[.string x] 9 (0,0)):=h2.2
 have H:∀j u,[af x][j]?=some u→w.cell? ⟨vb,0+j,none⟩=some u:=fun j u hj=>by
  rw[cf]
  exact oY hb (by simpa using hj)
 have T:∀u∈[af x],u.oneCell'=true:=fun u hu=>by rw[List.mem_singleton.1 hu];rfl
 have a9:w.shape? vb=some (9,1):=by simp[nf,hb]
 have a3:∀j,w.frozen? ⟨vb,j,none⟩=false:=fun j=>by simp[mb,hb]
 have b6:=il.lt h1
 have l:(xs.map af).length=xs.length:=az _
 have p:∀ (w':World) (cap:Nat) (f:List Value),w'.heap[w.heap.size]?=some (.cells f.toArray 9 (0,0))→Fr (fun k=>w.heap.size≤k) w w'→w.heap.size<w'.heap.size→xs.length+1≤cap→cap≤maxLen→f.length=cap→f.take (xs.length+1)=(js xs (k:Int) x).map af →
   ∃y:Value,kn (.slice (some ⟨w.heap.size,0,none⟩) (xs.length+1) cap)=.returned y∧∃C',aO [vec hO 9 1 y (js xs (k:Int) x)] C' w'∧cJ C C' w w':=fun w' cap f hg hF hz hn hm hl ht=>by
  have J:xs.length+1=(js xs (k:Int) x).length:=by simp[js];omega
  refine⟨_,rfl,_,qc (A:=vec hO 9 1 _ (js xs (k:Int) x)) (Iv hg J hn hm hl ht),hF.weaken (fun i hi hh=>absurd hi (by omega)),fun j hj=>.inr ⟨by omega,by omega⟩⟩
 rcases h1.shape with⟨rfl,rfl,_⟩|⟨g,cap,rfl,b7,U,a4,ao⟩
 ·obtain rfl:k=0:=by simpa using hk
  refine (lI yv none 0 0 vb 0 1 1 [] [.string x] w (by omega) (by omega) (by omega) (by omega) rfl rfl (fun _=>rfl) (fun a ha=>by cases ha) H T).mono ?_
  rintro e w' ⟨rfl,rfl⟩
  generalize W:grownCap w (0+1) 0 (Tryz.laysNm222_ren.t 9)=G
  have hG:0+1≤G:=W▸grownCap_ge _ _ _ _
  have S:G≤maxLen:=W▸grownCap_le_maxLen _ _ _ _ (by decide)
  have h8:∀n,(cy (af ⟨#[]⟩).cells n).size=n*1:=fun n=>size_zeroCells _ _
  have hA0:(([]++[af x]).toArray++cy (af ⟨#[]⟩).cells (G-(0+1)))=([af x]++(cy (af ⟨#[]⟩).cells (G-(0+1))).toList).toArray:=by simp
  rw[hA0]
  refine p _ _ ([.string x]++(cy (af ⟨#[]⟩).cells (G-(0+1))).toList) (eV w.drew _) (((oy _ w).drew).alloc _) (by simp) hG S ?_ rfl
  simp only[aa,qf,cU,h8]
  omega
 ·obtain⟨b3,b8⟩:=h1
  rcases b3.2 with⟨hv,_⟩|⟨g',a6,f,hv,_,hg,b5,b4,Z,I⟩
  ·cases hv
  obtain⟨rfl,rfl⟩:g=g'∧cap=a6:=by injection hv with a b c;injection a with a;injection a with a;exact⟨a,c⟩
  rw[pB] at Z I
  rw[DQ] at I
  have hg:w.heap[g]?=some (.cells f.toList.toArray 9 (0,0)):=by rw[hg]
  have bh:vb≠g:=fun e=>hd g ((ao▸rfl:C1 g)) ((h2.1 g).2 e.symm)
  have D:f.toList.length=cap:=by simpa using Z
  have O:∀j u,f.toList[j]?=some u→w.cell? ⟨g,0+j,none⟩=some u:=fun j u hj=>by
   rw[cf]
   exact oY hg (by simpa using hj)
  have M:∀j u,(xs.map af)[j]?=some u→w.cell? ⟨g,0+j,none⟩=some u:=fun j u hj=>by
   rw[←I,List.getElem?_take] at hj
   split at hj
   ·exact O j u hj
   ·cases hj
  have a2:∀j,w.frozen? ⟨g,j,none⟩=false:=fun j=>by simp[mb,hg]
  have a1:∀j,j<cap→(w.cell? ⟨g,0+j,none⟩).isSome=true:=fun j hj=>by
   rw[O j (f.toList[j]'(by omega)) (List.getElem?_eq_getElem (by omega))];rfl
  have a8:w.shape? g=some (9,cap):=by simp[nf,hg,Z]
  have V:cap≤9223372036854775807:=by simpa [maxLen] using a4
  have a5:∀u∈xs.map af,u.oneCell'=true:=fun u hu=>by
   obtain⟨y,_,rfl⟩:=aU.1 hu
   rfl
  have E:∀ (w':World) (q:List Value),w'.heap[g]?=some (.cells q.toArray 9 (0,0))→Fr (fun k=>k=g) w w'→xs.length+1≤cap→q.length=cap→q.take (xs.length+1)=(js xs (k:Int) x).map af →
    ∃y:Value,kn (.slice (some ⟨g,0,none⟩) (xs.length+1) cap)=.returned y∧∃C',aO [vec hO 9 1 y (js xs (k:Int) x)] C' w'∧cJ C C' w w':=fun w' q hg hF hn hl ht=>by
   have J:xs.length+1=(js xs (k:Int) x).length:=by simp[js];omega
   refine⟨_,rfl,_,qc (A:=vec hO 9 1 _ (js xs (k:Int) x)) (Iv hg J hn a4 hl ht),hF.weaken (fun i hi hh=>(hC i).2 (.inl (ao▸hh))),fun j hj=>.inl ((hC j).2 (.inl (ao▸hj)))⟩
  by_cases m:xs.length+1≤cap
  ·by_cases X:k=xs.length
   ·subst X
    refine (Any2.slices_Insert_string_end_room yv g 0 xs.length cap vb 0 1 1 [.string x] w (by omega) m V rfl (fun j hj=>by have:=a1 (xs.length+j) (by omega);rwa [←Nat.add_assoc] at this) (fun j hj=>a2 _) H T).mono ?_
    rintro e w' ⟨rfl,rfl⟩
    obtain⟨q1,q2⟩:=wz (g:=g) [.string x] (0+xs.length) f.toList w hg
    refine E _ _ q1 q2 m (by rw[tz];exact D) ?_
    rw[wy _ _ _ (by rw[D];simp;omega),cf,I,A3]
    have h7:=DR (xs.map af) xs.length (.string x) (by rw[l];exact bq _) (f.toList.drop (xs.length+[af x].length))
    rw[l] at h7
    rw[←h7]
    have h6:(xs.map af).take xs.length=xs.map af:=List.take_of_length_le (by rw[l];exact bq _)
    have h5:(xs.map af).drop xs.length=[]:=List.drop_eq_nil_of_le (by rw[l];exact bq _)
    rw[h6,h5,List.append_nil]
   ·refine (Any2.slices_Insert_string_shift yv g 0 xs.length cap k vb 0 1 1 (xs.map af) [.string x] w (by omega) (by omega) m V bh l rfl M (fun j hj=>a1 j (by omega)) (fun j hj=>a2 _) H a5 T 9 9 1 cap a9 a8 (by omega) (a3 0) (a3 1)).mono ?_
    rintro e w' ⟨rfl,rfl⟩
    have bb:w.drew.heap[g]?=some (.cells f.toList.toArray 9 (0,0)):=hg
    obtain⟨q1,q2⟩:=wz (g:=g) ((xs.map af).drop k) (0+(k+1)) f.toList w.drew bb
    obtain⟨q3,q4⟩:=wz (g:=g) [.string x] (0+k) _ _ q1
    refine E _ _ q3 (((oy _ w).drew.trans q2).trans q4) m (by rw[tz,tz];exact D) ?_
    have Y:((xs.map af).drop k).length=xs.length-k:=by rw[aS,l]
    rw[wy _ _ _ (by rw[tz,D];simp;omega),wy _ _ _ (by rw[D,Y];omega),cf,cf,A3]
    have ha:(f.toList.take (k+1)).length=k+1:=by rw[bD,D];omega
    have ag:(f.toList.take (k+1)++(xs.map af).drop k++f.toList.drop (k+1+((xs.map af).drop k).length)).take k=(xs.map af).take k:=by
     rw[aA,nb (by rw[ha];omega),kJ,lH (by omega),←I,kJ,lH (by omega)]
    have bk:(f.toList.take (k+1)++(xs.map af).drop k++f.toList.drop (k+1+((xs.map af).drop k).length)).drop (k+[af x].length)=(xs.map af).drop k++f.toList.drop (k+1+((xs.map af).drop k).length):=by
     rw[aA]
     have:k+[af x].length=(f.toList.take (k+1)).length:=by rw[ha];rfl
     rw[this,List.drop_left]
    rw[ag,bk,←aA,←l]
    exact DR _ _ _ (by rw[l];exact hk) _
  ·by_cases X:k=xs.length
   ·subst X
    refine (lI yv (some ⟨g,0,none⟩) xs.length cap vb 0 1 1 (xs.map af) [.string x] w (by omega) U (by omega) (by omega) l rfl (fun h=>by cases h) (fun a ha j u hj=>by cases ha;rw[Addr.add_lit];exact M j u hj) H T).mono ?_
    rintro e w' ⟨rfl,rfl⟩
    generalize W:grownCap w (xs.length+1) cap (Tryz.laysNm222_ren.t 9)=G
    have hG:xs.length+1≤G:=W▸grownCap_ge _ _ _ _
    have S:G≤maxLen:=W▸grownCap_le_maxLen _ _ _ _ (by simp only[maxLen];omega)
    have h8:∀n,(cy (af ⟨#[]⟩).cells n).size=n*1:=fun n=>size_zeroCells _ _
    have hA0:((xs.map af++[af x]).toArray++cy (af ⟨#[]⟩).cells (G-(xs.length+1)))=(xs.map af++[af x]++(cy (af ⟨#[]⟩).cells (G-(xs.length+1))).toList).toArray:=by simp
    rw[hA0]
    refine p _ _ (xs.map af++[.string x]++(cy (af ⟨#[]⟩).cells (G-(xs.length+1))).toList) (eV w.drew _) (((oy _ w).drew).alloc _) (by simp) hG S ?_ ?_
    ·simp only[aa,qf,cU,h8,l]
     omega
    ·have h6:(xs.map af++[af x]).length=xs.length+1:=by simp
     rw[←h6,ko,A3,←l,List.take_length,List.drop_length]
   ·refine (Any2.slices_Insert_string_grow yv g 0 xs.length cap k vb 0 1 1 (xs.map af) [.string x] w (by omega) (by omega) U (by omega) (by omega) l rfl M H a5 T).mono ?_
    rintro e w' ⟨rfl,rfl⟩
    have h8:∀n,(cy (af ⟨#[]⟩).cells n).size=n*1:=fun n=>size_zeroCells _ _
    generalize W:grownCap w (xs.length+1) cap (Tryz.laysNm222_ren.t 9)=G
    have hG:xs.length+1≤G:=W▸grownCap_ge _ _ _ _
    have S:G≤maxLen:=W▸grownCap_le_maxLen _ _ _ _ (by simp only[maxLen];omega)
    obtain⟨A,hA⟩:∃A:List Value,A=(xs.map af).take k++(cy (af ⟨#[]⟩).cells (xs.length+1-k)).toList++(cy (af ⟨#[]⟩).cells (G-(xs.length+1))).toList:=⟨_,rfl⟩
    have aw:A.length=G:=by
     rw[hA]
     simp only[aa,bD,cU,h8,l]
     omega
    have hA0:(((xs.map af).take k).toArray++cy (af ⟨#[]⟩).cells (xs.length+1-k)++cy (af ⟨#[]⟩).cells (G-(xs.length+1)))=A.toArray:=by rw[hA];simp
    rw[hA0]
    have q0:(w.alloc (.cells A.toArray 9)).drew.heap[w.heap.size]?=some (.cells A.toArray 9 (0,0)):=eV w _
    obtain⟨q1,q2⟩:=wz (g:=w.heap.size) [.string x] k A _ q0
    have a7:(((w.alloc (.cells A.toArray 9)).drew.setCells w.heap.size k [.string x]).drew).heap[w.heap.size]?=some (.cells (qP A k [.string x]).toArray 9 (0,0)):=q1
    obtain⟨q3,q4⟩:=wz (g:=w.heap.size) ((xs.map af).drop k) (k+1) _ _ a7
    have b1:Fr (fun k=>w.heap.size≤k) w (w.alloc (.cells A.toArray 9)).drew:=((oy _ w).alloc _).drew
    have b0:=(b1.trans' (q2.weaken (C':=fun k=>w.heap.size≤k) (fun i _ h=>by omega)) (fun i _ h=>h)).drew.trans' (q4.weaken (C':=fun k=>w.heap.size≤k) (fun i _ h=>by omega)) (fun i _ h=>h)
    have Y:((xs.map af).drop k).length=xs.length-k:=by rw[aS,l]
    refine p _ _ _ q3 b0 (lX q3) hG S (by rw[tz,tz];exact aw) ?_
    have a0:((xs.map af).take k).length=k:=by rw[bD,l];omega
    rw[wy _ _ _ (by rw[tz,aw,Y];omega),wy _ _ _ (by rw[aw];simp;omega),A3]
    have bs:A.take k=(xs.map af).take k:=by
     rw[hA,aA,nb (by rw[a0];exact bq _),kJ,Nat.min_self]
    have ag:(A.take k++[af x]++A.drop (k+[af x].length)).take (k+1)=(xs.map af).take k++[af x]:=by
     have:((xs.map af).take k++[af x]).length=k+1:=by rw[aa,a0];rfl
     rw[bs,←this,ko]
    rw[ag,←l]
    exact DR _ _ _ (by rw[l];exact hk) _
end
section
variable {F:Fence} {P:Program} {w0:World} {K:Nat→Prop} {N:Nat} {dfs:List Deferred} {ops:Array Oper} {Q:Exit→Act→World→Prop} {rest:List Oper} {σ σ':List (Nat×Value)} {L L' R As Bs:List Asn} {o:Oper} {v:Value}
 {d:Nat} {t:TypeId} {op:Op} {ty:TypeId} {pos:String} {aft:Array Edge} {g:Option (Nat×Bool)} {x y z:Operand} {c c1 c2:Code} {k:Nat} {A B:Asn} {RD RD0:List Asn} {e:TypeId} {ex:Exit}
theorem PS {n:Nat} {hd:Hd} {xs:List ad} {M:nY} {i:Nat} (q:aq L [pb n hd xs] R) (hx:n0 n hd xs M) (hi:RD0[i]?=some (pr M)) (l:Rd w0 K RD0) (h:∀w1 m,cJ K m w0 w1→Rd w1 m (RD0++[mo hO 1 hd xs])→TO F P w1 m N dfs ops Q rest σ R):TO F P w0 K N dfs ops Q rest σ L:=by
 intro a w ha p
 obtain⟨C,hL,f⟩:=p
 obtain⟨C1,C2,g1,g2,r,g4⟩:=q C w hL
 have b:cJ K C2 w0 w:=f.sub fun k hk=>(g4 k).2 (.inr hk)
 have h1:=l.ext b
 exact h w C2 b (h1.append (Is hx hi C1 w g1 r h1)) a w ha ⟨C2,g2,eo _ _⟩
theorem PT [bu F] {kk:ad} {M:nY} {p:List (ad×List ad)} {i b:Nat} {mt m n:TypeId} (u:om M=p) (r:P.underlying m=some .string) (ht:P.underlying mt=some (.map m n)) (l:(P.info? n).bind (fun i=>i.zero)=some (.slice none 0 0)) (hg:gd ops σ g=some true) (hd:d<N) (hx:ev σ x=some (.map (some b))) (hy:ev σ y=some (.string kk))
  (hr:Rd w0 K RD) (hi:RD[i]?=some (pM b M))
  (h:∀hd:Hd,(∀xs,zbP kk p=some xs→(xs,hd)∈M.map Prod.snd)→TO F P w0 K N dfs ops Q rest ((d,hd.v)::σ) L) :
  TO F P w0 K N dfs ops Q (⟨some d,.lookup mt x y false,ty,pos,aft,g⟩::rest) σ L:=by
 subst u
 have hb:((zbP kk M).getD ([],eB)).2.v=pK ((zbP kk M).getD ([],eB)):=rfl
 refine rG (k:=i) (M:=M) (z0:=([],eB)) (ev':=pK) (mT r) ht l hg hd hx hy hr hi ?_
 have h1:=h ((zbP kk M).getD ([],eB)).2 (fun xs a=>by
  rw[vX] at a
  cases f:zbP kk M with
  |none=>rw[f] at a;cases a
  |some q=>
   rw[f] at a
   have:q.1=xs:=mL a
   subst this
   exact AA kk q M f)
 rw[hb] at h1
 exact h1
end
section
variable {F:Fence} {P:Program} {w0:World} {K:Nat→Prop} {N:Nat} {dfs:List Deferred} {ops:Array Oper} {Q:Exit→Act→World→Prop} {rest:List Oper} {σ:List (Nat×Value)} {L RD:List Asn}
 {d:Nat} {ty:TypeId} {pos:String} {aft:Array Edge} {g:Option (Nat×Bool)} {s x:Operand} {t e e2:TypeId} {k k2 j size:Nat} {vv v2 v:Value} {α:Type} {enc:α→List Value} {xs ys Ls:List α}
theorem PU {C:Nat→Prop} {w:World} {q:Option Addr} {c n m:Nat} (b:∀x,(enc x).length=size) (h:il enc e size (.slice q m c) xs C w) (hm:n≤m):il enc e size (.slice q n c) (xs.take n) C w:=by
 obtain⟨⟨h1,h2⟩,rfl⟩:=h
 have i:=qM b xs
 have hfn:=qM b (xs.take n)
 rcases h2 with⟨h2,h3⟩|⟨D,cap,f,h2,h3,u,h5,r,p,l⟩
 ·cases h2
  have:xs=[]:=List.length_eq_zero_iff.1 h3
  subst this
  obtain rfl:n=0:=by omega
  exact⟨⟨by simp,.inl ⟨rfl,by simp⟩⟩,rfl⟩
 ·cases h2
  have a:(xs.take n).length=n:=by rw[bD];omega
  refine⟨⟨by rw[hfn],.inr ⟨D,c,f,by rw[a],h3,u,by rw[a];omega,r,p,?_⟩⟩,by funext k;simp[bT]⟩
  rw[a]
  have e1:(xs.take n).flatMap enc=(xs.flatMap enc).take (n*size):=by
   conv=>rhs;rw[←List.take_append_drop n xs,List.flatMap_append]
   rw[List.take_left' (by rw[hfn,a])]
  rw[e1,←l,kJ,lH (Nat.mul_le_mul_right _ hm)]
theorem PV {P:Program} {t e:TypeId} {size:Nat} {q:Option Addr} {m c n:Nat} (ht:P.underlying t=some (.slice e)) (h:bC P e size) (b:q=none∨∃a,q=some ⟨a,0,none⟩) (h1:n≤m) (h2:m≤c) (w:World) :
  (gH t (.slice q m c) none (some (.int .i64 n)) none).run P w=.ok (.slice q n c) w:=by
 obtain⟨f,hu,p⟩:=h.some
 have e1:∀w:World,(jB true m c none (some (.int .i64 n)) none).run P w=.ok (0,n,c) w:=by
  intro w
  have l:n≤c:=by omega
  have i:¬c<n:=by omega
  unfold jB
  simp[ap,Instr.sliceBound,asIntOf,l,i]
 have e2:(if c=0 then q else q.map (·.add (0*f.size)))=q:=by
  rcases b with rfl|⟨a,rfl⟩
  ·split<;>rfl
  ·split
   ·rfl
   ·simp[qa]
 simp only[gH,Instr.slice,ap,run_underlying ht,Result.andThen_ok,e1]
 simp[sizeOf,typeInfo,hu,ap]
 try (rcases b with rfl | ⟨a,rfl⟩<;>simp[qa])
theorem PW [bu F] {n:Int} {hi:Operand} (ht:P.underlying t=some (.slice e)) (G:bC P e size) (f:∀x,(enc x).length=size) (hg:gd ops σ g=some true) (hd:d<N) (D:ev σ s=some vv) (l:ev σ hi=some (.int .i64 n)) (hk:L[k]?=some (vec enc e size vv xs)) (H:0≤n∧n≤(xs.length:Int))
  (h:∀r,TO F P w0 K N dfs ops Q rest ((d,r)::σ) (L.set k (vec enc e size r (xs.take n.toNat)))) :
  TO F P w0 K N dfs ops Q (⟨some d,.slice t s none (some hi) none,ty,pos,aft,g⟩::rest) σ L:=by
 obtain⟨m,rfl⟩:∃m:Nat,n=m:=⟨n.toNat,by omega⟩
 refine oi hg (by simp) fun a w ha u=>?_
 obtain⟨C,i,b⟩:=u.focus hk
 have hm:m≤xs.length:=by omega
 have key:∃q c,vv=.slice q xs.length c∧(q=none∨∃p,q=some ⟨p,0,none⟩)∧xs.length≤c:=by
  rcases il.shape i with⟨h1,h2,_⟩|⟨p,cap,h1,_,h2,_,_⟩
  ·exact⟨none,0,by rw[h1,h2];rfl,.inl rfl,by rw[h2];exact bq _⟩
  ·exact⟨_,cap,h1,.inr ⟨p,rfl⟩,h2⟩
 obtain⟨q,c,rfl,E,hc⟩:=key
 have hr:=PV (P:=P) ht G E hm hc w
 refine⟨.slice q m c,w,?_,h (.slice q m c) _ _ (ha.put hd _) (b _ C w (eo _ _) ?_)⟩
 ·simp only[execOp,ha.ev D,ha.ev l,Option.map_none,Option.map_some,ap,hr];rfl
 ·exact PU f i hm
end

section
open Go.Shelf
theorem jC.load {P:Program} {e:TypeId} {v:Value} {b:ad} {C:Nat→Prop} {w:World} (h:jC e v b C w):(jo v).run P w=.ok b w:=by
 obtain⟨h,-⟩:=h
 rcases h.2 with⟨rfl,h2⟩|⟨g,cap,l,rfl,_,_,_⟩
 ·have hb:b=⟨#[]⟩:=by
   apply _root_.ByteArray.ext;exact Array.eq_empty_of_size_eq_zero h2
  rw[hb];rfl
 ·have m:(strCells b).length=b.size:=by unfold strCells;rw[az,cU];rfl
  have i:b.data.toList.map (fun x:UInt8=>(x.toNat:Int))=b.data.toList.map (fun x:UInt8=>(x.toNat:Int)):=rfl
  generalize hx:b.data.toList.map (fun x:UInt8=>(x.toNat:Int))=xs at i
  have a:xs.length=b.size:=by rw[←hx,az,cU];rfl
  have:=run_loadBytesX (P:=P) w xs ⟨g,0,none⟩ .empty (fun j x hj=>by
   refine rm h rfl j _ ?_
   rw[←hx,bU] at hj
   unfold strCells
   rw[bU]
   cases f:b.data.toList[j]? with
   |none=>rw[f] at hj;cases hj
   |some q=>rw[f] at hj;cases hj;rfl)
  rw[a] at this
  have he:(⟨ByteArray.empty.data++(ru xs).toArray⟩:ad)=b:=by
   apply _root_.ByteArray.ext
   show (#[]:Array UInt8)++(ru xs).toArray=b.data
   rw[←hx]
   unfold ru
   rw[List.map_map]
   have:(fun n:Int=>n.toNat.toUInt8) ∘ (fun x:UInt8=>(x.toNat:Int))=id:=by funext x;simp
   rw[this]
   simp
  rw[he] at this
  exact this
theorem Iw {u v:Value} {e:TypeId} (a b:ad) :
  Fn prog 19 [u,v] [byt e u a,byt e v b] (fun _:Unit=>.int .i64 (bc a.data.toList b.data.toList)) (fun _=>[byt e u a,byt e v b]):=by
 intro w C i
 obtain⟨C1,C2,h1,f,hd,h⟩:=i
 have h2:jC e v b C2 w:=aF.1 f
 have h1:jC e u a C1 w:=h1
 have hr:(jp #[u,v]).run prog w=.ok (.int .i64 (bc a.data.toList b.data.toList)) w:=by
  change Sem.run prog (do pure (goInt (rv (←jo u) (←jo v)))) w=_
  simp only[ap,Sem.run_pure,h1.load,h2.load,jn]
  rw[cmp_eq]
  rfl
 have hf:Calls prog 19 #[u,v] w fun e w'=>e=.returned (.int .i64 (bc a.data.toList b.data.toList))∧w=w':=by
  clear h1 h2 f hd h
  go_enter func19,ntmps19
  go_wp2
  rw[run_callFunc_extern func52 kr kr kr (e:=jp) kr,hr]
  simp only[jn]
  rw[Oper.upon_value]
  go_wp2
  go_ret
  exact⟨rfl,rfl⟩
 refine hf.mono ?_
 rintro l w' ⟨rfl,rfl⟩
 exact⟨(),rfl,C,⟨C1,C2,h1,f,hd,h⟩,eo _ _⟩
section
variable {F:Fence} {P:Program} {w0:World} {K:Nat→Prop} {N:Nat} {dfs:List Deferred} {ops:Array Oper} {Q:Exit→Act→World→Prop} {rest:List Oper} {σ σ':List (Nat×Value)} {L L' R As Bs:List Asn} {o:Oper} {v:Value}
 {d:Nat} {t:TypeId} {op:Op} {ty:TypeId} {pos:String} {aft:Array Edge} {g:Option (Nat×Bool)} {x y z:Operand} {k:Nat}
end
end
section
open Go.Shelf
theorem PX {u v:Value} (a b:ad) :
  Fn prog 20 [u,v] [byt 5 u a,byt 5 v b] (fun _:Unit=>.bool (decide (a=b))) (fun _=>[byt 5 u a,byt 5 v b]):=by
 intro w C i
 obtain⟨C1,C2,h1,f,hd,h⟩:=i
 have h2:jC 5 v b C2 w:=aF.1 f
 have h1:jC 5 u a C1 w:=h1
 have r1:(convert 46 9 u).run prog w=.ok (.string a) w:=h1.conv _ _ underlying46 underlying5 underlying9
 have r2:(convert 46 9 v).run prog w=.ok (.string b) w:=h2.conv _ _ underlying46 underlying5 underlying9
 have hf:Calls prog 20 #[u,v] w fun e w'=>e=.returned (.bool (decide (a=b)))∧w=w':=by
  clear h1 h2 f hd h
  go_enter func20,ntmps20
  go_wp2
  go_ret
  refine⟨?_,rfl⟩
  show kn (Value.bool (a.toList==b.toList))=_
  rw[CH]
 refine hf.mono ?_
 rintro l w' ⟨rfl,rfl⟩
 exact⟨(),rfl,C,⟨C1,C2,h1,f,hd,h⟩,eo _ _⟩
end
def tR (b:ad) (i:Nat) (q:Int):ad:=gj ((lM b).set i q)
theorem Ix (b:ad):∀x∈lM b,U8 x:=by
 intro x hx
 unfold lM at hx
 obtain⟨c,_,rfl⟩:=aU.1 hx
 have:=c.toNat_lt
 exact⟨by omega,by omega⟩
theorem PY {e:TypeId} {v:Value} {b:ad} {i:Nat} {q:Int} (h:U8 q):vec (kV .u8) e 1 v ((lM b).set i q)=byt e v (tR b i q):=by
 unfold tR
 refine uz fun x hx=>?_
 rcases List.mem_or_eq_of_mem_set hx with hx|rfl
 ·exact Ix b x hx
 ·exact h
end Go.Proofs.YtifpjbgnikjglaaGreatDoor
