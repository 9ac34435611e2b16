/-
  Texts laid together: Mp, Ob, Mq, Ro, Op, Ir, Rq, Ms, Tab, Lt, Pcs, Tok, PcW, Cls, ClsW, ClsW2, Vow, RefW, RefW3, Vs, SeqW, RefPcs, Runs, C0, Im, Shf, Ck, Dr, Bytes, Bld, Gr, Shi, In, Ds, Ar, Lr, RefW2. Nothing is assumed.
-/
import Derived.Test.YtifpjbgnikjglaaGreatDoorCollateHeadings1
import Derived.MapKept
import Derived.Test.YtifpjbgnikjglaaGreatDoorProg
import Derived.Shelf.Abstract
import Derived.Shelf.Strings.Builder1
import Derived.Shelf.Strings.Trim
import Derived.Shelf.Small.Utf8
import Derived.Shelf.Small.Strs
import Derived.Shelf.Strings.BuilderF
import Derived.Shelf.Strings.Search1
import Derived.Shelf.Strings.Search2
import Derived.Shelf.Strings.Search3
import Derived.Shelf.LaysM
import Derived.Shelf.Strings.Shaped
import Derived.Shelf.Strings.Prefix
import Derived.Shelf.Strings.Runes
import Derived.Shelf.Strings.AsciiSet
import Derived.Shelf.Unicode.DecodeSlow
import Derived.Lib.AppendStr
import Derived.Laws.IdiomStrings
import Derived.Lib.BufferRead
import Derived.Lib.Builder
import Derived.Outline
import Derived.Lib.UnsafeStr
import Derived.Lib.MakeNoZero
import Derived.Shelf.Spec.SlicesInsert
import Derived.Shelf.Spec.SlicesInsertGrow
set_option maxRecDepth 100000
set_option maxHeartbeats 4000000
namespace Go.Proofs.YtifpjbgnikjglaaGreatDoor
open Go.RowKit Go.Lib
open Tryz
set_option linter.unusedVariables false
set_option linter.unusedSimpArgs false
open _root_.Array renaming length_toList→dJ
open _root_.BitVec renaming ofInt→fM
open _root_.Bool renaming and_eq_true→aN,eq_iff_iff→dL,not_eq_true'→cM,or_eq_true→dy,or_eq_false_iff→bI,and_eq_false_iff→cJ,false_eq_true→bg,not_eq_false'→cK,not_true→dx,not_false→dR,eq_false_iff→s3
open _root_.ByteArray renaming mk→sZ,empty→ad
open _root_.Function renaming comp_def→dA
open _root_.Go.Ending renaming returned→nF
open _root_.Go.Fence renaming wide→bt
open _root_.Go.Instr renaming checkKey→kg,sameBits→kh,findNow→gY,sameNow→kR,findAsking→sY,mapUpdate→tU,keyThatStays→qP,lookup→fG,loadAt→kf,sureAddr→eo
open _root_.Go.MapKept renaming run_getObj_map→cf
open _root_.Go.Op renaming equalIn→fe
open _root_.Go.Oper renaming semAt_some→kU
open _root_.Go.Program renaming cellsOf→rN
open _root_.Go.Proofs.Tryz renaming underlying39→nC,underlying72→kL,underlying81→nE,underlying91→ja,underlying100→qQ,underlying111→qR,underlying123→jO,underlying132→jP,underlying155→jQ
open dH renaming mk'→eX
open cz renaming refl→ed
open Hd renaming nil→eu
open aP renaming one→ke,one1→aQ
open _root_.Go.Result renaming andThen_ok→ci
open _root_.Go.RowKit.Below renaming heap_alloc→fS
open _root_.Go.Sem renaming run_bind→an
open _root_.Go.Value renaming int→aC,agg→bj,string→af
open _root_.Go.World renaming putObj_heap_same→gQ,putObj_heap_other→dC,alloc_heap_new→eU
open _root_.List renaming map_cons→av,range'_succ→tS,range'_zero→tT,map→lG,map_map→bY,length→fu,getElem?_map→bT,getElem?_eq_getElem→aO,mem_of_getElem?→aL,mem_cons→aY,getElem?_eq_some_iff→az,mem_singleton→bl,mem_cons_of_mem→ak,mem_cons_self→aq,not_mem_nil→cX,nil_append→aW,cons_append→bq,drop_drop→fa,eq_nil_of_length_eq_zero→ck,length_pos_iff→cU,take_append_drop→bO,length_append→aa,length_cons→ab,length_nil→aI,map_nil→dW,getD_cons_zero→iw,getD_cons_succ→kS,append_assoc→aB
open _root_.List.cons renaming injEq→fJ
open _root_.Nat renaming add_assoc→fI,add_one_sub_one→rO,zero_mul→od,zero_add→bL,one_mul→jx,mul_one→pi,lt_of_lt_of_le→eF,le_refl→bi
open _root_.Option renaming map_map→iA
open _root_.Option.some renaming inj→mo
open _root_.Prod renaming fst→bv,snd→ew
open _root_.Std.Legacy.Range renaming forIn_eq_forIn_range'→iJ,size→lF
section
open Go.MapKept
def zbO {κ ν:Type} [DecidableEq κ] (k:κ):List (κ×ν)→Option ν
 |[]=>none
 |p::l=>if k=p.1 then some p.2 else zbO k l
def hU {κ ν:Type} [DecidableEq κ] (k:κ) (v:ν):List (κ×ν)→List (κ×ν)
 |[]=>[(k,v)]
 |p::l=>if k=p.1 then (k,v)::l else p::hU k v l
def kY {κ:Type} [DecidableEq κ] (k:κ):List κ→Nat→Option Nat
 |[],_=>none
 |p::l,i=>if k=p then some i else kY k l (i+1)
structure jq (P:Program) (kt:TypeId) {κ:Type} [DecidableEq κ] (ek:κ→Value):Prop where
 check:∀em k (w:World),(kg em 10000 kt (ek k)).run P w=.ok () w
 find:∀ (es:List MapEntry) (ks:List κ) k (w:World),es.map (·.key)=ks.map ek→(Instr.findKey kt (ek k) es).run P w=.ok ((kY k ks 0).map fun i=>(i,((es[i]?).map (·.val)).getD default)) w
 same:∀k,kh 10000 (ek k) (ek k)=true
theorem zW {κ:Type} [DecidableEq κ] (k:κ):∀ (l:List κ) (i:Nat),kY k l (i+1)=(kY k l i).map (· + 1)
 |[],i=>rfl
 |p::l,i=>by unfold kY;split<;>simp[zW k l (i+1)]
theorem Cq {κ:Type} [DecidableEq κ] (k p:κ) (e:MapEntry) (a:List MapEntry) (ks:List κ) (n:Nat) :
  ((kY k (p::ks) 0).map fun i=>(i+n,(((e::a)[i]?).map (·.val)).getD default))=if k=p then some (n,e.val) else (kY k ks 0).map fun i=>(i+(n+1),((a[i]?).map (·.val)).getD default):=by
 have e:kY k (p::ks) 0=if k=p then some 0 else kY k ks (0+1):=rfl
 rw[e]
 split
 ·simp
 ·rw[zW,iA];congr 1;funext i;simp[fI,Nat.add_comm 1 n]
theorem jq.int {P:Program} {kt:TypeId} {a:IntKind} (h:P.underlying kt=some (.int a)):jq P kt (fun n:Int=>aC a n) where
 check:=fun r k w=>run_checkKey h (show IsKey (.int a) (.int a k) by simp[IsKey]) r 9999
 find:=fun f ks k w hk=>run_findKey h (by
  have:∀ (f:List MapEntry) (ks:List Int) (n:Nat),f.map (·.key)=ks.map (fun n:Int=>aC a n)→gY (.int a) (.int a k) f n=some ((kY k ks 0).map fun i=>(i+n,((f[i]?).map (·.val)).getD default)):=by
   intro f
   induction f with
   |nil=>intro ks n h;cases ks with
    |nil=>rfl
    |cons _ _=>simp at h
   |cons e f l=>intro ks n h;cases ks with
    |nil=>simp at h
    |cons p ks=>
     simp only[av,fJ] at h
     rw[Cq]
     have q:kR (.int a) (.int a k) e.key=some (k==p):=by rw[h.1];simp[kR]
     unfold gY
     rw[q]
     by_cases hp:k=p
     ·subst hp;simp
     ·have:(k==p)=false:=by simpa using hp
      rw[this,ap hp];exact l ks (n+1) h.2
  exact this f ks 0 hk)
 same:=fun k=>by simp[kh]
theorem zX {P:Program} {t:TypeId} {a:IntKind} {xs:Array Value} {j:Nat} {v:Value} {w:World} (h:P.underlying t=some (.int a)) (hv:xs[j]?=some v):(part t xs j).run P w=.ok v w:=by
 simp[part,an,run_underlying h,hv,isAgg]
theorem MG {P:Program} {t e:TypeId} {f:IntKind} (ht:P.underlying t=some (.array 2 e)) (he:P.underlying e=some (.int f)) (r:bx P e 1) {a b n l:Int} (w:World) :
  (fe 10000 t (.agg #[.int f a,.int f b]) (.agg #[.int f n,.int f l])).run P w=.ok (a==n&&b==l) w:=by
 obtain⟨i,hi,hsz⟩:=r.some
 have h1:∀ (d:Nat) (x y:Int),(fe (d+1) e (.int f x) (.int f y)).run P w=.ok (x==y) w:=fun d x y=>run_equalIn_int w d e f f x y he
 have p1:∀ (x y:Int),(part e #[.int f x,.int f y] 0).run P w=.ok (.int f x) w:=fun x y=>zX he rfl
 have q:∀ (x y:Int),(part e #[.int f x,.int f y] 1).run P w=.ok (.int f y) w:=fun x y=>zX he rfl
 have hc:P.cellsOf e=1:=by simp[rN,hi,hsz]
 have key:∀d:Nat,(fe (d+1+1) t (.agg #[.int f a,.int f b]) (.agg #[.int f n,.int f l])).run P w=.ok (a==n&&b==l) w:=fun d=>by
  unfold fe
  simp only[an,run_underlying ht,ci,run_sizeOf w hi]
  simp only[iJ,lF,Nat.sub_zero,rO,Nat.div_one,hsz,tS,tT,List.forIn_cons,List.forIn_nil,an,ci,od,bL,jx,p1,q,h1,pi]
  cases h:(a==n)<;>cases h2:(b==l)<;>simp[an,p1,q,h1,h,h2,hc]
 exact key 9998
theorem Cr {P:Program} {kt e:TypeId} {f:IntKind} {κ:Type} [DecidableEq κ] {f0 f1:κ→Int} (q:∀a b:κ,f0 a=f0 b→f1 a=f1 b→a=b)
  (ht:P.underlying kt=some (.array 2 e)) (he:P.underlying e=some (.int f)) (D:bx P e 1):jq P kt (fun p:κ=>bj #[.int f (f0 p),.int f (f1 p)]) where
 check:=fun u k w=>by
  obtain⟨i,hi,hsz⟩:=D.some
  have hc:P.cellsOf e=1:=by simp[rN,hi,hsz]
  have h1:∀ (n:Nat) (x:Int),(kg u (n+1) e (.int f x)).run P w=.ok () w:=fun n x=>run_checkKey he (show IsKey (.int f) (.int f x) by simp[IsKey]) u n
  have p1:∀ (x y:Int),(part e #[.int f x,.int f y] 0).run P w=.ok (.int f x) w:=fun x y=>zX he rfl
  have C:∀ (x y:Int),(part e #[.int f x,.int f y] 1).run P w=.ok (.int f y) w:=fun x y=>zX he rfl
  have key:∀n:Nat,(kg u (n+1+1) kt (.agg #[.int f (f0 k),.int f (f1 k)])).run P w=.ok () w:=fun n=>by
   unfold kg
   simp only[an,run_underlying ht,ci]
   simp only[iJ,lF,Nat.sub_zero,rO,Nat.div_one,tS,tT,List.forIn_cons,List.forIn_nil,an,run_sizeOf w hi,hsz,ci,od,bL,jx,p1,C,h1,pi]
   simp[an,run_sizeOf w hi,hsz,p1,C,h1,hc]
  exact key 9998
 find:=fun l ks k w hk=>by
  have hA:∀ (l:List MapEntry) (ks:List κ) (n:Nat),l.map (·.key)=ks.map (fun p:κ=>bj #[.int f (f0 p),.int f (f1 p)])→(sY kt (.agg #[.int f (f0 k),.int f (f1 k)]) l n).run P w=.ok ((kY k ks 0).map fun i=>(i+n,((l[i]?).map (·.val)).getD default)) w:=by
   intro l
   induction l with
   |nil=>intro ks n h;cases ks with
    |nil=>rfl
    |cons _ _=>simp at h
   |cons E l G=>intro ks n h;cases ks with
    |nil=>simp at h
    |cons p ks=>
     simp only[av,fJ] at h
     rw[Cq]
     unfold sY
     rw[h.1]
     have r:(Op.equal kt (.agg #[.int f (f0 k),.int f (f1 k)]) (.agg #[.int f (f0 p),.int f (f1 p)])).run P w=.ok (f0 k==f0 p&&f1 k==f1 p) w:=MG ht he D w
     simp only[an,r,ci]
     by_cases hp:k=p
     ·subst hp;simp
     ·have:(f0 k==f0 p&&f1 k==f1 p)=false:=by
       cases h':(f0 k==f0 p&&f1 k==f1 p) with
       |false=>rfl
       |true=>simp at h';exact absurd (q _ _ h'.1 h'.2) hp
      rw[this,ap hp];exact G ks (n+1) h.2
  have hA:=hA l ks 0 hk
  unfold Instr.findKey
  simp only[an,run_underlying ht,ci]
  cases l with
  |nil=>cases ks with
   |nil=>rfl
   |cons _ _=>simp at hk
  |cons E l=>cases ks with
   |nil=>simp at hk
   |cons p ks=>
    simp only[av,fJ] at hk
    have:gY (.array 2 e) (.agg #[.int f (f0 k),.int f (f1 k)]) (E::l) 0=none:=by
     unfold gY;rw[hk.1];rfl
    rw[this];exact hA
 same:=fun k=>by simp[kh]
def cG {κ ν:Type} (ek:κ→Value) (ev:ν→Value) (b:Nat) (L:List (κ×ν)):Asn :=
 xf fun z:{z:Array MapEntry×Nat // z.1.toList.map (fun e=>(e.key,e.val))=L.map (fun p=>(ek p.1,ev p.2))}=>obj b (.map z.1.1 z.1.2)
theorem xt {κ ν:Type} [DecidableEq κ] (k:κ):∀ (L:List (κ×ν)),((kY k (L.map bv) 0).bind fun i=>(L[i]?).map ew)=zbO k L
 |[]=>rfl
 |p::L=>by
  have e:kY k ((p::L).map bv) 0=if k=p.1 then some 0 else kY k (L.map bv) (0+1):=rfl
  rw[e];unfold zbO
  split
  ·simp
  ·rw[zW,←xt k L];cases kY k (L.map bv) 0<;>simp
theorem vy {κ:Type} [DecidableEq κ] (k:κ):∀ (L:List κ) (i n:Nat),kY k L i=some n→i≤n∧n<i+L.length∧L[n-i]?=some k
 |[],i,n,h=>by cases h
 |p::L,i,n,h=>by
  unfold kY at h
  split at h
  ·rename_i hp;cases h;subst hp;simp
  ·obtain⟨h1,h2,h3⟩:=vy k L (i+1) n h
   refine⟨by omega,by simp;omega,?_⟩
   rw[show n-i=(n-(i+1))+1 by omega];simpa using h3
theorem Gm {κ ν:Type} [DecidableEq κ] (k:κ) (v:ν):∀ (L:List (κ×ν)),hU k v L=match kY k (L.map bv) 0 with | some i=>L.set i (k,v) | none=>L++[(k,v)]
 |[]=>rfl
 |p::L=>by
  have e:kY k ((p::L).map bv) 0=if k=p.1 then some 0 else kY k (L.map bv) (0+1):=rfl
  rw[e];unfold hU
  by_cases h:k=p.1
  ·rw[ax h,ax h];rfl
  ·rw[ap h,ap h,zW,Gm k v L];cases kY k (L.map bv) 0<;>rfl
section
variable {F:Fence} {P:Program} {w0:World} {K:Nat→Prop} {N:Nat} {dfs:List Deferred} {ops:Array Oper} {Q:Exit→Act→World→Prop} {rest:List Oper} {σ:List (Nat×Value)} {L:List Asn}
 {d:Nat} {ty:TypeId} {pos:String} {aft:Array Edge} {g:Option (Nat×Bool)} {x y z:Operand} {k b:Nat} {κ ν:Type} [DecidableEq κ] {ek:κ→Value} {ev':ν→Value} {mt kt et:TypeId} {M:List (κ×ν)}
omit [DecidableEq κ] in
theorem vz [br F] (ek:κ→Value) (ev':ν→Value) (hg:gd ops σ g=some true) (hd:d<N)
  (h:∀b,TO F P w0 K N dfs ops Q rest ((d,.map (some b))::σ) (L++[cG ek ev' b []])):TO F P w0 K N dfs ops Q (⟨some d,.makeMap mt none,ty,pos,aft,g⟩::rest) σ L :=
 nS hg (by simp) fun a w ha f=>⟨.map (some w.heap.size),w.alloc (.map #[] 0),by simp[execOp,Instr.makeMap,an],h _ _ _ (ha.put hd _) (by
  have h1:=f.alloc (.map #[] 0)
  have h2:=h1.ent (k:=L.length) (A:=obj w.heap.size (.map #[] 0)) (B:=cG ek ev' w.heap.size []) (by simp) (fun C w' hp=>⟨⟨(#[],0),rfl⟩,hp⟩)
  simpa using h2)⟩
theorem vA [br F] {kk:κ} {vv:ν} (I:jq P kt ek) (ht:P.underlying mt=some (.map kt et)) (hg:gd ops σ g=some true) (hx:ev σ x=some (.map (some b))) (hy:ev σ y=some (ek kk)) (hz:ev σ z=some (ev' vv))
  (hk:L[k]?=some (cG ek ev' b M)) (h:TO F P w0 K N dfs ops Q rest σ (L.set k (cG ek ev' b (hU kk vv M)))):TO F P w0 K N dfs ops Q (⟨none,.mapUpdate mt x y z,ty,pos,aft,g⟩::rest) σ L :=
 zE hg (by simp) fun a w ha X=>by
  obtain⟨C1,⟨⟨⟨q,f⟩,u⟩,U,hb⟩,D⟩:=X.focus hk
  have hb:w.heap[b]?=some (.map q f):=hb
  have u:q.toList.map (fun e=>(e.key,e.val))=M.map (fun p=>(ek p.1,ev' p.2)):=u
  have C:q.toList.map (·.key)=(M.map bv).map ek:=by
   have:=aH (lG bv) u
   simpa [bY,dA] using this
  have n:=I.find q.toList (M.map bv) kk w C
  have r:=Gm kk vv M
  have T:q.toList.length=M.length:=by have:=aH fu u;simpa using this
  have H:∀J:Obj,(∀C' w',(∀k,C' k↔k=b)→w'.heap[b]?=some J→(cG ek ev' b (hU kk vv M)).P C' w')→Holds w0 K (L.set k (cG ek ev' b (hU kk vv M))) (w.putObj b J):=fun J Y=>
   D _ C1 _ ⟨(Fr.refl _ _).putObj (.inl ((U b).2 rfl)) _,fun k hk=>.inl hk⟩ (Y _ _ U (gQ (kW hb)))
  have ex:=ha.ev hx;have W:=ha.ev hy;have V:=ha.ev hz
  cases hi:kY kk (M.map bv) 0 with
  |none=>
   rw[hi] at n r
   refine⟨w.putObj b (.map (q.push { key:=ek kk,val:=ev' vv,born:=f }) (f+1)),?_,h _ _ ha (H _ fun C' w' h1 h2=>⟨⟨(_,_),?_⟩,h1,h2⟩)⟩
   ·simp[execOp,ex,W,V,tU,run_underlying ht,cf hb,I.check,n,run_setObj_map _ hb,an,World.putObj]
   ·simp[r,u]
  |some i=>
   rw[hi] at n r
   obtain⟨_,h2,h3⟩:=vy kk _ _ _ hi
   simp at h2
   have h3:(M.map bv)[i]?=some kk:=by simpa using h3
   have S:i<q.toList.length:=by omega
   have E:(q[i]?).map (·.key)=some (ek kk):=by
    have:=aH (fun l=>l[i]?) C
    simp only[bT] at this
    rw[show q[i]?=q.toList[i]? by simp,this]
    have Z:M[i]?.map bv=some kk:=by simpa using h3
    rw[Z];rfl
   refine⟨w.putObj b (.map (q.modify i fun e=>{ e with key:=ek kk,val:=ev' vv }) f),?_,h _ _ ha (H _ fun C' w' h1 h2=>⟨⟨(q.modify i fun e=>{ e with key:=ek kk,val:=ev' vv },f),?_⟩,h1,h2⟩)⟩
   ·have O:(qP (ek kk) (ek kk)).run P w=.ok (ek kk) w:=by simp[qP,I.same]
    simp[execOp,ex,W,V,tU,run_underlying ht,cf hb,I.check,n,E,O,run_setObj_map _ hb,an,World.putObj]
   ·show lG (fun e=>(e.key,e.val)) (q.modify i fun e=>{ e with key:=ek kk,val:=ev' vv }).toList=_
    rw[r]
    apply List.ext_getElem?
    intro j
    have hj:=aH (fun l=>l[j]?) u
    simp only[bT] at hj
    simp only[Array.toList_modify,bT,List.getElem?_modify,List.getElem?_set]
    by_cases G:i=j
    ·subst G
     have h5:q.toList[i]?=some q.toList[i]:=aO S
     simp[h5,show i<M.length by omega]
    ·simp[G];simpa using hj
theorem zkQ [br F] {kk:κ} {z0:ν} (H:jq P kt ek) (ht:P.underlying mt=some (.map kt et)) (n:(P.info? et).bind (fun i=>i.zero)=some (ev' z0)) (hg:gd ops σ g=some true) (hd:d<N) (hx:ev σ x=some (.map (some b))) (hy:ev σ y=some (ek kk))
  (hk:L[k]?=some (cG ek ev' b M)) (h:TO F P w0 K N dfs ops Q rest ((d,.tuple #[ev' ((zbO kk M).getD z0),.bool (zbO kk M).isSome])::σ) L):TO F P w0 K N dfs ops Q (⟨some d,.lookup mt x y true,ty,pos,aft,g⟩::rest) σ L :=
 jl hg hd (by simp) (fun a w ha S=>by
  obtain⟨C1,⟨⟨⟨D,C⟩,q⟩,T,hb⟩,I⟩:=S.focus hk
  have hb:w.heap[b]?=some (.map D C):=hb
  have q:D.toList.map (fun e=>(e.key,e.val))=M.map (fun p=>(ek p.1,ev' p.2)):=q
  have u:D.toList.map (·.key)=(M.map bv).map ek:=by
   have:=aH (lG bv) q
   simpa [bY,dA] using this
  have f:=H.find D.toList (M.map bv) kk w u
  have ex:=ha.ev hx;have O:=ha.ev hy
  have r:(zeroValue et).run P w=.ok (ev' z0) w:=by
   cases hi:P.info? et with
   |none=>rw[hi] at n;cases n
   |some i=>
    rw[hi] at n
    have E:i.zero=some (ev' z0):=n
    simp[zeroValue,typeInfo,hi,E,an]
  rw[←xt kk M]
  cases hi:kY kk (M.map bv) 0 with
  |none=>
   rw[hi] at f
   simp[execOp,ex,O,fG,run_underlying ht,cf hb,H.check,f,r,an]
  |some i=>
   rw[hi] at f
   obtain⟨_,h2,h3⟩:=vy kk _ _ _ hi
   simp at h2
   have hj:=aH (fun l=>(l[i]?).map ew) q
   simp only[bT,iA,dA] at hj
   have J:M[i]?=some M[i]:=aO h2
   have hv:(D.toList[i]?).map (·.val)=some (ev' M[i].2):=by rw[hj,J];rfl
   have G:(D[i]?).map (·.val)=some (ev' M[i].2):=by simpa using hv
   simp[execOp,ex,O,fG,run_underlying ht,cf hb,H.check,f,G,J,an]) h
end
end
def Rd (w:World) (K:Nat→Prop) (RD:List Asn):Prop:=∀A∈RD,∃C,A.P C w∧∀k,C k→¬K k
theorem Rd.nil {w:World} {K:Nat→Prop}:Rd w K []:=fun A h=>by cases h
theorem Rd.ext {w0 w:World} {K C:Nat→Prop} {RD:List Asn} (h:Rd w0 K RD) (hx:cz K C w0 w):Rd w C RD:=fun A hA=>by
 obtain⟨D,h1,h2⟩:=h A hA
 have a:=A.lt h1
 refine⟨D,A.loc h1 hx.1.size (fun k hk=>hx.1.keep k (a k hk) (h2 k hk)),fun k hk hc=>?_⟩
 rcases hx.2 k hc with h|h
 ·exact h2 k hk h
 ·have:=a k hk;omega
theorem Rd.append {w:World} {K:Nat→Prop} {A B:List Asn} (h1:Rd w K A) (h2:Rd w K B):Rd w K (A++B):=fun X a=>by
 rcases List.mem_append.1 a with h|h
 ·exact h1 X h
 ·exact h2 X h
theorem Rd.at {w0 w:World} {K:Nat→Prop} {L RD:List Asn} {A:Asn} {i:Nat} (h:Rd w0 K RD) (a:Holds w0 K L w) (hi:RD[i]?=some A):∃C,A.P C w:=by
 obtain⟨C,_,hx⟩:=a
 obtain⟨D,h1,_⟩:=h.ext hx A (aL hi)
 exact⟨D,h1⟩
theorem Rd.more {w:World} {K:Nat→Prop} {RD As:List Asn} {A:Asn} {i:Nat} (h:Rd w K RD) (hi:RD[i]?=some A) (a:∀C,A.P C w→∀B∈As,∃D,B.P D w∧∀k,D k→C k):Rd w K (RD++As):=by
 refine h.append fun B hB=>?_
 obtain⟨C,h1,h2⟩:=h A (aL hi)
 obtain⟨D,h3,f⟩:=a C h1 B hB
 exact⟨D,h3,fun k hk=>h2 k (f k hk)⟩
inductive o0 (R RD0:List Asn):List Asn→Prop
 |nil:o0 R RD0 []
 |own {A:Asn} {As R' RD:List Asn} (hs:am R As R') (hE:∀C w,aP As C w→A.P C w) (h:o0 R RD0 RD):o0 R RD0 (A::RD)
 |ro {A:Asn} {RD:List Asn} (i:Nat) (hi:RD0[i]?=some A) (h:o0 R RD0 RD):o0 R RD0 (A::RD)
theorem o0.rd {w0 w:World} {K C1 C2:Nat→Prop} {R RD0 RD:List Asn} (h:o0 R RD0 RD) (f:aP R C2 w) (hd:∀k,C1 k→¬C2 k) (h0:Rd w C1 RD0):Rd w C1 RD:=by
 induction h with
 |nil=>exact Rd.nil
 |@own A As R' RD hs hE h ih=>
  intro B hB
  rcases aY.1 hB with rfl|hB
  ·obtain⟨a,r,l,q,n,g4⟩:=hs C2 w f
   exact⟨a,hE a w l,fun k hk hc=>hd k hc ((g4 k).2 (.inl hk))⟩
  ·exact ih B hB
 |@ro A RD i hi h ih=>
  intro B hB
  rcases aY.1 hB with rfl|hB
  ·exact h0 _ (aL hi)
  ·exact ih B hB
def iu (P:Program) (f:FuncId) (vs:List Value) (RD As:List Asn) {β:Type} (V:β→Value) (Bs:β→List Asn):Prop :=
 ∀w C,Rd w C RD→w8 P f vs As V Bs w C
section
variable {F:Fence} {P:Program} {w0:World} {K:Nat→Prop} {N:Nat} {dfs:List Deferred} {ops:Array Oper} {Q:Exit→Act→World→Prop} {rest:List Oper} {σ σ':List (Nat×Value)} {L L' R As Bs:List Asn} {o:Oper} {v:Value}
 {d:Nat} {t:TypeId} {op:Op} {ty:TypeId} {pos:String} {aft:Array Edge} {g:Option (Nat×Bool)} {x y z:Operand} {c c1 c2:Code} {k:Nat} {A B:Asn} {RO:List (Nat×Obj)} {RD RD0:List Asn} {e:TypeId} {ex:Exit}
theorem iu.intro {f:FuncId} {fn:Func} {vs:List Value} {β:Type} {V:β→Value} {Bs:β→List Asn} (hf:P.funcs[f]?=some fn) (hb:fn.body=some c) (a:fn.ntmps=N) (n:vs.length≤N)
  (h:∀w0 K,Rd w0 K RD→TC bt P w0 K N [] (bodyPostM bt 0 P fn (FR P V Bs w0 K)) c (rV vs) As):iu P f vs RD As V Bs :=
 fun w C l=>w8.intro hf hb a n (h w C l)
theorem Gn [br F] {xs:List Operand} {q:Array TypeId} {f:FuncId} {first cap:Array Value} {vs l:List Value} {β:Type} {V:β→Value} {Bs:β→List Asn} {dst:Option Nat} (G:Rd w0 K RD0)
  (hg:gd ops σ g=some true) (hx:ev σ x=some (.func (.func f) first cap)) (C:evL σ xs=some vs) (hv:first.toList++vs++cap.toList=l)
  (r:∀args w,(callFunc f args).run P w=.ok (.enter f args) w) (S:iu P f l RD As V Bs) (J:am L As R) (O:o0 R RD0 RD)
  (h:∀b a w H,H=a.put dst (V b)→At N dfs σ a→Holds w0 K (R++Bs b) w→wpListIn F 0 P ops Q rest H w) :
  TO F P w0 K N dfs ops Q (⟨dst,.call { callee:=.value x,args:=xs.toArray,argTypes:=q },ty,pos,aft,g⟩::rest) σ L:=by
 intro a w ha I
 simp only[wpListIn,tX (o:=⟨dst,.call { callee:=.value x,args:=xs.toArray,argTypes:=q },ty,pos,aft,g⟩) ha hg,if_true]
 refine⟨fun f _=>br.fn f,?_⟩
 have h1:(execOp a.eval ⟨dst,.call { callee:=.value x,args:=xs.toArray,argTypes:=q },ty,pos,aft,g⟩).run P w=.ok (.enter f l.toArray) w:=by
  have e:first++vs.toArray++cap=l.toArray:=by rw[←hv];simp
  simp only[execOp,resolve,List.map_toArray,ha.evL C,ha.ev hx,Deferred.ofValue,an,Sem.run_pure,ci,invoke,e,r]
 rw[Oper.semAt_plain F _ _ (by simp),h1]
 refine⟨(fun h=>by rw[br.depth (F:=F)] at h;cases h),?_⟩
 obtain⟨C1,C2,hA,U,T,D,n⟩:=I.split2 J
 have u:Rd w C1 RD0:=G.ext D
 refine br.calls ((S w C1 (O.rd (w0:=w0) (K:=K) U T u) hA).mono ?_)
 rintro e w' ⟨b,rfl,C',hB,E⟩
 exact h b a w' _ rfl ha (n _ _ _ E hB)
theorem zlS [br F] {xs:List Operand} {C:Array TypeId} {f:FuncId} {first cap:Array Value} {vs l:List Value} {β:Type} {V:β→Value} {Bs:β→List Asn} (u:Rd w0 K RD0)
  (hg:gd ops σ g=some true) (hd:d<N) (hx:ev σ x=some (.func (.func f) first cap)) (q:evL σ xs=some vs) (hv:first.toList++vs++cap.toList=l)
  (n:∀args w,(callFunc f args).run P w=.ok (.enter f args) w) (H:iu P f l RD As V Bs) (E:am L As R) (G:o0 R RD0 RD)
  (h:∀b,TO F P w0 K N dfs ops Q rest ((d,V b)::σ) (R++Bs b)) :
  TO F P w0 K N dfs ops Q (⟨some d,.call { callee:=.value x,args:=xs.toArray,argTypes:=C },ty,pos,aft,g⟩::rest) σ L :=
 Gn u hg hx q hv n H E G fun b a w I r ha D=>by subst r;exact h b _ _ (ha.put hd _) D
theorem kZ [br F] {xs:List Operand} {C:Array TypeId} {f:FuncId} {first cap:Array Value} {vs l:List Value} (u:Rd w0 K RD0)
  (hg:gd ops σ g=some true) (hd:d<N) (hx:ev σ x=some (.func (.func f) first cap)) (q:evL σ xs=some vs) (hv:first.toList++vs++cap.toList=l)
  (n:∀args w,(callFunc f args).run P w=.ok (.enter f args) w) (G:iu P f l RD [] (fun _:Unit=>v) (fun _=>[])) (E:o0 L RD0 RD)
  (h:TO F P w0 K N dfs ops Q rest ((d,v)::σ) L) :
  TO F P w0 K N dfs ops Q (⟨some d,.call { callee:=.value x,args:=xs.toArray,argTypes:=C },ty,pos,aft,g⟩::rest) σ L :=
 Gn u hg hx q hv n G am.nil E fun b a w H r ha D=>by
  subst r
  rw[List.append_nil] at D
  exact h _ _ (ha.put hd _) D
section
variable {i:Nat}
theorem zd3 [br F] {b j:Nat} {l:List Value} {e:TypeId} (hr:Rd w0 K RD) (hi:RD[i]?=some (cells b l e)) (q:lh P t) (hg:gd ops σ g=some true) (hd:d<N) (hx:ev σ x=some (.pointer (some ⟨b,j,none⟩))) (hj:l[j]?=some v)
  (h:TO F P w0 K N dfs ops Q rest ((d,v)::σ) L):TO F P w0 K N dfs ops Q (⟨some d,.load t x,ty,pos,aft,g⟩::rest) σ L:=by
 obtain⟨dd,hu,f⟩:=q
 exact jl hg hd (by simp) (fun a w ha n=>by
  obtain⟨C,r⟩:=hr.at n hi
  have hc:w.cell? ⟨b,j,none⟩=some v:=oD r.2 (by simpa using hj)
  cases dd<;>simp_all [execOp,ha.ev hx,kf,eo,loadVar,isAgg,an,run_underlying hu]) h
variable {α:Type} {enc:α→List Value} {size:Nat} {vv:Value} {xs:List α}
theorem Gp {w:World} {C:Nat→Prop} (h:(vec enc e size vv xs).P C w):Vw vv xs size 0 vv xs:=by
 have f:Holds w (fun _=>False) [vec enc e size vv xs] w→Vw vv xs size 0 vv xs:=fun a=>zR (k:=0) a rfl
 have:Holds w C [vec enc e size vv xs] w:=⟨C,ke h,ed _ _⟩
 exact zR (k:=0) this rfl
theorem Rd.vw {w:World} (hr:Rd w K RD) (hi:RD[i]?=some (vec enc e size vv xs)):Vw vv xs size 0 vv xs:=by
 obtain⟨C,a,_⟩:=hr _ (aL hi)
 exact Gp a
theorem zY [br F] {n j off:Nat} {q:α} (hr:Rd w0 K RD) (hi:RD[i]?=some (vec enc e size vv xs)) (D:lh P t) (hz:∀x,(enc x).length=size) (hg:gd ops σ g=some true) (hd:d<N) (hx:ev σ x=some (.pointer (some ⟨gn vv,off,none⟩)))
  (r:xs[n]?=some q) (u:off=n*size+j) (hj:j<size) (hv:(enc q)[j]?=some v) (h:TO F P w0 K N dfs ops Q rest ((d,v)::σ) L) :
  TO F P w0 K N dfs ops Q (⟨some d,.load t x,ty,pos,aft,g⟩::rest) σ L:=by
 subst u
 obtain⟨dd,hu,l⟩:=D
 refine jl hg hd (by simp) (fun a w ha f=>?_) h
 obtain⟨C,E⟩:=hr.at f hi
 have hV:gZ enc e size vv xs C w:=E
 have hc:=hV.cellAt hz r hj hv
 have h1:=ha.ev hx
 cases dd<;>simp_all [execOp,kf,eo,loadVar,isAgg,an,run_underlying hu]
end
end
section
variable {α η:Type} {enc:α×η→List Value} {nest:α×η→List Asn} {t:TypeId} {p:Value} {x:α}
def jA (enc:α×η→List Value) (nest:α×η→List Asn) (t:TypeId) (p:Value):Option α→Asn
 |none=>zDG (p=.pointer none)
 |some x=>xf fun a:Nat×η=>zhW (zDG (p=.pointer (some ⟨a.1,0,none⟩))::cells a.1 (enc (x,a.2)) t::nest (x,a.2))
theorem nV {q:Prop} {L:List Asn} {C:Nat→Prop} {w:World}:aP (zDG q::L) C w↔q∧aP L C w:=by
 constructor
 ·rintro⟨C1,C2,⟨h1,a⟩,h2,h3,f⟩
  have:C=C2:=funext fun k=>propext ⟨fun h=>((f k).1 h).resolve_left (h1 k),fun h=>(f k).2 (.inr h)⟩
  subst this
  exact⟨a,h2⟩
 ·rintro⟨a,h⟩
  exact⟨fun _=>False,C,⟨fun _ h=>h,a⟩,h,fun _ h=>h.elim,fun k=>by simp⟩
theorem k5 {C:Nat→Prop} {w:World}:(jA enc nest t p (some x)).P C w↔∃b h,p=.pointer (some ⟨b,0,none⟩)∧aP (cells b (enc (x,h)) t::nest (x,h)) C w:=by
 constructor
 ·rintro⟨⟨b,h⟩,a⟩
  obtain⟨h1,h2⟩:=nV.1 a
  exact⟨b,h,h1,h2⟩
 ·rintro⟨b,h,h1,h2⟩
  exact⟨⟨b,h⟩,nV.2 ⟨h1,h2⟩⟩
theorem MH {b:Nat} {hd:η} {w:World} {C:Nat→Prop} (h:aP (cells b (enc (x,hd)) t::nest (x,hd)) C w):(jA enc nest t (.pointer (some ⟨b,0,none⟩)) (some x)).P C w:=k5.2 ⟨b,hd,rfl,h⟩
theorem Gq {b:Nat} {hd:η}:mB (cells b (enc (x,hd)) t::nest (x,hd)) (fun _:Unit=>[jA enc nest t (.pointer (some ⟨b,0,none⟩)) (some x)]) (fun _=>True):=fun C w h=>⟨(),trivial,aQ.2 (MH h)⟩
theorem MI {m:Option α} {C:Nat→Prop} {w:World} (h:(jA enc nest t p m).P C w):(m=none∧p=.pointer none)∨(∃x b,m=some x∧p=.pointer (some ⟨b,0,none⟩)):=by
 cases m with
 |none=>exact .inl ⟨rfl,h.2⟩
 |some x=>obtain⟨b,_,h2,_⟩:=k5.1 h;exact .inr ⟨x,b,rfl,h2⟩
end
section
open Go.MapKept
theorem Gs (a b:ae):(a==b)=decide (a=b):=by
 cases a with|mk x=>cases b with|mk y=>
 show (x==y)=_
 by_cases h:x=y
 ·subst h;simp
 ·have:¬(sZ x=sZ y):=fun e=>h (by cases e;rfl)
  rw[aj this];exact aA.2 h
theorem mC {P:Program} {kt:TypeId} (h:P.underlying kt=some .string):jq P kt (fun s:ae=>af s) where
 check:=fun q k w=>run_checkKey h (show IsKey .string (.string k) by simp[IsKey]) q 9999
 find:=fun a ks k w hk=>run_findKey h (by
  have:∀ (a:List MapEntry) (ks:List ae) (n:Nat),a.map (·.key)=ks.map (fun s:ae=>af s)→gY .string (.string k) a n=some ((kY k ks 0).map fun i=>(i+n,((a[i]?).map (·.val)).getD default)):=by
   intro a
   induction a with
   |nil=>intro ks n h;cases ks with
    |nil=>rfl
    |cons _ _=>simp at h
   |cons e a f=>intro ks n h;cases ks with
    |nil=>simp at h
    |cons p ks=>
     simp only[av,fJ] at h
     rw[Cq]
     have l:kR .string (.string k) e.key=some (decide (k=p)):=by rw[h.1];simp[kR,Gs]
     unfold gY
     rw[l]
     by_cases hp:k=p
     ·subst hp;simp
     ·rw[aj hp,ap hp];exact f ks (n+1) h.2
  exact this a ks 0 hk)
 same:=fun k=>by simp[kh,Gs]
section
variable {F:Fence} {P:Program} {w0:World} {K:Nat→Prop} {N:Nat} {dfs:List Deferred} {ops:Array Oper} {Q:Exit→Act→World→Prop} {rest:List Oper} {σ:List (Nat×Value)} {L RD:List Asn}
 {d:Nat} {ty:TypeId} {pos:String} {aft:Array Edge} {g:Option (Nat×Bool)} {x y z:Operand} {k b:Nat} {κ ν:Type} [DecidableEq κ] {ek:κ→Value} {ev':ν→Value} {mt kt et:TypeId} {M:List (κ×ν)}
theorem Gt [br F] {kk:κ} {z0:ν} (H:jq P kt ek) (ht:P.underlying mt=some (.map kt et)) (n:(P.info? et).bind (fun i=>i.zero)=some (ev' z0)) (hg:gd ops σ g=some true) (hd:d<N) (hx:ev σ x=some (.map (some b))) (hy:ev σ y=some (ek kk))
  (hk:L[k]?=some (cG ek ev' b M)) (h:TO F P w0 K N dfs ops Q rest ((d,ev' ((zbO kk M).getD z0))::σ) L):TO F P w0 K N dfs ops Q (⟨some d,.lookup mt x y false,ty,pos,aft,g⟩::rest) σ L :=
 jl hg hd (by simp) (fun a w ha S=>by
  obtain⟨C1,⟨⟨⟨D,C⟩,q⟩,T,hb⟩,I⟩:=S.focus hk
  have hb:w.heap[b]?=some (.map D C):=hb
  have q:D.toList.map (fun e=>(e.key,e.val))=M.map (fun p=>(ek p.1,ev' p.2)):=q
  have u:D.toList.map (·.key)=(M.map bv).map ek:=by
   have:=aH (lG bv) q
   simpa [bY,dA] using this
  have f:=H.find D.toList (M.map bv) kk w u
  have ex:=ha.ev hx;have O:=ha.ev hy
  have r:(zeroValue et).run P w=.ok (ev' z0) w:=by
   cases hi:P.info? et with
   |none=>rw[hi] at n;cases n
   |some i=>
    rw[hi] at n
    have E:i.zero=some (ev' z0):=n
    simp[zeroValue,typeInfo,hi,E,an]
  rw[←xt kk M]
  cases hi:kY kk (M.map bv) 0 with
  |none=>
   rw[hi] at f
   simp[execOp,ex,O,fG,run_underlying ht,cf hb,H.check,f,r,an]
  |some i=>
   rw[hi] at f
   obtain⟨_,h2,h3⟩:=vy kk _ _ _ hi
   simp at h2
   have hj:=aH (fun l=>(l[i]?).map ew) q
   simp only[bT,iA,dA] at hj
   have J:M[i]?=some M[i]:=aO h2
   have hv:(D.toList[i]?).map (·.val)=some (ev' M[i].2):=by rw[hj,J];rfl
   have G:(D[i]?).map (·.val)=some (ev' M[i].2):=by simpa using hv
   simp[execOp,ex,O,fG,run_underlying ht,cf hb,H.check,f,G,J,an]) h
theorem zZ [br F] {kk:κ} {z0:ν} (H:jq P kt ek) (ht:P.underlying mt=some (.map kt et)) (n:(P.info? et).bind (fun i=>i.zero)=some (ev' z0)) (hg:gd ops σ g=some true) (hd:d<N) (hx:ev σ x=some (.map (some b))) (hy:ev σ y=some (ek kk))
  (hr:Rd w0 K RD) (hi:RD[k]?=some (cG ek ev' b M)) (h:TO F P w0 K N dfs ops Q rest ((d,.tuple #[ev' ((zbO kk M).getD z0),.bool (zbO kk M).isSome])::σ) L):TO F P w0 K N dfs ops Q (⟨some d,.lookup mt x y true,ty,pos,aft,g⟩::rest) σ L :=
 jl hg hd (by simp) (fun a w ha O=>by
  obtain⟨C1,⟨⟨D,C⟩,q⟩,S,hb⟩:=hr.at O hi
  have hb:w.heap[b]?=some (.map D C):=hb
  have q:D.toList.map (fun e=>(e.key,e.val))=M.map (fun p=>(ek p.1,ev' p.2)):=q
  have u:D.toList.map (·.key)=(M.map bv).map ek:=by
   have:=aH (lG bv) q
   simpa [bY,dA] using this
  have f:=H.find D.toList (M.map bv) kk w u
  have ex:=ha.ev hx;have J:=ha.ev hy
  have r:(zeroValue et).run P w=.ok (ev' z0) w:=by
   cases hi:P.info? et with
   |none=>rw[hi] at n;cases n
   |some i=>
    rw[hi] at n
    have E:i.zero=some (ev' z0):=n
    simp[zeroValue,typeInfo,hi,E,an]
  rw[←xt kk M]
  cases hi:kY kk (M.map bv) 0 with
  |none=>
   rw[hi] at f
   simp[execOp,ex,J,fG,run_underlying ht,cf hb,H.check,f,r,an]
  |some i=>
   rw[hi] at f
   obtain⟨_,h2,h3⟩:=vy kk _ _ _ hi
   simp at h2
   have hj:=aH (fun l=>(l[i]?).map ew) q
   simp only[bT,iA,dA] at hj
   have I:M[i]?=some M[i]:=aO h2
   have hv:(D.toList[i]?).map (·.val)=some (ev' M[i].2):=by rw[hj,I];rfl
   have G:(D[i]?).map (·.val)=some (ev' M[i].2):=by simpa using hv
   simp[execOp,ex,J,fG,run_underlying ht,cf hb,H.check,f,G,I,an]) h
theorem qZ [br F] {kk:κ} {z0:ν} (H:jq P kt ek) (ht:P.underlying mt=some (.map kt et)) (n:(P.info? et).bind (fun i=>i.zero)=some (ev' z0)) (hg:gd ops σ g=some true) (hd:d<N) (hx:ev σ x=some (.map (some b))) (hy:ev σ y=some (ek kk))
  (hr:Rd w0 K RD) (hi:RD[k]?=some (cG ek ev' b M)) (h:TO F P w0 K N dfs ops Q rest ((d,ev' ((zbO kk M).getD z0))::σ) L):TO F P w0 K N dfs ops Q (⟨some d,.lookup mt x y false,ty,pos,aft,g⟩::rest) σ L :=
 jl hg hd (by simp) (fun a w ha O=>by
  obtain⟨C1,⟨⟨D,C⟩,q⟩,S,hb⟩:=hr.at O hi
  have hb:w.heap[b]?=some (.map D C):=hb
  have q:D.toList.map (fun e=>(e.key,e.val))=M.map (fun p=>(ek p.1,ev' p.2)):=q
  have u:D.toList.map (·.key)=(M.map bv).map ek:=by
   have:=aH (lG bv) q
   simpa [bY,dA] using this
  have f:=H.find D.toList (M.map bv) kk w u
  have ex:=ha.ev hx;have J:=ha.ev hy
  have r:(zeroValue et).run P w=.ok (ev' z0) w:=by
   cases hi:P.info? et with
   |none=>rw[hi] at n;cases n
   |some i=>
    rw[hi] at n
    have E:i.zero=some (ev' z0):=n
    simp[zeroValue,typeInfo,hi,E,an]
  rw[←xt kk M]
  cases hi:kY kk (M.map bv) 0 with
  |none=>
   rw[hi] at f
   simp[execOp,ex,J,fG,run_underlying ht,cf hb,H.check,f,r,an]
  |some i=>
   rw[hi] at f
   obtain⟨_,h2,h3⟩:=vy kk _ _ _ hi
   simp at h2
   have hj:=aH (fun l=>(l[i]?).map ew) q
   simp only[bT,iA,dA] at hj
   have I:M[i]?=some M[i]:=aO h2
   have hv:(D.toList[i]?).map (·.val)=some (ev' M[i].2):=by rw[hj,I];rfl
   have G:(D[i]?).map (·.val)=some (ev' M[i].2):=by simpa using hv
   simp[execOp,ex,J,fG,run_underlying ht,cf hb,H.check,f,G,I,an]) h
end
end
section
variable {α:Type} {enc:α→List Value} {size k:Nat} {vv:Value} {xs:List α}
def iX (enc:α→List Value) (size:Nat) (vv:Value) (k:Nat) (xs:List α):Asn :=
  ⟨fun C w=>(∀b,C b→b<w.heap.size)∧∀i x j v,k≤i→xs[i]?=some x→(enc x)[j]?=some v→C (gn vv)∧w.cell? ⟨gn vv,i*size+j,none⟩=some v,
   fun h b hb=>h.1 b hb,
   fun {C w w'} h a hk=>⟨fun b hb=>eF (h.1 b hb) a,fun i x j v hi hx hv=>by
     obtain⟨h1,h2⟩:=h.2 i x j v hi hx hv
     refine⟨h1,?_⟩
     rw[←h2]
     unfold World.cell?
     simp only[hk _ h1]⟩⟩
theorem oo {e:TypeId} (hz:∀x,(enc x).length=size) {C:Nat→Prop} {w:World} (h:(vec enc e size vv xs).P C w):(iX enc size vv 0 xs).P C w:=by
 have hV:gZ enc e size vv xs C w:=h
 refine⟨(vec enc e size vv xs).lt h,fun i x j v _ hx hv=>?_⟩
 have hj:j<size:=by rw[←hz x];exact (az.1 hv).1
 refine⟨?_,hV.cellAt hz hx hj hv⟩
 rcases hV.shape with⟨_,h2,_⟩|⟨g,cap,rfl,_⟩
 ·rw[h2] at hx;simp at hx
 ·rw[hV.2];rfl
variable {F:Fence} {P:Program} {w0:World} {K:Nat→Prop} {N:Nat} {dfs:List Deferred} {ops:Array Oper} {Q:Exit→Act→World→Prop} {rest:List Oper} {σ:List (Nat×Value)} {L RD:List Asn} {v:Value}
 {d i:Nat} {t ty:TypeId} {pos:String} {aft:Array Edge} {g:Option (Nat×Bool)} {x:Operand}
theorem jr [br F] {n j off:Nat} {q:α} (hr:Rd w0 K RD) (hi:RD[i]?=some (iX enc size vv k xs)) (f:k≤n) (E:lh P t) (hg:gd ops σ g=some true) (hd:d<N) (hx:ev σ x=some (.pointer (some ⟨gn vv,off,none⟩)))
  (u:xs[n]?=some q) (D:off=n*size+j) (hv:(enc q)[j]?=some v) (h:TO F P w0 K N dfs ops Q rest ((d,v)::σ) L) :
  TO F P w0 K N dfs ops Q (⟨some d,.load t x,ty,pos,aft,g⟩::rest) σ L:=by
 subst D
 obtain⟨dd,hu,r⟩:=E
 refine jl hg hd (by simp) (fun a w ha l=>?_) h
 obtain⟨C,G⟩:=hr.at l hi
 have hc:=(G.2 n q j v f u hv).2
 have h1:=ha.ev hx
 cases dd<;>simp_all [execOp,kf,eo,loadVar,isAgg,an,run_underlying hu]
theorem pq [br F] {m j off n:Nat} {q:α} {cs:List Value} (hr:Rd w0 K RD) (hi:RD[i]?=some (iX enc size vv k xs)) (r:k≤m) (J:ol P t n) (hg:gd ops σ g=some true) (hd:d<N) (hx:ev σ x=some (.pointer (some ⟨gn vv,off,none⟩)))
  (H:xs[m]?=some q) (I:off=m*size+j) (E:((enc q).drop j).take n=cs) (f:cs.length=n)
  (h:TO F P w0 K N dfs ops Q rest ((d,.agg cs.toArray)::σ) L):TO F P w0 K N dfs ops Q (⟨some d,.load t x,ty,pos,aft,g⟩::rest) σ L:=by
 subst I;subst f
 obtain⟨dd,hu,l,D⟩:=J
 refine jl hg hd (by simp) (fun a w ha G=>?_) h
 obtain⟨C,O⟩:=hr.at G hi
 have hc:w.rangeAt (gn vv) (m*size+j) cs:=fun n u f=>by
  rw[←E] at f
  rw[List.getElem?_take] at f
  split at f
  ·rw[List.getElem?_drop] at f
   have:=(O.2 m q (j+n) u r H f).2
   rwa [←fI] at this
  ·cases f
 simp only[execOp,ha.ev hx,an,run_loadAt_mid w _ _ t cs dd hc hu l D];rfl
end
section
variable {F:Fence} {P:Program} {w0:World} {K:Nat→Prop} {N:Nat} {dfs:List Deferred} {ops:Array Oper} {Q:Exit→Act→World→Prop} {rest:List Oper} {σ:List (Nat×Value)} {L:List Asn} {c:Code} {ex:Exit} {k:Nat}
 {α η:Type} {enc:α×η→List Value} {nest:α×η→List Asn} {t:TypeId} {p:Value} {m:Option α} {x:α}
theorem z1 (enc:α×η→List Value) (nest:α×η→List Asn) (t:TypeId) (h:TX w0 K N dfs Q ex σ (L++[jA enc nest t (.pointer none) none])):TX w0 K N dfs Q ex σ L:=fun a w ha f=>
 h a w ha (f.grow (C':=fun _=>False) (ed _ _) (ke (A:=jA enc nest t (.pointer none) none) ⟨fun _ h=>h,rfl⟩))
theorem z6 (h:m=some x):mB [jA enc nest t p m] (fun a:Nat×η=>cells a.1 (enc (x,a.2)) t::nest (x,a.2)) (fun a=>p=.pointer (some ⟨a.1,0,none⟩)):=fun C w f=>by
 subst h
 obtain⟨b,hd,h2,h3⟩:=k5.1 (aQ.1 f)
 exact⟨(b,hd),h2,h3⟩
def Cs (p:Value) (m:Option α):Prop:=(m.isNone=true∧p=.pointer none)∨(m.isNone=false∧∃b,p=.pointer (some ⟨b,0,none⟩))
theorem Gu (hk:L[k]?=some (jA enc nest t p m)) (h:Cs p m→TO F P w0 K N dfs ops Q rest σ L):TO F P w0 K N dfs ops Q rest σ L:=fun a w ha f=>by
 obtain⟨C1,h1,_⟩:=f.focus hk
 refine h ?_ a w ha f
 rcases MI h1 with⟨rfl,h2⟩|⟨x,b,rfl,h2⟩
 ·exact .inl ⟨rfl,h2⟩
 ·exact .inr ⟨rfl,b,h2⟩
theorem Gv {ty a:TypeId} {w:World} (ht:P.underlying ty=some (.pointer a)):(Op.equal ty (.pointer none) (.pointer none)).run P w=.ok true w:=by
 have h:∀d,(fe (d+1) ty (.pointer none) (.pointer none)).run P w=.ok true w:=fun d=>by simp[fe,run_underlying ht]
 exact h 9999
theorem ziw {ty a:TypeId} {y z:Operand} (ht:P.underlying ty=some (.pointer a)) (hv:Cs p m) (w:World):(do eqGuard .eql ty y z p (.pointer none);binOp .eql ty p (.pointer none):Sem Value).run P w=.ok (.bool m.isNone) w:=by
 rcases hv with⟨h1,rfl⟩|⟨h1,b,rfl⟩
 ·rw[h1];simp[eqGuard,binOp,an,Gv ht]
 ·rw[h1];exact zmn ht w
theorem MJ {ty a:TypeId} {y z:Operand} (ht:P.underlying ty=some (.pointer a)) (hv:Cs p m) (w:World):(do eqGuard .neq ty y z p (.pointer none);binOp .neq ty p (.pointer none):Sem Value).run P w=.ok (.bool (!m.isNone)) w:=by
 rcases hv with⟨h1,rfl⟩|⟨h1,b,rfl⟩
 ·rw[h1];simp[eqGuard,binOp,an,Gv ht]
 ·rw[h1];exact FX ht w
end
section
variable {F:Fence} {P:Program} {w0:World} {K:Nat→Prop} {N:Nat} {dfs:List Deferred} {ops:Array Oper} {Q:Exit→Act→World→Prop} {rest:List Oper} {σ σ':List (Nat×Value)} {L L' R As Bs:List Asn} {o:Oper} {v:Value}
 {d:Nat} {t:TypeId} {op:Op} {ty:TypeId} {pos:String} {aft:Array Edge} {g:Option (Nat×Bool)} {x y z:Operand} {c c1 c2:Code} {k:Nat} {A B:Asn} {RO:List (Nat×Obj)} {RD RD0:List Asn}
def qt (P:Program) (gf:FuncId) (a:List Value) {α:Type} (enc:α→List Value) (xs:List α) (RD:List Asn):Prop :=
 ∀ (w:World) (D:Nat→Prop),(∀A∈RD,∃C,A.P C w∧∀k,C k→D k)→(∀k,D k→k<w.heap.size)→zB P gf a.toArray (fun x=>(enc x).toArray) xs D w
theorem qt.intro {gf:FuncId} {fn:Func} {a:List Value} {α:Type} {enc:α→List Value} {xs:List α} (hf:P.funcs[gf]?=some fn) (hb:fn.body=some c) (hn:fn.ntmps=N) (hN:a.length+1≤N)
  (h:∀l w0 K (I X:List α→Asn),Rd w0 K RD→YC P l enc xs I X w0 K →
   TC bt P w0 K N [] (bodyPostM bt 0 P fn (FY xs I X w0 K)) c (rV (.func (.yield l) #[] #[]::a)) [I []]):qt P gf a enc xs RD:=by
 subst hn
 intro w D J V l I X U W hD hsz r O G hy h0
 have H:Rd W U RD:=fun A hA=>by
  obtain⟨C,h1,h2⟩:=J A hA
  exact⟨C,A.loc h1 hsz (fun k hk=>(hD k (h2 k hk)).2),fun k hk hc=>(r k hc).2 (h2 k hk)⟩
 have:=h l W U (fun pre=>u0 (I pre) (fun C W W'=>O pre C W W')) (fun pre=>u0 (X pre) (fun C W W'=>G pre C W W')) H (fun pre x post C W1 f he hi=>by
  obtain⟨f1,t1,a1,b1,E,u⟩:=hy pre x post C W1 f he hi.1
  refine⟨f1,t1,a1,b1,E,u.mono ?_⟩
  rintro e Y ⟨b,rfl,C',hx,hc⟩
  have n:∀k,C' k→k<Y.heap.size:=fun k hk=>by
   have:=hx.1.size
   rcases hx.2 k hk with h|h
   ·have:=hi.2 k h;omega
   ·exact h.2
  exact⟨b,rfl,C',hx,hc.imp (fun h=>⟨h.1,h.2,n⟩) (fun h=>⟨h.1,h.2,n⟩)⟩)
 have Z:(Value.func (.yield l) #[] #[]::a).toArray=#[.func (.yield l) #[] #[]]++a.toArray:=by simp
 rw[←Z]
 refine (uX hf hb (this _ W (uZ _ (by simpa using hN)) ⟨U,ke ⟨h0,fun k hk=>(r k hk).1⟩,ed _ _⟩)).mono ?_
 rintro e w' ⟨he,q⟩
 refine⟨he,?_⟩
 rcases q with⟨C',q,hx⟩|⟨pre,x,post,f,C',q,hx⟩
 ·obtain⟨C1,C2,T,S,_,g4⟩:=q
  have:C'=C1:=funext fun k=>propext (by rw[g4];exact⟨fun h=>h.resolve_right (S k),.inl⟩)
  subst this
  exact⟨C',hx,.inl T.1⟩
 ·obtain⟨C1,C2,T,S,_,g4⟩:=q
  have:C'=C1:=funext fun k=>propext (by rw[g4];exact⟨fun h=>h.resolve_right (S k),.inl⟩)
  subst this
  exact⟨C',hx,.inr ⟨pre,x,post,f,T.1⟩⟩
section
variable {α β γ δ:Type}
theorem MK {gf:FuncId} {G:List Value} {enc:α→List Value} {xs:List α} {ps:List Nat} {assign body:Code} (a5:Rd w0 K RD0) (a4:Ro w0 K RO)
  (hg:ev σ x=some (.func (.func gf) #[] G.toArray)) (ao:∀args w,(callFunc gf args).run P w=.ok (.enter gf args) w) (hY:qt P gf G enc xs RD)
  (Inv:List α→β→Prop) (LI:List α→β→List Asn) (X:Code→List α→γ→Prop) (LX:Code→List α→γ→List Asn) (σJ:List α→α→β→δ→List (Nat×Value)) (LJ:List α→α→β→δ→List Asn) (b0:β)
  (h0:Inv [] b0) (S:am L (LI [] b0) R) (hS:o0 R RD0 RD) (a0:∀x,(enc x).length=ps.length) (a2:∀p∈ps,p<N)
  (E:∀l r pre e post b w1 I,xs=pre++e::post→cz K I w0 w1→Ro w1 I (RO++[(l,.loop r)])→Inv pre b →
   TC (Fence.wide.inRound l) P w1 I N [] (_root_.Go.Exit.then (fun a w=>∃j,St w1 I N [] (σJ pre e b j) (LJ pre e b j) a w) (fun _ _ _=>False)) assign (xa ps (enc e) σ) (LI pre b))
  (U:∀l r pre e post b j w1 I,xs=pre++e::post→cz K I w0 w1→Ro w1 I (RO++[(l,.loop r)])→Inv pre b→TC (Fence.wide.inRound l) P w1 I N [] (RQ Inv LI X LX (pre++[e]) w1 I) body (σJ pre e b j) (LJ pre e b j))
  (T:∀d b,Inv xs b→TX w0 K N ({ target:=.collected d,args:=#[] }::dfs) Q .normal σ (R++(LI xs b++[fx d])))
  (O:∀d c pre e post b,xs=pre++e::post→X c (pre++[e]) b→TC bt P w0 K N ({ target:=.collected d,args:=#[] }::dfs) Q c σ (R++(LX c (pre++[e]) b++[fx d]))) :
  TC bt P w0 K N dfs Q (.rangeFunc x ps.toArray assign body) σ L:=by
 intro a w ha hw
 obtain⟨C1,C2,g1,g2,g3,gx,D⟩:=hw.split2 S
 have a7:Rd w C1 RD:=hS.rd (w0:=w0) (K:=K) g2 g3 (a5.ext gx)
 have ag:=g1.lt
 have J:∀ {C:Nat→Prop} {W:World},cz K C w0 W→Ro W C RO:=fun {C W} hx p hp=>by
  obtain⟨h1,h2⟩:=a4 p hp
  refine⟨hx.1.at h1 h2,fun h=>?_⟩
  rcases hx.2 _ h with h|h
  ·exact h2 h
  ·have:=kW h1;omega
 refine Fk (gf:=gf) (lb:=G.toArray) (ha.ev hg) ao (hY w (fun k=>k<w.heap.size∧¬C1 k) (fun A hA=>by
  obtain⟨C,h1,h2⟩:=a7 A hA
  exact⟨C,h1,fun k hk=>⟨A.lt h1 k hk,h2 k hk⟩⟩) (fun k h=>h.1)) (fun k h=>⟨h.1,rfl⟩) (bi _) (fun e=>by simp[a0])
  (fun pre C W=>∃b,Inv pre b∧aP (LI pre b) C W) (fun c pre C W=>∃b,X c pre b∧aP (LX c pre b) C W)
  (fun pre e a1 C W=>∃b j,Inv pre b∧At N [] (σJ pre e b j) a1∧aP (LJ pre e b j) C W) ?_ ?_ ?_ C1 (fun k hk=>⟨ag k hk,fun h=>h.2 hk⟩) ⟨b0,h0,g1⟩ ?_ ?_ ?_ ?_
 ·rintro pre C W W' ⟨b,h1,h2⟩ S hk;exact⟨b,h1,h2.loc S hk⟩
 ·rintro c pre C W W' ⟨b,h1,h2⟩ S hk;exact⟨b,h1,h2.loc S hk⟩
 ·rintro pre e a1 _ C W W' ⟨b,j,h1,h2,h3⟩ S hk;exact⟨b,j,h1,h2,h3.loc S hk⟩
 ·rintro l pre e post C Z q f ⟨b,hb,hi⟩ hn hl ⟨r,hr⟩
  have u:cz K C w0 Z:=gx.trans f
  refine wpIn_mono (E l r pre e post b Z C q u ((J u).snoc hr hn) hb _ Z (ha.zip ps (enc e) a2) ⟨C,hi,ed _ _⟩) ?_
  rintro ex a' w' H
  cases ex with
  |normal=>
   obtain⟨j,hj,C',a6,aw⟩:=H
   exact⟨C',aw,b,j,hb,hj,a6⟩
  |_=>exact H
 ·rintro l pre e post C Z a1 q f ⟨b,j,hb,a3,hi⟩ hn hl ⟨r,hr⟩
  have u:cz K C w0 Z:=gx.trans f
  refine wpIn_mono (U l r pre e post b j Z C q u ((J u).snoc hr hn) hb a1 Z a3 ⟨C,hi,ed _ _⟩) ?_
  rintro ex a' w' H
  cases ex with
  |normal=>obtain⟨Y,h1,C',h2,h3⟩:=H;exact⟨C',h3,Y,h1,h2⟩
  |ret=>obtain⟨Y,h1,C',h2,h3⟩:=H;exact⟨C',h3,Y,h1,h2⟩
  |exit id=>obtain⟨Y,h1,C',h2,h3⟩:=H;exact⟨C',h3,Y,h1,h2⟩
  |goto id=>obtain⟨Y,h1,C',h2,h3⟩:=H;exact⟨C',h3,Y,h1,h2⟩
  |panic _=>exact H
  |outgrown=>exact H
 ·rintro d C W f ⟨b,hb,hi⟩ hd V n
  refine T d b hb _ W ⟨ha.1,by rw[←ha.2.1],ha.2.2⟩ (D _ (fun k=>C k∨k=d) W ⟨f.1,fun k hk=>?_⟩ ?_)
  ·rcases hk with hk|rfl
   ·exact f.2 k hk
   ·exact .inr ⟨hd,kW n⟩
  ·exact hi.append (ke ⟨fun k=>_root_.Iff.rfl,n⟩) (fun k hk e=>V (e▸hk))
 ·rintro d c pre e post C W q f ⟨b,hb,hi⟩ hd V n
  refine O d c pre e post b q hb _ W ⟨ha.1,by rw[←ha.2.1],ha.2.2⟩ (D _ (fun k=>C k∨k=d) W ⟨f.1,fun k hk=>?_⟩ ?_)
  ·rcases hk with hk|rfl
   ·exact f.2 k hk
   ·exact .inr ⟨hd,kW n⟩
  ·exact hi.append (ke ⟨fun k=>_root_.Iff.rfl,n⟩) (fun k hk e=>V (e▸hk))
end
end
theorem Gw {α:Type} {enc:α→List Value} {size k:Nat} {vv:Value} {xs:List α} {e:TypeId} (hz:∀x,(enc x).length=size) {C:Nat→Prop} {w:World} (h:(vec enc e size vv xs).P C w):(iX enc size vv k xs).P C w :=
 ⟨(oo hz h).1,fun i x j v h1 h2 h3=>(oo hz h).2 i x j v (Nat.zero_le _) h2 h3⟩
theorem Rd.up {α:Type} {enc:α→List Value} {size k m:Nat} {vv:Value} {xs:List α} {w0:World} {K:Nat→Prop} {RD:List Asn} {i:Nat} (hr:Rd w0 K RD) (hi:RD[i]?=some (iX enc size vv k xs)):Rd w0 K (RD++[iX enc size vv (k+m) xs]) :=
 hr.append fun B hB=>by
  rw[bl] at hB
  subst hB
  obtain⟨C,h,hk⟩:=hr _ (aL hi)
  exact⟨C,⟨h.1,fun i x j v h1 h2 h3=>h.2 i x j v (by omega) h2 h3⟩,hk⟩
structure ML (α:Type) where
 vv:Value
 k:Nat
 L:List α
def lV {α:Type} (enc:α→List Value) (size:Nat) (hd:Hd) (xs:List α):Asn :=
 xf fun b:{b:ML α // Vw b.vv b.L size b.k hd.v xs}=>iX enc size b.1.vv b.1.k b.1.L
theorem Ct {α:Type} {enc:α→List Value} {size:Nat} {e:TypeId} {hd:Hd} {xs:List α} (a:∀x,(enc x).length=size) {C:Nat→Prop} {w:World} (h:(vec enc e size hd.v xs).P C w):(lV enc size hd xs).P C w :=
 ⟨⟨⟨hd.v,0,xs⟩,Gp h⟩,oo a h⟩
theorem MM {α:Type} {enc:α→List Value} {size:Nat} {hd:Hd} {xs:List α} {vv:Value} {k:Nat} {L:List α} (hV:Vw vv L size k hd.v xs) {C:Nat→Prop} {w:World} (h:(iX enc size vv k L).P C w):(lV enc size hd xs).P C w :=
 ⟨⟨⟨vv,k,L⟩,hV⟩,h⟩
section
variable {α η:Type} {enc:α×η→List Value} {nest nestR:α×η→List Asn} {e:TypeId} {size:Nat} {v:Value} {xs:List α} {zs:List (α×η)} {z:α×η}
def MN (nestR:α×η→List Asn) (zs:List (α×η)):Asn :=
  ⟨fun C w=>(∀k,C k→k<w.heap.size)∧∀z∈zs,∀A∈nestR z,∃D,A.P D w∧∀k,D k→C k,
   fun h k hk=>h.1 k hk,
   fun {C w w'} h a hk=>⟨fun k l=>eF (h.1 k l) a,fun z hz A hA=>by
     obtain⟨D,h1,h2⟩:=h.2 z hz A hA
     exact⟨D,A.loc h1 a (fun k f=>hk k (h2 k f)),h2⟩⟩⟩
variable {w0:World} {K:Nat→Prop} {RD:List Asn} {i j:Nat}
theorem Rd.openSl {β:Type} {_k:β→List Value} {hd:Hd} {ys:List β} (hr:Rd w0 K RD) (hi:RD[i]?=some (lV _k size hd ys)):∃vv k L,Vw vv L size k hd.v ys∧Rd w0 K (RD++[iX _k size vv k L]):=by
 obtain⟨C,⟨⟨⟨vv,k,L⟩,hV⟩,a⟩,hk⟩:=hr _ (aL hi)
 refine⟨vv,k,L,hV,hr.append fun B hB=>?_⟩
 rw[bl] at hB
 subst hB
 exact⟨C,a,hk⟩
end
section
variable {α η:Type} {nest:α×η→List Asn} {zs ys:List (α×η)}
end
section
variable {F:Fence} {P:Program} {w0:World} {K:Nat→Prop} {N:Nat} {dfs:List Deferred} {Q:Exit→Act→World→Prop} {σ:List (Nat×Value)} {L:List Asn} {c:Code} {k:Nat} {α η:Type} {enc:α×η→List Value} {nest:α×η→List Asn} {t:TypeId} {p:Value} {m:Option α}
end
section
def bm (h:Hd):Nat:=match h.1 with
 |some a=>a.block
 |none=>0
abbrev nJ:Type:=List (ae×(List ae×Hd))
def pr (z:List ae×Hd):Value:=z.2.v
def MO (z:List ae×Hd):List Asn:=[lV gN 1 z.2 z.1]
def nW (L:nJ):List (ae×List ae):=L.map fun p=>(p.1,p.2.1)
abbrev pt (b:Nat) (L:nJ):Asn:=cG (fun s:ae=>af s) pr b L
abbrev o6 (L:nJ):Asn:=MN MO (L.map ew)
def dU (b:Nat) (M:List (ae×List ae)):Asn:=xf fun L:{L:nJ // nW L=M}=>zhW [pt b L.1,o6 L.1]
theorem vB (k:ae):∀ (L:nJ),zbO k (nW L)=(zbO k L).map bv
 |[]=>rfl
 |p::L=>by
  have a:=vB k L
  show zbO k ((p.1,p.2.1)::nW L)=(zbO k (p::L)).map bv
  unfold zbO
  show (if k=p.1 then some p.2.1 else zbO k (nW L))=(if k=p.1 then some p.2 else zbO k L).map bv
  split
  ·rfl
  ·exact a
theorem Gx (k:ae) (xs:List ae) (hd:Hd):∀ (L:nJ),nW (hU k (xs,hd) L)=hU k xs (nW L)
 |[]=>rfl
 |p::L=>by
  have a:=Gx k xs hd L
  show nW (hU k (xs,hd) (p::L))=hU k xs ((p.1,p.2.1)::nW L)
  unfold hU
  show nW (if k=p.1 then (k,(xs,hd))::L else p::hU k (xs,hd) L)=(if k=p.1 then (k,xs)::nW L else (p.1,p.2.1)::hU k xs (nW L))
  split
  ·rfl
  ·show (p.1,p.2.1)::nW (hU k (xs,hd) L)=_
   rw[a]
theorem Gy (k:ae) (z:List ae×Hd):∀ (L:nJ),∀y∈(hU k z L).map ew,y=z∨y∈L.map ew
 |[],y,h=>.inl (by simpa [hU] using h)
 |p::L,y,h=>by
  have a:=Gy k z L
  unfold hU at h
  have h:y∈(if k=p.1 then (k,z)::L else p::hU k z L).map ew:=h
  split at h
  ·rcases aY.1 h with rfl|h
   ·exact .inl rfl
   ·exact .inr (ak _ h)
  ·rcases aY.1 h with rfl|h
   ·exact .inr (aq ..)
   ·exact (a y h).imp id (ak _)
theorem z7 {κ ν:Type} [DecidableEq κ] (k:κ) (v:ν):∀ (L:List (κ×ν)),zbO k L=some v→v∈L.map ew
 |[],h=>by cases h
 |p::L,h=>by
  unfold zbO at h
  have h:(if k=p.1 then some p.2 else zbO k L)=some v:=h
  split at h
  ·cases h;exact aq ..
  ·exact ak _ (z7 k v L h)
variable {b:Nat} {M:List (ae×List ae)} {L:nJ}
theorem Gz:mB [dU b M] (fun L:nJ=>[pt b L,o6 L]) (fun L=>nW L=M):=fun C w h=>by
 obtain⟨⟨L,hL⟩,hz⟩:=aQ.1 h
 exact⟨L,hL,hz⟩
theorem GA:mB [pt b []] (fun _:Unit=>[dU b []]) (fun _=>True):=fun C w h=>by
 refine⟨(),trivial,aQ.2 ⟨⟨[],rfl⟩,?_⟩⟩
 have h1:=aQ.1 h
 exact Cb (C1:=C) (C2:=fun _=>False) h1 ⟨fun k h=>h.elim,fun z hz=>by simp at hz⟩ (fun k a b=>b) (fun k=>by simp)
theorem GB (k:ae) (xs:List ae) (hd:Hd) (hL:nW L=M):mB [pt b (hU k (xs,hd) L),o6 L,lV gN 1 hd xs] (fun _:Unit=>[dU b (hU k xs M)]) (fun _=>True):=fun C w h=>by
 obtain⟨C1,C2,h1,h2,h3,n⟩:=h
 obtain⟨E,r,l,f,u,g4⟩:=h2
 have f:=aQ.1 f
 refine⟨(),trivial,aQ.2 ⟨⟨hU k (xs,hd) L,by rw[Gx,hL]⟩,?_⟩⟩
 refine Cb (C1:=C1) (C2:=C2) h1 ⟨fun q a=>?_,fun z hz A hA=>?_⟩ h3 n
 ·rcases (g4 q).1 a with h|h
  ·exact (o6 L).lt l q h
  ·exact (lV gN 1 hd xs).lt f q h
 ·rcases Gy k (xs,hd) L z hz with rfl|hz
  ·have hA:A=lV gN 1 hd xs:=bl.1 hA
   subst hA
   exact⟨r,f,fun q a=>(g4 q).2 (.inr a)⟩
  ·obtain⟨D,d1,d2⟩:=l.2 z hz A hA
   exact⟨D,d1,fun q a=>(g4 q).2 (.inl (d2 q a))⟩
theorem Rd.fors {w0:World} {K:Nat→Prop} {RD:List Asn} {i:Nat} (hr:Rd w0 K RD) (hi:RD[i]?=some (dU b M)):∃L:nJ,nW L=M∧Rd w0 K (RD++[pt b L,o6 L]):=by
 obtain⟨C,⟨⟨L,hL⟩,hz⟩,hk⟩:=hr _ (aL hi)
 obtain⟨C1,C2,h1,h2,h3,a⟩:=F4 hz
 refine⟨L,hL,hr.append fun B hB=>?_⟩
 rcases aY.1 hB with rfl|hB
 ·exact⟨C1,h1,fun k h=>hk k ((a k).2 (.inl h))⟩
 ·rw[bl] at hB
  subst hB
  exact⟨C2,h2,fun k h=>hk k ((a k).2 (.inr h))⟩
theorem Rd.forsGet {w0:World} {K:Nat→Prop} {RD:List Asn} {i:Nat} {k:ae} {xs:List ae} {hd:Hd} (hr:Rd w0 K RD) (hi:RD[i]?=some (o6 L)) (hg:zbO k L=some (xs,hd)):Rd w0 K (RD++[lV gN 1 hd xs]) :=
 hr.more hi fun C a B hB=>a.2 _ (z7 k _ L hg) B hB
section
variable {F:Fence} {P:Program} {w0:World} {K:Nat→Prop} {N:Nat} {dfs:List Deferred} {ops:Array Oper} {Q:Exit→Act→World→Prop} {rest:List Oper} {σ:List (Nat×Value)} {LL RD:List Asn}
 {d:Nat} {ty:TypeId} {pos:String} {aft:Array Edge} {g:Option (Nat×Bool)} {x y z:Operand} {i:Nat} {mt kt et:TypeId}
theorem GC [br F] {kk:ae} (u:P.underlying kt=some .string) (ht:P.underlying mt=some (.map kt et)) (n:(P.info? et).bind (fun i=>i.zero)=some (.slice none 0 0)) (hg:gd ops σ g=some true) (hd:d<N) (hx:ev σ x=some (.map (some b))) (hy:ev σ y=some (.string kk))
  (hr:Rd w0 K RD) (hi:RD[i]?=some (dU b M))
  (h:∀hd:Hd,(∀xs,zbO kk M=some xs→Rd w0 K (RD++[lV gN 1 hd xs]))→TO F P w0 K N dfs ops Q rest ((d,.tuple #[hd.v,.bool (zbO kk M).isSome])::σ) LL) :
  TO F P w0 K N dfs ops Q (⟨some d,.lookup mt x y true,ty,pos,aft,g⟩::rest) σ LL:=by
 obtain⟨L,hL,l⟩:=hr.fors hi
 have hb:((zbO kk L).getD ([],eu)).2.v=pr ((zbO kk L).getD ([],eu)):=rfl
 refine zZ (k:=RD.length) (M:=L) (z0:=([],eu)) (ev':=pr) (mC u) ht n hg hd hx hy l (by simp) ?_
 have h1:=h ((zbO kk L).getD ([],eu)).2 (fun xs a=>by
  rw[←hL,vB] at a
  cases f:zbO kk L with
  |none=>rw[f] at a;cases a
  |some q=>
   rw[f] at a
   have:q.1=xs:=mo a
   subst this
   have h2:=l.forsGet (i:=RD.length+1) (k:=kk) (xs:=q.1) (hd:=q.2) (by simp) f
   refine hr.append fun B hB=>?_
   rw[bl] at hB
   subst hB
   exact h2 _ (by simp))
 rw[←hL,vB,hb] at h1
 cases r:zbO kk L with
 |none=>rw[r] at h1;exact h1
 |some q=>rw[r] at h1;exact h1
end
end
section
open Go.Shelf
theorem dQ:lh prog 3:=⟨_,underlying3,rfl⟩
theorem jJ:bx prog 3 1:=by unfold bx;as_aux_lemma=>kernel_rfl
theorem xu:cd prog 3 [.int .i64 0]:=by unfold cd;as_aux_lemma=>kernel_rfl
theorem lW:lh prog 4:=⟨_,underlying4,rfl⟩
theorem jX:bx prog 4 1:=by unfold bx;as_aux_lemma=>kernel_rfl
theorem zFC:cd prog 4 [.bool false]:=by unfold cd;as_aux_lemma=>kernel_rfl
theorem Cu:lh prog 5:=⟨_,underlying5,rfl⟩
theorem z8:bx prog 5 1:=by unfold bx;as_aux_lemma=>kernel_rfl
theorem MP:cd prog 5 [.int .u8 0]:=by unfold cd;as_aux_lemma=>kernel_rfl
theorem MQ:dH prog 5 1:=eX kr
theorem qu:kX prog 5:=kX.mk' kr
theorem eb:lh prog 9:=⟨_,underlying9,rfl⟩
theorem gG:bx prog 9 1:=by unfold bx;as_aux_lemma=>kernel_rfl
theorem GD:cd prog 9 [.string ad]:=by unfold cd;as_aux_lemma=>kernel_rfl
theorem oq:dH prog 9 1:=eX kr
theorem eP:lh prog 21:=⟨_,underlying21,rfl⟩
theorem k6:bx prog 21 1:=by unfold bx;as_aux_lemma=>kernel_rfl
theorem tk:dH prog 21 1:=eX kr
theorem Cv:lh prog 24:=⟨_,underlying24,rfl⟩
theorem kM:ol prog 26 2:=⟨_,underlying26,rfl,by as_aux_lemma=>kernel_rfl⟩
theorem Cw:jc prog 26 0 0:=⟨_,_,underlying26,rfl,rfl,by as_aux_lemma=>kernel_rfl⟩
theorem kn:bx prog 26 2:=by unfold bx;as_aux_lemma=>kernel_rfl
theorem zrj:cd prog 26 [.int .i64 0,.int .i64 0]:=by unfold cd;as_aux_lemma=>kernel_rfl
theorem oJ:lh prog 29:=⟨_,underlying29,rfl⟩
theorem Aa:bx prog 29 1:=by unfold bx;as_aux_lemma=>kernel_rfl
theorem GE:cd prog 29 [.pointer none]:=by unfold cd;as_aux_lemma=>kernel_rfl
theorem nK:lh prog 36:=⟨_,underlying36,rfl⟩
theorem se:bx prog 36 1:=by unfold bx;as_aux_lemma=>kernel_rfl
theorem vC:lh prog 37:=⟨_,underlying37,rfl⟩
theorem uf:jc prog 39 0 0:=⟨_,_,nC,rfl,rfl,by as_aux_lemma=>kernel_rfl⟩
theorem zut:jc prog 39 1 1:=⟨_,_,nC,rfl,rfl,by as_aux_lemma=>kernel_rfl⟩
theorem Ab:jc prog 39 2 2:=⟨_,_,nC,rfl,rfl,by as_aux_lemma=>kernel_rfl⟩
theorem zpZ:jc prog 39 3 3:=⟨_,_,nC,rfl,rfl,by as_aux_lemma=>kernel_rfl⟩
theorem Cx:lh prog 46:=⟨_,underlying46,rfl⟩
theorem GF:bx prog 46 1:=by unfold bx;as_aux_lemma=>kernel_rfl
theorem MR:cd prog 46 [.slice none 0 0]:=by unfold cd;as_aux_lemma=>kernel_rfl
theorem MS:cd prog 68 [.pointer none,.slice none 0 0]:=by unfold cd;as_aux_lemma=>kernel_rfl
theorem vD:lh prog 69:=⟨_,underlying69,rfl⟩
theorem ra:lh prog 70:=⟨_,underlying70,rfl⟩
theorem zn6:jc prog 72 0 0:=⟨_,_,kL,rfl,rfl,by as_aux_lemma=>kernel_rfl⟩
theorem zn5:jc prog 72 1 1:=⟨_,_,kL,rfl,rfl,by as_aux_lemma=>kernel_rfl⟩
theorem Cy:jc prog 72 2 2:=⟨_,_,kL,rfl,rfl,by as_aux_lemma=>kernel_rfl⟩
theorem rb:jc prog 72 3 3:=⟨_,_,kL,rfl,rfl,by as_aux_lemma=>kernel_rfl⟩
theorem zpY:jc prog 72 4 4:=⟨_,_,kL,rfl,rfl,by as_aux_lemma=>kernel_rfl⟩
theorem lM:ol prog 81 3:=⟨_,nE,rfl,by as_aux_lemma=>kernel_rfl⟩
theorem zdh:jc prog 81 0 0:=⟨_,_,nE,rfl,rfl,by as_aux_lemma=>kernel_rfl⟩
theorem qv:jc prog 81 1 1:=⟨_,_,nE,rfl,rfl,by as_aux_lemma=>kernel_rfl⟩
theorem MT:jc prog 81 2 2:=⟨_,_,nE,rfl,rfl,by as_aux_lemma=>kernel_rfl⟩
theorem gH:bx prog 81 3:=by unfold bx;as_aux_lemma=>kernel_rfl
theorem zoE:cd prog 81 [.int .i32 0,.string ad,.int .i64 0]:=by unfold cd;as_aux_lemma=>kernel_rfl
theorem tn:dH prog 81 3:=eX kr
theorem MU:bx prog 82 2:=by unfold bx;as_aux_lemma=>kernel_rfl
theorem MV:cd prog 82 [.bool false,.bool false]:=by unfold cd;as_aux_lemma=>kernel_rfl
theorem vE:lh prog 87:=⟨_,underlying87,rfl⟩
theorem GG:bx prog 87 1:=by unfold bx;as_aux_lemma=>kernel_rfl
theorem MW:cd prog 87 [.slice none 0 0]:=by unfold cd;as_aux_lemma=>kernel_rfl
theorem o7:ol prog 91 5:=⟨_,ja,rfl,by as_aux_lemma=>kernel_rfl⟩
theorem zur:jc prog 91 0 0:=⟨_,_,ja,rfl,rfl,by as_aux_lemma=>kernel_rfl⟩
theorem CA:jc prog 91 1 1:=⟨_,_,ja,rfl,rfl,by as_aux_lemma=>kernel_rfl⟩
theorem Ac:jc prog 91 2 2:=⟨_,_,ja,rfl,rfl,by as_aux_lemma=>kernel_rfl⟩
theorem zup:jc prog 91 3 3:=⟨_,_,ja,rfl,rfl,by as_aux_lemma=>kernel_rfl⟩
theorem zyI:jc prog 91 4 4:=⟨_,_,ja,rfl,rfl,by as_aux_lemma=>kernel_rfl⟩
theorem oK:bx prog 91 5:=by unfold bx;as_aux_lemma=>kernel_rfl
theorem ug:cd prog 91 [.int .i64 0,.int .i64 0,.string ad,.string ad,.int .i64 0]:=by unfold cd;as_aux_lemma=>kernel_rfl
theorem GH:dH prog 91 5:=eX kr
theorem MX:ol prog 93 3:=⟨_,underlying93,rfl,by as_aux_lemma=>kernel_rfl⟩
theorem MY:bx prog 93 3:=by unfold bx;as_aux_lemma=>kernel_rfl
theorem MZ:cd prog 93 [.nilFunc,.nilFunc,.nilFunc]:=by unfold cd;as_aux_lemma=>kernel_rfl
theorem vF:jc prog 100 0 0:=⟨_,_,qQ,rfl,rfl,by as_aux_lemma=>kernel_rfl⟩
theorem M0:jc prog 100 2 2:=⟨_,_,qQ,rfl,rfl,by as_aux_lemma=>kernel_rfl⟩
theorem M1:jc prog 100 3 3:=⟨_,_,qQ,rfl,rfl,by as_aux_lemma=>kernel_rfl⟩
theorem sf:bx prog 100 5:=by unfold bx;as_aux_lemma=>kernel_rfl
theorem vG:dH prog 100 5:=eX kr
theorem vH:lh prog 103:=⟨_,underlying103,rfl⟩
theorem GI:bx prog 103 1:=by unfold bx;as_aux_lemma=>kernel_rfl
theorem si:jc prog 106 0 0:=⟨_,_,underlying106,rfl,rfl,by as_aux_lemma=>kernel_rfl⟩
theorem CB:jc prog 106 1 1:=⟨_,_,underlying106,rfl,rfl,by as_aux_lemma=>kernel_rfl⟩
theorem pY:bx prog 106 2:=by unfold bx;as_aux_lemma=>kernel_rfl
theorem GJ:dH prog 106 2:=eX kr
theorem M2:ol prog 111 2:=⟨_,qR,rfl,by as_aux_lemma=>kernel_rfl⟩
theorem tp:jc prog 111 0 0:=⟨_,_,qR,rfl,rfl,by as_aux_lemma=>kernel_rfl⟩
theorem vI:jc prog 111 1 1:=⟨_,_,qR,rfl,rfl,by as_aux_lemma=>kernel_rfl⟩
theorem o8:bx prog 111 2:=by unfold bx;as_aux_lemma=>kernel_rfl
theorem M3:cd prog 111 [.int .i64 0,.string ad]:=by unfold cd;as_aux_lemma=>kernel_rfl
theorem M4:dH prog 111 2:=eX kr
theorem xv:lh prog 115:=⟨_,underlying115,rfl⟩
theorem GK:bx prog 115 1:=by unfold bx;as_aux_lemma=>kernel_rfl
theorem GL:cd prog 115 [.map none]:=by unfold cd;as_aux_lemma=>kernel_rfl
theorem Ad:lh prog 116:=⟨_,underlying116,rfl⟩
theorem GM:bx prog 116 1:=by unfold bx;as_aux_lemma=>kernel_rfl
theorem GN:cd prog 116 [.map none]:=by unfold cd;as_aux_lemma=>kernel_rfl
theorem uh:lh prog 120:=⟨_,underlying120,rfl⟩
theorem GO:bx prog 120 1:=by unfold bx;as_aux_lemma=>kernel_rfl
theorem M5:cd prog 120 [.slice none 0 0]:=by unfold cd;as_aux_lemma=>kernel_rfl
theorem qw:ol prog 123 5:=⟨_,jO,rfl,by as_aux_lemma=>kernel_rfl⟩
theorem CC:jc prog 123 1 1:=⟨_,_,jO,rfl,rfl,by as_aux_lemma=>kernel_rfl⟩
theorem zgo:jc prog 123 2 2:=⟨_,_,jO,rfl,rfl,by as_aux_lemma=>kernel_rfl⟩
theorem Ae:jc prog 123 3 3:=⟨_,_,jO,rfl,rfl,by as_aux_lemma=>kernel_rfl⟩
theorem Af:jc prog 123 4 4:=⟨_,_,jO,rfl,rfl,by as_aux_lemma=>kernel_rfl⟩
theorem sj:bx prog 123 5:=by unfold bx;as_aux_lemma=>kernel_rfl
theorem Ag:cd prog 123 [.int .i64 0,.int .u8 0,.int .i32 0,.slice none 0 0,.slice none 0 0]:=by unfold cd;as_aux_lemma=>kernel_rfl
theorem GP:dH prog 123 5:=eX kr
theorem M6:ol prog 126 2:=⟨_,underlying126,rfl,by as_aux_lemma=>kernel_rfl⟩
theorem GQ:bx prog 126 2:=by unfold bx;as_aux_lemma=>kernel_rfl
theorem M7:cd prog 126 [.int .i32 0,.int .i32 0]:=by unfold cd;as_aux_lemma=>kernel_rfl
theorem xw:ol prog 127 2:=⟨_,underlying127,rfl,by as_aux_lemma=>kernel_rfl⟩
theorem GR:bx prog 127 2:=by unfold bx;as_aux_lemma=>kernel_rfl
theorem CD:cd prog 127 [.int .i32 0,.int .i32 0]:=by unfold cd;as_aux_lemma=>kernel_rfl
theorem GS:lh prog 129:=⟨_,underlying129,rfl⟩
theorem M8:bx prog 129 1:=by unfold bx;as_aux_lemma=>kernel_rfl
theorem lB:ol prog 132 4:=⟨_,jP,rfl,by as_aux_lemma=>kernel_rfl⟩
theorem zd6:jc prog 132 0 0:=⟨_,_,jP,rfl,rfl,by as_aux_lemma=>kernel_rfl⟩
theorem qx:jc prog 132 1 1:=⟨_,_,jP,rfl,rfl,by as_aux_lemma=>kernel_rfl⟩
theorem pZ:jc prog 132 2 2:=⟨_,_,jP,rfl,rfl,by as_aux_lemma=>kernel_rfl⟩
theorem Ah:jc prog 132 3 3:=⟨_,_,jP,rfl,rfl,by as_aux_lemma=>kernel_rfl⟩
theorem kC:bx prog 132 4:=by unfold bx;as_aux_lemma=>kernel_rfl
theorem zjz:cd prog 132 [.int .i64 0,.int .i64 0,.int .i32 0,.bool false]:=by unfold cd;as_aux_lemma=>kernel_rfl
theorem GT:dH prog 132 4:=eX kr
theorem GU:ol prog 137 3:=⟨_,underlying137,rfl,by as_aux_lemma=>kernel_rfl⟩
theorem Ai:bx prog 137 3:=by unfold bx;as_aux_lemma=>kernel_rfl
theorem GV:cd prog 137 [.string ad,.string ad,.string ad]:=by unfold cd;as_aux_lemma=>kernel_rfl
theorem M9:lh prog 152:=⟨_,underlying152,rfl⟩
theorem GW:ol prog 155 4:=⟨_,jQ,rfl,by as_aux_lemma=>kernel_rfl⟩
theorem Aj:jc prog 155 0 0:=⟨_,_,jQ,rfl,rfl,by as_aux_lemma=>kernel_rfl⟩
theorem Ak:jc prog 155 1 1:=⟨_,_,jQ,rfl,rfl,by as_aux_lemma=>kernel_rfl⟩
theorem Al:jc prog 155 2 2:=⟨_,_,jQ,rfl,rfl,by as_aux_lemma=>kernel_rfl⟩
theorem zrS:jc prog 155 3 3:=⟨_,_,jQ,rfl,rfl,by as_aux_lemma=>kernel_rfl⟩
theorem re:bx prog 155 4:=by unfold bx;as_aux_lemma=>kernel_rfl
theorem Na:cd prog 155 [.int .i64 0,.int .i64 0,.int .i32 0,.bool false]:=by unfold cd;as_aux_lemma=>kernel_rfl
theorem Nb:dH prog 155 4:=eX kr
abbrev dm (n:Nat):Prop:=∀args w,(callFunc n args).run prog w=.ok (.enter n args) w
theorem GX:dm 7:=enters_of func7 kr rfl
theorem GY:dm 8:=enters_of func8 kr rfl
theorem CE:dm 9:=enters_of func9 kr rfl
theorem Nc:dm 10:=enters_of func10 kr rfl
theorem Nd:dm 12:=enters_of func12 kr rfl
theorem GZ:dm 13:=enters_of func13 kr rfl
theorem Nf:dm 14:=enters_of func14 kr rfl
theorem Ng:dm 15:=enters_of func15 kr rfl
theorem G0:dm 16:=enters_of func16 kr rfl
theorem Nh:dm 18:=enters_of func18 kr rfl
theorem Ni:dm 21:=enters_of func21 kr rfl
theorem Nj:dm 22:=enters_of func22 kr rfl
theorem Am:dm 23:=enters_of func23 kr rfl
theorem G1:dm 24:=enters_of func24 kr rfl
theorem Nk:dm 25:=enters_of func25 kr rfl
theorem Nm:dm 26:=enters_of func26 kr rfl
theorem Nn:dm 27:=enters_of func27 kr rfl
theorem Np:dm 28:=enters_of func28 kr rfl
theorem Nq:dm 29:=enters_of func29 kr rfl
theorem Nr:dm 30:=enters_of func30 kr rfl
theorem Ns:dm 31:=enters_of func31 kr rfl
theorem G2:dm 32:=enters_of func32 kr rfl
theorem Nt:dm 33:=enters_of func33 kr rfl
theorem Nu:dm 34:=enters_of func34 kr rfl
theorem G3:dm 35:=enters_of func35 kr rfl
theorem CF:dm 36:=enters_of func36 kr rfl
theorem vJ:dm 37:=enters_of func37 kr rfl
theorem xx:dm 38:=enters_of func38 kr rfl
theorem CG:dm 39:=enters_of func39 kr rfl
theorem G4:dm 40:=enters_of func40 kr rfl
theorem Nv:dm 41:=enters_of func41 kr rfl
theorem G5:dm 42:=enters_of func42 kr rfl
theorem CH:dm 43:=enters_of func43 kr rfl
theorem Nw:dm 44:=enters_of func44 kr rfl
theorem Nx:dm 45:=enters_of func45 kr rfl
theorem CI:dm 46:=enters_of func46 kr rfl
theorem Ny:dm 47:=enters_of func47 kr rfl
theorem CJ:dm 48:=enters_of func48 kr rfl
theorem CK:dm 49:=enters_of func49 kr rfl
theorem Nz:dm 50:=enters_of func50 kr rfl
theorem NA:dm 55:=enters_of func55 kr rfl
theorem NB:dm 56:=enters_of func56 kr rfl
theorem G6:dm 57:=enters_of func57 kr rfl
theorem CL:dm 58:=enters_of func58 kr rfl
theorem An:dm 59:=enters_of func59 kr rfl
theorem NC:dm 60:=enters_of func60 kr rfl
theorem G7:dm 61:=enters_of func61 kr rfl
theorem xy:dm 62:=enters_of func62 kr rfl
theorem ND:dm 63:=enters_of func63 kr rfl
theorem NE:dm 64:=enters_of func64 kr rfl
theorem G8:dm 65:=enters_of func65 kr rfl
theorem G9:dm 66:=enters_of func66 kr rfl
theorem NF:dm 67:=enters_of func67 kr rfl
theorem NG:dm 68:=enters_of func68 kr rfl
theorem NH:dm 69:=enters_of func69 kr rfl
theorem rf:dm 70:=enters_of func70 kr rfl
theorem NI:dm 71:=enters_of func71 kr rfl
theorem NJ:dm 72:=enters_of func72 kr rfl
theorem CM:dm 74:=enters_of func74 kr rfl
theorem CN:dm 75:=enters_of func75 kr rfl
theorem CO:dm 76:=enters_of func76 kr rfl
theorem NK:dm 77:=enters_of func77 kr rfl
theorem Ao:dm 78:=enters_of func78 kr rfl
theorem NL:dm 79:=enters_of func79 kr rfl
theorem Ha:dm 80:=enters_of func80 kr rfl
theorem xz:dm 81:=enters_of func81 kr rfl
theorem NM:dm 82:=enters_of func82 kr rfl
theorem Hb:dm 83:=enters_of func83 kr rfl
theorem Aq:dm 84:=enters_of func84 kr rfl
theorem Hc:dm 85:=enters_of func85 kr rfl
theorem NN:dm 86:=enters_of func86 kr rfl
theorem CP:dm 87:=enters_of func87 kr rfl
theorem NO:dm 88:=enters_of func88 kr rfl
theorem vK:dm 89:=enters_of func89 kr rfl
theorem NP:dm 90:=enters_of func90 kr rfl
theorem NQ:dm 91:=enters_of func91 kr rfl
theorem He:dm 92:=enters_of func92 kr rfl
theorem NR:dm 93:=enters_of func93 kr rfl
theorem NS:dm 95:=enters_of func95 kr rfl
theorem Hf:dm 96:=enters_of func96 kr rfl
theorem NT:dm 97:=enters_of func97 kr rfl
theorem Hh:dm 98:=enters_of func98 kr rfl
theorem NU:dm 99:=enters_of func99 kr rfl
theorem Au:dm 100:=enters_of func100 kr rfl
theorem Hi:dm 101:=enters_of func101 kr rfl
theorem xA:dm 102:=enters_of func102 kr rfl
theorem NV:dm 103:=enters_of func103 kr rfl
theorem NW:dm 105:=enters_of func105 kr rfl
theorem NX:dm 106:=enters_of func106 kr rfl
theorem NY:dm 107:=enters_of func107 kr rfl
theorem NZ:dm 108:=enters_of func108 kr rfl
theorem N0:dm 109:=enters_of func109 kr rfl
theorem N1:dm 110:=enters_of func110 kr rfl
theorem CQ:dm 112:=enters_of func112 kr rfl
theorem N2:dm 113:=enters_of func113 kr rfl
theorem N3:dm 114:=enters_of func114 kr rfl
theorem CR:dm 116:=enters_of func116 kr rfl
theorem N4:dm 117:=enters_of func117 kr rfl
theorem N5:dm 118:=enters_of func118 kr rfl
theorem N6:dm 119:=enters_of func119 kr rfl
theorem N7:dm 120:=enters_of func120 kr rfl
theorem N8:dm 121:=enters_of func121 kr rfl
theorem xB:dm 122:=enters_of func122 kr rfl
theorem Hj:dm 123:=enters_of func123 kr rfl
theorem N9:dm 124:=enters_of func124 kr rfl
theorem Oa:dm 128:=enters_of func128 kr rfl
theorem CS:dm 129:=enters_of func129 kr rfl
theorem Hk:dm 130:=enters_of func130 kr rfl
theorem Oc:dm 131:=enters_of func131 kr rfl
theorem xC:dm 132:=enters_of func132 kr rfl
theorem CT:dm 133:=enters_of func133 kr rfl
theorem Od:dm 134:=enters_of func134 kr rfl
theorem Oe:dm 135:=enters_of func135 kr rfl
theorem Av:dm 136:=enters_of func136 kr rfl
theorem Hm:dm 138:=enters_of func138 kr rfl
theorem CU:dm 139:=enters_of func139 kr rfl
theorem Of:dm 140:=enters_of func140 kr rfl
theorem Og:dm 146:=enters_of func146 kr rfl
theorem Oh:dm 148:=enters_of func148 kr rfl
theorem Oi:dm 149:=enters_of func149 kr rfl
theorem Hn:dm 150:=enters_of func150 kr rfl
theorem vL:dm 151:=enters_of func151 kr rfl
theorem xD:dm 154:=enters_of func154 kr rfl
theorem Oj:dm 155:=enters_of func155 kr rfl
theorem Ok:dm 159:=enters_of func159 kr rfl
theorem Ol:dm 160:=enters_of func160 kr rfl
theorem Om:dm 161:=enters_of func161 kr rfl
theorem On:dm 165:=enters_of func165 kr rfl
theorem Oo:dm 166:=enters_of func166 kr rfl
theorem Oq:dm 174:=enters_of func174 kr rfl
theorem mixed:prog.follows .mixedOrders=true:=by as_aux_lemma=>kernel_rfl
end
@[ext] structure zaw where
 Err:Int
 At:Int
def vM (a b:zaw):Bool:=(a.Err==b.Err)&&(a.At==b.At)
theorem Ot (a b:zaw):vM a b=true↔a=b:=by
 rcases a with⟨a0,a1⟩
 rcases b with⟨b0,b1⟩
 simp[vM,aN,and_assoc]
instance:DecidableEq zaw:=fun a b=>decidable_of_iff _ (Ot a b)
@[ext] structure bK where
 Rune:Int
 Text:ae
 At:Int
def oL (x:bK):List Value:=[.int .i32 x.Rune,.string x.Text,.int .i64 x.At]
theorem js (x:bK):(oL x).length=3:=rfl
theorem tq (x:bK):∀u∈oL x,u.oneCell'=true:=by
 intro u hu
 simp only[oL,aY,cX,or_false] at hu
 rcases hu with rfl|rfl|rfl<;>rfl
def Ho (a b:bK):Bool:=(a.Rune==b.Rune)&&decide (a.Text=b.Text)&&(a.At==b.At)
theorem Ou (a b:bK):Ho a b=true↔a=b:=by
 rcases a with⟨a0,a1,h⟩
 rcases b with⟨b0,b1,f⟩
 simp[Ho,aN,and_assoc]
instance:DecidableEq bK:=fun a b=>decidable_of_iff _ (Ou a b)
@[ext] structure CV where
 e0:Bool
 e1:Bool
def Hq (a b:CV):Bool:=(a.e0==b.e0)&&(a.e1==b.e1)
theorem Ov (a b:CV):Hq a b=true↔a=b:=by
 rcases a with⟨a0,a1⟩
 rcases b with⟨b0,b1⟩
 simp[Hq,aN,and_assoc]
instance:DecidableEq CV:=fun a b=>decidable_of_iff _ (Ov a b)
@[ext] structure dq where
 sort:Int
 place:Int
 digits:ae
 marks:ae
 great:Int
def qy (x:dq):List Value:=[.int .i64 x.sort,.int .i64 x.place,.string x.digits,.string x.marks,.int .i64 x.great]
theorem rh (x:dq):(qy x).length=5:=rfl
theorem Hr (x:dq):∀u∈qy x,u.oneCell'=true:=by
 intro u hu
 simp only[qy,aY,cX,or_false] at hu
 rcases hu with rfl|rfl|rfl|rfl|rfl<;>rfl
def Hs (a b:dq):Bool:=(a.sort==b.sort)&&(a.place==b.place)&&decide (a.digits=b.digits)&&decide (a.marks=b.marks)&&(a.great==b.great)
theorem Ow (a b:dq):Hs a b=true↔a=b:=by
 rcases a with⟨a0,a1,r,q,n⟩
 rcases b with⟨b0,b1,l,h,f⟩
 simp[Hs,aN,and_assoc]
instance:DecidableEq dq:=fun a b=>decidable_of_iff _ (Ow a b)
@[ext] structure dr where
 Sort_:Int
 Digits:ae
 Place:Int
 Marks:ae
 Great:Bool
def xE (x:dr):List Value:=[.int .i64 x.Sort_,.string x.Digits,.int .i64 x.Place,.string x.Marks,.bool x.Great]
theorem oM (x:dr):(xE x).length=5:=rfl
theorem vN (x:dr):∀u∈xE x,u.oneCell'=true:=by
 intro u hu
 simp only[xE,aY,cX,or_false] at hu
 rcases hu with rfl|rfl|rfl|rfl|rfl<;>rfl
def Ht (a b:dr):Bool:=(a.Sort_==b.Sort_)&&decide (a.Digits=b.Digits)&&(a.Place==b.Place)&&decide (a.Marks=b.Marks)&&(a.Great==b.Great)
theorem Ox (a b:dr):Ht a b=true↔a=b:=by
 rcases a with⟨a0,a1,r,q,n⟩
 rcases b with⟨b0,b1,l,h,f⟩
 simp[Ht,aN,and_assoc]
instance:DecidableEq dr:=fun a b=>decidable_of_iff _ (Ox a b)
@[ext] structure gI where
 at_:Int
 text:ae
def vO (x:gI):List Value:=[.int .i64 x.at_,.string x.text]
theorem CW (x:gI):(vO x).length=2:=rfl
theorem Hu (x:gI):∀u∈vO x,u.oneCell'=true:=by
 intro u hu
 simp only[vO,aY,cX,or_false] at hu
 rcases hu with rfl|rfl<;>rfl
def Hv (a b:gI):Bool:=(a.at_==b.at_)&&decide (a.text=b.text)
theorem Oy (a b:gI):Hv a b=true↔a=b:=by
 rcases a with⟨a0,a1⟩
 rcases b with⟨b0,b1⟩
 simp[Hv,aN,and_assoc]
instance:DecidableEq gI:=fun a b=>decidable_of_iff _ (Oy a b)
@[ext] structure gk where
 at_:Int
 text:ae
def ui (x:gk):List Value:=[.int .i64 x.at_,.string x.text]
theorem Aw (x:gk):(ui x).length=2:=rfl
theorem Oz (x:gk):∀u∈ui x,u.oneCell'=true:=by
 intro u hu
 simp only[ui,aY,cX,or_false] at hu
 rcases hu with rfl|rfl<;>rfl
def Hw (a b:gk):Bool:=(a.at_==b.at_)&&decide (a.text=b.text)
theorem OA (a b:gk):Hw a b=true↔a=b:=by
 rcases a with⟨a0,a1⟩
 rcases b with⟨b0,b1⟩
 simp[Hw,aN,and_assoc]
instance:DecidableEq gk:=fun a b=>decidable_of_iff _ (OA a b)
@[ext] structure jK where
 e0:Int
 e1:Int
def CX (x:jK):List Value:=[.int .i32 x.e0,.int .i32 x.e1]
theorem Hy (x:jK):(CX x).length=2:=rfl
def Hz (a b:jK):Bool:=(a.e0==b.e0)&&(a.e1==b.e1)
theorem OB (a b:jK):Hz a b=true↔a=b:=by
 rcases a with⟨a0,a1⟩
 rcases b with⟨b0,b1⟩
 simp[Hz,aN,and_assoc]
instance:DecidableEq jK:=fun a b=>decidable_of_iff _ (OB a b)
@[ext] structure zam where
 e0:Int
 e1:Int
def HA (a b:zam):Bool:=(a.e0==b.e0)&&(a.e1==b.e1)
theorem OC (a b:zam):HA a b=true↔a=b:=by
 rcases a with⟨a0,a1⟩
 rcases b with⟨b0,b1⟩
 simp[HA,aN,and_assoc]
instance:DecidableEq zam:=fun a b=>decidable_of_iff _ (OC a b)
@[ext] structure cT where
 At:Int
 Width:Int
 Rune:Int
 Broken:Bool
def ot (x:cT):List Value:=[.int .i64 x.At,.int .i64 x.Width,.int .i32 x.Rune,.bool x.Broken]
theorem Ax (x:cT):(ot x).length=4:=rfl
theorem HB (x:cT):∀u∈ot x,u.oneCell'=true:=by
 intro u hu
 simp only[ot,aY,cX,or_false] at hu
 rcases hu with rfl|rfl|rfl|rfl<;>rfl
def HC (a b:cT):Bool:=(a.At==b.At)&&(a.Width==b.Width)&&(a.Rune==b.Rune)&&(a.Broken==b.Broken)
theorem OD (a b:cT):HC a b=true↔a=b:=by
 rcases a with⟨a0,a1,n,l⟩
 rcases b with⟨b0,b1,h,f⟩
 simp[HC,aN,and_assoc]
instance:DecidableEq cT:=fun a b=>decidable_of_iff _ (OD a b)
@[ext] structure V5 where
 e0_0:Int
 e0_1:Int
 e1_0:Int
 e1_1:Int
 e2_0:Int
 e2_1:Int
 e3_0:Int
 e3_1:Int
 e4_0:Int
 e4_1:Int
 e5_0:Int
 e5_1:Int
 e6_0:Int
 e6_1:Int
 e7_0:Int
 e7_1:Int
@[ext] structure gL where
 e0:ae
 e1:ae
 e2:ae
def HD (x:gL):List Value:=[.string x.e0,.string x.e1,.string x.e2]
theorem CY (x:gL):(HD x).length=3:=rfl
def HE (a b:gL):Bool:=decide (a.e0=b.e0)&&decide (a.e1=b.e1)&&decide (a.e2=b.e2)
theorem OE (a b:gL):HE a b=true↔a=b:=by
 rcases a with⟨a0,a1,h⟩
 rcases b with⟨b0,b1,f⟩
 simp[HE,aN,and_assoc]
instance:DecidableEq gL:=fun a b=>decidable_of_iff _ (OE a b)
@[ext] structure eC where
 At:Int
 Width:Int
 Rune:Int
 Broken:Bool
def xF (x:eC):List Value:=[.int .i64 x.At,.int .i64 x.Width,.int .i32 x.Rune,.bool x.Broken]
theorem ri (x:eC):(xF x).length=4:=rfl
theorem OG (x:eC):∀u∈xF x,u.oneCell'=true:=by
 intro u hu
 simp only[xF,aY,cX,or_false] at hu
 rcases hu with rfl|rfl|rfl|rfl<;>rfl
def HF (a b:eC):Bool:=(a.At==b.At)&&(a.Width==b.Width)&&(a.Rune==b.Rune)&&(a.Broken==b.Broken)
theorem OH (a b:eC):HF a b=true↔a=b:=by
 rcases a with⟨a0,a1,n,l⟩
 rcases b with⟨b0,b1,h,f⟩
 simp[HF,aN,and_assoc]
instance:DecidableEq eC:=fun a b=>decidable_of_iff _ (OH a b)
@[ext] structure V6 where
 e0_lo:Int
 e0_hi:Int
 e1_lo:Int
 e1_hi:Int
 e2_lo:Int
 e2_hi:Int
 e3_lo:Int
 e3_hi:Int
 e4_lo:Int
 e4_hi:Int
 e5_lo:Int
 e5_hi:Int
 e6_lo:Int
 e6_hi:Int
 e7_lo:Int
 e7_hi:Int
 e8_lo:Int
 e8_hi:Int
 e9_lo:Int
 e9_hi:Int
 e10_lo:Int
 e10_hi:Int
 e11_lo:Int
 e11_hi:Int
 e12_lo:Int
 e12_hi:Int
 e13_lo:Int
 e13_hi:Int
 e14_lo:Int
 e14_hi:Int
 e15_lo:Int
 e15_hi:Int
theorem OI {x y:Operand} (a b:zaw) (w:World):(do eqGuard .eql 26 x y (.agg #[.int .i64 a.Err,.int .i64 a.At]) (.agg #[.int .i64 b.Err,.int .i64 b.At]);binOp .eql 26 (.agg #[.int .i64 a.Err,.int .i64 a.At]) (.agg #[.int .i64 b.Err,.int .i64 b.At]):Sem Value).run prog w=.ok (.bool (vM a b)) w :=
 L8 kr (show ((a.Err==b.Err)&&((a.At==b.At)&&true))=vM a b by simp[vM,Bool.and_assoc]) (L7 (dd:=9999) kr kr (FZ (ft:=24) (off:=0) (a:=.int .i64 a.Err) (b:=.int .i64 b.Err) kr (fun _=>by kernel_rfl) (fun _=>by kernel_rfl) (F0 underlying24) (FZ (ft:=3) (off:=1) (a:=.int .i64 a.At) (b:=.int .i64 b.At) kr (fun _=>by kernel_rfl) (fun _=>by kernel_rfl) (F0 underlying3) (L6 (n:=2) kr)))) w
structure db where
 Units:List ae
 Fors:List (ae×List ae)
 Skips:List ae
 Lines:List ae
def pu (z:db×Hd×Hd×Hd×Hd):List Value:=[z.2.1.v,.map (some (bm z.2.2.1)),z.2.2.2.1.v,z.2.2.2.2.v]
def pv (z:db×Hd×Hd×Hd×Hd):List Asn:=[vec gN 9 1 z.2.1.v z.1.Units,dU (bm z.2.2.1) z.1.Fors,vec gN 9 1 z.2.2.2.1.v z.1.Skips,vec gN 9 1 z.2.2.2.2.v z.1.Lines]
structure cw where
 units:List ae
 place:List (ae×Int)
 fors:List (ae×List ae)
 skips:List (ae×Bool)
 lines:List ae
def nj (z:cw×Hd×Hd×Hd×Hd×Hd):List Value:=[z.2.1.v,.map (some (bm z.2.2.1)),.map (some (bm z.2.2.2.1)),.map (some (bm z.2.2.2.2.1)),z.2.2.2.2.2.v]
def nk (z:cw×Hd×Hd×Hd×Hd×Hd):List Asn:=[vec gN 9 1 z.2.1.v z.1.units,cG (fun n:ae=>af n) (fun n:Int=>aC .i64 n) (bm z.2.2.1) z.1.place,dU (bm z.2.2.2.1) z.1.fors,cG (fun n:ae=>af n) (fun n:Bool=>Value.bool n) (bm z.2.2.2.2.1) z.1.skips,vec gN 9 1 z.2.2.2.2.2.v z.1.lines]
structure cY where
 at_:Int
 broken:Int
 base:Int
 low:List Int
 high:List Int
def lN (z:cY×Hd×Hd):List Value:=[.int .i64 z.1.at_,.int .u8 z.1.broken,.int .i32 z.1.base,z.2.1.v,z.2.2.v]
def iv (z:cY×Hd×Hd):List Asn:=[vec (kl (.i32)) 21 1 z.2.1.v z.1.low,vec (kl (.i32)) 21 1 z.2.2.v z.1.high]
theorem o9 (z:cY×Hd×Hd):(lN z).length=5:=rfl
theorem HG (z:cY×Hd×Hd):∀u∈lN z,u.oneCell'=true:=by
 intro u hu
 simp only[lN,aY,cX,or_false] at hu
 rcases hu with rfl|rfl|rfl|rfl|rfl<;>rfl
theorem HH:∀ (P:List Pc) (i:Nat) (l:List UInt8) (x:Pc) (B:List Pc),mX i l=P++x::B →
  ∃n,x.i=i+n∧n+x.w≤l.length∧xj (l.drop n) x.r x.w∧mX (i+n) (l.drop n)=x::B∧B=mX (x.i+x.w) (l.drop (n+x.w))
 |[],i,l,x,B,h=>by
  by_cases a:l=[]
  ·subst a;simp[sa] at h
  ·have f:=xk l a
   have h':=h
   rw[sb i l a] at h
   simp only[aW,fJ] at h
   obtain⟨rfl,hB⟩:=h
   exact⟨0,by simp,by simpa using f.le,by simpa using f,by simpa using h',by simpa using hB.symm⟩
 |p::P,i,l,x,B,h=>by
  by_cases a:l=[]
  ·subst a;simp[sa] at h
  ·have q:=xi l a
   rw[sb i l a] at h
   simp only[bq,fJ] at h
   obtain⟨n,h1,h2,h3,u,h5⟩:=HH P _ _ x B h.2
   refine⟨(decodeL l).2+n,by omega,by simp at h2;omega,by rw[←fa];exact h3,by rw[←fa,←fI];exact u,?_⟩
   rw[h5,fa,fI]
theorem HI (l:List UInt8) (P:List Pc) (x:Pc) (B:List Pc) (h:eA l=P++x::B) :
  x.i+x.w≤l.length∧xj (l.drop x.i) x.r x.w∧mX x.i (l.drop x.i)=x::B∧B=mX (x.i+x.w) (l.drop (x.i+x.w)):=by
 obtain⟨n,h1,h2,h3,a,h5⟩:=HH P 0 l x B h
 have:x.i=n:=by omega
 subst this
 exact⟨h2,h3,by simpa using a,h5⟩
theorem uj (l:List UInt8) (x:Pc) (h:x∈eA l):1≤x.w∧x.i+x.w≤l.length∧xj (l.drop x.i) x.r x.w:=by
 obtain⟨P,B,a⟩:=List.append_of_mem h
 obtain⟨h1,h2,_⟩:=HI l P x B a
 exact⟨h2.pos,h1,h2⟩
structure cN where
 r:Nat
 bs:List UInt8
 deriving DecidableEq
def cN.broken (t:cN):Bool:=t.r==65533&&t.bs.length==1
def cN.valid (t:cN):Prop:=(t.r<55296∨(57343<t.r∧t.r≤1114111))∧t.bs=encodeRune t.r
def bJ (ts:List cN):List UInt8:=ts.flatMap cN.bs
def rj:Nat→List UInt8→List cN
 |0,_=>[]
 |f+1,l=>if l=[] then [] else ⟨(decodeL l).1,l.take (decodeL l).2⟩::rj f (l.drop (decodeL l).2)
def dK (l:List UInt8):List cN:=rj l.length l
theorem ko (t:cN) (ts:List cN):bJ (t::ts)=t.bs++bJ ts:=by simp[bJ]
theorem kp (a b:List cN):bJ (a++b)=bJ a++bJ b:=by simp[bJ]
theorem OJ:∀ (f g:Nat) (l:List UInt8),l.length≤f→l.length≤g→rj f l=rj g l:=by
 intro f
 induction f with
 |zero=>
  intro g l h1 h2
  have:l=[]:=ck (by omega)
  subst this
  cases g<;>simp[rj]
 |succ f n=>
  intro g l h1 h2
  cases g with
  |zero=>
   have:l=[]:=ck (by omega)
   subst this
   simp[rj]
  |succ g=>
   by_cases a:l=[]
   ·simp[rj,a]
   ·simp only[rj,a,if_false]
    have:=rZ l
    have h:0<l.length:=cU.2 a
    rw[n g _ (by simp;omega) (by simp;omega)]
theorem uk:dK []=[]:=by simp[dK,rj]
theorem um (l:List UInt8) (h:l≠[]):dK l=⟨(decodeL l).1,l.take (decodeL l).2⟩::dK (l.drop (decodeL l).2):=by
 have a:0<l.length:=cU.2 h
 unfold dK
 obtain⟨n,f⟩:∃n,l.length=n+1:=⟨l.length-1,by omega⟩
 rw[f]
 simp only[rj,h,if_false]
 have:=rZ l
 rw[OJ n (l.drop (decodeL l).2).length _ (by simp;omega) (bi _)]
theorem Ay {P:List UInt8→Prop} (h0:P []) (h1:∀l,l≠[]→P (l.drop (decodeL l).2)→P l):∀l,P l:=by
 have key:∀ (n:Nat) (l:List UInt8),l.length≤n→P l:=by
  intro n
  induction n with
  |zero=>intro l h;rw[ck (by omega:l.length=0)];exact h0
  |succ n f=>
   intro l h
   by_cases a:l=[]
   ·rw[a];exact h0
   ·have:=rZ l
    exact h1 l a (f _ (by simp;omega))
 exact fun l=>key l.length l (bi _)
theorem pa (l:List UInt8):bJ (dK l)=l:=by
 induction l using Ay with
 |h0=>rw[uk];rfl
 |h1 l f a=>rw[um l f,ko,a];exact bO _ _
theorem OK (l:List UInt8) (h:l≠[]):(⟨(decodeL l).1,l.take (decodeL l).2⟩:cN).valid∨(⟨(decodeL l).1,l.take (decodeL l).2⟩:cN).broken=true:=by
 by_cases hb:(decodeL l).1=65533∧(decodeL l).2=1
 ·right
  have a:0<l.length:=cU.2 h
  simp[cN.broken,hb.1,hb.2];omega
 ·left
  exact⟨F9 l,(encode_decode l h hb).symm⟩
theorem nX (l:List UInt8):∀t∈dK l,t.valid∨t.broken=true:=by
 induction l using Ay with
 |h0=>rw[uk];simp
 |h1 l a f=>
  rw[um l a]
  intro t ht
  rcases aY.1 ht with rfl|ht
  ·exact OK l a
  ·exact f t ht
theorem vP {t:cN} (h:t.valid):t.broken=false:=by
 unfold cN.broken
 by_cases hr:t.r=65533
 ·have:=h.2;rw[hr,Ch] at this;simp[this]
 ·simp[hr]
theorem Az {t:cN} (h:t.valid∨t.broken=true):t.bs≠[]:=by
 rcases h with h|h
 ·rw[h.2];intro e;have:=(xh (t.r:Int)).1;rw[e] at this;simp at this
 ·intro e;unfold cN.broken at h;rw[e] at h;simp at h
def CZ (b:UInt8):Bool:=b.toNat / 64==2
def sn:List UInt8→Prop
 |[]=>True
 |b::_=>CZ b=false
theorem OL {n b0 b1 h f c1 c2 a m:Nat} (h1:n≤1∨b1 / 64≠2) (h2:m≤1∨c1 / 64≠2):decodeN n b0 b1 h f=decodeN m b0 c1 c2 a:=by
 unfold decodeN
 have e1:¬(1<n∧b1 / 64=2):=by omega
 have e2:¬(1<m∧c1 / 64=2):=by omega
 simp only[e1,e2,and_false,false_and,if_false]
theorem OM {n b0 b1 a l c2 h m:Nat} (f:1<n) (hm:1<m) (h1:n≤2∨a / 64≠2) (h2:m≤2∨c2 / 64≠2):decodeN n b0 b1 a l=decodeN m b0 b1 c2 h:=by
 unfold decodeN
 have e1:¬(2<n∧a / 64=2):=by omega
 have e2:¬(2<m∧c2 / 64=2):=by omega
 simp only[e1,e2,and_false,false_and,if_false,f,hm,true_and]
theorem ON {n b0 b1 q l h m:Nat} (r:2<n) (hm:2<m) (h1:n≤3∨l / 64≠2) (h2:m≤3∨h / 64≠2):decodeN n b0 b1 q l=decodeN m b0 b1 q h:=by
 unfold decodeN
 have e1:¬(3<n∧l / 64=2):=by omega
 have e2:¬(3<m∧h / 64=2):=by omega
 have a:1<n:=by omega
 have f:1<m:=by omega
 simp only[e1,e2,and_false,if_false,r,hm,a,f,true_and]
theorem OO {n b0 b1 r q m:Nat} (u:3<n) (hm:3<m):decodeN n b0 b1 r q=decodeN m b0 b1 r q:=by
 unfold decodeN
 have h:1<n:=by omega
 have l:1<m:=by omega
 have a:2<n:=by omega
 have f:2<m:=by omega
 simp only[u,hm,h,l,a,f,true_and]
theorem C3 {x:List UInt8} (h:sn x) (n:Nat):n+x.length≤n∨(x.getD 0 0).toNat / 64≠2:=by
 cases x with
 |nil=>simp
 |cons b x=>right;simpa [sn,CZ] using h
theorem OP (l x:List UInt8) (f:l≠[]) (hx:sn x):decodeL (l++x)=decodeL l:=by
 rw[decodeL_N,decodeL_N]
 rcases l with _|⟨a,_|⟨b,_|⟨c,_|⟨d,l⟩⟩⟩⟩
 ·exact absurd rfl f
 ·refine OL ?_ (.inl (by simp))
  rcases C3 hx 1 with h|h
  ·left;simp only[aa,ab,aI];omega
  ·right;simpa using h
 ·refine OM (by simp) (by simp) ?_ (.inl (by simp))
  rcases C3 hx 2 with h|h
  ·left;simp only[aa,ab,aI];omega
  ·right;simpa using h
 ·refine ON (by simp) (by simp) ?_ (.inl (by simp))
  rcases C3 hx 3 with h|h
  ·left;simp only[aa,ab,aI];omega
  ·right;simpa using h
 ·exact OO (by simp) (by simp)
theorem xG (l x:List UInt8) (hx:sn x):dK (l++x)=dK l++dK x:=by
 induction l using Ay with
 |h0=>rw[uk];rfl
 |h1 l f n=>
  have a:=xi l f
  have h:l++x≠[]:=by simp[f]
  rw[um _ h,um l f,OP l x f hx,List.drop_append_of_le_length a,n,List.take_append_of_le_length a]
  rfl
theorem C4 (r:Nat) (hv:r<55296∨(57343<r∧r≤1114111)) :
  (r≤127∧encodeRuneZ r=[(r:Int)])∨(128≤r∧r≤2047∧encodeRuneZ r=[192+(r:Int) / 64,128+(r:Int) % 64]) ∨
  (2048≤r∧r≤65535∧encodeRuneZ r=[224+(r:Int) / 4096,128+(r:Int) / 64 % 64,128+(r:Int) % 64]) ∨
  (65536≤r∧r≤1114111∧encodeRuneZ r=[240+(r:Int) / 262144,128+(r:Int) / 4096 % 64,128+(r:Int) / 64 % 64,128+(r:Int) % 64]):=by
 by_cases h1:r≤127
 ·exact .inl ⟨h1,encodeRuneZ_one (by omega) (by omega)⟩
 ·by_cases h2:r≤2047
  ·exact .inr (.inl ⟨by omega,h2,encodeRuneZ_two (by omega) (by omega)⟩)
  ·by_cases h3:r≤65535
   ·exact .inr (.inr (.inl ⟨by omega,h3,encodeRuneZ_three (by omega)⟩))
   ·exact .inr (.inr (.inr ⟨by omega,by omega,encodeRuneZ_four (by omega) (by omega)⟩))
theorem qz (z:Int) (_h0:0≤z) (h1:z<256):(z.toNat.toUInt8).toNat=z.toNat:=by
 simp;omega
theorem AA (r:Nat) (hv:r<55296∨(57343<r∧r≤1114111)) (x:List UInt8):decodeL (encodeRune r++x)=(r,(encodeRune r).length):=by
 rw[decodeL_N]
 rcases C4 r hv with⟨h,e⟩|⟨h,h',e⟩|⟨h,h',e⟩|⟨h,h',e⟩
 ·have a:encodeRune r=[((r:Int).toNat.toUInt8)]:=by simp only[encodeRune,e,av,dW]
  rw[a]
  simp only[bq,aW,iw,ab]
  rw[qz _ (by omega) (by omega)]
  unfold decodeN
  simp only[Int.toNat_natCast]
  rw[ax (by omega)]
  simp
 ·have a:encodeRune r=[((192+(r:Int) / 64).toNat.toUInt8),((128+(r:Int) % 64).toNat.toUInt8)]:=by simp only[encodeRune,e,av,dW]
  rw[a]
  simp only[bq,aW,iw,kS,ab]
  rw[qz _ (by omega) (by omega),qz _ (by omega) (by omega)]
  have a1:(192+(r:Int) / 64).toNat=192+r / 64:=by omega
  have D:(128+(r:Int) % 64).toNat=128+r % 64:=by omega
  rw[a1,D]
  unfold decodeN
  have c1:¬192+r / 64<128:=by omega
  have c2:(192+r / 64) / 32=6:=by omega
  have w:(128+r % 64) / 64=2:=by omega
  have q:(192+r / 64) % 32*64+(128+r % 64) % 64=r:=by omega
  have n:128≤r:=by omega
  rw[ap c1,ax ⟨c2,by omega,w⟩,q,ax n]
  rfl
 ·have a:encodeRune r=[((224+(r:Int) / 4096).toNat.toUInt8),((128+(r:Int) / 64 % 64).toNat.toUInt8),((128+(r:Int) % 64).toNat.toUInt8)]:=by simp only[encodeRune,e,av,dW]
  rw[a]
  simp only[bq,aW,iw,kS,ab]
  rw[qz _ (by omega) (by omega),qz _ (by omega) (by omega),qz _ (by omega) (by omega)]
  have a1:(224+(r:Int) / 4096).toNat=224+r / 4096:=by omega
  have D:(128+(r:Int) / 64 % 64).toNat=128+r / 64 % 64:=by omega
  have E:(128+(r:Int) % 64).toNat=128+r % 64:=by omega
  rw[a1,D,E]
  unfold decodeN
  have c1:¬224+r / 4096<128:=by omega
  have c2:(224+r / 4096) / 32≠6:=by omega
  have l:(224+r / 4096) / 16=14:=by omega
  have w:(128+r / 64 % 64) / 64=2:=by omega
  have f:(128+r % 64) / 64=2:=by omega
  have q:(224+r / 4096) % 16*4096+(128+r / 64 % 64) % 64*64+(128+r % 64) % 64=r:=by omega
  have n:2048≤r:=by omega
  rw[ap c1,ap (fun h=>c2 h.1),ax ⟨l,⟨by omega,w⟩,⟨by omega,f⟩⟩,q,ax ⟨n,by omega⟩]
  rfl
 ·have a:encodeRune r=[((240+(r:Int) / 262144).toNat.toUInt8),((128+(r:Int) / 4096 % 64).toNat.toUInt8),((128+(r:Int) / 64 % 64).toNat.toUInt8),((128+(r:Int) % 64).toNat.toUInt8)]:=by simp only[encodeRune,e,av,dW]
  rw[a]
  simp only[bq,aW,iw,kS,ab]
  rw[qz _ (by omega) (by omega),qz _ (by omega) (by omega),qz _ (by omega) (by omega),qz _ (by omega) (by omega)]
  have a1:(240+(r:Int) / 262144).toNat=240+r / 262144:=by omega
  have D:(128+(r:Int) / 4096 % 64).toNat=128+r / 4096 % 64:=by omega
  have G:(128+(r:Int) / 64 % 64).toNat=128+r / 64 % 64:=by omega
  have E:(128+(r:Int) % 64).toNat=128+r % 64:=by omega
  rw[a1,D,G,E]
  unfold decodeN
  have c1:¬240+r / 262144<128:=by omega
  have c2:(240+r / 262144) / 32≠6:=by omega
  have l:(240+r / 262144) / 16≠14:=by omega
  have C:(240+r / 262144) / 8=30:=by omega
  have w:(128+r / 4096 % 64) / 64=2:=by omega
  have f:(128+r / 64 % 64) / 64=2:=by omega
  have u:(128+r % 64) / 64=2:=by omega
  have q:(240+r / 262144) % 8*262144+(128+r / 4096 % 64) % 64*4096+(128+r / 64 % 64) % 64*64+(128+r % 64) % 64=r:=by omega
  have n:65536≤r:=by omega
  rw[ap c1,ap (fun h=>c2 h.1),ap (fun h=>l h.1),ax ⟨C,⟨by omega,w⟩,⟨by omega,f⟩,⟨by omega,u⟩⟩,q,ax ⟨n,by omega⟩]
  rfl
theorem OQ (r:Nat) (hv:r<55296∨(57343<r∧r≤1114111)) (x:List UInt8):sn (encodeRune r++x):=by
 rcases C4 r hv with⟨h,e⟩|⟨h,h',e⟩|⟨h,h',e⟩|⟨h,h',e⟩ <;>
 ·simp only[encodeRune,e,av,dW,bq,sn,CZ,aA,ne_eq]
  rw[qz _ (by omega) (by omega)]
  omega
theorem HJ {t:cN} (h:t.valid) (x:List UInt8):dK (t.bs++x)=t::dK x:=by
 have a:t.bs++x≠[]:=by simp[Az (.inl h)]
 rw[um _ a]
 rw[h.2,AA t.r h.1 x,←h.2]
 simp
theorem C5 {vs:List cN} (h:∀t∈vs,t.valid) (x:List UInt8):dK (bJ vs++x)=vs++dK x:=by
 induction vs with
 |nil=>rfl
 |cons t vs a=>
  rw[ko,aB,HJ (h t (aq ..)),a (fun q f=>h q (ak _ f))]
  rfl
theorem HK {vs:List cN} (a:vs≠[]) (h:∀t∈vs,t.valid) (x:List UInt8):sn (bJ vs++x):=by
 cases vs with
 |nil=>exact absurd rfl a
 |cons t vs=>
  have:=h t (aq ..)
  rw[ko,aB,this.2]
  exact OQ t.r this.1 _
def pb (ts:List cN):Prop:=dK (bJ ts)=ts
theorem C6 (l:List UInt8):pb (dK l):=by unfold pb;rw[pa]
theorem C7 {t:cN} {ts:List cN} (h:pb (t::ts)):pb ts:=by
 unfold pb at *
 by_cases f:bJ (t::ts)=[]
 ·rw[f,uk] at h;cases h
 ·rw[um _ f] at h
  have h1:(⟨(decodeL (bJ (t::ts))).1,(bJ (t::ts)).take (decodeL (bJ (t::ts))).2⟩:cN)=t:=by injection h
  have h2:dK ((bJ (t::ts)).drop (decodeL (bJ (t::ts))).2)=ts:=by injection h
  have h3:(bJ (t::ts)).take (decodeL (bJ (t::ts))).2=t.bs:=aH cN.bs h1
  have a:=bO (decodeL (bJ (t::ts))).2 (bJ (t::ts))
  rw[h3] at a
  have h5:(bJ (t::ts)).drop (decodeL (bJ (t::ts))).2=bJ ts:=by
   rw[ko] at a ⊢
   exact List.append_cancel_left a
  rw[←h5];exact h2
theorem xH {a ts:List cN} (h:pb (a++ts)):pb ts:=by
 induction a with
 |nil=>exact h
 |cons t a f=>exact f (C7 h)
inductive nL:List cN→List cN→Prop
 |nil:nL [] []
 |brk {b:cN} {ts us:List cN}:b.broken=true→nL ts us→nL (b::ts) (b::us)
 |val {gs vs ts us:List cN}:gs≠[]→vs≠[]→(∀t∈gs,t.valid)→(∀t∈vs,t.valid)→nL ts us→nL (gs++ts) (vs++us)
theorem nL.one {t:cN} {vs ts us:List cN} (ht:t.valid) (a:vs≠[]) (hv:∀t∈vs,t.valid) (h:nL ts us):nL (t::ts) (vs++us) :=
 nL.val (gs:=[t]) (by simp) a (by simpa using ht) hv h
theorem nL.head {ts us:List cN} (h:nL ts us):∃B f a,(∀b∈B,b.broken=true)∧ts=B++f∧us=B++a∧sn (bJ f)∧sn (bJ a):=by
 induction h with
 |nil=>exact⟨[],[],[],by simp,rfl,rfl,trivial,trivial⟩
 |brk hb _ n=>
  obtain⟨B,f,a,h1,rfl,rfl,l,h5⟩:=n
  exact⟨_::B,f,a,by simpa [hb] using h1,rfl,rfl,l,h5⟩
 |@val gs vs ts us h1 h2 h3 l _ n=>
  exact⟨[],gs++ts,vs++us,by simp,rfl,rfl,by rw[kp];exact HK h1 h3 _,by rw[kp];exact HK h2 l _⟩
theorem nL.good {ts us:List cN} (h:nL ts us) (hg:pb ts):pb us:=by
 induction h with
 |nil=>exact hg
 |@brk b ts us hb hs ih=>
  have n:=ih (C7 hg)
  obtain⟨B,f,l,h1,rfl,rfl,q,h5⟩:=hs.head
  unfold pb at *
  have r:b.bs≠[]:=Az (.inr hb)
  have e1:bJ (b::(B++f))=bJ (b::B)++bJ f:=by rw[←bq,kp]
  have e2:bJ (b::(B++l))=bJ (b::B)++bJ l:=by rw[←bq,kp]
  rw[e1,xG _ _ q] at hg
  rw[e2,xG _ _ h5]
  have C:dK (bJ f)=f:=by
   have:=xH (a:=B) (ts:=f) (by
    have u:pb (b::(B++f)):=by unfold pb;rw[e1,xG _ _ q];exact hg
    exact C7 u)
   exact this
  rw[kp,xG _ _ h5] at n
  have w:dK (bJ l)=l:=xH (a:=B) (by unfold pb;rw[kp,xG _ _ h5];exact n)
  rw[C,←bq] at hg
  rw[w,←bq]
  rw[List.append_cancel_right hg]
 |@val gs vs ts us h1 h2 h3 q _ ih=>
  unfold pb
  rw[kp,C5 q,show dK (bJ us)=us from ih (xH hg)]
def place:Nat→List cN→List Pc
 |_,[]=>[]
 |i,t::ts=>⟨i,t.bs.length,t.r⟩::place (i+t.bs.length) ts
theorem HL (l:List UInt8):∀i,mX i l=place i (dK l):=by
 induction l using Ay with
 |h0=>intro i;rw[uk,sa];rfl
 |h1 l a f=>
  intro i
  have h:=xi l a
  have e:(l.take (decodeL l).2).length=(decodeL l).2:=by simp;omega
  rw[sb i l a,um l a,place,f,e]
section
open Go.Shelf
attribute [local go_sem] kU Fh Fi Fj
theorem rk {a b:Bool} (h:a=b):nF (.bool a)=.returned (.bool b):=by rw[h]
theorem oN {k:IntKind} {a b:Int} (h:a=b):nF (.int k a)=.returned (.int k b):=by rw[h]
end
def xI (r:Int):Bool:=decide (r % 2=0)
def nY (r:Int):Prop :=
 (65≤r∧r≤90)∨(0xC0≤r∧r≤0xDE∧r≠0xD7)∨(((0x100≤r∧r≤0x137)∨(0x14A≤r∧r≤0x177))∧r % 2=0)∨(0x139≤r∧r≤0x148∧r % 2=1)∨r=0x178 ∨
 (0x179≤r∧r≤0x17D∧r % 2=1)∨(0x386≤r∧r≤0x38F∧r≠0x387∧r≠0x38B∧r≠0x38D)∨(0x391≤r∧r≤0x3AB∧r≠0x3A2)∨(0x400≤r∧r≤0x42F)
instance (r:Int):Decidable (nY r):=by unfold nY;infer_instance
def great (r:Int):Bool:=decide (nY r)
def qA (r:Int):Prop :=
 (97≤r∧r≤122)∨(0xDF≤r∧r≤0xFF∧r≠0xF7)∨(((0x100≤r∧r≤0x137)∨(0x14A≤r∧r≤0x177))∧r % 2=1)∨r=0x138∨r=0x149∨r=0x17F∨r=0x390 ∨
 (0x139≤r∧r≤0x148∧r % 2=0)∨(0x17A≤r∧r≤0x17E∧r % 2=0)∨(0x3AC≤r∧r≤0x3CE)∨(0x430≤r∧r≤0x45F)
instance (r:Int):Decidable (qA r):=by unfold qA;infer_instance
def nZ (r:Int):Bool:=decide (qA r)
def cW (r:Int):Bool:=great r||nZ r
def cr (r:Int):Int :=
 if !great r then r
 else if r=0x130 then 0x69 else if r=0x178 then 0xFF else if r=0x386 then 0x3AC else if r=0x38C then 0x3CC
 else if 0x388≤r∧r≤0x38A then r+0x25 else if r=0x38E∨r=0x38F then r+0x3F
 else if 0x400≤r∧r≤0x40F then r+0x50 else if r<0x100∨0x17F<r then r+0x20 else r+1
def sq (r:Int):Int :=
 if r=0xFF then 0xFF-0x178
 else if r<0x100∨(0x3B1≤r∧r≤0x3CB)∨(0x430≤r∧r≤0x44F) then 0x20
 else if r≤0x17F then 1
 else if r=0x3AC then 0x3AC-0x386
 else if 0x3AD≤r∧r≤0x3AF then 0x25
 else if r=0x3CC then 0x40
 else if r=0x3CD∨r=0x3CE then 0x3F
 else 0x50
def mY (r:Int):Int :=
 if !nZ r then r
 else if r=0x131 then 0x49 else if r=0x17F then 0x53 else if r=0x3C2 then 0x3A3
 else if great (r-sq r)&&(cr (r-sq r)==r) then r-sq r else r
def rl (r:Int):Int :=
 if r<0∨(0xD800≤r∧r≤0xDFFF)∨0x10FFFF<r then 0
 else if cW r then 1
 else if 0x300≤r∧r≤0x36F then 2
 else if 48≤r∧r≤57 then 3
 else if r=10∨r=13 then 4
 else if r=9∨r=32∨r=0xA0∨r=0x202F∨r=0x205F∨r=0x3000 then 5
 else if r=45∨(0x2010≤r∧r≤0x2015) then 6
 else if r=34∨r=39∨r=0xAB∨r=0xBB∨r=0x2039∨r=0x203A then 7
 else if r=33∨r=44∨r=46∨r=58∨r=59∨r=63∨r=0xA1∨r=0xB7∨r=0xBF∨r=0x2026 then 8
 else if 0x2000≤r∧r≤0x200A then 5
 else if 0x2018≤r∧r≤0x201F then 7
 else if r<0x20∨(0x7F≤r∧r≤0x9F)∨(0x200B≤r∧r≤0x200F)∨r=0xFEFF then 9
 else 10
def kind (r:Int):Int:=rl r
theorem rm (r:Int):great r=true↔nY r:=by simp[great]
theorem vQ (r:Int):nZ r=true↔qA r:=by simp[nZ]
section
open Go.Shelf
theorem OR (r:Int) (h0 : -2147483648≤r) (h1:r≤2147483647):(bits BinOp.and IntKind.i32 r 1==0)=xI r:=by
 have hk:bits .and .i32 r 1=r % 2:=by
  have h1:(fM 32 1).toNat=2 ^ 1-1:=by decide
  have key:(fM 32 r &&& fM 32 1).toNat=(r % ((2 ^ 32:Nat):Int)).toNat % 2 ^ 1:=by
   rw[BitVec.toNat_and,BitVec.toNat_ofInt,h1,Nat.and_two_pow_sub_one_eq_mod]
  show IntKind.i32.wrap ((fM 32 r &&& fM 32 1).toNat:Nat)=r % 2
  rw[key,IntKind.wrap_i32]
  omega
 rw[hk,xI,dL]
 simp
theorem HM (r:Int) (w:World) (h0 : -2147483648≤r) (h1:r≤2147483647) :
  Calls prog 115 #[.int .i32 r] w fun e w'=>e=.returned (.bool (xI r))∧w=w':=by
 go_enter func115,ntmps115
 go_wp2
 go_ret
 exact⟨rk (OR r h0 h1),rfl⟩
set_option maxHeartbeats 1000000 in
theorem xJ (r:Int) (w:World) (h0 : -2147483648≤r) (h1:r≤2147483647) :
  Calls prog 91 #[.int .i32 r] w fun e w'=>e=.returned (.bool (great r))∧w=w':=by
 go_enter func91,ntmps91
 go_wp2_with (go_at_call 115;refine (HM _ _ (by omega) (by omega)).mono ?_;rintro e w' ⟨rfl,rfl⟩)
 all_goals
  go_ret
  refine⟨rk ?_,rfl⟩
  (go_light;rw[dL];(try simp only[rm,nY,xI,decide_eq_true_eq,du,ne_eq,cM,decide_eq_false_iff_not,aN,dy,bI,cJ,bne_eq_false_iff_eq,beq_iff_eq,aA,bg,false_iff,true_iff,iff_true,iff_false,cK,dx,dR] at *);omega)
set_option maxHeartbeats 1000000 in
theorem AB (r:Int) (w:World) (h0 : -2147483648≤r) (h1:r≤2147483647) :
  Calls prog 63 #[.int .i32 r] w fun e w'=>e=.returned (.bool (nZ r))∧w=w':=by
 go_enter func63,ntmps63
 go_wp2_with (go_at_call 115;refine (HM _ _ (by omega) (by omega)).mono ?_;rintro e w' ⟨rfl,rfl⟩)
 all_goals
  go_ret
  refine⟨rk ?_,rfl⟩
  (go_light;rw[dL];(try simp only[vQ,qA,xI,decide_eq_true_eq,du,ne_eq,cM,decide_eq_false_iff_not,aN,dy,bI,cJ,bne_eq_false_iff_eq,beq_iff_eq,aA,bg,false_iff,true_iff,iff_true,iff_false,cK,dx,dR] at *);omega)
theorem OS (r:Int) (w:World) (h0 : -2147483648≤r) (h1:r≤2147483647) :
  Calls prog 157 #[.int .i32 r] w fun e w'=>e=.returned (.bool (cW r))∧w=w':=by
 go_enter func157,ntmps157
 go_wp2_with (first | (go_at_call 91;refine (xJ _ _ (by omega) (by omega)).mono ?_;rintro e w' ⟨rfl,rfl⟩) | (go_at_call 63;refine (AB _ _ (by omega) (by omega)).mono ?_;rintro e w' ⟨rfl,rfl⟩))
 all_goals
  go_ret
  refine⟨rk ?_,rfl⟩
  go_light
  simp_all [cW]
set_option maxHeartbeats 1000000 in
theorem xK (r:Int) (w:World) (h0 : -2147483648≤r) (h1:r≤2147483647) :
  Calls prog 136 #[.int .i32 r] w fun e w'=>e=.returned (.int .i32 (cr r))∧w=w':=by
 by_cases hg:great r=true
 ·have hb:r≤2000∧0≤r:=by rw[rm] at hg;unfold nY at hg;omega
  have f:=hb.1;have a:=hb.2;clear hb
  go_enter func136,ntmps136
  go_wp2_with (go_at_call 91;refine (xJ _ _ (by omega) (by omega)).mono ?_;rintro e w' ⟨rfl,rfl⟩)
  all_goals
   go_ret
   refine⟨oN ?_,rfl⟩
   go_light
   grind [cr]
 ·go_enter func136,ntmps136
  go_wp2_with (go_at_call 91;refine (xJ _ _ (by omega) (by omega)).mono ?_;rintro e w' ⟨rfl,rfl⟩)
  all_goals
   go_ret
   refine⟨oN ?_,rfl⟩
   go_light
   simp_all [cr]
set_option maxHeartbeats 1000000 in
theorem OT (r:Int) (w:World) (h0 : -2147483648≤r) (h1:r≤2147483647) :
  Calls prog 147 #[.int .i32 r] w fun e w'=>e=.returned (.int .i32 (sq r))∧w=w':=by
 go_enter func147,ntmps147
 go_wp2
 all_goals
  go_ret
  refine⟨oN ?_,rfl⟩
  go_light
  grind [sq]
theorem HN (r:Int) : -300≤sq r∧sq r≤300:=by unfold sq;(repeat' split)<;>omega
theorem OU (r:Int) (h0 : -2147483648≤r) (h1:r≤2147483647) : -2147483648≤cr r∧cr r≤2147483647:=by
 unfold cr
 by_cases hg:great r=true
 ·have hb:r≤2000∧0≤r:=by rw[rm] at hg;unfold nY at hg;omega
  simp only[hg,dx,bg,if_false]
  (repeat' split)<;>omega
 ·simp[hg];omega
set_option maxHeartbeats 1000000 in
theorem OV (r:Int) (w:World) (h0 : -2147483648≤r) (h1:r≤2147483647) :
  Calls prog 107 #[.int .i32 r] w fun e w'=>e=.returned (.int .i32 (mY r))∧w=w':=by
 have f:=(HN r).1
 have a:=(HN r).2
 by_cases hg:nZ r=true
 ·have hb:r≤2000∧0≤r:=by rw[vQ] at hg;unfold qA at hg;omega
  have l:=hb.1;have h:=hb.2;clear hb
  go_enter func107,ntmps107
  go_wp2_with (first | (go_at_call 63;refine (AB _ _ (by omega) (by omega)).mono ?_;rintro e w' ⟨rfl,rfl⟩) | (go_at_call 147;refine (OT _ _ (by omega) (by omega)).mono ?_;rintro e w' ⟨rfl,rfl⟩) | (go_at_call 91;refine (xJ _ _ (by omega) (by omega)).mono ?_;rintro e w' ⟨rfl,rfl⟩) | (go_at_call 136;refine (xK _ _ (by omega) (by omega)).mono ?_;rintro e w' ⟨rfl,rfl⟩))
  all_goals
   go_ret
   refine⟨oN ?_,rfl⟩
   go_light
   grind [mY]
 ·go_enter func107,ntmps107
  go_wp2_with (first | (go_at_call 63;refine (AB _ _ (by omega) (by omega)).mono ?_;rintro e w' ⟨rfl,rfl⟩))
  all_goals
   go_ret
   refine⟨oN ?_,rfl⟩
   go_light
   simp_all [mY]
theorem OW (r:Int) (w:World) (h0 : -2147483648≤r) (h1:r≤2147483647) :
  Calls prog 158 #[.int .i32 r] w fun e w'=>e=.returned (.bool (decide (0x300≤r∧r≤0x36F)))∧w=w':=by
 go_enter func158,ntmps158
 go_wp2
 all_goals
  go_ret
  refine⟨rk ?_,rfl⟩
  (go_light;rw[dL];simp only[decide_eq_true_eq,du,ne_eq,cM,decide_eq_false_iff_not,aN,dy,bI,cJ,bne_eq_false_iff_eq,beq_iff_eq,aA,bg,false_iff,true_iff,iff_true,iff_false,cK,dx,dR] at *;omega)
end
section
open Go.Shelf
theorem xL (r:Int) (w:World) (h0 : -2147483648≤r) (h1:r≤2147483647) :
  Calls prog 129 #[.int .i32 r] w fun e w'=>e=.returned (.int .i64 (kind r))∧w=w':=by
 go_enter func129,ntmps129
 go_wp2_with (first | (go_at_call 157;refine (OS _ _ (by omega) (by omega)).mono ?_;rintro e w' ⟨rfl,rfl⟩) | (go_at_call 158;refine (OW _ _ (by omega) (by omega)).mono ?_;rintro e w' ⟨rfl,rfl⟩))
 all_goals
  go_ret
  refine⟨oN ?_,rfl⟩
  go_light
  try simp only[decide_eq_true_eq,du,ne_eq,cM,decide_eq_false_iff_not,aN,dy,bI,cJ,bne_eq_false_iff_eq,beq_iff_eq,aA,bg,false_iff,true_iff,iff_true,iff_false,cK,dx,dR] at *
  grind [kind,rl]
def fq (b:Bool) (r:Int):Int:=if b then 11 else kind r
theorem OX (i wd r:Int) (b:Bool) (w:World) (h0 : -2147483648≤r) (h1:r≤2147483647) :
  Calls prog 89 #[.agg #[.int .i64 i,.int .i64 wd,.int .i32 r,.bool b]] w fun e w'=>e=.returned (.int .i64 (fq b r))∧Below w.heap.size w w':=by
 cases b
 ·go_enter func89,ntmps89
  go_wp2_with (go_at_call 129;refine (xL _ _ (by omega) (by omega)).mono ?_;rintro e w' ⟨rfl,rfl⟩)
  go_ret
  exact⟨oN (by simp[fq]),(Below.refl _ _).alloc (bi _) _⟩
 ·go_enter func89,ntmps89
  go_wp2_with (go_at_call 129;refine (xL _ _ (by omega) (by omega)).mono ?_;rintro e w' ⟨rfl,rfl⟩)
  go_ret
  exact⟨oN (by simp[fq]),(Below.refl _ _).alloc (bi _) _⟩
end
section
open Go.Shelf

end
section
open Go.Shelf
def p4 (r a b:Int):Bool:=decide (a≤r∧r≤b)
theorem vR (r a b:Int) (w:World) :
  Calls prog 111 #[.int .i32 r,.int .i32 a,.int .i32 b] w fun e w'=>e=.returned (.bool (p4 r a b))∧w=w':=by
 go_enter func111,ntmps111
 go_wp2
 all_goals
  go_ret
  refine⟨rk ?_,rfl⟩
  (go_light;rw[dL];simp only[p4,decide_eq_true_eq,du,ne_eq,cM,decide_eq_false_iff_not,aN,dy,bI,cJ,bne_eq_false_iff_eq,beq_iff_eq,aA,bg,false_iff,true_iff,iff_true,iff_false,cK,dx,dR] at *;omega)
theorem tr (r:Int) (w:World) (h0 : -2147483648≤r) (h1:r≤2147483647) :
  Calls prog 101 #[.int .i32 r] w fun e w'=>e=.returned (.bool (great r))∧w=w':=by
 by_cases l:0≤r
 ·go_enter func101,ntmps101
  go_wp2_with (first | (go_at_call 111;refine (vR _ _ _ _).mono ?_;rintro e w' ⟨rfl,rfl⟩))
  all_goals
   go_ret
   refine⟨rk ?_,rfl⟩
   (go_light;rw[dL,rm];simp only[p4,nY,decide_eq_true_eq,du,ne_eq,cM,decide_eq_false_iff_not,aN,dy,bI,cJ,bne_eq_false_iff_eq,beq_iff_eq,aA,bg,false_iff,true_iff,iff_true,iff_false,cK,dx,dR] at *;omega)
 ·have f:∀a b:Int,0≤a→p4 r a b=false:=by intro a b ha;simp[p4];omega
  have hm:great r=false:=by rw[s3];intro h;rw[rm] at h;unfold nY at h;omega
  go_enter func101,ntmps101
  go_wp2_with (first | (go_at_call 111;refine (vR _ _ _ _).mono ?_;rintro e w' ⟨rfl,rfl⟩))
  all_goals
   go_ret
   refine⟨rk ?_,rfl⟩
   (go_light;rw[dL,rm];simp only[p4,nY,decide_eq_true_eq,du,ne_eq,cM,decide_eq_false_iff_not,aN,dy,bI,cJ,bne_eq_false_iff_eq,beq_iff_eq,aA,bg,false_iff,true_iff,iff_true,iff_false,cK,dx,dR] at *;omega)
theorem vS (r:Int) (w:World) (h0 : -2147483648≤r) (h1:r≤2147483647) :
  Calls prog 57 #[.int .i32 r] w fun e w'=>e=.returned (.bool (nZ r))∧w=w':=by
 by_cases l:0≤r
 ·go_enter func57,ntmps57
  go_wp2_with (first | (go_at_call 111;refine (vR _ _ _ _).mono ?_;rintro e w' ⟨rfl,rfl⟩))
  all_goals
   go_ret
   refine⟨rk ?_,rfl⟩
   (go_light;rw[dL,vQ];simp only[p4,qA,decide_eq_true_eq,du,ne_eq,cM,decide_eq_false_iff_not,aN,dy,bI,cJ,bne_eq_false_iff_eq,beq_iff_eq,aA,bg,false_iff,true_iff,iff_true,iff_false,cK,dx,dR] at *;omega)
 ·have f:∀a b:Int,0≤a→p4 r a b=false:=by intro a b ha;simp[p4];omega
  have hm:nZ r=false:=by rw[s3];intro h;rw[vQ] at h;unfold qA at h;omega
  go_enter func57,ntmps57
  go_wp2_with (first | (go_at_call 111;refine (vR _ _ _ _).mono ?_;rintro e w' ⟨rfl,rfl⟩))
  all_goals
   go_ret
   refine⟨rk ?_,rfl⟩
   (go_light;rw[dL,vQ];simp only[p4,qA,decide_eq_true_eq,du,ne_eq,cM,decide_eq_false_iff_not,aN,dy,bI,cJ,bne_eq_false_iff_eq,beq_iff_eq,aA,bg,false_iff,true_iff,iff_true,iff_false,cK,dx,dR] at *;omega)
set_option maxHeartbeats 1000000 in
theorem uo (r:Int) (w:World) (h0 : -2147483648≤r) (h1:r≤2147483647) :
  Calls prog 100 #[.int .i32 r] w fun e w'=>e=.returned (.int .i32 (cr r))∧w=w':=by
 by_cases hg:great r=true
 ·have hp:=(rm r).1 hg
  have hb:r≤2000∧0≤r:=by unfold nY at hp;omega
  have h:=hb.1;have f:=hb.2;clear hb
  have a:=Lib.hid hp;clear hp
  go_enter func100,ntmps100
  go_wp2_with (first | (go_at_call 101;refine (tr _ _ (by omega) (by omega)).mono ?_;rintro e w' ⟨rfl,rfl⟩) | (go_at_call 111;refine (vR _ _ _ _).mono ?_;rintro e w' ⟨rfl,rfl⟩))
  all_goals
   go_ret
   refine⟨oN ?_,rfl⟩
   have hp:=a.out
   clear a
   go_light
   unfold nY at hp
   grind [cr,p4]
 ·go_enter func100,ntmps100
  go_wp2_with (first | (go_at_call 101;refine (tr _ _ (by omega) (by omega)).mono ?_;rintro e w' ⟨rfl,rfl⟩))
  all_goals
   go_ret
   refine⟨oN ?_,rfl⟩
   go_light
   simp_all [cr]
end
section
open Go.Shelf
set_option maxRecDepth 20000 in
theorem HO (r:Int) (w:World) (h0 : -2147483648≤r) (h1:r≤2147483647) :
  Calls prog 98 #[.int .i32 r] w fun e w'=>e=.returned (.int .i64 (kind r))∧w=w':=by
 go_enter func98,ntmps98
 go_wp2_with (first | (go_at_call 111;refine (vR _ _ _ _).mono ?_;rintro e w' ⟨rfl,rfl⟩) | (go_at_call 101;refine (tr _ _ (by omega) (by omega)).mono ?_;rintro e w' ⟨rfl,rfl⟩) | (go_at_call 57;refine (vS _ _ (by omega) (by omega)).mono ?_;rintro e w' ⟨rfl,rfl⟩))
 all_goals
  go_ret
  refine⟨oN ?_,rfl⟩
  go_light
  try simp only[p4,decide_eq_true_eq,du,ne_eq,cM,decide_eq_false_iff_not,aN,dy,bI,cJ,bne_eq_false_iff_eq,beq_iff_eq,aA,bg,false_iff,true_iff,iff_true,iff_false,cK,dx,dR] at *
  grind (splits:=60) [kind,rl,cW]
end
def lO (s:ae) (k:Nat):Nat:=match (eA s.data.toList)[k]? with
 |some p=>p.i
 |none=>s.size
theorem OY {s:ae} {k:Nat} {p:Pc} (h:(eA s.data.toList)[k]?=some p):lO s k=p.i:=by simp[lO,h]
theorem OZ (s:ae):lO s 0=0:=by
 unfold lO
 by_cases h:s.data.toList=[]
 ·have:s.size=0:=by have:=aH fu h;simpa using this
  simp[h,eA,sa,this]
 ·simp[eA,sb 0 _ h]
theorem O0 {s:ae} {k:Nat} {p:Pc} (h:(eA s.data.toList)[k]?=some p):lO s (k+1)=p.i+p.w∧mX p.i (s.data.toList.drop p.i)=p::(eA s.data.toList).drop (k+1):=by
 have hk:k<(eA s.data.toList).length:=(az.1 h).1
 have he:eA s.data.toList=(eA s.data.toList).take k++p::(eA s.data.toList).drop (k+1):=by
  have h1:=List.drop_eq_getElem_cons hk
  have h2:(eA s.data.toList)[k]=p:=(az.1 h).2
  rw[h2] at h1
  rw[←h1,bO]
 obtain⟨q1,q2,q,n⟩:=HI s.data.toList _ p _ he
 have f:s.data.toList.length=s.size:=by rw[dJ];rfl
 refine⟨?_,q⟩
 unfold lO
 have l:(eA s.data.toList)[k+1]?=((eA s.data.toList).drop (k+1))[0]?:=by simp
 rw[l,n]
 by_cases a:s.data.toList.drop (p.i+p.w)=[]
 ·rw[a,sa]
  have h5:=aH fu a
  simp only[List.length_drop,aI,f] at h5
  obtain⟨_,r,_⟩:=uj s.data.toList p (aL h)
  simp;omega
 ·rw[sb _ _ a];simp
section
variable {F:Fence} {P:Program} {w0:World} {K:Nat→Prop} {N:Nat} {dfs:List Deferred} {ops:Array Oper} {Q:Exit→Act→World→Prop} {rest:List Oper} {σ:List (Nat×Value)} {L:List Asn}
 {d:Nat} {t:TypeId} {ty:TypeId} {pos:String} {aft:Array Edge} {g:Option (Nat×Bool)} {x:Operand} {k:Nat} {s:ae}
theorem tu [br F] (ht:P.underlying t=some .string) (hg:gd ops σ g=some true) (hd:d<N) (hx:ev σ x=some (.string s))
  (h:∀b,TO F P w0 K N dfs ops Q rest ((d,.pointer (some ⟨b,0,none⟩))::σ) (L++[obj b (.stringIter s (lO s 0))])):TO F P w0 K N dfs ops Q (⟨some d,.range t x,ty,pos,aft,g⟩::rest) σ L :=
 nS hg (by simp) fun a w ha f=>⟨.pointer (some ⟨w.heap.size,0,none⟩),w.alloc (.stringIter s 0),by simp[execOp,ha.ev hx,Instr.range,run_underlying ht,an],h _ _ _ (ha.put hd _) (by rw[OZ];exact f.alloc _)⟩
theorem tv [br F] {n m:Nat} {p:Pc} (hg:gd ops σ g=some true) (hd:d<N) (hx:ev σ x=some (.pointer (some ⟨n,0,none⟩))) (hk:L[k]?=some (obj n (.stringIter s (lO s m)))) (hp:(eA s.data.toList)[m]?=some p)
  (h:TO F P w0 K N dfs ops Q rest ((d,.tuple #[.bool true,.int .i64 p.i,.int .i32 p.r])::σ) (L.set k (obj n (.stringIter s (lO s (m+1)))))):TO F P w0 K N dfs ops Q (⟨some d,.next x true,ty,pos,aft,g⟩::rest) σ L:=by
 refine nS hg (by simp) fun a w ha u=>?_
 have hit:=u.obj hk
 rw[OY hp] at hit
 obtain⟨h1,h2⟩:=O0 hp
 have l:=aL hp
 obtain⟨I,H,_⟩:=uj s.data.toList p l
 have C:s.data.toList.length=s.size:=by rw[dJ];rfl
 obtain⟨r,wd,E,e1,e2,G,T,S,D,O,J⟩:=Mo P w n s p.i hit (by omega)
 rw[h2] at D
 have f:p=⟨p.i,wd,r⟩:=(List.cons.inj D).1
 have q:p.w=wd:=aH Pc.w f
 have hr:p.r=r:=aH Pc.r f
 obtain⟨C1,c1,c2⟩:=u.focus hk
 refine⟨.tuple #[.bool true,.int .i64 p.i,.int .i32 p.r],E,by rw[hr];simp[execOp,ha.ev hx,e1,an],h _ _ (ha.put hd _) (c2 _ C1 E ⟨?_,fun j hj=>.inl hj⟩ ⟨c1.1,by rw[h1,q];exact G⟩)⟩
 exact e2.weaken (fun i _ hi=>by subst hi;exact (c1.1 _).2 rfl)
theorem tw [br F] {f m:Nat} (hg:gd ops σ g=some true) (hd:d<N) (hx:ev σ x=some (.pointer (some ⟨f,0,none⟩))) (hk:L[k]?=some (obj f (.stringIter s (lO s m)))) (hm:(eA s.data.toList).length≤m)
  (h:TO F P w0 K N dfs ops Q rest ((d,.tuple #[.bool false])::σ) L):TO F P w0 K N dfs ops Q (⟨some d,.next x true,ty,pos,aft,g⟩::rest) σ L:=by
 refine nS hg (by simp) fun a w ha l=>?_
 have hit:=l.obj hk
 have e:lO s m=s.size:=by simp[lO,List.getElem?_eq_none hm]
 rw[e] at hit
 exact⟨_,w,by simp[execOp,ha.ev hx,(Mr P w f s s.size hit (by omega)).1,an],h _ _ (ha.put hd _) l⟩
end
section
open Go.Shelf
attribute [local go_sem] kU Fh Fi Fj
end
section
open Go.Shelf
attribute [local go_sem] kU
end
structure Rn where
 f:Nat
 t:Nat
 k:Int
 deriving DecidableEq
theorem vT (i wd r:Int) (b:Bool) (h0 : -2147483648≤r) (h1:r≤2147483647):dB prog 89 [.agg #[.int .i64 i,.int .i64 wd,.int .i32 r,.bool b]] (.int .i64 (fq b r)):=fun w=>OX i wd r b w h0 h1
def C8 {α:Type} (P:Program) (g:FuncId) (lb:Array Value) (enc:α→Array Value) (xs:List α) (M:Nat→Prop) (n:World):Prop :=
 ∀ (l:Nat) (I X:List α→(Nat→Prop)→World→Prop) (f q:Nat→Prop) (W:World),
  (∀k,M k→k<n.heap.size∧W.heap[k]?=n.heap[k]?∧¬f k)→n.heap.size≤W.heap.size→(∀k,f k→k<W.heap.size)→(∀k,q k↔f k∨M k) →
  oi I→oi X →
  (∀pre x post C a,xs=pre++x::post→cz q C W a→I pre C a →
   BS P l (enc x) a fun b h=>∃C',cz C C' a h∧((b=true∧I (pre++[x]) C' h)∨(b=false∧X (pre++[x]) C' h))) →
  I [] f W →
  Calls P g (#[.func (.yield l) #[] #[]]++lb) W fun e W'=>(∃v,e=.returned v) ∧
   ∃C',cz q C' W W'∧(I xs C' W'∨∃pre x post,xs=pre++x::post∧X (pre++[x]) C' W')
section
variable {P:Program}
theorem O1 {α:Type} {gf:FuncId} {lb:Array Value} {enc:α→Array Value} {xs:List α} {M:Nat→Prop} {W0:World} (hY:C8 P gf lb enc xs M W0)
  {fn:FuncId} {tmps:Array Value} {ps:Array Tmp} {assign body:Code} {f:Nat} (a8:∀x,(enc x).size=ps.size)
  (I:List α→(Nat→Prop)→World→Prop) (X:Code→List α→(Nat→Prop)→World→Prop) (J:List α→α→Act→(Nat→Prop)→World→Prop)
  (hI:oi I) (hX:∀c,oi (X c)) (hJ:∀pre x a,oi (fun (_:Unit)=>J pre x a)) (C0 B0:Nat→Prop) (W:World) (l:Nat)
  (hl:W.heap[l]?=some (.loop { state:=.ready,pending:=none,fn,tmps,params:=ps,assign,body,defers:=f })) (bh:¬C0 l) (bk:¬B0 l)
  (hM:∀k,M k→k<W0.heap.size∧W.heap[k]?=W0.heap[k]?∧¬C0 k) (hs:W0.heap.size≤W.heap.size) (b0:∀k,C0 k→k<W.heap.size) (hB:∀k,B0 k↔C0 k∨M k) (h0:I [] C0 W)
  (U:∀pre x post C D,xs=pre++x::post→cz (fun k=>B0 k∨k=l) (fun k=>C k∨k=l) W D→I pre C D→¬C l→(∃r,D.heap[l]?=some (.loop r)∧r.defers=f) →
   assign.wpIn (Fence.wide.inRound l) 0 P (_root_.Go.Exit.then (fun a1 S=>∃C1,cz C C1 D S∧J pre x a1 C1 S) (fun _ _ _=>False))
    { tmps:=(ps.zip (enc x)).foldl (fun t (p,v)=>t.setIfInBounds p v) tmps,defers:=[] } D)
  (aw:∀pre x post C D a1,xs=pre++x::post→cz (fun k=>B0 k∨k=l) (fun k=>C k∨k=l) W D→J pre x a1 C D→¬C l→(∃r,D.heap[l]?=some (.loop r)∧r.defers=f) →
   body.wpIn (Fence.wide.inRound l) 0 P (zC I X (pre++[x]) C D) a1 D) :
  Calls P gf (#[.func (.yield l) #[] #[]]++lb) W fun e W'=>(∃v,e=.returned v) ∧
   ∃C' st pe,cz (fun k=>B0 k∨k=l) (fun k=>C' k∨k=l) W W'∧¬C' l∧W'.heap[l]?=some (.loop { state:=st,pending:=pe,fn,tmps,params:=ps,assign,body,defers:=f })∧st≠.busy ∧
    ((pe=none∧I xs C' W')∨∃c pre x post,pe=some c∧xs=pre++x::post∧X c (pre++[x]) C' W'):=by
 have bb:l<W.heap.size:=kW hl
 refine (hY l
  (fun pre Cc D=>∃C,Cc=(fun k=>C k∨k=l)∧¬C l∧I pre C D∧D.heap[l]?=some (.loop { state:=.ready,pending:=none,fn,tmps,params:=ps,assign,body,defers:=f }))
  (fun pre Cc D=>∃C c,Cc=(fun k=>C k∨k=l)∧¬C l∧X c pre C D∧D.heap[l]?=some (.loop { state:=.done,pending:=some c,fn,tmps,params:=ps,assign,body,defers:=f }))
  (fun k=>C0 k∨k=l) (fun k=>B0 k∨k=l) W (fun k hk=>⟨(hM k hk).1,(hM k hk).2.1,fun h=>h.elim (hM k hk).2.2 (fun e=>bk ((hB l).2 (.inr (e▸hk))))⟩) hs ?_ (fun k=>by rw[hB];exact or_right_comm) ?_ ?_ ?_ ?_).mono ?_
 ·rintro k (h | rfl)
  ·exact b0 k h
  ·exact bb
 ·rintro pre Cc D S ⟨C,rfl,T,hi,hr⟩ hsz hk
  exact⟨C,rfl,T,hI _ _ _ _ hi hsz (fun k h=>hk k (.inl h)),(hk l (.inr rfl)).trans hr⟩
 ·rintro pre Cc D S ⟨C,c,rfl,T,hi,hr⟩ hsz hk
  exact⟨C,c,rfl,T,hX c _ _ _ _ hi hsz (fun k h=>hk k (.inl h)),(hk l (.inr rfl)).trans hr⟩
 ·rintro pre x post Cc D V E ⟨C,rfl,T,hi,hr⟩
  have a6:l<D.heap.size:=kW hr
  have hy:=run_yield (P:=P) (args:=enc x) hr (a8 x)
  refine⟨fn,_,assign,body,hy,roundIn_of_wpIn (F:=bt) trivial (wpIn_mono (U pre x post C D V E hi T ⟨_,hr,rfl⟩) ?_)⟩
  clear hy
  rintro e a1 S hp
  cases e with
  |normal=>
   obtain⟨C1,Y,hj⟩:=hp
   have Z:¬C1 l:=Y.not a6 T
   have a4:S.heap[l]?=_:=Y.1.at hr T
   have ao:l<S.heap.size:=kW a4
   refine⟨_,run_beginRound a4 rfl,?_⟩
   have a2:=gQ (w:=S) (o:=.loop { state:=.busy,pending:=none,fn,tmps,params:=ps,assign,body,defers:=f }) ao
   have q:∀ (Cz:Nat→Prop) (Wz:World) (o:Obj),¬Cz l→∀k,Cz k→(Wz.putObj l o).heap[k]?=Wz.heap[k]?:=fun Cz Wz o hz k hk=>dC (by rintro rfl;exact hz hk)
   have bs:=hJ pre x a1 () C1 S (S.putObj l (.loop { state:=.busy,pending:=none,fn,tmps,params:=ps,assign,body,defers:=f })) hj (by simp) (q C1 S _ Z)
   have a7:cz (fun k=>C k∨k=l) (fun k=>C1 k∨k=l) D (S.putObj l (.loop { state:=.busy,pending:=none,fn,tmps,params:=ps,assign,body,defers:=f })) :=
    ⟨(Y.1.weaken (fun _ _ h=>.inl h)).putObj (.inl (.inr rfl)) _,fun k hk=>by
     rcases hk with hk|rfl
     ·rcases Y.2 k hk with h'|h'
      ·exact .inl (.inl h')
      ·exact .inr (by simpa using h')
     ·exact .inl (.inr rfl)⟩
   refine wpIn_mono (aw pre x post C1 _ a1 V (E.trans a7) bs Z ⟨_,a2,rfl⟩) ?_
   have ag:∀ (n:Option Code) (C':Nat→Prop) (G:World),cz C1 C' (S.putObj l (.loop { state:=.busy,pending:=none,fn,tmps,params:=ps,assign,body,defers:=f })) G →
     ¬C' l∧(Instr.endRound l n).run P G=.ok (.bool n.isNone) (G.putObj l (.loop { state:=if n.isNone then .ready else .done,pending:=n,fn,tmps,params:=ps,assign,body,defers:=f })) ∧
     (G.putObj l (.loop { state:=if n.isNone then .ready else .done,pending:=n,fn,tmps,params:=ps,assign,body,defers:=f })).heap[l]?=some (.loop { state:=if n.isNone then .ready else .done,pending:=n,fn,tmps,params:=ps,assign,body,defers:=f }) ∧
     cz (fun k=>C k∨k=l) (fun k=>C' k∨k=l) D (G.putObj l (.loop { state:=if n.isNone then .ready else .done,pending:=n,fn,tmps,params:=ps,assign,body,defers:=f })):=by
    intro n C' G u
    have a9:¬C' l:=u.not (by simpa using ao) Z
    have a0:=u.1.at a2 Z
    have a5:l<G.heap.size:=kW a0
    refine⟨a9,run_endRound (P:=P) n a0,gQ a5,a7.trans ⟨(u.1.weaken (fun _ _ h=>.inl h)).putObj (.inl (.inr rfl)) _,?_⟩⟩
    rintro k (hk|rfl)
    ·rcases u.2 k hk with h'|h'
     ·exact .inl (.inl h')
     ·exact .inr (by simpa using h')
    ·exact .inl (.inr rfl)
   rintro e a3 G O
   cases e with
   |normal=>
    obtain⟨C',u,H⟩:=O
    obtain⟨q1,q2,q3,q4⟩:=ag none C' G u
    exact⟨_,_,q2,true,rfl,_,q4,.inl ⟨rfl,C',rfl,q1,hI _ _ _ _ H (by simp) (q C' G _ q1),q3⟩⟩
   |ret=>
    obtain⟨C',u,H⟩:=O
    obtain⟨q1,q2,q3,q4⟩:=ag (some .ret) C' G u
    exact⟨_,_,q2,false,rfl,_,q4,.inr ⟨rfl,C',_,rfl,q1,hX _ _ _ _ _ H (by simp) (q C' G _ q1),q3⟩⟩
   |exit id=>
    obtain⟨C',u,H⟩:=O
    obtain⟨q1,q2,q3,q4⟩:=ag (some (.exit id)) C' G u
    exact⟨_,_,q2,false,rfl,_,q4,.inr ⟨rfl,C',_,rfl,q1,hX _ _ _ _ _ H (by simp) (q C' G _ q1),q3⟩⟩
   |goto t=>
    obtain⟨C',u,H⟩:=O
    obtain⟨q1,q2,q3,q4⟩:=ag (some (.goto t)) C' G u
    exact⟨_,_,q2,false,rfl,_,q4,.inr ⟨rfl,C',_,rfl,q1,hX _ _ _ _ _ H (by simp) (q C' G _ q1),q3⟩⟩
   |panic ch=>exact O.elim
   |outgrown=>exact O.elim
  |ret=>exact hp.elim
  |exit id=>exact hp.elim
  |goto t=>exact hp.elim
  |panic ch=>exact hp.elim
  |outgrown=>exact hp.elim
 ·exact⟨C0,rfl,bh,h0,hl⟩
 ·rintro e W' ⟨hv,C',E,⟨C,rfl,T,hi,hr⟩ | ⟨pre,x,post,V,C,c,rfl,T,hi,hr⟩⟩
  ·exact⟨hv,C,_,_,E,T,hr,by simp,.inl ⟨rfl,hi⟩⟩
  ·exact⟨hv,C,_,_,E,T,hr,by simp,.inr ⟨c,pre,x,post,rfl,V,hi⟩⟩
theorem O2 {α:Type} {g:Operand} {ps:Array Tmp} {assign body:Code} {Q:Exit→Act→World→Prop} {a:Act} {w:World}
  {gf:FuncId} {lb:Array Value} (hg:a.eval g=.func (.func gf) #[] lb) (eg:∀args w,(callFunc gf args).run P w=.ok (.enter gf args) w)
  {enc:α→Array Value} {xs:List α} {M:Nat→Prop} {W0:World} (hY:C8 P gf lb enc xs M W0)
  (hs:W0.heap.size≤w.heap.size) (a2:∀x,(enc x).size=ps.size)
  (I:List α→(Nat→Prop)→World→Prop) (X:Code→List α→(Nat→Prop)→World→Prop) (J:List α→α→Act→(Nat→Prop)→World→Prop)
  (hI:oi I) (hX:∀c,oi (X c)) (hJ:∀pre x a,oi (fun (_:Unit)=>J pre x a)) (C0 E:Nat→Prop)
  (S:∀k,C0 k→k<w.heap.size) (hB:∀k,E k↔C0 k∨M k) (hM:∀k,M k→k<W0.heap.size∧w.heap[k]?=W0.heap[k]?∧¬C0 k) (h0:I [] C0 w)
  (H:∀l pre x post C f,xs=pre++x::post→cz E C w f→I pre C f→¬C l→w.heap.size≤l→(∃r,f.heap[l]?=some (.loop r)) →
   assign.wpIn (Fence.wide.inRound l) 0 P (_root_.Go.Exit.then (fun a1 q=>∃C1,cz C C1 f q∧J pre x a1 C1 q) (fun _ _ _=>False))
    { tmps:=(ps.zip (enc x)).foldl (fun t (p,v)=>t.setIfInBounds p v) a.tmps,defers:=[] } f)
  (Y:∀l pre x post C f a1,xs=pre++x::post→cz E C w f→J pre x a1 C f→¬C l→w.heap.size≤l→(∃r,f.heap[l]?=some (.loop r)) →
   body.wpIn (Fence.wide.inRound l) 0 P (zC I X (pre++[x]) C f) a1 f)
  (V:∀ (d:Nat) (C:Nat→Prop) (W:World),cz E C w W→I xs C W→w.heap.size≤d→¬C d→W.heap[d]?=some (.deferred (some []))→Q .normal { a with defers:={ target:=.collected d,args:=#[] }::a.defers } W)
  (U:∀ (d:Nat) (c:Code) (pre:List α) (x:α) (post:List α) (C:Nat→Prop) (W:World),xs=pre++x::post→cz E C w W→X c (pre++[x]) C W→w.heap.size≤d→¬C d→W.heap[d]?=some (.deferred (some [])) →
   c.wpIn bt 0 P Q { a with defers:={ target:=.collected d,args:=#[] }::a.defers } W) :
  (Code.rangeFunc g ps assign body).wpIn bt 0 P Q a w:=by
 have Z:∀k,E k→k<w.heap.size:=fun k hk=>by
  rcases (hB k).1 hk with h|h
  ·exact S k h
  ·have:=(hM k h).1;omega
 refine wpIn_rangeFunc ?_
 intro fn hfn
 obtain⟨f,D⟩:∃f,(w.alloc (.deferred (some []))).alloc (.loop { state:=.ready,pending:=none,fn,tmps:=a.tmps,params:=ps,assign,body,defers:=w.heap.size })=f:=⟨_,rfl⟩
 have a3:f.heap[w.heap.size+1]?=some (.loop { state:=.ready,pending:=none,fn,tmps:=a.tmps,params:=ps,assign,body,defers:=w.heap.size }):=by
  rw[←D];have:=eU (w.alloc (.deferred (some []))) (.loop { state:=.ready,pending:=none,fn,tmps:=a.tmps,params:=ps,assign,body,defers:=w.heap.size });rwa [World.size_alloc] at this
 have a4:f.heap[w.heap.size]?=some (.deferred (some [])):=by
  rw[←D];exact (fS _ _ _ (by simp)).trans (eU w _)
 have a0:Fr E w f:=by rw[←D];exact ((Fr.refl E w).alloc _).alloc _
 have hsz:f.heap.size=w.heap.size+2:=by rw[←D];simp
 have T:∀k,k<w.heap.size→f.heap[k]?=w.heap[k]?:=fun k hk=>by rw[←D];exact (fS _ _ _ (by simp;omega)).trans (fS _ _ _ hk)
 have a5:I [] C0 f:=hI _ _ _ _ h0 a0.size (fun k hk=>T k (S k hk))
 have u:∀ {C:Nat→Prop} {q:World},cz (fun k=>E k∨k=w.heap.size+1) (fun k=>C k∨k=w.heap.size+1) f q→¬C (w.heap.size+1)→cz E C w q∧¬C w.heap.size∧q.heap[w.heap.size]?=some (.deferred (some [])):=by
  intro C q h O
  have hnd:¬C w.heap.size:=fun hc=>by
   rcases h.2 _ (.inl hc) with (h'|h')|h'
   ·have:=Z _ h';omega
   ·omega
   ·omega
  refine⟨⟨a0.trans' h.1 (fun i hi hc=>hc.resolve_right (by omega)),fun k hk=>?_⟩,hnd,h.1.at a4 (fun hc=>?_)⟩
  ·have h2:=h.1.size
   rcases h.2 k (.inl hk) with (h'|h')|h'
   ·exact .inl h'
   ·exact absurd (h'▸hk) O
   ·exact .inr (by omega)
  ·rcases hc with hc|hc
   ·have:=Z _ hc;omega
   ·omega
 refine⟨w.heap.size+1,[{ target:=.collected w.heap.size,args:=#[] }],f,{ target:=.fn (.func gf) lb,args:=#[.func (.yield (w.heap.size+1)) #[] #[]] },f,gf,
  #[.func (.yield (w.heap.size+1)) #[] #[]]++lb,f,?_,?_,?_,?_,fun h=>by simp[bt] at h,callsIn_wide.2 ?_⟩
 ·rw[←D];exact run_enterLoop_outer _ _ _ _ _
 ·simp only[resolve,hg]
  simp[go_sem]
 ·intro f' a7;trivial
 ·simp[invoke,go_sem,eg]
 ·refine (O1 hY a2 I X J hI hX hJ C0 E f (w.heap.size+1) a3 (fun h=>by have:=S _ h;omega) (fun h=>by have:=Z _ h;omega)
   (fun k hk=>⟨(hM k hk).1,(T k (by have:=(hM k hk).1;omega)).trans (hM k hk).2.1,(hM k hk).2.2⟩) (by omega) (fun k hk=>by have:=S k hk;omega) hB a5 ?_ ?_).mono ?_
  ·rintro pre x post C q G n hi O ⟨r,hr,_⟩
   exact H _ pre x post C q G (u n O).1 hi O (by omega) ⟨r,hr⟩
  ·rintro pre x post C q a1 G n hj O ⟨r,hr,_⟩
   exact Y _ pre x post C q a1 G (u n O).1 hj O (by omega) ⟨r,hr⟩
  ·rintro e q ⟨⟨v,rfl⟩,C',st,pe,n,O,hr,ag,h⟩
   obtain⟨q1,q2,q3⟩:=u n O
   have a6:w.heap.size+1<q.heap.size:=kW hr
   have e1:∀o,cz E C' w (q.putObj (w.heap.size+1) o):=fun o=>⟨q1.1.putObj (.inr (by omega)) _,fun k hk=>by have:=q1.2 k hk;simpa using this⟩
   have ao:∀o,∀k,C' k→(q.putObj (w.heap.size+1) o).heap[k]?=q.heap[k]?:=fun o k hk=>dC (by rintro rfl;exact O hk)
   have aw:∀o,(q.putObj (w.heap.size+1) o).heap[w.heap.size]?=some (.deferred (some [])):=fun o=>(dC (by omega)).trans q3
   rcases h with⟨rfl,hi⟩|⟨c,pre,x,post,rfl,G,hx⟩
   ·exact⟨none,_,run_endLoop (P:=P) hr ag,V _ C' _ (e1 _) (hI _ _ _ _ hi (by simp) (ao _)) (bi _) q2 (aw _)⟩
   ·exact⟨some c,_,run_endLoop (P:=P) hr ag,U _ c pre x post C' _ G (e1 _) (hX _ _ _ _ _ hx (by simp) (ao _)) (bi _) q2 (aw _)⟩
end
section
variable {F:Fence} {P:Program} {w0:World} {K:Nat→Prop} {N:Nat} {dfs:List Deferred} {ops:Array Oper} {Q:Exit→Act→World→Prop} {rest:List Oper} {σ σ':List (Nat×Value)} {L L' R R0 As Bs:List Asn} {o:Oper} {v:Value}
 {d:Nat} {t:TypeId} {op:Op} {ty:TypeId} {pos:String} {aft:Array Edge} {g:Option (Nat×Bool)} {x y z:Operand} {c c1 c2:Code} {k:Nat} {A B:Asn} {RO:List (Nat×Obj)} {RD RD0:List Asn}
def qB (P:Program) (gf:FuncId) (a:List Value) {α:Type} (enc:α→List Value) (xs:List α) (As:List Asn):Prop :=
 ∀ (w:World) (M:Nat→Prop),aP As M w→C8 P gf a.toArray (fun x=>(enc x).toArray) xs M w
theorem qB.intro {gf:FuncId} {fn:Func} {f:List Value} {α:Type} {enc:α→List Value} {xs:List α} (hf:P.funcs[gf]?=some fn) (hb:fn.body=some c) (hn:fn.ntmps=N) (hN:f.length+1≤N)
  (h:∀l w0 K (I X:List α→Asn),YC P l enc xs I X w0 K →
   TC bt P w0 K N [] (bodyPostM bt 0 P fn (FY xs I X w0 K)) c (rV (.func (.yield l) #[] #[]::f)) (I []::As)):qB P gf f enc xs As:=by
 subst hn
 intro w M O l I X C0 V W U hsz J hB H G hy h0
 have u:aP As M W:=O.loc hsz (fun k hk=>(U k hk).2.1)
 have:=h l W V (fun pre=>u0 (I pre) (fun C W W'=>H pre C W W')) (fun pre=>u0 (X pre) (fun C W W'=>G pre C W W')) (fun pre x post C W1 n he hi=>by
  obtain⟨f1,t1,a1,b1,E,D⟩:=hy pre x post C W1 n he hi.1
  refine⟨f1,t1,a1,b1,E,D.mono ?_⟩
  rintro e Y ⟨b,rfl,C',hx,hc⟩
  have q:∀k,C' k→k<Y.heap.size:=fun k hk=>by
   have:=hx.1.size
   rcases hx.2 k hk with h|h
   ·have:=hi.2 k h;omega
   ·exact h.2
  exact⟨b,rfl,C',hx,hc.imp (fun h=>⟨h.1,h.2,q⟩) (fun h=>⟨h.1,h.2,q⟩)⟩)
 have Z:(Value.func (.yield l) #[] #[]::f).toArray=#[.func (.yield l) #[] #[]]++f.toArray:=by simp
 rw[←Z]
 refine (uX hf hb (this _ W (uZ _ (by simpa using hN)) ⟨V,⟨C0,M,⟨h0,J⟩,u,fun k a b=>(U k b).2.2 a,hB⟩,ed _ _⟩)).mono ?_
 rintro e w' ⟨he,r⟩
 refine⟨he,?_⟩
 rcases r with⟨C',r,hx⟩|⟨pre,x,post,n,C',r,hx⟩
 ·obtain⟨C1,C2,T,S,_,g4⟩:=r
  have:C'=C1:=funext fun k=>propext (by rw[g4];exact⟨fun h=>h.resolve_right (S k),.inl⟩)
  subst this
  exact⟨C',hx,.inl T.1⟩
 ·obtain⟨C1,C2,T,S,_,g4⟩:=r
  have:C'=C1:=funext fun k=>propext (by rw[g4];exact⟨fun h=>h.resolve_right (S k),.inl⟩)
  subst this
  exact⟨C',hx,.inr ⟨pre,x,post,n,T.1⟩⟩
section
variable {α β γ δ:Type}
theorem O3 {gf:FuncId} {G:List Value} {enc:α→List Value} {xs:List α} {ps:List Nat} {assign body:Code} (a8:Ro w0 K RO)
  (hg:ev σ x=some (.func (.func gf) #[] G.toArray)) (aw:∀args w,(callFunc gf args).run P w=.ok (.enter gf args) w) (hY:qB P gf G enc xs As)
  (Inv:List α→β→Prop) (LI:List α→β→List Asn) (X:Code→List α→γ→Prop) (LX:Code→List α→γ→List Asn) (σJ:List α→α→β→δ→List (Nat×Value)) (LJ:List α→α→β→δ→List Asn) (b0:β)
  (h0:Inv [] b0) (S:am R0 (LI [] b0) R) (a3:am L As R0) (a4:∀x,(enc x).length=ps.length) (a5:∀p∈ps,p<N)
  (E:∀l r pre e post b w1 I,xs=pre++e::post→cz K I w0 w1→Ro w1 I (RO++[(l,.loop r)])→Inv pre b →
   TC (Fence.wide.inRound l) P w1 I N [] (_root_.Go.Exit.then (fun a w=>∃j,St w1 I N [] (σJ pre e b j) (LJ pre e b j) a w) (fun _ _ _=>False)) assign (xa ps (enc e) σ) (LI pre b))
  (U:∀l r pre e post b j w1 I,xs=pre++e::post→cz K I w0 w1→Ro w1 I (RO++[(l,.loop r)])→Inv pre b→TC (Fence.wide.inRound l) P w1 I N [] (RQ Inv LI X LX (pre++[e]) w1 I) body (σJ pre e b j) (LJ pre e b j))
  (T:∀d b,Inv xs b→TX w0 K N ({ target:=.collected d,args:=#[] }::dfs) Q .normal σ (R++(LI xs b++[fx d])))
  (O:∀d c pre e post b,xs=pre++e::post→X c (pre++[e]) b→TC bt P w0 K N ({ target:=.collected d,args:=#[] }::dfs) Q c σ (R++(LX c (pre++[e]) b++[fx d]))) :
  TC bt P w0 K N dfs Q (.rangeFunc x ps.toArray assign body) σ L:=by
 intro a w ha hw
 obtain⟨B1,C2,⟨M,C1,a0,g1,a6,bb⟩,g2,g3,gx,D⟩:=hw.split2 (a3.consS S)
 have ao:=g1.lt
 have ag:=aP.lt (L:=As) a0
 have J:∀ {C:Nat→Prop} {W:World},cz K C w0 W→Ro W C RO:=fun {C W} hx p hp=>by
  obtain⟨h1,h2⟩:=a8 p hp
  refine⟨hx.1.at h1 h2,fun h=>?_⟩
  rcases hx.2 _ h with h|h
  ·exact h2 h
  ·have:=kW h1;omega
 refine O2 (gf:=gf) (lb:=G.toArray) (ha.ev hg) aw (hY w M a0) (bi _) (fun e=>by simp[a4])
  (fun pre C W=>∃b,Inv pre b∧aP (LI pre b) C W) (fun c pre C W=>∃b,X c pre b∧aP (LX c pre b) C W)
  (fun pre e a1 C W=>∃b j,Inv pre b∧At N [] (σJ pre e b j) a1∧aP (LJ pre e b j) C W) ?_ ?_ ?_ C1 B1 ao (fun k=>by rw[bb];exact or_comm) (fun k hk=>⟨ag k hk,rfl,a6 k hk⟩) ⟨b0,h0,g1⟩ ?_ ?_ ?_ ?_
 ·rintro pre C W W' ⟨b,h1,h2⟩ S hk;exact⟨b,h1,h2.loc S hk⟩
 ·rintro c pre C W W' ⟨b,h1,h2⟩ S hk;exact⟨b,h1,h2.loc S hk⟩
 ·rintro pre e a1 _ C W W' ⟨b,j,h1,h2,h3⟩ S hk;exact⟨b,j,h1,h2,h3.loc S hk⟩
 ·rintro l pre e post C Z q f ⟨b,hb,hi⟩ hn hl ⟨r,hr⟩
  have u:cz K C w0 Z:=gx.trans f
  refine wpIn_mono (E l r pre e post b Z C q u ((J u).snoc hr hn) hb _ Z (ha.zip ps (enc e) a5) ⟨C,hi,ed _ _⟩) ?_
  rintro ex a' w' H
  cases ex with
  |normal=>
   obtain⟨j,hj,C',a9,a2⟩:=H
   exact⟨C',a2,b,j,hb,hj,a9⟩
  |_=>exact H
 ·rintro l pre e post C Z a1 q f ⟨b,j,hb,a7,hi⟩ hn hl ⟨r,hr⟩
  have u:cz K C w0 Z:=gx.trans f
  refine wpIn_mono (U l r pre e post b j Z C q u ((J u).snoc hr hn) hb a1 Z a7 ⟨C,hi,ed _ _⟩) ?_
  rintro ex a' w' H
  cases ex with
  |normal=>obtain⟨Y,h1,C',h2,h3⟩:=H;exact⟨C',h3,Y,h1,h2⟩
  |ret=>obtain⟨Y,h1,C',h2,h3⟩:=H;exact⟨C',h3,Y,h1,h2⟩
  |exit id=>obtain⟨Y,h1,C',h2,h3⟩:=H;exact⟨C',h3,Y,h1,h2⟩
  |goto id=>obtain⟨Y,h1,C',h2,h3⟩:=H;exact⟨C',h3,Y,h1,h2⟩
  |panic _=>exact H
  |outgrown=>exact H
 ·rintro d C W f ⟨b,hb,hi⟩ hd V n
  refine T d b hb _ W ⟨ha.1,by rw[←ha.2.1],ha.2.2⟩ (D _ (fun k=>C k∨k=d) W ⟨f.1,fun k hk=>?_⟩ ?_)
  ·rcases hk with hk|rfl
   ·exact f.2 k hk
   ·exact .inr ⟨hd,kW n⟩
  ·exact hi.append (ke ⟨fun k=>_root_.Iff.rfl,n⟩) (fun k hk e=>V (e▸hk))
 ·rintro d c pre e post C W q f ⟨b,hb,hi⟩ hd V n
  refine O d c pre e post b q hb _ W ⟨ha.1,by rw[←ha.2.1],ha.2.2⟩ (D _ (fun k=>C k∨k=d) W ⟨f.1,fun k hk=>?_⟩ ?_)
  ·rcases hk with hk|rfl
   ·exact f.2 k hk
   ·exact .inr ⟨hd,kW n⟩
  ·exact hi.append (ke ⟨fun k=>_root_.Iff.rfl,n⟩) (fun k hk e=>V (e▸hk))
end
end
end Go.Proofs.YtifpjbgnikjglaaGreatDoor

namespace Go.Proofs
open Go.Shelf
def O4:Go.Shelf.Ren:=⟨fun | 106=>46 | 213=>94 | 265=>137 | n=>n,fun | 9=>9 | 3=>3 | n=>n,fun | n=>n⟩
theorem O5:Go.Proofs.Lays.n106 Tryz.prog O4:={
 mixed:=by kernel_rfl
 f106:=Tryz.func46.trans (congrArg some (by kernel_rfl))
 f213:=Tryz.func94.trans (congrArg some (by kernel_rfl))
 f265:=Tryz.func137.trans (congrArg some (by kernel_rfl))
 t3:=Tryz.underlying3
 a3:=Tryz.isAgg3
 z3:=Tryz.sizeOf3
 v3:=Tryz.zeroValue3
 t9:=Tryz.underlying9
 a9:=Tryz.isAgg9
 z9:=Tryz.sizeOf9
 v9:=Tryz.zeroValue9 }
open Go.RowKit in
theorem Tryz.strings_Compare (a b:ByteArray) (w:World) :
  Calls Tryz.prog 46 #[.string a,.string b] w fun e w'=>e=.returned (.int .i64 (Lib.compareBytes a.data.toList b.data.toList))∧w'=w:=Any.strings_Compare O5 a b w
def O6:Go.Shelf.Ren:=⟨fun | 143=>120 | 219=>153 | 217=>167 | 225=>168 | 224=>169 | 267=>170 | 266=>175 | 314=>176 | n=>n,fun | 9=>9 | 3=>3 | 4=>4 | 5=>5 | 46=>101 | 146=>202 | 51=>201 | n=>n,fun | 1=>0 | n=>n⟩
theorem O7:Go.Proofs.Lays.n143 Tryz.prog O6:={
 mixed:=by kernel_rfl
 f143:=Tryz.func120.trans (congrArg some (by kernel_rfl))
 f217:=Tryz.func167.trans (congrArg some (by kernel_rfl))
 f219:=Tryz.func153.trans (congrArg some (by kernel_rfl))
 f224:=Tryz.func169.trans (congrArg some (by kernel_rfl))
 f225:=Tryz.func168.trans (congrArg some (by kernel_rfl))
 f266:=Tryz.func175.trans (congrArg some (by kernel_rfl))
 f267:=Tryz.func170.trans (congrArg some (by kernel_rfl))
 f314:=Tryz.func176.trans (congrArg some (by kernel_rfl))
 t3:=Tryz.underlying3
 a3:=Tryz.isAgg3
 z3:=Tryz.sizeOf3
 v3:=Tryz.zeroValue3
 t4:=Tryz.underlying4
 a4:=Tryz.isAgg4
 z4:=Tryz.sizeOf4
 v4:=Tryz.zeroValue4
 t5:=Tryz.underlying5
 a5:=Tryz.isAgg5
 z5:=Tryz.sizeOf5
 v5:=Tryz.zeroValue5
 t9:=Tryz.underlying9
 a9:=Tryz.isAgg9
 z9:=Tryz.sizeOf9
 v9:=Tryz.zeroValue9
 t46:=Tryz.underlying101
 a46:=Tryz.isAgg101
 z46:=Tryz.sizeOf101
 v46:=Tryz.zeroValue101
 t51:=Tryz.underlying201
 a51:=Tryz.isAgg201
 z51:=Tryz.sizeOf201
 v51:=Tryz.zeroValue201
 t146:=Tryz.underlying202
 a146:=Tryz.isAgg202
 z146:=Tryz.sizeOf202
 v146:=Tryz.zeroValue202
 g1:=by kernel_rfl }
open Go.RowKit Go.Lib in
theorem Tryz.strings_Index_one (s:ByteArray) (c:UInt8) (w:World) :
  Calls Tryz.prog 120 #[.string s,.string ⟨#[c]⟩] w fun e w'=>e=.returned (.int .i64 (Lib.indexByte s.data.toList c))∧w'=w:=Any.strings_Index_one O7 s c w
end Go.Proofs

namespace Go.Proofs.YtifpjbgnikjglaaGreatDoor
open Go.RowKit Go.Lib
open Tryz
set_option linter.unusedVariables false
set_option linter.unusedSimpArgs false
open _root_.Array renaming getElem?_modify→jM
open _root_.Go.Builtin renaming unsafeSliceData_→fN,unsafeString_→jy
open _root_.Go.Extern.AbiNoEscape renaming same→tW
open _root_.Go.Fence renaming wide→bt
open _root_.Go.Lib renaming hid→iK,run_unsafeString_none→oB,run_unsafeSliceData_row→nR
open _root_.Go.Oper renaming semAt_some→kU,upon_value→ng
open cz renaming refl→ed,setCell→nc
open Hd renaming nil→eu
open aP renaming one1→aQ
open _root_.Go.Result renaming andThen→kK
open _root_.Go.World renaming shape?→mN,setCell→lQ
open _root_.List renaming mem_singleton→bl
open _root_.Option.some renaming inj→mo
open _root_.Prod renaming snd→ew
section
open Go.Shelf
theorem HP {P:Program} {f:FuncId} {vs:List Value} {v:Value} (h:∀w,Calls P f vs.toArray w fun e w'=>e=.returned v∧w'=w):dB P f vs v:=fun w=>(h w).mono fun e w' ⟨h1,h2⟩=>⟨h1,h2▸Below.refl _ _⟩
theorem O8 (s:ae) {a:ae} (h:a=⟨#[10]⟩):dB prog 120 [.string s,.string a] (.int .i64 (Lib.indexByte s.data.toList 10)):=by
 subst h
 exact HP fun w=>Tryz.strings_Index_one s 10 w
theorem C9 (a b:ae):dB prog 46 [.string a,.string b] (.int .i64 (Lib.compareBytes a.data.toList b.data.toList)):=HP fun w=>Tryz.strings_Compare a b w
end
def zug (w0:World) (K:Nat→Prop):Asn :=
  ⟨fun C w=>(∀k,C k↔K k)∧(∀k,K k→k<w0.heap.size)∧w0.heap.size≤w.heap.size∧∀k,K k→w.heap[k]?=w0.heap[k]?,
   fun h k hk=>Nat.lt_of_lt_of_le (h.2.1 k ((h.1 k).1 hk)) h.2.2.1,
   fun h b hk=>⟨h.1,h.2.1,Nat.le_trans h.2.2.1 b,fun k a=>(hk k ((h.1 k).2 a)).trans (h.2.2.2 k a)⟩⟩
def xM (P:Program) (f:FuncId) (vs:List Value) (RD:List Asn) {β:Type} (V:β→Value) (a:β→List Asn):Prop :=
 ∀w C,(∀k,C k→k<w.heap.size)→Rd w C RD→Calls P f vs.toArray w fun e w'=>∃x:β,e=.returned (V x)∧Below w.heap.size w w'∧Rd w' C (a x)
def FD (P:Program) {β:Type} (V:β→Value) (a:β→List Asn) (w0:World) (K:Nat→Prop) (e:Ending) (w:World):Prop:=∃x:β,e=.returned (V x)∧Below w0.heap.size w0 w∧Rd w K (a x)
section
variable {F:Fence} {P:Program} {w0:World} {K:Nat→Prop} {N:Nat} {dfs:List Deferred} {ops:Array Oper} {Q:Exit→Act→World→Prop} {rest:List Oper} {σ σ':List (Nat×Value)} {L L' R As Bs:List Asn} {o:Oper} {v:Value}
 {d:Nat} {t:TypeId} {op:Op} {ty:TypeId} {pos:String} {aft:Array Edge} {g:Option (Nat×Bool)} {x y z:Operand} {c c1 c2:Code} {k:Nat} {A B:Asn} {RD RD0:List Asn} {e:TypeId} {ex:Exit}
theorem xM.intro {f:FuncId} {fn:Func} {vs:List Value} {β:Type} {V:β→Value} {a:β→List Asn} (hf:P.funcs[f]?=some fn) (hb:fn.body=some c) (b:fn.ntmps=N) (j:vs.length≤N)
  (h:∀w0 K,Rd w0 K RD→TC bt P w0 K N [] (bodyPostM bt 0 P fn (FD P V a w0 K)) c (rV vs) [zug w0 K]):xM P f vs RD V a:=by
 subst b
 intro w C l i
 exact (uX hf hb (h w C i _ w (uZ vs j) ⟨C,aP.one ⟨fun k=>Iff.rfl,l,Nat.le_refl _,fun k _=>rfl⟩,ed _ _⟩)).mono fun e w' h=>h
theorem HQ {fn:Func} {rs:List ResultVar} {vs:List Value} {β:Type} {V:β→Value} {n:β→List Asn} {e:Exit} (b:β) (j:Rd w0 K RD) (he:e=.ret∨e=.normal) (i:fn.results=rs.toArray) (f:iV P σ L rs vs) (hv:tc vs=V b)
  (q:am L (zug w0 K::As) R) (hB:∀C w,aP As C w→(∀k,C k→¬K k)→Rd w K RD→Rd w K (n b)):TX w0 K N [] (bodyPostM F 0 P fn (FD P V n w0 K)) e σ L:=by
 intro a w ha p
 have h1:=w9 i f ha p
 have h2:LeavesInM F 0 P fn a.tmps (FD P V n w0 K) a.defers .returning w:=by
  rw[ha.2.1]
  refine⟨tc vs,h1,b,by rw[hv],?_⟩
  obtain⟨C,hL,hx⟩:=p
  obtain⟨C1,C2,⟨G,E,m,u,s,g4⟩,_,h3,r⟩:=q C w hL
  have l:∀k,K k→C k:=fun k hk=>(r k).2 (.inl ((g4 k).2 (.inl ((m.1 k).2 hk))))
  refine⟨⟨hx.1.os,hx.1.tape,hx.1.output,hx.1.size,fun k hk=>?_⟩,hB E w u (fun k a b=>s k ((m.1 k).2 b) a) fun A hA=>?_⟩
  ·by_cases h:K k
   ·exact m.2.2.2 k h
   ·exact hx.1.keep k hk h
  ·obtain⟨D,d1,d2⟩:=j.ext hx A hA
   exact⟨D,d1,fun k hk h=>d2 k hk (l k h)⟩
 rcases he with rfl|rfl<;>exact h2
theorem Da {w1:World} {b:Nat→Prop} (hx:cz K b w0 w1) (h:TX w0 K N dfs Q ex σ L):TX w1 b N dfs Q ex σ L:=fun a w ha ⟨C,f,h1⟩=>h a w ha ⟨C,f,hx.trans h1⟩
theorem O9 [br F] {xs:List Operand} {m:Array TypeId} {f:FuncId} {first cap:Array Value} {vs i:List Value} {β:Type} {V:β→Value} {D:β→List Asn} (s:Rd w0 K RD0)
  (hg:gd ops σ g=some true) (hd:d<N) (hx:ev σ x=some (.func (.func f) first cap)) (r:evL σ xs=some vs) (hv:first.toList++vs++cap.toList=i)
  (p:∀args w,(callFunc f args).run P w=.ok (.enter f args) w) (H:xM P f i RD V D) (G:o0 [] RD0 RD)
  (h:∀b w1 u,cz K u w0 w1→Rd w1 u (RD0++D b)→TO F P w1 u N dfs ops Q rest ((d,V b)::σ) L) :
  TO F P w0 K N dfs ops Q (⟨some d,.call { callee:=.value x,args:=xs.toArray,argTypes:=m },ty,pos,aft,g⟩::rest) σ L:=by
 intro a w ha E
 simp only[wpListIn,tX (o:=⟨some d,.call { callee:=.value x,args:=xs.toArray,argTypes:=m },ty,pos,aft,g⟩) ha hg,if_true]
 refine⟨fun f _=>br.fn f,?_⟩
 have h1:(execOp a.eval ⟨some d,.call { callee:=.value x,args:=xs.toArray,argTypes:=m },ty,pos,aft,g⟩).run P w=.ok (.enter f i.toArray) w:=by
  have e:first++vs.toArray++cap=i.toArray:=by rw[←hv];simp
  simp only[execOp,resolve,List.map_toArray,ha.evL r,ha.ev hx,Deferred.ofValue,Sem.run_bind,Sem.run_pure,Result.andThen_ok,invoke,e,p]
 rw[Oper.semAt_plain F _ _ (by simp),h1]
 refine⟨(fun h=>by rw[br.depth (F:=F)] at h;cases h),?_⟩
 obtain⟨C,hL,n⟩:=E
 have j:Rd w C RD0:=s.ext n
 have q:Rd w C RD:=G.rd (w0:=w0) (K:=K) (C2:=fun _=>False) (fun _ h=>h) (fun _ _ h=>h) j
 refine br.calls ((H w C hL.lt q).mono ?_)
 rintro e w' ⟨b,rfl,hb,hB⟩
 have l:cz C C w w':=Fp hb
 exact h b w' C (n.trans l) ((j.ext l).append hB) _ _ (ha.put hd _) ⟨C,hL.loc l.1.size (fun k hk=>hb.block k (hL.lt k hk)),ed _ _⟩
theorem Pa (m:am L As R) (n:∀C w,aP As C w→B.P C w) (f:Rd w0 K RD0) (h:∀w1 i,cz K i w0 w1→Rd w1 i (RD0++[B])→TO F P w1 i N dfs ops Q rest σ R):TO F P w0 K N dfs ops Q rest σ L:=by
 intro a w ha l
 obtain⟨C,hL,hx⟩:=l
 obtain⟨C1,C2,r,q,p,g4⟩:=m C w hL
 have b:cz K C2 w0 w:=hx.sub fun k hk=>(g4 k).2 (.inr hk)
 refine h w C2 b ((f.ext b).append fun X j=>?_) a w ha ⟨C2,q,ed _ _⟩
 rw[bl] at j
 subst j
 exact⟨C1,n C1 w r,p⟩
theorem Rd.up0 {α:Type} {enc:α→List Value} {size m:Nat} {vv:Value} {xs:List α} {i:Nat} (hr:Rd w0 K RD) (hi:RD[i]?=some (iX enc size vv 0 xs)):Rd w0 K (RD++[iX enc size vv m xs]):=by
 have:=hr.up (m:=m) hi
 rwa [Nat.zero_add] at this
theorem Vw.head {α:Type} {L xs:List α} {size k:Nat} {vv v:Value} (h:Vw vv L size k v xs):∃hd:Hd,v=hd.v:=by
 obtain⟨_,_,q,c,rfl,_⟩:=h
 exact⟨⟨q,xs.length,c⟩,rfl⟩
theorem HR {α:Type} {enc:α→List Value} {size k:Nat} {e:TypeId} {vv:Value} {L xs:List α} {hd:Hd} (hz:∀x,(enc x).length=size) (hV:Vw vv L size k hd.v xs):po (vec enc e size vv L) (lV enc size hd xs):=fun C w h=>MM hV (Gw hz h)
def oO (a:Nat) (hd:Hd) (xs:List ae):Asn:=if a=2 then cy else lV gN 1 hd xs
def nM (a:Nat) (hd:Hd) (xs:List ae) (L:nJ):Prop:=(a=0→hd=eu∧xs=[])∧(a=2→(xs,hd)∈L.map ew)
theorem nM.own {hd:Hd} {xs:List ae} {L:nJ}:nM 1 hd xs L:=⟨fun h=>(nomatch h),fun h=>(nomatch h)⟩
theorem nM.nil {L:nJ}:nM 0 eu [] L:=⟨fun _=>⟨rfl,rfl⟩,fun h=>(nomatch h)⟩
theorem nM.map {hd:Hd} {xs:List ae} {L:nJ} (h:(xs,hd)∈L.map ew):nM 2 hd xs L:=⟨fun h=>(nomatch h),fun _=>h⟩
theorem Db {e:TypeId} {hd:Hd} {xs:List ae}:po (vec gN e 1 hd.v xs) (oO 1 hd xs):=fun C w h=>(show (lV gN 1 hd xs).P C w from Ct gj h)
theorem HS {hd:Hd} {xs:List ae}:po cy (oO 2 hd xs):=fun C w h=>h
theorem Pb (e:TypeId):po (vec gN e 1 (.slice none 0 0) []) (oO 0 eu []):=fun C w h=>(show (lV gN 1 eu []).P C w from Ct (hd:=eu) gj h)
theorem HT {b:Nat} {hd:Hd} {xs:List ae} {M:nJ} {i:Nat} (hx:nM b hd xs M) (hi:RD[i]?=some (o6 M)):∀C w,aP [oO b hd xs] C w→(∀k,C k→¬K k)→Rd w K RD→Rd w K [lV gN 1 hd xs]:=fun C w h l j=>by
 by_cases hk:b=2
 ·obtain⟨D,m,f⟩:=j _ (List.mem_of_getElem? hi)
  intro B hB
  rw[bl] at hB
  subst hB
  obtain⟨E,e1,e2⟩:=m.2 _ (hx.2 hk) _ (bl.2 rfl)
  exact⟨E,e1,fun k a=>f k (e2 k a)⟩
 ·have h1:=aQ.1 h
  unfold oO at h1
  rw[ap hk] at h1
  intro B hB
  rw[bl] at hB
  subst hB
  exact⟨C,h1,l⟩
theorem Pd {e:TypeId} {hd:Hd} {xs:List ae}:∀C w,aP [vec gN e 1 hd.v xs] C w→(∀k,C k→¬K k)→Rd w K RD→Rd w K [lV gN 1 hd xs]:=fun C w h a b=>by
 intro B hB
 rw[bl] at hB
 subst hB
 exact⟨C,Ct gj (aQ.1 h),a⟩
theorem Pe [br F] {kk:ae} {M:nJ} {l:List (ae×List ae)} {i b:Nat} {mt m p:TypeId} (s:nW M=l) (r:P.underlying m=some .string) (ht:P.underlying mt=some (.map m p)) (j:(P.info? p).bind (fun i=>i.zero)=some (.slice none 0 0)) (hg:gd ops σ g=some true) (hd:d<N) (hx:ev σ x=some (.map (some b))) (hy:ev σ y=some (.string kk))
  (hr:Rd w0 K RD) (hi:RD[i]?=some (pt b M))
  (h:∀hd:Hd,(∀xs,zbO kk l=some xs→(xs,hd)∈M.map ew)→TO F P w0 K N dfs ops Q rest ((d,.tuple #[hd.v,.bool (zbO kk l).isSome])::σ) L) :
  TO F P w0 K N dfs ops Q (⟨some d,.lookup mt x y true,ty,pos,aft,g⟩::rest) σ L:=by
 subst s
 have hb:((zbO kk M).getD ([],eu)).2.v=pr ((zbO kk M).getD ([],eu)):=rfl
 refine zZ (k:=i) (M:=M) (z0:=([],eu)) (ev':=pr) (mC r) ht j hg hd hx hy hr hi ?_
 have h1:=h ((zbO kk M).getD ([],eu)).2 (fun xs a=>by
  rw[vB] at a
  cases f:zbO kk M with
  |none=>rw[f] at a;cases a
  |some q=>
   rw[f] at a
   have:q.1=xs:=mo a
   subst this
   exact z7 kk q M f)
 rw[vB,hb] at h1
 cases n:zbO kk M with
 |none=>rw[n] at h1;exact h1
 |some q=>rw[n] at h1;exact h1
end

section
open Go.Shelf
attribute [local go_sem] kU
theorem Pf:(prog.info? 5).map (fun i=>(i.zero,i.size,i.bytes))=some (some (.int .u8 0),1,1):=by kernel_rfl
theorem HU:∃j,prog.info? 68=some j∧j.size≠0:=by
 have h:(prog.info? 68).map (fun j=>decide (j.size≠0))=some true:=by kernel_rfl
 cases hj:prog.info? 68 with
 |none=>rw[hj] at h;simp at h
 |some j=>rw[hj] at h;exact⟨j,rfl,by simpa using h⟩
theorem Pg (b:Nat) (v:Value) (w:World) (h:w.heap[b]?=some (.cells #[.pointer none,v] 68 (0,0))) :
  Calls prog 73 #[.pointer (some ⟨b,0,none⟩)] w fun e w'=>e=.returned (.tuple #[])∧w'=w.setCell ⟨b,0,none⟩ (.pointer (some ⟨b,0,none⟩)):=by
 have c0:w.cell? ⟨b,0,none⟩=some (.pointer none):=oD h rfl
 have f0:=Fm h 0
 have a:w.shape? b=some (68,2):=by simp[mN,h]
 obtain⟨j,hj,f⟩:=HU
 clear h
 go_enter func73,ntmps73
 go_wp2
 rw[Lib.run_to_unsafe w ⟨b,0,none⟩ (t:=68) kr kr hj f a (Nat.zero_lt_succ 1)]
 simp only[kK]
 rw[ng]
 go_wp2
 rw[run_callFunc_extern func127 kr kr kr (e:=tW) kr]
 rw[Lib.run_noEscape]
 simp only[kK]
 rw[ng]
 go_wp2
 rw[Lib.run_from_unsafe w ⟨b,0,none⟩ (u:=68) kr kr hj a kr]
 simp only[kK]
 rw[ng]
 go_wp2
 go_end0
 exact⟨rfl,rfl⟩
theorem Ph (b:Nat) (v:Value) (w:World) (h:w.heap[b]?=some (.cells #[.pointer (some ⟨b,0,none⟩),v] 68 (0,0))) :
  Calls prog 73 #[.pointer (some ⟨b,0,none⟩)] w fun e w'=>e=.returned (.tuple #[])∧w'=w:=by
 have c0:w.cell? ⟨b,0,none⟩=some (.pointer (some ⟨b,0,none⟩)):=oD h rfl
 obtain⟨j,hj,a⟩:=HU
 clear h
 go_enter func73,ntmps73
 go_wp2
 rw[Lib.run_neq_ptr_same w _ (te:=68) kr hj]
 go_wp2
 go_end0
 exact⟨rfl,rfl⟩
def sr (b:Nat) (bs:ae) (C:Nat→Prop) (w:World):Prop :=
 ∃p v D,w.heap[b]?=some (.cells #[p,v] 68 (0,0))∧(p=.pointer none∨p=.pointer (some ⟨b,0,none⟩))∧ki 5 v bs D w∧¬D b∧C=(fun k=>k=b∨D k)
theorem sr.local {b:Nat} {bs:ae} {C:Nat→Prop} {w w':World} (h:sr b bs C w) (hk:∀k,C k→w'.heap[k]?=w.heap[k]?):sr b bs C w':=by
 obtain⟨p,v,D,h1,h2,h3,a,rfl⟩:=h
 exact⟨p,v,D,(hk b (.inl rfl)).trans h1,h2,h3.local (fun k h=>hk k (.inr h)),a,rfl⟩
theorem sr.lt {b:Nat} {bs:ae} {C:Nat→Prop} {w:World} (h:sr b bs C w):∀k,C k→k<w.heap.size:=by
 obtain⟨p,v,D,h1,h2,h3,a,rfl⟩:=h
 rintro k (rfl|hk)
 ·exact kW h1
 ·exact h3.lt k hk
theorem Pi (b:Nat) (bs s:ae) (C:Nat→Prop) (w:World) (h:sr b bs C w) (hn:bs.size+s.size≤140737488355328) :
  Calls prog 32 #[.pointer (some ⟨b,0,none⟩),.string s] w fun e w'=>(∃u,e=.returned u)∧∃C',sr b (bs++s) C' w'∧cz C C' w w':=by
 obtain⟨p,v,D,f,hp,j,q,rfl⟩:=h
 obtain⟨ip,X,V,W,Y⟩:=info_parts Pf
 obtain⟨w1,Z,r,M,I⟩:∃w1,(Calls prog 73 #[.pointer (some ⟨b,0,none⟩)] w fun e w'=>e=.returned (.tuple #[])∧w'=w1) ∧
   w1.heap[b]?=some (.cells #[.pointer (some ⟨b,0,none⟩),v] 68 (0,0))∧ki 5 v bs D w1∧cz (fun k=>k=b∨D k) (fun k=>k=b∨D k) w w1:=by
  rcases hp with rfl|rfl
  ·have hx:cz (fun k=>k=b) (fun k=>k=b) w (w.setCell ⟨b,0,none⟩ (.pointer (some ⟨b,0,none⟩))):=nc (C':=fun k=>k=b) (ed _ _) (p:=⟨b,0,none⟩) rfl _
   refine⟨_,Pg b v w f,?_,j.ext hx (by rintro k hk rfl;exact q hk),nc (C':=fun k=>k=b∨D k) (ed _ _) (p:=⟨b,0,none⟩) (.inl rfl) _⟩
   simp[lQ,jM,f]
  ·exact⟨w,Ph b v w f,f,j,ed _ _⟩
 have c1:w1.cell? ⟨b,1,none⟩=some v:=oD r rfl
 have J:b<w1.heap.size:=kW r
 have a3:=iK f;have a2:=iK j;have ag:=iK I
 clear f j I
 go_enter func32,ntmps32
 go_wp2_with (first | (go_at_call 73;refine Z.mono ?_;rintro e w' ⟨rfl,rfl⟩) | (refine znO _ rfl _ _ _ _ rfl 5 _ kr kr X V W Y _ _ _ rfl M _ rfl hn ?_))
 rintro v' E G n i
 have l:E.heap[b]?=some (.cells #[.pointer (some ⟨b,0,none⟩),v] 68 (0,0)):=(i.1.keep b J q).trans r
 have f1:=Fm l 1
 have d1:E.cell? ⟨b,1,none⟩=some v:=oD l rfl
 have m:¬G b:=i.not J q
 obtain⟨T,S,a,rfl⟩:∃T S a,v'=.slice T S a:=by
  rcases n.shape with⟨rfl,_⟩|⟨g,cap,a1,rfl,_⟩<;>exact⟨_,_,_,rfl⟩
 have aw:=iK n;have O:=iK i;have a0:=iK l
 clear n i l
 go_wp2
 go_ret2
 have U:cz (fun k=>k=b∨G k) (fun k=>k=b∨G k) E (E.setCell ⟨b,1,none⟩ (.slice T S a)):=nc (C':=fun k=>k=b∨G k) (ed _ _) (p:=⟨b,1,none⟩) (.inl rfl) _
 have H:cz (fun k=>k=b) (fun k=>k=b) E (E.setCell ⟨b,1,none⟩ (.slice T S a)):=nc (C':=fun k=>k=b) (ed _ _) (p:=⟨b,1,none⟩) rfl _
 refine⟨⟨_,rfl⟩,fun k=>k=b∨G k,⟨_,_,G,?_,.inr rfl,aw.out.ext H (by rintro k hk rfl;exact m hk),m,rfl⟩,?_⟩
 ·simp[lQ,jM,a0.out]
 ·refine (ag.out.trans ?_).trans U
  exact⟨O.out.1.weaken (fun k _ h=>.inr h),fun k hk=>by
   rcases hk with rfl|hk
   ·exact .inl (.inl rfl)
   ·exact (O.out.2 k hk).imp .inr id⟩
theorem Pj {C C':Nat→Prop} {a w:World} (h:cz C C' a w) {g:Nat} (hg:C' g) (m:Nat):cz C C' a (w.freeze ⟨g,0,none⟩ m):=by
 unfold World.freeze
 split
 ·exact h
 ·have j:∀f:Obj→Obj,({ w with heap:=w.heap.modify g f }:World).heap.size=w.heap.size:=fun f=>by simp
  refine⟨⟨h.1.os,h.1.tape,h.1.output,by simpa using h.1.size,fun k hk b=>?_⟩,fun k hk=>by simpa using h.2 k hk⟩
  rw[jM]
  rw[ap]
  ·exact h.1.keep k hk b
  ·intro e
   have i:g=k:=e
   subst i
   rcases h.2 _ hg with h'|h'
   ·exact b h'
   ·omega
theorem Pk (b:Nat) (bs:ae) (C:Nat→Prop) (w:World) (h:sr b bs C w) :
  Calls prog 33 #[.pointer (some ⟨b,0,none⟩)] w fun e w'=>e=.returned (.string bs)∧cz C C w w':=by
 obtain⟨p,v,D,a,hp,f,V,rfl⟩:=h
 rcases f.shape with⟨rfl,rfl,rfl⟩|⟨g,cap,i,rfl,X,S,O,rfl,hg⟩
 ·have c1:w.drew.cell? ⟨b,1,none⟩=some (.slice none 0 0):=oD (w:=w.drew) a rfl
  have u:(fN #[46] 114 #[.slice none 0 0]).run prog w.drew=.ok (.pointer none) w.drew:=rfl
  have E:∀W q,(jy #[114,3] 9 #[.pointer q,.int .i64 0]).run prog W=.ok (.string .empty) W:=fun W q=>oB W _ _ _ q
  clear a f
  go_enter func33,ntmps33
  go_wp2
  go_region
  all_goals (go_wp2;go_ret;exact⟨rfl,(ed _ _).drew⟩)
 ·by_cases h0:bs.size=0
  ·have n:bs=⟨#[]⟩:=by apply ByteArray.ext;exact Array.eq_empty_of_size_eq_zero h0
   subst n
   have T:(⟨#[]⟩:ae).size=0:=rfl
   rw[T] at a f
   have E:∀W q,(jy #[114,3] 9 #[.pointer q,.int .i64 0]).run prog W=.ok (.string .empty) W:=fun W q=>oB W _ _ _ q
   have c1:w.drew.cell? ⟨b,1,none⟩=some (.slice (some ⟨g,0,none⟩) 0 cap):=oD (w:=w.drew) a rfl
   by_cases s:cap=0
   ·subst s
    have u:(fN #[46] 114 #[.slice (some ⟨g,0,none⟩) 0 0]).run prog w.drew=.ok (.pointer (some ⟨w.drew.heap.size,0,none⟩)) (w.drew.alloc (.view ⟨g,0,none⟩ 5)) :=
     Lib.run_unsafeSliceData_zero w.drew _ _ 5 kr ⟨g,0,none⟩ 0 (5,i.size) (by have r:w.drew.heap[g]?=some (.cells i 5 (0,0)):=hg;simp[mN,r])
    have I:=kW a
    have c2:(w.drew.alloc (.view ⟨g,0,none⟩ 5)).cell? ⟨b,1,none⟩=some (.slice (some ⟨g,0,none⟩) 0 0):=oD (w:=w.drew.alloc _) ((Below.heap_alloc w.drew _ b I).trans a) rfl
    have c3:(w.alloc (.view ⟨g,0,none⟩ 5)).drew.cell? ⟨b,1,none⟩=some (.slice (some ⟨g,0,none⟩) 0 0):=c2
    have c0:w.cell? ⟨b,1,none⟩=some (.slice (some ⟨g,0,none⟩) 0 0):=c1
    clear a f hg
    go_enter func33,ntmps33
    go_wp2
    go_region
    all_goals (go_wp2;go_ret;exact⟨rfl,(ed _ _).drew.alloc _⟩)
   ·have u:(fN #[46] 114 #[.slice (some ⟨g,0,none⟩) 0 cap]).run prog w.drew=.ok (.pointer (some ⟨g,0,none⟩)) w.drew:=nR _ _ _ _ _ _ s
    clear a f hg s
    go_enter func33,ntmps33
    go_wp2
    go_region
    all_goals (go_wp2;go_ret;exact⟨rfl,(ed _ _).drew⟩)
  ·obtain⟨l,H⟩:∃l,l=bs.data.toList:=⟨_,rfl⟩
   have m:l.length=bs.size:=by rw[H,Array.length_toList];rfl
   have n:bs=⟨l.toArray⟩:=by rw[H]
   have J:l≠[]:=by intro e;rw[e] at m;exact h0 m.symm
   rw[←m] at a S f
   have c1:w.drew.cell? ⟨b,1,none⟩=some (.slice (some ⟨g,0,none⟩) l.length cap):=oD (w:=w.drew) a rfl
   have u:(fN #[46] 114 #[.slice (some ⟨g,0,none⟩) l.length cap]).run prog w.drew=.ok (.pointer (some ⟨g,0,none⟩)) w.drew :=
    nR _ _ _ _ _ _ (by omega)
   have M:i.size=cap*1:=by
    rcases f.1.2 with⟨h1,_⟩|⟨Z,G,U,h1,_,h3,_,_,Y,_⟩
    ·cases h1
    ·have e1:g=Z:=by injection h1 with q1 q2 q3;injection q1 with q1;injection q1
     have e2:cap=G:=by injection h1
     subst e1;subst e2
     rw[hg] at h3;injection h3 with h3;injection h3 with h3
     rw[h3];exact Y
   have E:(jy #[114,3] 9 #[.pointer (some ⟨g,0,none⟩),.int .i64 l.length]).run prog w.drew=.ok (.string ⟨l.toArray⟩) (w.drew.freeze ⟨g,0,none⟩ l.length):=by
    refine Lib.run_unsafeString_row w.drew 114 3 9 5 kr kr g i.size (by have r:w.drew.heap[g]?=some (.cells i 5 (0,0)):=hg;simp[mN,r]) l J (by omega) (by unfold maxLen at O;omega) ?_
    intro j x hx
    refine World.ownsRow.cells f.1 (g:=g) rfl j (.int .u8 x.toNat) ?_
    unfold strCells
    rw[List.getElem?_map,←H,hx];rfl
   rw[n]
   have hx:cz (fun k=>k=b∨k=g) (fun k=>k=b∨k=g) w (w.drew.freeze ⟨g,0,none⟩ l.length):=Pj ((ed _ _).drew) (.inr rfl) _
   have Hx:=iK hx
   clear a f hg hx n m M
   clear H
   go_enter func33,ntmps33
   go_wp2
   go_region
   all_goals (go_wp2;go_ret;exact⟨rfl,Hx.out⟩)
end
section
open Go.Shelf
attribute [local go_sem] kU
def ss (b:Nat) (bs:ae):Asn:=⟨fun C w=>sr b bs C w,fun h=>h.lt,fun h _ hk=>h.local hk⟩
theorem HV (b:Nat) (bs s:ae) (a:bs.size+s.size≤140737488355328):Fn prog 32 [.pointer (some ⟨b,0,none⟩),.string s] [ss b bs] (fun u:Value=>u) (fun _=>[ss b (bs++s)]):=by
 intro w C hA
 refine (Pi b bs s C w (aQ.1 hA) a).mono ?_
 rintro e w' ⟨⟨u,rfl⟩,C',h1,h2⟩
 exact⟨u,rfl,C',aQ.2 h1,h2⟩
theorem Pl (b:Nat) (bs:ae):Fn prog 33 [.pointer (some ⟨b,0,none⟩)] [ss b bs] (fun _:Unit=>.string bs) (fun _=>[]):=by
 intro w C hA
 refine (Pk b bs C w (aQ.1 hA)).mono ?_
 rintro e w' ⟨rfl,h2⟩
 exact⟨(),rfl,fun _=>False,fun _ h=>h,h2.1,fun k hk=>hk.elim⟩
theorem Pm {b:Nat}:po (cells b [.pointer none,.slice none 0 0] 68) (ss b ⟨#[]⟩):=by
 intro C w h
 have a:C=fun k=>k=b:=funext fun k=>propext (h.1 k)
 subst a
 exact⟨_,_,_,h.2,.inl rfl,ki.nil,by simp,by funext k;simp⟩
end
end Go.Proofs.YtifpjbgnikjglaaGreatDoor

namespace Go.Proofs
open Go.Shelf
def Tryz.laysNm222_ren:Go.Shelf.Ren:=⟨fun | 22=>72 | 29=>125 | 30=>126 | 36=>156 | 17=>171 | n=>n,fun | 24=>36 | 9=>9 | 3=>3 | 4=>4 | 0=>0 | n=>n,fun | n=>n⟩
theorem xN:Go.Proofs.Lays2.n22 Tryz.prog Tryz.laysNm222_ren:={
 mixed:=by kernel_rfl
 f17:=Tryz.func171.trans (congrArg some (by kernel_rfl))
 f22:=Tryz.func72.trans (congrArg some (by kernel_rfl))
 f29:=Tryz.func125.trans (congrArg some (by kernel_rfl))
 f30:=Tryz.func126.trans (congrArg some (by kernel_rfl))
 f36:=Tryz.func156.trans (congrArg some (by kernel_rfl))
 t0:=Tryz.underlying0
 a0:=Tryz.isAgg0
 z0:=Tryz.sizeOf0
 v0:=Tryz.zeroValue0
 t3:=Tryz.underlying3
 a3:=Tryz.isAgg3
 z3:=Tryz.sizeOf3
 v3:=Tryz.zeroValue3
 t4:=Tryz.underlying4
 a4:=Tryz.isAgg4
 z4:=Tryz.sizeOf4
 v4:=Tryz.zeroValue4
 t9:=Tryz.underlying9
 a9:=Tryz.isAgg9
 z9:=Tryz.sizeOf9
 v9:=Tryz.zeroValue9
 t24:=Tryz.underlying36
 a24:=Tryz.isAgg36
 z24:=Tryz.sizeOf36
 v24:=Tryz.zeroValue36
 i9:=by kernel_rfl }
end Go.Proofs

namespace Go.Proofs.YtifpjbgnikjglaaGreatDoor
open Go.RowKit Go.Lib
open Tryz
set_option linter.unusedVariables false
set_option linter.unusedSimpArgs false
open _root_.Array renaming length_toList→dJ
open _root_.Go.Addr renaming add→pH
open _root_.Go.Builtin renaming zeroCells→cv
open _root_.Go.Ending renaming returned→nF
open _root_.Go.Instr renaming sliceAt→gq,sliceBounds→jn
open _root_.Go.Lib renaming hid→iK
open _root_.Go.Proofs.Any2 renaming slices_Insert_string_end_grow→lu
open Fr renaming refl→oc
open Hd renaming nil→eu
open aP renaming one→ke
open _root_.Go.RowKit renaming intOf→oC
open _root_.Go.Sem renaming run_bind→an
open _root_.Go.Value renaming string→af,ownBlock→bR
open _root_.Go.World renaming shape?→mN,frozen?→lR,alloc_heap_new→eU
open _root_.List renaming length_map→ar,take_left→jZ,length_append→aa,length_singleton→pO,length_drop→aR,length_take→bw,append_assoc→aB,take_append_of_le_length→mL,take_take→kx
open _root_.Nat renaming le_refl→bi,mul_one→pi,zero_add→bL,min_eq_left→nA
open _root_.Option.some renaming inj→mo
section
open Go.Shelf
def jh (xs:List ae) (i:Int) (x:ae):List ae:=xs.take i.toNat++x::xs.drop i.toNat
theorem vU:∀ (vs l:List Value) (j:Nat),j+vs.length≤l.length→qp l j vs=l.take j++vs++l.drop (j+vs.length)
 |[],l,j,h=>by simp[qp]
 |v::vs,l,j,h=>by
  have h:j+(vs.length+1)≤l.length:=h
  have a:=vU vs (l.set j v) (j+1) (by rw[List.length_set];omega)
  show qp (l.set j v) (j+1) vs=_
  have h1:(l.set j v).take (j+1)=l.take j++[v]:=by
   rw[List.take_add_one,List.take_set_of_le (bi _)]
   have:(l.set j v)[j]?=some v:=by rw[List.getElem?_set_self (by omega)]
   rw[this];rfl
  have h2:(l.set j v).drop (j+1+vs.length)=l.drop (j+1+vs.length):=List.drop_set_of_lt (by omega)
  have h3:j+(v::vs).length=j+1+vs.length:=by rw[List.length_cons];omega
  rw[a,h1,h2,h3]
  simp
theorem vV {g:Nat} {e:TypeId}:∀ (vs:List Value) (j:Nat) (l:List Value) (w:World),w.heap[g]?=some (.cells l.toArray e (0,0)) →
  (w.setCells g j vs).heap[g]?=some (.cells (qp l j vs).toArray e (0,0))∧Fr (fun k=>k=g) w (w.setCells g j vs)
 |[],j,l,w,h=>⟨h,oc _ _⟩
 |v::vs,j,l,w,h=>by
  have h1:(w.setCell ⟨g,j,none⟩ v).heap[g]?=some (.cells (l.set j v).toArray e (0,0)):=by
   simp[World.setCell,h,Array.getElem?_modify]
  obtain⟨h2,h3⟩:=vV vs (j+1) (l.set j v) _ h1
  exact⟨h2,((oc (fun k=>k=g) w).setCell (p:=⟨g,j,none⟩) (.inl rfl) v).trans h3⟩
theorem Dc (xs:List ae):xs.flatMap gN=xs.map af:=by
 induction xs with
 |nil=>rfl
 |cons x xs a=>rw[List.flatMap_cons,a];rfl
theorem HW {e:TypeId} {w:World} {g cap n:Nat} {a:List Value} {ys:List ae} (hg:w.heap[g]?=some (.cells a.toArray e (0,0))) (b:n=ys.length) (hc:n≤cap) (hm:cap≤maxLen) (f:a.length=cap) (ht:a.take n=ys.map af) :
  gZ gN e 1 (.slice (some ⟨g,0,none⟩) n cap) ys (fun k=>k=g) w:=by
 subst b
 refine⟨⟨by rw[Dc,ar,pi],.inr ⟨g,cap,a.toArray,rfl,Nat.zero_le _,hg,hc,hm,by simp[f],?_⟩⟩,?_⟩
 ·rw[Dc,pi];exact ht
 ·funext k;simp[bR];exact eq_comm
theorem Dd (cs:List Value) (k:Nat) (x:Value) (hk:k≤cs.length) (a:List Value):(cs.take k++[x]++cs.drop k++a).take (cs.length+1)=cs.take k++x::cs.drop k:=by
 have h1:(cs.take k++[x]++cs.drop k).length=cs.length+1:=by simp;omega
 rw[←h1,jZ];simp
theorem AC (xs:List ae) (k:Nat) (x:ae):(jh xs (k:Int) x).map af=(xs.map af).take k++af x::(xs.map af).drop k:=by
 simp[jh,List.map_take,List.map_drop]
theorem Pn {v:Value} {xs:List ae} {i:Int} {vb:Nat} {x:ae} (h:0≤i∧i≤(xs.length:Int)∧xs.length≤2147483648) :
  Fn prog 72 [v,.int .i64 i,.slice (some ⟨vb,0,none⟩) 1 1] [vec gN 9 1 v xs,cells vb [.string x] 9] (fun r:Value=>r) (fun r=>[vec gN 9 1 r (jh xs i x)]):=by
 intro w C hs
 obtain⟨C1,C2,h1,b2,hd,hC⟩:=hs
 have h2:(cells vb [.string x] 9).P C2 w:=aP.one1.1 b2
 have h1:gZ gN 9 1 v xs C1 w:=h1
 obtain⟨k,rfl⟩:∃k:Nat,i=k:=⟨i.toNat,by omega⟩
 have hk:k≤xs.length:=by omega
 have hb:w.heap[vb]?=some (.cells #[.string x] 9 (0,0)):=h2.2
 have H:∀j u,[af x][j]?=some u→w.cell? ⟨vb,0+j,none⟩=some u:=fun j u hj=>by
  rw[bL]
  exact oD hb (by simpa using hj)
 have T:∀u∈[af x],u.oneCell'=true:=fun u hu=>by rw[List.mem_singleton.1 hu];rfl
 have a9:w.shape? vb=some (9,1):=by simp[mN,hb]
 have a3:∀j,w.frozen? ⟨vb,j,none⟩=false:=fun j=>by simp[lR,hb]
 have b6:=gZ.lt h1
 have l:(xs.map af).length=xs.length:=ar _
 have p:∀ (w':World) (cap:Nat) (f:List Value),w'.heap[w.heap.size]?=some (.cells f.toArray 9 (0,0))→Fr (fun k=>w.heap.size≤k) w w'→w.heap.size<w'.heap.size→xs.length+1≤cap→cap≤maxLen→f.length=cap→f.take (xs.length+1)=(jh xs (k:Int) x).map af →
   ∃y:Value,nF (.slice (some ⟨w.heap.size,0,none⟩) (xs.length+1) cap)=.returned y∧∃C',aP [vec gN 9 1 y (jh xs (k:Int) x)] C' w'∧cz C C' w w':=fun w' cap f hg hF hz hn hm hl ht=>by
  have J:xs.length+1=(jh xs (k:Int) x).length:=by simp[jh];omega
  refine⟨_,rfl,_,ke (A:=vec gN 9 1 _ (jh xs (k:Int) x)) (HW hg J hn hm hl ht),hF.weaken (fun i hi hh=>absurd hi (by omega)),fun j hj=>.inr ⟨by omega,by omega⟩⟩
 rcases h1.shape with⟨rfl,rfl,_⟩|⟨g,cap,rfl,b7,U,a4,ao⟩
 ·obtain rfl:k=0:=by simpa using hk
  refine (lu xN none 0 0 vb 0 1 1 [] [.string x] w (by omega) (by omega) (by omega) (by omega) rfl rfl (fun _=>rfl) (fun a ha=>by cases ha) H T).mono ?_
  rintro e w' ⟨rfl,rfl⟩
  generalize W:grownCap w (0+1) 0 (Tryz.laysNm222_ren.t 9)=G
  have hG:0+1≤G:=W▸grownCap_ge _ _ _ _
  have S:G≤maxLen:=W▸grownCap_le_maxLen _ _ _ _ (by decide)
  have h8:∀n,(cv (af ⟨#[]⟩).cells n).size=n*1:=fun n=>size_zeroCells _ _
  have hA0:(([]++[af x]).toArray++cv (af ⟨#[]⟩).cells (G-(0+1)))=([af x]++(cv (af ⟨#[]⟩).cells (G-(0+1))).toList).toArray:=by simp
  rw[hA0]
  refine p _ _ ([.string x]++(cv (af ⟨#[]⟩).cells (G-(0+1))).toList) (eU w.drew _) (((oc _ w).drew).alloc _) (by simp) hG S ?_ rfl
  simp only[aa,pO,dJ,h8]
  omega
 ·obtain⟨b3,b8⟩:=h1
  rcases b3.2 with⟨hv,_⟩|⟨g',a6,f,hv,_,hg,b5,b4,Z,I⟩
  ·cases hv
  obtain⟨rfl,rfl⟩:g=g'∧cap=a6:=by injection hv with a b c;injection a with a;injection a with a;exact⟨a,c⟩
  rw[pi] at Z I
  rw[Dc] at I
  have hg:w.heap[g]?=some (.cells f.toList.toArray 9 (0,0)):=by rw[hg]
  have bh:vb≠g:=fun e=>hd g ((ao▸rfl:C1 g)) ((h2.1 g).2 e.symm)
  have D:f.toList.length=cap:=by simpa using Z
  have O:∀j u,f.toList[j]?=some u→w.cell? ⟨g,0+j,none⟩=some u:=fun j u hj=>by
   rw[bL]
   exact oD hg (by simpa using hj)
  have M:∀j u,(xs.map af)[j]?=some u→w.cell? ⟨g,0+j,none⟩=some u:=fun j u hj=>by
   rw[←I,List.getElem?_take] at hj
   split at hj
   ·exact O j u hj
   ·cases hj
  have a2:∀j,w.frozen? ⟨g,j,none⟩=false:=fun j=>by simp[lR,hg]
  have a1:∀j,j<cap→(w.cell? ⟨g,0+j,none⟩).isSome=true:=fun j hj=>by
   rw[O j (f.toList[j]'(by omega)) (List.getElem?_eq_getElem (by omega))];rfl
  have a8:w.shape? g=some (9,cap):=by simp[mN,hg,Z]
  have V:cap≤9223372036854775807:=by simpa [maxLen] using a4
  have a5:∀u∈xs.map af,u.oneCell'=true:=fun u hu=>by
   obtain⟨y,_,rfl⟩:=List.mem_map.1 hu
   rfl
  have E:∀ (w':World) (q:List Value),w'.heap[g]?=some (.cells q.toArray 9 (0,0))→Fr (fun k=>k=g) w w'→xs.length+1≤cap→q.length=cap→q.take (xs.length+1)=(jh xs (k:Int) x).map af →
    ∃y:Value,nF (.slice (some ⟨g,0,none⟩) (xs.length+1) cap)=.returned y∧∃C',aP [vec gN 9 1 y (jh xs (k:Int) x)] C' w'∧cz C C' w w':=fun w' q hg hF hn hl ht=>by
   have J:xs.length+1=(jh xs (k:Int) x).length:=by simp[jh];omega
   refine⟨_,rfl,_,ke (A:=vec gN 9 1 _ (jh xs (k:Int) x)) (HW hg J hn a4 hl ht),hF.weaken (fun i hi hh=>(hC i).2 (.inl (ao▸hh))),fun j hj=>.inl ((hC j).2 (.inl (ao▸hj)))⟩
  by_cases m:xs.length+1≤cap
  ·by_cases X:k=xs.length
   ·subst X
    refine (Any2.slices_Insert_string_end_room xN g 0 xs.length cap vb 0 1 1 [.string x] w (by omega) m V rfl (fun j hj=>by have:=a1 (xs.length+j) (by omega);rwa [←Nat.add_assoc] at this) (fun j hj=>a2 _) H T).mono ?_
    rintro e w' ⟨rfl,rfl⟩
    obtain⟨q1,q2⟩:=vV (g:=g) [.string x] (0+xs.length) f.toList w hg
    refine E _ _ q1 q2 m (by rw[s8];exact D) ?_
    rw[vU _ _ _ (by rw[D];simp;omega),bL,I,AC]
    have h7:=Dd (xs.map af) xs.length (.string x) (by rw[l];exact bi _) (f.toList.drop (xs.length+[af x].length))
    rw[l] at h7
    rw[←h7]
    have h6:(xs.map af).take xs.length=xs.map af:=List.take_of_length_le (by rw[l];exact bi _)
    have h5:(xs.map af).drop xs.length=[]:=List.drop_eq_nil_of_le (by rw[l];exact bi _)
    rw[h6,h5,List.append_nil]
   ·refine (Any2.slices_Insert_string_shift xN g 0 xs.length cap k vb 0 1 1 (xs.map af) [.string x] w (by omega) (by omega) m V bh l rfl M (fun j hj=>a1 j (by omega)) (fun j hj=>a2 _) H a5 T 9 9 1 cap a9 a8 (by omega) (a3 0) (a3 1)).mono ?_
    rintro e w' ⟨rfl,rfl⟩
    have bb:w.drew.heap[g]?=some (.cells f.toList.toArray 9 (0,0)):=hg
    obtain⟨q1,q2⟩:=vV (g:=g) ((xs.map af).drop k) (0+(k+1)) f.toList w.drew bb
    obtain⟨q3,q4⟩:=vV (g:=g) [.string x] (0+k) _ _ q1
    refine E _ _ q3 (((oc _ w).drew.trans q2).trans q4) m (by rw[s8,s8];exact D) ?_
    have Y:((xs.map af).drop k).length=xs.length-k:=by rw[aR,l]
    rw[vU _ _ _ (by rw[s8,D];simp;omega),vU _ _ _ (by rw[D,Y];omega),bL,bL,AC]
    have ha:(f.toList.take (k+1)).length=k+1:=by rw[bw,D];omega
    have ag:(f.toList.take (k+1)++(xs.map af).drop k++f.toList.drop (k+1+((xs.map af).drop k).length)).take k=(xs.map af).take k:=by
     rw[aB,mL (by rw[ha];omega),kx,nA (by omega),←I,kx,nA (by omega)]
    have bk:(f.toList.take (k+1)++(xs.map af).drop k++f.toList.drop (k+1+((xs.map af).drop k).length)).drop (k+[af x].length)=(xs.map af).drop k++f.toList.drop (k+1+((xs.map af).drop k).length):=by
     rw[aB]
     have:k+[af x].length=(f.toList.take (k+1)).length:=by rw[ha];rfl
     rw[this,List.drop_left]
    rw[ag,bk,←aB,←l]
    exact Dd _ _ _ (by rw[l];exact hk) _
  ·by_cases X:k=xs.length
   ·subst X
    refine (lu xN (some ⟨g,0,none⟩) xs.length cap vb 0 1 1 (xs.map af) [.string x] w (by omega) U (by omega) (by omega) l rfl (fun h=>by cases h) (fun a ha j u hj=>by cases ha;rw[Addr.add_lit];exact M j u hj) H T).mono ?_
    rintro e w' ⟨rfl,rfl⟩
    generalize W:grownCap w (xs.length+1) cap (Tryz.laysNm222_ren.t 9)=G
    have hG:xs.length+1≤G:=W▸grownCap_ge _ _ _ _
    have S:G≤maxLen:=W▸grownCap_le_maxLen _ _ _ _ (by simp only[maxLen];omega)
    have h8:∀n,(cv (af ⟨#[]⟩).cells n).size=n*1:=fun n=>size_zeroCells _ _
    have hA0:((xs.map af++[af x]).toArray++cv (af ⟨#[]⟩).cells (G-(xs.length+1)))=(xs.map af++[af x]++(cv (af ⟨#[]⟩).cells (G-(xs.length+1))).toList).toArray:=by simp
    rw[hA0]
    refine p _ _ (xs.map af++[.string x]++(cv (af ⟨#[]⟩).cells (G-(xs.length+1))).toList) (eU w.drew _) (((oc _ w).drew).alloc _) (by simp) hG S ?_ ?_
    ·simp only[aa,pO,dJ,h8,l]
     omega
    ·have h6:(xs.map af++[af x]).length=xs.length+1:=by simp
     rw[←h6,jZ,AC,←l,List.take_length,List.drop_length]
   ·refine (Any2.slices_Insert_string_grow xN g 0 xs.length cap k vb 0 1 1 (xs.map af) [.string x] w (by omega) (by omega) U (by omega) (by omega) l rfl M H a5 T).mono ?_
    rintro e w' ⟨rfl,rfl⟩
    have h8:∀n,(cv (af ⟨#[]⟩).cells n).size=n*1:=fun n=>size_zeroCells _ _
    generalize W:grownCap w (xs.length+1) cap (Tryz.laysNm222_ren.t 9)=G
    have hG:xs.length+1≤G:=W▸grownCap_ge _ _ _ _
    have S:G≤maxLen:=W▸grownCap_le_maxLen _ _ _ _ (by simp only[maxLen];omega)
    obtain⟨A,hA⟩:∃A:List Value,A=(xs.map af).take k++(cv (af ⟨#[]⟩).cells (xs.length+1-k)).toList++(cv (af ⟨#[]⟩).cells (G-(xs.length+1))).toList:=⟨_,rfl⟩
    have aw:A.length=G:=by
     rw[hA]
     simp only[aa,bw,dJ,h8,l]
     omega
    have hA0:(((xs.map af).take k).toArray++cv (af ⟨#[]⟩).cells (xs.length+1-k)++cv (af ⟨#[]⟩).cells (G-(xs.length+1)))=A.toArray:=by rw[hA];simp
    rw[hA0]
    have q0:(w.alloc (.cells A.toArray 9)).drew.heap[w.heap.size]?=some (.cells A.toArray 9 (0,0)):=eU w _
    obtain⟨q1,q2⟩:=vV (g:=w.heap.size) [.string x] k A _ q0
    have a7:(((w.alloc (.cells A.toArray 9)).drew.setCells w.heap.size k [.string x]).drew).heap[w.heap.size]?=some (.cells (qp A k [.string x]).toArray 9 (0,0)):=q1
    obtain⟨q3,q4⟩:=vV (g:=w.heap.size) ((xs.map af).drop k) (k+1) _ _ a7
    have b1:Fr (fun k=>w.heap.size≤k) w (w.alloc (.cells A.toArray 9)).drew:=((oc _ w).alloc _).drew
    have b0:=(b1.trans' (q2.weaken (C':=fun k=>w.heap.size≤k) (fun i _ h=>by omega)) (fun i _ h=>h)).drew.trans' (q4.weaken (C':=fun k=>w.heap.size≤k) (fun i _ h=>by omega)) (fun i _ h=>h)
    have Y:((xs.map af).drop k).length=xs.length-k:=by rw[aR,l]
    refine p _ _ _ q3 b0 (kW q3) hG S (by rw[s8,s8];exact aw) ?_
    have a0:((xs.map af).take k).length=k:=by rw[bw,l];omega
    rw[vU _ _ _ (by rw[s8,aw,Y];omega),vU _ _ _ (by rw[aw];simp;omega),AC]
    have bs:A.take k=(xs.map af).take k:=by
     rw[hA,aB,mL (by rw[a0];exact bi _),kx,Nat.min_self]
    have ag:(A.take k++[af x]++A.drop (k+[af x].length)).take (k+1)=(xs.map af).take k++[af x]:=by
     have:((xs.map af).take k++[af x]).length=k+1:=by rw[aa,a0];rfl
     rw[bs,←this,jZ]
    rw[ag,←l]
    exact Dd _ _ _ (by rw[l];exact hk) _
end
section
variable {F:Fence} {P:Program} {w0:World} {K:Nat→Prop} {N:Nat} {dfs:List Deferred} {ops:Array Oper} {Q:Exit→Act→World→Prop} {rest:List Oper} {σ σ':List (Nat×Value)} {L L' R As Bs:List Asn} {o:Oper} {v:Value}
 {d:Nat} {t:TypeId} {op:Op} {ty:TypeId} {pos:String} {aft:Array Edge} {g:Option (Nat×Bool)} {x y z:Operand} {c c1 c2:Code} {k:Nat} {A B:Asn} {RD RD0:List Asn} {e:TypeId} {ex:Exit}
theorem Po {n:Nat} {hd:Hd} {xs:List ae} {M:nJ} {i:Nat} (q:am L [oO n hd xs] R) (hx:nM n hd xs M) (hi:RD0[i]?=some (o6 M)) (l:Rd w0 K RD0) (h:∀w1 m,cz K m w0 w1→Rd w1 m (RD0++[lV gN 1 hd xs])→TO F P w1 m N dfs ops Q rest σ R):TO F P w0 K N dfs ops Q rest σ L:=by
 intro a w ha p
 obtain⟨C,hL,f⟩:=p
 obtain⟨C1,C2,D,u,r,g4⟩:=q C w hL
 have b:cz K C2 w0 w:=f.sub fun k hk=>(g4 k).2 (.inr hk)
 have h1:=l.ext b
 exact h w C2 b (h1.append (HT hx hi C1 w D r h1)) a w ha ⟨C2,u,cz.refl _ _⟩
theorem Pp [br F] {kk:ae} {M:nJ} {p:List (ae×List ae)} {i b:Nat} {mt m n:TypeId} (u:nW M=p) (r:P.underlying m=some .string) (ht:P.underlying mt=some (.map m n)) (l:(P.info? n).bind (fun i=>i.zero)=some (.slice none 0 0)) (hg:gd ops σ g=some true) (hd:d<N) (hx:ev σ x=some (.map (some b))) (hy:ev σ y=some (.string kk))
  (hr:Rd w0 K RD) (hi:RD[i]?=some (pt b M))
  (h:∀hd:Hd,(∀xs,zbO kk p=some xs→(xs,hd)∈M.map Prod.snd)→TO F P w0 K N dfs ops Q rest ((d,hd.v)::σ) L) :
  TO F P w0 K N dfs ops Q (⟨some d,.lookup mt x y false,ty,pos,aft,g⟩::rest) σ L:=by
 subst u
 have hb:((zbO kk M).getD ([],eu)).2.v=pr ((zbO kk M).getD ([],eu)):=rfl
 refine qZ (k:=i) (M:=M) (z0:=([],eu)) (ev':=pr) (mC r) ht l hg hd hx hy hr hi ?_
 have h1:=h ((zbO kk M).getD ([],eu)).2 (fun xs a=>by
  rw[vB] at a
  cases f:zbO kk M with
  |none=>rw[f] at a;cases a
  |some q=>
   rw[f] at a
   have:q.1=xs:=mo a
   subst this
   exact z7 kk q M f)
 rw[hb] at h1
 exact h1
end
section
variable {F:Fence} {P:Program} {w0:World} {K:Nat→Prop} {N:Nat} {dfs:List Deferred} {ops:Array Oper} {Q:Exit→Act→World→Prop} {rest:List Oper} {σ:List (Nat×Value)} {L RD:List Asn}
 {d:Nat} {ty:TypeId} {pos:String} {aft:Array Edge} {g:Option (Nat×Bool)} {s x:Operand} {t e e2:TypeId} {k k2 j size:Nat} {vv v2 v:Value} {α:Type} {enc:α→List Value} {xs ys Ls:List α}
theorem Pq {C:Nat→Prop} {w:World} {q:Option Addr} {c n m:Nat} (b:∀x,(enc x).length=size) (h:gZ enc e size (.slice q m c) xs C w) (hm:n≤m):gZ enc e size (.slice q n c) (xs.take n) C w:=by
 obtain⟨⟨h1,h2⟩,rfl⟩:=h
 have i:=ql b xs
 have hfn:=ql b (xs.take n)
 rcases h2 with⟨h2,h3⟩|⟨D,cap,f,h2,h3,u,h5,r,p,l⟩
 ·cases h2
  have:xs=[]:=List.length_eq_zero_iff.1 h3
  subst this
  obtain rfl:n=0:=by omega
  exact⟨⟨by simp,.inl ⟨rfl,by simp⟩⟩,rfl⟩
 ·cases h2
  have a:(xs.take n).length=n:=by rw[bw];omega
  refine⟨⟨by rw[hfn],.inr ⟨D,c,f,by rw[a],h3,u,by rw[a];omega,r,p,?_⟩⟩,by funext k;simp[bR]⟩
  rw[a]
  have e1:(xs.take n).flatMap enc=(xs.flatMap enc).take (n*size):=by
   conv=>rhs;rw[←List.take_append_drop n xs,List.flatMap_append]
   rw[List.take_left' (by rw[hfn,a])]
  rw[e1,←l,kx,nA (Nat.mul_le_mul_right _ hm)]
theorem Pr {P:Program} {t e:TypeId} {size:Nat} {q:Option Addr} {m c n:Nat} (ht:P.underlying t=some (.slice e)) (h:bx P e size) (b:q=none∨∃a,q=some ⟨a,0,none⟩) (h1:n≤m) (h2:m≤c) (w:World) :
  (gq t (.slice q m c) none (some (.int .i64 n)) none).run P w=.ok (.slice q n c) w:=by
 obtain⟨f,hu,p⟩:=h.some
 have e1:∀w:World,(jn true m c none (some (.int .i64 n)) none).run P w=.ok (0,n,c) w:=by
  intro w
  have l:n≤c:=by omega
  have i:¬c<n:=by omega
  unfold jn
  simp[an,Instr.sliceBound,asIntOf,l,i]
 have e2:(if c=0 then q else q.map (·.add (0*f.size)))=q:=by
  rcases b with rfl|⟨a,rfl⟩
  ·split<;>rfl
  ·split
   ·rfl
   ·simp[pH]
 simp only[gq,Instr.slice,an,run_underlying ht,Result.andThen_ok,e1]
 simp[sizeOf,typeInfo,hu,an]
 try (rcases b with rfl | ⟨a,rfl⟩<;>simp[pH])
theorem Ps [br F] {n:Int} {hi:Operand} (ht:P.underlying t=some (.slice e)) (G:bx P e size) (f:∀x,(enc x).length=size) (hg:gd ops σ g=some true) (hd:d<N) (D:ev σ s=some vv) (l:ev σ hi=some (.int .i64 n)) (hk:L[k]?=some (vec enc e size vv xs)) (H:0≤n∧n≤(xs.length:Int))
  (h:∀r,TO F P w0 K N dfs ops Q rest ((d,r)::σ) (L.set k (vec enc e size r (xs.take n.toNat)))) :
  TO F P w0 K N dfs ops Q (⟨some d,.slice t s none (some hi) none,ty,pos,aft,g⟩::rest) σ L:=by
 obtain⟨m,rfl⟩:∃m:Nat,n=m:=⟨n.toNat,by omega⟩
 refine nS hg (by simp) fun a w ha u=>?_
 obtain⟨C,i,b⟩:=u.focus hk
 have hm:m≤xs.length:=by omega
 have key:∃q c,vv=.slice q xs.length c∧(q=none∨∃p,q=some ⟨p,0,none⟩)∧xs.length≤c:=by
  rcases gZ.shape i with⟨h1,h2,_⟩|⟨p,cap,h1,_,h2,_,_⟩
  ·exact⟨none,0,by rw[h1,h2];rfl,.inl rfl,by rw[h2];exact bi _⟩
  ·exact⟨_,cap,h1,.inr ⟨p,rfl⟩,h2⟩
 obtain⟨q,c,rfl,E,hc⟩:=key
 have hr:=Pr (P:=P) ht G E hm hc w
 refine⟨.slice q m c,w,?_,h (.slice q m c) _ _ (ha.put hd _) (b _ C w (cz.refl _ _) ?_)⟩
 ·simp only[execOp,ha.ev D,ha.ev l,Option.map_none,Option.map_some,an,hr];rfl
 ·exact Pq f i hm
end

section
open Go.Shelf
theorem Pt:∀n:Nat,n<1100→great (n:Int)=true→n≠0x130→mY (cr (n:Int))=n:=by decide +kernel
theorem Pu (r g:Int) (h1:r≠0x69) (hg:great g=true) (a:cr g=r):mY r=g:=by
 have hp:=(rm g).1 hg
 have hb:0≤g∧g<1100:=by unfold nY at hp;omega
 obtain⟨n,rfl⟩:∃n:Nat,g=n:=⟨g.toNat,by omega⟩
 rw[←a]
 refine Pt n (by omega) hg ?_
 rintro rfl
 exact h1 (by rw[←a];decide)
theorem Pv (r:Int) (h2:r≠0x131) (h3:r≠0x17f) (f:r≠0x3c2) (h:∀x,0x41≤x→x<0x430→great x=true→cr x≠r):mY r=r:=by
 unfold mY
 by_cases a:nZ r=true
 ·rw[ap (by simp[a]),ap h2,ap h3,ap f,ap]
  rw[Bool.and_eq_true,beq_iff_eq]
  rintro⟨hg,b⟩
  have hp:=(rm _).1 hg
  exact h (r-sq r) (by unfold nY at hp;omega) (by unfold nY at hp;omega) hg b
 ·rw[ax (by simp[a])]
set_option maxHeartbeats 1000000 in
theorem Pw (r:Int) (w:World) (h0 : -2147483648≤r) (h1:r≤2147483647) :
  Calls prog 110 #[.int .i32 r] w fun e w'=>e=.returned (.int .i32 (mY r))∧w=w':=by
 by_cases h:nZ r=true
 ·by_cases e1:r=0x69∨r=0x131∨r=0x17f∨r=0x3c2
  ·rcases e1 with rfl|rfl|rfl|rfl
   all_goals
    go_enter func110,ntmps110
    go_wp2_with (first | (go_at_call 57;refine (vS _ _ (by omega) (by omega)).mono ?_;rintro e w' ⟨rfl,rfl⟩))
    go_ret
    exact⟨oN (by decide),rfl⟩
  ·have e2:r≠0x69∧r≠0x131∧r≠0x17f∧r≠0x3c2:=by omega
   obtain⟨u,q,p,n⟩:=e2
   have b1:(r==105)=false:=by simp;omega
   have S:(r==305)=false:=by simp;omega
   have O:(r==383)=false:=by simp;omega
   have M:(r==962)=false:=by simp;omega
   have G:=iK (Pv r q p n)
   have H:=iK (fun g=>Pu r g u)
   clear u q p n e1
   go_enter func110,ntmps110
   go_wp2_with (first | (go_at_call 57;refine (vS _ _ (by omega) (by omega)).mono ?_;rintro e w' ⟨rfl,rfl⟩))
   go_loop [3] (fun v=>∃g:Int,v=.int .i32 g∧65≤g∧g≤1072∧Hid (∀x,0x41≤x→x<g→great x=true→cr x≠r)) (fun v=>(1072-oC v).toNat)
   case atStart=>exact⟨65,rfl,by omega,by omega,fun x hx b=>by omega⟩
   case round=>
    obtain⟨g,rfl,J,I,hall⟩:=hrel
    by_cases E:g≤1071
    ·have lb:=OU g (by omega) (by omega)
     have D:=lb.1;have C:=lb.2;clear lb
     by_cases hg:great g=true
     ·by_cases f:cr g=r
      ·have i:(cr g==r)=true:=by simp[f]
       have l:=iK f;have m:=iK hg;clear f h
       go_wp2_with (first | (go_at_call 101;refine (tr _ _ (by omega) (by omega)).mono ?_;rintro e w' ⟨rfl,rfl⟩) | (go_at_call 100;refine (uo _ _ (by omega) (by omega)).mono ?_;rintro e w' ⟨rfl,rfl⟩))
       go_ret
       exact⟨oN (H.out g m.out l.out).symm,rfl⟩
      ·have i:(cr g==r)=false:=by simp[f]
       have l:=iK f;clear f h
       go_wp2_with (first | (go_at_call 101;refine (tr _ _ (by omega) (by omega)).mono ?_;rintro e w' ⟨rfl,rfl⟩) | (go_at_call 100;refine (uo _ _ (by omega) (by omega)).mono ?_;rintro e w' ⟨rfl,rfl⟩))
       go_round
       case rel=>
        refine⟨g+1,rfl,by omega,by omega,fun x hx b a=>?_⟩
        by_cases e:x=g
        ·subst e;exact l.out
        ·exact hall.out x hx (by omega) a
       case measure=>simp[oC];omega
     ·have m:=iK hg
      clear h
      go_wp2_with (first | (go_at_call 101;refine (tr _ _ (by omega) (by omega)).mono ?_;rintro e w' ⟨rfl,rfl⟩) | (go_at_call 100;refine (uo _ _ (by omega) (by omega)).mono ?_;rintro e w' ⟨rfl,rfl⟩))
      go_round
      case rel=>
       refine⟨g+1,rfl,by omega,by omega,fun x hx b a=>?_⟩
       by_cases e:x=g
       ·subst e;exact absurd a m.out
       ·exact hall.out x hx (by omega) a
      case measure=>simp[oC];omega
    ·clear h
     go_wp2
     go_ret
     exact⟨oN (G.out (fun x hx b=>hall.out x hx (by omega))).symm,rfl⟩
 ·go_enter func110,ntmps110
  go_wp2_with (first | (go_at_call 57;refine (vS _ _ (by omega) (by omega)).mono ?_;rintro e w' ⟨rfl,rfl⟩))
  go_ret
  exact⟨oN (by simp[mY,h]),rfl⟩
end
end Go.Proofs.YtifpjbgnikjglaaGreatDoor
