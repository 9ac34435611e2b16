/-
  Texts laid together: Mp, Ob, Mq, Ro, Op, Ir, Rq, Ms, Tab, Lt, Pcs, Tok, PcW, Cls, ClsW, ClsW2, Vow, RefW, RefW3, Vs, SeqW, RefPcs, Runs, C0, Im, Shf, Ck, Dr, Bytes, Bld, Gr, Shi, In, Ds, Ar, Lr. Nothing is assumed.
-/
import Derived.Test.YtifpjbgnikjglaaGreatDoorCollateReads1
import Derived.MapKept
import Derived.Test.YtifpjbgnikjglaaGreatDoorProg
import Derived.Shelf.Abstract
import Derived.Shelf.Strings.Builder1
import Derived.Shelf.Strings.Trim
import Derived.Shelf.Small.Utf8
import Derived.Shelf.Small.Strs
import Derived.Shelf.Strings.BuilderF
import Derived.Shelf.Strings.Search1
import Derived.Shelf.Strings.Search2
import Derived.Shelf.Strings.Search3
import Derived.Shelf.LaysM
import Derived.Shelf.Strings.Shaped
import Derived.Shelf.Strings.Prefix
import Derived.Shelf.Strings.Runes
import Derived.Shelf.Strings.AsciiSet
import Derived.Shelf.Unicode.DecodeSlow
import Derived.Lib.AppendStr
import Derived.Laws.IdiomStrings
import Derived.Lib.BufferRead
import Derived.Lib.Builder
import Derived.Outline
import Derived.Lib.UnsafeStr
import Derived.Lib.MakeNoZero
import Derived.Shelf.Spec.SlicesInsert
import Derived.Shelf.Spec.SlicesInsertGrow
set_option maxRecDepth 100000
set_option maxHeartbeats 4000000
namespace Go.Proofs.YtifpjbgnikjglaaGreatDoor
open Go.RowKit Go.Lib
open Tryz
set_option linter.unusedVariables false
set_option linter.unusedSimpArgs false
open _root_.Array renaming length_toList→dp
open _root_.BitVec renaming ofInt→fE
open _root_.Bool renaming and_eq_true→aR,eq_iff_iff→dJ,not_eq_true'→cN,or_eq_true→dK,or_eq_false_iff→cd,and_eq_false_iff→cQ,false_eq_true→bw,not_eq_false'→dm,not_true→eh,not_false→dU,eq_false_iff→rA
open _root_.ByteArray renaming mk→ry,empty→aA
open _root_.Function renaming comp_def→dr
open _root_.Go.Ending renaming returned→mP
open _root_.Go.Fence renaming wide→bn
open _root_.Go.Instr renaming checkKey→jG,sameBits→jH,findNow→gL,sameNow→ke,findAsking→rv,mapUpdate→sD,keyThatStays→pS,lookup→fu,loadAt→jF,sureAddr→el
open _root_.Go.MapKept renaming run_getObj_map→ca
open _root_.Go.Op renaming equalIn→dL
open _root_.Go.Oper renaming semAt_some→kg
open _root_.Go.Program renaming cellsOf→qC
open _root_.Go.Proofs.Tryz renaming underlying24→rz,underlying39→mM,underlying72→jX,underlying81→mO,underlying91→iF,underlying111→pU,underlying123→jn,underlying132→jo
open dR renaming mk'→fL
open cF renaming refl→dY
open Hd renaming nil→ew
open aN renaming one→jE,one1→aI
open _root_.Go.Result renaming andThen_ok→ci
open _root_.Go.RowKit.Below renaming heap_alloc→fI
open _root_.Go.Sem renaming run_bind→ak
open _root_.Go.Value renaming int→ax,agg→aZ,string→aa
open _root_.Go.World renaming putObj_heap_same→gC,putObj_heap_other→dt,alloc_heap_new→eK
open _root_.List renaming map_cons→aE,range'_succ→sB,range'_zero→sC,map→lu,map_map→ce,length→gi,getElem?_map→bV,getElem?_eq_getElem→aP,mem_of_getElem?→aJ,mem_cons→bE,getElem?_eq_some_iff→au,mem_singleton→cB,mem_cons_of_mem→aq,mem_cons_self→aB,not_mem_nil→dX,nil_append→bt,cons_append→bp,drop_drop→eS,eq_nil_of_length_eq_zero→co,length_pos_iff→c6,take_append_drop→dH,length_append→ah,length_cons→aj,length_nil→bl,map_nil→eu,getD_cons_zero→hH,getD_cons_succ→kf,append_assoc→aM
open _root_.List.cons renaming injEq→fy
open _root_.Nat renaming add_assoc→kN,add_one_sub_one→qD,zero_mul→nr,zero_add→cg,one_mul→iY,mul_one→ou,lt_of_lt_of_le→eA,le_refl→bJ
open _root_.Option renaming map_map→ig
open _root_.Option.some renaming inj→mA
open _root_.Prod renaming fst→bu,snd→eV
open _root_.Std.Legacy.Range renaming forIn_eq_forIn_range'→iu,size→lc
section
open Go.MapKept
def zbL {κ ν:Type} [DecidableEq κ] (k:κ):List (κ×ν)→Option ν
 | []=>none
 | p::l=>if k=p.1 then some p.2 else zbL k l
def gH {κ ν:Type} [DecidableEq κ] (k:κ) (v:ν):List (κ×ν)→List (κ×ν)
 | []=>[(k,v)]
 | p::l=>if k=p.1 then (k,v)::l else p::gH k v l
def ko {κ:Type} [DecidableEq κ] (k:κ):List κ→Nat→Option Nat
 | [],_=>none
 | p::l,i=>if k=p then some i else ko k l (i+1)
structure iV (P:Program) (kt:TypeId) {κ:Type} [DecidableEq κ] (ek:κ→Value):Prop where
 check:∀em k (w:World),(jG em 10000 kt (ek k)).run P w=.ok () w
 find:∀ (es:List MapEntry) (ks:List κ) k (w:World),es.map (·.key)=ks.map ek→(Instr.findKey kt (ek k) es).run P w=.ok ((ko k ks 0).map fun i=>(i,((es[i]?).map (·.val)).getD default)) w
 same:∀k,jH 10000 (ek k) (ek k)=true
theorem x8 {κ:Type} [DecidableEq κ] (k:κ):∀ (l:List κ) (i:Nat),ko k l (i+1)=(ko k l i).map (· + 1)
 | [],i=>rfl
 | p::l,i=>by unfold ko;split <;> simp[x8 k l (i+1)]
theorem z8 {κ:Type} [DecidableEq κ] (k p:κ) (e:MapEntry) (a:List MapEntry) (ks:List κ) (n:Nat) :
  ((ko k (p::ks) 0).map fun i=>(i+n,(((e::a)[i]?).map (·.val)).getD default))=if k=p then some (n,e.val) else (ko k ks 0).map fun i=>(i+(n+1),((a[i]?).map (·.val)).getD default):=by
 have e:ko k (p::ks) 0=if k=p then some 0 else ko k ks (0+1):=rfl
 rw[e]
 split
 ·simp
 ·rw[x8,ig];congr 1;funext i;simp[kN,Nat.add_comm 1 n]
theorem iV.int {P:Program} {kt:TypeId} {a:IntKind} (h:P.underlying kt=some (.int a)):iV P kt (fun n:Int=>ax a n) where
 check:=fun r k w=>run_checkKey h (show IsKey (.int a) (.int a k) by simp[IsKey]) r 9999
 find:=fun f ks k w hk=>run_findKey h (by
  have:∀ (f:List MapEntry) (ks:List Int) (n:Nat),f.map (·.key)=ks.map (fun n:Int=>ax a n)→gL (.int a) (.int a k) f n=some ((ko k ks 0).map fun i=>(i+n,((f[i]?).map (·.val)).getD default)):=by
   intro f
   induction f with
   | nil=>intro ks n h;cases ks with
    | nil=>rfl
    | cons _ _=>simp at h
   | cons e f l=>intro ks n h;cases ks with
    | nil=>simp at h
    | cons p ks=>
     simp only[aE,fy] at h
     rw[z8]
     have q:ke (.int a) (.int a k) e.key=some (k==p):=by rw[h.1];simp[ke]
     unfold gL
     rw[q]
     by_cases hp:k=p
     ·subst hp;simp
     ·have:(k==p)=false:=by simpa using hp
      rw[this,ar hp];exact l ks (n+1) h.2
  exact this f ks 0 hk)
 same:=fun k=>by simp[jH]
theorem ya {P:Program} {t:TypeId} {a:IntKind} {xs:Array Value} {j:Nat} {v:Value} {w:World} (h:P.underlying t=some (.int a)) (hv:xs[j]?=some v):(part t xs j).run P w=.ok v w:=by
 simp[part,ak,run_underlying h,hv,isAgg]
theorem JS {P:Program} {t e:TypeId} {f:IntKind} (ht:P.underlying t=some (.array 2 e)) (he:P.underlying e=some (.int f)) (r:bD P e 1) {a b n l:Int} (w:World) :
  (dL 10000 t (.agg #[.int f a,.int f b]) (.agg #[.int f n,.int f l])).run P w=.ok (a==n&&b==l) w:=by
 obtain⟨i,hi,hsz⟩:=r.some
 have h1:∀ (d:Nat) (x y:Int),(dL (d+1) e (.int f x) (.int f y)).run P w=.ok (x==y) w:=fun d x y=>run_equalIn_int w d e f f x y he
 have p1:∀ (x y:Int),(part e #[.int f x,.int f y] 0).run P w=.ok (.int f x) w:=fun x y=>ya he rfl
 have q:∀ (x y:Int),(part e #[.int f x,.int f y] 1).run P w=.ok (.int f y) w:=fun x y=>ya he rfl
 have hc:P.cellsOf e=1:=by simp[qC,hi,hsz]
 have key:∀d:Nat,(dL (d+1+1) t (.agg #[.int f a,.int f b]) (.agg #[.int f n,.int f l])).run P w=.ok (a==n&&b==l) w:=fun d=>by
  unfold dL
  simp only[ak,run_underlying ht,ci,run_sizeOf w hi]
  simp only[iu,lc,Nat.sub_zero,qD,Nat.div_one,hsz,sB,sC,List.forIn_cons,List.forIn_nil,ak,ci,nr,cg,iY,p1,q,h1,ou]
  cases h:(a==n) <;> cases h2:(b==l) <;> simp[ak,p1,q,h1,h,h2,hc]
 exact key 9998
theorem Aa {P:Program} {kt e:TypeId} {f:IntKind} {κ:Type} [DecidableEq κ] {f0 f1:κ→Int} (q:∀a b:κ,f0 a=f0 b→f1 a=f1 b→a=b)
  (ht:P.underlying kt=some (.array 2 e)) (he:P.underlying e=some (.int f)) (D:bD P e 1):iV P kt (fun p:κ=>aZ #[.int f (f0 p),.int f (f1 p)]) where
 check:=fun u k w=>by
  obtain⟨i,hi,hsz⟩:=D.some
  have hc:P.cellsOf e=1:=by simp[qC,hi,hsz]
  have h1:∀ (n:Nat) (x:Int),(jG u (n+1) e (.int f x)).run P w=.ok () w:=fun n x=>run_checkKey he (show IsKey (.int f) (.int f x) by simp[IsKey]) u n
  have p1:∀ (x y:Int),(part e #[.int f x,.int f y] 0).run P w=.ok (.int f x) w:=fun x y=>ya he rfl
  have C:∀ (x y:Int),(part e #[.int f x,.int f y] 1).run P w=.ok (.int f y) w:=fun x y=>ya he rfl
  have key:∀n:Nat,(jG u (n+1+1) kt (.agg #[.int f (f0 k),.int f (f1 k)])).run P w=.ok () w:=fun n=>by
   unfold jG
   simp only[ak,run_underlying ht,ci]
   simp only[iu,lc,Nat.sub_zero,qD,Nat.div_one,sB,sC,List.forIn_cons,List.forIn_nil,ak,run_sizeOf w hi,hsz,ci,nr,cg,iY,p1,C,h1,ou]
   simp[ak,run_sizeOf w hi,hsz,p1,C,h1,hc]
  exact key 9998
 find:=fun l ks k w hk=>by
  have hA:∀ (l:List MapEntry) (ks:List κ) (n:Nat),l.map (·.key)=ks.map (fun p:κ=>aZ #[.int f (f0 p),.int f (f1 p)])→(rv kt (.agg #[.int f (f0 k),.int f (f1 k)]) l n).run P w=.ok ((ko k ks 0).map fun i=>(i+n,((l[i]?).map (·.val)).getD default)) w:=by
   intro l
   induction l with
   | nil=>intro ks n h;cases ks with
    | nil=>rfl
    | cons _ _=>simp at h
   | cons E l G=>intro ks n h;cases ks with
    | nil=>simp at h
    | cons p ks=>
     simp only[aE,fy] at h
     rw[z8]
     unfold rv
     rw[h.1]
     have r:(Op.equal kt (.agg #[.int f (f0 k),.int f (f1 k)]) (.agg #[.int f (f0 p),.int f (f1 p)])).run P w=.ok (f0 k==f0 p&&f1 k==f1 p) w:=JS ht he D w
     simp only[ak,r,ci]
     by_cases hp:k=p
     ·subst hp;simp
     ·have:(f0 k==f0 p&&f1 k==f1 p)=false:=by
       cases h':(f0 k==f0 p&&f1 k==f1 p) with
       | false=>rfl
       | true=>simp at h';exact absurd (q _ _ h'.1 h'.2) hp
      rw[this,ar hp];exact G ks (n+1) h.2
  have hA:=hA l ks 0 hk
  unfold Instr.findKey
  simp only[ak,run_underlying ht,ci]
  cases l with
  | nil=>cases ks with
   | nil=>rfl
   | cons _ _=>simp at hk
  | cons E l=>cases ks with
   | nil=>simp at hk
   | cons p ks=>
    simp only[aE,fy] at hk
    have:gL (.array 2 e) (.agg #[.int f (f0 k),.int f (f1 k)]) (E::l) 0=none:=by
     unfold gL;rw[hk.1];rfl
    rw[this];exact hA
 same:=fun k=>by simp[jH]
def cq {κ ν:Type} (ek:κ→Value) (ev:ν→Value) (b:Nat) (L:List (κ×ν)):Asn :=
 vK fun z:{z:Array MapEntry×Nat // z.1.toList.map (fun e=>(e.key,e.val))=L.map (fun p=>(ek p.1,ev p.2))}=>obj b (.map z.1.1 z.1.2)
theorem vV {κ ν:Type} [DecidableEq κ] (k:κ):∀ (L:List (κ×ν)),((ko k (L.map bu) 0).bind fun i=>(L[i]?).map eV)=zbL k L
 | []=>rfl
 | p::L=>by
  have e:ko k ((p::L).map bu) 0=if k=p.1 then some 0 else ko k (L.map bu) (0+1):=rfl
  rw[e];unfold zbL
  split
  ·simp
  ·rw[x8,← vV k L];cases ko k (L.map bu) 0 <;> simp
theorem tX {κ:Type} [DecidableEq κ] (k:κ):∀ (L:List κ) (i n:Nat),ko k L i=some n→i≤n∧n<i+L.length∧L[n - i]?=some k
 | [],i,n,h=>by cases h
 | p::L,i,n,h=>by
  unfold ko at h
  split at h
  ·rename_i hp;cases h;subst hp;simp
  ·obtain⟨h1,h2,a⟩:=tX k L (i+1) n h
   refine⟨by omega,by simp;omega,?_⟩
   rw[show n - i=(n - (i+1))+1 by omega];simpa using a
theorem Ek {κ ν:Type} [DecidableEq κ] (k:κ) (v:ν):∀ (L:List (κ×ν)),gH k v L=match ko k (L.map bu) 0 with | some i=>L.set i (k,v) | none=>L++[(k,v)]
 | []=>rfl
 | p::L=>by
  have e:ko k ((p::L).map bu) 0=if k=p.1 then some 0 else ko k (L.map bu) (0+1):=rfl
  rw[e];unfold gH
  by_cases h:k=p.1
  ·rw[ay h,ay h];rfl
  ·rw[ar h,ar h,x8,Ek k v L];cases ko k (L.map bu) 0 <;> rfl
section
variable {F:Fence} {P:Program} {w0:World} {K:Nat→Prop} {N:Nat} {dfs:List Deferred} {ops:Array Oper} {Q:Exit→Act→World→Prop} {rest:List Oper} {σ:List (Nat×Value)} {L:List Asn}
 {d:Nat} {ty:TypeId} {pos:String} {aft:Array Edge} {g:Option (Nat×Bool)} {x y z:Operand} {k b:Nat} {κ ν:Type} [DecidableEq κ] {ek:κ→Value} {ev':ν→Value} {mt kt et:TypeId} {M:List (κ×ν)}
omit [DecidableEq κ] in
theorem tY [br F] (ek:κ→Value) (ev':ν→Value) (hg:gd ops σ g=some true) (hd:d<N)
  (h:∀b,TO F P w0 K N dfs ops Q rest ((d,.map (some b))::σ) (L++[cq ek ev' b []])):TO F P w0 K N dfs ops Q (⟨some d,.makeMap mt none,ty,pos,aft,g⟩::rest) σ L :=
 nw hg (by simp) fun a w l f=>⟨.map (some w.heap.size),w.alloc (.map #[] 0),by simp[execOp,Instr.makeMap,ak],h _ _ _ (l.put hd _) (by
  have h1:=f.alloc (.map #[] 0)
  have h2:=h1.ent (k:=L.length) (A:=obj w.heap.size (.map #[] 0)) (B:=cq ek ev' w.heap.size []) (by simp) (fun C w' hp=>⟨⟨(#[],0),rfl⟩,hp⟩)
  simpa using h2)⟩
theorem tZ [br F] {kk:κ} {vv:ν} (O:iV P kt ek) (ht:P.underlying mt=some (.map kt et)) (hg:gd ops σ g=some true) (hx:ev σ x=some (.map (some b))) (hy:ev σ y=some (ek kk)) (hz:ev σ z=some (ev' vv))
  (hk:L[k]?=some (cq ek ev' b M)) (h:TO F P w0 K N dfs ops Q rest σ (L.set k (cq ek ev' b (gH kk vv M)))):TO F P w0 K N dfs ops Q (⟨none,.mapUpdate mt x y z,ty,pos,aft,g⟩::rest) σ L :=
 xK hg (by simp) fun a w I hw=>by
  obtain⟨C1,⟨⟨⟨q,f⟩,u⟩,X,D⟩,E⟩:=hw.focus hk
  have D:w.heap[b]?=some (.map q f):=D
  have u:q.toList.map (fun e=>(e.key,e.val))=M.map (fun p=>(ek p.1,ev' p.2)):=u
  have C:q.toList.map (·.key)=(M.map bu).map ek:=by
   have:=aL (lu bu) u
   simpa [ce,dr] using this
  have n:=O.find q.toList (M.map bu) kk w C
  have r:=Ek kk vv M
  have W:q.toList.length=M.length:=by have:=aL gi u;simpa using this
  have J:∀S:Obj,(∀C' w',(∀k,C' k↔k=b)→w'.heap[b]?=some S→(cq ek ev' b (gH kk vv M)).P C' w')→Holds w0 K (L.set k (cq ek ev' b (gH kk vv M))) (w.putObj b S):=fun S ho=>
   E _ C1 _ ⟨(Fr.refl _ _).putObj (.inl ((X b).2 rfl)) _,fun k hk=>.inl hk⟩ (ho _ _ X (gC (ki D)))
  have ex:=I.ev hx;have Z:=I.ev hy;have Y:=I.ev hz
  cases hi:ko kk (M.map bu) 0 with
  | none=>
   rw[hi] at n r
   refine⟨w.putObj b (.map (q.push { key:=ek kk,val:=ev' vv,born:=f }) (f+1)),?_,h _ _ I (J _ fun C' w' h1 h2=>⟨⟨(_,_),?_⟩,h1,h2⟩)⟩
   ·simp[execOp,ex,Z,Y,sD,run_underlying ht,ca D,O.check,n,run_setObj_map _ D,ak,World.putObj]
   ·simp[r,u]
  | some i=>
   rw[hi] at n r
   obtain⟨_,h2,V⟩:=tX kk _ _ _ hi
   simp at h2
   have V:(M.map bu)[i]?=some kk:=by simpa using V
   have U:i<q.toList.length:=by omega
   have G:(q[i]?).map (·.key)=some (ek kk):=by
    have:=aL (fun l=>l[i]?) C
    simp only[bV] at this
    rw[show q[i]?=q.toList[i]? by simp,this]
    have h4:M[i]?.map bu=some kk:=by simpa using V
    rw[h4];rfl
   refine⟨w.putObj b (.map (q.modify i fun e=>{ e with key:=ek kk,val:=ev' vv }) f),?_,h _ _ I (J _ fun C' w' h1 h2=>⟨⟨(q.modify i fun e=>{ e with key:=ek kk,val:=ev' vv },f),?_⟩,h1,h2⟩)⟩
   ·have T:(pS (ek kk) (ek kk)).run P w=.ok (ek kk) w:=by simp[pS,O.same]
    simp[execOp,ex,Z,Y,sD,run_underlying ht,ca D,O.check,n,G,T,run_setObj_map _ D,ak,World.putObj]
   ·show lu (fun e=>(e.key,e.val)) (q.modify i fun e=>{ e with key:=ek kk,val:=ev' vv }).toList=_
    rw[r]
    apply List.ext_getElem?
    intro j
    have hj:=aL (fun l=>l[j]?) u
    simp only[bV] at hj
    simp only[Array.toList_modify,bV,List.getElem?_modify,List.getElem?_set]
    by_cases H:i=j
    ·subst H
     have h5:q.toList[i]?=some q.toList[i]:=aP U
     simp[h5,show i<M.length by omega]
    ·simp[H];simpa using hj
theorem yb [br F] {kk:κ} {z0:ν} (I:iV P kt ek) (ht:P.underlying mt=some (.map kt et)) (n:(P.info? et).bind (fun i=>i.zero)=some (ev' z0)) (hg:gd ops σ g=some true) (hd:d<N) (hx:ev σ x=some (.map (some b))) (hy:ev σ y=some (ek kk))
  (hk:L[k]?=some (cq ek ev' b M)) (h:TO F P w0 K N dfs ops Q rest ((d,.tuple #[ev' ((zbL kk M).getD z0),.bool (zbL kk M).isSome])::σ) L):TO F P w0 K N dfs ops Q (⟨some d,.lookup mt x y true,ty,pos,aft,g⟩::rest) σ L :=
 iS hg hd (by simp) (fun a w O U=>by
  obtain⟨C1,⟨⟨⟨D,C⟩,q⟩,V,E⟩,J⟩:=U.focus hk
  have E:w.heap[b]?=some (.map D C):=E
  have q:D.toList.map (fun e=>(e.key,e.val))=M.map (fun p=>(ek p.1,ev' p.2)):=q
  have u:D.toList.map (·.key)=(M.map bu).map ek:=by
   have:=aL (lu bu) q
   simpa [ce,dr] using this
  have f:=I.find D.toList (M.map bu) kk w u
  have ex:=O.ev hx;have T:=O.ev hy
  have r:(zeroValue et).run P w=.ok (ev' z0) w:=by
   cases hi:P.info? et with
   | none=>rw[hi] at n;cases n
   | some i=>
    rw[hi] at n
    have G:i.zero=some (ev' z0):=n
    simp[zeroValue,typeInfo,hi,G,ak]
  rw[← vV kk M]
  cases hi:ko kk (M.map bu) 0 with
  | none=>
   rw[hi] at f
   simp[execOp,ex,T,fu,run_underlying ht,ca E,I.check,f,r,ak]
  | some i=>
   rw[hi] at f
   obtain⟨_,h2,W⟩:=tX kk _ _ _ hi
   simp at h2
   have hj:=aL (fun l=>(l[i]?).map eV) q
   simp only[bV,ig,dr] at hj
   have S:M[i]?=some M[i]:=aP h2
   have hv:(D.toList[i]?).map (·.val)=some (ev' M[i].2):=by rw[hj,S];rfl
   have H:(D[i]?).map (·.val)=some (ev' M[i].2):=by simpa using hv
   simp[execOp,ex,T,fu,run_underlying ht,ca E,I.check,f,H,S,ak]) h
end
end
def Rd (w:World) (K:Nat→Prop) (RD:List Asn):Prop:=∀A∈RD,∃C,A.P C w∧∀k,C k→¬ K k
theorem Rd.nil {w:World} {K:Nat→Prop}:Rd w K []:=fun A h=>by cases h
theorem Rd.ext {w0 w:World} {K C:Nat→Prop} {RD:List Asn} (h:Rd w0 K RD) (hx:cF K C w0 w):Rd w C RD:=fun A hA=>by
 obtain⟨D,h1,h2⟩:=h A hA
 have a:=A.lt h1
 refine⟨D,A.loc h1 hx.1.size (fun k hk=>hx.1.keep k (a k hk) (h2 k hk)),fun k hk hc=>?_⟩
 rcases hx.2 k hc with h | h
 ·exact h2 k hk h
 ·have:=a k hk;omega
theorem Rd.append {w:World} {K:Nat→Prop} {A B:List Asn} (h1:Rd w K A) (h2:Rd w K B):Rd w K (A++B):=fun X a=>by
 rcases List.mem_append.1 a with h | h
 ·exact h1 X h
 ·exact h2 X h
theorem Rd.at {w0 w:World} {K:Nat→Prop} {L RD:List Asn} {A:Asn} {i:Nat} (h:Rd w0 K RD) (a:Holds w0 K L w) (hi:RD[i]?=some A):∃C,A.P C w:=by
 obtain⟨C,_,hx⟩:=a
 obtain⟨D,h1,_⟩:=h.ext hx A (aJ hi)
 exact⟨D,h1⟩
theorem Rd.more {w:World} {K:Nat→Prop} {RD As:List Asn} {A:Asn} {i:Nat} (h:Rd w K RD) (hi:RD[i]?=some A) (a:∀C,A.P C w→∀B∈As,∃D,B.P D w∧∀k,D k→C k):Rd w K (RD++As):=by
 refine h.append fun B hB=>?_
 obtain⟨C,h1,h2⟩:=h A (aJ hi)
 obtain⟨D,l,f⟩:=a C h1 B hB
 exact⟨D,l,fun k hk=>h2 k (f k hk)⟩
inductive od (R RD0:List Asn):List Asn→Prop
 | nil:od R RD0 []
 | own {A:Asn} {As R' RD:List Asn} (hs:ap R As R') (hE:∀C w,aN As C w→A.P C w) (h:od R RD0 RD):od R RD0 (A::RD)
 | ro {A:Asn} {RD:List Asn} (i:Nat) (hi:RD0[i]?=some A) (h:od R RD0 RD):od R RD0 (A::RD)
theorem od.rd {w0 w:World} {K C1 C2:Nat→Prop} {R RD0 RD:List Asn} (h:od R RD0 RD) (f:aN R C2 w) (hd:∀k,C1 k→¬ C2 k) (h0:Rd w C1 RD0):Rd w C1 RD:=by
 induction h with
 | nil=>exact Rd.nil
 | @own A As R' RD hs hE h ih=>
  intro B hB
  rcases bE.1 hB with rfl | hB
  ·obtain⟨a,r,l,q,n,g4⟩:=hs C2 w f
   exact⟨a,hE a w l,fun k hk hc=>hd k hc ((g4 k).2 (.inl hk))⟩
  ·exact ih B hB
 | @ro A RD i hi h ih=>
  intro B hB
  rcases bE.1 hB with rfl | hB
  ·exact h0 _ (aJ hi)
  ·exact ih B hB
def iv (P:Program) (f:FuncId) (vs:List Value) (RD As:List Asn) {β:Type} (V:β→Value) (Bs:β→List Asn):Prop :=
 ∀w C,Rd w C RD→vA P f vs As V Bs w C
section
variable {F:Fence} {P:Program} {w0:World} {K:Nat→Prop} {N:Nat} {dfs:List Deferred} {ops:Array Oper} {Q:Exit→Act→World→Prop} {rest:List Oper} {σ σ':List (Nat×Value)} {L L' R As Bs:List Asn} {o:Oper} {v:Value}
 {d:Nat} {t:TypeId} {op:Op} {ty:TypeId} {pos:String} {aft:Array Edge} {g:Option (Nat×Bool)} {x y z:Operand} {c c1 c2:Code} {k:Nat} {A B:Asn} {RO:List (Nat×Obj)} {RD RD0:List Asn} {e:TypeId} {ex:Exit}
theorem iv.intro {f:FuncId} {fn:Func} {vs:List Value} {β:Type} {V:β→Value} {Bs:β→List Asn} (hf:P.funcs[f]?=some fn) (l:fn.body=some c) (a:fn.ntmps=N) (q:vs.length≤N)
  (h:∀w0 K,Rd w0 K RD→TC bn P w0 K N [] (bodyPostM bn 0 P fn (FR P V Bs w0 K)) c (qI vs) As):iv P f vs RD As V Bs :=
 fun w C n=>vA.intro hf l a q (h w C n)
theorem Em [br F] {xs:List Operand} {q:Array TypeId} {f:FuncId} {first cap:Array Value} {vs l:List Value} {β:Type} {V:β→Value} {Bs:β→List Asn} {dst:Option Nat} (H:Rd w0 K RD0)
  (hg:gd ops σ g=some true) (hx:ev σ x=some (.func (.func f) first cap)) (D:evL σ xs=some vs) (hv:first.toList++vs++cap.toList=l)
  (r:∀args w,(callFunc f args).run P w=.ok (.enter f args) w) (T:iv P f l RD As V Bs) (O:ap L As R) (S:od R RD0 RD)
  (h:∀b a w I,I=a.put dst (V b)→At N dfs σ a→Holds w0 K (R++Bs b) w→wpListIn F 0 P ops Q rest I w) :
  TO F P w0 K N dfs ops Q (⟨dst,.call { callee:=.value x,args:=xs.toArray,argTypes:=q },ty,pos,aft,g⟩::rest) σ L:=by
 intro a w C J
 simp only[wpListIn,sF (o:=⟨dst,.call { callee:=.value x,args:=xs.toArray,argTypes:=q },ty,pos,aft,g⟩) C hg,if_true]
 refine⟨fun f _=>br.fn f,?_⟩
 have h1:(execOp a.eval ⟨dst,.call { callee:=.value x,args:=xs.toArray,argTypes:=q },ty,pos,aft,g⟩).run P w=.ok (.enter f l.toArray) w:=by
  have e:first++vs.toArray++cap=l.toArray:=by rw[← hv];simp
  simp only[execOp,resolve,List.map_toArray,C.evL D,C.ev hx,Deferred.ofValue,ak,Sem.run_pure,ci,invoke,e,r]
 rw[Oper.semAt_plain F _ _ (by simp),h1]
 refine⟨(fun h=>by rw[br.depth (F:=F)] at h;cases h),?_⟩
 obtain⟨C1,C2,hA,W,U,E,n⟩:=J.split2 O
 have u:Rd w C1 RD0:=H.ext E
 refine br.calls ((T w C1 (S.rd (w0:=w0) (K:=K) W U u) hA).mono ?_)
 rintro e w' ⟨b,rfl,C',hB,G⟩
 exact h b a w' _ rfl C (n _ _ _ G hB)
theorem ua [br F] {xs:List Operand} {C:Array TypeId} {f:FuncId} {first cap:Array Value} {vs l:List Value} {β:Type} {V:β→Value} {Bs:β→List Asn} (u:Rd w0 K RD0)
  (hg:gd ops σ g=some true) (hd:d<N) (hx:ev σ x=some (.func (.func f) first cap)) (q:evL σ xs=some vs) (hv:first.toList++vs++cap.toList=l)
  (n:∀args w,(callFunc f args).run P w=.ok (.enter f args) w) (I:iv P f l RD As V Bs) (E:ap L As R) (H:od R RD0 RD)
  (h:∀b,TO F P w0 K N dfs ops Q rest ((d,V b)::σ) (R++Bs b)) :
  TO F P w0 K N dfs ops Q (⟨some d,.call { callee:=.value x,args:=xs.toArray,argTypes:=C },ty,pos,aft,g⟩::rest) σ L :=
 Em u hg hx q hv n I E H fun b a w J r G D=>by subst r;exact h b _ _ (G.put hd _) D
theorem nj [br F] {xs:List Operand} {C:Array TypeId} {f:FuncId} {first cap:Array Value} {vs l:List Value} (u:Rd w0 K RD0)
  (hg:gd ops σ g=some true) (hd:d<N) (hx:ev σ x=some (.func (.func f) first cap)) (q:evL σ xs=some vs) (hv:first.toList++vs++cap.toList=l)
  (n:∀args w,(callFunc f args).run P w=.ok (.enter f args) w) (H:iv P f l RD [] (fun _:Unit=>v) (fun _=>[])) (G:od L RD0 RD)
  (h:TO F P w0 K N dfs ops Q rest ((d,v)::σ) L) :
  TO F P w0 K N dfs ops Q (⟨some d,.call { callee:=.value x,args:=xs.toArray,argTypes:=C },ty,pos,aft,g⟩::rest) σ L :=
 Em u hg hx q hv n H ap.nil G fun b a w I r E D=>by
  subst r
  rw[List.append_nil] at D
  exact h _ _ (E.put hd _) D
section
variable {i:Nat}
theorem lT [br F] {b j:Nat} {l:List Value} {e:TypeId} (hr:Rd w0 K RD) (hi:RD[i]?=some (cells b l e)) (r:kj P t) (hg:gd ops σ g=some true) (hd:d<N) (hx:ev σ x=some (.pointer (some ⟨b,j,none⟩))) (hj:l[j]?=some v)
  (h:TO F P w0 K N dfs ops Q rest ((d,v)::σ) L):TO F P w0 K N dfs ops Q (⟨some d,.load t x,ty,pos,aft,g⟩::rest) σ L:=by
 obtain⟨dd,hu,f⟩:=r
 exact iS hg hd (by simp) (fun a w q n=>by
  obtain⟨C,u⟩:=hr.at n hi
  have hc:w.cell? ⟨b,j,none⟩=some v:=nN u.2 (by simpa using hj)
  cases dd <;> simp_all [execOp,q.ev hx,jF,el,loadVar,isAgg,ak,run_underlying hu]) h
variable {α:Type} {enc:α→List Value} {size:Nat} {vv:Value} {xs:List α}
theorem En {w:World} {C:Nat→Prop} (h:(vec enc e size vv xs).P C w):Vw vv xs size 0 vv xs:=by
 have f:Holds w (fun _=>False) [vec enc e size vv xs] w→Vw vv xs size 0 vv xs:=fun a=>xS (k:=0) a rfl
 have:Holds w C [vec enc e size vv xs] w:=⟨C,jE h,dY _ _⟩
 exact xS (k:=0) this rfl
theorem Rd.vw {w:World} (hr:Rd w K RD) (hi:RD[i]?=some (vec enc e size vv xs)):Vw vv xs size 0 vv xs:=by
 obtain⟨C,a,_⟩:=hr _ (aJ hi)
 exact En a
theorem vW [br F] {n j off:Nat} {q:α} (hr:Rd w0 K RD) (hi:RD[i]?=some (vec enc e size vv xs)) (E:kj P t) (hz:∀x,(enc x).length=size) (hg:gd ops σ g=some true) (hd:d<N) (hx:ev σ x=some (.pointer (some ⟨gG vv,off,none⟩)))
  (r:xs[n]?=some q) (u:off=n*size+j) (hj:j<size) (hv:(enc q)[j]?=some v) (h:TO F P w0 K N dfs ops Q rest ((d,v)::σ) L) :
  TO F P w0 K N dfs ops Q (⟨some d,.load t x,ty,pos,aft,g⟩::rest) σ L:=by
 subst u
 obtain⟨dd,hu,l⟩:=E
 refine iS hg hd (by simp) (fun a w D f=>?_) h
 obtain⟨C,G⟩:=hr.at f hi
 have hV:gQ enc e size vv xs C w:=G
 have hc:=hV.cellAt hz r hj hv
 have h1:=D.ev hx
 cases dd <;> simp_all [execOp,jF,el,loadVar,isAgg,ak,run_underlying hu]
end
end
section
variable {α η:Type} {enc:α×η→List Value} {nest:α×η→List Asn} {t:TypeId} {p:Value} {x:α}
def lU (enc:α×η→List Value) (nest:α×η→List Asn) (t:TypeId) (p:Value):Option α→Asn
 | none=>zAj (p=.pointer none)
 | some x=>vK fun bh:Nat×η=>zgL (zAj (p=.pointer (some ⟨bh.1,0,none⟩))::cells bh.1 (enc (x,bh.2)) t::nest (x,bh.2))
theorem nk {q:Prop} {L:List Asn} {C:Nat→Prop} {w:World}:aN (zAj q::L) C w↔q∧aN L C w:=by
 constructor
 ·rintro⟨C1,C2,⟨h1,a⟩,h2,l,f⟩
  have:C=C2:=funext fun k=>propext ⟨fun h=>((f k).1 h).resolve_left (h1 k),fun h=>(f k).2 (.inr h)⟩
  subst this
  exact⟨a,h2⟩
 ·rintro⟨a,h⟩
  exact⟨fun _=>False,C,⟨fun _ h=>h,a⟩,h,fun _ h=>h.elim,fun k=>by simp⟩
theorem kp {C:Nat→Prop} {w:World}:(lU enc nest t p (some x)).P C w↔∃b h,p=.pointer (some ⟨b,0,none⟩)∧aN (cells b (enc (x,h)) t::nest (x,h)) C w:=by
 constructor
 ·rintro⟨⟨b,h⟩,a⟩
  obtain⟨h1,h2⟩:=nk.1 a
  exact⟨b,h,h1,h2⟩
 ·rintro⟨b,h,h1,h2⟩
  exact⟨⟨b,h⟩,nk.2 ⟨h1,h2⟩⟩
theorem JT {b:Nat} {hd:η} {w:World} {C:Nat→Prop} (h:aN (cells b (enc (x,hd)) t::nest (x,hd)) C w):(lU enc nest t (.pointer (some ⟨b,0,none⟩)) (some x)).P C w:=kp.2 ⟨b,hd,rfl,h⟩
theorem Eo {b:Nat} {hd:η}:lz (cells b (enc (x,hd)) t::nest (x,hd)) (fun _:Unit=>[lU enc nest t (.pointer (some ⟨b,0,none⟩)) (some x)]) (fun _=>True):=fun C w h=>⟨(),trivial,aI.2 (JT h)⟩
theorem Ep {m:Option α} {C:Nat→Prop} {w:World} (h:(lU enc nest t p m).P C w):(m=none∧p=.pointer none)∨(∃x b,m=some x∧p=.pointer (some ⟨b,0,none⟩)):=by
 cases m with
 | none=>exact .inl ⟨rfl,h.2⟩
 | some x=>obtain⟨b,_,h2,_⟩:=kp.1 h;exact .inr ⟨x,b,rfl,h2⟩
end
section
open Go.MapKept
theorem Er (a b:ab):(a==b)=decide (a=b):=by
 cases a with | mk x=>cases b with | mk y=>
 show (x==y)=_
 by_cases h:x=y
 ·subst h;simp
 ·have:¬ (ry x=ry y):=fun e=>h (by cases e;rfl)
  rw[ae this];exact aS.2 h
theorem mn {P:Program} {kt:TypeId} (h:P.underlying kt=some .string):iV P kt (fun s:ab=>aa s) where
 check:=fun q k w=>run_checkKey h (show IsKey .string (.string k) by simp[IsKey]) q 9999
 find:=fun a ks k w hk=>run_findKey h (by
  have:∀ (a:List MapEntry) (ks:List ab) (n:Nat),a.map (·.key)=ks.map (fun s:ab=>aa s)→gL .string (.string k) a n=some ((ko k ks 0).map fun i=>(i+n,((a[i]?).map (·.val)).getD default)):=by
   intro a
   induction a with
   | nil=>intro ks n h;cases ks with
    | nil=>rfl
    | cons _ _=>simp at h
   | cons e a f=>intro ks n h;cases ks with
    | nil=>simp at h
    | cons p ks=>
     simp only[aE,fy] at h
     rw[z8]
     have l:ke .string (.string k) e.key=some (decide (k=p)):=by rw[h.1];simp[ke,Er]
     unfold gL
     rw[l]
     by_cases hp:k=p
     ·subst hp;simp
     ·rw[ae hp,ar hp];exact f ks (n+1) h.2
  exact this a ks 0 hk)
 same:=fun k=>by simp[jH,Er]
section
variable {F:Fence} {P:Program} {w0:World} {K:Nat→Prop} {N:Nat} {dfs:List Deferred} {ops:Array Oper} {Q:Exit→Act→World→Prop} {rest:List Oper} {σ:List (Nat×Value)} {L RD:List Asn}
 {d:Nat} {ty:TypeId} {pos:String} {aft:Array Edge} {g:Option (Nat×Bool)} {x y z:Operand} {k b:Nat} {κ ν:Type} [DecidableEq κ] {ek:κ→Value} {ev':ν→Value} {mt kt et:TypeId} {M:List (κ×ν)}
theorem Es [br F] {kk:κ} {z0:ν} (I:iV P kt ek) (ht:P.underlying mt=some (.map kt et)) (n:(P.info? et).bind (fun i=>i.zero)=some (ev' z0)) (hg:gd ops σ g=some true) (hd:d<N) (hx:ev σ x=some (.map (some b))) (hy:ev σ y=some (ek kk))
  (hk:L[k]?=some (cq ek ev' b M)) (h:TO F P w0 K N dfs ops Q rest ((d,ev' ((zbL kk M).getD z0))::σ) L):TO F P w0 K N dfs ops Q (⟨some d,.lookup mt x y false,ty,pos,aft,g⟩::rest) σ L :=
 iS hg hd (by simp) (fun a w O U=>by
  obtain⟨C1,⟨⟨⟨D,C⟩,q⟩,V,E⟩,J⟩:=U.focus hk
  have E:w.heap[b]?=some (.map D C):=E
  have q:D.toList.map (fun e=>(e.key,e.val))=M.map (fun p=>(ek p.1,ev' p.2)):=q
  have u:D.toList.map (·.key)=(M.map bu).map ek:=by
   have:=aL (lu bu) q
   simpa [ce,dr] using this
  have f:=I.find D.toList (M.map bu) kk w u
  have ex:=O.ev hx;have T:=O.ev hy
  have r:(zeroValue et).run P w=.ok (ev' z0) w:=by
   cases hi:P.info? et with
   | none=>rw[hi] at n;cases n
   | some i=>
    rw[hi] at n
    have G:i.zero=some (ev' z0):=n
    simp[zeroValue,typeInfo,hi,G,ak]
  rw[← vV kk M]
  cases hi:ko kk (M.map bu) 0 with
  | none=>
   rw[hi] at f
   simp[execOp,ex,T,fu,run_underlying ht,ca E,I.check,f,r,ak]
  | some i=>
   rw[hi] at f
   obtain⟨_,h2,W⟩:=tX kk _ _ _ hi
   simp at h2
   have hj:=aL (fun l=>(l[i]?).map eV) q
   simp only[bV,ig,dr] at hj
   have S:M[i]?=some M[i]:=aP h2
   have hv:(D.toList[i]?).map (·.val)=some (ev' M[i].2):=by rw[hj,S];rfl
   have H:(D[i]?).map (·.val)=some (ev' M[i].2):=by simpa using hv
   simp[execOp,ex,T,fu,run_underlying ht,ca E,I.check,f,H,S,ak]) h
theorem yc [br F] {kk:κ} {z0:ν} (I:iV P kt ek) (ht:P.underlying mt=some (.map kt et)) (n:(P.info? et).bind (fun i=>i.zero)=some (ev' z0)) (hg:gd ops σ g=some true) (hd:d<N) (hx:ev σ x=some (.map (some b))) (hy:ev σ y=some (ek kk))
  (hr:Rd w0 K RD) (hi:RD[k]?=some (cq ek ev' b M)) (h:TO F P w0 K N dfs ops Q rest ((d,.tuple #[ev' ((zbL kk M).getD z0),.bool (zbL kk M).isSome])::σ) L):TO F P w0 K N dfs ops Q (⟨some d,.lookup mt x y true,ty,pos,aft,g⟩::rest) σ L :=
 iS hg hd (by simp) (fun a w J T=>by
  obtain⟨C1,⟨⟨D,C⟩,q⟩,U,E⟩:=hr.at T hi
  have E:w.heap[b]?=some (.map D C):=E
  have q:D.toList.map (fun e=>(e.key,e.val))=M.map (fun p=>(ek p.1,ev' p.2)):=q
  have u:D.toList.map (·.key)=(M.map bu).map ek:=by
   have:=aL (lu bu) q
   simpa [ce,dr] using this
  have f:=I.find D.toList (M.map bu) kk w u
  have ex:=J.ev hx;have S:=J.ev hy
  have r:(zeroValue et).run P w=.ok (ev' z0) w:=by
   cases hi:P.info? et with
   | none=>rw[hi] at n;cases n
   | some i=>
    rw[hi] at n
    have G:i.zero=some (ev' z0):=n
    simp[zeroValue,typeInfo,hi,G,ak]
  rw[← vV kk M]
  cases hi:ko kk (M.map bu) 0 with
  | none=>
   rw[hi] at f
   simp[execOp,ex,S,fu,run_underlying ht,ca E,I.check,f,r,ak]
  | some i=>
   rw[hi] at f
   obtain⟨_,h2,V⟩:=tX kk _ _ _ hi
   simp at h2
   have hj:=aL (fun l=>(l[i]?).map eV) q
   simp only[bV,ig,dr] at hj
   have O:M[i]?=some M[i]:=aP h2
   have hv:(D.toList[i]?).map (·.val)=some (ev' M[i].2):=by rw[hj,O];rfl
   have H:(D[i]?).map (·.val)=some (ev' M[i].2):=by simpa using hv
   simp[execOp,ex,S,fu,run_underlying ht,ca E,I.check,f,H,O,ak]) h
theorem qP [br F] {kk:κ} {z0:ν} (I:iV P kt ek) (ht:P.underlying mt=some (.map kt et)) (n:(P.info? et).bind (fun i=>i.zero)=some (ev' z0)) (hg:gd ops σ g=some true) (hd:d<N) (hx:ev σ x=some (.map (some b))) (hy:ev σ y=some (ek kk))
  (hr:Rd w0 K RD) (hi:RD[k]?=some (cq ek ev' b M)) (h:TO F P w0 K N dfs ops Q rest ((d,ev' ((zbL kk M).getD z0))::σ) L):TO F P w0 K N dfs ops Q (⟨some d,.lookup mt x y false,ty,pos,aft,g⟩::rest) σ L :=
 iS hg hd (by simp) (fun a w J T=>by
  obtain⟨C1,⟨⟨D,C⟩,q⟩,U,E⟩:=hr.at T hi
  have E:w.heap[b]?=some (.map D C):=E
  have q:D.toList.map (fun e=>(e.key,e.val))=M.map (fun p=>(ek p.1,ev' p.2)):=q
  have u:D.toList.map (·.key)=(M.map bu).map ek:=by
   have:=aL (lu bu) q
   simpa [ce,dr] using this
  have f:=I.find D.toList (M.map bu) kk w u
  have ex:=J.ev hx;have S:=J.ev hy
  have r:(zeroValue et).run P w=.ok (ev' z0) w:=by
   cases hi:P.info? et with
   | none=>rw[hi] at n;cases n
   | some i=>
    rw[hi] at n
    have G:i.zero=some (ev' z0):=n
    simp[zeroValue,typeInfo,hi,G,ak]
  rw[← vV kk M]
  cases hi:ko kk (M.map bu) 0 with
  | none=>
   rw[hi] at f
   simp[execOp,ex,S,fu,run_underlying ht,ca E,I.check,f,r,ak]
  | some i=>
   rw[hi] at f
   obtain⟨_,h2,V⟩:=tX kk _ _ _ hi
   simp at h2
   have hj:=aL (fun l=>(l[i]?).map eV) q
   simp only[bV,ig,dr] at hj
   have O:M[i]?=some M[i]:=aP h2
   have hv:(D.toList[i]?).map (·.val)=some (ev' M[i].2):=by rw[hj,O];rfl
   have H:(D[i]?).map (·.val)=some (ev' M[i].2):=by simpa using hv
   simp[execOp,ex,S,fu,run_underlying ht,ca E,I.check,f,H,O,ak]) h
end
end
section
variable {α:Type} {enc:α→List Value} {size k:Nat} {vv:Value} {xs:List α}
def ji (enc:α→List Value) (size:Nat) (vv:Value) (k:Nat) (xs:List α):Asn :=
  ⟨fun C w=>(∀b,C b→b<w.heap.size)∧∀i x j v,k≤i→xs[i]?=some x→(enc x)[j]?=some v→C (gG vv)∧w.cell? ⟨gG vv,i*size+j,none⟩=some v,
   fun h b hb=>h.1 b hb,
   fun {C w w'} h hs hk=>⟨fun b hb=>eA (h.1 b hb) hs,fun i x j v hi hx hv=>by
     obtain⟨h1,h2⟩:=h.2 i x j v hi hx hv
     refine⟨h1,?_⟩
     rw[← h2]
     unfold World.cell?
     simp only[hk _ h1]⟩⟩
theorem nU {e:TypeId} (hz:∀x,(enc x).length=size) {C:Nat→Prop} {w:World} (h:(vec enc e size vv xs).P C w):(ji enc size vv 0 xs).P C w:=by
 have hV:gQ enc e size vv xs C w:=h
 refine⟨(vec enc e size vv xs).lt h,fun i x j v _ hx hv=>?_⟩
 have hj:j<size:=by rw[← hz x];exact (au.1 hv).1
 refine⟨?_,hV.cellAt hz hx hj hv⟩
 rcases hV.shape with⟨_,h2,_⟩ | ⟨g,cap,rfl,_⟩
 ·rw[h2] at hx;simp at hx
 ·rw[hV.2];rfl
variable {F:Fence} {P:Program} {w0:World} {K:Nat→Prop} {N:Nat} {dfs:List Deferred} {ops:Array Oper} {Q:Exit→Act→World→Prop} {rest:List Oper} {σ:List (Nat×Value)} {L RD:List Asn} {v:Value}
 {d i:Nat} {t ty:TypeId} {pos:String} {aft:Array Edge} {g:Option (Nat×Bool)} {x:Operand}
theorem kH [br F] {n j off:Nat} {q:α} (hr:Rd w0 K RD) (hi:RD[i]?=some (ji enc size vv k xs)) (f:k≤n) (G:kj P t) (hg:gd ops σ g=some true) (hd:d<N) (hx:ev σ x=some (.pointer (some ⟨gG vv,off,none⟩)))
  (u:xs[n]?=some q) (D:off=n*size+j) (hv:(enc q)[j]?=some v) (h:TO F P w0 K N dfs ops Q rest ((d,v)::σ) L) :
  TO F P w0 K N dfs ops Q (⟨some d,.load t x,ty,pos,aft,g⟩::rest) σ L:=by
 subst D
 obtain⟨dd,hu,r⟩:=G
 refine iS hg hd (by simp) (fun a w E l=>?_) h
 obtain⟨C,H⟩:=hr.at l hi
 have hc:=(H.2 n q j v f u hv).2
 have h1:=E.ev hx
 cases dd <;> simp_all [execOp,jF,el,loadVar,isAgg,ak,run_underlying hu]
theorem oz [br F] {m j off n:Nat} {q:α} {cs:List Value} (hr:Rd w0 K RD) (hi:RD[i]?=some (ji enc size vv k xs)) (r:k≤m) (O:nO P t n) (hg:gd ops σ g=some true) (hd:d<N) (hx:ev σ x=some (.pointer (some ⟨gG vv,off,none⟩)))
  (H:xs[m]?=some q) (I:off=m*size+j) (E:((enc q).drop j).take n=cs) (f:cs.length=n)
  (h:TO F P w0 K N dfs ops Q rest ((d,.agg cs.toArray)::σ) L):TO F P w0 K N dfs ops Q (⟨some d,.load t x,ty,pos,aft,g⟩::rest) σ L:=by
 subst I;subst f
 obtain⟨dd,hu,l,D⟩:=O
 refine iS hg hd (by simp) (fun a w J G=>?_) h
 obtain⟨C,S⟩:=hr.at G hi
 have hc:w.rangeAt (gG vv) (m*size+j) cs:=fun n u f=>by
  rw[← E] at f
  rw[List.getElem?_take] at f
  split at f
  ·rw[List.getElem?_drop] at f
   have:=(S.2 m q (j+n) u r H f).2
   rwa [← kN] at this
  ·cases f
 simp only[execOp,J.ev hx,ak,run_loadAt_mid w _ _ t cs dd hc hu l D];rfl
end
section
variable {F:Fence} {P:Program} {w0:World} {K:Nat→Prop} {N:Nat} {dfs:List Deferred} {ops:Array Oper} {Q:Exit→Act→World→Prop} {rest:List Oper} {σ:List (Nat×Value)} {L:List Asn} {c:Code} {ex:Exit} {k:Nat}
 {α η:Type} {enc:α×η→List Value} {nest:α×η→List Asn} {t:TypeId} {p:Value} {m:Option α} {x:α}
theorem yd (enc:α×η→List Value) (nest:α×η→List Asn) (t:TypeId) (h:TX w0 K N dfs Q ex σ (L++[lU enc nest t (.pointer none) none])):TX w0 K N dfs Q ex σ L:=fun a w l f=>
 h a w l (f.grow (C':=fun _=>False) (dY _ _) (jE (A:=lU enc nest t (.pointer none) none) ⟨fun _ h=>h,rfl⟩))
theorem Ab (h:m=some x):lz [lU enc nest t p m] (fun a:Nat×η=>cells a.1 (enc (x,a.2)) t::nest (x,a.2)) (fun a=>p=.pointer (some ⟨a.1,0,none⟩)):=fun C w f=>by
 subst h
 obtain⟨b,hd,h2,l⟩:=kp.1 (aI.1 f)
 exact⟨(b,hd),h2,l⟩
def Et (p:Value) (m:Option α):Prop:=(m.isNone=true∧p=.pointer none)∨(m.isNone=false∧∃b,p=.pointer (some ⟨b,0,none⟩))
theorem Eu (hk:L[k]?=some (lU enc nest t p m)) (h:Et p m→TO F P w0 K N dfs ops Q rest σ L):TO F P w0 K N dfs ops Q rest σ L:=fun a w l f=>by
 obtain⟨C1,h1,_⟩:=f.focus hk
 refine h ?_ a w l f
 rcases Ep h1 with⟨rfl,h2⟩ | ⟨x,b,rfl,h2⟩
 ·exact .inl ⟨rfl,h2⟩
 ·exact .inr ⟨rfl,b,h2⟩
theorem JU {ty a:TypeId} {w:World} (ht:P.underlying ty=some (.pointer a)):(Op.equal ty (.pointer none) (.pointer none)).run P w=.ok true w:=by
 have h:∀d,(dL (d+1) ty (.pointer none) (.pointer none)).run P w=.ok true w:=fun d=>by simp[dL,run_underlying ht]
 exact h 9999
theorem Ev {ty a:TypeId} {y z:Operand} (ht:P.underlying ty=some (.pointer a)) (hv:Et p m) (w:World):(do eqGuard .eql ty y z p (.pointer none);binOp .eql ty p (.pointer none):Sem Value).run P w=.ok (.bool m.isNone) w:=by
 rcases hv with⟨h1,rfl⟩ | ⟨h1,b,rfl⟩
 ·rw[h1];simp[eqGuard,binOp,ak,JU ht]
 ·rw[h1];exact vI ht w
end
section
variable {F:Fence} {P:Program} {w0:World} {K:Nat→Prop} {N:Nat} {dfs:List Deferred} {ops:Array Oper} {Q:Exit→Act→World→Prop} {rest:List Oper} {σ σ':List (Nat×Value)} {L L' R As Bs:List Asn} {o:Oper} {v:Value}
 {d:Nat} {t:TypeId} {op:Op} {ty:TypeId} {pos:String} {aft:Array Edge} {g:Option (Nat×Bool)} {x y z:Operand} {c c1 c2:Code} {k:Nat} {A B:Asn} {RO:List (Nat×Obj)} {RD RD0:List Asn}
def pt (P:Program) (gf:FuncId) (caps:List Value) {α:Type} (enc:α→List Value) (xs:List α) (RD:List Asn):Prop :=
 ∀ (w:World) (D:Nat→Prop),(∀A∈RD,∃C,A.P C w∧∀k,C k→D k)→(∀k,D k→k<w.heap.size)→xG P gf caps.toArray (fun x=>(enc x).toArray) xs D w
theorem pt.intro {gf:FuncId} {fn:Func} {a:List Value} {α:Type} {enc:α→List Value} {xs:List α} (hf:P.funcs[gf]?=some fn) (hb:fn.body=some c) (hn:fn.ntmps=N) (hN:a.length+1≤N)
  (h:∀l w0 K (I X:List α→Asn),Rd w0 K RD→YC P l enc xs I X w0 K →
   TC bn P w0 K N [] (bodyPostM bn 0 P fn (FY xs I X w0 K)) c (qI (.func (.yield l) #[] #[]::a)) [I []]):pt P gf a enc xs RD:=by
 subst hn
 intro w D J V l I X U W hD hsz r O G hy h0
 have H:Rd W U RD:=fun A hA=>by
  obtain⟨C,h1,h2⟩:=J A hA
  exact⟨C,A.loc h1 hsz (fun k hk=>(hD k (h2 k hk)).2),fun k hk hc=>(r k hc).2 (h2 k hk)⟩
 have:=h l W U (fun pre=>tH (I pre) (fun C W W'=>O pre C W W')) (fun pre=>tH (X pre) (fun C W W'=>G pre C W W')) H (fun pre x post C W1 f he hi=>by
  obtain⟨f1,t1,a1,b1,E,u⟩:=hy pre x post C W1 f he hi.1
  refine⟨f1,t1,a1,b1,E,u.mono ?_⟩
  rintro e Y ⟨b,rfl,C',hx,hc⟩
  have n:∀k,C' k→k<Y.heap.size:=fun k hk=>by
   have:=hx.1.size
   rcases hx.2 k hk with h | h
   ·have:=hi.2 k h;omega
   ·exact h.2
  exact⟨b,rfl,C',hx,hc.imp (fun h=>⟨h.1,h.2,n⟩) (fun h=>⟨h.1,h.2,n⟩)⟩)
 have Z:(Value.func (.yield l) #[] #[]::a).toArray=#[.func (.yield l) #[] #[]]++a.toArray:=by simp
 rw[← Z]
 refine (tD hf hb (this _ W (tG _ (by simpa using hN)) ⟨U,jE ⟨h0,fun k hk=>(r k hk).1⟩,dY _ _⟩)).mono ?_
 rintro e w' ⟨he,q⟩
 refine⟨he,?_⟩
 rcases q with⟨C',q,hx⟩ | ⟨pre,x,post,f,C',q,hx⟩
 ·obtain⟨C1,C2,T,S,_,g4⟩:=q
  have:C'=C1:=funext fun k=>propext (by rw[g4];exact⟨fun h=>h.resolve_right (S k),.inl⟩)
  subst this
  exact⟨C',hx,.inl T.1⟩
 ·obtain⟨C1,C2,T,S,_,g4⟩:=q
  have:C'=C1:=funext fun k=>propext (by rw[g4];exact⟨fun h=>h.resolve_right (S k),.inl⟩)
  subst this
  exact⟨C',hx,.inr ⟨pre,x,post,f,T.1⟩⟩
section
variable {α β γ δ:Type}
theorem Ew {gf:FuncId} {G:List Value} {enc:α→List Value} {xs:List α} {ps:List Nat} {assign body:Code} (a7:Rd w0 K RD0) (a6:Ro w0 K RO)
  (hg:ev σ x=some (.func (.func gf) #[] G.toArray)) (a0:∀args w,(callFunc gf args).run P w=.ok (.enter gf args) w) (hY:pt P gf G enc xs RD)
  (Inv:List α→β→Prop) (LI:List α→β→List Asn) (X:Code→List α→γ→Prop) (LX:Code→List α→γ→List Asn) (σJ:List α→α→β→δ→List (Nat×Value)) (LJ:List α→α→β→δ→List Asn) (b0:β)
  (h0:Inv [] b0) (Y:ap L (LI [] b0) R) (hS:od R RD0 RD) (a3:∀x,(enc x).length=ps.length) (a4:∀p∈ps,p<N)
  (E:∀l r pre e post b H O,xs=pre++e::post→cF K O w0 H→Ro H O (RO++[(l,.loop r)])→Inv pre b →
   TC (Fence.wide.inRound l) P H O N [] (_root_.Go.Exit.then (fun a w=>∃j,St H O N [] (σJ pre e b j) (LJ pre e b j) a w) (fun _ _ _=>False)) assign (vC ps (enc e) σ) (LI pre b))
  (ag:∀l r pre e post b j H O,xs=pre++e::post→cF K O w0 H→Ro H O (RO++[(l,.loop r)])→Inv pre b→TC (Fence.wide.inRound l) P H O N [] (RQ Inv LI X LX (pre++[e]) H O) body (σJ pre e b j) (LJ pre e b j))
  (Z:∀d b,Inv xs b→TX w0 K N ({ target:=.collected d,args:=#[] }::dfs) Q .normal σ (R++(LI xs b++[eZ d])))
  (V:∀d c pre e post b,xs=pre++e::post→X c (pre++[e]) b→TC bn P w0 K N ({ target:=.collected d,args:=#[] }::dfs) Q c σ (R++(LX c (pre++[e]) b++[eZ d]))) :
  TC bn P w0 K N dfs Q (.rangeFunc x ps.toArray assign body) σ L:=by
 intro a w U hw
 obtain⟨C1,C2,g1,g2,g3,gx,D⟩:=hw.split2 Y
 have a9:Rd w C1 RD:=hS.rd (w0:=w0) (K:=K) g2 g3 (a7.ext gx)
 have aw:=g1.lt
 have S:∀ {C:Nat→Prop} {W:World},cF K C w0 W→Ro W C RO:=fun {C W} hx p hp=>by
  obtain⟨h1,h2⟩:=a6 p hp
  refine⟨hx.1.at h1 h2,fun h=>?_⟩
  rcases hx.2 _ h with h | h
  ·exact h2 h
  ·have:=ki h1;omega
 refine Dj (gf:=gf) (lb:=G.toArray) (U.ev hg) a0 (hY w (fun k=>k<w.heap.size∧¬ C1 k) (fun A hA=>by
  obtain⟨C,h1,h2⟩:=a9 A hA
  exact⟨C,h1,fun k hk=>⟨A.lt h1 k hk,h2 k hk⟩⟩) (fun k h=>h.1)) (fun k h=>⟨h.1,rfl⟩) (bJ _) (fun e=>by simp[a3])
  (fun pre C W=>∃b,Inv pre b∧aN (LI pre b) C W) (fun c pre C W=>∃b,X c pre b∧aN (LX c pre b) C W)
  (fun pre e a1 C W=>∃b j,Inv pre b∧At N [] (σJ pre e b j) a1∧aN (LJ pre e b j) C W) ?_ ?_ ?_ C1 (fun k hk=>⟨aw k hk,fun h=>h.2 hk⟩) ⟨b0,h0,g1⟩ ?_ ?_ ?_ ?_
 ·rintro pre C W W' ⟨b,h1,h2⟩ Y hk;exact⟨b,h1,h2.loc Y hk⟩
 ·rintro c pre C W W' ⟨b,h1,h2⟩ Y hk;exact⟨b,h1,h2.loc Y hk⟩
 ·rintro pre e a1 _ C W W' ⟨b,j,h1,h2,J⟩ Y hk;exact⟨b,j,h1,h2,J.loc Y hk⟩
 ·rintro l pre e post C W1 q f ⟨b,T,hi⟩ hn hl ⟨r,hr⟩
  have u:cF K C w0 W1:=gx.trans f
  refine wpIn_mono (E l r pre e post b W1 C q u ((S u).snoc hr hn) T _ W1 (U.zip ps (enc e) a4) ⟨C,hi,dY _ _⟩) ?_
  rintro ex a' w' I
  cases ex with
  | normal=>
   obtain⟨j,hj,C',a8,a2⟩:=I
   exact⟨C',a2,b,j,T,hj,a8⟩
  | _=>exact I
 ·rintro l pre e post C W1 a1 q f ⟨b,j,T,a5,hi⟩ hn hl ⟨r,hr⟩
  have u:cF K C w0 W1:=gx.trans f
  refine wpIn_mono (ag l r pre e post b j W1 C q u ((S u).snoc hr hn) T a1 W1 a5 ⟨C,hi,dY _ _⟩) ?_
  rintro ex a' w' I
  cases ex with
  | normal=>obtain⟨b',h1,C',h2,J⟩:=I;exact⟨C',J,b',h1,h2⟩
  | ret=>obtain⟨b',h1,C',h2,J⟩:=I;exact⟨C',J,b',h1,h2⟩
  | exit id=>obtain⟨b',h1,C',h2,J⟩:=I;exact⟨C',J,b',h1,h2⟩
  | goto id=>obtain⟨b',h1,C',h2,J⟩:=I;exact⟨C',J,b',h1,h2⟩
  | panic _=>exact I
  | outgrown=>exact I
 ·rintro d C W f ⟨b,T,hi⟩ hd ao n
  refine Z d b T _ W ⟨U.1,by rw[← U.2.1],U.2.2⟩ (D _ (fun k=>C k∨k=d) W ⟨f.1,fun k hk=>?_⟩ ?_)
  ·rcases hk with hk | rfl
   ·exact f.2 k hk
   ·exact .inr ⟨hd,ki n⟩
  ·exact hi.append (jE ⟨fun k=>_root_.Iff.rfl,n⟩) (fun k hk e=>ao (e ▸ hk))
 ·rintro d c pre e post C W q f ⟨b,T,hi⟩ hd ao n
  refine V d c pre e post b q T _ W ⟨U.1,by rw[← U.2.1],U.2.2⟩ (D _ (fun k=>C k∨k=d) W ⟨f.1,fun k hk=>?_⟩ ?_)
  ·rcases hk with hk | rfl
   ·exact f.2 k hk
   ·exact .inr ⟨hd,ki n⟩
  ·exact hi.append (jE ⟨fun k=>_root_.Iff.rfl,n⟩) (fun k hk e=>ao (e ▸ hk))
end
end
theorem JV {α:Type} {enc:α→List Value} {size k:Nat} {vv:Value} {xs:List α} {e:TypeId} (hz:∀x,(enc x).length=size) {C:Nat→Prop} {w:World} (h:(vec enc e size vv xs).P C w):(ji enc size vv k xs).P C w :=
 ⟨(nU hz h).1,fun i x j v h1 h2 a=>(nU hz h).2 i x j v (Nat.zero_le _) h2 a⟩
theorem Rd.up {α:Type} {enc:α→List Value} {size k m:Nat} {vv:Value} {xs:List α} {w0:World} {K:Nat→Prop} {RD:List Asn} {i:Nat} (hr:Rd w0 K RD) (hi:RD[i]?=some (ji enc size vv k xs)):Rd w0 K (RD++[ji enc size vv (k+m) xs]) :=
 hr.append fun B hB=>by
  rw[cB] at hB
  subst hB
  obtain⟨C,h,hk⟩:=hr _ (aJ hi)
  exact⟨C,⟨h.1,fun i x j v h1 h2 a=>h.2 i x j v (by omega) h2 a⟩,hk⟩
structure JW (α:Type) where
 vv:Value
 k:Nat
 L:List α
def mo {α:Type} (enc:α→List Value) (size:Nat) (hd:Hd) (xs:List α):Asn :=
 vK fun b:{b:JW α // Vw b.vv b.L size b.k hd.v xs}=>ji enc size b.1.vv b.1.k b.1.L
theorem Ac {α:Type} {enc:α→List Value} {size:Nat} {e:TypeId} {hd:Hd} {xs:List α} (a:∀x,(enc x).length=size) {C:Nat→Prop} {w:World} (h:(vec enc e size hd.v xs).P C w):(mo enc size hd xs).P C w :=
 ⟨⟨⟨hd.v,0,xs⟩,En h⟩,nU a h⟩
theorem JX {α:Type} {enc:α→List Value} {size:Nat} {hd:Hd} {xs:List α} {vv:Value} {k:Nat} {L:List α} (hV:Vw vv L size k hd.v xs) {C:Nat→Prop} {w:World} (h:(ji enc size vv k L).P C w):(mo enc size hd xs).P C w :=
 ⟨⟨⟨vv,k,L⟩,hV⟩,h⟩
section
variable {α η:Type} {enc:α×η→List Value} {nest nestR:α×η→List Asn} {e:TypeId} {size:Nat} {v:Value} {xs:List α} {zs:List (α×η)} {z:α×η}
def JY (nestR:α×η→List Asn) (zs:List (α×η)):Asn :=
  ⟨fun C w=>(∀k,C k→k<w.heap.size)∧∀z∈zs,∀A∈nestR z,∃D,A.P D w∧∀k,D k→C k,
   fun h k hk=>h.1 k hk,
   fun {C w w'} h hs hk=>⟨fun k hC=>eA (h.1 k hC) hs,fun z hz A hA=>by
     obtain⟨D,h1,h2⟩:=h.2 z hz A hA
     exact⟨D,A.loc h1 hs (fun k hD=>hk k (h2 k hD)),h2⟩⟩⟩
variable {w0:World} {K:Nat→Prop} {RD:List Asn} {i j:Nat}
theorem Rd.openSl {β:Type} {enc1:β→List Value} {hd:Hd} {ys:List β} (hr:Rd w0 K RD) (hi:RD[i]?=some (mo enc1 size hd ys)):∃vv k L,Vw vv L size k hd.v ys∧Rd w0 K (RD++[ji enc1 size vv k L]):=by
 obtain⟨C,⟨⟨⟨vv,k,L⟩,hV⟩,a⟩,hk⟩:=hr _ (aJ hi)
 refine⟨vv,k,L,hV,hr.append fun B hB=>?_⟩
 rw[cB] at hB
 subst hB
 exact⟨C,a,hk⟩
end
section
variable {α η:Type} {nest:α×η→List Asn} {zs ys:List (α×η)}
end
section
variable {F:Fence} {P:Program} {w0:World} {K:Nat→Prop} {N:Nat} {dfs:List Deferred} {Q:Exit→Act→World→Prop} {σ:List (Nat×Value)} {L:List Asn} {c:Code} {k:Nat} {α η:Type} {enc:α×η→List Value} {nest:α×η→List Asn} {t:TypeId} {p:Value} {m:Option α}
end
section
def aV (h:Hd):Nat:=match h.1 with
 | some a=>a.block
 | none=>0
abbrev nA:Type:=List (ab×(List ab×Hd))
def pu (z:List ab×Hd):Value:=z.2.v
def JZ (z:List ab×Hd):List Asn:=[mo gR 1 z.2 z.1]
def nB (L:nA):List (ab×List ab):=L.map fun p=>(p.1,p.2.1)
abbrev qQ (b:Nat) (L:nA):Asn:=cq (fun s:ab=>aa s) pu b L
abbrev qb (L:nA):Asn:=JY JZ (L.map eV)
def dh (b:Nat) (M:List (ab×List ab)):Asn:=vK fun L:{L:nA // nB L=M}=>zgL [qQ b L.1,qb L.1]
theorem vX (k:ab):∀ (L:nA),zbL k (nB L)=(zbL k L).map bu
 | []=>rfl
 | p::L=>by
  have a:=vX k L
  show zbL k ((p.1,p.2.1)::nB L)=(zbL k (p::L)).map bu
  unfold zbL
  show (if k=p.1 then some p.2.1 else zbL k (nB L))=(if k=p.1 then some p.2 else zbL k L).map bu
  split
  ·rfl
  ·exact a
theorem Ex (k:ab) (xs:List ab) (hd:Hd):∀ (L:nA),nB (gH k (xs,hd) L)=gH k xs (nB L)
 | []=>rfl
 | p::L=>by
  have a:=Ex k xs hd L
  show nB (gH k (xs,hd) (p::L))=gH k xs ((p.1,p.2.1)::nB L)
  unfold gH
  show nB (if k=p.1 then (k,(xs,hd))::L else p::gH k (xs,hd) L)=(if k=p.1 then (k,xs)::nB L else (p.1,p.2.1)::gH k xs (nB L))
  split
  ·rfl
  ·show (p.1,p.2.1)::nB (gH k (xs,hd) L)=_
   rw[a]
theorem Ey (k:ab) (z:List ab×Hd):∀ (L:nA),∀y∈(gH k z L).map eV,y=z∨y∈L.map eV
 | [],y,h=>.inl (by simpa [gH] using h)
 | p::L,y,h=>by
  have a:=Ey k z L
  unfold gH at h
  have h:y∈(if k=p.1 then (k,z)::L else p::gH k z L).map eV:=h
  split at h
  ·rcases bE.1 h with rfl | h
   ·exact .inl rfl
   ·exact .inr (aq _ h)
  ·rcases bE.1 h with rfl | h
   ·exact .inr (aB ..)
   ·exact (a y h).imp id (aq _)
theorem Ad {κ ν:Type} [DecidableEq κ] (k:κ) (v:ν):∀ (L:List (κ×ν)),zbL k L=some v→v∈L.map eV
 | [],h=>by cases h
 | p::L,h=>by
  unfold zbL at h
  have h:(if k=p.1 then some p.2 else zbL k L)=some v:=h
  split at h
  ·cases h;exact aB ..
  ·exact aq _ (Ad k v L h)
variable {b:Nat} {M:List (ab×List ab)} {L:nA}
theorem Ez:lz [dh b M] (fun L:nA=>[qQ b L,qb L]) (fun L=>nB L=M):=fun C w h=>by
 obtain⟨⟨L,hL⟩,hz⟩:=aI.1 h
 exact⟨L,hL,hz⟩
theorem EA:lz [qQ b []] (fun _:Unit=>[dh b []]) (fun _=>True):=fun C w h=>by
 refine⟨(),trivial,aI.2 ⟨⟨[],rfl⟩,?_⟩⟩
 have h1:=aI.1 h
 exact zR (C1:=C) (C2:=fun _=>False) h1 ⟨fun k h=>h.elim,fun z hz=>by simp at hz⟩ (fun k a b=>b) (fun k=>by simp)
theorem EB (k:ab) (xs:List ab) (hd:Hd) (hL:nB L=M):lz [qQ b (gH k (xs,hd) L),qb L,mo gR 1 hd xs] (fun _:Unit=>[dh b (gH k xs M)]) (fun _=>True):=fun C w h=>by
 obtain⟨C1,C2,h1,h2,r,n⟩:=h
 obtain⟨G,u,l,f,E,g4⟩:=h2
 have f:=aI.1 f
 refine⟨(),trivial,aI.2 ⟨⟨gH k (xs,hd) L,by rw[Ex,hL]⟩,?_⟩⟩
 refine zR (C1:=C1) (C2:=C2) h1 ⟨fun q a=>?_,fun z hz A hA=>?_⟩ r n
 ·rcases (g4 q).1 a with h | h
  ·exact (qb L).lt l q h
  ·exact (mo gR 1 hd xs).lt f q h
 ·rcases Ey k (xs,hd) L z hz with rfl | hz
  ·have hA:A=mo gR 1 hd xs:=cB.1 hA
   subst hA
   exact⟨u,f,fun q a=>(g4 q).2 (.inr a)⟩
  ·obtain⟨D,d1,d2⟩:=l.2 z hz A hA
   exact⟨D,d1,fun q a=>(g4 q).2 (.inl (d2 q a))⟩
theorem Rd.fors {w0:World} {K:Nat→Prop} {RD:List Asn} {i:Nat} (hr:Rd w0 K RD) (hi:RD[i]?=some (dh b M)):∃L:nA,nB L=M∧Rd w0 K (RD++[qQ b L,qb L]):=by
 obtain⟨C,⟨⟨L,hL⟩,hz⟩,hk⟩:=hr _ (aJ hi)
 obtain⟨C1,C2,h1,h2,f,a⟩:=D4 hz
 refine⟨L,hL,hr.append fun B hB=>?_⟩
 rcases bE.1 hB with rfl | hB
 ·exact⟨C1,h1,fun k h=>hk k ((a k).2 (.inl h))⟩
 ·rw[cB] at hB
  subst hB
  exact⟨C2,h2,fun k h=>hk k ((a k).2 (.inr h))⟩
theorem Rd.forsGet {w0:World} {K:Nat→Prop} {RD:List Asn} {i:Nat} {k:ab} {xs:List ab} {hd:Hd} (hr:Rd w0 K RD) (hi:RD[i]?=some (qb L)) (hg:zbL k L=some (xs,hd)):Rd w0 K (RD++[mo gR 1 hd xs]) :=
 hr.more hi fun C a B hB=>a.2 _ (Ad k _ L hg) B hB
section
variable {F:Fence} {P:Program} {w0:World} {K:Nat→Prop} {N:Nat} {dfs:List Deferred} {ops:Array Oper} {Q:Exit→Act→World→Prop} {rest:List Oper} {σ:List (Nat×Value)} {LL RD:List Asn}
 {d:Nat} {ty:TypeId} {pos:String} {aft:Array Edge} {g:Option (Nat×Bool)} {x y z:Operand} {i:Nat} {mt kt et:TypeId}
theorem EC [br F] {kk:ab} (u:P.underlying kt=some .string) (ht:P.underlying mt=some (.map kt et)) (n:(P.info? et).bind (fun i=>i.zero)=some (.slice none 0 0)) (hg:gd ops σ g=some true) (hd:d<N) (hx:ev σ x=some (.map (some b))) (hy:ev σ y=some (.string kk))
  (hr:Rd w0 K RD) (hi:RD[i]?=some (dh b M))
  (h:∀hd:Hd,(∀xs,zbL kk M=some xs→Rd w0 K (RD++[mo gR 1 hd xs]))→TO F P w0 K N dfs ops Q rest ((d,.tuple #[hd.v,.bool (zbL kk M).isSome])::σ) LL) :
  TO F P w0 K N dfs ops Q (⟨some d,.lookup mt x y true,ty,pos,aft,g⟩::rest) σ LL:=by
 obtain⟨L,hL,l⟩:=hr.fors hi
 have w:((zbL kk L).getD ([],ew)).2.v=pu ((zbL kk L).getD ([],ew)):=rfl
 refine yc (k:=RD.length) (M:=L) (z0:=([],ew)) (ev':=pu) (mn u) ht n hg hd hx hy l (by simp) ?_
 have h1:=h ((zbL kk L).getD ([],ew)).2 (fun xs a=>by
  rw[← hL,vX] at a
  cases f:zbL kk L with
  | none=>rw[f] at a;cases a
  | some q=>
   rw[f] at a
   have:q.1=xs:=mA a
   subst this
   have h2:=l.forsGet (i:=RD.length+1) (k:=kk) (xs:=q.1) (hd:=q.2) (by simp) f
   refine hr.append fun B hB=>?_
   rw[cB] at hB
   subst hB
   exact h2 _ (by simp))
 rw[← hL,vX,w] at h1
 cases r:zbL kk L with
 | none=>rw[r] at h1;exact h1
 | some q=>rw[r] at h1;exact h1
end
end
section
open Go.Shelf
theorem dQ:kj prog 3:=⟨_,underlying3,rfl⟩
theorem jj:bD prog 3 1:=by unfold bD;as_aux_lemma=>kernel_rfl
theorem ub:bZ prog 3 [.int .i64 0]:=by unfold bZ;as_aux_lemma=>kernel_rfl
theorem nl:kj prog 4:=⟨_,underlying4,rfl⟩
theorem kI:bD prog 4 1:=by unfold bD;as_aux_lemma=>kernel_rfl
theorem ye:bZ prog 4 [.bool false]:=by unfold bZ;as_aux_lemma=>kernel_rfl
theorem Ae:kj prog 5:=⟨_,underlying5,rfl⟩
theorem yf:bD prog 5 1:=by unfold bD;as_aux_lemma=>kernel_rfl
theorem J0:bZ prog 5 [.int .u8 0]:=by unfold bZ;as_aux_lemma=>kernel_rfl
theorem J1:dR prog 5 1:=fL kr
theorem rO:km prog 5:=km.mk' kr
theorem ea:kj prog 9:=⟨_,underlying9,rfl⟩
theorem gm:bD prog 9 1:=by unfold bD;as_aux_lemma=>kernel_rfl
theorem ED:bZ prog 9 [.string aA]:=by unfold bZ;as_aux_lemma=>kernel_rfl
theorem nV:dR prog 9 1:=fL kr
theorem fT:kj prog 21:=⟨_,underlying21,rfl⟩
theorem kq:bD prog 21 1:=by unfold bD;as_aux_lemma=>kernel_rfl
theorem rP:dR prog 21 1:=fL kr
theorem vY:kj prog 23:=⟨_,underlying23,rfl⟩
theorem J2:bD prog 23 1:=by unfold bD;as_aux_lemma=>kernel_rfl
theorem J3:bZ prog 23 [.pointer none]:=by unfold bZ;as_aux_lemma=>kernel_rfl
theorem Af:kj prog 24:=⟨_,rz,rfl⟩
theorem jJ:nO prog 26 2:=⟨_,underlying26,rfl,by as_aux_lemma=>kernel_rfl⟩
theorem Ag:jx prog 26 0 0:=⟨_,_,underlying26,rfl,rfl,by as_aux_lemma=>kernel_rfl⟩
theorem jK:bD prog 26 2:=by unfold bD;as_aux_lemma=>kernel_rfl
theorem qR:bZ prog 26 [.int .i64 0,.int .i64 0]:=by unfold bZ;as_aux_lemma=>kernel_rfl
theorem nW:kj prog 29:=⟨_,underlying29,rfl⟩
theorem yg:bD prog 29 1:=by unfold bD;as_aux_lemma=>kernel_rfl
theorem EE:bZ prog 29 [.pointer none]:=by unfold bZ;as_aux_lemma=>kernel_rfl
theorem lA:kj prog 36:=⟨_,underlying36,rfl⟩
theorem qS:bD prog 36 1:=by unfold bD;as_aux_lemma=>kernel_rfl
theorem vZ:kj prog 37:=⟨_,underlying37,rfl⟩
theorem qc:jx prog 39 0 0:=⟨_,_,mM,rfl,rfl,by as_aux_lemma=>kernel_rfl⟩
theorem EF:jx prog 39 1 1:=⟨_,_,mM,rfl,rfl,by as_aux_lemma=>kernel_rfl⟩
theorem Ah:jx prog 39 2 2:=⟨_,_,mM,rfl,rfl,by as_aux_lemma=>kernel_rfl⟩
theorem uc:jx prog 39 3 3:=⟨_,_,mM,rfl,rfl,by as_aux_lemma=>kernel_rfl⟩
theorem Ai:kj prog 46:=⟨_,underlying46,rfl⟩
theorem EG:bD prog 46 1:=by unfold bD;as_aux_lemma=>kernel_rfl
theorem J4:bZ prog 46 [.slice none 0 0]:=by unfold bZ;as_aux_lemma=>kernel_rfl
theorem EH:bZ prog 68 [.pointer none,.slice none 0 0]:=by unfold bZ;as_aux_lemma=>kernel_rfl
theorem ud:kj prog 69:=⟨_,underlying69,rfl⟩
theorem qd:kj prog 70:=⟨_,underlying70,rfl⟩
theorem sR:jx prog 72 0 0:=⟨_,_,jX,rfl,rfl,by as_aux_lemma=>kernel_rfl⟩
theorem ue:jx prog 72 1 1:=⟨_,_,jX,rfl,rfl,by as_aux_lemma=>kernel_rfl⟩
theorem Aj:jx prog 72 2 2:=⟨_,_,jX,rfl,rfl,by as_aux_lemma=>kernel_rfl⟩
theorem qe:jx prog 72 3 3:=⟨_,_,jX,rfl,rfl,by as_aux_lemma=>kernel_rfl⟩
theorem uf:jx prog 72 4 4:=⟨_,_,jX,rfl,rfl,by as_aux_lemma=>kernel_rfl⟩
theorem lL:nO prog 81 3:=⟨_,mO,rfl,by as_aux_lemma=>kernel_rfl⟩
theorem mq:jx prog 81 0 0:=⟨_,_,mO,rfl,rfl,by as_aux_lemma=>kernel_rfl⟩
theorem rQ:jx prog 81 1 1:=⟨_,_,mO,rfl,rfl,by as_aux_lemma=>kernel_rfl⟩
theorem J5:jx prog 81 2 2:=⟨_,_,mO,rfl,rfl,by as_aux_lemma=>kernel_rfl⟩
theorem jB:bD prog 81 3:=by unfold bD;as_aux_lemma=>kernel_rfl
theorem qf:bZ prog 81 [.int .i32 0,.string aA,.int .i64 0]:=by unfold bZ;as_aux_lemma=>kernel_rfl
theorem rR:dR prog 81 3:=fL kr
theorem J6:bD prog 82 2:=by unfold bD;as_aux_lemma=>kernel_rfl
theorem J7:bZ prog 82 [.bool false,.bool false]:=by unfold bZ;as_aux_lemma=>kernel_rfl
theorem ug:kj prog 87:=⟨_,underlying87,rfl⟩
theorem EI:bD prog 87 1:=by unfold bD;as_aux_lemma=>kernel_rfl
theorem J8:bZ prog 87 [.slice none 0 0]:=by unfold bZ;as_aux_lemma=>kernel_rfl
theorem oe:nO prog 91 5:=⟨_,iF,rfl,by as_aux_lemma=>kernel_rfl⟩
theorem Ak:jx prog 91 0 0:=⟨_,_,iF,rfl,rfl,by as_aux_lemma=>kernel_rfl⟩
theorem Al:jx prog 91 1 1:=⟨_,_,iF,rfl,rfl,by as_aux_lemma=>kernel_rfl⟩
theorem yh:jx prog 91 2 2:=⟨_,_,iF,rfl,rfl,by as_aux_lemma=>kernel_rfl⟩
theorem Am:jx prog 91 3 3:=⟨_,_,iF,rfl,rfl,by as_aux_lemma=>kernel_rfl⟩
theorem EJ:jx prog 91 4 4:=⟨_,_,iF,rfl,rfl,by as_aux_lemma=>kernel_rfl⟩
theorem nX:bD prog 91 5:=by unfold bD;as_aux_lemma=>kernel_rfl
theorem sS:bZ prog 91 [.int .i64 0,.int .i64 0,.string aA,.string aA,.int .i64 0]:=by unfold bZ;as_aux_lemma=>kernel_rfl
theorem EK:dR prog 91 5:=fL kr
theorem J9:nO prog 93 3:=⟨_,underlying93,rfl,by as_aux_lemma=>kernel_rfl⟩
theorem Kf:bD prog 93 3:=by unfold bD;as_aux_lemma=>kernel_rfl
theorem Ks:bZ prog 93 [.nilFunc,.nilFunc,.nilFunc]:=by unfold bZ;as_aux_lemma=>kernel_rfl
theorem uh:kj prog 103:=⟨_,underlying103,rfl⟩
theorem EL:bD prog 103 1:=by unfold bD;as_aux_lemma=>kernel_rfl
theorem qT:jx prog 106 0 0:=⟨_,_,underlying106,rfl,rfl,by as_aux_lemma=>kernel_rfl⟩
theorem An:jx prog 106 1 1:=⟨_,_,underlying106,rfl,rfl,by as_aux_lemma=>kernel_rfl⟩
theorem o6:bD prog 106 2:=by unfold bD;as_aux_lemma=>kernel_rfl
theorem EM:dR prog 106 2:=fL kr
theorem Kz:nO prog 111 2:=⟨_,pU,rfl,by as_aux_lemma=>kernel_rfl⟩
theorem rS:jx prog 111 0 0:=⟨_,_,pU,rfl,rfl,by as_aux_lemma=>kernel_rfl⟩
theorem ui:jx prog 111 1 1:=⟨_,_,pU,rfl,rfl,by as_aux_lemma=>kernel_rfl⟩
theorem zip:bD prog 111 2:=by unfold bD;as_aux_lemma=>kernel_rfl
theorem KA:bZ prog 111 [.int .i64 0,.string aA]:=by unfold bZ;as_aux_lemma=>kernel_rfl
theorem KB:dR prog 111 2:=fL kr
theorem wa:kj prog 115:=⟨_,underlying115,rfl⟩
theorem EN:bD prog 115 1:=by unfold bD;as_aux_lemma=>kernel_rfl
theorem EO:bZ prog 115 [.map none]:=by unfold bZ;as_aux_lemma=>kernel_rfl
theorem yi:kj prog 116:=⟨_,underlying116,rfl⟩
theorem EP:bD prog 116 1:=by unfold bD;as_aux_lemma=>kernel_rfl
theorem EQ:bZ prog 116 [.map none]:=by unfold bZ;as_aux_lemma=>kernel_rfl
theorem sU:kj prog 120:=⟨_,underlying120,rfl⟩
theorem ER:bD prog 120 1:=by unfold bD;as_aux_lemma=>kernel_rfl
theorem KC:bZ prog 120 [.slice none 0 0]:=by unfold bZ;as_aux_lemma=>kernel_rfl
theorem pv:nO prog 123 5:=⟨_,jn,rfl,by as_aux_lemma=>kernel_rfl⟩
theorem Ao:jx prog 123 1 1:=⟨_,_,jn,rfl,rfl,by as_aux_lemma=>kernel_rfl⟩
theorem nY:jx prog 123 2 2:=⟨_,_,jn,rfl,rfl,by as_aux_lemma=>kernel_rfl⟩
theorem yj:jx prog 123 3 3:=⟨_,_,jn,rfl,rfl,by as_aux_lemma=>kernel_rfl⟩
theorem yk:jx prog 123 4 4:=⟨_,_,jn,rfl,rfl,by as_aux_lemma=>kernel_rfl⟩
theorem qU:bD prog 123 5:=by unfold bD;as_aux_lemma=>kernel_rfl
theorem yl:bZ prog 123 [.int .i64 0,.int .u8 0,.int .i32 0,.slice none 0 0,.slice none 0 0]:=by unfold bZ;as_aux_lemma=>kernel_rfl
theorem ES:dR prog 123 5:=fL kr
theorem KD:nO prog 126 2:=⟨_,underlying126,rfl,by as_aux_lemma=>kernel_rfl⟩
theorem ET:bD prog 126 2:=by unfold bD;as_aux_lemma=>kernel_rfl
theorem KE:bZ prog 126 [.int .i32 0,.int .i32 0]:=by unfold bZ;as_aux_lemma=>kernel_rfl
theorem wb:nO prog 127 2:=⟨_,underlying127,rfl,by as_aux_lemma=>kernel_rfl⟩
theorem EU:bD prog 127 2:=by unfold bD;as_aux_lemma=>kernel_rfl
theorem Aq:bZ prog 127 [.int .i32 0,.int .i32 0]:=by unfold bZ;as_aux_lemma=>kernel_rfl
theorem EV:kj prog 129:=⟨_,underlying129,rfl⟩
theorem KF:bD prog 129 1:=by unfold bD;as_aux_lemma=>kernel_rfl
theorem kW:nO prog 132 4:=⟨_,jo,rfl,by as_aux_lemma=>kernel_rfl⟩
theorem lh:jx prog 132 0 0:=⟨_,_,jo,rfl,rfl,by as_aux_lemma=>kernel_rfl⟩
theorem pw:jx prog 132 1 1:=⟨_,_,jo,rfl,rfl,by as_aux_lemma=>kernel_rfl⟩
theorem o7:jx prog 132 2 2:=⟨_,_,jo,rfl,rfl,by as_aux_lemma=>kernel_rfl⟩
theorem ym:jx prog 132 3 3:=⟨_,_,jo,rfl,rfl,by as_aux_lemma=>kernel_rfl⟩
theorem jP:bD prog 132 4:=by unfold bD;as_aux_lemma=>kernel_rfl
theorem og:bZ prog 132 [.int .i64 0,.int .i64 0,.int .i32 0,.bool false]:=by unfold bZ;as_aux_lemma=>kernel_rfl
theorem EW:dR prog 132 4:=fL kr
theorem EX:nO prog 137 3:=⟨_,underlying137,rfl,by as_aux_lemma=>kernel_rfl⟩
theorem yn:bD prog 137 3:=by unfold bD;as_aux_lemma=>kernel_rfl
theorem EY:bZ prog 137 [.string aA,.string aA,.string aA]:=by unfold bZ;as_aux_lemma=>kernel_rfl
theorem KG:kj prog 152:=⟨_,underlying152,rfl⟩
abbrev dx (n:Nat):Prop:=∀args w,(callFunc n args).run prog w=.ok (.enter n args) w
theorem Au:dx 7:=enters_of func7 kr rfl
theorem KH:dx 8:=enters_of func8 kr rfl
theorem EZ:dx 9:=enters_of func9 kr rfl
theorem KI:dx 10:=enters_of func10 kr rfl
theorem KJ:dx 11:=enters_of func11 kr rfl
theorem KK:dx 12:=enters_of func12 kr rfl
theorem E0:dx 13:=enters_of func13 kr rfl
theorem KL:dx 16:=enters_of func16 kr rfl
theorem KM:dx 23:=enters_of func23 kr rfl
theorem KN:dx 25:=enters_of func25 kr rfl
theorem KO:dx 26:=enters_of func26 kr rfl
theorem KP:dx 27:=enters_of func27 kr rfl
theorem KQ:dx 28:=enters_of func28 kr rfl
theorem KR:dx 29:=enters_of func29 kr rfl
theorem KS:dx 30:=enters_of func30 kr rfl
theorem KT:dx 31:=enters_of func31 kr rfl
theorem Av:dx 32:=enters_of func32 kr rfl
theorem E2:dx 33:=enters_of func33 kr rfl
theorem E3:dx 34:=enters_of func34 kr rfl
theorem Aw:dx 35:=enters_of func35 kr rfl
theorem Ax:dx 36:=enters_of func36 kr rfl
theorem wc:dx 37:=enters_of func37 kr rfl
theorem we:dx 38:=enters_of func38 kr rfl
theorem Ay:dx 39:=enters_of func39 kr rfl
theorem E4:dx 40:=enters_of func40 kr rfl
theorem KU:dx 41:=enters_of func41 kr rfl
theorem E5:dx 42:=enters_of func42 kr rfl
theorem Az:dx 43:=enters_of func43 kr rfl
theorem KV:dx 44:=enters_of func44 kr rfl
theorem KW:dx 45:=enters_of func45 kr rfl
theorem AA:dx 46:=enters_of func46 kr rfl
theorem KX:dx 47:=enters_of func47 kr rfl
theorem AB:dx 48:=enters_of func48 kr rfl
theorem AC:dx 49:=enters_of func49 kr rfl
theorem KY:dx 55:=enters_of func55 kr rfl
theorem E6:dx 57:=enters_of func57 kr rfl
theorem AD:dx 58:=enters_of func58 kr rfl
theorem E7:dx 59:=enters_of func59 kr rfl
theorem KZ:dx 60:=enters_of func60 kr rfl
theorem K0:dx 61:=enters_of func61 kr rfl
theorem AE:dx 62:=enters_of func62 kr rfl
theorem K2:dx 63:=enters_of func63 kr rfl
theorem K3:dx 64:=enters_of func64 kr rfl
theorem E8:dx 65:=enters_of func65 kr rfl
theorem E9:dx 66:=enters_of func66 kr rfl
theorem K4:dx 67:=enters_of func67 kr rfl
theorem K5:dx 68:=enters_of func68 kr rfl
theorem K6:dx 69:=enters_of func69 kr rfl
theorem qg:dx 70:=enters_of func70 kr rfl
theorem K7:dx 71:=enters_of func71 kr rfl
theorem K8:dx 72:=enters_of func72 kr rfl
theorem AF:dx 74:=enters_of func74 kr rfl
theorem AG:dx 75:=enters_of func75 kr rfl
theorem AH:dx 76:=enters_of func76 kr rfl
theorem K9:dx 77:=enters_of func77 kr rfl
theorem yo:dx 78:=enters_of func78 kr rfl
theorem Lb:dx 79:=enters_of func79 kr rfl
theorem Fa:dx 80:=enters_of func80 kr rfl
theorem AJ:dx 81:=enters_of func81 kr rfl
theorem Lc:dx 82:=enters_of func82 kr rfl
theorem Fb:dx 83:=enters_of func83 kr rfl
theorem yp:dx 84:=enters_of func84 kr rfl
theorem Fc:dx 85:=enters_of func85 kr rfl
theorem Ld:dx 86:=enters_of func86 kr rfl
theorem AK:dx 87:=enters_of func87 kr rfl
theorem Le:dx 88:=enters_of func88 kr rfl
theorem uj:dx 89:=enters_of func89 kr rfl
theorem Lg:dx 90:=enters_of func90 kr rfl
theorem Lh:dx 91:=enters_of func91 kr rfl
theorem Fe:dx 92:=enters_of func92 kr rfl
theorem Li:dx 93:=enters_of func93 kr rfl
theorem Lj:dx 95:=enters_of func95 kr rfl
theorem Lk:dx 96:=enters_of func96 kr rfl
theorem Ff:dx 100:=enters_of func100 kr rfl
theorem Lm:dx 101:=enters_of func101 kr rfl
theorem AL:dx 102:=enters_of func102 kr rfl
theorem Ln:dx 105:=enters_of func105 kr rfl
theorem Lo:dx 106:=enters_of func106 kr rfl
theorem Lp:dx 107:=enters_of func107 kr rfl
theorem Fg:dx 112:=enters_of func112 kr rfl
theorem Lq:dx 113:=enters_of func113 kr rfl
theorem Lu:dx 114:=enters_of func114 kr rfl
theorem AM:dx 116:=enters_of func116 kr rfl
theorem Lv:dx 117:=enters_of func117 kr rfl
theorem Lw:dx 118:=enters_of func118 kr rfl
theorem Lx:dx 119:=enters_of func119 kr rfl
theorem Ly:dx 120:=enters_of func120 kr rfl
theorem Lz:dx 121:=enters_of func121 kr rfl
theorem wg:dx 122:=enters_of func122 kr rfl
theorem Fh:dx 123:=enters_of func123 kr rfl
theorem LA:dx 124:=enters_of func124 kr rfl
theorem LB:dx 128:=enters_of func128 kr rfl
theorem AN:dx 129:=enters_of func129 kr rfl
theorem Fi:dx 130:=enters_of func130 kr rfl
theorem LC:dx 131:=enters_of func131 kr rfl
theorem wh:dx 132:=enters_of func132 kr rfl
theorem AO:dx 133:=enters_of func133 kr rfl
theorem LD:dx 134:=enters_of func134 kr rfl
theorem LF:dx 135:=enters_of func135 kr rfl
theorem yq:dx 136:=enters_of func136 kr rfl
theorem Fj:dx 138:=enters_of func138 kr rfl
theorem LG:dx 146:=enters_of func146 kr rfl
theorem LH:dx 148:=enters_of func148 kr rfl
theorem LK:dx 149:=enters_of func149 kr rfl
theorem Fk:dx 150:=enters_of func150 kr rfl
theorem uk:dx 151:=enters_of func151 kr rfl
theorem wi:dx 154:=enters_of func154 kr rfl
theorem LN:dx 155:=enters_of func155 kr rfl
theorem LO:dx 159:=enters_of func159 kr rfl
theorem LP:dx 160:=enters_of func160 kr rfl
theorem LQ:dx 161:=enters_of func161 kr rfl
theorem LR:dx 165:=enters_of func165 kr rfl
theorem LS:dx 166:=enters_of func166 kr rfl
theorem LU:dx 174:=enters_of func174 kr rfl
theorem mixed:prog.follows .mixedOrders=true:=by as_aux_lemma=>kernel_rfl
end
@[ext] structure zat where
 Err:Int
 At:Int
def px (a b:zat):Bool:=(a.Err==b.Err)&&(a.At==b.At)
theorem Fl (a b:zat):px a b=true↔a=b:=by
 rcases a with⟨a0,a1⟩
 rcases b with⟨b0,b1⟩
 simp[px,aR,and_assoc]
instance:DecidableEq zat:=fun a b=>decidable_of_iff _ (Fl a b)
@[ext] structure bX where
 Rune:Int
 Text:ab
 At:Int
def qh (x:bX):List Value:=[.int .i32 x.Rune,.string x.Text,.int .i64 x.At]
theorem kX (x:bX):(qh x).length=3:=rfl
theorem rT (x:bX):∀u∈qh x,u.oneCell'=true:=by
 intro u hu
 simp only[qh,bE,dX,or_false] at hu
 rcases hu with rfl | rfl | rfl <;> rfl
def Fm (a b:bX):Bool:=(a.Rune==b.Rune)&&decide (a.Text=b.Text)&&(a.At==b.At)
theorem LV (a b:bX):Fm a b=true↔a=b:=by
 rcases a with⟨a0,a1,h⟩
 rcases b with⟨b0,b1,f⟩
 simp[Fm,aR,and_assoc]
instance:DecidableEq bX:=fun a b=>decidable_of_iff _ (LV a b)
@[ext] structure AP where
 e0:Bool
 e1:Bool
def Fo (a b:AP):Bool:=(a.e0==b.e0)&&(a.e1==b.e1)
theorem LW (a b:AP):Fo a b=true↔a=b:=by
 rcases a with⟨a0,a1⟩
 rcases b with⟨b0,b1⟩
 simp[Fo,aR,and_assoc]
instance:DecidableEq AP:=fun a b=>decidable_of_iff _ (LW a b)
@[ext] structure db where
 sort:Int
 place:Int
 digits:ab
 marks:ab
 great:Int
def py (x:db):List Value:=[.int .i64 x.sort,.int .i64 x.place,.string x.digits,.string x.marks,.int .i64 x.great]
theorem qi (x:db):(py x).length=5:=rfl
theorem Fp (x:db):∀u∈py x,u.oneCell'=true:=by
 intro u hu
 simp only[py,bE,dX,or_false] at hu
 rcases hu with rfl | rfl | rfl | rfl | rfl <;> rfl
def Fq (a b:db):Bool:=(a.sort==b.sort)&&(a.place==b.place)&&decide (a.digits=b.digits)&&decide (a.marks=b.marks)&&(a.great==b.great)
theorem LY (a b:db):Fq a b=true↔a=b:=by
 rcases a with⟨a0,a1,r,q,n⟩
 rcases b with⟨b0,b1,l,h,f⟩
 simp[Fq,aR,and_assoc]
instance:DecidableEq db:=fun a b=>decidable_of_iff _ (LY a b)
@[ext] structure AQ where
 Sort_:Int
 Digits:ab
 Place:Int
 Marks:ab
 Great:Bool
def Fs (a b:AQ):Bool:=(a.Sort_==b.Sort_)&&decide (a.Digits=b.Digits)&&(a.Place==b.Place)&&decide (a.Marks=b.Marks)&&(a.Great==b.Great)
theorem LZ (a b:AQ):Fs a b=true↔a=b:=by
 rcases a with⟨a0,a1,r,q,n⟩
 rcases b with⟨b0,b1,l,h,f⟩
 simp[Fs,aR,and_assoc]
instance:DecidableEq AQ:=fun a b=>decidable_of_iff _ (LZ a b)
@[ext] structure gn where
 at_:Int
 text:ab
def um (x:gn):List Value:=[.int .i64 x.at_,.string x.text]
theorem AR (x:gn):(um x).length=2:=rfl
theorem Ft (x:gn):∀u∈um x,u.oneCell'=true:=by
 intro u hu
 simp only[um,bE,dX,or_false] at hu
 rcases hu with rfl | rfl <;> rfl
def Fu (a b:gn):Bool:=(a.at_==b.at_)&&decide (a.text=b.text)
theorem L0 (a b:gn):Fu a b=true↔a=b:=by
 rcases a with⟨a0,a1⟩
 rcases b with⟨b0,b1⟩
 simp[Fu,aR,and_assoc]
instance:DecidableEq gn:=fun a b=>decidable_of_iff _ (L0 a b)
@[ext] structure fU where
 at_:Int
 text:ab
def sV (x:fU):List Value:=[.int .i64 x.at_,.string x.text]
theorem yr (x:fU):(sV x).length=2:=rfl
theorem L2 (x:fU):∀u∈sV x,u.oneCell'=true:=by
 intro u hu
 simp only[sV,bE,dX,or_false] at hu
 rcases hu with rfl | rfl <;> rfl
def Fv (a b:fU):Bool:=(a.at_==b.at_)&&decide (a.text=b.text)
theorem L3 (a b:fU):Fv a b=true↔a=b:=by
 rcases a with⟨a0,a1⟩
 rcases b with⟨b0,b1⟩
 simp[Fv,aR,and_assoc]
instance:DecidableEq fU:=fun a b=>decidable_of_iff _ (L3 a b)
@[ext] structure jk where
 e0:Int
 e1:Int
def AU (x:jk):List Value:=[.int .i32 x.e0,.int .i32 x.e1]
theorem Fw (x:jk):(AU x).length=2:=rfl
def Fx (a b:jk):Bool:=(a.e0==b.e0)&&(a.e1==b.e1)
theorem L4 (a b:jk):Fx a b=true↔a=b:=by
 rcases a with⟨a0,a1⟩
 rcases b with⟨b0,b1⟩
 simp[Fx,aR,and_assoc]
instance:DecidableEq jk:=fun a b=>decidable_of_iff _ (L4 a b)
@[ext] structure zam where
 e0:Int
 e1:Int
def Fy (a b:zam):Bool:=(a.e0==b.e0)&&(a.e1==b.e1)
theorem L5 (a b:zam):Fy a b=true↔a=b:=by
 rcases a with⟨a0,a1⟩
 rcases b with⟨b0,b1⟩
 simp[Fy,aR,and_assoc]
instance:DecidableEq zam:=fun a b=>decidable_of_iff _ (L5 a b)
@[ext] structure cX where
 At:Int
 Width:Int
 Rune:Int
 Broken:Bool
def nC (x:cX):List Value:=[.int .i64 x.At,.int .i64 x.Width,.int .i32 x.Rune,.bool x.Broken]
theorem yu (x:cX):(nC x).length=4:=rfl
theorem Fz (x:cX):∀u∈nC x,u.oneCell'=true:=by
 intro u hu
 simp only[nC,bE,dX,or_false] at hu
 rcases hu with rfl | rfl | rfl | rfl <;> rfl
def FA (a b:cX):Bool:=(a.At==b.At)&&(a.Width==b.Width)&&(a.Rune==b.Rune)&&(a.Broken==b.Broken)
theorem L6 (a b:cX):FA a b=true↔a=b:=by
 rcases a with⟨a0,a1,n,l⟩
 rcases b with⟨b0,b1,h,f⟩
 simp[FA,aR,and_assoc]
instance:DecidableEq cX:=fun a b=>decidable_of_iff _ (L6 a b)
@[ext] structure RI where
 e0_0:Int
 e0_1:Int
 e1_0:Int
 e1_1:Int
 e2_0:Int
 e2_1:Int
 e3_0:Int
 e3_1:Int
 e4_0:Int
 e4_1:Int
 e5_0:Int
 e5_1:Int
 e6_0:Int
 e6_1:Int
 e7_0:Int
 e7_1:Int
@[ext] structure gu where
 e0:ab
 e1:ab
 e2:ab
def FB (x:gu):List Value:=[.string x.e0,.string x.e1,.string x.e2]
theorem AV (x:gu):(FB x).length=3:=rfl
def FC (a b:gu):Bool:=decide (a.e0=b.e0)&&decide (a.e1=b.e1)&&decide (a.e2=b.e2)
theorem L7 (a b:gu):FC a b=true↔a=b:=by
 rcases a with⟨a0,a1,h⟩
 rcases b with⟨b0,b1,f⟩
 simp[FC,aR,and_assoc]
instance:DecidableEq gu:=fun a b=>decidable_of_iff _ (L7 a b)
@[ext] structure AW where
 At:Int
 Width:Int
 Rune:Int
 Broken:Bool
def FE (a b:AW):Bool:=(a.At==b.At)&&(a.Width==b.Width)&&(a.Rune==b.Rune)&&(a.Broken==b.Broken)
theorem L8 (a b:AW):FE a b=true↔a=b:=by
 rcases a with⟨a0,a1,n,l⟩
 rcases b with⟨b0,b1,h,f⟩
 simp[FE,aR,and_assoc]
instance:DecidableEq AW:=fun a b=>decidable_of_iff _ (L8 a b)
@[ext] structure RJ where
 e0_lo:Int
 e0_hi:Int
 e1_lo:Int
 e1_hi:Int
 e2_lo:Int
 e2_hi:Int
 e3_lo:Int
 e3_hi:Int
 e4_lo:Int
 e4_hi:Int
 e5_lo:Int
 e5_hi:Int
 e6_lo:Int
 e6_hi:Int
 e7_lo:Int
 e7_hi:Int
 e8_lo:Int
 e8_hi:Int
 e9_lo:Int
 e9_hi:Int
 e10_lo:Int
 e10_hi:Int
 e11_lo:Int
 e11_hi:Int
 e12_lo:Int
 e12_hi:Int
 e13_lo:Int
 e13_hi:Int
 e14_lo:Int
 e14_hi:Int
 e15_lo:Int
 e15_hi:Int
theorem L9 {x y:Operand} (a b:zat) (w:World):(do eqGuard .eql 26 x y (.agg #[.int .i64 a.Err,.int .i64 a.At]) (.agg #[.int .i64 b.Err,.int .i64 b.At]);binOp .eql 26 (.agg #[.int .i64 a.Err,.int .i64 a.At]) (.agg #[.int .i64 b.Err,.int .i64 b.At]):Sem Value).run prog w=.ok (.bool (px a b)) w :=
 Jo kr (show ((a.Err==b.Err)&&((a.At==b.At)&&true))=px a b by simp[px,Bool.and_assoc]) (DX (dd:=9999) kr kr (xV (ft:=24) (off:=0) (a:=.int .i64 a.Err) (b:=.int .i64 b.Err) kr (fun _=>by kernel_rfl) (fun _=>by kernel_rfl) (xW rz) (xV (ft:=3) (off:=1) (a:=.int .i64 a.At) (b:=.int .i64 b.At) kr (fun _=>by kernel_rfl) (fun _=>by kernel_rfl) (xW underlying3) (DW (n:=2) kr)))) w
theorem Ma {x y:Operand} (a b:zat) (w:World):(do eqGuard .neq 26 x y (.agg #[.int .i64 a.Err,.int .i64 a.At]) (.agg #[.int .i64 b.Err,.int .i64 b.At]);binOp .neq 26 (.agg #[.int .i64 a.Err,.int .i64 a.At]) (.agg #[.int .i64 b.Err,.int .i64 b.At]):Sem Value).run prog w=.ok (.bool (!px a b)) w :=
 Jp kr (show ((a.Err==b.Err)&&((a.At==b.At)&&true))=px a b by simp[px,Bool.and_assoc]) (DX (dd:=9999) kr kr (xV (ft:=24) (off:=0) (a:=.int .i64 a.Err) (b:=.int .i64 b.Err) kr (fun _=>by kernel_rfl) (fun _=>by kernel_rfl) (xW rz) (xV (ft:=3) (off:=1) (a:=.int .i64 a.At) (b:=.int .i64 b.At) kr (fun _=>by kernel_rfl) (fun _=>by kernel_rfl) (xW underlying3) (DW (n:=2) kr)))) w
structure dB where
 Units:List ab
 Fors:List (ab×List ab)
 Skips:List ab
 Lines:List ab
def sW (z:dB×Hd×Hd×Hd×Hd):List Value:=[z.2.1.v,.map (some (aV z.2.2.1)),z.2.2.2.1.v,z.2.2.2.2.v]
def sX (z:dB×Hd×Hd×Hd×Hd):List Asn:=[vec gR 9 1 z.2.1.v z.1.Units,dh (aV z.2.2.1) z.1.Fors,vec gR 9 1 z.2.2.2.1.v z.1.Skips,vec gR 9 1 z.2.2.2.2.v z.1.Lines]
structure cK where
 units:List ab
 place:List (ab×Int)
 fors:List (ab×List ab)
 skips:List (ab×Bool)
 lines:List ab
def pz (z:cK×Hd×Hd×Hd×Hd×Hd):List Value:=[z.2.1.v,.map (some (aV z.2.2.1)),.map (some (aV z.2.2.2.1)),.map (some (aV z.2.2.2.2.1)),z.2.2.2.2.2.v]
def pA (z:cK×Hd×Hd×Hd×Hd×Hd):List Asn:=[vec gR 9 1 z.2.1.v z.1.units,cq (fun n:ab=>aa n) (fun n:Int=>ax .i64 n) (aV z.2.2.1) z.1.place,dh (aV z.2.2.2.1) z.1.fors,cq (fun n:ab=>aa n) (fun n:Bool=>Value.bool n) (aV z.2.2.2.2.1) z.1.skips,vec gR 9 1 z.2.2.2.2.2.v z.1.lines]
structure cS where
 at_:Int
 broken:Int
 base:Int
 low:List Int
 high:List Int
def lj (z:cS×Hd×Hd):List Value:=[.int .i64 z.1.at_,.int .u8 z.1.broken,.int .i32 z.1.base,z.2.1.v,z.2.2.v]
def gX (z:cS×Hd×Hd):List Asn:=[vec (kn (.i32)) 21 1 z.2.1.v z.1.low,vec (kn (.i32)) 21 1 z.2.2.v z.1.high]
theorem oh (z:cS×Hd×Hd):(lj z).length=5:=rfl
theorem FF (z:cS×Hd×Hd):∀u∈lj z,u.oneCell'=true:=by
 intro u hu
 simp only[lj,bE,dX,or_false] at hu
 rcases hu with rfl | rfl | rfl | rfl | rfl <;> rfl
theorem FG:∀ (P:List Pc) (i:Nat) (l:List UInt8) (x:Pc) (B:List Pc),mi i l=P++x::B →
  ∃n,x.i=i+n∧n+x.w≤l.length∧vM (l.drop n) x.r x.w∧mi (i+n) (l.drop n)=x::B∧B=mi (x.i+x.w) (l.drop (n+x.w))
 | [],i,l,x,B,h=>by
  by_cases a:l=[]
  ·subst a;simp[qN] at h
  ·have f:=vN l a
   have h':=h
   rw[qO i l a] at h
   simp only[bt,fy] at h
   obtain⟨rfl,hB⟩:=h
   exact⟨0,by simp,by simpa using f.le,by simpa using f,by simpa using h',by simpa using hB.symm⟩
 | p::P,i,l,x,B,h=>by
  by_cases a:l=[]
  ·subst a;simp[qN] at h
  ·have q:=vL l a
   rw[qO i l a] at h
   simp only[bp,fy] at h
   obtain⟨n,h1,h2,C,u,h5⟩:=FG P _ _ x B h.2
   refine⟨(decodeL l).2+n,by omega,by simp at h2;omega,by rw[← eS];exact C,by rw[← eS,← kN];exact u,?_⟩
   rw[h5,eS,kN]
theorem FH (l:List UInt8) (P:List Pc) (x:Pc) (B:List Pc) (h:fe l=P++x::B) :
  x.i+x.w≤l.length∧vM (l.drop x.i) x.r x.w∧mi x.i (l.drop x.i)=x::B∧B=mi (x.i+x.w) (l.drop (x.i+x.w)):=by
 obtain⟨n,h1,h2,f,a,h5⟩:=FG P 0 l x B h
 have:x.i=n:=by omega
 subst this
 exact⟨h2,f,by simpa using a,h5⟩
theorem sY (l:List UInt8) (x:Pc) (h:x∈fe l):1≤x.w∧x.i+x.w≤l.length∧vM (l.drop x.i) x.r x.w:=by
 obtain⟨P,B,a⟩:=List.append_of_mem h
 obtain⟨h1,h2,_⟩:=FH l P x B a
 exact⟨h2.pos,h1,h2⟩
structure dV where
 r:Nat
 bs:List UInt8
 deriving DecidableEq
def dV.broken (t:dV):Bool:=t.r==65533&&t.bs.length==1
def dV.valid (t:dV):Prop:=(t.r<55296∨(57343<t.r∧t.r≤1114111))∧t.bs=encodeRune t.r
def ep (ts:List dV):List UInt8:=ts.flatMap dV.bs
def qj:Nat→List UInt8→List dV
 | 0,_=>[]
 | f+1,l=>if l=[] then [] else ⟨(decodeL l).1,l.take (decodeL l).2⟩::qj f (l.drop (decodeL l).2)
def gj (l:List UInt8):List dV:=qj l.length l
theorem qk (t:dV) (ts:List dV):ep (t::ts)=t.bs++ep ts:=by simp[ep]
theorem oi (a b:List dV):ep (a++b)=ep a++ep b:=by simp[ep]
theorem Mb:∀ (f g:Nat) (l:List UInt8),l.length≤f→l.length≤g→qj f l=qj g l:=by
 intro f
 induction f with
 | zero=>
  intro g l h1 h2
  have:l=[]:=co (by omega)
  subst this
  cases g <;> simp[qj]
 | succ f n=>
  intro g l h1 h2
  cases g with
  | zero=>
   have:l=[]:=co (by omega)
   subst this
   simp[qj]
  | succ g=>
   by_cases a:l=[]
   ·simp[qj,a]
   ·simp only[qj,a,if_false]
    have:=qM l
    have h:0<l.length:=c6.2 a
    rw[n g _ (by simp;omega) (by simp;omega)]
theorem wj:gj []=[]:=by simp[gj,qj]
theorem sZ (l:List UInt8) (h:l≠[]):gj l=⟨(decodeL l).1,l.take (decodeL l).2⟩::gj (l.drop (decodeL l).2):=by
 have a:0<l.length:=c6.2 h
 unfold gj
 obtain⟨n,f⟩:∃n,l.length=n+1:=⟨l.length - 1,by omega⟩
 rw[f]
 simp only[qj,h,if_false]
 have:=qM l
 rw[Mb n (l.drop (decodeL l).2).length _ (by simp;omega) (bJ _)]
theorem yv {P:List UInt8→Prop} (h0:P []) (h1:∀l,l≠[]→P (l.drop (decodeL l).2)→P l):∀l,P l:=by
 have key:∀ (n:Nat) (l:List UInt8),l.length≤n→P l:=by
  intro n
  induction n with
  | zero=>intro l h;rw[co (by omega:l.length=0)];exact h0
  | succ n f=>
   intro l h
   by_cases a:l=[]
   ·rw[a];exact h0
   ·have:=qM l
    exact h1 l a (f _ (by simp;omega))
 exact fun l=>key l.length l (bJ _)
theorem AX (l:List UInt8):ep (gj l)=l:=by
 induction l using yv with
 | h0=>rw[wj];rfl
 | h1 l f a=>rw[sZ l f,qk,a];exact dH _ _
theorem Mc (l:List UInt8) (h:l≠[]):(⟨(decodeL l).1,l.take (decodeL l).2⟩:dV).valid∨(⟨(decodeL l).1,l.take (decodeL l).2⟩:dV).broken=true:=by
 by_cases a:(decodeL l).1=65533∧(decodeL l).2=1
 ·right
  have f:0<l.length:=c6.2 h
  simp[dV.broken,a.1,a.2];omega
 ·left
  exact⟨D9 l,(encode_decode l h a).symm⟩
theorem ql (l:List UInt8):∀t∈gj l,t.valid∨t.broken=true:=by
 induction l using yv with
 | h0=>rw[wj];simp
 | h1 l a f=>
  rw[sZ l a]
  intro t ht
  rcases bE.1 ht with rfl | ht
  ·exact Mc l a
  ·exact f t ht
theorem s0 {t:dV} (h:t.valid):t.broken=false:=by
 unfold dV.broken
 by_cases hr:t.r=65533
 ·have:=h.2;rw[hr,zW] at this;simp[this]
 ·simp[hr]
theorem AY {t:dV} (h:t.valid∨t.broken=true):t.bs≠[]:=by
 rcases h with h | h
 ·rw[h.2];intro e;have:=(xZ (t.r:Int)).1;rw[e] at this;simp at this
 ·intro e;unfold dV.broken at h;rw[e] at h;simp at h
def AZ (b:UInt8):Bool:=b.toNat / 64==2
def qV:List UInt8→Prop
 | []=>True
 | b::_=>AZ b=false
theorem Md {n b0 b1 h f c1 c2 a m:Nat} (h1:n≤1∨b1 / 64≠2) (h2:m≤1∨c1 / 64≠2):decodeN n b0 b1 h f=decodeN m b0 c1 c2 a:=by
 unfold decodeN
 have e1:¬ (1<n∧b1 / 64=2):=by omega
 have e2:¬ (1<m∧c1 / 64=2):=by omega
 simp only[e1,e2,and_false,false_and,if_false]
theorem Me {n b0 b1 a l c2 h m:Nat} (f:1<n) (hm:1<m) (h1:n≤2∨a / 64≠2) (h2:m≤2∨c2 / 64≠2):decodeN n b0 b1 a l=decodeN m b0 b1 c2 h:=by
 unfold decodeN
 have e1:¬ (2<n∧a / 64=2):=by omega
 have e2:¬ (2<m∧c2 / 64=2):=by omega
 simp only[e1,e2,and_false,false_and,if_false,f,hm,true_and]
theorem Mf {n b0 b1 q l h m:Nat} (r:2<n) (hm:2<m) (h1:n≤3∨l / 64≠2) (h2:m≤3∨h / 64≠2):decodeN n b0 b1 q l=decodeN m b0 b1 q h:=by
 unfold decodeN
 have e1:¬ (3<n∧l / 64=2):=by omega
 have e2:¬ (3<m∧h / 64=2):=by omega
 have a:1<n:=by omega
 have f:1<m:=by omega
 simp only[e1,e2,and_false,if_false,r,hm,a,f,true_and]
theorem Mg {n b0 b1 r q m:Nat} (u:3<n) (hm:3<m):decodeN n b0 b1 r q=decodeN m b0 b1 r q:=by
 unfold decodeN
 have h:1<n:=by omega
 have l:1<m:=by omega
 have a:2<n:=by omega
 have f:2<m:=by omega
 simp only[u,hm,h,l,a,f,true_and]
theorem A0 {x:List UInt8} (h:qV x) (n:Nat):n+x.length≤n∨(x.getD 0 0).toNat / 64≠2:=by
 cases x with
 | nil=>simp
 | cons b x=>right;simpa [qV,AZ] using h
theorem Mh (l x:List UInt8) (f:l≠[]) (hx:qV x):decodeL (l++x)=decodeL l:=by
 rw[decodeL_N,decodeL_N]
 rcases l with _ | ⟨a,_ | ⟨b,_ | ⟨c,_ | ⟨d,l⟩⟩⟩⟩
 ·exact absurd rfl f
 ·refine Md ?_ (.inl (by simp))
  rcases A0 hx 1 with h | h
  ·left;simp only[ah,aj,bl];omega
  ·right;simpa using h
 ·refine Me (by simp) (by simp) ?_ (.inl (by simp))
  rcases A0 hx 2 with h | h
  ·left;simp only[ah,aj,bl];omega
  ·right;simpa using h
 ·refine Mf (by simp) (by simp) ?_ (.inl (by simp))
  rcases A0 hx 3 with h | h
  ·left;simp only[ah,aj,bl];omega
  ·right;simpa using h
 ·exact Mg (by simp) (by simp)
theorem wk (l x:List UInt8) (hx:qV x):gj (l++x)=gj l++gj x:=by
 induction l using yv with
 | h0=>rw[wj];rfl
 | h1 l f n=>
  have a:=vL l f
  have h:l++x≠[]:=by simp[f]
  rw[sZ _ h,sZ l f,Mh l x f hx,List.drop_append_of_le_length a,n,List.take_append_of_le_length a]
  rfl
theorem FI (r:Nat) (hv:r<55296∨(57343<r∧r≤1114111)) :
  (r≤127∧encodeRuneZ r=[(r:Int)])∨(128≤r∧r≤2047∧encodeRuneZ r=[192+(r:Int) / 64,128+(r:Int) % 64]) ∨
  (2048≤r∧r≤65535∧encodeRuneZ r=[224+(r:Int) / 4096,128+(r:Int) / 64 % 64,128+(r:Int) % 64]) ∨
  (65536≤r∧r≤1114111∧encodeRuneZ r=[240+(r:Int) / 262144,128+(r:Int) / 4096 % 64,128+(r:Int) / 64 % 64,128+(r:Int) % 64]):=by
 by_cases h1:r≤127
 ·exact .inl ⟨h1,encodeRuneZ_one (by omega) (by omega)⟩
 ·by_cases h2:r≤2047
  ·exact .inr (.inl ⟨by omega,h2,encodeRuneZ_two (by omega) (by omega)⟩)
  ·by_cases a:r≤65535
   ·exact .inr (.inr (.inl ⟨by omega,a,encodeRuneZ_three (by omega)⟩))
   ·exact .inr (.inr (.inr ⟨by omega,by omega,encodeRuneZ_four (by omega) (by omega)⟩))
theorem pB (z:Int) (_h0:0≤z) (h1:z<256):(z.toNat.toUInt8).toNat=z.toNat:=by
 simp;omega
theorem yw (r:Nat) (hv:r<55296∨(57343<r∧r≤1114111)) (x:List UInt8):decodeL (encodeRune r++x)=(r,(encodeRune r).length):=by
 rw[decodeL_N]
 rcases FI r hv with⟨h,e⟩ | ⟨h,h',e⟩ | ⟨h,h',e⟩ | ⟨h,h',e⟩
 ·have a:encodeRune r=[((r:Int).toNat.toUInt8)]:=by simp only[encodeRune,e,aE,eu]
  rw[a]
  simp only[bp,bt,hH,aj]
  rw[pB _ (by omega) (by omega)]
  unfold decodeN
  simp only[Int.toNat_natCast]
  rw[ay (by omega)]
  simp
 ·have a:encodeRune r=[((192+(r:Int) / 64).toNat.toUInt8),((128+(r:Int) % 64).toNat.toUInt8)]:=by simp only[encodeRune,e,aE,eu]
  rw[a]
  simp only[bp,bt,hH,kf,aj]
  rw[pB _ (by omega) (by omega),pB _ (by omega) (by omega)]
  have a1:(192+(r:Int) / 64).toNat=192+r / 64:=by omega
  have D:(128+(r:Int) % 64).toNat=128+r % 64:=by omega
  rw[a1,D]
  unfold decodeN
  have c1:¬ 192+r / 64<128:=by omega
  have c2:(192+r / 64) / 32=6:=by omega
  have w:(128+r % 64) / 64=2:=by omega
  have q:(192+r / 64) % 32*64+(128+r % 64) % 64=r:=by omega
  have n:128≤r:=by omega
  rw[ar c1,ay ⟨c2,by omega,w⟩,q,ay n]
  rfl
 ·have a:encodeRune r=[((224+(r:Int) / 4096).toNat.toUInt8),((128+(r:Int) / 64 % 64).toNat.toUInt8),((128+(r:Int) % 64).toNat.toUInt8)]:=by simp only[encodeRune,e,aE,eu]
  rw[a]
  simp only[bp,bt,hH,kf,aj]
  rw[pB _ (by omega) (by omega),pB _ (by omega) (by omega),pB _ (by omega) (by omega)]
  have a1:(224+(r:Int) / 4096).toNat=224+r / 4096:=by omega
  have D:(128+(r:Int) / 64 % 64).toNat=128+r / 64 % 64:=by omega
  have E:(128+(r:Int) % 64).toNat=128+r % 64:=by omega
  rw[a1,D,E]
  unfold decodeN
  have c1:¬ 224+r / 4096<128:=by omega
  have c2:(224+r / 4096) / 32≠6:=by omega
  have l:(224+r / 4096) / 16=14:=by omega
  have w:(128+r / 64 % 64) / 64=2:=by omega
  have f:(128+r % 64) / 64=2:=by omega
  have q:(224+r / 4096) % 16*4096+(128+r / 64 % 64) % 64*64+(128+r % 64) % 64=r:=by omega
  have n:2048≤r:=by omega
  rw[ar c1,ar (fun h=>c2 h.1),ay ⟨l,⟨by omega,w⟩,⟨by omega,f⟩⟩,q,ay ⟨n,by omega⟩]
  rfl
 ·have a:encodeRune r=[((240+(r:Int) / 262144).toNat.toUInt8),((128+(r:Int) / 4096 % 64).toNat.toUInt8),((128+(r:Int) / 64 % 64).toNat.toUInt8),((128+(r:Int) % 64).toNat.toUInt8)]:=by simp only[encodeRune,e,aE,eu]
  rw[a]
  simp only[bp,bt,hH,kf,aj]
  rw[pB _ (by omega) (by omega),pB _ (by omega) (by omega),pB _ (by omega) (by omega),pB _ (by omega) (by omega)]
  have a1:(240+(r:Int) / 262144).toNat=240+r / 262144:=by omega
  have D:(128+(r:Int) / 4096 % 64).toNat=128+r / 4096 % 64:=by omega
  have G:(128+(r:Int) / 64 % 64).toNat=128+r / 64 % 64:=by omega
  have E:(128+(r:Int) % 64).toNat=128+r % 64:=by omega
  rw[a1,D,G,E]
  unfold decodeN
  have c1:¬ 240+r / 262144<128:=by omega
  have c2:(240+r / 262144) / 32≠6:=by omega
  have l:(240+r / 262144) / 16≠14:=by omega
  have C:(240+r / 262144) / 8=30:=by omega
  have w:(128+r / 4096 % 64) / 64=2:=by omega
  have f:(128+r / 64 % 64) / 64=2:=by omega
  have u:(128+r % 64) / 64=2:=by omega
  have q:(240+r / 262144) % 8*262144+(128+r / 4096 % 64) % 64*4096+(128+r / 64 % 64) % 64*64+(128+r % 64) % 64=r:=by omega
  have n:65536≤r:=by omega
  rw[ar c1,ar (fun h=>c2 h.1),ar (fun h=>l h.1),ay ⟨C,⟨by omega,w⟩,⟨by omega,f⟩,⟨by omega,u⟩⟩,q,ay ⟨n,by omega⟩]
  rfl
theorem Mi (r:Nat) (hv:r<55296∨(57343<r∧r≤1114111)) (x:List UInt8):qV (encodeRune r++x):=by
 rcases FI r hv with⟨h,e⟩ | ⟨h,h',e⟩ | ⟨h,h',e⟩ | ⟨h,h',e⟩ <;>
 ·simp only[encodeRune,e,aE,eu,bp,qV,AZ,aS,ne_eq]
  rw[pB _ (by omega) (by omega)]
  omega
theorem Mj {t:dV} (h:t.valid) (x:List UInt8):gj (t.bs++x)=t::gj x:=by
 have a:t.bs++x≠[]:=by simp[AY (.inl h)]
 rw[sZ _ a]
 rw[h.2,yw t.r h.1 x,← h.2]
 simp
theorem Mk {vs:List dV} (h:∀t∈vs,t.valid) (x:List UInt8):gj (ep vs++x)=vs++gj x:=by
 induction vs with
 | nil=>rfl
 | cons t vs a=>
  rw[qk,aM,Mj (h t (aB ..)),a (fun q f=>h q (aq _ f))]
  rfl
theorem FJ {vs:List dV} (a:vs≠[]) (h:∀t∈vs,t.valid) (x:List UInt8):qV (ep vs++x):=by
 cases vs with
 | nil=>exact absurd rfl a
 | cons t vs=>
  have:=h t (aB ..)
  rw[qk,aM,this.2]
  exact Mi t.r this.1 _
def oj (ts:List dV):Prop:=gj (ep ts)=ts
theorem Mn (l:List UInt8):oj (gj l):=by unfold oj;rw[AX]
theorem A1 {t:dV} {ts:List dV} (h:oj (t::ts)):oj ts:=by
 unfold oj at *
 by_cases f:ep (t::ts)=[]
 ·rw[f,wj] at h;cases h
 ·rw[sZ _ f] at h
  have h1:(⟨(decodeL (ep (t::ts))).1,(ep (t::ts)).take (decodeL (ep (t::ts))).2⟩:dV)=t:=by injection h
  have h2:gj ((ep (t::ts)).drop (decodeL (ep (t::ts))).2)=ts:=by injection h
  have l:(ep (t::ts)).take (decodeL (ep (t::ts))).2=t.bs:=aL dV.bs h1
  have a:=dH (decodeL (ep (t::ts))).2 (ep (t::ts))
  rw[l] at a
  have h5:(ep (t::ts)).drop (decodeL (ep (t::ts))).2=ep ts:=by
   rw[qk] at a ⊢
   exact List.append_cancel_left a
  rw[← h5];exact h2
theorem A2 {a ts:List dV} (h:oj (a++ts)):oj ts:=by
 induction a with
 | nil=>exact h
 | cons t a f=>exact f (A1 h)
inductive mT:List dV→List dV→Prop
 | nil:mT [] []
 | brk {b:dV} {ts us:List dV}:b.broken=true→mT ts us→mT (b::ts) (b::us)
 | val {gs vs ts us:List dV}:gs≠[]→vs≠[]→(∀t∈gs,t.valid)→(∀t∈vs,t.valid)→mT ts us→mT (gs++ts) (vs++us)
theorem mT.one {t:dV} {vs ts us:List dV} (ht:t.valid) (a:vs≠[]) (hv:∀t∈vs,t.valid) (h:mT ts us):mT (t::ts) (vs++us) :=
 mT.val (gs:=[t]) (by simp) a (by simpa using ht) hv h
theorem mT.head {ts us:List dV} (h:mT ts us):∃B f a,(∀b∈B,b.broken=true)∧ts=B++f∧us=B++a∧qV (ep f)∧qV (ep a):=by
 induction h with
 | nil=>exact⟨[],[],[],by simp,rfl,rfl,trivial,trivial⟩
 | brk q _ n=>
  obtain⟨B,f,a,h1,rfl,rfl,l,h5⟩:=n
  exact⟨_::B,f,a,by simpa [q] using h1,rfl,rfl,l,h5⟩
 | @val gs vs ts us h1 h2 h3 l _ n=>
  exact⟨[],gs++ts,vs++us,by simp,rfl,rfl,by rw[oi];exact FJ h1 h3 _,by rw[oi];exact FJ h2 l _⟩
theorem mT.good {ts us:List dV} (h:mT ts us) (hg:oj ts):oj us:=by
 induction h with
 | nil=>exact hg
 | @brk b ts us hb hs ih=>
  have n:=ih (A1 hg)
  obtain⟨B,f,l,h1,rfl,rfl,q,h5⟩:=hs.head
  unfold oj at *
  have r:b.bs≠[]:=AY (.inr hb)
  have e1:ep (b::(B++f))=ep (b::B)++ep f:=by rw[← bp,oi]
  have e2:ep (b::(B++l))=ep (b::B)++ep l:=by rw[← bp,oi]
  rw[e1,wk _ _ q] at hg
  rw[e2,wk _ _ h5]
  have C:gj (ep f)=f:=by
   have:=A2 (a:=B) (ts:=f) (by
    have u:oj (b::(B++f)):=by unfold oj;rw[e1,wk _ _ q];exact hg
    exact A1 u)
   exact this
  rw[oi,wk _ _ h5] at n
  have w:gj (ep l)=l:=A2 (a:=B) (by unfold oj;rw[oi,wk _ _ h5];exact n)
  rw[C,← bp] at hg
  rw[w,← bp]
  rw[List.append_cancel_right hg]
 | @val gs vs ts us h1 h2 h3 q _ ih=>
  unfold oj
  rw[oi,Mk q,show gj (ep us)=us from ih (A2 hg)]
def place:Nat→List dV→List Pc
 | _,[]=>[]
 | i,t::ts=>⟨i,t.bs.length,t.r⟩::place (i+t.bs.length) ts
theorem FK (l:List UInt8):∀i,mi i l=place i (gj l):=by
 induction l using yv with
 | h0=>intro i;rw[wj,qN];rfl
 | h1 l a f=>
  intro i
  have h:=vL l a
  have e:(l.take (decodeL l).2).length=(decodeL l).2:=by simp;omega
  rw[qO i l a,sZ l a,place,f,e]
section
open Go.Shelf
attribute [local go_sem] kg Df Dh Di
theorem qm {a b:Bool} (h:a=b):mP (.bool a)=.returned (.bool b):=by rw[h]
theorem qn {k:IntKind} {a b:Int} (h:a=b):mP (.int k a)=.returned (.int k b):=by rw[h]
end
def wl (r:Int):Bool:=decide (r % 2=0)
def o8 (r:Int):Prop :=
 (65≤r∧r≤90)∨(0xC0≤r∧r≤0xDE∧r≠0xD7)∨(((0x100≤r∧r≤0x137)∨(0x14A≤r∧r≤0x177))∧r % 2=0)∨(0x139≤r∧r≤0x148∧r % 2=1)∨r=0x178 ∨
 (0x179≤r∧r≤0x17D∧r % 2=1)∨(0x386≤r∧r≤0x38F∧r≠0x387∧r≠0x38B∧r≠0x38D)∨(0x391≤r∧r≤0x3AB∧r≠0x3A2)∨(0x400≤r∧r≤0x42F)
instance (r:Int):Decidable (o8 r):=by unfold o8;infer_instance
def great (r:Int):Bool:=decide (o8 r)
def qo (r:Int):Prop :=
 (97≤r∧r≤122)∨(0xDF≤r∧r≤0xFF∧r≠0xF7)∨(((0x100≤r∧r≤0x137)∨(0x14A≤r∧r≤0x177))∧r % 2=1)∨r=0x138∨r=0x149∨r=0x17F∨r=0x390 ∨
 (0x139≤r∧r≤0x148∧r % 2=0)∨(0x17A≤r∧r≤0x17E∧r % 2=0)∨(0x3AC≤r∧r≤0x3CE)∨(0x430≤r∧r≤0x45F)
instance (r:Int):Decidable (qo r):=by unfold qo;infer_instance
def ol (r:Int):Bool:=decide (qo r)
def dw (r:Int):Bool:=great r||ol r
def ee (r:Int):Int :=
 if !great r then r
 else if r=0x130 then 0x69 else if r=0x178 then 0xFF else if r=0x386 then 0x3AC else if r=0x38C then 0x3CC
 else if 0x388≤r∧r≤0x38A then r+0x25 else if r=0x38E∨r=0x38F then r+0x3F
 else if 0x400≤r∧r≤0x40F then r+0x50 else if r<0x100∨0x17F<r then r+0x20 else r+1
def rU (r:Int):Int :=
 if r=0xFF then 0xFF - 0x178
 else if r<0x100∨(0x3B1≤r∧r≤0x3CB)∨(0x430≤r∧r≤0x44F) then 0x20
 else if r≤0x17F then 1
 else if r=0x3AC then 0x3AC - 0x386
 else if 0x3AD≤r∧r≤0x3AF then 0x25
 else if r=0x3CC then 0x40
 else if r=0x3CD∨r=0x3CE then 0x3F
 else 0x50
def wm (r:Int):Int :=
 if !ol r then r
 else if r=0x131 then 0x49 else if r=0x17F then 0x53 else if r=0x3C2 then 0x3A3
 else if great (r - rU r)&&(ee (r - rU r)==r) then r - rU r else r
def uo (r:Int):Int :=
 if r<0∨(0xD800≤r∧r≤0xDFFF)∨0x10FFFF<r then 0
 else if dw r then 1
 else if 0x300≤r∧r≤0x36F then 2
 else if 48≤r∧r≤57 then 3
 else if r=10∨r=13 then 4
 else if r=9∨r=32∨r=0xA0∨r=0x202F∨r=0x205F∨r=0x3000 then 5
 else if r=45∨(0x2010≤r∧r≤0x2015) then 6
 else if r=34∨r=39∨r=0xAB∨r=0xBB∨r=0x2039∨r=0x203A then 7
 else if r=33∨r=44∨r=46∨r=58∨r=59∨r=63∨r=0xA1∨r=0xB7∨r=0xBF∨r=0x2026 then 8
 else if 0x2000≤r∧r≤0x200A then 5
 else if 0x2018≤r∧r≤0x201F then 7
 else if r<0x20∨(0x7F≤r∧r≤0x9F)∨(0x200B≤r∧r≤0x200F)∨r=0xFEFF then 9
 else 10
def kind (r:Int):Int:=uo r
theorem s3 (r:Int):great r=true↔o8 r:=by simp[great]
theorem uq (r:Int):ol r=true↔qo r:=by simp[ol]
section
open Go.Shelf
theorem Mo (r:Int) (h0 : -2147483648≤r) (h1:r≤2147483647):(bits BinOp.and IntKind.i32 r 1==0)=wl r:=by
 have hk:bits .and .i32 r 1=r % 2:=by
  have h1:(fE 32 1).toNat=2 ^ 1 - 1:=by decide
  have key:(fE 32 r &&& fE 32 1).toNat=(r % ((2 ^ 32:Nat):Int)).toNat % 2 ^ 1:=by
   rw[BitVec.toNat_and,BitVec.toNat_ofInt,h1,Nat.and_two_pow_sub_one_eq_mod]
  show IntKind.i32.wrap ((fE 32 r &&& fE 32 1).toNat:Nat)=r % 2
  rw[key,IntKind.wrap_i32]
  omega
 rw[hk,wl,dJ]
 simp
theorem FL (r:Int) (w:World) (h0 : -2147483648≤r) (h1:r≤2147483647) :
  Calls prog 115 #[.int .i32 r] w fun e w'=>e=.returned (.bool (wl r))∧w=w':=by
 go_enter func115,ntmps115
 go_wp2
 go_ret
 exact⟨qm (Mo r h0 h1),rfl⟩
set_option maxHeartbeats 1000000 in
theorem wn (r:Int) (w:World) (h0 : -2147483648≤r) (h1:r≤2147483647) :
  Calls prog 91 #[.int .i32 r] w fun e w'=>e=.returned (.bool (great r))∧w=w':=by
 go_enter func91,ntmps91
 go_wp2_with (go_at_call 115;refine (FL _ _ (by omega) (by omega)).mono ?_;rintro e w' ⟨rfl,rfl⟩)
 all_goals
  go_ret
  refine⟨qm ?_,rfl⟩
  (go_light;rw[dJ];(try simp only[s3,o8,wl,decide_eq_true_eq,er,ne_eq,cN,decide_eq_false_iff_not,aR,dK,cd,cQ,bne_eq_false_iff_eq,beq_iff_eq,aS,bw,false_iff,true_iff,iff_true,iff_false,dm,eh,dU] at *);omega)
set_option maxHeartbeats 1000000 in
theorem yx (r:Int) (w:World) (h0 : -2147483648≤r) (h1:r≤2147483647) :
  Calls prog 63 #[.int .i32 r] w fun e w'=>e=.returned (.bool (ol r))∧w=w':=by
 go_enter func63,ntmps63
 go_wp2_with (go_at_call 115;refine (FL _ _ (by omega) (by omega)).mono ?_;rintro e w' ⟨rfl,rfl⟩)
 all_goals
  go_ret
  refine⟨qm ?_,rfl⟩
  (go_light;rw[dJ];(try simp only[uq,qo,wl,decide_eq_true_eq,er,ne_eq,cN,decide_eq_false_iff_not,aR,dK,cd,cQ,bne_eq_false_iff_eq,beq_iff_eq,aS,bw,false_iff,true_iff,iff_true,iff_false,dm,eh,dU] at *);omega)
theorem Mr (r:Int) (w:World) (h0 : -2147483648≤r) (h1:r≤2147483647) :
  Calls prog 157 #[.int .i32 r] w fun e w'=>e=.returned (.bool (dw r))∧w=w':=by
 go_enter func157,ntmps157
 go_wp2_with (first | (go_at_call 91;refine (wn _ _ (by omega) (by omega)).mono ?_;rintro e w' ⟨rfl,rfl⟩) | (go_at_call 63;refine (yx _ _ (by omega) (by omega)).mono ?_;rintro e w' ⟨rfl,rfl⟩))
 all_goals
  go_ret
  refine⟨qm ?_,rfl⟩
  go_light
  simp_all [dw]
set_option maxHeartbeats 1000000 in
theorem wo (r:Int) (w:World) (h0 : -2147483648≤r) (h1:r≤2147483647) :
  Calls prog 136 #[.int .i32 r] w fun e w'=>e=.returned (.int .i32 (ee r))∧w=w':=by
 by_cases hg:great r=true
 ·have a:r≤2000∧0≤r:=by rw[s3] at hg;unfold o8 at hg;omega
  have h:=a.1;have f:=a.2;clear a
  go_enter func136,ntmps136
  go_wp2_with (go_at_call 91;refine (wn _ _ (by omega) (by omega)).mono ?_;rintro e w' ⟨rfl,rfl⟩)
  all_goals
   go_ret
   refine⟨qn ?_,rfl⟩
   go_light
   grind [ee]
 ·go_enter func136,ntmps136
  go_wp2_with (go_at_call 91;refine (wn _ _ (by omega) (by omega)).mono ?_;rintro e w' ⟨rfl,rfl⟩)
  all_goals
   go_ret
   refine⟨qn ?_,rfl⟩
   go_light
   simp_all [ee]
set_option maxHeartbeats 1000000 in
theorem Mt (r:Int) (w:World) (h0 : -2147483648≤r) (h1:r≤2147483647) :
  Calls prog 147 #[.int .i32 r] w fun e w'=>e=.returned (.int .i32 (rU r))∧w=w':=by
 go_enter func147,ntmps147
 go_wp2
 all_goals
  go_ret
  refine⟨qn ?_,rfl⟩
  go_light
  grind [rU]
theorem FM (r:Int) : -300≤rU r∧rU r≤300:=by unfold rU;(repeat' split) <;> omega
set_option maxHeartbeats 1000000 in
theorem Mu (r:Int) (w:World) (h0 : -2147483648≤r) (h1:r≤2147483647) :
  Calls prog 107 #[.int .i32 r] w fun e w'=>e=.returned (.int .i32 (wm r))∧w=w':=by
 have h:=(FM r).1
 have f:=(FM r).2
 by_cases hg:ol r=true
 ·have a:r≤2000∧0≤r:=by rw[uq] at hg;unfold qo at hg;omega
  have n:=a.1;have l:=a.2;clear a
  go_enter func107,ntmps107
  go_wp2_with (first | (go_at_call 63;refine (yx _ _ (by omega) (by omega)).mono ?_;rintro e w' ⟨rfl,rfl⟩) | (go_at_call 147;refine (Mt _ _ (by omega) (by omega)).mono ?_;rintro e w' ⟨rfl,rfl⟩) | (go_at_call 91;refine (wn _ _ (by omega) (by omega)).mono ?_;rintro e w' ⟨rfl,rfl⟩) | (go_at_call 136;refine (wo _ _ (by omega) (by omega)).mono ?_;rintro e w' ⟨rfl,rfl⟩))
  all_goals
   go_ret
   refine⟨qn ?_,rfl⟩
   go_light
   grind [wm]
 ·go_enter func107,ntmps107
  go_wp2_with (first | (go_at_call 63;refine (yx _ _ (by omega) (by omega)).mono ?_;rintro e w' ⟨rfl,rfl⟩))
  all_goals
   go_ret
   refine⟨qn ?_,rfl⟩
   go_light
   simp_all [wm]
theorem Mv (r:Int) (w:World) (h0 : -2147483648≤r) (h1:r≤2147483647) :
  Calls prog 158 #[.int .i32 r] w fun e w'=>e=.returned (.bool (decide (0x300≤r∧r≤0x36F)))∧w=w':=by
 go_enter func158,ntmps158
 go_wp2
 all_goals
  go_ret
  refine⟨qm ?_,rfl⟩
  (go_light;rw[dJ];simp only[decide_eq_true_eq,er,ne_eq,cN,decide_eq_false_iff_not,aR,dK,cd,cQ,bne_eq_false_iff_eq,beq_iff_eq,aS,bw,false_iff,true_iff,iff_true,iff_false,dm,eh,dU] at *;omega)
end
section
open Go.Shelf
theorem wq (r:Int) (w:World) (h0 : -2147483648≤r) (h1:r≤2147483647) :
  Calls prog 129 #[.int .i32 r] w fun e w'=>e=.returned (.int .i64 (kind r))∧w=w':=by
 go_enter func129,ntmps129
 go_wp2_with (first | (go_at_call 157;refine (Mr _ _ (by omega) (by omega)).mono ?_;rintro e w' ⟨rfl,rfl⟩) | (go_at_call 158;refine (Mv _ _ (by omega) (by omega)).mono ?_;rintro e w' ⟨rfl,rfl⟩))
 all_goals
  go_ret
  refine⟨qn ?_,rfl⟩
  go_light
  try simp only[decide_eq_true_eq,er,ne_eq,cN,decide_eq_false_iff_not,aR,dK,cd,cQ,bne_eq_false_iff_eq,beq_iff_eq,aS,bw,false_iff,true_iff,iff_true,iff_false,dm,eh,dU] at *
  grind [kind,uo]
def gN (b:Bool) (r:Int):Int:=if b then 11 else kind r
theorem Mw (i wd r:Int) (b:Bool) (w:World) (h0 : -2147483648≤r) (h1:r≤2147483647) :
  Calls prog 89 #[.agg #[.int .i64 i,.int .i64 wd,.int .i32 r,.bool b]] w fun e w'=>e=.returned (.int .i64 (gN b r))∧Below w.heap.size w w':=by
 cases b
 ·go_enter func89,ntmps89
  go_wp2_with (go_at_call 129;refine (wq _ _ (by omega) (by omega)).mono ?_;rintro e w' ⟨rfl,rfl⟩)
  go_ret
  exact⟨qn (by simp[gN]),(Below.refl _ _).alloc (bJ _) _⟩
 ·go_enter func89,ntmps89
  go_wp2_with (go_at_call 129;refine (wq _ _ (by omega) (by omega)).mono ?_;rintro e w' ⟨rfl,rfl⟩)
  go_ret
  exact⟨qn (by simp[gN]),(Below.refl _ _).alloc (bJ _) _⟩
end
section
open Go.Shelf

end
section
open Go.Shelf
def pC (r a b:Int):Bool:=decide (a≤r∧r≤b)
theorem wt (r a b:Int) (w:World) :
  Calls prog 111 #[.int .i32 r,.int .i32 a,.int .i32 b] w fun e w'=>e=.returned (.bool (pC r a b))∧w=w':=by
 go_enter func111,ntmps111
 go_wp2
 all_goals
  go_ret
  refine⟨qm ?_,rfl⟩
  (go_light;rw[dJ];simp only[pC,decide_eq_true_eq,er,ne_eq,cN,decide_eq_false_iff_not,aR,dK,cd,cQ,bne_eq_false_iff_eq,beq_iff_eq,aS,bw,false_iff,true_iff,iff_true,iff_false,dm,eh,dU] at *;omega)
theorem A3 (r:Int) (w:World) (h0 : -2147483648≤r) (h1:r≤2147483647) :
  Calls prog 101 #[.int .i32 r] w fun e w'=>e=.returned (.bool (great r))∧w=w':=by
 by_cases l:0≤r
 ·go_enter func101,ntmps101
  go_wp2_with (first | (go_at_call 111;refine (wt _ _ _ _).mono ?_;rintro e w' ⟨rfl,rfl⟩))
  all_goals
   go_ret
   refine⟨qm ?_,rfl⟩
   (go_light;rw[dJ,s3];simp only[pC,o8,decide_eq_true_eq,er,ne_eq,cN,decide_eq_false_iff_not,aR,dK,cd,cQ,bne_eq_false_iff_eq,beq_iff_eq,aS,bw,false_iff,true_iff,iff_true,iff_false,dm,eh,dU] at *;omega)
 ·have f:∀a b:Int,0≤a→pC r a b=false:=by intro a b n;simp[pC];omega
  have hm:great r=false:=by rw[rA];intro h;rw[s3] at h;unfold o8 at h;omega
  go_enter func101,ntmps101
  go_wp2_with (first | (go_at_call 111;refine (wt _ _ _ _).mono ?_;rintro e w' ⟨rfl,rfl⟩))
  all_goals
   go_ret
   refine⟨qm ?_,rfl⟩
   (go_light;rw[dJ,s3];simp only[pC,o8,decide_eq_true_eq,er,ne_eq,cN,decide_eq_false_iff_not,aR,dK,cd,cQ,bne_eq_false_iff_eq,beq_iff_eq,aS,bw,false_iff,true_iff,iff_true,iff_false,dm,eh,dU] at *;omega)
theorem FN (r:Int) (w:World) (h0 : -2147483648≤r) (h1:r≤2147483647) :
  Calls prog 57 #[.int .i32 r] w fun e w'=>e=.returned (.bool (ol r))∧w=w':=by
 by_cases l:0≤r
 ·go_enter func57,ntmps57
  go_wp2_with (first | (go_at_call 111;refine (wt _ _ _ _).mono ?_;rintro e w' ⟨rfl,rfl⟩))
  all_goals
   go_ret
   refine⟨qm ?_,rfl⟩
   (go_light;rw[dJ,uq];simp only[pC,qo,decide_eq_true_eq,er,ne_eq,cN,decide_eq_false_iff_not,aR,dK,cd,cQ,bne_eq_false_iff_eq,beq_iff_eq,aS,bw,false_iff,true_iff,iff_true,iff_false,dm,eh,dU] at *;omega)
 ·have f:∀a b:Int,0≤a→pC r a b=false:=by intro a b n;simp[pC];omega
  have hm:ol r=false:=by rw[rA];intro h;rw[uq] at h;unfold qo at h;omega
  go_enter func57,ntmps57
  go_wp2_with (first | (go_at_call 111;refine (wt _ _ _ _).mono ?_;rintro e w' ⟨rfl,rfl⟩))
  all_goals
   go_ret
   refine⟨qm ?_,rfl⟩
   (go_light;rw[dJ,uq];simp only[pC,qo,decide_eq_true_eq,er,ne_eq,cN,decide_eq_false_iff_not,aR,dK,cd,cQ,bne_eq_false_iff_eq,beq_iff_eq,aS,bw,false_iff,true_iff,iff_true,iff_false,dm,eh,dU] at *;omega)
set_option maxHeartbeats 1000000 in
theorem FO (r:Int) (w:World) (h0 : -2147483648≤r) (h1:r≤2147483647) :
  Calls prog 100 #[.int .i32 r] w fun e w'=>e=.returned (.int .i32 (ee r))∧w=w':=by
 by_cases hg:great r=true
 ·have hp:=(s3 r).1 hg
  have a:r≤2000∧0≤r:=by unfold o8 at hp;omega
  have l:=a.1;have h:=a.2;clear a
  have f:=Lib.hid hp;clear hp
  go_enter func100,ntmps100
  go_wp2_with (first | (go_at_call 101;refine (A3 _ _ (by omega) (by omega)).mono ?_;rintro e w' ⟨rfl,rfl⟩) | (go_at_call 111;refine (wt _ _ _ _).mono ?_;rintro e w' ⟨rfl,rfl⟩))
  all_goals
   go_ret
   refine⟨qn ?_,rfl⟩
   have hp:=f.out
   clear f
   go_light
   unfold o8 at hp
   grind [ee,pC]
 ·go_enter func100,ntmps100
  go_wp2_with (first | (go_at_call 101;refine (A3 _ _ (by omega) (by omega)).mono ?_;rintro e w' ⟨rfl,rfl⟩))
  all_goals
   go_ret
   refine⟨qn ?_,rfl⟩
   go_light
   simp_all [ee]
end
section
open Go.Shelf

end
def lV (s:ab) (k:Nat):Nat:=match (fe s.data.toList)[k]? with
 | some p=>p.i
 | none=>s.size
theorem Mx {s:ab} {k:Nat} {p:Pc} (h:(fe s.data.toList)[k]?=some p):lV s k=p.i:=by simp[lV,h]
theorem My (s:ab):lV s 0=0:=by
 unfold lV
 by_cases h:s.data.toList=[]
 ·have:s.size=0:=by have:=aL gi h;simpa using this
  simp[h,fe,qN,this]
 ·simp[fe,qO 0 _ h]
theorem Mz {s:ab} {k:Nat} {p:Pc} (h:(fe s.data.toList)[k]?=some p):lV s (k+1)=p.i+p.w∧mi p.i (s.data.toList.drop p.i)=p::(fe s.data.toList).drop (k+1):=by
 have hk:k<(fe s.data.toList).length:=(au.1 h).1
 have he:fe s.data.toList=(fe s.data.toList).take k++p::(fe s.data.toList).drop (k+1):=by
  have h1:=List.drop_eq_getElem_cons hk
  have h2:(fe s.data.toList)[k]=p:=(au.1 h).2
  rw[h2] at h1
  rw[← h1,dH]
 obtain⟨q1,q2,q,n⟩:=FH s.data.toList _ p _ he
 have f:s.data.toList.length=s.size:=by rw[dp];rfl
 refine⟨?_,q⟩
 unfold lV
 have l:(fe s.data.toList)[k+1]?=((fe s.data.toList).drop (k+1))[0]?:=by simp
 rw[l,n]
 by_cases a:s.data.toList.drop (p.i+p.w)=[]
 ·rw[a,qN]
  have h5:=aL gi a
  simp only[List.length_drop,bl,f] at h5
  obtain⟨_,r,_⟩:=sY s.data.toList p (aJ h)
  simp;omega
 ·rw[qO _ _ a];simp
section
variable {F:Fence} {P:Program} {w0:World} {K:Nat→Prop} {N:Nat} {dfs:List Deferred} {ops:Array Oper} {Q:Exit→Act→World→Prop} {rest:List Oper} {σ:List (Nat×Value)} {L:List Asn}
 {d:Nat} {t:TypeId} {ty:TypeId} {pos:String} {aft:Array Edge} {g:Option (Nat×Bool)} {x:Operand} {k:Nat} {s:ab}
theorem ur [br F] (ht:P.underlying t=some .string) (hg:gd ops σ g=some true) (hd:d<N) (hx:ev σ x=some (.string s))
  (h:∀b,TO F P w0 K N dfs ops Q rest ((d,.pointer (some ⟨b,0,none⟩))::σ) (L++[obj b (.stringIter s (lV s 0))])):TO F P w0 K N dfs ops Q (⟨some d,.range t x,ty,pos,aft,g⟩::rest) σ L :=
 nw hg (by simp) fun a w f l=>⟨.pointer (some ⟨w.heap.size,0,none⟩),w.alloc (.stringIter s 0),by simp[execOp,f.ev hx,Instr.range,run_underlying ht,ak],h _ _ _ (f.put hd _) (by rw[My];exact l.alloc _)⟩
theorem ut [br F] {n m:Nat} {p:Pc} (hg:gd ops σ g=some true) (hd:d<N) (hx:ev σ x=some (.pointer (some ⟨n,0,none⟩))) (hk:L[k]?=some (obj n (.stringIter s (lV s m)))) (hp:(fe s.data.toList)[m]?=some p)
  (h:TO F P w0 K N dfs ops Q rest ((d,.tuple #[.bool true,.int .i64 p.i,.int .i32 p.r])::σ) (L.set k (obj n (.stringIter s (lV s (m+1)))))):TO F P w0 K N dfs ops Q (⟨some d,.next x true,ty,pos,aft,g⟩::rest) σ L:=by
 refine nw hg (by simp) fun a w D u=>?_
 have hit:=u.obj hk
 rw[Mx hp] at hit
 obtain⟨h1,h2⟩:=Mz hp
 have l:=aJ hp
 obtain⟨J,I,_⟩:=sY s.data.toList p l
 have C:s.data.toList.length=s.size:=by rw[dp];rfl
 obtain⟨r,wd,G,e1,e2,H,U,T,E,S,O⟩:=JD P w n s p.i hit (by omega)
 rw[h2] at E
 have f:p=⟨p.i,wd,r⟩:=(List.cons.inj E).1
 have q:p.w=wd:=aL Pc.w f
 have hr:p.r=r:=aL Pc.r f
 obtain⟨C1,c1,c2⟩:=u.focus hk
 refine⟨.tuple #[.bool true,.int .i64 p.i,.int .i32 p.r],G,by rw[hr];simp[execOp,D.ev hx,e1,ak],h _ _ (D.put hd _) (c2 _ C1 G ⟨?_,fun j hj=>.inl hj⟩ ⟨c1.1,by rw[h1,q];exact H⟩)⟩
 exact e2.weaken (fun i _ hi=>by subst hi;exact (c1.1 _).2 rfl)
theorem uu [br F] {f m:Nat} (hg:gd ops σ g=some true) (hd:d<N) (hx:ev σ x=some (.pointer (some ⟨f,0,none⟩))) (hk:L[k]?=some (obj f (.stringIter s (lV s m)))) (hm:(fe s.data.toList).length≤m)
  (h:TO F P w0 K N dfs ops Q rest ((d,.tuple #[.bool false])::σ) L):TO F P w0 K N dfs ops Q (⟨some d,.next x true,ty,pos,aft,g⟩::rest) σ L:=by
 refine nw hg (by simp) fun a w n l=>?_
 have hit:=l.obj hk
 have e:lV s m=s.size:=by simp[lV,List.getElem?_eq_none hm]
 rw[e] at hit
 exact⟨_,w,by simp[execOp,n.ev hx,(JE P w f s s.size hit (by omega)).1,ak],h _ _ (n.put hd _) l⟩
end
section
open Go.Shelf
attribute [local go_sem] kg Df Dh Di
end
section
open Go.Shelf
attribute [local go_sem] kg
end
structure Rn where
 f:Nat
 t:Nat
 k:Int
 deriving DecidableEq
theorem uv (i wd r:Int) (b:Bool) (h0 : -2147483648≤r) (h1:r≤2147483647):dO prog 89 [.agg #[.int .i64 i,.int .i64 wd,.int .i32 r,.bool b]] (.int .i64 (gN b r)):=fun w=>Mw i wd r b w h0 h1
theorem MA {P:Program} {t:TypeId} {x y:Operand} {u:TypeDesc} {fn:Go.Fn} {a b:Array Value} (hu:P.underlying t=some u) (hf:(match u with | .func ..=>true | _=>false)=true) (w:World) :
  (do eqGuard .eql t x y (.func fn a b) .nilFunc;binOp .eql t (.func fn a b) .nilFunc:Sem Value).run P w=.ok (.bool false) w:=by
 cases u <;> simp at hf
 have h:∀d,(dL (d+1) t (.func fn a b) .nilFunc).run P w=.ok false w:=fun d=>by simp[dL,run_underlying hu]
 have h':(dL Op.maxDepth t (.func fn a b) .nilFunc).run P w=.ok false w:=h 9999
 simp[eqGuard,binOp,Op.equal,h']
def A4 {α:Type} (P:Program) (g:FuncId) (lb:Array Value) (enc:α→Array Value) (xs:List α) (M:Nat→Prop) (W0:World):Prop :=
 ∀ (l:Nat) (I X:List α→(Nat→Prop)→World→Prop) (C0 B0:Nat→Prop) (W:World),
  (∀k,M k→k<W0.heap.size∧W.heap[k]?=W0.heap[k]?∧¬ C0 k)→W0.heap.size≤W.heap.size→(∀k,C0 k→k<W.heap.size)→(∀k,B0 k↔C0 k∨M k) →
  nv I→nv X →
  (∀pre x post C W1,xs=pre++x::post→cF B0 C W W1→I pre C W1 →
   zy P l (enc x) W1 fun b W2=>∃C',cF C C' W1 W2∧((b=true∧I (pre++[x]) C' W2)∨(b=false∧X (pre++[x]) C' W2))) →
  I [] C0 W →
  Calls P g (#[.func (.yield l) #[] #[]]++lb) W fun e W'=>(∃v,e=.returned v) ∧
   ∃C',cF B0 C' W W'∧(I xs C' W'∨∃pre x post,xs=pre++x::post∧X (pre++[x]) C' W')
section
variable {P:Program}
theorem MB {α:Type} {gf:FuncId} {lb:Array Value} {enc:α→Array Value} {xs:List α} {M:Nat→Prop} {W0:World} (hY:A4 P gf lb enc xs M W0)
  {fn:FuncId} {tmps:Array Value} {ps:Array Tmp} {assign body:Code} {f:Nat} (a8:∀x,(enc x).size=ps.size)
  (I:List α→(Nat→Prop)→World→Prop) (X:Code→List α→(Nat→Prop)→World→Prop) (J:List α→α→Act→(Nat→Prop)→World→Prop)
  (hI:nv I) (hX:∀c,nv (X c)) (hJ:∀pre x a,nv (fun (_:Unit)=>J pre x a)) (C0 B0:Nat→Prop) (W:World) (l:Nat)
  (hl:W.heap[l]?=some (.loop { state:=.ready,pending:=none,fn,tmps,params:=ps,assign,body,defers:=f })) (bh:¬ C0 l) (bk:¬ B0 l)
  (hM:∀k,M k→k<W0.heap.size∧W.heap[k]?=W0.heap[k]?∧¬ C0 k) (hs:W0.heap.size≤W.heap.size) (b0:∀k,C0 k→k<W.heap.size) (hB:∀k,B0 k↔C0 k∨M k) (h0:I [] C0 W)
  (U:∀pre x post C D,xs=pre++x::post→cF (fun k=>B0 k∨k=l) (fun k=>C k∨k=l) W D→I pre C D→¬ C l→(∃r,D.heap[l]?=some (.loop r)∧r.defers=f) →
   assign.wpIn (Fence.wide.inRound l) 0 P (_root_.Go.Exit.then (fun a1 S=>∃C1,cF C C1 D S∧J pre x a1 C1 S) (fun _ _ _=>False))
    { tmps:=(ps.zip (enc x)).foldl (fun t (p,v)=>t.setIfInBounds p v) tmps,defers:=[] } D)
  (aw:∀pre x post C D a1,xs=pre++x::post→cF (fun k=>B0 k∨k=l) (fun k=>C k∨k=l) W D→J pre x a1 C D→¬ C l→(∃r,D.heap[l]?=some (.loop r)∧r.defers=f) →
   body.wpIn (Fence.wide.inRound l) 0 P (xH I X (pre++[x]) C D) a1 D) :
  Calls P gf (#[.func (.yield l) #[] #[]]++lb) W fun e W'=>(∃v,e=.returned v) ∧
   ∃C' st pe,cF (fun k=>B0 k∨k=l) (fun k=>C' k∨k=l) W W'∧¬ C' l∧W'.heap[l]?=some (.loop { state:=st,pending:=pe,fn,tmps,params:=ps,assign,body,defers:=f })∧st≠.busy ∧
    ((pe=none∧I xs C' W')∨∃c pre x post,pe=some c∧xs=pre++x::post∧X c (pre++[x]) C' W'):=by
 have bb:l<W.heap.size:=ki hl
 refine (hY l
  (fun pre Cc D=>∃C,Cc=(fun k=>C k∨k=l)∧¬ C l∧I pre C D∧D.heap[l]?=some (.loop { state:=.ready,pending:=none,fn,tmps,params:=ps,assign,body,defers:=f }))
  (fun pre Cc D=>∃C c,Cc=(fun k=>C k∨k=l)∧¬ C l∧X c pre C D∧D.heap[l]?=some (.loop { state:=.done,pending:=some c,fn,tmps,params:=ps,assign,body,defers:=f }))
  (fun k=>C0 k∨k=l) (fun k=>B0 k∨k=l) W (fun k hk=>⟨(hM k hk).1,(hM k hk).2.1,fun h=>h.elim (hM k hk).2.2 (fun e=>bk ((hB l).2 (.inr (e ▸ hk))))⟩) hs ?_ (fun k=>by rw[hB];exact or_right_comm) ?_ ?_ ?_ ?_).mono ?_
 ·rintro k (h | rfl)
  ·exact b0 k h
  ·exact bb
 ·rintro pre Cc D S ⟨C,rfl,T,hi,hr⟩ hsz hk
  exact⟨C,rfl,T,hI _ _ _ _ hi hsz (fun k h=>hk k (.inl h)),(hk l (.inr rfl)).trans hr⟩
 ·rintro pre Cc D S ⟨C,c,rfl,T,hi,hr⟩ hsz hk
  exact⟨C,c,rfl,T,hX c _ _ _ _ hi hsz (fun k h=>hk k (.inl h)),(hk l (.inr rfl)).trans hr⟩
 ·rintro pre x post Cc D V E ⟨C,rfl,T,hi,hr⟩
  have a6:l<D.heap.size:=ki hr
  have hy:=run_yield (P:=P) (args:=enc x) hr (a8 x)
  refine⟨fn,_,assign,body,hy,roundIn_of_wpIn (F:=bn) trivial (wpIn_mono (U pre x post C D V E hi T ⟨_,hr,rfl⟩) ?_)⟩
  clear hy
  rintro e a1 S hp
  cases e with
  | normal=>
   obtain⟨C1,Y,hj⟩:=hp
   have Z:¬ C1 l:=Y.not a6 T
   have a4:S.heap[l]?=_:=Y.1.at hr T
   have ao:l<S.heap.size:=ki a4
   refine⟨_,run_beginRound a4 rfl,?_⟩
   have a2:=gC (w:=S) (o:=.loop { state:=.busy,pending:=none,fn,tmps,params:=ps,assign,body,defers:=f }) ao
   have q:∀ (Cz:Nat→Prop) (Wz:World) (o:Obj),¬ Cz l→∀k,Cz k→(Wz.putObj l o).heap[k]?=Wz.heap[k]?:=fun Cz Wz o hz k hk=>dt (by rintro rfl;exact hz hk)
   have bs:=hJ pre x a1 () C1 S (S.putObj l (.loop { state:=.busy,pending:=none,fn,tmps,params:=ps,assign,body,defers:=f })) hj (by simp) (q C1 S _ Z)
   have a7:cF (fun k=>C k∨k=l) (fun k=>C1 k∨k=l) D (S.putObj l (.loop { state:=.busy,pending:=none,fn,tmps,params:=ps,assign,body,defers:=f })) :=
    ⟨(Y.1.weaken (fun _ _ h=>.inl h)).putObj (.inl (.inr rfl)) _,fun k hk=>by
     rcases hk with hk | rfl
     ·rcases Y.2 k hk with h' | h'
      ·exact .inl (.inl h')
      ·exact .inr (by simpa using h')
     ·exact .inl (.inr rfl)⟩
   refine wpIn_mono (aw pre x post C1 _ a1 V (E.trans a7) bs Z ⟨_,a2,rfl⟩) ?_
   have ag:∀ (n:Option Code) (C':Nat→Prop) (G:World),cF C1 C' (S.putObj l (.loop { state:=.busy,pending:=none,fn,tmps,params:=ps,assign,body,defers:=f })) G →
     ¬ C' l∧(Instr.endRound l n).run P G=.ok (.bool n.isNone) (G.putObj l (.loop { state:=if n.isNone then .ready else .done,pending:=n,fn,tmps,params:=ps,assign,body,defers:=f })) ∧
     (G.putObj l (.loop { state:=if n.isNone then .ready else .done,pending:=n,fn,tmps,params:=ps,assign,body,defers:=f })).heap[l]?=some (.loop { state:=if n.isNone then .ready else .done,pending:=n,fn,tmps,params:=ps,assign,body,defers:=f }) ∧
     cF (fun k=>C k∨k=l) (fun k=>C' k∨k=l) D (G.putObj l (.loop { state:=if n.isNone then .ready else .done,pending:=n,fn,tmps,params:=ps,assign,body,defers:=f })):=by
    intro n C' G u
    have a9:¬ C' l:=u.not (by simpa using ao) Z
    have a0:=u.1.at a2 Z
    have a5:l<G.heap.size:=ki a0
    refine⟨a9,run_endRound (P:=P) n a0,gC a5,a7.trans ⟨(u.1.weaken (fun _ _ h=>.inl h)).putObj (.inl (.inr rfl)) _,?_⟩⟩
    rintro k (hk | rfl)
    ·rcases u.2 k hk with h' | h'
     ·exact .inl (.inl h')
     ·exact .inr (by simpa using h')
    ·exact .inl (.inr rfl)
   rintro e a3 G O
   cases e with
   | normal=>
    obtain⟨C',u,H⟩:=O
    obtain⟨q1,q2,q3,q4⟩:=ag none C' G u
    exact⟨_,_,q2,true,rfl,_,q4,.inl ⟨rfl,C',rfl,q1,hI _ _ _ _ H (by simp) (q C' G _ q1),q3⟩⟩
   | ret=>
    obtain⟨C',u,H⟩:=O
    obtain⟨q1,q2,q3,q4⟩:=ag (some .ret) C' G u
    exact⟨_,_,q2,false,rfl,_,q4,.inr ⟨rfl,C',_,rfl,q1,hX _ _ _ _ _ H (by simp) (q C' G _ q1),q3⟩⟩
   | exit id=>
    obtain⟨C',u,H⟩:=O
    obtain⟨q1,q2,q3,q4⟩:=ag (some (.exit id)) C' G u
    exact⟨_,_,q2,false,rfl,_,q4,.inr ⟨rfl,C',_,rfl,q1,hX _ _ _ _ _ H (by simp) (q C' G _ q1),q3⟩⟩
   | goto t=>
    obtain⟨C',u,H⟩:=O
    obtain⟨q1,q2,q3,q4⟩:=ag (some (.goto t)) C' G u
    exact⟨_,_,q2,false,rfl,_,q4,.inr ⟨rfl,C',_,rfl,q1,hX _ _ _ _ _ H (by simp) (q C' G _ q1),q3⟩⟩
   | panic ch=>exact O.elim
   | outgrown=>exact O.elim
  | ret=>exact hp.elim
  | exit id=>exact hp.elim
  | goto t=>exact hp.elim
  | panic ch=>exact hp.elim
  | outgrown=>exact hp.elim
 ·exact⟨C0,rfl,bh,h0,hl⟩
 ·rintro e W' ⟨hv,C',E,⟨C,rfl,T,hi,hr⟩ | ⟨pre,x,post,V,C,c,rfl,T,hi,hr⟩⟩
  ·exact⟨hv,C,_,_,E,T,hr,by simp,.inl ⟨rfl,hi⟩⟩
  ·exact⟨hv,C,_,_,E,T,hr,by simp,.inr ⟨c,pre,x,post,rfl,V,hi⟩⟩
theorem MC {α:Type} {g:Operand} {ps:Array Tmp} {assign body:Code} {Q:Exit→Act→World→Prop} {a:Act} {w:World}
  {gf:FuncId} {lb:Array Value} (hg:a.eval g=.func (.func gf) #[] lb) (eg:∀args w,(callFunc gf args).run P w=.ok (.enter gf args) w)
  {enc:α→Array Value} {xs:List α} {M:Nat→Prop} {W0:World} (hY:A4 P gf lb enc xs M W0)
  (hs:W0.heap.size≤w.heap.size) (a2:∀x,(enc x).size=ps.size)
  (I:List α→(Nat→Prop)→World→Prop) (X:Code→List α→(Nat→Prop)→World→Prop) (J:List α→α→Act→(Nat→Prop)→World→Prop)
  (hI:nv I) (hX:∀c,nv (X c)) (hJ:∀pre x a,nv (fun (_:Unit)=>J pre x a)) (C0 E:Nat→Prop)
  (S:∀k,C0 k→k<w.heap.size) (hB:∀k,E k↔C0 k∨M k) (hM:∀k,M k→k<W0.heap.size∧w.heap[k]?=W0.heap[k]?∧¬ C0 k) (h0:I [] C0 w)
  (H:∀l pre x post C f,xs=pre++x::post→cF E C w f→I pre C f→¬ C l→w.heap.size≤l→(∃r,f.heap[l]?=some (.loop r)) →
   assign.wpIn (Fence.wide.inRound l) 0 P (_root_.Go.Exit.then (fun a1 q=>∃C1,cF C C1 f q∧J pre x a1 C1 q) (fun _ _ _=>False))
    { tmps:=(ps.zip (enc x)).foldl (fun t (p,v)=>t.setIfInBounds p v) a.tmps,defers:=[] } f)
  (Y:∀l pre x post C f a1,xs=pre++x::post→cF E C w f→J pre x a1 C f→¬ C l→w.heap.size≤l→(∃r,f.heap[l]?=some (.loop r)) →
   body.wpIn (Fence.wide.inRound l) 0 P (xH I X (pre++[x]) C f) a1 f)
  (V:∀ (d:Nat) (C:Nat→Prop) (W:World),cF E C w W→I xs C W→w.heap.size≤d→¬ C d→W.heap[d]?=some (.deferred (some []))→Q .normal { a with defers:={ target:=.collected d,args:=#[] }::a.defers } W)
  (U:∀ (d:Nat) (c:Code) (pre:List α) (x:α) (post:List α) (C:Nat→Prop) (W:World),xs=pre++x::post→cF E C w W→X c (pre++[x]) C W→w.heap.size≤d→¬ C d→W.heap[d]?=some (.deferred (some [])) →
   c.wpIn bn 0 P Q { a with defers:={ target:=.collected d,args:=#[] }::a.defers } W) :
  (Code.rangeFunc g ps assign body).wpIn bn 0 P Q a w:=by
 have Z:∀k,E k→k<w.heap.size:=fun k hk=>by
  rcases (hB k).1 hk with h | h
  ·exact S k h
  ·have:=(hM k h).1;omega
 refine wpIn_rangeFunc ?_
 intro fn hfn
 obtain⟨f,D⟩:∃f,(w.alloc (.deferred (some []))).alloc (.loop { state:=.ready,pending:=none,fn,tmps:=a.tmps,params:=ps,assign,body,defers:=w.heap.size })=f:=⟨_,rfl⟩
 have a3:f.heap[w.heap.size+1]?=some (.loop { state:=.ready,pending:=none,fn,tmps:=a.tmps,params:=ps,assign,body,defers:=w.heap.size }):=by
  rw[← D];have:=eK (w.alloc (.deferred (some []))) (.loop { state:=.ready,pending:=none,fn,tmps:=a.tmps,params:=ps,assign,body,defers:=w.heap.size });rwa [World.size_alloc] at this
 have a4:f.heap[w.heap.size]?=some (.deferred (some [])):=by
  rw[← D];exact (fI _ _ _ (by simp)).trans (eK w _)
 have a0:Fr E w f:=by rw[← D];exact ((Fr.refl E w).alloc _).alloc _
 have hsz:f.heap.size=w.heap.size+2:=by rw[← D];simp
 have T:∀k,k<w.heap.size→f.heap[k]?=w.heap[k]?:=fun k hk=>by rw[← D];exact (fI _ _ _ (by simp;omega)).trans (fI _ _ _ hk)
 have a5:I [] C0 f:=hI _ _ _ _ h0 a0.size (fun k hk=>T k (S k hk))
 have u:∀ {C:Nat→Prop} {q:World},cF (fun k=>E k∨k=w.heap.size+1) (fun k=>C k∨k=w.heap.size+1) f q→¬ C (w.heap.size+1)→cF E C w q∧¬ C w.heap.size∧q.heap[w.heap.size]?=some (.deferred (some [])):=by
  intro C q h O
  have hnd:¬ C w.heap.size:=fun hc=>by
   rcases h.2 _ (.inl hc) with (h' | h') | h'
   ·have:=Z _ h';omega
   ·omega
   ·omega
  refine⟨⟨a0.trans' h.1 (fun i hi hc=>hc.resolve_right (by omega)),fun k hk=>?_⟩,hnd,h.1.at a4 (fun hc=>?_)⟩
  ·have h2:=h.1.size
   rcases h.2 k (.inl hk) with (h' | h') | h'
   ·exact .inl h'
   ·exact absurd (h' ▸ hk) O
   ·exact .inr (by omega)
  ·rcases hc with hc | hc
   ·have:=Z _ hc;omega
   ·omega
 refine⟨w.heap.size+1,[{ target:=.collected w.heap.size,args:=#[] }],f,{ target:=.fn (.func gf) lb,args:=#[.func (.yield (w.heap.size+1)) #[] #[]] },f,gf,
  #[.func (.yield (w.heap.size+1)) #[] #[]]++lb,f,?_,?_,?_,?_,fun h=>by simp[bn] at h,callsIn_wide.2 ?_⟩
 ·rw[← D];exact run_enterLoop_outer _ _ _ _ _
 ·simp only[resolve,hg]
  simp[go_sem]
 ·intro f' a7;trivial
 ·simp[invoke,go_sem,eg]
 ·refine (MB hY a2 I X J hI hX hJ C0 E f (w.heap.size+1) a3 (fun h=>by have:=S _ h;omega) (fun h=>by have:=Z _ h;omega)
   (fun k hk=>⟨(hM k hk).1,(T k (by have:=(hM k hk).1;omega)).trans (hM k hk).2.1,(hM k hk).2.2⟩) (by omega) (fun k hk=>by have:=S k hk;omega) hB a5 ?_ ?_).mono ?_
  ·rintro pre x post C q G n hi O ⟨r,hr,_⟩
   exact H _ pre x post C q G (u n O).1 hi O (by omega) ⟨r,hr⟩
  ·rintro pre x post C q a1 G n hj O ⟨r,hr,_⟩
   exact Y _ pre x post C q a1 G (u n O).1 hj O (by omega) ⟨r,hr⟩
  ·rintro e q ⟨⟨v,rfl⟩,C',st,pe,n,O,hr,ag,h⟩
   obtain⟨q1,q2,q3⟩:=u n O
   have a6:w.heap.size+1<q.heap.size:=ki hr
   have e1:∀o,cF E C' w (q.putObj (w.heap.size+1) o):=fun o=>⟨q1.1.putObj (.inr (by omega)) _,fun k hk=>by have:=q1.2 k hk;simpa using this⟩
   have ao:∀o,∀k,C' k→(q.putObj (w.heap.size+1) o).heap[k]?=q.heap[k]?:=fun o k hk=>dt (by rintro rfl;exact O hk)
   have aw:∀o,(q.putObj (w.heap.size+1) o).heap[w.heap.size]?=some (.deferred (some [])):=fun o=>(dt (by omega)).trans q3
   rcases h with⟨rfl,hi⟩ | ⟨c,pre,x,post,rfl,G,hx⟩
   ·exact⟨none,_,run_endLoop (P:=P) hr ag,V _ C' _ (e1 _) (hI _ _ _ _ hi (by simp) (ao _)) (bJ _) q2 (aw _)⟩
   ·exact⟨some c,_,run_endLoop (P:=P) hr ag,U _ c pre x post C' _ G (e1 _) (hX _ _ _ _ _ hx (by simp) (ao _)) (bJ _) q2 (aw _)⟩
end
section
variable {F:Fence} {P:Program} {w0:World} {K:Nat→Prop} {N:Nat} {dfs:List Deferred} {ops:Array Oper} {Q:Exit→Act→World→Prop} {rest:List Oper} {σ σ':List (Nat×Value)} {L L' R R0 As Bs:List Asn} {o:Oper} {v:Value}
 {d:Nat} {t:TypeId} {op:Op} {ty:TypeId} {pos:String} {aft:Array Edge} {g:Option (Nat×Bool)} {x y z:Operand} {c c1 c2:Code} {k:Nat} {A B:Asn} {RO:List (Nat×Obj)} {RD RD0:List Asn}
def pD (P:Program) (gf:FuncId) (caps:List Value) {α:Type} (enc:α→List Value) (xs:List α) (As:List Asn):Prop :=
 ∀ (w:World) (M:Nat→Prop),aN As M w→A4 P gf caps.toArray (fun x=>(enc x).toArray) xs M w
theorem pD.intro {gf:FuncId} {fn:Func} {f:List Value} {α:Type} {enc:α→List Value} {xs:List α} (hf:P.funcs[gf]?=some fn) (hb:fn.body=some c) (hn:fn.ntmps=N) (hN:f.length+1≤N)
  (h:∀l w0 K (I X:List α→Asn),YC P l enc xs I X w0 K →
   TC bn P w0 K N [] (bodyPostM bn 0 P fn (FY xs I X w0 K)) c (qI (.func (.yield l) #[] #[]::f)) (I []::As)):pD P gf f enc xs As:=by
 subst hn
 intro w M O l I X C0 V W U hsz J hB H G hy h0
 have u:aN As M W:=O.loc hsz (fun k hk=>(U k hk).2.1)
 have:=h l W V (fun pre=>tH (I pre) (fun C W W'=>H pre C W W')) (fun pre=>tH (X pre) (fun C W W'=>G pre C W W')) (fun pre x post C W1 n he hi=>by
  obtain⟨f1,t1,a1,b1,E,D⟩:=hy pre x post C W1 n he hi.1
  refine⟨f1,t1,a1,b1,E,D.mono ?_⟩
  rintro e Y ⟨b,rfl,C',hx,hc⟩
  have q:∀k,C' k→k<Y.heap.size:=fun k hk=>by
   have:=hx.1.size
   rcases hx.2 k hk with h | h
   ·have:=hi.2 k h;omega
   ·exact h.2
  exact⟨b,rfl,C',hx,hc.imp (fun h=>⟨h.1,h.2,q⟩) (fun h=>⟨h.1,h.2,q⟩)⟩)
 have Z:(Value.func (.yield l) #[] #[]::f).toArray=#[.func (.yield l) #[] #[]]++f.toArray:=by simp
 rw[← Z]
 refine (tD hf hb (this _ W (tG _ (by simpa using hN)) ⟨V,⟨C0,M,⟨h0,J⟩,u,fun k a b=>(U k b).2.2 a,hB⟩,dY _ _⟩)).mono ?_
 rintro e w' ⟨he,r⟩
 refine⟨he,?_⟩
 rcases r with⟨C',r,hx⟩ | ⟨pre,x,post,n,C',r,hx⟩
 ·obtain⟨C1,C2,T,S,_,g4⟩:=r
  have:C'=C1:=funext fun k=>propext (by rw[g4];exact⟨fun h=>h.resolve_right (S k),.inl⟩)
  subst this
  exact⟨C',hx,.inl T.1⟩
 ·obtain⟨C1,C2,T,S,_,g4⟩:=r
  have:C'=C1:=funext fun k=>propext (by rw[g4];exact⟨fun h=>h.resolve_right (S k),.inl⟩)
  subst this
  exact⟨C',hx,.inr ⟨pre,x,post,n,T.1⟩⟩
section
variable {α β γ δ:Type}
theorem MD {gf:FuncId} {G:List Value} {enc:α→List Value} {xs:List α} {ps:List Nat} {assign body:Code} (bb:Ro w0 K RO)
  (hg:ev σ x=some (.func (.func gf) #[] G.toArray)) (a2:∀args w,(callFunc gf args).run P w=.ok (.enter gf args) w) (hY:pD P gf G enc xs As)
  (Inv:List α→β→Prop) (LI:List α→β→List Asn) (X:Code→List α→γ→Prop) (LX:Code→List α→γ→List Asn) (σJ:List α→α→β→δ→List (Nat×Value)) (LJ:List α→α→β→δ→List Asn) (b0:β)
  (h0:Inv [] b0) (Y:ap R0 (LI [] b0) R) (a5:ap L As R0) (a6:∀x,(enc x).length=ps.length) (a7:∀p∈ps,p<N)
  (E:∀l r pre e post b H O,xs=pre++e::post→cF K O w0 H→Ro H O (RO++[(l,.loop r)])→Inv pre b →
   TC (Fence.wide.inRound l) P H O N [] (_root_.Go.Exit.then (fun a w=>∃j,St H O N [] (σJ pre e b j) (LJ pre e b j) a w) (fun _ _ _=>False)) assign (vC ps (enc e) σ) (LI pre b))
  (ag:∀l r pre e post b j H O,xs=pre++e::post→cF K O w0 H→Ro H O (RO++[(l,.loop r)])→Inv pre b→TC (Fence.wide.inRound l) P H O N [] (RQ Inv LI X LX (pre++[e]) H O) body (σJ pre e b j) (LJ pre e b j))
  (Z:∀d b,Inv xs b→TX w0 K N ({ target:=.collected d,args:=#[] }::dfs) Q .normal σ (R++(LI xs b++[eZ d])))
  (V:∀d c pre e post b,xs=pre++e::post→X c (pre++[e]) b→TC bn P w0 K N ({ target:=.collected d,args:=#[] }::dfs) Q c σ (R++(LX c (pre++[e]) b++[eZ d]))) :
  TC bn P w0 K N dfs Q (.rangeFunc x ps.toArray assign body) σ L:=by
 intro a w U hw
 obtain⟨B1,C2,⟨M,C1,a3,g1,a8,bk⟩,g2,g3,gx,D⟩:=hw.split2 (a5.consS Y)
 have a0:=g1.lt
 have aw:=aN.lt (L:=As) a3
 have S:∀ {C:Nat→Prop} {W:World},cF K C w0 W→Ro W C RO:=fun {C W} hx p hp=>by
  obtain⟨h1,h2⟩:=bb p hp
  refine⟨hx.1.at h1 h2,fun h=>?_⟩
  rcases hx.2 _ h with h | h
  ·exact h2 h
  ·have:=ki h1;omega
 refine MC (gf:=gf) (lb:=G.toArray) (U.ev hg) a2 (hY w M a3) (bJ _) (fun e=>by simp[a6])
  (fun pre C W=>∃b,Inv pre b∧aN (LI pre b) C W) (fun c pre C W=>∃b,X c pre b∧aN (LX c pre b) C W)
  (fun pre e a1 C W=>∃b j,Inv pre b∧At N [] (σJ pre e b j) a1∧aN (LJ pre e b j) C W) ?_ ?_ ?_ C1 B1 a0 (fun k=>by rw[bk];exact or_comm) (fun k hk=>⟨aw k hk,rfl,a8 k hk⟩) ⟨b0,h0,g1⟩ ?_ ?_ ?_ ?_
 ·rintro pre C W W' ⟨b,h1,h2⟩ Y hk;exact⟨b,h1,h2.loc Y hk⟩
 ·rintro c pre C W W' ⟨b,h1,h2⟩ Y hk;exact⟨b,h1,h2.loc Y hk⟩
 ·rintro pre e a1 _ C W W' ⟨b,j,h1,h2,J⟩ Y hk;exact⟨b,j,h1,h2,J.loc Y hk⟩
 ·rintro l pre e post C W1 q f ⟨b,T,hi⟩ hn hl ⟨r,hr⟩
  have u:cF K C w0 W1:=gx.trans f
  refine wpIn_mono (E l r pre e post b W1 C q u ((S u).snoc hr hn) T _ W1 (U.zip ps (enc e) a7) ⟨C,hi,dY _ _⟩) ?_
  rintro ex a' w' I
  cases ex with
  | normal=>
   obtain⟨j,hj,C',bh,a4⟩:=I
   exact⟨C',a4,b,j,T,hj,bh⟩
  | _=>exact I
 ·rintro l pre e post C W1 a1 q f ⟨b,j,T,a9,hi⟩ hn hl ⟨r,hr⟩
  have u:cF K C w0 W1:=gx.trans f
  refine wpIn_mono (ag l r pre e post b j W1 C q u ((S u).snoc hr hn) T a1 W1 a9 ⟨C,hi,dY _ _⟩) ?_
  rintro ex a' w' I
  cases ex with
  | normal=>obtain⟨b',h1,C',h2,J⟩:=I;exact⟨C',J,b',h1,h2⟩
  | ret=>obtain⟨b',h1,C',h2,J⟩:=I;exact⟨C',J,b',h1,h2⟩
  | exit id=>obtain⟨b',h1,C',h2,J⟩:=I;exact⟨C',J,b',h1,h2⟩
  | goto id=>obtain⟨b',h1,C',h2,J⟩:=I;exact⟨C',J,b',h1,h2⟩
  | panic _=>exact I
  | outgrown=>exact I
 ·rintro d C W f ⟨b,T,hi⟩ hd ao n
  refine Z d b T _ W ⟨U.1,by rw[← U.2.1],U.2.2⟩ (D _ (fun k=>C k∨k=d) W ⟨f.1,fun k hk=>?_⟩ ?_)
  ·rcases hk with hk | rfl
   ·exact f.2 k hk
   ·exact .inr ⟨hd,ki n⟩
  ·exact hi.append (jE ⟨fun k=>_root_.Iff.rfl,n⟩) (fun k hk e=>ao (e ▸ hk))
 ·rintro d c pre e post C W q f ⟨b,T,hi⟩ hd ao n
  refine V d c pre e post b q T _ W ⟨U.1,by rw[← U.2.1],U.2.2⟩ (D _ (fun k=>C k∨k=d) W ⟨f.1,fun k hk=>?_⟩ ?_)
  ·rcases hk with hk | rfl
   ·exact f.2 k hk
   ·exact .inr ⟨hd,ki n⟩
  ·exact hi.append (jE ⟨fun k=>_root_.Iff.rfl,n⟩) (fun k hk e=>ao (e ▸ hk))
end
end
end Go.Proofs.YtifpjbgnikjglaaGreatDoor

namespace Go.Proofs
open Go.Shelf
def ME:Go.Shelf.Ren:=⟨fun | 106=>46 | 213=>94 | 265=>137 | n=>n,fun | 9=>9 | 3=>3 | n=>n,fun | n=>n⟩
theorem MF:Go.Proofs.Lays.n106 Tryz.prog ME:={
 mixed:=by kernel_rfl
 f106:=Tryz.func46.trans (congrArg some (by kernel_rfl))
 f213:=Tryz.func94.trans (congrArg some (by kernel_rfl))
 f265:=Tryz.func137.trans (congrArg some (by kernel_rfl))
 t3:=Tryz.underlying3
 a3:=Tryz.isAgg3
 z3:=Tryz.sizeOf3
 v3:=Tryz.zeroValue3
 t9:=Tryz.underlying9
 a9:=Tryz.isAgg9
 z9:=Tryz.sizeOf9
 v9:=Tryz.zeroValue9 }
open Go.RowKit in
theorem Tryz.strings_Compare (a b:ByteArray) (w:World) :
  Calls Tryz.prog 46 #[.string a,.string b] w fun e w'=>e=.returned (.int .i64 (Lib.compareBytes a.data.toList b.data.toList))∧w'=w:=Any.strings_Compare MF a b w
def MG:Go.Shelf.Ren:=⟨fun | 143=>120 | 219=>153 | 217=>167 | 225=>168 | 224=>169 | 267=>170 | 266=>175 | 314=>176 | n=>n,fun | 9=>9 | 3=>3 | 4=>4 | 5=>5 | 46=>101 | 146=>202 | 51=>201 | n=>n,fun | 1=>0 | n=>n⟩
theorem MH:Go.Proofs.Lays.n143 Tryz.prog MG:={
 mixed:=by kernel_rfl
 f143:=Tryz.func120.trans (congrArg some (by kernel_rfl))
 f217:=Tryz.func167.trans (congrArg some (by kernel_rfl))
 f219:=Tryz.func153.trans (congrArg some (by kernel_rfl))
 f224:=Tryz.func169.trans (congrArg some (by kernel_rfl))
 f225:=Tryz.func168.trans (congrArg some (by kernel_rfl))
 f266:=Tryz.func175.trans (congrArg some (by kernel_rfl))
 f267:=Tryz.func170.trans (congrArg some (by kernel_rfl))
 f314:=Tryz.func176.trans (congrArg some (by kernel_rfl))
 t3:=Tryz.underlying3
 a3:=Tryz.isAgg3
 z3:=Tryz.sizeOf3
 v3:=Tryz.zeroValue3
 t4:=Tryz.underlying4
 a4:=Tryz.isAgg4
 z4:=Tryz.sizeOf4
 v4:=Tryz.zeroValue4
 t5:=Tryz.underlying5
 a5:=Tryz.isAgg5
 z5:=Tryz.sizeOf5
 v5:=Tryz.zeroValue5
 t9:=Tryz.underlying9
 a9:=Tryz.isAgg9
 z9:=Tryz.sizeOf9
 v9:=Tryz.zeroValue9
 t46:=Tryz.underlying101
 a46:=Tryz.isAgg101
 z46:=Tryz.sizeOf101
 v46:=Tryz.zeroValue101
 t51:=Tryz.underlying201
 a51:=Tryz.isAgg201
 z51:=Tryz.sizeOf201
 v51:=Tryz.zeroValue201
 t146:=Tryz.underlying202
 a146:=Tryz.isAgg202
 z146:=Tryz.sizeOf202
 v146:=Tryz.zeroValue202
 g1:=by kernel_rfl }
open Go.RowKit Go.Lib in
theorem Tryz.strings_Index_one (s:ByteArray) (c:UInt8) (w:World) :
  Calls Tryz.prog 120 #[.string s,.string ⟨#[c]⟩] w fun e w'=>e=.returned (.int .i64 (Lib.indexByte s.data.toList c))∧w'=w:=Any.strings_Index_one MH s c w
end Go.Proofs

namespace Go.Proofs.YtifpjbgnikjglaaGreatDoor
open Go.RowKit Go.Lib
open Tryz
set_option linter.unusedVariables false
set_option linter.unusedSimpArgs false
open _root_.Array renaming getElem?_modify→jl
open _root_.Go.Builtin renaming unsafeSliceData_→fF,unsafeString_→iZ
open _root_.Go.Extern.AbiNoEscape renaming same→sE
open _root_.Go.Fence renaming wide→bn
open _root_.Go.Lib renaming hid→lG,run_unsafeString_none→nK,run_unsafeSliceData_row→na
open _root_.Go.Oper renaming semAt_some→kg,upon_value→mC
open cF renaming refl→dY,setCell→my
open Hd renaming nil→ew
open aN renaming one1→aI
open _root_.Go.Result renaming andThen→jV
open _root_.Go.World renaming shape?→l7,setCell→lq
open _root_.List renaming mem_singleton→cB
open _root_.Option.some renaming inj→mA
open _root_.Prod renaming snd→eV
section
open Go.Shelf
theorem FP {P:Program} {f:FuncId} {vs:List Value} {v:Value} (h:∀w,Calls P f vs.toArray w fun e w'=>e=.returned v∧w'=w):dO P f vs v:=fun w=>(h w).mono fun e w' ⟨h1,h2⟩=>⟨h1,h2 ▸ Below.refl _ _⟩
theorem MI (s:ab) {a:ab} (h:a=⟨#[10]⟩):dO prog 120 [.string s,.string a] (.int .i64 (Lib.indexByte s.data.toList 10)):=by
 subst h
 exact FP fun w=>Tryz.strings_Index_one s 10 w
theorem A5 (a b:ab):dO prog 46 [.string a,.string b] (.int .i64 (Lib.compareBytes a.data.toList b.data.toList)):=FP fun w=>Tryz.strings_Compare a b w
end
def zse (w0:World) (K:Nat→Prop):Asn :=
  ⟨fun C w=>(∀k,C k↔K k)∧(∀k,K k→k<w0.heap.size)∧w0.heap.size≤w.heap.size∧∀k,K k→w.heap[k]?=w0.heap[k]?,
   fun h k hk=>Nat.lt_of_lt_of_le (h.2.1 k ((h.1 k).1 hk)) h.2.2.1,
   fun h hs hk=>⟨h.1,h.2.1,Nat.le_trans h.2.2.1 hs,fun k hK=>(hk k ((h.1 k).2 hK)).trans (h.2.2.2 k hK)⟩⟩
def wu (P:Program) (f:FuncId) (vs:List Value) (RD:List Asn) {β:Type} (V:β→Value) (RB:β→List Asn):Prop :=
 ∀w C,(∀k,C k→k<w.heap.size)→Rd w C RD→Calls P f vs.toArray w fun e w'=>∃x:β,e=.returned (V x)∧Below w.heap.size w w'∧Rd w' C (RB x)
def FD (P:Program) {β:Type} (V:β→Value) (RB:β→List Asn) (w0:World) (K:Nat→Prop) (e:Ending) (w:World):Prop:=∃x:β,e=.returned (V x)∧Below w0.heap.size w0 w∧Rd w K (RB x)
section
variable {F:Fence} {P:Program} {w0:World} {K:Nat→Prop} {N:Nat} {dfs:List Deferred} {ops:Array Oper} {Q:Exit→Act→World→Prop} {rest:List Oper} {σ σ':List (Nat×Value)} {L L' R As Bs:List Asn} {o:Oper} {v:Value}
 {d:Nat} {t:TypeId} {op:Op} {ty:TypeId} {pos:String} {aft:Array Edge} {g:Option (Nat×Bool)} {x y z:Operand} {c c1 c2:Code} {k:Nat} {A B:Asn} {RD RD0:List Asn} {e:TypeId} {ex:Exit}
theorem wu.intro {f:FuncId} {fn:Func} {vs:List Value} {β:Type} {V:β→Value} {a:β→List Asn} (hf:P.funcs[f]?=some fn) (i:fn.body=some c) (b:fn.ntmps=N) (l:vs.length≤N)
  (h:∀w0 K,Rd w0 K RD→TC bn P w0 K N [] (bodyPostM bn 0 P fn (FD P V a w0 K)) c (qI vs) [zse w0 K]):wu P f vs RD V a:=by
 subst b
 intro w C m j
 exact (tD hf i (h w C j _ w (tG vs l) ⟨C,aN.one ⟨fun k=>Iff.rfl,m,Nat.le_refl _,fun k _=>rfl⟩,dY _ _⟩)).mono fun e w' h=>h
theorem FQ {fn:Func} {rs:List ResultVar} {vs:List Value} {β:Type} {V:β→Value} {n:β→List Asn} {e:Exit} (b:β) (j:Rd w0 K RD) (he:e=.ret∨e=.normal) (i:fn.results=rs.toArray) (f:iD P σ L rs vs) (hv:rF vs=V b)
  (r:ap L (zse w0 K::As) R) (hB:∀C w,aN As C w→(∀k,C k→¬ K k)→Rd w K RD→Rd w K (n b)):TX w0 K N [] (bodyPostM F 0 P fn (FD P V n w0 K)) e σ L:=by
 intro a w q p
 have h1:=vB i f q p
 have h2:LeavesInM F 0 P fn a.tmps (FD P V n w0 K) a.defers .returning w:=by
  rw[q.2.1]
  refine⟨rF vs,h1,b,by rw[hv],?_⟩
  obtain⟨C,hL,hx⟩:=p
  obtain⟨C1,C2,⟨I,G,m,E,u,g4⟩,_,H,s⟩:=r C w hL
  have l:∀k,K k→C k:=fun k hk=>(s k).2 (.inl ((g4 k).2 (.inl ((m.1 k).2 hk))))
  refine⟨⟨hx.1.os,hx.1.tape,hx.1.output,hx.1.size,fun k hk=>?_⟩,hB G w E (fun k a b=>u k ((m.1 k).2 b) a) fun A hA=>?_⟩
  ·by_cases h:K k
   ·exact m.2.2.2 k h
   ·exact hx.1.keep k hk h
  ·obtain⟨D,d1,d2⟩:=j.ext hx A hA
   exact⟨D,d1,fun k hk h=>d2 k hk (l k h)⟩
 rcases he with rfl | rfl <;> exact h2
theorem FSz {b:World} {f:Nat→Prop} (hx:cF K f w0 b) (h:TX w0 K N dfs Q ex σ L):TX b f N dfs Q ex σ L:=fun a w i ⟨C,j,h1⟩=>h a w i ⟨C,j,hx.trans h1⟩
theorem MJ [br F] {xs:List Operand} {m:Array TypeId} {f:FuncId} {first cap:Array Value} {vs i:List Value} {β:Type} {V:β→Value} {H:β→List Asn} (D:Rd w0 K RD0)
  (hg:gd ops σ g=some true) (hd:d<N) (hx:ev σ x=some (.func (.func f) first cap)) (u:evL σ xs=some vs) (hv:first.toList++vs++cap.toList=i)
  (p:∀args w,(callFunc f args).run P w=.ok (.enter f args) w) (M:wu P f i RD V H) (J:od [] RD0 RD)
  (h:∀b s E,cF K E w0 s→Rd s E (RD0++H b)→TO F P s E N dfs ops Q rest ((d,V b)::σ) L) :
  TO F P w0 K N dfs ops Q (⟨some d,.call { callee:=.value x,args:=xs.toArray,argTypes:=m },ty,pos,aft,g⟩::rest) σ L:=by
 intro a w r I
 simp only[wpListIn,sF (o:=⟨some d,.call { callee:=.value x,args:=xs.toArray,argTypes:=m },ty,pos,aft,g⟩) r hg,if_true]
 refine⟨fun f _=>br.fn f,?_⟩
 have h1:(execOp a.eval ⟨some d,.call { callee:=.value x,args:=xs.toArray,argTypes:=m },ty,pos,aft,g⟩).run P w=.ok (.enter f i.toArray) w:=by
  have e:first++vs.toArray++cap=i.toArray:=by rw[← hv];simp
  simp only[execOp,resolve,List.map_toArray,r.evL u,r.ev hx,Deferred.ofValue,Sem.run_bind,Sem.run_pure,Result.andThen_ok,invoke,e,p]
 rw[Oper.semAt_plain F _ _ (by simp),h1]
 refine⟨(fun h=>by rw[br.depth (F:=F)] at h;cases h),?_⟩
 obtain⟨C,hL,n⟩:=I
 have j:Rd w C RD0:=D.ext n
 have q:Rd w C RD:=J.rd (w0:=w0) (K:=K) (C2:=fun _=>False) (fun _ h=>h) (fun _ _ h=>h) j
 refine br.calls ((M w C hL.lt q).mono ?_)
 rintro e w' ⟨b,rfl,G,hB⟩
 have l:cF C C w w':=Do G
 exact h b w' C (n.trans l) ((j.ext l).append hB) _ _ (r.put hd _) ⟨C,hL.loc l.1.size (fun k hk=>G.block k (hL.lt k hk)),dY _ _⟩
theorem MK (n:ap L As R) (q:∀C w,aN As C w→B.P C w) (i:Rd w0 K RD0) (h:∀f j,cF K j w0 f→Rd f j (RD0++[B])→TO F P f j N dfs ops Q rest σ R):TO F P w0 K N dfs ops Q rest σ L:=by
 intro a w p m
 obtain⟨C,hL,hx⟩:=m
 obtain⟨C1,C2,u,s,r,g4⟩:=n C w hL
 have b:cF K C2 w0 w:=hx.sub fun k hk=>(g4 k).2 (.inr hk)
 refine h w C2 b ((i.ext b).append fun X l=>?_) a w p ⟨C2,s,dY _ _⟩
 rw[cB] at l
 subst l
 exact⟨C1,q C1 w u,r⟩
theorem Rd.up0 {α:Type} {enc:α→List Value} {size m:Nat} {vv:Value} {xs:List α} {i:Nat} (hr:Rd w0 K RD) (hi:RD[i]?=some (ji enc size vv 0 xs)):Rd w0 K (RD++[ji enc size vv m xs]):=by
 have:=hr.up (m:=m) hi
 rwa [Nat.zero_add] at this
theorem Vw.head {α:Type} {L xs:List α} {size k:Nat} {vv v:Value} (h:Vw vv L size k v xs):∃hd:Hd,v=hd.v:=by
 obtain⟨_,_,q,c,rfl,_⟩:=h
 exact⟨⟨q,xs.length,c⟩,rfl⟩
theorem FU {α:Type} {enc:α→List Value} {size k:Nat} {e:TypeId} {vv:Value} {L xs:List α} {hd:Hd} (hz:∀x,(enc x).length=size) (hV:Vw vv L size k hd.v xs):oY (vec enc e size vv L) (mo enc size hd xs):=fun C w h=>JX hV (JV hz h)
def rV (kd:Nat) (hd:Hd) (xs:List ab):Asn:=if kd=2 then cn else mo gR 1 hd xs
def oA (kd:Nat) (hd:Hd) (xs:List ab) (L:nA):Prop:=(kd=0→hd=ew∧xs=[])∧(kd=2→(xs,hd)∈L.map eV)
theorem oA.own {hd:Hd} {xs:List ab} {L:nA}:oA 1 hd xs L:=⟨fun h=>(nomatch h),fun h=>(nomatch h)⟩
theorem oA.nil {L:nA}:oA 0 ew [] L:=⟨fun _=>⟨rfl,rfl⟩,fun h=>(nomatch h)⟩
theorem oA.map {hd:Hd} {xs:List ab} {L:nA} (h:(xs,hd)∈L.map eV):oA 2 hd xs L:=⟨fun h=>(nomatch h),fun _=>h⟩
theorem ML {e:TypeId} {hd:Hd} {xs:List ab}:oY (vec gR e 1 hd.v xs) (rV 1 hd xs):=fun C w h=>(show (mo gR 1 hd xs).P C w from Ac ga h)
theorem MM {hd:Hd} {xs:List ab}:oY cn (rV 2 hd xs):=fun C w h=>h
theorem MN (e:TypeId):oY (vec gR e 1 (.slice none 0 0) []) (rV 0 ew []):=fun C w h=>(show (mo gR 1 ew []).P C w from Ac (hd:=ew) ga h)
theorem MO {b:Nat} {hd:Hd} {xs:List ab} {M:nA} {i:Nat} (hx:oA b hd xs M) (hi:RD[i]?=some (qb M)):∀C w,aN [rV b hd xs] C w→(∀k,C k→¬ K k)→Rd w K RD→Rd w K [mo gR 1 hd xs]:=fun C w h l j=>by
 by_cases hk:b=2
 ·obtain⟨D,m,f⟩:=j _ (List.mem_of_getElem? hi)
  intro B hB
  rw[cB] at hB
  subst hB
  obtain⟨E,e1,e2⟩:=m.2 _ (hx.2 hk) _ (cB.2 rfl)
  exact⟨E,e1,fun k a=>f k (e2 k a)⟩
 ·have h1:=aI.1 h
  unfold rV at h1
  rw[ar hk] at h1
  intro B hB
  rw[cB] at hB
  subst hB
  exact⟨C,h1,l⟩
theorem MP {e:TypeId} {hd:Hd} {xs:List ab}:∀C w,aN [vec gR e 1 hd.v xs] C w→(∀k,C k→¬ K k)→Rd w K RD→Rd w K [mo gR 1 hd xs]:=fun C w h a b=>by
 intro B hB
 rw[cB] at hB
 subst hB
 exact⟨C,Ac ga (aI.1 h),a⟩
theorem MQ [br F] {kk:ab} {M:nA} {l:List (ab×List ab)} {i b:Nat} {mt m p:TypeId} (u:nB M=l) (r:P.underlying m=some .string) (ht:P.underlying mt=some (.map m p)) (j:(P.info? p).bind (fun i=>i.zero)=some (.slice none 0 0)) (hg:gd ops σ g=some true) (hd:d<N) (hx:ev σ x=some (.map (some b))) (hy:ev σ y=some (.string kk))
  (hr:Rd w0 K RD) (hi:RD[i]?=some (qQ b M))
  (h:∀hd:Hd,(∀xs,zbL kk l=some xs→(xs,hd)∈M.map eV)→TO F P w0 K N dfs ops Q rest ((d,.tuple #[hd.v,.bool (zbL kk l).isSome])::σ) L) :
  TO F P w0 K N dfs ops Q (⟨some d,.lookup mt x y true,ty,pos,aft,g⟩::rest) σ L:=by
 subst u
 have s:((zbL kk M).getD ([],ew)).2.v=pu ((zbL kk M).getD ([],ew)):=rfl
 refine yc (k:=i) (M:=M) (z0:=([],ew)) (ev':=pu) (mn r) ht j hg hd hx hy hr hi ?_
 have h1:=h ((zbL kk M).getD ([],ew)).2 (fun xs a=>by
  rw[vX] at a
  cases f:zbL kk M with
  | none=>rw[f] at a;cases a
  | some q=>
   rw[f] at a
   have:q.1=xs:=mA a
   subst this
   exact Ad kk q M f)
 rw[vX,s] at h1
 cases n:zbL kk M with
 | none=>rw[n] at h1;exact h1
 | some q=>rw[n] at h1;exact h1
end

section
open Go.Shelf
attribute [local go_sem] kg
theorem MR:(prog.info? 5).map (fun i=>(i.zero,i.size,i.bytes))=some (some (.int .u8 0),1,1):=by kernel_rfl
theorem FV:∃j,prog.info? 68=some j∧j.size≠0:=by
 have h:(prog.info? 68).map (fun j=>decide (j.size≠0))=some true:=by kernel_rfl
 cases hj:prog.info? 68 with
 | none=>rw[hj] at h;simp at h
 | some j=>rw[hj] at h;exact⟨j,rfl,by simpa using h⟩
theorem MS (b:Nat) (v:Value) (w:World) (h:w.heap[b]?=some (.cells #[.pointer none,v] 68 (0,0))) :
  Calls prog 73 #[.pointer (some ⟨b,0,none⟩)] w fun e w'=>e=.returned (.tuple #[])∧w'=w.setCell ⟨b,0,none⟩ (.pointer (some ⟨b,0,none⟩)):=by
 have c0:w.cell? ⟨b,0,none⟩=some (.pointer none):=nN h rfl
 have f0:=Dm h 0
 have a:w.shape? b=some (68,2):=by simp[l7,h]
 obtain⟨j,hj,f⟩:=FV
 clear h
 go_enter func73,ntmps73
 go_wp2
 rw[Lib.run_to_unsafe w ⟨b,0,none⟩ (t:=68) kr kr hj f a (Nat.zero_lt_succ 1)]
 simp only[jV]
 rw[mC]
 go_wp2
 rw[run_callFunc_extern func127 kr kr kr (e:=sE) kr]
 rw[Lib.run_noEscape]
 simp only[jV]
 rw[mC]
 go_wp2
 rw[Lib.run_from_unsafe w ⟨b,0,none⟩ (u:=68) kr kr hj a kr]
 simp only[jV]
 rw[mC]
 go_wp2
 go_end0
 exact⟨rfl,rfl⟩
theorem MT (b:Nat) (v:Value) (w:World) (h:w.heap[b]?=some (.cells #[.pointer (some ⟨b,0,none⟩),v] 68 (0,0))) :
  Calls prog 73 #[.pointer (some ⟨b,0,none⟩)] w fun e w'=>e=.returned (.tuple #[])∧w'=w:=by
 have c0:w.cell? ⟨b,0,none⟩=some (.pointer (some ⟨b,0,none⟩)):=nN h rfl
 obtain⟨j,hj,a⟩:=FV
 clear h
 go_enter func73,ntmps73
 go_wp2
 rw[Lib.run_neq_ptr_same w _ (te:=68) kr hj]
 go_wp2
 go_end0
 exact⟨rfl,rfl⟩
def qW (b:Nat) (bs:ab) (C:Nat→Prop) (w:World):Prop :=
 ∃p v D,w.heap[b]?=some (.cells #[p,v] 68 (0,0))∧(p=.pointer none∨p=.pointer (some ⟨b,0,none⟩))∧jY 5 v bs D w∧¬ D b∧C=(fun k=>k=b∨D k)
theorem qW.local {b:Nat} {bs:ab} {C:Nat→Prop} {w w':World} (h:qW b bs C w) (hk:∀k,C k→w'.heap[k]?=w.heap[k]?):qW b bs C w':=by
 obtain⟨p,v,D,h1,h2,f,a,rfl⟩:=h
 exact⟨p,v,D,(hk b (.inl rfl)).trans h1,h2,f.local (fun k h=>hk k (.inr h)),a,rfl⟩
theorem qW.lt {b:Nat} {bs:ab} {C:Nat→Prop} {w:World} (h:qW b bs C w):∀k,C k→k<w.heap.size:=by
 obtain⟨p,v,D,h1,h2,a,f,rfl⟩:=h
 rintro k (rfl | hk)
 ·exact ki h1
 ·exact a.lt k hk
theorem MU (b:Nat) (bs s:ab) (C:Nat→Prop) (w:World) (h:qW b bs C w) (hn:bs.size+s.size≤140737488355328) :
  Calls prog 32 #[.pointer (some ⟨b,0,none⟩),.string s] w fun e w'=>(∃u,e=.returned u)∧∃C',qW b (bs++s) C' w'∧cF C C' w w':=by
 obtain⟨p,v,D,f,hp,j,r,rfl⟩:=h
 obtain⟨ip,Y,W,X,Z⟩:=info_parts MR
 obtain⟨n,ag,E,O,J⟩:∃n,(Calls prog 73 #[.pointer (some ⟨b,0,none⟩)] w fun e w'=>e=.returned (.tuple #[])∧w'=n) ∧
   n.heap[b]?=some (.cells #[.pointer (some ⟨b,0,none⟩),v] 68 (0,0))∧jY 5 v bs D n∧cF (fun k=>k=b∨D k) (fun k=>k=b∨D k) w n:=by
  rcases hp with rfl | rfl
  ·have hx:cF (fun k=>k=b) (fun k=>k=b) w (w.setCell ⟨b,0,none⟩ (.pointer (some ⟨b,0,none⟩))):=my (C':=fun k=>k=b) (dY _ _) (p:=⟨b,0,none⟩) rfl _
   refine⟨_,MS b v w f,?_,j.ext hx (by rintro k hk rfl;exact r hk),my (C':=fun k=>k=b∨D k) (dY _ _) (p:=⟨b,0,none⟩) (.inl rfl) _⟩
   simp[lq,jl,f]
  ·exact⟨w,MT b v w f,f,j,dY _ _⟩
 have c1:n.cell? ⟨b,1,none⟩=some v:=nN E rfl
 have M:b<n.heap.size:=ki E
 have a4:=lG f;have a3:=lG j;have aw:=lG J
 clear f j J
 go_enter func32,ntmps32
 go_wp2_with (first | (go_at_call 73;refine ag.mono ?_;rintro e w' ⟨rfl,rfl⟩) | (refine zl5 _ rfl _ _ _ _ rfl 5 _ kr kr Y W X Z _ _ _ rfl O _ rfl hn ?_))
 rintro v' G H q i
 have l:G.heap[b]?=some (.cells #[.pointer (some ⟨b,0,none⟩),v] 68 (0,0)):=(i.1.keep b M r).trans E
 have f1:=Dm l 1
 have d1:G.cell? ⟨b,1,none⟩=some v:=nN l rfl
 have m:¬ H b:=i.not M r
 obtain⟨U,T,a,rfl⟩:∃U T a,v'=.slice U T a:=by
  rcases q.shape with⟨rfl,_⟩ | ⟨g,cap,a2,rfl,_⟩ <;> exact⟨_,_,_,rfl⟩
 have a0:=lG q;have S:=lG i;have a1:=lG l
 clear q i l
 go_wp2
 go_ret2
 have V:cF (fun k=>k=b∨H k) (fun k=>k=b∨H k) G (G.setCell ⟨b,1,none⟩ (.slice U T a)):=my (C':=fun k=>k=b∨H k) (dY _ _) (p:=⟨b,1,none⟩) (.inl rfl) _
 have I:cF (fun k=>k=b) (fun k=>k=b) G (G.setCell ⟨b,1,none⟩ (.slice U T a)):=my (C':=fun k=>k=b) (dY _ _) (p:=⟨b,1,none⟩) rfl _
 refine⟨⟨_,rfl⟩,fun k=>k=b∨H k,⟨_,_,H,?_,.inr rfl,a0.out.ext I (by rintro k hk rfl;exact m hk),m,rfl⟩,?_⟩
 ·simp[lq,jl,a1.out]
 ·refine (aw.out.trans ?_).trans V
  exact⟨S.out.1.weaken (fun k _ h=>.inr h),fun k hk=>by
   rcases hk with rfl | hk
   ·exact .inl (.inl rfl)
   ·exact (S.out.2 k hk).imp .inr id⟩
theorem MV {C C':Nat→Prop} {a w:World} (h:cF C C' a w) {g:Nat} (hg:C' g) (m:Nat):cF C C' a (w.freeze ⟨g,0,none⟩ m):=by
 unfold World.freeze
 split
 ·exact h
 ·have j:∀f:Obj→Obj,({ w with heap:=w.heap.modify g f }:World).heap.size=w.heap.size:=fun f=>by simp
  refine⟨⟨h.1.os,h.1.tape,h.1.output,by simpa using h.1.size,fun k hk b=>?_⟩,fun k hk=>by simpa using h.2 k hk⟩
  rw[jl]
  rw[ar]
  ·exact h.1.keep k hk b
  ·intro e
   have i:g=k:=e
   subst i
   rcases h.2 _ hg with h' | h'
   ·exact b h'
   ·omega
theorem MW (b:Nat) (bs:ab) (C:Nat→Prop) (w:World) (h:qW b bs C w) :
  Calls prog 33 #[.pointer (some ⟨b,0,none⟩)] w fun e w'=>e=.returned (.string bs)∧cF C C w w':=by
 obtain⟨p,v,D,a,hp,f,X,rfl⟩:=h
 rcases f.shape with⟨rfl,rfl,rfl⟩ | ⟨g,cap,i,rfl,Y,T,S,rfl,hg⟩
 ·have c1:w.drew.cell? ⟨b,1,none⟩=some (.slice none 0 0):=nN (w:=w.drew) a rfl
  have u:(fF #[46] 114 #[.slice none 0 0]).run prog w.drew=.ok (.pointer none) w.drew:=rfl
  have G:∀W q,(iZ #[114,3] 9 #[.pointer q,.int .i64 0]).run prog W=.ok (.string .empty) W:=fun W q=>nK W _ _ _ q
  clear a f
  go_enter func33,ntmps33
  go_wp2
  go_region
  all_goals (go_wp2;go_ret;exact⟨rfl,(dY _ _).drew⟩)
 ·by_cases h0:bs.size=0
  ·have n:bs=⟨#[]⟩:=by apply ByteArray.ext;exact Array.eq_empty_of_size_eq_zero h0
   subst n
   have U:(⟨#[]⟩:ab).size=0:=rfl
   rw[U] at a f
   have G:∀W q,(iZ #[114,3] 9 #[.pointer q,.int .i64 0]).run prog W=.ok (.string .empty) W:=fun W q=>nK W _ _ _ q
   have c1:w.drew.cell? ⟨b,1,none⟩=some (.slice (some ⟨g,0,none⟩) 0 cap):=nN (w:=w.drew) a rfl
   by_cases s:cap=0
   ·subst s
    have u:(fF #[46] 114 #[.slice (some ⟨g,0,none⟩) 0 0]).run prog w.drew=.ok (.pointer (some ⟨w.drew.heap.size,0,none⟩)) (w.drew.alloc (.view ⟨g,0,none⟩ 5)) :=
     Lib.run_unsafeSliceData_zero w.drew _ _ 5 kr ⟨g,0,none⟩ 0 (5,i.size) (by have r:w.drew.heap[g]?=some (.cells i 5 (0,0)):=hg;simp[l7,r])
    have J:=ki a
    have c2:(w.drew.alloc (.view ⟨g,0,none⟩ 5)).cell? ⟨b,1,none⟩=some (.slice (some ⟨g,0,none⟩) 0 0):=nN (w:=w.drew.alloc _) ((Below.heap_alloc w.drew _ b J).trans a) rfl
    have c3:(w.alloc (.view ⟨g,0,none⟩ 5)).drew.cell? ⟨b,1,none⟩=some (.slice (some ⟨g,0,none⟩) 0 0):=c2
    have c0:w.cell? ⟨b,1,none⟩=some (.slice (some ⟨g,0,none⟩) 0 0):=c1
    clear a f hg
    go_enter func33,ntmps33
    go_wp2
    go_region
    all_goals (go_wp2;go_ret;exact⟨rfl,(dY _ _).drew.alloc _⟩)
   ·have u:(fF #[46] 114 #[.slice (some ⟨g,0,none⟩) 0 cap]).run prog w.drew=.ok (.pointer (some ⟨g,0,none⟩)) w.drew:=na _ _ _ _ _ _ s
    clear a f hg s
    go_enter func33,ntmps33
    go_wp2
    go_region
    all_goals (go_wp2;go_ret;exact⟨rfl,(dY _ _).drew⟩)
  ·obtain⟨l,I⟩:∃l,l=bs.data.toList:=⟨_,rfl⟩
   have m:l.length=bs.size:=by rw[I,Array.length_toList];rfl
   have n:bs=⟨l.toArray⟩:=by rw[I]
   have M:l≠[]:=by intro e;rw[e] at m;exact h0 m.symm
   rw[← m] at a T f
   have c1:w.drew.cell? ⟨b,1,none⟩=some (.slice (some ⟨g,0,none⟩) l.length cap):=nN (w:=w.drew) a rfl
   have u:(fF #[46] 114 #[.slice (some ⟨g,0,none⟩) l.length cap]).run prog w.drew=.ok (.pointer (some ⟨g,0,none⟩)) w.drew :=
    na _ _ _ _ _ _ (by omega)
   have O:i.size=cap*1:=by
    rcases f.1.2 with⟨h1,_⟩ | ⟨g',H,V,h1,_,E,_,_,Z,_⟩
    ·cases h1
    ·have e1:g=g':=by injection h1 with q1 q2 q3;injection q1 with q1;injection q1
     have e2:cap=H:=by injection h1
     subst e1;subst e2
     rw[hg] at E;injection E with E;injection E with E
     rw[E];exact Z
   have G:(iZ #[114,3] 9 #[.pointer (some ⟨g,0,none⟩),.int .i64 l.length]).run prog w.drew=.ok (.string ⟨l.toArray⟩) (w.drew.freeze ⟨g,0,none⟩ l.length):=by
    refine Lib.run_unsafeString_row w.drew 114 3 9 5 kr kr g i.size (by have r:w.drew.heap[g]?=some (.cells i 5 (0,0)):=hg;simp[l7,r]) l M (by omega) (by unfold maxLen at S;omega) ?_
    intro j x hx
    refine World.ownsRow.cells f.1 (g:=g) rfl j (.int .u8 x.toNat) ?_
    unfold strCells
    rw[List.getElem?_map,← I,hx];rfl
   rw[n]
   have hx:cF (fun k=>k=b∨k=g) (fun k=>k=b∨k=g) w (w.drew.freeze ⟨g,0,none⟩ l.length):=MV ((dY _ _).drew) (.inr rfl) _
   have Hx:=lG hx
   clear a f hg hx n m O
   clear I
   go_enter func33,ntmps33
   go_wp2
   go_region
   all_goals (go_wp2;go_ret;exact⟨rfl,Hx.out⟩)
end
section
open Go.Shelf
attribute [local go_sem] kg
def pE (b:Nat) (bs:ab):Asn:=⟨fun C w=>qW b bs C w,fun h=>h.lt,fun h _ hk=>h.local hk⟩
theorem A6 (b:Nat) (bs s:ab) (a:bs.size+s.size≤140737488355328):Fn prog 32 [.pointer (some ⟨b,0,none⟩),.string s] [pE b bs] (fun u:Value=>u) (fun _=>[pE b (bs++s)]):=by
 intro w C hA
 refine (MU b bs s C w (aI.1 hA) a).mono ?_
 rintro e w' ⟨⟨u,rfl⟩,C',h1,h2⟩
 exact⟨u,rfl,C',aI.2 h1,h2⟩
theorem FW (b:Nat) (bs:ab):Fn prog 33 [.pointer (some ⟨b,0,none⟩)] [pE b bs] (fun _:Unit=>.string bs) (fun _=>[]):=by
 intro w C hA
 refine (MW b bs C w (aI.1 hA)).mono ?_
 rintro e w' ⟨rfl,h2⟩
 exact⟨(),rfl,fun _=>False,fun _ h=>h,h2.1,fun k hk=>hk.elim⟩
theorem FX {b:Nat}:oY (cells b [.pointer none,.slice none 0 0] 68) (pE b ⟨#[]⟩):=by
 intro C w h
 have a:C=fun k=>k=b:=funext fun k=>propext (h.1 k)
 subst a
 exact⟨_,_,_,h.2,.inl rfl,jY.nil,by simp,by funext k;simp⟩
end
end Go.Proofs.YtifpjbgnikjglaaGreatDoor

namespace Go.Proofs
open Go.Shelf
def Tryz.laysNm222_ren:Go.Shelf.Ren:=⟨fun | 22=>72 | 29=>125 | 30=>126 | 36=>156 | 17=>171 | n=>n,fun | 24=>36 | 9=>9 | 3=>3 | 4=>4 | 0=>0 | n=>n,fun | n=>n⟩
theorem wv:Go.Proofs.Lays2.n22 Tryz.prog Tryz.laysNm222_ren:={
 mixed:=by kernel_rfl
 f17:=Tryz.func171.trans (congrArg some (by kernel_rfl))
 f22:=Tryz.func72.trans (congrArg some (by kernel_rfl))
 f29:=Tryz.func125.trans (congrArg some (by kernel_rfl))
 f30:=Tryz.func126.trans (congrArg some (by kernel_rfl))
 f36:=Tryz.func156.trans (congrArg some (by kernel_rfl))
 t0:=Tryz.underlying0
 a0:=Tryz.isAgg0
 z0:=Tryz.sizeOf0
 v0:=Tryz.zeroValue0
 t3:=Tryz.underlying3
 a3:=Tryz.isAgg3
 z3:=Tryz.sizeOf3
 v3:=Tryz.zeroValue3
 t4:=Tryz.underlying4
 a4:=Tryz.isAgg4
 z4:=Tryz.sizeOf4
 v4:=Tryz.zeroValue4
 t9:=Tryz.underlying9
 a9:=Tryz.isAgg9
 z9:=Tryz.sizeOf9
 v9:=Tryz.zeroValue9
 t24:=Tryz.underlying36
 a24:=Tryz.isAgg36
 z24:=Tryz.sizeOf36
 v24:=Tryz.zeroValue36
 i9:=by kernel_rfl }
end Go.Proofs

namespace Go.Proofs.YtifpjbgnikjglaaGreatDoor
open Go.RowKit Go.Lib
open Tryz
set_option linter.unusedVariables false
set_option linter.unusedSimpArgs false
open _root_.Array renaming length_toList→dp
open _root_.Go.Builtin renaming zeroCells→cx
open _root_.Go.Ending renaming returned→mP
open _root_.Go.Proofs.Any2 renaming slices_Insert_string_end_grow→kO
open Fr renaming refl→nq
open aN renaming one→jE
open _root_.Go.Value renaming string→aa
open _root_.Go.World renaming shape?→l7,frozen?→lr,alloc_heap_new→eK
open _root_.List renaming length_map→aF,take_left→jv,length_append→ah,length_singleton→oQ,length_drop→ck,length_take→cj,append_assoc→aM,take_append_of_le_length→l6,take_take→mZ
open _root_.Nat renaming le_refl→bJ,mul_one→ou,zero_add→cg
section
open Go.Shelf
def iK (xs:List ab) (i:Int) (x:ab):List ab:=xs.take i.toNat++x::xs.drop i.toNat
theorem uw:∀ (vs l:List Value) (j:Nat),j+vs.length≤l.length→pq l j vs=l.take j++vs++l.drop (j+vs.length)
 | [],l,j,h=>by simp[pq]
 | v::vs,l,j,h=>by
  have h:j+(vs.length+1)≤l.length:=h
  have a:=uw vs (l.set j v) (j+1) (by rw[List.length_set];omega)
  show pq (l.set j v) (j+1) vs=_
  have h1:(l.set j v).take (j+1)=l.take j++[v]:=by
   rw[List.take_add_one,List.take_set_of_le (bJ _)]
   have:(l.set j v)[j]?=some v:=by rw[List.getElem?_set_self (by omega)]
   rw[this];rfl
  have h2:(l.set j v).drop (j+1+vs.length)=l.drop (j+1+vs.length):=List.drop_set_of_lt (by omega)
  have b:j+(v::vs).length=j+1+vs.length:=by rw[List.length_cons];omega
  rw[a,h1,h2,b]
  simp
theorem ux {g:Nat} {e:TypeId}:∀ (vs:List Value) (j:Nat) (l:List Value) (w:World),w.heap[g]?=some (.cells l.toArray e (0,0)) →
  (w.setCells g j vs).heap[g]?=some (.cells (pq l j vs).toArray e (0,0))∧Fr (fun k=>k=g) w (w.setCells g j vs)
 | [],j,l,w,h=>⟨h,nq _ _⟩
 | v::vs,j,l,w,h=>by
  have h1:(w.setCell ⟨g,j,none⟩ v).heap[g]?=some (.cells (l.set j v).toArray e (0,0)):=by
   simp[World.setCell,h,Array.getElem?_modify]
  obtain⟨h2,a⟩:=ux vs (j+1) (l.set j v) _ h1
  exact⟨h2,((nq (fun k=>k=g) w).setCell (p:=⟨g,j,none⟩) (.inl rfl) v).trans a⟩
theorem A7 (xs:List ab):xs.flatMap gR=xs.map aa:=by
 induction xs with
 | nil=>rfl
 | cons x xs a=>rw[List.flatMap_cons,a];rfl
theorem FZ {e:TypeId} {w:World} {g cap n:Nat} {a:List Value} {ys:List ab} (hg:w.heap[g]?=some (.cells a.toArray e (0,0))) (b:n=ys.length) (hc:n≤cap) (hm:cap≤maxLen) (f:a.length=cap) (ht:a.take n=ys.map aa) :
  gQ gR e 1 (.slice (some ⟨g,0,none⟩) n cap) ys (fun k=>k=g) w:=by
 subst b
 refine⟨⟨by rw[A7,aF,ou],.inr ⟨g,cap,a.toArray,rfl,Nat.zero_le _,hg,hc,hm,by simp[f],?_⟩⟩,?_⟩
 ·rw[A7,ou];exact ht
 ·funext k;simp[Value.ownBlock];exact eq_comm
theorem A8 (cs:List Value) (k:Nat) (x:Value) (hk:k≤cs.length) (a:List Value):(cs.take k++[x]++cs.drop k++a).take (cs.length+1)=cs.take k++x::cs.drop k:=by
 have h1:(cs.take k++[x]++cs.drop k).length=cs.length+1:=by simp;omega
 rw[← h1,jv];simp
theorem yy (xs:List ab) (k:Nat) (x:ab):(iK xs (k:Int) x).map aa=(xs.map aa).take k++aa x::(xs.map aa).drop k:=by
 simp[iK,List.map_take,List.map_drop]
theorem MX {v:Value} {xs:List ab} {i:Int} {vb:Nat} {x:ab} (h:0≤i∧i≤(xs.length:Int)∧xs.length≤2147483648) :
  Fn prog 72 [v,.int .i64 i,.slice (some ⟨vb,0,none⟩) 1 1] [vec gR 9 1 v xs,cells vb [.string x] 9] (fun r:Value=>r) (fun r=>[vec gR 9 1 r (iK xs i x)]):=by
 intro w C hs
 obtain⟨C1,C2,h1,b2,hd,hC⟩:=hs
 have h2:(cells vb [.string x] 9).P C2 w:=aN.one1.1 b2
 have h1:gQ gR 9 1 v xs C1 w:=h1
 obtain⟨k,rfl⟩:∃k:Nat,i=k:=⟨i.toNat,by omega⟩
 have hk:k≤xs.length:=by omega
 have hb:w.heap[vb]?=some (.cells #[.string x] 9 (0,0)):=h2.2
 have H:∀j u,[aa x][j]?=some u→w.cell? ⟨vb,0+j,none⟩=some u:=fun j u hj=>by
  rw[cg]
  exact nN hb (by simpa using hj)
 have T:∀u∈[aa x],u.oneCell'=true:=fun u hu=>by rw[List.mem_singleton.1 hu];rfl
 have a9:w.shape? vb=some (9,1):=by simp[l7,hb]
 have a3:∀j,w.frozen? ⟨vb,j,none⟩=false:=fun j=>by simp[lr,hb]
 have b6:=gQ.lt h1
 have l:(xs.map aa).length=xs.length:=aF _
 have p:∀ (w':World) (cap:Nat) (f:List Value),w'.heap[w.heap.size]?=some (.cells f.toArray 9 (0,0))→Fr (fun k=>w.heap.size≤k) w w'→w.heap.size<w'.heap.size→xs.length+1≤cap→cap≤maxLen→f.length=cap→f.take (xs.length+1)=(iK xs (k:Int) x).map aa →
   ∃y:Value,mP (.slice (some ⟨w.heap.size,0,none⟩) (xs.length+1) cap)=.returned y∧∃C',aN [vec gR 9 1 y (iK xs (k:Int) x)] C' w'∧cF C C' w w':=fun w' cap f hg hF hz hn hm hl ht=>by
  have J:xs.length+1=(iK xs (k:Int) x).length:=by simp[iK];omega
  refine⟨_,rfl,_,jE (A:=vec gR 9 1 _ (iK xs (k:Int) x)) (FZ hg J hn hm hl ht),hF.weaken (fun i hi hh=>absurd hi (by omega)),fun j hj=>.inr ⟨by omega,by omega⟩⟩
 rcases h1.shape with⟨rfl,rfl,_⟩ | ⟨g,cap,rfl,b7,U,a4,ao⟩
 ·obtain rfl:k=0:=by simpa using hk
  refine (kO wv none 0 0 vb 0 1 1 [] [.string x] w (by omega) (by omega) (by omega) (by omega) rfl rfl (fun _=>rfl) (fun a ha=>by cases ha) H T).mono ?_
  rintro e w' ⟨rfl,rfl⟩
  generalize W:grownCap w (0+1) 0 (Tryz.laysNm222_ren.t 9)=G
  have hG:0+1≤G:=W ▸ grownCap_ge _ _ _ _
  have S:G≤maxLen:=W ▸ grownCap_le_maxLen _ _ _ _ (by decide)
  have h8:∀n,(cx (aa ⟨#[]⟩).cells n).size=n*1:=fun n=>size_zeroCells _ _
  have hA0:(([]++[aa x]).toArray++cx (aa ⟨#[]⟩).cells (G - (0+1)))=([aa x]++(cx (aa ⟨#[]⟩).cells (G - (0+1))).toList).toArray:=by simp
  rw[hA0]
  refine p _ _ ([.string x]++(cx (aa ⟨#[]⟩).cells (G - (0+1))).toList) (eK w.drew _) (((nq _ w).drew).alloc _) (by simp) hG S ?_ rfl
  simp only[ah,oQ,dp,h8]
  omega
 ·obtain⟨b3,b8⟩:=h1
  rcases b3.2 with⟨hv,_⟩ | ⟨g',a6,f,hv,_,hg,b5,b4,Z,I⟩
  ·cases hv
  obtain⟨rfl,rfl⟩:g=g'∧cap=a6:=by injection hv with a b c;injection a with a;injection a with a;exact⟨a,c⟩
  rw[ou] at Z I
  rw[A7] at I
  have hg:w.heap[g]?=some (.cells f.toList.toArray 9 (0,0)):=by rw[hg]
  have bh:vb≠g:=fun e=>hd g ((ao ▸ rfl:C1 g)) ((h2.1 g).2 e.symm)
  have D:f.toList.length=cap:=by simpa using Z
  have O:∀j u,f.toList[j]?=some u→w.cell? ⟨g,0+j,none⟩=some u:=fun j u hj=>by
   rw[cg]
   exact nN hg (by simpa using hj)
  have M:∀j u,(xs.map aa)[j]?=some u→w.cell? ⟨g,0+j,none⟩=some u:=fun j u hj=>by
   rw[← I,List.getElem?_take] at hj
   split at hj
   ·exact O j u hj
   ·cases hj
  have a2:∀j,w.frozen? ⟨g,j,none⟩=false:=fun j=>by simp[lr,hg]
  have a1:∀j,j<cap→(w.cell? ⟨g,0+j,none⟩).isSome=true:=fun j hj=>by
   rw[O j (f.toList[j]'(by omega)) (List.getElem?_eq_getElem (by omega))];rfl
  have a8:w.shape? g=some (9,cap):=by simp[l7,hg,Z]
  have V:cap≤9223372036854775807:=by simpa [maxLen] using a4
  have a5:∀u∈xs.map aa,u.oneCell'=true:=fun u hu=>by
   obtain⟨y,_,rfl⟩:=List.mem_map.1 hu
   rfl
  have E:∀ (w':World) (q:List Value),w'.heap[g]?=some (.cells q.toArray 9 (0,0))→Fr (fun k=>k=g) w w'→xs.length+1≤cap→q.length=cap→q.take (xs.length+1)=(iK xs (k:Int) x).map aa →
    ∃y:Value,mP (.slice (some ⟨g,0,none⟩) (xs.length+1) cap)=.returned y∧∃C',aN [vec gR 9 1 y (iK xs (k:Int) x)] C' w'∧cF C C' w w':=fun w' q hg hF hn hl ht=>by
   have J:xs.length+1=(iK xs (k:Int) x).length:=by simp[iK];omega
   refine⟨_,rfl,_,jE (A:=vec gR 9 1 _ (iK xs (k:Int) x)) (FZ hg J hn a4 hl ht),hF.weaken (fun i hi hh=>(hC i).2 (.inl (ao ▸ hh))),fun j hj=>.inl ((hC j).2 (.inl (ao ▸ hj)))⟩
  by_cases m:xs.length+1≤cap
  ·by_cases X:k=xs.length
   ·subst X
    refine (Any2.slices_Insert_string_end_room wv g 0 xs.length cap vb 0 1 1 [.string x] w (by omega) m V rfl (fun j hj=>by have:=a1 (xs.length+j) (by omega);rwa [← Nat.add_assoc] at this) (fun j hj=>a2 _) H T).mono ?_
    rintro e w' ⟨rfl,rfl⟩
    obtain⟨q1,q2⟩:=ux (g:=g) [.string x] (0+xs.length) f.toList w hg
    refine E _ _ q1 q2 m (by rw[rC];exact D) ?_
    rw[uw _ _ _ (by rw[D];simp;omega),cg,I,yy]
    have h7:=A8 (xs.map aa) xs.length (.string x) (by rw[l];exact bJ _) (f.toList.drop (xs.length+[aa x].length))
    rw[l] at h7
    rw[← h7]
    have h6:(xs.map aa).take xs.length=xs.map aa:=List.take_of_length_le (by rw[l];exact bJ _)
    have h5:(xs.map aa).drop xs.length=[]:=List.drop_eq_nil_of_le (by rw[l];exact bJ _)
    rw[h6,h5,List.append_nil]
   ·refine (Any2.slices_Insert_string_shift wv g 0 xs.length cap k vb 0 1 1 (xs.map aa) [.string x] w (by omega) (by omega) m V bh l rfl M (fun j hj=>a1 j (by omega)) (fun j hj=>a2 _) H a5 T 9 9 1 cap a9 a8 (by omega) (a3 0) (a3 1)).mono ?_
    rintro e w' ⟨rfl,rfl⟩
    have bb:w.drew.heap[g]?=some (.cells f.toList.toArray 9 (0,0)):=hg
    obtain⟨q1,q2⟩:=ux (g:=g) ((xs.map aa).drop k) (0+(k+1)) f.toList w.drew bb
    obtain⟨q3,q4⟩:=ux (g:=g) [.string x] (0+k) _ _ q1
    refine E _ _ q3 (((nq _ w).drew.trans q2).trans q4) m (by rw[rC,rC];exact D) ?_
    have Y:((xs.map aa).drop k).length=xs.length - k:=by rw[ck,l]
    rw[uw _ _ _ (by rw[rC,D];simp;omega),uw _ _ _ (by rw[D,Y];omega),cg,cg,yy]
    have ha:(f.toList.take (k+1)).length=k+1:=by rw[cj,D];omega
    have ag:(f.toList.take (k+1)++(xs.map aa).drop k++f.toList.drop (k+1+((xs.map aa).drop k).length)).take k=(xs.map aa).take k:=by
     rw[aM,l6 (by rw[ha];omega),mZ,Nat.min_eq_left (by omega),← I,mZ,Nat.min_eq_left (by omega)]
    have bk:(f.toList.take (k+1)++(xs.map aa).drop k++f.toList.drop (k+1+((xs.map aa).drop k).length)).drop (k+[aa x].length)=(xs.map aa).drop k++f.toList.drop (k+1+((xs.map aa).drop k).length):=by
     rw[aM]
     have:k+[aa x].length=(f.toList.take (k+1)).length:=by rw[ha];rfl
     rw[this,List.drop_left]
    rw[ag,bk,← aM,← l]
    exact A8 _ _ _ (by rw[l];exact hk) _
  ·by_cases X:k=xs.length
   ·subst X
    refine (kO wv (some ⟨g,0,none⟩) xs.length cap vb 0 1 1 (xs.map aa) [.string x] w (by omega) U (by omega) (by omega) l rfl (fun h=>by cases h) (fun a ha j u hj=>by cases ha;rw[Addr.add_lit];exact M j u hj) H T).mono ?_
    rintro e w' ⟨rfl,rfl⟩
    generalize W:grownCap w (xs.length+1) cap (Tryz.laysNm222_ren.t 9)=G
    have hG:xs.length+1≤G:=W ▸ grownCap_ge _ _ _ _
    have S:G≤maxLen:=W ▸ grownCap_le_maxLen _ _ _ _ (by simp only[maxLen];omega)
    have h8:∀n,(cx (aa ⟨#[]⟩).cells n).size=n*1:=fun n=>size_zeroCells _ _
    have hA0:((xs.map aa++[aa x]).toArray++cx (aa ⟨#[]⟩).cells (G - (xs.length+1)))=(xs.map aa++[aa x]++(cx (aa ⟨#[]⟩).cells (G - (xs.length+1))).toList).toArray:=by simp
    rw[hA0]
    refine p _ _ (xs.map aa++[.string x]++(cx (aa ⟨#[]⟩).cells (G - (xs.length+1))).toList) (eK w.drew _) (((nq _ w).drew).alloc _) (by simp) hG S ?_ ?_
    ·simp only[ah,oQ,dp,h8,l]
     omega
    ·have h6:(xs.map aa++[aa x]).length=xs.length+1:=by simp
     rw[← h6,jv,yy,← l,List.take_length,List.drop_length]
   ·refine (Any2.slices_Insert_string_grow wv g 0 xs.length cap k vb 0 1 1 (xs.map aa) [.string x] w (by omega) (by omega) U (by omega) (by omega) l rfl M H a5 T).mono ?_
    rintro e w' ⟨rfl,rfl⟩
    have h8:∀n,(cx (aa ⟨#[]⟩).cells n).size=n*1:=fun n=>size_zeroCells _ _
    generalize W:grownCap w (xs.length+1) cap (Tryz.laysNm222_ren.t 9)=G
    have hG:xs.length+1≤G:=W ▸ grownCap_ge _ _ _ _
    have S:G≤maxLen:=W ▸ grownCap_le_maxLen _ _ _ _ (by simp only[maxLen];omega)
    obtain⟨A,hA⟩:∃A:List Value,A=(xs.map aa).take k++(cx (aa ⟨#[]⟩).cells (xs.length+1 - k)).toList++(cx (aa ⟨#[]⟩).cells (G - (xs.length+1))).toList:=⟨_,rfl⟩
    have aw:A.length=G:=by
     rw[hA]
     simp only[ah,cj,dp,h8,l]
     omega
    have hA0:(((xs.map aa).take k).toArray++cx (aa ⟨#[]⟩).cells (xs.length+1 - k)++cx (aa ⟨#[]⟩).cells (G - (xs.length+1)))=A.toArray:=by rw[hA];simp
    rw[hA0]
    have q0:(w.alloc (.cells A.toArray 9)).drew.heap[w.heap.size]?=some (.cells A.toArray 9 (0,0)):=eK w _
    obtain⟨q1,q2⟩:=ux (g:=w.heap.size) [.string x] k A _ q0
    have a7:(((w.alloc (.cells A.toArray 9)).drew.setCells w.heap.size k [.string x]).drew).heap[w.heap.size]?=some (.cells (pq A k [.string x]).toArray 9 (0,0)):=q1
    obtain⟨q3,q4⟩:=ux (g:=w.heap.size) ((xs.map aa).drop k) (k+1) _ _ a7
    have b1:Fr (fun k=>w.heap.size≤k) w (w.alloc (.cells A.toArray 9)).drew:=((nq _ w).alloc _).drew
    have b0:=(b1.trans' (q2.weaken (C':=fun k=>w.heap.size≤k) (fun i _ h=>by omega)) (fun i _ h=>h)).drew.trans' (q4.weaken (C':=fun k=>w.heap.size≤k) (fun i _ h=>by omega)) (fun i _ h=>h)
    have Y:((xs.map aa).drop k).length=xs.length - k:=by rw[ck,l]
    refine p _ _ _ q3 b0 (ki q3) hG S (by rw[rC,rC];exact aw) ?_
    have a0:((xs.map aa).take k).length=k:=by rw[cj,l];omega
    rw[uw _ _ _ (by rw[rC,aw,Y];omega),uw _ _ _ (by rw[aw];simp;omega),yy]
    have bs:A.take k=(xs.map aa).take k:=by
     rw[hA,aM,l6 (by rw[a0];exact bJ _),mZ,Nat.min_self]
    have ag:(A.take k++[aa x]++A.drop (k+[aa x].length)).take (k+1)=(xs.map aa).take k++[aa x]:=by
     have:((xs.map aa).take k++[aa x]).length=k+1:=by rw[ah,a0];rfl
     rw[bs,← this,jv]
    rw[ag,← l]
    exact A8 _ _ _ (by rw[l];exact hk) _
end
section
variable {F:Fence} {P:Program} {w0:World} {K:Nat→Prop} {N:Nat} {dfs:List Deferred} {ops:Array Oper} {Q:Exit→Act→World→Prop} {rest:List Oper} {σ σ':List (Nat×Value)} {L L' R As Bs:List Asn} {o:Oper} {v:Value}
 {d:Nat} {t:TypeId} {op:Op} {ty:TypeId} {pos:String} {aft:Array Edge} {g:Option (Nat×Bool)} {x y z:Operand} {c c1 c2:Code} {k:Nat} {A B:Asn} {RD RD0:List Asn} {e:TypeId} {ex:Exit}
theorem MY {α η:Type} {enc:α×η→List Value} {nest:α×η→List Asn} {a:TypeId} {p:Value} {m:Option α} {w:World} (h:Holds w0 K L w) (hk:L[k]?=some (lU enc nest a p m)):p.oneCell'=true:=by
 obtain⟨C,hv,_⟩:=h.focus hk
 rcases Ep hv with⟨_,rfl⟩ | ⟨_,_,_,rfl,_⟩ <;> rfl
end
section
variable {F:Fence} {P:Program} {w0:World} {K:Nat→Prop} {N:Nat} {dfs:List Deferred} {ops:Array Oper} {Q:Exit→Act→World→Prop} {rest:List Oper} {σ:List (Nat×Value)} {L RD:List Asn}
 {d:Nat} {ty:TypeId} {pos:String} {aft:Array Edge} {g:Option (Nat×Bool)} {s x:Operand} {t e e2:TypeId} {k k2 j size:Nat} {vv v2 v:Value} {α:Type} {enc:α→List Value} {xs ys Ls:List α}
end

end Go.Proofs.YtifpjbgnikjglaaGreatDoor
