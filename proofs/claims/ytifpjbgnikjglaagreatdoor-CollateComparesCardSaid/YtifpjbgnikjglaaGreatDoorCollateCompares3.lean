/-
  Texts laid together: LfA, PlA, Ql, LfF, LfG, LfP, LfT, Qt, PlB, Qa, Qb, Qc, Qd, LfR, Qr. Nothing is assumed.
-/
import Derived.Test.YtifpjbgnikjglaaGreatDoorCollateCompares2
set_option maxRecDepth 100000
set_option maxHeartbeats 4000000
namespace Go.Proofs.YtifpjbgnikjglaaGreatDoor
abbrev zI (x : Int) : Value := .int .i64 x
abbrev zP (x : Nat) : Value := .pointer (some ⟨x, 0, none⟩)
end Go.Proofs.YtifpjbgnikjglaaGreatDoor
namespace Go.Proofs.YtifpjbgnikjglaaGreatDoor
open Go.RowKit Go.Lib
open Tryz
set_option linter.unusedVariables false
set_option linter.unusedSimpArgs false
open _root_.Array renaming toList_inj→fA,length_toList→cU
open _root_.Bool renaming or_false→mQ,and_eq_true→aQ
open _root_.Go.IntWalk renaming i64_in→ai,i32_in→eh
open _root_.Go.Proofs.Tryz renaming results132→qg,results133→ng,underlying21→aZ,underlying5→cu,underlying46→cg,underlying9→an,underlying129→cG,underlying135→mP,underlying137→iP,underlying103→bp,underlying77→aI,results149→dH,underlying127→jV,results155→qi,results117→qj
open _root_.Go.Proofs.YtifpjbgnikjglaaGreatDoor renaming dl→fY
open fr renaming nil→oV
open bR renaming nil→bQ
open dh renaming nil→iF
open aq renaming nil→ah
open Vw renaming get→ce
open evL renaming cons→dv,nil→eX
open evP renaming cons→fJ,nil→qG
open aO renaming one1→aF
open _root_.Go.Utf8 renaming encode→ae
open _root_.Go.Value renaming bool→ay,int→aB,agg→bl
open _root_.Int renaming tmod→mC,tdiv→ry
open _root_.List renaming range→eW,cons_append→aX,drop_drop→ff,all_eq_true→bd,replicate→bE,length_map→az,getElem?_eq_getElem→aJ,mem_cons→bo,not_mem_nil→dm,getElem?_eq_some_iff→au,drop_eq_getElem_cons→aR,foldl_cons→bn,drop_length→gp,findSome?_cons→dr,append_nil→aH,nil_append→bg,getD_eq_getElem?_getD→cC,take_append_drop→bZ,length→gq,getElem?_map→bU,any_cons→jl,mem_cons_self→ar,mem_cons_of_mem→ak,flatMap_cons→aG,map_cons→av,mem_of_getElem?→aP,takeWhile_cons→aW,length_cons→ab,dropWhile_cons→cD,filter_cons→iK,length_append→aa,mem_append→bY,mem_filter→cq,drop_left→ic,take_of_length_le→ee,take_left→ko,length_nil→aL
open _root_.List.cons renaming inj→nc
open _root_.Nat renaming lt_succ_self→ct,zero_le→bG,le_of_not_lt→iS
open _root_.Option renaming map_eq_some_iff→cS
open _root_.Option.some renaming injEq→fQ
open _root_.Or renaming inr→jq
open _root_.Prod renaming fst→bw
open _root_.Prod.mk renaming injEq→nU
theorem zaN {F:Fence} {P:Program} {w0:World} {K:Nat→Prop} {N:Nat} {dfs:List Deferred} {Q:Exit→Act→World→Prop} {σ:List (Nat×Value)} {L:List Asn} {ops:Array Oper} {d:List (Nat×Nat×Value)} {D:Nat→Prop} (m:Nat) {i t:Nat} {v:Value} (hu:jf (d.map (fun p=>p.2.1))=true) (hi:jf (d.map (fun p=>p.1))=true) (hm:d[m]?=some (i,t,v):=by exact rfl) :
    TO F P w0 K N dfs ops (_root_.Go.Exit.then (fun a w=>At N dfs (fY (fun j=>D j∨j=i) d++σ) a∧Holds w0 K L w) Q) [] ((t,v)::(fY D d++σ)) L:=Ah m hu hi hm
theorem cX {P:Program} {F:Fence} {w0:World} {K:Nat→Prop} {N:Nat} {σ:List (Nat×Value)} {L:List Asn} {fn:Func} {V:Unit→Value} {d:Unit→List Asn} {v:Value} (n:Nat) (a:fn.results=#[.tmp n]) (e:σ.lookup n=some v:=by rfl) (hv:v=V ():=by rfl) (hB:d ()=[]:=by rfl) :
    TX w0 K N [] (bodyPostM F 0 P fn (FR P V d w0 K)) .ret σ L :=
  eu (rs:=[.tmp n]) () (.inl rfl) a (.cons (.tmp e) .nil) hv (by rw[hB];exact ah)
theorem Wn {R a d:List Asn} {A:Asn} (k:Nat) (h:pH R a d) (e:oZ R [k]=some [A]:=by kernel_rfl):pH R a (A::d):=.own (bW [k] e rfl) (fun _ _ h=>aF.1 h) h
theorem bt {D:Nat→Prop} {S:Nat→Prop} [DecidablePred S] {σ:List (Nat×Value)} {a:List (Nat×Nat×Value)} {i t:Nat} {v:Value} (m:Nat) (hu:jf (a.map (fun p=>p.2.1))=true) (hd:∀j,S j→D j) (hm:a[m]?=some (i,t,v):=by exact rfl) (d:decide (S i)=true:=by exact rfl):(dl D a++σ).lookup t=some v:=jX hu hm (hd i (of_decide_eq_true d))
theorem bI {σ:List (Nat×Value)}:∀ {a:List (Nat×Value)},a.map (fun p=>σ.lookup p.1)=a.map (fun p=>some p.2)→qO σ a
  |[],_=>rA
  |(t,v)::a,h=>CA (nc h).1 (bI (nc h).2)
theorem zbs {c:Prop} [Decidable c] {R:Type} {o:Option R} {r:R} {Q:Prop} (h:aV c o=some r) (k:c→o=some r→Q):Q:=k (Gv h).1 (Gv h).2
theorem zbk {S R:Type} {p:Option S} {f:S→Option R} {r:R} {Q:Prop} (h:aT p f=some r) (k:∀a,p=some a→f a=some r→Q):Q:=let ⟨a,x,y⟩:=MH h;k a x y
theorem zbq {T R:Type} {t:T→Option R} {k:T} {r:R} {Q:Prop} (h:co t k=some r) (f:∀j,j=k→t j=some r→Q):Q:=let ⟨a,x,y⟩:=MK h;f a x y
theorem PZ (n:Nat):n<n+1:=ct n
theorem mD {w0:World} {K:Nat→Prop} {N:Nat} {dfs:List Deferred} {Q:Exit→Act→World→Prop} {σ:List (Nat×Value)} {L:List Asn} {β:Type} {I:β→Prop} {d:β→List Deferred} {a:β→List (Nat×Value)} {e:β→List Asn} (b:β) (j:I b) (n:Nat) (hd:dfs=d b:=by rfl) (g:(a b).map (fun p=>σ.lookup p.1)=(a b).map (fun p=>some p.2):=by rfl) (h:oZ L (eW n)=some (e b):=by kernel_rfl) (i:sy (eW n)=true:=by rfl) :
    TX w0 K N dfs (_root_.Go.Exit.then (CL w0 K N I d a e) Q) .normal σ L:=cL b j hd (bI g) (bW _ h i)
theorem aD {w0:World} {K:Nat→Prop} {N:Nat} {dfs:List Deferred} {Q:Exit→Act→World→Prop} {σ:List (Nat×Value)} {L:List Asn} {β:Type} {I:β→Prop} {e:β→List Deferred} {d:β→List (Nat×Value)} {g:β→List Asn} {μ:β→Nat} {b:β} (a:β) (l:I a) (n:Nat) (j:μ a<μ b:=by exact PZ _) (hd:dfs=e a:=by rfl) (i:(d a).map (fun p=>σ.lookup p.1)=(d a).map (fun p=>some p.2):=by rfl) (h:oZ L (eW n)=some (g a):=by kernel_rfl) (k:sy (eW n)=true:=by rfl) :
    TX w0 K N dfs (_root_.Go.Exit.then (CC w0 K N I e d g μ b) Q) .normal σ L:=nB a l j hd (bI i) (bW _ h k)
theorem cp {L As:List Asn} (n:Nat) (h:oZ L (eW n)=some As:=by kernel_rfl) (hd:sy (eW n)=true:=by rfl):aq L As (xF L (eW n)):=bW _ h hd
theorem lB {α:Type} {a0 a1:α} {l l':List α} (h:l=l'):a0::a1::l=a0::a1::l':=by rw[h]
theorem sM {α:Type} {a0 a1 a2:α} {l l':List α} (h:l=l'):a0::a1::a2::l=a0::a1::a2::l':=by rw[h]
theorem oa {α:Type} {a0 a1 a2 a:α} {l l':List α} (h:l=l'):a0::a1::a2::a::l=a0::a1::a2::a::l':=by rw[h]
theorem wA {α:Type} {a0 a1 a2 d a:α} {l l':List α} (h:l=l'):a0::a1::a2::d::a::l=a0::a1::a2::d::a::l':=by rw[h]
theorem pR {α:Type} {a0 a1 a2 e d a:α} {l l':List α} (h:l=l'):a0::a1::a2::e::d::a::l=a0::a1::a2::e::d::a::l':=by rw[h]
theorem Wo {α:Type} {a0 a1 a2 g e d a:α} {l l':List α} (h:l=l'):a0::a1::a2::g::e::d::a::l=a0::a1::a2::g::e::d::a::l':=by rw[h]
theorem ob {α:Type} {a0 a1 a2 i g e d a:α} {l l':List α} (h:l=l'):a0::a1::a2::i::g::e::d::a::l=a0::a1::a2::i::g::e::d::a::l':=by rw[h]
theorem Wp {α:Type} {a0 a1 a2 j i g e d a:α} {l l':List α} (h:l=l'):a0::a1::a2::j::i::g::e::d::a::l=a0::a1::a2::j::i::g::e::d::a::l':=by rw[h]
theorem Wq {α:Type} {a0 a1 a2 k j i g e d a:α} {l l':List α} (h:l=l'):a0::a1::a2::k::j::i::g::e::d::a::l=a0::a1::a2::k::j::i::g::e::d::a::l':=by rw[h]
theorem Ws {α:Type} {a0 a1 a2 m k j i g e d a:α} {l l':List α} (h:l=l'):a0::a1::a2::m::k::j::i::g::e::d::a::l=a0::a1::a2::m::k::j::i::g::e::d::a::l':=by rw[h]
theorem Wt {α:Type} {a0 a1 a2 n m k j i g e d a:α} {l l':List α} (h:l=l'):a0::a1::a2::n::m::k::j::i::g::e::d::a::l=a0::a1::a2::n::m::k::j::i::g::e::d::a::l':=by rw[h]
theorem DS {D:Nat→Prop} {e t0 d t1:Nat} {v0 v1:Value} {r a:List (Nat×Nat×Value)} (h:dl D r=dl D a):dl D ((e,t0,v0)::(d,t1,v1)::r)=dl D ((e,t0,v0)::(d,t1,v1)::a):=dV (fun _=>rfl) (dV (fun _=>rfl) h)
theorem A4 {D:Nat→Prop} {g t0 e t1 d t2:Nat} {v0 v1 v2:Value} {r a:List (Nat×Nat×Value)} (h:dl D r=dl D a):dl D ((g,t0,v0)::(e,t1,v1)::(d,t2,v2)::r)=dl D ((g,t0,v0)::(e,t1,v1)::(d,t2,v2)::a):=dV (fun _=>rfl) (dV (fun _=>rfl) (dV (fun _=>rfl) h))
theorem P0 {D:Nat→Prop} {j t0 i t1 g t2 e t3:Nat} {v0 v1 v2 a:Value} {r d:List (Nat×Nat×Value)} (h:dl D r=dl D d):dl D ((j,t0,v0)::(i,t1,v1)::(g,t2,v2)::(e,t3,a)::r)=dl D ((j,t0,v0)::(i,t1,v1)::(g,t2,v2)::(e,t3,a)::d):=dV (fun _=>rfl) (dV (fun _=>rfl) (dV (fun _=>rfl) (dV (fun _=>rfl) h)))
theorem DT {D:Nat→Prop} {l t0 k t1 j t2 i t3 g t4:Nat} {v0 v1 v2 d a:Value} {r e:List (Nat×Nat×Value)} (h:dl D r=dl D e):dl D ((l,t0,v0)::(k,t1,v1)::(j,t2,v2)::(i,t3,d)::(g,t4,a)::r)=dl D ((l,t0,v0)::(k,t1,v1)::(j,t2,v2)::(i,t3,d)::(g,t4,a)::e):=dV (fun _=>rfl) (dV (fun _=>rfl) (dV (fun _=>rfl) (dV (fun _=>rfl) (dV (fun _=>rfl) h))))
theorem DU {D:Nat→Prop} {n t0 m t1 l t2 k t3 j t4 i t5:Nat} {v0 v1 v2 e d a:Value} {r g:List (Nat×Nat×Value)} (h:dl D r=dl D g):dl D ((n,t0,v0)::(m,t1,v1)::(l,t2,v2)::(k,t3,e)::(j,t4,d)::(i,t5,a)::r)=dl D ((n,t0,v0)::(m,t1,v1)::(l,t2,v2)::(k,t3,e)::(j,t4,d)::(i,t5,a)::g):=dV (fun _=>rfl) (dV (fun _=>rfl) (dV (fun _=>rfl) (dV (fun _=>rfl) (dV (fun _=>rfl) (dV (fun _=>rfl) h)))))
theorem DV {D:Nat→Prop} {t t0 s t1 n t2 m t3 l t4 k t5 j t6:Nat} {v0 v1 v2 g e d a:Value} {r i:List (Nat×Nat×Value)} (h:dl D r=dl D i):dl D ((t,t0,v0)::(s,t1,v1)::(n,t2,v2)::(m,t3,g)::(l,t4,e)::(k,t5,d)::(j,t6,a)::r)=dl D ((t,t0,v0)::(s,t1,v1)::(n,t2,v2)::(m,t3,g)::(l,t4,e)::(k,t5,d)::(j,t6,a)::i):=dV (fun _=>rfl) (dV (fun _=>rfl) (dV (fun _=>rfl) (dV (fun _=>rfl) (dV (fun _=>rfl) (dV (fun _=>rfl) (dV (fun _=>rfl) h))))))
theorem DW {D:Nat→Prop} {v t0 u t1 t t2 s t3 n t4 m t5 l t6 k t7:Nat} {v0 v1 v2 i g e d a:Value} {r j:List (Nat×Nat×Value)} (h:dl D r=dl D j):dl D ((v,t0,v0)::(u,t1,v1)::(t,t2,v2)::(s,t3,i)::(n,t4,g)::(m,t5,e)::(l,t6,d)::(k,t7,a)::r)=dl D ((v,t0,v0)::(u,t1,v1)::(t,t2,v2)::(s,t3,i)::(n,t4,g)::(m,t5,e)::(l,t6,d)::(k,t7,a)::j):=dV (fun _=>rfl) (dV (fun _=>rfl) (dV (fun _=>rfl) (dV (fun _=>rfl) (dV (fun _=>rfl) (dV (fun _=>rfl) (dV (fun _=>rfl) (dV (fun _=>rfl) h)))))))
theorem Wu {D:Nat→Prop} {C t0 w t1 v t2 u t3 t t4 s t5 n t6 m t7 l t8:Nat} {v0 v1 v2 j i g e d a:Value} {r k:List (Nat×Nat×Value)} (h:dl D r=dl D k):dl D ((C,t0,v0)::(w,t1,v1)::(v,t2,v2)::(u,t3,j)::(t,t4,i)::(s,t5,g)::(n,t6,e)::(m,t7,d)::(l,t8,a)::r)=dl D ((C,t0,v0)::(w,t1,v1)::(v,t2,v2)::(u,t3,j)::(t,t4,i)::(s,t5,g)::(n,t6,e)::(m,t7,d)::(l,t8,a)::k):=dV (fun _=>rfl) (dV (fun _=>rfl) (dV (fun _=>rfl) (dV (fun _=>rfl) (dV (fun _=>rfl) (dV (fun _=>rfl) (dV (fun _=>rfl) (dV (fun _=>rfl) (dV (fun _=>rfl) h))))))))
theorem P1 {D:Nat→Prop} {G t0 E t1 C t2 w t3 v t4 u t5 t t6 s t7 n t8 m t9:Nat} {v0 v1 v2 k j i g e d a:Value} {r l:List (Nat×Nat×Value)} (h:dl D r=dl D l):dl D ((G,t0,v0)::(E,t1,v1)::(C,t2,v2)::(w,t3,k)::(v,t4,j)::(u,t5,i)::(t,t6,g)::(s,t7,e)::(n,t8,d)::(m,t9,a)::r)=dl D ((G,t0,v0)::(E,t1,v1)::(C,t2,v2)::(w,t3,k)::(v,t4,j)::(u,t5,i)::(t,t6,g)::(s,t7,e)::(n,t8,d)::(m,t9,a)::l):=dV (fun _=>rfl) (dV (fun _=>rfl) (dV (fun _=>rfl) (dV (fun _=>rfl) (dV (fun _=>rfl) (dV (fun _=>rfl) (dV (fun _=>rfl) (dV (fun _=>rfl) (dV (fun _=>rfl) (dV (fun _=>rfl) h)))))))))
theorem tS {D:Nat→Prop} {I t0 H t1 G t2 E t3 C t4 w t5 v t6 u t7 t t8 s t9 d t10:Nat} {v0 v1 v2 m l k j i g e a:Value} {r n:List (Nat×Nat×Value)} (h:dl D r=dl D n):dl D ((I,t0,v0)::(H,t1,v1)::(G,t2,v2)::(E,t3,m)::(C,t4,l)::(w,t5,k)::(v,t6,j)::(u,t7,i)::(t,t8,g)::(s,t9,e)::(d,t10,a)::r)=dl D ((I,t0,v0)::(H,t1,v1)::(G,t2,v2)::(E,t3,m)::(C,t4,l)::(w,t5,k)::(v,t6,j)::(u,t7,i)::(t,t8,g)::(s,t9,e)::(d,t10,a)::n):=dV (fun _=>rfl) (dV (fun _=>rfl) (dV (fun _=>rfl) (dV (fun _=>rfl) (dV (fun _=>rfl) (dV (fun _=>rfl) (dV (fun _=>rfl) (dV (fun _=>rfl) (dV (fun _=>rfl) (dV (fun _=>rfl) (dV (fun _=>rfl) h))))))))))
theorem uO {D:Nat→Prop} {M t0 J t1 I t2 H t3 G t4 E t5 C t6 w t7 v t8 u t9 g t10 e t11:Nat} {v0 v1 v2 s n m l k j i d a:Value} {r t:List (Nat×Nat×Value)} (h:dl D r=dl D t):dl D ((M,t0,v0)::(J,t1,v1)::(I,t2,v2)::(H,t3,s)::(G,t4,n)::(E,t5,m)::(C,t6,l)::(w,t7,k)::(v,t8,j)::(u,t9,i)::(g,t10,d)::(e,t11,a)::r)=dl D ((M,t0,v0)::(J,t1,v1)::(I,t2,v2)::(H,t3,s)::(G,t4,n)::(E,t5,m)::(C,t6,l)::(w,t7,k)::(v,t8,j)::(u,t9,i)::(g,t10,d)::(e,t11,a)::t):=dV (fun _=>rfl) (dV (fun _=>rfl) (dV (fun _=>rfl) (dV (fun _=>rfl) (dV (fun _=>rfl) (dV (fun _=>rfl) (dV (fun _=>rfl) (dV (fun _=>rfl) (dV (fun _=>rfl) (dV (fun _=>rfl) (dV (fun _=>rfl) (dV (fun _=>rfl) h)))))))))))
def wB (a:Nat→Option Value):Operand→Option Value
  |.tmp t=>a t
  |.const v=>some v
  |.func f=>some (.func (.func f) #[] #[])
  |.global _=>none
def A5 (a:Nat→Option Value) (ops:Array Oper):Option (Nat×Bool)→Option Bool
  |none=>some true
  |some (j,b)=>match (ops[j]?).bind (·.dst) with
    |some t=>match a t with
      |some (.bool c)=>some (c==b)
      |some (.tuple _)=>some false
      |_=>none
    |none=>none
def yw (a:Nat→Option Value) (N:Nat) (ops:Array Oper) (o:Oper):Option (Nat×Value) :=
  match o.dst with
  |none=>none
  |some d=>match Nat.blt d N with
    |false=>none
    |true=>match A5 a ops o.guard with
      |none=>none
      |some false=>some (d,undef)
      |some true=>match o.op with
        |.move x=>match wB a x with
          |some v=>some (d,v)
          |none=>none
        |.assign x=>match wB a x with
          |some v=>some (d,v)
          |none=>none
        |.pick x y z=>match wB a x with
          |some (.bool true)=>match wB a y with
            |some v=>some (d,v)
            |none=>none
          |some (.bool false)=>match wB a z with
            |some v=>some (d,v)
            |none=>none
          |_=>none
        |_=>none
theorem wC {a:Nat→Option Value} {S:List (Nat×Value)} (d:∀t v,a t=some v→S.lookup t=some v) {x:Operand} {v:Value} (h:wB a x=some v):ev S x=some v:=by
  cases x with
  |tmp t=>exact d t v h
  |const c=>exact h
  |func f=>exact h
  |global g=>exact h
theorem P2 {a:Nat→Option Value} {S:List (Nat×Value)} {ops:Array Oper} (d:∀t v,a t=some v→S.lookup t=some v) {g:Option (Nat×Bool)} {r:Bool} (h:A5 a ops g=some r):gd ops S g=some r:=by
  cases g with
  |none=>exact h
  |some p=>
    obtain⟨j,b⟩:=p
    unfold A5 at h;unfold gd
    dsimp only at h ⊢
    cases ht:(ops[j]?).bind (·.dst) with
    |none=>rw[ht] at h;cases h
    |some t=>
      rw[ht] at h;dsimp only at h ⊢
      cases hk:a t with
      |none=>rw[hk] at h;cases h
      |some v=>rw[hk] at h;rw[d t v hk];exact h
theorem A6 {F:Fence} [bu F] {P:Program} {w0:World} {K:Nat→Prop} {N:Nat} {dfs:List Deferred} {ops:Array Oper} {Q:Exit→Act→World→Prop} {rest:List Oper} {j:Nat→Option Value} {S:List (Nat×Value)} {L:List Asn} {o:Oper} {t:Nat} {v:Value}
    (i:∀t v,j t=some v→S.lookup t=some v) (e:yw j N ops o=some (t,v)) (h:TO F P w0 K N dfs ops Q rest ((t,v)::S) L):TO F P w0 K N dfs ops Q (o::rest) S L:=by
  obtain⟨dst,op,m,pos,l,g⟩:=o
  unfold yw at e
  cases dst with
  |none=>cases e
  |some d=>
    dsimp only at e
    cases hb:Nat.blt d N with
    |false=>rw[hb] at e;cases e
    |true=>
    have hd:d<N:=Nat.lt_of_lt_of_le (ct d) (Nat.le_of_ble_eq_true hb)
    rw[hb] at e;dsimp only at e
    cases hg:A5 j ops g with
    |none=>rw[hg] at e;cases e
    |some k=>
      rw[hg] at e
      have a:=P2 i hg
      cases k with
      |false=>cases e;exact Mj a hd h
      |true=>
        cases op<;>dsimp only at e<;>first|(cases e;done)|skip
        · split at e
          · cases e;exact CB a hd (wC i (by assumption)) h
          · cases e
        · split at e
          · cases e;exact Mn a hd (wC i (by assumption)) h
          · cases e
        · split at e
          · split at e
            · cases e;exact Gd (b:=true) a hd (wC i (by assumption)) (wC i (by assumption)) h
            · cases e
          · split at e
            · cases e;exact Gd (b:=false) a hd (wC i (by assumption)) (wC i (by assumption)) h
            · cases e
          · cases e
def DX (N:Nat) (ops:Array Oper):Nat→List Oper→List (Nat×Value)→Option (List Oper×List (Nat×Value))
  |0,r,σ=>some (r,σ)
  |n+1,o::r,σ=>match yw (fun t=>σ.lookup t) N ops o with
    |some p=>DX N ops n r (p::σ)
    |none=>none
  |_+1,[],_=>none
theorem zyR {F:Fence} [bu F] {P:Program} {w0:World} {K:Nat→Prop} {N:Nat} {dfs:List Deferred} {ops:Array Oper} {Q:Exit→Act→World→Prop} {L:List Asn} (n:Nat):∀ {rest a:List Oper} {σ d:List (Nat×Value)},
    DX N ops n rest σ=some (a,d)→TO F P w0 K N dfs ops Q a d L→TO F P w0 K N dfs ops Q rest σ L:=by
  induction n with
  |zero=>intro rest a σ d e h;cases e;exact h
  |succ n g=>
    intro rest a σ d e h
    cases rest with
    |nil=>cases e
    |cons o r=>
      simp only[DX] at e
      split at e
      · exact A6 (fun _ _ h=>h) (by assumption) (g e h)
      · cases e
def yx (a:List Nat) (σ:List (Nat×Value)) (t:Nat):List (Nat×Nat×Value)→Option Value
  |[]=>σ.lookup t
  |(i,t',v)::r=>match Nat.beq t t' with
    |true=>match a.contains i with
      |true=>some v
      |false=>none
    |false=>yx a σ t r
theorem A7 {D:Nat→Prop} {a:List Nat} {σ:List (Nat×Value)} (hd:∀j∈a,D j) (t:Nat) (v:Value):∀ {d:List (Nat×Nat×Value)},yx a σ t d=some v→(dl D d++σ).lookup t=some v
  |[],h=>h
  |(i,t',v')::r,h=>by
    unfold yx at h
    cases hb:Nat.beq t t' with
    |true=>
      rw[hb] at h;dsimp only at h
      have e:t=t':=Nat.eq_of_beq_eq_true hb
      subst e
      split at h
      · cases h
        have l:D i:=hd i (by simpa using (by assumption:a.contains i=true))
        simp only[dl]
        rw[am l]
        simp
      · cases h
    |false=>
      rw[hb] at h;dsimp only at h
      have g:=A7 (σ:=σ) hd t v h
      have k:(t==t')=false:=by
        have:t≠t':=Nat.ne_of_beq_eq_false hb
        simpa using this
      simp only[dl]
      split
      · simp only[aX,List.lookup,k];exact g
      · exact g
def sN (N:Nat) (ops:Array Oper) (σ:List (Nat×Value)) (a:List (Nat×Nat×Value)):Nat→List Oper→Nat→Option (List Oper×Nat×List (Nat×Nat×Value))
  |0,r,i=>some (r,i,[])
  |n+1,o::r,i=>match yw (fun t=>yx (jD o) σ t a) N ops o with
    |some p=>match sN N ops σ a n r (i+1) with
      |some q=>some (q.1,q.2.1,(i,p.1,p.2)::q.2.2)
      |none=>none
    |none=>none
  |_+1,[],_=>none
section
variable {F:Fence} {P:Program} {w0:World} {K:Nat→Prop} {N:Nat} {dfs:List Deferred} {Q:Exit→Act→World→Prop} {σ:List (Nat×Value)} {L:List Asn} {ops:Array Oper}
theorem A8 {a:List (Nat×Nat×Value)} {n m i h:Nat} {o:Oper} {r d:List Oper} (e:sN N ops σ a (n+1) (o::r) i=some (d,h,(a.drop m).take (n+1))) :
    ∃t v,yw (fun t=>yx (jD o) σ t a) N ops o=some (t,v)∧a[m]?=some (i,t,v)∧sN N ops σ a n r (i+1)=some (d,h,(a.drop (m+1)).take n):=by
  simp only[sN] at e
  split at e
  · rename_i p hp
    split at e
    · rename_i q j
      obtain⟨q1,q2,k⟩:=q
      simp only[fQ,nU] at e
      obtain⟨rfl,rfl,e⟩:=e
      cases g:a.drop m with
      |nil=>rw[g] at e;simp at e
      |cons x xs=>
        rw[g,List.take_succ_cons,List.cons.injEq] at e
        have hm:a[m]?=some x:=by
          have:(a.drop m)[0]?=some x:=by rw[g];rfl
          simpa using this
        refine⟨p.1,p.2,hp,by rw[hm,←e.1],?_⟩
        have:a.drop (m+1)=xs:=by rw[←ff,g];rfl
        rw[this,←e.2];exact j
    · cases e
  · cases e
theorem zyP [bu F] {d:List (Nat×Nat×Value)} (n m:Nat):∀ {l a:List Oper} {i g:Nat},sN N ops σ d n l i=some (a,g,(d.drop m).take n) →
    bR F P w0 K N dfs Q ops σ L d a g→bR F P w0 K N dfs Q ops σ L d l i:=by
  induction n generalizing m with
  |zero=>intro l a i g e h;cases e;exact h
  |succ n j=>
    intro l a i g e h
    cases l with
    |nil=>cases e
    |cons o r=>
      obtain⟨t,v,h1,h2,h3⟩:=A8 e
      exact zac (fun D s hd k hu hi=>A6 (fun t v h=>A7 hd t v h) h1 (Ah m hu hi h2)) (j (m+1) h3 h)
theorem A9 [bu F] {d:List (Nat×Nat×Value)} {x:Nat} (n m:Nat):∀ {l a:List Oper} {i g:Nat},sN N ops σ d n l i=some (a,g,(d.drop m).take n) →
    dh F P w0 K N dfs Q ops σ L d x a g→dh F P w0 K N dfs Q ops σ L d x l i:=by
  induction n generalizing m with
  |zero=>intro l a i g e h;cases e;exact h
  |succ n j=>
    intro l a i g e h
    cases l with
    |nil=>cases e
    |cons o r=>
      obtain⟨t,v,h1,h2,h3⟩:=A8 e
      exact gQ (fun D s hd k hu hi=>A6 (fun t v h=>A7 hd t v h) h1 (Ah m hu hi h2)) (j (m+1) h3 h)
def tT {β:Type} (S:List Nat) (a:(Nat→Prop)→β→List Asn):Prop:=∀i,S.contains i=false→∀D b,a (fun j=>D j∨j=i) b=a D b
theorem rb {D:Nat→Prop} {i:Nat} {base:Asn} {r:List (Nat×Asn)} {S:List Nat} (a:(r.map bw).all (fun x=>S.contains x)=true) (h:S.contains i=false):eD (fun j=>D j∨j=i) base r=eD D base r:=by
  refine iG ?_
  cases hc:(r.map bw).contains i with
  |false=>rfl
  |true=>
    have h1:i∈r.map bw:=by simpa using hc
    have h2:=bd.1 a i h1
    have h3:S.contains i=true:=h2
    rw[h] at h3;cases h3
theorem DY {β:Type} {a:β→List (Nat×Nat×Value)} {d:(Nat→Prop)→β→List Asn} (hb:¬Nonempty β):∀ (l:List Oper) (i:Nat),fr F P w0 K N dfs Q ops σ a d l i
  |[],_=>trivial
  |o::r,i=>⟨fun D b=>absurd ⟨b⟩ hb,DY hb r (i+1)⟩
theorem re {β:Type} {d:β→List (Nat×Nat×Value)} {e:(Nat→Prop)→β→List Asn} {S:List Nat} {o:Oper} {rest:List Oper} {i:Nat} (m:tT S e) (l:S.contains i=false)
    (hu:∀b,jf ((d b).map (fun p=>p.2.1))=true) (hi:∀b,jf ((d b).map (fun p=>p.1))=true)
    (h:∀ (D:Nat→Prop) (b:β),¬D i→(∀j∈jD o,D j)→Clo ops D→jf ((d b).map (fun p=>p.2.1))=true→jf ((d b).map (fun p=>p.1))=true →
      TO F P w0 K N dfs ops (_root_.Go.Exit.then (fun a w=>At N dfs (dl (fun j=>D j∨j=i) (d b)++σ) a∧Holds w0 K (e D b) w) Q) [o] (dl D (d b)++σ) (e D b))
    (hr:fr F P w0 K N dfs Q ops σ d e rest (i+1)):fr F P w0 K N dfs Q ops σ d e (o::rest) i :=
  lN (fun D b n hd g a w ha k=>by
    have h0:=h D b n hd g (hu b) (hi b) a w ha k
    exact qN (fun s w' h2=>⟨b,h2.1,by rw[m i l D b];exact h2.2⟩) h0) hr
theorem pS [bu F] {β:Type} {a:β→List (Nat×Nat×Value)} {E:(Nat→Prop)→β→List Asn} {S:List Nat} (H:tT S E)
    (hu:∀b,jf ((a b).map (fun p=>p.2.1))=true) (hi:∀b,jf ((a b).map (fun p=>p.1))=true) (n m:Nat):∀ {l d:List Oper} {i g:Nat},
    (∀b,sN N ops σ (a b) n l i=some (d,g,((a b).drop m).take n))→(eW n).all (fun j=>!S.contains (i+j))=true →
    fr F P w0 K N dfs Q ops σ a E d g→fr F P w0 K N dfs Q ops σ a E l i:=by
  induction n generalizing m with
  |zero=>
    intro l d i g e w h
    by_cases hb:Nonempty β
    · obtain⟨b⟩:=hb
      have e:=e b
      simp only[sN,fQ,nU] at e
      obtain⟨rfl,rfl,_⟩:=e
      exact h
    · exact DY hb _ _
  |succ n G=>
    intro l d i g e w h
    by_cases hb:Nonempty β
    · obtain⟨b0⟩:=hb
      cases l with
      |nil=>exact absurd (e b0) (by simp[sN])
      |cons o r=>
        have u:S.contains i=false:=by
          have:=bd.1 w 0 (by simp)
          simpa using this
        have s:(eW n).all (fun j=>!S.contains (i+1+j))=true:=by
          refine bd.2 fun j hj=>?_
          have:=bd.1 w (j+1) (by simp at hj ⊢;omega)
          rwa [show i+(j+1)=i+1+j by omega] at this
        refine re H u hu hi (fun D b J hd I k C=>?_) (G (m+1) (fun b=>?_) s h)
        · obtain⟨t,v,h1,h2,h3⟩:=A8 (e b)
          exact A6 (fun t v h=>A7 hd t v h) h1 (Ah m k C h2)
        · obtain⟨t,v,h1,h2,h3⟩:=A8 (e b)
          exact h3
    · exact DY hb _ _
end
section
variable {F:Fence} {P:Program} {w0:World} {K:Nat→Prop} {N:Nat} {dfs:List Deferred} {Q:Exit→Act→World→Prop} {σ:List (Nat×Value)} {L:List Asn} {ops:Array Oper}
theorem lQ {β:Type} {d:β→List (Nat×Nat×Value)} {g:(Nat→Prop)→β→List Asn} {S:List Nat} {o:Oper} {rest:List Oper} {i:Nat} (m:tT S g) (l:S.contains i=false)
    (hu:∀b,jf ((d b).map (fun p=>p.2.1))=true) (hi:∀b,jf ((d b).map (fun p=>p.1))=true)
    (h:∀ (D:Nat→Prop) (b:β),¬D i→(∀j∈jD o,D j)→Clo ops D→jf ((d b).map (fun p=>p.2.1))=true→jf ((d b).map (fun p=>p.1))=true→∃L',g D b=L' ∧
      TO F P w0 K N dfs ops (_root_.Go.Exit.then (fun a w=>At N dfs (dl (fun j=>D j∨j=i) (d b)++σ) a∧Holds w0 K L' w) Q) [o] (dl D (d b)++σ) L')
    (hr:fr F P w0 K N dfs Q ops σ d g rest (i+1)):fr F P w0 K N dfs Q ops σ d g (o::rest) i :=
  re m l hu hi (fun D b n hd k hu hi=>by obtain⟨L',e,h0⟩:=h D b n hd k hu hi;rw[e];exact h0) hr
end
section
variable {R:Type} {F:Fence} {P:Program} {w0:World} {K:Nat→Prop} {N:Nat} {dfs:List Deferred} {ops:Array Oper} {Q:Exit→Act→World→Prop} {rest:List Oper} {σ:List (Nat×Value)} {L:List Asn} {x:Operand} {c c1 c2:Code} {p q:Option R} {r:R} {b:Bool}
theorem zyB (hc:ev σ x=some (.bool b)) (h:aN b p q=some r) (ht:p=some r→TC F P w0 K N dfs Q c1 σ L) (hf:q=some r→TC F P w0 K N dfs Q c2 σ L):TC F P w0 K N dfs Q (.cond x c1 c2) σ L:=Mr hc (fun e=>ht (oF e h)) (fun e=>hf (oG e h))
theorem zaT [bu F] {b:BinOp} {t i j:TypeId} {d:Nat} {pos:String} {a:Array Edge} {g:Option (Nat×Bool)} {x y:Operand} {v v1 v2:Value} (e:(gd ops σ g,decide (d<N),ev σ x,ev σ y)=(some true,true,some v1,some v2))
    (hb:∀w:World,(do eqGuard b t x y v1 v2;binOp b t v1 v2:Sem Value).run P w=.ok v w) (h:TO F P w0 K N dfs ops Q rest ((d,v)::σ) L) :
    TO F P w0 K N dfs ops Q (⟨some d,.binOp b t x y i,j,pos,a,g⟩::rest) σ L:=by
  simp only[nU] at e
  exact mh e.1 (of_decide_eq_true e.2.1) e.2.2.1 e.2.2.2 hb h
theorem zyN (h:TC F P w0 K N dfs Q c σ L):TO F P w0 K N dfs ops (_root_.Go.Exit.then (c.wpIn F 0 P Q) Q) [] σ L:=zaB (zaz h)
theorem zyG {id:Nat} {l:List Oper} (h:TO F P w0 K N dfs l.toArray (_root_.Go.Exit.then (c.wpIn F 0 P Q) Q) l σ L):TC F P w0 K N dfs Q (.seq (.region id l.toArray false) c) σ L:=zaJ (bX h)
theorem zyH {id:Nat} {l:List Oper} (h:TO F P w0 K N dfs l.toArray (_root_.Go.Exit.then (c.wpIn F 0 P Q) Q) l σ L):TO F P w0 K N dfs ops (_root_.Go.Exit.then ((Code.seq (.region id l.toArray false) c).wpIn F 0 P Q) Q) [] σ L:=zaB (zaz (zaJ (bX h)))
theorem zyS {s:Nat} (a:σ.lookup s=some (.bool b)) (h:aN b p q=some r) (ht:p=some r→TO F P w0 K N dfs ops Q rest ((s,.bool true)::σ) L) (hf:q=some r→TO F P w0 K N dfs ops Q rest ((s,.bool false)::σ) L):TO F P w0 K N dfs ops Q rest σ L:=Mt a (fun e=>ht (oF e h)) (fun e=>hf (oG e h))
theorem Wv (h:aN b p q=some r) (ht:p=some r→TO F P w0 K N dfs ops Q rest σ L) (hf:q=some r→TO F P w0 K N dfs ops Q rest σ L):TO F P w0 K N dfs ops Q rest σ L:=tI (b:=b) (fun e=>ht (oF e h)) (fun e=>hf (oG e h))
theorem Ww (h:aN b p q=some r) (ht:p=some r→TC F P w0 K N dfs Q c σ L) (hf:q=some r→TC F P w0 K N dfs Q c σ L):TC F P w0 K N dfs Q c σ L:=vJ (b:=b) (fun e=>ht (oF e h)) (fun e=>hf (oG e h))
abbrev Wx (F:Fence) (P:Program) (w0:World) (K:Nat→Prop) (N:Nat) (dfs:List Deferred) (ops:Array Oper) (Q:Exit→Act→World→Prop) (rest:List Oper) (σ:List (Nat×Value)) (L:List Asn):Prop:=TO F P w0 K N dfs ops Q rest σ L
end
abbrev fU (x:bN):List Value:=[.int .i32 x.Rune,.string x.Text,zI x.At]
abbrev gX (x:c7):List Value:=[zI x.sort,zI x.place,.string x.digits,.string x.marks,zI x.great]
abbrev pU (x:gW):List Value:=[.string x.e0,.string x.e1,.string x.e2]
abbrev kN (x:zaw):List Value:=[zI x.Err,zI x.At]
abbrev bH (v:Value):=vec hO 9 1 v
abbrev eA (v:Value):=vec (kV (.i32)) 21 1 v
abbrev eI (v:Value):=vec o9 81 3 v
abbrev jI (v:Value):=vec qW 91 5 v
abbrev jJ (v:Value):=vec yk 100 5 v
abbrev qy (v:Value):=vec H8 137 3 v
abbrev np (v:Value):=vec l8 123 5 v
abbrev pw (v:Value):=vec oN 132 4 v
abbrev tU (v:Value):=vec uG 111 2 v
abbrev uP (v:Value):=vec wq 106 2 v
def sO (r1:Int):Option Bool := aN (decide ((r1:Int)<0)) (some true) (aN (decide ((1114111:Int)<r1)) (some true) (aN (decide ((55296:Int)≤r1)) (some (decide ((r1:Int)≤57343))) (some false)))
theorem yy {r1:Int} {r:Bool} (h:sO r1=some r):dN prog 132 [.int .i32 r1] (.bool r):=by
 unfold sO at h
 refine dN.intro func132 rfl ntmps132 (by simp) (fun w0 K=>zyG (zyR 1 rfl (zyH (zyR 1 rfl (zaT rfl zbd (zyR 1 rfl (zyS (s:=5) rfl h (fun h=>?_) (fun h=>?_))))))))
 ·refine zyR 12 rfl (zyN (zaA ?_))
  cases h
  exact cX 2 qg
 refine zyR 1 rfl (zaT rfl zd4 (zyR 2 rfl (zyS (s:=9) rfl h (fun h=>?_) (fun h=>?_))))
 ·refine zyR 8 rfl (zyN (zaA ?_))
  cases h
  exact cX 2 qg
 refine zyR 1 rfl (zaT rfl zbF (zyR 1 rfl (zyS (s:=12) rfl h (fun h=>?_) (fun h=>?_))))
 ·refine zyR 1 rfl (zaT rfl io (zyR 3 rfl (zyN (zaA ?_))))
  cases h
  exact cX 2 qg
 refine zyR 5 rfl (zyN (zaA ?_))
 cases h
 exact cX 2 qg
def sP (r1:Int):Option Int := aT (sO r1) fun (r2:Bool)=>aN (r2) (some 0) (aN (decide ((r1:Int)<128)) (some 1) (aN (decide ((r1:Int)<2048)) (some 2) (aN (decide ((r1:Int)<65536)) (some 3) (some 4))))
theorem DZ {r1:Int} {r:Int} (h:sP r1=some r):dN prog 133 [.int .i32 r1] (zI r):=by
 unfold sP at h
 refine dN.intro func133 rfl ntmps133 (by simp) (fun w0 K=>zyG (zyR 1 rfl (zyN (zaJ (zat (zyG (zyR 1 rfl (zbk h fun r2 a h=>zaI (v:=.bool r2) (vs:=[.int .i32 r1]) rfl dc rfl rfl rfl yi (yy a) (zyR 1 rfl (zyN (zyB rfl h (fun h=>?_) (fun h=>?_))))))))))))
 ·refine zyG (zyR 1 rfl (zyN (zaA (cx (bP ?_)))))
  cases h
  exact cX 2 ng
 refine zyG (zyR 1 rfl (zaT rfl zbd (zyR 1 rfl (zyN (zyB rfl h (fun h=>?_) (fun h=>?_))))))
 ·refine zyG (zyR 1 rfl (zyN (zaA (cx (bP ?_)))))
  cases h
  exact cX 2 ng
 refine zyG (zyR 1 rfl (zaT rfl zbd (zyR 1 rfl (zyN (zyB rfl h (fun h=>?_) (fun h=>?_))))))
 ·refine zyG (zyR 1 rfl (zyN (zaA (cx (bP ?_)))))
  cases h
  exact cX 2 ng
 refine zyG (zyR 1 rfl (zaT rfl zbd (zyR 1 rfl (zyN (zyB rfl h (fun h=>?_) (fun h=>?_))))))
 ·refine zyG (zyR 1 rfl (zyN (zaA (cx (bP ?_)))))
  cases h
  exact cX 2 ng
 refine zap (cd (zaz (zyG (zyR 1 rfl (zyN (zaA ?_))))))
 cases h
 exact cX 2 ng
def zb9 (h:Int→(List Int)→Option ad) (g:Int→(List Int)→Int→Option ad) (a:Int) (e:List Int) (d:Int):Option ad := aN (decide ((0:Int)<d)) (aV (fB (128+(mC a 64))) <|aT (zca e d) fun (q1:Int)=>aV (fB (ry a 64)) <|aV (cr (d-1)) <|g (ry a 64) (e.set (d:Int).toNat (IntKind.u8.wrap (128+(mC a 64)))) (d-1)) (h a e)
def rO (r1:Int):Option ad := co (fun (e:Int→Option ad)=>aT (sO r1) fun (r3:Bool)=>aN (r3) (e 65533) (e r1)) (fun (r2:Int)=>aT (sP r2) fun (a:Int)=>aN ((a:Int)==1) (aV (∀x∈([IntKind.u8.wrap r2]:List Int),U8 x) <|some (gj ([IntKind.u8.wrap r2]:List Int))) (co (fun (g:Int→(List Int)→Option ad)=>aV (0≤a∧a≤2147483648) <|aV (cr (a-1)) <|zaC (fun _ _ _=>none) (zb9 g) zbx r2 (bE (a:Int).toNat 0:List Int) (a-1)) (fun (d:Int) (b2:List Int)=>aV (cr (8-a)) <|aV (0≤(8-a)) <|aV (cr (256-(lK .i64 1 (8-a)))) <|aV (cr d) <|aV (cr ((256-(lK .i64 1 (8-a)))+d)) <|aT (zca b2 0) fun (q2:Int)=>aV (∀x∈b2.set (0:Int).toNat (IntKind.u8.wrap ((256-(lK .i64 1 (8-a)))+d)),U8 x) <|some (gj (b2.set (0:Int).toNat (IntKind.u8.wrap ((256-(lK .i64 1 (8-a)))+d)))))))
theorem Ba {r1:Int} {r:ad} (h:rO r1=some r):dN prog 84 [.int .i32 r1] (.string r):=by
 unfold rO at h
 refine dN.intro func84 rfl ntmps84 (by simp) (fun w0 K=>zbq h fun j1 H h=>zaL (β:=Int) 1 rfl (fun b=>j1 b=some r) (fun b=>[]) (fun b=>[(0,.int .i32 b)]) (fun b=>[]) (fun cut=>zyG (zyR 1 rfl (zyN (cut (zyG (zyR 1 rfl (zbk h fun r3 E h=>zaI (v:=.bool r3) (vs:=[.int .i32 r1]) rfl dc rfl rfl rfl yi (yy E) (zyN (zyB rfl h (fun h=>bX (zyR 1 rfl (zaB (cL 65533 h rfl (bI rfl) ah)))) (fun h=>zap (cL r1 h rfl (bI rfl) ah))))))))))) (fun r2 h=>?_))
 rw[H] at h
 refine zyG (zyR 1 rfl (zbk h fun a D h=>zaI (v:=zI a) (vs:=[.int .i32 r2]) rfl dc rfl rfl rfl DA (DZ D) (zyR 1 rfl (zyN (zaJ (zyG (zyR 1 rfl (zaT rfl zbm (zyN (zyB rfl h (fun h=>?_) (fun h=>?_)))))))))))
 ·refine zyG (zyR 1 rfl (zcH rfl dc rfl (zeW aZ cu) (fx (cs:=[.int .u8 (IntKind.u8.wrap r2)]) (te:=5) (ps:=[(0,.tmp 13)]) rfl dc rfl (fun _=>by kernel_rfl) (fun b1=>nE ([IntKind.u8.wrap r2]:List Int) (k:=0) rfl jE rfl (show 1≤maxLen by decide) (zbs h fun Y h=>qQ (k:=0) rfl (uz Y) (rC (k:=0) rfl dc rfl rfl cg cu an (zyR 1 rfl (zyN (zaA (bP ?_))))))))))
  cases h
  exact cX 2 results84
 refine zap (zaz (zbq h fun w G h=>zaL (β:=Int×(List Int)×Value) 1 rfl (fun b=>w b.1 b.2.1=some r) (fun b=>[]) (fun b=>[(0,.int .i32 b.1),(3,zI a),(4,b.2.2)]) (fun b=>[vec (kV (.u8)) 5 1 b.2.2 b.2.1]) (fun cut=>?_) ?_))
 ·refine zyG (zyR 1 rfl (zbs h fun W h=>GE (z:=0) cg Ny Nx jE rfl dc rfl W (fun v2=>zyR 1 rfl (zyN (cut (zyG (zyR 1 rfl (zbs h fun V h=>zaT rfl (k9 (r:=a-1) (ai _ V)) (zyR 1 rfl (zyN (zat (eF (β:=Nat×Int×(List Int)×Int) (fun b=>zaC (fun _ _ _=>none) (zb9 w) b.1 b.2.1 b.2.2.1 b.2.2.2=some r) (fun b=>[]) (fun b=>[(0,.int .i32 b.2.1),(3,zI a),(4,v2),(5,zI b.2.2.2)]) (fun b=>[vec (kV (.u8)) 5 1 v2 b.2.2.1]) (fun b=>b.1) (zbx,r2,(bE (a:Int).toNat 0:List Int),a-1) h rfl (bI rfl) (cp 1) ?_))))))))))))
  rintro⟨u,e,Z,g⟩ h
  cases u with
  |zero=>exact ew h
  |succ u=>
   obtain⟨ao,d⟩:∃ag,ag=zaC (fun _ _ _=>none) (zb9 w) u:=⟨_,rfl⟩
   have h:zb9 w ao e Z g=some r:=by rw[d];exact h
   unfold zb9 at h
   refine zaJ (zyG (zyR 1 rfl (zaT rfl zd4 (zyN (zyB rfl h (fun h=>?_) (fun h=>?_))))))
   ·refine zap (zaz (zaJ (zat (zyG (zyR 3 rfl (zaT rfl (MB dc rfl) (zbs h fun U h=>zaT rfl (dA (r:=128+(mC e 64)) (eh _ U)) (zcH rfl dc rfl (zeW aZ cu) (zbk h fun q1 m h=>eJ (k:=0) m cg uE rfl dc rfl rfl rfl rfl (qs (i:=(g:Int).toNat) (j:=0) (k:=0) (q:=q1) (q':=IntKind.u8.wrap (128+(mC e 64))) uE jE rfl rfl rfl rfl (ei m) rfl dc rfl (fun _ _=>rfl) (zyN (bX (zyR 1 rfl (zbs h fun T h=>zaT rfl (MA dc (eh _ T)) (zyR 1 rfl (zaB (cd (zaz (bX (zyR 1 rfl (zbs h fun O h=>zaT rfl (k9 (r:=g-1) (ai _ O)) (zyR 1 rfl (zaB ?_)))))))))))))))))))))))
    subst d
    exact aD (u,ry e 64,Z.set (g:Int).toNat (IntKind.u8.wrap (128+(mC e 64))),g-1) h 1
   exact dy (bV (bV (dz (mD (e,Z,v2) h 1))))
 rintro⟨C,b2,v1⟩ h
 rw[G] at h
 refine zyG (zyR 2 rfl (zbs h fun M h=>zaT rfl (k9 (r:=8-a) (ai _ M)) (zbs h fun J h=>zaT rfl (GA J) (zbs h fun I h=>zaT rfl (k9 (r:=256-(lK .i64 1 (8-a))) (ai _ I)) (zyR 1 rfl (zbs h fun t h=>zcH rfl dc rfl (vG (r:=C) aZ underlying3 (ai _ t)) (zbs h fun s h=>zaT rfl (dA (r:=(256-(lK .i64 1 (8-a)))+C) (ai _ s)) (zcH rfl dc rfl (zeW underlying3 cu) (zbk h fun q2 l h=>eJ (k:=0) l cg uE rfl dc rfl rfl rfl rfl (qs (i:=(0:Int).toNat) (j:=0) (k:=0) (q:=q2) (q':=IntKind.u8.wrap ((256-(lK .i64 1 (8-a)))+C)) uE jE rfl rfl rfl rfl (ei l) rfl dc rfl (fun _ _=>rfl) (zyH (zyR 1 rfl (zbs h fun n h=>qQ (k:=0) rfl (uz n) (rC (k:=0) rfl dc rfl rfl cg cu an (zyR 1 rfl (zyN (zaA ?_)))))))))))))))))
 cases h
 exact cX 2 results84
def ze1 (h:ad) (e:Int) (i:Int) (j:Int→Option (Int×Int)) (g:Int→Int→Option (Int×Int)) (a:Int) (d:Int):Option (Int×Int) := aN (decide ((d:Int)<i)) (aV (fB (a*64)) <|aV (cr (e+d)) <|aT (jQ h (e+d)) fun (c2:Int)=>aV (fB c2) <|aV (fB ((a*64)+c2)) <|aV (fB (((a*64)+c2)-128)) <|aV (cr (d+1)) <|g (((a*64)+c2)-128) (d+1)) (j a)
def zex (e:ad) (a:Int) (j:Option (Int×Int)) (h:Int→Option (Int×Int)) (d:Int):Option (Int×Int) := aN (decide ((d:Int)≤4)) (aV (cr (a+d)) <|aN (decide (((a+d):Int)≤(e.size:Int))) (co (fun (g:Option (Int×Int))=>co (fun (i:Int→Option (Int×Int))=>aT (jQ e a) fun (c1:Int)=>aV (fB c1) <|aN (decide ((1:Int)<d)) (aV (cr (8-d)) <|aV (0≤(8-d)) <|aV (fB (256-(lK .i32 1 (8-d)))) <|aV (fB (c1-(256-(lK .i32 1 (8-d))))) <|i (c1-(256-(lK .i32 1 (8-d))))) (i c1)) (fun (r1:Int)=>co (fun (n:Int→Option (Int×Int))=>zaC (fun _ _=>none) (ze1 e a d n) zbx r1 1) (fun (r2:Int)=>aT (sO r2) fun (m:Bool)=>aN (!m) (aT (sP r2) fun (l:Int)=>aN ((l:Int)==d) (aT (rO r2) fun (k:ad)=>aV (cr (a+d)) <|aV (0≤(a:Int)∧(a:Int)≤(a+d)∧(a+d:Int)≤(e.size:Int)) <|aN (decide (k=cO e a (a+d))) (some (r2,d)) (g)) (g)) (g)))) (aV (cr (d+1)) <|h (d+1))) (j)) (j)
def yz (d:ad) (a:Int):Option (Int×Int) := co (fun (e:Option (Int×Int))=>zaC (fun _=>none) (zex d a e) zbx 1) (some (0,0))
theorem P3 {g:ad} {a:Int} {r:(Int×Int)} (h:yz g a=some r):dN prog 160 [.string g,zI a] (.tuple #[.int .i32 r.1,zI r.2]):=by
 unfold yz at h
 refine dN.intro func160 rfl ntmps160 (by simp) (fun w0 K=>zbq h fun Z a4 h=>zaL (β:=Unit) 1 rfl (fun b=>Z=some r) (fun b=>[]) (fun b=>[]) (fun b=>[]) (fun cut=>?_) ?_)
 ·refine zyG (zyR 2 rfl (zyN (cut (zyG (zyR 1 rfl (zyN (zat (eF (β:=Nat×Int) (fun b=>zaC (fun _=>none) (zex g a Z) b.1 b.2=some r) (fun b=>[]) (fun b=>[(0,.string g),(1,zI a),(6,zI b.2)]) (fun b=>[]) (fun b=>b.1) (zbx,1) h rfl (bI rfl) ah ?_))))))))
  rintro⟨W,e⟩ h
  cases W with
  |zero=>exact ew h
  |succ W=>
   obtain⟨b1,w⟩:∃ag,ag=zaC (fun _=>none) (zex g a Z) W:=⟨_,rfl⟩
   have h:zex g a Z b1 e=some r:=by rw[w];exact h
   unfold zex at h
   refine zaJ (zyG (zyR 1 rfl (zaT rfl io (zyR 1 rfl (zyS (s:=11) rfl h (fun h=>?_) (fun h=>?_))))))
   ·refine zyR 2 rfl (zbs h fun bs h=>zaT rfl (dA (r:=a+e) (ai _ bs)) (zyR 1 rfl (zcG rfl dc rfl an (zaT rfl io (zyR 1 rfl (zyN (zyB rfl h (fun h=>?_) (fun h=>?_))))))))
    ·refine zap (zaz (zbq h fun j2 a3 h=>zaL (β:=Unit) 0 rfl (fun b=>j2=some r) (fun b=>[]) (fun b=>[(0,.string g),(1,zI a),(6,zI e),(12,zI a),(13,zI e),(14,zI (a+e)),(15,.string g),(16,zI (g.size:Int)),(17,.bool (decide (((a+e):Int)≤(g.size:Int))))]) (fun b=>[]) (fun cut=>?_) ?_))
     ·refine cut (zat (zbq h fun j3 a2 h=>zaL (β:=Int) 1 rfl (fun b=>j3 b=some r) (fun b=>[]) (fun b=>[(0,.string g),(1,zI a),(6,zI e),(7,.int .i32 b),(12,zI a),(13,zI e),(14,zI (a+e)),(15,.string g),(16,zI (g.size:Int)),(17,.bool (decide (((a+e):Int)≤(g.size:Int))))]) (fun b=>[]) (fun cut=>zyG (zyR 2 rfl (zbk h fun c1 a0 h=>nj rfl dc rfl rfl (pq an a0) (zbs h fun bk h=>zcH rfl dc rfl (vG (r:=c1) cu aZ (eh _ bk)) (zyR 1 rfl (zyN (cut (zyG (zyR 1 rfl (zaT rfl zd4 (zyN (zyB rfl h (fun h=>bX (zyR 2 rfl (zbs h fun bh h=>zaT rfl (k9 (r:=8-e) (ai _ bh)) (zbs h fun bb h=>zaT rfl (GA bb) (zbs h fun a9 h=>zaT rfl (k9 (r:=256-(lK .i32 1 (8-e))) (eh _ a9)) (zbs h fun a8 h=>zaT rfl (k9 (r:=c1-(256-(lK .i32 1 (8-e)))) (eh _ a8)) (zyR 1 rfl (zaB (cL (c1-(256-(lK .i32 1 (8-e)))) h rfl (bI rfl) ah))))))))) (fun h=>zap (cL c1 h rfl (bI rfl) ah)))))))))))))) (fun r1 h=>?_)))
      rw[a2] at h
      refine zbq h fun Y a1 h=>zaL (β:=Int) 0 rfl (fun b=>Y b=some r) (fun b=>[]) (fun b=>[(0,.string g),(1,zI a),(6,zI e),(7,.int .i32 b),(12,zI a),(13,zI e),(14,zI (a+e)),(15,.string g),(16,zI (g.size:Int)),(17,.bool (decide (((a+e):Int)≤(g.size:Int))))]) (fun b=>[]) (fun cut=>?_) ?_
      ·refine cut (zyG (zyR 1 rfl (zyN (zat (eF (β:=Nat×Int×Int) (fun b=>zaC (fun _ _=>none) (ze1 g a e Y) b.1 b.2.1 b.2.2=some r) (fun b=>[]) (fun b=>[(0,.string g),(1,zI a),(6,zI e),(7,.int .i32 b.2.1),(8,zI b.2.2),(12,zI a),(13,zI e),(14,zI (a+e)),(15,.string g),(16,zI (g.size:Int)),(17,.bool (decide (((a+e):Int)≤(g.size:Int))))]) (fun b=>[]) (fun b=>b.1) (zbx,r1,1) h rfl (bI rfl) ah ?_)))))
       rintro⟨V,G,i3⟩ h
       cases V with
       |zero=>exact ew h
       |succ V=>
        obtain⟨b0,t⟩:∃ag,ag=zaC (fun _ _=>none) (ze1 g a e Y) V:=⟨_,rfl⟩
        have h:ze1 g a e Y b0 G i3=some r:=by rw[t];exact h
        unfold ze1 at h
        refine zaJ (zyG (zyR 2 rfl (zaT rfl zbd (zyN (zyB rfl h (fun h=>?_) (fun h=>?_))))))
        ·refine zap (zaz (zaJ (zat (bX (zyR 1 rfl (zbs h fun a7 h=>zaT rfl (Mz (r:=G*64) (eh _ a7)) (zyR 3 rfl (zbs h fun a6 h=>zaT rfl (dA (r:=a+i3) (ai _ a6)) (zbk h fun c2 aw h=>nj rfl dc rfl rfl (pq an aw) (zbs h fun a5 h=>zcH rfl dc rfl (vG (r:=c2) cu aZ (eh _ a5)) (zbs h fun U h=>zaT rfl (dA (r:=(G*64)+c2) (eh _ U)) (zbs h fun T h=>zaT rfl (k9 (r:=((G*64)+c2)-128) (eh _ T)) (zyR 1 rfl (zaB (cd (zaz (bX (zyR 1 rfl (zbs h fun O h=>zaT rfl (dA (r:=i3+1) (ai _ O)) (zyR 1 rfl (zaB ?_)))))))))))))))))))))
         subst t
         exact nB (V,((G*64)+c2)-128,i3+1) h (ct _) rfl (bI rfl) ah
        exact dy (bV (bV (dz (cL G h rfl (bI rfl) ah))))
      rintro r2 h
      rw[a1] at h
      refine zaJ (zbk h fun m E h=>vJ (b:=!m) (fun k=>?_) (fun k=>?_))
      ·have h:=oF k h
       refine zbk h fun C H h=>vJ (b:=(C:Int)==e) (fun l=>?_) (fun l=>?_)
       ·have h:=oF l h
        refine zbk h fun r8 ao h=>zbs h fun M h=>zbs h fun J h=>zcI 18 [(0,48,.int .i32 r2),(1,49,.bool m),(2,50,.bool true),(3,51,.bool true),(4,52,.int .i32 r2),(5,53,zI C),(6,54,zI e),(7,55,.bool true),(8,56,.bool true),(9,57,.bool true),(10,58,.int .i32 r2),(11,59,.string r8),(12,60,.string g),(13,61,zI a),(14,62,zI a),(15,63,zI e),(16,64,zI (a+e)),(17,65,.string (cO g a (a+e)))] mixed kr kr dc (by rfl) kr kr (zyP 1 0 rfl (zac (fun D n d c u i=>zaI (v:=.bool m) (vs:=[.int .i32 r2]) rfl dc rfl (dv (bt 0 u d) eX) rfl yi (yy E) (zaN 1 u i)) (zac (fun D n d c u i=>jW rfl dc (bt 1 u d) km (pp (show ay (!m)=ay true from aM ay k) (zaN 2 u i))) (zyP 2 3 rfl (zac (fun D n d c u i=>zaI (v:=zI C) (vs:=[.int .i32 r2]) (lZ rfl (bt 3 u d)) dc rfl (dv (bt 4 u d) eX) rfl DA (DZ H) (zaN 5 u i)) (zyP 1 6 rfl (zac (fun D n d c u i=>mh (lZ rfl (bt 3 u d)) dc (bt 5 u d) (bt 6 u d) zbm (pp (show ay ((C:Int)==e)=ay true from aM ay l) (zaN 7 u i))) (zyP 3 8 rfl (zac (fun D n d c u i=>zaI (v:=.string r8) (vs:=[.int .i32 r2]) (lZ rfl (bt 9 u d)) dc rfl (dv (bt 10 u d) eX) rfl AQ (Ba ao) (zaN 11 u i)) (zyP 4 12 rfl (zac (fun D n d c u i=>mh (lZ rfl (bt 9 u d)) dc (bt 14 u d) (bt 15 u d) (dA (r:=a+e) (ai _ M)) (zaN 16 u i)) (zac (fun D n d c u i=>iA (lZ rfl (bt 9 u d)) dc (bt 12 u d) (evO.some (bt 13 u d)) (evO.some (bt 16 u d)) (kA (i:=a) (j:=a+e) an (.inr rfl) (.inr rfl) J) (zaN 17 u i)) bQ)))))))))))) (zaT rfl zdp (zyR 1 rfl (zyN (zyB rfl h (fun h=>?_) (fun h=>?_)))))
        ·refine zyG (zyR 4 rfl (zyN (zaA (cx (bP (bP (cx (bP ?_))))))))
         cases h
         exact eu (rs:=[.tmp 4,.tmp 5]) () (.inl rfl) results160 (.cons (.tmp rfl) (.cons (.tmp rfl) .nil)) rfl ah
        exact zap (cd (cL () h rfl (bI rfl) ah))
       have h:=oG l h
       exact zcI 18 [(0,48,.int .i32 r2),(1,49,.bool m),(2,50,.bool true),(3,51,.bool true),(4,52,.int .i32 r2),(5,53,zI C),(6,54,zI e),(7,55,.bool false),(8,56,.bool false),(9,57,.bool false),(10,58,undef),(11,59,undef),(12,60,undef),(13,61,undef),(14,62,undef),(15,63,undef),(16,64,undef),(17,65,undef)] mixed kr kr dc (by rfl) kr kr (zyP 1 0 rfl (zac (fun D n d c u i=>zaI (v:=.bool m) (vs:=[.int .i32 r2]) rfl dc rfl (dv (bt 0 u d) eX) rfl yi (yy E) (zaN 1 u i)) (zac (fun D n d c u i=>jW rfl dc (bt 1 u d) km (pp (show ay (!m)=ay true from aM ay k) (zaN 2 u i))) (zyP 2 3 rfl (zac (fun D n d c u i=>zaI (v:=zI C) (vs:=[.int .i32 r2]) (lZ rfl (bt 3 u d)) dc rfl (dv (bt 4 u d) eX) rfl DA (DZ H) (zaN 5 u i)) (zyP 1 6 rfl (zac (fun D n d c u i=>mh (lZ rfl (bt 3 u d)) dc (bt 5 u d) (bt 6 u d) zbm (pp (show ay ((C:Int)==e)=ay false from aM ay l) (zaN 7 u i))) (zyP 10 8 rfl bQ)))))))) (zyR 2 rfl (zyN (za8 rfl (zap (cd (cL () h rfl (bI rfl) ah))))))
      have h:=oG k h
      exact zcI 18 [(0,48,.int .i32 r2),(1,49,.bool m),(2,50,.bool false),(3,51,.bool false),(4,52,undef),(5,53,undef),(6,54,undef),(7,55,undef),(8,56,.bool false),(9,57,.bool false),(10,58,undef),(11,59,undef),(12,60,undef),(13,61,undef),(14,62,undef),(15,63,undef),(16,64,undef),(17,65,undef)] mixed kr kr dc (by rfl) kr kr (zyP 1 0 rfl (zac (fun D n d c u i=>zaI (v:=.bool m) (vs:=[.int .i32 r2]) rfl dc rfl (dv (bt 0 u d) eX) rfl yi (yy E) (zaN 1 u i)) (zac (fun D n d c u i=>jW rfl dc (bt 1 u d) km (pp (show ay (!m)=ay false from aM ay k) (zaN 2 u i))) (zyP 15 3 rfl bQ)))) (zyR 2 rfl (zyN (za8 rfl (zap (cd (cL () h rfl (bI rfl) ah))))))
     rintro _ h
     rw[a3] at h
     refine bX (zyR 1 rfl (zbs h fun I h=>zaT rfl (dA (r:=e+1) (ai _ I)) (zyR 1 rfl (zaB ?_))))
     subst w
     exact nB (W,e+1) h (ct _) rfl (bI rfl) ah
    exact dy (bV (bV (dz (cL () h rfl (rA) ah))))
   exact zyR 7 rfl (zyN (za8 rfl (dy (bV (bV (dz (cL () h rfl (rA) ah)))))))
 rintro _ h
 rw[a4] at h
 refine zyG (zyR 2 rfl (zyN (zaA ?_)))
 cases h
 exact eu (rs:=[.tmp 4,.tmp 5]) () (.inl rfl) results160 (.cons (.tmp rfl) (.cons (.tmp rfl) .nil)) rfl ah
def yA (d:ad) (a:Int):Option cY := aT (yz d a) fun (r1:(Int×Int))=>aN (decide ((0:Int)<r1.2)) (some (⟨a,r1.2,r1.1,false⟩:cY)) (some (⟨a,1,65533,true⟩:cY))
theorem P4 {d:ad} {a:Int} {r:cY} (h:yA d a=some r):dN prog 131 [.string d,zI a] (.agg #[zI r.At,zI r.Width,.int .i32 r.Rune,.bool r.Broken]):=by
 unfold yA at h
 refine dN.intro func131 rfl ntmps131 (by simp) (fun w0 K=>zyG (zbi zjr rfl dc (fun b1=>zyN (zaJ (zyG (zyR 2 rfl (zbk h fun r1 e h=>zaI (v:=.tuple #[.int .i32 r1.1,zI r1.2]) (vs:=[.string d,zI a]) rfl dc rfl rfl rfl OT (P3 e) (zyR 1 rfl (eY rfl dc rfl rfl (eY rfl dc rfl rfl (zyR 2 rfl (zyH (zyR 1 rfl (zaT rfl zd4 (zyN (zyB rfl h (fun h=>?_) (fun h=>?_)))))))))))))))))
 ·refine zyG (zyR 3 rfl (zbf (v:=.agg #[zI a,zI r1.2,.int .i32 r1.1,.bool false]) (ps:=[(0,.tmp 15),(1,.tmp 16),(2,.tmp 17)]) rfl dc rfl (fun _=>by kernel_rfl) (eE (k:=0) (vs:=[zI a,zI r1.2,.int .i32 r1.1,.bool false]) (l':=[zI a,zI r1.2,.int .i32 r1.1,.bool false]) kM rfl rfl rfl rfl rfl (show _≤_ by simp) rfl rfl (zyN (zaA (bP ?_))))))
  cases h
  exact eu (rs:=[.cell 4 132]) () (.inl rfl) results131 (.cons (.cells lO (k:=0) rfl rfl rfl) .nil) rfl ah
 refine zap (zaz (zyG (zyR 1 rfl (zbf (v:=.agg #[zI a,zI 1,.int .i32 65533,.bool true]) (ps:=[(0,.tmp 19),(1,.const (zI 1)),(2,.const (.int .i32 65533)),(3,.const (.bool true))]) rfl dc rfl (fun _=>by kernel_rfl) (eE (k:=0) (vs:=[zI a,zI 1,.int .i32 65533,.bool true]) (l':=[zI a,zI 1,.int .i32 65533,.bool true]) kM rfl rfl rfl rfl rfl (show _≤_ by simp) rfl rfl (zyN (zaA ?_)))))))
 cases h
 exact eu (rs:=[.cell 4 132]) () (.inl rfl) results131 (.cons (.cells lO (k:=0) rfl rfl rfl) .nil) rfl ah
def zeJ (g:ad) (h:(List cY)→Option (List cY)) (e:(List cY)→Int→Option (List cY)) (d:List cY) (a:Int):Option (List cY) := aN (decide ((a:Int)<(g.size:Int))) (aT (yA g a) fun (r1:cY)=>aV (d.length+1≤2147483648) <|aV (cr (a+r1.Width)) <|e (d++[r1]) (a+r1.Width)) (h d)
def yB (a:ad):Option (List cY) := co (fun (e:(List cY)→Option (List cY))=>zaC (fun _ _=>none) (zeJ a e) zbx ([]:List cY) 0) (fun (d:List cY)=>some d)
theorem P5 {g:ad} {r:(List cY)} (h:yB g=some r):Fn prog 79 [.string g] [] (fun v0:Value=>v0) (fun v0=>[pw v0 r]):=by
 unfold yB at h
 refine _root_.Go.Proofs.YtifpjbgnikjglaaGreatDoor.Fn.intro func79 rfl ntmps79 (by simp) (fun w0 K=>zbq h fun j n h=>zaL (β:=(List cY)×Value) 2 rfl (fun b=>j b.1=some r) (fun b=>[]) (fun b=>[(3,b.2)]) (fun b=>[pw b.2 b.1]) (fun cut=>?_) ?_)
 ·refine zyG (zyR 1 rfl (zyH (zyR 1 rfl (zyN (cut (zyG (zyR 1 rfl (zyN (zat (nD (enc:=oN) (e:=132) (size:=4) (eF (β:=Nat×(List cY)×Int×Value) (fun b=>zaC (fun _ _=>none) (zeJ g j) b.1 b.2.1 b.2.2.1=some r) (fun b=>[]) (fun b=>[(0,.string g),(3,b.2.2.2),(4,zI b.2.2.1)]) (fun b=>[pw b.2.2.2 b.2.1]) (fun b=>b.1) (zbx,([]:List cY),0,(.slice none 0 0)) h rfl (bI rfl) (cp 1) ?_)))))))))))
  rintro⟨i,l,a,C⟩ h
  cases i with
  |zero=>exact ew h
  |succ i=>
   obtain⟨u,d⟩:∃ag,ag=zaC (fun _ _=>none) (zeJ g j) i:=⟨_,rfl⟩
   have h:zeJ g j u l a=some r:=by rw[d];exact h
   unfold zeJ at h
   refine zaJ (zyG (zyR 2 rfl (zcG rfl dc rfl an (zaT rfl zbd (zyN (zyB rfl h (fun h=>?_) (fun h=>?_)))))))
   ·refine zap (zaz (zat (zyG (zyR 2 rfl (zbk h fun r1 m h=>zaI (v:=.agg #[zI r1.At,zI r1.Width,.int .i32 r1.Rune,.bool r1.Broken]) (vs:=[.string g,zI a]) rfl dc rfl rfl rfl OK (P4 m) (zbi zjr rfl dc (fun b1=>eE (k:=1) (vs:=[zI r1.At,zI r1.Width,.int .i32 r1.Rune,.bool r1.Broken]) (l':=[zI r1.At,zI r1.Width,.int .i32 r1.Rune,.bool r1.Broken]) kM rfl rfl rfl rfl rfl (show _≤_ by simp) rfl rfl (zyH (zyR 1 rfl (zbR (k:=1) (cs:=[zI r1.At,zI r1.Width,.int .i32 r1.Rune,.bool r1.Broken]) lO rfl dc rfl rfl rfl rfl (fx (cs:=[zI r1.At,zI r1.Width,.int .i32 r1.Rune,.bool r1.Broken]) (te:=132) (ps:=[(0,.tmp 14)]) rfl dc rfl (fun _=>by kernel_rfl) (fun b2=>zbs h fun t h=>iT (k:=0) (k2:=2) (ys:=[r1]) cG Hu AW H6 rfl dc rfl rfl rfl rfl rfl rfl t (fun w=>zyR 1 rfl (zyN (bX (zyR 1 rfl (zab qV rfl dc rfl (show _=1 from rfl) (zas (k:=1) dO rfl dc rfl rfl rfl (zbs h fun s h=>zaT rfl (dA (r:=a+r1.Width) (ai _ s)) (zyR 1 rfl (zaB (cd ?_))))))))))))))))))))))
    subst d
    exact aD (i,l++[r1],a+r1.Width,w) h 1
   exact dy (bV (bV (dz (mD (l,C) h 1))))
 rintro⟨D,v1⟩ h
 rw[n] at h
 refine zyG (zyR 2 rfl (zyN (zaA ?_)))
 cases h
 exact eu (rs:=[.tmp 2]) v1 (.inl rfl) results79 (.cons (.tmp rfl) .nil) rfl (cp 1)
def D0 (a:ad) (p1:cY):Option ad := aV (cr (p1.At+p1.Width)) <|aV (0≤(p1.At:Int)∧(p1.At:Int)≤(p1.At+p1.Width)∧(p1.At+p1.Width:Int)≤(a.size:Int)) <|some (cO a p1.At (p1.At+p1.Width))
theorem Iy {e:ad} {p1:cY} {r:ad} (h:D0 e p1=some r):dN prog 80 [.string e,.agg #[zI p1.At,zI p1.Width,.int .i32 p1.Rune,.bool p1.Broken]] (.string r):=by
 unfold D0 at h
 refine dN.intro func80 rfl ntmps80 (by simp) (fun w0 K=>zyG (zfq rfl dc rfl (fun b1=>zyR 1 rfl (zyH (zyR 1 rfl (zab zd2 rfl dc rfl (show _=0 from rfl) (zas (k:=0) dO rfl dc rfl rfl rfl (zab zd2 rfl dc rfl (show _=0 from rfl) (zas (k:=0) dO rfl dc rfl rfl rfl (zab qV rfl dc rfl (show _=1 from rfl) (zas (k:=0) dO rfl dc rfl rfl rfl (zbs h fun d h=>zaT rfl (dA (r:=p1.At+p1.Width) (ai _ d)) (zbs h fun a h=>iA rfl dc rfl rfl rfl (kA (i:=p1.At) (j:=p1.At+p1.Width) an (.inr rfl) (.inr rfl) a) (zyR 1 rfl (zyN (zaA ?_))))))))))))))))
 cases h
 exact cX 4 results80
section
variable {R S:Type} {c:Prop} [Decidable c] {o x z:Option R} {p:Option S} {f:S→Option R} {b:Bool} {y:Option R}
theorem zdG (h:c) (a:o=x):aV c o=x:=(Gw h).trans a
theorem aY {a:S} (h:p=some a) (hf:f a=x):aT p f=x:=(Gx h).trans hf
theorem bS (hb:b=true) (h:x=z):aN b x y=z:=(MI hb).trans h
theorem bM (hb:b=false) (h:y=z):aN b x y=z:=(MJ hb).trans h
theorem gO {c:Prop} [Decidable c] {R:Type} {o x:Option R} (a:o=x) (h:c:=by omega):aV c o=x:=zdG h a
theorem eR {p:Prop} [Decidable p] {R:Type} {x y z:Option R} (h:x=z) (hp:p:=by omega):aN (decide p) x y=z:=bS (ax hp) h
theorem fC {p:Prop} [Decidable p] {R:Type} {x y z:Option R} (h:y=z) (hp:¬p:=by omega):aN (decide p) x y=z:=bM (al hp) h
theorem cB {T:Type} {t:T→Option R} {k:T} (h:t k=x):co t k=x:=h
theorem gk {T:Type} {bot:T} {step:T→T} {n:Nat}:zaC bot step (n+1)=step (zaC bot step n):=rfl
theorem Iz {q:Prop} [Decidable q]:aN (decide q) x y=if q then x else y:=by
 unfold aN;rw[Bool.cond_decide]
theorem wD (k:Nat) (h:k≤1000):∃n,zbx=n+k∧18446744073709550000≤n:=⟨18446744073709551616-k,by unfold zbx;omega,by omega⟩
end
def vr (r:Int):Prop:=(0≤r∧r<55296)∨(57343<r∧r≤1114111)
instance (r:Int):Decidable (vr r):=by unfold vr;infer_instance
theorem D3 (r:Int):sO r=some (!decide (vr r)):=by
 unfold sO
 simp only[Iz]
 by_cases h:vr r
 ·have h':=h
  unfold vr at h'
  rw[ax h,aj (by omega),aj (by omega)]
  split
  ·rw[al (by omega)];rfl
  ·rfl
 ·have h':=h
  unfold vr at h'
  rw[al h]
  split
  ·rfl
  ·split
   ·rfl
   ·rw[am (by omega),ax (by omega)];rfl
def wd (r:Int):Int:=if vr r then (if r<128 then 1 else if r<2048 then 2 else if r<65536 then 3 else 4) else 0
theorem IA (r:Int):sP r=some (wd r):=by
 unfold sP wd
 refine aY (D3 r) ?_
 by_cases h:vr r
 ·refine bM (by simp[h]) ?_
  rw[am h]
  simp only[Iz]
  split
  ·rfl
  ·split
   ·rfl
   ·split<;>rfl
 ·refine bS (by simp[h]) ?_
  rw[aj h]
theorem P6 (r:Int) (h:vr r):((encodeRune r).length:Int)=wd r:=by
 unfold wd;rw[am h]
 unfold vr at h
 unfold encodeRune
 rw[az]
 split
 ·rw[encodeRuneZ_one (by omega) (by omega)];rfl
 ·split
  ·rw[encodeRuneZ_two (by omega) (by omega)];rfl
  ·split
   ·rw[encodeRuneZ_three (by omega)];rfl
   ·rw[encodeRuneZ_four (by omega) (by omega)];rfl
theorem wE (x:Int) (h:0≤x∧x≤255):IntKind.u8.wrap x=x:=IntWalk.u8_in x h
theorem wF {j:Int→List Int→Option ad} {ag:Int→List Int→Int→Option ad} {r i:Int} {b:List Int} (h0:0≤r) (hr:r≤1114111) (hi:0<i) (hb:i<b.length) (d:b.length≤4) :
  zb9 j ag r b i=ag (r / 64) (b.set i.toNat (128+r % 64)) (i-1):=by
 unfold zb9
 have e1:mC r 64=r % 64:=Int.tmod_eq_emod_of_nonneg h0
 have e2:ry r 64=r / 64:=Int.tdiv_eq_ediv_of_nonneg h0
 refine bS (ax hi) (gO ?_)
 obtain⟨q,a⟩:∃q,zca b i=some q:=⟨_,Al (n:=i.toNat) (by omega) (aJ (by omega))⟩
 refine aY a (gO (gO ?_))
 rw[e1,e2,wE _ (by omega)]
theorem D4 {j:Int→List Int→Option ad} {ag:Int→List Int→Int→Option ad} {r:Int} {b:List Int}:zb9 j ag r b 0=j r b:=by
 unfold zb9;exact bM rfl rfl
theorem tV {l:List Int} {s:ad} (h:l.map (fun x=>UInt8.ofNat x.toNat)=s.data.toList):gj l=s:=by
 apply _root_.ByteArray.ext;unfold gj;simp[h]
theorem Bb (r:Int) (hr:fB r):rO r=some (ae r):=by
  have key:∀r,vr r→(aT (sP r) fun (d:Int)=>
      aN ((d:Int)==1) (aV (∀x∈([IntKind.u8.wrap r]:List Int),U8 x)<|some (gj ([IntKind.u8.wrap r]:List Int)))
      (co (fun (k:Int→(List Int)→Option ad)=>aV (0≤d∧d≤2147483648)<|aV (cr (d-1))<|zaC (fun _ _ _=>none) (zb9 k) zbx r (bE (d:Int).toNat 0) (d-1))
       (fun (g:Int) (b2:List Int)=>
        aV (cr (8-d))<|aV (0≤(8-d))<|aV (cr (256-(lK .i64 1 (8-d))))<|aV (cr g)<|aV (cr ((256-(lK .i64 1 (8-d)))+g)) <|
        aT (zca b2 0) fun (q2:Int)=>aV (∀x∈b2.set (0:Int).toNat (IntKind.u8.wrap ((256-(lK .i64 1 (8-d)))+g)),U8 x) <|
        some (gj (b2.set (0:Int).toNat (IntKind.u8.wrap ((256-(lK .i64 1 (8-d)))+g)))))))=some (ae r):=by
    intro r hv
    have j:=hv
    unfold vr at hv
    refine aY (IA r) ?_
    obtain⟨n,l,_⟩:=wD 5 (by omega)
    rw[l]
    unfold wd;rw[am j]
    have i:encodeRune r=(encodeRuneZ r).map fun x=>x.toNat.toUInt8:=rfl
    by_cases h1:r<128
    · rw[am h1]
      refine bS rfl (zdG ?_ ?_)
      · intro x hx
        simp only[List.mem_singleton] at hx
        subst hx;rw[wE _ (by omega)];exact⟨by omega,by omega⟩
      · congr 1
        refine tV ?_
        rw[nF,i,encodeRuneZ_one (by omega) (by omega),wE _ (by omega)]<;>rfl
    · rw[aj h1]
      by_cases h2:r<2048
      · rw[am h2]
        refine bM rfl (cB (gO (gO ?_)))
        simp only[gk]
        show zb9 _ _ r [0,0] 1=_
        rw[wF (by omega) (by omega) (by omega) (by decide) (by decide),show (1:Int)-1=0 by rfl,D4]
        have e:lK .i64 1 (8-2)=64:=by decide
        rw[e]
        refine gO (gO (gO (gO (gO (aY (a:=0) rfl ?_)))))
        rw[wE _ (by omega)]
        show aV (∀x∈[256-64+r / 64,128+r % 64],U8 x) (some (gj [256-64+r / 64,128+r % 64]))=_
        refine zdG (by intro x hx;simp only[bo,dm,or_false] at hx;rcases hx with rfl | rfl<;>exact⟨by omega,by omega⟩) ?_
        congr 1
        refine tV ?_
        rw[nF,i,encodeRuneZ_two (by omega) (by omega)]<;>rfl
      · rw[aj h2]
        by_cases h3:r<65536
        · rw[am h3]
          refine bM rfl (cB (gO (gO ?_)))
          simp only[gk]
          show zb9 _ _ r [0,0,0] 2=_
          rw[wF (by omega) (by omega) (by omega) (by decide) (by decide)]
          show zb9 _ _ (r / 64) [0,0,128+r % 64] 1=_
          rw[wF (by omega) (by omega) (by omega) (by simp) (by simp),show (1:Int)-1=0 by rfl,D4]
          have e:lK .i64 1 (8-3)=32:=by decide
          rw[e]
          refine gO (gO (gO (gO (gO (aY (a:=0) rfl ?_)))))
          rw[wE _ (by omega)]
          show aV (∀x∈[256-32+r / 64 / 64,128+r / 64 % 64,128+r % 64],U8 x) (some (gj [256-32+r / 64 / 64,128+r / 64 % 64,128+r % 64]))=_
          refine zdG (by intro x hx;simp only[bo,dm,or_false] at hx;rcases hx with rfl | rfl | rfl<;>exact⟨by omega,by omega⟩) ?_
          congr 1
          refine tV ?_
          rw[nF,i,encodeRuneZ_three (by omega),show r / 64 / 64=r / 4096 by omega]<;>rfl
        · rw[aj h3]
          refine bM rfl (cB (gO (gO ?_)))
          simp only[gk]
          show zb9 _ _ r [0,0,0,0] 3=_
          rw[wF (by omega) (by omega) (by omega) (by decide) (by decide)]
          show zb9 _ _ (r / 64) [0,0,0,128+r % 64] 2=_
          rw[wF (by omega) (by omega) (by omega) (by simp) (by simp)]
          show zb9 _ _ (r / 64 / 64) [0,0,128+r / 64 % 64,128+r % 64] 1=_
          rw[wF (by omega) (by omega) (by omega) (by simp) (by simp),show (1:Int)-1=0 by rfl,D4]
          have e:lK .i64 1 (8-4)=16:=by decide
          rw[e]
          refine gO (gO (gO (gO (gO (aY (a:=0) rfl ?_)))))
          rw[wE _ (by omega)]
          show aV (∀x∈[256-16+r / 64 / 64 / 64,128+r / 64 / 64 % 64,128+r / 64 % 64,128+r % 64],U8 x) (some (gj [256-16+r / 64 / 64 / 64,128+r / 64 / 64 % 64,128+r / 64 % 64,128+r % 64]))=_
          refine zdG (by intro x hx;simp only[bo,dm,or_false] at hx;rcases hx with rfl | rfl | rfl | rfl<;>exact⟨by omega,by omega⟩) ?_
          congr 1
          refine tV ?_
          rw[nF,i,encodeRuneZ_four (by omega) (by omega),show r / 64 / 64 / 64=r / 262144 by omega,show r / 64 / 64 % 64=r / 4096 % 64 by omega]<;>rfl
  unfold rO
  refine cB (aY (D3 r) ?_)
  by_cases h:vr r
  · exact bM (by simp[h]) (key r h)
  · refine bS (by simp[h]) ((key 65533 (by decide)).trans ?_)
    congr 1
    unfold ae
    rw[validRune_eq,validRune_eq]
    have e1:validRune r=false:=by unfold validRune;exact al h
    rw[e1];rfl
section
variable {R X A B:Type} {xs:List X}
theorem kO {k:Nat} {x:X} (h:xs[k]?=some x):zca xs (k:Int)=some x:=gM h
theorem lR {k:Nat} {x:X} (h:xs[k]?=some x):decide ((k:Int)<(xs.length:Int))=true:=ax (by have:=(au.1 h).1;omega)
theorem lC:decide ((xs.length:Int)<(xs.length:Int))=false:=al (by omega)
theorem ja {k:Nat} (h:k≤4611686018427387904):cr ((k:Int)+1):=⟨by omega,by omega⟩
theorem oc {k:Nat} {x:X} (h:xs[k]?=some x):k<xs.length:=(au.1 h).1
theorem px {F:(A→Int→Option R)→A→Int→Option R} {bot:A→Int→Option R} {f:A→X→A} {J:A→Option R} (Inv:Nat→A→Prop)
  (e:∀ag k x a,xs[k]?=some x→Inv k a→F ag a (k:Int)=ag (f a x) ((k:Int)+1)) (i:∀k x a,xs[k]?=some x→Inv k a→Inv (k+1) (f a x))
  (he:∀ag a,Inv xs.length a→F ag a (xs.length:Int)=J a) {n:Nat} (g:xs.length<n) {a:A} (h0:Inv 0 a):zaC bot F n a 0=J (xs.foldl f a):=by
 have key:∀ (n k:Nat) (a:A),k≤xs.length→xs.length-k<n→Inv k a→zaC bot F n a (k:Int)=J ((xs.drop k).foldl f a):=by
  intro n
  induction n with
  |zero=>intro k a _ h;omega
  |succ n d=>
   intro k a hk g hi
   rw[gk]
   by_cases h:k<xs.length
   ·have hx:xs[k]?=some xs[k]:=aJ h
    rw[e _ k _ a hx hi,aR h,bn]
    exact d (k+1) _ (by omega) (by omega) (i k _ a hx hi)
   ·have:k=xs.length:=by omega
    subst this
    rw[he _ a hi,gp];rfl
 have:=key n 0 a (bG _) (by omega) h0
 simpa using this
theorem IB {F:(A→B→Int→Option R)→A→B→Int→Option R} {bot:A→B→Int→Option R} {f:A×B→X→A×B} {J:A→B→Option R} (Inv:Nat→A×B→Prop)
  (e:∀ag k x (a:A×B),xs[k]?=some x→Inv k a→F ag a.1 a.2 (k:Int)=ag (f a x).1 (f a x).2 ((k:Int)+1)) (i:∀k x a,xs[k]?=some x→Inv k a→Inv (k+1) (f a x))
  (he:∀ag (a:A×B),Inv xs.length a→F ag a.1 a.2 (xs.length:Int)=J a.1 a.2) {n:Nat} (g:xs.length<n) {a:A×B} (h0:Inv 0 a):zaC bot F n a.1 a.2 0=J (xs.foldl f a).1 (xs.foldl f a).2:=by
 have key:∀ (n k:Nat) (a:A×B),k≤xs.length→xs.length-k<n→Inv k a→zaC bot F n a.1 a.2 (k:Int)=J ((xs.drop k).foldl f a).1 ((xs.drop k).foldl f a).2:=by
  intro n
  induction n with
  |zero=>intro k a _ h;omega
  |succ n d=>
   intro k a hk g hi
   rw[gk]
   by_cases h:k<xs.length
   ·have hx:xs[k]?=some xs[k]:=aJ h
    rw[e _ k _ a hx hi,aR h,bn]
    exact d (k+1) _ (by omega) (by omega) (i k _ a hx hi)
   ·have:k=xs.length:=by omega
    subst this
    rw[he _ a hi,gp];rfl
 have:=key n 0 a (bG _) (by omega) h0
 simpa using this
theorem wG {F:(Int→Option R)→Int→Option R} {bot:Int→Option R} {g:X→Option (Option R)} {J:Option R}
  (d:∀ (ag:Int→Option R) (k:Nat) (x:X),xs[k]?=some x→F ag (k:Int)=(g x).getD (ag ((k:Int)+1))) (he:∀ag,F ag (xs.length:Int)=J) {n:Nat} (e:xs.length<n):zaC bot F n 0=(xs.findSome? g).getD J:=by
 have key:∀ (n k:Nat),k≤xs.length→xs.length-k<n→zaC bot F n (k:Int)=((xs.drop k).findSome? g).getD J:=by
  intro n
  induction n with
  |zero=>intro k _ h;omega
  |succ n a=>
   intro k hk e
   rw[gk]
   by_cases h:k<xs.length
   ·have hx:xs[k]?=some xs[k]:=aJ h
    rw[d _ k _ hx,aR h,dr]
    have:=a (k+1) (by omega) (by omega)
    push_cast at this
    rw[this]
    cases g xs[k]<;>rfl
   ·have:k=xs.length:=by omega
    subst this
    rw[he,gp];rfl
 have:=key n 0 (bG _) (by omega)
 simpa using this
end
theorem j0 {n:Nat} (h:n≤4611686018427387904):n<zbx:=by unfold zbx;omega
abbrev yC:ad:=⟨#[196,132,196,152,196,174,197,178,196,133,196,153,196,175,197,179]⟩
abbrev yD:ad:=⟨#[195,135,196,162,196,182,196,187,197,133,197,150,197,158,197,162,195,167,196,163,196,183,196,188,197,134,197,151,197,159,197,163]⟩
abbrev yE:ad:=⟨#[196,140,196,142,196,154,196,189,197,135,197,152,197,160,197,164,197,189,196,141,196,143,196,155,196,190,197,136,197,153,197,161,197,165,197,190]⟩
abbrev yF:ad:=⟨#[67,68,69,76,78,82,83,84,90,99,100,101,108,110,114,115,116,122]⟩
abbrev yG:ad:=⟨#[195,132,195,139,195,143,195,150,195,156,195,164,195,171,195,175,195,182,195,188,195,191,197,184,208,129,208,135,209,145,209,151,206,170,206,171,207,138,207,139]⟩
abbrev yH:ad:=⟨#[65,69,73,79,85,97,101,105,111,117,121,89,208,149,208,134,208,181,209,150,206,153,206,165,206,185,207,133]⟩
abbrev yI:ad:=⟨#[196,138,196,150,196,160,196,176,197,187,196,139,196,151,196,161,197,188]⟩
abbrev yJ:ad:=⟨#[196,130,196,148,196,158,196,172,197,142,197,172,196,131,196,149,196,159,196,173,197,143,197,173,208,153,208,142,208,185,209,158]⟩
abbrev yK:ad:=⟨#[65,69,71,73,79,85,97,101,103,105,111,117,208,152,208,163,208,184,209,131]⟩
abbrev yL:ad:=⟨#[196,128,196,146,196,170,197,140,197,170,196,129,196,147,196,171,197,141,197,171]⟩
abbrev yM:ad:=⟨#[195,131,195,145,195,149,195,163,195,177,195,181,196,168,197,168,196,169,197,169]⟩
abbrev yN:ad:=⟨#[195,130,195,138,195,142,195,148,195,155,195,162,195,170,195,174,195,180,195,187,196,136,196,156,196,164,196,180,197,156,197,180,197,182,196,137,196,157,196,165,196,181,197,157,197,181,197,183]⟩
abbrev yO:ad:=⟨#[65,69,73,79,85,97,101,105,111,117,67,71,72,74,83,87,89,99,103,104,106,115,119,121]⟩
abbrev yP:ad:=⟨#[206,134,206,136,206,137,206,138,206,140,206,142,206,143,206,172,206,173,206,174,206,175,207,140,207,141,207,142,208,131,208,140,209,147,209,156,206,144,206,176]⟩
abbrev yQ:ad:=⟨#[206,145,206,149,206,151,206,153,206,159,206,165,206,169,206,177,206,181,206,183,206,185,206,191,207,133,207,137,208,147,208,154,208,179,208,186,207,138,207,139]⟩
abbrev yR:ad:=⟨#[195,129,195,137,195,141,195,147,195,154,195,157,195,161,195,169,195,173,195,179,195,186,195,189,196,134,196,185,197,131,197,148,197,154,197,185,196,135,196,186,197,132,197,149,197,155,197,186]⟩
abbrev yS:ad:=⟨#[65,69,73,79,85,89,97,101,105,111,117,121,67,76,78,82,83,90,99,108,110,114,115,122]⟩
abbrev yT:ad:=⟨#[195,128,195,136,195,140,195,146,195,153,195,160,195,168,195,172,195,178,195,185,208,128,208,141,209,144,209,157]⟩
abbrev yU:ad:=⟨#[65,69,73,79,85,97,101,105,111,117,208,149,208,152,208,181,208,184]⟩
def wH  : Option (List gW) := some ([(⟨(⟨#[204,128]⟩:ad),yU,yT⟩:gW),(⟨(⟨#[204,129]⟩:ad),yS,yR⟩:gW),(⟨(⟨#[204,129]⟩:ad),yQ,yP⟩:gW),(⟨(⟨#[204,130]⟩:ad),yO,yN⟩:gW),(⟨(⟨#[204,131]⟩:ad),(⟨#[65,78,79,97,110,111,73,85,105,117]⟩:ad),yM⟩:gW),(⟨(⟨#[204,132]⟩:ad),(⟨#[65,69,73,79,85,97,101,105,111,117]⟩:ad),yL⟩:gW),(⟨(⟨#[204,134]⟩:ad),yK,yJ⟩:gW),(⟨(⟨#[204,135]⟩:ad),(⟨#[67,69,71,73,90,99,101,103,122]⟩:ad),yI⟩:gW),(⟨(⟨#[204,136]⟩:ad),yH,yG⟩:gW),(⟨(⟨#[204,138]⟩:ad),(⟨#[65,85,97,117]⟩:ad),(⟨#[195,133,197,174,195,165,197,175]⟩:ad)⟩:gW),(⟨(⟨#[204,139]⟩:ad),(⟨#[79,85,111,117]⟩:ad),(⟨#[197,144,197,176,197,145,197,177]⟩:ad)⟩:gW),(⟨(⟨#[204,140]⟩:ad),yF,yE⟩:gW),(⟨(⟨#[204,167]⟩:ad),(⟨#[67,71,75,76,78,82,83,84,99,103,107,108,110,114,115,116]⟩:ad),yD⟩:gW),(⟨(⟨#[204,168]⟩:ad),(⟨#[65,69,73,85,97,101,105,117]⟩:ad),yC⟩:gW)]:List gW)
theorem IC  {r:(List gW)} (h:wH=some r):Fn prog 83 [] [] (fun v0:Value=>v0) (fun v0=>[qy v0 r]):=by
 unfold wH at h
 refine _root_.Go.Proofs.YtifpjbgnikjglaaGreatDoor.Fn.intro func83 rfl ntmps83 (by simp) (fun w0 K=>zyG (zyR 1 rfl (zyH (zbf (v:=.agg #[.string (⟨#[204,128]⟩:ad),.string yU,.string yT]) (ps:=[(0,.const (.string (⟨#[204,128]⟩:ad))),(1,.const (.string yU)),(2,.const (.string yT))]) rfl dc rfl (fun _=>by kernel_rfl) (zbf (v:=.agg #[.string (⟨#[204,129]⟩:ad),.string yS,.string yR]) (ps:=[(0,.const (.string (⟨#[204,129]⟩:ad))),(1,.const (.string yS)),(2,.const (.string yR))]) rfl dc rfl (fun _=>by kernel_rfl) (zbf (v:=.agg #[.string (⟨#[204,129]⟩:ad),.string yQ,.string yP]) (ps:=[(0,.const (.string (⟨#[204,129]⟩:ad))),(1,.const (.string yQ)),(2,.const (.string yP))]) rfl dc rfl (fun _=>by kernel_rfl) (zbf (v:=.agg #[.string (⟨#[204,130]⟩:ad),.string yO,.string yN]) (ps:=[(0,.const (.string (⟨#[204,130]⟩:ad))),(1,.const (.string yO)),(2,.const (.string yN))]) rfl dc rfl (fun _=>by kernel_rfl) (zbf (v:=.agg #[.string (⟨#[204,131]⟩:ad),.string (⟨#[65,78,79,97,110,111,73,85,105,117]⟩:ad),.string yM]) (ps:=[(0,.const (.string (⟨#[204,131]⟩:ad))),(1,.const (.string (⟨#[65,78,79,97,110,111,73,85,105,117]⟩:ad))),(2,.const (.string yM))]) rfl dc rfl (fun _=>by kernel_rfl) (zbf (v:=.agg #[.string (⟨#[204,132]⟩:ad),.string (⟨#[65,69,73,79,85,97,101,105,111,117]⟩:ad),.string yL]) (ps:=[(0,.const (.string (⟨#[204,132]⟩:ad))),(1,.const (.string (⟨#[65,69,73,79,85,97,101,105,111,117]⟩:ad))),(2,.const (.string yL))]) rfl dc rfl (fun _=>by kernel_rfl) (zbf (v:=.agg #[.string (⟨#[204,134]⟩:ad),.string yK,.string yJ]) (ps:=[(0,.const (.string (⟨#[204,134]⟩:ad))),(1,.const (.string yK)),(2,.const (.string yJ))]) rfl dc rfl (fun _=>by kernel_rfl) (zbf (v:=.agg #[.string (⟨#[204,135]⟩:ad),.string (⟨#[67,69,71,73,90,99,101,103,122]⟩:ad),.string yI]) (ps:=[(0,.const (.string (⟨#[204,135]⟩:ad))),(1,.const (.string (⟨#[67,69,71,73,90,99,101,103,122]⟩:ad))),(2,.const (.string yI))]) rfl dc rfl (fun _=>by kernel_rfl) (zbf (v:=.agg #[.string (⟨#[204,136]⟩:ad),.string yH,.string yG]) (ps:=[(0,.const (.string (⟨#[204,136]⟩:ad))),(1,.const (.string yH)),(2,.const (.string yG))]) rfl dc rfl (fun _=>by kernel_rfl) (zbf (v:=.agg #[.string (⟨#[204,138]⟩:ad),.string (⟨#[65,85,97,117]⟩:ad),.string (⟨#[195,133,197,174,195,165,197,175]⟩:ad)]) (ps:=[(0,.const (.string (⟨#[204,138]⟩:ad))),(1,.const (.string (⟨#[65,85,97,117]⟩:ad))),(2,.const (.string (⟨#[195,133,197,174,195,165,197,175]⟩:ad)))]) rfl dc rfl (fun _=>by kernel_rfl) (zbf (v:=.agg #[.string (⟨#[204,139]⟩:ad),.string (⟨#[79,85,111,117]⟩:ad),.string (⟨#[197,144,197,176,197,145,197,177]⟩:ad)]) (ps:=[(0,.const (.string (⟨#[204,139]⟩:ad))),(1,.const (.string (⟨#[79,85,111,117]⟩:ad))),(2,.const (.string (⟨#[197,144,197,176,197,145,197,177]⟩:ad)))]) rfl dc rfl (fun _=>by kernel_rfl) (zbf (v:=.agg #[.string (⟨#[204,140]⟩:ad),.string yF,.string yE]) (ps:=[(0,.const (.string (⟨#[204,140]⟩:ad))),(1,.const (.string yF)),(2,.const (.string yE))]) rfl dc rfl (fun _=>by kernel_rfl) (zbf (v:=.agg #[.string (⟨#[204,167]⟩:ad),.string (⟨#[67,71,75,76,78,82,83,84,99,103,107,108,110,114,115,116]⟩:ad),.string yD]) (ps:=[(0,.const (.string (⟨#[204,167]⟩:ad))),(1,.const (.string (⟨#[67,71,75,76,78,82,83,84,99,103,107,108,110,114,115,116]⟩:ad))),(2,.const (.string yD))]) rfl dc rfl (fun _=>by kernel_rfl) (zbf (v:=.agg #[.string (⟨#[204,168]⟩:ad),.string (⟨#[65,69,73,85,97,101,105,117]⟩:ad),.string yC]) (ps:=[(0,.const (.string (⟨#[204,168]⟩:ad))),(1,.const (.string (⟨#[65,69,73,85,97,101,105,117]⟩:ad))),(2,.const (.string yC))]) rfl dc rfl (fun _=>by kernel_rfl) (fx (cs:=[.string (⟨#[204,128]⟩:ad),.string yU,.string yT,.string (⟨#[204,129]⟩:ad),.string yS,.string yR,.string (⟨#[204,129]⟩:ad),.string yQ,.string yP,.string (⟨#[204,130]⟩:ad),.string yO,.string yN,.string (⟨#[204,131]⟩:ad),.string (⟨#[65,78,79,97,110,111,73,85,105,117]⟩:ad),.string yM,.string (⟨#[204,132]⟩:ad),.string (⟨#[65,69,73,79,85,97,101,105,111,117]⟩:ad),.string yL,.string (⟨#[204,134]⟩:ad),.string yK,.string yJ,.string (⟨#[204,135]⟩:ad),.string (⟨#[67,69,71,73,90,99,101,103,122]⟩:ad),.string yI,.string (⟨#[204,136]⟩:ad),.string yH,.string yG,.string (⟨#[204,138]⟩:ad),.string (⟨#[65,85,97,117]⟩:ad),.string (⟨#[195,133,197,174,195,165,197,175]⟩:ad),.string (⟨#[204,139]⟩:ad),.string (⟨#[79,85,111,117]⟩:ad),.string (⟨#[197,144,197,176,197,145,197,177]⟩:ad),.string (⟨#[204,140]⟩:ad),.string yF,.string yE,.string (⟨#[204,167]⟩:ad),.string (⟨#[67,71,75,76,78,82,83,84,99,103,107,108,110,114,115,116]⟩:ad),.string yD,.string (⟨#[204,168]⟩:ad),.string (⟨#[65,69,73,85,97,101,105,117]⟩:ad),.string yC]) (te:=137) (ps:=[(0,.tmp 1),(1,.tmp 2),(2,.tmp 3),(3,.tmp 4),(4,.tmp 5),(5,.tmp 6),(6,.tmp 7),(7,.tmp 8),(8,.tmp 9),(9,.tmp 10),(10,.tmp 11),(11,.tmp 12),(12,.tmp 13),(13,.tmp 14)]) rfl dc rfl (fun _=>by kernel_rfl) (fun b1=>?_)))))))))))))))))))
 refine zyR 1 rfl (nE ([(⟨(⟨#[204,128]⟩:ad),yU,yT⟩:gW),(⟨(⟨#[204,129]⟩:ad),yS,yR⟩:gW),(⟨(⟨#[204,129]⟩:ad),yQ,yP⟩:gW),(⟨(⟨#[204,130]⟩:ad),yO,yN⟩:gW),(⟨(⟨#[204,131]⟩:ad),(⟨#[65,78,79,97,110,111,73,85,105,117]⟩:ad),yM⟩:gW),(⟨(⟨#[204,132]⟩:ad),(⟨#[65,69,73,79,85,97,101,105,111,117]⟩:ad),yL⟩:gW),(⟨(⟨#[204,134]⟩:ad),yK,yJ⟩:gW),(⟨(⟨#[204,135]⟩:ad),(⟨#[67,69,71,73,90,99,101,103,122]⟩:ad),yI⟩:gW),(⟨(⟨#[204,136]⟩:ad),yH,yG⟩:gW),(⟨(⟨#[204,138]⟩:ad),(⟨#[65,85,97,117]⟩:ad),(⟨#[195,133,197,174,195,165,197,175]⟩:ad)⟩:gW),(⟨(⟨#[204,139]⟩:ad),(⟨#[79,85,111,117]⟩:ad),(⟨#[197,144,197,176,197,145,197,177]⟩:ad)⟩:gW),(⟨(⟨#[204,140]⟩:ad),yF,yE⟩:gW),(⟨(⟨#[204,167]⟩:ad),(⟨#[67,71,75,76,78,82,83,84,99,103,107,108,110,114,115,116]⟩:ad),yD⟩:gW),(⟨(⟨#[204,168]⟩:ad),(⟨#[65,69,73,85,97,101,105,117]⟩:ad),yC⟩:gW)]:List gW) (k:=0) rfl DF rfl (show 14≤maxLen by decide) (zyN (zaA ?_)))
 cases h
 exact eu (rs:=[.tmp 0]) (.slice (some ⟨b1,0,none⟩) 14 14) (.inl rfl) results83 (.cons (.tmp rfl) .nil) rfl (cp 1)
def zeZ (d:Int) (a:Int) (k:Option Int) (q1:gW) (g:Int→Option Int) (e:Int):Option Int := aN (decide ((e:Int)<((eH q1.e1).length:Int))) (co (fun (h:Option Int)=>aT (zca (eH q1.e1) e) fun (q2:Int)=>aN ((q2:Int)==d) (aV (q1.e0.size≤1073741824) <|aT (zca (eH q1.e0) 0) fun (j:Int)=>aN ((j:Int)==a) (aT (zca (eH q1.e2) e) fun (i:Int)=>some i) (h)) (h)) (aV (cr (e+1)) <|g (e+1))) (k)
def zfA (d:Int) (a:Int) (i:Option Int) (r1:(List gW)) (g:Int→Option Int) (e:Int):Option Int := aN (decide ((e:Int)<(r1.length:Int))) (co (fun (h:Option Int)=>aT (zca r1 e) fun (q1:gW)=>aV (q1.e1.size≤1073741824) <|aV (q1.e2.size≤1073741824) <|zaC (fun _=>none) (zeZ d a h q1) zbx 0) (aV (cr (e+1)) <|g (e+1))) (i)
def wI (d:Int) (a:Int):Option Int := co (fun (e:Option Int)=>aT (wH) fun (r1:(List gW))=>zaC (fun _=>none) (zfA d a e r1) zbx 0) (some 0)
theorem P7 {e:Int} {a:Int} {r:Int} (h:wI e a=some r):dN prog 41 [.int .i32 e,.int .i32 a] (.int .i32 r):=by
 unfold wI at h
 refine dN.intro func41 rfl ntmps41 (by simp) (fun w0 K=>zbq h fun Z a3 h=>zaL (β:=Unit) 1 rfl (fun b=>Z=some r) (fun b=>[]) (fun b=>[]) (fun b=>[]) (fun cut=>?_) ?_)
 ·refine zyG (zyR 1 rfl (zyN (cut (zyG (zbk h fun r1 a0 h=>zbN (vs:=[]) rfl dc rfl rfl rfl HM (IC a0) ah (fun v1=>gZ (k:=0) rfl dc rfl rfl mP (zyR 1 rfl (zyN (zat (eF (β:=Nat×Int) (fun b=>zaC (fun _=>none) (zfA e a Z r1) b.1 b.2=some r) (fun b=>[]) (fun b=>[(0,.int .i32 e),(1,.int .i32 a),(10,v1),(11,zI (r1.length:Int)),(12,zI b.2)]) (fun b=>[qy v1 r1]) (fun b=>b.1) (zbx,0) h rfl (bI rfl) (cp 1) ?_))))))))))
  rintro⟨W,C⟩ h
  cases W with
  |zero=>exact ew h
  |succ W=>
   obtain⟨bb,w⟩:∃ag,ag=zaC (fun _=>none) (zfA e a Z r1) W:=⟨_,rfl⟩
   have h:zfA e a Z r1 bb C=some r:=by rw[w];exact h
   unfold zfA at h
   refine zyG (zaT rfl zbd (zyN (zaJ (zyB rfl h (fun h=>?_) (fun h=>?_)))))
   ·refine zap (zaz (zbq h fun Y a2 h=>zaL (β:=Unit) 0 rfl (fun b=>Y=some r) (fun b=>[]) (fun b=>[(0,.int .i32 e),(1,.int .i32 a),(10,v1),(11,zI (r1.length:Int)),(12,zI C)]) (fun b=>[qy v1 r1]) (fun cut=>?_) ?_))
    ·refine cut (zat (zyG (zbk h fun q1 O h=>eJ (k:=0) O mP AL rfl dc rfl rfl rfl rfl (mj (i:=(C:Int).toNat) (j:=0) (k:=0) (q:=q1) (cs:=(pU q1)) Hv DF rfl dc rfl rfl (ei O) rfl rfl rfl (zbi Hw rfl dc (fun b1=>eE (k:=1) (vs:=(pU q1)) (l':=(pU q1)) AL rfl rfl rfl rfl rfl (show _≤_ by simp) rfl rfl (zyN (zaJ (zbs h fun a8 h=>zbs h fun a7 h=>vO 2 (let E:(Value×Value)→List (Nat×Nat×Value):=fun b=>[(0,16,.pointer (some ⟨b1,1,none⟩)),(1,17,.string q1.e1),(2,18,b.1),(3,19,.pointer (some ⟨b1,2,none⟩)),(4,20,.string q1.e2),(5,21,b.2),(6,7,b.1)];let U:(Nat→Prop)→(Value×Value)→List Asn:=fun D b=>[qy v1 r1,cells b1 (pU q1) 137,eD D cE [(2,eA b.1 (eH q1.e1))],eD D cE [(5,eA b.2 (eH q1.e2))]];?_))))))))))
     have t:tT [2,5] U:=fun i h D b=>ca rfl (ca rfl (ca (rb rfl h) (ca (rb rfl h) rfl)))
     refine vN (β:=Value×Value) 7 ((.slice none 0 0:Value),(.slice none 0 0:Value)) E U mixed kr kr dc (fun _=>rfl) (lB (ca o8 (ca o8 rfl))) (lQ t rfl (fun _=>rfl) (fun _=>rfl) (fun D ⟨v2,g⟩ n d c u i=>⟨_,(lB (ca (dL (fun l=>n (c 1 _ rfl (c 2 _ rfl l 1 dc) 0 dc)) fp) rfl)),o7 dc iP gV rfl dc (zbA (by rfl) rfl) rfl (show _=1 from rfl) (zaN 0 u i)⟩) (lQ t rfl (fun _=>rfl) (fun _=>rfl) (fun D ⟨v2,g⟩ n d c u i=>⟨_,(lB (ca (dL (fun l=>n (c 2 _ rfl l 1 dc)) fp) rfl)),zas (k:=1) dU rfl dc (bt 0 u d) rfl rfl (zaN 1 u i)⟩) (lN ?_ (lQ t rfl (fun _=>rfl) (fun _=>rfl) (fun D ⟨v2,g⟩ n d c u i=>⟨_,(sM (ca (dL (fun l=>n (c 4 _ rfl (c 5 _ rfl l 4 dc) 3 dc)) fp) rfl)),o7 dc iP gV rfl dc (zbA (by rfl) rfl) rfl (show _=2 from rfl) (zaN 3 u i)⟩) (lQ t rfl (fun _=>rfl) (fun _=>rfl) (fun D ⟨v2,g⟩ n d c u i=>⟨_,(sM (ca (dL (fun l=>n (c 5 _ rfl l 4 dc)) fp) rfl)),zas (k:=1) dU rfl dc (bt 3 u d) rfl rfl (zaN 4 u i)⟩) (lN ?_ (pS t (fun _=>rfl) (fun _=>rfl) 1 6 (fun _=>rfl) rfl oV))))))) ?_
     ·intro D b H hd T
      obtain⟨aw,g⟩:=b
      exact kB (lB (ca (dL H fp) rfl)) (vQ a8 rfl dc (jX (m:=1) rfl rfl (hd 1 dc)) an bp aZ (fun v2=>pG 2 rfl rfl (l6 (b:=(aw,g)) (v2,g) 2 (by rfl) (by rfl) rfl (DS (dV (fun l=>absurd l H) (A4 (dV (fun l=>absurd (T 6 _ rfl l 2 dc) H) rfl)))) (lB (ca (iC (jq rfl) rfl) (ca (iG (by rfl)) rfl))))))
     ·intro D b H hd T
      obtain⟨v2,ao⟩:=b
      exact kB (sM (ca (dL H fp) rfl)) (vQ a7 rfl dc (jX (m:=4) rfl rfl (hd 4 dc)) an bp aZ (fun g=>pG 3 rfl rfl (l6 (b:=(v2,ao)) (v2,g) 5 (by rfl) (by rfl) rfl (DT (dV (fun l=>absurd l H) (dV (fun _=>rfl) rfl))) (lB (ca (iG (by rfl)) (ca (iC (jq rfl) rfl) rfl))))))
     intro D b hall
     obtain⟨v2,g⟩:=b
     refine kB (lB (ca (iC (hall 2 dc) rfl) (ca (iC (hall 5 dc) rfl) rfl))) (zyR 1 rfl (zyH (zyR 1 rfl (gZ (k:=2) rfl dc rfl rfl bp (zyR 1 rfl (zyN (zat (eF (β:=Nat×Int) (fun b=>zaC (fun _=>none) (zeZ e a Y q1) b.1 b.2=some r) (fun b=>[]) (fun b=>[(0,.int .i32 e),(1,.int .i32 a),(6,zP b1),(7,v2),(8,g),(10,v1),(11,zI (r1.length:Int)),(12,zI C),(23,zI ((eH q1.e1).length:Int)),(24,zI b.2)]) (fun b=>[cells b1 (pU q1) 137,eA v2 (eH q1.e1),eA g (eH q1.e2),qy v1 r1]) (fun b=>b.1) (zbx,0) h rfl (bI rfl) (bW [1,2,3,0] kr rfl) ?_))))))))
     rintro⟨V,G⟩ h
     cases V with
     |zero=>exact ew h
     |succ V=>
      obtain⟨a9,v⟩:∃ag,ag=zaC (fun _=>none) (zeZ e a Y q1) V:=⟨_,rfl⟩
      have h:zeZ e a Y q1 a9 G=some r:=by rw[v];exact h
      unfold zeZ at h
      refine zyG (zaT rfl zbd (zyN (zaJ (zyB rfl h (fun h=>?_) (fun h=>?_)))))
      ·refine zap (zaz (zbq h fun j3 a1 h=>zaL (β:=Unit) 0 rfl (fun b=>j3=some r) (fun b=>[]) (fun b=>[(0,.int .i32 e),(1,.int .i32 a),(6,zP b1),(7,v2),(8,g),(10,v1),(11,zI (r1.length:Int)),(12,zI C),(23,zI ((eH q1.e1).length:Int)),(24,zI G)]) (fun b=>[cells b1 (pU q1) 137,eA v2 (eH q1.e1),eA g (eH q1.e2),qy v1 r1]) (fun cut=>?_) ?_))
       ·refine cut (zat (zyG (zyR 2 rfl (zyH (zyR 2 rfl (zbk h fun q2 M h=>eJ (k:=1) M bp lj rfl dc rfl rfl rfl rfl (fw (i:=(G:Int).toNat) (j:=0) (k:=1) (q:=q2) eZ jE rfl dc rfl rfl (ei M) rfl dc rfl (zyR 1 rfl (zaT rfl zbm (zyR 1 rfl (zyS (s:=33) rfl h (fun h=>?_) (fun h=>?_))))))))))))
        ·refine o7 dc iP gV rfl dc rfl rfl (show _=0 from rfl) (zas (k:=0) dU rfl dc rfl rfl rfl (zbs h fun a6 h=>vQ a6 rfl dc rfl an bp aZ (fun v4=>zbk h fun q3 J h=>eJ (k:=4) J bp lj rfl dc rfl rfl rfl rfl (fw (i:=(0:Int).toNat) (j:=0) (k:=4) (q:=q3) eZ jE rfl dc rfl rfl (ei J) rfl dc rfl (zyR 1 rfl (zaT rfl zbm (zyR 1 rfl (zyN (zyB rfl h (fun h=>?_) (fun h=>?_))))))))))
         ·refine zyG (zyR 2 rfl (zbk h fun q4 I h=>eJ (k:=2) I bp lj rfl dc rfl rfl rfl rfl (fw (i:=(G:Int).toNat) (j:=0) (k:=2) (q:=q4) eZ jE rfl dc rfl rfl (ei I) rfl dc rfl (zyR 1 rfl (zyN (zaA (cx (bP (bP (cx (cx (bP (bP (cx (bP ?_)))))))))))))))
          cases h
          exact cX 4 results41
         exact zap (cd (mD () h 4))
        exact zyR 8 rfl (zyN (za8 rfl (zap (cd (mD () h 4)))))
       rintro _ h
       rw[a1] at h
       refine bX (zbs h fun a5 h=>zaT rfl (dA (r:=G+1) (ai _ a5)) (zyR 1 rfl (zaB ?_)))
       subst v
       exact aD (V,G+1) h 4
      exact dy (bV (bV (dz (cd (cL () h rfl (bI rfl) (bW [3] kr rfl))))))
    rintro _ h
    rw[a2] at h
    refine bX (zbs h fun a4 h=>zaT rfl (dA (r:=C+1) (ai _ a4)) (zyR 1 rfl (zaB ?_)))
    subst w
    exact aD (W,C+1) h 1
   exact dy (bV (bV (dz (cL () h rfl (rA) ah))))
 rintro _ h
 rw[a3] at h
 refine zyG (zyR 1 rfl (zyN (zaA ?_)))
 cases h
 exact cX 4 results41
def zfd (a:Int→Option (List Int)) (r1:Int) (i:Option (List Int)) (q1:gW) (e:Int→Option (List Int)) (d:Int):Option (List Int) := aN (decide ((d:Int)<((eH q1.e2).length:Int))) (aT (zca (eH q1.e2) d) fun (q2:Int)=>aN ((q2:Int)==r1) (aT (zca (eH q1.e1) d) fun (h:Int)=>aT (a h) fun (r3:(List Int))=>aV (q1.e0.size≤1073741824) <|aT (zca (eH q1.e0) 0) fun (g:Int)=>aV (r3.length+1≤2147483648) <|some (r3++[g])) (aV (cr (d+1)) <|e (d+1))) (i)
def zfe (a:Int→Option (List Int)) (r1:Int) (h:Option (List Int)) (r2:(List gW)) (e:Int→Option (List Int)) (d:Int):Option (List Int) := aN (decide ((d:Int)<(r2.length:Int))) (co (fun (g:Option (List Int))=>aT (zca r2 d) fun (q1:gW)=>aV (q1.e1.size≤1073741824) <|aV (q1.e2.size≤1073741824) <|zaC (fun _=>none) (zfd a r1 g q1) zbx 0) (aV (cr (d+1)) <|e (d+1))) (h)
def uQ (a:Int→Option (List Int)) (r1:Int):Option (List Int) := co (fun (d:Option (List Int))=>aT (wH) fun (r2:(List gW))=>zaC (fun _=>none) (zfe a r1 d r2) zbx 0) (some ([r1]:List Int))
def wJ (r1:Int):Option (List Int):=zaC (fun _=>none) uQ zbx r1
theorem P8 (n:Nat):∀ {r1:Int} {r:(List Int)} (_:zaC (fun _=>none) uQ n r1=some r),Fn prog 58 [.int .i32 r1] [] (fun v0:Value=>v0) (fun v0=>[eA v0 r]):=by
 induction n with
 |zero=>intro r1 r h;exact ew h
 |succ n C=>
 intro r1 r h
 rw[Gy] at h
 revert C h
 generalize zaC (fun _=>none) uQ n=t
 intro C h
 unfold uQ at h
 refine _root_.Go.Proofs.YtifpjbgnikjglaaGreatDoor.Fn.intro func58 rfl ntmps58 (by simp) (fun w0 K=>zbq h fun j1 a3 h=>zaL (β:=Unit) 1 rfl (fun b=>j1=some r) (fun b=>[]) (fun b=>[(0,.int .i32 r1)]) (fun b=>[]) (fun cut=>?_) ?_)
 ·refine zyG (zyR 1 rfl (zyN (cut (zyG (zbk h fun r2 a1 h=>zbN (vs:=[]) rfl dc rfl rfl rfl HM (IC a1) ah (fun v1=>gZ (k:=0) rfl dc rfl rfl mP (zyR 1 rfl (zyN (zat (eF (β:=Nat×Int) (fun b=>zaC (fun _=>none) (zfe t r1 j1 r2) b.1 b.2=some r) (fun b=>[]) (fun b=>[(0,.int .i32 r1),(8,v1),(9,zI (r2.length:Int)),(10,zI b.2)]) (fun b=>[qy v1 r2]) (fun b=>b.1) (zbx,0) h rfl (bI rfl) (cp 1) ?_))))))))))
  rintro⟨n1,T⟩ h
  cases n1 with
  |zero=>exact ew h
  |succ n1=>
   obtain⟨bh,G⟩:∃ag,ag=zaC (fun _=>none) (zfe t r1 j1 r2) n1:=⟨_,rfl⟩
   have h:zfe t r1 j1 r2 bh T=some r:=by rw[G];exact h
   unfold zfe at h
   refine zyG (zaT rfl zbd (zyN (zaJ (zyB rfl h (fun h=>?_) (fun h=>?_)))))
   ·refine zap (zaz (zbq h fun j2 a2 h=>zaL (β:=Unit) 0 rfl (fun b=>j2=some r) (fun b=>[]) (fun b=>[(0,.int .i32 r1),(8,v1),(9,zI (r2.length:Int)),(10,zI T)]) (fun b=>[qy v1 r2]) (fun cut=>?_) ?_))
    ·refine cut (zat (zyG (zbk h fun q1 Z h=>eJ (k:=0) Z mP AL rfl dc rfl rfl rfl rfl (mj (i:=(T:Int).toNat) (j:=0) (k:=0) (q:=q1) (cs:=(pU q1)) Hv DF rfl dc rfl rfl (ei Z) rfl rfl rfl (zbi Hw rfl dc (fun b1=>eE (k:=1) (vs:=(pU q1)) (l':=(pU q1)) AL rfl rfl rfl rfl rfl (show _≤_ by simp) rfl rfl (zyN (zaJ (zbs h fun a9 h=>zbs h fun a8 h=>vO 2 (let O:(Value×Value)→List (Nat×Nat×Value):=fun b=>[(0,14,.pointer (some ⟨b1,1,none⟩)),(1,15,.string q1.e1),(2,16,b.1),(3,17,.pointer (some ⟨b1,2,none⟩)),(4,18,.string q1.e2),(5,19,b.2),(6,5,b.1)];let ao:(Nat→Prop)→(Value×Value)→List Asn:=fun D b=>[qy v1 r2,cells b1 (pU q1) 137,eD D cE [(2,eA b.1 (eH q1.e1))],eD D cE [(5,eA b.2 (eH q1.e2))]];?_))))))))))
     have w:tT [2,5] ao:=fun i h D b=>ca rfl (ca rfl (ca (rb rfl h) (ca (rb rfl h) rfl)))
     refine vN (β:=Value×Value) 7 ((.slice none 0 0:Value),(.slice none 0 0:Value)) O ao mixed kr kr dc (fun _=>rfl) (lB (ca o8 (ca o8 rfl))) (lQ w rfl (fun _=>rfl) (fun _=>rfl) (fun D ⟨v2,v⟩ n d c u i=>⟨_,(lB (ca (dL (fun e=>n (c 1 _ rfl (c 2 _ rfl e 1 dc) 0 dc)) fp) rfl)),o7 dc iP gV rfl dc (zbA (by rfl) rfl) rfl (show _=1 from rfl) (zaN 0 u i)⟩) (lQ w rfl (fun _=>rfl) (fun _=>rfl) (fun D ⟨v2,v⟩ n d c u i=>⟨_,(lB (ca (dL (fun e=>n (c 2 _ rfl e 1 dc)) fp) rfl)),zas (k:=1) dU rfl dc (bt 0 u d) rfl rfl (zaN 1 u i)⟩) (lN ?_ (lQ w rfl (fun _=>rfl) (fun _=>rfl) (fun D ⟨v2,v⟩ n d c u i=>⟨_,(sM (ca (dL (fun e=>n (c 4 _ rfl (c 5 _ rfl e 4 dc) 3 dc)) fp) rfl)),o7 dc iP gV rfl dc (zbA (by rfl) rfl) rfl (show _=2 from rfl) (zaN 3 u i)⟩) (lQ w rfl (fun _=>rfl) (fun _=>rfl) (fun D ⟨v2,v⟩ n d c u i=>⟨_,(sM (ca (dL (fun e=>n (c 5 _ rfl e 4 dc)) fp) rfl)),zas (k:=1) dU rfl dc (bt 3 u d) rfl rfl (zaN 4 u i)⟩) (lN ?_ (pS w (fun _=>rfl) (fun _=>rfl) 1 6 (fun _=>rfl) rfl oV))))))) ?_
     ·intro D b g hd a
      obtain⟨I,v⟩:=b
      exact kB (lB (ca (dL g fp) rfl)) (vQ a9 rfl dc (jX (m:=1) rfl rfl (hd 1 dc)) an bp aZ (fun v2=>pG 2 rfl rfl (l6 (b:=(I,v)) (v2,v) 2 (by rfl) (by rfl) rfl (DS (dV (fun e=>absurd e g) (A4 (dV (fun e=>absurd (a 6 _ rfl e 2 dc) g) rfl)))) (lB (ca (iC (jq rfl) rfl) (ca (iG (by rfl)) rfl))))))
     ·intro D b g hd a
      obtain⟨v2,H⟩:=b
      exact kB (sM (ca (dL g fp) rfl)) (vQ a8 rfl dc (jX (m:=4) rfl rfl (hd 4 dc)) an bp aZ (fun v=>pG 3 rfl rfl (l6 (b:=(v2,H)) (v2,v) 5 (by rfl) (by rfl) rfl (DT (dV (fun e=>absurd e g) (dV (fun _=>rfl) rfl))) (lB (ca (iG (by rfl)) (ca (iC (jq rfl) rfl) rfl))))))
     intro D b hall
     obtain⟨v2,v⟩:=b
     refine kB (lB (ca (iC (hall 2 dc) rfl) (ca (iC (hall 5 dc) rfl) rfl))) (zyR 1 rfl (zyH (zyR 1 rfl (gZ (k:=3) rfl dc rfl rfl bp (zyR 1 rfl (zyN (zat (eF (β:=Nat×Int) (fun b=>zaC (fun _=>none) (zfd t r1 j2 q1) b.1 b.2=some r) (fun b=>[]) (fun b=>[(0,.int .i32 r1),(4,zP b1),(5,v2),(6,v),(8,v1),(9,zI (r2.length:Int)),(10,zI T),(21,zI ((eH q1.e2).length:Int)),(22,zI b.2)]) (fun b=>[cells b1 (pU q1) 137,eA v2 (eH q1.e1),eA v (eH q1.e2),qy v1 r2]) (fun b=>b.1) (zbx,0) h rfl (bI rfl) (bW [1,2,3,0] kr rfl) ?_))))))))
     rintro⟨n2,J⟩ h
     cases n2 with
     |zero=>exact ew h
     |succ n2=>
      obtain⟨bb,E⟩:∃ag,ag=zaC (fun _=>none) (zfd t r1 j2 q1) n2:=⟨_,rfl⟩
      have h:zfd t r1 j2 q1 bb J=some r:=by rw[E];exact h
      unfold zfd at h
      refine zyG (zaT rfl zbd (zyN (zaJ (zyB rfl h (fun h=>?_) (fun h=>?_)))))
      ·refine zap (zaz (zaJ (zat (zyG (zyR 2 rfl (zyH (zyR 2 rfl (zbk h fun q2 Y h=>eJ (k:=2) Y bp lj rfl dc rfl rfl rfl rfl (fw (i:=(J:Int).toNat) (j:=0) (k:=2) (q:=q2) eZ jE rfl dc rfl rfl (ei Y) rfl dc rfl (zyR 1 rfl (zaT rfl zbm (zyN (zyB rfl h (fun h=>?_) (fun h=>?_))))))))))))))
       ·refine zaJ (zbk h fun q3 W h=>zbk h fun r3 a0 h=>zbs h fun a7 h=>zbk h fun U V h=>zbs h fun a6 h=>vO 3 (let M:(Value×Value×Nat)→List (Nat×Nat×Value):=fun b=>[(0,31,v2),(1,32,zI J),(2,33,.pointer (some ⟨eO v2,(J:Int).toNat*1,none⟩)),(3,34,.int .i32 q3),(4,35,b.1),(5,36,zP b1),(6,37,.string q1.e0),(7,38,b.2.1),(8,39,.pointer (some ⟨eO b.2.1,(0:Int).toNat*1,none⟩)),(9,40,.int .i32 U),(10,41,.slice (some ⟨b.2.2,0,none⟩) 1 1)];let bk:(Nat→Prop)→(Value×Value×Nat)→List Asn:=fun D b=>[cells b1 (pU q1) 137,eA v2 (eH q1.e1),eA v (eH q1.e2),qy v1 r2,eD D cE [(4,eA b.1 r3)],eD D cE [(7,eA b.2.1 (eH q1.e0))],eD D cE [(10,cells b.2.2 [.int .i32 U] 21)]];(vN (β:=Value×Value×Nat) 11 ((.slice none 0 0:Value),(.slice none 0 0:Value),(0:Nat)) M bk mixed kr kr dc (fun _=>rfl) (oa (ca o8 (ca o8 (ca o8 rfl)))) (lN ?_ (lN ?_ (lN ?_ (lN ?_ (lN ?_ (lN ?_ (lN ?_ (lN ?_ (lN ?_ (lN ?_ (lN ?_ oV))))))))))) ?_)))
        ·intro D b g hd a
         obtain⟨s,l,b2⟩:=b
         exact kB (oa (ca (dL (fun e=>g (a 2 _ rfl (a 3 _ rfl (a 4 _ rfl e 3 dc) 2 dc) 0 dc)) fp) (lB rfl))) (CB rfl dc (zbA (by rfl) rfl) (l6 (b:=(s,l,b2)) (s,l,b2) 0 (by rfl) (by rfl) rfl (tS rfl) (oa (ca ((iG (by rfl)).trans (dL (fun e=>g (a 2 _ rfl (a 3 _ rfl (a 4 _ rfl e 3 dc) 2 dc) 0 dc)) fp)) (ca (iG (by rfl)) (ca (iG (by rfl)) rfl))))))
        ·intro D b g hd a
         obtain⟨s,l,b2⟩:=b
         exact kB (oa (ca (dL (fun e=>g (a 2 _ rfl (a 3 _ rfl (a 4 _ rfl e 3 dc) 2 dc) 1 dc)) fp) (lB rfl))) (CB rfl dc (zbA (by rfl) rfl) (l6 (b:=(s,l,b2)) (s,l,b2) 1 (by rfl) (by rfl) rfl (tS rfl) (oa (ca ((iG (by rfl)).trans (dL (fun e=>g (a 2 _ rfl (a 3 _ rfl (a 4 _ rfl e 3 dc) 2 dc) 1 dc)) fp)) (ca (iG (by rfl)) (ca (iG (by rfl)) rfl))))))
        ·intro D b g hd a
         obtain⟨s,l,b2⟩:=b
         exact kB (oa (ca (dL (fun e=>g (a 3 _ rfl (a 4 _ rfl e 3 dc) 2 dc)) fp) (lB rfl))) (eJ (k:=1) W bp lj rfl dc (jX (m:=0) rfl rfl (hd 0 dc)) (jX (m:=1) rfl rfl (hd 1 dc)) rfl rfl (l6 (b:=(s,l,b2)) (s,l,b2) 2 (by rfl) (by rfl) rfl (tS rfl) (oa (ca ((iG (by rfl)).trans (dL (fun e=>g (a 3 _ rfl (a 4 _ rfl e 3 dc) 2 dc)) fp)) (ca (iG (by rfl)) (ca (iG (by rfl)) rfl))))))
        ·intro D b g hd a
         obtain⟨s,l,b2⟩:=b
         exact kB (oa (ca (dL (fun e=>g (a 4 _ rfl e 3 dc)) fp) (lB rfl))) (fw (i:=(J:Int).toNat) (j:=0) (k:=1) (q:=q3) eZ jE rfl dc (jX (m:=2) rfl rfl (hd 2 dc)) rfl (ei W) rfl dc rfl (l6 (b:=(s,l,b2)) (s,l,b2) 3 (by rfl) (by rfl) rfl (tS rfl) (oa (ca ((iG (by rfl)).trans (dL (fun e=>g (a 4 _ rfl e 3 dc)) fp)) (ca (iG (by rfl)) (ca (iG (by rfl)) rfl))))))
        ·intro D b g hd a
         obtain⟨I,l,b2⟩:=b
         exact kB (oa (ca (dL g fp) (lB rfl))) (zbN (vs:=[.int .i32 q3]) rfl dc rfl (dv (jX (m:=3) rfl rfl (hd 3 dc)) eX) rfl Dq (C a0) ah (fun s=>mn (L':=[cells b1 (pU q1) 137,eA v2 (eH q1.e1),eA v (eH q1.e2),qy v1 r2,cE,eD D cE [(7,eA l (eH q1.e0))],eD D cE [(10,cells b2 [.int .i32 U] 21)],eA s r3]) (cp 8) (pG 4 rfl rfl (l6 (b:=(I,l,b2)) (s,l,b2) 4 (by rfl) (by rfl) rfl (P0 (dV (fun e=>absurd e g) (DU rfl))) (oa (ca (iC (jq rfl) rfl) (ca (iG (by rfl)) (ca (iG (by rfl)) rfl))))))))
        ·intro D b g hd a
         obtain⟨s,l,b2⟩:=b
         exact kB (wA (ca (dL (fun e=>g (a 6 _ rfl (a 7 _ rfl e 6 dc) 5 dc)) fp) (ca (dL (fun e=>g (a 6 _ rfl (a 7 _ rfl (a 8 _ rfl (a 9 _ rfl (a 10 _ rfl e 9 dc) 8 dc) 7 dc) 6 dc) 5 dc)) fp) rfl))) (o7 dc iP gV rfl dc (zbA (by rfl) rfl) rfl (show _=0 from rfl) (l6 (b:=(s,l,b2)) (s,l,b2) 5 (by rfl) (by rfl) rfl (tS rfl) (oa (ca (iG (by rfl)) (ca ((iG (by rfl)).trans (dL (fun e=>g (a 6 _ rfl (a 7 _ rfl e 6 dc) 5 dc)) fp)) (ca ((iG (by rfl)).trans (dL (fun e=>g (a 6 _ rfl (a 7 _ rfl (a 8 _ rfl (a 9 _ rfl (a 10 _ rfl e 9 dc) 8 dc) 7 dc) 6 dc) 5 dc)) fp)) rfl))))))
        ·intro D b g hd a
         obtain⟨s,l,b2⟩:=b
         exact kB (wA (ca (dL (fun e=>g (a 7 _ rfl e 6 dc)) fp) (ca (dL (fun e=>g (a 7 _ rfl (a 8 _ rfl (a 9 _ rfl (a 10 _ rfl e 9 dc) 8 dc) 7 dc) 6 dc)) fp) rfl))) (zas (k:=0) dU rfl dc (jX (m:=5) rfl rfl (hd 5 dc)) rfl rfl (l6 (b:=(s,l,b2)) (s,l,b2) 6 (by rfl) (by rfl) rfl (tS rfl) (oa (ca (iG (by rfl)) (ca ((iG (by rfl)).trans (dL (fun e=>g (a 7 _ rfl e 6 dc)) fp)) (ca ((iG (by rfl)).trans (dL (fun e=>g (a 7 _ rfl (a 8 _ rfl (a 9 _ rfl (a 10 _ rfl e 9 dc) 8 dc) 7 dc) 6 dc)) fp)) rfl))))))
        ·intro D b g hd a
         obtain⟨s,H,b2⟩:=b
         exact kB (wA (ca (dL g fp) (ca (dL (fun e=>g (a 8 _ rfl (a 9 _ rfl (a 10 _ rfl e 9 dc) 8 dc) 7 dc)) fp) rfl))) (vQ a7 rfl dc (jX (m:=6) rfl rfl (hd 6 dc)) an bp aZ (fun l=>pG 5 rfl rfl (l6 (b:=(s,H,b2)) (s,l,b2) 7 (by rfl) (by rfl) rfl (DV (dV (fun e=>absurd e g) (dV (fun e=>absurd (a 8 _ rfl e 7 dc) g) (DS rfl)))) (oa (ca (iG (by rfl)) (ca (iC (jq rfl) rfl) (ca ((iG (by rfl)).trans (dL (fun e=>g (a 8 _ rfl (a 9 _ rfl (a 10 _ rfl e 9 dc) 8 dc) 7 dc)) fp)) rfl)))))))
        ·intro D b g hd a
         obtain⟨s,l,b2⟩:=b
         exact kB (wA (ca (iC (hd 7 dc) rfl) (ca (dL (fun e=>g (a 9 _ rfl (a 10 _ rfl e 9 dc) 8 dc)) fp) rfl))) (eJ (k:=5) V bp lj rfl dc (jX (m:=7) rfl rfl (hd 7 dc)) rfl rfl rfl (l6 (b:=(s,l,b2)) (s,l,b2) 8 (by rfl) (by rfl) rfl (tS rfl) (oa (ca (iG (by rfl)) (ca ((iG (by rfl)).trans (iC (hd 7 dc) rfl)) (ca ((iG (by rfl)).trans (dL (fun e=>g (a 9 _ rfl (a 10 _ rfl e 9 dc) 8 dc)) fp)) rfl))))))
        ·intro D b g hd a
         obtain⟨s,l,b2⟩:=b
         exact kB (wA (ca (iC (a 8 _ rfl (hd 8 dc) 7 dc) rfl) (ca (dL (fun e=>g (a 10 _ rfl e 9 dc)) fp) rfl))) (fw (i:=(0:Int).toNat) (j:=0) (k:=5) (q:=U) eZ jE rfl dc (jX (m:=8) rfl rfl (hd 8 dc)) rfl (ei V) rfl dc rfl (l6 (b:=(s,l,b2)) (s,l,b2) 9 (by rfl) (by rfl) rfl (tS rfl) (oa (ca (iG (by rfl)) (ca ((iG (by rfl)).trans (iC (a 8 _ rfl (hd 8 dc) 7 dc) rfl)) (ca ((iG (by rfl)).trans (dL (fun e=>g (a 10 _ rfl e 9 dc)) fp)) rfl))))))
        ·intro D b g hd a
         obtain⟨s,l,aw⟩:=b
         exact kB (wA (ca (iC (a 8 _ rfl (a 9 _ rfl (hd 9 dc) 8 dc) 7 dc) rfl) (ca (dL g fp) rfl))) (fx (cs:=[.int .i32 U]) (te:=21) (ps:=[(0,.tmp 40)]) rfl dc (fJ (jX (m:=9) rfl rfl (hd 9 dc)) qG) (fun _=>by kernel_rfl) (fun b2=>pG 6 rfl rfl (l6 (b:=(s,l,aw)) (s,l,b2) 10 (by rfl) (by rfl) rfl (P1 (dV (fun e=>absurd e g) rfl)) (oa (ca (iG (by rfl)) (ca ((iG (by rfl)).trans (iC (a 8 _ rfl (a 9 _ rfl (hd 9 dc) 8 dc) 7 dc) rfl)) (ca (iC (jq rfl) rfl) rfl)))))))
        intro D b hall
        obtain⟨s,l,b2⟩:=b
        refine kB (oa (ca (iC (hall 4 dc) rfl) (ca (iC (hall 7 dc) rfl) (ca (iC (hall 10 dc) rfl) rfl)))) (iT (k:=4) (k2:=6) (ys:=[U]) bp tL jE tH rfl dc rfl rfl rfl rfl rfl rfl a6 (fun v6=>zyR 1 rfl (zyN (zaA (cx (bP (bP (cx (cx (bP (bP (cx (bP ?_)))))))))))))
        cases h
        exact eu (rs:=[.tmp 2]) v6 (.inl rfl) results58 (.cons (.tmp rfl) .nil) rfl (bW [4] kr rfl)
       refine zap (cd (zaz (bX (zbs h fun a5 h=>zaT rfl (dA (r:=J+1) (ai _ a5)) (zyR 1 rfl (zaB ?_))))))
       subst E
       exact aD (n2,J+1) h 4
      exact dy (bV (bV (dz (cd (cL () h rfl (bI rfl) (bW [3] kr rfl))))))
    rintro _ h
    rw[a2] at h
    refine bX (zbs h fun a4 h=>zaT rfl (dA (r:=T+1) (ai _ a4)) (zyR 1 rfl (zaB ?_)))
    subst G
    exact aD (n1,T+1) h 1
   exact dy (bV (bV (dz (cL () h rfl (bI rfl) ah))))
 rintro _ h
 rw[a3] at h
 refine zyG (zyR 1 rfl (fx (cs:=[.int .i32 r1]) (te:=21) (ps:=[(0,.tmp 45)]) rfl dc rfl (fun _=>by kernel_rfl) (fun b3=>zyR 1 rfl (nE ([r1]:List Int) (k:=0) rfl jE rfl (show 1≤maxLen by decide) (zyN (zaA ?_))))))
 cases h
 exact eu (rs:=[.tmp 2]) (.slice (some ⟨b3,0,none⟩) 1 1) (.inl rfl) results58 (.cons (.tmp rfl) .nil) rfl (cp 1)
theorem ID {r1:Int} {r:(List Int)} (h:wJ r1=some r):Fn prog 58 [.int .i32 r1] [] (fun v0:Value=>v0) (fun v0=>[eA v0 r]):=by
 unfold wJ at h
 exact P8 zbx  h
def zgJ (r1:Int) (g:Option Bool) (d:Int→Option Bool) (a:Int):Option Bool := aN (decide ((a:Int)<8)) (co (fun (e:Option Bool)=>aT (zca ([(⟨790,793⟩:jZ),(⟨796,800⟩:jZ),(⟨803,819⟩:jZ),(⟨825,828⟩:jZ),(⟨837,841⟩:jZ),(⟨845,846⟩:jZ),(⟨851,854⟩:jZ),(⟨857,858⟩:jZ)]:List jZ) a) fun (q1:jZ)=>aN (decide ((q1.e0:Int)≤r1)) (aN (decide ((r1:Int)≤q1.e1)) (some true) (e)) (e)) (aV (cr (a+1)) <|d (a+1))) (g)
def wK (r1:Int):Option Bool := co (fun (a:Option Bool)=>zaC (fun _=>none) (zgJ r1 a) zbx 0) (some false)
theorem IE {r1:Int} {r:Bool} (h:wK r1=some r):dN prog 40 [.int .i32 r1] (.bool r):=by
 unfold wK at h
 refine dN.intro func40 rfl ntmps40 (by simp) (fun w0 K=>zbq h fun i l h=>zaL (β:=Unit) 1 rfl (fun b=>i=some r) (fun b=>[]) (fun b=>[]) (fun b=>[]) (fun cut=>?_) ?_)
 ·refine zyG (zyR 1 rfl (zyN (cut (zyG (zbf (v:=.agg #[.int .i32 790,.int .i32 793]) (ps:=[(0,.const (.int .i32 790)),(1,.const (.int .i32 793))]) rfl dc rfl (fun _=>by kernel_rfl) (zbf (v:=.agg #[.int .i32 796,.int .i32 800]) (ps:=[(0,.const (.int .i32 796)),(1,.const (.int .i32 800))]) rfl dc rfl (fun _=>by kernel_rfl) (zbf (v:=.agg #[.int .i32 803,.int .i32 819]) (ps:=[(0,.const (.int .i32 803)),(1,.const (.int .i32 819))]) rfl dc rfl (fun _=>by kernel_rfl) (zbf (v:=.agg #[.int .i32 825,.int .i32 828]) (ps:=[(0,.const (.int .i32 825)),(1,.const (.int .i32 828))]) rfl dc rfl (fun _=>by kernel_rfl) (zbf (v:=.agg #[.int .i32 837,.int .i32 841]) (ps:=[(0,.const (.int .i32 837)),(1,.const (.int .i32 841))]) rfl dc rfl (fun _=>by kernel_rfl) (zbf (v:=.agg #[.int .i32 845,.int .i32 846]) (ps:=[(0,.const (.int .i32 845)),(1,.const (.int .i32 846))]) rfl dc rfl (fun _=>by kernel_rfl) (zbf (v:=.agg #[.int .i32 851,.int .i32 854]) (ps:=[(0,.const (.int .i32 851)),(1,.const (.int .i32 854))]) rfl dc rfl (fun _=>by kernel_rfl) (zbf (v:=.agg #[.int .i32 857,.int .i32 858]) (ps:=[(0,.const (.int .i32 857)),(1,.const (.int .i32 858))]) rfl dc rfl (fun _=>by kernel_rfl) (zbf (v:=.agg #[.int .i32 790,.int .i32 793,.int .i32 796,.int .i32 800,.int .i32 803,.int .i32 819,.int .i32 825,.int .i32 828,.int .i32 837,.int .i32 841,.int .i32 845,.int .i32 846,.int .i32 851,.int .i32 854,.int .i32 857,.int .i32 858]) (ps:=[(0,.tmp 5),(1,.tmp 6),(2,.tmp 7),(3,.tmp 8),(4,.tmp 9),(5,.tmp 10),(6,.tmp 11),(7,.tmp 12)]) rfl dc rfl (fun _=>by kernel_rfl) (zyR 1 rfl (zyN (zat (eF (β:=Nat×Int) (fun b=>zaC (fun _=>none) (zgJ r1 i) b.1 b.2=some r) (fun b=>[]) (fun b=>[(0,.int .i32 r1),(13,.agg #[.int .i32 790,.int .i32 793,.int .i32 796,.int .i32 800,.int .i32 803,.int .i32 819,.int .i32 825,.int .i32 828,.int .i32 837,.int .i32 841,.int .i32 845,.int .i32 846,.int .i32 851,.int .i32 854,.int .i32 857,.int .i32 858]),(14,zI b.2)]) (fun b=>[]) (fun b=>b.1) (zbx,0) h rfl (bI rfl) ah ?_)))))))))))))))))
  rintro⟨g,e⟩ h
  cases g with
  |zero=>exact ew h
  |succ g=>
   obtain⟨n,a⟩:∃ag,ag=zaC (fun _=>none) (zgJ r1 i) g:=⟨_,rfl⟩
   have h:zgJ r1 i n e=some r:=by rw[a];exact h
   unfold zgJ at h
   refine zyG (zaT rfl zbd (zyN (zaJ (zyB rfl h (fun h=>?_) (fun h=>?_)))))
   ·refine zap (zaz (zbq h fun t j h=>zaL (β:=Unit) 0 rfl (fun b=>t=some r) (fun b=>[]) (fun b=>[(0,.int .i32 r1),(13,.agg #[.int .i32 790,.int .i32 793,.int .i32 796,.int .i32 800,.int .i32 803,.int .i32 819,.int .i32 825,.int .i32 828,.int .i32 837,.int .i32 841,.int .i32 845,.int .i32 846,.int .i32 851,.int .i32 854,.int .i32 857,.int .i32 858]),(14,zI e)]) (fun b=>[]) (fun cut=>?_) ?_))
    ·refine cut (zat (zyG (zbk h fun q1 d h=>nj (v:=.agg #[.int .i32 q1.e0,.int .i32 q1.e1]) rfl dc rfl rfl (MY (enc:=DE) (xs:=([(⟨790,793⟩:jZ),(⟨796,800⟩:jZ),(⟨803,819⟩:jZ),(⟨825,828⟩:jZ),(⟨837,841⟩:jZ),(⟨845,846⟩:jZ),(⟨851,854⟩:jZ),(⟨857,858⟩:jZ)]:List jZ)) (q:=q1) underlying134 Hr rfl H3 d (fun _=>MZ (enc:=DE) NM H3 (ei d))) (zbi NN rfl dc (fun b1=>eE (k:=0) (vs:=[.int .i32 q1.e0,.int .i32 q1.e1]) (l':=[.int .i32 q1.e0,.int .i32 q1.e1]) Hr rfl rfl rfl rfl rfl (show _≤_ by simp) rfl rfl (zyH (zyR 1 rfl (o7 dc underlying126 lj rfl dc rfl rfl (show _=0 from rfl) (zas (k:=0) eZ rfl dc rfl rfl rfl (zaT rfl zbF (zyR 1 rfl (zyS (s:=21) rfl h (fun h=>?_) (fun h=>?_)))))))))))))
     ·refine zyR 1 rfl (o7 dc underlying126 lj rfl dc rfl rfl (show _=1 from rfl) (zas (k:=0) eZ rfl dc rfl rfl rfl (zaT rfl io (zyR 1 rfl (zyN (zyB rfl h (fun h=>?_) (fun h=>?_)))))))
      ·refine zyG (zyR 1 rfl (zyN (zaA (cx (bP (bP (cx (bP ?_))))))))
       cases h
       exact cX 2 results40
      exact zap (cd (cL () h rfl (bI rfl) ah))
     exact zyR 5 rfl (zyN (za8 rfl (zap (cd (cL () h rfl (bI rfl) ah)))))
    rintro _ h
    rw[j] at h
    refine bX (zbs h fun m h=>zaT rfl (dA (r:=e+1) (ai _ m)) (zyR 1 rfl (zaB ?_)))
    subst a
    exact nB (g,e+1) h (ct _) rfl (bI rfl) ah
   exact dy (bV (bV (dz (cL () h rfl (rA) ah))))
 rintro _ h
 rw[l] at h
 refine zyG (zyR 1 rfl (zyN (zaA ?_)))
 cases h
 exact cX 2 results40
def rP (r1:Int):Option Bool := aV (fB r1) <|aN (great r1) (some true) (aV (fB r1) <|some (pa r1))
theorem yV {r1:Int} {r:Bool} (h:rP r1=some r):dN prog 81 [.int .i32 r1] (.bool r):=by
 unfold rP at h
 refine dN.intro func81 rfl ntmps81 (by simp) (fun w0 K=>zyG (zyR 1 rfl (zyH (zyR 1 rfl (zbs h fun d h=>zaI (v:=.bool (great r1)) (vs:=[.int .i32 r1]) rfl dc rfl rfl rfl HQ (nC fun w=>yr r1 w d.1 d.2) (zyR 1 rfl (zyS (s:=5) rfl h (fun h=>?_) (fun h=>?_))))))))
 ·refine zyR 4 rfl (zyN (zaA ?_))
  cases h
  exact cX 2 results81
 refine zyR 1 rfl (zbs h fun a h=>zaI (v:=.bool (pa r1)) (vs:=[.int .i32 r1]) rfl dc rfl rfl rfl HH (nC fun w=>DM r1 w a.1 a.2) (zyR 2 rfl (zyN (zaA ?_))))
 cases h
 exact cX 2 results81
def rf (r1:Int):Option Bool := aN (decide ((768:Int)≤r1)) (some (decide ((r1:Int)≤879))) (some false)
theorem yW {r1:Int} {r:Bool} (h:rf r1=some r):dN prog 102 [.int .i32 r1] (.bool r):=by
 unfold rf at h
 refine dN.intro func102 rfl ntmps102 (by simp) (fun w0 K=>zyG (zyR 1 rfl (zyH (zyR 1 rfl (zaT rfl zbF (zyR 1 rfl (zyS (s:=5) rfl h (fun h=>?_) (fun h=>?_))))))))
 ·refine zyR 1 rfl (zaT rfl io (zyR 2 rfl (zyN (zaA ?_))))
  cases h
  exact cX 2 results102
 refine zyR 4 rfl (zyN (zaA ?_))
 cases h
 exact cX 2 results102
def sQ (x1:bN):Option Bool := aN (decide ((0:Int)≤x1.Rune)) (aT (rP x1.Rune) fun (r1:Bool)=>some r1) (some false)
theorem yX {x1:bN} {r:Bool} (h:sQ x1=some r):dN prog 38 [.agg (fU x1).toArray] (.bool r):=by
 unfold sQ at h
 refine dN.intro func38 rfl ntmps38 (by simp) (fun w0 K=>zyG (zfq rfl dc rfl (fun b1=>zyR 1 rfl (zyH (zab zdk rfl dc rfl (show _=0 from rfl) (zas (k:=0) eZ rfl dc rfl rfl rfl (zaT rfl zbF (zyR 1 rfl (zyS (s:=6) rfl h (fun h=>?_) (fun h=>?_))))))))))
 ·refine zab zdk rfl dc rfl (show _=0 from rfl) (zas (k:=0) eZ rfl dc rfl rfl rfl (zbk h fun r1 a h=>zaI (v:=.bool r1) (vs:=[.int .i32 x1.Rune]) rfl dc rfl rfl rfl yf (yV a) (zyR 2 rfl (zyN (zaA ?_)))))
  cases h
  exact cX 2 results38
 refine zyR 5 rfl (zyN (zaA ?_))
 cases h
 exact cX 2 results38
def yY (x1:bN):Option Bool := aN (decide ((0:Int)≤x1.Rune)) (aT (rf x1.Rune) fun (r1:Bool)=>some r1) (some false)
theorem P9 {x1:bN} {r:Bool} (h:yY x1=some r):dN prog 82 [.agg (fU x1).toArray] (.bool r):=by
 unfold yY at h
 refine dN.intro func82 rfl ntmps82 (by simp) (fun w0 K=>zyG (zfq rfl dc rfl (fun b1=>zyR 1 rfl (zyH (zab zdk rfl dc rfl (show _=0 from rfl) (zas (k:=0) eZ rfl dc rfl rfl rfl (zaT rfl zbF (zyR 1 rfl (zyS (s:=6) rfl h (fun h=>?_) (fun h=>?_))))))))))
 ·refine zab zdk rfl dc rfl (show _=0 from rfl) (zas (k:=0) eZ rfl dc rfl rfl rfl (zbk h fun r1 a h=>zaI (v:=.bool r1) (vs:=[.int .i32 x1.Rune]) rfl dc rfl rfl rfl yg (yW a) (zyR 2 rfl (zyN (zaA ?_)))))
  cases h
  exact cX 2 results82
 refine zyR 5 rfl (zyN (zaA ?_))
 cases h
 exact cX 2 results82
def zfO (k:ad) (l:(List bN)→Option (List bN)) (r1:(List cY)) (e:(List bN)→Int→Option (List bN)) (d:List bN) (a:Int):Option (List bN) := aN (decide ((a:Int)<(r1.length:Int))) (co (fun (g:Int→ad→Int→Option (List bN))=>aT (zca r1 a) fun (q1:cY)=>aT (D0 k q1) fun (r2:ad)=>aN (q1.Broken) (g (-1) r2 q1.At) (g q1.Rune r2 q1.At)) (fun (j:Int) (i:ad) (h:Int)=>aV (d.length+1≤2147483648) <|aV (cr (a+1)) <|e (d++[(⟨j,i,h⟩:bN)]) (a+1))) (l d)
def rQ (a:ad):Option (List bN) := co (fun (e:(List bN)→Option (List bN))=>aT (yB a) fun (r1:(List cY))=>zaC (fun _ _=>none) (zfO a e r1) zbx ([]:List bN) 0) (fun (d:List bN)=>some d)
theorem wL {g:ad} {r:(List bN)} (h:rQ g=some r):Fn prog 37 [.string g] [] (fun v0:Value=>v0) (fun v0=>[eI v0 r]):=by
 unfold rQ at h
 refine _root_.Go.Proofs.YtifpjbgnikjglaaGreatDoor.Fn.intro func37 rfl ntmps37 (by simp) (fun w0 K=>zbq h fun O V h=>zaL (β:=(List bN)×Value) 2 rfl (fun b=>O b.1=some r) (fun b=>[]) (fun b=>[(3,b.2)]) (fun b=>[eI b.2 b.1]) (fun cut=>?_) ?_)
 ·refine zyG (zyR 1 rfl (zyH (zyR 1 rfl (zyN (cut (zyG (zyR 1 rfl (zbk h fun r1 T h=>zbN (vs:=[.string g]) rfl dc rfl rfl rfl Oi (P5 T) ah (fun v2=>gZ (k:=0) rfl dc rfl rfl cG (zyR 1 rfl (zyN (zat (nD (enc:=o9) (e:=81) (size:=3) (eF (β:=Nat×(List bN)×Int×Value) (fun b=>zaC (fun _ _=>none) (zfO g O r1) b.1 b.2.1 b.2.2.1=some r) (fun b=>[]) (fun b=>[(0,.string g),(3,b.2.2.2),(8,v2),(9,zI (r1.length:Int)),(10,zI b.2.2.1)]) (fun b=>[eI b.2.2.2 b.2.1,pw v2 r1]) (fun b=>b.1) (zbx,([]:List bN),0,(.slice none 0 0)) h rfl (bI rfl) (bW [1,0] kr rfl) ?_))))))))))))))
  rintro⟨M,t,s,J⟩ h
  cases M with
  |zero=>exact ew h
  |succ M=>
   obtain⟨Z,m⟩:∃ag,ag=zaC (fun _ _=>none) (zfO g O r1) M:=⟨_,rfl⟩
   have h:zfO g O r1 Z t s=some r:=by rw[m];exact h
   unfold zfO at h
   refine zyG (zaT rfl zbd (zyN (zaJ (zyB rfl h (fun h=>?_) (fun h=>?_)))))
   ·refine zap (zaz (zaJ (zat (zbq h fun j2 U h=>zaL (β:=Int×ad×Int×Nat) 2 rfl (fun b=>j2 b.1 b.2.1 b.2.2.1=some r) (fun b=>[]) (fun b=>[(0,.string g),(3,J),(6,zP b.2.2.2),(8,v2),(9,zI (r1.length:Int)),(10,zI s)]) (fun b=>[eI J t,cells b.2.2.2 [.int .i32 b.1,.string b.2.1,zI b.2.2.1] 81,pw v2 r1]) (fun cut=>zyG (zbk h fun q1 E h=>eJ (k:=1) E cG kM rfl dc rfl rfl rfl rfl (mj (i:=(s:Int).toNat) (j:=0) (k:=1) (q:=q1) (cs:=[zI q1.At,zI q1.Width,.int .i32 q1.Rune,.bool q1.Broken]) lO AW rfl dc rfl rfl (ei E) rfl rfl rfl (zbi zjr rfl dc (fun b2=>eE (k:=2) (vs:=[zI q1.At,zI q1.Width,.int .i32 q1.Rune,.bool q1.Broken]) (l':=[zI q1.At,zI q1.Width,.int .i32 q1.Rune,.bool q1.Broken]) kM rfl rfl rfl rfl rfl (show _≤_ by simp) rfl rfl (zyN (zaJ (zbk h fun r2 C h=>Aj (β:=Nat) 9 8 _ [(0,14,.pointer (some ⟨b2,2,none⟩)),(1,15,.int .i32 q1.Rune),(2,16,.string g),(3,17,.agg #[zI q1.At,zI q1.Width,.int .i32 q1.Rune,.bool q1.Broken]),(4,18,.string r2),(5,19,zP b2),(6,20,zI q1.At),(7,21,.agg #[.int .i32 q1.Rune,.string r2,zI q1.At])] (fun l=>[(6,zP l)]) (fun l=>[eI J t,pw v2 r1,cells b2 [zI q1.At,zI q1.Width,.int .i32 q1.Rune,.bool q1.Broken] 132,cells l [.int .i32 0,.string ByteArray.empty,zI 0] 81]) mixed kr kr rfl dc dc (by rfl) kr kr (gQ (fun D n d c u i=>zab qu rfl dc (zbA (by rfl) rfl) (show _=2 from rfl) (zaN 0 u i)) (gQ (fun D n d c u i=>zas (k:=2) eZ rfl dc (bt 0 u d) rfl rfl (zaN 1 u i)) (A9 1 2 rfl (gQ (fun D n d c u i=>zbR (k:=2) (cs:=[zI q1.At,zI q1.Width,.int .i32 q1.Rune,.bool q1.Broken]) lO rfl dc (zbA (by rfl) rfl) rfl rfl rfl (zaN 3 u i)) (gQ (fun D n d c u i=>zaI (v:=.string r2) (vs:=[.string g,.agg #[zI q1.At,zI q1.Width,.int .i32 q1.Rune,.bool q1.Broken]]) rfl dc rfl (dv (bt 2 u d) (dv (bt 3 u d) eX)) rfl HL (Iy (p1:=q1) C) (zaN 4 u i)) (gQ (fun D n d c u i=>zab zd2 rfl dc (zbA (by rfl) rfl) (show _=0 from rfl) (zaN 5 u i)) (gQ (fun D n d c u i=>zas (k:=2) dO rfl dc (bt 5 u d) rfl rfl (zaN 6 u i)) (gQ (fun D n d c u i=>zbf (v:=.agg #[.int .i32 q1.Rune,.string r2,zI q1.At]) (ps:=[(0,.tmp 15),(1,.tmp 18),(2,.tmp 20)]) rfl dc (fJ (bt 1 u d) (fJ (bt 4 u d) (fJ (bt 6 u d) qG))) (fun _=>by kernel_rfl) (zaN 7 u i)) (tD iF))))))))) (fun l=>(gQ (fun D n d c u i=>zab qu rfl dc (zbA (by rfl) rfl) (show _=2 from rfl) (zaN 0 u i)) (gQ (fun D n d c u i=>zas (k:=2) eZ rfl dc (bt 0 u d) rfl rfl (zaN 1 u i)) (A9 1 2 rfl (gQ (fun D n d c u i=>zbR (k:=2) (cs:=[zI q1.At,zI q1.Width,.int .i32 q1.Rune,.bool q1.Broken]) lO rfl dc (zbA (by rfl) rfl) rfl rfl rfl (zaN 3 u i)) (gQ (fun D n d c u i=>zaI (v:=.string r2) (vs:=[.string g,.agg #[zI q1.At,zI q1.Width,.int .i32 q1.Rune,.bool q1.Broken]]) rfl dc rfl (dv (bt 2 u d) (dv (bt 3 u d) eX)) rfl HL (Iy (p1:=q1) C) (zaN 4 u i)) (gQ (fun D n d c u i=>zab zd2 rfl dc (zbA (by rfl) rfl) (show _=0 from rfl) (zaN 5 u i)) (gQ (fun D n d c u i=>zas (k:=2) dO rfl dc (bt 5 u d) rfl rfl (zaN 6 u i)) (gQ (fun D n d c u i=>zbf (v:=.agg #[.int .i32 q1.Rune,.string r2,zI q1.At]) (ps:=[(0,.tmp 15),(1,.tmp 18),(2,.tmp 20)]) rfl dc (fJ (bt 1 u d) (fJ (bt 4 u d) (fJ (bt 6 u d) qG))) (fun _=>by kernel_rfl) (zaN 7 u i)) (tD iF)))))))))) (fun D hn hd ao=>zbi zor rfl dc (fun l=>fun a w ha hw=>⟨l,Gq (by rfl) _ _ _ ha,hw⟩)) (fun l=>eE (k:=3) (vs:=[.int .i32 q1.Rune,.string r2,zI q1.At]) (l':=[.int .i32 q1.Rune,.string r2,zI q1.At]) gR rfl rfl rfl rfl rfl (show _≤_ by simp) rfl rfl (zyN (cut (zyG (zab AK rfl dc rfl (show _=3 from rfl) (zas (k:=2) qS rfl dc rfl rfl rfl (zyN (zyB rfl h (fun h=>bX (zab zdk rfl dc rfl (show _=0 from rfl) (eP (k:=3) (l':=[.int .i32 (-1),.string r2,zI q1.At]) lj rfl rfl rfl rfl rfl (fun _ _=>rfl) rfl (zaB (cL ((-1),r2,q1.At,l) h rfl (bI rfl) (bW [0,3,1] kr rfl)))))) (fun h=>zap (cL (q1.Rune,r2,q1.At,l) h rfl (bI rfl) (bW [0,3,1] kr rfl))))))))))))))))))) ?_))))
    rintro⟨I,H,G,b1⟩ h
    rw[U] at h
    refine bX (zyR 1 rfl (zbR (k:=1) (cs:=[.int .i32 I,.string H,zI G]) l7 rfl dc rfl rfl rfl rfl (fx (cs:=[.int .i32 I,.string H,zI G]) (te:=81) (ps:=[(0,.tmp 26)]) rfl dc rfl (fun _=>by kernel_rfl) (fun b4=>zbs h fun Y h=>iT (k:=0) (k2:=3) (ys:=[(⟨I,H,G⟩:bN)]) aI tM jH tO rfl dc rfl rfl rfl rfl rfl rfl Y (fun v6=>zyR 1 rfl (zaB (cd (zaz (bX (zbs h fun W h=>zaT rfl (dA (r:=s+1) (ai _ W)) (zyR 1 rfl (zaB ?_))))))))))))
    subst m
    exact nB (M,t++[(⟨I,H,G⟩:bN)],s+1,v6) h (ct _) rfl (bI rfl) (bW [0,2] kr rfl)
   exact dy (bV (bV (dz (mD (t,J) h 1))))
 rintro⟨l1,v1⟩ h
 rw[V] at h
 refine zyG (zyR 2 rfl (zyN (zaA ?_)))
 cases h
 exact eu (rs:=[.tmp 2]) v1 (.inl rfl) results37 (.cons (.tmp rfl) .nil) rfl (cp 1)
def zgi (g:List bN) (h:ad→Option ad) (e:ad→Int→Option ad) (d:ad) (a:Int):Option ad := aN (decide ((a:Int)<(g.length:Int))) (aT (zca g a) fun (q1:bN)=>aV (d.size+q1.Text.size≤9223372036854775807) <|aV (cr (a+1)) <|e (d++q1.Text) (a+1)) (h d)
def uR (d:List bN):Option ad := co (fun (e:ad→Option ad)=>zaC (fun _ _=>none) (zgi d e) zbx (⟨#[]⟩:ad) 0) (fun (a:ad)=>some a)
theorem D5 {d g:Value} {t:List bN} {l:Nat} {n:List bN} (a:Vw d t 3 l g n) {r:ad} (h:uR n=some r):iu prog 112 [g] [jh o9 3 d l t] [] (fun _:Unit=>(.string r)) (fun _=>[]):=by
 unfold uR at h
 refine iu.intro func112 rfl ntmps112 (by simp) (fun w0 K D=>zbq h fun w E h=>zaL (β:=ad) 2 rfl (fun b=>w b=some r) (fun b=>[]) (fun b=>[(3,.string b)]) (fun b=>[]) (fun cut=>?_) ?_)
 ·refine zyG (zyR 1 rfl (zyH (zyR 1 rfl (zyN (cut (zyG (zyR 1 rfl (zbT a rfl dc rfl aI (zyR 1 rfl (zyN (zat (eF (β:=Nat×ad×Int) (fun b=>zaC (fun _ _=>none) (zgi n w) b.1 b.2.1 b.2.2=some r) (fun b=>[]) (fun b=>[(3,.string b.2.1),(6,g),(7,zI (n.length:Int)),(8,zI b.2.2)]) (fun b=>[]) (fun b=>b.1) (zbx,(⟨#[]⟩:ad),0) (by exact h) rfl (bI rfl) ah ?_))))))))))))
  rintro⟨v,C,u⟩ h
  cases v with
  |zero=>exact ew h
  |succ v=>
   obtain⟨I,e⟩:∃ag,ag=zaC (fun _ _=>none) (zgi n w) v:=⟨_,rfl⟩
   have h:zgi n w I C u=some r:=by rw[e];exact h
   unfold zgi at h
   refine zyG (zaT rfl zbd (zyN (zaJ (zyB rfl h (fun h=>?_) (fun h=>?_)))))
   ·refine zap (zaz (zaJ (zat (zyG (zbk h fun q1 s h=>fy a s aI gR rfl dc rfl rfl rfl (pJ (m:=l+(u:Int).toNat) (j:=0) (i:=0) (q:=q1) (cs:=(fU q1)) D rfl (by omega) l7 rfl dc rfl (ce a s) rfl rfl rfl (zbi zor rfl dc (fun b1=>eE (k:=0) (vs:=(fU q1)) (l':=(fU q1)) gR rfl rfl rfl rfl rfl (show _≤_ by simp) rfl rfl (zyN (bX (zyR 1 rfl (zab qT rfl dc rfl (show _=1 from rfl) (zas (k:=0) dU rfl dc rfl rfl rfl (zbs h fun H h=>zaT rfl (lJ H) (zyR 1 rfl (zaB (cd (zaz (bX (zbs h fun G h=>zaT rfl (dA (r:=u+1) (ai _ G)) (zyR 1 rfl (zaB ?_))))))))))))))))))))))
    subst e
    exact nB (v,C++q1.Text,u+1) h (ct _) rfl (bI rfl) ah
   exact dy (bV (bV (dz (cL C h rfl (bI rfl) ah))))
 rintro J h
 rw[E] at h
 refine zyG (zyR 2 rfl (zyN (zaA ?_)))
 cases h
 exact cX 2 results112
def wM (r1:Int) (x1:bN):Option bN := aT (rO r1) fun (r2:ad)=>some (⟨r1,r2,x1.At⟩:bN)
theorem IF {r1:Int} {x1:bN} {r:bN} (h:wM r1 x1=some r):dN prog 42 [.int .i32 r1,.agg (fU x1).toArray] (.agg (fU r).toArray):=by
 unfold wM at h
 refine dN.intro func42 rfl ntmps42 (by simp) (fun w0 K=>zyG (zfq rfl dc rfl (fun b1=>zbi zor rfl dc (fun b2=>zyN (zaJ (zbk h fun r2 a h=>zcI 5 [(0,5,.int .i32 r1),(1,6,.int .i32 r1),(2,7,.string r2),(3,8,.pointer (some ⟨b1,2,none⟩)),(4,9,zI x1.At)] mixed kr kr dc (by rfl) kr kr (zyP 2 0 rfl (zac (fun D n d c u i=>zaI (v:=.string r2) (vs:=[.int .i32 r1]) rfl dc rfl (dv (bt 1 u d) eX) rfl AQ (Ba a) (zaN 2 u i)) (zac (fun D n d c u i=>zab NB rfl dc (zbA (by rfl) rfl) (show _=2 from rfl) (zaN 3 u i)) (zac (fun D n d c u i=>zas (k:=0) dO rfl dc (bt 3 u d) rfl rfl (zaN 4 u i)) bQ)))) (zbf (v:=.agg #[.int .i32 r1,.string r2,zI x1.At]) (ps:=[(0,.tmp 5),(1,.tmp 7),(2,.tmp 9)]) rfl dc rfl (fun _=>by kernel_rfl) (eE (k:=1) (vs:=[.int .i32 r1,.string r2,zI x1.At]) (l':=[.int .i32 r1,.string r2,zI x1.At]) gR rfl rfl rfl rfl rfl (show _≤_ by simp) rfl rfl (zyN (zaA ?_))))))))))
 cases h
 exact eu (rs:=[.cell 4 81]) () (.inl rfl) results42 (.cons (.cells l7 (k:=1) rfl rfl rfl) .nil) rfl ah
def zfa (e:List bN) (g:Int→Option Int) (d:Int→Option Int) (a:Int):Option Int := aN (decide ((a:Int)<(e.length:Int))) (aT (zca e a) fun (q1:bN)=>aT (yY q1) fun (r1:Bool)=>aN (r1) (aV (cr (a+1)) <|d (a+1)) (g a)) (g a)
def uS (d:List bN):Option Int := co (fun (e:Int→Option Int)=>zaC (fun _=>none) (zfa d e) zbx 0) (fun (a:Int)=>some a)
theorem D6 {a l:Value} {e:List bN} {t:Nat} {n:List bN} (d:Vw a e 3 t l n) {r:Int} (h:uS n=some r):Fn prog 39 [l] [eI a e] (fun _b:Unit=>zI r) (fun _b=>[eI a e]):=by
 unfold uS at h
 refine _root_.Go.Proofs.YtifpjbgnikjglaaGreatDoor.Fn.intro func39 rfl ntmps39 (by simp) (fun w0 K=>zbq h fun C E h=>zaL (β:=Int) 2 rfl (fun b=>C b=some r) (fun b=>[]) (fun b=>[(3,zI b)]) (fun b=>[eI a e]) (fun cut=>?_) ?_)
 ·refine zyG (zyR 1 rfl (zyH (zyR 1 rfl (zyN (cut (zat (eF (β:=Nat×Int) (fun b=>zaC (fun _=>none) (zfa n C) b.1 b.2=some r) (fun b=>[]) (fun b=>[(0,l),(3,zI b.2)]) (fun b=>[eI a e]) (fun b=>b.1) (zbx,0) h rfl (bI rfl) (cp 1) ?_)))))))
  rintro⟨w,m⟩ h
  cases w with
  |zero=>exact ew h
  |succ w=>
   obtain⟨H,g⟩:∃ag,ag=zaC (fun _=>none) (zfa n C) w:=⟨_,rfl⟩
   have h:zfa n C H m=some r:=by rw[g];exact h
   unfold zfa at h
   refine zaJ (zyG (zyR 2 rfl (zbT d rfl dc rfl aI (zaT rfl zbd (zyR 1 rfl (zyS (s:=8) rfl h (fun h=>?_) (fun h=>?_)))))))
   ·refine zyR 2 rfl (zbk h fun q1 u h=>fy d u aI gR rfl dc rfl rfl rfl (mj (i:=t+(m:Int).toNat) (j:=0) (k:=0) (q:=q1) (cs:=(fU q1)) l7 jH rfl dc rfl rfl (ce d u) rfl rfl rfl (zbk h fun r1 D h=>zaI (v:=.bool r1) (vs:=[.agg (fU q1).toArray]) rfl dc rfl rfl rfl Oj (P9 (x1:=q1) D) (zyR 1 rfl (zyN (zyB rfl h (fun h=>?_) (fun h=>?_)))))))
    ·refine zap (zaz (zat (bX (zyR 1 rfl (zbs h fun G h=>zaT rfl (dA (r:=m+1) (ai _ G)) (zyR 1 rfl (zaB (cd ?_))))))))
     subst g
     exact aD (w,m+1) h 1
    exact dy (bV (bV (dz (mD m h 1))))
   exact zyR 6 rfl (zyN (za8 rfl (dy (bV (bV (dz (mD m h 1)))))))
 rintro I h
 rw[E] at h
 refine zyG (zyR 2 rfl (zyN (zaA ?_)))
 cases h
 exact eu (rs:=[.tmp 2]) () (.inl rfl) results39 (.cons (.tmp rfl) .nil) rfl (cp 1)
def yZ (r1:Int):Option ad := aN ((r1:Int)==223) (some (⟨#[115,115]⟩:ad)) (aN ((r1:Int)==230) (some (⟨#[97,101]⟩:ad)) (aN ((r1:Int)==248) (some (⟨#[111]⟩:ad)) (co (fun (d:Bool→Option ad)=>aN ((r1:Int)==240) (d ((r1:Int)==240)) (d ((r1:Int)==273))) (fun (x1:Bool)=>aN (x1) (some (⟨#[100]⟩:ad)) (aN ((r1:Int)==254) (some (⟨#[116,104]⟩:ad)) (aN ((r1:Int)==295) (some (⟨#[104]⟩:ad)) (aN ((r1:Int)==305) (some (⟨#[105]⟩:ad)) (aN ((r1:Int)==307) (some (⟨#[105,106]⟩:ad)) (aN ((r1:Int)==312) (some (⟨#[113]⟩:ad)) (co (fun (a:Bool→Option ad)=>aN ((r1:Int)==320) (a ((r1:Int)==320)) (a ((r1:Int)==322))) (fun (x2:Bool)=>aN (x2) (some (⟨#[108]⟩:ad)) (aN ((r1:Int)==329) (some (⟨#[110]⟩:ad)) (aN ((r1:Int)==331) (some (⟨#[110,103]⟩:ad)) (aN ((r1:Int)==339) (some (⟨#[111,101]⟩:ad)) (aN ((r1:Int)==359) (some (⟨#[116]⟩:ad)) (aN ((r1:Int)==383) (some (⟨#[115]⟩:ad)) (aN ((r1:Int)==962) (some (⟨#[207,131]⟩:ad)) (aT (rO r1) fun (r2:ad)=>some r2))))))))))))))))))
theorem Qn {r1:Int} {r:ad} (h:yZ r1=some r):dN prog 149 [.int .i32 r1] (.string r):=by
 unfold yZ at h
 refine dN.intro func149 rfl ntmps149 (by simp) (fun w0 K=>zyG (zyR 1 rfl (zyN (zaJ (zyG (zyR 1 rfl (zyN (zat (zyG (zaT rfl zbm (zyR 1 rfl (zyN (zyB rfl h (fun h=>?_) (fun h=>?_))))))))))))))
 ·refine zyG (zyR 1 rfl (zyN (zaA (cx (bP ?_)))))
  cases h
  exact cX 2 dH
 refine zyG (zaT rfl zbm (zyR 1 rfl (zyN (zyB rfl h (fun h=>?_) (fun h=>?_)))))
 ·refine zyG (zyR 1 rfl (zyN (zaA (cx (bP ?_)))))
  cases h
  exact cX 2 dH
 refine zyG (zaT rfl zbm (zyR 1 rfl (zyN (zyB rfl h (fun h=>?_) (fun h=>?_)))))
 ·refine zyG (zyR 1 rfl (zyN (zaA (cx (bP ?_)))))
  cases h
  exact cX 2 dH
 refine zbq h fun i e h=>zaL (β:=Bool) 0 rfl (fun b=>i b=some r) (fun b=>[]) (fun b=>[(0,.int .i32 r1),(3,.int .i32 r1),(10,.bool b)]) (fun b=>[]) (fun cut=>cut (zyG (zaT rfl zbm (zyR 1 rfl (zyN (zyB rfl h (fun h=>zap (cL ((r1:Int)==240) h rfl (bI rfl) ah)) (fun h=>bX (zaT rfl zbm (zyR 1 rfl (zaB (cL ((r1:Int)==273) h rfl (bI rfl) ah))))))))))) (fun x1 h=>?_)
 rw[e] at h
 refine zyB rfl h (fun h=>?_) (fun h=>?_)
 ·refine zyG (zyR 1 rfl (zyN (zaA (cx (bP ?_)))))
  cases h
  exact cX 2 dH
 refine zyG (zaT rfl zbm (zyR 1 rfl (zyN (zyB rfl h (fun h=>?_) (fun h=>?_)))))
 ·refine zyG (zyR 1 rfl (zyN (zaA (cx (bP ?_)))))
  cases h
  exact cX 2 dH
 refine zyG (zaT rfl zbm (zyR 1 rfl (zyN (zyB rfl h (fun h=>?_) (fun h=>?_)))))
 ·refine zyG (zyR 1 rfl (zyN (zaA (cx (bP ?_)))))
  cases h
  exact cX 2 dH
 refine zyG (zaT rfl zbm (zyR 1 rfl (zyN (zyB rfl h (fun h=>?_) (fun h=>?_)))))
 ·refine zyG (zyR 1 rfl (zyN (zaA (cx (bP ?_)))))
  cases h
  exact cX 2 dH
 refine zyG (zaT rfl zbm (zyR 1 rfl (zyN (zyB rfl h (fun h=>?_) (fun h=>?_)))))
 ·refine zyG (zyR 1 rfl (zyN (zaA (cx (bP ?_)))))
  cases h
  exact cX 2 dH
 refine zyG (zaT rfl zbm (zyR 1 rfl (zyN (zyB rfl h (fun h=>?_) (fun h=>?_)))))
 ·refine zyG (zyR 1 rfl (zyN (zaA (cx (bP ?_)))))
  cases h
  exact cX 2 dH
 refine zbq h fun g d h=>zaL (β:=Bool) 0 rfl (fun b=>g b=some r) (fun b=>[]) (fun b=>[(0,.int .i32 r1),(3,.int .i32 r1),(23,.bool b)]) (fun b=>[]) (fun cut=>cut (zyG (zaT rfl zbm (zyR 1 rfl (zyN (zyB rfl h (fun h=>zap (cL ((r1:Int)==320) h rfl (bI rfl) ah)) (fun h=>bX (zaT rfl zbm (zyR 1 rfl (zaB (cL ((r1:Int)==322) h rfl (bI rfl) ah))))))))))) (fun x2 h=>?_)
 rw[d] at h
 refine zyB rfl h (fun h=>?_) (fun h=>?_)
 ·refine zyG (zyR 1 rfl (zyN (zaA (cx (bP ?_)))))
  cases h
  exact cX 2 dH
 refine zyG (zaT rfl zbm (zyR 1 rfl (zyN (zyB rfl h (fun h=>?_) (fun h=>?_)))))
 ·refine zyG (zyR 1 rfl (zyN (zaA (cx (bP ?_)))))
  cases h
  exact cX 2 dH
 refine zyG (zaT rfl zbm (zyR 1 rfl (zyN (zyB rfl h (fun h=>?_) (fun h=>?_)))))
 ·refine zyG (zyR 1 rfl (zyN (zaA (cx (bP ?_)))))
  cases h
  exact cX 2 dH
 refine zyG (zaT rfl zbm (zyR 1 rfl (zyN (zyB rfl h (fun h=>?_) (fun h=>?_)))))
 ·refine zyG (zyR 1 rfl (zyN (zaA (cx (bP ?_)))))
  cases h
  exact cX 2 dH
 refine zyG (zaT rfl zbm (zyR 1 rfl (zyN (zyB rfl h (fun h=>?_) (fun h=>?_)))))
 ·refine zyG (zyR 1 rfl (zyN (zaA (cx (bP ?_)))))
  cases h
  exact cX 2 dH
 refine zyG (zaT rfl zbm (zyR 1 rfl (zyN (zyB rfl h (fun h=>?_) (fun h=>?_)))))
 ·refine zyG (zyR 1 rfl (zyN (zaA (cx (bP ?_)))))
  cases h
  exact cX 2 dH
 refine zyG (zaT rfl zbm (zyR 1 rfl (zyN (zyB rfl h (fun h=>?_) (fun h=>?_)))))
 ·refine zyG (zyR 1 rfl (zyN (zaA (cx (bP ?_)))))
  cases h
  exact cX 2 dH
 refine zap (cd (zaz (zyG (zyR 1 rfl (zbk h fun r2 a h=>zaI (v:=.string r2) (vs:=[.int .i32 r1]) rfl dc rfl rfl rfl AQ (Ba a) (zyR 1 rfl (zyN (zaA ?_))))))))
 cases h
 exact cX 2 dH
def zfN (g:(List bN)→Option (List bN)) (q1:bN) (r2:(List Int)) (e:(List bN)→Int→Option (List bN)) (a:List bN) (d:Int):Option (List bN) := aN (decide ((d:Int)<(r2.length:Int))) (aT (zca r2 d) fun (q2:Int)=>aT (wM q2 q1) fun (r3:bN)=>aV (a.length+1≤2147483648) <|aV (cr (d+1)) <|e (a++[r3]) (d+1)) (g a)
def zfc (h:List bN) (j:(List bN)→Option (List bN)) (g:(List bN)→Int→Option (List bN)) (a:List bN) (e:Int):Option (List bN) := aN (decide ((e:Int)<(h.length:Int))) (co (fun (i:(List bN)→Option (List bN))=>aT (zca h e) fun (q1:bN)=>aT (sQ q1) fun (r1:Bool)=>aN (!r1) (aV (a.length+1≤2147483648) <|i (a++[q1])) (aT (wJ q1.Rune) fun (r2:(List Int))=>zaC (fun _ _=>none) (zfN i q1 r2) zbx a 0)) (fun (d:List bN)=>aV (cr (e+1)) <|g d (e+1))) (j a)
def zfb (d:List bN) (h:Int) (t:Nat→(List bN)→(List bN)→(List bN)→Option (List bN)) (k:Int) (m:(List bN)→(List bN)→Int→Option (List bN)) (e:List bN) (a:List bN) (g:Int):Option (List bN) := aN (decide ((g:Int)<((dK d (h+1) ((h+1)+k)).length:Int))) (co (fun (n:(List bN)→(List bN)→Option (List bN))=>aT (zca (dK d (h+1) ((h+1)+k)) g) fun (l:bN)=>aT (wK l.Rune) fun (s:Bool)=>aN (s) (aV (e.length+1≤2147483648) <|n (e++[l]) a) (aV (a.length+1≤2147483648) <|n e (a++[l]))) (fun (j:List bN) (i:List bN)=>aV (cr (g+1)) <|m j i (g+1))) (t (0+(h+1:Int).toNat) (dK d (h+1) ((h+1)+k)) e a)
def zcM (j:List bN) (v:(List bN)→Option (List bN)) (m:(List bN)→Int→Option (List bN)) (a:List bN) (d:Int):Option (List bN) := aN (decide ((d:Int)<(j.length:Int))) (co (fun (n:(List bN)→Option (List bN))=>aT (zca a d) fun (t:bN)=>aT (sQ t) fun (s:Bool)=>aN (!s) (n a) (co (fun (u:Nat→(List bN)→(List bN)→(List bN)→Option (List bN))=>aV (cr (d+1)) <|aV (cr (d+1)) <|aV (cr (d+1)) <|aV (0≤(d+1:Int)∧(d+1:Int)≤(a.length:Int)∧((a.length:Int):Int)≤(a.length:Int)) <|aT (uS (dK a (d+1) (a.length:Int))) fun (k:Int)=>aV (cr ((d+1)+k)) <|aV (0≤(d+1:Int)∧(d+1:Int)≤((d+1)+k)∧((d+1)+k:Int)≤(a.length:Int)) <|zaC (fun _ _ _=>none) (zfb a d u k) zbx ([]:List bN) ([]:List bN) 0) (fun (l:Nat) (i:List bN) (g:List bN) (e:List bN)=>aV (g.length+e.length≤2147483648) <|n (tJ a l ((g++e).take i.length))))) (fun (h:List bN)=>aV (cr (d+1)) <|m h (d+1))) (v a)
def uT (e:List bN):Option (List bN) := co (fun (h:(List bN)→Option (List bN))=>zaC (fun _ _=>none) (zfc e h) zbx ([]:List bN) 0) (fun (a:List bN)=>co (fun (g:(List bN)→Option (List bN))=>zaC (fun _ _=>none) (zcM a g) zbx a 0) (fun (d:List bN)=>some d))
theorem D7 {d C:Value} {l:List bN} {a4:Nat} {J:List bN} (G:Vw d l 3 a4 C J) {r:(List bN)} (h:uT J=some r):Fn prog 36 [C] [eI d l] (fun v0:Value=>v0) (fun v0=>[eI d l,eI v0 r]):=by
 unfold uT at h
 refine _root_.Go.Proofs.YtifpjbgnikjglaaGreatDoor.Fn.intro func36 rfl ntmps36 (by simp) (fun w0 K=>zbq h fun j1 d7 h=>zaL (β:=(List bN)×Value) 2 rfl (fun b=>j1 b.1=some r) (fun b=>[]) (fun b=>[(3,b.2)]) (fun b=>[eI d l,eI b.2 b.1]) (fun cut=>?_) ?_)
 ·refine zyG (zyR 1 rfl (zyH (zyR 1 rfl (zyN (cut (zyG (zyR 1 rfl (zbT G rfl dc rfl aI (zyR 1 rfl (zyN (zat (nD (enc:=o9) (e:=81) (size:=3) (eF (β:=Nat×(List bN)×Int×Value) (fun b=>zaC (fun _ _=>none) (zfc J j1) b.1 b.2.1 b.2.2.1=some r) (fun b=>[]) (fun b=>[(3,b.2.2.2),(15,C),(16,zI (J.length:Int)),(17,zI b.2.2.1)]) (fun b=>[eI d l,eI b.2.2.2 b.2.1]) (fun b=>b.1) (zbx,([]:List bN),0,(.slice none 0 0)) h rfl (bI rfl) (cp 2) ?_)))))))))))))
  rintro⟨n1,s,x3,v4⟩ h
  cases n1 with
  |zero=>exact ew h
  |succ n1=>
   obtain⟨ey,U⟩:∃ag,ag=zaC (fun _ _=>none) (zfc J j1) n1:=⟨_,rfl⟩
   have h:zfc J j1 ey s x3=some r:=by rw[U];exact h
   unfold zfc at h
   refine zyG (zaT rfl zbd (zyN (zaJ (zyB rfl h (fun h=>?_) (fun h=>?_)))))
   ·refine zap (zaz (zbq h fun j2 d6 h=>zaL (β:=(List bN)×Value) 0 rfl (fun b=>j2 b.1=some r) (fun b=>[]) (fun b=>[(3,b.2),(15,C),(16,zI (J.length:Int)),(17,zI x3)]) (fun b=>[eI d l,eI b.2 b.1]) (fun cut=>?_) ?_))
    ·refine cut (zat (zyG (zbk h fun q1 a9 h=>fy G a9 aI gR rfl dc rfl rfl rfl (mj (i:=a4+(x3:Int).toNat) (j:=0) (k:=0) (q:=q1) (cs:=(fU q1)) l7 jH rfl dc rfl rfl (ce G a9) rfl rfl rfl (zbi zor rfl dc (fun b1=>eE (k:=2) (vs:=(fU q1)) (l':=(fU q1)) gR rfl rfl rfl rfl rfl (show _≤_ by simp) rfl rfl (zyN (zaJ (zyG (zbR (k:=2) (cs:=(fU q1)) l7 rfl dc rfl rfl rfl rfl (zbk h fun r1 d1 h=>zaI (v:=.bool r1) (vs:=[.agg (fU q1).toArray]) rfl dc rfl rfl rfl yd (yX (x1:=q1) d1) (jW rfl dc rfl km (zyN (zyB rfl h (fun h=>zyG (zyR 1 rfl (zbR (k:=2) (cs:=(fU q1)) l7 rfl dc rfl rfl rfl rfl (fx (cs:=(fU q1)) (te:=81) (ps:=[(0,.tmp 25)]) rfl dc rfl (fun _=>by kernel_rfl) (fun b2=>zbs h fun en h=>iT (k:=1) (k2:=3) (ys:=[q1]) aI tM jH tO rfl dc rfl rfl rfl rfl rfl rfl en (fun v6=>zyR 1 rfl (zyN (dy (bV (dz (mD (s++[q1],v6) h 2))))))))))) (fun h=>zap (zaz (zyG (zab zdk rfl dc rfl (show _=0 from rfl) (zas (k:=2) eZ rfl dc rfl rfl rfl (zbk h fun r2 d0 h=>zbN (vs:=[.int .i32 q1.Rune]) rfl dc rfl rfl rfl Dq (ID d0) ah (fun v7=>gZ (k:=3) rfl dc rfl rfl bp (zyR 1 rfl (zyN (zat (eF (β:=Nat×(List bN)×Int×Value) (fun b=>zaC (fun _ _=>none) (zfN j2 q1 r2) b.1 b.2.1 b.2.2.1=some r) (fun b=>[]) (fun b=>[(3,b.2.2.2),(5,zP b1),(15,C),(16,zI (J.length:Int)),(17,zI x3),(30,v7),(31,zI (r2.length:Int)),(32,zI b.2.2.1)]) (fun b=>[eI d l,eI b.2.2.2 b.2.1,cells b1 (fU q1) 81,eA v7 r2]) (fun b=>b.1) (zbx,s,0,v4) h rfl (bI rfl) (cp 4) ?_)))))))))))))))))))))))))
     rintro⟨n2,E,x6,c4⟩ h
     cases n2 with
     |zero=>exact ew h
     |succ n2=>
      obtain⟨ex,T⟩:∃ag,ag=zaC (fun _ _=>none) (zfN j2 q1 r2) n2:=⟨_,rfl⟩
      have h:zfN j2 q1 r2 ex E x6=some r:=by rw[T];exact h
      unfold zfN at h
      refine zyG (zaT rfl zbd (zyN (zaJ (zyB rfl h (fun h=>?_) (fun h=>?_)))))
      ·refine zap (zaz (zaJ (zat (zyG (zbk h fun q2 a7 h=>eJ (k:=3) a7 bp lj rfl dc rfl rfl rfl rfl (fw (i:=(x6:Int).toNat) (j:=0) (k:=3) (q:=q2) eZ jE rfl dc rfl rfl (ei a7) rfl dc rfl (zyR 1 rfl (zyN (bX (zyR 2 rfl (zbR (k:=2) (cs:=(fU q1)) l7 rfl dc rfl rfl rfl rfl (zbk h fun r3 dT h=>zaI (v:=.agg (fU r3).toArray) (vs:=[.int .i32 q2,.agg (fU q1).toArray]) rfl dc rfl rfl rfl HF (IF (x1:=q1) dT) (fx (cs:=(fU r3)) (te:=81) (ps:=[(0,.tmp 39)]) rfl dc rfl (fun _=>by kernel_rfl) (fun b3=>zbs h fun em h=>iT (k:=1) (k2:=4) (ys:=[r3]) aI tM jH tO rfl dc rfl rfl rfl rfl rfl rfl em (fun c3=>zyR 1 rfl (zaB (cd (zaz (bX (zbs h fun ek h=>zaT rfl (dA (r:=x6+1) (ai _ ek)) (zyR 1 rfl (zaB ?_))))))))))))))))))))))
       subst T
       exact aD (n2,E++[r3],x6+1,c3) h 4
      exact dy (bV (bV (dz (cd (mD (E,c4) h 2)))))
    rintro⟨a1,v5⟩ h
    rw[d6] at h
    refine bX (zbs h fun eg h=>zaT rfl (dA (r:=x3+1) (ai _ eg)) (zyR 1 rfl (zaB ?_)))
    subst U
    exact aD (n1,a1,x3+1,v5) h 2
   exact dy (bV (bV (dz (mD (s,v4) h 2))))
 rintro⟨g,v1⟩ h
 rw[d7] at h
 refine zbq h fun j3 d5 h=>zaL (β:=(List bN)) 0 rfl (fun b=>j3 b=some r) (fun b=>[]) (fun b=>[(3,v1)]) (fun b=>[eI d l,eI v1 b]) (fun cut=>?_) ?_
 ·refine cut (zyG (zyR 1 rfl (gZ (k:=1) rfl dc rfl rfl aI (zyR 1 rfl (zyN (zat (eF (β:=Nat×(List bN)×Int) (fun b=>zaC (fun _ _=>none) (zcM g j3) b.1 b.2.1 b.2.2=some r) (fun b=>[]) (fun b=>[(3,v1),(44,v1),(45,zI (g.length:Int)),(46,zI b.2.2)]) (fun b=>[eI d l,eI v1 b.2.1]) (fun b=>b.1) (zbx,g,0) h rfl (bI rfl) (cp 2) ?_)))))))
  rintro⟨n3,a,m⟩ h
  cases n3 with
  |zero=>exact ew h
  |succ n3=>
   obtain⟨et,O⟩:∃ag,ag=zaC (fun _ _=>none) (zcM g j3) n3:=⟨_,rfl⟩
   have h:zcM g j3 et a m=some r:=by rw[O];exact h
   unfold zcM at h
   refine zyG (zaT rfl zbd (zyN (zaJ (zyB rfl h (fun h=>?_) (fun h=>?_)))))
   ·refine zap (zaz (zbq h fun j4 d4 h=>zaL (β:=(List bN)) 0 rfl (fun b=>j4 b=some r) (fun b=>[]) (fun b=>[(3,v1),(44,v1),(45,zI (g.length:Int)),(46,zI m)]) (fun b=>[eI d l,eI v1 b]) (fun cut=>?_) ?_))
    ·refine cut (zat (zyG (zyR 1 rfl (zbk h fun V a6 h=>eJ (k:=1) a6 aI gR rfl dc rfl rfl rfl rfl (mj (i:=(m:Int).toNat) (j:=0) (k:=1) (q:=V) (cs:=(fU V)) l7 jH rfl dc rfl rfl (ei a6) rfl rfl rfl (zbi zor rfl dc (fun b4=>zyR 1 rfl (eE (k:=2) (vs:=(fU V)) (l':=(fU V)) gR rfl rfl rfl rfl rfl (show _≤_ by simp) rfl rfl (zyN (zaJ (zyG (zbR (k:=2) (cs:=(fU V)) l7 rfl dc rfl rfl rfl rfl (zbk h fun r4 ds h=>zaI (v:=.bool r4) (vs:=[.agg (fU V).toArray]) rfl dc rfl rfl rfl yd (yX (x1:=V) ds) (jW rfl dc rfl km (zyN (zyB rfl h (fun h=>dy (bV (dz (mD a h 2)))) (fun h=>zap (zaz (zbq h fun j5 d3 h=>zaL (β:=Nat×(List bN)×(List bN)×(List bN)×Value×Value×Value) 2 rfl (fun b=>j5 b.1 b.2.1 b.2.2.1 b.2.2.2.1=some r∧Vw v1 a 3 b.1 b.2.2.2.2.1 b.2.1) (fun b=>[]) (fun b=>[(3,v1),(10,b.2.2.2.2.1),(11,b.2.2.2.2.2.1),(12,b.2.2.2.2.2.2),(44,v1),(45,zI (g.length:Int)),(46,zI m)]) (fun b=>[eI d l,eI v1 a,eI b.2.2.2.2.2.1 b.2.2.1,eI b.2.2.2.2.2.2 b.2.2.2.1]) (fun cut=>?_) ?_)))))))))))))))))))
     ·refine zyG (zyR 2 rfl (zbs h fun ec h=>zaT rfl (dA (r:=m+1) (ai _ ec)) (zyR 1 rfl (zbs h fun eb h=>zaT rfl (dA (r:=m+1) (ai _ eb)) (zyR 2 rfl (zbs h fun ea h=>zaT rfl (dA (r:=m+1) (ai _ ea)) (kU (k:=1) rfl (fun dd=>zbs h fun d9 h=>?_))))))))
      obtain⟨c0,dg,dj⟩:=oI (lo:=some (zI (m+1))) (hi:=none) dd aI gR (.inr rfl) (.inl ⟨rfl,rfl⟩) d9
      refine iA rfl dc rfl rfl rfl dj (zbk h fun H dn h=>oJ (v:=zI H) (vs:=[c0]) rfl dc rfl rfl rfl Dn (D6 dg dn) [1] kr rfl (zbs h fun d8 h=>zaT rfl (dA (r:=(m+1)+H) (ai _ d8)) (kU (k:=1) rfl (fun db=>zbs h fun b8 h=>?_))))
      obtain⟨D,I,di⟩:=oI (lo:=some (zI (m+1))) (hi:=some (zI ((m+1)+H))) db aI gR (.inr rfl) (.inr rfl) b8
      refine iA rfl dc rfl rfl rfl di (zyR 1 rfl (zyH (zyR 2 rfl (zyN (cut (zyG (zyR 1 rfl (zbT I rfl dc rfl aI (zyR 1 rfl (zyN (zat (nD (enc:=o9) (e:=81) (size:=3) (nD (enc:=o9) (e:=81) (size:=3) (eF (β:=Nat×(List bN)×(List bN)×Int×Value×Value) (fun b=>zaC (fun _ _ _=>none) (zfb a m j5 H) b.1 b.2.1 b.2.2.1 b.2.2.2.1=some r) (fun b=>[]) (fun b=>[(3,v1),(10,D),(11,b.2.2.2.2.1),(12,b.2.2.2.2.2),(44,v1),(45,zI (g.length:Int)),(46,zI m),(66,D),(67,zI ((dK a (m+1) ((m+1)+H)).length:Int)),(68,zI b.2.2.2.1)]) (fun b=>[eI d l,eI v1 a,eI b.2.2.2.2.1 b.2.1,eI b.2.2.2.2.2 b.2.2.1]) (fun b=>b.1) (zbx,([]:List bN),([]:List bN),0,(.slice none 0 0),(.slice none 0 0)) h rfl (bI rfl) (bW [0,1,3,4] kr rfl) ?_))))))))))))))
      rintro⟨n4,t,n,w,aw,ao⟩ h
      cases n4 with
      |zero=>exact ew h
      |succ n4=>
       obtain⟨es,M⟩:∃ag,ag=zaC (fun _ _ _=>none) (zfb a m j5 H) n4:=⟨_,rfl⟩
       have h:zfb a m j5 H es t n w=some r:=by rw[M];exact h
       unfold zfb at h
       refine zyG (zaT rfl zbd (zyN (zaJ (zyB rfl h (fun h=>?_) (fun h=>?_)))))
       ·refine zap (zaz (zbq h fun j6 d2 h=>zaL (β:=(List bN)×(List bN)×Value×Value) 0 rfl (fun b=>j6 b.1 b.2.1=some r) (fun b=>[]) (fun b=>[(3,v1),(10,D),(11,b.2.2.1),(12,b.2.2.2),(44,v1),(45,zI (g.length:Int)),(46,zI m),(66,D),(67,zI ((dK a (m+1) ((m+1)+H)).length:Int)),(68,zI w)]) (fun b=>[eI d l,eI v1 a,eI b.2.2.1 b.1,eI b.2.2.2 b.2.1]) (fun cut=>cut (zat (zyG (zbk h fun u a5 h=>fy I a5 aI gR rfl dc rfl rfl rfl (mj (i:=0+(m+1:Int).toNat+(w:Int).toNat) (j:=0) (k:=1) (q:=u) (cs:=(fU u)) l7 jH rfl dc rfl rfl (ce I a5) rfl rfl rfl (zbi zor rfl dc (fun b5=>eE (k:=4) (vs:=(fU u)) (l':=(fU u)) gR rfl rfl rfl rfl rfl (show _≤_ by simp) rfl rfl (zyH (zab zdk rfl dc rfl (show _=0 from rfl) (zas (k:=4) eZ rfl dc rfl rfl rfl (zbk h fun r6 a8 h=>zaI (v:=.bool r6) (vs:=[.int .i32 u.Rune]) rfl dc rfl rfl rfl HE (IE a8) (zyN (zyB rfl h (fun h=>bX (zyR 1 rfl (zbR (k:=4) (cs:=(fU u)) l7 rfl dc rfl rfl rfl rfl (fx (cs:=(fU u)) (te:=81) (ps:=[(0,.tmp 76)]) rfl dc rfl (fun _=>by kernel_rfl) (fun b6=>zbs h fun b0 h=>iT (k:=2) (k2:=5) (ys:=[u]) aI tM jH tO rfl dc rfl rfl rfl rfl rfl rfl b0 (fun cc=>zyR 1 rfl (zaB (cd (mD (t++[u],n,cc,ao) h 4))))))))) (fun h=>bX (zyR 1 rfl (zbR (k:=4) (cs:=(fU u)) l7 rfl dc rfl rfl rfl rfl (fx (cs:=(fU u)) (te:=81) (ps:=[(0,.tmp 80)]) rfl dc rfl (fun _=>by kernel_rfl) (fun b7=>zbs h fun bs h=>iT (k:=3) (k2:=5) (ys:=[u]) aI tM jH tO rfl dc rfl rfl rfl rfl rfl rfl bs (fun b9=>zyR 1 rfl (zaB (cd (mD (t,n++[u],aw,b9) h 4)))))))))))))))))))))) ?_))
        rintro⟨a2,Y,cv,ch⟩ h
        rw[d2] at h
        refine bX (zbs h fun bk h=>zaT rfl (dA (r:=w+1) (ai _ bk)) (zyR 1 rfl (zaB ?_)))
        subst M
        exact aD (n4,a2,Y,w+1,cv,ch) h 4
       exact dy (bV (bV (dz (mD (0+(m+1:Int).toNat,dK a (m+1) ((m+1)+H),t,n,D,aw,ao) ⟨h,I⟩ 4))))
     rintro⟨eq,a0,a3,Z,e1,e0,eM⟩ ⟨h,df⟩
     rw[d3] at h
     exact bX (zyR 3 rfl (kU (k:=3) rfl (fun da=>zbs h fun bh h=>CW (k:=2) (k2:=3) aI tM jH tO da rfl dc rfl rfl rfl rfl bh (fun eL=>kU (k:=2) rfl (fun c5=>Nc (k:=1) (k2:=2) aI tM jH tO df c5 rfl dc rfl rfl rfl rfl (zaB (cd (mD (tJ a eq ((a3++Z).take a0.length)) h 2))))))))
    rintro W h
    rw[d4] at h
    refine bX (zbs h fun bb h=>zaT rfl (dA (r:=m+1) (ai _ bb)) (zyR 1 rfl (zaB ?_)))
    subst O
    exact aD (n3,W,m+1) h 2
   exact dy (bV (bV (dz (mD a h 2))))
 rintro ez h
 rw[d5] at h
 refine zyG (zyR 2 rfl (zyN (zaA ?_)))
 cases h
 exact eu (rs:=[.tmp 2]) v1 (.inl rfl) results36 (.cons (.tmp rfl) .nil) rfl (cp 2)
def zev (j:(List bN)→Option (List bN)) (r1:(List bN)) (g:(List bN)→Int→Option (List bN)) (a:List bN) (d:Int):Option (List bN) := aN (decide ((d:Int)<(r1.length:Int))) (co (fun (h:(List bN)→Int→Option (List bN))=>aT (zca r1 d) fun (q1:bN)=>aV (a.length+1≤2147483648) <|aT (zca r1 d) fun (q2:bN)=>aT (sQ q2) fun (r2:Bool)=>aN (r2) (aV (cr (d+1)) <|aV (0≤(d+1:Int)∧(d+1:Int)≤(r1.length:Int)∧((r1.length:Int):Int)≤(r1.length:Int)) <|aT (uS (dK r1 (d+1) (r1.length:Int))) fun (r3:Int)=>aV (cr (d+r3)) <|h (a++[q1]) (d+r3)) (h (a++[q1]) d)) (fun (e:List bN) (i:Int)=>aV (cr (i+1)) <|g e (i+1))) (j a)
def y0 (d:List bN):Option (List bN) := co (fun (e:(List bN)→Option (List bN))=>aT (uT d) fun (r1:(List bN))=>zaC (fun _ _=>none) (zev e r1) zbx ([]:List bN) 0) (fun (a:List bN)=>some a)
theorem Qo {a n:Value} {g:List bN} {E:Nat} {l1:List bN} (t:Vw a g 3 E n l1) {r:(List bN)} (h:y0 l1=some r):Fn prog 148 [n] [eI a g] (fun v0:Value=>v0) (fun v0=>[eI a g,eI v0 r]):=by
 unfold y0 at h
 refine _root_.Go.Proofs.YtifpjbgnikjglaaGreatDoor.Fn.intro func148 rfl ntmps148 (by simp) (fun w0 K=>zbq h fun D U h=>zaL (β:=(List bN)×Value) 3 rfl (fun b=>D b.1=some r) (fun b=>[]) (fun b=>[(3,b.2)]) (fun b=>[eI a g,eI b.2 b.1]) (fun cut=>?_) ?_)
 ·refine zyG (zyR 1 rfl (zyH (zyR 1 rfl (zbk h fun r1 O h=>zbN (vs:=[n]) rfl dc rfl rfl rfl Dm (D7 t O) (cp 1) (fun v2=>zyR 1 rfl (zyH (zyR 1 rfl (zyN (cut (zyG (zyR 1 rfl (zyN (zat (nD (enc:=o9) (e:=81) (size:=3) (eF (β:=Nat×(List bN)×Int×Value) (fun b=>zaC (fun _ _=>none) (zev D r1) b.1 b.2.1 b.2.2.1=some r) (fun b=>[]) (fun b=>[(0,v2),(3,b.2.2.2),(4,zI b.2.2.1)]) (fun b=>[eI a g,eI v2 r1,eI b.2.2.2 b.2.1]) (fun b=>b.1) (zbx,([]:List bN),0,(.slice none 0 0)) h rfl (bI rfl) (bW [1,2,3] kr rfl) ?_)))))))))))))))
  rintro⟨C,d,l,v5⟩ h
  cases C with
  |zero=>exact ew h
  |succ C=>
   obtain⟨aw,m⟩:∃ag,ag=zaC (fun _ _=>none) (zev D r1) C:=⟨_,rfl⟩
   have h:zev D r1 aw d l=some r:=by rw[m];exact h
   unfold zev at h
   refine zaJ (zyG (zyR 2 rfl (gZ (k:=1) rfl dc rfl rfl aI (zaT rfl zbd (zyN (zyB rfl h (fun h=>?_) (fun h=>?_)))))))
   ·refine zap (zaz (zbq h fun j2 T h=>zaL (β:=(List bN)×Int×Value) 0 rfl (fun b=>j2 b.1 b.2.1=some r) (fun b=>[]) (fun b=>[(0,v2),(3,b.2.2),(4,zI b.2.1)]) (fun b=>[eI a g,eI v2 r1,eI b.2.2 b.1]) (fun cut=>?_) ?_))
    ·refine cut (zat (zyG (zyR 3 rfl (zbk h fun q1 w h=>eJ (k:=1) w aI gR rfl dc rfl rfl rfl rfl (mj (i:=(l:Int).toNat) (j:=0) (k:=1) (q:=q1) (cs:=(fU q1)) l7 jH rfl dc rfl rfl (ei w) rfl rfl rfl (fx (cs:=(fU q1)) (te:=81) (ps:=[(0,.tmp 17)]) rfl dc rfl (fun _=>by kernel_rfl) (fun b1=>zbs h fun ao h=>iT (k:=2) (k2:=3) (ys:=[q1]) aI tM jH tO rfl dc rfl rfl rfl rfl rfl rfl ao (fun v7=>zyR 1 rfl (zyH (zyR 2 rfl (zbk h fun q2 u h=>eJ (k:=1) u aI gR rfl dc rfl rfl rfl rfl (mj (i:=(l:Int).toNat) (j:=0) (k:=1) (q:=q2) (cs:=(fU q2)) l7 jH rfl dc rfl rfl (ei u) rfl rfl rfl (zbk h fun r2 M h=>zaI (v:=.bool r2) (vs:=[.agg (fU q2).toArray]) rfl dc rfl rfl rfl yd (yX (x1:=q2) M) (zyN (zyB rfl h (fun h=>?_) (fun h=>?_))))))))))))))))
     ·refine bX (zyR 3 rfl (zbs h fun Z h=>zaT rfl (dA (r:=l+1) (ai _ Z)) (kU (k:=1) rfl (fun G=>zbs h fun Y h=>?_))))
      obtain⟨v8,H,I⟩:=oI (lo:=some (zI (l+1))) (hi:=none) G aI gR (.inr rfl) (.inl ⟨rfl,rfl⟩) Y
      exact iA rfl dc rfl rfl rfl I (zbk h fun r3 J h=>oJ (v:=zI r3) (vs:=[v8]) rfl dc rfl rfl rfl Dn (D6 H J) [1] kr rfl (zbs h fun W h=>zaT rfl (dA (r:=l+r3) (ai _ W)) (zyR 1 rfl (zaB (cd (mD (d++[q1],l+r3,v7) h 3))))))
     exact zap (cd (mD (d++[q1],l,v7) h 3))
    rintro⟨s,i4,v6⟩ h
    rw[T] at h
    refine bX (zyR 1 rfl (zbs h fun V h=>zaT rfl (dA (r:=i4+1) (ai _ V)) (zyR 1 rfl (zaB ?_))))
    subst m
    exact aD (C,s,i4+1,v6) h 3
   exact dy (bV (bV (dz (cL (d,v5) h rfl (bI rfl) (bW [0,2] kr rfl)))))
 rintro⟨a0,v1⟩ h
 rw[U] at h
 refine zyG (zyR 2 rfl (zyN (zaA ?_)))
 cases h
 exact eu (rs:=[.tmp 2]) v1 (.inl rfl) results148 (.cons (.tmp rfl) .nil) rfl (cp 2)
def zeI (j:(List bN)→Option (List bN)) (r2:(List bN)) (e:(List bN)→Int→Option (List bN)) (d:List bN) (a:Int):Option (List bN) := aN (decide ((a:Int)<(r2.length:Int))) (co (fun (g:(List bN)→Option (List bN))=>aT (zca d a) fun (q1:bN)=>aT (sQ q1) fun (r3:Bool)=>aN (r3) (aV (fB q1.Rune) <|aT (yZ (cA q1.Rune)) fun (h:ad)=>aT (zca d a) fun (q2:bN)=>g (d.set (a:Int).toNat (⟨q2.Rune,h,q2.At⟩:bN))) (g d)) (fun (i:List bN)=>aV (cr (a+1)) <|e i (a+1))) (j d)
def y2 (a:ad):Option (List bN) := co (fun (e:(List bN)→Option (List bN))=>aT (rQ a) fun (r1:(List bN))=>aT (y0 r1) fun (r2:(List bN))=>zaC (fun _ _=>none) (zeI e r2) zbx r2 0) (fun (d:List bN)=>some d)
theorem Qq {u:ad} {r:(List bN)} (h:y2 u=some r):Fn prog 113 [.string u] [] (fun v0:Value=>v0) (fun v0=>[eI v0 r]):=by
 unfold y2 at h
 refine _root_.Go.Proofs.YtifpjbgnikjglaaGreatDoor.Fn.intro func113 rfl ntmps113 (by simp) (fun w0 K=>zbq h fun t M h=>zaL (β:=(List bN)×Value) 2 rfl (fun b=>t b.1=some r) (fun b=>[]) (fun b=>[(3,b.2)]) (fun b=>[eI b.2 b.1]) (fun cut=>?_) ?_)
 ·refine zyG (zyR 1 rfl (zyH (zyR 1 rfl (zbk h fun r1 I h=>zbN (vs:=[.string u]) rfl dc rfl rfl rfl wj (wL I) ah (fun v2=>kU (k:=0) rfl (fun D=>zbk h fun r2 H h=>zbN (vs:=[v2]) rfl dc rfl rfl rfl OP (Qo D H) (cp 1) (fun e=>zyR 1 rfl (zyN (cut (zyG (zyR 1 rfl (gZ (k:=2) rfl dc rfl rfl aI (zyR 1 rfl (zyN (zat (eF (β:=Nat×(List bN)×Int) (fun b=>zaC (fun _ _=>none) (zeI t r2) b.1 b.2.1 b.2.2=some r) (fun b=>[]) (fun b=>[(3,e),(9,e),(10,zI (r2.length:Int)),(11,zI b.2.2)]) (fun b=>[eI e b.2.1]) (fun b=>b.1) (zbx,r2,0) h rfl (bI rfl) (bW [2] kr rfl) ?_))))))))))))))))
  rintro⟨n,s,a⟩ h
  cases n with
  |zero=>exact ew h
  |succ n=>
   obtain⟨T,d⟩:∃ag,ag=zaC (fun _ _=>none) (zeI t r2) n:=⟨_,rfl⟩
   have h:zeI t r2 T s a=some r:=by rw[d];exact h
   unfold zeI at h
   refine zyG (zaT rfl zbd (zyN (zaJ (zyB rfl h (fun h=>?_) (fun h=>?_)))))
   ·refine zap (zaz (zbq h fun V J h=>zaL (β:=(List bN)) 0 rfl (fun b=>V b=some r) (fun b=>[]) (fun b=>[(3,e),(9,e),(10,zI (r2.length:Int)),(11,zI a)]) (fun b=>[eI e b]) (fun cut=>cut (zat (zyG (zyR 1 rfl (zbk h fun q1 l h=>eJ (k:=0) l aI gR rfl dc rfl rfl rfl rfl (mj (i:=(a:Int).toNat) (j:=0) (k:=0) (q:=q1) (cs:=(fU q1)) l7 jH rfl dc rfl rfl (ei l) rfl rfl rfl (zbi zor rfl dc (fun b1=>zyR 1 rfl (eE (k:=1) (vs:=(fU q1)) (l':=(fU q1)) gR rfl rfl rfl rfl rfl (show _≤_ by simp) rfl rfl (zyH (zbR (k:=1) (cs:=(fU q1)) l7 rfl dc rfl rfl rfl rfl (zbk h fun r3 G h=>zaI (v:=.bool r3) (vs:=[.agg (fU q1).toArray]) rfl dc rfl rfl rfl yd (yX (x1:=q1) G) (zyN (zyB rfl h (fun h=>bX (zyR 2 rfl (zab zdk rfl dc rfl (show _=0 from rfl) (zas (k:=1) eZ rfl dc rfl rfl rfl (zbs h fun m h=>zaI (v:=.int .i32 (cA q1.Rune)) (vs:=[.int .i32 q1.Rune]) rfl dc rfl rfl rfl AR (nC fun w=>A2 q1.Rune w m.1 m.2) (zbk h fun C E h=>zaI (v:=.string C) (vs:=[.int .i32 (cA q1.Rune)]) rfl dc rfl rfl rfl OQ (Qn E) (zbk h fun q2 g h=>eJ (k:=0) g aI gR rfl dc rfl rfl rfl rfl (zab qT rfl dc rfl (show _=((a:Int).toNat)*3+1 from rfl) (qs (i:=(a:Int).toNat) (j:=1) (k:=0) (q:=q2) (q':=(⟨q2.Rune,C,q2.At⟩:bN)) gV jH rfl rfl rfl rfl (ei g) rfl dc rfl (fun _ _=>rfl) (zaB (cd (mD (s.set (a:Int).toNat (⟨q2.Rune,C,q2.At⟩:bN)) h 1)))))))))))) (fun h=>zap (cd (mD s h 1))))))))))))))))) (fun U h=>?_)))
    rw[J] at h
    refine bX (zbs h fun O h=>zaT rfl (dA (r:=a+1) (ai _ O)) (zyR 1 rfl (zaB ?_)))
    subst d
    exact aD (n,U,a+1) h 1
   exact dy (bV (bV (dz (mD (s,e) h 1))))
 rintro⟨W,v1⟩ h
 rw[M] at h
 refine zyG (zyR 2 rfl (zyN (zaA ?_)))
 cases h
 exact eu (rs:=[.tmp 2]) v1 (.inl rfl) results113 (.cons (.tmp rfl) .nil) rfl (cp 1)
def sR (a:ad):Option ad := aT (y2 a) fun (r1:(List bN))=>aT (uR r1) fun (r2:ad)=>some r2
theorem Bd {a:ad} {r:ad} (h:sR a=some r):dN prog 59 [.string a] (.string r):=by
 unfold sR at h
 refine dN.intro func59 rfl ntmps59 (by simp) (fun w0 K=>zyG (zyR 1 rfl (zyH (zyR 1 rfl (zbk h fun r1 g h=>zbN (vs:=[.string a]) rfl dc rfl rfl rfl OA (Qq g) ah (fun v1=>kU (k:=0) rfl (fun d=>zbk h fun r2 e h=>lg (v:=.string r2) (vs:=[v1]) (Rd.nil:Rd _ _ []) rfl dc rfl rfl rfl Dx (D5 d e) (.own (As:=[eI v1 r1]) (cp 1) (fun _ _ h=>oK jH (aF.1 h)) .nil) (zyR 1 rfl (zyN (zaA ?_))))))))))
 cases h
 exact cX 2 results59
abbrev gl:ad:=⟨#[195,159,115,115,32,195,166,97,101,32,195,184,111,32,195,176,100,32,195,190,116,104,32,196,145,100,32,196,167,104,32,196,177,105,32,196,179,105,106,32,196,184,113,32,197,128,108,32,197,130,108,32,197,137,110,32,197,139,110,103,32,197,147,111,101,32,197,167,116,32,197,191,115,32,207,130,207,131,32]⟩
def y3 (r1:Int):Option Bool := co (fun (a:Bool→Option Bool)=>aN (decide ((790:Int)≤r1)) (aN (decide ((r1:Int)≤793)) (a (decide ((r1:Int)≤793))) (aN (decide ((796:Int)≤r1)) (aN (decide ((r1:Int)≤800)) (a (decide ((r1:Int)≤800))) (aN (decide ((803:Int)≤r1)) (aN (decide ((r1:Int)≤819)) (a (decide ((r1:Int)≤819))) (aN (decide ((825:Int)≤r1)) (aN (decide ((r1:Int)≤828)) (a (decide ((r1:Int)≤828))) (aN (decide ((837:Int)≤r1)) (a (decide ((r1:Int)≤841))) (a false))) (aN (decide ((837:Int)≤r1)) (a (decide ((r1:Int)≤841))) (a false)))) (aN (decide ((825:Int)≤r1)) (aN (decide ((r1:Int)≤828)) (a (decide ((r1:Int)≤828))) (aN (decide ((837:Int)≤r1)) (a (decide ((r1:Int)≤841))) (a false))) (aN (decide ((837:Int)≤r1)) (a (decide ((r1:Int)≤841))) (a false))))) (aN (decide ((803:Int)≤r1)) (aN (decide ((r1:Int)≤819)) (a (decide ((r1:Int)≤819))) (aN (decide ((825:Int)≤r1)) (aN (decide ((r1:Int)≤828)) (a (decide ((r1:Int)≤828))) (aN (decide ((837:Int)≤r1)) (a (decide ((r1:Int)≤841))) (a false))) (aN (decide ((837:Int)≤r1)) (a (decide ((r1:Int)≤841))) (a false)))) (aN (decide ((825:Int)≤r1)) (aN (decide ((r1:Int)≤828)) (a (decide ((r1:Int)≤828))) (aN (decide ((837:Int)≤r1)) (a (decide ((r1:Int)≤841))) (a false))) (aN (decide ((837:Int)≤r1)) (a (decide ((r1:Int)≤841))) (a false)))))) (aN (decide ((796:Int)≤r1)) (aN (decide ((r1:Int)≤800)) (a (decide ((r1:Int)≤800))) (aN (decide ((803:Int)≤r1)) (aN (decide ((r1:Int)≤819)) (a (decide ((r1:Int)≤819))) (aN (decide ((825:Int)≤r1)) (aN (decide ((r1:Int)≤828)) (a (decide ((r1:Int)≤828))) (aN (decide ((837:Int)≤r1)) (a (decide ((r1:Int)≤841))) (a false))) (aN (decide ((837:Int)≤r1)) (a (decide ((r1:Int)≤841))) (a false)))) (aN (decide ((825:Int)≤r1)) (aN (decide ((r1:Int)≤828)) (a (decide ((r1:Int)≤828))) (aN (decide ((837:Int)≤r1)) (a (decide ((r1:Int)≤841))) (a false))) (aN (decide ((837:Int)≤r1)) (a (decide ((r1:Int)≤841))) (a false))))) (aN (decide ((803:Int)≤r1)) (aN (decide ((r1:Int)≤819)) (a (decide ((r1:Int)≤819))) (aN (decide ((825:Int)≤r1)) (aN (decide ((r1:Int)≤828)) (a (decide ((r1:Int)≤828))) (aN (decide ((837:Int)≤r1)) (a (decide ((r1:Int)≤841))) (a false))) (aN (decide ((837:Int)≤r1)) (a (decide ((r1:Int)≤841))) (a false)))) (aN (decide ((825:Int)≤r1)) (aN (decide ((r1:Int)≤828)) (a (decide ((r1:Int)≤828))) (aN (decide ((837:Int)≤r1)) (a (decide ((r1:Int)≤841))) (a false))) (aN (decide ((837:Int)≤r1)) (a (decide ((r1:Int)≤841))) (a false)))))) (fun (x1:Bool)=>aN (x1) (some true) (co (fun (d:Bool→Option Bool)=>aN (decide ((845:Int)≤r1)) (aN (decide ((r1:Int)≤846)) (d (decide ((r1:Int)≤846))) (aN (decide ((851:Int)≤r1)) (aN (decide ((r1:Int)≤854)) (d (decide ((r1:Int)≤854))) (aN (decide ((857:Int)≤r1)) (d (decide ((r1:Int)≤858))) (d false))) (aN (decide ((857:Int)≤r1)) (d (decide ((r1:Int)≤858))) (d false)))) (aN (decide ((851:Int)≤r1)) (aN (decide ((r1:Int)≤854)) (d (decide ((r1:Int)≤854))) (aN (decide ((857:Int)≤r1)) (d (decide ((r1:Int)≤858))) (d false))) (aN (decide ((857:Int)≤r1)) (d (decide ((r1:Int)≤858))) (d false)))) (fun (x2:Bool)=>aN (x2) (some true) (some false))))
theorem Qv {r1:Int} {r:Bool} (h:y3 r1=some r):dN prog 159 [.int .i32 r1] (.bool r):=by
 unfold y3 at h
 refine dN.intro func159 rfl ntmps159 (by simp) (fun w0 K=>zyG (zyR 1 rfl (zyN (zaJ (zat (zbq h fun g d h=>zaL (β:=Bool) 0 rfl (fun b=>g b=some r) (fun b=>[]) (fun b=>[(0,.int .i32 r1),(3,.bool b)]) (fun b=>[]) (fun cut=>?_) ?_))))))
 ·refine cut (zyG (zyR 1 rfl (zaT rfl zbF (zyR 1 rfl (zyS (s:=6) rfl h (fun h=>zyR 1 rfl (zaT rfl io (zyR 2 rfl (zyN (zyB rfl h (fun h=>zap (cL (decide ((r1:Int)≤793)) h rfl (bI rfl) ah)) (fun h=>zyG (zyR 1 rfl (zaT rfl zbF (zyR 1 rfl (zyS (s:=12) rfl h (fun h=>zyR 1 rfl (zaT rfl io (zyR 2 rfl (zyN (zyB rfl h (fun h=>zap (cL (decide ((r1:Int)≤800)) h rfl (bI rfl) ah)) (fun h=>zyG (zyR 1 rfl (zaT rfl zbF (zyR 1 rfl (zyS (s:=18) rfl h (fun h=>zyR 1 rfl (zaT rfl io (zyR 2 rfl (zyN (zyB rfl h (fun h=>zap (cL (decide ((r1:Int)≤819)) h rfl (bI rfl) ah)) (fun h=>zyG (zyR 1 rfl (zaT rfl zbF (zyR 1 rfl (zyS (s:=24) rfl h (fun h=>zyR 1 rfl (zaT rfl io (zyR 2 rfl (zyN (zyB rfl h (fun h=>zap (cL (decide ((r1:Int)≤828)) h rfl (bI rfl) ah)) (fun h=>bX (zyR 1 rfl (zaT rfl zbF (zyR 1 rfl (zyS (s:=30) rfl h (fun h=>zyR 1 rfl (zaT rfl io (zyR 2 rfl (zaB (cL (decide ((r1:Int)≤841)) h rfl (bI rfl) ah))))) (fun h=>zyR 4 rfl (zaB (cL false h rfl (bI rfl) ah))))))))))))) (fun h=>zyR 4 rfl (zyN (za8 rfl (bX (zyR 1 rfl (zaT rfl zbF (zyR 1 rfl (zyS (s:=30) rfl h (fun h=>zyR 1 rfl (zaT rfl io (zyR 2 rfl (zaB (cL (decide ((r1:Int)≤841)) h rfl (bI rfl) ah))))) (fun h=>zyR 4 rfl (zaB (cL false h rfl (bI rfl) ah))))))))))))))))))))) (fun h=>zyR 4 rfl (zyN (za8 rfl (zyG (zyR 1 rfl (zaT rfl zbF (zyR 1 rfl (zyS (s:=24) rfl h (fun h=>zyR 1 rfl (zaT rfl io (zyR 2 rfl (zyN (zyB rfl h (fun h=>zap (cL (decide ((r1:Int)≤828)) h rfl (bI rfl) ah)) (fun h=>bX (zyR 1 rfl (zaT rfl zbF (zyR 1 rfl (zyS (s:=30) rfl h (fun h=>zyR 1 rfl (zaT rfl io (zyR 2 rfl (zaB (cL (decide ((r1:Int)≤841)) h rfl (bI rfl) ah))))) (fun h=>zyR 4 rfl (zaB (cL false h rfl (bI rfl) ah))))))))))))) (fun h=>zyR 4 rfl (zyN (za8 rfl (bX (zyR 1 rfl (zaT rfl zbF (zyR 1 rfl (zyS (s:=30) rfl h (fun h=>zyR 1 rfl (zaT rfl io (zyR 2 rfl (zaB (cL (decide ((r1:Int)≤841)) h rfl (bI rfl) ah))))) (fun h=>zyR 4 rfl (zaB (cL false h rfl (bI rfl) ah))))))))))))))))))))))))))))) (fun h=>zyR 4 rfl (zyN (za8 rfl (zyG (zyR 1 rfl (zaT rfl zbF (zyR 1 rfl (zyS (s:=18) rfl h (fun h=>zyR 1 rfl (zaT rfl io (zyR 2 rfl (zyN (zyB rfl h (fun h=>zap (cL (decide ((r1:Int)≤819)) h rfl (bI rfl) ah)) (fun h=>zyG (zyR 1 rfl (zaT rfl zbF (zyR 1 rfl (zyS (s:=24) rfl h (fun h=>zyR 1 rfl (zaT rfl io (zyR 2 rfl (zyN (zyB rfl h (fun h=>zap (cL (decide ((r1:Int)≤828)) h rfl (bI rfl) ah)) (fun h=>bX (zyR 1 rfl (zaT rfl zbF (zyR 1 rfl (zyS (s:=30) rfl h (fun h=>zyR 1 rfl (zaT rfl io (zyR 2 rfl (zaB (cL (decide ((r1:Int)≤841)) h rfl (bI rfl) ah))))) (fun h=>zyR 4 rfl (zaB (cL false h rfl (bI rfl) ah))))))))))))) (fun h=>zyR 4 rfl (zyN (za8 rfl (bX (zyR 1 rfl (zaT rfl zbF (zyR 1 rfl (zyS (s:=30) rfl h (fun h=>zyR 1 rfl (zaT rfl io (zyR 2 rfl (zaB (cL (decide ((r1:Int)≤841)) h rfl (bI rfl) ah))))) (fun h=>zyR 4 rfl (zaB (cL false h rfl (bI rfl) ah))))))))))))))))))))) (fun h=>zyR 4 rfl (zyN (za8 rfl (zyG (zyR 1 rfl (zaT rfl zbF (zyR 1 rfl (zyS (s:=24) rfl h (fun h=>zyR 1 rfl (zaT rfl io (zyR 2 rfl (zyN (zyB rfl h (fun h=>zap (cL (decide ((r1:Int)≤828)) h rfl (bI rfl) ah)) (fun h=>bX (zyR 1 rfl (zaT rfl zbF (zyR 1 rfl (zyS (s:=30) rfl h (fun h=>zyR 1 rfl (zaT rfl io (zyR 2 rfl (zaB (cL (decide ((r1:Int)≤841)) h rfl (bI rfl) ah))))) (fun h=>zyR 4 rfl (zaB (cL false h rfl (bI rfl) ah))))))))))))) (fun h=>zyR 4 rfl (zyN (za8 rfl (bX (zyR 1 rfl (zaT rfl zbF (zyR 1 rfl (zyS (s:=30) rfl h (fun h=>zyR 1 rfl (zaT rfl io (zyR 2 rfl (zaB (cL (decide ((r1:Int)≤841)) h rfl (bI rfl) ah))))) (fun h=>zyR 4 rfl (zaB (cL false h rfl (bI rfl) ah))))))))))))))))))))))))))))))))))))) (fun h=>zyR 4 rfl (zyN (za8 rfl (zyG (zyR 1 rfl (zaT rfl zbF (zyR 1 rfl (zyS (s:=12) rfl h (fun h=>?_) (fun h=>?_))))))))))))))
  ·exact zyR 1 rfl (zaT rfl io (zyR 2 rfl (zyN (zyB rfl h (fun h=>zap (cL (decide ((r1:Int)≤800)) h rfl (bI rfl) ah)) (fun h=>zyG (zyR 1 rfl (zaT rfl zbF (zyR 1 rfl (zyS (s:=18) rfl h (fun h=>zyR 1 rfl (zaT rfl io (zyR 2 rfl (zyN (zyB rfl h (fun h=>zap (cL (decide ((r1:Int)≤819)) h rfl (bI rfl) ah)) (fun h=>zyG (zyR 1 rfl (zaT rfl zbF (zyR 1 rfl (zyS (s:=24) rfl h (fun h=>zyR 1 rfl (zaT rfl io (zyR 2 rfl (zyN (zyB rfl h (fun h=>zap (cL (decide ((r1:Int)≤828)) h rfl (bI rfl) ah)) (fun h=>bX (zyR 1 rfl (zaT rfl zbF (zyR 1 rfl (zyS (s:=30) rfl h (fun h=>zyR 1 rfl (zaT rfl io (zyR 2 rfl (zaB (cL (decide ((r1:Int)≤841)) h rfl (bI rfl) ah))))) (fun h=>zyR 4 rfl (zaB (cL false h rfl (bI rfl) ah))))))))))))) (fun h=>zyR 4 rfl (zyN (za8 rfl (bX (zyR 1 rfl (zaT rfl zbF (zyR 1 rfl (zyS (s:=30) rfl h (fun h=>zyR 1 rfl (zaT rfl io (zyR 2 rfl (zaB (cL (decide ((r1:Int)≤841)) h rfl (bI rfl) ah))))) (fun h=>zyR 4 rfl (zaB (cL false h rfl (bI rfl) ah))))))))))))))))))))) (fun h=>zyR 4 rfl (zyN (za8 rfl (zyG (zyR 1 rfl (zaT rfl zbF (zyR 1 rfl (zyS (s:=24) rfl h (fun h=>zyR 1 rfl (zaT rfl io (zyR 2 rfl (zyN (zyB rfl h (fun h=>zap (cL (decide ((r1:Int)≤828)) h rfl (bI rfl) ah)) (fun h=>bX (zyR 1 rfl (zaT rfl zbF (zyR 1 rfl (zyS (s:=30) rfl h (fun h=>zyR 1 rfl (zaT rfl io (zyR 2 rfl (zaB (cL (decide ((r1:Int)≤841)) h rfl (bI rfl) ah))))) (fun h=>zyR 4 rfl (zaB (cL false h rfl (bI rfl) ah))))))))))))) (fun h=>zyR 4 rfl (zyN (za8 rfl (bX (zyR 1 rfl (zaT rfl zbF (zyR 1 rfl (zyS (s:=30) rfl h (fun h=>zyR 1 rfl (zaT rfl io (zyR 2 rfl (zaB (cL (decide ((r1:Int)≤841)) h rfl (bI rfl) ah))))) (fun h=>zyR 4 rfl (zaB (cL false h rfl (bI rfl) ah))))))))))))))))))))))))))))
  exact zyR 4 rfl (zyN (za8 rfl (zyG (zyR 1 rfl (zaT rfl zbF (zyR 1 rfl (zyS (s:=18) rfl h (fun h=>zyR 1 rfl (zaT rfl io (zyR 2 rfl (zyN (zyB rfl h (fun h=>zap (cL (decide ((r1:Int)≤819)) h rfl (bI rfl) ah)) (fun h=>zyG (zyR 1 rfl (zaT rfl zbF (zyR 1 rfl (zyS (s:=24) rfl h (fun h=>zyR 1 rfl (zaT rfl io (zyR 2 rfl (zyN (zyB rfl h (fun h=>zap (cL (decide ((r1:Int)≤828)) h rfl (bI rfl) ah)) (fun h=>bX (zyR 1 rfl (zaT rfl zbF (zyR 1 rfl (zyS (s:=30) rfl h (fun h=>zyR 1 rfl (zaT rfl io (zyR 2 rfl (zaB (cL (decide ((r1:Int)≤841)) h rfl (bI rfl) ah))))) (fun h=>zyR 4 rfl (zaB (cL false h rfl (bI rfl) ah))))))))))))) (fun h=>zyR 4 rfl (zyN (za8 rfl (bX (zyR 1 rfl (zaT rfl zbF (zyR 1 rfl (zyS (s:=30) rfl h (fun h=>zyR 1 rfl (zaT rfl io (zyR 2 rfl (zaB (cL (decide ((r1:Int)≤841)) h rfl (bI rfl) ah))))) (fun h=>zyR 4 rfl (zaB (cL false h rfl (bI rfl) ah))))))))))))))))))))) (fun h=>zyR 4 rfl (zyN (za8 rfl (zyG (zyR 1 rfl (zaT rfl zbF (zyR 1 rfl (zyS (s:=24) rfl h (fun h=>zyR 1 rfl (zaT rfl io (zyR 2 rfl (zyN (zyB rfl h (fun h=>zap (cL (decide ((r1:Int)≤828)) h rfl (bI rfl) ah)) (fun h=>bX (zyR 1 rfl (zaT rfl zbF (zyR 1 rfl (zyS (s:=30) rfl h (fun h=>zyR 1 rfl (zaT rfl io (zyR 2 rfl (zaB (cL (decide ((r1:Int)≤841)) h rfl (bI rfl) ah))))) (fun h=>zyR 4 rfl (zaB (cL false h rfl (bI rfl) ah))))))))))))) (fun h=>zyR 4 rfl (zyN (za8 rfl (bX (zyR 1 rfl (zaT rfl zbF (zyR 1 rfl (zyS (s:=30) rfl h (fun h=>zyR 1 rfl (zaT rfl io (zyR 2 rfl (zaB (cL (decide ((r1:Int)≤841)) h rfl (bI rfl) ah))))) (fun h=>zyR 4 rfl (zaB (cL false h rfl (bI rfl) ah))))))))))))))))))))))))))
 rintro x1 h
 rw[d] at h
 refine zyB rfl h (fun h=>?_) (fun h=>?_)
 ·refine zyG (zyR 1 rfl (zyN (zaA (cx (bP ?_)))))
  cases h
  exact cX 2 results159
 refine zbq h fun e a h=>zaL (β:=Bool) 0 rfl (fun b=>e b=some r) (fun b=>[]) (fun b=>[(34,.bool b)]) (fun b=>[]) (fun cut=>cut (zyG (zyR 1 rfl (zaT rfl zbF (zyR 1 rfl (zyS (s:=37) rfl h (fun h=>zyR 1 rfl (zaT rfl io (zyR 2 rfl (zyN (zyB rfl h (fun h=>zap (cL (decide ((r1:Int)≤846)) h rfl (bI rfl) ah)) (fun h=>zyG (zyR 1 rfl (zaT rfl zbF (zyR 1 rfl (zyS (s:=43) rfl h (fun h=>zyR 1 rfl (zaT rfl io (zyR 2 rfl (zyN (zyB rfl h (fun h=>zap (cL (decide ((r1:Int)≤854)) h rfl (bI rfl) ah)) (fun h=>bX (zyR 1 rfl (zaT rfl zbF (zyR 1 rfl (zyS (s:=49) rfl h (fun h=>zyR 1 rfl (zaT rfl io (zyR 2 rfl (zaB (cL (decide ((r1:Int)≤858)) h rfl (bI rfl) ah))))) (fun h=>zyR 4 rfl (zaB (cL false h rfl (bI rfl) ah))))))))))))) (fun h=>zyR 4 rfl (zyN (za8 rfl (bX (zyR 1 rfl (zaT rfl zbF (zyR 1 rfl (zyS (s:=49) rfl h (fun h=>zyR 1 rfl (zaT rfl io (zyR 2 rfl (zaB (cL (decide ((r1:Int)≤858)) h rfl (bI rfl) ah))))) (fun h=>zyR 4 rfl (zaB (cL false h rfl (bI rfl) ah))))))))))))))))))))) (fun h=>zyR 4 rfl (zyN (za8 rfl (zyG (zyR 1 rfl (zaT rfl zbF (zyR 1 rfl (zyS (s:=43) rfl h (fun h=>zyR 1 rfl (zaT rfl io (zyR 2 rfl (zyN (zyB rfl h (fun h=>zap (cL (decide ((r1:Int)≤854)) h rfl (bI rfl) ah)) (fun h=>bX (zyR 1 rfl (zaT rfl zbF (zyR 1 rfl (zyS (s:=49) rfl h (fun h=>zyR 1 rfl (zaT rfl io (zyR 2 rfl (zaB (cL (decide ((r1:Int)≤858)) h rfl (bI rfl) ah))))) (fun h=>zyR 4 rfl (zaB (cL false h rfl (bI rfl) ah))))))))))))) (fun h=>zyR 4 rfl (zyN (za8 rfl (bX (zyR 1 rfl (zaT rfl zbF (zyR 1 rfl (zyS (s:=49) rfl h (fun h=>zyR 1 rfl (zaT rfl io (zyR 2 rfl (zaB (cL (decide ((r1:Int)≤858)) h rfl (bI rfl) ah))))) (fun h=>zyR 4 rfl (zaB (cL false h rfl (bI rfl) ah))))))))))))))))))))))))) (fun x2 h=>?_)
 rw[a] at h
 refine zyB rfl h (fun h=>?_) (fun h=>?_)
 ·refine zyG (zyR 1 rfl (zyN (zaA (cx (bP ?_)))))
  cases h
  exact cX 2 results159
 refine zap (cd (zaz (zyG (zyR 1 rfl (zyN (zaA ?_))))))
 cases h
 exact cX 2 results159
def sS (u1:c6):Option Bool := aN (decide ((0:Int)≤u1.base)) (aV (fB u1.base) <|some (((kind u1.base):Int)==1)) (some false)
theorem Bg {u1:c6} {_j _i:Hd} {r:Bool} (h:sS u1=some r):Fn prog 78 [.agg #[zI u1.at_,.int .u8 u1.broken,.int .i32 u1.base,_j.v,_i.v]] [eA _j.v u1.low,eA _i.v u1.high] (fun _b:Unit=>.bool r) (fun _b=>[eA _j.v u1.low,eA _i.v u1.high]):=by
 unfold sS at h
 refine _root_.Go.Proofs.YtifpjbgnikjglaaGreatDoor.Fn.intro func78 rfl ntmps78 (by simp) (fun w0 K=>zyG (zfq rfl dc rfl (fun b1=>zyR 1 rfl (zyH (zab zgo rfl dc rfl (show _=2 from rfl) (zas (k:=2) eZ rfl dc rfl rfl rfl (zaT rfl zbF (zyR 1 rfl (zyS (s:=6) rfl h (fun h=>?_) (fun h=>?_))))))))))
 ·refine zab zgo rfl dc rfl (show _=2 from rfl) (zas (k:=2) eZ rfl dc rfl rfl rfl (zbs h fun a h=>zaI (v:=zI (kind u1.base)) (vs:=[.int .i32 u1.base]) rfl dc rfl rfl rfl Dz (nC fun w=>yq u1.base w a.1 a.2) (zaT rfl zbm (zyR 2 rfl (zyN (zaA ?_))))))
  cases h
  exact eu (rs:=[.tmp 2]) () (.inl rfl) results78 (.cons (.tmp rfl) .nil) rfl (cp 2)
 refine zyR 6 rfl (zyN (zaA ?_))
 cases h
 exact eu (rs:=[.tmp 2]) () (.inl rfl) results78 (.cons (.tmp rfl) .nil) rfl (cp 2)
def wN (u1:c6) (r1:Int):Option c6 := aT (y3 r1) fun (r2:Bool)=>aN (r2) (aV (u1.low.length+1≤2147483648) <|some (⟨(⟨u1.at_,u1.broken,u1.base,u1.low++[r1],u1.high⟩:c6).at_,(⟨u1.at_,u1.broken,u1.base,u1.low++[r1],u1.high⟩:c6).broken,(⟨u1.at_,u1.broken,u1.base,u1.low++[r1],u1.high⟩:c6).base,u1.low++[r1],u1.high⟩:c6)) (aV (u1.high.length+1≤2147483648) <|some (⟨(⟨u1.at_,u1.broken,u1.base,u1.low,u1.high++[r1]⟩:c6).at_,(⟨u1.at_,u1.broken,u1.base,u1.low,u1.high++[r1]⟩:c6).broken,(⟨u1.at_,u1.broken,u1.base,u1.low,u1.high++[r1]⟩:c6).base,u1.low,u1.high++[r1]⟩:c6))
theorem IG {_r:Value} {l:List (c6×Hd×Hd)} {a:Nat} {u1:c6} {_j _i:Hd} (d:l[a]?=some (u1,(_j,_i))) {r1:Int} {r:c6} (h:wN u1 r1=some r):Fn prog 130 [.pointer (some ⟨eO _r,a*5,none⟩),.int .i32 r1] [np _r l,eA _j.v u1.low,eA _i.v u1.high] (fun b:Hd×Hd=>.tuple #[]) (fun b=>[np _r (l.set a (r,(b.1,b.2))),eA b.1.v r.low,eA b.2.v r.high]):=by
 unfold wN at h
 refine _root_.Go.Proofs.YtifpjbgnikjglaaGreatDoor.Fn.intro func130 rfl ntmps130 (by simp) (fun w0 K=>zyG (zyR 1 rfl (zbk h fun r2 m h=>zaI (v:=.bool r2) (vs:=[.int .i32 r1]) rfl dc rfl rfl rfl OS (Qv m) (zyN (zyB rfl h (fun h=>?_) (fun h=>?_))))))
 ·refine bX (zyR 2 rfl (zbc rfl dc rfl (zab AG rfl dc rfl (show _=a*5+3 from rfl) (fw (i:=a) (j:=3) (k:=0) (q:=(u1,(_j,_i))) wh pu rfl dc rfl rfl d rfl dc rfl (zyR 1 rfl (fx (cs:=[.int .i32 r1]) (te:=21) (ps:=[(0,.tmp 11)]) rfl dc rfl (fun _=>by kernel_rfl) (fun b1=>zbs h fun s h=>iT (k:=1) (k2:=3) (ys:=[r1]) bp tL jE tH rfl dc rfl rfl rfl rfl rfl rfl s (fun v1=>iB (k:=1) rfl (fun g u=>?_)))))))))
  subst u
  refine zbc rfl dc rfl (zab AG rfl dc rfl (show _=a*5+3 from rfl) (qs (i:=a) (j:=3) (k:=0) (q:=(u1,(_j,_i))) (q':=((⟨u1.at_,u1.broken,u1.base,u1.low++[r1],u1.high⟩:c6),(g,_i))) Hi pu rfl rfl rfl rfl d rfl dc rfl (fun _ _=>rfl) (zaB (GQ (k:=0) rfl (GW rfl (q1:=((⟨u1.at_,u1.broken,u1.base,u1.low++[r1],u1.high⟩:c6),(g,_i))) (q2:=((⟨(⟨u1.at_,u1.broken,u1.base,u1.low++[r1],u1.high⟩:c6).at_,(⟨u1.at_,u1.broken,u1.base,u1.low++[r1],u1.high⟩:c6).broken,(⟨u1.at_,u1.broken,u1.base,u1.low++[r1],u1.high⟩:c6).base,u1.low++[r1],u1.high⟩:c6),(g,_i))) pu rfl) ?_))))
  cases h
  exact eu (rs:=[]) (g,_i) (.inr rfl) results130 .nil rfl (cp 3)
 refine bX (zyR 2 rfl (zbc rfl dc rfl (zab AH rfl dc rfl (show _=a*5+4 from rfl) (fw (i:=a) (j:=4) (k:=0) (q:=(u1,(_j,_i))) wh pu rfl dc rfl rfl d rfl dc rfl (zyR 1 rfl (fx (cs:=[.int .i32 r1]) (te:=21) (ps:=[(0,.tmp 21)]) rfl dc rfl (fun _=>by kernel_rfl) (fun b2=>zbs h fun n h=>iT (k:=2) (k2:=3) (ys:=[r1]) bp tL jE tH rfl dc rfl rfl rfl rfl rfl rfl n (fun v2=>iB (k:=2) rfl (fun e t=>?_)))))))))
 subst t
 refine zbc rfl dc rfl (zab AH rfl dc rfl (show _=a*5+4 from rfl) (qs (i:=a) (j:=4) (k:=0) (q:=(u1,(_j,_i))) (q':=((⟨u1.at_,u1.broken,u1.base,u1.low,u1.high++[r1]⟩:c6),(_j,e))) Hi pu rfl rfl rfl rfl d rfl dc rfl (fun _ _=>rfl) (zaB (GQ (k:=0) rfl (GW rfl (q1:=((⟨u1.at_,u1.broken,u1.base,u1.low,u1.high++[r1]⟩:c6),(_j,e))) (q2:=((⟨(⟨u1.at_,u1.broken,u1.base,u1.low,u1.high++[r1]⟩:c6).at_,(⟨u1.at_,u1.broken,u1.base,u1.low,u1.high++[r1]⟩:c6).broken,(⟨u1.at_,u1.broken,u1.base,u1.low,u1.high++[r1]⟩:c6).base,u1.low,u1.high++[r1]⟩:c6),(_j,e))) pu rfl) ?_))))
 cases h
 exact eu (rs:=[]) (_j,e) (.inr rfl) results130 .nil rfl (cp 3)
def uU (d:(List (Int×zan))→Int→Option (List Int)) (a:List (Int×zan)) (r1:Int):Option (List Int) := aN (!((zbP r1 a).isSome)) (some ([r1]:List Int)) (aT (d a (((zbP r1 a).getD (⟨0,0⟩:zan)).e0)) fun (r2:(List Int))=>aV (r2.length+1≤2147483648) <|some (r2++[((zbP r1 a).getD (⟨0,0⟩:zan)).e1]))
def uV (a:List (Int×zan)) (r1:Int):Option (List Int):=zaC (fun _ _=>none) uU zbx a r1
theorem Qx (n:Nat):∀ {e:Nat} {a:List (Int×zan)} {r1:Int} {r:(List Int)} (_:zaC (fun _ _=>none) uU n a r1=some r),Fn prog 116 [.map (some e),.int .i32 r1] [cz (fun n:Int=>aB .i32 n) (fun p:zan=>bl #[.int .i32 p.e0,.int .i32 p.e1]) e a] (fun v0:Value=>v0) (fun v0=>[cz (fun n:Int=>aB .i32 n) (fun p:zan=>bl #[.int .i32 p.e0,.int .i32 p.e1]) e a,eA v0 r]):=by
 induction n with
 |zero=>intro e a r1 r h;exact ew h
 |succ n j=>
 intro e a r1 r h
 rw[Gy] at h
 revert j h
 generalize zaC (fun _ _=>none) uU n=rcall
 intro j h
 unfold uU at h
 refine _root_.Go.Proofs.YtifpjbgnikjglaaGreatDoor.Fn.intro func116 rfl ntmps116 (by simp) (fun w0 K=>zyG (zyR 1 rfl (zyH (zyR 2 rfl (zkJ (k:=0) (ek:=(fun n:Int=>aB .i32 n)) (ev':=(fun p:zan=>bl #[.int .i32 p.e0,.int .i32 p.e1])) (kk:=r1) (z0:=(⟨0,0⟩:zan)) (jF.int aZ) underlying116 kr rfl dc rfl rfl rfl (zyR 1 rfl (eY rfl dc rfl rfl (eY rfl dc rfl rfl (zbi Di rfl dc (fun b1=>eE (k:=1) (vs:=[.int .i32 (((zbP r1 a).getD (⟨0,0⟩:zan)).e0),.int .i32 (((zbP r1 a).getD (⟨0,0⟩:zan)).e1)]) (l':=[.int .i32 (((zbP r1 a).getD (⟨0,0⟩:zan)).e0),.int .i32 (((zbP r1 a).getD (⟨0,0⟩:zan)).e1)]) Hs rfl rfl rfl rfl rfl (show _≤_ by simp) rfl rfl (zyR 1 rfl (zyN (zaJ (zyG (zyR 1 rfl (jW rfl dc rfl km (zyN (zyB rfl h (fun h=>?_) (fun h=>?_)))))))))))))))))))
 ·refine zyG (zyR 1 rfl (fx (cs:=[.int .i32 r1]) (te:=21) (ps:=[(0,.tmp 15)]) rfl dc rfl (fun _=>by kernel_rfl) (fun b2=>zyR 1 rfl (nE ([r1]:List Int) (k:=2) rfl jE rfl (show 1≤maxLen by decide) (zyN (zaA (bP ?_)))))))
  cases h
  exact eu (rs:=[.tmp 4]) (.slice (some ⟨b2,0,none⟩) 1 1) (.inl rfl) results116 (.cons (.tmp rfl) .nil) rfl (bW [0,2] kr rfl)
 refine zap (zaz (zaJ (zbk h fun r2 G h=>zbs h fun H h=>vO 2 (let t:(Value×Nat)→List (Nat×Nat×Value):=fun b=>[(0,17,.map (some e)),(1,18,zP b1),(2,19,.int .i32 (((zbP r1 a).getD (⟨0,0⟩:zan)).e0)),(3,20,b.1),(4,21,.pointer (some ⟨b1,1,none⟩)),(5,22,.int .i32 (((zbP r1 a).getD (⟨0,0⟩:zan)).e1)),(6,23,.slice (some ⟨b.2,0,none⟩) 1 1)];let w:(Nat→Prop)→(Value×Nat)→List Asn:=fun D b=>[cz (fun n:Int=>aB .i32 n) (fun p:zan=>bl #[.int .i32 p.e0,.int .i32 p.e1]) e a,cells b1 [.int .i32 (((zbP r1 a).getD (⟨0,0⟩:zan)).e0),.int .i32 (((zbP r1 a).getD (⟨0,0⟩:zan)).e1)] 127,eD D cE [(3,eA b.1 r2)],eD D cE [(6,cells b.2 [.int .i32 (((zbP r1 a).getD (⟨0,0⟩:zan)).e1)] 21)]];?_))))
 have g:tT [3,6] w:=fun i h D b=>ca rfl (ca rfl (ca (rb rfl h) (ca (rb rfl h) rfl)))
 refine vN (β:=Value×Nat) 7 ((.slice none 0 0:Value),(0:Nat)) t w mixed kr kr dc (fun _=>rfl) (lB (ca o8 (ca o8 rfl))) (pS g (fun _=>rfl) (fun _=>rfl) 1 0 (fun _=>rfl) rfl (lQ g rfl (fun _=>rfl) (fun _=>rfl) (fun D ⟨v1,s⟩ n d c u i=>⟨_,(lB (ca (dL (fun l=>n (c 2 _ rfl (c 3 _ rfl l 2 dc) 1 dc)) fp) rfl)),o7 dc jV lj rfl dc (zbA (by rfl) rfl) rfl (show _=0 from rfl) (zaN 1 u i)⟩) (lQ g rfl (fun _=>rfl) (fun _=>rfl) (fun D ⟨v1,s⟩ n d c u i=>⟨_,(lB (ca (dL (fun l=>n (c 3 _ rfl l 2 dc)) fp) rfl)),zas (k:=1) eZ rfl dc (bt 1 u d) rfl rfl (zaN 2 u i)⟩) (lN ?_ (lQ g rfl (fun _=>rfl) (fun _=>rfl) (fun D ⟨v1,s⟩ n d c u i=>⟨_,(sM (ca (dL (fun l=>n (c 5 _ rfl (c 6 _ rfl l 5 dc) 4 dc)) fp) rfl)),o7 dc jV lj rfl dc (zbA (by rfl) rfl) rfl (show _=1 from rfl) (zaN 4 u i)⟩) (lQ g rfl (fun _=>rfl) (fun _=>rfl) (fun D ⟨v1,s⟩ n d c u i=>⟨_,(sM (ca (dL (fun l=>n (c 6 _ rfl l 5 dc)) fp) rfl)),zas (k:=1) eZ rfl dc (bt 4 u d) rfl rfl (zaN 5 u i)⟩) (lN ?_ oV))))))) ?_
 ·intro D b v hd I
  obtain⟨E,s⟩:=b
  exact kB (lB (ca (dL v fp) rfl)) (zbN (vs:=[.map (some e),.int .i32 (((zbP r1 a).getD (⟨0,0⟩:zan)).e0)]) rfl dc rfl (dv (jX (m:=0) rfl rfl (hd 0 dc)) (dv (jX (m:=2) rfl rfl (hd 2 dc)) eX)) rfl Dy (j G) (cp 1) (fun v1=>mn (L':=[cz (fun n:Int=>aB .i32 n) (fun p:zan=>bl #[.int .i32 p.e0,.int .i32 p.e1]) e a,cells b1 [.int .i32 (((zbP r1 a).getD (⟨0,0⟩:zan)).e0),.int .i32 (((zbP r1 a).getD (⟨0,0⟩:zan)).e1)] 127,cE,eD D cE [(6,cells s [.int .i32 (((zbP r1 a).getD (⟨0,0⟩:zan)).e1)] 21)],eA v1 r2]) (bW [4,1,2,3,5] kr rfl) (pG 2 rfl rfl (l6 (b:=(E,s)) (v1,s) 3 (by rfl) (by rfl) rfl (A4 (dV (fun l=>absurd l v) (A4 rfl))) (lB (ca (iC (jq rfl) rfl) (ca (iG (by rfl)) rfl)))))))
 ·intro D b v hd I
  obtain⟨v1,C⟩:=b
  exact kB (sM (ca (dL v fp) rfl)) (fx (cs:=[.int .i32 (((zbP r1 a).getD (⟨0,0⟩:zan)).e1)]) (te:=21) (ps:=[(0,.tmp 22)]) rfl dc (fJ (jX (m:=5) rfl rfl (hd 5 dc)) qG) (fun _=>by kernel_rfl) (fun s=>pG 3 rfl rfl (l6 (b:=(v1,C)) (v1,s) 6 (by rfl) (by rfl) rfl (DU (dV (fun l=>absurd l v) rfl)) (lB (ca (iG (by rfl)) (ca (iC (jq rfl) rfl) rfl))))))
 intro D b hall
 obtain⟨v1,s⟩:=b
 refine kB (lB (ca (iC (hall 3 dc) rfl) (ca (iC (hall 6 dc) rfl) rfl))) (iT (k:=2) (k2:=3) (ys:=[((zbP r1 a).getD (⟨0,0⟩:zan)).e1]) bp tL jE tH rfl dc rfl rfl rfl rfl rfl rfl H (fun v2=>zyR 1 rfl (zyN (zaA ?_))))
 cases h
 exact eu (rs:=[.tmp 4]) v2 (.inl rfl) results116 (.cons (.tmp rfl) .nil) rfl (bW [0,2] kr rfl)
theorem IH {a:Nat} {d:List (Int×zan)} {r1:Int} {r:(List Int)} (h:uV d r1=some r):Fn prog 116 [.map (some a),.int .i32 r1] [cz (fun n:Int=>aB .i32 n) (fun p:zan=>bl #[.int .i32 p.e0,.int .i32 p.e1]) a d] (fun v0:Value=>v0) (fun v0=>[cz (fun n:Int=>aB .i32 n) (fun p:zan=>bl #[.int .i32 p.e0,.int .i32 p.e1]) a d,eA v0 r]):=by
 unfold uV at h
 exact Qx zbx  h
def y4 (u1:c6):Option ad := aV ((ae u1.base).size+(jg u1.low).size≤9223372036854775807) <|aV (((ae u1.base)++(jg u1.low)).size+(jg u1.high).size≤9223372036854775807) <|some (((ae u1.base)++(jg u1.low))++(jg u1.high))
theorem Qy {u1:c6} {_j _i:Hd} {r:ad} (h:y4 u1=some r):Fn prog 134 [.agg #[zI u1.at_,.int .u8 u1.broken,.int .i32 u1.base,_j.v,_i.v]] [eA _j.v u1.low,eA _i.v u1.high] (fun _b:Unit=>.string r) (fun _b=>[eA _j.v u1.low,eA _i.v u1.high]):=by
 unfold y4 at h
 refine _root_.Go.Proofs.YtifpjbgnikjglaaGreatDoor.Fn.intro func134 rfl ntmps134 (by simp) (fun w0 K=>zyG (zfq rfl dc rfl (fun b1=>zyR 1 rfl (zyH (zab zgo rfl dc rfl (show _=2 from rfl) (zas (k:=2) eZ rfl dc rfl rfl rfl (zcH rfl dc rfl (mi aZ an) (zab AG rfl dc rfl (show _=3 from rfl) (zas (k:=2) wh rfl dc rfl rfl rfl (CV (k:=0) rfl dc rfl rfl bp aZ an (zbs h fun d h=>zaT rfl (lJ d) (zab AH rfl dc rfl (show _=4 from rfl) (zas (k:=2) wh rfl dc rfl rfl rfl (CV (k:=1) rfl dc rfl rfl bp aZ an (zbs h fun a h=>zaT rfl (lJ a) (zyR 1 rfl (zyN (zaA ?_))))))))))))))))))
 cases h
 exact eu (rs:=[.tmp 2]) () (.inl rfl) results134 (.cons (.tmp rfl) .nil) rfl (cp 2)
def zh1 (u1:c6) (k:Option ad) (j:Int→Bool→Nat→Option ad) (a:Int) (d:Bool) (h:Nat):Option ad := aN (decide (h<(eQ gl.data.toList).length)) (aT ((eQ gl.data.toList)[h]?) fun (p1:Pc)=>co (fun (e:Int→Option ad)=>aN (((p1.r:Int):Int)==32) (aN (decide ((0:Int)≤a)) (aV (0≤(a:Int)∧(a:Int)≤(p1.i:Int)∧((p1.i:Int):Int)≤(gl.size:Int)) <|some (cO gl a (p1.i:Int))) (aN (((p1.r:Int):Int)==32) (e a) (aN (d) (aN (((p1.r:Int):Int)==(cA u1.base)) (aV (cr ((p1.i:Int)+((ae (p1.r:Int)).size:Int))) <|e ((p1.i:Int)+((ae (p1.r:Int)).size:Int))) (e a)) (e a)))) (aN (((p1.r:Int):Int)==32) (e a) (aN (d) (aN (((p1.r:Int):Int)==(cA u1.base)) (aV (cr ((p1.i:Int)+((ae (p1.r:Int)).size:Int))) <|e ((p1.i:Int)+((ae (p1.r:Int)).size:Int))) (e a)) (e a)))) (fun (g:Int)=>j g (((p1.r:Int):Int)==32) (h+1))) (k)
def wO (u1:c6):Option ad := aT (sS u1) fun (r1:Bool)=>aN (!r1) (some (ae u1.base)) (co (fun (a:Option ad)=>aV (fB u1.base) <|zaC (fun _ _ _=>none) (zh1 u1 a) zbx (-1) true 0) (some (ae (cA u1.base))))
theorem QA {u1:c6} {_j _i:Hd} {r:ad} (h:wO u1=some r):Fn prog 124 [.agg #[zI u1.at_,.int .u8 u1.broken,.int .i32 u1.base,_j.v,_i.v]] [eA _j.v u1.low,eA _i.v u1.high] (fun _b:Unit=>.string r) (fun _b=>[eA _j.v u1.low,eA _i.v u1.high]):=by
 unfold wO at h
 refine _root_.Go.Proofs.YtifpjbgnikjglaaGreatDoor.Fn.intro func124 rfl ntmps124 (by simp) (fun w0 K=>zyG (zfq rfl dc rfl (fun b1=>zyR 1 rfl (zyN (zaJ (zyG (zbR (k:=2) (cs:=[zI u1.at_,.int .u8 u1.broken,.int .i32 u1.base,_j.v,_i.v]) qU rfl dc rfl rfl rfl rfl (zbk h fun r1 E h=>oJ (v:=.bool r1) (vs:=[.agg #[zI u1.at_,.int .u8 u1.broken,.int .i32 u1.base,_j.v,_i.v]]) rfl dc rfl rfl rfl AP (Bg (u1:=u1) (_j:=_j) (_i:=_i) E) [0,1] kr rfl (jW rfl dc rfl km (zyN (zyB rfl h (fun h=>?_) (fun h=>?_))))))))))))
 ·refine zyG (zab zgo rfl dc rfl (show _=2 from rfl) (zas (k:=2) eZ rfl dc rfl rfl rfl (zcH rfl dc rfl (mi aZ an) (zyR 1 rfl (zyN (zaA (bP ?_)))))))
  cases h
  exact eu (rs:=[.tmp 2]) () (.inl rfl) results124 (.cons (.tmp rfl) .nil) rfl (cp 2)
 refine zap (zaz (zbq h fun C H h=>zaL (β:=Unit) 3 rfl (fun b=>C=some r) (fun b=>[]) (fun b=>[(3,.int .i32 (cA u1.base))]) (fun b=>[eA _j.v u1.low,eA _i.v u1.high]) (fun cut=>?_) ?_))
 ·refine zyG (zab zgo rfl dc rfl (show _=2 from rfl) (zas (k:=2) eZ rfl dc rfl rfl rfl (zbs h fun t h=>zaI (v:=.int .i32 (cA u1.base)) (vs:=[.int .i32 u1.base]) rfl dc rfl rfl rfl AU (nC fun w=>yp u1.base w t.1 t.2) (zyR 1 rfl (zyH (zyR 1 rfl (zyH (zyR 1 rfl (zyN (cut (zyG (uL an rfl dc rfl (fun b2=>zyN (zat (eF (β:=Nat×Int×Bool×Nat) (fun b=>zaC (fun _ _ _=>none) (zh1 u1 C) b.1 b.2.1 b.2.2.1 b.2.2.2=some r) (fun b=>[]) (fun b=>[(3,.int .i32 (cA u1.base)),(4,zI b.2.1),(5,.bool b.2.2.1),(17,zP b2)]) (fun b=>[eA _j.v u1.low,eA _i.v u1.high,obj b2 (.stringIter gl (mE gl b.2.2.2))]) (fun b=>b.1) (zbx,(-1),true,0) (by exact h) rfl (bI rfl) (bW [0,1,3] kr rfl) ?_)))))))))))))))
  rintro⟨u,a,g,n⟩ h
  cases u with
  |zero=>exact ew h
  |succ u=>
   obtain⟨O,e⟩:∃ag,ag=zaC (fun _ _ _=>none) (zh1 u1 C) u:=⟨_,rfl⟩
   have h:zh1 u1 C O a g n=some r:=by rw[e];exact h
   unfold zh1 at h
   refine zyG (tI (b:=decide (n<(eQ gl.data.toList).length)) (fun d=>?_) (fun d=>?_))
   ·have h:=oF d h
    refine zbk h fun p1 D h=>uM (k:=2) (m:=n) (p:=p1) rfl dc rfl rfl D (eY rfl dc rfl rfl (zyN (zaJ (ir rfl (zap (zaz (zat (zbq h fun T G h=>zaL (β:=Int) 1 rfl (fun b=>T b=some r) (fun b=>[]) (fun b=>[(3,.int .i32 (cA u1.base)),(4,zI b),(7,.int .i32 (p1.r:Int)),(17,zP b2)]) (fun b=>[eA _j.v u1.low,eA _i.v u1.high,obj b2 (.stringIter gl (mE gl (n+1)))]) (fun cut=>?_) ?_))))))))
    ·refine zyG (eY rfl dc rfl rfl (eY rfl dc rfl rfl (zyR 2 rfl (zyN (cut (zat (zyG (zyR 1 rfl (zaT rfl zbm (zyR 1 rfl (zyS (s:=25) rfl h (fun h=>?_) (fun h=>?_))))))))))))
     ·refine zyR 1 rfl (zaT rfl zbF (zyR 2 rfl (zyN (zyB rfl h (fun h=>?_) (fun h=>?_)))))
      ·refine zyG (zyR 2 rfl (zbs h fun M h=>iA rfl dc rfl rfl rfl (kA (i:=a) (j:=(p1.i:Int)) an (.inr rfl) (.inr rfl) M) (zyR 1 rfl (zyN (zaA (cx (bP (cx (bP (cx (bP ?_)))))))))))
       cases h
       exact eu (rs:=[.tmp 2]) () (.inl rfl) results124 (.cons (.tmp rfl) .nil) rfl (cp 2)
      exact zyG (zyR 1 rfl (zaT rfl zbm (zyR 1 rfl (zyN (zyB rfl h (fun h=>zap (cd (mD a h 3))) (fun h=>zyG (zyR 2 rfl (zyS (s:=37) rfl h (fun h=>zyR 2 rfl (zaT rfl zbm (zyR 2 rfl (zyN (zyB rfl h (fun h=>bX (zyR 2 rfl (zcH rfl dc rfl (mi aZ an) (zcG rfl dc rfl an (zbs h fun J h=>zaT rfl (dA (r:=(p1.i:Int)+((ae (p1.r:Int)).size:Int)) (ai _ J)) (zyR 1 rfl (zaB (cd (mD ((p1.i:Int)+((ae (p1.r:Int)).size:Int)) h 3))))))))) (fun h=>zap (cd (mD a h 3)))))))) (fun h=>zyR 5 rfl (zyN (za8 rfl (zap (cd (mD a h 3))))))))))))))
     exact zyR 4 rfl (zyN (za8 rfl (zyG (zyR 1 rfl (zaT rfl zbm (zyR 1 rfl (zyN (zyB rfl h (fun h=>zap (cd (mD a h 3))) (fun h=>zyG (zyR 2 rfl (zyS (s:=37) rfl h (fun h=>zyR 2 rfl (zaT rfl zbm (zyR 2 rfl (zyN (zyB rfl h (fun h=>bX (zyR 2 rfl (zcH rfl dc rfl (mi aZ an) (zcG rfl dc rfl an (zbs h fun I h=>zaT rfl (dA (r:=(p1.i:Int)+((ae (p1.r:Int)).size:Int)) (ai _ I)) (zyR 1 rfl (zaB (cd (mD ((p1.i:Int)+((ae (p1.r:Int)).size:Int)) h 3))))))))) (fun h=>zap (cd (mD a h 3)))))))) (fun h=>zyR 5 rfl (zyN (za8 rfl (zap (cd (mD a h 3)))))))))))))))))
    rintro l h
    rw[G] at h
    refine bX (zyR 1 rfl (zaT rfl zbm (zyR 1 rfl (zaB (cd ?_)))))
    subst e
    exact aD (u,l,((p1.r:Int):Int)==32,n+1) h 3
   have h:=oG d h
   exact uN (k:=2) (m:=n) rfl dc rfl rfl (iS (of_decide_eq_false d)) (eY rfl dc rfl rfl (zyN (zaJ (za8 rfl (dy (bV (bV (dz (mD () h 2)))))))))
 rintro _ h
 rw[H] at h
 refine zyG (zyR 1 rfl (zcH rfl dc rfl (mi aZ an) (zyR 1 rfl (zyN (zaA ?_)))))
 cases h
 exact eu (rs:=[.tmp 2]) () (.inl rfl) results124 (.cons (.tmp rfl) .nil) rfl (cp 2)
abbrev kq:ad:=⟨#[204,128,65,195,128,69,195,136,73,195,140,79,195,146,85,195,153,97,195,160,101,195,168,105,195,172,111,195,178,117,195,185,208,149,208,128,208,152,208,141,208,181,209,144,208,184,209,157,204,129,65,195,129,69,195,137,73,195,141,79,195,147,85,195,154,89,195,157,97,195,161,101,195,169,105,195,173,111,195,179,117,195,186,121,195,189,67,196,134,76,196,185,78,197,131,82,197,148,83,197,154,90,197,185,99,196,135,108,196,186,110,197,132,114,197,149,115,197,155,122,197,186,206,145,206,134,206,149,206,136,206,151,206,137,206,153,206,138,206,159,206,140,206,165,206,142,206,169,206,143,206,177,206,172,206,181,206,173,206,183,206,174,206,185,206,175,206,191,207,140,207,133,207,141,207,137,207,142,208,147,208,131,208,154,208,140,208,179,209,147,208,186,209,156,207,138,206,144,207,139,206,176,204,130,65,195,130,69,195,138,73,195,142,79,195,148,85,195,155,97,195,162,101,195,170,105,195,174,111,195,180,117,195,187,67,196,136,71,196,156,72,196,164,74,196,180,83,197,156,87,197,180,89,197,182,99,196,137,103,196,157,104,196,165,106,196,181,115,197,157,119,197,181,121,197,183,204,131,65,195,131,78,195,145,79,195,149,97,195,163,110,195,177,111,195,181,73,196,168,85,197,168,105,196,169,117,197,169,204,132,65,196,128,69,196,146,73,196,170,79,197,140,85,197,170,97,196,129,101,196,147,105,196,171,111,197,141,117,197,171,204,134,65,196,130,69,196,148,71,196,158,73,196,172,79,197,142,85,197,172,97,196,131,101,196,149,103,196,159,105,196,173,111,197,143,117,197,173,208,152,208,153,208,163,208,142,208,184,208,185,209,131,209,158,204,135,67,196,138,69,196,150,71,196,160,73,196,176,90,197,187,99,196,139,101,196,151,103,196,161,122,197,188,204,136,65,195,132,69,195,139,73,195,143,79,195,150,85,195,156,97,195,164,101,195,171,105,195,175,111,195,182,117,195,188,121,195,191,89,197,184,208,149,208,129,208,134,208,135,208,181,209,145,209,150,209,151,206,153,206,170,206,165,206,171,206,185,207,138,207,133,207,139,204,138,65,195,133,85,197,174,97,195,165,117,197,175,204,139,79,197,144,85,197,176,111,197,145,117,197,177,204,140,67,196,140,68,196,142,69,196,154,76,196,189,78,197,135,82,197,152,83,197,160,84,197,164,90,197,189,99,196,141,100,196,143,101,196,155,108,196,190,110,197,136,114,197,153,115,197,161,116,197,165,122,197,190,204,167,67,195,135,71,196,162,75,196,182,76,196,187,78,197,133,82,197,150,83,197,158,84,197,162,99,195,167,103,196,163,107,196,183,108,196,188,110,197,134,114,197,151,115,197,159,116,197,163,204,168,65,196,132,69,196,152,73,196,174,85,197,178,97,196,133,101,196,153,105,196,175,117,197,179]⟩
def zh2 (e:Int→Int→Bool→Nat→Option (List (zan×Int))) (h:Int) (j:Int) (a:Bool) (g:Nat):Option (List (zan×Int)) := aN (decide (g<(eQ kq.data.toList).length)) (aT ((eQ kq.data.toList)[g]?) fun (d:Pc)=>co (fun (k:Int→Option (List (zan×Int)))=>aV (fB (d.r:Int)) <|aN (((kind (d.r:Int)):Int)==2) (e h (d.r:Int) true (g+1)) (aN (a) (k (d.r:Int)) (uB ((⟨h,j⟩:zan),(d.r:Int)) <|k h))) (fun (i:Int)=>e i j (!a) (g+1))) (some [])
def D8  : Option (List (zan×Int)) := zaC (fun _ _ _ _=>none) (zh2) zbx 0 0 true 0
theorem QB  {xs:(List (zan×Int))} (h:D8=some xs):sA prog 128 [] (fun q:zan×Int=>[.agg #[.int .i32 q.1.e0,.int .i32 q.1.e1],.int .i32 q.2]) xs []:=by
 unfold D8 at h
 refine sA.intro func128 rfl ntmps128 (by simp) (fun l w0 K I X aw hy=>?_)
 obtain⟨r0,G⟩:∃r,xs=[]++r:=⟨xs,rfl⟩
 have W:xs=r0:=G
 rw[W] at h
 refine zyG (zbi Di rfl dc (fun b1=>zyH (zyR 1 rfl (zyH (uL an rfl dc rfl (fun b2=>zyN (zat (eF (β:=Nat×Int×Int×Bool×Nat×(List (zan×Int))×(List (zan×Int))) (fun b=>zaC (fun _ _ _ _=>none) (zh2) b.1 b.2.1 b.2.2.1 b.2.2.2.1 b.2.2.2.2.1=some b.2.2.2.2.2.2∧xs=b.2.2.2.2.2.1++b.2.2.2.2.2.2) (fun b=>[]) (fun b=>[(0,.func (.yield l) #[] #[]),(2,zP b1),(3,.bool b.2.2.2.1),(6,zP b2)]) (fun b=>[I b.2.2.2.2.2.1,cells b1 [.int .i32 b.2.1,.int .i32 b.2.2.1] 127,obj b2 (.stringIter kq (mE kq b.2.2.2.2.1))]) (fun b=>b.1) (zbx,0,0,true,0,([]:List (zan×Int)),r0) ⟨h,G⟩ rfl (bI rfl) (cp 3) ?_))))))))
 rintro⟨E,n,j,d,C,a,u⟩ ⟨h,s⟩
 cases E with
 |zero=>exact ew h
 |succ E=>
  obtain⟨ao,g⟩:∃ag,ag=zaC (fun _ _ _ _=>none) (zh2) E:=⟨_,rfl⟩
  have h:zh2 ao n j d C=some u:=by rw[g];exact h
  unfold zh2 at h
  refine zyG (tI (b:=decide (C<(eQ kq.data.toList).length)) (fun t=>?_) (fun t=>?_))
  ·have h:=oF t h
   refine zbk h fun e Y h=>uM (k:=2) (m:=C) (p:=e) rfl dc rfl rfl Y (eY rfl dc rfl rfl (zyN (zaJ (ir rfl (zap (zaz (zat (zbq h fun j1 Z h=>zaL (β:=Int×(List (zan×Int))×(List (zan×Int))) 1 rfl (fun b=>j1 b.1=some b.2.2∧xs=b.2.1++b.2.2) (fun b=>[]) (fun b=>[(0,.func (.yield l) #[] #[]),(2,zP b1),(3,.bool d),(6,zP b2)]) (fun b=>[I b.2.1,cells b1 [.int .i32 b.1,.int .i32 j] 127,obj b2 (.stringIter kq (mE kq (C+1)))]) (fun cut=>?_) ?_))))))))
   ·refine zyG (eY rfl dc rfl rfl (zyR 1 rfl (zyN (cut (zat (zyG (zyR 1 rfl (zbs h fun H h=>zaI (v:=zI (kind (e.r:Int))) (vs:=[.int .i32 (e.r:Int)]) rfl dc rfl rfl rfl Dz (nC fun w=>yq (e.r:Int) w H.1 H.2) (zaT rfl zbm (zyR 1 rfl (zyN (zyB rfl h (fun h=>?_) (fun h=>?_)))))))))))))
    ·refine zyG (zyR 1 rfl (o7 dc jV lj rfl dc rfl rfl (show _=1 from rfl) (eP (k:=1) (l':=[.int .i32 n,.int .i32 (e.r:Int)]) lj rfl rfl rfl rfl rfl (fun _ _=>rfl) rfl (zyR 1 rfl (zyN (dy (Ac dc (bV (dz ?_)))))))))
     subst g
     exact aD (E,n,(e.r:Int),true,C+1,a,u) ⟨h,s⟩ 3
    refine zyG (zyR 2 rfl (zyN (zyB rfl h (fun h=>bX (zyR 1 rfl (o7 dc jV lj rfl dc rfl rfl (show _=0 from rfl) (eP (k:=1) (l':=[.int .i32 (e.r:Int),.int .i32 j]) lj rfl rfl rfl rfl rfl (fun _ _=>rfl) rfl (zaB (cd (mD ((e.r:Int),a,u) ⟨h,s⟩ 3))))))) (fun h=>zyG (zyR 1 rfl (zbR (k:=1) (cs:=[.int .i32 n,.int .i32 j]) yb rfl dc rfl rfl rfl rfl (zyR 1 rfl ?_)))))))
    obtain⟨i,V,h⟩:=vR h
    have D:xs=a++((⟨n,j⟩:zan),(e.r:Int))::i:=by rw[s,V]
    refine vA hy rfl dc rfl D rfl (k:=0) rfl ?_ ?_
    ·have T:xs=(a++[((⟨n,j⟩:zan),(e.r:Int))])++i:=by rw[D];simp
     exact jW rfl dc rfl km (zyR 1 rfl (zyN (za8 rfl (zap (cd (mD (n,a++[((⟨n,j⟩:zan),(e.r:Int))],i) ⟨h,T⟩ 3))))))
    exact jW rfl dc rfl km (zyR 1 rfl (zyN (ir rfl (zaA (cx (bP (cx (bP (cx (vB (ds:=[]) a ((⟨n,j⟩:zan),(e.r:Int)) i D (.inl rfl) ah results128 (cp 1)))))))))))
   rintro⟨O,J,M⟩ ⟨h,U⟩
   rw[Z] at h
   refine bX (zyR 1 rfl (jW rfl dc rfl km (zyR 1 rfl (zaB (cd ?_)))))
   subst g
   exact aD (E,O,j,!d,C+1,J,M) ⟨h,U⟩ 3
  have h:=oG t h
  refine uN (k:=2) (m:=C) rfl dc rfl rfl (iS (of_decide_eq_false t)) (eY rfl dc rfl rfl (zyN (zaJ (za8 rfl (dy (bV (bV (dz ?_))))))))
  cases h
  exact xJ (ds:=[]) (.inr rfl) ah results128 (aM I (s.trans (aH _))) (cp 1)
def zhh (x1:zan×Int) (e:(List (zan×Int))→(List (Int×zan))→Option ((List (zan×Int))×(List (Int×zan)))) (d:List (zan×Int)) (a:List (Int×zan)):Option ((List (zan×Int))×(List (Int×zan))) := e (iq x1.1 x1.2 d) (iq x1.2 x1.1 a)
def wP  : Option ((List (zan×Int))×(List (Int×zan))) := co (fun (j:(List (zan×Int))→(List (Int×zan))→Option ((List (zan×Int))×(List (Int×zan))))=>aT (D8) fun (h:(List (zan×Int)))=>co (fun (i:(List (zan×Int))→(List (Int×zan))→Option ((List (zan×Int))×(List (Int×zan))))=>zdZ i (zhh) h ([]:List (zan×Int)) ([]:List (Int×zan))) (fun (e:List (zan×Int)) (a:List (Int×zan))=>j e a)) (fun (g:List (zan×Int)) (d:List (Int×zan))=>some (g,d))
theorem D9  {r:((List (zan×Int))×(List (Int×zan)))} (h:wP=some r):Fn prog 74 [] [] (fun b:Nat×Nat=>.tuple #[.map (some b.1),.map (some b.2)]) (fun b=>[cz (fun p:zan=>bl #[.int .i32 p.e0,.int .i32 p.e1]) (fun n:Int=>aB .i32 n) b.1 r.1,cz (fun n:Int=>aB .i32 n) (fun p:zan=>bl #[.int .i32 p.e0,.int .i32 p.e1]) b.2 r.2]):=by
 unfold wP at h
 refine _root_.Go.Proofs.YtifpjbgnikjglaaGreatDoor.Fn.intro func74 rfl ntmps74 (by simp) (fun w0 K=>zjD (zbq h fun j1 a1 h=>zaL (β:=(List (zan×Int))×(List (Int×zan))×Nat×Nat×Nat×Nat×(List Nat)) 2 rfl (fun b=>j1 b.1 b.2.1=some r) (fun b=>po b.2.2.2.2.2.2) (fun b=>[(2,zP b.2.2.1),(3,zP b.2.2.2.2.1)]) (fun b=>[cells b.2.2.1 [.map (some b.2.2.2.1)] 115,cz (fun p:zan=>bl #[.int .i32 p.e0,.int .i32 p.e1]) (fun n:Int=>aB .i32 n) b.2.2.2.1 b.1,cells b.2.2.2.2.1 [.map (some b.2.2.2.2.2.1)] 116,cz (fun n:Int=>aB .i32 n) (fun p:zan=>bl #[.int .i32 p.e0,.int .i32 p.e1]) b.2.2.2.2.2.1 b.2.1,ziH ((b.2.2.2.2.2.2:List Nat).map gL)]) (fun cut=>?_) ?_))
 ·refine zyG (zyR 2 rfl (zyH (vV (fun p:zan=>bl #[.int .i32 p.e0,.int .i32 p.e1]) (fun n:Int=>aB .i32 n) rfl dc (fun G=>vV (fun n:Int=>aB .i32 n) (fun p:zan=>bl #[.int .i32 p.e0,.int .i32 p.e1]) rfl dc (fun E=>zbi Hl rfl dc (fun O=>zbi Hn rfl dc (fun M=>eP (k:=3) (l':=[.map (some G)]) Hk rfl rfl rfl rfl rfl (fun _ _=>rfl) rfl (eP (k:=4) (l':=[.map (some E)]) Hm rfl rfl rfl rfl rfl (fun _ _=>rfl) rfl (zyN (cut (zat (zbk h fun T a0 h=>zbq h fun I V h=>ux (α:=zan×Int) (β:=(List (zan×Int))×(List (Int×zan))) (γ:=Unit) (δ:=Nat) (ps:=[8,9]) Ro.nil rfl OJ (QB a0) (fun pre b=>∀post,T=pre++post→zdZ I (zhh) post b.1 b.2=some r) (fun pre b=>[cells O [.map (some G)] 115,cz (fun p:zan=>bl #[.int .i32 p.e0,.int .i32 p.e1]) (fun n:Int=>aB .i32 n) G b.1,cells M [.map (some E)] 116,cz (fun n:Int=>aB .i32 n) (fun p:zan=>bl #[.int .i32 p.e0,.int .i32 p.e1]) E b.2]) (fun c pre g=>False) (fun c pre g=>[]) (fun pre x b j=>[(0,.map none),(1,.map none),(2,zP O),(3,zP M),(4,zP j),(5,.int .i32 x.2)]) (fun pre x b j=>[cells O [.map (some G)] 115,cz (fun p:zan=>bl #[.int .i32 p.e0,.int .i32 p.e1]) (fun n:Int=>aB .i32 n) G b.1,cells M [.map (some E)] 116,cz (fun n:Int=>aB .i32 n) (fun p:zan=>bl #[.int .i32 p.e0,.int .i32 p.e1]) E b.2,cells j [.int .i32 x.1.e0,.int .i32 x.1.e1] 127]) (([]:List (zan×Int)),([]:List (Int×zan))) (fun post e=>by rw[bg] at e;subst e;exact h) (bW [3,1,4,2] kr rfl) trivial (fun _=>rfl) dc ?_ ?_ ?_ ?_))))))))))))
  ·rintro lp rc pre x1 post ⟨s,l⟩ w1 K1 C U aw t
   exact zyG (zbi Di rfl dc (fun b9=>eE (k:=4) (vs:=[.int .i32 x1.1.e0,.int .i32 x1.1.e1]) (l':=[.int .i32 x1.1.e0,.int .i32 x1.1.e1]) Hs rfl rfl rfl rfl rfl (show _≤_ by simp) rfl rfl (zyN (bX (zyR 1 rfl (zaB (fun a w ha hw=>⟨b9,(bI rfl) _ _ _ ha,hw.weaken (cp 5)⟩)))))))
  ·rintro lp rc pre x1 v ⟨s,l⟩ ao w1 K1 C U aw t
   have h:=t (x1::v) C
   obtain⟨a2,H⟩:∃ag,ag=zdZ I (zhh) v:=⟨_,rfl⟩
   have h:zhh x1 a2 s l=some r:=by have h2:=h;rw[oH,←H] at h2;exact h2
   unfold zhh at h
   exact zat (Aj (β:=Unit) 7 6 _ [(0,10,.map (some G)),(1,11,.agg #[.int .i32 x1.1.e0,.int .i32 x1.1.e1]),(2,12,.map (some E)),(3,13,.int .i32 x1.2),(4,14,.int .i32 x1.2),(5,15,.agg #[.int .i32 x1.1.e0,.int .i32 x1.1.e1])] (fun _b=>[]) (fun _b=>[cells O [.map (some G)] 115,cz (fun p:zan=>bl #[.int .i32 p.e0,.int .i32 p.e1]) (fun n:Int=>aB .i32 n) G (iq x1.1 x1.2 s),cells M [.map (some E)] 116,cz (fun n:Int=>aB .i32 n) (fun p:zan=>bl #[.int .i32 p.e0,.int .i32 p.e1]) E l,cells ao [.int .i32 x1.1.e0,.int .i32 x1.1.e1] 127]) mixed kr kr rfl dc dc (by rfl) kr kr (gQ (fun D n d c u i=>zas (k:=0) ya rfl dc (zbA (by rfl) rfl) rfl rfl (zaN 0 u i)) (gQ (fun D n d c u i=>zbR (k:=4) (cs:=[.int .i32 x1.1.e0,.int .i32 x1.1.e1]) yb rfl dc (zbA (by rfl) rfl) rfl rfl rfl (zaN 1 u i)) (gQ (fun D n d c u i=>zas (k:=2) AF rfl dc (zbA (by rfl) rfl) rfl rfl (zaN 2 u i)) (A9 2 3 rfl (gQ (fun D n d c u i=>zbR (k:=4) (cs:=[.int .i32 x1.1.e0,.int .i32 x1.1.e1]) yb rfl dc (zbA (by rfl) rfl) rfl rfl rfl (zaN 5 u i)) (tD iF)))))) (fun _b=>(gQ (fun D n d c u i=>zas (k:=0) ya rfl dc (zbA (by rfl) rfl) rfl rfl (zaN 0 u i)) (gQ (fun D n d c u i=>zbR (k:=4) (cs:=[.int .i32 x1.1.e0,.int .i32 x1.1.e1]) yb rfl dc (zbA (by rfl) rfl) rfl rfl rfl (zaN 1 u i)) (gQ (fun D n d c u i=>zas (k:=2) AF rfl dc (zbA (by rfl) rfl) rfl rfl (zaN 2 u i)) (A9 2 3 rfl (gQ (fun D n d c u i=>zbR (k:=4) (cs:=[.int .i32 x1.1.e0,.int .i32 x1.1.e1]) yb rfl dc (zbA (by rfl) rfl) rfl rfl rfl (zaN 5 u i)) (tD iF))))))) (fun D hn hd a4=>vW (k:=1) (ek:=(fun p:zan=>bl #[.int .i32 p.e0,.int .i32 p.e1])) (ev':=(fun n:Int=>aB .i32 n)) (kk:=x1.1) (vv:=x1.2) (C4 (f0:=fun p:zan=>p.e0) (f1:=fun p:zan=>p.e1) (fun a b h1 h2=>by cases a;cases b;simp_all) jV aZ lj) underlying115 rfl (jX (m:=0) kr rfl (hd 0 dc)) (jX (m:=1) kr rfl (hd 1 dc)) (jX (m:=4) kr rfl (hd 4 dc)) rfl (fun a w ha hw=>⟨(),ha,hw⟩)) (fun _b=>vW (k:=3) (ek:=(fun n:Int=>aB .i32 n)) (ev':=(fun p:zan=>bl #[.int .i32 p.e0,.int .i32 p.e1])) (kk:=x1.2) (vv:=x1.1) (jF.int aZ) underlying116 rfl rfl rfl rfl rfl (zaB (cd (lY (iq x1.1 x1.2 s,iq x1.2 x1.1 l) (fun Y e2=>by have e9:=l0 C e2;subst e9;subst H;exact h) (cp 4))))))
  ·rintro J ⟨s,l⟩ t
   have h:I s l=some r:=t [] (aH _).symm
   rw[V] at h
   show TX _ _ _ _ _ _ _ [ziH ((([]:List Nat):List Nat).map gL),cE,cE,cE,cE,cells O [.map (some G)] 115,cz (fun p:zan=>bl #[.int .i32 p.e0,.int .i32 p.e1]) (fun n:Int=>aB .i32 n) G s,cells M [.map (some E)] 116,cz (fun n:Int=>aB .i32 n) (fun p:zan=>bl #[.int .i32 p.e0,.int .i32 p.e1]) E l,gL J]
   exact tA (k:=9) (j:=0) rfl rfl dc (cd (cL (s,l,O,G,M,E,J::([]:List Nat)) h rfl (bI rfl) (bW [5,6,7,8,0] kr rfl)))
  exact fun J c pre x1 post g a3 hX=>(show False from hX).elim
 rintro⟨Z,W,b1,b2,b3,b4,ds1⟩ h
 rw[a1] at h
 refine zaJ (zcI 3 [(0,16,.map (some b2)),(1,17,.map (some b4)),(2,0,.map (some b2))] mixed kr kr dc (by rfl) kr kr (zac (fun D n d c u i=>zas (k:=0) ya rfl dc (zbA (by rfl) rfl) rfl rfl (zaN 0 u i)) (zac (fun D n d c u i=>zas (k:=2) AF rfl dc (zbA (by rfl) rfl) rfl rfl (zaN 1 u i)) (zyP 1 2 rfl bQ))) (zyR 1 rfl (zyN (zaA ?_))))
 cases h
 exact qq (rs:=[.tmp 0,.tmp 1]) ds1 (b2,b4) (.inl rfl) (qo (k:=4) rfl) results74 (.cons (.tmp rfl) (.cons (.tmp rfl) .nil)) rfl (bW [1,3] kr rfl)
def Ea (r1:Int):Option (List Int) := aT (wP) fun (r2:((List (zan×Int))×(List (Int×zan))))=>aT (uV r2.2 r1) fun (r3:(List Int))=>some r3
theorem QC {r1:Int} {r:(List Int)} (h:Ea r1=some r):Fn prog 64 [.int .i32 r1] [] (fun v0:Value=>v0) (fun v0=>[eA v0 r]):=by
 unfold Ea at h
 refine _root_.Go.Proofs.YtifpjbgnikjglaaGreatDoor.Fn.intro func64 rfl ntmps64 (by simp) (fun w0 K=>zyG (zyR 1 rfl (zyH (zbk h fun r2 d h=>zbN (vs:=[]) rfl dc rfl rfl rfl Dt (D9 d) ah ?_))))
 rintro⟨b1,b2⟩
 refine zyR 1 rfl (eY rfl dc rfl rfl (eY rfl dc rfl rfl (zyR 2 rfl (zyH (zyR 2 rfl (zbk h fun r3 a h=>zbN (vs:=[.map (some b2),.int .i32 r1]) rfl dc rfl rfl rfl Dy (IH a) (bW [1] kr rfl) (fun v1=>zyR 1 rfl (zyN (zaA ?_)))))))))
 cases h
 exact eu (rs:=[.tmp 2]) v1 (.inl rfl) results64 (.cons (.tmp rfl) .nil) rfl (bW [3] kr rfl)
def II:List (Int×Int×Int):=[(65,768,192),(69,768,200),(73,768,204),(79,768,210),(85,768,217),(97,768,224),(101,768,232),(105,768,236),(111,768,242),(117,768,249),(1045,768,1024),(1048,768,1037),(1077,768,1104),(1080,768,1117),(65,769,193),(69,769,201),(73,769,205),(79,769,211),(85,769,218),(89,769,221),(97,769,225),(101,769,233),(105,769,237),(111,769,243),(117,769,250),(121,769,253),(67,769,262),(76,769,313),(78,769,323),(82,769,340),(83,769,346),(90,769,377),(99,769,263),(108,769,314),(110,769,324),(114,769,341),(115,769,347),(122,769,378),(913,769,902),(917,769,904),(919,769,905),(921,769,906),(927,769,908),(933,769,910),(937,769,911),(945,769,940),(949,769,941),(951,769,942),(953,769,943),(959,769,972),(965,769,973),(969,769,974),(1043,769,1027),(1050,769,1036),(1075,769,1107),(1082,769,1116),(970,769,912),(971,769,944),(65,770,194),(69,770,202),(73,770,206),(79,770,212),(85,770,219),(97,770,226),(101,770,234),(105,770,238),(111,770,244),(117,770,251),(67,770,264),(71,770,284),(72,770,292),(74,770,308),(83,770,348),(87,770,372),(89,770,374),(99,770,265),(103,770,285),(104,770,293),(106,770,309),(115,770,349),(119,770,373),(121,770,375),(65,771,195),(78,771,209),(79,771,213),(97,771,227),(110,771,241),(111,771,245),(73,771,296),(85,771,360),(105,771,297),(117,771,361),(65,772,256),(69,772,274),(73,772,298),(79,772,332),(85,772,362),(97,772,257),(101,772,275),(105,772,299),(111,772,333),(117,772,363),(65,774,258),(69,774,276),(71,774,286),(73,774,300),(79,774,334),(85,774,364),(97,774,259),(101,774,277),(103,774,287),(105,774,301),(111,774,335),(117,774,365),(1048,774,1049),(1059,774,1038),(1080,774,1081),(1091,774,1118),(67,775,266),(69,775,278),(71,775,288),(73,775,304),(90,775,379),(99,775,267),(101,775,279),(103,775,289),(122,775,380),(65,776,196),(69,776,203),(73,776,207),(79,776,214),(85,776,220),(97,776,228),(101,776,235),(105,776,239),(111,776,246),(117,776,252),(121,776,255),(89,776,376),(1045,776,1025),(1030,776,1031),(1077,776,1105),(1110,776,1111),(921,776,938),(933,776,939),(953,776,970),(965,776,971),(65,778,197),(85,778,366),(97,778,229),(117,778,367),(79,779,336),(85,779,368),(111,779,337),(117,779,369),(67,780,268),(68,780,270),(69,780,282),(76,780,317),(78,780,327),(82,780,344),(83,780,352),(84,780,356),(90,780,381),(99,780,269),(100,780,271),(101,780,283),(108,780,318),(110,780,328),(114,780,345),(115,780,353),(116,780,357),(122,780,382),(67,807,199),(71,807,290),(75,807,310),(76,807,315),(78,807,325),(82,807,342),(83,807,350),(84,807,354),(99,807,231),(103,807,291),(107,807,311),(108,807,316),(110,807,326),(114,807,343),(115,807,351),(116,807,355),(65,808,260),(69,808,280),(73,808,302),(85,808,370),(97,808,261),(101,808,281),(105,808,303),(117,808,371)]
def iX:List (zan×Int):=II.map fun t=>(⟨t.1,t.2.1⟩,t.2.2)
def tabS:List (Int×zan):=II.map fun t=>(t.2.2,⟨t.1,t.2.1⟩)
theorem IJ:wP=some (iX,tabS):=by decide +kernel
theorem pV {T:Type} {bot:T} {step:T→T} {n:Nat}:zaC bot step (n+1)=step (zaC bot step n):=rfl
def nJ (l:List UInt8) (i:Nat):Int:=((l.getD i 0).toNat:Int)
theorem rR (l:List UInt8) (i:Nat):0≤nJ l i∧nJ l i≤255:=by
 have:=(l.getD i 0).toNat_lt;unfold nJ;omega
theorem IK {s:ad} {a i:Nat} (h:a+i<s.size):jQ s ((a:Int)+(i:Int))=some (nJ (s.data.toList.drop a) i):=by
 rw[CK (n:=a+i) (by omega) h]
 have e:(s.data.toList.drop a).getD i 0=s[a+i]:=by
  rw[cC,List.getElem?_drop,aJ (by simpa using h)]
  simp;rfl
 unfold nJ;rw[e]
def nq (l:List UInt8):Nat→Int
 |1=>nJ l 0
 |2=>(nJ l 0-192)*64+nJ l 1-128
 |3=>((nJ l 0-224)*64+nJ l 1-128)*64+nJ l 2-128
 |4=>(((nJ l 0-240)*64+nJ l 1-128)*64+nJ l 2-128)*64+nJ l 3-128
 |_=>0
theorem QD (l:List UInt8) (n:Nat) : -100000000≤nq l n∧nq l n≤100000000:=by
 have h0:=rR l 0;have h1:=rR l 1;have h2:=rR l 2;have h3:=rR l 3
 unfold nq;split<;>omega
def acc (s:ad) (a n:Nat):Prop:=vr (nq (s.data.toList.drop a) n)∧wd (nq (s.data.toList.drop a) n)=n∧ae (nq (s.data.toList.drop a) n)=cO s a ((a:Int)+n)
theorem wQ {s:ad} {a i n:Nat} {j:Int→Option (Int×Int)} {ag:Int→Int→Option (Int×Int)} {r:Int} (h:i<n) (d:a+i<s.size) (hsz:s.size≤9223372036854775000) (hr : -10000000≤r∧r≤10000000) (hi:i≤4) :
  ze1 s a n j ag r (i:Int)=ag (r*64+nJ (s.data.toList.drop a) i-128) ((i+1:Nat):Int):=by
 have hb:=rR (s.data.toList.drop a) i
 unfold ze1
 refine eR (gO (gO (aY (IK d) (gO (gO (gO (gO ?_)))))))
 rfl
theorem Bh {s:ad} {a n:Nat} {j:Int→Option (Int×Int)} {ag:Int→Int→Option (Int×Int)} {r:Int}:ze1 s a n j ag r (n:Int)=j r:=by
 unfold ze1;exact fC rfl
theorem QE (s:ad) (a n:Nat) (k:1≤n∧n≤4) (j:a+n≤s.size) (hsz:s.size≤9223372036854775000) (d:Option (Int×Int)) (r2:Int) (hr:r2=nq (s.data.toList.drop a) n) [Decidable (acc s a n)] :
  (aT (sO r2) fun (i:Bool)=>aN (!i) (aT (sP r2) fun (g:Int)=>aN ((g:Int)==(n:Int)) (aT (rO r2) fun (e:ad)=>
   aV (cr ((a:Int)+n))<|aV (0≤(a:Int)∧(a:Int)≤((a:Int)+n)∧((a:Int)+n)≤(s.size:Int))<|aN (decide (e=cO s a ((a:Int)+n))) (some (r2,(n:Int))) d) d) d) =
  if acc s a n then some (nq (s.data.toList.drop a) n,(n:Int)) else d:=by
 subst hr
 have hc:=QD (s.data.toList.drop a) n
 refine aY (D3 _) ?_
 by_cases h1:vr (nq (s.data.toList.drop a) n)
 ·refine bS (by simp[h1]) (aY (IA _) ?_)
  by_cases h2:wd (nq (s.data.toList.drop a) n)=n
  ·refine bS (by simp[h2]) (aY (Bb _ ⟨by omega,by omega⟩) (gO (gO ?_)))
   by_cases h3:ae (nq (s.data.toList.drop a) n)=cO s a ((a:Int)+n)
   ·rw[am (show acc s a n from ⟨h1,h2,h3⟩)];exact bS (ax h3) rfl
   ·rw[aj (fun h:acc s a n=>h3 h.2.2)];exact bM (al h3) rfl
  ·rw[aj (fun h:acc s a n=>h2 h.2.1)];exact bM (aC.2 h2) rfl
 ·rw[aj (fun h:acc s a n=>h1 h.1)];exact bM (by simp[h1]) rfl
open Classical in
theorem QF (s:ad) (a n:Nat) (m:1≤n∧n≤4) (l:a+n≤s.size) (hsz:s.size≤9223372036854775000) (k:Option (Int×Int)) (ag:Int→Option (Int×Int)) :
  zex s a k ag (n:Int)=if acc s a n then some (nq (s.data.toList.drop a) n,(n:Int)) else ag ((n+1:Nat):Int):=by
 obtain⟨F,t,_⟩:=wD 5 (by omega)
 have h0:=rR (s.data.toList.drop a) 0;have h1:=rR (s.data.toList.drop a) 1;have h2:=rR (s.data.toList.drop a) 2;have h3:=rR (s.data.toList.drop a) 3
 have hg:jQ s (a:Int)=some (nJ (s.data.toList.drop a) 0):=by have:=IK (s:=s) (a:=a) (i:=0) (by omega);simpa using this
 unfold zex
 refine eR (gO (eR (cB (cB (aY hg (gO ?_))))))
 have d:∀r2:Int,r2=nq (s.data.toList.drop a) n→∀z,z=ag ((n+1:Nat):Int)→(aT (sO r2) fun (j:Bool)=>aN (!j) (aT (sP r2) fun (h:Int)=>aN ((h:Int)==(n:Int)) (aT (rO r2) fun (g:ad)=>
   aV (cr ((a:Int)+n))<|aV (0≤(a:Int)∧(a:Int)≤((a:Int)+n)∧((a:Int)+n)≤(s.size:Int))<|aN (decide (g=cO s a ((a:Int)+n))) (some (r2,(n:Int))) z) z) z) =
   if acc s a n then some (nq (s.data.toList.drop a) n,(n:Int)) else ag ((n+1:Nat):Int):=fun r2 hr z hz=>by subst hz;exact QE s a n m l hsz _ r2 hr
 have hz:(aV (cr ((n:Int)+1))<|ag ((n:Int)+1))=ag ((n+1:Nat):Int):=gO rfl
 rw[hz,t]
 obtain rfl|rfl|rfl|rfl:n=1∨n=2∨n=3∨n=4:=by omega
 ·refine bM rfl (cB ?_)
  rw[pV,show ((1:Int))=((1:Nat):Int) from rfl,Bh]
  exact d _ rfl _ rfl
 ·have e:(256-(lK .i32 1 (8-((2:Nat):Int))))=192:=by decide
  rw[e]
  refine bS rfl (gO (gO (gO (gO (cB ?_)))))
  rw[pV,show ((1:Int))=((1:Nat):Int) from rfl,wQ (by omega) (by omega) hsz (by omega) (by omega),pV,Bh]
  exact d _ rfl _ rfl
 ·have e:(256-(lK .i32 1 (8-((3:Nat):Int))))=224:=by decide
  rw[e]
  refine bS rfl (gO (gO (gO (gO (cB ?_)))))
  rw[pV,show ((1:Int))=((1:Nat):Int) from rfl,wQ (by omega) (by omega) hsz (by omega) (by omega),pV,wQ (by omega) (by omega) hsz (by omega) (by omega),pV,Bh]
  exact d _ rfl _ rfl
 ·have e:(256-(lK .i32 1 (8-((4:Nat):Int))))=240:=by decide
  rw[e]
  refine bS rfl (gO (gO (gO (gO (cB ?_)))))
  rw[pV,show ((1:Int))=((1:Nat):Int) from rfl,wQ (by omega) (by omega) hsz (by omega) (by omega),pV,wQ (by omega) (by omega) hsz (by omega) (by omega),pV,wQ (by omega) (by omega) hsz (by have q:=rR (s.data.toList.drop a) (1+1);omega) (by omega),pV,Bh]
  exact d _ rfl _ rfl
theorem Eb (s:ad) (a n:Nat):(cO s a ((a:Int)+n)).data.toList=(s.data.toList.drop a).take n:=by
 unfold cO
 rw[extract_data]
 simp only[Int.toNat_natCast,show ((a:Int)+(n:Int)).toNat=a+n by omega]
 rw[show a+n-a=n by omega]
theorem QG {s:ad} {a n:Nat} (i:1≤n∧n≤4) (g:a+n≤s.size) (h:acc s a n):((decodeL (s.data.toList.drop a)).1:Int)=nq (s.data.toList.drop a) n∧(decodeL (s.data.toList.drop a)).2=n∧¬((decodeL (s.data.toList.drop a)).1=65533∧(decodeL (s.data.toList.drop a)).2=1):=by
 obtain⟨h1,h2,h3⟩:=h
 have d:=aM (fun b:ad=>b.data.toList) h3
 simp only[nF,Eb] at d
 have hv:=h1
 unfold vr at h1
 generalize hc:nq (s.data.toList.drop a) n=c at *
 obtain⟨m,rfl⟩:∃m:Nat,c=m:=⟨c.toNat,by omega⟩
 have h5:=AZ m (by omega) ((s.data.toList.drop a).drop n)
 rw[d,bZ] at h5
 have e:((s.data.toList.drop a).take n).length=n:=by simp;omega
 rw[e] at h5
 rw[h5]
 refine⟨rfl,rfl,fun⟨e1,e2⟩=>?_⟩
 simp only at e1 e2
 subst e1;subst e2
 unfold wd at h2;revert h2;decide
theorem rS {l:List UInt8} {i:Nat} {x:Int} (h:l[i]?=some (x.toNat.toUInt8)) (hx:0≤x∧x≤255):nJ l i=x:=by
 unfold nJ
 rw[cC,h]
 simp;omega
theorem IL {s:ad} {a:Nat} (ha:a<s.size) (hb:¬((decodeL (s.data.toList.drop a)).1=65533∧(decodeL (s.data.toList.drop a)).2=1)) :
  acc s a (decodeL (s.data.toList.drop a)).2∧1≤(decodeL (s.data.toList.drop a)).2∧(decodeL (s.data.toList.drop a)).2≤4∧a+(decodeL (s.data.toList.drop a)).2≤s.size:=by
 have n:s.data.toList.drop a≠[]:=by
  intro h;have:=aM gq h;simp at this;omega
 have j:=xR _ n
 generalize m:s.data.toList.drop a=l at *
 generalize hr:(decodeL l).1=r at *
 generalize v:(decodeL l).2=w at *
 have t:l.length=s.size-a:=by rw[←m];simp
 have hv:=j.valid
 have k:vr (r:Int):=by unfold vr;omega
 have h1:=j.width hb
 have h2:=j.bytes hb
 have h3:=P6 _ k
 have u:=j.le
 have g:nq l w=r:=by
  have d:∀ (i:Nat) (x:Int),(encodeRuneZ (r:Int))[i]?=some x→l[i]?=some (x.toNat.toUInt8):=by
   intro i x hx
   have hi:i<w:=by
    rw[←h1];unfold encodeRune;rw[az];exact (au.1 hx).1
   have:(encodeRune (r:Int))[i]?=some (x.toNat.toUInt8):=by unfold encodeRune;rw[bU,hx];rfl
   rw[h2,List.getElem?_take,am hi] at this
   exact this
  unfold wd at h3
  rw[am k] at h3
  split at h3
  ·rw[encodeRuneZ_one (by omega) (by omega)] at d
   have e:w=1:=by omega
   rw[e]
   exact rS (d 0 _ rfl) (by omega)
  ·split at h3
   ·rw[encodeRuneZ_two (by omega) (by omega)] at d
    have e:w=2:=by omega
    rw[e]
    simp only[nq]
    rw[rS (d 0 _ rfl) (by omega),rS (d 1 _ rfl) (by omega)];omega
   ·split at h3
    ·rw[encodeRuneZ_three (by omega)] at d
     have e:w=3:=by omega
     rw[e]
     simp only[nq]
     rw[rS (d 0 _ rfl) (by omega),rS (d 1 _ rfl) (by omega),rS (d 2 _ rfl) (by omega)];omega
    ·rw[encodeRuneZ_four (by omega) (by omega)] at d
     have e:w=4:=by omega
     rw[e]
     simp only[nq]
     rw[rS (d 0 _ rfl) (by omega),rS (d 1 _ rfl) (by omega),rS (d 2 _ rfl) (by omega),rS (d 3 _ rfl) (by omega)];omega
 have C:=xO (r:Int)
 refine⟨⟨by rw[m,g];exact k,by rw[m,g];omega,?_⟩,j.pos,by omega,by omega⟩
 rw[m,g]
 apply _root_.ByteArray.ext
 apply fA.1
 rw[nF,Eb,m,h2]
def gI (p:Pc):cY:=⟨p.i,p.w,p.r,p.broken⟩
def wR (l:List UInt8):Int×Int:=if (decodeL l).1=65533∧(decodeL l).2=1 then (0,0) else ((decodeL l).1,(decodeL l).2)
theorem QH (s:ad) (a:Nat) (ha:a<s.size) (hsz:s.size≤9223372036854775000):yz s a=some (wR (s.data.toList.drop a)):=by
 classical
 unfold yz
 refine cB ?_
 obtain⟨F,v,_⟩:=wD 6 (by omega)
 rw[v]
 have key:∀k m:Nat,m+k=5→1≤m→(∀n,1≤n→n<m→a+n≤s.size→¬acc s a n)→∀G,zaC (fun _=>none) (zex s a (some (0,0))) (G+k+1) (m:Int)=some (wR (s.data.toList.drop a)):=by
  intro k
  induction k with
  |zero=>
   intro m hm h1 d G
   have j:m=5:=by omega
   rw[j,pV]
   unfold zex
   refine bM rfl ?_
   unfold wR
   rw[am]
   by_cases hb:(decodeL (s.data.toList.drop a)).1=65533∧(decodeL (s.data.toList.drop a)).2=1
   ·exact hb
   ·obtain⟨h2,h3,w,h5⟩:=IL ha hb
    exact absurd h2 (d _ h3 (by omega) h5)
  |succ k t=>
   intro m hm h1 d G
   rw[pV]
   by_cases l:a+m≤s.size
   ·rw[QF s a m ⟨h1,by omega⟩ l hsz]
    by_cases e:acc s a m
    ·rw[am e]
     obtain⟨e1,e2,C⟩:=QG ⟨h1,by omega⟩ l e
     unfold wR;rw[aj C,e1,e2]
    ·rw[aj e]
     exact t (m+1) (by omega) (by omega) (fun n i u g=>by
      by_cases h:n=m
      ·subst h;exact e
      ·exact d n i (by omega) g) G
   ·unfold zex
    refine eR (gO (fC ?_))
    unfold wR
    rw[am]
    by_cases hb:(decodeL (s.data.toList.drop a)).1=65533∧(decodeL (s.data.toList.drop a)).2=1
    ·exact hb
    ·obtain⟨h2,h3,w,h5⟩:=IL ha hb
     exact absurd h2 (d _ h3 (by omega) h5)
 exact key 4 1 rfl (by omega) (fun n h1 h2=>by omega) (F+1)
theorem QI (s:ad) (a:Nat) (ha:a<s.size) (hsz:s.size≤9223372036854775000):yA s a=some (gI ⟨a,(decodeL (s.data.toList.drop a)).2,(decodeL (s.data.toList.drop a)).1⟩):=by
 unfold yA
 refine aY (QH s a ha hsz) ?_
 unfold wR gI Pc.broken
 have hp:=sD (s.data.toList.drop a)
 by_cases hb:(decodeL (s.data.toList.drop a)).1=65533∧(decodeL (s.data.toList.drop a)).2=1
 ·rw[am hb]
  refine bM rfl ?_
  rw[hb.1,hb.2];rfl
 ·rw[aj hb]
  refine bS (ax (by simp only;omega)) ?_
  have:((decodeL (s.data.toList.drop a)).1==65533&&(decodeL (s.data.toList.drop a)).2==1)=false:=by
   rw[Bool.and_eq_false_iff]
   by_cases h:(decodeL (s.data.toList.drop a)).1=65533
   ·right;exact aC.2 (fun h2=>hb ⟨h,h2⟩)
   ·left;exact aC.2 h
  simp only[this]
theorem QJ (s:ad) (hsz:s.size≤2147483648):yB s=some ((eQ s.data.toList).map gI):=by
 unfold yB
 refine cB ?_
 have key:∀n a:Nat,a≤s.size→s.size-a<n→∀l:List cY,l.length≤a→zaC (fun _ _=>none) (zeJ s some) n l (a:Int)=some (l++(nn a (s.data.toList.drop a)).map gI):=by
  intro n
  induction n with
  |zero=>intro a _ h;omega
  |succ n i=>
   intro a ha j l k
   rw[pV]
   generalize hg:zaC (fun _ _=>none) (zeJ s some) n=ag
   unfold zeJ
   by_cases h:a<s.size
   ·have e:s.data.toList.drop a≠[]:=by
     intro h;have:=aM gq h;simp at this;omega
    have d:=xR _ e
    have h1:=d.pos;have h2:=d.le
    have g:(s.data.toList.drop a).length=s.size-a:=by simp
    refine eR (aY (QI s a h (by omega)) (gO (zdG ⟨by simp only[gI];omega,by simp only[gI];omega⟩ ?_)))
    have:=i (a+(decodeL (s.data.toList.drop a)).2) (by omega) (by omega) (l++[gI ⟨a,(decodeL (s.data.toList.drop a)).2,(decodeL (s.data.toList.drop a)).1⟩]) (by simp;omega)
    rw[sF _ _ e,ff]
    rw[show ((a:Int)+(gI ⟨a,(decodeL (s.data.toList.drop a)).2,(decodeL (s.data.toList.drop a)).1⟩).Width)=((a+(decodeL (s.data.toList.drop a)).2:Nat):Int) by simp[gI]]
    rw[←hg,this];simp
   ·refine fC ?_
    have:s.data.toList.drop a=[]:=List.drop_eq_nil_of_le (by simp;omega)
    rw[this,sE];simp
 exact key zbx 0 (by omega) (by unfold zbx;omega) [] (by simp)
def fc (r:Int):Bool:=decide (768≤r∧r≤879)
theorem mV (r:Int) (h:cZ r=true):0≤r∧r<1120∧¬(768≤r∧r≤879):=by
 unfold cZ at h
 rw[Bool.or_eq_true,uK,wu] at h
 unfold pQ qZ at h
 refine⟨?_,?_,?_⟩<;>omega
theorem zmo (r:Int):((kind r:Int)==1)=cZ r:=by
 cases h:cZ r with
 |true=>
  have:=mV r h
  have e:kind r=1:=by unfold kind rN;rw[aj (by omega),am h]
  rw[e];rfl
 |false=>
  rw[aC]
  unfold kind rN
  rw[h]
  simp only[Bool.false_eq_true,if_false]
  (repeat' split)<;>omega
theorem IM (r:Int):((kind r:Int)==2)=fc r:=by
 unfold fc
 by_cases h:768≤r∧r≤879
 ·rw[ax h,beq_iff_eq]
  have a:cZ r=false:=by
   cases h':cZ r with
   |false=>rfl
   |true=>exact absurd h (mV r h').2.2
  unfold kind rN
  rw[aj (by omega),a,aj (by simp),am h]
 ·rw[al h,aC]
  unfold kind rN
  (repeat' split)<;>omega
theorem Bi (u:c6) (h:fB u.base):sS u=some (cZ u.base):=by
 unfold sS
 by_cases h0:0≤u.base
 ·exact bS (ax h0) (zdG h (aM some (zmo _)))
 ·refine bM (al h0) (aM some ?_)
  cases h':cZ u.base with
  |false=>rfl
  |true=>exact absurd (mV _ h').1 h0
theorem wS (x:bN) (h:fB x.Rune):sQ x=some (cZ x.Rune):=by
 unfold sQ rP
 by_cases h0:0≤x.Rune
 ·refine bS (ax h0) (aY (a:=cZ x.Rune) (zdG h ?_) rfl)
  cases hg:great x.Rune with
  |true=>exact bS rfl (by unfold cZ;rw[hg];rfl)
  |false=>exact bM rfl (zdG h (by unfold cZ;rw[hg];rfl))
 ·refine bM (al h0) (aM some ?_)
  cases h':cZ x.Rune with
  |false=>rfl
  |true=>exact absurd (mV _ h').1 h0
theorem QK (x:bN):yY x=some (fc x.Rune):=by
 unfold yY rf fc
 by_cases h0:0≤x.Rune
 ·refine bS (ax h0) (aY (a:=fc x.Rune) ?_ rfl)
  unfold fc
  by_cases h1:768≤x.Rune
  ·exact bS (ax h1) (aM some (by simp[h1]))
  ·exact bM (al h1) (aM some (by simp[h1]))
 ·exact bM (al h0) (aM some (by symm;rw[al];omega))
def uW:List (Int×Int):=[(790,793),(796,800),(803,819),(825,828),(837,841),(845,846),(851,854),(857,858)]
def mW (r:Int):Bool:=uW.any fun p=>decide (p.1≤r)&&decide (r≤p.2)
theorem IP (r:Int):wK r=some (mW r):=by
 unfold wK
 refine cB ?_
 have:=wG (xs:=([(⟨790,793⟩:jZ),(⟨796,800⟩:jZ),(⟨803,819⟩:jZ),(⟨825,828⟩:jZ),(⟨837,841⟩:jZ),(⟨845,846⟩:jZ),(⟨851,854⟩:jZ),(⟨857,858⟩:jZ)]:List jZ)) (F:=zgJ r (some false)) (bot:=fun _=>none)
  (g:=fun p=>if decide (p.e0≤r)&&decide (r≤p.e1) then some (some true) else none) (J:=some false) (fun ag k x hx=>by
   have hk:k<8:=oc hx
   unfold zgJ
   refine eR (cB (aY (kO hx) ?_))
   have a:(aV (cr ((k:Int)+1))<|ag ((k:Int)+1))=ag ((k:Int)+1):=zdG (ja (by omega)) rfl
   by_cases h1:x.e0≤r
   ·refine bS (ax h1) ?_
    by_cases h2:r≤x.e1
    ·exact bS (ax h2) (by simp[h1,h2])
    ·exact bM (al h2) (by simp[h1,h2,a])
   ·exact bM (al h1) (by simp[h1,a])) (fun ag=>bM (by decide) rfl) (n:=zbx) (j0 (by decide))
 rw[this]
 simp only[dr,List.findSome?_nil,mW,uW,jl,List.any_nil,mQ]
 (repeat' split)<;>simp_all
theorem QL (r:Int):y3 r=some (mW r):=by
 have h:r<790∨(790≤r∧r≤793)∨(793<r∧r<796)∨(796≤r∧r≤800)∨(800<r∧r<803)∨(803≤r∧r≤819)∨(819<r∧r<825)∨(825≤r∧r≤828)∨(828<r∧r<837)∨(837≤r∧r≤841)∨(841<r∧r<845)∨(845≤r∧r≤846)∨(846<r∧r<851)∨(851≤r∧r≤854)∨(854<r∧r<857)∨(857≤r∧r≤858)∨858<r:=by omega
 unfold y3
 simp only[co,aN,mW,uW,jl,List.any_nil,mQ]
 rcases h with h|h|h|h|h|h|h|h|h|h|h|h|h|h|h|h|h<;>simp (disch:=omega) only[ax,al,cond_true,cond_false,Bool.and_true,Bool.and_false,Bool.true_and,Bool.false_and,Bool.true_or,Bool.false_or,Bool.or_true,mQ]
def uX:List (Int×Int×Int):=[(65,768,192),(69,768,200),(73,768,204),(79,768,210),(85,768,217),(97,768,224),(101,768,232),(105,768,236),(111,768,242),(117,768,249),(1045,768,1024),(1048,768,1037),(1077,768,1104),(1080,768,1117),(65,769,193),(69,769,201),(73,769,205),(79,769,211),(85,769,218),(89,769,221),(97,769,225),(101,769,233),(105,769,237),(111,769,243),(117,769,250),(121,769,253),(67,769,262),(76,769,313),(78,769,323),(82,769,340),(83,769,346),(90,769,377),(99,769,263),(108,769,314),(110,769,324),(114,769,341),(115,769,347),(122,769,378),(913,769,902),(917,769,904),(919,769,905),(921,769,906),(927,769,908),(933,769,910),(937,769,911),(945,769,940),(949,769,941),(951,769,942),(953,769,943),(959,769,972),(965,769,973),(969,769,974),(1043,769,1027),(1050,769,1036),(1075,769,1107),(1082,769,1116),(970,769,912),(971,769,944),(65,770,194),(69,770,202),(73,770,206),(79,770,212),(85,770,219),(97,770,226),(101,770,234),(105,770,238),(111,770,244),(117,770,251),(67,770,264),(71,770,284),(72,770,292),(74,770,308),(83,770,348),(87,770,372),(89,770,374),(99,770,265),(103,770,285),(104,770,293),(106,770,309),(115,770,349),(119,770,373),(121,770,375),(65,771,195),(78,771,209),(79,771,213),(97,771,227),(110,771,241),(111,771,245),(73,771,296),(85,771,360),(105,771,297),(117,771,361),(65,772,256),(69,772,274),(73,772,298),(79,772,332),(85,772,362),(97,772,257),(101,772,275),(105,772,299),(111,772,333),(117,772,363),(65,774,258),(69,774,276),(71,774,286),(73,774,300),(79,774,334),(85,774,364),(97,774,259),(101,774,277),(103,774,287),(105,774,301),(111,774,335),(117,774,365),(1048,774,1049),(1059,774,1038),(1080,774,1081),(1091,774,1118),(67,775,266),(69,775,278),(71,775,288),(73,775,304),(90,775,379),(99,775,267),(101,775,279),(103,775,289),(122,775,380),(65,776,196),(69,776,203),(73,776,207),(79,776,214),(85,776,220),(97,776,228),(101,776,235),(105,776,239),(111,776,246),(117,776,252),(121,776,255),(89,776,376),(1045,776,1025),(1030,776,1031),(1077,776,1105),(1110,776,1111),(921,776,938),(933,776,939),(953,776,970),(965,776,971),(65,778,197),(85,778,366),(97,778,229),(117,778,367),(79,779,336),(85,779,368),(111,779,337),(117,779,369),(67,780,268),(68,780,270),(69,780,282),(76,780,317),(78,780,327),(82,780,344),(83,780,352),(84,780,356),(90,780,381),(99,780,269),(100,780,271),(101,780,283),(108,780,318),(110,780,328),(114,780,345),(115,780,353),(116,780,357),(122,780,382),(67,807,199),(71,807,290),(75,807,310),(76,807,315),(78,807,325),(82,807,342),(83,807,350),(84,807,354),(99,807,231),(103,807,291),(107,807,311),(108,807,316),(110,807,326),(114,807,343),(115,807,351),(116,807,355),(65,808,260),(69,808,280),(73,808,302),(85,808,370),(97,808,261),(101,808,281),(105,808,303),(117,808,371)]
section
variable {κ ν:Type} [DecidableEq κ]
theorem sU {k:κ} {v:ν}:∀ {L:List (κ×ν)},zbP k L=some v→(k,v)∈L
 |[],h=>by cases h
 |p::L,h=>by
  unfold zbP at h
  split at h
  ·rename_i e;cases h;rw[e];exact ar ..
  ·exact ak _ (sU h)
theorem IQ {A B:List (κ×ν)} (h1:∀p∈A,zbP p.1 B=zbP p.1 A) (h2:∀p∈B,zbP p.1 A=zbP p.1 B) (k:κ):zbP k A=zbP k B:=by
 cases h:zbP k A with
 |some v=>have:=h1 _ (sU h);rw[←h];exact this.symm
 |none=>
  cases h':zbP k B with
  |none=>rfl
  |some v=>have:=h2 _ (sU h');simp only at this;rw[h,h'] at this;cases this
end
def y5:List (zan×Int):=uX.map fun t=>(⟨t.1,t.2.1⟩,t.2.2)
def y6:List (Int×zan):=uX.map fun t=>(t.2.2,⟨t.1,t.2.1⟩)
theorem QM:∀p∈y6,zbP p.1 tabS=zbP p.1 y6:=by decide +kernel
theorem QN:∀p∈tabS,zbP p.1 y6=zbP p.1 tabS:=by decide +kernel
theorem QO:∀p∈y5,zbP p.1 iX=zbP p.1 y5:=by decide +kernel
theorem QP:∀p∈iX,zbP p.1 y5=zbP p.1 iX:=by decide +kernel
theorem QQ (r:Int):zbP r y6=zbP r tabS:=IQ QM QN r
theorem QR (p:zan):zbP p y5=zbP p iX:=IQ QO QP p
def iv:List gW:=(wH).getD []
theorem IR:wH=some iv:=rfl
def ou (q:gW):List (Int×Int×Int):=((eH q.e1).zip (eH q.e2)).map fun p=>(p.1,(eH q.e0).headD 0,p.2)
theorem IU:iv.flatMap ou=uX:=by decide +kernel
def IV (q:gW):Bool:=decide ((eH q.e1).length=(eH q.e2).length)&&decide ((eH q.e0).length=1)&&decide (q.e0.size≤1000∧q.e1.size≤1000∧q.e2.size≤1000)
theorem QS:iv.all IV=true:=by decide +kernel
theorem Bj {q:gW} (h:q∈iv):(eH q.e1).length=(eH q.e2).length∧zca (eH q.e0) 0=some ((eH q.e0).headD 0)∧q.e0.size≤1000∧q.e1.size≤1000∧q.e2.size≤1000:=by
 have:=bd.1 QS q h
 unfold IV at this
 simp only[aQ,decide_eq_true_eq] at this
 obtain⟨⟨h1,h2⟩,h3⟩:=this
 refine⟨h1,?_,h3⟩
 cases e:eH q.e0 with
 |nil=>rw[e] at h2;cases h2
 |cons x l=>rfl
theorem Ec {α β γ:Type} (f:α→List β) (g:β→Option γ):∀xs:List α,(xs.findSome? fun x=>(f x).findSome? g)=(xs.flatMap f).findSome? g
 |[]=>rfl
 |x::xs=>by
  rw[aG,List.findSome?_append,dr,Ec f g xs]
  cases (f x).findSome? g<;>rfl
theorem IW {γ:Type} (r:Int) (F:Int→Int→γ):∀L:List (Int×Int×Int),(L.findSome? fun t=>if (t.2.2==r) then some (F t.1 t.2.1) else none)=(zbP r (L.map fun t=>((t.2.2,⟨t.1,t.2.1⟩):Int×zan))).map fun p=>F p.e0 p.e1
 |[]=>rfl
 |t::L=>by
  rw[dr,av]
  unfold zbP
  by_cases h:r=t.2.2
  ·subst h;simp
  ·have:(t.2.2==r)=false:=by rw[aC];exact fun e=>h e.symm
   rw[this,aj h];exact IW r F L
theorem IX (b m:Int):∀L:List (Int×Int×Int),(L.findSome? fun t=>if (t.1==b)&&(t.2.1==m) then some t.2.2 else none)=zbP (⟨b,m⟩:zan) (L.map fun t=>((⟨t.1,t.2.1⟩,t.2.2):zan×Int))
 |[]=>rfl
 |t::L=>by
  rw[dr,av]
  unfold zbP
  by_cases h:(⟨b,m⟩:zan)=⟨t.1,t.2.1⟩
  ·cases h;simp
  ·have:((t.1==b)&&(t.2.1==m))=false:=by
    cases e:((t.1==b)&&(t.2.1==m)) with
    |false=>rfl
    |true=>simp at e;exact absurd (by rw[e.1,e.2]) h
   rw[this,aj h];exact IX b m L
def pc (a:Int→Option (List Int)) (r:Int):Option (List Int) :=
 match zbP r tabS with
 |none=>some [r]
 |some p=>aT (a p.e0) fun l=>aV (l.length+1≤2147483648)<|some (l++[p.e1])
theorem IY {α β:Type} {a:List α} {b:List β} {k:Nat} {p:α×β} (h:(a.zip b)[k]?=some p):a[k]?=some p.1∧b[k]?=some p.2:=by
 rw[List.getElem?_zip_eq_some] at h;exact h
theorem QT (d:Int→Option (List Int)) (r:Int):uQ d r=pc d r:=by
 unfold uQ
 refine cB (aY IR ?_)
 have w:iv.length=14:=by decide
 have j:∀ (q:gW) (u:Option (List Int)),q∈iv→zaC (fun _=>none) (zfd d r u q) zbx 0=(((ou q)).findSome? fun t=>if (t.2.2==r) then some (aT (d t.1) fun l=>aV (l.length+1≤2147483648)<|some (l++[t.2.1])) else none).getD u:=by
  intro q u s
  obtain⟨h1,h2,h3,C,h5⟩:=Bj s
  have hz:(ou q).length=(eH q.e2).length:=by unfold ou;simp[h1]
  have D:=vP q.e2
  refine wG (xs:=ou q) (fun ag k x hx=>?_) (fun ag=>?_) (j0 (by omega))
  ·have v:∃p,((eH q.e1).zip (eH q.e2))[k]?=some p∧x=(p.1,(eH q.e0).headD 0,p.2):=by
    unfold ou at hx
    rw[bU] at hx
    obtain⟨p,hp,e⟩:=cS.1 hx
    exact⟨p,hp,e.symm⟩
   obtain⟨p,hp,rfl⟩:=v
   obtain⟨e1,e2⟩:=IY hp
   have hk:=oc e2
   unfold zfd
   refine bS (lR e2) (aY (kO e2) ?_)
   cases h:(p.2==r) with
   |true=>exact bS rfl (aY (kO e1) (by
     rw[am rfl,Option.getD_some]
     cases d p.1 with
     |none=>rfl
     |some l=>exact (aY rfl (gO (aY h2 rfl))).trans (Gx rfl).symm))
   |false=>exact bM rfl (zdG (ja (by omega)) rfl)
  ·rw[hz];unfold zfd;exact bM lC rfl
 have i:=wG (xs:=iv) (F:=zfe d r (some [r]) iv) (bot:=fun _=>none) (g:=fun q=>(ou q).findSome? fun t=>if (t.2.2==r) then some (aT (d t.1) fun l=>aV (l.length+1≤2147483648)<|some (l++[t.2.1])) else none) (J:=some [r]) (fun ag k q s=>by
  have hm:=aP s
  have hk:=oc s
  obtain⟨h1,h2,h3,C,h5⟩:=Bj hm
  unfold zfe
  refine bS (lR s) (cB (aY (kO s) (gO (gO ?_))))
  rw[j q _ hm]
  exact aM _ (zdG (ja (by omega)) rfl)) (fun ag=>by unfold zfe;exact bM lC rfl) (n:=zbx) (j0 (by omega))
 rw[i,Ec,IU,IW r (fun a m=>aT (d a) fun l=>aV (l.length+1≤2147483648)<|some (l++[m]))]
 show ((zbP r y6).map _).getD _=_
 rw[QQ]
 unfold pc
 cases zbP r tabS<;>rfl
theorem QU (a:(List (Int×zan))→Int→Option (List Int)) (r:Int):uU a tabS r=pc (a tabS) r:=by
 unfold uU pc
 cases zbP r tabS with
 |none=>exact bS rfl rfl
 |some p=>exact bM rfl rfl
def uY:Nat→Int→Option (List Int)
 |0,_=>none
 |n+1,r=>pc (uY n) r
theorem IZ:∀ (n:Nat) (r:Int),zaC (fun _=>none) uQ n r=uY n r
 |0,r=>rfl
 |n+1,r=>by
  rw[gk,QT]
  show pc _ r=pc _ r
  congr 1;funext x;exact IZ n x
theorem I0:∀ (n:Nat) (r:Int),zaC (fun _ _=>none) uU n tabS r=uY n r
 |0,r=>rfl
 |n+1,r=>by
  rw[gk,QU]
  show pc _ r=pc _ r
  congr 1;funext x;exact I0 n x
def iw (r:Int):List Int :=
 match zbP r tabS with
 |none=>[r]
 |some p=>(match zbP p.e0 tabS with
  |none=>[p.e0]
  |some q=>[q.e0,q.e1])++[p.e1]
def QV:Bool:=tabS.all fun p=>match zbP p.2.e0 tabS with | none=>true | some q=>decide (zbP q.e0 tabS=none)
theorem QW:QV=true:=by decide +kernel
theorem I1 (n:Nat) (r:Int):uY (n+3) r=some (iw r):=by
 show pc (uY (n+2)) r=_
 unfold pc iw
 cases h:zbP r tabS with
 |none=>rfl
 |some p=>
  have hd:=bd.1 QW _ (sU h)
  simp only at hd
  refine aY (a:=match zbP p.e0 tabS with | none=>[p.e0] | some q=>[q.e0,q.e1]) ?_ (zdG (by cases zbP p.e0 tabS<;>simp) rfl)
  show pc (uY (n+1)) p.e0=_
  unfold pc
  cases h2:zbP p.e0 tabS with
  |none=>rfl
  |some q=>
   rw[h2] at hd
   simp only[decide_eq_true_eq] at hd
   refine aY (a:=[q.e0]) ?_ (zdG (by simp) rfl)
   show pc (uY n) q.e0=_
   unfold pc
   rw[hd]
theorem QX (r:Int):wJ r=some (iw r):=by
 unfold wJ
 rw[IZ]
 obtain⟨n,a,_⟩:=wD 3 (by omega)
 rw[a];exact I1 n r
theorem QY (r:Int):uV tabS r=some (iw r):=by
 unfold uV
 rw[I0]
 obtain⟨n,a,_⟩:=wD 3 (by omega)
 rw[a];exact I1 n r
def ji (b m:Int):Option Int:=zbP (⟨b,m⟩:zan) iX
theorem QZ (b m:Int):wI b m=some ((ji b m).getD 0):=by
 unfold wI
 refine cB (aY IR ?_)
 have w:iv.length=14:=by decide
 have d:∀ (q:gW) (j:Option Int),q∈iv→zaC (fun _=>none) (zeZ b m j q) zbx 0=(((ou q).findSome? fun t=>if (t.1==b)&&(t.2.1==m) then some t.2.2 else none).map some).getD j:=by
  intro q j i
  obtain⟨h1,h2,h3,C,h5⟩:=Bj i
  have hz:(ou q).length=(eH q.e1).length:=by unfold ou;simp[h1]
  have D:=vP q.e1
  have:=wG (xs:=ou q) (F:=zeZ b m j q) (bot:=fun _=>none) (g:=fun t=>if (t.1==b)&&(t.2.1==m) then some (some t.2.2) else none) (J:=j) (fun ag k x hx=>?_) (fun ag=>?_) (n:=zbx) (j0 (by omega))
  ·rw[this]
   congr 1
   induction ou q with
   |nil=>rfl
   |cons t l s=>
    rw[dr,dr]
    cases ((t.1==b)&&(t.2.1==m)) with
    |true=>rfl
    |false=>exact s
  ·have u:∃p,((eH q.e1).zip (eH q.e2))[k]?=some p∧x=(p.1,(eH q.e0).headD 0,p.2):=by
    unfold ou at hx
    rw[bU] at hx
    obtain⟨p,hp,e⟩:=cS.1 hx
    exact⟨p,hp,e.symm⟩
   obtain⟨p,hp,rfl⟩:=u
   obtain⟨e1,e2⟩:=IY hp
   have hk:=oc e1
   have v:(aV (cr ((k:Int)+1))<|ag ((k:Int)+1))=ag ((k:Int)+1):=zdG (ja (by omega)) rfl
   unfold zeZ
   refine bS (lR e1) (cB (aY (kO e1) ?_))
   cases h:(p.1==b) with
   |true=>
    refine bS rfl (gO (aY h2 ?_))
    cases h':((eH q.e0).headD 0==m) with
    |true=>exact bS rfl (aY (kO e2) rfl)
    |false=>exact bM rfl v
   |false=>exact bM rfl v
  ·rw[hz];unfold zeZ;exact bM lC rfl
 have a:=wG (xs:=iv) (F:=zfA b m (some 0) iv) (bot:=fun _=>none) (g:=fun q=>((ou q).findSome? fun t=>if (t.1==b)&&(t.2.1==m) then some t.2.2 else none).map some) (J:=some 0) (fun ag k q i=>by
  have hm:=aP i
  have hk:=oc i
  obtain⟨h1,h2,h3,C,h5⟩:=Bj hm
  unfold zfA
  refine bS (lR i) (cB (aY (kO i) (gO (gO ?_))))
  rw[d q _ hm]
  exact aM _ (zdG (ja (by omega)) rfl)) (fun ag=>by unfold zfA;exact bM lC rfl) (n:=zbx) (j0 (by omega))
 rw[a]
 have e:(iv.findSome? fun q=>((ou q).findSome? fun t=>if (t.1==b)&&(t.2.1==m) then some t.2.2 else none).map some)=((iv.findSome? fun q=>(ou q).findSome? fun t=>if (t.1==b)&&(t.2.1==m) then some t.2.2 else none)).map some:=by
  generalize iv=L
  induction L with
  |nil=>rfl
  |cons q l s=>
   rw[dr,dr,s]
   cases (ou q).findSome? _<;>rfl
 rw[e,Ec,IU,IX b m]
 show ((zbP _ y5).map some).getD _=_
 rw[QR]
 unfold ji
 cases zbP (⟨b,m⟩:zan) iX<;>rfl
def itG (s:ad) (p:Pc):bN:=⟨if p.broken then -1 else (p.r:Int),s.extract p.i (p.i+p.w),p.i⟩
def fV (s:ad):List bN:=(eQ s.data.toList).map (itG s)
theorem I2 {s:ad} {p:Pc} (hp:p∈eQ s.data.toList):p.i+p.w≤s.size:=by
 obtain⟨g1,g2,d⟩:=uH s.data.toList p hp
 have a:s.data.toList.length=s.size:=by rw[cU];rfl
 omega
theorem qz (s:ad):(eQ s.data.toList).length≤s.size:=by
 have:=vP s;unfold eH at this;simpa using this
theorem wT (s:ad) (j:s.size≤1073741824):rQ s=some (fV s):=by
 unfold rQ
 refine cB (aY (QJ s (by omega)) ?_)
 have hc:=qz s
 refine (px (xs:=(eQ s.data.toList).map gI) (f:=fun l (x:cY)=>l++[(⟨if x.Broken then -1 else x.Rune,cO s x.At (x.At+x.Width),x.At⟩:bN)]) (J:=some) (fun k l=>l.length=k) ?_ ?_ ?_ (j0 (by simp;omega)) rfl).trans ?_
 ·intro ag k x l hx e
  have hk:=oc hx
  have h:k<(eQ s.data.toList).length:=by simpa using hk
  have d:=hx
  rw[bU] at d
  obtain⟨p,hp,rfl⟩:=cS.1 d
  have hf:=I2 (aP hp)
  unfold zfO
  refine bS (lR hx) (cB (aY (kO hx) (aY (a:=cO s p.i ((p.i:Int)+p.w)) (zdG ⟨by simp only[gI];omega,by simp only[gI];omega⟩ (zdG ⟨by simp only[gI];omega,by simp only[gI];omega,by simp only[gI];omega⟩ rfl)) ?_)))
  cases hb:(gI p).Broken with
  |true=>exact bS rfl (gO (zdG (ja (by omega)) (by simp[hb,gI])))
  |false=>exact bM rfl (gO (zdG (ja (by omega)) (by simp[hb,gI])))
 ·intro k x l hx e;simp[e]
 ·intro ag l e;unfold zfO;exact bM lC rfl
 ·have:∀ (ps:List Pc) (l:List bN),(ps.map gI).foldl (fun l (x:cY)=>l++[(⟨if x.Broken then -1 else x.Rune,cO s x.At (x.At+x.Width),x.At⟩:bN)]) l=l++ps.map (itG s):=by
   intro ps
   induction ps with
   |nil=>intro l;simp
   |cons p ps g=>intro l;rw[av,bn,g];simp[itG,gI,cO];exact⟨rfl,by congr 1⟩
  rw[this];rfl
def sV (l:List bN):ad:=l.foldl (fun s x=>s++x.Text) (⟨#[]⟩:ad)
def pd (l:List bN):Nat:=(l.map fun x=>x.Text.size).sum
theorem Ed (l:List bN) (e:l.length≤1099511627776) (d:pd l≤1099511627776):uR l=some (sV l):=by
 unfold uR
 refine cB ((px (xs:=l) (f:=fun s (x:bN)=>s++x.Text) (J:=some) (fun k s=>s.size=pd (l.take k)) ?_ ?_ ?_ (j0 (by omega)) rfl).trans rfl)
 ·intro ag k x s hx hi
  have hk:=oc hx
  have h1:pd (l.take k)+x.Text.size≤pd l:=by
   have h2:l=l.take k++x::l.drop (k+1):=by
    have:=au.1 hx
    obtain⟨a,he⟩:=this
    rw[←he,←aR a,bZ]
   have:pd l=pd (l.take k)+(x.Text.size+pd (l.drop (k+1))):=by
    conv=>lhs;rw[h2]
    simp[pd]
   omega
  unfold zgi
  exact bS (lR hx) (aY (kO hx) (gO (zdG (ja (by omega)) rfl)))
 ·intro k x s hx hi
  have h2:l.take (k+1)=l.take k++[x]:=by
   rw[List.take_add_one,hx];rfl
  rw[h2,ByteArray.size_append,hi];simp[pd]
 ·intro ag s _;unfold zgi;exact bM lC rfl
theorem Ee (r:Int) (x:bN) (hr:fB r):wM r x=some ⟨r,ae r,x.At⟩:=aY (Bb r hr) rfl
theorem Ef (l:List bN) (e:l.length≤1099511627776):uS l=some (((l.takeWhile fun x=>fc x.Rune).length:Nat):Int):=by
 unfold uS
 refine cB ?_
 have key:∀ (n k:Nat),k≤l.length→l.length-k<n→zaC (fun _=>none) (zfa l some) n (k:Int)=some ((k+((l.drop k).takeWhile fun x=>fc x.Rune).length:Nat):Int):=by
  intro n
  induction n with
  |zero=>intro k _ h;omega
  |succ n a=>
   intro k hk d
   rw[gk]
   generalize zaC (fun _=>none) (zfa l some) n=ag at a ⊢
   unfold zfa
   by_cases h:k<l.length
   ·have hx:l[k]?=some l[k]:=aJ h
    refine bS (lR hx) (aY (kO hx) (aY (QK _) ?_))
    rw[aR h,aW]
    cases hm:fc l[k].Rune with
    |true=>
     refine bS rfl (zdG (ja (by omega)) ?_)
     have:=a (k+1) (by omega) (by omega)
     push_cast at this ⊢
     rw[this];simp;omega
    |false=>exact bM rfl (by simp)
   ·have:k=l.length:=by omega
    subst this
    exact bM lC (by rw[gp];simp)
 have:=key zbx 0 (bG _) (by have:=j0 (n:=l.length) (by omega);omega)
 simpa using this
abbrev bf:=bN
def dI (x:bf):Bool:=cZ x.Rune
def isM (x:bf):Bool:=fc x.Rune
def mF (x:bf):Bool:=mW x.Rune
theorem qA {r:Int} (h:fc r=true):cZ r=false:=by
 cases e:cZ r with
 |false=>rfl
 |true=>have:=mV r e;unfold fc at h;simp at h;omega
def I3 (r:Int):Bool:=match iw r with
 |[]=>false
 |b::ms=>cZ b&&decide (zbP b tabS=none)&&ms.all fc&&decide ((b::ms).length≤3)
theorem Q0:(tabS.all fun p=>I3 p.1)=true:=by decide +kernel
theorem Q1:(tabS.all fun p=>decide (0≤p.1∧p.1≤2000∧0≤p.2.e0∧p.2.e0≤2000∧0≤p.2.e1∧p.2.e1≤2000)&&cZ p.1)=true:=by decide +kernel
theorem tW {r:Int} (h:cZ r=true):∃b a,iw r=b::a∧cZ b=true∧zbP b tabS=none∧(∀m∈a,fc m=true)∧a.length≤2:=by
 cases e:zbP r tabS with
 |none=>exact⟨r,[],by unfold iw;rw[e],h,e,by simp,by simp⟩
 |some p=>
  have h1:=bd.1 Q0 _ (sU e)
  unfold I3 at h1
  simp only at h1
  cases hp:iw r with
  |nil=>rw[hp] at h1;cases h1
  |cons b a=>
   rw[hp] at h1
   simp only[aQ,decide_eq_true_eq,bd,ab] at h1
   exact⟨b,a,rfl,h1.1.1.1,h1.1.1.2,h1.1.2,by omega⟩
theorem Eg (r:Int):(iw r).length≤3∧1≤(iw r).length:=by
 unfold iw
 (repeat' split)<;>simp
theorem Eh {k:Int} {p:zan} (h:zbP k tabS=some p):(0≤p.e0∧p.e0≤2000)∧(0≤p.e1∧p.e1≤2000)∧cZ k=true:=by
 have:=bd.1 Q1 _ (sU h)
 simp only[aQ,decide_eq_true_eq] at this
 obtain⟨⟨h1,h2,h3,e,h5,d⟩,a⟩:=this
 exact⟨⟨h3,e⟩,⟨h5,d⟩,a⟩
theorem Bk {r:Int} (h:fB r):∀y∈iw r,fB y:=by
 intro y hy
 unfold iw at hy
 split at hy
 ·simp at hy;subst hy;exact h
 ·rename_i p hp
  obtain⟨h1,h2,_⟩:=Eh hp
  split at hy
  ·simp at hy;rcases hy with rfl | rfl<;>exact⟨by omega,by omega⟩
  ·rename_i q a
   obtain⟨h3,d,_⟩:=Eh a
   simp at hy;rcases hy with rfl | rfl | rfl<;>exact⟨by omega,by omega⟩
def fM:Option (bf×List bf)→List bf→List (bf×List bf)
 |none,[]=>[]
 |some c,[]=>[c]
 |none,x::xs=>fM (some (x,[])) xs
 |some c,x::xs=>if dI c.1&&isM x then fM (some (c.1,c.2++[x])) xs else c::fM (some (x,[])) xs
def cl (xs:List bf):List (bf×List bf):=fM none xs
theorem I4 (x:bf) (h:dI x=true):∀ (xs a:List bf),fM (some (x,a)) xs=(x,a++xs.takeWhile isM)::cl (xs.dropWhile isM)
 |[],a=>by simp[fM,cl]
 |y::xs,a=>by
  unfold fM
  cases hm:isM y with
  |true=>rw[h,aW,cD,hm];simp only[Bool.and_self,if_true];rw[I4 x h xs];simp
  |false=>rw[aW,cD,hm];simp[cl,fM]
theorem Q2 (x:bf) (h:dI x=false) (xs:List bf):fM (some (x,[])) xs=(x,[])::cl xs:=by
 cases xs with
 |nil=>rfl
 |cons y xs=>unfold fM;rw[h];simp[cl,fM]
theorem Ei:cl []=[]:=rfl
theorem wU {x:bf} (h:dI x=true) (xs:List bf):cl (x::xs)=(x,xs.takeWhile isM)::cl (xs.dropWhile isM):=by
 show fM (some (x,[])) xs=_
 rw[I4 x h];rfl
theorem Bl {x:bf} (h:dI x=false) (xs:List bf):cl (x::xs)=(x,[])::cl xs:=Q2 x h xs
def loI (a:List bf):List bf:=a.filter mF
def hiI (a:List bf):List bf:=a.filter fun x=>!mF x
def mG (c:bf×List bf):List bf:=c.1::(loI c.2++hiI c.2)
def lS (xs:List bf):List bf:=(cl xs).flatMap mG
theorem rT (a:List bf):(loI a++hiI a).length=a.length:=by
 unfold loI hiI
 induction a with
 |nil=>rfl
 |cons x a d=>
  rw[iK,iK]
  rw[aa] at d ⊢
  cases mF x<;>simp<;>omega
theorem Ej {a:List bf} (h:∀m∈a,isM m=true):∀m∈loI a++hiI a,isM m=true:=by
 intro m hm
 unfold loI hiI at hm
 rw[bY,cq,cq] at hm
 rcases hm with hm|hm<;>exact h m hm.1
theorem Ek (xs:List bf):∀m∈xs.takeWhile isM,isM m=true:=bd.1 List.all_takeWhile
def jm (x:bf):List bf:=if dI x then (iw x.Rune).map fun r=>⟨r,ae r,x.At⟩ else [x]
def apL (l:List bf):List bf:=l.flatMap jm
theorem I5 (x:bf):(jm x).length≤3:=by
 unfold jm
 split
 ·simp;exact (Eg _).1
 ·simp
def rh (l:List bf):Prop:=∀x∈l,fB x.Rune
theorem Em {l:List bf} (h:rh l):rh (apL l):=by
 intro y hy
 unfold apL at hy
 obtain⟨x,hx,hy⟩:=List.mem_flatMap.1 hy
 unfold jm at hy
 split at hy
 ·obtain⟨r,hr,rfl⟩:=List.mem_map.1 hy
  exact Bk (h x hx) r hr
 ·simp at hy;subst hy;exact h _ hx
theorem uZ (l:List bf):(apL l).length≤3*l.length:=by
 unfold apL
 induction l with
 |nil=>simp
 |cons x l a=>rw[aG,aa,ab];have:=I5 x;omega
theorem En {α β:Type} (g:α→List β):∀ (xs:List α) (a:List β),xs.foldl (fun a x=>a++g x) a=a++xs.flatMap g
 |[],a=>by simp
 |x::xs,a=>by rw[bn,En g xs];simp
theorem Q3 (l:List bf) (g:rh l) (i:l.length≤268435456) (J:List bf→Option (List bf)):zaC (fun _ _=>none) (zfc l J) zbx [] 0=J (apL l):=by
 refine (px (xs:=l) (f:=fun a x=>a++jm x) (J:=J) (fun k a=>a.length≤3*k) ?_ ?_ ?_ (j0 (by omega)) (by simp)).trans ?_
 ·intro ag k x a hx hi
  have hk:=oc hx
  have d:=g x (aP hx)
  unfold zfc
  refine bS (lR hx) (cB (aY (kO hx) (aY (wS x d) ?_)))
  cases hL:cZ x.Rune with
  |false=>
   have:jm x=[x]:=by unfold jm dI;rw[hL];rfl
   rw[this]
   exact bS rfl (gO (zdG (ja (by omega)) rfl))
  |true=>
   have:jm x=(iw x.Rune).map fun r=>⟨r,ae r,x.At⟩:=by unfold jm dI;rw[hL];rfl
   rw[this]
   refine bM rfl (aY (QX _) ?_)
   have hp:=Eg x.Rune
   refine (px (xs:=iw x.Rune) (f:=fun a (r:Int)=>a++[(⟨r,ae r,x.At⟩:bf)]) (J:=fun e=>aV (cr ((k:Int)+1))<|ag e ((k:Int)+1)) (fun j b=>b.length≤3*k+j) ?_ ?_ ?_ (j0 (by omega)) (by omega)).trans ?_
   ·intro h j r b hr hb
    have hj:=oc hr
    unfold zfN
    exact bS (lR hr) (aY (kO hr) (aY (Ee r x (Bk d r (aP hr))) (gO (zdG (ja (by omega)) rfl))))
   ·intro j r b _ hb;simp;omega
   ·intro h b _;unfold zfN;exact bM lC rfl
   ·rw[En (fun r=>[(⟨r,ae r,x.At⟩:bf)])]
    refine zdG (ja (by omega)) ?_
    rw[List.map_eq_flatMap]
 ·intro k x a _ hi;simp only[aa];have:=I5 x;omega
 ·intro ag a _;unfold zfc;exact bM lC rfl
 ·rw[En jm];rfl
theorem tX {α:Type} (A:List α) (x:α) (B:List α):(A++x::B)[A.length]?=some x:=by simp
theorem Eo {α:Type} (A:List α) (x:α) (B:List α) (i:Int) (hi:i=(A.length:Int)):dK (A++x::B) (i+1) (((A++x::B).length:Nat):Int)=B:=by
 subst hi
 unfold dK
 rw[show ((A.length:Int)+1).toNat=(A++[x]).length by simp]
 rw[show A++x::B=(A++[x])++B by simp,ic,ee (by simp;omega)]
theorem Q4 {α:Type} (A:List α) (x:α) (M B:List α) (i r:Int) (hi:i=(A.length:Int)) (hr:r=(M.length:Int)):dK (A++x::(M++B)) (i+1) ((i+1)+r)=M:=by
 subst hi;subst hr
 unfold dK
 rw[show ((A.length:Int)+1).toNat=(A++[x]).length by simp]
 rw[show A++x::(M++B)=(A++[x])++(M++B) by simp,ic]
 rw[show (((A.length:Int)+1+(M.length:Int)).toNat-(A++[x]).length)=M.length by simp;omega,ko]
theorem Q5 {α:Type} (A:List α) (x:α) (M B Y:List α) (j:Nat) (hj:j=A.length+1) (hy:Y.length=M.length):tJ (A++x::(M++B)) j Y=A++x::(Y++B):=by
 subst hj
 unfold tJ
 rw[show A++x::(M++B)=((A++[x])++M)++B by simp,hy]
 rw[show ((A++[x])++M++B).take (A.length+1)=A++[x] by
  rw[List.append_assoc,show A.length+1=(A++[x]).length by simp,ko]]
 rw[show ((A++[x])++M++B).drop (A.length+1+M.length)=B by
  rw[show A.length+1+M.length=((A++[x])++M).length by simp;omega,ic]]
 simp
theorem Q6 (M:List bf):∀a:List bf×List bf,M.foldl (fun a x=>if mF x then (a.1++[x],a.2) else (a.1,a.2++[x])) a=(a.1++loI M,a.2++hiI M):=by
 induction M with
 |nil=>intro a;simp[loI,hiI]
 |cons x M d=>
  intro a
  rw[bn,d]
  unfold loI hiI
  cases h:mF x<;>simp[h]
theorem Q7 (d A M B:List bf) (x:bf) (J:List bf→Option (List bf)) (ag:List bf→Int→Option (List bf)) (i:Int) (hi:i=(A.length:Int)) (s:d.length=(A++x::(M++B)).length) (hx:dI x=true) (g:fB x.Rune)
  (t:(M++B).takeWhile isM=M) (hb:d.length≤1073741824):zcM d J ag (A++x::(M++B)) i=ag (A++x::((loI M++hiI M)++B)) (i+1):=by
 have u:(A++x::(M++B)).length=A.length+1+M.length+B.length:=by simp;omega
 unfold zcM
 refine eR (cB (aY (Al hi (tX A x _)) (aY (wS x g) ?_)))
 have j:cZ x.Rune=true:=hx
 rw[j]
 refine bM rfl (cB (gO (gO (gO (gO ?_)))))
 rw[Eo A x (M++B) i hi]
 refine aY (Ef (M++B) (by simp;omega)) ?_
 have m:((M++B).takeWhile fun x=>fc x.Rune)=M:=t
 rw[m]
 refine gO (gO ?_)
 have e:=Q4 A x M B i (M.length:Int) hi rfl
 refine (IB (xs:=M) (F:=zfb (A++x::(M++B)) i _ (M.length:Int)) (f:=fun (a:List bf×List bf) x=>if mF x then (a.1++[x],a.2) else (a.1,a.2++[x]))
  (J:=fun lo h=>aV (lo.length+h.length≤2147483648)<|aV (cr (i+1))<|ag (tJ (A++x::(M++B)) (0+(i+1:Int).toNat) ((lo++h).take M.length)) (i+1)) (fun k a=>a.1.length+a.2.length=k) ?_ ?_ ?_ (j0 (by omega)) (a:=([],[])) rfl).trans ?_
 ·intro n k y a hy l
  have hk:=oc hy
  unfold zfb
  rw[e]
  refine bS (lR hy) (cB (aY (kO hy) (aY (IP _) ?_)))
  have:mW y.Rune=mF y:=rfl
  rw[this]
  cases mF y with
  |true=>exact bS rfl (gO (zdG (ja (by omega)) rfl))
  |false=>exact bM rfl (gO (zdG (ja (by omega)) rfl))
 ·intro k y a _ l;split<;>simp<;>omega
 ·intro n a ha
  unfold zfb
  rw[e]
  exact bM lC rfl
 ·rw[Q6]
  simp only[bg]
  have h1:=rT M
  rw[aa] at h1
  refine gO (gO ?_)
  rw[ee (by rw[aa];omega),Q5 A x M B _ _ (by omega) (rT M)]
theorem I6 (a A B:List bf) (x:bf) (J:List bf→Option (List bf)) (ag:List bf→Int→Option (List bf)) (i:Int) (hi:i=(A.length:Int)) (g:a.length=(A++x::B).length) (hx:dI x=false) (d:fB x.Rune) (hb:a.length≤1073741824) :
  zcM a J ag (A++x::B) i=ag (A++x::B) (i+1):=by
 have h:(A++x::B).length=A.length+1+B.length:=by simp;omega
 unfold zcM
 refine eR (cB (aY (Al hi (tX A x _)) (aY (wS x d) ?_)))
 have e:cZ x.Rune=false:=hx
 rw[e]
 exact bS rfl (gO rfl)
theorem wV:lS []=[]:=rfl
theorem u0 {x:bf} (h:dI x=true) (xs:List bf):lS (x::xs)=x::((loI (xs.takeWhile isM)++hiI (xs.takeWhile isM))++lS (xs.dropWhile isM)):=by
 unfold lS;rw[wU h];simp[mG]
theorem u6 {x:bf} (h:dI x=false) (xs:List bf):lS (x::xs)=x::lS xs:=by
 unfold lS;rw[Bl h];simp[mG,loI,hiI]
theorem Q8 (d:List bf) (J:List bf→Option (List bf)) (hb:d.length≤1073741824):∀ (m n:Nat) (A B:List bf),B.length≤m→B.length<n→d.length=(A++B).length→rh B →
  zaC (fun _ _=>none) (zcM d J) n (A++B) (A.length:Int)=J (A++lS B):=by
 have skip:∀ (M A B:List bf) (n:Nat),(∀y∈M,dI y=false)→rh M→d.length=(A++(M++B)).length→zaC (fun _ _=>none) (zcM d J) (n+M.length) (A++(M++B)) (A.length:Int)=zaC (fun _ _=>none) (zcM d J) n (A++(M++B)) ((A++M).length:Int):=by
  intro M
  induction M with
  |nil=>intro A B n _ _ _;simp
  |cons y M w=>
   intro A B n j e a
   rw[show n+(y::M).length=(n+M.length)+1 by simp;omega,gk,aX,I6 d A (M++B) y J _ _ rfl a (j y (ar ..)) (e y (ar ..)) hb]
   have:=w (A++[y]) B n (fun z hz=>j z (ak _ hz)) (fun z hz=>e z (ak _ hz)) (by rw[a];simp)
   have e1:A++[y]++(M++B)=A++y::(M++B):=by simp
   have e2:A++[y]++M=A++y::M:=by simp
   rw[e1,e2] at this
   rw[←this]
   congr 1;simp
 intro m
 induction m with
 |zero=>
  intro n A B hB C a e
  have:B=[]:=List.eq_nil_of_length_eq_zero (by omega)
  subst this
  obtain⟨n,rfl⟩:∃k,n=k+1:=⟨n-1,by omega⟩
  rw[gk]
  unfold zcM
  rw[aH] at a ⊢
  exact fC (by rw[wV,aH])
 |succ m w=>
  intro n A B hB C a e
  obtain⟨n,rfl⟩:∃k,n=k+1:=⟨n-1,by omega⟩
  cases B with
  |nil=>
   rw[gk]
   unfold zcM
   rw[aH] at a ⊢
   exact fC (by rw[wV,aH])
  |cons x xs=>
   rw[gk]
   simp only[ab] at hB
   cases hL:dI x with
   |false=>
    rw[I6 d A xs x J _ _ rfl a hL (e x (ar ..)) hb,u6 hL]
    simp only[ab] at C
    have:=w n (A++[x]) xs (by omega) (by omega) (by rw[a];simp) (fun z hz=>e z (ak _ hz))
    have e1:A++[x]++xs=A++x::xs:=by simp
    rw[e1] at this
    rw[show ((A.length:Int)+1)=((A++[x]).length:Int) by simp,this]
    simp
   |true=>
    obtain⟨M,R,j,D,g⟩:∃M R,M=xs.takeWhile isM∧R=xs.dropWhile isM∧xs=M++R:=⟨_,_,rfl,rfl,(List.takeWhile_append_dropWhile).symm⟩
    have h:=Q7 d A M R x J (zaC (fun _ _=>none) (zcM d J) n) (A.length:Int) rfl (by rw[←g];exact a) hL (e x (ar ..)) (by rw[←g,←j]) hb
    rw[←g] at h
    have i:∀y∈loI M++hiI M,isM y=true:=Ej (by rw[j];exact Ek xs)
    have t:rh (loI M++hiI M):=fun y hy=>e y (by
     unfold loI hiI at hy
     rw[bY,cq,cq] at hy
     rw[g]
     rcases hy with hy|hy<;>exact ak _ (List.mem_append_left _ hy.1))
    have u:=rT M
    have l:xs.length=M.length+R.length:=by rw[g];simp
    have v:(A++x::xs).length=A.length+1+xs.length:=by simp;omega
    rw[h,u0 hL,←j,←D]
    simp only[ab] at C
    obtain⟨k,hk⟩:∃k,n=k+(loI M++hiI M).length:=⟨n-M.length,by omega⟩
    have s:=skip (loI M++hiI M) (A++[x]) R k (fun y hy=>qA (i y hy)) t (by rw[a,v,l];simp only[aa,ab,aL] at u ⊢;omega)
    have e1:A++[x]++(loI M++hiI M++R)=A++x::(loI M++hiI M++R):=by simp
    rw[e1] at s
    rw[hk,show ((A.length:Int)+1)=((A++[x]).length:Int) by simp,s]
    have:=w k (A++[x]++(loI M++hiI M)) R (by omega) (by omega) (by rw[a,v,l];simp only[aa,ab,aL] at u ⊢;omega) (fun z hz=>e z (by rw[g];exact ak _ (List.mem_append_right _ hz)))
    have e2:A++[x]++(loI M++hiI M)++R=A++x::(loI M++hiI M++R):=by simp
    rw[e2] at this
    rw[this];simp
theorem Ep (l:List bf) (a:rh l) (d:l.length≤268435456):uT l=some (lS (apL l)):=by
 unfold uT
 refine cB ((Q3 l a d _).trans (cB ?_))
 have h1:=uZ l
 have:=Q8 (apL l) some (by omega) (apL l).length zbx [] (apL l) (Nat.le_refl _) (j0 (by omega)) rfl (Em a)
 simpa using this
def va (r1:Int):Option Int := co (fun (a:Option Int)=>aN ((r1:Int) != 65533) (aN (decide (ae r1=(⟨#[239,191,189]⟩:ad))) (some 0) (a)) (a)) (some ((ae r1).size:Int))
theorem I7 {r1:Int} {r:Int} (h:va r1=some r):dN prog 150 [.int .i32 r1] (zI r):=by
 unfold va at h
 refine dN.intro func150 rfl ntmps150 (by simp) (fun w0 K=>zbq h fun d a h=>zaL (β:=Unit) 1 rfl (fun b=>d=some r) (fun b=>[]) (fun b=>[(0,.int .i32 r1)]) (fun b=>[]) (fun cut=>?_) ?_)
 ·refine zyG (zyR 1 rfl (zyN (cut (zyG (zyR 1 rfl (zaT rfl zed (zyR 1 rfl (zyS (s:=5) rfl h (fun h=>?_) (fun h=>?_)))))))))
  ·refine zyR 1 rfl (zcH rfl dc rfl (mi aZ an) (zaT rfl zdp (zyR 1 rfl (zyN (zyB rfl h (fun h=>?_) (fun h=>?_))))))
   ·refine zyG (zyR 1 rfl (zyN (zaA (bP ?_))))
    cases h
    exact cX 2 results150
   exact zap (cL () h rfl (bI rfl) ah)
  exact zyR 4 rfl (zyN (za8 rfl (zap (cL () h rfl (bI rfl) ah))))
 rintro _ h
 rw[a] at h
 refine zyG (zyR 1 rfl (zcH rfl dc rfl (mi aZ an) (zcG rfl dc rfl an (zyR 1 rfl (zyN (zaA ?_))))))
 cases h
 exact cX 2 results150
def oO (r1:Int):Option Int := some (lL .u8 (Am .u8 (IntKind.u8.wrap r1) 63) 128)
theorem wW {r1:Int} {r:Int} (h:oO r1=some r):dN prog 151 [.int .i32 r1] (.int .u8 r):=by
 unfold oO at h
 refine dN.intro func151 rfl ntmps151 (by simp) (fun w0 K=>zyG (zyR 1 rfl (zyH (zyR 1 rfl (zcH rfl dc rfl (zeW aZ cu) (zyR 1 rfl (zyH (zyR 1 rfl (zaT rfl zDd (zyR 1 rfl (zyH (zyR 1 rfl (zaT rfl zvx (zyR 1 rfl (zyH (zyR 2 rfl (zyN (zaA ?_))))))))))))))))))
 cases h
 exact cX 2 results151
def zgZ (d:ad) (a:Int) (h:Option cY) (i:Option cY):Option cY := aN (decide (0<(eQ (cO d a (d.size:Int)).data.toList).length)) (aT ((eQ (cO d a (d.size:Int)).data.toList)[0]?) fun (p1:Pc)=>co (fun (e:Int→Option cY)=>aT (va (p1.r:Int)) fun (r1:Int)=>aN (((p1.r:Int):Int)==65533) (aV (cr ((d.size:Int)-a)) <|aN (decide ((((d.size:Int)-a):Int)<3)) (some (⟨a,1,65533,true⟩:cY)) (aV (cr (a+3)) <|aV (0≤(a:Int)∧(a:Int)≤(a+3)∧(a+3:Int)≤(d.size:Int)) <|aN (!decide (cO d a (a+3)=(⟨#[239,191,189]⟩:ad))) (some (⟨a,1,65533,true⟩:cY)) (e r1))) (e r1)) (fun (g:Int)=>some (⟨a,g,(p1.r:Int),false⟩:cY))) (h)
def wX (d:ad) (a:Int):Option cY := co (fun (e:Option cY)=>aV (0≤(a:Int)∧(a:Int)≤(d.size:Int)∧((d.size:Int):Int)≤(d.size:Int)) <|zaC none (zgZ d a e) zbx) (some (⟨0,0,0,false⟩:cY))
theorem Q9 {d:ad} {a:Int} {r:cY} (h:wX d a=some r):dN prog 155 [.string d,zI a] (.agg #[zI r.At,zI r.Width,.int .i32 r.Rune,.bool r.Broken]):=by
 unfold wX at h
 refine dN.intro func155 rfl ntmps155 (by simp) (fun w0 K=>zbq h fun l D h=>zaL (β:=Nat) 1 rfl (fun b=>l=some r) (fun b=>[]) (fun b=>[(4,zP b)]) (fun b=>[cells b [zI 0,zI 0,.int .i32 0,.bool false] 132]) (fun cut=>?_) ?_)
 ·refine zyG (zbi zjr rfl dc (fun b2=>zyN (cut (zyG (zyR 2 rfl (zbs h fun I h=>iA rfl dc rfl rfl rfl (kA (i:=a) (j:=(d.size:Int)) an (.inr rfl) (.inl ⟨rfl,rfl⟩) I) (uL an rfl dc rfl (fun M=>zyN (zat (eF (β:=Nat) (fun b=>zaC none (zgZ d a l) b=some r) (fun b=>[]) (fun b=>[(0,.string d),(1,zI a),(4,zP b2),(11,zP M)]) (fun b=>[cells b2 [zI 0,zI 0,.int .i32 0,.bool false] 132,obj M (.stringIter (cO d a (d.size:Int)) (mE (cO d a (d.size:Int)) 0))]) (fun b=>b) zbx h rfl (bI rfl) (cp 2) (fun t h=>?_)))))))))))
  cases t with
  |zero=>exact ew h
  |succ t=>
   obtain⟨J,g⟩:∃ag,ag=zaC none (zgZ d a l) t:=⟨_,rfl⟩
   have h:zgZ d a l J=some r:=by rw[g];exact h
   unfold zgZ at h
   refine zyG (tI (b:=decide (0<(eQ (cO d a (d.size:Int)).data.toList).length)) (fun e=>?_) (fun e=>?_))
   ·have h:=oF e h
    refine zbk h fun p1 w h=>uM (k:=1) (m:=0) (p:=p1) rfl dc rfl rfl w (eY rfl dc rfl rfl (zyN (zaJ (ir rfl (zap (zaz (zat (zbq h fun O C h=>zaL (β:=Int) 2 rfl (fun b=>O b=some r) (fun b=>[]) (fun b=>[(1,zI a),(4,zP b2),(6,.int .i32 (p1.r:Int)),(7,zI b)]) (fun b=>[cells b2 [zI 0,zI 0,.int .i32 0,.bool false] 132]) (fun cut=>?_) ?_))))))))
    ·refine zyG (eY rfl dc rfl rfl (zyR 1 rfl (zyH (zyR 1 rfl (zbk h fun r1 u h=>zaI (v:=zI r1) (vs:=[.int .i32 (p1.r:Int)]) rfl dc rfl rfl rfl HU (I7 u) (zyR 1 rfl (zyN (cut (zyG (zyR 1 rfl (zaT rfl zbm (zyR 1 rfl (zyS (s:=19) rfl h (fun h=>?_) (fun h=>?_))))))))))))))
     ·refine zyR 1 rfl (zcG rfl dc rfl an (zyR 1 rfl (zbs h fun H h=>zaT rfl (k9 (r:=(d.size:Int)-a) (ai _ H)) (zaT rfl zbd (zyR 1 rfl (zyS (s:=25) rfl h (fun h=>?_) (fun h=>?_)))))))
      ·refine zyR 8 rfl (zyN (ir rfl (zyG (zyR 1 rfl (zbf (v:=.agg #[zI a,zI 1,.int .i32 65533,.bool true]) (ps:=[(0,.tmp 34),(1,.const (zI 1)),(2,.const (.int .i32 65533)),(3,.const (.bool true))]) rfl dc rfl (fun _=>by kernel_rfl) (eE (k:=0) (vs:=[zI a,zI 1,.int .i32 65533,.bool true]) (l':=[zI a,zI 1,.int .i32 65533,.bool true]) kM rfl rfl rfl rfl rfl (show _≤_ by simp) rfl rfl (zyN (zaA (bP (cx (bP (cx (bP ?_)))))))))))))
       cases h
       exact eu (rs:=[.cell 4 132]) () (.inl rfl) qi (.cons (.cells lO (k:=0) rfl rfl rfl) .nil) rfl ah
      refine zyR 3 rfl (zbs h fun G h=>zaT rfl (dA (r:=a+3) (ai _ G)) (zbs h fun E h=>iA rfl dc rfl rfl rfl (kA (i:=a) (j:=a+3) an (.inr rfl) (.inr rfl) E) (zaT rfl tE (zyR 2 rfl (zyN (zyB rfl h (fun h=>?_) (fun h=>?_)))))))
      ·refine zyG (zyR 1 rfl (zbf (v:=.agg #[zI a,zI 1,.int .i32 65533,.bool true]) (ps:=[(0,.tmp 34),(1,.const (zI 1)),(2,.const (.int .i32 65533)),(3,.const (.bool true))]) rfl dc rfl (fun _=>by kernel_rfl) (eE (k:=0) (vs:=[zI a,zI 1,.int .i32 65533,.bool true]) (l':=[zI a,zI 1,.int .i32 65533,.bool true]) kM rfl rfl rfl rfl rfl (show _≤_ by simp) rfl rfl (zyN (zaA (bP (cx (bP (cx (bP ?_))))))))))
       cases h
       exact eu (rs:=[.cell 4 132]) () (.inl rfl) qi (.cons (.cells lO (k:=0) rfl rfl rfl) .nil) rfl ah
      exact zap (mD r1 h 1)
     exact zyR 14 rfl (zyN (za8 rfl (zap (mD r1 h 1))))
    rintro n h
    rw[C] at h
    refine zyG (zyR 3 rfl (zbf (v:=.agg #[zI a,zI n,.int .i32 (p1.r:Int),.bool false]) (ps:=[(0,.tmp 36),(1,.tmp 37),(2,.tmp 38)]) rfl dc rfl (fun _=>by kernel_rfl) (eE (k:=0) (vs:=[zI a,zI n,.int .i32 (p1.r:Int),.bool false]) (l':=[zI a,zI n,.int .i32 (p1.r:Int),.bool false]) kM rfl rfl rfl rfl rfl (show _≤_ by simp) rfl rfl (zyN (zaA (cx (bP (cx (bP ?_)))))))))
    cases h
    exact eu (rs:=[.cell 4 132]) () (.inl rfl) qi (.cons (.cells lO (k:=0) rfl rfl rfl) .nil) rfl ah
   have h:=oG e h
   exact uN (k:=1) (m:=0) rfl dc rfl rfl (iS (of_decide_eq_false e)) (eY rfl dc rfl rfl (zyN (zaJ (za8 rfl (dy (bV (bV (dz (mD b2 h 1)))))))))
 rintro b1 h
 rw[D] at h
 refine zyG (zbf (v:=.agg #[zI 0,zI 0,.int .i32 0,.bool false]) (ps:=[]) rfl dc rfl (fun _=>by kernel_rfl) (eE (k:=0) (vs:=[zI 0,zI 0,.int .i32 0,.bool false]) (l':=[zI 0,zI 0,.int .i32 0,.bool false]) kM rfl rfl rfl rfl rfl (show _≤_ by simp) rfl rfl (zyN (zaA ?_))))
 cases h
 exact eu (rs:=[.cell 4 132]) () (.inl rfl) qi (.cons (.cells lO (k:=0) rfl rfl rfl) .nil) rfl ah
def y7 (r1:Int):Option ad := co (fun (j:Int→Option ad)=>aT (va r1) fun (r3:Int)=>aN ((r3:Int)==0) (j 65533) (j r1)) (fun (r2:Int)=>aN (decide ((r2:Int)<128)) (aV (∀x∈([IntKind.u8.wrap r2]:List Int),U8 x) <|some (gj ([IntKind.u8.wrap r2]:List Int))) (aN (decide ((r2:Int)<2048)) (aT (oO r2) fun (i:Int)=>aV (∀x∈([lL .u8 192 (IntKind.u8.wrap (fh .i32 r2 6)),i]:List Int),U8 x) <|some (gj ([lL .u8 192 (IntKind.u8.wrap (fh .i32 r2 6)),i]:List Int))) (aN (decide ((r2:Int)<65536)) (aT (oO (fh .i32 r2 6)) fun (h:Int)=>aT (oO r2) fun (g:Int)=>aV (∀x∈([lL .u8 224 (IntKind.u8.wrap (fh .i32 r2 12)),h,g]:List Int),U8 x) <|some (gj ([lL .u8 224 (IntKind.u8.wrap (fh .i32 r2 12)),h,g]:List Int))) (aT (oO (fh .i32 r2 12)) fun (e:Int)=>aT (oO (fh .i32 r2 6)) fun (d:Int)=>aT (oO r2) fun (a:Int)=>aV (∀x∈([lL .u8 240 (IntKind.u8.wrap (fh .i32 r2 18)),e,d,a]:List Int),U8 x) <|some (gj ([lL .u8 240 (IntKind.u8.wrap (fh .i32 r2 18)),e,d,a]:List Int))))))
theorem Ra {r1:Int} {r:ad} (h:y7 r1=some r):dN prog 117 [.int .i32 r1] (.string r):=by
 unfold y7 at h
 refine dN.intro func117 rfl ntmps117 (by simp) (fun w0 K=>zbq h fun I C h=>zaL (β:=Int) 1 rfl (fun b=>I b=some r) (fun b=>[]) (fun b=>[(0,.int .i32 b)]) (fun b=>[]) (fun cut=>zyG (zyR 1 rfl (zyN (cut (zyG (zyR 1 rfl (zbk h fun r3 w h=>zaI (v:=zI r3) (vs:=[.int .i32 r1]) rfl dc rfl rfl rfl HU (I7 w) (zaT rfl zbm (zyN (zyB rfl h (fun h=>bX (zyR 1 rfl (zaB (cL 65533 h rfl (bI rfl) ah)))) (fun h=>zap (cL r1 h rfl (bI rfl) ah)))))))))))) (fun r2 h=>?_))
 rw[C] at h
 refine zaJ (zat (zyG (zyR 1 rfl (zaT rfl zbd (zyR 1 rfl (zyN (zyB rfl h (fun h=>?_) (fun h=>?_))))))))
 ·refine zyG (zyR 1 rfl (zcH rfl dc rfl (zeW aZ cu) (fx (cs:=[.int .u8 (IntKind.u8.wrap r2)]) (te:=5) (ps:=[(0,.tmp 10)]) rfl dc rfl (fun _=>by kernel_rfl) (fun b1=>nE ([IntKind.u8.wrap r2]:List Int) (k:=0) rfl jE rfl (show 1≤maxLen by decide) (zbs h fun H h=>qQ (k:=0) rfl (uz H) (rC (k:=0) rfl dc rfl rfl cg cu an (zyR 1 rfl (zyN (zaA (cx (bP ?_)))))))))))
  cases h
  exact cX 2 qj
 refine zyG (zyR 1 rfl (zaT rfl zbd (zyR 1 rfl (zyN (zyB rfl h (fun h=>?_) (fun h=>?_))))))
 ·refine zyG (zyR 1 rfl (zaT rfl (rD dc) (zcH rfl dc rfl (zeW aZ cu) (zaT rfl zvx (zyR 1 rfl (zbk h fun j u h=>zaI (v:=.int .u8 j) (vs:=[.int .i32 r2]) rfl dc rfl rfl rfl wm (wW u) (fx (cs:=[.int .u8 (lL .u8 192 (IntKind.u8.wrap (fh .i32 r2 6))),.int .u8 j]) (te:=5) (ps:=[(0,.tmp 19),(1,.tmp 21)]) rfl dc rfl (fun _=>by kernel_rfl) (fun b2=>nE ([lL .u8 192 (IntKind.u8.wrap (fh .i32 r2 6)),j]:List Int) (k:=0) rfl jE rfl (show 2≤maxLen by decide) (zbs h fun G h=>qQ (k:=0) rfl (uz G) (rC (k:=0) rfl dc rfl rfl cg cu an (zyR 1 rfl (zyN (zaA (cx (bP ?_)))))))))))))))
  cases h
  exact cX 2 qj
 refine zyG (zyR 1 rfl (zaT rfl zbd (zyR 1 rfl (zyN (zyB rfl h (fun h=>?_) (fun h=>?_))))))
 ·refine zyG (zyR 1 rfl (zaT rfl (rD dc) (zcH rfl dc rfl (zeW aZ cu) (zaT rfl zvx (zyR 1 rfl (zaT rfl (rD dc) (zbk h fun i t h=>zaI (v:=.int .u8 i) (vs:=[.int .i32 (fh .i32 r2 6)]) rfl dc rfl rfl rfl wm (wW t) (zyR 1 rfl (zbk h fun g s h=>zaI (v:=.int .u8 g) (vs:=[.int .i32 r2]) rfl dc rfl rfl rfl wm (wW s) (fx (cs:=[.int .u8 (lL .u8 224 (IntKind.u8.wrap (fh .i32 r2 12))),.int .u8 i,.int .u8 g]) (te:=5) (ps:=[(0,.tmp 30),(1,.tmp 33),(2,.tmp 35)]) rfl dc rfl (fun _=>by kernel_rfl) (fun M=>nE ([lL .u8 224 (IntKind.u8.wrap (fh .i32 r2 12)),i,g]:List Int) (k:=0) rfl jE rfl (show 3≤maxLen by decide) (zbs h fun E h=>qQ (k:=0) rfl (uz E) (rC (k:=0) rfl dc rfl rfl cg cu an (zyR 1 rfl (zyN (zaA (cx (bP ?_))))))))))))))))))
  cases h
  exact cX 2 qj
 refine zap (cd (zaz (zyG (zyR 1 rfl (zaT rfl (rD dc) (zcH rfl dc rfl (zeW aZ cu) (zaT rfl zvx (zyR 1 rfl (zaT rfl (rD dc) (zbk h fun e n h=>zaI (v:=.int .u8 e) (vs:=[.int .i32 (fh .i32 r2 12)]) rfl dc rfl rfl rfl wm (wW n) (zyR 1 rfl (zaT rfl (rD dc) (zbk h fun d m h=>zaI (v:=.int .u8 d) (vs:=[.int .i32 (fh .i32 r2 6)]) rfl dc rfl rfl rfl wm (wW m) (zyR 1 rfl (zbk h fun a l h=>zaI (v:=.int .u8 a) (vs:=[.int .i32 r2]) rfl dc rfl rfl rfl wm (wW l) (fx (cs:=[.int .u8 (lL .u8 240 (IntKind.u8.wrap (fh .i32 r2 18))),.int .u8 e,.int .u8 d,.int .u8 a]) (te:=5) (ps:=[(0,.tmp 41),(1,.tmp 44),(2,.tmp 47),(3,.tmp 49)]) rfl dc rfl (fun _=>by kernel_rfl) (fun J=>nE ([lL .u8 240 (IntKind.u8.wrap (fh .i32 r2 18)),e,d,a]:List Int) (k:=0) rfl jE rfl (show 4≤maxLen by decide) (zbs h fun D h=>qQ (k:=0) rfl (uz D) (rC (k:=0) rfl dc rfl rfl cg cu an (zyR 1 rfl (zyN (zaA ?_))))))))))))))))))))))
 cases h
 exact cX 2 qj
def zdX (c0:ad) (d:Nat→Option (List cY)) (a:Nat):Option (List cY) := aN (decide (a<(eQ c0.data.toList).length)) (aT ((eQ c0.data.toList)[a]?) fun (p1:Pc)=>aT (wX c0 (p1.i:Int)) fun (r1:cY)=>uB r1 <|d (a+1)) (some [])
def sW (c0:ad):Option (List cY) := zaC (fun _=>none) (zdX c0) zbx 0
theorem y8 {d:Nat} {c0:ad} {xs:(List cY)} (h:sW c0=some xs):sA prog 154 [zP d] (fun q:cY=>[.agg #[zI q.At,zI q.Width,.int .i32 q.Rune,.bool q.Broken]]) xs [(d,.cells #[.string c0] 9 (0,0))]:=by
 unfold sW at h
 refine sA.intro func154 rfl ntmps154 (by simp) (fun l w0 K I X w hy=>?_)
 obtain⟨r0,u⟩:∃r,xs=[]++r:=⟨xs,rfl⟩
 have H:xs=r0:=u
 rw[H] at h
 refine zyG (Ad (i:=0) w dU rfl dc rfl rfl rfl (uL an rfl dc rfl (fun b1=>zyN (zat (eF (β:=Nat×Nat×(List cY)×(List cY)) (fun b=>zaC (fun _=>none) (zdX c0) b.1 b.2.1=some b.2.2.2∧xs=b.2.2.1++b.2.2.2) (fun b=>[]) (fun b=>[(0,.func (.yield l) #[] #[]),(1,zP d),(5,zP b1)]) (fun b=>[I b.2.2.1,obj b1 (.stringIter c0 (mE c0 b.2.1))]) (fun b=>b.1) (zbx,0,([]:List cY),r0) ⟨h,u⟩ rfl (bI rfl) (cp 2) ?_)))))
 rintro⟨C,s,a,D⟩ ⟨h,t⟩
 cases C with
 |zero=>exact ew h
 |succ C=>
  obtain⟨O,j⟩:∃ag,ag=zaC (fun _=>none) (zdX c0) C:=⟨_,rfl⟩
  have h:zdX c0 O s=some D:=by rw[j];exact h
  unfold zdX at h
  refine zyG (tI (b:=decide (s<(eQ c0.data.toList).length)) (fun g=>?_) (fun g=>?_))
  ·have h:=oF g h
   refine zbk h fun p1 M h=>uM (k:=1) (m:=s) (p:=p1) rfl dc rfl rfl M (eY rfl dc rfl rfl (zyN (zaJ (ir rfl (zap (zaz (zat (zyG (eY rfl dc rfl rfl (zyR 1 rfl (zaB (zaz (zyG (zyR 1 rfl (Ad (i:=0) w dU rfl dc rfl rfl rfl (zyR 1 rfl (zbk h fun r1 J h=>zaI (v:=.agg #[zI r1.At,zI r1.Width,.int .i32 r1.Rune,.bool r1.Broken]) (vs:=[.string c0,zI (p1.i:Int)]) rfl dc rfl rfl rfl OR (Q9 J) ?_)))))))))))))))))
   obtain⟨e,G,h⟩:=vR h
   have n:xs=a++r1::e:=by rw[t,G]
   refine vA hy rfl dc rfl n rfl (k:=0) rfl ?_ ?_
   ·have E:xs=(a++[r1])++e:=by rw[n];simp
    refine jW rfl dc rfl km (zyN (za8 rfl (zap (cd ?_))))
    subst j
    exact aD (C,s+1,a++[r1],e) ⟨h,E⟩ 2
   exact jW rfl dc rfl km (zyN (ir rfl (zaA (cx (bP (cx (vB (ds:=[]) a r1 e n (.inl rfl) ah results154 (cp 1))))))))
  have h:=oG g h
  refine uN (k:=1) (m:=s) rfl dc rfl rfl (iS (of_decide_eq_false g)) (eY rfl dc rfl rfl (zyN (zaJ (za8 rfl (dy (bV (bV (dz ?_))))))))
  cases h
  exact xJ (ds:=[]) (.inr rfl) ah results154 (aM I (t.trans (aH _))) (cp 1)
def vc (a:ad):Option ad := some a
theorem y9 {a:ad} {r:ad} (h:vc a=some r):Fn prog 122 [.string a] [] (fun v0:Nat=>.func (.func 154) #[] #[zP v0]) (fun v0=>[cells v0 [.string r] 9]):=by
 unfold vc at h
 refine _root_.Go.Proofs.YtifpjbgnikjglaaGreatDoor.Fn.intro func122 rfl ntmps122 (by simp) (fun w0 K=>zyG (zfq rfl dc rfl (fun b1=>zyR 1 rfl (zyH (zjk (x1:=[]) (x2:=[.tmp 1]) rfl dc rfl rfl (zyR 1 rfl (zyN (zaA ?_))))))))
 cases h
 exact eu (rs:=[.tmp 2]) b1 (.inl rfl) results122 (.cons (.tmp rfl) .nil) rfl (cp 1)
theorem Rb (r:Int) (hv:0≤r∧(r<55296∨(57343<r∧r≤1114111))) (hr:¬r=65533):¬ae r=⟨#[239,191,189]⟩:=by
 intro h
 obtain⟨n,rfl⟩:=Int.eq_ofNat_of_zero_le hv.1
 have h1:encodeRune ((n:Nat):Int)=[239,191,189]:=by rw[←nF,h]
 have h2:=AZ n (by omega) []
 have h3:=AZ 65533 (by omega) []
 rw[h1] at h2
 rw[CU] at h3
 rw[h2] at h3
 have:=(Prod.mk.inj h3).1
 omega
theorem I9 (r:Int) (hv:vr r):va r=some ((ae r).size:Int):=by
 unfold va
 refine cB ?_
 by_cases h:r=65533
 ·exact bM (bne_eq_false_iff_eq.2 h) rfl
 ·exact bS (cQ.2 h) (bM (al (Rb r (by unfold vr at hv;omega) h)) rfl)
theorem Rc (s:ad) (a:Nat) (ha:a<s.size) (hsz:s.size≤9223372036854775000):wX s (a:Int)=some (gI ⟨a,(decodeL (s.data.toList.drop a)).2,(decodeL (s.data.toList.drop a)).1⟩):=by
 unfold wX
 obtain⟨F,C,_⟩:=wD 1 (by omega)
 rw[C]
 refine cB (gO ?_)
 rw[gk]
 generalize zaC _ _ F=ag
 unfold zgZ
 have j:s.data.toList.drop a≠[]:=by
  intro h;have:=aM gq h;simp at this;omega
 have i:=xR _ j
 have t:(s.data.toList.drop a).length=s.size-a:=by simp
 have v:=i.le
 have e:(cO s (a:Int) (s.size:Int)).data.toList=s.data.toList.drop a:=by unfold cO;exact M1 s a
 have hp:eQ (cO s (a:Int) (s.size:Int)).data.toList=⟨0,(decodeL (s.data.toList.drop a)).2,(decodeL (s.data.toList.drop a)).1⟩::nn (0+(decodeL (s.data.toList.drop a)).2) ((s.data.toList.drop a).drop (decodeL (s.data.toList.drop a)).2):=by
  rw[e];unfold eQ;rw[sF _ _ j]
 have l:vr ((decodeL (s.data.toList.drop a)).1:Int):=by have:=i.valid;unfold vr;omega
 refine bS (ax (by rw[hp];simp)) (aY (by rw[hp];rfl) (cB (aY (I9 _ l) ?_)))
 simp only
 unfold gI Pc.broken
 have n:=i.width
 have k:=i.lost_ok
 have m:=i.lost_bad
 generalize decodeL (s.data.toList.drop a)=d at *
 rcases d with⟨r,w⟩
 simp only at *
 by_cases hr:r=65533
 ·subst hr
  refine bS (by decide) (gO ?_)
  by_cases h3:(s.size:Int)-a<3
  ·refine bS (ax h3) ?_
   have g:w=1:=by
    by_cases g:w=1
    ·exact g
    ·have:=(k rfl g).2;omega
   subst g;rfl
  ·have u:=Eb s a 3
   refine bM (al h3) (gO (gO ?_))
   by_cases g:w=1
   ·refine bS ?_ (by subst g;rfl)
    rw[al]
    ·rfl
    ·intro h
     exact m rfl g (by rw[←u];exact aM (fun b:ad=>b.data.toList) h)
   ·obtain⟨D,h5⟩:=k rfl g
    refine bM ?_ ?_
    ·rw[ax]
     ·rfl
     ·apply _root_.ByteArray.ext;apply fA.1;rw[show ((a:Int)+3)=(a:Int)+(3:Nat) from rfl,u,D]
    ·rw[xN,n (by omega)]
     subst h5;rfl
 ·refine bM (by rw[aC];omega) ?_
  rw[xN,n (by omega)]
  have:(r==65533&&w==1)=false:=by simp[hr]
  rw[this]
theorem za (s:ad) (l:s.size≤2147483648):sW s=some ((eQ s.data.toList).map gI):=by
 unfold sW
 have hc:(eQ s.data.toList).length≤s.size:=by have:=vP s;unfold eH at this;simpa using this
 have key:∀ (n k:Nat),k≤(eQ s.data.toList).length→(eQ s.data.toList).length-k<n→zaC (fun _=>none) (zdX s) n k=some (((eQ s.data.toList).drop k).map gI):=by
  intro n
  induction n with
  |zero=>intro k _ h;omega
  |succ n e=>
   intro k hk m
   rw[gk]
   generalize zaC (fun _=>none) (zdX s) n=ag at e ⊢
   unfold zdX
   by_cases h:k<(eQ s.data.toList).length
   ·have hx:(eQ s.data.toList)[k]?=some (eQ s.data.toList)[k]:=aJ h
    have hm:=aP hx
    generalize (eQ s.data.toList)[k]=p at hx hm
    obtain⟨g1,g2,a⟩:=uH s.data.toList p hm
    have g:s.data.toList.length=s.size:=by rw[cU];rfl
    have j:=a.pos
    have hr:wX s (p.i:Int)=some (gI p):=by
     have:=Rc s p.i (by omega) (by omega)
     rw[this]
     have he:=a.eq
     rw[he]
    refine bS (ax h) (aY hx (aY hr ?_))
    rw[e (k+1) (by omega) (by omega)]
    have hd:(eQ s.data.toList).drop k=p::(eQ s.data.toList).drop (k+1):=by
     obtain⟨d,he⟩:=au.1 hx
     rw[←he];exact aR d
    rw[hd];rfl
   ·have:k=(eQ s.data.toList).length:=by omega
    subst this
    exact fC (by rw[gp];rfl)
 have:=key zbx 0 (bG _) (by unfold zbx;omega)
 simpa using this
end Go.Proofs.YtifpjbgnikjglaaGreatDoor
