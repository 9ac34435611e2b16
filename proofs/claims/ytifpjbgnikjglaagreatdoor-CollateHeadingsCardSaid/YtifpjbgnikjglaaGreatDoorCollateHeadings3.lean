/-
  Texts laid together: LfA, PlA, Ql, LfF, LfG, LfP, LfT, Qt, PlB, Qa, Qb, Qc, Qd, LfR, Qr. Nothing is assumed.
-/
import Derived.Test.YtifpjbgnikjglaaGreatDoorCollateHeadings2
set_option maxRecDepth 100000
set_option maxHeartbeats 4000000
namespace Go.Proofs.YtifpjbgnikjglaaGreatDoor
abbrev zI (x : Int) : Value := .int .i64 x
abbrev zP (x : Nat) : Value := .pointer (some ⟨x, 0, none⟩)
end Go.Proofs.YtifpjbgnikjglaaGreatDoor
namespace Go.Proofs.YtifpjbgnikjglaaGreatDoor
open Go.RowKit Go.Lib
open Tryz
set_option linter.unusedVariables false
set_option linter.unusedSimpArgs false
open _root_.Array renaming toList_inj→fv,length_toList→dJ
open _root_.Bool renaming or_false→mv,and_eq_true→aN
open _root_.Go.IntWalk renaming i64_in→ai,i32_in→ee
open _root_.Go.Proofs.Tryz renaming results132→pP,results133→mO,underlying21→aZ,underlying5→dv,underlying46→cO,underlying9→al,underlying129→cI,underlying135→mu,underlying137→iB,underlying103→bo,underlying77→aF,results149→dD,underlying127→jF,results155→pQ,results117→pR
open _root_.Go.Proofs.YtifpjbgnikjglaaGreatDoor renaming dl→fU
open fp renaming nil→oz
open bW renaming nil→ce
open c9 renaming nil→io
open am renaming nil→ah
open Vw renaming get→bX
open evL renaming cons→da,nil→eJ
open evP renaming cons→fF,nil→qg
open aP renaming one1→aQ
open _root_.Go.Utf8 renaming encode→ac
open _root_.Go.Value renaming bool→ay,int→aC,agg→bj
open _root_.Int renaming tmod→mc,tdiv→qS
open _root_.List renaming range→eV,cons_append→bq,drop_drop→fa,all_eq_true→bd,replicate→bF,length_map→ar,getElem?_eq_getElem→aO,mem_cons→aY,not_mem_nil→cX,getElem?_eq_some_iff→az,drop_eq_getElem_cons→bB,foldl_cons→bn,drop_length→gg,findSome?_cons→dp,append_nil→aE,nil_append→aW,getD_eq_getElem?_getD→cB,take_append_drop→bO,length→fu,getElem?_map→bT,any_cons→jb,mem_cons_self→aq,mem_cons_of_mem→ak,flatMap_cons→aK,map_cons→av,mem_of_getElem?→aL,takeWhile_cons→aV,length_cons→ab,dropWhile_cons→cC,filter_cons→ix,length_append→aa,mem_append→bH,mem_filter→co,drop_left→gV,take_of_length_le→dX,take_left→jZ,length_nil→aI
open _root_.List.cons renaming inj→mM
open _root_.Nat renaming lt_succ_self→cq,zero_le→cm,le_of_not_lt→iG
open _root_.Option renaming map_eq_some_iff→cS
open _root_.Option.some renaming injEq→fL
open _root_.Or renaming inr→jf
open _root_.Prod renaming fst→bv
open _root_.Prod.mk renaming injEq→nB
theorem zaT {F:Fence} {P:Program} {w0:World} {K:Nat→Prop} {N:Nat} {dfs:List Deferred} {Q:Exit→Act→World→Prop} {σ:List (Nat×Value)} {L:List Asn} {ops:Array Oper} {d:List (Nat×Nat×Value)} {D:Nat→Prop} (m:Nat) {i t:Nat} {v:Value} (hu:iW (d.map (fun p=>p.2.1))=true) (hi:iW (d.map (fun p=>p.1))=true) (hm:d[m]?=some (i,t,v):=by exact rfl) :
    TO F P w0 K N dfs ops (_root_.Go.Exit.then (fun a w=>At N dfs (fU (fun j=>D j∨j=i) d++σ) a∧Holds w0 K L w) Q) [] ((t,v)::(fU D d++σ)) L:=zJ m hu hi hm
theorem cZ {P:Program} {F:Fence} {w0:World} {K:Nat→Prop} {N:Nat} {σ:List (Nat×Value)} {L:List Asn} {fn:Func} {V:Unit→Value} {d:Unit→List Asn} {v:Value} (n:Nat) (a:fn.results=#[.tmp n]) (e:σ.lookup n=some v:=by rfl) (hv:v=V ():=by rfl) (hB:d ()=[]:=by rfl) :
    TX w0 K N [] (bodyPostM F 0 P fn (FR P V d w0 K)) .ret σ L :=
  eB (rs:=[.tmp n]) () (.inl rfl) a (.cons (.tmp e) .nil) hv (by rw[hB];exact ah)
theorem V7 {R a d:List Asn} {A:Asn} (k:Nat) (h:o0 R a d) (e:oE R [k]=some [A]:=by kernel_rfl):o0 R a (A::d):=.own (cg [k] e rfl) (fun _ _ h=>aQ.1 h) h
theorem bC {D:Nat→Prop} {S:Nat→Prop} [DecidablePred S] {σ:List (Nat×Value)} {a:List (Nat×Nat×Value)} {i t:Nat} {v:Value} (m:Nat) (hu:iW (a.map (fun p=>p.2.1))=true) (hd:∀j,S j→D j) (hm:a[m]?=some (i,t,v):=by exact rfl) (d:decide (S i)=true:=by exact rfl):(dl D a++σ).lookup t=some v:=jG hu hm (hd i (of_decide_eq_true d))
theorem bE {σ:List (Nat×Value)}:∀ {a:List (Nat×Value)},a.map (fun p=>σ.lookup p.1)=a.map (fun p=>some p.2)→qn σ a
  |[],_=>qo
  |(t,v)::a,h=>BX (mM h).1 (bE (mM h).2)
theorem zbt {c:Prop} [Decidable c] {R:Type} {o:Option R} {r:R} {Q:Prop} (h:aU c o=some r) (k:c→o=some r→Q):Q:=k (FO h).1 (FO h).2
theorem zbl {S R:Type} {p:Option S} {f:S→Option R} {r:R} {Q:Prop} (h:aT p f=some r) (k:∀a,p=some a→f a=some r→Q):Q:=let ⟨a,x,y⟩:=LV h;k a x y
theorem zbp {T R:Type} {t:T→Option R} {k:T} {r:R} {Q:Prop} (h:cn t k=some r) (f:∀j,j=k→t j=some r→Q):Q:=let ⟨a,x,y⟩:=LZ h;f a x y
theorem Px (n:Nat):n<n+1:=cq n
theorem mD {w0:World} {K:Nat→Prop} {N:Nat} {dfs:List Deferred} {Q:Exit→Act→World→Prop} {σ:List (Nat×Value)} {L:List Asn} {β:Type} {I:β→Prop} {d:β→List Deferred} {a:β→List (Nat×Value)} {e:β→List Asn} (b:β) (j:I b) (n:Nat) (hd:dfs=d b:=by rfl) (g:(a b).map (fun p=>σ.lookup p.1)=(a b).map (fun p=>some p.2):=by rfl) (h:oE L (eV n)=some (e b):=by kernel_rfl) (i:rT (eV n)=true:=by rfl) :
    TX w0 K N dfs (_root_.Go.Exit.then (B9 w0 K N I d a e) Q) .normal σ L:=cH b j hd (bE g) (cg _ h i)
theorem aD {w0:World} {K:Nat→Prop} {N:Nat} {dfs:List Deferred} {Q:Exit→Act→World→Prop} {σ:List (Nat×Value)} {L:List Asn} {β:Type} {I:β→Prop} {e:β→List Deferred} {d:β→List (Nat×Value)} {g:β→List Asn} {μ:β→Nat} {b:β} (a:β) (l:I a) (n:Nat) (j:μ a<μ b:=by exact Px _) (hd:dfs=e a:=by rfl) (i:(d a).map (fun p=>σ.lookup p.1)=(d a).map (fun p=>some p.2):=by rfl) (h:oE L (eV n)=some (g a):=by kernel_rfl) (k:rT (eV n)=true:=by rfl) :
    TX w0 K N dfs (_root_.Go.Exit.then (B2 w0 K N I e d g μ b) Q) .normal σ L:=ni a l j hd (bE i) (cg _ h k)
theorem cj {L As:List Asn} (n:Nat) (h:oE L (eV n)=some As:=by kernel_rfl) (hd:rT (eV n)=true:=by rfl):am L As (w7 L (eV n)):=cg _ h hd
theorem ln {α:Type} {a0 a1:α} {l l':List α} (h:l=l'):a0::a1::l=a0::a1::l':=by rw[h]
theorem su {α:Type} {a0 a1 a:α} {l l':List α} (h:l=l'):a0::a1::a::l=a0::a1::a::l':=by rw[h]
theorem nN {α:Type} {a0 a1 d a:α} {l l':List α} (h:l=l'):a0::a1::d::a::l=a0::a1::d::a::l':=by rw[h]
theorem vW {α:Type} {a0 a1 e d a:α} {l l':List α} (h:l=l'):a0::a1::e::d::a::l=a0::a1::e::d::a::l':=by rw[h]
theorem pw {α:Type} {a0 a1 g e d a:α} {l l':List α} (h:l=l'):a0::a1::g::e::d::a::l=a0::a1::g::e::d::a::l':=by rw[h]
theorem V8 {α:Type} {a0 a1 i g e d a:α} {l l':List α} (h:l=l'):a0::a1::i::g::e::d::a::l=a0::a1::i::g::e::d::a::l':=by rw[h]
theorem nO {α:Type} {a0 a1 j i g e d a:α} {l l':List α} (h:l=l'):a0::a1::j::i::g::e::d::a::l=a0::a1::j::i::g::e::d::a::l':=by rw[h]
theorem V9 {α:Type} {a0 a1 k j i g e d a:α} {l l':List α} (h:l=l'):a0::a1::k::j::i::g::e::d::a::l=a0::a1::k::j::i::g::e::d::a::l':=by rw[h]
theorem Wa {α:Type} {a0 a1 m k j i g e d a:α} {l l':List α} (h:l=l'):a0::a1::m::k::j::i::g::e::d::a::l=a0::a1::m::k::j::i::g::e::d::a::l':=by rw[h]
theorem Wb {α:Type} {a0 a1 n m k j i g e d a:α} {l l':List α} (h:l=l'):a0::a1::n::m::k::j::i::g::e::d::a::l=a0::a1::n::m::k::j::i::g::e::d::a::l':=by rw[h]
theorem Wc {α:Type} {a0 a1 s n m k j i g e d a:α} {l l':List α} (h:l=l'):a0::a1::s::n::m::k::j::i::g::e::d::a::l=a0::a1::s::n::m::k::j::i::g::e::d::a::l':=by rw[h]
theorem De {D:Nat→Prop} {e t0 d t1:Nat} {v0 v1:Value} {r a:List (Nat×Nat×Value)} (h:dl D r=dl D a):dl D ((e,t0,v0)::(d,t1,v1)::r)=dl D ((e,t0,v0)::(d,t1,v1)::a):=dV (fun _=>rfl) (dV (fun _=>rfl) h)
theorem AD {D:Nat→Prop} {i t0 g t1 e t2:Nat} {v0 v1 a:Value} {r d:List (Nat×Nat×Value)} (h:dl D r=dl D d):dl D ((i,t0,v0)::(g,t1,v1)::(e,t2,a)::r)=dl D ((i,t0,v0)::(g,t1,v1)::(e,t2,a)::d):=dV (fun _=>rfl) (dV (fun _=>rfl) (dV (fun _=>rfl) h))
theorem Py {D:Nat→Prop} {k t0 j t1 i t2 g t3:Nat} {v0 v1 d a:Value} {r e:List (Nat×Nat×Value)} (h:dl D r=dl D e):dl D ((k,t0,v0)::(j,t1,v1)::(i,t2,d)::(g,t3,a)::r)=dl D ((k,t0,v0)::(j,t1,v1)::(i,t2,d)::(g,t3,a)::e):=dV (fun _=>rfl) (dV (fun _=>rfl) (dV (fun _=>rfl) (dV (fun _=>rfl) h)))
theorem Df {D:Nat→Prop} {m t0 l t1 k t2 j t3 i t4:Nat} {v0 v1 e d a:Value} {r g:List (Nat×Nat×Value)} (h:dl D r=dl D g):dl D ((m,t0,v0)::(l,t1,v1)::(k,t2,e)::(j,t3,d)::(i,t4,a)::r)=dl D ((m,t0,v0)::(l,t1,v1)::(k,t2,e)::(j,t3,d)::(i,t4,a)::g):=dV (fun _=>rfl) (dV (fun _=>rfl) (dV (fun _=>rfl) (dV (fun _=>rfl) (dV (fun _=>rfl) h))))
theorem Dh {D:Nat→Prop} {s t0 n t1 m t2 l t3 k t4 j t5:Nat} {v0 v1 g e d a:Value} {r i:List (Nat×Nat×Value)} (h:dl D r=dl D i):dl D ((s,t0,v0)::(n,t1,v1)::(m,t2,g)::(l,t3,e)::(k,t4,d)::(j,t5,a)::r)=dl D ((s,t0,v0)::(n,t1,v1)::(m,t2,g)::(l,t3,e)::(k,t4,d)::(j,t5,a)::i):=dV (fun _=>rfl) (dV (fun _=>rfl) (dV (fun _=>rfl) (dV (fun _=>rfl) (dV (fun _=>rfl) (dV (fun _=>rfl) h)))))
theorem Di {D:Nat→Prop} {u t0 t t1 s t2 n t3 m t4 l t5 k t6:Nat} {v0 v1 i g e d a:Value} {r j:List (Nat×Nat×Value)} (h:dl D r=dl D j):dl D ((u,t0,v0)::(t,t1,v1)::(s,t2,i)::(n,t3,g)::(m,t4,e)::(l,t5,d)::(k,t6,a)::r)=dl D ((u,t0,v0)::(t,t1,v1)::(s,t2,i)::(n,t3,g)::(m,t4,e)::(l,t5,d)::(k,t6,a)::j):=dV (fun _=>rfl) (dV (fun _=>rfl) (dV (fun _=>rfl) (dV (fun _=>rfl) (dV (fun _=>rfl) (dV (fun _=>rfl) (dV (fun _=>rfl) h))))))
theorem Dj {D:Nat→Prop} {w t0 v t1 u t2 t t3 s t4 n t5 m t6 l t7:Nat} {v0 v1 j i g e d a:Value} {r k:List (Nat×Nat×Value)} (h:dl D r=dl D k):dl D ((w,t0,v0)::(v,t1,v1)::(u,t2,j)::(t,t3,i)::(s,t4,g)::(n,t5,e)::(m,t6,d)::(l,t7,a)::r)=dl D ((w,t0,v0)::(v,t1,v1)::(u,t2,j)::(t,t3,i)::(s,t4,g)::(n,t5,e)::(m,t6,d)::(l,t7,a)::k):=dV (fun _=>rfl) (dV (fun _=>rfl) (dV (fun _=>rfl) (dV (fun _=>rfl) (dV (fun _=>rfl) (dV (fun _=>rfl) (dV (fun _=>rfl) (dV (fun _=>rfl) h)))))))
theorem We {D:Nat→Prop} {E t0 C t1 w t2 v t3 u t4 t t5 s t6 n t7 m t8:Nat} {v0 v1 k j i g e d a:Value} {r l:List (Nat×Nat×Value)} (h:dl D r=dl D l):dl D ((E,t0,v0)::(C,t1,v1)::(w,t2,k)::(v,t3,j)::(u,t4,i)::(t,t5,g)::(s,t6,e)::(n,t7,d)::(m,t8,a)::r)=dl D ((E,t0,v0)::(C,t1,v1)::(w,t2,k)::(v,t3,j)::(u,t4,i)::(t,t5,g)::(s,t6,e)::(n,t7,d)::(m,t8,a)::l):=dV (fun _=>rfl) (dV (fun _=>rfl) (dV (fun _=>rfl) (dV (fun _=>rfl) (dV (fun _=>rfl) (dV (fun _=>rfl) (dV (fun _=>rfl) (dV (fun _=>rfl) (dV (fun _=>rfl) h))))))))
theorem Pz {D:Nat→Prop} {H t0 G t1 E t2 C t3 w t4 v t5 u t6 t t7 s t8 n t9:Nat} {v0 v1 l k j i g e d a:Value} {r m:List (Nat×Nat×Value)} (h:dl D r=dl D m):dl D ((H,t0,v0)::(G,t1,v1)::(E,t2,l)::(C,t3,k)::(w,t4,j)::(v,t5,i)::(u,t6,g)::(t,t7,e)::(s,t8,d)::(n,t9,a)::r)=dl D ((H,t0,v0)::(G,t1,v1)::(E,t2,l)::(C,t3,k)::(w,t4,j)::(v,t5,i)::(u,t6,g)::(t,t7,e)::(s,t8,d)::(n,t9,a)::m):=dV (fun _=>rfl) (dV (fun _=>rfl) (dV (fun _=>rfl) (dV (fun _=>rfl) (dV (fun _=>rfl) (dV (fun _=>rfl) (dV (fun _=>rfl) (dV (fun _=>rfl) (dV (fun _=>rfl) (dV (fun _=>rfl) h)))))))))
theorem tx {D:Nat→Prop} {J t0 I t1 H t2 G t3 E t4 C t5 w t6 v t7 u t8 t t9 d t10:Nat} {v0 v1 n m l k j i g e a:Value} {r s:List (Nat×Nat×Value)} (h:dl D r=dl D s):dl D ((J,t0,v0)::(I,t1,v1)::(H,t2,n)::(G,t3,m)::(E,t4,l)::(C,t5,k)::(w,t6,j)::(v,t7,i)::(u,t8,g)::(t,t9,e)::(d,t10,a)::r)=dl D ((J,t0,v0)::(I,t1,v1)::(H,t2,n)::(G,t3,m)::(E,t4,l)::(C,t5,k)::(w,t6,j)::(v,t7,i)::(u,t8,g)::(t,t9,e)::(d,t10,a)::s):=dV (fun _=>rfl) (dV (fun _=>rfl) (dV (fun _=>rfl) (dV (fun _=>rfl) (dV (fun _=>rfl) (dV (fun _=>rfl) (dV (fun _=>rfl) (dV (fun _=>rfl) (dV (fun _=>rfl) (dV (fun _=>rfl) (dV (fun _=>rfl) h))))))))))
theorem uq {D:Nat→Prop} {O t0 M t1 J t2 I t3 H t4 G t5 E t6 C t7 w t8 v t9 g t10 e t11:Nat} {v0 v1 t s n m l k j i d a:Value} {r u:List (Nat×Nat×Value)} (h:dl D r=dl D u):dl D ((O,t0,v0)::(M,t1,v1)::(J,t2,t)::(I,t3,s)::(H,t4,n)::(G,t5,m)::(E,t6,l)::(C,t7,k)::(w,t8,j)::(v,t9,i)::(g,t10,d)::(e,t11,a)::r)=dl D ((O,t0,v0)::(M,t1,v1)::(J,t2,t)::(I,t3,s)::(H,t4,n)::(G,t5,m)::(E,t6,l)::(C,t7,k)::(w,t8,j)::(v,t9,i)::(g,t10,d)::(e,t11,a)::u):=dV (fun _=>rfl) (dV (fun _=>rfl) (dV (fun _=>rfl) (dV (fun _=>rfl) (dV (fun _=>rfl) (dV (fun _=>rfl) (dV (fun _=>rfl) (dV (fun _=>rfl) (dV (fun _=>rfl) (dV (fun _=>rfl) (dV (fun _=>rfl) (dV (fun _=>rfl) h)))))))))))
def vX (a:Nat→Option Value):Operand→Option Value
  |.tmp t=>a t
  |.const v=>some v
  |.func f=>some (.func (.func f) #[] #[])
  |.global _=>none
def AE (a:Nat→Option Value) (ops:Array Oper):Option (Nat×Bool)→Option Bool
  |none=>some true
  |some (j,b)=>match (ops[j]?).bind (·.dst) with
    |some t=>match a t with
      |some (.bool c)=>some (c==b)
      |some (.tuple _)=>some false
      |_=>none
    |none=>none
def xO (a:Nat→Option Value) (N:Nat) (ops:Array Oper) (o:Oper):Option (Nat×Value) :=
  match o.dst with
  |none=>none
  |some d=>match Nat.blt d N with
    |false=>none
    |true=>match AE a ops o.guard with
      |none=>none
      |some false=>some (d,undef)
      |some true=>match o.op with
        |.move x=>match vX a x with
          |some v=>some (d,v)
          |none=>none
        |.assign x=>match vX a x with
          |some v=>some (d,v)
          |none=>none
        |.pick x y z=>match vX a x with
          |some (.bool true)=>match vX a y with
            |some v=>some (d,v)
            |none=>none
          |some (.bool false)=>match vX a z with
            |some v=>some (d,v)
            |none=>none
          |_=>none
        |_=>none
theorem vY {a:Nat→Option Value} {S:List (Nat×Value)} (d:∀t v,a t=some v→S.lookup t=some v) {x:Operand} {v:Value} (h:vX a x=some v):ev S x=some v:=by
  cases x with
  |tmp t=>exact d t v h
  |const c=>exact h
  |func f=>exact h
  |global g=>exact h
theorem PA {a:Nat→Option Value} {S:List (Nat×Value)} {ops:Array Oper} (d:∀t v,a t=some v→S.lookup t=some v) {g:Option (Nat×Bool)} {r:Bool} (h:AE a ops g=some r):gd ops S g=some r:=by
  cases g with
  |none=>exact h
  |some p=>
    obtain⟨j,b⟩:=p
    unfold AE at h;unfold gd
    dsimp only at h ⊢
    cases ht:(ops[j]?).bind (·.dst) with
    |none=>rw[ht] at h;cases h
    |some t=>
      rw[ht] at h;dsimp only at h ⊢
      cases hk:a t with
      |none=>rw[hk] at h;cases h
      |some v=>rw[hk] at h;rw[d t v hk];exact h
theorem AF {F:Fence} [br F] {P:Program} {w0:World} {K:Nat→Prop} {N:Nat} {dfs:List Deferred} {ops:Array Oper} {Q:Exit→Act→World→Prop} {rest:List Oper} {j:Nat→Option Value} {S:List (Nat×Value)} {L:List Asn} {o:Oper} {t:Nat} {v:Value}
    (i:∀t v,j t=some v→S.lookup t=some v) (e:xO j N ops o=some (t,v)) (h:TO F P w0 K N dfs ops Q rest ((t,v)::S) L):TO F P w0 K N dfs ops Q (o::rest) S L:=by
  obtain⟨dst,op,m,pos,l,g⟩:=o
  unfold xO at e
  cases dst with
  |none=>cases e
  |some d=>
    dsimp only at e
    cases hb:Nat.blt d N with
    |false=>rw[hb] at e;cases e
    |true=>
    have hd:d<N:=Nat.lt_of_lt_of_le (cq d) (Nat.le_of_ble_eq_true hb)
    rw[hb] at e;dsimp only at e
    cases hg:AE j ops g with
    |none=>rw[hg] at e;cases e
    |some k=>
      rw[hg] at e
      have a:=PA i hg
      cases k with
      |false=>cases e;exact Ly a hd h
      |true=>
        cases op<;>dsimp only at e<;>first|(cases e;done)|skip
        · split at e
          · cases e;exact BZ a hd (vY i (by assumption)) h
          · cases e
        · split at e
          · cases e;exact LA a hd (vY i (by assumption)) h
          · cases e
        · split at e
          · split at e
            · cases e;exact Fx (b:=true) a hd (vY i (by assumption)) (vY i (by assumption)) h
            · cases e
          · split at e
            · cases e;exact Fx (b:=false) a hd (vY i (by assumption)) (vY i (by assumption)) h
            · cases e
          · cases e
def Dk (N:Nat) (ops:Array Oper):Nat→List Oper→List (Nat×Value)→Option (List Oper×List (Nat×Value))
  |0,r,σ=>some (r,σ)
  |n+1,o::r,σ=>match xO (fun t=>σ.lookup t) N ops o with
    |some p=>Dk N ops n r (p::σ)
    |none=>none
  |_+1,[],_=>none
theorem zyR {F:Fence} [br F] {P:Program} {w0:World} {K:Nat→Prop} {N:Nat} {dfs:List Deferred} {ops:Array Oper} {Q:Exit→Act→World→Prop} {L:List Asn} (n:Nat):∀ {rest a:List Oper} {σ d:List (Nat×Value)},
    Dk N ops n rest σ=some (a,d)→TO F P w0 K N dfs ops Q a d L→TO F P w0 K N dfs ops Q rest σ L:=by
  induction n with
  |zero=>intro rest a σ d e h;cases e;exact h
  |succ n g=>
    intro rest a σ d e h
    cases rest with
    |nil=>cases e
    |cons o r=>
      simp only[Dk] at e
      split at e
      · exact AF (fun _ _ h=>h) (by assumption) (g e h)
      · cases e
def xP (a:List Nat) (σ:List (Nat×Value)) (t:Nat):List (Nat×Nat×Value)→Option Value
  |[]=>σ.lookup t
  |(i,t',v)::r=>match Nat.beq t t' with
    |true=>match a.contains i with
      |true=>some v
      |false=>none
    |false=>xP a σ t r
theorem AG {D:Nat→Prop} {a:List Nat} {σ:List (Nat×Value)} (hd:∀j∈a,D j) (t:Nat) (v:Value):∀ {d:List (Nat×Nat×Value)},xP a σ t d=some v→(dl D d++σ).lookup t=some v
  |[],h=>h
  |(i,t',v')::r,h=>by
    unfold xP at h
    cases hb:Nat.beq t t' with
    |true=>
      rw[hb] at h;dsimp only at h
      have e:t=t':=Nat.eq_of_beq_eq_true hb
      subst e
      split at h
      · cases h
        have l:D i:=hd i (by simpa using (by assumption:a.contains i=true))
        simp only[dl]
        rw[ax l]
        simp
      · cases h
    |false=>
      rw[hb] at h;dsimp only at h
      have g:=AG (σ:=σ) hd t v h
      have k:(t==t')=false:=by
        have:t≠t':=Nat.ne_of_beq_eq_false hb
        simpa using this
      simp only[dl]
      split
      · simp only[bq,List.lookup,k];exact g
      · exact g
def sv (N:Nat) (ops:Array Oper) (σ:List (Nat×Value)) (a:List (Nat×Nat×Value)):Nat→List Oper→Nat→Option (List Oper×Nat×List (Nat×Nat×Value))
  |0,r,i=>some (r,i,[])
  |n+1,o::r,i=>match xO (fun t=>xP (jo o) σ t a) N ops o with
    |some p=>match sv N ops σ a n r (i+1) with
      |some q=>some (q.1,q.2.1,(i,p.1,p.2)::q.2.2)
      |none=>none
    |none=>none
  |_+1,[],_=>none
section
variable {F:Fence} {P:Program} {w0:World} {K:Nat→Prop} {N:Nat} {dfs:List Deferred} {Q:Exit→Act→World→Prop} {σ:List (Nat×Value)} {L:List Asn} {ops:Array Oper}
theorem AH {a:List (Nat×Nat×Value)} {n m i h:Nat} {o:Oper} {r d:List Oper} (e:sv N ops σ a (n+1) (o::r) i=some (d,h,(a.drop m).take (n+1))) :
    ∃t v,xO (fun t=>xP (jo o) σ t a) N ops o=some (t,v)∧a[m]?=some (i,t,v)∧sv N ops σ a n r (i+1)=some (d,h,(a.drop (m+1)).take n):=by
  simp only[sv] at e
  split at e
  · rename_i p hp
    split at e
    · rename_i q j
      obtain⟨q1,q2,k⟩:=q
      simp only[fL,nB] at e
      obtain⟨rfl,rfl,e⟩:=e
      cases g:a.drop m with
      |nil=>rw[g] at e;simp at e
      |cons x xs=>
        rw[g,List.take_succ_cons,List.cons.injEq] at e
        have hm:a[m]?=some x:=by
          have:(a.drop m)[0]?=some x:=by rw[g];rfl
          simpa using this
        refine⟨p.1,p.2,hp,by rw[hm,←e.1],?_⟩
        have:a.drop (m+1)=xs:=by rw[←fa,g];rfl
        rw[this,←e.2];exact j
    · cases e
  · cases e
theorem zyP [br F] {d:List (Nat×Nat×Value)} (n m:Nat):∀ {l a:List Oper} {i g:Nat},sv N ops σ d n l i=some (a,g,(d.drop m).take n) →
    bW F P w0 K N dfs Q ops σ L d a g→bW F P w0 K N dfs Q ops σ L d l i:=by
  induction n generalizing m with
  |zero=>intro l a i g e h;cases e;exact h
  |succ n j=>
    intro l a i g e h
    cases l with
    |nil=>cases e
    |cons o r=>
      obtain⟨t,v,h1,h2,h3⟩:=AH e
      exact zae (fun D s hd k hu hi=>AF (fun t v h=>AG hd t v h) h1 (zJ m hu hi h2)) (j (m+1) h3 h)
theorem AJ [br F] {d:List (Nat×Nat×Value)} {x:Nat} (n m:Nat):∀ {l a:List Oper} {i g:Nat},sv N ops σ d n l i=some (a,g,(d.drop m).take n) →
    c9 F P w0 K N dfs Q ops σ L d x a g→c9 F P w0 K N dfs Q ops σ L d x l i:=by
  induction n generalizing m with
  |zero=>intro l a i g e h;cases e;exact h
  |succ n j=>
    intro l a i g e h
    cases l with
    |nil=>cases e
    |cons o r=>
      obtain⟨t,v,h1,h2,h3⟩:=AH e
      exact gE (fun D s hd k hu hi=>AF (fun t v h=>AG hd t v h) h1 (zJ m hu hi h2)) (j (m+1) h3 h)
def tz {β:Type} (S:List Nat) (a:(Nat→Prop)→β→List Asn):Prop:=∀i,S.contains i=false→∀D b,a (fun j=>D j∨j=i) b=a D b
theorem qC {D:Nat→Prop} {i:Nat} {base:Asn} {r:List (Nat×Asn)} {S:List Nat} (a:(r.map bv).all (fun x=>S.contains x)=true) (h:S.contains i=false):eD (fun j=>D j∨j=i) base r=eD D base r:=by
  refine ir ?_
  cases hc:(r.map bv).contains i with
  |false=>rfl
  |true=>
    have h1:i∈r.map bv:=by simpa using hc
    have h2:=bd.1 a i h1
    have h3:S.contains i=true:=h2
    rw[h] at h3;cases h3
theorem Dm {β:Type} {a:β→List (Nat×Nat×Value)} {d:(Nat→Prop)→β→List Asn} (hb:¬Nonempty β):∀ (l:List Oper) (i:Nat),fp F P w0 K N dfs Q ops σ a d l i
  |[],_=>trivial
  |o::r,i=>⟨fun D b=>absurd ⟨b⟩ hb,Dm hb r (i+1)⟩
theorem qD {β:Type} {d:β→List (Nat×Nat×Value)} {e:(Nat→Prop)→β→List Asn} {S:List Nat} {o:Oper} {rest:List Oper} {i:Nat} (m:tz S e) (l:S.contains i=false)
    (hu:∀b,iW ((d b).map (fun p=>p.2.1))=true) (hi:∀b,iW ((d b).map (fun p=>p.1))=true)
    (h:∀ (D:Nat→Prop) (b:β),¬D i→(∀j∈jo o,D j)→Clo ops D→iW ((d b).map (fun p=>p.2.1))=true→iW ((d b).map (fun p=>p.1))=true →
      TO F P w0 K N dfs ops (_root_.Go.Exit.then (fun a w=>At N dfs (dl (fun j=>D j∨j=i) (d b)++σ) a∧Holds w0 K (e D b) w) Q) [o] (dl D (d b)++σ) (e D b))
    (hr:fp F P w0 K N dfs Q ops σ d e rest (i+1)):fp F P w0 K N dfs Q ops σ d e (o::rest) i :=
  lA (fun D b n hd g a w ha k=>by
    have h0:=h D b n hd g (hu b) (hi b) a w ha k
    exact qm (fun s w' h2=>⟨b,h2.1,by rw[m i l D b];exact h2.2⟩) h0) hr
theorem px [br F] {β:Type} {a:β→List (Nat×Nat×Value)} {E:(Nat→Prop)→β→List Asn} {S:List Nat} (H:tz S E)
    (hu:∀b,iW ((a b).map (fun p=>p.2.1))=true) (hi:∀b,iW ((a b).map (fun p=>p.1))=true) (n m:Nat):∀ {l d:List Oper} {i g:Nat},
    (∀b,sv N ops σ (a b) n l i=some (d,g,((a b).drop m).take n))→(eV n).all (fun j=>!S.contains (i+j))=true →
    fp F P w0 K N dfs Q ops σ a E d g→fp F P w0 K N dfs Q ops σ a E l i:=by
  induction n generalizing m with
  |zero=>
    intro l d i g e w h
    by_cases hb:Nonempty β
    · obtain⟨b⟩:=hb
      have e:=e b
      simp only[sv,fL,nB] at e
      obtain⟨rfl,rfl,_⟩:=e
      exact h
    · exact Dm hb _ _
  |succ n G=>
    intro l d i g e w h
    by_cases hb:Nonempty β
    · obtain⟨b0⟩:=hb
      cases l with
      |nil=>exact absurd (e b0) (by simp[sv])
      |cons o r=>
        have u:S.contains i=false:=by
          have:=bd.1 w 0 (by simp)
          simpa using this
        have s:(eV n).all (fun j=>!S.contains (i+1+j))=true:=by
          refine bd.2 fun j hj=>?_
          have:=bd.1 w (j+1) (by simp at hj ⊢;omega)
          rwa [show i+(j+1)=i+1+j by omega] at this
        refine qD H u hu hi (fun D b J hd I k C=>?_) (G (m+1) (fun b=>?_) s h)
        · obtain⟨t,v,h1,h2,h3⟩:=AH (e b)
          exact AF (fun t v h=>AG hd t v h) h1 (zJ m k C h2)
        · obtain⟨t,v,h1,h2,h3⟩:=AH (e b)
          exact h3
    · exact Dm hb _ _
end
section
variable {F:Fence} {P:Program} {w0:World} {K:Nat→Prop} {N:Nat} {dfs:List Deferred} {Q:Exit→Act→World→Prop} {σ:List (Nat×Value)} {L:List Asn} {ops:Array Oper}
theorem lC {β:Type} {d:β→List (Nat×Nat×Value)} {g:(Nat→Prop)→β→List Asn} {S:List Nat} {o:Oper} {rest:List Oper} {i:Nat} (m:tz S g) (l:S.contains i=false)
    (hu:∀b,iW ((d b).map (fun p=>p.2.1))=true) (hi:∀b,iW ((d b).map (fun p=>p.1))=true)
    (h:∀ (D:Nat→Prop) (b:β),¬D i→(∀j∈jo o,D j)→Clo ops D→iW ((d b).map (fun p=>p.2.1))=true→iW ((d b).map (fun p=>p.1))=true→∃L',g D b=L' ∧
      TO F P w0 K N dfs ops (_root_.Go.Exit.then (fun a w=>At N dfs (dl (fun j=>D j∨j=i) (d b)++σ) a∧Holds w0 K L' w) Q) [o] (dl D (d b)++σ) L')
    (hr:fp F P w0 K N dfs Q ops σ d g rest (i+1)):fp F P w0 K N dfs Q ops σ d g (o::rest) i :=
  qD m l hu hi (fun D b n hd k hu hi=>by obtain⟨L',e,h0⟩:=h D b n hd k hu hi;rw[e];exact h0) hr
end
section
variable {R:Type} {F:Fence} {P:Program} {w0:World} {K:Nat→Prop} {N:Nat} {dfs:List Deferred} {ops:Array Oper} {Q:Exit→Act→World→Prop} {rest:List Oper} {σ:List (Nat×Value)} {L:List Asn} {x:Operand} {c c1 c2:Code} {p q:Option R} {r:R} {b:Bool}
theorem zyB (hc:ev σ x=some (.bool b)) (h:aM b p q=some r) (ht:p=some r→TC F P w0 K N dfs Q c1 σ L) (hf:q=some r→TC F P w0 K N dfs Q c2 σ L):TC F P w0 K N dfs Q (.cond x c1 c2) σ L:=LB hc (fun e=>ht (nG e h)) (fun e=>hf (nH e h))
theorem zaR [br F] {b:BinOp} {t j k:TypeId} {d:Nat} {pos:String} {i:Array Edge} {g:Option (Nat×Bool)} {x y:Operand} {v v1 a:Value} (e:(gd ops σ g,decide (d<N),ev σ x,ev σ y)=(some true,true,some v1,some a))
    (hb:∀w:World,(do eqGuard b t x y v1 a;binOp b t v1 a:Sem Value).run P w=.ok v w) (h:TO F P w0 K N dfs ops Q rest ((d,v)::σ) L) :
    TO F P w0 K N dfs ops Q (⟨some d,.binOp b t x y j,k,pos,i,g⟩::rest) σ L:=by
  simp only[nB] at e
  exact lU e.1 (of_decide_eq_true e.2.1) e.2.2.1 e.2.2.2 hb h
theorem zyN (h:TC F P w0 K N dfs Q c σ L):TO F P w0 K N dfs ops (_root_.Go.Exit.then (c.wpIn F 0 P Q) Q) [] σ L:=bG (ct h)
theorem zyG {id:Nat} {l:List Oper} (h:TO F P w0 K N dfs l.toArray (_root_.Go.Exit.then (c.wpIn F 0 P Q) Q) l σ L):TC F P w0 K N dfs Q (.seq (.region id l.toArray false) c) σ L:=zaL (bV h)
theorem zyH {id:Nat} {l:List Oper} (h:TO F P w0 K N dfs l.toArray (_root_.Go.Exit.then (c.wpIn F 0 P Q) Q) l σ L):TO F P w0 K N dfs ops (_root_.Go.Exit.then ((Code.seq (.region id l.toArray false) c).wpIn F 0 P Q) Q) [] σ L:=bG (ct (zaL (bV h)))
theorem zyS {s:Nat} (a:σ.lookup s=some (.bool b)) (h:aM b p q=some r) (ht:p=some r→TO F P w0 K N dfs ops Q rest ((s,.bool true)::σ) L) (hf:q=some r→TO F P w0 K N dfs ops Q rest ((s,.bool false)::σ) L):TO F P w0 K N dfs ops Q rest σ L:=LC a (fun e=>ht (nG e h)) (fun e=>hf (nH e h))
theorem Wf (h:aM b p q=some r) (ht:p=some r→TO F P w0 K N dfs ops Q rest σ L) (hf:q=some r→TO F P w0 K N dfs ops Q rest σ L):TO F P w0 K N dfs ops Q rest σ L:=qW (b:=b) (fun e=>ht (nG e h)) (fun e=>hf (nH e h))
theorem Wg (h:aM b p q=some r) (ht:p=some r→TC F P w0 K N dfs Q c σ L) (hf:q=some r→TC F P w0 K N dfs Q c σ L):TC F P w0 K N dfs Q c σ L:=vj (b:=b) (fun e=>ht (nG e h)) (fun e=>hf (nH e h))
abbrev Wh (F:Fence) (P:Program) (w0:World) (K:Nat→Prop) (N:Nat) (dfs:List Deferred) (ops:Array Oper) (Q:Exit→Act→World→Prop) (rest:List Oper) (σ:List (Nat×Value)) (L:List Asn):Prop:=TO F P w0 K N dfs ops Q rest σ L
end
abbrev fO (x:bK):List Value:=[.int .i32 x.Rune,.string x.Text,zI x.At]
abbrev iD (x:dq):List Value:=[zI x.sort,zI x.place,.string x.digits,.string x.marks,zI x.great]
abbrev py (x:gL):List Value:=[.string x.e0,.string x.e1,.string x.e2]
abbrev kD (x:zaw):List Value:=[zI x.Err,zI x.At]
abbrev bD (v:Value):=vec gN 9 1 v
abbrev er (v:Value):=vec (kl (.i32)) 21 1 v
abbrev eI (v:Value):=vec oL 81 3 v
abbrev p5 (v:Value):=vec HD 137 3 v
abbrev kE (v:Value):=vec qy 91 5 v
abbrev mZ (v:Value):=vec lN 123 5 v
abbrev nl (v:Value):=vec xE 100 5 v
abbrev pc (v:Value):=vec ot 132 4 v
abbrev rn (v:Value):=vec xF 155 4 v
abbrev tA (v:Value):=vec ui 111 2 v
abbrev ur (v:Value):=vec vO 106 2 v
def sw (r1:Int):Option Bool := aM (decide ((r1:Int)<0)) (some true) (aM (decide ((1114111:Int)<r1)) (some true) (aM (decide ((55296:Int)≤r1)) (some (decide ((r1:Int)≤57343))) (some false)))
theorem xQ {r1:Int} {r:Bool} (h:sw r1=some r):dB prog 132 [.int .i32 r1] (.bool r):=by
 unfold sw at h
 refine dB.intro func132 rfl ntmps132 (by simp) (fun w0 K=>zyG (zyR 1 rfl (zyH (zyR 1 rfl (zaR rfl zbi (zyR 1 rfl (zyS (s:=5) rfl h (fun h=>?_) (fun h=>?_))))))))
 ·refine zyR 12 rfl (zyN (zaz ?_))
  cases h
  exact cZ 2 pP
 refine zyR 1 rfl (zaR rfl zdV (zyR 2 rfl (zyS (s:=9) rfl h (fun h=>?_) (fun h=>?_))))
 ·refine zyR 8 rfl (zyN (zaz ?_))
  cases h
  exact cZ 2 pP
 refine zyR 1 rfl (zaR rfl zbF (zyR 1 rfl (zyS (s:=12) rfl h (fun h=>?_) (fun h=>?_))))
 ·refine zyR 1 rfl (zaR rfl hQ (zyR 3 rfl (zyN (zaz ?_))))
  cases h
  exact cZ 2 pP
 refine zyR 5 rfl (zyN (zaz ?_))
 cases h
 exact cZ 2 pP
def sx (r1:Int):Option Int := aT (sw r1) fun (r2:Bool)=>aM (r2) (some 0) (aM (decide ((r1:Int)<128)) (some 1) (aM (decide ((r1:Int)<2048)) (some 2) (aM (decide ((r1:Int)<65536)) (some 3) (some 4))))
theorem Dn {r1:Int} {r:Int} (h:sx r1=some r):dB prog 133 [.int .i32 r1] (zI r):=by
 unfold sx at h
 refine dB.intro func133 rfl ntmps133 (by simp) (fun w0 K=>zyG (zyR 1 rfl (zyN (zaL (zau (zyG (zyR 1 rfl (zbl h fun r2 a h=>zaI (v:=.bool r2) (vs:=[.int .i32 r1]) rfl dc rfl rfl rfl xC (xQ a) (zyR 1 rfl (zyN (zyB rfl h (fun h=>?_) (fun h=>?_))))))))))))
 ·refine zyG (zyR 1 rfl (zyN (zaz (cD (bP ?_)))))
  cases h
  exact cZ 2 mO
 refine zyG (zyR 1 rfl (zaR rfl zbi (zyR 1 rfl (zyN (zyB rfl h (fun h=>?_) (fun h=>?_))))))
 ·refine zyG (zyR 1 rfl (zyN (zaz (cD (bP ?_)))))
  cases h
  exact cZ 2 mO
 refine zyG (zyR 1 rfl (zaR rfl zbi (zyR 1 rfl (zyN (zyB rfl h (fun h=>?_) (fun h=>?_))))))
 ·refine zyG (zyR 1 rfl (zyN (zaz (cD (bP ?_)))))
  cases h
  exact cZ 2 mO
 refine zyG (zyR 1 rfl (zaR rfl zbi (zyR 1 rfl (zyN (zyB rfl h (fun h=>?_) (fun h=>?_))))))
 ·refine zyG (zyR 1 rfl (zyN (zaz (cD (bP ?_)))))
  cases h
  exact cZ 2 mO
 refine bA (ca (ct (zyG (zyR 1 rfl (zyN (zaz ?_))))))
 cases h
 exact cZ 2 mO
def zce (h:Int→(List Int)→Option ae) (g:Int→(List Int)→Int→Option ae) (a:Int) (e:List Int) (d:Int):Option ae := aM (decide ((0:Int)<d)) (aU (fl (128+(mc a 64))) <|aT (zcx e d) fun (q1:Int)=>aU (fl (qS a 64)) <|aU (cp (d-1)) <|g (qS a 64) (e.set (d:Int).toNat (IntKind.u8.wrap (128+(mc a 64)))) (d-1)) (h a e)
def rp (r1:Int):Option ae := cn (fun (g:Int→Option ae)=>aT (sw r1) fun (r3:Bool)=>aM (r3) (g 65533) (g r1)) (fun (r2:Int)=>aT (sx r2) fun (a:Int)=>aM ((a:Int)==1) (aU (∀x∈([IntKind.u8.wrap r2]:List Int),U8 x) <|some (jp ([IntKind.u8.wrap r2]:List Int))) (cn (fun (h:Int→(List Int)→Option ae)=>aU (0≤a∧a≤2147483648) <|aU (cp (a-1)) <|zaC (fun _ _ _=>none) (zce h) zbC r2 (bF (a:Int).toNat 0:List Int) (a-1)) (fun (d:Int) (e:List Int)=>aU (cp (8-a)) <|aU (0≤(8-a)) <|aU (cp (256-(ly .i64 1 (8-a)))) <|aU (cp d) <|aU (cp ((256-(ly .i64 1 (8-a)))+d)) <|aT (zcx e 0) fun (q2:Int)=>aU (∀x∈e.set (0:Int).toNat (IntKind.u8.wrap ((256-(ly .i64 1 (8-a)))+d)),U8 x) <|some (jp (e.set (0:Int).toNat (IntKind.u8.wrap ((256-(ly .i64 1 (8-a)))+d)))))))
theorem AK {r1:Int} {r:ae} (h:rp r1=some r):dB prog 84 [.int .i32 r1] (.string r):=by
 unfold rp at h
 refine dB.intro func84 rfl ntmps84 (by simp) (fun w0 K=>zbp h fun j1 I h=>zaM (β:=Int) 1 rfl (fun b=>j1 b=some r) (fun b=>[]) (fun b=>[(0,.int .i32 b)]) (fun b=>[]) (fun cut=>zyG (zyR 1 rfl (zyN (cut (zyG (zyR 1 rfl (zbl h fun r3 G h=>zaI (v:=.bool r3) (vs:=[.int .i32 r1]) rfl dc rfl rfl rfl xC (xQ G) (zyN (zyB rfl h (fun h=>bV (zyR 1 rfl (bG (cH 65533 h rfl (bE rfl) ah)))) (fun h=>bA (cH r1 h rfl (bE rfl) ah))))))))))) (fun r2 h=>?_))
 rw[I] at h
 refine zyG (zyR 1 rfl (zbl h fun a E h=>zaI (v:=zI a) (vs:=[.int .i32 r2]) rfl dc rfl rfl rfl CT (Dn E) (zyR 1 rfl (zyN (zaL (zyG (zyR 1 rfl (zaR rfl zbe (zyN (zyB rfl h (fun h=>?_) (fun h=>?_)))))))))))
 ·refine zyG (zyR 1 rfl (zdi rfl dc rfl (ziK aZ dv) (fE (cs:=[.int .u8 (IntKind.u8.wrap r2)]) (te:=5) (ps:=[(0,.tmp 13)]) rfl dc rfl (fun _=>by kernel_rfl) (fun b1=>mA ([IntKind.u8.wrap r2]:List Int) (k:=0) rfl jI rfl (show 1≤maxLen by decide) (zbt h fun Z h=>s9 (k:=0) rfl (vn Z) (qq (k:=0) rfl dc rfl rfl cO dv al (zyR 1 rfl (zyN (zaz (bP ?_))))))))))
  cases h
  exact cZ 2 results84
 refine bA (ct (zbp h fun w H h=>zaM (β:=Int×(List Int)×Value) 1 rfl (fun b=>w b.1 b.2.1=some r) (fun b=>[]) (fun b=>[(0,.int .i32 b.1),(3,zI a),(4,b.2.2)]) (fun b=>[vec (kl (.u8)) 5 1 b.2.2 b.2.1]) (fun cut=>?_) ?_))
 ·refine zyG (zyR 1 rfl (zbt h fun Y h=>F2 (z:=0) cO MQ MP jI rfl dc rfl Y (fun C=>zyR 1 rfl (zyN (cut (zyG (zyR 1 rfl (zbt h fun W h=>zaR rfl (jH (r:=a-1) (ai _ W)) (zyR 1 rfl (zyN (zau (eO (β:=Nat×Int×(List Int)×Int) (fun b=>zaC (fun _ _ _=>none) (zce w) b.1 b.2.1 b.2.2.1 b.2.2.2=some r) (fun b=>[]) (fun b=>[(0,.int .i32 b.2.1),(3,zI a),(4,C),(5,zI b.2.2.2)]) (fun b=>[vec (kl (.u8)) 5 1 C b.2.2.1]) (fun b=>b.1) (zbC,r2,(bF (a:Int).toNat 0:List Int),a-1) h rfl (bE rfl) (cj 1) ?_))))))))))))
  rintro⟨u,e,b5,g⟩ h
  cases u with
  |zero=>exact eG h
  |succ u=>
   obtain⟨ao,d⟩:∃ag,ag=zaC (fun _ _ _=>none) (zce w) u:=⟨_,rfl⟩
   have h:zce w ao e b5 g=some r:=by rw[d];exact h
   unfold zce at h
   refine zaL (zyG (zyR 1 rfl (zaR rfl zdV (zyN (zyB rfl h (fun h=>?_) (fun h=>?_))))))
   ·refine bA (ct (zaL (zau (zyG (zyR 3 rfl (zaR rfl (LP dc rfl) (zbt h fun V h=>zaR rfl (dE (r:=128+(mc e 64)) (ee _ V)) (zdi rfl dc rfl (ziK aZ dv) (zbl h fun q1 m h=>eY (k:=0) m cO z8 rfl dc rfl rfl rfl rfl (oF (i:=(g:Int).toNat) (j:=0) (k:=0) (q:=q1) (q':=IntKind.u8.wrap (128+(mc e 64))) z8 jI rfl rfl rfl rfl (ep m) rfl dc rfl (fun _ _=>rfl) (zyN (bV (zyR 1 rfl (zbt h fun U h=>zaR rfl (LO dc (ee _ U)) (zyR 1 rfl (bG (ca (ct (bV (zyR 1 rfl (zbt h fun T h=>zaR rfl (jH (r:=g-1) (ai _ T)) (zyR 1 rfl (bG ?_)))))))))))))))))))))))
    subst d
    exact aD (u,qS e 64,b5.set (g:Int).toNat (IntKind.u8.wrap (128+(mc e 64))),g-1) h 1
   exact dF (bU (bU (dG (mD (e,b5,C) h 1))))
 rintro⟨D,b2,v1⟩ h
 rw[H] at h
 refine zyG (zyR 2 rfl (zbt h fun O h=>zaR rfl (jH (r:=8-a) (ai _ O)) (zbt h fun M h=>zaR rfl (FV M) (zbt h fun J h=>zaR rfl (jH (r:=256-(ly .i64 1 (8-a))) (ai _ J)) (zyR 1 rfl (zbt h fun t h=>zdi rfl dc rfl (vg (r:=D) aZ underlying3 (ai _ t)) (zbt h fun s h=>zaR rfl (dE (r:=(256-(ly .i64 1 (8-a)))+D) (ai _ s)) (zdi rfl dc rfl (ziK underlying3 dv) (zbl h fun q2 l h=>eY (k:=0) l cO z8 rfl dc rfl rfl rfl rfl (oF (i:=(0:Int).toNat) (j:=0) (k:=0) (q:=q2) (q':=IntKind.u8.wrap ((256-(ly .i64 1 (8-a)))+D)) z8 jI rfl rfl rfl rfl (ep l) rfl dc rfl (fun _ _=>rfl) (zyH (zyR 1 rfl (zbt h fun n h=>s9 (k:=0) rfl (vn n) (qq (k:=0) rfl dc rfl rfl cO dv al (zyR 1 rfl (zyN (zaz ?_)))))))))))))))))
 cases h
 exact cZ 2 results84
def zeY (h:ae) (e:Int) (i:Int) (j:Int→Option (Int×Int)) (g:Int→Int→Option (Int×Int)) (a:Int) (d:Int):Option (Int×Int) := aM (decide ((d:Int)<i)) (aU (fl (a*64)) <|aU (cp (e+d)) <|aT (jz h (e+d)) fun (c2:Int)=>aU (fl c2) <|aU (fl ((a*64)+c2)) <|aU (fl (((a*64)+c2)-128)) <|aU (cp (d+1)) <|g (((a*64)+c2)-128) (d+1)) (j a)
def zex (e:ae) (a:Int) (j:Option (Int×Int)) (h:Int→Option (Int×Int)) (d:Int):Option (Int×Int) := aM (decide ((d:Int)≤4)) (aU (cp (a+d)) <|aM (decide (((a+d):Int)≤(e.size:Int))) (cn (fun (g:Option (Int×Int))=>cn (fun (i:Int→Option (Int×Int))=>aT (jz e a) fun (c1:Int)=>aU (fl c1) <|aM (decide ((1:Int)<d)) (aU (cp (8-d)) <|aU (0≤(8-d)) <|aU (fl (256-(ly .i32 1 (8-d)))) <|aU (fl (c1-(256-(ly .i32 1 (8-d))))) <|i (c1-(256-(ly .i32 1 (8-d))))) (i c1)) (fun (r1:Int)=>cn (fun (n:Int→Option (Int×Int))=>zaC (fun _ _=>none) (zeY e a d n) zbC r1 1) (fun (r2:Int)=>aT (sw r2) fun (m:Bool)=>aM (!m) (aT (sx r2) fun (l:Int)=>aM ((l:Int)==d) (aT (rp r2) fun (k:ae)=>aU (cp (a+d)) <|aU (0≤(a:Int)∧(a:Int)≤(a+d)∧(a+d:Int)≤(e.size:Int)) <|aM (decide (k=cL e a (a+d))) (some (r2,d)) (g)) (g)) (g)))) (aU (cp (d+1)) <|h (d+1))) (j)) (j)
def xR (d:ae) (a:Int):Option (Int×Int) := cn (fun (e:Option (Int×Int))=>zaC (fun _=>none) (zex d a e) zbC 1) (some (0,0))
theorem PB {g:ae} {a:Int} {r:(Int×Int)} (h:xR g a=some r):dB prog 160 [.string g,zI a] (.tuple #[.int .i32 r.1,zI r.2]):=by
 unfold xR at h
 refine dB.intro func160 rfl ntmps160 (by simp) (fun w0 K=>zbp h fun Z a4 h=>zaM (β:=Unit) 1 rfl (fun b=>Z=some r) (fun b=>[]) (fun b=>[]) (fun b=>[]) (fun cut=>?_) ?_)
 ·refine zyG (zyR 2 rfl (zyN (cut (zyG (zyR 1 rfl (zyN (zau (eO (β:=Nat×Int) (fun b=>zaC (fun _=>none) (zex g a Z) b.1 b.2=some r) (fun b=>[]) (fun b=>[(0,.string g),(1,zI a),(6,zI b.2)]) (fun b=>[]) (fun b=>b.1) (zbC,1) h rfl (bE rfl) ah ?_))))))))
  rintro⟨W,e⟩ h
  cases W with
  |zero=>exact eG h
  |succ W=>
   obtain⟨b1,w⟩:∃ag,ag=zaC (fun _=>none) (zex g a Z) W:=⟨_,rfl⟩
   have h:zex g a Z b1 e=some r:=by rw[w];exact h
   unfold zex at h
   refine zaL (zyG (zyR 1 rfl (zaR rfl hQ (zyR 1 rfl (zyS (s:=11) rfl h (fun h=>?_) (fun h=>?_))))))
   ·refine zyR 2 rfl (zbt h fun bs h=>zaR rfl (dE (r:=a+e) (ai _ bs)) (zyR 1 rfl (zcX rfl dc rfl al (zaR rfl hQ (zyR 1 rfl (zyN (zyB rfl h (fun h=>?_) (fun h=>?_))))))))
    ·refine bA (ct (zbp h fun j2 a3 h=>zaM (β:=Unit) 0 rfl (fun b=>j2=some r) (fun b=>[]) (fun b=>[(0,.string g),(1,zI a),(6,zI e),(12,zI a),(13,zI e),(14,zI (a+e)),(15,.string g),(16,zI (g.size:Int)),(17,.bool (decide (((a+e):Int)≤(g.size:Int))))]) (fun b=>[]) (fun cut=>?_) ?_))
     ·refine cut (zau (zbp h fun j3 a2 h=>zaM (β:=Int) 1 rfl (fun b=>j3 b=some r) (fun b=>[]) (fun b=>[(0,.string g),(1,zI a),(6,zI e),(7,.int .i32 b),(12,zI a),(13,zI e),(14,zI (a+e)),(15,.string g),(16,zI (g.size:Int)),(17,.bool (decide (((a+e):Int)≤(g.size:Int))))]) (fun b=>[]) (fun cut=>zyG (zyR 2 rfl (zbl h fun c1 a0 h=>mS rfl dc rfl rfl (oY al a0) (zbt h fun bk h=>zdi rfl dc rfl (vg (r:=c1) dv aZ (ee _ bk)) (zyR 1 rfl (zyN (cut (zyG (zyR 1 rfl (zaR rfl zdV (zyN (zyB rfl h (fun h=>bV (zyR 2 rfl (zbt h fun bh h=>zaR rfl (jH (r:=8-e) (ai _ bh)) (zbt h fun bb h=>zaR rfl (FV bb) (zbt h fun a9 h=>zaR rfl (jH (r:=256-(ly .i32 1 (8-e))) (ee _ a9)) (zbt h fun a8 h=>zaR rfl (jH (r:=c1-(256-(ly .i32 1 (8-e)))) (ee _ a8)) (zyR 1 rfl (bG (cH (c1-(256-(ly .i32 1 (8-e)))) h rfl (bE rfl) ah))))))))) (fun h=>bA (cH c1 h rfl (bE rfl) ah)))))))))))))) (fun r1 h=>?_)))
      rw[a2] at h
      refine zbp h fun Y a1 h=>zaM (β:=Int) 0 rfl (fun b=>Y b=some r) (fun b=>[]) (fun b=>[(0,.string g),(1,zI a),(6,zI e),(7,.int .i32 b),(12,zI a),(13,zI e),(14,zI (a+e)),(15,.string g),(16,zI (g.size:Int)),(17,.bool (decide (((a+e):Int)≤(g.size:Int))))]) (fun b=>[]) (fun cut=>?_) ?_
      ·refine cut (zyG (zyR 1 rfl (zyN (zau (eO (β:=Nat×Int×Int) (fun b=>zaC (fun _ _=>none) (zeY g a e Y) b.1 b.2.1 b.2.2=some r) (fun b=>[]) (fun b=>[(0,.string g),(1,zI a),(6,zI e),(7,.int .i32 b.2.1),(8,zI b.2.2),(12,zI a),(13,zI e),(14,zI (a+e)),(15,.string g),(16,zI (g.size:Int)),(17,.bool (decide (((a+e):Int)≤(g.size:Int))))]) (fun b=>[]) (fun b=>b.1) (zbC,r1,1) h rfl (bE rfl) ah ?_)))))
       rintro⟨V,G,i3⟩ h
       cases V with
       |zero=>exact eG h
       |succ V=>
        obtain⟨b0,t⟩:∃ag,ag=zaC (fun _ _=>none) (zeY g a e Y) V:=⟨_,rfl⟩
        have h:zeY g a e Y b0 G i3=some r:=by rw[t];exact h
        unfold zeY at h
        refine zaL (zyG (zyR 2 rfl (zaR rfl zbi (zyN (zyB rfl h (fun h=>?_) (fun h=>?_))))))
        ·refine bA (ct (zaL (zau (bV (zyR 1 rfl (zbt h fun a7 h=>zaR rfl (LN (r:=G*64) (ee _ a7)) (zyR 3 rfl (zbt h fun a6 h=>zaR rfl (dE (r:=a+i3) (ai _ a6)) (zbl h fun c2 aw h=>mS rfl dc rfl rfl (oY al aw) (zbt h fun a5 h=>zdi rfl dc rfl (vg (r:=c2) dv aZ (ee _ a5)) (zbt h fun U h=>zaR rfl (dE (r:=(G*64)+c2) (ee _ U)) (zbt h fun T h=>zaR rfl (jH (r:=((G*64)+c2)-128) (ee _ T)) (zyR 1 rfl (bG (ca (ct (bV (zyR 1 rfl (zbt h fun O h=>zaR rfl (dE (r:=i3+1) (ai _ O)) (zyR 1 rfl (bG ?_)))))))))))))))))))))
         subst t
         exact ni (V,((G*64)+c2)-128,i3+1) h (cq _) rfl (bE rfl) ah
        exact dF (bU (bU (dG (cH G h rfl (bE rfl) ah))))
      rintro r2 h
      rw[a1] at h
      refine zaL (zbl h fun m E h=>vj (b:=!m) (fun k=>?_) (fun k=>?_))
      ·have h:=nG k h
       refine zbl h fun C H h=>vj (b:=(C:Int)==e) (fun l=>?_) (fun l=>?_)
       ·have h:=nG l h
        refine zbl h fun r8 ao h=>zbt h fun M h=>zbt h fun J h=>zdb 18 [(0,48,.int .i32 r2),(1,49,.bool m),(2,50,.bool true),(3,51,.bool true),(4,52,.int .i32 r2),(5,53,zI C),(6,54,zI e),(7,55,.bool true),(8,56,.bool true),(9,57,.bool true),(10,58,.int .i32 r2),(11,59,.string r8),(12,60,.string g),(13,61,zI a),(14,62,zI a),(15,63,zI e),(16,64,zI (a+e)),(17,65,.string (cL g a (a+e)))] mixed kr kr dc (by rfl) kr kr (zyP 1 0 rfl (zae (fun D n d c u i=>zaI (v:=.bool m) (vs:=[.int .i32 r2]) rfl dc rfl (da (bC 0 u d) eJ) rfl xC (xQ E) (zaT 1 u i)) (zae (fun D n d c u i=>jU rfl dc (bC 1 u d) jV (oX (show ay (!m)=ay true from aH ay k) (zaT 2 u i))) (zyP 2 3 rfl (zae (fun D n d c u i=>zaI (v:=zI C) (vs:=[.int .i32 r2]) (lI rfl (bC 3 u d)) dc rfl (da (bC 4 u d) eJ) rfl CT (Dn H) (zaT 5 u i)) (zyP 1 6 rfl (zae (fun D n d c u i=>lU (lI rfl (bC 3 u d)) dc (bC 5 u d) (bC 6 u d) zbe (oX (show ay ((C:Int)==e)=ay true from aH ay l) (zaT 7 u i))) (zyP 3 8 rfl (zae (fun D n d c u i=>zaI (v:=.string r8) (vs:=[.int .i32 r2]) (lI rfl (bC 9 u d)) dc rfl (da (bC 10 u d) eJ) rfl Aq (AK ao) (zaT 11 u i)) (zyP 4 12 rfl (zae (fun D n d c u i=>lU (lI rfl (bC 9 u d)) dc (bC 14 u d) (bC 15 u d) (dE (r:=a+e) (ai _ M)) (zaT 16 u i)) (zae (fun D n d c u i=>ia (lI rfl (bC 9 u d)) dc (bC 12 u d) (evO.some (bC 13 u d)) (evO.some (bC 16 u d)) (ka (i:=a) (j:=a+e) al (.inr rfl) (.inr rfl) J) (zaT 17 u i)) ce)))))))))))) (zaR rfl zdn (zyR 1 rfl (zyN (zyB rfl h (fun h=>?_) (fun h=>?_)))))
        ·refine zyG (zyR 4 rfl (zyN (zaz (cD (bP (bP (cD (bP ?_))))))))
         cases h
         exact eB (rs:=[.tmp 4,.tmp 5]) () (.inl rfl) results160 (.cons (.tmp rfl) (.cons (.tmp rfl) .nil)) rfl ah
        exact bA (ca (cH () h rfl (bE rfl) ah))
       have h:=nH l h
       exact zdb 18 [(0,48,.int .i32 r2),(1,49,.bool m),(2,50,.bool true),(3,51,.bool true),(4,52,.int .i32 r2),(5,53,zI C),(6,54,zI e),(7,55,.bool false),(8,56,.bool false),(9,57,.bool false),(10,58,undef),(11,59,undef),(12,60,undef),(13,61,undef),(14,62,undef),(15,63,undef),(16,64,undef),(17,65,undef)] mixed kr kr dc (by rfl) kr kr (zyP 1 0 rfl (zae (fun D n d c u i=>zaI (v:=.bool m) (vs:=[.int .i32 r2]) rfl dc rfl (da (bC 0 u d) eJ) rfl xC (xQ E) (zaT 1 u i)) (zae (fun D n d c u i=>jU rfl dc (bC 1 u d) jV (oX (show ay (!m)=ay true from aH ay k) (zaT 2 u i))) (zyP 2 3 rfl (zae (fun D n d c u i=>zaI (v:=zI C) (vs:=[.int .i32 r2]) (lI rfl (bC 3 u d)) dc rfl (da (bC 4 u d) eJ) rfl CT (Dn H) (zaT 5 u i)) (zyP 1 6 rfl (zae (fun D n d c u i=>lU (lI rfl (bC 3 u d)) dc (bC 5 u d) (bC 6 u d) zbe (oX (show ay ((C:Int)==e)=ay false from aH ay l) (zaT 7 u i))) (zyP 10 8 rfl ce)))))))) (zyR 2 rfl (zyN (eh rfl (bA (ca (cH () h rfl (bE rfl) ah))))))
      have h:=nH k h
      exact zdb 18 [(0,48,.int .i32 r2),(1,49,.bool m),(2,50,.bool false),(3,51,.bool false),(4,52,undef),(5,53,undef),(6,54,undef),(7,55,undef),(8,56,.bool false),(9,57,.bool false),(10,58,undef),(11,59,undef),(12,60,undef),(13,61,undef),(14,62,undef),(15,63,undef),(16,64,undef),(17,65,undef)] mixed kr kr dc (by rfl) kr kr (zyP 1 0 rfl (zae (fun D n d c u i=>zaI (v:=.bool m) (vs:=[.int .i32 r2]) rfl dc rfl (da (bC 0 u d) eJ) rfl xC (xQ E) (zaT 1 u i)) (zae (fun D n d c u i=>jU rfl dc (bC 1 u d) jV (oX (show ay (!m)=ay false from aH ay k) (zaT 2 u i))) (zyP 15 3 rfl ce)))) (zyR 2 rfl (zyN (eh rfl (bA (ca (cH () h rfl (bE rfl) ah))))))
     rintro _ h
     rw[a3] at h
     refine bV (zyR 1 rfl (zbt h fun I h=>zaR rfl (dE (r:=e+1) (ai _ I)) (zyR 1 rfl (bG ?_))))
     subst w
     exact ni (W,e+1) h (cq _) rfl (bE rfl) ah
    exact dF (bU (bU (dG (cH () h rfl (qo) ah))))
   exact zyR 7 rfl (zyN (eh rfl (dF (bU (bU (dG (cH () h rfl (qo) ah)))))))
 rintro _ h
 rw[a4] at h
 refine zyG (zyR 2 rfl (zyN (zaz ?_)))
 cases h
 exact eB (rs:=[.tmp 4,.tmp 5]) () (.inl rfl) results160 (.cons (.tmp rfl) (.cons (.tmp rfl) .nil)) rfl ah
def xS (d:ae) (a:Int):Option cT := aT (xR d a) fun (r1:(Int×Int))=>aM (decide ((0:Int)<r1.2)) (some (⟨a,r1.2,r1.1,false⟩:cT)) (some (⟨a,1,65533,true⟩:cT))
theorem PC {d:ae} {a:Int} {r:cT} (h:xS d a=some r):dB prog 131 [.string d,zI a] (.agg #[zI r.At,zI r.Width,.int .i32 r.Rune,.bool r.Broken]):=by
 unfold xS at h
 refine dB.intro func131 rfl ntmps131 (by simp) (fun w0 K=>zyG (zbk zjz rfl dc (fun b1=>zyN (zaL (zyG (zyR 2 rfl (zbl h fun r1 e h=>zaI (v:=.tuple #[.int .i32 r1.1,zI r1.2]) (vs:=[.string d,zI a]) rfl dc rfl rfl rfl Ol (PB e) (zyR 1 rfl (eT rfl dc rfl rfl (eT rfl dc rfl rfl (zyR 2 rfl (zyH (zyR 1 rfl (zaR rfl zdV (zyN (zyB rfl h (fun h=>?_) (fun h=>?_)))))))))))))))))
 ·refine zyG (zyR 3 rfl (zbb (v:=.agg #[zI a,zI r1.2,.int .i32 r1.1,.bool false]) (ps:=[(0,.tmp 15),(1,.tmp 16),(2,.tmp 17)]) rfl dc rfl (fun _=>by kernel_rfl) (eK (k:=0) (vs:=[zI a,zI r1.2,.int .i32 r1.1,.bool false]) (l':=[zI a,zI r1.2,.int .i32 r1.1,.bool false]) kC rfl rfl rfl rfl rfl (show _≤_ by simp) rfl rfl (zyN (zaz (bP ?_))))))
  cases h
  exact eB (rs:=[.cell 4 132]) () (.inl rfl) results131 (.cons (.cells lB (k:=0) rfl rfl rfl) .nil) rfl ah
 refine bA (ct (zyG (zyR 1 rfl (zbb (v:=.agg #[zI a,zI 1,.int .i32 65533,.bool true]) (ps:=[(0,.tmp 19),(1,.const (zI 1)),(2,.const (.int .i32 65533)),(3,.const (.bool true))]) rfl dc rfl (fun _=>by kernel_rfl) (eK (k:=0) (vs:=[zI a,zI 1,.int .i32 65533,.bool true]) (l':=[zI a,zI 1,.int .i32 65533,.bool true]) kC rfl rfl rfl rfl rfl (show _≤_ by simp) rfl rfl (zyN (zaz ?_)))))))
 cases h
 exact eB (rs:=[.cell 4 132]) () (.inl rfl) results131 (.cons (.cells lB (k:=0) rfl rfl rfl) .nil) rfl ah
def zeG (g:ae) (h:(List cT)→Option (List cT)) (e:(List cT)→Int→Option (List cT)) (d:List cT) (a:Int):Option (List cT) := aM (decide ((a:Int)<(g.size:Int))) (aT (xS g a) fun (r1:cT)=>aU (d.length+1≤2147483648) <|aU (cp (a+r1.Width)) <|e (d++[r1]) (a+r1.Width)) (h d)
def xT (a:ae):Option (List cT) := cn (fun (e:(List cT)→Option (List cT))=>zaC (fun _ _=>none) (zeG a e) zbC ([]:List cT) 0) (fun (d:List cT)=>some d)
theorem PD {g:ae} {r:(List cT)} (h:xT g=some r):Fn prog 79 [.string g] [] (fun v0:Value=>v0) (fun v0=>[pc v0 r]):=by
 unfold xT at h
 refine _root_.Go.Proofs.YtifpjbgnikjglaaGreatDoor.Fn.intro func79 rfl ntmps79 (by simp) (fun w0 K=>zbp h fun j n h=>zaM (β:=(List cT)×Value) 2 rfl (fun b=>j b.1=some r) (fun b=>[]) (fun b=>[(3,b.2)]) (fun b=>[pc b.2 b.1]) (fun cut=>?_) ?_)
 ·refine zyG (zyR 1 rfl (zyH (zyR 1 rfl (zyN (cut (zyG (zyR 1 rfl (zyN (zau (mU (enc:=ot) (e:=132) (size:=4) (eO (β:=Nat×(List cT)×Int×Value) (fun b=>zaC (fun _ _=>none) (zeG g j) b.1 b.2.1 b.2.2.1=some r) (fun b=>[]) (fun b=>[(0,.string g),(3,b.2.2.2),(4,zI b.2.2.1)]) (fun b=>[pc b.2.2.2 b.2.1]) (fun b=>b.1) (zbC,([]:List cT),0,(.slice none 0 0)) h rfl (bE rfl) (cj 1) ?_)))))))))))
  rintro⟨i,l,a,C⟩ h
  cases i with
  |zero=>exact eG h
  |succ i=>
   obtain⟨u,d⟩:∃ag,ag=zaC (fun _ _=>none) (zeG g j) i:=⟨_,rfl⟩
   have h:zeG g j u l a=some r:=by rw[d];exact h
   unfold zeG at h
   refine zaL (zyG (zyR 2 rfl (zcX rfl dc rfl al (zaR rfl zbi (zyN (zyB rfl h (fun h=>?_) (fun h=>?_)))))))
   ·refine bA (ct (zau (zyG (zyR 2 rfl (zbl h fun r1 m h=>zaI (v:=.agg #[zI r1.At,zI r1.Width,.int .i32 r1.Rune,.bool r1.Broken]) (vs:=[.string g,zI a]) rfl dc rfl rfl rfl Oc (PC m) (zbk zjz rfl dc (fun b1=>eK (k:=1) (vs:=[zI r1.At,zI r1.Width,.int .i32 r1.Rune,.bool r1.Broken]) (l':=[zI r1.At,zI r1.Width,.int .i32 r1.Rune,.bool r1.Broken]) kC rfl rfl rfl rfl rfl (show _≤_ by simp) rfl rfl (zyH (zyR 1 rfl (zbT (k:=1) (cs:=[zI r1.At,zI r1.Width,.int .i32 r1.Rune,.bool r1.Broken]) lB rfl dc rfl rfl rfl rfl (fE (cs:=[zI r1.At,zI r1.Width,.int .i32 r1.Rune,.bool r1.Broken]) (te:=132) (ps:=[(0,.tmp 14)]) rfl dc rfl (fun _=>by kernel_rfl) (fun E=>zbt h fun t h=>iC (k:=0) (k2:=2) (ys:=[r1]) cI GT Ax HB rfl dc rfl rfl rfl rfl rfl rfl t (fun w=>zyR 1 rfl (zyN (bV (zyR 1 rfl (zab qx rfl dc rfl (show _=1 from rfl) (zat (k:=1) dQ rfl dc rfl rfl rfl (zbt h fun s h=>zaR rfl (dE (r:=a+r1.Width) (ai _ s)) (zyR 1 rfl (bG (ca ?_))))))))))))))))))))))
    subst d
    exact aD (i,l++[r1],a+r1.Width,w) h 1
   exact dF (bU (bU (dG (mD (l,C) h 1))))
 rintro⟨D,v1⟩ h
 rw[n] at h
 refine zyG (zyR 2 rfl (zyN (zaz ?_)))
 cases h
 exact eB (rs:=[.tmp 2]) v1 (.inl rfl) results79 (.cons (.tmp rfl) .nil) rfl (cj 1)
def Do (a:ae) (p1:cT):Option ae := aU (cp (p1.At+p1.Width)) <|aU (0≤(p1.At:Int)∧(p1.At:Int)≤(p1.At+p1.Width)∧(p1.At+p1.Width:Int)≤(a.size:Int)) <|some (cL a p1.At (p1.At+p1.Width))
theorem HX {e:ae} {p1:cT} {r:ae} (h:Do e p1=some r):dB prog 80 [.string e,.agg #[zI p1.At,zI p1.Width,.int .i32 p1.Rune,.bool p1.Broken]] (.string r):=by
 unfold Do at h
 refine dB.intro func80 rfl ntmps80 (by simp) (fun w0 K=>zyG (zeV rfl dc rfl (fun b1=>zyR 1 rfl (zyH (zyR 1 rfl (zab zd6 rfl dc rfl (show _=0 from rfl) (zat (k:=0) dQ rfl dc rfl rfl rfl (zab zd6 rfl dc rfl (show _=0 from rfl) (zat (k:=0) dQ rfl dc rfl rfl rfl (zab qx rfl dc rfl (show _=1 from rfl) (zat (k:=0) dQ rfl dc rfl rfl rfl (zbt h fun d h=>zaR rfl (dE (r:=p1.At+p1.Width) (ai _ d)) (zbt h fun a h=>ia rfl dc rfl rfl rfl (ka (i:=p1.At) (j:=p1.At+p1.Width) al (.inr rfl) (.inr rfl) a) (zyR 1 rfl (zyN (zaz ?_))))))))))))))))
 cases h
 exact cZ 4 results80
section
variable {R S:Type} {c:Prop} [Decidable c] {o x z:Option R} {p:Option S} {f:S→Option R} {b:Bool} {y:Option R}
theorem zdG (h:c) (a:o=x):aU c o=x:=(FP h).trans a
theorem bf {a:S} (h:p=some a) (hf:f a=x):aT p f=x:=(FQ h).trans hf
theorem bQ (hb:b=true) (h:x=z):aM b x y=z:=(LW hb).trans h
theorem bM (hb:b=false) (h:y=z):aM b x y=z:=(LY hb).trans h
theorem gO {c:Prop} [Decidable c] {R:Type} {o x:Option R} (a:o=x) (h:c:=by omega):aU c o=x:=zdG h a
theorem eW {p:Prop} [Decidable p] {R:Type} {x y z:Option R} (h:x=z) (hp:p:=by omega):aM (decide p) x y=z:=bQ (au hp) h
theorem fP {p:Prop} [Decidable p] {R:Type} {x y z:Option R} (h:y=z) (hp:¬p:=by omega):aM (decide p) x y=z:=bM (aj hp) h
theorem cA {T:Type} {t:T→Option R} {k:T} (h:t k=x):cn t k=x:=h
theorem fX {T:Type} {bot:T} {step:T→T} {n:Nat}:zaC bot step (n+1)=step (zaC bot step n):=rfl
theorem HY {q:Prop} [Decidable q]:aM (decide q) x y=if q then x else y:=by
 unfold aM;rw[Bool.cond_decide]
theorem vZ (k:Nat) (h:k≤1000):∃n,zbC=n+k∧18446744073709550000≤n:=⟨18446744073709551616-k,by unfold zbC;omega,by omega⟩
end
def vr (r:Int):Prop:=(0≤r∧r<55296)∨(57343<r∧r≤1114111)
instance (r:Int):Decidable (vr r):=by unfold vr;infer_instance
theorem Dp (r:Int):sw r=some (!decide (vr r)):=by
 unfold sw
 simp only[HY]
 by_cases h:vr r
 ·have h':=h
  unfold vr at h'
  rw[au h,ap (by omega),ap (by omega)]
  split
  ·rw[aj (by omega)];rfl
  ·rfl
 ·have h':=h
  unfold vr at h'
  rw[aj h]
  split
  ·rfl
  ·split
   ·rfl
   ·rw[ax (by omega),au (by omega)];rfl
def wd (r:Int):Int:=if vr r then (if r<128 then 1 else if r<2048 then 2 else if r<65536 then 3 else 4) else 0
theorem HZ (r:Int):sx r=some (wd r):=by
 unfold sx wd
 refine bf (Dp r) ?_
 by_cases h:vr r
 ·refine bM (by simp[h]) ?_
  rw[ax h]
  simp only[HY]
  split
  ·rfl
  ·split
   ·rfl
   ·split<;>rfl
 ·refine bQ (by simp[h]) ?_
  rw[ap h]
theorem PE (r:Int) (h:vr r):((encodeRune r).length:Int)=wd r:=by
 unfold wd;rw[ax h]
 unfold vr at h
 unfold encodeRune
 rw[ar]
 split
 ·rw[encodeRuneZ_one (by omega) (by omega)];rfl
 ·split
  ·rw[encodeRuneZ_two (by omega) (by omega)];rfl
  ·split
   ·rw[encodeRuneZ_three (by omega)];rfl
   ·rw[encodeRuneZ_four (by omega) (by omega)];rfl
theorem wa (x:Int) (h:0≤x∧x≤255):IntKind.u8.wrap x=x:=IntWalk.u8_in x h
theorem wb {j:Int→List Int→Option ae} {ag:Int→List Int→Int→Option ae} {r i:Int} {b:List Int} (h0:0≤r) (hr:r≤1114111) (hi:0<i) (hb:i<b.length) (d:b.length≤4) :
  zce j ag r b i=ag (r / 64) (b.set i.toNat (128+r % 64)) (i-1):=by
 unfold zce
 have e1:mc r 64=r % 64:=Int.tmod_eq_emod_of_nonneg h0
 have e2:qS r 64=r / 64:=Int.tdiv_eq_ediv_of_nonneg h0
 refine bQ (au hi) (gO ?_)
 obtain⟨q,a⟩:∃q,zcx b i=some q:=⟨_,zO (n:=i.toNat) (by omega) (aO (by omega))⟩
 refine bf a (gO (gO ?_))
 rw[e1,e2,wa _ (by omega)]
theorem Dq {j:Int→List Int→Option ae} {ag:Int→List Int→Int→Option ae} {r:Int} {b:List Int}:zce j ag r b 0=j r b:=by
 unfold zce;exact bM rfl rfl
theorem tB {l:List Int} {s:ae} (h:l.map (fun x=>UInt8.ofNat x.toNat)=s.data.toList):jp l=s:=by
 apply _root_.ByteArray.ext;unfold jp;simp[h]
theorem AL (r:Int) (hr:fl r):rp r=some (ac r):=by
  have key:∀r,vr r→(aT (sx r) fun (d:Int)=>
      aM ((d:Int)==1) (aU (∀x∈([IntKind.u8.wrap r]:List Int),U8 x)<|some (jp ([IntKind.u8.wrap r]:List Int)))
      (cn (fun (l:Int→(List Int)→Option ae)=>aU (0≤d∧d≤2147483648)<|aU (cp (d-1))<|zaC (fun _ _ _=>none) (zce l) zbC r (bF (d:Int).toNat 0) (d-1))
       (fun (g:Int) (k:List Int)=>
        aU (cp (8-d))<|aU (0≤(8-d))<|aU (cp (256-(ly .i64 1 (8-d))))<|aU (cp g)<|aU (cp ((256-(ly .i64 1 (8-d)))+g)) <|
        aT (zcx k 0) fun (q2:Int)=>aU (∀x∈k.set (0:Int).toNat (IntKind.u8.wrap ((256-(ly .i64 1 (8-d)))+g)),U8 x) <|
        some (jp (k.set (0:Int).toNat (IntKind.u8.wrap ((256-(ly .i64 1 (8-d)))+g)))))))=some (ac r):=by
    intro r hv
    have j:=hv
    unfold vr at hv
    refine bf (HZ r) ?_
    obtain⟨n,m,_⟩:=vZ 5 (by omega)
    rw[m]
    unfold wd;rw[ax j]
    have i:encodeRune r=(encodeRuneZ r).map fun x=>x.toNat.toUInt8:=rfl
    by_cases h1:r<128
    · rw[ax h1]
      refine bQ rfl (zdG ?_ ?_)
      · intro x hx
        simp only[List.mem_singleton] at hx
        subst hx;rw[wa _ (by omega)];exact⟨by omega,by omega⟩
      · congr 1
        refine tB ?_
        rw[mW,i,encodeRuneZ_one (by omega) (by omega),wa _ (by omega)]<;>rfl
    · rw[ap h1]
      by_cases h2:r<2048
      · rw[ax h2]
        refine bM rfl (cA (gO (gO ?_)))
        simp only[fX]
        show zce _ _ r [0,0] 1=_
        rw[wb (by omega) (by omega) (by omega) (by decide) (by decide),show (1:Int)-1=0 by rfl,Dq]
        have e:ly .i64 1 (8-2)=64:=by decide
        rw[e]
        refine gO (gO (gO (gO (gO (bf (a:=0) rfl ?_)))))
        rw[wa _ (by omega)]
        show aU (∀x∈[256-64+r / 64,128+r % 64],U8 x) (some (jp [256-64+r / 64,128+r % 64]))=_
        refine zdG (by intro x hx;simp only[aY,cX,or_false] at hx;rcases hx with rfl | rfl<;>exact⟨by omega,by omega⟩) ?_
        congr 1
        refine tB ?_
        rw[mW,i,encodeRuneZ_two (by omega) (by omega)]<;>rfl
      · rw[ap h2]
        by_cases h3:r<65536
        · rw[ax h3]
          refine bM rfl (cA (gO (gO ?_)))
          simp only[fX]
          show zce _ _ r [0,0,0] 2=_
          rw[wb (by omega) (by omega) (by omega) (by decide) (by decide)]
          show zce _ _ (r / 64) [0,0,128+r % 64] 1=_
          rw[wb (by omega) (by omega) (by omega) (by simp) (by simp),show (1:Int)-1=0 by rfl,Dq]
          have e:ly .i64 1 (8-3)=32:=by decide
          rw[e]
          refine gO (gO (gO (gO (gO (bf (a:=0) rfl ?_)))))
          rw[wa _ (by omega)]
          show aU (∀x∈[256-32+r / 64 / 64,128+r / 64 % 64,128+r % 64],U8 x) (some (jp [256-32+r / 64 / 64,128+r / 64 % 64,128+r % 64]))=_
          refine zdG (by intro x hx;simp only[aY,cX,or_false] at hx;rcases hx with rfl | rfl | rfl<;>exact⟨by omega,by omega⟩) ?_
          congr 1
          refine tB ?_
          rw[mW,i,encodeRuneZ_three (by omega),show r / 64 / 64=r / 4096 by omega]<;>rfl
        · rw[ap h3]
          refine bM rfl (cA (gO (gO ?_)))
          simp only[fX]
          show zce _ _ r [0,0,0,0] 3=_
          rw[wb (by omega) (by omega) (by omega) (by decide) (by decide)]
          show zce _ _ (r / 64) [0,0,0,128+r % 64] 2=_
          rw[wb (by omega) (by omega) (by omega) (by simp) (by simp)]
          show zce _ _ (r / 64 / 64) [0,0,128+r / 64 % 64,128+r % 64] 1=_
          rw[wb (by omega) (by omega) (by omega) (by simp) (by simp),show (1:Int)-1=0 by rfl,Dq]
          have e:ly .i64 1 (8-4)=16:=by decide
          rw[e]
          refine gO (gO (gO (gO (gO (bf (a:=0) rfl ?_)))))
          rw[wa _ (by omega)]
          show aU (∀x∈[256-16+r / 64 / 64 / 64,128+r / 64 / 64 % 64,128+r / 64 % 64,128+r % 64],U8 x) (some (jp [256-16+r / 64 / 64 / 64,128+r / 64 / 64 % 64,128+r / 64 % 64,128+r % 64]))=_
          refine zdG (by intro x hx;simp only[aY,cX,or_false] at hx;rcases hx with rfl | rfl | rfl | rfl<;>exact⟨by omega,by omega⟩) ?_
          congr 1
          refine tB ?_
          rw[mW,i,encodeRuneZ_four (by omega) (by omega),show r / 64 / 64 / 64=r / 262144 by omega,show r / 64 / 64 % 64=r / 4096 % 64 by omega]<;>rfl
  unfold rp
  refine cA (bf (Dp r) ?_)
  by_cases h:vr r
  · exact bM (by simp[h]) (key r h)
  · refine bQ (by simp[h]) ((key 65533 (by decide)).trans ?_)
    congr 1
    unfold ac
    rw[validRune_eq,validRune_eq]
    have e1:validRune r=false:=by unfold validRune;exact aj h
    rw[e1];rfl
section
variable {R X A B:Type} {xs:List X}
theorem lX {k:Nat} {x:X} (h:xs[k]?=some x):zcx xs (k:Int)=some x:=gw h
theorem mE {k:Nat} {x:X} (h:xs[k]?=some x):decide ((k:Int)<(xs.length:Int))=true:=au (by have:=(az.1 h).1;omega)
theorem me:decide ((xs.length:Int)<(xs.length:Int))=false:=aj (by omega)
theorem jt {k:Nat} (h:k≤4611686018427387904):cp ((k:Int)+1):=⟨by omega,by omega⟩
theorem n0 {k:Nat} {x:X} (h:xs[k]?=some x):k<xs.length:=(az.1 h).1
theorem qE {F:(A→Int→Option R)→A→Int→Option R} {bot:A→Int→Option R} {f:A→X→A} {J:A→Option R} (Inv:Nat→A→Prop)
  (e:∀ag k x a,xs[k]?=some x→Inv k a→F ag a (k:Int)=ag (f a x) ((k:Int)+1)) (i:∀k x a,xs[k]?=some x→Inv k a→Inv (k+1) (f a x))
  (he:∀ag a,Inv xs.length a→F ag a (xs.length:Int)=J a) {n:Nat} (g:xs.length<n) {a:A} (h0:Inv 0 a):zaC bot F n a 0=J (xs.foldl f a):=by
 have key:∀ (n k:Nat) (a:A),k≤xs.length→xs.length-k<n→Inv k a→zaC bot F n a (k:Int)=J ((xs.drop k).foldl f a):=by
  intro n
  induction n with
  |zero=>intro k a _ h;omega
  |succ n d=>
   intro k a hk g hi
   rw[fX]
   by_cases h:k<xs.length
   ·have hx:xs[k]?=some xs[k]:=aO h
    rw[e _ k _ a hx hi,bB h,bn]
    exact d (k+1) _ (by omega) (by omega) (i k _ a hx hi)
   ·have:k=xs.length:=by omega
    subst this
    rw[he _ a hi,gg];rfl
 have:=key n 0 a (cm _) (by omega) h0
 simpa using this
theorem H0 {F:(A→B→Int→Option R)→A→B→Int→Option R} {bot:A→B→Int→Option R} {f:A×B→X→A×B} {J:A→B→Option R} (Inv:Nat→A×B→Prop)
  (e:∀ag k x (a:A×B),xs[k]?=some x→Inv k a→F ag a.1 a.2 (k:Int)=ag (f a x).1 (f a x).2 ((k:Int)+1)) (i:∀k x a,xs[k]?=some x→Inv k a→Inv (k+1) (f a x))
  (he:∀ag (a:A×B),Inv xs.length a→F ag a.1 a.2 (xs.length:Int)=J a.1 a.2) {n:Nat} (g:xs.length<n) {a:A×B} (h0:Inv 0 a):zaC bot F n a.1 a.2 0=J (xs.foldl f a).1 (xs.foldl f a).2:=by
 have key:∀ (n k:Nat) (a:A×B),k≤xs.length→xs.length-k<n→Inv k a→zaC bot F n a.1 a.2 (k:Int)=J ((xs.drop k).foldl f a).1 ((xs.drop k).foldl f a).2:=by
  intro n
  induction n with
  |zero=>intro k a _ h;omega
  |succ n d=>
   intro k a hk g hi
   rw[fX]
   by_cases h:k<xs.length
   ·have hx:xs[k]?=some xs[k]:=aO h
    rw[e _ k _ a hx hi,bB h,bn]
    exact d (k+1) _ (by omega) (by omega) (i k _ a hx hi)
   ·have:k=xs.length:=by omega
    subst this
    rw[he _ a hi,gg];rfl
 have:=key n 0 a (cm _) (by omega) h0
 simpa using this
theorem xU {F:(Int→Option R)→Int→Option R} {bot:Int→Option R} {g:X→Option (Option R)} {J:Option R}
  (d:∀ (ag:Int→Option R) (k:Nat) (x:X),xs[k]?=some x→F ag (k:Int)=(g x).getD (ag ((k:Int)+1))) (he:∀ag,F ag (xs.length:Int)=J) {n:Nat} (e:xs.length<n):zaC bot F n 0=(xs.findSome? g).getD J:=by
 have key:∀ (n k:Nat),k≤xs.length→xs.length-k<n→zaC bot F n (k:Int)=((xs.drop k).findSome? g).getD J:=by
  intro n
  induction n with
  |zero=>intro k _ h;omega
  |succ n a=>
   intro k hk e
   rw[fX]
   by_cases h:k<xs.length
   ·have hx:xs[k]?=some xs[k]:=aO h
    rw[d _ k _ hx,bB h,dp]
    have:=a (k+1) (by omega) (by omega)
    push_cast at this
    rw[this]
    cases g xs[k]<;>rfl
   ·have:k=xs.length:=by omega
    subst this
    rw[he,gg];rfl
 have:=key n 0 (cm _) (by omega)
 simpa using this
end
theorem kF {n:Nat} (h:n≤4611686018427387904):n<zbC:=by unfold zbC;omega
abbrev xV:ae:=⟨#[196,132,196,152,196,174,197,178,196,133,196,153,196,175,197,179]⟩
abbrev xW:ae:=⟨#[195,135,196,162,196,182,196,187,197,133,197,150,197,158,197,162,195,167,196,163,196,183,196,188,197,134,197,151,197,159,197,163]⟩
abbrev xX:ae:=⟨#[196,140,196,142,196,154,196,189,197,135,197,152,197,160,197,164,197,189,196,141,196,143,196,155,196,190,197,136,197,153,197,161,197,165,197,190]⟩
abbrev xY:ae:=⟨#[67,68,69,76,78,82,83,84,90,99,100,101,108,110,114,115,116,122]⟩
abbrev xZ:ae:=⟨#[195,132,195,139,195,143,195,150,195,156,195,164,195,171,195,175,195,182,195,188,195,191,197,184,208,129,208,135,209,145,209,151,206,170,206,171,207,138,207,139]⟩
abbrev x0:ae:=⟨#[65,69,73,79,85,97,101,105,111,117,121,89,208,149,208,134,208,181,209,150,206,153,206,165,206,185,207,133]⟩
abbrev x8:ae:=⟨#[196,138,196,150,196,160,196,176,197,187,196,139,196,151,196,161,197,188]⟩
abbrev ya:ae:=⟨#[196,130,196,148,196,158,196,172,197,142,197,172,196,131,196,149,196,159,196,173,197,143,197,173,208,153,208,142,208,185,209,158]⟩
abbrev yb:ae:=⟨#[65,69,71,73,79,85,97,101,103,105,111,117,208,152,208,163,208,184,209,131]⟩
abbrev yc:ae:=⟨#[196,128,196,146,196,170,197,140,197,170,196,129,196,147,196,171,197,141,197,171]⟩
abbrev yd:ae:=⟨#[195,131,195,145,195,149,195,163,195,177,195,181,196,168,197,168,196,169,197,169]⟩
abbrev ye:ae:=⟨#[195,130,195,138,195,142,195,148,195,155,195,162,195,170,195,174,195,180,195,187,196,136,196,156,196,164,196,180,197,156,197,180,197,182,196,137,196,157,196,165,196,181,197,157,197,181,197,183]⟩
abbrev yf:ae:=⟨#[65,69,73,79,85,97,101,105,111,117,67,71,72,74,83,87,89,99,103,104,106,115,119,121]⟩
abbrev yg:ae:=⟨#[206,134,206,136,206,137,206,138,206,140,206,142,206,143,206,172,206,173,206,174,206,175,207,140,207,141,207,142,208,131,208,140,209,147,209,156,206,144,206,176]⟩
abbrev yh:ae:=⟨#[206,145,206,149,206,151,206,153,206,159,206,165,206,169,206,177,206,181,206,183,206,185,206,191,207,133,207,137,208,147,208,154,208,179,208,186,207,138,207,139]⟩
abbrev yi:ae:=⟨#[195,129,195,137,195,141,195,147,195,154,195,157,195,161,195,169,195,173,195,179,195,186,195,189,196,134,196,185,197,131,197,148,197,154,197,185,196,135,196,186,197,132,197,149,197,155,197,186]⟩
abbrev yj:ae:=⟨#[65,69,73,79,85,89,97,101,105,111,117,121,67,76,78,82,83,90,99,108,110,114,115,122]⟩
abbrev yk:ae:=⟨#[195,128,195,136,195,140,195,146,195,153,195,160,195,168,195,172,195,178,195,185,208,128,208,141,209,144,209,157]⟩
abbrev yl:ae:=⟨#[65,69,73,79,85,97,101,105,111,117,208,149,208,152,208,181,208,184]⟩
def wc  : Option (List gL) := some ([(⟨(⟨#[204,128]⟩:ae),yl,yk⟩:gL),(⟨(⟨#[204,129]⟩:ae),yj,yi⟩:gL),(⟨(⟨#[204,129]⟩:ae),yh,yg⟩:gL),(⟨(⟨#[204,130]⟩:ae),yf,ye⟩:gL),(⟨(⟨#[204,131]⟩:ae),(⟨#[65,78,79,97,110,111,73,85,105,117]⟩:ae),yd⟩:gL),(⟨(⟨#[204,132]⟩:ae),(⟨#[65,69,73,79,85,97,101,105,111,117]⟩:ae),yc⟩:gL),(⟨(⟨#[204,134]⟩:ae),yb,ya⟩:gL),(⟨(⟨#[204,135]⟩:ae),(⟨#[67,69,71,73,90,99,101,103,122]⟩:ae),x8⟩:gL),(⟨(⟨#[204,136]⟩:ae),x0,xZ⟩:gL),(⟨(⟨#[204,138]⟩:ae),(⟨#[65,85,97,117]⟩:ae),(⟨#[195,133,197,174,195,165,197,175]⟩:ae)⟩:gL),(⟨(⟨#[204,139]⟩:ae),(⟨#[79,85,111,117]⟩:ae),(⟨#[197,144,197,176,197,145,197,177]⟩:ae)⟩:gL),(⟨(⟨#[204,140]⟩:ae),xY,xX⟩:gL),(⟨(⟨#[204,167]⟩:ae),(⟨#[67,71,75,76,78,82,83,84,99,103,107,108,110,114,115,116]⟩:ae),xW⟩:gL),(⟨(⟨#[204,168]⟩:ae),(⟨#[65,69,73,85,97,101,105,117]⟩:ae),xV⟩:gL)]:List gL)
theorem H1  {r:(List gL)} (h:wc=some r):Fn prog 83 [] [] (fun v0:Value=>v0) (fun v0=>[p5 v0 r]):=by
 unfold wc at h
 refine _root_.Go.Proofs.YtifpjbgnikjglaaGreatDoor.Fn.intro func83 rfl ntmps83 (by simp) (fun w0 K=>zyG (zyR 1 rfl (zyH (zbb (v:=.agg #[.string (⟨#[204,128]⟩:ae),.string yl,.string yk]) (ps:=[(0,.const (.string (⟨#[204,128]⟩:ae))),(1,.const (.string yl)),(2,.const (.string yk))]) rfl dc rfl (fun _=>by kernel_rfl) (zbb (v:=.agg #[.string (⟨#[204,129]⟩:ae),.string yj,.string yi]) (ps:=[(0,.const (.string (⟨#[204,129]⟩:ae))),(1,.const (.string yj)),(2,.const (.string yi))]) rfl dc rfl (fun _=>by kernel_rfl) (zbb (v:=.agg #[.string (⟨#[204,129]⟩:ae),.string yh,.string yg]) (ps:=[(0,.const (.string (⟨#[204,129]⟩:ae))),(1,.const (.string yh)),(2,.const (.string yg))]) rfl dc rfl (fun _=>by kernel_rfl) (zbb (v:=.agg #[.string (⟨#[204,130]⟩:ae),.string yf,.string ye]) (ps:=[(0,.const (.string (⟨#[204,130]⟩:ae))),(1,.const (.string yf)),(2,.const (.string ye))]) rfl dc rfl (fun _=>by kernel_rfl) (zbb (v:=.agg #[.string (⟨#[204,131]⟩:ae),.string (⟨#[65,78,79,97,110,111,73,85,105,117]⟩:ae),.string yd]) (ps:=[(0,.const (.string (⟨#[204,131]⟩:ae))),(1,.const (.string (⟨#[65,78,79,97,110,111,73,85,105,117]⟩:ae))),(2,.const (.string yd))]) rfl dc rfl (fun _=>by kernel_rfl) (zbb (v:=.agg #[.string (⟨#[204,132]⟩:ae),.string (⟨#[65,69,73,79,85,97,101,105,111,117]⟩:ae),.string yc]) (ps:=[(0,.const (.string (⟨#[204,132]⟩:ae))),(1,.const (.string (⟨#[65,69,73,79,85,97,101,105,111,117]⟩:ae))),(2,.const (.string yc))]) rfl dc rfl (fun _=>by kernel_rfl) (zbb (v:=.agg #[.string (⟨#[204,134]⟩:ae),.string yb,.string ya]) (ps:=[(0,.const (.string (⟨#[204,134]⟩:ae))),(1,.const (.string yb)),(2,.const (.string ya))]) rfl dc rfl (fun _=>by kernel_rfl) (zbb (v:=.agg #[.string (⟨#[204,135]⟩:ae),.string (⟨#[67,69,71,73,90,99,101,103,122]⟩:ae),.string x8]) (ps:=[(0,.const (.string (⟨#[204,135]⟩:ae))),(1,.const (.string (⟨#[67,69,71,73,90,99,101,103,122]⟩:ae))),(2,.const (.string x8))]) rfl dc rfl (fun _=>by kernel_rfl) (zbb (v:=.agg #[.string (⟨#[204,136]⟩:ae),.string x0,.string xZ]) (ps:=[(0,.const (.string (⟨#[204,136]⟩:ae))),(1,.const (.string x0)),(2,.const (.string xZ))]) rfl dc rfl (fun _=>by kernel_rfl) (zbb (v:=.agg #[.string (⟨#[204,138]⟩:ae),.string (⟨#[65,85,97,117]⟩:ae),.string (⟨#[195,133,197,174,195,165,197,175]⟩:ae)]) (ps:=[(0,.const (.string (⟨#[204,138]⟩:ae))),(1,.const (.string (⟨#[65,85,97,117]⟩:ae))),(2,.const (.string (⟨#[195,133,197,174,195,165,197,175]⟩:ae)))]) rfl dc rfl (fun _=>by kernel_rfl) (zbb (v:=.agg #[.string (⟨#[204,139]⟩:ae),.string (⟨#[79,85,111,117]⟩:ae),.string (⟨#[197,144,197,176,197,145,197,177]⟩:ae)]) (ps:=[(0,.const (.string (⟨#[204,139]⟩:ae))),(1,.const (.string (⟨#[79,85,111,117]⟩:ae))),(2,.const (.string (⟨#[197,144,197,176,197,145,197,177]⟩:ae)))]) rfl dc rfl (fun _=>by kernel_rfl) (zbb (v:=.agg #[.string (⟨#[204,140]⟩:ae),.string xY,.string xX]) (ps:=[(0,.const (.string (⟨#[204,140]⟩:ae))),(1,.const (.string xY)),(2,.const (.string xX))]) rfl dc rfl (fun _=>by kernel_rfl) (zbb (v:=.agg #[.string (⟨#[204,167]⟩:ae),.string (⟨#[67,71,75,76,78,82,83,84,99,103,107,108,110,114,115,116]⟩:ae),.string xW]) (ps:=[(0,.const (.string (⟨#[204,167]⟩:ae))),(1,.const (.string (⟨#[67,71,75,76,78,82,83,84,99,103,107,108,110,114,115,116]⟩:ae))),(2,.const (.string xW))]) rfl dc rfl (fun _=>by kernel_rfl) (zbb (v:=.agg #[.string (⟨#[204,168]⟩:ae),.string (⟨#[65,69,73,85,97,101,105,117]⟩:ae),.string xV]) (ps:=[(0,.const (.string (⟨#[204,168]⟩:ae))),(1,.const (.string (⟨#[65,69,73,85,97,101,105,117]⟩:ae))),(2,.const (.string xV))]) rfl dc rfl (fun _=>by kernel_rfl) (fE (cs:=[.string (⟨#[204,128]⟩:ae),.string yl,.string yk,.string (⟨#[204,129]⟩:ae),.string yj,.string yi,.string (⟨#[204,129]⟩:ae),.string yh,.string yg,.string (⟨#[204,130]⟩:ae),.string yf,.string ye,.string (⟨#[204,131]⟩:ae),.string (⟨#[65,78,79,97,110,111,73,85,105,117]⟩:ae),.string yd,.string (⟨#[204,132]⟩:ae),.string (⟨#[65,69,73,79,85,97,101,105,111,117]⟩:ae),.string yc,.string (⟨#[204,134]⟩:ae),.string yb,.string ya,.string (⟨#[204,135]⟩:ae),.string (⟨#[67,69,71,73,90,99,101,103,122]⟩:ae),.string x8,.string (⟨#[204,136]⟩:ae),.string x0,.string xZ,.string (⟨#[204,138]⟩:ae),.string (⟨#[65,85,97,117]⟩:ae),.string (⟨#[195,133,197,174,195,165,197,175]⟩:ae),.string (⟨#[204,139]⟩:ae),.string (⟨#[79,85,111,117]⟩:ae),.string (⟨#[197,144,197,176,197,145,197,177]⟩:ae),.string (⟨#[204,140]⟩:ae),.string xY,.string xX,.string (⟨#[204,167]⟩:ae),.string (⟨#[67,71,75,76,78,82,83,84,99,103,107,108,110,114,115,116]⟩:ae),.string xW,.string (⟨#[204,168]⟩:ae),.string (⟨#[65,69,73,85,97,101,105,117]⟩:ae),.string xV]) (te:=137) (ps:=[(0,.tmp 1),(1,.tmp 2),(2,.tmp 3),(3,.tmp 4),(4,.tmp 5),(5,.tmp 6),(6,.tmp 7),(7,.tmp 8),(8,.tmp 9),(9,.tmp 10),(10,.tmp 11),(11,.tmp 12),(12,.tmp 13),(13,.tmp 14)]) rfl dc rfl (fun _=>by kernel_rfl) (fun b1=>?_)))))))))))))))))))
 refine zyR 1 rfl (mA ([(⟨(⟨#[204,128]⟩:ae),yl,yk⟩:gL),(⟨(⟨#[204,129]⟩:ae),yj,yi⟩:gL),(⟨(⟨#[204,129]⟩:ae),yh,yg⟩:gL),(⟨(⟨#[204,130]⟩:ae),yf,ye⟩:gL),(⟨(⟨#[204,131]⟩:ae),(⟨#[65,78,79,97,110,111,73,85,105,117]⟩:ae),yd⟩:gL),(⟨(⟨#[204,132]⟩:ae),(⟨#[65,69,73,79,85,97,101,105,111,117]⟩:ae),yc⟩:gL),(⟨(⟨#[204,134]⟩:ae),yb,ya⟩:gL),(⟨(⟨#[204,135]⟩:ae),(⟨#[67,69,71,73,90,99,101,103,122]⟩:ae),x8⟩:gL),(⟨(⟨#[204,136]⟩:ae),x0,xZ⟩:gL),(⟨(⟨#[204,138]⟩:ae),(⟨#[65,85,97,117]⟩:ae),(⟨#[195,133,197,174,195,165,197,175]⟩:ae)⟩:gL),(⟨(⟨#[204,139]⟩:ae),(⟨#[79,85,111,117]⟩:ae),(⟨#[197,144,197,176,197,145,197,177]⟩:ae)⟩:gL),(⟨(⟨#[204,140]⟩:ae),xY,xX⟩:gL),(⟨(⟨#[204,167]⟩:ae),(⟨#[67,71,75,76,78,82,83,84,99,103,107,108,110,114,115,116]⟩:ae),xW⟩:gL),(⟨(⟨#[204,168]⟩:ae),(⟨#[65,69,73,85,97,101,105,117]⟩:ae),xV⟩:gL)]:List gL) (k:=0) rfl CY rfl (show 14≤maxLen by decide) (zyN (zaz ?_)))
 cases h
 exact eB (rs:=[.tmp 0]) (.slice (some ⟨b1,0,none⟩) 14 14) (.inl rfl) results83 (.cons (.tmp rfl) .nil) rfl (cj 1)
def zeW (d:Int) (a:Int) (k:Option Int) (q1:gL) (g:Int→Option Int) (e:Int):Option Int := aM (decide ((e:Int)<((eH q1.e1).length:Int))) (cn (fun (h:Option Int)=>aT (zcx (eH q1.e1) e) fun (q2:Int)=>aM ((q2:Int)==d) (aU (q1.e0.size≤1073741824) <|aT (zcx (eH q1.e0) 0) fun (j:Int)=>aM ((j:Int)==a) (aT (zcx (eH q1.e2) e) fun (i:Int)=>some i) (h)) (h)) (aU (cp (e+1)) <|g (e+1))) (k)
def zfA (d:Int) (a:Int) (i:Option Int) (r1:(List gL)) (g:Int→Option Int) (e:Int):Option Int := aM (decide ((e:Int)<(r1.length:Int))) (cn (fun (h:Option Int)=>aT (zcx r1 e) fun (q1:gL)=>aU (q1.e1.size≤1073741824) <|aU (q1.e2.size≤1073741824) <|zaC (fun _=>none) (zeW d a h q1) zbC 0) (aU (cp (e+1)) <|g (e+1))) (i)
def we (d:Int) (a:Int):Option Int := cn (fun (e:Option Int)=>aT (wc) fun (r1:(List gL))=>zaC (fun _=>none) (zfA d a e r1) zbC 0) (some 0)
theorem PF {e:Int} {a:Int} {r:Int} (h:we e a=some r):dB prog 41 [.int .i32 e,.int .i32 a] (.int .i32 r):=by
 unfold we at h
 refine dB.intro func41 rfl ntmps41 (by simp) (fun w0 K=>zbp h fun j1 a3 h=>zaM (β:=Unit) 1 rfl (fun b=>j1=some r) (fun b=>[]) (fun b=>[]) (fun b=>[]) (fun cut=>?_) ?_)
 ·refine zyG (zyR 1 rfl (zyN (cut (zyG (zbl h fun r1 a0 h=>zbJ (vs:=[]) rfl dc rfl rfl rfl Hb (H1 a0) ah (fun v1=>gK (k:=0) rfl dc rfl rfl mu (zyR 1 rfl (zyN (zau (eO (β:=Nat×Int) (fun b=>zaC (fun _=>none) (zfA e a j1 r1) b.1 b.2=some r) (fun b=>[]) (fun b=>[(0,.int .i32 e),(1,.int .i32 a),(10,v1),(11,zI (r1.length:Int)),(12,zI b.2)]) (fun b=>[p5 v1 r1]) (fun b=>b.1) (zbC,0) h rfl (bE rfl) (cj 1) ?_))))))))))
  rintro⟨Y,E⟩ h
  cases Y with
  |zero=>exact eG h
  |succ Y=>
   obtain⟨bb,C⟩:∃ag,ag=zaC (fun _=>none) (zfA e a j1 r1) Y:=⟨_,rfl⟩
   have h:zfA e a j1 r1 bb E=some r:=by rw[C];exact h
   unfold zfA at h
   refine zyG (zaR rfl zbi (zyN (zaL (zyB rfl h (fun h=>?_) (fun h=>?_)))))
   ·refine bA (ct (zbp h fun Z a2 h=>zaM (β:=Unit) 0 rfl (fun b=>Z=some r) (fun b=>[]) (fun b=>[(0,.int .i32 e),(1,.int .i32 a),(10,v1),(11,zI (r1.length:Int)),(12,zI E)]) (fun b=>[p5 v1 r1]) (fun cut=>?_) ?_))
    ·refine cut (zau (zyG (zbl h fun q1 T h=>eY (k:=0) T mu Ai rfl dc rfl rfl rfl rfl (mz (i:=(E:Int).toNat) (j:=0) (k:=0) (q:=q1) (cs:=(py q1)) GU CY rfl dc rfl rfl (ep T) rfl rfl rfl (zbk GV rfl dc (fun b1=>eK (k:=1) (vs:=(py q1)) (l':=(py q1)) Ai rfl rfl rfl rfl rfl (show _≤_ by simp) rfl rfl (zyN (zaL (zbt h fun a8 h=>zbt h fun a7 h=>vp 2 (let G:(Value×Value)→List (Nat×Nat×Value):=fun b=>[(0,16,.pointer (some ⟨b1,1,none⟩)),(1,17,.string q1.e1),(2,18,b.1),(3,19,.pointer (some ⟨b1,2,none⟩)),(4,20,.string q1.e2),(5,21,b.2),(6,7,b.1)];let V:(Nat→Prop)→(Value×Value)→List Asn:=fun D b=>[p5 v1 r1,cells b1 (py q1) 137,eD D cy [(2,er b.1 (eH q1.e1))],eD D cy [(5,er b.2 (eH q1.e2))]];?_))))))))))
     have v:tz [2,5] V:=fun i h D b=>bZ rfl (bZ rfl (bZ (qC rfl h) (bZ (qC rfl h) rfl)))
     refine vo (β:=Value×Value) 7 ((.slice none 0 0:Value),(.slice none 0 0:Value)) G V mixed kr kr dc (fun _=>rfl) (ln (bZ oI (bZ oI rfl))) (lC v rfl (fun _=>rfl) (fun _=>rfl) (fun D ⟨l,g⟩ n d c u i=>⟨_,(ln (bZ (dO (fun t=>n (c 1 _ rfl (c 2 _ rfl t 1 dc) 0 dc)) fi) rfl)),oH dc iB gG rfl dc (zbA (by rfl) rfl) rfl (show _=1 from rfl) (zaT 0 u i)⟩) (lC v rfl (fun _=>rfl) (fun _=>rfl) (fun D ⟨l,g⟩ n d c u i=>⟨_,(ln (bZ (dO (fun t=>n (c 2 _ rfl t 1 dc)) fi) rfl)),zat (k:=1) eb rfl dc (bC 0 u d) rfl rfl (zaT 1 u i)⟩) (lA ?_ (lC v rfl (fun _=>rfl) (fun _=>rfl) (fun D ⟨l,g⟩ n d c u i=>⟨_,(su (bZ (dO (fun t=>n (c 4 _ rfl (c 5 _ rfl t 4 dc) 3 dc)) fi) rfl)),oH dc iB gG rfl dc (zbA (by rfl) rfl) rfl (show _=2 from rfl) (zaT 3 u i)⟩) (lC v rfl (fun _=>rfl) (fun _=>rfl) (fun D ⟨l,g⟩ n d c u i=>⟨_,(su (bZ (dO (fun t=>n (c 5 _ rfl t 4 dc)) fi) rfl)),zat (k:=1) eb rfl dc (bC 3 u d) rfl rfl (zaT 4 u i)⟩) (lA ?_ (px v (fun _=>rfl) (fun _=>rfl) 1 6 (fun _=>rfl) rfl oz))))))) ?_
     ·intro D b I hd U
      obtain⟨aw,g⟩:=b
      exact km (ln (bZ (dO I fi) rfl)) (vt a8 rfl dc (jG (m:=1) rfl rfl (hd 1 dc)) al bo aZ (fun l=>pp 2 rfl rfl (lL (b:=(aw,g)) (l,g) 2 (by rfl) (by rfl) rfl (De (dV (fun t=>absurd t I) (AD (dV (fun t=>absurd (U 6 _ rfl t 2 dc) I) rfl)))) (ln (bZ (il (jf rfl) rfl) (bZ (ir (by rfl)) rfl))))))
     ·intro D b I hd U
      obtain⟨l,ao⟩:=b
      exact km (su (bZ (dO I fi) rfl)) (vt a7 rfl dc (jG (m:=4) rfl rfl (hd 4 dc)) al bo aZ (fun g=>pp 3 rfl rfl (lL (b:=(l,ao)) (l,g) 5 (by rfl) (by rfl) rfl (Df (dV (fun t=>absurd t I) (dV (fun _=>rfl) rfl))) (ln (bZ (ir (by rfl)) (bZ (il (jf rfl) rfl) rfl))))))
     intro D b hall
     obtain⟨l,g⟩:=b
     refine km (ln (bZ (il (hall 2 dc) rfl) (bZ (il (hall 5 dc) rfl) rfl))) (zyR 1 rfl (zyH (zyR 1 rfl (gK (k:=2) rfl dc rfl rfl bo (zyR 1 rfl (zyN (zau (eO (β:=Nat×Int) (fun b=>zaC (fun _=>none) (zeW e a Z q1) b.1 b.2=some r) (fun b=>[]) (fun b=>[(0,.int .i32 e),(1,.int .i32 a),(6,zP b1),(7,l),(8,g),(10,v1),(11,zI (r1.length:Int)),(12,zI E),(23,zI ((eH q1.e1).length:Int)),(24,zI b.2)]) (fun b=>[cells b1 (py q1) 137,er l (eH q1.e1),er g (eH q1.e2),p5 v1 r1]) (fun b=>b.1) (zbC,0) h rfl (bE rfl) (cg [1,2,3,0] kr rfl) ?_))))))))
     rintro⟨W,H⟩ h
     cases W with
     |zero=>exact eG h
     |succ W=>
      obtain⟨a9,w⟩:∃ag,ag=zaC (fun _=>none) (zeW e a Z q1) W:=⟨_,rfl⟩
      have h:zeW e a Z q1 a9 H=some r:=by rw[w];exact h
      unfold zeW at h
      refine zyG (zaR rfl zbi (zyN (zaL (zyB rfl h (fun h=>?_) (fun h=>?_)))))
      ·refine bA (ct (zbp h fun j3 a1 h=>zaM (β:=Unit) 0 rfl (fun b=>j3=some r) (fun b=>[]) (fun b=>[(0,.int .i32 e),(1,.int .i32 a),(6,zP b1),(7,l),(8,g),(10,v1),(11,zI (r1.length:Int)),(12,zI E),(23,zI ((eH q1.e1).length:Int)),(24,zI H)]) (fun b=>[cells b1 (py q1) 137,er l (eH q1.e1),er g (eH q1.e2),p5 v1 r1]) (fun cut=>?_) ?_))
       ·refine cut (zau (zyG (zyR 2 rfl (zyH (zyR 2 rfl (zbl h fun q2 O h=>eY (k:=1) O bo k6 rfl dc rfl rfl rfl rfl (fW (i:=(H:Int).toNat) (j:=0) (k:=1) (q:=q2) eP jI rfl dc rfl rfl (ep O) rfl dc rfl (zyR 1 rfl (zaR rfl zbe (zyR 1 rfl (zyS (s:=33) rfl h (fun h=>?_) (fun h=>?_))))))))))))
        ·refine oH dc iB gG rfl dc rfl rfl (show _=0 from rfl) (zat (k:=0) eb rfl dc rfl rfl rfl (zbt h fun a6 h=>vt a6 rfl dc rfl al bo aZ (fun v4=>zbl h fun q3 M h=>eY (k:=4) M bo k6 rfl dc rfl rfl rfl rfl (fW (i:=(0:Int).toNat) (j:=0) (k:=4) (q:=q3) eP jI rfl dc rfl rfl (ep M) rfl dc rfl (zyR 1 rfl (zaR rfl zbe (zyR 1 rfl (zyN (zyB rfl h (fun h=>?_) (fun h=>?_))))))))))
         ·refine zyG (zyR 2 rfl (zbl h fun q4 J h=>eY (k:=2) J bo k6 rfl dc rfl rfl rfl rfl (fW (i:=(H:Int).toNat) (j:=0) (k:=2) (q:=q4) eP jI rfl dc rfl rfl (ep J) rfl dc rfl (zyR 1 rfl (zyN (zaz (cD (bP (bP (cD (cD (bP (bP (cD (bP ?_)))))))))))))))
          cases h
          exact cZ 4 results41
         exact bA (ca (mD () h 4))
        exact zyR 8 rfl (zyN (eh rfl (bA (ca (mD () h 4)))))
       rintro _ h
       rw[a1] at h
       refine bV (zbt h fun a5 h=>zaR rfl (dE (r:=H+1) (ai _ a5)) (zyR 1 rfl (bG ?_)))
       subst w
       exact aD (W,H+1) h 4
      exact dF (bU (bU (dG (ca (cH () h rfl (bE rfl) (cg [3] kr rfl))))))
    rintro _ h
    rw[a2] at h
    refine bV (zbt h fun a4 h=>zaR rfl (dE (r:=E+1) (ai _ a4)) (zyR 1 rfl (bG ?_)))
    subst C
    exact aD (Y,E+1) h 1
   exact dF (bU (bU (dG (cH () h rfl (qo) ah))))
 rintro _ h
 rw[a3] at h
 refine zyG (zyR 1 rfl (zyN (zaz ?_)))
 cases h
 exact cZ 4 results41
def ze9 (a:Int→Option (List Int)) (r1:Int) (i:Option (List Int)) (q1:gL) (e:Int→Option (List Int)) (d:Int):Option (List Int) := aM (decide ((d:Int)<((eH q1.e2).length:Int))) (aT (zcx (eH q1.e2) d) fun (q2:Int)=>aM ((q2:Int)==r1) (aT (zcx (eH q1.e1) d) fun (h:Int)=>aT (a h) fun (r3:(List Int))=>aU (q1.e0.size≤1073741824) <|aT (zcx (eH q1.e0) 0) fun (g:Int)=>aU (r3.length+1≤2147483648) <|some (r3++[g])) (aU (cp (d+1)) <|e (d+1))) (i)
def zfa (a:Int→Option (List Int)) (r1:Int) (h:Option (List Int)) (r2:(List gL)) (e:Int→Option (List Int)) (d:Int):Option (List Int) := aM (decide ((d:Int)<(r2.length:Int))) (cn (fun (g:Option (List Int))=>aT (zcx r2 d) fun (q1:gL)=>aU (q1.e1.size≤1073741824) <|aU (q1.e2.size≤1073741824) <|zaC (fun _=>none) (ze9 a r1 g q1) zbC 0) (aU (cp (d+1)) <|e (d+1))) (h)
def ut (a:Int→Option (List Int)) (r1:Int):Option (List Int) := cn (fun (d:Option (List Int))=>aT (wc) fun (r2:(List gL))=>zaC (fun _=>none) (zfa a r1 d r2) zbC 0) (some ([r1]:List Int))
def wg (r1:Int):Option (List Int):=zaC (fun _=>none) ut zbC r1
theorem PG (n:Nat):∀ {r1:Int} {r:(List Int)} (_:zaC (fun _=>none) ut n r1=some r),Fn prog 58 [.int .i32 r1] [] (fun v0:Value=>v0) (fun v0=>[er v0 r]):=by
 induction n with
 |zero=>intro r1 r h;exact eG h
 |succ n G=>
 intro r1 r h
 rw[FSz] at h
 revert G h
 generalize zaC (fun _=>none) ut n=v
 intro G h
 unfold ut at h
 refine _root_.Go.Proofs.YtifpjbgnikjglaaGreatDoor.Fn.intro func58 rfl ntmps58 (by simp) (fun w0 K=>zbp h fun j1 a5 h=>zaM (β:=Unit) 1 rfl (fun b=>j1=some r) (fun b=>[]) (fun b=>[(0,.int .i32 r1)]) (fun b=>[]) (fun cut=>?_) ?_)
 ·refine zyG (zyR 1 rfl (zyN (cut (zyG (zbl h fun r2 a3 h=>zbJ (vs:=[]) rfl dc rfl rfl rfl Hb (H1 a3) ah (fun v1=>gK (k:=0) rfl dc rfl rfl mu (zyR 1 rfl (zyN (zau (eO (β:=Nat×Int) (fun b=>zaC (fun _=>none) (zfa v r1 j1 r2) b.1 b.2=some r) (fun b=>[]) (fun b=>[(0,.int .i32 r1),(8,v1),(9,zI (r2.length:Int)),(10,zI b.2)]) (fun b=>[p5 v1 r2]) (fun b=>b.1) (zbC,0) h rfl (bE rfl) (cj 1) ?_))))))))))
  rintro⟨n1,V⟩ h
  cases n1 with
  |zero=>exact eG h
  |succ n1=>
   obtain⟨bs,I⟩:∃ag,ag=zaC (fun _=>none) (zfa v r1 j1 r2) n1:=⟨_,rfl⟩
   have h:zfa v r1 j1 r2 bs V=some r:=by rw[I];exact h
   unfold zfa at h
   refine zyG (zaR rfl zbi (zyN (zaL (zyB rfl h (fun h=>?_) (fun h=>?_)))))
   ·refine bA (ct (zbp h fun j2 a4 h=>zaM (β:=Unit) 0 rfl (fun b=>j2=some r) (fun b=>[]) (fun b=>[(0,.int .i32 r1),(8,v1),(9,zI (r2.length:Int)),(10,zI V)]) (fun b=>[p5 v1 r2]) (fun cut=>?_) ?_))
    ·refine cut (zau (zyG (zbl h fun q1 aw h=>eY (k:=0) aw mu Ai rfl dc rfl rfl rfl rfl (mz (i:=(V:Int).toNat) (j:=0) (k:=0) (q:=q1) (cs:=(py q1)) GU CY rfl dc rfl rfl (ep aw) rfl rfl rfl (zbk GV rfl dc (fun b1=>eK (k:=1) (vs:=(py q1)) (l':=(py q1)) Ai rfl rfl rfl rfl rfl (show _≤_ by simp) rfl rfl (zyN (zaL (zbt h fun bh h=>zbt h fun bb h=>vp 2 (let U:(Value×Value)→List (Nat×Nat×Value):=fun b=>[(0,14,.pointer (some ⟨b1,1,none⟩)),(1,15,.string q1.e1),(2,16,b.1),(3,17,.pointer (some ⟨b1,2,none⟩)),(4,18,.string q1.e2),(5,19,b.2),(6,5,b.1)];let a0:(Nat→Prop)→(Value×Value)→List Asn:=fun D b=>[p5 v1 r2,cells b1 (py q1) 137,eD D cy [(2,er b.1 (eH q1.e1))],eD D cy [(5,er b.2 (eH q1.e2))]];?_))))))))))
     have E:tz [2,5] a0:=fun i h D b=>bZ rfl (bZ rfl (bZ (qC rfl h) (bZ (qC rfl h) rfl)))
     refine vo (β:=Value×Value) 7 ((.slice none 0 0:Value),(.slice none 0 0:Value)) U a0 mixed kr kr dc (fun _=>rfl) (ln (bZ oI (bZ oI rfl))) (lC E rfl (fun _=>rfl) (fun _=>rfl) (fun D ⟨w,C⟩ n d c u i=>⟨_,(ln (bZ (dO (fun e=>n (c 1 _ rfl (c 2 _ rfl e 1 dc) 0 dc)) fi) rfl)),oH dc iB gG rfl dc (zbA (by rfl) rfl) rfl (show _=1 from rfl) (zaT 0 u i)⟩) (lC E rfl (fun _=>rfl) (fun _=>rfl) (fun D ⟨w,C⟩ n d c u i=>⟨_,(ln (bZ (dO (fun e=>n (c 2 _ rfl e 1 dc)) fi) rfl)),zat (k:=1) eb rfl dc (bC 0 u d) rfl rfl (zaT 1 u i)⟩) (lA ?_ (lC E rfl (fun _=>rfl) (fun _=>rfl) (fun D ⟨w,C⟩ n d c u i=>⟨_,(su (bZ (dO (fun e=>n (c 4 _ rfl (c 5 _ rfl e 4 dc) 3 dc)) fi) rfl)),oH dc iB gG rfl dc (zbA (by rfl) rfl) rfl (show _=2 from rfl) (zaT 3 u i)⟩) (lC E rfl (fun _=>rfl) (fun _=>rfl) (fun D ⟨w,C⟩ n d c u i=>⟨_,(su (bZ (dO (fun e=>n (c 5 _ rfl e 4 dc)) fi) rfl)),zat (k:=1) eb rfl dc (bC 3 u d) rfl rfl (zaT 4 u i)⟩) (lA ?_ (px E (fun _=>rfl) (fun _=>rfl) 1 6 (fun _=>rfl) rfl oz))))))) ?_
     ·intro D b g hd a
      obtain⟨M,C⟩:=b
      exact km (ln (bZ (dO g fi) rfl)) (vt bh rfl dc (jG (m:=1) rfl rfl (hd 1 dc)) al bo aZ (fun w=>pp 2 rfl rfl (lL (b:=(M,C)) (w,C) 2 (by rfl) (by rfl) rfl (De (dV (fun e=>absurd e g) (AD (dV (fun e=>absurd (a 6 _ rfl e 2 dc) g) rfl)))) (ln (bZ (il (jf rfl) rfl) (bZ (ir (by rfl)) rfl))))))
     ·intro D b g hd a
      obtain⟨w,J⟩:=b
      exact km (su (bZ (dO g fi) rfl)) (vt bb rfl dc (jG (m:=4) rfl rfl (hd 4 dc)) al bo aZ (fun C=>pp 3 rfl rfl (lL (b:=(w,J)) (w,C) 5 (by rfl) (by rfl) rfl (Df (dV (fun e=>absurd e g) (dV (fun _=>rfl) rfl))) (ln (bZ (ir (by rfl)) (bZ (il (jf rfl) rfl) rfl))))))
     intro D b hall
     obtain⟨w,C⟩:=b
     refine km (ln (bZ (il (hall 2 dc) rfl) (bZ (il (hall 5 dc) rfl) rfl))) (zyR 1 rfl (zyH (zyR 1 rfl (gK (k:=3) rfl dc rfl rfl bo (zyR 1 rfl (zyN (zau (eO (β:=Nat×Int) (fun b=>zaC (fun _=>none) (ze9 v r1 j2 q1) b.1 b.2=some r) (fun b=>[]) (fun b=>[(0,.int .i32 r1),(4,zP b1),(5,w),(6,C),(8,v1),(9,zI (r2.length:Int)),(10,zI V),(21,zI ((eH q1.e2).length:Int)),(22,zI b.2)]) (fun b=>[cells b1 (py q1) 137,er w (eH q1.e1),er C (eH q1.e2),p5 v1 r2]) (fun b=>b.1) (zbC,0) h rfl (bE rfl) (cg [1,2,3,0] kr rfl) ?_))))))))
     rintro⟨n2,O⟩ h
     cases n2 with
     |zero=>exact eG h
     |succ n2=>
      obtain⟨bk,H⟩:∃ag,ag=zaC (fun _=>none) (ze9 v r1 j2 q1) n2:=⟨_,rfl⟩
      have h:ze9 v r1 j2 q1 bk O=some r:=by rw[H];exact h
      unfold ze9 at h
      refine zyG (zaR rfl zbi (zyN (zaL (zyB rfl h (fun h=>?_) (fun h=>?_)))))
      ·refine bA (ct (zaL (zau (zyG (zyR 2 rfl (zyH (zyR 2 rfl (zbl h fun q2 ao h=>eY (k:=2) ao bo k6 rfl dc rfl rfl rfl rfl (fW (i:=(O:Int).toNat) (j:=0) (k:=2) (q:=q2) eP jI rfl dc rfl rfl (ep ao) rfl dc rfl (zyR 1 rfl (zaR rfl zbe (zyN (zyB rfl h (fun h=>?_) (fun h=>?_))))))))))))))
       ·refine zaL (zbl h fun q3 Z h=>zbl h fun r3 a2 h=>zbt h fun a9 h=>zbl h fun W Y h=>zbt h fun a8 h=>vp 3 (let T:(Value×Value×Nat)→List (Nat×Nat×Value):=fun b=>[(0,31,w),(1,32,zI O),(2,33,.pointer (some ⟨gn w,(O:Int).toNat*1,none⟩)),(3,34,.int .i32 q3),(4,35,b.1),(5,36,zP b1),(6,37,.string q1.e0),(7,38,b.2.1),(8,39,.pointer (some ⟨gn b.2.1,(0:Int).toNat*1,none⟩)),(9,40,.int .i32 W),(10,41,.slice (some ⟨b.2.2,0,none⟩) 1 1)];let b0:(Nat→Prop)→(Value×Value×Nat)→List Asn:=fun D b=>[cells b1 (py q1) 137,er w (eH q1.e1),er C (eH q1.e2),p5 v1 r2,eD D cy [(4,er b.1 r3)],eD D cy [(7,er b.2.1 (eH q1.e0))],eD D cy [(10,cells b.2.2 [.int .i32 W] 21)]];(vo (β:=Value×Value×Nat) 11 ((.slice none 0 0:Value),(.slice none 0 0:Value),(0:Nat)) T b0 mixed kr kr dc (fun _=>rfl) (nN (bZ oI (bZ oI (bZ oI rfl)))) (lA ?_ (lA ?_ (lA ?_ (lA ?_ (lA ?_ (lA ?_ (lA ?_ (lA ?_ (lA ?_ (lA ?_ (lA ?_ oz))))))))))) ?_)))
        ·intro D b g hd a
         obtain⟨s,l,t⟩:=b
         exact km (nN (bZ (dO (fun e=>g (a 2 _ rfl (a 3 _ rfl (a 4 _ rfl e 3 dc) 2 dc) 0 dc)) fi) (ln rfl))) (BZ rfl dc (zbA (by rfl) rfl) (lL (b:=(s,l,t)) (s,l,t) 0 (by rfl) (by rfl) rfl (tx rfl) (nN (bZ ((ir (by rfl)).trans (dO (fun e=>g (a 2 _ rfl (a 3 _ rfl (a 4 _ rfl e 3 dc) 2 dc) 0 dc)) fi)) (bZ (ir (by rfl)) (bZ (ir (by rfl)) rfl))))))
        ·intro D b g hd a
         obtain⟨s,l,t⟩:=b
         exact km (nN (bZ (dO (fun e=>g (a 2 _ rfl (a 3 _ rfl (a 4 _ rfl e 3 dc) 2 dc) 1 dc)) fi) (ln rfl))) (BZ rfl dc (zbA (by rfl) rfl) (lL (b:=(s,l,t)) (s,l,t) 1 (by rfl) (by rfl) rfl (tx rfl) (nN (bZ ((ir (by rfl)).trans (dO (fun e=>g (a 2 _ rfl (a 3 _ rfl (a 4 _ rfl e 3 dc) 2 dc) 1 dc)) fi)) (bZ (ir (by rfl)) (bZ (ir (by rfl)) rfl))))))
        ·intro D b g hd a
         obtain⟨s,l,t⟩:=b
         exact km (nN (bZ (dO (fun e=>g (a 3 _ rfl (a 4 _ rfl e 3 dc) 2 dc)) fi) (ln rfl))) (eY (k:=1) Z bo k6 rfl dc (jG (m:=0) rfl rfl (hd 0 dc)) (jG (m:=1) rfl rfl (hd 1 dc)) rfl rfl (lL (b:=(s,l,t)) (s,l,t) 2 (by rfl) (by rfl) rfl (tx rfl) (nN (bZ ((ir (by rfl)).trans (dO (fun e=>g (a 3 _ rfl (a 4 _ rfl e 3 dc) 2 dc)) fi)) (bZ (ir (by rfl)) (bZ (ir (by rfl)) rfl))))))
        ·intro D b g hd a
         obtain⟨s,l,t⟩:=b
         exact km (nN (bZ (dO (fun e=>g (a 4 _ rfl e 3 dc)) fi) (ln rfl))) (fW (i:=(O:Int).toNat) (j:=0) (k:=1) (q:=q3) eP jI rfl dc (jG (m:=2) rfl rfl (hd 2 dc)) rfl (ep Z) rfl dc rfl (lL (b:=(s,l,t)) (s,l,t) 3 (by rfl) (by rfl) rfl (tx rfl) (nN (bZ ((ir (by rfl)).trans (dO (fun e=>g (a 4 _ rfl e 3 dc)) fi)) (bZ (ir (by rfl)) (bZ (ir (by rfl)) rfl))))))
        ·intro D b g hd a
         obtain⟨M,l,t⟩:=b
         exact km (nN (bZ (dO g fi) (ln rfl))) (zbJ (vs:=[.int .i32 q3]) rfl dc rfl (da (jG (m:=3) rfl rfl (hd 3 dc)) eJ) rfl CL (G a2) ah (fun s=>lm (L':=[cells b1 (py q1) 137,er w (eH q1.e1),er C (eH q1.e2),p5 v1 r2,cy,eD D cy [(7,er l (eH q1.e0))],eD D cy [(10,cells t [.int .i32 W] 21)],er s r3]) (cj 8) (pp 4 rfl rfl (lL (b:=(M,l,t)) (s,l,t) 4 (by rfl) (by rfl) rfl (Py (dV (fun e=>absurd e g) (Dh rfl))) (nN (bZ (il (jf rfl) rfl) (bZ (ir (by rfl)) (bZ (ir (by rfl)) rfl))))))))
        ·intro D b g hd a
         obtain⟨s,l,t⟩:=b
         exact km (vW (bZ (dO (fun e=>g (a 6 _ rfl (a 7 _ rfl e 6 dc) 5 dc)) fi) (bZ (dO (fun e=>g (a 6 _ rfl (a 7 _ rfl (a 8 _ rfl (a 9 _ rfl (a 10 _ rfl e 9 dc) 8 dc) 7 dc) 6 dc) 5 dc)) fi) rfl))) (oH dc iB gG rfl dc (zbA (by rfl) rfl) rfl (show _=0 from rfl) (lL (b:=(s,l,t)) (s,l,t) 5 (by rfl) (by rfl) rfl (tx rfl) (nN (bZ (ir (by rfl)) (bZ ((ir (by rfl)).trans (dO (fun e=>g (a 6 _ rfl (a 7 _ rfl e 6 dc) 5 dc)) fi)) (bZ ((ir (by rfl)).trans (dO (fun e=>g (a 6 _ rfl (a 7 _ rfl (a 8 _ rfl (a 9 _ rfl (a 10 _ rfl e 9 dc) 8 dc) 7 dc) 6 dc) 5 dc)) fi)) rfl))))))
        ·intro D b g hd a
         obtain⟨s,l,t⟩:=b
         exact km (vW (bZ (dO (fun e=>g (a 7 _ rfl e 6 dc)) fi) (bZ (dO (fun e=>g (a 7 _ rfl (a 8 _ rfl (a 9 _ rfl (a 10 _ rfl e 9 dc) 8 dc) 7 dc) 6 dc)) fi) rfl))) (zat (k:=0) eb rfl dc (jG (m:=5) rfl rfl (hd 5 dc)) rfl rfl (lL (b:=(s,l,t)) (s,l,t) 6 (by rfl) (by rfl) rfl (tx rfl) (nN (bZ (ir (by rfl)) (bZ ((ir (by rfl)).trans (dO (fun e=>g (a 7 _ rfl e 6 dc)) fi)) (bZ ((ir (by rfl)).trans (dO (fun e=>g (a 7 _ rfl (a 8 _ rfl (a 9 _ rfl (a 10 _ rfl e 9 dc) 8 dc) 7 dc) 6 dc)) fi)) rfl))))))
        ·intro D b g hd a
         obtain⟨s,J,t⟩:=b
         exact km (vW (bZ (dO g fi) (bZ (dO (fun e=>g (a 8 _ rfl (a 9 _ rfl (a 10 _ rfl e 9 dc) 8 dc) 7 dc)) fi) rfl))) (vt a9 rfl dc (jG (m:=6) rfl rfl (hd 6 dc)) al bo aZ (fun l=>pp 5 rfl rfl (lL (b:=(s,J,t)) (s,l,t) 7 (by rfl) (by rfl) rfl (Di (dV (fun e=>absurd e g) (dV (fun e=>absurd (a 8 _ rfl e 7 dc) g) (De rfl)))) (nN (bZ (ir (by rfl)) (bZ (il (jf rfl) rfl) (bZ ((ir (by rfl)).trans (dO (fun e=>g (a 8 _ rfl (a 9 _ rfl (a 10 _ rfl e 9 dc) 8 dc) 7 dc)) fi)) rfl)))))))
        ·intro D b g hd a
         obtain⟨s,l,t⟩:=b
         exact km (vW (bZ (il (hd 7 dc) rfl) (bZ (dO (fun e=>g (a 9 _ rfl (a 10 _ rfl e 9 dc) 8 dc)) fi) rfl))) (eY (k:=5) Y bo k6 rfl dc (jG (m:=7) rfl rfl (hd 7 dc)) rfl rfl rfl (lL (b:=(s,l,t)) (s,l,t) 8 (by rfl) (by rfl) rfl (tx rfl) (nN (bZ (ir (by rfl)) (bZ ((ir (by rfl)).trans (il (hd 7 dc) rfl)) (bZ ((ir (by rfl)).trans (dO (fun e=>g (a 9 _ rfl (a 10 _ rfl e 9 dc) 8 dc)) fi)) rfl))))))
        ·intro D b g hd a
         obtain⟨s,l,t⟩:=b
         exact km (vW (bZ (il (a 8 _ rfl (hd 8 dc) 7 dc) rfl) (bZ (dO (fun e=>g (a 10 _ rfl e 9 dc)) fi) rfl))) (fW (i:=(0:Int).toNat) (j:=0) (k:=5) (q:=W) eP jI rfl dc (jG (m:=8) rfl rfl (hd 8 dc)) rfl (ep Y) rfl dc rfl (lL (b:=(s,l,t)) (s,l,t) 9 (by rfl) (by rfl) rfl (tx rfl) (nN (bZ (ir (by rfl)) (bZ ((ir (by rfl)).trans (il (a 8 _ rfl (hd 8 dc) 7 dc) rfl)) (bZ ((ir (by rfl)).trans (dO (fun e=>g (a 10 _ rfl e 9 dc)) fi)) rfl))))))
        ·intro D b g hd a
         obtain⟨s,l,a1⟩:=b
         exact km (vW (bZ (il (a 8 _ rfl (a 9 _ rfl (hd 9 dc) 8 dc) 7 dc) rfl) (bZ (dO g fi) rfl))) (fE (cs:=[.int .i32 W]) (te:=21) (ps:=[(0,.tmp 40)]) rfl dc (fF (jG (m:=9) rfl rfl (hd 9 dc)) qg) (fun _=>by kernel_rfl) (fun t=>pp 6 rfl rfl (lL (b:=(s,l,a1)) (s,l,t) 10 (by rfl) (by rfl) rfl (Pz (dV (fun e=>absurd e g) rfl)) (nN (bZ (ir (by rfl)) (bZ ((ir (by rfl)).trans (il (a 8 _ rfl (a 9 _ rfl (hd 9 dc) 8 dc) 7 dc) rfl)) (bZ (il (jf rfl) rfl) rfl)))))))
        intro D b hall
        obtain⟨s,l,t⟩:=b
        refine km (nN (bZ (il (hall 4 dc) rfl) (bZ (il (hall 7 dc) rfl) (bZ (il (hall 10 dc) rfl) rfl)))) (iC (k:=4) (k2:=6) (ys:=[W]) bo tk jI tg rfl dc rfl rfl rfl rfl rfl rfl a8 (fun v6=>zyR 1 rfl (zyN (zaz (cD (bP (bP (cD (cD (bP (bP (cD (bP ?_)))))))))))))
        cases h
        exact eB (rs:=[.tmp 2]) v6 (.inl rfl) results58 (.cons (.tmp rfl) .nil) rfl (cg [4] kr rfl)
       refine bA (ca (ct (bV (zbt h fun a7 h=>zaR rfl (dE (r:=O+1) (ai _ a7)) (zyR 1 rfl (bG ?_))))))
       subst H
       exact aD (n2,O+1) h 4
      exact dF (bU (bU (dG (ca (cH () h rfl (bE rfl) (cg [3] kr rfl))))))
    rintro _ h
    rw[a4] at h
    refine bV (zbt h fun a6 h=>zaR rfl (dE (r:=V+1) (ai _ a6)) (zyR 1 rfl (bG ?_)))
    subst I
    exact aD (n1,V+1) h 1
   exact dF (bU (bU (dG (cH () h rfl (bE rfl) ah))))
 rintro _ h
 rw[a5] at h
 refine zyG (zyR 1 rfl (fE (cs:=[.int .i32 r1]) (te:=21) (ps:=[(0,.tmp 45)]) rfl dc rfl (fun _=>by kernel_rfl) (fun b3=>zyR 1 rfl (mA ([r1]:List Int) (k:=0) rfl jI rfl (show 1≤maxLen by decide) (zyN (zaz ?_))))))
 cases h
 exact eB (rs:=[.tmp 2]) (.slice (some ⟨b3,0,none⟩) 1 1) (.inl rfl) results58 (.cons (.tmp rfl) .nil) rfl (cj 1)
theorem H2 {r1:Int} {r:(List Int)} (h:wg r1=some r):Fn prog 58 [.int .i32 r1] [] (fun v0:Value=>v0) (fun v0=>[er v0 r]):=by
 unfold wg at h
 exact PG zbC  h
def zgL (r1:Int) (g:Option Bool) (d:Int→Option Bool) (a:Int):Option Bool := aM (decide ((a:Int)<8)) (cn (fun (e:Option Bool)=>aT (zcx ([(⟨790,793⟩:jK),(⟨796,800⟩:jK),(⟨803,819⟩:jK),(⟨825,828⟩:jK),(⟨837,841⟩:jK),(⟨845,846⟩:jK),(⟨851,854⟩:jK),(⟨857,858⟩:jK)]:List jK) a) fun (q1:jK)=>aM (decide ((q1.e0:Int)≤r1)) (aM (decide ((r1:Int)≤q1.e1)) (some true) (e)) (e)) (aU (cp (a+1)) <|d (a+1))) (g)
def wh (r1:Int):Option Bool := cn (fun (a:Option Bool)=>zaC (fun _=>none) (zgL r1 a) zbC 0) (some false)
theorem H3 {r1:Int} {r:Bool} (h:wh r1=some r):dB prog 40 [.int .i32 r1] (.bool r):=by
 unfold wh at h
 refine dB.intro func40 rfl ntmps40 (by simp) (fun w0 K=>zbp h fun i l h=>zaM (β:=Unit) 1 rfl (fun b=>i=some r) (fun b=>[]) (fun b=>[]) (fun b=>[]) (fun cut=>?_) ?_)
 ·refine zyG (zyR 1 rfl (zyN (cut (zyG (zbb (v:=.agg #[.int .i32 790,.int .i32 793]) (ps:=[(0,.const (.int .i32 790)),(1,.const (.int .i32 793))]) rfl dc rfl (fun _=>by kernel_rfl) (zbb (v:=.agg #[.int .i32 796,.int .i32 800]) (ps:=[(0,.const (.int .i32 796)),(1,.const (.int .i32 800))]) rfl dc rfl (fun _=>by kernel_rfl) (zbb (v:=.agg #[.int .i32 803,.int .i32 819]) (ps:=[(0,.const (.int .i32 803)),(1,.const (.int .i32 819))]) rfl dc rfl (fun _=>by kernel_rfl) (zbb (v:=.agg #[.int .i32 825,.int .i32 828]) (ps:=[(0,.const (.int .i32 825)),(1,.const (.int .i32 828))]) rfl dc rfl (fun _=>by kernel_rfl) (zbb (v:=.agg #[.int .i32 837,.int .i32 841]) (ps:=[(0,.const (.int .i32 837)),(1,.const (.int .i32 841))]) rfl dc rfl (fun _=>by kernel_rfl) (zbb (v:=.agg #[.int .i32 845,.int .i32 846]) (ps:=[(0,.const (.int .i32 845)),(1,.const (.int .i32 846))]) rfl dc rfl (fun _=>by kernel_rfl) (zbb (v:=.agg #[.int .i32 851,.int .i32 854]) (ps:=[(0,.const (.int .i32 851)),(1,.const (.int .i32 854))]) rfl dc rfl (fun _=>by kernel_rfl) (zbb (v:=.agg #[.int .i32 857,.int .i32 858]) (ps:=[(0,.const (.int .i32 857)),(1,.const (.int .i32 858))]) rfl dc rfl (fun _=>by kernel_rfl) (zbb (v:=.agg #[.int .i32 790,.int .i32 793,.int .i32 796,.int .i32 800,.int .i32 803,.int .i32 819,.int .i32 825,.int .i32 828,.int .i32 837,.int .i32 841,.int .i32 845,.int .i32 846,.int .i32 851,.int .i32 854,.int .i32 857,.int .i32 858]) (ps:=[(0,.tmp 5),(1,.tmp 6),(2,.tmp 7),(3,.tmp 8),(4,.tmp 9),(5,.tmp 10),(6,.tmp 11),(7,.tmp 12)]) rfl dc rfl (fun _=>by kernel_rfl) (zyR 1 rfl (zyN (zau (eO (β:=Nat×Int) (fun b=>zaC (fun _=>none) (zgL r1 i) b.1 b.2=some r) (fun b=>[]) (fun b=>[(0,.int .i32 r1),(13,.agg #[.int .i32 790,.int .i32 793,.int .i32 796,.int .i32 800,.int .i32 803,.int .i32 819,.int .i32 825,.int .i32 828,.int .i32 837,.int .i32 841,.int .i32 845,.int .i32 846,.int .i32 851,.int .i32 854,.int .i32 857,.int .i32 858]),(14,zI b.2)]) (fun b=>[]) (fun b=>b.1) (zbC,0) h rfl (bE rfl) ah ?_)))))))))))))))))
  rintro⟨g,e⟩ h
  cases g with
  |zero=>exact eG h
  |succ g=>
   obtain⟨n,a⟩:∃ag,ag=zaC (fun _=>none) (zgL r1 i) g:=⟨_,rfl⟩
   have h:zgL r1 i n e=some r:=by rw[a];exact h
   unfold zgL at h
   refine zyG (zaR rfl zbi (zyN (zaL (zyB rfl h (fun h=>?_) (fun h=>?_)))))
   ·refine bA (ct (zbp h fun t j h=>zaM (β:=Unit) 0 rfl (fun b=>t=some r) (fun b=>[]) (fun b=>[(0,.int .i32 r1),(13,.agg #[.int .i32 790,.int .i32 793,.int .i32 796,.int .i32 800,.int .i32 803,.int .i32 819,.int .i32 825,.int .i32 828,.int .i32 837,.int .i32 841,.int .i32 845,.int .i32 846,.int .i32 851,.int .i32 854,.int .i32 857,.int .i32 858]),(14,zI e)]) (fun b=>[]) (fun cut=>?_) ?_))
    ·refine cut (zau (zyG (zbl h fun q1 d h=>mS (v:=.agg #[.int .i32 q1.e0,.int .i32 q1.e1]) rfl dc rfl rfl (Mf (enc:=CX) (xs:=([(⟨790,793⟩:jK),(⟨796,800⟩:jK),(⟨803,819⟩:jK),(⟨825,828⟩:jK),(⟨837,841⟩:jK),(⟨845,846⟩:jK),(⟨851,854⟩:jK),(⟨857,858⟩:jK)]:List jK)) (q:=q1) underlying134 GQ rfl Hy d (fun _=>Mg (enc:=CX) M6 Hy (ep d))) (zbk M7 rfl dc (fun b1=>eK (k:=0) (vs:=[.int .i32 q1.e0,.int .i32 q1.e1]) (l':=[.int .i32 q1.e0,.int .i32 q1.e1]) GQ rfl rfl rfl rfl rfl (show _≤_ by simp) rfl rfl (zyH (zyR 1 rfl (oH dc underlying126 k6 rfl dc rfl rfl (show _=0 from rfl) (zat (k:=0) eP rfl dc rfl rfl rfl (zaR rfl zbF (zyR 1 rfl (zyS (s:=21) rfl h (fun h=>?_) (fun h=>?_)))))))))))))
     ·refine zyR 1 rfl (oH dc underlying126 k6 rfl dc rfl rfl (show _=1 from rfl) (zat (k:=0) eP rfl dc rfl rfl rfl (zaR rfl hQ (zyR 1 rfl (zyN (zyB rfl h (fun h=>?_) (fun h=>?_)))))))
      ·refine zyG (zyR 1 rfl (zyN (zaz (cD (bP (bP (cD (bP ?_))))))))
       cases h
       exact cZ 2 results40
      exact bA (ca (cH () h rfl (bE rfl) ah))
     exact zyR 5 rfl (zyN (eh rfl (bA (ca (cH () h rfl (bE rfl) ah)))))
    rintro _ h
    rw[j] at h
    refine bV (zbt h fun m h=>zaR rfl (dE (r:=e+1) (ai _ m)) (zyR 1 rfl (bG ?_)))
    subst a
    exact ni (g,e+1) h (cq _) rfl (bE rfl) ah
   exact dF (bU (bU (dG (cH () h rfl (qo) ah))))
 rintro _ h
 rw[l] at h
 refine zyG (zyR 1 rfl (zyN (zaz ?_)))
 cases h
 exact cZ 2 results40
def rq (r1:Int):Option Bool := aU (fl r1) <|aM (great r1) (some true) (aU (fl r1) <|some (nZ r1))
theorem ym {r1:Int} {r:Bool} (h:rq r1=some r):dB prog 81 [.int .i32 r1] (.bool r):=by
 unfold rq at h
 refine dB.intro func81 rfl ntmps81 (by simp) (fun w0 K=>zyG (zyR 1 rfl (zyH (zyR 1 rfl (zbt h fun d h=>zaI (v:=.bool (great r1)) (vs:=[.int .i32 r1]) rfl dc rfl rfl rfl Hi (mw fun w=>tr r1 w d.1 d.2) (zyR 1 rfl (zyS (s:=5) rfl h (fun h=>?_) (fun h=>?_))))))))
 ·refine zyR 4 rfl (zyN (zaz ?_))
  cases h
  exact cZ 2 results81
 refine zyR 1 rfl (zbt h fun a h=>zaI (v:=.bool (nZ r1)) (vs:=[.int .i32 r1]) rfl dc rfl rfl rfl G6 (mw fun w=>vS r1 w a.1 a.2) (zyR 2 rfl (zyN (zaz ?_))))
 cases h
 exact cZ 2 results81
def qF (r1:Int):Option Bool := aM (decide ((768:Int)≤r1)) (some (decide ((r1:Int)≤879))) (some false)
theorem yn {r1:Int} {r:Bool} (h:qF r1=some r):dB prog 102 [.int .i32 r1] (.bool r):=by
 unfold qF at h
 refine dB.intro func102 rfl ntmps102 (by simp) (fun w0 K=>zyG (zyR 1 rfl (zyH (zyR 1 rfl (zaR rfl zbF (zyR 1 rfl (zyS (s:=5) rfl h (fun h=>?_) (fun h=>?_))))))))
 ·refine zyR 1 rfl (zaR rfl hQ (zyR 2 rfl (zyN (zaz ?_))))
  cases h
  exact cZ 2 results102
 refine zyR 4 rfl (zyN (zaz ?_))
 cases h
 exact cZ 2 results102
def sy (x1:bK):Option Bool := aM (decide ((0:Int)≤x1.Rune)) (aT (rq x1.Rune) fun (r1:Bool)=>some r1) (some false)
theorem yo {x1:bK} {r:Bool} (h:sy x1=some r):dB prog 38 [.agg (fO x1).toArray] (.bool r):=by
 unfold sy at h
 refine dB.intro func38 rfl ntmps38 (by simp) (fun w0 K=>zyG (zeV rfl dc rfl (fun b1=>zyR 1 rfl (zyH (zab zdh rfl dc rfl (show _=0 from rfl) (zat (k:=0) eP rfl dc rfl rfl rfl (zaR rfl zbF (zyR 1 rfl (zyS (s:=6) rfl h (fun h=>?_) (fun h=>?_))))))))))
 ·refine zab zdh rfl dc rfl (show _=0 from rfl) (zat (k:=0) eP rfl dc rfl rfl rfl (zbl h fun r1 a h=>zaI (v:=.bool r1) (vs:=[.int .i32 x1.Rune]) rfl dc rfl rfl rfl xz (ym a) (zyR 2 rfl (zyN (zaz ?_)))))
  cases h
  exact cZ 2 results38
 refine zyR 5 rfl (zyN (zaz ?_))
 cases h
 exact cZ 2 results38
def yp (x1:bK):Option Bool := aM (decide ((0:Int)≤x1.Rune)) (aT (qF x1.Rune) fun (r1:Bool)=>some r1) (some false)
theorem PH {x1:bK} {r:Bool} (h:yp x1=some r):dB prog 82 [.agg (fO x1).toArray] (.bool r):=by
 unfold yp at h
 refine dB.intro func82 rfl ntmps82 (by simp) (fun w0 K=>zyG (zeV rfl dc rfl (fun b1=>zyR 1 rfl (zyH (zab zdh rfl dc rfl (show _=0 from rfl) (zat (k:=0) eP rfl dc rfl rfl rfl (zaR rfl zbF (zyR 1 rfl (zyS (s:=6) rfl h (fun h=>?_) (fun h=>?_))))))))))
 ·refine zab zdh rfl dc rfl (show _=0 from rfl) (zat (k:=0) eP rfl dc rfl rfl rfl (zbl h fun r1 a h=>zaI (v:=.bool r1) (vs:=[.int .i32 x1.Rune]) rfl dc rfl rfl rfl xA (yn a) (zyR 2 rfl (zyN (zaz ?_)))))
  cases h
  exact cZ 2 results82
 refine zyR 5 rfl (zyN (zaz ?_))
 cases h
 exact cZ 2 results82
def zfN (k:ae) (l:(List bK)→Option (List bK)) (r1:(List cT)) (e:(List bK)→Int→Option (List bK)) (d:List bK) (a:Int):Option (List bK) := aM (decide ((a:Int)<(r1.length:Int))) (cn (fun (g:Int→ae→Int→Option (List bK))=>aT (zcx r1 a) fun (q1:cT)=>aT (Do k q1) fun (r2:ae)=>aM (q1.Broken) (g (-1) r2 q1.At) (g q1.Rune r2 q1.At)) (fun (j:Int) (i:ae) (h:Int)=>aU (d.length+1≤2147483648) <|aU (cp (a+1)) <|e (d++[(⟨j,i,h⟩:bK)]) (a+1))) (l d)
def rr (a:ae):Option (List bK) := cn (fun (e:(List bK)→Option (List bK))=>aT (xT a) fun (r1:(List cT))=>zaC (fun _ _=>none) (zfN a e r1) zbC ([]:List bK) 0) (fun (d:List bK)=>some d)
theorem wi {g:ae} {r:(List bK)} (h:rr g=some r):Fn prog 37 [.string g] [] (fun v0:Value=>v0) (fun v0=>[eI v0 r]):=by
 unfold rr at h
 refine _root_.Go.Proofs.YtifpjbgnikjglaaGreatDoor.Fn.intro func37 rfl ntmps37 (by simp) (fun w0 K=>zbp h fun T W h=>zaM (β:=(List bK)×Value) 2 rfl (fun b=>T b.1=some r) (fun b=>[]) (fun b=>[(3,b.2)]) (fun b=>[eI b.2 b.1]) (fun cut=>?_) ?_)
 ·refine zyG (zyR 1 rfl (zyH (zyR 1 rfl (zyN (cut (zyG (zyR 1 rfl (zbl h fun r1 U h=>zbJ (vs:=[.string g]) rfl dc rfl rfl rfl NL (PD U) ah (fun t=>gK (k:=0) rfl dc rfl rfl cI (zyR 1 rfl (zyN (zau (mU (enc:=oL) (e:=81) (size:=3) (eO (β:=Nat×(List bK)×Int×Value) (fun b=>zaC (fun _ _=>none) (zfN g T r1) b.1 b.2.1 b.2.2.1=some r) (fun b=>[]) (fun b=>[(0,.string g),(3,b.2.2.2),(8,t),(9,zI (r1.length:Int)),(10,zI b.2.2.1)]) (fun b=>[eI b.2.2.2 b.2.1,pc t r1]) (fun b=>b.1) (zbC,([]:List bK),0,(.slice none 0 0)) h rfl (bE rfl) (cg [1,0] kr rfl) ?_))))))))))))))
  rintro⟨O,C,s,M⟩ h
  cases O with
  |zero=>exact eG h
  |succ O=>
   obtain⟨ao,m⟩:∃ag,ag=zaC (fun _ _=>none) (zfN g T r1) O:=⟨_,rfl⟩
   have h:zfN g T r1 ao C s=some r:=by rw[m];exact h
   unfold zfN at h
   refine zyG (zaR rfl zbi (zyN (zaL (zyB rfl h (fun h=>?_) (fun h=>?_)))))
   ·refine bA (ct (zaL (zau (zbp h fun j2 V h=>zaM (β:=Int×ae×Int×Nat) 2 rfl (fun b=>j2 b.1 b.2.1 b.2.2.1=some r) (fun b=>[]) (fun b=>[(0,.string g),(3,M),(6,zP b.2.2.2),(8,t),(9,zI (r1.length:Int)),(10,zI s)]) (fun b=>[eI M C,cells b.2.2.2 [.int .i32 b.1,.string b.2.1,zI b.2.2.1] 81,pc t r1]) (fun cut=>zyG (zbl h fun q1 G h=>eY (k:=1) G cI kC rfl dc rfl rfl rfl rfl (mz (i:=(s:Int).toNat) (j:=0) (k:=1) (q:=q1) (cs:=[zI q1.At,zI q1.Width,.int .i32 q1.Rune,.bool q1.Broken]) lB Ax rfl dc rfl rfl (ep G) rfl rfl rfl (zbk zjz rfl dc (fun b2=>eK (k:=2) (vs:=[zI q1.At,zI q1.Width,.int .i32 q1.Rune,.bool q1.Broken]) (l':=[zI q1.At,zI q1.Width,.int .i32 q1.Rune,.bool q1.Broken]) kC rfl rfl rfl rfl rfl (show _≤_ by simp) rfl rfl (zyN (zaL (zbl h fun r2 E h=>zL (β:=Nat) 9 8 _ [(0,14,.pointer (some ⟨b2,2,none⟩)),(1,15,.int .i32 q1.Rune),(2,16,.string g),(3,17,.agg #[zI q1.At,zI q1.Width,.int .i32 q1.Rune,.bool q1.Broken]),(4,18,.string r2),(5,19,zP b2),(6,20,zI q1.At),(7,21,.agg #[.int .i32 q1.Rune,.string r2,zI q1.At])] (fun l=>[(6,zP l)]) (fun l=>[eI M C,pc t r1,cells b2 [zI q1.At,zI q1.Width,.int .i32 q1.Rune,.bool q1.Broken] 132,cells l [.int .i32 0,.string ByteArray.empty,zI 0] 81]) mixed kr kr rfl dc dc (by rfl) kr kr (gE (fun D n d c u i=>zab pZ rfl dc (zbA (by rfl) rfl) (show _=2 from rfl) (zaT 0 u i)) (gE (fun D n d c u i=>zat (k:=2) eP rfl dc (bC 0 u d) rfl rfl (zaT 1 u i)) (AJ 1 2 rfl (gE (fun D n d c u i=>zbT (k:=2) (cs:=[zI q1.At,zI q1.Width,.int .i32 q1.Rune,.bool q1.Broken]) lB rfl dc (zbA (by rfl) rfl) rfl rfl rfl (zaT 3 u i)) (gE (fun D n d c u i=>zaI (v:=.string r2) (vs:=[.string g,.agg #[zI q1.At,zI q1.Width,.int .i32 q1.Rune,.bool q1.Broken]]) rfl dc rfl (da (bC 2 u d) (da (bC 3 u d) eJ)) rfl Ha (HX (p1:=q1) E) (zaT 4 u i)) (gE (fun D n d c u i=>zab zd6 rfl dc (zbA (by rfl) rfl) (show _=0 from rfl) (zaT 5 u i)) (gE (fun D n d c u i=>zat (k:=2) dQ rfl dc (bC 5 u d) rfl rfl (zaT 6 u i)) (gE (fun D n d c u i=>zbb (v:=.agg #[.int .i32 q1.Rune,.string r2,zI q1.At]) (ps:=[(0,.tmp 15),(1,.tmp 18),(2,.tmp 20)]) rfl dc (fF (bC 1 u d) (fF (bC 4 u d) (fF (bC 6 u d) qg))) (fun _=>by kernel_rfl) (zaT 7 u i)) (td io))))))))) (fun l=>(gE (fun D n d c u i=>zab pZ rfl dc (zbA (by rfl) rfl) (show _=2 from rfl) (zaT 0 u i)) (gE (fun D n d c u i=>zat (k:=2) eP rfl dc (bC 0 u d) rfl rfl (zaT 1 u i)) (AJ 1 2 rfl (gE (fun D n d c u i=>zbT (k:=2) (cs:=[zI q1.At,zI q1.Width,.int .i32 q1.Rune,.bool q1.Broken]) lB rfl dc (zbA (by rfl) rfl) rfl rfl rfl (zaT 3 u i)) (gE (fun D n d c u i=>zaI (v:=.string r2) (vs:=[.string g,.agg #[zI q1.At,zI q1.Width,.int .i32 q1.Rune,.bool q1.Broken]]) rfl dc rfl (da (bC 2 u d) (da (bC 3 u d) eJ)) rfl Ha (HX (p1:=q1) E) (zaT 4 u i)) (gE (fun D n d c u i=>zab zd6 rfl dc (zbA (by rfl) rfl) (show _=0 from rfl) (zaT 5 u i)) (gE (fun D n d c u i=>zat (k:=2) dQ rfl dc (bC 5 u d) rfl rfl (zaT 6 u i)) (gE (fun D n d c u i=>zbb (v:=.agg #[.int .i32 q1.Rune,.string r2,zI q1.At]) (ps:=[(0,.tmp 15),(1,.tmp 18),(2,.tmp 20)]) rfl dc (fF (bC 1 u d) (fF (bC 4 u d) (fF (bC 6 u d) qg))) (fun _=>by kernel_rfl) (zaT 7 u i)) (td io)))))))))) (fun D hn hd aw=>zbk zoE rfl dc (fun l=>fun a w ha hw=>⟨l,FJ (by rfl) _ _ _ ha,hw⟩)) (fun l=>eK (k:=3) (vs:=[.int .i32 q1.Rune,.string r2,zI q1.At]) (l':=[.int .i32 q1.Rune,.string r2,zI q1.At]) gH rfl rfl rfl rfl rfl (show _≤_ by simp) rfl rfl (zyN (cut (zyG (zab Ah rfl dc rfl (show _=3 from rfl) (zat (k:=2) lW rfl dc rfl rfl rfl (zyN (zyB rfl h (fun h=>bV (zab zdh rfl dc rfl (show _=0 from rfl) (ef (k:=3) (l':=[.int .i32 (-1),.string r2,zI q1.At]) k6 rfl rfl rfl rfl rfl (fun _ _=>rfl) rfl (bG (cH ((-1),r2,q1.At,l) h rfl (bE rfl) (cg [0,3,1] kr rfl)))))) (fun h=>bA (cH (q1.Rune,r2,q1.At,l) h rfl (bE rfl) (cg [0,3,1] kr rfl))))))))))))))))))) ?_))))
    rintro⟨J,I,H,b1⟩ h
    rw[V] at h
    refine bV (zyR 1 rfl (zbT (k:=1) (cs:=[.int .i32 J,.string I,zI H]) lM rfl dc rfl rfl rfl rfl (fE (cs:=[.int .i32 J,.string I,zI H]) (te:=81) (ps:=[(0,.tmp 26)]) rfl dc rfl (fun _=>by kernel_rfl) (fun b4=>zbt h fun Z h=>iC (k:=0) (k2:=3) (ys:=[(⟨J,I,H⟩:bK)]) aF tn js tq rfl dc rfl rfl rfl rfl rfl rfl Z (fun v6=>zyR 1 rfl (bG (ca (ct (bV (zbt h fun Y h=>zaR rfl (dE (r:=s+1) (ai _ Y)) (zyR 1 rfl (bG ?_))))))))))))
    subst m
    exact ni (O,C++[(⟨J,I,H⟩:bK)],s+1,v6) h (cq _) rfl (bE rfl) (cg [0,2] kr rfl)
   exact dF (bU (bU (dG (mD (C,M) h 1))))
 rintro⟨l1,v1⟩ h
 rw[W] at h
 refine zyG (zyR 2 rfl (zyN (zaz ?_)))
 cases h
 exact eB (rs:=[.tmp 2]) v1 (.inl rfl) results37 (.cons (.tmp rfl) .nil) rfl (cj 1)
def zgi (g:List bK) (h:ae→Option ae) (e:ae→Int→Option ae) (d:ae) (a:Int):Option ae := aM (decide ((a:Int)<(g.length:Int))) (aT (zcx g a) fun (q1:bK)=>aU (d.size+q1.Text.size≤9223372036854775807) <|aU (cp (a+1)) <|e (d++q1.Text) (a+1)) (h d)
def uu (d:List bK):Option ae := cn (fun (e:ae→Option ae)=>zaC (fun _ _=>none) (zgi d e) zbC (⟨#[]⟩:ae) 0) (fun (a:ae)=>some a)
theorem Dt {d g:Value} {t:List bK} {l:Nat} {n:List bK} (a:Vw d t 3 l g n) {r:ae} (h:uu n=some r):iu prog 112 [g] [iX oL 3 d l t] [] (fun _:Unit=>(.string r)) (fun _=>[]):=by
 unfold uu at h
 refine iu.intro func112 rfl ntmps112 (by simp) (fun w0 K D=>zbp h fun w E h=>zaM (β:=ae) 2 rfl (fun b=>w b=some r) (fun b=>[]) (fun b=>[(3,.string b)]) (fun b=>[]) (fun cut=>?_) ?_)
 ·refine zyG (zyR 1 rfl (zyH (zyR 1 rfl (zyN (cut (zyG (zyR 1 rfl (zbV a rfl dc rfl aF (zyR 1 rfl (zyN (zau (eO (β:=Nat×ae×Int) (fun b=>zaC (fun _ _=>none) (zgi n w) b.1 b.2.1 b.2.2=some r) (fun b=>[]) (fun b=>[(3,.string b.2.1),(6,g),(7,zI (n.length:Int)),(8,zI b.2.2)]) (fun b=>[]) (fun b=>b.1) (zbC,(⟨#[]⟩:ae),0) (by exact h) rfl (bE rfl) ah ?_))))))))))))
  rintro⟨v,C,u⟩ h
  cases v with
  |zero=>exact eG h
  |succ v=>
   obtain⟨I,e⟩:∃ag,ag=zaC (fun _ _=>none) (zgi n w) v:=⟨_,rfl⟩
   have h:zgi n w I C u=some r:=by rw[e];exact h
   unfold zgi at h
   refine zyG (zaR rfl zbi (zyN (zaL (zyB rfl h (fun h=>?_) (fun h=>?_)))))
   ·refine bA (ct (zaL (zau (zyG (zbl h fun q1 s h=>fm a s aF gH rfl dc rfl rfl rfl (pq (m:=l+(u:Int).toNat) (j:=0) (i:=0) (q:=q1) (cs:=(fO q1)) D rfl (by omega) lM rfl dc rfl (bX a s) rfl rfl rfl (zbk zoE rfl dc (fun b1=>eK (k:=0) (vs:=(fO q1)) (l':=(fO q1)) gH rfl rfl rfl rfl rfl (show _≤_ by simp) rfl rfl (zyN (bV (zyR 1 rfl (zab qv rfl dc rfl (show _=1 from rfl) (zat (k:=0) eb rfl dc rfl rfl rfl (zbt h fun H h=>zaR rfl (lx H) (zyR 1 rfl (bG (ca (ct (bV (zbt h fun G h=>zaR rfl (dE (r:=u+1) (ai _ G)) (zyR 1 rfl (bG ?_))))))))))))))))))))))
    subst e
    exact ni (v,C++q1.Text,u+1) h (cq _) rfl (bE rfl) ah
   exact dF (bU (bU (dG (cH C h rfl (bE rfl) ah))))
 rintro J h
 rw[E] at h
 refine zyG (zyR 2 rfl (zyN (zaz ?_)))
 cases h
 exact cZ 2 results112
def wj (r1:Int) (x1:bK):Option bK := aT (rp r1) fun (r2:ae)=>some (⟨r1,r2,x1.At⟩:bK)
theorem H4 {r1:Int} {x1:bK} {r:bK} (h:wj r1 x1=some r):dB prog 42 [.int .i32 r1,.agg (fO x1).toArray] (.agg (fO r).toArray):=by
 unfold wj at h
 refine dB.intro func42 rfl ntmps42 (by simp) (fun w0 K=>zyG (zeV rfl dc rfl (fun b1=>zbk zoE rfl dc (fun e=>zyN (zaL (zbl h fun r2 a h=>zdb 5 [(0,5,.int .i32 r1),(1,6,.int .i32 r1),(2,7,.string r2),(3,8,.pointer (some ⟨b1,2,none⟩)),(4,9,zI x1.At)] mixed kr kr dc (by rfl) kr kr (zyP 2 0 rfl (zae (fun D n d c u i=>zaI (v:=.string r2) (vs:=[.int .i32 r1]) rfl dc rfl (da (bC 1 u d) eJ) rfl Aq (AK a) (zaT 2 u i)) (zae (fun D n d c u i=>zab MT rfl dc (zbA (by rfl) rfl) (show _=2 from rfl) (zaT 3 u i)) (zae (fun D n d c u i=>zat (k:=0) dQ rfl dc (bC 3 u d) rfl rfl (zaT 4 u i)) ce)))) (zbb (v:=.agg #[.int .i32 r1,.string r2,zI x1.At]) (ps:=[(0,.tmp 5),(1,.tmp 7),(2,.tmp 9)]) rfl dc rfl (fun _=>by kernel_rfl) (eK (k:=1) (vs:=[.int .i32 r1,.string r2,zI x1.At]) (l':=[.int .i32 r1,.string r2,zI x1.At]) gH rfl rfl rfl rfl rfl (show _≤_ by simp) rfl rfl (zyN (zaz ?_))))))))))
 cases h
 exact eB (rs:=[.cell 4 81]) () (.inl rfl) results42 (.cons (.cells lM (k:=1) rfl rfl rfl) .nil) rfl ah
def ze6 (e:List bK) (g:Int→Option Int) (d:Int→Option Int) (a:Int):Option Int := aM (decide ((a:Int)<(e.length:Int))) (aT (zcx e a) fun (q1:bK)=>aT (yp q1) fun (r1:Bool)=>aM (r1) (aU (cp (a+1)) <|d (a+1)) (g a)) (g a)
def uv (d:List bK):Option Int := cn (fun (e:Int→Option Int)=>zaC (fun _=>none) (ze6 d e) zbC 0) (fun (a:Int)=>some a)
theorem Du {a l:Value} {e:List bK} {t:Nat} {n:List bK} (d:Vw a e 3 t l n) {r:Int} (h:uv n=some r):Fn prog 39 [l] [eI a e] (fun _b:Unit=>zI r) (fun _b=>[eI a e]):=by
 unfold uv at h
 refine _root_.Go.Proofs.YtifpjbgnikjglaaGreatDoor.Fn.intro func39 rfl ntmps39 (by simp) (fun w0 K=>zbp h fun C E h=>zaM (β:=Int) 2 rfl (fun b=>C b=some r) (fun b=>[]) (fun b=>[(3,zI b)]) (fun b=>[eI a e]) (fun cut=>?_) ?_)
 ·refine zyG (zyR 1 rfl (zyH (zyR 1 rfl (zyN (cut (zau (eO (β:=Nat×Int) (fun b=>zaC (fun _=>none) (ze6 n C) b.1 b.2=some r) (fun b=>[]) (fun b=>[(0,l),(3,zI b.2)]) (fun b=>[eI a e]) (fun b=>b.1) (zbC,0) h rfl (bE rfl) (cj 1) ?_)))))))
  rintro⟨w,m⟩ h
  cases w with
  |zero=>exact eG h
  |succ w=>
   obtain⟨H,g⟩:∃ag,ag=zaC (fun _=>none) (ze6 n C) w:=⟨_,rfl⟩
   have h:ze6 n C H m=some r:=by rw[g];exact h
   unfold ze6 at h
   refine zaL (zyG (zyR 2 rfl (zbV d rfl dc rfl aF (zaR rfl zbi (zyR 1 rfl (zyS (s:=8) rfl h (fun h=>?_) (fun h=>?_)))))))
   ·refine zyR 2 rfl (zbl h fun q1 u h=>fm d u aF gH rfl dc rfl rfl rfl (mz (i:=t+(m:Int).toNat) (j:=0) (k:=0) (q:=q1) (cs:=(fO q1)) lM js rfl dc rfl rfl (bX d u) rfl rfl rfl (zbl h fun r1 D h=>zaI (v:=.bool r1) (vs:=[.agg (fO q1).toArray]) rfl dc rfl rfl rfl NM (PH (x1:=q1) D) (zyR 1 rfl (zyN (zyB rfl h (fun h=>?_) (fun h=>?_)))))))
    ·refine bA (ct (zau (bV (zyR 1 rfl (zbt h fun G h=>zaR rfl (dE (r:=m+1) (ai _ G)) (zyR 1 rfl (bG (ca ?_))))))))
     subst g
     exact aD (w,m+1) h 1
    exact dF (bU (bU (dG (mD m h 1))))
   exact zyR 6 rfl (zyN (eh rfl (dF (bU (bU (dG (mD m h 1)))))))
 rintro I h
 rw[E] at h
 refine zyG (zyR 2 rfl (zyN (zaz ?_)))
 cases h
 exact eB (rs:=[.tmp 2]) () (.inl rfl) results39 (.cons (.tmp rfl) .nil) rfl (cj 1)
def yq (r1:Int):Option ae := aM ((r1:Int)==223) (some (⟨#[115,115]⟩:ae)) (aM ((r1:Int)==230) (some (⟨#[97,101]⟩:ae)) (aM ((r1:Int)==248) (some (⟨#[111]⟩:ae)) (cn (fun (d:Bool→Option ae)=>aM ((r1:Int)==240) (d ((r1:Int)==240)) (d ((r1:Int)==273))) (fun (x1:Bool)=>aM (x1) (some (⟨#[100]⟩:ae)) (aM ((r1:Int)==254) (some (⟨#[116,104]⟩:ae)) (aM ((r1:Int)==295) (some (⟨#[104]⟩:ae)) (aM ((r1:Int)==305) (some (⟨#[105]⟩:ae)) (aM ((r1:Int)==307) (some (⟨#[105,106]⟩:ae)) (aM ((r1:Int)==312) (some (⟨#[113]⟩:ae)) (cn (fun (a:Bool→Option ae)=>aM ((r1:Int)==320) (a ((r1:Int)==320)) (a ((r1:Int)==322))) (fun (x2:Bool)=>aM (x2) (some (⟨#[108]⟩:ae)) (aM ((r1:Int)==329) (some (⟨#[110]⟩:ae)) (aM ((r1:Int)==331) (some (⟨#[110,103]⟩:ae)) (aM ((r1:Int)==339) (some (⟨#[111,101]⟩:ae)) (aM ((r1:Int)==359) (some (⟨#[116]⟩:ae)) (aM ((r1:Int)==383) (some (⟨#[115]⟩:ae)) (aM ((r1:Int)==962) (some (⟨#[207,131]⟩:ae)) (aT (rp r1) fun (r2:ae)=>some r2))))))))))))))))))
theorem PI {r1:Int} {r:ae} (h:yq r1=some r):dB prog 149 [.int .i32 r1] (.string r):=by
 unfold yq at h
 refine dB.intro func149 rfl ntmps149 (by simp) (fun w0 K=>zyG (zyR 1 rfl (zyN (zaL (zyG (zyR 1 rfl (zyN (zau (zyG (zaR rfl zbe (zyR 1 rfl (zyN (zyB rfl h (fun h=>?_) (fun h=>?_))))))))))))))
 ·refine zyG (zyR 1 rfl (zyN (zaz (cD (bP ?_)))))
  cases h
  exact cZ 2 dD
 refine zyG (zaR rfl zbe (zyR 1 rfl (zyN (zyB rfl h (fun h=>?_) (fun h=>?_)))))
 ·refine zyG (zyR 1 rfl (zyN (zaz (cD (bP ?_)))))
  cases h
  exact cZ 2 dD
 refine zyG (zaR rfl zbe (zyR 1 rfl (zyN (zyB rfl h (fun h=>?_) (fun h=>?_)))))
 ·refine zyG (zyR 1 rfl (zyN (zaz (cD (bP ?_)))))
  cases h
  exact cZ 2 dD
 refine zbp h fun i e h=>zaM (β:=Bool) 0 rfl (fun b=>i b=some r) (fun b=>[]) (fun b=>[(0,.int .i32 r1),(3,.int .i32 r1),(10,.bool b)]) (fun b=>[]) (fun cut=>cut (zyG (zaR rfl zbe (zyR 1 rfl (zyN (zyB rfl h (fun h=>bA (cH ((r1:Int)==240) h rfl (bE rfl) ah)) (fun h=>bV (zaR rfl zbe (zyR 1 rfl (bG (cH ((r1:Int)==273) h rfl (bE rfl) ah))))))))))) (fun x1 h=>?_)
 rw[e] at h
 refine zyB rfl h (fun h=>?_) (fun h=>?_)
 ·refine zyG (zyR 1 rfl (zyN (zaz (cD (bP ?_)))))
  cases h
  exact cZ 2 dD
 refine zyG (zaR rfl zbe (zyR 1 rfl (zyN (zyB rfl h (fun h=>?_) (fun h=>?_)))))
 ·refine zyG (zyR 1 rfl (zyN (zaz (cD (bP ?_)))))
  cases h
  exact cZ 2 dD
 refine zyG (zaR rfl zbe (zyR 1 rfl (zyN (zyB rfl h (fun h=>?_) (fun h=>?_)))))
 ·refine zyG (zyR 1 rfl (zyN (zaz (cD (bP ?_)))))
  cases h
  exact cZ 2 dD
 refine zyG (zaR rfl zbe (zyR 1 rfl (zyN (zyB rfl h (fun h=>?_) (fun h=>?_)))))
 ·refine zyG (zyR 1 rfl (zyN (zaz (cD (bP ?_)))))
  cases h
  exact cZ 2 dD
 refine zyG (zaR rfl zbe (zyR 1 rfl (zyN (zyB rfl h (fun h=>?_) (fun h=>?_)))))
 ·refine zyG (zyR 1 rfl (zyN (zaz (cD (bP ?_)))))
  cases h
  exact cZ 2 dD
 refine zyG (zaR rfl zbe (zyR 1 rfl (zyN (zyB rfl h (fun h=>?_) (fun h=>?_)))))
 ·refine zyG (zyR 1 rfl (zyN (zaz (cD (bP ?_)))))
  cases h
  exact cZ 2 dD
 refine zbp h fun g d h=>zaM (β:=Bool) 0 rfl (fun b=>g b=some r) (fun b=>[]) (fun b=>[(0,.int .i32 r1),(3,.int .i32 r1),(23,.bool b)]) (fun b=>[]) (fun cut=>cut (zyG (zaR rfl zbe (zyR 1 rfl (zyN (zyB rfl h (fun h=>bA (cH ((r1:Int)==320) h rfl (bE rfl) ah)) (fun h=>bV (zaR rfl zbe (zyR 1 rfl (bG (cH ((r1:Int)==322) h rfl (bE rfl) ah))))))))))) (fun x2 h=>?_)
 rw[d] at h
 refine zyB rfl h (fun h=>?_) (fun h=>?_)
 ·refine zyG (zyR 1 rfl (zyN (zaz (cD (bP ?_)))))
  cases h
  exact cZ 2 dD
 refine zyG (zaR rfl zbe (zyR 1 rfl (zyN (zyB rfl h (fun h=>?_) (fun h=>?_)))))
 ·refine zyG (zyR 1 rfl (zyN (zaz (cD (bP ?_)))))
  cases h
  exact cZ 2 dD
 refine zyG (zaR rfl zbe (zyR 1 rfl (zyN (zyB rfl h (fun h=>?_) (fun h=>?_)))))
 ·refine zyG (zyR 1 rfl (zyN (zaz (cD (bP ?_)))))
  cases h
  exact cZ 2 dD
 refine zyG (zaR rfl zbe (zyR 1 rfl (zyN (zyB rfl h (fun h=>?_) (fun h=>?_)))))
 ·refine zyG (zyR 1 rfl (zyN (zaz (cD (bP ?_)))))
  cases h
  exact cZ 2 dD
 refine zyG (zaR rfl zbe (zyR 1 rfl (zyN (zyB rfl h (fun h=>?_) (fun h=>?_)))))
 ·refine zyG (zyR 1 rfl (zyN (zaz (cD (bP ?_)))))
  cases h
  exact cZ 2 dD
 refine zyG (zaR rfl zbe (zyR 1 rfl (zyN (zyB rfl h (fun h=>?_) (fun h=>?_)))))
 ·refine zyG (zyR 1 rfl (zyN (zaz (cD (bP ?_)))))
  cases h
  exact cZ 2 dD
 refine zyG (zaR rfl zbe (zyR 1 rfl (zyN (zyB rfl h (fun h=>?_) (fun h=>?_)))))
 ·refine zyG (zyR 1 rfl (zyN (zaz (cD (bP ?_)))))
  cases h
  exact cZ 2 dD
 refine bA (ca (ct (zyG (zyR 1 rfl (zbl h fun r2 a h=>zaI (v:=.string r2) (vs:=[.int .i32 r1]) rfl dc rfl rfl rfl Aq (AK a) (zyR 1 rfl (zyN (zaz ?_))))))))
 cases h
 exact cZ 2 dD
def zfM (g:(List bK)→Option (List bK)) (q1:bK) (r2:(List Int)) (e:(List bK)→Int→Option (List bK)) (a:List bK) (d:Int):Option (List bK) := aM (decide ((d:Int)<(r2.length:Int))) (aT (zcx r2 d) fun (q2:Int)=>aT (wj q2 q1) fun (r3:bK)=>aU (a.length+1≤2147483648) <|aU (cp (d+1)) <|e (a++[r3]) (d+1)) (g a)
def ze8 (h:List bK) (j:(List bK)→Option (List bK)) (g:(List bK)→Int→Option (List bK)) (a:List bK) (e:Int):Option (List bK) := aM (decide ((e:Int)<(h.length:Int))) (cn (fun (i:(List bK)→Option (List bK))=>aT (zcx h e) fun (q1:bK)=>aT (sy q1) fun (r1:Bool)=>aM (!r1) (aU (a.length+1≤2147483648) <|i (a++[q1])) (aT (wg q1.Rune) fun (r2:(List Int))=>zaC (fun _ _=>none) (zfM i q1 r2) zbC a 0)) (fun (d:List bK)=>aU (cp (e+1)) <|g d (e+1))) (j a)
def ze7 (d:List bK) (h:Int) (t:Nat→(List bK)→(List bK)→(List bK)→Option (List bK)) (k:Int) (m:(List bK)→(List bK)→Int→Option (List bK)) (e:List bK) (a:List bK) (g:Int):Option (List bK) := aM (decide ((g:Int)<((dM d (h+1) ((h+1)+k)).length:Int))) (cn (fun (n:(List bK)→(List bK)→Option (List bK))=>aT (zcx (dM d (h+1) ((h+1)+k)) g) fun (l:bK)=>aT (wh l.Rune) fun (s:Bool)=>aM (s) (aU (e.length+1≤2147483648) <|n (e++[l]) a) (aU (a.length+1≤2147483648) <|n e (a++[l]))) (fun (j:List bK) (i:List bK)=>aU (cp (g+1)) <|m j i (g+1))) (t (0+(h+1:Int).toNat) (dM d (h+1) ((h+1)+k)) e a)
def zcN (j:List bK) (v:(List bK)→Option (List bK)) (m:(List bK)→Int→Option (List bK)) (a:List bK) (d:Int):Option (List bK) := aM (decide ((d:Int)<(j.length:Int))) (cn (fun (n:(List bK)→Option (List bK))=>aT (zcx a d) fun (t:bK)=>aT (sy t) fun (s:Bool)=>aM (!s) (n a) (cn (fun (u:Nat→(List bK)→(List bK)→(List bK)→Option (List bK))=>aU (cp (d+1)) <|aU (cp (d+1)) <|aU (cp (d+1)) <|aU (0≤(d+1:Int)∧(d+1:Int)≤(a.length:Int)∧((a.length:Int):Int)≤(a.length:Int)) <|aT (uv (dM a (d+1) (a.length:Int))) fun (k:Int)=>aU (cp ((d+1)+k)) <|aU (0≤(d+1:Int)∧(d+1:Int)≤((d+1)+k)∧((d+1)+k:Int)≤(a.length:Int)) <|zaC (fun _ _ _=>none) (ze7 a d u k) zbC ([]:List bK) ([]:List bK) 0) (fun (l:Nat) (i:List bK) (g:List bK) (e:List bK)=>aU (g.length+e.length≤2147483648) <|n (th a l ((g++e).take i.length))))) (fun (h:List bK)=>aU (cp (d+1)) <|m h (d+1))) (v a)
def uw (e:List bK):Option (List bK) := cn (fun (h:(List bK)→Option (List bK))=>zaC (fun _ _=>none) (ze8 e h) zbC ([]:List bK) 0) (fun (a:List bK)=>cn (fun (g:(List bK)→Option (List bK))=>zaC (fun _ _=>none) (zcN a g) zbC a 0) (fun (d:List bK)=>some d))
theorem Dv {d C:Value} {l:List bK} {a4:Nat} {J:List bK} (G:Vw d l 3 a4 C J) {r:(List bK)} (h:uw J=some r):Fn prog 36 [C] [eI d l] (fun v0:Value=>v0) (fun v0=>[eI d l,eI v0 r]):=by
 unfold uw at h
 refine _root_.Go.Proofs.YtifpjbgnikjglaaGreatDoor.Fn.intro func36 rfl ntmps36 (by simp) (fun w0 K=>zbp h fun j1 ec h=>zaM (β:=(List bK)×Value) 2 rfl (fun b=>j1 b.1=some r) (fun b=>[]) (fun b=>[(3,b.2)]) (fun b=>[eI d l,eI b.2 b.1]) (fun cut=>?_) ?_)
 ·refine zyG (zyR 1 rfl (zyH (zyR 1 rfl (zyN (cut (zyG (zyR 1 rfl (zbV G rfl dc rfl aF (zyR 1 rfl (zyN (zau (mU (enc:=oL) (e:=81) (size:=3) (eO (β:=Nat×(List bK)×Int×Value) (fun b=>zaC (fun _ _=>none) (ze8 J j1) b.1 b.2.1 b.2.2.1=some r) (fun b=>[]) (fun b=>[(3,b.2.2.2),(15,C),(16,zI (J.length:Int)),(17,zI b.2.2.1)]) (fun b=>[eI d l,eI b.2.2.2 b.2.1]) (fun b=>b.1) (zbC,([]:List bK),0,(.slice none 0 0)) h rfl (bE rfl) (cj 2) ?_)))))))))))))
  rintro⟨n1,s,x3,v4⟩ h
  cases n1 with
  |zero=>exact eG h
  |succ n1=>
   obtain⟨e1,U⟩:∃ag,ag=zaC (fun _ _=>none) (ze8 J j1) n1:=⟨_,rfl⟩
   have h:ze8 J j1 e1 s x3=some r:=by rw[U];exact h
   unfold ze8 at h
   refine zyG (zaR rfl zbi (zyN (zaL (zyB rfl h (fun h=>?_) (fun h=>?_)))))
   ·refine bA (ct (zbp h fun j2 d9 h=>zaM (β:=(List bK)×Value) 0 rfl (fun b=>j2 b.1=some r) (fun b=>[]) (fun b=>[(3,b.2),(15,C),(16,zI (J.length:Int)),(17,zI x3)]) (fun b=>[eI d l,eI b.2 b.1]) (fun cut=>?_) ?_))
    ·refine cut (zau (zyG (zbl h fun q1 a9 h=>fm G a9 aF gH rfl dc rfl rfl rfl (mz (i:=a4+(x3:Int).toNat) (j:=0) (k:=0) (q:=q1) (cs:=(fO q1)) lM js rfl dc rfl rfl (bX G a9) rfl rfl rfl (zbk zoE rfl dc (fun b1=>eK (k:=2) (vs:=(fO q1)) (l':=(fO q1)) gH rfl rfl rfl rfl rfl (show _≤_ by simp) rfl rfl (zyN (zaL (zyG (zbT (k:=2) (cs:=(fO q1)) lM rfl dc rfl rfl rfl rfl (zbl h fun r1 d4 h=>zaI (v:=.bool r1) (vs:=[.agg (fO q1).toArray]) rfl dc rfl rfl rfl xx (yo (x1:=q1) d4) (jU rfl dc rfl jV (zyN (zyB rfl h (fun h=>zyG (zyR 1 rfl (zbT (k:=2) (cs:=(fO q1)) lM rfl dc rfl rfl rfl rfl (fE (cs:=(fO q1)) (te:=81) (ps:=[(0,.tmp 25)]) rfl dc rfl (fun _=>by kernel_rfl) (fun b2=>zbt h fun ey h=>iC (k:=1) (k2:=3) (ys:=[q1]) aF tn js tq rfl dc rfl rfl rfl rfl rfl rfl ey (fun v6=>zyR 1 rfl (zyN (dF (bU (dG (mD (s++[q1],v6) h 2))))))))))) (fun h=>bA (ct (zyG (zab zdh rfl dc rfl (show _=0 from rfl) (zat (k:=2) eP rfl dc rfl rfl rfl (zbl h fun r2 d3 h=>zbJ (vs:=[.int .i32 q1.Rune]) rfl dc rfl rfl rfl CL (H2 d3) ah (fun v7=>gK (k:=3) rfl dc rfl rfl bo (zyR 1 rfl (zyN (zau (eO (β:=Nat×(List bK)×Int×Value) (fun b=>zaC (fun _ _=>none) (zfM j2 q1 r2) b.1 b.2.1 b.2.2.1=some r) (fun b=>[]) (fun b=>[(3,b.2.2.2),(5,zP b1),(15,C),(16,zI (J.length:Int)),(17,zI x3),(30,v7),(31,zI (r2.length:Int)),(32,zI b.2.2.1)]) (fun b=>[eI d l,eI b.2.2.2 b.2.1,cells b1 (fO q1) 81,er v7 r2]) (fun b=>b.1) (zbC,s,0,v4) h rfl (bE rfl) (cj 4) ?_)))))))))))))))))))))))))
     rintro⟨n2,E,x6,c5⟩ h
     cases n2 with
     |zero=>exact eG h
     |succ n2=>
      obtain⟨e0,T⟩:∃ag,ag=zaC (fun _ _=>none) (zfM j2 q1 r2) n2:=⟨_,rfl⟩
      have h:zfM j2 q1 r2 e0 E x6=some r:=by rw[T];exact h
      unfold zfM at h
      refine zyG (zaR rfl zbi (zyN (zaL (zyB rfl h (fun h=>?_) (fun h=>?_)))))
      ·refine bA (ct (zaL (zau (zyG (zbl h fun q2 a7 h=>eY (k:=3) a7 bo k6 rfl dc rfl rfl rfl rfl (fW (i:=(x6:Int).toNat) (j:=0) (k:=3) (q:=q2) eP jI rfl dc rfl rfl (ep a7) rfl dc rfl (zyR 1 rfl (zyN (bV (zyR 2 rfl (zbT (k:=2) (cs:=(fO q1)) lM rfl dc rfl rfl rfl rfl (zbl h fun r3 d2 h=>zaI (v:=.agg (fO r3).toArray) (vs:=[.int .i32 q2,.agg (fO q1).toArray]) rfl dc rfl rfl rfl G5 (H4 (x1:=q1) d2) (fE (cs:=(fO r3)) (te:=81) (ps:=[(0,.tmp 39)]) rfl dc rfl (fun _=>by kernel_rfl) (fun b3=>zbt h fun ex h=>iC (k:=1) (k2:=4) (ys:=[r3]) aF tn js tq rfl dc rfl rfl rfl rfl rfl rfl ex (fun c4=>zyR 1 rfl (bG (ca (ct (bV (zbt h fun et h=>zaR rfl (dE (r:=x6+1) (ai _ et)) (zyR 1 rfl (bG ?_))))))))))))))))))))))
       subst T
       exact aD (n2,E++[r3],x6+1,c4) h 4
      exact dF (bU (bU (dG (ca (mD (E,c5) h 2)))))
    rintro⟨a1,v5⟩ h
    rw[d9] at h
    refine bV (zbt h fun es h=>zaR rfl (dE (r:=x3+1) (ai _ es)) (zyR 1 rfl (bG ?_)))
    subst U
    exact aD (n1,a1,x3+1,v5) h 2
   exact dF (bU (bU (dG (mD (s,v4) h 2))))
 rintro⟨g,v1⟩ h
 rw[ec] at h
 refine zbp h fun j3 d8 h=>zaM (β:=(List bK)) 0 rfl (fun b=>j3 b=some r) (fun b=>[]) (fun b=>[(3,v1)]) (fun b=>[eI d l,eI v1 b]) (fun cut=>?_) ?_
 ·refine cut (zyG (zyR 1 rfl (gK (k:=1) rfl dc rfl rfl aF (zyR 1 rfl (zyN (zau (eO (β:=Nat×(List bK)×Int) (fun b=>zaC (fun _ _=>none) (zcN g j3) b.1 b.2.1 b.2.2=some r) (fun b=>[]) (fun b=>[(3,v1),(44,v1),(45,zI (g.length:Int)),(46,zI b.2.2)]) (fun b=>[eI d l,eI v1 b.2.1]) (fun b=>b.1) (zbC,g,0) h rfl (bE rfl) (cj 2) ?_)))))))
  rintro⟨n3,a,m⟩ h
  cases n3 with
  |zero=>exact eG h
  |succ n3=>
   obtain⟨eM,O⟩:∃ag,ag=zaC (fun _ _=>none) (zcN g j3) n3:=⟨_,rfl⟩
   have h:zcN g j3 eM a m=some r:=by rw[O];exact h
   unfold zcN at h
   refine zyG (zaR rfl zbi (zyN (zaL (zyB rfl h (fun h=>?_) (fun h=>?_)))))
   ·refine bA (ct (zbp h fun j4 d7 h=>zaM (β:=(List bK)) 0 rfl (fun b=>j4 b=some r) (fun b=>[]) (fun b=>[(3,v1),(44,v1),(45,zI (g.length:Int)),(46,zI m)]) (fun b=>[eI d l,eI v1 b]) (fun cut=>?_) ?_))
    ·refine cut (zau (zyG (zyR 1 rfl (zbl h fun V a6 h=>eY (k:=1) a6 aF gH rfl dc rfl rfl rfl rfl (mz (i:=(m:Int).toNat) (j:=0) (k:=1) (q:=V) (cs:=(fO V)) lM js rfl dc rfl rfl (ep a6) rfl rfl rfl (zbk zoE rfl dc (fun b4=>zyR 1 rfl (eK (k:=2) (vs:=(fO V)) (l':=(fO V)) gH rfl rfl rfl rfl rfl (show _≤_ by simp) rfl rfl (zyN (zaL (zyG (zbT (k:=2) (cs:=(fO V)) lM rfl dc rfl rfl rfl rfl (zbl h fun r4 d1 h=>zaI (v:=.bool r4) (vs:=[.agg (fO V).toArray]) rfl dc rfl rfl rfl xx (yo (x1:=V) d1) (jU rfl dc rfl jV (zyN (zyB rfl h (fun h=>dF (bU (dG (mD a h 2)))) (fun h=>bA (ct (zbp h fun j5 d6 h=>zaM (β:=Nat×(List bK)×(List bK)×(List bK)×Value×Value×Value) 2 rfl (fun b=>j5 b.1 b.2.1 b.2.2.1 b.2.2.2.1=some r∧Vw v1 a 3 b.1 b.2.2.2.2.1 b.2.1) (fun b=>[]) (fun b=>[(3,v1),(10,b.2.2.2.2.1),(11,b.2.2.2.2.2.1),(12,b.2.2.2.2.2.2),(44,v1),(45,zI (g.length:Int)),(46,zI m)]) (fun b=>[eI d l,eI v1 a,eI b.2.2.2.2.2.1 b.2.2.1,eI b.2.2.2.2.2.2 b.2.2.2.1]) (fun cut=>?_) ?_)))))))))))))))))))
     ·refine zyG (zyR 2 rfl (zbt h fun eq h=>zaR rfl (dE (r:=m+1) (ai _ eq)) (zyR 1 rfl (zbt h fun en h=>zaR rfl (dE (r:=m+1) (ai _ en)) (zyR 2 rfl (zbt h fun em h=>zaR rfl (dE (r:=m+1) (ai _ em)) (kj (k:=1) rfl (fun di=>zbt h fun ek h=>?_))))))))
      obtain⟨c3,dn,dT⟩:=om (lo:=some (zI (m+1))) (hi:=none) di aF gH (.inr rfl) (.inl ⟨rfl,rfl⟩) ek
      refine ia rfl dc rfl rfl rfl dT (zbl h fun H d0 h=>oZ (v:=zI H) (vs:=[c3]) rfl dc rfl rfl rfl CG (Du dn d0) [1] kr rfl (zbt h fun eg h=>zaR rfl (dE (r:=(m+1)+H) (ai _ eg)) (kj (k:=1) rfl (fun dg=>zbt h fun b8 h=>?_))))
      obtain⟨D,I,ds⟩:=om (lo:=some (zI (m+1))) (hi:=some (zI ((m+1)+H))) dg aF gH (.inr rfl) (.inr rfl) b8
      refine ia rfl dc rfl rfl rfl ds (zyR 1 rfl (zyH (zyR 2 rfl (zyN (cut (zyG (zyR 1 rfl (zbV I rfl dc rfl aF (zyR 1 rfl (zyN (zau (mU (enc:=oL) (e:=81) (size:=3) (mU (enc:=oL) (e:=81) (size:=3) (eO (β:=Nat×(List bK)×(List bK)×Int×Value×Value) (fun b=>zaC (fun _ _ _=>none) (ze7 a m j5 H) b.1 b.2.1 b.2.2.1 b.2.2.2.1=some r) (fun b=>[]) (fun b=>[(3,v1),(10,D),(11,b.2.2.2.2.1),(12,b.2.2.2.2.2),(44,v1),(45,zI (g.length:Int)),(46,zI m),(66,D),(67,zI ((dM a (m+1) ((m+1)+H)).length:Int)),(68,zI b.2.2.2.1)]) (fun b=>[eI d l,eI v1 a,eI b.2.2.2.2.1 b.2.1,eI b.2.2.2.2.2 b.2.2.1]) (fun b=>b.1) (zbC,([]:List bK),([]:List bK),0,(.slice none 0 0),(.slice none 0 0)) h rfl (bE rfl) (cg [0,1,3,4] kr rfl) ?_))))))))))))))
      rintro⟨n4,t,n,w,aw,ao⟩ h
      cases n4 with
      |zero=>exact eG h
      |succ n4=>
       obtain⟨eL,M⟩:∃ag,ag=zaC (fun _ _ _=>none) (ze7 a m j5 H) n4:=⟨_,rfl⟩
       have h:ze7 a m j5 H eL t n w=some r:=by rw[M];exact h
       unfold ze7 at h
       refine zyG (zaR rfl zbi (zyN (zaL (zyB rfl h (fun h=>?_) (fun h=>?_)))))
       ·refine bA (ct (zbp h fun j6 d5 h=>zaM (β:=(List bK)×(List bK)×Value×Value) 0 rfl (fun b=>j6 b.1 b.2.1=some r) (fun b=>[]) (fun b=>[(3,v1),(10,D),(11,b.2.2.1),(12,b.2.2.2),(44,v1),(45,zI (g.length:Int)),(46,zI m),(66,D),(67,zI ((dM a (m+1) ((m+1)+H)).length:Int)),(68,zI w)]) (fun b=>[eI d l,eI v1 a,eI b.2.2.1 b.1,eI b.2.2.2 b.2.1]) (fun cut=>cut (zau (zyG (zbl h fun u a5 h=>fm I a5 aF gH rfl dc rfl rfl rfl (mz (i:=0+(m+1:Int).toNat+(w:Int).toNat) (j:=0) (k:=1) (q:=u) (cs:=(fO u)) lM js rfl dc rfl rfl (bX I a5) rfl rfl rfl (zbk zoE rfl dc (fun b5=>eK (k:=4) (vs:=(fO u)) (l':=(fO u)) gH rfl rfl rfl rfl rfl (show _≤_ by simp) rfl rfl (zyH (zab zdh rfl dc rfl (show _=0 from rfl) (zat (k:=4) eP rfl dc rfl rfl rfl (zbl h fun r6 a8 h=>zaI (v:=.bool r6) (vs:=[.int .i32 u.Rune]) rfl dc rfl rfl rfl G4 (H3 a8) (zyN (zyB rfl h (fun h=>bV (zyR 1 rfl (zbT (k:=4) (cs:=(fO u)) lM rfl dc rfl rfl rfl rfl (fE (cs:=(fO u)) (te:=81) (ps:=[(0,.tmp 76)]) rfl dc rfl (fun _=>by kernel_rfl) (fun b6=>zbt h fun b0 h=>iC (k:=2) (k2:=5) (ys:=[u]) aF tn js tq rfl dc rfl rfl rfl rfl rfl rfl b0 (fun cc=>zyR 1 rfl (bG (ca (mD (t++[u],n,cc,ao) h 4))))))))) (fun h=>bV (zyR 1 rfl (zbT (k:=4) (cs:=(fO u)) lM rfl dc rfl rfl rfl rfl (fE (cs:=(fO u)) (te:=81) (ps:=[(0,.tmp 80)]) rfl dc rfl (fun _=>by kernel_rfl) (fun b7=>zbt h fun bs h=>iC (k:=3) (k2:=5) (ys:=[u]) aF tn js tq rfl dc rfl rfl rfl rfl rfl rfl bs (fun b9=>zyR 1 rfl (bG (ca (mD (t,n++[u],aw,b9) h 4)))))))))))))))))))))) ?_))
        rintro⟨a2,Y,c0,ch⟩ h
        rw[d5] at h
        refine bV (zbt h fun bk h=>zaR rfl (dE (r:=w+1) (ai _ bk)) (zyR 1 rfl (bG ?_)))
        subst M
        exact aD (n4,a2,Y,w+1,c0,ch) h 4
       exact dF (bU (bU (dG (mD (0+(m+1:Int).toNat,dM a (m+1) ((m+1)+H),t,n,D,aw,ao) ⟨h,I⟩ 4))))
     rintro⟨ez,a0,a3,Z,e6,e5,e4⟩ ⟨h,dj⟩
     rw[d6] at h
     exact bV (zyR 3 rfl (kj (k:=3) rfl (fun df=>zbt h fun bh h=>Cj (k:=2) (k2:=3) aF tn js tq df rfl dc rfl rfl rfl rfl bh (fun e3=>kj (k:=2) rfl (fun dd=>My (k:=1) (k2:=2) aF tn js tq dj dd rfl dc rfl rfl rfl rfl (bG (ca (mD (th a ez ((a3++Z).take a0.length)) h 2))))))))
    rintro W h
    rw[d7] at h
    refine bV (zbt h fun bb h=>zaR rfl (dE (r:=m+1) (ai _ bb)) (zyR 1 rfl (bG ?_)))
    subst O
    exact aD (n3,W,m+1) h 2
   exact dF (bU (bU (dG (mD a h 2))))
 rintro e2 h
 rw[d8] at h
 refine zyG (zyR 2 rfl (zyN (zaz ?_)))
 cases h
 exact eB (rs:=[.tmp 2]) v1 (.inl rfl) results36 (.cons (.tmp rfl) .nil) rfl (cj 2)
def zev (j:(List bK)→Option (List bK)) (r1:(List bK)) (g:(List bK)→Int→Option (List bK)) (a:List bK) (d:Int):Option (List bK) := aM (decide ((d:Int)<(r1.length:Int))) (cn (fun (h:(List bK)→Int→Option (List bK))=>aT (zcx r1 d) fun (q1:bK)=>aU (a.length+1≤2147483648) <|aT (zcx r1 d) fun (q2:bK)=>aT (sy q2) fun (r2:Bool)=>aM (r2) (aU (cp (d+1)) <|aU (0≤(d+1:Int)∧(d+1:Int)≤(r1.length:Int)∧((r1.length:Int):Int)≤(r1.length:Int)) <|aT (uv (dM r1 (d+1) (r1.length:Int))) fun (r3:Int)=>aU (cp (d+r3)) <|h (a++[q1]) (d+r3)) (h (a++[q1]) d)) (fun (e:List bK) (i:Int)=>aU (cp (i+1)) <|g e (i+1))) (j a)
def yr (d:List bK):Option (List bK) := cn (fun (e:(List bK)→Option (List bK))=>aT (uw d) fun (r1:(List bK))=>zaC (fun _ _=>none) (zev e r1) zbC ([]:List bK) 0) (fun (a:List bK)=>some a)
theorem PJ {a n:Value} {g:List bK} {G:Nat} {l1:List bK} (t:Vw a g 3 G n l1) {r:(List bK)} (h:yr l1=some r):Fn prog 148 [n] [eI a g] (fun v0:Value=>v0) (fun v0=>[eI a g,eI v0 r]):=by
 unfold yr at h
 refine _root_.Go.Proofs.YtifpjbgnikjglaaGreatDoor.Fn.intro func148 rfl ntmps148 (by simp) (fun w0 K=>zbp h fun E V h=>zaM (β:=(List bK)×Value) 3 rfl (fun b=>E b.1=some r) (fun b=>[]) (fun b=>[(3,b.2)]) (fun b=>[eI a g,eI b.2 b.1]) (fun cut=>?_) ?_)
 ·refine zyG (zyR 1 rfl (zyH (zyR 1 rfl (zbl h fun r1 T h=>zbJ (vs:=[n]) rfl dc rfl rfl rfl CF (Dv t T) (cj 1) (fun C=>zyR 1 rfl (zyH (zyR 1 rfl (zyN (cut (zyG (zyR 1 rfl (zyN (zau (mU (enc:=oL) (e:=81) (size:=3) (eO (β:=Nat×(List bK)×Int×Value) (fun b=>zaC (fun _ _=>none) (zev E r1) b.1 b.2.1 b.2.2.1=some r) (fun b=>[]) (fun b=>[(0,C),(3,b.2.2.2),(4,zI b.2.2.1)]) (fun b=>[eI a g,eI C r1,eI b.2.2.2 b.2.1]) (fun b=>b.1) (zbC,([]:List bK),0,(.slice none 0 0)) h rfl (bE rfl) (cg [1,2,3] kr rfl) ?_)))))))))))))))
  rintro⟨D,d,l,v5⟩ h
  cases D with
  |zero=>exact eG h
  |succ D=>
   obtain⟨a0,m⟩:∃ag,ag=zaC (fun _ _=>none) (zev E r1) D:=⟨_,rfl⟩
   have h:zev E r1 a0 d l=some r:=by rw[m];exact h
   unfold zev at h
   refine zaL (zyG (zyR 2 rfl (gK (k:=1) rfl dc rfl rfl aF (zaR rfl zbi (zyN (zyB rfl h (fun h=>?_) (fun h=>?_)))))))
   ·refine bA (ct (zbp h fun j2 U h=>zaM (β:=(List bK)×Int×Value) 0 rfl (fun b=>j2 b.1 b.2.1=some r) (fun b=>[]) (fun b=>[(0,C),(3,b.2.2),(4,zI b.2.1)]) (fun b=>[eI a g,eI C r1,eI b.2.2 b.1]) (fun cut=>?_) ?_))
    ·refine cut (zau (zyG (zyR 3 rfl (zbl h fun q1 w h=>eY (k:=1) w aF gH rfl dc rfl rfl rfl rfl (mz (i:=(l:Int).toNat) (j:=0) (k:=1) (q:=q1) (cs:=(fO q1)) lM js rfl dc rfl rfl (ep w) rfl rfl rfl (fE (cs:=(fO q1)) (te:=81) (ps:=[(0,.tmp 17)]) rfl dc rfl (fun _=>by kernel_rfl) (fun b1=>zbt h fun aw h=>iC (k:=2) (k2:=3) (ys:=[q1]) aF tn js tq rfl dc rfl rfl rfl rfl rfl rfl aw (fun v7=>zyR 1 rfl (zyH (zyR 2 rfl (zbl h fun q2 u h=>eY (k:=1) u aF gH rfl dc rfl rfl rfl rfl (mz (i:=(l:Int).toNat) (j:=0) (k:=1) (q:=q2) (cs:=(fO q2)) lM js rfl dc rfl rfl (ep u) rfl rfl rfl (zbl h fun r2 O h=>zaI (v:=.bool r2) (vs:=[.agg (fO q2).toArray]) rfl dc rfl rfl rfl xx (yo (x1:=q2) O) (zyN (zyB rfl h (fun h=>?_) (fun h=>?_))))))))))))))))
     ·refine bV (zyR 3 rfl (zbt h fun ao h=>zaR rfl (dE (r:=l+1) (ai _ ao)) (kj (k:=1) rfl (fun H=>zbt h fun Z h=>?_))))
      obtain⟨v8,I,J⟩:=om (lo:=some (zI (l+1))) (hi:=none) H aF gH (.inr rfl) (.inl ⟨rfl,rfl⟩) Z
      exact ia rfl dc rfl rfl rfl J (zbl h fun r3 M h=>oZ (v:=zI r3) (vs:=[v8]) rfl dc rfl rfl rfl CG (Du I M) [1] kr rfl (zbt h fun Y h=>zaR rfl (dE (r:=l+r3) (ai _ Y)) (zyR 1 rfl (bG (ca (mD (d++[q1],l+r3,v7) h 3))))))
     exact bA (ca (mD (d++[q1],l,v7) h 3))
    rintro⟨s,i4,v6⟩ h
    rw[U] at h
    refine bV (zyR 1 rfl (zbt h fun W h=>zaR rfl (dE (r:=i4+1) (ai _ W)) (zyR 1 rfl (bG ?_))))
    subst m
    exact aD (D,s,i4+1,v6) h 3
   exact dF (bU (bU (dG (cH (d,v5) h rfl (bE rfl) (cg [0,2] kr rfl)))))
 rintro⟨a1,v1⟩ h
 rw[V] at h
 refine zyG (zyR 2 rfl (zyN (zaz ?_)))
 cases h
 exact eB (rs:=[.tmp 2]) v1 (.inl rfl) results148 (.cons (.tmp rfl) .nil) rfl (cj 2)
def zeE (j:(List bK)→Option (List bK)) (r2:(List bK)) (e:(List bK)→Int→Option (List bK)) (d:List bK) (a:Int):Option (List bK) := aM (decide ((a:Int)<(r2.length:Int))) (cn (fun (g:(List bK)→Option (List bK))=>aT (zcx d a) fun (q1:bK)=>aT (sy q1) fun (r3:Bool)=>aM (r3) (aU (fl q1.Rune) <|aT (yq (cr q1.Rune)) fun (h:ae)=>aT (zcx d a) fun (q2:bK)=>g (d.set (a:Int).toNat (⟨q2.Rune,h,q2.At⟩:bK))) (g d)) (fun (i:List bK)=>aU (cp (a+1)) <|e i (a+1))) (j d)
def yu (a:ae):Option (List bK) := cn (fun (e:(List bK)→Option (List bK))=>aT (rr a) fun (r1:(List bK))=>aT (yr r1) fun (r2:(List bK))=>zaC (fun _ _=>none) (zeE e r2) zbC r2 0) (fun (d:List bK)=>some d)
theorem PK {u:ae} {r:(List bK)} (h:yu u=some r):Fn prog 113 [.string u] [] (fun v0:Value=>v0) (fun v0=>[eI v0 r]):=by
 unfold yu at h
 refine _root_.Go.Proofs.YtifpjbgnikjglaaGreatDoor.Fn.intro func113 rfl ntmps113 (by simp) (fun w0 K=>zbp h fun t M h=>zaM (β:=(List bK)×Value) 2 rfl (fun b=>t b.1=some r) (fun b=>[]) (fun b=>[(3,b.2)]) (fun b=>[eI b.2 b.1]) (fun cut=>?_) ?_)
 ·refine zyG (zyR 1 rfl (zyH (zyR 1 rfl (zbl h fun r1 I h=>zbJ (vs:=[.string u]) rfl dc rfl rfl rfl vJ (wi I) ah (fun U=>kj (k:=0) rfl (fun D=>zbl h fun r2 H h=>zbJ (vs:=[U]) rfl dc rfl rfl rfl Oh (PJ D H) (cj 1) (fun e=>zyR 1 rfl (zyN (cut (zyG (zyR 1 rfl (gK (k:=2) rfl dc rfl rfl aF (zyR 1 rfl (zyN (zau (eO (β:=Nat×(List bK)×Int) (fun b=>zaC (fun _ _=>none) (zeE t r2) b.1 b.2.1 b.2.2=some r) (fun b=>[]) (fun b=>[(3,e),(9,e),(10,zI (r2.length:Int)),(11,zI b.2.2)]) (fun b=>[eI e b.2.1]) (fun b=>b.1) (zbC,r2,0) h rfl (bE rfl) (cg [2] kr rfl) ?_))))))))))))))))
  rintro⟨n,s,a⟩ h
  cases n with
  |zero=>exact eG h
  |succ n=>
   obtain⟨T,d⟩:∃ag,ag=zaC (fun _ _=>none) (zeE t r2) n:=⟨_,rfl⟩
   have h:zeE t r2 T s a=some r:=by rw[d];exact h
   unfold zeE at h
   refine zyG (zaR rfl zbi (zyN (zaL (zyB rfl h (fun h=>?_) (fun h=>?_)))))
   ·refine bA (ct (zbp h fun W J h=>zaM (β:=(List bK)) 0 rfl (fun b=>W b=some r) (fun b=>[]) (fun b=>[(3,e),(9,e),(10,zI (r2.length:Int)),(11,zI a)]) (fun b=>[eI e b]) (fun cut=>cut (zau (zyG (zyR 1 rfl (zbl h fun q1 l h=>eY (k:=0) l aF gH rfl dc rfl rfl rfl rfl (mz (i:=(a:Int).toNat) (j:=0) (k:=0) (q:=q1) (cs:=(fO q1)) lM js rfl dc rfl rfl (ep l) rfl rfl rfl (zbk zoE rfl dc (fun b1=>zyR 1 rfl (eK (k:=1) (vs:=(fO q1)) (l':=(fO q1)) gH rfl rfl rfl rfl rfl (show _≤_ by simp) rfl rfl (zyH (zbT (k:=1) (cs:=(fO q1)) lM rfl dc rfl rfl rfl rfl (zbl h fun r3 G h=>zaI (v:=.bool r3) (vs:=[.agg (fO q1).toArray]) rfl dc rfl rfl rfl xx (yo (x1:=q1) G) (zyN (zyB rfl h (fun h=>bV (zyR 2 rfl (zab zdh rfl dc rfl (show _=0 from rfl) (zat (k:=1) eP rfl dc rfl rfl rfl (zbt h fun m h=>zaI (v:=.int .i32 (cr q1.Rune)) (vs:=[.int .i32 q1.Rune]) rfl dc rfl rfl rfl Au (mw fun w=>uo q1.Rune w m.1 m.2) (zbl h fun C E h=>zaI (v:=.string C) (vs:=[.int .i32 (cr q1.Rune)]) rfl dc rfl rfl rfl Oi (PI E) (zbl h fun q2 g h=>eY (k:=0) g aF gH rfl dc rfl rfl rfl rfl (zab qv rfl dc rfl (show _=((a:Int).toNat)*3+1 from rfl) (oF (i:=(a:Int).toNat) (j:=1) (k:=0) (q:=q2) (q':=(⟨q2.Rune,C,q2.At⟩:bK)) gG js rfl rfl rfl rfl (ep g) rfl dc rfl (fun _ _=>rfl) (bG (ca (mD (s.set (a:Int).toNat (⟨q2.Rune,C,q2.At⟩:bK)) h 1)))))))))))) (fun h=>bA (ca (mD s h 1))))))))))))))))) (fun V h=>?_)))
    rw[J] at h
    refine bV (zbt h fun O h=>zaR rfl (dE (r:=a+1) (ai _ O)) (zyR 1 rfl (bG ?_)))
    subst d
    exact aD (n,V,a+1) h 1
   exact dF (bU (bU (dG (mD (s,e) h 1))))
 rintro⟨Y,v1⟩ h
 rw[M] at h
 refine zyG (zyR 2 rfl (zyN (zaz ?_)))
 cases h
 exact eB (rs:=[.tmp 2]) v1 (.inl rfl) results113 (.cons (.tmp rfl) .nil) rfl (cj 1)
def sA (a:ae):Option ae := aT (yu a) fun (r1:(List bK))=>aT (uu r1) fun (r2:ae)=>some r2
theorem AM {a:ae} {r:ae} (h:sA a=some r):dB prog 59 [.string a] (.string r):=by
 unfold sA at h
 refine dB.intro func59 rfl ntmps59 (by simp) (fun w0 K=>zyG (zyR 1 rfl (zyH (zyR 1 rfl (zbl h fun r1 g h=>zbJ (vs:=[.string a]) rfl dc rfl rfl rfl N2 (PK g) ah (fun v1=>kj (k:=0) rfl (fun d=>zbl h fun r2 e h=>kZ (v:=.string r2) (vs:=[v1]) (Rd.nil:Rd _ _ []) rfl dc rfl rfl rfl CQ (Dt d e) (.own (As:=[eI v1 r1]) (cj 1) (fun _ _ h=>oo js (aQ.1 h)) .nil) (zyR 1 rfl (zyN (zaz ?_))))))))))
 cases h
 exact cZ 2 results59
abbrev ga:ae:=⟨#[195,159,115,115,32,195,166,97,101,32,195,184,111,32,195,176,100,32,195,190,116,104,32,196,145,100,32,196,167,104,32,196,177,105,32,196,179,105,106,32,196,184,113,32,197,128,108,32,197,130,108,32,197,137,110,32,197,139,110,103,32,197,147,111,101,32,197,167,116,32,197,191,115,32,207,130,207,131,32]⟩
def yv (r1:Int):Option Bool := cn (fun (a:Bool→Option Bool)=>aM (decide ((790:Int)≤r1)) (aM (decide ((r1:Int)≤793)) (a (decide ((r1:Int)≤793))) (aM (decide ((796:Int)≤r1)) (aM (decide ((r1:Int)≤800)) (a (decide ((r1:Int)≤800))) (aM (decide ((803:Int)≤r1)) (aM (decide ((r1:Int)≤819)) (a (decide ((r1:Int)≤819))) (aM (decide ((825:Int)≤r1)) (aM (decide ((r1:Int)≤828)) (a (decide ((r1:Int)≤828))) (aM (decide ((837:Int)≤r1)) (a (decide ((r1:Int)≤841))) (a false))) (aM (decide ((837:Int)≤r1)) (a (decide ((r1:Int)≤841))) (a false)))) (aM (decide ((825:Int)≤r1)) (aM (decide ((r1:Int)≤828)) (a (decide ((r1:Int)≤828))) (aM (decide ((837:Int)≤r1)) (a (decide ((r1:Int)≤841))) (a false))) (aM (decide ((837:Int)≤r1)) (a (decide ((r1:Int)≤841))) (a false))))) (aM (decide ((803:Int)≤r1)) (aM (decide ((r1:Int)≤819)) (a (decide ((r1:Int)≤819))) (aM (decide ((825:Int)≤r1)) (aM (decide ((r1:Int)≤828)) (a (decide ((r1:Int)≤828))) (aM (decide ((837:Int)≤r1)) (a (decide ((r1:Int)≤841))) (a false))) (aM (decide ((837:Int)≤r1)) (a (decide ((r1:Int)≤841))) (a false)))) (aM (decide ((825:Int)≤r1)) (aM (decide ((r1:Int)≤828)) (a (decide ((r1:Int)≤828))) (aM (decide ((837:Int)≤r1)) (a (decide ((r1:Int)≤841))) (a false))) (aM (decide ((837:Int)≤r1)) (a (decide ((r1:Int)≤841))) (a false)))))) (aM (decide ((796:Int)≤r1)) (aM (decide ((r1:Int)≤800)) (a (decide ((r1:Int)≤800))) (aM (decide ((803:Int)≤r1)) (aM (decide ((r1:Int)≤819)) (a (decide ((r1:Int)≤819))) (aM (decide ((825:Int)≤r1)) (aM (decide ((r1:Int)≤828)) (a (decide ((r1:Int)≤828))) (aM (decide ((837:Int)≤r1)) (a (decide ((r1:Int)≤841))) (a false))) (aM (decide ((837:Int)≤r1)) (a (decide ((r1:Int)≤841))) (a false)))) (aM (decide ((825:Int)≤r1)) (aM (decide ((r1:Int)≤828)) (a (decide ((r1:Int)≤828))) (aM (decide ((837:Int)≤r1)) (a (decide ((r1:Int)≤841))) (a false))) (aM (decide ((837:Int)≤r1)) (a (decide ((r1:Int)≤841))) (a false))))) (aM (decide ((803:Int)≤r1)) (aM (decide ((r1:Int)≤819)) (a (decide ((r1:Int)≤819))) (aM (decide ((825:Int)≤r1)) (aM (decide ((r1:Int)≤828)) (a (decide ((r1:Int)≤828))) (aM (decide ((837:Int)≤r1)) (a (decide ((r1:Int)≤841))) (a false))) (aM (decide ((837:Int)≤r1)) (a (decide ((r1:Int)≤841))) (a false)))) (aM (decide ((825:Int)≤r1)) (aM (decide ((r1:Int)≤828)) (a (decide ((r1:Int)≤828))) (aM (decide ((837:Int)≤r1)) (a (decide ((r1:Int)≤841))) (a false))) (aM (decide ((837:Int)≤r1)) (a (decide ((r1:Int)≤841))) (a false)))))) (fun (x1:Bool)=>aM (x1) (some true) (cn (fun (d:Bool→Option Bool)=>aM (decide ((845:Int)≤r1)) (aM (decide ((r1:Int)≤846)) (d (decide ((r1:Int)≤846))) (aM (decide ((851:Int)≤r1)) (aM (decide ((r1:Int)≤854)) (d (decide ((r1:Int)≤854))) (aM (decide ((857:Int)≤r1)) (d (decide ((r1:Int)≤858))) (d false))) (aM (decide ((857:Int)≤r1)) (d (decide ((r1:Int)≤858))) (d false)))) (aM (decide ((851:Int)≤r1)) (aM (decide ((r1:Int)≤854)) (d (decide ((r1:Int)≤854))) (aM (decide ((857:Int)≤r1)) (d (decide ((r1:Int)≤858))) (d false))) (aM (decide ((857:Int)≤r1)) (d (decide ((r1:Int)≤858))) (d false)))) (fun (x2:Bool)=>aM (x2) (some true) (some false))))
theorem PL {r1:Int} {r:Bool} (h:yv r1=some r):dB prog 159 [.int .i32 r1] (.bool r):=by
 unfold yv at h
 refine dB.intro func159 rfl ntmps159 (by simp) (fun w0 K=>zyG (zyR 1 rfl (zyN (zaL (zau (zbp h fun g d h=>zaM (β:=Bool) 0 rfl (fun b=>g b=some r) (fun b=>[]) (fun b=>[(0,.int .i32 r1),(3,.bool b)]) (fun b=>[]) (fun cut=>?_) ?_))))))
 ·refine cut (zyG (zyR 1 rfl (zaR rfl zbF (zyR 1 rfl (zyS (s:=6) rfl h (fun h=>zyR 1 rfl (zaR rfl hQ (zyR 2 rfl (zyN (zyB rfl h (fun h=>bA (cH (decide ((r1:Int)≤793)) h rfl (bE rfl) ah)) (fun h=>zyG (zyR 1 rfl (zaR rfl zbF (zyR 1 rfl (zyS (s:=12) rfl h (fun h=>zyR 1 rfl (zaR rfl hQ (zyR 2 rfl (zyN (zyB rfl h (fun h=>bA (cH (decide ((r1:Int)≤800)) h rfl (bE rfl) ah)) (fun h=>zyG (zyR 1 rfl (zaR rfl zbF (zyR 1 rfl (zyS (s:=18) rfl h (fun h=>zyR 1 rfl (zaR rfl hQ (zyR 2 rfl (zyN (zyB rfl h (fun h=>bA (cH (decide ((r1:Int)≤819)) h rfl (bE rfl) ah)) (fun h=>zyG (zyR 1 rfl (zaR rfl zbF (zyR 1 rfl (zyS (s:=24) rfl h (fun h=>zyR 1 rfl (zaR rfl hQ (zyR 2 rfl (zyN (zyB rfl h (fun h=>bA (cH (decide ((r1:Int)≤828)) h rfl (bE rfl) ah)) (fun h=>bV (zyR 1 rfl (zaR rfl zbF (zyR 1 rfl (zyS (s:=30) rfl h (fun h=>zyR 1 rfl (zaR rfl hQ (zyR 2 rfl (bG (cH (decide ((r1:Int)≤841)) h rfl (bE rfl) ah))))) (fun h=>zyR 4 rfl (bG (cH false h rfl (bE rfl) ah))))))))))))) (fun h=>zyR 4 rfl (zyN (eh rfl (bV (zyR 1 rfl (zaR rfl zbF (zyR 1 rfl (zyS (s:=30) rfl h (fun h=>zyR 1 rfl (zaR rfl hQ (zyR 2 rfl (bG (cH (decide ((r1:Int)≤841)) h rfl (bE rfl) ah))))) (fun h=>zyR 4 rfl (bG (cH false h rfl (bE rfl) ah))))))))))))))))))))) (fun h=>zyR 4 rfl (zyN (eh rfl (zyG (zyR 1 rfl (zaR rfl zbF (zyR 1 rfl (zyS (s:=24) rfl h (fun h=>zyR 1 rfl (zaR rfl hQ (zyR 2 rfl (zyN (zyB rfl h (fun h=>bA (cH (decide ((r1:Int)≤828)) h rfl (bE rfl) ah)) (fun h=>bV (zyR 1 rfl (zaR rfl zbF (zyR 1 rfl (zyS (s:=30) rfl h (fun h=>zyR 1 rfl (zaR rfl hQ (zyR 2 rfl (bG (cH (decide ((r1:Int)≤841)) h rfl (bE rfl) ah))))) (fun h=>zyR 4 rfl (bG (cH false h rfl (bE rfl) ah))))))))))))) (fun h=>zyR 4 rfl (zyN (eh rfl (bV (zyR 1 rfl (zaR rfl zbF (zyR 1 rfl (zyS (s:=30) rfl h (fun h=>zyR 1 rfl (zaR rfl hQ (zyR 2 rfl (bG (cH (decide ((r1:Int)≤841)) h rfl (bE rfl) ah))))) (fun h=>zyR 4 rfl (bG (cH false h rfl (bE rfl) ah))))))))))))))))))))))))))))) (fun h=>zyR 4 rfl (zyN (eh rfl (zyG (zyR 1 rfl (zaR rfl zbF (zyR 1 rfl (zyS (s:=18) rfl h (fun h=>zyR 1 rfl (zaR rfl hQ (zyR 2 rfl (zyN (zyB rfl h (fun h=>bA (cH (decide ((r1:Int)≤819)) h rfl (bE rfl) ah)) (fun h=>zyG (zyR 1 rfl (zaR rfl zbF (zyR 1 rfl (zyS (s:=24) rfl h (fun h=>zyR 1 rfl (zaR rfl hQ (zyR 2 rfl (zyN (zyB rfl h (fun h=>bA (cH (decide ((r1:Int)≤828)) h rfl (bE rfl) ah)) (fun h=>bV (zyR 1 rfl (zaR rfl zbF (zyR 1 rfl (zyS (s:=30) rfl h (fun h=>zyR 1 rfl (zaR rfl hQ (zyR 2 rfl (bG (cH (decide ((r1:Int)≤841)) h rfl (bE rfl) ah))))) (fun h=>zyR 4 rfl (bG (cH false h rfl (bE rfl) ah))))))))))))) (fun h=>zyR 4 rfl (zyN (eh rfl (bV (zyR 1 rfl (zaR rfl zbF (zyR 1 rfl (zyS (s:=30) rfl h (fun h=>zyR 1 rfl (zaR rfl hQ (zyR 2 rfl (bG (cH (decide ((r1:Int)≤841)) h rfl (bE rfl) ah))))) (fun h=>zyR 4 rfl (bG (cH false h rfl (bE rfl) ah))))))))))))))))))))) (fun h=>zyR 4 rfl (zyN (eh rfl (zyG (zyR 1 rfl (zaR rfl zbF (zyR 1 rfl (zyS (s:=24) rfl h (fun h=>zyR 1 rfl (zaR rfl hQ (zyR 2 rfl (zyN (zyB rfl h (fun h=>bA (cH (decide ((r1:Int)≤828)) h rfl (bE rfl) ah)) (fun h=>bV (zyR 1 rfl (zaR rfl zbF (zyR 1 rfl (zyS (s:=30) rfl h (fun h=>zyR 1 rfl (zaR rfl hQ (zyR 2 rfl (bG (cH (decide ((r1:Int)≤841)) h rfl (bE rfl) ah))))) (fun h=>zyR 4 rfl (bG (cH false h rfl (bE rfl) ah))))))))))))) (fun h=>zyR 4 rfl (zyN (eh rfl (bV (zyR 1 rfl (zaR rfl zbF (zyR 1 rfl (zyS (s:=30) rfl h (fun h=>zyR 1 rfl (zaR rfl hQ (zyR 2 rfl (bG (cH (decide ((r1:Int)≤841)) h rfl (bE rfl) ah))))) (fun h=>zyR 4 rfl (bG (cH false h rfl (bE rfl) ah))))))))))))))))))))))))))))))))))))) (fun h=>zyR 4 rfl (zyN (eh rfl (zyG (zyR 1 rfl (zaR rfl zbF (zyR 1 rfl (zyS (s:=12) rfl h (fun h=>?_) (fun h=>?_))))))))))))))
  ·exact zyR 1 rfl (zaR rfl hQ (zyR 2 rfl (zyN (zyB rfl h (fun h=>bA (cH (decide ((r1:Int)≤800)) h rfl (bE rfl) ah)) (fun h=>zyG (zyR 1 rfl (zaR rfl zbF (zyR 1 rfl (zyS (s:=18) rfl h (fun h=>zyR 1 rfl (zaR rfl hQ (zyR 2 rfl (zyN (zyB rfl h (fun h=>bA (cH (decide ((r1:Int)≤819)) h rfl (bE rfl) ah)) (fun h=>zyG (zyR 1 rfl (zaR rfl zbF (zyR 1 rfl (zyS (s:=24) rfl h (fun h=>zyR 1 rfl (zaR rfl hQ (zyR 2 rfl (zyN (zyB rfl h (fun h=>bA (cH (decide ((r1:Int)≤828)) h rfl (bE rfl) ah)) (fun h=>bV (zyR 1 rfl (zaR rfl zbF (zyR 1 rfl (zyS (s:=30) rfl h (fun h=>zyR 1 rfl (zaR rfl hQ (zyR 2 rfl (bG (cH (decide ((r1:Int)≤841)) h rfl (bE rfl) ah))))) (fun h=>zyR 4 rfl (bG (cH false h rfl (bE rfl) ah))))))))))))) (fun h=>zyR 4 rfl (zyN (eh rfl (bV (zyR 1 rfl (zaR rfl zbF (zyR 1 rfl (zyS (s:=30) rfl h (fun h=>zyR 1 rfl (zaR rfl hQ (zyR 2 rfl (bG (cH (decide ((r1:Int)≤841)) h rfl (bE rfl) ah))))) (fun h=>zyR 4 rfl (bG (cH false h rfl (bE rfl) ah))))))))))))))))))))) (fun h=>zyR 4 rfl (zyN (eh rfl (zyG (zyR 1 rfl (zaR rfl zbF (zyR 1 rfl (zyS (s:=24) rfl h (fun h=>zyR 1 rfl (zaR rfl hQ (zyR 2 rfl (zyN (zyB rfl h (fun h=>bA (cH (decide ((r1:Int)≤828)) h rfl (bE rfl) ah)) (fun h=>bV (zyR 1 rfl (zaR rfl zbF (zyR 1 rfl (zyS (s:=30) rfl h (fun h=>zyR 1 rfl (zaR rfl hQ (zyR 2 rfl (bG (cH (decide ((r1:Int)≤841)) h rfl (bE rfl) ah))))) (fun h=>zyR 4 rfl (bG (cH false h rfl (bE rfl) ah))))))))))))) (fun h=>zyR 4 rfl (zyN (eh rfl (bV (zyR 1 rfl (zaR rfl zbF (zyR 1 rfl (zyS (s:=30) rfl h (fun h=>zyR 1 rfl (zaR rfl hQ (zyR 2 rfl (bG (cH (decide ((r1:Int)≤841)) h rfl (bE rfl) ah))))) (fun h=>zyR 4 rfl (bG (cH false h rfl (bE rfl) ah))))))))))))))))))))))))))))
  exact zyR 4 rfl (zyN (eh rfl (zyG (zyR 1 rfl (zaR rfl zbF (zyR 1 rfl (zyS (s:=18) rfl h (fun h=>zyR 1 rfl (zaR rfl hQ (zyR 2 rfl (zyN (zyB rfl h (fun h=>bA (cH (decide ((r1:Int)≤819)) h rfl (bE rfl) ah)) (fun h=>zyG (zyR 1 rfl (zaR rfl zbF (zyR 1 rfl (zyS (s:=24) rfl h (fun h=>zyR 1 rfl (zaR rfl hQ (zyR 2 rfl (zyN (zyB rfl h (fun h=>bA (cH (decide ((r1:Int)≤828)) h rfl (bE rfl) ah)) (fun h=>bV (zyR 1 rfl (zaR rfl zbF (zyR 1 rfl (zyS (s:=30) rfl h (fun h=>zyR 1 rfl (zaR rfl hQ (zyR 2 rfl (bG (cH (decide ((r1:Int)≤841)) h rfl (bE rfl) ah))))) (fun h=>zyR 4 rfl (bG (cH false h rfl (bE rfl) ah))))))))))))) (fun h=>zyR 4 rfl (zyN (eh rfl (bV (zyR 1 rfl (zaR rfl zbF (zyR 1 rfl (zyS (s:=30) rfl h (fun h=>zyR 1 rfl (zaR rfl hQ (zyR 2 rfl (bG (cH (decide ((r1:Int)≤841)) h rfl (bE rfl) ah))))) (fun h=>zyR 4 rfl (bG (cH false h rfl (bE rfl) ah))))))))))))))))))))) (fun h=>zyR 4 rfl (zyN (eh rfl (zyG (zyR 1 rfl (zaR rfl zbF (zyR 1 rfl (zyS (s:=24) rfl h (fun h=>zyR 1 rfl (zaR rfl hQ (zyR 2 rfl (zyN (zyB rfl h (fun h=>bA (cH (decide ((r1:Int)≤828)) h rfl (bE rfl) ah)) (fun h=>bV (zyR 1 rfl (zaR rfl zbF (zyR 1 rfl (zyS (s:=30) rfl h (fun h=>zyR 1 rfl (zaR rfl hQ (zyR 2 rfl (bG (cH (decide ((r1:Int)≤841)) h rfl (bE rfl) ah))))) (fun h=>zyR 4 rfl (bG (cH false h rfl (bE rfl) ah))))))))))))) (fun h=>zyR 4 rfl (zyN (eh rfl (bV (zyR 1 rfl (zaR rfl zbF (zyR 1 rfl (zyS (s:=30) rfl h (fun h=>zyR 1 rfl (zaR rfl hQ (zyR 2 rfl (bG (cH (decide ((r1:Int)≤841)) h rfl (bE rfl) ah))))) (fun h=>zyR 4 rfl (bG (cH false h rfl (bE rfl) ah))))))))))))))))))))))))))
 rintro x1 h
 rw[d] at h
 refine zyB rfl h (fun h=>?_) (fun h=>?_)
 ·refine zyG (zyR 1 rfl (zyN (zaz (cD (bP ?_)))))
  cases h
  exact cZ 2 results159
 refine zbp h fun e a h=>zaM (β:=Bool) 0 rfl (fun b=>e b=some r) (fun b=>[]) (fun b=>[(34,.bool b)]) (fun b=>[]) (fun cut=>cut (zyG (zyR 1 rfl (zaR rfl zbF (zyR 1 rfl (zyS (s:=37) rfl h (fun h=>zyR 1 rfl (zaR rfl hQ (zyR 2 rfl (zyN (zyB rfl h (fun h=>bA (cH (decide ((r1:Int)≤846)) h rfl (bE rfl) ah)) (fun h=>zyG (zyR 1 rfl (zaR rfl zbF (zyR 1 rfl (zyS (s:=43) rfl h (fun h=>zyR 1 rfl (zaR rfl hQ (zyR 2 rfl (zyN (zyB rfl h (fun h=>bA (cH (decide ((r1:Int)≤854)) h rfl (bE rfl) ah)) (fun h=>bV (zyR 1 rfl (zaR rfl zbF (zyR 1 rfl (zyS (s:=49) rfl h (fun h=>zyR 1 rfl (zaR rfl hQ (zyR 2 rfl (bG (cH (decide ((r1:Int)≤858)) h rfl (bE rfl) ah))))) (fun h=>zyR 4 rfl (bG (cH false h rfl (bE rfl) ah))))))))))))) (fun h=>zyR 4 rfl (zyN (eh rfl (bV (zyR 1 rfl (zaR rfl zbF (zyR 1 rfl (zyS (s:=49) rfl h (fun h=>zyR 1 rfl (zaR rfl hQ (zyR 2 rfl (bG (cH (decide ((r1:Int)≤858)) h rfl (bE rfl) ah))))) (fun h=>zyR 4 rfl (bG (cH false h rfl (bE rfl) ah))))))))))))))))))))) (fun h=>zyR 4 rfl (zyN (eh rfl (zyG (zyR 1 rfl (zaR rfl zbF (zyR 1 rfl (zyS (s:=43) rfl h (fun h=>zyR 1 rfl (zaR rfl hQ (zyR 2 rfl (zyN (zyB rfl h (fun h=>bA (cH (decide ((r1:Int)≤854)) h rfl (bE rfl) ah)) (fun h=>bV (zyR 1 rfl (zaR rfl zbF (zyR 1 rfl (zyS (s:=49) rfl h (fun h=>zyR 1 rfl (zaR rfl hQ (zyR 2 rfl (bG (cH (decide ((r1:Int)≤858)) h rfl (bE rfl) ah))))) (fun h=>zyR 4 rfl (bG (cH false h rfl (bE rfl) ah))))))))))))) (fun h=>zyR 4 rfl (zyN (eh rfl (bV (zyR 1 rfl (zaR rfl zbF (zyR 1 rfl (zyS (s:=49) rfl h (fun h=>zyR 1 rfl (zaR rfl hQ (zyR 2 rfl (bG (cH (decide ((r1:Int)≤858)) h rfl (bE rfl) ah))))) (fun h=>zyR 4 rfl (bG (cH false h rfl (bE rfl) ah))))))))))))))))))))))))) (fun x2 h=>?_)
 rw[a] at h
 refine zyB rfl h (fun h=>?_) (fun h=>?_)
 ·refine zyG (zyR 1 rfl (zyN (zaz (cD (bP ?_)))))
  cases h
  exact cZ 2 results159
 refine bA (ca (ct (zyG (zyR 1 rfl (zyN (zaz ?_))))))
 cases h
 exact cZ 2 results159
def sB (u1:cY):Option Bool := aM (decide ((0:Int)≤u1.base)) (aU (fl u1.base) <|some (((kind u1.base):Int)==1)) (some false)
theorem AN {u1:cY} {_j _i:Hd} {r:Bool} (h:sB u1=some r):Fn prog 78 [.agg #[zI u1.at_,.int .u8 u1.broken,.int .i32 u1.base,_j.v,_i.v]] [er _j.v u1.low,er _i.v u1.high] (fun _b:Unit=>.bool r) (fun _b=>[er _j.v u1.low,er _i.v u1.high]):=by
 unfold sB at h
 refine _root_.Go.Proofs.YtifpjbgnikjglaaGreatDoor.Fn.intro func78 rfl ntmps78 (by simp) (fun w0 K=>zyG (zeV rfl dc rfl (fun b1=>zyR 1 rfl (zyH (zab zgo rfl dc rfl (show _=2 from rfl) (zat (k:=2) eP rfl dc rfl rfl rfl (zaR rfl zbF (zyR 1 rfl (zyS (s:=6) rfl h (fun h=>?_) (fun h=>?_))))))))))
 ·refine zab zgo rfl dc rfl (show _=2 from rfl) (zat (k:=2) eP rfl dc rfl rfl rfl (zbt h fun a h=>zaI (v:=zI (kind u1.base)) (vs:=[.int .i32 u1.base]) rfl dc rfl rfl rfl CS (mw fun w=>xL u1.base w a.1 a.2) (zaR rfl zbe (zyR 2 rfl (zyN (zaz ?_))))))
  cases h
  exact eB (rs:=[.tmp 2]) () (.inl rfl) results78 (.cons (.tmp rfl) .nil) rfl (cj 2)
 refine zyR 6 rfl (zyN (zaz ?_))
 cases h
 exact eB (rs:=[.tmp 2]) () (.inl rfl) results78 (.cons (.tmp rfl) .nil) rfl (cj 2)
def wk (u1:cY) (r1:Int):Option cY := aT (yv r1) fun (r2:Bool)=>aM (r2) (aU (u1.low.length+1≤2147483648) <|some (⟨(⟨u1.at_,u1.broken,u1.base,u1.low++[r1],u1.high⟩:cY).at_,(⟨u1.at_,u1.broken,u1.base,u1.low++[r1],u1.high⟩:cY).broken,(⟨u1.at_,u1.broken,u1.base,u1.low++[r1],u1.high⟩:cY).base,u1.low++[r1],u1.high⟩:cY)) (aU (u1.high.length+1≤2147483648) <|some (⟨(⟨u1.at_,u1.broken,u1.base,u1.low,u1.high++[r1]⟩:cY).at_,(⟨u1.at_,u1.broken,u1.base,u1.low,u1.high++[r1]⟩:cY).broken,(⟨u1.at_,u1.broken,u1.base,u1.low,u1.high++[r1]⟩:cY).base,u1.low,u1.high++[r1]⟩:cY))
theorem H5 {_r:Value} {l:List (cY×Hd×Hd)} {a:Nat} {u1:cY} {_j _i:Hd} (d:l[a]?=some (u1,(_j,_i))) {r1:Int} {r:cY} (h:wk u1 r1=some r):Fn prog 130 [.pointer (some ⟨gn _r,a*5,none⟩),.int .i32 r1] [mZ _r l,er _j.v u1.low,er _i.v u1.high] (fun b:Hd×Hd=>.tuple #[]) (fun b=>[mZ _r (l.set a (r,(b.1,b.2))),er b.1.v r.low,er b.2.v r.high]):=by
 unfold wk at h
 refine _root_.Go.Proofs.YtifpjbgnikjglaaGreatDoor.Fn.intro func130 rfl ntmps130 (by simp) (fun w0 K=>zyG (zyR 1 rfl (zbl h fun r2 m h=>zaI (v:=.bool r2) (vs:=[.int .i32 r1]) rfl dc rfl rfl rfl Ok (PL m) (zyN (zyB rfl h (fun h=>?_) (fun h=>?_))))))
 ·refine bV (zyR 2 rfl (za8 rfl dc rfl (zab Ae rfl dc rfl (show _=a*5+3 from rfl) (fW (i:=a) (j:=3) (k:=0) (q:=(u1,(_j,_i))) vH o9 rfl dc rfl rfl d rfl dc rfl (zyR 1 rfl (fE (cs:=[.int .i32 r1]) (te:=21) (ps:=[(0,.tmp 11)]) rfl dc rfl (fun _=>by kernel_rfl) (fun b1=>zbt h fun s h=>iC (k:=1) (k2:=3) (ys:=[r1]) bo tk jI tg rfl dc rfl rfl rfl rfl rfl rfl s (fun v1=>iq (k:=1) rfl (fun g u=>?_)))))))))
  subst u
  refine za8 rfl dc rfl (zab Ae rfl dc rfl (show _=a*5+3 from rfl) (oF (i:=a) (j:=3) (k:=0) (q:=(u1,(_j,_i))) (q':=((⟨u1.at_,u1.broken,u1.base,u1.low++[r1],u1.high⟩:cY),(g,_i))) GI o9 rfl rfl rfl rfl d rfl dc rfl (fun _ _=>rfl) (bG (Ge (k:=0) rfl (Gk rfl (q1:=((⟨u1.at_,u1.broken,u1.base,u1.low++[r1],u1.high⟩:cY),(g,_i))) (q2:=((⟨(⟨u1.at_,u1.broken,u1.base,u1.low++[r1],u1.high⟩:cY).at_,(⟨u1.at_,u1.broken,u1.base,u1.low++[r1],u1.high⟩:cY).broken,(⟨u1.at_,u1.broken,u1.base,u1.low++[r1],u1.high⟩:cY).base,u1.low++[r1],u1.high⟩:cY),(g,_i))) o9 rfl) ?_))))
  cases h
  exact eB (rs:=[]) (g,_i) (.inr rfl) results130 .nil rfl (cj 3)
 refine bV (zyR 2 rfl (za8 rfl dc rfl (zab Af rfl dc rfl (show _=a*5+4 from rfl) (fW (i:=a) (j:=4) (k:=0) (q:=(u1,(_j,_i))) vH o9 rfl dc rfl rfl d rfl dc rfl (zyR 1 rfl (fE (cs:=[.int .i32 r1]) (te:=21) (ps:=[(0,.tmp 21)]) rfl dc rfl (fun _=>by kernel_rfl) (fun C=>zbt h fun n h=>iC (k:=2) (k2:=3) (ys:=[r1]) bo tk jI tg rfl dc rfl rfl rfl rfl rfl rfl n (fun w=>iq (k:=2) rfl (fun e t=>?_)))))))))
 subst t
 refine za8 rfl dc rfl (zab Af rfl dc rfl (show _=a*5+4 from rfl) (oF (i:=a) (j:=4) (k:=0) (q:=(u1,(_j,_i))) (q':=((⟨u1.at_,u1.broken,u1.base,u1.low,u1.high++[r1]⟩:cY),(_j,e))) GI o9 rfl rfl rfl rfl d rfl dc rfl (fun _ _=>rfl) (bG (Ge (k:=0) rfl (Gk rfl (q1:=((⟨u1.at_,u1.broken,u1.base,u1.low,u1.high++[r1]⟩:cY),(_j,e))) (q2:=((⟨(⟨u1.at_,u1.broken,u1.base,u1.low,u1.high++[r1]⟩:cY).at_,(⟨u1.at_,u1.broken,u1.base,u1.low,u1.high++[r1]⟩:cY).broken,(⟨u1.at_,u1.broken,u1.base,u1.low,u1.high++[r1]⟩:cY).base,u1.low,u1.high++[r1]⟩:cY),(_j,e))) o9 rfl) ?_))))
 cases h
 exact eB (rs:=[]) (_j,e) (.inr rfl) results130 .nil rfl (cj 3)
def ux (d:(List (Int×zam))→Int→Option (List Int)) (a:List (Int×zam)) (r1:Int):Option (List Int) := aM (!((zbO r1 a).isSome)) (some ([r1]:List Int)) (aT (d a (((zbO r1 a).getD (⟨0,0⟩:zam)).e0)) fun (r2:(List Int))=>aU (r2.length+1≤2147483648) <|some (r2++[((zbO r1 a).getD (⟨0,0⟩:zam)).e1]))
def uy (a:List (Int×zam)) (r1:Int):Option (List Int):=zaC (fun _ _=>none) ux zbC a r1
theorem PM (n:Nat):∀ {e:Nat} {a:List (Int×zam)} {r1:Int} {r:(List Int)} (_:zaC (fun _ _=>none) ux n a r1=some r),Fn prog 116 [.map (some e),.int .i32 r1] [cG (fun n:Int=>aC .i32 n) (fun p:zam=>bj #[.int .i32 p.e0,.int .i32 p.e1]) e a] (fun v0:Value=>v0) (fun v0=>[cG (fun n:Int=>aC .i32 n) (fun p:zam=>bj #[.int .i32 p.e0,.int .i32 p.e1]) e a,er v0 r]):=by
 induction n with
 |zero=>intro e a r1 r h;exact eG h
 |succ n j=>
 intro e a r1 r h
 rw[FSz] at h
 revert j h
 generalize zaC (fun _ _=>none) ux n=rcall
 intro j h
 unfold ux at h
 refine _root_.Go.Proofs.YtifpjbgnikjglaaGreatDoor.Fn.intro func116 rfl ntmps116 (by simp) (fun w0 K=>zyG (zyR 1 rfl (zyH (zyR 2 rfl (zkQ (k:=0) (ek:=(fun n:Int=>aC .i32 n)) (ev':=(fun p:zam=>bj #[.int .i32 p.e0,.int .i32 p.e1])) (kk:=r1) (z0:=(⟨0,0⟩:zam)) (jq.int aZ) underlying116 kr rfl dc rfl rfl rfl (zyR 1 rfl (eT rfl dc rfl rfl (eT rfl dc rfl rfl (zbk CD rfl dc (fun b1=>eK (k:=1) (vs:=[.int .i32 (((zbO r1 a).getD (⟨0,0⟩:zam)).e0),.int .i32 (((zbO r1 a).getD (⟨0,0⟩:zam)).e1)]) (l':=[.int .i32 (((zbO r1 a).getD (⟨0,0⟩:zam)).e0),.int .i32 (((zbO r1 a).getD (⟨0,0⟩:zam)).e1)]) GR rfl rfl rfl rfl rfl (show _≤_ by simp) rfl rfl (zyR 1 rfl (zyN (zaL (zyG (zyR 1 rfl (jU rfl dc rfl jV (zyN (zyB rfl h (fun h=>?_) (fun h=>?_)))))))))))))))))))
 ·refine zyG (zyR 1 rfl (fE (cs:=[.int .i32 r1]) (te:=21) (ps:=[(0,.tmp 15)]) rfl dc rfl (fun _=>by kernel_rfl) (fun M=>zyR 1 rfl (mA ([r1]:List Int) (k:=2) rfl jI rfl (show 1≤maxLen by decide) (zyN (zaz (bP ?_)))))))
  cases h
  exact eB (rs:=[.tmp 4]) (.slice (some ⟨M,0,none⟩) 1 1) (.inl rfl) results116 (.cons (.tmp rfl) .nil) rfl (cg [0,2] kr rfl)
 refine bA (ct (zaL (zbl h fun r2 G h=>zbt h fun H h=>vp 2 (let t:(Value×Nat)→List (Nat×Nat×Value):=fun b=>[(0,17,.map (some e)),(1,18,zP b1),(2,19,.int .i32 (((zbO r1 a).getD (⟨0,0⟩:zam)).e0)),(3,20,b.1),(4,21,.pointer (some ⟨b1,1,none⟩)),(5,22,.int .i32 (((zbO r1 a).getD (⟨0,0⟩:zam)).e1)),(6,23,.slice (some ⟨b.2,0,none⟩) 1 1)];let w:(Nat→Prop)→(Value×Nat)→List Asn:=fun D b=>[cG (fun n:Int=>aC .i32 n) (fun p:zam=>bj #[.int .i32 p.e0,.int .i32 p.e1]) e a,cells b1 [.int .i32 (((zbO r1 a).getD (⟨0,0⟩:zam)).e0),.int .i32 (((zbO r1 a).getD (⟨0,0⟩:zam)).e1)] 127,eD D cy [(3,er b.1 r2)],eD D cy [(6,cells b.2 [.int .i32 (((zbO r1 a).getD (⟨0,0⟩:zam)).e1)] 21)]];?_))))
 have g:tz [3,6] w:=fun i h D b=>bZ rfl (bZ rfl (bZ (qC rfl h) (bZ (qC rfl h) rfl)))
 refine vo (β:=Value×Nat) 7 ((.slice none 0 0:Value),(0:Nat)) t w mixed kr kr dc (fun _=>rfl) (ln (bZ oI (bZ oI rfl))) (px g (fun _=>rfl) (fun _=>rfl) 1 0 (fun _=>rfl) rfl (lC g rfl (fun _=>rfl) (fun _=>rfl) (fun D ⟨v1,s⟩ n d c u i=>⟨_,(ln (bZ (dO (fun l=>n (c 2 _ rfl (c 3 _ rfl l 2 dc) 1 dc)) fi) rfl)),oH dc jF k6 rfl dc (zbA (by rfl) rfl) rfl (show _=0 from rfl) (zaT 1 u i)⟩) (lC g rfl (fun _=>rfl) (fun _=>rfl) (fun D ⟨v1,s⟩ n d c u i=>⟨_,(ln (bZ (dO (fun l=>n (c 3 _ rfl l 2 dc)) fi) rfl)),zat (k:=1) eP rfl dc (bC 1 u d) rfl rfl (zaT 2 u i)⟩) (lA ?_ (lC g rfl (fun _=>rfl) (fun _=>rfl) (fun D ⟨v1,s⟩ n d c u i=>⟨_,(su (bZ (dO (fun l=>n (c 5 _ rfl (c 6 _ rfl l 5 dc) 4 dc)) fi) rfl)),oH dc jF k6 rfl dc (zbA (by rfl) rfl) rfl (show _=1 from rfl) (zaT 4 u i)⟩) (lC g rfl (fun _=>rfl) (fun _=>rfl) (fun D ⟨v1,s⟩ n d c u i=>⟨_,(su (bZ (dO (fun l=>n (c 6 _ rfl l 5 dc)) fi) rfl)),zat (k:=1) eP rfl dc (bC 4 u d) rfl rfl (zaT 5 u i)⟩) (lA ?_ oz))))))) ?_
 ·intro D b v hd I
  obtain⟨E,s⟩:=b
  exact km (ln (bZ (dO v fi) rfl)) (zbJ (vs:=[.map (some e),.int .i32 (((zbO r1 a).getD (⟨0,0⟩:zam)).e0)]) rfl dc rfl (da (jG (m:=0) rfl rfl (hd 0 dc)) (da (jG (m:=2) rfl rfl (hd 2 dc)) eJ)) rfl CR (j G) (cj 1) (fun v1=>lm (L':=[cG (fun n:Int=>aC .i32 n) (fun p:zam=>bj #[.int .i32 p.e0,.int .i32 p.e1]) e a,cells b1 [.int .i32 (((zbO r1 a).getD (⟨0,0⟩:zam)).e0),.int .i32 (((zbO r1 a).getD (⟨0,0⟩:zam)).e1)] 127,cy,eD D cy [(6,cells s [.int .i32 (((zbO r1 a).getD (⟨0,0⟩:zam)).e1)] 21)],er v1 r2]) (cg [4,1,2,3,5] kr rfl) (pp 2 rfl rfl (lL (b:=(E,s)) (v1,s) 3 (by rfl) (by rfl) rfl (AD (dV (fun l=>absurd l v) (AD rfl))) (ln (bZ (il (jf rfl) rfl) (bZ (ir (by rfl)) rfl)))))))
 ·intro D b v hd I
  obtain⟨v1,C⟩:=b
  exact km (su (bZ (dO v fi) rfl)) (fE (cs:=[.int .i32 (((zbO r1 a).getD (⟨0,0⟩:zam)).e1)]) (te:=21) (ps:=[(0,.tmp 22)]) rfl dc (fF (jG (m:=5) rfl rfl (hd 5 dc)) qg) (fun _=>by kernel_rfl) (fun s=>pp 3 rfl rfl (lL (b:=(v1,C)) (v1,s) 6 (by rfl) (by rfl) rfl (Dh (dV (fun l=>absurd l v) rfl)) (ln (bZ (ir (by rfl)) (bZ (il (jf rfl) rfl) rfl))))))
 intro D b hall
 obtain⟨v1,s⟩:=b
 refine km (ln (bZ (il (hall 3 dc) rfl) (bZ (il (hall 6 dc) rfl) rfl))) (iC (k:=2) (k2:=3) (ys:=[((zbO r1 a).getD (⟨0,0⟩:zam)).e1]) bo tk jI tg rfl dc rfl rfl rfl rfl rfl rfl H (fun J=>zyR 1 rfl (zyN (zaz ?_))))
 cases h
 exact eB (rs:=[.tmp 4]) J (.inl rfl) results116 (.cons (.tmp rfl) .nil) rfl (cg [0,2] kr rfl)
theorem H6 {a:Nat} {d:List (Int×zam)} {r1:Int} {r:(List Int)} (h:uy d r1=some r):Fn prog 116 [.map (some a),.int .i32 r1] [cG (fun n:Int=>aC .i32 n) (fun p:zam=>bj #[.int .i32 p.e0,.int .i32 p.e1]) a d] (fun v0:Value=>v0) (fun v0=>[cG (fun n:Int=>aC .i32 n) (fun p:zam=>bj #[.int .i32 p.e0,.int .i32 p.e1]) a d,er v0 r]):=by
 unfold uy at h
 exact PM zbC  h
def yw (u1:cY):Option ae := aU ((ac u1.base).size+(iL u1.low).size≤9223372036854775807) <|aU (((ac u1.base)++(iL u1.low)).size+(iL u1.high).size≤9223372036854775807) <|some (((ac u1.base)++(iL u1.low))++(iL u1.high))
theorem PN {u1:cY} {_j _i:Hd} {r:ae} (h:yw u1=some r):Fn prog 134 [.agg #[zI u1.at_,.int .u8 u1.broken,.int .i32 u1.base,_j.v,_i.v]] [er _j.v u1.low,er _i.v u1.high] (fun _b:Unit=>.string r) (fun _b=>[er _j.v u1.low,er _i.v u1.high]):=by
 unfold yw at h
 refine _root_.Go.Proofs.YtifpjbgnikjglaaGreatDoor.Fn.intro func134 rfl ntmps134 (by simp) (fun w0 K=>zyG (zeV rfl dc rfl (fun b1=>zyR 1 rfl (zyH (zab zgo rfl dc rfl (show _=2 from rfl) (zat (k:=2) eP rfl dc rfl rfl rfl (zdi rfl dc rfl (lJ aZ al) (zab Ae rfl dc rfl (show _=3 from rfl) (zat (k:=2) vH rfl dc rfl rfl rfl (Ci (k:=0) rfl dc rfl rfl bo aZ al (zbt h fun d h=>zaR rfl (lx d) (zab Af rfl dc rfl (show _=4 from rfl) (zat (k:=2) vH rfl dc rfl rfl rfl (Ci (k:=1) rfl dc rfl rfl bo aZ al (zbt h fun a h=>zaR rfl (lx a) (zyR 1 rfl (zyN (zaz ?_))))))))))))))))))
 cases h
 exact eB (rs:=[.tmp 2]) () (.inl rfl) results134 (.cons (.tmp rfl) .nil) rfl (cj 2)
def zib (u1:cY) (k:Option ae) (j:Int→Bool→Nat→Option ae) (a:Int) (d:Bool) (h:Nat):Option ae := aM (decide (h<(eA ga.data.toList).length)) (aT ((eA ga.data.toList)[h]?) fun (p1:Pc)=>cn (fun (e:Int→Option ae)=>aM (((p1.r:Int):Int)==32) (aM (decide ((0:Int)≤a)) (aU (0≤(a:Int)∧(a:Int)≤(p1.i:Int)∧((p1.i:Int):Int)≤(ga.size:Int)) <|some (cL ga a (p1.i:Int))) (aM (((p1.r:Int):Int)==32) (e a) (aM (d) (aM (((p1.r:Int):Int)==(cr u1.base)) (aU (cp ((p1.i:Int)+((ac (p1.r:Int)).size:Int))) <|e ((p1.i:Int)+((ac (p1.r:Int)).size:Int))) (e a)) (e a)))) (aM (((p1.r:Int):Int)==32) (e a) (aM (d) (aM (((p1.r:Int):Int)==(cr u1.base)) (aU (cp ((p1.i:Int)+((ac (p1.r:Int)).size:Int))) <|e ((p1.i:Int)+((ac (p1.r:Int)).size:Int))) (e a)) (e a)))) (fun (g:Int)=>j g (((p1.r:Int):Int)==32) (h+1))) (k)
def wl (u1:cY):Option ae := aT (sB u1) fun (r1:Bool)=>aM (!r1) (some (ac u1.base)) (cn (fun (a:Option ae)=>aU (fl u1.base) <|zaC (fun _ _ _=>none) (zib u1 a) zbC (-1) true 0) (some (ac (cr u1.base))))
theorem PO {u1:cY} {_j _i:Hd} {r:ae} (h:wl u1=some r):Fn prog 124 [.agg #[zI u1.at_,.int .u8 u1.broken,.int .i32 u1.base,_j.v,_i.v]] [er _j.v u1.low,er _i.v u1.high] (fun _b:Unit=>.string r) (fun _b=>[er _j.v u1.low,er _i.v u1.high]):=by
 unfold wl at h
 refine _root_.Go.Proofs.YtifpjbgnikjglaaGreatDoor.Fn.intro func124 rfl ntmps124 (by simp) (fun w0 K=>zyG (zeV rfl dc rfl (fun b1=>zyR 1 rfl (zyN (zaL (zyG (zbT (k:=2) (cs:=[zI u1.at_,.int .u8 u1.broken,.int .i32 u1.base,_j.v,_i.v]) qw rfl dc rfl rfl rfl rfl (zbl h fun r1 G h=>oZ (v:=.bool r1) (vs:=[.agg #[zI u1.at_,.int .u8 u1.broken,.int .i32 u1.base,_j.v,_i.v]]) rfl dc rfl rfl rfl Ao (AN (u1:=u1) (_j:=_j) (_i:=_i) G) [0,1] kr rfl (jU rfl dc rfl jV (zyN (zyB rfl h (fun h=>?_) (fun h=>?_))))))))))))
 ·refine zyG (zab zgo rfl dc rfl (show _=2 from rfl) (zat (k:=2) eP rfl dc rfl rfl rfl (zdi rfl dc rfl (lJ aZ al) (zyR 1 rfl (zyN (zaz (bP ?_)))))))
  cases h
  exact eB (rs:=[.tmp 2]) () (.inl rfl) results124 (.cons (.tmp rfl) .nil) rfl (cj 2)
 refine bA (ct (zbp h fun C I h=>zaM (β:=Unit) 3 rfl (fun b=>C=some r) (fun b=>[]) (fun b=>[(3,.int .i32 (cr u1.base))]) (fun b=>[er _j.v u1.low,er _i.v u1.high]) (fun cut=>?_) ?_))
 ·refine zyG (zab zgo rfl dc rfl (show _=2 from rfl) (zat (k:=2) eP rfl dc rfl rfl rfl (zbt h fun t h=>zaI (v:=.int .i32 (cr u1.base)) (vs:=[.int .i32 u1.base]) rfl dc rfl rfl rfl Av (mw fun w=>xK u1.base w t.1 t.2) (zyR 1 rfl (zyH (zyR 1 rfl (zyH (zyR 1 rfl (zyN (cut (zyG (tu al rfl dc rfl (fun D=>zyN (zau (eO (β:=Nat×Int×Bool×Nat) (fun b=>zaC (fun _ _ _=>none) (zib u1 C) b.1 b.2.1 b.2.2.1 b.2.2.2=some r) (fun b=>[]) (fun b=>[(3,.int .i32 (cr u1.base)),(4,zI b.2.1),(5,.bool b.2.2.1),(17,zP D)]) (fun b=>[er _j.v u1.low,er _i.v u1.high,obj D (.stringIter ga (lO ga b.2.2.2))]) (fun b=>b.1) (zbC,(-1),true,0) (by exact h) rfl (bE rfl) (cg [0,1,3] kr rfl) ?_)))))))))))))))
  rintro⟨u,a,g,n⟩ h
  cases u with
  |zero=>exact eG h
  |succ u=>
   obtain⟨T,e⟩:∃ag,ag=zaC (fun _ _ _=>none) (zib u1 C) u:=⟨_,rfl⟩
   have h:zib u1 C T a g n=some r:=by rw[e];exact h
   unfold zib at h
   refine zyG (qW (b:=decide (n<(eA ga.data.toList).length)) (fun d=>?_) (fun d=>?_))
   ·have h:=nG d h
    refine zbl h fun p1 E h=>tv (k:=2) (m:=n) (p:=p1) rfl dc rfl rfl E (eT rfl dc rfl rfl (zyN (zaL (gM rfl (bA (ct (zau (zbp h fun U H h=>zaM (β:=Int) 1 rfl (fun b=>U b=some r) (fun b=>[]) (fun b=>[(3,.int .i32 (cr u1.base)),(4,zI b),(7,.int .i32 (p1.r:Int)),(17,zP D)]) (fun b=>[er _j.v u1.low,er _i.v u1.high,obj D (.stringIter ga (lO ga (n+1)))]) (fun cut=>?_) ?_))))))))
    ·refine zyG (eT rfl dc rfl rfl (eT rfl dc rfl rfl (zyR 2 rfl (zyN (cut (zau (zyG (zyR 1 rfl (zaR rfl zbe (zyR 1 rfl (zyS (s:=25) rfl h (fun h=>?_) (fun h=>?_))))))))))))
     ·refine zyR 1 rfl (zaR rfl zbF (zyR 2 rfl (zyN (zyB rfl h (fun h=>?_) (fun h=>?_)))))
      ·refine zyG (zyR 2 rfl (zbt h fun O h=>ia rfl dc rfl rfl rfl (ka (i:=a) (j:=(p1.i:Int)) al (.inr rfl) (.inr rfl) O) (zyR 1 rfl (zyN (zaz (cD (bP (cD (bP (cD (bP ?_)))))))))))
       cases h
       exact eB (rs:=[.tmp 2]) () (.inl rfl) results124 (.cons (.tmp rfl) .nil) rfl (cj 2)
      exact zyG (zyR 1 rfl (zaR rfl zbe (zyR 1 rfl (zyN (zyB rfl h (fun h=>bA (ca (mD a h 3))) (fun h=>zyG (zyR 2 rfl (zyS (s:=37) rfl h (fun h=>zyR 2 rfl (zaR rfl zbe (zyR 2 rfl (zyN (zyB rfl h (fun h=>bV (zyR 2 rfl (zdi rfl dc rfl (lJ aZ al) (zcX rfl dc rfl al (zbt h fun M h=>zaR rfl (dE (r:=(p1.i:Int)+((ac (p1.r:Int)).size:Int)) (ai _ M)) (zyR 1 rfl (bG (ca (mD ((p1.i:Int)+((ac (p1.r:Int)).size:Int)) h 3))))))))) (fun h=>bA (ca (mD a h 3)))))))) (fun h=>zyR 5 rfl (zyN (eh rfl (bA (ca (mD a h 3))))))))))))))
     exact zyR 4 rfl (zyN (eh rfl (zyG (zyR 1 rfl (zaR rfl zbe (zyR 1 rfl (zyN (zyB rfl h (fun h=>bA (ca (mD a h 3))) (fun h=>zyG (zyR 2 rfl (zyS (s:=37) rfl h (fun h=>zyR 2 rfl (zaR rfl zbe (zyR 2 rfl (zyN (zyB rfl h (fun h=>bV (zyR 2 rfl (zdi rfl dc rfl (lJ aZ al) (zcX rfl dc rfl al (zbt h fun J h=>zaR rfl (dE (r:=(p1.i:Int)+((ac (p1.r:Int)).size:Int)) (ai _ J)) (zyR 1 rfl (bG (ca (mD ((p1.i:Int)+((ac (p1.r:Int)).size:Int)) h 3))))))))) (fun h=>bA (ca (mD a h 3)))))))) (fun h=>zyR 5 rfl (zyN (eh rfl (bA (ca (mD a h 3)))))))))))))))))
    rintro l h
    rw[H] at h
    refine bV (zyR 1 rfl (zaR rfl zbe (zyR 1 rfl (bG (ca ?_)))))
    subst e
    exact aD (u,l,((p1.r:Int):Int)==32,n+1) h 3
   have h:=nH d h
   exact tw (k:=2) (m:=n) rfl dc rfl rfl (iG (of_decide_eq_false d)) (eT rfl dc rfl rfl (zyN (zaL (eh rfl (dF (bU (bU (dG (mD () h 2)))))))))
 rintro _ h
 rw[I] at h
 refine zyG (zyR 1 rfl (zdi rfl dc rfl (lJ aZ al) (zyR 1 rfl (zyN (zaz ?_)))))
 cases h
 exact eB (rs:=[.tmp 2]) () (.inl rfl) results124 (.cons (.tmp rfl) .nil) rfl (cj 2)
abbrev kc:ae:=⟨#[204,128,65,195,128,69,195,136,73,195,140,79,195,146,85,195,153,97,195,160,101,195,168,105,195,172,111,195,178,117,195,185,208,149,208,128,208,152,208,141,208,181,209,144,208,184,209,157,204,129,65,195,129,69,195,137,73,195,141,79,195,147,85,195,154,89,195,157,97,195,161,101,195,169,105,195,173,111,195,179,117,195,186,121,195,189,67,196,134,76,196,185,78,197,131,82,197,148,83,197,154,90,197,185,99,196,135,108,196,186,110,197,132,114,197,149,115,197,155,122,197,186,206,145,206,134,206,149,206,136,206,151,206,137,206,153,206,138,206,159,206,140,206,165,206,142,206,169,206,143,206,177,206,172,206,181,206,173,206,183,206,174,206,185,206,175,206,191,207,140,207,133,207,141,207,137,207,142,208,147,208,131,208,154,208,140,208,179,209,147,208,186,209,156,207,138,206,144,207,139,206,176,204,130,65,195,130,69,195,138,73,195,142,79,195,148,85,195,155,97,195,162,101,195,170,105,195,174,111,195,180,117,195,187,67,196,136,71,196,156,72,196,164,74,196,180,83,197,156,87,197,180,89,197,182,99,196,137,103,196,157,104,196,165,106,196,181,115,197,157,119,197,181,121,197,183,204,131,65,195,131,78,195,145,79,195,149,97,195,163,110,195,177,111,195,181,73,196,168,85,197,168,105,196,169,117,197,169,204,132,65,196,128,69,196,146,73,196,170,79,197,140,85,197,170,97,196,129,101,196,147,105,196,171,111,197,141,117,197,171,204,134,65,196,130,69,196,148,71,196,158,73,196,172,79,197,142,85,197,172,97,196,131,101,196,149,103,196,159,105,196,173,111,197,143,117,197,173,208,152,208,153,208,163,208,142,208,184,208,185,209,131,209,158,204,135,67,196,138,69,196,150,71,196,160,73,196,176,90,197,187,99,196,139,101,196,151,103,196,161,122,197,188,204,136,65,195,132,69,195,139,73,195,143,79,195,150,85,195,156,97,195,164,101,195,171,105,195,175,111,195,182,117,195,188,121,195,191,89,197,184,208,149,208,129,208,134,208,135,208,181,209,145,209,150,209,151,206,153,206,170,206,165,206,171,206,185,207,138,207,133,207,139,204,138,65,195,133,85,197,174,97,195,165,117,197,175,204,139,79,197,144,85,197,176,111,197,145,117,197,177,204,140,67,196,140,68,196,142,69,196,154,76,196,189,78,197,135,82,197,152,83,197,160,84,197,164,90,197,189,99,196,141,100,196,143,101,196,155,108,196,190,110,197,136,114,197,153,115,197,161,116,197,165,122,197,190,204,167,67,195,135,71,196,162,75,196,182,76,196,187,78,197,133,82,197,150,83,197,158,84,197,162,99,195,167,103,196,163,107,196,183,108,196,188,110,197,134,114,197,151,115,197,159,116,197,163,204,168,65,196,132,69,196,152,73,196,174,85,197,178,97,196,133,101,196,153,105,196,175,117,197,179]⟩
def zic (e:Int→Int→Bool→Nat→Option (List (zam×Int))) (h:Int) (j:Int) (a:Bool) (g:Nat):Option (List (zam×Int)) := aM (decide (g<(eA kc.data.toList).length)) (aT ((eA kc.data.toList)[g]?) fun (d:Pc)=>cn (fun (k:Int→Option (List (zam×Int)))=>aU (fl (d.r:Int)) <|aM (((kind (d.r:Int)):Int)==2) (e h (d.r:Int) true (g+1)) (aM (a) (k (d.r:Int)) (ti ((⟨h,j⟩:zam),(d.r:Int)) <|k h))) (fun (i:Int)=>e i j (!a) (g+1))) (some [])
def Dw  : Option (List (zam×Int)) := zaC (fun _ _ _ _=>none) (zic) zbC 0 0 true 0
theorem PP  {xs:(List (zam×Int))} (h:Dw=some xs):rX prog 128 [] (fun q:zam×Int=>[.agg #[.int .i32 q.1.e0,.int .i32 q.1.e1],.int .i32 q.2]) xs []:=by
 unfold Dw at h
 refine rX.intro func128 rfl ntmps128 (by simp) (fun l w0 K I X a0 hy=>?_)
 obtain⟨r0,G⟩:∃r,xs=[]++r:=⟨xs,rfl⟩
 have Y:xs=r0:=G
 rw[Y] at h
 refine zyG (zbk CD rfl dc (fun b1=>zyH (zyR 1 rfl (zyH (tu al rfl dc rfl (fun M=>zyN (zau (eO (β:=Nat×Int×Int×Bool×Nat×(List (zam×Int))×(List (zam×Int))) (fun b=>zaC (fun _ _ _ _=>none) (zic) b.1 b.2.1 b.2.2.1 b.2.2.2.1 b.2.2.2.2.1=some b.2.2.2.2.2.2∧xs=b.2.2.2.2.2.1++b.2.2.2.2.2.2) (fun b=>[]) (fun b=>[(0,.func (.yield l) #[] #[]),(2,zP b1),(3,.bool b.2.2.2.1),(6,zP M)]) (fun b=>[I b.2.2.2.2.2.1,cells b1 [.int .i32 b.2.1,.int .i32 b.2.2.1] 127,obj M (.stringIter kc (lO kc b.2.2.2.2.1))]) (fun b=>b.1) (zbC,0,0,true,0,([]:List (zam×Int)),r0) ⟨h,G⟩ rfl (bE rfl) (cj 3) ?_))))))))
 rintro⟨E,n,j,d,C,a,u⟩ ⟨h,s⟩
 cases E with
 |zero=>exact eG h
 |succ E=>
  obtain⟨aw,g⟩:∃ag,ag=zaC (fun _ _ _ _=>none) (zic) E:=⟨_,rfl⟩
  have h:zic aw n j d C=some u:=by rw[g];exact h
  unfold zic at h
  refine zyG (qW (b:=decide (C<(eA kc.data.toList).length)) (fun t=>?_) (fun t=>?_))
  ·have h:=nG t h
   refine zbl h fun e Z h=>tv (k:=2) (m:=C) (p:=e) rfl dc rfl rfl Z (eT rfl dc rfl rfl (zyN (zaL (gM rfl (bA (ct (zau (zbp h fun j1 ao h=>zaM (β:=Int×(List (zam×Int))×(List (zam×Int))) 1 rfl (fun b=>j1 b.1=some b.2.2∧xs=b.2.1++b.2.2) (fun b=>[]) (fun b=>[(0,.func (.yield l) #[] #[]),(2,zP b1),(3,.bool d),(6,zP M)]) (fun b=>[I b.2.1,cells b1 [.int .i32 b.1,.int .i32 j] 127,obj M (.stringIter kc (lO kc (C+1)))]) (fun cut=>?_) ?_))))))))
   ·refine zyG (eT rfl dc rfl rfl (zyR 1 rfl (zyN (cut (zau (zyG (zyR 1 rfl (zbt h fun H h=>zaI (v:=zI (kind (e.r:Int))) (vs:=[.int .i32 (e.r:Int)]) rfl dc rfl rfl rfl CS (mw fun w=>xL (e.r:Int) w H.1 H.2) (zaR rfl zbe (zyR 1 rfl (zyN (zyB rfl h (fun h=>?_) (fun h=>?_)))))))))))))
    ·refine zyG (zyR 1 rfl (oH dc jF k6 rfl dc rfl rfl (show _=1 from rfl) (ef (k:=1) (l':=[.int .i32 n,.int .i32 (e.r:Int)]) k6 rfl rfl rfl rfl rfl (fun _ _=>rfl) rfl (zyR 1 rfl (zyN (dF (zF dc (bU (dG ?_)))))))))
     subst g
     exact aD (E,n,(e.r:Int),true,C+1,a,u) ⟨h,s⟩ 3
    refine zyG (zyR 2 rfl (zyN (zyB rfl h (fun h=>bV (zyR 1 rfl (oH dc jF k6 rfl dc rfl rfl (show _=0 from rfl) (ef (k:=1) (l':=[.int .i32 (e.r:Int),.int .i32 j]) k6 rfl rfl rfl rfl rfl (fun _ _=>rfl) rfl (bG (ca (mD ((e.r:Int),a,u) ⟨h,s⟩ 3))))))) (fun h=>zyG (zyR 1 rfl (zbT (k:=1) (cs:=[.int .i32 n,.int .i32 j]) xw rfl dc rfl rfl rfl rfl (zyR 1 rfl ?_)))))))
    obtain⟨i,W,h⟩:=vu h
    have D:xs=a++((⟨n,j⟩:zam),(e.r:Int))::i:=by rw[s,W]
    refine uY hy rfl dc rfl D rfl (k:=0) rfl ?_ ?_
    ·have U:xs=(a++[((⟨n,j⟩:zam),(e.r:Int))])++i:=by rw[D];simp
     exact jU rfl dc rfl jV (zyR 1 rfl (zyN (eh rfl (bA (ca (mD (n,a++[((⟨n,j⟩:zam),(e.r:Int))],i) ⟨h,U⟩ 3))))))
    exact jU rfl dc rfl jV (zyR 1 rfl (zyN (gM rfl (zaz (cD (bP (cD (bP (cD (va (ds:=[]) a ((⟨n,j⟩:zam),(e.r:Int)) i D (.inl rfl) ah results128 (cj 1)))))))))))
   rintro⟨T,J,O⟩ ⟨h,V⟩
   rw[ao] at h
   refine bV (zyR 1 rfl (jU rfl dc rfl jV (zyR 1 rfl (bG (ca ?_)))))
   subst g
   exact aD (E,T,j,!d,C+1,J,O) ⟨h,V⟩ 3
  have h:=nH t h
  refine tw (k:=2) (m:=C) rfl dc rfl rfl (iG (of_decide_eq_false t)) (eT rfl dc rfl rfl (zyN (zaL (eh rfl (dF (bU (bU (dG ?_))))))))
  cases h
  exact u6 (ds:=[]) (.inr rfl) ah results128 (aH I (s.trans (aE _))) (cj 1)
def zhr (x1:zam×Int) (e:(List (zam×Int))→(List (Int×zam))→Option ((List (zam×Int))×(List (Int×zam)))) (d:List (zam×Int)) (a:List (Int×zam)):Option ((List (zam×Int))×(List (Int×zam))) := e (hU x1.1 x1.2 d) (hU x1.2 x1.1 a)
def wm  : Option ((List (zam×Int))×(List (Int×zam))) := cn (fun (j:(List (zam×Int))→(List (Int×zam))→Option ((List (zam×Int))×(List (Int×zam))))=>aT (Dw) fun (h:(List (zam×Int)))=>cn (fun (i:(List (zam×Int))→(List (Int×zam))→Option ((List (zam×Int))×(List (Int×zam))))=>zdw i (zhr) h ([]:List (zam×Int)) ([]:List (Int×zam))) (fun (e:List (zam×Int)) (a:List (Int×zam))=>j e a)) (fun (g:List (zam×Int)) (d:List (Int×zam))=>some (g,d))
theorem Dx  {r:((List (zam×Int))×(List (Int×zam)))} (h:wm=some r):Fn prog 74 [] [] (fun b:Nat×Nat=>.tuple #[.map (some b.1),.map (some b.2)]) (fun b=>[cG (fun p:zam=>bj #[.int .i32 p.e0,.int .i32 p.e1]) (fun n:Int=>aC .i32 n) b.1 r.1,cG (fun n:Int=>aC .i32 n) (fun p:zam=>bj #[.int .i32 p.e0,.int .i32 p.e1]) b.2 r.2]):=by
 unfold wm at h
 refine _root_.Go.Proofs.YtifpjbgnikjglaaGreatDoor.Fn.intro func74 rfl ntmps74 (by simp) (fun w0 K=>ziX (zbp h fun j1 a1 h=>zaM (β:=(List (zam×Int))×(List (Int×zam))×Nat×Nat×Nat×Nat×(List Nat)) 2 rfl (fun b=>j1 b.1 b.2.1=some r) (fun b=>oj b.2.2.2.2.2.2) (fun b=>[(2,zP b.2.2.1),(3,zP b.2.2.2.2.1)]) (fun b=>[cells b.2.2.1 [.map (some b.2.2.2.1)] 115,cG (fun p:zam=>bj #[.int .i32 p.e0,.int .i32 p.e1]) (fun n:Int=>aC .i32 n) b.2.2.2.1 b.1,cells b.2.2.2.2.1 [.map (some b.2.2.2.2.2.1)] 116,cG (fun n:Int=>aC .i32 n) (fun p:zam=>bj #[.int .i32 p.e0,.int .i32 p.e1]) b.2.2.2.2.2.1 b.2.1,zhW ((b.2.2.2.2.2.2:List Nat).map fx)]) (fun cut=>?_) ?_))
 ·refine zyG (zyR 2 rfl (zyH (vz (fun p:zam=>bj #[.int .i32 p.e0,.int .i32 p.e1]) (fun n:Int=>aC .i32 n) rfl dc (fun G=>vz (fun n:Int=>aC .i32 n) (fun p:zam=>bj #[.int .i32 p.e0,.int .i32 p.e1]) rfl dc (fun E=>zbk GL rfl dc (fun O=>zbk GN rfl dc (fun M=>ef (k:=3) (l':=[.map (some G)]) GK rfl rfl rfl rfl rfl (fun _ _=>rfl) rfl (ef (k:=4) (l':=[.map (some E)]) GM rfl rfl rfl rfl rfl (fun _ _=>rfl) rfl (zyN (cut (zau (zbl h fun T a0 h=>zbp h fun I V h=>tZ (α:=zam×Int) (β:=(List (zam×Int))×(List (Int×zam))) (γ:=Unit) (δ:=Nat) (ps:=[8,9]) Ro.nil rfl Oa (PP a0) (fun pre b=>∀post,T=pre++post→zdw I (zhr) post b.1 b.2=some r) (fun pre b=>[cells O [.map (some G)] 115,cG (fun p:zam=>bj #[.int .i32 p.e0,.int .i32 p.e1]) (fun n:Int=>aC .i32 n) G b.1,cells M [.map (some E)] 116,cG (fun n:Int=>aC .i32 n) (fun p:zam=>bj #[.int .i32 p.e0,.int .i32 p.e1]) E b.2]) (fun c pre g=>False) (fun c pre g=>[]) (fun pre x b j=>[(0,.map none),(1,.map none),(2,zP O),(3,zP M),(4,zP j),(5,.int .i32 x.2)]) (fun pre x b j=>[cells O [.map (some G)] 115,cG (fun p:zam=>bj #[.int .i32 p.e0,.int .i32 p.e1]) (fun n:Int=>aC .i32 n) G b.1,cells M [.map (some E)] 116,cG (fun n:Int=>aC .i32 n) (fun p:zam=>bj #[.int .i32 p.e0,.int .i32 p.e1]) E b.2,cells j [.int .i32 x.1.e0,.int .i32 x.1.e1] 127]) (([]:List (zam×Int)),([]:List (Int×zam))) (fun post e=>by rw[aW] at e;subst e;exact h) (cg [3,1,4,2] kr rfl) trivial (fun _=>rfl) dc ?_ ?_ ?_ ?_))))))))))))
  ·rintro lp rc pre x1 post ⟨s,l⟩ w1 K1 C U aw t
   exact zyG (zbk CD rfl dc (fun b9=>eK (k:=4) (vs:=[.int .i32 x1.1.e0,.int .i32 x1.1.e1]) (l':=[.int .i32 x1.1.e0,.int .i32 x1.1.e1]) GR rfl rfl rfl rfl rfl (show _≤_ by simp) rfl rfl (zyN (bV (zyR 1 rfl (bG (fun a w ha hw=>⟨b9,(bE rfl) _ _ _ ha,hw.weaken (cj 5)⟩)))))))
  ·rintro lp rc pre x1 v ⟨s,l⟩ ao w1 K1 C U aw t
   have h:=t (x1::v) C
   obtain⟨a2,H⟩:∃ag,ag=zdw I (zhr) v:=⟨_,rfl⟩
   have h:zhr x1 a2 s l=some r:=by have h2:=h;rw[nI,←H] at h2;exact h2
   unfold zhr at h
   exact zau (zL (β:=Unit) 7 6 _ [(0,10,.map (some G)),(1,11,.agg #[.int .i32 x1.1.e0,.int .i32 x1.1.e1]),(2,12,.map (some E)),(3,13,.int .i32 x1.2),(4,14,.int .i32 x1.2),(5,15,.agg #[.int .i32 x1.1.e0,.int .i32 x1.1.e1])] (fun _b=>[]) (fun _b=>[cells O [.map (some G)] 115,cG (fun p:zam=>bj #[.int .i32 p.e0,.int .i32 p.e1]) (fun n:Int=>aC .i32 n) G (hU x1.1 x1.2 s),cells M [.map (some E)] 116,cG (fun n:Int=>aC .i32 n) (fun p:zam=>bj #[.int .i32 p.e0,.int .i32 p.e1]) E l,cells ao [.int .i32 x1.1.e0,.int .i32 x1.1.e1] 127]) mixed kr kr rfl dc dc (by rfl) kr kr (gE (fun D n d c u i=>zat (k:=0) xv rfl dc (zbA (by rfl) rfl) rfl rfl (zaT 0 u i)) (gE (fun D n d c u i=>zbT (k:=4) (cs:=[.int .i32 x1.1.e0,.int .i32 x1.1.e1]) xw rfl dc (zbA (by rfl) rfl) rfl rfl rfl (zaT 1 u i)) (gE (fun D n d c u i=>zat (k:=2) Ad rfl dc (zbA (by rfl) rfl) rfl rfl (zaT 2 u i)) (AJ 2 3 rfl (gE (fun D n d c u i=>zbT (k:=4) (cs:=[.int .i32 x1.1.e0,.int .i32 x1.1.e1]) xw rfl dc (zbA (by rfl) rfl) rfl rfl rfl (zaT 5 u i)) (td io)))))) (fun _b=>(gE (fun D n d c u i=>zat (k:=0) xv rfl dc (zbA (by rfl) rfl) rfl rfl (zaT 0 u i)) (gE (fun D n d c u i=>zbT (k:=4) (cs:=[.int .i32 x1.1.e0,.int .i32 x1.1.e1]) xw rfl dc (zbA (by rfl) rfl) rfl rfl rfl (zaT 1 u i)) (gE (fun D n d c u i=>zat (k:=2) Ad rfl dc (zbA (by rfl) rfl) rfl rfl (zaT 2 u i)) (AJ 2 3 rfl (gE (fun D n d c u i=>zbT (k:=4) (cs:=[.int .i32 x1.1.e0,.int .i32 x1.1.e1]) xw rfl dc (zbA (by rfl) rfl) rfl rfl rfl (zaT 5 u i)) (td io))))))) (fun D hn hd a4=>vA (k:=1) (ek:=(fun p:zam=>bj #[.int .i32 p.e0,.int .i32 p.e1])) (ev':=(fun n:Int=>aC .i32 n)) (kk:=x1.1) (vv:=x1.2) (Cr (f0:=fun p:zam=>p.e0) (f1:=fun p:zam=>p.e1) (fun a b h1 h2=>by cases a;cases b;simp_all) jF aZ k6) underlying115 rfl (jG (m:=0) kr rfl (hd 0 dc)) (jG (m:=1) kr rfl (hd 1 dc)) (jG (m:=4) kr rfl (hd 4 dc)) rfl (fun a w ha hw=>⟨(),ha,hw⟩)) (fun _b=>vA (k:=3) (ek:=(fun n:Int=>aC .i32 n)) (ev':=(fun p:zam=>bj #[.int .i32 p.e0,.int .i32 p.e1])) (kk:=x1.2) (vv:=x1.1) (jq.int aZ) underlying116 rfl rfl rfl rfl rfl (bG (ca (lH (hU x1.1 x1.2 s,hU x1.2 x1.1 l) (fun Y e2=>by have e9:=lK C e2;subst e9;subst H;exact h) (cj 4))))))
  ·rintro J ⟨s,l⟩ t
   have h:I s l=some r:=t [] (aE _).symm
   rw[V] at h
   show TX _ _ _ _ _ _ _ [zhW ((([]:List Nat):List Nat).map fx),cy,cy,cy,cy,cells O [.map (some G)] 115,cG (fun p:zam=>bj #[.int .i32 p.e0,.int .i32 p.e1]) (fun n:Int=>aC .i32 n) G s,cells M [.map (some E)] 116,cG (fun n:Int=>aC .i32 n) (fun p:zam=>bj #[.int .i32 p.e0,.int .i32 p.e1]) E l,fx J]
   exact rU (k:=9) (j:=0) rfl rfl dc (ca (cH (s,l,O,G,M,E,J::([]:List Nat)) h rfl (bE rfl) (cg [5,6,7,8,0] kr rfl)))
  exact fun J c pre x1 post g a3 hX=>(show False from hX).elim
 rintro⟨Z,W,b1,b2,b3,b4,ds1⟩ h
 rw[a1] at h
 refine zaL (zdb 3 [(0,16,.map (some b2)),(1,17,.map (some b4)),(2,0,.map (some b2))] mixed kr kr dc (by rfl) kr kr (zae (fun D n d c u i=>zat (k:=0) xv rfl dc (zbA (by rfl) rfl) rfl rfl (zaT 0 u i)) (zae (fun D n d c u i=>zat (k:=2) Ad rfl dc (zbA (by rfl) rfl) rfl rfl (zaT 1 u i)) (zyP 1 2 rfl ce))) (zyR 1 rfl (zyN (zaz ?_))))
 cases h
 exact lj (rs:=[.tmp 0,.tmp 1]) ds1 (b2,b4) (.inl rfl) (lg (k:=4) rfl) results74 (.cons (.tmp rfl) (.cons (.tmp rfl) .nil)) rfl (cg [1,3] kr rfl)
def Dy (r1:Int):Option (List Int) := aT (wm) fun (r2:((List (zam×Int))×(List (Int×zam))))=>aT (uy r2.2 r1) fun (r3:(List Int))=>some r3
theorem PQ {r1:Int} {r:(List Int)} (h:Dy r1=some r):Fn prog 64 [.int .i32 r1] [] (fun v0:Value=>v0) (fun v0=>[er v0 r]):=by
 unfold Dy at h
 refine _root_.Go.Proofs.YtifpjbgnikjglaaGreatDoor.Fn.intro func64 rfl ntmps64 (by simp) (fun w0 K=>zyG (zyR 1 rfl (zyH (zbl h fun r2 d h=>zbJ (vs:=[]) rfl dc rfl rfl rfl CM (Dx d) ah ?_))))
 rintro⟨b1,e⟩
 refine zyR 1 rfl (eT rfl dc rfl rfl (eT rfl dc rfl rfl (zyR 2 rfl (zyH (zyR 2 rfl (zbl h fun r3 a h=>zbJ (vs:=[.map (some e),.int .i32 r1]) rfl dc rfl rfl rfl CR (H6 a) (cg [1] kr rfl) (fun v1=>zyR 1 rfl (zyN (zaz ?_)))))))))
 cases h
 exact eB (rs:=[.tmp 2]) v1 (.inl rfl) results64 (.cons (.tmp rfl) .nil) rfl (cg [3] kr rfl)
def H7:List (Int×Int×Int):=[(65,768,192),(69,768,200),(73,768,204),(79,768,210),(85,768,217),(97,768,224),(101,768,232),(105,768,236),(111,768,242),(117,768,249),(1045,768,1024),(1048,768,1037),(1077,768,1104),(1080,768,1117),(65,769,193),(69,769,201),(73,769,205),(79,769,211),(85,769,218),(89,769,221),(97,769,225),(101,769,233),(105,769,237),(111,769,243),(117,769,250),(121,769,253),(67,769,262),(76,769,313),(78,769,323),(82,769,340),(83,769,346),(90,769,377),(99,769,263),(108,769,314),(110,769,324),(114,769,341),(115,769,347),(122,769,378),(913,769,902),(917,769,904),(919,769,905),(921,769,906),(927,769,908),(933,769,910),(937,769,911),(945,769,940),(949,769,941),(951,769,942),(953,769,943),(959,769,972),(965,769,973),(969,769,974),(1043,769,1027),(1050,769,1036),(1075,769,1107),(1082,769,1116),(970,769,912),(971,769,944),(65,770,194),(69,770,202),(73,770,206),(79,770,212),(85,770,219),(97,770,226),(101,770,234),(105,770,238),(111,770,244),(117,770,251),(67,770,264),(71,770,284),(72,770,292),(74,770,308),(83,770,348),(87,770,372),(89,770,374),(99,770,265),(103,770,285),(104,770,293),(106,770,309),(115,770,349),(119,770,373),(121,770,375),(65,771,195),(78,771,209),(79,771,213),(97,771,227),(110,771,241),(111,771,245),(73,771,296),(85,771,360),(105,771,297),(117,771,361),(65,772,256),(69,772,274),(73,772,298),(79,772,332),(85,772,362),(97,772,257),(101,772,275),(105,772,299),(111,772,333),(117,772,363),(65,774,258),(69,774,276),(71,774,286),(73,774,300),(79,774,334),(85,774,364),(97,774,259),(101,774,277),(103,774,287),(105,774,301),(111,774,335),(117,774,365),(1048,774,1049),(1059,774,1038),(1080,774,1081),(1091,774,1118),(67,775,266),(69,775,278),(71,775,288),(73,775,304),(90,775,379),(99,775,267),(101,775,279),(103,775,289),(122,775,380),(65,776,196),(69,776,203),(73,776,207),(79,776,214),(85,776,220),(97,776,228),(101,776,235),(105,776,239),(111,776,246),(117,776,252),(121,776,255),(89,776,376),(1045,776,1025),(1030,776,1031),(1077,776,1105),(1110,776,1111),(921,776,938),(933,776,939),(953,776,970),(965,776,971),(65,778,197),(85,778,366),(97,778,229),(117,778,367),(79,779,336),(85,779,368),(111,779,337),(117,779,369),(67,780,268),(68,780,270),(69,780,282),(76,780,317),(78,780,327),(82,780,344),(83,780,352),(84,780,356),(90,780,381),(99,780,269),(100,780,271),(101,780,283),(108,780,318),(110,780,328),(114,780,345),(115,780,353),(116,780,357),(122,780,382),(67,807,199),(71,807,290),(75,807,310),(76,807,315),(78,807,325),(82,807,342),(83,807,350),(84,807,354),(99,807,231),(103,807,291),(107,807,311),(108,807,316),(110,807,326),(114,807,343),(115,807,351),(116,807,355),(65,808,260),(69,808,280),(73,808,302),(85,808,370),(97,808,261),(101,808,281),(105,808,303),(117,808,371)]
def iM:List (zam×Int):=H7.map fun t=>(⟨t.1,t.2.1⟩,t.2.2)
def tabS:List (Int×zam):=H7.map fun t=>(t.2.2,⟨t.1,t.2.1⟩)
theorem H8:wm=some (iM,tabS):=by decide +kernel
theorem pz {T:Type} {bot:T} {step:T→T} {n:Nat}:zaC bot step (n+1)=step (zaC bot step n):=rfl
def nm (l:List UInt8) (i:Nat):Int:=((l.getD i 0).toNat:Int)
theorem ru (l:List UInt8) (i:Nat):0≤nm l i∧nm l i≤255:=by
 have:=(l.getD i 0).toNat_lt;unfold nm;omega
theorem H9 {s:ae} {a i:Nat} (h:a+i<s.size):jz s ((a:Int)+(i:Int))=some (nm (s.data.toList.drop a) i):=by
 rw[B8 (n:=a+i) (by omega) h]
 have e:(s.data.toList.drop a).getD i 0=s[a+i]:=by
  rw[cB,List.getElem?_drop,aO (by simpa using h)]
  simp;rfl
 unfold nm;rw[e]
def na (l:List UInt8):Nat→Int
 |1=>nm l 0
 |2=>(nm l 0-192)*64+nm l 1-128
 |3=>((nm l 0-224)*64+nm l 1-128)*64+nm l 2-128
 |4=>(((nm l 0-240)*64+nm l 1-128)*64+nm l 2-128)*64+nm l 3-128
 |_=>0
theorem PR (l:List UInt8) (n:Nat) : -100000000≤na l n∧na l n≤100000000:=by
 have h0:=ru l 0;have h1:=ru l 1;have h2:=ru l 2;have h3:=ru l 3
 unfold na;split<;>omega
def acc (s:ae) (a n:Nat):Prop:=vr (na (s.data.toList.drop a) n)∧wd (na (s.data.toList.drop a) n)=n∧ac (na (s.data.toList.drop a) n)=cL s a ((a:Int)+n)
theorem wn {s:ae} {a i n:Nat} {j:Int→Option (Int×Int)} {ag:Int→Int→Option (Int×Int)} {r:Int} (h:i<n) (d:a+i<s.size) (hsz:s.size≤9223372036854775000) (hr : -10000000≤r∧r≤10000000) (hi:i≤4) :
  zeY s a n j ag r (i:Int)=ag (r*64+nm (s.data.toList.drop a) i-128) ((i+1:Nat):Int):=by
 have hb:=ru (s.data.toList.drop a) i
 unfold zeY
 refine eW (gO (gO (bf (H9 d) (gO (gO (gO (gO ?_)))))))
 rfl
theorem AO {s:ae} {a n:Nat} {j:Int→Option (Int×Int)} {ag:Int→Int→Option (Int×Int)} {r:Int}:zeY s a n j ag r (n:Int)=j r:=by
 unfold zeY;exact fP rfl
theorem PS (s:ae) (a n:Nat) (k:1≤n∧n≤4) (j:a+n≤s.size) (hsz:s.size≤9223372036854775000) (d:Option (Int×Int)) (r2:Int) (hr:r2=na (s.data.toList.drop a) n) [Decidable (acc s a n)] :
  (aT (sw r2) fun (i:Bool)=>aM (!i) (aT (sx r2) fun (g:Int)=>aM ((g:Int)==(n:Int)) (aT (rp r2) fun (e:ae)=>
   aU (cp ((a:Int)+n))<|aU (0≤(a:Int)∧(a:Int)≤((a:Int)+n)∧((a:Int)+n)≤(s.size:Int))<|aM (decide (e=cL s a ((a:Int)+n))) (some (r2,(n:Int))) d) d) d) =
  if acc s a n then some (na (s.data.toList.drop a) n,(n:Int)) else d:=by
 subst hr
 have hc:=PR (s.data.toList.drop a) n
 refine bf (Dp _) ?_
 by_cases h1:vr (na (s.data.toList.drop a) n)
 ·refine bQ (by simp[h1]) (bf (HZ _) ?_)
  by_cases h2:wd (na (s.data.toList.drop a) n)=n
  ·refine bQ (by simp[h2]) (bf (AL _ ⟨by omega,by omega⟩) (gO (gO ?_)))
   by_cases h3:ac (na (s.data.toList.drop a) n)=cL s a ((a:Int)+n)
   ·rw[ax (show acc s a n from ⟨h1,h2,h3⟩)];exact bQ (au h3) rfl
   ·rw[ap (fun h:acc s a n=>h3 h.2.2)];exact bM (aj h3) rfl
  ·rw[ap (fun h:acc s a n=>h2 h.2.1)];exact bM (aA.2 h2) rfl
 ·rw[ap (fun h:acc s a n=>h1 h.1)];exact bM (by simp[h1]) rfl
open Classical in
theorem PT (s:ae) (a n:Nat) (m:1≤n∧n≤4) (l:a+n≤s.size) (hsz:s.size≤9223372036854775000) (k:Option (Int×Int)) (ag:Int→Option (Int×Int)) :
  zex s a k ag (n:Int)=if acc s a n then some (na (s.data.toList.drop a) n,(n:Int)) else ag ((n+1:Nat):Int):=by
 obtain⟨F,t,_⟩:=vZ 5 (by omega)
 have h0:=ru (s.data.toList.drop a) 0;have h1:=ru (s.data.toList.drop a) 1;have h2:=ru (s.data.toList.drop a) 2;have h3:=ru (s.data.toList.drop a) 3
 have hg:jz s (a:Int)=some (nm (s.data.toList.drop a) 0):=by have:=H9 (s:=s) (a:=a) (i:=0) (by omega);simpa using this
 unfold zex
 refine eW (gO (eW (cA (cA (bf hg (gO ?_))))))
 have d:∀r2:Int,r2=na (s.data.toList.drop a) n→∀z,z=ag ((n+1:Nat):Int)→(aT (sw r2) fun (j:Bool)=>aM (!j) (aT (sx r2) fun (h:Int)=>aM ((h:Int)==(n:Int)) (aT (rp r2) fun (g:ae)=>
   aU (cp ((a:Int)+n))<|aU (0≤(a:Int)∧(a:Int)≤((a:Int)+n)∧((a:Int)+n)≤(s.size:Int))<|aM (decide (g=cL s a ((a:Int)+n))) (some (r2,(n:Int))) z) z) z) =
   if acc s a n then some (na (s.data.toList.drop a) n,(n:Int)) else ag ((n+1:Nat):Int):=fun r2 hr z hz=>by subst hz;exact PS s a n m l hsz _ r2 hr
 have hz:(aU (cp ((n:Int)+1))<|ag ((n:Int)+1))=ag ((n+1:Nat):Int):=gO rfl
 rw[hz,t]
 obtain rfl|rfl|rfl|rfl:n=1∨n=2∨n=3∨n=4:=by omega
 ·refine bM rfl (cA ?_)
  rw[pz,show ((1:Int))=((1:Nat):Int) from rfl,AO]
  exact d _ rfl _ rfl
 ·have e:(256-(ly .i32 1 (8-((2:Nat):Int))))=192:=by decide
  rw[e]
  refine bQ rfl (gO (gO (gO (gO (cA ?_)))))
  rw[pz,show ((1:Int))=((1:Nat):Int) from rfl,wn (by omega) (by omega) hsz (by omega) (by omega),pz,AO]
  exact d _ rfl _ rfl
 ·have e:(256-(ly .i32 1 (8-((3:Nat):Int))))=224:=by decide
  rw[e]
  refine bQ rfl (gO (gO (gO (gO (cA ?_)))))
  rw[pz,show ((1:Int))=((1:Nat):Int) from rfl,wn (by omega) (by omega) hsz (by omega) (by omega),pz,wn (by omega) (by omega) hsz (by omega) (by omega),pz,AO]
  exact d _ rfl _ rfl
 ·have e:(256-(ly .i32 1 (8-((4:Nat):Int))))=240:=by decide
  rw[e]
  refine bQ rfl (gO (gO (gO (gO (cA ?_)))))
  rw[pz,show ((1:Int))=((1:Nat):Int) from rfl,wn (by omega) (by omega) hsz (by omega) (by omega),pz,wn (by omega) (by omega) hsz (by omega) (by omega),pz,wn (by omega) (by omega) hsz (by have q:=ru (s.data.toList.drop a) (1+1);omega) (by omega),pz,AO]
  exact d _ rfl _ rfl
theorem Dz (s:ae) (a n:Nat):(cL s a ((a:Int)+n)).data.toList=(s.data.toList.drop a).take n:=by
 unfold cL
 rw[extract_data]
 simp only[Int.toNat_natCast,show ((a:Int)+(n:Int)).toNat=a+n by omega]
 rw[show a+n-a=n by omega]
theorem PU {s:ae} {a n:Nat} (i:1≤n∧n≤4) (g:a+n≤s.size) (h:acc s a n):((decodeL (s.data.toList.drop a)).1:Int)=na (s.data.toList.drop a) n∧(decodeL (s.data.toList.drop a)).2=n∧¬((decodeL (s.data.toList.drop a)).1=65533∧(decodeL (s.data.toList.drop a)).2=1):=by
 obtain⟨h1,h2,h3⟩:=h
 have d:=aH (fun b:ae=>b.data.toList) h3
 simp only[mW,Dz] at d
 have hv:=h1
 unfold vr at h1
 generalize hc:na (s.data.toList.drop a) n=c at *
 obtain⟨m,rfl⟩:∃m:Nat,c=m:=⟨c.toNat,by omega⟩
 have h5:=AA m (by omega) ((s.data.toList.drop a).drop n)
 rw[d,bO] at h5
 have e:((s.data.toList.drop a).take n).length=n:=by simp;omega
 rw[e] at h5
 rw[h5]
 refine⟨rfl,rfl,fun⟨e1,e2⟩=>?_⟩
 simp only at e1 e2
 subst e1;subst e2
 unfold wd at h2;revert h2;decide
theorem rv {l:List UInt8} {i:Nat} {x:Int} (h:l[i]?=some (x.toNat.toUInt8)) (hx:0≤x∧x≤255):nm l i=x:=by
 unfold nm
 rw[cB,h]
 simp;omega
theorem Ia {s:ae} {a:Nat} (ha:a<s.size) (hb:¬((decodeL (s.data.toList.drop a)).1=65533∧(decodeL (s.data.toList.drop a)).2=1)) :
  acc s a (decodeL (s.data.toList.drop a)).2∧1≤(decodeL (s.data.toList.drop a)).2∧(decodeL (s.data.toList.drop a)).2≤4∧a+(decodeL (s.data.toList.drop a)).2≤s.size:=by
 have n:s.data.toList.drop a≠[]:=by
  intro h;have:=aH fu h;simp at this;omega
 have j:=xk _ n
 generalize m:s.data.toList.drop a=l at *
 generalize hr:(decodeL l).1=r at *
 generalize v:(decodeL l).2=w at *
 have t:l.length=s.size-a:=by rw[←m];simp
 have hv:=j.valid
 have k:vr (r:Int):=by unfold vr;omega
 have h1:=j.width hb
 have h2:=j.bytes hb
 have h3:=PE _ k
 have u:=j.le
 have g:na l w=r:=by
  have d:∀ (i:Nat) (x:Int),(encodeRuneZ (r:Int))[i]?=some x→l[i]?=some (x.toNat.toUInt8):=by
   intro i x hx
   have hi:i<w:=by
    rw[←h1];unfold encodeRune;rw[ar];exact (az.1 hx).1
   have:(encodeRune (r:Int))[i]?=some (x.toNat.toUInt8):=by unfold encodeRune;rw[bT,hx];rfl
   rw[h2,List.getElem?_take,ax hi] at this
   exact this
  unfold wd at h3
  rw[ax k] at h3
  split at h3
  ·rw[encodeRuneZ_one (by omega) (by omega)] at d
   have e:w=1:=by omega
   rw[e]
   exact rv (d 0 _ rfl) (by omega)
  ·split at h3
   ·rw[encodeRuneZ_two (by omega) (by omega)] at d
    have e:w=2:=by omega
    rw[e]
    simp only[na]
    rw[rv (d 0 _ rfl) (by omega),rv (d 1 _ rfl) (by omega)];omega
   ·split at h3
    ·rw[encodeRuneZ_three (by omega)] at d
     have e:w=3:=by omega
     rw[e]
     simp only[na]
     rw[rv (d 0 _ rfl) (by omega),rv (d 1 _ rfl) (by omega),rv (d 2 _ rfl) (by omega)];omega
    ·rw[encodeRuneZ_four (by omega) (by omega)] at d
     have e:w=4:=by omega
     rw[e]
     simp only[na]
     rw[rv (d 0 _ rfl) (by omega),rv (d 1 _ rfl) (by omega),rv (d 2 _ rfl) (by omega),rv (d 3 _ rfl) (by omega)];omega
 have C:=xh (r:Int)
 refine⟨⟨by rw[m,g];exact k,by rw[m,g];omega,?_⟩,j.pos,by omega,by omega⟩
 rw[m,g]
 apply _root_.ByteArray.ext
 apply fv.1
 rw[mW,Dz,m,h2]
def gv (p:Pc):cT:=⟨p.i,p.w,p.r,p.broken⟩
def wo (l:List UInt8):Int×Int:=if (decodeL l).1=65533∧(decodeL l).2=1 then (0,0) else ((decodeL l).1,(decodeL l).2)
theorem PV (s:ae) (a:Nat) (ha:a<s.size) (hsz:s.size≤9223372036854775000):xR s a=some (wo (s.data.toList.drop a)):=by
 classical
 unfold xR
 refine cA ?_
 obtain⟨F,v,_⟩:=vZ 6 (by omega)
 rw[v]
 have key:∀k m:Nat,m+k=5→1≤m→(∀n,1≤n→n<m→a+n≤s.size→¬acc s a n)→∀G,zaC (fun _=>none) (zex s a (some (0,0))) (G+k+1) (m:Int)=some (wo (s.data.toList.drop a)):=by
  intro k
  induction k with
  |zero=>
   intro m hm h1 d G
   have j:m=5:=by omega
   rw[j,pz]
   unfold zex
   refine bM rfl ?_
   unfold wo
   rw[ax]
   by_cases hb:(decodeL (s.data.toList.drop a)).1=65533∧(decodeL (s.data.toList.drop a)).2=1
   ·exact hb
   ·obtain⟨h2,h3,w,h5⟩:=Ia ha hb
    exact absurd h2 (d _ h3 (by omega) h5)
  |succ k t=>
   intro m hm h1 d G
   rw[pz]
   by_cases l:a+m≤s.size
   ·rw[PT s a m ⟨h1,by omega⟩ l hsz]
    by_cases e:acc s a m
    ·rw[ax e]
     obtain⟨e1,e2,C⟩:=PU ⟨h1,by omega⟩ l e
     unfold wo;rw[ap C,e1,e2]
    ·rw[ap e]
     exact t (m+1) (by omega) (by omega) (fun n i u g=>by
      by_cases h:n=m
      ·subst h;exact e
      ·exact d n i (by omega) g) G
   ·unfold zex
    refine eW (gO (fP ?_))
    unfold wo
    rw[ax]
    by_cases hb:(decodeL (s.data.toList.drop a)).1=65533∧(decodeL (s.data.toList.drop a)).2=1
    ·exact hb
    ·obtain⟨h2,h3,w,h5⟩:=Ia ha hb
     exact absurd h2 (d _ h3 (by omega) h5)
 exact key 4 1 rfl (by omega) (fun n h1 h2=>by omega) (F+1)
theorem PW (s:ae) (a:Nat) (ha:a<s.size) (hsz:s.size≤9223372036854775000):xS s a=some (gv ⟨a,(decodeL (s.data.toList.drop a)).2,(decodeL (s.data.toList.drop a)).1⟩):=by
 unfold xS
 refine bf (PV s a ha hsz) ?_
 unfold wo gv Pc.broken
 have hp:=rZ (s.data.toList.drop a)
 by_cases hb:(decodeL (s.data.toList.drop a)).1=65533∧(decodeL (s.data.toList.drop a)).2=1
 ·rw[ax hb]
  refine bM rfl ?_
  rw[hb.1,hb.2];rfl
 ·rw[ap hb]
  refine bQ (au (by simp only;omega)) ?_
  have:((decodeL (s.data.toList.drop a)).1==65533&&(decodeL (s.data.toList.drop a)).2==1)=false:=by
   rw[Bool.and_eq_false_iff]
   by_cases h:(decodeL (s.data.toList.drop a)).1=65533
   ·right;exact aA.2 (fun h2=>hb ⟨h,h2⟩)
   ·left;exact aA.2 h
  simp only[this]
theorem PX (s:ae) (hsz:s.size≤2147483648):xT s=some ((eA s.data.toList).map gv):=by
 unfold xT
 refine cA ?_
 have key:∀n a:Nat,a≤s.size→s.size-a<n→∀l:List cT,l.length≤a→zaC (fun _ _=>none) (zeG s some) n l (a:Int)=some (l++(mX a (s.data.toList.drop a)).map gv):=by
  intro n
  induction n with
  |zero=>intro a _ h;omega
  |succ n i=>
   intro a ha j l k
   rw[pz]
   generalize hg:zaC (fun _ _=>none) (zeG s some) n=ag
   unfold zeG
   by_cases h:a<s.size
   ·have e:s.data.toList.drop a≠[]:=by
     intro h;have:=aH fu h;simp at this;omega
    have d:=xk _ e
    have h1:=d.pos;have h2:=d.le
    have g:(s.data.toList.drop a).length=s.size-a:=by simp
    refine eW (bf (PW s a h (by omega)) (gO (zdG ⟨by simp only[gv];omega,by simp only[gv];omega⟩ ?_)))
    have:=i (a+(decodeL (s.data.toList.drop a)).2) (by omega) (by omega) (l++[gv ⟨a,(decodeL (s.data.toList.drop a)).2,(decodeL (s.data.toList.drop a)).1⟩]) (by simp;omega)
    rw[sb _ _ e,fa]
    rw[show ((a:Int)+(gv ⟨a,(decodeL (s.data.toList.drop a)).2,(decodeL (s.data.toList.drop a)).1⟩).Width)=((a+(decodeL (s.data.toList.drop a)).2:Nat):Int) by simp[gv]]
    rw[←hg,this];simp
   ·refine fP ?_
    have:s.data.toList.drop a=[]:=List.drop_eq_nil_of_le (by simp;omega)
    rw[this,sa];simp
 exact key zbC 0 (by omega) (by unfold zbC;omega) [] (by simp)
def eE (r:Int):Bool:=decide (768≤r∧r≤879)
theorem mF (r:Int) (h:cW r=true):0≤r∧r<1120∧¬(768≤r∧r≤879):=by
 unfold cW at h
 rw[Bool.or_eq_true,rm,vQ] at h
 unfold nY qA at h
 refine⟨?_,?_,?_⟩<;>omega
theorem zmD (r:Int):((kind r:Int)==1)=cW r:=by
 cases h:cW r with
 |true=>
  have:=mF r h
  have e:kind r=1:=by unfold kind rl;rw[ap (by omega),ax h]
  rw[e];rfl
 |false=>
  rw[aA]
  unfold kind rl
  rw[h]
  simp only[Bool.false_eq_true,if_false]
  (repeat' split)<;>omega
theorem Ib (r:Int):((kind r:Int)==2)=eE r:=by
 unfold eE
 by_cases h:768≤r∧r≤879
 ·rw[au h,beq_iff_eq]
  have a:cW r=false:=by
   cases h':cW r with
   |false=>rfl
   |true=>exact absurd h (mF r h').2.2
  unfold kind rl
  rw[ap (by omega),a,ap (by simp),ax h]
 ·rw[aj h,aA]
  unfold kind rl
  (repeat' split)<;>omega
theorem AP (u:cY) (h:fl u.base):sB u=some (cW u.base):=by
 unfold sB
 by_cases h0:0≤u.base
 ·exact bQ (au h0) (zdG h (aH some (zmD _)))
 ·refine bM (aj h0) (aH some ?_)
  cases h':cW u.base with
  |false=>rfl
  |true=>exact absurd (mF _ h').1 h0
theorem wq (x:bK) (h:fl x.Rune):sy x=some (cW x.Rune):=by
 unfold sy rq
 by_cases h0:0≤x.Rune
 ·refine bQ (au h0) (bf (a:=cW x.Rune) (zdG h ?_) rfl)
  cases hg:great x.Rune with
  |true=>exact bQ rfl (by unfold cW;rw[hg];rfl)
  |false=>exact bM rfl (zdG h (by unfold cW;rw[hg];rfl))
 ·refine bM (aj h0) (aH some ?_)
  cases h':cW x.Rune with
  |false=>rfl
  |true=>exact absurd (mF _ h').1 h0
theorem PY (x:bK):yp x=some (eE x.Rune):=by
 unfold yp qF eE
 by_cases h0:0≤x.Rune
 ·refine bQ (au h0) (bf (a:=eE x.Rune) ?_ rfl)
  unfold eE
  by_cases h1:768≤x.Rune
  ·exact bQ (au h1) (aH some (by simp[h1]))
  ·exact bM (aj h1) (aH some (by simp[h1]))
 ·exact bM (aj h0) (aH some (by symm;rw[aj];omega))
def uz:List (Int×Int):=[(790,793),(796,800),(803,819),(825,828),(837,841),(845,846),(851,854),(857,858)]
def mG (r:Int):Bool:=uz.any fun p=>decide (p.1≤r)&&decide (r≤p.2)
theorem Ic (r:Int):wh r=some (mG r):=by
 unfold wh
 refine cA ?_
 have:=xU (xs:=([(⟨790,793⟩:jK),(⟨796,800⟩:jK),(⟨803,819⟩:jK),(⟨825,828⟩:jK),(⟨837,841⟩:jK),(⟨845,846⟩:jK),(⟨851,854⟩:jK),(⟨857,858⟩:jK)]:List jK)) (F:=zgL r (some false)) (bot:=fun _=>none)
  (g:=fun p=>if decide (p.e0≤r)&&decide (r≤p.e1) then some (some true) else none) (J:=some false) (fun ag k x hx=>by
   have hk:k<8:=n0 hx
   unfold zgL
   refine eW (cA (bf (lX hx) ?_))
   have a:(aU (cp ((k:Int)+1))<|ag ((k:Int)+1))=ag ((k:Int)+1):=zdG (jt (by omega)) rfl
   by_cases h1:x.e0≤r
   ·refine bQ (au h1) ?_
    by_cases h2:r≤x.e1
    ·exact bQ (au h2) (by simp[h1,h2])
    ·exact bM (aj h2) (by simp[h1,h2,a])
   ·exact bM (aj h1) (by simp[h1,a])) (fun ag=>bM (by decide) rfl) (n:=zbC) (kF (by decide))
 rw[this]
 simp only[dp,List.findSome?_nil,mG,uz,jb,List.any_nil,mv]
 (repeat' split)<;>simp_all
theorem PZ (r:Int):yv r=some (mG r):=by
 have h:r<790∨(790≤r∧r≤793)∨(793<r∧r<796)∨(796≤r∧r≤800)∨(800<r∧r<803)∨(803≤r∧r≤819)∨(819<r∧r<825)∨(825≤r∧r≤828)∨(828<r∧r<837)∨(837≤r∧r≤841)∨(841<r∧r<845)∨(845≤r∧r≤846)∨(846<r∧r<851)∨(851≤r∧r≤854)∨(854<r∧r<857)∨(857≤r∧r≤858)∨858<r:=by omega
 unfold yv
 simp only[cn,aM,mG,uz,jb,List.any_nil,mv]
 rcases h with h|h|h|h|h|h|h|h|h|h|h|h|h|h|h|h|h<;>simp (disch:=omega) only[au,aj,cond_true,cond_false,Bool.and_true,Bool.and_false,Bool.true_and,Bool.false_and,Bool.true_or,Bool.false_or,Bool.or_true,mv]
def uA:List (Int×Int×Int):=[(65,768,192),(69,768,200),(73,768,204),(79,768,210),(85,768,217),(97,768,224),(101,768,232),(105,768,236),(111,768,242),(117,768,249),(1045,768,1024),(1048,768,1037),(1077,768,1104),(1080,768,1117),(65,769,193),(69,769,201),(73,769,205),(79,769,211),(85,769,218),(89,769,221),(97,769,225),(101,769,233),(105,769,237),(111,769,243),(117,769,250),(121,769,253),(67,769,262),(76,769,313),(78,769,323),(82,769,340),(83,769,346),(90,769,377),(99,769,263),(108,769,314),(110,769,324),(114,769,341),(115,769,347),(122,769,378),(913,769,902),(917,769,904),(919,769,905),(921,769,906),(927,769,908),(933,769,910),(937,769,911),(945,769,940),(949,769,941),(951,769,942),(953,769,943),(959,769,972),(965,769,973),(969,769,974),(1043,769,1027),(1050,769,1036),(1075,769,1107),(1082,769,1116),(970,769,912),(971,769,944),(65,770,194),(69,770,202),(73,770,206),(79,770,212),(85,770,219),(97,770,226),(101,770,234),(105,770,238),(111,770,244),(117,770,251),(67,770,264),(71,770,284),(72,770,292),(74,770,308),(83,770,348),(87,770,372),(89,770,374),(99,770,265),(103,770,285),(104,770,293),(106,770,309),(115,770,349),(119,770,373),(121,770,375),(65,771,195),(78,771,209),(79,771,213),(97,771,227),(110,771,241),(111,771,245),(73,771,296),(85,771,360),(105,771,297),(117,771,361),(65,772,256),(69,772,274),(73,772,298),(79,772,332),(85,772,362),(97,772,257),(101,772,275),(105,772,299),(111,772,333),(117,772,363),(65,774,258),(69,774,276),(71,774,286),(73,774,300),(79,774,334),(85,774,364),(97,774,259),(101,774,277),(103,774,287),(105,774,301),(111,774,335),(117,774,365),(1048,774,1049),(1059,774,1038),(1080,774,1081),(1091,774,1118),(67,775,266),(69,775,278),(71,775,288),(73,775,304),(90,775,379),(99,775,267),(101,775,279),(103,775,289),(122,775,380),(65,776,196),(69,776,203),(73,776,207),(79,776,214),(85,776,220),(97,776,228),(101,776,235),(105,776,239),(111,776,246),(117,776,252),(121,776,255),(89,776,376),(1045,776,1025),(1030,776,1031),(1077,776,1105),(1110,776,1111),(921,776,938),(933,776,939),(953,776,970),(965,776,971),(65,778,197),(85,778,366),(97,778,229),(117,778,367),(79,779,336),(85,779,368),(111,779,337),(117,779,369),(67,780,268),(68,780,270),(69,780,282),(76,780,317),(78,780,327),(82,780,344),(83,780,352),(84,780,356),(90,780,381),(99,780,269),(100,780,271),(101,780,283),(108,780,318),(110,780,328),(114,780,345),(115,780,353),(116,780,357),(122,780,382),(67,807,199),(71,807,290),(75,807,310),(76,807,315),(78,807,325),(82,807,342),(83,807,350),(84,807,354),(99,807,231),(103,807,291),(107,807,311),(108,807,316),(110,807,326),(114,807,343),(115,807,351),(116,807,355),(65,808,260),(69,808,280),(73,808,302),(85,808,370),(97,808,261),(101,808,281),(105,808,303),(117,808,371)]
section
variable {κ ν:Type} [DecidableEq κ]
theorem sC {k:κ} {v:ν}:∀ {L:List (κ×ν)},zbO k L=some v→(k,v)∈L
 |[],h=>by cases h
 |p::L,h=>by
  unfold zbO at h
  split at h
  ·rename_i e;cases h;rw[e];exact aq ..
  ·exact ak _ (sC h)
theorem Ie {A B:List (κ×ν)} (h1:∀p∈A,zbO p.1 B=zbO p.1 A) (h2:∀p∈B,zbO p.1 A=zbO p.1 B) (k:κ):zbO k A=zbO k B:=by
 cases h:zbO k A with
 |some v=>have:=h1 _ (sC h);rw[←h];exact this.symm
 |none=>
  cases h':zbO k B with
  |none=>rfl
  |some v=>have:=h2 _ (sC h');simp only at this;rw[h,h'] at this;cases this
end
def yx:List (zam×Int):=uA.map fun t=>(⟨t.1,t.2.1⟩,t.2.2)
def yy:List (Int×zam):=uA.map fun t=>(t.2.2,⟨t.1,t.2.1⟩)
theorem P0:∀p∈yy,zbO p.1 tabS=zbO p.1 yy:=by decide +kernel
theorem P1:∀p∈tabS,zbO p.1 yy=zbO p.1 tabS:=by decide +kernel
theorem P2:∀p∈yx,zbO p.1 iM=zbO p.1 yx:=by decide +kernel
theorem P3:∀p∈iM,zbO p.1 yx=zbO p.1 iM:=by decide +kernel
theorem P4 (r:Int):zbO r yy=zbO r tabS:=Ie P0 P1 r
theorem P5 (p:zam):zbO p yx=zbO p iM:=Ie P2 P3 p
def ib:List gL:=(wc).getD []
theorem Ig:wc=some ib:=rfl
def oa (q:gL):List (Int×Int×Int):=((eH q.e1).zip (eH q.e2)).map fun p=>(p.1,(eH q.e0).headD 0,p.2)
theorem Ih:ib.flatMap oa=uA:=by decide +kernel
def Ii (q:gL):Bool:=decide ((eH q.e1).length=(eH q.e2).length)&&decide ((eH q.e0).length=1)&&decide (q.e0.size≤1000∧q.e1.size≤1000∧q.e2.size≤1000)
theorem P6:ib.all Ii=true:=by decide +kernel
theorem AQ {q:gL} (h:q∈ib):(eH q.e1).length=(eH q.e2).length∧zcx (eH q.e0) 0=some ((eH q.e0).headD 0)∧q.e0.size≤1000∧q.e1.size≤1000∧q.e2.size≤1000:=by
 have:=bd.1 P6 q h
 unfold Ii at this
 simp only[aN,decide_eq_true_eq] at this
 obtain⟨⟨h1,h2⟩,h3⟩:=this
 refine⟨h1,?_,h3⟩
 cases e:eH q.e0 with
 |nil=>rw[e] at h2;cases h2
 |cons x l=>rfl
theorem DA {α β γ:Type} (f:α→List β) (g:β→Option γ):∀xs:List α,(xs.findSome? fun x=>(f x).findSome? g)=(xs.flatMap f).findSome? g
 |[]=>rfl
 |x::xs=>by
  rw[aK,List.findSome?_append,dp,DA f g xs]
  cases (f x).findSome? g<;>rfl
theorem Ij {γ:Type} (r:Int) (F:Int→Int→γ):∀L:List (Int×Int×Int),(L.findSome? fun t=>if (t.2.2==r) then some (F t.1 t.2.1) else none)=(zbO r (L.map fun t=>((t.2.2,⟨t.1,t.2.1⟩):Int×zam))).map fun p=>F p.e0 p.e1
 |[]=>rfl
 |t::L=>by
  rw[dp,av]
  unfold zbO
  by_cases h:r=t.2.2
  ·subst h;simp
  ·have:(t.2.2==r)=false:=by rw[aA];exact fun e=>h e.symm
   rw[this,ap h];exact Ij r F L
theorem Ik (b m:Int):∀L:List (Int×Int×Int),(L.findSome? fun t=>if (t.1==b)&&(t.2.1==m) then some t.2.2 else none)=zbO (⟨b,m⟩:zam) (L.map fun t=>((⟨t.1,t.2.1⟩,t.2.2):zam×Int))
 |[]=>rfl
 |t::L=>by
  rw[dp,av]
  unfold zbO
  by_cases h:(⟨b,m⟩:zam)=⟨t.1,t.2.1⟩
  ·cases h;simp
  ·have:((t.1==b)&&(t.2.1==m))=false:=by
    cases e:((t.1==b)&&(t.2.1==m)) with
    |false=>rfl
    |true=>simp at e;exact absurd (by rw[e.1,e.2]) h
   rw[this,ap h];exact Ik b m L
def oP (a:Int→Option (List Int)) (r:Int):Option (List Int) :=
 match zbO r tabS with
 |none=>some [r]
 |some p=>aT (a p.e0) fun l=>aU (l.length+1≤2147483648)<|some (l++[p.e1])
theorem Il {α β:Type} {a:List α} {b:List β} {k:Nat} {p:α×β} (h:(a.zip b)[k]?=some p):a[k]?=some p.1∧b[k]?=some p.2:=by
 rw[List.getElem?_zip_eq_some] at h;exact h
theorem P7 (d:Int→Option (List Int)) (r:Int):ut d r=oP d r:=by
 unfold ut
 refine cA (bf Ig ?_)
 have w:ib.length=14:=by decide
 have j:∀ (q:gL) (u:Option (List Int)),q∈ib→zaC (fun _=>none) (ze9 d r u q) zbC 0=(((oa q)).findSome? fun t=>if (t.2.2==r) then some (aT (d t.1) fun l=>aU (l.length+1≤2147483648)<|some (l++[t.2.1])) else none).getD u:=by
  intro q u s
  obtain⟨h1,h2,h3,C,h5⟩:=AQ s
  have hz:(oa q).length=(eH q.e2).length:=by unfold oa;simp[h1]
  have D:=vq q.e2
  refine xU (xs:=oa q) (fun ag k x hx=>?_) (fun ag=>?_) (kF (by omega))
  ·have v:∃p,((eH q.e1).zip (eH q.e2))[k]?=some p∧x=(p.1,(eH q.e0).headD 0,p.2):=by
    unfold oa at hx
    rw[bT] at hx
    obtain⟨p,hp,e⟩:=cS.1 hx
    exact⟨p,hp,e.symm⟩
   obtain⟨p,hp,rfl⟩:=v
   obtain⟨e1,e2⟩:=Il hp
   have hk:=n0 e2
   unfold ze9
   refine bQ (mE e2) (bf (lX e2) ?_)
   cases h:(p.2==r) with
   |true=>exact bQ rfl (bf (lX e1) (by
     rw[ax rfl,Option.getD_some]
     cases d p.1 with
     |none=>rfl
     |some l=>exact (bf rfl (gO (bf h2 rfl))).trans (FQ rfl).symm))
   |false=>exact bM rfl (zdG (jt (by omega)) rfl)
  ·rw[hz];unfold ze9;exact bM me rfl
 have i:=xU (xs:=ib) (F:=zfa d r (some [r]) ib) (bot:=fun _=>none) (g:=fun q=>(oa q).findSome? fun t=>if (t.2.2==r) then some (aT (d t.1) fun l=>aU (l.length+1≤2147483648)<|some (l++[t.2.1])) else none) (J:=some [r]) (fun ag k q s=>by
  have hm:=aL s
  have hk:=n0 s
  obtain⟨h1,h2,h3,C,h5⟩:=AQ hm
  unfold zfa
  refine bQ (mE s) (cA (bf (lX s) (gO (gO ?_))))
  rw[j q _ hm]
  exact aH _ (zdG (jt (by omega)) rfl)) (fun ag=>by unfold zfa;exact bM me rfl) (n:=zbC) (kF (by omega))
 rw[i,DA,Ih,Ij r (fun a m=>aT (d a) fun l=>aU (l.length+1≤2147483648)<|some (l++[m]))]
 show ((zbO r yy).map _).getD _=_
 rw[P4]
 unfold oP
 cases zbO r tabS<;>rfl
theorem P8 (a:(List (Int×zam))→Int→Option (List Int)) (r:Int):ux a tabS r=oP (a tabS) r:=by
 unfold ux oP
 cases zbO r tabS with
 |none=>exact bQ rfl rfl
 |some p=>exact bM rfl rfl
def uB:Nat→Int→Option (List Int)
 |0,_=>none
 |n+1,r=>oP (uB n) r
theorem Io:∀ (n:Nat) (r:Int),zaC (fun _=>none) ut n r=uB n r
 |0,r=>rfl
 |n+1,r=>by
  rw[fX,P7]
  show oP _ r=oP _ r
  congr 1;funext x;exact Io n x
theorem Ip:∀ (n:Nat) (r:Int),zaC (fun _ _=>none) ux n tabS r=uB n r
 |0,r=>rfl
 |n+1,r=>by
  rw[fX,P8]
  show oP _ r=oP _ r
  congr 1;funext x;exact Ip n x
def ic (r:Int):List Int :=
 match zbO r tabS with
 |none=>[r]
 |some p=>(match zbO p.e0 tabS with
  |none=>[p.e0]
  |some q=>[q.e0,q.e1])++[p.e1]
def P9:Bool:=tabS.all fun p=>match zbO p.2.e0 tabS with | none=>true | some q=>decide (zbO q.e0 tabS=none)
theorem Qn:P9=true:=by decide +kernel
theorem Iq (n:Nat) (r:Int):uB (n+3) r=some (ic r):=by
 show oP (uB (n+2)) r=_
 unfold oP ic
 cases h:zbO r tabS with
 |none=>rfl
 |some p=>
  have hd:=bd.1 Qn _ (sC h)
  simp only at hd
  refine bf (a:=match zbO p.e0 tabS with | none=>[p.e0] | some q=>[q.e0,q.e1]) ?_ (zdG (by cases zbO p.e0 tabS<;>simp) rfl)
  show oP (uB (n+1)) p.e0=_
  unfold oP
  cases h2:zbO p.e0 tabS with
  |none=>rfl
  |some q=>
   rw[h2] at hd
   simp only[decide_eq_true_eq] at hd
   refine bf (a:=[q.e0]) ?_ (zdG (by simp) rfl)
   show oP (uB n) q.e0=_
   unfold oP
   rw[hd]
theorem Qo (r:Int):wg r=some (ic r):=by
 unfold wg
 rw[Io]
 obtain⟨n,a,_⟩:=vZ 3 (by omega)
 rw[a];exact Iq n r
theorem Qq (r:Int):uy tabS r=some (ic r):=by
 unfold uy
 rw[Ip]
 obtain⟨n,a,_⟩:=vZ 3 (by omega)
 rw[a];exact Iq n r
def iY (b m:Int):Option Int:=zbO (⟨b,m⟩:zam) iM
theorem Qv (b m:Int):we b m=some ((iY b m).getD 0):=by
 unfold we
 refine cA (bf Ig ?_)
 have w:ib.length=14:=by decide
 have d:∀ (q:gL) (j:Option Int),q∈ib→zaC (fun _=>none) (zeW b m j q) zbC 0=(((oa q).findSome? fun t=>if (t.1==b)&&(t.2.1==m) then some t.2.2 else none).map some).getD j:=by
  intro q j i
  obtain⟨h1,h2,h3,C,h5⟩:=AQ i
  have hz:(oa q).length=(eH q.e1).length:=by unfold oa;simp[h1]
  have D:=vq q.e1
  have:=xU (xs:=oa q) (F:=zeW b m j q) (bot:=fun _=>none) (g:=fun t=>if (t.1==b)&&(t.2.1==m) then some (some t.2.2) else none) (J:=j) (fun ag k x hx=>?_) (fun ag=>?_) (n:=zbC) (kF (by omega))
  ·rw[this]
   congr 1
   induction oa q with
   |nil=>rfl
   |cons t l s=>
    rw[dp,dp]
    cases ((t.1==b)&&(t.2.1==m)) with
    |true=>rfl
    |false=>exact s
  ·have u:∃p,((eH q.e1).zip (eH q.e2))[k]?=some p∧x=(p.1,(eH q.e0).headD 0,p.2):=by
    unfold oa at hx
    rw[bT] at hx
    obtain⟨p,hp,e⟩:=cS.1 hx
    exact⟨p,hp,e.symm⟩
   obtain⟨p,hp,rfl⟩:=u
   obtain⟨e1,e2⟩:=Il hp
   have hk:=n0 e1
   have v:(aU (cp ((k:Int)+1))<|ag ((k:Int)+1))=ag ((k:Int)+1):=zdG (jt (by omega)) rfl
   unfold zeW
   refine bQ (mE e1) (cA (bf (lX e1) ?_))
   cases h:(p.1==b) with
   |true=>
    refine bQ rfl (gO (bf h2 ?_))
    cases h':((eH q.e0).headD 0==m) with
    |true=>exact bQ rfl (bf (lX e2) rfl)
    |false=>exact bM rfl v
   |false=>exact bM rfl v
  ·rw[hz];unfold zeW;exact bM me rfl
 have a:=xU (xs:=ib) (F:=zfA b m (some 0) ib) (bot:=fun _=>none) (g:=fun q=>((oa q).findSome? fun t=>if (t.1==b)&&(t.2.1==m) then some t.2.2 else none).map some) (J:=some 0) (fun ag k q i=>by
  have hm:=aL i
  have hk:=n0 i
  obtain⟨h1,h2,h3,C,h5⟩:=AQ hm
  unfold zfA
  refine bQ (mE i) (cA (bf (lX i) (gO (gO ?_))))
  rw[d q _ hm]
  exact aH _ (zdG (jt (by omega)) rfl)) (fun ag=>by unfold zfA;exact bM me rfl) (n:=zbC) (kF (by omega))
 rw[a]
 have e:(ib.findSome? fun q=>((oa q).findSome? fun t=>if (t.1==b)&&(t.2.1==m) then some t.2.2 else none).map some)=((ib.findSome? fun q=>(oa q).findSome? fun t=>if (t.1==b)&&(t.2.1==m) then some t.2.2 else none)).map some:=by
  generalize ib=L
  induction L with
  |nil=>rfl
  |cons q l s=>
   rw[dp,dp,s]
   cases (oa q).findSome? _<;>rfl
 rw[e,DA,Ih,Ik b m]
 show ((zbO _ yx).map some).getD _=_
 rw[P5]
 unfold iY
 cases zbO (⟨b,m⟩:zam) iM<;>rfl
def itG (s:ae) (p:Pc):bK:=⟨if p.broken then -1 else (p.r:Int),s.extract p.i (p.i+p.w),p.i⟩
def fQ (s:ae):List bK:=(eA s.data.toList).map (itG s)
theorem Is {s:ae} {p:Pc} (hp:p∈eA s.data.toList):p.i+p.w≤s.size:=by
 obtain⟨g,e,d⟩:=uj s.data.toList p hp
 have a:s.data.toList.length=s.size:=by rw[dJ];rfl
 omega
theorem p6 (s:ae):(eA s.data.toList).length≤s.size:=by
 have:=vq s;unfold eH at this;simpa using this
theorem wt (s:ae) (j:s.size≤1073741824):rr s=some (fQ s):=by
 unfold rr
 refine cA (bf (PX s (by omega)) ?_)
 have hc:=p6 s
 refine (qE (xs:=(eA s.data.toList).map gv) (f:=fun l (x:cT)=>l++[(⟨if x.Broken then -1 else x.Rune,cL s x.At (x.At+x.Width),x.At⟩:bK)]) (J:=some) (fun k l=>l.length=k) ?_ ?_ ?_ (kF (by simp;omega)) rfl).trans ?_
 ·intro ag k x l hx e
  have hk:=n0 hx
  have h:k<(eA s.data.toList).length:=by simpa using hk
  have d:=hx
  rw[bT] at d
  obtain⟨p,hp,rfl⟩:=cS.1 d
  have hf:=Is (aL hp)
  unfold zfN
  refine bQ (mE hx) (cA (bf (lX hx) (bf (a:=cL s p.i ((p.i:Int)+p.w)) (zdG ⟨by simp only[gv];omega,by simp only[gv];omega⟩ (zdG ⟨by simp only[gv];omega,by simp only[gv];omega,by simp only[gv];omega⟩ rfl)) ?_)))
  cases hb:(gv p).Broken with
  |true=>exact bQ rfl (gO (zdG (jt (by omega)) (by simp[hb,gv])))
  |false=>exact bM rfl (gO (zdG (jt (by omega)) (by simp[hb,gv])))
 ·intro k x l hx e;simp[e]
 ·intro ag l e;unfold zfN;exact bM me rfl
 ·have:∀ (ps:List Pc) (l:List bK),(ps.map gv).foldl (fun l (x:cT)=>l++[(⟨if x.Broken then -1 else x.Rune,cL s x.At (x.At+x.Width),x.At⟩:bK)]) l=l++ps.map (itG s):=by
   intro ps
   induction ps with
   |nil=>intro l;simp
   |cons p ps g=>intro l;rw[av,bn,g];simp[itG,gv,cL];exact⟨rfl,by congr 1⟩
  rw[this];rfl
def sD (l:List bK):ae:=l.foldl (fun s x=>s++x.Text) (⟨#[]⟩:ae)
def oQ (l:List bK):Nat:=(l.map fun x=>x.Text.size).sum
theorem DB (l:List bK) (e:l.length≤1099511627776) (d:oQ l≤1099511627776):uu l=some (sD l):=by
 unfold uu
 refine cA ((qE (xs:=l) (f:=fun s (x:bK)=>s++x.Text) (J:=some) (fun k s=>s.size=oQ (l.take k)) ?_ ?_ ?_ (kF (by omega)) rfl).trans rfl)
 ·intro ag k x s hx hi
  have hk:=n0 hx
  have h1:oQ (l.take k)+x.Text.size≤oQ l:=by
   have h2:l=l.take k++x::l.drop (k+1):=by
    have:=az.1 hx
    obtain⟨a,he⟩:=this
    rw[←he,←bB a,bO]
   have:oQ l=oQ (l.take k)+(x.Text.size+oQ (l.drop (k+1))):=by
    conv=>lhs;rw[h2]
    simp[oQ]
   omega
  unfold zgi
  exact bQ (mE hx) (bf (lX hx) (gO (zdG (jt (by omega)) rfl)))
 ·intro k x s hx hi
  have h2:l.take (k+1)=l.take k++[x]:=by
   rw[List.take_add_one,hx];rfl
  rw[h2,ByteArray.size_append,hi];simp[oQ]
 ·intro ag s _;unfold zgi;exact bM me rfl
theorem DC (r:Int) (x:bK) (hr:fl r):wj r x=some ⟨r,ac r,x.At⟩:=bf (AL r hr) rfl
theorem DD (l:List bK) (e:l.length≤1099511627776):uv l=some (((l.takeWhile fun x=>eE x.Rune).length:Nat):Int):=by
 unfold uv
 refine cA ?_
 have key:∀ (n k:Nat),k≤l.length→l.length-k<n→zaC (fun _=>none) (ze6 l some) n (k:Int)=some ((k+((l.drop k).takeWhile fun x=>eE x.Rune).length:Nat):Int):=by
  intro n
  induction n with
  |zero=>intro k _ h;omega
  |succ n a=>
   intro k hk d
   rw[fX]
   generalize zaC (fun _=>none) (ze6 l some) n=ag at a ⊢
   unfold ze6
   by_cases h:k<l.length
   ·have hx:l[k]?=some l[k]:=aO h
    refine bQ (mE hx) (bf (lX hx) (bf (PY _) ?_))
    rw[bB h,aV]
    cases hm:eE l[k].Rune with
    |true=>
     refine bQ rfl (zdG (jt (by omega)) ?_)
     have:=a (k+1) (by omega) (by omega)
     push_cast at this ⊢
     rw[this];simp;omega
    |false=>exact bM rfl (by simp)
   ·have:k=l.length:=by omega
    subst this
    exact bM me (by rw[gg];simp)
 have:=key zbC 0 (cm _) (by have:=kF (n:=l.length) (by omega);omega)
 simpa using this
abbrev bc:=bK
def dI (x:bc):Bool:=cW x.Rune
def isM (x:bc):Bool:=eE x.Rune
def mf (x:bc):Bool:=mG x.Rune
theorem qa {r:Int} (h:eE r=true):cW r=false:=by
 cases e:cW r with
 |false=>rfl
 |true=>have:=mF r e;unfold eE at h;simp at h;omega
def It (r:Int):Bool:=match ic r with
 |[]=>false
 |b::ms=>cW b&&decide (zbO b tabS=none)&&ms.all eE&&decide ((b::ms).length≤3)
theorem Qx:(tabS.all fun p=>It p.1)=true:=by decide +kernel
theorem Qy:(tabS.all fun p=>decide (0≤p.1∧p.1≤2000∧0≤p.2.e0∧p.2.e0≤2000∧0≤p.2.e1∧p.2.e1≤2000)&&cW p.1)=true:=by decide +kernel
theorem tC {r:Int} (h:cW r=true):∃b a,ic r=b::a∧cW b=true∧zbO b tabS=none∧(∀m∈a,eE m=true)∧a.length≤2:=by
 cases e:zbO r tabS with
 |none=>exact⟨r,[],by unfold ic;rw[e],h,e,by simp,by simp⟩
 |some p=>
  have h1:=bd.1 Qx _ (sC e)
  unfold It at h1
  simp only at h1
  cases hp:ic r with
  |nil=>rw[hp] at h1;cases h1
  |cons b a=>
   rw[hp] at h1
   simp only[aN,decide_eq_true_eq,bd,ab] at h1
   exact⟨b,a,rfl,h1.1.1.1,h1.1.1.2,h1.1.2,by omega⟩
theorem DE (r:Int):(ic r).length≤3∧1≤(ic r).length:=by
 unfold ic
 (repeat' split)<;>simp
theorem DF {k:Int} {p:zam} (h:zbO k tabS=some p):(0≤p.e0∧p.e0≤2000)∧(0≤p.e1∧p.e1≤2000)∧cW k=true:=by
 have:=bd.1 Qy _ (sC h)
 simp only[aN,decide_eq_true_eq] at this
 obtain⟨⟨h1,h2,h3,e,h5,d⟩,a⟩:=this
 exact⟨⟨h3,e⟩,⟨h5,d⟩,a⟩
theorem AR {r:Int} (h:fl r):∀y∈ic r,fl y:=by
 intro y hy
 unfold ic at hy
 split at hy
 ·simp at hy;subst hy;exact h
 ·rename_i p hp
  obtain⟨h1,h2,_⟩:=DF hp
  split at hy
  ·simp at hy;rcases hy with rfl | rfl<;>exact⟨by omega,by omega⟩
  ·rename_i q a
   obtain⟨h3,d,_⟩:=DF a
   simp at hy;rcases hy with rfl | rfl | rfl<;>exact⟨by omega,by omega⟩
def fH:Option (bc×List bc)→List bc→List (bc×List bc)
 |none,[]=>[]
 |some c,[]=>[c]
 |none,x::xs=>fH (some (x,[])) xs
 |some c,x::xs=>if dI c.1&&isM x then fH (some (c.1,c.2++[x])) xs else c::fH (some (x,[])) xs
def cl (xs:List bc):List (bc×List bc):=fH none xs
theorem Iu (x:bc) (h:dI x=true):∀ (xs a:List bc),fH (some (x,a)) xs=(x,a++xs.takeWhile isM)::cl (xs.dropWhile isM)
 |[],a=>by simp[fH,cl]
 |y::xs,a=>by
  unfold fH
  cases hm:isM y with
  |true=>rw[h,aV,cC,hm];simp only[Bool.and_self,if_true];rw[Iu x h xs];simp
  |false=>rw[aV,cC,hm];simp[cl,fH]
theorem QA (x:bc) (h:dI x=false) (xs:List bc):fH (some (x,[])) xs=(x,[])::cl xs:=by
 cases xs with
 |nil=>rfl
 |cons y xs=>unfold fH;rw[h];simp[cl,fH]
theorem DG:cl []=[]:=rfl
theorem wu {x:bc} (h:dI x=true) (xs:List bc):cl (x::xs)=(x,xs.takeWhile isM)::cl (xs.dropWhile isM):=by
 show fH (some (x,[])) xs=_
 rw[Iu x h];rfl
theorem AU {x:bc} (h:dI x=false) (xs:List bc):cl (x::xs)=(x,[])::cl xs:=QA x h xs
def loI (a:List bc):List bc:=a.filter mf
def hiI (a:List bc):List bc:=a.filter fun x=>!mf x
def mg (c:bc×List bc):List bc:=c.1::(loI c.2++hiI c.2)
def lD (xs:List bc):List bc:=(cl xs).flatMap mg
theorem qG (a:List bc):(loI a++hiI a).length=a.length:=by
 unfold loI hiI
 induction a with
 |nil=>rfl
 |cons x a d=>
  rw[ix,ix]
  rw[aa] at d ⊢
  cases mf x<;>simp<;>omega
theorem DH {a:List bc} (h:∀m∈a,isM m=true):∀m∈loI a++hiI a,isM m=true:=by
 intro m hm
 unfold loI hiI at hm
 rw[bH,co,co] at hm
 rcases hm with hm|hm<;>exact h m hm.1
theorem DI (xs:List bc):∀m∈xs.takeWhile isM,isM m=true:=bd.1 List.all_takeWhile
def jd (x:bc):List bc:=if dI x then (ic x.Rune).map fun r=>⟨r,ac r,x.At⟩ else [x]
def apL (l:List bc):List bc:=l.flatMap jd
theorem Iv (x:bc):(jd x).length≤3:=by
 unfold jd
 split
 ·simp;exact (DE _).1
 ·simp
def qH (l:List bc):Prop:=∀x∈l,fl x.Rune
theorem DJ {l:List bc} (h:qH l):qH (apL l):=by
 intro y hy
 unfold apL at hy
 obtain⟨x,hx,hy⟩:=List.mem_flatMap.1 hy
 unfold jd at hy
 split at hy
 ·obtain⟨r,hr,rfl⟩:=List.mem_map.1 hy
  exact AR (h x hx) r hr
 ·simp at hy;subst hy;exact h _ hx
theorem uC (l:List bc):(apL l).length≤3*l.length:=by
 unfold apL
 induction l with
 |nil=>simp
 |cons x l a=>rw[aK,aa,ab];have:=Iv x;omega
theorem DK {α β:Type} (g:α→List β):∀ (xs:List α) (a:List β),xs.foldl (fun a x=>a++g x) a=a++xs.flatMap g
 |[],a=>by simp
 |x::xs,a=>by rw[bn,DK g xs];simp
theorem QB (l:List bc) (g:qH l) (i:l.length≤268435456) (J:List bc→Option (List bc)):zaC (fun _ _=>none) (ze8 l J) zbC [] 0=J (apL l):=by
 refine (qE (xs:=l) (f:=fun a x=>a++jd x) (J:=J) (fun k a=>a.length≤3*k) ?_ ?_ ?_ (kF (by omega)) (by simp)).trans ?_
 ·intro ag k x a hx hi
  have hk:=n0 hx
  have d:=g x (aL hx)
  unfold ze8
  refine bQ (mE hx) (cA (bf (lX hx) (bf (wq x d) ?_)))
  cases hL:cW x.Rune with
  |false=>
   have:jd x=[x]:=by unfold jd dI;rw[hL];rfl
   rw[this]
   exact bQ rfl (gO (zdG (jt (by omega)) rfl))
  |true=>
   have:jd x=(ic x.Rune).map fun r=>⟨r,ac r,x.At⟩:=by unfold jd dI;rw[hL];rfl
   rw[this]
   refine bM rfl (bf (Qo _) ?_)
   have hp:=DE x.Rune
   refine (qE (xs:=ic x.Rune) (f:=fun a (r:Int)=>a++[(⟨r,ac r,x.At⟩:bc)]) (J:=fun e=>aU (cp ((k:Int)+1))<|ag e ((k:Int)+1)) (fun j b=>b.length≤3*k+j) ?_ ?_ ?_ (kF (by omega)) (by omega)).trans ?_
   ·intro h j r b hr hb
    have hj:=n0 hr
    unfold zfM
    exact bQ (mE hr) (bf (lX hr) (bf (DC r x (AR d r (aL hr))) (gO (zdG (jt (by omega)) rfl))))
   ·intro j r b _ hb;simp;omega
   ·intro h b _;unfold zfM;exact bM me rfl
   ·rw[DK (fun r=>[(⟨r,ac r,x.At⟩:bc)])]
    refine zdG (jt (by omega)) ?_
    rw[List.map_eq_flatMap]
 ·intro k x a _ hi;simp only[aa];have:=Iv x;omega
 ·intro ag a _;unfold ze8;exact bM me rfl
 ·rw[DK jd];rfl
theorem tD {α:Type} (A:List α) (x:α) (B:List α):(A++x::B)[A.length]?=some x:=by simp
theorem DL {α:Type} (A:List α) (x:α) (B:List α) (i:Int) (hi:i=(A.length:Int)):dM (A++x::B) (i+1) (((A++x::B).length:Nat):Int)=B:=by
 subst hi
 unfold dM
 rw[show ((A.length:Int)+1).toNat=(A++[x]).length by simp]
 rw[show A++x::B=(A++[x])++B by simp,gV,dX (by simp;omega)]
theorem QC {α:Type} (A:List α) (x:α) (M B:List α) (i r:Int) (hi:i=(A.length:Int)) (hr:r=(M.length:Int)):dM (A++x::(M++B)) (i+1) ((i+1)+r)=M:=by
 subst hi;subst hr
 unfold dM
 rw[show ((A.length:Int)+1).toNat=(A++[x]).length by simp]
 rw[show A++x::(M++B)=(A++[x])++(M++B) by simp,gV]
 rw[show (((A.length:Int)+1+(M.length:Int)).toNat-(A++[x]).length)=M.length by simp;omega,jZ]
theorem QD {α:Type} (A:List α) (x:α) (M B Y:List α) (j:Nat) (hj:j=A.length+1) (hy:Y.length=M.length):th (A++x::(M++B)) j Y=A++x::(Y++B):=by
 subst hj
 unfold th
 rw[show A++x::(M++B)=((A++[x])++M)++B by simp,hy]
 rw[show ((A++[x])++M++B).take (A.length+1)=A++[x] by
  rw[List.append_assoc,show A.length+1=(A++[x]).length by simp,jZ]]
 rw[show ((A++[x])++M++B).drop (A.length+1+M.length)=B by
  rw[show A.length+1+M.length=((A++[x])++M).length by simp;omega,gV]]
 simp
theorem QE (M:List bc):∀a:List bc×List bc,M.foldl (fun a x=>if mf x then (a.1++[x],a.2) else (a.1,a.2++[x])) a=(a.1++loI M,a.2++hiI M):=by
 induction M with
 |nil=>intro a;simp[loI,hiI]
 |cons x M d=>
  intro a
  rw[bn,d]
  unfold loI hiI
  cases h:mf x<;>simp[h]
theorem QF (d A M B:List bc) (x:bc) (J:List bc→Option (List bc)) (ag:List bc→Int→Option (List bc)) (i:Int) (hi:i=(A.length:Int)) (s:d.length=(A++x::(M++B)).length) (hx:dI x=true) (g:fl x.Rune)
  (t:(M++B).takeWhile isM=M) (hb:d.length≤1073741824):zcN d J ag (A++x::(M++B)) i=ag (A++x::((loI M++hiI M)++B)) (i+1):=by
 have u:(A++x::(M++B)).length=A.length+1+M.length+B.length:=by simp;omega
 unfold zcN
 refine eW (cA (bf (zO hi (tD A x _)) (bf (wq x g) ?_)))
 have j:cW x.Rune=true:=hx
 rw[j]
 refine bM rfl (cA (gO (gO (gO (gO ?_)))))
 rw[DL A x (M++B) i hi]
 refine bf (DD (M++B) (by simp;omega)) ?_
 have m:((M++B).takeWhile fun x=>eE x.Rune)=M:=t
 rw[m]
 refine gO (gO ?_)
 have e:=QC A x M B i (M.length:Int) hi rfl
 refine (H0 (xs:=M) (F:=ze7 (A++x::(M++B)) i _ (M.length:Int)) (f:=fun (a:List bc×List bc) x=>if mf x then (a.1++[x],a.2) else (a.1,a.2++[x]))
  (J:=fun lo h=>aU (lo.length+h.length≤2147483648)<|aU (cp (i+1))<|ag (th (A++x::(M++B)) (0+(i+1:Int).toNat) ((lo++h).take M.length)) (i+1)) (fun k a=>a.1.length+a.2.length=k) ?_ ?_ ?_ (kF (by omega)) (a:=([],[])) rfl).trans ?_
 ·intro n k y a hy l
  have hk:=n0 hy
  unfold ze7
  rw[e]
  refine bQ (mE hy) (cA (bf (lX hy) (bf (Ic _) ?_)))
  have:mG y.Rune=mf y:=rfl
  rw[this]
  cases mf y with
  |true=>exact bQ rfl (gO (zdG (jt (by omega)) rfl))
  |false=>exact bM rfl (gO (zdG (jt (by omega)) rfl))
 ·intro k y a _ l;split<;>simp<;>omega
 ·intro n a ha
  unfold ze7
  rw[e]
  exact bM me rfl
 ·rw[QE]
  simp only[aW]
  have h1:=qG M
  rw[aa] at h1
  refine gO (gO ?_)
  rw[dX (by rw[aa];omega),QD A x M B _ _ (by omega) (qG M)]
theorem Iw (a A B:List bc) (x:bc) (J:List bc→Option (List bc)) (ag:List bc→Int→Option (List bc)) (i:Int) (hi:i=(A.length:Int)) (g:a.length=(A++x::B).length) (hx:dI x=false) (d:fl x.Rune) (hb:a.length≤1073741824) :
  zcN a J ag (A++x::B) i=ag (A++x::B) (i+1):=by
 have h:(A++x::B).length=A.length+1+B.length:=by simp;omega
 unfold zcN
 refine eW (cA (bf (zO hi (tD A x _)) (bf (wq x d) ?_)))
 have e:cW x.Rune=false:=hx
 rw[e]
 exact bQ rfl (gO rfl)
theorem wv:lD []=[]:=rfl
theorem uD {x:bc} (h:dI x=true) (xs:List bc):lD (x::xs)=x::((loI (xs.takeWhile isM)++hiI (xs.takeWhile isM))++lD (xs.dropWhile isM)):=by
 unfold lD;rw[wu h];simp[mg]
theorem uE {x:bc} (h:dI x=false) (xs:List bc):lD (x::xs)=x::lD xs:=by
 unfold lD;rw[AU h];simp[mg,loI,hiI]
theorem QG (d:List bc) (J:List bc→Option (List bc)) (hb:d.length≤1073741824):∀ (m n:Nat) (A B:List bc),B.length≤m→B.length<n→d.length=(A++B).length→qH B →
  zaC (fun _ _=>none) (zcN d J) n (A++B) (A.length:Int)=J (A++lD B):=by
 have skip:∀ (M A B:List bc) (n:Nat),(∀y∈M,dI y=false)→qH M→d.length=(A++(M++B)).length→zaC (fun _ _=>none) (zcN d J) (n+M.length) (A++(M++B)) (A.length:Int)=zaC (fun _ _=>none) (zcN d J) n (A++(M++B)) ((A++M).length:Int):=by
  intro M
  induction M with
  |nil=>intro A B n _ _ _;simp
  |cons y M w=>
   intro A B n j e a
   rw[show n+(y::M).length=(n+M.length)+1 by simp;omega,fX,bq,Iw d A (M++B) y J _ _ rfl a (j y (aq ..)) (e y (aq ..)) hb]
   have:=w (A++[y]) B n (fun z hz=>j z (ak _ hz)) (fun z hz=>e z (ak _ hz)) (by rw[a];simp)
   have e1:A++[y]++(M++B)=A++y::(M++B):=by simp
   have e2:A++[y]++M=A++y::M:=by simp
   rw[e1,e2] at this
   rw[←this]
   congr 1;simp
 intro m
 induction m with
 |zero=>
  intro n A B hB C a e
  have:B=[]:=List.eq_nil_of_length_eq_zero (by omega)
  subst this
  obtain⟨n,rfl⟩:∃k,n=k+1:=⟨n-1,by omega⟩
  rw[fX]
  unfold zcN
  rw[aE] at a ⊢
  exact fP (by rw[wv,aE])
 |succ m w=>
  intro n A B hB C a e
  obtain⟨n,rfl⟩:∃k,n=k+1:=⟨n-1,by omega⟩
  cases B with
  |nil=>
   rw[fX]
   unfold zcN
   rw[aE] at a ⊢
   exact fP (by rw[wv,aE])
  |cons x xs=>
   rw[fX]
   simp only[ab] at hB
   cases hL:dI x with
   |false=>
    rw[Iw d A xs x J _ _ rfl a hL (e x (aq ..)) hb,uE hL]
    simp only[ab] at C
    have:=w n (A++[x]) xs (by omega) (by omega) (by rw[a];simp) (fun z hz=>e z (ak _ hz))
    have e1:A++[x]++xs=A++x::xs:=by simp
    rw[e1] at this
    rw[show ((A.length:Int)+1)=((A++[x]).length:Int) by simp,this]
    simp
   |true=>
    obtain⟨M,R,j,D,g⟩:∃M R,M=xs.takeWhile isM∧R=xs.dropWhile isM∧xs=M++R:=⟨_,_,rfl,rfl,(List.takeWhile_append_dropWhile).symm⟩
    have h:=QF d A M R x J (zaC (fun _ _=>none) (zcN d J) n) (A.length:Int) rfl (by rw[←g];exact a) hL (e x (aq ..)) (by rw[←g,←j]) hb
    rw[←g] at h
    have i:∀y∈loI M++hiI M,isM y=true:=DH (by rw[j];exact DI xs)
    have t:qH (loI M++hiI M):=fun y hy=>e y (by
     unfold loI hiI at hy
     rw[bH,co,co] at hy
     rw[g]
     rcases hy with hy|hy<;>exact ak _ (List.mem_append_left _ hy.1))
    have u:=qG M
    have l:xs.length=M.length+R.length:=by rw[g];simp
    have v:(A++x::xs).length=A.length+1+xs.length:=by simp;omega
    rw[h,uD hL,←j,←D]
    simp only[ab] at C
    obtain⟨k,hk⟩:∃k,n=k+(loI M++hiI M).length:=⟨n-M.length,by omega⟩
    have s:=skip (loI M++hiI M) (A++[x]) R k (fun y hy=>qa (i y hy)) t (by rw[a,v,l];simp only[aa,ab,aI] at u ⊢;omega)
    have e1:A++[x]++(loI M++hiI M++R)=A++x::(loI M++hiI M++R):=by simp
    rw[e1] at s
    rw[hk,show ((A.length:Int)+1)=((A++[x]).length:Int) by simp,s]
    have:=w k (A++[x]++(loI M++hiI M)) R (by omega) (by omega) (by rw[a,v,l];simp only[aa,ab,aI] at u ⊢;omega) (fun z hz=>e z (by rw[g];exact ak _ (List.mem_append_right _ hz)))
    have e2:A++[x]++(loI M++hiI M)++R=A++x::(loI M++hiI M++R):=by simp
    rw[e2] at this
    rw[this];simp
theorem DM (l:List bc) (a:qH l) (d:l.length≤268435456):uw l=some (lD (apL l)):=by
 unfold uw
 refine cA ((QB l a d _).trans (cA ?_))
 have h1:=uC l
 have:=QG (apL l) some (by omega) (apL l).length zbC [] (apL l) (Nat.le_refl _) (kF (by omega)) rfl (DJ a)
 simpa using this
def uF (r1:Int):Option Int := cn (fun (a:Option Int)=>aM ((r1:Int) != 65533) (aM (decide (ac r1=(⟨#[239,191,189]⟩:ae))) (some 0) (a)) (a)) (some ((ac r1).size:Int))
theorem Ix {r1:Int} {r:Int} (h:uF r1=some r):dB prog 150 [.int .i32 r1] (zI r):=by
 unfold uF at h
 refine dB.intro func150 rfl ntmps150 (by simp) (fun w0 K=>zbp h fun d a h=>zaM (β:=Unit) 1 rfl (fun b=>d=some r) (fun b=>[]) (fun b=>[(0,.int .i32 r1)]) (fun b=>[]) (fun cut=>?_) ?_)
 ·refine zyG (zyR 1 rfl (zyN (cut (zyG (zyR 1 rfl (zaR rfl zf8 (zyR 1 rfl (zyS (s:=5) rfl h (fun h=>?_) (fun h=>?_)))))))))
  ·refine zyR 1 rfl (zdi rfl dc rfl (lJ aZ al) (zaR rfl zdn (zyR 1 rfl (zyN (zyB rfl h (fun h=>?_) (fun h=>?_))))))
   ·refine zyG (zyR 1 rfl (zyN (zaz (bP ?_))))
    cases h
    exact cZ 2 results150
   exact bA (cH () h rfl (bE rfl) ah)
  exact zyR 4 rfl (zyN (eh rfl (bA (cH () h rfl (bE rfl) ah))))
 rintro _ h
 rw[a] at h
 refine zyG (zyR 1 rfl (zdi rfl dc rfl (lJ aZ al) (zcX rfl dc rfl al (zyR 1 rfl (zyN (zaz ?_))))))
 cases h
 exact cZ 2 results150
def ou (r1:Int):Option Int := some (lz .u8 (zQ .u8 (IntKind.u8.wrap r1) 63) 128)
theorem ww {r1:Int} {r:Int} (h:ou r1=some r):dB prog 151 [.int .i32 r1] (.int .u8 r):=by
 unfold ou at h
 refine dB.intro func151 rfl ntmps151 (by simp) (fun w0 K=>zyG (zyR 1 rfl (zyH (zyR 1 rfl (zdi rfl dc rfl (ziK aZ dv) (zyR 1 rfl (zyH (zyR 1 rfl (zaR rfl zDg (zyR 1 rfl (zyH (zyR 1 rfl (zaR rfl zvA (zyR 1 rfl (zyH (zyR 2 rfl (zyN (zaz ?_))))))))))))))))))
 cases h
 exact cZ 2 results151
def zg5 (d:ae) (a:Int) (h:Option cT) (i:Option cT):Option cT := aM (decide (0<(eA (cL d a (d.size:Int)).data.toList).length)) (aT ((eA (cL d a (d.size:Int)).data.toList)[0]?) fun (p1:Pc)=>cn (fun (e:Int→Option cT)=>aT (uF (p1.r:Int)) fun (r1:Int)=>aM (((p1.r:Int):Int)==65533) (aU (cp ((d.size:Int)-a)) <|aM (decide ((((d.size:Int)-a):Int)<3)) (some (⟨a,1,65533,true⟩:cT)) (aU (cp (a+3)) <|aU (0≤(a:Int)∧(a:Int)≤(a+3)∧(a+3:Int)≤(d.size:Int)) <|aM (!decide (cL d a (a+3)=(⟨#[239,191,189]⟩:ae))) (some (⟨a,1,65533,true⟩:cT)) (e r1))) (e r1)) (fun (g:Int)=>some (⟨a,g,(p1.r:Int),false⟩:cT))) (h)
def wx (d:ae) (a:Int):Option cT := cn (fun (e:Option cT)=>aU (0≤(a:Int)∧(a:Int)≤(d.size:Int)∧((d.size:Int):Int)≤(d.size:Int)) <|zaC none (zg5 d a e) zbC) (some (⟨0,0,0,false⟩:cT))
theorem QH {d:ae} {a:Int} {r:cT} (h:wx d a=some r):dB prog 155 [.string d,zI a] (.agg #[zI r.At,zI r.Width,.int .i32 r.Rune,.bool r.Broken]):=by
 unfold wx at h
 refine dB.intro func155 rfl ntmps155 (by simp) (fun w0 K=>zbp h fun n E h=>zaM (β:=Nat) 1 rfl (fun b=>n=some r) (fun b=>[]) (fun b=>[(4,zP b)]) (fun b=>[cells b [zI 0,zI 0,.int .i32 0,.bool false] 132]) (fun cut=>?_) ?_)
 ·refine zyG (zbk zjz rfl dc (fun l=>zyN (cut (zyG (zyR 2 rfl (zbt h fun J h=>ia rfl dc rfl rfl rfl (ka (i:=a) (j:=(d.size:Int)) al (.inr rfl) (.inl ⟨rfl,rfl⟩) J) (tu al rfl dc rfl (fun O=>zyN (zau (eO (β:=Nat) (fun b=>zaC none (zg5 d a n) b=some r) (fun b=>[]) (fun b=>[(0,.string d),(1,zI a),(4,zP l),(11,zP O)]) (fun b=>[cells l [zI 0,zI 0,.int .i32 0,.bool false] 132,obj O (.stringIter (cL d a (d.size:Int)) (lO (cL d a (d.size:Int)) 0))]) (fun b=>b) zbC h rfl (bE rfl) (cj 2) (fun u h=>?_)))))))))))
  cases u with
  |zero=>exact eG h
  |succ u=>
   obtain⟨M,g⟩:∃ag,ag=zaC none (zg5 d a n) u:=⟨_,rfl⟩
   have h:zg5 d a n M=some r:=by rw[g];exact h
   unfold zg5 at h
   refine zyG (qW (b:=decide (0<(eA (cL d a (d.size:Int)).data.toList).length)) (fun e=>?_) (fun e=>?_))
   ·have h:=nG e h
    refine zbl h fun p1 C h=>tv (k:=1) (m:=0) (p:=p1) rfl dc rfl rfl C (eT rfl dc rfl rfl (zyN (zaL (gM rfl (bA (ct (zau (zbp h fun T D h=>zaM (β:=Int) 2 rfl (fun b=>T b=some r) (fun b=>[]) (fun b=>[(1,zI a),(4,zP l),(6,.int .i32 (p1.r:Int)),(7,zI b)]) (fun b=>[cells l [zI 0,zI 0,.int .i32 0,.bool false] 132]) (fun cut=>?_) ?_))))))))
    ·refine zyG (eT rfl dc rfl rfl (zyR 1 rfl (zyH (zyR 1 rfl (zbl h fun r1 w h=>zaI (v:=zI r1) (vs:=[.int .i32 (p1.r:Int)]) rfl dc rfl rfl rfl Hn (Ix w) (zyR 1 rfl (zyN (cut (zyG (zyR 1 rfl (zaR rfl zbe (zyR 1 rfl (zyS (s:=19) rfl h (fun h=>?_) (fun h=>?_))))))))))))))
     ·refine zyR 1 rfl (zcX rfl dc rfl al (zyR 1 rfl (zbt h fun I h=>zaR rfl (jH (r:=(d.size:Int)-a) (ai _ I)) (zaR rfl zbi (zyR 1 rfl (zyS (s:=25) rfl h (fun h=>?_) (fun h=>?_)))))))
      ·refine zyR 8 rfl (zyN (gM rfl (zyG (zyR 1 rfl (zbb (v:=.agg #[zI a,zI 1,.int .i32 65533,.bool true]) (ps:=[(0,.tmp 34),(1,.const (zI 1)),(2,.const (.int .i32 65533)),(3,.const (.bool true))]) rfl dc rfl (fun _=>by kernel_rfl) (eK (k:=0) (vs:=[zI a,zI 1,.int .i32 65533,.bool true]) (l':=[zI a,zI 1,.int .i32 65533,.bool true]) kC rfl rfl rfl rfl rfl (show _≤_ by simp) rfl rfl (zyN (zaz (bP (cD (bP (cD (bP ?_)))))))))))))
       cases h
       exact eB (rs:=[.cell 4 132]) () (.inl rfl) pQ (.cons (.cells lB (k:=0) rfl rfl rfl) .nil) rfl ah
      refine zyR 3 rfl (zbt h fun H h=>zaR rfl (dE (r:=a+3) (ai _ H)) (zbt h fun G h=>ia rfl dc rfl rfl rfl (ka (i:=a) (j:=a+3) al (.inr rfl) (.inr rfl) G) (zaR rfl qV (zyR 2 rfl (zyN (zyB rfl h (fun h=>?_) (fun h=>?_)))))))
      ·refine zyG (zyR 1 rfl (zbb (v:=.agg #[zI a,zI 1,.int .i32 65533,.bool true]) (ps:=[(0,.tmp 34),(1,.const (zI 1)),(2,.const (.int .i32 65533)),(3,.const (.bool true))]) rfl dc rfl (fun _=>by kernel_rfl) (eK (k:=0) (vs:=[zI a,zI 1,.int .i32 65533,.bool true]) (l':=[zI a,zI 1,.int .i32 65533,.bool true]) kC rfl rfl rfl rfl rfl (show _≤_ by simp) rfl rfl (zyN (zaz (bP (cD (bP (cD (bP ?_))))))))))
       cases h
       exact eB (rs:=[.cell 4 132]) () (.inl rfl) pQ (.cons (.cells lB (k:=0) rfl rfl rfl) .nil) rfl ah
      exact bA (mD r1 h 1)
     exact zyR 14 rfl (zyN (eh rfl (bA (mD r1 h 1))))
    rintro t h
    rw[D] at h
    refine zyG (zyR 3 rfl (zbb (v:=.agg #[zI a,zI t,.int .i32 (p1.r:Int),.bool false]) (ps:=[(0,.tmp 36),(1,.tmp 37),(2,.tmp 38)]) rfl dc rfl (fun _=>by kernel_rfl) (eK (k:=0) (vs:=[zI a,zI t,.int .i32 (p1.r:Int),.bool false]) (l':=[zI a,zI t,.int .i32 (p1.r:Int),.bool false]) kC rfl rfl rfl rfl rfl (show _≤_ by simp) rfl rfl (zyN (zaz (cD (bP (cD (bP ?_)))))))))
    cases h
    exact eB (rs:=[.cell 4 132]) () (.inl rfl) pQ (.cons (.cells lB (k:=0) rfl rfl rfl) .nil) rfl ah
   have h:=nH e h
   exact tw (k:=1) (m:=0) rfl dc rfl rfl (iG (of_decide_eq_false e)) (eT rfl dc rfl rfl (zyN (zaL (eh rfl (dF (bU (bU (dG (mD l h 1)))))))))
 rintro b1 h
 rw[E] at h
 refine zyG (zbb (v:=.agg #[zI 0,zI 0,.int .i32 0,.bool false]) (ps:=[]) rfl dc rfl (fun _=>by kernel_rfl) (eK (k:=0) (vs:=[zI 0,zI 0,.int .i32 0,.bool false]) (l':=[zI 0,zI 0,.int .i32 0,.bool false]) kC rfl rfl rfl rfl rfl (show _≤_ by simp) rfl rfl (zyN (zaz ?_))))
 cases h
 exact eB (rs:=[.cell 4 132]) () (.inl rfl) pQ (.cons (.cells lB (k:=0) rfl rfl rfl) .nil) rfl ah
def yz (r1:Int):Option ae := cn (fun (j:Int→Option ae)=>aT (uF r1) fun (r3:Int)=>aM ((r3:Int)==0) (j 65533) (j r1)) (fun (r2:Int)=>aM (decide ((r2:Int)<128)) (aU (∀x∈([IntKind.u8.wrap r2]:List Int),U8 x) <|some (jp ([IntKind.u8.wrap r2]:List Int))) (aM (decide ((r2:Int)<2048)) (aT (ou r2) fun (i:Int)=>aU (∀x∈([lz .u8 192 (IntKind.u8.wrap (jW .i32 r2 6)),i]:List Int),U8 x) <|some (jp ([lz .u8 192 (IntKind.u8.wrap (jW .i32 r2 6)),i]:List Int))) (aM (decide ((r2:Int)<65536)) (aT (ou (jW .i32 r2 6)) fun (h:Int)=>aT (ou r2) fun (g:Int)=>aU (∀x∈([lz .u8 224 (IntKind.u8.wrap (jW .i32 r2 12)),h,g]:List Int),U8 x) <|some (jp ([lz .u8 224 (IntKind.u8.wrap (jW .i32 r2 12)),h,g]:List Int))) (aT (ou (jW .i32 r2 12)) fun (e:Int)=>aT (ou (jW .i32 r2 6)) fun (d:Int)=>aT (ou r2) fun (a:Int)=>aU (∀x∈([lz .u8 240 (IntKind.u8.wrap (jW .i32 r2 18)),e,d,a]:List Int),U8 x) <|some (jp ([lz .u8 240 (IntKind.u8.wrap (jW .i32 r2 18)),e,d,a]:List Int))))))
theorem QI {r1:Int} {r:ae} (h:yz r1=some r):dB prog 117 [.int .i32 r1] (.string r):=by
 unfold yz at h
 refine dB.intro func117 rfl ntmps117 (by simp) (fun w0 K=>zbp h fun I C h=>zaM (β:=Int) 1 rfl (fun b=>I b=some r) (fun b=>[]) (fun b=>[(0,.int .i32 b)]) (fun b=>[]) (fun cut=>zyG (zyR 1 rfl (zyN (cut (zyG (zyR 1 rfl (zbl h fun r3 w h=>zaI (v:=zI r3) (vs:=[.int .i32 r1]) rfl dc rfl rfl rfl Hn (Ix w) (zaR rfl zbe (zyN (zyB rfl h (fun h=>bV (zyR 1 rfl (bG (cH 65533 h rfl (bE rfl) ah)))) (fun h=>bA (cH r1 h rfl (bE rfl) ah)))))))))))) (fun r2 h=>?_))
 rw[C] at h
 refine zaL (zau (zyG (zyR 1 rfl (zaR rfl zbi (zyR 1 rfl (zyN (zyB rfl h (fun h=>?_) (fun h=>?_))))))))
 ·refine zyG (zyR 1 rfl (zdi rfl dc rfl (ziK aZ dv) (fE (cs:=[.int .u8 (IntKind.u8.wrap r2)]) (te:=5) (ps:=[(0,.tmp 10)]) rfl dc rfl (fun _=>by kernel_rfl) (fun b1=>mA ([IntKind.u8.wrap r2]:List Int) (k:=0) rfl jI rfl (show 1≤maxLen by decide) (zbt h fun H h=>s9 (k:=0) rfl (vn H) (qq (k:=0) rfl dc rfl rfl cO dv al (zyR 1 rfl (zyN (zaz (cD (bP ?_)))))))))))
  cases h
  exact cZ 2 pR
 refine zyG (zyR 1 rfl (zaR rfl zbi (zyR 1 rfl (zyN (zyB rfl h (fun h=>?_) (fun h=>?_))))))
 ·refine zyG (zyR 1 rfl (zaR rfl (vk dc) (zdi rfl dc rfl (ziK aZ dv) (zaR rfl zvA (zyR 1 rfl (zbl h fun j u h=>zaI (v:=.int .u8 j) (vs:=[.int .i32 r2]) rfl dc rfl rfl rfl vL (ww u) (fE (cs:=[.int .u8 (lz .u8 192 (IntKind.u8.wrap (jW .i32 r2 6))),.int .u8 j]) (te:=5) (ps:=[(0,.tmp 19),(1,.tmp 21)]) rfl dc rfl (fun _=>by kernel_rfl) (fun O=>mA ([lz .u8 192 (IntKind.u8.wrap (jW .i32 r2 6)),j]:List Int) (k:=0) rfl jI rfl (show 2≤maxLen by decide) (zbt h fun G h=>s9 (k:=0) rfl (vn G) (qq (k:=0) rfl dc rfl rfl cO dv al (zyR 1 rfl (zyN (zaz (cD (bP ?_)))))))))))))))
  cases h
  exact cZ 2 pR
 refine zyG (zyR 1 rfl (zaR rfl zbi (zyR 1 rfl (zyN (zyB rfl h (fun h=>?_) (fun h=>?_))))))
 ·refine zyG (zyR 1 rfl (zaR rfl (vk dc) (zdi rfl dc rfl (ziK aZ dv) (zaR rfl zvA (zyR 1 rfl (zaR rfl (vk dc) (zbl h fun i t h=>zaI (v:=.int .u8 i) (vs:=[.int .i32 (jW .i32 r2 6)]) rfl dc rfl rfl rfl vL (ww t) (zyR 1 rfl (zbl h fun g s h=>zaI (v:=.int .u8 g) (vs:=[.int .i32 r2]) rfl dc rfl rfl rfl vL (ww s) (fE (cs:=[.int .u8 (lz .u8 224 (IntKind.u8.wrap (jW .i32 r2 12))),.int .u8 i,.int .u8 g]) (te:=5) (ps:=[(0,.tmp 30),(1,.tmp 33),(2,.tmp 35)]) rfl dc rfl (fun _=>by kernel_rfl) (fun M=>mA ([lz .u8 224 (IntKind.u8.wrap (jW .i32 r2 12)),i,g]:List Int) (k:=0) rfl jI rfl (show 3≤maxLen by decide) (zbt h fun E h=>s9 (k:=0) rfl (vn E) (qq (k:=0) rfl dc rfl rfl cO dv al (zyR 1 rfl (zyN (zaz (cD (bP ?_))))))))))))))))))
  cases h
  exact cZ 2 pR
 refine bA (ca (ct (zyG (zyR 1 rfl (zaR rfl (vk dc) (zdi rfl dc rfl (ziK aZ dv) (zaR rfl zvA (zyR 1 rfl (zaR rfl (vk dc) (zbl h fun e n h=>zaI (v:=.int .u8 e) (vs:=[.int .i32 (jW .i32 r2 12)]) rfl dc rfl rfl rfl vL (ww n) (zyR 1 rfl (zaR rfl (vk dc) (zbl h fun d m h=>zaI (v:=.int .u8 d) (vs:=[.int .i32 (jW .i32 r2 6)]) rfl dc rfl rfl rfl vL (ww m) (zyR 1 rfl (zbl h fun a l h=>zaI (v:=.int .u8 a) (vs:=[.int .i32 r2]) rfl dc rfl rfl rfl vL (ww l) (fE (cs:=[.int .u8 (lz .u8 240 (IntKind.u8.wrap (jW .i32 r2 18))),.int .u8 e,.int .u8 d,.int .u8 a]) (te:=5) (ps:=[(0,.tmp 41),(1,.tmp 44),(2,.tmp 47),(3,.tmp 49)]) rfl dc rfl (fun _=>by kernel_rfl) (fun J=>mA ([lz .u8 240 (IntKind.u8.wrap (jW .i32 r2 18)),e,d,a]:List Int) (k:=0) rfl jI rfl (show 4≤maxLen by decide) (zbt h fun D h=>s9 (k:=0) rfl (vn D) (qq (k:=0) rfl dc rfl rfl cO dv al (zyR 1 rfl (zyN (zaz ?_))))))))))))))))))))))
 cases h
 exact cZ 2 pR
def zdY (c0:ae) (d:Nat→Option (List cT)) (a:Nat):Option (List cT) := aM (decide (a<(eA c0.data.toList).length)) (aT ((eA c0.data.toList)[a]?) fun (p1:Pc)=>aT (wx c0 (p1.i:Int)) fun (r1:cT)=>ti r1 <|d (a+1)) (some [])
def sE (c0:ae):Option (List cT) := zaC (fun _=>none) (zdY c0) zbC 0
theorem yA {d:Nat} {c0:ae} {xs:(List cT)} (h:sE c0=some xs):rX prog 154 [zP d] (fun q:cT=>[.agg #[zI q.At,zI q.Width,.int .i32 q.Rune,.bool q.Broken]]) xs [(d,.cells #[.string c0] 9 (0,0))]:=by
 unfold sE at h
 refine rX.intro func154 rfl ntmps154 (by simp) (fun l w0 K I X w hy=>?_)
 obtain⟨r0,u⟩:∃r,xs=[]++r:=⟨xs,rfl⟩
 have H:xs=r0:=u
 rw[H] at h
 refine zyG (zG (i:=0) w eb rfl dc rfl rfl rfl (tu al rfl dc rfl (fun b1=>zyN (zau (eO (β:=Nat×Nat×(List cT)×(List cT)) (fun b=>zaC (fun _=>none) (zdY c0) b.1 b.2.1=some b.2.2.2∧xs=b.2.2.1++b.2.2.2) (fun b=>[]) (fun b=>[(0,.func (.yield l) #[] #[]),(1,zP d),(5,zP b1)]) (fun b=>[I b.2.2.1,obj b1 (.stringIter c0 (lO c0 b.2.1))]) (fun b=>b.1) (zbC,0,([]:List cT),r0) ⟨h,u⟩ rfl (bE rfl) (cj 2) ?_)))))
 rintro⟨C,s,a,D⟩ ⟨h,t⟩
 cases C with
 |zero=>exact eG h
 |succ C=>
  obtain⟨O,j⟩:∃ag,ag=zaC (fun _=>none) (zdY c0) C:=⟨_,rfl⟩
  have h:zdY c0 O s=some D:=by rw[j];exact h
  unfold zdY at h
  refine zyG (qW (b:=decide (s<(eA c0.data.toList).length)) (fun g=>?_) (fun g=>?_))
  ·have h:=nG g h
   refine zbl h fun p1 M h=>tv (k:=1) (m:=s) (p:=p1) rfl dc rfl rfl M (eT rfl dc rfl rfl (zyN (zaL (gM rfl (bA (ct (zau (zyG (eT rfl dc rfl rfl (zyR 1 rfl (bG (ct (zyG (zyR 1 rfl (zG (i:=0) w eb rfl dc rfl rfl rfl (zyR 1 rfl (zbl h fun r1 J h=>zaI (v:=.agg #[zI r1.At,zI r1.Width,.int .i32 r1.Rune,.bool r1.Broken]) (vs:=[.string c0,zI (p1.i:Int)]) rfl dc rfl rfl rfl Oj (QH J) ?_)))))))))))))))))
   obtain⟨e,G,h⟩:=vu h
   have n:xs=a++r1::e:=by rw[t,G]
   refine uY hy rfl dc rfl n rfl (k:=0) rfl ?_ ?_
   ·have E:xs=(a++[r1])++e:=by rw[n];simp
    refine jU rfl dc rfl jV (zyN (eh rfl (bA (ca ?_))))
    subst j
    exact aD (C,s+1,a++[r1],e) ⟨h,E⟩ 2
   exact jU rfl dc rfl jV (zyN (gM rfl (zaz (cD (bP (cD (va (ds:=[]) a r1 e n (.inl rfl) ah results154 (cj 1))))))))
  have h:=nH g h
  refine tw (k:=1) (m:=s) rfl dc rfl rfl (iG (of_decide_eq_false g)) (eT rfl dc rfl rfl (zyN (zaL (eh rfl (dF (bU (bU (dG ?_))))))))
  cases h
  exact u6 (ds:=[]) (.inr rfl) ah results154 (aH I (t.trans (aE _))) (cj 1)
def uG (a:ae):Option ae := some a
theorem yB {a:ae} {r:ae} (h:uG a=some r):Fn prog 122 [.string a] [] (fun v0:Nat=>.func (.func 154) #[] #[zP v0]) (fun v0=>[cells v0 [.string r] 9]):=by
 unfold uG at h
 refine _root_.Go.Proofs.YtifpjbgnikjglaaGreatDoor.Fn.intro func122 rfl ntmps122 (by simp) (fun w0 K=>zyG (zeV rfl dc rfl (fun b1=>zyR 1 rfl (zyH (ziy (x1:=[]) (x2:=[.tmp 1]) rfl dc rfl rfl (zyR 1 rfl (zyN (zaz ?_))))))))
 cases h
 exact eB (rs:=[.tmp 2]) b1 (.inl rfl) results122 (.cons (.tmp rfl) .nil) rfl (cj 1)
theorem QJ (r:Int) (hv:0≤r∧(r<55296∨(57343<r∧r≤1114111))) (hr:¬r=65533):¬ac r=⟨#[239,191,189]⟩:=by
 intro h
 obtain⟨n,rfl⟩:=Int.eq_ofNat_of_zero_le hv.1
 have h1:encodeRune ((n:Nat):Int)=[239,191,189]:=by rw[←mW,h]
 have h2:=AA n (by omega) []
 have h3:=AA 65533 (by omega) []
 rw[h1] at h2
 rw[Ch] at h3
 rw[h2] at h3
 have:=(Prod.mk.inj h3).1
 omega
theorem Iy (r:Int) (hv:vr r):uF r=some ((ac r).size:Int):=by
 unfold uF
 refine cA ?_
 by_cases h:r=65533
 ·exact bM (bne_eq_false_iff_eq.2 h) rfl
 ·exact bQ (du.2 h) (bM (aj (QJ r (by unfold vr at hv;omega) h)) rfl)
theorem QK (s:ae) (a:Nat) (ha:a<s.size) (hsz:s.size≤9223372036854775000):wx s (a:Int)=some (gv ⟨a,(decodeL (s.data.toList.drop a)).2,(decodeL (s.data.toList.drop a)).1⟩):=by
 unfold wx
 obtain⟨F,C,_⟩:=vZ 1 (by omega)
 rw[C]
 refine cA (gO ?_)
 rw[fX]
 generalize zaC _ _ F=ag
 unfold zg5
 have j:s.data.toList.drop a≠[]:=by
  intro h;have:=aH fu h;simp at this;omega
 have i:=xk _ j
 have t:(s.data.toList.drop a).length=s.size-a:=by simp
 have v:=i.le
 have e:(cL s (a:Int) (s.size:Int)).data.toList=s.data.toList.drop a:=by unfold cL;exact Mi s a
 have hp:eA (cL s (a:Int) (s.size:Int)).data.toList=⟨0,(decodeL (s.data.toList.drop a)).2,(decodeL (s.data.toList.drop a)).1⟩::mX (0+(decodeL (s.data.toList.drop a)).2) ((s.data.toList.drop a).drop (decodeL (s.data.toList.drop a)).2):=by
  rw[e];unfold eA;rw[sb _ _ j]
 have l:vr ((decodeL (s.data.toList.drop a)).1:Int):=by have:=i.valid;unfold vr;omega
 refine bQ (au (by rw[hp];simp)) (bf (by rw[hp];rfl) (cA (bf (Iy _ l) ?_)))
 simp only
 unfold gv Pc.broken
 have n:=i.width
 have k:=i.lost_ok
 have m:=i.lost_bad
 generalize decodeL (s.data.toList.drop a)=d at *
 rcases d with⟨r,w⟩
 simp only at *
 by_cases hr:r=65533
 ·subst hr
  refine bQ (by decide) (gO ?_)
  by_cases h3:(s.size:Int)-a<3
  ·refine bQ (au h3) ?_
   have g:w=1:=by
    by_cases g:w=1
    ·exact g
    ·have:=(k rfl g).2;omega
   subst g;rfl
  ·have u:=Dz s a 3
   refine bM (aj h3) (gO (gO ?_))
   by_cases g:w=1
   ·refine bQ ?_ (by subst g;rfl)
    rw[aj]
    ·rfl
    ·intro h
     exact m rfl g (by rw[←u];exact aH (fun b:ae=>b.data.toList) h)
   ·obtain⟨D,h5⟩:=k rfl g
    refine bM ?_ ?_
    ·rw[au]
     ·rfl
     ·apply _root_.ByteArray.ext;apply fv.1;rw[show ((a:Int)+3)=(a:Int)+(3:Nat) from rfl,u,D]
    ·rw[xg,n (by omega)]
     subst h5;rfl
 ·refine bM (by rw[aA];omega) ?_
  rw[xg,n (by omega)]
  have:(r==65533&&w==1)=false:=by simp[hr]
  rw[this]
theorem yC (s:ae) (l:s.size≤2147483648):sE s=some ((eA s.data.toList).map gv):=by
 unfold sE
 have hc:(eA s.data.toList).length≤s.size:=by have:=vq s;unfold eH at this;simpa using this
 have key:∀ (n k:Nat),k≤(eA s.data.toList).length→(eA s.data.toList).length-k<n→zaC (fun _=>none) (zdY s) n k=some (((eA s.data.toList).drop k).map gv):=by
  intro n
  induction n with
  |zero=>intro k _ h;omega
  |succ n e=>
   intro k hk m
   rw[fX]
   generalize zaC (fun _=>none) (zdY s) n=ag at e ⊢
   unfold zdY
   by_cases h:k<(eA s.data.toList).length
   ·have hx:(eA s.data.toList)[k]?=some (eA s.data.toList)[k]:=aO h
    have hm:=aL hx
    generalize (eA s.data.toList)[k]=p at hx hm
    obtain⟨u,t,a⟩:=uj s.data.toList p hm
    have g:s.data.toList.length=s.size:=by rw[dJ];rfl
    have j:=a.pos
    have hr:wx s (p.i:Int)=some (gv p):=by
     have:=QK s p.i (by omega) (by omega)
     rw[this]
     have he:=a.eq
     rw[he]
    refine bQ (au h) (bf hx (bf hr ?_))
    rw[e (k+1) (by omega) (by omega)]
    have hd:(eA s.data.toList).drop k=p::(eA s.data.toList).drop (k+1):=by
     obtain⟨d,he⟩:=az.1 hx
     rw[←he];exact bB d
    rw[hd];rfl
   ·have:k=(eA s.data.toList).length:=by omega
    subst this
    exact fP (by rw[gg];rfl)
 have:=key zbC 0 (cm _) (by unfold zbC;omega)
 simpa using this
end Go.Proofs.YtifpjbgnikjglaaGreatDoor
