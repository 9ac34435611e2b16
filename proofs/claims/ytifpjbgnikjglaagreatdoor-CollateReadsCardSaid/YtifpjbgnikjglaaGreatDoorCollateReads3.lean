/-
  Texts laid together: LfA, PlA, Ql, LfF, LfG, LfP, LfT, Qt, PlB, Qa, Qb, Qc, Qd. Nothing is assumed.
-/
import Derived.Test.YtifpjbgnikjglaaGreatDoorCollateReads2
set_option maxRecDepth 100000
set_option maxHeartbeats 4000000
namespace Go.Proofs.YtifpjbgnikjglaaGreatDoor
abbrev zI (x : Int) : Value := .int .i64 x
abbrev zP (x : Nat) : Value := .pointer (some ⟨x, 0, none⟩)
end Go.Proofs.YtifpjbgnikjglaaGreatDoor
namespace Go.Proofs.YtifpjbgnikjglaaGreatDoor
open Go.RowKit Go.Lib
open Tryz
set_option linter.unusedVariables false
set_option linter.unusedSimpArgs false
open _root_.Bool renaming or_false→nL,and_eq_true→aR
open _root_.Go.IntWalk renaming i64_in→ai,i32_in→eb
open _root_.Go.Proofs.Tryz renaming results132→oR,results133→l8,underlying21→bg,underlying5→dy,underlying46→de,underlying9→an,underlying129→cG,underlying135→lQ,underlying137→ij,underlying103→bf,underlying77→bc,results149→du,underlying127→jg
open _root_.Go.Proofs.YtifpjbgnikjglaaGreatDoor renaming dl→fJ
open fj renaming nil→nI
open bM renaming nil→bK
open cW renaming nil→gV
open ap renaming nil→ad
open Vw renaming get→cI
open evL renaming cons→cY,nil→eB
open evP renaming cons→fr,nil→ph
open aN renaming one1→aI
open _root_.Go.Utf8 renaming encode→af
open _root_.Go.Value renaming bool→am,int→ax,agg→aZ
open _root_.Int renaming tmod→lH,tdiv→pV
open _root_.List renaming cons_append→bp,drop_drop→eS,all_eq_true→bz,replicate→bA,length_map→aF,getElem?_eq_getElem→aP,mem_cons→bE,not_mem_nil→dX,getElem?_eq_some_iff→au,drop_eq_getElem_cons→bB,foldl_cons→bQ,drop_length→fQ,findSome?_cons→da,append_nil→aQ,nil_append→bt,getD_eq_getElem?_getD→cC,take_append_drop→dH,length→gi,getElem?_map→bV,mem_cons_self→aB,mem_cons_of_mem→aq,flatMap_cons→aG,map_cons→aE,mem_of_getElem?→aJ,takeWhile_cons→dM,length_cons→aj,dropWhile_cons→pW,filter_cons→hO,length_append→ah,mem_append→bO,mem_filter→cp,drop_left→la,take_of_length_le→fx,take_left→jv,length_nil→bl
open _root_.List.cons renaming inj→ju
open _root_.Nat renaming lt_succ_self→av,zero_le→cH,le_of_not_lt→lF
open _root_.Option renaming map_eq_some_iff→cM
open _root_.Option.some renaming injEq→fC
open _root_.Or renaming inr→iI
open _root_.Prod renaming fst→bu
open _root_.Prod.mk renaming injEq→mL
theorem bm {F:Fence} {P:Program} {w0:World} {K:Nat→Prop} {N:Nat} {dfs:List Deferred} {Q:Exit→Act→World→Prop} {σ:List (Nat×Value)} {L:List Asn} {ops:Array Oper} {d:List (Nat×Nat×Value)} {D:Nat→Prop} (m:Nat) {i t:Nat} {v:Value} (hu:iE (d.map (fun p=>p.2.1))=true) (hi:iE (d.map (fun p=>p.1))=true) (hm:d[m]?=some (i,t,v):=by exact rfl) :
    TO F P w0 K N dfs ops (_root_.Go.Exit.then (fun a w=>At N dfs (fJ (fun j=>D j∨j=i) d++σ) a∧Holds w0 K L w) Q) [] ((t,v)::(fJ D d++σ)) L:=vD m hu hi hm
theorem dk {P:Program} {F:Fence} {w0:World} {K:Nat→Prop} {N:Nat} {σ:List (Nat×Value)} {L:List Asn} {fn:Func} {V:Unit→Value} {d:Unit→List Asn} {v:Value} (n:Nat) (a:fn.results=#[.tmp n]) (e:σ.lookup n=some v:=by rfl) (hv:v=V ():=by rfl) (hB:d ()=[]:=by rfl) :
    TX w0 K N [] (bodyPostM F 0 P fn (FR P V d w0 K)) .ret σ L :=
  eO (rs:=[.tmp n]) () (.inl rfl) a (.cons (.tmp e) .nil) hv (by rw[hB];exact ad)
theorem RK {R a d:List Asn} {A:Asn} (k:Nat) (h:od R a d) (e:oX R [k]=some [A]:=by kernel_rfl):od R a (A::d):=.own (aH [k] e rfl) (fun _ _ h=>aI.1 h) h
theorem bq {D:Nat→Prop} {S:Nat→Prop} [DecidablePred S] {σ:List (Nat×Value)} {a:List (Nat×Nat×Value)} {i t:Nat} {v:Value} (m:Nat) (hu:iE (a.map (fun p=>p.2.1))=true) (hd:∀j,S j→D j) (hm:a[m]?=some (i,t,v):=by exact rfl) (d:decide (S i)=true:=by exact rfl):(dl D a++σ).lookup t=some v:=ja hu hm (hd i (of_decide_eq_true d))
theorem aT {σ:List (Nat×Value)}:∀ {a:List (Nat×Value)},a.map (fun p=>σ.lookup p.1)=a.map (fun p=>some p.2)→po σ a
  | [],_=>qG
  | (t,v)::a,h=>zD (ju h).1 (aT (ju h).2)
theorem kJ {α:Type} {a0 a1:α} {l l':List α} (h:l=l'):a0::a1::l=a0::a1::l':=by rw[h]
theorem qX {α:Type} {a0 a1 a:α} {l l':List α} (h:l=l'):a0::a1::a::l=a0::a1::a::l':=by rw[h]
theorem mU {α:Type} {a0 a1 d a:α} {l l':List α} (h:l=l'):a0::a1::d::a::l=a0::a1::d::a::l':=by rw[h]
theorem uy {α:Type} {a0 a1 e d a:α} {l l':List α} (h:l=l'):a0::a1::e::d::a::l=a0::a1::e::d::a::l':=by rw[h]
theorem oB {α:Type} {a0 a1 g e d a:α} {l l':List α} (h:l=l'):a0::a1::g::e::d::a::l=a0::a1::g::e::d::a::l':=by rw[h]
theorem RL {α:Type} {a0 a1 i g e d a:α} {l l':List α} (h:l=l'):a0::a1::i::g::e::d::a::l=a0::a1::i::g::e::d::a::l':=by rw[h]
theorem mV {α:Type} {a0 a1 j i g e d a:α} {l l':List α} (h:l=l'):a0::a1::j::i::g::e::d::a::l=a0::a1::j::i::g::e::d::a::l':=by rw[h]
theorem RM {α:Type} {a0 a1 k j i g e d a:α} {l l':List α} (h:l=l'):a0::a1::k::j::i::g::e::d::a::l=a0::a1::k::j::i::g::e::d::a::l':=by rw[h]
theorem RN {α:Type} {a0 a1 m k j i g e d a:α} {l l':List α} (h:l=l'):a0::a1::m::k::j::i::g::e::d::a::l=a0::a1::m::k::j::i::g::e::d::a::l':=by rw[h]
theorem RP {α:Type} {a0 a1 n m k j i g e d a:α} {l l':List α} (h:l=l'):a0::a1::n::m::k::j::i::g::e::d::a::l=a0::a1::n::m::k::j::i::g::e::d::a::l':=by rw[h]
theorem RS {α:Type} {a0 a1 s n m k j i g e d a:α} {l l':List α} (h:l=l'):a0::a1::s::n::m::k::j::i::g::e::d::a::l=a0::a1::s::n::m::k::j::i::g::e::d::a::l':=by rw[h]
theorem A9 {D:Nat→Prop} {g t0 e t1:Nat} {v0 a:Value} {r d:List (Nat×Nat×Value)} (h:dl D r=dl D d):dl D ((g,t0,v0)::(e,t1,a)::r)=dl D ((g,t0,v0)::(e,t1,a)::d):=dP (fun _=>rfl) (dP (fun _=>rfl) h)
theorem yz {D:Nat→Prop} {j t0 i t1 g t2:Nat} {v0 d a:Value} {r e:List (Nat×Nat×Value)} (h:dl D r=dl D e):dl D ((j,t0,v0)::(i,t1,d)::(g,t2,a)::r)=dl D ((j,t0,v0)::(i,t1,d)::(g,t2,a)::e):=dP (fun _=>rfl) (dP (fun _=>rfl) (dP (fun _=>rfl) h))
theorem MZ {D:Nat→Prop} {l t0 k t1 j t2 i t3:Nat} {v0 e d a:Value} {r g:List (Nat×Nat×Value)} (h:dl D r=dl D g):dl D ((l,t0,v0)::(k,t1,e)::(j,t2,d)::(i,t3,a)::r)=dl D ((l,t0,v0)::(k,t1,e)::(j,t2,d)::(i,t3,a)::g):=dP (fun _=>rfl) (dP (fun _=>rfl) (dP (fun _=>rfl) (dP (fun _=>rfl) h)))
theorem Ba {D:Nat→Prop} {n t0 m t1 l t2 k t3 j t4:Nat} {v0 g e d a:Value} {r i:List (Nat×Nat×Value)} (h:dl D r=dl D i):dl D ((n,t0,v0)::(m,t1,g)::(l,t2,e)::(k,t3,d)::(j,t4,a)::r)=dl D ((n,t0,v0)::(m,t1,g)::(l,t2,e)::(k,t3,d)::(j,t4,a)::i):=dP (fun _=>rfl) (dP (fun _=>rfl) (dP (fun _=>rfl) (dP (fun _=>rfl) (dP (fun _=>rfl) h))))
theorem Bb {D:Nat→Prop} {t t0 s t1 n t2 m t3 l t4 k t5:Nat} {v0 i g e d a:Value} {r j:List (Nat×Nat×Value)} (h:dl D r=dl D j):dl D ((t,t0,v0)::(s,t1,i)::(n,t2,g)::(m,t3,e)::(l,t4,d)::(k,t5,a)::r)=dl D ((t,t0,v0)::(s,t1,i)::(n,t2,g)::(m,t3,e)::(l,t4,d)::(k,t5,a)::j):=dP (fun _=>rfl) (dP (fun _=>rfl) (dP (fun _=>rfl) (dP (fun _=>rfl) (dP (fun _=>rfl) (dP (fun _=>rfl) h)))))
theorem Bc {D:Nat→Prop} {v t0 u t1 t t2 s t3 n t4 m t5 l t6:Nat} {v0 j i g e d a:Value} {r k:List (Nat×Nat×Value)} (h:dl D r=dl D k):dl D ((v,t0,v0)::(u,t1,j)::(t,t2,i)::(s,t3,g)::(n,t4,e)::(m,t5,d)::(l,t6,a)::r)=dl D ((v,t0,v0)::(u,t1,j)::(t,t2,i)::(s,t3,g)::(n,t4,e)::(m,t5,d)::(l,t6,a)::k):=dP (fun _=>rfl) (dP (fun _=>rfl) (dP (fun _=>rfl) (dP (fun _=>rfl) (dP (fun _=>rfl) (dP (fun _=>rfl) (dP (fun _=>rfl) h))))))
theorem Bd {D:Nat→Prop} {C t0 w t1 v t2 u t3 t t4 s t5 n t6 m t7:Nat} {v0 k j i g e d a:Value} {r l:List (Nat×Nat×Value)} (h:dl D r=dl D l):dl D ((C,t0,v0)::(w,t1,k)::(v,t2,j)::(u,t3,i)::(t,t4,g)::(s,t5,e)::(n,t6,d)::(m,t7,a)::r)=dl D ((C,t0,v0)::(w,t1,k)::(v,t2,j)::(u,t3,i)::(t,t4,g)::(s,t5,e)::(n,t6,d)::(m,t7,a)::l):=dP (fun _=>rfl) (dP (fun _=>rfl) (dP (fun _=>rfl) (dP (fun _=>rfl) (dP (fun _=>rfl) (dP (fun _=>rfl) (dP (fun _=>rfl) (dP (fun _=>rfl) h)))))))
theorem RT {D:Nat→Prop} {G t0 E t1 C t2 w t3 v t4 u t5 t t6 s t7 n t8:Nat} {v0 l k j i g e d a:Value} {r m:List (Nat×Nat×Value)} (h:dl D r=dl D m):dl D ((G,t0,v0)::(E,t1,l)::(C,t2,k)::(w,t3,j)::(v,t4,i)::(u,t5,g)::(t,t6,e)::(s,t7,d)::(n,t8,a)::r)=dl D ((G,t0,v0)::(E,t1,l)::(C,t2,k)::(w,t3,j)::(v,t4,i)::(u,t5,g)::(t,t6,e)::(s,t7,d)::(n,t8,a)::m):=dP (fun _=>rfl) (dP (fun _=>rfl) (dP (fun _=>rfl) (dP (fun _=>rfl) (dP (fun _=>rfl) (dP (fun _=>rfl) (dP (fun _=>rfl) (dP (fun _=>rfl) (dP (fun _=>rfl) h))))))))
theorem M0 {D:Nat→Prop} {I t0 H t1 G t2 E t3 C t4 w t5 v t6 u t7 t t8 s t9:Nat} {v0 m l k j i g e d a:Value} {r n:List (Nat×Nat×Value)} (h:dl D r=dl D n):dl D ((I,t0,v0)::(H,t1,m)::(G,t2,l)::(E,t3,k)::(C,t4,j)::(w,t5,i)::(v,t6,g)::(u,t7,e)::(t,t8,d)::(s,t9,a)::r)=dl D ((I,t0,v0)::(H,t1,m)::(G,t2,l)::(E,t3,k)::(C,t4,j)::(w,t5,i)::(v,t6,g)::(u,t7,e)::(t,t8,d)::(s,t9,a)::n):=dP (fun _=>rfl) (dP (fun _=>rfl) (dP (fun _=>rfl) (dP (fun _=>rfl) (dP (fun _=>rfl) (dP (fun _=>rfl) (dP (fun _=>rfl) (dP (fun _=>rfl) (dP (fun _=>rfl) (dP (fun _=>rfl) h)))))))))
theorem rX {D:Nat→Prop} {M t0 J t1 I t2 H t3 G t4 E t5 C t6 w t7 v t8 u t9 d t10:Nat} {v0 s n m l k j i g e a:Value} {r t:List (Nat×Nat×Value)} (h:dl D r=dl D t):dl D ((M,t0,v0)::(J,t1,s)::(I,t2,n)::(H,t3,m)::(G,t4,l)::(E,t5,k)::(C,t6,j)::(w,t7,i)::(v,t8,g)::(u,t9,e)::(d,t10,a)::r)=dl D ((M,t0,v0)::(J,t1,s)::(I,t2,n)::(H,t3,m)::(G,t4,l)::(E,t5,k)::(C,t6,j)::(w,t7,i)::(v,t8,g)::(u,t9,e)::(d,t10,a)::t):=dP (fun _=>rfl) (dP (fun _=>rfl) (dP (fun _=>rfl) (dP (fun _=>rfl) (dP (fun _=>rfl) (dP (fun _=>rfl) (dP (fun _=>rfl) (dP (fun _=>rfl) (dP (fun _=>rfl) (dP (fun _=>rfl) (dP (fun _=>rfl) h))))))))))
theorem s6 {D:Nat→Prop} {T t0 O t1 M t2 J t3 I t4 H t5 G t6 E t7 C t8 w t9 g t10 e t11:Nat} {v0 u t s n m l k j i d a:Value} {r v:List (Nat×Nat×Value)} (h:dl D r=dl D v):dl D ((T,t0,v0)::(O,t1,u)::(M,t2,t)::(J,t3,s)::(I,t4,n)::(H,t5,m)::(G,t6,l)::(E,t7,k)::(C,t8,j)::(w,t9,i)::(g,t10,d)::(e,t11,a)::r)=dl D ((T,t0,v0)::(O,t1,u)::(M,t2,t)::(J,t3,s)::(I,t4,n)::(H,t5,m)::(G,t6,l)::(E,t7,k)::(C,t8,j)::(w,t9,i)::(g,t10,d)::(e,t11,a)::v):=dP (fun _=>rfl) (dP (fun _=>rfl) (dP (fun _=>rfl) (dP (fun _=>rfl) (dP (fun _=>rfl) (dP (fun _=>rfl) (dP (fun _=>rfl) (dP (fun _=>rfl) (dP (fun _=>rfl) (dP (fun _=>rfl) (dP (fun _=>rfl) (dP (fun _=>rfl) h)))))))))))
def uz (lk:Nat→Option Value):Operand→Option Value
  | .tmp t=>lk t
  | .const v=>some v
  | .func f=>some (.func (.func f) #[] #[])
  | .global _=>none
def yA (lk:Nat→Option Value) (ops:Array Oper):Option (Nat×Bool)→Option Bool
  | none=>some true
  | some (j,b)=>match (ops[j]?).bind (·.dst) with
    | some t=>match lk t with
      | some (.bool c)=>some (c==b)
      | some (.tuple _)=>some false
      | _=>none
    | none=>none
def ww (lk:Nat→Option Value) (N:Nat) (ops:Array Oper) (o:Oper):Option (Nat×Value) :=
  match o.dst with
  | none=>none
  | some d=>match Nat.blt d N with
    | false=>none
    | true=>match yA lk ops o.guard with
      | none=>none
      | some false=>some (d,undef)
      | some true=>match o.op with
        | .move x=>match uz lk x with
          | some v=>some (d,v)
          | none=>none
        | .assign x=>match uz lk x with
          | some v=>some (d,v)
          | none=>none
        | .pick x y z=>match uz lk x with
          | some (.bool true)=>match uz lk y with
            | some v=>some (d,v)
            | none=>none
          | some (.bool false)=>match uz lk z with
            | some v=>some (d,v)
            | none=>none
          | _=>none
        | _=>none
theorem uA {a:Nat→Option Value} {S:List (Nat×Value)} (d:∀t v,a t=some v→S.lookup t=some v) {x:Operand} {v:Value} (h:uz a x=some v):ev S x=some v:=by
  cases x with
  | tmp t=>exact d t v h
  | const c=>exact h
  | func f=>exact h
  | global g=>exact h
theorem M1 {a:Nat→Option Value} {S:List (Nat×Value)} {ops:Array Oper} (d:∀t v,a t=some v→S.lookup t=some v) {g:Option (Nat×Bool)} {r:Bool} (h:yA a ops g=some r):gd ops S g=some r:=by
  cases g with
  | none=>exact h
  | some p=>
    obtain⟨j,b⟩:=p
    unfold yA at h;unfold gd
    dsimp only at h ⊢
    cases ht:(ops[j]?).bind (·.dst) with
    | none=>rw[ht] at h;cases h
    | some t=>
      rw[ht] at h;dsimp only at h ⊢
      cases hk:a t with
      | none=>rw[hk] at h;cases h
      | some v=>rw[hk] at h;rw[d t v hk];exact h
theorem yB {F:Fence} [br F] {P:Program} {w0:World} {K:Nat→Prop} {N:Nat} {dfs:List Deferred} {ops:Array Oper} {Q:Exit→Act→World→Prop} {rest:List Oper} {j:Nat→Option Value} {S:List (Nat×Value)} {L:List Asn} {o:Oper} {t:Nat} {v:Value}
    (i:∀t v,j t=some v→S.lookup t=some v) (e:ww j N ops o=some (t,v)) (h:TO F P w0 K N dfs ops Q rest ((t,v)::S) L):TO F P w0 K N dfs ops Q (o::rest) S L:=by
  obtain⟨dst,op,n,pos,m,g⟩:=o
  unfold ww at e
  cases dst with
  | none=>cases e
  | some d=>
    dsimp only at e
    cases k:Nat.blt d N with
    | false=>rw[k] at e;cases e
    | true=>
    have hd:d<N:=Nat.lt_of_lt_of_le (av d) (Nat.le_of_ble_eq_true k)
    rw[k] at e;dsimp only at e
    cases hg:yA j ops g with
    | none=>rw[hg] at e;cases e
    | some l=>
      rw[hg] at e
      have a:=M1 i hg
      cases l with
      | false=>cases e;exact IW a hd h
      | true=>
        cases op <;> dsimp only at e <;> first | (cases e;done) | skip
        · split at e
          · cases e;exact zE a hd (uA i (by assumption)) h
          · cases e
        · split at e
          · cases e;exact IX a hd (uA i (by assumption)) h
          · cases e
        · split at e
          · split at e
            · cases e;exact Dx (b:=true) a hd (uA i (by assumption)) (uA i (by assumption)) h
            · cases e
          · split at e
            · cases e;exact Dx (b:=false) a hd (uA i (by assumption)) (uA i (by assumption)) h
            · cases e
          · cases e
def Be (N:Nat) (ops:Array Oper):Nat→List Oper→List (Nat×Value)→Option (List Oper×List (Nat×Value))
  | 0,r,σ=>some (r,σ)
  | n+1,o::r,σ=>match ww (fun t=>σ.lookup t) N ops o with
    | some p=>Be N ops n r (p::σ)
    | none=>none
  | _+1,[],_=>none
theorem ac {F:Fence} [br F] {P:Program} {w0:World} {K:Nat→Prop} {N:Nat} {dfs:List Deferred} {ops:Array Oper} {Q:Exit→Act→World→Prop} {L:List Asn} (n:Nat):∀ {rest a:List Oper} {σ d:List (Nat×Value)},
    Be N ops n rest σ=some (a,d)→TO F P w0 K N dfs ops Q a d L→TO F P w0 K N dfs ops Q rest σ L:=by
  induction n with
  | zero=>intro rest a σ d e h;cases e;exact h
  | succ n g=>
    intro rest a σ d e h
    cases rest with
    | nil=>cases e
    | cons o r=>
      simp only[Be] at e
      split at e
      · exact yB (fun _ _ h=>h) (by assumption) (g e h)
      · cases e
def wx (deps:List Nat) (σ:List (Nat×Value)) (t:Nat):List (Nat×Nat×Value)→Option Value
  | []=>σ.lookup t
  | (i,t',v)::r=>match Nat.beq t t' with
    | true=>match deps.contains i with
      | true=>some v
      | false=>none
    | false=>wx deps σ t r
theorem yC {D:Nat→Prop} {a:List Nat} {σ:List (Nat×Value)} (hd:∀j∈a,D j) (t:Nat) (v:Value):∀ {d:List (Nat×Nat×Value)},wx a σ t d=some v→(dl D d++σ).lookup t=some v
  | [],h=>h
  | (i,t',v')::r,h=>by
    unfold wx at h
    cases g:Nat.beq t t' with
    | true=>
      rw[g] at h;dsimp only at h
      have e:t=t':=Nat.eq_of_beq_eq_true g
      subst e
      split at h
      · cases h
        have m:D i:=hd i (by simpa using (by assumption:a.contains i=true))
        simp only[dl]
        rw[ay m]
        simp
      · cases h
    | false=>
      rw[g] at h;dsimp only at h
      have k:=yC (σ:=σ) hd t v h
      have l:(t==t')=false:=by
        have:t≠t':=Nat.ne_of_beq_eq_false g
        simpa using this
      simp only[dl]
      split
      · simp only[bp,List.lookup,l];exact k
      · exact k
def qY (N:Nat) (ops:Array Oper) (σ:List (Nat×Value)) (vals:List (Nat×Nat×Value)):Nat→List Oper→Nat→Option (List Oper×Nat×List (Nat×Nat×Value))
  | 0,r,i=>some (r,i,[])
  | n+1,o::r,i=>match ww (fun t=>wx (iR o) σ t vals) N ops o with
    | some p=>match qY N ops σ vals n r (i+1) with
      | some q=>some (q.1,q.2.1,(i,p.1,p.2)::q.2.2)
      | none=>none
    | none=>none
  | _+1,[],_=>none
section
variable {F:Fence} {P:Program} {w0:World} {K:Nat→Prop} {N:Nat} {dfs:List Deferred} {Q:Exit→Act→World→Prop} {σ:List (Nat×Value)} {L:List Asn} {ops:Array Oper}
theorem yD {a:List (Nat×Nat×Value)} {n m i h:Nat} {o:Oper} {r d:List Oper} (e:qY N ops σ a (n+1) (o::r) i=some (d,h,(a.drop m).take (n+1))) :
    ∃t v,ww (fun t=>wx (iR o) σ t a) N ops o=some (t,v)∧a[m]?=some (i,t,v)∧qY N ops σ a n r (i+1)=some (d,h,(a.drop (m+1)).take n):=by
  simp only[qY] at e
  split at e
  · rename_i p hp
    split at e
    · rename_i q j
      obtain⟨q1,q2,k⟩:=q
      simp only[fC,mL] at e
      obtain⟨rfl,rfl,e⟩:=e
      cases g:a.drop m with
      | nil=>rw[g] at e;simp at e
      | cons x xs=>
        rw[g,List.take_succ_cons,List.cons.injEq] at e
        have hm:a[m]?=some x:=by
          have:(a.drop m)[0]?=some x:=by rw[g];rfl
          simpa using this
        refine⟨p.1,p.2,hp,by rw[hm,← e.1],?_⟩
        have:a.drop (m+1)=xs:=by rw[← eS,g];rfl
        rw[this,← e.2];exact j
    · cases e
  · cases e
theorem gY [br F] {d:List (Nat×Nat×Value)} (n m:Nat):∀ {l a:List Oper} {i g:Nat},qY N ops σ d n l i=some (a,g,(d.drop m).take n) →
    bM F P w0 K N dfs Q ops σ L d a g→bM F P w0 K N dfs Q ops σ L d l i:=by
  induction n generalizing m with
  | zero=>intro l a i g e h;cases e;exact h
  | succ n j=>
    intro l a i g e h
    cases l with
    | nil=>cases e
    | cons o r=>
      obtain⟨t,v,h1,h2,s⟩:=yD e
      exact bR (fun D u hd k hu hi=>yB (fun t v h=>yC hd t v h) h1 (vD m hu hi h2)) (j (m+1) s h)
theorem yE [br F] {d:List (Nat×Nat×Value)} {x:Nat} (n m:Nat):∀ {l a:List Oper} {i g:Nat},qY N ops σ d n l i=some (a,g,(d.drop m).take n) →
    cW F P w0 K N dfs Q ops σ L d x a g→cW F P w0 K N dfs Q ops σ L d x l i:=by
  induction n generalizing m with
  | zero=>intro l a i g e h;cases e;exact h
  | succ n j=>
    intro l a i g e h
    cases l with
    | nil=>cases e
    | cons o r=>
      obtain⟨t,v,h1,h2,s⟩:=yD e
      exact gk (fun D u hd k hu hi=>yB (fun t v h=>yC hd t v h) h1 (vD m hu hi h2)) (j (m+1) s h)
def rY {β:Type} (S:List Nat) (LL:(Nat→Prop)→β→List Asn):Prop:=∀i,S.contains i=false→∀D b,LL (fun j=>D j∨j=i) b=LL D b
theorem pF {D:Nat→Prop} {i:Nat} {base:Asn} {r:List (Nat×Asn)} {S:List Nat} (d:(r.map bu).all (fun x=>S.contains x)=true) (h:S.contains i=false):eD (fun j=>D j∨j=i) base r=eD D base r:=by
  refine gW ?_
  cases hc:(r.map bu).contains i with
  | false=>rfl
  | true=>
    have h1:i∈r.map bu:=by simpa using hc
    have h2:=bz.1 d i h1
    have a:S.contains i=true:=h2
    rw[h] at a;cases a
theorem Bg {β:Type} {a:β→List (Nat×Nat×Value)} {e:(Nat→Prop)→β→List Asn} (d:¬ Nonempty β):∀ (l:List Oper) (i:Nat),fj F P w0 K N dfs Q ops σ a e l i
  | [],_=>trivial
  | o::r,i=>⟨fun D b=>absurd ⟨b⟩ d,Bg d r (i+1)⟩
theorem pG {β:Type} {d:β→List (Nat×Nat×Value)} {e:(Nat→Prop)→β→List Asn} {S:List Nat} {o:Oper} {rest:List Oper} {i:Nat} (m:rY S e) (l:S.contains i=false)
    (hu:∀b,iE ((d b).map (fun p=>p.2.1))=true) (hi:∀b,iE ((d b).map (fun p=>p.1))=true)
    (h:∀ (D:Nat→Prop) (b:β),¬ D i→(∀j∈iR o,D j)→Clo ops D→iE ((d b).map (fun p=>p.2.1))=true→iE ((d b).map (fun p=>p.1))=true →
      TO F P w0 K N dfs ops (_root_.Go.Exit.then (fun a w=>At N dfs (dl (fun j=>D j∨j=i) (d b)++σ) a∧Holds w0 K (e D b) w) Q) [o] (dl D (d b)++σ) (e D b))
    (hr:fj F P w0 K N dfs Q ops σ d e rest (i+1)):fj F P w0 K N dfs Q ops σ d e (o::rest) i :=
  kV (fun D b n hd g a w s k=>by
    have h0:=h D b n hd g (hu b) (hi b) a w s k
    exact pn (fun t w' h2=>⟨b,h2.1,by rw[m i l D b];exact h2.2⟩) h0) hr
theorem oC [br F] {β:Type} {a:β→List (Nat×Nat×Value)} {G:(Nat→Prop)→β→List Asn} {S:List Nat} (J:rY S G)
    (hu:∀b,iE ((a b).map (fun p=>p.2.1))=true) (hi:∀b,iE ((a b).map (fun p=>p.1))=true) (n m:Nat):∀ {l d:List Oper} {i k:Nat},
    (∀b,qY N ops σ (a b) n l i=some (d,k,((a b).drop m).take n))→(List.range n).all (fun j=>!S.contains (i+j))=true →
    fj F P w0 K N dfs Q ops σ a G d k→fj F P w0 K N dfs Q ops σ a G l i:=by
  induction n generalizing m with
  | zero=>
    intro l d i k e C h
    by_cases g:Nonempty β
    · obtain⟨b⟩:=g
      have e:=e b
      simp only[qY,fC,mL] at e
      obtain⟨rfl,rfl,_⟩:=e
      exact h
    · exact Bg g _ _
  | succ n I=>
    intro l d i k e C h
    by_cases g:Nonempty β
    · obtain⟨b0⟩:=g
      cases l with
      | nil=>exact absurd (e b0) (by simp[qY])
      | cons o r=>
        have w:S.contains i=false:=by
          have:=bz.1 C 0 (by simp)
          simpa using this
        have u:(List.range n).all (fun j=>!S.contains (i+1+j))=true:=by
          refine bz.2 fun j hj=>?_
          have:=bz.1 C (j+1) (by simp at hj ⊢;omega)
          rwa [show i+(j+1)=i+1+j by omega] at this
        refine pG J w hu hi (fun D b O hd M s E=>?_) (I (m+1) (fun b=>?_) u h)
        · obtain⟨t,v,h1,h2,H⟩:=yD (e b)
          exact yB (fun t v h=>yC hd t v h) h1 (vD m s E h2)
        · obtain⟨t,v,h1,h2,H⟩:=yD (e b)
          exact H
    · exact Bg g _ _
end
section
variable {F:Fence} {P:Program} {w0:World} {K:Nat→Prop} {N:Nat} {dfs:List Deferred} {Q:Exit→Act→World→Prop} {σ:List (Nat×Value)} {L:List Asn} {ops:Array Oper}
theorem kY {β:Type} {d:β→List (Nat×Nat×Value)} {g:(Nat→Prop)→β→List Asn} {S:List Nat} {o:Oper} {rest:List Oper} {i:Nat} (m:rY S g) (l:S.contains i=false)
    (hu:∀b,iE ((d b).map (fun p=>p.2.1))=true) (hi:∀b,iE ((d b).map (fun p=>p.1))=true)
    (h:∀ (D:Nat→Prop) (b:β),¬ D i→(∀j∈iR o,D j)→Clo ops D→iE ((d b).map (fun p=>p.2.1))=true→iE ((d b).map (fun p=>p.1))=true→∃L',g D b=L' ∧
      TO F P w0 K N dfs ops (_root_.Go.Exit.then (fun a w=>At N dfs (dl (fun j=>D j∨j=i) (d b)++σ) a∧Holds w0 K L' w) Q) [o] (dl D (d b)++σ) L')
    (hr:fj F P w0 K N dfs Q ops σ d g rest (i+1)):fj F P w0 K N dfs Q ops σ d g (o::rest) i :=
  pG m l hu hi (fun D b n hd k hu hi=>by obtain⟨L',e,h0⟩:=h D b n hd k hu hi;rw[e];exact h0) hr
end
section
variable {R:Type} {F:Fence} {P:Program} {w0:World} {K:Nat→Prop} {N:Nat} {dfs:List Deferred} {ops:Array Oper} {Q:Exit→Act→World→Prop} {rest:List Oper} {σ:List (Nat×Value)} {L:List Asn} {x:Operand} {c c1 c2:Code} {p q:Option R} {r:R} {b:Bool}
theorem bG (hc:ev σ x=some (.bool b)) (h:aU b p q=some r) (ht:p=some r→TC F P w0 K N dfs Q c1 σ L) (hf:q=some r→TC F P w0 K N dfs Q c2 σ L):TC F P w0 K N dfs Q (.cond x c1 c2) σ L:=IZ hc (fun e=>ht (ng e h)) (fun e=>hf (nh e h))
theorem aO [br F] {b:BinOp} {t k l:TypeId} {d:Nat} {pos:String} {j:Array Edge} {g:Option (Nat×Bool)} {x y:Operand} {v i a:Value} (e:(gd ops σ g,decide (d<N),ev σ x,ev σ y)=(some true,true,some i,some a))
    (m:∀w:World,(do eqGuard b t x y i a;binOp b t i a:Sem Value).run P w=.ok v w) (h:TO F P w0 K N dfs ops Q rest ((d,v)::σ) L) :
    TO F P w0 K N dfs ops Q (⟨some d,.binOp b t x y k,l,pos,j,g⟩::rest) σ L:=by
  simp only[mL] at e
  exact kl e.1 (of_decide_eq_true e.2.1) e.2.2.1 e.2.2.2 m h
theorem az (h:TC F P w0 K N dfs Q c σ L):TO F P w0 K N dfs ops (_root_.Go.Exit.then (c.wpIn F 0 P Q) Q) [] σ L:=bU (cz h)
theorem aC {id:Nat} {l:List Oper} (h:TO F P w0 K N dfs l.toArray (_root_.Go.Exit.then (c.wpIn F 0 P Q) Q) l σ L):TC F P w0 K N dfs Q (.seq (.region id l.toArray false) c) σ L:=cm (ct h)
theorem cv {id:Nat} {l:List Oper} (h:TO F P w0 K N dfs l.toArray (_root_.Go.Exit.then (c.wpIn F 0 P Q) Q) l σ L):TO F P w0 K N dfs ops (_root_.Go.Exit.then ((Code.seq (.region id l.toArray false) c).wpIn F 0 P Q) Q) [] σ L:=bU (cz (cm (ct h)))
theorem dG {s:Nat} (a:σ.lookup s=some (.bool b)) (h:aU b p q=some r) (ht:p=some r→TO F P w0 K N dfs ops Q rest ((s,.bool true)::σ) L) (hf:q=some r→TO F P w0 K N dfs ops Q rest ((s,.bool false)::σ) L):TO F P w0 K N dfs ops Q rest σ L:=I0 a (fun e=>ht (ng e h)) (fun e=>hf (nh e h))
theorem RU (h:aU b p q=some r) (ht:p=some r→TO F P w0 K N dfs ops Q rest σ L) (hf:q=some r→TO F P w0 K N dfs ops Q rest σ L):TO F P w0 K N dfs ops Q rest σ L:=sL (b:=b) (fun e=>ht (ng e h)) (fun e=>hf (nh e h))
theorem RV (h:aU b p q=some r) (ht:p=some r→TC F P w0 K N dfs Q c σ L) (hf:q=some r→TC F P w0 K N dfs Q c σ L):TC F P w0 K N dfs Q c σ L:=rI (b:=b) (fun e=>ht (ng e h)) (fun e=>hf (nh e h))
abbrev RW (F:Fence) (P:Program) (w0:World) (K:Nat→Prop) (N:Nat) (dfs:List Deferred) (ops:Array Oper) (Q:Exit→Act→World→Prop) (rest:List Oper) (σ:List (Nat×Value)) (L:List Asn):Prop:=TO F P w0 K N dfs ops Q rest σ L
end
abbrev gg (x:bX):List Value:=[.int .i32 x.Rune,.string x.Text,zI x.At]
abbrev il (x:db):List Value:=[zI x.sort,zI x.place,.string x.digits,.string x.marks,zI x.great]
abbrev oD (x:gu):List Value:=[.string x.e0,.string x.e1,.string x.e2]
abbrev ku (x:zat):List Value:=[zI x.Err,zI x.At]
abbrev bo (v:Value):=vec gR 9 1 v
abbrev eo (v:Value):=vec (kn (.i32)) 21 1 v
abbrev fv (v:Value):=vec qh 81 3 v
abbrev o9 (v:Value):=vec FB 137 3 v
abbrev jQ (v:Value):=vec py 91 5 v
abbrev mr (v:Value):=vec lj 123 5 v
abbrev om (v:Value):=vec nC 132 4 v
abbrev rZ (v:Value):=vec sV 111 2 v
abbrev s7 (v:Value):=vec um 106 2 v
def qZ (r1:Int):Option Bool := aU (decide ((r1:Int)<0)) ( some true
) ( aU (decide ((1114111:Int)<r1)) ( some true
) ( aU (decide ((55296:Int)≤r1)) ( some (decide ((r1:Int)≤57343))
) ( some false
)
)
)
theorem wy {a:Int} {r:Bool} (h:qZ a=some r):dO prog 132 [.int .i32 a] (.bool r):=by
 unfold qZ at h
 refine dO.intro func132 rfl ntmps132 (by simp) ?_
 intro w0 K
 refine aC (ac 1 rfl (cv (ac 1 rfl (aO rfl ei (ac 1 rfl ?_)))))
 refine dG (s:=5) rfl h (fun h=>?_) (fun h=>?_)
 ·
  refine ac 12 rfl (az ?_)
  refine bI ?_
  cases h
  exact dk 2 oR
 refine ac 1 rfl (aO rfl lK (ac 2 rfl ?_))
 refine dG (s:=9) rfl h (fun h=>?_) (fun h=>?_)
 ·
  refine ac 8 rfl (az (bI ?_))
  cases h
  exact dk 2 oR
 refine ac 1 rfl (aO rfl fG (ac 1 rfl ?_))
 refine dG (s:=12) rfl h (fun h=>?_) (fun h=>?_)
 ·
  refine ac 1 rfl (aO rfl ia (ac 3 rfl (az (bI ?_))))
  cases h
  exact dk 2 oR
 refine ac 5 rfl (az (bI ?_))
 cases h
 exact dk 2 oR
def ra (r1:Int):Option Int := aX (qZ r1) fun (r2:Bool)=> aU (r2) ( some 0
) ( aU (decide ((r1:Int)<128)) ( some 1
) ( aU (decide ((r1:Int)<2048)) ( some 2
) ( aU (decide ((r1:Int)<65536)) ( some 3
) ( some 4
)
)
)
)
theorem Bh {a:Int} {r:Int} (h:ra a=some r):dO prog 133 [.int .i32 a] (zI r):=by
 unfold ra at h
 refine dO.intro func133 rfl ntmps133 (by simp) ?_
 intro w0 K
 refine aC (ac 1 rfl (az (cm (cy (aC (ac 1 rfl ?_))))))
 obtain⟨e,d,h⟩:=bj h
 refine dq (v:=.bool e) (vs:=[.int .i32 a]) rfl dc rfl rfl rfl wh (wy d) (ac 1 rfl (az ?_))
 refine bG rfl h (fun h=>?_) (fun h=>?_)
 ·
  refine aC (ac 1 rfl (az (bI (cE (bT ?_)))))
  cases h
  exact dk 2 l8
 refine aC (ac 1 rfl (aO rfl ei (ac 1 rfl (az ?_))))
 refine bG rfl h (fun h=>?_) (fun h=>?_)
 ·
  refine aC (ac 1 rfl (az (bI (cE (bT ?_)))))
  cases h
  exact dk 2 l8
 refine aC (ac 1 rfl (aO rfl ei (ac 1 rfl (az ?_))))
 refine bG rfl h (fun h=>?_) (fun h=>?_)
 ·
  refine aC (ac 1 rfl (az (bI (cE (bT ?_)))))
  cases h
  exact dk 2 l8
 refine aC (ac 1 rfl (aO rfl ei (ac 1 rfl (az ?_))))
 refine bG rfl h (fun h=>?_) (fun h=>?_)
 ·
  refine aC (ac 1 rfl (az (bI (cE (bT ?_)))))
  cases h
  exact dk 2 l8
 refine bH (cw (cz (aC (ac 1 rfl (az (bI ?_))))))
 cases h
 exact dk 2 l8
def zbN (j2:Int→(List Int)→Option ab) (ag1:Int→(List Int)→Int→Option ab) (r8:Int) (b5:List Int) (i3:Int):Option ab := aU (decide ((0:Int)<i3)) ( aY (fN (128+(lH r8 64))) <| aX (zcy b5 i3) fun (q1:Int)=> aY (fN (pV r8 64)) <| aY (cR (i3 - 1)) <| ag1 (pV r8 64) (b5.set (i3:Int).toNat (IntKind.u8.wrap (128+(lH r8 64)))) (i3 - 1)
) ( j2 r8 b5
)
def qp (r1:Int):Option ab := cJ (fun (j1:Int→Option ab)=> aX (qZ r1) fun (r3:Bool)=> aU (r3) ( j1 65533
) ( j1 r1
)
) (fun (r2:Int)=> aX (ra r2) fun (r4:Int)=> aU ((r4:Int)==1) ( aY (∀x∈([IntKind.u8.wrap r2]:List Int),U8 x) <| some (jA ([IntKind.u8.wrap r2]:List Int))
) ( cJ (fun (j2:Int→(List Int)→Option ab)=> aY (0≤r4∧r4≤2147483648) <| aY (cR (r4 - 1)) <| zaI (fun _ _ _=>none) (zbN j2) zbH r2 (bA (r4:Int).toNat 0:List Int) (r4 - 1)
) (fun (r5:Int) (b2:List Int)=> aY (cR (8 - r4)) <| aY (0≤(8 - r4)) <| aY (cR (256 - (kS .i64 1 (8 - r4)))) <| aY (cR r5) <| aY (cR ((256 - (kS .i64 1 (8 - r4)))+r5)) <| aX (zcy b2 0) fun (q2:Int)=> aY (∀x∈b2.set (0:Int).toNat (IntKind.u8.wrap ((256 - (kS .i64 1 (8 - r4)))+r5)),U8 x) <| some (jA (b2.set (0:Int).toNat (IntKind.u8.wrap ((256 - (kS .i64 1 (8 - r4)))+r5))))
)
)
)
theorem yF {w:Int} {r:ab} (h:qp w=some r):dO prog 84 [.int .i32 w] (.string r):=by
 unfold qp at h
 refine dO.intro func84 rfl ntmps84 (by simp) ?_
 intro w0 K
 obtain⟨j1,M,h⟩:=cP h
 refine c8 (β:=Int) 1 rfl (fun b=>j1 b=some r) (fun b=>[]) (fun b=>[(0,.int .i32 b)]) (fun b=>[]) (fun cut=>?_) ?_
 ·
  refine aC (ac 1 rfl (az (cut (aC (ac 1 rfl ?_)))))
  obtain⟨r3,I,h⟩:=bj h
  refine dq (v:=.bool r3) (vs:=[.int .i32 w]) rfl dc rfl rfl rfl wh (wy I) (az ?_)
  refine bG rfl h (fun h=>?_) (fun h=>?_)
  ·
   refine ct (ac 1 rfl (bU ?_))
   exact bx 65533 h rfl (aT rfl) ad
  refine bH ?_
  exact bx w h rfl (aT rfl) ad
 rintro u h
 rw[M] at h
 refine aC (ac 1 rfl ?_)
 obtain⟨a,H,h⟩:=bj h
 refine dq (v:=zI a) (vs:=[.int .i32 u]) rfl dc rfl rfl rfl AO (Bh H) (ac 1 rfl (az (cm (aC (ac 1 rfl (aO rfl eE (az ?_)))))))
 refine bG rfl h (fun h=>?_) (fun h=>?_)
 ·
  refine aC (ac 1 rfl (jr rfl dc rfl (rJ bg dy) ?_))
  refine gl (cs:=[.int .u8 (IntKind.u8.wrap u)]) (te:=5) (ps:=[(0,.tmp 13)]) rfl dc rfl (fun _=>by kernel_rfl) (fun b1=>?_)
  refine mS ([IntKind.u8.wrap u]:List Int) (k:=0) rfl jh rfl (show 1≤maxLen by decide) ?_
  obtain⟨aw,h⟩:=bC h
  refine rD (k:=0) rfl (tS aw) ?_
  refine p5 (k:=0) rfl dc rfl rfl de dy an (ac 1 rfl (az (bI (bT ?_))))
  cases h
  exact dk 2 results84
 refine bH (cz ?_)
 obtain⟨D,J,h⟩:=cP h
 refine c8 (β:=Int×(List Int)×Value) 1 rfl (fun b=>D b.1 b.2.1=some r) (fun b=>[]) (fun b=>[(0,.int .i32 b.1),(3,zI a),(4,b.2.2)]) (fun b=>[vec (kn (.u8)) 5 1 b.2.2 b.2.1]) (fun cut=>?_) ?_
 ·
  refine aC (ac 1 rfl ?_)
  obtain⟨ao,h⟩:=bC h
  refine DZ (z:=0) de J1 J0 jh rfl dc rfl ao (fun E=>?_)
  refine ac 1 rfl (az (cut (aC (ac 1 rfl ?_))))
  obtain⟨Z,h⟩:=bC h
  refine aO rfl (mD (r:=a - 1) (ai _ Z)) (ac 1 rfl (az (cy ?_)))
  refine fh (β:=Nat×Int×(List Int)×Int) (fun b=>zaI (fun _ _ _=>none) (zbN D) b.1 b.2.1 b.2.2.1 b.2.2.2=some r) (fun b=>[]) (fun b=>[(0,.int .i32 b.2.1),(3,zI a),(4,E),(5,zI b.2.2.2)]) (fun b=>[vec (kn (.u8)) 5 1 E b.2.2.1]) (fun b=>b.1) (zbH,u,(bA (a:Int).toNat 0:List Int),a - 1) h rfl (aT rfl) (aH [0] kr rfl) ?_
  rintro⟨C,e,b5,g⟩ h
  cases C with
  | zero=>exact fa h
  | succ C=>
   obtain⟨a0,d⟩:∃ag,ag=zaI (fun _ _ _=>none) (zbN D) C:=⟨_,rfl⟩
   have h:zbN D a0 e b5 g=some r:=by rw[d];exact h
   unfold zbN at h
   refine cm (aC (ac 1 rfl (aO rfl lK (az ?_))))
   refine bG rfl h (fun h=>?_) (fun h=>?_)
   ·
    refine bH (cz (cm (cy (aC (ac 3 rfl (aO rfl (Ja dc rfl) ?_))))))
    obtain⟨Y,h⟩:=bC h
    refine aO rfl (dN (r:=128+(lH e 64)) (eb _ Y)) (jr rfl dc rfl (rJ bg dy) ?_)
    obtain⟨q1,m,h⟩:=bj h
    refine fO (k:=0) m de yf rfl dc rfl rfl rfl rfl ?_
    refine p4 (i:=(g:Int).toNat) (j:=0) (k:=0) (q:=q1) (q':=IntKind.u8.wrap (128+(lH e 64))) yf jh rfl rfl rfl rfl (fb m) rfl dc rfl (fun _ _=>rfl) ?_
    refine az (ct (ac 1 rfl ?_))
    obtain⟨W,h⟩:=bC h
    refine aO rfl (I9 dc (eb _ W)) (ac 1 rfl (bU (cw (cz (ct (ac 1 rfl ?_))))))
    obtain⟨V,h⟩:=bC h
    refine aO rfl (mD (r:=g - 1) (ai _ V)) (ac 1 rfl (bU ?_))
    subst d
    exact ff (C,pV e 64,b5.set (g:Int).toNat (IntKind.u8.wrap (128+(lH e 64))),g - 1) h (av _) rfl (aT rfl) (aH [0] kr rfl)
   refine dZ (cA (cA (ed ?_)))
   exact bx (e,b5,E) h rfl (aT rfl) (aH [0] kr rfl)
 rintro⟨G,b2,v1⟩ h
 rw[J] at h
 refine aC (ac 2 rfl ?_)
 obtain⟨U,h⟩:=bC h
 refine aO rfl (mD (r:=8 - a) (ai _ U)) ?_
 obtain⟨T,h⟩:=bC h
 refine aO rfl (DT T) ?_
 obtain⟨O,h⟩:=bC h
 refine aO rfl (mD (r:=256 - (kS .i64 1 (8 - a))) (ai _ O)) (ac 1 rfl ?_)
 obtain⟨t,h⟩:=bC h
 refine jr rfl dc rfl (vF (r:=G) bg underlying3 (ai _ t)) ?_
 obtain⟨s,h⟩:=bC h
 refine aO rfl (dN (r:=(256 - (kS .i64 1 (8 - a)))+G) (ai _ s)) (jr rfl dc rfl (rJ underlying3 dy) ?_)
 obtain⟨q2,l,h⟩:=bj h
 refine fO (k:=0) l de yf rfl dc rfl rfl rfl rfl ?_
 refine p4 (i:=(0:Int).toNat) (j:=0) (k:=0) (q:=q2) (q':=IntKind.u8.wrap ((256 - (kS .i64 1 (8 - a)))+G)) yf jh rfl rfl rfl rfl (fb l) rfl dc rfl (fun _ _=>rfl) ?_
 refine cv (ac 1 rfl ?_)
 obtain⟨n,h⟩:=bC h
 refine rD (k:=0) rfl (tS n) ?_
 refine p5 (k:=0) rfl dc rfl rfl de dy an (ac 1 rfl (az (bI ?_)))
 cases h
 exact dk 2 results84
def zee (s1:ab) (at1:Int) (n3:Int) (j4:Int→Option (Int×Int)) (ag2:Int→Int→Option (Int×Int)) (r5:Int) (i3:Int):Option (Int×Int) := aU (decide ((i3:Int)<n3)) ( aY (fN (r5*64)) <| aY (cR (at1+i3)) <| aX (kR s1 (at1+i3)) fun (c2:Int)=> aY (fN c2) <| aY (fN ((r5*64)+c2)) <| aY (fN (((r5*64)+c2) - 128)) <| aY (cR (i3+1)) <| ag2 (((r5*64)+c2) - 128) (i3+1)
) ( j4 r5
)
def zdP (s1:ab) (at1:Int) (j1:Option (Int×Int)) (ag1:Int→Option (Int×Int)) (n3:Int):Option (Int×Int) := aU (decide ((n3:Int)≤4)) ( aY (cR (at1+n3)) <| aU (decide (((at1+n3):Int)≤(s1.size:Int))) ( cJ (fun (j2:Option (Int×Int))=> cJ (fun (j3:Int→Option (Int×Int))=> aX (kR s1 at1) fun (c1:Int)=> aY (fN c1) <| aU (decide ((1:Int)<n3)) ( aY (cR (8 - n3)) <| aY (0≤(8 - n3)) <| aY (fN (256 - (kS .i32 1 (8 - n3)))) <| aY (fN (c1 - (256 - (kS .i32 1 (8 - n3))))) <| j3 (c1 - (256 - (kS .i32 1 (8 - n3))))
) ( j3 c1
)
) (fun (r1:Int)=> cJ (fun (j4:Int→Option (Int×Int))=> zaI (fun _ _=>none) (zee s1 at1 n3 j4) zbH r1 1
) (fun (r2:Int)=> aX (qZ r2) fun (r6:Bool)=> aU (!r6) ( aX (ra r2) fun (r7:Int)=> aU ((r7:Int)==n3) ( aX (qp r2) fun (r8:ab)=> aY (cR (at1+n3)) <| aY (0≤(at1:Int)∧(at1:Int)≤(at1+n3)∧(at1+n3:Int)≤(s1.size:Int)) <| aU (decide (r8=c7 s1 at1 (at1+n3))) ( some (r2,n3)
) ( j2
)
) ( j2
)
) ( j2
)
)
)
) ( aY (cR (n3+1)) <| ag1 (n3+1)
)
) ( j1
)
) ( j1
)
def wz (s1:ab) (at1:Int):Option (Int×Int) := cJ (fun (j1:Option (Int×Int))=> zaI (fun _=>none) (zdP s1 at1 j1) zbH 1
) ( some (0,0)
)
theorem M2 {g:ab} {a:Int} {r:(Int×Int)} (h:wz g a=some r):dO prog 160 [.string g,zI a] (.tuple #[.int .i32 r.1,zI r.2]):=by
 unfold wz at h
 refine dO.intro func160 rfl ntmps160 (by simp) ?_
 intro w0 K
 obtain⟨j1,a4,h⟩:=cP h
 refine c8 (β:=Unit) 1 rfl (fun b=>j1=some r) (fun b=>[]) (fun b=>[]) (fun b=>[]) (fun cut=>?_) ?_
 ·
  refine aC (ac 2 rfl (az (cut (aC (ac 1 rfl (az (cy ?_)))))))
  refine fh (β:=Nat×Int) (fun b=>zaI (fun _=>none) (zdP g a j1) b.1 b.2=some r) (fun b=>[]) (fun b=>[(0,.string g),(1,zI a),(6,zI b.2)]) (fun b=>[]) (fun b=>b.1) (zbH,1) h rfl (aT rfl) ad ?_
  rintro⟨Y,e⟩ h
  cases Y with
  | zero=>exact fa h
  | succ Y=>
   obtain⟨b1,C⟩:∃ag,ag=zaI (fun _=>none) (zdP g a j1) Y:=⟨_,rfl⟩
   have h:zdP g a j1 b1 e=some r:=by rw[C];exact h
   unfold zdP at h
   refine cm (aC (ac 1 rfl (aO rfl ia (ac 1 rfl ?_))))
   refine dG (s:=11) rfl h (fun h=>?_) (fun h=>?_)
   ·
    refine ac 2 rfl ?_
    obtain⟨bs,h⟩:=bC h
    refine aO rfl (dN (r:=a+e) (ai _ bs)) (ac 1 rfl (ly rfl dc rfl an (aO rfl ia (ac 1 rfl (az ?_)))))
    refine bG rfl h (fun h=>?_) (fun h=>?_)
    ·
     refine bH (cz ?_)
     obtain⟨j2,a3,h⟩:=cP h
     refine c8 (β:=Unit) 0 rfl (fun b=>j2=some r) (fun b=>[]) (fun b=>[(0,.string g),(1,zI a),(6,zI e),(12,zI a),(13,zI e),(14,zI (a+e)),(15,.string g),(16,zI (g.size:Int)),(17,.bool (decide (((a+e):Int)≤(g.size:Int))))]) (fun b=>[]) (fun cut=>?_) ?_
     ·
      refine cut (cy ?_)
      obtain⟨j3,a2,h⟩:=cP h
      refine c8 (β:=Int) 1 rfl (fun b=>j3 b=some r) (fun b=>[]) (fun b=>[(0,.string g),(1,zI a),(6,zI e),(7,.int .i32 b),(12,zI a),(13,zI e),(14,zI (a+e)),(15,.string g),(16,zI (g.size:Int)),(17,.bool (decide (((a+e):Int)≤(g.size:Int))))]) (fun b=>[]) (fun cut=>?_) ?_
      ·
       refine aC (ac 2 rfl ?_)
       obtain⟨c1,a0,h⟩:=bj h
       refine ny rfl dc rfl rfl (p6 an a0) ?_
       obtain⟨bk,h⟩:=bC h
       refine jr rfl dc rfl (vF (r:=c1) dy bg (eb _ bk)) (ac 1 rfl (az (cut (aC (ac 1 rfl (aO rfl lK (az ?_)))))))
       refine bG rfl h (fun h=>?_) (fun h=>?_)
       ·
        refine ct (ac 2 rfl ?_)
        obtain⟨bh,h⟩:=bC h
        refine aO rfl (mD (r:=8 - e) (ai _ bh)) ?_
        obtain⟨bb,h⟩:=bC h
        refine aO rfl (DT bb) ?_
        obtain⟨a9,h⟩:=bC h
        refine aO rfl (mD (r:=256 - (kS .i32 1 (8 - e))) (eb _ a9)) ?_
        obtain⟨a8,h⟩:=bC h
        refine aO rfl (mD (r:=c1 - (256 - (kS .i32 1 (8 - e)))) (eb _ a8)) (ac 1 rfl (bU ?_))
        exact bx (c1 - (256 - (kS .i32 1 (8 - e)))) h rfl (aT rfl) ad
       refine bH ?_
       exact bx c1 h rfl (aT rfl) ad
      rintro r1 h
      rw[a2] at h
      obtain⟨Z,a1,h⟩:=cP h
      refine c8 (β:=Int) 0 rfl (fun b=>Z b=some r) (fun b=>[]) (fun b=>[(0,.string g),(1,zI a),(6,zI e),(7,.int .i32 b),(12,zI a),(13,zI e),(14,zI (a+e)),(15,.string g),(16,zI (g.size:Int)),(17,.bool (decide (((a+e):Int)≤(g.size:Int))))]) (fun b=>[]) (fun cut=>?_) ?_
      ·
       refine cut (aC (ac 1 rfl (az (cy ?_))))
       refine fh (β:=Nat×Int×Int) (fun b=>zaI (fun _ _=>none) (zee g a e Z) b.1 b.2.1 b.2.2=some r) (fun b=>[]) (fun b=>[(0,.string g),(1,zI a),(6,zI e),(7,.int .i32 b.2.1),(8,zI b.2.2),(12,zI a),(13,zI e),(14,zI (a+e)),(15,.string g),(16,zI (g.size:Int)),(17,.bool (decide (((a+e):Int)≤(g.size:Int))))]) (fun b=>[]) (fun b=>b.1) (zbH,r1,1) h rfl (aT rfl) ad ?_
       rintro⟨W,H,i3⟩ h
       cases W with
       | zero=>exact fa h
       | succ W=>
        obtain⟨b0,w⟩:∃ag,ag=zaI (fun _ _=>none) (zee g a e Z) W:=⟨_,rfl⟩
        have h:zee g a e Z b0 H i3=some r:=by rw[w];exact h
        unfold zee at h
        refine cm (aC (ac 2 rfl (aO rfl ei (az ?_))))
        refine bG rfl h (fun h=>?_) (fun h=>?_)
        ·
         refine bH (cz (cm (cy (ct (ac 1 rfl ?_)))))
         obtain⟨a7,h⟩:=bC h
         refine aO rfl (I7 (r:=H*64) (eb _ a7)) (ac 3 rfl ?_)
         obtain⟨a6,h⟩:=bC h
         refine aO rfl (dN (r:=a+i3) (ai _ a6)) ?_
         obtain⟨c2,aw,h⟩:=bj h
         refine ny rfl dc rfl rfl (p6 an aw) ?_
         obtain⟨a5,h⟩:=bC h
         refine jr rfl dc rfl (vF (r:=c2) dy bg (eb _ a5)) ?_
         obtain⟨V,h⟩:=bC h
         refine aO rfl (dN (r:=(H*64)+c2) (eb _ V)) ?_
         obtain⟨U,h⟩:=bC h
         refine aO rfl (mD (r:=((H*64)+c2) - 128) (eb _ U)) (ac 1 rfl (bU (cw (cz (ct (ac 1 rfl ?_))))))
         obtain⟨T,h⟩:=bC h
         refine aO rfl (dN (r:=i3+1) (ai _ T)) (ac 1 rfl (bU ?_))
         subst w
         exact ff (W,((H*64)+c2) - 128,i3+1) h (av _) rfl (aT rfl) ad
        refine dZ (cA (cA (ed ?_)))
        exact bx H h rfl (aT rfl) ad
      rintro l h
      rw[a1] at h
      refine cm ?_
      obtain⟨t,G,h⟩:=bj h
      refine rI (b:=!t) (fun k=>?_) (fun k=>?_)
      ·
       have h:=ng k h
       obtain⟨E,I,h⟩:=bj h
       refine rI (b:=(E:Int)==e) (fun m=>?_) (fun m=>?_)
       ·
        have h:=ng m h
        obtain⟨r8,ao,h⟩:=bj h
        obtain⟨O,h⟩:=bC h
        obtain⟨M,h⟩:=bC h
        refine jc 18 [(0,48,.int .i32 l),(1,49,.bool t),(2,50,.bool true),(3,51,.bool true),(4,52,.int .i32 l),(5,53,zI E),(6,54,zI e),(7,55,.bool true),(8,56,.bool true),(9,57,.bool true),(10,58,.int .i32 l),(11,59,.string r8),(12,60,.string g),(13,61,zI a),(14,62,zI a),(15,63,zI e),(16,64,zI (a+e)),(17,65,.string (c7 g a (a+e)))] mixed kr kr dc (by rfl) kr kr (gY 1 0 rfl (bR ?_ (bR ?_ (gY 2 3 rfl (bR ?_ (gY 1 6 rfl (bR ?_ (gY 3 8 rfl (bR ?_ (gY 4 12 rfl (bR ?_ (bR ?_ bK)))))))))))) ?_
        · exact fun D n d c u i=>dq (v:=.bool t) (vs:=[.int .i32 l]) rfl dc rfl (cY (bq 0 u d) eB) rfl wh (wy G) (bm 1 u i)
        · exact fun D n d c u i=>jq rfl dc (bq 1 u d) js (ni (show am (!t)=am true from aL am k) (bm 2 u i))
        · exact fun D n d c u i=>dq (v:=zI E) (vs:=[.int .i32 l]) (jb rfl (bq 3 u d)) dc rfl (cY (bq 4 u d) eB) rfl AO (Bh I) (bm 5 u i)
        · exact fun D n d c u i=>kl (jb rfl (bq 3 u d)) dc (bq 5 u d) (bq 6 u d) eE (ni (show am ((E:Int)==e)=am true from aL am m) (bm 7 u i))
        · exact fun D n d c u i=>dq (v:=.string r8) (vs:=[.int .i32 l]) (jb rfl (bq 9 u d)) dc rfl (cY (bq 10 u d) eB) rfl yp (yF ao) (bm 11 u i)
        · exact fun D n d c u i=>kl (jb rfl (bq 9 u d)) dc (bq 14 u d) (bq 15 u d) (dN (r:=a+e) (ai _ O)) (bm 16 u i)
        · exact fun D n d c u i=>iz (jb rfl (bq 9 u d)) dc (bq 12 u d) (evO.some (bq 13 u d)) (evO.some (bq 16 u d)) (jZ (i:=a) (j:=a+e) an (.inr rfl) (.inr rfl) M) (bm 17 u i)
        refine aO rfl lf (ac 1 rfl (az ?_))
        refine bG rfl h (fun h=>?_) (fun h=>?_)
        ·
         refine aC (ac 4 rfl (az (bI (cE (bT (bT (cE (bT ?_))))))))
         cases h
         exact eO (rs:=[.tmp 4,.tmp 5]) () (.inl rfl) results160 (.cons (.tmp rfl) (.cons (.tmp rfl) .nil)) rfl ad
        refine bH (cw ?_)
        exact bx () h rfl (aT rfl) ad
       have h:=nh m h
       refine jc 18 [(0,48,.int .i32 l),(1,49,.bool t),(2,50,.bool true),(3,51,.bool true),(4,52,.int .i32 l),(5,53,zI E),(6,54,zI e),(7,55,.bool false),(8,56,.bool false),(9,57,.bool false),(10,58,undef),(11,59,undef),(12,60,undef),(13,61,undef),(14,62,undef),(15,63,undef),(16,64,undef),(17,65,undef)] mixed kr kr dc (by rfl) kr kr (gY 1 0 rfl (bR ?_ (bR ?_ (gY 2 3 rfl (bR ?_ (gY 1 6 rfl (bR ?_ (gY 10 8 rfl bK)))))))) ?_
       · exact fun D n d c u i=>dq (v:=.bool t) (vs:=[.int .i32 l]) rfl dc rfl (cY (bq 0 u d) eB) rfl wh (wy G) (bm 1 u i)
       · exact fun D n d c u i=>jq rfl dc (bq 1 u d) js (ni (show am (!t)=am true from aL am k) (bm 2 u i))
       · exact fun D n d c u i=>dq (v:=zI E) (vs:=[.int .i32 l]) (jb rfl (bq 3 u d)) dc rfl (cY (bq 4 u d) eB) rfl AO (Bh I) (bm 5 u i)
       · exact fun D n d c u i=>kl (jb rfl (bq 3 u d)) dc (bq 5 u d) (bq 6 u d) eE (ni (show am ((E:Int)==e)=am false from aL am m) (bm 7 u i))
       refine ac 2 rfl (az (eQ rfl (bH (cw ?_))))
       exact bx () h rfl (aT rfl) ad
      have h:=nh k h
      refine jc 18 [(0,48,.int .i32 l),(1,49,.bool t),(2,50,.bool false),(3,51,.bool false),(4,52,undef),(5,53,undef),(6,54,undef),(7,55,undef),(8,56,.bool false),(9,57,.bool false),(10,58,undef),(11,59,undef),(12,60,undef),(13,61,undef),(14,62,undef),(15,63,undef),(16,64,undef),(17,65,undef)] mixed kr kr dc (by rfl) kr kr (gY 1 0 rfl (bR ?_ (bR ?_ (gY 15 3 rfl bK)))) ?_
      · exact fun D n d c u i=>dq (v:=.bool t) (vs:=[.int .i32 l]) rfl dc rfl (cY (bq 0 u d) eB) rfl wh (wy G) (bm 1 u i)
      · exact fun D n d c u i=>jq rfl dc (bq 1 u d) js (ni (show am (!t)=am false from aL am k) (bm 2 u i))
      refine ac 2 rfl (az (eQ rfl (bH (cw ?_))))
      exact bx () h rfl (aT rfl) ad
     rintro _ h
     rw[a3] at h
     refine ct (ac 1 rfl ?_)
     obtain⟨J,h⟩:=bC h
     refine aO rfl (dN (r:=e+1) (ai _ J)) (ac 1 rfl (bU ?_))
     subst C
     exact ff (Y,e+1) h (av _) rfl (aT rfl) ad
    refine dZ (cA (cA (ed ?_)))
    exact bx () h rfl (qG) ad
   refine ac 7 rfl (az (eQ rfl (dZ (cA (cA (ed ?_))))))
   exact bx () h rfl (qG) ad
 rintro _ h
 rw[a4] at h
 refine aC (ac 2 rfl (az (bI ?_)))
 cases h
 exact eO (rs:=[.tmp 4,.tmp 5]) () (.inl rfl) results160 (.cons (.tmp rfl) (.cons (.tmp rfl) .nil)) rfl ad
def wA (s1:ab) (at1:Int):Option cX := aX (wz s1 at1) fun (r1:(Int×Int))=> aU (decide ((0:Int)<r1.2)) ( some (⟨at1,r1.2,r1.1,false⟩:cX)
) ( some (⟨at1,1,65533,true⟩:cX)
)
theorem M3 {e:ab} {a:Int} {r:cX} (h:wA e a=some r):dO prog 131 [.string e,zI a] (.agg #[zI r.At,zI r.Width,.int .i32 r.Rune,.bool r.Broken]):=by
 unfold wA at h
 refine dO.intro func131 rfl ntmps131 (by simp) ?_
 intro w0 K
 refine aC ?_
 refine eN og rfl dc (fun b1=>?_)
 refine az (cm (aC (ac 2 rfl ?_)))
 obtain⟨d,g,h⟩:=bj h
 refine dq (v:=.tuple #[.int .i32 d.1,zI d.2]) (vs:=[.string e,zI a]) rfl dc rfl rfl rfl LP (M2 g) (ac 1 rfl (fS rfl dc rfl rfl (fS rfl dc rfl rfl (ac 2 rfl (cv (ac 1 rfl (aO rfl lK (az ?_))))))))
 refine bG rfl h (fun h=>?_) (fun h=>?_)
 ·
  refine aC (ac 3 rfl ?_)
  refine eU (v:=.agg #[zI a,zI d.2,.int .i32 d.1,.bool false]) (ps:=[(0,.tmp 15),(1,.tmp 16),(2,.tmp 17)]) rfl dc rfl (fun _=>by kernel_rfl) ?_
  refine eH (k:=0) (vs:=[zI a,zI d.2,.int .i32 d.1,.bool false]) (l':=[zI a,zI d.2,.int .i32 d.1,.bool false]) jP rfl rfl rfl rfl rfl (show _≤_ by simp) rfl rfl ?_
  refine az (bI (bT ?_))
  cases h
  exact eO (rs:=[.cell 4 132]) () (.inl rfl) results131 (.cons (.cells kW (k:=0) rfl rfl rfl) .nil) rfl ad
 refine bH (cz (aC (ac 1 rfl ?_)))
 refine eU (v:=.agg #[zI a,zI 1,.int .i32 65533,.bool true]) (ps:=[(0,.tmp 19),(1,.const (zI 1)),(2,.const (.int .i32 65533)),(3,.const (.bool true))]) rfl dc rfl (fun _=>by kernel_rfl) ?_
 refine eH (k:=0) (vs:=[zI a,zI 1,.int .i32 65533,.bool true]) (l':=[zI a,zI 1,.int .i32 65533,.bool true]) jP rfl rfl rfl rfl rfl (show _≤_ by simp) rfl rfl ?_
 refine az (bI ?_)
 cases h
 exact eO (rs:=[.cell 4 132]) () (.inl rfl) results131 (.cons (.cells kW (k:=0) rfl rfl rfl) .nil) rfl ad
def zdW (s1:ab) (j1:(List cX)→Option (List cX)) (ag1:(List cX)→Int→Option (List cX)) (l4:List cX) (at3:Int):Option (List cX) := aU (decide ((at3:Int)<(s1.size:Int))) ( aX (wA s1 at3) fun (r1:cX)=> aY (l4.length+1≤2147483648) <| aY (cR (at3+r1.Width)) <| ag1 (l4++[r1]) (at3+r1.Width)
) ( j1 l4
)
def wB (s1:ab):Option (List cX) := cJ (fun (j1:(List cX)→Option (List cX))=> zaI (fun _ _=>none) (zdW s1 j1) zbH ([]:List cX) 0
) (fun (l1:List cX)=> some l1
)
theorem M4 {i:ab} {r:(List cX)} (h:wB i=some r):Fn prog 79 [.string i] [] (fun v0:Value=>v0) (fun v0=>[om v0 r]):=by
 unfold wB at h
 refine _root_.Go.Proofs.YtifpjbgnikjglaaGreatDoor.Fn.intro func79 rfl ntmps79 (by simp) ?_
 intro w0 K
 obtain⟨l,s,h⟩:=cP h
 refine c8 (β:=(List cX)×Value) 2 rfl (fun b=>l b.1=some r) (fun b=>[]) (fun b=>[(3,b.2)]) (fun b=>[om b.2 b.1]) (fun cut=>?_) ?_
 ·
  refine aC (ac 1 rfl (cv (ac 1 rfl (az (cut (aC (ac 1 rfl ?_)))))))
  refine az (cy (nf (enc:=nC) (e:=132) (size:=4) ?_))
  refine fh (β:=Nat×(List cX)×Int×Value) (fun b=>zaI (fun _ _=>none) (zdW i l) b.1 b.2.1 b.2.2.1=some r) (fun b=>[]) (fun b=>[(0,.string i),(3,b.2.2.2),(4,zI b.2.2.1)]) (fun b=>[om b.2.2.2 b.2.1]) (fun b=>b.1) (zbH,([]:List cX),0,(.slice none 0 0)) h rfl (aT rfl) (aH [0] kr rfl) ?_
  rintro⟨j,m,d,D⟩ h
  cases j with
  | zero=>exact fa h
  | succ j=>
   obtain⟨w,g⟩:∃ag,ag=zaI (fun _ _=>none) (zdW i l) j:=⟨_,rfl⟩
   have h:zdW i l w m d=some r:=by rw[g];exact h
   unfold zdW at h
   refine cm (aC (ac 2 rfl (ly rfl dc rfl an (aO rfl ei (az ?_)))))
   refine bG rfl h (fun h=>?_) (fun h=>?_)
   ·
    refine bH (cz (cy (aC (ac 2 rfl ?_))))
    obtain⟨a,n,h⟩:=bj h
    refine dq (v:=.agg #[zI a.At,zI a.Width,.int .i32 a.Rune,.bool a.Broken]) (vs:=[.string i,zI d]) rfl dc rfl rfl rfl LC (M3 n) ?_
    refine eN og rfl dc (fun b1=>?_)
    refine eH (k:=1) (vs:=[zI a.At,zI a.Width,.int .i32 a.Rune,.bool a.Broken]) (l':=[zI a.At,zI a.Width,.int .i32 a.Rune,.bool a.Broken]) jP rfl rfl rfl rfl rfl (show _≤_ by simp) rfl rfl ?_
    refine cv (ac 1 rfl (gM (k:=1) (cs:=[zI a.At,zI a.Width,.int .i32 a.Rune,.bool a.Broken]) kW rfl dc rfl rfl rfl rfl ?_))
    refine gl (cs:=[zI a.At,zI a.Width,.int .i32 a.Rune,.bool a.Broken]) (te:=132) (ps:=[(0,.tmp 14)]) rfl dc rfl (fun _=>by kernel_rfl) (fun H=>?_)
    obtain⟨u,h⟩:=bC h
    refine iT (k:=0) (k2:=2) (ys:=[a]) cG EW yu Fz rfl dc rfl rfl rfl rfl rfl rfl u (fun C=>?_)
    refine ac 1 rfl (az (ct (ac 1 rfl (cf pw rfl dc rfl (show _=1 from rfl) (bF (k:=1) dQ rfl dc rfl rfl rfl ?_)))))
    obtain⟨t,h⟩:=bC h
    refine aO rfl (dN (r:=d+a.Width) (ai _ t)) (ac 1 rfl (bU (cw ?_)))
    subst g
    exact ff (j,m++[a],d+a.Width,C) h (av _) rfl (aT rfl) (aH [0] kr rfl)
   refine dZ (cA (cA (ed ?_)))
   exact bx (m,D) h rfl (aT rfl) (aH [0] kr rfl)
 rintro⟨G,E⟩ h
 rw[s] at h
 refine aC (ac 2 rfl (az (bI ?_)))
 cases h
 exact eO (rs:=[.tmp 2]) E (.inl rfl) results79 (.cons (.tmp rfl) .nil) rfl (aH [0] kr rfl)
def Bi (s1:ab) (p1:cX):Option ab := aY (cR (p1.At+p1.Width)) <| aY (0≤(p1.At:Int)∧(p1.At:Int)≤(p1.At+p1.Width)∧(p1.At+p1.Width:Int)≤(s1.size:Int)) <| some (c7 s1 p1.At (p1.At+p1.Width))
theorem F0 {e:ab} {p1:cX} {r:ab} (h:Bi e p1=some r):dO prog 80 [.string e,.agg #[zI p1.At,zI p1.Width,.int .i32 p1.Rune,.bool p1.Broken]] (.string r):=by
 unfold Bi at h
 refine dO.intro func80 rfl ntmps80 (by simp) ?_
 intro w0 K
 refine aC ?_
 refine jy rfl dc rfl (fun b1=>?_)
 refine ac 1 rfl (cv (ac 1 rfl (cf lh rfl dc rfl (show _=0 from rfl) (bF (k:=0) dQ rfl dc rfl rfl rfl (cf lh rfl dc rfl (show _=0 from rfl) (bF (k:=0) dQ rfl dc rfl rfl rfl (cf pw rfl dc rfl (show _=1 from rfl) (bF (k:=0) dQ rfl dc rfl rfl rfl ?_))))))))
 obtain⟨d,h⟩:=bC h
 refine aO rfl (dN (r:=p1.At+p1.Width) (ai _ d)) ?_
 obtain⟨a,h⟩:=bC h
 refine iz rfl dc rfl rfl rfl (jZ (i:=p1.At) (j:=p1.At+p1.Width) an (.inr rfl) (.inr rfl) a) (ac 1 rfl (az (bI ?_)))
 cases h
 exact dk 4 results80
section
variable {R S:Type} {c:Prop} [Decidable c] {o x z:Option R} {p:Option S} {f:S→Option R} {b:Bool} {y:Option R}
theorem zbx (h:c) (a:o=x):aY c o=x:=(Jg h).trans a
theorem bN {a:S} (h:p=some a) (hf:f a=x):aX p f=x:=(DP h).trans hf
theorem cu (a:b=true) (h:x=z):aU b x y=z:=(Jh a).trans h
theorem cr (a:b=false) (h:y=z):aU b x y=z:=(Ji a).trans h
theorem dv {T:Type} {t:T→Option R} {k:T} (h:t k=x):cJ t k=x:=h
theorem ic {T:Type} {bot:T} {step:T→T} {n:Nat}:zaI bot step (n+1)=step (zaI bot step n):=rfl
theorem F1 {q:Prop} [Decidable q]:aU (decide q) x y=if q then x else y:=by
 unfold aU;rw[Bool.cond_decide]
theorem uB (k:Nat) (h:k≤1000):∃n,zbH=n+k∧18446744073709550000≤n:=⟨18446744073709551616 - k,by unfold zbH;omega,by omega⟩
end
def vr (r:Int):Prop:=(0≤r∧r<55296)∨(57343<r∧r≤1114111)
instance (r:Int):Decidable (vr r):=by unfold vr;infer_instance
theorem Bj (r:Int):qZ r=some (!decide (vr r)):=by
 unfold qZ
 simp only[F1]
 by_cases h:vr r
 ·have h':=h
  unfold vr at h'
  rw[al h,ar (by omega),ar (by omega)]
  split
  ·rw[ae (by omega)];rfl
  ·rfl
 ·have h':=h
  unfold vr at h'
  rw[ae h]
  split
  ·rfl
  ·split
   ·rfl
   ·rw[ay (by omega),al (by omega)];rfl
def wd (r:Int):Int:=if vr r then (if r<128 then 1 else if r<2048 then 2 else if r<65536 then 3 else 4) else 0
theorem F2 (r:Int):ra r=some (wd r):=by
 unfold ra wd
 refine bN (Bj r) ?_
 by_cases h:vr r
 ·refine cr (by simp[h]) ?_
  rw[ay h]
  simp only[F1]
  split
  ·rfl
  ·split
   ·rfl
   ·split <;> rfl
 ·refine cu (by simp[h]) ?_
  rw[ar h]
theorem M5 (r:Int) (h:vr r):((encodeRune r).length:Int)=wd r:=by
 unfold wd;rw[ay h]
 unfold vr at h
 unfold encodeRune
 rw[aF]
 split
 ·rw[encodeRuneZ_one (by omega) (by omega)];rfl
 ·split
  ·rw[encodeRuneZ_two (by omega) (by omega)];rfl
  ·split
   ·rw[encodeRuneZ_three (by omega)];rfl
   ·rw[encodeRuneZ_four (by omega) (by omega)];rfl
theorem uC (x:Int) (h:0≤x∧x≤255):IntKind.u8.wrap x=x:=IntWalk.u8_in x h
theorem uD {j:Int→List Int→Option ab} {ag:Int→List Int→Int→Option ab} {r i:Int} {b:List Int} (h0:0≤r) (hr:r≤1114111) (hi:0<i) (e:i<b.length) (d:b.length≤4) :
  zbN j ag r b i=ag (r / 64) (b.set i.toNat (128+r % 64)) (i - 1):=by
 unfold zbN
 have e1:lH r 64=r % 64:=Int.tmod_eq_emod_of_nonneg h0
 have e2:pV r 64=r / 64:=Int.tdiv_eq_ediv_of_nonneg h0
 refine cu (al hi) (zbx ⟨by omega,by omega⟩ ?_)
 obtain⟨q,a⟩:∃q,zcy b i=some q:=⟨_,xQ (n:=i.toNat) (by omega) (aP (by omega))⟩
 refine bN a (zbx ⟨by omega,by omega⟩ (zbx ⟨by omega,by omega⟩ ?_))
 rw[e1,e2,uC _ (by omega)]
theorem Bk {j:Int→List Int→Option ab} {ag:Int→List Int→Int→Option ab} {r:Int} {b:List Int}:zbN j ag r b 0=j r b:=by
 unfold zbN;exact cr rfl rfl
theorem yG {l:List Int} {s:ab} (h:l.map (fun x=>UInt8.ofNat x.toNat)=s.data.toList):jA l=s:=by
 apply _root_.ByteArray.ext;unfold jA;simp[h]
theorem yH (r:Int) (hr:fN r):qp r=some (af r):=by
  have key:∀r,vr r→(aX (ra r) fun (d:Int)=>
      aU ((d:Int)==1) (aY (∀x∈([IntKind.u8.wrap r]:List Int),U8 x)<|some (jA ([IntKind.u8.wrap r]:List Int)))
      (cJ (fun (m:Int→(List Int)→Option ab)=>aY (0≤d∧d≤2147483648)<|aY (cR (d - 1))<|zaI (fun _ _ _=>none) (zbN m) zbH r (bA (d:Int).toNat 0) (d - 1))
       (fun (g:Int) (k:List Int)=>
        aY (cR (8 - d))<|aY (0≤(8 - d))<|aY (cR (256 - (kS .i64 1 (8 - d))))<|aY (cR g)<|aY (cR ((256 - (kS .i64 1 (8 - d)))+g)) <|
        aX (zcy k 0) fun (q2:Int)=>aY (∀x∈k.set (0:Int).toNat (IntKind.u8.wrap ((256 - (kS .i64 1 (8 - d)))+g)),U8 x) <|
        some (jA (k.set (0:Int).toNat (IntKind.u8.wrap ((256 - (kS .i64 1 (8 - d)))+g)))))))=some (af r):=by
    intro r hv
    have j:=hv
    unfold vr at hv
    refine bN (F2 r) ?_
    obtain⟨n,s,_⟩:=uB 5 (by omega)
    rw[s]
    unfold wd;rw[ay j]
    have i:encodeRune r=(encodeRuneZ r).map fun x=>x.toNat.toUInt8:=rfl
    by_cases h1:r<128
    · rw[ay h1]
      refine cu rfl (zbx ?_ ?_)
      · intro x hx
        simp only[List.mem_singleton] at hx
        subst hx;rw[uC _ (by omega)];exact⟨by omega,by omega⟩
      · congr 1
        refine yG ?_
        rw[o0,i,encodeRuneZ_one (by omega) (by omega),uC _ (by omega)] <;> rfl
    · rw[ar h1]
      by_cases h2:r<2048
      · rw[ay h2]
        refine cr rfl (dv (zbx (by omega) (zbx ⟨by omega,by omega⟩ ?_)))
        simp only[ic]
        show zbN _ _ r [0,0] 1=_
        rw[uD (by omega) (by omega) (by omega) (by decide) (by decide),show (1:Int) - 1=0 by rfl,Bk]
        have e:kS .i64 1 (8 - 2)=64:=by decide
        rw[e]
        refine zbx ⟨by omega,by omega⟩ (zbx (by omega) (zbx ⟨by omega,by omega⟩ (zbx ⟨by omega,by omega⟩ (zbx ⟨by omega,by omega⟩ (bN (a:=0) rfl ?_)))))
        rw[uC _ (by omega)]
        show aY (∀x∈[256 - 64+r / 64,128+r % 64],U8 x) (some (jA [256 - 64+r / 64,128+r % 64]))=_
        refine zbx (by intro x hx;simp only[bE,dX,or_false] at hx;rcases hx with rfl | rfl <;> exact⟨by omega,by omega⟩) ?_
        congr 1
        refine yG ?_
        rw[o0,i,encodeRuneZ_two (by omega) (by omega)] <;> rfl
      · rw[ar h2]
        by_cases l:r<65536
        · rw[ay l]
          refine cr rfl (dv (zbx (by omega) (zbx ⟨by omega,by omega⟩ ?_)))
          simp only[ic]
          show zbN _ _ r [0,0,0] 2=_
          rw[uD (by omega) (by omega) (by omega) (by decide) (by decide)]
          show zbN _ _ (r / 64) [0,0,128+r % 64] 1=_
          rw[uD (by omega) (by omega) (by omega) (by simp) (by simp),show (1:Int) - 1=0 by rfl,Bk]
          have e:kS .i64 1 (8 - 3)=32:=by decide
          rw[e]
          refine zbx ⟨by omega,by omega⟩ (zbx (by omega) (zbx ⟨by omega,by omega⟩ (zbx ⟨by omega,by omega⟩ (zbx ⟨by omega,by omega⟩ (bN (a:=0) rfl ?_)))))
          rw[uC _ (by omega)]
          show aY (∀x∈[256 - 32+r / 64 / 64,128+r / 64 % 64,128+r % 64],U8 x) (some (jA [256 - 32+r / 64 / 64,128+r / 64 % 64,128+r % 64]))=_
          refine zbx (by intro x hx;simp only[bE,dX,or_false] at hx;rcases hx with rfl | rfl | rfl <;> exact⟨by omega,by omega⟩) ?_
          congr 1
          refine yG ?_
          rw[o0,i,encodeRuneZ_three (by omega),show r / 64 / 64=r / 4096 by omega] <;> rfl
        · rw[ar l]
          refine cr rfl (dv (zbx (by omega) (zbx ⟨by omega,by omega⟩ ?_)))
          simp only[ic]
          show zbN _ _ r [0,0,0,0] 3=_
          rw[uD (by omega) (by omega) (by omega) (by decide) (by decide)]
          show zbN _ _ (r / 64) [0,0,0,128+r % 64] 2=_
          rw[uD (by omega) (by omega) (by omega) (by simp) (by simp)]
          show zbN _ _ (r / 64 / 64) [0,0,128+r / 64 % 64,128+r % 64] 1=_
          rw[uD (by omega) (by omega) (by omega) (by simp) (by simp),show (1:Int) - 1=0 by rfl,Bk]
          have e:kS .i64 1 (8 - 4)=16:=by decide
          rw[e]
          refine zbx ⟨by omega,by omega⟩ (zbx (by omega) (zbx ⟨by omega,by omega⟩ (zbx ⟨by omega,by omega⟩ (zbx ⟨by omega,by omega⟩ (bN (a:=0) rfl ?_)))))
          rw[uC _ (by omega)]
          show aY (∀x∈[256 - 16+r / 64 / 64 / 64,128+r / 64 / 64 % 64,128+r / 64 % 64,128+r % 64],U8 x) (some (jA [256 - 16+r / 64 / 64 / 64,128+r / 64 / 64 % 64,128+r / 64 % 64,128+r % 64]))=_
          refine zbx (by intro x hx;simp only[bE,dX,or_false] at hx;rcases hx with rfl | rfl | rfl | rfl <;> exact⟨by omega,by omega⟩) ?_
          congr 1
          refine yG ?_
          rw[o0,i,encodeRuneZ_four (by omega) (by omega),show r / 64 / 64 / 64=r / 262144 by omega,show r / 64 / 64 % 64=r / 4096 % 64 by omega] <;> rfl
  unfold qp
  refine dv (bN (Bj r) ?_)
  by_cases h:vr r
  · exact cr (by simp[h]) (key r h)
  · refine cu (by simp[h]) ((key 65533 (by decide)).trans ?_)
    congr 1
    unfold af
    rw[validRune_eq,validRune_eq]
    have e1:validRune r=false:=by unfold validRune;exact ae h
    rw[e1];rfl
section
variable {R X A B:Type} {xs:List X}
theorem lW {k:Nat} {x:X} (h:xs[k]?=some x):zcy xs (k:Int)=some x:=jz h
theorem mE {k:Nat} {x:X} (h:xs[k]?=some x):decide ((k:Int)<(xs.length:Int))=true:=al (by have:=(au.1 h).1;omega)
theorem mu:decide ((xs.length:Int)<(xs.length:Int))=false:=ae (by omega)
theorem jC {k:Nat} (h:k≤4611686018427387904):cR ((k:Int)+1):=⟨by omega,by omega⟩
theorem nD {k:Nat} {x:X} (h:xs[k]?=some x):k<xs.length:=(au.1 h).1
theorem qq {F:(A→Int→Option R)→A→Int→Option R} {bot:A→Int→Option R} {f:A→X→A} {J:A→Option R} (Inv:Nat→A→Prop)
  (e:∀ag k x a,xs[k]?=some x→Inv k a→F ag a (k:Int)=ag (f a x) ((k:Int)+1)) (i:∀k x a,xs[k]?=some x→Inv k a→Inv (k+1) (f a x))
  (he:∀ag a,Inv xs.length a→F ag a (xs.length:Int)=J a) {n:Nat} (g:xs.length<n) {a:A} (h0:Inv 0 a):zaI bot F n a 0=J (xs.foldl f a):=by
 have key:∀ (n k:Nat) (a:A),k≤xs.length→xs.length - k<n→Inv k a→zaI bot F n a (k:Int)=J ((xs.drop k).foldl f a):=by
  intro n
  induction n with
  | zero=>intro k a _ h;omega
  | succ n d=>
   intro k a hk g hi
   rw[ic]
   by_cases h:k<xs.length
   ·have hx:xs[k]?=some xs[k]:=aP h
    rw[e _ k _ a hx hi,bB h,bQ]
    exact d (k+1) _ (by omega) (by omega) (i k _ a hx hi)
   ·have:k=xs.length:=by omega
    subst this
    rw[he _ a hi,fQ];rfl
 have:=key n 0 a (cH _) (by omega) h0
 simpa using this
theorem M6 {F:(A→B→Int→Option R)→A→B→Int→Option R} {bot:A→B→Int→Option R} {f:A×B→X→A×B} {J:A→B→Option R} (Inv:Nat→A×B→Prop)
  (e:∀ag k x (a:A×B),xs[k]?=some x→Inv k a→F ag a.1 a.2 (k:Int)=ag (f a x).1 (f a x).2 ((k:Int)+1)) (i:∀k x a,xs[k]?=some x→Inv k a→Inv (k+1) (f a x))
  (he:∀ag (a:A×B),Inv xs.length a→F ag a.1 a.2 (xs.length:Int)=J a.1 a.2) {n:Nat} (g:xs.length<n) {a:A×B} (h0:Inv 0 a):zaI bot F n a.1 a.2 0=J (xs.foldl f a).1 (xs.foldl f a).2:=by
 have key:∀ (n k:Nat) (a:A×B),k≤xs.length→xs.length - k<n→Inv k a→zaI bot F n a.1 a.2 (k:Int)=J ((xs.drop k).foldl f a).1 ((xs.drop k).foldl f a).2:=by
  intro n
  induction n with
  | zero=>intro k a _ h;omega
  | succ n d=>
   intro k a hk g hi
   rw[ic]
   by_cases h:k<xs.length
   ·have hx:xs[k]?=some xs[k]:=aP h
    rw[e _ k _ a hx hi,bB h,bQ]
    exact d (k+1) _ (by omega) (by omega) (i k _ a hx hi)
   ·have:k=xs.length:=by omega
    subst this
    rw[he _ a hi,fQ];rfl
 have:=key n 0 a (cH _) (by omega) h0
 simpa using this
theorem wC {F:(Int→Option R)→Int→Option R} {bot:Int→Option R} {g:X→Option (Option R)} {J:Option R}
  (d:∀ (ag:Int→Option R) (k:Nat) (x:X),xs[k]?=some x→F ag (k:Int)=(g x).getD (ag ((k:Int)+1))) (he:∀ag,F ag (xs.length:Int)=J) {n:Nat} (e:xs.length<n):zaI bot F n 0=(xs.findSome? g).getD J:=by
 have key:∀ (n k:Nat),k≤xs.length→xs.length - k<n→zaI bot F n (k:Int)=((xs.drop k).findSome? g).getD J:=by
  intro n
  induction n with
  | zero=>intro k _ h;omega
  | succ n a=>
   intro k hk e
   rw[ic]
   by_cases h:k<xs.length
   ·have hx:xs[k]?=some xs[k]:=aP h
    rw[d _ k _ hx,bB h,da]
    have:=a (k+1) (by omega) (by omega)
    push_cast at this
    rw[this]
    cases g xs[k] <;> rfl
   ·have:k=xs.length:=by omega
    subst this
    rw[he,fQ];rfl
 have:=key n 0 (cH _) (by omega)
 simpa using this
end
theorem kZ {n:Nat} (h:n≤4611686018427387904):n<zbH:=by unfold zbH;omega
abbrev wD:ab:=⟨#[196,132,196,152,196,174,197,178,196,133,196,153,196,175,197,179]⟩
abbrev wE:ab:=⟨#[195,135,196,162,196,182,196,187,197,133,197,150,197,158,197,162,195,167,196,163,196,183,196,188,197,134,197,151,197,159,197,163]⟩
abbrev wF:ab:=⟨#[196,140,196,142,196,154,196,189,197,135,197,152,197,160,197,164,197,189,196,141,196,143,196,155,196,190,197,136,197,153,197,161,197,165,197,190]⟩
abbrev wG:ab:=⟨#[67,68,69,76,78,82,83,84,90,99,100,101,108,110,114,115,116,122]⟩
abbrev wH:ab:=⟨#[195,132,195,139,195,143,195,150,195,156,195,164,195,171,195,175,195,182,195,188,195,191,197,184,208,129,208,135,209,145,209,151,206,170,206,171,207,138,207,139]⟩
abbrev wI:ab:=⟨#[65,69,73,79,85,97,101,105,111,117,121,89,208,149,208,134,208,181,209,150,206,153,206,165,206,185,207,133]⟩
abbrev wJ:ab:=⟨#[196,138,196,150,196,160,196,176,197,187,196,139,196,151,196,161,197,188]⟩
abbrev wK:ab:=⟨#[196,130,196,148,196,158,196,172,197,142,197,172,196,131,196,149,196,159,196,173,197,143,197,173,208,153,208,142,208,185,209,158]⟩
abbrev wL:ab:=⟨#[65,69,71,73,79,85,97,101,103,105,111,117,208,152,208,163,208,184,209,131]⟩
abbrev wM:ab:=⟨#[196,128,196,146,196,170,197,140,197,170,196,129,196,147,196,171,197,141,197,171]⟩
abbrev wN:ab:=⟨#[195,131,195,145,195,149,195,163,195,177,195,181,196,168,197,168,196,169,197,169]⟩
abbrev wO:ab:=⟨#[195,130,195,138,195,142,195,148,195,155,195,162,195,170,195,174,195,180,195,187,196,136,196,156,196,164,196,180,197,156,197,180,197,182,196,137,196,157,196,165,196,181,197,157,197,181,197,183]⟩
abbrev wP:ab:=⟨#[65,69,73,79,85,97,101,105,111,117,67,71,72,74,83,87,89,99,103,104,106,115,119,121]⟩
abbrev wQ:ab:=⟨#[206,134,206,136,206,137,206,138,206,140,206,142,206,143,206,172,206,173,206,174,206,175,207,140,207,141,207,142,208,131,208,140,209,147,209,156,206,144,206,176]⟩
abbrev wR:ab:=⟨#[206,145,206,149,206,151,206,153,206,159,206,165,206,169,206,177,206,181,206,183,206,185,206,191,207,133,207,137,208,147,208,154,208,179,208,186,207,138,207,139]⟩
abbrev wS:ab:=⟨#[195,129,195,137,195,141,195,147,195,154,195,157,195,161,195,169,195,173,195,179,195,186,195,189,196,134,196,185,197,131,197,148,197,154,197,185,196,135,196,186,197,132,197,149,197,155,197,186]⟩
abbrev wT:ab:=⟨#[65,69,73,79,85,89,97,101,105,111,117,121,67,76,78,82,83,90,99,108,110,114,115,122]⟩
abbrev wU:ab:=⟨#[195,128,195,136,195,140,195,146,195,153,195,160,195,168,195,172,195,178,195,185,208,128,208,141,209,144,209,157]⟩
abbrev wV:ab:=⟨#[65,69,73,79,85,97,101,105,111,117,208,149,208,152,208,181,208,184]⟩
def uE  : Option (List gu) := some ([(⟨(⟨#[204,128]⟩:ab),wV,wU⟩:gu),(⟨(⟨#[204,129]⟩:ab),wT,wS⟩:gu),(⟨(⟨#[204,129]⟩:ab),wR,wQ⟩:gu),(⟨(⟨#[204,130]⟩:ab),wP,wO⟩:gu),(⟨(⟨#[204,131]⟩:ab),(⟨#[65,78,79,97,110,111,73,85,105,117]⟩:ab),wN⟩:gu),(⟨(⟨#[204,132]⟩:ab),(⟨#[65,69,73,79,85,97,101,105,111,117]⟩:ab),wM⟩:gu),(⟨(⟨#[204,134]⟩:ab),wL,wK⟩:gu),(⟨(⟨#[204,135]⟩:ab),(⟨#[67,69,71,73,90,99,101,103,122]⟩:ab),wJ⟩:gu),(⟨(⟨#[204,136]⟩:ab),wI,wH⟩:gu),(⟨(⟨#[204,138]⟩:ab),(⟨#[65,85,97,117]⟩:ab),(⟨#[195,133,197,174,195,165,197,175]⟩:ab)⟩:gu),(⟨(⟨#[204,139]⟩:ab),(⟨#[79,85,111,117]⟩:ab),(⟨#[197,144,197,176,197,145,197,177]⟩:ab)⟩:gu),(⟨(⟨#[204,140]⟩:ab),wG,wF⟩:gu),(⟨(⟨#[204,167]⟩:ab),(⟨#[67,71,75,76,78,82,83,84,99,103,107,108,110,114,115,116]⟩:ab),wE⟩:gu),(⟨(⟨#[204,168]⟩:ab),(⟨#[65,69,73,85,97,101,105,117]⟩:ab),wD⟩:gu)]:List gu)
theorem F3  {r:(List gu)} (h:uE=some r):Fn prog 83 [] [] (fun v0:Value=>v0) (fun v0=>[o9 v0 r]):=by
 unfold uE at h
 refine _root_.Go.Proofs.YtifpjbgnikjglaaGreatDoor.Fn.intro func83 rfl ntmps83 (by simp) ?_
 intro w0 K
 refine aC (ac 1 rfl (cv ?_))
 refine eU (v:=.agg #[.string (⟨#[204,128]⟩:ab),.string wV,.string wU]) (ps:=[(0,.const (.string (⟨#[204,128]⟩:ab))),(1,.const (.string wV)),(2,.const (.string wU))]) rfl dc rfl (fun _=>by kernel_rfl) ?_
 refine eU (v:=.agg #[.string (⟨#[204,129]⟩:ab),.string wT,.string wS]) (ps:=[(0,.const (.string (⟨#[204,129]⟩:ab))),(1,.const (.string wT)),(2,.const (.string wS))]) rfl dc rfl (fun _=>by kernel_rfl) ?_
 refine eU (v:=.agg #[.string (⟨#[204,129]⟩:ab),.string wR,.string wQ]) (ps:=[(0,.const (.string (⟨#[204,129]⟩:ab))),(1,.const (.string wR)),(2,.const (.string wQ))]) rfl dc rfl (fun _=>by kernel_rfl) ?_
 refine eU (v:=.agg #[.string (⟨#[204,130]⟩:ab),.string wP,.string wO]) (ps:=[(0,.const (.string (⟨#[204,130]⟩:ab))),(1,.const (.string wP)),(2,.const (.string wO))]) rfl dc rfl (fun _=>by kernel_rfl) ?_
 refine eU (v:=.agg #[.string (⟨#[204,131]⟩:ab),.string (⟨#[65,78,79,97,110,111,73,85,105,117]⟩:ab),.string wN]) (ps:=[(0,.const (.string (⟨#[204,131]⟩:ab))),(1,.const (.string (⟨#[65,78,79,97,110,111,73,85,105,117]⟩:ab))),(2,.const (.string wN))]) rfl dc rfl (fun _=>by kernel_rfl) ?_
 refine eU (v:=.agg #[.string (⟨#[204,132]⟩:ab),.string (⟨#[65,69,73,79,85,97,101,105,111,117]⟩:ab),.string wM]) (ps:=[(0,.const (.string (⟨#[204,132]⟩:ab))),(1,.const (.string (⟨#[65,69,73,79,85,97,101,105,111,117]⟩:ab))),(2,.const (.string wM))]) rfl dc rfl (fun _=>by kernel_rfl) ?_
 refine eU (v:=.agg #[.string (⟨#[204,134]⟩:ab),.string wL,.string wK]) (ps:=[(0,.const (.string (⟨#[204,134]⟩:ab))),(1,.const (.string wL)),(2,.const (.string wK))]) rfl dc rfl (fun _=>by kernel_rfl) ?_
 refine eU (v:=.agg #[.string (⟨#[204,135]⟩:ab),.string (⟨#[67,69,71,73,90,99,101,103,122]⟩:ab),.string wJ]) (ps:=[(0,.const (.string (⟨#[204,135]⟩:ab))),(1,.const (.string (⟨#[67,69,71,73,90,99,101,103,122]⟩:ab))),(2,.const (.string wJ))]) rfl dc rfl (fun _=>by kernel_rfl) ?_
 refine eU (v:=.agg #[.string (⟨#[204,136]⟩:ab),.string wI,.string wH]) (ps:=[(0,.const (.string (⟨#[204,136]⟩:ab))),(1,.const (.string wI)),(2,.const (.string wH))]) rfl dc rfl (fun _=>by kernel_rfl) ?_
 refine eU (v:=.agg #[.string (⟨#[204,138]⟩:ab),.string (⟨#[65,85,97,117]⟩:ab),.string (⟨#[195,133,197,174,195,165,197,175]⟩:ab)]) (ps:=[(0,.const (.string (⟨#[204,138]⟩:ab))),(1,.const (.string (⟨#[65,85,97,117]⟩:ab))),(2,.const (.string (⟨#[195,133,197,174,195,165,197,175]⟩:ab)))]) rfl dc rfl (fun _=>by kernel_rfl) ?_
 refine eU (v:=.agg #[.string (⟨#[204,139]⟩:ab),.string (⟨#[79,85,111,117]⟩:ab),.string (⟨#[197,144,197,176,197,145,197,177]⟩:ab)]) (ps:=[(0,.const (.string (⟨#[204,139]⟩:ab))),(1,.const (.string (⟨#[79,85,111,117]⟩:ab))),(2,.const (.string (⟨#[197,144,197,176,197,145,197,177]⟩:ab)))]) rfl dc rfl (fun _=>by kernel_rfl) ?_
 refine eU (v:=.agg #[.string (⟨#[204,140]⟩:ab),.string wG,.string wF]) (ps:=[(0,.const (.string (⟨#[204,140]⟩:ab))),(1,.const (.string wG)),(2,.const (.string wF))]) rfl dc rfl (fun _=>by kernel_rfl) ?_
 refine eU (v:=.agg #[.string (⟨#[204,167]⟩:ab),.string (⟨#[67,71,75,76,78,82,83,84,99,103,107,108,110,114,115,116]⟩:ab),.string wE]) (ps:=[(0,.const (.string (⟨#[204,167]⟩:ab))),(1,.const (.string (⟨#[67,71,75,76,78,82,83,84,99,103,107,108,110,114,115,116]⟩:ab))),(2,.const (.string wE))]) rfl dc rfl (fun _=>by kernel_rfl) ?_
 refine eU (v:=.agg #[.string (⟨#[204,168]⟩:ab),.string (⟨#[65,69,73,85,97,101,105,117]⟩:ab),.string wD]) (ps:=[(0,.const (.string (⟨#[204,168]⟩:ab))),(1,.const (.string (⟨#[65,69,73,85,97,101,105,117]⟩:ab))),(2,.const (.string wD))]) rfl dc rfl (fun _=>by kernel_rfl) ?_
 refine gl (cs:=[.string (⟨#[204,128]⟩:ab),.string wV,.string wU,.string (⟨#[204,129]⟩:ab),.string wT,.string wS,.string (⟨#[204,129]⟩:ab),.string wR,.string wQ,.string (⟨#[204,130]⟩:ab),.string wP,.string wO,.string (⟨#[204,131]⟩:ab),.string (⟨#[65,78,79,97,110,111,73,85,105,117]⟩:ab),.string wN,.string (⟨#[204,132]⟩:ab),.string (⟨#[65,69,73,79,85,97,101,105,111,117]⟩:ab),.string wM,.string (⟨#[204,134]⟩:ab),.string wL,.string wK,.string (⟨#[204,135]⟩:ab),.string (⟨#[67,69,71,73,90,99,101,103,122]⟩:ab),.string wJ,.string (⟨#[204,136]⟩:ab),.string wI,.string wH,.string (⟨#[204,138]⟩:ab),.string (⟨#[65,85,97,117]⟩:ab),.string (⟨#[195,133,197,174,195,165,197,175]⟩:ab),.string (⟨#[204,139]⟩:ab),.string (⟨#[79,85,111,117]⟩:ab),.string (⟨#[197,144,197,176,197,145,197,177]⟩:ab),.string (⟨#[204,140]⟩:ab),.string wG,.string wF,.string (⟨#[204,167]⟩:ab),.string (⟨#[67,71,75,76,78,82,83,84,99,103,107,108,110,114,115,116]⟩:ab),.string wE,.string (⟨#[204,168]⟩:ab),.string (⟨#[65,69,73,85,97,101,105,117]⟩:ab),.string wD]) (te:=137) (ps:=[(0,.tmp 1),(1,.tmp 2),(2,.tmp 3),(3,.tmp 4),(4,.tmp 5),(5,.tmp 6),(6,.tmp 7),(7,.tmp 8),(8,.tmp 9),(9,.tmp 10),(10,.tmp 11),(11,.tmp 12),(12,.tmp 13),(13,.tmp 14)]) rfl dc rfl (fun _=>by kernel_rfl) (fun b1=>?_)
 refine ac 1 rfl (mS ([(⟨(⟨#[204,128]⟩:ab),wV,wU⟩:gu),(⟨(⟨#[204,129]⟩:ab),wT,wS⟩:gu),(⟨(⟨#[204,129]⟩:ab),wR,wQ⟩:gu),(⟨(⟨#[204,130]⟩:ab),wP,wO⟩:gu),(⟨(⟨#[204,131]⟩:ab),(⟨#[65,78,79,97,110,111,73,85,105,117]⟩:ab),wN⟩:gu),(⟨(⟨#[204,132]⟩:ab),(⟨#[65,69,73,79,85,97,101,105,111,117]⟩:ab),wM⟩:gu),(⟨(⟨#[204,134]⟩:ab),wL,wK⟩:gu),(⟨(⟨#[204,135]⟩:ab),(⟨#[67,69,71,73,90,99,101,103,122]⟩:ab),wJ⟩:gu),(⟨(⟨#[204,136]⟩:ab),wI,wH⟩:gu),(⟨(⟨#[204,138]⟩:ab),(⟨#[65,85,97,117]⟩:ab),(⟨#[195,133,197,174,195,165,197,175]⟩:ab)⟩:gu),(⟨(⟨#[204,139]⟩:ab),(⟨#[79,85,111,117]⟩:ab),(⟨#[197,144,197,176,197,145,197,177]⟩:ab)⟩:gu),(⟨(⟨#[204,140]⟩:ab),wG,wF⟩:gu),(⟨(⟨#[204,167]⟩:ab),(⟨#[67,71,75,76,78,82,83,84,99,103,107,108,110,114,115,116]⟩:ab),wE⟩:gu),(⟨(⟨#[204,168]⟩:ab),(⟨#[65,69,73,85,97,101,105,117]⟩:ab),wD⟩:gu)]:List gu) (k:=0) rfl AV rfl (show 14≤maxLen by decide) ?_)
 refine az (bI ?_)
 cases h
 exact eO (rs:=[.tmp 0]) (.slice (some ⟨b1,0,none⟩) 14 14) (.inl rfl) results83 (.cons (.tmp rfl) .nil) rfl (aH [0] kr rfl)
def zeb (base1:Int) (mark1:Int) (j2:Option Int) (q1:gu) (ag2:Int→Option Int) (x6:Int):Option Int := aU (decide ((x6:Int)<((fA q1.e1).length:Int))) ( cJ (fun (j3:Option Int)=> aX (zcy (fA q1.e1) x6) fun (q2:Int)=> aU ((q2:Int)==base1) ( aY (q1.e0.size≤1073741824) <| aX (zcy (fA q1.e0) 0) fun (q3:Int)=> aU ((q3:Int)==mark1) ( aX (zcy (fA q1.e2) x6) fun (q4:Int)=> some q4
) ( j3
)
) ( j3
)
) ( aY (cR (x6+1)) <| ag2 (x6+1)
)
) ( j2
)
def zeL (base1:Int) (mark1:Int) (j1:Option Int) (r1:(List gu)) (ag1:Int→Option Int) (x3:Int):Option Int := aU (decide ((x3:Int)<(r1.length:Int))) ( cJ (fun (j2:Option Int)=> aX (zcy r1 x3) fun (q1:gu)=> aY (q1.e1.size≤1073741824) <| aY (q1.e2.size≤1073741824) <| zaI (fun _=>none) (zeb base1 mark1 j2 q1) zbH 0
) ( aY (cR (x3+1)) <| ag1 (x3+1)
)
) ( j1
)
def uF (base1:Int) (mark1:Int):Option Int := cJ (fun (j1:Option Int)=> aX (uE) fun (r1:(List gu))=> zaI (fun _=>none) (zeL base1 mark1 j1 r1) zbH 0
) ( some 0
)
theorem M7 {e:Int} {a:Int} {r:Int} (h:uF e a=some r):dO prog 41 [.int .i32 e,.int .i32 a] (.int .i32 r):=by
 unfold uF at h
 refine dO.intro func41 rfl ntmps41 (by simp) ?_
 intro w0 K
 obtain⟨j1,a3,h⟩:=cP h
 refine c8 (β:=Unit) 1 rfl (fun b=>j1=some r) (fun b=>[]) (fun b=>[]) (fun b=>[]) (fun cut=>?_) ?_
 ·
  refine aC (ac 1 rfl (az (cut (aC ?_))))
  obtain⟨v,a0,h⟩:=bj h
  refine fY (vs:=[]) rfl dc rfl rfl rfl Fb (F3 a0) ad ?_
  rintro C
  refine iA (k:=0) rfl dc rfl rfl lQ (ac 1 rfl (az (cy ?_)))
  refine fh (β:=Nat×Int) (fun b=>zaI (fun _=>none) (zeL e a j1 v) b.1 b.2=some r) (fun b=>[]) (fun b=>[(0,.int .i32 e),(1,.int .i32 a),(10,C),(11,zI (v.length:Int)),(12,zI b.2)]) (fun b=>[o9 C v]) (fun b=>b.1) (zbH,0) h rfl (aT rfl) (aH [0] kr rfl) ?_
  rintro⟨n1,H⟩ h
  cases n1 with
  | zero=>exact fa h
  | succ n1=>
   obtain⟨bb,G⟩:∃ag,ag=zaI (fun _=>none) (zeL e a j1 v) n1:=⟨_,rfl⟩
   have h:zeL e a j1 v bb H=some r:=by rw[G];exact h
   unfold zeL at h
   refine aC (aO rfl ei (az (cm ?_)))
   refine bG rfl h (fun h=>?_) (fun h=>?_)
   ·
    refine bH (cz ?_)
    obtain⟨j2,a2,h⟩:=cP h
    refine c8 (β:=Unit) 0 rfl (fun b=>j2=some r) (fun b=>[]) (fun b=>[(0,.int .i32 e),(1,.int .i32 a),(10,C),(11,zI (v.length:Int)),(12,zI H)]) (fun b=>[o9 C v]) (fun cut=>?_) ?_
    ·
     refine cut (cy (aC ?_))
     obtain⟨q1,V,h⟩:=bj h
     refine fO (k:=0) V lQ yn rfl dc rfl rfl rfl rfl (mR (i:=(H:Int).toNat) (j:=0) (k:=0) (q:=q1) (cs:=(oD q1)) EX AV rfl dc rfl rfl (fb V) rfl rfl rfl ?_)
     refine eN EY rfl dc (fun b1=>?_)
     refine eH (k:=1) (vs:=(oD q1)) (l':=(oD q1)) yn rfl rfl rfl rfl rfl (show _≤_ by simp) rfl rfl ?_
     refine az (cm ?_)
     obtain⟨a8,h⟩:=bC h
     obtain⟨a7,h⟩:=bC h
     refine tU 2 ?_
     refine let I:(Value×Value)→List (Nat×Nat×Value):=fun b=>[(0,16,.pointer (some ⟨b1,1,none⟩)),(1,17,.string q1.e1),(2,18,b.1),(3,19,.pointer (some ⟨b1,2,none⟩)),(4,20,.string q1.e2),(5,21,b.2),(6,7,b.1)];let Y:(Nat→Prop)→(Value×Value)→List Asn:=fun D b=>[o9 C v,cells b1 (oD q1) 137,eD D cn [(2,eo b.1 (fA q1.e1))],eD D cn [(5,eo b.2 (fA q1.e2))]];?_
     have w:rY [2,5] Y:=fun i h D b=>bY rfl (bY rfl (bY (pF rfl h) (bY (pF rfl h) rfl)))
     refine tT (β:=Value×Value) 7 ((.slice none 0 0:Value),(.slice none 0 0:Value)) I Y mixed kr kr dc (fun _=>rfl) (kJ (bY nS (bY nS rfl))) (kY w rfl (fun _=>rfl) (fun _=>rfl) ?_ (kY w rfl (fun _=>rfl) (fun _=>rfl) ?_ (kV ?_ (kY w rfl (fun _=>rfl) (fun _=>rfl) ?_ (kY w rfl (fun _=>rfl) (fun _=>rfl) ?_ (kV ?_ (oC w (fun _=>rfl) (fun _=>rfl) 1 6 (fun _=>rfl) rfl nI))))))) ?_
     · exact fun D ⟨l,g⟩ n d c u i=>⟨_,(kJ (bY (dC (fun t=>n (c 1 _ rfl (c 2 _ rfl t 1 dc) 0 dc)) fc) rfl)),nR dc ij gm rfl dc (dE (by rfl) rfl) rfl (show _=1 from rfl) (bm 0 u i)⟩
     · exact fun D ⟨l,g⟩ n d c u i=>⟨_,(kJ (bY (dC (fun t=>n (c 2 _ rfl t 1 dc)) fc) rfl)),bF (k:=1) ea rfl dc (bq 0 u d) rfl rfl (bm 1 u i)⟩
     ·
      intro D b M hd W
      obtain⟨aw,g⟩:=b
      refine jI (kJ (bY (dC M fc) rfl)) ?_
      refine tV a8 rfl dc (ja (m:=1) rfl rfl (hd 1 dc)) an bf bg (fun l=>?_)
      refine oy 2 rfl rfl ?_
      exact lg (b:=(aw,g)) (l,g) 2 (by rfl) (by rfl) rfl (A9 (dP (fun t=>absurd t M) (yz (dP (fun t=>absurd (W 6 _ rfl t 2 dc) M) rfl)))) (kJ (bY (gU (iI rfl) rfl) (bY (gW (by rfl)) rfl)))
     · exact fun D ⟨l,g⟩ n d c u i=>⟨_,(qX (bY (dC (fun t=>n (c 4 _ rfl (c 5 _ rfl t 4 dc) 3 dc)) fc) rfl)),nR dc ij gm rfl dc (dE (by rfl) rfl) rfl (show _=2 from rfl) (bm 3 u i)⟩
     · exact fun D ⟨l,g⟩ n d c u i=>⟨_,(qX (bY (dC (fun t=>n (c 5 _ rfl t 4 dc)) fc) rfl)),bF (k:=1) ea rfl dc (bq 3 u d) rfl rfl (bm 4 u i)⟩
     ·
      intro D b M hd W
      obtain⟨l,ao⟩:=b
      refine jI (qX (bY (dC M fc) rfl)) ?_
      refine tV a7 rfl dc (ja (m:=4) rfl rfl (hd 4 dc)) an bf bg (fun g=>?_)
      refine oy 3 rfl rfl ?_
      exact lg (b:=(l,ao)) (l,g) 5 (by rfl) (by rfl) rfl (Ba (dP (fun t=>absurd t M) (dP (fun _=>rfl) rfl))) (kJ (bY (gW (by rfl)) (bY (gU (iI rfl) rfl) rfl)))
     intro D b hall
     obtain⟨l,g⟩:=b
     refine jI (kJ (bY (gU (hall 2 dc) rfl) (bY (gU (hall 5 dc) rfl) rfl))) (ac 1 rfl (cv (ac 1 rfl (iA (k:=2) rfl dc rfl rfl bf (ac 1 rfl (az (cy ?_)))))))
     refine fh (β:=Nat×Int) (fun b=>zaI (fun _=>none) (zeb e a j2 q1) b.1 b.2=some r) (fun b=>[]) (fun b=>[(0,.int .i32 e),(1,.int .i32 a),(6,zP b1),(7,l),(8,g),(10,C),(11,zI (v.length:Int)),(12,zI H),(23,zI ((fA q1.e1).length:Int)),(24,zI b.2)]) (fun b=>[cells b1 (oD q1) 137,eo l (fA q1.e1),eo g (fA q1.e2),o9 C v]) (fun b=>b.1) (zbH,0) h rfl (aT rfl) (aH [1,2,3,0] kr rfl) ?_
     rintro⟨Z,J⟩ h
     cases Z with
     | zero=>exact fa h
     | succ Z=>
      obtain⟨a9,E⟩:∃ag,ag=zaI (fun _=>none) (zeb e a j2 q1) Z:=⟨_,rfl⟩
      have h:zeb e a j2 q1 a9 J=some r:=by rw[E];exact h
      unfold zeb at h
      refine aC (aO rfl ei (az (cm ?_)))
      refine bG rfl h (fun h=>?_) (fun h=>?_)
      ·
       refine bH (cz ?_)
       obtain⟨j3,a1,h⟩:=cP h
       refine c8 (β:=Unit) 0 rfl (fun b=>j3=some r) (fun b=>[]) (fun b=>[(0,.int .i32 e),(1,.int .i32 a),(6,zP b1),(7,l),(8,g),(10,C),(11,zI (v.length:Int)),(12,zI H),(23,zI ((fA q1.e1).length:Int)),(24,zI J)]) (fun b=>[cells b1 (oD q1) 137,eo l (fA q1.e1),eo g (fA q1.e2),o9 C v]) (fun cut=>?_) ?_
       ·
        refine cut (cy (aC (ac 2 rfl (cv (ac 2 rfl ?_)))))
        obtain⟨q2,U,h⟩:=bj h
        refine fO (k:=1) U bf kq rfl dc rfl rfl rfl rfl (ib (i:=(J:Int).toNat) (j:=0) (k:=1) (q:=q2) fT jh rfl dc rfl rfl (fb U) rfl dc rfl (ac 1 rfl (aO rfl eE (ac 1 rfl ?_))))
        refine dG (s:=33) rfl h (fun h=>?_) (fun h=>?_)
        ·
         refine nR dc ij gm rfl dc rfl rfl (show _=0 from rfl) (bF (k:=0) ea rfl dc rfl rfl rfl ?_)
         obtain⟨a6,h⟩:=bC h
         refine tV a6 rfl dc rfl an bf bg (fun v4=>?_)
         obtain⟨q3,T,h⟩:=bj h
         refine fO (k:=4) T bf kq rfl dc rfl rfl rfl rfl (ib (i:=(0:Int).toNat) (j:=0) (k:=4) (q:=q3) fT jh rfl dc rfl rfl (fb T) rfl dc rfl (ac 1 rfl (aO rfl eE (ac 1 rfl (az ?_)))))
         refine bG rfl h (fun h=>?_) (fun h=>?_)
         ·
          refine aC (ac 2 rfl ?_)
          obtain⟨q4,O,h⟩:=bj h
          refine fO (k:=2) O bf kq rfl dc rfl rfl rfl rfl (ib (i:=(J:Int).toNat) (j:=0) (k:=2) (q:=q4) fT jh rfl dc rfl rfl (fb O) rfl dc rfl (ac 1 rfl (az (bI (cE (bT (bT (cE (cE (bT (bT (cE ?_))))))))))))
          refine bT ?_
          cases h
          exact dk 4 results41
         refine bH (cw ?_)
         exact bx () h rfl (aT rfl) (aH [0,1,2,3] kr rfl)
        refine ac 8 rfl (az (eQ rfl (bH (cw ?_))))
        exact bx () h rfl (aT rfl) (aH [0,1,2,3] kr rfl)
       rintro _ h
       rw[a1] at h
       refine ct ?_
       obtain⟨a5,h⟩:=bC h
       refine aO rfl (dN (r:=J+1) (ai _ a5)) (ac 1 rfl (bU ?_))
       subst E
       exact ff (Z,J+1) h (av _) rfl (aT rfl) (aH [0,1,2,3] kr rfl)
      refine dZ (cA (cA (ed (cw ?_))))
      exact bx () h rfl (aT rfl) (aH [3] kr rfl)
    rintro _ h
    rw[a2] at h
    refine ct ?_
    obtain⟨a4,h⟩:=bC h
    refine aO rfl (dN (r:=H+1) (ai _ a4)) (ac 1 rfl (bU ?_))
    subst G
    exact ff (n1,H+1) h (av _) rfl (aT rfl) (aH [0] kr rfl)
   refine dZ (cA (cA (ed ?_)))
   exact bx () h rfl (qG) ad
 rintro _ h
 rw[a3] at h
 refine aC (ac 1 rfl (az (bI ?_)))
 cases h
 exact dk 4 results41
def zeo (rcall:Int→Option (List Int)) (r1:Int) (j2:Option (List Int)) (q1:gu) (ag2:Int→Option (List Int)) (x6:Int):Option (List Int) := aU (decide ((x6:Int)<((fA q1.e2).length:Int))) ( aX (zcy (fA q1.e2) x6) fun (q2:Int)=> aU ((q2:Int)==r1) ( aX (zcy (fA q1.e1) x6) fun (q3:Int)=> aX (rcall q3) fun (r3:(List Int))=> aY (q1.e0.size≤1073741824) <| aX (zcy (fA q1.e0) 0) fun (q4:Int)=> aY (r3.length+1≤2147483648) <| some (r3++[q4])
) ( aY (cR (x6+1)) <| ag2 (x6+1)
)
) ( j2
)
def zep (rcall:Int→Option (List Int)) (r1:Int) (j1:Option (List Int)) (r2:(List gu)) (ag1:Int→Option (List Int)) (x3:Int):Option (List Int) := aU (decide ((x3:Int)<(r2.length:Int))) ( cJ (fun (j2:Option (List Int))=> aX (zcy r2 x3) fun (q1:gu)=> aY (q1.e1.size≤1073741824) <| aY (q1.e2.size≤1073741824) <| zaI (fun _=>none) (zeo rcall r1 j2 q1) zbH 0
) ( aY (cR (x3+1)) <| ag1 (x3+1)
)
) ( j1
)
def s8 (rcall:Int→Option (List Int)) (r1:Int):Option (List Int) := cJ (fun (j1:Option (List Int))=> aX (uE) fun (r2:(List gu))=> zaI (fun _=>none) (zep rcall r1 j1 r2) zbH 0
) ( some ([r1]:List Int)
)
def uG (r1:Int):Option (List Int):=zaI (fun _=>none) s8 zbH r1
theorem M8 (n:Nat):∀ {w:Int} {r:(List Int)} (_:zaI (fun _=>none) s8 n w=some r),Fn prog 58 [.int .i32 w] [] (fun v0:Value=>v0) (fun v0=>[eo v0 r]):=by
 induction n with
 | zero=>intro w r h;exact fa h
 | succ n I=>
 intro w r h
 rw[DQ] at h
 revert I h
 generalize zaI (fun _=>none) s8 n=v
 intro I h
 unfold s8 at h
 refine _root_.Go.Proofs.YtifpjbgnikjglaaGreatDoor.Fn.intro func58 rfl ntmps58 (by simp) ?_
 intro w0 K
 obtain⟨j1,a7,h⟩:=cP h
 refine c8 (β:=Unit) 1 rfl (fun b=>j1=some r) (fun b=>[]) (fun b=>[(0,.int .i32 w)]) (fun b=>[]) (fun cut=>?_) ?_
 ·
  refine aC (ac 1 rfl (az (cut (aC ?_))))
  obtain⟨G,a5,h⟩:=bj h
  refine fY (vs:=[]) rfl dc rfl rfl rfl Fb (F3 a5) ad ?_
  rintro J
  refine iA (k:=0) rfl dc rfl rfl lQ (ac 1 rfl (az (cy ?_)))
  refine fh (β:=Nat×Int) (fun b=>zaI (fun _=>none) (zep v w j1 G) b.1 b.2=some r) (fun b=>[]) (fun b=>[(0,.int .i32 w),(8,J),(9,zI (G.length:Int)),(10,zI b.2)]) (fun b=>[o9 J G]) (fun b=>b.1) (zbH,0) h rfl (aT rfl) (aH [0] kr rfl) ?_
  rintro⟨n1,Z⟩ h
  cases n1 with
  | zero=>exact fa h
  | succ n1=>
   obtain⟨b4,O⟩:∃ag,ag=zaI (fun _=>none) (zep v w j1 G) n1:=⟨_,rfl⟩
   have h:zep v w j1 G b4 Z=some r:=by rw[O];exact h
   unfold zep at h
   refine aC (aO rfl ei (az (cm ?_)))
   refine bG rfl h (fun h=>?_) (fun h=>?_)
   ·
    refine bH (cz ?_)
    obtain⟨j2,a6,h⟩:=cP h
    refine c8 (β:=Unit) 0 rfl (fun b=>j2=some r) (fun b=>[]) (fun b=>[(0,.int .i32 w),(8,J),(9,zI (G.length:Int)),(10,zI Z)]) (fun b=>[o9 J G]) (fun cut=>?_) ?_
    ·
     refine cut (cy (aC ?_))
     obtain⟨q1,a1,h⟩:=bj h
     refine fO (k:=0) a1 lQ yn rfl dc rfl rfl rfl rfl (mR (i:=(Z:Int).toNat) (j:=0) (k:=0) (q:=q1) (cs:=(oD q1)) EX AV rfl dc rfl rfl (fb a1) rfl rfl rfl ?_)
     refine eN EY rfl dc (fun b1=>?_)
     refine eH (k:=1) (vs:=(oD q1)) (l':=(oD q1)) yn rfl rfl rfl rfl rfl (show _≤_ by simp) rfl rfl ?_
     refine az (cm ?_)
     obtain⟨bs,h⟩:=bC h
     obtain⟨bk,h⟩:=bC h
     refine tU 2 ?_
     refine let Y:(Value×Value)→List (Nat×Nat×Value):=fun b=>[(0,14,.pointer (some ⟨b1,1,none⟩)),(1,15,.string q1.e1),(2,16,b.1),(3,17,.pointer (some ⟨b1,2,none⟩)),(4,18,.string q1.e2),(5,19,b.2),(6,5,b.1)];let a2:(Nat→Prop)→(Value×Value)→List Asn:=fun D b=>[o9 J G,cells b1 (oD q1) 137,eD D cn [(2,eo b.1 (fA q1.e1))],eD D cn [(5,eo b.2 (fA q1.e2))]];?_
     have H:rY [2,5] a2:=fun i h D b=>bY rfl (bY rfl (bY (pF rfl h) (bY (pF rfl h) rfl)))
     refine tT (β:=Value×Value) 7 ((.slice none 0 0:Value),(.slice none 0 0:Value)) Y a2 mixed kr kr dc (fun _=>rfl) (kJ (bY nS (bY nS rfl))) (kY H rfl (fun _=>rfl) (fun _=>rfl) ?_ (kY H rfl (fun _=>rfl) (fun _=>rfl) ?_ (kV ?_ (kY H rfl (fun _=>rfl) (fun _=>rfl) ?_ (kY H rfl (fun _=>rfl) (fun _=>rfl) ?_ (kV ?_ (oC H (fun _=>rfl) (fun _=>rfl) 1 6 (fun _=>rfl) rfl nI))))))) ?_
     · exact fun D ⟨C,E⟩ n d c u i=>⟨_,(kJ (bY (dC (fun e=>n (c 1 _ rfl (c 2 _ rfl e 1 dc) 0 dc)) fc) rfl)),nR dc ij gm rfl dc (dE (by rfl) rfl) rfl (show _=1 from rfl) (bm 0 u i)⟩
     · exact fun D ⟨C,E⟩ n d c u i=>⟨_,(kJ (bY (dC (fun e=>n (c 2 _ rfl e 1 dc)) fc) rfl)),bF (k:=1) ea rfl dc (bq 0 u d) rfl rfl (bm 1 u i)⟩
     ·
      intro D b g hd a
      obtain⟨U,E⟩:=b
      refine jI (kJ (bY (dC g fc) rfl)) ?_
      refine tV bs rfl dc (ja (m:=1) rfl rfl (hd 1 dc)) an bf bg (fun C=>?_)
      refine oy 2 rfl rfl ?_
      exact lg (b:=(U,E)) (C,E) 2 (by rfl) (by rfl) rfl (A9 (dP (fun e=>absurd e g) (yz (dP (fun e=>absurd (a 6 _ rfl e 2 dc) g) rfl)))) (kJ (bY (gU (iI rfl) rfl) (bY (gW (by rfl)) rfl)))
     · exact fun D ⟨C,E⟩ n d c u i=>⟨_,(qX (bY (dC (fun e=>n (c 4 _ rfl (c 5 _ rfl e 4 dc) 3 dc)) fc) rfl)),nR dc ij gm rfl dc (dE (by rfl) rfl) rfl (show _=2 from rfl) (bm 3 u i)⟩
     · exact fun D ⟨C,E⟩ n d c u i=>⟨_,(qX (bY (dC (fun e=>n (c 5 _ rfl e 4 dc)) fc) rfl)),bF (k:=1) ea rfl dc (bq 3 u d) rfl rfl (bm 4 u i)⟩
     ·
      intro D b g hd a
      obtain⟨C,T⟩:=b
      refine jI (qX (bY (dC g fc) rfl)) ?_
      refine tV bk rfl dc (ja (m:=4) rfl rfl (hd 4 dc)) an bf bg (fun E=>?_)
      refine oy 3 rfl rfl ?_
      exact lg (b:=(C,T)) (C,E) 5 (by rfl) (by rfl) rfl (Ba (dP (fun e=>absurd e g) (dP (fun _=>rfl) rfl))) (kJ (bY (gW (by rfl)) (bY (gU (iI rfl) rfl) rfl)))
     intro D b hall
     obtain⟨C,E⟩:=b
     refine jI (kJ (bY (gU (hall 2 dc) rfl) (bY (gU (hall 5 dc) rfl) rfl))) (ac 1 rfl (cv (ac 1 rfl (iA (k:=3) rfl dc rfl rfl bf (ac 1 rfl (az (cy ?_)))))))
     refine fh (β:=Nat×Int) (fun b=>zaI (fun _=>none) (zeo v w j2 q1) b.1 b.2=some r) (fun b=>[]) (fun b=>[(0,.int .i32 w),(4,zP b1),(5,C),(6,E),(8,J),(9,zI (G.length:Int)),(10,zI Z),(21,zI ((fA q1.e2).length:Int)),(22,zI b.2)]) (fun b=>[cells b1 (oD q1) 137,eo C (fA q1.e1),eo E (fA q1.e2),o9 J G]) (fun b=>b.1) (zbH,0) h rfl (aT rfl) (aH [1,2,3,0] kr rfl) ?_
     rintro⟨n2,V⟩ h
     cases n2 with
     | zero=>exact fa h
     | succ n2=>
      obtain⟨b0,M⟩:∃ag,ag=zaI (fun _=>none) (zeo v w j2 q1) n2:=⟨_,rfl⟩
      have h:zeo v w j2 q1 b0 V=some r:=by rw[M];exact h
      unfold zeo at h
      refine aC (aO rfl ei (az (cm ?_)))
      refine bG rfl h (fun h=>?_) (fun h=>?_)
      ·
       refine bH (cz (cm (cy (aC (ac 2 rfl (cv (ac 2 rfl ?_)))))))
       obtain⟨q2,a0,h⟩:=bj h
       refine fO (k:=2) a0 bf kq rfl dc rfl rfl rfl rfl (ib (i:=(V:Int).toNat) (j:=0) (k:=2) (q:=q2) fT jh rfl dc rfl rfl (fb a0) rfl dc rfl (ac 1 rfl (aO rfl eE (az ?_))))
       refine bG rfl h (fun h=>?_) (fun h=>?_)
       ·
        refine cm ?_
        obtain⟨q3,aw,h⟩:=bj h
        obtain⟨r3,a4,h⟩:=bj h
        obtain⟨bh,h⟩:=bC h
        obtain⟨q4,ao,h⟩:=bj h
        obtain⟨bb,h⟩:=bC h
        refine tU 3 ?_
        refine let W:(Value×Value×Nat)→List (Nat×Nat×Value):=fun b=>[(0,31,C),(1,32,zI V),(2,33,.pointer (some ⟨gG C,(V:Int).toNat*1,none⟩)),(3,34,.int .i32 q3),(4,35,b.1),(5,36,zP b1),(6,37,.string q1.e0),(7,38,b.2.1),(8,39,.pointer (some ⟨gG b.2.1,(0:Int).toNat*1,none⟩)),(9,40,.int .i32 q4),(10,41,.slice (some ⟨b.2.2,0,none⟩) 1 1)];let b5:(Nat→Prop)→(Value×Value×Nat)→List Asn:=fun D b=>[cells b1 (oD q1) 137,eo C (fA q1.e1),eo E (fA q1.e2),o9 J G,eD D cn [(4,eo b.1 r3)],eD D cn [(7,eo b.2.1 (fA q1.e0))],eD D cn [(10,cells b.2.2 [.int .i32 q4] 21)]];?_
        refine tT (β:=Value×Value×Nat) 11 ((.slice none 0 0:Value),(.slice none 0 0:Value),(0:Nat)) W b5 mixed kr kr dc (fun _=>rfl) (mU (bY nS (bY nS (bY nS rfl)))) (kV ?_ (kV ?_ (kV ?_ (kV ?_ (kV ?_ (kV ?_ (kV ?_ (kV ?_ (kV ?_ (kV ?_ (kV ?_ nI))))))))))) ?_
        ·
         intro D b g hd a
         obtain⟨s,l,t⟩:=b
         refine jI (mU (bY (dC (fun e=>g (a 2 _ rfl (a 3 _ rfl (a 4 _ rfl e 3 dc) 2 dc) 0 dc)) fc) (kJ rfl))) ?_
         refine zE rfl dc (dE (by rfl) rfl) ?_
         exact lg (b:=(s,l,t)) (s,l,t) 0 (by rfl) (by rfl) rfl (rX rfl) (mU (bY ((gW (by rfl)).trans (dC (fun e=>g (a 2 _ rfl (a 3 _ rfl (a 4 _ rfl e 3 dc) 2 dc) 0 dc)) fc)) (bY (gW (by rfl)) (bY (gW (by rfl)) rfl))))
        ·
         intro D b g hd a
         obtain⟨s,l,t⟩:=b
         refine jI (mU (bY (dC (fun e=>g (a 2 _ rfl (a 3 _ rfl (a 4 _ rfl e 3 dc) 2 dc) 1 dc)) fc) (kJ rfl))) ?_
         refine zE rfl dc (dE (by rfl) rfl) ?_
         exact lg (b:=(s,l,t)) (s,l,t) 1 (by rfl) (by rfl) rfl (rX rfl) (mU (bY ((gW (by rfl)).trans (dC (fun e=>g (a 2 _ rfl (a 3 _ rfl (a 4 _ rfl e 3 dc) 2 dc) 1 dc)) fc)) (bY (gW (by rfl)) (bY (gW (by rfl)) rfl))))
        ·
         intro D b g hd a
         obtain⟨s,l,t⟩:=b
         refine jI (mU (bY (dC (fun e=>g (a 3 _ rfl (a 4 _ rfl e 3 dc) 2 dc)) fc) (kJ rfl))) ?_
         refine fO (k:=1) aw bf kq rfl dc (ja (m:=0) rfl rfl (hd 0 dc)) (ja (m:=1) rfl rfl (hd 1 dc)) rfl rfl ?_
         exact lg (b:=(s,l,t)) (s,l,t) 2 (by rfl) (by rfl) rfl (rX rfl) (mU (bY ((gW (by rfl)).trans (dC (fun e=>g (a 3 _ rfl (a 4 _ rfl e 3 dc) 2 dc)) fc)) (bY (gW (by rfl)) (bY (gW (by rfl)) rfl))))
        ·
         intro D b g hd a
         obtain⟨s,l,t⟩:=b
         refine jI (mU (bY (dC (fun e=>g (a 4 _ rfl e 3 dc)) fc) (kJ rfl))) ?_
         refine ib (i:=(V:Int).toNat) (j:=0) (k:=1) (q:=q3) fT jh rfl dc (ja (m:=2) rfl rfl (hd 2 dc)) rfl (fb aw) rfl dc rfl ?_
         exact lg (b:=(s,l,t)) (s,l,t) 3 (by rfl) (by rfl) rfl (rX rfl) (mU (bY ((gW (by rfl)).trans (dC (fun e=>g (a 4 _ rfl e 3 dc)) fc)) (bY (gW (by rfl)) (bY (gW (by rfl)) rfl))))
        ·
         intro D b g hd a
         obtain⟨U,l,t⟩:=b
         refine jI (mU (bY (dC g fc) (kJ rfl))) (fY (vs:=[.int .i32 q3]) rfl dc rfl (cY (ja (m:=3) rfl rfl (hd 3 dc)) eB) rfl AD (I a4) ad ?_)
         rintro s
         refine mj (L':=[cells b1 (oD q1) 137,eo C (fA q1.e1),eo E (fA q1.e2),o9 J G,cn,eD D cn [(7,eo l (fA q1.e0))],eD D cn [(10,cells t [.int .i32 q4] 21)],eo s r3]) (aH [0,1,2,3,4,5,6,7] kr rfl) (oy 4 rfl rfl ?_)
         exact lg (b:=(U,l,t)) (s,l,t) 4 (by rfl) (by rfl) rfl (MZ (dP (fun e=>absurd e g) (Bb rfl))) (mU (bY (gU (iI rfl) rfl) (bY (gW (by rfl)) (bY (gW (by rfl)) rfl))))
        ·
         intro D b g hd a
         obtain⟨s,l,t⟩:=b
         refine jI (uy (bY (dC (fun e=>g (a 6 _ rfl (a 7 _ rfl e 6 dc) 5 dc)) fc) (bY (dC (fun e=>g (a 6 _ rfl (a 7 _ rfl (a 8 _ rfl (a 9 _ rfl (a 10 _ rfl e 9 dc) 8 dc) 7 dc) 6 dc) 5 dc)) fc) rfl))) ?_
         refine nR dc ij gm rfl dc (dE (by rfl) rfl) rfl (show _=0 from rfl) ?_
         exact lg (b:=(s,l,t)) (s,l,t) 5 (by rfl) (by rfl) rfl (rX rfl) (mU (bY (gW (by rfl)) (bY ((gW (by rfl)).trans (dC (fun e=>g (a 6 _ rfl (a 7 _ rfl e 6 dc) 5 dc)) fc)) (bY ((gW (by rfl)).trans (dC (fun e=>g (a 6 _ rfl (a 7 _ rfl (a 8 _ rfl (a 9 _ rfl (a 10 _ rfl e 9 dc) 8 dc) 7 dc) 6 dc) 5 dc)) fc)) rfl))))
        ·
         intro D b g hd a
         obtain⟨s,l,t⟩:=b
         refine jI (uy (bY (dC (fun e=>g (a 7 _ rfl e 6 dc)) fc) (bY (dC (fun e=>g (a 7 _ rfl (a 8 _ rfl (a 9 _ rfl (a 10 _ rfl e 9 dc) 8 dc) 7 dc) 6 dc)) fc) rfl))) ?_
         refine bF (k:=0) ea rfl dc (ja (m:=5) rfl rfl (hd 5 dc)) rfl rfl ?_
         exact lg (b:=(s,l,t)) (s,l,t) 6 (by rfl) (by rfl) rfl (rX rfl) (mU (bY (gW (by rfl)) (bY ((gW (by rfl)).trans (dC (fun e=>g (a 7 _ rfl e 6 dc)) fc)) (bY ((gW (by rfl)).trans (dC (fun e=>g (a 7 _ rfl (a 8 _ rfl (a 9 _ rfl (a 10 _ rfl e 9 dc) 8 dc) 7 dc) 6 dc)) fc)) rfl))))
        ·
         intro D b g hd a
         obtain⟨s,T,t⟩:=b
         refine jI (uy (bY (dC g fc) (bY (dC (fun e=>g (a 8 _ rfl (a 9 _ rfl (a 10 _ rfl e 9 dc) 8 dc) 7 dc)) fc) rfl))) ?_
         refine tV bh rfl dc (ja (m:=6) rfl rfl (hd 6 dc)) an bf bg (fun l=>?_)
         refine oy 5 rfl rfl ?_
         exact lg (b:=(s,T,t)) (s,l,t) 7 (by rfl) (by rfl) rfl (Bc (dP (fun e=>absurd e g) (dP (fun e=>absurd (a 8 _ rfl e 7 dc) g) (A9 rfl)))) (mU (bY (gW (by rfl)) (bY (gU (iI rfl) rfl) (bY ((gW (by rfl)).trans (dC (fun e=>g (a 8 _ rfl (a 9 _ rfl (a 10 _ rfl e 9 dc) 8 dc) 7 dc)) fc)) rfl))))
        ·
         intro D b g hd a
         obtain⟨s,l,t⟩:=b
         refine jI (uy (bY (gU (hd 7 dc) rfl) (bY (dC (fun e=>g (a 9 _ rfl (a 10 _ rfl e 9 dc) 8 dc)) fc) rfl))) ?_
         refine fO (k:=5) ao bf kq rfl dc (ja (m:=7) rfl rfl (hd 7 dc)) rfl rfl rfl ?_
         exact lg (b:=(s,l,t)) (s,l,t) 8 (by rfl) (by rfl) rfl (rX rfl) (mU (bY (gW (by rfl)) (bY ((gW (by rfl)).trans (gU (hd 7 dc) rfl)) (bY ((gW (by rfl)).trans (dC (fun e=>g (a 9 _ rfl (a 10 _ rfl e 9 dc) 8 dc)) fc)) rfl))))
        ·
         intro D b g hd a
         obtain⟨s,l,t⟩:=b
         refine jI (uy (bY (gU (a 8 _ rfl (hd 8 dc) 7 dc) rfl) (bY (dC (fun e=>g (a 10 _ rfl e 9 dc)) fc) rfl))) ?_
         refine ib (i:=(0:Int).toNat) (j:=0) (k:=5) (q:=q4) fT jh rfl dc (ja (m:=8) rfl rfl (hd 8 dc)) rfl (fb ao) rfl dc rfl ?_
         exact lg (b:=(s,l,t)) (s,l,t) 9 (by rfl) (by rfl) rfl (rX rfl) (mU (bY (gW (by rfl)) (bY ((gW (by rfl)).trans (gU (a 8 _ rfl (hd 8 dc) 7 dc) rfl)) (bY ((gW (by rfl)).trans (dC (fun e=>g (a 10 _ rfl e 9 dc)) fc)) rfl))))
        ·
         intro D b g hd a
         obtain⟨s,l,a3⟩:=b
         refine jI (uy (bY (gU (a 8 _ rfl (a 9 _ rfl (hd 9 dc) 8 dc) 7 dc) rfl) (bY (dC g fc) rfl))) ?_
         refine gl (cs:=[.int .i32 q4]) (te:=21) (ps:=[(0,.tmp 40)]) rfl dc (fr (ja (m:=9) rfl rfl (hd 9 dc)) ph) (fun _=>by kernel_rfl) (fun t=>?_)
         refine oy 6 rfl rfl ?_
         exact lg (b:=(s,l,a3)) (s,l,t) 10 (by rfl) (by rfl) rfl (M0 (dP (fun e=>absurd e g) rfl)) (mU (bY (gW (by rfl)) (bY ((gW (by rfl)).trans (gU (a 8 _ rfl (a 9 _ rfl (hd 9 dc) 8 dc) 7 dc) rfl)) (bY (gU (iI rfl) rfl) rfl))))
        intro D b hall
        obtain⟨s,l,t⟩:=b
        refine jI (mU (bY (gU (hall 4 dc) rfl) (bY (gU (hall 7 dc) rfl) (bY (gU (hall 10 dc) rfl) rfl)))) ?_
        refine iT (k:=4) (k2:=6) (ys:=[q4]) bf rP jh rK rfl dc rfl rfl rfl rfl rfl rfl bb (fun v6=>?_)
        refine ac 1 rfl (az (bI (cE (bT (bT (cE (cE (bT (bT (cE (bT ?_)))))))))))
        cases h
        exact eO (rs:=[.tmp 2]) v6 (.inl rfl) results58 (.cons (.tmp rfl) .nil) rfl (aH [4] kr rfl)
       refine bH (cw (cz (ct ?_)))
       obtain⟨a9,h⟩:=bC h
       refine aO rfl (dN (r:=V+1) (ai _ a9)) (ac 1 rfl (bU ?_))
       subst M
       exact ff (n2,V+1) h (av _) rfl (aT rfl) (aH [0,1,2,3] kr rfl)
      refine dZ (cA (cA (ed (cw ?_))))
      exact bx () h rfl (aT rfl) (aH [3] kr rfl)
    rintro _ h
    rw[a6] at h
    refine ct ?_
    obtain⟨a8,h⟩:=bC h
    refine aO rfl (dN (r:=Z+1) (ai _ a8)) (ac 1 rfl (bU ?_))
    subst O
    exact ff (n1,Z+1) h (av _) rfl (aT rfl) (aH [0] kr rfl)
   refine dZ (cA (cA (ed ?_)))
   exact bx () h rfl (aT rfl) ad
 rintro _ h
 rw[a7] at h
 refine aC (ac 1 rfl ?_)
 refine gl (cs:=[.int .i32 w]) (te:=21) (ps:=[(0,.tmp 45)]) rfl dc rfl (fun _=>by kernel_rfl) (fun b3=>?_)
 refine ac 1 rfl (mS ([w]:List Int) (k:=0) rfl jh rfl (show 1≤maxLen by decide) ?_)
 refine az (bI ?_)
 cases h
 exact eO (rs:=[.tmp 2]) (.slice (some ⟨b3,0,none⟩) 1 1) (.inl rfl) results58 (.cons (.tmp rfl) .nil) rfl (aH [0] kr rfl)
theorem F4 {a:Int} {r:(List Int)} (h:uG a=some r):Fn prog 58 [.int .i32 a] [] (fun v0:Value=>v0) (fun v0=>[eo v0 r]):=by
 unfold uG at h
 exact M8 zbH  h
def zfQ (r1:Int) (j1:Option Bool) (ag1:Int→Option Bool) (x3:Int):Option Bool := aU (decide ((x3:Int)<8)) ( cJ (fun (j2:Option Bool)=> aX (zcy ([(⟨790,793⟩:jk),(⟨796,800⟩:jk),(⟨803,819⟩:jk),(⟨825,828⟩:jk),(⟨837,841⟩:jk),(⟨845,846⟩:jk),(⟨851,854⟩:jk),(⟨857,858⟩:jk)]:List jk) x3) fun (q1:jk)=> aU (decide ((q1.e0:Int)≤r1)) ( aU (decide ((r1:Int)≤q1.e1)) ( some true
) ( j2
)
) ( j2
)
) ( aY (cR (x3+1)) <| ag1 (x3+1)
)
) ( j1
)
def uH (r1:Int):Option Bool := cJ (fun (j1:Option Bool)=> zaI (fun _=>none) (zfQ r1 j1) zbH 0
) ( some false
)
theorem F5 {d:Int} {r:Bool} (h:uH d=some r):dO prog 40 [.int .i32 d] (.bool r):=by
 unfold uH at h
 refine dO.intro func40 rfl ntmps40 (by simp) ?_
 intro w0 K
 obtain⟨j,m,h⟩:=cP h
 refine c8 (β:=Unit) 1 rfl (fun b=>j=some r) (fun b=>[]) (fun b=>[]) (fun b=>[]) (fun cut=>?_) ?_
 ·
  refine aC (ac 1 rfl (az (cut (aC ?_))))
  refine eU (v:=.agg #[.int .i32 790,.int .i32 793]) (ps:=[(0,.const (.int .i32 790)),(1,.const (.int .i32 793))]) rfl dc rfl (fun _=>by kernel_rfl) ?_
  refine eU (v:=.agg #[.int .i32 796,.int .i32 800]) (ps:=[(0,.const (.int .i32 796)),(1,.const (.int .i32 800))]) rfl dc rfl (fun _=>by kernel_rfl) ?_
  refine eU (v:=.agg #[.int .i32 803,.int .i32 819]) (ps:=[(0,.const (.int .i32 803)),(1,.const (.int .i32 819))]) rfl dc rfl (fun _=>by kernel_rfl) ?_
  refine eU (v:=.agg #[.int .i32 825,.int .i32 828]) (ps:=[(0,.const (.int .i32 825)),(1,.const (.int .i32 828))]) rfl dc rfl (fun _=>by kernel_rfl) ?_
  refine eU (v:=.agg #[.int .i32 837,.int .i32 841]) (ps:=[(0,.const (.int .i32 837)),(1,.const (.int .i32 841))]) rfl dc rfl (fun _=>by kernel_rfl) ?_
  refine eU (v:=.agg #[.int .i32 845,.int .i32 846]) (ps:=[(0,.const (.int .i32 845)),(1,.const (.int .i32 846))]) rfl dc rfl (fun _=>by kernel_rfl) ?_
  refine eU (v:=.agg #[.int .i32 851,.int .i32 854]) (ps:=[(0,.const (.int .i32 851)),(1,.const (.int .i32 854))]) rfl dc rfl (fun _=>by kernel_rfl) ?_
  refine eU (v:=.agg #[.int .i32 857,.int .i32 858]) (ps:=[(0,.const (.int .i32 857)),(1,.const (.int .i32 858))]) rfl dc rfl (fun _=>by kernel_rfl) ?_
  refine eU (v:=.agg #[.int .i32 790,.int .i32 793,.int .i32 796,.int .i32 800,.int .i32 803,.int .i32 819,.int .i32 825,.int .i32 828,.int .i32 837,.int .i32 841,.int .i32 845,.int .i32 846,.int .i32 851,.int .i32 854,.int .i32 857,.int .i32 858]) (ps:=[(0,.tmp 5),(1,.tmp 6),(2,.tmp 7),(3,.tmp 8),(4,.tmp 9),(5,.tmp 10),(6,.tmp 11),(7,.tmp 12)]) rfl dc rfl (fun _=>by kernel_rfl) ?_
  refine ac 1 rfl (az (cy ?_))
  refine fh (β:=Nat×Int) (fun b=>zaI (fun _=>none) (zfQ d j) b.1 b.2=some r) (fun b=>[]) (fun b=>[(0,.int .i32 d),(13,.agg #[.int .i32 790,.int .i32 793,.int .i32 796,.int .i32 800,.int .i32 803,.int .i32 819,.int .i32 825,.int .i32 828,.int .i32 837,.int .i32 841,.int .i32 845,.int .i32 846,.int .i32 851,.int .i32 854,.int .i32 857,.int .i32 858]),(14,zI b.2)]) (fun b=>[]) (fun b=>b.1) (zbH,0) h rfl (aT rfl) ad ?_
  rintro⟨i,g⟩ h
  cases i with
  | zero=>exact fa h
  | succ i=>
   obtain⟨t,a⟩:∃ag,ag=zaI (fun _=>none) (zfQ d j) i:=⟨_,rfl⟩
   have h:zfQ d j t g=some r:=by rw[a];exact h
   unfold zfQ at h
   refine aC (aO rfl ei (az (cm ?_)))
   refine bG rfl h (fun h=>?_) (fun h=>?_)
   ·
    refine bH (cz ?_)
    obtain⟨u,l,h⟩:=cP h
    refine c8 (β:=Unit) 0 rfl (fun b=>u=some r) (fun b=>[]) (fun b=>[(0,.int .i32 d),(13,.agg #[.int .i32 790,.int .i32 793,.int .i32 796,.int .i32 800,.int .i32 803,.int .i32 819,.int .i32 825,.int .i32 828,.int .i32 837,.int .i32 841,.int .i32 845,.int .i32 846,.int .i32 851,.int .i32 854,.int .i32 857,.int .i32 858]),(14,zI g)]) (fun b=>[]) (fun cut=>?_) ?_
    ·
     refine cut (cy (aC ?_))
     obtain⟨q1,e,h⟩:=bj h
     refine ny (v:=.agg #[.int .i32 q1.e0,.int .i32 q1.e1]) rfl dc rfl rfl (Jw (enc:=AU) (xs:=([(⟨790,793⟩:jk),(⟨796,800⟩:jk),(⟨803,819⟩:jk),(⟨825,828⟩:jk),(⟨837,841⟩:jk),(⟨845,846⟩:jk),(⟨851,854⟩:jk),(⟨857,858⟩:jk)]:List jk)) (q:=q1) underlying134 ET rfl Fw e (fun _=>Jx (enc:=AU) KD Fw (fb e))) ?_
     refine eN KE rfl dc (fun b1=>?_)
     refine eH (k:=0) (vs:=[.int .i32 q1.e0,.int .i32 q1.e1]) (l':=[.int .i32 q1.e0,.int .i32 q1.e1]) ET rfl rfl rfl rfl rfl (show _≤_ by simp) rfl rfl ?_
     refine cv (ac 1 rfl (nR dc underlying126 kq rfl dc rfl rfl (show _=0 from rfl) (bF (k:=0) fT rfl dc rfl rfl rfl (aO rfl fG (ac 1 rfl ?_)))))
     refine dG (s:=21) rfl h (fun h=>?_) (fun h=>?_)
     ·
      refine ac 1 rfl (nR dc underlying126 kq rfl dc rfl rfl (show _=1 from rfl) (bF (k:=0) fT rfl dc rfl rfl rfl (aO rfl ia (ac 1 rfl (az ?_)))))
      refine bG rfl h (fun h=>?_) (fun h=>?_)
      ·
       refine aC (ac 1 rfl (az (bI (cE (bT (bT (cE (bT ?_))))))))
       cases h
       exact dk 2 results40
      refine bH (cw ?_)
      exact bx () h rfl (aT rfl) ad
     refine ac 5 rfl (az (eQ rfl (bH (cw ?_))))
     exact bx () h rfl (aT rfl) ad
    rintro _ h
    rw[l] at h
    refine ct ?_
    obtain⟨n,h⟩:=bC h
    refine aO rfl (dN (r:=g+1) (ai _ n)) (ac 1 rfl (bU ?_))
    subst a
    exact ff (i,g+1) h (av _) rfl (aT rfl) ad
   refine dZ (cA (cA (ed ?_)))
   exact bx () h rfl (qG) ad
 rintro _ h
 rw[m] at h
 refine aC (ac 1 rfl (az (bI ?_)))
 cases h
 exact dk 2 results40
def sa (r1:Int):Option Bool := aY (fN r1) <| aU (great r1) ( some true
) ( aY (fN r1) <| some (ol r1)
)
theorem Bl {a:Int} {r:Bool} (h:sa a=some r):dO prog 81 [.int .i32 a] (.bool r):=by
 unfold sa at h
 refine dO.intro func81 rfl ntmps81 (by simp) ?_
 intro w0 K
 refine aC (ac 1 rfl (cv (ac 1 rfl ?_)))
 obtain⟨e,h⟩:=bC h
 refine dq (v:=.bool (great a)) (vs:=[.int .i32 a]) rfl dc rfl rfl rfl Lm (nP fun w=>A3 a w e.1 e.2) ?_
 refine ac 1 rfl ?_
 refine dG (s:=5) rfl h (fun h=>?_) (fun h=>?_)
 ·
  refine ac 4 rfl (az (bI ?_))
  cases h
  exact dk 2 results81
 refine ac 1 rfl ?_
 obtain⟨d,h⟩:=bC h
 refine dq (v:=.bool (ol a)) (vs:=[.int .i32 a]) rfl dc rfl rfl rfl E6 (nP fun w=>FN a w d.1 d.2) ?_
 refine ac 2 rfl (az (bI ?_))
 cases h
 exact dk 2 results81
def rb (r1:Int):Option Bool := aU (decide ((768:Int)≤r1)) ( some (decide ((r1:Int)≤879))
) ( some false
)
theorem Bm {a:Int} {r:Bool} (h:rb a=some r):dO prog 102 [.int .i32 a] (.bool r):=by
 unfold rb at h
 refine dO.intro func102 rfl ntmps102 (by simp) ?_
 intro w0 K
 refine aC (ac 1 rfl (cv (ac 1 rfl (aO rfl fG (ac 1 rfl ?_)))))
 refine dG (s:=5) rfl h (fun h=>?_) (fun h=>?_)
 ·
  refine ac 1 rfl (aO rfl ia (ac 2 rfl (az (bI ?_))))
  cases h
  exact dk 2 results102
 refine ac 4 rfl (az (bI ?_))
 cases h
 exact dk 2 results102
def re (x1:bX):Option Bool := aU (decide ((0:Int)≤x1.Rune)) ( aX (sa x1.Rune) fun (r1:Bool)=> some r1
) ( some false
)
theorem wW {x1:bX} {r:Bool} (h:re x1=some r):dO prog 38 [.agg (gg x1).toArray] (.bool r):=by
 unfold re at h
 refine dO.intro func38 rfl ntmps38 (by simp) ?_
 intro w0 K
 refine aC ?_
 refine jy rfl dc rfl (fun b1=>?_)
 refine ac 1 rfl (cv (cf mq rfl dc rfl (show _=0 from rfl) (bF (k:=0) fT rfl dc rfl rfl rfl (aO rfl fG (ac 1 rfl ?_)))))
 refine dG (s:=6) rfl h (fun h=>?_) (fun h=>?_)
 ·
  refine cf mq rfl dc rfl (show _=0 from rfl) (bF (k:=0) fT rfl dc rfl rfl rfl ?_)
  obtain⟨d,a,h⟩:=bj h
  refine dq (v:=.bool d) (vs:=[.int .i32 x1.Rune]) rfl dc rfl rfl rfl AJ (Bl a) (ac 2 rfl (az (bI ?_)))
  cases h
  exact dk 2 results38
 refine ac 5 rfl (az (bI ?_))
 cases h
 exact dk 2 results38
def wX (x1:bX):Option Bool := aU (decide ((0:Int)≤x1.Rune)) ( aX (rb x1.Rune) fun (r1:Bool)=> some r1
) ( some false
)
theorem M9 {x1:bX} {r:Bool} (h:wX x1=some r):dO prog 82 [.agg (gg x1).toArray] (.bool r):=by
 unfold wX at h
 refine dO.intro func82 rfl ntmps82 (by simp) ?_
 intro w0 K
 refine aC ?_
 refine jy rfl dc rfl (fun b1=>?_)
 refine ac 1 rfl (cv (cf mq rfl dc rfl (show _=0 from rfl) (bF (k:=0) fT rfl dc rfl rfl rfl (aO rfl fG (ac 1 rfl ?_)))))
 refine dG (s:=6) rfl h (fun h=>?_) (fun h=>?_)
 ·
  refine cf mq rfl dc rfl (show _=0 from rfl) (bF (k:=0) fT rfl dc rfl rfl rfl ?_)
  obtain⟨d,a,h⟩:=bj h
  refine dq (v:=.bool d) (vs:=[.int .i32 x1.Rune]) rfl dc rfl rfl rfl AL (Bm a) (ac 2 rfl (az (bI ?_)))
  cases h
  exact dk 2 results82
 refine ac 5 rfl (az (bI ?_))
 cases h
 exact dk 2 results82
def zeW (s1:ab) (j1:(List bX)→Option (List bX)) (r1:(List cX)) (ag1:(List bX)→Int→Option (List bX)) (l4:List bX) (x3:Int):Option (List bX) := aU (decide ((x3:Int)<(r1.length:Int))) ( cJ (fun (j2:Int→ab→Int→Option (List bX))=> aX (zcy r1 x3) fun (q1:cX)=> aX (Bi s1 q1) fun (r2:ab)=> aU (q1.Broken) ( j2 (-1) r2 q1.At
) ( j2 q1.Rune r2 q1.At
)
) (fun (x4:Int) (x5:ab) (x6:Int)=> aY (l4.length+1≤2147483648) <| aY (cR (x3+1)) <| ag1 (l4++[(⟨x4,x5,x6⟩:bX)]) (x3+1)
)
) ( j1 l4
)
def rf (s1:ab):Option (List bX) := cJ (fun (j1:(List bX)→Option (List bX))=> aX (wB s1) fun (r1:(List cX))=> zaI (fun _ _=>none) (zeW s1 j1 r1) zbH ([]:List bX) 0
) (fun (l1:List bX)=> some l1
)
theorem wY {g:ab} {r:(List bX)} (h:rf g=some r):Fn prog 37 [.string g] [] (fun v0:Value=>v0) (fun v0=>[fv v0 r]):=by
 unfold rf at h
 refine _root_.Go.Proofs.YtifpjbgnikjglaaGreatDoor.Fn.intro func37 rfl ntmps37 (by simp) ?_
 intro w0 K
 obtain⟨V,Z,h⟩:=cP h
 refine c8 (β:=(List bX)×Value) 2 rfl (fun b=>V b.1=some r) (fun b=>[]) (fun b=>[(3,b.2)]) (fun b=>[fv b.2 b.1]) (fun cut=>?_) ?_
 ·
  refine aC (ac 1 rfl (cv (ac 1 rfl (az (cut (aC (ac 1 rfl ?_)))))))
  obtain⟨s,W,h⟩:=bj h
  refine fY (vs:=[.string g]) rfl dc rfl rfl rfl Lb (M4 W) ad ?_
  rintro E
  refine iA (k:=0) rfl dc rfl rfl cG (ac 1 rfl (az (cy (nf (enc:=qh) (e:=81) (size:=3) ?_))))
  refine fh (β:=Nat×(List bX)×Int×Value) (fun b=>zaI (fun _ _=>none) (zeW g V s) b.1 b.2.1 b.2.2.1=some r) (fun b=>[]) (fun b=>[(0,.string g),(3,b.2.2.2),(8,E),(9,zI (s.length:Int)),(10,zI b.2.2.1)]) (fun b=>[fv b.2.2.2 b.2.1,om E s]) (fun b=>b.1) (zbH,([]:List bX),0,(.slice none 0 0)) h rfl (aT rfl) (aH [1,0] kr rfl) ?_
  rintro⟨U,G,C,T⟩ h
  cases U with
  | zero=>exact fa h
  | succ U=>
   obtain⟨a0,t⟩:∃ag,ag=zaI (fun _ _=>none) (zeW g V s) U:=⟨_,rfl⟩
   have h:zeW g V s a0 G C=some r:=by rw[t];exact h
   unfold zeW at h
   refine aC (aO rfl ei (az (cm ?_)))
   refine bG rfl h (fun h=>?_) (fun h=>?_)
   ·
    refine bH (cz (cm (cy ?_)))
    obtain⟨j2,Y,h⟩:=cP h
    refine c8 (β:=Int×ab×Int×Nat) 2 rfl (fun b=>j2 b.1 b.2.1 b.2.2.1=some r) (fun b=>[]) (fun b=>[(0,.string g),(3,T),(6,zP b.2.2.2),(8,E),(9,zI (s.length:Int)),(10,zI C)]) (fun b=>[fv T G,cells b.2.2.2 [.int .i32 b.1,.string b.2.1,zI b.2.2.1] 81,om E s]) (fun cut=>?_) ?_
    ·
     refine aC ?_
     obtain⟨q1,I,h⟩:=bj h
     refine fO (k:=1) I cG jP rfl dc rfl rfl rfl rfl (mR (i:=(C:Int).toNat) (j:=0) (k:=1) (q:=q1) (cs:=[zI q1.At,zI q1.Width,.int .i32 q1.Rune,.bool q1.Broken]) kW yu rfl dc rfl rfl (fb I) rfl rfl rfl ?_)
     refine eN og rfl dc (fun b2=>?_)
     refine eH (k:=2) (vs:=[zI q1.At,zI q1.Width,.int .i32 q1.Rune,.bool q1.Broken]) (l':=[zI q1.At,zI q1.Width,.int .i32 q1.Rune,.bool q1.Broken]) jP rfl rfl rfl rfl rfl (show _≤_ by simp) rfl rfl ?_
     refine az (cm ?_)
     obtain⟨l,H,h⟩:=bj h
     refine xO (β:=Nat) 9 8 _ [(0,14,.pointer (some ⟨b2,2,none⟩)),(1,15,.int .i32 q1.Rune),(2,16,.string g),(3,17,.agg #[zI q1.At,zI q1.Width,.int .i32 q1.Rune,.bool q1.Broken]),(4,18,.string l),(5,19,zP b2),(6,20,zI q1.At),(7,21,.agg #[.int .i32 q1.Rune,.string l,zI q1.At])] (fun m=>[(6,zP m)]) (fun m=>[fv T G,om E s,cells b2 [zI q1.At,zI q1.Width,.int .i32 q1.Rune,.bool q1.Broken] 132,cells m [.int .i32 0,.string ByteArray.empty,zI 0] 81]) mixed kr kr rfl dc dc (by rfl) kr kr (gk ?_ (gk ?_ (yE 1 2 rfl (gk ?_ (gk ?_ (gk ?_ (gk ?_ (gk ?_ (rG gV))))))))) (fun m=>(gk ?_ (gk ?_ (yE 1 2 rfl (gk ?_ (gk ?_ (gk ?_ (gk ?_ (gk ?_ (rG gV)))))))))) ?_ ?_
     · exact fun D n d c u i=>cf o7 rfl dc (dE (by rfl) rfl) (show _=2 from rfl) (bm 0 u i)
     · exact fun D n d c u i=>bF (k:=2) fT rfl dc (bq 0 u d) rfl rfl (bm 1 u i)
     · exact fun D n d c u i=>gM (k:=2) (cs:=[zI q1.At,zI q1.Width,.int .i32 q1.Rune,.bool q1.Broken]) kW rfl dc (dE (by rfl) rfl) rfl rfl rfl (bm 3 u i)
     · exact fun D n d c u i=>dq (v:=.string l) (vs:=[.string g,.agg #[zI q1.At,zI q1.Width,.int .i32 q1.Rune,.bool q1.Broken]]) rfl dc rfl (cY (bq 2 u d) (cY (bq 3 u d) eB)) rfl Fa (F0 (p1:=q1) H) (bm 4 u i)
     · exact fun D n d c u i=>cf lh rfl dc (dE (by rfl) rfl) (show _=0 from rfl) (bm 5 u i)
     · exact fun D n d c u i=>bF (k:=2) dQ rfl dc (bq 5 u d) rfl rfl (bm 6 u i)
     · exact fun D n d c u i=>eU (v:=.agg #[.int .i32 q1.Rune,.string l,zI q1.At]) (ps:=[(0,.tmp 15),(1,.tmp 18),(2,.tmp 20)]) rfl dc (fr (bq 1 u d) (fr (bq 4 u d) (fr (bq 6 u d) ph))) (fun _=>by kernel_rfl) (bm 7 u i)
     · exact fun D n d c u i=>cf o7 rfl dc (dE (by rfl) rfl) (show _=2 from rfl) (bm 0 u i)
     · exact fun D n d c u i=>bF (k:=2) fT rfl dc (bq 0 u d) rfl rfl (bm 1 u i)
     · exact fun D n d c u i=>gM (k:=2) (cs:=[zI q1.At,zI q1.Width,.int .i32 q1.Rune,.bool q1.Broken]) kW rfl dc (dE (by rfl) rfl) rfl rfl rfl (bm 3 u i)
     · exact fun D n d c u i=>dq (v:=.string l) (vs:=[.string g,.agg #[zI q1.At,zI q1.Width,.int .i32 q1.Rune,.bool q1.Broken]]) rfl dc rfl (cY (bq 2 u d) (cY (bq 3 u d) eB)) rfl Fa (F0 (p1:=q1) H) (bm 4 u i)
     · exact fun D n d c u i=>cf lh rfl dc (dE (by rfl) rfl) (show _=0 from rfl) (bm 5 u i)
     · exact fun D n d c u i=>bF (k:=2) dQ rfl dc (bq 5 u d) rfl rfl (bm 6 u i)
     · exact fun D n d c u i=>eU (v:=.agg #[.int .i32 q1.Rune,.string l,zI q1.At]) (ps:=[(0,.tmp 15),(1,.tmp 18),(2,.tmp 20)]) rfl dc (fr (bq 1 u d) (fr (bq 4 u d) (fr (bq 6 u d) ph))) (fun _=>by kernel_rfl) (bm 7 u i)
     ·
      intro D hn hd a1
      refine eN qf rfl dc (fun m=>?_)
      exact fun a w ha hw=>⟨m,DJ (by rfl) _ _ _ ha,hw⟩
     intro m
     refine eH (k:=3) (vs:=[.int .i32 q1.Rune,.string l,zI q1.At]) (l':=[.int .i32 q1.Rune,.string l,zI q1.At]) jB rfl rfl rfl rfl rfl (show _≤_ by simp) rfl rfl (az (cut (aC (cf ym rfl dc rfl (show _=3 from rfl) (bF (k:=2) nl rfl dc rfl rfl rfl (az ?_))))))
     refine bG rfl h (fun h=>?_) (fun h=>?_)
     ·
      refine ct (cf mq rfl dc rfl (show _=0 from rfl) ?_)
      refine ef (k:=3) (l':=[.int .i32 (-1),.string l,zI q1.At]) kq rfl rfl rfl rfl rfl (fun _ _=>rfl) rfl ?_
      refine bU ?_
      exact bx ((-1),l,q1.At,m) h rfl (aT rfl) (aH [0,3,1] kr rfl)
     refine bH ?_
     exact bx (q1.Rune,l,q1.At,m) h rfl (aT rfl) (aH [0,3,1] kr rfl)
    rintro⟨O,M,J,b1⟩ h
    rw[Y] at h
    refine ct (ac 1 rfl (gM (k:=1) (cs:=[.int .i32 O,.string M,zI J]) lL rfl dc rfl rfl rfl rfl ?_))
    refine gl (cs:=[.int .i32 O,.string M,zI J]) (te:=81) (ps:=[(0,.tmp 26)]) rfl dc rfl (fun _=>by kernel_rfl) (fun b4=>?_)
    obtain⟨aw,h⟩:=bC h
    refine iT (k:=0) (k2:=3) (ys:=[(⟨O,M,J⟩:bX)]) bc rR kX rT rfl dc rfl rfl rfl rfl rfl rfl aw (fun v6=>?_)
    refine ac 1 rfl (bU (cw (cz (ct ?_))))
    obtain⟨ao,h⟩:=bC h
    refine aO rfl (dN (r:=C+1) (ai _ ao)) (ac 1 rfl (bU ?_))
    subst t
    exact ff (U,G++[(⟨O,M,J⟩:bX)],C+1,v6) h (av _) rfl (aT rfl) (aH [0,2] kr rfl)
   refine dZ (cA (cA (ed ?_)))
   exact bx (G,T) h rfl (aT rfl) (aH [0] kr rfl)
 rintro⟨l1,v1⟩ h
 rw[Z] at h
 refine aC (ac 2 rfl (az (bI ?_)))
 cases h
 exact eO (rs:=[.tmp 2]) v1 (.inl rfl) results37 (.cons (.tmp rfl) .nil) rfl (aH [0] kr rfl)
def zfr (l1:List bX) (j1:ab→Option ab) (ag1:ab→Int→Option ab) (s4:ab) (x3:Int):Option ab := aU (decide ((x3:Int)<(l1.length:Int))) ( aX (zcy l1 x3) fun (q1:bX)=> aY (s4.size+q1.Text.size≤9223372036854775807) <| aY (cR (x3+1)) <| ag1 (s4++q1.Text) (x3+1)
) ( j1 s4
)
def uI (l1:List bX):Option ab := cJ (fun (j1:ab→Option ab)=> zaI (fun _ _=>none) (zfr l1 j1) zbH (⟨#[]⟩:ab) 0
) (fun (s1:ab)=> some s1
)
theorem F6 {d g:Value} {t:List bX} {l:Nat} {n:List bX} (a:Vw d t 3 l g n) {r:ab} (h:uI n=some r):iv prog 112 [g] [ji qh 3 d l t] [] (fun _:Unit=>(.string r)) (fun _=>[]):=by
 unfold uI at h
 refine iv.intro func112 rfl ntmps112 (by simp) ?_
 intro w0 K D
 obtain⟨w,E,h⟩:=cP h
 refine c8 (β:=ab) 2 rfl (fun b=>w b=some r) (fun b=>[]) (fun b=>[(3,.string b)]) (fun b=>[]) (fun cut=>?_) ?_
 ·
  refine aC (ac 1 rfl (cv (ac 1 rfl (az (cut (aC (ac 1 rfl ?_)))))))
  refine iO a rfl dc rfl bc (ac 1 rfl (az (cy ?_)))
  refine fh (β:=Nat×ab×Int) (fun b=>zaI (fun _ _=>none) (zfr n w) b.1 b.2.1 b.2.2=some r) (fun b=>[]) (fun b=>[(3,.string b.2.1),(6,g),(7,zI (n.length:Int)),(8,zI b.2.2)]) (fun b=>[]) (fun b=>b.1) (zbH,(⟨#[]⟩:ab),0) (by exact h) rfl (aT rfl) ad ?_
  rintro⟨v,C,u⟩ h
  cases v with
  | zero=>exact fa h
  | succ v=>
   obtain⟨I,e⟩:∃ag,ag=zaI (fun _ _=>none) (zfr n w) v:=⟨_,rfl⟩
   have h:zfr n w I C u=some r:=by rw[e];exact h
   unfold zfr at h
   refine aC (aO rfl ei (az (cm ?_)))
   refine bG rfl h (fun h=>?_) (fun h=>?_)
   ·
    refine bH (cz (cm (cy (aC ?_))))
    obtain⟨q1,s,h⟩:=bj h
    refine gq a s bc jB rfl dc rfl rfl rfl (oz (m:=l+(u:Int).toNat) (j:=0) (i:=0) (q:=q1) (cs:=(gg q1)) D rfl (by omega) lL rfl dc rfl (cI a s) rfl rfl rfl ?_)
    refine eN qf rfl dc (fun b1=>?_)
    refine eH (k:=0) (vs:=(gg q1)) (l':=(gg q1)) jB rfl rfl rfl rfl rfl (show _≤_ by simp) rfl rfl ?_
    refine az (ct (ac 1 rfl (cf rQ rfl dc rfl (show _=1 from rfl) (bF (k:=0) ea rfl dc rfl rfl rfl ?_))))
    obtain⟨H,h⟩:=bC h
    refine aO rfl (kQ H) (ac 1 rfl (bU (cw (cz (ct ?_)))))
    obtain⟨G,h⟩:=bC h
    refine aO rfl (dN (r:=u+1) (ai _ G)) (ac 1 rfl (bU ?_))
    subst e
    exact ff (v,C++q1.Text,u+1) h (av _) rfl (aT rfl) ad
   refine dZ (cA (cA (ed ?_)))
   exact bx C h rfl (aT rfl) ad
 rintro J h
 rw[E] at h
 refine aC (ac 2 rfl (az (bI ?_)))
 cases h
 exact dk 2 results112
def uJ (r1:Int) (x1:bX):Option bX := aX (qp r1) fun (r2:ab)=> some (⟨r1,r2,x1.At⟩:bX)
theorem F7 {a:Int} {x1:bX} {r:bX} (h:uJ a x1=some r):dO prog 42 [.int .i32 a,.agg (gg x1).toArray] (.agg (gg r).toArray):=by
 unfold uJ at h
 refine dO.intro func42 rfl ntmps42 (by simp) ?_
 intro w0 K
 refine aC ?_
 refine jy rfl dc rfl (fun b1=>?_)
 refine eN qf rfl dc (fun j=>?_)
 refine az (cm ?_)
 obtain⟨e,g,h⟩:=bj h
 refine jc 5 [(0,5,.int .i32 a),(1,6,.int .i32 a),(2,7,.string e),(3,8,.pointer (some ⟨b1,2,none⟩)),(4,9,zI x1.At)] mixed kr kr dc (by rfl) kr kr (gY 2 0 rfl (bR ?_ (bR ?_ (bR ?_ bK)))) ?_
 · exact fun D n d c u i=>dq (v:=.string e) (vs:=[.int .i32 a]) rfl dc rfl (cY (bq 1 u d) eB) rfl yp (yF g) (bm 2 u i)
 · exact fun D n d c u i=>cf J5 rfl dc (dE (by rfl) rfl) (show _=2 from rfl) (bm 3 u i)
 · exact fun D n d c u i=>bF (k:=0) dQ rfl dc (bq 3 u d) rfl rfl (bm 4 u i)
 refine eU (v:=.agg #[.int .i32 a,.string e,zI x1.At]) (ps:=[(0,.tmp 5),(1,.tmp 7),(2,.tmp 9)]) rfl dc rfl (fun _=>by kernel_rfl) ?_
 refine eH (k:=1) (vs:=[.int .i32 a,.string e,zI x1.At]) (l':=[.int .i32 a,.string e,zI x1.At]) jB rfl rfl rfl rfl rfl (show _≤_ by simp) rfl rfl (az (bI ?_))
 cases h
 exact eO (rs:=[.cell 4 81]) () (.inl rfl) results42 (.cons (.cells lL (k:=1) rfl rfl rfl) .nil) rfl ad
def zel (l1:List bX) (j1:Int→Option Int) (ag1:Int→Option Int) (n4:Int):Option Int := aU (decide ((n4:Int)<(l1.length:Int))) ( aX (zcy l1 n4) fun (q1:bX)=> aX (wX q1) fun (r1:Bool)=> aU (r1) ( aY (cR (n4+1)) <| ag1 (n4+1)
) ( j1 n4
)
) ( j1 n4
)
def s9 (l1:List bX):Option Int := cJ (fun (j1:Int→Option Int)=> zaI (fun _=>none) (zel l1 j1) zbH 0
) (fun (n1:Int)=> some n1
)
theorem Bn {a l:Value} {e:List bX} {t:Nat} {n:List bX} (d:Vw a e 3 t l n) {r:Int} (h:s9 n=some r):Fn prog 39 [l] [fv a e] (fun _b:Unit=>zI r) (fun _b=>[fv a e]):=by
 unfold s9 at h
 refine _root_.Go.Proofs.YtifpjbgnikjglaaGreatDoor.Fn.intro func39 rfl ntmps39 (by simp) ?_
 intro w0 K
 obtain⟨C,E,h⟩:=cP h
 refine c8 (β:=Int) 2 rfl (fun b=>C b=some r) (fun b=>[]) (fun b=>[(3,zI b)]) (fun b=>[fv a e]) (fun cut=>?_) ?_
 ·
  refine aC (ac 1 rfl (cv (ac 1 rfl (az (cut (cy ?_))))))
  refine fh (β:=Nat×Int) (fun b=>zaI (fun _=>none) (zel n C) b.1 b.2=some r) (fun b=>[]) (fun b=>[(0,l),(3,zI b.2)]) (fun b=>[fv a e]) (fun b=>b.1) (zbH,0) h rfl (aT rfl) (aH [0] kr rfl) ?_
  rintro⟨w,m⟩ h
  cases w with
  | zero=>exact fa h
  | succ w=>
   obtain⟨H,g⟩:∃ag,ag=zaI (fun _=>none) (zel n C) w:=⟨_,rfl⟩
   have h:zel n C H m=some r:=by rw[g];exact h
   unfold zel at h
   refine cm (aC (ac 2 rfl (iO d rfl dc rfl bc (aO rfl ei (ac 1 rfl ?_)))))
   refine dG (s:=8) rfl h (fun h=>?_) (fun h=>?_)
   ·
    refine ac 2 rfl ?_
    obtain⟨q1,u,h⟩:=bj h
    refine gq d u bc jB rfl dc rfl rfl rfl (mR (i:=t+(m:Int).toNat) (j:=0) (k:=0) (q:=q1) (cs:=(gg q1)) lL kX rfl dc rfl rfl (cI d u) rfl rfl rfl ?_)
    obtain⟨I,D,h⟩:=bj h
    refine dq (v:=.bool I) (vs:=[.agg (gg q1).toArray]) rfl dc rfl rfl rfl Lc (M9 (x1:=q1) D) (ac 1 rfl (az ?_))
    refine bG rfl h (fun h=>?_) (fun h=>?_)
    ·
     refine bH (cz (cy (ct (ac 1 rfl ?_))))
     obtain⟨G,h⟩:=bC h
     refine aO rfl (dN (r:=m+1) (ai _ G)) (ac 1 rfl (bU (cw ?_)))
     subst g
     exact ff (w,m+1) h (av _) rfl (aT rfl) (aH [0] kr rfl)
    refine dZ (cA (cA (ed ?_)))
    exact bx m h rfl (aT rfl) (aH [0] kr rfl)
   refine ac 6 rfl (az (eQ rfl (dZ (cA (cA (ed ?_))))))
   exact bx m h rfl (aT rfl) (aH [0] kr rfl)
 rintro J h
 rw[E] at h
 refine aC (ac 2 rfl (az (bI ?_)))
 cases h
 exact eO (rs:=[.tmp 2]) () (.inl rfl) results39 (.cons (.tmp rfl) .nil) rfl (aH [0] kr rfl)
def wZ (r1:Int):Option ab := aU ((r1:Int)==223) ( some (⟨#[115,115]⟩:ab)
) ( aU ((r1:Int)==230) ( some (⟨#[97,101]⟩:ab)
) ( aU ((r1:Int)==248) ( some (⟨#[111]⟩:ab)
) ( cJ (fun (j1:Bool→Option ab)=> aU ((r1:Int)==240) ( j1 ((r1:Int)==240)
) ( j1 ((r1:Int)==273)
)
) (fun (x1:Bool)=> aU (x1) ( some (⟨#[100]⟩:ab)
) ( aU ((r1:Int)==254) ( some (⟨#[116,104]⟩:ab)
) ( aU ((r1:Int)==295) ( some (⟨#[104]⟩:ab)
) ( aU ((r1:Int)==305) ( some (⟨#[105]⟩:ab)
) ( aU ((r1:Int)==307) ( some (⟨#[105,106]⟩:ab)
) ( aU ((r1:Int)==312) ( some (⟨#[113]⟩:ab)
) ( cJ (fun (j2:Bool→Option ab)=> aU ((r1:Int)==320) ( j2 ((r1:Int)==320)
) ( j2 ((r1:Int)==322)
)
) (fun (x2:Bool)=> aU (x2) ( some (⟨#[108]⟩:ab)
) ( aU ((r1:Int)==329) ( some (⟨#[110]⟩:ab)
) ( aU ((r1:Int)==331) ( some (⟨#[110,103]⟩:ab)
) ( aU ((r1:Int)==339) ( some (⟨#[111,101]⟩:ab)
) ( aU ((r1:Int)==359) ( some (⟨#[116]⟩:ab)
) ( aU ((r1:Int)==383) ( some (⟨#[115]⟩:ab)
) ( aU ((r1:Int)==962) ( some (⟨#[207,131]⟩:ab)
) ( aX (qp r1) fun (r2:ab)=> some r2
)
)
)
)
)
)
)
)
)
)
)
)
)
)
)
)
)
)
theorem Na {a:Int} {r:ab} (h:wZ a=some r):dO prog 149 [.int .i32 a] (.string r):=by
 unfold wZ at h
 refine dO.intro func149 rfl ntmps149 (by simp) ?_
 intro w0 K
 refine aC (ac 1 rfl (az (cm (aC (ac 1 rfl (az (cy (aC ?_))))))))
 refine aO rfl eE (ac 1 rfl (az ?_))
 refine bG rfl h (fun h=>?_) (fun h=>?_)
 ·
  refine aC (ac 1 rfl (az (bI (cE (bT ?_)))))
  cases h
  exact dk 2 du
 refine aC (aO rfl eE (ac 1 rfl (az ?_)))
 refine bG rfl h (fun h=>?_) (fun h=>?_)
 ·
  refine aC (ac 1 rfl (az (bI (cE (bT ?_)))))
  cases h
  exact dk 2 du
 refine aC (aO rfl eE (ac 1 rfl (az ?_)))
 refine bG rfl h (fun h=>?_) (fun h=>?_)
 ·
  refine aC (ac 1 rfl (az (bI (cE (bT ?_)))))
  cases h
  exact dk 2 du
 obtain⟨k,g,h⟩:=cP h
 refine c8 (β:=Bool) 0 rfl (fun b=>k b=some r) (fun b=>[]) (fun b=>[(0,.int .i32 a),(3,.int .i32 a),(10,.bool b)]) (fun b=>[]) (fun cut=>?_) ?_
 ·
  refine cut (aC (aO rfl eE (ac 1 rfl (az ?_))))
  refine bG rfl h (fun h=>?_) (fun h=>?_)
  ·
   refine bH ?_
   exact bx ((a:Int)==240) h rfl (aT rfl) ad
  refine ct (aO rfl eE (ac 1 rfl (bU ?_)))
  exact bx ((a:Int)==273) h rfl (aT rfl) ad
 rintro x1 h
 rw[g] at h
 refine bG rfl h (fun h=>?_) (fun h=>?_)
 ·
  refine aC (ac 1 rfl (az (bI (cE (bT ?_)))))
  cases h
  exact dk 2 du
 refine aC (aO rfl eE (ac 1 rfl (az ?_)))
 refine bG rfl h (fun h=>?_) (fun h=>?_)
 ·
  refine aC (ac 1 rfl (az (bI (cE (bT ?_)))))
  cases h
  exact dk 2 du
 refine aC (aO rfl eE (ac 1 rfl (az ?_)))
 refine bG rfl h (fun h=>?_) (fun h=>?_)
 ·
  refine aC (ac 1 rfl (az (bI (cE (bT ?_)))))
  cases h
  exact dk 2 du
 refine aC (aO rfl eE (ac 1 rfl (az ?_)))
 refine bG rfl h (fun h=>?_) (fun h=>?_)
 ·
  refine aC (ac 1 rfl (az (bI (cE (bT ?_)))))
  cases h
  exact dk 2 du
 refine aC (aO rfl eE (ac 1 rfl (az ?_)))
 refine bG rfl h (fun h=>?_) (fun h=>?_)
 ·
  refine aC (ac 1 rfl (az (bI (cE (bT ?_)))))
  cases h
  exact dk 2 du
 refine aC (aO rfl eE (ac 1 rfl (az ?_)))
 refine bG rfl h (fun h=>?_) (fun h=>?_)
 ·
  refine aC (ac 1 rfl (az (bI (cE (bT ?_)))))
  cases h
  exact dk 2 du
 obtain⟨j,e,h⟩:=cP h
 refine c8 (β:=Bool) 0 rfl (fun b=>j b=some r) (fun b=>[]) (fun b=>[(0,.int .i32 a),(3,.int .i32 a),(23,.bool b)]) (fun b=>[]) (fun cut=>?_) ?_
 ·
  refine cut (aC (aO rfl eE (ac 1 rfl (az ?_))))
  refine bG rfl h (fun h=>?_) (fun h=>?_)
  ·
   refine bH ?_
   exact bx ((a:Int)==320) h rfl (aT rfl) ad
  refine ct (aO rfl eE (ac 1 rfl (bU ?_)))
  exact bx ((a:Int)==322) h rfl (aT rfl) ad
 rintro x2 h
 rw[e] at h
 refine bG rfl h (fun h=>?_) (fun h=>?_)
 ·
  refine aC (ac 1 rfl (az (bI (cE (bT ?_)))))
  cases h
  exact dk 2 du
 refine aC (aO rfl eE (ac 1 rfl (az ?_)))
 refine bG rfl h (fun h=>?_) (fun h=>?_)
 ·
  refine aC (ac 1 rfl (az (bI (cE (bT ?_)))))
  cases h
  exact dk 2 du
 refine aC (aO rfl eE (ac 1 rfl (az ?_)))
 refine bG rfl h (fun h=>?_) (fun h=>?_)
 ·
  refine aC (ac 1 rfl (az (bI (cE (bT ?_)))))
  cases h
  exact dk 2 du
 refine aC (aO rfl eE (ac 1 rfl (az ?_)))
 refine bG rfl h (fun h=>?_) (fun h=>?_)
 ·
  refine aC (ac 1 rfl (az (bI (cE (bT ?_)))))
  cases h
  exact dk 2 du
 refine aC (aO rfl eE (ac 1 rfl (az ?_)))
 refine bG rfl h (fun h=>?_) (fun h=>?_)
 ·
  refine aC (ac 1 rfl (az (bI (cE (bT ?_)))))
  cases h
  exact dk 2 du
 refine aC (aO rfl eE (ac 1 rfl (az ?_)))
 refine bG rfl h (fun h=>?_) (fun h=>?_)
 ·
  refine aC (ac 1 rfl (az (bI (cE (bT ?_)))))
  cases h
  exact dk 2 du
 refine aC (aO rfl eE (ac 1 rfl (az ?_)))
 refine bG rfl h (fun h=>?_) (fun h=>?_)
 ·
  refine aC (ac 1 rfl (az (bI (cE (bT ?_)))))
  cases h
  exact dk 2 du
 refine bH (cw (cz (aC (ac 1 rfl ?_))))
 obtain⟨i,d,h⟩:=bj h
 refine dq (v:=.string i) (vs:=[.int .i32 a]) rfl dc rfl rfl rfl yp (yF d) (ac 1 rfl (az (bI ?_)))
 cases h
 exact dk 2 du
def zeV (j2:(List bX)→Option (List bX)) (q1:bX) (r2:(List Int)) (ag2:(List bX)→Int→Option (List bX)) (out8:List bX) (x6:Int):Option (List bX) := aU (decide ((x6:Int)<(r2.length:Int))) ( aX (zcy r2 x6) fun (q2:Int)=> aX (uJ q2 q1) fun (r3:bX)=> aY (out8.length+1≤2147483648) <| aY (cR (x6+1)) <| ag2 (out8++[r3]) (x6+1)
) ( j2 out8
)
def zen (l1:List bX) (j1:(List bX)→Option (List bX)) (ag1:(List bX)→Int→Option (List bX)) (out4:List bX) (x3:Int):Option (List bX) := aU (decide ((x3:Int)<(l1.length:Int))) ( cJ (fun (j2:(List bX)→Option (List bX))=> aX (zcy l1 x3) fun (q1:bX)=> aX (re q1) fun (r1:Bool)=> aU (!r1) ( aY (out4.length+1≤2147483648) <| j2 (out4++[q1])
) ( aX (uG q1.Rune) fun (r2:(List Int))=> zaI (fun _ _=>none) (zeV j2 q1 r2) zbH out4 0
)
) (fun (out5:List bX)=> aY (cR (x3+1)) <| ag1 out5 (x3+1)
)
) ( j1 out4
)
def zem (out12:List bX) (x9:Int) (j5:Nat→(List bX)→(List bX)→(List bX)→Option (List bX)) (r5:Int) (ag4:(List bX)→(List bX)→Int→Option (List bX)) (low5:List bX) (high4:List bX) (x12:Int):Option (List bX) := aU (decide ((x12:Int)<((fi out12 (x9+1) ((x9+1)+r5)).length:Int))) ( cJ (fun (j6:(List bX)→(List bX)→Option (List bX))=> aX (zcy (fi out12 (x9+1) ((x9+1)+r5)) x12) fun (q4:bX)=> aX (uH q4.Rune) fun (r6:Bool)=> aU (r6) ( aY (low5.length+1≤2147483648) <| j6 (low5++[q4]) high4
) ( aY (high4.length+1≤2147483648) <| j6 low5 (high4++[q4])
)
) (fun (low6:List bX) (high5:List bX)=> aY (cR (x12+1)) <| ag4 low6 high5 (x12+1)
)
) ( j5 (0+(x9+1:Int).toNat) (fi out12 (x9+1) ((x9+1)+r5)) low5 high4
)
def zce (out1:List bX) (j3:(List bX)→Option (List bX)) (ag3:(List bX)→Int→Option (List bX)) (out12:List bX) (x9:Int):Option (List bX) := aU (decide ((x9:Int)<(out1.length:Int))) ( cJ (fun (j4:(List bX)→Option (List bX))=> aX (zcy out12 x9) fun (q3:bX)=> aX (re q3) fun (r4:Bool)=> aU (!r4) ( j4 out12
) ( cJ (fun (j5:Nat→(List bX)→(List bX)→(List bX)→Option (List bX))=> aY (cR (x9+1)) <| aY (cR (x9+1)) <| aY (cR (x9+1)) <| aY (0≤(x9+1:Int)∧(x9+1:Int)≤(out12.length:Int)∧((out12.length:Int):Int)≤(out12.length:Int)) <| aX (s9 (fi out12 (x9+1) (out12.length:Int))) fun (r5:Int)=> aY (cR ((x9+1)+r5)) <| aY (0≤(x9+1:Int)∧(x9+1:Int)≤((x9+1)+r5)∧((x9+1)+r5:Int)≤(out12.length:Int)) <| zaI (fun _ _ _=>none) (zem out12 x9 j5 r5) zbH ([]:List bX) ([]:List bX) 0
) (fun (at1:Nat) (row1:List bX) (low1:List bX) (high1:List bX)=> aY (low1.length+high1.length≤2147483648) <| j4 (rL out12 at1 ((low1++high1).take row1.length))
)
)
) (fun (out13:List bX)=> aY (cR (x9+1)) <| ag3 out13 (x9+1)
)
) ( j3 out12
)
def tc (l1:List bX):Option (List bX) := cJ (fun (j1:(List bX)→Option (List bX))=> zaI (fun _ _=>none) (zen l1 j1) zbH ([]:List bX) 0
) (fun (out1:List bX)=> cJ (fun (j3:(List bX)→Option (List bX))=> zaI (fun _ _=>none) (zce out1 j3) zbH out1 0
) (fun (out9:List bX)=> some out9
)
)
theorem Bo {d D:Value} {l:List bX} {a5:Nat} {M:List bX} (H:Vw d l 3 a5 D M) {r:(List bX)} (h:tc M=some r):Fn prog 36 [D] [fv d l] (fun v0:Value=>v0) (fun v0=>[fv d l,fv v0 r]):=by
 unfold tc at h
 refine _root_.Go.Proofs.YtifpjbgnikjglaaGreatDoor.Fn.intro func36 rfl ntmps36 (by simp) ?_
 intro w0 K
 obtain⟨j1,eg,h⟩:=cP h
 refine c8 (β:=(List bX)×Value) 2 rfl (fun b=>j1 b.1=some r) (fun b=>[]) (fun b=>[(3,b.2)]) (fun b=>[fv d l,fv b.2 b.1]) (fun cut=>?_) ?_
 ·
  refine aC (ac 1 rfl (cv (ac 1 rfl (az (cut (aC (ac 1 rfl ?_)))))))
  refine iO H rfl dc rfl bc (ac 1 rfl (az (cy (nf (enc:=qh) (e:=81) (size:=3) ?_))))
  refine fh (β:=Nat×(List bX)×Int×Value) (fun b=>zaI (fun _ _=>none) (zen M j1) b.1 b.2.1 b.2.2.1=some r) (fun b=>[]) (fun b=>[(3,b.2.2.2),(15,D),(16,zI (M.length:Int)),(17,zI b.2.2.1)]) (fun b=>[fv d l,fv b.2.2.2 b.2.1]) (fun b=>b.1) (zbH,([]:List bX),0,(.slice none 0 0)) h rfl (aT rfl) (aH [0,1] kr rfl) ?_
  rintro⟨n1,t,x3,v4⟩ h
  cases n1 with
  | zero=>exact fa h
  | succ n1=>
   obtain⟨e2,V⟩:∃ag,ag=zaI (fun _ _=>none) (zen M j1) n1:=⟨_,rfl⟩
   have h:zen M j1 e2 t x3=some r:=by rw[V];exact h
   unfold zen at h
   refine aC (aO rfl ei (az (cm ?_)))
   refine bG rfl h (fun h=>?_) (fun h=>?_)
   ·
    refine bH (cz ?_)
    obtain⟨j2,ec,h⟩:=cP h
    refine c8 (β:=(List bX)×Value) 0 rfl (fun b=>j2 b.1=some r) (fun b=>[]) (fun b=>[(3,b.2),(15,D),(16,zI (M.length:Int)),(17,zI x3)]) (fun b=>[fv d l,fv b.2 b.1]) (fun cut=>?_) ?_
    ·
     refine cut (cy (aC ?_))
     obtain⟨q1,bb,h⟩:=bj h
     refine gq H bb bc jB rfl dc rfl rfl rfl (mR (i:=a5+(x3:Int).toNat) (j:=0) (k:=0) (q:=q1) (cs:=(gg q1)) lL kX rfl dc rfl rfl (cI H bb) rfl rfl rfl ?_)
     refine eN qf rfl dc (fun b1=>?_)
     refine eH (k:=2) (vs:=(gg q1)) (l':=(gg q1)) jB rfl rfl rfl rfl rfl (show _≤_ by simp) rfl rfl ?_
     refine az (cm (aC (gM (k:=2) (cs:=(gg q1)) lL rfl dc rfl rfl rfl rfl ?_)))
     obtain⟨r1,d5,h⟩:=bj h
     refine dq (v:=.bool r1) (vs:=[.agg (gg q1).toArray]) rfl dc rfl rfl rfl we (wW (x1:=q1) d5) (jq rfl dc rfl js (az ?_))
     refine bG rfl h (fun h=>?_) (fun h=>?_)
     ·
      refine aC (ac 1 rfl (gM (k:=2) (cs:=(gg q1)) lL rfl dc rfl rfl rfl rfl ?_))
      refine gl (cs:=(gg q1)) (te:=81) (ps:=[(0,.tmp 25)]) rfl dc rfl (fun _=>by kernel_rfl) (fun b2=>?_)
      obtain⟨ez,h⟩:=bC h
      refine iT (k:=1) (k2:=3) (ys:=[q1]) bc rR kX rT rfl dc rfl rfl rfl rfl rfl rfl ez (fun v6=>?_)
      refine ac 1 rfl (az (dZ (cA (ed ?_))))
      exact bx (t++[q1],v6) h rfl (aT rfl) (aH [0,1] kr rfl)
     refine bH (cz (aC (cf mq rfl dc rfl (show _=0 from rfl) (bF (k:=2) fT rfl dc rfl rfl rfl ?_))))
     obtain⟨r2,d4,h⟩:=bj h
     refine fY (vs:=[.int .i32 q1.Rune]) rfl dc rfl rfl rfl AD (F4 d4) ad ?_
     rintro v7
     refine iA (k:=3) rfl dc rfl rfl bf (ac 1 rfl (az (cy ?_)))
     refine fh (β:=Nat×(List bX)×Int×Value) (fun b=>zaI (fun _ _=>none) (zeV j2 q1 r2) b.1 b.2.1 b.2.2.1=some r) (fun b=>[]) (fun b=>[(3,b.2.2.2),(5,zP b1),(15,D),(16,zI (M.length:Int)),(17,zI x3),(30,v7),(31,zI (r2.length:Int)),(32,zI b.2.2.1)]) (fun b=>[fv d l,fv b.2.2.2 b.2.1,cells b1 (gg q1) 81,eo v7 r2]) (fun b=>b.1) (zbH,t,0,v4) h rfl (aT rfl) (aH [0,1,2,3] kr rfl) ?_
     rintro⟨n2,G,x6,dd⟩ h
     cases n2 with
     | zero=>exact fa h
     | succ n2=>
      obtain⟨e1,U⟩:∃ag,ag=zaI (fun _ _=>none) (zeV j2 q1 r2) n2:=⟨_,rfl⟩
      have h:zeV j2 q1 r2 e1 G x6=some r:=by rw[U];exact h
      unfold zeV at h
      refine aC (aO rfl ei (az (cm ?_)))
      refine bG rfl h (fun h=>?_) (fun h=>?_)
      ·
       refine bH (cz (cm (cy (aC ?_))))
       obtain⟨q2,a8,h⟩:=bj h
       refine fO (k:=3) a8 bf kq rfl dc rfl rfl rfl rfl (ib (i:=(x6:Int).toNat) (j:=0) (k:=3) (q:=q2) fT jh rfl dc rfl rfl (fb a8) rfl dc rfl (ac 1 rfl (az (ct (ac 2 rfl (gM (k:=2) (cs:=(gg q1)) lL rfl dc rfl rfl rfl rfl ?_))))))
       obtain⟨r3,d3,h⟩:=bj h
       refine dq (v:=.agg (gg r3).toArray) (vs:=[.int .i32 q2,.agg (gg q1).toArray]) rfl dc rfl rfl rfl E5 (F7 (x1:=q1) d3) ?_
       refine gl (cs:=(gg r3)) (te:=81) (ps:=[(0,.tmp 39)]) rfl dc rfl (fun _=>by kernel_rfl) (fun b3=>?_)
       obtain⟨ey,h⟩:=bC h
       refine iT (k:=1) (k2:=4) (ys:=[r3]) bc rR kX rT rfl dc rfl rfl rfl rfl rfl rfl ey (fun c5=>?_)
       refine ac 1 rfl (bU (cw (cz (ct ?_))))
       obtain⟨ex,h⟩:=bC h
       refine aO rfl (dN (r:=x6+1) (ai _ ex)) (ac 1 rfl (bU ?_))
       subst U
       exact ff (n2,G++[r3],x6+1,c5) h (av _) rfl (aT rfl) (aH [0,1,2,3] kr rfl)
      refine dZ (cA (cA (ed (cw ?_))))
      exact bx (G,dd) h rfl (aT rfl) (aH [0,1] kr rfl)
    rintro⟨a2,v5⟩ h
    rw[ec] at h
    refine ct ?_
    obtain⟨et,h⟩:=bC h
    refine aO rfl (dN (r:=x3+1) (ai _ et)) (ac 1 rfl (bU ?_))
    subst V
    exact ff (n1,a2,x3+1,v5) h (av _) rfl (aT rfl) (aH [0,1] kr rfl)
   refine dZ (cA (cA (ed ?_)))
   exact bx (t,v4) h rfl (aT rfl) (aH [0,1] kr rfl)
 rintro⟨g,n⟩ h
 rw[eg] at h
 obtain⟨j3,d9,h⟩:=cP h
 refine c8 (β:=(List bX)) 0 rfl (fun b=>j3 b=some r) (fun b=>[]) (fun b=>[(3,n)]) (fun b=>[fv d l,fv n b]) (fun cut=>?_) ?_
 ·
  refine cut (aC (ac 1 rfl (iA (k:=1) rfl dc rfl rfl bc (ac 1 rfl (az (cy ?_))))))
  refine fh (β:=Nat×(List bX)×Int) (fun b=>zaI (fun _ _=>none) (zce g j3) b.1 b.2.1 b.2.2=some r) (fun b=>[]) (fun b=>[(3,n),(44,n),(45,zI (g.length:Int)),(46,zI b.2.2)]) (fun b=>[fv d l,fv n b.2.1]) (fun b=>b.1) (zbH,g,0) h rfl (aT rfl) (aH [0,1] kr rfl) ?_
  rintro⟨n3,a,m⟩ h
  cases n3 with
  | zero=>exact fa h
  | succ n3=>
   obtain⟨e0,T⟩:∃ag,ag=zaI (fun _ _=>none) (zce g j3) n3:=⟨_,rfl⟩
   have h:zce g j3 e0 a m=some r:=by rw[T];exact h
   unfold zce at h
   refine aC (aO rfl ei (az (cm ?_)))
   refine bG rfl h (fun h=>?_) (fun h=>?_)
   ·
    refine bH (cz ?_)
    obtain⟨j4,d8,h⟩:=cP h
    refine c8 (β:=(List bX)) 0 rfl (fun b=>j4 b=some r) (fun b=>[]) (fun b=>[(3,n),(44,n),(45,zI (g.length:Int)),(46,zI m)]) (fun b=>[fv d l,fv n b]) (fun cut=>?_) ?_
    ·
     refine cut (cy (aC (ac 1 rfl ?_)))
     obtain⟨W,a7,h⟩:=bj h
     refine fO (k:=1) a7 bc jB rfl dc rfl rfl rfl rfl (mR (i:=(m:Int).toNat) (j:=0) (k:=1) (q:=W) (cs:=(gg W)) lL kX rfl dc rfl rfl (fb a7) rfl rfl rfl ?_)
     refine eN qf rfl dc (fun b4=>?_)
     refine ac 1 rfl (eH (k:=2) (vs:=(gg W)) (l':=(gg W)) jB rfl rfl rfl rfl rfl (show _≤_ by simp) rfl rfl ?_)
     refine az (cm (aC (gM (k:=2) (cs:=(gg W)) lL rfl dc rfl rfl rfl rfl ?_)))
     obtain⟨r4,d2,h⟩:=bj h
     refine dq (v:=.bool r4) (vs:=[.agg (gg W).toArray]) rfl dc rfl rfl rfl we (wW (x1:=W) d2) (jq rfl dc rfl js (az ?_))
     refine bG rfl h (fun h=>?_) (fun h=>?_)
     ·
      refine dZ (cA (ed ?_))
      exact bx a h rfl (aT rfl) (aH [0,1] kr rfl)
     refine bH (cz ?_)
     obtain⟨j5,d7,h⟩:=cP h
     refine c8 (β:=Nat×(List bX)×(List bX)×(List bX)×Value×Value×Value) 2 rfl (fun b=>j5 b.1 b.2.1 b.2.2.1 b.2.2.2.1=some r∧Vw n a 3 b.1 b.2.2.2.2.1 b.2.1) (fun b=>[]) (fun b=>[(3,n),(10,b.2.2.2.2.1),(11,b.2.2.2.2.2.1),(12,b.2.2.2.2.2.2),(44,n),(45,zI (g.length:Int)),(46,zI m)]) (fun b=>[fv d l,fv n a,fv b.2.2.2.2.2.1 b.2.2.1,fv b.2.2.2.2.2.2 b.2.2.2.1]) (fun cut=>?_) ?_
     ·
      refine aC (ac 2 rfl ?_)
      obtain⟨es,h⟩:=bC h
      refine aO rfl (dN (r:=m+1) (ai _ es)) (ac 1 rfl ?_)
      obtain⟨eq,h⟩:=bC h
      refine aO rfl (dN (r:=m+1) (ai _ eq)) (ac 2 rfl ?_)
      obtain⟨en,h⟩:=bC h
      refine aO rfl (dN (r:=m+1) (ai _ en)) ?_
      refine kG (k:=1) rfl (fun dj=>?_)
      obtain⟨em,h⟩:=bC h
      obtain⟨c4,ds,d0⟩:=oZ (lo:=some (zI (m+1))) (hi:=none) dj bc jB (.inr rfl) (.inl ⟨rfl,rfl⟩) em
      refine iz rfl dc rfl rfl rfl d0 ?_
      obtain⟨I,d1,h⟩:=bj h
      refine ox (v:=zI I) (vs:=[c4]) rfl dc rfl rfl rfl Ay (Bn ds d1) [1] kr rfl ?_
      obtain⟨ek,h⟩:=bC h
      refine aO rfl (dN (r:=(m+1)+I) (ai _ ek)) ?_
      refine kG (k:=1) rfl (fun di=>?_)
      obtain⟨b9,h⟩:=bC h
      obtain⟨E,J,dT⟩:=oZ (lo:=some (zI (m+1))) (hi:=some (zI ((m+1)+I))) di bc jB (.inr rfl) (.inr rfl) b9
      refine iz rfl dc rfl rfl rfl dT (ac 1 rfl (cv (ac 2 rfl (az (cut (aC (ac 1 rfl ?_)))))))
      refine iO J rfl dc rfl bc (ac 1 rfl (az (cy (nf (enc:=qh) (e:=81) (size:=3) ?_))))
      refine nf (enc:=qh) (e:=81) (size:=3) ?_
      refine fh (β:=Nat×(List bX)×(List bX)×Int×Value×Value) (fun b=>zaI (fun _ _ _=>none) (zem a m j5 I) b.1 b.2.1 b.2.2.1 b.2.2.2.1=some r) (fun b=>[]) (fun b=>[(3,n),(10,E),(11,b.2.2.2.2.1),(12,b.2.2.2.2.2),(44,n),(45,zI (g.length:Int)),(46,zI m),(66,E),(67,zI ((fi a (m+1) ((m+1)+I)).length:Int)),(68,zI b.2.2.2.1)]) (fun b=>[fv d l,fv n a,fv b.2.2.2.2.1 b.2.1,fv b.2.2.2.2.2 b.2.2.1]) (fun b=>b.1) (zbH,([]:List bX),([]:List bX),0,(.slice none 0 0),(.slice none 0 0)) h rfl (aT rfl) (aH [0,1,3,4] kr rfl) ?_
      rintro⟨n4,u,s,C,a0,aw⟩ h
      cases n4 with
      | zero=>exact fa h
      | succ n4=>
       obtain⟨eM,O⟩:∃ag,ag=zaI (fun _ _ _=>none) (zem a m j5 I) n4:=⟨_,rfl⟩
       have h:zem a m j5 I eM u s C=some r:=by rw[O];exact h
       unfold zem at h
       refine aC (aO rfl ei (az (cm ?_)))
       refine bG rfl h (fun h=>?_) (fun h=>?_)
       ·
        refine bH (cz ?_)
        obtain⟨j6,d6,h⟩:=cP h
        refine c8 (β:=(List bX)×(List bX)×Value×Value) 0 rfl (fun b=>j6 b.1 b.2.1=some r) (fun b=>[]) (fun b=>[(3,n),(10,E),(11,b.2.2.1),(12,b.2.2.2),(44,n),(45,zI (g.length:Int)),(46,zI m),(66,E),(67,zI ((fi a (m+1) ((m+1)+I)).length:Int)),(68,zI C)]) (fun b=>[fv d l,fv n a,fv b.2.2.1 b.1,fv b.2.2.2 b.2.1]) (fun cut=>?_) ?_
        ·
         refine cut (cy (aC ?_))
         obtain⟨w,a6,h⟩:=bj h
         refine gq J a6 bc jB rfl dc rfl rfl rfl (mR (i:=0+(m+1:Int).toNat+(C:Int).toNat) (j:=0) (k:=1) (q:=w) (cs:=(gg w)) lL kX rfl dc rfl rfl (cI J a6) rfl rfl rfl ?_)
         refine eN qf rfl dc (fun b5=>?_)
         refine eH (k:=4) (vs:=(gg w)) (l':=(gg w)) jB rfl rfl rfl rfl rfl (show _≤_ by simp) rfl rfl ?_
         refine cv (cf mq rfl dc rfl (show _=0 from rfl) (bF (k:=4) fT rfl dc rfl rfl rfl ?_))
         obtain⟨r6,a9,h⟩:=bj h
         refine dq (v:=.bool r6) (vs:=[.int .i32 w.Rune]) rfl dc rfl rfl rfl E4 (F5 a9) (az ?_)
         refine bG rfl h (fun h=>?_) (fun h=>?_)
         ·
          refine ct (ac 1 rfl (gM (k:=4) (cs:=(gg w)) lL rfl dc rfl rfl rfl rfl ?_))
          refine gl (cs:=(gg w)) (te:=81) (ps:=[(0,.tmp 76)]) rfl dc rfl (fun _=>by kernel_rfl) (fun b6=>?_)
          obtain⟨b8,h⟩:=bC h
          refine iT (k:=2) (k2:=5) (ys:=[w]) bc rR kX rT rfl dc rfl rfl rfl rfl rfl rfl b8 (fun ch=>?_)
          refine ac 1 rfl (bU (cw ?_))
          exact bx (u++[w],s,ch,aw) h rfl (aT rfl) (aH [0,1,2,3] kr rfl)
         refine ct (ac 1 rfl (gM (k:=4) (cs:=(gg w)) lL rfl dc rfl rfl rfl rfl ?_))
         refine gl (cs:=(gg w)) (te:=81) (ps:=[(0,.tmp 80)]) rfl dc rfl (fun _=>by kernel_rfl) (fun b7=>?_)
         obtain⟨b0,h⟩:=bC h
         refine iT (k:=3) (k2:=5) (ys:=[w]) bc rR kX rT rfl dc rfl rfl rfl rfl rfl rfl b0 (fun cc=>?_)
         refine ac 1 rfl (bU (cw ?_))
         exact bx (u,s++[w],a0,cc) h rfl (aT rfl) (aH [0,1,2,3] kr rfl)
        rintro⟨a3,Z,c3,c0⟩ h
        rw[d6] at h
        refine ct ?_
        obtain⟨bs,h⟩:=bC h
        refine aO rfl (dN (r:=C+1) (ai _ bs)) (ac 1 rfl (bU ?_))
        subst O
        exact ff (n4,a3,Z,C+1,c3,c0) h (av _) rfl (aT rfl) (aH [0,1,2,3] kr rfl)
       refine dZ (cA (cA (ed ?_)))
       exact bx (0+(m+1:Int).toNat,fi a (m+1) ((m+1)+I),u,s,E,a0,aw) ⟨h,J⟩ rfl (aT rfl) (aH [0,1,2,3] kr rfl)
     rintro⟨eL,a1,a4,ao,e7,e6,e5⟩ ⟨h,dn⟩
     rw[d7] at h
     refine ct (ac 3 rfl ?_)
     refine kG (k:=3) rfl (fun dg=>?_)
     obtain⟨bk,h⟩:=bC h
     refine zY (k:=2) (k2:=3) bc rR kX rT dg rfl dc rfl rfl rfl rfl bk (fun e4=>?_)
     refine kG (k:=2) rfl (fun df=>?_)
     refine JK (k:=1) (k2:=2) bc rR kX rT dn df rfl dc rfl rfl rfl rfl ?_
     refine bU (cw ?_)
     exact bx (rL a eL ((a4++ao).take a1.length)) h rfl (aT rfl) (aH [0,1] kr rfl)
    rintro Y h
    rw[d8] at h
    refine ct ?_
    obtain⟨bh,h⟩:=bC h
    refine aO rfl (dN (r:=m+1) (ai _ bh)) (ac 1 rfl (bU ?_))
    subst T
    exact ff (n3,Y,m+1) h (av _) rfl (aT rfl) (aH [0,1] kr rfl)
   refine dZ (cA (cA (ed ?_)))
   exact bx a h rfl (aT rfl) (aH [0,1] kr rfl)
 rintro e3 h
 rw[d9] at h
 refine aC (ac 2 rfl (az (bI ?_)))
 cases h
 exact eO (rs:=[.tmp 2]) n (.inl rfl) results36 (.cons (.tmp rfl) .nil) rfl (aH [0,1] kr rfl)
def zdO (j1:(List bX)→Option (List bX)) (r1:(List bX)) (ag1:(List bX)→Int→Option (List bX)) (out4:List bX) (i3:Int):Option (List bX) := aU (decide ((i3:Int)<(r1.length:Int))) ( cJ (fun (j2:(List bX)→Int→Option (List bX))=> aX (zcy r1 i3) fun (q1:bX)=> aY (out4.length+1≤2147483648) <| aX (zcy r1 i3) fun (q2:bX)=> aX (re q2) fun (r2:Bool)=> aU (r2) ( aY (cR (i3+1)) <| aY (0≤(i3+1:Int)∧(i3+1:Int)≤(r1.length:Int)∧((r1.length:Int):Int)≤(r1.length:Int)) <| aX (s9 (fi r1 (i3+1) (r1.length:Int))) fun (r3:Int)=> aY (cR (i3+r3)) <| j2 (out4++[q1]) (i3+r3)
) ( j2 (out4++[q1]) i3
)
) (fun (out5:List bX) (i4:Int)=> aY (cR (i4+1)) <| ag1 out5 (i4+1)
)
) ( j1 out4
)
def w3 (l1:List bX):Option (List bX) := cJ (fun (j1:(List bX)→Option (List bX))=> aX (tc l1) fun (r1:(List bX))=> zaI (fun _ _=>none) (zdO j1 r1) zbH ([]:List bX) 0
) (fun (out1:List bX)=> some out1
)
theorem Nb {a n:Value} {g:List bX} {I:Nat} {l1:List bX} (u:Vw a g 3 I n l1) {r:(List bX)} (h:w3 l1=some r):Fn prog 148 [n] [fv a g] (fun v0:Value=>v0) (fun v0=>[fv a g,fv v0 r]):=by
 unfold w3 at h
 refine _root_.Go.Proofs.YtifpjbgnikjglaaGreatDoor.Fn.intro func148 rfl ntmps148 (by simp) ?_
 intro w0 K
 obtain⟨G,Y,h⟩:=cP h
 refine c8 (β:=(List bX)×Value) 3 rfl (fun b=>G b.1=some r) (fun b=>[]) (fun b=>[(3,b.2)]) (fun b=>[fv a g,fv b.2 b.1]) (fun cut=>?_) ?_
 ·
  refine aC (ac 1 rfl (cv (ac 1 rfl ?_)))
  obtain⟨s,V,h⟩:=bj h
  refine fY (vs:=[n]) rfl dc rfl rfl rfl Ax (Bo u V) (aH [0] kr rfl) ?_
  rintro D
  refine ac 1 rfl (cv (ac 1 rfl (az (cut (aC (ac 1 rfl (az ?_)))))))
  refine cy (nf (enc:=qh) (e:=81) (size:=3) ?_)
  refine fh (β:=Nat×(List bX)×Int×Value) (fun b=>zaI (fun _ _=>none) (zdO G s) b.1 b.2.1 b.2.2.1=some r) (fun b=>[]) (fun b=>[(0,D),(3,b.2.2.2),(4,zI b.2.2.1)]) (fun b=>[fv a g,fv D s,fv b.2.2.2 b.2.1]) (fun b=>b.1) (zbH,([]:List bX),0,(.slice none 0 0)) h rfl (aT rfl) (aH [1,2,3] kr rfl) ?_
  rintro⟨E,d,l,v5⟩ h
  cases E with
  | zero=>exact fa h
  | succ E=>
   obtain⟨a2,m⟩:∃ag,ag=zaI (fun _ _=>none) (zdO G s) E:=⟨_,rfl⟩
   have h:zdO G s a2 d l=some r:=by rw[m];exact h
   unfold zdO at h
   refine cm (aC (ac 2 rfl (iA (k:=1) rfl dc rfl rfl bc (aO rfl ei (az ?_)))))
   refine bG rfl h (fun h=>?_) (fun h=>?_)
   ·
    refine bH (cz ?_)
    obtain⟨j2,W,h⟩:=cP h
    refine c8 (β:=(List bX)×Int×Value) 0 rfl (fun b=>j2 b.1 b.2.1=some r) (fun b=>[]) (fun b=>[(0,D),(3,b.2.2),(4,zI b.2.1)]) (fun b=>[fv a g,fv D s,fv b.2.2 b.1]) (fun cut=>?_) ?_
    ·
     refine cut (cy (aC (ac 3 rfl ?_)))
     obtain⟨q1,C,h⟩:=bj h
     refine fO (k:=1) C bc jB rfl dc rfl rfl rfl rfl (mR (i:=(l:Int).toNat) (j:=0) (k:=1) (q:=q1) (cs:=(gg q1)) lL kX rfl dc rfl rfl (fb C) rfl rfl rfl ?_)
     refine gl (cs:=(gg q1)) (te:=81) (ps:=[(0,.tmp 17)]) rfl dc rfl (fun _=>by kernel_rfl) (fun b1=>?_)
     obtain⟨a1,h⟩:=bC h
     refine iT (k:=2) (k2:=3) (ys:=[q1]) bc rR kX rT rfl dc rfl rfl rfl rfl rfl rfl a1 (fun v7=>?_)
     refine ac 1 rfl (cv (ac 2 rfl ?_))
     obtain⟨q2,w,h⟩:=bj h
     refine fO (k:=1) w bc jB rfl dc rfl rfl rfl rfl (mR (i:=(l:Int).toNat) (j:=0) (k:=1) (q:=q2) (cs:=(gg q2)) lL kX rfl dc rfl rfl (fb w) rfl rfl rfl ?_)
     obtain⟨r2,U,h⟩:=bj h
     refine dq (v:=.bool r2) (vs:=[.agg (gg q2).toArray]) rfl dc rfl rfl rfl we (wW (x1:=q2) U) (az ?_)
     refine bG rfl h (fun h=>?_) (fun h=>?_)
     ·
      refine ct (ac 3 rfl ?_)
      obtain⟨a0,h⟩:=bC h
      refine aO rfl (dN (r:=l+1) (ai _ a0)) ?_
      refine kG (k:=1) rfl (fun J=>?_)
      obtain⟨aw,h⟩:=bC h
      obtain⟨v8,M,O⟩:=oZ (lo:=some (zI (l+1))) (hi:=none) J bc jB (.inr rfl) (.inl ⟨rfl,rfl⟩) aw
      refine iz rfl dc rfl rfl rfl O ?_
      obtain⟨H,T,h⟩:=bj h
      refine ox (v:=zI H) (vs:=[v8]) rfl dc rfl rfl rfl Ay (Bn M T) [1] kr rfl ?_
      obtain⟨ao,h⟩:=bC h
      refine aO rfl (dN (r:=l+H) (ai _ ao)) (ac 1 rfl (bU (cw ?_)))
      exact bx (d++[q1],l+H,v7) h rfl (aT rfl) (aH [0,1,2] kr rfl)
     refine bH (cw ?_)
     exact bx (d++[q1],l,v7) h rfl (aT rfl) (aH [0,1,2] kr rfl)
    rintro⟨t,i4,v6⟩ h
    rw[W] at h
    refine ct (ac 1 rfl ?_)
    obtain⟨Z,h⟩:=bC h
    refine aO rfl (dN (r:=i4+1) (ai _ Z)) (ac 1 rfl (bU ?_))
    subst m
    exact ff (E,t,i4+1,v6) h (av _) rfl (aT rfl) (aH [0,1,2] kr rfl)
   refine dZ (cA (cA (ed ?_)))
   exact bx (d,v5) h rfl (aT rfl) (aH [0,2] kr rfl)
 rintro⟨a3,v1⟩ h
 rw[Y] at h
 refine aC (ac 2 rfl (az (bI ?_)))
 cases h
 exact eO (rs:=[.tmp 2]) v1 (.inl rfl) results148 (.cons (.tmp rfl) .nil) rfl (aH [0,1] kr rfl)
def zdV (j1:(List bX)→Option (List bX)) (r2:(List bX)) (ag1:(List bX)→Int→Option (List bX)) (l4:List bX) (x3:Int):Option (List bX) := aU (decide ((x3:Int)<(r2.length:Int))) ( cJ (fun (j2:(List bX)→Option (List bX))=> aX (zcy l4 x3) fun (q1:bX)=> aX (re q1) fun (r3:Bool)=> aU (r3) ( aY (fN q1.Rune) <| aX (wZ (ee q1.Rune)) fun (r4:ab)=> aX (zcy l4 x3) fun (q2:bX)=> j2 (l4.set (x3:Int).toNat (⟨q2.Rune,r4,q2.At⟩:bX))
) ( j2 l4
)
) (fun (l5:List bX)=> aY (cR (x3+1)) <| ag1 l5 (x3+1)
)
) ( j1 l4
)
def w4 (s1:ab):Option (List bX) := cJ (fun (j1:(List bX)→Option (List bX))=> aX (rf s1) fun (r1:(List bX))=> aX (w3 r1) fun (r2:(List bX))=> zaI (fun _ _=>none) (zdV j1 r2) zbH r2 0
) (fun (l1:List bX)=> some l1
)
theorem Nc {C:ab} {r:(List bX)} (h:w4 C=some r):Fn prog 113 [.string C] [] (fun v0:Value=>v0) (fun v0=>[fv v0 r]):=by
 unfold w4 at h
 refine _root_.Go.Proofs.YtifpjbgnikjglaaGreatDoor.Fn.intro func113 rfl ntmps113 (by simp) ?_
 intro w0 K
 obtain⟨u,O,h⟩:=cP h
 refine c8 (β:=(List bX)×Value) 2 rfl (fun b=>u b.1=some r) (fun b=>[]) (fun b=>[(3,b.2)]) (fun b=>[fv b.2 b.1]) (fun cut=>?_) ?_
 ·
  refine aC (ac 1 rfl (cv (ac 1 rfl ?_)))
  obtain⟨r1,J,h⟩:=bj h
  refine fY (vs:=[.string C]) rfl dc rfl rfl rfl wc (wY J) ad ?_
  rintro V
  refine kG (k:=0) rfl (fun E=>?_)
  obtain⟨g,I,h⟩:=bj h
  refine fY (vs:=[V]) rfl dc rfl rfl rfl LH (Nb E I) (aH [0] kr rfl) ?_
  rintro e
  refine ac 1 rfl (az (cut (aC (ac 1 rfl (iA (k:=2) rfl dc rfl rfl bc (ac 1 rfl (az (cy ?_))))))))
  refine fh (β:=Nat×(List bX)×Int) (fun b=>zaI (fun _ _=>none) (zdV u g) b.1 b.2.1 b.2.2=some r) (fun b=>[]) (fun b=>[(3,e),(9,e),(10,zI (g.length:Int)),(11,zI b.2.2)]) (fun b=>[fv e b.2.1]) (fun b=>b.1) (zbH,g,0) h rfl (aT rfl) (aH [2] kr rfl) ?_
  rintro⟨s,t,a⟩ h
  cases s with
  | zero=>exact fa h
  | succ s=>
   obtain⟨U,d⟩:∃ag,ag=zaI (fun _ _=>none) (zdV u g) s:=⟨_,rfl⟩
   have h:zdV u g U t a=some r:=by rw[d];exact h
   unfold zdV at h
   refine aC (aO rfl ei (az (cm ?_)))
   refine bG rfl h (fun h=>?_) (fun h=>?_)
   ·
    refine bH (cz ?_)
    obtain⟨j2,M,h⟩:=cP h
    refine c8 (β:=(List bX)) 0 rfl (fun b=>j2 b=some r) (fun b=>[]) (fun b=>[(3,e),(9,e),(10,zI (g.length:Int)),(11,zI a)]) (fun b=>[fv e b]) (fun cut=>?_) ?_
    ·
     refine cut (cy (aC (ac 1 rfl ?_)))
     obtain⟨q1,m,h⟩:=bj h
     refine fO (k:=0) m bc jB rfl dc rfl rfl rfl rfl (mR (i:=(a:Int).toNat) (j:=0) (k:=0) (q:=q1) (cs:=(gg q1)) lL kX rfl dc rfl rfl (fb m) rfl rfl rfl ?_)
     refine eN qf rfl dc (fun b1=>?_)
     refine ac 1 rfl (eH (k:=1) (vs:=(gg q1)) (l':=(gg q1)) jB rfl rfl rfl rfl rfl (show _≤_ by simp) rfl rfl ?_)
     refine cv (gM (k:=1) (cs:=(gg q1)) lL rfl dc rfl rfl rfl rfl ?_)
     obtain⟨Y,H,h⟩:=bj h
     refine dq (v:=.bool Y) (vs:=[.agg (gg q1).toArray]) rfl dc rfl rfl rfl we (wW (x1:=q1) H) (az ?_)
     refine bG rfl h (fun h=>?_) (fun h=>?_)
     ·
      refine ct (ac 2 rfl (cf mq rfl dc rfl (show _=0 from rfl) (bF (k:=1) fT rfl dc rfl rfl rfl ?_)))
      obtain⟨n,h⟩:=bC h
      refine dq (v:=.int .i32 (ee q1.Rune)) (vs:=[.int .i32 q1.Rune]) rfl dc rfl rfl rfl Ff (nP fun w=>FO q1.Rune w n.1 n.2) ?_
      obtain⟨D,G,h⟩:=bj h
      refine dq (v:=.string D) (vs:=[.int .i32 (ee q1.Rune)]) rfl dc rfl rfl rfl LK (Na G) ?_
      obtain⟨q2,l,h⟩:=bj h
      refine fO (k:=0) l bc jB rfl dc rfl rfl rfl rfl (cf rQ rfl dc rfl (show _=((a:Int).toNat)*3+1 from rfl) ?_)
      refine p4 (i:=(a:Int).toNat) (j:=1) (k:=0) (q:=q2) (q':=(⟨q2.Rune,D,q2.At⟩:bX)) gm kX rfl rfl rfl rfl (fb l) rfl dc rfl (fun _ _=>rfl) ?_
      refine bU (cw ?_)
      exact bx (t.set (a:Int).toNat (⟨q2.Rune,D,q2.At⟩:bX)) h rfl (aT rfl) (aH [0] kr rfl)
     refine bH (cw ?_)
     exact bx t h rfl (aT rfl) (aH [0] kr rfl)
    rintro Z h
    rw[M] at h
    refine ct ?_
    obtain⟨T,h⟩:=bC h
    refine aO rfl (dN (r:=a+1) (ai _ T)) (ac 1 rfl (bU ?_))
    subst d
    exact ff (s,Z,a+1) h (av _) rfl (aT rfl) (aH [0] kr rfl)
   refine dZ (cA (cA (ed ?_)))
   exact bx (t,e) h rfl (aT rfl) (aH [0] kr rfl)
 rintro⟨l1,W⟩ h
 rw[O] at h
 refine aC (ac 2 rfl (az (bI ?_)))
 cases h
 exact eO (rs:=[.tmp 2]) W (.inl rfl) results113 (.cons (.tmp rfl) .nil) rfl (aH [0] kr rfl)
def uK (s1:ab):Option ab := aX (w4 s1) fun (r1:(List bX))=> aX (uI r1) fun (r2:ab)=> some r2
theorem F8 {a:ab} {r:ab} (h:uK a=some r):dO prog 59 [.string a] (.string r):=by
 unfold uK at h
 refine dO.intro func59 rfl ntmps59 (by simp) ?_
 intro w0 K
 refine aC (ac 1 rfl (cv (ac 1 rfl ?_)))
 obtain⟨l,g,h⟩:=bj h
 refine fY (vs:=[.string a]) rfl dc rfl rfl rfl Lq (Nc g) ad ?_
 rintro i
 refine kG (k:=0) rfl (fun d=>?_)
 obtain⟨j,e,h⟩:=bj h
 refine nj (v:=.string j) (vs:=[i]) (Rd.nil:Rd _ _ []) rfl dc rfl rfl rfl Fg (F6 d e) (.own (As:=[fv i l]) (aH [0] kr rfl) (fun _ _ h=>nU kX (aI.1 h)) .nil) ?_
 refine ac 1 rfl (az (bI ?_))
 cases h
 exact dk 2 results59
abbrev fP:ab:=⟨#[195,159,115,115,32,195,166,97,101,32,195,184,111,32,195,176,100,32,195,190,116,104,32,196,145,100,32,196,167,104,32,196,177,105,32,196,179,105,106,32,196,184,113,32,197,128,108,32,197,130,108,32,197,137,110,32,197,139,110,103,32,197,147,111,101,32,197,167,116,32,197,191,115,32,207,130,207,131,32]⟩
def w5 (r1:Int):Option Bool := cJ (fun (j1:Bool→Option Bool)=> aU (decide ((790:Int)≤r1)) ( aU (decide ((r1:Int)≤793)) ( j1 (decide ((r1:Int)≤793))
) ( aU (decide ((796:Int)≤r1)) ( aU (decide ((r1:Int)≤800)) ( j1 (decide ((r1:Int)≤800))
) ( aU (decide ((803:Int)≤r1)) ( aU (decide ((r1:Int)≤819)) ( j1 (decide ((r1:Int)≤819))
) ( aU (decide ((825:Int)≤r1)) ( aU (decide ((r1:Int)≤828)) ( j1 (decide ((r1:Int)≤828))
) ( aU (decide ((837:Int)≤r1)) ( j1 (decide ((r1:Int)≤841))
) ( j1 false
)
)
) ( aU (decide ((837:Int)≤r1)) ( j1 (decide ((r1:Int)≤841))
) ( j1 false
)
)
)
) ( aU (decide ((825:Int)≤r1)) ( aU (decide ((r1:Int)≤828)) ( j1 (decide ((r1:Int)≤828))
) ( aU (decide ((837:Int)≤r1)) ( j1 (decide ((r1:Int)≤841))
) ( j1 false
)
)
) ( aU (decide ((837:Int)≤r1)) ( j1 (decide ((r1:Int)≤841))
) ( j1 false
)
)
)
)
) ( aU (decide ((803:Int)≤r1)) ( aU (decide ((r1:Int)≤819)) ( j1 (decide ((r1:Int)≤819))
) ( aU (decide ((825:Int)≤r1)) ( aU (decide ((r1:Int)≤828)) ( j1 (decide ((r1:Int)≤828))
) ( aU (decide ((837:Int)≤r1)) ( j1 (decide ((r1:Int)≤841))
) ( j1 false
)
)
) ( aU (decide ((837:Int)≤r1)) ( j1 (decide ((r1:Int)≤841))
) ( j1 false
)
)
)
) ( aU (decide ((825:Int)≤r1)) ( aU (decide ((r1:Int)≤828)) ( j1 (decide ((r1:Int)≤828))
) ( aU (decide ((837:Int)≤r1)) ( j1 (decide ((r1:Int)≤841))
) ( j1 false
)
)
) ( aU (decide ((837:Int)≤r1)) ( j1 (decide ((r1:Int)≤841))
) ( j1 false
)
)
)
)
)
) ( aU (decide ((796:Int)≤r1)) ( aU (decide ((r1:Int)≤800)) ( j1 (decide ((r1:Int)≤800))
) ( aU (decide ((803:Int)≤r1)) ( aU (decide ((r1:Int)≤819)) ( j1 (decide ((r1:Int)≤819))
) ( aU (decide ((825:Int)≤r1)) ( aU (decide ((r1:Int)≤828)) ( j1 (decide ((r1:Int)≤828))
) ( aU (decide ((837:Int)≤r1)) ( j1 (decide ((r1:Int)≤841))
) ( j1 false
)
)
) ( aU (decide ((837:Int)≤r1)) ( j1 (decide ((r1:Int)≤841))
) ( j1 false
)
)
)
) ( aU (decide ((825:Int)≤r1)) ( aU (decide ((r1:Int)≤828)) ( j1 (decide ((r1:Int)≤828))
) ( aU (decide ((837:Int)≤r1)) ( j1 (decide ((r1:Int)≤841))
) ( j1 false
)
)
) ( aU (decide ((837:Int)≤r1)) ( j1 (decide ((r1:Int)≤841))
) ( j1 false
)
)
)
)
) ( aU (decide ((803:Int)≤r1)) ( aU (decide ((r1:Int)≤819)) ( j1 (decide ((r1:Int)≤819))
) ( aU (decide ((825:Int)≤r1)) ( aU (decide ((r1:Int)≤828)) ( j1 (decide ((r1:Int)≤828))
) ( aU (decide ((837:Int)≤r1)) ( j1 (decide ((r1:Int)≤841))
) ( j1 false
)
)
) ( aU (decide ((837:Int)≤r1)) ( j1 (decide ((r1:Int)≤841))
) ( j1 false
)
)
)
) ( aU (decide ((825:Int)≤r1)) ( aU (decide ((r1:Int)≤828)) ( j1 (decide ((r1:Int)≤828))
) ( aU (decide ((837:Int)≤r1)) ( j1 (decide ((r1:Int)≤841))
) ( j1 false
)
)
) ( aU (decide ((837:Int)≤r1)) ( j1 (decide ((r1:Int)≤841))
) ( j1 false
)
)
)
)
)
) (fun (x1:Bool)=> aU (x1) ( some true
) ( cJ (fun (j2:Bool→Option Bool)=> aU (decide ((845:Int)≤r1)) ( aU (decide ((r1:Int)≤846)) ( j2 (decide ((r1:Int)≤846))
) ( aU (decide ((851:Int)≤r1)) ( aU (decide ((r1:Int)≤854)) ( j2 (decide ((r1:Int)≤854))
) ( aU (decide ((857:Int)≤r1)) ( j2 (decide ((r1:Int)≤858))
) ( j2 false
)
)
) ( aU (decide ((857:Int)≤r1)) ( j2 (decide ((r1:Int)≤858))
) ( j2 false
)
)
)
) ( aU (decide ((851:Int)≤r1)) ( aU (decide ((r1:Int)≤854)) ( j2 (decide ((r1:Int)≤854))
) ( aU (decide ((857:Int)≤r1)) ( j2 (decide ((r1:Int)≤858))
) ( j2 false
)
)
) ( aU (decide ((857:Int)≤r1)) ( j2 (decide ((r1:Int)≤858))
) ( j2 false
)
)
)
) (fun (x2:Bool)=> aU (x2) ( some true
) ( some false
)
)
)
)
theorem Nd {a:Int} {r:Bool} (h:w5 a=some r):dO prog 159 [.int .i32 a] (.bool r):=by
 unfold w5 at h
 refine dO.intro func159 rfl ntmps159 (by simp) ?_
 intro w0 K
 refine aC (ac 1 rfl (az (cm (cy ?_))))
 obtain⟨i,e,h⟩:=cP h
 refine c8 (β:=Bool) 0 rfl (fun b=>i b=some r) (fun b=>[]) (fun b=>[(0,.int .i32 a),(3,.bool b)]) (fun b=>[]) (fun cut=>?_) ?_
 ·
  refine cut (aC (ac 1 rfl (aO rfl fG (ac 1 rfl ?_))))
  refine dG (s:=6) rfl h (fun h=>?_) (fun h=>?_)
  ·
   refine ac 1 rfl (aO rfl ia (ac 2 rfl (az ?_)))
   refine bG rfl h (fun h=>?_) (fun h=>?_)
   ·
    refine bH ?_
    exact bx (decide ((a:Int)≤793)) h rfl (aT rfl) ad
   refine aC (ac 1 rfl (aO rfl fG (ac 1 rfl ?_)))
   refine dG (s:=12) rfl h (fun h=>?_) (fun h=>?_)
   ·
    refine ac 1 rfl (aO rfl ia (ac 2 rfl (az ?_)))
    refine bG rfl h (fun h=>?_) (fun h=>?_)
    ·
     refine bH ?_
     exact bx (decide ((a:Int)≤800)) h rfl (aT rfl) ad
    refine aC (ac 1 rfl (aO rfl fG (ac 1 rfl ?_)))
    refine dG (s:=18) rfl h (fun h=>?_) (fun h=>?_)
    ·
     refine ac 1 rfl (aO rfl ia (ac 2 rfl (az ?_)))
     refine bG rfl h (fun h=>?_) (fun h=>?_)
     ·
      refine bH ?_
      exact bx (decide ((a:Int)≤819)) h rfl (aT rfl) ad
     refine aC (ac 1 rfl (aO rfl fG (ac 1 rfl ?_)))
     refine dG (s:=24) rfl h (fun h=>?_) (fun h=>?_)
     ·
      refine ac 1 rfl (aO rfl ia (ac 2 rfl (az ?_)))
      refine bG rfl h (fun h=>?_) (fun h=>?_)
      ·
       refine bH ?_
       exact bx (decide ((a:Int)≤828)) h rfl (aT rfl) ad
      refine ct (ac 1 rfl (aO rfl fG (ac 1 rfl ?_)))
      refine dG (s:=30) rfl h (fun h=>?_) (fun h=>?_)
      ·
       refine ac 1 rfl (aO rfl ia (ac 2 rfl (bU ?_)))
       exact bx (decide ((a:Int)≤841)) h rfl (aT rfl) ad
      refine ac 4 rfl (bU ?_)
      exact bx false h rfl (aT rfl) ad
     refine ac 4 rfl (az (eQ rfl (ct (ac 1 rfl (aO rfl fG (ac 1 rfl ?_))))))
     refine dG (s:=30) rfl h (fun h=>?_) (fun h=>?_)
     ·
      refine ac 1 rfl (aO rfl ia (ac 2 rfl (bU ?_)))
      exact bx (decide ((a:Int)≤841)) h rfl (aT rfl) ad
     refine ac 4 rfl (bU ?_)
     exact bx false h rfl (aT rfl) ad
    refine ac 4 rfl (az (eQ rfl (aC (ac 1 rfl (aO rfl fG (ac 1 rfl ?_))))))
    refine dG (s:=24) rfl h (fun h=>?_) (fun h=>?_)
    ·
     refine ac 1 rfl (aO rfl ia (ac 2 rfl (az ?_)))
     refine bG rfl h (fun h=>?_) (fun h=>?_)
     ·
      refine bH ?_
      exact bx (decide ((a:Int)≤828)) h rfl (aT rfl) ad
     refine ct (ac 1 rfl (aO rfl fG (ac 1 rfl ?_)))
     refine dG (s:=30) rfl h (fun h=>?_) (fun h=>?_)
     ·
      refine ac 1 rfl (aO rfl ia (ac 2 rfl (bU ?_)))
      exact bx (decide ((a:Int)≤841)) h rfl (aT rfl) ad
     refine ac 4 rfl (bU ?_)
     exact bx false h rfl (aT rfl) ad
    refine ac 4 rfl (az (eQ rfl (ct (ac 1 rfl (aO rfl fG (ac 1 rfl ?_))))))
    refine dG (s:=30) rfl h (fun h=>?_) (fun h=>?_)
    ·
     refine ac 1 rfl (aO rfl ia (ac 2 rfl (bU ?_)))
     exact bx (decide ((a:Int)≤841)) h rfl (aT rfl) ad
    refine ac 4 rfl (bU ?_)
    exact bx false h rfl (aT rfl) ad
   refine ac 4 rfl (az (eQ rfl (aC (ac 1 rfl (aO rfl fG (ac 1 rfl ?_))))))
   refine dG (s:=18) rfl h (fun h=>?_) (fun h=>?_)
   ·
    refine ac 1 rfl (aO rfl ia (ac 2 rfl (az ?_)))
    refine bG rfl h (fun h=>?_) (fun h=>?_)
    ·
     refine bH ?_
     exact bx (decide ((a:Int)≤819)) h rfl (aT rfl) ad
    refine aC (ac 1 rfl (aO rfl fG (ac 1 rfl ?_)))
    refine dG (s:=24) rfl h (fun h=>?_) (fun h=>?_)
    ·
     refine ac 1 rfl (aO rfl ia (ac 2 rfl (az ?_)))
     refine bG rfl h (fun h=>?_) (fun h=>?_)
     ·
      refine bH ?_
      exact bx (decide ((a:Int)≤828)) h rfl (aT rfl) ad
     refine ct (ac 1 rfl (aO rfl fG (ac 1 rfl ?_)))
     refine dG (s:=30) rfl h (fun h=>?_) (fun h=>?_)
     ·
      refine ac 1 rfl (aO rfl ia (ac 2 rfl (bU ?_)))
      exact bx (decide ((a:Int)≤841)) h rfl (aT rfl) ad
     refine ac 4 rfl (bU ?_)
     exact bx false h rfl (aT rfl) ad
    refine ac 4 rfl (az (eQ rfl (ct (ac 1 rfl (aO rfl fG (ac 1 rfl ?_))))))
    refine dG (s:=30) rfl h (fun h=>?_) (fun h=>?_)
    ·
     refine ac 1 rfl (aO rfl ia (ac 2 rfl (bU ?_)))
     exact bx (decide ((a:Int)≤841)) h rfl (aT rfl) ad
    refine ac 4 rfl (bU ?_)
    exact bx false h rfl (aT rfl) ad
   refine ac 4 rfl (az (eQ rfl (aC (ac 1 rfl (aO rfl fG (ac 1 rfl ?_))))))
   refine dG (s:=24) rfl h (fun h=>?_) (fun h=>?_)
   ·
    refine ac 1 rfl (aO rfl ia (ac 2 rfl (az ?_)))
    refine bG rfl h (fun h=>?_) (fun h=>?_)
    ·
     refine bH ?_
     exact bx (decide ((a:Int)≤828)) h rfl (aT rfl) ad
    refine ct (ac 1 rfl (aO rfl fG (ac 1 rfl ?_)))
    refine dG (s:=30) rfl h (fun h=>?_) (fun h=>?_)
    ·
     refine ac 1 rfl (aO rfl ia (ac 2 rfl (bU ?_)))
     exact bx (decide ((a:Int)≤841)) h rfl (aT rfl) ad
    refine ac 4 rfl (bU ?_)
    exact bx false h rfl (aT rfl) ad
   refine ac 4 rfl (az (eQ rfl (ct (ac 1 rfl (aO rfl fG (ac 1 rfl ?_))))))
   refine dG (s:=30) rfl h (fun h=>?_) (fun h=>?_)
   ·
    refine ac 1 rfl (aO rfl ia (ac 2 rfl (bU ?_)))
    exact bx (decide ((a:Int)≤841)) h rfl (aT rfl) ad
   refine ac 4 rfl (bU ?_)
   exact bx false h rfl (aT rfl) ad
  refine ac 4 rfl (az (eQ rfl (aC (ac 1 rfl (aO rfl fG (ac 1 rfl ?_))))))
  refine dG (s:=12) rfl h (fun h=>?_) (fun h=>?_)
  ·
   refine ac 1 rfl (aO rfl ia (ac 2 rfl (az ?_)))
   refine bG rfl h (fun h=>?_) (fun h=>?_)
   ·
    refine bH ?_
    exact bx (decide ((a:Int)≤800)) h rfl (aT rfl) ad
   refine aC (ac 1 rfl (aO rfl fG (ac 1 rfl ?_)))
   refine dG (s:=18) rfl h (fun h=>?_) (fun h=>?_)
   ·
    refine ac 1 rfl (aO rfl ia (ac 2 rfl (az ?_)))
    refine bG rfl h (fun h=>?_) (fun h=>?_)
    ·
     refine bH ?_
     exact bx (decide ((a:Int)≤819)) h rfl (aT rfl) ad
    refine aC (ac 1 rfl (aO rfl fG (ac 1 rfl ?_)))
    refine dG (s:=24) rfl h (fun h=>?_) (fun h=>?_)
    ·
     refine ac 1 rfl (aO rfl ia (ac 2 rfl (az ?_)))
     refine bG rfl h (fun h=>?_) (fun h=>?_)
     ·
      refine bH ?_
      exact bx (decide ((a:Int)≤828)) h rfl (aT rfl) ad
     refine ct (ac 1 rfl (aO rfl fG (ac 1 rfl ?_)))
     refine dG (s:=30) rfl h (fun h=>?_) (fun h=>?_)
     ·
      refine ac 1 rfl (aO rfl ia (ac 2 rfl (bU ?_)))
      exact bx (decide ((a:Int)≤841)) h rfl (aT rfl) ad
     refine ac 4 rfl (bU ?_)
     exact bx false h rfl (aT rfl) ad
    refine ac 4 rfl (az (eQ rfl (ct (ac 1 rfl (aO rfl fG (ac 1 rfl ?_))))))
    refine dG (s:=30) rfl h (fun h=>?_) (fun h=>?_)
    ·
     refine ac 1 rfl (aO rfl ia (ac 2 rfl (bU ?_)))
     exact bx (decide ((a:Int)≤841)) h rfl (aT rfl) ad
    refine ac 4 rfl (bU ?_)
    exact bx false h rfl (aT rfl) ad
   refine ac 4 rfl (az (eQ rfl (aC (ac 1 rfl (aO rfl fG (ac 1 rfl ?_))))))
   refine dG (s:=24) rfl h (fun h=>?_) (fun h=>?_)
   ·
    refine ac 1 rfl (aO rfl ia (ac 2 rfl (az ?_)))
    refine bG rfl h (fun h=>?_) (fun h=>?_)
    ·
     refine bH ?_
     exact bx (decide ((a:Int)≤828)) h rfl (aT rfl) ad
    refine ct (ac 1 rfl (aO rfl fG (ac 1 rfl ?_)))
    refine dG (s:=30) rfl h (fun h=>?_) (fun h=>?_)
    ·
     refine ac 1 rfl (aO rfl ia (ac 2 rfl (bU ?_)))
     exact bx (decide ((a:Int)≤841)) h rfl (aT rfl) ad
    refine ac 4 rfl (bU ?_)
    exact bx false h rfl (aT rfl) ad
   refine ac 4 rfl (az (eQ rfl (ct (ac 1 rfl (aO rfl fG (ac 1 rfl ?_))))))
   refine dG (s:=30) rfl h (fun h=>?_) (fun h=>?_)
   ·
    refine ac 1 rfl (aO rfl ia (ac 2 rfl (bU ?_)))
    exact bx (decide ((a:Int)≤841)) h rfl (aT rfl) ad
   refine ac 4 rfl (bU ?_)
   exact bx false h rfl (aT rfl) ad
  refine ac 4 rfl (az (eQ rfl (aC (ac 1 rfl (aO rfl fG (ac 1 rfl ?_))))))
  refine dG (s:=18) rfl h (fun h=>?_) (fun h=>?_)
  ·
   refine ac 1 rfl (aO rfl ia (ac 2 rfl (az ?_)))
   refine bG rfl h (fun h=>?_) (fun h=>?_)
   ·
    refine bH ?_
    exact bx (decide ((a:Int)≤819)) h rfl (aT rfl) ad
   refine aC (ac 1 rfl (aO rfl fG (ac 1 rfl ?_)))
   refine dG (s:=24) rfl h (fun h=>?_) (fun h=>?_)
   ·
    refine ac 1 rfl (aO rfl ia (ac 2 rfl (az ?_)))
    refine bG rfl h (fun h=>?_) (fun h=>?_)
    ·
     refine bH ?_
     exact bx (decide ((a:Int)≤828)) h rfl (aT rfl) ad
    refine ct (ac 1 rfl (aO rfl fG (ac 1 rfl ?_)))
    refine dG (s:=30) rfl h (fun h=>?_) (fun h=>?_)
    ·
     refine ac 1 rfl (aO rfl ia (ac 2 rfl (bU ?_)))
     exact bx (decide ((a:Int)≤841)) h rfl (aT rfl) ad
    refine ac 4 rfl (bU ?_)
    exact bx false h rfl (aT rfl) ad
   refine ac 4 rfl (az (eQ rfl (ct (ac 1 rfl (aO rfl fG (ac 1 rfl ?_))))))
   refine dG (s:=30) rfl h (fun h=>?_) (fun h=>?_)
   ·
    refine ac 1 rfl (aO rfl ia (ac 2 rfl (bU ?_)))
    exact bx (decide ((a:Int)≤841)) h rfl (aT rfl) ad
   refine ac 4 rfl (bU ?_)
   exact bx false h rfl (aT rfl) ad
  refine ac 4 rfl (az (eQ rfl (aC (ac 1 rfl (aO rfl fG (ac 1 rfl ?_))))))
  refine dG (s:=24) rfl h (fun h=>?_) (fun h=>?_)
  ·
   refine ac 1 rfl (aO rfl ia (ac 2 rfl (az ?_)))
   refine bG rfl h (fun h=>?_) (fun h=>?_)
   ·
    refine bH ?_
    exact bx (decide ((a:Int)≤828)) h rfl (aT rfl) ad
   refine ct (ac 1 rfl (aO rfl fG (ac 1 rfl ?_)))
   refine dG (s:=30) rfl h (fun h=>?_) (fun h=>?_)
   ·
    refine ac 1 rfl (aO rfl ia (ac 2 rfl (bU ?_)))
    exact bx (decide ((a:Int)≤841)) h rfl (aT rfl) ad
   refine ac 4 rfl (bU ?_)
   exact bx false h rfl (aT rfl) ad
  refine ac 4 rfl (az (eQ rfl (ct (ac 1 rfl (aO rfl fG (ac 1 rfl ?_))))))
  refine dG (s:=30) rfl h (fun h=>?_) (fun h=>?_)
  ·
   refine ac 1 rfl (aO rfl ia (ac 2 rfl (bU ?_)))
   exact bx (decide ((a:Int)≤841)) h rfl (aT rfl) ad
  refine ac 4 rfl (bU ?_)
  exact bx false h rfl (aT rfl) ad
 rintro x1 h
 rw[e] at h
 refine bG rfl h (fun h=>?_) (fun h=>?_)
 ·
  refine aC (ac 1 rfl (az (bI (cE (bT ?_)))))
  cases h
  exact dk 2 results159
 obtain⟨g,d,h⟩:=cP h
 refine c8 (β:=Bool) 0 rfl (fun b=>g b=some r) (fun b=>[]) (fun b=>[(34,.bool b)]) (fun b=>[]) (fun cut=>?_) ?_
 ·
  refine cut (aC (ac 1 rfl (aO rfl fG (ac 1 rfl ?_))))
  refine dG (s:=37) rfl h (fun h=>?_) (fun h=>?_)
  ·
   refine ac 1 rfl (aO rfl ia (ac 2 rfl (az ?_)))
   refine bG rfl h (fun h=>?_) (fun h=>?_)
   ·
    refine bH ?_
    exact bx (decide ((a:Int)≤846)) h rfl (aT rfl) ad
   refine aC (ac 1 rfl (aO rfl fG (ac 1 rfl ?_)))
   refine dG (s:=43) rfl h (fun h=>?_) (fun h=>?_)
   ·
    refine ac 1 rfl (aO rfl ia (ac 2 rfl (az ?_)))
    refine bG rfl h (fun h=>?_) (fun h=>?_)
    ·
     refine bH ?_
     exact bx (decide ((a:Int)≤854)) h rfl (aT rfl) ad
    refine ct (ac 1 rfl (aO rfl fG (ac 1 rfl ?_)))
    refine dG (s:=49) rfl h (fun h=>?_) (fun h=>?_)
    ·
     refine ac 1 rfl (aO rfl ia (ac 2 rfl (bU ?_)))
     exact bx (decide ((a:Int)≤858)) h rfl (aT rfl) ad
    refine ac 4 rfl (bU ?_)
    exact bx false h rfl (aT rfl) ad
   refine ac 4 rfl (az (eQ rfl (ct (ac 1 rfl (aO rfl fG (ac 1 rfl ?_))))))
   refine dG (s:=49) rfl h (fun h=>?_) (fun h=>?_)
   ·
    refine ac 1 rfl (aO rfl ia (ac 2 rfl (bU ?_)))
    exact bx (decide ((a:Int)≤858)) h rfl (aT rfl) ad
   refine ac 4 rfl (bU ?_)
   exact bx false h rfl (aT rfl) ad
  refine ac 4 rfl (az (eQ rfl (aC (ac 1 rfl (aO rfl fG (ac 1 rfl ?_))))))
  refine dG (s:=43) rfl h (fun h=>?_) (fun h=>?_)
  ·
   refine ac 1 rfl (aO rfl ia (ac 2 rfl (az ?_)))
   refine bG rfl h (fun h=>?_) (fun h=>?_)
   ·
    refine bH ?_
    exact bx (decide ((a:Int)≤854)) h rfl (aT rfl) ad
   refine ct (ac 1 rfl (aO rfl fG (ac 1 rfl ?_)))
   refine dG (s:=49) rfl h (fun h=>?_) (fun h=>?_)
   ·
    refine ac 1 rfl (aO rfl ia (ac 2 rfl (bU ?_)))
    exact bx (decide ((a:Int)≤858)) h rfl (aT rfl) ad
   refine ac 4 rfl (bU ?_)
   exact bx false h rfl (aT rfl) ad
  refine ac 4 rfl (az (eQ rfl (ct (ac 1 rfl (aO rfl fG (ac 1 rfl ?_))))))
  refine dG (s:=49) rfl h (fun h=>?_) (fun h=>?_)
  ·
   refine ac 1 rfl (aO rfl ia (ac 2 rfl (bU ?_)))
   exact bx (decide ((a:Int)≤858)) h rfl (aT rfl) ad
  refine ac 4 rfl (bU ?_)
  exact bx false h rfl (aT rfl) ad
 rintro x2 h
 rw[d] at h
 refine bG rfl h (fun h=>?_) (fun h=>?_)
 ·
  refine aC (ac 1 rfl (az (bI (cE (bT ?_)))))
  cases h
  exact dk 2 results159
 refine bH (cw (cz (aC (ac 1 rfl (az (bI ?_))))))
 cases h
 exact dk 2 results159
def rh (u1:cS):Option Bool := aU (decide ((0:Int)≤u1.base)) ( aY (fN u1.base) <| some (((kind u1.base):Int)==1)
) ( some false
)
theorem yI {u1:cS} {u1_h0 u1_h1:Hd} {r:Bool} (h:rh u1=some r):Fn prog 78 [.agg #[zI u1.at_,.int .u8 u1.broken,.int .i32 u1.base,u1_h0.v,u1_h1.v]] [eo u1_h0.v u1.low,eo u1_h1.v u1.high] (fun _b:Unit=>.bool r) (fun _b=>[eo u1_h0.v u1.low,eo u1_h1.v u1.high]):=by
 unfold rh at h
 refine _root_.Go.Proofs.YtifpjbgnikjglaaGreatDoor.Fn.intro func78 rfl ntmps78 (by simp) ?_
 intro w0 K
 refine aC ?_
 refine jy rfl dc rfl (fun b1=>?_)
 refine ac 1 rfl (cv (cf nY rfl dc rfl (show _=2 from rfl) (bF (k:=2) fT rfl dc rfl rfl rfl (aO rfl fG (ac 1 rfl ?_)))))
 refine dG (s:=6) rfl h (fun h=>?_) (fun h=>?_)
 ·
  refine cf nY rfl dc rfl (show _=2 from rfl) (bF (k:=2) fT rfl dc rfl rfl rfl ?_)
  obtain⟨a,h⟩:=bC h
  refine dq (v:=zI (kind u1.base)) (vs:=[.int .i32 u1.base]) rfl dc rfl rfl rfl AN (nP fun w=>wq u1.base w a.1 a.2) ?_
  refine aO rfl eE (ac 2 rfl (az (bI ?_)))
  cases h
  exact eO (rs:=[.tmp 2]) () (.inl rfl) results78 (.cons (.tmp rfl) .nil) rfl (aH [0,1] kr rfl)
 refine ac 6 rfl (az (bI ?_))
 cases h
 exact eO (rs:=[.tmp 2]) () (.inl rfl) results78 (.cons (.tmp rfl) .nil) rfl (aH [0,1] kr rfl)
def uL (u1:cS) (r1:Int):Option cS := aX (w5 r1) fun (r2:Bool)=> aU (r2) ( aY (u1.low.length+1≤2147483648) <| some (⟨(⟨u1.at_,u1.broken,u1.base,u1.low++[r1],u1.high⟩:cS).at_,(⟨u1.at_,u1.broken,u1.base,u1.low++[r1],u1.high⟩:cS).broken,(⟨u1.at_,u1.broken,u1.base,u1.low++[r1],u1.high⟩:cS).base,u1.low++[r1],u1.high⟩:cS)
) ( aY (u1.high.length+1≤2147483648) <| some (⟨(⟨u1.at_,u1.broken,u1.base,u1.low,u1.high++[r1]⟩:cS).at_,(⟨u1.at_,u1.broken,u1.base,u1.low,u1.high++[r1]⟩:cS).broken,(⟨u1.at_,u1.broken,u1.base,u1.low,u1.high++[r1]⟩:cS).base,u1.low,u1.high++[r1]⟩:cS)
)
theorem F9 {vu1:Value} {m:List (cS×Hd×Hd)} {a:Nat} {u1:cS} {u1_h0 u1_h1:Hd} (e:m[a]?=some (u1,(u1_h0,u1_h1))) {d:Int} {r:cS} (h:uL u1 d=some r):Fn prog 130 [.pointer (some ⟨gG vu1,a*5,none⟩),.int .i32 d] [mr vu1 m,eo u1_h0.v u1.low,eo u1_h1.v u1.high] (fun b:Hd×Hd=>.tuple #[]) (fun b=>[mr vu1 (m.set a (r,(b.1,b.2))),eo b.1.v r.low,eo b.2.v r.high]):=by
 unfold uL at h
 refine _root_.Go.Proofs.YtifpjbgnikjglaaGreatDoor.Fn.intro func130 rfl ntmps130 (by simp) ?_
 intro w0 K
 refine aC (ac 1 rfl ?_)
 obtain⟨C,n,h⟩:=bj h
 refine dq (v:=.bool C) (vs:=[.int .i32 d]) rfl dc rfl rfl rfl LO (Nd n) (az ?_)
 refine bG rfl h (fun h=>?_) (fun h=>?_)
 ·
  refine ct (ac 2 rfl (fX rfl dc rfl (cf yj rfl dc rfl (show _=a*5+3 from rfl) (ib (i:=a) (j:=3) (k:=0) (q:=(u1,(u1_h0,u1_h1))) uh oh rfl dc rfl rfl e rfl dc rfl (ac 1 rfl ?_)))))
  refine gl (cs:=[.int .i32 d]) (te:=21) (ps:=[(0,.tmp 11)]) rfl dc rfl (fun _=>by kernel_rfl) (fun b1=>?_)
  obtain⟨t,h⟩:=bC h
  refine iT (k:=1) (k2:=3) (ys:=[d]) bf rP jh rK rfl dc rfl rfl rfl rfl rfl rfl t (fun E=>?_)
  refine jd (k:=1) rfl (fun l w=>?_)
  subst w
  refine fX rfl dc rfl (cf yj rfl dc rfl (show _=a*5+3 from rfl) ?_)
  refine p4 (i:=a) (j:=3) (k:=0) (q:=(u1,(u1_h0,u1_h1))) (q':=((⟨u1.at_,u1.broken,u1.base,u1.low++[d],u1.high⟩:cS),(l,u1_h1))) EL oh rfl rfl rfl rfl e rfl dc rfl (fun _ _=>rfl) ?_
  refine bU (Ee (k:=0) rfl (Ej rfl (q1:=((⟨u1.at_,u1.broken,u1.base,u1.low++[d],u1.high⟩:cS),(l,u1_h1))) (q2:=((⟨(⟨u1.at_,u1.broken,u1.base,u1.low++[d],u1.high⟩:cS).at_,(⟨u1.at_,u1.broken,u1.base,u1.low++[d],u1.high⟩:cS).broken,(⟨u1.at_,u1.broken,u1.base,u1.low++[d],u1.high⟩:cS).base,u1.low++[d],u1.high⟩:cS),(l,u1_h1))) oh rfl) ?_)
  cases h
  exact eO (rs:=[]) (l,u1_h1) (.inr rfl) results130 .nil rfl (aH [0,1,2] kr rfl)
 refine ct (ac 2 rfl (fX rfl dc rfl (cf yk rfl dc rfl (show _=a*5+4 from rfl) (ib (i:=a) (j:=4) (k:=0) (q:=(u1,(u1_h0,u1_h1))) uh oh rfl dc rfl rfl e rfl dc rfl (ac 1 rfl ?_)))))
 refine gl (cs:=[.int .i32 d]) (te:=21) (ps:=[(0,.tmp 21)]) rfl dc rfl (fun _=>by kernel_rfl) (fun G=>?_)
 obtain⟨s,h⟩:=bC h
 refine iT (k:=2) (k2:=3) (ys:=[d]) bf rP jh rK rfl dc rfl rfl rfl rfl rfl rfl s (fun D=>?_)
 refine jd (k:=2) rfl (fun g u=>?_)
 subst u
 refine fX rfl dc rfl (cf yk rfl dc rfl (show _=a*5+4 from rfl) ?_)
 refine p4 (i:=a) (j:=4) (k:=0) (q:=(u1,(u1_h0,u1_h1))) (q':=((⟨u1.at_,u1.broken,u1.base,u1.low,u1.high++[d]⟩:cS),(u1_h0,g))) EL oh rfl rfl rfl rfl e rfl dc rfl (fun _ _=>rfl) ?_
 refine bU (Ee (k:=0) rfl (Ej rfl (q1:=((⟨u1.at_,u1.broken,u1.base,u1.low,u1.high++[d]⟩:cS),(u1_h0,g))) (q2:=((⟨(⟨u1.at_,u1.broken,u1.base,u1.low,u1.high++[d]⟩:cS).at_,(⟨u1.at_,u1.broken,u1.base,u1.low,u1.high++[d]⟩:cS).broken,(⟨u1.at_,u1.broken,u1.base,u1.low,u1.high++[d]⟩:cS).base,u1.low,u1.high++[d]⟩:cS),(u1_h0,g))) oh rfl) ?_)
 cases h
 exact eO (rs:=[]) (u1_h0,g) (.inr rfl) results130 .nil rfl (aH [0,1,2] kr rfl)
def td (rcall:(List (Int×zam))→Int→Option (List Int)) (Msplit1:List (Int×zam)) (r1:Int):Option (List Int) := aU (!((zbL r1 Msplit1).isSome)) ( some ([r1]:List Int)
) ( aX (rcall Msplit1 (((zbL r1 Msplit1).getD (⟨0,0⟩:zam)).e0)) fun (r2:(List Int))=> aY (r2.length+1≤2147483648) <| some (r2++[((zbL r1 Msplit1).getD (⟨0,0⟩:zam)).e1])
)
def tf (Msplit1:List (Int×zam)) (r1:Int):Option (List Int):=zaI (fun _ _=>none) td zbH Msplit1 r1
theorem Nf (n:Nat):∀ {e:Nat} {a:List (Int×zam)} {g:Int} {r:(List Int)} (_:zaI (fun _ _=>none) td n a g=some r),Fn prog 116 [.map (some e),.int .i32 g] [cq (fun n:Int=>ax .i32 n) (fun p:zam=>aZ #[.int .i32 p.e0,.int .i32 p.e1]) e a] (fun v0:Value=>v0) (fun v0=>[cq (fun n:Int=>ax .i32 n) (fun p:zam=>aZ #[.int .i32 p.e0,.int .i32 p.e1]) e a,eo v0 r]):=by
 induction n with
 | zero=>intro e a g r h;exact fa h
 | succ n l=>
 intro e a g r h
 rw[DQ] at h
 revert l h
 generalize zaI (fun _ _=>none) td n=rcall
 intro l h
 unfold td at h
 refine _root_.Go.Proofs.YtifpjbgnikjglaaGreatDoor.Fn.intro func116 rfl ntmps116 (by simp) ?_
 intro w0 K
 refine aC (ac 1 rfl (cv (ac 2 rfl ?_)))
 refine yb (k:=0) (ek:=(fun n:Int=>ax .i32 n)) (ev':=(fun p:zam=>aZ #[.int .i32 p.e0,.int .i32 p.e1])) (kk:=g) (z0:=(⟨0,0⟩:zam)) (iV.int bg) underlying116 kr rfl dc rfl rfl rfl ?_
 refine ac 1 rfl (fS rfl dc rfl rfl (fS rfl dc rfl rfl ?_))
 refine eN Aq rfl dc (fun b1=>?_)
 refine eH (k:=1) (vs:=[.int .i32 (((zbL g a).getD (⟨0,0⟩:zam)).e0),.int .i32 (((zbL g a).getD (⟨0,0⟩:zam)).e1)]) (l':=[.int .i32 (((zbL g a).getD (⟨0,0⟩:zam)).e0),.int .i32 (((zbL g a).getD (⟨0,0⟩:zam)).e1)]) EU rfl rfl rfl rfl rfl (show _≤_ by simp) rfl rfl ?_
 refine ac 1 rfl (az (cm (aC (ac 1 rfl (jq rfl dc rfl js (az ?_))))))
 refine bG rfl h (fun h=>?_) (fun h=>?_)
 ·
  refine aC (ac 1 rfl ?_)
  refine gl (cs:=[.int .i32 g]) (te:=21) (ps:=[(0,.tmp 15)]) rfl dc rfl (fun _=>by kernel_rfl) (fun U=>?_)
  refine ac 1 rfl (mS ([g]:List Int) (k:=2) rfl jh rfl (show 1≤maxLen by decide) ?_)
  refine az (bI (bT ?_))
  cases h
  exact eO (rs:=[.tmp 4]) (.slice (some ⟨U,0,none⟩) 1 1) (.inl rfl) results116 (.cons (.tmp rfl) .nil) rfl (aH [0,2] kr rfl)
 refine bH (cz (cm ?_))
 obtain⟨O,I,h⟩:=bj h
 obtain⟨J,h⟩:=bC h
 refine tU 2 ?_
 refine let w:(Value×Nat)→List (Nat×Nat×Value):=fun b=>[(0,17,.map (some e)),(1,18,zP b1),(2,19,.int .i32 (((zbL g a).getD (⟨0,0⟩:zam)).e0)),(3,20,b.1),(4,21,.pointer (some ⟨b1,1,none⟩)),(5,22,.int .i32 (((zbL g a).getD (⟨0,0⟩:zam)).e1)),(6,23,.slice (some ⟨b.2,0,none⟩) 1 1)];let E:(Nat→Prop)→(Value×Nat)→List Asn:=fun D b=>[cq (fun n:Int=>ax .i32 n) (fun p:zam=>aZ #[.int .i32 p.e0,.int .i32 p.e1]) e a,cells b1 [.int .i32 (((zbL g a).getD (⟨0,0⟩:zam)).e0),.int .i32 (((zbL g a).getD (⟨0,0⟩:zam)).e1)] 127,eD D cn [(3,eo b.1 O)],eD D cn [(6,cells b.2 [.int .i32 (((zbL g a).getD (⟨0,0⟩:zam)).e1)] 21)]];?_
 have j:rY [3,6] E:=fun i h D b=>bY rfl (bY rfl (bY (pF rfl h) (bY (pF rfl h) rfl)))
 refine tT (β:=Value×Nat) 7 ((.slice none 0 0:Value),(0:Nat)) w E mixed kr kr dc (fun _=>rfl) (kJ (bY nS (bY nS rfl))) (oC j (fun _=>rfl) (fun _=>rfl) 1 0 (fun _=>rfl) rfl (kY j rfl (fun _=>rfl) (fun _=>rfl) ?_ (kY j rfl (fun _=>rfl) (fun _=>rfl) ?_ (kV ?_ (kY j rfl (fun _=>rfl) (fun _=>rfl) ?_ (kY j rfl (fun _=>rfl) (fun _=>rfl) ?_ (kV ?_ nI))))))) ?_
 · exact fun D ⟨t,v⟩ n d c u i=>⟨_,(kJ (bY (dC (fun s=>n (c 2 _ rfl (c 3 _ rfl s 2 dc) 1 dc)) fc) rfl)),nR dc jg kq rfl dc (dE (by rfl) rfl) rfl (show _=0 from rfl) (bm 1 u i)⟩
 · exact fun D ⟨t,v⟩ n d c u i=>⟨_,(kJ (bY (dC (fun s=>n (c 3 _ rfl s 2 dc)) fc) rfl)),bF (k:=1) fT rfl dc (bq 1 u d) rfl rfl (bm 2 u i)⟩
 ·
  intro D b C hd M
  obtain⟨H,v⟩:=b
  refine jI (kJ (bY (dC C fc) rfl)) ?_
  refine fY (vs:=[.map (some e),.int .i32 (((zbL g a).getD (⟨0,0⟩:zam)).e0)]) rfl dc rfl (cY (ja (m:=0) rfl rfl (hd 0 dc)) (cY (ja (m:=2) rfl rfl (hd 2 dc)) eB)) rfl AM (l I) (aH [0] kr rfl) ?_
  rintro t
  refine mj (L':=[cq (fun n:Int=>ax .i32 n) (fun p:zam=>aZ #[.int .i32 p.e0,.int .i32 p.e1]) e a,cells b1 [.int .i32 (((zbL g a).getD (⟨0,0⟩:zam)).e0),.int .i32 (((zbL g a).getD (⟨0,0⟩:zam)).e1)] 127,cn,eD D cn [(6,cells v [.int .i32 (((zbL g a).getD (⟨0,0⟩:zam)).e1)] 21)],eo t O]) (aH [4,1,2,3,5] kr rfl) ?_
  refine oy 2 rfl rfl ?_
  exact lg (b:=(H,v)) (t,v) 3 (by rfl) (by rfl) rfl (yz (dP (fun s=>absurd s C) (yz rfl))) (kJ (bY (gU (iI rfl) rfl) (bY (gW (by rfl)) rfl)))
 · exact fun D ⟨t,v⟩ n d c u i=>⟨_,(qX (bY (dC (fun s=>n (c 5 _ rfl (c 6 _ rfl s 5 dc) 4 dc)) fc) rfl)),nR dc jg kq rfl dc (dE (by rfl) rfl) rfl (show _=1 from rfl) (bm 4 u i)⟩
 · exact fun D ⟨t,v⟩ n d c u i=>⟨_,(qX (bY (dC (fun s=>n (c 6 _ rfl s 5 dc)) fc) rfl)),bF (k:=1) fT rfl dc (bq 4 u d) rfl rfl (bm 5 u i)⟩
 ·
  intro D b C hd M
  obtain⟨t,G⟩:=b
  refine jI (qX (bY (dC C fc) rfl)) ?_
  refine gl (cs:=[.int .i32 (((zbL g a).getD (⟨0,0⟩:zam)).e1)]) (te:=21) (ps:=[(0,.tmp 22)]) rfl dc (fr (ja (m:=5) rfl rfl (hd 5 dc)) ph) (fun _=>by kernel_rfl) (fun v=>?_)
  refine oy 3 rfl rfl ?_
  exact lg (b:=(t,G)) (t,v) 6 (by rfl) (by rfl) rfl (Bb (dP (fun s=>absurd s C) rfl)) (kJ (bY (gW (by rfl)) (bY (gU (iI rfl) rfl) rfl)))
 intro D b hall
 obtain⟨t,v⟩:=b
 refine jI (kJ (bY (gU (hall 3 dc) rfl) (bY (gU (hall 6 dc) rfl) rfl))) ?_
 refine iT (k:=2) (k2:=3) (ys:=[((zbL g a).getD (⟨0,0⟩:zam)).e1]) bf rP jh rK rfl dc rfl rfl rfl rfl rfl rfl J (fun T=>?_)
 refine ac 1 rfl (az (bI ?_))
 cases h
 exact eO (rs:=[.tmp 4]) T (.inl rfl) results116 (.cons (.tmp rfl) .nil) rfl (aH [0,2] kr rfl)
theorem Ga {a:Nat} {d:List (Int×zam)} {e:Int} {r:(List Int)} (h:tf d e=some r):Fn prog 116 [.map (some a),.int .i32 e] [cq (fun n:Int=>ax .i32 n) (fun p:zam=>aZ #[.int .i32 p.e0,.int .i32 p.e1]) a d] (fun v0:Value=>v0) (fun v0=>[cq (fun n:Int=>ax .i32 n) (fun p:zam=>aZ #[.int .i32 p.e0,.int .i32 p.e1]) a d,eo v0 r]):=by
 unfold tf at h
 exact Nf zbH  h
def w6 (u1:cS):Option ab := aY ((af u1.base).size+(iU u1.low).size≤9223372036854775807) <| aY (((af u1.base)++(iU u1.low)).size+(iU u1.high).size≤9223372036854775807) <| some (((af u1.base)++(iU u1.low))++(iU u1.high))
theorem Ng {u1:cS} {u1_h0 u1_h1:Hd} {r:ab} (h:w6 u1=some r):Fn prog 134 [.agg #[zI u1.at_,.int .u8 u1.broken,.int .i32 u1.base,u1_h0.v,u1_h1.v]] [eo u1_h0.v u1.low,eo u1_h1.v u1.high] (fun _b:Unit=>.string r) (fun _b=>[eo u1_h0.v u1.low,eo u1_h1.v u1.high]):=by
 unfold w6 at h
 refine _root_.Go.Proofs.YtifpjbgnikjglaaGreatDoor.Fn.intro func134 rfl ntmps134 (by simp) ?_
 intro w0 K
 refine aC ?_
 refine jy rfl dc rfl (fun b1=>?_)
 refine ac 1 rfl (cv (cf nY rfl dc rfl (show _=2 from rfl) (bF (k:=2) fT rfl dc rfl rfl rfl (jr rfl dc rfl (mf bg an) (cf yj rfl dc rfl (show _=3 from rfl) (bF (k:=2) uh rfl dc rfl rfl rfl (zX (k:=0) rfl dc rfl rfl bf bg an ?_)))))))
 obtain⟨d,h⟩:=bC h
 refine aO rfl (kQ d) (cf yk rfl dc rfl (show _=4 from rfl) (bF (k:=2) uh rfl dc rfl rfl rfl (zX (k:=1) rfl dc rfl rfl bf bg an ?_)))
 obtain⟨a,h⟩:=bC h
 refine aO rfl (kQ a) (ac 1 rfl (az (bI ?_)))
 cases h
 exact eO (rs:=[.tmp 2]) () (.inl rfl) results134 (.cons (.tmp rfl) .nil) rfl (aH [0,1] kr rfl)
def zg9 (u1:cS) (j1:Option ab) (ag1:Int→Bool→Nat→Option ab) (from3:Int) (head3:Bool) (m3:Nat):Option ab := aU (decide (m3<(fe fP.data.toList).length)) ( aX ((fe fP.data.toList)[m3]?) fun (p1:Pc)=> cJ (fun (j2:Int→Option ab)=> aU (((p1.r:Int):Int)==32) ( aU (decide ((0:Int)≤from3)) ( aY (0≤(from3:Int)∧(from3:Int)≤(p1.i:Int)∧((p1.i:Int):Int)≤(fP.size:Int)) <| some (c7 fP from3 (p1.i:Int))
) ( aU (((p1.r:Int):Int)==32) ( j2 from3
) ( aU (head3) ( aU (((p1.r:Int):Int)==(ee u1.base)) ( aY (cR ((p1.i:Int)+((af (p1.r:Int)).size:Int))) <| j2 ((p1.i:Int)+((af (p1.r:Int)).size:Int))
) ( j2 from3
)
) ( j2 from3
)
)
)
) ( aU (((p1.r:Int):Int)==32) ( j2 from3
) ( aU (head3) ( aU (((p1.r:Int):Int)==(ee u1.base)) ( aY (cR ((p1.i:Int)+((af (p1.r:Int)).size:Int))) <| j2 ((p1.i:Int)+((af (p1.r:Int)).size:Int))
) ( j2 from3
)
) ( j2 from3
)
)
)
) (fun (from4:Int)=> ag1 from4 (((p1.r:Int):Int)==32) (m3+1)
)
) ( j1
)
def uM (u1:cS):Option ab := aX (rh u1) fun (r1:Bool)=> aU (!r1) ( some (af u1.base)
) ( cJ (fun (j1:Option ab)=> aY (fN u1.base) <| zaI (fun _ _ _=>none) (zg9 u1 j1) zbH (-1) true 0
) ( some (af (ee u1.base))
)
)
theorem Nh {u1:cS} {u1_h0 u1_h1:Hd} {r:ab} (h:uM u1=some r):Fn prog 124 [.agg #[zI u1.at_,.int .u8 u1.broken,.int .i32 u1.base,u1_h0.v,u1_h1.v]] [eo u1_h0.v u1.low,eo u1_h1.v u1.high] (fun _b:Unit=>.string r) (fun _b=>[eo u1_h0.v u1.low,eo u1_h1.v u1.high]):=by
 unfold uM at h
 refine _root_.Go.Proofs.YtifpjbgnikjglaaGreatDoor.Fn.intro func124 rfl ntmps124 (by simp) ?_
 intro w0 K
 refine aC ?_
 refine jy rfl dc rfl (fun b1=>?_)
 refine ac 1 rfl (az (cm (aC (gM (k:=2) (cs:=[zI u1.at_,.int .u8 u1.broken,.int .i32 u1.base,u1_h0.v,u1_h1.v]) pv rfl dc rfl rfl rfl rfl ?_))))
 obtain⟨U,G,h⟩:=bj h
 refine ox (v:=.bool U) (vs:=[.agg #[zI u1.at_,.int .u8 u1.broken,.int .i32 u1.base,u1_h0.v,u1_h1.v]]) rfl dc rfl rfl rfl yo (yI (u1:=u1) (u1_h0:=u1_h0) (u1_h1:=u1_h1) G) [0,1] kr rfl (jq rfl dc rfl js (az ?_))
 refine bG rfl h (fun h=>?_) (fun h=>?_)
 ·
  refine aC (cf nY rfl dc rfl (show _=2 from rfl) (bF (k:=2) fT rfl dc rfl rfl rfl (jr rfl dc rfl (mf bg an) (ac 1 rfl (az (bI (bT ?_)))))))
  cases h
  exact eO (rs:=[.tmp 2]) () (.inl rfl) results124 (.cons (.tmp rfl) .nil) rfl (aH [0,1] kr rfl)
 refine bH (cz ?_)
 obtain⟨C,I,h⟩:=cP h
 refine c8 (β:=Unit) 3 rfl (fun b=>C=some r) (fun b=>[]) (fun b=>[(3,.int .i32 (ee u1.base))]) (fun b=>[eo u1_h0.v u1.low,eo u1_h1.v u1.high]) (fun cut=>?_) ?_
 ·
  refine aC (cf nY rfl dc rfl (show _=2 from rfl) (bF (k:=2) fT rfl dc rfl rfl rfl ?_))
  obtain⟨t,h⟩:=bC h
  refine dq (v:=.int .i32 (ee u1.base)) (vs:=[.int .i32 u1.base]) rfl dc rfl rfl rfl yq (nP fun w=>wo u1.base w t.1 t.2) ?_
  refine ac 1 rfl (cv (ac 1 rfl (cv (ac 1 rfl (az (cut ?_))))))
  refine aC ?_
  refine ur an rfl dc rfl (fun D=>?_)
  refine az (cy ?_)
  refine fh (β:=Nat×Int×Bool×Nat) (fun b=>zaI (fun _ _ _=>none) (zg9 u1 C) b.1 b.2.1 b.2.2.1 b.2.2.2=some r) (fun b=>[]) (fun b=>[(3,.int .i32 (ee u1.base)),(4,zI b.2.1),(5,.bool b.2.2.1),(17,zP D)]) (fun b=>[eo u1_h0.v u1.low,eo u1_h1.v u1.high,obj D (.stringIter fP (lV fP b.2.2.2))]) (fun b=>b.1) (zbH,(-1),true,0) (by exact h) rfl (aT rfl) (aH [0,1,3] kr rfl) ?_
  rintro⟨u,a,g,n⟩ h
  cases u with
  | zero=>exact fa h
  | succ u=>
   obtain⟨T,e⟩:∃ag,ag=zaI (fun _ _ _=>none) (zg9 u1 C) u:=⟨_,rfl⟩
   have h:zg9 u1 C T a g n=some r:=by rw[e];exact h
   unfold zg9 at h
   refine aC ?_
   refine sL (b:=decide (n<(fe fP.data.toList).length)) (fun d=>?_) (fun d=>?_)
   ·
    have h:=ng d h
    obtain⟨p1,E,h⟩:=bj h
    refine ut (k:=2) (m:=n) (p:=p1) rfl dc rfl rfl E (fS rfl dc rfl rfl (az (cm (iH rfl (bH (cz (cy ?_)))))))
    obtain⟨V,H,h⟩:=cP h
    refine c8 (β:=Int) 1 rfl (fun b=>V b=some r) (fun b=>[]) (fun b=>[(3,.int .i32 (ee u1.base)),(4,zI b),(7,.int .i32 (p1.r:Int)),(17,zP D)]) (fun b=>[eo u1_h0.v u1.low,eo u1_h1.v u1.high,obj D (.stringIter fP (lV fP (n+1)))]) (fun cut=>?_) ?_
    ·
     refine aC (fS rfl dc rfl rfl (fS rfl dc rfl rfl (ac 2 rfl (az (cut (cy (aC (ac 1 rfl (aO rfl eE ?_)))))))))
     refine ac 1 rfl ?_
     refine dG (s:=25) rfl h (fun h=>?_) (fun h=>?_)
     ·
      refine ac 1 rfl (aO rfl fG (ac 2 rfl (az ?_)))
      refine bG rfl h (fun h=>?_) (fun h=>?_)
      ·
       refine aC (ac 2 rfl ?_)
       obtain⟨O,h⟩:=bC h
       refine iz rfl dc rfl rfl rfl (jZ (i:=a) (j:=(p1.i:Int)) an (.inr rfl) (.inr rfl) O) (ac 1 rfl (az (bI (cE (bT (cE (bT (cE (bT ?_)))))))))
       cases h
       exact eO (rs:=[.tmp 2]) () (.inl rfl) results124 (.cons (.tmp rfl) .nil) rfl (aH [0,1] kr rfl)
      refine aC (ac 1 rfl (aO rfl eE (ac 1 rfl (az ?_))))
      refine bG rfl h (fun h=>?_) (fun h=>?_)
      ·
       refine bH (cw ?_)
       exact bx a h rfl (aT rfl) (aH [0,1,2] kr rfl)
      refine aC (ac 2 rfl ?_)
      refine dG (s:=37) rfl h (fun h=>?_) (fun h=>?_)
      ·
       refine ac 2 rfl (aO rfl eE (ac 2 rfl (az ?_)))
       refine bG rfl h (fun h=>?_) (fun h=>?_)
       ·
        refine ct (ac 2 rfl (jr rfl dc rfl (mf bg an) (ly rfl dc rfl an ?_)))
        obtain⟨M,h⟩:=bC h
        refine aO rfl (dN (r:=(p1.i:Int)+((af (p1.r:Int)).size:Int)) (ai _ M)) (ac 1 rfl (bU (cw ?_)))
        exact bx ((p1.i:Int)+((af (p1.r:Int)).size:Int)) h rfl (aT rfl) (aH [0,1,2] kr rfl)
       refine bH (cw ?_)
       exact bx a h rfl (aT rfl) (aH [0,1,2] kr rfl)
      refine ac 5 rfl (az (eQ rfl (bH (cw ?_))))
      exact bx a h rfl (aT rfl) (aH [0,1,2] kr rfl)
     refine ac 4 rfl (az (eQ rfl (aC (ac 1 rfl (aO rfl eE (ac 1 rfl (az ?_)))))))
     refine bG rfl h (fun h=>?_) (fun h=>?_)
     ·
      refine bH (cw ?_)
      exact bx a h rfl (aT rfl) (aH [0,1,2] kr rfl)
     refine aC (ac 2 rfl ?_)
     refine dG (s:=37) rfl h (fun h=>?_) (fun h=>?_)
     ·
      refine ac 2 rfl (aO rfl eE (ac 2 rfl (az ?_)))
      refine bG rfl h (fun h=>?_) (fun h=>?_)
      ·
       refine ct (ac 2 rfl (jr rfl dc rfl (mf bg an) (ly rfl dc rfl an ?_)))
       obtain⟨J,h⟩:=bC h
       refine aO rfl (dN (r:=(p1.i:Int)+((af (p1.r:Int)).size:Int)) (ai _ J)) (ac 1 rfl (bU (cw ?_)))
       exact bx ((p1.i:Int)+((af (p1.r:Int)).size:Int)) h rfl (aT rfl) (aH [0,1,2] kr rfl)
      refine bH (cw ?_)
      exact bx a h rfl (aT rfl) (aH [0,1,2] kr rfl)
     refine ac 5 rfl (az (eQ rfl (bH (cw ?_))))
     exact bx a h rfl (aT rfl) (aH [0,1,2] kr rfl)
    rintro l h
    rw[H] at h
    refine ct (ac 1 rfl (aO rfl eE (ac 1 rfl (bU (cw ?_)))))
    subst e
    exact ff (u,l,((p1.r:Int):Int)==32,n+1) h (av _) rfl (aT rfl) (aH [0,1,2] kr rfl)
   have h:=nh d h
   refine uu (k:=2) (m:=n) rfl dc rfl rfl (lF (of_decide_eq_false d)) (fS rfl dc rfl rfl (az (cm (eQ rfl (dZ (cA (cA (ed ?_))))))))
   exact bx () h rfl (aT rfl) (aH [0,1] kr rfl)
 rintro _ h
 rw[I] at h
 refine aC (ac 1 rfl (jr rfl dc rfl (mf bg an) (ac 1 rfl (az (bI ?_)))))
 cases h
 exact eO (rs:=[.tmp 2]) () (.inl rfl) results124 (.cons (.tmp rfl) .nil) rfl (aH [0,1] kr rfl)
abbrev jD:ab:=⟨#[204,128,65,195,128,69,195,136,73,195,140,79,195,146,85,195,153,97,195,160,101,195,168,105,195,172,111,195,178,117,195,185,208,149,208,128,208,152,208,141,208,181,209,144,208,184,209,157,204,129,65,195,129,69,195,137,73,195,141,79,195,147,85,195,154,89,195,157,97,195,161,101,195,169,105,195,173,111,195,179,117,195,186,121,195,189,67,196,134,76,196,185,78,197,131,82,197,148,83,197,154,90,197,185,99,196,135,108,196,186,110,197,132,114,197,149,115,197,155,122,197,186,206,145,206,134,206,149,206,136,206,151,206,137,206,153,206,138,206,159,206,140,206,165,206,142,206,169,206,143,206,177,206,172,206,181,206,173,206,183,206,174,206,185,206,175,206,191,207,140,207,133,207,141,207,137,207,142,208,147,208,131,208,154,208,140,208,179,209,147,208,186,209,156,207,138,206,144,207,139,206,176,204,130,65,195,130,69,195,138,73,195,142,79,195,148,85,195,155,97,195,162,101,195,170,105,195,174,111,195,180,117,195,187,67,196,136,71,196,156,72,196,164,74,196,180,83,197,156,87,197,180,89,197,182,99,196,137,103,196,157,104,196,165,106,196,181,115,197,157,119,197,181,121,197,183,204,131,65,195,131,78,195,145,79,195,149,97,195,163,110,195,177,111,195,181,73,196,168,85,197,168,105,196,169,117,197,169,204,132,65,196,128,69,196,146,73,196,170,79,197,140,85,197,170,97,196,129,101,196,147,105,196,171,111,197,141,117,197,171,204,134,65,196,130,69,196,148,71,196,158,73,196,172,79,197,142,85,197,172,97,196,131,101,196,149,103,196,159,105,196,173,111,197,143,117,197,173,208,152,208,153,208,163,208,142,208,184,208,185,209,131,209,158,204,135,67,196,138,69,196,150,71,196,160,73,196,176,90,197,187,99,196,139,101,196,151,103,196,161,122,197,188,204,136,65,195,132,69,195,139,73,195,143,79,195,150,85,195,156,97,195,164,101,195,171,105,195,175,111,195,182,117,195,188,121,195,191,89,197,184,208,149,208,129,208,134,208,135,208,181,209,145,209,150,209,151,206,153,206,170,206,165,206,171,206,185,207,138,207,133,207,139,204,138,65,195,133,85,197,174,97,195,165,117,197,175,204,139,79,197,144,85,197,176,111,197,145,117,197,177,204,140,67,196,140,68,196,142,69,196,154,76,196,189,78,197,135,82,197,152,83,197,160,84,197,164,90,197,189,99,196,141,100,196,143,101,196,155,108,196,190,110,197,136,114,197,153,115,197,161,116,197,165,122,197,190,204,167,67,195,135,71,196,162,75,196,182,76,196,187,78,197,133,82,197,150,83,197,158,84,197,162,99,195,167,103,196,163,107,196,183,108,196,188,110,197,134,114,197,151,115,197,159,116,197,163,204,168,65,196,132,69,196,152,73,196,174,85,197,178,97,196,133,101,196,153,105,196,175,117,197,179]⟩
def zha (ag1:Int→Int→Bool→Nat→Option (List (zam×Int))) (p7:Int) (p8:Int) (base4:Bool) (m4:Nat):Option (List (zam×Int)) := aU (decide (m4<(fe jD.data.toList).length)) ( aX ((fe jD.data.toList)[m4]?) fun (p9:Pc)=> cJ (fun (j1:Int→Option (List (zam×Int)))=> aY (fN (p9.r:Int)) <| aU (((kind (p9.r:Int)):Int)==2) ( ag1 p7 (p9.r:Int) true (m4+1)
) ( aU (base4) ( j1 (p9.r:Int)
) ( rM ((⟨p7,p8⟩:zam),(p9.r:Int)) <| j1 p7
)
)
) (fun (p10:Int)=> ag1 p10 p8 (!base4) (m4+1)
)
) ( some []
)
def Bp  : Option (List (zam×Int)) := zaI (fun _ _ _ _=>none) (zha) zbH 0 0 true 0
theorem Ni  {xs:(List (zam×Int))} (h:Bp=some xs):qJ prog 128 [] (fun q:zam×Int=>[.agg #[.int .i32 q.1.e0,.int .i32 q.1.e1],.int .i32 q.2]) xs []:=by
 unfold Bp at h
 refine qJ.intro func128 rfl ntmps128 (by simp) ?_
 intro l w0 K I X a0 hy
 obtain⟨r0,G⟩:∃r,xs=[]++r:=⟨xs,rfl⟩
 have Y:xs=r0:=G
 rw[Y] at h
 refine aC ?_
 refine eN Aq rfl dc (fun b1=>?_)
 refine cv (ac 1 rfl (cv ?_))
 refine ur an rfl dc rfl (fun M=>?_)
 refine az (cy ?_)
 refine fh (β:=Nat×Int×Int×Bool×Nat×(List (zam×Int))×(List (zam×Int))) (fun b=>zaI (fun _ _ _ _=>none) (zha) b.1 b.2.1 b.2.2.1 b.2.2.2.1 b.2.2.2.2.1=some b.2.2.2.2.2.2∧xs=b.2.2.2.2.2.1++b.2.2.2.2.2.2) (fun b=>[]) (fun b=>[(0,.func (.yield l) #[] #[]),(2,zP b1),(3,.bool b.2.2.2.1),(6,zP M)]) (fun b=>[I b.2.2.2.2.2.1,cells b1 [.int .i32 b.2.1,.int .i32 b.2.2.1] 127,obj M (.stringIter jD (lV jD b.2.2.2.2.1))]) (fun b=>b.1) (zbH,0,0,true,0,([]:List (zam×Int)),r0) ⟨h,G⟩ rfl (aT rfl) (aH [0,1,2] kr rfl) ?_
 rintro⟨E,n,j,d,C,a,u⟩ ⟨h,s⟩
 cases E with
 | zero=>exact fa h
 | succ E=>
  obtain⟨aw,g⟩:∃ag,ag=zaI (fun _ _ _ _=>none) (zha) E:=⟨_,rfl⟩
  have h:zha aw n j d C=some u:=by rw[g];exact h
  unfold zha at h
  refine aC ?_
  refine sL (b:=decide (C<(fe jD.data.toList).length)) (fun t=>?_) (fun t=>?_)
  ·
   have h:=ng t h
   obtain⟨e,Z,h⟩:=bj h
   refine ut (k:=2) (m:=C) (p:=e) rfl dc rfl rfl Z (fS rfl dc rfl rfl (az (cm (iH rfl (bH (cz (cy ?_)))))))
   obtain⟨j1,ao,h⟩:=cP h
   refine c8 (β:=Int×(List (zam×Int))×(List (zam×Int))) 1 rfl (fun b=>j1 b.1=some b.2.2∧xs=b.2.1++b.2.2) (fun b=>[]) (fun b=>[(0,.func (.yield l) #[] #[]),(2,zP b1),(3,.bool d),(6,zP M)]) (fun b=>[I b.2.1,cells b1 [.int .i32 b.1,.int .i32 j] 127,obj M (.stringIter jD (lV jD (C+1)))]) (fun cut=>?_) ?_
   ·
    refine aC (fS rfl dc rfl rfl (ac 1 rfl (az (cut (cy (aC (ac 1 rfl ?_)))))))
    obtain⟨H,h⟩:=bC h
    refine dq (v:=zI (kind (e.r:Int))) (vs:=[.int .i32 (e.r:Int)]) rfl dc rfl rfl rfl AN (nP fun w=>wq (e.r:Int) w H.1 H.2) ?_
    refine aO rfl eE (ac 1 rfl (az ?_))
    refine bG rfl h (fun h=>?_) (fun h=>?_)
    ·
     refine aC (ac 1 rfl (nR dc jg kq rfl dc rfl rfl (show _=1 from rfl) ?_))
     refine ef (k:=1) (l':=[.int .i32 n,.int .i32 (e.r:Int)]) kq rfl rfl rfl rfl rfl (fun _ _=>rfl) rfl ?_
     refine ac 1 rfl (az (dZ (vz dc (cA (ed ?_)))))
     subst g
     exact ff (E,n,(e.r:Int),true,C+1,a,u) ⟨h,s⟩ (av _) rfl (aT rfl) (aH [0,1,2] kr rfl)
    refine aC (ac 2 rfl (az ?_))
    refine bG rfl h (fun h=>?_) (fun h=>?_)
    ·
     refine ct (ac 1 rfl (nR dc jg kq rfl dc rfl rfl (show _=0 from rfl) ?_))
     refine ef (k:=1) (l':=[.int .i32 (e.r:Int),.int .i32 j]) kq rfl rfl rfl rfl rfl (fun _ _=>rfl) rfl ?_
     refine bU (cw ?_)
     exact bx ((e.r:Int),a,u) ⟨h,s⟩ rfl (aT rfl) (aH [0,1,2] kr rfl)
    refine aC (ac 1 rfl (gM (k:=1) (cs:=[.int .i32 n,.int .i32 j]) wb rfl dc rfl rfl rfl rfl (ac 1 rfl ?_)))
    obtain⟨i,W,h⟩:=sO h
    have D:xs=a++((⟨n,j⟩:zam),(e.r:Int))::i:=by rw[s,W]
    refine sG hy rfl dc rfl D rfl (k:=0) rfl ?_ ?_
    ·
     have U:xs=(a++[((⟨n,j⟩:zam),(e.r:Int))])++i:=by rw[D];simp
     refine jq rfl dc rfl js (ac 1 rfl (az (eQ rfl (bH (cw ?_)))))
     exact bx (n,a++[((⟨n,j⟩:zam),(e.r:Int))],i) ⟨h,U⟩ rfl (aT rfl) (aH [0,1,2] kr rfl)
    refine jq rfl dc rfl js (ac 1 rfl (az (iH rfl (bI (cE (bT (cE (bT (cE ?_)))))))))
    exact sI (ds:=[]) a ((⟨n,j⟩:zam),(e.r:Int)) i D (.inl rfl) ad results128 (aH [0] kr rfl)
   rintro⟨T,J,O⟩ ⟨h,V⟩
   rw[ao] at h
   refine ct (ac 1 rfl (jq rfl dc rfl js (ac 1 rfl (bU (cw ?_)))))
   subst g
   exact ff (E,T,j,!d,C+1,J,O) ⟨h,V⟩ (av _) rfl (aT rfl) (aH [0,1,2] kr rfl)
  have h:=nh t h
  refine uu (k:=2) (m:=C) rfl dc rfl rfl (lF (of_decide_eq_false t)) (fS rfl dc rfl rfl (az (cm (eQ rfl (dZ (cA (cA (ed ?_))))))))
  cases h
  exact tI (ds:=[]) (.inr rfl) ad results128 (aL I (s.trans (aQ _))) (aH [0] kr rfl)
def zgm (x1:zam×Int) (ag1:(List (zam×Int))→(List (Int×zam))→Option ((List (zam×Int))×(List (Int×zam)))) (join4:List (zam×Int)) (split4:List (Int×zam)):Option ((List (zam×Int))×(List (Int×zam))) := ag1 (gH x1.1 x1.2 join4) (gH x1.2 x1.1 split4)
def uN  : Option ((List (zam×Int))×(List (Int×zam))) := cJ (fun (j1:(List (zam×Int))→(List (Int×zam))→Option ((List (zam×Int))×(List (Int×zam))))=> aX (Bp) fun (its1:(List (zam×Int)))=> cJ (fun (dn1:(List (zam×Int))→(List (Int×zam))→Option ((List (zam×Int))×(List (Int×zam))))=> zcM dn1 (zgm) its1 ([]:List (zam×Int)) ([]:List (Int×zam))
) (fun (join4:List (zam×Int)) (split4:List (Int×zam))=> j1 join4 split4
)
) (fun (join1:List (zam×Int)) (split1:List (Int×zam))=> some (join1,split1)
)
theorem Bq  {r:((List (zam×Int))×(List (Int×zam)))} (h:uN=some r):Fn prog 74 [] [] (fun b:Nat×Nat=>.tuple #[.map (some b.1),.map (some b.2)]) (fun b=>[cq (fun p:zam=>aZ #[.int .i32 p.e0,.int .i32 p.e1]) (fun n:Int=>ax .i32 n) b.1 r.1,cq (fun n:Int=>ax .i32 n) (fun p:zam=>aZ #[.int .i32 p.e0,.int .i32 p.e1]) b.2 r.2]):=by
 unfold uN at h
 refine _root_.Go.Proofs.YtifpjbgnikjglaaGreatDoor.Fn.intro func74 rfl ntmps74 (by simp) ?_
 intro w0 K
 refine qH ?_
 obtain⟨j1,a1,h⟩:=cP h
 refine c8 (β:=(List (zam×Int))×(List (Int×zam))×Nat×Nat×Nat×Nat×(List Nat)) 2 rfl (fun b=>j1 b.1 b.2.1=some r) (fun b=>mQ b.2.2.2.2.2.2) (fun b=>[(2,zP b.2.2.1),(3,zP b.2.2.2.2.1)]) (fun b=>[cells b.2.2.1 [.map (some b.2.2.2.1)] 115,cq (fun p:zam=>aZ #[.int .i32 p.e0,.int .i32 p.e1]) (fun n:Int=>ax .i32 n) b.2.2.2.1 b.1,cells b.2.2.2.2.1 [.map (some b.2.2.2.2.2.1)] 116,cq (fun n:Int=>ax .i32 n) (fun p:zam=>aZ #[.int .i32 p.e0,.int .i32 p.e1]) b.2.2.2.2.2.1 b.2.1,zgL ((b.2.2.2.2.2.2:List Nat).map eZ)]) (fun cut=>?_) ?_
 ·
  refine aC (ac 2 rfl (cv ?_))
  refine tY (fun p:zam=>aZ #[.int .i32 p.e0,.int .i32 p.e1]) (fun n:Int=>ax .i32 n) rfl dc (fun G=>?_)
  refine tY (fun n:Int=>ax .i32 n) (fun p:zam=>aZ #[.int .i32 p.e0,.int .i32 p.e1]) rfl dc (fun E=>?_)
  refine eN EO rfl dc (fun O=>?_)
  refine eN EQ rfl dc (fun M=>?_)
  refine ef (k:=3) (l':=[.map (some G)]) EN rfl rfl rfl rfl rfl (fun _ _=>rfl) rfl ?_
  refine ef (k:=4) (l':=[.map (some E)]) EP rfl rfl rfl rfl rfl (fun _ _=>rfl) rfl ?_
  refine az (cut (cy ?_))
  obtain⟨T,a0,h⟩:=bj h
  obtain⟨I,V,h⟩:=cP h
  refine sJ (α:=zam×Int) (β:=(List (zam×Int))×(List (Int×zam))) (γ:=Unit) (δ:=Nat) (ps:=[8,9]) Ro.nil rfl LB (Ni a0) (fun pre b=>∀post,T=pre++post→zcM I (zgm) post b.1 b.2=some r) (fun pre b=>[cells O [.map (some G)] 115,cq (fun p:zam=>aZ #[.int .i32 p.e0,.int .i32 p.e1]) (fun n:Int=>ax .i32 n) G b.1,cells M [.map (some E)] 116,cq (fun n:Int=>ax .i32 n) (fun p:zam=>aZ #[.int .i32 p.e0,.int .i32 p.e1]) E b.2]) (fun c pre g=>False) (fun c pre g=>[]) (fun pre x b j=>[(0,.map none),(1,.map none),(2,zP O),(3,zP M),(4,zP j),(5,.int .i32 x.2)]) (fun pre x b j=>[cells O [.map (some G)] 115,cq (fun p:zam=>aZ #[.int .i32 p.e0,.int .i32 p.e1]) (fun n:Int=>ax .i32 n) G b.1,cells M [.map (some E)] 116,cq (fun n:Int=>ax .i32 n) (fun p:zam=>aZ #[.int .i32 p.e0,.int .i32 p.e1]) E b.2,cells j [.int .i32 x.1.e0,.int .i32 x.1.e1] 127]) (([]:List (zam×Int)),([]:List (Int×zam))) (fun post e=>by rw[bt] at e;subst e;exact h) (aH [3,1,4,2] kr rfl) trivial (fun _=>rfl) dc ?_ ?_ ?_ ?_
  ·
   rintro lp rc pre x1 post ⟨s,l⟩ w1 K1 C U aw t
   refine aC ?_
   refine eN Aq rfl dc (fun b9=>?_)
   refine eH (k:=4) (vs:=[.int .i32 x1.1.e0,.int .i32 x1.1.e1]) (l':=[.int .i32 x1.1.e0,.int .i32 x1.1.e1]) EU rfl rfl rfl rfl rfl (show _≤_ by simp) rfl rfl ?_
   refine az (ct (ac 1 rfl (bU ?_)))
   exact fun a w ha hw=>⟨b9,(aT rfl) _ _ _ ha,hw.weaken (aH [0,1,2,3,4] kr rfl)⟩
  ·
   rintro lp rc pre x1 v ⟨s,l⟩ ao w1 K1 C U aw t
   have h:=t (x1::v) C
   obtain⟨a3,H⟩:∃ag,ag=zcM I (zgm) v:=⟨_,rfl⟩
   have h:zgm x1 a3 s l=some r:=by have h2:=h;rw[nz,← H] at h2;exact h2
   unfold zgm at h
   refine cy ?_
   refine xO (β:=Unit) 7 6 _ [(0,10,.map (some G)),(1,11,.agg #[.int .i32 x1.1.e0,.int .i32 x1.1.e1]),(2,12,.map (some E)),(3,13,.int .i32 x1.2),(4,14,.int .i32 x1.2),(5,15,.agg #[.int .i32 x1.1.e0,.int .i32 x1.1.e1])] (fun _b=>[]) (fun _b=>[cells O [.map (some G)] 115,cq (fun p:zam=>aZ #[.int .i32 p.e0,.int .i32 p.e1]) (fun n:Int=>ax .i32 n) G (gH x1.1 x1.2 s),cells M [.map (some E)] 116,cq (fun n:Int=>ax .i32 n) (fun p:zam=>aZ #[.int .i32 p.e0,.int .i32 p.e1]) E l,cells ao [.int .i32 x1.1.e0,.int .i32 x1.1.e1] 127]) mixed kr kr rfl dc dc (by rfl) kr kr (gk ?_ (gk ?_ (gk ?_ (yE 2 3 rfl (gk ?_ (rG gV)))))) (fun _b=>(gk ?_ (gk ?_ (gk ?_ (yE 2 3 rfl (gk ?_ (rG gV))))))) ?_ ?_
   · exact fun D n d c u i=>bF (k:=0) wa rfl dc (dE (by rfl) rfl) rfl rfl (bm 0 u i)
   · exact fun D n d c u i=>gM (k:=4) (cs:=[.int .i32 x1.1.e0,.int .i32 x1.1.e1]) wb rfl dc (dE (by rfl) rfl) rfl rfl rfl (bm 1 u i)
   · exact fun D n d c u i=>bF (k:=2) yi rfl dc (dE (by rfl) rfl) rfl rfl (bm 2 u i)
   · exact fun D n d c u i=>gM (k:=4) (cs:=[.int .i32 x1.1.e0,.int .i32 x1.1.e1]) wb rfl dc (dE (by rfl) rfl) rfl rfl rfl (bm 5 u i)
   · exact fun D n d c u i=>bF (k:=0) wa rfl dc (dE (by rfl) rfl) rfl rfl (bm 0 u i)
   · exact fun D n d c u i=>gM (k:=4) (cs:=[.int .i32 x1.1.e0,.int .i32 x1.1.e1]) wb rfl dc (dE (by rfl) rfl) rfl rfl rfl (bm 1 u i)
   · exact fun D n d c u i=>bF (k:=2) yi rfl dc (dE (by rfl) rfl) rfl rfl (bm 2 u i)
   · exact fun D n d c u i=>gM (k:=4) (cs:=[.int .i32 x1.1.e0,.int .i32 x1.1.e1]) wb rfl dc (dE (by rfl) rfl) rfl rfl rfl (bm 5 u i)
   ·
    intro D hn hd a5
    refine tZ (k:=1) (ek:=(fun p:zam=>aZ #[.int .i32 p.e0,.int .i32 p.e1])) (ev':=(fun n:Int=>ax .i32 n)) (kk:=x1.1) (vv:=x1.2) (Aa (f0:=fun p:zam=>p.e0) (f1:=fun p:zam=>p.e1) (fun a b h1 h2=>by cases a;cases b;simp_all) jg bg kq) underlying115 rfl (ja (m:=0) kr rfl (hd 0 dc)) (ja (m:=1) kr rfl (hd 1 dc)) (ja (m:=4) kr rfl (hd 4 dc)) rfl ?_
    exact fun a w ha hw=>⟨(),ha,hw⟩
   intro _b
   refine tZ (k:=3) (ek:=(fun n:Int=>ax .i32 n)) (ev':=(fun p:zam=>aZ #[.int .i32 p.e0,.int .i32 p.e1])) (kk:=x1.2) (vv:=x1.1) (iV.int bg) underlying116 rfl rfl rfl rfl rfl ?_
   refine bU (cw ?_)
   exact kP (gH x1.1 x1.2 s,gH x1.2 x1.1 l) (fun Y e2=>by have e9:=kU C e2;subst e9;subst H;exact h) (aH [0,1,2,3] kr rfl)
  ·
   rintro J ⟨s,l⟩ t
   have h:I s l=some r:=t [] (aQ _).symm
   rw[V] at h
   show TX _ _ _ _ _ _ _ [zgL ((([]:List Nat):List Nat).map eZ),cn,cn,cn,cn,cells O [.map (some G)] 115,cq (fun p:zam=>aZ #[.int .i32 p.e0,.int .i32 p.e1]) (fun n:Int=>ax .i32 n) G s,cells M [.map (some E)] 116,cq (fun n:Int=>ax .i32 n) (fun p:zam=>aZ #[.int .i32 p.e0,.int .i32 p.e1]) E l,eZ J]
   refine pY (k:=9) (j:=0) rfl rfl dc ?_
   refine cw ?_
   exact bx (s,l,O,G,M,E,J::([]:List Nat)) h rfl (aT rfl) (aH [5,6,7,8,0] kr rfl)
  rintro J c pre x1 post g a4 hX
  exact (show False from hX).elim
 rintro⟨Z,W,b1,b2,b3,b4,a2⟩ h
 rw[a1] at h
 refine cm ?_
 refine jc 3 [(0,16,.map (some b2)),(1,17,.map (some b4)),(2,0,.map (some b2))] mixed kr kr dc (by rfl) kr kr (bR ?_ (bR ?_ (gY 1 2 rfl bK))) ?_
 · exact fun D n d c u i=>bF (k:=0) wa rfl dc (dE (by rfl) rfl) rfl rfl (bm 0 u i)
 · exact fun D n d c u i=>bF (k:=2) yi rfl dc (dE (by rfl) rfl) rfl rfl (bm 1 u i)
 refine ac 1 rfl (az (bI ?_))
 cases h
 exact lS (rs:=[.tmp 0,.tmp 1]) a2 (b2,b4) (.inl rfl) (lR (k:=4) rfl) results74 (.cons (.tmp rfl) (.cons (.tmp rfl) .nil)) rfl (aH [1,3] kr rfl)
def Bt (r1:Int):Option (List Int) := aX (uN) fun (r2:((List (zam×Int))×(List (Int×zam))))=> aX (tf r2.2 r1) fun (r3:(List Int))=> some r3
theorem Nj {a:Int} {r:(List Int)} (h:Bt a=some r):Fn prog 64 [.int .i32 a] [] (fun v0:Value=>v0) (fun v0=>[eo v0 r]):=by
 unfold Bt at h
 refine _root_.Go.Proofs.YtifpjbgnikjglaaGreatDoor.Fn.intro func64 rfl ntmps64 (by simp) ?_
 intro w0 K
 refine aC (ac 1 rfl (cv ?_))
 obtain⟨k,e,h⟩:=bj h
 refine fY (vs:=[]) rfl dc rfl rfl rfl AF (Bq e) ad ?_
 rintro⟨b1,i⟩
 refine ac 1 rfl (fS rfl dc rfl rfl (fS rfl dc rfl rfl (ac 2 rfl (cv (ac 2 rfl ?_)))))
 obtain⟨j,d,h⟩:=bj h
 refine fY (vs:=[.map (some i),.int .i32 a]) rfl dc rfl rfl rfl AM (Ga d) (aH [1] kr rfl) ?_
 rintro g
 refine ac 1 rfl (az (bI ?_))
 cases h
 exact eO (rs:=[.tmp 2]) g (.inl rfl) results64 (.cons (.tmp rfl) .nil) rfl (aH [3] kr rfl)
def Gb:List (Int×Int×Int):=[(65,768,192),(69,768,200),(73,768,204),(79,768,210),(85,768,217),(97,768,224),(101,768,232),(105,768,236),(111,768,242),(117,768,249),(1045,768,1024),(1048,768,1037),(1077,768,1104),(1080,768,1117),(65,769,193),(69,769,201),(73,769,205),(79,769,211),(85,769,218),(89,769,221),(97,769,225),(101,769,233),(105,769,237),(111,769,243),(117,769,250),(121,769,253),(67,769,262),(76,769,313),(78,769,323),(82,769,340),(83,769,346),(90,769,377),(99,769,263),(108,769,314),(110,769,324),(114,769,341),(115,769,347),(122,769,378),(913,769,902),(917,769,904),(919,769,905),(921,769,906),(927,769,908),(933,769,910),(937,769,911),(945,769,940),(949,769,941),(951,769,942),(953,769,943),(959,769,972),(965,769,973),(969,769,974),(1043,769,1027),(1050,769,1036),(1075,769,1107),(1082,769,1116),(970,769,912),(971,769,944),(65,770,194),(69,770,202),(73,770,206),(79,770,212),(85,770,219),(97,770,226),(101,770,234),(105,770,238),(111,770,244),(117,770,251),(67,770,264),(71,770,284),(72,770,292),(74,770,308),(83,770,348),(87,770,372),(89,770,374),(99,770,265),(103,770,285),(104,770,293),(106,770,309),(115,770,349),(119,770,373),(121,770,375),(65,771,195),(78,771,209),(79,771,213),(97,771,227),(110,771,241),(111,771,245),(73,771,296),(85,771,360),(105,771,297),(117,771,361),(65,772,256),(69,772,274),(73,772,298),(79,772,332),(85,772,362),(97,772,257),(101,772,275),(105,772,299),(111,772,333),(117,772,363),(65,774,258),(69,774,276),(71,774,286),(73,774,300),(79,774,334),(85,774,364),(97,774,259),(101,774,277),(103,774,287),(105,774,301),(111,774,335),(117,774,365),(1048,774,1049),(1059,774,1038),(1080,774,1081),(1091,774,1118),(67,775,266),(69,775,278),(71,775,288),(73,775,304),(90,775,379),(99,775,267),(101,775,279),(103,775,289),(122,775,380),(65,776,196),(69,776,203),(73,776,207),(79,776,214),(85,776,220),(97,776,228),(101,776,235),(105,776,239),(111,776,246),(117,776,252),(121,776,255),(89,776,376),(1045,776,1025),(1030,776,1031),(1077,776,1105),(1110,776,1111),(921,776,938),(933,776,939),(953,776,970),(965,776,971),(65,778,197),(85,778,366),(97,778,229),(117,778,367),(79,779,336),(85,779,368),(111,779,337),(117,779,369),(67,780,268),(68,780,270),(69,780,282),(76,780,317),(78,780,327),(82,780,344),(83,780,352),(84,780,356),(90,780,381),(99,780,269),(100,780,271),(101,780,283),(108,780,318),(110,780,328),(114,780,345),(115,780,353),(116,780,357),(122,780,382),(67,807,199),(71,807,290),(75,807,310),(76,807,315),(78,807,325),(82,807,342),(83,807,350),(84,807,354),(99,807,231),(103,807,291),(107,807,311),(108,807,316),(110,807,326),(114,807,343),(115,807,351),(116,807,355),(65,808,260),(69,808,280),(73,808,302),(85,808,370),(97,808,261),(101,808,281),(105,808,303),(117,808,371)]
def im:List (zam×Int):=Gb.map fun t=>(⟨t.1,t.2.1⟩,t.2.2)
def tabS:List (Int×zam):=Gb.map fun t=>(t.2.2,⟨t.1,t.2.1⟩)
theorem Gc:uN=some (im,tabS):=by decide +kernel
theorem oE {T:Type} {bot:T} {step:T→T} {n:Nat}:zaI bot step (n+1)=step (zaI bot step n):=rfl
def mF (l:List UInt8) (i:Nat):Int:=((l.getD i 0).toNat:Int)
theorem qs (l:List UInt8) (i:Nat):0≤mF l i∧mF l i≤255:=by
 have:=(l.getD i 0).toNat_lt;unfold mF;omega
theorem Gd {s:ab} {a i:Nat} (h:a+i<s.size):kR s ((a:Int)+(i:Int))=some (mF (s.data.toList.drop a) i):=by
 rw[zN (n:=a+i) (by omega) h]
 have e:(s.data.toList.drop a).getD i 0=s[a+i]:=by
  rw[cC,List.getElem?_drop,aP (by simpa using h)]
  simp;rfl
 unfold mF;rw[e]
def mv (l:List UInt8):Nat→Int
 | 1=>mF l 0
 | 2=>(mF l 0 - 192)*64+mF l 1 - 128
 | 3=>((mF l 0 - 224)*64+mF l 1 - 128)*64+mF l 2 - 128
 | 4=>(((mF l 0 - 240)*64+mF l 1 - 128)*64+mF l 2 - 128)*64+mF l 3 - 128
 | _=>0
theorem Nk (l:List UInt8) (n:Nat) : -100000000≤mv l n∧mv l n≤100000000:=by
 have h0:=qs l 0;have h1:=qs l 1;have h2:=qs l 2;have a:=qs l 3
 unfold mv;split <;> omega
def acc (s:ab) (a n:Nat):Prop:=vr (mv (s.data.toList.drop a) n)∧wd (mv (s.data.toList.drop a) n)=n∧af (mv (s.data.toList.drop a) n)=c7 s a ((a:Int)+n)
theorem uO {s:ab} {a i n:Nat} {j:Int→Option (Int×Int)} {ag:Int→Int→Option (Int×Int)} {r:Int} (h:i<n) (d:a+i<s.size) (hsz:s.size≤9223372036854775000) (hr : -10000000≤r∧r≤10000000) (hi:i≤4) :
  zee s a n j ag r (i:Int)=ag (r*64+mF (s.data.toList.drop a) i - 128) ((i+1:Nat):Int):=by
 have e:=qs (s.data.toList.drop a) i
 unfold zee
 refine cu (al (by omega)) (zbx ⟨by omega,by omega⟩ (zbx ⟨by omega,by omega⟩ (bN (Gd d) (zbx ⟨by omega,by omega⟩ (zbx ⟨by omega,by omega⟩ (zbx ⟨by omega,by omega⟩ (zbx ⟨by omega,by omega⟩ ?_)))))))
 rfl
theorem yJ {s:ab} {a n:Nat} {j:Int→Option (Int×Int)} {ag:Int→Int→Option (Int×Int)} {r:Int}:zee s a n j ag r (n:Int)=j r:=by
 unfold zee;exact cr (ae (by omega)) rfl
theorem Nm (s:ab) (a n:Nat) (m:1≤n∧n≤4) (l:a+n≤s.size) (hsz:s.size≤9223372036854775000) (e:Option (Int×Int)) (d:Int) (hr:d=mv (s.data.toList.drop a) n) [Decidable (acc s a n)] :
  (aX (qZ d) fun (k:Bool)=>aU (!k) (aX (ra d) fun (j:Int)=>aU ((j:Int)==(n:Int)) (aX (qp d) fun (i:ab)=>
   aY (cR ((a:Int)+n))<|aY (0≤(a:Int)∧(a:Int)≤((a:Int)+n)∧((a:Int)+n)≤(s.size:Int))<|aU (decide (i=c7 s a ((a:Int)+n))) (some (d,(n:Int))) e) e) e) =
  if acc s a n then some (mv (s.data.toList.drop a) n,(n:Int)) else e:=by
 subst hr
 have hc:=Nk (s.data.toList.drop a) n
 refine bN (Bj _) ?_
 by_cases h1:vr (mv (s.data.toList.drop a) n)
 ·refine cu (by simp[h1]) (bN (F2 _) ?_)
  by_cases h2:wd (mv (s.data.toList.drop a) n)=n
  ·refine cu (by simp[h2]) (bN (yH _ ⟨by omega,by omega⟩) (zbx ⟨by omega,by omega⟩ (zbx ⟨by omega,by omega,by omega⟩ ?_)))
   by_cases g:af (mv (s.data.toList.drop a) n)=c7 s a ((a:Int)+n)
   ·rw[ay (show acc s a n from ⟨h1,h2,g⟩)];exact cu (al g) rfl
   ·rw[ar (fun h:acc s a n=>g h.2.2)];exact cr (ae g) rfl
  ·rw[ar (fun h:acc s a n=>h2 h.2.1)];exact cr (aS.2 h2) rfl
 ·rw[ar (fun h:acc s a n=>h1 h.1)];exact cr (by simp[h1]) rfl
open Classical in
theorem Nn (s:ab) (a n:Nat) (t:1≤n∧n≤4) (m:a+n≤s.size) (hsz:s.size≤9223372036854775000) (l:Option (Int×Int)) (ag:Int→Option (Int×Int)) :
  zdP s a l ag (n:Int)=if acc s a n then some (mv (s.data.toList.drop a) n,(n:Int)) else ag ((n+1:Nat):Int):=by
 obtain⟨F,u,_⟩:=uB 5 (by omega)
 have h0:=qs (s.data.toList.drop a) 0;have h1:=qs (s.data.toList.drop a) 1;have h2:=qs (s.data.toList.drop a) 2;have v:=qs (s.data.toList.drop a) 3
 have hg:kR s (a:Int)=some (mF (s.data.toList.drop a) 0):=by have:=Gd (s:=s) (a:=a) (i:=0) (by omega);simpa using this
 unfold zdP
 refine cu (al (by omega)) (zbx ⟨by omega,by omega⟩ (cu (al (by omega)) (dv (dv (bN hg (zbx ⟨by omega,by omega⟩ ?_))))))
 have d:∀g:Int,g=mv (s.data.toList.drop a) n→∀z,z=ag ((n+1:Nat):Int)→(aX (qZ g) fun (k:Bool)=>aU (!k) (aX (ra g) fun (j:Int)=>aU ((j:Int)==(n:Int)) (aX (qp g) fun (h:ab)=>
   aY (cR ((a:Int)+n))<|aY (0≤(a:Int)∧(a:Int)≤((a:Int)+n)∧((a:Int)+n)≤(s.size:Int))<|aU (decide (h=c7 s a ((a:Int)+n))) (some (g,(n:Int))) z) z) z) =
   if acc s a n then some (mv (s.data.toList.drop a) n,(n:Int)) else ag ((n+1:Nat):Int):=fun g hr z hz=>by subst hz;exact Nm s a n t m hsz _ g hr
 have hz:(aY (cR ((n:Int)+1))<|ag ((n:Int)+1))=ag ((n+1:Nat):Int):=zbx ⟨by omega,by omega⟩ rfl
 rw[hz,u]
 obtain rfl | rfl | rfl | rfl:n=1∨n=2∨n=3∨n=4:=by omega
 ·refine cr rfl (dv ?_)
  rw[oE,show ((1:Int))=((1:Nat):Int) from rfl,yJ]
  exact d _ rfl _ rfl
 ·have e:(256 - (kS .i32 1 (8 - ((2:Nat):Int))))=192:=by decide
  rw[e]
  refine cu rfl (zbx ⟨by omega,by omega⟩ (zbx (by omega) (zbx ⟨by omega,by omega⟩ (zbx ⟨by omega,by omega⟩ (dv ?_)))))
  rw[oE,show ((1:Int))=((1:Nat):Int) from rfl,uO (by omega) (by omega) hsz (by omega) (by omega),oE,yJ]
  exact d _ rfl _ rfl
 ·have e:(256 - (kS .i32 1 (8 - ((3:Nat):Int))))=224:=by decide
  rw[e]
  refine cu rfl (zbx ⟨by omega,by omega⟩ (zbx (by omega) (zbx ⟨by omega,by omega⟩ (zbx ⟨by omega,by omega⟩ (dv ?_)))))
  rw[oE,show ((1:Int))=((1:Nat):Int) from rfl,uO (by omega) (by omega) hsz (by omega) (by omega),oE,uO (by omega) (by omega) hsz (by omega) (by omega),oE,yJ]
  exact d _ rfl _ rfl
 ·have e:(256 - (kS .i32 1 (8 - ((4:Nat):Int))))=240:=by decide
  rw[e]
  refine cu rfl (zbx ⟨by omega,by omega⟩ (zbx (by omega) (zbx ⟨by omega,by omega⟩ (zbx ⟨by omega,by omega⟩ (dv ?_)))))
  rw[oE,show ((1:Int))=((1:Nat):Int) from rfl,uO (by omega) (by omega) hsz (by omega) (by omega),oE,uO (by omega) (by omega) hsz (by omega) (by omega),oE,uO (by omega) (by omega) hsz (by have q:=qs (s.data.toList.drop a) (1+1);omega) (by omega),oE,yJ]
  exact d _ rfl _ rfl
theorem Bu (s:ab) (a n:Nat):(c7 s a ((a:Int)+n)).data.toList=(s.data.toList.drop a).take n:=by
 unfold c7
 rw[extract_data]
 simp only[Int.toNat_natCast,show ((a:Int)+(n:Int)).toNat=a+n by omega]
 rw[show a+n - a=n by omega]
theorem Np {s:ab} {a n:Nat} (j:1≤n∧n≤4) (i:a+n≤s.size) (h:acc s a n):((decodeL (s.data.toList.drop a)).1:Int)=mv (s.data.toList.drop a) n∧(decodeL (s.data.toList.drop a)).2=n∧¬ ((decodeL (s.data.toList.drop a)).1=65533∧(decodeL (s.data.toList.drop a)).2=1):=by
 obtain⟨h1,h2,g⟩:=h
 have d:=aL (fun b:ab=>b.data.toList) g
 simp only[o0,Bu] at d
 have hv:=h1
 unfold vr at h1
 generalize hc:mv (s.data.toList.drop a) n=c at *
 obtain⟨m,rfl⟩:∃m:Nat,c=m:=⟨c.toNat,by omega⟩
 have h5:=yw m (by omega) ((s.data.toList.drop a).drop n)
 rw[d,dH] at h5
 have e:((s.data.toList.drop a).take n).length=n:=by simp;omega
 rw[e] at h5
 rw[h5]
 refine⟨rfl,rfl,fun⟨e1,e2⟩=>?_⟩
 simp only at e1 e2
 subst e1;subst e2
 unfold wd at h2;revert h2;decide
theorem qt {l:List UInt8} {i:Nat} {x:Int} (h:l[i]?=some (x.toNat.toUInt8)) (hx:0≤x∧x≤255):mF l i=x:=by
 unfold mF
 rw[cC,h]
 simp;omega
theorem Ge {s:ab} {a:Nat} (E:a<s.size) (v:¬ ((decodeL (s.data.toList.drop a)).1=65533∧(decodeL (s.data.toList.drop a)).2=1)) :
  acc s a (decodeL (s.data.toList.drop a)).2∧1≤(decodeL (s.data.toList.drop a)).2∧(decodeL (s.data.toList.drop a)).2≤4∧a+(decodeL (s.data.toList.drop a)).2≤s.size:=by
 have t:s.data.toList.drop a≠[]:=by
  intro h;have:=aL gi h;simp at this;omega
 have j:=vN _ t
 generalize m:s.data.toList.drop a=l at *
 generalize hr:(decodeL l).1=r at *
 generalize D:(decodeL l).2=w at *
 have u:l.length=s.size - a:=by rw[← m];simp
 have hv:=j.valid
 have k:vr (r:Int):=by unfold vr;omega
 have h1:=j.width v
 have h2:=j.bytes v
 have n:=M5 _ k
 have C:=j.le
 have g:mv l w=r:=by
  have d:∀ (i:Nat) (x:Int),(encodeRuneZ (r:Int))[i]?=some x→l[i]?=some (x.toNat.toUInt8):=by
   intro i x hx
   have hi:i<w:=by
    rw[← h1];unfold encodeRune;rw[aF];exact (au.1 hx).1
   have:(encodeRune (r:Int))[i]?=some (x.toNat.toUInt8):=by unfold encodeRune;rw[bV,hx];rfl
   rw[h2,List.getElem?_take,ay hi] at this
   exact this
  unfold wd at n
  rw[ay k] at n
  split at n
  ·rw[encodeRuneZ_one (by omega) (by omega)] at d
   have e:w=1:=by omega
   rw[e]
   exact qt (d 0 _ rfl) (by omega)
  ·split at n
   ·rw[encodeRuneZ_two (by omega) (by omega)] at d
    have e:w=2:=by omega
    rw[e]
    simp only[mv]
    rw[qt (d 0 _ rfl) (by omega),qt (d 1 _ rfl) (by omega)];omega
   ·split at n
    ·rw[encodeRuneZ_three (by omega)] at d
     have e:w=3:=by omega
     rw[e]
     simp only[mv]
     rw[qt (d 0 _ rfl) (by omega),qt (d 1 _ rfl) (by omega),qt (d 2 _ rfl) (by omega)];omega
    ·rw[encodeRuneZ_four (by omega) (by omega)] at d
     have e:w=4:=by omega
     rw[e]
     simp only[mv]
     rw[qt (d 0 _ rfl) (by omega),qt (d 1 _ rfl) (by omega),qt (d 2 _ rfl) (by omega),qt (d 3 _ rfl) (by omega)];omega
 have G:=xZ (r:Int)
 refine⟨⟨by rw[m,g];exact k,by rw[m,g];omega,?_⟩,j.pos,by omega,by omega⟩
 rw[m,g]
 apply _root_.ByteArray.ext
 apply Array.toList_inj.1
 rw[o0,Bu,m,h2]
def gh (p:Pc):cX:=⟨p.i,p.w,p.r,p.broken⟩
def uP (l:List UInt8):Int×Int:=if (decodeL l).1=65533∧(decodeL l).2=1 then (0,0) else ((decodeL l).1,(decodeL l).2)
theorem Nq (s:ab) (a:Nat) (v:a<s.size) (hsz:s.size≤9223372036854775000):wz s a=some (uP (s.data.toList.drop a)):=by
 classical
 unfold wz
 refine dv ?_
 obtain⟨F,D,_⟩:=uB 6 (by omega)
 rw[D]
 have key:∀k m:Nat,m+k=5→1≤m→(∀n,1≤n→n<m→a+n≤s.size→¬ acc s a n)→∀G,zaI (fun _=>none) (zdP s a (some (0,0))) (G+k+1) (m:Int)=some (uP (s.data.toList.drop a)):=by
  intro k
  induction k with
  | zero=>
   intro m hm h1 d G
   have l:m=5:=by omega
   rw[l,oE]
   unfold zdP
   refine cr rfl ?_
   unfold uP
   rw[ay]
   by_cases g:(decodeL (s.data.toList.drop a)).1=65533∧(decodeL (s.data.toList.drop a)).2=1
   ·exact g
   ·obtain⟨h2,t,E,h5⟩:=Ge v g
    exact absurd h2 (d _ t (by omega) h5)
  | succ k w=>
   intro m hm h1 d G
   rw[oE]
   by_cases u:a+m≤s.size
   ·rw[Nn s a m ⟨h1,by omega⟩ u hsz]
    by_cases e:acc s a m
    ·rw[ay e]
     obtain⟨e1,e2,H⟩:=Np ⟨h1,by omega⟩ u e
     unfold uP;rw[ar H,e1,e2]
    ·rw[ar e]
     exact w (m+1) (by omega) (by omega) (fun n j C i=>by
      by_cases h:n=m
      ·subst h;exact e
      ·exact d n j (by omega) i) G
   ·unfold zdP
    refine cu (al (by omega)) (zbx ⟨by omega,by omega⟩ (cr (ae (by omega)) ?_))
    unfold uP
    rw[ay]
    by_cases g:(decodeL (s.data.toList.drop a)).1=65533∧(decodeL (s.data.toList.drop a)).2=1
    ·exact g
    ·obtain⟨h2,t,E,h5⟩:=Ge v g
     exact absurd h2 (d _ t (by omega) h5)
 exact key 4 1 rfl (by omega) (fun n h1 h2=>by omega) (F+1)
theorem Nr (s:ab) (a:Nat) (e:a<s.size) (hsz:s.size≤9223372036854775000):wA s a=some (gh ⟨a,(decodeL (s.data.toList.drop a)).2,(decodeL (s.data.toList.drop a)).1⟩):=by
 unfold wA
 refine bN (Nq s a e hsz) ?_
 unfold uP gh Pc.broken
 have hp:=qM (s.data.toList.drop a)
 by_cases d:(decodeL (s.data.toList.drop a)).1=65533∧(decodeL (s.data.toList.drop a)).2=1
 ·rw[ay d]
  refine cr rfl ?_
  rw[d.1,d.2];rfl
 ·rw[ar d]
  refine cu (al (by simp only;omega)) ?_
  have:((decodeL (s.data.toList.drop a)).1==65533&&(decodeL (s.data.toList.drop a)).2==1)=false:=by
   rw[Bool.and_eq_false_iff]
   by_cases h:(decodeL (s.data.toList.drop a)).1=65533
   ·right;exact aS.2 (fun h2=>d ⟨h,h2⟩)
   ·left;exact aS.2 h
  simp only[this]
theorem Ns (s:ab) (hsz:s.size≤2147483648):wB s=some ((fe s.data.toList).map gh):=by
 unfold wB
 refine dv ?_
 have key:∀n a:Nat,a≤s.size→s.size - a<n→∀l:List cX,l.length≤a→zaI (fun _ _=>none) (zdW s some) n l (a:Int)=some (l++(mi a (s.data.toList.drop a)).map gh):=by
  intro n
  induction n with
  | zero=>intro a _ h;omega
  | succ n i=>
   intro a m j l k
   rw[oE]
   generalize hg:zaI (fun _ _=>none) (zdW s some) n=ag
   unfold zdW
   by_cases h:a<s.size
   ·have e:s.data.toList.drop a≠[]:=by
     intro h;have:=aL gi h;simp at this;omega
    have d:=vN _ e
    have h1:=d.pos;have h2:=d.le
    have g:(s.data.toList.drop a).length=s.size - a:=by simp
    refine cu (al (by omega)) (bN (Nr s a h (by omega)) (zbx (by omega) (zbx ⟨by simp only[gh];omega,by simp only[gh];omega⟩ ?_)))
    have:=i (a+(decodeL (s.data.toList.drop a)).2) (by omega) (by omega) (l++[gh ⟨a,(decodeL (s.data.toList.drop a)).2,(decodeL (s.data.toList.drop a)).1⟩]) (by simp;omega)
    rw[qO _ _ e,eS]
    rw[show ((a:Int)+(gh ⟨a,(decodeL (s.data.toList.drop a)).2,(decodeL (s.data.toList.drop a)).1⟩).Width)=((a+(decodeL (s.data.toList.drop a)).2:Nat):Int) by simp[gh]]
    rw[← hg,this];simp
   ·refine cr (ae (by omega)) ?_
    have:s.data.toList.drop a=[]:=List.drop_eq_nil_of_le (by simp;omega)
    rw[this,qN];simp
 exact key zbH 0 (by omega) (by unfold zbH;omega) [] (by simp)
def eC (r:Int):Bool:=decide (768≤r∧r≤879)
theorem mG (r:Int) (h:dw r=true):0≤r∧r<1120∧¬ (768≤r∧r≤879):=by
 unfold dw at h
 rw[Bool.or_eq_true,s3,uq] at h
 unfold o8 qo at h
 refine⟨?_,?_,?_⟩ <;> omega
theorem Gf (r:Int):((kind r:Int)==1)=dw r:=by
 cases h:dw r with
 | true=>
  have:=mG r h
  have e:kind r=1:=by unfold kind uo;rw[ar (by omega),ay h]
  rw[e];rfl
 | false=>
  rw[aS]
  unfold kind uo
  rw[h]
  simp only[Bool.false_eq_true,if_false]
  (repeat' split) <;> omega
theorem Gg (r:Int):((kind r:Int)==2)=eC r:=by
 unfold eC
 by_cases h:768≤r∧r≤879
 ·rw[al h,beq_iff_eq]
  have a:dw r=false:=by
   cases h':dw r with
   | false=>rfl
   | true=>exact absurd h (mG r h').2.2
  unfold kind uo
  rw[ar (by omega),a,ar (by simp),ay h]
 ·rw[ae h,aS]
  unfold kind uo
  (repeat' split) <;> omega
theorem yK (u:cS) (h:fN u.base):rh u=some (dw u.base):=by
 unfold rh
 by_cases h0:0≤u.base
 ·exact cu (al h0) (zbx h (aL some (Gf _)))
 ·refine cr (ae h0) (aL some ?_)
  cases h':dw u.base with
  | false=>rfl
  | true=>exact absurd (mG _ h').1 h0
theorem uQ (x:bX) (h:fN x.Rune):re x=some (dw x.Rune):=by
 unfold re sa
 by_cases h0:0≤x.Rune
 ·refine cu (al h0) (bN (a:=dw x.Rune) (zbx h ?_) rfl)
  cases hg:great x.Rune with
  | true=>exact cu rfl (by unfold dw;rw[hg];rfl)
  | false=>exact cr rfl (zbx h (by unfold dw;rw[hg];rfl))
 ·refine cr (ae h0) (aL some ?_)
  cases h':dw x.Rune with
  | false=>rfl
  | true=>exact absurd (mG _ h').1 h0
theorem Nt (x:bX):wX x=some (eC x.Rune):=by
 unfold wX rb eC
 by_cases h0:0≤x.Rune
 ·refine cu (al h0) (bN (a:=eC x.Rune) ?_ rfl)
  unfold eC
  by_cases h1:768≤x.Rune
  ·exact cu (al h1) (aL some (by simp[h1]))
  ·exact cr (ae h1) (aL some (by simp[h1]))
 ·exact cr (ae h0) (aL some (by symm;rw[ae];omega))
def tg:List (Int×Int):=[(790,793),(796,800),(803,819),(825,828),(837,841),(845,846),(851,854),(857,858)]
def lX (r:Int):Bool:=tg.any fun p=>decide (p.1≤r)&&decide (r≤p.2)
theorem Gh (r:Int):uH r=some (lX r):=by
 unfold uH
 refine dv ?_
 have:=wC (xs:=([(⟨790,793⟩:jk),(⟨796,800⟩:jk),(⟨803,819⟩:jk),(⟨825,828⟩:jk),(⟨837,841⟩:jk),(⟨845,846⟩:jk),(⟨851,854⟩:jk),(⟨857,858⟩:jk)]:List jk)) (F:=zfQ r (some false)) (bot:=fun _=>none)
  (g:=fun p=>if decide (p.e0≤r)&&decide (r≤p.e1) then some (some true) else none) (J:=some false) (fun ag k x hx=>by
   have hk:k<8:=nD hx
   unfold zfQ
   refine cu (al (by omega)) (dv (bN (lW hx) ?_))
   have a:(aY (cR ((k:Int)+1))<|ag ((k:Int)+1))=ag ((k:Int)+1):=zbx (jC (by omega)) rfl
   by_cases h1:x.e0≤r
   ·refine cu (al h1) ?_
    by_cases h2:r≤x.e1
    ·exact cu (al h2) (by simp[h1,h2])
    ·exact cr (ae h2) (by simp[h1,h2,a])
   ·exact cr (ae h1) (by simp[h1,a])) (fun ag=>cr (by decide) rfl) (n:=zbH) (kZ (by decide))
 rw[this]
 simp only[da,List.findSome?_nil,lX,tg,List.any_cons,List.any_nil,nL]
 (repeat' split) <;> simp_all
theorem Nu (r:Int):w5 r=some (lX r):=by
 have h:r<790∨(790≤r∧r≤793)∨(793<r∧r<796)∨(796≤r∧r≤800)∨(800<r∧r<803)∨(803≤r∧r≤819)∨(819<r∧r<825)∨(825≤r∧r≤828)∨(828<r∧r<837)∨(837≤r∧r≤841)∨(841<r∧r<845)∨(845≤r∧r≤846)∨(846<r∧r<851)∨(851≤r∧r≤854)∨(854<r∧r<857)∨(857≤r∧r≤858)∨858<r:=by omega
 unfold w5
 simp only[cJ,aU,lX,tg,List.any_cons,List.any_nil,nL]
 rcases h with h | h | h | h | h | h | h | h | h | h | h | h | h | h | h | h | h <;> simp (disch:=omega) only[al,ae,cond_true,cond_false,Bool.and_true,Bool.and_false,Bool.true_and,Bool.false_and,Bool.true_or,Bool.false_or,Bool.or_true,nL]
def th:List (Int×Int×Int):=[(65,768,192),(69,768,200),(73,768,204),(79,768,210),(85,768,217),(97,768,224),(101,768,232),(105,768,236),(111,768,242),(117,768,249),(1045,768,1024),(1048,768,1037),(1077,768,1104),(1080,768,1117),(65,769,193),(69,769,201),(73,769,205),(79,769,211),(85,769,218),(89,769,221),(97,769,225),(101,769,233),(105,769,237),(111,769,243),(117,769,250),(121,769,253),(67,769,262),(76,769,313),(78,769,323),(82,769,340),(83,769,346),(90,769,377),(99,769,263),(108,769,314),(110,769,324),(114,769,341),(115,769,347),(122,769,378),(913,769,902),(917,769,904),(919,769,905),(921,769,906),(927,769,908),(933,769,910),(937,769,911),(945,769,940),(949,769,941),(951,769,942),(953,769,943),(959,769,972),(965,769,973),(969,769,974),(1043,769,1027),(1050,769,1036),(1075,769,1107),(1082,769,1116),(970,769,912),(971,769,944),(65,770,194),(69,770,202),(73,770,206),(79,770,212),(85,770,219),(97,770,226),(101,770,234),(105,770,238),(111,770,244),(117,770,251),(67,770,264),(71,770,284),(72,770,292),(74,770,308),(83,770,348),(87,770,372),(89,770,374),(99,770,265),(103,770,285),(104,770,293),(106,770,309),(115,770,349),(119,770,373),(121,770,375),(65,771,195),(78,771,209),(79,771,213),(97,771,227),(110,771,241),(111,771,245),(73,771,296),(85,771,360),(105,771,297),(117,771,361),(65,772,256),(69,772,274),(73,772,298),(79,772,332),(85,772,362),(97,772,257),(101,772,275),(105,772,299),(111,772,333),(117,772,363),(65,774,258),(69,774,276),(71,774,286),(73,774,300),(79,774,334),(85,774,364),(97,774,259),(101,774,277),(103,774,287),(105,774,301),(111,774,335),(117,774,365),(1048,774,1049),(1059,774,1038),(1080,774,1081),(1091,774,1118),(67,775,266),(69,775,278),(71,775,288),(73,775,304),(90,775,379),(99,775,267),(101,775,279),(103,775,289),(122,775,380),(65,776,196),(69,776,203),(73,776,207),(79,776,214),(85,776,220),(97,776,228),(101,776,235),(105,776,239),(111,776,246),(117,776,252),(121,776,255),(89,776,376),(1045,776,1025),(1030,776,1031),(1077,776,1105),(1110,776,1111),(921,776,938),(933,776,939),(953,776,970),(965,776,971),(65,778,197),(85,778,366),(97,778,229),(117,778,367),(79,779,336),(85,779,368),(111,779,337),(117,779,369),(67,780,268),(68,780,270),(69,780,282),(76,780,317),(78,780,327),(82,780,344),(83,780,352),(84,780,356),(90,780,381),(99,780,269),(100,780,271),(101,780,283),(108,780,318),(110,780,328),(114,780,345),(115,780,353),(116,780,357),(122,780,382),(67,807,199),(71,807,290),(75,807,310),(76,807,315),(78,807,325),(82,807,342),(83,807,350),(84,807,354),(99,807,231),(103,807,291),(107,807,311),(108,807,316),(110,807,326),(114,807,343),(115,807,351),(116,807,355),(65,808,260),(69,808,280),(73,808,302),(85,808,370),(97,808,261),(101,808,281),(105,808,303),(117,808,371)]
section
variable {κ ν:Type} [DecidableEq κ]
theorem qu {k:κ} {v:ν}:∀ {L:List (κ×ν)},zbL k L=some v→(k,v)∈L
 | [],h=>by cases h
 | p::L,h=>by
  unfold zbL at h
  split at h
  ·rename_i e;cases h;rw[e];exact aB ..
  ·exact aq _ (qu h)
theorem Gi {A B:List (κ×ν)} (h1:∀p∈A,zbL p.1 B=zbL p.1 A) (h2:∀p∈B,zbL p.1 A=zbL p.1 B) (k:κ):zbL k A=zbL k B:=by
 cases h:zbL k A with
 | some v=>have:=h1 _ (qu h);rw[← h];exact this.symm
 | none=>
  cases h':zbL k B with
  | none=>rfl
  | some v=>have:=h2 _ (qu h');simp only at this;rw[h,h'] at this;cases this
end
def w7:List (zam×Int):=th.map fun t=>(⟨t.1,t.2.1⟩,t.2.2)
def w8:List (Int×zam):=th.map fun t=>(t.2.2,⟨t.1,t.2.1⟩)
theorem Nv:∀p∈w8,zbL p.1 tabS=zbL p.1 w8:=by decide +kernel
theorem Nw:∀p∈tabS,zbL p.1 w8=zbL p.1 tabS:=by decide +kernel
theorem Nx:∀p∈w7,zbL p.1 im=zbL p.1 w7:=by decide +kernel
theorem Ny:∀p∈im,zbL p.1 w7=zbL p.1 im:=by decide +kernel
theorem Nz (r:Int):zbL r w8=zbL r tabS:=Gi Nv Nw r
theorem NA (p:zam):zbL p w7=zbL p im:=Gi Nx Ny p
def gO:List gu:=(uE).getD []
theorem Gj:uE=some gO:=rfl
def nm (q:gu):List (Int×Int×Int):=((fA q.e1).zip (fA q.e2)).map fun p=>(p.1,(fA q.e0).headD 0,p.2)
theorem Gk:gO.flatMap nm=th:=by decide +kernel
def Gm (q:gu):Bool:=decide ((fA q.e1).length=(fA q.e2).length)&&decide ((fA q.e0).length=1)&&decide (q.e0.size≤1000∧q.e1.size≤1000∧q.e2.size≤1000)
theorem NB:gO.all Gm=true:=by decide +kernel
theorem yL {q:gu} (h:q∈gO):(fA q.e1).length=(fA q.e2).length∧zcy (fA q.e0) 0=some ((fA q.e0).headD 0)∧q.e0.size≤1000∧q.e1.size≤1000∧q.e2.size≤1000:=by
 have:=bz.1 NB q h
 unfold Gm at this
 simp only[aR,decide_eq_true_eq] at this
 obtain⟨⟨h1,h2⟩,a⟩:=this
 refine⟨h1,?_,a⟩
 cases e:fA q.e0 with
 | nil=>rw[e] at h2;cases h2
 | cons x l=>rfl
theorem Bv {α β γ:Type} (f:α→List β) (g:β→Option γ):∀xs:List α,(xs.findSome? fun x=>(f x).findSome? g)=(xs.flatMap f).findSome? g
 | []=>rfl
 | x::xs=>by
  rw[aG,List.findSome?_append,da,Bv f g xs]
  cases (f x).findSome? g <;> rfl
theorem Gn {γ:Type} (r:Int) (F:Int→Int→γ):∀L:List (Int×Int×Int),(L.findSome? fun t=>if (t.2.2==r) then some (F t.1 t.2.1) else none)=(zbL r (L.map fun t=>((t.2.2,⟨t.1,t.2.1⟩):Int×zam))).map fun p=>F p.e0 p.e1
 | []=>rfl
 | t::L=>by
  rw[da,aE]
  unfold zbL
  by_cases h:r=t.2.2
  ·subst h;simp
  ·have:(t.2.2==r)=false:=by rw[aS];exact fun e=>h e.symm
   rw[this,ar h];exact Gn r F L
theorem Gp (b m:Int):∀L:List (Int×Int×Int),(L.findSome? fun t=>if (t.1==b)&&(t.2.1==m) then some t.2.2 else none)=zbL (⟨b,m⟩:zam) (L.map fun t=>((⟨t.1,t.2.1⟩,t.2.2):zam×Int))
 | []=>rfl
 | t::L=>by
  rw[da,aE]
  unfold zbL
  by_cases h:(⟨b,m⟩:zam)=⟨t.1,t.2.1⟩
  ·cases h;simp
  ·have:((t.1==b)&&(t.2.1==m))=false:=by
    cases e:((t.1==b)&&(t.2.1==m)) with
    | false=>rfl
    | true=>simp at e;exact absurd (by rw[e.1,e.2]) h
   rw[this,ar h];exact Gp b m L
def nZ (rcall:Int→Option (List Int)) (r:Int):Option (List Int) :=
 match zbL r tabS with
 | none=>some [r]
 | some p=>aX (rcall p.e0) fun l=>aY (l.length+1≤2147483648)<|some (l++[p.e1])
theorem Gq {α β:Type} {a:List α} {b:List β} {k:Nat} {p:α×β} (h:(a.zip b)[k]?=some p):a[k]?=some p.1∧b[k]?=some p.2:=by
 rw[List.getElem?_zip_eq_some] at h;exact h
theorem NC (d:Int→Option (List Int)) (r:Int):s8 d r=nZ d r:=by
 unfold s8
 refine dv (bN Gj ?_)
 have w:gO.length=14:=by decide
 have j:∀ (q:gu) (u:Option (List Int)),q∈gO→zaI (fun _=>none) (zeo d r u q) zbH 0=(((nm q)).findSome? fun t=>if (t.2.2==r) then some (aX (d t.1) fun l=>aY (l.length+1≤2147483648)<|some (l++[t.2.1])) else none).getD u:=by
  intro q u s
  obtain⟨h1,h2,D,C,h5⟩:=yL s
  have hz:(nm q).length=(fA q.e2).length:=by unfold nm;simp[h1]
  have E:=vP q.e2
  refine wC (xs:=nm q) (fun ag k x hx=>?_) (fun ag=>?_) (kZ (by omega))
  ·have v:∃p,((fA q.e1).zip (fA q.e2))[k]?=some p∧x=(p.1,(fA q.e0).headD 0,p.2):=by
    unfold nm at hx
    rw[bV] at hx
    obtain⟨p,hp,e⟩:=cM.1 hx
    exact⟨p,hp,e.symm⟩
   obtain⟨p,hp,rfl⟩:=v
   obtain⟨e1,e2⟩:=Gq hp
   have hk:=nD e2
   unfold zeo
   refine cu (mE e2) (bN (lW e2) ?_)
   cases h:(p.2==r) with
   | true=>exact cu rfl (bN (lW e1) (by
     rw[ay rfl,Option.getD_some]
     cases d p.1 with
     | none=>rfl
     | some l=>exact (bN rfl (zbx (by omega) (bN h2 rfl))).trans (DP rfl).symm))
   | false=>exact cr rfl (zbx (jC (by omega)) rfl)
  ·rw[hz];unfold zeo;exact cr mu rfl
 have i:=wC (xs:=gO) (F:=zep d r (some [r]) gO) (bot:=fun _=>none) (g:=fun q=>(nm q).findSome? fun t=>if (t.2.2==r) then some (aX (d t.1) fun l=>aY (l.length+1≤2147483648)<|some (l++[t.2.1])) else none) (J:=some [r]) (fun ag k q s=>by
  have hm:=aJ s
  have hk:=nD s
  obtain⟨h1,h2,D,C,h5⟩:=yL hm
  unfold zep
  refine cu (mE s) (dv (bN (lW s) (zbx (by omega) (zbx (by omega) ?_))))
  rw[j q _ hm]
  exact aL _ (zbx (jC (by omega)) rfl)) (fun ag=>by unfold zep;exact cr mu rfl) (n:=zbH) (kZ (by omega))
 rw[i,Bv,Gk,Gn r (fun a m=>aX (d a) fun l=>aY (l.length+1≤2147483648)<|some (l++[m]))]
 show ((zbL r w8).map _).getD _=_
 rw[Nz]
 unfold nZ
 cases zbL r tabS <;> rfl
theorem ND (a:(List (Int×zam))→Int→Option (List Int)) (r:Int):td a tabS r=nZ (a tabS) r:=by
 unfold td nZ
 cases zbL r tabS with
 | none=>exact cu rfl rfl
 | some p=>exact cr rfl rfl
def ti:Nat→Int→Option (List Int)
 | 0,_=>none
 | n+1,r=>nZ (ti n) r
theorem Gs:∀ (n:Nat) (r:Int),zaI (fun _=>none) s8 n r=ti n r
 | 0,r=>rfl
 | n+1,r=>by
  rw[ic,NC]
  show nZ _ r=nZ _ r
  congr 1;funext x;exact Gs n x
theorem Gt:∀ (n:Nat) (r:Int),zaI (fun _ _=>none) td n tabS r=ti n r
 | 0,r=>rfl
 | n+1,r=>by
  rw[ic,ND]
  show nZ _ r=nZ _ r
  congr 1;funext x;exact Gt n x
def gp (r:Int):List Int :=
 match zbL r tabS with
 | none=>[r]
 | some p=>(match zbL p.e0 tabS with
  | none=>[p.e0]
  | some q=>[q.e0,q.e1])++[p.e1]
def NE:Bool:=tabS.all fun p=>match zbL p.2.e0 tabS with | none=>true | some q=>decide (zbL q.e0 tabS=none)
theorem NF:NE=true:=by decide +kernel
theorem Gu (n:Nat) (r:Int):ti (n+3) r=some (gp r):=by
 show nZ (ti (n+2)) r=_
 unfold nZ gp
 cases h:zbL r tabS with
 | none=>rfl
 | some p=>
  have hd:=bz.1 NF _ (qu h)
  simp only at hd
  refine bN (a:=match zbL p.e0 tabS with | none=>[p.e0] | some q=>[q.e0,q.e1]) ?_ (zbx (by cases zbL p.e0 tabS <;> simp) rfl)
  show nZ (ti (n+1)) p.e0=_
  unfold nZ
  cases h2:zbL p.e0 tabS with
  | none=>rfl
  | some q=>
   rw[h2] at hd
   simp only[decide_eq_true_eq] at hd
   refine bN (a:=[q.e0]) ?_ (zbx (by simp) rfl)
   show nZ (ti n) q.e0=_
   unfold nZ
   rw[hd]
theorem NG (r:Int):uG r=some (gp r):=by
 unfold uG
 rw[Gs]
 obtain⟨n,a,_⟩:=uB 3 (by omega)
 rw[a];exact Gu n r
theorem NH (r:Int):tf tabS r=some (gp r):=by
 unfold tf
 rw[Gt]
 obtain⟨n,a,_⟩:=uB 3 (by omega)
 rw[a];exact Gu n r
def gv (b m:Int):Option Int:=zbL (⟨b,m⟩:zam) im
theorem NI (b m:Int):uF b m=some ((gv b m).getD 0):=by
 unfold uF
 refine dv (bN Gj ?_)
 have w:gO.length=14:=by decide
 have d:∀ (q:gu) (j:Option Int),q∈gO→zaI (fun _=>none) (zeb b m j q) zbH 0=(((nm q).findSome? fun t=>if (t.1==b)&&(t.2.1==m) then some t.2.2 else none).map some).getD j:=by
  intro q j i
  obtain⟨h1,h2,D,C,h5⟩:=yL i
  have hz:(nm q).length=(fA q.e1).length:=by unfold nm;simp[h1]
  have E:=vP q.e1
  have:=wC (xs:=nm q) (F:=zeb b m j q) (bot:=fun _=>none) (g:=fun t=>if (t.1==b)&&(t.2.1==m) then some (some t.2.2) else none) (J:=j) (fun ag k x hx=>?_) (fun ag=>?_) (n:=zbH) (kZ (by omega))
  ·rw[this]
   congr 1
   induction nm q with
   | nil=>rfl
   | cons t l s=>
    rw[da,da]
    cases ((t.1==b)&&(t.2.1==m)) with
    | true=>rfl
    | false=>exact s
  ·have u:∃p,((fA q.e1).zip (fA q.e2))[k]?=some p∧x=(p.1,(fA q.e0).headD 0,p.2):=by
    unfold nm at hx
    rw[bV] at hx
    obtain⟨p,hp,e⟩:=cM.1 hx
    exact⟨p,hp,e.symm⟩
   obtain⟨p,hp,rfl⟩:=u
   obtain⟨e1,e2⟩:=Gq hp
   have hk:=nD e1
   have v:(aY (cR ((k:Int)+1))<|ag ((k:Int)+1))=ag ((k:Int)+1):=zbx (jC (by omega)) rfl
   unfold zeb
   refine cu (mE e1) (dv (bN (lW e1) ?_))
   cases h:(p.1==b) with
   | true=>
    refine cu rfl (zbx (by omega) (bN h2 ?_))
    cases h':((fA q.e0).headD 0==m) with
    | true=>exact cu rfl (bN (lW e2) rfl)
    | false=>exact cr rfl v
   | false=>exact cr rfl v
  ·rw[hz];unfold zeb;exact cr mu rfl
 have a:=wC (xs:=gO) (F:=zeL b m (some 0) gO) (bot:=fun _=>none) (g:=fun q=>((nm q).findSome? fun t=>if (t.1==b)&&(t.2.1==m) then some t.2.2 else none).map some) (J:=some 0) (fun ag k q i=>by
  have hm:=aJ i
  have hk:=nD i
  obtain⟨h1,h2,D,C,h5⟩:=yL hm
  unfold zeL
  refine cu (mE i) (dv (bN (lW i) (zbx (by omega) (zbx (by omega) ?_))))
  rw[d q _ hm]
  exact aL _ (zbx (jC (by omega)) rfl)) (fun ag=>by unfold zeL;exact cr mu rfl) (n:=zbH) (kZ (by omega))
 rw[a]
 have e:(gO.findSome? fun q=>((nm q).findSome? fun t=>if (t.1==b)&&(t.2.1==m) then some t.2.2 else none).map some)=((gO.findSome? fun q=>(nm q).findSome? fun t=>if (t.1==b)&&(t.2.1==m) then some t.2.2 else none)).map some:=by
  generalize gO=L
  induction L with
  | nil=>rfl
  | cons q l s=>
   rw[da,da,s]
   cases (nm q).findSome? _ <;> rfl
 rw[e,Bv,Gk,Gp b m]
 show ((zbL _ w7).map some).getD _=_
 rw[NA]
 unfold gv
 cases zbL (⟨b,m⟩:zam) im <;> rfl
def itG (s:ab) (p:Pc):bX:=⟨if p.broken then -1 else (p.r:Int),s.extract p.i (p.i+p.w),p.i⟩
def gw (s:ab):List bX:=(fe s.data.toList).map (itG s)
theorem Gv {s:ab} {p:Pc} (hp:p∈fe s.data.toList):p.i+p.w≤s.size:=by
 obtain⟨g,e,d⟩:=sY s.data.toList p hp
 have a:s.data.toList.length=s.size:=by rw[Array.length_toList];rfl
 omega
theorem sb (s:ab):(fe s.data.toList).length≤s.size:=by
 have:=vP s;unfold fA at this;simpa using this
theorem w9 (s:ab) (m:s.size≤1073741824):rf s=some (gw s):=by
 unfold rf
 refine dv (bN (Ns s (by omega)) ?_)
 have hc:=sb s
 refine (qq (xs:=(fe s.data.toList).map gh) (f:=fun l (x:cX)=>l++[(⟨if x.Broken then -1 else x.Rune,c7 s x.At (x.At+x.Width),x.At⟩:bX)]) (J:=some) (fun k l=>l.length=k) ?_ ?_ ?_ (kZ (by simp;omega)) rfl).trans ?_
 ·intro ag k x l hx e
  have hk:=nD hx
  have j:k<(fe s.data.toList).length:=by simpa using hk
  have d:=hx
  rw[bV] at d
  obtain⟨p,hp,rfl⟩:=cM.1 d
  have hf:=Gv (aJ hp)
  unfold zeW
  refine cu (mE hx) (dv (bN (lW hx) (bN (a:=c7 s p.i ((p.i:Int)+p.w)) (zbx ⟨by simp only[gh];omega,by simp only[gh];omega⟩ (zbx ⟨by simp only[gh];omega,by simp only[gh];omega,by simp only[gh];omega⟩ rfl)) ?_)))
  cases g:(gh p).Broken with
  | true=>exact cu rfl (zbx (by omega) (zbx (jC (by omega)) (by simp[g,gh])))
  | false=>exact cr rfl (zbx (by omega) (zbx (jC (by omega)) (by simp[g,gh])))
 ·intro k x l hx e;simp[e]
 ·intro ag l e;unfold zeW;exact cr mu rfl
 ·have:∀ (ps:List Pc) (l:List bX),(ps.map gh).foldl (fun l (x:cX)=>l++[(⟨if x.Broken then -1 else x.Rune,c7 s x.At (x.At+x.Width),x.At⟩:bX)]) l=l++ps.map (itG s):=by
   intro ps
   induction ps with
   | nil=>intro l;simp
   | cons p ps h=>intro l;rw[aE,bQ,h];simp[itG,gh,c7];exact⟨rfl,by congr 1⟩
  rw[this];rfl
def Gw (l:List bX):ab:=l.foldl (fun s x=>s++x.Text) (⟨#[]⟩:ab)
def oF (l:List bX):Nat:=(l.map fun x=>x.Text.size).sum
theorem Gx (l:List bX) (e:l.length≤1099511627776) (d:oF l≤1099511627776):uI l=some (Gw l):=by
 unfold uI
 refine dv ((qq (xs:=l) (f:=fun s (x:bX)=>s++x.Text) (J:=some) (fun k s=>s.size=oF (l.take k)) ?_ ?_ ?_ (kZ (by omega)) rfl).trans rfl)
 ·intro ag k x s hx hi
  have hk:=nD hx
  have h1:oF (l.take k)+x.Text.size≤oF l:=by
   have h2:l=l.take k++x::l.drop (k+1):=by
    have:=au.1 hx
    obtain⟨a,he⟩:=this
    rw[← he,← bB a,dH]
   have:oF l=oF (l.take k)+(x.Text.size+oF (l.drop (k+1))):=by
    conv=>lhs;rw[h2]
    simp[oF]
   omega
  unfold zfr
  exact cu (mE hx) (bN (lW hx) (zbx (by omega) (zbx (jC (by omega)) rfl)))
 ·intro k x s hx hi
  have h2:l.take (k+1)=l.take k++[x]:=by
   rw[List.take_add_one,hx];rfl
  rw[h2,ByteArray.size_append,hi];simp[oF]
 ·intro ag s _;unfold zfr;exact cr mu rfl
theorem Bw (r:Int) (x:bX) (hr:fN r):uJ r x=some ⟨r,af r,x.At⟩:=bN (yH r hr) rfl
theorem Bx (l:List bX) (e:l.length≤1099511627776):s9 l=some (((l.takeWhile fun x=>eC x.Rune).length:Nat):Int):=by
 unfold s9
 refine dv ?_
 have key:∀ (n k:Nat),k≤l.length→l.length - k<n→zaI (fun _=>none) (zel l some) n (k:Int)=some ((k+((l.drop k).takeWhile fun x=>eC x.Rune).length:Nat):Int):=by
  intro n
  induction n with
  | zero=>intro k _ h;omega
  | succ n a=>
   intro k hk d
   rw[ic]
   generalize zaI (fun _=>none) (zel l some) n=ag at a ⊢
   unfold zel
   by_cases h:k<l.length
   ·have hx:l[k]?=some l[k]:=aP h
    refine cu (mE hx) (bN (lW hx) (bN (Nt _) ?_))
    rw[bB h,dM]
    cases hm:eC l[k].Rune with
    | true=>
     refine cu rfl (zbx (jC (by omega)) ?_)
     have:=a (k+1) (by omega) (by omega)
     push_cast at this ⊢
     rw[this];simp;omega
    | false=>exact cr rfl (by simp)
   ·have:k=l.length:=by omega
    subst this
    exact cr mu (by rw[fQ];simp)
 have:=key zbH 0 (cH _) (by have:=kZ (n:=l.length) (by omega);omega)
 simpa using this
abbrev bd:=bX
def dz (x:bd):Bool:=dw x.Rune
def isM (x:bd):Bool:=eC x.Rune
def lM (x:bd):Bool:=lX x.Rune
theorem pH {r:Int} (h:eC r=true):dw r=false:=by
 cases e:dw r with
 | false=>rfl
 | true=>have:=mG r e;unfold eC at h;simp at h;omega
def Gy (r:Int):Bool:=match gp r with
 | []=>false
 | b::ms=>dw b&&decide (zbL b tabS=none)&&ms.all eC&&decide ((b::ms).length≤3)
theorem NJ:(tabS.all fun p=>Gy p.1)=true:=by decide +kernel
theorem NK:(tabS.all fun p=>decide (0≤p.1∧p.1≤2000∧0≤p.2.e0∧p.2.e0≤2000∧0≤p.2.e1∧p.2.e1≤2000)&&dw p.1)=true:=by decide +kernel
theorem tj {r:Int} (h:dw r=true):∃b a,gp r=b::a∧dw b=true∧zbL b tabS=none∧(∀m∈a,eC m=true)∧a.length≤2:=by
 cases e:zbL r tabS with
 | none=>exact⟨r,[],by unfold gp;rw[e],h,e,by simp,by simp⟩
 | some p=>
  have h1:=bz.1 NJ _ (qu e)
  unfold Gy at h1
  simp only at h1
  cases hp:gp r with
  | nil=>rw[hp] at h1;cases h1
  | cons b a=>
   rw[hp] at h1
   simp only[aR,decide_eq_true_eq,bz,aj] at h1
   exact⟨b,a,rfl,h1.1.1.1,h1.1.1.2,h1.1.2,by omega⟩
theorem Bz (r:Int):(gp r).length≤3∧1≤(gp r).length:=by
 unfold gp
 (repeat' split) <;> simp
theorem BA {k:Int} {p:zam} (h:zbL k tabS=some p):(0≤p.e0∧p.e0≤2000)∧(0≤p.e1∧p.e1≤2000)∧dw k=true:=by
 have:=bz.1 NK _ (qu h)
 simp only[aR,decide_eq_true_eq] at this
 obtain⟨⟨h1,h2,g,e,h5,d⟩,a⟩:=this
 exact⟨⟨g,e⟩,⟨h5,d⟩,a⟩
theorem yM {r:Int} (h:fN r):∀y∈gp r,fN y:=by
 intro y hy
 unfold gp at hy
 split at hy
 ·simp at hy;subst hy;exact h
 ·rename_i p hp
  obtain⟨h1,h2,_⟩:=BA hp
  split at hy
  ·simp at hy;rcases hy with rfl | rfl <;> exact⟨by omega,by omega⟩
  ·rename_i q a
   obtain⟨e,d,_⟩:=BA a
   simp at hy;rcases hy with rfl | rfl | rfl <;> exact⟨by omega,by omega⟩
def fw:Option (bd×List bd)→List bd→List (bd×List bd)
 | none,[]=>[]
 | some c,[]=>[c]
 | none,x::xs=>fw (some (x,[])) xs
 | some c,x::xs=>if dz c.1&&isM x then fw (some (c.1,c.2++[x])) xs else c::fw (some (x,[])) xs
def cl (xs:List bd):List (bd×List bd):=fw none xs
theorem Gz (x:bd) (h:dz x=true):∀ (xs a:List bd),fw (some (x,a)) xs=(x,a++xs.takeWhile isM)::cl (xs.dropWhile isM)
 | [],a=>by simp[fw,cl]
 | y::xs,a=>by
  unfold fw
  cases hm:isM y with
  | true=>rw[h,dM,pW,hm];simp only[Bool.and_self,if_true];rw[Gz x h xs];simp
  | false=>rw[dM,pW,hm];simp[cl,fw]
theorem NL (x:bd) (h:dz x=false) (xs:List bd):fw (some (x,[])) xs=(x,[])::cl xs:=by
 cases xs with
 | nil=>rfl
 | cons y xs=>unfold fw;rw[h];simp[cl,fw]
theorem GA:cl []=[]:=rfl
theorem yN {x:bd} (h:dz x=true) (xs:List bd):cl (x::xs)=(x,xs.takeWhile isM)::cl (xs.dropWhile isM):=by
 show fw (some (x,[])) xs=_
 rw[Gz x h];rfl
theorem yO {x:bd} (h:dz x=false) (xs:List bd):cl (x::xs)=(x,[])::cl xs:=NL x h xs
def loI (ms:List bd):List bd:=ms.filter lM
def hiI (ms:List bd):List bd:=ms.filter fun x=>!lM x
def lN (c:bd×List bd):List bd:=c.1::(loI c.2++hiI c.2)
def k5 (xs:List bd):List bd:=(cl xs).flatMap lN
theorem pI (a:List bd):(loI a++hiI a).length=a.length:=by
 unfold loI hiI
 induction a with
 | nil=>rfl
 | cons x a d=>
  rw[hO,hO]
  rw[ah] at d ⊢
  cases lM x <;> simp <;> omega
theorem BB {a:List bd} (h:∀m∈a,isM m=true):∀m∈loI a++hiI a,isM m=true:=by
 intro m hm
 unfold loI hiI at hm
 rw[bO,cp,cp] at hm
 rcases hm with hm | hm <;> exact h m hm.1
theorem BC (xs:List bd):∀m∈xs.takeWhile isM,isM m=true:=bz.1 List.all_takeWhile
def iP (x:bd):List bd:=if dz x then (gp x.Rune).map fun r=>⟨r,af r,x.At⟩ else [x]
def apL (l:List bd):List bd:=l.flatMap iP
theorem GB (x:bd):(iP x).length≤3:=by
 unfold iP
 split
 ·simp;exact (Bz _).1
 ·simp
def pJ (l:List bd):Prop:=∀x∈l,fN x.Rune
theorem BD {l:List bd} (h:pJ l):pJ (apL l):=by
 intro y hy
 unfold apL at hy
 obtain⟨x,hx,hy⟩:=List.mem_flatMap.1 hy
 unfold iP at hy
 split at hy
 ·obtain⟨r,hr,rfl⟩:=List.mem_map.1 hy
  exact yM (h x hx) r hr
 ·simp at hy;subst hy;exact h _ hx
theorem tk (l:List bd):(apL l).length≤3*l.length:=by
 unfold apL
 induction l with
 | nil=>simp
 | cons x l a=>rw[aG,ah,aj];have:=GB x;omega
theorem BE {α β:Type} (g:α→List β):∀ (xs:List α) (a:List β),xs.foldl (fun a x=>a++g x) a=a++xs.flatMap g
 | [],a=>by simp
 | x::xs,a=>by rw[bQ,BE g xs];simp
theorem NM (l:List bd) (g:pJ l) (m:l.length≤268435456) (J:List bd→Option (List bd)):zaI (fun _ _=>none) (zen l J) zbH [] 0=J (apL l):=by
 refine (qq (xs:=l) (f:=fun a x=>a++iP x) (J:=J) (fun k a=>a.length≤3*k) ?_ ?_ ?_ (kZ (by omega)) (by simp)).trans ?_
 ·intro ag k x a hx hi
  have hk:=nD hx
  have d:=g x (aJ hx)
  unfold zen
  refine cu (mE hx) (dv (bN (lW hx) (bN (uQ x d) ?_)))
  cases hL:dw x.Rune with
  | false=>
   have:iP x=[x]:=by unfold iP dz;rw[hL];rfl
   rw[this]
   exact cu rfl (zbx (by omega) (zbx (jC (by omega)) rfl))
  | true=>
   have:iP x=(gp x.Rune).map fun r=>⟨r,af r,x.At⟩:=by unfold iP dz;rw[hL];rfl
   rw[this]
   refine cr rfl (bN (NG _) ?_)
   have hp:=Bz x.Rune
   refine (qq (xs:=gp x.Rune) (f:=fun a (r:Int)=>a++[(⟨r,af r,x.At⟩:bd)]) (J:=fun e=>aY (cR ((k:Int)+1))<|ag e ((k:Int)+1)) (fun j b=>b.length≤3*k+j) ?_ ?_ ?_ (kZ (by omega)) (by omega)).trans ?_
   ·intro h j r b hr i
    have hj:=nD hr
    unfold zeV
    exact cu (mE hr) (bN (lW hr) (bN (Bw r x (yM d r (aJ hr))) (zbx (by omega) (zbx (jC (by omega)) rfl))))
   ·intro j r b _ i;simp;omega
   ·intro h b _;unfold zeV;exact cr mu rfl
   ·rw[BE (fun r=>[(⟨r,af r,x.At⟩:bd)])]
    refine zbx (jC (by omega)) ?_
    rw[List.map_eq_flatMap]
 ·intro k x a _ hi;simp only[ah];have:=GB x;omega
 ·intro ag a _;unfold zen;exact cr mu rfl
 ·rw[BE iP];rfl
theorem se {α:Type} (A:List α) (x:α) (B:List α):(A++x::B)[A.length]?=some x:=by simp
theorem BF {α:Type} (A:List α) (x:α) (B:List α) (i:Int) (hi:i=(A.length:Int)):fi (A++x::B) (i+1) (((A++x::B).length:Nat):Int)=B:=by
 subst hi
 unfold fi
 rw[show ((A.length:Int)+1).toNat=(A++[x]).length by simp]
 rw[show A++x::B=(A++[x])++B by simp,la,fx (by simp;omega)]
theorem NN {α:Type} (A:List α) (x:α) (M B:List α) (i r:Int) (hi:i=(A.length:Int)) (hr:r=(M.length:Int)):fi (A++x::(M++B)) (i+1) ((i+1)+r)=M:=by
 subst hi;subst hr
 unfold fi
 rw[show ((A.length:Int)+1).toNat=(A++[x]).length by simp]
 rw[show A++x::(M++B)=(A++[x])++(M++B) by simp,la]
 rw[show (((A.length:Int)+1+(M.length:Int)).toNat - (A++[x]).length)=M.length by simp;omega,jv]
theorem NO {α:Type} (A:List α) (x:α) (M B Y:List α) (j:Nat) (hj:j=A.length+1) (hy:Y.length=M.length):rL (A++x::(M++B)) j Y=A++x::(Y++B):=by
 subst hj
 unfold rL
 rw[show A++x::(M++B)=((A++[x])++M)++B by simp,hy]
 rw[show ((A++[x])++M++B).take (A.length+1)=A++[x] by
  rw[List.append_assoc,show A.length+1=(A++[x]).length by simp,jv]]
 rw[show ((A++[x])++M++B).drop (A.length+1+M.length)=B by
  rw[show A.length+1+M.length=((A++[x])++M).length by simp;omega,la]]
 simp
theorem NP (M:List bd):∀a:List bd×List bd,M.foldl (fun a x=>if lM x then (a.1++[x],a.2) else (a.1,a.2++[x])) a=(a.1++loI M,a.2++hiI M):=by
 induction M with
 | nil=>intro a;simp[loI,hiI]
 | cons x M d=>
  intro a
  rw[bQ,d]
  unfold loI hiI
  cases h:lM x <;> simp[h]
theorem NQ (d A M B:List bd) (x:bd) (J:List bd→Option (List bd)) (ag:List bd→Int→Option (List bd)) (i:Int) (hi:i=(A.length:Int)) (s:d.length=(A++x::(M++B)).length) (hx:dz x=true) (g:fN x.Rune)
  (t:(M++B).takeWhile isM=M) (v:d.length≤1073741824):zce d J ag (A++x::(M++B)) i=ag (A++x::((loI M++hiI M)++B)) (i+1):=by
 have u:(A++x::(M++B)).length=A.length+1+M.length+B.length:=by simp;omega
 unfold zce
 refine cu (al (by omega)) (dv (bN (xQ hi (se A x _)) (bN (uQ x g) ?_)))
 have j:dw x.Rune=true:=hx
 rw[j]
 refine cr rfl (dv (zbx ⟨by omega,by omega⟩ (zbx ⟨by omega,by omega⟩ (zbx ⟨by omega,by omega⟩ (zbx ⟨by omega,by omega,by omega⟩ ?_)))))
 rw[BF A x (M++B) i hi]
 refine bN (Bx (M++B) (by simp;omega)) ?_
 have m:((M++B).takeWhile fun x=>eC x.Rune)=M:=t
 rw[m]
 refine zbx ⟨by omega,by omega⟩ (zbx ⟨by omega,by omega,by omega⟩ ?_)
 have e:=NN A x M B i (M.length:Int) hi rfl
 refine (M6 (xs:=M) (F:=zem (A++x::(M++B)) i _ (M.length:Int)) (f:=fun (a:List bd×List bd) x=>if lM x then (a.1++[x],a.2) else (a.1,a.2++[x]))
  (J:=fun lo h=>aY (lo.length+h.length≤2147483648)<|aY (cR (i+1))<|ag (rL (A++x::(M++B)) (0+(i+1:Int).toNat) ((lo++h).take M.length)) (i+1)) (fun k a=>a.1.length+a.2.length=k) ?_ ?_ ?_ (kZ (by omega)) (a:=([],[])) rfl).trans ?_
 ·intro n k y a hy l
  have hk:=nD hy
  unfold zem
  rw[e]
  refine cu (mE hy) (dv (bN (lW hy) (bN (Gh _) ?_)))
  have:lX y.Rune=lM y:=rfl
  rw[this]
  cases lM y with
  | true=>exact cu rfl (zbx (by omega) (zbx (jC (by omega)) rfl))
  | false=>exact cr rfl (zbx (by omega) (zbx (jC (by omega)) rfl))
 ·intro k y a _ l;split <;> simp <;> omega
 ·intro n a w
  unfold zem
  rw[e]
  exact cr mu rfl
 ·rw[NP]
  simp only[bt]
  have h1:=pI M
  rw[ah] at h1
  refine zbx (by omega) (zbx ⟨by omega,by omega⟩ ?_)
  rw[fx (by rw[ah];omega),NO A x M B _ _ (by omega) (pI M)]
theorem GC (a A B:List bd) (x:bd) (J:List bd→Option (List bd)) (ag:List bd→Int→Option (List bd)) (i:Int) (hi:i=(A.length:Int)) (g:a.length=(A++x::B).length) (hx:dz x=false) (d:fN x.Rune) (j:a.length≤1073741824) :
  zce a J ag (A++x::B) i=ag (A++x::B) (i+1):=by
 have h:(A++x::B).length=A.length+1+B.length:=by simp;omega
 unfold zce
 refine cu (al (by omega)) (dv (bN (xQ hi (se A x _)) (bN (uQ x d) ?_)))
 have e:dw x.Rune=false:=hx
 rw[e]
 exact cu rfl (zbx ⟨by omega,by omega⟩ rfl)
theorem uR:k5 []=[]:=rfl
theorem tn {x:bd} (h:dz x=true) (xs:List bd):k5 (x::xs)=x::((loI (xs.takeWhile isM)++hiI (xs.takeWhile isM))++k5 (xs.dropWhile isM)):=by
 unfold k5;rw[yN h];simp[lN]
theorem tp {x:bd} (h:dz x=false) (xs:List bd):k5 (x::xs)=x::k5 xs:=by
 unfold k5;rw[yO h];simp[lN,loI,hiI]
theorem NR (d:List bd) (J:List bd→Option (List bd)) (D:d.length≤1073741824):∀ (m n:Nat) (A B:List bd),B.length≤m→B.length<n→d.length=(A++B).length→pJ B →
  zaI (fun _ _=>none) (zce d J) n (A++B) (A.length:Int)=J (A++k5 B):=by
 have skip:∀ (M A B:List bd) (n:Nat),(∀y∈M,dz y=false)→pJ M→d.length=(A++(M++B)).length→zaI (fun _ _=>none) (zce d J) (n+M.length) (A++(M++B)) (A.length:Int)=zaI (fun _ _=>none) (zce d J) n (A++(M++B)) ((A++M).length:Int):=by
  intro M
  induction M with
  | nil=>intro A B n _ _ _;simp
  | cons y M w=>
   intro A B n j e a
   rw[show n+(y::M).length=(n+M.length)+1 by simp;omega,ic,bp,GC d A (M++B) y J _ _ rfl a (j y (aB ..)) (e y (aB ..)) D]
   have:=w (A++[y]) B n (fun z hz=>j z (aq _ hz)) (fun z hz=>e z (aq _ hz)) (by rw[a];simp)
   have e1:A++[y]++(M++B)=A++y::(M++B):=by simp
   have e2:A++[y]++M=A++y::M:=by simp
   rw[e1,e2] at this
   rw[← this]
   congr 1;simp
 intro m
 induction m with
 | zero=>
  intro n A B hB C a e
  have:B=[]:=List.eq_nil_of_length_eq_zero (by omega)
  subst this
  obtain⟨n,rfl⟩:∃k,n=k+1:=⟨n - 1,by omega⟩
  rw[ic]
  unfold zce
  rw[aQ] at a ⊢
  exact cr (ae (by omega)) (by rw[uR,aQ])
 | succ m w=>
  intro n A B hB C a e
  obtain⟨n,rfl⟩:∃k,n=k+1:=⟨n - 1,by omega⟩
  cases B with
  | nil=>
   rw[ic]
   unfold zce
   rw[aQ] at a ⊢
   exact cr (ae (by omega)) (by rw[uR,aQ])
  | cons x xs=>
   rw[ic]
   simp only[aj] at hB
   cases hL:dz x with
   | false=>
    rw[GC d A xs x J _ _ rfl a hL (e x (aB ..)) D,tp hL]
    simp only[aj] at C
    have:=w n (A++[x]) xs (by omega) (by omega) (by rw[a];simp) (fun z hz=>e z (aq _ hz))
    have e1:A++[x]++xs=A++x::xs:=by simp
    rw[e1] at this
    rw[show ((A.length:Int)+1)=((A++[x]).length:Int) by simp,this]
    simp
   | true=>
    obtain⟨M,R,j,E,g⟩:∃M R,M=xs.takeWhile isM∧R=xs.dropWhile isM∧xs=M++R:=⟨_,_,rfl,rfl,(List.takeWhile_append_dropWhile).symm⟩
    have h:=NQ d A M R x J (zaI (fun _ _=>none) (zce d J) n) (A.length:Int) rfl (by rw[← g];exact a) hL (e x (aB ..)) (by rw[← g,← j]) D
    rw[← g] at h
    have i:∀y∈loI M++hiI M,isM y=true:=BB (by rw[j];exact BC xs)
    have t:pJ (loI M++hiI M):=fun y hy=>e y (by
     unfold loI hiI at hy
     rw[bO,cp,cp] at hy
     rw[g]
     rcases hy with hy | hy <;> exact aq _ (List.mem_append_left _ hy.1))
    have u:=pI M
    have l:xs.length=M.length+R.length:=by rw[g];simp
    have v:(A++x::xs).length=A.length+1+xs.length:=by simp;omega
    rw[h,tn hL,← j,← E]
    simp only[aj] at C
    obtain⟨k,hk⟩:∃k,n=k+(loI M++hiI M).length:=⟨n - M.length,by omega⟩
    have s:=skip (loI M++hiI M) (A++[x]) R k (fun y hy=>pH (i y hy)) t (by rw[a,v,l];simp only[ah,aj,bl] at u ⊢;omega)
    have e1:A++[x]++(loI M++hiI M++R)=A++x::(loI M++hiI M++R):=by simp
    rw[e1] at s
    rw[hk,show ((A.length:Int)+1)=((A++[x]).length:Int) by simp,s]
    have:=w k (A++[x]++(loI M++hiI M)) R (by omega) (by omega) (by rw[a,v,l];simp only[ah,aj,bl] at u ⊢;omega) (fun z hz=>e z (by rw[g];exact aq _ (List.mem_append_right _ hz)))
    have e2:A++[x]++(loI M++hiI M)++R=A++x::(loI M++hiI M++R):=by simp
    rw[e2] at this
    rw[this];simp
theorem BG (l:List bd) (a:pJ l) (d:l.length≤268435456):tc l=some (k5 (apL l)):=by
 unfold tc
 refine dv ((NM l a d _).trans (dv ?_))
 have h1:=tk l
 have:=NR (apL l) some (by omega) (apL l).length zbH [] (apL l) (Nat.le_refl _) (kZ (by omega)) rfl (BD a)
 simpa using this
end Go.Proofs.YtifpjbgnikjglaaGreatDoor
