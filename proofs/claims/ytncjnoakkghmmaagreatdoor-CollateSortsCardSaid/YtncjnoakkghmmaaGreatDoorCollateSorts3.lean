/-
  Texts laid together: LfA, PlA, Ql, LfF, LfG, LfP, LfT, Qt, PlB, Qa, Qb, Qc, Qd, LfR, Qr. Nothing is assumed.
-/
import Derived.Test.YtncjnoakkghmmaaGreatDoorCollateSorts2
set_option maxRecDepth 100000
set_option maxHeartbeats 4000000
namespace Go.Proofs.YtncjnoakkghmmaaGreatDoor
abbrev zI (x : Int) : Value := .int .i64 x
abbrev zP (x : Nat) : Value := .pointer (some ⟨x, 0, none⟩)
end Go.Proofs.YtncjnoakkghmmaaGreatDoor
namespace Go.Proofs.YtncjnoakkghmmaaGreatDoor
open Go.RowKit Go.Lib
open Tryz
set_option linter.unusedVariables false
set_option linter.unusedSimpArgs false
open _root_.Array renaming toList_inj->gI,length_toList->eC
open _root_.Bool renaming or_false->oo,and_eq_true->aN
open _root_.Go.IntWalk renaming i64_in->ac,i32_in->fh
open _root_.Go.Proofs.Tryz renaming results157->se,results158->oG,underlying21->bl,underlying5->dZ,underlying154->dr,underlying9->am,underlying99->dk,underlying164->om,underlying166->jO,underlying89->bH,underlying75->aG,results128->ew,underlying123->lf,results136->si,results97->um
open _root_.Go.Proofs.YtncjnoakkghmmaaGreatDoor renaming dl->il
open gC renaming nil->qy
open bM renaming nil->bB
open ce renaming here->fA,nil->fX
open aH renaming nil->aC
open Vw renaming get->cq
open evL renaming cons->dN,nil->fR
open evP renaming cons->gW,nil->sM
open aP renaming one1->aL
open _root_.Go.Utf8 renaming encode->ae
open _root_.Go.Value renaming bool->ap,int->az,agg->br
open _root_.Int renaming tmod->n5,tdiv->tB
open _root_.List renaming range->fg,cons_append->aW,drop_drop->fY,all_eq_true->bm,replicate->aO,length_map->ax,getElem?_eq_getElem->aJ,mem_cons->bg,not_mem_nil->dJ,getElem?_eq_some_iff->aq,drop_eq_getElem_cons->aQ,foldl_cons->bz,drop_length->ix,findSome?_cons->dR,append_nil->aE,nil_append->bj,getD_eq_getElem?_getD->cR,take_append_drop->bo,length->fS,getElem?_map->cx,any_cons->kq,mem_cons_self->ar,mem_cons_of_mem->ak,flatMap_cons->aK,map_cons->au,mem_of_getElem?->aF,takeWhile_cons->aY,length_cons->ab,dropWhile_cons->cS,filter_cons->jG,length_append->aa,mem_append->bv,mem_filter->cG,drop_left->jb,take_of_length_le->ff,take_left->lD,length_nil->aB
open _root_.List.cons renaming inj->oD
open _root_.Nat renaming lt_succ_self->oF,zero_le->bT,le_of_not_lt->jT
open _root_.Option renaming map_eq_some_iff->da
open _root_.Option.some renaming injEq->ia
open _root_.Or renaming inr->kv
open _root_.Prod renaming fst->bE
open _root_.Prod.mk renaming injEq->py
theorem bf {F:Fence} {P:Program} {w0:World} {K:Nat->Prop} {N:Nat} {dfs:List Deferred} {Q:Exit->Act->World->Prop} {σ:List (Nat×Value)} {L:List bG} {ops:Array Oper} {d:List (Nat×Nat×Value)} {D:Nat->Prop} (m:Nat) {i t:Nat} {v:Value} (hu:jn (d.map (λp=>p.2.1))=true) (hi:jn (d.map (λp=>p.1))=true) (hm:d[m]?=some (i,t,v):=by exact rfl) :
    TO F P w0 K N dfs ops (Exit.then (λa w=>At N dfs (il (λj=>D j\/j=i) d++σ) a/\Holds w0 K L w) Q) [] ((t,v)::(il D d++σ)) L:=Df m hu hi hm
theorem dt {P:Program} {F:Fence} {w0:World} {K:Nat->Prop} {N:Nat} {σ:List (Nat×Value)} {L:List bG} {fn:Func} {d:Unit->Value} {e:Unit->List bG} {v:Value} (n:Nat) (a:fn.results=#[.tmp n]) (g:σ.lookup n=some v:=by rfl) (hv:v=d ():=by rfl) (hB:e ()=[]:=by rfl) :
    TX w0 K N [] (bodyPostM F 0 P fn (FR P d e w0 K)) .ret σ L :=
  eW [.tmp n] () (.inl rfl) a (.cons (.tmp g) .nil) hv (by rw[hB];exact aC)
theorem zIM {R a d:List bG} {A:bG} (k:Nat) (h:ry R a d) (e:qm R [k]=some [A]:=by kernel_rfl):ry R a (A::d):=.own (ct [k] e rfl) (λ_ _ h=>aL.1 h) h
theorem aX {D:Nat->Prop} {S:Nat->Prop} [DecidablePred S] {σ:List (Nat×Value)} {a:List (Nat×Nat×Value)} {i t:Nat} {v:Value} (m:Nat) (hu:jn (a.map (λp=>p.2.1))=true) (hd:∀j,S j->D j) (hm:a[m]?=some (i,t,v):=by exact rfl) (d:decide (S i)=true:=by exact rfl):(dl D a++σ).lookup t=some v:=jY _ hu hm (hd i (of_decide_eq_true d))
theorem gl {σ:List (Nat×Value)}:∀ {a:List (Nat×Value)},a.map (λp=>σ.lookup p.1)=a.map (λp=>some p.2)->sr σ a
  |[],_=>ss
  |(t,v)::a,h=>Gc (oD h).1 (gl (oD h).2)
theorem bi {c:Prop} [Decidable c] {R:Type} {o:Option R} {r:R} {Q:Prop} (h:grd c o=some r) (k:c->o=some r->Q):Q:=k (KO h).1 (KO h).2
theorem aU {S R:Type} {p:Option S} {f:S->Option R} {r:R} {Q:Prop} (h:T p f=some r) (k:∀a,p=some a->f a=some r->Q):Q:=let ⟨a,x,y⟩:=Rk h;k a x y
theorem tg {d R:Type} {t:d->Option R} {k:d} {r:R} {Q:Prop} (h:cm t k=some r) (f:∀j,j=k->t j=some r->Q):Q:=let ⟨a,x,y⟩:=Rs h;f a x y
theorem U6 (n:Nat):n<n+1:=oF n
theorem mD {w0:World} {K:Nat->Prop} {N:Nat} {dfs:List Deferred} {Q:Exit->Act->World->Prop} {σ:List (Nat×Value)} {L:List bG} {β:Type} {g:β->Prop} {d:β->List Deferred} {a:β->List (Nat×Value)} {e:β->List bG} (b:β) (k:g b) (n:Nat) (hd:dfs=d b:=by rfl) (i:(a b).map (λp=>σ.lookup p.1)=(a b).map (λp=>some p.2):=by rfl) (h:qm L (fg n)=some (e b):=by kernel_rfl) (j:tE (fg n)=true:=by rfl) :
    TX w0 K N dfs (Exit.then (xL w0 K N g d a e) Q) .normal σ L:=iW b k hd (gl i) (ct _ h j)
theorem aD {w0:World} {K:Nat->Prop} {N:Nat} {dfs:List Deferred} {Q:Exit->Act->World->Prop} {σ:List (Nat×Value)} {L:List bG} {β:Type} {i:β->Prop} {e:β->List Deferred} {d:β->List (Nat×Value)} {g:β->List bG} {μ:β->Nat} {b:β} (a:β) (m:i a) (n:Nat) (k:μ a<μ b:=by exact U6 _) (hd:dfs=e a:=by rfl) (j:(d a).map (λp=>σ.lookup p.1)=(d a).map (λp=>some p.2):=by rfl) (h:qm L (fg n)=some (g a):=by kernel_rfl) (l:tE (fg n)=true:=by rfl) :
    TX w0 K N dfs (Exit.then (Gd w0 K N i e d g μ b) Q) .normal σ L:=Q8 a m k hd (gl j) (ct _ h l)
theorem cO {L As:List bG} (n:Nat) (h:qm L (fg n)=some As:=by kernel_rfl) (hd:tE (fg n)=true:=by rfl):aH L As (zU L (fg n)):=ct _ h hd
theorem n9 {F:Fence} {P:Program} {w0:World} {K:Nat->Prop} {N:Nat} {dfs:List Deferred} {Q:Exit->Act->World->Prop} {σ:List (Nat×Value)} {L R:List bG} {c:Code} (β:Type){α:Type} {bot:α} {n:Nat} (f:α->α) (d:α->β->Prop) (i:β->List Deferred) (g:β->List (Nat×Value)) (j:β->List bG) (b0:β) (t:d (bP bot f n) b0) (hd:dfs=i b0) (l:sr σ (g b0)) (hL:aH L (j b0) R)
    (h1:∀a b,d (f a) b->TC F P w0 K N (i b) (Exit.then (xL w0 K N (d a) i g j) Q) c (g b) (j b)) (hz:∀b,¬d bot b:=by rintro _ h;first | exact vt h | exact vt h.1):TC F P w0 K N dfs Q (.loop c) σ L:=by
  refine Q7 (β:=Nat×β) (λb=>d (bP bot f b.1) b.2) (λb=>i b.2) (λb=>g b.2) (λb=>j b.2) (λb=>b.1) (n,b0) t hd l hL ?_;rintro⟨m,b⟩ h;cases m with
  |zero=>exact (hz b h).elim
  |succ m=>
    refine λa w ha s=>wpIn_mono (h1 _ b h a w ha s) λe v w' k=>?_;cases e with
    |normal=>obtain⟨u,h1,h2⟩:=k;exact⟨(m,u),h1,oF m,h2⟩
    |_=>exact k
theorem fP {F:Fence} {P:Program} {w0:World} {K:Nat->Prop} {N:Nat} {dfs:List Deferred} {Q:Exit->Act->World->Prop} {σ:List (Nat×Value)} {L:List bG} {c:Code} (β:Type){α:Type} {bot:α} {n:Nat} (f:α->α) (e:α->β->Prop) (g:β->List Deferred) (d:β->List (Nat×Value)) (i:β->List bG) (b0:β) (m:e (bP bot f n) b0) (k:Nat)
    (h1:∀a b,e (f a) b->TC F P w0 K N (g b) (Exit.then (xL w0 K N (e a) g d i) Q) c (d b) (i b)) (hd:dfs=g b0:=by rfl) (j:(d b0).map (λp=>σ.lookup p.1)=(d b0).map (λp=>some p.2):=by rfl) (h:qm L (fg k)=some (i b0):=by kernel_rfl) (l:tE (fg k)=true:=by rfl) (hz:∀b,¬e bot b:=by rintro _ h;first | exact vt h | exact vt h.1):TC F P w0 K N dfs Q (.loop c) σ L :=
  n9 _ f e g d i b0 m hd (gl j) (ct _ h l) h1 hz
theorem cJ {F:Fence} {P:Program} {w0:World} {K:Nat->Prop} {N:Nat} {dfs:List Deferred} {Q:Exit->Act->World->Prop} {σ:List (Nat×Value)} {L:List bG} {c c2 g:Code} (β:Type){i R:Type} {t:i->Option R} {k:i} {r:R} (h:cm t k=some r) (j:Nat) (hc:Gq j c=.seq c2 g) (m:i->β->Prop) (e:β->List Deferred) (d:β->List (Nat×Value)) (l:β->List bG) (h1:∀x,t x=some r->(∀ {a:List Deferred} {n:List (Nat×Value)} {L':List bG},TC F P w0 K N a (Exit.then (xL w0 K N (m x) e d l) Q) c2 n L'->TC F P w0 K N a Q (.seq c2 g) n L')->TC F P w0 K N dfs Q c σ L) (h2:∀b,m k b->TC F P w0 K N (e b) Q g (d b) (l b)):TC F P w0 K N dfs Q c σ L:=Ru j hc (m k) e d l (h1 k h) h2
theorem mX {α:Type} {a0 a1:α} {l l':List α} (h:l=l'):a0::a1::l=a0::a1::l':=by rw[h]
theorem uG {α:Type} {a0 a1 a:α} {l l':List α} (h:l=l'):a0::a1::a::l=a0::a1::a::l':=by rw[h]
theorem pJ {α:Type} {a0 a1 d a:α} {l l':List α} (h:l=l'):a0::a1::d::a::l=a0::a1::d::a::l':=by rw[h]
theorem yx {α:Type} {a0 a1 e d a:α} {l l':List α} (h:l=l'):a0::a1::e::d::a::l=a0::a1::e::d::a::l':=by rw[h]
theorem rH {α:Type} {a0 a1 g e d a:α} {l l':List α} (h:l=l'):a0::a1::g::e::d::a::l=a0::a1::g::e::d::a::l':=by rw[h]
theorem zIP {α:Type} {a0 a1 i g e d a:α} {l l':List α} (h:l=l'):a0::a1::i::g::e::d::a::l=a0::a1::i::g::e::d::a::l':=by rw[h]
theorem pK {α:Type} {a0 a1 j i g e d a:α} {l l':List α} (h:l=l'):a0::a1::j::i::g::e::d::a::l=a0::a1::j::i::g::e::d::a::l':=by rw[h]
theorem zIO {α:Type} {a0 a1 k j i g e d a:α} {l l':List α} (h:l=l'):a0::a1::k::j::i::g::e::d::a::l=a0::a1::k::j::i::g::e::d::a::l':=by rw[h]
theorem zIn {α:Type} {a0 a1 m k j i g e d a:α} {l l':List α} (h:l=l'):a0::a1::m::k::j::i::g::e::d::a::l=a0::a1::m::k::j::i::g::e::d::a::l':=by rw[h]
theorem zIm {α:Type} {a0 a1 n m k j i g e d a:α} {l l':List α} (h:l=l'):a0::a1::n::m::k::j::i::g::e::d::a::l=a0::a1::n::m::k::j::i::g::e::d::a::l':=by rw[h]
theorem zIl {α:Type} {a0 a1 s n m k j i g e d a:α} {l l':List α} (h:l=l'):a0::a1::s::n::m::k::j::i::g::e::d::a::l=a0::a1::s::n::m::k::j::i::g::e::d::a::l':=by rw[h]
theorem HB {D:Nat->Prop} {e t0 d t1:Nat} {v0 v1:Value} {r a:List (Nat×Nat×Value)} (h:dl D r=dl D a):dl D ((e,t0,v0)::(d,t1,v1)::r)=dl D ((e,t0,v0)::(d,t1,v1)::a):=eT (λ_=>rfl) (eT (λ_=>rfl) h)
theorem D8 {D:Nat->Prop} {g t0 e t1 d t2:Nat} {v0 v1 v2:Value} {r a:List (Nat×Nat×Value)} (h:dl D r=dl D a):dl D ((g,t0,v0)::(e,t1,v1)::(d,t2,v2)::r)=dl D ((g,t0,v0)::(e,t1,v1)::(d,t2,v2)::a):=eT (λ_=>rfl) (eT (λ_=>rfl) (eT (λ_=>rfl) h))
theorem U7 {D:Nat->Prop} {j t0 i t1 g t2 e t3:Nat} {v0 v1 v2 a:Value} {r d:List (Nat×Nat×Value)} (h:dl D r=dl D d):dl D ((j,t0,v0)::(i,t1,v1)::(g,t2,v2)::(e,t3,a)::r)=dl D ((j,t0,v0)::(i,t1,v1)::(g,t2,v2)::(e,t3,a)::d):=eT (λ_=>rfl) (eT (λ_=>rfl) (eT (λ_=>rfl) (eT (λ_=>rfl) h)))
theorem HC {D:Nat->Prop} {l t0 k t1 j t2 i t3 g t4:Nat} {v0 v1 v2 d a:Value} {r e:List (Nat×Nat×Value)} (h:dl D r=dl D e):dl D ((l,t0,v0)::(k,t1,v1)::(j,t2,v2)::(i,t3,d)::(g,t4,a)::r)=dl D ((l,t0,v0)::(k,t1,v1)::(j,t2,v2)::(i,t3,d)::(g,t4,a)::e):=eT (λ_=>rfl) (eT (λ_=>rfl) (eT (λ_=>rfl) (eT (λ_=>rfl) (eT (λ_=>rfl) h))))
theorem HD {D:Nat->Prop} {n t0 m t1 l t2 k t3 j t4 i t5:Nat} {v0 v1 v2 e d a:Value} {r g:List (Nat×Nat×Value)} (h:dl D r=dl D g):dl D ((n,t0,v0)::(m,t1,v1)::(l,t2,v2)::(k,t3,e)::(j,t4,d)::(i,t5,a)::r)=dl D ((n,t0,v0)::(m,t1,v1)::(l,t2,v2)::(k,t3,e)::(j,t4,d)::(i,t5,a)::g):=eT (λ_=>rfl) (eT (λ_=>rfl) (eT (λ_=>rfl) (eT (λ_=>rfl) (eT (λ_=>rfl) (eT (λ_=>rfl) h)))))
theorem HE {D:Nat->Prop} {t t0 s t1 n t2 m t3 l t4 k t5 j t6:Nat} {v0 v1 v2 g e d a:Value} {r i:List (Nat×Nat×Value)} (h:dl D r=dl D i):dl D ((t,t0,v0)::(s,t1,v1)::(n,t2,v2)::(m,t3,g)::(l,t4,e)::(k,t5,d)::(j,t6,a)::r)=dl D ((t,t0,v0)::(s,t1,v1)::(n,t2,v2)::(m,t3,g)::(l,t4,e)::(k,t5,d)::(j,t6,a)::i):=eT (λ_=>rfl) (eT (λ_=>rfl) (eT (λ_=>rfl) (eT (λ_=>rfl) (eT (λ_=>rfl) (eT (λ_=>rfl) (eT (λ_=>rfl) h))))))
theorem HF {D:Nat->Prop} {v t0 u t1 t t2 s t3 n t4 m t5 l t6 k t7:Nat} {v0 v1 v2 i g e d a:Value} {r j:List (Nat×Nat×Value)} (h:dl D r=dl D j):dl D ((v,t0,v0)::(u,t1,v1)::(t,t2,v2)::(s,t3,i)::(n,t4,g)::(m,t5,e)::(l,t6,d)::(k,t7,a)::r)=dl D ((v,t0,v0)::(u,t1,v1)::(t,t2,v2)::(s,t3,i)::(n,t4,g)::(m,t5,e)::(l,t6,d)::(k,t7,a)::j):=eT (λ_=>rfl) (eT (λ_=>rfl) (eT (λ_=>rfl) (eT (λ_=>rfl) (eT (λ_=>rfl) (eT (λ_=>rfl) (eT (λ_=>rfl) (eT (λ_=>rfl) h)))))))
theorem zIQ {D:Nat->Prop} {C t0 w t1 v t2 u t3 t t4 s t5 n t6 m t7 l t8:Nat} {v0 v1 v2 j i g e d a:Value} {r k:List (Nat×Nat×Value)} (h:dl D r=dl D k):dl D ((C,t0,v0)::(w,t1,v1)::(v,t2,v2)::(u,t3,j)::(t,t4,i)::(s,t5,g)::(n,t6,e)::(m,t7,d)::(l,t8,a)::r)=dl D ((C,t0,v0)::(w,t1,v1)::(v,t2,v2)::(u,t3,j)::(t,t4,i)::(s,t5,g)::(n,t6,e)::(m,t7,d)::(l,t8,a)::k):=eT (λ_=>rfl) (eT (λ_=>rfl) (eT (λ_=>rfl) (eT (λ_=>rfl) (eT (λ_=>rfl) (eT (λ_=>rfl) (eT (λ_=>rfl) (eT (λ_=>rfl) (eT (λ_=>rfl) h))))))))
theorem U9 {D:Nat->Prop} {J t0 H t1 C t2 w t3 v t4 u t5 t t6 s t7 n t8 m t9:Nat} {v0 v1 v2 k j i g e d a:Value} {r l:List (Nat×Nat×Value)} (h:dl D r=dl D l):dl D ((J,t0,v0)::(H,t1,v1)::(C,t2,v2)::(w,t3,k)::(v,t4,j)::(u,t5,i)::(t,t6,g)::(s,t7,e)::(n,t8,d)::(m,t9,a)::r)=dl D ((J,t0,v0)::(H,t1,v1)::(C,t2,v2)::(w,t3,k)::(v,t4,j)::(u,t5,i)::(t,t6,g)::(s,t7,e)::(n,t8,d)::(m,t9,a)::l):=eT (λ_=>rfl) (eT (λ_=>rfl) (eT (λ_=>rfl) (eT (λ_=>rfl) (eT (λ_=>rfl) (eT (λ_=>rfl) (eT (λ_=>rfl) (eT (λ_=>rfl) (eT (λ_=>rfl) (eT (λ_=>rfl) h)))))))))
theorem vH {D:Nat->Prop} {W t0 M t1 J t2 H t3 C t4 w t5 v t6 u t7 t t8 s t9 d t10:Nat} {v0 v1 v2 m l k j i g e a:Value} {r n:List (Nat×Nat×Value)} (h:dl D r=dl D n):dl D ((W,t0,v0)::(M,t1,v1)::(J,t2,v2)::(H,t3,m)::(C,t4,l)::(w,t5,k)::(v,t6,j)::(u,t7,i)::(t,t8,g)::(s,t9,e)::(d,t10,a)::r)=dl D ((W,t0,v0)::(M,t1,v1)::(J,t2,v2)::(H,t3,m)::(C,t4,l)::(w,t5,k)::(v,t6,j)::(u,t7,i)::(t,t8,g)::(s,t9,e)::(d,t10,a)::n):=eT (λ_=>rfl) (eT (λ_=>rfl) (eT (λ_=>rfl) (eT (λ_=>rfl) (eT (λ_=>rfl) (eT (λ_=>rfl) (eT (λ_=>rfl) (eT (λ_=>rfl) (eT (λ_=>rfl) (eT (λ_=>rfl) (eT (λ_=>rfl) h))))))))))
theorem wS {D:Nat->Prop} {i0 t0 Z t1 W t2 M t3 J t4 H t5 C t6 w t7 v t8 u t9 g t10 e t11:Nat} {v0 v1 v2 s n m l k j i d a:Value} {r t:List (Nat×Nat×Value)} (h:dl D r=dl D t):dl D ((i0,t0,v0)::(Z,t1,v1)::(W,t2,v2)::(M,t3,s)::(J,t4,n)::(H,t5,m)::(C,t6,l)::(w,t7,k)::(v,t8,j)::(u,t9,i)::(g,t10,d)::(e,t11,a)::r)=dl D ((i0,t0,v0)::(Z,t1,v1)::(W,t2,v2)::(M,t3,s)::(J,t4,n)::(H,t5,m)::(C,t6,l)::(w,t7,k)::(v,t8,j)::(u,t9,i)::(g,t10,d)::(e,t11,a)::t):=eT (λ_=>rfl) (eT (λ_=>rfl) (eT (λ_=>rfl) (eT (λ_=>rfl) (eT (λ_=>rfl) (eT (λ_=>rfl) (eT (λ_=>rfl) (eT (λ_=>rfl) (eT (λ_=>rfl) (eT (λ_=>rfl) (eT (λ_=>rfl) (eT (λ_=>rfl) h)))))))))))
def yy (a:Nat->Option Value):Operand->Option Value
  |.tmp t=>a t
  |.const v=>some v
  |.func f=>some (.func (.func f) #[] #[])
  |.global _=>none
def D9 (a:Nat->Option Value) (ops:Array Oper):Option (Nat×Bool)->Option Bool
  |none=>some true
  |some (j,b)=>match (ops[j]?).bind (·.dst) with
    |some t=>match a t with
      |some (.bool c)=>some (c==b)
      |some (.tuple _)=>some false
      |_=>none
    |none=>none
def AN (a:Nat->Option Value) (N:Nat) (ops:Array Oper) (o:Oper):Option (Nat×Value) :=
  match o.dst with
  |none=>none
  |some d=>match Nat.blt d N with
    |false=>none
    |true=>match D9 a ops o.guard with
      |none=>none
      |some false=>some (d,undef)
      |some true=>match o.op with
        |.move x=>match yy a x with
          |some v=>some (d,v)
          |none=>none
        |.assign x=>match yy a x with
          |some v=>some (d,v)
          |none=>none
        |.pick x y z=>match yy a x with
          |some (.bool true)=>match yy a y with
            |some v=>some (d,v)
            |none=>none
          |some (.bool false)=>match yy a z with
            |some v=>some (d,v)
            |none=>none
          |_=>none
        |_=>none
theorem yz {a:Nat->Option Value} {S:List (Nat×Value)} (d:∀t v,a t=some v->S.lookup t=some v) {x:Operand} {v:Value} (h:yy a x=some v):ev S x=some v:=by
  cases x with
  |tmp t=>exact d t v h
  |const c=>exact h
  |func f=>exact h
  |global g=>exact h
theorem Vr {a:Nat->Option Value} {S:List (Nat×Value)} {ops:Array Oper} (d:∀t v,a t=some v->S.lookup t=some v) {g:Option (Nat×Bool)} {r:Bool} (h:D9 a ops g=some r):gd ops S g=some r:=by
  cases g with
  |none=>exact h
  |some p=>
    obtain⟨j,b⟩:=p;unfold D9 at h;unfold gd;dsimp only at h |-
    cases ht:(ops[j]?).bind (·.dst) with
    |none=>rw[ht] at h;cases h
    |some t=>
      rw[ht] at h;dsimp only at h |-
      cases hk:a t with
      |none=>rw[hk] at h;cases h
      |some v=>rw[hk] at h;rw[d t v hk];exact h
theorem Eb {F:Fence} [bA F] {P:Program} {w0:World} {K:Nat->Prop} {N:Nat} {dfs:List Deferred} {ops:Array Oper} {Q:Exit->Act->World->Prop} {rest:List Oper} {j:Nat->Option Value} {S:List (Nat×Value)} {L:List bG} {o:Oper} {t:Nat} {v:Value} (i:∀t v,j t=some v->S.lookup t=some v) (e:AN j N ops o=some (t,v)) (h:TO F P w0 K N dfs ops Q rest ((t,v)::S) L):TO F P w0 K N dfs ops Q (o::rest) S L:=by
  obtain⟨dst,op,m,pos,l,g⟩:=o;unfold AN at e;cases dst with
  |none=>cases e
  |some d=>
    dsimp only at e;cases hb:Nat.blt d N with
    |false=>rw[hb] at e;cases e
    |true=>
    have hd:d<N:=Nat.lt_of_lt_of_le (oF d) (Nat.le_of_ble_eq_true hb);rw[hb] at e;dsimp only at e;cases hg:D9 j ops g with
    |none=>rw[hg] at e;cases e
    |some k=>
      rw[hg] at e;have a:=Vr i hg;cases k with
      |false=>cases e;exact Q1 a hd h
      |true=>
        cases op<;>dsimp only at e<;>first|(cases e;done)|skip
        · split at e
          · cases e;exact sv a hd (yz i (by assumption)) h
          · cases e
        · split at e
          · cases e;exact Q3 a hd (yz i (by assumption)) h
          · cases e
        · split at e
          · split at e
            · cases e;exact Ks true a hd (yz i (by assumption)) (yz i (by assumption)) h
            · cases e
          · split at e
            · cases e;exact Ks false a hd (yz i (by assumption)) (yz i (by assumption)) h
            · cases e
          · cases e
def HG (N:Nat) (ops:Array Oper):Nat->List Oper->List (Nat×Value)->Option (List Oper×List (Nat×Value))
  |0,r,σ=>some (r,σ)
  |n+1,o::r,σ=>match AN (λt=>σ.lookup t) N ops o with
    |some p=>HG N ops n r (p::σ)
    |none=>none
  |_+1,[],_=>none
theorem O {F:Fence} [bA F] {P:Program} {w0:World} {K:Nat->Prop} {N:Nat} {dfs:List Deferred} {ops:Array Oper} {Q:Exit->Act->World->Prop} {L:List bG} (n:Nat):∀ {rest a:List Oper} {σ d:List (Nat×Value)}, HG N ops n rest σ=some (a,d)->TO F P w0 K N dfs ops Q a d L->TO F P w0 K N dfs ops Q rest σ L:=by
  induction n with
  |zero=>intro rest a σ d e h;cases e;exact h
  |succ n g=>
    intro rest a σ d e h;cases rest with
    |nil=>cases e
    |cons o r=>
      simp only[HG] at e;split at e
      · exact Eb (λ_ _ h=>h) (by assumption) (g e h)
      · cases e
def AO (a:List Nat) (σ:List (Nat×Value)) (t:Nat):List (Nat×Nat×Value)->Option Value
  |[]=>σ.lookup t
  |(i,t',v)::r=>match Nat.beq t t' with
    |true=>match a.contains i with
      |true=>some v
      |false=>none
    |false=>AO a σ t r
theorem Ec {D:Nat->Prop} {a:List Nat} {σ:List (Nat×Value)} (hd:∀j∈a,D j) (t:Nat) (v:Value):∀ {d:List (Nat×Nat×Value)},AO a σ t d=some v->(dl D d++σ).lookup t=some v
  |[],h=>h
  |(i,t',v')::r,h=>by
    unfold AO at h;cases hb:Nat.beq t t' with
    |true=>
      rw[hb] at h;dsimp only at h;have e:t=t':=Nat.eq_of_beq_eq_true hb;subst e;split at h
      · cases h
        have l:D i:=hd i (by simpa using (by assumption:a.contains i=true));simp only[dl];rw[aj l];simp
      · cases h
    |false=>
      rw[hb] at h;dsimp only at h;have g:=Ec (σ:=σ) hd t v h;have k:(t==t')=false:=by
        have:t≠t':=Nat.ne_of_beq_eq_false hb;simpa using this
      simp only[dl];split
      · simp only[aW,List.lookup,k];exact g
      · exact g
def uH (N:Nat) (ops:Array Oper) (σ:List (Nat×Value)) (a:List (Nat×Nat×Value)):Nat->List Oper->Nat->Option (List Oper×Nat×List (Nat×Nat×Value))
  |0,r,i=>some (r,i,[])
  |n+1,o::r,i=>match AN (λt=>AO (kf o) σ t a) N ops o with
    |some p=>match uH N ops σ a n r (i+1) with
      |some q=>some (q.1,q.2.1,(i,p.1,p.2)::q.2.2)
      |none=>none
    |none=>none
  |_+1,[],_=>none
section
variable {F:Fence} {P:Program} {w0:World} {K:Nat->Prop} {N:Nat} {dfs:List Deferred} {Q:Exit->Act->World->Prop} {σ:List (Nat×Value)} {L:List bG} {ops:Array Oper}
theorem Ed {a:List (Nat×Nat×Value)} {n m i h:Nat} {o:Oper} {r d:List Oper} (e:uH N ops σ a (n+1) (o::r) i=some (d,h,(a.drop m).take (n+1))) : ∃t v,AN (λt=>AO (kf o) σ t a) N ops o=some (t,v)/\a[m]?=some (i,t,v)/\uH N ops σ a n r (i+1)=some (d,h,(a.drop (m+1)).take n):=by
  simp only[uH] at e;split at e
  · rename_i p hp
    split at e
    · rename_i q j
      obtain⟨q1,q2,k⟩:=q;simp only[ia,py] at e;obtain⟨rfl,rfl,e⟩:=e;cases g:a.drop m with
      |nil=>rw[g] at e;simp at e
      |cons x xs=>
        rw[g,List.take_succ_cons,List.cons.injEq] at e;have hm:a[m]?=some x:=by
          have:(a.drop m)[0]?=some x:=by rw[g];rfl
          simpa using this
        refine⟨p.1,p.2,hp,by rw[hm,<-e.1],?_⟩;have:a.drop (m+1)=xs:=by rw[<-fY,g];rfl
        rw[this,<-e.2];exact j
    · cases e
  · cases e
theorem gD [bA F] {d:List (Nat×Nat×Value)} (n m:Nat):∀ {l a:List Oper} {i g:Nat},uH N ops σ d n l i=some (a,g,(d.drop m).take n) -> bM F P w0 K N dfs Q ops σ L d a g->bM F P w0 K N dfs Q ops σ L d l i:=by
  induction n generalizing m with
  |zero=>intro l a i g e h;cases e;exact h
  |succ n j=>
    intro l a i g e h;cases l with
    |nil=>cases e
    |cons o r=>
      obtain⟨t,v,h1,h2,h3⟩:=Ed e;exact bQ (λD s hd k hu hi=>Eb (λt v h=>Ec hd t v h) h1 (Df m hu hi h2)) (j (m+1) h3 h)
theorem p6 [bA F] {d:List (Nat×Nat×Value)} {x:Nat} (n m:Nat):∀ {l a:List Oper} {i g:Nat},uH N ops σ d n l i=some (a,g,(d.drop m).take n) -> ce F P w0 K N dfs Q ops σ L d x a g->ce F P w0 K N dfs Q ops σ L d x l i:=by
  induction n generalizing m with
  |zero=>intro l a i g e h;cases e;exact h
  |succ n j=>
    intro l a i g e h;cases l with
    |nil=>cases e
    |cons o r=>
      obtain⟨t,v,h1,h2,h3⟩:=Ed e;exact fw (λD s hd k hu hi=>Eb (λt v h=>Ec hd t v h) h1 (Df m hu hi h2)) (j (m+1) h3 h)
def vI {β:Type} (S:List Nat) (a:(Nat->Prop)->β->List bG):Prop:=∀i,S.contains i=false->∀D b,a (λj=>D j\/j=i) b=a D b
theorem th {D:Nat->Prop} {i:Nat} {base:bG} {r:List (Nat×bG)} {S:List Nat} (a:(r.map bE).all (λx=>S.contains x)=true) (h:S.contains i=false):eD (λj=>D j\/j=i) base r=eD D base r:=by
  refine jA ?_;cases hc:(r.map bE).contains i with
  |false=>rfl
  |true=>
    have h1:i∈r.map bE:=by simpa using hc
    have h2:=bm.1 a i h1;have h3:S.contains i=true:=h2;rw[h] at h3;cases h3
theorem HH {β:Type} {a:β->List (Nat×Nat×Value)} {d:(Nat->Prop)->β->List bG} (hb:¬Nonempty β):∀ (l:List Oper) (i:Nat),gC F P w0 K N dfs Q ops σ a d l i
  |[],_=>trivial
  |o::r,i=>⟨λD b=>absurd ⟨b⟩ hb,HH hb r (i+1)⟩
theorem ti {β:Type} {d:β->List (Nat×Nat×Value)} {e:(Nat->Prop)->β->List bG} {S:List Nat} {o:Oper} {rest:List Oper} {i:Nat} (m:vI S e) (l:S.contains i=false) (hu:∀b,jn ((d b).map (λp=>p.2.1))=true) (hi:∀b,jn ((d b).map (λp=>p.1))=true) (h:∀ (D:Nat->Prop) (b:β),¬D i->(∀j∈kf o,D j)->Clo ops D->jn ((d b).map (λp=>p.2.1))=true->jn ((d b).map (λp=>p.1))=true -> TO F P w0 K N dfs ops (Exit.then (λa w=>At N dfs (dl (λj=>D j\/j=i) (d b)++σ) a/\Holds w0 K (e D b) w) Q) [o] (dl D (d b)++σ) (e D b)) (hr:gC F P w0 K N dfs Q ops σ d e rest (i+1)):gC F P w0 K N dfs Q ops σ d e (o::rest) i :=
  nl (λD b n hd g a w ha k=>by
    have h0:=h D b n hd g (hu b) (hi b) a w ha k;exact ql (λs w' h2=>⟨b,h2.1,by rw[m i l D b];exact h2.2⟩) h0) hr
theorem rI [bA F] {β:Type} {a:β->List (Nat×Nat×Value)} {H:(Nat->Prop)->β->List bG} {S:List Nat} (M:vI S H) (hu:∀b,jn ((a b).map (λp=>p.2.1))=true) (hi:∀b,jn ((a b).map (λp=>p.1))=true) (n m:Nat):∀ {l d:List Oper} {i g:Nat}, (∀b,uH N ops σ (a b) n l i=some (d,g,((a b).drop m).take n))->(fg n).all (λj=>!S.contains (i+j))=true -> gC F P w0 K N dfs Q ops σ a H d g->gC F P w0 K N dfs Q ops σ a H l i:=by
  induction n generalizing m with
  |zero=>
    intro l d i g e w h;by_cases hb:Nonempty β
    · obtain⟨b⟩:=hb
      have e:=e b;simp only[uH,ia,py] at e;obtain⟨rfl,rfl,_⟩:=e;exact h
    · exact HH hb _ _
  |succ n J=>
    intro l d i g e w h;by_cases hb:Nonempty β
    · obtain⟨b0⟩:=hb
      cases l with
      |nil=>exact absurd (e b0) (by simp[uH])
      |cons o r=>
        have u:S.contains i=false:=by
          have:=bm.1 w 0 (by simp);simpa using this
        have s:(fg n).all (λj=>!S.contains (i+1+j))=true:=by
          refine bm.2 λj hj=>?_;have:=bm.1 w (j+1) (by simp at hj |-;omega);rwa [show i+(j+1)=i+1+j by omega] at this
        refine ti M u hu hi (λD b Z hd W k C=>?_) (J (m+1) (λb=>?_) s h)
        · obtain⟨t,v,h1,h2,h3⟩:=Ed (e b)
          exact Eb (λt v h=>Ec hd t v h) h1 (Df m k C h2)
        · obtain⟨t,v,h1,h2,h3⟩:=Ed (e b)
          exact h3
    · exact HH hb _ _
end
section
variable {F:Fence} {P:Program} {w0:World} {K:Nat->Prop} {N:Nat} {dfs:List Deferred} {Q:Exit->Act->World->Prop} {σ:List (Nat×Value)} {L:List bG} {ops:Array Oper}
theorem np {β:Type} {d:β->List (Nat×Nat×Value)} {g:(Nat->Prop)->β->List bG} {S:List Nat} {o:Oper} {rest:List Oper} {i:Nat} (m:vI S g) (l:S.contains i=false) (hu:∀b,jn ((d b).map (λp=>p.2.1))=true) (hi:∀b,jn ((d b).map (λp=>p.1))=true) (h:∀ (D:Nat->Prop) (b:β),¬D i->(∀j∈kf o,D j)->Clo ops D->jn ((d b).map (λp=>p.2.1))=true->jn ((d b).map (λp=>p.1))=true->∃L',g D b=L' /\ TO F P w0 K N dfs ops (Exit.then (λa w=>At N dfs (dl (λj=>D j\/j=i) (d b)++σ) a/\Holds w0 K L' w) Q) [o] (dl D (d b)++σ) L') (hr:gC F P w0 K N dfs Q ops σ d g rest (i+1)):gC F P w0 K N dfs Q ops σ d g (o::rest) i :=
  ti m l hu hi (λD b n hd k hu hi=>by obtain⟨L',e,h0⟩:=h D b n hd k hu hi;rw[e];exact h0) hr
end
section
variable {R:Type} {F:Fence} {P:Program} {w0:World} {K:Nat->Prop} {N:Nat} {dfs:List Deferred} {ops:Array Oper} {Q:Exit->Act->World->Prop} {rest:List Oper} {σ:List (Nat×Value)} {L:List bG} {x:Operand} {c c1 c2:Code} {p q:Option R} {r:R} {b:Bool}
theorem bu (hc:ev σ x=some (.bool b)) (h:G b p q=some r) (ht:p=some r->TC F P w0 K N dfs Q c1 σ L) (hf:q=some r->TC F P w0 K N dfs Q c2 σ L):TC F P w0 K N dfs Q (.cond x c1 c2) σ L:=Q4 hc (λe=>ht (pY e h)) (λe=>hf (pZ e h))
theorem E [bA F] {b:BinOp} {t i j:TypeId} {d:Nat} {pos:String} {a:Array Edge} {g:Option (Nat×Bool)} {x y:Operand} {v v1 v2:Value} (e:(gd ops σ g,decide (d<N),ev σ x,ev σ y)=(some true,true,some v1,some v2)) (hb:∀w:World,(do eqGuard b t x y v1 v2;binOp b t v1 v2:Sem Value).run P w=.ok v w) (h:TO F P w0 K N dfs ops Q rest ((d,v)::σ) L) : TO F P w0 K N dfs ops Q (⟨some d,.binOp b t x y i,j,pos,a,g⟩::rest) σ L:=by
  simp only[py] at e;exact jX e.1 (of_decide_eq_true e.2.1) e.2.2.1 e.2.2.2 hb h
theorem Y (h:TC F P w0 K N dfs Q c σ L):TO F P w0 K N dfs ops (Exit.then (c.wpIn F 0 P Q) Q) [] σ L:=bC (cu h)
theorem I {id:Nat} {l:List Oper} (h:TO F P w0 K N dfs l.toArray (Exit.then (c.wpIn F 0 P Q) Q) l σ L):TC F P w0 K N dfs Q (.seq (.region id l.toArray false) c) σ L:=bV (bX h)
theorem cw {id:Nat} {l:List Oper} (h:TO F P w0 K N dfs l.toArray (Exit.then (c.wpIn F 0 P Q) Q) l σ L):TO F P w0 K N dfs ops (Exit.then ((Code.seq (.region id l.toArray false) c).wpIn F 0 P Q) Q) [] σ L:=bC (cu (bV (bX h)))
theorem du (s:Nat) (a:σ.lookup s=some (.bool b)) (h:G b p q=some r) (ht:p=some r->TO F P w0 K N dfs ops Q rest ((s,.bool true)::σ) L) (hf:q=some r->TO F P w0 K N dfs ops Q rest ((s,.bool false)::σ) L):TO F P w0 K N dfs ops Q rest σ L:=Q5 a (λe=>ht (pY e h)) (λe=>hf (pZ e h))
theorem zyO (h:G b p q=some r) (ht:p=some r->TO F P w0 K N dfs ops Q rest σ L) (hf:q=some r->TO F P w0 K N dfs ops Q rest σ L):TO F P w0 K N dfs ops Q rest σ L:=vx b (λe=>ht (pY e h)) (λe=>hf (pZ e h))
theorem zyC (h:G b p q=some r) (ht:p=some r->TC F P w0 K N dfs Q c σ L) (hf:q=some r->TC F P w0 K N dfs Q c σ L):TC F P w0 K N dfs Q c σ L:=wB b (λe=>ht (pY e h)) (λe=>hf (pZ e h))
abbrev zIR (F:Fence) (P:Program) (w0:World) (K:Nat->Prop) (N:Nat) (dfs:List Deferred) (ops:Array Oper) (Q:Exit->Act->World->Prop) (rest:List Oper) (σ:List (Nat×Value)) (L:List bG):Prop:=TO F P w0 K N dfs ops Q rest σ L
end
abbrev fC (x:dq):List Value:=[zI x.At,zI x.Width,.int .i32 x.Rune,.bool x.Broken]
abbrev ig (x:cd):List Value:=[.int .i32 x.Rune,.string x.Text,zI x.At]
abbrev jP (x:dS):List Value:=[zI x.sort,zI x.place,.string x.digits,.string x.marks,zI x.great]
abbrev rJ (x:iT):List Value:=[.string x.e0,.string x.e1,.string x.e2]
abbrev mh (x:de):List Value:=[zI x.Err,zI x.At]
abbrev bq (v:Value):=vec gK 9 1 v
abbrev fr (v:Value):=vec (mK (.i32)) 21 1 v
abbrev fE (v:Value):=vec qI 79 3 v
abbrev gn (v:Value):=vec (mK (.i64)) 3 1 v
abbrev kP (v:Value):=vec AC 48 5 v
abbrev sC (v:Value):=vec MI 166 3 v
abbrev mi (v:Value):=vec s8 61 5 v
abbrev oV (v:Value):=vec nE 119 5 v
abbrev rh (v:Value):=vec qs 102 4 v
abbrev vJ (v:Value):=vec wJ 94 2 v
abbrev wT (v:Value):=vec yn 126 2 v
def vK (r1:Int):Option Bool := G (decide ((r1:Int)<0)) (some true) (G (decide ((1114111:Int)<r1)) (some true) (G (decide ((55296:Int)<=r1)) (some (decide ((r1:Int)<=57343))) (some false)))
theorem AP {r1:Int} {r:Bool} (h:vK r1=some r):eO prog 157 [.int .i32 r1] (.bool r):=by
 refine eO.intro func157 rfl ntmps157 (by simp) (λw0 K=>I (O 1 rfl (cw (O 1 rfl (E rfl dL (O 1 rfl (du 5 rfl h (λh=>?_) (λh=>?_))))))))
 ·refine O 12 rfl (Y (bO ?_));cases h;exact dt 2 se
 refine O 1 rfl (E rfl kF (O 2 rfl (du 9 rfl h (λh=>?_) (λh=>?_))))
 ·refine O 8 rfl (Y (bO ?_));cases h;exact dt 2 se
 refine O 1 rfl (E rfl gw (O 1 rfl (du 12 rfl h (λh=>?_) (λh=>?_))))
 ·refine O 1 rfl (E rfl jd (O 3 rfl (Y (bO ?_))));cases h;exact dt 2 se
 refine O 5 rfl (Y (bO ?_));cases h;exact dt 2 se
def vL (r1:Int):Option Int := T (vK r1) λ(r2:Bool)=>G (r2) (some 0) (G (decide ((r1:Int)<128)) (some 1) (G (decide ((r1:Int)<2048)) (some 2) (G (decide ((r1:Int)<65536)) (some 3) (some 4))))
theorem HI {r1:Int} {r:Int} (h:vL r1=some r):eO prog 158 [.int .i32 r1] (zI r):=by
 refine eO.intro func158 rfl ntmps158 (by simp) (λw0 K=>I (O 1 rfl (Y (bV (ck (I (O 1 rfl (aU h λr2 a h=>dF (.bool r2) [.int .i32 r1] rfl dc rfl rfl rfl AB (AP a) (O 1 rfl (Y (bu rfl h (λh=>?_) (λh=>?_))))))))))))
 ·refine I (O 1 rfl (Y (bO (cK (bZ ?_)))));cases h;exact dt 2 oG
 refine I (O 1 rfl (E rfl dL (O 1 rfl (Y (bu rfl h (λh=>?_) (λh=>?_))))))
 ·refine I (O 1 rfl (Y (bO (cK (bZ ?_)))));cases h;exact dt 2 oG
 refine I (O 1 rfl (E rfl dL (O 1 rfl (Y (bu rfl h (λh=>?_) (λh=>?_))))))
 ·refine I (O 1 rfl (Y (bO (cK (bZ ?_)))));cases h;exact dt 2 oG
 refine I (O 1 rfl (E rfl dL (O 1 rfl (Y (bu rfl h (λh=>?_) (λh=>?_))))))
 ·refine I (O 1 rfl (Y (bO (cK (bZ ?_)))));cases h;exact dt 2 oG
 refine bw (cg (cu (I (O 1 rfl (Y (bO ?_))))));cases h;exact dt 2 oG
def rK (h:Int->(List Int)->Option V) (g:Int->(List Int)->Int->Option V) (a:Int) (e:List Int) (d:Int):Option V := G (decide ((0:Int)<d)) (grd (gJ (128+(n5 a 64))) <|T (cj e d) λ(q1:Int)=>grd (gJ (tB a 64)) <|grd (I64 (d-1)) <|g (tB a 64) (e.set (d:Int).toNat (IntKind.u8.wrap (128+(n5 a 64)))) (d-1)) (h a e)
def uI (r1:Int):Option V := cm (λ(g:Int->Option V)=>T (vK r1) λ(r3:Bool)=>G (r3) (g 65533) (g r1)) (λ(r2:Int)=>T (vL r2) λ(a:Int)=>G ((a:Int)==1) (grd (∀x∈([IntKind.u8.wrap r2]:List Int),U8 x) <|some (kK ([IntKind.u8.wrap r2]:List Int))) (cm (λ(h:Int->(List Int)->Option V)=>grd (0<=a/\a<=2147483648) <|grd (I64 (a-1)) <|bP (λ_ _ _=>none) (rK h) bN r2 (aO (a:Int).toNat 0:List Int) (a-1)) (λ(d:Int) (e:List Int)=>grd (I64 (8-a)) <|grd (0<=(8-a)) <|grd (I64 (256-(nj .i64 1 (8-a)))) <|grd (I64 d) <|grd (I64 ((256-(nj .i64 1 (8-a)))+d)) <|T (cj e 0) λ(q2:Int)=>grd (∀x∈e.set (0:Int).toNat (IntKind.u8.wrap ((256-(nj .i64 1 (8-a)))+d)),U8 x) <|some (kK (e.set (0:Int).toNat (IntKind.u8.wrap ((256-(nj .i64 1 (8-a)))+d)))))))
theorem Ee {r1:Int} {r:V} (h:uI r1=some r):eO prog 145 [.int .i32 r1] (.string r):=by
 refine eO.intro func145 rfl ntmps145 (by simp) (λw0 K=>cJ Int h 1 rfl (λj1 b=>j1 b=some r) (λb=>[]) (λb=>[(0,.int .i32 b)]) (λb=>[]) (λj1 h cut=>I (O 1 rfl (Y (cut (I (O 1 rfl (aU h λr3 D h=>dF (.bool r3) [.int .i32 r1] rfl dc rfl rfl rfl AB (AP D) (Y (bu rfl h (λh=>bX (O 1 rfl (bC (mD 65533 h 0)))) (λh=>bw (mD r1 h 0))))))))))) (λr2 h=>I (O 1 rfl (aU h λd C h=>dF (zI d) [.int .i32 r2] rfl dc rfl rfl rfl Hj (HI C) (O 1 rfl (Y (bV (I (O 1 rfl (E rfl eZ (Y (bu rfl h (λh=>?_) (λh=>?_)))))))))))))
 ·refine I (O 1 rfl (jI rfl dc rfl (qp bl dZ) (hQ [(0,.tmp 13)] 5 [.int .u8 (IntKind.u8.wrap r2)] rfl dc rfl (λ_=>by kernel_rfl) (λb1=>pd 0 ([IntKind.u8.wrap r2]:List Int) rfl iq rfl (show 1<=maxLen by decide) (bi h λa0 h=>vk 0 rfl (xO a0) (tG 0 rfl dc rfl rfl dr dZ am (O 1 rfl (Y (bO (bZ ?_))))))))));cases h;exact dt 2 results145
 refine bw (cu (cJ (Int×(List Int)×Value) h 1 rfl (λw b=>w b.1 b.2.1=some r) (λb=>[]) (λb=>[(0,.int .i32 b.1),(3,zI d),(4,b.2.2)]) (λb=>[vec (mK (.u8)) 5 1 b.2.2 b.2.1]) (λw h cut=>?_) ?_))
 ·refine I (O 1 rfl (bi h λaw h=>Gt 0 dr Sr Sq iq rfl dc rfl aw (λv2=>O 1 rfl (Y (cut (I (O 1 rfl (bi h λao h=>E rfl (iV (d-1) (ac _ ao)) (O 1 rfl (Y (ck (fP (Int×(List Int)×Int) (rK w) (λa b=>a b.1 b.2.1 b.2.2=some r) (λb=>[]) (λb=>[(0,.int .i32 b.1),(3,zI d),(4,v2),(5,zI b.2.2)]) (λb=>[vec (mK (.u8)) 5 1 v2 b.2.1]) (r2,(aO (d:Int).toNat 0:List Int),d-1) h 1 ?_))))))))))));rintro a1 ⟨e,b5,t⟩ h;exact bV (I (O 1 rfl (E rfl kF (Y (bu rfl h (λh=>bw (cu (bV (ck (I (O 3 rfl (E rfl (Rf dc rfl) (bi h λag h=>E rfl (c8 (128+(n5 e 64)) (fh _ ag)) (jI rfl dc rfl (qp bl dZ) (aU h λq1 l h=>eN 0 l dr DD rfl dc rfl rfl rfl rfl (oN 0 ((t:Int).toNat) 0 q1 (IntKind.u8.wrap (128+(n5 e 64))) DD iq rfl rfl rfl rfl (ei l) rfl dc rfl (λ_ _=>rfl) (Y (bX (O 1 rfl (bi h λZ h=>E rfl (Re dc (fh _ Z)) (O 1 rfl (bC (cg (cu (bX (O 1 rfl (bi h λW h=>E rfl (iV (t-1) (ac _ W)) (O 1 rfl (bC (mD (tB e 64,b5.set (t:Int).toNat (IntKind.u8.wrap (128+(n5 e 64))),t-1) h 1))))))))))))))))))))))))) (λh=>dG (bS (bS (dH (mD (e,b5,v2) h 1))))))))))
 rintro⟨u,b2,v1⟩ h;refine I (O 2 rfl (bi h λM h=>E rfl (iV (8-d) (ac _ M)) (bi h λJ h=>E rfl (KR J) (bi h λH h=>E rfl (iV (256-(nj .i64 1 (8-d))) (ac _ H)) (O 1 rfl (bi h λs h=>jI rfl dc rfl (xI u bl underlying3 (ac _ s)) (bi h λn h=>E rfl (c8 ((256-(nj .i64 1 (8-d)))+u) (ac _ n)) (jI rfl dc rfl (qp underlying3 dZ) (aU h λq2 g h=>eN 0 g dr DD rfl dc rfl rfl rfl rfl (oN 0 ((0:Int).toNat) 0 q2 (IntKind.u8.wrap ((256-(nj .i64 1 (8-d)))+u)) DD iq rfl rfl rfl rfl (ei g) rfl dc rfl (λ_ _=>rfl) (cw (O 1 rfl (bi h λm h=>vk 0 rfl (xO m) (tG 0 rfl dc rfl rfl dr dZ am (O 1 rfl (Y (bO ?_)))))))))))))))));cases h;exact dt 2 results145
def yA (h:V) (e:Int) (i:Int) (j:Int->Option (Int×Int)) (g:Int->Int->Option (Int×Int)) (a:Int) (d:Int):Option (Int×Int) := G (decide ((d:Int)<i)) (grd (gJ (a*64)) <|grd (I64 (e+d)) <|T (kY h (e+d)) λ(c2:Int)=>grd (gJ c2) <|grd (gJ ((a*64)+c2)) <|grd (gJ (((a*64)+c2)-128)) <|grd (I64 (d+1)) <|g (((a*64)+c2)-128) (d+1)) (j a)
def wU (e:V) (a:Int) (j:Option (Int×Int)) (h:Int->Option (Int×Int)) (d:Int):Option (Int×Int) := G (decide ((d:Int)<=4)) (grd (I64 (a+d)) <|G (decide (((a+d):Int)<=(e.size:Int))) (cm (λ(g:Option (Int×Int))=>cm (λ(i:Int->Option (Int×Int))=>T (kY e a) λ(c1:Int)=>grd (gJ c1) <|G (decide ((1:Int)<d)) (grd (I64 (8-d)) <|grd (0<=(8-d)) <|grd (gJ (256-(nj .i32 1 (8-d)))) <|grd (gJ (c1-(256-(nj .i32 1 (8-d))))) <|i (c1-(256-(nj .i32 1 (8-d))))) (i c1)) (λ(r1:Int)=>cm (λ(n:Int->Option (Int×Int))=>bP (λ_ _=>none) (yA e a d n) bN r1 1) (λ(r2:Int)=>T (vK r2) λ(m:Bool)=>G (!m) (T (vL r2) λ(l:Int)=>G ((l:Int)==d) (T (uI r2) λ(k:V)=>grd (I64 (a+d)) <|grd (0<=(a:Int)/\(a:Int)<=(a+d)/\(a+d:Int)<=(e.size:Int)) <|G (decide (k=c6 e a (a+d))) (some (r2,d)) (g)) (g)) (g)))) (grd (I64 (d+1)) <|h (d+1))) (j)) (j)
def Ef (d:V) (a:Int):Option (Int×Int) := cm (λ(e:Option (Int×Int))=>bP (λ_=>none) (wU d a e) bN 1) (some (0,0))
theorem Vv {k:V} {e:Int} {r:(Int×Int)} (h:Ef k e=some r):eO prog 148 [.string k,zI e] (.tuple #[.int .i32 r.1,zI r.2]):=by
 refine eO.intro func148 rfl ntmps148 (by simp) (λw0 K=>cJ Unit h 1 rfl (λj1 b=>j1=some r) (λb=>[]) (λb=>[]) (λb=>[]) (λj1 h cut=>?_) ?_)
 ·refine I (O 2 rfl (Y (cut (I (O 1 rfl (Y (ck (fP Int (wU k e j1) (λa b=>a b=some r) (λb=>[]) (λb=>[(0,.string k),(1,zI e),(6,zI b)]) (λb=>[]) 1 h 0 (λbs g h=>bV (I (O 1 rfl (E rfl jd (O 1 rfl (du 11 rfl h (λh=>?_) (λh=>?_)))))))))))))))
  ·refine O 2 rfl (bi h λbh h=>E rfl (c8 (e+g) (ac _ bh)) (O 1 rfl (mw rfl dc rfl am (E rfl jd (O 1 rfl (Y (bu rfl h (λh=>?_) (λh=>?_))))))))
   ·refine bw (cu (cJ Unit h 0 rfl (λj2 b=>j2=some r) (λb=>[]) (λb=>[(0,.string k),(1,zI e),(6,zI g),(12,zI e),(13,zI g),(14,zI (e+g)),(15,.string k),(16,zI (k.size:Int)),(17,.bool (decide (((e+g):Int)<=(k.size:Int))))]) (λb=>[]) (λj2 h cut=>?_) ?_))
    ·refine cut (ck (cJ Int h 1 rfl (λj3 b=>j3 b=some r) (λb=>[]) (λb=>[(0,.string k),(1,zI e),(6,zI g),(7,.int .i32 b),(12,zI e),(13,zI g),(14,zI (e+g)),(15,.string k),(16,zI (k.size:Int)),(17,.bool (decide (((e+g):Int)<=(k.size:Int))))]) (λb=>[]) (λj3 h cut=>I (O 2 rfl (aU h λc1 a2 h=>oI rfl dc rfl rfl (qX am a2) (bi h λbb h=>jI rfl dc rfl (xI c1 dZ bl (fh _ bb)) (O 1 rfl (Y (cut (I (O 1 rfl (E rfl kF (Y (bu rfl h (λh=>bX (O 2 rfl (bi h λa9 h=>E rfl (iV (8-g) (ac _ a9)) (bi h λa8 h=>E rfl (KR a8) (bi h λa7 h=>E rfl (iV (256-(nj .i32 1 (8-g))) (fh _ a7)) (bi h λa6 h=>E rfl (iV (c1-(256-(nj .i32 1 (8-g)))) (fh _ a6)) (O 1 rfl (bC (mD (c1-(256-(nj .i32 1 (8-g)))) h 0))))))))) (λh=>bw (mD c1 h 0)))))))))))))) (λr1 h=>cJ Int h 0 rfl (λj4 b=>j4 b=some r) (λb=>[]) (λb=>[(0,.string k),(1,zI e),(6,zI g),(7,.int .i32 b),(12,zI e),(13,zI g),(14,zI (e+g)),(15,.string k),(16,zI (k.size:Int)),(17,.bool (decide (((e+g):Int)<=(k.size:Int))))]) (λb=>[]) (λj4 h cut=>?_) ?_)))
     ·refine cut (I (O 1 rfl (Y (ck (fP (Int×Int) (yA k e g j4) (λa b=>a b.1 b.2=some r) (λb=>[]) (λb=>[(0,.string k),(1,zI e),(6,zI g),(7,.int .i32 b.1),(8,zI b.2),(12,zI e),(13,zI g),(14,zI (e+g)),(15,.string k),(16,zI (k.size:Int)),(17,.bool (decide (((e+g):Int)<=(k.size:Int))))]) (λb=>[]) (r1,1) h 0 ?_)))));rintro bk ⟨H,i3⟩ h;exact bV (I (O 2 rfl (E rfl dL (Y (bu rfl h (λh=>bw (cu (bV (ck (bX (O 1 rfl (bi h λa5 h=>E rfl (Di (r:=H*64) (fh _ a5)) (O 3 rfl (bi h λa4 h=>E rfl (c8 (e+i3) (ac _ a4)) (aU h λc2 a1 h=>oI rfl dc rfl rfl (qX am a1) (bi h λa3 h=>jI rfl dc rfl (xI c2 dZ bl (fh _ a3)) (bi h λaw h=>E rfl (c8 ((H*64)+c2) (fh _ aw)) (bi h λao h=>E rfl (iV (((H*64)+c2)-128) (fh _ ao)) (O 1 rfl (bC (cg (cu (bX (O 1 rfl (bi h λag h=>E rfl (c8 (i3+1) (ac _ ag)) (O 1 rfl (bC (mD (((H*64)+c2)-128,i3+1) h 0))))))))))))))))))))))) (λh=>dG (bS (bS (dH (mD H h 0))))))))))
     refine λr2 h=>bV (aU h λt C h=>wB (!t) (λl=>?_) (λl=>?_))
     ·have h:=pY l h;refine aU h λw J h=>wB ((w:Int)==g) (λm=>?_) (λm=>?_)
      ·have h:=pY m h;refine aU h λr8 a0 h=>bi h λZ h=>bi h λW h=>jU 18 [(0,48,.int .i32 r2),(1,49,.bool t),(2,50,.bool true),(3,51,.bool true),(4,52,.int .i32 r2),(5,53,zI w),(6,54,zI g),(7,55,.bool true),(8,56,.bool true),(9,57,.bool true),(10,58,.int .i32 r2),(11,59,.string r8),(12,60,.string k),(13,61,zI e),(14,62,zI e),(15,63,zI g),(16,64,zI (e+g)),(17,65,.string (c6 k e (e+g)))] mixed kr kr dc (by rfl) kr kr (gD 1 0 rfl (bQ (λD n d c u i=>dF (.bool t) [.int .i32 r2] rfl dc rfl (dN (aX 0 u d) fR) rfl AB (AP C) (bf 1 u i)) (bQ (λD n d c u i=>lh rfl dc (aX 1 u d) lj (qo (show ap (!t)=ap true from aI ap l) (bf 2 u i))) (gD 2 3 rfl (bQ (λD n d c u i=>dF (zI w) [.int .i32 r2] (me rfl (aX 3 u d)) dc rfl (dN (aX 4 u d) fR) rfl Hj (HI J) (bf 5 u i)) (gD 1 6 rfl (bQ (λD n d c u i=>jX (me rfl (aX 3 u d)) dc (aX 5 u d) (aX 6 u d) eZ (qo (show ap ((w:Int)==g)=ap true from aI ap m) (bf 7 u i))) (gD 3 8 rfl (bQ (λD n d c u i=>dF (.string r8) [.int .i32 r2] (me rfl (aX 9 u d)) dc rfl (dN (aX 10 u d) fR) rfl DV (Ee a0) (bf 11 u i)) (gD 4 12 rfl (bQ (λD n d c u i=>jX (me rfl (aX 9 u d)) dc (aX 14 u d) (aX 15 u d) (c8 (e+g) (ac _ Z)) (bf 16 u i)) (bQ (λD n d c u i=>jj (me rfl (aX 9 u d)) dc (aX 12 u d) (evO.some (aX 13 u d)) (evO.some (aX 16 u d)) (lP e (e+g) am (.inr rfl) (.inr rfl) W) (bf 17 u i)) bB)))))))))))) (E rfl mf (O 1 rfl (Y (bu rfl h (λh=>?_) (λh=>?_)))))
       ·refine I (O 4 rfl (Y (bO (cK (bZ (bZ (cK (bZ ?_))))))));cases h;exact eW [.tmp 4,.tmp 5] () (.inl rfl) results148 (.cons (.tmp rfl) (.cons (.tmp rfl) .nil)) rfl aC
       exact bw (cg (mD () h 0))
      have h:=pZ m h;exact jU 18 [(0,48,.int .i32 r2),(1,49,.bool t),(2,50,.bool true),(3,51,.bool true),(4,52,.int .i32 r2),(5,53,zI w),(6,54,zI g),(7,55,.bool false),(8,56,.bool false),(9,57,.bool false),(10,58,undef),(11,59,undef),(12,60,undef),(13,61,undef),(14,62,undef),(15,63,undef),(16,64,undef),(17,65,undef)] mixed kr kr dc (by rfl) kr kr (gD 1 0 rfl (bQ (λD n d c u i=>dF (.bool t) [.int .i32 r2] rfl dc rfl (dN (aX 0 u d) fR) rfl AB (AP C) (bf 1 u i)) (bQ (λD n d c u i=>lh rfl dc (aX 1 u d) lj (qo (show ap (!t)=ap true from aI ap l) (bf 2 u i))) (gD 2 3 rfl (bQ (λD n d c u i=>dF (zI w) [.int .i32 r2] (me rfl (aX 3 u d)) dc rfl (dN (aX 4 u d) fR) rfl Hj (HI J) (bf 5 u i)) (gD 1 6 rfl (bQ (λD n d c u i=>jX (me rfl (aX 3 u d)) dc (aX 5 u d) (aX 6 u d) eZ (qo (show ap ((w:Int)==g)=ap false from aI ap m) (bf 7 u i))) (gD 10 8 rfl bB)))))))) (O 2 rfl (Y (eU rfl (bw (cg (mD () h 0))))))
     have h:=pZ l h;exact jU 18 [(0,48,.int .i32 r2),(1,49,.bool t),(2,50,.bool false),(3,51,.bool false),(4,52,undef),(5,53,undef),(6,54,undef),(7,55,undef),(8,56,.bool false),(9,57,.bool false),(10,58,undef),(11,59,undef),(12,60,undef),(13,61,undef),(14,62,undef),(15,63,undef),(16,64,undef),(17,65,undef)] mixed kr kr dc (by rfl) kr kr (gD 1 0 rfl (bQ (λD n d c u i=>dF (.bool t) [.int .i32 r2] rfl dc rfl (dN (aX 0 u d) fR) rfl AB (AP C) (bf 1 u i)) (bQ (λD n d c u i=>lh rfl dc (aX 1 u d) lj (qo (show ap (!t)=ap false from aI ap l) (bf 2 u i))) (gD 15 3 rfl bB)))) (O 2 rfl (Y (eU rfl (bw (cg (mD () h 0))))))
    exact λ_ h=>bX (O 1 rfl (bi h λM h=>E rfl (c8 (g+1) (ac _ M)) (O 1 rfl (bC (mD (g+1) h 0)))))
   exact dG (bS (bS (dH (iW () h rfl (ss) aC))))
  exact O 7 rfl (Y (eU rfl (dG (bS (bS (dH (iW () h rfl (ss) aC)))))))
 refine λ_ h=>I (O 2 rfl (Y (bO ?_)));cases h;exact eW [.tmp 4,.tmp 5] () (.inl rfl) results148 (.cons (.tmp rfl) (.cons (.tmp rfl) .nil)) rfl aC
def Eg (d:V) (a:Int):Option dq := T (Ef d a) λ(r1:(Int×Int))=>G (decide ((0:Int)<r1.2)) (some (⟨a,r1.2,r1.1,false⟩:dq)) (some (⟨a,1,65533,true⟩:dq))
theorem VA {d:V} {a:Int} {r:dq} (h:Eg d a=some r):eO prog 126 [.string d,zI a] (.agg (fC r).toArray):=by
 refine eO.intro func126 rfl ntmps126 (by simp) (λw0 K=>I (fZ rb rfl dc (λb1=>Y (bV (I (O 2 rfl (aU h λr1 e h=>dF (.tuple #[.int .i32 r1.1,zI r1.2]) [.string d,zI a] rfl dc rfl rfl rfl T1 (Vv e) (O 1 rfl (fF rfl dc rfl rfl (fF rfl dc rfl rfl (O 2 rfl (cw (O 1 rfl (E rfl kF (Y (bu rfl h (λh=>?_) (λh=>?_)))))))))))))))))
 ·refine I (O 3 rfl (fH (.agg #[zI a,zI r1.2,.int .i32 r1.1,.bool false]) [(0,.tmp 15),(1,.tmp 16),(2,.tmp 17)] rfl dc rfl (λ_=>by kernel_rfl) (fI 0 [zI a,zI r1.2,.int .i32 r1.1,.bool false] [zI a,zI r1.2,.int .i32 r1.1,.bool false] mg rfl rfl rfl rfl rfl (show _<=_ by simp) rfl rfl (Y (bO (bZ ?_))))));cases h;exact eW [.cell 4 102] () (.inl rfl) results126 (.cons (.cells nm (k:=0) rfl rfl rfl) .nil) rfl aC
 refine bw (cu (I (O 1 rfl (fH (.agg #[zI a,zI 1,.int .i32 65533,.bool true]) [(0,.tmp 19),(1,.const (zI 1)),(2,.const (.int .i32 65533)),(3,.const (.bool true))] rfl dc rfl (λ_=>by kernel_rfl) (fI 0 [zI a,zI 1,.int .i32 65533,.bool true] [zI a,zI 1,.int .i32 65533,.bool true] mg rfl rfl rfl rfl rfl (show _<=_ by simp) rfl rfl (Y (bO ?_)))))));cases h;exact eW [.cell 4 102] () (.inl rfl) results126 (.cons (.cells nm (k:=0) rfl rfl rfl) .nil) rfl aC
def AQ (g:V) (h:(List dq)->Option (List dq)) (e:(List dq)->Int->Option (List dq)) (d:List dq) (a:Int):Option (List dq) := G (decide ((a:Int)<(g.size:Int))) (T (Eg g a) λ(r1:dq)=>grd (d.length+1<=2147483648) <|grd (I64 (a+r1.Width)) <|e (d++[r1]) (a+r1.Width)) (h d)
def Eh (a:V):Option (List dq) := cm (λ(e:(List dq)->Option (List dq))=>bP (λ_ _=>none) (AQ a e) bN ([]:List dq) 0) (λ(d:List dq)=>some d)
theorem VB {g:V} {r:(List dq)} (h:Eh g=some r):Fn prog 82 [.string g] [] (λv0:Value=>v0) (λv0=>[rh v0 r]):=by
 refine Fn.intro func82 rfl ntmps82 (by simp) (λw0 K=>cJ ((List dq)×Value) h 2 rfl (λi b=>i b.1=some r) (λb=>[]) (λb=>[(3,b.2)]) (λb=>[rh b.2 b.1]) (λi h cut=>?_) ?_)
 ·refine I (O 1 rfl (cw (O 1 rfl (Y (cut (I (O 1 rfl (Y (ck (oL qs 102 4 (fP ((List dq)×Int×Value) (AQ g i) (λa b=>a b.1 b.2.1=some r) (λb=>[]) (λb=>[(0,.string g),(3,b.2.2),(4,zI b.2.1)]) (λb=>[rh b.2.2 b.1]) (([]:List dq),0,(.slice none 0 0)) h 1 ?_)))))))))));rintro u ⟨n,d,t⟩ h;exact bV (I (O 2 rfl (mw rfl dc rfl am (E rfl dL (Y (bu rfl h (λh=>bw (cu (ck (I (O 2 rfl (aU h λr1 j h=>dF (.agg (fC r1).toArray) [.string g,zI d] rfl dc rfl rfl rfl TP (VA j) (fZ rb rfl dc (λb1=>fI 1 (fC r1) (fC r1) mg rfl rfl rfl rfl rfl (show _<=_ by simp) rfl rfl (cw (O 1 rfl (ju 1 (fC r1) nm rfl dc rfl rfl rfl rfl (hQ [(0,.tmp 14)] 102 (fC r1) rfl dc rfl (λ_=>by kernel_rfl) (λC=>bi h λm h=>jJ 0 2 [r1] dk LK DX MB rfl dc rfl rfl rfl rfl rfl rfl m (λs=>O 1 rfl (Y (bX (O 1 rfl (ci s6 rfl dc rfl (show _=1 from rfl) (bW 1 ed rfl dc rfl rfl rfl (bi h λl h=>E rfl (c8 (d+r1.Width) (ac _ l)) (O 1 rfl (bC (cg (mD (n++[r1],d+r1.Width,s) h 1)))))))))))))))))))))))) (λh=>dG (bS (bS (dH (mD (n,t) h 1)))))))))))
 rintro⟨w,v1⟩ h;refine I (O 2 rfl (Y (bO ?_)));cases h;exact eW [.tmp 2] v1 (.inl rfl) results82 (.cons (.tmp rfl) .nil) rfl (cO 1)
def M2 (a:V) (p1:dq):Option V := grd (I64 (p1.At+p1.Width)) <|grd (0<=(p1.At:Int)/\(p1.At:Int)<=(p1.At+p1.Width)/\(p1.At+p1.Width:Int)<=(a.size:Int)) <|some (c6 a p1.At (p1.At+p1.Width))
theorem M3 {e:V} (p1:dq) {r:V} (h:M2 e p1=some r):eO prog 83 [.string e,.agg (fC p1).toArray] (.string r):=by
 refine eO.intro func83 rfl ntmps83 (by simp) (λw0 K=>I (lE rfl dc rfl (λb1=>O 1 rfl (cw (O 1 rfl (ci nD rfl dc rfl (show _=0 from rfl) (bW 0 ed rfl dc rfl rfl rfl (ci nD rfl dc rfl (show _=0 from rfl) (bW 0 ed rfl dc rfl rfl rfl (ci s6 rfl dc rfl (show _=1 from rfl) (bW 0 ed rfl dc rfl rfl rfl (bi h λd h=>E rfl (c8 (p1.At+p1.Width) (ac _ d)) (bi h λa h=>jj rfl dc rfl rfl rfl (lP p1.At (p1.At+p1.Width) am (.inr rfl) (.inr rfl) a) (O 1 rfl (Y (bO ?_))))))))))))))));cases h;exact dt 4 results83
section
variable {R S:Type} {c:Prop} [Decidable c] {o x z:Option R} {p:Option S} {f:S->Option R} {b:Bool} {y:Option R}
theorem dI (h:c) (a:o=x):grd c o=x:=(KP h).trans a
theorem aV {a:S} (h:p=some a) (hf:f a=x):T p f=x:=(KQ h).trans hf
theorem ca (hb:b=true) (h:x=z):G b x y=z:=(Rm hb).trans h
theorem bR (hb:b=false) (h:y=z):G b x y=z:=(Rp hb).trans h
theorem gO {c:Prop} [Decidable c] {R:Type} {o x:Option R} (a:o=x) (h:c:=by omega):grd c o=x:=dI h a
theorem eQ {p:Prop} [Decidable p] {R:Type} {x y z:Option R} (h:x=z) (hp:p:=by omega):G (decide p) x y=z:=ca (an hp) h
theorem fc {p:Prop} [Decidable p] {R:Type} {x y z:Option R} (h:y=z) (hp:¬p:=by omega):G (decide p) x y=z:=bR (ah hp) h
theorem cL {a:Type} {t:a->Option R} {k:a} (h:t k=x):cm t k=x:=h
theorem iB {a:Type} {bot:a} {step:a->a} {n:Nat}:bP bot step (n+1)=step (bP bot step n):=rfl
theorem M4 {q:Prop} [Decidable q]:G (decide q) x y=if q then x else y:=by
 unfold G;rw[Bool.cond_decide]
theorem yB (k:Nat) (h:k<=1000):∃n,bN=n+k/\18446744073709550000<=n:=⟨18446744073709551616-k,by unfold bN;omega,by omega⟩
end
def vr (r:Int):Prop:=(0<=r/\r<55296)\/(57343<r/\r<=1114111)
instance (r:Int):Decidable (vr r):=by unfold vr;infer_instance
theorem HJ (r:Int):vK r=some (!decide (vr r)):=by
 unfold vK;simp only[M4];by_cases h:vr r
 ·have h':=h;unfold vr at h';rw[an h,ai z1,ai z1];split
  ·rw[ah z1];rfl
  ·rfl
 ·have h':=h;unfold vr at h';rw[ah h];split
  ·rfl
  ·split
   ·rfl
   ·rw[aj z1,an z1];rfl
def wd (r:Int):Int:=if vr r then (if r<128 then 1 else if r<2048 then 2 else if r<65536 then 3 else 4) else 0
theorem M5 (r:Int):vL r=some (wd r):=by
 unfold vL wd;refine aV (HJ r) ?_;by_cases h:vr r
 ·refine bR (by simp[h]) ?_;rw[aj h];simp only[M4];split
  ·rfl
  ·split
   ·rfl
   ·split<;>rfl
 ·refine ca (by simp[h]) ?_;rw[ai h]
theorem VC (r:Int) (h:vr r):((encodeRune r).length:Int)=wd r:=by
 unfold wd;rw[aj h];unfold vr at h;unfold encodeRune;rw[ax];split
 ·rw[encodeRuneZ_one z1 z1];rfl
 ·split
  ·rw[encodeRuneZ_two z1 z1];rfl
  ·split
   ·rw[encodeRuneZ_three z1];rfl
   ·rw[encodeRuneZ_four z1 z1];rfl
theorem yC (x:Int) (h:0<=x/\x<=255):IntKind.u8.wrap x=x:=IntWalk.u8_in x h
theorem yD {j:Int->List Int->Option V} {ag:Int->List Int->Int->Option V} {r i:Int} {b:List Int} (h0:0<=r) (hr:r<=1114111) (hi:0<i) (hb:i<b.length) (d:b.length<=4) : rK j ag r b i=ag (r / 64) (b.set i.toNat (128+r % 64)) (i-1):=by
 unfold rK;have e1:n5 r 64=r % 64:=Int.tmod_eq_emod_of_nonneg h0;have e2:tB r 64=r / 64:=Int.tdiv_eq_ediv_of_nonneg h0;refine ca (an hi) (gO ?_);obtain⟨q,a⟩:∃q,cj b i=some q:=⟨_,wA (n:=i.toNat) z1 (aJ z1)⟩;refine aV a (gO (gO ?_));rw[e1,e2,yC _ z1]
theorem HK {j:Int->List Int->Option V} {ag:Int->List Int->Int->Option V} {r:Int} {b:List Int}:rK j ag r b 0=j r b:=by
 unfold rK;exact bR rfl rfl
theorem vM {l:List Int} {s:V} (h:l.map (λx=>UInt8.ofNat x.toNat)=s.data.toList):kK l=s:=by
 apply ByteArray.ext;unfold kK;simp[h]
theorem Ei (r:Int) (hr:gJ r):uI r=some (ae r):=by
  have key:∀r,vr r->(T (vL r) λ(d:Int)=>
      G ((d:Int)==1) (grd (∀x∈([IntKind.u8.wrap r]:List Int),U8 x)<|some (kK ([IntKind.u8.wrap r]:List Int)))
      (cm (λ(l:Int->(List Int)->Option V)=>grd (0<=d/\d<=2147483648)<|grd (I64 (d-1))<|bP (λ_ _ _=>none) (rK l) bN r (aO (d:Int).toNat 0) (d-1))
       (λ(g:Int) (k:List Int)=>
        grd (I64 (8-d))<|grd (0<=(8-d))<|grd (I64 (256-(nj .i64 1 (8-d))))<|grd (I64 g)<|grd (I64 ((256-(nj .i64 1 (8-d)))+g)) <|
        T (cj k 0) λ(q2:Int)=>grd (∀x∈k.set (0:Int).toNat (IntKind.u8.wrap ((256-(nj .i64 1 (8-d)))+g)),U8 x) <|
        some (kK (k.set (0:Int).toNat (IntKind.u8.wrap ((256-(nj .i64 1 (8-d)))+g)))))))=some (ae r):=by
    intro r hv;have j:=hv;unfold vr at hv;refine aV (M5 r) ?_;obtain⟨n,m,_⟩:=yB 5 z1;rw[m];unfold wd;rw[aj j];have i:encodeRune r=(encodeRuneZ r).map λx=>x.toNat.toUInt8:=rfl;by_cases h1:r<128
    · rw[aj h1]
      refine ca rfl (dI ?_ ?_)
      · intro x hx
        simp only[List.mem_singleton] at hx;subst hx;rw[yC _ z1];exact⟨by omega,by omega⟩
      · congr 1
        refine vM ?_;rw[pg,i,encodeRuneZ_one z1 z1,yC _ z1]<;>rfl
    · rw[ai h1]
      by_cases h2:r<2048
      · rw[aj h2]
        refine bR rfl (cL (gO (gO ?_)));simp only[iB];show rK _ _ r [0,0] 1=_;rw[yD z1 z1 z1 (by decide) (by decide),show (1:Int)-1=0 by rfl,HK];have e:nj .i64 1 (8-2)=64:=by decide
        rw[e];refine gO (gO (gO (gO (gO (aV (a:=0) rfl ?_)))));rw[yC _ z1];show grd (∀x∈[256-64+r / 64,128+r % 64],U8 x) (some (kK [256-64+r / 64,128+r % 64]))=_;refine dI (by intro x hx;simp only[bg,dJ,or_false] at hx;rcases hx with rfl | rfl<;>exact⟨by omega,by omega⟩) ?_
        congr 1;refine vM ?_;rw[pg,i,encodeRuneZ_two z1 z1]<;>rfl
      · rw[ai h2]
        by_cases h3:r<65536
        · rw[aj h3]
          refine bR rfl (cL (gO (gO ?_)));simp only[iB];show rK _ _ r [0,0,0] 2=_;rw[yD z1 z1 z1 (by decide) (by decide)];show rK _ _ (r / 64) [0,0,128+r % 64] 1=_;rw[yD z1 z1 z1 (by simp) (by simp),show (1:Int)-1=0 by rfl,HK];have e:nj .i64 1 (8-3)=32:=by decide
          rw[e];refine gO (gO (gO (gO (gO (aV (a:=0) rfl ?_)))));rw[yC _ z1];show grd (∀x∈[256-32+r / 64 / 64,128+r / 64 % 64,128+r % 64],U8 x) (some (kK [256-32+r / 64 / 64,128+r / 64 % 64,128+r % 64]))=_;refine dI (by intro x hx;simp only[bg,dJ,or_false] at hx;rcases hx with rfl | rfl | rfl<;>exact⟨by omega,by omega⟩) ?_
          congr 1;refine vM ?_;rw[pg,i,encodeRuneZ_three z1,show r / 64 / 64=r / 4096 by omega]<;>rfl
        · rw[ai h3]
          refine bR rfl (cL (gO (gO ?_)));simp only[iB];show rK _ _ r [0,0,0,0] 3=_;rw[yD z1 z1 z1 (by decide) (by decide)];show rK _ _ (r / 64) [0,0,0,128+r % 64] 2=_;rw[yD z1 z1 z1 (by simp) (by simp)];show rK _ _ (r / 64 / 64) [0,0,128+r / 64 % 64,128+r % 64] 1=_;rw[yD z1 z1 z1 (by simp) (by simp),show (1:Int)-1=0 by rfl,HK];have e:nj .i64 1 (8-4)=16:=by decide
          rw[e];refine gO (gO (gO (gO (gO (aV (a:=0) rfl ?_)))));rw[yC _ z1];show grd (∀x∈[256-16+r / 64 / 64 / 64,128+r / 64 / 64 % 64,128+r / 64 % 64,128+r % 64],U8 x) (some (kK [256-16+r / 64 / 64 / 64,128+r / 64 / 64 % 64,128+r / 64 % 64,128+r % 64]))=_;refine dI (by intro x hx;simp only[bg,dJ,or_false] at hx;rcases hx with rfl | rfl | rfl | rfl<;>exact⟨by omega,by omega⟩) ?_
          congr 1;refine vM ?_;rw[pg,i,encodeRuneZ_four z1 z1,show r / 64 / 64 / 64=r / 262144 by omega,show r / 64 / 64 % 64=r / 4096 % 64 by omega]<;>rfl
  unfold uI;refine cL (aV (HJ r) ?_);by_cases h:vr r
  · exact bR (by simp[h]) (key r h)
  · refine ca (by simp[h]) ((key 65533 (by decide)).trans ?_)
    congr 1;unfold ae;rw[validRune_eq,validRune_eq];have e1:validRune r=false:=by unfold validRune;exact ah h
    rw[e1];rfl
section
variable {R X A B:Type} {xs:List X}
theorem mY {k:Nat} {x:X} (h:xs[k]?=some x):cj xs (k:Int)=some x:=iu h
theorem oa {k:Nat} {x:X} (h:xs[k]?=some x):decide ((k:Int)<(xs.length:Int))=true:=an (by have:=(aq.1 h).1;omega)
theorem nR:decide ((xs.length:Int)<(xs.length:Int))=false:=ah z1
theorem kG {k:Nat} (h:k<=4611686018427387904):I64 ((k:Int)+1):=⟨by omega,by omega⟩
theorem pM {k:Nat} {x:X} (h:xs[k]?=some x):k<xs.length:=(aq.1 h).1
variable (xs) in
theorem tj {F:(A->Int->Option R)->A->Int->Option R} {bot:A->Int->Option R} (f:A->X->A) (J:A->Option R) (Inv:Nat->A->Prop) (e:∀ag k x a,xs[k]?=some x->Inv k a->F ag a (k:Int)=ag (f a x) ((k:Int)+1)) (i:∀k x a,xs[k]?=some x->Inv k a->Inv (k+1) (f a x)) (he:∀ag a,Inv xs.length a->F ag a (xs.length:Int)=J a) {n:Nat} (g:xs.length<n) {a:A} (h0:Inv 0 a):bP bot F n a 0=J (xs.foldl f a):=by
 have key:∀ (n k:Nat) (a:A),k<=xs.length->xs.length-k<n->Inv k a->bP bot F n a (k:Int)=J ((xs.drop k).foldl f a):=by
  intro n
  induction n with
  |zero=>intro k a _ h;omega
  |succ n d=>
   intro k a hk g hi;rw[iB];by_cases h:k<xs.length
   ·have hx:xs[k]?=some xs[k]:=aJ h;rw[e _ k _ a hx hi,aQ h,bz];exact d (k+1) _ z1 z1 (i k _ a hx hi)
   ·have:k=xs.length:=by omega
    subst this;rw[he _ a hi,ix];rfl
 have:=key n 0 a (bT _) z1 h0;simpa using this
theorem M6 (F:(A->B->Int->Option R)->A->B->Int->Option R) {bot:A->B->Int->Option R} (f:A×B->X->A×B) (J:A->B->Option R) (Inv:Nat->A×B->Prop) (e:∀ag k x (a:A×B),xs[k]?=some x->Inv k a->F ag a.1 a.2 (k:Int)=ag (f a x).1 (f a x).2 ((k:Int)+1)) (i:∀k x a,xs[k]?=some x->Inv k a->Inv (k+1) (f a x)) (he:∀ag (a:A×B),Inv xs.length a->F ag a.1 a.2 (xs.length:Int)=J a.1 a.2) {n:Nat} (g:xs.length<n) {a:A×B} (h0:Inv 0 a):bP bot F n a.1 a.2 0=J (xs.foldl f a).1 (xs.foldl f a).2:=by
 have key:∀ (n k:Nat) (a:A×B),k<=xs.length->xs.length-k<n->Inv k a->bP bot F n a.1 a.2 (k:Int)=J ((xs.drop k).foldl f a).1 ((xs.drop k).foldl f a).2:=by
  intro n
  induction n with
  |zero=>intro k a _ h;omega
  |succ n d=>
   intro k a hk g hi;rw[iB];by_cases h:k<xs.length
   ·have hx:xs[k]?=some xs[k]:=aJ h;rw[e _ k _ a hx hi,aQ h,bz];exact d (k+1) _ z1 z1 (i k _ a hx hi)
   ·have:k=xs.length:=by omega
    subst this;rw[he _ a hi,ix];rfl
 have:=key n 0 a (bT _) z1 h0;simpa using this
variable (xs) in
theorem yE (F:(Int->Option R)->Int->Option R) (bot:Int->Option R) (g:X->Option (Option R)) (J:Option R) (d:∀ (ag:Int->Option R) (k:Nat) (x:X),xs[k]?=some x->F ag (k:Int)=(g x).getD (ag ((k:Int)+1))) (he:∀ag,F ag (xs.length:Int)=J) {n:Nat} (e:xs.length<n):bP bot F n 0=(xs.findSome? g).getD J:=by
 have key:∀ (n k:Nat),k<=xs.length->xs.length-k<n->bP bot F n (k:Int)=((xs.drop k).findSome? g).getD J:=by
  intro n
  induction n with
  |zero=>intro k _ h;omega
  |succ n a=>
   intro k hk e;rw[iB];by_cases h:k<xs.length
   ·have hx:xs[k]?=some xs[k]:=aJ h;rw[d _ k _ hx,aQ h,dR];have:=a (k+1) z1 z1
    push_cast at this
    rw[this];cases g xs[k]<;>rfl
   ·have:k=xs.length:=by omega
    subst this;rw[he,ix];rfl
 have:=key n 0 (bT _) z1;simpa using this
end
theorem jC {n:Nat} (h:n<=4611686018427387904):n<bN:=by unfold bN;omega
abbrev AR:V:=⟨#[196,132,196,152,196,174,197,178,196,133,196,153,196,175,197,179]⟩
abbrev AU:V:=⟨#[195,135,196,162,196,182,196,187,197,133,197,150,197,158,197,162,195,167,196,163,196,183,196,188,197,134,197,151,197,159,197,163]⟩
abbrev AV:V:=⟨#[196,140,196,142,196,154,196,189,197,135,197,152,197,160,197,164,197,189,196,141,196,143,196,155,196,190,197,136,197,153,197,161,197,165,197,190]⟩
abbrev AW:V:=⟨#[67,68,69,76,78,82,83,84,90,99,100,101,108,110,114,115,116,122]⟩
abbrev AX:V:=⟨#[195,132,195,139,195,143,195,150,195,156,195,164,195,171,195,175,195,182,195,188,195,191,197,184,208,129,208,135,209,145,209,151,206,170,206,171,207,138,207,139]⟩
abbrev AY:V:=⟨#[65,69,73,79,85,97,101,105,111,117,121,89,208,149,208,134,208,181,209,150,206,153,206,165,206,185,207,133]⟩
abbrev AZ:V:=⟨#[196,138,196,150,196,160,196,176,197,187,196,139,196,151,196,161,197,188]⟩
abbrev A1:V:=⟨#[196,130,196,148,196,158,196,172,197,142,197,172,196,131,196,149,196,159,196,173,197,143,197,173,208,153,208,142,208,185,209,158]⟩
abbrev A2:V:=⟨#[65,69,71,73,79,85,97,101,103,105,111,117,208,152,208,163,208,184,209,131]⟩
abbrev A3:V:=⟨#[196,128,196,146,196,170,197,140,197,170,196,129,196,147,196,171,197,141,197,171]⟩
abbrev A4:V:=⟨#[195,131,195,145,195,149,195,163,195,177,195,181,196,168,197,168,196,169,197,169]⟩
abbrev A5:V:=⟨#[195,130,195,138,195,142,195,148,195,155,195,162,195,170,195,174,195,180,195,187,196,136,196,156,196,164,196,180,197,156,197,180,197,182,196,137,196,157,196,165,196,181,197,157,197,181,197,183]⟩
abbrev A6:V:=⟨#[65,69,73,79,85,97,101,105,111,117,67,71,72,74,83,87,89,99,103,104,106,115,119,121]⟩
abbrev A7:V:=⟨#[206,134,206,136,206,137,206,138,206,140,206,142,206,143,206,172,206,173,206,174,206,175,207,140,207,141,207,142,208,131,208,140,209,147,209,156,206,144,206,176]⟩
abbrev A8:V:=⟨#[206,145,206,149,206,151,206,153,206,159,206,165,206,169,206,177,206,181,206,183,206,185,206,191,207,133,207,137,208,147,208,154,208,179,208,186,207,138,207,139]⟩
abbrev A9:V:=⟨#[195,129,195,137,195,141,195,147,195,154,195,157,195,161,195,169,195,173,195,179,195,186,195,189,196,134,196,185,197,131,197,148,197,154,197,185,196,135,196,186,197,132,197,149,197,155,197,186]⟩
abbrev Ba:V:=⟨#[65,69,73,79,85,89,97,101,105,111,117,121,67,76,78,82,83,90,99,108,110,114,115,122]⟩
abbrev Bb:V:=⟨#[195,128,195,136,195,140,195,146,195,153,195,160,195,168,195,172,195,178,195,185,208,128,208,141,209,144,209,157]⟩
abbrev Bc:V:=⟨#[65,69,73,79,85,97,101,105,111,117,208,149,208,152,208,181,208,184]⟩
def yF  : Option (List iT) := some ([(⟨(⟨#[204,128]⟩:V),Bc,Bb⟩:iT),(⟨(⟨#[204,129]⟩:V),Ba,A9⟩:iT),(⟨(⟨#[204,129]⟩:V),A8,A7⟩:iT),(⟨(⟨#[204,130]⟩:V),A6,A5⟩:iT),(⟨(⟨#[204,131]⟩:V),(⟨#[65,78,79,97,110,111,73,85,105,117]⟩:V),A4⟩:iT),(⟨(⟨#[204,132]⟩:V),(⟨#[65,69,73,79,85,97,101,105,111,117]⟩:V),A3⟩:iT),(⟨(⟨#[204,134]⟩:V),A2,A1⟩:iT),(⟨(⟨#[204,135]⟩:V),(⟨#[67,69,71,73,90,99,101,103,122]⟩:V),AZ⟩:iT),(⟨(⟨#[204,136]⟩:V),AY,AX⟩:iT),(⟨(⟨#[204,138]⟩:V),(⟨#[65,85,97,117]⟩:V),(⟨#[195,133,197,174,195,165,197,175]⟩:V)⟩:iT),(⟨(⟨#[204,139]⟩:V),(⟨#[79,85,111,117]⟩:V),(⟨#[197,144,197,176,197,145,197,177]⟩:V)⟩:iT),(⟨(⟨#[204,140]⟩:V),AW,AV⟩:iT),(⟨(⟨#[204,167]⟩:V),(⟨#[67,71,75,76,78,82,83,84,99,103,107,108,110,114,115,116]⟩:V),AU⟩:iT),(⟨(⟨#[204,168]⟩:V),(⟨#[65,69,73,85,97,101,105,117]⟩:V),AR⟩:iT)]:List iT)
theorem M7  {r:(List iT)} (h:yF=some r):Fn prog 118 [] [] (λv0:Value=>v0) (λv0=>[sC v0 r]):=by
 unfold yF at h;refine Fn.intro func118 rfl ntmps118 (by simp) (λw0 K=>I (O 1 rfl (cw (fH (.agg #[.string (⟨#[204,128]⟩:V),.string Bc,.string Bb]) [(0,.const (.string (⟨#[204,128]⟩:V))),(1,.const (.string Bc)),(2,.const (.string Bb))] rfl dc rfl (λ_=>by kernel_rfl) (fH (.agg #[.string (⟨#[204,129]⟩:V),.string Ba,.string A9]) [(0,.const (.string (⟨#[204,129]⟩:V))),(1,.const (.string Ba)),(2,.const (.string A9))] rfl dc rfl (λ_=>by kernel_rfl) (fH (.agg #[.string (⟨#[204,129]⟩:V),.string A8,.string A7]) [(0,.const (.string (⟨#[204,129]⟩:V))),(1,.const (.string A8)),(2,.const (.string A7))] rfl dc rfl (λ_=>by kernel_rfl) (fH (.agg #[.string (⟨#[204,130]⟩:V),.string A6,.string A5]) [(0,.const (.string (⟨#[204,130]⟩:V))),(1,.const (.string A6)),(2,.const (.string A5))] rfl dc rfl (λ_=>by kernel_rfl) (fH (.agg #[.string (⟨#[204,131]⟩:V),.string (⟨#[65,78,79,97,110,111,73,85,105,117]⟩:V),.string A4]) [(0,.const (.string (⟨#[204,131]⟩:V))),(1,.const (.string (⟨#[65,78,79,97,110,111,73,85,105,117]⟩:V))),(2,.const (.string A4))] rfl dc rfl (λ_=>by kernel_rfl) (fH (.agg #[.string (⟨#[204,132]⟩:V),.string (⟨#[65,69,73,79,85,97,101,105,111,117]⟩:V),.string A3]) [(0,.const (.string (⟨#[204,132]⟩:V))),(1,.const (.string (⟨#[65,69,73,79,85,97,101,105,111,117]⟩:V))),(2,.const (.string A3))] rfl dc rfl (λ_=>by kernel_rfl) (fH (.agg #[.string (⟨#[204,134]⟩:V),.string A2,.string A1]) [(0,.const (.string (⟨#[204,134]⟩:V))),(1,.const (.string A2)),(2,.const (.string A1))] rfl dc rfl (λ_=>by kernel_rfl) (fH (.agg #[.string (⟨#[204,135]⟩:V),.string (⟨#[67,69,71,73,90,99,101,103,122]⟩:V),.string AZ]) [(0,.const (.string (⟨#[204,135]⟩:V))),(1,.const (.string (⟨#[67,69,71,73,90,99,101,103,122]⟩:V))),(2,.const (.string AZ))] rfl dc rfl (λ_=>by kernel_rfl) (fH (.agg #[.string (⟨#[204,136]⟩:V),.string AY,.string AX]) [(0,.const (.string (⟨#[204,136]⟩:V))),(1,.const (.string AY)),(2,.const (.string AX))] rfl dc rfl (λ_=>by kernel_rfl) (fH (.agg #[.string (⟨#[204,138]⟩:V),.string (⟨#[65,85,97,117]⟩:V),.string (⟨#[195,133,197,174,195,165,197,175]⟩:V)]) [(0,.const (.string (⟨#[204,138]⟩:V))),(1,.const (.string (⟨#[65,85,97,117]⟩:V))),(2,.const (.string (⟨#[195,133,197,174,195,165,197,175]⟩:V)))] rfl dc rfl (λ_=>by kernel_rfl) (fH (.agg #[.string (⟨#[204,139]⟩:V),.string (⟨#[79,85,111,117]⟩:V),.string (⟨#[197,144,197,176,197,145,197,177]⟩:V)]) [(0,.const (.string (⟨#[204,139]⟩:V))),(1,.const (.string (⟨#[79,85,111,117]⟩:V))),(2,.const (.string (⟨#[197,144,197,176,197,145,197,177]⟩:V)))] rfl dc rfl (λ_=>by kernel_rfl) (fH (.agg #[.string (⟨#[204,140]⟩:V),.string AW,.string AV]) [(0,.const (.string (⟨#[204,140]⟩:V))),(1,.const (.string AW)),(2,.const (.string AV))] rfl dc rfl (λ_=>by kernel_rfl) (fH (.agg #[.string (⟨#[204,167]⟩:V),.string (⟨#[67,71,75,76,78,82,83,84,99,103,107,108,110,114,115,116]⟩:V),.string AU]) [(0,.const (.string (⟨#[204,167]⟩:V))),(1,.const (.string (⟨#[67,71,75,76,78,82,83,84,99,103,107,108,110,114,115,116]⟩:V))),(2,.const (.string AU))] rfl dc rfl (λ_=>by kernel_rfl) (fH (.agg #[.string (⟨#[204,168]⟩:V),.string (⟨#[65,69,73,85,97,101,105,117]⟩:V),.string AR]) [(0,.const (.string (⟨#[204,168]⟩:V))),(1,.const (.string (⟨#[65,69,73,85,97,101,105,117]⟩:V))),(2,.const (.string AR))] rfl dc rfl (λ_=>by kernel_rfl) (hQ [(0,.tmp 1),(1,.tmp 2),(2,.tmp 3),(3,.tmp 4),(4,.tmp 5),(5,.tmp 6),(6,.tmp 7),(7,.tmp 8),(8,.tmp 9),(9,.tmp 10),(10,.tmp 11),(11,.tmp 12),(12,.tmp 13),(13,.tmp 14)] 166 [.string (⟨#[204,128]⟩:V),.string Bc,.string Bb,.string (⟨#[204,129]⟩:V),.string Ba,.string A9,.string (⟨#[204,129]⟩:V),.string A8,.string A7,.string (⟨#[204,130]⟩:V),.string A6,.string A5,.string (⟨#[204,131]⟩:V),.string (⟨#[65,78,79,97,110,111,73,85,105,117]⟩:V),.string A4,.string (⟨#[204,132]⟩:V),.string (⟨#[65,69,73,79,85,97,101,105,111,117]⟩:V),.string A3,.string (⟨#[204,134]⟩:V),.string A2,.string A1,.string (⟨#[204,135]⟩:V),.string (⟨#[67,69,71,73,90,99,101,103,122]⟩:V),.string AZ,.string (⟨#[204,136]⟩:V),.string AY,.string AX,.string (⟨#[204,138]⟩:V),.string (⟨#[65,85,97,117]⟩:V),.string (⟨#[195,133,197,174,195,165,197,175]⟩:V),.string (⟨#[204,139]⟩:V),.string (⟨#[79,85,111,117]⟩:V),.string (⟨#[197,144,197,176,197,145,197,177]⟩:V),.string (⟨#[204,140]⟩:V),.string AW,.string AV,.string (⟨#[204,167]⟩:V),.string (⟨#[67,71,75,76,78,82,83,84,99,103,107,108,110,114,115,116]⟩:V),.string AU,.string (⟨#[204,168]⟩:V),.string (⟨#[65,69,73,85,97,101,105,117]⟩:V),.string AR] rfl dc rfl (λ_=>by kernel_rfl) (λb1=>?_)))))))))))))))))));refine O 1 rfl (pd 0 ([(⟨(⟨#[204,128]⟩:V),Bc,Bb⟩:iT),(⟨(⟨#[204,129]⟩:V),Ba,A9⟩:iT),(⟨(⟨#[204,129]⟩:V),A8,A7⟩:iT),(⟨(⟨#[204,130]⟩:V),A6,A5⟩:iT),(⟨(⟨#[204,131]⟩:V),(⟨#[65,78,79,97,110,111,73,85,105,117]⟩:V),A4⟩:iT),(⟨(⟨#[204,132]⟩:V),(⟨#[65,69,73,79,85,97,101,105,111,117]⟩:V),A3⟩:iT),(⟨(⟨#[204,134]⟩:V),A2,A1⟩:iT),(⟨(⟨#[204,135]⟩:V),(⟨#[67,69,71,73,90,99,101,103,122]⟩:V),AZ⟩:iT),(⟨(⟨#[204,136]⟩:V),AY,AX⟩:iT),(⟨(⟨#[204,138]⟩:V),(⟨#[65,85,97,117]⟩:V),(⟨#[195,133,197,174,195,165,197,175]⟩:V)⟩:iT),(⟨(⟨#[204,139]⟩:V),(⟨#[79,85,111,117]⟩:V),(⟨#[197,144,197,176,197,145,197,177]⟩:V)⟩:iT),(⟨(⟨#[204,140]⟩:V),AW,AV⟩:iT),(⟨(⟨#[204,167]⟩:V),(⟨#[67,71,75,76,78,82,83,84,99,103,107,108,110,114,115,116]⟩:V),AU⟩:iT),(⟨(⟨#[204,168]⟩:V),(⟨#[65,69,73,85,97,101,105,117]⟩:V),AR⟩:iT)]:List iT) rfl Hm rfl (show 14<=maxLen by decide) (Y (bO ?_)));cases h;exact eW [.tmp 0] (.slice (some ⟨b1,0,none⟩) 14 14) (.inl rfl) results118 (.cons (.tmp rfl) .nil) rfl (cO 1)
def yG (d:Int) (a:Int) (k:Option Int) (q1:iT) (g:Int->Option Int) (e:Int):Option Int := G (decide ((e:Int)<((fB q1.e1).length:Int))) (cm (λ(h:Option Int)=>T (cj (fB q1.e1) e) λ(q2:Int)=>G ((q2:Int)==d) (grd (q1.e0.size<=1073741824) <|T (cj (fB q1.e0) 0) λ(j:Int)=>G ((j:Int)==a) (T (cj (fB q1.e2) e) λ(i:Int)=>some i) (h)) (h)) (grd (I64 (e+1)) <|g (e+1))) (k)
def Bd (d:Int) (a:Int) (i:Option Int) (r1:(List iT)) (g:Int->Option Int) (e:Int):Option Int := G (decide ((e:Int)<(r1.length:Int))) (cm (λ(h:Option Int)=>T (cj r1 e) λ(q1:iT)=>grd (q1.e1.size<=1073741824) <|grd (q1.e2.size<=1073741824) <|bP (λ_=>none) (yG d a h q1) bN 0) (grd (I64 (e+1)) <|g (e+1))) (i)
def Be (d:Int) (a:Int):Option Int := cm (λ(e:Option Int)=>T (yF) λ(r1:(List iT))=>bP (λ_=>none) (Bd d a e r1) bN 0) (some 0)
theorem VD {g:Int} {e:Int} {r:Int} (h:Be g e=some r):eO prog 123 [.int .i32 g,.int .i32 e] (.int .i32 r):=by
 refine eO.intro func123 rfl ntmps123 (by simp) (λw0 K=>cJ Unit h 1 rfl (λj1 b=>j1=some r) (λb=>[]) (λb=>[]) (λb=>[]) (λj1 h cut=>?_) ?_)
 ·refine I (O 1 rfl (Y (cut (I (aU h λr1 a2 h=>ir [] rfl dc rfl rfl rfl Mr (M7 a2) aC (λv1=>io 0 rfl dc rfl rfl om (O 1 rfl (Y (ck (fP Int (Bd g e j1 r1) (λa b=>a b=some r) (λb=>[]) (λb=>[(0,.int .i32 g),(1,.int .i32 e),(10,v1),(11,zI (r1.length:Int)),(12,zI b)]) (λb=>[sC v1 r1]) 0 h 1 (λa9 C h=>I (E rfl dL (Y (bV (bu rfl h (λh=>?_) (λh=>?_))))))))))))))))
  ·refine bw (cu (cJ Unit h 0 rfl (λj2 b=>j2=some r) (λb=>[]) (λb=>[(0,.int .i32 g),(1,.int .i32 e),(10,v1),(11,zI (r1.length:Int)),(12,zI C)]) (λb=>[sC v1 r1]) (λj2 h cut=>?_) ?_))
   ·refine cut (ck (I (aU h λq1 ag h=>eN 0 ag om DN rfl dc rfl rfl rfl rfl (oM 0 ((C:Int).toNat) 0 q1 (rJ q1) LZ Hm rfl dc rfl rfl (ei ag) rfl rfl rfl (fZ L0 rfl dc (λb1=>fI 1 (rJ q1) (rJ q1) DN rfl rfl rfl rfl rfl (show _<=_ by simp) rfl rfl (Y (bV (bi h λa7 h=>bi h λa6 h=>xQ 2 (let w:(Value×Value)->List (Nat×Nat×Value):=λb=>[(0,16,.pointer (some ⟨b1,1,none⟩)),(1,17,.string q1.e1),(2,18,b.1),(3,19,.pointer (some ⟨b1,2,none⟩)),(4,20,.string q1.e2),(5,21,b.2),(6,7,b.1)];let aw:(Nat->Prop)->(Value×Value)->List bG:=λD b=>[sC v1 r1,cells b1 (rJ q1) 166,eD D cT [(2,fr b.1 (fB q1.e1))],eD D cT [(5,fr b.2 (fB q1.e2))]];?_))))))))));have v:vI [2,5] aw:=λi h D b=>cz rfl (cz rfl (cz (th rfl h) (cz (th rfl h) rfl)));refine xP (Value×Value) 7 ((.slice none 0 0:Value),(.slice none 0 0:Value)) w aw mixed kr kr dc (λ_=>rfl) (mX (cz qE (cz qE rfl))) (np v rfl (λ_=>rfl) (λ_=>rfl) (λD ⟨v2,l⟩ n d c u i=>⟨_,(mX (cz (eH (λt=>n (c 1 _ rfl (c 2 _ rfl t 1 dc) 0 dc)) gp) rfl)),qD dc jO gV rfl dc (eG (by rfl) rfl) rfl (show _=1 from rfl) (bf 0 u i)⟩) (np v rfl (λ_=>rfl) (λ_=>rfl) (λD ⟨v2,l⟩ n d c u i=>⟨_,(mX (cz (eH (λt=>n (c 2 _ rfl t 1 dc)) gp) rfl)),bW 1 eJ rfl dc (aX 0 u d) rfl rfl (bf 1 u i)⟩) (nl ?_ (np v rfl (λ_=>rfl) (λ_=>rfl) (λD ⟨v2,l⟩ n d c u i=>⟨_,(uG (cz (eH (λt=>n (c 4 _ rfl (c 5 _ rfl t 4 dc) 3 dc)) gp) rfl)),qD dc jO gV rfl dc (eG (by rfl) rfl) rfl (show _=2 from rfl) (bf 3 u i)⟩) (np v rfl (λ_=>rfl) (λ_=>rfl) (λD ⟨v2,l⟩ n d c u i=>⟨_,(uG (cz (eH (λt=>n (c 5 _ rfl t 4 dc)) gp) rfl)),bW 1 eJ rfl dc (aX 3 u d) rfl rfl (bf 4 u i)⟩) (nl ?_ (rI v (λ_=>rfl) (λ_=>rfl) 1 6 (λ_=>rfl) rfl qy))))))) ?_
    ·intro D b H hd ao;obtain⟨a1,l⟩:=b;exact lQ (mX (cz (eH H gp) rfl)) (zip a7 rfl dc (jY 1 rfl rfl (hd 1 dc)) am bH bl (λv2=>rv 2 rfl rfl (nB (a1,l) (v2,l) 2 (by rfl) (by rfl) rfl (HB (eT (λt=>absurd t H) (D8 (eT (λt=>absurd (ao 6 _ rfl t 2 dc) H) rfl)))) (mX (cz (jv (kv rfl) rfl) (cz (jA (by rfl)) rfl))))))
    ·intro D b H hd ao;obtain⟨v2,a0⟩:=b;exact lQ (uG (cz (eH H gp) rfl)) (zip a6 rfl dc (jY 4 rfl rfl (hd 4 dc)) am bH bl (λl=>rv 3 rfl rfl (nB (v2,a0) (v2,l) 5 (by rfl) (by rfl) rfl (HC (eT (λt=>absurd t H) (eT (λ_=>rfl) rfl))) (mX (cz (jA (by rfl)) (cz (jv (kv rfl) rfl) rfl))))))
    intro D b hall;obtain⟨v2,l⟩:=b;refine lQ (mX (cz (jv (hall 2 dc) rfl) (cz (jv (hall 5 dc) rfl) rfl))) (O 1 rfl (cw (O 1 rfl (io 2 rfl dc rfl rfl bH (O 1 rfl (Y (ck (n9 Int (yG g e j2 q1) (λa b=>a b=some r) (λb=>[]) (λb=>[(0,.int .i32 g),(1,.int .i32 e),(6,zP b1),(7,v2),(8,l),(10,v1),(11,zI (r1.length:Int)),(12,zI C),(23,zI ((fB q1.e1).length:Int)),(24,zI b)]) (λb=>[cells b1 (rJ q1) 166,fr v2 (fB q1.e1),fr l (fB q1.e2),sC v1 r1]) 0 h rfl (gl rfl) (ct [1,2,3,0] kr rfl) (λa8 J h=>I (E rfl dL (Y (bV (bu rfl h (λh=>?_) (λh=>?_))))))))))))))
    ·refine bw (cu (cJ Unit h 0 rfl (λj3 b=>j3=some r) (λb=>[]) (λb=>[(0,.int .i32 g),(1,.int .i32 e),(6,zP b1),(7,v2),(8,l),(10,v1),(11,zI (r1.length:Int)),(12,zI C),(23,zI ((fB q1.e1).length:Int)),(24,zI J)]) (λb=>[cells b1 (rJ q1) 166,fr v2 (fB q1.e1),fr l (fB q1.e2),sC v1 r1]) (λj3 h cut=>?_) ?_))
     ·refine cut (ck (I (O 2 rfl (cw (O 2 rfl (aU h λq2 Z h=>eN 1 Z bH mN rfl dc rfl rfl rfl rfl (fl 1 ((J:Int).toNat) 0 q2 fU iq rfl dc rfl rfl (ei Z) rfl dc rfl (O 1 rfl (E rfl eZ (O 1 rfl (du 33 rfl h (λh=>?_) (λh=>?_))))))))))))
      ·refine qD dc jO gV rfl dc rfl rfl (show _=0 from rfl) (bW 0 eJ rfl dc rfl rfl rfl (bi h λa5 h=>zip a5 rfl dc rfl am bH bl (λv4=>aU h λq3 W h=>eN 4 W bH mN rfl dc rfl rfl rfl rfl (fl 4 ((0:Int).toNat) 0 q3 fU iq rfl dc rfl rfl (ei W) rfl dc rfl (O 1 rfl (E rfl eZ (O 1 rfl (Y (bu rfl h (λh=>?_) (λh=>?_))))))))))
       ·refine I (O 2 rfl (aU h λq4 M h=>eN 2 M bH mN rfl dc rfl rfl rfl rfl (fl 2 ((J:Int).toNat) 0 q4 fU iq rfl dc rfl rfl (ei M) rfl dc rfl (O 1 rfl (Y (bO (cK (bZ (bZ (cK (cK (bZ (bZ (cK (bZ ?_)))))))))))))));cases h;exact dt 4 results123
       exact bw (cg (mD () h 4))
      exact O 8 rfl (Y (eU rfl (bw (cg (mD () h 4)))))
     exact λ_ h=>bX (bi h λa4 h=>E rfl (c8 (J+1) (ac _ a4)) (O 1 rfl (bC (mD (J+1) h 4))))
    exact dG (bS (bS (dH (cg (iW () h rfl (gl rfl) (ct [3] kr rfl))))))
   exact λ_ h=>bX (bi h λa3 h=>E rfl (c8 (C+1) (ac _ a3)) (O 1 rfl (bC (mD (C+1) h 1))))
  exact dG (bS (bS (dH (iW () h rfl (ss) aC))))
 refine λ_ h=>I (O 1 rfl (Y (bO ?_)));cases h;exact dt 4 results123
def Bg (a:Int->Option (List Int)) (r1:Int) (i:Option (List Int)) (q1:iT) (e:Int->Option (List Int)) (d:Int):Option (List Int) := G (decide ((d:Int)<((fB q1.e2).length:Int))) (T (cj (fB q1.e2) d) λ(q2:Int)=>G ((q2:Int)==r1) (T (cj (fB q1.e1) d) λ(h:Int)=>T (a h) λ(r3:(List Int))=>grd (q1.e0.size<=1073741824) <|T (cj (fB q1.e0) 0) λ(g:Int)=>grd (r3.length+1<=2147483648) <|some (r3++[g])) (grd (I64 (d+1)) <|e (d+1))) (i)
def Bh (a:Int->Option (List Int)) (r1:Int) (h:Option (List Int)) (r2:(List iT)) (e:Int->Option (List Int)) (d:Int):Option (List Int) := G (decide ((d:Int)<(r2.length:Int))) (cm (λ(g:Option (List Int))=>T (cj r2 d) λ(q1:iT)=>grd (q1.e1.size<=1073741824) <|grd (q1.e2.size<=1073741824) <|bP (λ_=>none) (Bg a r1 g q1) bN 0) (grd (I64 (d+1)) <|e (d+1))) (h)
def yH (a:Int->Option (List Int)) (r1:Int):Option (List Int) := cm (λ(d:Option (List Int))=>T (yF) λ(r2:(List iT))=>bP (λ_=>none) (Bh a r1 d r2) bN 0) (some ([r1]:List Int))
def yI (r1:Int):Option (List Int):=bP (λ_=>none) yH bN r1
theorem VE (n:Nat):∀ {r1:Int} {r:(List Int)} (_:bP (λ_=>none) yH n r1=some r),Fn prog 76 [.int .i32 r1] [] (λv0:Value=>v0) (λv0=>[fr v0 r]):=by
 induction n with
 |zero=>intro r1 r h;exact vt h
 |succ n H=>
 intro r1 r h;rw[jz] at h;revert H h;generalize bP (λ_=>none) yH n=rcall;refine λH h=>Fn.intro func76 rfl ntmps76 (by simp) (λw0 K=>cJ Unit h 1 rfl (λj1 b=>j1=some r) (λb=>[]) (λb=>[(0,.int .i32 r1)]) (λb=>[]) (λj1 h cut=>?_) ?_)
 ·refine I (O 1 rfl (Y (cut (I (aU h λr2 a4 h=>ir [] rfl dc rfl rfl rfl Mr (M7 a4) aC (λv1=>io 0 rfl dc rfl rfl om (O 1 rfl (Y (ck (fP Int (Bh rcall r1 j1 r2) (λa b=>a b=some r) (λb=>[]) (λb=>[(0,.int .i32 r1),(8,v1),(9,zI (r2.length:Int)),(10,zI b)]) (λb=>[sC v1 r2]) 0 h 1 (λbs x3 h=>I (E rfl dL (Y (bV (bu rfl h (λh=>?_) (λh=>?_))))))))))))))))
  ·refine bw (cu (cJ Unit h 0 rfl (λj2 b=>j2=some r) (λb=>[]) (λb=>[(0,.int .i32 r1),(8,v1),(9,zI (r2.length:Int)),(10,zI x3)]) (λb=>[sC v1 r2]) (λj2 h cut=>?_) ?_))
   ·refine cut (ck (I (aU h λq1 a0 h=>eN 0 a0 om DN rfl dc rfl rfl rfl rfl (oM 0 ((x3:Int).toNat) 0 q1 (rJ q1) LZ Hm rfl dc rfl rfl (ei a0) rfl rfl rfl (fZ L0 rfl dc (λb1=>fI 1 (rJ q1) (rJ q1) DN rfl rfl rfl rfl rfl (show _<=_ by simp) rfl rfl (Y (bV (bi h λbb h=>bi h λa9 h=>xQ 2 (let Z:(Value×Value)->List (Nat×Nat×Value):=λb=>[(0,14,.pointer (some ⟨b1,1,none⟩)),(1,15,.string q1.e1),(2,16,b.1),(3,17,.pointer (some ⟨b1,2,none⟩)),(4,18,.string q1.e2),(5,19,b.2),(6,5,b.1)];let a1:(Nat->Prop)->(Value×Value)->List bG:=λD b=>[sC v1 r2,cells b1 (rJ q1) 166,eD D cT [(2,fr b.1 (fB q1.e1))],eD D cT [(5,fr b.2 (fB q1.e2))]];?_))))))))));have C:vI [2,5] a1:=λi h D b=>cz rfl (cz rfl (cz (th rfl h) (cz (th rfl h) rfl)));refine xP (Value×Value) 7 ((.slice none 0 0:Value),(.slice none 0 0:Value)) Z a1 mixed kr kr dc (λ_=>rfl) (mX (cz qE (cz qE rfl))) (np C rfl (λ_=>rfl) (λ_=>rfl) (λD ⟨v2,w⟩ n d c u i=>⟨_,(mX (cz (eH (λg=>n (c 1 _ rfl (c 2 _ rfl g 1 dc) 0 dc)) gp) rfl)),qD dc jO gV rfl dc (eG (by rfl) rfl) rfl (show _=1 from rfl) (bf 0 u i)⟩) (np C rfl (λ_=>rfl) (λ_=>rfl) (λD ⟨v2,w⟩ n d c u i=>⟨_,(mX (cz (eH (λg=>n (c 2 _ rfl g 1 dc)) gp) rfl)),bW 1 eJ rfl dc (aX 0 u d) rfl rfl (bf 1 u i)⟩) (nl ?_ (np C rfl (λ_=>rfl) (λ_=>rfl) (λD ⟨v2,w⟩ n d c u i=>⟨_,(uG (cz (eH (λg=>n (c 4 _ rfl (c 5 _ rfl g 4 dc) 3 dc)) gp) rfl)),qD dc jO gV rfl dc (eG (by rfl) rfl) rfl (show _=2 from rfl) (bf 3 u i)⟩) (np C rfl (λ_=>rfl) (λ_=>rfl) (λD ⟨v2,w⟩ n d c u i=>⟨_,(uG (cz (eH (λg=>n (c 5 _ rfl g 4 dc)) gp) rfl)),bW 1 eJ rfl dc (aX 3 u d) rfl rfl (bf 4 u i)⟩) (nl ?_ (rI C (λ_=>rfl) (λ_=>rfl) 1 6 (λ_=>rfl) rfl qy))))))) ?_
    ·intro D b l hd e;obtain⟨M,w⟩:=b;exact lQ (mX (cz (eH l gp) rfl)) (zip bb rfl dc (jY 1 rfl rfl (hd 1 dc)) am bH bl (λv2=>rv 2 rfl rfl (nB (M,w) (v2,w) 2 (by rfl) (by rfl) rfl (HB (eT (λg=>absurd g l) (D8 (eT (λg=>absurd (e 6 _ rfl g 2 dc) l) rfl)))) (mX (cz (jv (kv rfl) rfl) (cz (jA (by rfl)) rfl))))))
    ·intro D b l hd e;obtain⟨v2,J⟩:=b;exact lQ (uG (cz (eH l gp) rfl)) (zip a9 rfl dc (jY 4 rfl rfl (hd 4 dc)) am bH bl (λw=>rv 3 rfl rfl (nB (v2,J) (v2,w) 5 (by rfl) (by rfl) rfl (HC (eT (λg=>absurd g l) (eT (λ_=>rfl) rfl))) (mX (cz (jA (by rfl)) (cz (jv (kv rfl) rfl) rfl))))))
    intro D b hall;obtain⟨v2,w⟩:=b;refine lQ (mX (cz (jv (hall 2 dc) rfl) (cz (jv (hall 5 dc) rfl) rfl))) (O 1 rfl (cw (O 1 rfl (io 3 rfl dc rfl rfl bH (O 1 rfl (Y (ck (n9 Int (Bg rcall r1 j2 q1) (λa b=>a b=some r) (λb=>[]) (λb=>[(0,.int .i32 r1),(4,zP b1),(5,v2),(6,w),(8,v1),(9,zI (r2.length:Int)),(10,zI x3),(21,zI ((fB q1.e2).length:Int)),(22,zI b)]) (λb=>[cells b1 (rJ q1) 166,fr v2 (fB q1.e1),fr w (fB q1.e2),sC v1 r2]) 0 h rfl (gl rfl) (ct [1,2,3,0] kr rfl) (λbk x6 h=>I (E rfl dL (Y (bV (bu rfl h (λh=>?_) (λh=>?_))))))))))))))
    ·refine bw (cu (bV (ck (I (O 2 rfl (cw (O 2 rfl (aU h λq2 aw h=>eN 2 aw bH mN rfl dc rfl rfl rfl rfl (fl 2 ((x6:Int).toNat) 0 q2 fU iq rfl dc rfl rfl (ei aw) rfl dc rfl (O 1 rfl (E rfl eZ (Y (bu rfl h (λh=>?_) (λh=>?_))))))))))))))
     ·refine bV (aU h λq3 ao h=>aU h λr3 a3 h=>bi h λa8 h=>aU h λq4 ag h=>bi h λa7 h=>xQ 3 (let W:(Value×Value×Nat)->List (Nat×Nat×Value):=λb=>[(0,31,v2),(1,32,zI x6),(2,33,.pointer (some ⟨eS v2,(x6:Int).toNat*1,none⟩)),(3,34,.int .i32 q3),(4,35,b.1),(5,36,zP b1),(6,37,.string q1.e0),(7,38,b.2.1),(8,39,.pointer (some ⟨eS b.2.1,(0:Int).toNat*1,none⟩)),(9,40,.int .i32 q4),(10,41,.slice (some ⟨b.2.2,0,none⟩) 1 1)];let bh:(Nat->Prop)->(Value×Value×Nat)->List bG:=λD b=>[cells b1 (rJ q1) 166,fr v2 (fB q1.e1),fr w (fB q1.e2),sC v1 r2,eD D cT [(4,fr b.1 r3)],eD D cT [(7,fr b.2.1 (fB q1.e0))],eD D cT [(10,cells b.2.2 [.int .i32 q4] 21)]];(xP (Value×Value×Nat) 11 ((.slice none 0 0:Value),(.slice none 0 0:Value),(0:Nat)) W bh mixed kr kr dc (λ_=>rfl) (pJ (cz qE (cz qE (cz qE rfl)))) (nl ?_ (nl ?_ (nl ?_ (nl ?_ (nl ?_ (nl ?_ (nl ?_ (nl ?_ (nl ?_ (nl ?_ (nl ?_ qy))))))))))) ?_)))
      ·intro D b l hd e;obtain⟨t,s,v⟩:=b;exact lQ (pJ (cz (eH (λg=>l (e 2 _ rfl (e 3 _ rfl (e 4 _ rfl g 3 dc) 2 dc) 0 dc)) gp) (mX rfl))) (sv rfl dc (eG (by rfl) rfl) (nB (t,s,v) (t,s,v) 0 (by rfl) (by rfl) rfl (vH rfl) (pJ (cz ((jA (by rfl)).trans (eH (λg=>l (e 2 _ rfl (e 3 _ rfl (e 4 _ rfl g 3 dc) 2 dc) 0 dc)) gp)) (cz (jA (by rfl)) (cz (jA (by rfl)) rfl))))))
      ·intro D b l hd e;obtain⟨t,s,v⟩:=b;exact lQ (pJ (cz (eH (λg=>l (e 2 _ rfl (e 3 _ rfl (e 4 _ rfl g 3 dc) 2 dc) 1 dc)) gp) (mX rfl))) (sv rfl dc (eG (by rfl) rfl) (nB (t,s,v) (t,s,v) 1 (by rfl) (by rfl) rfl (vH rfl) (pJ (cz ((jA (by rfl)).trans (eH (λg=>l (e 2 _ rfl (e 3 _ rfl (e 4 _ rfl g 3 dc) 2 dc) 1 dc)) gp)) (cz (jA (by rfl)) (cz (jA (by rfl)) rfl))))))
      ·intro D b l hd e;obtain⟨t,s,v⟩:=b;exact lQ (pJ (cz (eH (λg=>l (e 3 _ rfl (e 4 _ rfl g 3 dc) 2 dc)) gp) (mX rfl))) (eN 1 ao bH mN rfl dc (jY 0 rfl rfl (hd 0 dc)) (jY 1 rfl rfl (hd 1 dc)) rfl rfl (nB (t,s,v) (t,s,v) 2 (by rfl) (by rfl) rfl (vH rfl) (pJ (cz ((jA (by rfl)).trans (eH (λg=>l (e 3 _ rfl (e 4 _ rfl g 3 dc) 2 dc)) gp)) (cz (jA (by rfl)) (cz (jA (by rfl)) rfl))))))
      ·intro D b l hd e;obtain⟨t,s,v⟩:=b;exact lQ (pJ (cz (eH (λg=>l (e 4 _ rfl g 3 dc)) gp) (mX rfl))) (fl 1 ((x6:Int).toNat) 0 q3 fU iq rfl dc (jY 2 rfl rfl (hd 2 dc)) rfl (ei ao) rfl dc rfl (nB (t,s,v) (t,s,v) 3 (by rfl) (by rfl) rfl (vH rfl) (pJ (cz ((jA (by rfl)).trans (eH (λg=>l (e 4 _ rfl g 3 dc)) gp)) (cz (jA (by rfl)) (cz (jA (by rfl)) rfl))))))
      ·intro D b l hd e;obtain⟨M,s,v⟩:=b;exact lQ (pJ (cz (eH l gp) (mX rfl))) (ir [.int .i32 q3] rfl dc rfl (dN (jY 3 rfl rfl (hd 3 dc)) fR) rfl Ha (H a3) aC (λt=>kL [cells b1 (rJ q1) 166,fr v2 (fB q1.e1),fr w (fB q1.e2),sC v1 r2,cT,eD D cT [(7,fr s (fB q1.e0))],eD D cT [(10,cells v [.int .i32 q4] 21)],fr t r3] (cO 8) (rv 4 rfl rfl (nB (M,s,v) (t,s,v) 4 (by rfl) (by rfl) rfl (U7 (eT (λg=>absurd g l) (HD rfl))) (pJ (cz (jv (kv rfl) rfl) (cz (jA (by rfl)) (cz (jA (by rfl)) rfl))))))))
      ·intro D b l hd e;obtain⟨t,s,v⟩:=b;exact lQ (yx (cz (eH (λg=>l (e 6 _ rfl (e 7 _ rfl g 6 dc) 5 dc)) gp) (cz (eH (λg=>l (e 6 _ rfl (e 7 _ rfl (e 8 _ rfl (e 9 _ rfl (e 10 _ rfl g 9 dc) 8 dc) 7 dc) 6 dc) 5 dc)) gp) rfl))) (qD dc jO gV rfl dc (eG (by rfl) rfl) rfl (show _=0 from rfl) (nB (t,s,v) (t,s,v) 5 (by rfl) (by rfl) rfl (vH rfl) (pJ (cz (jA (by rfl)) (cz ((jA (by rfl)).trans (eH (λg=>l (e 6 _ rfl (e 7 _ rfl g 6 dc) 5 dc)) gp)) (cz ((jA (by rfl)).trans (eH (λg=>l (e 6 _ rfl (e 7 _ rfl (e 8 _ rfl (e 9 _ rfl (e 10 _ rfl g 9 dc) 8 dc) 7 dc) 6 dc) 5 dc)) gp)) rfl))))))
      ·intro D b l hd e;obtain⟨t,s,v⟩:=b;exact lQ (yx (cz (eH (λg=>l (e 7 _ rfl g 6 dc)) gp) (cz (eH (λg=>l (e 7 _ rfl (e 8 _ rfl (e 9 _ rfl (e 10 _ rfl g 9 dc) 8 dc) 7 dc) 6 dc)) gp) rfl))) (bW 0 eJ rfl dc (jY 5 rfl rfl (hd 5 dc)) rfl rfl (nB (t,s,v) (t,s,v) 6 (by rfl) (by rfl) rfl (vH rfl) (pJ (cz (jA (by rfl)) (cz ((jA (by rfl)).trans (eH (λg=>l (e 7 _ rfl g 6 dc)) gp)) (cz ((jA (by rfl)).trans (eH (λg=>l (e 7 _ rfl (e 8 _ rfl (e 9 _ rfl (e 10 _ rfl g 9 dc) 8 dc) 7 dc) 6 dc)) gp)) rfl))))))
      ·intro D b l hd e;obtain⟨t,J,v⟩:=b;exact lQ (yx (cz (eH l gp) (cz (eH (λg=>l (e 8 _ rfl (e 9 _ rfl (e 10 _ rfl g 9 dc) 8 dc) 7 dc)) gp) rfl))) (zip a8 rfl dc (jY 6 rfl rfl (hd 6 dc)) am bH bl (λs=>rv 5 rfl rfl (nB (t,J,v) (t,s,v) 7 (by rfl) (by rfl) rfl (HE (eT (λg=>absurd g l) (eT (λg=>absurd (e 8 _ rfl g 7 dc) l) (HB rfl)))) (pJ (cz (jA (by rfl)) (cz (jv (kv rfl) rfl) (cz ((jA (by rfl)).trans (eH (λg=>l (e 8 _ rfl (e 9 _ rfl (e 10 _ rfl g 9 dc) 8 dc) 7 dc)) gp)) rfl)))))))
      ·intro D b l hd e;obtain⟨t,s,v⟩:=b;exact lQ (yx (cz (jv (hd 7 dc) rfl) (cz (eH (λg=>l (e 9 _ rfl (e 10 _ rfl g 9 dc) 8 dc)) gp) rfl))) (eN 5 ag bH mN rfl dc (jY 7 rfl rfl (hd 7 dc)) rfl rfl rfl (nB (t,s,v) (t,s,v) 8 (by rfl) (by rfl) rfl (vH rfl) (pJ (cz (jA (by rfl)) (cz ((jA (by rfl)).trans (jv (hd 7 dc) rfl)) (cz ((jA (by rfl)).trans (eH (λg=>l (e 9 _ rfl (e 10 _ rfl g 9 dc) 8 dc)) gp)) rfl))))))
      ·intro D b l hd e;obtain⟨t,s,v⟩:=b;exact lQ (yx (cz (jv (e 8 _ rfl (hd 8 dc) 7 dc) rfl) (cz (eH (λg=>l (e 10 _ rfl g 9 dc)) gp) rfl))) (fl 5 ((0:Int).toNat) 0 q4 fU iq rfl dc (jY 8 rfl rfl (hd 8 dc)) rfl (ei ag) rfl dc rfl (nB (t,s,v) (t,s,v) 9 (by rfl) (by rfl) rfl (vH rfl) (pJ (cz (jA (by rfl)) (cz ((jA (by rfl)).trans (jv (e 8 _ rfl (hd 8 dc) 7 dc) rfl)) (cz ((jA (by rfl)).trans (eH (λg=>l (e 10 _ rfl g 9 dc)) gp)) rfl))))))
      ·intro D b l hd e;obtain⟨t,s,a2⟩:=b;exact lQ (yx (cz (jv (e 8 _ rfl (e 9 _ rfl (hd 9 dc) 8 dc) 7 dc) rfl) (cz (eH l gp) rfl))) (hQ [(0,.tmp 40)] 21 [.int .i32 q4] rfl dc (gW (jY 9 rfl rfl (hd 9 dc)) sM) (λ_=>by kernel_rfl) (λv=>rv 6 rfl rfl (nB (t,s,a2) (t,s,v) 10 (by rfl) (by rfl) rfl (U9 (eT (λg=>absurd g l) rfl)) (pJ (cz (jA (by rfl)) (cz ((jA (by rfl)).trans (jv (e 8 _ rfl (e 9 _ rfl (hd 9 dc) 8 dc) 7 dc) rfl)) (cz (jv (kv rfl) rfl) rfl)))))))
      intro D b hall;obtain⟨t,s,v⟩:=b;refine lQ (pJ (cz (jv (hall 4 dc) rfl) (cz (jv (hall 7 dc) rfl) (cz (jv (hall 10 dc) rfl) rfl)))) (jJ 4 6 [q4] bH vB iq vu rfl dc rfl rfl rfl rfl rfl rfl a7 (λv6=>O 1 rfl (Y (bO (cK (bZ (bZ (cK (cK (bZ (bZ (cK (bZ ?_)))))))))))));cases h;exact eW [.tmp 2] v6 (.inl rfl) results76 (.cons (.tmp rfl) .nil) rfl (ct [4] kr rfl)
     exact bw (cg (cu (bX (bi h λa6 h=>E rfl (c8 (x6+1) (ac _ a6)) (O 1 rfl (bC (mD (x6+1) h 4)))))))
    exact dG (bS (bS (dH (cg (iW () h rfl (gl rfl) (ct [3] kr rfl))))))
   exact λ_ h=>bX (bi h λa5 h=>E rfl (c8 (x3+1) (ac _ a5)) (O 1 rfl (bC (mD (x3+1) h 1))))
  exact dG (bS (bS (dH (mD () h 0))))
 refine λ_ h=>I (O 1 rfl (hQ [(0,.tmp 45)] 21 [.int .i32 r1] rfl dc rfl (λ_=>by kernel_rfl) (λb3=>O 1 rfl (pd 0 ([r1]:List Int) rfl iq rfl (show 1<=maxLen by decide) (Y (bO ?_))))));cases h;exact eW [.tmp 2] (.slice (some ⟨b3,0,none⟩) 1 1) (.inl rfl) results76 (.cons (.tmp rfl) .nil) rfl (cO 1)
theorem M8 {r1:Int} {r:(List Int)} (h:yI r1=some r):Fn prog 76 [.int .i32 r1] [] (λv0:Value=>v0) (λv0=>[fr v0 r]):=by
 unfold yI at h;exact VE bN  h
def Ej (r1:Int) (g:Option Bool) (d:Int->Option Bool) (a:Int):Option Bool := G (decide ((a:Int)<8)) (cm (λ(e:Option Bool)=>T (cj ([(⟨790,793⟩:lm),(⟨796,800⟩:lm),(⟨803,819⟩:lm),(⟨825,828⟩:lm),(⟨837,841⟩:lm),(⟨845,846⟩:lm),(⟨851,854⟩:lm),(⟨857,858⟩:lm)]:List lm) a) λ(q1:lm)=>G (decide ((q1.e0:Int)<=r1)) (G (decide ((r1:Int)<=q1.e1)) (some true) (e)) (e)) (grd (I64 (a+1)) <|d (a+1))) (g)
def Bi (r1:Int):Option Bool := cm (λ(a:Option Bool)=>bP (λ_=>none) (Ej r1 a) bN 0) (some false)
theorem M9 {r1:Int} {r:Bool} (h:Bi r1=some r):eO prog 122 [.int .i32 r1] (.bool r):=by
 refine eO.intro func122 rfl ntmps122 (by simp) (λw0 K=>cJ Unit h 1 rfl (λg b=>g=some r) (λb=>[]) (λb=>[]) (λb=>[]) (λg h cut=>?_) ?_)
 ·refine I (O 1 rfl (Y (cut (I (fH (.agg #[.int .i32 790,.int .i32 793]) [(0,.const (.int .i32 790)),(1,.const (.int .i32 793))] rfl dc rfl (λ_=>by kernel_rfl) (fH (.agg #[.int .i32 796,.int .i32 800]) [(0,.const (.int .i32 796)),(1,.const (.int .i32 800))] rfl dc rfl (λ_=>by kernel_rfl) (fH (.agg #[.int .i32 803,.int .i32 819]) [(0,.const (.int .i32 803)),(1,.const (.int .i32 819))] rfl dc rfl (λ_=>by kernel_rfl) (fH (.agg #[.int .i32 825,.int .i32 828]) [(0,.const (.int .i32 825)),(1,.const (.int .i32 828))] rfl dc rfl (λ_=>by kernel_rfl) (fH (.agg #[.int .i32 837,.int .i32 841]) [(0,.const (.int .i32 837)),(1,.const (.int .i32 841))] rfl dc rfl (λ_=>by kernel_rfl) (fH (.agg #[.int .i32 845,.int .i32 846]) [(0,.const (.int .i32 845)),(1,.const (.int .i32 846))] rfl dc rfl (λ_=>by kernel_rfl) (fH (.agg #[.int .i32 851,.int .i32 854]) [(0,.const (.int .i32 851)),(1,.const (.int .i32 854))] rfl dc rfl (λ_=>by kernel_rfl) (fH (.agg #[.int .i32 857,.int .i32 858]) [(0,.const (.int .i32 857)),(1,.const (.int .i32 858))] rfl dc rfl (λ_=>by kernel_rfl) (fH (.agg #[.int .i32 790,.int .i32 793,.int .i32 796,.int .i32 800,.int .i32 803,.int .i32 819,.int .i32 825,.int .i32 828,.int .i32 837,.int .i32 841,.int .i32 845,.int .i32 846,.int .i32 851,.int .i32 854,.int .i32 857,.int .i32 858]) [(0,.tmp 5),(1,.tmp 6),(2,.tmp 7),(3,.tmp 8),(4,.tmp 9),(5,.tmp 10),(6,.tmp 11),(7,.tmp 12)] rfl dc rfl (λ_=>by kernel_rfl) (O 1 rfl (Y (ck (fP Int (Ej r1 g) (λa b=>a b=some r) (λb=>[]) (λb=>[(0,.int .i32 r1),(13,.agg #[.int .i32 790,.int .i32 793,.int .i32 796,.int .i32 800,.int .i32 803,.int .i32 819,.int .i32 825,.int .i32 828,.int .i32 837,.int .i32 841,.int .i32 845,.int .i32 846,.int .i32 851,.int .i32 854,.int .i32 857,.int .i32 858]),(14,zI b)]) (λb=>[]) 0 h 0 (λl e h=>I (E rfl dL (Y (bV (bu rfl h (λh=>?_) (λh=>?_)))))))))))))))))))))))
  ·refine bw (cu (cJ Unit h 0 rfl (λj b=>j=some r) (λb=>[]) (λb=>[(0,.int .i32 r1),(13,.agg #[.int .i32 790,.int .i32 793,.int .i32 796,.int .i32 800,.int .i32 803,.int .i32 819,.int .i32 825,.int .i32 828,.int .i32 837,.int .i32 841,.int .i32 845,.int .i32 846,.int .i32 851,.int .i32 854,.int .i32 857,.int .i32 858]),(14,zI e)]) (λb=>[]) (λj h cut=>?_) ?_))
   ·refine cut (ck (I (aU h λq1 d h=>oI (v:=.agg #[.int .i32 q1.e0,.int .i32 q1.e1]) rfl dc rfl rfl (RN Hk ([(⟨790,793⟩:lm),(⟨796,800⟩:lm),(⟨803,819⟩:lm),(⟨825,828⟩:lm),(⟨837,841⟩:lm),(⟨845,846⟩:lm),(⟨851,854⟩:lm),(⟨857,858⟩:lm)]:List lm) q1 underlying181 LU rfl MD d (λ_=>RP Hk SE MD (ei d))) (fZ SF rfl dc (λb1=>fI 0 [.int .i32 q1.e0,.int .i32 q1.e1] [.int .i32 q1.e0,.int .i32 q1.e1] LU rfl rfl rfl rfl rfl (show _<=_ by simp) rfl rfl (cw (O 1 rfl (qD dc underlying122 mN rfl dc rfl rfl (show _=0 from rfl) (bW 0 fU rfl dc rfl rfl rfl (E rfl gw (O 1 rfl (du 21 rfl h (λh=>?_) (λh=>?_)))))))))))))
    ·refine O 1 rfl (qD dc underlying122 mN rfl dc rfl rfl (show _=1 from rfl) (bW 0 fU rfl dc rfl rfl rfl (E rfl jd (O 1 rfl (Y (bu rfl h (λh=>?_) (λh=>?_)))))))
     ·refine I (O 1 rfl (Y (bO (cK (bZ (bZ (cK (bZ ?_))))))));cases h;exact dt 2 results122
     exact bw (cg (mD () h 0))
    exact O 5 rfl (Y (eU rfl (bw (cg (mD () h 0)))))
   exact λ_ h=>bX (bi h λi h=>E rfl (c8 (e+1) (ac _ i)) (O 1 rfl (bC (mD (e+1) h 0))))
  exact dG (bS (bS (dH (iW () h rfl (ss) aC))))
 refine λ_ h=>I (O 1 rfl (Y (bO ?_)));cases h;exact dt 2 results122
def uJ (r1:Int):Option Bool := grd (gJ r1) <|G (great r1) (some true) (grd (gJ r1) <|some (qJ r1))
theorem Bj {r1:Int} {r:Bool} (h:uJ r1=some r):eO prog 88 [.int .i32 r1] (.bool r):=by
 refine eO.intro func88 rfl ntmps88 (by simp) (λw0 K=>I (O 1 rfl (cw (O 1 rfl (bi h λd h=>dF (.bool (great r1)) [.int .i32 r1] rfl dc rfl rfl rfl L9 (pc λw=>AK r1 w d.1 d.2) (O 1 rfl (du 5 rfl h (λh=>?_) (λh=>?_))))))))
 ·refine O 4 rfl (Y (bO ?_));cases h;exact dt 2 results88
 refine O 1 rfl (bi h λa h=>dF (.bool (qJ r1)) [.int .i32 r1] rfl dc rfl rfl rfl Mf (pc λw=>Hu r1 w a.1 a.2) (O 2 rfl (Y (bO ?_))));cases h;exact dt 2 results88
def tR (r1:Int):Option Bool := G (decide ((768:Int)<=r1)) (some (decide ((r1:Int)<=879))) (some false)
theorem Bk {r1:Int} {r:Bool} (h:tR r1=some r):eO prog 44 [.int .i32 r1] (.bool r):=by
 refine eO.intro func44 rfl ntmps44 (by simp) (λw0 K=>I (O 1 rfl (cw (O 1 rfl (E rfl gw (O 1 rfl (du 5 rfl h (λh=>?_) (λh=>?_))))))))
 ·refine O 1 rfl (E rfl jd (O 2 rfl (Y (bO ?_))));cases h;exact dt 2 results44
 refine O 4 rfl (Y (bO ?_));cases h;exact dt 2 results44
def vN (x1:cd):Option Bool := G (decide ((0:Int)<=x1.Rune)) (T (uJ x1.Rune) λ(r1:Bool)=>some r1) (some false)
theorem Bl (x1:cd) {r:Bool} (h:vN x1=some r):eO prog 120 [.agg (ig x1).toArray] (.bool r):=by
 refine eO.intro func120 rfl ntmps120 (by simp) (λw0 K=>I (lE rfl dc rfl (λb1=>O 1 rfl (cw (ci kx rfl dc rfl (show _=0 from rfl) (bW 0 fU rfl dc rfl rfl rfl (E rfl gw (O 1 rfl (du 6 rfl h (λh=>?_) (λh=>?_))))))))))
 ·refine ci kx rfl dc rfl (show _=0 from rfl) (bW 0 fU rfl dc rfl rfl rfl (aU h λr1 a h=>dF (.bool r1) [.int .i32 x1.Rune] rfl dc rfl rfl rfl Ax (Bj a) (O 2 rfl (Y (bO ?_)))));cases h;exact dt 2 results120
 refine O 5 rfl (Y (bO ?_));cases h;exact dt 2 results120
def Ek (x1:cd):Option Bool := G (decide ((0:Int)<=x1.Rune)) (T (tR x1.Rune) λ(r1:Bool)=>some r1) (some false)
theorem VF (x1:cd) {r:Bool} (h:Ek x1=some r):eO prog 146 [.agg (ig x1).toArray] (.bool r):=by
 refine eO.intro func146 rfl ntmps146 (by simp) (λw0 K=>I (lE rfl dc rfl (λb1=>O 1 rfl (cw (ci kx rfl dc rfl (show _=0 from rfl) (bW 0 fU rfl dc rfl rfl rfl (E rfl gw (O 1 rfl (du 6 rfl h (λh=>?_) (λh=>?_))))))))))
 ·refine ci kx rfl dc rfl (show _=0 from rfl) (bW 0 fU rfl dc rfl rfl rfl (aU h λr1 a h=>dF (.bool r1) [.int .i32 x1.Rune] rfl dc rfl rfl rfl Aw (Bk a) (O 2 rfl (Y (bO ?_)))));cases h;exact dt 2 results146
 refine O 5 rfl (Y (bO ?_));cases h;exact dt 2 results146
def Em (k:V) (l:(List cd)->Option (List cd)) (r1:(List dq)) (e:(List cd)->Int->Option (List cd)) (d:List cd) (a:Int):Option (List cd) := G (decide ((a:Int)<(r1.length:Int))) (cm (λ(g:Int->V->Int->Option (List cd))=>T (cj r1 a) λ(q1:dq)=>T (M2 k q1) λ(r2:V)=>G (q1.Broken) (g (-1) r2 q1.At) (g q1.Rune r2 q1.At)) (λ(j:Int) (i:V) (h:Int)=>grd (d.length+1<=2147483648) <|grd (I64 (a+1)) <|e (d++[(⟨j,i,h⟩:cd)]) (a+1))) (l d)
def uK (a:V):Option (List cd) := cm (λ(e:(List cd)->Option (List cd))=>T (Eh a) λ(r1:(List dq))=>bP (λ_ _=>none) (Em a e r1) bN ([]:List cd) 0) (λ(d:List cd)=>some d)
theorem yJ {g:V} {r:(List cd)} (h:uK g=some r):Fn prog 35 [.string g] [] (λv0:Value=>v0) (λv0=>[fE v0 r]):=by
 refine Fn.intro func35 rfl ntmps35 (by simp) (λw0 K=>cJ ((List cd)×Value) h 2 rfl (λZ b=>Z b.1=some r) (λb=>[]) (λb=>[(3,b.2)]) (λb=>[fE b.2 b.1]) (λZ h cut=>?_) ?_)
 ·refine I (O 1 rfl (cw (O 1 rfl (Y (cut (I (O 1 rfl (aU h λr1 ag h=>ir [.string g] rfl dc rfl rfl rfl Tw (VB ag) aC (λv2=>io 0 rfl dc rfl rfl dk (O 1 rfl (Y (ck (oL qI 79 3 (n9 ((List cd)×Int×Value) (Em g Z r1) (λa b=>a b.1 b.2.1=some r) (λb=>[]) (λb=>[(0,.string g),(3,b.2.2),(8,v2),(9,zI (r1.length:Int)),(10,zI b.2.1)]) (λb=>[fE b.2.2 b.1,rh v2 r1]) (([]:List cd),0,(.slice none 0 0)) h rfl (gl rfl) (ct [1,0] kr rfl) ?_))))))))))))));rintro a1 ⟨W,J,M⟩ h;refine I (E rfl dL (Y (bV (bu rfl h (λh=>?_) (λh=>?_)))))
  ·refine bw (cu (bV (ck (cJ (Int×V×Int×Nat) h 2 rfl (λj2 b=>j2 b.1 b.2.1 b.2.2.1=some r) (λb=>[]) (λb=>[(0,.string g),(3,M),(6,zP b.2.2.2),(8,v2),(9,zI (r1.length:Int)),(10,zI J)]) (λb=>[fE M W,cells b.2.2.2 [.int .i32 b.1,.string b.2.1,zI b.2.2.1] 79,rh v2 r1]) (λj2 h cut=>I (aU h λq1 s h=>eN 1 s dk mg rfl dc rfl rfl rfl rfl (oM 1 ((J:Int).toNat) 0 q1 (fC q1) nm DX rfl dc rfl rfl (ei s) rfl rfl rfl (fZ rb rfl dc (λb2=>fI 2 (fC q1) (fC q1) mg rfl rfl rfl rfl rfl (show _<=_ by simp) rfl rfl (Y (bV (aU h λr2 m h=>Dh Nat 9 8 _ [(0,14,.pointer (some ⟨b2,2,none⟩)),(1,15,.int .i32 q1.Rune),(2,16,.string g),(3,17,.agg (fC q1).toArray),(4,18,.string r2),(5,19,zP b2),(6,20,zI q1.At),(7,21,.agg #[.int .i32 q1.Rune,.string r2,zI q1.At])] (λl=>[(6,zP l)]) (λl=>[fE M W,rh v2 r1,cells b2 (fC q1) 102,cells l [.int .i32 0,.string ByteArray.empty,zI 0] 79]) mixed kr kr rfl dc dc (by rfl) kr kr (fw (λD n d c u i=>ci sy rfl dc (eG (by rfl) rfl) (show _=2 from rfl) (bf 0 u i)) (fw (λD n d c u i=>bW 2 fU rfl dc (aX 0 u d) rfl rfl (bf 1 u i)) (p6 1 2 rfl (fw (λD n d c u i=>ju 2 (fC q1) nm rfl dc (eG (by rfl) rfl) rfl rfl rfl (bf 3 u i)) (fw (λD n d c u i=>dF (.string r2) [.string g,.agg (fC q1).toArray] rfl dc rfl (dN (aX 2 u d) (dN (aX 3 u d) fR)) rfl Mi (M3 q1 m) (bf 4 u i)) (fw (λD n d c u i=>ci nD rfl dc (eG (by rfl) rfl) (show _=0 from rfl) (bf 5 u i)) (fw (λD n d c u i=>bW 2 ed rfl dc (aX 5 u d) rfl rfl (bf 6 u i)) (fw (λD n d c u i=>fH (.agg #[.int .i32 q1.Rune,.string r2,zI q1.At]) [(0,.tmp 15),(1,.tmp 18),(2,.tmp 20)] rfl dc (gW (aX 1 u d) (gW (aX 4 u d) (gW (aX 6 u d) sM))) (λ_=>by kernel_rfl) (bf 7 u i)) (fA fX))))))))) (λl=>(fw (λD n d c u i=>ci sy rfl dc (eG (by rfl) rfl) (show _=2 from rfl) (bf 0 u i)) (fw (λD n d c u i=>bW 2 fU rfl dc (aX 0 u d) rfl rfl (bf 1 u i)) (p6 1 2 rfl (fw (λD n d c u i=>ju 2 (fC q1) nm rfl dc (eG (by rfl) rfl) rfl rfl rfl (bf 3 u i)) (fw (λD n d c u i=>dF (.string r2) [.string g,.agg (fC q1).toArray] rfl dc rfl (dN (aX 2 u d) (dN (aX 3 u d) fR)) rfl Mi (M3 q1 m) (bf 4 u i)) (fw (λD n d c u i=>ci nD rfl dc (eG (by rfl) rfl) (show _=0 from rfl) (bf 5 u i)) (fw (λD n d c u i=>bW 2 ed rfl dc (aX 5 u d) rfl rfl (bf 6 u i)) (fw (λD n d c u i=>fH (.agg #[.int .i32 q1.Rune,.string r2,zI q1.At]) [(0,.tmp 15),(1,.tmp 18),(2,.tmp 20)] rfl dc (gW (aX 1 u d) (gW (aX 4 u d) (gW (aX 6 u d) sM))) (λ_=>by kernel_rfl) (bf 7 u i)) (fA fX)))))))))) (λD hn hd a0=>fZ sx rfl dc (λl=>λa w ha hw=>⟨l,KJ (by rfl) _ _ _ ha,hw⟩)) (λl=>fI 3 [.int .i32 q1.Rune,.string r2,zI q1.At] [.int .i32 q1.Rune,.string r2,zI q1.At] iN rfl rfl rfl rfl rfl (show _<=_ by simp) rfl rfl (Y (cut (I (ci DI rfl dc rfl (show _=3 from rfl) (bW 2 sW rfl dc rfl rfl rfl (Y (bu rfl h (λh=>bX (ci kx rfl dc rfl (show _=0 from rfl) (fJ 3 [.int .i32 (-1),.string r2,zI q1.At] mN rfl rfl rfl rfl rfl (λ_ _=>rfl) rfl (bC (iW ((-1),r2,q1.At,l) h rfl (gl rfl) (ct [0,3,1] kr rfl)))))) (λh=>bw (iW (q1.Rune,r2,q1.At,l) h rfl (gl rfl) (ct [0,3,1] kr rfl))))))))))))))))))) ?_))));rintro⟨H,C,t,b1⟩ h;exact bX (O 1 rfl (ju 1 [.int .i32 H,.string C,zI t] nC rfl dc rfl rfl rfl rfl (hQ [(0,.tmp 26)] 79 [.int .i32 H,.string C,zI t] rfl dc rfl (λ_=>by kernel_rfl) (λb4=>bi h λaw h=>jJ 0 3 [(⟨H,C,t⟩:cd)] aG vC kO vE rfl dc rfl rfl rfl rfl rfl rfl aw (λv6=>O 1 rfl (bC (cg (cu (bX (bi h λao h=>E rfl (c8 (J+1) (ac _ ao)) (O 1 rfl (bC (iW (W++[(⟨H,C,t⟩:cd)],J+1,v6) h rfl (gl rfl) (ct [0,2] kr rfl))))))))))))))
  exact dG (bS (bS (dH (mD (W,M) h 1))))
 rintro⟨l1,v1⟩ h;refine I (O 2 rfl (Y (bO ?_)));cases h;exact eW [.tmp 2] v1 (.inl rfl) results35 (.cons (.tmp rfl) .nil) rfl (cO 1)
def En (g:List cd) (h:V->Option V) (e:V->Int->Option V) (d:V) (a:Int):Option V := G (decide ((a:Int)<(g.length:Int))) (T (cj g a) λ(q1:cd)=>grd (d.size+q1.Text.size<=9223372036854775807) <|grd (I64 (a+1)) <|e (d++q1.Text) (a+1)) (h d)
def yK (d:List cd):Option V := cm (λ(e:V->Option V)=>bP (λ_ _=>none) (En d e) bN (⟨#[]⟩:V) 0) (λ(a:V)=>some a)
theorem HL {e g:Value} {s:List cd} {l:Nat} {t:List cd} (d:Vw e s 3 l g t) {r:V} (h:yK t=some r):gu prog 84 [g] [iM qI 3 e l s] [] (λ_:Unit=>(.string r)) (λ_=>[]):=by
 refine gu.intro func84 rfl ntmps84 (by simp) (λw0 K w=>cJ V h 2 rfl (λv b=>v b=some r) (λb=>[]) (λb=>[(3,.string b)]) (λb=>[]) (λv h cut=>?_) ?_)
 ·refine I (O 1 rfl (cw (O 1 rfl (Y (cut (I (O 1 rfl (jl d rfl dc rfl aG (O 1 rfl (Y (ck (fP (V×Int) (En t v) (λa b=>a b.1 b.2=some r) (λb=>[]) (λb=>[(3,.string b.1),(6,g),(7,zI (t.length:Int)),(8,zI b.2)]) (λb=>[]) ((⟨#[]⟩:V),0) (by exact h) 0 ?_))))))))))));rintro J ⟨H,u⟩ h;exact I (E rfl dL (Y (bV (bu rfl h (λh=>bw (cu (bV (ck (I (aU h λq1 n h=>gm d n aG iN rfl dc rfl rfl rfl (rz 0 (l+(u:Int).toNat) 0 q1 (ig q1) w rfl z1 nC rfl dc rfl (cq d n) rfl rfl rfl (fZ sx rfl dc (λb1=>fI 0 (ig q1) (ig q1) iN rfl rfl rfl rfl rfl (show _<=_ by simp) rfl rfl (Y (bX (O 1 rfl (ci sZ rfl dc rfl (show _=1 from rfl) (bW 0 eJ rfl dc rfl rfl rfl (bi h λD h=>E rfl (ni D) (O 1 rfl (bC (cg (cu (bX (bi h λC h=>E rfl (c8 (u+1) (ac _ C)) (O 1 rfl (bC (mD (H++q1.Text,u+1) h 0)))))))))))))))))))))))) (λh=>dG (bS (bS (dH (mD H h 0)))))))))
 refine λM h=>I (O 2 rfl (Y (bO ?_)));cases h;exact dt 2 results84
def Bm (r1:Int) (x1:cd):Option cd := T (uI r1) λ(r2:V)=>some (⟨r1,r2,x1.At⟩:cd)
theorem Na {r1:Int} (x1:cd) {r:cd} (h:Bm r1 x1=some r):eO prog 124 [.int .i32 r1,.agg (ig x1).toArray] (.agg (ig r).toArray):=by
 refine eO.intro func124 rfl ntmps124 (by simp) (λw0 K=>I (lE rfl dc rfl (λb1=>fZ sx rfl dc (λe=>Y (bV (aU h λr2 a h=>jU 5 [(0,5,.int .i32 r1),(1,6,.int .i32 r1),(2,7,.string r2),(3,8,.pointer (some ⟨b1,2,none⟩)),(4,9,zI x1.At)] mixed kr kr dc (by rfl) kr kr (gD 2 0 rfl (bQ (λD n d c u i=>dF (.string r2) [.int .i32 r1] rfl dc rfl (dN (aX 1 u d) fR) rfl DV (Ee a) (bf 2 u i)) (bQ (λD n d c u i=>ci Sx rfl dc (eG (by rfl) rfl) (show _=2 from rfl) (bf 3 u i)) (bQ (λD n d c u i=>bW 0 ed rfl dc (aX 3 u d) rfl rfl (bf 4 u i)) bB)))) (fH (.agg #[.int .i32 r1,.string r2,zI x1.At]) [(0,.tmp 5),(1,.tmp 7),(2,.tmp 9)] rfl dc rfl (λ_=>by kernel_rfl) (fI 1 [.int .i32 r1,.string r2,zI x1.At] [.int .i32 r1,.string r2,zI x1.At] iN rfl rfl rfl rfl rfl (show _<=_ by simp) rfl rfl (Y (bO ?_))))))))));cases h;exact eW [.cell 4 79] () (.inl rfl) results124 (.cons (.cells nC (k:=1) rfl rfl rfl) .nil) rfl aC
def Bn (e:List cd) (g:Int->Option Int) (d:Int->Option Int) (a:Int):Option Int := G (decide ((a:Int)<(e.length:Int))) (T (cj e a) λ(q1:cd)=>T (Ek q1) λ(r1:Bool)=>G (r1) (grd (I64 (a+1)) <|d (a+1)) (g a)) (g a)
def yL (d:List cd):Option Int := cm (λ(e:Int->Option Int)=>bP (λ_=>none) (Bn d e) bN 0) (λ(a:Int)=>some a)
theorem HM {d l:Value} {g:List cd} {n:Nat} {u:List cd} (e:Vw d g 3 n l u) {r:Int} (h:yL u=some r):Fn prog 121 [l] [fE d g] (λ_b:Unit=>zI r) (λ_b=>[fE d g]):=by
 refine Fn.intro func121 rfl ntmps121 (by simp) (λw0 K=>cJ Int h 2 rfl (λw b=>w b=some r) (λb=>[]) (λb=>[(3,zI b)]) (λb=>[fE d g]) (λw h cut=>I (O 1 rfl (cw (O 1 rfl (Y (cut (ck (fP Int (Bn u w) (λa b=>a b=some r) (λb=>[]) (λb=>[(0,l),(3,zI b)]) (λb=>[fE d g]) 0 h 1 (λH m h=>bV (I (O 2 rfl (jl e rfl dc rfl aG (E rfl dL (O 1 rfl (du 8 rfl h (λh=>O 2 rfl (aU h λq1 t h=>gm e t aG iN rfl dc rfl rfl rfl (oM 0 (n+(m:Int).toNat) 0 q1 (ig q1) nC kO rfl dc rfl rfl (cq e t) rfl rfl rfl (aU h λr1 C h=>dF (.bool r1) [.agg (ig q1).toArray] rfl dc rfl rfl rfl T0 (VF q1 C) (O 1 rfl (Y (bu rfl h (λh=>bw (cu (ck (bX (O 1 rfl (bi h λD h=>E rfl (c8 (m+1) (ac _ D)) (O 1 rfl (bC (cg (mD (m+1) h 1)))))))))) (λh=>dG (bS (bS (dH (mD m h 1)))))))))))) (λh=>O 6 rfl (Y (eU rfl (dG (bS (bS (dH (mD m h 1))))))))))))))))))))))) (λJ h=>I (O 2 rfl (Y (bO ?_)))));cases h;exact eW [.tmp 2] () (.inl rfl) results121 (.cons (.tmp rfl) .nil) rfl (cO 1)
def Eo (r1:Int):Option V := G ((r1:Int)==223) (some (⟨#[115,115]⟩:V)) (G ((r1:Int)==230) (some (⟨#[97,101]⟩:V)) (G ((r1:Int)==248) (some (⟨#[111]⟩:V)) (cm (λ(d:Bool->Option V)=>G ((r1:Int)==240) (d ((r1:Int)==240)) (d ((r1:Int)==273))) (λ(x1:Bool)=>G (x1) (some (⟨#[100]⟩:V)) (G ((r1:Int)==254) (some (⟨#[116,104]⟩:V)) (G ((r1:Int)==295) (some (⟨#[104]⟩:V)) (G ((r1:Int)==305) (some (⟨#[105]⟩:V)) (G ((r1:Int)==307) (some (⟨#[105,106]⟩:V)) (G ((r1:Int)==312) (some (⟨#[113]⟩:V)) (cm (λ(a:Bool->Option V)=>G ((r1:Int)==320) (a ((r1:Int)==320)) (a ((r1:Int)==322))) (λ(x2:Bool)=>G (x2) (some (⟨#[108]⟩:V)) (G ((r1:Int)==329) (some (⟨#[110]⟩:V)) (G ((r1:Int)==331) (some (⟨#[110,103]⟩:V)) (G ((r1:Int)==339) (some (⟨#[111,101]⟩:V)) (G ((r1:Int)==359) (some (⟨#[116]⟩:V)) (G ((r1:Int)==383) (some (⟨#[115]⟩:V)) (G ((r1:Int)==962) (some (⟨#[207,131]⟩:V)) (T (uI r1) λ(r2:V)=>some r2))))))))))))))))))
theorem VG {r1:Int} {r:V} (h:Eo r1=some r):eO prog 128 [.int .i32 r1] (.string r):=by
 refine eO.intro func128 rfl ntmps128 (by simp) (λw0 K=>I (O 1 rfl (Y (bV (I (O 1 rfl (Y (ck (I (E rfl eZ (O 1 rfl (Y (bu rfl h (λh=>?_) (λh=>?_))))))))))))))
 ·refine I (O 1 rfl (Y (bO (cK (bZ ?_)))));cases h;exact dt 2 ew
 refine I (E rfl eZ (O 1 rfl (Y (bu rfl h (λh=>?_) (λh=>?_)))))
 ·refine I (O 1 rfl (Y (bO (cK (bZ ?_)))));cases h;exact dt 2 ew
 refine I (E rfl eZ (O 1 rfl (Y (bu rfl h (λh=>?_) (λh=>?_)))))
 ·refine I (O 1 rfl (Y (bO (cK (bZ ?_)))));cases h;exact dt 2 ew
 refine cJ Bool h 0 rfl (λe b=>e b=some r) (λb=>[]) (λb=>[(0,.int .i32 r1),(3,.int .i32 r1),(10,.bool b)]) (λb=>[]) (λe h cut=>cut (I (E rfl eZ (O 1 rfl (Y (bu rfl h (λh=>bw (mD ((r1:Int)==240) h 0)) (λh=>bX (E rfl eZ (O 1 rfl (bC (mD ((r1:Int)==273) h 0))))))))))) (λx1 h=>bu rfl h (λh=>?_) (λh=>?_))
 ·refine I (O 1 rfl (Y (bO (cK (bZ ?_)))));cases h;exact dt 2 ew
 refine I (E rfl eZ (O 1 rfl (Y (bu rfl h (λh=>?_) (λh=>?_)))))
 ·refine I (O 1 rfl (Y (bO (cK (bZ ?_)))));cases h;exact dt 2 ew
 refine I (E rfl eZ (O 1 rfl (Y (bu rfl h (λh=>?_) (λh=>?_)))))
 ·refine I (O 1 rfl (Y (bO (cK (bZ ?_)))));cases h;exact dt 2 ew
 refine I (E rfl eZ (O 1 rfl (Y (bu rfl h (λh=>?_) (λh=>?_)))))
 ·refine I (O 1 rfl (Y (bO (cK (bZ ?_)))));cases h;exact dt 2 ew
 refine I (E rfl eZ (O 1 rfl (Y (bu rfl h (λh=>?_) (λh=>?_)))))
 ·refine I (O 1 rfl (Y (bO (cK (bZ ?_)))));cases h;exact dt 2 ew
 refine I (E rfl eZ (O 1 rfl (Y (bu rfl h (λh=>?_) (λh=>?_)))))
 ·refine I (O 1 rfl (Y (bO (cK (bZ ?_)))));cases h;exact dt 2 ew
 refine cJ Bool h 0 rfl (λd b=>d b=some r) (λb=>[]) (λb=>[(0,.int .i32 r1),(3,.int .i32 r1),(23,.bool b)]) (λb=>[]) (λd h cut=>cut (I (E rfl eZ (O 1 rfl (Y (bu rfl h (λh=>bw (mD ((r1:Int)==320) h 0)) (λh=>bX (E rfl eZ (O 1 rfl (bC (mD ((r1:Int)==322) h 0))))))))))) (λx2 h=>bu rfl h (λh=>?_) (λh=>?_))
 ·refine I (O 1 rfl (Y (bO (cK (bZ ?_)))));cases h;exact dt 2 ew
 refine I (E rfl eZ (O 1 rfl (Y (bu rfl h (λh=>?_) (λh=>?_)))))
 ·refine I (O 1 rfl (Y (bO (cK (bZ ?_)))));cases h;exact dt 2 ew
 refine I (E rfl eZ (O 1 rfl (Y (bu rfl h (λh=>?_) (λh=>?_)))))
 ·refine I (O 1 rfl (Y (bO (cK (bZ ?_)))));cases h;exact dt 2 ew
 refine I (E rfl eZ (O 1 rfl (Y (bu rfl h (λh=>?_) (λh=>?_)))))
 ·refine I (O 1 rfl (Y (bO (cK (bZ ?_)))));cases h;exact dt 2 ew
 refine I (E rfl eZ (O 1 rfl (Y (bu rfl h (λh=>?_) (λh=>?_)))))
 ·refine I (O 1 rfl (Y (bO (cK (bZ ?_)))));cases h;exact dt 2 ew
 refine I (E rfl eZ (O 1 rfl (Y (bu rfl h (λh=>?_) (λh=>?_)))))
 ·refine I (O 1 rfl (Y (bO (cK (bZ ?_)))));cases h;exact dt 2 ew
 refine I (E rfl eZ (O 1 rfl (Y (bu rfl h (λh=>?_) (λh=>?_)))))
 ·refine I (O 1 rfl (Y (bO (cK (bZ ?_)))));cases h;exact dt 2 ew
 refine bw (cg (cu (I (O 1 rfl (aU h λr2 a h=>dF (.string r2) [.int .i32 r1] rfl dc rfl rfl rfl DV (Ee a) (O 1 rfl (Y (bO ?_))))))));cases h;exact dt 2 ew
def Ep (g:(List cd)->Option (List cd)) (q1:cd) (r2:(List Int)) (e:(List cd)->Int->Option (List cd)) (a:List cd) (d:Int):Option (List cd) := G (decide ((d:Int)<(r2.length:Int))) (T (cj r2 d) λ(q2:Int)=>T (Bm q2 q1) λ(r3:cd)=>grd (a.length+1<=2147483648) <|grd (I64 (d+1)) <|e (a++[r3]) (d+1)) (g a)
def Bo (h:List cd) (j:(List cd)->Option (List cd)) (g:(List cd)->Int->Option (List cd)) (a:List cd) (e:Int):Option (List cd) := G (decide ((e:Int)<(h.length:Int))) (cm (λ(i:(List cd)->Option (List cd))=>T (cj h e) λ(q1:cd)=>T (vN q1) λ(r1:Bool)=>G (!r1) (grd (a.length+1<=2147483648) <|i (a++[q1])) (T (yI q1.Rune) λ(r2:(List Int))=>bP (λ_ _=>none) (Ep i q1 r2) bN a 0)) (λ(d:List cd)=>grd (I64 (e+1)) <|g d (e+1))) (j a)
def Bp (d:List cd) (i:Int) (t:(List cd)->(List cd)->(List cd)->Option (List cd)) (k:Int) (m:(List cd)->(List cd)->Int->Option (List cd)) (e:List cd) (a:List cd) (g:Int):Option (List cd) := G (decide ((g:Int)<((ee d (i+1) ((i+1)+k)).length:Int))) (cm (λ(n:(List cd)->(List cd)->Option (List cd))=>T (cj (ee d (i+1) ((i+1)+k)) g) λ(l:cd)=>T (Bi l.Rune) λ(s:Bool)=>G (s) (grd (e.length+1<=2147483648) <|n (e++[l]) a) (grd (a.length+1<=2147483648) <|n e (a++[l]))) (λ(j:List cd) (h:List cd)=>grd (I64 (g+1)) <|m j h (g+1))) (t (ee d (i+1) ((i+1)+k)) e a)
def sD (j:List cd) (u:(List cd)->Option (List cd)) (l:(List cd)->Int->Option (List cd)) (a:List cd) (d:Int):Option (List cd) := G (decide ((d:Int)<(j.length:Int))) (cm (λ(m:(List cd)->Option (List cd))=>T (cj a d) λ(s:cd)=>T (vN s) λ(n:Bool)=>G (!n) (m a) (cm (λ(t:(List cd)->(List cd)->(List cd)->Option (List cd))=>grd (I64 (d+1)) <|grd (I64 (d+1)) <|grd (I64 (d+1)) <|grd (0<=(d+1:Int)/\(d+1:Int)<=(a.length:Int)/\((a.length:Int):Int)<=(a.length:Int)) <|T (yL (ee a (d+1) (a.length:Int))) λ(k:Int)=>grd (I64 ((d+1)+k)) <|grd (0<=(d+1:Int)/\(d+1:Int)<=((d+1)+k)/\((d+1)+k:Int)<=(a.length:Int)) <|bP (λ_ _ _=>none) (Bp a d t k) bN ([]:List cd) ([]:List cd) 0) (λ(i:List cd) (g:List cd) (e:List cd)=>grd (g.length+e.length<=2147483648) <|m (vy a (0+(d+1:Int).toNat) ((g++e).take i.length))))) (λ(h:List cd)=>grd (I64 (d+1)) <|l h (d+1))) (u a)
def yM (e:List cd):Option (List cd) := cm (λ(h:(List cd)->Option (List cd))=>bP (λ_ _=>none) (Bo e h) bN ([]:List cd) 0) (λ(a:List cd)=>cm (λ(g:(List cd)->Option (List cd))=>bP (λ_ _=>none) (sD a g) bN a 0) (λ(d:List cd)=>some d))
theorem HN {g u:Value} {l:List cd} {a6:Nat} {l1:List cd} (H:Vw g l 3 a6 u l1) {r:(List cd)} (h:yM l1=some r):Fn prog 85 [u] [fE g l] (λv0:Value=>v0) (λv0=>[fE g l,fE v0 r]):=by
 refine Fn.intro func85 rfl ntmps85 (by simp) (λw0 K=>cJ ((List cd)×Value) h 2 rfl (λj1 b=>j1 b.1=some r) (λb=>[]) (λb=>[(3,b.2)]) (λb=>[fE g l,fE b.2 b.1]) (λj1 h cut=>?_) ?_)
 ·refine I (O 1 rfl (cw (O 1 rfl (Y (cut (I (O 1 rfl (jl H rfl dc rfl aG (O 1 rfl (Y (ck (oL qI 79 3 (fP ((List cd)×Int×Value) (Bo l1 j1) (λa b=>a b.1 b.2.1=some r) (λb=>[]) (λb=>[(3,b.2.2),(15,u),(16,zI (l1.length:Int)),(17,zI b.2.1)]) (λb=>[fE g l,fE b.2.2 b.1]) (([]:List cd),0,(.slice none 0 0)) h 2 ?_)))))))))))));rintro eq ⟨C,x3,v4⟩ h;refine I (E rfl dL (Y (bV (bu rfl h (λh=>?_) (λh=>?_)))))
  ·refine bw (cu (cJ ((List cd)×Value) h 0 rfl (λj2 b=>j2 b.1=some r) (λb=>[]) (λb=>[(3,b.2),(15,u),(16,zI (l1.length:Int)),(17,zI x3)]) (λb=>[fE g l,fE b.2 b.1]) (λj2 h cut=>?_) ?_))
   ·refine cut (ck (I (aU h λq1 bh h=>gm H bh aG iN rfl dc rfl rfl rfl (oM 0 (a6+(x3:Int).toNat) 0 q1 (ig q1) nC kO rfl dc rfl rfl (cq H bh) rfl rfl rfl (fZ sx rfl dc (λb1=>fI 2 (ig q1) (ig q1) iN rfl rfl rfl rfl rfl (show _<=_ by simp) rfl rfl (Y (bV (I (ju 2 (ig q1) nC rfl dc rfl rfl rfl rfl (aU h λr1 dX h=>dF (.bool r1) [.agg (ig q1).toArray] rfl dc rfl rfl rfl Az (Bl q1 dX) (lh rfl dc rfl lj (Y (bu rfl h (λh=>I (O 1 rfl (ju 2 (ig q1) nC rfl dc rfl rfl rfl rfl (hQ [(0,.tmp 25)] 79 (ig q1) rfl dc rfl (λ_=>by kernel_rfl) (λb2=>bi h λd7 h=>jJ 1 3 [q1] aG vC kO vE rfl dc rfl rfl rfl rfl rfl rfl d7 (λv6=>O 1 rfl (Y (dG (bS (dH (mD (C++[q1],v6) h 2))))))))))) (λh=>bw (cu (I (ci kx rfl dc rfl (show _=0 from rfl) (bW 2 fU rfl dc rfl rfl rfl (aU h λr2 dT h=>ir [.int .i32 q1.Rune] rfl dc rfl rfl rfl Ha (M8 dT) aC (λv7=>io 3 rfl dc rfl rfl bH (O 1 rfl (Y (ck (fP ((List cd)×Int×Value) (Ep j2 q1 r2) (λa b=>a b.1 b.2.1=some r) (λb=>[]) (λb=>[(3,b.2.2),(5,zP b1),(15,u),(16,zI (l1.length:Int)),(17,zI x3),(30,v7),(31,zI (r2.length:Int)),(32,zI b.2.1)]) (λb=>[fE g l,fE b.2.2 b.1,cells b1 (ig q1) 79,fr v7 r2]) (C,0,v4) h 4 ?_)))))))))))))))))))))))));rintro en ⟨W,x6,dd⟩ h;exact I (E rfl dL (Y (bV (bu rfl h (λh=>bw (cu (bV (ck (I (aU h λq2 a9 h=>eN 3 a9 bH mN rfl dc rfl rfl rfl rfl (fl 3 ((x6:Int).toNat) 0 q2 fU iq rfl dc rfl rfl (ei a9) rfl dc rfl (O 1 rfl (Y (bX (O 2 rfl (ju 2 (ig q1) nC rfl dc rfl rfl rfl rfl (aU h λr3 dB h=>dF (.agg (ig r3).toArray) [.int .i32 q2,.agg (ig q1).toArray] rfl dc rfl rfl rfl Mu (Na q1 dB) (hQ [(0,.tmp 39)] 79 (ig r3) rfl dc rfl (λ_=>by kernel_rfl) (λb3=>bi h λd6 h=>jJ 1 4 [r3] aG vC kO vE rfl dc rfl rfl rfl rfl rfl rfl d6 (λc5=>O 1 rfl (bC (cg (cu (bX (bi h λd5 h=>E rfl (c8 (x6+1) (ac _ d5)) (O 1 rfl (bC (mD (W++[r3],x6+1,c5) h 4)))))))))))))))))))))))) (λh=>dG (bS (bS (dH (cg (mD (W,dd) h 2))))))))))
   rintro⟨a3,v5⟩ h;exact bX (bi h λd4 h=>E rfl (c8 (x3+1) (ac _ d4)) (O 1 rfl (bC (mD (a3,x3+1,v5) h 2))))
  exact dG (bS (bS (dH (mD (C,v4) h 2))))
 rintro⟨n,v1⟩ h;refine cJ (List cd) h 0 rfl (λj3 b=>j3 b=some r) (λb=>[]) (λb=>[(3,v1)]) (λb=>[fE g l,fE v1 b]) (λj3 h cut=>?_) ?_
 ·refine cut (I (O 1 rfl (io 1 rfl dc rfl rfl aG (O 1 rfl (Y (ck (fP ((List cd)×Int) (sD n j3) (λa b=>a b.1 b.2=some r) (λb=>[]) (λb=>[(3,v1),(44,v1),(45,zI (n.length:Int)),(46,zI b.2)]) (λb=>[fE g l,fE v1 b.1]) (n,0) h 2 ?_)))))));rintro em ⟨d,m⟩ h;refine I (E rfl dL (Y (bV (bu rfl h (λh=>?_) (λh=>?_)))))
  ·refine bw (cu (cJ (List cd) h 0 rfl (λj4 b=>j4 b=some r) (λb=>[]) (λb=>[(3,v1),(44,v1),(45,zI (n.length:Int)),(46,zI m)]) (λb=>[fE g l,fE v1 b]) (λj4 h cut=>?_) ?_))
   ·refine cut (ck (I (O 1 rfl (aU h λq3 a8 h=>eN 1 a8 aG iN rfl dc rfl rfl rfl rfl (oM 1 ((m:Int).toNat) 0 q3 (ig q3) nC kO rfl dc rfl rfl (ei a8) rfl rfl rfl (fZ sx rfl dc (λb4=>O 1 rfl (fI 2 (ig q3) (ig q3) iN rfl rfl rfl rfl rfl (show _<=_ by simp) rfl rfl (Y (bV (I (ju 2 (ig q3) nC rfl dc rfl rfl rfl rfl (aU h λr4 dA h=>dF (.bool r4) [.agg (ig q3).toArray] rfl dc rfl rfl rfl Az (Bl q3 dA) (lh rfl dc rfl lj (Y (bu rfl h (λh=>dG (bS (dH (mD d h 2)))) (λh=>bw (cu (cJ ((List cd)×(List cd)×(List cd)×Value×Value×Value) h 2 rfl (λj5 b=>j5 b.1 b.2.1 b.2.2.1=some r/\Vw v1 d 3 (0+(m+1:Int).toNat) b.2.2.2.1 b.1) (λb=>[]) (λb=>[(3,v1),(10,b.2.2.2.1),(11,b.2.2.2.2.1),(12,b.2.2.2.2.2),(44,v1),(45,zI (n.length:Int)),(46,zI m)]) (λb=>[fE g l,fE v1 d,fE b.2.2.2.2.1 b.2.1,fE b.2.2.2.2.2 b.2.2.1]) (λj5 h cut=>?_) ?_)))))))))))))))))))
    ·refine I (O 2 rfl (bi h λd3 h=>E rfl (c8 (m+1) (ac _ d3)) (O 1 rfl (bi h λd2 h=>E rfl (c8 (m+1) (ac _ d2)) (O 2 rfl (bi h λd1 h=>E rfl (c8 (m+1) (ac _ d1)) (lF 1 rfl (λhw2=>bi h λd0 h=>?_))))))));obtain⟨c4,dn,dw⟩:=pf (some (zI (m+1))) none hw2 aG iN (.inr rfl) (.inl ⟨rfl,rfl⟩) d0;refine jj rfl dc rfl rfl rfl dw (aU h λZ dz h=>ru (zI Z) [c4] rfl dc rfl rfl rfl Hh (HM dn dz) [1] kr rfl (bi h λdY h=>E rfl (c8 ((m+1)+Z) (ac _ dY)) (lF 1 rfl (λdi=>bi h λcc h=>?_))));obtain⟨w,M,ds⟩:=pf (some (zI (m+1))) (some (zI ((m+1)+Z))) di aG iN (.inr rfl) (.inr rfl) cc;refine jj rfl dc rfl rfl rfl ds (O 1 rfl (cw (O 2 rfl (Y (cut (I (O 1 rfl (jl M rfl dc rfl aG (O 1 rfl (Y (ck (oL qI 79 3 (oL qI 79 3 (n9 ((List cd)×(List cd)×Int×Value×Value) (Bp d m j5 Z) (λa b=>a b.1 b.2.1 b.2.2.1=some r) (λb=>[]) (λb=>[(3,v1),(10,w),(11,b.2.2.2.1),(12,b.2.2.2.2),(44,v1),(45,zI (n.length:Int)),(46,zI m),(66,w),(67,zI ((ee d (m+1) ((m+1)+Z)).length:Int)),(68,zI b.2.2.1)]) (λb=>[fE g l,fE v1 d,fE b.2.2.2.1 b.1,fE b.2.2.2.2 b.2.1]) (([]:List cd),([]:List cd),0,(.slice none 0 0),(.slice none 0 0)) h rfl (gl rfl) (ct [0,1,3,4] kr rfl) ?_))))))))))))));rintro ek ⟨D,s,J,a1,a0⟩ h;refine I (E rfl dL (Y (bV (bu rfl h (λh=>?_) (λh=>?_)))))
     ·refine bw (cu (cJ ((List cd)×(List cd)×Value×Value) h 0 rfl (λj6 b=>j6 b.1 b.2.1=some r) (λb=>[]) (λb=>[(3,v1),(10,w),(11,b.2.2.1),(12,b.2.2.2),(44,v1),(45,zI (n.length:Int)),(46,zI m),(66,w),(67,zI ((ee d (m+1) ((m+1)+Z)).length:Int)),(68,zI J)]) (λb=>[fE g l,fE v1 d,fE b.2.2.1 b.1,fE b.2.2.2 b.2.1]) (λj6 h cut=>cut (ck (I (aU h λt a7 h=>gm M a7 aG iN rfl dc rfl rfl rfl (oM 1 (0+(m+1:Int).toNat+(J:Int).toNat) 0 t (ig t) nC kO rfl dc rfl rfl (cq M a7) rfl rfl rfl (fZ sx rfl dc (λb5=>fI 4 (ig t) (ig t) iN rfl rfl rfl rfl rfl (show _<=_ by simp) rfl rfl (cw (ci kx rfl dc rfl (show _=0 from rfl) (bW 4 fU rfl dc rfl rfl rfl (aU h λr6 bb h=>dF (.bool r6) [.int .i32 t.Rune] rfl dc rfl rfl rfl Mt (M9 bb) (Y (bu rfl h (λh=>bX (O 1 rfl (ju 4 (ig t) nC rfl dc rfl rfl rfl rfl (hQ [(0,.tmp 76)] 79 (ig t) rfl dc rfl (λ_=>by kernel_rfl) (λb6=>bi h λb9 h=>jJ 2 5 [t] aG vC kO vE rfl dc rfl rfl rfl rfl rfl rfl b9 (λcv=>O 1 rfl (bC (cg (mD (D++[t],s,cv,a0) h 4))))))))) (λh=>bX (O 1 rfl (ju 4 (ig t) nC rfl dc rfl rfl rfl rfl (hQ [(0,.tmp 80)] 79 (ig t) rfl dc rfl (λ_=>by kernel_rfl) (λb7=>bi h λb8 h=>jJ 3 5 [t] aG vC kO vE rfl dc rfl rfl rfl rfl rfl rfl b8 (λch=>O 1 rfl (bC (cg (mD (D,s++[t],a1,ch) h 4)))))))))))))))))))))) ?_));rintro⟨a4,ao,c3,c0⟩ h;exact bX (bi h λb0 h=>E rfl (c8 (J+1) (ac _ b0)) (O 1 rfl (bC (mD (a4,ao,J+1,c3,c0) h 4))))
     exact dG (bS (bS (dH (mD (ee d (m+1) ((m+1)+Z),D,s,w,a1,a0) ⟨h,M⟩ 4))))
    rintro⟨a2,a5,aw,eg,ec,eb⟩ ⟨h,dj⟩;exact bX (O 3 rfl (lF 3 rfl (λdg=>bi h λbs h=>Dv 2 3 aG vC kO vE dg rfl dc rfl rfl rfl rfl bs (λd9=>lF 2 rfl (λdf=>R6 (k:=1) (k2:=2) aG vC kO vE dj df rfl dc rfl rfl rfl rfl (bC (cg (mD (vy d (0+(m+1:Int).toNat) ((a5++aw).take a2.length)) h 2))))))))
   exact λag h=>bX (bi h λbk h=>E rfl (c8 (m+1) (ac _ bk)) (O 1 rfl (bC (mD (ag,m+1) h 2))))
  exact dG (bS (bS (dH (mD d h 2))))
 refine λd8 h=>I (O 2 rfl (Y (bO ?_)));cases h;exact eW [.tmp 2] v1 (.inl rfl) results85 (.cons (.tmp rfl) .nil) rfl (cO 2)
def wV (j:(List cd)->Option (List cd)) (r1:(List cd)) (g:(List cd)->Int->Option (List cd)) (a:List cd) (d:Int):Option (List cd) := G (decide ((d:Int)<(r1.length:Int))) (cm (λ(h:(List cd)->Int->Option (List cd))=>T (cj r1 d) λ(q1:cd)=>grd (a.length+1<=2147483648) <|T (cj r1 d) λ(q2:cd)=>T (vN q2) λ(r2:Bool)=>G (r2) (grd (I64 (d+1)) <|grd (0<=(d+1:Int)/\(d+1:Int)<=(r1.length:Int)/\((r1.length:Int):Int)<=(r1.length:Int)) <|T (yL (ee r1 (d+1) (r1.length:Int))) λ(r3:Int)=>grd (I64 (d+r3)) <|h (a++[q1]) (d+r3)) (h (a++[q1]) d)) (λ(e:List cd) (i:Int)=>grd (I64 (i+1)) <|g e (i+1))) (j a)
def Er (d:List cd):Option (List cd) := cm (λ(e:(List cd)->Option (List cd))=>T (yM d) λ(r1:(List cd))=>bP (λ_ _=>none) (wV e r1) bN ([]:List cd) 0) (λ(a:List cd)=>some a)
theorem VH {d m:Value} {g:List cd} {C:Nat} {l1:List cd} (t:Vw d g 3 C m l1) {r:(List cd)} (h:Er l1=some r):Fn prog 127 [m] [fE d g] (λv0:Value=>v0) (λv0=>[fE d g,fE v0 r]):=by
 refine Fn.intro func127 rfl ntmps127 (by simp) (λw0 K=>cJ ((List cd)×Value) h 3 rfl (λD b=>D b.1=some r) (λb=>[]) (λb=>[(3,b.2)]) (λb=>[fE d g,fE b.2 b.1]) (λD h cut=>?_) ?_)
 ·refine I (O 1 rfl (cw (O 1 rfl (aU h λr1 ag h=>ir [m] rfl dc rfl rfl rfl Hc (HN t ag) (cO 1) (λv2=>O 1 rfl (cw (O 1 rfl (Y (cut (I (O 1 rfl (Y (ck (oL qI 79 3 (n9 ((List cd)×Int×Value) (wV D r1) (λa b=>a b.1 b.2.1=some r) (λb=>[]) (λb=>[(0,v2),(3,b.2.2),(4,zI b.2.1)]) (λb=>[fE d g,fE v2 r1,fE b.2.2 b.1]) (([]:List cd),0,(.slice none 0 0)) h rfl (gl rfl) (ct [1,2,3] kr rfl) ?_)))))))))))))));rintro a4 ⟨l,n,v5⟩ h;refine bV (I (O 2 rfl (io 1 rfl dc rfl rfl aG (E rfl dL (Y (bu rfl h (λh=>?_) (λh=>?_)))))))
  ·refine bw (cu (cJ ((List cd)×Int×Value) h 0 rfl (λj2 b=>j2 b.1 b.2.1=some r) (λb=>[]) (λb=>[(0,v2),(3,b.2.2),(4,zI b.2.1)]) (λb=>[fE d g,fE v2 r1,fE b.2.2 b.1]) (λj2 h cut=>?_) ?_))
   ·refine cut (ck (I (O 3 rfl (aU h λq1 w h=>eN 1 w aG iN rfl dc rfl rfl rfl rfl (oM 1 ((n:Int).toNat) 0 q1 (ig q1) nC kO rfl dc rfl rfl (ei w) rfl rfl rfl (hQ [(0,.tmp 17)] 79 (ig q1) rfl dc rfl (λ_=>by kernel_rfl) (λb1=>bi h λa2 h=>jJ 2 3 [q1] aG vC kO vE rfl dc rfl rfl rfl rfl rfl rfl a2 (λv7=>O 1 rfl (cw (O 2 rfl (aU h λq2 u h=>eN 1 u aG iN rfl dc rfl rfl rfl rfl (oM 1 ((n:Int).toNat) 0 q2 (ig q2) nC kO rfl dc rfl rfl (ei u) rfl rfl rfl (aU h λr2 Z h=>dF (.bool r2) [.agg (ig q2).toArray] rfl dc rfl rfl rfl Az (Bl q2 Z) (Y (bu rfl h (λh=>?_) (λh=>?_))))))))))))))))
    ·refine bX (O 3 rfl (bi h λa1 h=>E rfl (c8 (n+1) (ac _ a1)) (lF 1 rfl (λH=>bi h λa0 h=>?_))));obtain⟨v8,J,M⟩:=pf (some (zI (n+1))) none H aG iN (.inr rfl) (.inl ⟨rfl,rfl⟩) a0;exact jj rfl dc rfl rfl rfl M (aU h λr3 W h=>ru (zI r3) [v8] rfl dc rfl rfl rfl Hh (HM J W) [1] kr rfl (bi h λaw h=>E rfl (c8 (n+r3) (ac _ aw)) (O 1 rfl (bC (cg (mD (l++[q1],n+r3,v7) h 3))))))
    exact bw (cg (mD (l++[q1],n,v7) h 3))
   rintro⟨s,i4,v6⟩ h;exact bX (O 1 rfl (bi h λao h=>E rfl (c8 (i4+1) (ac _ ao)) (O 1 rfl (bC (mD (s,i4+1,v6) h 3)))))
  exact dG (bS (bS (dH (iW (l,v5) h rfl (gl rfl) (ct [0,2] kr rfl)))))
 rintro⟨a3,v1⟩ h;refine I (O 2 rfl (Y (bO ?_)));cases h;exact eW [.tmp 2] v1 (.inl rfl) results127 (.cons (.tmp rfl) .nil) rfl (cO 2)
def Bq (j:(List cd)->Option (List cd)) (r2:(List cd)) (e:(List cd)->Int->Option (List cd)) (d:List cd) (a:Int):Option (List cd) := G (decide ((a:Int)<(r2.length:Int))) (cm (λ(g:(List cd)->Option (List cd))=>T (cj d a) λ(q1:cd)=>T (vN q1) λ(r3:Bool)=>G (r3) (grd (gJ q1.Rune) <|T (Eo (cP q1.Rune)) λ(h:V)=>T (cj d a) λ(q2:cd)=>g (d.set (a:Int).toNat (⟨q2.Rune,h,q2.At⟩:cd))) (g d)) (λ(i:List cd)=>grd (I64 (a+1)) <|e i (a+1))) (j d)
def Es (a:V):Option (List cd) := cm (λ(e:(List cd)->Option (List cd))=>T (uK a) λ(r1:(List cd))=>T (Er r1) λ(r2:(List cd))=>bP (λ_ _=>none) (Bq e r2) bN r2 0) (λ(d:List cd)=>some d)
theorem VI {n:V} {r:(List cd)} (h:Es n=some r):Fn prog 89 [.string n] [] (λv0:Value=>v0) (λv0=>[fE v0 r]):=by
 refine Fn.intro func89 rfl ntmps89 (by simp) (λw0 K=>cJ ((List cd)×Value) h 2 rfl (λu b=>u b.1=some r) (λb=>[]) (λb=>[(3,b.2)]) (λb=>[fE b.2 b.1]) (λu h cut=>?_) ?_)
 ·refine I (O 1 rfl (cw (O 1 rfl (aU h λr1 M h=>ir [.string n] rfl dc rfl rfl rfl yi (yJ M) aC (λv2=>lF 0 rfl (λC=>aU h λr2 J h=>ir [v2] rfl dc rfl rfl rfl TQ (VH C J) (cO 1) (λe=>O 1 rfl (Y (cut (I (O 1 rfl (io 2 rfl dc rfl rfl aG (O 1 rfl (Y (ck (n9 ((List cd)×Int) (Bq u r2) (λa b=>a b.1 b.2=some r) (λb=>[]) (λb=>[(3,e),(9,e),(10,zI (r2.length:Int)),(11,zI b.2)]) (λb=>[fE e b.1]) (r2,0) h rfl (gl rfl) (ct [2] kr rfl) ?_))))))))))))))));rintro ag ⟨t,d⟩ h;exact I (E rfl dL (Y (bV (bu rfl h (λh=>bw (cu (cJ (List cd) h 0 rfl (λZ b=>Z b=some r) (λb=>[]) (λb=>[(3,e),(9,e),(10,zI (r2.length:Int)),(11,zI d)]) (λb=>[fE e b]) (λZ h cut=>cut (ck (I (O 1 rfl (aU h λq1 l h=>eN 0 l aG iN rfl dc rfl rfl rfl rfl (oM 0 ((d:Int).toNat) 0 q1 (ig q1) nC kO rfl dc rfl rfl (ei l) rfl rfl rfl (fZ sx rfl dc (λb1=>O 1 rfl (fI 1 (ig q1) (ig q1) iN rfl rfl rfl rfl rfl (show _<=_ by simp) rfl rfl (cw (ju 1 (ig q1) nC rfl dc rfl rfl rfl rfl (aU h λr3 H h=>dF (.bool r3) [.agg (ig q1).toArray] rfl dc rfl rfl rfl Az (Bl q1 H) (Y (bu rfl h (λh=>bX (O 2 rfl (ci kx rfl dc rfl (show _=0 from rfl) (bW 1 fU rfl dc rfl rfl rfl (bi h λm h=>dF (.int .i32 (cP q1.Rune)) [.int .i32 q1.Rune] rfl dc rfl rfl rfl DR (pc λw=>D5 q1.Rune w m.1 m.2) (aU h λs D h=>dF (.string s) [.int .i32 (cP q1.Rune)] rfl dc rfl rfl rfl TS (VG D) (aU h λq2 g h=>eN 0 g aG iN rfl dc rfl rfl rfl rfl (ci sZ rfl dc rfl (show _=((d:Int).toNat)*3+1 from rfl) (oN 0 ((d:Int).toNat) 1 q2 (⟨q2.Rune,s,q2.At⟩:cd) gV kO rfl rfl rfl rfl (ei g) rfl dc rfl (λ_ _=>rfl) (bC (cg (mD (t.set (d:Int).toNat (⟨q2.Rune,s,q2.At⟩:cd)) h 1)))))))))))) (λh=>bw (cg (mD t h 1))))))))))))))))) (λl5 h=>bX (bi h λW h=>E rfl (c8 (d+1) (ac _ W)) (O 1 rfl (bC (mD (l5,d+1) h 1)))))))) (λh=>dG (bS (bS (dH (mD (t,e) h 1)))))))))
 rintro⟨l1,v1⟩ h;refine I (O 2 rfl (Y (bO ?_)));cases h;exact eW [.tmp 2] v1 (.inl rfl) results89 (.cons (.tmp rfl) .nil) rfl (cO 1)
def vO (a:V):Option V := T (Es a) λ(r1:(List cd))=>T (yK r1) λ(r2:V)=>some r2
theorem Et {a:V} {r:V} (h:vO a=some r):eO prog 40 [.string a] (.string r):=by
 refine eO.intro func40 rfl ntmps40 (by simp) (λw0 K=>I (O 1 rfl (cw (O 1 rfl (aU h λr1 g h=>ir [.string a] rfl dc rfl rfl rfl Tx (VI g) aC (λv1=>lF 0 rfl (λd=>aU h λr2 e h=>kZ (.string r2) [v1] (Rd.nil:Rd _ _ []) rfl dc rfl rfl rfl Hb (HL d e) (.own (As:=[fE v1 r1]) (cO 1) (λ_ _ h=>pF kO (aL.1 h)) .nil) (O 1 rfl (Y (bO ?_))))))))));cases h;exact dt 2 results40
abbrev iv:V:=⟨#[195,159,115,115,32,195,166,97,101,32,195,184,111,32,195,176,100,32,195,190,116,104,32,196,145,100,32,196,167,104,32,196,177,105,32,196,179,105,106,32,196,184,113,32,197,128,108,32,197,130,108,32,197,137,110,32,197,139,110,103,32,197,147,111,101,32,197,167,116,32,197,191,115,32,207,130,207,131,32]⟩
def Eu (r1:Int):Option Bool := cm (λ(a:Bool->Option Bool)=>G (decide ((790:Int)<=r1)) (G (decide ((r1:Int)<=793)) (a (decide ((r1:Int)<=793))) (G (decide ((796:Int)<=r1)) (G (decide ((r1:Int)<=800)) (a (decide ((r1:Int)<=800))) (G (decide ((803:Int)<=r1)) (G (decide ((r1:Int)<=819)) (a (decide ((r1:Int)<=819))) (G (decide ((825:Int)<=r1)) (G (decide ((r1:Int)<=828)) (a (decide ((r1:Int)<=828))) (G (decide ((837:Int)<=r1)) (a (decide ((r1:Int)<=841))) (a false))) (G (decide ((837:Int)<=r1)) (a (decide ((r1:Int)<=841))) (a false)))) (G (decide ((825:Int)<=r1)) (G (decide ((r1:Int)<=828)) (a (decide ((r1:Int)<=828))) (G (decide ((837:Int)<=r1)) (a (decide ((r1:Int)<=841))) (a false))) (G (decide ((837:Int)<=r1)) (a (decide ((r1:Int)<=841))) (a false))))) (G (decide ((803:Int)<=r1)) (G (decide ((r1:Int)<=819)) (a (decide ((r1:Int)<=819))) (G (decide ((825:Int)<=r1)) (G (decide ((r1:Int)<=828)) (a (decide ((r1:Int)<=828))) (G (decide ((837:Int)<=r1)) (a (decide ((r1:Int)<=841))) (a false))) (G (decide ((837:Int)<=r1)) (a (decide ((r1:Int)<=841))) (a false)))) (G (decide ((825:Int)<=r1)) (G (decide ((r1:Int)<=828)) (a (decide ((r1:Int)<=828))) (G (decide ((837:Int)<=r1)) (a (decide ((r1:Int)<=841))) (a false))) (G (decide ((837:Int)<=r1)) (a (decide ((r1:Int)<=841))) (a false)))))) (G (decide ((796:Int)<=r1)) (G (decide ((r1:Int)<=800)) (a (decide ((r1:Int)<=800))) (G (decide ((803:Int)<=r1)) (G (decide ((r1:Int)<=819)) (a (decide ((r1:Int)<=819))) (G (decide ((825:Int)<=r1)) (G (decide ((r1:Int)<=828)) (a (decide ((r1:Int)<=828))) (G (decide ((837:Int)<=r1)) (a (decide ((r1:Int)<=841))) (a false))) (G (decide ((837:Int)<=r1)) (a (decide ((r1:Int)<=841))) (a false)))) (G (decide ((825:Int)<=r1)) (G (decide ((r1:Int)<=828)) (a (decide ((r1:Int)<=828))) (G (decide ((837:Int)<=r1)) (a (decide ((r1:Int)<=841))) (a false))) (G (decide ((837:Int)<=r1)) (a (decide ((r1:Int)<=841))) (a false))))) (G (decide ((803:Int)<=r1)) (G (decide ((r1:Int)<=819)) (a (decide ((r1:Int)<=819))) (G (decide ((825:Int)<=r1)) (G (decide ((r1:Int)<=828)) (a (decide ((r1:Int)<=828))) (G (decide ((837:Int)<=r1)) (a (decide ((r1:Int)<=841))) (a false))) (G (decide ((837:Int)<=r1)) (a (decide ((r1:Int)<=841))) (a false)))) (G (decide ((825:Int)<=r1)) (G (decide ((r1:Int)<=828)) (a (decide ((r1:Int)<=828))) (G (decide ((837:Int)<=r1)) (a (decide ((r1:Int)<=841))) (a false))) (G (decide ((837:Int)<=r1)) (a (decide ((r1:Int)<=841))) (a false)))))) (λ(x1:Bool)=>G (x1) (some true) (cm (λ(d:Bool->Option Bool)=>G (decide ((845:Int)<=r1)) (G (decide ((r1:Int)<=846)) (d (decide ((r1:Int)<=846))) (G (decide ((851:Int)<=r1)) (G (decide ((r1:Int)<=854)) (d (decide ((r1:Int)<=854))) (G (decide ((857:Int)<=r1)) (d (decide ((r1:Int)<=858))) (d false))) (G (decide ((857:Int)<=r1)) (d (decide ((r1:Int)<=858))) (d false)))) (G (decide ((851:Int)<=r1)) (G (decide ((r1:Int)<=854)) (d (decide ((r1:Int)<=854))) (G (decide ((857:Int)<=r1)) (d (decide ((r1:Int)<=858))) (d false))) (G (decide ((857:Int)<=r1)) (d (decide ((r1:Int)<=858))) (d false)))) (λ(x2:Bool)=>G (x2) (some true) (some false))))
theorem VJ {r1:Int} {r:Bool} (h:Eu r1=some r):eO prog 144 [.int .i32 r1] (.bool r):=by
 refine eO.intro func144 rfl ntmps144 (by simp) (λw0 K=>I (O 1 rfl (Y (bV (ck (cJ Bool h 0 rfl (λd b=>d b=some r) (λb=>[]) (λb=>[(0,.int .i32 r1),(3,.bool b)]) (λb=>[]) (λd h cut=>?_) ?_))))))
 ·refine cut (I (O 1 rfl (E rfl gw (O 1 rfl (du 6 rfl h (λh=>O 1 rfl (E rfl jd (O 2 rfl (Y (bu rfl h (λh=>bw (mD (decide ((r1:Int)<=793)) h 0)) (λh=>I (O 1 rfl (E rfl gw (O 1 rfl (du 12 rfl h (λh=>O 1 rfl (E rfl jd (O 2 rfl (Y (bu rfl h (λh=>bw (mD (decide ((r1:Int)<=800)) h 0)) (λh=>I (O 1 rfl (E rfl gw (O 1 rfl (du 18 rfl h (λh=>O 1 rfl (E rfl jd (O 2 rfl (Y (bu rfl h (λh=>bw (mD (decide ((r1:Int)<=819)) h 0)) (λh=>I (O 1 rfl (E rfl gw (O 1 rfl (du 24 rfl h (λh=>O 1 rfl (E rfl jd (O 2 rfl (Y (bu rfl h (λh=>bw (mD (decide ((r1:Int)<=828)) h 0)) (λh=>bX (O 1 rfl (E rfl gw (O 1 rfl (du 30 rfl h (λh=>O 1 rfl (E rfl jd (O 2 rfl (bC (mD (decide ((r1:Int)<=841)) h 0))))) (λh=>O 4 rfl (bC (mD false h 0))))))))))))) (λh=>O 4 rfl (Y (eU rfl (bX (O 1 rfl (E rfl gw (O 1 rfl (du 30 rfl h (λh=>O 1 rfl (E rfl jd (O 2 rfl (bC (mD (decide ((r1:Int)<=841)) h 0))))) (λh=>O 4 rfl (bC (mD false h 0))))))))))))))))))))) (λh=>O 4 rfl (Y (eU rfl (I (O 1 rfl (E rfl gw (O 1 rfl (du 24 rfl h (λh=>O 1 rfl (E rfl jd (O 2 rfl (Y (bu rfl h (λh=>bw (mD (decide ((r1:Int)<=828)) h 0)) (λh=>bX (O 1 rfl (E rfl gw (O 1 rfl (du 30 rfl h (λh=>O 1 rfl (E rfl jd (O 2 rfl (bC (mD (decide ((r1:Int)<=841)) h 0))))) (λh=>O 4 rfl (bC (mD false h 0))))))))))))) (λh=>O 4 rfl (Y (eU rfl (bX (O 1 rfl (E rfl gw (O 1 rfl (du 30 rfl h (λh=>O 1 rfl (E rfl jd (O 2 rfl (bC (mD (decide ((r1:Int)<=841)) h 0))))) (λh=>O 4 rfl (bC (mD false h 0))))))))))))))))))))))))))))) (λh=>O 4 rfl (Y (eU rfl (I (O 1 rfl (E rfl gw (O 1 rfl (du 18 rfl h (λh=>O 1 rfl (E rfl jd (O 2 rfl (Y (bu rfl h (λh=>bw (mD (decide ((r1:Int)<=819)) h 0)) (λh=>I (O 1 rfl (E rfl gw (O 1 rfl (du 24 rfl h (λh=>O 1 rfl (E rfl jd (O 2 rfl (Y (bu rfl h (λh=>bw (mD (decide ((r1:Int)<=828)) h 0)) (λh=>bX (O 1 rfl (E rfl gw (O 1 rfl (du 30 rfl h (λh=>O 1 rfl (E rfl jd (O 2 rfl (bC (mD (decide ((r1:Int)<=841)) h 0))))) (λh=>O 4 rfl (bC (mD false h 0))))))))))))) (λh=>O 4 rfl (Y (eU rfl (bX (O 1 rfl (E rfl gw (O 1 rfl (du 30 rfl h (λh=>O 1 rfl (E rfl jd (O 2 rfl (bC (mD (decide ((r1:Int)<=841)) h 0))))) (λh=>O 4 rfl (bC (mD false h 0))))))))))))))))))))) (λh=>O 4 rfl (Y (eU rfl (I (O 1 rfl (E rfl gw (O 1 rfl (du 24 rfl h (λh=>O 1 rfl (E rfl jd (O 2 rfl (Y (bu rfl h (λh=>bw (mD (decide ((r1:Int)<=828)) h 0)) (λh=>bX (O 1 rfl (E rfl gw (O 1 rfl (du 30 rfl h (λh=>O 1 rfl (E rfl jd (O 2 rfl (bC (mD (decide ((r1:Int)<=841)) h 0))))) (λh=>O 4 rfl (bC (mD false h 0))))))))))))) (λh=>O 4 rfl (Y (eU rfl (bX (O 1 rfl (E rfl gw (O 1 rfl (du 30 rfl h (λh=>O 1 rfl (E rfl jd (O 2 rfl (bC (mD (decide ((r1:Int)<=841)) h 0))))) (λh=>O 4 rfl (bC (mD false h 0))))))))))))))))))))))))))))))))))))) (λh=>O 4 rfl (Y (eU rfl (I (O 1 rfl (E rfl gw (O 1 rfl (du 12 rfl h (λh=>?_) (λh=>?_))))))))))))))
  ·exact O 1 rfl (E rfl jd (O 2 rfl (Y (bu rfl h (λh=>bw (mD (decide ((r1:Int)<=800)) h 0)) (λh=>I (O 1 rfl (E rfl gw (O 1 rfl (du 18 rfl h (λh=>O 1 rfl (E rfl jd (O 2 rfl (Y (bu rfl h (λh=>bw (mD (decide ((r1:Int)<=819)) h 0)) (λh=>I (O 1 rfl (E rfl gw (O 1 rfl (du 24 rfl h (λh=>O 1 rfl (E rfl jd (O 2 rfl (Y (bu rfl h (λh=>bw (mD (decide ((r1:Int)<=828)) h 0)) (λh=>bX (O 1 rfl (E rfl gw (O 1 rfl (du 30 rfl h (λh=>O 1 rfl (E rfl jd (O 2 rfl (bC (mD (decide ((r1:Int)<=841)) h 0))))) (λh=>O 4 rfl (bC (mD false h 0))))))))))))) (λh=>O 4 rfl (Y (eU rfl (bX (O 1 rfl (E rfl gw (O 1 rfl (du 30 rfl h (λh=>O 1 rfl (E rfl jd (O 2 rfl (bC (mD (decide ((r1:Int)<=841)) h 0))))) (λh=>O 4 rfl (bC (mD false h 0))))))))))))))))))))) (λh=>O 4 rfl (Y (eU rfl (I (O 1 rfl (E rfl gw (O 1 rfl (du 24 rfl h (λh=>O 1 rfl (E rfl jd (O 2 rfl (Y (bu rfl h (λh=>bw (mD (decide ((r1:Int)<=828)) h 0)) (λh=>bX (O 1 rfl (E rfl gw (O 1 rfl (du 30 rfl h (λh=>O 1 rfl (E rfl jd (O 2 rfl (bC (mD (decide ((r1:Int)<=841)) h 0))))) (λh=>O 4 rfl (bC (mD false h 0))))))))))))) (λh=>O 4 rfl (Y (eU rfl (bX (O 1 rfl (E rfl gw (O 1 rfl (du 30 rfl h (λh=>O 1 rfl (E rfl jd (O 2 rfl (bC (mD (decide ((r1:Int)<=841)) h 0))))) (λh=>O 4 rfl (bC (mD false h 0))))))))))))))))))))))))))))
  exact O 4 rfl (Y (eU rfl (I (O 1 rfl (E rfl gw (O 1 rfl (du 18 rfl h (λh=>O 1 rfl (E rfl jd (O 2 rfl (Y (bu rfl h (λh=>bw (mD (decide ((r1:Int)<=819)) h 0)) (λh=>I (O 1 rfl (E rfl gw (O 1 rfl (du 24 rfl h (λh=>O 1 rfl (E rfl jd (O 2 rfl (Y (bu rfl h (λh=>bw (mD (decide ((r1:Int)<=828)) h 0)) (λh=>bX (O 1 rfl (E rfl gw (O 1 rfl (du 30 rfl h (λh=>O 1 rfl (E rfl jd (O 2 rfl (bC (mD (decide ((r1:Int)<=841)) h 0))))) (λh=>O 4 rfl (bC (mD false h 0))))))))))))) (λh=>O 4 rfl (Y (eU rfl (bX (O 1 rfl (E rfl gw (O 1 rfl (du 30 rfl h (λh=>O 1 rfl (E rfl jd (O 2 rfl (bC (mD (decide ((r1:Int)<=841)) h 0))))) (λh=>O 4 rfl (bC (mD false h 0))))))))))))))))))))) (λh=>O 4 rfl (Y (eU rfl (I (O 1 rfl (E rfl gw (O 1 rfl (du 24 rfl h (λh=>O 1 rfl (E rfl jd (O 2 rfl (Y (bu rfl h (λh=>bw (mD (decide ((r1:Int)<=828)) h 0)) (λh=>bX (O 1 rfl (E rfl gw (O 1 rfl (du 30 rfl h (λh=>O 1 rfl (E rfl jd (O 2 rfl (bC (mD (decide ((r1:Int)<=841)) h 0))))) (λh=>O 4 rfl (bC (mD false h 0))))))))))))) (λh=>O 4 rfl (Y (eU rfl (bX (O 1 rfl (E rfl gw (O 1 rfl (du 30 rfl h (λh=>O 1 rfl (E rfl jd (O 2 rfl (bC (mD (decide ((r1:Int)<=841)) h 0))))) (λh=>O 4 rfl (bC (mD false h 0))))))))))))))))))))))))))
 refine λx1 h=>bu rfl h (λh=>?_) (λh=>?_)
 ·refine I (O 1 rfl (Y (bO (cK (bZ ?_)))));cases h;exact dt 2 results144
 refine cJ Bool h 0 rfl (λa b=>a b=some r) (λb=>[]) (λb=>[(34,.bool b)]) (λb=>[]) (λa h cut=>cut (I (O 1 rfl (E rfl gw (O 1 rfl (du 37 rfl h (λh=>O 1 rfl (E rfl jd (O 2 rfl (Y (bu rfl h (λh=>bw (mD (decide ((r1:Int)<=846)) h 0)) (λh=>I (O 1 rfl (E rfl gw (O 1 rfl (du 43 rfl h (λh=>O 1 rfl (E rfl jd (O 2 rfl (Y (bu rfl h (λh=>bw (mD (decide ((r1:Int)<=854)) h 0)) (λh=>bX (O 1 rfl (E rfl gw (O 1 rfl (du 49 rfl h (λh=>O 1 rfl (E rfl jd (O 2 rfl (bC (mD (decide ((r1:Int)<=858)) h 0))))) (λh=>O 4 rfl (bC (mD false h 0))))))))))))) (λh=>O 4 rfl (Y (eU rfl (bX (O 1 rfl (E rfl gw (O 1 rfl (du 49 rfl h (λh=>O 1 rfl (E rfl jd (O 2 rfl (bC (mD (decide ((r1:Int)<=858)) h 0))))) (λh=>O 4 rfl (bC (mD false h 0))))))))))))))))))))) (λh=>O 4 rfl (Y (eU rfl (I (O 1 rfl (E rfl gw (O 1 rfl (du 43 rfl h (λh=>O 1 rfl (E rfl jd (O 2 rfl (Y (bu rfl h (λh=>bw (mD (decide ((r1:Int)<=854)) h 0)) (λh=>bX (O 1 rfl (E rfl gw (O 1 rfl (du 49 rfl h (λh=>O 1 rfl (E rfl jd (O 2 rfl (bC (mD (decide ((r1:Int)<=858)) h 0))))) (λh=>O 4 rfl (bC (mD false h 0))))))))))))) (λh=>O 4 rfl (Y (eU rfl (bX (O 1 rfl (E rfl gw (O 1 rfl (du 49 rfl h (λh=>O 1 rfl (E rfl jd (O 2 rfl (bC (mD (decide ((r1:Int)<=858)) h 0))))) (λh=>O 4 rfl (bC (mD false h 0))))))))))))))))))))))))) (λx2 h=>bu rfl h (λh=>?_) (λh=>?_))
 ·refine I (O 1 rfl (Y (bO (cK (bZ ?_)))));cases h;exact dt 2 results144
 refine bw (cg (cu (I (O 1 rfl (Y (bO ?_))))));cases h;exact dt 2 results144
def vP (u1:dy):Option Bool := G (decide ((0:Int)<=u1.base)) (grd (gJ u1.base) <|some (((kind u1.base):Int)==1)) (some false)
theorem Ev (u1:dy) (_t _s:Hd) {r:Bool} (h:vP u1=some r):Fn prog 74 [.agg #[zI u1.at_,.int .u8 u1.broken,.int .i32 u1.base,_t.v,_s.v]] [fr _t.v u1.low,fr _s.v u1.high] (λ_b:Unit=>.bool r) (λ_b=>[fr _t.v u1.low,fr _s.v u1.high]):=by
 refine Fn.intro func74 rfl ntmps74 (by simp) (λw0 K=>I (lE rfl dc rfl (λb1=>O 1 rfl (cw (ci qH rfl dc rfl (show _=2 from rfl) (bW 2 fU rfl dc rfl rfl rfl (E rfl gw (O 1 rfl (du 6 rfl h (λh=>?_) (λh=>?_))))))))))
 ·refine ci qH rfl dc rfl (show _=2 from rfl) (bW 2 fU rfl dc rfl rfl rfl (bi h λa h=>dF (zI (kind u1.base)) [.int .i32 u1.base] rfl dc rfl rfl rfl Hg (pc λw=>AJ u1.base w a.1 a.2) (E rfl eZ (O 2 rfl (Y (bO ?_))))));cases h;exact eW [.tmp 2] () (.inl rfl) results74 (.cons (.tmp rfl) .nil) rfl (cO 2)
 refine O 6 rfl (Y (bO ?_));cases h;exact eW [.tmp 2] () (.inl rfl) results74 (.cons (.tmp rfl) .nil) rfl (cO 2)
def Bt (u1:dy) (r1:Int):Option dy := T (Eu r1) λ(r2:Bool)=>G (r2) (grd (u1.low.length+1<=2147483648) <|some (⟨(⟨u1.at_,u1.broken,u1.base,u1.low++[r1],u1.high⟩:dy).at_,(⟨u1.at_,u1.broken,u1.base,u1.low++[r1],u1.high⟩:dy).broken,(⟨u1.at_,u1.broken,u1.base,u1.low++[r1],u1.high⟩:dy).base,u1.low++[r1],u1.high⟩:dy)) (grd (u1.high.length+1<=2147483648) <|some (⟨(⟨u1.at_,u1.broken,u1.base,u1.low,u1.high++[r1]⟩:dy).at_,(⟨u1.at_,u1.broken,u1.base,u1.low,u1.high++[r1]⟩:dy).broken,(⟨u1.at_,u1.broken,u1.base,u1.low,u1.high++[r1]⟩:dy).base,u1.low,u1.high++[r1]⟩:dy))
theorem Nb (_L:Value) {g:List (dy×Hd×Hd)} {a:Nat} (u1:dy) (_t _s:Hd) (d:g[a]?=some (u1,(_t,_s))) {r1:Int} {r:dy} (h:Bt u1 r1=some r):Fn prog 117 [.pointer (some ⟨eS _L,a*5,none⟩),.int .i32 r1] [oV _L g,fr _t.v u1.low,fr _s.v u1.high] (λb:Hd×Hd=>.tuple #[]) (λb=>[oV _L (g.set a (r,(b.1,b.2))),fr b.1.v r.low,fr b.2.v r.high]):=by
 refine Fn.intro func117 rfl ntmps117 (by simp) (λw0 K=>I (O 1 rfl (aU h λr2 l h=>dF (.bool r2) [.int .i32 r1] rfl dc rfl rfl rfl TZ (VJ l) (Y (bu rfl h (λh=>?_) (λh=>?_))))))
 ·refine bX (O 2 rfl (iS rfl dc rfl (ci DK rfl dc rfl (show _=a*5+3 from rfl) (fl 0 a 3 (u1,(_t,_s)) yf re rfl dc rfl rfl d rfl dc rfl (O 1 rfl (hQ [(0,.tmp 11)] 21 [.int .i32 r1] rfl dc rfl (λ_=>by kernel_rfl) (λb1=>bi h λn h=>jJ 1 3 [r1] bH vB iq vu rfl dc rfl rfl rfl rfl rfl rfl n (λv1=>jk 1 rfl (λe t=>?_)))))))));subst t;refine iS rfl dc rfl (ci DK rfl dc rfl (show _=a*5+3 from rfl) (oN 0 a 3 (u1,(_t,_s)) ((⟨u1.at_,u1.broken,u1.base,u1.low++[r1],u1.high⟩:dy),(e,_s)) LG re rfl rfl rfl rfl d rfl dc rfl (λ_ _=>rfl) (bC (La (k:=0) rfl (Lh ((⟨u1.at_,u1.broken,u1.base,u1.low++[r1],u1.high⟩:dy),(e,_s)) ((⟨(⟨u1.at_,u1.broken,u1.base,u1.low++[r1],u1.high⟩:dy).at_,(⟨u1.at_,u1.broken,u1.base,u1.low++[r1],u1.high⟩:dy).broken,(⟨u1.at_,u1.broken,u1.base,u1.low++[r1],u1.high⟩:dy).base,u1.low++[r1],u1.high⟩:dy),(e,_s)) rfl re rfl) ?_))));cases h;exact eW [] (e,_s) (.inr rfl) results117 .nil rfl (cO 3)
 refine bX (O 2 rfl (iS rfl dc rfl (ci DL rfl dc rfl (show _=a*5+4 from rfl) (fl 0 a 4 (u1,(_t,_s)) yf re rfl dc rfl rfl d rfl dc rfl (O 1 rfl (hQ [(0,.tmp 21)] 21 [.int .i32 r1] rfl dc rfl (λ_=>by kernel_rfl) (λu=>bi h λm h=>jJ 2 3 [r1] bH vB iq vu rfl dc rfl rfl rfl rfl rfl rfl m (λv2=>jk 2 rfl (λhd2 s=>?_)))))))));subst s;refine iS rfl dc rfl (ci DL rfl dc rfl (show _=a*5+4 from rfl) (oN 0 a 4 (u1,(_t,_s)) ((⟨u1.at_,u1.broken,u1.base,u1.low,u1.high++[r1]⟩:dy),(_t,hd2)) LG re rfl rfl rfl rfl d rfl dc rfl (λ_ _=>rfl) (bC (La (k:=0) rfl (Lh ((⟨u1.at_,u1.broken,u1.base,u1.low,u1.high++[r1]⟩:dy),(_t,hd2)) ((⟨(⟨u1.at_,u1.broken,u1.base,u1.low,u1.high++[r1]⟩:dy).at_,(⟨u1.at_,u1.broken,u1.base,u1.low,u1.high++[r1]⟩:dy).broken,(⟨u1.at_,u1.broken,u1.base,u1.low,u1.high++[r1]⟩:dy).base,u1.low,u1.high++[r1]⟩:dy),(_t,hd2)) rfl re rfl) ?_))));cases h;exact eW [] (_t,hd2) (.inr rfl) results117 .nil rfl (cO 3)
def yN (d:(List (Int×cM))->Int->Option (List Int)) (a:List (Int×cM)) (r1:Int):Option (List Int) := G (!((cf r1 a).isSome)) (some ([r1]:List Int)) (T (d a (((cf r1 a).getD (⟨0,0⟩:cM)).e0)) λ(r2:(List Int))=>grd (r2.length+1<=2147483648) <|some (r2++[((cf r1 a).getD (⟨0,0⟩:cM)).e1]))
def wW (a:List (Int×cM)) (r1:Int):Option (List Int):=bP (λ_ _=>none) yN bN a r1
theorem VK (n:Nat):∀ {e:Nat} {a:List (Int×cM)} {r1:Int} {r:(List Int)} (_:bP (λ_ _=>none) yN n a r1=some r),Fn prog 96 [.map (some e),.int .i32 r1] [cH (λn:Int=>az .i32 n) (λp:cM=>br #[.int .i32 p.e0,.int .i32 p.e1]) e a] (λv0:Value=>v0) (λv0=>[cH (λn:Int=>az .i32 n) (λp:cM=>br #[.int .i32 p.e0,.int .i32 p.e1]) e a,fr v0 r]):=by
 induction n with
 |zero=>intro e a r1 r h;exact vt h
 |succ n j=>
 intro e a r1 r h;rw[jz] at h;revert j h;generalize bP (λ_ _=>none) yN n=rcall;refine λj h=>Fn.intro func96 rfl ntmps96 (by simp) (λw0 K=>I (O 1 rfl (cw (O 2 rfl (Dz 0 (λn:Int=>az .i32 n) (λp:cM=>br #[.int .i32 p.e0,.int .i32 p.e1]) r1 (⟨0,0⟩:cM) (kM.int bl) underlying112 kr rfl dc rfl rfl rfl (O 1 rfl (fF rfl dc rfl rfl (fF rfl dc rfl rfl (fZ GX rfl dc (λb1=>fI 1 [.int .i32 (((cf r1 a).getD (⟨0,0⟩:cM)).e0),.int .i32 (((cf r1 a).getD (⟨0,0⟩:cM)).e1)] [.int .i32 (((cf r1 a).getD (⟨0,0⟩:cM)).e0),.int .i32 (((cf r1 a).getD (⟨0,0⟩:cM)).e1)] LV rfl rfl rfl rfl rfl (show _<=_ by simp) rfl rfl (O 1 rfl (Y (bV (I (O 1 rfl (lh rfl dc rfl lj (Y (bu rfl h (λh=>?_) (λh=>?_)))))))))))))))))))
 ·refine I (O 1 rfl (hQ [(0,.tmp 15)] 21 [.int .i32 r1] rfl dc rfl (λ_=>by kernel_rfl) (λZ=>O 1 rfl (pd 2 ([r1]:List Int) rfl iq rfl (show 1<=maxLen by decide) (Y (bO (bZ ?_)))))));cases h;exact eW [.tmp 4] (.slice (some ⟨Z,0,none⟩) 1 1) (.inl rfl) results96 (.cons (.tmp rfl) .nil) rfl (ct [0,2] kr rfl)
 refine bw (cu (bV (aU h λr2 J h=>bi h λM h=>xQ 2 (let t:(Value×Nat)->List (Nat×Nat×Value):=λb=>[(0,17,.map (some e)),(1,18,zP b1),(2,19,.int .i32 (((cf r1 a).getD (⟨0,0⟩:cM)).e0)),(3,20,b.1),(4,21,.pointer (some ⟨b1,1,none⟩)),(5,22,.int .i32 (((cf r1 a).getD (⟨0,0⟩:cM)).e1)),(6,23,.slice (some ⟨b.2,0,none⟩) 1 1)];let w:(Nat->Prop)->(Value×Nat)->List bG:=λD b=>[cH (λn:Int=>az .i32 n) (λp:cM=>br #[.int .i32 p.e0,.int .i32 p.e1]) e a,cells b1 [.int .i32 (((cf r1 a).getD (⟨0,0⟩:cM)).e0),.int .i32 (((cf r1 a).getD (⟨0,0⟩:cM)).e1)] 123,eD D cT [(3,fr b.1 r2)],eD D cT [(6,cells b.2 [.int .i32 (((cf r1 a).getD (⟨0,0⟩:cM)).e1)] 21)]];?_))));have g:vI [3,6] w:=λi h D b=>cz rfl (cz rfl (cz (th rfl h) (cz (th rfl h) rfl)));refine xP (Value×Nat) 7 ((.slice none 0 0:Value),(0:Nat)) t w mixed kr kr dc (λ_=>rfl) (mX (cz qE (cz qE rfl))) (rI g (λ_=>rfl) (λ_=>rfl) 1 0 (λ_=>rfl) rfl (np g rfl (λ_=>rfl) (λ_=>rfl) (λD ⟨v1,s⟩ n d c u i=>⟨_,(mX (cz (eH (λl=>n (c 2 _ rfl (c 3 _ rfl l 2 dc) 1 dc)) gp) rfl)),qD dc lf mN rfl dc (eG (by rfl) rfl) rfl (show _=0 from rfl) (bf 1 u i)⟩) (np g rfl (λ_=>rfl) (λ_=>rfl) (λD ⟨v1,s⟩ n d c u i=>⟨_,(mX (cz (eH (λl=>n (c 3 _ rfl l 2 dc)) gp) rfl)),bW 1 fU rfl dc (aX 1 u d) rfl rfl (bf 2 u i)⟩) (nl ?_ (np g rfl (λ_=>rfl) (λ_=>rfl) (λD ⟨v1,s⟩ n d c u i=>⟨_,(uG (cz (eH (λl=>n (c 5 _ rfl (c 6 _ rfl l 5 dc) 4 dc)) gp) rfl)),qD dc lf mN rfl dc (eG (by rfl) rfl) rfl (show _=1 from rfl) (bf 4 u i)⟩) (np g rfl (λ_=>rfl) (λ_=>rfl) (λD ⟨v1,s⟩ n d c u i=>⟨_,(uG (cz (eH (λl=>n (c 6 _ rfl l 5 dc)) gp) rfl)),bW 1 fU rfl dc (aX 4 u d) rfl rfl (bf 5 u i)⟩) (nl ?_ qy))))))) ?_
 ·intro D b v hd W;obtain⟨H,s⟩:=b;exact lQ (mX (cz (eH v gp) rfl)) (ir [.map (some e),.int .i32 (((cf r1 a).getD (⟨0,0⟩:cM)).e0)] rfl dc rfl (dN (jY 0 rfl rfl (hd 0 dc)) (dN (jY 2 rfl rfl (hd 2 dc)) fR)) rfl Hf (j J) (cO 1) (λv1=>kL [cH (λn:Int=>az .i32 n) (λp:cM=>br #[.int .i32 p.e0,.int .i32 p.e1]) e a,cells b1 [.int .i32 (((cf r1 a).getD (⟨0,0⟩:cM)).e0),.int .i32 (((cf r1 a).getD (⟨0,0⟩:cM)).e1)] 123,cT,eD D cT [(6,cells s [.int .i32 (((cf r1 a).getD (⟨0,0⟩:cM)).e1)] 21)],fr v1 r2] (ct [4,1,2,3,5] kr rfl) (rv 2 rfl rfl (nB (H,s) (v1,s) 3 (by rfl) (by rfl) rfl (D8 (eT (λl=>absurd l v) (D8 rfl))) (mX (cz (jv (kv rfl) rfl) (cz (jA (by rfl)) rfl)))))))
 ·intro D b v hd W;obtain⟨v1,C⟩:=b;exact lQ (uG (cz (eH v gp) rfl)) (hQ [(0,.tmp 22)] 21 [.int .i32 (((cf r1 a).getD (⟨0,0⟩:cM)).e1)] rfl dc (gW (jY 5 rfl rfl (hd 5 dc)) sM) (λ_=>by kernel_rfl) (λs=>rv 3 rfl rfl (nB (v1,C) (v1,s) 6 (by rfl) (by rfl) rfl (HD (eT (λl=>absurd l v) rfl)) (mX (cz (jA (by rfl)) (cz (jv (kv rfl) rfl) rfl))))))
 intro D b hall;obtain⟨v1,s⟩:=b;refine lQ (mX (cz (jv (hall 3 dc) rfl) (cz (jv (hall 6 dc) rfl) rfl))) (jJ 2 3 [((cf r1 a).getD (⟨0,0⟩:cM)).e1] bH vB iq vu rfl dc rfl rfl rfl rfl rfl rfl M (λv2=>O 1 rfl (Y (bO ?_))));cases h;exact eW [.tmp 4] v2 (.inl rfl) results96 (.cons (.tmp rfl) .nil) rfl (ct [0,2] kr rfl)
theorem Nc {a:Nat} {d:List (Int×cM)} {r1:Int} {r:(List Int)} (h:wW d r1=some r):Fn prog 96 [.map (some a),.int .i32 r1] [cH (λn:Int=>az .i32 n) (λp:cM=>br #[.int .i32 p.e0,.int .i32 p.e1]) a d] (λv0:Value=>v0) (λv0=>[cH (λn:Int=>az .i32 n) (λp:cM=>br #[.int .i32 p.e0,.int .i32 p.e1]) a d,fr v0 r]):=by
 unfold wW at h;exact VK bN  h
def Ew (u1:dy):Option V := grd ((ae u1.base).size+(kl u1.low).size<=9223372036854775807) <|grd (((ae u1.base)++(kl u1.low)).size+(kl u1.high).size<=9223372036854775807) <|some (((ae u1.base)++(kl u1.low))++(kl u1.high))
theorem VL (u1:dy) (_t _s:Hd) {r:V} (h:Ew u1=some r):Fn prog 107 [.agg #[zI u1.at_,.int .u8 u1.broken,.int .i32 u1.base,_t.v,_s.v]] [fr _t.v u1.low,fr _s.v u1.high] (λ_b:Unit=>.string r) (λ_b=>[fr _t.v u1.low,fr _s.v u1.high]):=by
 refine Fn.intro func107 rfl ntmps107 (by simp) (λw0 K=>I (lE rfl dc rfl (λb1=>O 1 rfl (cw (ci qH rfl dc rfl (show _=2 from rfl) (bW 2 fU rfl dc rfl rfl rfl (jI rfl dc rfl (nM bl am) (ci DK rfl dc rfl (show _=3 from rfl) (bW 2 yf rfl dc rfl rfl rfl (GA (k:=0) rfl dc rfl rfl bH bl am (bi h λd h=>E rfl (ni d) (ci DL rfl dc rfl (show _=4 from rfl) (bW 2 yf rfl dc rfl rfl rfl (GA (k:=1) rfl dc rfl rfl bH bl am (bi h λa h=>E rfl (ni a) (O 1 rfl (Y (bO ?_))))))))))))))))));cases h;exact eW [.tmp 2] () (.inl rfl) results107 (.cons (.tmp rfl) .nil) rfl (cO 2)
def HO (u1:dy) (k:Option V) (j:Int->Bool->Nat->Option V) (a:Int) (d:Bool) (h:Nat):Option V := G (decide (h<(fK iv.data.toList).length)) (T ((fK iv.data.toList)[h]?) λ(p1:Pc)=>cm (λ(e:Int->Option V)=>G (((p1.r:Int):Int)==32) (G (decide ((0:Int)<=a)) (grd (0<=(a:Int)/\(a:Int)<=(p1.i:Int)/\((p1.i:Int):Int)<=(iv.size:Int)) <|some (c6 iv a (p1.i:Int))) (G (((p1.r:Int):Int)==32) (e a) (G (d) (G (((p1.r:Int):Int)==(cP u1.base)) (grd (I64 ((p1.i:Int)+((ae (p1.r:Int)).size:Int))) <|e ((p1.i:Int)+((ae (p1.r:Int)).size:Int))) (e a)) (e a)))) (G (((p1.r:Int):Int)==32) (e a) (G (d) (G (((p1.r:Int):Int)==(cP u1.base)) (grd (I64 ((p1.i:Int)+((ae (p1.r:Int)).size:Int))) <|e ((p1.i:Int)+((ae (p1.r:Int)).size:Int))) (e a)) (e a)))) (λ(g:Int)=>j g (((p1.r:Int):Int)==32) (h+1))) (k)
def Bu (u1:dy):Option V := T (vP u1) λ(r1:Bool)=>G (!r1) (some (ae u1.base)) (cm (λ(a:Option V)=>grd (gJ u1.base) <|bP (λ_ _ _=>none) (HO u1 a) bN (-1) true 0) (some (ae (cP u1.base))))
theorem VM (u1:dy) (_t _s:Hd) {r:V} (h:Bu u1=some r):Fn prog 104 [.agg #[zI u1.at_,.int .u8 u1.broken,.int .i32 u1.base,_t.v,_s.v]] [fr _t.v u1.low,fr _s.v u1.high] (λ_b:Unit=>.string r) (λ_b=>[fr _t.v u1.low,fr _s.v u1.high]):=by
 refine Fn.intro func104 rfl ntmps104 (by simp) (λw0 K=>I (lE rfl dc rfl (λb1=>O 1 rfl (Y (bV (I (ju 2 [zI u1.at_,.int .u8 u1.broken,.int .i32 u1.base,_t.v,_s.v] s7 rfl dc rfl rfl rfl rfl (aU h λr1 D h=>ru (.bool r1) [.agg #[zI u1.at_,.int .u8 u1.broken,.int .i32 u1.base,_t.v,_s.v]] rfl dc rfl rfl rfl DS (Ev u1 _t _s D) [0,1] kr rfl (lh rfl dc rfl lj (Y (bu rfl h (λh=>?_) (λh=>?_))))))))))))
 ·refine I (ci qH rfl dc rfl (show _=2 from rfl) (bW 2 fU rfl dc rfl rfl rfl (jI rfl dc rfl (nM bl am) (O 1 rfl (Y (bO (bZ ?_)))))));cases h;exact eW [.tmp 2] () (.inl rfl) results104 (.cons (.tmp rfl) .nil) rfl (cO 2)
 refine bw (cu (cJ Unit h 3 rfl (λu b=>u=some r) (λb=>[]) (λb=>[(3,.int .i32 (cP u1.base))]) (λb=>[fr _t.v u1.low,fr _s.v u1.high]) (λu h cut=>?_) ?_))
 ·refine I (ci qH rfl dc rfl (show _=2 from rfl) (bW 2 fU rfl dc rfl rfl rfl (bi h λn h=>dF (.int .i32 (cP u1.base)) [.int .i32 u1.base] rfl dc rfl rfl rfl DU (pc λw=>AH u1.base w n.1 n.2) (O 1 rfl (cw (O 1 rfl (cw (O 1 rfl (Y (cut (I (wO am rfl dc rfl (λt=>Y (ck (n9 (Int×Bool×Nat) (HO u1 u) (λa b=>a b.1 b.2.1 b.2.2=some r) (λb=>[]) (λb=>[(3,.int .i32 (cP u1.base)),(4,zI b.1),(5,.bool b.2.1),(17,zP t)]) (λb=>[fr _t.v u1.low,fr _s.v u1.high,obj t (.stringIter iv (n8 iv b.2.2))]) ((-1),true,0) (by exact h) rfl (gl rfl) (ct [0,1,3] kr rfl) ?_)))))))))))))));rintro ag ⟨d,W,l⟩ h;unfold HO at h;refine I (vx (decide (l<(fK iv.data.toList).length)) (λe=>?_) (λe=>?_))
  ·have h:=pY e h;refine aU h λp1 C h=>wP 2 l p1 rfl dc rfl rfl C (fF rfl dc rfl rfl (Y (bV (jy rfl (bw (cu (ck (cJ Int h 1 rfl (λZ b=>Z b=some r) (λb=>[]) (λb=>[(3,.int .i32 (cP u1.base)),(4,zI b),(7,.int .i32 (p1.r:Int)),(17,zP t)]) (λb=>[fr _t.v u1.low,fr _s.v u1.high,obj t (.stringIter iv (n8 iv (l+1)))]) (λZ h cut=>?_) ?_))))))))
   ·refine I (fF rfl dc rfl rfl (fF rfl dc rfl rfl (O 2 rfl (Y (cut (ck (I (O 1 rfl (E rfl eZ (O 1 rfl (du 25 rfl h (λh=>?_) (λh=>?_))))))))))))
    ·refine O 1 rfl (E rfl gw (O 2 rfl (Y (bu rfl h (λh=>?_) (λh=>?_)))))
     ·refine I (O 2 rfl (bi h λM h=>jj rfl dc rfl rfl rfl (lP d (p1.i:Int) am (.inr rfl) (.inr rfl) M) (O 1 rfl (Y (bO (cK (bZ (cK (bZ (cK (bZ ?_)))))))))));cases h;exact eW [.tmp 2] () (.inl rfl) results104 (.cons (.tmp rfl) .nil) rfl (cO 2)
     exact I (O 1 rfl (E rfl eZ (O 1 rfl (Y (bu rfl h (λh=>bw (cg (mD d h 3))) (λh=>I (O 2 rfl (du 37 rfl h (λh=>O 2 rfl (E rfl eZ (O 2 rfl (Y (bu rfl h (λh=>bX (O 2 rfl (jI rfl dc rfl (nM bl am) (mw rfl dc rfl am (bi h λJ h=>E rfl (c8 ((p1.i:Int)+((ae (p1.r:Int)).size:Int)) (ac _ J)) (O 1 rfl (bC (cg (mD ((p1.i:Int)+((ae (p1.r:Int)).size:Int)) h 3))))))))) (λh=>bw (cg (mD d h 3)))))))) (λh=>O 5 rfl (Y (eU rfl (bw (cg (mD d h 3))))))))))))))
    exact O 4 rfl (Y (eU rfl (I (O 1 rfl (E rfl eZ (O 1 rfl (Y (bu rfl h (λh=>bw (cg (mD d h 3))) (λh=>I (O 2 rfl (du 37 rfl h (λh=>O 2 rfl (E rfl eZ (O 2 rfl (Y (bu rfl h (λh=>bX (O 2 rfl (jI rfl dc rfl (nM bl am) (mw rfl dc rfl am (bi h λH h=>E rfl (c8 ((p1.i:Int)+((ae (p1.r:Int)).size:Int)) (ac _ H)) (O 1 rfl (bC (cg (mD ((p1.i:Int)+((ae (p1.r:Int)).size:Int)) h 3))))))))) (λh=>bw (cg (mD d h 3)))))))) (λh=>O 5 rfl (Y (eU rfl (bw (cg (mD d h 3)))))))))))))))))
   exact λg h=>bX (O 1 rfl (E rfl eZ (O 1 rfl (bC (cg (mD (g,((p1.r:Int):Int)==32,l+1) h 3))))))
  have h:=pZ e h;exact wQ 2 l rfl dc rfl rfl (jT (of_decide_eq_false e)) (fF rfl dc rfl rfl (Y (bV (eU rfl (dG (bS (bS (dH (mD () h 2)))))))))
 refine λ_ h=>I (O 1 rfl (jI rfl dc rfl (nM bl am) (O 1 rfl (Y (bO ?_)))));cases h;exact eW [.tmp 2] () (.inl rfl) results104 (.cons (.tmp rfl) .nil) rfl (cO 2)
abbrev lG:V:=⟨#[204,128,65,195,128,69,195,136,73,195,140,79,195,146,85,195,153,97,195,160,101,195,168,105,195,172,111,195,178,117,195,185,208,149,208,128,208,152,208,141,208,181,209,144,208,184,209,157,204,129,65,195,129,69,195,137,73,195,141,79,195,147,85,195,154,89,195,157,97,195,161,101,195,169,105,195,173,111,195,179,117,195,186,121,195,189,67,196,134,76,196,185,78,197,131,82,197,148,83,197,154,90,197,185,99,196,135,108,196,186,110,197,132,114,197,149,115,197,155,122,197,186,206,145,206,134,206,149,206,136,206,151,206,137,206,153,206,138,206,159,206,140,206,165,206,142,206,169,206,143,206,177,206,172,206,181,206,173,206,183,206,174,206,185,206,175,206,191,207,140,207,133,207,141,207,137,207,142,208,147,208,131,208,154,208,140,208,179,209,147,208,186,209,156,207,138,206,144,207,139,206,176,204,130,65,195,130,69,195,138,73,195,142,79,195,148,85,195,155,97,195,162,101,195,170,105,195,174,111,195,180,117,195,187,67,196,136,71,196,156,72,196,164,74,196,180,83,197,156,87,197,180,89,197,182,99,196,137,103,196,157,104,196,165,106,196,181,115,197,157,119,197,181,121,197,183,204,131,65,195,131,78,195,145,79,195,149,97,195,163,110,195,177,111,195,181,73,196,168,85,197,168,105,196,169,117,197,169,204,132,65,196,128,69,196,146,73,196,170,79,197,140,85,197,170,97,196,129,101,196,147,105,196,171,111,197,141,117,197,171,204,134,65,196,130,69,196,148,71,196,158,73,196,172,79,197,142,85,197,172,97,196,131,101,196,149,103,196,159,105,196,173,111,197,143,117,197,173,208,152,208,153,208,163,208,142,208,184,208,185,209,131,209,158,204,135,67,196,138,69,196,150,71,196,160,73,196,176,90,197,187,99,196,139,101,196,151,103,196,161,122,197,188,204,136,65,195,132,69,195,139,73,195,143,79,195,150,85,195,156,97,195,164,101,195,171,105,195,175,111,195,182,117,195,188,121,195,191,89,197,184,208,149,208,129,208,134,208,135,208,181,209,145,209,150,209,151,206,153,206,170,206,165,206,171,206,185,207,138,207,133,207,139,204,138,65,195,133,85,197,174,97,195,165,117,197,175,204,139,79,197,144,85,197,176,111,197,145,117,197,177,204,140,67,196,140,68,196,142,69,196,154,76,196,189,78,197,135,82,197,152,83,197,160,84,197,164,90,197,189,99,196,141,100,196,143,101,196,155,108,196,190,110,197,136,114,197,153,115,197,161,116,197,165,122,197,190,204,167,67,195,135,71,196,162,75,196,182,76,196,187,78,197,133,82,197,150,83,197,158,84,197,162,99,195,167,103,196,163,107,196,183,108,196,188,110,197,134,114,197,151,115,197,159,116,197,163,204,168,65,196,132,69,196,152,73,196,174,85,197,178,97,196,133,101,196,153,105,196,175,117,197,179]⟩
def HP (e:Int->Int->Bool->Nat->Option (List (cM×Int))) (h:Int) (j:Int) (a:Bool) (g:Nat):Option (List (cM×Int)) := G (decide (g<(fK lG.data.toList).length)) (T ((fK lG.data.toList)[g]?) λ(d:Pc)=>cm (λ(k:Int->Option (List (cM×Int)))=>grd (gJ (d.r:Int)) <|G (((kind (d.r:Int)):Int)==2) (e h (d.r:Int) true (g+1)) (G (a) (k (d.r:Int)) (wE ((⟨h,j⟩:cM),(d.r:Int)) <|k h))) (λ(i:Int)=>e i j (!a) (g+1))) (some [])
def HQ  : Option (List (cM×Int)) := bP (λ_ _ _ _=>none) (HP) bN 0 0 true 0
theorem VN  {xs:(List (cM×Int))} (h:HQ=some xs):uu prog 116 [] (λq:cM×Int=>[.agg #[.int .i32 q.1.e0,.int .i32 q.1.e1],.int .i32 q.2]) xs []:=by
 unfold HQ at h;refine uu.intro func116 rfl ntmps116 (by simp) (λl w0 K Ia X a3 hy=>?_);obtain⟨r0,H⟩:∃r,xs=[]++r:=⟨xs,rfl⟩;have a1:xs=r0:=H;rw[a1] at h;refine I (fZ GX rfl dc (λb1=>cw (O 1 rfl (cw (wO am rfl dc rfl (λW=>Y (ck (fP (Int×Int×Bool×Nat×(List (cM×Int))×(List (cM×Int))) (HP) (λa b=>a b.1 b.2.1 b.2.2.1 b.2.2.2.1=some b.2.2.2.2.2/\xs=b.2.2.2.2.1++b.2.2.2.2.2) (λb=>[]) (λb=>[(0,.func (.yield l) #[] #[]),(2,zP b1),(3,.bool b.2.2.1),(6,zP W)]) (λb=>[Ia b.2.2.2.2.1,cells b1 [.int .i32 b.1,.int .i32 b.2.1] 123,obj W (.stringIter lG (n8 lG b.2.2.2.1))]) (0,0,true,0,([]:List (cM×Int)),r0) ⟨h,H⟩ 3 ?_))))))));rintro a4 ⟨t,s,g,C,d,D⟩ ⟨h,j⟩;unfold HP at h;refine I (vx (decide (C<(fK lG.data.toList).length)) (λn=>?_) (λn=>?_))
 ·have h:=pY n h;refine aU h λe a2 h=>wP 2 C e rfl dc rfl rfl a2 (fF rfl dc rfl rfl (Y (bV (jy rfl (bw (cu (ck (cJ (Int×(List (cM×Int))×(List (cM×Int))) h 1 rfl (λj1 b=>j1 b.1=some b.2.2/\xs=b.2.1++b.2.2) (λb=>[]) (λb=>[(0,.func (.yield l) #[] #[]),(2,zP b1),(3,.bool g),(6,zP W)]) (λb=>[Ia b.2.1,cells b1 [.int .i32 b.1,.int .i32 s] 123,obj W (.stringIter lG (n8 lG (C+1)))]) (λj1 h cut=>?_) ?_))))))))
  ·refine I (fF rfl dc rfl rfl (O 1 rfl (Y (cut (ck (I (O 1 rfl (bi h λJ h=>dF (zI (kind (e.r:Int))) [.int .i32 (e.r:Int)] rfl dc rfl rfl rfl Hg (pc λw=>AJ (e.r:Int) w J.1 J.2) (E rfl eZ (O 1 rfl (Y (bu rfl h (λh=>I (O 1 rfl (qD dc lf mN rfl dc rfl rfl (show _=1 from rfl) (fJ 1 [.int .i32 t,.int .i32 (e.r:Int)] mN rfl rfl rfl rfl rfl (λ_ _=>rfl) rfl (O 1 rfl (Y (dG (Da dc (bS (dH (mD (t,(e.r:Int),true,C+1,d,D) ⟨h,j⟩ 3))))))))))) (λh=>I (O 2 rfl (Y (bu rfl h (λh=>bX (O 1 rfl (qD dc lf mN rfl dc rfl rfl (show _=0 from rfl) (fJ 1 [.int .i32 (e.r:Int),.int .i32 s] mN rfl rfl rfl rfl rfl (λ_ _=>rfl) rfl (bC (cg (mD ((e.r:Int),d,D) ⟨h,j⟩ 3))))))) (λh=>I (O 1 rfl (ju 1 [.int .i32 t,.int .i32 s] Au rfl dc rfl rfl rfl rfl (O 1 rfl ?_))))))))))))))))))));obtain⟨i,a0,h⟩:=xS h;have u:xs=d++((⟨t,s⟩:cM),(e.r:Int))::i:=by rw[j,a0]
   refine xD 0 hy rfl dc rfl u rfl rfl ?_ ?_
   ·have ao:xs=(d++[((⟨t,s⟩:cM),(e.r:Int))])++i:=by rw[u];simp
    exact lh rfl dc rfl lj (O 1 rfl (Y (eU rfl (bw (cg (mD (t,d++[((⟨t,s⟩:cM),(e.r:Int))],i) ⟨h,ao⟩ 3))))))
   exact lh rfl dc rfl lj (O 1 rfl (Y (jy rfl (bO (cK (bZ (cK (bZ (cK (xE (ds:=[]) d ((⟨t,s⟩:cM),(e.r:Int)) i u (.inl rfl) aC results116 (cO 1)))))))))))
  rintro⟨ag,M,Z⟩ ⟨h,aw⟩;exact bX (O 1 rfl (lh rfl dc rfl lj (O 1 rfl (bC (cg (mD (ag,s,!g,C+1,M,Z) ⟨h,aw⟩ 3))))))
 have h:=pZ n h;refine wQ 2 C rfl dc rfl rfl (jT (of_decide_eq_false n)) (fF rfl dc rfl rfl (Y (bV (eU rfl (dG (bS (bS (dH ?_))))))));cases h;exact zY (ds:=[]) (.inr rfl) aC results116 (aI Ia (j.trans (aE _))) (cO 1)
def Bv (x1:cM×Int) (e:(List (cM×Int))->(List (Int×cM))->Option ((List (cM×Int))×(List (Int×cM)))) (d:List (cM×Int)) (a:List (Int×cM)):Option ((List (cM×Int))×(List (Int×cM))) := e (jm x1.1 x1.2 d) (jm x1.2 x1.1 a)
def Bw  : Option ((List (cM×Int))×(List (Int×cM))) := cm (λ(j:(List (cM×Int))->(List (Int×cM))->Option ((List (cM×Int))×(List (Int×cM))))=>T (HQ) λ(h:(List (cM×Int)))=>cm (λ(i:(List (cM×Int))->(List (Int×cM))->Option ((List (cM×Int))×(List (Int×cM))))=>jZ i (Bv) h ([]:List (cM×Int)) ([]:List (Int×cM))) (λ(e:List (cM×Int)) (a:List (Int×cM))=>j e a)) (λ(g:List (cM×Int)) (d:List (Int×cM))=>some (g,d))
theorem HR  {r:((List (cM×Int))×(List (Int×cM)))} (h:Bw=some r):Fn prog 70 [] [] (λb:Nat×Nat=>.tuple #[.map (some b.1),.map (some b.2)]) (λb=>[cH (λp:cM=>br #[.int .i32 p.e0,.int .i32 p.e1]) (λn:Int=>az .i32 n) b.1 r.1,cH (λn:Int=>az .i32 n) (λp:cM=>br #[.int .i32 p.e0,.int .i32 p.e1]) b.2 r.2]):=by
 refine Fn.intro func70 rfl ntmps70 (by simp) (λw0 K=>vm (cJ ((List (cM×Int))×(List (Int×cM))×Nat×Nat×Nat×Nat×(List Nat)) h 2 rfl (λj1 b=>j1 b.1 b.2.1=some r) (λb=>qW b.2.2.2.2.2.2) (λb=>[(2,zP b.2.2.1),(3,zP b.2.2.2.2.1)]) (λb=>[cells b.2.2.1 [.map (some b.2.2.2.1)] 111,cH (λp:cM=>br #[.int .i32 p.e0,.int .i32 p.e1]) (λn:Int=>az .i32 n) b.2.2.2.1 b.1,cells b.2.2.2.2.1 [.map (some b.2.2.2.2.2.1)] 112,cH (λn:Int=>az .i32 n) (λp:cM=>br #[.int .i32 p.e0,.int .i32 p.e1]) b.2.2.2.2.2.1 b.2.1,iR ((b.2.2.2.2.2.2:List Nat).map iJ)]) (λj1 h cut=>?_) ?_))
 ·refine I (O 2 rfl (cw (xV (λp:cM=>br #[.int .i32 p.e0,.int .i32 p.e1]) (λn:Int=>az .i32 n) rfl dc (λJ=>xV (λn:Int=>az .i32 n) (λp:cM=>br #[.int .i32 p.e0,.int .i32 p.e1]) rfl dc (λH=>fZ LO rfl dc (λb7=>fZ LQ rfl dc (λb8=>fJ 3 [.map (some J)] LN rfl rfl rfl rfl rfl (λ_ _=>rfl) rfl (fJ 4 [.map (some H)] LP rfl rfl rfl rfl rfl (λ_ _=>rfl) rfl (Y (cut (ck (aU h λao a6 h=>tg h λW a0 h=>wx (cM×Int) ((List (cM×Int))×(List (Int×cM))) Unit Nat [8,9] Ro.nil rfl TK (VN a6) (λpre b=>∀post,ao=pre++post->jZ W (Bv) post b.1 b.2=some r) (λpre b=>[cells b7 [.map (some J)] 111,cH (λp:cM=>br #[.int .i32 p.e0,.int .i32 p.e1]) (λn:Int=>az .i32 n) J b.1,cells b8 [.map (some H)] 112,cH (λn:Int=>az .i32 n) (λp:cM=>br #[.int .i32 p.e0,.int .i32 p.e1]) H b.2]) (λc pre g=>False) (λc pre g=>[]) (λpre x b j=>[(0,.map none),(1,.map none),(2,zP b7),(3,zP b8),(4,zP j),(5,.int .i32 x.2)]) (λpre x b j=>[cells b7 [.map (some J)] 111,cH (λp:cM=>br #[.int .i32 p.e0,.int .i32 p.e1]) (λn:Int=>az .i32 n) J b.1,cells b8 [.map (some H)] 112,cH (λn:Int=>az .i32 n) (λp:cM=>br #[.int .i32 p.e0,.int .i32 p.e1]) H b.2,cells j [.int .i32 x.1.e0,.int .i32 x.1.e1] 123]) (([]:List (cM×Int)),([]:List (Int×cM))) (λpost e=>by rw[bj] at e;subst e;exact h) (ct [3,1,4,2] kr rfl) trivial (λ_=>rfl) dc ?_ ?_ ?_ ?_))))))))))))
  ·rintro lp rc pre x1 post ⟨s,l⟩ w1 K1 C aw a5 t;exact I (fZ GX rfl dc (λb9=>fI 4 [.int .i32 x1.1.e0,.int .i32 x1.1.e1] [.int .i32 x1.1.e0,.int .i32 x1.1.e1] LV rfl rfl rfl rfl rfl (show _<=_ by simp) rfl rfl (Y (bX (O 1 rfl (bC (λa w ha hw=>⟨b9,(gl rfl) _ _ _ ha,hw.weaken (cO 5)⟩)))))))
  ·rintro lp rc pre x1 v ⟨s,l⟩ a4 w1 K1 C aw a5 t;have h:=t (x1::v) C;obtain⟨a7,M⟩:∃ag,ag=jZ W (Bv) v:=⟨_,rfl⟩;have h:Bv x1 a7 s l=some r:=by have h2:=h;rw[qn,<-M] at h2;exact h2
   unfold Bv at h;exact ck (Dh Unit 7 6 _ [(0,10,.map (some J)),(1,11,.agg #[.int .i32 x1.1.e0,.int .i32 x1.1.e1]),(2,12,.map (some H)),(3,13,.int .i32 x1.2),(4,14,.int .i32 x1.2),(5,15,.agg #[.int .i32 x1.1.e0,.int .i32 x1.1.e1])] (λ_b=>[]) (λ_b=>[cells b7 [.map (some J)] 111,cH (λp:cM=>br #[.int .i32 p.e0,.int .i32 p.e1]) (λn:Int=>az .i32 n) J (jm x1.1 x1.2 s),cells b8 [.map (some H)] 112,cH (λn:Int=>az .i32 n) (λp:cM=>br #[.int .i32 p.e0,.int .i32 p.e1]) H l,cells a4 [.int .i32 x1.1.e0,.int .i32 x1.1.e1] 123]) mixed kr kr rfl dc dc (by rfl) kr kr (fw (λD n d c u i=>bW 0 Aq rfl dc (eG (by rfl) rfl) rfl rfl (bf 0 u i)) (fw (λD n d c u i=>ju 4 [.int .i32 x1.1.e0,.int .i32 x1.1.e1] Au rfl dc (eG (by rfl) rfl) rfl rfl rfl (bf 1 u i)) (fw (λD n d c u i=>bW 2 DJ rfl dc (eG (by rfl) rfl) rfl rfl (bf 2 u i)) (p6 2 3 rfl (fw (λD n d c u i=>ju 4 [.int .i32 x1.1.e0,.int .i32 x1.1.e1] Au rfl dc (eG (by rfl) rfl) rfl rfl rfl (bf 5 u i)) (fA fX)))))) (λ_b=>(fw (λD n d c u i=>bW 0 Aq rfl dc (eG (by rfl) rfl) rfl rfl (bf 0 u i)) (fw (λD n d c u i=>ju 4 [.int .i32 x1.1.e0,.int .i32 x1.1.e1] Au rfl dc (eG (by rfl) rfl) rfl rfl rfl (bf 1 u i)) (fw (λD n d c u i=>bW 2 DJ rfl dc (eG (by rfl) rfl) rfl rfl (bf 2 u i)) (p6 2 3 rfl (fw (λD n d c u i=>ju 4 [.int .i32 x1.1.e0,.int .i32 x1.1.e1] Au rfl dc (eG (by rfl) rfl) rfl rfl rfl (bf 5 u i)) (fA fX))))))) (λD hn hd a9=>xW 1 (λp:cM=>br #[.int .i32 p.e0,.int .i32 p.e1]) (λn:Int=>az .i32 n) x1.1 x1.2 (GG (λp:cM=>p.e0) (λp:cM=>p.e1) (λa b h1 h2=>by cases a;cases b;simp_all) lf bl mN) underlying111 rfl (jY 0 kr rfl (hd 0 dc)) (jY 1 kr rfl (hd 1 dc)) (jY 4 kr rfl (hd 4 dc)) rfl (λa w ha hw=>⟨(),ha,hw⟩)) (λ_b=>xW 3 (λn:Int=>az .i32 n) (λp:cM=>br #[.int .i32 p.e0,.int .i32 p.e1]) x1.2 x1.1 (kM.int bl) underlying112 rfl rfl rfl rfl rfl (bC (cg (nz (jm x1.1 x1.2 s,jm x1.2 x1.1 l) (λa2 e2=>by have e9:=nA C e2;subst e9;subst M;exact h) (cO 4))))))
  ·rintro Z ⟨s,l⟩ t;have h:W s l=some r:=t [] (aE _).symm;rw[a0] at h;show TX _ _ _ _ _ _ _ [iR ((([]:List Nat):List Nat).map iJ),cT,cT,cT,cT,cells b7 [.map (some J)] 111,cH (λp:cM=>br #[.int .i32 p.e0,.int .i32 p.e1]) (λn:Int=>az .i32 n) J s,cells b8 [.map (some H)] 112,cH (λn:Int=>az .i32 n) (λp:cM=>br #[.int .i32 p.e0,.int .i32 p.e1]) H l,iJ Z];exact vl 9 0 rfl rfl dc (cg (iW (s,l,b7,J,b8,H,Z::([]:List Nat)) h rfl (gl rfl) (ct [5,6,7,8,0] kr rfl)))
  exact λZ c pre x1 post g a8 hX=>(show False from hX).elim
 rintro⟨a3,a1,b1,b2,b3,b4,ds1⟩ h;refine bV (jU 3 [(0,16,.map (some b2)),(1,17,.map (some b4)),(2,0,.map (some b2))] mixed kr kr dc (by rfl) kr kr (bQ (λD n d c u i=>bW 0 Aq rfl dc (eG (by rfl) rfl) rfl rfl (bf 0 u i)) (bQ (λD n d c u i=>bW 2 DJ rfl dc (eG (by rfl) rfl) rfl rfl (bf 1 u i)) (gD 1 2 rfl bB))) (O 1 rfl (Y (bO ?_))));cases h;exact sw [.tmp 0,.tmp 1] ds1 (b2,b4) (.inl rfl) (sq 4 rfl) results70 (.cons (.tmp rfl) (.cons (.tmp rfl) .nil)) rfl (ct [1,3] kr rfl)
def Nd (r1:Int):Option (List Int) := T (Bw) λ(r2:((List (cM×Int))×(List (Int×cM))))=>T (wW r2.2 r1) λ(r3:(List Int))=>some r3
theorem VO {r1:Int} {r:(List Int)} (h:Nd r1=some r):Fn prog 48 [.int .i32 r1] [] (λv0:Value=>v0) (λv0=>[fr v0 r]):=by
 refine Fn.intro func48 rfl ntmps48 (by simp) (λw0 K=>I (O 1 rfl (cw (aU h λr2 d h=>ir [] rfl dc rfl rfl rfl G7 (HR d) aC ?_))));rintro⟨b1,e⟩;refine O 1 rfl (fF rfl dc rfl rfl (fF rfl dc rfl rfl (O 2 rfl (cw (O 2 rfl (aU h λr3 a h=>ir [.map (some e),.int .i32 r1] rfl dc rfl rfl rfl Hf (Nc a) (ct [1] kr rfl) (λv1=>O 1 rfl (Y (bO ?_)))))))));cases h;exact eW [.tmp 2] v1 (.inl rfl) results48 (.cons (.tmp rfl) .nil) rfl (ct [3] kr rfl)
def Nf:List (Int×Int×Int):=[(65,768,192),(69,768,200),(73,768,204),(79,768,210),(85,768,217),(97,768,224),(101,768,232),(105,768,236),(111,768,242),(117,768,249),(1045,768,1024),(1048,768,1037),(1077,768,1104),(1080,768,1117),(65,769,193),(69,769,201),(73,769,205),(79,769,211),(85,769,218),(89,769,221),(97,769,225),(101,769,233),(105,769,237),(111,769,243),(117,769,250),(121,769,253),(67,769,262),(76,769,313),(78,769,323),(82,769,340),(83,769,346),(90,769,377),(99,769,263),(108,769,314),(110,769,324),(114,769,341),(115,769,347),(122,769,378),(913,769,902),(917,769,904),(919,769,905),(921,769,906),(927,769,908),(933,769,910),(937,769,911),(945,769,940),(949,769,941),(951,769,942),(953,769,943),(959,769,972),(965,769,973),(969,769,974),(1043,769,1027),(1050,769,1036),(1075,769,1107),(1082,769,1116),(970,769,912),(971,769,944),(65,770,194),(69,770,202),(73,770,206),(79,770,212),(85,770,219),(97,770,226),(101,770,234),(105,770,238),(111,770,244),(117,770,251),(67,770,264),(71,770,284),(72,770,292),(74,770,308),(83,770,348),(87,770,372),(89,770,374),(99,770,265),(103,770,285),(104,770,293),(106,770,309),(115,770,349),(119,770,373),(121,770,375),(65,771,195),(78,771,209),(79,771,213),(97,771,227),(110,771,241),(111,771,245),(73,771,296),(85,771,360),(105,771,297),(117,771,361),(65,772,256),(69,772,274),(73,772,298),(79,772,332),(85,772,362),(97,772,257),(101,772,275),(105,772,299),(111,772,333),(117,772,363),(65,774,258),(69,774,276),(71,774,286),(73,774,300),(79,774,334),(85,774,364),(97,774,259),(101,774,277),(103,774,287),(105,774,301),(111,774,335),(117,774,365),(1048,774,1049),(1059,774,1038),(1080,774,1081),(1091,774,1118),(67,775,266),(69,775,278),(71,775,288),(73,775,304),(90,775,379),(99,775,267),(101,775,279),(103,775,289),(122,775,380),(65,776,196),(69,776,203),(73,776,207),(79,776,214),(85,776,220),(97,776,228),(101,776,235),(105,776,239),(111,776,246),(117,776,252),(121,776,255),(89,776,376),(1045,776,1025),(1030,776,1031),(1077,776,1105),(1110,776,1111),(921,776,938),(933,776,939),(953,776,970),(965,776,971),(65,778,197),(85,778,366),(97,778,229),(117,778,367),(79,779,336),(85,779,368),(111,779,337),(117,779,369),(67,780,268),(68,780,270),(69,780,282),(76,780,317),(78,780,327),(82,780,344),(83,780,352),(84,780,356),(90,780,381),(99,780,269),(100,780,271),(101,780,283),(108,780,318),(110,780,328),(114,780,345),(115,780,353),(116,780,357),(122,780,382),(67,807,199),(71,807,290),(75,807,310),(76,807,315),(78,807,325),(82,807,342),(83,807,350),(84,807,354),(99,807,231),(103,807,291),(107,807,311),(108,807,316),(110,807,326),(114,807,343),(115,807,351),(116,807,355),(65,808,260),(69,808,280),(73,808,302),(85,808,370),(97,808,261),(101,808,281),(105,808,303),(117,808,371)]
def j0:List (cM×Int):=Nf.map λt=>(⟨t.1,t.2.1⟩,t.2.2)
def eP:List (Int×cM):=Nf.map λt=>(t.2.2,⟨t.1,t.2.1⟩)
theorem Ng:Bw=some (j0,eP):=by decide +kernel
theorem rL {a:Type} {bot:a} {step:a->a} {n:Nat}:bP bot step (n+1)=step (bP bot step n):=rfl
def pi (l:List UInt8) (i:Nat):Int:=((l.getD i 0).toNat:Int)
theorem tS (l:List UInt8) (i:Nat):0<=pi l i/\pi l i<=255:=by
 have:=(l.getD i 0).toNat_lt;unfold pi;omega
theorem Nh {s:V} {a i:Nat} (h:a+i<s.size):kY s ((a:Int)+(i:Int))=some (pi (s.data.toList.drop a) i):=by
 rw[Gp (a+i) z1 h];have e:(s.data.toList.drop a).getD i 0=s[a+i]:=by
  rw[cR,List.getElem?_drop,aJ (by simpa using h)];simp;rfl
 unfold pi;rw[e]
def oW (l:List UInt8):Nat->Int
 |1=>pi l 0
 |2=>(pi l 0-192)*64+pi l 1-128
 |3=>((pi l 0-224)*64+pi l 1-128)*64+pi l 2-128
 |4=>(((pi l 0-240)*64+pi l 1-128)*64+pi l 2-128)*64+pi l 3-128
 |_=>0
theorem VP (l:List UInt8) (n:Nat) : -100000000<=oW l n/\oW l n<=100000000:=by
 have h0:=tS l 0;have h1:=tS l 1;have h2:=tS l 2;have h3:=tS l 3;unfold oW;split<;>omega
def acc (s:V) (a n:Nat):Prop:=vr (oW (s.data.toList.drop a) n)/\wd (oW (s.data.toList.drop a) n)=n/\ae (oW (s.data.toList.drop a) n)=c6 s a ((a:Int)+n)
theorem yO {s:V} {a i n:Nat} {j:Int->Option (Int×Int)} {ag:Int->Int->Option (Int×Int)} {r:Int} (h:i<n) (d:a+i<s.size) (hsz:s.size<=9223372036854775000) (hr : -10000000<=r/\r<=10000000) (hi:i<=4) : yA s a n j ag r (i:Int)=ag (r*64+pi (s.data.toList.drop a) i-128) ((i+1:Nat):Int):=by
 have hb:=tS (s.data.toList.drop a) i;unfold yA;refine eQ (gO (gO (aV (Nh d) (gO (gO (gO (gO ?_)))))));rfl
theorem Ex {s:V} {a n:Nat} {j:Int->Option (Int×Int)} {ag:Int->Int->Option (Int×Int)} {r:Int}:yA s a n j ag r (n:Int)=j r:=by
 unfold yA;exact fc rfl
theorem VQ (s:V) (a n:Nat) (k:1<=n/\n<=4) (j:a+n<=s.size) (hsz:s.size<=9223372036854775000) (d:Option (Int×Int)) (r2:Int) (hr:r2=oW (s.data.toList.drop a) n) [Decidable (acc s a n)] :
  (T (vK r2) λ(i:Bool)=>G (!i) (T (vL r2) λ(g:Int)=>G ((g:Int)==(n:Int)) (T (uI r2) λ(e:V)=>
   grd (I64 ((a:Int)+n))<|grd (0<=(a:Int)/\(a:Int)<=((a:Int)+n)/\((a:Int)+n)<=(s.size:Int))<|G (decide (e=c6 s a ((a:Int)+n))) (some (r2,(n:Int))) d) d) d) =
  if acc s a n then some (oW (s.data.toList.drop a) n,(n:Int)) else d:=by
 subst hr;have hc:=VP (s.data.toList.drop a) n;refine aV (HJ _) ?_;by_cases h1:vr (oW (s.data.toList.drop a) n)
 ·refine ca (by simp[h1]) (aV (M5 _) ?_);by_cases h2:wd (oW (s.data.toList.drop a) n)=n
  ·refine ca (by simp[h2]) (aV (Ei _ ⟨by omega,by omega⟩) (gO (gO ?_)));by_cases h3:ae (oW (s.data.toList.drop a) n)=c6 s a ((a:Int)+n)
   ·rw[aj (show acc s a n from ⟨h1,h2,h3⟩)];exact ca (an h3) rfl
   ·rw[ai (λh:acc s a n=>h3 h.2.2)];exact bR (ah h3) rfl
  ·rw[ai (λh:acc s a n=>h2 h.2.1)];exact bR (aA.2 h2) rfl
 ·rw[ai (λh:acc s a n=>h1 h.1)];exact bR (by simp[h1]) rfl
open Classical in
theorem VR (s:V) (a n:Nat) (m:1<=n/\n<=4) (l:a+n<=s.size) (hsz:s.size<=9223372036854775000) (k:Option (Int×Int)) (ag:Int->Option (Int×Int)) :
  wU s a k ag (n:Int)=if acc s a n then some (oW (s.data.toList.drop a) n,(n:Int)) else ag ((n+1:Nat):Int):=by
 obtain⟨F,t,_⟩:=yB 5 z1;have h0:=tS (s.data.toList.drop a) 0;have h1:=tS (s.data.toList.drop a) 1;have h2:=tS (s.data.toList.drop a) 2;have h3:=tS (s.data.toList.drop a) 3;have hg:kY s (a:Int)=some (pi (s.data.toList.drop a) 0):=by have:=Nh (s:=s) (a:=a) (i:=0) z1;simpa using this
 unfold wU;refine eQ (gO (eQ (cL (cL (aV hg (gO ?_))))));have d:∀r2:Int,r2=oW (s.data.toList.drop a) n->∀z,z=ag ((n+1:Nat):Int)->(T (vK r2) λ(j:Bool)=>G (!j) (T (vL r2) λ(h:Int)=>G ((h:Int)==(n:Int)) (T (uI r2) λ(g:V)=>
   grd (I64 ((a:Int)+n))<|grd (0<=(a:Int)/\(a:Int)<=((a:Int)+n)/\((a:Int)+n)<=(s.size:Int))<|G (decide (g=c6 s a ((a:Int)+n))) (some (r2,(n:Int))) z) z) z) =
   if acc s a n then some (oW (s.data.toList.drop a) n,(n:Int)) else ag ((n+1:Nat):Int):=λr2 hr z hz=>by subst hz;exact VQ s a n m l hsz _ r2 hr
 have hz:(grd (I64 ((n:Int)+1))<|ag ((n:Int)+1))=ag ((n+1:Nat):Int):=gO rfl;rw[hz,t];obtain rfl|rfl|rfl|rfl:n=1\/n=2\/n=3\/n=4:=by omega
 ·refine bR rfl (cL ?_);rw[rL,show ((1:Int))=((1:Nat):Int) from rfl,Ex];exact d _ rfl _ rfl
 ·have e:(256-(nj .i32 1 (8-((2:Nat):Int))))=192:=by decide
  rw[e];refine ca rfl (gO (gO (gO (gO (cL ?_)))));rw[rL,show ((1:Int))=((1:Nat):Int) from rfl,yO z1 z1 hsz z1 z1,rL,Ex];exact d _ rfl _ rfl
 ·have e:(256-(nj .i32 1 (8-((3:Nat):Int))))=224:=by decide
  rw[e];refine ca rfl (gO (gO (gO (gO (cL ?_)))));rw[rL,show ((1:Int))=((1:Nat):Int) from rfl,yO z1 z1 hsz z1 z1,rL,yO z1 z1 hsz z1 z1,rL,Ex];exact d _ rfl _ rfl
 ·have e:(256-(nj .i32 1 (8-((4:Nat):Int))))=240:=by decide
  rw[e];refine ca rfl (gO (gO (gO (gO (cL ?_)))));rw[rL,show ((1:Int))=((1:Nat):Int) from rfl,yO z1 z1 hsz z1 z1,rL,yO z1 z1 hsz z1 z1,rL,yO z1 z1 hsz (by have q:=tS (s.data.toList.drop a) (1+1);omega) z1,rL,Ex];exact d _ rfl _ rfl
theorem HS (s:V) (a n:Nat):(c6 s a ((a:Int)+n)).data.toList=(s.data.toList.drop a).take n:=by
 unfold c6;rw[extract_data];simp only[Int.toNat_natCast,show ((a:Int)+(n:Int)).toNat=a+n by omega];rw[show a+n-a=n by omega]
theorem VS {s:V} {a n:Nat} (i:1<=n/\n<=4) (g:a+n<=s.size) (h:acc s a n):((decodeL (s.data.toList.drop a)).1:Int)=oW (s.data.toList.drop a) n/\(decodeL (s.data.toList.drop a)).2=n/\¬((decodeL (s.data.toList.drop a)).1=65533/\(decodeL (s.data.toList.drop a)).2=1):=by
 obtain⟨h1,h2,h3⟩:=h;have d:=aI (λb:V=>b.data.toList) h3;simp only[pg,HS] at d;have hv:=h1;unfold vr at h1;generalize hc:oW (s.data.toList.drop a) n=c at *;obtain⟨m,rfl⟩:∃m:Nat,c=m:=⟨c.toNat,by omega⟩;have h5:=D0 m z1 ((s.data.toList.drop a).drop n);rw[d,bo] at h5;have e:((s.data.toList.drop a).take n).length=n:=by simp;omega
 rw[e] at h5;rw[h5];refine⟨rfl,rfl,λ⟨e1,e2⟩=>?_⟩;simp only at e1 e2;subst e1;subst e2;unfold wd at h2;revert h2;decide
theorem tT {l:List UInt8} {i:Nat} {x:Int} (h:l[i]?=some (x.toNat.toUInt8)) (hx:0<=x/\x<=255):pi l i=x:=by
 unfold pi;rw[cR,h];simp;omega
theorem Ni {s:V} {a:Nat} (ha:a<s.size) (hb:¬((decodeL (s.data.toList.drop a)).1=65533/\(decodeL (s.data.toList.drop a)).2=1)) : acc s a (decodeL (s.data.toList.drop a)).2/\1<=(decodeL (s.data.toList.drop a)).2/\(decodeL (s.data.toList.drop a)).2<=4/\a+(decodeL (s.data.toList.drop a)).2<=s.size:=by
 have n:s.data.toList.drop a≠[]:=by
  intro h;have:=aI fS h;simp at this;omega
 have j:=Af _ n;generalize m:s.data.toList.drop a=l at *;generalize hr:(decodeL l).1=r at *;generalize v:(decodeL l).2=w at *;have t:l.length=s.size-a:=by rw[<-m];simp
 have hv:=j.valid;have k:vr (r:Int):=by unfold vr;omega
 have h1:=j.width hb;have h2:=j.bytes hb;have h3:=VC _ k;have u:=j.le;have g:oW l w=r:=by
  have d:∀ (i:Nat) (x:Int),(encodeRuneZ (r:Int))[i]?=some x->l[i]?=some (x.toNat.toUInt8):=by
   intro i x hx;have hi:i<w:=by
    rw[<-h1];unfold encodeRune;rw[ax];exact (aq.1 hx).1
   have:(encodeRune (r:Int))[i]?=some (x.toNat.toUInt8):=by unfold encodeRune;rw[cx,hx];rfl
   rw[h2,List.getElem?_take,aj hi] at this;exact this
  unfold wd at h3;rw[aj k] at h3;split at h3
  ·rw[encodeRuneZ_one z1 z1] at d;have e:w=1:=by omega
   rw[e];exact tT (d 0 _ rfl) z1
  ·split at h3
   ·rw[encodeRuneZ_two z1 z1] at d;have e:w=2:=by omega
    rw[e];simp only[oW];rw[tT (d 0 _ rfl) z1,tT (d 1 _ rfl) z1];omega
   ·split at h3
    ·rw[encodeRuneZ_three z1] at d;have e:w=3:=by omega
     rw[e];simp only[oW];rw[tT (d 0 _ rfl) z1,tT (d 1 _ rfl) z1,tT (d 2 _ rfl) z1];omega
    ·rw[encodeRuneZ_four z1 z1] at d;have e:w=4:=by omega
     rw[e];simp only[oW];rw[tT (d 0 _ rfl) z1,tT (d 1 _ rfl) z1,tT (d 2 _ rfl) z1,tT (d 3 _ rfl) z1];omega
 have C:=Ac (r:Int);refine⟨⟨by rw[m,g];exact k,by rw[m,g];omega,?_⟩,j.pos,by omega,by omega⟩;rw[m,g];apply ByteArray.ext;apply gI.1;rw[pg,HS,m,h2]
def iH (p:Pc):dq:=⟨p.i,p.w,p.r,p.broken⟩
def yP (l:List UInt8):Int×Int:=if (decodeL l).1=65533/\(decodeL l).2=1 then (0,0) else ((decodeL l).1,(decodeL l).2)
theorem VT (s:V) (a:Nat) (ha:a<s.size) (hsz:s.size<=9223372036854775000):Ef s a=some (yP (s.data.toList.drop a)):=by
 classical
 unfold Ef;refine cL ?_;obtain⟨F,w,_⟩:=yB 6 z1;rw[w];have key:∀k m:Nat,m+k=5->1<=m->(∀n,1<=n->n<m->a+n<=s.size->¬acc s a n)->∀g,bP (λ_=>none) (wU s a (some (0,0))) (g+k+1) (m:Int)=some (yP (s.data.toList.drop a)):=by
  intro k
  induction k with
  |zero=>
   intro m hm h1 d g;have l:m=5:=by omega
   rw[l,rL];unfold wU;refine bR rfl ?_;unfold yP;rw[aj];by_cases hb:(decodeL (s.data.toList.drop a)).1=65533/\(decodeL (s.data.toList.drop a)).2=1
   ·exact hb
   ·obtain⟨h2,h3,C,h5⟩:=Ni ha hb;exact absurd h2 (d _ h3 z1 h5)
  |succ k u=>
   intro m hm h1 d g;rw[rL];by_cases t:a+m<=s.size
   ·rw[VR s a m ⟨h1,by omega⟩ t hsz];by_cases e:acc s a m
    ·rw[aj e];obtain⟨e1,e2,D⟩:=VS ⟨h1,by omega⟩ t e;unfold yP;rw[ai D,e1,e2]
    ·rw[ai e];exact u (m+1) z1 z1 (λn j v i=>by
      by_cases h:n=m
      ·subst h;exact e
      ·exact d n j z1 i) g
   ·unfold wU;refine eQ (gO (fc ?_));unfold yP;rw[aj];by_cases hb:(decodeL (s.data.toList.drop a)).1=65533/\(decodeL (s.data.toList.drop a)).2=1
    ·exact hb
    ·obtain⟨h2,h3,C,h5⟩:=Ni ha hb;exact absurd h2 (d _ h3 z1 h5)
 exact key 4 1 rfl z1 (λn h1 h2=>by omega) (F+1)
theorem VU (s:V) (a:Nat) (ha:a<s.size) (hsz:s.size<=9223372036854775000):Eg s a=some (iH ⟨a,(decodeL (s.data.toList.drop a)).2,(decodeL (s.data.toList.drop a)).1⟩):=by
 unfold Eg;refine aV (VT s a ha hsz) ?_;unfold yP iH Pc.broken;have hp:=uw (s.data.toList.drop a);by_cases hb:(decodeL (s.data.toList.drop a)).1=65533/\(decodeL (s.data.toList.drop a)).2=1
 ·rw[aj hb];refine bR rfl ?_;rw[hb.1,hb.2];rfl
 ·rw[ai hb];refine ca (an (by simp only;omega)) ?_;have:((decodeL (s.data.toList.drop a)).1==65533&&(decodeL (s.data.toList.drop a)).2==1)=false:=by
   rw[Bool.and_eq_false_iff];by_cases h:(decodeL (s.data.toList.drop a)).1=65533
   ·right;exact aA.2 (λh2=>hb ⟨h,h2⟩)
   ·left;exact aA.2 h
  simp only[this]
theorem VV (s:V) (hsz:s.size<=2147483648):Eh s=some ((fK s.data.toList).map iH):=by
 unfold Eh;refine cL ?_;have key:∀n a:Nat,a<=s.size->s.size-a<n->∀l:List dq,l.length<=a->bP (λ_ _=>none) (AQ s some) n l (a:Int)=some (l++(oP a (s.data.toList.drop a)).map iH):=by
  intro n
  induction n with
  |zero=>intro a _ h;omega
  |succ n i=>
   intro a ha j l k;rw[rL];generalize hg:bP (λ_ _=>none) (AQ s some) n=ag;unfold AQ;by_cases h:a<s.size
   ·have e:s.data.toList.drop a≠[]:=by
     intro h;have:=aI fS h;simp at this;omega
    have d:=Af _ e;have h1:=d.pos;have h2:=d.le;have g:(s.data.toList.drop a).length=s.size-a:=by simp
    refine eQ (aV (VU s a h z1) (gO (dI ⟨by simp only[iH];omega,by simp only[iH];omega⟩ ?_)));have:=i (a+(decodeL (s.data.toList.drop a)).2) z1 z1 (l++[iH ⟨a,(decodeL (s.data.toList.drop a)).2,(decodeL (s.data.toList.drop a)).1⟩]) (by simp;omega);rw[uy _ _ e,fY];rw[show ((a:Int)+(iH ⟨a,(decodeL (s.data.toList.drop a)).2,(decodeL (s.data.toList.drop a)).1⟩).Width)=((a+(decodeL (s.data.toList.drop a)).2:Nat):Int) by simp[iH]];rw[<-hg,this];simp
   ·refine fc ?_;have:s.data.toList.drop a=[]:=List.drop_eq_nil_of_le (by simp;omega);rw[this,ux];simp
 exact key bN 0 z1 (by unfold bN;omega) [] (by simp)
def fV (r:Int):Bool:=decide (768<=r/\r<=879)
theorem ov (r:Int) (h:dx r=true):0<=r/\r<1120/\¬(768<=r/\r<=879):=by
 unfold dx at h;rw[Bool.or_eq_true,wN,yp] at h;unfold rG td at h;refine⟨?_,?_,?_⟩<;>omega
theorem qL (r:Int):((kind r:Int)==1)=dx r:=by
 cases h:dx r with
 |true=>
  have:=ov r h;have e:kind r=1:=by unfold kind tQ;rw[ai z1,aj h]
  rw[e];rfl
 |false=>
  rw[aA];unfold kind tQ;rw[h];simp only[Bool.false_eq_true,if_false]
  (repeat' split)<;>omega
theorem Nj (r:Int):((kind r:Int)==2)=fV r:=by
 unfold fV;by_cases h:768<=r/\r<=879
 ·rw[an h,beq_iff_eq];have a:dx r=false:=by
   cases h':dx r with
   |false=>rfl
   |true=>exact absurd h (ov r h').2.2
  unfold kind tQ;rw[ai z1,a,ai (by simp),aj h]
 ·rw[ah h,aA];unfold kind tQ
  (repeat' split)<;>omega
theorem Ey (u:dy) (h:gJ u.base):vP u=some (dx u.base):=by
 unfold vP;by_cases h0:0<=u.base
 ·exact ca (an h0) (dI h (aI some (qL _)))
 ·refine bR (ah h0) (aI some ?_);cases h':dx u.base with
  |false=>rfl
  |true=>exact absurd (ov _ h').1 h0
theorem yQ (x:cd) (h:gJ x.Rune):vN x=some (dx x.Rune):=by
 unfold vN uJ;by_cases h0:0<=x.Rune
 ·refine ca (an h0) (aV (a:=dx x.Rune) (dI h ?_) rfl);cases hg:great x.Rune with
  |true=>exact ca rfl (by unfold dx;rw[hg];rfl)
  |false=>exact bR rfl (dI h (by unfold dx;rw[hg];rfl))
 ·refine bR (ah h0) (aI some ?_);cases h':dx x.Rune with
  |false=>rfl
  |true=>exact absurd (ov _ h').1 h0
theorem VW (x:cd):Ek x=some (fV x.Rune):=by
 unfold Ek tR fV;by_cases h0:0<=x.Rune
 ·refine ca (an h0) (aV (a:=fV x.Rune) ?_ rfl);unfold fV;by_cases h1:768<=x.Rune
  ·exact ca (an h1) (aI some (by simp[h1]))
  ·exact bR (ah h1) (aI some (by simp[h1]))
 ·exact bR (ah h0) (aI some (by symm;rw[ah];omega))
def wX:List (Int×Int):=[(790,793),(796,800),(803,819),(825,828),(837,841),(845,846),(851,854),(857,858)]
def ow (r:Int):Bool:=wX.any λp=>decide (p.1<=r)&&decide (r<=p.2)
theorem Nk (r:Int):Bi r=some (ow r):=by
 unfold Bi;refine cL ?_;have:=yE ([(⟨790,793⟩:lm),(⟨796,800⟩:lm),(⟨803,819⟩:lm),(⟨825,828⟩:lm),(⟨837,841⟩:lm),(⟨845,846⟩:lm),(⟨851,854⟩:lm),(⟨857,858⟩:lm)]:List lm) (Ej r (some false)) (λ_=>none) (λp=>if decide (p.e0<=r)&&decide (r<=p.e1) then some (some true) else none) (some false)
  (λag k x hx=>by
   have hk:k<8:=pM hx;unfold Ej;refine eQ (cL (aV (mY hx) ?_));have a:(grd (I64 ((k:Int)+1))<|ag ((k:Int)+1))=ag ((k:Int)+1):=dI (kG z1) rfl;by_cases h1:x.e0<=r
   ·refine ca (an h1) ?_;by_cases h2:r<=x.e1
    ·exact ca (an h2) (by simp[h1,h2])
    ·exact bR (ah h2) (by simp[h1,h2,a])
   ·exact bR (ah h1) (by simp[h1,a])) (λag=>bR (by decide) rfl) (n:=bN) (jC (by decide))
 rw[this];simp only[dR,List.findSome?_nil,ow,wX,kq,List.any_nil,oo]
 (repeat' split)<;>simp_all
theorem VX (r:Int):Eu r=some (ow r):=by
 have h:r<790\/(790<=r/\r<=793)\/(793<r/\r<796)\/(796<=r/\r<=800)\/(800<r/\r<803)\/(803<=r/\r<=819)\/(819<r/\r<825)\/(825<=r/\r<=828)\/(828<r/\r<837)\/(837<=r/\r<=841)\/(841<r/\r<845)\/(845<=r/\r<=846)\/(846<r/\r<851)\/(851<=r/\r<=854)\/(854<r/\r<857)\/(857<=r/\r<=858)\/858<r:=by omega
 unfold Eu;simp only[cm,G,ow,wX,kq,List.any_nil,oo];rcases h with h|h|h|h|h|h|h|h|h|h|h|h|h|h|h|h|h<;>simp (disch:=omega) only[an,ah,cond_true,cond_false,Bool.and_true,Bool.and_false,Bool.true_and,Bool.false_and,Bool.true_or,Bool.false_or,Bool.or_true,oo]
def wY:List (Int×Int×Int):=[(65,768,192),(69,768,200),(73,768,204),(79,768,210),(85,768,217),(97,768,224),(101,768,232),(105,768,236),(111,768,242),(117,768,249),(1045,768,1024),(1048,768,1037),(1077,768,1104),(1080,768,1117),(65,769,193),(69,769,201),(73,769,205),(79,769,211),(85,769,218),(89,769,221),(97,769,225),(101,769,233),(105,769,237),(111,769,243),(117,769,250),(121,769,253),(67,769,262),(76,769,313),(78,769,323),(82,769,340),(83,769,346),(90,769,377),(99,769,263),(108,769,314),(110,769,324),(114,769,341),(115,769,347),(122,769,378),(913,769,902),(917,769,904),(919,769,905),(921,769,906),(927,769,908),(933,769,910),(937,769,911),(945,769,940),(949,769,941),(951,769,942),(953,769,943),(959,769,972),(965,769,973),(969,769,974),(1043,769,1027),(1050,769,1036),(1075,769,1107),(1082,769,1116),(970,769,912),(971,769,944),(65,770,194),(69,770,202),(73,770,206),(79,770,212),(85,770,219),(97,770,226),(101,770,234),(105,770,238),(111,770,244),(117,770,251),(67,770,264),(71,770,284),(72,770,292),(74,770,308),(83,770,348),(87,770,372),(89,770,374),(99,770,265),(103,770,285),(104,770,293),(106,770,309),(115,770,349),(119,770,373),(121,770,375),(65,771,195),(78,771,209),(79,771,213),(97,771,227),(110,771,241),(111,771,245),(73,771,296),(85,771,360),(105,771,297),(117,771,361),(65,772,256),(69,772,274),(73,772,298),(79,772,332),(85,772,362),(97,772,257),(101,772,275),(105,772,299),(111,772,333),(117,772,363),(65,774,258),(69,774,276),(71,774,286),(73,774,300),(79,774,334),(85,774,364),(97,774,259),(101,774,277),(103,774,287),(105,774,301),(111,774,335),(117,774,365),(1048,774,1049),(1059,774,1038),(1080,774,1081),(1091,774,1118),(67,775,266),(69,775,278),(71,775,288),(73,775,304),(90,775,379),(99,775,267),(101,775,279),(103,775,289),(122,775,380),(65,776,196),(69,776,203),(73,776,207),(79,776,214),(85,776,220),(97,776,228),(101,776,235),(105,776,239),(111,776,246),(117,776,252),(121,776,255),(89,776,376),(1045,776,1025),(1030,776,1031),(1077,776,1105),(1110,776,1111),(921,776,938),(933,776,939),(953,776,970),(965,776,971),(65,778,197),(85,778,366),(97,778,229),(117,778,367),(79,779,336),(85,779,368),(111,779,337),(117,779,369),(67,780,268),(68,780,270),(69,780,282),(76,780,317),(78,780,327),(82,780,344),(83,780,352),(84,780,356),(90,780,381),(99,780,269),(100,780,271),(101,780,283),(108,780,318),(110,780,328),(114,780,345),(115,780,353),(116,780,357),(122,780,382),(67,807,199),(71,807,290),(75,807,310),(76,807,315),(78,807,325),(82,807,342),(83,807,350),(84,807,354),(99,807,231),(103,807,291),(107,807,311),(108,807,316),(110,807,326),(114,807,343),(115,807,351),(116,807,355),(65,808,260),(69,808,280),(73,808,302),(85,808,370),(97,808,261),(101,808,281),(105,808,303),(117,808,371)]
section
variable {κ ν:Type} [DecidableEq κ]
theorem uL {k:κ} {v:ν}:∀ {L:List (κ×ν)},cf k L=some v->(k,v)∈L
 |[],h=>by cases h
 |p::L,h=>by
  unfold cf at h;split at h
  ·rename_i e;cases h;rw[e];exact ar ..
  ·exact ak _ (uL h)
theorem Nm {A B:List (κ×ν)} (h1:∀p∈A,cf p.1 B=cf p.1 A) (h2:∀p∈B,cf p.1 A=cf p.1 B) (k:κ):cf k A=cf k B:=by
 cases h:cf k A with
 |some v=>have:=h1 _ (uL h);rw[<-h];exact this.symm
 |none=>
  cases h':cf k B with
  |none=>rfl
  |some v=>have:=h2 _ (uL h');simp only at this;rw[h,h'] at this;cases this
end
def Bx:List (cM×Int):=wY.map λt=>(⟨t.1,t.2.1⟩,t.2.2)
def Bz:List (Int×cM):=wY.map λt=>(t.2.2,⟨t.1,t.2.1⟩)
theorem VY:∀p∈Bz,cf p.1 eP=cf p.1 Bz:=by decide +kernel
theorem VZ:∀p∈eP,cf p.1 Bz=cf p.1 eP:=by decide +kernel
theorem V0:∀p∈Bx,cf p.1 j0=cf p.1 Bx:=by decide +kernel
theorem V3:∀p∈j0,cf p.1 Bx=cf p.1 j0:=by decide +kernel
theorem V4 (r:Int):cf r Bz=cf r eP:=Nm VY VZ r
theorem V5 (p:cM):cf p Bx=cf p j0:=Nm V0 V3 p
def jo:List iT:=(yF).getD []
theorem Nn:yF=some jo:=rfl
def qa (q:iT):List (Int×Int×Int):=((fB q.e1).zip (fB q.e2)).map λp=>(p.1,(fB q.e0).headD 0,p.2)
theorem Np:jo.flatMap qa=wY:=by decide +kernel
def Nq (q:iT):Bool:=decide ((fB q.e1).length=(fB q.e2).length)&&decide ((fB q.e0).length=1)&&decide (q.e0.size<=1000/\q.e1.size<=1000/\q.e2.size<=1000)
theorem V6:jo.all Nq=true:=by decide +kernel
theorem Ez {q:iT} (h:q∈jo):(fB q.e1).length=(fB q.e2).length/\cj (fB q.e0) 0=some ((fB q.e0).headD 0)/\q.e0.size<=1000/\q.e1.size<=1000/\q.e2.size<=1000:=by
 have:=bm.1 V6 q h;unfold Nq at this;simp only[aN,decide_eq_true_eq] at this;obtain⟨⟨h1,h2⟩,h3⟩:=this;refine⟨h1,?_,h3⟩;cases e:fB q.e0 with
 |nil=>rw[e] at h2;cases h2
 |cons x l=>rfl
theorem HT {α β γ:Type} (f:α->List β) (g:β->Option γ):∀xs:List α,(xs.findSome? λx=>(f x).findSome? g)=(xs.flatMap f).findSome? g
 |[]=>rfl
 |x::xs=>by
  rw[aK,List.findSome?_append,dR,HT f g xs];cases (f x).findSome? g<;>rfl
theorem Nr {γ:Type} (r:Int) (F:Int->Int->γ):∀L:List (Int×Int×Int),(L.findSome? λt=>if (t.2.2==r) then some (F t.1 t.2.1) else none)=(cf r (L.map λt=>((t.2.2,⟨t.1,t.2.1⟩):Int×cM))).map λp=>F p.e0 p.e1
 |[]=>rfl
 |t::L=>by
  rw[dR,au];unfold cf;by_cases h:r=t.2.2
  ·subst h;simp
  ·have:(t.2.2==r)=false:=by rw[aA];exact λe=>h e.symm
   rw[this,ai h];exact Nr r F L
theorem Ns (b m:Int):∀L:List (Int×Int×Int),(L.findSome? λt=>if (t.1==b)&&(t.2.1==m) then some t.2.2 else none)=cf (⟨b,m⟩:cM) (L.map λt=>((⟨t.1,t.2.1⟩,t.2.2):cM×Int))
 |[]=>rfl
 |t::L=>by
  rw[dR,au];unfold cf;by_cases h:(⟨b,m⟩:cM)=⟨t.1,t.2.1⟩
  ·cases h;simp
  ·have:((t.1==b)&&(t.2.1==m))=false:=by
    cases e:((t.1==b)&&(t.2.1==m)) with
    |false=>rfl
    |true=>simp at e;exact absurd (by rw[e.1,e.2]) h
   rw[this,ai h];exact Ns b m L
def qM (a:Int->Option (List Int)) (r:Int):Option (List Int) :=
 match cf r eP with
 |none=>some [r]
 |some p=>T (a p.e0) λl=>grd (l.length+1<=2147483648)<|some (l++[p.e1])
theorem Nt {α β:Type} {a:List α} {b:List β} {k:Nat} {p:α×β} (h:(a.zip b)[k]?=some p):a[k]?=some p.1/\b[k]?=some p.2:=by
 rw[List.getElem?_zip_eq_some] at h;exact h
theorem V7 (d:Int->Option (List Int)) (r:Int):yH d r=qM d r:=by
 unfold yH;refine cL (aV Nn ?_);have w:jo.length=14:=by decide
 have j:∀ (q:iT) (u:Option (List Int)),q∈jo->bP (λ_=>none) (Bg d r u q) bN 0=(((qa q)).findSome? λt=>if (t.2.2==r) then some (T (d t.1) λl=>grd (l.length+1<=2147483648)<|some (l++[t.2.1])) else none).getD u:=by
  intro q u s;obtain⟨h1,h2,h3,C,h5⟩:=Ez s;have hz:(qa q).length=(fB q.e2).length:=by unfold qa;simp[h1]
  have D:=xR q.e2;refine yE (qa q) _ _ _ _ (λag k x hx=>?_) (λag=>?_) (jC z1)
  ·have v:∃p,((fB q.e1).zip (fB q.e2))[k]?=some p/\x=(p.1,(fB q.e0).headD 0,p.2):=by
    unfold qa at hx;rw[cx] at hx;obtain⟨p,hp,e⟩:=da.1 hx;exact⟨p,hp,e.symm⟩
   obtain⟨p,hp,rfl⟩:=v;obtain⟨e1,e2⟩:=Nt hp;have hk:=pM e2;unfold Bg;refine ca (oa e2) (aV (mY e2) ?_);cases h:(p.2==r) with
   |true=>exact ca rfl (aV (mY e1) (by
     rw[aj rfl,Option.getD_some];cases d p.1 with
     |none=>rfl
     |some l=>exact (aV rfl (gO (aV h2 rfl))).trans (KQ rfl).symm))
   |false=>exact bR rfl (dI (kG z1) rfl)
  ·rw[hz];unfold Bg;exact bR nR rfl
 have i:=yE jo (Bh d r (some [r]) jo) (λ_=>none) (λq=>(qa q).findSome? λt=>if (t.2.2==r) then some (T (d t.1) λl=>grd (l.length+1<=2147483648)<|some (l++[t.2.1])) else none) (some [r]) (λag k q s=>by
  have hm:=aF s;have hk:=pM s;obtain⟨h1,h2,h3,C,h5⟩:=Ez hm;unfold Bh;refine ca (oa s) (cL (aV (mY s) (gO (gO ?_))));rw[j q _ hm];exact aI _ (dI (kG z1) rfl)) (λag=>by unfold Bh;exact bR nR rfl) (n:=bN) (jC z1)
 rw[i,HT,Np,Nr r (λa m=>T (d a) λl=>grd (l.length+1<=2147483648)<|some (l++[m]))];show ((cf r Bz).map _).getD _=_;rw[V4];unfold qM;cases cf r eP<;>rfl
theorem V8 (a:(List (Int×cM))->Int->Option (List Int)) (r:Int):yN a eP r=qM (a eP) r:=by
 unfold yN qM;cases cf r eP with
 |none=>exact ca rfl rfl
 |some p=>exact bR rfl rfl
def wZ:Nat->Int->Option (List Int)
 |0,_=>none
 |n+1,r=>qM (wZ n) r
theorem Nu:∀ (n:Nat) (r:Int),bP (λ_=>none) yH n r=wZ n r
 |0,r=>rfl
 |n+1,r=>by
  rw[iB,V7];show qM _ r=qM _ r;congr 1;funext x;exact Nu n x
theorem Nv:∀ (n:Nat) (r:Int),bP (λ_ _=>none) yN n eP r=wZ n r
 |0,r=>rfl
 |n+1,r=>by
  rw[iB,V8];show qM _ r=qM _ r;congr 1;funext x;exact Nv n x
def jp (r:Int):List Int :=
 match cf r eP with
 |none=>[r]
 |some p=>(match cf p.e0 eP with
  |none=>[p.e0]
  |some q=>[q.e0,q.e1])++[p.e1]
def V9:Bool:=eP.all λp=>match cf p.2.e0 eP with | none=>true | some q=>decide (cf q.e0 eP=none)
theorem Wa:V9=true:=by decide +kernel
theorem Nw (n:Nat) (r:Int):wZ (n+3) r=some (jp r):=by
 show qM (wZ (n+2)) r=_;unfold qM jp;cases h:cf r eP with
 |none=>rfl
 |some p=>
  have hd:=bm.1 Wa _ (uL h);simp only at hd;refine aV (a:=match cf p.e0 eP with | none=>[p.e0] | some q=>[q.e0,q.e1]) ?_ (dI (by cases cf p.e0 eP<;>simp) rfl)
  show qM (wZ (n+1)) p.e0=_;unfold qM;cases h2:cf p.e0 eP with
  |none=>rfl
  |some q=>
   rw[h2] at hd;simp only[decide_eq_true_eq] at hd;refine aV (a:=[q.e0]) ?_ (dI (by simp) rfl);show qM (wZ n) q.e0=_;unfold qM;rw[hd]
theorem Wb (r:Int):yI r=some (jp r):=by
 unfold yI;rw[Nu];obtain⟨n,a,_⟩:=yB 3 z1;rw[a];exact Nw n r
theorem Wc (r:Int):wW eP r=some (jp r):=by
 unfold wW;rw[Nv];obtain⟨n,a,_⟩:=yB 3 z1;rw[a];exact Nw n r
def kn (b m:Int):Option Int:=cf (⟨b,m⟩:cM) j0
theorem We (b m:Int):Be b m=some ((kn b m).getD 0):=by
 unfold Be;refine cL (aV Nn ?_);have w:jo.length=14:=by decide
 have d:∀ (q:iT) (j:Option Int),q∈jo->bP (λ_=>none) (yG b m j q) bN 0=(((qa q).findSome? λt=>if (t.1==b)&&(t.2.1==m) then some t.2.2 else none).map some).getD j:=by
  intro q j i;obtain⟨h1,h2,h3,C,h5⟩:=Ez i;have hz:(qa q).length=(fB q.e1).length:=by unfold qa;simp[h1]
  have D:=xR q.e1;have:=yE (qa q) (yG b m j q) (λ_=>none) (λt=>if (t.1==b)&&(t.2.1==m) then some (some t.2.2) else none) j (λag k x hx=>?_) (λag=>?_) (n:=bN) (jC z1)
  ·rw[this];congr 1
   induction qa q with
   |nil=>rfl
   |cons t l s=>
    rw[dR,dR];cases ((t.1==b)&&(t.2.1==m)) with
    |true=>rfl
    |false=>exact s
  ·have u:∃p,((fB q.e1).zip (fB q.e2))[k]?=some p/\x=(p.1,(fB q.e0).headD 0,p.2):=by
    unfold qa at hx;rw[cx] at hx;obtain⟨p,hp,e⟩:=da.1 hx;exact⟨p,hp,e.symm⟩
   obtain⟨p,hp,rfl⟩:=u;obtain⟨e1,e2⟩:=Nt hp;have hk:=pM e1;have v:(grd (I64 ((k:Int)+1))<|ag ((k:Int)+1))=ag ((k:Int)+1):=dI (kG z1) rfl;unfold yG;refine ca (oa e1) (cL (aV (mY e1) ?_));cases h:(p.1==b) with
   |true=>
    refine ca rfl (gO (aV h2 ?_));cases h':((fB q.e0).headD 0==m) with
    |true=>exact ca rfl (aV (mY e2) rfl)
    |false=>exact bR rfl v
   |false=>exact bR rfl v
  ·rw[hz];unfold yG;exact bR nR rfl
 have a:=yE jo (Bd b m (some 0) jo) (λ_=>none) (λq=>((qa q).findSome? λt=>if (t.1==b)&&(t.2.1==m) then some t.2.2 else none).map some) (some 0) (λag k q i=>by
  have hm:=aF i;have hk:=pM i;obtain⟨h1,h2,h3,C,h5⟩:=Ez hm;unfold Bd;refine ca (oa i) (cL (aV (mY i) (gO (gO ?_))));rw[d q _ hm];exact aI _ (dI (kG z1) rfl)) (λag=>by unfold Bd;exact bR nR rfl) (n:=bN) (jC z1)
 rw[a];have e:(jo.findSome? λq=>((qa q).findSome? λt=>if (t.1==b)&&(t.2.1==m) then some t.2.2 else none).map some)=((jo.findSome? λq=>(qa q).findSome? λt=>if (t.1==b)&&(t.2.1==m) then some t.2.2 else none)).map some:=by
  generalize jo=L
  induction L with
  |nil=>rfl
  |cons q l s=>
   rw[dR,dR,s];cases (qa q).findSome? _<;>rfl
 rw[e,HT,Np,Ns b m];show ((cf _ Bx).map some).getD _=_;rw[V5];unfold kn;cases cf (⟨b,m⟩:cM) j0<;>rfl
def itG (s:V) (p:Pc):cd:=⟨if p.broken then -1 else (p.r:Int),s.extract p.i (p.i+p.w),p.i⟩
def ij (s:V):List cd:=(fK s.data.toList).map (itG s)
theorem Nx {s:V} {p:Pc} (hp:p∈fK s.data.toList):p.i+p.w<=s.size:=by
 obtain⟨g1,g2,d⟩:=wK s.data.toList p hp;have a:s.data.toList.length=s.size:=by rw[eC];rfl
 omega
theorem sE (s:V):(fK s.data.toList).length<=s.size:=by
 have:=xR s;unfold fB at this;simpa using this
theorem yR (s:V) (j:s.size<=1073741824):uK s=some (ij s):=by
 unfold uK;refine cL (aV (VV s z1) ?_);have hc:=sE s;refine (tj ((fK s.data.toList).map iH) (λl (x:dq)=>l++[(⟨if x.Broken then -1 else x.Rune,c6 s x.At (x.At+x.Width),x.At⟩:cd)]) some (λk l=>l.length=k) ?_ ?_ ?_ (jC (by simp;omega)) rfl).trans ?_
 ·intro ag k x l hx e;have hk:=pM hx;have h:k<(fK s.data.toList).length:=by simpa using hk
  have d:=hx;rw[cx] at d;obtain⟨p,hp,rfl⟩:=da.1 d;have hf:=Nx (aF hp);unfold Em;refine ca (oa hx) (cL (aV (mY hx) (aV (a:=c6 s p.i ((p.i:Int)+p.w)) (dI ⟨by simp only[iH];omega,by simp only[iH];omega⟩ (dI ⟨by simp only[iH];omega,by simp only[iH];omega,by simp only[iH];omega⟩ rfl)) ?_)));cases hb:(iH p).Broken with
  |true=>exact ca rfl (gO (dI (kG z1) (by simp[hb,iH])))
  |false=>exact bR rfl (gO (dI (kG z1) (by simp[hb,iH])))
 ·intro k x l hx e;simp[e]
 ·intro ag l e;unfold Em;exact bR nR rfl
 ·have:∀ (ps:List Pc) (l:List cd),(ps.map iH).foldl (λl (x:dq)=>l++[(⟨if x.Broken then -1 else x.Rune,c6 s x.At (x.At+x.Width),x.At⟩:cd)]) l=l++ps.map (itG s):=by
   intro ps
   induction ps with
   |nil=>intro l;simp
   |cons p ps g=>intro l;rw[au,bz,g];simp[itG,iH,c6];exact⟨rfl,by congr 1⟩
  rw[this];rfl
def uM (l:List cd):V:=l.foldl (λs x=>s++x.Text) (⟨#[]⟩:V)
def qN (l:List cd):Nat:=(l.map λx=>x.Text.size).sum
theorem HU (l:List cd) (e:l.length<=1099511627776) (d:qN l<=1099511627776):yK l=some (uM l):=by
 unfold yK;refine cL ((tj l (λs (x:cd)=>s++x.Text) some (λk s=>s.size=qN (l.take k)) ?_ ?_ ?_ (jC z1) rfl).trans rfl)
 ·intro ag k x s hx hi;have hk:=pM hx;have h1:qN (l.take k)+x.Text.size<=qN l:=by
   have h2:l=l.take k++x::l.drop (k+1):=by
    have:=aq.1 hx;obtain⟨a,he⟩:=this;rw[<-he,<-aQ a,bo]
   have:qN l=qN (l.take k)+(x.Text.size+qN (l.drop (k+1))):=by
    conv=>lhs;rw[h2]
    simp[qN]
   omega
  unfold En;exact ca (oa hx) (aV (mY hx) (gO (dI (kG z1) rfl)))
 ·intro k x s hx hi;have h2:l.take (k+1)=l.take k++[x]:=by
   rw[List.take_add_one,hx];rfl
  rw[h2,ByteArray.size_append,hi];simp[qN]
 ·intro ag s _;unfold En;exact bR nR rfl
theorem HV (r:Int) (x:cd) (hr:gJ r):Bm r x=some ⟨r,ae r,x.At⟩:=aV (Ei r hr) rfl
theorem HW (l:List cd) (e:l.length<=1099511627776):yL l=some (((l.takeWhile λx=>fV x.Rune).length:Nat):Int):=by
 unfold yL;refine cL ?_;have key:∀ (n k:Nat),k<=l.length->l.length-k<n->bP (λ_=>none) (Bn l some) n (k:Int)=some ((k+((l.drop k).takeWhile λx=>fV x.Rune).length:Nat):Int):=by
  intro n
  induction n with
  |zero=>intro k _ h;omega
  |succ n a=>
   intro k hk d;rw[iB];generalize bP (λ_=>none) (Bn l some) n=ag at a |-
   unfold Bn;by_cases h:k<l.length
   ·have hx:l[k]?=some l[k]:=aJ h;refine ca (oa hx) (aV (mY hx) (aV (VW _) ?_));rw[aQ h,aY];cases hm:fV l[k].Rune with
    |true=>
     refine ca rfl (dI (kG z1) ?_);have:=a (k+1) z1 z1
     push_cast at this |-
     rw[this];simp;omega
    |false=>exact bR rfl (by simp)
   ·have:k=l.length:=by omega
    subst this;exact bR nR (by rw[ix];simp)
 have:=key bN 0 (bT _) (by have:=jC (n:=l.length) z1;omega);simpa using this
abbrev bn:=cd
def eE (x:bn):Bool:=dx x.Rune
def isM (x:bn):Bool:=fV x.Rune
def ob (x:bn):Bool:=ow x.Rune
theorem sF {r:Int} (h:fV r=true):dx r=false:=by
 cases e:dx r with
 |false=>rfl
 |true=>have:=ov r e;unfold fV at h;simp at h;omega
def Ny (r:Int):Bool:=match jp r with
 |[]=>false
 |b::ms=>dx b&&decide (cf b eP=none)&&ms.all fV&&decide ((b::ms).length<=3)
theorem Wf:(eP.all λp=>Ny p.1)=true:=by decide +kernel
theorem Wg:(eP.all λp=>decide (0<=p.1/\p.1<=2000/\0<=p.2.e0/\p.2.e0<=2000/\0<=p.2.e1/\p.2.e1<=2000)&&dx p.1)=true:=by decide +kernel
theorem vQ {r:Int} (h:dx r=true):∃b a,jp r=b::a/\dx b=true/\cf b eP=none/\(∀m∈a,fV m=true)/\a.length<=2:=by
 cases e:cf r eP with
 |none=>exact⟨r,[],by unfold jp;rw[e],h,e,by simp,by simp⟩
 |some p=>
  have h1:=bm.1 Wf _ (uL e);unfold Ny at h1;simp only at h1;cases hp:jp r with
  |nil=>rw[hp] at h1;cases h1
  |cons b a=>
   rw[hp] at h1;simp only[aN,decide_eq_true_eq,bm,ab] at h1;exact⟨b,a,rfl,h1.1.1.1,h1.1.1.2,h1.1.2,by omega⟩
theorem HX (r:Int):(jp r).length<=3/\1<=(jp r).length:=by
 unfold jp
 (repeat' split)<;>simp
theorem HY {k:Int} {p:cM} (h:cf k eP=some p):(0<=p.e0/\p.e0<=2000)/\(0<=p.e1/\p.e1<=2000)/\dx k=true:=by
 have:=bm.1 Wg _ (uL h);simp only[aN,decide_eq_true_eq] at this;obtain⟨⟨h1,h2,h3,e,h5,d⟩,a⟩:=this;exact⟨⟨h3,e⟩,⟨h5,d⟩,a⟩
theorem EA {r:Int} (h:gJ r):∀y∈jp r,gJ y:=by
 intro y hy;unfold jp at hy;split at hy
 ·simp at hy;subst hy;exact h
 ·rename_i p hp;obtain⟨h1,h2,_⟩:=HY hp;split at hy
  ·simp at hy;rcases hy with rfl | rfl<;>exact⟨by omega,by omega⟩
  ·rename_i q a;obtain⟨h3,d,_⟩:=HY a;simp at hy;rcases hy with rfl | rfl | rfl<;>exact⟨by omega,by omega⟩
def gY:Option (bn×List bn)->List bn->List (bn×List bn)
 |none,[]=>[]
 |some c,[]=>[c]
 |none,x::xs=>gY (some (x,[])) xs
 |some c,x::xs=>if eE c.1&&isM x then gY (some (c.1,c.2++[x])) xs else c::gY (some (x,[])) xs
def cl (xs:List bn):List (bn×List bn):=gY none xs
theorem Nz (x:bn) (h:eE x=true):∀ (xs a:List bn),gY (some (x,a)) xs=(x,a++xs.takeWhile isM)::cl (xs.dropWhile isM)
 |[],a=>by simp[gY,cl]
 |y::xs,a=>by
  unfold gY;cases hm:isM y with
  |true=>rw[h,aY,cS,hm];simp only[Bool.and_self,if_true];rw[Nz x h xs];simp
  |false=>rw[aY,cS,hm];simp[cl,gY]
theorem Wh (x:bn) (h:eE x=false) (xs:List bn):gY (some (x,[])) xs=(x,[])::cl xs:=by
 cases xs with
 |nil=>rfl
 |cons y xs=>unfold gY;rw[h];simp[cl,gY]
theorem HZ:cl []=[]:=rfl
theorem yS {x:bn} (h:eE x=true) (xs:List bn):cl (x::xs)=(x,xs.takeWhile isM)::cl (xs.dropWhile isM):=by
 show gY (some (x,[])) xs=_;rw[Nz x h];rfl
theorem EB {x:bn} (h:eE x=false) (xs:List bn):cl (x::xs)=(x,[])::cl xs:=Wh x h xs
def loI (a:List bn):List bn:=a.filter ob
def hiI (a:List bn):List bn:=a.filter λx=>!ob x
def oc (c:bn×List bn):List bn:=c.1::(loI c.2++hiI c.2)
def nq (xs:List bn):List bn:=(cl xs).flatMap oc
theorem tU (a:List bn):(loI a++hiI a).length=a.length:=by
 unfold loI hiI
 induction a with
 |nil=>rfl
 |cons x a d=>
  rw[jG,jG];rw[aa] at d |-
  cases ob x<;>simp<;>omega
theorem H0 {a:List bn} (h:∀m∈a,isM m=true):∀m∈loI a++hiI a,isM m=true:=by
 intro m hm;unfold loI hiI at hm;rw[bv,cG,cG] at hm;rcases hm with hm|hm<;>exact h m hm.1
theorem H1 (xs:List bn):∀m∈xs.takeWhile isM,isM m=true:=bm.1 List.all_takeWhile
def ku (x:bn):List bn:=if eE x then (jp x.Rune).map λr=>⟨r,ae r,x.At⟩ else [x]
def apL (l:List bn):List bn:=l.flatMap ku
theorem NA (x:bn):(ku x).length<=3:=by
 unfold ku;split
 ·simp;exact (HX _).1
 ·simp
def tk (l:List bn):Prop:=∀x∈l,gJ x.Rune
theorem H2 {l:List bn} (h:tk l):tk (apL l):=by
 intro y hy;unfold apL at hy;obtain⟨x,hx,hy⟩:=List.mem_flatMap.1 hy;unfold ku at hy;split at hy
 ·obtain⟨r,hr,rfl⟩:=List.mem_map.1 hy;exact EA (h x hx) r hr
 ·simp at hy;subst hy;exact h _ hx
theorem w3 (l:List bn):(apL l).length<=3*l.length:=by
 unfold apL
 induction l with
 |nil=>simp
 |cons x l a=>rw[aK,aa,ab];have:=NA x;omega
theorem H3 {α β:Type} (g:α->List β):∀ (xs:List α) (a:List β),xs.foldl (λa x=>a++g x) a=a++xs.flatMap g
 |[],a=>by simp
 |x::xs,a=>by rw[bz,H3 g xs];simp
theorem Wi (l:List bn) (g:tk l) (i:l.length<=268435456) (J:List bn->Option (List bn)):bP (λ_ _=>none) (Bo l J) bN [] 0=J (apL l):=by
 refine (tj l (λa x=>a++ku x) J (λk a=>a.length<=3*k) ?_ ?_ ?_ (jC z1) (by simp)).trans ?_
 ·intro ag k x a hx hi;have hk:=pM hx;have d:=g x (aF hx);unfold Bo;refine ca (oa hx) (cL (aV (mY hx) (aV (yQ x d) ?_)));cases hL:dx x.Rune with
  |false=>
   have:ku x=[x]:=by unfold ku eE;rw[hL];rfl
   rw[this];exact ca rfl (gO (dI (kG z1) rfl))
  |true=>
   have:ku x=(jp x.Rune).map λr=>⟨r,ae r,x.At⟩:=by unfold ku eE;rw[hL];rfl
   rw[this];refine bR rfl (aV (Wb _) ?_);have hp:=HX x.Rune;refine (tj (jp x.Rune) (λa (r:Int)=>a++[(⟨r,ae r,x.At⟩:bn)]) (λe=>grd (I64 ((k:Int)+1))<|ag e ((k:Int)+1)) (λj b=>b.length<=3*k+j) ?_ ?_ ?_ (jC z1) z1).trans ?_
   ·intro h j r b hr hb;have hj:=pM hr;unfold Ep;exact ca (oa hr) (aV (mY hr) (aV (HV r x (EA d r (aF hr))) (gO (dI (kG z1) rfl))))
   ·intro j r b _ hb;simp;omega
   ·intro h b _;unfold Ep;exact bR nR rfl
   ·rw[H3 (λr=>[(⟨r,ae r,x.At⟩:bn)])];refine dI (kG z1) ?_;rw[List.map_eq_flatMap]
 ·intro k x a _ hi;simp only[aa];have:=NA x;omega
 ·intro ag a _;unfold Bo;exact bR nR rfl
 ·rw[H3 ku];rfl
theorem vR {α:Type} (A:List α) (x:α) (B:List α):(A++x::B)[A.length]?=some x:=by simp
theorem H4 {α:Type} (A:List α) (x:α) (B:List α) (i:Int) (hi:i=(A.length:Int)):ee (A++x::B) (i+1) (((A++x::B).length:Nat):Int)=B:=by
 subst hi;unfold ee;rw[show ((A.length:Int)+1).toNat=(A++[x]).length by simp];rw[show A++x::B=(A++[x])++B by simp,jb,ff (by simp;omega)]
theorem Wj {α:Type} (A:List α) (x:α) (M B:List α) (i r:Int) (hi:i=(A.length:Int)) (hr:r=(M.length:Int)):ee (A++x::(M++B)) (i+1) ((i+1)+r)=M:=by
 subst hi;subst hr;unfold ee;rw[show ((A.length:Int)+1).toNat=(A++[x]).length by simp];rw[show A++x::(M++B)=(A++[x])++(M++B) by simp,jb];rw[show (((A.length:Int)+1+(M.length:Int)).toNat-(A++[x]).length)=M.length by simp;omega,lD]
theorem Wk {α:Type} (A:List α) (x:α) (M B a:List α) (j:Nat) (hj:j=A.length+1) (hy:a.length=M.length):vy (A++x::(M++B)) j a=A++x::(a++B):=by
 subst hj;unfold vy;rw[show A++x::(M++B)=((A++[x])++M)++B by simp,hy];rw[show ((A++[x])++M++B).take (A.length+1)=A++[x] by
  rw[List.append_assoc,show A.length+1=(A++[x]).length by simp,lD]]
 rw[show ((A++[x])++M++B).drop (A.length+1+M.length)=B by
  rw[show A.length+1+M.length=((A++[x])++M).length by simp;omega,jb]]
 simp
theorem Wm (M:List bn):∀a:List bn×List bn,M.foldl (λa x=>if ob x then (a.1++[x],a.2) else (a.1,a.2++[x])) a=(a.1++loI M,a.2++hiI M):=by
 induction M with
 |nil=>intro a;simp[loI,hiI]
 |cons x M d=>
  intro a;rw[bz,d];unfold loI hiI;cases h:ob x<;>simp[h]
theorem Wn (d A M B:List bn) (x:bn) (J:List bn->Option (List bn)) (ag:List bn->Int->Option (List bn)) (i:Int) (hi:i=(A.length:Int)) (s:d.length=(A++x::(M++B)).length) (hx:eE x=true) (g:gJ x.Rune) (t:(M++B).takeWhile isM=M) (hb:d.length<=1073741824):sD d J ag (A++x::(M++B)) i=ag (A++x::((loI M++hiI M)++B)) (i+1):=by
 have u:(A++x::(M++B)).length=A.length+1+M.length+B.length:=by simp;omega
 unfold sD;refine eQ (cL (aV (wA hi (vR A x _)) (aV (yQ x g) ?_)));have j:dx x.Rune=true:=hx;rw[j];refine bR rfl (cL (gO (gO (gO (gO ?_)))));rw[H4 A x (M++B) i hi];refine aV (HW (M++B) (by simp;omega)) ?_;have m:((M++B).takeWhile λx=>fV x.Rune)=M:=t;rw[m];refine gO (gO ?_);have e:=Wj A x M B i (M.length:Int) hi rfl;refine (M6 (Bp (A++x::(M++B)) i _ (M.length:Int)) (λ(a:List bn×List bn) x=>if ob x then (a.1++[x],a.2) else (a.1,a.2++[x])) (λlo h=>grd (lo.length+h.length<=2147483648)<|grd (I64 (i+1))<|ag (vy (A++x::(M++B)) (0+(i+1:Int).toNat) ((lo++h).take M.length)) (i+1)) (xs:=M)
  (λk a=>a.1.length+a.2.length=k) ?_ ?_ ?_ (jC z1) (a:=([],[])) rfl).trans ?_
 ·intro n k y a hy l;have hk:=pM hy;unfold Bp;rw[e];refine ca (oa hy) (cL (aV (mY hy) (aV (Nk _) ?_)));have:ow y.Rune=ob y:=rfl;rw[this];cases ob y with
  |true=>exact ca rfl (gO (dI (kG z1) rfl))
  |false=>exact bR rfl (gO (dI (kG z1) rfl))
 ·intro k y a _ l;split<;>simp<;>omega
 ·intro n a ha;unfold Bp;rw[e];exact bR nR rfl
 ·rw[Wm];simp only[bj];have h1:=tU M;rw[aa] at h1;refine gO (gO ?_);rw[ff (by rw[aa];omega),Wk A x M B _ _ z1 (tU M)]
theorem NB (a A B:List bn) (x:bn) (J:List bn->Option (List bn)) (ag:List bn->Int->Option (List bn)) (i:Int) (hi:i=(A.length:Int)) (g:a.length=(A++x::B).length) (hx:eE x=false) (d:gJ x.Rune) (hb:a.length<=1073741824) : sD a J ag (A++x::B) i=ag (A++x::B) (i+1):=by
 have h:(A++x::B).length=A.length+1+B.length:=by simp;omega
 unfold sD;refine eQ (cL (aV (wA hi (vR A x _)) (aV (yQ x d) ?_)));have e:dx x.Rune=false:=hx;rw[e];exact ca rfl (gO rfl)
theorem yT:nq []=[]:=rfl
theorem w4 {x:bn} (h:eE x=true) (xs:List bn):nq (x::xs)=x::((loI (xs.takeWhile isM)++hiI (xs.takeWhile isM))++nq (xs.dropWhile isM)):=by
 unfold nq;rw[yS h];simp[oc]
theorem w5 {x:bn} (h:eE x=false) (xs:List bn):nq (x::xs)=x::nq xs:=by
 unfold nq;rw[EB h];simp[oc,loI,hiI]
theorem Wo (d:List bn) (J:List bn->Option (List bn)) (hb:d.length<=1073741824):∀ (m n:Nat) (A B:List bn),B.length<=m->B.length<n->d.length=(A++B).length->tk B -> bP (λ_ _=>none) (sD d J) n (A++B) (A.length:Int)=J (A++nq B):=by
 have skip:∀ (M A B:List bn) (n:Nat),(∀y∈M,eE y=false)->tk M->d.length=(A++(M++B)).length->bP (λ_ _=>none) (sD d J) (n+M.length) (A++(M++B)) (A.length:Int)=bP (λ_ _=>none) (sD d J) n (A++(M++B)) ((A++M).length:Int):=by
  intro M
  induction M with
  |nil=>intro A B n _ _ _;simp
  |cons y M w=>
   intro A B n j e a;rw[show n+(y::M).length=(n+M.length)+1 by simp;omega,iB,aW,NB d A (M++B) y J _ _ rfl a (j y (ar ..)) (e y (ar ..)) hb];have:=w (A++[y]) B n (λz hz=>j z (ak _ hz)) (λz hz=>e z (ak _ hz)) (by rw[a];simp);have e1:A++[y]++(M++B)=A++y::(M++B):=by simp
   have e2:A++[y]++M=A++y::M:=by simp
   rw[e1,e2] at this;rw[<-this];congr 1;simp
 intro m
 induction m with
 |zero=>
  intro n A B hB C a e;have:B=[]:=List.eq_nil_of_length_eq_zero z1;subst this;obtain⟨n,rfl⟩:∃k,n=k+1:=⟨n-1,by omega⟩;rw[iB];unfold sD;rw[aE] at a |-
  exact fc (by rw[yT,aE])
 |succ m w=>
  intro n A B hB C a e;obtain⟨n,rfl⟩:∃k,n=k+1:=⟨n-1,by omega⟩;cases B with
  |nil=>
   rw[iB];unfold sD;rw[aE] at a |-
   exact fc (by rw[yT,aE])
  |cons x xs=>
   rw[iB];simp only[ab] at hB;cases hL:eE x with
   |false=>
    rw[NB d A xs x J _ _ rfl a hL (e x (ar ..)) hb,w5 hL];simp only[ab] at C;have:=w n (A++[x]) xs z1 z1 (by rw[a];simp) (λz hz=>e z (ak _ hz));have e1:A++[x]++xs=A++x::xs:=by simp
    rw[e1] at this;rw[show ((A.length:Int)+1)=((A++[x]).length:Int) by simp,this];simp
   |true=>
    obtain⟨M,R,j,D,g⟩:∃M R,M=xs.takeWhile isM/\R=xs.dropWhile isM/\xs=M++R:=⟨_,_,rfl,rfl,(List.takeWhile_append_dropWhile).symm⟩;have h:=Wn d A M R x J (bP (λ_ _=>none) (sD d J) n) (A.length:Int) rfl (by rw[<-g];exact a) hL (e x (ar ..)) (by rw[<-g,<-j]) hb;rw[<-g] at h;have i:∀y∈loI M++hiI M,isM y=true:=H0 (by rw[j];exact H1 xs);have t:tk (loI M++hiI M):=λy hy=>e y (by
     unfold loI hiI at hy;rw[bv,cG,cG] at hy;rw[g];rcases hy with hy|hy<;>exact ak _ (List.mem_append_left _ hy.1))
    have u:=tU M;have l:xs.length=M.length+R.length:=by rw[g];simp
    have v:(A++x::xs).length=A.length+1+xs.length:=by simp;omega
    rw[h,w4 hL,<-j,<-D];simp only[ab] at C;obtain⟨k,hk⟩:∃k,n=k+(loI M++hiI M).length:=⟨n-M.length,by omega⟩;have s:=skip (loI M++hiI M) (A++[x]) R k (λy hy=>sF (i y hy)) t (by rw[a,v,l];simp only[aa,ab,aB] at u |-;omega);have e1:A++[x]++(loI M++hiI M++R)=A++x::(loI M++hiI M++R):=by simp
    rw[e1] at s;rw[hk,show ((A.length:Int)+1)=((A++[x]).length:Int) by simp,s];have:=w k (A++[x]++(loI M++hiI M)) R z1 z1 (by rw[a,v,l];simp only[aa,ab,aB] at u |-;omega) (λz hz=>e z (by rw[g];exact ak _ (List.mem_append_right _ hz)));have e2:A++[x]++(loI M++hiI M)++R=A++x::(loI M++hiI M++R):=by simp
    rw[e2] at this;rw[this];simp
theorem H5 (l:List bn) (a:tk l) (d:l.length<=268435456):yM l=some (nq (apL l)):=by
 unfold yM;refine cL ((Wi l a d _).trans (cL ?_));have h1:=w3 l;have:=Wo (apL l) some z1 (apL l).length bN [] (apL l) (Nat.le_refl _) (jC z1) rfl (H2 a);simpa using this
def yU (r1:Int):Option Int := cm (λ(a:Option Int)=>G ((r1:Int) != 65533) (G (decide (ae r1=(⟨#[239,191,189]⟩:V))) (some 0) (a)) (a)) (some ((ae r1).size:Int))
theorem NC {r1:Int} {r:Int} (h:yU r1=some r):eO prog 131 [.int .i32 r1] (zI r):=by
 refine eO.intro func131 rfl ntmps131 (by simp) (λw0 K=>cJ Unit h 1 rfl (λa b=>a=some r) (λb=>[]) (λb=>[(0,.int .i32 r1)]) (λb=>[]) (λa h cut=>?_) ?_)
 ·refine I (O 1 rfl (Y (cut (I (O 1 rfl (E rfl nh (O 1 rfl (du 5 rfl h (λh=>?_) (λh=>?_)))))))))
  ·refine O 1 rfl (jI rfl dc rfl (nM bl am) (E rfl mf (O 1 rfl (Y (bu rfl h (λh=>?_) (λh=>?_))))))
   ·refine I (O 1 rfl (Y (bO (bZ ?_))));cases h;exact dt 2 results131
   exact bw (mD () h 0)
  exact O 4 rfl (Y (eU rfl (bw (mD () h 0))))
 refine λ_ h=>I (O 1 rfl (jI rfl dc rfl (nM bl am) (mw rfl dc rfl am (O 1 rfl (Y (bO ?_))))));cases h;exact dt 2 results131
def qt (r1:Int):Option Int := some (nk .u8 (Dk .u8 (IntKind.u8.wrap r1) 63) 128)
theorem yV {r1:Int} {r:Int} (h:qt r1=some r):eO prog 132 [.int .i32 r1] (.int .u8 r):=by
 unfold qt at h;refine eO.intro func132 rfl ntmps132 (by simp) (λw0 K=>I (O 1 rfl (cw (O 1 rfl (jI rfl dc rfl (qp bl dZ) (O 1 rfl (cw (O 1 rfl (E rfl Rv (O 1 rfl (cw (O 1 rfl (E rfl Dm (O 1 rfl (cw (O 2 rfl (Y (bO ?_))))))))))))))))));cases h;exact dt 2 results132
def EC (d:V) (a:Int) (h:Option dq) (i:Option dq):Option dq := G (decide (0<(fK (c6 d a (d.size:Int)).data.toList).length)) (T ((fK (c6 d a (d.size:Int)).data.toList)[0]?) λ(p1:Pc)=>cm (λ(e:Int->Option dq)=>T (yU (p1.r:Int)) λ(r1:Int)=>G (((p1.r:Int):Int)==65533) (grd (I64 ((d.size:Int)-a)) <|G (decide ((((d.size:Int)-a):Int)<3)) (some (⟨a,1,65533,true⟩:dq)) (grd (I64 (a+3)) <|grd (0<=(a:Int)/\(a:Int)<=(a+3)/\(a+3:Int)<=(d.size:Int)) <|G (!decide (c6 d a (a+3)=(⟨#[239,191,189]⟩:V))) (some (⟨a,1,65533,true⟩:dq)) (e r1))) (e r1)) (λ(g:Int)=>some (⟨a,g,(p1.r:Int),false⟩:dq))) (h)
def BA (d:V) (a:Int):Option dq := cm (λ(e:Option dq)=>grd (0<=(a:Int)/\(a:Int)<=(d.size:Int)/\((d.size:Int):Int)<=(d.size:Int)) <|bP none (EC d a e) bN) (some (⟨0,0,0,false⟩:dq))
theorem Wp {e:V} {d:Int} {r:dq} (h:BA e d=some r):eO prog 136 [.string e,zI d] (.agg (fC r).toArray):=by
 refine eO.intro func136 rfl ntmps136 (by simp) (λw0 K=>cJ Nat h 1 rfl (λt b=>t=some r) (λb=>[]) (λb=>[(4,zP b)]) (λb=>[cells b [zI 0,zI 0,.int .i32 0,.bool false] 102]) (λt h cut=>?_) ?_)
 ·refine I (fZ rb rfl dc (λl=>Y (cut (I (O 2 rfl (bi h λJ h=>jj rfl dc rfl rfl rfl (lP d (e.size:Int) am (.inr rfl) (.inl ⟨rfl,rfl⟩) J) (wO am rfl dc rfl (λW=>Y (ck (fP Unit (EC e d t) (λa b=>a=some r) (λb=>[]) (λb=>[(0,.string e),(1,zI d),(4,zP l),(11,zP W)]) (λb=>[cells l [zI 0,zI 0,.int .i32 0,.bool false] 102,obj W (.stringIter (c6 e d (e.size:Int)) (n8 (c6 e d (e.size:Int)) 0))]) () h 2 (λZ _ h=>?_)))))))))));unfold EC at h;refine I (vx (decide (0<(fK (c6 e d (e.size:Int)).data.toList).length)) (λg=>?_) (λg=>?_))
  ·have h:=pY g h;refine aU h λp1 w h=>wP 1 0 p1 rfl dc rfl rfl w (fF rfl dc rfl rfl (Y (bV (jy rfl (bw (cu (ck (cJ Int h 2 rfl (λM b=>M b=some r) (λb=>[]) (λb=>[(1,zI d),(4,zP l),(6,.int .i32 (p1.r:Int)),(7,zI b)]) (λb=>[cells l [zI 0,zI 0,.int .i32 0,.bool false] 102]) (λM h cut=>?_) ?_))))))))
   ·refine I (fF rfl dc rfl rfl (O 1 rfl (cw (O 1 rfl (aU h λr1 u h=>dF (zI r1) [.int .i32 (p1.r:Int)] rfl dc rfl rfl rfl Mv (NC u) (O 1 rfl (Y (cut (I (O 1 rfl (E rfl eZ (O 1 rfl (du 19 rfl h (λh=>?_) (λh=>?_))))))))))))))
    ·refine O 1 rfl (mw rfl dc rfl am (O 1 rfl (bi h λH h=>E rfl (iV ((e.size:Int)-d) (ac _ H)) (E rfl dL (O 1 rfl (du 25 rfl h (λh=>?_) (λh=>?_)))))))
     ·refine O 8 rfl (Y (jy rfl (I (O 1 rfl (fH (.agg #[zI d,zI 1,.int .i32 65533,.bool true]) [(0,.tmp 34),(1,.const (zI 1)),(2,.const (.int .i32 65533)),(3,.const (.bool true))] rfl dc rfl (λ_=>by kernel_rfl) (fI 0 [zI d,zI 1,.int .i32 65533,.bool true] [zI d,zI 1,.int .i32 65533,.bool true] mg rfl rfl rfl rfl rfl (show _<=_ by simp) rfl rfl (Y (bO (bZ (cK (bZ (cK (bZ ?_)))))))))))));cases h;exact eW [.cell 4 102] () (.inl rfl) si (.cons (.cells nm (k:=0) rfl rfl rfl) .nil) rfl aC
     refine O 3 rfl (bi h λD h=>E rfl (c8 (d+3) (ac _ D)) (bi h λC h=>jj rfl dc rfl rfl rfl (lP d (d+3) am (.inr rfl) (.inr rfl) C) (E rfl tF (O 2 rfl (Y (bu rfl h (λh=>?_) (λh=>?_)))))))
     ·refine I (O 1 rfl (fH (.agg #[zI d,zI 1,.int .i32 65533,.bool true]) [(0,.tmp 34),(1,.const (zI 1)),(2,.const (.int .i32 65533)),(3,.const (.bool true))] rfl dc rfl (λ_=>by kernel_rfl) (fI 0 [zI d,zI 1,.int .i32 65533,.bool true] [zI d,zI 1,.int .i32 65533,.bool true] mg rfl rfl rfl rfl rfl (show _<=_ by simp) rfl rfl (Y (bO (bZ (cK (bZ (cK (bZ ?_))))))))));cases h;exact eW [.cell 4 102] () (.inl rfl) si (.cons (.cells nm (k:=0) rfl rfl rfl) .nil) rfl aC
     exact bw (mD r1 h 1)
    exact O 14 rfl (Y (eU rfl (bw (mD r1 h 1))))
   refine λn h=>I (O 3 rfl (fH (.agg #[zI d,zI n,.int .i32 (p1.r:Int),.bool false]) [(0,.tmp 36),(1,.tmp 37),(2,.tmp 38)] rfl dc rfl (λ_=>by kernel_rfl) (fI 0 [zI d,zI n,.int .i32 (p1.r:Int),.bool false] [zI d,zI n,.int .i32 (p1.r:Int),.bool false] mg rfl rfl rfl rfl rfl (show _<=_ by simp) rfl rfl (Y (bO (cK (bZ (cK (bZ ?_)))))))));cases h;exact eW [.cell 4 102] () (.inl rfl) si (.cons (.cells nm (k:=0) rfl rfl rfl) .nil) rfl aC
  have h:=pZ g h;exact wQ 1 0 rfl dc rfl rfl (jT (of_decide_eq_false g)) (fF rfl dc rfl rfl (Y (bV (eU rfl (dG (bS (bS (dH (mD l h 1)))))))))
 refine λb1 h=>I (fH (.agg #[zI 0,zI 0,.int .i32 0,.bool false]) [] rfl dc rfl (λ_=>by kernel_rfl) (fI 0 [zI 0,zI 0,.int .i32 0,.bool false] [zI 0,zI 0,.int .i32 0,.bool false] mg rfl rfl rfl rfl rfl (show _<=_ by simp) rfl rfl (Y (bO ?_))));cases h;exact eW [.cell 4 102] () (.inl rfl) si (.cons (.cells nm (k:=0) rfl rfl rfl) .nil) rfl aC
def ED (r1:Int):Option V := cm (λ(j:Int->Option V)=>T (yU r1) λ(r3:Int)=>G ((r3:Int)==0) (j 65533) (j r1)) (λ(r2:Int)=>G (decide ((r2:Int)<128)) (grd (∀x∈([IntKind.u8.wrap r2]:List Int),U8 x) <|some (kK ([IntKind.u8.wrap r2]:List Int))) (G (decide ((r2:Int)<2048)) (T (qt r2) λ(i:Int)=>grd (∀x∈([nk .u8 192 (IntKind.u8.wrap (er .i32 r2 6)),i]:List Int),U8 x) <|some (kK ([nk .u8 192 (IntKind.u8.wrap (er .i32 r2 6)),i]:List Int))) (G (decide ((r2:Int)<65536)) (T (qt (er .i32 r2 6)) λ(h:Int)=>T (qt r2) λ(g:Int)=>grd (∀x∈([nk .u8 224 (IntKind.u8.wrap (er .i32 r2 12)),h,g]:List Int),U8 x) <|some (kK ([nk .u8 224 (IntKind.u8.wrap (er .i32 r2 12)),h,g]:List Int))) (T (qt (er .i32 r2 12)) λ(e:Int)=>T (qt (er .i32 r2 6)) λ(d:Int)=>T (qt r2) λ(a:Int)=>grd (∀x∈([nk .u8 240 (IntKind.u8.wrap (er .i32 r2 18)),e,d,a]:List Int),U8 x) <|some (kK ([nk .u8 240 (IntKind.u8.wrap (er .i32 r2 18)),e,d,a]:List Int))))))
theorem Wq {r1:Int} {r:V} (h:ED r1=some r):eO prog 97 [.int .i32 r1] (.string r):=by
 refine eO.intro func97 rfl ntmps97 (by simp) (λw0 K=>cJ Int h 1 rfl (λM b=>M b=some r) (λb=>[]) (λb=>[(0,.int .i32 b)]) (λb=>[]) (λM h cut=>I (O 1 rfl (Y (cut (I (O 1 rfl (aU h λr3 w h=>dF (zI r3) [.int .i32 r1] rfl dc rfl rfl rfl Mv (NC w) (E rfl eZ (Y (bu rfl h (λh=>bX (O 1 rfl (bC (mD 65533 h 0)))) (λh=>bw (mD r1 h 0)))))))))))) (λr2 h=>bV (ck (I (O 1 rfl (E rfl dL (O 1 rfl (Y (bu rfl h (λh=>?_) (λh=>?_))))))))))
 ·refine I (O 1 rfl (jI rfl dc rfl (qp bl dZ) (hQ [(0,.tmp 10)] 5 [.int .u8 (IntKind.u8.wrap r2)] rfl dc rfl (λ_=>by kernel_rfl) (λb1=>pd 0 ([IntKind.u8.wrap r2]:List Int) rfl iq rfl (show 1<=maxLen by decide) (bi h λJ h=>vk 0 rfl (xO J) (tG 0 rfl dc rfl rfl dr dZ am (O 1 rfl (Y (bO (cK (bZ ?_)))))))))));cases h;exact dt 2 um
 refine I (O 1 rfl (E rfl dL (O 1 rfl (Y (bu rfl h (λh=>?_) (λh=>?_))))))
 ·refine I (O 1 rfl (E rfl (tH dc) (jI rfl dc rfl (qp bl dZ) (E rfl Dm (O 1 rfl (aU h λj u h=>dF (.int .u8 j) [.int .i32 r2] rfl dc rfl rfl rfl yk (yV u) (hQ [(0,.tmp 19),(1,.tmp 21)] 5 [.int .u8 (nk .u8 192 (IntKind.u8.wrap (er .i32 r2 6))),.int .u8 j] rfl dc rfl (λ_=>by kernel_rfl) (λb2=>pd 0 ([nk .u8 192 (IntKind.u8.wrap (er .i32 r2 6)),j]:List Int) rfl iq rfl (show 2<=maxLen by decide) (bi h λH h=>vk 0 rfl (xO H) (tG 0 rfl dc rfl rfl dr dZ am (O 1 rfl (Y (bO (cK (bZ ?_)))))))))))))));cases h;exact dt 2 um
 refine I (O 1 rfl (E rfl dL (O 1 rfl (Y (bu rfl h (λh=>?_) (λh=>?_))))))
 ·refine I (O 1 rfl (E rfl (tH dc) (jI rfl dc rfl (qp bl dZ) (E rfl Dm (O 1 rfl (E rfl (tH dc) (aU h λi t h=>dF (.int .u8 i) [.int .i32 (er .i32 r2 6)] rfl dc rfl rfl rfl yk (yV t) (O 1 rfl (aU h λg s h=>dF (.int .u8 g) [.int .i32 r2] rfl dc rfl rfl rfl yk (yV s) (hQ [(0,.tmp 30),(1,.tmp 33),(2,.tmp 35)] 5 [.int .u8 (nk .u8 224 (IntKind.u8.wrap (er .i32 r2 12))),.int .u8 i,.int .u8 g] rfl dc rfl (λ_=>by kernel_rfl) (λZ=>pd 0 ([nk .u8 224 (IntKind.u8.wrap (er .i32 r2 12)),i,g]:List Int) rfl iq rfl (show 3<=maxLen by decide) (bi h λD h=>vk 0 rfl (xO D) (tG 0 rfl dc rfl rfl dr dZ am (O 1 rfl (Y (bO (cK (bZ ?_))))))))))))))))));cases h;exact dt 2 um
 refine bw (cg (cu (I (O 1 rfl (E rfl (tH dc) (jI rfl dc rfl (qp bl dZ) (E rfl Dm (O 1 rfl (E rfl (tH dc) (aU h λe n h=>dF (.int .u8 e) [.int .i32 (er .i32 r2 12)] rfl dc rfl rfl rfl yk (yV n) (O 1 rfl (E rfl (tH dc) (aU h λd m h=>dF (.int .u8 d) [.int .i32 (er .i32 r2 6)] rfl dc rfl rfl rfl yk (yV m) (O 1 rfl (aU h λa l h=>dF (.int .u8 a) [.int .i32 r2] rfl dc rfl rfl rfl yk (yV l) (hQ [(0,.tmp 41),(1,.tmp 44),(2,.tmp 47),(3,.tmp 49)] 5 [.int .u8 (nk .u8 240 (IntKind.u8.wrap (er .i32 r2 18))),.int .u8 e,.int .u8 d,.int .u8 a] rfl dc rfl (λ_=>by kernel_rfl) (λW=>pd 0 ([nk .u8 240 (IntKind.u8.wrap (er .i32 r2 18)),e,d,a]:List Int) rfl iq rfl (show 4<=maxLen by decide) (bi h λC h=>vk 0 rfl (xO C) (tG 0 rfl dc rfl rfl dr dZ am (O 1 rfl (Y (bO ?_))))))))))))))))))))));cases h;exact dt 2 um
def yW (c0:V) (d:Nat->Option (List dq)) (a:Nat):Option (List dq) := G (decide (a<(fK c0.data.toList).length)) (T ((fK c0.data.toList)[a]?) λ(p1:Pc)=>T (BA c0 (p1.i:Int)) λ(r1:dq)=>wE r1 <|d (a+1)) (some [])
def uN (c0:V):Option (List dq) := bP (λ_=>none) (yW c0) bN 0
theorem BB {e:Nat} {c0:V} {xs:(List dq)} (h:uN c0=some xs):uu prog 135 [zP e] (λq:dq=>[.agg (fC q).toArray]) xs [(e,.cells #[.string c0] 9 (0,0))]:=by
 unfold uN at h;refine uu.intro func135 rfl ntmps135 (by simp) (λl w0 K W X u hy=>?_);obtain⟨r0,t⟩:∃r,xs=[]++r:=⟨xs,rfl⟩;have H:xs=r0:=t;rw[H] at h;refine I (Dc 0 u eJ rfl dc rfl rfl rfl (wO am rfl dc rfl (λb1=>Y (ck (fP (Nat×(List dq)×(List dq)) (yW c0) (λa b=>a b.1=some b.2.2/\xs=b.2.1++b.2.2) (λb=>[]) (λb=>[(0,.func (.yield l) #[] #[]),(1,zP e),(5,zP b1)]) (λb=>[W b.2.1,obj b1 (.stringIter c0 (n8 c0 b.1))]) (0,([]:List dq),r0) ⟨h,t⟩ 2 ?_)))));rintro ag ⟨w,d,Z⟩ ⟨h,s⟩;unfold yW at h;refine I (vx (decide (w<(fK c0.data.toList).length)) (λj=>?_) (λj=>?_))
 ·have h:=pY j h;refine aU h λp1 M h=>wP 1 w p1 rfl dc rfl rfl M (fF rfl dc rfl rfl (Y (bV (jy rfl (bw (cu (ck (I (fF rfl dc rfl rfl (O 1 rfl (bC (cu (I (O 1 rfl (Dc 0 u eJ rfl dc rfl rfl rfl (O 1 rfl (aU h λr1 J h=>dF (.agg (fC r1).toArray) [.string c0,zI (p1.i:Int)] rfl dc rfl rfl rfl TU (Wp J) ?_)))))))))))))))));obtain⟨g,D,h⟩:=xS h;have n:xs=d++r1::g:=by rw[s,D]
  refine xD 0 hy rfl dc rfl n rfl rfl ?_ ?_
  ·have C:xs=(d++[r1])++g:=by rw[n];simp
   exact lh rfl dc rfl lj (Y (eU rfl (bw (cg (mD (w+1,d++[r1],g) ⟨h,C⟩ 2)))))
  exact lh rfl dc rfl lj (Y (jy rfl (bO (cK (bZ (cK (xE (ds:=[]) d r1 g n (.inl rfl) aC results135 (cO 1))))))))
 have h:=pZ j h;refine wQ 1 w rfl dc rfl rfl (jT (of_decide_eq_false j)) (fF rfl dc rfl rfl (Y (bV (eU rfl (dG (bS (bS (dH ?_))))))));cases h;exact zY (ds:=[]) (.inr rfl) aC results135 (aI W (s.trans (aE _))) (cO 1)
def w6 (a:V):Option V := some a
theorem BC {a:V} {r:V} (h:w6 a=some r):Fn prog 102 [.string a] [] (λv0:Nat=>.func (.func 135) #[] #[zP v0]) (λv0=>[cells v0 [.string r] 9]):=by
 unfold w6 at h;refine Fn.intro func102 rfl ntmps102 (by simp) (λw0 K=>I (lE rfl dc rfl (λb1=>O 1 rfl (cw (xC [] [.tmp 1] rfl dc rfl rfl (O 1 rfl (Y (bO ?_))))))));cases h;exact eW [.tmp 2] b1 (.inl rfl) results102 (.cons (.tmp rfl) .nil) rfl (cO 1)
theorem Wv (r:Int) (hv:0<=r/\(r<55296\/(57343<r/\r<=1114111))) (hr:¬r=65533):¬ae r=⟨#[239,191,189]⟩:=by
 intro h;obtain⟨n,rfl⟩:=Int.eq_ofNat_of_zero_le hv.1;have h1:encodeRune ((n:Nat):Int)=[239,191,189]:=by rw[<-pg,h]
 have h2:=D0 n z1 [];have h3:=D0 65533 z1 [];rw[h1] at h2;rw[Gz] at h3;rw[h2] at h3;have:=(Prod.mk.inj h3).1;omega
theorem ND (r:Int) (hv:vr r):yU r=some ((ae r).size:Int):=by
 unfold yU;refine cL ?_;by_cases h:r=65533
 ·exact bR (bne_eq_false_iff_eq.2 h) rfl
 ·exact ca (cQ.2 h) (bR (ah (Wv r (by unfold vr at hv;omega) h)) rfl)
theorem Ww (s:V) (a:Nat) (ha:a<s.size) (hsz:s.size<=9223372036854775000):BA s (a:Int)=some (iH ⟨a,(decodeL (s.data.toList.drop a)).2,(decodeL (s.data.toList.drop a)).1⟩):=by
 unfold BA;obtain⟨F,C,_⟩:=yB 1 z1;rw[C];refine cL (gO ?_);rw[iB];generalize bP _ _ F=ag;unfold EC;have j:s.data.toList.drop a≠[]:=by
  intro h;have:=aI fS h;simp at this;omega
 have i:=Af _ j;have t:(s.data.toList.drop a).length=s.size-a:=by simp
 have v:=i.le;have e:(c6 s (a:Int) (s.size:Int)).data.toList=s.data.toList.drop a:=by unfold c6;exact RT s a
 have hp:fK (c6 s (a:Int) (s.size:Int)).data.toList=⟨0,(decodeL (s.data.toList.drop a)).2,(decodeL (s.data.toList.drop a)).1⟩::oP (0+(decodeL (s.data.toList.drop a)).2) ((s.data.toList.drop a).drop (decodeL (s.data.toList.drop a)).2):=by
  rw[e];unfold fK;rw[uy _ _ j]
 have l:vr ((decodeL (s.data.toList.drop a)).1:Int):=by have:=i.valid;unfold vr;omega
 refine ca (an (by rw[hp];simp)) (aV (by rw[hp];rfl) (cL (aV (ND _ l) ?_)));simp only;unfold iH Pc.broken;have n:=i.width;have k:=i.lost_ok;have m:=i.lost_bad;generalize decodeL (s.data.toList.drop a)=d at *;rcases d with⟨r,w⟩;simp only at *;by_cases hr:r=65533
 ·subst hr;refine ca (by decide) (gO ?_);by_cases h3:(s.size:Int)-a<3
  ·refine ca (an h3) ?_;have g:w=1:=by
    by_cases g:w=1
    ·exact g
    ·have:=(k rfl g).2;omega
   subst g;rfl
  ·have u:=HS s a 3;refine bR (ah h3) (gO (gO ?_));by_cases g:w=1
   ·refine ca ?_ (by subst g;rfl);rw[ah]
    ·rfl
    ·intro h;exact m rfl g (by rw[<-u];exact aI (λb:V=>b.data.toList) h)
   ·obtain⟨D,h5⟩:=k rfl g;refine bR ?_ ?_
    ·rw[an]
     ·rfl
     ·apply ByteArray.ext;apply gI.1;rw[show ((a:Int)+3)=(a:Int)+(3:Nat) from rfl,u,D]
    ·rw[Ab,n z1];subst h5;rfl
 ·refine bR (by rw[aA];omega) ?_;rw[Ab,n z1];have:(r==65533&&w==1)=false:=by simp[hr]
  rw[this]
theorem BD (s:V) (l:s.size<=2147483648):uN s=some ((fK s.data.toList).map iH):=by
 unfold uN;have hc:(fK s.data.toList).length<=s.size:=by have:=xR s;unfold fB at this;simpa using this
 have key:∀ (n k:Nat),k<=(fK s.data.toList).length->(fK s.data.toList).length-k<n->bP (λ_=>none) (yW s) n k=some (((fK s.data.toList).drop k).map iH):=by
  intro n
  induction n with
  |zero=>intro k _ h;omega
  |succ n e=>
   intro k hk m;rw[iB];generalize bP (λ_=>none) (yW s) n=ag at e |-
   unfold yW;by_cases h:k<(fK s.data.toList).length
   ·have hx:(fK s.data.toList)[k]?=some (fK s.data.toList)[k]:=aJ h;have hm:=aF hx;generalize (fK s.data.toList)[k]=p at hx hm;obtain⟨g1,g2,a⟩:=wK s.data.toList p hm;have g:s.data.toList.length=s.size:=by rw[eC];rfl
    have j:=a.pos;have hr:BA s (p.i:Int)=some (iH p):=by
     have:=Ww s p.i z1 z1;rw[this];have he:=a.eq;rw[he]
    refine ca (an h) (aV hx (aV hr ?_));rw[e (k+1) z1 z1];have hd:(fK s.data.toList).drop k=p::(fK s.data.toList).drop (k+1):=by
     obtain⟨d,he⟩:=aq.1 hx;rw[<-he];exact aQ d
    rw[hd];rfl
   ·have:k=(fK s.data.toList).length:=by omega
    subst this;exact fc (by rw[ix];rfl)
 have:=key bN 0 (bT _) (by unfold bN;omega);simpa using this
end Go.Proofs.YtncjnoakkghmmaaGreatDoor
