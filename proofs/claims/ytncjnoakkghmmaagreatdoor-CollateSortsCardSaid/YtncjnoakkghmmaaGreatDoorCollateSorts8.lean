/-
  Texts laid together: Vy, Vz, Ws, Wt, Wu, PlCollateSorts. Nothing is assumed.
-/
import Derived.Test.YtncjnoakkghmmaaGreatDoorCollateSorts7
import Derived.Test.YtncjnoakkghmmaaGreatDoorCollateSorts2
set_option maxRecDepth 100000
set_option maxHeartbeats 4000000
namespace Go.Proofs.YtncjnoakkghmmaaGreatDoor
open Go.RowKit Go.Lib
open Tryz
set_option linter.unusedVariables false
set_option linter.unusedSimpArgs false
open _root_.List renaming length_eq_one_iff->rq,length_cons->ab,length_nil->aB,length_append->aa,append_assoc->av,getElem?_append_left->ea,mem_of_getElem?->aF,mem_append->bv,take_append_drop->bo,length_take->aZ,pairwise_append->cB,length_eq_zero_iff->dO,nil_append->bj,append_nil->aE,mem_singleton->bd,replicate->aO,replicate_succ->nY,countP_append->ut,length_map->ax
open _root_.Nat renaming le_refl->aS
theorem W_ {R:Type} (F:(Int->Option R)->(Int->Int->Option R)->Int->Int->Option R) (p:Nat->Bool) (lo hi:Nat)
  (h1:∀J ag (i j:Nat),lo<=i->i<j->j<=hi->F J ag i j=if p ((i+j) / 2) then ag (((i+j) / 2+1:Nat):Int) j else ag i (((i+j) / 2:Nat):Int)) (h2:∀J ag (i:Nat),F J ag i i=J i) :
  ∀ (d i j f:Nat),j-i<=d->d<f->lo<=i->i<=j->j<=hi->(i=lo\/p (i-1)=true)->(j=hi\/p j=false) ->
   ∃k:Nat,i<=k/\k<=j/\(k=lo\/p (k-1)=true)/\(k=hi\/p k=false)/\∀J,bP (λ_ _=>none) (F J) f i j=J k:=by
 intro d
 induction d with
 |zero=>
  intro i j f e1 e2 g n e b a;have:i=j:=by omega
  subst this;cases f with
  |zero=>omega
  |succ f=>exact⟨i,by omega,by omega,b,a,λJ=>by rw[jz];exact h2 J _ i⟩
 |succ d m=>
  intro i j f e1 e2 g n e b a;cases f with
  |zero=>omega
  |succ f=>
  by_cases l:i=j
  ·subst l;exact⟨i,by omega,by omega,b,a,λJ=>by rw[jz];exact h2 J _ i⟩
  by_cases hp:p ((i+j) / 2)=true
  ·obtain⟨k,k1,k2,k3,k4,h⟩:=m ((i+j) / 2+1) j f z1 z1 z1 z1 e (.inr (by simpa using hp)) a;exact⟨k,by omega,k2,k3,k4,λJ=>by rw[jz,h1 J _ i j g z1 e,aj hp];exact h J⟩
  ·obtain⟨k,k1,k2,k3,k4,h⟩:=m i ((i+j) / 2) f z1 z1 g z1 z1 b (.inr (by simpa using hp));exact⟨k,k1,by omega,k3,k4,λJ=>by rw[jz,h1 J _ i j g z1 e,ai hp];exact h J⟩
theorem u0 {R A:Type} {t:(A->Option R)->Option R} {k:A->Option R} {x:Option R} (a:A) (h:∀j,t j=j a) (h2:k a=x):cm t k=x:=(h k).trans h2
theorem rT {R A B:Type} {t:(A->B->Option R)->Option R} {k:A->B->Option R} {x:Option R} (a:A) (b:B) (h:∀j,t j=j a b) (h2:k a b=x):cm t k=x:=(h k).trans h2
section
variable {o:co} {L:List V} {dom:Int->Prop} {c:Int->Int->Int} (H:xB o L dom c)
include H
theorem X_:∀ (n:Nat) (P X p Q:List Int) (a m b:Int) (f:Nat),X.length+p.length<=n->n<f->0<X.length->0<p.length->P.length+X.length+p.length+Q.length<=1000000->a=(P.length:Int)->m=a+(X.length:Int)->b=m+(p.length:Int) -> (∀x∈X,dom x)->(∀y∈p,dom y)->X.Pairwise (TT c)->p.Pairwise (TT c)->(∀x∈X,∀y∈p,c x y=0->x<y) -> ∃Z,Z.Perm (X++p)/\Z.Pairwise (TT c)/\bP (λ_ _ _ _ _ _=>none) zO f (P++X++p++Q) a m b o L=some (P++Z++Q):=by
 intro n
 induction n with
 |zero=>intro P X p Q a m b f h1 _ h3;omega
 |succ n ih=>
  intro P X p Q a m b f h1 h2 h3 h4 h5 ha hm hb dX dY sX sY C;cases f with
  |zero=>omega
  |succ f=>
  rw[jz];have ih:=λP X p Q a m b e1=>ih P X p Q a m b f e1 z1;generalize bP (λ_ _ _ _ _ _=>none) zO f=rcall at ih;unfold zO;by_cases a9:X.length=1
  ·obtain⟨x,rfl⟩:=rq.1 a9;obtain⟨Z,F,W,S⟩:=U_ H P p Q x a m b (by simp only[ab,aB] at h5;omega) ha (by simp only[ab,aB] at hm;omega) hb (dX x (by simp)) dY sY (λy hy=>C x (by simp) y hy);refine⟨Z,F,W,cL (gO (ca (beq_iff_eq.2 z1) ?_))⟩;have e:P++[x]++p++Q=P++x::p++Q:=by simp
   rw[e];exact S
  by_cases a8:p.length=1
  ·obtain⟨y,rfl⟩:=rq.1 a8;obtain⟨Z,F,W,S⟩:=V_ H P X Q y a m (by simp only[ab,aB] at h5;omega) ha hm (dY y (by simp)) dX sX (λx hx=>C x hx y (by simp));refine⟨Z,F,W,cL (gO (bR (aA.2 z1) (cL (gO (ca (beq_iff_eq.2 z1) ?_)))))⟩;have e:P++X++[y]++Q=P++X++y::Q:=by simp
   rw[e];exact S
  obtain⟨t,bh⟩:∃t,t=P.length:=⟨_,rfl⟩;obtain⟨g,b5⟩:∃g,g=P.length+X.length:=⟨_,rfl⟩;obtain⟨K,b6⟩:∃K,K=P.length+X.length+p.length:=⟨_,rfl⟩;obtain⟨M,hM⟩:∃M,M=(t+K) / 2:=⟨_,rfl⟩;have R:IntKind.i64.wrap (er .u64 (IntKind.u64.wrap (a+b)) 1)=(M:Int):=by
   rw[F3 _ z1 z1];omega
  obtain⟨l,w⟩:∃l,l=P++X++p++Q:=⟨_,rfl⟩;have b8:l.length=P.length+X.length+p.length+Q.length:=by rw[w];simp only[aa]
  have hg:∀u:Nat,u<l.length->cj l (u:Int)=some (l.getD u 0):=λu h=>rR _ 0 h;have a3:∀u:Nat,t<=u->u<K->dom (l.getD u 0):=by
   intro u e1 e2;have e3:(X++p)[u-t]?=some (l.getD u 0):=by
    have:=nF 0 (l:=l) (k:=u) z1;rw[w,av,av,List.getElem?_append_right z1,<-av,ea (by simp only[aa];omega),<-bh,<-av,<-av,<-w] at this;exact this
   have:=aF e3;rcases bv.1 this with h|h
   ·exact dX _ h
   ·exact dY _ h
  obtain⟨lo,hi,bk,b7,cc,bb⟩:∃lo hi:Nat,lo<=hi/\(lo+K=M+g\/(lo=t/\g<=M))/\((hi=M/\M<g/\lo+K=M+g)\/(hi=g/\g<=M/\lo=t))/\∀ (J:Int->Int->Option (List Int)),(G (decide (((M:Nat):Int)<m)) (grd (I64 ((((M:Nat):Int)+m)-b))<|J ((((M:Nat):Int)+m)-b) ((M:Nat):Int)) (J a m))=J (lo:Int) (hi:Int):=by
   by_cases h:M<g
   ·refine⟨M+g-K,M,by omega,.inl z1,.inl ⟨rfl,h,by omega⟩,λJ=>eQ (gO ?_)⟩;rw[show (((M:Nat):Int)+m)-b=((M+g-K:Nat):Int) from by omega]
   ·refine⟨t,g,by omega,.inr ⟨rfl,by omega⟩,.inr ⟨rfl,by omega,rfl⟩,λJ=>fc ?_⟩;rw[show a=((t:Nat):Int) from by omega,show m=((g:Nat):Int) from by omega]
  obtain⟨k,k1,k2,k3,k4,k5⟩:∃k:Nat,lo<=k/\k<=hi/\(k=lo\/(!decide (c (l.getD (M+g-1-(k-1)) 0) (l.getD (k-1) 0)<0))=true)/\(k=hi\/(!decide (c (l.getD (M+g-1-k) 0) (l.getD k 0)<0))=false) /\
    ∀J,bP (λ_ _=>none) (zN l a m b o L J) bN (lo:Int) (hi:Int)=J (k:Int):=by
   exact W_ (λJ=>zN l a m b o L J) (λu=>!decide (c (l.getD (M+g-1-u) 0) (l.getD u 0)<0)) lo hi
    (λJ ag i j e1 e2 e3=>by
     unfold zN;rw[R,F3 ((i:Int)+(j:Int)) z1 z1,JR];have g1:=hg (M+g-1-(i+j) / 2) z1;rw[show ((M+g-1-(i+j) / 2:Nat):Int)=(((M:Nat):Int)+m)-1-(((i+j) / 2:Nat):Int) from by omega] at g1;have hv:=H.val _ _ (a3 (M+g-1-(i+j) / 2) z1 z1) (a3 ((i+j) / 2) z1 z1);refine eQ (gO (gO (aV g1 (aV (hg ((i+j) / 2) z1) (aV hv ?_)))));by_cases hc:c (l.getD (M+g-1-(i+j) / 2) 0) (l.getD ((i+j) / 2) 0)<0
     ·rw[ai (by simpa using hc)];exact bR (by simpa using hc) rfl
     ·rw[aj (by simpa using hc)];exact ca (by simpa using hc) (gO rfl))
    (λJ ag i=>by
     unfold zN;exact fc rfl)
    (hi-lo) lo hi bN (aS _) (jC z1) (aS _) bk (aS _) (.inl rfl) (.inl rfl)
  obtain⟨D,hE⟩:∃D,D=M+g-k:=⟨_,rfl⟩;have b9:t<=k/\k<=g/\g<=D/\D<=K/\k<=M:=by omega
  have s:X=X.take (k-t)++X.drop (k-t):=(bo _ _).symm;generalize b0:X.take (k-t)=X1 at s;generalize cs:X.drop (k-t)=X2 at s;have q:p=p.take (D-g)++p.drop (D-g):=(bo _ _).symm;generalize bs:p.take (D-g)=Y1 at q;generalize ch:p.drop (D-g)=Y2 at q;have b4:X1.length=k-t:=by rw[<-b0,aZ];omega
  have b3:Y1.length=D-g:=by rw[<-bs,aZ];omega
  have lX:X.length=X1.length+X2.length:=by rw[s,aa]
  have lY:p.length=Y1.length+Y2.length:=by rw[q,aa]
  have a7:∀x∈X1,dom x:=λx h=>dX x (by rw[s];simp[h]);have a6:∀x∈X2,dom x:=λx h=>dX x (by rw[s];simp[h]);have a5:∀x∈Y1,dom x:=λx h=>dY x (by rw[q];simp[h]);have a4:∀x∈Y2,dom x:=λx h=>dY x (by rw[q];simp[h]);have aw:=sX;rw[s] at aw;obtain⟨p1,p2,p3⟩:=cB.1 aw;have ao:=sY;rw[q] at ao;obtain⟨q1,q2,q3⟩:=cB.1 ao;have N:∀ (A B:List Int) (x:Int),l=A++x::B->l.getD A.length 0=x:=by
   intro A B x e;rw[e];simp[List.getD]
  have c1:∀x∈X1,∀y∈Y2,TT c x y:=by
   refine zS H p1 q2 a7 a4 ?_;intro x A0 y B0 eA eB;have ex:=N (P++A0) (X2++(Y1++(Y2++Q))) x (by rw[w,s,q,eA];simp);have ey:=N (P++X1++X2++Y1) (B0++Q) y (by rw[w,s,q,eB];simp);have n1:X1.length=A0.length+1:=by rw[eA];simp
   have n2:Y2.length=B0.length+1:=by rw[eB];simp
   rcases k3 with k3|k3
   ·exfalso;omega
   ·have h:¬c (l.getD (M+g-1-(k-1)) 0) (l.getD (k-1) 0)<0:=by simpa using k3
    rw[show M+g-1-(k-1)=(P++X1++X2++Y1).length from by simp only[aa];omega,ey,show k-1=(P++A0).length from by simp only[aa];omega,ex] at h;have hx:x∈X:=by rw[s,eA];simp
    have hy:y∈p:=by rw[q,eB];simp
    exact JS H (dX x hx) (dY y hy) h (C x hx y hy)
  have c2:∀y∈Y1,∀x∈X2,TT c y x:=by
   refine zS H q1 p2 a5 a6 ?_;intro y A0 x B0 eA eB;have ex:=N (P++X1) (B0++(Y1++(Y2++Q))) x (by rw[w,s,q,eB];simp);have ey:=N (P++X1++X2++A0) (Y2++Q) y (by rw[w,s,q,eA];simp);have n1:Y1.length=A0.length+1:=by rw[eA];simp
   have n2:X2.length=B0.length+1:=by rw[eB];simp
   rcases k4 with k4|k4
   ·exfalso;omega
   ·have h:c (l.getD (M+g-1-k) 0) (l.getD k 0)<0:=by simpa using k4
    rw[show M+g-1-k=(P++X1++X2++A0).length from by simp only[aa];omega,ey,show k=(P++X1).length from by simp only[aa];omega,ex] at h;exact .inl h
  have a0:∀J:List Int->Option (List Int),(G (decide ((k:Int)<m)) (G (decide (m<((M:Int)+m)-(k:Int))) (T (CR l (k:Int) m (((M:Int)+m)-(k:Int)) o L) λ(r8:List Int)=>J r8) (J l)) (J l))=J (P++X1++Y1++(X2++Y2++Q)):=by
   intro J;by_cases a1:k<g
   ·refine eQ ?_;by_cases a2:g<D
    ·refine eQ (aV (N_ o L (P++X1) X2 Y1 (Y2++Q) (by rw[w,s,q];simp) z1 (by simp only[aa];omega) z1 z1 z1 z1) ?_);exact aI J (by simp)
    ·refine fc ?_;have:Y1=[]:=dO.1 z1;exact aI J (by rw[w,s,q,this];simp)
   ·refine fc ?_;have:X2=[]:=dO.1 z1;exact aI J (by rw[w,s,q,this];simp)
  have z:∀ (P' A B Q' l':List Int) (a' m' b':Int),l'=P'++A++B++Q'->A.length+B.length<=n->P'.length+A.length+B.length+Q'.length<=1000000->a'=(P'.length:Int)->m'=a'+(A.length:Int)->b'=m'+(B.length:Int)->(∀x∈A,dom x)->(∀y∈B,dom y)->A.Pairwise (TT c)->B.Pairwise (TT c)->(∀x∈A,∀y∈B,c x y=0->x<y) ->
    ∃Z,Z.Perm (A++B)/\Z.Pairwise (TT c)/\∀J:List Int->Option (List Int),(G (decide (a'<m')) (G (decide (m'<b')) (T (rcall l' a' m' b' o L) λ(r:List Int)=>J r) (J l')) (J l'))=J (P'++Z++Q'):=by
   intro P' A B Q' l' a' m' b' e e1 e2 e3 e4 e5 e6 e7 e8 e9 b1;subst e;by_cases a1:0<A.length
   ·by_cases a2:0<B.length
    ·obtain⟨Z,F,W,S⟩:=ih P' A B Q' a' m' b' e1 a1 a2 e2 e3 e4 e5 e6 e7 e8 e9 b1;exact⟨Z,F,W,λJ=>eQ (eQ (aV S rfl))⟩
    ·have hB:B=[]:=dO.1 z1;subst hB;exact⟨A,by simp,e8,λJ=>eQ (fc (aI J (by simp)))⟩
   ·have hA:A=[]:=dO.1 z1;subst hA;exact⟨B,by simp,e9,λJ=>fc (aI J (by simp))⟩
  obtain⟨Z1,F,W,S⟩:=z P X1 Y1 (X2++Y2++Q) _ a (k:Int) (M:Int) rfl z1 (by simp only[aa];omega) ha z1 z1 a7 a5 p1 q1 (λx hx y hy=>C x (by rw[s];simp[hx]) y (by rw[q];simp[hy]));have b2:Z1.length=X1.length+Y1.length:=by rw[F.length_eq,aa]
  obtain⟨Z2,y1,y2,y3⟩:=z (P++Z1) X2 Y2 Q (P++Z1++(X2++Y2++Q)) (M:Int) ((M:Int)+m-(k:Int)) b (by simp) z1 (by simp only[aa];omega) (by simp only[aa];omega) z1 z1 a6 a4 p2 q2 (λx hx y hy=>C x (by rw[s];simp[hx]) y (by rw[q];simp[hy]));refine⟨Z1++Z2,?_,?_,?_⟩
  ·refine (F.append y1).trans ?_;rw[s,q];have e1:X1++Y1++(X2++Y2)=X1++((Y1++X2)++Y2):=by simp
   have e2:X1++X2++(Y1++Y2)=X1++((X2++Y1)++Y2):=by simp
   rw[e1,e2];exact List.Perm.append_left _ (List.Perm.append_right _ List.perm_append_comm)
  ·rw[cB];refine⟨W,y2,?_⟩;intro u hu v hv;have hu:=F.mem_iff.1 hu;have hv:=y1.mem_iff.1 hv;rcases bv.1 hu with hu|hu<;>rcases bv.1 hv with hv|hv
   ·exact p3 u hu v hv
   ·exact c1 u hu v hv
   ·exact c2 u hu v hv
   ·exact q3 u hu v hv
  rw[R,<-w];have n1:((m-a:Int)==1)=false:=aA.2 z1;have n2:((b-m:Int)==1)=false:=aA.2 z1;refine cL ?_;refine gO ?_;refine bR n1 ?_;refine cL ?_;refine gO ?_;refine bR n2 ?_;refine rT (lo:Int) (hi:Int) (λJ=>gO (gO (bb J))) ?_;refine u0 (k:Int) (λJ=>gO (k5 J)) ?_;refine u0 (P++X1++Y1++(X2++Y2++Q)) (λJ=>gO (a0 J)) ?_;refine u0 (P++Z1++(X2++Y2++Q)) (λJ=>S J) ?_;refine (y3 (λl=>some l)).trans ?_;simp
end
theorem QG:∃f,bN=f+3:=⟨bN-3,by unfold bN;omega⟩
section
variable {o:co} {L:List V} {dom:Int->Prop} {c:Int->Int->Int} (H:xB o L dom c)
include H
theorem Y_ (B:List Int) (n:Int) (N:n=(B.length:Int)) (x:B.length<=40) (hd:∀y∈B,dom y) (hB:B.Pairwise (· < ·)) : ∃d e,d.Perm (B.take 20)/\e.Perm (B.drop 20)/\d.Pairwise (TT c)/\e.Pairwise (TT c) /\ CU B n o L=bP (λ_ _=>none) (zR n o L) bN (d++e) 20:=by
 obtain⟨f,hf⟩:=QG;unfold CU;have g:B=B.take 20++B.drop 20:=(bo _ _).symm;generalize s:B.take 20=B1 at g;generalize i:B.drop 20=B2 at g;have M:B1.length=min 20 B.length:=by rw[<-s,aZ]
 have K:B.length=B1.length+B2.length:=by rw[g,aa]
 have j:=hB;rw[g] at j;obtain⟨p1,p2,C⟩:=cB.1 j;have d1:∀y∈B1,dom y:=λy h=>hd y (by rw[g];simp[h]);have d2:∀y∈B2,dom y:=λy h=>hd y (by rw[g];simp[h]);by_cases z:B.length<20
 ·have i:B2=[]:=dO.1 z1;obtain⟨Z,m,p,k⟩:=F4 H (l:=B) [] B1 B2 (a:=0) (b:=n) (by rw[g];simp) z1 rfl z1 d1 p1;refine⟨Z,[],m,by rw[i],p,.nil,?_⟩;refine rT B 0 (λJ=>?_) (aV k (by rw[i];simp));rw[hf,jz];unfold CT;exact fc rfl
 obtain⟨d,m,p,k⟩:=F4 H (l:=B) [] B1 B2 (a:=0) (b:=20) (by rw[g];simp) z1 rfl z1 d1 p1;have F:d.length=20:=by rw[m.length_eq];omega
 obtain⟨e,u,v,q⟩:=F4 H (l:=[]++d++B2) d B2 [] (a:=20) (b:=n) (by simp) (by simp;omega) z1 z1 d2 p2;have D:e.length=B2.length:=u.length_eq;refine⟨d,e,m,u,p,v,?_⟩;by_cases P:B.length<40
 ·refine rT ([]++d++B2) 20 (λJ=>?_) (aV q (by simp));rw[hf,jz];unfold CT;refine eQ (aV k (gO ?_));rw[jz];exact fc rfl
 ·obtain⟨A,x1,x2,w⟩:=F4 H (l:=d++e++[]) (d++e) [] [] (a:=40) (b:=n) (by simp) (by simp;omega) (by simp;omega) (by simp;omega) (λy h=>by cases h) .nil;have r:A=[]:=List.Perm.eq_nil x1;subst r;have t:n=40:=by omega
  refine rT (d++e++[]) 40 (λJ=>?_) (aV w (by simp));rw[hf,jz];unfold CT;refine eQ (aV k (gO ?_));rw[jz];rw[t] at q;refine eQ (aV q (gO ?_));rw[jz];exact fc rfl
theorem Z_ (B:List Int) (n:Int) (z:n=(B.length:Int)) (j:B.length<=40) (hd:∀y∈B,dom y) (hB:B.Pairwise (· < ·)) : ∃Z,Z.Perm B/\Z.Pairwise (TT c)/\CU B n o L=some Z:=by
 obtain⟨f,hf⟩:=QG;obtain⟨b,a,h,g,l,q,p⟩:=Y_ H B n z j hd hB;have m:B=B.take 20++B.drop 20:=(bo _ _).symm;have w:=h.length_eq;have v:=g.length_eq;rw[aZ] at w;rw[List.length_drop] at v;have hp:(b++a).Perm B:=(h.append g).trans (by rw[<-m]);have d:=hB;rw[m] at d;obtain⟨p1,p2,u⟩:=cB.1 d;rw[p,hf,jz];unfold zR;by_cases A:B.length<=20
 ·have:a=[]:=dO.1 z1;subst this;exact⟨b++[],hp,by simpa using l,fc rfl⟩
 obtain⟨Z,t,s,r⟩:=X_ H (b.length+a.length) [] b a [] 0 20 n bN (aS _) (jC z1) z1 z1 (by simp;omega) rfl z1 z1
  (λx hx=>hd x (List.mem_of_mem_take (h.mem_iff.1 hx))) (λx hx=>hd x (List.mem_of_mem_drop (g.mem_iff.1 hx))) l q (λx hx y hy _=>u x (h.mem_iff.1 hx) y (g.mem_iff.1 hy))
 have i:zQ (b++a) 0 20 n o L=some Z:=by
  unfold zQ;have:=r;simp only[bj,aE] at this;exact this
 refine⟨Z,t.trans hp,s,eQ ?_⟩;have e:bP (λ_ _=>none) (zR n o L) (f+2) Z 40=some Z:=by
  rw[jz];unfold zR;exact fc rfl
 by_cases C:B.length<40
 ·refine rT (b++a) 0 (λJ=>gO ?_) ?_
  ·rw[hf,jz];unfold F1;exact fc rfl
  refine u0 Z (λJ=>gO (eQ (aV i rfl))) ?_;exact gO e
 ·have k:n=40:=by omega
  refine rT Z 40 (λJ=>gO ?_) ?_
  ·rw[hf,jz];unfold F1;rw[k] at i |-
   refine eQ (gO (aV i (gO (gO ?_))));rw[jz];exact fc rfl
  refine u0 Z (λJ=>gO (fc rfl)) ?_;exact gO e
end
def cI (o:co) (L:List V) (i k:Int):Int:=(jq 1 (jL o (L.getD i.toNat ⟨#[]⟩)) (jL o (L.getD k.toNat ⟨#[]⟩))).1
theorem QH {o:co} (h:zp o) (L:List V) (b:∀a∈L,qc a):xB o L (λi=>0<=i/\i<(L.length:Int)) (cI o L):=by
 have hg:∀i:Int,0<=i->i<(L.length:Int)->L[i.toNat]?=some (L.getD i.toNat ⟨#[]⟩):=λi h0 h1=>nF _ z1;have hm:∀i:Int,0<=i->i<(L.length:Int)->L.getD i.toNat ⟨#[]⟩∈L:=λi h0 h1=>aF (hg i h0 h1);refine⟨?_,?_,?_⟩
 ·intro i k hi hk;unfold xx;exact aV (wA z1 (hg i hi.1 hi.2)) (aV (wA z1 (hg k hk.1 hk.2)) (aV (Pr h _ _ (b _ (hm i hi.1 hi.2)) (b _ (hm k hk.1 hk.2))) rfl))
 ·intro i k _ _;unfold cI;rw[Ph (jL o (L.getD i.toNat ⟨#[]⟩)) (jL o (L.getD k.toNat ⟨#[]⟩))];show _↔0< -(jq 1 (jL o (L.getD i.toNat ⟨#[]⟩)) (jL o (L.getD k.toNat ⟨#[]⟩))).1;omega
 ·intro i j k _ _ _ h1 h2;unfold cI at *;have:=Pi (jL o (L.getD i.toNat ⟨#[]⟩)) (jL o (L.getD j.toNat ⟨#[]⟩)) (jL o (L.getD k.toNat ⟨#[]⟩)) 1 z1 (by rw[zK,zK]) (by rw[zK,zK]) h1 h2;exact⟨this.1,this.2.1⟩
def oi:Nat->List Int
 |0=>[]
 |n+1=>oi n++[(n:Int)]
theorem C4:∀n,(oi n).length=n
 |0=>rfl
 |n+1=>by rw[oi,aa,C4 n];rfl
theorem C5:∀ (n:Nat) (x:Int),x∈oi n↔0<=x/\x<(n:Int)
 |0,x=>by rw[oi];simp
 |n+1,x=>by
  rw[oi,bv,C5 n,bd];omega
theorem QI:∀n:Nat,(oi n).Pairwise (· < ·)
 |0=>.nil
 |n+1=>by
  rw[oi,cB];refine⟨QI n,List.pairwise_singleton _ _,?_⟩;intro a ha b hb;rw[bd.1 hb];have:=(C5 n a).1 ha;omega
theorem zzy (L:List V) (hL:L.length<=1000000) (J:List Int->Option (List Int)):∀ (d i f:Nat),i+d=L.length->d<f -> bP (λ_ _=>none) (CV L J) f (oi i++aO d 0) (i:Int)=J (oi L.length):=by
 intro d
 induction d with
 |zero=>
  intro i f h1 h2;cases f with
  |zero=>omega
  |succ f=>
  rw[jz];unfold CV;have e:i=L.length:=by omega
  subst e;exact bR (ah (by simp)) (by simp)
 |succ d a=>
  intro i f h1 h2;cases f with
  |zero=>omega
  |succ f=>
  rw[jz];unfold CV;have g:=pR (oi i++aO (d+1) 0) (oi i) (aO d 0) 0 (k:=(i:Int)) (by rw[nY]) (by rw[C4]);have s:=uZ (oi i++aO (d+1) 0) (oi i) (aO d 0) 0 (i:Int) (k:=(i:Int)) (by rw[nY]) (by rw[C4]);refine ca (an (by rw[List.length_replicate];omega)) (aV g (gO ?_));rw[s];have:=a (i+1) f z1 z1;rw[oi,av] at this;exact this
theorem zE6 {o:co} (h:zp o) (L:List V) (g:∀a∈L,qc a) (b:L.length<=40) : ∃Z,Z.Perm (oi L.length)/\Z.Pairwise (TT (cI o L))/\F2 o L=some Z:=by
 obtain⟨Z,f,e,d⟩:=Z_ (QH h L g) (oi L.length) ((oi L.length).length:Int) rfl (by rw[C4];exact b) (λy hy=>(C5 _ _).1 hy) (QI _);refine⟨Z,f,e,?_⟩;unfold F2;refine u0 (oi L.length) (λJ=>gO ?_) (aV (a:=Z) ?_ rfl)
 ·exact zzy L z1 J L.length 0 bN z1 (jC z1)
 ·unfold JN;exact aV d rfl
def cnt (p:Nat->Bool):Nat->Nat
 |0=>0
 |n+1=>cnt p n+if p n then 1 else 0
theorem JT (p:Nat->Bool):∀n,cnt p n<=n
 |0=>aS _
 |n+1=>by
  have:=JT p n;rw[cnt];split<;>omega
theorem QJ {R:Type} (F:(Int->Int->Option R)->Int->Int->Option R) (J:Int->Option R) (p:Nat->Bool) (n:Nat) (e:n<=1000000)
  (b:∀ag (v u:Nat),u<n->v<=u->F ag (v:Int) (u:Int)=ag ((v+(if p u then 1 else 0):Nat):Int) ((u+1:Nat):Int)) (he:∀ag (v:Nat),F ag (v:Int) (n:Int)=J v) :
  bP (λ_ _=>none) F bN 0 0=J (cnt p n):=by
 have key:∀ (d u f:Nat),u+d=n->d<f->bP (λ_ _=>none) F f (cnt p u:Int) (u:Int)=J (cnt p n):=by
  intro d
  induction d with
  |zero=>
   intro u f h1 h2;cases f with
   |zero=>omega
   |succ f=>
   have:u=n:=by omega
   subst this;rw[jz];exact he _ _
  |succ d a=>
   intro u f h1 h2;cases f with
   |zero=>omega
   |succ f=>
   rw[jz,b _ _ u z1 (JT p u)];have:=a (u+1) f z1 z1;rw[cnt] at this;exact this
 exact key n 0 bN z1 (jC z1)
theorem QK (p:Int->Bool):∀n:Nat,(oi n).countP p=cnt (λu=>p (u:Int)) n
 |0=>rfl
 |n+1=>by
  rw[oi,ut,QK p n,cnt];simp[List.countP_cons]
theorem zyf {o:co} {L:List V} {c:Int->Int->Int} {n:Nat} (H:xB o L (λi=>0<=i/\i<(n:Int)) c) {Z:List Int} (hp:Z.Perm (oi n)) (q:Z.Pairwise (TT c)) (p:Nat->Bool) (x:Nat) (hx:x<n) (g:∀u:Nat,u<n->(p u=true↔TT c (u:Int) (x:Int))):cj Z (cnt p n:Int)=some (x:Int):=by
 have hm:(x:Int)∈Z:=hp.mem_iff.2 ((C5 n _).2 ⟨by omega,by omega⟩);obtain⟨A,B,e⟩:=List.append_of_mem hm;have hd:∀y∈Z,0<=y/\y<(n:Int):=λy hy=>(C5 n y).1 (hp.mem_iff.1 hy);have d:=q;rw[e] at d;obtain⟨p1,p2,m⟩:=cB.1 d;have a:∀u v:Int,(0<=u/\u<(n:Int))->(0<=v/\v<(n:Int))->TT c u v->¬TT c v u:=by
  intro u v hu hv h1 h2;have a1:=H.neg u v hu hv;have r:=H.neg v u hv hu;unfold TT at h1 h2;omega
 have l:∀y:Int,(0<=y/\y<(n:Int))->(p y.toNat=true↔TT c y (x:Int)):=by
  intro y hy;have:=g y.toNat z1;rw[Int.toNat_of_nonneg hy.1] at this;exact this
 have k:A.countP (λy=>p y.toNat)=A.length:=List.countP_eq_length.2 λy hy=>(l y (hd y (by rw[e];simp[hy]))).2 (m y hy _ (by simp));have j:((x:Int)::B).countP (λy=>p y.toNat)=0:=by
  refine List.countP_eq_zero.2 λy hy h=>?_;have b:y∈Z:=by rw[e];simp only[bv];exact .inr hy
  have h:=(l y (hd y b)).1 h;rcases List.mem_cons.1 hy with h1|h1
  ·rw[h1] at h;exact a _ _ (hd _ hm) (hd _ hm) h h
  ·exact a _ _ (hd _ hm) (hd y b) ((List.pairwise_cons.1 p2).1 y h1) h
 have hc:Z.countP (λy=>p y.toNat)=cnt p n:=by
  rw[hp.countP_eq,QK];congr 1
 have f:(cnt p n:Int)=(A.length:Int):=by
  rw[<-hc,e,ut,k,j];simp
 exact pR _ A B _ e f
def wm (q:Nat->Bool):Nat->Bool
 |0=>false
 |n+1=>wm q n||q n
theorem QL {R:Type} (F:(Int->Bool->Int->Option R)->Int->Bool->Int->Option R) (J:Int->Bool->Option R) (p q:Nat->Bool) (n:Nat) (g:n<=1000000)
  (e:∀ag (v u:Nat) (b:Bool),u<n->v<=u->F ag (v:Int) b (u:Int)=ag ((v+(if p u then 1 else 0):Nat):Int) (b||q u) ((u+1:Nat):Int)) (he:∀ag (v:Nat) b,F ag (v:Int) b (n:Int)=J v b) :
  bP (λ_ _ _=>none) F bN 0 false 0=J (cnt p n) (wm q n):=by
 have key:∀ (d u f:Nat),u+d=n->d<f->bP (λ_ _ _=>none) F f (cnt p u:Int) (wm q u) (u:Int)=J (cnt p n) (wm q n):=by
  intro d
  induction d with
  |zero=>
   intro u f h1 h2;cases f with
   |zero=>omega
   |succ f=>
   have:u=n:=by omega
   subst this;rw[jz];exact he _ _ _
  |succ d a=>
   intro u f h1 h2;cases f with
   |zero=>omega
   |succ f=>
   rw[jz,e _ _ u _ z1 (JT p u)];have:=a (u+1) f z1 z1;rw[cnt,wm] at this;exact this
 exact key n 0 bN z1 (jC z1)
def pS (o:co) (L:List V) (s:V) (u:Nat):Bool:=decide ((jq 1 (jL o (L.getD u ⟨#[]⟩)) (jL o s)).1<0)
def qS (L:List V) (s:V) (u:Nat):Bool:=decide (L.getD u ⟨#[]⟩=s)
theorem zA5 {o:co} (h:zp o) (L:List V) (s:V) (j:∀a∈L,qc a) (f:qc s) (k:L.length<=40) : FX o s L=some ((cnt (pS o L s) L.length:Int),wm (qS L s) L.length):=by
 unfold FX;refine rT (cnt (pS o L s) L.length:Int) (wm (qS L s) L.length) (λJ=>?_) rfl;refine QL (CP o s L J) J (pS o L s) (qS L s) L.length z1 ?_ ?_
 ·intro ag v u b h1 h2;unfold CP;have g:L[u]?=some (L.getD u ⟨#[]⟩):=nF _ h1;have hv:=Pr h (L.getD u ⟨#[]⟩) s (j _ (aF g)) f;have i:=(D_ o (L.getD u ⟨#[]⟩) s).2;refine eQ (rT ((v+(if pS o L s u then 1 else 0):Nat):Int) (b||qS L s u) (λd=>?_) (gO rfl))
  refine rT ((v+(if pS o L s u then 1 else 0):Nat):Int) (jq 1 (jL o (L.getD u ⟨#[]⟩)) (jL o s)).1 (λl=>aV (iu g) (aV hv ?_)) ?_
  ·by_cases hc:(jq 1 (jL o (L.getD u ⟨#[]⟩)) (jL o s)).1<0
   ·refine ca (an hc) (gO ?_);have e:pS o L s u=true:=an hc;rw[e];rfl
   ·refine bR (ah hc) ?_;have e:pS o L s u=false:=ah hc;rw[e];rfl
  ·cases b with
   |true=>exact ca rfl rfl
   |false=>
    refine bR rfl ?_;have e:((jq 1 (jL o (L.getD u ⟨#[]⟩)) (jL o s)).1==0)=qS L s u:=by
     unfold qS;rw[Bool.eq_iff_iff,beq_iff_eq,decide_eq_true_iff];exact i
    show d _ _=d _ _;rw[e];rfl
 ·intro ag v b;unfold CP;exact fc rfl
theorem zBl (l:List V) (d:l.length<=1000000) (p1:co) (p2:dv) (J):∀ (r pre:List V) (f:Nat),l=pre++r->r.length<f -> bP (λ_ _=>none) (CW l J p1 p2) f (pre.map nc) (pre.length:Int)=J p1.units p1.place p1.fors p1.skips p1.lines p2.Units p2.Fors p2.Skips p2.Lines (l.map nc):=by
 intro r
 induction r with
 |nil=>
  intro pre f h1 h2;cases f with
  |zero=>simp at h2
  |succ f=>
  rw[jz];unfold CW;rw[aE] at h1;subst h1;exact fc rfl
 |cons x r b=>
  intro pre f h1 h2;cases f with
  |zero=>simp at h2
  |succ f=>
  rw[jz];unfold CW;have a:=aI List.length h1;simp only[aa,ab] at a h2;refine eQ (aV (pR _ pre r x h1 rfl) (aV (PT x) (dI (by rw[ax];omega) (gO ?_))));have:=b (pre++[x]) f (by rw[h1];simp) z1;rw[List.map_append,aa] at this;exact this
theorem zzr (own:List V) (i:own.length<=1000000) (J:V->List Int->Int->Bool->Option Bool) (e:V) (b:List Int) (a:Int×Bool):∀ (d u f:Nat),u+d=own.length->d<f -> bP (λ_=>none) (CX own J e b a) f (u:Int)=J e b a.1 a.2:=by
 intro d
 induction d with
 |zero=>
  intro u f h1 h2;cases f with
  |zero=>omega
  |succ f=>
  rw[jz];unfold CX;exact fc rfl
 |succ d h=>
  intro u f h1 h2;cases f with
  |zero=>omega
  |succ f=>
  rw[jz];unfold CX;have g:own[u]?=some (own.getD u ⟨#[]⟩):=nF _ z1;have g2:((([]:List V)++own)++[(⟨#[126]⟩:V),(⟨#[126]⟩:V),(⟨#[126]⟩:V)])[u]?=some (own.getD u ⟨#[]⟩):=by
   rw[bj,ea z1];exact g
  exact eQ (aV (iu g2) (aV (iu g) (bR (by simp) (gO (h (u+1) f z1 z1)))))
def pP (o:co) (L:List V) (x u:Nat):Bool:=decide (cI o L (u:Int) (x:Int)<0\/(cI o L (u:Int) (x:Int)=0/\u<x))
theorem QM {o:co} {w:dv} (hi:gH o) (hu:zF o) (hr:tw o w) (L:List V) (f:∀a∈L,qc a) (j:L.length<=40) (x u v:Nat) (hx:x<L.length) (h1:u<L.length) (h2:v<=u) (J:Int->Option Bool) :
  (T (cj L (u:Int)) λ(i:V)=>
   T (xu w i (L.getD x ⟨#[]⟩)) λ(d:(Int×Int))=>
   G (decide ((d.1:Int)<0)) (grd (I64 ((v:Int)+1))<|J ((v:Int)+1)) (G ((d.1:Int)==0) (G (decide ((u:Int)<(x:Int))) (grd (I64 ((v:Int)+1))<|J ((v:Int)+1)) (J (v:Int))) (J (v:Int))))=J ((v+(if pP o L x u then 1 else 0):Nat):Int):=by
 have g:L[u]?=some (L.getD u ⟨#[]⟩):=nF _ h1;have k:L[x]?=some (L.getD x ⟨#[]⟩):=nF _ hx;have hv:=Qv hi hu hr (L.getD u ⟨#[]⟩) (L.getD x ⟨#[]⟩) (f _ (aF g)) (f _ (aF k));have hc:cI o L (u:Int) (x:Int)=(jq 1 (jL o (L.getD u ⟨#[]⟩)) (jL o (L.getD x ⟨#[]⟩))).1:=rfl;refine aV (iu g) (aV hv ?_);by_cases a1:cI o L (u:Int) (x:Int)<0
 ·have e:pP o L x u=true:=an (.inl a1);rw[e];exact ca (an (by rw[<-hc];exact a1)) (gO rfl)
 refine bR (ah (by rw[<-hc];exact a1)) ?_;by_cases b:cI o L (u:Int) (x:Int)=0
 ·refine ca (by rw[<-hc,b];rfl) ?_;by_cases l:u<x
  ·have e:pP o L x u=true:=an (.inr ⟨b,l⟩);rw[e];exact eQ (gO rfl)
  ·have e:pP o L x u=false:=ah (by rintro (h | ⟨_,h⟩)<;>omega)
   rw[e];exact fc rfl
 ·have e:pP o L x u=false:=ah (by rintro (h | ⟨h,_⟩)<;>omega)
  rw[e];exact bR (by rw[<-hc];exact aA.2 b) rfl
theorem zqS (text s:V) (l:List V):JO text s l=some true:=by
 obtain⟨w,A,hr2⟩:=z_ text;have hi:=Zo text;have hu:=ZW text;unfold JO;refine aV PS (bR rfl (aV A (bR rfl ?_)));obtain⟨f,q,p⟩:∃f:List V,f.length<=40/\∀J:List V->Option Bool,(G (decide ((40:Int)<(l.length:Int))) (grd (0<=(0:Int)/\(0:Int)<=40/\(40:Int)<=(l.length:Int))<|J (ee l 0 40)) (J l))=J f:=by
  by_cases h:40<l.length
  ·exact⟨ee l 0 40,by rw[show (40:Int)=((40:Nat):Int) from rfl,Fc,aZ];omega,λJ=>eQ (gO rfl)⟩
  ·exact⟨l,by omega,λJ=>fc rfl⟩
 refine u0 f p ?_;refine cL (aV (a:=uc text) rfl (aV (a:=w) rfl ?_));refine (zBl f z1 (uc text) w _ f [] bN rfl (jC z1)).trans ?_;generalize uc text=o at hi hu hr2;have hr:=hr2.rel hi;have hk:=hi.ok;have i:∀a∈f.map nc,qc a:=by
  intro a ha;obtain⟨b,_,rfl⟩:=List.mem_map.1 ha;have:=PU b;exact IY z1
 have d:(f.map nc).length<=40:=by rw[ax];exact q
 generalize f.map nc=own at i d;have B:=PU s;have j:ee ((([]:List V)++own)++[(⟨#[126]⟩:V),(⟨#[126]⟩:V),(⟨#[126]⟩:V)]) 0 (own.length:Int)=own:=by
  rw[Fc];simp
 obtain⟨Z,t,z,y⟩:=zE6 hk own i d;have m:=zA5 hk own (nc s) i (IY z1) d;have fs:qc (nc s):=IY z1;show cm _ _=_;rw[j];have n:Z.length=own.length:=by rw[t.length_eq,C4]
 refine cL (aV (PT s) (gO (gO (dI (by simp;omega) (dI (by simp;omega) (dI ⟨by omega,by omega,by simp;omega⟩ (aV y (dI ⟨by omega,by omega,by simp;omega⟩ (aV m ?_)))))))));refine (zzr own z1 _ _ _ _ own.length 0 bN z1 (jC z1)).trans ?_;refine aV (pR _ own [(⟨#[126]⟩:V),(⟨#[126]⟩:V)] (⟨#[126]⟩:V) (by simp) rfl) (bR (by simp) (bR (by rw[n];simp) ?_));refine rT (cnt (pS o own (nc s)) own.length:Int) (wm (qS own (nc s)) own.length) (λJ=>?_) (ca (beq_iff_eq.2 rfl) (ca (by simp) (aV PS rfl)));refine QL (C3 w.Units w.Fors w.Skips w.Lines own (nc s) Z J) J (pS o own (nc s)) (qS own (nc s)) own.length z1 ?_ ?_
 ·intro ag v x b h1 h2;unfold C3;have g:own[x]?=some (own.getD x ⟨#[]⟩):=nF _ h1;have hv:=Qv hi hu hr (own.getD x ⟨#[]⟩) (nc s) (i _ (aF g)) fs;refine eQ (rT ((v+(if pS o own (nc s) x then 1 else 0):Nat):Int) (b||qS own (nc s) x) (λD=>?_) (gO rfl))
  refine rT ((v+(if pS o own (nc s) x then 1 else 0):Nat):Int) (own.getD x ⟨#[]⟩) (λC=>aV (iu g) (aV hv ?_)) ?_
  ·by_cases hc:(jq 1 (jL o (own.getD x ⟨#[]⟩)) (jL o (nc s))).1<0
   ·refine ca (an hc) (gO ?_);have e:pS o own (nc s) x=true:=an hc;rw[e];rfl
   ·refine bR (ah hc) ?_;have e:pS o own (nc s) x=false:=ah hc;rw[e];rfl
  refine rT (b||qS own (nc s) x) (cnt (pP o own x) own.length:Int) (λk=>?_) ?_
  ·cases b with
   |true=>
    refine ca rfl (QJ (CY w.Units w.Fors w.Skips w.Lines own (x:Int) (own.getD x ⟨#[]⟩) k) (k true) (pP o own x) own.length z1 ?_ ?_)
    ·intro ag v u e1 e2;unfold CY;exact eQ (u0 ((v+(if pP o own x u then 1 else 0):Nat):Int) (λr=>QM hi hu hr own i d x u v h1 e1 e2 r) (gO rfl))
    ·intro ag v;unfold CY;exact fc rfl
   |false=>
    refine bR rfl (QJ (CZ w.Units w.Fors w.Skips w.Lines own (nc s) (x:Int) (own.getD x ⟨#[]⟩) k) (k (false||qS own (nc s) x)) (pP o own x) own.length z1 ?_ ?_)
    ·intro ag v u e1 e2;unfold CZ;exact eQ (u0 ((v+(if pP o own x u then 1 else 0):Nat):Int) (λr=>QM hi hu hr own i d x u v h1 e1 e2 r) (gO rfl))
    ·intro ag v;unfold CZ;refine fc ?_;rw[Bool.false_or];rfl
  ·refine aV (zyf (QH hk own i) t z (pP o own x) x h1 ?_) (bR (by simp) rfl);intro u hu;unfold pP TT;rw[decide_eq_true_iff];omega
 ·intro ag v b;unfold C3;exact fc rfl
theorem collateSorts_any (text s:V) (hd:Hd) (L:List V) {vv:Value} {k:Nat} {M:List V} (w:World) (h0:text.size<=140737488351232) (h1:s.size<=140737488351232) (a:Vw vv M 1 k hd.v L) (hr:(iM gK 1 vv k M).P (λb=>b<w.heap.size) w) : Calls prog 3 #[.string text,.string s,hd.v] w λe w'=>e=.returned (.bool true)/\Below w.heap.size w w' :=
 gu.p (K_ a (zqS text s L)) w (λA hA=>by
  rcases bd.1 hA with rfl;exact⟨_,hr,λ_ _ h=>h⟩)
end Go.Proofs.YtncjnoakkghmmaaGreatDoor
