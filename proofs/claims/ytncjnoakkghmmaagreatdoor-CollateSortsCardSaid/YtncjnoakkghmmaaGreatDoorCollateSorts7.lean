/-
  Texts laid together: Vi, Vj, LcN, Vk, Vm, Vn, Vp, LcX, Vq, LcTa, LcTb, LcTc, LcTd, Vt, Vu, Vw, Vx. Nothing is assumed.
-/
import Derived.Test.YtncjnoakkghmmaaGreatDoorCollateSorts6
import Derived.Test.YtncjnoakkghmmaaGreatDoorCollateSorts2
import Derived.Test.YtncjnoakkghmmaaGreatDoorCollateSorts5
set_option maxRecDepth 100000
set_option maxHeartbeats 4000000
namespace Go.Proofs.YtncjnoakkghmmaaGreatDoor
open Go.RowKit Go.Lib
open Tryz
set_option linter.unusedVariables false
set_option linter.unusedSimpArgs false
open _root_.ByteArray renaming empty->af,append_empty->bF,size_append->aM
open _root_.Go.IntWalk renaming i64_in->ac
open _root_.Go.Lib renaming compareBytes->bL
open _root_.Go.Proofs.Tryz renaming underlying22->ay,underlying71->eo,results33->iz,underlying9->am,underlying24->ve,underlying29->bJ,underlying3->iU,underlying170->gR,results81->qj,results3->kD
open bM renaming nil->bB
open ce renaming here->fA,nil->fX
open cr renaming cons->dQ,here->lO,nil->mH
open Hd renaming nil->fe
open aH renaming nil->aC
open Vw renaming get->cq
open evL renaming cons->dN
open aP renaming one1->aL
open _root_.Go.Utf8 renaming encode->ae
open _root_.Go.Value renaming bool->ap,string->ad,int->az
open _root_.Int renaming toNat_natCast->cy,le_refl->eV
open _root_.List renaming map_cons->au,mem_cons_self->ar,length_pos_iff->dh,dropLast_concat_getLast->o8,map_append->dp,length_append->aa,length_map->ax,getElem?_append_right->eK,length_eq_zero_iff->dO,drop_left->jb,length_cons->ab,append_assoc->av,take_append_drop->bo,length_drop->aR,length_take->aZ,map_drop->lz,takeWhile_sublist->dU,length_nil->aB,takeWhile_cons->aY,mem_cons->bg,mem_cons_of_mem->ak,mem_map->aT,append_nil->aE,mem_singleton->bd,length->fS,take_of_length_le->ff,mem_of_mem_drop->im,nil_append->bj,getElem?_map->cx,getElem?_eq_getElem->aJ,drop_eq_getElem_cons->aQ,drop_eq_nil_of_le->bD,getElem?_eq_some_iff->aq,drop_zero->fj,mem_of_getElem?->aF,getElem?_append_left->ea,head?_dropWhile_not->lA,drop_drop->fY,take_left->lD,replicate->aO,length_replicate->mV,cons_append->aW,getElem?_range->mI,getD_eq_getElem?_getD->cR,eq_nil_or_concat->jc,mem_append->bv,append_inj_right'->lg,pairwise_append->cB,pairwise_cons->gh,perm_append_singleton->pW,pairwise_singleton->fN,getD->qV
open _root_.List.Perm renaming append_left->pV
open _root_.Nat renaming le_refl->aS,sub_self->kB,add_sub_cancel_left->jh,zero_le->bT
open _root_.Option renaming getD_some->gg,isSome_iff_exists->kC
open _root_.Or renaming inr->kv
open _root_.UInt8 renaming toNat_inj->gv
theorem F' {o:co} {l:List Tk} {m:Nat} {g:V} (h:zE o l=some (m,g)):1<=m/\nb o g=true:=by
 have key:∀ (l:List Tk) (f:V) (n:Nat) (r:Option (Nat×V)),(∀q,r=some q->1<=q.1/\nb o q.2=true)->∀q,(l.foldl (sJ o) (f,n,r)).2.2=some q->1<=q.1/\nb o q.2=true:=by
  intro l
  induction l with
  |nil=>intro f n r hr q a;exact hr q a
  |cons x l b=>
   intro f n r hr q a;rw[List.foldl_cons] at a;refine b _ _ _ ?_ q a;intro p hp;generalize f++ae (cP x.1)=Ga at hp;by_cases hu:nb o Ga=true
   ·have hp:(if nb o Ga then some (n+1,Ga) else r)=some p:=hp
    rw[aj hu] at hp;injection hp with hp;rw[<-hp];exact⟨by show 1<=n+1;omega,hu⟩
   ·have hp:(if nb o Ga then some (n+1,Ga) else r)=some p:=hp
    rw[ai hu] at hp;exact hr p hp
 exact key _ _ _ _ (λq h=>by cases h) (m,g) h
theorem G' {o:co} {w:dv} (hi:gH o) (hr:tw o w) {x:bn} {B:List bn} (k:∀y∈x::B,pt y) (hB:(x::B).length<=1000000) (hx:dx x.Rune=true) (J:Int->Nat->List V->Option (List cZ)) : ∃t,(T (CB w (x::B)) λ(d:(V×Int))=> G ((d.2:Int)==0) (grd (gJ x.Rune) <| T (vO (ae (cP x.Rune))) λ(s:V)=> bP (λ_ _=>none) (wc J s) bN ([]:List V) 0 ) (T (uW w d.1) λ(p:Int)=> G (decide ((0:Int)<=p)) (J d.2 1 ([d.1]:List V) ) (T ((cf d.1 w.Fors)) λ(l:List V)=> J d.2 2 l ) ))=J ((lV (ef o) (tkI x) (B.map tkI)).1:Int) t (lV (ef o) (tkI x) (B.map tkI)).2:=by
 have u:=hi.ul;have v:=hi.ll;have a:=ZU hi hr k hB;rw[au] at a;unfold lV;rw[P3];cases hb:zE o (tkI x::B.map tkI) with
 |none=>
  rw[hb] at a;rw[Option.map_none,Option.getD_none];refine⟨1,aV a (ca rfl (dI (k x (ar ..)).i32 ?_))⟩;have A:=oX (cP x.Rune);have hf:=(uT (ae (cP x.Rune)) z1).1;refine aV (Ik _ z1) ?_;have h5:(jV (ae (cP x.Rune))).size<=1000:=by omega
  have hp:tY (tkI x).1=(fB (jV (ae (cP x.Rune)))).map ae:=rfl;generalize jV (ae (cP x.Rune))=r at h5 hp |-
  have z:=Z5 r h5 J;rw[z,hp];rfl
 |some q=>
  obtain⟨m,g⟩:=q;rw[hb] at a;obtain⟨h1,h2⟩:=F' hb;rw[Option.map_some,gg];have hm:(((m:Nat):Int)==0)=false:=aA.2 z1;have b:=Cx w g (by rw[hr.un];omega);rw[hr.un] at b;unfold sK;dsimp only;have hp:=hi.pl g;cases hx:na o.units g with
  |some i=>
   have n:=(xm hx).1;rw[hx] at b hp;rw[hp];exact⟨1,aV a (bR hm (aV b (ca (an n) rfl)))⟩
  |none=>
   rw[hx] at b hp;rw[hp];unfold nb at h2;rw[hp] at h2;have h3:(cf g o.fors).isSome=true:=by simpa using h2
   obtain⟨xs,j⟩:=kC.1 h3;have h:cf g w.Fors=some xs:=by rw[hr.fo];exact j
   rw[j];exact⟨2,aV a (bR hm (aV b (bR (ah (by show ¬(0:Int)<=-1;omega)) (aV h rfl))))⟩
def wh (out:List El):List El:=if ud out then out else out++[nr]
theorem P7 {out:List El} (h:0<out.length):∃e,out.getLast?=some e/\cj (out.map rE) (((out.map rE).length:Int)-1)=some (rE e):=by
 obtain⟨P,e,rfl⟩:∃P e,out=P++[e]:=⟨out.dropLast,out.getLast (dh.1 h),(o8 (dh.1 h)).symm⟩;refine⟨e,List.getLast?_concat,?_⟩;rw[dp,aa,ax];have:((P.length+(List.map rE [e]).length:Nat):Int)-1=(P.length:Int):=by
  show ((P.length+1:Nat):Int)-1=_;omega
 rw[this];exact iu (by rw[eK (by rw[ax];exact aS _),ax,kB];rfl)
theorem JJ {out:List El} (b:out.length<=2000000000) (J:List cZ->Option (List cZ)) : cm (λ(j:(List cZ)->Option (List cZ))=> G (decide ((0:Int)<((out.map rE).length:Int))) (grd (I64 (((out.map rE).length:Int)-1)) <| T (cj (out.map rE) (((out.map rE).length:Int)-1)) λ(a:cZ)=> G ((a.Sort_:Int) != 1) (grd ((out.map rE).length+1<=2147483648) <| j (out.map rE++[(⟨1,af,0,af,false⟩:cZ)]) ) (j (out.map rE) ) ) (j (out.map rE) ) ) J=J ((wh out).map rE):=by
 have d:(out.map rE).length=out.length:=ax ..;refine cL ?_;by_cases h0:0<out.length
 ·obtain⟨e,h1,h2⟩:=P7 h0;refine eQ (gO (aV h2 ?_));have hg:ud out=decide (e.sort=1):=by unfold ud;rw[h1]
  unfold wh;rw[hg];by_cases he:e.sort=1
  ·rw[an he,aj rfl];exact bR (bne_eq_false_iff_eq.2 he) rfl
  ·rw[ah he,ai (by simp)];refine ca (cQ.2 he) (gO ?_);rw[dp];rfl
 ·have:out=[]:=dO.1 z1;subst this;exact bR rfl rfl
theorem H' (r:Int):0<=kind r/\kind r<=10:=by
 unfold kind tQ
 repeat' split
 all_goals omega
theorem I' (b:V):0<=mj b/\mj b<=255:=by unfold mj;have:=(b.data.toList.headD 0).toNat_lt;omega
theorem P8 (out:List El):(wh out).length<=out.length+1:=by
 unfold wh;split
 ·omega
 ·rw[aa];exact aS _
theorem P9 (cs:List (Option (List El))) (out:List El):oh (none::cs) out=oh cs (wh out):=rfl
theorem J' (l:List Tk):ba (uQ (jw l).data.toList)=tZ l:=rfl
theorem N' {L A B:List bn} (h:L=A++B):ee L (A.length:Int) (L.length:Int)=B:=by
 unfold ee;rw[cy,cy,h,jb,aa,jh,List.take_length]
theorem O' {L A B:List bn} (h:L=A++B) (m:Nat) (hm:m<=B.length):ee L (A.length:Int) ((A.length:Int)+(m:Int))=B.take m:=by
 unfold ee;rw[show (A.length:Int)+(m:Int)=((A.length+m:Nat):Int) by push_cast;rfl,cy,cy,h,jb,jh]
theorem T' {o:co} {w:dv} (hi:gH o) (hu:zF o) (hr:tw o w) {r2 L:List bn} {r3:Int} (hL:ee r2 r3 (r2.length:Int)=L) (F:∀x∈L,pt x) (hl:L.length<=65536) (J:List cZ->Option (List cZ)) : ∀ (n:Nat) (B A:List bn) (out:List El) (k:Nat),L=A++B->B.length<n->B.length<=k->out.length+5*B.length<=1000000 -> bP (λ_ _=>none) (CC w J r2 r3) n (out.map rE) (A.length:Int)=J ((oh (oy (ef o) k (B.map tkI)) out).map rE):=by
 intro n
 induction n with
 |zero=>intro B A out k _ h;omega
 |succ n ih=>
  intro B A out k d hn hk ho;rw[iB];generalize b1:bP (λ_ _=>none) (CC w J r2 r3) n=ag;unfold CC;rw[hL];have Q:L.length=A.length+B.length:=by rw[d,aa]
  have b5:(out.map rE).length=out.length:=ax ..;cases B with
  |nil=>
   refine bR (ah (by rw[Q];simp)) ?_;rw[List.map_nil,Zp];rfl
  |cons x B=>
   rw[ab] at hn hk ho Q;obtain⟨k,rfl⟩:∃k',k=k'+1:=⟨k-1,by omega⟩;have ok:=F x (by rw[d];simp);have okB:∀y∈x::B,pt y:=λy hy=>F y (by rw[d];exact List.mem_append_right _ hy);have hx:cj L (A.length:Int)=some x:=iu (by rw[d];simp);have a1:∀ (m:Nat) (c:Option (List El)) (a:List El),1<=m->m<=(x::B).length->mZ (ef o) (tkI x) (B.map tkI)=(m,c)->(∀cs,oh (c::cs) out=oh cs a)->a.length<=out.length+5 ->
     ag (a.map rE) ((A.length:Int)+(m:Int))=J ((oh (oy (ef o) (k+1) ((x::B).map tkI)) out).map rE):=λm c a h1 h2 hc ao a7=>by
    rw[ab] at h2;have:=ih ((x::B).drop m) (A++(x::B).take m) a k (by rw[d,av,bo]) (by rw[aR,ab];omega) (by rw[aR,ab];omega) (by rw[aR,ab];omega);rw[b1,show (A++(x::B).take m).length=A.length+m by rw[aa,aZ,ab];omega] at this
    push_cast at this
    rw[this,au,oy,hc];dsimp only;rw[ao,<-au,lz]
   have C:∀ (c:Option (List El)) (a:List El),mZ (ef o) (tkI x) (B.map tkI)=(1,c)->(∀cs,oh (c::cs) out=oh cs a)->a.length<=out.length+5 ->
     (grd (I64 ((A.length:Int)+1))<|ag (a.map rE) ((A.length:Int)+1))=J ((oh (oy (ef o) (k+1) ((x::B).map tkI)) out).map rE):=λc a hc ao a7=>
    gO (a1 1 c a (aS 1) (by rw[ab];omega) hc ao a7)
   refine eQ (cL (aV hx ?_));by_cases h0:0<=x.Rune
   ·refine ca (an h0) (dI ok.i32 (fc ?_));have b:kT (tkI x)=kind x.Rune:=by
     show (if x.Rune<0 then 11 else kind x.Rune)=_
     rw[ai z1]
    cases bk:((kind x.Rune:Int)==1) with
    |true=>
     have q:kT (tkI x)=1:=by rw[b];exact beq_iff_eq.1 bk
     have X:dx x.Rune=true:=(Ca (tkI x)).1.1 q;refine ca rfl (cL (dI ⟨by omega,by omega,eV _⟩ ?_));rw[N' d];obtain⟨kd,a5⟩:=G' hi hr (x:=x) (B:=B) okB (by rw[ab];omega) X (λ(n2:Int) (b3:Nat) (r:List V)=>
      cm (λ(j4:Bool->Option (List cZ))=>
      grd (I64 ((A.length:Int)+n2)) <|
      grd (0<=((A.length:Int):Int)/\((A.length:Int):Int)<=((A.length:Int)+n2)/\((A.length:Int)+n2:Int)<=(L.length:Int)) <|
      bP (λ_ _=>none) (xq r2 r3 (A.length:Int) n2 j4) bN false 0
      ) (λ(K:Bool)=>
      cm (λ(j6:Int->V->Option (List cZ))=>
      grd (I64 ((A.length:Int)+n2)) <|
      bP (λ_ _=>none) (we r2 r3 j6) bN ((A.length:Int)+n2) (⟨#[]⟩:V)
      ) (λ(i4:Int) (D:V)=>
      cm (λ(j7:(List cZ)->Option (List cZ))=>
      bP (λ_ _=>none) (xr w r K j7) bN (out.map rE) 0
      ) (λ(g:List cZ)=>
      grd (I64 ((g.length:Int)-1)) <|
      T (cj g ((g.length:Int)-1)) λ(q6:cZ)=>
      ag (g.set ((g.length:Int)-1:Int).toNat (⟨q6.Sort_,q6.Digits,q6.Place,D,q6.Great⟩:cZ)) i4
      ))))
     refine a5.trans ?_;clear a5;have j:=IU (ef o) hi.ok.fo (tkI x) (B.map tkI) X;have S:=ZZ hi hu (tkI x) (B.map tkI) X;have i:mZ (ef o) (tkI x) (B.map tkI)=((lV (ef o) (tkI x) (B.map tkI)).1+(((tkI x::B.map tkI).drop (lV (ef o) (tkI x) (B.map tkI)).1).takeWhile jQ).length,some (qP (nU (((tkI x::B.map tkI).drop (lV (ef o) (tkI x) (B.map tkI)).1).takeWhile jQ)) ((lV (ef o) (tkI x) (B.map tkI)).2.map (jx (ef o) (sG ((tkI x::B.map tkI).take (lV (ef o) (tkI x) (B.map tkI)).1)))))):=by
      unfold mZ;rw[aj q]
     generalize lV (ef o) (tkI x) (B.map tkI)=M at j S i |-
     obtain⟨m,ps⟩:=M;dsimp only at j S i |-
     rw[<-au,ax,ab] at j;rw[<-au,<-lz,<-List.map_take] at i;have bs:=O' d m (by rw[ab];omega);refine cL (gO (gO ?_));refine (Z9 (M:=(x::B).take m) (by rw[hL];exact bs) (λy hy=>okB y (List.mem_of_mem_take hy)) (by rw[aZ,ab];omega) _).trans ?_;generalize b7:sG (((x::B).take m).map tkI)=gr at i |-
     refine cL (gO ?_);have W:=λJm=>Z6 (A:=A++(x::B).take m) (B:=(x::B).drop m) hL F z1 (by rw[d,av,bo]) Jm;have b2:(A++(x::B).take m).length=A.length+m:=by rw[aa,aZ,ab];omega
     rw[b2] at W;have aw:((A.length+m:Nat):Int)=(A.length:Int)+(m:Int):=by push_cast;rfl
     rw[aw] at W;refine (W _).trans ?_;have a6:((((x::B).drop m).map tkI).takeWhile jQ).length+m<=(x::B).length:=by
      have:=(dU jQ (l:=((x::B).drop m).map tkI)).length_le;rw[ax,aR,ab] at this;rw[ab];omega
     generalize b6:(((x::B).drop m).map tkI).takeWhile jQ=ms at i a6 |-
     refine cL ?_;refine (Z8 hi hr gr ps S z1 (out.map rE) z1 _).trans ?_;obtain⟨us,u,a2⟩:∃us u,ps=us++[u]:=⟨ps.dropLast,ps.getLast j.2.2.1,(o8 j.2.2.1).symm⟩;have N:ps.map (jx (ef o) gr)=us.map (jx (ef o) gr)++[jx (ef o) gr u]:=by rw[a2];simp
     have a4:qP (nU ms) (ps.map (jx (ef o) gr))=us.map (jx (ef o) gr)++[⟨3,((ef o).p u).getD 0,af,nU ms,gr⟩]:=by rw[N,IV];rfl
     have b4:us.length<=3:=by have:=j.2.2.2;rw[a2,aa,ab,aB] at this;omega
     generalize hP:out++us.map (jx (ef o) gr)=P;have ch:P.length<=out.length+4:=by rw[<-hP];simp only[aa,ax];omega
     have hall:out.map rE++(ps.map (jx (ef o) gr)).map rE=P.map rE++[rE (jx (ef o) gr u)]:=by rw[N,<-hP,dp,dp,av];rfl
     rw[hall];have Z:((P.map rE++[rE (jx (ef o) gr u)]).length:Int)-1=((P.map rE).length:Int):=by rw[aa,ab,aB];push_cast;omega
     rw[Z];have cc:(P.map rE).length=P.length:=ax ..;refine gO (aV (iu (show (P.map rE++[rE (jx (ef o) gr u)])[(P.map rE).length]?=some (rE (jx (ef o) gr u)) by simp)) ?_);have a3:=PG (P.map rE) (rE (jx (ef o) gr u)) (⟨(rE (jx (ef o) gr u)).Sort_,(rE (jx (ef o) gr u)).Digits,(rE (jx (ef o) gr u)).Place,nU ms,(rE (jx (ef o) gr u)).Great⟩:cZ) [];rw[a3];have:=a1 (m+ms.length) (some (qP (nU ms) (ps.map (jx (ef o) gr)))) (P++[⟨3,((ef o).p u).getD 0,af,nU ms,gr⟩]) z1 z1 i (λcs=>by
      show oh cs (out++qP _ _)=_;rw[a4,<-av,hP]) (by rw[aa,ab,aB];omega)
     rw[dp] at this;have a0:((A.length+m+ms.length:Nat):Int)=(A.length:Int)+((m+ms.length:Nat):Int):=by push_cast;omega
     rw[a0];exact this
    |false=>
     have q:¬kT (tkI x)=1:=by rw[b];exact aA.1 bk
     refine bR rfl ?_;cases bh:((kind x.Rune:Int)==3) with
     |true=>
      have s:kT (tkI x)=3:=by rw[b];exact beq_iff_eq.1 bh
      have b0:gM (tkI x)=true:=by rw[<-xk,s];rfl
      have i:mZ (ef o) (tkI x) (B.map tkI)=(1+((B.map tkI).takeWhile gM).length,some [⟨2,0,tZ (tkI x::(B.map tkI).takeWhile gM),af,0⟩]):=by
       unfold mZ;rw[ai q,aj s]
      refine ca rfl (cL ?_);refine (Z7 hL F z1 d _).trans ?_;rw[au,aY,b0,aj rfl,ab];have b9:((B.map tkI).takeWhile gM).length<=B.length:=by
       have:=(dU gM (l:=B.map tkI)).length_le;rw[ax] at this;exact this
      have hsz:(jw (tkI x::(B.map tkI).takeWhile gM)).size<=4*(tkI x::(B.map tkI).takeWhile gM).length:=zo λy hy=>by
       have:y∈(x::B).map tkI:=by
        rw[au];rcases bg.1 hy with rfl|hy
        ·exact ar ..
        ·exact ak _ (xl hy).2
       obtain⟨z,hz,rfl⟩:=aT.1 this;exact (okB z hz).sz
      rw[ab] at hsz;refine aV (y' _ z1) (gO ?_);rw[J'];have:=a1 (1+((B.map tkI).takeWhile gM).length) (some [⟨2,0,tZ (tkI x::(B.map tkI).takeWhile gM),af,0⟩]) (out++[⟨2,0,tZ (tkI x::(B.map tkI).takeWhile gM),af,0⟩]) z1 (by rw[ab];omega) i (λcs=>rfl) (by rw[aa,ab,aB];omega);rw[dp] at this;have a0:((A.length+(((B.map tkI).takeWhile gM).length+1):Nat):Int)=(A.length:Int)+((1+((B.map tkI).takeWhile gM).length:Nat):Int):=by push_cast;omega
      rw[a0];exact this
     |false=>
      have s:¬kT (tkI x)=3:=by rw[b];exact aA.1 bh
      have t:¬kT (tkI x)=11:=by
       intro h;rw[b] at h;have:=H' x.Rune;omega
      have v:kT (tkI x)=5\/kT (tkI x)=4\/kT (tkI x)=6->(grd (I64 ((A.length:Int)+1))<|ag ((wh out).map rE) ((A.length:Int)+1))=J ((oh (oy (ef o) (k+1) ((x::B).map tkI)) out).map rE):=λR=>
       C none (wh out) (by unfold mZ;rw[ai q,ai s,aj R]) (λcs=>P9 cs out) (by have:=P8 out;omega)
      refine bR rfl ?_;cases bb:((kind x.Rune:Int)==4) with
      |true=>
       refine ca rfl ((JJ z1 _).trans ?_);exact v (.inr (.inl (by rw[b];exact beq_iff_eq.1 bb)))
      |false=>
       refine bR rfl ?_;cases a9:((kind x.Rune:Int)==5) with
       |true=>
        refine ca rfl ((JJ z1 _).trans ?_);exact v (.inl (by rw[b];exact beq_iff_eq.1 a9))
       |false=>
        refine bR rfl ?_;cases a8:((kind x.Rune:Int)==6) with
        |true=>
         refine ca rfl ((JJ z1 _).trans ?_);exact v (.inr (.inr (by rw[b];exact beq_iff_eq.1 a8)))
        |false=>
         refine bR rfl ?_;have R:¬(kT (tkI x)=5\/kT (tkI x)=4\/kT (tkI x)=6):=by
          rw[b];have h4:=aA.1 bb;have h5:=aA.1 a9;have h6:=aA.1 a8;omega
         refine C (some []) out (by unfold mZ;rw[ai q,ai s,ai R,ai t]) (λcs=>?_) z1;show oh cs (out++[])=_;rw[aE]
   ·have t:kT (tkI x)=11:=by
     show (if x.Rune<0 then 11 else kind x.Rune)=_
     rw[aj z1]
    have b8:=I' x.Text;refine bR (ah h0) (eQ (aV (j' ok.ne) (gO (gO ?_))));have:=C (some [⟨4,mj x.Text,af,af,0⟩]) (out++[⟨4,mj x.Text,af,af,0⟩]) (by unfold mZ;rw[t];rfl) (λcs=>rfl) (by rw[aa,ab,aB];omega);rw[dp] at this;exact this
theorem Y' (o:nS) (x:Tk) (l:List Tk) {b:List El} (h:(mZ o x l).2=some b):JI b:=by
 unfold mZ at h;split at h
 ·injection h with h;subst h;intro e he;rcases Je _ he with he|⟨d,a,rfl⟩
  ·obtain⟨u,_,rfl⟩:=aT.1 he;show (3:Int)≠1;omega
  ·obtain⟨u,_,rfl⟩:=aT.1 a;show (3:Int)≠1;omega
 ·split at h
  ·injection h with h;subst h;intro e he;rw[bd.1 he];show (2:Int)≠1;omega
  ·split at h
   ·cases h
   ·split at h
    ·injection h with h;subst h;intro e he;rw[bd.1 he];show (4:Int)≠1;omega
    ·injection h with h;subst h;intro e he;cases he
theorem Qn (o:nS):∀ (n:Nat) (l:List Tk) (a:List El),some a∈oy o n l->JI a
 |0,l,a,h=>by cases h
 |n+1,[],a,h=>by cases h
 |n+1,x::l,a,h=>by
  rw[oy] at h;rcases bg.1 h with h|h
  ·exact Y' o x l h.symm
  ·exact Qn o n _ a h
theorem JK:∀ (cs:List (Option (List El))) (out:List El),(∀a,some a∈cs->a.length<=4)->(oh cs out).length<=out.length+5*cs.length
 |[],out,_=>aS _
 |none::cs,out,h=>by
  have h1:=JK cs (wh out) λa he=>h a (ak _ he);have h2:=P8 out;rw[P9,ab];omega
 |some a::cs,out,h=>by
  have h1:=JK cs (out++a) λa he=>h a (ak _ he);have h2:=h a (ar ..);rw[aa] at h1;show (oh cs (out++a)).length<=_;rw[ab];omega
theorem Qo {o:co} {w:dv} (hi:gH o) (hu:zF o) (hr:tw o w) (t:V) (ht:qc t):CD w t=some ((lW o t).map rE):=by
 have r:=Cw (iw t);have u:=Jz (iw t);have i:(ij (iw t)).map tkI=iE t:=zB (iw t);have j:=O0 (ef o) (iE t);have v:=ht.2;have A:(ij (iw t)).length=(iE t).length:=by
  have:=aI fS i;rw[ax] at this;exact this
 unfold CD;refine cL (aV (N6 t ht.1) (aV (yR (iw t) z1) (aV (ZS hr t ht) (dI ⟨by omega,by omega,eV _⟩ ?_))));generalize hp:tr (ef o) (iE t)=p at j |-
 have l:ee (ij (iw t)) (p:Int) ((ij (iw t)).length:Int)=(ij (iw t)).drop p:=by
  unfold ee;rw[cy,cy,ff (by rw[aR];omega)]
 have h1:=T' hi hu hr (r2:=ij (iw t)) (r3:=(p:Int)) l (λx hx=>r x (im hx)) (by rw[aR];omega) (λ(a:List cZ)=>
  cm (λ(g:(List cZ)->Option (List cZ))=>
  G (decide ((0:Int)<(a.length:Int))) (
  grd (I64 ((a.length:Int)-1)) <|
  T (cj a ((a.length:Int)-1)) λ(q:cZ)=>
  G ((q.Sort_:Int)==1) (
  grd (I64 ((a.length:Int)-1)) <|
  grd (0<=((a.length:Int)-1:Int)/\((a.length:Int)-1:Int)<=(a.length:Int)) <|
  g (a.take ((a.length:Int)-1:Int).toNat)
  ) (
  g a
  )
  ) (
  g a
  )
  ) (λ(d:List cZ)=>
  some d
  )) bN ((ij (iw t)).drop p) [] [] (iE t).length (bj _).symm (by rw[aR];unfold bN;omega) (by rw[aR];omega) (by rw[aR];show 0+_<=_;omega)
 refine h1.trans ?_;rw[lz,i];have m:=Jg (ef o) hi.ok.fo hi.ok.pl (iE t).length ((iE t).drop p) (λy hy=>(Jh t ht).1 y (im hy)) (by rw[aR];omega);have k:=Qn (ef o) (iE t).length ((iE t).drop p);have b:=FSz (oy (ef o) (iE t).length ((iE t).drop p)) [] false k (λe h=>by cases h);rw[show ([]:List El)++ko false []=[] from rfl] at b;have n:=JK (oy (ef o) (iE t).length ((iE t).drop p)) [] λC he=>(m.1 C he).2;have s:lW o t=uX (oh (oy (ef o) (iE t).length ((iE t).drop p)) []):=by
  rw[b];unfold lW xj;rw[hp]
 rw[s];have B:=m.2;rw[aB] at n;generalize oh (oy (ef o) (iE t).length ((iE t).drop p)) []=out at n |-
 have z:(out.map rE).length=out.length:=ax ..;refine cL ?_;by_cases h0:0<out.length
 ·obtain⟨e,g1,g2⟩:=P7 h0;refine eQ (gO (aV g2 ?_));unfold uX;rw[g1];show G ((e.sort:Int)==1) _ _=some ((if e.sort=1 then out.dropLast else out).map rE)
  by_cases he:e.sort=1
  ·rw[aj he];refine ca (beq_iff_eq.2 he) (gO (gO (aI some ?_)));rw[List.map_dropLast,List.dropLast_eq_take];congr 1;omega
  ·rw[ai he];exact bR (aA.2 he) rfl
 ·have:out=[]:=dO.1 z1;subst this;exact bR rfl rfl
theorem zG (a b:Int):wg a b=some (sg (a-b)):=by
 unfold wg sg;by_cases h1:a<b
 ·rw[aj z1];exact ca (an h1) rfl
 ·rw[ai z1];refine bR (ah h1) ?_;by_cases h2:b<a
  ·rw[aj z1];exact ca (an h2) rfl
  ·rw[ai z1];exact bR (ah h2) rfl
theorem JL (a b:Int):sg (od a b)=od (sg a) (sg b):=by
 unfold od;by_cases h:a=0
 ·rw[aj h,aj (iK.2 h)]
 ·rw[ai h,ai (λh2=>h (iK.1 h2))]
theorem wi {x:List El} {k:Nat} {e:El} (h:x[k]?=some e):cj (x.map rE) (k:Int)=some (rE e):=iu (by rw[cx,h];rfl)
theorem Z' (x y:List El) (hx:x.length<=1000000) (hy:y.length<=1000000) {j:List cZ->List cZ->Option (Int×Int)} {Z:Option (Int×Int)}
  (h1:x.length=y.length->j (x.map rE) (y.map rE)=Z) (h2:x.length<y.length->j (x.map rE) (y.map rE)=some (-1,1)) (h3:y.length<x.length->j (x.map rE) (y.map rE)=some (1,1)) :
  ∀ (n k:Nat),k<=x.length->k<=y.length->x.length-k<n->bP (λ_=>none) (CE j (x.map rE) (y.map rE)) n (k:Int)=if iI jR (x.drop k) (y.drop k)=0 then Z else some (sg (iI jR (x.drop k) (y.drop k)),1):=by
 intro n
 induction n with
 |zero=>intro k _ _ h;omega
 |succ n B=>
  intro k N M S;rw[iB];generalize P:bP (λ_=>none) (CE j (x.map rE) (y.map rE)) n=ag at B;unfold CE;have R:(x.map rE).length=x.length:=ax ..;have Q:(y.map rE).length=y.length:=ax ..;by_cases g:k<x.length
  ·refine eQ ?_;by_cases d:k<y.length
   ·have q:=wi (aJ g);have p:=wi (aJ d);rw[aQ g,aQ d,iI];refine eQ (cL (aV q (aV p (aV (zG _ _) ?_))));generalize x[k]=a at q |-
    generalize y[k]=b at p |-
    have z:=B (k+1) z1 z1 z1
    push_cast at z
    have m:sg (jR a b)=od (sg (a.sort-b.sort)) (od (sg (a.place-b.place)) (od (sg ((a.digits.size:Int)-(b.digits.size:Int))) (cb a.digits.data.toList b.digits.data.toList))):=by
     unfold jR;rw[JL,JL,JL,Fl]
    have r:∀c:Int,c=sg (jR a b)->(G ((c:Int) != 0) (some (c,(1:Int))) (grd (I64 ((k:Int)+1))<|ag ((k:Int)+1)))=if (if jR a b=0 then iI jR (x.drop (k+1)) (y.drop (k+1)) else jR a b)=0 then Z else some (sg (if jR a b=0 then iI jR (x.drop (k+1)) (y.drop (k+1)) else jR a b),1):=by
     intro c hc;by_cases h0:jR a b=0
     ·rw[aj h0];refine bR (by rw[hc,iK.2 h0];rfl) (gO z)
     ·rw[ai h0,ai h0,hc];exact ca (cQ.2 λh=>h0 (iK.1 h)) rfl
    have v:∀c:Int,od c (cb a.digits.data.toList b.digits.data.toList)=sg (jR a b)->cm (λ(l:Int->Option (Int×Int))=>G ((c:Int)==0) (T (cj (x.map rE) (k:Int)) λ(u:cZ)=>T (cj (y.map rE) (k:Int)) λ(t:cZ)=>l (bL u.Digits.data.toList t.Digits.data.toList)) (l c)) (λ(s:Int)=>G ((s:Int) != 0) (some (s,(1:Int))) (grd (I64 ((k:Int)+1))<|ag ((k:Int)+1)))=if (if jR a b=0 then iI jR (x.drop (k+1)) (y.drop (k+1)) else jR a b)=0 then Z else some (sg (if jR a b=0 then iI jR (x.drop (k+1)) (y.drop (k+1)) else jR a b),1):=by
     intro c hc;refine cL ?_;unfold od at hc;by_cases h0:c=0
     ·rw[aj h0] at hc;exact ca (beq_iff_eq.2 h0) (aV q (aV p (r _ hc)))
     ·rw[ai h0] at hc;exact bR (aA.2 h0) (r _ hc)
    have w:∀c:Int,od c (od (sg ((a.digits.size:Int)-(b.digits.size:Int))) (cb a.digits.data.toList b.digits.data.toList))=sg (jR a b)->cm (λ(A:Int->Option (Int×Int))=>G ((c:Int)==0) (T (cj (x.map rE) (k:Int)) λ(K:cZ)=>T (cj (y.map rE) (k:Int)) λ(J:cZ)=>T (wg (K.Digits.size:Int) (J.Digits.size:Int)) λ(F:Int)=>A F) (A c)) (λ(C:Int)=>cm (λ(l:Int->Option (Int×Int))=>G ((C:Int)==0) (T (cj (x.map rE) (k:Int)) λ(u:cZ)=>T (cj (y.map rE) (k:Int)) λ(t:cZ)=>l (bL u.Digits.data.toList t.Digits.data.toList)) (l C)) (λ(s:Int)=>G ((s:Int) != 0) (some (s,(1:Int))) (grd (I64 ((k:Int)+1))<|ag ((k:Int)+1))))=if (if jR a b=0 then iI jR (x.drop (k+1)) (y.drop (k+1)) else jR a b)=0 then Z else some (sg (if jR a b=0 then iI jR (x.drop (k+1)) (y.drop (k+1)) else jR a b),1):=by
     intro c hc;refine cL ?_;by_cases h0:c=0
     ·have i:od (sg ((a.digits.size:Int)-(b.digits.size:Int))) (cb a.digits.data.toList b.digits.data.toList)=sg (jR a b):=by
       rw[<-hc];unfold od;rw[aj h0]
      exact ca (beq_iff_eq.2 h0) (aV q (aV p (aV (zG _ _) (v _ i))))
     ·have i:od c (cb a.digits.data.toList b.digits.data.toList)=sg (jR a b):=by
       rw[<-hc];unfold od;rw[ai h0,ai h0]
      exact bR (aA.2 h0) (v _ i)
    have D:sg ((rE a).Sort_-(rE b).Sort_)=sg (a.sort-b.sort):=rfl;rw[D];by_cases h0:sg (a.sort-b.sort)=0
    ·refine ca (beq_iff_eq.2 h0) (aV q (aV p (aV (zG _ _) (w _ ?_))));rw[m];show od (sg (a.place-b.place)) _=_
     conv=>rhs;unfold od
     rw[aj h0];rfl
    ·refine bR (aA.2 h0) (w _ ?_);rw[m];unfold od;rw[ai h0,ai h0]
   ·refine fc ?_;rw[aQ g,bD (show y.length<=k by omega)];exact (h3 z1).trans rfl
  ·refine fc ?_;rw[bD (show x.length<=k by omega)];by_cases d:k<y.length
   ·rw[aQ d];exact (h2 z1).trans rfl
   ·rw[bD (show y.length<=k by omega)];exact (h1 z1).trans rfl
theorem Qq (x y:List El) (hx:x.length<=1000000) (l:x.length=y.length) {Z:Option (Int×Int)} {F:(Int->Option (Int×Int))->Int->Option (Int×Int)} {c:El->El->Int} {v:Int}
  (he:∀ag,F ag (x.length:Int)=Z) (m:∀ag (k:Nat) a b,k<=1000000->x[k]?=some a->y[k]?=some b->F ag (k:Int)=if c a b=0 then ag ((k:Int)+1) else some (sg (c a b),v)) :
  ∀ (n k:Nat),k<=x.length->x.length-k<n->bP (λ_=>none) F n (k:Int)=if iI c (x.drop k) (y.drop k)=0 then Z else some (sg (iI c (x.drop k) (y.drop k)),v):=by
 intro n
 induction n with
 |zero=>intro k _ h;omega
 |succ n j=>
  intro k hk p;rw[iB];by_cases g:k<x.length
  ·have d:k<y.length:=by omega
   rw[m _ k _ _ z1 (aJ g) (aJ d),aQ g,aQ d,iI];have i:=j (k+1) z1 z1
   push_cast at i
   by_cases h0:c x[k] y[k]=0
   ·rw[aj h0,aj h0];exact i
   ·rw[ai h0,ai h0,ai h0]
  ·have e:k=x.length:=by omega
   rw[bD (show x.length<=k by omega),bD (show y.length<=k by omega),e,he];rfl
theorem Qv {o:co} {w:dv} (hi:gH o) (hu:zF o) (hr:tw o w) (a b:V) (ha:qc a) (hb:qc b):xu w a b=some (jq 1 (jL o a) (jL o b)):=by
 obtain⟨r,s⟩:=Fp hi.ok a ha;obtain⟨n,lb⟩:=Fp hi.ok b hb;unfold xu;refine cL (aV (Qo hi hu hr a ha) (aV (Qo hi hu hr b hb) ?_));unfold jL;rw[Pq r n];generalize lW o a=x at r s |-
 generalize lW o b=y at n lb |-
 have l:(x.map rE).length=x.length:=ax ..;have j:(y.map rE).length=y.length:=ax ..;have i:∀d:x.length=y.length,(cm (λ(u:Option (Int×Int))=>
   bP (λ_=>none) (CF (x.map rE) (y.map rE) u) bN 0
   ) (
   cm (λ(t:Option (Int×Int))=>
   bP (λ_=>none) (CG (x.map rE) (y.map rE) t) bN 0
   ) (
   G (decide (a=b)) (
   some ((0:Int),(0:Int))
   ) (
   some (bL a.data.toList b.data.toList,4)
   )
   )
   ))=some (if iI oA x y=0 then (if iI qv x y=0 then (if cb a.data.toList b.data.toList=0 then (0,0) else (cb a.data.toList b.data.toList,4)) else (sg (iI qv x y),3)) else (sg (iI oA x y),2)):=by
  intro d;refine cL ((Qq x y (c:=oA) (v:=2) z1 d (λag=>by
    unfold CF;exact fc rfl) (λag k p q hk h1 h2=>by
    have m:=(aq.1 h1).1;unfold CF;refine eQ (aV (wi h1) (aV (wi h2) ?_));have e:bL (rE p).Marks.data.toList (rE q).Marks.data.toList=oA p q:=rfl;rw[e];by_cases h0:oA p q=0
    ·rw[aj h0];exact bR (by rw[h0];rfl) (gO rfl)
    ·rw[ai h0,show sg (oA p q)=oA p q from Fl _ _];exact ca (cQ.2 h0) rfl) bN 0 (bT _) (by unfold bN;omega)).trans ?_)
  rw[fj,fj];by_cases hm:iI oA x y=0
  ·rw[aj hm,aj hm];refine cL ((Qq x y (c:=qv) (v:=3) z1 d (λag=>by
     unfold CG;exact fc rfl) (λag k p q hk h1 h2=>by
     have m:=(aq.1 h1).1;have g1:=(r p (aF h1)).gr;have g2:=(n q (aF h2)).gr;unfold CG;refine eQ (aV (wi h1) (aV (wi h2) ?_));have e1:(rE p).Great=decide (p.great=1):=rfl;have e2:(rE q).Great=decide (q.great=1):=rfl;unfold qv;rcases g1 with g1|g1<;>rcases g2 with g2|g2
     ·rw[e1,e2,g1,g2];exact bR rfl (gO rfl)
     ·rw[e1,e2,g1,g2];refine ca rfl (aV (wi h1) ?_);rw[e1,g1];exact bR rfl rfl
     ·rw[e1,e2,g1,g2];refine ca rfl (aV (wi h1) ?_);rw[e1,g1];exact ca rfl rfl
     ·rw[e1,e2,g1,g2];exact bR rfl (gO rfl)) bN 0 (bT _) (by unfold bN;omega)).trans ?_)
   rw[fj,fj];by_cases hg:iI qv x y=0
   ·rw[aj hg,aj hg];by_cases g:a=b
    ·rw[aj (by rw[g];exact zm _)];exact ca (an g) rfl
    ·rw[ai (λh=>g (rP (zn h)))];exact bR (ah g) rfl
   ·rw[ai hg,ai hg]
  ·rw[ai hm,ai hm]
 refine (Z' x y (Z:=some (if iI oA x y=0 then (if iI qv x y=0 then (if cb a.data.toList b.data.toList=0 then (0,0) else (cb a.data.toList b.data.toList,4)) else (sg (iI qv x y),3)) else (sg (iI oA x y),2))) z1 z1 (λd=>?_) (λh=>?_) (λh=>?_) bN 0 (bT _) (bT _) (by unfold bN;omega)).trans ?_
 ·refine aV (zG _ _) (bR ?_ (i d));rw[l,j,show ((x.length:Int)-(y.length:Int))=0 by omega];rfl
 ·refine aV (zG _ _) ?_;rw[l,j,show sg ((x.length:Int)-(y.length:Int))=-1 by unfold sg;rw[aj z1]];exact ca rfl rfl
 ·refine aV (zG _ _) ?_;rw[l,j,show sg ((x.length:Int)-(y.length:Int))=1 by unfold sg;rw[ai z1,aj z1]];exact ca rfl rfl
 ·rw[fj,fj];unfold Fq;by_cases hf:iI jR x y=0
  ·rw[aj hf,aj hf]
  ·rw[ai hf,ai hf]
def CH (g:List iO) (d:(List V)->Option (de×dv)) (b:(List V)->Option (de×dv)) (a:List V):Option (de×dv) := G (decide (((a.length:Int):Int)<((g.length:Int)-1))) (G (decide (((a.length:Int):Int)<6)) (grd (a.length+1<=2147483648) <|b (a++[(⟨#[]⟩:V)])) (d a)) (d a)
def CI (o1:dv) (d:List iO) (a:List V) (p:Option (de×dv)) (h:Int->Option (de×dv)) (b:Int):Option (de×dv) := cm (λ(k:Option (de×dv))=>G (decide ((b:Int)<(a.length:Int))) (k) (G (decide ((b:Int)<((d.length:Int)-1))) (k) (p))) (cm (λ(j:V->Bool->Bool->Bool->Option (de×dv))=>G (decide ((((d.length:Int)-1):Int)<=b)) (T (cj d (min b ((d.length:Int)-1))) λ(n:iO)=>some ((⟨220,n.at_⟩:de),o1)) (G (decide (((a.length:Int):Int)<=b)) (T (cj d (min b ((d.length:Int)-1))) λ(m:iO)=>some ((⟨220,m.at_⟩:de),o1)) (T (cj a b) λ(g:V)=>G (!decide (g=(⟨#[]⟩:V))) (T (cj d b) λ(i:iO)=>G (!decide (g=i.text)) (T (cj d (min b ((d.length:Int)-1))) λ(l:iO)=>some ((⟨220,l.at_⟩:de),o1)) (j g true true (!decide (g=i.text)))) (j g false false false)))) (λ(x1:V) (x2:Bool) (r:Bool) (q:Bool)=>grd (I64 (b+1)) <|h (b+1)))
def CJ (o1:dv) (p:List iO) (d:List V) (s:(List V)->V->Option (de×dv)) (n:(List V)->V->Int->Option (de×dv)) (a:List V) (b:V) (j:Int):Option (de×dv) := G (decide ((j:Int)<(d.length:Int))) (cm (λ(r:(List V)->V->Option (de×dv))=>T (cj d j) λ(k:V)=>G (!decide (k=(⟨#[]⟩:V))) (cm (λ(q:V->Option (de×dv))=>grd (a.length+1<=2147483648) <|G (decide (k=(⟨#[97,102,116,101,114]⟩:V))) (grd (b.size+(⟨#[32,97,102,116,101,114]⟩:V).size<=9223372036854775807) <|q (b++(⟨#[32,97,102,116,101,114]⟩:V))) (q b)) (λ(h:V)=>r (a++[(⟨#[]⟩:V)]) h)) (T (cj p j) λ(m:iO)=>T (FJ m.text) λ(r1:V)=>G (decide (r1=(⟨#[]⟩:V))) (T (cj p j) λ(l:iO)=>some ((⟨221,l.at_⟩:de),o1)) (grd (a.length+1<=2147483648) <|T (EU r1) λ(r2:V)=>grd ((⟨#[32]⟩:V).size+r2.size<=9223372036854775807) <|grd (b.size+((⟨#[32]⟩:V)++r2).size<=9223372036854775807) <|r (a++[r1]) (b++((⟨#[32]⟩:V)++r2))))) (λ(g:List V) (i:V)=>grd (I64 (j+1)) <|n g i (j+1))) (s a b)
def CK (o1:dv) (h:List iO) (i:V->Option (de×dv)) (r3:V) (g:Int->Option (de×dv)) (a:Int):Option (de×dv) := G (decide ((a:Int)<(o1.Skips.length:Int))) (T (cj o1.Skips a) λ(d:V)=>G (decide (d=r3)) (T (cj h 1) λ(b:iO)=>some ((⟨222,b.at_⟩:de),o1)) (grd (I64 (a+1)) <|g (a+1))) (i r3)
def CL (o1:dv) (n:List iO) (b:List V) (a:List V) (k:Option (de×dv)) (l:Int->Option (de×dv)) (d:Int):Option (de×dv) := G (decide ((d:Int)<(a.length:Int))) (cm (λ(g:Option (de×dv))=>T (cj b d) λ(j:V)=>G (decide (j=(⟨#[]⟩:V))) (T (cj a d) λ(i:V)=>T (uW o1 i) λ(m:Int)=>G (decide ((m:Int)<0)) (T (cj n d) λ(h:iO)=>some ((⟨223,h.at_⟩:de),o1)) (g)) (g)) (grd (I64 (d+1)) <|l (d+1))) (k)
def FU (o1:dv) (h:List iO):Option (de×dv) := G (((o1.Lines.length:Int):Int)==256) (T (cj h 0) λ(q1:iO)=>some ((⟨3,q1.at_⟩:de),o1)) (cm (λ(t:(List V)->Option (de×dv))=>grd (I64 ((h.length:Int)-1)) <|T (cj h 0) λ(q2:iO)=>G (decide (q2.text=(⟨#[112,117,116]⟩:V))) (t ([(⟨#[112,117,116]⟩:V),(⟨#[]⟩:V),(⟨#[97,102,116,101,114]⟩:V),(⟨#[]⟩:V)]:List V)) (G (decide (q2.text=(⟨#[115,107,105,112]⟩:V))) (t ([(⟨#[115,107,105,112]⟩:V),(⟨#[]⟩:V)]:List V)) (G (decide (q2.text=(⟨#[97,115]⟩:V))) (bP (λ_=>none) (CH h t) bN ([(⟨#[97,115]⟩:V),(⟨#[]⟩:V),(⟨#[]⟩:V)]:List V)) (T (cj h 0) λ(w:iO)=>some ((⟨220,w.at_⟩:de),o1))))) (λ(b:List V)=>cm (λ(C:Option (de×dv))=>bP (λ_=>none) (CI o1 h b C) bN 0) (cm (λ(B:(List V)->V->Option (de×dv))=>T (cj b 0) λ(v:V)=>bP (λ_ _ _=>none) (CJ o1 h b B) bN ([]:List V) v 0) (λ(a:List V) (d:V)=>cm (λ(A:Option (de×dv))=>T (cj b 0) λ(r:V)=>G (decide (r=(⟨#[115,107,105,112]⟩:V))) (cm (λ(z:V->Option (de×dv))=>T (cj a 1) λ(q:V)=>T (vO q) λ(r3:V)=>bP (λ_=>none) (CK o1 h z r3) bN 0) (λ(fold1:V)=>grd (o1.Skips.length+1<=2147483648) <|grd (o1.Lines.length+1<=2147483648) <|some ((⟨0,0⟩:de),(⟨o1.Units,o1.Fors,o1.Skips++[fold1],o1.Lines++[d]⟩:dv)))) (A)) (T (cj a 1) λ(p:V)=>T (zA o1 p) λ(u:Bool)=>G (u) (T (cj h 1) λ(n:iO)=>some ((⟨222,n.at_⟩:de),o1)) (cm (λ(s:Option (de×dv))=>bP (λ_=>none) (CL o1 h b a s) bN 2) (cm (λ(j:(List V)->(List (V×List V))->Option (de×dv))=>T (cj b 0) λ(m:V)=>G (decide (m=(⟨#[97,115]⟩:V))) (T (cj a 1) λ(l:V)=>grd (0<=(2:Int)/\(2:Int)<=(a.length:Int)/\((a.length:Int):Int)<=(a.length:Int)) <|j o1.Units (jm l (ee a 2 (a.length:Int)) o1.Fors)) (T (cj a 3) λ(k:V)=>T (uW o1 k) λ(g:Int)=>grd (I64 (g+1)) <|grd (0<=(0:Int)/\(0:Int)<=(g+1)/\(g+1:Int)<=(o1.Units.length:Int)) <|grd (([]:List V).length+(ee o1.Units 0 (g+1)).length<=2147483648) <|T (cj a 1) λ(i:V)=>grd ((([]:List V)++(ee o1.Units 0 (g+1))).length+1<=2147483648) <|grd (0<=(g+1:Int)/\(g+1:Int)<=(o1.Units.length:Int)/\((o1.Units.length:Int):Int)<=(o1.Units.length:Int)) <|grd (((([]:List V)++(ee o1.Units 0 (g+1)))++[i]).length+(ee o1.Units (g+1) (o1.Units.length:Int)).length<=2147483648) <|j (((([]:List V)++(ee o1.Units 0 (g+1)))++[i])++(ee o1.Units (g+1) (o1.Units.length:Int))) o1.Fors)) (λ(y:List V) (x:List (V×List V))=>grd (o1.Lines.length+1<=2147483648) <|some ((⟨0,0⟩:de),(⟨y,x,o1.Skips,o1.Lines++[d]⟩:dv))))))))))
theorem a_ (_p:Nat) (o1:dv) (_g _c _d _f:Hd) {a2 N:Value} {fo:List iO} {B:Nat} {W:List iO} (w:Vw a2 fo 2 B N W) {r:(de×dv)} (h:FU o1 W=some r):gu prog 33 [zP _p,N] [iM yn 2 a2 B fo] [cells _p [_g.v,.map (some (bc _c)),_d.v,_f.v] 86,bq _g.v o1.Units,dV (bc _c) o1.Fors,bq _d.v o1.Skips,bq _f.v o1.Lines] (λb:Hd×Hd×Hd×Hd=>.agg (mh r.1).toArray) (λb=>[cells _p [b.1.v,.map (some (bc b.2.1)),b.2.2.1.v,b.2.2.2.v] 86,bq b.1.v r.2.Units,dV (bc b.2.1) r.2.Fors,bq b.2.2.1.v r.2.Skips,bq b.2.2.2.v r.2.Lines]):=by
 refine gu.intro func33 rfl ntmps33 (by simp) (λw0 K Q=>I (fZ uA rfl dc (λb1=>Y (bV (I (O 1 rfl (iS rfl dc rfl (ci Ao rfl dc rfl (show _=3 from rfl) (bW 0 oS rfl dc rfl rfl rfl (io 4 rfl dc rfl rfl ay (E rfl eZ (Y (bu rfl h (λh=>?_) (λh=>?_))))))))))))))
 ·refine I (O 1 rfl (aU h λq1 eA h=>gm w eA eo sA rfl dc rfl rfl rfl (ci uC rfl dc rfl (show _=(B+(0:Int).toNat)*2 from rfl) (km 0 (B+(0:Int).toNat) 0 q1 Q rfl z1 ed rfl dc rfl (cq w eA) rfl rfl (fH (.agg #[zI 3,zI q1.at_]) [(0,.const (zI 3)),(1,.tmp 27)] rfl dc rfl (λ_=>by kernel_rfl) (fI 5 [zI 3,zI q1.at_] [zI 3,zI q1.at_] lR rfl rfl rfl rfl rfl (show _<=_ by simp) rfl rfl (Y (bO (bZ ?_)))))))));cases h;exact eW [.cell 4 38] (_g,_c,_d,_f) (.inl rfl) iz (.cons (.cells my (k:=5) rfl rfl rfl) .nil) rfl (cO 5)
 refine bw (cu (cJ ((List V)×Hd) h 2 rfl (λj1 b=>j1 b.1=some r) (λb=>[]) (λb=>[(0,zP _p),(1,N),(4,zP b1),(5,zI ((W.length:Int)-1)),(6,b.2.v)]) (λb=>[cells _p [_g.v,.map (some (bc _c)),_d.v,_f.v] 86,bq _g.v o1.Units,dV (bc _c) o1.Fors,bq _d.v o1.Skips,bq _f.v o1.Lines,cells b1 [zI 0,zI 0] 38,bq b.2.v b.1]) (λj1 h cut=>?_) ?_))
 ·refine I (O 1 rfl (jl w rfl dc rfl eo (bi h λg1 h=>E rfl (iV ((W.length:Int)-1) (ac _ g1)) (O 1 rfl (cw (O 1 rfl (Y (cut (I (O 1 rfl (aU h λq2 et h=>gm w et eo sA rfl dc rfl rfl rfl (ci GY rfl dc rfl (show _=(B+(0:Int).toNat)*2+1 from rfl) (km 0 (B+(0:Int).toNat) 1 q2 Q rfl z1 eJ rfl dc rfl (cq w et) rfl rfl (Y (ck (I (E rfl mf (O 1 rfl (Y (bu rfl h (λh=>bX (hQ [(0,.const (.string (⟨#[112,117,116]⟩:V))),(1,.const (.string (⟨#[]⟩:V))),(2,.const (.string (⟨#[97,102,116,101,114]⟩:V))),(3,.const (.string (⟨#[]⟩:V)))] 9 [.string (⟨#[112,117,116]⟩:V),.string (⟨#[]⟩:V),.string (⟨#[97,102,116,101,114]⟩:V),.string (⟨#[]⟩:V)] rfl dc rfl (λ_=>by kernel_rfl) (λb2=>O 1 rfl (pd 6 ([(⟨#[112,117,116]⟩:V),(⟨#[]⟩:V),(⟨#[97,102,116,101,114]⟩:V),(⟨#[]⟩:V)]:List V) rfl gG rfl (show 4<=maxLen by decide) (bC (cg (mD (([(⟨#[112,117,116]⟩:V),(⟨#[]⟩:V),(⟨#[97,102,116,101,114]⟩:V),(⟨#[]⟩:V)]:List V),(⟨some ⟨b2,0,none⟩,4,4⟩:Hd)) h 7))))))) (λh=>I (E rfl mf (O 1 rfl (Y (bu rfl h (λh=>bX (hQ [(0,.const (.string (⟨#[115,107,105,112]⟩:V))),(1,.const (.string (⟨#[]⟩:V)))] 9 [.string (⟨#[115,107,105,112]⟩:V),.string (⟨#[]⟩:V)] rfl dc rfl (λ_=>by kernel_rfl) (λb3=>O 1 rfl (pd 6 ([(⟨#[115,107,105,112]⟩:V),(⟨#[]⟩:V)]:List V) rfl gG rfl (show 2<=maxLen by decide) (bC (cg (mD (([(⟨#[115,107,105,112]⟩:V),(⟨#[]⟩:V)]:List V),(⟨some ⟨b3,0,none⟩,2,2⟩:Hd)) h 7))))))) (λh=>I (E rfl mf (O 1 rfl (Y (bu rfl h (λh=>?_) (λh=>?_)))))))))))))))))))))))))))))))
  ·refine I (hQ [(0,.const (.string (⟨#[97,115]⟩:V))),(1,.const (.string (⟨#[]⟩:V))),(2,.const (.string (⟨#[]⟩:V)))] 9 [.string (⟨#[97,115]⟩:V),.string (⟨#[]⟩:V),.string (⟨#[]⟩:V)] rfl dc rfl (λ_=>by kernel_rfl) (λb4=>O 1 rfl (pd 6 ([(⟨#[97,115]⟩:V),(⟨#[]⟩:V),(⟨#[]⟩:V)]:List V) rfl gG rfl (show 3<=maxLen by decide) (Y (ck (fP ((List V)×Hd) (CH W j1) (λa b=>a b.1=some r) (λb=>[]) (λb=>[(0,zP _p),(1,N),(4,zP b1),(5,zI ((W.length:Int)-1)),(6,b.2.v)]) (λb=>[cells _p [_g.v,.map (some (bc _c)),_d.v,_f.v] 86,bq _g.v o1.Units,dV (bc _c) o1.Fors,bq _d.v o1.Skips,bq _f.v o1.Lines,cells b1 [zI 0,zI 0] 38,bq b.2.v b.1]) (([(⟨#[97,115]⟩:V),(⟨#[]⟩:V),(⟨#[]⟩:V)]:List V),(⟨some ⟨b4,0,none⟩,3,3⟩:Hd)) (by exact h) 7 ?_))))));rintro hm ⟨ag,e7⟩ h;refine bV (I (O 1 rfl (io 6 rfl dc rfl rfl ay (O 1 rfl (E rfl dL (O 1 rfl (du 54 rfl h (λh=>?_) (λh=>?_))))))))
   ·refine O 1 rfl (io 6 rfl dc rfl rfl ay (E rfl dL (O 1 rfl (Y (bu rfl h (λh=>?_) (λh=>?_))))))
    ·refine bw (cu (ck (bX (O 1 rfl (hQ [(0,.const (.string (⟨#[]⟩:V)))] 9 [.string (⟨#[]⟩:V)] rfl dc rfl (λ_=>by kernel_rfl) (λb5=>bi h λg0 h=>jJ 6 7 [(⟨#[]⟩:V)] ay oR gG pE rfl dc rfl rfl rfl rfl rfl rfl g0 (λv1=>jk 6 rfl (λhc ha=>?_))))))));subst ha;exact O 1 rfl (bC (cg (mD (ag++[(⟨#[]⟩:V)],hc) h 7)))
    exact dG (bS (bS (dH (cg (mD (ag,e7) h 7)))))
   exact O 4 rfl (Y (eU rfl (dG (bS (bS (dH (cg (mD (ag,e7) h 7))))))))
  refine I (O 1 rfl (aU h λq3 en h=>gm w en eo sA rfl dc rfl rfl rfl (ci uC rfl dc rfl (show _=(B+(0:Int).toNat)*2 from rfl) (km 0 (B+(0:Int).toNat) 0 q3 Q rfl z1 ed rfl dc rfl (cq w en) rfl rfl (fH (.agg #[zI 220,zI q3.at_]) [(0,.const (zI 220)),(1,.tmp 39)] rfl dc rfl (λ_=>by kernel_rfl) (fI 5 [zI 220,zI q3.at_] [zI 220,zI q3.at_] lR rfl rfl rfl rfl rfl (show _<=_ by simp) rfl rfl (Y (bO (cK (bZ ?_))))))))));cases h;exact eW [.cell 4 38] (_g,_c,_d,_f) (.inl rfl) iz (.cons (.cells my (k:=5) rfl rfl rfl) .nil) rfl (cO 5)
 rintro⟨g,p⟩ h;refine cJ Unit h 0 rfl (λj2 b=>j2=some r) (λb=>[]) (λb=>[(0,zP _p),(1,N),(4,zP b1),(6,p.v)]) (λb=>[cells _p [_g.v,.map (some (bc _c)),_d.v,_f.v] 86,bq _g.v o1.Units,dV (bc _c) o1.Fors,bq _d.v o1.Skips,bq _f.v o1.Lines,cells b1 [zI 0,zI 0] 38,bq p.v g]) (λj2 h cut=>?_) ?_
 ·refine cut (I (O 1 rfl (Y (ck (fP Int (CI o1 W g j2) (λa b=>a b=some r) (λb=>[]) (λb=>[(0,zP _p),(1,N),(4,zP b1),(5,zI ((W.length:Int)-1)),(6,p.v),(7,zI b)]) (λb=>[cells _p [_g.v,.map (some (bc _c)),_d.v,_f.v] 86,bq _g.v o1.Units,dV (bc _c) o1.Fors,bq _d.v o1.Skips,bq _f.v o1.Lines,cells b1 [zI 0,zI 0] 38,bq p.v g]) 0 h 7 (λhl M h=>cJ Unit h 0 rfl (λj3 b=>j3=some r) (λb=>[]) (λb=>[(0,zP _p),(1,N),(4,zP b1),(5,zI ((W.length:Int)-1)),(6,p.v),(7,zI M)]) (λb=>[cells _p [_g.v,.map (some (bc _c)),_d.v,_f.v] 86,bq _g.v o1.Units,dV (bc _c) o1.Fors,bq _d.v o1.Skips,bq _f.v o1.Lines,cells b1 [zI 0,zI 0] 38,bq p.v g]) (λj3 h cut=>cut (I (O 2 rfl (io 6 rfl dc rfl rfl ay (E rfl dL (O 1 rfl (du 66 rfl h (λh=>O 4 rfl (Y (jy rfl (bw (mD () h 7))))) (λh=>O 2 rfl (E rfl dL (O 1 rfl (Y (bu rfl h (λh=>bw (mD () h 7)) (λh=>dG (bS (bS (dH (mD () h 7))))))))))))))))) (λ_ h=>cJ (V×Bool×Bool×Bool) h 0 rfl (λj4 b=>j4 b.1 b.2.1 b.2.2.1 b.2.2.2=some r) (λb=>[]) (λb=>[(0,zP _p),(1,N),(4,zP b1),(5,zI ((W.length:Int)-1)),(6,p.v),(7,zI M),(77,zI M),(78,p.v),(79,zI (g.length:Int)),(80,.bool false),(83,p.v),(84,zI M),(85,.pointer (some ⟨eS p.v,(M:Int).toNat*1,none⟩)),(86,.string b.1),(87,.bool b.2.1),(88,.bool b.2.2.1),(99,.bool b.2.2.2)]) (λb=>[cells _p [_g.v,.map (some (bc _c)),_d.v,_f.v] 86,bq _g.v o1.Units,dV (bc _c) o1.Fors,bq _d.v o1.Skips,bq _f.v o1.Lines,cells b1 [zI 0,zI 0] 38,bq p.v g]) (λj4 h cut=>?_) ?_)))))))
  ·refine cut (ck (bV (wB (decide ((((W.length:Int)-1):Int)<=M)) (λa1=>?_) (λa1=>?_))))
   ·have h:=pY a1 h;refine jU 25 [(0,73,zI M),(1,74,zI ((W.length:Int)-1)),(2,75,.bool true),(3,76,.bool true),(4,77,undef),(5,78,undef),(6,79,undef),(7,80,undef),(8,81,.bool true),(9,82,.bool true),(10,83,undef),(11,84,undef),(12,85,undef),(13,86,undef),(14,87,undef),(15,88,undef),(16,89,undef),(17,90,undef),(18,91,undef),(19,92,undef),(20,93,undef),(21,94,undef),(22,95,undef),(23,96,undef),(24,97,undef)] mixed kr kr dc (by rfl) kr kr (gD 2 0 rfl (bQ (λD n d c u i=>jX rfl dc (aX 0 u d) (aX 1 u d) gw (qo (show ap (decide ((((W.length:Int)-1):Int)<=M))=ap true from aI ap a1) (bf 2 u i))) (gD 22 3 rfl bB))) (O 3 rfl (Y (jy rfl (I (O 3 rfl (Dt rfl dc rfl rfl (aU h λq4 eg h=>gm w eg eo sA rfl dc rfl rfl rfl (ci uC rfl dc rfl (show _=(B+(min M ((W.length:Int)-1):Int).toNat)*2 from rfl) (km 0 (B+(min M ((W.length:Int)-1):Int).toNat) 0 q4 Q rfl z1 ed rfl dc rfl (cq w eg) rfl rfl (fH (.agg #[zI 220,zI q4.at_]) [(0,.const (zI 220)),(1,.tmp 107)] rfl dc rfl (λ_=>by kernel_rfl) (fI 5 [zI 220,zI q4.at_] [zI 220,zI q4.at_] lR rfl rfl rfl rfl rfl (show _<=_ by simp) rfl rfl (Y (bO (cK (bZ (bZ (cK (bZ ?_))))))))))))))))));cases h;exact eW [.cell 4 38] (_g,_c,_d,_f) (.inl rfl) iz (.cons (.cells my (k:=5) rfl rfl rfl) .nil) rfl (cO 5)
   have h:=pZ a1 h;refine wB (decide (((g.length:Int):Int)<=M)) (λZ=>?_) (λZ=>?_)
   ·have h:=pY Z h;refine jU 25 [(0,73,zI M),(1,74,zI ((W.length:Int)-1)),(2,75,.bool false),(3,76,.bool false),(4,77,zI M),(5,78,p.v),(6,79,zI (g.length:Int)),(7,80,.bool true),(8,81,.bool true),(9,82,.bool true),(10,83,undef),(11,84,undef),(12,85,undef),(13,86,undef),(14,87,undef),(15,88,undef),(16,89,undef),(17,90,undef),(18,91,undef),(19,92,undef),(20,93,undef),(21,94,undef),(22,95,undef),(23,96,undef),(24,97,undef)] mixed kr kr dc (by rfl) kr kr (gD 2 0 rfl (bQ (λD n d c u i=>jX rfl dc (aX 0 u d) (aX 1 u d) gw (qo (show ap (decide ((((W.length:Int)-1):Int)<=M))=ap false from aI ap a1) (bf 2 u i))) (gD 3 3 rfl (bQ (λD n d c u i=>io 6 (me rfl (aX 3 u d)) dc (aX 5 u d) rfl ay (bf 6 u i)) (bQ (λD n d c u i=>jX (me rfl (aX 3 u d)) dc (aX 4 u d) (aX 6 u d) gw (qo (show ap (decide (((g.length:Int):Int)<=M))=ap true from aI ap Z) (bf 7 u i))) (gD 17 8 rfl bB)))))) (O 3 rfl (Y (jy rfl (I (O 3 rfl (Dt rfl dc rfl rfl (aU h λq5 ec h=>gm w ec eo sA rfl dc rfl rfl rfl (ci uC rfl dc rfl (show _=(B+(min M ((W.length:Int)-1):Int).toNat)*2 from rfl) (km 0 (B+(min M ((W.length:Int)-1):Int).toNat) 0 q5 Q rfl z1 ed rfl dc rfl (cq w ec) rfl rfl (fH (.agg #[zI 220,zI q5.at_]) [(0,.const (zI 220)),(1,.tmp 107)] rfl dc rfl (λ_=>by kernel_rfl) (fI 5 [zI 220,zI q5.at_] [zI 220,zI q5.at_] lR rfl rfl rfl rfl rfl (show _<=_ by simp) rfl rfl (Y (bO (cK (bZ (bZ (cK (bZ ?_))))))))))))))))));cases h;exact eW [.cell 4 38] (_g,_c,_d,_f) (.inl rfl) iz (.cons (.cells my (k:=5) rfl rfl rfl) .nil) rfl (cO 5)
   have h:=pZ Z h;refine aU h λq6 a5 h=>wB (!decide (q6=(⟨#[]⟩:V))) (λa0=>?_) (λa0=>?_)
   ·have h:=pY a0 h;refine aU h λq7 eb h=>jU 25 [(0,73,zI M),(1,74,zI ((W.length:Int)-1)),(2,75,.bool false),(3,76,.bool false),(4,77,zI M),(5,78,p.v),(6,79,zI (g.length:Int)),(7,80,.bool false),(8,81,.bool false),(9,82,.bool false),(10,83,p.v),(11,84,zI M),(12,85,.pointer (some ⟨eS p.v,(M:Int).toNat*1,none⟩)),(13,86,.string q6),(14,87,.bool true),(15,88,.bool true),(16,89,p.v),(17,90,zI M),(18,91,.pointer (some ⟨eS p.v,(M:Int).toNat*1,none⟩)),(19,92,.string q6),(20,93,N),(21,94,zI M),(22,95,.pointer (some ⟨eS a2,(B+(M:Int).toNat)*2,none⟩)),(23,96,.pointer (some ⟨eS a2,(B+(M:Int).toNat)*2+1,none⟩)),(24,97,.string q7.text)] mixed kr kr dc (by rfl) kr kr (gD 2 0 rfl (bQ (λD n d c u i=>jX rfl dc (aX 0 u d) (aX 1 u d) gw (qo (show ap (decide ((((W.length:Int)-1):Int)<=M))=ap false from aI ap a1) (bf 2 u i))) (gD 3 3 rfl (bQ (λD n d c u i=>io 6 (me rfl (aX 3 u d)) dc (aX 5 u d) rfl ay (bf 6 u i)) (bQ (λD n d c u i=>jX (me rfl (aX 3 u d)) dc (aX 4 u d) (aX 6 u d) gw (qo (show ap (decide (((g.length:Int):Int)<=M))=ap false from aI ap Z) (bf 7 u i))) (gD 4 8 rfl (bQ (λD n d c u i=>eN 6 a5 ay gV (me rfl (aX 9 u d)) dc (aX 10 u d) (aX 11 u d) rfl rfl (bf 12 u i)) (bQ (λD n d c u i=>fl 6 ((M:Int).toNat) 0 q6 eJ gG (me rfl (aX 9 u d)) dc (aX 12 u d) rfl (ei a5) rfl dc rfl (bf 13 u i)) (bQ (λD n d c u i=>jX (me rfl (aX 9 u d)) dc (aX 13 u d) rfl tF (qo (show ap (!decide (q6=(⟨#[]⟩:V)))=ap true from aI ap a0) (bf 14 u i))) (gD 3 15 rfl (bQ (λD n d c u i=>eN 6 a5 ay gV (me rfl (aX 15 u d)) dc (aX 16 u d) (aX 17 u d) rfl rfl (bf 18 u i)) (bQ (λD n d c u i=>fl 6 ((M:Int).toNat) 0 q6 eJ gG (me rfl (aX 15 u d)) dc (aX 18 u d) rfl (ei a5) rfl dc rfl (bf 19 u i)) (gD 2 20 rfl (bQ (λD n d c u i=>gm w eb eo sA (me rfl (aX 15 u d)) dc (aX 20 u d) (aX 21 u d) rfl (bf 22 u i)) (bQ (λD n d c u i=>ci GY (me rfl (aX 15 u d)) dc (aX 22 u d) (show _=(B+(M:Int).toNat)*2+1 from rfl) (bf 23 u i)) (bQ (λD n d c u i=>km 0 (B+(M:Int).toNat) 1 q7 Q rfl z1 eJ (me rfl (aX 15 u d)) dc (aX 23 u d) (cq w eb) rfl rfl (bf 24 u i)) bB)))))))))))))))) (E rfl tF (O 2 rfl (Y (bu rfl h (λh=>?_) (λh=>?_)))))
    ·refine I (O 3 rfl (Dt rfl dc rfl rfl (aU h λq8 d9 h=>gm w d9 eo sA rfl dc rfl rfl rfl (ci uC rfl dc rfl (show _=(B+(min M ((W.length:Int)-1):Int).toNat)*2 from rfl) (km 0 (B+(min M ((W.length:Int)-1):Int).toNat) 0 q8 Q rfl z1 ed rfl dc rfl (cq w d9) rfl rfl (fH (.agg #[zI 220,zI q8.at_]) [(0,.const (zI 220)),(1,.tmp 107)] rfl dc rfl (λ_=>by kernel_rfl) (fI 5 [zI 220,zI q8.at_] [zI 220,zI q8.at_] lR rfl rfl rfl rfl rfl (show _<=_ by simp) rfl rfl (Y (bO (cK (bZ (bZ (cK (bZ ?_))))))))))))));cases h;exact eW [.cell 4 38] (_g,_c,_d,_f) (.inl rfl) iz (.cons (.cells my (k:=5) rfl rfl rfl) .nil) rfl (cO 5)
    exact bw (cg (mD (q6,true,true,!decide (q6=q7.text)) h 7))
   have h:=pZ a0 h;exact jU 25 [(0,73,zI M),(1,74,zI ((W.length:Int)-1)),(2,75,.bool false),(3,76,.bool false),(4,77,zI M),(5,78,p.v),(6,79,zI (g.length:Int)),(7,80,.bool false),(8,81,.bool false),(9,82,.bool false),(10,83,p.v),(11,84,zI M),(12,85,.pointer (some ⟨eS p.v,(M:Int).toNat*1,none⟩)),(13,86,.string q6),(14,87,.bool false),(15,88,.bool false),(16,89,undef),(17,90,undef),(18,91,undef),(19,92,undef),(20,93,undef),(21,94,undef),(22,95,undef),(23,96,undef),(24,97,undef)] mixed kr kr dc (by rfl) kr kr (gD 2 0 rfl (bQ (λD n d c u i=>jX rfl dc (aX 0 u d) (aX 1 u d) gw (qo (show ap (decide ((((W.length:Int)-1):Int)<=M))=ap false from aI ap a1) (bf 2 u i))) (gD 3 3 rfl (bQ (λD n d c u i=>io 6 (me rfl (aX 3 u d)) dc (aX 5 u d) rfl ay (bf 6 u i)) (bQ (λD n d c u i=>jX (me rfl (aX 3 u d)) dc (aX 4 u d) (aX 6 u d) gw (qo (show ap (decide (((g.length:Int):Int)<=M))=ap false from aI ap Z) (bf 7 u i))) (gD 4 8 rfl (bQ (λD n d c u i=>eN 6 a5 ay gV (me rfl (aX 9 u d)) dc (aX 10 u d) (aX 11 u d) rfl rfl (bf 12 u i)) (bQ (λD n d c u i=>fl 6 ((M:Int).toNat) 0 q6 eJ gG (me rfl (aX 9 u d)) dc (aX 12 u d) rfl (ei a5) rfl dc rfl (bf 13 u i)) (bQ (λD n d c u i=>jX (me rfl (aX 9 u d)) dc (aX 13 u d) rfl tF (qo (show ap (!decide (q6=(⟨#[]⟩:V)))=ap false from aI ap a0) (bf 14 u i))) (gD 10 15 rfl bB)))))))))) (O 3 rfl (Y (eU rfl (bw (cg (mD (q6,false,false,false) h 7))))))
  rintro⟨x1,x2,x3,x4⟩ h;exact bX (O 1 rfl (bi h λgT h=>E rfl (c8 (M+1) (ac _ gT)) (O 1 rfl (bC (mD (M+1) h 7)))))
 refine λ_ h=>cJ ((List V)×V×Hd) h 2 rfl (λj5 b=>j5 b.1 b.2.1=some r) (λb=>[]) (λb=>[(0,zP _p),(1,N),(4,zP b1),(6,p.v),(8,b.2.2.v),(9,.string b.2.1)]) (λb=>[cells _p [_g.v,.map (some (bc _c)),_d.v,_f.v] 86,bq _g.v o1.Units,dV (bc _c) o1.Fors,bq _d.v o1.Skips,bq _f.v o1.Lines,cells b1 [zI 0,zI 0] 38,bq p.v g,bq b.2.2.v b.1]) (λj5 h cut=>?_) ?_
 ·refine I (O 1 rfl (cw (O 1 rfl (aU h λq9 d8 h=>eN 6 d8 ay gV rfl dc rfl rfl rfl rfl (fl 6 ((0:Int).toNat) 0 q9 eJ gG rfl dc rfl rfl (ei d8) rfl dc rfl (O 1 rfl (Y (cut (I (O 1 rfl (io 6 rfl dc rfl rfl ay (O 1 rfl (Y (ck (oL gK 9 1 (fP ((List V)×V×Int×Hd) (CJ o1 W g j5) (λa b=>a b.1 b.2.1 b.2.2.1=some r) (λb=>[]) (λb=>[(0,zP _p),(1,N),(4,zP b1),(6,p.v),(8,b.2.2.2.v),(9,.string b.2.1),(112,p.v),(113,zI (g.length:Int)),(114,zI b.2.2.1)]) (λb=>[cells _p [_g.v,.map (some (bc _c)),_d.v,_f.v] 86,bq _g.v o1.Units,dV (bc _c) o1.Fors,bq _d.v o1.Skips,bq _f.v o1.Lines,cells b1 [zI 0,zI 0] 38,bq p.v g,bq b.2.2.2.v b.1]) (([]:List V),q9,0,fe) h 8 ?_))))))))))))))));rintro hk ⟨X,ao,x7,hb⟩ h;refine I (E rfl dL (Y (bV (bu rfl h (λh=>?_) (λh=>?_)))))
  ·refine bw (cu (cJ ((List V)×V×Hd) h 0 rfl (λj6 b=>j6 b.1 b.2.1=some r) (λb=>[]) (λb=>[(0,zP _p),(1,N),(4,zP b1),(6,p.v),(8,b.2.2.v),(9,.string b.2.1),(112,p.v),(113,zI (g.length:Int)),(114,zI x7)]) (λb=>[cells _p [_g.v,.map (some (bc _c)),_d.v,_f.v] 86,bq _g.v o1.Units,dV (bc _c) o1.Fors,bq _d.v o1.Skips,bq _f.v o1.Lines,cells b1 [zI 0,zI 0] 38,bq p.v g,bq b.2.2.v b.1]) (λj6 h cut=>?_) ?_))
   ·refine cut (ck (I (O 1 rfl (aU h λf9 dj h=>eN 6 dj ay gV rfl dc rfl rfl rfl rfl (fl 6 ((x7:Int).toNat) 0 f9 eJ gG rfl dc rfl rfl (ei dj) rfl dc rfl (O 2 rfl (Y (bV (I (O 1 rfl (E rfl tF (Y (bu rfl h (λh=>?_) (λh=>?_))))))))))))))
    ·refine cJ (V×Hd) h 1 rfl (λj7 b=>j7 b.1=some r) (λb=>[]) (λb=>[(0,zP _p),(1,N),(4,zP b1),(6,p.v),(8,b.2.v),(9,.string b.1),(112,p.v),(113,zI (g.length:Int)),(114,zI x7)]) (λb=>[cells _p [_g.v,.map (some (bc _c)),_d.v,_f.v] 86,bq _g.v o1.Units,dV (bc _c) o1.Fors,bq _d.v o1.Skips,bq _f.v o1.Lines,cells b1 [zI 0,zI 0] 38,bq p.v g,bq b.2.v (X++[(⟨#[]⟩:V)])]) (λj7 h cut=>?_) ?_
     ·refine I (O 1 rfl (hQ [(0,.const (.string (⟨#[]⟩:V)))] 9 [.string (⟨#[]⟩:V)] rfl dc rfl (λ_=>by kernel_rfl) (λb6=>bi h λgF h=>jJ 7 8 [(⟨#[]⟩:V)] ay oR gG pE rfl dc rfl rfl rfl rfl rfl rfl gF (λv2=>jk 7 rfl (λdz g9=>?_)))));subst g9;exact O 1 rfl (Y (cut (I (O 1 rfl (E rfl mf (Y (bu rfl h (λh=>bX (O 1 rfl (bi h λgB h=>E rfl (ni gB) (O 1 rfl (bC (mD (ao++(⟨#[32,97,102,116,101,114]⟩:V),dz) h 8)))))) (λh=>bw (mD (ao,dz) h 8)))))))))
     rintro⟨dT,fd⟩ h;exact dG (bS (dH (mD (X++[(⟨#[]⟩:V)],dT,fd) h 8)))
    refine bw (cu (I (O 2 rfl (aU h λd4 di h=>gm w di eo sA rfl dc rfl rfl rfl (ci GY rfl dc rfl (show _=(B+(x7:Int).toNat)*2+1 from rfl) (km 0 (B+(x7:Int).toNat) 1 d4 Q rfl z1 eJ rfl dc rfl (cq w di) rfl rfl (aU h λr1 ez h=>dF (.string r1) [.string d4.text] rfl dc rfl rfl rfl Tu (ZA ez) (O 1 rfl (Y (bV (I (O 1 rfl (E rfl mf (Y (bu rfl h (λh=>?_) (λh=>?_))))))))))))))))
    ·refine I (O 2 rfl (aU h λbb dg h=>gm w dg eo sA rfl dc rfl rfl rfl (ci uC rfl dc rfl (show _=(B+(x7:Int).toNat)*2 from rfl) (km 0 (B+(x7:Int).toNat) 0 bb Q rfl z1 ed rfl dc rfl (cq w dg) rfl rfl (fH (.agg #[zI 221,zI bb.at_]) [(0,.const (zI 221)),(1,.tmp 140)] rfl dc rfl (λ_=>by kernel_rfl) (fI 5 [zI 221,zI bb.at_] [zI 221,zI bb.at_] lR rfl rfl rfl rfl rfl (show _<=_ by simp) rfl rfl (Y (bO (bZ (cK (bZ (bZ (cK (bZ ?_))))))))))))));cases h;exact eW [.cell 4 38] (_g,_c,_d,_f) (.inl rfl) iz (.cons (.cells my (k:=5) rfl rfl rfl) .nil) rfl (cO 5)
    refine bw (cu (I (O 2 rfl (hQ [(0,.tmp 143)] 9 [.string r1] rfl dc rfl (λ_=>by kernel_rfl) (λb7=>bi h λgz h=>jJ 7 8 [r1] ay oR gG pE rfl dc rfl rfl rfl rfl rfl rfl gz (λv3=>jk 7 rfl (λe9 g8=>?_)))))));subst g8;exact O 1 rfl (Y (bX (O 2 rfl (aU h λr2 ey h=>dF (.string r2) [.string r1] rfl dc rfl rfl rfl Tv (W9 ey) (bi h λgy h=>E rfl (ni gy) (bi h λgx h=>E rfl (ni gx) (O 1 rfl (bC (cg (mD (X++[r1],ao++((⟨#[32]⟩:V)++r2),e9) h 8))))))))))
   rintro⟨bh,dX,fk⟩ h;exact bX (bi h λgt h=>E rfl (c8 (x7+1) (ac _ gt)) (O 1 rfl (bC (mD (bh,dX,x7+1,fk) h 8))))
  exact dG (bS (bS (dH (mD (X,ao,hb) h 8))))
 rintro⟨l,J,S⟩ h;refine cJ Unit h 0 rfl (λj8 b=>j8=some r) (λb=>[]) (λb=>[(0,zP _p),(1,N),(4,zP b1),(6,p.v),(8,S.v),(9,.string J)]) (λb=>[cells _p [_g.v,.map (some (bc _c)),_d.v,_f.v] 86,bq _g.v o1.Units,dV (bc _c) o1.Fors,bq _d.v o1.Skips,bq _f.v o1.Lines,cells b1 [zI 0,zI 0] 38,bq p.v g,bq S.v l]) (λj8 h cut=>?_) ?_
 ·refine cut (I (O 1 rfl (aU h λf8 df h=>eN 6 df ay gV rfl dc rfl rfl rfl rfl (fl 6 ((0:Int).toNat) 0 f8 eJ gG rfl dc rfl rfl (ei df) rfl dc rfl (E rfl mf (Y (bu rfl h (λh=>?_) (λh=>?_))))))))
  ·refine cJ V h 1 rfl (λj9 b=>j9 b=some r) (λb=>[]) (λb=>[(0,zP _p),(4,zP b1),(9,.string J),(13,.string b)]) (λb=>[cells _p [_g.v,.map (some (bc _c)),_d.v,_f.v] 86,bq _g.v o1.Units,dV (bc _c) o1.Fors,bq _d.v o1.Skips,bq _f.v o1.Lines,cells b1 [zI 0,zI 0] 38]) (λj9 h cut=>?_) ?_
   ·refine I (O 1 rfl (aU h λd3 dd h=>eN 7 dd ay gV rfl dc rfl rfl rfl rfl (fl 7 ((1:Int).toNat) 0 d3 eJ gG rfl dc rfl rfl (ei dd) rfl dc rfl (aU h λr3 ex h=>dF (.string r3) [.string d3] rfl dc rfl rfl rfl DQ (Et ex) (O 1 rfl (Y (cut (I (O 1 rfl (iS rfl dc rfl (ci DH rfl dc rfl (show _=2 from rfl) (bW 0 oS rfl dc rfl rfl rfl (io 3 rfl dc rfl rfl ay (O 1 rfl (bC (cu (ck (fP Int (CK o1 W j9 r3) (λa b=>a b=some r) (λb=>[]) (λb=>[(0,zP _p),(1,N),(4,zP b1),(9,.string J),(13,.string r3),(163,_d.v),(164,zI (o1.Skips.length:Int)),(165,zI b)]) (λb=>[cells _p [_g.v,.map (some (bc _c)),_d.v,_f.v] 86,bq _g.v o1.Units,dV (bc _c) o1.Fors,bq _d.v o1.Skips,bq _f.v o1.Lines,cells b1 [zI 0,zI 0] 38]) 0 h 6 (λhj dA h=>I (E rfl dL (Y (bV (bu rfl h (λh=>?_) (λh=>?_))))))))))))))))))))))))
    ·refine bw (cu (bV (ck (I (aU h λf7 c5 h=>eN 3 c5 ay gV rfl dc rfl rfl rfl rfl (fl 3 ((dA:Int).toNat) 0 f7 eJ gG rfl dc rfl rfl (ei c5) rfl dc rfl (O 1 rfl (cw (O 2 rfl (E rfl mf (Y (bu rfl h (λh=>?_) (λh=>?_)))))))))))))
     ·refine I (O 1 rfl (aU h λa9 c4 h=>gm w c4 eo sA rfl dc rfl rfl rfl (ci uC rfl dc rfl (show _=(B+(1:Int).toNat)*2 from rfl) (km 0 (B+(1:Int).toNat) 0 a9 Q rfl z1 ed rfl dc rfl (cq w c4) rfl rfl (fH (.agg #[zI 222,zI a9.at_]) [(0,.const (zI 222)),(1,.tmp 175)] rfl dc rfl (λ_=>by kernel_rfl) (fI 5 [zI 222,zI a9.at_] [zI 222,zI a9.at_] lR rfl rfl rfl rfl rfl (show _<=_ by simp) rfl rfl (Y (bO (cK (bZ (bZ (cK (bZ (bZ ?_))))))))))))));cases h;exact eW [.cell 4 38] (_g,_c,_d,_f) (.inl rfl) iz (.cons (.cells my (k:=5) rfl rfl rfl) .nil) rfl (cO 5)
     exact bw (cg (cu (bX (bi h λe6 h=>E rfl (c8 (dA+1) (ac _ e6)) (O 1 rfl (bC (mD (dA+1) h 6)))))))
    exact dG (bS (bS (dH (mD r3 h 6))))
   refine λfold1 h=>I (O 2 rfl (iS rfl dc rfl (ci DH rfl dc rfl (show _=2 from rfl) (bW 0 oS rfl dc rfl rfl rfl (O 1 rfl (hQ [(0,.tmp 183)] 9 [.string fold1] rfl dc rfl (λ_=>by kernel_rfl) (λb8=>bi h λe5 h=>jJ 3 6 [fold1] ay oR gG pE rfl dc rfl rfl rfl rfl rfl rfl e5 (λv4=>jk 3 rfl (λa6 g7=>?_)))))))));subst g7;refine iS rfl dc rfl (ci DH rfl dc rfl (show _=2 from rfl) (fJ 0 [_g.v,.map (some (bc _c)),a6.v,_f.v] uz rfl rfl rfl rfl rfl (λ_ _=>rfl) rfl (cw (O 2 rfl (iS rfl dc rfl (ci Ao rfl dc rfl (show _=3 from rfl) (bW 0 oS rfl dc rfl rfl rfl (O 1 rfl (hQ [(0,.tmp 193)] 9 [.string J] rfl dc rfl (λ_=>by kernel_rfl) (λb9=>bi h λe4 h=>jJ 4 7 [J] ay oR gG pE rfl dc rfl rfl rfl rfl rfl rfl e4 (λv5=>jk 4 rfl (λdw g6=>?_))))))))))));subst g6;refine iS rfl dc rfl (ci Ao rfl dc rfl (show _=3 from rfl) (fJ 0 [_g.v,.map (some (bc _c)),a6.v,dw.v] uz rfl rfl rfl rfl rfl (λ_ _=>rfl) rfl (cw (fH (.agg #[zI 0,zI 0]) [] rfl dc rfl (λ_=>by kernel_rfl) (fI 5 [zI 0,zI 0] [zI 0,zI 0] lR rfl rfl rfl rfl rfl (show _<=_ by simp) rfl rfl (Y (bO (bZ ?_))))))));cases h;exact eW [.cell 4 38] (_g,_c,a6,dw) (.inl rfl) iz (.cons (.cells my (k:=5) rfl rfl rfl) .nil) rfl (cO 5)
  exact bw (mD () h 8)
 refine λ_ h=>bV (I (O 2 rfl (aU h λd2 c3 h=>eN 7 c3 ay gV rfl dc rfl rfl rfl rfl (fl 7 ((1:Int).toNat) 0 d2 eJ gG rfl dc rfl rfl (ei c3) rfl dc rfl (aU h λr4 es h=>kZ (.bool r4) [zP _p,.string d2] Q rfl dc rfl rfl rfl Mg (PY _p o1 _g _c _d _f es) (.own (cO 1) (λ_ _ h=>aL.1 h) (.own (ct [1] kr rfl) (λ_ _ h=>aL.1 h) (.own (ct [2] kr rfl) (λ_ _ h=>aL.1 h) (.own (ct [3] kr rfl) (λ_ _ h=>aL.1 h) (.own (ct [4] kr rfl) (λ_ _ h=>aL.1 h) .nil))))) (Y (bu rfl h (λh=>?_) (λh=>?_))))))))
 ·refine I (O 1 rfl (aU h λa8 c2 h=>gm w c2 eo sA rfl dc rfl rfl rfl (ci uC rfl dc rfl (show _=(B+(1:Int).toNat)*2 from rfl) (km 0 (B+(1:Int).toNat) 0 a8 Q rfl z1 ed rfl dc rfl (cq w c2) rfl rfl (fH (.agg #[zI 222,zI a8.at_]) [(0,.const (zI 222)),(1,.tmp 207)] rfl dc rfl (λ_=>by kernel_rfl) (fI 5 [zI 222,zI a8.at_] [zI 222,zI a8.at_] lR rfl rfl rfl rfl rfl (show _<=_ by simp) rfl rfl (Y (bO (bZ ?_)))))))));cases h;exact eW [.cell 4 38] (_g,_c,_d,_f) (.inl rfl) iz (.cons (.cells my (k:=5) rfl rfl rfl) .nil) rfl (cO 5)
 refine bw (cu (cJ Unit h 0 rfl (λdY b=>dY=some r) (λb=>[]) (λb=>[(0,zP _p),(4,zP b1),(6,p.v),(8,S.v),(9,.string J)]) (λb=>[cells _p [_g.v,.map (some (bc _c)),_d.v,_f.v] 86,bq _g.v o1.Units,dV (bc _c) o1.Fors,bq _d.v o1.Skips,bq _f.v o1.Lines,cells b1 [zI 0,zI 0] 38,bq p.v g,bq S.v l]) (λdY h cut=>?_) ?_))
 ·refine cut (I (O 1 rfl (Y (ck (fP Int (CL o1 W g l dY) (λa b=>a b=some r) (λb=>[]) (λb=>[(0,zP _p),(1,N),(4,zP b1),(6,p.v),(8,S.v),(9,.string J),(16,zI b)]) (λb=>[cells _p [_g.v,.map (some (bc _c)),_d.v,_f.v] 86,bq _g.v o1.Units,dV (bc _c) o1.Fors,bq _d.v o1.Skips,bq _f.v o1.Lines,cells b1 [zI 0,zI 0] 38,bq p.v g,bq S.v l]) 2 h 8 (λhh i6 h=>bV (I (O 2 rfl (io 7 rfl dc rfl rfl ay (E rfl dL (Y (bu rfl h (λh=>?_) (λh=>?_)))))))))))))
  ·refine bw (cu (cJ Unit h 0 rfl (λd6 b=>d6=some r) (λb=>[]) (λb=>[(0,zP _p),(1,N),(4,zP b1),(6,p.v),(8,S.v),(9,.string J),(16,zI i6)]) (λb=>[cells _p [_g.v,.map (some (bc _c)),_d.v,_f.v] 86,bq _g.v o1.Units,dV (bc _c) o1.Fors,bq _d.v o1.Skips,bq _f.v o1.Lines,cells b1 [zI 0,zI 0] 38,bq p.v g,bq S.v l]) (λd6 h cut=>?_) ?_))
   ·refine cut (ck (I (O 2 rfl (aU h λf6 c0 h=>eN 6 c0 ay gV rfl dc rfl rfl rfl rfl (fl 6 ((i6:Int).toNat) 0 f6 eJ gG rfl dc rfl rfl (ei c0) rfl dc rfl (E rfl mf (O 1 rfl (du 220 rfl h (λh=>?_) (λh=>?_)))))))))
    ·refine O 3 rfl (aU h λd1 cv h=>eN 7 cv ay gV rfl dc rfl rfl rfl rfl (fl 7 ((i6:Int).toNat) 0 d1 eJ gG rfl dc rfl rfl (ei cv) rfl dc rfl (aU h λr5 eq h=>kZ (zI r5) [zP _p,.string d1] Q rfl dc rfl rfl rfl Av (Cs _p o1 _g _c _d _f eq) (.own (cO 1) (λ_ _ h=>aL.1 h) (.own (ct [1] kr rfl) (λ_ _ h=>aL.1 h) (.own (ct [2] kr rfl) (λ_ _ h=>aL.1 h) (.own (ct [3] kr rfl) (λ_ _ h=>aL.1 h) (.own (ct [4] kr rfl) (λ_ _ h=>aL.1 h) .nil))))) (E rfl dL (O 1 rfl (Y (bu rfl h (λh=>?_) (λh=>?_))))))))
     ·refine I (O 2 rfl (aU h λa7 ch h=>gm w ch eo sA rfl dc rfl rfl rfl (ci uC rfl dc rfl (show _=(B+(i6:Int).toNat)*2 from rfl) (km 0 (B+(i6:Int).toNat) 0 a7 Q rfl z1 ed rfl dc rfl (cq w ch) rfl rfl (fH (.agg #[zI 223,zI a7.at_]) [(0,.const (zI 223)),(1,.tmp 233)] rfl dc rfl (λ_=>by kernel_rfl) (fI 5 [zI 223,zI a7.at_] [zI 223,zI a7.at_] lR rfl rfl rfl rfl rfl (show _<=_ by simp) rfl rfl (Y (bO (cK (bZ (bZ (cK (bZ ?_)))))))))))));cases h;exact eW [.cell 4 38] (_g,_c,_d,_f) (.inl rfl) iz (.cons (.cells my (k:=5) rfl rfl rfl) .nil) rfl (cO 5)
     exact bw (cg (mD () h 8))
    exact O 8 rfl (Y (eU rfl (bw (cg (mD () h 8)))))
   exact λ_ h=>bX (O 1 rfl (bi h λe3 h=>E rfl (c8 (i6+1) (ac _ e3)) (O 1 rfl (bC (mD (i6+1) h 8)))))
  exact dG (bS (bS (dH (mD () h 8))))
 refine λ_ h=>cJ ((List V)×(List (V×List V))×Hd) h 0 rfl (λd5 b=>d5 b.1 b.2.1=some r) (λb=>[]) (λb=>[(0,zP _p),(4,zP b1),(9,.string J)]) (λb=>[cells _p [b.2.2.v,.map (some (bc _c)),_d.v,_f.v] 86,bq b.2.2.v b.1,dV (bc _c) b.2.1,bq _d.v o1.Skips,bq _f.v o1.Lines,cells b1 [zI 0,zI 0] 38]) (λd5 h cut=>?_) ?_
 ·refine cut (I (O 1 rfl (aU h λf5 cc h=>eN 6 cc ay gV rfl dc rfl rfl rfl rfl (fl 6 ((0:Int).toNat) 0 f5 eJ gG rfl dc rfl rfl (ei cc) rfl dc rfl (E rfl mf (Y (bu rfl h (λh=>?_) (λh=>?_))))))))
  ·refine aU h λa4 b0 h=>bi h λe2 h=>Do (k:=7) rfl (λgb=>?_);obtain⟨v6,d7,gr⟩:=pf (some (zI 2)) none gb ay gV (.inr rfl) (.inl ⟨rfl,rfl⟩) e2;refine jU 9 [(0,239,zP _p),(1,240,zP _p),(2,241,.pointer (some ⟨_p,1,none⟩)),(3,242,.map (some (bc _c))),(4,243,S.v),(5,244,.pointer (some ⟨eS S.v,(1:Int).toNat*1,none⟩)),(6,245,.string a4),(7,246,S.v),(8,247,v6)] mixed kr kr dc (by rfl) kr kr (gD 1 0 rfl (bQ (λD n d c u i=>iS rfl dc (aX 0 u d) (bf 1 u i)) (bQ (λD n d c u i=>ci GV rfl dc (aX 1 u d) (show _=1 from rfl) (bf 2 u i)) (bQ (λD n d c u i=>bW 0 yb rfl dc (aX 2 u d) rfl rfl (bf 3 u i)) (gD 1 4 rfl (bQ (λD n d c u i=>eN 7 b0 ay gV rfl dc (aX 4 u d) rfl rfl rfl (bf 5 u i)) (bQ (λD n d c u i=>fl 7 ((1:Int).toNat) 0 a4 eJ gG rfl dc (aX 5 u d) rfl (ei b0) rfl dc rfl (bf 6 u i)) (gD 1 7 rfl (bQ (λD n d c u i=>jj rfl dc (aX 7 u d) (evO.some rfl) z6 gr (bf 8 u i)) bB))))))))) ?_;obtain⟨a3,e8⟩:=Vw.head d7;have gs:=h;subst e8;have h:=gs;exact wC [dV (bc _c) o1.Fors] (ct [2] kr rfl) Lw (λfs fn=>xW 8 (λs:V=>ad s) rA a4 (ee l 2 (l.length:Int),a3) (ou am) underlying66 rfl rfl rfl rfl rfl (su 7 rfl (MV gG d7) (wC [rB (bc _c) (jm a4 (ee l 2 (l.length:Int),a3) fs),qY fs,nO gK 1 a3 (ee l 2 (l.length:Int))] (ct [8,9,7] kr rfl) (Ly a4 (ee l 2 (l.length:Int)) a3 fn) (λ_ _=>bC (iW (o1.Units,jm a4 (ee l 2 (l.length:Int)) o1.Fors,_g) h rfl (gl rfl) (ct [0,1,10,3,4,5] kr rfl))))))
  refine I (O 2 rfl (aU h λd0 bs h=>eN 7 bs ay gV rfl dc rfl rfl rfl rfl (fl 7 ((3:Int).toNat) 0 d0 eJ gG rfl dc rfl rfl (ei bs) rfl dc rfl (aU h λr6 em h=>kZ (zI r6) [zP _p,.string d0] Q rfl dc rfl rfl rfl Av (Cs _p o1 _g _c _d _f em) (.own (cO 1) (λ_ _ h=>aL.1 h) (.own (ct [1] kr rfl) (λ_ _ h=>aL.1 h) (.own (ct [2] kr rfl) (λ_ _ h=>aL.1 h) (.own (ct [3] kr rfl) (λ_ _ h=>aL.1 h) (.own (ct [4] kr rfl) (λ_ _ h=>aL.1 h) .nil))))) (bi h λe1 h=>E rfl (c8 (r6+1) (ac _ e1)) (O 1 rfl (Y (bi h λe0 h=>bi h λeY h=>aU h λaw bk h=>bi h λeX h=>bi h λeM h=>bi h λeL h=>Do (k:=1) rfl (λhw2=>?_)))))))));obtain⟨v7,ge,go⟩:=pf none (some (zI (r6+1))) hw2 ay gV (.inl ⟨rfl,rfl⟩) (.inr rfl) e0;refine Do (k:=1) rfl (λga=>?_);obtain⟨f4,gc,gf⟩:=pf (some (zI (r6+1))) none ga ay gV (.inr rfl) (.inl ⟨rfl,rfl⟩) eM;refine xQ 2 (let dB:(Nat×Hd×Nat×Hd×Hd)->List (Nat×Nat×Value):=λb=>[(0,254,zP _p),(1,255,.slice (some ⟨b.1,0,none⟩) 0 0),(2,256,zP _p),(3,257,zP _p),(4,258,zP _p),(5,259,_g.v),(6,260,zI (r6+1)),(7,261,v7),(8,262,b.2.1.v),(9,263,S.v),(10,264,.pointer (some ⟨eS S.v,(1:Int).toNat*1,none⟩)),(11,265,.string aw),(12,266,.slice (some ⟨b.2.2.1,0,none⟩) 1 1),(13,267,b.2.2.2.1.v),(14,268,zP _p),(15,269,zP _p),(16,270,zP _p),(17,271,_g.v),(18,272,zI (r6+1)),(19,273,f4),(20,274,b.2.2.2.2.v)];let ft:(Nat->Prop)->(Nat×Hd×Nat×Hd×Hd)->List bG:=λD b=>[cells _p [_g.v,.map (some (bc _c)),_d.v,_f.v] 86,bq _g.v o1.Units,dV (bc _c) o1.Fors,bq _d.v o1.Skips,bq _f.v o1.Lines,cells b1 [zI 0,zI 0] 38,bq p.v g,bq S.v l,eD D cT [(20,bq b.2.2.2.2.v (((([]:List V)++(ee o1.Units 0 (r6+1)))++[aw])++(ee o1.Units (r6+1) (o1.Units.length:Int)))),(13,bq b.2.2.2.1.v ((([]:List V)++(ee o1.Units 0 (r6+1)))++[aw])),(8,bq b.2.1.v (([]:List V)++(ee o1.Units 0 (r6+1)))),(1,cells b.1 [] 9)],eD D cT [(12,cells b.2.2.1 [.string aw] 9)]];?_);have P:vI [1,8,12,13,20] ft:=λi h D b=>cz rfl (cz rfl (cz rfl (cz rfl (cz rfl (cz rfl (cz rfl (cz rfl (cz (th rfl h) (cz (th rfl h) rfl)))))))));refine xP (Nat×Hd×Nat×Hd×Hd) 21 ((0:Nat),fe,(0:Nat),fe,fe) dB ft mixed kr kr dc (λ_=>rfl) (pK (cz qE (cz qE rfl))) (rI P (λ_=>rfl) (λ_=>rfl) 1 0 (λ_=>rfl) rfl (nl ?_ (rI P (λ_=>rfl) (λ_=>rfl) 1 2 (λ_=>rfl) rfl (ti P rfl (λ_=>rfl) (λ_=>rfl) (λD ⟨F,y,C,x,t⟩ n d c u i=>iS rfl dc (aX 2 u d) (bf 3 u i)) (ti P rfl (λ_=>rfl) (λ_=>rfl) (λD ⟨F,y,C,x,t⟩ n d c u i=>ci ye rfl dc (aX 3 u d) (show _=0 from rfl) (bf 4 u i)) (np P rfl (λ_=>rfl) (λ_=>rfl) (λD ⟨F,y,C,x,t⟩ n d c u i=>⟨_,(pK (cz (eH (λz=>n (c 7 _ rfl (c 8 _ rfl (c 13 _ rfl (c 20 _ rfl z 13 dc) 8 dc) 7 dc) 5 dc)) (eH (λz=>n (c 7 _ rfl (c 8 _ rfl (c 13 _ rfl z 8 dc) 7 dc) 5 dc)) (eH (λz=>n (c 7 _ rfl (c 8 _ rfl z 7 dc) 5 dc)) rfl))) rfl)),bW 0 oS rfl dc (aX 4 u d) rfl rfl (bf 5 u i)⟩) (rI P (λ_=>rfl) (λ_=>rfl) 1 6 (λ_=>rfl) rfl (np P rfl (λ_=>rfl) (λ_=>rfl) (λD ⟨F,y,C,x,t⟩ n d c u i=>⟨_,(pK (cz (eH (λz=>n (c 8 _ rfl (c 13 _ rfl (c 20 _ rfl z 13 dc) 8 dc) 7 dc)) (eH (λz=>n (c 8 _ rfl (c 13 _ rfl z 8 dc) 7 dc)) (eH (λz=>n (c 8 _ rfl z 7 dc)) rfl))) rfl)),jj rfl dc (aX 5 u d) z6 (evO.some (aX 6 u d)) go (bf 7 u i)⟩) (nl ?_ (rI P (λ_=>rfl) (λ_=>rfl) 1 9 (λ_=>rfl) rfl (np P rfl (λ_=>rfl) (λ_=>rfl) (λD ⟨F,y,C,x,t⟩ n d c u i=>⟨_,(pK (cz (eH (λz=>n (c 11 _ rfl (c 12 _ rfl (c 13 _ rfl (c 20 _ rfl z 13 dc) 12 dc) 11 dc) 10 dc)) (eH (λz=>n (c 11 _ rfl (c 12 _ rfl (c 13 _ rfl z 12 dc) 11 dc) 10 dc)) rfl)) (cz (eH (λz=>n (c 11 _ rfl (c 12 _ rfl z 11 dc) 10 dc)) gp) rfl))),eN 7 bk ay gV rfl dc (aX 9 u d) rfl rfl rfl (bf 10 u i)⟩) (np P rfl (λ_=>rfl) (λ_=>rfl) (λD ⟨F,y,C,x,t⟩ n d c u i=>⟨_,(pK (cz (eH (λz=>n (c 12 _ rfl (c 13 _ rfl (c 20 _ rfl z 13 dc) 12 dc) 11 dc)) (eH (λz=>n (c 12 _ rfl (c 13 _ rfl z 12 dc) 11 dc)) rfl)) (cz (eH (λz=>n (c 12 _ rfl z 11 dc)) gp) rfl))),fl 7 ((1:Int).toNat) 0 aw eJ gG rfl dc (aX 10 u d) rfl (ei bk) rfl dc rfl (bf 11 u i)⟩) (nl ?_ (nl ?_ (rI P (λ_=>rfl) (λ_=>rfl) 1 14 (λ_=>rfl) rfl (ti P rfl (λ_=>rfl) (λ_=>rfl) (λD ⟨F,y,C,x,t⟩ n d c u i=>iS rfl dc (aX 14 u d) (bf 15 u i)) (ti P rfl (λ_=>rfl) (λ_=>rfl) (λD ⟨F,y,C,x,t⟩ n d c u i=>ci ye rfl dc (aX 15 u d) (show _=0 from rfl) (bf 16 u i)) (np P rfl (λ_=>rfl) (λ_=>rfl) (λD ⟨F,y,C,x,t⟩ n d c u i=>⟨_,(pK (cz (eH (λz=>n (c 19 _ rfl (c 20 _ rfl z 19 dc) 17 dc)) rfl) rfl)),bW 0 oS rfl dc (aX 16 u d) rfl rfl (bf 17 u i)⟩) (rI P (λ_=>rfl) (λ_=>rfl) 1 18 (λ_=>rfl) rfl (np P rfl (λ_=>rfl) (λ_=>rfl) (λD ⟨F,y,C,x,t⟩ n d c u i=>⟨_,(pK (cz (eH (λz=>n (c 20 _ rfl z 19 dc)) rfl) rfl)),jj rfl dc (aX 17 u d) (evO.some (aX 18 u d)) z6 gf (bf 19 u i)⟩) (nl ?_ gC.nil))))))))))))))))))))) ?_
  ·intro D b R hd A;obtain⟨f3,y,C,x,t⟩:=b;exact lQ (pK (cz (eH (λz=>R (A 8 _ rfl (A 13 _ rfl (A 20 _ rfl z 13 dc) 8 dc) 1 dc)) (eH (λz=>R (A 8 _ rfl (A 13 _ rfl z 8 dc) 1 dc)) (eH (λz=>R (A 8 _ rfl z 1 dc)) (eH R gp)))) rfl)) (hQ [] 9 [] rfl dc evP.nil (λ_=>by kernel_rfl) (λF=>rv 8 rfl rfl (nB (f3,y,C,x,t) (F,y,C,x,t) 1 (by rfl) (by rfl) rfl (eT (λ_=>rfl) (eT (λz=>absurd z R) (HE (wS rfl)))) (pK (cz (eH (λh=>h.elim (λz=>R (A 8 _ rfl (A 13 _ rfl (A 20 _ rfl z 13 dc) 8 dc) 1 dc)) (λh=>absurd h dc)) (eH (λh=>h.elim (λz=>R (A 8 _ rfl (A 13 _ rfl z 8 dc) 1 dc)) (λh=>absurd h dc)) (eH (λh=>h.elim (λz=>R (A 8 _ rfl z 1 dc)) (λh=>absurd h dc)) (jv (kv rfl) rfl)))) (cz (jA (by rfl)) rfl))))))
  ·intro D b R hd A;obtain⟨F,f2,C,x,t⟩:=b;refine lQ (pK (cz (eH (λz=>R (A 13 _ rfl (A 20 _ rfl z 13 dc) 8 dc)) (eH (λz=>R (A 13 _ rfl z 8 dc)) (eH R (jv (hd 1 dc) rfl)))) rfl)) (pd 8 ([]:List V) rfl gG rfl (show 0<=maxLen by decide) (Dv 8 1 ay oR gG pE ge rfl dc (jY 1 rfl rfl (hd 1 dc)) (jY 7 rfl rfl (hd 7 dc)) rfl rfl eY (λv8=>jk 8 rfl (λy g5=>?_))));subst g5;exact nB (F,f2,C,x,t) (F,y,C,x,t) 8 (by rfl) (by rfl) rfl (HF (eT (λz=>absurd z R) (wS rfl))) (pK (cz (eH (λh=>h.elim (λz=>R (A 13 _ rfl (A 20 _ rfl z 13 dc) 8 dc)) (λh=>absurd h dc)) (eH (λh=>h.elim (λz=>R (A 13 _ rfl z 8 dc)) (λh=>absurd h dc)) (jv (kv rfl) rfl))) (cz (jA (by rfl)) rfl)))
  ·intro D b R hd A;obtain⟨F,y,f1,x,t⟩:=b;exact lQ (pK (cz (eH (λz=>R (A 13 _ rfl (A 20 _ rfl z 13 dc) 12 dc)) (eH (λz=>R (A 13 _ rfl z 12 dc)) rfl)) (cz (eH R gp) rfl))) (hQ [(0,.tmp 265)] 9 [.string aw] rfl dc (evP.cons (jY 11 rfl rfl (hd 11 dc)) evP.nil) (λ_=>by kernel_rfl) (λC=>rv 9 rfl rfl (nB (F,y,f1,x,t) (F,y,C,x,t) 12 (by rfl) (by rfl) rfl (wS (eT (λz=>absurd z R) (HF rfl))) (pK (cz ((jA (by rfl)).trans (eH (λz=>R (A 13 _ rfl (A 20 _ rfl z 13 dc) 12 dc)) (eH (λz=>R (A 13 _ rfl z 12 dc)) rfl))) (cz (jv (kv rfl) rfl) rfl))))))
  ·intro D b R hd A;obtain⟨F,y,C,f0,t⟩:=b;refine lQ (pK (cz (eH (λz=>R (A 20 _ rfl z 13 dc)) (eH R (jv (hd 8 dc) rfl))) (cz (jv (hd 12 dc) rfl) rfl))) (jJ 8 9 [aw] ay oR gG pE rfl dc (jY 8 rfl rfl (hd 8 dc)) (jY 12 rfl rfl (hd 12 dc)) rfl rfl rfl rfl eX (λv9=>jk 8 rfl (λx g4=>?_)));subst g4;exact nB (F,y,C,f0,t) (F,y,C,x,t) 13 (by rfl) (by rfl) rfl (eT (λ_=>rfl) (wS (eT (λz=>absurd z R) (HE rfl)))) (pK (cz (eH (λh=>h.elim (λz=>R (A 20 _ rfl z 13 dc)) (λh=>absurd h dc)) (jv (kv rfl) rfl)) (cz ((jA (by rfl)).trans (jv (hd 12 dc) rfl)) rfl)))
  ·intro D b R hd A;obtain⟨F,y,C,x,fz⟩:=b;refine lQ (pK (cz (eH R (jv (hd 13 dc) rfl)) (cz (jv (A 13 _ rfl (hd 13 dc) 12 dc) rfl) rfl))) (Dv 8 1 ay oR gG pE gc rfl dc (jY 13 rfl rfl (hd 13 dc)) (jY 19 rfl rfl (hd 19 dc)) rfl rfl eL (λhf=>jk 8 rfl (λt g3=>?_)));subst g3;exact nB (F,y,C,x,fz) (F,y,C,x,t) 20 (by rfl) (by rfl) rfl (HF (wS (eT (λz=>absurd z R) rfl))) (pK (cz (jv (kv rfl) rfl) (cz ((jA (by rfl)).trans (jv (A 13 _ rfl (hd 13 dc) 12 dc) rfl)) rfl)))
  intro D b hall;obtain⟨F,y,C,x,t⟩:=b;exact lQ (pK (cz (jv (hall 20 dc) rfl) (cz (jv (hall 12 dc) rfl) rfl))) (iS rfl dc rfl (ci ye rfl dc rfl (show _=0 from rfl) (fJ 0 [t.v,.map (some (bc _c)),_d.v,_f.v] uz rfl rfl rfl rfl rfl (λ_ _=>rfl) rfl (bC (iW (((([]:List V)++(ee o1.Units 0 (r6+1)))++[aw])++(ee o1.Units (r6+1) (o1.Units.length:Int)),o1.Fors,t) h rfl (gl rfl) (ct [0,8,2,3,4,5] kr rfl))))))
 rintro⟨l2,m1,ds⟩ h;refine I (O 2 rfl (iS rfl dc rfl (ci Ao rfl dc rfl (show _=3 from rfl) (bW 0 oS rfl dc rfl rfl rfl (O 1 rfl (hQ [(0,.tmp 282)] 9 [.string J] rfl dc rfl (λ_=>by kernel_rfl) (λhg=>bi h λeB h=>jJ 4 6 [J] ay oR gG pE rfl dc rfl rfl rfl rfl rfl rfl eB (λhe=>jk 4 rfl (λdn g2=>?_)))))))));subst g2;refine iS rfl dc rfl (ci Ao rfl dc rfl (show _=3 from rfl) (fJ 0 [ds.v,.map (some (bc _c)),_d.v,dn.v] uz rfl rfl rfl rfl rfl (λ_ _=>rfl) rfl (cw (fH (.agg #[zI 0,zI 0]) [] rfl dc rfl (λ_=>by kernel_rfl) (fI 5 [zI 0,zI 0] [zI 0,zI 0] lR rfl rfl rfl rfl rfl (show _<=_ by simp) rfl rfl (Y (bO ?_)))))));cases h;exact eW [.cell 4 38] (ds,_c,_d,dn) (.inl rfl) iz (.cons (.cells my (k:=5) rfl rfl rfl) .nil) rfl (cO 5)
def CM (b:V) (g:Int->Option ((Option dv)×de)) (d:Int->Option ((Option dv)×de)) (a:Int):Option ((Option dv)×de) := G (decide ((a:Int)<(b.size:Int))) (T (kY b a) λ(c1:Int)=>G ((c1:Int) != 10) (grd (I64 (a+1)) <|d (a+1)) (g a)) (g a)
def ue (a:V) (s:(List V)->(List (V×List V))->(List V)->(List V)->Option ((Option dv)×de)) (p:(List V)->(List (V×List V))->(List V)->(List V)->Int->Option ((Option dv)×de)) (i:List V) (h:List (V×List V)) (g:List V) (d:List V) (j:Int):Option ((Option dv)×de) := G (decide ((j:Int)<=(a.size:Int))) (cm (λ(r:Int->Option ((Option dv)×de))=>bP (λ_=>none) (CM a r) bN j) (λ(b:Int)=>cm (λ(q:(List V)->(List (V×List V))->(List V)->(List V)->Option ((Option dv)×de))=>T (FK a j b) λ(r2:(List iO))=>G (decide ((1:Int)<(r2.length:Int))) (T (FU (⟨i,h,g,d⟩:dv) r2) λ(r3:(de×dv))=>G ((r3.1.Err:Int) != 0) (some (none,r3.1)) (q r3.2.Units r3.2.Fors r3.2.Skips r3.2.Lines)) (q i h g d)) (λ(n:List V) (m:List (V×List V)) (l:List V) (k:List V)=>grd (I64 (b+1)) <|p n m l k (b+1)))) (s i h g d)
def zH (a:V):Option ((Option dv)×de) := G (decide ((65536:Int)<(a.size:Int))) (some (none,(⟨3,65536⟩:de))) (cm (λ(h:(List V)->(List (V×List V))->(List V)->(List V)->Option ((Option dv)×de))=>T (Cq) λ(r1:dv)=>bP (λ_ _ _ _ _=>none) (ue a h) bN r1.Units r1.Fors r1.Skips r1.Lines 0) (λ(o1:List V) (g:List (V×List V)) (d:List V) (b:List V)=>some ((some (⟨o1,g,d,b⟩:dv)),(⟨0,0⟩:de))))
theorem Qx {g:V} {r:((Option dv)×de)} (h:zH g=some r):Fn prog 13 [.string g] [] (λv0:Value=>.tuple #[v0,.agg (mh r.2).toArray]) (λv0=>[kN rC rD 86 v0 r.1]):=by
 refine Fn.intro func13 rfl ntmps13 (by simp) (λw0 K=>I (O 1 rfl (fZ uA rfl dc (λb1=>Y (bV (I (O 1 rfl (mw rfl dc rfl am (E rfl kF (Y (bu rfl h (λh=>?_) (λh=>?_))))))))))))
 ·refine I (fH (.agg #[zI 3,zI 65536]) [(0,.const (zI 3)),(1,.const (zI 65536))] rfl dc rfl (λ_=>by kernel_rfl) (O 1 rfl (fI 0 [zI 3,zI 65536] [zI 3,zI 65536] lR rfl rfl rfl rfl rfl (show _<=_ by simp) rfl rfl (Y (bO (bZ (DB rC rD 86 ?_)))))));cases h;exact eW [.tmp 2,.cell 3 38] (.pointer none) (.inl rfl) results13 (.cons (.tmp rfl) (.cons (.cells my (k:=0) rfl rfl rfl) .nil)) rfl (ct [1] kr rfl)
 refine bw (cu (cJ ((List V)×(List (V×List V))×(List V)×(List V)×Nat×Hd×Nat×Hd×Hd) h 1 rfl (λj1 b=>j1 b.1 b.2.1 b.2.2.1 b.2.2.2.1=some r) (λb=>[]) (λb=>[(3,zP b1),(4,zP b.2.2.2.2.1)]) (λb=>[cells b1 [zI 0,zI 0] 38,cells b.2.2.2.2.1 [b.2.2.2.2.2.1.v,.map (some b.2.2.2.2.2.2.1),b.2.2.2.2.2.2.2.1.v,b.2.2.2.2.2.2.2.2.v] 86,bq b.2.2.2.2.2.1.v b.1,dV b.2.2.2.2.2.2.1 b.2.1,bq b.2.2.2.2.2.2.2.1.v b.2.2.1,bq b.2.2.2.2.2.2.2.2.v b.2.2.2.1]) (λj1 h cut=>?_) ?_))
 ·refine I (aU h λr1 a8 h=>ir [] rfl dc rfl rfl rfl SZ (ZB a8) aC ?_);rintro⟨w,W,S,R,Q⟩;refine kL [cells b1 [zI 0,zI 0] 38,cells w [W.v,.map (some (bc S)),R.v,Q.v] 86,bq W.v r1.Units,dV (bc S) r1.Fors,bq R.v r1.Skips,bq Q.v r1.Lines] (cO 6) (O 1 rfl (Y (cut (I (O 1 rfl (Y (ck (fP ((List V)×(List (V×List V))×(List V)×(List V)×Int×Hd×Nat×Hd×Hd) (ue g j1) (λa b=>a b.1 b.2.1 b.2.2.1 b.2.2.2.1 b.2.2.2.2.1=some r) (λb=>[]) (λb=>[(0,.string g),(3,zP b1),(4,zP w),(5,zI b.2.2.2.2.1)]) (λb=>[cells b1 [zI 0,zI 0] 38,cells w [b.2.2.2.2.2.1.v,.map (some b.2.2.2.2.2.2.1),b.2.2.2.2.2.2.2.1.v,b.2.2.2.2.2.2.2.2.v] 86,bq b.2.2.2.2.2.1.v b.1,dV b.2.2.2.2.2.2.1 b.2.1,bq b.2.2.2.2.2.2.2.1.v b.2.2.1,bq b.2.2.2.2.2.2.2.2.v b.2.2.2.1]) (r1.Units,r1.Fors,r1.Skips,r1.Lines,0,W,(bc S),R,Q) h 6 ?_))))))));rintro bs ⟨B,A,z,y,P,m,b7,l,j⟩ h;refine bV (I (O 2 rfl (mw rfl dc rfl am (E rfl jd (Y (bu rfl h (λh=>?_) (λh=>?_)))))))
  ·refine bw (cu (ck (cJ Int h 1 rfl (λj2 b=>j2 b=some r) (λb=>[]) (λb=>[(0,.string g),(3,zP b1),(4,zP w),(5,zI P),(6,zI b)]) (λb=>[cells b1 [zI 0,zI 0] 38,cells w [m.v,.map (some b7),l.v,j.v] 86,bq m.v B,dV b7 A,bq l.v z,bq j.v y]) (λj2 h cut=>I (O 2 rfl (Y (cut (ck (fP Int (CM g j2) (λa b=>a b=some r) (λb=>[]) (λb=>[(0,.string g),(3,zP b1),(4,zP w),(5,zI P),(6,zI b)]) (λb=>[cells b1 [zI 0,zI 0] 38,cells w [m.v,.map (some b7),l.v,j.v] 86,bq m.v B,dV b7 A,bq l.v z,bq j.v y]) P h 6 (λbk p h=>bV (I (O 2 rfl (mw rfl dc rfl am (E rfl dL (O 1 rfl (du 23 rfl h (λh=>O 2 rfl (aU h λc1 a7 h=>oI rfl dc rfl rfl (qX am a7) (E rfl nh (O 1 rfl (Y (bu rfl h (λh=>bw (cu (ck (bX (O 1 rfl (bi h λbb h=>E rfl (c8 (p+1) (ac _ bb)) (O 1 rfl (bC (cg (mD (p+1) h 6)))))))))) (λh=>dG (bS (bS (dH (mD p h 6))))))))))) (λh=>O 5 rfl (Y (eU rfl (dG (bS (bS (dH (mD p h 6))))))))))))))))))))) (λq h=>cJ ((List V)×(List (V×List V))×(List V)×(List V)×Hd×Nat×Hd×Hd) h 0 rfl (λj3 b=>j3 b.1 b.2.1 b.2.2.1 b.2.2.2.1=some r) (λb=>[]) (λb=>[(0,.string g),(3,zP b1),(4,zP w),(6,zI q)]) (λb=>[cells b1 [zI 0,zI 0] 38,cells w [b.2.2.2.2.1.v,.map (some b.2.2.2.2.2.1),b.2.2.2.2.2.2.1.v,b.2.2.2.2.2.2.2.v] 86,bq b.2.2.2.2.1.v b.1,dV b.2.2.2.2.2.1 b.2.1,bq b.2.2.2.2.2.2.1.v b.2.2.1,bq b.2.2.2.2.2.2.2.v b.2.2.2.1]) (λj3 h cut=>?_) ?_))))
   ·refine cut (I (O 3 rfl (aU h λr2 a6 h=>ir [.string g,zI P,zI q] rfl dc rfl rfl rfl S3 (ZC a6) aC (λv1=>jk 6 rfl (λN bh=>?_)))));subst bh;refine O 1 rfl (cw (O 1 rfl (io 6 rfl dc rfl rfl eo (E rfl kF (Y (bu rfl h (λh=>?_) (λh=>?_)))))))
    ·refine I (O 2 rfl (lF 6 rfl (λa4=>aU h λr3 a5 h=>oQ [zP w,N.v] (Rd.nil:Rd _ _ []) rfl dc rfl rfl rfl S4 (a_ w (⟨B,A,z,y⟩:dv) m (⟨some ⟨b7,0,none⟩,0,0⟩:Hd) l j a4 a5) (ct [1,2,3,4,5] kr rfl) (.own (As:=[wT N.v r2]) (ct [6] kr rfl) (λ_ _ h=>pF Hl (aL.1 h)) .nil) ?_)));rintro⟨M,J,F,C⟩;refine kL [cells b1 [zI 0,zI 0] 38,cells w [M.v,.map (some (bc J)),F.v,C.v] 86,bq M.v r3.2.Units,dV (bc J) r3.2.Fors,bq F.v r3.2.Skips,bq C.v r3.2.Lines,wT N.v r2] (ct [0,7,8,9,10,11,6] kr rfl) (fZ uA rfl dc (λb9=>fI 7 (mh r3.1) (mh r3.1) lR rfl rfl rfl rfl rfl (show _<=_ by simp) rfl rfl (cw (ci GO rfl dc rfl (show _=0 from rfl) (bW 7 GN rfl dc rfl rfl rfl (E rfl nh (Y (bu rfl h (λh=>?_) (λh=>?_)))))))))
     ·refine bV (jU 2 [(0,44,.agg (mh r3.1).toArray),(1,2,.pointer none)] mixed kr kr dc (by rfl) kr kr (bQ (λD n d c u i=>ju 7 (mh r3.1) my rfl dc (eG (by rfl) rfl) rfl rfl rfl (bf 0 u i)) (bQ (λD n d c u i=>O 1 rfl (bf 1 u i)) bB)) (fI 0 (mh r3.1) (mh r3.1) lR rfl rfl rfl rfl rfl (show _<=_ by simp) rfl rfl (Y (bO (bZ (cK (bZ (cK (bZ (DB rC rD 86 ?_))))))))));cases h;exact eW [.tmp 2,.cell 3 38] (.pointer none) (.inl rfl) results13 (.cons (.tmp rfl) (.cons (.cells my (k:=0) rfl rfl rfl) .nil)) rfl (ct [8] kr rfl)
     exact bw (mD (r3.2.Units,r3.2.Fors,r3.2.Skips,r3.2.Lines,M,(bc J),F,C) h 6)
    exact bw (mD (B,A,z,y,m,b7,l,j) h 6)
   rintro⟨a3,a2,a1,a0,aw,b8,ao,ag⟩ h;exact bX (O 1 rfl (bi h λa9 h=>E rfl (c8 (q+1) (ac _ a9)) (O 1 rfl (bC (cg (mD (a3,a2,a1,a0,q+1,aw,b8,ao,ag) h 6))))))
  exact dG (bS (bS (dH (mD (B,A,z,y,w,m,b7,l,j) h 6))))
 rintro⟨o1,o2,o3,o4,b2,Z,b3,hd2,X⟩ h;refine I (O 1 rfl (fH (.agg #[zI 0,zI 0]) [] rfl dc rfl (λ_=>by kernel_rfl) (O 1 rfl (fI 0 [zI 0,zI 0] [zI 0,zI 0] lR rfl rfl rfl rfl rfl (show _<=_ by simp) rfl rfl (Y (bO (KY (As:=[cells b2 [Z.v,.map (some b3),hd2.v,X.v] 86,bq Z.v o1,dV b3 o2,bq hd2.v o3,bq X.v o4]) (ct [1,2,3,4,5] kr rfl) (Lm rC rD 86 (⟨o1,o2,o3,o4⟩:dv) b2 (Z,(⟨some ⟨b3,0,none⟩,0,0⟩:Hd),hd2,X)) (λ_ _=>?_))))))));cases h;exact eW [.tmp 2,.cell 3 38] (zP b2) (.inl rfl) results13 (.cons (.tmp rfl) (.cons (.cells my (k:=0) rfl rfl rfl) .nil)) rfl (ct [6] kr rfl)
theorem b_:(match Cq with | some o=>decide (o.Units=pO)&&o.Fors.isEmpty&&o.Skips.isEmpty&&o.Lines.isEmpty | none=>false)=true:=by decide +kernel
theorem c_:Cq=some (⟨pO,[],[],[]⟩:dv):=by
 have h:=b_;cases hb:Cq with
 |none=>rw[hb] at h;cases h
 |some o=>
  rw[hb] at h;simp only[Bool.and_eq_true,decide_eq_true_eq,List.isEmpty_iff] at h;obtain⟨⟨⟨h1,h2⟩,h3⟩,a⟩:=h;obtain⟨u,f,s,l⟩:=o;simp only at h1 h2 h3 a;subst h1;subst h2;subst h3;subst a;rfl
structure mQ (o:co) (w:dv):Prop where
 un:w.Units=o.units
 fo:w.Fors=o.fors
 li:w.Lines=o.lines
 sk:∀f,(cf f o.skips).getD false=w.Skips.any λs=>decide (s=f)
 sl:w.Skips.length<=w.Lines.length
theorem mQ.rel {o:co} {w:dv} (h:mQ o w) (hi:gH o):tw o w:=⟨h.un,h.fo,h.li,h.sk,by have h1:=h.sl;have h2:=hi.ll;rw[h.li] at h1;omega⟩
theorem d_:mQ ua (⟨pO,[],[],[]⟩:dv):=⟨rfl,rfl,rfl,λf=>rfl,aS _⟩
abbrev Wr:=iO
def rW (w:Wd):Wr:=⟨w.at_,w.text⟩
def nt (a:List Wd) (e:Int):List Wr:=a.map rW++[⟨e,fu⟩]
theorem CN (a:List Wd) (e:Int):(nt a e).length=a.length+1:=by unfold nt;rw[aa,ax];rfl
theorem uY {a:List Wd} {e:Int} {k:Nat} {w:Wd} (h:a[k]?=some w):(nt a e)[k]?=some (rW w):=by
 have hk:=(aq.1 h).1;unfold nt;rw[ea (by rw[ax];exact hk),cx,h];rfl
theorem e_ (a:List Wd) (e:Int):(nt a e)[a.length]?=some (⟨e,fu⟩:Wr):=by
 unfold nt;rw[eK (by rw[ax];exact aS _),ax,kB];rfl
theorem f_ {run a:List UInt8} (b:run≠[]) (h:∀c∈run,c≠32) (hr:a=[]\/∃l,a=32::l) (i:Nat):iL (run++a) i none=(i,run)::iL a (i+run.length) none:=by
 rw[Zw b h];rcases hr with rfl|⟨l,rfl⟩
 ·rfl
 ·rw[Cg,Cg];rfl
section
variable {text:V} {L:List UInt8} {f e:Nat}
theorem Qy (hL:(text.data.toList.drop f).take (e-f)=L) {k:Nat} {c:UInt8} (h:L[k]?=some c):kY text ((f:Int)+(k:Int))=some (c.toNat:Int)/\f+k<e:=by
 have hk:=(aq.1 h).1;rw[<-hL] at h hk;rw[aZ] at hk;rw[List.getElem?_take_of_lt z1,List.getElem?_drop] at h;have:=Ch _ _ _ h
 push_cast at this
 exact⟨this,by omega⟩
theorem g_ (hL:(text.data.toList.drop f).take (e-f)=L) (l:f<=e) (he:e<=text.size) (p:text.size<=1000000000) (J:Int->Option (List Wr)) : ∀ (n:Nat) (B A:List UInt8),L=A++B->B.length<n->bP (λ_=>none) (Ct text (e:Int) J) n ((f:Int)+(A.length:Int))=J ((f:Int)+((A.length+(B.takeWhile λc=>c != 32).length:Nat):Int)):=by
 have m:L.length=e-f:=by
  rw[<-hL,aZ,aR,<-jK];omega
 intro n
 induction n with
 |zero=>intro B A _ h;omega
 |succ n i=>
  intro B A b j;rw[iB];generalize g:bP (λ_=>none) (Ct text (e:Int) J) n=ag;unfold Ct;have a:L.length=A.length+B.length:=by rw[b,aa]
  cases B with
  |nil=>
   rw[aB] at a;exact fc rfl
  |cons c B=>
   rw[ab] at a j;obtain⟨g1,g2⟩:=Qy hL (k:=A.length) (c:=c) (by rw[b];simp);refine eQ (aV g1 ?_);rw[aY];by_cases hc:c=32
   ·subst hc;exact bR rfl rfl
   ·have h1:(((c.toNat:Int):Int) != 32)=true:=cQ.2 λh=>hc (gv.1 (by show c.toNat=32;omega));have h2:(c != 32)=true:=cQ.2 hc;rw[h2,aj rfl];have d:=i B (A++[c]) (by rw[b,av];rfl) z1;rw[g,show (A++[c]).length=A.length+1 by simp] at d
    push_cast at d
    refine ca h1 (gO ?_);rw[show (f:Int)+(A.length:Int)+1=(f:Int)+((A.length:Int)+1) by omega,d,ab];congr 1
    push_cast;omega
theorem h_ (hL:(text.data.toList.drop f).take (e-f)=L) (u:f<=e) (he:e<=text.size) (x:text.size<=1000000000) (J:List Wr->Option (List Wr)) : ∀ (n:Nat) (B A:List UInt8) (i:List Wr),L=A++B->B.length<n->i.length+B.length<=1000000000 -> bP (λ_ _=>none) (Cu text (e:Int) J) n i ((f:Int)+(A.length:Int))=J (i++((iL B A.length none).map (kS (f:Int))).map rW):=by
 have D:L.length=e-f:=by
  rw[<-hL,aZ,aR,<-jK];omega
 intro n
 induction n with
 |zero=>intro B A i _ h;omega
 |succ n v=>
  intro B A i b z F;rw[iB];generalize t:bP (λ_ _=>none) (Cu text (e:Int) J) n=ag;unfold Cu;have j:L.length=A.length+B.length:=by rw[b,aa]
  cases B with
  |nil=>
   rw[aB] at j;refine fc ?_;show J i=J (i++[]);rw[aE]
  |cons c B=>
   rw[ab] at j z F;obtain⟨g1,g2⟩:=Qy hL (k:=A.length) (c:=c) (by rw[b];simp);refine eQ (aV g1 ?_);by_cases hc:c=32
   ·subst hc;have q:=v B (A++[32]) i (by rw[b,av];rfl) z1 z1;rw[t,show (A++[(32:UInt8)]).length=A.length+1 by simp] at q
    push_cast at q
    refine ca rfl (gO ?_);rw[show (f:Int)+(A.length:Int)+1=(f:Int)+((A.length:Int)+1) by omega,q,Cg];rfl
   ·have h1:(((c.toNat:Int):Int)==32)=false:=aA.2 λh=>hc (gv.1 (by show c.toNat=32;omega));have h2:(c != 32)=true:=cQ.2 hc;refine bR h1 (cL ?_);refine (g_ hL u he x _ bN (c::B) A b (by rw[ab];unfold bN;omega)).trans ?_;have a:c::B=(c::B).takeWhile (λc=>c != 32)++(c::B).dropWhile λc=>c != 32:=List.takeWhile_append_dropWhile.symm;have m:(c::B).takeWhile (λc=>c != 32)≠[]:=by rw[aY,h2,aj rfl];simp
    have r:∀d∈(c::B).takeWhile (λc=>c != 32),d≠32:=λd hd=>cQ.1 (List.all_eq_true.1 (List.all_takeWhile (p:=λc:UInt8=>c != 32) (l:=c::B)) d hd);have g:(c::B).dropWhile (λc=>c != 32)=[]\/∃l,(c::B).dropWhile (λc=>c != 32)=32::l:=by
     have:=lA (λc:UInt8=>c != 32) (c::B);cases hd:(c::B).dropWhile (λc=>c != 32) with
     |nil=>exact .inl rfl
     |cons d l=>
      rw[hd] at this;have h3:(d != 32)=false:=by simpa using this
      exact .inr ⟨l,by rw[bne_eq_false_iff_eq.1 h3]⟩
    generalize (c::B).takeWhile (λc=>c != 32)=run at a m r |-
    generalize (c::B).dropWhile (λc=>c != 32)=rest at a g;have y:=dh.2 m;have C:B.length+1=run.length+rest.length:=by
     have:=aI fS a;rw[ab,aa] at this;exact this
    have q:=v rest (A++run) (i++[(⟨(f:Int)+(A.length:Int),ba run⟩:Wr)]) (by rw[b,a,av]) z1 (by rw[aa];show _+1+_<=_;omega);rw[t,aa] at q;have s:c6 text ((f:Int)+(A.length:Int)) ((f:Int)+((A.length+run.length:Nat):Int))=ba run:=by
     apply rP;have:=uS text (f+A.length) (f+(A.length+run.length))
     push_cast at this
     push_cast
     rw[this,tu,show f+(A.length+run.length)-(f+A.length)=run.length by omega];have w:L.drop A.length=run++rest:=by rw[b,jb,a]
     rw[<-hL,List.drop_take,fY] at w;have h5:=aI (List.take run.length) w;rw[List.take_take,lD,Nat.min_eq_left z1] at h5;exact h5
    refine gO (gO ?_);rw[s,q,a,f_ m r g];congr 1;rw[av];rfl
end
theorem i_ (text:V) (f e:Nat) (a:f<=e) (he:e<=text.size) (g:text.size<=1000000000) : FK text (f:Int) (e:Int)=some (nt ((iL ((text.data.toList.drop f).take (e-f)) 0 none).map (kS (f:Int))) (e:Int)):=by
 unfold FK;refine cL ?_;have h:((text.data.toList.drop f).take (e-f)).length=e-f:=by
  rw[aZ,aR,<-jK];omega
 have:=h_ (L:=(text.data.toList.drop f).take (e-f)) rfl a he g (λ(b:List Wr)=>
  grd (b.length+1<=2147483648)<|some (b++[(⟨(e:Int),(⟨#[]⟩:V)⟩:Wr)])) bN ((text.data.toList.drop f).take (e-f)) [] [] (bj _).symm (by unfold bN;omega) (by rw[aB];omega)
 rw[aB,show (f:Int)+((0:Nat):Int)=(f:Int) by omega] at this;refine this.trans ?_;have d:=(xn ((text.data.toList.drop f).take (e-f)) 0 none).2;have d:(iL ((text.data.toList.drop f).take (e-f)) 0 none).length<=((text.data.toList.drop f).take (e-f)).length+0:=d;rw[bj];exact dI (by rw[ax,ax];omega) rfl
def pQ (e:Int):List V->List Wd->Option Int
 |[],[]=>none
 |[],w::_=>some w.at_
 |_::_,[]=>some e
 |s::S,w::W=>if s≠fu/\s≠w.text then some w.at_ else pQ e S W
def xw (put:Bool) (a:V) (n:Nat):List V:=(List.range n).map λi=>if i=0 then a else if put=true/\i=2 then sH else fu
theorem j_ (w:dv) (b:List Wd) (e:Int) (S:List V) (J:Option (de×dv)) (D:b.length<=1000000000) (F:S.length<=1000) :
  ∀ (n:Nat) (d:List V) (W:List Wd) (A:List V) (C:List Wd),S=A++d->b=C++W->A.length=C.length->d.length+W.length<n ->
   bP (λ_=>none) (CI w (nt b e) S J) n (A.length:Int)=match pQ e d W with | some a=>some ((⟨220,a⟩:de),w) | none=>J:=by
 intro n
 induction n with
 |zero=>intro d W A C _ _ _ h;omega
 |succ n z=>
  intro d W A C hA m i t;rw[iB];generalize r:bP (λ_=>none) (CI w (nt b e) S J) n=ag;unfold CI;have q:((nt b e).length:Int)-1=(b.length:Int):=by rw[CN];omega
  have l:S.length=A.length+d.length:=by rw[hA,aa]
  have g:b.length=C.length+W.length:=by rw[m,aa]
  rw[q];have j:∀k v,min A.length b.length=k->(nt b e)[k]?=some v->(T (cj (nt b e) (min (A.length:Int) (b.length:Int))) λ(y:iO)=>some ((⟨220,y.at_⟩:de),w))=some ((⟨220,v.at_⟩:de),w):=λk v hk hv=>by
   rw[show min (A.length:Int) (b.length:Int)=(k:Int) by omega];exact aV (iu hv) rfl
  refine cL ?_;cases d with
  |nil=>
   rw[aB] at l;refine fc ?_;cases W with
   |nil=>
    rw[aB] at g;exact fc rfl
   |cons x W=>
    rw[ab] at g;have hx:b[A.length]?=some x:=by rw[m,i];simp
    refine eQ (cL (fc (eQ ?_)));exact j A.length (rW x) z1 (uY hx)
  |cons s d=>
   rw[ab] at l t;refine eQ (cL ?_);cases W with
   |nil=>
    rw[aB] at g;refine eQ ?_;exact j b.length ⟨e,fu⟩ z1 (e_ b e)
   |cons x W=>
    rw[ab] at g t;have hx:b[A.length]?=some x:=by rw[m,i];simp
    have B:S[A.length]?=some s:=by rw[hA];simp
    have p:=z d W (A++[s]) (C++[x]) (by rw[hA,av];rfl) (by rw[m,av];rfl) (by simp[i]) z1;rw[r,show (A++[s]).length=A.length+1 by simp] at p
    push_cast at p
    have u:(grd (I64 ((A.length:Int)+1))<|ag ((A.length:Int)+1))=match pQ e d W with | some a=>some ((⟨220,a⟩:de),w) | none=>J:=gO p
    refine fc (fc (aV (iu B) ?_));rw[pQ];by_cases h1:s=fu
    ·rw[ai (λh=>h.1 h1)];exact bR (by rw[an h1];rfl) u
    ·refine ca (by rw[ah h1];rfl) (aV (iu (uY hx)) ?_);by_cases h2:s=x.text
     ·rw[ai (λh=>h.2 h2)];exact bR (by show (!decide (s=x.text))=false;rw[an h2];rfl) u
     ·rw[aj ⟨h1,h2⟩];refine ca (by show (!decide (s=x.text))=true;rw[ah h2];rfl) ?_;exact j A.length (rW x) z1 (uY hx)
theorem FV (e:Int):∀ (W:List Wd) (n:Nat),pQ e (aO n fu) W=if W.length<n then some e else if n<W.length then some (pr W n) else none
 |[],0=>rfl
 |w::W,0=>by
  show some w.at_=_;rw[ai z1,aj (by rw[ab];omega)];rfl
 |[],n+1=>by
  show some e=_;rw[aj (by show 0<n+1;omega)]
 |w::W,n+1=>by
  rw[List.replicate_succ,pQ,ai (λh=>h.1 rfl),FV e W n,ab];by_cases h1:W.length<n
  ·rw[aj h1,aj (show W.length+1<n+1 by omega)]
  ·rw[ai h1,ai (show ¬W.length+1<n+1 by omega)];by_cases h2:n<W.length
   ·rw[aj h2,aj (show n+1<W.length+1 by omega)];rfl
   ·rw[ai h2,ai (show ¬n+1<W.length+1 by omega)]
def wj (a:Int):Option Int:=if 0<=a then some a else none
theorem iX:cAs≠jr/\og≠jr/\og≠cAs/\jr≠fu/\cAs≠fu/\og≠fu/\sH≠fu:=by decide
theorem CO {l:List Wd} {e:Int} (he:0<=e) (ha:∀w∈l,0<=w.at_) (a b:Nat):wj (uV l e a b)=if l.length<a then some e else if b<l.length then some (pr l b) else none:=by
 unfold uV wj;by_cases h1:l.length<a
 ·rw[aj h1,aj h1,aj he]
 ·rw[ai h1,ai h1];by_cases h2:b<l.length
  ·rw[aj h2,aj h2,aj (show 0<=pr l b from ha _ (aF (nF w0 h2)))]
  ·rw[ai h2,ai h2];rfl
theorem QA (w:Wd) (W:List Wd) (n:Nat):pr (w::W) (n+1)=pr W n:=rfl
theorem k_ {a:List Wd} {e:Int} (he:0<=e) (ha:∀w∈a,0<=w.at_) (h0:0<a.length) (hv:(a.getD 0 w0).text=jr):pQ e [jr,fu,sH,fu] a=wj (nV a e):=by
 unfold nV;rw[aj hv]
 match a,ha,h0,hv with
 |[w],ha,_,hv=>
  have hv:w.text=jr:=hv;rw[pQ,ai (λh=>h.2 hv.symm),ai (λh=>by have:=h.1;simp at this),CO he ha];rfl
 |[w,x],ha,_,hv=>
  have hv:w.text=jr:=hv;rw[pQ,ai (λh=>h.2 hv.symm),pQ,ai (λh=>h.1 rfl),ai (λh=>by have:=h.1;simp at this),CO he ha];rfl
 |w::x::y::W,ha,_,hv=>
  have hv:w.text=jr:=hv;rw[pQ,ai (λh=>h.2 hv.symm),pQ,ai (λh=>h.1 rfl),pQ];by_cases hy:y.text=sH
  ·rw[ai (λh=>h.2 hy.symm),ai (λh=>h.2 hy),CO he ha,show [fu]=aO 1 fu from rfl,FV];simp only[ab,QA];by_cases h1:W.length<1
   ·rw[aj h1,aj (show W.length+1+1+1<4 by omega)]
   ·rw[ai h1,ai (show ¬W.length+1+1+1<4 by omega)];by_cases h2:1<W.length
    ·rw[aj h2,aj (show 4<W.length+1+1+1 by omega)]
    ·rw[ai h2,ai (show ¬4<W.length+1+1+1 by omega)]
  ·rw[aj ⟨iX.2.2.2.2.2.2,λh=>hy h.symm⟩,aj ⟨by simp,hy⟩];unfold wj;rw[aj (show 0<=pr (w::x::y::W) 2 from ha y (by simp))];rfl
theorem l_ {a:List Wd} {e:Int} (he:0<=e) (ha:∀w∈a,0<=w.at_) (h0:0<a.length) (hv:(a.getD 0 w0).text=og):pQ e [og,fu] a=wj (nV a e):=by
 unfold nV;rw[hv,ai iX.2.1,ai iX.2.2.1,aj rfl]
 match a,ha,h0,hv with
 |w::W,ha,_,hv=>
  have hv:w.text=og:=hv;rw[pQ,ai (λh=>h.2 hv.symm),CO he ha,show [fu]=aO 1 fu from rfl,FV];simp only[ab,QA];by_cases h1:W.length<1
  ·rw[aj h1,aj (show W.length+1<2 by omega)]
  ·rw[ai h1,ai (show ¬W.length+1<2 by omega)];by_cases h2:1<W.length
   ·rw[aj h2,aj (show 2<W.length+1 by omega)]
   ·rw[ai h2,ai (show ¬2<W.length+1 by omega)]
theorem m_ {a:List Wd} {e:Int} (he:0<=e) (ha:∀w∈a,0<=w.at_) (h0:0<a.length) (hv:(a.getD 0 w0).text=cAs):pQ e (cAs::aO (max 3 (min a.length 6)-1) fu) a=wj (nV a e):=by
 unfold nV;rw[hv,ai iX.1,aj rfl]
 match a,ha,h0,hv with
 |w::W,ha,_,hv=>
  have hv:w.text=cAs:=hv;rw[pQ,ai (λh=>h.2 hv.symm),CO he ha,FV];simp only[ab];by_cases h1:W.length+1<3
  ·rw[aj h1,aj (show W.length<max 3 (min (W.length+1) 6)-1 by omega)]
  ·rw[ai h1,ai (show ¬W.length<max 3 (min (W.length+1) 6)-1 by omega)];by_cases h2:6<W.length+1
   ·rw[aj h2,aj (show max 3 (min (W.length+1) 6)-1<W.length by omega),show max 3 (min (W.length+1) 6)-1=5 by omega];rfl
   ·rw[ai h2,ai (show ¬max 3 (min (W.length+1) 6)-1<W.length by omega)]
theorem n_ (a:List Wd) (e:Int) (J:List V->Option (de×dv)):∀ (n k:Nat),3<=k->k<=max 3 (min a.length 6)->10<n+k -> bP (λ_=>none) (CH (nt a e) J) n (cAs::aO (k-1) fu)=J (cAs::aO (max 3 (min a.length 6)-1) fu):=by
 intro n
 induction n with
 |zero=>intro k h1 h2 h3;omega
 |succ n d=>
  intro k h1 h2 h3;rw[iB];generalize g:bP (λ_=>none) (CH (nt a e) J) n=ag at d;unfold CH;have b:((nt a e).length:Int)-1=(a.length:Int):=by rw[CN];omega
  have hk:(cAs::aO (k-1) fu).length=k:=by rw[ab,mV];omega
  rw[b,hk];by_cases g1:k<a.length
  ·refine eQ ?_;by_cases g2:k<6
   ·refine eQ (gO ?_);have:=d (k+1) z1 z1 z1;rw[<-this];congr 1;rw[aW,show k+1-1=(k-1)+1 by omega,List.replicate_succ']
   ·refine fc ?_;rw[show max 3 (min a.length 6)=k by omega]
  ·refine fc ?_;rw[show max 3 (min a.length 6)=k by omega]
theorem o_ (w:dv) (g:List Wd) (e:Int) (S:List V) (put:Bool) (b:V) (J:List V->V->Option (de×dv)) (hl:g.length<=1000) (K:∀w∈g,w.text.size<=65536)
  (C:S=xw put b g.length) (m:b≠fu) (l:b≠sH) :
  ∀ (n:Nat) (B A:List Wd) (D:List V) (said:V),g=A++B->D.length=A.length->B.length<n->said.size<=65536+1000*A.length ->
   bP (λ_ _ _=>none) (CJ w (nt g e) S J) n D said (A.length:Int) =
    match k9 put A.length B with
    |.inl a=>some ((⟨221,a⟩:de),w)
    |.inr (f,s)=>J (D++f) (said++s):=by
 have Q:S.length=g.length:=by rw[C];unfold xw;rw[ax,List.length_range]
 have t:∀i,i<g.length->S[i]?=some (if i=0 then b else if put=true/\i=2 then sH else fu):=λi hi=>by
  rw[C];unfold xw;rw[cx,mI hi];rfl
 intro n
 induction n with
 |zero=>intro B A D said _ _ h;omega
 |succ n F=>
  intro B A D said hA W N Z;rw[iB];generalize r:bP (λ_ _ _=>none) (CJ w (nt g e) S J) n=ag;unfold CJ;have j:g.length=A.length+B.length:=by rw[hA,aa]
  cases B with
  |nil=>
   rw[aB] at j;refine fc ?_;show J D said=J (D++[]) (said++fu);rw[aE,show fu=af from rfl,bF]
  |cons x B=>
   rw[ab] at j N;have hx:g[A.length]?=some x:=by rw[hA];simp
   have hg:=t A.length z1;have k:=λ(y:V) (d:V) (q:d.size<=65536+1000*(A.length+1))=>F B (A++[x]) (D++[y]) d (by rw[hA,av];rfl) (by rw[aa,aa,W];rfl) z1 (by rw[aa];exact q);rw[r,show (A++[x]).length=A.length+1 by simp] at k
   push_cast at k
   have v:∀ (y z:V),z.size<=1000->(grd (I64 ((A.length:Int)+1))<|ag (D++[y]) (said++z) ((A.length:Int)+1))=match k9 put (A.length+1) B with | .inl a=>some ((⟨221,a⟩:de),w) | .inr (f,s)=>J (D++y::f) (said++(z++s)):=λy z hz=>by
    refine gO ((k y (said++z) (by rw[aM];omega)).trans ?_);cases k9 put (A.length+1) B with
    |inl a=>rfl
    |inr fs=>
     obtain⟨f,s⟩:=fs;show J ((D++[y])++f) ((said++z)++s)=_;rw[av,ByteArray.append_assoc];rfl
   have u:∀y:V,(grd (I64 ((A.length:Int)+1))<|ag (D++[y]) said ((A.length:Int)+1))=match k9 put (A.length+1) B with | .inl a=>some ((⟨221,a⟩:de),w) | .inr (f,s)=>J (D++y::f) (said++(fu++s)):=λy=>by
    have:=v y fu (by show 0<=1000;omega);rw[show said++fu=said from bF] at this;exact this
   have R:D.length<=1000:=by omega
   refine eQ (cL (aV (iu hg) ?_));rw[k9];by_cases h0:A.length=0
   ·rw[aj (show A.length=0\/(put=true/\A.length=2) from .inl h0),aj h0,aj h0];refine ca (by rw[ah m];rfl) (cL (gO (bR (ah l) ((u fu).trans ?_))));cases k9 put (A.length+1) B with
    |inl a=>rfl
    |inr fs=>rfl
   ·rw[ai h0];by_cases h2:put=true/\A.length=2
    ·rw[aj (show A.length=0\/(put=true/\A.length=2) from .inr h2),aj h2,ai h0];refine ca (by decide) (cL (gO (ca (by decide) (dI (by show said.size+6<=_;omega) ((v fu Fw (by show 6<=1000;omega)).trans ?_)))));cases k9 put (A.length+1) B with
     |inl a=>rfl
     |inr fs=>rfl
    ·rw[ai (show ¬(A.length=0\/(put=true/\A.length=2)) from λh=>by rcases h with h | h;exact h0 h;exact h2 h),ai h2];have X:=Fx x.text;have p:=K x (aF hx);have M:=(uT (mP x.text) z1).2.2.2;refine bR (by decide) (aV (iu (uY hx)) (aV (ZG x.text p) ?_));by_cases he:mP x.text=fu
     ·rw[aj he];exact ca (an he) (aV (iu (uY hx)) rfl)
     ·rw[ai he];have P:(⟨#[32]⟩:V).size=1:=rfl;refine bR (ah he) (gO (aV (Xj _ z1) (gO (dI (by rw[aM];omega) ((v (mP x.text) (Jq++xd (mP x.text)) (by rw[aM];show 1+_<=1000;omega)).trans ?_)))));cases k9 put (A.length+1) B with
      |inl a=>rfl
      |inr fs=>rfl
def zJ (w:dv) (o:co) (l:List Wd) (e:Int):de×dv :=
 if o.lines.length=256 then (⟨3,pr l 0⟩,w)
 else if 0<=nV l e then (⟨220,nV l e⟩,w)
 else match k9 (decide ((l.getD 0 w0).text=jr)) 0 l with
  |.inl a=>(⟨221,a⟩,w)
  |.inr (fs,s)=>
   if (l.getD 0 w0).text=og then
    (if (cf (jV (fD fs 1)) o.skips).getD false=true then (⟨222,pr l 1⟩,w) else (⟨0,0⟩,⟨w.Units,w.Fors,w.Skips++[jV (fD fs 1)],w.Lines++[zw l s]⟩))
   else if nb o (fD fs 1)=true then (⟨222,pr l 1⟩,w)
   else match oB o 0 fs l with
    |some a=>(⟨223,a⟩,w)
    |none=>(⟨0,0⟩,if (l.getD 0 w0).text=jr then ⟨ky w.Units ((cf (fD fs 3) o.place).getD 0+1) (fD fs 1),w.Fors,w.Skips,w.Lines++[zw l s]⟩ else ⟨w.Units,jm (fD fs 1) (fs.drop 2) w.Fors,w.Skips,w.Lines++[zw l s]⟩)
theorem p_ {o:co} {w:dv} (hr:mQ o w) (l:List Wd) (e:Int):(zJ w o l e).1=(qw o l e).1/\mQ (qw o l e).2 (zJ w o l e).2:=by
 unfold zJ qw;by_cases h1:o.lines.length=256
 ·rw[aj h1,aj h1];exact⟨rfl,hr⟩
 rw[ai h1,ai h1];by_cases h2:0<=nV l e
 ·rw[aj h2,aj h2];exact⟨rfl,hr⟩
 rw[ai h2,ai h2];cases hf:k9 (decide ((l.getD 0 w0).text=jr)) 0 l with
 |inl a=>exact⟨rfl,hr⟩
 |inr fs=>
  obtain⟨fs,s⟩:=fs;show ((ite _ _ _:de×dv)).1=((ite _ _ _:de×co)).1/\mQ ((ite _ _ _:de×co)).2 ((ite _ _ _:de×dv)).2;by_cases b:(l.getD 0 w0).text=og
  ·rw[aj b,aj b];by_cases hb:(cf (jV (fD fs 1)) o.skips).getD false=true
   ·rw[aj hb,aj hb];exact⟨rfl,hr⟩
   ·rw[ai hb,ai hb];refine⟨rfl,hr.un,hr.fo,?_,λf=>?_,?_⟩
    ·show w.Lines++_=o.lines++_;rw[hr.li]
    ·show (cf f (jm (jV (fD fs 1)) true o.skips)).getD false=(w.Skips++[jV (fD fs 1)]).any λs=>decide (s=f);rw[zu,List.any_append,<-hr.sk];by_cases d:f=jV (fD fs 1)
     ·rw[aj d,d];simp
     ·rw[ai d];have:decide (jV (fD fs 1)=f)=false:=ah λh=>d h.symm;simp[this]
    ·show (w.Skips++[_]).length<=(w.Lines++[_]).length;have:=hr.sl;rw[aa,aa];show _+1<=_+1;omega
  ·rw[ai b,ai b];by_cases hb:nb o (fD fs 1)=true
   ·rw[aj hb,aj hb];exact⟨rfl,hr⟩
   ·rw[ai hb,ai hb];cases g:oB o 0 fs l with
    |some a=>exact⟨rfl,hr⟩
    |none=>
     have sl:∀x:V,w.Skips.length<=(w.Lines++[x]).length:=λx=>by
      have:=hr.sl;rw[aa];omega
     refine⟨rfl,?_⟩;show mQ (ite _ _ _:co) (ite _ _ _:dv);by_cases hp:(l.getD 0 w0).text=jr
     ·rw[aj hp,aj hp];refine⟨?_,hr.fo,?_,hr.sk,sl _⟩
      ·show ky w.Units _ _=ky o.units _ _;rw[hr.un]
      ·show w.Lines++_=o.lines++_;rw[hr.li]
     ·rw[ai hp,ai hp];refine⟨hr.un,?_,?_,hr.sk,sl _⟩
      ·show jm _ _ w.Fors=jm _ _ o.fors;rw[hr.fo]
      ·show w.Lines++_=o.lines++_;rw[hr.li]
theorem q_ (w:dv) (l:List Wd) (e:Int) (h1:1<l.length) (f:V) (J:V->Option (de×dv)) (q:w.Skips.length<=1000000):∀ (n:Nat) (a S:List V),w.Skips=S++a->a.length<n ->
  bP (λ_=>none) (CK w (nt l e) J f) n (S.length:Int)=if (a.any λs=>decide (s=f))=true then some ((⟨222,pr l 1⟩:de),w) else J f:=by
 intro n
 induction n with
 |zero=>intro a S _ h;omega
 |succ n m=>
  intro a S j p;rw[iB];generalize i:bP (λ_=>none) (CK w (nt l e) J f) n=ag;unfold CK;have b:w.Skips.length=S.length+a.length:=by rw[j,aa]
  cases a with
  |nil=>
   rw[aB] at b;rw[ai (by rintro h;cases h)];exact fc rfl
  |cons s a=>
   rw[ab] at b p;have hg:w.Skips[S.length]?=some s:=by rw[j];simp
   have g:=m a (S++[s]) (by rw[j,av];rfl) z1;rw[i,show (S++[s]).length=S.length+1 by simp] at g
   push_cast at g
   refine eQ (aV (iu hg) ?_);rw[List.any_cons];by_cases k:s=f
   ·rw[an k,Bool.true_or,aj rfl];exact ca rfl (aV (iu (uY (nF w0 h1))) rfl)
   ·rw[ah k,Bool.false_or];exact bR rfl (gO g)
theorem r_ {o:co} {w:dv} (hi:gH o) (hr:mQ o w) (l:List Wd) (e:Int) (S fs:List V) (put:Bool) (b:V) (Q:S=xw put b l.length) (P:fs.length=l.length) (hb:l.length<=1000) (J:Option (de×dv))
  (t:∀k,k<l.length->1<k->(fs.getD k fu=fu↔(put=true/\k=2))) :
  ∀ (n:Nat) (A B:List V) (C D:List Wd),fs=A++B->l=C++D->A.length=C.length->1<A.length->B.length<n ->
  bP (λ_=>none) (CL w (nt l e) S fs J) n (A.length:Int)=match oB o A.length B D with | some a=>some ((⟨223,a⟩:de),w) | none=>J:=by
 have K:=hi.ul;have N:=hi.ll;intro n
 induction n with
 |zero=>intro A B C D _ _ _ _ h;omega
 |succ n F=>
  intro A B C D hA y j h1 M;rw[iB];generalize u:bP (λ_=>none) (CL w (nt l e) S fs J) n=ag;unfold CL;have g:fs.length=A.length+B.length:=by rw[hA,aa]
  have v:l.length=C.length+D.length:=by rw[y,aa]
  cases B with
  |nil=>
   rw[aB] at g;exact fc rfl
  |cons f B=>
   cases D with
   |nil=>rw[ab] at g;rw[aB] at v;omega
   |cons x D=>
    rw[ab] at g M;have i:fs[A.length]?=some f:=by rw[hA];simp
    have r:l[A.length]?=some x:=by rw[y,j];simp
    have s:S[A.length]?=some (if put=true/\A.length=2 then sH else fu):=by
     rw[Q];unfold xw;rw[cx,mI z1];show some (if A.length=0 then b else _)=_
     rw[ai z1]
    have d:=t A.length z1 h1;rw[show fs.getD A.length fu=f by rw[cR,i];rfl] at d;have m:=F (A++[f]) B (C++[x]) D (by rw[hA,av];rfl) (by rw[y,av];rfl) (by simp[j]) (by rw[aa];omega) z1;rw[u,show (A++[f]).length=A.length+1 by simp] at m
    push_cast at m
    have z:(grd (I64 ((A.length:Int)+1))<|ag ((A.length:Int)+1))=match oB o (A.length+1) B D with | some a=>some ((⟨223,a⟩:de),w) | none=>J:=gO m
    refine eQ (cL (aV (iu s) ?_));rw[oB];by_cases h2:put=true/\A.length=2
    ·rw[aj h2,ai (λh=>h.2.1 (d.2 h2))];exact bR (by decide) z
    ·rw[ai h2];refine ca (by decide) (aV (iu i) (aV (Cx w f (by rw[hr.un];omega)) ?_));rw[hr.un,<-hi.pl];have q:f≠fu:=λh=>h2 (d.1 h);cases hp:cf f o.place with
     |none=>
      rw[aj ⟨h1,q,rfl⟩];exact ca (by decide) (aV (iu (uY r)) rfl)
     |some p=>
      have h3:=hp;rw[hi.pl] at h3;have R:=(xm h3).1;rw[ai (λh=>by cases h.2.2)];exact bR (ah (by show ¬p<0;omega)) z
structure s_ (l:List Wd) (e:Int) (S:List V):Prop where
 err:pQ e S l=wj (nV l e)
 ok:¬0<=nV l e->S=xw (decide ((l.getD 0 w0).text=jr)) (l.getD 0 w0).text l.length
 len:S.length<=10
 vb:(l.getD 0 w0).text=jr\/(l.getD 0 w0).text=cAs\/(l.getD 0 w0).text=og
theorem t_ {R a:Type} {f:(a->Option R)->Option R} {j:a->Option R} {r:Option R} (b:a->Prop) (h:∀J,(∀S,b S->J S=r)->f J=r) (hj:∀S,b S->j S=r):cm f j=r:=cL (h j hj)
set_option maxHeartbeats 1000000 in
theorem u_ {o:co} {w:dv} (hi:gH o) (hr:mQ o w) (l:List Wd) (e:Int) (he:0<=e) (h0:0<l.length) (hl:l.length<=1000000) (ha:∀w∈l,0<=w.at_) (hw:∀w∈l,w.text.size<=65536):FU w (nt l e)=some (zJ w o l e):=by
 have a6:=hi.ul;have a7:=hi.ll;have Q:=hr.sl;rw[hr.li] at Q;have u:cj (nt l e) 0=some (rW (l.getD 0 w0)):=iu (i:=0) (uY (nF w0 h0));have a4:=CN l e;unfold FU zJ;by_cases h1:o.lines.length=256
 ·rw[aj h1];exact ca (by rw[hr.li,h1];rfl) (aV u rfl)
 rw[ai h1];refine bR (by rw[hr.li];exact aA.2 z1) (t_ (s_ l e) (λJ hJ=>?_) (λS K=>?_))
 ·refine gO (aV u ?_);by_cases hp:(l.getD 0 w0).text=jr
  ·refine ca (an hp) (hJ _ ⟨k_ he ha h0 hp,λh=>?_,by decide,.inl hp⟩);rcases zx he ha h0 h with h|h|h
   ·rw[h.2.1,hp];decide
   ·rw[h.1] at hp;exact absurd hp iX.1
   ·rw[h.1] at hp;exact absurd hp iX.2.1
  ·refine bR (ah hp) ?_;by_cases g:(l.getD 0 w0).text=og
   ·refine ca (an g) (hJ _ ⟨l_ he ha h0 g,λh=>?_,by decide,.inr (.inr g)⟩);rcases zx he ha h0 h with h|h|h
    ·exact absurd h.1 hp
    ·rw[h.1] at g;exact absurd g (λh=>iX.2.2.1 h.symm)
    ·rw[h.2,g];decide
   ·refine bR (ah g) ?_;by_cases j:(l.getD 0 w0).text=cAs
    ·refine ca (an j) ((n_ l e J bN 3 z1 z1 (by unfold bN;omega)).trans (hJ _ ⟨m_ he ha h0 j,λh=>?_,by rw[ab,mV];omega,.inr (.inl j)⟩));rcases zx he ha h0 h with h|h|h
     ·exact absurd h.1 hp
     ·have h5:l.length=3\/l.length=4\/l.length=5\/l.length=6:=by omega
      rcases h5 with h5|h5|h5|h5<;>rw[h5,j]<;>decide
     ·exact absurd h.1 g
    ·refine bR (ah j) (aV u ?_);have n:nV l e=pr l 0:=by unfold nV;rw[ai hp,ai j,ai g]
     have a1:0<=pr l 0:=ha _ (aF (nF w0 h0));rw[n,aj a1];rfl
 ·refine cL ((j_ w l e S _ z1 (by have:=K.len;omega) bN S l [] [] rfl rfl rfl (by have:=K.len;unfold bN;omega)).trans ?_);rw[K.err];unfold wj;by_cases h2:0<=nV l e
  ·rw[aj h2,aj h2]
  rw[ai h2,ai h2];have z:=K.ok h2;have r:=zx he ha h0 h2;have q:=K.vb;have hg:cj S 0=some (l.getD 0 w0).text:=by
   rw[z];refine iu (i:=0) ?_;unfold xw;rw[cx,mI h0];rfl
  have N:(l.getD 0 w0).text≠fu:=by
   rcases q with h|h|h<;>rw[h]
   ·exact iX.2.2.2.1
   ·exact iX.2.2.2.2.1
   ·exact iX.2.2.2.2.2.1
  have M:(l.getD 0 w0).text≠sH:=by
   rcases q with h|h|h<;>rw[h]<;>decide
  have h6:l.length<=6:=by rcases r with h | h | h<;>omega
  have a0:2<=l.length:=by rcases r with h | h | h<;>omega
  have a5:(l.getD 0 w0).text.size<=65536:=hw _ (aF (nF w0 h0));refine cL (aV hg ((o_ w l e S (decide ((l.getD 0 w0).text=jr)) (l.getD 0 w0).text _ z1 hw z N M bN l [] [] (l.getD 0 w0).text rfl rfl (by unfold bN;omega) (by rw[aB];omega)).trans ?_));cases hf:k9 (decide ((l.getD 0 w0).text=jr)) ([]:List Wd).length l with
  |inl a=>
   rfl
  |inr fs=>
   obtain⟨fs,s⟩:=fs;have hf:k9 (decide ((l.getD 0 w0).text=jr)) 0 l=.inr (fs,s):=hf;have v:=Cl _ _ _ _ _ hf;have m:=λ(k:Nat) (hk:k<l.length)=>rR k (l:=fs) fu z1;have Z:cj (nt l e) 1=some (rW (l.getD 1 w0)):=iu (i:=1) (uY (nF w0 z1));show cm _ _=some (ite ((l.getD 0 w0).text=og) _ _);rw[bj];refine cL (aV hg ?_);by_cases g:(l.getD 0 w0).text=og
   ·rw[aj g];have aw:(fD fs 1).size<=65536:=by
     have:=(zy hf 1 z1 z1).1;rw[this];have:=Fx (l.getD 1 w0).text;omega
    refine ca (an g) (cL (aV (m 1 z1) (aV (Ik _ aw) ((q_ w l e z1 _ _ z1 bN w.Skips [] rfl (by unfold bN;omega)).trans ?_))));show (if (w.Skips.any λs=>decide (s=jV (fD fs 1)))=true then _ else _)=_
    rw[<-hr.sk];by_cases hb:(cf (jV (fD fs 1)) o.skips).getD false=true
    ·rw[aj hb,aj hb]
    ·rw[ai hb,ai hb];exact gO (dI (by rw[hr.li];omega) rfl)
   ·rw[ai g];refine bR (ah g) (aV (m 1 z1) (aV (P1 hi (hr.rel hi) _) ?_));show G (nb o (fD fs 1)) _ _=_;cases hb:nb o (fD fs 1) with
    |true=>rw[aj rfl];exact ca rfl (aV Z rfl)
    |false=>
     rw[ai (by simp)];refine bR rfl (cL ?_);have ag:∀k,k<l.length->1<k->(fs.getD k fu=fu↔(decide ((l.getD 0 w0).text=jr)=true/\k=2)):=λk hk a8=>by
      obtain⟨g1,g2⟩:=Jt _ _ _ _ _ hf k _ (nF w0 hk);rw[Nat.zero_add] at g1 g2;rw[cR,g1,gg];by_cases hc:decide ((l.getD 0 w0).text=jr)=true/\k=2
      ·rw[aj (.inr hc)];exact⟨λ_=>hc,λ_=>rfl⟩
      ·have hn:¬(k=0\/(decide ((l.getD 0 w0).text=jr)=true/\k=2)):=λh=>by rcases h with h | h;omega;exact hc h
       rw[ai hn];exact⟨λh=>absurd h (g2 hn),λh=>absurd h hc⟩
     have ao:fs.take 2++fs.drop 2=fs:=bo ..;have X:l.take 2++l.drop 2=l:=bo ..;have n:=λJ=>r_ hi hr l e S fs (decide ((l.getD 0 w0).text=jr)) (l.getD 0 w0).text z v z1 J ag bN (fs.take 2) (fs.drop 2) (l.take 2) (l.drop 2) ao.symm X.symm (by rw[aZ,aZ];omega) (by rw[aZ];omega) (by rw[aR];unfold bN;omega);have P:(fs.take 2).length=2:=by rw[aZ];omega
     rw[P] at n;refine (n _).trans ?_;have C:oB o 0 fs l=oB o 2 (fs.drop 2) (l.drop 2):=by
      match fs,l,v,a0 with
      |a::b::fs,x::y::l,_,_=>
       rw[oB,ai (λh=>by omega),oB,ai (λh=>by omega)];rfl
     rw[C];have D:=C;cases W:oB o 2 (fs.drop 2) (l.drop 2) with
     |some a=>rfl
     |none=>
      rw[W] at D;show cm _ _=some ((⟨0,0⟩:de),ite ((l.getD 0 w0).text=jr) _ _);refine cL (aV hg ?_);by_cases hp:(l.getD 0 w0).text=jr
      ·rw[aj hp];have h4:l.length=4:=by
        rcases r with h|h|h
        ·exact h.2.1
        ·rw[h.1] at hp;exact absurd hp iX.1
        ·exact absurd h.1 g
       have R:=(zy hf 3 z1 z1).2;have h3:=FA o fs l 0 v D 3 _ (FB z1) z1 R;obtain⟨p,B⟩:=kC.1 h3;have t:=B;rw[hi.pl] at t;have a3:=xm t;have A:=Cx w (fD fs 3) (by rw[hr.un];omega);rw[hr.un,t,gg] at A;have a2:w.Units.length=o.units.length:=by rw[hr.un]
       have c1:ee w.Units 0 (p+1)=w.Units.take (p+1).toNat:=by
        unfold ee;show (List.drop 0 _).take _=_;rw[fj];congr 1
       have c2:ee w.Units (p+1) (w.Units.length:Int)=w.Units.drop (p+1).toNat:=by
        unfold ee;rw[ff (by rw[aR];omega)]
       refine bR (by rw[hp];exact ah (λh=>iX.1 h.symm)) (aV (m 3 z1) (aV A (gO (gO ?_))));rw[c1,c2,B,gg,bj];have lt:(w.Units.take (p+1).toNat).length<=w.Units.length:=by rw[aZ];omega
       have ld:(w.Units.drop (p+1).toNat).length<=w.Units.length:=by rw[aR];omega
       refine dI (by show 0+_<=_;omega) (aV (m 1 z1) (gO (dI ⟨by omega,by omega,eV _⟩ (dI (by rw[aa];show _+1+_<=_;omega) (dI (by rw[hr.li];omega) ?_)))));unfold ky;rw[av];rfl
      ·rw[ai hp];have j:(l.getD 0 w0).text=cAs:=by rcases q with h | h | h;exact absurd h hp;exact h;exact absurd h g
       have F:ee fs 2 ((fs.length:Nat):Int)=fs.drop 2:=IX fs 2;refine ca (by rw[j];rfl) (aV (m 1 z1) (dI ⟨by omega,by omega,eV _⟩ ?_));rw[F];exact dI (by rw[hr.li];omega) rfl
theorem QB:∀ (l a:List UInt8),lJ l a=match l.dropWhile (λc=>c != 10) with | []=>[a++l] | _::r=>(a++l.takeWhile λc=>c != 10)::lJ r []
 |[],a=>by rw[lJ,aE];rfl
 |c::l,a=>by
  rw[lJ,List.dropWhile_cons,aY];by_cases h:c=10
  ·subst h;rw[aj rfl];show a::lJ l []=(a++[])::lJ l [];rw[aE]
  ·have hc:(c != 10)=true:=cQ.2 h;rw[ai h,hc,aj rfl,aj rfl,QB l];cases l.dropWhile λc=>c != 10 with
   |nil=>show [a++[c]++l]=[a++c::l];rw[av];rfl
   |cons d r=>show (a++[c]++_)::_=(a++c::_)::_;rw[av];rfl
theorem v_ (l:List UInt8):∃a,l=(l.takeWhile λc=>c != 10)++a/\((a=[]/\lJ l []=[l.takeWhile λc=>c != 10])\/∃r,a=10::r/\lJ l []=(l.takeWhile λc=>c != 10)::lJ r []):=by
 have b:l=l.takeWhile (λc=>c != 10)++l.dropWhile λc=>c != 10:=List.takeWhile_append_dropWhile.symm;refine⟨l.dropWhile λc=>c != 10,b,?_⟩;have g:=QB l [];have h:=lA (λc:UInt8=>c != 10) l;cases hd:l.dropWhile (λc=>c != 10) with
 |nil=>
  rw[hd] at g b;rw[aE] at b;refine .inl ⟨rfl,?_⟩;rw[g,<-b];rfl
 |cons d r=>
  rw[hd] at g h;have h3:(d != 10)=false:=by simpa using h
  rw[bne_eq_false_iff_eq.1 h3];refine .inr ⟨r,rfl,?_⟩;rw[g];rfl
theorem w_ (text:V) (l:text.size<=1000000) (J:Int->Option ((Option dv)×de)) : ∀ (n:Nat) (B A:List UInt8),text.data.toList=A++B->B.length<n->bP (λ_=>none) (CM text J) n (A.length:Int)=J ((A.length+(B.takeWhile λc=>c != 10).length:Nat):Int):=by
 intro n
 induction n with
 |zero=>intro B A _ h;omega
 |succ n i=>
  intro B A b j;rw[iB];generalize g:bP (λ_=>none) (CM text J) n=ag;unfold CM;have a:text.size=A.length+B.length:=by rw[jK,b,aa]
  cases B with
  |nil=>
   rw[aB] at a;exact fc rfl
  |cons c B=>
   rw[ab] at a j;have hg:=Ch text A.length c (by rw[b];simp);refine eQ (aV hg ?_);rw[aY];by_cases hc:c=10
   ·subst hc;exact bR rfl rfl
   ·have h1:(((c.toNat:Int):Int) != 10)=true:=cQ.2 λh=>hc (gv.1 (by show c.toNat=10;omega));have h2:(c != 10)=true:=cQ.2 hc;rw[h2,aj rfl];have d:=i B (A++[c]) (by rw[b,av];rfl) z1;rw[g,show (A++[c]).length=A.length+1 by simp] at d
    push_cast at d
    refine ca h1 (gO ?_);rw[d,ab];congr 1
    push_cast;omega
def RR (q:Option co×de) (r:Option ((Option dv)×de)):Prop :=
 (∃a w',q=(some a,⟨0,0⟩)/\r=some (some w',⟨0,0⟩)/\mQ a w')\/(q.1=none/\r=some (none,q.2))
theorem x_ (text:V) (hs:text.size<=65536):∀ (n at_:Nat) (o:co) (w:dv),gH o->mQ o w->at_<=text.size+1->text.size+1-at_<n ->
  RR (qT o (at_:Int) (if at_<=text.size then lJ (text.data.toList.drop at_) [] else []))
   (bP (λ_ _ _ _ _=>none) (ue text (λ(o1:List V) (t:List (V×List V)) (s:List V) (m:List V)=>some ((some (⟨o1,t,s,m⟩:dv)),(⟨0,0⟩:de)))) n w.Units w.Fors w.Skips w.Lines (at_:Int)):=by
 intro n
 induction n with
 |zero=>intro at_ o w _ _ _ h;omega
 |succ n P=>
  intro at_ o w hi hr W hn;rw[iB];generalize X:bP (λ_ _ _ _ _=>none) (ue text (λ(o1:List V) (t:List (V×List V)) (s:List V) (m:List V)=>some ((some (⟨o1,t,s,m⟩:dv)),(⟨0,0⟩:de)))) n=ag at P;by_cases ha:at_<=text.size
  ·rw[aj ha];have hA:(text.data.toList.take at_).length=at_:=by rw[aZ,<-jK];omega
   have d:=λJ=>w_ text z1 J bN (text.data.toList.drop at_) (text.data.toList.take at_) (bo _ _).symm (by rw[aR,<-jK];unfold bN;omega);rw[hA] at d;obtain⟨v,g,b⟩:=v_ (text.data.toList.drop at_);generalize Q:(text.data.toList.drop at_).takeWhile (λc=>c != 10)=run at d g b;have j:text.size-at_=run.length+v.length:=by
    have:=aI fS g;rw[aR,<-jK,aa] at this;exact this
   have Z:∃xs,lJ (text.data.toList.drop at_) []=run::xs/\xs=(if at_+run.length+1<=text.size then lJ (text.data.toList.drop (at_+run.length+1)) [] else []):=by
    rcases b with⟨h,M⟩|⟨r,h,M⟩
    ·rw[h,aB] at j;exact⟨[],M,by rw[ai z1]⟩
    ·rw[h,ab] at j;refine⟨lJ r [],M,?_⟩;rw[aj z1];congr 1;rw[show at_+run.length+1=at_+(run.length+1) by omega,<-fY,g,h,show run++10::r=(run++[10])++r by simp,List.drop_left' (by simp)]
   obtain⟨xs,D,C⟩:=Z;rw[D];have next:=λ(B:co) (w':dv) (h1:gH B) (h2:mQ B w')=>P (at_+run.length+1) B w' h1 h2 z1 z1;rw[<-C] at next
   push_cast at next
   have hc:(at_:Int)+((run.length:Int)+1)=(at_:Int)+(run.length:Int)+1:=by omega
   have R:∀K:Option ((Option dv)×de),ue text (λ(o1:List V) (t:List (V×List V)) (s:List V) (m:List V)=>some ((some (⟨o1,t,s,m⟩:dv)),(⟨0,0⟩:de))) ag w.Units w.Fors w.Skips w.Lines (at_:Int)=K->RR (qT o (at_:Int) (run::xs)) K->RR (qT o (at_:Int) (run::xs)) (ue text (λ(o1:List V) (t:List (V×List V)) (s:List V) (m:List V)=>some ((some (⟨o1,t,s,m⟩:dv)),(⟨0,0⟩:de))) ag w.Units w.Fors w.Skips w.Lines (at_:Int)):=λK h1 h2=>by rw[h1];exact h2
   have a:=i_ text at_ (at_+run.length) z1 z1 z1;have F:(text.data.toList.drop at_).take (at_+run.length-at_)=run:=by
    rw[show at_+run.length-at_=run.length by omega,g,lD]
   rw[F] at a
   push_cast at a
   have A:I64 ((at_:Int)+(run.length:Int)+1):=⟨by omega,by omega⟩;obtain⟨w1,N⟩:=xn run 0 none;have N:(iL run 0 none).length<=run.length+0:=N;rw[qT];by_cases h0:iL run 0 none=[]
   ·rw[aj h0,hc];refine Eq.mp (aI (RR _) ?_) (next o w hi hr);symm;unfold ue;refine eQ (cL ((d _).trans ?_))
    push_cast
    refine cL (aV a (bR (ah (by rw[CN,h0];show ¬(1:Int)<((0+1:Nat):Int);omega)) (dI A rfl)))
   ·rw[ai h0];have i:0<(iL run 0 none).length:=dh.2 h0;have l:∀x∈(iL run 0 none).map (kS (at_:Int)),0<=x.at_:=λx hx=>by
     obtain⟨p,hp,rfl⟩:=aT.1 hx;show 0<=(at_:Int)+(p.1:Int);omega
    have y:∀x∈(iL run 0 none).map (kS (at_:Int)),x.text.size<=65536:=λx hx=>by
     obtain⟨p,hp,rfl⟩:=aT.1 hx;show (ba p.2).size<=65536;rw[zq];have:p.2.length<=run.length+0:=w1 p hp;omega
    have u:=u_ hi hr ((iL run 0 none).map (kS (at_:Int))) ((at_:Int)+(run.length:Int)) z1 (by rw[ax];exact i) (by rw[ax];omega) l y;obtain⟨e1,e2⟩:=p_ hr ((iL run 0 none).map (kS (at_:Int))) ((at_:Int)+(run.length:Int));have k:=Ju hi ((iL run 0 none).map (kS (at_:Int))) ((at_:Int)+(run.length:Int)) z1 (by rw[ax];exact i) l y;have S:(nt ((iL run 0 none).map (kS (at_:Int))) ((at_:Int)+(run.length:Int))).length=(iL run 0 none).length+1:=by rw[CN,ax]
    have z:(⟨w.Units,w.Fors,w.Skips,w.Lines⟩:dv)=w:=rfl;generalize zJ w o ((iL run 0 none).map (kS (at_:Int))) ((at_:Int)+(run.length:Int))=r at u e1 e2;generalize qw o ((iL run 0 none).map (kS (at_:Int))) ((at_:Int)+(run.length:Int))=q at e1 e2 k |-
    by_cases h1:q.1.Err=0
    ·rw[aj h1,hc];refine Eq.mp (aI (RR _) ?_) (next q.2 r.2 k e2);symm;unfold ue;refine eQ (cL ((d _).trans ?_))
     push_cast
     refine cL (aV a (eQ ?_));rw[z];exact aV u (bR (by rw[e1,h1];rfl) (dI A rfl))
    ·rw[ai h1];refine .inr ⟨rfl,?_⟩;unfold ue;refine eQ (cL ((d _).trans ?_))
     push_cast
     refine cL (aV a (eQ ?_));rw[z];refine aV u (ca (by rw[e1];exact cQ.2 h1) ?_);rw[e1]
  ·rw[ai ha];refine .inl ⟨o,w,rfl,?_,hr⟩;unfold ue;exact fc rfl
theorem QC (text:V):RR (ub text) (zH text):=by
 unfold ub;by_cases h:65536<text.size
 ·rw[aj h];refine .inr ⟨rfl,?_⟩;unfold zH;exact eQ rfl
 ·rw[ai h];have:=x_ text z1 bN 0 ua ⟨pO,[],[],[]⟩ FC d_ (bT _) (by unfold bN;omega);rw[aj (bT _),fj] at this;refine Eq.mp (aI (RR _) ?_) this;symm;unfold zH;exact fc (cL (aV c_ rfl))
def FW (a:V):Option ((Option co)×(Option dv)) := cm (λ(b:(Option co)->(Option dv)->Option ((Option co)×(Option dv)))=>T (zt a) λ(r1:((Option co)×de))=>T (zH a) λ(r2:((Option dv)×de))=>G ((r2.2.Err:Int) != 0) (T (zt (⟨#[]⟩:V)) λ(r3:((Option co)×de))=>T (zH (⟨#[]⟩:V)) λ(d:((Option dv)×de))=>b r3.1 d.1) (b r1.1 r2.1)) (λ(h:Option co) (g:Option dv)=>some (h,g))
theorem y_ {a:V} {r:((Option co)×(Option dv))} (h:FW a=some r):Fn prog 5 [.string a] [] (λb:Value×Value=>.tuple #[b.1,b.2]) (λb=>[kN oT oU 69 b.1 r.1,kN rC rD 86 b.2 r.2]):=by
 refine Fn.intro func5 rfl ntmps5 (by simp) (λw0 K=>cJ ((Option co)×(Option dv)×Value×Value) h 3 rfl (λs b=>s b.1 b.2.1=some r) (λb=>[]) (λb=>[(4,b.2.2.1),(6,b.2.2.2)]) (λb=>[kN oT oU 69 b.2.2.1 b.1,kN rC rD 86 b.2.2.2 b.2.1]) (λs h cut=>I (O 2 rfl (cw (O 1 rfl (aU h λr1 n h=>ir [.string a] rfl dc rfl rfl rfl G1 (Jp n) aC (λd=>kL [kN oT oU 69 d r1.1] (cO 1) (O 1 rfl (fF rfl dc rfl rfl (fF rfl dc rfl rfl (fZ uA rfl dc (λb1=>O 1 rfl (fI 1 (mh r1.2) (mh r1.2) lR rfl rfl rfl rfl rfl (show _<=_ by simp) rfl rfl (cw (O 1 rfl (aU h λr2 m h=>ir [.string a] rfl dc rfl rfl rfl L5 (Qx m) aC (λg=>kL [kN oT oU 69 d r1.1,cells b1 (mh r1.2) 38,kN rC rD 86 g r2.1] (cO 3) (O 1 rfl (fF rfl dc rfl rfl (fF rfl dc rfl rfl (fZ uA rfl dc (λt=>O 1 rfl (fI 3 (mh r2.2) (mh r2.2) lR rfl rfl rfl rfl rfl (show _<=_ by simp) rfl rfl (Y (cut (I (ci GO rfl dc rfl (show _=0 from rfl) (bW 3 GN rfl dc rfl rfl rfl (E rfl nh (Y (bu rfl h (λh=>I (aU h λr3 l h=>ir [.string (⟨#[]⟩:V)] rfl dc rfl rfl rfl G1 (Jp l) aC (λi=>kL [kN oT oU 69 d r1.1,cells b1 (mh r1.2) 38,kN rC rD 86 g r2.1,cells t (mh r2.2) 38,kN oT oU 69 i r3.1] (cO 5) (O 1 rfl (fF rfl dc rfl rfl (fF rfl dc rfl rfl (O 1 rfl (Y (bX (aU h λq j h=>ir [.string (⟨#[]⟩:V)] rfl dc rfl rfl rfl L5 (Qx j) aC (λp=>kL [kN oT oU 69 d r1.1,cells b1 (mh r1.2) 38,kN rC rD 86 g r2.1,cells t (mh r2.2) 38,kN oT oU 69 i r3.1,kN rC rD 86 p q.1] (cO 6) (O 1 rfl (fF rfl dc rfl rfl (fF rfl dc rfl rfl (O 1 rfl (bC (iW (r3.1,q.1,i,p) h rfl (gl rfl) (ct [4,5] kr rfl)))))))))))))))))) (λh=>bw (iW (r1.1,r2.1,d,g) h rfl (gl rfl) (ct [0,2] kr rfl))))))))))))))))))))))))))))))))) ?_);rintro⟨v,u,v1,v2⟩ h;refine I (O 4 rfl (Y (bO ?_)));cases h;exact eW [.tmp 2,.tmp 3] (v1,v2) (.inl rfl) results5 (.cons (.tmp rfl) (.cons (.tmp rfl) .nil)) rfl (cO 2)
theorem z_ (text:V):∃w,FW text=some (some (uc text),some w)/\mQ (uc text) w:=by
 have a:=QC text;have h0:=QC (⟨#[]⟩:V);unfold FW uc;rcases Jw text with⟨o,h,hi⟩|⟨e,h,he⟩
 ·rw[h] at a |-
  rcases a with⟨b,w',e1,e2,d⟩|⟨e1,_⟩
  ·injection e1 with e1 _;injection e1 with e1;subst e1;exact⟨w',cL (aV ((Jv text).trans (by rw[h])) (aV e2 (bR rfl rfl))),d⟩
  ·cases e1
 ·rw[h] at a |-
  rcases a with⟨b,w',e1,_,_⟩|⟨_,e2⟩
  ·injection e1 with e1 _;cases e1
  ·rw[PP] at h0;rcases h0 with⟨b,w',f1,f2,f3⟩|⟨f1,_⟩
   ·injection f1 with f1 _;injection f1 with f1;subst f1;exact⟨w',cL (aV ((Jv text).trans (by rw[h])) (aV e2 (ca (cQ.2 he) (aV ((Jv _).trans (by rw[PP])) (aV f2 rfl))))),f3⟩
   ·cases f1
theorem A_ {α:Type} {a b c d k j i g:α} (h:[a,b,c,d]=[k,j,i,g]):d=g:=by
 injection h with _ h;injection h with _ h;injection h with _ h;injection h with h _
theorem B_ {α:Type} (a b c d:α):[a,b,c,d].length=4:=rfl
theorem C_ {o:co} {a b:V} (h:jL o a=jL o b):a=b:=by
 unfold jL at h;exact rP (A_ h)
theorem zK (o:co) (a:V):(jL o a).length=4:=by
 unfold jL;exact B_ _ _ _ _
theorem D_ (o:co) (a b:V):((jq 1 (jL o a) (jL o b)).1=-1\/(jq 1 (jL o a) (jL o b)).1=0\/(jq 1 (jL o a) (jL o b)).1=1)/\((jq 1 (jL o a) (jL o b)).1=0↔a=b):=by
 have g:(jL o a).length=(jL o b).length:=by rw[zK,zK]
 rcases Fj (jL o a) (jL o b) 1 z1 g with⟨e,h⟩|⟨h1,_,_,h⟩
 ·have d:=C_ h;rw[e];exact⟨.inr (.inl rfl),λ_=>d,λ_=>rfl⟩
 ·exact⟨by omega,λh0=>by omega,λd=>absurd (by rw[d]) h⟩
def CP (o1:co) (m:V) (j:List V) (p:Int->Bool->Option (Int×Bool)) (h:Int->Bool->Int->Option (Int×Bool)) (g:Int) (a:Bool) (d:Int):Option (Int×Bool) := G (decide ((d:Int)<(j.length:Int))) (cm (λ(l:Int->Bool->Option (Int×Bool))=>cm (λ(k:Int->Int->Option (Int×Bool))=>T (cj j d) λ(q1:V)=>T (zl o1 q1 m) λ(r1:(Int×Int))=>G (decide ((r1.1:Int)<0)) (grd (I64 (g+1)) <|k (g+1) r1.1) (k g r1.1)) (λ(i:Int) (c1:Int)=>G (a) (l i true) (l i ((c1:Int)==0)))) (λ(n:Int) (b:Bool)=>grd (I64 (d+1)) <|h n b (d+1))) (p g a)
def FX (o1:co) (b:V) (g:List V):Option (Int×Bool) := cm (λ(h:Int->Bool->Option (Int×Bool))=>bP (λ_ _ _=>none) (CP o1 b g h) bN 0 false 0) (λ(d:Int) (a:Bool)=>some (d,a))
theorem E_ (_p:Nat) (o1:co) (_g _c _d _f _q:Hd) {p:V} {m g:Value} {z:List V} {t:Nat} {u:List V} (k:Vw m z 1 t g u) {r:(Int×Bool)} (h:FX o1 p u=some r):gu prog 8 [zP _p,.string p,g] [cells _p [_g.v,.map (some (bc _c)),.map (some (bc _d)),.map (some (bc _f)),_q.v] 69,bq _g.v o1.units,cH (λn:V=>ad n) (λn:Int=>az .i64 n) (bc _c) o1.place,dV (bc _d) o1.fors,cH (λn:V=>ad n) (λn:Bool=>ap n) (bc _f) o1.skips,bq _q.v o1.lines,iM gK 1 m t z] [] (λ_:Unit=>(.tuple #[zI r.1,.bool r.2])) (λ_=>[]):=by
 refine gu.intro func8 rfl ntmps8 (by simp) (λw0 K x=>I (O 2 rfl (Y (bV (I (O 1 rfl (E rfl (Dq ve) (Y (eU rfl (bw (cu (cJ (Int×Bool) h 1 rfl (λC b=>C b.1 b.2=some r) (λb=>[]) (λb=>[(8,zI b.1),(9,.bool b.2)]) (λb=>[]) (λC h cut=>?_) ?_))))))))))))
 ·refine I (O 2 rfl (Y (cut (I (O 1 rfl (jl k rfl dc rfl ay (O 1 rfl (Y (ck (fP (Int×Bool×Int) (CP o1 p u C) (λa b=>a b.1 b.2.1 b.2.2=some r) (λb=>[]) (λb=>[(0,zP _p),(1,.string p),(8,zI b.1),(9,.bool b.2.1),(16,g),(17,zI (u.length:Int)),(18,zI b.2.2)]) (λb=>[]) (0,false,0) h 0 ?_))))))))));rintro R ⟨B,d,w⟩ h;refine I (E rfl dL (Y (bV (bu rfl h (λh=>?_) (λh=>?_)))))
  ·refine bw (cu (cJ (Int×Bool) h 0 rfl (λP b=>P b.1 b.2=some r) (λb=>[]) (λb=>[(0,zP _p),(1,.string p),(8,zI b.1),(9,.bool b.2),(16,g),(17,zI (u.length:Int)),(18,zI w)]) (λb=>[]) (λP h cut=>?_) ?_))
   ·refine cut (ck (cJ (Int×Int) h 2 rfl (λN b=>N b.1 b.2=some r) (λb=>[]) (λb=>[(0,zP _p),(1,.string p),(8,zI b.1),(9,.bool d),(12,zI b.2),(16,g),(17,zI (u.length:Int)),(18,zI w)]) (λb=>[]) (λN h cut=>I (aU h λq1 y h=>gm k y ay gV rfl dc rfl rfl rfl (km 6 (t+(w:Int).toNat) 0 q1 x rfl z1 eJ rfl dc rfl (cq k y) rfl rfl (O 1 rfl (cw (O 3 rfl (aU h λr1 D h=>kZ (.tuple #[zI r1.1,zI r1.2]) [zP _p,.string q1,.string p] x rfl dc rfl rfl rfl G2 (I6 _p o1 _g _c _d _f _q D) (.ro 0 rfl (.ro 1 rfl (.ro 2 rfl (.ro 3 rfl (.ro 4 rfl (.ro 5 rfl .nil)))))) (O 1 rfl (fF rfl dc rfl rfl (fF rfl dc rfl rfl (O 2 rfl (Y (cut (I (O 1 rfl (E rfl dL (bC (cu (bu rfl h (λh=>bX (O 1 rfl (bi h λJ h=>E rfl (c8 (B+1) (ac _ J)) (O 1 rfl (bC (mD (B+1,r1.1) h 0)))))) (λh=>bw (mD (B,r1.1) h 0))))))))))))))))))))) ?_));rintro⟨M,c1⟩ h;exact bX (O 2 rfl (du 34 rfl h (λh=>O 4 rfl (bC (cg (mD (M,true) h 0)))) (λh=>O 1 rfl (E rfl eZ (O 2 rfl (bC (cg (mD (M,(c1:Int)==0) h 0))))))))
   rintro⟨Q,l⟩ h;exact bX (bi h λF h=>E rfl (c8 (w+1) (ac _ F)) (O 1 rfl (bC (mD (Q,l,w+1) h 0))))
  exact dG (bS (bS (dH (mD (B,d) h 0))))
 rintro⟨S,A⟩ h;refine I (O 4 rfl (Y (bO ?_)));cases h;exact eW [.tmp 6,.tmp 7] () (.inl rfl) results8 (.cons (.tmp rfl) (.cons (.tmp rfl) .nil)) rfl aC
def xx (b:Int) (k1:Int) (_I:co) (a:List V):Option Int := T (cj a b) λ(q1:V)=>T (cj a k1) λ(q2:V)=>T (zl _I q1 q2) λ(r1:(Int×Int))=>some r1.1
theorem FZ {p:Int} {k1:Int} (_A _J:Nat) (_I:co) (_F _E _D _C _B:Hd) (_H:Nat) {a l:Value} {w:List V} {g:Nat} {m:List V} (b:Vw a w 1 g l m) {r:Int} (h:xx p k1 _I m=some r):gu prog 15 [zI p,zI k1,zP _A,zP _H] [cells _A [zP _J] 24,cells _J [_F.v,.map (some (bc _E)),.map (some (bc _D)),.map (some (bc _C)),_B.v] 69,bq _F.v _I.units,cH (λn:V=>ad n) (λn:Int=>az .i64 n) (bc _E) _I.place,dV (bc _D) _I.fors,cH (λn:V=>ad n) (λn:Bool=>ap n) (bc _C) _I.skips,bq _B.v _I.lines,cells _H [l] 22,iM gK 1 a g w] [] (λ_:Unit=>(zI r)) (λ_=>[]):=by
 refine gu.intro func15 rfl ntmps15 (by simp) (λw0 K k=>I (O 1 rfl (Y (bV (aU h λq1 t h=>aU h λq2 s h=>aU h λr1 x h=>jU 14 [(0,10,zP _J),(1,11,l),(2,12,zI p),(3,13,.pointer (some ⟨eS a,(g+(p:Int).toNat)*1,none⟩)),(4,14,.string q1),(5,15,l),(6,16,zI k1),(7,17,.pointer (some ⟨eS a,(g+(k1:Int).toNat)*1,none⟩)),(8,18,.string q2),(9,19,.tuple #[zI r1.1,zI r1.2]),(10,9,.tuple #[zI r1.1,zI r1.2]),(11,20,zI r1.1),(12,21,zI r1.2),(13,7,zI r1.1)] mixed kr kr dc (by rfl) kr kr (bQ (λD n d c u i=>ot 0 k rfl qF rfl dc (eG (by rfl) rfl) rfl (bf 0 u i)) (bQ (λD n d c u i=>ot 7 k rfl oS rfl dc (eG (by rfl) rfl) rfl (bf 1 u i)) (gD 1 2 rfl (bQ (λD n d c u i=>gm b t ay gV rfl dc (aX 1 u d) (aX 2 u d) rfl (bf 3 u i)) (bQ (λD n d c u i=>km 8 (g+(p:Int).toNat) 0 q1 k rfl z1 eJ rfl dc (aX 3 u d) (cq b t) rfl rfl (bf 4 u i)) (bQ (λD n d c u i=>ot 7 k rfl oS rfl dc (eG (by rfl) rfl) rfl (bf 5 u i)) (gD 1 6 rfl (bQ (λD n d c u i=>gm b s ay gV rfl dc (aX 5 u d) (aX 6 u d) rfl (bf 7 u i)) (bQ (λD n d c u i=>km 8 (g+(k1:Int).toNat) 0 q2 k rfl z1 eJ rfl dc (aX 7 u d) (cq b s) rfl rfl (bf 8 u i)) (bQ (λD n d c u i=>kZ (.tuple #[zI r1.1,zI r1.2]) [zP _J,.string q1,.string q2] k rfl dc rfl (dN (aX 0 u d) (dN (aX 4 u d) (dN (aX 8 u d) evL.nil))) rfl G2 (I6 _J _I _F _E _D _C _B x) (.ro 1 rfl (.ro 2 rfl (.ro 3 rfl (.ro 4 rfl (.ro 5 rfl (.ro 6 rfl .nil)))))) (bf 9 u i)) (gD 1 10 rfl (bQ (λD n d c u i=>fF rfl dc (aX 10 u d) rfl (bf 11 u i)) (bQ (λD n d c u i=>fF rfl dc (aX 10 u d) rfl (bf 12 u i)) (gD 1 13 rfl bB)))))))))))))) (O 1 rfl (cw (O 2 rfl (Y (bO ?_))))))))));cases h;exact dt 6 results15
def CQ (a1:Int) (b1:Int) (g:Int) (d:(List Int)->Int->Option (List Int)) (b:List Int) (a:Int):Option (List Int) := G (decide ((a:Int)<g)) (grd (I64 (a1+a)) <|grd (I64 (b1+a)) <|grd (I64 (b1+a)) <|T (cj b (b1+a)) λ(q1:Int)=>grd (I64 (a1+a)) <|T (cj b (a1+a)) λ(q2:Int)=>T (cj (b.set (a1+a:Int).toNat q1) (b1+a)) λ(h:Int)=>grd (I64 (a+1)) <|d ((b.set (a1+a:Int).toNat q1).set (b1+a:Int).toNat q2) (a+1)) (some b)
def xy (_r:List Int) (a1:Int) (b1:Int) (b:Int) (_h:co) (a:List V):Option (List Int) := bP (λ_ _=>none) (CQ a1 b1 b) bN _r 0
theorem JM (_a:Value) (_r:List Int) {a1:Int} {b1:Int} {F:Int} (_o _v:Nat) (_h:co) (_m _l _k _j _i:Hd) (_n:Nat) {l s:Value} {x:List V} {t:Nat} {p:List V} (z:Vw l x 1 t s p) {r:(List Int)} (h:xy _r a1 b1 F _h p=some r):gu prog 147 [_a,zI a1,zI b1,zI F,.func (.func 15) #[] #[zP _o,zP _n]] [cells _o [zP _v] 24,cells _v [_m.v,.map (some (bc _l)),.map (some (bc _k)),.map (some (bc _j)),_i.v] 69,bq _m.v _h.units,cH (λn:V=>ad n) (λn:Int=>az .i64 n) (bc _l) _h.place,dV (bc _k) _h.fors,cH (λn:V=>ad n) (λn:Bool=>ap n) (bc _j) _h.skips,bq _i.v _h.lines,cells _n [s] 22,iM gK 1 l t x] [gn _a _r] (λ_b:Unit=>.tuple #[]) (λ_b=>[gn _a r]):=by
 unfold xy at h;refine gu.intro func147 rfl ntmps147 (by simp) (λw0 K W=>I (O 1 rfl (Y (ck (fP ((List Int)×Int) (CQ a1 b1 F) (λa b=>a b.1 b.2=some r) (λb=>[]) (λb=>[(0,_a),(1,zI a1),(2,zI b1),(3,zI F),(10,zI b.2)]) (λb=>[gn _a b.1]) (_r,0) h 1 ?_)))));rintro Z ⟨Q,g⟩ h;refine bV (I (O 2 rfl (E rfl dL (Y (bu rfl h (λh=>bw (cu (bV (ck (bi h λP h=>bi h λC h=>bi h λN h=>aU h λq1 B h=>bi h λM h=>aU h λq2 y h=>aU h λR A h=>D7 Unit 22 21 _ [(0,16,_a),(1,17,zI a1),(2,18,zI g),(3,19,zI (a1+g)),(4,20,_a),(5,21,zI b1),(6,22,zI g),(7,23,zI (b1+g)),(8,24,_a),(9,25,zI b1),(10,26,zI g),(11,27,zI (b1+g)),(12,28,.pointer (some ⟨eS _a,(b1+g:Int).toNat*1,none⟩)),(13,29,zI q1),(14,30,_a),(15,31,zI a1),(16,32,zI g),(17,33,zI (a1+g)),(18,34,.pointer (some ⟨eS _a,(a1+g:Int).toNat*1,none⟩)),(19,35,zI q2),(20,36,.pointer (some ⟨eS _a,(a1+g:Int).toNat*1,none⟩))] (λ_b=>[]) (λ_b=>[gn _a (Q.set (a1+g:Int).toNat q1)]) mixed kr kr rfl dc dc (by rfl) kr kr (p6 3 0 rfl (fw (λD n d c u i=>jX rfl dc (aX 1 u d) (aX 2 u d) (c8 (a1+g) (ac _ P)) (bf 3 u i)) (p6 3 4 rfl (fw (λD n d c u i=>jX rfl dc (aX 5 u d) (aX 6 u d) (c8 (b1+g) (ac _ C)) (bf 7 u i)) (p6 3 8 rfl (fw (λD n d c u i=>jX rfl dc (aX 9 u d) (aX 10 u d) (c8 (b1+g) (ac _ N)) (bf 11 u i)) (fw (λD n d c u i=>eN 0 B bJ gL rfl dc (aX 8 u d) (aX 11 u d) rfl rfl (bf 12 u i)) (fw (λD n d c u i=>fl 0 ((b1+g:Int).toNat) 0 q1 ed iq rfl dc (aX 12 u d) rfl (ei B) rfl dc rfl (bf 13 u i)) (p6 3 14 rfl (fw (λD n d c u i=>jX rfl dc (aX 15 u d) (aX 16 u d) (c8 (a1+g) (ac _ M)) (bf 17 u i)) (fw (λD n d c u i=>eN 0 y bJ gL rfl dc (aX 14 u d) (aX 17 u d) rfl rfl (bf 18 u i)) (fw (λD n d c u i=>fl 0 ((a1+g:Int).toNat) 0 q2 ed iq rfl dc (aX 18 u d) rfl (ei y) rfl dc rfl (bf 19 u i)) (fw (λD n d c u i=>eN 0 y bJ gL rfl dc (aX 0 u d) (aX 3 u d) rfl rfl (bf 20 u i)) (fA fX)))))))))))))) (λ_b=>(iP rfl kr (iP rfl kr (iP rfl kr (iP rfl kr (dQ (λD n d c u i=>sv rfl dc (eG (by rfl) rfl) (bf 4 u i)) (dQ (λD n d c u i=>sv rfl dc (eG (by rfl) rfl) (bf 5 u i)) (dQ (λD n d c u i=>sv rfl dc (eG (by rfl) rfl) (bf 6 u i)) (dQ (λD n d c u i=>jX rfl dc (aX 5 u d) (aX 6 u d) (c8 (b1+g) (ac _ C)) (bf 7 u i)) (iP rfl kr (iP rfl kr (iP rfl kr (iP rfl kr (iP rfl kr (iP rfl kr (iP rfl kr (iP rfl kr (iP rfl kr (iP rfl kr (iP rfl kr (iP rfl kr (iP rfl kr (lO mH))))))))))))))))))))))) (λD hn hd X=>oN 0 ((a1+g:Int).toNat) 0 q2 q1 gL iq rfl (jY 20 kr rfl (hd 20 dc)) (jY 13 kr rfl (hd 13 dc)) rfl (ei y) rfl dc rfl (λ_ _=>rfl) (λa w ha S=>⟨(),ha,S⟩)) (λ_b=>eN 0 A bJ gL rfl dc rfl rfl rfl rfl (oN 0 ((b1+g:Int).toNat) 0 R q2 gL iq rfl rfl rfl rfl (ei A) rfl dc rfl (λ_ _=>rfl) (bC (cg (cu (bX (O 1 rfl (bi h λJ h=>E rfl (c8 (g+1) (ac _ J)) (O 1 rfl (bC (mD ((Q.set (a1+g:Int).toNat q1).set (b1+g:Int).toNat q2,g+1) h 1)))))))))))))))) (λh=>dG (bS (bS (dH ?_)))))))));cases h;exact eW [] () (.inr rfl) results147 .nil rfl (cO 1)
def F0 (g:Int) (_h:co) (b:List V) (j:(List Int)->Int->Option (List Int)) (h:(List Int)->Int->Int->Option (List Int)) (i:List Int) (a:Int) (d:Int):Option (List Int) := G ((a:Int) != d) (G (decide ((d:Int)<a)) (grd (I64 (g-a)) <|T (xy i (g-a) g d _h b) λ(r1:(List Int))=>grd (I64 (a-d)) <|h r1 (a-d) d) (grd (I64 (g-a)) <|grd (I64 (g+d)) <|grd (I64 ((g+d)-a)) <|T (xy i (g-a) ((g+d)-a) a _h b) λ(r2:(List Int))=>grd (I64 (d-a)) <|h r2 a (d-a))) (j i a)
def CR (_r:List Int) (a1:Int) (b:Int) (b1:Int) (_h:co) (a:List V):Option (List Int) := cm (λ(h:(List Int)->Int->Option (List Int))=>grd (I64 (b-a1)) <|grd (I64 (b1-b)) <|bP (λ_ _ _=>none) (F0 b _h a h) bN _r (b-a1) (b1-b)) (λ(g:List Int) (d:Int)=>grd (I64 (b-d)) <|T (xy g (b-d) b d _h a) λ(r3:(List Int))=>some r3)
theorem F_ (_a:Value) (_r:List Int) {a1:Int} {g:Int} {b1:Int} (_o _v:Nat) (_h:co) (_m _l _k _j _i:Hd) (_n:Nat) {j k:Value} {m:List V} {l:Nat} {i:List V} (d:Vw j m 1 l k i) {r:(List Int)} (h:CR _r a1 g b1 _h i=some r):gu prog 125 [_a,zI a1,zI g,zI b1,.func (.func 15) #[] #[zP _o,zP _n]] [cells _o [zP _v] 24,cells _v [_m.v,.map (some (bc _l)),.map (some (bc _k)),.map (some (bc _j)),_i.v] 69,bq _m.v _h.units,cH (λn:V=>ad n) (λn:Int=>az .i64 n) (bc _l) _h.place,dV (bc _k) _h.fors,cH (λn:V=>ad n) (λn:Bool=>ap n) (bc _j) _h.skips,bq _i.v _h.lines,cells _n [k] 22,iM gK 1 j l m] [gn _a _r] (λ_b:Unit=>.tuple #[]) (λ_b=>[gn _a r]):=by
 refine gu.intro func125 rfl ntmps125 (by simp) (λw0 K s=>cJ ((List Int)×Int) h 2 rfl (λu b=>u b.1 b.2=some r) (λb=>[]) (λb=>[(0,_a),(2,zI g),(4,.func (.func 15) #[] #[zP _o,zP _n]),(10,zI b.2)]) (λb=>[gn _a b.1]) (λu h cut=>?_) ?_)
 ·refine I (O 2 rfl (bi h λP h=>E rfl (iV (g-a1) (ac _ P)) (O 1 rfl (cw (O 2 rfl (bi h λN h=>E rfl (iV (b1-g) (ac _ N)) (O 1 rfl (Y (cut (ck (fP ((List Int)×Int×Int) (F0 g _h i u) (λa b=>a b.1 b.2.1 b.2.2=some r) (λb=>[]) (λb=>[(0,_a),(2,zI g),(4,.func (.func 15) #[] #[zP _o,zP _n]),(10,zI b.2.1),(11,zI b.2.2)]) (λb=>[gn _a b.1]) (_r,g-a1,b1-g) h 1 ?_)))))))))));rintro R ⟨t,p,q⟩ h;exact bV (I (O 2 rfl (E rfl nh (Y (bu rfl h (λh=>bw (cu (ck (I (O 2 rfl (E rfl kF (Y (bu rfl h (λh=>I (O 3 rfl (bi h λM h=>E rfl (iV (g-p) (ac _ M)) (O 3 rfl (aU h λr1 z h=>oQ [_a,zI (g-p),zI g,zI q,.func (.func 15) #[] #[zP _o,zP _n]] s rfl dc rfl rfl rfl Hi (JM _a t _o _v _h _m _l _k _j _i _n d z) (cO 1) (.ro 0 rfl (.ro 1 rfl (.ro 2 rfl (.ro 3 rfl (.ro 4 rfl (.ro 5 rfl (.ro 6 rfl (.ro 7 rfl (.ro 8 rfl .nil))))))))) (λ_=>kL [gn _a r1] (ct [1] kr rfl) (Y (bX (O 2 rfl (bi h λJ h=>E rfl (iV (p-q) (ac _ J)) (O 1 rfl (bC (cg (mD (r1,p-q,q) h 1)))))))))))))) (λh=>I (O 3 rfl (bi h λF h=>E rfl (iV (g-p) (ac _ F)) (O 2 rfl (bi h λD h=>E rfl (c8 (g+q) (ac _ D)) (O 1 rfl (bi h λC h=>E rfl (iV ((g+q)-p) (ac _ C)) (O 2 rfl (aU h λr2 y h=>oQ [_a,zI (g-p),zI ((g+q)-p),zI p,.func (.func 15) #[] #[zP _o,zP _n]] s rfl dc rfl rfl rfl Hi (JM _a t _o _v _h _m _l _k _j _i _n d y) (cO 1) (.ro 0 rfl (.ro 1 rfl (.ro 2 rfl (.ro 3 rfl (.ro 4 rfl (.ro 5 rfl (.ro 6 rfl (.ro 7 rfl (.ro 8 rfl .nil))))))))) (λ_=>kL [gn _a r2] (ct [1] kr rfl) (Y (bX (O 2 rfl (bi h λB h=>E rfl (iV (q-p) (ac _ B)) (O 1 rfl (bC (cg (mD (r2,p,q-p) h 1)))))))))))))))))))))))))) (λh=>dG (bS (bS (dH (mD (t,p) h 1))))))))))
 rintro⟨Q,w⟩ h;refine bX (O 3 rfl (bi h λA h=>E rfl (iV (g-w) (ac _ A)) (O 3 rfl (aU h λr3 x h=>oQ [_a,zI (g-w),zI g,zI w,.func (.func 15) #[] #[zP _o,zP _n]] s rfl dc rfl rfl rfl Hi (JM _a Q _o _v _h _m _l _k _j _i _n d x) (cO 1) (.ro 0 rfl (.ro 1 rfl (.ro 2 rfl (.ro 3 rfl (.ro 4 rfl (.ro 5 rfl (.ro 6 rfl (.ro 7 rfl (.ro 8 rfl .nil))))))))) (λ_=>kL [gn _a r3] (ct [1] kr rfl) (bC ?_))))));cases h;exact eW [] () (.inr rfl) results125 .nil rfl (cO 1)
def xz (a1:Int) (_h:co) (b:List V) (i:(List Int)->Option (List Int)) (g:(List Int)->Int->Option (List Int)) (d:List Int) (a:Int):Option (List Int) := G (decide ((a1:Int)<a)) (T (cj d a) λ(q1:Int)=>grd (I64 (a-1)) <|T (cj d (a-1)) λ(q2:Int)=>T (xx q1 q2 _h b) λ(r1:Int)=>G (decide ((r1:Int)<0)) (grd (I64 (a-1)) <|grd (I64 (a-1)) <|T (cj d (a-1)) λ(h:Int)=>T (cj d a) λ(j:Int)=>T (cj (d.set (a:Int).toNat h) (a-1)) λ(k:Int)=>grd (I64 (a-1)) <|g ((d.set (a:Int).toNat h).set (a-1:Int).toNat j) (a-1)) (i d)) (i d)
def xA (a1:Int) (b1:Int) (_h:co) (a:List V) (d:(List Int)->Int->Option (List Int)) (g:List Int) (b:Int):Option (List Int) := G (decide ((b:Int)<b1)) (cm (λ(i:(List Int)->Option (List Int))=>bP (λ_ _=>none) (xz a1 _h a i) bN g b) (λ(h:List Int)=>grd (I64 (b+1)) <|d h (b+1))) (some g)
def CS (_r:List Int) (a1:Int) (b1:Int) (_h:co) (a:List V):Option (List Int) := grd (I64 (a1+1)) <|bP (λ_ _=>none) (xA a1 b1 _h a) bN _r (a1+1)
theorem QD (_a:Value) (_r:List Int) {a1:Int} {b1:Int} (_o _v:Nat) (_h:co) (_m _l _k _j _i:Hd) (_n:Nat) {p s:Value} {x:List V} {t:Nat} {l:List V} (y:Vw p x 1 t s l) {r:(List Int)} (h:CS _r a1 b1 _h l=some r):gu prog 80 [_a,zI a1,zI b1,.func (.func 15) #[] #[zP _o,zP _n]] [cells _o [zP _v] 24,cells _v [_m.v,.map (some (bc _l)),.map (some (bc _k)),.map (some (bc _j)),_i.v] 69,bq _m.v _h.units,cH (λn:V=>ad n) (λn:Int=>az .i64 n) (bc _l) _h.place,dV (bc _k) _h.fors,cH (λn:V=>ad n) (λn:Bool=>ap n) (bc _j) _h.skips,bq _i.v _h.lines,cells _n [s] 22,iM gK 1 p t x] [gn _a _r] (λ_b:Unit=>.tuple #[]) (λ_b=>[gn _a r]):=by
 refine gu.intro func80 rfl ntmps80 (by simp) (λw0 K W=>I (O 1 rfl (bi h λa0 h=>E rfl (c8 (a1+1) (ac _ a0)) (O 1 rfl (Y (ck (fP ((List Int)×Int) (xA a1 b1 _h l) (λa b=>a b.1 b.2=some r) (λb=>[]) (λb=>[(0,_a),(1,zI a1),(2,zI b1),(3,.func (.func 15) #[] #[zP _o,zP _n]),(8,zI b.2)]) (λb=>[gn _a b.1]) (_r,a1+1) h 1 ?_)))))));rintro a4 ⟨l3,F⟩ h;refine bV (I (O 2 rfl (E rfl dL (Y (bu rfl h (λh=>?_) (λh=>?_))))))
 ·refine bw (cu (cJ (List Int) h 0 rfl (λS b=>S b=some r) (λb=>[]) (λb=>[(0,_a),(1,zI a1),(2,zI b1),(3,.func (.func 15) #[] #[zP _o,zP _n]),(8,zI F)]) (λb=>[gn _a b]) (λS h cut=>?_) ?_))
  ·refine cut (ck (I (O 2 rfl (Y (ck (fP ((List Int)×Int) (xz a1 _h l S) (λa b=>a b.1 b.2=some r) (λb=>[]) (λb=>[(0,_a),(1,zI a1),(2,zI b1),(3,.func (.func 15) #[] #[zP _o,zP _n]),(8,zI F),(9,zI b.2)]) (λb=>[gn _a b.1]) (l3,F) h 1 ?_))))));rintro a3 ⟨R,g⟩ h;unfold xz at h;refine bV (bV (wB (decide ((a1:Int)<g)) (λz=>?_) (λz=>?_)))
   ·have h:=pY z h;exact aU h λq1 P h=>bi h λaw h=>aU h λq2 N h=>aU h λr1 X h=>jU 14 [(0,18,zI g),(1,19,zI a1),(2,20,.bool true),(3,21,.bool true),(4,22,.func (.func 15) #[] #[zP _o,zP _n]),(5,23,_a),(6,24,zI g),(7,25,.pointer (some ⟨eS _a,(g:Int).toNat*1,none⟩)),(8,26,zI q1),(9,27,_a),(10,28,zI g),(11,29,zI (g-1)),(12,30,.pointer (some ⟨eS _a,(g-1:Int).toNat*1,none⟩)),(13,31,zI q2)] mixed kr kr dc (by rfl) kr kr (gD 2 0 rfl (bQ (λD n d c u i=>jX rfl dc (aX 0 u d) (aX 1 u d) kF (qo (show ap (decide ((a1:Int)<g))=ap true from aI ap z) (bf 2 u i))) (gD 4 3 rfl (bQ (λD n d c u i=>eN 0 P bJ gL (me rfl (aX 3 u d)) dc (aX 5 u d) (aX 6 u d) rfl rfl (bf 7 u i)) (bQ (λD n d c u i=>fl 0 ((g:Int).toNat) 0 q1 ed iq (me rfl (aX 3 u d)) dc (aX 7 u d) rfl (ei P) rfl dc rfl (bf 8 u i)) (gD 2 9 rfl (bQ (λD n d c u i=>jX (me rfl (aX 3 u d)) dc (aX 10 u d) rfl (iV (g-1) (ac _ aw)) (bf 11 u i)) (bQ (λD n d c u i=>eN 0 N bJ gL (me rfl (aX 3 u d)) dc (aX 9 u d) (aX 11 u d) rfl rfl (bf 12 u i)) (bQ (λD n d c u i=>fl 0 ((g-1:Int).toNat) 0 q2 ed iq (me rfl (aX 3 u d)) dc (aX 12 u d) rfl (ei N) rfl dc rfl (bf 13 u i)) bB))))))))) (kZ (zI r1) [zI q1,zI q2] W rfl dc rfl rfl rfl DO (FZ _o _v _h _m _l _k _j _i _n y X) (.ro 0 rfl (.ro 1 rfl (.ro 2 rfl (.ro 3 rfl (.ro 4 rfl (.ro 5 rfl (.ro 6 rfl (.ro 7 rfl (.ro 8 rfl .nil))))))))) (E rfl dL (O 1 rfl (Y (bu rfl h (λh=>bw (cu (bV (ck (bi h λQ h=>bi h λao h=>aU h λC M h=>aU h λB A h=>aU h λq5 J h=>D7 Unit 16 15 _ [(0,37,_a),(1,38,zI g),(2,39,_a),(3,40,zI g),(4,41,zI (g-1)),(5,42,_a),(6,43,zI g),(7,44,zI (g-1)),(8,45,.pointer (some ⟨eS _a,(g-1:Int).toNat*1,none⟩)),(9,46,zI C),(10,47,_a),(11,48,zI g),(12,49,.pointer (some ⟨eS _a,(g:Int).toNat*1,none⟩)),(13,50,zI B),(14,51,.pointer (some ⟨eS _a,(g:Int).toNat*1,none⟩))] (λ_b=>[]) (λ_b=>[gn _a (R.set (g:Int).toNat C)]) mixed kr kr rfl dc dc (by rfl) kr kr (p6 4 0 rfl (fw (λD n d c u i=>jX rfl dc (aX 3 u d) rfl (iV (g-1) (ac _ Q)) (bf 4 u i)) (p6 2 5 rfl (fw (λD n d c u i=>jX rfl dc (aX 6 u d) rfl (iV (g-1) (ac _ ao)) (bf 7 u i)) (fw (λD n d c u i=>eN 0 M bJ gL rfl dc (aX 5 u d) (aX 7 u d) rfl rfl (bf 8 u i)) (fw (λD n d c u i=>fl 0 ((g-1:Int).toNat) 0 C ed iq rfl dc (aX 8 u d) rfl (ei M) rfl dc rfl (bf 9 u i)) (p6 2 10 rfl (fw (λD n d c u i=>eN 0 A bJ gL rfl dc (aX 10 u d) (aX 11 u d) rfl rfl (bf 12 u i)) (fw (λD n d c u i=>fl 0 ((g:Int).toNat) 0 B ed iq rfl dc (aX 12 u d) rfl (ei A) rfl dc rfl (bf 13 u i)) (fw (λD n d c u i=>eN 0 A bJ gL rfl dc (aX 0 u d) (aX 1 u d) rfl rfl (bf 14 u i)) (fA fX))))))))))) (λ_b=>(iP rfl kr (iP rfl kr (dQ (λD n d c u i=>sv rfl dc (eG (by rfl) rfl) (bf 2 u i)) (dQ (λD n d c u i=>sv rfl dc (eG (by rfl) rfl) (bf 3 u i)) (dQ (λD n d c u i=>jX rfl dc (aX 3 u d) rfl (iV (g-1) (ac _ Q)) (bf 4 u i)) (iP rfl kr (iP rfl kr (iP rfl kr (iP rfl kr (iP rfl kr (iP rfl kr (iP rfl kr (iP rfl kr (iP rfl kr (iP rfl kr (lO mH))))))))))))))))) (λD hn hd a2=>oN 0 ((g:Int).toNat) 0 B C gL iq rfl (jY 14 kr rfl (hd 14 dc)) (jY 9 kr rfl (hd 9 dc)) rfl (ei A) rfl dc rfl (λ_ _=>rfl) (λa w ha hw=>⟨(),ha,hw⟩)) (λ_b=>eN 0 J bJ gL rfl dc rfl rfl rfl rfl (oN 0 ((g-1:Int).toNat) 0 q5 B gL iq rfl rfl rfl rfl (ei J) rfl dc rfl (λ_ _=>rfl) (bC (cg (cu (bX (O 1 rfl (bi h λag h=>E rfl (iV (g-1) (ac _ ag)) (O 1 rfl (bC (mD ((R.set (g:Int).toNat C).set (g-1:Int).toNat B,g-1) h 1)))))))))))))))) (λh=>dG (bS (bS (dH (cg (mD R h 1)))))))))))
   have h:=pZ z h;exact jU 14 [(0,18,zI g),(1,19,zI a1),(2,20,.bool false),(3,21,.bool false),(4,22,undef),(5,23,undef),(6,24,undef),(7,25,undef),(8,26,undef),(9,27,undef),(10,28,undef),(11,29,undef),(12,30,undef),(13,31,undef)] mixed kr kr dc (by rfl) kr kr (gD 2 0 rfl (bQ (λD n d c u i=>jX rfl dc (aX 0 u d) (aX 1 u d) kF (qo (show ap (decide ((a1:Int)<g))=ap false from aI ap z) (bf 2 u i))) (gD 11 3 rfl bB))) (O 3 rfl (Y (eU rfl (dG (bS (bS (dH (cg (mD R h 1)))))))))
  exact λl4 h=>bX (O 1 rfl (bi h λZ h=>E rfl (c8 (F+1) (ac _ Z)) (O 1 rfl (bC (mD (l4,F+1) h 1)))))
 refine dG (bS (bS (dH ?_)));cases h;exact eW [] () (.inr rfl) results80 .nil rfl (cO 1)
def zL (_r:List Int) (a1:Int) (_h:co) (a:List V) (h:Int->Option (List Int)) (g:Int->Int->Option (List Int)) (b:Int) (d:Int):Option (List Int) := G (decide ((b:Int)<d)) (grd (I64 (b+d)) <|T (cj _r (IntKind.i64.wrap (er .u64 (IntKind.u64.wrap (b+d)) 1))) λ(q1:Int)=>T (cj _r a1) λ(q2:Int)=>T (xx q1 q2 _h a) λ(r1:Int)=>G (decide ((r1:Int)<0)) (grd (I64 ((IntKind.i64.wrap (er .u64 (IntKind.u64.wrap (b+d)) 1))+1)) <|g ((IntKind.i64.wrap (er .u64 (IntKind.u64.wrap (b+d)) 1))+1) d) (g b (IntKind.i64.wrap (er .u64 (IntKind.u64.wrap (b+d)) 1)))) (h b)
def wk (g:Int) (i:(List Int)->Option (List Int)) (b:(List Int)->Int->Option (List Int)) (a:List Int) (k3:Int):Option (List Int) := grd (I64 (g-1)) <|G (decide ((k3:Int)<(g-1))) (grd (I64 (k3+1)) <|grd (I64 (k3+1)) <|T (cj a (k3+1)) λ(d:Int)=>T (cj a k3) λ(h:Int)=>T (cj (a.set (k3:Int).toNat d) (k3+1)) λ(j:Int)=>grd (I64 (k3+1)) <|b ((a.set (k3:Int).toNat d).set (k3+1:Int).toNat h) (k3+1)) (i a)
def zM (_r:List Int) (j:Int) (_h:co) (b:List V) (k:Int->Option (List Int)) (g:Int->Int->Option (List Int)) (d:Int) (a:Int):Option (List Int) := G (decide ((d:Int)<a)) (grd (I64 (d+a)) <|T (cj _r j) λ(i:Int)=>T (cj _r (IntKind.i64.wrap (er .u64 (IntKind.u64.wrap (d+a)) 1))) λ(h:Int)=>T (xx i h _h b) λ(r2:Int)=>G (!(decide ((r2:Int)<0))) (grd (I64 ((IntKind.i64.wrap (er .u64 (IntKind.u64.wrap (d+a)) 1))+1)) <|g ((IntKind.i64.wrap (er .u64 (IntKind.u64.wrap (d+a)) 1))+1) a) (g d (IntKind.i64.wrap (er .u64 (IntKind.u64.wrap (d+a)) 1)))) (k d)
def wl (k:Int) (d:(List Int)->Option (List Int)) (g:(List Int)->Int->Option (List Int)) (b:List Int) (a:Int):Option (List Int) := G (decide ((k:Int)<a)) (grd (I64 (a-1)) <|grd (I64 (a-1)) <|T (cj b (a-1)) λ(h:Int)=>T (cj b a) λ(i:Int)=>T (cj (b.set (a:Int).toNat h) (a-1)) λ(j:Int)=>grd (I64 (a-1)) <|g ((b.set (a:Int).toNat h).set (a-1:Int).toNat i) (a-1)) (d b)
def zN (_r:List Int) (a1:Int) (k:Int) (b1:Int) (_h:co) (b:List V) (j:Int->Option (List Int)) (g:Int->Int->Option (List Int)) (a:Int) (d:Int):Option (List Int) := G (decide ((a:Int)<d)) (grd (I64 (a+d)) <|grd (I64 ((((IntKind.i64.wrap (er .u64 (IntKind.u64.wrap (a1+b1)) 1))+k)-1)-(IntKind.i64.wrap (er .u64 (IntKind.u64.wrap (a+d)) 1)))) <|T (cj _r ((((IntKind.i64.wrap (er .u64 (IntKind.u64.wrap (a1+b1)) 1))+k)-1)-(IntKind.i64.wrap (er .u64 (IntKind.u64.wrap (a+d)) 1)))) λ(i:Int)=>T (cj _r (IntKind.i64.wrap (er .u64 (IntKind.u64.wrap (a+d)) 1))) λ(h:Int)=>T (xx i h _h b) λ(l:Int)=>G (!(decide ((l:Int)<0))) (grd (I64 ((IntKind.i64.wrap (er .u64 (IntKind.u64.wrap (a+d)) 1))+1)) <|g ((IntKind.i64.wrap (er .u64 (IntKind.u64.wrap (a+d)) 1))+1) d) (g a (IntKind.i64.wrap (er .u64 (IntKind.u64.wrap (a+d)) 1)))) (j a)
def zO (g:(List Int)->Int->Int->Int->co->(List V)->Option (List Int)) (_r:List Int) (a1:Int) (d:Int) (b1:Int) (_h:co) (b:List V):Option (List Int) := cm (λ(z:Option (List Int))=>grd (I64 (d-a1)) <|G (((d-a1):Int)==1) (cm (λ(y:Int->Option (List Int))=>bP (λ_ _=>none) (zL _r a1 _h b y) bN d b1) (λ(B:Int)=>cm (λ(x:(List Int)->Option (List Int))=>bP (λ_ _=>none) (wk B x) bN _r a1) (λ(u:List Int)=>some u))) (z)) (cm (λ(w:Option (List Int))=>grd (I64 (b1-d)) <|G (((b1-d):Int)==1) (cm (λ(v:Int->Option (List Int))=>bP (λ_ _=>none) (zM _r d _h b v) bN a1 d) (λ(A:Int)=>cm (λ(q:(List Int)->Option (List Int))=>bP (λ_ _=>none) (wl A q) bN _r d) (λ(t:List Int)=>some t))) (w)) (cm (λ(l:Int->Int->Option (List Int))=>grd (I64 (a1+b1)) <|grd (I64 ((IntKind.i64.wrap (er .u64 (IntKind.u64.wrap (a1+b1)) 1))+d)) <|G (decide (((IntKind.i64.wrap (er .u64 (IntKind.u64.wrap (a1+b1)) 1)):Int)<d)) (grd (I64 (((IntKind.i64.wrap (er .u64 (IntKind.u64.wrap (a1+b1)) 1))+d)-b1)) <|l (((IntKind.i64.wrap (er .u64 (IntKind.u64.wrap (a1+b1)) 1))+d)-b1) (IntKind.i64.wrap (er .u64 (IntKind.u64.wrap (a1+b1)) 1))) (l a1 d)) (λ(h:Int) (r3:Int)=>cm (λ(p:Int->Option (List Int))=>grd (I64 (((IntKind.i64.wrap (er .u64 (IntKind.u64.wrap (a1+b1)) 1))+d)-1)) <|bP (λ_ _=>none) (zN _r a1 d b1 _h b p) bN h r3) (λ(a:Int)=>cm (λ(k:(List Int)->Option (List Int))=>grd (I64 (((IntKind.i64.wrap (er .u64 (IntKind.u64.wrap (a1+b1)) 1))+d)-a)) <|G (decide ((a:Int)<d)) (G (decide ((d:Int)<(((IntKind.i64.wrap (er .u64 (IntKind.u64.wrap (a1+b1)) 1))+d)-a))) (T (CR _r a d (((IntKind.i64.wrap (er .u64 (IntKind.u64.wrap (a1+b1)) 1))+d)-a) _h b) λ(s:(List Int))=>k s) (k _r)) (k _r)) (λ(n:List Int)=>cm (λ(j:(List Int)->Option (List Int))=>G (decide ((a1:Int)<a)) (G (decide ((a:Int)<(IntKind.i64.wrap (er .u64 (IntKind.u64.wrap (a1+b1)) 1)))) (T (g n a1 a (IntKind.i64.wrap (er .u64 (IntKind.u64.wrap (a1+b1)) 1)) _h b) λ(r:(List Int))=>j r) (j n)) (j n)) (λ(i:List Int)=>G (decide (((IntKind.i64.wrap (er .u64 (IntKind.u64.wrap (a1+b1)) 1)):Int)<(((IntKind.i64.wrap (er .u64 (IntKind.u64.wrap (a1+b1)) 1))+d)-a))) (G (decide (((((IntKind.i64.wrap (er .u64 (IntKind.u64.wrap (a1+b1)) 1))+d)-a):Int)<b1)) (T (g i (IntKind.i64.wrap (er .u64 (IntKind.u64.wrap (a1+b1)) 1)) (((IntKind.i64.wrap (er .u64 (IntKind.u64.wrap (a1+b1)) 1))+d)-a) b1 _h b) λ(m:(List Int))=>some m) (some i)) (some i)))))))
def zQ (_r:List Int) (a1:Int) (b:Int) (b1:Int) (_h:co) (a:List V):Option (List Int):=bP (λ_ _ _ _ _ _=>none) zO bN _r a1 b b1 _h a
theorem G_ (n:Nat):∀ {_a:Value} {_r:List Int} {a1:Int} {t:Int} {b1:Int} {_o _v:Nat} {_h:co} {_m _l _k _j _i:Hd} {_n:Nat} {y z:Value} {B:List V} {A:Nat} {x:List V} (l:Vw y B 1 A z x) {r:(List Int)} (_:bP (λ_ _ _ _ _ _=>none) zO n _r a1 t b1 _h x=some r),gu prog 81 [_a,zI a1,zI t,zI b1,.func (.func 15) #[] #[zP _o,zP _n]] [cells _o [zP _v] 24,cells _v [_m.v,.map (some (bc _l)),.map (some (bc _k)),.map (some (bc _j)),_i.v] 69,bq _m.v _h.units,cH (λn:V=>ad n) (λn:Int=>az .i64 n) (bc _l) _h.place,dV (bc _k) _h.fors,cH (λn:V=>ad n) (λn:Bool=>ap n) (bc _j) _h.skips,bq _i.v _h.lines,cells _n [z] 22,iM gK 1 y A B] [gn _a _r] (λ_b:Unit=>.tuple #[]) (λ_b=>[gn _a r]):=by
 induction n with
 |zero=>intro _a _r a1 t b1 _o _v _h _m _l _k _j _i _n y z B A x l r h;exact vt h
 |succ n J=>
 intro _a _r a1 t b1 _o _v _h _m _l _k _j _i _n y z B A x l r h;rw[jz] at h;revert J h;generalize bP (λ_ _ _ _ _ _=>none) zO n=rcall;refine λJ h=>gu.intro func81 rfl ntmps81 (by simp) (λw0 K P=>cJ Unit h 0 rfl (λj1 b=>j1=some r) (λb=>[]) (λb=>[(0,_a),(1,zI a1),(2,zI t),(3,zI b1),(4,.func (.func 15) #[] #[zP _o,zP _n])]) (λb=>[gn _a _r]) (λj1 h cut=>?_) ?_)
 ·refine cut (I (O 2 rfl (bi h λdT h=>E rfl (iV (t-a1) (ac _ dT)) (E rfl eZ (Y (bu rfl h (λh=>?_) (λh=>?_)))))))
  ·refine cJ Int h 2 rfl (λj2 b=>j2 b=some r) (λb=>[]) (λb=>[(0,_a),(1,zI a1),(10,zI b)]) (λb=>[gn _a _r]) (λj2 h cut=>?_) ?_
   ·refine I (O 2 rfl (cw (O 2 rfl (Y (cut (ck (fP (Int×Int) (zL _r a1 _h x j2) (λa b=>a b.1 b.2=some r) (λb=>[]) (λb=>[(0,_a),(1,zI a1),(4,.func (.func 15) #[] #[zP _o,zP _n]),(10,zI b.1),(11,zI b.2)]) (λb=>[gn _a _r]) (t,b1) h 1 ?_)))))));rintro d3 ⟨S,X⟩ h;exact bV (I (O 2 rfl (E rfl dL (Y (bu rfl h (λh=>bw (cu (ck (I (O 2 rfl (bi h λdB h=>E rfl (c8 (S+X) (ac _ dB)) (jI rfl dc rfl (qp iU gR) (E rfl (tH dc) (jI rfl dc rfl (qp gR iU) (O 1 rfl (Y (bV (aU h λq1 b5 h=>aU h λq2 bs h=>aU h λr1 di h=>jU 9 [(0,40,.func (.func 15) #[] #[zP _o,zP _n]),(1,41,_a),(2,42,zI (IntKind.i64.wrap (er .u64 (IntKind.u64.wrap (S+X)) 1))),(3,43,.pointer (some ⟨eS _a,(IntKind.i64.wrap (er .u64 (IntKind.u64.wrap (S+X)) 1):Int).toNat*1,none⟩)),(4,44,zI q1),(5,45,_a),(6,46,zI a1),(7,47,.pointer (some ⟨eS _a,(a1:Int).toNat*1,none⟩)),(8,48,zI q2)] mixed kr kr dc (by rfl) kr kr (gD 3 0 rfl (bQ (λD n d c u i=>eN 0 b5 bJ gL rfl dc (aX 1 u d) (aX 2 u d) rfl rfl (bf 3 u i)) (bQ (λD n d c u i=>fl 0 ((IntKind.i64.wrap (er .u64 (IntKind.u64.wrap (S+X)) 1):Int).toNat) 0 q1 ed iq rfl dc (aX 3 u d) rfl (ei b5) rfl dc rfl (bf 4 u i)) (gD 2 5 rfl (bQ (λD n d c u i=>eN 0 bs bJ gL rfl dc (aX 5 u d) (aX 6 u d) rfl rfl (bf 7 u i)) (bQ (λD n d c u i=>fl 0 ((a1:Int).toNat) 0 q2 ed iq rfl dc (aX 7 u d) rfl (ei bs) rfl dc rfl (bf 8 u i)) bB)))))) (kZ (zI r1) [zI q1,zI q2] P rfl dc rfl rfl rfl DO (FZ _o _v _h _m _l _k _j _i _n l di) (.ro 0 rfl (.ro 1 rfl (.ro 2 rfl (.ro 3 rfl (.ro 4 rfl (.ro 5 rfl (.ro 6 rfl (.ro 7 rfl (.ro 8 rfl .nil))))))))) (E rfl dL (Y (bu rfl h (λh=>bX (O 1 rfl (bi h λdA h=>E rfl (c8 ((IntKind.i64.wrap (er .u64 (IntKind.u64.wrap (S+X)) 1))+1) (ac _ dA)) (O 1 rfl (bC (cg (mD ((IntKind.i64.wrap (er .u64 (IntKind.u64.wrap (S+X)) 1))+1,X) h 1))))))) (λh=>bX (O 2 rfl (bC (cg (mD (S,IntKind.i64.wrap (er .u64 (IntKind.u64.wrap (S+X)) 1)) h 1)))))))))))))))))))))) (λh=>dG (bS (bS (dH (mD S h 1))))))))))
   refine λi1 h=>cJ (List Int) h 0 rfl (λj6 b=>j6 b=some r) (λb=>[]) (λb=>[]) (λb=>[gn _a b]) (λj6 h cut=>?_) ?_
   ·refine cut (I (O 2 rfl (Y (ck (fP ((List Int)×Int) (wk i1 j6) (λa b=>a b.1 b.2=some r) (λb=>[]) (λb=>[(0,_a),(10,zI i1),(13,zI b.2)]) (λb=>[gn _a b.1]) (_r,a1) h 1 ?_)))));rintro d2 ⟨l4,k3⟩ h;exact bV (I (O 2 rfl (bi h λdz h=>E rfl (iV (i1-1) (ac _ dz)) (E rfl dL (Y (bu rfl h (λh=>bw (cu (bV (ck (bi h λb6 h=>bi h λdw h=>aU h λq3 bk h=>aU h λq4 W h=>aU h λq5 bh h=>D7 Unit 16 15 _ [(0,61,_a),(1,62,zI k3),(2,63,_a),(3,64,zI k3),(4,65,zI (k3+1)),(5,66,_a),(6,67,zI k3),(7,68,zI (k3+1)),(8,69,.pointer (some ⟨eS _a,(k3+1:Int).toNat*1,none⟩)),(9,70,zI q3),(10,71,_a),(11,72,zI k3),(12,73,.pointer (some ⟨eS _a,(k3:Int).toNat*1,none⟩)),(13,74,zI q4),(14,75,.pointer (some ⟨eS _a,(k3:Int).toNat*1,none⟩))] (λ_b=>[]) (λ_b=>[gn _a (l4.set (k3:Int).toNat q3)]) mixed kr kr rfl dc dc (by rfl) kr kr (p6 4 0 rfl (fw (λD n d c u i=>jX rfl dc (aX 3 u d) rfl (c8 (k3+1) (ac _ b6)) (bf 4 u i)) (p6 2 5 rfl (fw (λD n d c u i=>jX rfl dc (aX 6 u d) rfl (c8 (k3+1) (ac _ dw)) (bf 7 u i)) (fw (λD n d c u i=>eN 0 bk bJ gL rfl dc (aX 5 u d) (aX 7 u d) rfl rfl (bf 8 u i)) (fw (λD n d c u i=>fl 0 ((k3+1:Int).toNat) 0 q3 ed iq rfl dc (aX 8 u d) rfl (ei bk) rfl dc rfl (bf 9 u i)) (p6 2 10 rfl (fw (λD n d c u i=>eN 0 W bJ gL rfl dc (aX 10 u d) (aX 11 u d) rfl rfl (bf 12 u i)) (fw (λD n d c u i=>fl 0 ((k3:Int).toNat) 0 q4 ed iq rfl dc (aX 12 u d) rfl (ei W) rfl dc rfl (bf 13 u i)) (fw (λD n d c u i=>eN 0 W bJ gL rfl dc (aX 0 u d) (aX 1 u d) rfl rfl (bf 14 u i)) (fA fX))))))))))) (λ_b=>(iP rfl kr (iP rfl kr (dQ (λD n d c u i=>sv rfl dc (eG (by rfl) rfl) (bf 2 u i)) (dQ (λD n d c u i=>sv rfl dc (eG (by rfl) rfl) (bf 3 u i)) (dQ (λD n d c u i=>jX rfl dc (aX 3 u d) rfl (c8 (k3+1) (ac _ b6)) (bf 4 u i)) (iP rfl kr (iP rfl kr (iP rfl kr (iP rfl kr (iP rfl kr (iP rfl kr (iP rfl kr (iP rfl kr (iP rfl kr (iP rfl kr (lO mH))))))))))))))))) (λD hn hd dX=>oN 0 ((k3:Int).toNat) 0 q4 q3 gL iq rfl (jY 14 kr rfl (hd 14 dc)) (jY 9 kr rfl (hd 9 dc)) rfl (ei W) rfl dc rfl (λ_ _=>rfl) (λa w ha hw=>⟨(),ha,hw⟩)) (λ_b=>eN 0 bh bJ gL rfl dc rfl rfl rfl rfl (oN 0 ((k3+1:Int).toNat) 0 q5 q4 gL iq rfl rfl rfl rfl (ei bh) rfl dc rfl (λ_ _=>rfl) (bC (cg (cu (bX (O 1 rfl (bi h λds h=>E rfl (c8 (k3+1) (ac _ ds)) (O 1 rfl (bC (mD ((l4.set (k3:Int).toNat q3).set (k3+1:Int).toNat q4,k3+1) h 1)))))))))))))))) (λh=>dG (bS (bS (dH (iW l4 h rfl (ss) (cO 1))))))))))))
   refine λl1 h=>bO (bZ ?_);cases h;exact eW [] () (.inl rfl) qj .nil rfl (cO 1)
  exact bw (mD () h 1)
 refine λ_ h=>cJ Unit h 0 rfl (λj7 b=>j7=some r) (λb=>[]) (λb=>[(0,_a),(1,zI a1),(2,zI t),(3,zI b1),(4,.func (.func 15) #[] #[zP _o,zP _n])]) (λb=>[gn _a _r]) (λj7 h cut=>?_) ?_
 ·refine cut (I (O 2 rfl (bi h λdn h=>E rfl (iV (b1-t) (ac _ dn)) (E rfl eZ (Y (bu rfl h (λh=>?_) (λh=>?_)))))))
  ·refine cJ Int h 2 rfl (λj8 b=>j8 b=some r) (λb=>[]) (λb=>[(0,_a),(2,zI t),(14,zI b)]) (λb=>[gn _a _r]) (λj8 h cut=>?_) ?_
   ·refine I (O 2 rfl (cw (O 2 rfl (Y (cut (ck (fP (Int×Int) (zM _r t _h x j8) (λa b=>a b.1 b.2=some r) (λb=>[]) (λb=>[(0,_a),(2,zI t),(4,.func (.func 15) #[] #[zP _o,zP _n]),(14,zI b.1),(15,zI b.2)]) (λb=>[gn _a _r]) (a1,t) h 1 ?_)))))));rintro d1 ⟨R,F⟩ h;exact bV (I (O 2 rfl (E rfl dL (Y (bu rfl h (λh=>bw (cu (ck (I (O 2 rfl (bi h λdj h=>E rfl (c8 (R+F) (ac _ dj)) (jI rfl dc rfl (qp iU gR) (E rfl (tH dc) (jI rfl dc rfl (qp gR iU) (O 1 rfl (Y (bV (aU h λq6 bb h=>aU h λq7 a9 h=>aU h λr2 dg h=>jU 9 [(0,92,.func (.func 15) #[] #[zP _o,zP _n]),(1,93,_a),(2,94,zI t),(3,95,.pointer (some ⟨eS _a,(t:Int).toNat*1,none⟩)),(4,96,zI q6),(5,97,_a),(6,98,zI (IntKind.i64.wrap (er .u64 (IntKind.u64.wrap (R+F)) 1))),(7,99,.pointer (some ⟨eS _a,(IntKind.i64.wrap (er .u64 (IntKind.u64.wrap (R+F)) 1):Int).toNat*1,none⟩)),(8,100,zI q7)] mixed kr kr dc (by rfl) kr kr (gD 3 0 rfl (bQ (λD n d c u i=>eN 0 bb bJ gL rfl dc (aX 1 u d) (aX 2 u d) rfl rfl (bf 3 u i)) (bQ (λD n d c u i=>fl 0 ((t:Int).toNat) 0 q6 ed iq rfl dc (aX 3 u d) rfl (ei bb) rfl dc rfl (bf 4 u i)) (gD 2 5 rfl (bQ (λD n d c u i=>eN 0 a9 bJ gL rfl dc (aX 5 u d) (aX 6 u d) rfl rfl (bf 7 u i)) (bQ (λD n d c u i=>fl 0 ((IntKind.i64.wrap (er .u64 (IntKind.u64.wrap (R+F)) 1):Int).toNat) 0 q7 ed iq rfl dc (aX 7 u d) rfl (ei a9) rfl dc rfl (bf 8 u i)) bB)))))) (kZ (zI r2) [zI q6,zI q7] P rfl dc rfl rfl rfl DO (FZ _o _v _h _m _l _k _j _i _n l dg) (.ro 0 rfl (.ro 1 rfl (.ro 2 rfl (.ro 3 rfl (.ro 4 rfl (.ro 5 rfl (.ro 6 rfl (.ro 7 rfl (.ro 8 rfl .nil))))))))) (E rfl dL (lh rfl dc rfl lj (Y (bu rfl h (λh=>bX (O 1 rfl (bi h λc4 h=>E rfl (c8 ((IntKind.i64.wrap (er .u64 (IntKind.u64.wrap (R+F)) 1))+1) (ac _ c4)) (O 1 rfl (bC (cg (mD ((IntKind.i64.wrap (er .u64 (IntKind.u64.wrap (R+F)) 1))+1,F) h 1))))))) (λh=>bX (O 2 rfl (bC (cg (mD (R,IntKind.i64.wrap (er .u64 (IntKind.u64.wrap (R+F)) 1)) h 1))))))))))))))))))))))) (λh=>dG (bS (bS (dH (mD R h 1))))))))))
   refine λi5 h=>cJ (List Int) h 0 rfl (λa5 b=>a5 b=some r) (λb=>[]) (λb=>[]) (λb=>[gn _a b]) (λa5 h cut=>?_) ?_
   ·refine cut (I (O 2 rfl (Y (ck (fP ((List Int)×Int) (wl i5 a5) (λa b=>a b.1 b.2=some r) (λb=>[]) (λb=>[(0,_a),(14,zI i5),(17,zI b.2)]) (λb=>[gn _a b.1]) (_r,t) h 1 ?_)))));rintro d0 ⟨l8,C⟩ h;exact bV (I (O 2 rfl (E rfl kF (Y (bu rfl h (λh=>bw (cu (bV (ck (bi h λa0 h=>bi h λc3 h=>aU h λq8 aw h=>aU h λq9 M h=>aU h λdd ao h=>D7 Unit 16 15 _ [(0,113,_a),(1,114,zI C),(2,115,_a),(3,116,zI C),(4,117,zI (C-1)),(5,118,_a),(6,119,zI C),(7,120,zI (C-1)),(8,121,.pointer (some ⟨eS _a,(C-1:Int).toNat*1,none⟩)),(9,122,zI q8),(10,123,_a),(11,124,zI C),(12,125,.pointer (some ⟨eS _a,(C:Int).toNat*1,none⟩)),(13,126,zI q9),(14,127,.pointer (some ⟨eS _a,(C:Int).toNat*1,none⟩))] (λ_b=>[]) (λ_b=>[gn _a (l8.set (C:Int).toNat q8)]) mixed kr kr rfl dc dc (by rfl) kr kr (p6 4 0 rfl (fw (λD n d c u i=>jX rfl dc (aX 3 u d) rfl (iV (C-1) (ac _ a0)) (bf 4 u i)) (p6 2 5 rfl (fw (λD n d c u i=>jX rfl dc (aX 6 u d) rfl (iV (C-1) (ac _ c3)) (bf 7 u i)) (fw (λD n d c u i=>eN 0 aw bJ gL rfl dc (aX 5 u d) (aX 7 u d) rfl rfl (bf 8 u i)) (fw (λD n d c u i=>fl 0 ((C-1:Int).toNat) 0 q8 ed iq rfl dc (aX 8 u d) rfl (ei aw) rfl dc rfl (bf 9 u i)) (p6 2 10 rfl (fw (λD n d c u i=>eN 0 M bJ gL rfl dc (aX 10 u d) (aX 11 u d) rfl rfl (bf 12 u i)) (fw (λD n d c u i=>fl 0 ((C:Int).toNat) 0 q9 ed iq rfl dc (aX 12 u d) rfl (ei M) rfl dc rfl (bf 13 u i)) (fw (λD n d c u i=>eN 0 M bJ gL rfl dc (aX 0 u d) (aX 1 u d) rfl rfl (bf 14 u i)) (fA fX))))))))))) (λ_b=>(iP rfl kr (iP rfl kr (dQ (λD n d c u i=>sv rfl dc (eG (by rfl) rfl) (bf 2 u i)) (dQ (λD n d c u i=>sv rfl dc (eG (by rfl) rfl) (bf 3 u i)) (dQ (λD n d c u i=>jX rfl dc (aX 3 u d) rfl (iV (C-1) (ac _ a0)) (bf 4 u i)) (iP rfl kr (iP rfl kr (iP rfl kr (iP rfl kr (iP rfl kr (iP rfl kr (iP rfl kr (iP rfl kr (iP rfl kr (iP rfl kr (lO mH))))))))))))))))) (λD hn hd dX=>oN 0 ((C:Int).toNat) 0 q9 q8 gL iq rfl (jY 14 kr rfl (hd 14 dc)) (jY 9 kr rfl (hd 9 dc)) rfl (ei M) rfl dc rfl (λ_ _=>rfl) (λa w ha hw=>⟨(),ha,hw⟩)) (λ_b=>eN 0 ao bJ gL rfl dc rfl rfl rfl rfl (oN 0 ((C-1:Int).toNat) 0 dd q9 gL iq rfl rfl rfl rfl (ei ao) rfl dc rfl (λ_ _=>rfl) (bC (cg (cu (bX (O 1 rfl (bi h λc2 h=>E rfl (iV (C-1) (ac _ c2)) (O 1 rfl (bC (mD ((l8.set (C:Int).toNat q8).set (C-1:Int).toNat q9,C-1) h 1)))))))))))))))) (λh=>dG (bS (bS (dH (iW l8 h rfl (ss) (cO 1)))))))))))
   refine λl5 h=>bO (bZ ?_);cases h;exact eW [] () (.inl rfl) qj .nil rfl (cO 1)
  exact bw (mD () h 1)
 refine λ_ h=>cJ (Int×Int) h 3 rfl (λa8 b=>a8 b.1 b.2=some r) (λb=>[]) (λb=>[(0,_a),(1,zI a1),(2,zI t),(3,zI b1),(4,.func (.func 15) #[] #[zP _o,zP _n]),(18,zI (IntKind.i64.wrap (er .u64 (IntKind.u64.wrap (a1+b1)) 1))),(19,zI ((IntKind.i64.wrap (er .u64 (IntKind.u64.wrap (a1+b1)) 1))+t)),(20,zI b.1),(21,zI b.2)]) (λb=>[gn _a _r]) (λa8 h cut=>I (O 2 rfl (bi h λc0 h=>E rfl (c8 (a1+b1) (ac _ c0)) (jI rfl dc rfl (qp iU gR) (E rfl (tH dc) (jI rfl dc rfl (qp gR iU) (O 1 rfl (cw (O 2 rfl (bi h λcv h=>E rfl (c8 ((IntKind.i64.wrap (er .u64 (IntKind.u64.wrap (a1+b1)) 1))+t) (ac _ cv)) (O 1 rfl (cw (O 2 rfl (Y (cut (I (O 1 rfl (O 1 rfl (E rfl kF (Y (bu rfl h (λh=>I (O 2 rfl (bi h λcs h=>E rfl (iV (((IntKind.i64.wrap (er .u64 (IntKind.u64.wrap (a1+b1)) 1))+t)-b1) (ac _ cs)) (O 1 rfl (Y (bX (O 2 rfl (bC (mD (((IntKind.i64.wrap (er .u64 (IntKind.u64.wrap (a1+b1)) 1))+t)-b1,IntKind.i64.wrap (er .u64 (IntKind.u64.wrap (a1+b1)) 1)) h 1))))))))) (λh=>I (O 2 rfl (Y (bX (O 2 rfl (bC (mD (a1,t) h 1)))))))))))))))))))))))))))) ?_;rintro⟨Q,r3⟩ h;refine cJ Int h 1 rfl (λa4 b=>a4 b=some r) (λb=>[]) (λb=>[(0,_a),(1,zI a1),(2,zI t),(3,zI b1),(4,.func (.func 15) #[] #[zP _o,zP _n]),(18,zI (IntKind.i64.wrap (er .u64 (IntKind.u64.wrap (a1+b1)) 1))),(19,zI ((IntKind.i64.wrap (er .u64 (IntKind.u64.wrap (a1+b1)) 1))+t)),(20,zI b)]) (λb=>[gn _a _r]) (λa4 h cut=>?_) ?_
 ·refine I (O 1 rfl (bi h λch h=>E rfl (iV (((IntKind.i64.wrap (er .u64 (IntKind.u64.wrap (a1+b1)) 1))+t)-1) (ac _ ch)) (O 1 rfl (Y (cut (ck (fP (Int×Int) (zN _r a1 t b1 _h x a4) (λa b=>a b.1 b.2=some r) (λb=>[]) (λb=>[(0,_a),(1,zI a1),(2,zI t),(3,zI b1),(4,.func (.func 15) #[] #[zP _o,zP _n]),(18,zI (IntKind.i64.wrap (er .u64 (IntKind.u64.wrap (a1+b1)) 1))),(19,zI ((IntKind.i64.wrap (er .u64 (IntKind.u64.wrap (a1+b1)) 1))+t)),(20,zI b.1),(21,zI b.2),(22,zI (((IntKind.i64.wrap (er .u64 (IntKind.u64.wrap (a1+b1)) 1))+t)-1))]) (λb=>[gn _a _r]) (Q,r3) h 1 ?_)))))));rintro dY ⟨g,N⟩ h;exact bV (I (O 2 rfl (E rfl dL (Y (bu rfl h (λh=>bw (cu (ck (I (O 2 rfl (bi h λcc h=>E rfl (c8 (g+N) (ac _ cc)) (jI rfl dc rfl (qp iU gR) (E rfl (tH dc) (jI rfl dc rfl (qp gR iU) (O 1 rfl (Y (bV (bi h λb9 h=>aU h λa3 ag h=>aU h λa2 Z h=>aU h λr7 b4 h=>jU 11 [(0,158,.func (.func 15) #[] #[zP _o,zP _n]),(1,159,_a),(2,160,zI (((IntKind.i64.wrap (er .u64 (IntKind.u64.wrap (a1+b1)) 1))+t)-1)),(3,161,zI (IntKind.i64.wrap (er .u64 (IntKind.u64.wrap (g+N)) 1))),(4,162,zI ((((IntKind.i64.wrap (er .u64 (IntKind.u64.wrap (a1+b1)) 1))+t)-1)-(IntKind.i64.wrap (er .u64 (IntKind.u64.wrap (g+N)) 1)))),(5,163,.pointer (some ⟨eS _a,((((IntKind.i64.wrap (er .u64 (IntKind.u64.wrap (a1+b1)) 1))+t)-1)-(IntKind.i64.wrap (er .u64 (IntKind.u64.wrap (g+N)) 1)):Int).toNat*1,none⟩)),(6,164,zI a3),(7,165,_a),(8,166,zI (IntKind.i64.wrap (er .u64 (IntKind.u64.wrap (g+N)) 1))),(9,167,.pointer (some ⟨eS _a,(IntKind.i64.wrap (er .u64 (IntKind.u64.wrap (g+N)) 1):Int).toNat*1,none⟩)),(10,168,zI a2)] mixed kr kr dc (by rfl) kr kr (gD 4 0 rfl (bQ (λD n d c u i=>jX rfl dc (aX 2 u d) (aX 3 u d) (iV ((((IntKind.i64.wrap (er .u64 (IntKind.u64.wrap (a1+b1)) 1))+t)-1)-(IntKind.i64.wrap (er .u64 (IntKind.u64.wrap (g+N)) 1))) (ac _ b9)) (bf 4 u i)) (bQ (λD n d c u i=>eN 0 ag bJ gL rfl dc (aX 1 u d) (aX 4 u d) rfl rfl (bf 5 u i)) (bQ (λD n d c u i=>fl 0 (((((IntKind.i64.wrap (er .u64 (IntKind.u64.wrap (a1+b1)) 1))+t)-1)-(IntKind.i64.wrap (er .u64 (IntKind.u64.wrap (g+N)) 1)):Int).toNat) 0 a3 ed iq rfl dc (aX 5 u d) rfl (ei ag) rfl dc rfl (bf 6 u i)) (gD 2 7 rfl (bQ (λD n d c u i=>eN 0 Z bJ gL rfl dc (aX 7 u d) (aX 8 u d) rfl rfl (bf 9 u i)) (bQ (λD n d c u i=>fl 0 ((IntKind.i64.wrap (er .u64 (IntKind.u64.wrap (g+N)) 1):Int).toNat) 0 a2 ed iq rfl dc (aX 9 u d) rfl (ei Z) rfl dc rfl (bf 10 u i)) bB))))))) (kZ (zI r7) [zI a3,zI a2] P rfl dc rfl rfl rfl DO (FZ _o _v _h _m _l _k _j _i _n l b4) (.ro 0 rfl (.ro 1 rfl (.ro 2 rfl (.ro 3 rfl (.ro 4 rfl (.ro 5 rfl (.ro 6 rfl (.ro 7 rfl (.ro 8 rfl .nil))))))))) (E rfl dL (lh rfl dc rfl lj (Y (bu rfl h (λh=>bX (O 1 rfl (bi h λb8 h=>E rfl (c8 ((IntKind.i64.wrap (er .u64 (IntKind.u64.wrap (g+N)) 1))+1) (ac _ b8)) (O 1 rfl (bC (cg (mD ((IntKind.i64.wrap (er .u64 (IntKind.u64.wrap (g+N)) 1))+1,N) h 1))))))) (λh=>bX (O 2 rfl (bC (cg (mD (g,IntKind.i64.wrap (er .u64 (IntKind.u64.wrap (g+N)) 1)) h 1))))))))))))))))))))))) (λh=>dG (bS (bS (dH (mD g h 1))))))))))
 refine λp h=>cJ (List Int) h 1 rfl (λa7 b=>a7 b=some r) (λb=>[]) (λb=>[(0,_a),(1,zI a1),(3,zI b1),(4,.func (.func 15) #[] #[zP _o,zP _n]),(18,zI (IntKind.i64.wrap (er .u64 (IntKind.u64.wrap (a1+b1)) 1))),(20,zI p),(24,zI (((IntKind.i64.wrap (er .u64 (IntKind.u64.wrap (a1+b1)) 1))+t)-p))]) (λb=>[gn _a b]) (λa7 h cut=>I (O 2 rfl (bi h λb7 h=>E rfl (iV (((IntKind.i64.wrap (er .u64 (IntKind.u64.wrap (a1+b1)) 1))+t)-p) (ac _ b7)) (O 1 rfl (Y (cut (I (O 2 rfl (E rfl dL (O 1 rfl (du 181 rfl h (λh=>O 2 rfl (E rfl dL (O 1 rfl (Y (bu rfl h (λh=>bX (O 5 rfl (aU h λr8 b3 h=>oQ [_a,zI p,zI t,zI (((IntKind.i64.wrap (er .u64 (IntKind.u64.wrap (a1+b1)) 1))+t)-p),.func (.func 15) #[] #[zP _o,zP _n]] P rfl dc rfl rfl rfl TN (F_ _a _r _o _v _h _m _l _k _j _i _n l b3) (cO 1) (.ro 0 rfl (.ro 1 rfl (.ro 2 rfl (.ro 3 rfl (.ro 4 rfl (.ro 5 rfl (.ro 6 rfl (.ro 7 rfl (.ro 8 rfl .nil))))))))) (λ_=>kL [gn _a r8] (ct [1] kr rfl) (bC (mD r8 h 1)))))) (λh=>bw (mD _r h 1))))))) (λh=>O 4 rfl (Y (eU rfl (bw (mD _r h 1)))))))))))))))) (λl9 h=>cJ (List Int) h 0 rfl (λa6 b=>a6 b=some r) (λb=>[]) (λb=>[(0,_a),(3,zI b1),(4,.func (.func 15) #[] #[zP _o,zP _n]),(18,zI (IntKind.i64.wrap (er .u64 (IntKind.u64.wrap (a1+b1)) 1))),(24,zI (((IntKind.i64.wrap (er .u64 (IntKind.u64.wrap (a1+b1)) 1))+t)-p))]) (λb=>[gn _a b]) (λa6 h cut=>cut (I (O 2 rfl (E rfl dL (O 1 rfl (du 195 rfl h (λh=>O 2 rfl (E rfl dL (O 1 rfl (Y (bu rfl h (λh=>bX (O 5 rfl (aU h λr9 b2 h=>oQ [_a,zI a1,zI p,zI (IntKind.i64.wrap (er .u64 (IntKind.u64.wrap (a1+b1)) 1)),.func (.func 15) #[] #[zP _o,zP _n]] P rfl dc rfl rfl rfl DT (J (_a:=_a) (_r:=l9) (_o:=_o) (_v:=_v) (_h:=_h) (_m:=_m) (_l:=_l) (_k:=_k) (_j:=_j) (_i:=_i) (_n:=_n) l b2) (cO 1) (.ro 0 rfl (.ro 1 rfl (.ro 2 rfl (.ro 3 rfl (.ro 4 rfl (.ro 5 rfl (.ro 6 rfl (.ro 7 rfl (.ro 8 rfl .nil))))))))) (λ_=>kL [gn _a r9] (ct [1] kr rfl) (bC (mD r9 h 1)))))) (λh=>bw (mD l9 h 1))))))) (λh=>O 4 rfl (Y (eU rfl (bw (mD l9 h 1))))))))))) (λdf h=>I (O 2 rfl (E rfl dL (O 1 rfl (du 209 rfl h (λh=>?_) (λh=>?_)))))))
 ·refine O 2 rfl (E rfl dL (O 1 rfl (Y (bu rfl h (λh=>?_) (λh=>?_)))))
  ·refine bX (O 5 rfl (aU h λc5 b0 h=>oQ [_a,zI (IntKind.i64.wrap (er .u64 (IntKind.u64.wrap (a1+b1)) 1)),zI (((IntKind.i64.wrap (er .u64 (IntKind.u64.wrap (a1+b1)) 1))+t)-p),zI b1,.func (.func 15) #[] #[zP _o,zP _n]] P rfl dc rfl rfl rfl DT (J (_a:=_a) (_r:=df) (_o:=_o) (_v:=_v) (_h:=_h) (_m:=_m) (_l:=_l) (_k:=_k) (_j:=_j) (_i:=_i) (_n:=_n) l b0) (cO 1) (.ro 0 rfl (.ro 1 rfl (.ro 2 rfl (.ro 3 rfl (.ro 4 rfl (.ro 5 rfl (.ro 6 rfl (.ro 7 rfl (.ro 8 rfl .nil))))))))) (λ_=>kL [gn _a c5] (ct [1] kr rfl) (bC ?_))));cases h;exact eW [] () (.inr rfl) qj .nil rfl (cO 1)
  refine bw ?_;cases h;exact eW [] () (.inr rfl) qj .nil rfl (cO 1)
 refine O 4 rfl (Y (eU rfl (bw ?_)));cases h;exact eW [] () (.inr rfl) qj .nil rfl (cO 1)
theorem QE (_a:Value) (_r:List Int) {a1:Int} {k:Int} {b1:Int} (_o _v:Nat) (_h:co) (_m _l _k _j _i:Hd) (_n:Nat) {a d:Value} {i:List V} {g:Nat} {b:List V} (j:Vw a i 1 g d b) {r:(List Int)} (h:zQ _r a1 k b1 _h b=some r):gu prog 81 [_a,zI a1,zI k,zI b1,.func (.func 15) #[] #[zP _o,zP _n]] [cells _o [zP _v] 24,cells _v [_m.v,.map (some (bc _l)),.map (some (bc _k)),.map (some (bc _j)),_i.v] 69,bq _m.v _h.units,cH (λn:V=>ad n) (λn:Int=>az .i64 n) (bc _l) _h.place,dV (bc _k) _h.fors,cH (λn:V=>ad n) (λn:Bool=>ap n) (bc _j) _h.skips,bq _i.v _h.lines,cells _n [d] 22,iM gK 1 a g i] [gn _a _r] (λ_b:Unit=>.tuple #[]) (λ_b=>[gn _a r]):=by
 unfold zQ at h;exact G_ bN j h
def CT (i:Int) (_h:co) (a:List V) (j:(List Int)->Int->Option (List Int)) (d:(List Int)->Int->Int->Option (List Int)) (g:List Int) (h:Int) (b:Int):Option (List Int) := G (decide ((b:Int)<=i)) (T (CS g h b _h a) λ(r1:(List Int))=>grd (I64 (b+20)) <|d r1 b (b+20)) (j g h)
def F1 (j:Int) (_h:co) (b:List V) (a:Int) (k:(List Int)->Int->Option (List Int)) (i:(List Int)->Int->Int->Option (List Int)) (d:List Int) (h:Int) (g:Int):Option (List Int) := G (decide ((g:Int)<=j)) (grd (I64 (h+a)) <|T (zQ d h (h+a) g _h b) λ(r3:(List Int))=>grd (I64 (2*a)) <|grd (I64 (g+(2*a))) <|i r3 g (g+(2*a))) (k d h)
def zR (d:Int) (_h:co) (b:List V) (i:(List Int)->Int->Option (List Int)) (k:List Int) (a:Int):Option (List Int) := G (decide ((a:Int)<d)) (cm (λ(n:(List Int)->Int->Option (List Int))=>grd (I64 (2*a)) <|bP (λ_ _ _=>none) (F1 d _h b a n) bN k 0 (2*a)) (λ(j:List Int) (g:Int)=>cm (λ(l:(List Int)->Option (List Int))=>grd (I64 (g+a)) <|G (decide (((g+a):Int)<d)) (T (zQ j g (g+a) d _h b) λ(m:(List Int))=>l m) (l j)) (λ(h:List Int)=>grd (I64 (a*2)) <|i h (a*2)))) (some k)
def CU (_r:List Int) (b:Int) (_h:co) (a:List V):Option (List Int) := cm (λ(g:(List Int)->Int->Option (List Int))=>bP (λ_ _ _=>none) (CT b _h a g) bN _r 0 20) (λ(d:List Int) (a1:Int)=>T (CS d a1 b _h a) λ(r2:(List Int))=>bP (λ_ _=>none) (zR b _h a) bN r2 20)
theorem H_ (_a:Value) (_r:List Int) {p:Int} (_o _v:Nat) (_h:co) (_m _l _k _j _i:Hd) (_n:Nat) {j k:Value} {m:List V} {l:Nat} {g:List V} (i:Vw j m 1 l k g) {r:(List Int)} (h:CU _r p _h g=some r):gu prog 34 [_a,zI p,.func (.func 15) #[] #[zP _o,zP _n]] [cells _o [zP _v] 24,cells _v [_m.v,.map (some (bc _l)),.map (some (bc _k)),.map (some (bc _j)),_i.v] 69,bq _m.v _h.units,cH (λn:V=>ad n) (λn:Int=>az .i64 n) (bc _l) _h.place,dV (bc _k) _h.fors,cH (λn:V=>ad n) (λn:Bool=>ap n) (bc _j) _h.skips,bq _i.v _h.lines,cells _n [k] 22,iM gK 1 j l m] [gn _a _r] (λ_b:Unit=>.tuple #[]) (λ_b=>[gn _a r]):=by
 refine gu.intro func34 rfl ntmps34 (by simp) (λw0 K q=>cJ ((List Int)×Int) h 2 rfl (λz b=>z b.1 b.2=some r) (λb=>[]) (λb=>[(0,_a),(1,zI p),(2,.func (.func 15) #[] #[zP _o,zP _n]),(6,zI 20),(7,zI b.2)]) (λb=>[gn _a b.1]) (λz h cut=>?_) ?_)
 ·refine I (O 1 rfl (cw (O 3 rfl (Y (cut (ck (fP ((List Int)×Int×Int) (CT p _h g z) (λa b=>a b.1 b.2.1 b.2.2=some r) (λb=>[]) (λb=>[(0,_a),(1,zI p),(2,.func (.func 15) #[] #[zP _o,zP _n]),(6,zI 20),(7,zI b.2.1),(8,zI b.2.2)]) (λb=>[gn _a b.1]) (_r,0,20) h 1 ?_)))))));rintro aw ⟨Z,a4,u⟩ h;exact bV (I (O 2 rfl (E rfl jd (Y (bu rfl h (λh=>bw (cu (ck (I (O 4 rfl (aU h λr1 D h=>oQ [_a,zI a4,zI u,.func (.func 15) #[] #[zP _o,zP _n]] q rfl dc rfl rfl rfl Mh (QD _a Z _o _v _h _m _l _k _j _i _n i D) (cO 1) (.ro 0 rfl (.ro 1 rfl (.ro 2 rfl (.ro 3 rfl (.ro 4 rfl (.ro 5 rfl (.ro 6 rfl (.ro 7 rfl (.ro 8 rfl .nil))))))))) (λ_=>kL [gn _a r1] (ct [1] kr rfl) (cw (O 2 rfl (Y (bX (O 2 rfl (bi h λR h=>E rfl (c8 (u+20) (ac _ R)) (O 1 rfl (bC (cg (mD (r1,u,u+20) h 1))))))))))))))))) (λh=>dG (bS (bS (dH (mD (Z,a4) h 1))))))))))
 rintro⟨l1,a1⟩ h;refine I (O 4 rfl (aU h λr2 C h=>oQ [_a,zI a1,zI p,.func (.func 15) #[] #[zP _o,zP _n]] q rfl dc rfl rfl rfl Mh (QD _a l1 _o _v _h _m _l _k _j _i _n i C) (cO 1) (.ro 0 rfl (.ro 1 rfl (.ro 2 rfl (.ro 3 rfl (.ro 4 rfl (.ro 5 rfl (.ro 6 rfl (.ro 7 rfl (.ro 8 rfl .nil))))))))) (λ_=>kL [gn _a r2] (ct [1] kr rfl) (Y (ck (fP ((List Int)×Int) (zR p _h g) (λa b=>a b.1 b.2=some r) (λb=>[]) (λb=>[(0,_a),(1,zI p),(2,.func (.func 15) #[] #[zP _o,zP _n]),(6,zI b.2)]) (λb=>[gn _a b.1]) (r2,20) h 1 ?_))))));rintro ao ⟨l7,d⟩ h;refine bV (I (O 2 rfl (E rfl dL (Y (bu rfl h (λh=>?_) (λh=>?_))))))
 ·refine bw (cu (ck (cJ ((List Int)×Int) h 1 rfl (λy b=>y b.1 b.2=some r) (λb=>[]) (λb=>[(0,_a),(1,zI p),(2,.func (.func 15) #[] #[zP _o,zP _n]),(6,zI d),(7,zI b.2)]) (λb=>[gn _a b.1]) (λy h cut=>?_) ?_)))
  ·refine I (O 1 rfl (bi h λQ h=>E rfl (Di (r:=2*d) (ac _ Q)) (O 2 rfl (Y (cut (ck (fP ((List Int)×Int×Int) (F1 p _h g d y) (λa b=>a b.1 b.2.1 b.2.2=some r) (λb=>[]) (λb=>[(0,_a),(1,zI p),(2,.func (.func 15) #[] #[zP _o,zP _n]),(6,zI d),(7,zI b.2.1),(8,zI b.2.2)]) (λb=>[gn _a b.1]) (l7,0,2*d) h 1 ?_)))))));rintro ag ⟨s,w,t⟩ h;exact bV (I (O 2 rfl (E rfl jd (Y (bu rfl h (λh=>bw (cu (ck (I (O 4 rfl (bi h λP h=>E rfl (c8 (w+d) (ac _ P)) (O 2 rfl (aU h λr3 B h=>oQ [_a,zI w,zI (w+d),zI t,.func (.func 15) #[] #[zP _o,zP _n]] q rfl dc rfl rfl rfl DT (QE _a s _o _v _h _m _l _k _j _i _n i B) (cO 1) (.ro 0 rfl (.ro 1 rfl (.ro 2 rfl (.ro 3 rfl (.ro 4 rfl (.ro 5 rfl (.ro 6 rfl (.ro 7 rfl (.ro 8 rfl .nil))))))))) (λ_=>kL [gn _a r3] (ct [1] kr rfl) (cw (O 2 rfl (Y (bX (O 2 rfl (bi h λN h=>E rfl (Di (r:=2*d) (ac _ N)) (bi h λM h=>E rfl (c8 (t+(2*d)) (ac _ M)) (O 1 rfl (bC (cg (mD (r3,t,t+(2*d)) h 1)))))))))))))))))))) (λh=>dG (bS (bS (dH (mD (s,w) h 1))))))))))
  rintro⟨X,S⟩ h;exact cJ (List Int) h 0 rfl (λj3 b=>j3 b=some r) (λb=>[]) (λb=>[(0,_a),(1,zI p),(2,.func (.func 15) #[] #[zP _o,zP _n]),(6,zI d)]) (λb=>[gn _a b]) (λj3 h cut=>cut (I (O 2 rfl (bi h λJ h=>E rfl (c8 (S+d) (ac _ J)) (O 1 rfl (cw (O 2 rfl (E rfl dL (Y (bu rfl h (λh=>bX (O 5 rfl (aU h λW A h=>oQ [_a,zI S,zI (S+d),zI p,.func (.func 15) #[] #[zP _o,zP _n]] q rfl dc rfl rfl rfl DT (QE _a X _o _v _h _m _l _k _j _i _n i A) (cO 1) (.ro 0 rfl (.ro 1 rfl (.ro 2 rfl (.ro 3 rfl (.ro 4 rfl (.ro 5 rfl (.ro 6 rfl (.ro 7 rfl (.ro 8 rfl .nil))))))))) (λ_=>kL [gn _a W] (ct [1] kr rfl) (bC (mD W h 1)))))) (λh=>bw (mD X h 1)))))))))))) (λx h=>bX (O 1 rfl (bi h λF h=>E rfl (Di (r:=d*2) (ac _ F)) (O 1 rfl (bC (cg (mD (x,d*2) h 1)))))))
 refine dG (bS (bS (dH ?_)));cases h;exact eW [] () (.inr rfl) results34 .nil rfl (cO 1)
def JN (x1:List Int) (_h:co) (a:List V):Option (List Int) := T (CU x1 (x1.length:Int) _h a) λ(r1:(List Int))=>some r1
theorem I_ (_K:Value) (x1:List Int) (_o _v:Nat) (_h:co) (_m _l _k _j _i:Hd) (_n:Nat) {a d:Value} {i:List V} {g:Nat} {b:List V} (j:Vw a i 1 g d b) {r:(List Int)} (h:JN x1 _h b=some r):gu prog 14 [_K,.func (.func 15) #[] #[zP _o,zP _n]] [cells _o [zP _v] 24,cells _v [_m.v,.map (some (bc _l)),.map (some (bc _k)),.map (some (bc _j)),_i.v] 69,bq _m.v _h.units,cH (λn:V=>ad n) (λn:Int=>az .i64 n) (bc _l) _h.place,dV (bc _k) _h.fors,cH (λn:V=>ad n) (λn:Bool=>ap n) (bc _j) _h.skips,bq _i.v _h.lines,cells _n [d] 22,iM gK 1 a g i] [gn _K x1] (λ_b:Unit=>.tuple #[]) (λ_b=>[gn _K r]):=by
 refine gu.intro func14 rfl ntmps14 (by simp) (λw0 K l=>bX (O 2 rfl (io 0 rfl dc rfl rfl bJ (O 1 rfl (aU h λr1 m h=>oQ [_K,zI (x1.length:Int),.func (.func 15) #[] #[zP _o,zP _n]] l rfl dc rfl rfl rfl S5 (H_ _K x1 _o _v _h _m _l _k _j _i _n j m) (cO 1) (.ro 0 rfl (.ro 1 rfl (.ro 2 rfl (.ro 3 rfl (.ro 4 rfl (.ro 5 rfl (.ro 6 rfl (.ro 7 rfl (.ro 8 rfl .nil))))))))) (λ_=>kL [gn _K r1] (ct [1] kr rfl) (bC ?_)))))));cases h;exact eW [] () (.inr rfl) results14 .nil rfl (cO 1)
def CV (g:List V) (h:(List Int)->Option (List Int)) (d:(List Int)->Int->Option (List Int)) (a:List Int) (b:Int):Option (List Int) := G (decide ((b:Int)<((aO ((g.length:Int):Int).toNat 0:List Int).length:Int))) (T (cj a b) λ(q1:Int)=>grd (I64 (b+1)) <|d (a.set (b:Int).toNat b) (b+1)) (h a)
def F2 (o1:co) (b:List V):Option (List Int) := cm (λ(d:(List Int)->Option (List Int))=>grd (0<=(b.length:Int)/\(b.length:Int)<=2147483648) <|bP (λ_ _=>none) (CV b d) bN (aO ((b.length:Int):Int).toNat 0:List Int) 0) (λ(a:List Int)=>T (JN a o1 b) λ(r1:(List Int))=>some r1)
theorem J_ (_p:Nat) (o1:co) (_g _c _d _f _q:Hd) {l d:Value} {y:List V} {w:Nat} {u:List V} (g:Vw l y 1 w d u) {r:(List Int)} (h:F2 o1 u=some r):gu prog 7 [zP _p,d] [cells _p [_g.v,.map (some (bc _c)),.map (some (bc _d)),.map (some (bc _f)),_q.v] 69,bq _g.v o1.units,cH (λn:V=>ad n) (λn:Int=>az .i64 n) (bc _c) o1.place,dV (bc _d) o1.fors,cH (λn:V=>ad n) (λn:Bool=>ap n) (bc _f) o1.skips,bq _q.v o1.lines,iM gK 1 l w y] [] (λv0:Value=>v0) (λv0=>[gn v0 r]):=by
 refine gu.intro func7 rfl ntmps7 (by simp) (λw0 K B=>I (lE rfl dc rfl (λb1=>Kz (λ_ _=>Vw.one g) rfl dc rfl (λp=>O 1 rfl (Y (bV (I (bW 0 qF rfl dc rfl rfl rfl (E rfl (Dq ve) (Y (eU rfl (bw (cu (cJ ((List Int)×Value) h 1 rfl (λA b=>A b.1=some r) (λb=>[]) (λb=>[(2,zP b1),(3,zP p),(5,b.2)]) (λb=>[cells b1 [zP _p] 24,cells p [d] 22,gn b.2 b.1]) (λA h cut=>?_) ?_))))))))))))))
 ·refine I (bW 1 oS rfl dc rfl rfl rfl (jl g rfl dc rfl ay (bi h λF h=>Gt 0 bJ Sp xY iq rfl dc rfl F (λv2=>O 1 rfl (Y (cut (I (O 1 rfl (io 2 rfl dc rfl rfl bJ (O 1 rfl (Y (ck (fP ((List Int)×Int) (CV u A) (λa b=>a b.1 b.2=some r) (λb=>[]) (λb=>[(2,zP b1),(3,zP p),(5,v2),(13,zI ((aO ((u.length:Int):Int).toNat 0:List Int).length:Int)),(14,zI b.2)]) (λb=>[cells b1 [zP _p] 24,cells p [d] 22,gn v2 b.1]) ((aO ((u.length:Int):Int).toNat 0:List Int),0) h 3 ?_)))))))))))));rintro J ⟨m,s⟩ h;exact I (E rfl dL (Y (bV (bu rfl h (λh=>bw (cu (bV (ck (I (O 2 rfl (Y (bX (O 3 rfl (aU h λq1 x h=>eN 2 x bJ gL rfl dc rfl rfl rfl rfl (oN 2 ((s:Int).toNat) 0 q1 s gL iq rfl rfl rfl rfl (ei x) rfl dc rfl (λ_ _=>rfl) (bC (cg (cu (bX (bi h λD h=>E rfl (c8 (s+1) (ac _ D)) (O 1 rfl (bC (mD (m.set (s:Int).toNat s,s+1) h 3))))))))))))))))))) (λh=>dG (bS (bS (dH (mD (m,v2) h 3)))))))))
 rintro⟨t,v1⟩ h;refine I (O 1 rfl (xC [] [.tmp 2,.tmp 3] rfl dc rfl rfl (aU h λr1 C h=>oQ [v1,.func (.func 15) #[] #[zP b1,zP p]] B rfl dc rfl rfl rfl SO (I_ v1 t b1 _p o1 _g _c _d _f _q p g C) (ct [2] kr rfl) (.own (cO 1) (λ_ _ h=>aL.1 h) (.ro 0 rfl (.ro 1 rfl (.ro 2 rfl (.ro 3 rfl (.ro 4 rfl (.ro 5 rfl (.own (ct [1] kr rfl) (λ_ _ h=>aL.1 h) (.ro 6 rfl .nil))))))))) (λ_=>kL [cells b1 [zP _p] 24,cells p [d] 22,gn v1 r1] (ct [0,1,3] kr rfl) (cw (O 2 rfl (Y (bO ?_))))))));cases h;exact eW [.tmp 4] v1 (.inl rfl) results7 (.cons (.tmp rfl) .nil) rfl (ct [2] kr rfl)
def CW (g:List V) (h:(List V)->(List (V×Int))->(List (V×List V))->(List (V×Bool))->(List V)->(List V)->(List (V×List V))->(List V)->(List V)->(List V)->Option Bool) (p1:co) (p2:dv) (d:(List V)->Int->Option Bool) (a:List V) (b:Int):Option Bool := G (decide ((b:Int)<(g.length:Int))) (T (cj g b) λ(q1:V)=>T (Cm q1) λ(r3:V)=>grd (a.length+1<=2147483648) <|grd (I64 (b+1)) <|d (a++[r3]) (b+1)) (h p1.units p1.place p1.fors p1.skips p1.lines p2.Units p2.Fors p2.Skips p2.Lines a)
def CX (a:List V) (k:V->(List Int)->Int->Bool->Option Bool) (i:V) (h:(List Int)) (g:(Int×Bool)) (d:Int->Option Bool) (b:Int):Option Bool := G (decide ((b:Int)<(a.length:Int))) (T (cj ((([]:List V)++a)++[(⟨#[126]⟩:V),(⟨#[126]⟩:V),(⟨#[126]⟩:V)]) b) λ(q2:V)=>T (cj a b) λ(j:V)=>G (!decide (q2=j)) (some false) (grd (I64 (b+1)) <|d (b+1))) (k i h g.1 g.2)
def CY (k:List V) (j:List (V×List V)) (i:List V) (h:List V) (g:List V) (p:Int) (t1:V) (r:Bool->Int->Option Bool) (m:Int->Int->Option Bool) (a:Int) (b:Int):Option Bool := G (decide ((b:Int)<(g.length:Int))) (cm (λ(l:Int->Option Bool)=>T (cj g b) λ(q:V)=>T (xu (⟨k,j,i,h⟩:dv) q t1) λ(n:(Int×Int))=>G (decide ((n.1:Int)<0)) (grd (I64 (a+1)) <|l (a+1)) (G ((n.1:Int)==0) (G (decide ((b:Int)<p)) (grd (I64 (a+1)) <|l (a+1)) (l a)) (l a))) (λ(d:Int)=>grd (I64 (b+1)) <|m d (b+1))) (r true a)
def CZ (k:List V) (j:List (V×List V)) (i:List V) (h:List V) (g:List V) (q:V) (p:Int) (t1:V) (s:Bool->Int->Option Bool) (m:Int->Int->Option Bool) (a:Int) (b:Int):Option Bool := G (decide ((b:Int)<(g.length:Int))) (cm (λ(l:Int->Option Bool)=>T (cj g b) λ(r:V)=>T (xu (⟨k,j,i,h⟩:dv) r t1) λ(n:(Int×Int))=>G (decide ((n.1:Int)<0)) (grd (I64 (a+1)) <|l (a+1)) (G ((n.1:Int)==0) (G (decide ((b:Int)<p)) (grd (I64 (a+1)) <|l (a+1)) (l a)) (l a))) (λ(d:Int)=>grd (I64 (b+1)) <|m d (b+1))) (s (decide (t1=q)) a)
def C3 (h:List V) (g:List (V×List V)) (d:List V) (b:List V) (i:List V) (u:V) (j:List Int) (A:Int->Bool->Option Bool) (t:Int->Bool->Int->Option Bool) (a:Int) (p:Bool) (n:Int):Option Bool := G (decide ((n:Int)<(i.length:Int))) (cm (λ(z:Int->Bool->Option Bool)=>cm (λ(w:Int->V->Option Bool)=>T (cj i n) λ(q:V)=>T (xu (⟨h,g,d,b⟩:dv) q u) λ(x:(Int×Int))=>G (decide ((x.1:Int)<0)) (grd (I64 (a+1)) <|w (a+1) q) (w a q)) (λ(l:Int) (t1:V)=>cm (λ(v:Bool->Int->Option Bool)=>G (p) (bP (λ_ _=>none) (CY h g d b i n t1 v) bN 0 0) (bP (λ_ _=>none) (CZ h g d b i u n t1 v) bN 0 0)) (λ(r:Bool) (k:Int)=>T (cj j k) λ(y:Int)=>G ((y:Int) != n) (some false) (z l r)))) (λ(m:Int) (s:Bool)=>grd (I64 (n+1)) <|t m s (n+1))) (A a p)
def JO (l:V) (x:V) (m:List V):Option Bool := T (FG) λ(r1:Bool)=>G (!r1) (some false) (T (FW l) λ(r2:((Option co)×(Option dv)))=>G (r2.1.isNone) (some false) (cm (λ(v:(List V)->Option Bool)=>G (decide ((40:Int)<(m.length:Int))) (grd (0<=(0:Int)/\(0:Int)<=40/\(40:Int)<=(m.length:Int)) <|v (ee m 0 40)) (v m)) (λ(C:List V)=>cm (λ(J:(List V)->(List (V×Int))->(List (V×List V))->(List (V×Bool))->(List V)->(List V)->(List (V×List V))->(List V)->(List V)->(List V)->Option Bool)=>T (r2.1) λ(p1:co)=>T (r2.2) λ(p2:dv)=>bP (λ_ _=>none) (CW C J p1 p2) bN ([]:List V) 0) (λ(o1:List V) (u:List (V×Int)) (t:List (V×List V)) (s:List (V×Bool)) (r:List V) (k:List V) (j:List (V×List V)) (i:List V) (h:List V) (a:List V)=>cm (λ(F:V->(List Int)->Int->Bool->Option Bool)=>T (Cm x) λ(q:V)=>grd (I64 ((a.length:Int)+9)) <|grd (0<=((a.length:Int)+9)/\((a.length:Int)+9)<=2147483648) <|grd (([]:List V).length+a.length<=2147483648) <|grd ((([]:List V)++a).length+3<=2147483648) <|grd (0<=(0:Int)/\(0:Int)<=(a.length:Int)/\((a.length:Int):Int)<=(((([]:List V)++a)++[(⟨#[126]⟩:V),(⟨#[126]⟩:V),(⟨#[126]⟩:V)]).length:Int)) <|T (F2 (⟨o1,u,t,s,r⟩:co) (ee ((([]:List V)++a)++[(⟨#[126]⟩:V),(⟨#[126]⟩:V),(⟨#[126]⟩:V)]) 0 (a.length:Int))) λ(z:(List Int))=>grd (0<=(0:Int)/\(0:Int)<=(a.length:Int)/\((a.length:Int):Int)<=(((([]:List V)++a)++[(⟨#[126]⟩:V),(⟨#[126]⟩:V),(⟨#[126]⟩:V)]).length:Int)) <|T (FX (⟨o1,u,t,s,r⟩:co) q (ee ((([]:List V)++a)++[(⟨#[126]⟩:V),(⟨#[126]⟩:V),(⟨#[126]⟩:V)]) 0 (a.length:Int))) λ(y:(Int×Bool))=>bP (λ_=>none) (CX a F q z y) bN 0) (λ(w:V) (b:List Int) (B:Int) (d:Bool)=>T (cj ((([]:List V)++a)++[(⟨#[126]⟩:V),(⟨#[126]⟩:V),(⟨#[126]⟩:V)]) (a.length:Int)) λ(A:V)=>G (!decide (A=(⟨#[126]⟩:V))) (some false) (G (((b.length:Int):Int) != (a.length:Int)) (some false) (cm (λ(D:Int->Bool->Option Bool)=>bP (λ_ _ _=>none) (C3 k j i h a w b D) bN 0 false 0) (λ(g:Int) (p:Bool)=>G ((B:Int)==g) (G (d==p) (T (FG) λ(n:Bool)=>some n) (some false)) (some false)))))))))
theorem K_ {Z:V} {s1:V} {ao c5:Value} {dn:List V} {bk:Nat} {l1:List V} (aw:Vw ao dn 1 bk c5 l1) {r:Bool} (h:JO Z s1 l1=some r):gu prog 3 [.string Z,.string s1,c5] [iM gK 1 ao bk dn] [] (λ_:Unit=>(.bool r)) (λ_=>[]):=by
 refine gu.intro func3 rfl ntmps3 (by simp) (λw0 K ag=>I (O 1 rfl (Y (bV (I (aU h λr1 e5 h=>dF (.bool r1) [] rfl dc rfl rfl rfl L3 (PQ e5) (lh rfl dc rfl lj (Y (bu rfl h (λh=>?_) (λh=>?_))))))))))
 ·refine I (O 1 rfl (Y (bO (bZ ?_))));cases h;exact dt 6 kD
 refine bw (cu (I (O 1 rfl (aU h λr2 e4 h=>ir [.string Z] rfl dc rfl rfl rfl SK (y_ e4) aC ?_))));rintro⟨v1,v2⟩;refine kL [kN oT oU 69 v1 r2.1,kN rC rD 86 v2 r2.2] (cO 2) (O 1 rfl (fF rfl dc rfl rfl (fF rfl dc rfl rfl (O 2 rfl (Y (bV (I (O 1 rfl (Sg (k:=0) rfl (λeA=>E rfl (Sj ve eA) (Y (bu rfl h (λh=>?_) (λh=>?_)))))))))))))
 ·refine I (O 1 rfl (Y (bO (bZ ?_))));cases h;exact dt 6 kD
 refine bw (cu (cJ ((List V)×Value) h 0 rfl (λj1 b=>j1 b.1=some r/\Vw ao dn 1 bk b.2 b.1) (λb=>[]) (λb=>[(1,.string s1),(2,b.2),(7,v1),(8,v2)]) (λb=>[kN oT oU 69 v1 r2.1,kN rC rD 86 v2 r2.2]) (λj1 h cut=>?_) ?_))
 ·refine cut (I (O 1 rfl (jl aw rfl dc rfl ay (E rfl kF (Y (bu rfl h (λh=>?_) (λh=>?_)))))))
  ·refine bX (O 1 rfl (bi h λfs h=>?_));obtain⟨v4,ez,eM⟩:=pf none (some (zI 40)) aw ay gV (.inl ⟨rfl,rfl⟩) (.inr rfl) fs;exact jj rfl dc rfl rfl rfl eM (O 1 rfl (bC (mD (ee l1 0 40,v4) ⟨h,ez⟩ 2)))
  exact bw (mD (l1,c5) ⟨h,aw⟩ 2)
 rintro⟨l2,v3⟩ ⟨h,dd⟩;refine cJ ((List V)×(List (V×Int))×(List (V×List V))×(List (V×Bool))×(List V)×(List V)×(List (V×List V))×(List V)×(List V)×(List V)×Nat×Hd×Nat×Nat×Nat×Hd×Nat×Hd×Nat×Hd×Hd×Hd) h 1 rfl (λj2 b=>j2 b.1 b.2.1 b.2.2.1 b.2.2.2.1 b.2.2.2.2.1 b.2.2.2.2.2.1 b.2.2.2.2.2.2.1 b.2.2.2.2.2.2.2.1 b.2.2.2.2.2.2.2.2.1 b.2.2.2.2.2.2.2.2.2.1=some r) (λb=>[]) (λb=>[(1,.string s1),(7,zP b.2.2.2.2.2.2.2.2.2.2.1),(8,zP b.2.2.2.2.2.2.2.2.2.2.2.2.2.2.2.2.1),(9,b.2.2.2.2.2.2.2.2.2.2.2.2.2.2.2.2.2.2.2.2.2.v)]) (λb=>[cells b.2.2.2.2.2.2.2.2.2.2.1 [b.2.2.2.2.2.2.2.2.2.2.2.1.v,.map (some b.2.2.2.2.2.2.2.2.2.2.2.2.1),.map (some b.2.2.2.2.2.2.2.2.2.2.2.2.2.1),.map (some b.2.2.2.2.2.2.2.2.2.2.2.2.2.2.1),b.2.2.2.2.2.2.2.2.2.2.2.2.2.2.2.1.v] 69,bq b.2.2.2.2.2.2.2.2.2.2.2.1.v b.1,cH (λn:V=>ad n) (λn:Int=>az .i64 n) b.2.2.2.2.2.2.2.2.2.2.2.2.1 b.2.1,dV b.2.2.2.2.2.2.2.2.2.2.2.2.2.1 b.2.2.1,cH (λn:V=>ad n) (λn:Bool=>ap n) b.2.2.2.2.2.2.2.2.2.2.2.2.2.2.1 b.2.2.2.1,bq b.2.2.2.2.2.2.2.2.2.2.2.2.2.2.2.1.v b.2.2.2.2.1,cells b.2.2.2.2.2.2.2.2.2.2.2.2.2.2.2.2.1 [b.2.2.2.2.2.2.2.2.2.2.2.2.2.2.2.2.2.1.v,.map (some b.2.2.2.2.2.2.2.2.2.2.2.2.2.2.2.2.2.2.1),b.2.2.2.2.2.2.2.2.2.2.2.2.2.2.2.2.2.2.2.1.v,b.2.2.2.2.2.2.2.2.2.2.2.2.2.2.2.2.2.2.2.2.1.v] 86,bq b.2.2.2.2.2.2.2.2.2.2.2.2.2.2.2.2.2.1.v b.2.2.2.2.2.1,dV b.2.2.2.2.2.2.2.2.2.2.2.2.2.2.2.2.2.2.1 b.2.2.2.2.2.2.1,bq b.2.2.2.2.2.2.2.2.2.2.2.2.2.2.2.2.2.2.2.1.v b.2.2.2.2.2.2.2.1,bq b.2.2.2.2.2.2.2.2.2.2.2.2.2.2.2.2.2.2.2.2.1.v b.2.2.2.2.2.2.2.2.1,bq b.2.2.2.2.2.2.2.2.2.2.2.2.2.2.2.2.2.2.2.2.2.v b.2.2.2.2.2.2.2.2.2.1]) (λj2 h cut=>?_) ?_
 ·refine I (O 1 rfl (Y (cut (I (O 1 rfl (jl dd rfl dc rfl ay (O 1 rfl (Y (ck (aU h λp1 e3 h=>KX (As:=[kN oT oU 69 v1 r2.1]) (cO 1) (GI e3) ?_))))))))));rintro⟨b7,dj,di,dg,a6,a5⟩ ey;have df:=h;subst ey;have h:=df;refine aU h λp2 e2 h=>KX (As:=[kN rC rD 86 v2 r2.2]) (ct [1] kr rfl) (GI e2) ?_;rintro⟨b8,a4,a3,a2,a1⟩ ex;have df:=h;subst ex;have h:=df;refine oL gK 9 1 (n9 ((List V)×Int×Hd) (CW l2 j2 p1 p2) (λa b=>a b.1 b.2.1=some r) (λb=>[]) (λb=>[(1,.string s1),(2,v3),(7,zP b7),(8,zP b8),(9,b.2.2.v),(42,zI (l2.length:Int)),(43,zI b.2.1)]) (λb=>[cells b7 [dj.v,.map (some (bc di)),.map (some (bc dg)),.map (some (bc a6)),a5.v] 69,bq dj.v p1.units,cH (λn:V=>ad n) (λn:Int=>az .i64 n) (bc di) p1.place,dV (bc dg) p1.fors,cH (λn:V=>ad n) (λn:Bool=>ap n) (bc a6) p1.skips,bq a5.v p1.lines,cells b8 [a4.v,.map (some (bc a3)),a2.v,a1.v] 86,bq a4.v p2.Units,dV (bc a3) p2.Fors,bq a2.v p2.Skips,bq a1.v p2.Lines,bq b.2.2.v b.1]) (([]:List V),0,fe) h rfl (gl rfl) (ct [2,3,4,5,6,7,8,9,10,11,12,13] kr rfl) ?_);rintro gb ⟨b0,x3,d8⟩ h;refine I (E rfl dL (Y (bV (bu rfl h (λh=>?_) (λh=>?_)))))
  ·refine bw (cu (bV (ck (I (O 2 rfl (Y (bX (O 3 rfl (aU h λq1 dw h=>gm dd dw ay gV rfl dc rfl rfl rfl (km 0 (bk+(x3:Int).toNat) 0 q1 ag rfl z1 eJ rfl dc rfl (cq dd dw) rfl rfl (aU h λr3 e1 h=>dF (.string r3) [.string q1] rfl dc rfl rfl rfl L4 (PR e1) (hQ [(0,.tmp 51)] 9 [.string r3] rfl dc rfl (λ_=>by kernel_rfl) (λb9=>bi h λfo h=>jJ 11 12 [r3] ay oR gG pE rfl dc rfl rfl rfl rfl rfl rfl fo (λv5=>jk 11 rfl (λd7 f1=>?_)))))))))))))));subst f1;exact O 1 rfl (bC (cg (cu (bX (bi h λfn h=>E rfl (c8 (x3+1) (ac _ fn)) (O 1 rfl (bC (mD (b0++[r3],x3+1,d7) h 12))))))))
  exact dG (bS (bS (dH (mD (p1.units,p1.place,p1.fors,p1.skips,p1.lines,p2.Units,p2.Fors,p2.Skips,p2.Lines,b0,b7,dj,(bc di),(bc dg),(bc a6),a5,b8,a4,(bc a3),a2,a1,d8) h 12))))
 rintro⟨o1,o2,o3,o4,o5,w,t,p,m,g,b1,d9,b2,b3,b4,hd2,P,F,S,C,B,l⟩ h;refine cJ (V×(List Int)×Int×Bool×Hd×Hd) h 4 rfl (λj3 b=>j3 b.1 b.2.1 b.2.2.1 b.2.2.2.1=some r) (λb=>[]) (λb=>[(1,.string b.1),(8,zP P),(9,l.v),(11,b.2.2.2.2.1.v),(12,b.2.2.2.2.2.v),(13,zI b.2.2.1),(14,.bool b.2.2.2.1)]) (λb=>[cells P [F.v,.map (some S),C.v,B.v] 86,bq F.v w,dV S t,bq C.v p,bq B.v m,bq l.v g,bq b.2.2.2.2.1.v ((([]:List V)++g)++[(⟨#[126]⟩:V),(⟨#[126]⟩:V),(⟨#[126]⟩:V)]),gn b.2.2.2.2.2.v b.2.1]) (λj3 h cut=>?_) ?_
 ·refine I (O 1 rfl (aU h λr4 e0 h=>dF (.string r4) [.string s1] rfl dc rfl rfl rfl L4 (PR e0) (O 1 rfl (cw (O 1 rfl (io 11 rfl dc rfl rfl ay (bi h λfk h=>E rfl (c8 ((g.length:Int)+9) (ac _ fk)) (bi h λfd h=>U3 af ay oR GM gG rfl dc rfl fd (λv6=>O 1 rfl (lF 11 rfl (λhw2=>bi h λe9 h=>Dv 12 11 ay oR gG pE hw2 rfl dc rfl rfl rfl rfl e9 (λv7=>jk 12 rfl (λf2 f0=>?_)))))))))))));subst f0;refine hQ [(0,.const (.string (⟨#[126]⟩:V))),(1,.const (.string (⟨#[126]⟩:V))),(2,.const (.string (⟨#[126]⟩:V)))] 9 [.string (⟨#[126]⟩:V),.string (⟨#[126]⟩:V),.string (⟨#[126]⟩:V)] rfl dc rfl (λ_=>by kernel_rfl) (λf6=>bi h λe8 h=>jJ 12 13 [(⟨#[126]⟩:V),(⟨#[126]⟩:V),(⟨#[126]⟩:V)] ay oR gG pE rfl dc rfl rfl rfl rfl rfl rfl e8 (λv8=>jk 12 rfl (λR fz=>?_)));subst fz;refine O 1 rfl (cw (O 3 rfl (io 11 rfl dc rfl rfl ay (lF 12 rfl (λeq=>bi h λe7 h=>?_)))));obtain⟨v9,et,eL⟩:=pf none (some (zI (g.length:Int))) eq ay gV (.inl ⟨rfl,rfl⟩) (.inr rfl) e7;refine jj rfl dc rfl rfl rfl eL (aU h λr5 eY h=>oQ [zP b1,v9] ag rfl dc rfl rfl rfl SL (J_ b1 (⟨o1,o2,o3,o4,o5⟩:co) d9 (⟨some ⟨b2,0,none⟩,0,0⟩:Hd) (⟨some ⟨b3,0,none⟩,0,0⟩:Hd) (⟨some ⟨b4,0,none⟩,0,0⟩:Hd) hd2 et eY) aC (.own (cO 1) (λ_ _ h=>aL.1 h) (.own (ct [1] kr rfl) (λ_ _ h=>aL.1 h) (.own (ct [2] kr rfl) (λ_ _ h=>aL.1 h) (.own (ct [3] kr rfl) (λ_ _ h=>aL.1 h) (.own (ct [4] kr rfl) (λ_ _ h=>aL.1 h) (.own (ct [5] kr rfl) (λ_ _ h=>aL.1 h) (.own (As:=[bq R.v ((([]:List V)++g)++[(⟨#[126]⟩:V),(⟨#[126]⟩:V),(⟨#[126]⟩:V)])]) (ct [12] kr rfl) (λ_ _ h=>pF gG (aL.1 h)) .nil))))))) (λf4=>jk 14 rfl (λa0 ft=>?_)));subst ft;refine O 1 rfl (cw (O 4 rfl (io 11 rfl dc rfl rfl ay (lF 12 rfl (λen=>bi h λe6 h=>?_)))));obtain⟨ec,es,eB⟩:=pf none (some (zI (g.length:Int))) en ay gV (.inl ⟨rfl,rfl⟩) (.inr rfl) e6;refine jj rfl dc rfl rfl rfl eB (aU h λr6 eX h=>kZ (.tuple #[zI r6.1,.bool r6.2]) [zP b1,.string r4,ec] ag rfl dc rfl rfl rfl SM (E_ b1 (⟨o1,o2,o3,o4,o5⟩:co) d9 (⟨some ⟨b2,0,none⟩,0,0⟩:Hd) (⟨some ⟨b3,0,none⟩,0,0⟩:Hd) (⟨some ⟨b4,0,none⟩,0,0⟩:Hd) hd2 es eX) (.own (cO 1) (λ_ _ h=>aL.1 h) (.own (ct [1] kr rfl) (λ_ _ h=>aL.1 h) (.own (ct [2] kr rfl) (λ_ _ h=>aL.1 h) (.own (ct [3] kr rfl) (λ_ _ h=>aL.1 h) (.own (ct [4] kr rfl) (λ_ _ h=>aL.1 h) (.own (ct [5] kr rfl) (λ_ _ h=>aL.1 h) (.own (As:=[bq R.v ((([]:List V)++g)++[(⟨#[126]⟩:V),(⟨#[126]⟩:V),(⟨#[126]⟩:V)])]) (ct [12] kr rfl) (λ_ _ h=>pF gG (aL.1 h)) .nil))))))) (O 1 rfl (fF rfl dc rfl rfl (fF rfl dc rfl rfl (O 2 rfl (Y (cut (I (O 1 rfl (io 11 rfl dc rfl rfl ay (O 1 rfl (bC (cu (ck (n9 Int (CX g j3 r4 r5 r6) (λa b=>a b=some r) (λb=>[]) (λb=>[(1,.string r4),(8,zP P),(9,l.v),(11,R.v),(12,a0.v),(13,zI r6.1),(14,.bool r6.2),(82,zI (g.length:Int)),(83,zI b)]) (λb=>[cells P [F.v,.map (some S),C.v,B.v] 86,bq F.v w,dV S t,bq C.v p,bq B.v m,bq l.v g,bq R.v ((([]:List V)++g)++[(⟨#[126]⟩:V),(⟨#[126]⟩:V),(⟨#[126]⟩:V)]),gn a0.v r5]) 0 h rfl (gl rfl) (ct [6,7,8,9,10,11,12,14] kr rfl) (λga x6 h=>I (E rfl dL (Y (bV (bu rfl h (λh=>?_) (λh=>?_)))))))))))))))))))))
  ·refine bw (cu (bV (ck (I (O 2 rfl (Y (bV (aU h λq2 c4 h=>aU h λq3 c3 h=>jU 8 [(0,86,R.v),(1,87,zI x6),(2,88,.pointer (some ⟨eS R.v,(x6:Int).toNat*1,none⟩)),(3,89,.string q2),(4,90,l.v),(5,91,zI x6),(6,92,.pointer (some ⟨eS l.v,(x6:Int).toNat*1,none⟩)),(7,93,.string q3)] mixed kr kr dc (by rfl) kr kr (gD 2 0 rfl (bQ (λD n d c u i=>eN 6 c4 ay gV rfl dc (aX 0 u d) (aX 1 u d) rfl rfl (bf 2 u i)) (bQ (λD n d c u i=>fl 6 ((x6:Int).toNat) 0 q2 eJ gG rfl dc (aX 2 u d) rfl (ei c4) rfl dc rfl (bf 3 u i)) (gD 2 4 rfl (bQ (λD n d c u i=>eN 5 c3 ay gV rfl dc (aX 4 u d) (aX 5 u d) rfl rfl (bf 6 u i)) (bQ (λD n d c u i=>fl 5 ((x6:Int).toNat) 0 q3 eJ gG rfl dc (aX 6 u d) rfl (ei c3) rfl dc rfl (bf 7 u i)) bB)))))) (E rfl tF (Y (bu rfl h (λh=>?_) (λh=>?_))))))))))))
   ·refine I (O 1 rfl (Y (bO (cK (bZ (bZ (cK (bZ ?_))))))));cases h;exact dt 6 kD
   exact bw (cg (cu (bX (bi h λd6 h=>E rfl (c8 (x6+1) (ac _ d6)) (O 1 rfl (bC (mD (x6+1) h 8)))))))
  exact dG (bS (bS (dH (mD (r4,r5,r6.1,r6.2,R,a0) h 8))))
 rintro⟨X,x,n2,A,f3,y⟩ h;refine bV (I (O 2 rfl (io 5 rfl dc rfl rfl ay (aU h λq4 c2 h=>eN 6 c2 ay gV rfl dc rfl rfl rfl rfl (fl 6 (((g.length:Int):Int).toNat) 0 q4 eJ gG rfl dc rfl rfl (ei c2) rfl dc rfl (E rfl tF (O 1 rfl (du 102 rfl h (λh=>?_) (λh=>?_)))))))))
 ·refine O 6 rfl (Y (jy rfl (I (O 1 rfl (Y (bO (bZ ?_)))))));cases h;exact dt 6 kD
 refine O 1 rfl (io 7 rfl dc rfl rfl bJ (O 1 rfl (io 5 rfl dc rfl rfl ay (E rfl nh (O 1 rfl (Y (bu rfl h (λh=>?_) (λh=>?_))))))))
 ·refine I (O 1 rfl (Y (bO (bZ ?_))));cases h;exact dt 6 kD
 refine bw (cu (cJ (Int×Bool) h 1 rfl (λj4 b=>j4 b.1 b.2=some r) (λb=>[]) (λb=>[(13,zI n2),(14,.bool A),(16,zI b.1),(17,.bool b.2)]) (λb=>[]) (λj4 h cut=>?_) ?_))
 ·refine I (O 2 rfl (Y (cut (I (O 1 rfl (io 5 rfl dc rfl rfl ay (O 1 rfl (Y (ck (n9 (Int×Bool×Int) (C3 w t p m g X x j4) (λa b=>a b.1 b.2.1 b.2.2=some r) (λb=>[]) (λb=>[(1,.string X),(8,zP P),(9,l.v),(12,y.v),(13,zI n2),(14,.bool A),(16,zI b.1),(17,.bool b.2.1),(109,l.v),(110,zI (g.length:Int)),(111,zI b.2.2)]) (λb=>[cells P [F.v,.map (some S),C.v,B.v] 86,bq F.v w,dV S t,bq C.v p,bq B.v m,bq l.v g,gn y.v x]) (0,false,0) h rfl (gl rfl) (ct [0,1,2,3,4,5,7] kr rfl) ?_))))))))));rintro f9 ⟨Q,ds,W⟩ h;refine I (E rfl dL (Y (bV (bu rfl h (λh=>?_) (λh=>?_)))))
  ·refine bw (cu (cJ (Int×Bool) h 0 rfl (λj5 b=>j5 b.1 b.2=some r) (λb=>[]) (λb=>[(1,.string X),(8,zP P),(9,l.v),(12,y.v),(13,zI n2),(14,.bool A),(16,zI b.1),(17,.bool b.2),(109,l.v),(110,zI (g.length:Int)),(111,zI W)]) (λb=>[cells P [F.v,.map (some S),C.v,B.v] 86,bq F.v w,dV S t,bq C.v p,bq B.v m,bq l.v g,gn y.v x]) (λj5 h cut=>?_) ?_))
   ·refine cut (ck (cJ (Int×V) h 1 rfl (λj6 b=>j6 b.1 b.2=some r) (λb=>[]) (λb=>[(1,.string X),(8,zP P),(9,l.v),(12,y.v),(13,zI n2),(14,.bool A),(16,zI b.1),(17,.bool ds),(18,zI W),(19,.string b.2),(109,l.v),(110,zI (g.length:Int)),(111,zI W)]) (λb=>[cells P [F.v,.map (some S),C.v,B.v] 86,bq F.v w,dV S t,bq C.v p,bq B.v m,bq l.v g,gn y.v x]) (λj6 h cut=>I (O 1 rfl (aU h λq5 c0 h=>eN 5 c0 ay gV rfl dc rfl rfl rfl rfl (fl 5 ((W:Int).toNat) 0 q5 eJ gG rfl dc rfl rfl (ei c0) rfl dc rfl (O 2 rfl (Y (cut (I (O 3 rfl (aU h λr7 dT h=>kZ (.tuple #[zI r7.1,zI r7.2]) [zP P,.string q5,.string X] ag rfl dc rfl rfl rfl G0 (JD P (⟨w,t,p,m⟩:dv) F (⟨some ⟨S,0,none⟩,0,0⟩:Hd) C B dT) (.own (cO 1) (λ_ _ h=>aL.1 h) (.own (ct [1] kr rfl) (λ_ _ h=>aL.1 h) (.own (ct [2] kr rfl) (λ_ _ h=>aL.1 h) (.own (ct [3] kr rfl) (λ_ _ h=>aL.1 h) (.own (ct [4] kr rfl) (λ_ _ h=>aL.1 h) .nil))))) (O 1 rfl (fF rfl dc rfl rfl (fF rfl dc rfl rfl (O 2 rfl (cw (O 1 rfl (E rfl dL (Y (bu rfl h (λh=>bX (O 1 rfl (bi h λd5 h=>E rfl (c8 (Q+1) (ac _ d5)) (O 1 rfl (bC (mD (Q+1,q5) h 7)))))) (λh=>bw (mD (Q,q5) h 7))))))))))))))))))))) ?_));rintro⟨N,t1⟩ h;refine cJ (Bool×Int) h 2 rfl (λj7 b=>j7 b.1 b.2=some r) (λb=>[]) (λb=>[(1,.string X),(8,zP P),(9,l.v),(12,y.v),(13,zI n2),(14,.bool A),(16,zI N),(17,.bool b.1),(18,zI W),(22,zI b.2),(109,l.v),(110,zI (g.length:Int)),(111,zI W)]) (λb=>[cells P [F.v,.map (some S),C.v,B.v] 86,bq F.v w,dV S t,bq C.v p,bq B.v m,bq l.v g,gn y.v x]) (λj7 h cut=>?_) ?_
    ·refine I (O 2 rfl (du 128 rfl h (λh=>?_) (λh=>?_)))
     ·refine O 5 rfl (cw (O 1 rfl (Y (cut (bV (bX (O 1 rfl (io 5 rfl dc rfl rfl ay (O 1 rfl (Y (ck (fP (Int×Int) (CY w t p m g W t1 j7) (λa b=>a b.1 b.2=some r) (λb=>[]) (λb=>[(1,.string X),(8,zP P),(9,l.v),(12,y.v),(13,zI n2),(14,.bool A),(16,zI N),(17,.bool true),(18,zI W),(19,.string t1),(22,zI b.1),(109,l.v),(110,zI (g.length:Int)),(111,zI W),(129,undef),(130,undef),(131,undef),(133,l.v),(134,zI (g.length:Int)),(135,zI b.2)]) (λb=>[cells P [F.v,.map (some S),C.v,B.v] 86,bq F.v w,dV S t,bq C.v p,bq B.v m,bq l.v g,gn y.v x]) (0,0) h 7 ?_))))))))))));rintro f8 ⟨M,a8⟩ h;exact I (E rfl dL (Y (bV (bu rfl h (λh=>bw (cu (cJ Int h 0 rfl (λj8 b=>j8 b=some r) (λb=>[]) (λb=>[(1,.string X),(8,zP P),(9,l.v),(12,y.v),(13,zI n2),(14,.bool A),(16,zI N),(17,.bool true),(18,zI W),(19,.string t1),(22,zI b),(109,l.v),(110,zI (g.length:Int)),(111,zI W),(129,undef),(130,undef),(131,undef),(133,l.v),(134,zI (g.length:Int)),(135,zI a8)]) (λb=>[cells P [F.v,.map (some S),C.v,B.v] 86,bq F.v w,dV S t,bq C.v p,bq B.v m,bq l.v g,gn y.v x]) (λj8 h cut=>cut (ck (I (O 1 rfl (aU h λq6 cv h=>eN 5 cv ay gV rfl dc rfl rfl rfl rfl (fl 5 ((a8:Int).toNat) 0 q6 eJ gG rfl dc rfl rfl (ei cv) rfl dc rfl (O 2 rfl (cw (O 3 rfl (aU h λr8 dB h=>kZ (.tuple #[zI r8.1,zI r8.2]) [zP P,.string q6,.string t1] ag rfl dc rfl rfl rfl G0 (JD P (⟨w,t,p,m⟩:dv) F (⟨some ⟨S,0,none⟩,0,0⟩:Hd) C B dB) (.own (cO 1) (λ_ _ h=>aL.1 h) (.own (ct [1] kr rfl) (λ_ _ h=>aL.1 h) (.own (ct [2] kr rfl) (λ_ _ h=>aL.1 h) (.own (ct [3] kr rfl) (λ_ _ h=>aL.1 h) (.own (ct [4] kr rfl) (λ_ _ h=>aL.1 h) .nil))))) (O 1 rfl (fF rfl dc rfl rfl (fF rfl dc rfl rfl (O 2 rfl (cw (O 1 rfl (E rfl dL (O 1 rfl (du 149 rfl h (λh=>O 8 rfl (Y (jy rfl (bX (O 1 rfl (bi h λd4 h=>E rfl (c8 (M+1) (ac _ d4)) (O 1 rfl (bC (cg (mD (M+1) h 7)))))))))) (λh=>O 1 rfl (E rfl eZ (O 1 rfl (du 152 rfl h (λh=>O 2 rfl (E rfl dL (O 2 rfl (Y (bu rfl h (λh=>bX (O 1 rfl (bi h λd3 h=>E rfl (c8 (M+1) (ac _ d3)) (O 1 rfl (bC (cg (mD (M+1) h 7))))))) (λh=>bw (cg (mD M h 7)))))))) (λh=>O 5 rfl (Y (eU rfl (bw (cg (mD M h 7))))))))))))))))))))))))))))) (λbb h=>bX (bi h λd2 h=>E rfl (c8 (a8+1) (ac _ d2)) (O 1 rfl (bC (mD (bb,a8+1) h 7)))))))) (λh=>dG (bS (bS (dH (mD (true,M) h 7)))))))))
     refine O 2 rfl (E rfl mf (O 2 rfl (cw (O 1 rfl (Y (cut (bV (bX (O 1 rfl (io 5 rfl dc rfl rfl ay (O 1 rfl (Y (ck (fP (Int×Int) (CZ w t p m g X W t1 j7) (λa b=>a b.1 b.2=some r) (λb=>[]) (λb=>[(1,.string X),(8,zP P),(9,l.v),(12,y.v),(13,zI n2),(14,.bool A),(16,zI N),(17,.bool (decide (t1=X))),(18,zI W),(19,.string t1),(22,zI b.1),(109,l.v),(110,zI (g.length:Int)),(111,zI W),(129,.string t1),(130,.string X),(131,.bool (decide (t1=X))),(133,l.v),(134,zI (g.length:Int)),(135,zI b.2)]) (λb=>[cells P [F.v,.map (some S),C.v,B.v] 86,bq F.v w,dV S t,bq C.v p,bq B.v m,bq l.v g,gn y.v x]) (0,0) h 7 ?_))))))))))))));rintro f7 ⟨J,a7⟩ h;exact I (E rfl dL (Y (bV (bu rfl h (λh=>bw (cu (cJ Int h 0 rfl (λj9 b=>j9 b=some r) (λb=>[]) (λb=>[(1,.string X),(8,zP P),(9,l.v),(12,y.v),(13,zI n2),(14,.bool A),(16,zI N),(17,.bool (decide (t1=X))),(18,zI W),(19,.string t1),(22,zI b),(109,l.v),(110,zI (g.length:Int)),(111,zI W),(129,.string t1),(130,.string X),(131,.bool (decide (t1=X))),(133,l.v),(134,zI (g.length:Int)),(135,zI a7)]) (λb=>[cells P [F.v,.map (some S),C.v,B.v] 86,bq F.v w,dV S t,bq C.v p,bq B.v m,bq l.v g,gn y.v x]) (λj9 h cut=>cut (ck (I (O 1 rfl (aU h λq7 ch h=>eN 5 ch ay gV rfl dc rfl rfl rfl rfl (fl 5 ((a7:Int).toNat) 0 q7 eJ gG rfl dc rfl rfl (ei ch) rfl dc rfl (O 2 rfl (cw (O 3 rfl (aU h λr9 dA h=>kZ (.tuple #[zI r9.1,zI r9.2]) [zP P,.string q7,.string t1] ag rfl dc rfl rfl rfl G0 (JD P (⟨w,t,p,m⟩:dv) F (⟨some ⟨S,0,none⟩,0,0⟩:Hd) C B dA) (.own (cO 1) (λ_ _ h=>aL.1 h) (.own (ct [1] kr rfl) (λ_ _ h=>aL.1 h) (.own (ct [2] kr rfl) (λ_ _ h=>aL.1 h) (.own (ct [3] kr rfl) (λ_ _ h=>aL.1 h) (.own (ct [4] kr rfl) (λ_ _ h=>aL.1 h) .nil))))) (O 1 rfl (fF rfl dc rfl rfl (fF rfl dc rfl rfl (O 2 rfl (cw (O 1 rfl (E rfl dL (O 1 rfl (du 149 rfl h (λh=>O 8 rfl (Y (jy rfl (bX (O 1 rfl (bi h λd1 h=>E rfl (c8 (J+1) (ac _ d1)) (O 1 rfl (bC (cg (mD (J+1) h 7)))))))))) (λh=>O 1 rfl (E rfl eZ (O 1 rfl (du 152 rfl h (λh=>O 2 rfl (E rfl dL (O 2 rfl (Y (bu rfl h (λh=>bX (O 1 rfl (bi h λd0 h=>E rfl (c8 (J+1) (ac _ d0)) (O 1 rfl (bC (cg (mD (J+1) h 7))))))) (λh=>bw (cg (mD J h 7)))))))) (λh=>O 5 rfl (Y (eU rfl (bw (cg (mD J h 7))))))))))))))))))))))))))))) (λa9 h=>bX (bi h λdY h=>E rfl (c8 (a7+1) (ac _ dY)) (O 1 rfl (bC (mD (a9,a7+1) h 7)))))))) (λh=>dG (bS (bS (dH (mD (decide (t1=X),J) h 7)))))))))
    rintro⟨ek,bh⟩ h;refine I (O 2 rfl (aU h λq8 cc h=>eN 6 cc bJ gL rfl dc rfl rfl rfl rfl (fl 6 ((bh:Int).toNat) 0 q8 ed iq rfl dc rfl rfl (ei cc) rfl dc rfl (O 1 rfl (E rfl nh (Y (bu rfl h (λh=>?_) (λh=>?_))))))))
    ·refine I (O 1 rfl (Y (bO (cK (bZ (bZ (cK (bZ ?_))))))));cases h;exact dt 6 kD
    exact bw (cg (mD (N,ek) h 7))
   rintro⟨bs,em⟩ h;exact bX (bi h λdX h=>E rfl (c8 (W+1) (ac _ dX)) (O 1 rfl (bC (mD (bs,em,W+1) h 7))))
  exact dG (bS (bS (dH (mD (Q,ds) h 0))))
 rintro⟨eb,f5⟩ h;refine I (O 2 rfl (E rfl eZ (O 1 rfl (du 171 rfl h (λh=>?_) (λh=>?_)))))
 ·refine O 2 rfl (E rfl (Rz underlying4) (O 2 rfl (du 176 rfl h (λh=>?_) (λh=>?_))))
  ·refine aU h λeg dz h=>dF (.bool eg) [] rfl dc rfl rfl rfl L3 (PQ dz) (O 2 rfl (Y (bO ?_)));cases h;exact dt 6 kD
  refine O 3 rfl (Y (bO ?_));cases h;exact dt 6 kD
 refine O 8 rfl (Y (bO ?_));cases h;exact dt 6 kD
theorem pR {α:Type} (l:List α) (A B:List α) (x:α) {k:Int} (e:l=A++x::B) (h:k=(A.length:Int)):cj l k=some x:=by
 subst e;exact wA h (by simp)
theorem uZ {α:Type} (l:List α) (A B:List α) (x y:α) {k:Int} (e:l=A++x::B) (h:k=(A.length:Int)):l.set k.toNat y=A++y::B:=by
 subst e;subst h;simp
theorem F3 (x:Int) (h0:0<=x) (h1:x<=1000000000):IntKind.i64.wrap (er .u64 (IntKind.u64.wrap x) 1)=x / 2:=by
 have e1:IntKind.u64.wrap x=x:=by rw[IntKind.wrap_u64];omega
 have e2:er .u64 x 1=x / 2:=by
  unfold er;rw[show (min (1:Int).toNat (IntKind.bits .u64))=1 from rfl,Int.fdiv_eq_ediv_of_nonneg _ (by exact Int.pow_nonneg z1)];rfl
 rw[e1,e2];exact ac _ ⟨by omega,by omega⟩
section
variable (o:co) (L:List V)
theorem L_ (P M Q:List Int) (a b n:Int) (ha:a=(P.length:Int)) (A:P.length<=1000000) (hm:M.length<=1000000) (w:n<=1000000) : ∀ (g d j h:List Int) (i:Int) (m:Nat),g.length=d.length->j.length=h.length->i=(j.length:Int)->n=i+(g.length:Int)->b=a+n+(M.length:Int)->g.length<m -> bP (λ_ _=>none) (CQ a b n) m (P++h++g++M++j++d++Q) i=some (P++h++d++M++j++g++Q):=by
 intro g
 induction g with
 |nil=>
  intro d j h i m h1 h2 h3 s h5 r;cases d with
  |cons y d=>simp at h1
  |nil=>
  cases m with
  |zero=>simp at r
  |succ m=>
  rw[jz];unfold CQ;simp only[aB] at s;exact fc rfl
 |cons x g v=>
  intro d j h i m h1 h2 h3 s h5 r;cases d with
  |nil=>simp at h1
  |cons y d=>
  cases m with
  |zero=>simp at r
  |succ m=>
  rw[jz];unfold CQ;simp only[ab] at h1 s r;have hb:b+i=(((P++h++x::g)++M++j).length:Int):=by
   simp only[aa,ab];omega
  have p:b+i=(((P++h++y::g)++M++j).length:Int):=by
   simp only[aa,ab];omega
  have q:a+i=((P++h).length:Int):=by simp only[aa];omega
  have g1:=pR (P++h++(x::g)++M++j++(y::d)++Q) (P++h++x::g++M++j) (d++Q) y (k:=b+i) (by simp) hb;have g2:=pR (P++h++(x::g)++M++j++(y::d)++Q) (P++h) (g++M++j++(y::d)++Q) x (k:=a+i) (by simp) q;have u:=uZ (P++h++(x::g)++M++j++(y::d)++Q) (P++h) (g++M++j++(y::d)++Q) x y (k:=a+i) (by simp) q;have z:=pR (P++h++y::(g++M++j++(y::d)++Q)) (P++h++y::g++M++j) (d++Q) y (k:=b+i) (by simp) p;have t:=uZ (P++h++y::(g++M++j++(y::d)++Q)) (P++h++y::g++M++j) (d++Q) y x (k:=b+i) (by simp) p;refine eQ (gO (gO (gO (aV g1 (gO (aV g2 ?_))))));rw[u,t];refine aV z (gO ?_);have:=v d (j++[x]) (h++[y]) (i+1) m z1 (by simp;omega) (by simp;omega) z1 h5 z1;simp only[av,aW,bj] at this |-
  exact this
theorem JP {l:List Int} (P X M d Q:List Int) {a b n:Int} (e:l=P++X++M++d++Q) (h:l.length<=1000000) (ha:a=(P.length:Int)) (i:n=(X.length:Int)) (g:X.length=d.length) (hb:b=a+n+(M.length:Int)) : xy l a b n o L=some (P++d++M++X++Q):=by
 subst e;simp only[aa] at h;unfold xy;have:=L_ P M Q a b n ha z1 z1 z1 X d [] [] 0 bN g rfl rfl z1 hb (jC z1);simp only[av,bj] at this |-
 exact this
theorem M_ (m:Int) (J:List Int->Int->Option (List Int)) (d:List Int) (x:∀ (l P b a Q:List Int) (i:Int),l=P++b++a++Q->l.length=d.length->b.length=a.length->m=(P.length:Int)+i->i=(b.length:Int)->P++a++b++Q=d->J l i=some d) : ∀ (k:Nat) (P b a Q:List Int) (i j:Int) (f:Nat),b.length+a.length<=k->k<f->0<b.length->0<a.length->P.length+b.length+a.length+Q.length<=1000000->i=(b.length:Int)->j=(a.length:Int)->m=(P.length:Int)+i->P++a++b++Q=d -> bP (λ_ _ _=>none) (F0 m o L J) f (P++b++a++Q) i j=some d:=by
 intro k
 induction k with
 |zero=>intro P b a Q i j f h1 _ h3;omega
 |succ k t=>
  intro P b a Q i j f h1 h2 h3 y h5 hi hj hm p;cases f with
  |zero=>omega
  |succ f=>
  rw[jz];unfold F0;by_cases h:i=j
  ·refine bR (by simp[h]) (x _ P b a Q i rfl ?_ z1 hm hi p);rw[<-p];simp only[aa];omega
  refine ca (cQ.2 h) ?_;by_cases g:j<i
  ·refine ca (an g) (gO ?_);have n:b=b.take a.length++b.drop a.length:=(bo _ _).symm;generalize r:b.take a.length=U1 at n;generalize w:b.drop a.length=U2 at n;have s:U1.length=a.length:=by rw[<-r,aZ];omega
   have u:b.length=U1.length+U2.length:=by rw[n,aa]
   refine aV (JP o L P U1 U2 a Q (by rw[n];simp) (by simp only[aa];omega) z1 z1 s z1) (gO ?_);have:=t (P++a) U2 U1 Q (i-j) j f z1 z1 z1 z1 (by simp only[aa];omega) z1 z1 (by simp only[aa];omega) (by rw[<-p,n];simp);exact this
  ·refine bR (ah g) (gO (gO (gO ?_)));have hV:a=a.take (a.length-b.length)++a.drop (a.length-b.length):=(bo _ _).symm;generalize q:a.take (a.length-b.length)=V1 at hV;generalize v:a.drop (a.length-b.length)=V2 at hV;have s:V1.length=a.length-b.length:=by rw[<-q,aZ];omega
   have u:a.length=V1.length+V2.length:=by rw[hV,aa]
   refine aV (JP o L P b V1 V2 Q (by rw[hV];simp) (by simp only[aa];omega) z1 z1 z1 z1) (gO ?_);have:=t P V2 V1 (b++Q) i (j-i) f z1 z1 z1 z1 (by simp only[aa];omega) z1 z1 z1 (by rw[<-p,hV];simp);simp only[av] at this |-
   exact this
theorem N_ {l:List Int} (P j h Q:List Int) {a m b:Int} (e:l=P++j++h++Q) (s:l.length<=1000000) (ha:a=(P.length:Int)) (hm:m=a+(j.length:Int)) (hb:b=m+(h.length:Int)) (t:0<j.length) (hV:0<h.length) : CR l a m b o L=some (P++h++j++Q):=by
 subst e;simp only[aa] at s;unfold CR;refine cL (gO (gO ?_));refine M_ o L m _ (P++h++j++Q) ?_ (j.length+h.length) P j h Q _ _ bN (aS _) (jC z1) t hV z1 z1 z1 z1 rfl;intro l' x v u w i q k p r n h0;have g:l'.length<=1000000:=by rw[k];simp only[aa];omega
 have d:=g;rw[q] at d;simp only[aa] at d;refine gO (aV (JP o L x v [] u w (by rw[q];simp) g z1 n p (by simp)) ?_);rw[<-h0];simp
end
structure xB (o:co) (L:List V) (dom:Int->Prop) (c:Int->Int->Int):Prop where
 val:∀i k,dom i->dom k->xx i k o L=some (c i k)
 neg:∀i k,dom i->dom k->(c i k<0↔0<c k i)
 tra:∀i j k,dom i->dom j->dom k->c i j<=0->c j k<=0->c i k<=0/\(c i k=0->c i j=0/\c j k=0)
def TT (c:Int->Int->Int) (i k:Int):Prop:=c i k<0\/(c i k=0/\i<k)
section
variable {o:co} {L:List V} {dom:Int->Prop} {c:Int->Int->Int} (H:xB o L dom c)
include H
theorem JQ {i j k:Int} (hi:dom i) (hj:dom j) (hk:dom k) (h1:TT c i j) (h2:TT c j k):TT c i k:=by
 unfold TT at *;have h:=H.tra i j k hi hj hk z1 z1;by_cases h0:c i k=0
 ·have:=h.2 h0;omega
 ·omega
theorem O_ {i k:Int} (hi:dom i) (hk:dom k) (h:¬c k i<0) (a:i<k):TT c i k:=by
 have h1:=H.neg k i hk hi;have h2:=H.neg i k hi hk;unfold TT;omega
theorem P_ (P:List Int) (a:Int) (x:Int) (hx:dom x) (ha:a=(P.length:Int)) (J:List Int->Option (List Int)) : ∀ (n:Nat) (S R:List Int) (j:Int) (f:Nat),S.length=n->n<f->P.length+S.length<=1000000->j=a+(S.length:Int)->(∀y∈S,dom y) -> ∃S1 S2,S=S1++S2/\(∀y∈S2,c x y<0)/\(∀y g,S1=g++[y]->¬c x y<0) /\ bP (λ_ _=>none) (xz a o L J) f (P++S++x::R) j=J (P++S1++x::(S2++R)):=by
 intro n
 induction n with
 |zero=>
  intro S R j f h1 h2 h3 d h5;cases S with
  |cons y S=>simp at h1
  |nil=>
  cases f with
  |zero=>omega
  |succ f=>
  refine⟨[],[],rfl,by simp,by simp,?_⟩;rw[jz];unfold xz;simp only[aB] at d;exact fc (by simp)
 |succ n p=>
  intro S R j f h1 h2 h3 d h5;obtain⟨b,y,rfl⟩:∃b y,S=b++[y]:=by
   rcases jc S with h|⟨b,y,h⟩
   ·rw[h] at h1;simp at h1
   ·exact⟨b,y,by simpa using h⟩
  cases f with
  |zero=>omega
  |succ f=>
  simp only[aa,ab,aB] at h1 h3 d;have hy:dom y:=h5 y (by simp);have g1:=pR (P++(b++[y])++x::R) (P++(b++[y])) R x (k:=j) rfl (by simp only[aa,ab,aB];omega);have g2:=pR (P++(b++[y])++x::R) (P++b) (x::R) y (k:=j-1) (by simp) (by simp only[aa];omega);have m:=uZ (P++(b++[y])++x::R) (P++(b++[y])) R x y (k:=j) rfl (by simp only[aa,ab,aB];omega);have q:=pR (P++(b++[y])++y::R) (P++b) (y::R) y (k:=j-1) (by simp) (by simp only[aa];omega);have i:=uZ (P++(b++[y])++y::R) (P++b) (y::R) y x (k:=j-1) (by simp) (by simp only[aa];omega);by_cases hc:c x y<0
  ·obtain⟨S1,S2,e1,e2,s,r⟩:=p b (y::R) (j-1) f z1 z1 z1 z1 (λz hz=>h5 z (by simp[hz]));refine⟨S1,S2++[y],by rw[e1];simp,?_,s,?_⟩
   ·intro z hz;rcases bv.1 hz with h|h
    ·exact e2 z h
    ·rw[bd.1 h];exact hc
   rw[jz];unfold xz;refine eQ (aV g1 (gO (aV g2 (aV (H.val x y hx hy) (ca (an hc) (gO (gO (aV g2 (aV g1 ?_)))))))));rw[m,i];refine aV q (gO (r.trans ?_));simp
  ·refine⟨b++[y],[],by simp,(λz h=>by cases h),?_,?_⟩
   ·intro z g h;have:=lg h rfl;injection this with h1 _;rw[<-h1];exact hc
   rw[jz];unfold xz;exact eQ (aV g1 (gO (aV g2 (aV (H.val x y hx hy) (bR (ah hc) (by simp))))))
theorem Q_ {S1 S2:List Int} {x:Int} (g:(S1++S2).Pairwise (TT c)) (hd:∀y∈S1++S2,dom y) (hx:dom x) (d:∀y∈S1++S2,y<x) (h2:∀y∈S2,c x y<0) (h1:∀y a,S1=a++[y]->¬c x y<0) : (S1++x::S2).Pairwise (TT c):=by
 rw[cB] at g |-
 obtain⟨p1,p2,i⟩:=g;have b:∀y∈S1,TT c y x:=by
  intro y hy;rcases jc S1 with h|⟨a,z,h⟩
  ·rw[h] at hy;cases hy
  ·have h:S1=a++[z]:=by simpa using h
   have hz:TT c z x:=O_ H (hd z (by simp[h])) hx (h1 z a h) (d z (by simp[h]));rw[h] at hy p1;rcases bv.1 hy with hy|hy
   ·exact JQ H (hd y (by simp[h,hy])) (hd z (by simp[h])) hx ((cB.1 p1).2.2 y hy z (by simp)) hz
   ·rw[bd.1 hy];exact hz
 refine⟨p1,gh.2 ⟨λy hy=>.inl (h2 y hy),p2⟩,?_⟩;intro y hy z hz;rcases bg.1 hz with rfl|hz
 ·exact b y hy
 ·exact i y hy z hz
theorem R_ (P Q:List Int) (a b:Int) (ha:a=(P.length:Int)) : ∀ (R S:List Int) (i:Int) (f:Nat),R.length<f->P.length+S.length+R.length<=1000000->i=a+(S.length:Int)->b=i+(R.length:Int)->(∀y∈S++R,dom y)->S.Pairwise (TT c)->(∀y∈S,∀z∈R,y<z)->R.Pairwise (· < ·) -> ∃Z,Z.Perm (S++R)/\Z.Pairwise (TT c)/\bP (λ_ _=>none) (xA a b o L) f (P++S++R++Q) i=some (P++Z++Q):=by
 intro R
 induction R with
 |nil=>
  intro S i f h1 h2 h3 l h5 k j n;cases f with
  |zero=>simp at h1
  |succ f=>
  refine⟨S,by simp,k,?_⟩;rw[jz];unfold xA;simp only[aB] at l;exact fc (by simp)
 |cons x R t=>
  intro S i f h1 h2 h3 l h5 k j n;cases f with
  |zero=>simp at h1
  |succ f=>
  simp only[ab] at h1 h2 l;rw[jz];unfold xA;have hx:dom x:=h5 x (by simp);obtain⟨S1,S2,e1,e2,A,w⟩:=P_ H P a x hx ha (λ(s:List Int)=>grd (I64 (i+1))<|(bP (λ_ _=>none) (xA a b o L) f) s (i+1)) S.length S (R++Q) i bN rfl (jC z1) z1 h3 (λy hy=>h5 y (by simp[hy]));have g:=Q_ H (S1:=S1) (S2:=S2) (by rw[<-e1];exact k) (λy hy=>h5 y (by rw[<-e1] at hy;simp[hy])) hx (λy hy=>j y (by rw[e1];exact hy) x (by simp)) e2 A;have m:=gh.1 n;have d:(S1++x::S2).length=S.length+1:=by rw[e1];simp;omega
  obtain⟨Z,r,q,p⟩:=t (S1++x::S2) (i+1) f z1 (by rw[d];omega) (by rw[d];omega) z1 (by
   intro y hy;refine h5 y ?_;rw[e1];simp only[bv,bg] at hy |-
   rcases hy with (h|h|h)|h<;>simp[h]) g (by
   intro y hy z hz;simp only[bv,bg] at hy;have:y∈S\/y=x:=by rw[e1];simp only[bv];rcases hy with h | h | h<;>simp[h]
   rcases this with h|h
   ·exact j y h z (by simp[hz])
   ·rw[h];exact m.1 z hz) m.2
  refine⟨Z,r.trans ?_,q,?_⟩
  ·rw[e1];have:(S1++x::S2).Perm (S1++S2++[x]):=by
    rw[av];exact pV _ (pW x S2).symm
   have:=this.append_right R;simpa using this
  refine eQ (cL ?_);have v:P++S++x::R++Q=P++S++x::(R++Q):=by simp
  rw[v];refine w.trans (gO ?_);have u:P++S1++x::(S2++(R++Q))=P++(S1++x::S2)++R++Q:=by simp
  rw[u];exact p
theorem F4 {l:List Int} (P B Q:List Int) {a b:Int} (e:l=P++B++Q) (d:l.length<=1000000) (ha:a=(P.length:Int)) (hb:b=a+(B.length:Int)) (hd:∀y∈B,dom y) (hB:B.Pairwise (· < ·)) : ∃Z,Z.Perm B/\Z.Pairwise (TT c)/\CS l a b o L=some (P++Z++Q):=by
 subst e;simp only[aa] at d;unfold CS;cases B with
 |nil=>
  refine⟨[],.refl _,.nil,gO ?_⟩;simp only[aB] at hb;rw[show bN=(bN-1)+1 from by unfold bN;omega,jz];unfold xA;exact fc rfl
 |cons x B=>
  simp only[ab] at hb d;have g:=gh.1 hB;obtain⟨Z,j,i,h⟩:=R_ H P Q a b ha B [x] (a+1) bN (jC z1) (by simp;omega) (by simp) z1 hd (fN _ _) (by
   intro y hy z hz;rw[bd.1 hy];exact g.1 z hz) g.2
  refine⟨Z,j,i,gO ?_⟩;have k:P++x::B++Q=P++[x]++B++Q:=by simp
  rw[k];exact h
end
theorem JR (i j:Nat):((i:Int)+(j:Int)) / 2=(((i+j) / 2:Nat):Int):=by omega
theorem QF {R:Type} (F:(Int->Int->Option R)->Int->Int->Option R) (J:Int->Option R) (p:Nat->Bool) (lo hi:Nat)
  (h1:∀ag (i j:Nat),lo<=i->i<j->j<=hi->F ag i j=if p ((i+j) / 2) then ag (((i+j) / 2+1:Nat):Int) j else ag i (((i+j) / 2:Nat):Int)) (h2:∀ag (i:Nat),F ag i i=J i) :
  ∀ (d i j f:Nat),j-i<=d->d<f->lo<=i->i<=j->j<=hi->(i=lo\/p (i-1)=true)->(j=hi\/p j=false) ->
   ∃k:Nat,i<=k/\k<=j/\(k=lo\/p (k-1)=true)/\(k=hi\/p k=false)/\bP (λ_ _=>none) F f i j=J k:=by
 intro d
 induction d with
 |zero=>
  intro i j f e1 e2 m q l b a;have:i=j:=by omega
  subst this;cases f with
  |zero=>omega
  |succ f=>exact⟨i,by omega,by omega,b,a,by rw[jz];exact h2 _ i⟩
 |succ d n=>
  intro i j f e1 e2 m q l b a;cases f with
  |zero=>omega
  |succ f=>
  by_cases h:i=j
  ·subst h;exact⟨i,by omega,by omega,b,a,by rw[jz];exact h2 _ i⟩
  rw[jz,h1 _ i j m z1 l];by_cases hp:p ((i+j) / 2)=true
  ·obtain⟨k,k1,k2,k3,k4,g⟩:=n ((i+j) / 2+1) j f z1 z1 z1 z1 l (.inr (by simpa using hp)) a;exact⟨k,by omega,k2,k3,k4,by rw[aj hp];exact g⟩
  ·obtain⟨k,k1,k2,k3,k4,g⟩:=n i ((i+j) / 2) f z1 z1 m z1 z1 b (.inr (by simpa using hp));exact⟨k,k1,by omega,k3,k4,by rw[ai hp];exact g⟩
theorem S_ (d:Int) (J:List Int->Option (List Int)) (x:Int) (R:List Int):∀ (a P:List Int) (k:Int) (f:Nat),a.length<f->P.length+a.length<=1000000->k=(P.length:Int)->d-1=k+(a.length:Int) -> bP (λ_ _=>none) (wk d J) f (P++x::(a++R)) k=J (P++a++x::R):=by
 intro a
 induction a with
 |nil=>
  intro P k f h1 h2 h3 b;cases f with
  |zero=>simp at h1
  |succ f=>
  rw[jz];unfold wk;simp only[aB] at b h2;exact gO (fc (by simp))
 |cons y a i=>
  intro P k f h1 h2 h3 b;cases f with
  |zero=>simp at h1
  |succ f=>
  rw[jz];unfold wk;simp only[ab] at h1 h2 b;have g1:=pR (P++x::(y::a++R)) (P++[x]) (a++R) y (k:=k+1) (by simp) (by simp;omega);have g2:=pR (P++x::(y::a++R)) P (y::a++R) x (k:=k) rfl h3;have h:=uZ (P++x::(y::a++R)) P (y::a++R) x y (k:=k) rfl h3;have j:=pR (P++y::(y::a++R)) (P++[y]) (a++R) y (k:=k+1) (by simp) (by simp;omega);have g:=uZ (P++y::(y::a++R)) (P++[y]) (a++R) y x (k:=k+1) (by simp) (by simp;omega);refine gO (eQ (gO (gO (aV g1 (aV g2 ?_)))));rw[h,g];refine aV j (gO ((i (P++[y]) (k+1) f z1 (by simp;omega) (by simp;omega) z1).trans ?_));simp
theorem T_ (P:List Int) (b:Int) (h0:b=(P.length:Int)) (J:List Int->Option (List Int)) (y:Int):∀ (n:Nat) (X R:List Int) (k:Int) (f:Nat),X.length=n->n<f->P.length+X.length<=1000000->k=b+(X.length:Int) -> bP (λ_ _=>none) (wl b J) f (P++X++y::R) k=J (P++y::(X++R)):=by
 intro n
 induction n with
 |zero=>
  intro X R k f h1 h2 h3 d;cases X with
  |cons x X=>simp at h1
  |nil=>
  cases f with
  |zero=>omega
  |succ f=>
  rw[jz];unfold wl;simp only[aB] at d;exact fc (by simp)
 |succ n j=>
  intro X R k f h1 h2 h3 d;obtain⟨a,x,rfl⟩:∃a x,X=a++[x]:=by
   rcases jc X with h|⟨a,x,h⟩
   ·rw[h] at h1;simp at h1
   ·exact⟨a,x,by simpa using h⟩
  cases f with
  |zero=>omega
  |succ f=>
  rw[jz];unfold wl;simp only[aa,ab,aB] at h1 h3 d;have g1:=pR (P++(a++[x])++y::R) (P++(a++[x])) R y (k:=k) rfl (by simp only[aa,ab,aB];omega);have g2:=pR (P++(a++[x])++y::R) (P++a) (y::R) x (k:=k-1) (by simp) (by simp only[aa];omega);have i:=uZ (P++(a++[x])++y::R) (P++(a++[x])) R y x (k:=k) rfl (by simp only[aa,ab,aB];omega);have m:=pR (P++(a++[x])++x::R) (P++a) (x::R) x (k:=k-1) (by simp) (by simp only[aa];omega);have g:=uZ (P++(a++[x])++x::R) (P++a) (x::R) x y (k:=k-1) (by simp) (by simp only[aa];omega);refine eQ (gO (gO (aV g2 (aV g1 ?_))));rw[i,g];refine aV m (gO ((j a (x::R) (k-1) f z1 z1 z1 z1).trans ?_));simp
section
variable {o:co} {L:List V} {dom:Int->Prop} {c:Int->Int->Int} (H:xB o L dom c)
include H
theorem JS {i k:Int} (hi:dom i) (hk:dom k) (h:¬c k i<0) (a:c i k=0->i<k):TT c i k:=by
 have h1:=H.neg k i hk hi;have h2:=H.neg i k hi hk;unfold TT;omega
theorem zS {A B:List Int} (hA:A.Pairwise (TT c)) (hB:B.Pairwise (TT c)) (j:∀y∈A,dom y) (m:∀y∈B,dom y) (h:∀x a y k,A=a++[x]->B=y::k->TT c x y):∀x∈A,∀y∈B,TT c x y:=by
 intro x hx y hy;obtain⟨a,z,i⟩:∃a z,A=a++[z]:=by
  rcases jc A with e|⟨a,z,e⟩
  ·rw[e] at hx;cases hx
  ·exact⟨a,z,by simpa using e⟩
 cases B with
 |nil=>cases hy
 |cons w k=>
 have b:=h z a w k i rfl;have n:dom z:=j z (by simp[i]);have l:dom w:=m w (by simp);have d:TT c x w:=by
  have g:=hx;rw[i] at hA g;rcases bv.1 g with h|h
  ·exact JQ H (j x hx) n l ((cB.1 hA).2.2 x h z (by simp)) b
  ·rw[bd.1 h];exact b
 rcases bg.1 hy with h|h
 ·rw[h];exact d
 ·exact JQ H (j x hx) l (m y hy) d ((gh.1 hB).1 y h)
end
section
variable {o:co} {L:List V} {dom:Int->Prop} {c:Int->Int->Int} (H:xB o L dom c)
include H
theorem U_ (P g Q:List Int) (x:Int) (a m b:Int) (ht:P.length+1+g.length+Q.length<=1000000) (ha:a=(P.length:Int)) (hm:m=a+1) (hb:b=m+(g.length:Int)) (hx:dom x) (A:∀y∈g,dom y) (R:g.Pairwise (TT c)) (B:∀y∈g,c x y=0->x<y) : ∃Z,Z.Perm (x::g)/\Z.Pairwise (TT c)/\cm (λ(X:Int->Option (List Int))=>bP (λ_ _=>none) (zL (P++x::g++Q) a o L X) bN m b) (λ(s:Int)=> cm (λ(r:(List Int)->Option (List Int))=>bP (λ_ _=>none) (wk s r) bN (P++x::g++Q) a) (λ(p:List Int)=>some p))=some (P++Z++Q):=by
 have D:=pR (P++x::g++Q) P (g++Q) x (k:=a) (by simp) ha;have C:∀u:Nat,P.length+1<=u->u<P.length+1+g.length->cj (P++x::g++Q) (u:Int)=some (g.getD (u-(P.length+1)) 0):=by
  intro u h1 h2;refine iu ?_;rw[av,eK z1,aW,show u-P.length=(u-(P.length+1))+1 from by omega,List.getElem?_cons_succ,ea z1];exact nF _ z1
 have F:∀u:Nat,P.length+1<=u->u<P.length+1+g.length->dom (g.getD (u-(P.length+1)) 0):=by
  intro u h1 h2;exact A _ (aF (nF 0 z1))
 obtain⟨k,k1,k2,k3,k4,W⟩:=QF (zL (P++x::g++Q) a o L (λ(s:Int)=>
   cm (λ(r:(List Int)->Option (List Int))=>bP (λ_ _=>none) (wk s r) bN (P++x::g++Q) a) (λ(p:List Int)=>some p))) (λ(s:Int)=>
   cm (λ(r:(List Int)->Option (List Int))=>bP (λ_ _=>none) (wk s r) bN (P++x::g++Q) a) (λ(p:List Int)=>some p)) (λu=>decide (c (g.getD (u-(P.length+1)) 0) x<0)) (P.length+1) (P.length+1+g.length)
  (λag i j e1 e2 e3=>by
   unfold zL;rw[F3 ((i:Int)+(j:Int)) z1 z1,JR];have hv:=H.val _ x (F ((i+j) / 2) z1 z1) hx;refine eQ (gO (aV (C ((i+j) / 2) z1 z1) (aV D (aV hv ?_))));by_cases hc:c (g.getD ((i+j) / 2-(P.length+1)) 0) x<0
   ·rw[aj (an hc)];exact ca (an hc) (gO rfl)
   ·rw[ai (by simpa using hc)];exact bR (ah hc) rfl)
  (λag i=>by
   unfold zL;exact fc rfl)
  g.length (P.length+1) (P.length+1+g.length) bN z1 (jC z1) (aS _) z1 (aS _) (.inl rfl) (.inl rfl)
 have n:g=g.take (k-(P.length+1))++g.drop (k-(P.length+1)):=(bo _ _).symm;generalize J:g.take (k-(P.length+1))=Y1 at n;generalize ao:g.drop (k-(P.length+1))=Y2 at n;have p:Y1.length=k-(P.length+1):=by rw[<-J,aZ];omega
 have q:=R;rw[n] at q;obtain⟨p1,p2,S⟩:=cB.1 q;have c1:∀y∈Y1,∀z∈[x],TT c y z:=by
  refine zS H p1 (fN _ _) (λy hy=>A y (by rw[n];simp[hy])) (λy hy=>by rw[bd.1 hy];exact hx) ?_;intro u M v N w t;injection t with e1 _;subst e1;rcases k3 with k3|k3
  ·rw[k3,kB,w] at p;simp at p
  ·left;have:=of_decide_eq_true k3;rw[n,w] at this;rw[w] at p;simp only[aa,ab,aB] at p;have K:(M++[u]++Y2).getD (k-1-(P.length+1)) 0=u:=by
    rw[show k-1-(P.length+1)=M.length from by omega];simp[qV]
   rw[K] at this;exact this
 have c2:∀z∈[x],∀y∈Y2,TT c z y:=by
  refine zS H (fN _ _) p2 (λy hy=>by rw[bd.1 hy];exact hx) (λy hy=>A y (by rw[n];simp[hy])) ?_;intro u M v N w t;have:u=x:=by
   have:=lg (s₁:=[]) (t₁:=[x]) w rfl;injection this with h _;exact h.symm
  subst this;rcases k4 with k4|k4
  ·have:Y2.length=0:=by
    have:=aI fS n;rw[aa] at this;omega
   rw[t] at this;simp at this
  ·have:=of_decide_eq_false k4;rw[n,t,show k-(P.length+1)=Y1.length from by omega] at this;have K:(Y1++v::N).getD Y1.length 0=v:=by simp[qV]
   rw[K] at this;have hv:v∈g:=by rw[n,t];simp
   exact JS H hx (A v hv) this (B v hv)
 refine⟨Y1++x::Y2,?_,?_,?_⟩
 ·rw[n];exact List.perm_middle
 ·rw[cB];refine⟨p1,gh.2 ⟨λy hy=>c2 x (by simp) y hy,p2⟩,?_⟩;intro y hy z hz;rcases bg.1 hz with h|h
  ·rw[h];exact c1 y hy x (by simp)
  ·exact S y hy z h
 refine cL ?_;rw[hm,ha,hb] at *;have em:(P.length:Int)+1=((P.length+1:Nat):Int):=by omega
 have eb:(P.length:Int)+1+(g.length:Int)=((P.length+1+g.length:Nat):Int):=by omega
 rw[eb,em];refine W.trans (cL ?_);have e7:P++x::g++Q=P++x::(Y1++(Y2++Q)):=by rw[n];simp
 rw[e7];refine (S_ (k:Int) _ x (Y2++Q) Y1 P _ bN (jC z1) z1 rfl z1).trans ?_;simp
theorem V_ (P X Q:List Int) (y:Int) (a m:Int) (ht:P.length+X.length+1+Q.length<=1000000) (ha:a=(P.length:Int)) (hm:m=a+(X.length:Int)) (hy:dom y) (w:∀x∈X,dom x) (R:X.Pairwise (TT c)) (A:∀x∈X,c x y=0->x<y) : ∃Z,Z.Perm (X++[y])/\Z.Pairwise (TT c)/\cm (λ(j8:Int->Option (List Int))=>bP (λ_ _=>none) (zM (P++X++y::Q) m o L j8) bN a m) (λ(s:Int)=> cm (λ(g:(List Int)->Option (List Int))=>bP (λ_ _=>none) (wl s g) bN (P++X++y::Q) m) (λ(q:List Int)=>some q))=some (P++Z++Q):=by
 have B:=pR (P++X++y::Q) (P++X) Q y (k:=m) rfl (by simp only[aa];omega);have C:∀u:Nat,P.length<=u->u<P.length+X.length->cj (P++X++y::Q) (u:Int)=some (X.getD (u-P.length) 0):=by
  intro u h1 h2;refine iu ?_;rw[av,eK z1,ea z1];exact nF _ z1
 have D:∀u:Nat,P.length<=u->u<P.length+X.length->dom (X.getD (u-P.length) 0):=by
  intro u h1 h2;exact w _ (aF (nF 0 z1))
 obtain⟨k,k1,k2,k3,k4,W⟩:=QF (zM (P++X++y::Q) m o L (λ(s:Int)=>
   cm (λ(g:(List Int)->Option (List Int))=>bP (λ_ _=>none) (wl s g) bN (P++X++y::Q) m) (λ(q:List Int)=>some q))) (λ(s:Int)=>
   cm (λ(g:(List Int)->Option (List Int))=>bP (λ_ _=>none) (wl s g) bN (P++X++y::Q) m) (λ(q:List Int)=>some q)) (λu=>!decide (c y (X.getD (u-P.length) 0)<0)) P.length (P.length+X.length)
  (λag i j e1 e2 e3=>by
   unfold zM;rw[F3 ((i:Int)+(j:Int)) z1 z1,JR];have hv:=H.val y _ hy (D ((i+j) / 2) z1 z1);refine eQ (gO (aV B (aV (C ((i+j) / 2) z1 z1) (aV hv ?_))));by_cases hc:c y (X.getD ((i+j) / 2-P.length) 0)<0
   ·rw[ai (by simpa using hc)];exact bR (by simpa using hc) rfl
   ·rw[aj (by simpa using hc)];exact ca (by simpa using hc) (gO rfl))
  (λag i=>by
   unfold zM;exact fc rfl)
  X.length P.length (P.length+X.length) bN z1 (jC z1) (aS _) z1 (aS _) (.inl rfl) (.inl rfl)
 have b:X=X.take (k-P.length)++X.drop (k-P.length):=(bo _ _).symm;generalize F:X.take (k-P.length)=X1 at b;generalize ao:X.drop (k-P.length)=X2 at b;have r:X1.length=k-P.length:=by rw[<-F,aZ];omega
 have p:=R;rw[b] at p;obtain⟨p1,p2,S⟩:=cB.1 p;have c1:∀x∈X1,∀z∈[y],TT c x z:=by
  refine zS H p1 (fN _ _) (λx hx=>w x (by rw[b];simp[hx])) (λz hz=>by rw[bd.1 hz];exact hy) ?_;intro u K v N n t;injection t with e1 _;subst e1;rcases k3 with k3|k3
  ·rw[k3,kB,n] at r;simp at r
  ·have:¬c y (X.getD (k-1-P.length) 0)<0:=by simpa using k3
   rw[b,n] at this;rw[n] at r;simp only[aa,ab,aB] at r;have J:(K++[u]++X2).getD (k-1-P.length) 0=u:=by
    rw[show k-1-P.length=K.length from by omega];simp[qV]
   rw[J] at this;have hu:u∈X:=by rw[b,n];simp
   exact JS H (w u hu) hy this (A u hu)
 have c2:∀z∈[y],∀x∈X2,TT c z x:=by
  refine zS H (fN _ _) p2 (λz hz=>by rw[bd.1 hz];exact hy) (λx hx=>w x (by rw[b];simp[hx])) ?_;intro u K v N n t;have:u=y:=by
   have:=lg (s₁:=[]) (t₁:=[y]) n rfl;injection this with h _;exact h.symm
  subst this;rcases k4 with k4|k4
  ·have:X2.length=0:=by
    have:=aI fS b;rw[aa] at this;omega
   rw[t] at this;simp at this
  ·left;have:c u (X.getD (k-P.length) 0)<0:=by simpa using k4
   rw[b,t,<-r] at this;have J:(X1++v::N).getD X1.length 0=v:=by simp[qV]
   rw[J] at this;exact this
 refine⟨X1++y::X2,?_,?_,?_⟩
 ·rw[b,av];exact pV _ (pW y X2).symm
 ·rw[cB];refine⟨p1,gh.2 ⟨λx hx=>c2 y (by simp) x hx,p2⟩,?_⟩;intro x hx z hz;rcases bg.1 hz with h|h
  ·rw[h];exact c1 x hx y (by simp)
  ·exact S x hx z h
 refine cL ?_;have em:m=((P.length+X.length:Nat):Int):=by omega
 subst ha;have M:=W;rw[<-em] at M;refine M.trans (cL ?_);have e7:P++X++y::Q=(P++X1)++X2++y::Q:=by rw[b];simp
 have lX:X.length=X1.length+X2.length:=by rw[b,aa]
 rw[e7];refine (T_ (P++X1) (k:Int) (by simp only[aa];omega) _ y X2.length X2 Q m bN rfl (jC z1) (by simp only[aa];omega) z1).trans ?_;simp
end
end Go.Proofs.YtncjnoakkghmmaaGreatDoor
