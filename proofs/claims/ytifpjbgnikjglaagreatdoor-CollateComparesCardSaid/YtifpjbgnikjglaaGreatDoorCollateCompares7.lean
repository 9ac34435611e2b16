/-
  Texts laid together: Vi, Vj, LcN, Vk, Vm, Vn, Vp, LcX, Vq, LcZ, PlCollateCompares. Nothing is assumed.
-/
import Derived.Test.YtifpjbgnikjglaaGreatDoorCollateCompares6
import Derived.Test.YtifpjbgnikjglaaGreatDoorCollateCompares2
set_option maxRecDepth 100000
set_option maxHeartbeats 4000000
namespace Go.Proofs.YtifpjbgnikjglaaGreatDoor
open Go.RowKit Go.Lib
open Tryz
set_option linter.unusedVariables false
set_option linter.unusedSimpArgs false
open _root_.ByteArray renaming empty→ac,append_empty→bx,size_append→aE
open _root_.Go.IntWalk renaming i64_in→ai
open _root_.Go.Lib renaming compareBytes→bc
open _root_.Go.Proofs.Tryz renaming underlying36→aK,underlying58→dE,results27→gv,underlying9→an,results4→im,underlying46→cg
open bR renaming nil→bQ
open Hd renaming nil→eB
open Rd renaming nil→lW
open aq renaming nil→ah
open Vw renaming get→ce
open aO renaming one1→aF
open _root_.Go.Utf8 renaming encode→ae
open _root_.Go.Value renaming bool→ay,string→af,int→aB
open _root_.Int renaming toNat_natCast→bz,le_refl→eN
open _root_.List renaming map_cons→av,mem_cons_self→ar,length_pos_iff→cV,dropLast_concat_getLast→nz,map_append→cM,length_append→aa,length_map→az,getElem?_append_right→fX,length_eq_zero_iff→gY,drop_left→ic,length_cons→ab,append_assoc→aA,take_append_drop→bZ,length_drop→aS,length_take→bD,map_drop→ki,takeWhile_sublist→dt,length_nil→aL,takeWhile_cons→aW,mem_cons→bo,mem_cons_of_mem→ak,mem_map→aU,append_nil→aH,mem_singleton→bO,length→gq,take_of_length_le→ee,mem_of_mem_drop→gg,nil_append→bg,getElem?_map→bU,getElem?_eq_getElem→aJ,drop_eq_getElem_cons→aR,drop_eq_nil_of_le→bJ,getElem?_eq_some_iff→au,drop_zero→el,mem_of_getElem?→aP,getElem?_append_left→eK,head?_dropWhile_not→kj,drop_drop→ff,take_left→ko,replicate→bE,length_replicate→qn,getElem?_range→k8,getD_eq_getElem?_getD→cC,flatMap_cons→aG
open _root_.Nat renaming le_refl→bq,sub_self→oC,add_sub_cancel_left→ik,zero_le→bG
open _root_.Option renaming getD_some→fi,isSome_iff_exists→jx
open _root_.Or renaming inr→jq
open _root_.UInt8 renaming toNat_inj→dZ
theorem Vo {o:cw} {l:List Tk} {m:Nat} {g:ad} (h:xB o l=some (m,g)):1≤m∧lF o g=true:=by
 have key:∀ (l:List Tk) (f:ad) (n:Nat) (r:Option (Nat×ad)),(∀q,r=some q→1≤q.1∧lF o q.2=true)→∀q,(l.foldl (qE o) (f,n,r)).2.2=some q→1≤q.1∧lF o q.2=true:=by
  intro l
  induction l with
  |nil=>intro f n r hr q a;exact hr q a
  |cons x l b=>
   intro f n r hr q a
   rw[List.foldl_cons] at a
   refine b _ _ _ ?_ q a
   intro p hp
   generalize f++ae (cA x.1)=G at hp
   by_cases hu:lF o G=true
   ·have hp:(if lF o G then some (n+1,G) else r)=some p:=hp
    rw[am hu] at hp
    injection hp with hp
    rw[←hp]
    exact⟨by show 1≤n+1;omega,hu⟩
   ·have hp:(if lF o G then some (n+1,G) else r)=some p:=hp
    rw[aj hu] at hp
    exact hr p hp
 exact key _ _ _ _ (fun q h=>by cases h) (m,g) h
theorem Vr {o:cw} {w:dk} (hi:fI o) (hr:sf o w) {x:bf} {B:List bf} (j:∀y∈x::B,nP y) (hB:(x::B).length≤1000000) (hx:cZ x.Rune=true) (J:Int→Nat→List ad→Option (List cN)) :
  ∃s,(aT (xy w (x::B)) fun (c:(ad×Int))=>
   aN ((c.2:Int)==0) (
   aV (fB x.Rune) <|
   aT (sR (ae (cA x.Rune))) fun (p:ad)=>
   zaC (fun _ _=>none) (zbX J p) zbx ([]:List ad) 0
   ) (
   aT (se w c.1) fun (n:Int)=>
   aN (decide ((0:Int)≤n)) (
   J c.2 1 ([c.1]:List ad)
   ) (
   aT ((zbP c.1 w.Fors)) fun (k:List ad)=>
   J c.2 2 k
   )
   ))=J ((kG (dB o) (tkI x) (B.map tkI)).1:Int) s (kG (dB o) (tkI x) (B.map tkI)).2:=by
 have t:=hi.ul;have u:=hi.ll
 have a:=UT hi hr j hB
 rw[av] at a
 unfold kG
 rw[LK]
 cases hb:xB o (tkI x::B.map tkI) with
 |none=>
  rw[hb] at a
  rw[Option.map_none,Option.getD_none]
  refine⟨1,aY a (bS rfl (zdG (j x (ar ..)).i32 ?_))⟩
  have z:=nr (cA x.Rune)
  have hf:=(s7 (ae (cA x.Rune)) (by omega)).1
  refine aY (EC _ (by omega)) ?_
  have h5:(iU (ae (cA x.Rune))).size≤1000:=by omega
  have hp:rY (tkI x).1=(eH (iU (ae (cA x.Rune)))).map ae:=rfl
  generalize iU (ae (cA x.Rune))=r at h5 hp ⊢
  have v:=U1 r h5 J
  rw[v,hp]
  rfl
 |some q=>
  obtain⟨m,g⟩:=q
  rw[hb] at a
  obtain⟨h1,h2⟩:=Vo hb
  rw[Option.map_some,fi]
  have hm:(((m:Nat):Int)==0)=false:=aC.2 (by omega)
  have b:=zU w g (by rw[hr.un];omega)
  rw[hr.un] at b
  unfold zw5
  dsimp only
  have hp:=hi.pl g
  cases hx:lE o.units g with
  |some i=>
   have l:=(vq hx).1
   rw[hx] at b hp
   rw[hp]
   exact⟨1,aY a (bM hm (aY b (bS (ax l) rfl)))⟩
  |none=>
   rw[hx] at b hp
   rw[hp]
   unfold lF at h2
   rw[hp] at h2
   have h3:(zbP g o.fors).isSome=true:=by simpa using h2
   obtain⟨xs,h⟩:=jx.1 h3
   have d:zbP g w.Fors=some xs:=by rw[hr.fo];exact h
   rw[h]
   exact⟨2,aY a (bM hm (aY b (bM (al (by show ¬(0:Int)≤-1;omega)) (aY d rfl))))⟩
def uj (out:List El):List El:=if si out then out else out++[lT]
theorem LQ {out:List El} (h:0<out.length):∃e,out.getLast?=some e∧zca (out.map rE) (((out.map rE).length:Int)-1)=some (rE e):=by
 obtain⟨P,e,rfl⟩:∃P e,out=P++[e]:=⟨out.dropLast,out.getLast (cV.1 h),(nz (cV.1 h)).symm⟩
 refine⟨e,List.getLast?_concat,?_⟩
 rw[cM,aa,az]
 have:((P.length+(List.map rE [e]).length:Nat):Int)-1=(P.length:Int):=by
  show ((P.length+1:Nat):Int)-1=_
  omega
 rw[this]
 exact gM (by rw[fX (by rw[az];exact bq _),az,oC];rfl)
theorem FW {out:List El} (b:out.length≤2000000000) (J:List cN→Option (List cN)) :
  co (fun (j:(List cN)→Option (List cN))=>
  aN (decide ((0:Int)<((out.map rE).length:Int))) (
  aV (cr (((out.map rE).length:Int)-1)) <|
  aT (zca (out.map rE) (((out.map rE).length:Int)-1)) fun (a:cN)=>
  aN ((a.Sort_:Int) != 1) (
  aV ((out.map rE).length+1≤2147483648) <|
  j (out.map rE++[(⟨1,ac,0,ac,false⟩:cN)])
  ) (
  j (out.map rE)
  )
  ) (
  j (out.map rE)
  )
  ) J=J ((uj out).map rE):=by
 have c:(out.map rE).length=out.length:=az ..
 refine cB ?_
 by_cases h0:0<out.length
 ·obtain⟨e,h1,h2⟩:=LQ h0
  refine eR (gO (aY h2 ?_))
  have hg:si out=decide (e.sort=1):=by unfold si;rw[h1]
  unfold uj
  rw[hg]
  by_cases he:e.sort=1
  ·rw[ax he,am rfl]
   exact bM (bne_eq_false_iff_eq.2 he) rfl
  ·rw[al he,aj (by simp)]
   refine bS (cQ.2 he) (gO ?_)
   rw[cM];rfl
 ·have:out=[]:=gY.1 (by omega)
  subst this
  exact bM rfl rfl
theorem Vt (r:Int):0≤kind r∧kind r≤10:=by
 unfold kind rN
 repeat' split
 all_goals omega
theorem Vu (b:ad):0≤kP b∧kP b≤255:=by unfold kP;have:=(b.data.toList.headD 0).toNat_lt;omega
theorem LR (out:List El):(uj out).length≤out.length+1:=by
 unfold uj
 split
 ·omega
 ·rw[aa];exact bq _
theorem LS (cs:List (Option (List El))) (out:List El):mK (none::cs) out=mK cs (uj out):=rfl
theorem Vv (l:List Tk):ba (sY (iD l).data.toList)=rZ l:=rfl
theorem Vx {L A B:List bf} (h:L=A++B):dK L (A.length:Int) (L.length:Int)=B:=by
 unfold dK
 rw[bz,bz,h,ic,aa,ik,List.take_length]
theorem Vy {L A B:List bf} (h:L=A++B) (m:Nat) (hm:m≤B.length):dK L (A.length:Int) ((A.length:Int)+(m:Int))=B.take m:=by
 unfold dK
 rw[show (A.length:Int)+(m:Int)=((A.length+m:Nat):Int) by push_cast;rfl,bz,bz,h,ic,ik]
theorem Vz {o:cw} {w:dk} (hi:fI o) (hu:zY o) (hr:sf o w) {r2 L:List bf} {r3:Int} (hL:dK r2 r3 (r2.length:Int)=L) (E:∀x∈L,nP x) (hl:L.length≤65536) (J:List cN→Option (List cN)) :
  ∀ (n:Nat) (B A:List bf) (out:List El) (k:Nat),L=A++B→B.length<n→B.length≤k→out.length+5*B.length≤1000000 →
   zaC (fun _ _=>none) (zcC w J r2 r3) n (out.map rE) (A.length:Int)=J ((mK (mY (dB o) k (B.map tkI)) out).map rE):=by
 intro n
 induction n with
 |zero=>intro B A out k _ h;omega
 |succ n ih=>
  intro B A out k d hn hk ho
  rw[gk]
  generalize a7:zaC (fun _ _=>none) (zcC w J r2 r3) n=ag
  unfold zcC
  rw[hL]
  have H:L.length=A.length+B.length:=by rw[d,aa]
  have bh:(out.map rE).length=out.length:=az ..
  cases B with
  |nil=>
   refine bM (al (by rw[H];simp)) ?_
   rw[List.map_nil,Un];rfl
  |cons x B=>
   rw[ab] at hn hk ho H
   obtain⟨k,rfl⟩:∃k',k=k'+1:=⟨k-1,by omega⟩
   have ok:=E x (by rw[d];simp)
   have okB:∀y∈x::B,nP y:=fun y hy=>E y (by rw[d];exact List.mem_append_right _ hy)
   have hx:zca L (A.length:Int)=some x:=gM (by rw[d];simp)
   have U:∀ (m:Nat) (c:Option (List El)) (a:List El),1≤m→m≤(x::B).length→lD (dB o) (tkI x) (B.map tkI)=(m,c)→(∀cs,mK (c::cs) out=mK cs a)→a.length≤out.length+5 →
     ag (a.map rE) ((A.length:Int)+(m:Int))=J ((mK (mY (dB o) (k+1) ((x::B).map tkI)) out).map rE):=fun m c a h1 h2 hc R aw=>by
    rw[ab] at h2
    have:=ih ((x::B).drop m) (A++(x::B).take m) a k (by rw[d,aA,bZ]) (by rw[aS,ab];omega) (by rw[aS,ab];omega) (by rw[aS,ab];omega)
    rw[a7,show (A++(x::B).take m).length=A.length+m by rw[aa,bD,ab];omega] at this
    push_cast at this
    rw[this,av,mY,hc]
    dsimp only
    rw[R,←av,ki]
   have C:∀ (c:Option (List El)) (a:List El),lD (dB o) (tkI x) (B.map tkI)=(1,c)→(∀cs,mK (c::cs) out=mK cs a)→a.length≤out.length+5 →
     (aV (cr ((A.length:Int)+1))<|ag (a.map rE) ((A.length:Int)+1))=J ((mK (mY (dB o) (k+1) ((x::B).map tkI)) out).map rE):=fun c a hc R aw=>
    gO (U 1 c a (bq 1) (by rw[ab];omega) hc R aw)
   refine eR (cB (aY hx ?_))
   by_cases h0:0≤x.Rune
   ·refine bS (ax h0) (zdG ok.i32 (fC ?_))
    have b:kT (tkI x)=kind x.Rune:=by
     show (if x.Rune<0 then 11 else kind x.Rune)=_
     rw[aj (by omega)]
    cases a4:((kind x.Rune:Int)==1) with
    |true=>
     have q:kT (tkI x)=1:=by rw[b];exact beq_iff_eq.1 a4
     have O:cZ x.Rune=true:=(zB (tkI x)).1.1 q
     refine bS rfl (cB (zdG ⟨by omega,by omega,eN _⟩ ?_))
     rw[Vx d]
     obtain⟨kd,Z⟩:=Vr hi hr (x:=x) (B:=B) okB (by rw[ab];omega) O (fun (V:Int) (a9:Nat) (r:List ad)=>
      co (fun (j4:Bool→Option (List cN))=>
      aV (cr ((A.length:Int)+V)) <|
      aV (0≤((A.length:Int):Int)∧((A.length:Int):Int)≤((A.length:Int)+V)∧((A.length:Int)+V:Int)≤(L.length:Int)) <|
      zaC (fun _ _=>none) (zbW r2 r3 (A.length:Int) V j4) zbx false 0
      ) (fun (F:Bool)=>
      co (fun (j6:Int→ad→Option (List cN))=>
      aV (cr ((A.length:Int)+V)) <|
      zaC (fun _ _=>none) (zbK r2 r3 j6) zbx ((A.length:Int)+V) (⟨#[]⟩:ad)
      ) (fun (i4:Int) (D:ad)=>
      co (fun (j7:(List cN)→Option (List cN))=>
      zaC (fun _ _=>none) (zbV w r F j7) zbx (out.map rE) 0
      ) (fun (g:List cN)=>
      aV (cr ((g.length:Int)-1)) <|
      aT (zca g ((g.length:Int)-1)) fun (q6:cN)=>
      ag (g.set ((g.length:Int)-1:Int).toNat (⟨q6.Sort_,q6.Digits,q6.Place,D,q6.Great⟩:cN)) i4
      ))))
     refine Z.trans ?_
     clear Z
     have j:=E2 (dB o) hi.ok.fo (tkI x) (B.map tkI) O
     have K:=UY hi hu (tkI x) (B.map tkI) O
     have i:lD (dB o) (tkI x) (B.map tkI)=((kG (dB o) (tkI x) (B.map tkI)).1+(((tkI x::B.map tkI).drop (kG (dB o) (tkI x) (B.map tkI)).1).takeWhile iQ).length,some (ph (mv (((tkI x::B.map tkI).drop (kG (dB o) (tkI x) (B.map tkI)).1).takeWhile iQ)) ((kG (dB o) (tkI x) (B.map tkI)).2.map (iE (dB o) (qB ((tkI x::B.map tkI).take (kG (dB o) (tkI x) (B.map tkI)).1)))))):=by
      unfold lD;rw[am q]
     generalize kG (dB o) (tkI x) (B.map tkI)=M at j K i ⊢
     obtain⟨m,ps⟩:=M
     dsimp only at j K i ⊢
     rw[←av,az,ab] at j
     rw[←av,←ki,←List.map_take] at i
     have a5:=Vy d m (by rw[ab];omega)
     refine cB (gO (gO ?_))
     refine (U5 (M:=(x::B).take m) (by rw[hL];exact a5) (fun y hy=>okB y (List.mem_of_mem_take hy)) (by rw[bD,ab];omega) _).trans ?_
     generalize bs:qB (((x::B).take m).map tkI)=gr at i ⊢
     refine cB (gO ?_)
     have N:=fun Jm=>U2 (A:=A++(x::B).take m) (B:=(x::B).drop m) hL E (by omega) (by rw[d,aA,bZ]) Jm
     have a8:(A++(x::B).take m).length=A.length+m:=by rw[aa,bD,ab];omega
     rw[a8] at N
     have S:((A.length+m:Nat):Int)=(A.length:Int)+(m:Int):=by push_cast;rfl
     rw[S] at N
     refine (N _).trans ?_
     have ao:((((x::B).drop m).map tkI).takeWhile iQ).length+m≤(x::B).length:=by
      have:=(dt iQ (l:=((x::B).drop m).map tkI)).length_le
      rw[az,aS,ab] at this
      rw[ab];omega
     generalize bk:(((x::B).drop m).map tkI).takeWhile iQ=ms at i ao ⊢
     refine cB ?_
     refine (U4 hi hr gr ps K (by omega) (out.map rE) (by omega) _).trans ?_
     obtain⟨us,u,W⟩:∃us u,ps=us++[u]:=⟨ps.dropLast,ps.getLast j.2.2.1,(nz j.2.2.1).symm⟩
     have G:ps.map (iE (dB o) gr)=us.map (iE (dB o) gr)++[iE (dB o) gr u]:=by rw[W];simp
     have Y:ph (mv ms) (ps.map (iE (dB o) gr))=us.map (iE (dB o) gr)++[⟨3,((dB o).p u).getD 0,ac,mv ms,gr⟩]:=by rw[G,E3];rfl
     have bb:us.length≤3:=by have:=j.2.2.2;rw[W,aa,ab,aL] at this;omega
     generalize hP:out++us.map (iE (dB o) gr)=P
     have b3:P.length≤out.length+4:=by rw[←hP];simp only[aa,az];omega
     have hall:out.map rE++(ps.map (iE (dB o) gr)).map rE=P.map rE++[rE (iE (dB o) gr u)]:=by rw[G,←hP,cM,cM,aA];rfl
     rw[hall]
     have Q:((P.map rE++[rE (iE (dB o) gr u)]).length:Int)-1=((P.map rE).length:Int):=by rw[aa,ab,aL];push_cast;omega
     rw[Q]
     have b2:(P.map rE).length=P.length:=az ..
     refine gO (aY (gM (show (P.map rE++[rE (iE (dB o) gr u)])[(P.map rE).length]?=some (rE (iE (dB o) gr u)) by simp)) ?_)
     have X:=Lh (P.map rE) (rE (iE (dB o) gr u)) (⟨(rE (iE (dB o) gr u)).Sort_,(rE (iE (dB o) gr u)).Digits,(rE (iE (dB o) gr u)).Place,mv ms,(rE (iE (dB o) gr u)).Great⟩:cN) []
     rw[X]
     have:=U (m+ms.length) (some (ph (mv ms) (ps.map (iE (dB o) gr)))) (P++[⟨3,((dB o).p u).getD 0,ac,mv ms,gr⟩]) (by omega) (by omega) i (fun cs=>by
      show mK cs (out++ph _ _)=_
      rw[Y,←aA,hP]) (by rw[aa,ab,aL];omega)
     rw[cM] at this
     have T:((A.length+m+ms.length:Nat):Int)=(A.length:Int)+((m+ms.length:Nat):Int):=by push_cast;omega
     rw[T]
     exact this
    |false=>
     have q:¬kT (tkI x)=1:=by rw[b];exact aC.1 a4
     refine bM rfl ?_
     cases a3:((kind x.Rune:Int)==3) with
     |true=>
      have s:kT (tkI x)=3:=by rw[b];exact beq_iff_eq.1 a3
      have a6:fE (tkI x)=true:=by rw[←vk,s];rfl
      have i:lD (dB o) (tkI x) (B.map tkI)=(1+((B.map tkI).takeWhile fE).length,some [⟨2,0,rZ (tkI x::(B.map tkI).takeWhile fE),ac,0⟩]):=by
       unfold lD;rw[aj q,am s]
      refine bS rfl (cB ?_)
      refine (U3 hL E (by omega) d _).trans ?_
      rw[av,aW,a6,am rfl,ab]
      have b1:((B.map tkI).takeWhile fE).length≤B.length:=by
       have:=(dt fE (l:=B.map tkI)).length_le
       rw[az] at this;exact this
      have hsz:(iD (tkI x::(B.map tkI).takeWhile fE)).size≤4*(tkI x::(B.map tkI).takeWhile fE).length:=xm fun y hy=>by
       have:y∈(x::B).map tkI:=by
        rw[av]
        rcases bo.1 hy with rfl|hy
        ·exact ar ..
        ·exact ak _ (vn hy).2
       obtain⟨z,hz,rfl⟩:=aU.1 this
       exact (okB z hz).sz
      rw[ab] at hsz
      refine aY (U9 _ (by omega)) (gO ?_)
      rw[Vv]
      have:=U (1+((B.map tkI).takeWhile fE).length) (some [⟨2,0,rZ (tkI x::(B.map tkI).takeWhile fE),ac,0⟩]) (out++[⟨2,0,rZ (tkI x::(B.map tkI).takeWhile fE),ac,0⟩]) (by omega) (by rw[ab];omega) i (fun cs=>rfl) (by rw[aa,ab,aL];omega)
      rw[cM] at this
      have T:((A.length+(((B.map tkI).takeWhile fE).length+1):Nat):Int)=(A.length:Int)+((1+((B.map tkI).takeWhile fE).length:Nat):Int):=by push_cast;omega
      rw[T]
      exact this
     |false=>
      have s:¬kT (tkI x)=3:=by rw[b];exact aC.1 a3
      have t:¬kT (tkI x)=11:=by
       intro h
       rw[b] at h
       have:=Vt x.Rune
       omega
      have v:kT (tkI x)=5∨kT (tkI x)=4∨kT (tkI x)=6→(aV (cr ((A.length:Int)+1))<|ag ((uj out).map rE) ((A.length:Int)+1))=J ((mK (mY (dB o) (k+1) ((x::B).map tkI)) out).map rE):=fun I=>
       C none (uj out) (by unfold lD;rw[aj q,aj s,am I]) (fun cs=>LS cs out) (by have:=LR out;omega)
      refine bM rfl ?_
      cases a2:((kind x.Rune:Int)==4) with
      |true=>
       refine bS rfl ((FW (by omega) _).trans ?_)
       exact v (.inr (.inl (by rw[b];exact beq_iff_eq.1 a2)))
      |false=>
       refine bM rfl ?_
       cases a1:((kind x.Rune:Int)==5) with
       |true=>
        refine bS rfl ((FW (by omega) _).trans ?_)
        exact v (.inl (by rw[b];exact beq_iff_eq.1 a1))
       |false=>
        refine bM rfl ?_
        cases a0:((kind x.Rune:Int)==6) with
        |true=>
         refine bS rfl ((FW (by omega) _).trans ?_)
         exact v (.inr (.inr (by rw[b];exact beq_iff_eq.1 a0)))
        |false=>
         refine bM rfl ?_
         have I:¬(kT (tkI x)=5∨kT (tkI x)=4∨kT (tkI x)=6):=by
          rw[b]
          have h4:=aC.1 a2;have h5:=aC.1 a1;have h6:=aC.1 a0
          omega
         refine C (some []) out (by unfold lD;rw[aj q,aj s,aj I,aj t]) (fun cs=>?_) (by omega)
         show mK cs (out++[])=_
         rw[aH]
   ·have t:kT (tkI x)=11:=by
     show (if x.Rune<0 then 11 else kind x.Rune)=_
     rw[am (by omega)]
    have b0:=Vu x.Text
    refine bM (al h0) (eR (aY (U6 ok.ne) (gO (gO ?_))))
    have:=C (some [⟨4,kP x.Text,ac,ac,0⟩]) (out++[⟨4,kP x.Text,ac,ac,0⟩]) (by unfold lD;rw[t];rfl) (fun cs=>rfl) (by rw[aa,ab,aL];omega)
    rw[cM] at this
    exact this
theorem VA (o:mu) (x:Tk) (l:List Tk) {b:List El} (h:(lD o x l).2=some b):FV b:=by
 unfold lD at h
 split at h
 ·injection h with h
  subst h
  intro e he
  rcases Fq _ he with he|⟨c,a,rfl⟩
  ·obtain⟨u,_,rfl⟩:=aU.1 he
   show (3:Int)≠1;omega
  ·obtain⟨u,_,rfl⟩:=aU.1 a
   show (3:Int)≠1;omega
 ·split at h
  ·injection h with h
   subst h
   intro e he
   rw[bO.1 he]
   show (2:Int)≠1;omega
  ·split at h
   ·cases h
   ·split at h
    ·injection h with h
     subst h
     intro e he
     rw[bO.1 he]
     show (4:Int)≠1;omega
    ·injection h with h
     subst h
     intro e he
     cases he
theorem LU (o:mu):∀ (n:Nat) (l:List Tk) (a:List El),some a∈mY o n l→FV a
 |0,l,a,h=>by cases h
 |n+1,[],a,h=>by cases h
 |n+1,x::l,a,h=>by
  rw[mY] at h
  rcases bo.1 h with h|h
  ·exact VA o x l h.symm
  ·exact LU o n _ a h
theorem FX:∀ (cs:List (Option (List El))) (out:List El),(∀a,some a∈cs→a.length≤4)→(mK cs out).length≤out.length+5*cs.length
 |[],out,_=>bq _
 |none::cs,out,h=>by
  have h1:=FX cs (uj out) fun a he=>h a (ak _ he)
  have h2:=LR out
  rw[LS,ab];omega
 |some a::cs,out,h=>by
  have h1:=FX cs (out++a) fun a he=>h a (ak _ he)
  have h2:=h a (ar ..)
  rw[aa] at h1
  show (mK cs (out++a)).length≤_
  rw[ab];omega
theorem LV {o:cw} {w:dk} (hi:fI o) (hu:zY o) (hr:sf o w) (t:ad) (ht:oQ t):xz w t=some ((gh o t).map rE):=by
 have q:=zT (gm t)
 have s:=FM (gm t)
 have g:(fV (gm t)).map tkI=gE t:=xx (gm t)
 have i:=KO (dB o) (gE t)
 have u:=ht.2
 have z:(fV (gm t)).length=(gE t).length:=by
  have:=aM gq g
  rw[az] at this;exact this
 unfold xz
 refine cB (aY (JF t ht.1) (aY (wT (gm t) (by omega)) (aY (UR hr t ht) (zdG ⟨by omega,by omega,eN _⟩ ?_))))
 generalize hp:rl (dB o) (gE t)=p at i ⊢
 have k:dK (fV (gm t)) (p:Int) ((fV (gm t)).length:Int)=(fV (gm t)).drop p:=by
  unfold dK
  rw[bz,bz,ee (by rw[aS];omega)]
 have h1:=Vz hi hu hr (r2:=fV (gm t)) (r3:=(p:Int)) k (fun x hx=>q x (gg hx)) (by rw[aS];omega) (fun (a:List cN)=>
  co (fun (d:(List cN)→Option (List cN))=>
  aN (decide ((0:Int)<(a.length:Int))) (
  aV (cr ((a.length:Int)-1)) <|
  aT (zca a ((a.length:Int)-1)) fun (n:cN)=>
  aN ((n.Sort_:Int)==1) (
  aV (cr ((a.length:Int)-1)) <|
  aV (0≤((a.length:Int)-1:Int)∧((a.length:Int)-1:Int)≤(a.length:Int)) <|
  d (a.take ((a.length:Int)-1:Int).toNat)
  ) (
  d a
  )
  ) (
  d a
  )
  ) (fun (c:List cN)=>
  some c
  )) zbx ((fV (gm t)).drop p) [] [] (gE t).length (bg _).symm (by rw[aS];unfold zbx;omega) (by rw[aS];omega) (by rw[aS];show 0+_≤_;omega)
 refine h1.trans ?_
 rw[ki,g]
 have l:=Fs (dB o) hi.ok.fo hi.ok.pl (gE t).length ((gE t).drop p) (fun y hy=>(Ft t ht).1 y (gg hy)) (by rw[aS];omega)
 have j:=LU (dB o) (gE t).length ((gE t).drop p)
 have b:=Cq (mY (dB o) (gE t).length ((gE t).drop p)) [] false j (fun e h=>by cases h)
 rw[show ([]:List El)++jj false []=[] from rfl] at b
 have m:=FX (mY (dB o) (gE t).length ((gE t).drop p)) [] fun B he=>(l.1 B he).2
 have r:gh o t=ti (mK (mY (dB o) (gE t).length ((gE t).drop p)) []):=by
  rw[b];unfold gh vj;rw[hp]
 rw[r]
 have A:=l.2
 rw[aL] at m
 generalize mK (mY (dB o) (gE t).length ((gE t).drop p)) []=out at m ⊢
 have v:(out.map rE).length=out.length:=az ..
 refine cB ?_
 by_cases h0:0<out.length
 ·obtain⟨e,g1,g2⟩:=LQ h0
  refine eR (gO (aY g2 ?_))
  unfold ti
  rw[g1]
  show aN ((e.sort:Int)==1) _ _=some ((if e.sort=1 then out.dropLast else out).map rE)
  by_cases he:e.sort=1
  ·rw[am he]
   refine bS (beq_iff_eq.2 he) (gO (gO (aM some ?_)))
   rw[List.map_dropLast,List.dropLast_eq_take]
   congr 1
   omega
  ·rw[aj he]
   exact bM (aC.2 he) rfl
 ·have:out=[]:=gY.1 (by omega)
  subst this
  exact bM rfl rfl
theorem xC (a b:Int):th a b=some (sg (a-b)):=by
 unfold th sg
 by_cases h1:a<b
 ·rw[am (by omega)];exact bS (ax h1) rfl
 ·rw[aj (by omega)]
  refine bM (al h1) ?_
  by_cases h2:b<a
  ·rw[am (by omega)];exact bS (ax h2) rfl
  ·rw[aj (by omega)];exact bM (al h2) rfl
theorem FZ (a b:Int):sg (mH a b)=mH (sg a) (sg b):=by
 unfold mH
 by_cases h:a=0
 ·rw[am h,am (gN.2 h)]
 ·rw[aj h,aj (fun h2=>h (gN.1 h2))]
theorem uk {x:List El} {k:Nat} {e:El} (h:x[k]?=some e):zca (x.map rE) (k:Int)=some (rE e):=gM (by rw[bU,h];rfl)
theorem VB {x y:List El} (hx:x.length≤1000000) (hy:y.length≤1000000) {j:List cN→List cN→Option (Int×Int)} {Z:Option (Int×Int)}
  (h1:x.length=y.length→j (x.map rE) (y.map rE)=Z) (h2:x.length<y.length→j (x.map rE) (y.map rE)=some (-1,1)) (h3:y.length<x.length→j (x.map rE) (y.map rE)=some (1,1)) :
  ∀ (n k:Nat),k≤x.length→k≤y.length→x.length-k<n→zaC (fun _=>none) (zcS j (x.map rE) (y.map rE)) n (k:Int)=if gn iM (x.drop k) (y.drop k)=0 then Z else some (sg (gn iM (x.drop k) (y.drop k)),1):=by
 intro n
 induction n with
 |zero=>intro k _ _ h;omega
 |succ n A=>
  intro k H G M
  rw[gk]
  generalize I:zaC (fun _=>none) (zcS j (x.map rE) (y.map rE)) n=ag at A
  unfold zcS
  have K:(x.map rE).length=x.length:=az ..
  have J:(y.map rE).length=y.length:=az ..
  by_cases g:k<x.length
  ·refine eR ?_
   by_cases d:k<y.length
   ·have p:=uk (aJ g)
    have o:=uk (aJ d)
    rw[aR g,aR d,gn]
    refine eR (cB (aY p (aY o (aY (xC _ _) ?_))))
    generalize x[k]=a at p ⊢
    generalize y[k]=b at o ⊢
    have w:=A (k+1) (by omega) (by omega) (by omega)
    push_cast at w
    have m:sg (iM a b)=mH (sg (a.sort-b.sort)) (mH (sg (a.place-b.place)) (mH (sg ((a.digits.size:Int)-(b.digits.size:Int))) (cb a.digits.data.toList b.digits.data.toList))):=by
     unfold iM
     rw[FZ,FZ,FZ,BR]
    have q:∀c:Int,c=sg (iM a b)→(aN ((c:Int) != 0) (some (c,(1:Int))) (aV (cr ((k:Int)+1))<|ag ((k:Int)+1)))=if (if iM a b=0 then gn iM (x.drop (k+1)) (y.drop (k+1)) else iM a b)=0 then Z else some (sg (if iM a b=0 then gn iM (x.drop (k+1)) (y.drop (k+1)) else iM a b),1):=by
     intro c hc
     by_cases h0:iM a b=0
     ·rw[am h0]
      refine bM (by rw[hc,gN.2 h0];rfl) (gO w)
     ·rw[aj h0,aj h0,hc]
      exact bS (cQ.2 fun h=>h0 (gN.1 h)) rfl
    have u:∀c:Int,mH c (cb a.digits.data.toList b.digits.data.toList)=sg (iM a b)→co (fun (l:Int→Option (Int×Int))=>aN ((c:Int)==0) (aT (zca (x.map rE) (k:Int)) fun (t:cN)=>aT (zca (y.map rE) (k:Int)) fun (s:cN)=>l (bc t.Digits.data.toList s.Digits.data.toList)) (l c)) (fun (r:Int)=>aN ((r:Int) != 0) (some (r,(1:Int))) (aV (cr ((k:Int)+1))<|ag ((k:Int)+1)))=if (if iM a b=0 then gn iM (x.drop (k+1)) (y.drop (k+1)) else iM a b)=0 then Z else some (sg (if iM a b=0 then gn iM (x.drop (k+1)) (y.drop (k+1)) else iM a b),1):=by
     intro c hc
     refine cB ?_
     unfold mH at hc
     by_cases h0:c=0
     ·rw[am h0] at hc
      exact bS (beq_iff_eq.2 h0) (aY p (aY o (q _ hc)))
     ·rw[aj h0] at hc
      exact bM (aC.2 h0) (q _ hc)
    have v:∀c:Int,mH c (mH (sg ((a.digits.size:Int)-(b.digits.size:Int))) (cb a.digits.data.toList b.digits.data.toList))=sg (iM a b)→co (fun (z:Int→Option (Int×Int))=>aN ((c:Int)==0) (aT (zca (x.map rE) (k:Int)) fun (F:cN)=>aT (zca (y.map rE) (k:Int)) fun (E:cN)=>aT (th (F.Digits.size:Int) (E.Digits.size:Int)) fun (D:Int)=>z D) (z c)) (fun (B:Int)=>co (fun (l:Int→Option (Int×Int))=>aN ((B:Int)==0) (aT (zca (x.map rE) (k:Int)) fun (t:cN)=>aT (zca (y.map rE) (k:Int)) fun (s:cN)=>l (bc t.Digits.data.toList s.Digits.data.toList)) (l B)) (fun (r:Int)=>aN ((r:Int) != 0) (some (r,(1:Int))) (aV (cr ((k:Int)+1))<|ag ((k:Int)+1))))=if (if iM a b=0 then gn iM (x.drop (k+1)) (y.drop (k+1)) else iM a b)=0 then Z else some (sg (if iM a b=0 then gn iM (x.drop (k+1)) (y.drop (k+1)) else iM a b),1):=by
     intro c hc
     refine cB ?_
     by_cases h0:c=0
     ·have i:mH (sg ((a.digits.size:Int)-(b.digits.size:Int))) (cb a.digits.data.toList b.digits.data.toList)=sg (iM a b):=by
       rw[←hc];unfold mH;rw[am h0]
      exact bS (beq_iff_eq.2 h0) (aY p (aY o (aY (xC _ _) (u _ i))))
     ·have i:mH c (cb a.digits.data.toList b.digits.data.toList)=sg (iM a b):=by
       rw[←hc];unfold mH;rw[aj h0,aj h0]
      exact bM (aC.2 h0) (u _ i)
    have C:sg ((rE a).Sort_-(rE b).Sort_)=sg (a.sort-b.sort):=rfl
    rw[C]
    by_cases h0:sg (a.sort-b.sort)=0
    ·refine bS (beq_iff_eq.2 h0) (aY p (aY o (aY (xC _ _) (v _ ?_))))
     rw[m]
     show mH (sg (a.place-b.place)) _=_
     conv=>rhs;unfold mH
     rw[am h0]
     rfl
    ·refine bM (aC.2 h0) (v _ ?_)
     rw[m]
     unfold mH
     rw[aj h0,aj h0]
   ·refine fC ?_
    rw[aR g,bJ (show y.length≤k by omega)]
    exact (h3 (by omega)).trans rfl
  ·refine fC ?_
   rw[bJ (show x.length≤k by omega)]
   by_cases d:k<y.length
   ·rw[aR d]
    exact (h2 (by omega)).trans rfl
   ·rw[bJ (show y.length≤k by omega)]
    exact (h1 (by omega)).trans rfl
theorem LW {x y:List El} (hx:x.length≤1000000) (l:x.length=y.length) {Z:Option (Int×Int)} {F:(Int→Option (Int×Int))→Int→Option (Int×Int)} {c:El→El→Int} {v:Int}
  (he:∀ag,F ag (x.length:Int)=Z) (m:∀ag (k:Nat) a b,k≤1000000→x[k]?=some a→y[k]?=some b→F ag (k:Int)=if c a b=0 then ag ((k:Int)+1) else some (sg (c a b),v)) :
  ∀ (n k:Nat),k≤x.length→x.length-k<n→zaC (fun _=>none) F n (k:Int)=if gn c (x.drop k) (y.drop k)=0 then Z else some (sg (gn c (x.drop k) (y.drop k)),v):=by
 intro n
 induction n with
 |zero=>intro k _ h;omega
 |succ n j=>
  intro k hk o
  rw[gk]
  by_cases g:k<x.length
  ·have d:k<y.length:=by omega
   rw[m _ k _ _ (by omega) (aJ g) (aJ d),aR g,aR d,gn]
   have i:=j (k+1) (by omega) (by omega)
   push_cast at i
   by_cases h0:c x[k] y[k]=0
   ·rw[am h0,am h0];exact i
   ·rw[aj h0,aj h0,aj h0]
  ·have e:k=x.length:=by omega
   rw[bJ (show x.length≤k by omega),bJ (show y.length≤k by omega),e,he];rfl
theorem VC {o:cw} {w:dk} (hi:fI o) (hu:zY o) (hr:sf o w) (a b:ad) (ha:oQ a) (hb:oQ b):zX w a b=some (lq 1 (kH o a) (kH o b)):=by
 obtain⟨r,s⟩:=uh hi.ok a ha
 obtain⟨n,lb⟩:=uh hi.ok b hb
 unfold zX
 refine cB (aY (LV hi hu hr a ha) (aY (LV hi hu hr b hb) ?_))
 unfold kH
 rw[Fu r n]
 generalize gh o a=x at r s ⊢
 generalize gh o b=y at n lb ⊢
 have l:(x.map rE).length=x.length:=az ..
 have j:(y.map rE).length=y.length:=az ..
 have i:∀d:x.length=y.length,(co (fun (u:Option (Int×Int))=>
   zaC (fun _=>none) (zcR (x.map rE) (y.map rE) u) zbx 0
   ) (
   co (fun (t:Option (Int×Int))=>
   zaC (fun _=>none) (zcQ (x.map rE) (y.map rE) t) zbx 0
   ) (
   aN (decide (a=b)) (
   some ((0:Int),(0:Int))
   ) (
   some (bc a.data.toList b.data.toList,4)
   )
   )
   ))=some (if gn mI x y=0 then (if gn ox x y=0 then (if cb a.data.toList b.data.toList=0 then (0,0) else (cb a.data.toList b.data.toList,4)) else (sg (gn ox x y),3)) else (sg (gn mI x y),2)):=by
  intro d
  refine cB ((LW (x:=x) (y:=y) (c:=mI) (v:=2) (by omega) d (fun ag=>by
    unfold zcR
    exact fC rfl) (fun ag k p q hk h1 h2=>by
    have m:=(au.1 h1).1
    unfold zcR
    refine eR (aY (uk h1) (aY (uk h2) ?_))
    have e:bc (rE p).Marks.data.toList (rE q).Marks.data.toList=mI p q:=rfl
    rw[e]
    by_cases h0:mI p q=0
    ·rw[am h0];exact bM (by rw[h0];rfl) (gO rfl)
    ·rw[aj h0,show sg (mI p q)=mI p q from BR _ _];exact bS (cQ.2 h0) rfl) zbx 0 (bG _) (by unfold zbx;omega)).trans ?_)
  rw[el,el]
  by_cases hm:gn mI x y=0
  ·rw[am hm,am hm]
   refine cB ((LW (x:=x) (y:=y) (c:=ox) (v:=3) (by omega) d (fun ag=>by
     unfold zcQ
     exact fC rfl) (fun ag k p q hk h1 h2=>by
     have m:=(au.1 h1).1
     have g1:=(r p (aP h1)).gr
     have g2:=(n q (aP h2)).gr
     unfold zcQ
     refine eR (aY (uk h1) (aY (uk h2) ?_))
     have e1:(rE p).Great=decide (p.great=1):=rfl
     have e2:(rE q).Great=decide (q.great=1):=rfl
     unfold ox
     rcases g1 with g1|g1<;>rcases g2 with g2|g2
     ·rw[e1,e2,g1,g2];exact bM rfl (gO rfl)
     ·rw[e1,e2,g1,g2]
      refine bS rfl (aY (uk h1) ?_)
      rw[e1,g1];exact bM rfl rfl
     ·rw[e1,e2,g1,g2]
      refine bS rfl (aY (uk h1) ?_)
      rw[e1,g1];exact bS rfl rfl
     ·rw[e1,e2,g1,g2];exact bM rfl (gO rfl)) zbx 0 (bG _) (by unfold zbx;omega)).trans ?_)
   rw[el,el]
   by_cases hg:gn ox x y=0
   ·rw[am hg,am hg]
    by_cases g:a=b
    ·rw[am (by rw[g];exact xl _)]
     exact bS (ax g) rfl
    ·rw[aj (fun h=>g (ow (BP h)))]
     exact bM (al g) rfl
   ·rw[aj hg,aj hg]
  ·rw[aj hm,aj hm]
 refine (VB (x:=x) (y:=y) (Z:=some (if gn mI x y=0 then (if gn ox x y=0 then (if cb a.data.toList b.data.toList=0 then (0,0) else (cb a.data.toList b.data.toList,4)) else (sg (gn ox x y),3)) else (sg (gn mI x y),2))) (by omega) (by omega) (fun d=>?_) (fun h=>?_) (fun h=>?_) zbx 0 (bG _) (bG _) (by unfold zbx;omega)).trans ?_
 ·refine aY (xC _ _) (bM ?_ (i d))
  rw[l,j,show ((x.length:Int)-(y.length:Int))=0 by omega];rfl
 ·refine aY (xC _ _) ?_
  rw[l,j,show sg ((x.length:Int)-(y.length:Int))=-1 by unfold sg;rw[am (by omega)]]
  exact bS rfl rfl
 ·refine aY (xC _ _) ?_
  rw[l,j,show sg ((x.length:Int)-(y.length:Int))=1 by unfold sg;rw[aj (by omega),am (by omega)]]
  exact bS rfl rfl
 ·rw[el,el]
  unfold xo
  by_cases hf:gn iM x y=0
  ·rw[am hf,am hf]
  ·rw[aj hf,aj hf]
def zdw (d:List gU) (c:(List ad)→Option (zaw×dk)) (b:(List ad)→Option (zaw×dk)) (a:List ad):Option (zaw×dk) := aN (decide (((a.length:Int):Int)<((d.length:Int)-1))) (aN (decide (((a.length:Int):Int)<6)) (aV (a.length+1≤2147483648) <|b (a++[(⟨#[]⟩:ad)])) (c a)) (c a)
def zdv (o1:dk) (c:List gU) (a:List ad) (n:Option (zaw×dk)) (g:Int→Option (zaw×dk)) (b:Int):Option (zaw×dk) := co (fun (j:Option (zaw×dk))=>aN (decide ((b:Int)<(a.length:Int))) (j) (aN (decide ((b:Int)<((c.length:Int)-1))) (j) (n))) (co (fun (i:ad→Bool→Bool→Bool→Option (zaw×dk))=>aN (decide ((((c.length:Int)-1):Int)≤b)) (aT (zca c (min b ((c.length:Int)-1))) fun (m:gU)=>some ((⟨220,m.at_⟩:zaw),o1)) (aN (decide (((a.length:Int):Int)≤b)) (aT (zca c (min b ((c.length:Int)-1))) fun (l:gU)=>some ((⟨220,l.at_⟩:zaw),o1)) (aT (zca a b) fun (d:ad)=>aN (!decide (d=(⟨#[]⟩:ad))) (aT (zca c b) fun (h:gU)=>aN (!decide (d=h.text)) (aT (zca c (min b ((c.length:Int)-1))) fun (k:gU)=>some ((⟨220,k.at_⟩:zaw),o1)) (i d true true (!decide (d=h.text)))) (i d false false false)))) (fun (x1:ad) (x2:Bool) (p:Bool) (o:Bool)=>aV (cr (b+1)) <|g (b+1)))
def zdu (o1:dk) (n:List gU) (c:List ad) (q:(List ad)→ad→Option (zaw×dk)) (m:(List ad)→ad→Int→Option (zaw×dk)) (a:List ad) (b:ad) (i:Int):Option (zaw×dk) := aN (decide ((i:Int)<(c.length:Int))) (co (fun (p:(List ad)→ad→Option (zaw×dk))=>aT (zca c i) fun (j:ad)=>aN (!decide (j=(⟨#[]⟩:ad))) (co (fun (o:ad→Option (zaw×dk))=>aV (a.length+1≤2147483648) <|aN (decide (j=(⟨#[97,102,116,101,114]⟩:ad))) (aV (b.size+(⟨#[32,97,102,116,101,114]⟩:ad).size≤9223372036854775807) <|o (b++(⟨#[32,97,102,116,101,114]⟩:ad))) (o b)) (fun (g:ad)=>p (a++[(⟨#[]⟩:ad)]) g)) (aT (zca n i) fun (l:gU)=>aT (zO l.text) fun (r1:ad)=>aN (decide (r1=(⟨#[]⟩:ad))) (aT (zca n i) fun (k:gU)=>some ((⟨221,k.at_⟩:zaw),o1)) (aV (a.length+1≤2147483648) <|aT (zj r1) fun (r2:ad)=>aV ((⟨#[32]⟩:ad).size+r2.size≤9223372036854775807) <|aV (b.size+((⟨#[32]⟩:ad)++r2).size≤9223372036854775807) <|p (a++[r1]) (b++((⟨#[32]⟩:ad)++r2))))) (fun (d:List ad) (h:ad)=>aV (cr (i+1)) <|m d h (i+1))) (q a b)
def zdt (o1:dk) (g:List gU) (h:ad→Option (zaw×dk)) (r3:ad) (d:Int→Option (zaw×dk)) (a:Int):Option (zaw×dk) := aN (decide ((a:Int)<(o1.Skips.length:Int))) (aT (zca o1.Skips a) fun (c:ad)=>aN (decide (c=r3)) (aT (zca g 1) fun (b:gU)=>some ((⟨222,b.at_⟩:zaw),o1)) (aV (cr (a+1)) <|d (a+1))) (h r3)
def zds (o1:dk) (m:List gU) (b:List ad) (a:List ad) (j:Option (zaw×dk)) (k:Int→Option (zaw×dk)) (c:Int):Option (zaw×dk) := aN (decide ((c:Int)<(a.length:Int))) (co (fun (d:Option (zaw×dk))=>aT (zca b c) fun (i:ad)=>aN (decide (i=(⟨#[]⟩:ad))) (aT (zca a c) fun (h:ad)=>aT (se o1 h) fun (l:Int)=>aN (decide ((l:Int)<0)) (aT (zca m c) fun (g:gU)=>some ((⟨223,g.at_⟩:zaw),o1)) (d)) (d)) (aV (cr (c+1)) <|k (c+1))) (j)
def zZ (o1:dk) (g:List gU):Option (zaw×dk) := aN (((o1.Lines.length:Int):Int)==256) (aT (zca g 0) fun (q1:gU)=>some ((⟨3,q1.at_⟩:zaw),o1)) (co (fun (r:(List ad)→Option (zaw×dk))=>aV (cr ((g.length:Int)-1)) <|aT (zca g 0) fun (q2:gU)=>aN (decide (q2.text=(⟨#[112,117,116]⟩:ad))) (r ([(⟨#[112,117,116]⟩:ad),(⟨#[]⟩:ad),(⟨#[97,102,116,101,114]⟩:ad),(⟨#[]⟩:ad)]:List ad)) (aN (decide (q2.text=(⟨#[115,107,105,112]⟩:ad))) (r ([(⟨#[115,107,105,112]⟩:ad),(⟨#[]⟩:ad)]:List ad)) (aN (decide (q2.text=(⟨#[97,115]⟩:ad))) (zaC (fun _=>none) (zdw g r) zbx ([(⟨#[97,115]⟩:ad),(⟨#[]⟩:ad),(⟨#[]⟩:ad)]:List ad)) (aT (zca g 0) fun (u:gU)=>some ((⟨220,u.at_⟩:zaw),o1))))) (fun (b:List ad)=>co (fun (A:Option (zaw×dk))=>zaC (fun _=>none) (zdv o1 g b A) zbx 0) (co (fun (z:(List ad)→ad→Option (zaw×dk))=>aT (zca b 0) fun (t:ad)=>zaC (fun _ _ _=>none) (zdu o1 g b z) zbx ([]:List ad) t 0) (fun (a:List ad) (c:ad)=>co (fun (y:Option (zaw×dk))=>aT (zca b 0) fun (p:ad)=>aN (decide (p=(⟨#[115,107,105,112]⟩:ad))) (co (fun (x:ad→Option (zaw×dk))=>aT (zca a 1) fun (o:ad)=>aT (sR o) fun (r3:ad)=>zaC (fun _=>none) (zdt o1 g x r3) zbx 0) (fun (fold1:ad)=>aV (o1.Skips.length+1≤2147483648) <|aV (o1.Lines.length+1≤2147483648) <|some ((⟨0,0⟩:zaw),(⟨o1.Units,o1.Fors,o1.Skips++[fold1],o1.Lines++[c]⟩:dk)))) (y)) (aT (zca a 1) fun (n:ad)=>aT (vu o1 n) fun (s:Bool)=>aN (s) (aT (zca g 1) fun (m:gU)=>some ((⟨222,m.at_⟩:zaw),o1)) (co (fun (q:Option (zaw×dk))=>zaC (fun _=>none) (zds o1 g b a q) zbx 2) (co (fun (i:(List ad)→(List (ad×List ad))→Option (zaw×dk))=>aT (zca b 0) fun (l:ad)=>aN (decide (l=(⟨#[97,115]⟩:ad))) (aT (zca a 1) fun (k:ad)=>aV (0≤(2:Int)∧(2:Int)≤(a.length:Int)∧((a.length:Int):Int)≤(a.length:Int)) <|i o1.Units (iq k (dK a 2 (a.length:Int)) o1.Fors)) (aT (zca a 3) fun (j:ad)=>aT (se o1 j) fun (d:Int)=>aV (cr (d+1)) <|aV (0≤(0:Int)∧(0:Int)≤(d+1)∧(d+1:Int)≤(o1.Units.length:Int)) <|aV (([]:List ad).length+(dK o1.Units 0 (d+1)).length≤2147483648) <|aT (zca a 1) fun (h:ad)=>aV ((([]:List ad)++(dK o1.Units 0 (d+1))).length+1≤2147483648) <|aV (0≤(d+1:Int)∧(d+1:Int)≤(o1.Units.length:Int)∧((o1.Units.length:Int):Int)≤(o1.Units.length:Int)) <|aV (((([]:List ad)++(dK o1.Units 0 (d+1)))++[h]).length+(dK o1.Units (d+1) (o1.Units.length:Int)).length≤2147483648) <|i (((([]:List ad)++(dK o1.Units 0 (d+1)))++[h])++(dK o1.Units (d+1) (o1.Units.length:Int))) o1.Fors)) (fun (w:List ad) (v:List (ad×List ad))=>aV (o1.Lines.length+1≤2147483648) <|some ((⟨0,0⟩:zaw),(⟨w,v,o1.Skips,o1.Lines++[c]⟩:dk))))))))))
theorem VD {_h:Nat} {o1:dk} {_f _a _c _d:Hd} {U G:Value} {fz:List gU} {z:Nat} {F:List gU} (p:Vw U fz 2 z G F) {r:(zaw×dk)} (h:zZ o1 F=some r):iu prog 27 [zP _h,G] [jh wq 2 U z fz] [cells _h [_f.v,.map (some (bi _a)),_c.v,_d.v] 39,bH _f.v o1.Units,dQ (bi _a) o1.Fors,bH _c.v o1.Skips,bH _d.v o1.Lines] (fun b:Hd×Hd×Hd×Hd=>.agg (kN r.1).toArray) (fun b=>[cells _h [b.1.v,.map (some (bi b.2.1)),b.2.2.1.v,b.2.2.2.v] 39,bH b.1.v r.2.Units,dQ (bi b.2.1) r.2.Fors,bH b.2.2.1.v r.2.Skips,bH b.2.2.2.v r.2.Lines]):=by
 unfold zZ at h
 refine iu.intro func27 rfl ntmps27 (by simp) (fun w0 K I=>zyG (zbi zq8 rfl dc (fun b1=>zyN (zaJ (zyG (zyR 1 rfl (zbc rfl dc rfl (zab zpH rfl dc rfl (show _=3 from rfl) (zas (k:=0) oq rfl dc rfl rfl rfl (gZ (k:=4) rfl dc rfl rfl aK (zaT rfl zbm (zyN (zyB rfl h (fun h=>?_) (fun h=>?_))))))))))))))
 ·refine zyG (zyR 1 rfl (zbk h fun q1 ey h=>fy p ey dE qt rfl dc rfl rfl rfl (zab sH rfl dc rfl (show _=(z+(0:Int).toNat)*2 from rfl) (jG (n:=z+(0:Int).toNat) (j:=0) (i:=0) (q:=q1) I rfl (by omega) dO rfl dc rfl (ce p ey) rfl rfl (zbf (v:=.agg #[zI 3,zI q1.at_]) (ps:=[(0,.const (zI 3)),(1,.tmp 27)]) rfl dc rfl (fun _=>by kernel_rfl) (eE (k:=5) (vs:=[zI 3,zI q1.at_]) (l':=[zI 3,zI q1.at_]) kC rfl rfl rfl rfl rfl (show _≤_ by simp) rfl rfl (zyN (zaA (bP ?_)))))))))
  cases h
  exact eu (rs:=[.cell 4 26]) (_f,_a,_c,_d) (.inl rfl) gv (.cons (.cells kW (k:=5) rfl rfl rfl) .nil) rfl (cp 5)
 refine zap (zaz (zbq h fun j1 g7 h=>zaL (β:=(List ad)×Hd) 2 rfl (fun b=>j1 b.1=some r) (fun b=>[]) (fun b=>[(0,zP _h),(1,G),(4,zP b1),(5,zI ((F.length:Int)-1)),(6,b.2.v)]) (fun b=>[cells _h [_f.v,.map (some (bi _a)),_c.v,_d.v] 39,bH _f.v o1.Units,dQ (bi _a) o1.Fors,bH _c.v o1.Skips,bH _d.v o1.Lines,cells b1 [zI 0,zI 0] 26,bH b.2.v b.1]) (fun cut=>?_) ?_))
 ·refine zyG (zyR 1 rfl (zbT p rfl dc rfl dE (zbs h fun hh h=>zaT rfl (k9 (r:=(F.length:Int)-1) (ai _ hh)) (zyR 1 rfl (zyH (zyR 1 rfl (zyN (cut (zyG (zyR 1 rfl (zbk h fun q2 eq h=>fy p eq dE qt rfl dc rfl rfl rfl (zab Df rfl dc rfl (show _=(z+(0:Int).toNat)*2+1 from rfl) (jG (n:=z+(0:Int).toNat) (j:=1) (i:=0) (q:=q2) I rfl (by omega) dU rfl dc rfl (ce p eq) rfl rfl (zyN (zat (zyG (zaT rfl zdp (zyR 1 rfl (zyN (zyB rfl h (fun h=>bX (fx (cs:=[.string (⟨#[112,117,116]⟩:ad),.string (⟨#[]⟩:ad),.string (⟨#[97,102,116,101,114]⟩:ad),.string (⟨#[]⟩:ad)]) (te:=9) (ps:=[(0,.const (.string (⟨#[112,117,116]⟩:ad))),(1,.const (.string (⟨#[]⟩:ad))),(2,.const (.string (⟨#[97,102,116,101,114]⟩:ad))),(3,.const (.string (⟨#[]⟩:ad)))]) rfl dc rfl (fun _=>by kernel_rfl) (fun b2=>zyR 1 rfl (nE ([(⟨#[112,117,116]⟩:ad),(⟨#[]⟩:ad),(⟨#[97,102,116,101,114]⟩:ad),(⟨#[]⟩:ad)]:List ad) (k:=6) rfl gK rfl (show 4≤maxLen by decide) (zaB (cd (mD (([(⟨#[112,117,116]⟩:ad),(⟨#[]⟩:ad),(⟨#[97,102,116,101,114]⟩:ad),(⟨#[]⟩:ad)]:List ad),(⟨some ⟨b2,0,none⟩,4,4⟩:Hd)) h 7))))))) (fun h=>zyG (zaT rfl zdp (zyR 1 rfl (zyN (zyB rfl h (fun h=>bX (fx (cs:=[.string (⟨#[115,107,105,112]⟩:ad),.string (⟨#[]⟩:ad)]) (te:=9) (ps:=[(0,.const (.string (⟨#[115,107,105,112]⟩:ad))),(1,.const (.string (⟨#[]⟩:ad)))]) rfl dc rfl (fun _=>by kernel_rfl) (fun b3=>zyR 1 rfl (nE ([(⟨#[115,107,105,112]⟩:ad),(⟨#[]⟩:ad)]:List ad) (k:=6) rfl gK rfl (show 2≤maxLen by decide) (zaB (cd (mD (([(⟨#[115,107,105,112]⟩:ad),(⟨#[]⟩:ad)]:List ad),(⟨some ⟨b3,0,none⟩,2,2⟩:Hd)) h 7))))))) (fun h=>zyG (zaT rfl zdp (zyR 1 rfl (zyN (zyB rfl h (fun h=>?_) (fun h=>?_)))))))))))))))))))))))))))))))
  ·refine zyG (fx (cs:=[.string (⟨#[97,115]⟩:ad),.string (⟨#[]⟩:ad),.string (⟨#[]⟩:ad)]) (te:=9) (ps:=[(0,.const (.string (⟨#[97,115]⟩:ad))),(1,.const (.string (⟨#[]⟩:ad))),(2,.const (.string (⟨#[]⟩:ad)))]) rfl dc rfl (fun _=>by kernel_rfl) (fun b4=>zyR 1 rfl (nE ([(⟨#[97,115]⟩:ad),(⟨#[]⟩:ad),(⟨#[]⟩:ad)]:List ad) (k:=6) rfl gK rfl (show 3≤maxLen by decide) (zyN (zat (eF (β:=Nat×(List ad)×Hd) (fun b=>zaC (fun _=>none) (zdw F j1) b.1 b.2.1=some r) (fun b=>[]) (fun b=>[(0,zP _h),(1,G),(4,zP b1),(5,zI ((F.length:Int)-1)),(6,b.2.2.v)]) (fun b=>[cells _h [_f.v,.map (some (bi _a)),_c.v,_d.v] 39,bH _f.v o1.Units,dQ (bi _a) o1.Fors,bH _c.v o1.Skips,bH _d.v o1.Lines,cells b1 [zI 0,zI 0] 26,bH b.2.2.v b.2.1]) (fun b=>b.1) (zbx,([(⟨#[97,115]⟩:ad),(⟨#[]⟩:ad),(⟨#[]⟩:ad)]:List ad),(⟨some ⟨b4,0,none⟩,3,3⟩:Hd)) (by exact h) rfl (bI rfl) (cp 7) ?_))))))
   rintro⟨n1,O,fd⟩ h
   cases n1 with
   |zero=>exact ew h
   |succ n1=>
    obtain⟨hz,dn⟩:∃ag,ag=zaC (fun _=>none) (zdw F j1) n1:=⟨_,rfl⟩
    have h:zdw F j1 hz O=some r:=by rw[dn];exact h
    unfold zdw at h
    refine zaJ (zyG (zyR 1 rfl (gZ (k:=6) rfl dc rfl rfl aK (zyR 1 rfl (zaT rfl zbd (zyR 1 rfl (zyS (s:=54) rfl h (fun h=>?_) (fun h=>?_))))))))
    ·refine zyR 1 rfl (gZ (k:=6) rfl dc rfl rfl aK (zaT rfl zbd (zyR 1 rfl (zyN (zyB rfl h (fun h=>?_) (fun h=>?_))))))
     ·refine zap (zaz (zat (bX (zyR 1 rfl (fx (cs:=[.string (⟨#[]⟩:ad)]) (te:=9) (ps:=[(0,.const (.string (⟨#[]⟩:ad)))]) rfl dc rfl (fun _=>by kernel_rfl) (fun b5=>zbs h fun hg h=>iT (k:=6) (k2:=7) (ys:=[(⟨#[]⟩:ad)]) aK oM gK o6 rfl dc rfl rfl rfl rfl rfl rfl hg (fun v1=>iB (k:=6) rfl (fun hu hs=>?_))))))))
      subst hs
      refine zyR 1 rfl (zaB (cd ?_))
      subst dn
      exact aD (n1,O++[(⟨#[]⟩:ad)],hu) h 7
     exact dy (bV (bV (dz (cd (mD (O,fd) h 7)))))
    exact zyR 4 rfl (zyN (za8 rfl (dy (bV (bV (dz (cd (mD (O,fd) h 7))))))))
  refine zyG (zyR 1 rfl (zbk h fun q3 eg h=>fy p eg dE qt rfl dc rfl rfl rfl (zab sH rfl dc rfl (show _=(z+(0:Int).toNat)*2 from rfl) (jG (n:=z+(0:Int).toNat) (j:=0) (i:=0) (q:=q3) I rfl (by omega) dO rfl dc rfl (ce p eg) rfl rfl (zbf (v:=.agg #[zI 220,zI q3.at_]) (ps:=[(0,.const (zI 220)),(1,.tmp 39)]) rfl dc rfl (fun _=>by kernel_rfl) (eE (k:=5) (vs:=[zI 220,zI q3.at_]) (l':=[zI 220,zI q3.at_]) kC rfl rfl rfl rfl rfl (show _≤_ by simp) rfl rfl (zyN (zaA (cx (bP ?_))))))))))
  cases h
  exact eu (rs:=[.cell 4 26]) (_f,_a,_c,_d) (.inl rfl) gv (.cons (.cells kW (k:=5) rfl rfl rfl) .nil) rfl (cp 5)
 rintro⟨a,l⟩ h
 rw[g7] at h
 refine zbq h fun j2 g6 h=>zaL (β:=Unit) 0 rfl (fun b=>j2=some r) (fun b=>[]) (fun b=>[(0,zP _h),(1,G),(4,zP b1),(6,l.v)]) (fun b=>[cells _h [_f.v,.map (some (bi _a)),_c.v,_d.v] 39,bH _f.v o1.Units,dQ (bi _a) o1.Fors,bH _c.v o1.Skips,bH _d.v o1.Lines,cells b1 [zI 0,zI 0] 26,bH l.v a]) (fun cut=>?_) ?_
 ·refine cut (zyG (zyR 1 rfl (zyN (zat (eF (β:=Nat×Int) (fun b=>zaC (fun _=>none) (zdv o1 F a j2) b.1 b.2=some r) (fun b=>[]) (fun b=>[(0,zP _h),(1,G),(4,zP b1),(5,zI ((F.length:Int)-1)),(6,l.v),(7,zI b.2)]) (fun b=>[cells _h [_f.v,.map (some (bi _a)),_c.v,_d.v] 39,bH _f.v o1.Units,dQ (bi _a) o1.Fors,bH _c.v o1.Skips,bH _d.v o1.Lines,cells b1 [zI 0,zI 0] 26,bH l.v a]) (fun b=>b.1) (zbx,0) h rfl (bI rfl) (cp 7) ?_)))))
  rintro⟨n2,E⟩ h
  cases n2 with
  |zero=>exact ew h
  |succ n2=>
   obtain⟨hy,dj⟩:∃ag,ag=zaC (fun _=>none) (zdv o1 F a j2) n2:=⟨_,rfl⟩
   have h:zdv o1 F a j2 hy E=some r:=by rw[dj];exact h
   unfold zdv at h
   refine zbq h fun j3 g5 h=>zaL (β:=Unit) 0 rfl (fun b=>j3=some r) (fun b=>[]) (fun b=>[(0,zP _h),(1,G),(4,zP b1),(5,zI ((F.length:Int)-1)),(6,l.v),(7,zI E)]) (fun b=>[cells _h [_f.v,.map (some (bi _a)),_c.v,_d.v] 39,bH _f.v o1.Units,dQ (bi _a) o1.Fors,bH _c.v o1.Skips,bH _d.v o1.Lines,cells b1 [zI 0,zI 0] 26,bH l.v a]) (fun cut=>cut (zyG (zyR 2 rfl (gZ (k:=6) rfl dc rfl rfl aK (zaT rfl zbd (zyR 1 rfl (zyS (s:=66) rfl h (fun h=>zyR 4 rfl (zyN (ir rfl (zap (mD () h 7))))) (fun h=>zyR 2 rfl (zaT rfl zbd (zyR 1 rfl (zyN (zyB rfl h (fun h=>zap (mD () h 7)) (fun h=>dy (bV (bV (dz (mD () h 7))))))))))))))))) (fun _ h=>?_)
   rw[g5] at h
   refine zbq h fun j4 g4 h=>zaL (β:=ad×Bool×Bool×Bool) 0 rfl (fun b=>j4 b.1 b.2.1 b.2.2.1 b.2.2.2=some r) (fun b=>[]) (fun b=>[(0,zP _h),(1,G),(4,zP b1),(5,zI ((F.length:Int)-1)),(6,l.v),(7,zI E),(77,zI E),(78,l.v),(79,zI (a.length:Int)),(80,.bool false),(83,l.v),(84,zI E),(85,.pointer (some ⟨eO l.v,(E:Int).toNat*1,none⟩)),(86,.string b.1),(87,.bool b.2.1),(88,.bool b.2.2.1),(99,.bool b.2.2.2)]) (fun b=>[cells _h [_f.v,.map (some (bi _a)),_c.v,_d.v] 39,bH _f.v o1.Units,dQ (bi _a) o1.Fors,bH _c.v o1.Skips,bH _d.v o1.Lines,cells b1 [zI 0,zI 0] 26,bH l.v a]) (fun cut=>?_) ?_
   ·refine cut (zat (zaJ (vJ (b:=decide ((((F.length:Int)-1):Int)≤E)) (fun T=>?_) (fun T=>?_))))
    ·have h:=oF T h
     refine zcI 25 [(0,73,zI E),(1,74,zI ((F.length:Int)-1)),(2,75,.bool true),(3,76,.bool true),(4,77,undef),(5,78,undef),(6,79,undef),(7,80,undef),(8,81,.bool true),(9,82,.bool true),(10,83,undef),(11,84,undef),(12,85,undef),(13,86,undef),(14,87,undef),(15,88,undef),(16,89,undef),(17,90,undef),(18,91,undef),(19,92,undef),(20,93,undef),(21,94,undef),(22,95,undef),(23,96,undef),(24,97,undef)] mixed kr kr dc (by rfl) kr kr (zyP 2 0 rfl (zac (fun D n d c u i=>mh rfl dc (bt 0 u d) (bt 1 u d) zbF (pp (show ay (decide ((((F.length:Int)-1):Int)≤E))=ay true from aM ay T) (zaN 2 u i))) (zyP 22 3 rfl bQ))) (zyR 3 rfl (zyN (ir rfl (zyG (zyR 3 rfl (Au rfl dc rfl rfl (zbk h fun q4 eb h=>fy p eb dE qt rfl dc rfl rfl rfl (zab sH rfl dc rfl (show _=(z+(min E ((F.length:Int)-1):Int).toNat)*2 from rfl) (jG (n:=z+(min E ((F.length:Int)-1):Int).toNat) (j:=0) (i:=0) (q:=q4) I rfl (by omega) dO rfl dc rfl (ce p eb) rfl rfl (zbf (v:=.agg #[zI 220,zI q4.at_]) (ps:=[(0,.const (zI 220)),(1,.tmp 107)]) rfl dc rfl (fun _=>by kernel_rfl) (eE (k:=5) (vs:=[zI 220,zI q4.at_]) (l':=[zI 220,zI q4.at_]) kC rfl rfl rfl rfl rfl (show _≤_ by simp) rfl rfl (zyN (zaA (cx (bP (bP (cx (bP ?_))))))))))))))))))
     cases h
     exact eu (rs:=[.cell 4 26]) (_f,_a,_c,_d) (.inl rfl) gv (.cons (.cells kW (k:=5) rfl rfl rfl) .nil) rfl (cp 5)
    have h:=oG T h
    refine vJ (b:=decide (((a.length:Int):Int)≤E)) (fun Q=>?_) (fun Q=>?_)
    ·have h:=oF Q h
     refine zcI 25 [(0,73,zI E),(1,74,zI ((F.length:Int)-1)),(2,75,.bool false),(3,76,.bool false),(4,77,zI E),(5,78,l.v),(6,79,zI (a.length:Int)),(7,80,.bool true),(8,81,.bool true),(9,82,.bool true),(10,83,undef),(11,84,undef),(12,85,undef),(13,86,undef),(14,87,undef),(15,88,undef),(16,89,undef),(17,90,undef),(18,91,undef),(19,92,undef),(20,93,undef),(21,94,undef),(22,95,undef),(23,96,undef),(24,97,undef)] mixed kr kr dc (by rfl) kr kr (zyP 2 0 rfl (zac (fun D n d c u i=>mh rfl dc (bt 0 u d) (bt 1 u d) zbF (pp (show ay (decide ((((F.length:Int)-1):Int)≤E))=ay false from aM ay T) (zaN 2 u i))) (zyP 3 3 rfl (zac (fun D n d c u i=>gZ (k:=6) (lZ rfl (bt 3 u d)) dc (bt 5 u d) rfl aK (zaN 6 u i)) (zac (fun D n d c u i=>mh (lZ rfl (bt 3 u d)) dc (bt 4 u d) (bt 6 u d) zbF (pp (show ay (decide (((a.length:Int):Int)≤E))=ay true from aM ay Q) (zaN 7 u i))) (zyP 17 8 rfl bQ)))))) (zyR 3 rfl (zyN (ir rfl (zyG (zyR 3 rfl (Au rfl dc rfl rfl (zbk h fun q5 ea h=>fy p ea dE qt rfl dc rfl rfl rfl (zab sH rfl dc rfl (show _=(z+(min E ((F.length:Int)-1):Int).toNat)*2 from rfl) (jG (n:=z+(min E ((F.length:Int)-1):Int).toNat) (j:=0) (i:=0) (q:=q5) I rfl (by omega) dO rfl dc rfl (ce p ea) rfl rfl (zbf (v:=.agg #[zI 220,zI q5.at_]) (ps:=[(0,.const (zI 220)),(1,.tmp 107)]) rfl dc rfl (fun _=>by kernel_rfl) (eE (k:=5) (vs:=[zI 220,zI q5.at_]) (l':=[zI 220,zI q5.at_]) kC rfl rfl rfl rfl rfl (show _≤_ by simp) rfl rfl (zyN (zaA (cx (bP (bP (cx (bP ?_))))))))))))))))))
     cases h
     exact eu (rs:=[.cell 4 26]) (_f,_a,_c,_d) (.inl rfl) gv (.cons (.cells kW (k:=5) rfl rfl rfl) .nil) rfl (cp 5)
    have h:=oG Q h
    refine zbk h fun Z X h=>vJ (b:=!decide (Z=(⟨#[]⟩:ad))) (fun S=>?_) (fun S=>?_)
    ·have h:=oF S h
     refine zbk h fun q7 d9 h=>zcI 25 [(0,73,zI E),(1,74,zI ((F.length:Int)-1)),(2,75,.bool false),(3,76,.bool false),(4,77,zI E),(5,78,l.v),(6,79,zI (a.length:Int)),(7,80,.bool false),(8,81,.bool false),(9,82,.bool false),(10,83,l.v),(11,84,zI E),(12,85,.pointer (some ⟨eO l.v,(E:Int).toNat*1,none⟩)),(13,86,.string Z),(14,87,.bool true),(15,88,.bool true),(16,89,l.v),(17,90,zI E),(18,91,.pointer (some ⟨eO l.v,(E:Int).toNat*1,none⟩)),(19,92,.string Z),(20,93,G),(21,94,zI E),(22,95,.pointer (some ⟨eO U,(z+(E:Int).toNat)*2,none⟩)),(23,96,.pointer (some ⟨eO U,(z+(E:Int).toNat)*2+1,none⟩)),(24,97,.string q7.text)] mixed kr kr dc (by rfl) kr kr (zyP 2 0 rfl (zac (fun D n d c u i=>mh rfl dc (bt 0 u d) (bt 1 u d) zbF (pp (show ay (decide ((((F.length:Int)-1):Int)≤E))=ay false from aM ay T) (zaN 2 u i))) (zyP 3 3 rfl (zac (fun D n d c u i=>gZ (k:=6) (lZ rfl (bt 3 u d)) dc (bt 5 u d) rfl aK (zaN 6 u i)) (zac (fun D n d c u i=>mh (lZ rfl (bt 3 u d)) dc (bt 4 u d) (bt 6 u d) zbF (pp (show ay (decide (((a.length:Int):Int)≤E))=ay false from aM ay Q) (zaN 7 u i))) (zyP 4 8 rfl (zac (fun D n d c u i=>eJ (k:=6) X aK gV (lZ rfl (bt 9 u d)) dc (bt 10 u d) (bt 11 u d) rfl rfl (zaN 12 u i)) (zac (fun D n d c u i=>fw (i:=(E:Int).toNat) (j:=0) (k:=6) (q:=Z) dU gK (lZ rfl (bt 9 u d)) dc (bt 12 u d) rfl (ei X) rfl dc rfl (zaN 13 u i)) (zac (fun D n d c u i=>mh (lZ rfl (bt 9 u d)) dc (bt 13 u d) rfl tE (pp (show ay (!decide (Z=(⟨#[]⟩:ad)))=ay true from aM ay S) (zaN 14 u i))) (zyP 3 15 rfl (zac (fun D n d c u i=>eJ (k:=6) X aK gV (lZ rfl (bt 15 u d)) dc (bt 16 u d) (bt 17 u d) rfl rfl (zaN 18 u i)) (zac (fun D n d c u i=>fw (i:=(E:Int).toNat) (j:=0) (k:=6) (q:=Z) dU gK (lZ rfl (bt 15 u d)) dc (bt 18 u d) rfl (ei X) rfl dc rfl (zaN 19 u i)) (zyP 2 20 rfl (zac (fun D n d c u i=>fy p d9 dE qt (lZ rfl (bt 15 u d)) dc (bt 20 u d) (bt 21 u d) rfl (zaN 22 u i)) (zac (fun D n d c u i=>zab Df (lZ rfl (bt 15 u d)) dc (bt 22 u d) (show _=(z+(E:Int).toNat)*2+1 from rfl) (zaN 23 u i)) (zac (fun D n d c u i=>jG (n:=z+(E:Int).toNat) (j:=1) (i:=0) (q:=q7) I rfl (by omega) dU (lZ rfl (bt 15 u d)) dc (bt 23 u d) (ce p d9) rfl rfl (zaN 24 u i)) bQ)))))))))))))))) (zaT rfl tE (zyR 2 rfl (zyN (zyB rfl h (fun h=>?_) (fun h=>?_)))))
     ·refine zyG (zyR 3 rfl (Au rfl dc rfl rfl (zbk h fun q8 d8 h=>fy p d8 dE qt rfl dc rfl rfl rfl (zab sH rfl dc rfl (show _=(z+(min E ((F.length:Int)-1):Int).toNat)*2 from rfl) (jG (n:=z+(min E ((F.length:Int)-1):Int).toNat) (j:=0) (i:=0) (q:=q8) I rfl (by omega) dO rfl dc rfl (ce p d8) rfl rfl (zbf (v:=.agg #[zI 220,zI q8.at_]) (ps:=[(0,.const (zI 220)),(1,.tmp 107)]) rfl dc rfl (fun _=>by kernel_rfl) (eE (k:=5) (vs:=[zI 220,zI q8.at_]) (l':=[zI 220,zI q8.at_]) kC rfl rfl rfl rfl rfl (show _≤_ by simp) rfl rfl (zyN (zaA (cx (bP (bP (cx (bP ?_))))))))))))))
      cases h
      exact eu (rs:=[.cell 4 26]) (_f,_a,_c,_d) (.inl rfl) gv (.cons (.cells kW (k:=5) rfl rfl rfl) .nil) rfl (cp 5)
     exact zap (cd (mD (Z,true,true,!decide (Z=q7.text)) h 7))
    have h:=oG S h
    exact zcI 25 [(0,73,zI E),(1,74,zI ((F.length:Int)-1)),(2,75,.bool false),(3,76,.bool false),(4,77,zI E),(5,78,l.v),(6,79,zI (a.length:Int)),(7,80,.bool false),(8,81,.bool false),(9,82,.bool false),(10,83,l.v),(11,84,zI E),(12,85,.pointer (some ⟨eO l.v,(E:Int).toNat*1,none⟩)),(13,86,.string Z),(14,87,.bool false),(15,88,.bool false),(16,89,undef),(17,90,undef),(18,91,undef),(19,92,undef),(20,93,undef),(21,94,undef),(22,95,undef),(23,96,undef),(24,97,undef)] mixed kr kr dc (by rfl) kr kr (zyP 2 0 rfl (zac (fun D n d c u i=>mh rfl dc (bt 0 u d) (bt 1 u d) zbF (pp (show ay (decide ((((F.length:Int)-1):Int)≤E))=ay false from aM ay T) (zaN 2 u i))) (zyP 3 3 rfl (zac (fun D n d c u i=>gZ (k:=6) (lZ rfl (bt 3 u d)) dc (bt 5 u d) rfl aK (zaN 6 u i)) (zac (fun D n d c u i=>mh (lZ rfl (bt 3 u d)) dc (bt 4 u d) (bt 6 u d) zbF (pp (show ay (decide (((a.length:Int):Int)≤E))=ay false from aM ay Q) (zaN 7 u i))) (zyP 4 8 rfl (zac (fun D n d c u i=>eJ (k:=6) X aK gV (lZ rfl (bt 9 u d)) dc (bt 10 u d) (bt 11 u d) rfl rfl (zaN 12 u i)) (zac (fun D n d c u i=>fw (i:=(E:Int).toNat) (j:=0) (k:=6) (q:=Z) dU gK (lZ rfl (bt 9 u d)) dc (bt 12 u d) rfl (ei X) rfl dc rfl (zaN 13 u i)) (zac (fun D n d c u i=>mh (lZ rfl (bt 9 u d)) dc (bt 13 u d) rfl tE (pp (show ay (!decide (Z=(⟨#[]⟩:ad)))=ay false from aM ay S) (zaN 14 u i))) (zyP 10 15 rfl bQ)))))))))) (zyR 3 rfl (zyN (za8 rfl (zap (cd (mD (Z,false,false,false) h 7))))))
   rintro⟨x1,x2,x3,x4⟩ h
   rw[g4] at h
   refine bX (zyR 1 rfl (zbs h fun hf h=>zaT rfl (dA (r:=E+1) (ai _ hf)) (zyR 1 rfl (zaB ?_))))
   subst dj
   exact aD (n2,E+1) h 7
 rintro _ h
 rw[g6] at h
 refine zbq h fun j5 g3 h=>zaL (β:=(List ad)×ad×Hd) 2 rfl (fun b=>j5 b.1 b.2.1=some r) (fun b=>[]) (fun b=>[(0,zP _h),(1,G),(4,zP b1),(6,l.v),(8,b.2.2.v),(9,.string b.2.1)]) (fun b=>[cells _h [_f.v,.map (some (bi _a)),_c.v,_d.v] 39,bH _f.v o1.Units,dQ (bi _a) o1.Fors,bH _c.v o1.Skips,bH _d.v o1.Lines,cells b1 [zI 0,zI 0] 26,bH l.v a,bH b.2.2.v b.1]) (fun cut=>?_) ?_
 ·refine zyG (zyR 1 rfl (zyH (zyR 1 rfl (zbk h fun q9 d7 h=>eJ (k:=6) d7 aK gV rfl dc rfl rfl rfl rfl (fw (i:=(0:Int).toNat) (j:=0) (k:=6) (q:=q9) dU gK rfl dc rfl rfl (ei d7) rfl dc rfl (zyR 1 rfl (zyN (cut (zyG (zyR 1 rfl (gZ (k:=6) rfl dc rfl rfl aK (zyR 1 rfl (zyN (zat (nD (enc:=hO) (e:=9) (size:=1) (eF (β:=Nat×(List ad)×ad×Int×Hd) (fun b=>zaC (fun _ _ _=>none) (zdu o1 F a j5) b.1 b.2.1 b.2.2.1 b.2.2.2.1=some r) (fun b=>[]) (fun b=>[(0,zP _h),(1,G),(4,zP b1),(6,l.v),(8,b.2.2.2.2.v),(9,.string b.2.2.1),(112,l.v),(113,zI (a.length:Int)),(114,zI b.2.2.2.1)]) (fun b=>[cells _h [_f.v,.map (some (bi _a)),_c.v,_d.v] 39,bH _f.v o1.Units,dQ (bi _a) o1.Fors,bH _c.v o1.Skips,bH _d.v o1.Lines,cells b1 [zI 0,zI 0] 26,bH l.v a,bH b.2.2.2.2.v b.2.1]) (fun b=>b.1) (zbx,([]:List ad),q9,0,eB) h rfl (bI rfl) (cp 8) ?_))))))))))))))))
  rintro⟨n3,N,P,x7,ht⟩ h
  cases n3 with
  |zero=>exact ew h
  |succ n3=>
   obtain⟨hx,di⟩:∃ag,ag=zaC (fun _ _ _=>none) (zdu o1 F a j5) n3:=⟨_,rfl⟩
   have h:zdu o1 F a j5 hx N P x7=some r:=by rw[di];exact h
   unfold zdu at h
   refine zyG (zaT rfl zbd (zyN (zaJ (zyB rfl h (fun h=>?_) (fun h=>?_)))))
   ·refine zap (zaz (zbq h fun j6 g2 h=>zaL (β:=(List ad)×ad×Hd) 0 rfl (fun b=>j6 b.1 b.2.1=some r) (fun b=>[]) (fun b=>[(0,zP _h),(1,G),(4,zP b1),(6,l.v),(8,b.2.2.v),(9,.string b.2.1),(112,l.v),(113,zI (a.length:Int)),(114,zI x7)]) (fun b=>[cells _h [_f.v,.map (some (bi _a)),_c.v,_d.v] 39,bH _f.v o1.Units,dQ (bi _a) o1.Fors,bH _c.v o1.Skips,bH _d.v o1.Lines,cells b1 [zI 0,zI 0] 26,bH l.v a,bH b.2.2.v b.1]) (fun cut=>?_) ?_))
    ·refine cut (zat (zyG (zyR 1 rfl (zbk h fun gc c4 h=>eJ (k:=6) c4 aK gV rfl dc rfl rfl rfl rfl (fw (i:=(x7:Int).toNat) (j:=0) (k:=6) (q:=gc) dU gK rfl dc rfl rfl (ei c4) rfl dc rfl (zyR 2 rfl (zyN (zaJ (zyG (zyR 1 rfl (zaT rfl tE (zyN (zyB rfl h (fun h=>?_) (fun h=>?_))))))))))))))
     ·refine zbq h fun j7 g1 h=>zaL (β:=ad×Hd) 1 rfl (fun b=>j7 b.1=some r) (fun b=>[]) (fun b=>[(0,zP _h),(1,G),(4,zP b1),(6,l.v),(8,b.2.v),(9,.string b.1),(112,l.v),(113,zI (a.length:Int)),(114,zI x7)]) (fun b=>[cells _h [_f.v,.map (some (bi _a)),_c.v,_d.v] 39,bH _f.v o1.Units,dQ (bi _a) o1.Fors,bH _c.v o1.Skips,bH _d.v o1.Lines,cells b1 [zI 0,zI 0] 26,bH l.v a,bH b.2.v (N++[(⟨#[]⟩:ad)])]) (fun cut=>?_) ?_
      ·refine zyG (zyR 1 rfl (fx (cs:=[.string (⟨#[]⟩:ad)]) (te:=9) (ps:=[(0,.const (.string (⟨#[]⟩:ad)))]) rfl dc rfl (fun _=>by kernel_rfl) (fun b6=>zbs h fun he h=>iT (k:=7) (k2:=8) (ys:=[(⟨#[]⟩:ad)]) aK oM gK o6 rfl dc rfl rfl rfl rfl rfl rfl he (fun v2=>iB (k:=7) rfl (fun dd hr=>?_)))))
       subst hr
       exact zyR 1 rfl (zyN (cut (zyG (zyR 1 rfl (zaT rfl zdp (zyN (zyB rfl h (fun h=>bX (zyR 1 rfl (zbs h fun hc h=>zaT rfl (lJ hc) (zyR 1 rfl (zaB (mD (P++(⟨#[32,97,102,116,101,114]⟩:ad),dd) h 8)))))) (fun h=>zap (mD (P,dd) h 8)))))))))
      rintro⟨dT,fo⟩ h
      rw[g1] at h
      exact dy (bV (dz (mD (N++[(⟨#[]⟩:ad)],dT,fo) h 8)))
     refine zap (zaz (zyG (zyR 2 rfl (zbk h fun d5 c3 h=>fy p c3 dE qt rfl dc rfl rfl rfl (zab Df rfl dc rfl (show _=(z+(x7:Int).toNat)*2+1 from rfl) (jG (n:=z+(x7:Int).toNat) (j:=1) (i:=0) (q:=d5) I rfl (by omega) dU rfl dc rfl (ce p c3) rfl rfl (zbk h fun r1 ex h=>zaI (v:=.string r1) (vs:=[.string d5.text]) rfl dc rfl rfl rfl N8 (Uy ex) (zyR 1 rfl (zyN (zaJ (zyG (zyR 1 rfl (zaT rfl zdp (zyN (zyB rfl h (fun h=>?_) (fun h=>?_))))))))))))))))
     ·refine zyG (zyR 2 rfl (zbk h fun a3 c2 h=>fy p c2 dE qt rfl dc rfl rfl rfl (zab sH rfl dc rfl (show _=(z+(x7:Int).toNat)*2 from rfl) (jG (n:=z+(x7:Int).toNat) (j:=0) (i:=0) (q:=a3) I rfl (by omega) dO rfl dc rfl (ce p c2) rfl rfl (zbf (v:=.agg #[zI 221,zI a3.at_]) (ps:=[(0,.const (zI 221)),(1,.tmp 140)]) rfl dc rfl (fun _=>by kernel_rfl) (eE (k:=5) (vs:=[zI 221,zI a3.at_]) (l':=[zI 221,zI a3.at_]) kC rfl rfl rfl rfl rfl (show _≤_ by simp) rfl rfl (zyN (zaA (bP (cx (bP (bP (cx (bP ?_))))))))))))))
      cases h
      exact eu (rs:=[.cell 4 26]) (_f,_a,_c,_d) (.inl rfl) gv (.cons (.cells kW (k:=5) rfl rfl rfl) .nil) rfl (cp 5)
     refine zap (zaz (zyG (zyR 2 rfl (fx (cs:=[.string r1]) (te:=9) (ps:=[(0,.tmp 143)]) rfl dc rfl (fun _=>by kernel_rfl) (fun b7=>zbs h fun hb h=>iT (k:=7) (k2:=8) (ys:=[r1]) aK oM gK o6 rfl dc rfl rfl rfl rfl rfl rfl hb (fun v3=>iB (k:=7) rfl (fun fn hq=>?_)))))))
     subst hq
     exact zyR 1 rfl (zyN (bX (zyR 2 rfl (zbk h fun r2 et h=>zaI (v:=.string r2) (vs:=[.string r1]) rfl dc rfl rfl rfl NQ (RW et) (zbs h fun ha h=>zaT rfl (lJ ha) (zbs h fun g9 h=>zaT rfl (lJ g9) (zyR 1 rfl (zaB (cd (mD (N++[r1],P++((⟨#[32]⟩:ad)++r2),fn) h 8))))))))))
    rintro⟨a5,d0,fs⟩ h
    rw[g2] at h
    refine bX (zbs h fun g8 h=>zaT rfl (dA (r:=x7+1) (ai _ g8)) (zyR 1 rfl (zaB ?_)))
    subst di
    exact aD (n3,a5,d0,x7+1,fs) h 8
   exact dy (bV (bV (dz (mD (N,P,ht) h 8))))
 rintro⟨g,C,M⟩ h
 rw[g3] at h
 refine zbq h fun j8 g0 h=>zaL (β:=Unit) 0 rfl (fun b=>j8=some r) (fun b=>[]) (fun b=>[(0,zP _h),(1,G),(4,zP b1),(6,l.v),(8,M.v),(9,.string C)]) (fun b=>[cells _h [_f.v,.map (some (bi _a)),_c.v,_d.v] 39,bH _f.v o1.Units,dQ (bi _a) o1.Fors,bH _c.v o1.Skips,bH _d.v o1.Lines,cells b1 [zI 0,zI 0] 26,bH l.v a,bH M.v g]) (fun cut=>?_) ?_
 ·refine cut (zyG (zyR 1 rfl (zbk h fun gb c0 h=>eJ (k:=6) c0 aK gV rfl dc rfl rfl rfl rfl (fw (i:=(0:Int).toNat) (j:=0) (k:=6) (q:=gb) dU gK rfl dc rfl rfl (ei c0) rfl dc rfl (zaT rfl zdp (zyN (zyB rfl h (fun h=>?_) (fun h=>?_))))))))
  ·refine zbq h fun j9 gT h=>zaL (β:=ad) 1 rfl (fun b=>j9 b=some r) (fun b=>[]) (fun b=>[(0,zP _h),(4,zP b1),(9,.string C),(13,.string b)]) (fun b=>[cells _h [_f.v,.map (some (bi _a)),_c.v,_d.v] 39,bH _f.v o1.Units,dQ (bi _a) o1.Fors,bH _c.v o1.Skips,bH _d.v o1.Lines,cells b1 [zI 0,zI 0] 26]) (fun cut=>?_) ?_
   ·refine zyG (zyR 1 rfl (zbk h fun d4 cv h=>eJ (k:=7) cv aK gV rfl dc rfl rfl rfl rfl (fw (i:=(1:Int).toNat) (j:=0) (k:=7) (q:=d4) dU gK rfl dc rfl rfl (ei cv) rfl dc rfl (zbk h fun r3 es h=>zaI (v:=.string r3) (vs:=[.string d4]) rfl dc rfl rfl rfl AO (Bd es) (zyR 1 rfl (zyN (cut (zyG (zyR 1 rfl (zbc rfl dc rfl (zab AD rfl dc rfl (show _=2 from rfl) (zas (k:=0) oq rfl dc rfl rfl rfl (gZ (k:=3) rfl dc rfl rfl aK (zyR 1 rfl (zaB (zaz (zat (eF (β:=Nat×Int) (fun b=>zaC (fun _=>none) (zdt o1 F j9 r3) b.1 b.2=some r) (fun b=>[]) (fun b=>[(0,zP _h),(1,G),(4,zP b1),(9,.string C),(13,.string r3),(163,_c.v),(164,zI (o1.Skips.length:Int)),(165,zI b.2)]) (fun b=>[cells _h [_f.v,.map (some (bi _a)),_c.v,_d.v] 39,bH _f.v o1.Units,dQ (bi _a) o1.Fors,bH _c.v o1.Skips,bH _d.v o1.Lines,cells b1 [zI 0,zI 0] 26]) (fun b=>b.1) (zbx,0) h rfl (bI rfl) (cp 6) ?_))))))))))))))))))
    rintro⟨n4,aw⟩ h
    cases n4 with
    |zero=>exact ew h
    |succ n4=>
     obtain⟨hw,dg⟩:∃ag,ag=zaC (fun _=>none) (zdt o1 F j9 r3) n4:=⟨_,rfl⟩
     have h:zdt o1 F j9 r3 hw aw=some r:=by rw[dg];exact h
     unfold zdt at h
     refine zyG (zaT rfl zbd (zyN (zaJ (zyB rfl h (fun h=>?_) (fun h=>?_)))))
     ·refine zap (zaz (zaJ (zat (zyG (zbk h fun ga ch h=>eJ (k:=3) ch aK gV rfl dc rfl rfl rfl rfl (fw (i:=(aw:Int).toNat) (j:=0) (k:=3) (q:=ga) dU gK rfl dc rfl rfl (ei ch) rfl dc rfl (zyR 1 rfl (zyH (zyR 2 rfl (zaT rfl zdp (zyN (zyB rfl h (fun h=>?_) (fun h=>?_)))))))))))))
      ·refine zyG (zyR 1 rfl (zbk h fun a2 cc h=>fy p cc dE qt rfl dc rfl rfl rfl (zab sH rfl dc rfl (show _=(z+(1:Int).toNat)*2 from rfl) (jG (n:=z+(1:Int).toNat) (j:=0) (i:=0) (q:=a2) I rfl (by omega) dO rfl dc rfl (ce p cc) rfl rfl (zbf (v:=.agg #[zI 222,zI a2.at_]) (ps:=[(0,.const (zI 222)),(1,.tmp 175)]) rfl dc rfl (fun _=>by kernel_rfl) (eE (k:=5) (vs:=[zI 222,zI a2.at_]) (l':=[zI 222,zI a2.at_]) kC rfl rfl rfl rfl rfl (show _≤_ by simp) rfl rfl (zyN (zaA (cx (bP (bP (cx (bP (bP ?_))))))))))))))
       cases h
       exact eu (rs:=[.cell 4 26]) (_f,_a,_c,_d) (.inl rfl) gv (.cons (.cells kW (k:=5) rfl rfl rfl) .nil) rfl (cp 5)
      refine zap (cd (zaz (bX (zbs h fun fb h=>zaT rfl (dA (r:=aw+1) (ai _ fb)) (zyR 1 rfl (zaB ?_))))))
      subst dg
      exact aD (n4,aw+1) h 6
     exact dy (bV (bV (dz (mD r3 h 6))))
   rintro fold1 h
   rw[gT] at h
   refine zyG (zyR 2 rfl (zbc rfl dc rfl (zab AD rfl dc rfl (show _=2 from rfl) (zas (k:=0) oq rfl dc rfl rfl rfl (zyR 1 rfl (fx (cs:=[.string fold1]) (te:=9) (ps:=[(0,.tmp 183)]) rfl dc rfl (fun _=>by kernel_rfl) (fun b8=>zbs h fun fa h=>iT (k:=3) (k2:=6) (ys:=[fold1]) aK oM gK o6 rfl dc rfl rfl rfl rfl rfl rfl fa (fun v4=>iB (k:=3) rfl (fun ao hp=>?_)))))))))
   subst hp
   refine zbc rfl dc rfl (zab AD rfl dc rfl (show _=2 from rfl) (eP (k:=0) (l':=[_f.v,.map (some (bi _a)),ao.v,_d.v]) sG rfl rfl rfl rfl rfl (fun _ _=>rfl) rfl (zyH (zyR 2 rfl (zbc rfl dc rfl (zab zpH rfl dc rfl (show _=3 from rfl) (zas (k:=0) oq rfl dc rfl rfl rfl (zyR 1 rfl (fx (cs:=[.string C]) (te:=9) (ps:=[(0,.tmp 193)]) rfl dc rfl (fun _=>by kernel_rfl) (fun b9=>zbs h fun e9 h=>iT (k:=4) (k2:=7) (ys:=[C]) aK oM gK o6 rfl dc rfl rfl rfl rfl rfl rfl e9 (fun v5=>iB (k:=4) rfl (fun db ho=>?_))))))))))))
   subst ho
   refine zbc rfl dc rfl (zab zpH rfl dc rfl (show _=3 from rfl) (eP (k:=0) (l':=[_f.v,.map (some (bi _a)),ao.v,db.v]) sG rfl rfl rfl rfl rfl (fun _ _=>rfl) rfl (zyH (zbf (v:=.agg #[zI 0,zI 0]) (ps:=[]) rfl dc rfl (fun _=>by kernel_rfl) (eE (k:=5) (vs:=[zI 0,zI 0]) (l':=[zI 0,zI 0]) kC rfl rfl rfl rfl rfl (show _≤_ by simp) rfl rfl (zyN (zaA (bP ?_))))))))
   cases h
   exact eu (rs:=[.cell 4 26]) (_f,_a,ao,db) (.inl rfl) gv (.cons (.cells kW (k:=5) rfl rfl rfl) .nil) rfl (cp 5)
  exact zap (mD () h 8)
 rintro _ h
 rw[g0] at h
 refine zaJ (zyG (zyR 2 rfl (zbk h fun d3 b0 h=>eJ (k:=7) b0 aK gV rfl dc rfl rfl rfl rfl (fw (i:=(1:Int).toNat) (j:=0) (k:=7) (q:=d3) dU gK rfl dc rfl rfl (ei b0) rfl dc rfl (zbk h fun r4 en h=>lg (v:=.bool r4) (vs:=[zP _h,.string d3]) I rfl dc rfl rfl rfl HI (LC (_h:=_h) (o1:=o1) (_f:=_f) (_a:=_a) (_c:=_c) (_d:=_d) en) (.own (cp 1) (fun _ _ h=>aF.1 h) (.own (bW [1] kr rfl) (fun _ _ h=>aF.1 h) (.own (bW [2] kr rfl) (fun _ _ h=>aF.1 h) (.own (bW [3] kr rfl) (fun _ _ h=>aF.1 h) (.own (bW [4] kr rfl) (fun _ _ h=>aF.1 h) .nil))))) (zyN (zyB rfl h (fun h=>?_) (fun h=>?_))))))))
 ·refine zyG (zyR 1 rfl (zbk h fun a1 bs h=>fy p bs dE qt rfl dc rfl rfl rfl (zab sH rfl dc rfl (show _=(z+(1:Int).toNat)*2 from rfl) (jG (n:=z+(1:Int).toNat) (j:=0) (i:=0) (q:=a1) I rfl (by omega) dO rfl dc rfl (ce p bs) rfl rfl (zbf (v:=.agg #[zI 222,zI a1.at_]) (ps:=[(0,.const (zI 222)),(1,.tmp 207)]) rfl dc rfl (fun _=>by kernel_rfl) (eE (k:=5) (vs:=[zI 222,zI a1.at_]) (l':=[zI 222,zI a1.at_]) kC rfl rfl rfl rfl rfl (show _≤_ by simp) rfl rfl (zyN (zaA (bP ?_)))))))))
  cases h
  exact eu (rs:=[.cell 4 26]) (_f,_a,_c,_d) (.inl rfl) gv (.cons (.cells kW (k:=5) rfl rfl rfl) .nil) rfl (cp 5)
 refine zap (zaz (zbq h fun a4 eM h=>zaL (β:=Unit) 0 rfl (fun b=>a4=some r) (fun b=>[]) (fun b=>[(0,zP _h),(4,zP b1),(6,l.v),(8,M.v),(9,.string C)]) (fun b=>[cells _h [_f.v,.map (some (bi _a)),_c.v,_d.v] 39,bH _f.v o1.Units,dQ (bi _a) o1.Fors,bH _c.v o1.Skips,bH _d.v o1.Lines,cells b1 [zI 0,zI 0] 26,bH l.v a,bH M.v g]) (fun cut=>?_) ?_))
 ·refine cut (zyG (zyR 1 rfl (zyN (zat (eF (β:=Nat×Int) (fun b=>zaC (fun _=>none) (zds o1 F a g a4) b.1 b.2=some r) (fun b=>[]) (fun b=>[(0,zP _h),(1,G),(4,zP b1),(6,l.v),(8,M.v),(9,.string C),(16,zI b.2)]) (fun b=>[cells _h [_f.v,.map (some (bi _a)),_c.v,_d.v] 39,bH _f.v o1.Units,dQ (bi _a) o1.Fors,bH _c.v o1.Skips,bH _d.v o1.Lines,cells b1 [zI 0,zI 0] 26,bH l.v a,bH M.v g]) (fun b=>b.1) (zbx,2) h rfl (bI rfl) (cp 8) ?_)))))
  rintro⟨n5,i6⟩ h
  cases n5 with
  |zero=>exact ew h
  |succ n5=>
   obtain⟨hv,df⟩:∃ag,ag=zaC (fun _=>none) (zds o1 F a g a4) n5:=⟨_,rfl⟩
   have h:zds o1 F a g a4 hv i6=some r:=by rw[df];exact h
   unfold zds at h
   refine zaJ (zyG (zyR 2 rfl (gZ (k:=7) rfl dc rfl rfl aK (zaT rfl zbd (zyN (zyB rfl h (fun h=>?_) (fun h=>?_)))))))
   ·refine zap (zaz (zbq h fun gf eL h=>zaL (β:=Unit) 0 rfl (fun b=>gf=some r) (fun b=>[]) (fun b=>[(0,zP _h),(1,G),(4,zP b1),(6,l.v),(8,M.v),(9,.string C),(16,zI i6)]) (fun b=>[cells _h [_f.v,.map (some (bi _a)),_c.v,_d.v] 39,bH _f.v o1.Units,dQ (bi _a) o1.Fors,bH _c.v o1.Skips,bH _d.v o1.Lines,cells b1 [zI 0,zI 0] 26,bH l.v a,bH M.v g]) (fun cut=>?_) ?_))
    ·refine cut (zat (zyG (zyR 2 rfl (zbk h fun f9 bk h=>eJ (k:=6) bk aK gV rfl dc rfl rfl rfl rfl (fw (i:=(i6:Int).toNat) (j:=0) (k:=6) (q:=f9) dU gK rfl dc rfl rfl (ei bk) rfl dc rfl (zaT rfl zdp (zyR 1 rfl (zyS (s:=220) rfl h (fun h=>?_) (fun h=>?_)))))))))
     ·refine zyR 3 rfl (zbk h fun d2 bh h=>eJ (k:=7) bh aK gV rfl dc rfl rfl rfl rfl (fw (i:=(i6:Int).toNat) (j:=0) (k:=7) (q:=d2) dU gK rfl dc rfl rfl (ei bh) rfl dc rfl (zbk h fun r5 em h=>lg (v:=zI r5) (vs:=[zP _h,.string d2]) I rfl dc rfl rfl rfl ye (zQ (_h:=_h) (o1:=o1) (_f:=_f) (_a:=_a) (_c:=_c) (_d:=_d) em) (.own (cp 1) (fun _ _ h=>aF.1 h) (.own (bW [1] kr rfl) (fun _ _ h=>aF.1 h) (.own (bW [2] kr rfl) (fun _ _ h=>aF.1 h) (.own (bW [3] kr rfl) (fun _ _ h=>aF.1 h) (.own (bW [4] kr rfl) (fun _ _ h=>aF.1 h) .nil))))) (zaT rfl zbd (zyR 1 rfl (zyN (zyB rfl h (fun h=>?_) (fun h=>?_))))))))
      ·refine zyG (zyR 2 rfl (zbk h fun a0 bb h=>fy p bb dE qt rfl dc rfl rfl rfl (zab sH rfl dc rfl (show _=(z+(i6:Int).toNat)*2 from rfl) (jG (n:=z+(i6:Int).toNat) (j:=0) (i:=0) (q:=a0) I rfl (by omega) dO rfl dc rfl (ce p bb) rfl rfl (zbf (v:=.agg #[zI 223,zI a0.at_]) (ps:=[(0,.const (zI 223)),(1,.tmp 233)]) rfl dc rfl (fun _=>by kernel_rfl) (eE (k:=5) (vs:=[zI 223,zI a0.at_]) (l':=[zI 223,zI a0.at_]) kC rfl rfl rfl rfl rfl (show _≤_ by simp) rfl rfl (zyN (zaA (cx (bP (bP (cx (bP ?_)))))))))))))
       cases h
       exact eu (rs:=[.cell 4 26]) (_f,_a,_c,_d) (.inl rfl) gv (.cons (.cells kW (k:=5) rfl rfl rfl) .nil) rfl (cp 5)
      exact zap (cd (mD () h 8))
     exact zyR 8 rfl (zyN (za8 rfl (zap (cd (mD () h 8)))))
    rintro _ h
    rw[eL] at h
    refine bX (zyR 1 rfl (zbs h fun e8 h=>zaT rfl (dA (r:=i6+1) (ai _ e8)) (zyR 1 rfl (zaB ?_))))
    subst df
    exact aD (n5,i6+1) h 8
   exact dy (bV (bV (dz (mD () h 8))))
 rintro _ h
 rw[eM] at h
 refine zbq h fun ge ez h=>zaL (β:=(List ad)×(List (ad×List ad))×Hd) 0 rfl (fun b=>ge b.1 b.2.1=some r) (fun b=>[]) (fun b=>[(0,zP _h),(4,zP b1),(9,.string C)]) (fun b=>[cells _h [b.2.2.v,.map (some (bi _a)),_c.v,_d.v] 39,bH b.2.2.v b.1,dQ (bi _a) b.2.1,bH _c.v o1.Skips,bH _d.v o1.Lines,cells b1 [zI 0,zI 0] 26]) (fun cut=>?_) ?_
 ·refine cut (zyG (zyR 1 rfl (zbk h fun f8 a9 h=>eJ (k:=6) a9 aK gV rfl dc rfl rfl rfl rfl (fw (i:=(0:Int).toNat) (j:=0) (k:=6) (q:=f8) dU gK rfl dc rfl rfl (ei a9) rfl dc rfl (zaT rfl zdp (zyN (zyB rfl h (fun h=>?_) (fun h=>?_))))))))
  ·refine zbk h fun W a8 h=>zbs h fun e7 h=>Ao (k:=7) rfl (fun gs=>?_)
   obtain⟨v6,d6,gB⟩:=oI (lo:=some (zI 2)) (hi:=none) gs aK gV (.inr rfl) (.inl ⟨rfl,rfl⟩) e7
   refine zcI 9 [(0,239,zP _h),(1,240,zP _h),(2,241,.pointer (some ⟨_h,1,none⟩)),(3,242,.map (some (bi _a))),(4,243,M.v),(5,244,.pointer (some ⟨eO M.v,(1:Int).toNat*1,none⟩)),(6,245,.string W),(7,246,M.v),(8,247,v6)] mixed kr kr dc (by rfl) kr kr (zyP 1 0 rfl (zac (fun D n d c u i=>zbc rfl dc (bt 0 u d) (zaN 1 u i)) (zac (fun D n d c u i=>zab zuk rfl dc (bt 1 u d) (show _=1 from rfl) (zaN 2 u i)) (zac (fun D n d c u i=>zas (k:=0) vY rfl dc (bt 2 u d) rfl rfl (zaN 3 u i)) (zyP 1 4 rfl (zac (fun D n d c u i=>eJ (k:=7) a8 aK gV rfl dc (bt 4 u d) rfl rfl rfl (zaN 5 u i)) (zac (fun D n d c u i=>fw (i:=(1:Int).toNat) (j:=0) (k:=7) (q:=W) dU gK rfl dc (bt 5 u d) rfl (ei a8) rfl dc rfl (zaN 6 u i)) (zyP 1 7 rfl (zac (fun D n d c u i=>iA rfl dc (bt 7 u d) (evO.some rfl) xK gB (zaN 8 u i)) bQ))))))))) ?_
   obtain⟨V,fk⟩:=Vw.head d6
   have gF:=h
   subst fk
   have h:=gF
   exact sC (As:=[dQ (bi _a) o1.Fors]) (bW [2] kr rfl) G7 (fun f0 ft=>vW (k:=8) (ek:=(fun s:ad=>af s)) (ev':=pK) (kk:=W) (vv:=(dK g 2 (g.length:Int),V)) (mT an) underlying37 rfl rfl rfl rfl rfl (qp (k:=7) rfl (Ip gK d6) (sC (As:=[pM (bi _a) (iq W (dK g 2 (g.length:Int),V) f0),pr f0,mo hO 1 V (dK g 2 (g.length:Int))]) (bW [8,9,7] kr rfl) (G9 W (dK g 2 (g.length:Int)) V ft) (fun _ _=>zaB (cL (o1.Units,iq W (dK g 2 (g.length:Int)) o1.Fors,_f) h rfl (bI rfl) (bW [0,1,10,3,4,5] kr rfl))))))
  refine zyG (zyR 2 rfl (zbk h fun d1 a7 h=>eJ (k:=7) a7 aK gV rfl dc rfl rfl rfl rfl (fw (i:=(3:Int).toNat) (j:=0) (k:=7) (q:=d1) dU gK rfl dc rfl rfl (ei a7) rfl dc rfl (zbk h fun Y ec h=>lg (v:=zI Y) (vs:=[zP _h,.string d1]) I rfl dc rfl rfl rfl ye (zQ (_h:=_h) (o1:=o1) (_f:=_f) (_a:=_a) (_c:=_c) (_d:=_d) ec) (.own (cp 1) (fun _ _ h=>aF.1 h) (.own (bW [1] kr rfl) (fun _ _ h=>aF.1 h) (.own (bW [2] kr rfl) (fun _ _ h=>aF.1 h) (.own (bW [3] kr rfl) (fun _ _ h=>aF.1 h) (.own (bW [4] kr rfl) (fun _ _ h=>aF.1 h) .nil))))) (zbs h fun e6 h=>zaT rfl (dA (r:=Y+1) (ai _ e6)) (zyR 1 rfl (zyN (zbs h fun e5 h=>zbs h fun e4 h=>zbk h fun R a6 h=>zbs h fun e3 h=>zbs h fun e2 h=>zbs h fun e1 h=>Ao (k:=1) rfl (fun gr=>?_)))))))))
  obtain⟨v7,gx,gz⟩:=oI (lo:=none) (hi:=some (zI (Y+1))) gr aK gV (.inl ⟨rfl,rfl⟩) (.inr rfl) e5
  refine Ao (k:=1) rfl (fun go=>?_)
  obtain⟨f7,gt,gy⟩:=oI (lo:=some (zI (Y+1))) (hi:=none) go aK gV (.inr rfl) (.inl ⟨rfl,rfl⟩) e2
  refine vO 2 (let ds:(Nat×Hd×Nat×Hd×Hd)→List (Nat×Nat×Value):=fun b=>[(0,254,zP _h),(1,255,.slice (some ⟨b.1,0,none⟩) 0 0),(2,256,zP _h),(3,257,zP _h),(4,258,zP _h),(5,259,_f.v),(6,260,zI (Y+1)),(7,261,v7),(8,262,b.2.1.v),(9,263,M.v),(10,264,.pointer (some ⟨eO M.v,(1:Int).toNat*1,none⟩)),(11,265,.string R),(12,266,.slice (some ⟨b.2.2.1,0,none⟩) 1 1),(13,267,b.2.2.2.1.v),(14,268,zP _h),(15,269,zP _h),(16,270,zP _h),(17,271,_f.v),(18,272,zI (Y+1)),(19,273,f7),(20,274,b.2.2.2.2.v)];let f1:(Nat→Prop)→(Nat×Hd×Nat×Hd×Hd)→List Asn:=fun D b=>[cells _h [_f.v,.map (some (bi _a)),_c.v,_d.v] 39,bH _f.v o1.Units,dQ (bi _a) o1.Fors,bH _c.v o1.Skips,bH _d.v o1.Lines,cells b1 [zI 0,zI 0] 26,bH l.v a,bH M.v g,eD D cE [(20,bH b.2.2.2.2.v (((([]:List ad)++(dK o1.Units 0 (Y+1)))++[R])++(dK o1.Units (Y+1) (o1.Units.length:Int)))),(13,bH b.2.2.2.1.v ((([]:List ad)++(dK o1.Units 0 (Y+1)))++[R])),(8,bH b.2.1.v (([]:List ad)++(dK o1.Units 0 (Y+1)))),(1,cells b.1 [] 9)],eD D cE [(12,cells b.2.2.1 [.string R] 9)]];?_)
  have H:tT [1,8,12,13,20] f1:=fun i h D b=>ca rfl (ca rfl (ca rfl (ca rfl (ca rfl (ca rfl (ca rfl (ca rfl (ca (rb rfl h) (ca (rb rfl h) rfl)))))))))
  refine vN (β:=Nat×Hd×Nat×Hd×Hd) 21 ((0:Nat),eB,(0:Nat),eB,eB) ds f1 mixed kr kr dc (fun _=>rfl) (ob (ca o8 (ca o8 rfl))) (pS H (fun _=>rfl) (fun _=>rfl) 1 0 (fun _=>rfl) rfl (lN ?_ (pS H (fun _=>rfl) (fun _=>rfl) 1 2 (fun _=>rfl) rfl (re H rfl (fun _=>rfl) (fun _=>rfl) (fun D ⟨B,w,A,t,o⟩ n d c u i=>zbc rfl dc (bt 2 u d) (zaN 3 u i)) (re H rfl (fun _=>rfl) (fun _=>rfl) (fun D ⟨B,w,A,t,o⟩ n d c u i=>zab vZ rfl dc (bt 3 u d) (show _=0 from rfl) (zaN 4 u i)) (lQ H rfl (fun _=>rfl) (fun _=>rfl) (fun D ⟨B,w,A,t,o⟩ n d c u i=>⟨_,(ob (ca (dL (fun x=>n (c 7 _ rfl (c 8 _ rfl (c 13 _ rfl (c 20 _ rfl x 13 dc) 8 dc) 7 dc) 5 dc)) (dL (fun x=>n (c 7 _ rfl (c 8 _ rfl (c 13 _ rfl x 8 dc) 7 dc) 5 dc)) (dL (fun x=>n (c 7 _ rfl (c 8 _ rfl x 7 dc) 5 dc)) rfl))) rfl)),zas (k:=0) oq rfl dc (bt 4 u d) rfl rfl (zaN 5 u i)⟩) (pS H (fun _=>rfl) (fun _=>rfl) 1 6 (fun _=>rfl) rfl (lQ H rfl (fun _=>rfl) (fun _=>rfl) (fun D ⟨B,w,A,t,o⟩ n d c u i=>⟨_,(ob (ca (dL (fun x=>n (c 8 _ rfl (c 13 _ rfl (c 20 _ rfl x 13 dc) 8 dc) 7 dc)) (dL (fun x=>n (c 8 _ rfl (c 13 _ rfl x 8 dc) 7 dc)) (dL (fun x=>n (c 8 _ rfl x 7 dc)) rfl))) rfl)),iA rfl dc (bt 5 u d) xK (evO.some (bt 6 u d)) gz (zaN 7 u i)⟩) (lN ?_ (pS H (fun _=>rfl) (fun _=>rfl) 1 9 (fun _=>rfl) rfl (lQ H rfl (fun _=>rfl) (fun _=>rfl) (fun D ⟨B,w,A,t,o⟩ n d c u i=>⟨_,(ob (ca (dL (fun x=>n (c 11 _ rfl (c 12 _ rfl (c 13 _ rfl (c 20 _ rfl x 13 dc) 12 dc) 11 dc) 10 dc)) (dL (fun x=>n (c 11 _ rfl (c 12 _ rfl (c 13 _ rfl x 12 dc) 11 dc) 10 dc)) rfl)) (ca (dL (fun x=>n (c 11 _ rfl (c 12 _ rfl x 11 dc) 10 dc)) fp) rfl))),eJ (k:=7) a6 aK gV rfl dc (bt 9 u d) rfl rfl rfl (zaN 10 u i)⟩) (lQ H rfl (fun _=>rfl) (fun _=>rfl) (fun D ⟨B,w,A,t,o⟩ n d c u i=>⟨_,(ob (ca (dL (fun x=>n (c 12 _ rfl (c 13 _ rfl (c 20 _ rfl x 13 dc) 12 dc) 11 dc)) (dL (fun x=>n (c 12 _ rfl (c 13 _ rfl x 12 dc) 11 dc)) rfl)) (ca (dL (fun x=>n (c 12 _ rfl x 11 dc)) fp) rfl))),fw (i:=(1:Int).toNat) (j:=0) (k:=7) (q:=R) dU gK rfl dc (bt 10 u d) rfl (ei a6) rfl dc rfl (zaN 11 u i)⟩) (lN ?_ (lN ?_ (pS H (fun _=>rfl) (fun _=>rfl) 1 14 (fun _=>rfl) rfl (re H rfl (fun _=>rfl) (fun _=>rfl) (fun D ⟨B,w,A,t,o⟩ n d c u i=>zbc rfl dc (bt 14 u d) (zaN 15 u i)) (re H rfl (fun _=>rfl) (fun _=>rfl) (fun D ⟨B,w,A,t,o⟩ n d c u i=>zab vZ rfl dc (bt 15 u d) (show _=0 from rfl) (zaN 16 u i)) (lQ H rfl (fun _=>rfl) (fun _=>rfl) (fun D ⟨B,w,A,t,o⟩ n d c u i=>⟨_,(ob (ca (dL (fun x=>n (c 19 _ rfl (c 20 _ rfl x 19 dc) 17 dc)) rfl) rfl)),zas (k:=0) oq rfl dc (bt 16 u d) rfl rfl (zaN 17 u i)⟩) (pS H (fun _=>rfl) (fun _=>rfl) 1 18 (fun _=>rfl) rfl (lQ H rfl (fun _=>rfl) (fun _=>rfl) (fun D ⟨B,w,A,t,o⟩ n d c u i=>⟨_,(ob (ca (dL (fun x=>n (c 20 _ rfl x 19 dc)) rfl) rfl)),iA rfl dc (bt 17 u d) (evO.some (bt 18 u d)) xK gy (zaN 19 u i)⟩) (lN ?_ fr.nil))))))))))))))))))))) ?_
  ·intro D b J hd y
   obtain⟨f6,w,A,t,o⟩:=b
   exact kB (ob (ca (dL (fun x=>J (y 8 _ rfl (y 13 _ rfl (y 20 _ rfl x 13 dc) 8 dc) 1 dc)) (dL (fun x=>J (y 8 _ rfl (y 13 _ rfl x 8 dc) 1 dc)) (dL (fun x=>J (y 8 _ rfl x 1 dc)) (dL J fp)))) rfl)) (fx (cs:=[]) (te:=9) (ps:=[]) rfl dc evP.nil (fun _=>by kernel_rfl) (fun B=>pG 8 rfl rfl (l6 (b:=(f6,w,A,t,o)) (B,w,A,t,o) 1 (by rfl) (by rfl) rfl (dV (fun _=>rfl) (dV (fun x=>absurd x J) (DV (uO rfl)))) (ob (ca (dL (fun h=>h.elim (fun x=>J (y 8 _ rfl (y 13 _ rfl (y 20 _ rfl x 13 dc) 8 dc) 1 dc)) (fun h=>absurd h dc)) (dL (fun h=>h.elim (fun x=>J (y 8 _ rfl (y 13 _ rfl x 8 dc) 1 dc)) (fun h=>absurd h dc)) (dL (fun h=>h.elim (fun x=>J (y 8 _ rfl x 1 dc)) (fun h=>absurd h dc)) (iC (jq rfl) rfl)))) (ca (iG (by rfl)) rfl))))))
  ·intro D b J hd y
   obtain⟨B,f5,A,t,o⟩:=b
   refine kB (ob (ca (dL (fun x=>J (y 13 _ rfl (y 20 _ rfl x 13 dc) 8 dc)) (dL (fun x=>J (y 13 _ rfl x 8 dc)) (dL J (iC (hd 1 dc) rfl)))) rfl)) (nE ([]:List ad) (k:=8) rfl gK rfl (show 0≤maxLen by decide) (CW (k:=8) (k2:=1) aK oM gK o6 gx rfl dc (jX (m:=1) rfl rfl (hd 1 dc)) (jX (m:=7) rfl rfl (hd 7 dc)) rfl rfl e4 (fun v8=>iB (k:=8) rfl (fun w hm=>?_))))
   subst hm
   exact l6 (b:=(B,f5,A,t,o)) (B,w,A,t,o) 8 (by rfl) (by rfl) rfl (DW (dV (fun x=>absurd x J) (uO rfl))) (ob (ca (dL (fun h=>h.elim (fun x=>J (y 13 _ rfl (y 20 _ rfl x 13 dc) 8 dc)) (fun h=>absurd h dc)) (dL (fun h=>h.elim (fun x=>J (y 13 _ rfl x 8 dc)) (fun h=>absurd h dc)) (iC (jq rfl) rfl))) (ca (iG (by rfl)) rfl)))
  ·intro D b J hd y
   obtain⟨B,w,f4,t,o⟩:=b
   exact kB (ob (ca (dL (fun x=>J (y 13 _ rfl (y 20 _ rfl x 13 dc) 12 dc)) (dL (fun x=>J (y 13 _ rfl x 12 dc)) rfl)) (ca (dL J fp) rfl))) (fx (cs:=[.string R]) (te:=9) (ps:=[(0,.tmp 265)]) rfl dc (evP.cons (jX (m:=11) rfl rfl (hd 11 dc)) evP.nil) (fun _=>by kernel_rfl) (fun A=>pG 9 rfl rfl (l6 (b:=(B,w,f4,t,o)) (B,w,A,t,o) 12 (by rfl) (by rfl) rfl (uO (dV (fun x=>absurd x J) (DW rfl))) (ob (ca ((iG (by rfl)).trans (dL (fun x=>J (y 13 _ rfl (y 20 _ rfl x 13 dc) 12 dc)) (dL (fun x=>J (y 13 _ rfl x 12 dc)) rfl))) (ca (iC (jq rfl) rfl) rfl))))))
  ·intro D b J hd y
   obtain⟨B,w,A,f3,o⟩:=b
   refine kB (ob (ca (dL (fun x=>J (y 20 _ rfl x 13 dc)) (dL J (iC (hd 8 dc) rfl))) (ca (iC (hd 12 dc) rfl) rfl))) (iT (k:=8) (k2:=9) (ys:=[R]) aK oM gK o6 rfl dc (jX (m:=8) rfl rfl (hd 8 dc)) (jX (m:=12) rfl rfl (hd 12 dc)) rfl rfl rfl rfl e3 (fun v9=>iB (k:=8) rfl (fun t hl=>?_)))
   subst hl
   exact l6 (b:=(B,w,A,f3,o)) (B,w,A,t,o) 13 (by rfl) (by rfl) rfl (dV (fun _=>rfl) (uO (dV (fun x=>absurd x J) (DV rfl)))) (ob (ca (dL (fun h=>h.elim (fun x=>J (y 20 _ rfl x 13 dc)) (fun h=>absurd h dc)) (iC (jq rfl) rfl)) (ca ((iG (by rfl)).trans (iC (hd 12 dc) rfl)) rfl)))
  ·intro D b J hd y
   obtain⟨B,w,A,t,f2⟩:=b
   refine kB (ob (ca (dL J (iC (hd 13 dc) rfl)) (ca (iC (y 13 _ rfl (hd 13 dc) 12 dc) rfl) rfl))) (CW (k:=8) (k2:=1) aK oM gK o6 gt rfl dc (jX (m:=13) rfl rfl (hd 13 dc)) (jX (m:=19) rfl rfl (hd 19 dc)) rfl rfl e1 (fun hB=>iB (k:=8) rfl (fun o hk=>?_)))
   subst hk
   exact l6 (b:=(B,w,A,t,f2)) (B,w,A,t,o) 20 (by rfl) (by rfl) rfl (DW (uO (dV (fun x=>absurd x J) rfl))) (ob (ca (iC (jq rfl) rfl) (ca ((iG (by rfl)).trans (iC (y 13 _ rfl (hd 13 dc) 12 dc) rfl)) rfl)))
  intro D b hall
  obtain⟨B,w,A,t,o⟩:=b
  exact kB (ob (ca (iC (hall 20 dc) rfl) (ca (iC (hall 12 dc) rfl) rfl))) (zbc rfl dc rfl (zab vZ rfl dc rfl (show _=0 from rfl) (eP (k:=0) (l':=[o.v,.map (some (bi _a)),_c.v,_d.v]) sG rfl rfl rfl rfl rfl (fun _ _=>rfl) rfl (zaB (cL (((([]:List ad)++(dK o1.Units 0 (Y+1)))++[R])++(dK o1.Units (Y+1) (o1.Units.length:Int)),o1.Fors,o) h rfl (bI rfl) (bW [0,8,2,3,4,5] kr rfl))))))
 rintro⟨l2,m1,da⟩ h
 rw[ez] at h
 refine zyG (zyR 2 rfl (zbc rfl dc rfl (zab zpH rfl dc rfl (show _=3 from rfl) (zas (k:=0) oq rfl dc rfl rfl rfl (zyR 1 rfl (fx (cs:=[.string C]) (te:=9) (ps:=[(0,.tmp 282)]) rfl dc rfl (fun _=>by kernel_rfl) (fun hC=>zbs h fun e0 h=>iT (k:=4) (k2:=6) (ys:=[C]) aK oM gK o6 rfl dc rfl rfl rfl rfl rfl rfl e0 (fun hA=>iB (k:=4) rfl (fun c5 hj=>?_)))))))))
 subst hj
 refine zbc rfl dc rfl (zab zpH rfl dc rfl (show _=3 from rfl) (eP (k:=0) (l':=[da.v,.map (some (bi _a)),_c.v,c5.v]) sG rfl rfl rfl rfl rfl (fun _ _=>rfl) rfl (zyH (zbf (v:=.agg #[zI 0,zI 0]) (ps:=[]) rfl dc rfl (fun _=>by kernel_rfl) (eE (k:=5) (vs:=[zI 0,zI 0]) (l':=[zI 0,zI 0]) kC rfl rfl rfl rfl rfl (show _≤_ by simp) rfl rfl (zyN (zaA ?_)))))))
 cases h
 exact eu (rs:=[.cell 4 26]) (da,_a,_c,c5) (.inl rfl) gv (.cons (.cells kW (k:=5) rfl rfl rfl) .nil) rfl (cp 5)
def zfx (b:ad) (d:Int→Option ((Option dk)×zaw)) (c:Int→Option ((Option dk)×zaw)) (a:Int):Option ((Option dk)×zaw) := aN (decide ((a:Int)<(b.size:Int))) (aT (jQ b a) fun (c1:Int)=>aN ((c1:Int) != 10) (aV (cr (a+1)) <|c (a+1)) (d a)) (d a)
def zdD (a:ad) (q:(List ad)→(List (ad×List ad))→(List ad)→(List ad)→Option ((Option dk)×zaw)) (n:(List ad)→(List (ad×List ad))→(List ad)→(List ad)→Int→Option ((Option dk)×zaw)) (h:List ad) (g:List (ad×List ad)) (d:List ad) (c:List ad) (i:Int):Option ((Option dk)×zaw) := aN (decide ((i:Int)≤(a.size:Int))) (co (fun (p:Int→Option ((Option dk)×zaw))=>zaC (fun _=>none) (zfx a p) zbx i) (fun (b:Int)=>co (fun (o:(List ad)→(List (ad×List ad))→(List ad)→(List ad)→Option ((Option dk)×zaw))=>aT (zR a i b) fun (r2:(List gU))=>aN (decide ((1:Int)<(r2.length:Int))) (aT (zZ (⟨h,g,d,c⟩:dk) r2) fun (r3:(zaw×dk))=>aN ((r3.1.Err:Int) != 0) (some (none,r3.1)) (o r3.2.Units r3.2.Fors r3.2.Skips r3.2.Lines)) (o h g d c)) (fun (m:List ad) (l:List (ad×List ad)) (k:List ad) (j:List ad)=>aV (cr (b+1)) <|n m l k j (b+1)))) (q h g d c)
def vy (a:ad):Option ((Option dk)×zaw) := aN (decide ((65536:Int)<(a.size:Int))) (some (none,(⟨3,65536⟩:zaw))) (co (fun (g:(List ad)→(List (ad×List ad))→(List ad)→(List ad)→Option ((Option dk)×zaw))=>aT (xw) fun (r1:dk)=>zaC (fun _ _ _ _ _=>none) (zdD a g) zbx r1.Units r1.Fors r1.Skips r1.Lines 0) (fun (o1:List ad) (d:List (ad×List ad)) (c:List ad) (b:List ad)=>some ((some (⟨o1,d,c,b⟩:dk)),(⟨0,0⟩:zaw))))
theorem LY {a:ad} {r:((Option dk)×zaw)} (h:vy a=some r):Fn prog 8 [.string a] [] (fun v0:Value=>.tuple #[v0,.agg (kN r.2).toArray]) (fun v0=>[jY qv qw 39 v0 r.1]):=by
 unfold vy at h
 refine Fn.intro func8 rfl ntmps8 (by simp) (fun w0 K=>zyG (zyR 1 rfl (zbi zq8 rfl dc (fun b1=>zyN (zaJ (zyG (zyR 1 rfl (zcG rfl dc rfl an (zaT rfl zd4 (zyN (zyB rfl h (fun h=>?_) (fun h=>?_))))))))))))
 ·refine zyG (zbf (v:=.agg #[zI 3,zI 65536]) (ps:=[(0,.const (zI 3)),(1,.const (zI 65536))]) rfl dc rfl (fun _=>by kernel_rfl) (zyR 1 rfl (eE (k:=0) (vs:=[zI 3,zI 65536]) (l':=[zI 3,zI 65536]) kC rfl rfl rfl rfl rfl (show _≤_ by simp) rfl rfl (zyN (zaA (bP (Az qv qw 39 ?_)))))))
  cases h
  exact eu (rs:=[.tmp 2,.cell 3 26]) (.pointer none) (.inl rfl) results8 (.cons (.tmp rfl) (.cons (.cells kW (k:=0) rfl rfl rfl) .nil)) rfl (bW [1] kr rfl)
 refine zap (zaz (zbq h fun Z a9 h=>zaL (β:=(List ad)×(List (ad×List ad))×(List ad)×(List ad)×Nat×Hd×Nat×Hd×Hd) 1 rfl (fun b=>Z b.1 b.2.1 b.2.2.1 b.2.2.2.1=some r) (fun b=>[]) (fun b=>[(3,zP b1),(4,zP b.2.2.2.2.1)]) (fun b=>[cells b1 [zI 0,zI 0] 26,cells b.2.2.2.2.1 [b.2.2.2.2.2.1.v,.map (some b.2.2.2.2.2.2.1),b.2.2.2.2.2.2.2.1.v,b.2.2.2.2.2.2.2.2.v] 39,bH b.2.2.2.2.2.1.v b.1,dQ b.2.2.2.2.2.2.1 b.2.1,bH b.2.2.2.2.2.2.2.1.v b.2.2.1,bH b.2.2.2.2.2.2.2.2.v b.2.2.2.1]) (fun cut=>?_) ?_))
 ·refine zyG (zbk h fun r1 a6 h=>zbN (vs:=[]) rfl dc rfl rfl rfl NV (Uz a6) ah ?_)
  rintro⟨z,O,N,M,J⟩
  refine mn (L':=[cells b1 [zI 0,zI 0] 26,cells z [O.v,.map (some (bi N)),M.v,J.v] 39,bH O.v r1.Units,dQ (bi N) r1.Fors,bH M.v r1.Skips,bH J.v r1.Lines]) (cp 6) (zyR 1 rfl (zyN (cut (zyG (zyR 1 rfl (zyN (zat (eF (β:=Nat×(List ad)×(List (ad×List ad))×(List ad)×(List ad)×Int×Hd×Nat×Hd×Hd) (fun b=>zaC (fun _ _ _ _ _=>none) (zdD a Z) b.1 b.2.1 b.2.2.1 b.2.2.2.1 b.2.2.2.2.1 b.2.2.2.2.2.1=some r) (fun b=>[]) (fun b=>[(0,.string a),(3,zP b1),(4,zP z),(5,zI b.2.2.2.2.2.1)]) (fun b=>[cells b1 [zI 0,zI 0] 26,cells z [b.2.2.2.2.2.2.1.v,.map (some b.2.2.2.2.2.2.2.1),b.2.2.2.2.2.2.2.2.1.v,b.2.2.2.2.2.2.2.2.2.v] 39,bH b.2.2.2.2.2.2.1.v b.2.1,dQ b.2.2.2.2.2.2.2.1 b.2.2.1,bH b.2.2.2.2.2.2.2.2.1.v b.2.2.2.1,bH b.2.2.2.2.2.2.2.2.2.v b.2.2.2.2.1]) (fun b=>b.1) (zbx,r1.Units,r1.Fors,r1.Skips,r1.Lines,0,O,(bi N),M,J) h rfl (bI rfl) (cp 6) ?_))))))))
  rintro⟨X,y,w,q,p,G,l,S,j,g⟩ h
  cases X with
  |zero=>exact ew h
  |succ X=>
   obtain⟨b0,I⟩:∃ag,ag=zaC (fun _ _ _ _ _=>none) (zdD a Z) X:=⟨_,rfl⟩
   have h:zdD a Z b0 y w q p G=some r:=by rw[I];exact h
   unfold zdD at h
   refine zaJ (zyG (zyR 2 rfl (zcG rfl dc rfl an (zaT rfl io (zyN (zyB rfl h (fun h=>?_) (fun h=>?_)))))))
   ·refine zap (zaz (zat (zbq h fun Y a8 h=>zaL (β:=Int) 1 rfl (fun b=>Y b=some r) (fun b=>[]) (fun b=>[(0,.string a),(3,zP b1),(4,zP z),(5,zI G),(6,zI b)]) (fun b=>[cells b1 [zI 0,zI 0] 26,cells z [l.v,.map (some S),j.v,g.v] 39,bH l.v y,dQ S w,bH j.v q,bH g.v p]) (fun cut=>?_) ?_)))
    ·refine zyG (zyR 2 rfl (zyN (cut (zat (eF (β:=Nat×Int) (fun b=>zaC (fun _=>none) (zfx a Y) b.1 b.2=some r) (fun b=>[]) (fun b=>[(0,.string a),(3,zP b1),(4,zP z),(5,zI G),(6,zI b.2)]) (fun b=>[cells b1 [zI 0,zI 0] 26,cells z [l.v,.map (some S),j.v,g.v] 39,bH l.v y,dQ S w,bH j.v q,bH g.v p]) (fun b=>b.1) (zbx,G) h rfl (bI rfl) (cp 6) ?_)))))
     rintro⟨W,m⟩ h
     cases W with
     |zero=>exact ew h
     |succ W=>
      obtain⟨bs,H⟩:∃ag,ag=zaC (fun _=>none) (zfx a Y) W:=⟨_,rfl⟩
      have h:zfx a Y bs m=some r:=by rw[H];exact h
      unfold zfx at h
      refine zaJ (zyG (zyR 2 rfl (zcG rfl dc rfl an (zaT rfl zbd (zyR 1 rfl (zyS (s:=23) rfl h (fun h=>?_) (fun h=>?_)))))))
      ·refine zyR 2 rfl (zbk h fun c1 a5 h=>nj rfl dc rfl rfl (pq an a5) (zaT rfl zed (zyR 1 rfl (zyN (zyB rfl h (fun h=>?_) (fun h=>?_))))))
       ·refine zap (zaz (zat (bX (zyR 1 rfl (zbs h fun bh h=>zaT rfl (dA (r:=m+1) (ai _ bh)) (zyR 1 rfl (zaB (cd ?_))))))))
        subst H
        exact aD (W,m+1) h 6
       exact dy (bV (bV (dz (mD m h 6))))
      exact zyR 5 rfl (zyN (za8 rfl (dy (bV (bV (dz (mD m h 6)))))))
    rintro o h
    rw[a8] at h
    refine zbq h fun j3 a7 h=>zaL (β:=(List ad)×(List (ad×List ad))×(List ad)×(List ad)×Hd×Nat×Hd×Hd) 0 rfl (fun b=>j3 b.1 b.2.1 b.2.2.1 b.2.2.2.1=some r) (fun b=>[]) (fun b=>[(0,.string a),(3,zP b1),(4,zP z),(6,zI o)]) (fun b=>[cells b1 [zI 0,zI 0] 26,cells z [b.2.2.2.2.1.v,.map (some b.2.2.2.2.2.1),b.2.2.2.2.2.2.1.v,b.2.2.2.2.2.2.2.v] 39,bH b.2.2.2.2.1.v b.1,dQ b.2.2.2.2.2.1 b.2.1,bH b.2.2.2.2.2.2.1.v b.2.2.1,bH b.2.2.2.2.2.2.2.v b.2.2.2.1]) (fun cut=>?_) ?_
    ·refine cut (zyG (zyR 3 rfl (zbk h fun r2 a4 h=>zbN (vs:=[.string a,zI G,zI o]) rfl dc rfl rfl rfl NW (UA a4) ah (fun v1=>iB (k:=6) rfl (fun F bk=>?_)))))
     subst bk
     refine zyR 1 rfl (zyH (zyR 1 rfl (gZ (k:=6) rfl dc rfl rfl dE (zaT rfl zd4 (zyN (zyB rfl h (fun h=>?_) (fun h=>?_)))))))
     ·refine zyG (zyR 2 rfl (kU (k:=6) rfl (fun a2=>zbk h fun r3 a3 h=>pI (vs:=[zP z,F.v]) (lW:Rd _ _ []) rfl dc rfl rfl rfl NX (VD (_h:=z) (o1:=(⟨y,w,q,p⟩:dk)) (_f:=l) (_a:=(⟨some ⟨S,0,none⟩,0,0⟩:Hd)) (_c:=j) (_d:=g) a2 a3) (bW [1,2,3,4,5] kr rfl) (.own (As:=[uP F.v r2]) (bW [6] kr rfl) (fun _ _ h=>oK DD (aF.1 h)) .nil) ?_)))
      rintro⟨E,C,B,A⟩
      refine mn (L':=[cells b1 [zI 0,zI 0] 26,cells z [E.v,.map (some (bi C)),B.v,A.v] 39,bH E.v r3.2.Units,dQ (bi C) r3.2.Fors,bH B.v r3.2.Skips,bH A.v r3.2.Lines,uP F.v r2]) (bW [0,7,8,9,10,11,6] kr rfl) (zbi zq8 rfl dc (fun b9=>eE (k:=7) (vs:=(kN r3.1)) (l':=(kN r3.1)) kC rfl rfl rfl rfl rfl (show _≤_ by simp) rfl rfl (zyH (zab Da rfl dc rfl (show _=0 from rfl) (zas (k:=7) C9 rfl dc rfl rfl rfl (zaT rfl zed (zyN (zyB rfl h (fun h=>?_) (fun h=>?_)))))))))
      ·refine zaJ (zcI 2 [(0,44,.agg (kN r3.1).toArray),(1,2,.pointer none)] mixed kr kr dc (by rfl) kr kr (zac (fun D n d c u i=>zbR (k:=7) (cs:=(kN r3.1)) kW rfl dc (zbA (by rfl) rfl) rfl rfl rfl (zaN 0 u i)) (zac (fun D n d c u i=>zyR 1 rfl (zaN 1 u i)) bQ)) (eE (k:=0) (vs:=(kN r3.1)) (l':=(kN r3.1)) kC rfl rfl rfl rfl rfl (show _≤_ by simp) rfl rfl (zyN (zaA (bP (cx (bP (cx (bP (Az qv qw 39 ?_))))))))))
       cases h
       exact eu (rs:=[.tmp 2,.cell 3 26]) (.pointer none) (.inl rfl) results8 (.cons (.tmp rfl) (.cons (.cells kW (k:=0) rfl rfl rfl) .nil)) rfl (bW [8] kr rfl)
      exact zap (mD (r3.2.Units,r3.2.Fors,r3.2.Skips,r3.2.Lines,E,(bi C),B,A) h 6)
     exact zap (mD (y,w,q,p,l,S,j,g) h 6)
    rintro⟨a1,a0,aw,ao,V,b8,U,T⟩ h
    rw[a7] at h
    refine bX (zyR 1 rfl (zbs h fun bb h=>zaT rfl (dA (r:=o+1) (ai _ bb)) (zyR 1 rfl (zaB (cd ?_)))))
    subst I
    exact aD (X,a1,a0,aw,ao,o+1,V,b8,U,T) h 6
   exact dy (bV (bV (dz (mD (y,w,q,p,z,l,S,j,g) h 6))))
 rintro⟨o1,o2,o3,o4,b2,R,b3,Q,P⟩ h
 rw[a9] at h
 refine zyG (zyR 1 rfl (zbf (v:=.agg #[zI 0,zI 0]) (ps:=[]) rfl dc rfl (fun _=>by kernel_rfl) (zyR 1 rfl (eE (k:=0) (vs:=[zI 0,zI 0]) (l':=[zI 0,zI 0]) kC rfl rfl rfl rfl rfl (show _≤_ by simp) rfl rfl (zyN (zaA (GF (As:=[cells b2 [R.v,.map (some b3),Q.v,P.v] 39,bH R.v o1,dQ b3 o2,bH Q.v o3,bH P.v o4]) (bW [1,2,3,4,5] kr rfl) (G0 (enc:=qv) (nest:=qw) (t:=39) (x:=(⟨o1,o2,o3,o4⟩:dk)) (b:=b2) (hd:=(R,(⟨some ⟨b3,0,none⟩,0,0⟩:Hd),Q,P))) (fun _ _=>?_))))))))
 cases h
 exact eu (rs:=[.tmp 2,.cell 3 26]) (zP b2) (.inl rfl) results8 (.cons (.tmp rfl) (.cons (.cells kW (k:=0) rfl rfl rfl) .nil)) rfl (bW [6] kr rfl)
theorem VE:(match xw with | some o=>decide (o.Units=us0)&&o.Fors.isEmpty&&o.Skips.isEmpty&&o.Lines.isEmpty | none=>false)=true:=by decide +kernel
theorem VF:xw=some (⟨us0,[],[],[]⟩:dk):=by
 have h:=VE
 cases hb:xw with
 |none=>rw[hb] at h;cases h
 |some o=>
  rw[hb] at h
  simp only[Bool.and_eq_true,decide_eq_true_eq,List.isEmpty_iff] at h
  obtain⟨⟨⟨h1,h2⟩,h3⟩,a⟩:=h
  obtain⟨u,f,s,l⟩:=o
  simp only at h1 h2 h3 a
  subst h1;subst h2;subst h3;subst a
  rfl
structure lr (o:cw) (w:dk):Prop where
 un:w.Units=o.units
 fo:w.Fors=o.fors
 li:w.Lines=o.lines
 sk:∀f,(zbP f o.skips).getD false=w.Skips.any fun s=>decide (s=f)
 sl:w.Skips.length≤w.Lines.length
theorem lr.rel {o:cw} {w:dk} (h:lr o w) (hi:fI o):sf o w:=⟨h.un,h.fo,h.li,h.sk,by have h1:=h.sl;have h2:=hi.ll;rw[h.li] at h1;omega⟩
theorem VG:lr sa (⟨us0,[],[],[]⟩:dk):=⟨rfl,rfl,rfl,fun f=>rfl,bq _⟩
abbrev Wr:=gU
def rW (w:Wd):Wr:=⟨w.at_,w.text⟩
def lU (a:List Wd) (e:Int):List Wr:=a.map rW++[⟨e,zfS⟩]
theorem z1 (a:List Wd) (e:Int):(lU a e).length=a.length+1:=by unfold lU;rw[aa,az];rfl
theorem tj {a:List Wd} {e:Int} {k:Nat} {w:Wd} (h:a[k]?=some w):(lU a e)[k]?=some (rW w):=by
 have hk:=(au.1 h).1
 unfold lU
 rw[eK (by rw[az];exact hk),bU,h];rfl
theorem VH (a:List Wd) (e:Int):(lU a e)[a.length]?=some (⟨e,zfS⟩:Wr):=by
 unfold lU
 rw[fX (by rw[az];exact bq _),az,oC];rfl
theorem VI {run a:List UInt8} (b:run≠[]) (h:∀c∈run,c≠32) (hr:a=[]∨∃l,a=32::l) (i:Nat):gP (run++a) i none=(i,run)::gP a (i+run.length) none:=by
 rw[Uu b h]
 rcases hr with rfl|⟨l,rfl⟩
 ·rfl
 ·rw[zH,zH];rfl
section
variable {text:ad} {L:List UInt8} {f e:Nat}
theorem LZ (hL:(text.data.toList.drop f).take (e-f)=L) {k:Nat} {c:UInt8} (h:L[k]?=some c):jQ text ((f:Int)+(k:Int))=some (c.toNat:Int)∧f+k<e:=by
 have hk:=(au.1 h).1
 rw[←hL] at h hk
 rw[bD] at hk
 rw[List.getElem?_take_of_lt (by omega),List.getElem?_drop] at h
 have:=zJ h
 push_cast at this
 exact⟨this,by omega⟩
theorem VJ (hL:(text.data.toList.drop f).take (e-f)=L) (l:f≤e) (he:e≤text.size) (o:text.size≤1000000000) (J:Int→Option (List Wr)) :
  ∀ (n:Nat) (B A:List UInt8),L=A++B→B.length<n→zaC (fun _=>none) (ze7 text (e:Int) J) n ((f:Int)+(A.length:Int))=J ((f:Int)+((A.length+(B.takeWhile fun c=>c != 32).length:Nat):Int)):=by
 have m:L.length=e-f:=by
  rw[←hL,bD,aS,←gJ];omega
 intro n
 induction n with
 |zero=>intro B A _ h;omega
 |succ n i=>
  intro B A b j
  rw[gk]
  generalize g:zaC (fun _=>none) (ze7 text (e:Int) J) n=ag
  unfold ze7
  have a:L.length=A.length+B.length:=by rw[b,aa]
  cases B with
  |nil=>
   rw[aL] at a
   exact fC rfl
  |cons c B=>
   rw[ab] at a j
   obtain⟨g1,g2⟩:=LZ hL (k:=A.length) (c:=c) (by rw[b];simp)
   refine eR (aY g1 ?_)
   rw[aW]
   by_cases hc:c=32
   ·subst hc
    exact bM rfl rfl
   ·have h1:(((c.toNat:Int):Int) != 32)=true:=cQ.2 fun h=>hc (dZ.1 (by show c.toNat=32;omega))
    have h2:(c != 32)=true:=cQ.2 hc
    rw[h2,am rfl]
    have d:=i B (A++[c]) (by rw[b,aA];rfl) (by omega)
    rw[g,show (A++[c]).length=A.length+1 by simp] at d
    push_cast at d
    refine bS h1 (gO ?_)
    rw[show (f:Int)+(A.length:Int)+1=(f:Int)+((A.length:Int)+1) by omega,d,ab]
    congr 1
    push_cast;omega
theorem VK (hL:(text.data.toList.drop f).take (e-f)=L) (s:f≤e) (he:e≤text.size) (v:text.size≤1000000000) (J:List Wr→Option (List Wr)) :
  ∀ (n:Nat) (B A:List UInt8) (E:List Wr),L=A++B→B.length<n→E.length+B.length≤1000000000 →
   zaC (fun _ _=>none) (ze8 text (e:Int) J) n E ((f:Int)+(A.length:Int))=J (E++((gP B A.length none).map (jM (f:Int))).map rW):=by
 have z:L.length=e-f:=by
  rw[←hL,bD,aS,←gJ];omega
 intro n
 induction n with
 |zero=>intro B A E _ h;omega
 |succ n t=>
  intro B A E b x C
  rw[gk]
  generalize r:zaC (fun _ _=>none) (ze8 text (e:Int) J) n=ag
  unfold ze8
  have i:L.length=A.length+B.length:=by rw[b,aa]
  cases B with
  |nil=>
   rw[aL] at i
   refine fC ?_
   show J E=J (E++[])
   rw[aH]
  |cons c B=>
   rw[ab] at i x C
   obtain⟨g1,g2⟩:=LZ hL (k:=A.length) (c:=c) (by rw[b];simp)
   refine eR (aY g1 ?_)
   by_cases hc:c=32
   ·subst hc
    have m:=t B (A++[32]) E (by rw[b,aA];rfl) (by omega) (by omega)
    rw[r,show (A++[(32:UInt8)]).length=A.length+1 by simp] at m
    push_cast at m
    refine bS rfl (gO ?_)
    rw[show (f:Int)+(A.length:Int)+1=(f:Int)+((A.length:Int)+1) by omega,m,zH]
    rfl
   ·have h1:(((c.toNat:Int):Int)==32)=false:=aC.2 fun h=>hc (dZ.1 (by show c.toNat=32;omega))
    have h2:(c != 32)=true:=cQ.2 hc
    refine bM h1 (cB ?_)
    refine (VJ hL s he v _ zbx (c::B) A b (by rw[ab];unfold zbx;omega)).trans ?_
    have a:c::B=(c::B).takeWhile (fun c=>c != 32)++(c::B).dropWhile fun c=>c != 32:=List.takeWhile_append_dropWhile.symm
    have j:(c::B).takeWhile (fun c=>c != 32)≠[]:=by rw[aW,h2,am rfl];simp
    have o:∀d∈(c::B).takeWhile (fun c=>c != 32),d≠32:=fun d hd=>cQ.1 (List.all_eq_true.1 (List.all_takeWhile (p:=fun c:UInt8=>c != 32) (l:=c::B)) d hd)
    have g:(c::B).dropWhile (fun c=>c != 32)=[]∨∃l,(c::B).dropWhile (fun c=>c != 32)=32::l:=by
     have:=kj (fun c:UInt8=>c != 32) (c::B)
     cases hd:(c::B).dropWhile (fun c=>c != 32) with
     |nil=>exact .inl rfl
     |cons d l=>
      rw[hd] at this
      have h3:(d != 32)=false:=by simpa using this
      exact .inr ⟨l,by rw[bne_eq_false_iff_eq.1 h3]⟩
    generalize (c::B).takeWhile (fun c=>c != 32)=run at a j o ⊢
    generalize (c::B).dropWhile (fun c=>c != 32)=rest at a g
    have w:=cV.2 j
    have y:B.length+1=run.length+rest.length:=by
     have:=aM gq a
     rw[ab,aa] at this;exact this
    have m:=t rest (A++run) (E++[(⟨(f:Int)+(A.length:Int),ba run⟩:Wr)]) (by rw[b,a,aA]) (by omega) (by rw[aa];show _+1+_≤_;omega)
    rw[r,aa] at m
    have q:cO text ((f:Int)+(A.length:Int)) ((f:Int)+((A.length+run.length:Nat):Int))=ba run:=by
     apply ow
     have:=s6 text (f+A.length) (f+(A.length+run.length))
     push_cast at this
     push_cast
     rw[this,oS,show f+(A.length+run.length)-(f+A.length)=run.length by omega]
     have u:L.drop A.length=run++rest:=by rw[b,ic,a]
     rw[←hL,List.drop_take,ff] at u
     have h5:=aM (List.take run.length) u
     rw[List.take_take,ko,Nat.min_eq_left (by omega)] at h5
     exact h5
    refine gO (gO ?_)
    rw[q,m,a,VI j o g]
    congr 1
    rw[aA];rfl
end
theorem VL (text:ad) (f e:Nat) (a:f≤e) (he:e≤text.size) (d:text.size≤1000000000) :
  zR text (f:Int) (e:Int)=some (lU ((gP ((text.data.toList.drop f).take (e-f)) 0 none).map (jM (f:Int))) (e:Int)):=by
 unfold zR
 refine cB ?_
 have g:((text.data.toList.drop f).take (e-f)).length=e-f:=by
  rw[bD,aS,←gJ];omega
 have:=VK (L:=(text.data.toList.drop f).take (e-f)) rfl a he d (fun (b:List Wr)=>
  aV (b.length+1≤2147483648)<|some (b++[(⟨(e:Int),(⟨#[]⟩:ad)⟩:Wr)])) zbx ((text.data.toList.drop f).take (e-f)) [] [] (bg _).symm (by unfold zbx;omega) (by rw[aL];omega)
 rw[aL,show (f:Int)+((0:Nat):Int)=(f:Int) by omega] at this
 refine this.trans ?_
 have c:=(vt ((text.data.toList.drop f).take (e-f)) 0 none).2
 have c:(gP ((text.data.toList.drop f).take (e-f)) 0 none).length≤((text.data.toList.drop f).take (e-f)).length+0:=c
 rw[bg]
 exact zdG (by rw[az,az];omega) rfl
def og (e:Int):List ad→List Wd→Option Int
 |[],[]=>none
 |[],w::_=>some w.at_
 |_::_,[]=>some e
 |s::S,w::W=>if s≠zfS∧s≠w.text then some w.at_ else og e S W
def vz (put:Bool) (a:ad) (n:Nat):List ad:=(List.range n).map fun i=>if i=0 then a else if put=true∧i=2 then qC else zfS
theorem VM (w:dk) (b:List Wd) (e:Int) (S:List ad) (J:Option (zaw×dk)) (y:b.length≤1000000000) (z:S.length≤1000) :
  ∀ (n:Nat) (T:List ad) (W:List Wd) (A:List ad) (C:List Wd),S=A++T→b=C++W→A.length=C.length→T.length+W.length<n →
   zaC (fun _=>none) (zdv w (lU b e) S J) n (A.length:Int)=match og e T W with | some a=>some ((⟨220,a⟩:zaw),w) | none=>J:=by
 intro n
 induction n with
 |zero=>intro T W A C _ _ _ h;omega
 |succ n t=>
  intro T W A C hA j d p
  rw[gk]
  generalize o:zaC (fun _=>none) (zdv w (lU b e) S J) n=ag
  unfold zdv
  have m:((lU b e).length:Int)-1=(b.length:Int):=by rw[z1];omega
  have i:S.length=A.length+T.length:=by rw[hA,aa]
  have c:b.length=C.length+W.length:=by rw[j,aa]
  rw[m]
  have g:∀k v,min A.length b.length=k→(lU b e)[k]?=some v→(aT (zca (lU b e) (min (A.length:Int) (b.length:Int))) fun (r:gU)=>some ((⟨220,r.at_⟩:zaw),w))=some ((⟨220,v.at_⟩:zaw),w):=fun k v hk hv=>by
   rw[show min (A.length:Int) (b.length:Int)=(k:Int) by omega]
   exact aY (gM hv) rfl
  refine cB ?_
  cases T with
  |nil=>
   rw[aL] at i
   refine fC ?_
   cases W with
   |nil=>
    rw[aL] at c
    exact fC rfl
   |cons x W=>
    rw[ab] at c
    have hx:b[A.length]?=some x:=by rw[j,d];simp
    refine eR (cB (fC (eR ?_)))
    exact g A.length (rW x) (by omega) (tj hx)
  |cons s T=>
   rw[ab] at i p
   refine eR (cB ?_)
   cases W with
   |nil=>
    rw[aL] at c
    refine eR ?_
    exact g b.length ⟨e,zfS⟩ (by omega) (VH b e)
   |cons x W=>
    rw[ab] at c p
    have hx:b[A.length]?=some x:=by rw[j,d];simp
    have u:S[A.length]?=some s:=by rw[hA];simp
    have l:=t T W (A++[s]) (C++[x]) (by rw[hA,aA];rfl) (by rw[j,aA];rfl) (by simp[d]) (by omega)
    rw[o,show (A++[s]).length=A.length+1 by simp] at l
    push_cast at l
    have q:(aV (cr ((A.length:Int)+1))<|ag ((A.length:Int)+1))=match og e T W with | some a=>some ((⟨220,a⟩:zaw),w) | none=>J:=gO l
    refine fC (fC (aY (gM u) ?_))
    rw[og]
    by_cases h1:s=zfS
    ·rw[aj (fun h=>h.1 h1)]
     exact bM (by rw[ax h1];rfl) q
    ·refine bS (by rw[al h1];rfl) (aY (gM (tj hx)) ?_)
     by_cases h2:s=x.text
     ·rw[aj (fun h=>h.2 h2)]
      exact bM (by show (!decide (s=x.text))=false;rw[ax h2];rfl) q
     ·rw[am ⟨h1,h2⟩]
      refine bS (by show (!decide (s=x.text))=true;rw[al h2];rfl) ?_
      exact g A.length (rW x) (by omega) (tj hx)
theorem Cr (e:Int):∀ (W:List Wd) (n:Nat),og e (bE n zfS) W=if W.length<n then some e else if n<W.length then some (nO W n) else none
 |[],0=>rfl
 |w::W,0=>by
  show some w.at_=_
  rw[aj (by omega),am (by rw[ab];omega)];rfl
 |[],n+1=>by
  show some e=_
  rw[am (by show 0<n+1;omega)]
 |w::W,n+1=>by
  rw[List.replicate_succ,og,aj (fun h=>h.1 rfl),Cr e W n,ab]
  by_cases h1:W.length<n
  ·rw[am h1,am (show W.length+1<n+1 by omega)]
  ·rw[aj h1,aj (show ¬W.length+1<n+1 by omega)]
   by_cases h2:n<W.length
   ·rw[am h2,am (show n+1<W.length+1 by omega)];rfl
   ·rw[aj h2,aj (show ¬n+1<W.length+1 by omega)]
def um (a:Int):Option Int:=if 0≤a then some a else none
theorem hQ:cAs≠ix∧mJ≠ix∧mJ≠cAs∧ix≠zfS∧cAs≠zfS∧mJ≠zfS∧qC≠zfS:=by decide
theorem z6 {l:List Wd} {e:Int} (he:0≤e) (ha:∀w∈l,0≤w.at_) (a b:Nat):um (td l e a b)=if l.length<a then some e else if b<l.length then some (nO l b) else none:=by
 unfold td um
 by_cases h1:l.length<a
 ·rw[am h1,am h1,am he]
 ·rw[aj h1,aj h1]
  by_cases h2:b<l.length
  ·rw[am h2,am h2,am (show 0≤nO l b from ha _ (aP (zip (d:=w0) h2)))]
  ·rw[aj h2,aj h2];rfl
theorem L0 (w:Wd) (W:List Wd) (n:Nat):nO (w::W) (n+1)=nO W n:=rfl
theorem VN {a:List Wd} {e:Int} (he:0≤e) (ha:∀w∈a,0≤w.at_) (h0:0<a.length) (hv:(a.getD 0 w0).text=ix):og e [ix,zfS,qC,zfS] a=um (mw a e):=by
 unfold mw
 rw[am hv]
 match a,ha,h0,hv with
 |[w],ha,_,hv=>
  have hv:w.text=ix:=hv
  rw[og,aj (fun h=>h.2 hv.symm),aj (fun h=>by have:=h.1;simp at this),z6 he ha]
  rfl
 |[w,x],ha,_,hv=>
  have hv:w.text=ix:=hv
  rw[og,aj (fun h=>h.2 hv.symm),og,aj (fun h=>h.1 rfl),aj (fun h=>by have:=h.1;simp at this),z6 he ha]
  rfl
 |w::x::y::W,ha,_,hv=>
  have hv:w.text=ix:=hv
  rw[og,aj (fun h=>h.2 hv.symm),og,aj (fun h=>h.1 rfl),og]
  by_cases hy:y.text=qC
  ·rw[aj (fun h=>h.2 hy.symm),aj (fun h=>h.2 hy),z6 he ha,show [zfS]=bE 1 zfS from rfl,Cr]
   simp only[ab,L0]
   by_cases h1:W.length<1
   ·rw[am h1,am (show W.length+1+1+1<4 by omega)]
   ·rw[aj h1,aj (show ¬W.length+1+1+1<4 by omega)]
    by_cases h2:1<W.length
    ·rw[am h2,am (show 4<W.length+1+1+1 by omega)]
    ·rw[aj h2,aj (show ¬4<W.length+1+1+1 by omega)]
  ·rw[am ⟨hQ.2.2.2.2.2.2,fun h=>hy h.symm⟩,am ⟨by simp,hy⟩]
   unfold um
   rw[am (show 0≤nO (w::x::y::W) 2 from ha y (by simp))];rfl
theorem VO {a:List Wd} {e:Int} (he:0≤e) (ha:∀w∈a,0≤w.at_) (h0:0<a.length) (hv:(a.getD 0 w0).text=mJ):og e [mJ,zfS] a=um (mw a e):=by
 unfold mw
 rw[hv,aj hQ.2.1,aj hQ.2.2.1,am rfl]
 match a,ha,h0,hv with
 |w::W,ha,_,hv=>
  have hv:w.text=mJ:=hv
  rw[og,aj (fun h=>h.2 hv.symm),z6 he ha,show [zfS]=bE 1 zfS from rfl,Cr]
  simp only[ab,L0]
  by_cases h1:W.length<1
  ·rw[am h1,am (show W.length+1<2 by omega)]
  ·rw[aj h1,aj (show ¬W.length+1<2 by omega)]
   by_cases h2:1<W.length
   ·rw[am h2,am (show 2<W.length+1 by omega)]
   ·rw[aj h2,aj (show ¬2<W.length+1 by omega)]
theorem VP {a:List Wd} {e:Int} (he:0≤e) (ha:∀w∈a,0≤w.at_) (h0:0<a.length) (hv:(a.getD 0 w0).text=cAs):og e (cAs::bE (max 3 (min a.length 6)-1) zfS) a=um (mw a e):=by
 unfold mw
 rw[hv,aj hQ.1,am rfl]
 match a,ha,h0,hv with
 |w::W,ha,_,hv=>
  have hv:w.text=cAs:=hv
  rw[og,aj (fun h=>h.2 hv.symm),z6 he ha,Cr]
  simp only[ab]
  by_cases h1:W.length+1<3
  ·rw[am h1,am (show W.length<max 3 (min (W.length+1) 6)-1 by omega)]
  ·rw[aj h1,aj (show ¬W.length<max 3 (min (W.length+1) 6)-1 by omega)]
   by_cases h2:6<W.length+1
   ·rw[am h2,am (show max 3 (min (W.length+1) 6)-1<W.length by omega),show max 3 (min (W.length+1) 6)-1=5 by omega];rfl
   ·rw[aj h2,aj (show ¬max 3 (min (W.length+1) 6)-1<W.length by omega)]
theorem VQ (a:List Wd) (e:Int) (J:List ad→Option (zaw×dk)):∀ (n k:Nat),3≤k→k≤max 3 (min a.length 6)→10<n+k →
  zaC (fun _=>none) (zdw (lU a e) J) n (cAs::bE (k-1) zfS)=J (cAs::bE (max 3 (min a.length 6)-1) zfS):=by
 intro n
 induction n with
 |zero=>intro k h1 h2 h3;omega
 |succ n c=>
  intro k h1 h2 h3
  rw[gk]
  generalize d:zaC (fun _=>none) (zdw (lU a e) J) n=ag at c
  unfold zdw
  have b:((lU a e).length:Int)-1=(a.length:Int):=by rw[z1];omega
  have hk:(cAs::bE (k-1) zfS).length=k:=by rw[ab,qn];omega
  rw[b,hk]
  by_cases g1:k<a.length
  ·refine eR ?_
   by_cases g2:k<6
   ·refine eR (gO ?_)
    have:=c (k+1) (by omega) (by omega) (by omega)
    rw[←this]
    congr 1
    rw[List.cons_append,show k+1-1=(k-1)+1 by omega,List.replicate_succ']
   ·refine fC ?_
    rw[show max 3 (min a.length 6)=k by omega]
  ·refine fC ?_
   rw[show max 3 (min a.length 6)=k by omega]
theorem VR (w:dk) (d:List Wd) (e:Int) (S:List ad) (put:Bool) (b:ad) (J:List ad→ad→Option (zaw×dk)) (O:d.length≤1000) (C:∀w∈d,w.text.size≤65536)
  (u:S=vz put b d.length) (l:b≠zfS) (k:b≠qC) :
  ∀ (n:Nat) (B A:List Wd) (D:List ad) (said:ad),d=A++B→D.length=A.length→B.length<n→said.size≤65536+1000*A.length →
   zaC (fun _ _ _=>none) (zdu w (lU d e) S J) n D said (A.length:Int) =
    match jT put A.length B with
    |.inl a=>some ((⟨221,a⟩:zaw),w)
    |.inr (f,s)=>J (D++f) (said++s):=by
 have H:S.length=d.length:=by rw[u];unfold vz;rw[az,List.length_range]
 have q:∀i,i<d.length→S[i]?=some (if i=0 then b else if put=true∧i=2 then qC else zfS):=fun i hi=>by
  rw[u];unfold vz
  rw[bU,k8 hi];rfl
 intro n
 induction n with
 |zero=>intro B A D said _ _ h;omega
 |succ n v=>
  intro B A D said hA K F N
  rw[gk]
  generalize p:zaC (fun _ _ _=>none) (zdu w (lU d e) S J) n=ag
  unfold zdu
  have g:d.length=A.length+B.length:=by rw[hA,aa]
  cases B with
  |nil=>
   rw[aL] at g
   refine fC ?_
   show J D said=J (D++[]) (said++zfS)
   rw[aH,show zfS=ac from rfl,bx]
  |cons x B=>
   rw[ab] at g F
   have hx:d[A.length]?=some x:=by rw[hA];simp
   have hg:=q A.length (by omega)
   have j:=fun (y:ad) (c:ad) (o:c.size≤65536+1000*(A.length+1))=>v B (A++[x]) (D++[y]) c (by rw[hA,aA];rfl) (by rw[aa,aa,K];rfl) (by omega) (by rw[aa];exact o)
   rw[p,show (A++[x]).length=A.length+1 by simp] at j
   push_cast at j
   have t:∀ (y z:ad),z.size≤1000→(aV (cr ((A.length:Int)+1))<|ag (D++[y]) (said++z) ((A.length:Int)+1))=match jT put (A.length+1) B with | .inl a=>some ((⟨221,a⟩:zaw),w) | .inr (f,s)=>J (D++y::f) (said++(z++s)):=fun y z hz=>by
    refine gO ((j y (said++z) (by rw[aE];omega)).trans ?_)
    cases jT put (A.length+1) B with
    |inl a=>rfl
    |inr fs=>
     obtain⟨f,s⟩:=fs
     show J ((D++[y])++f) ((said++z)++s)=_
     rw[aA,ByteArray.append_assoc];rfl
   have r:∀y:ad,(aV (cr ((A.length:Int)+1))<|ag (D++[y]) said ((A.length:Int)+1))=match jT put (A.length+1) B with | .inl a=>some ((⟨221,a⟩:zaw),w) | .inr (f,s)=>J (D++y::f) (said++(zfS++s)):=fun y=>by
    have:=t y zfS (by show 0≤1000;omega)
    rw[show said++zfS=said from bx] at this
    exact this
   have I:D.length≤1000:=by omega
   refine eR (cB (aY (gM hg) ?_))
   rw[jT]
   by_cases h0:A.length=0
   ·rw[am (show A.length=0∨(put=true∧A.length=2) from .inl h0),am h0,am h0]
    refine bS (by rw[al l];rfl) (cB (gO (bM (al k) ((r zfS).trans ?_))))
    cases jT put (A.length+1) B with
    |inl a=>rfl
    |inr fs=>rfl
   ·rw[aj h0]
    by_cases h2:put=true∧A.length=2
    ·rw[am (show A.length=0∨(put=true∧A.length=2) from .inr h2),am h2,aj h0]
     refine bS (by decide) (cB (gO (bS (by decide) (zdG (by show said.size+6≤_;omega) ((t zfS zuY (by show 6≤1000;omega)).trans ?_)))))
     cases jT put (A.length+1) B with
     |inl a=>rfl
     |inr fs=>rfl
    ·rw[aj (show ¬(A.length=0∨(put=true∧A.length=2)) from fun h=>by rcases h with h | h;exact h0 h;exact h2 h),aj h2]
     have M:=B8 x.text
     have m:=C x (aP hx)
     have E:=(s7 (zfX x.text) (by omega)).2.2.2
     refine bM (by decide) (aY (gM (tj hx)) (aY (UE x.text m) ?_))
     by_cases he:zfX x.text=zfS
     ·rw[am he]
      exact bS (ax he) (aY (gM (tj hx)) rfl)
     ·rw[aj he]
      have G:(⟨#[32]⟩:ad).size=1:=rfl
      refine bM (al he) (gO (aY (R8 _ (by omega)) (gO (zdG (by rw[aE];omega) ((t (zfX x.text) (zxM++zB7 (zfX x.text)) (by rw[aE];show 1+_≤1000;omega)).trans ?_)))))
      cases jT put (A.length+1) B with
      |inl a=>rfl
      |inr fs=>rfl
def xD (w:dk) (o:cw) (l:List Wd) (e:Int):zaw×dk :=
 if o.lines.length=256 then (⟨3,nO l 0⟩,w)
 else if 0≤mw l e then (⟨220,mw l e⟩,w)
 else match jT (decide ((l.getD 0 w0).text=ix)) 0 l with
  |.inl a=>(⟨221,a⟩,w)
  |.inr (fs,s)=>
   if (l.getD 0 w0).text=mJ then
    (if (zbP (iU (fD fs 1)) o.skips).getD false=true then (⟨222,nO l 1⟩,w) else (⟨0,0⟩,⟨w.Units,w.Fors,w.Skips++[iU (fD fs 1)],w.Lines++[xq l s]⟩))
   else if lF o (fD fs 1)=true then (⟨222,nO l 1⟩,w)
   else match na o 0 fs l with
    |some a=>(⟨223,a⟩,w)
    |none=>(⟨0,0⟩,if (l.getD 0 w0).text=ix then ⟨js w.Units ((zbP (fD fs 3) o.place).getD 0+1) (fD fs 1),w.Fors,w.Skips,w.Lines++[xq l s]⟩ else ⟨w.Units,iq (fD fs 1) (fs.drop 2) w.Fors,w.Skips,w.Lines++[xq l s]⟩)
theorem VS {o:cw} {w:dk} (hr:lr o w) (l:List Wd) (e:Int):(xD w o l e).1=(oT o l e).1∧lr (oT o l e).2 (xD w o l e).2:=by
 unfold xD oT
 by_cases h1:o.lines.length=256
 ·rw[am h1,am h1];exact⟨rfl,hr⟩
 rw[aj h1,aj h1]
 by_cases h2:0≤mw l e
 ·rw[am h2,am h2];exact⟨rfl,hr⟩
 rw[aj h2,aj h2]
 cases hf:jT (decide ((l.getD 0 w0).text=ix)) 0 l with
 |inl a=>exact⟨rfl,hr⟩
 |inr fs=>
  obtain⟨fs,s⟩:=fs
  show ((ite _ _ _:zaw×dk)).1=((ite _ _ _:zaw×cw)).1∧lr ((ite _ _ _:zaw×cw)).2 ((ite _ _ _:zaw×dk)).2
  by_cases b:(l.getD 0 w0).text=mJ
  ·rw[am b,am b]
   by_cases hb:(zbP (iU (fD fs 1)) o.skips).getD false=true
   ·rw[am hb,am hb];exact⟨rfl,hr⟩
   ·rw[aj hb,aj hb]
    refine⟨rfl,hr.un,hr.fo,?_,fun f=>?_,?_⟩
    ·show w.Lines++_=o.lines++_
     rw[hr.li]
    ·show (zbP f (iq (iU (fD fs 1)) true o.skips)).getD false=(w.Skips++[iU (fD fs 1)]).any fun s=>decide (s=f)
     rw[xp,List.any_append,←hr.sk]
     by_cases c:f=iU (fD fs 1)
     ·rw[am c,c]
      simp
     ·rw[aj c]
      have:decide (iU (fD fs 1)=f)=false:=al fun h=>c h.symm
      simp[this]
    ·show (w.Skips++[_]).length≤(w.Lines++[_]).length
     have:=hr.sl
     rw[aa,aa]
     show _+1≤_+1
     omega
  ·rw[aj b,aj b]
   by_cases hb:lF o (fD fs 1)=true
   ·rw[am hb,am hb];exact⟨rfl,hr⟩
   ·rw[aj hb,aj hb]
    cases d:na o 0 fs l with
    |some a=>exact⟨rfl,hr⟩
    |none=>
     have sl:∀x:ad,w.Skips.length≤(w.Lines++[x]).length:=fun x=>by
      have:=hr.sl
      rw[aa];omega
     refine⟨rfl,?_⟩
     show lr (ite _ _ _:cw) (ite _ _ _:dk)
     by_cases hp:(l.getD 0 w0).text=ix
     ·rw[am hp,am hp]
      refine⟨?_,hr.fo,?_,hr.sk,sl _⟩
      ·show js w.Units _ _=js o.units _ _
       rw[hr.un]
      ·show w.Lines++_=o.lines++_
       rw[hr.li]
     ·rw[aj hp,aj hp]
      refine⟨hr.un,?_,?_,hr.sk,sl _⟩
      ·show iq _ _ w.Fors=iq _ _ o.fors
       rw[hr.fo]
      ·show w.Lines++_=o.lines++_
       rw[hr.li]
theorem VT (w:dk) (l:List Wd) (e:Int) (h1:1<l.length) (f:ad) (J:ad→Option (zaw×dk)) (m:w.Skips.length≤1000000):∀ (n:Nat) (T S:List ad),w.Skips=S++T→T.length<n →
  zaC (fun _=>none) (zdt w (lU l e) J f) n (S.length:Int)=if (T.any fun s=>decide (s=f))=true then some ((⟨222,nO l 1⟩:zaw),w) else J f:=by
 intro n
 induction n with
 |zero=>intro T S _ h;omega
 |succ n j=>
  intro T S g k
  rw[gk]
  generalize c:zaC (fun _=>none) (zdt w (lU l e) J f) n=ag
  unfold zdt
  have a:w.Skips.length=S.length+T.length:=by rw[g,aa]
  cases T with
  |nil=>
   rw[aL] at a
   rw[aj (by rintro h;cases h)]
   exact fC rfl
  |cons s T=>
   rw[ab] at a k
   have hg:w.Skips[S.length]?=some s:=by rw[g];simp
   have b:=j T (S++[s]) (by rw[g,aA];rfl) (by omega)
   rw[c,show (S++[s]).length=S.length+1 by simp] at b
   push_cast at b
   refine eR (aY (gM hg) ?_)
   rw[List.any_cons]
   by_cases i:s=f
   ·rw[ax i,Bool.true_or,am rfl]
    exact bS rfl (aY (gM (tj (zip (d:=w0) h1))) rfl)
   ·rw[al i,Bool.false_or]
    exact bM rfl (gO b)
theorem VU {o:cw} {w:dk} (hi:fI o) (hr:lr o w) (l:List Wd) (e:Int) (S fs:List ad) (put:Bool) (b:ad) (I:S=vz put b l.length) (H:fs.length=l.length) (hb:l.length≤1000) (J:Option (zaw×dk))
  (s:∀k,k<l.length→1<k→(fs.getD k zfS=zfS↔(put=true∧k=2))) :
  ∀ (n:Nat) (A B:List ad) (C D:List Wd),fs=A++B→l=C++D→A.length=C.length→1<A.length→B.length<n →
  zaC (fun _=>none) (zds w (lU l e) S fs J) n (A.length:Int)=match na o A.length B D with | some a=>some ((⟨223,a⟩:zaw),w) | none=>J:=by
 have E:=hi.ul;have G:=hi.ll
 intro n
 induction n with
 |zero=>intro A B C D _ _ _ _ h;omega
 |succ n z=>
  intro A B C D hA v i h1 F
  rw[gk]
  generalize t:zaC (fun _=>none) (zds w (lU l e) S fs J) n=ag
  unfold zds
  have d:fs.length=A.length+B.length:=by rw[hA,aa]
  have u:l.length=C.length+D.length:=by rw[v,aa]
  cases B with
  |nil=>
   rw[aL] at d
   exact fC rfl
  |cons f B=>
   cases D with
   |nil=>rw[ab] at d;rw[aL] at u;omega
   |cons x D=>
    rw[ab] at d F
    have g:fs[A.length]?=some f:=by rw[hA];simp
    have q:l[A.length]?=some x:=by rw[v,i];simp
    have r:S[A.length]?=some (if put=true∧A.length=2 then qC else zfS):=by
     rw[I];unfold vz
     rw[bU,k8 (by omega)]
     show some (if A.length=0 then b else _)=_
     rw[aj (by omega)]
    have c:=s A.length (by omega) h1
    rw[show fs.getD A.length zfS=f by rw[cC,g];rfl] at c
    have j:=z (A++[f]) B (C++[x]) D (by rw[hA,aA];rfl) (by rw[v,aA];rfl) (by simp[i]) (by rw[aa];omega) (by omega)
    rw[t,show (A++[f]).length=A.length+1 by simp] at j
    push_cast at j
    have y:(aV (cr ((A.length:Int)+1))<|ag ((A.length:Int)+1))=match na o (A.length+1) B D with | some a=>some ((⟨223,a⟩:zaw),w) | none=>J:=gO j
    refine eR (cB (aY (gM r) ?_))
    rw[na]
    by_cases h2:put=true∧A.length=2
    ·rw[am h2,aj (fun h=>h.2.1 (c.2 h2))]
     exact bM (by decide) y
    ·rw[aj h2]
     refine bS (by decide) (aY (gM g) (aY (zU w f (by rw[hr.un];omega)) ?_))
     rw[hr.un,←hi.pl]
     have m:f≠zfS:=fun h=>h2 (c.1 h)
     cases hp:zbP f o.place with
     |none=>
      rw[am ⟨h1,m,rfl⟩]
      exact bS (by decide) (aY (gM (tj q)) rfl)
     |some p=>
      have h3:=hp
      rw[hi.pl] at h3
      have K:=(vq h3).1
      rw[aj (fun h=>by cases h.2.2)]
      exact bM (al (by show ¬p<0;omega)) y
structure VV (l:List Wd) (e:Int) (S:List ad):Prop where
 err:og e S l=um (mw l e)
 ok:¬0≤mw l e→S=vz (decide ((l.getD 0 w0).text=ix)) (l.getD 0 w0).text l.length
 len:S.length≤10
 vb:(l.getD 0 w0).text=ix∨(l.getD 0 w0).text=cAs∨(l.getD 0 w0).text=mJ
theorem VW {R T:Type} {f:(T→Option R)→Option R} {j:T→Option R} {r:Option R} (G:T→Prop) (h:∀J,(∀S,G S→J S=r)→f J=r) (hj:∀S,G S→j S=r):co f j=r:=cB (h j hj)
set_option maxHeartbeats 1000000 in
theorem VX {o:cw} {w:dk} (hi:fI o) (hr:lr o w) (l:List Wd) (e:Int) (he:0≤e) (h0:0<l.length) (hl:l.length≤1000000) (ha:∀w∈l,0≤w.at_) (W:∀w∈l,w.text.size≤65536):zZ w (lU l e)=some (xD w o l e):=by
 have aw:=hi.ul;have a0:=hi.ll
 have I:=hr.sl
 rw[hr.li] at I
 have t:zca (lU l e) 0=some (rW (l.getD 0 w0)):=gM (i:=0) (tj (zip (d:=w0) h0))
 have ag:=z1 l e
 unfold zZ xD
 by_cases h1:o.lines.length=256
 ·rw[am h1]
  exact bS (by rw[hr.li,h1];rfl) (aY t rfl)
 rw[aj h1]
 refine bM (by rw[hr.li];exact aC.2 (by omega)) (VW (VV l e) (fun J R=>?_) (fun S E=>?_))
 ·refine gO (aY t ?_)
  by_cases hp:(l.getD 0 w0).text=ix
  ·refine bS (ax hp) (R _ ⟨VN he ha h0 hp,fun h=>?_,by decide,.inl hp⟩)
   rcases xr he ha h0 h with h|h|h
   ·rw[h.2.1,hp];decide
   ·rw[h.1] at hp;exact absurd hp hQ.1
   ·rw[h.1] at hp;exact absurd hp hQ.2.1
  ·refine bM (al hp) ?_
   by_cases c:(l.getD 0 w0).text=mJ
   ·refine bS (ax c) (R _ ⟨VO he ha h0 c,fun h=>?_,by decide,.inr (.inr c)⟩)
    rcases xr he ha h0 h with h|h|h
    ·exact absurd h.1 hp
    ·rw[h.1] at c;exact absurd c (fun h=>hQ.2.2.1 h.symm)
    ·rw[h.2,c];decide
   ·refine bM (al c) ?_
    by_cases g:(l.getD 0 w0).text=cAs
    ·refine bS (ax g) ((VQ l e J zbx 3 (by omega) (by omega) (by unfold zbx;omega)).trans (R _ ⟨VP he ha h0 g,fun h=>?_,by rw[ab,qn];omega,.inr (.inl g)⟩))
     rcases xr he ha h0 h with h|h|h
     ·exact absurd h.1 hp
     ·have h5:l.length=3∨l.length=4∨l.length=5∨l.length=6:=by omega
      rcases h5 with h5|h5|h5|h5<;>rw[h5,g]<;>decide
     ·exact absurd h.1 c
    ·refine bM (al g) (aY t ?_)
     have m:mw l e=nO l 0:=by unfold mw;rw[aj hp,aj g,aj c]
     have V:0≤nO l 0:=ha _ (aP (zip (d:=w0) h0))
     rw[m,am V];rfl
 ·refine cB ((VM w l e S _ (by omega) (by have:=E.len;omega) zbx S l [] [] rfl rfl rfl (by have:=E.len;unfold zbx;omega)).trans ?_)
  rw[E.err]
  unfold um
  by_cases h2:0≤mw l e
  ·rw[am h2,am h2]
  rw[aj h2,aj h2]
  have v:=E.ok h2
  have q:=xr he ha h0 h2
  have n:=E.vb
  have hg:zca S 0=some (l.getD 0 w0).text:=by
   rw[v]
   refine gM (i:=0) ?_
   unfold vz
   rw[bU,k8 h0];rfl
  have G:(l.getD 0 w0).text≠zfS:=by
   rcases n with h|h|h<;>rw[h]
   ·exact hQ.2.2.2.1
   ·exact hQ.2.2.2.2.1
   ·exact hQ.2.2.2.2.2.1
  have F:(l.getD 0 w0).text≠qC:=by
   rcases n with h|h|h<;>rw[h]<;>decide
  have h6:l.length≤6:=by rcases q with h | h | h<;>omega
  have U:2≤l.length:=by rcases q with h | h | h<;>omega
  have ao:(l.getD 0 w0).text.size≤65536:=W _ (aP (zip (d:=w0) h0))
  refine cB (aY hg ((VR w l e S (decide ((l.getD 0 w0).text=ix)) (l.getD 0 w0).text _ (by omega) W v G F zbx l [] [] (l.getD 0 w0).text rfl rfl (by unfold zbx;omega) (by rw[aL];omega)).trans ?_))
  cases hf:jT (decide ((l.getD 0 w0).text=ix)) ([]:List Wd).length l with
  |inl a=>
   rfl
  |inr fs=>
   obtain⟨fs,s⟩:=fs
   have hf:jT (decide ((l.getD 0 w0).text=ix)) 0 l=.inr (fs,s):=hf
   have u:=zL _ _ _ _ _ hf
   have j:=fun (k:Nat) (hk:k<l.length)=>qD (l:=fs) (k:=k) zfS (by omega)
   have O:zca (lU l e) 1=some (rW (l.getD 1 w0)):=gM (i:=1) (tj (zip (d:=w0) (by omega)))
   show co _ _=some (ite ((l.getD 0 w0).text=mJ) _ _)
   rw[bg]
   refine cB (aY hg ?_)
   by_cases c:(l.getD 0 w0).text=mJ
   ·rw[am c]
    have T:(fD fs 1).size≤65536:=by
     have:=(xt hf 1 (by omega) (by omega)).1
     rw[this];have:=B8 (l.getD 1 w0).text;omega
    refine bS (ax c) (cB (aY (j 1 (by omega)) (aY (EC _ T) ((VT w l e (by omega) _ _ (by omega) zbx w.Skips [] rfl (by unfold zbx;omega)).trans ?_))))
    show (if (w.Skips.any fun s=>decide (s=iU (fD fs 1)))=true then _ else _)=_
    rw[←hr.sk]
    by_cases hb:(zbP (iU (fD fs 1)) o.skips).getD false=true
    ·rw[am hb,am hb]
    ·rw[aj hb,aj hb]
     exact gO (zdG (by rw[hr.li];omega) rfl)
   ·rw[aj c]
    refine bM (al c) (aY (j 1 (by omega)) (aY (LG hi (hr.rel hi) _) ?_))
    show aN (lF o (fD fs 1)) _ _=_
    cases hb:lF o (fD fs 1) with
    |true=>rw[am rfl];exact bS rfl (aY O rfl)
    |false=>
     rw[aj (by simp)]
     refine bM rfl (cB ?_)
     have P:∀k,k<l.length→1<k→(fs.getD k zfS=zfS↔(decide ((l.getD 0 w0).text=ix)=true∧k=2)):=fun k hk a1=>by
      obtain⟨g1,g2⟩:=FG _ _ _ _ _ hf k _ (zip (d:=w0) hk)
      rw[Nat.zero_add] at g1 g2
      rw[cC,g1,fi]
      by_cases hc:decide ((l.getD 0 w0).text=ix)=true∧k=2
      ·rw[am (.inr hc)];exact⟨fun _=>hc,fun _=>rfl⟩
      ·have Z:¬(k=0∨(decide ((l.getD 0 w0).text=ix)=true∧k=2)):=fun h=>by rcases h with h | h;omega;exact hc h
       rw[aj Z]
       exact⟨fun h=>absurd h (g2 Z),fun h=>absurd h hc⟩
     have Q:fs.take 2++fs.drop 2=fs:=bZ ..
     have N:l.take 2++l.drop 2=l:=bZ ..
     have m:=fun J=>VU hi hr l e S fs (decide ((l.getD 0 w0).text=ix)) (l.getD 0 w0).text v u (by omega) J P zbx (fs.take 2) (fs.drop 2) (l.take 2) (l.drop 2) Q.symm N.symm (by rw[bD,bD];omega) (by rw[bD];omega) (by rw[aS];unfold zbx;omega)
     have H:(fs.take 2).length=2:=by rw[bD];omega
     rw[H] at m
     refine (m _).trans ?_
     have B:na o 0 fs l=na o 2 (fs.drop 2) (l.drop 2):=by
      match fs,l,u,U with
      |a::b::fs,x::y::l,_,_=>
       rw[na,aj (fun h=>by omega),na,aj (fun h=>by omega)];rfl
     rw[B]
     have C:=B
     cases M:na o 2 (fs.drop 2) (l.drop 2) with
     |some a=>rfl
     |none=>
      rw[M] at C
      show co _ _=some ((⟨0,0⟩:zaw),ite ((l.getD 0 w0).text=ix) _ _)
      refine cB (aY hg ?_)
      by_cases hp:(l.getD 0 w0).text=ix
      ·rw[am hp]
       have h4:l.length=4:=by
        rcases q with h|h|h
        ·exact h.2.1
        ·rw[h.1] at hp;exact absurd hp hQ.1
        ·exact absurd h.1 c
       have K:=(xt hf 3 (by omega) (by omega)).2
       have h3:=Cb o fs l 0 u C 3 _ (Ce (by omega)) (by omega) K
       obtain⟨p,A⟩:=jx.1 h3
       have r:=A
       rw[hi.pl] at r
       have Y:=vq r
       have z:=zU w (fD fs 3) (by rw[hr.un];omega)
       rw[hr.un,r,fi] at z
       have X:w.Units.length=o.units.length:=by rw[hr.un]
       have c1:dK w.Units 0 (p+1)=w.Units.take (p+1).toNat:=by
        unfold dK
        show (List.drop 0 _).take _=_
        rw[el]
        congr 1
       have c2:dK w.Units (p+1) (w.Units.length:Int)=w.Units.drop (p+1).toNat:=by
        unfold dK
        rw[ee (by rw[aS];omega)]
       refine bM (by rw[hp];exact al (fun h=>hQ.1 h.symm)) (aY (j 3 (by omega)) (aY z (gO (gO ?_))))
       rw[c1,c2,A,fi,bg]
       have lt:(w.Units.take (p+1).toNat).length≤w.Units.length:=by rw[bD];omega
       have ld:(w.Units.drop (p+1).toNat).length≤w.Units.length:=by rw[aS];omega
       refine zdG (by show 0+_≤_;omega) (aY (j 1 (by omega)) (gO (zdG ⟨by omega,by omega,eN _⟩ (zdG (by rw[aa];show _+1+_≤_;omega) (zdG (by rw[hr.li];omega) ?_)))))
       unfold js
       rw[aA];rfl
      ·rw[aj hp]
       have g:(l.getD 0 w0).text=cAs:=by rcases n with h | h | h;exact absurd h hp;exact h;exact absurd h c
       have D:dK fs 2 ((fs.length:Nat):Int)=fs.drop 2:=E5 fs 2
       refine bS (by rw[g];rfl) (aY (j 1 (by omega)) (zdG ⟨by omega,by omega,eN _⟩ ?_))
       rw[D]
       exact zdG (by rw[hr.li];omega) rfl
theorem L2:∀ (l a:List UInt8),lns l a=match l.dropWhile (fun c=>c != 10) with | []=>[a++l] | _::r=>(a++l.takeWhile fun c=>c != 10)::lns r []
 |[],a=>by rw[lns,aH];rfl
 |c::l,a=>by
  rw[lns,List.dropWhile_cons,aW]
  by_cases h:c=10
  ·subst h
   rw[am rfl]
   show a::lns l []=(a++[])::lns l []
   rw[aH]
  ·have hc:(c != 10)=true:=cQ.2 h
   rw[aj h,hc,am rfl,am rfl,L2 l]
   cases l.dropWhile fun c=>c != 10 with
   |nil=>show [a++[c]++l]=[a++c::l];rw[aA];rfl
   |cons d r=>show (a++[c]++_)::_=(a++c::_)::_;rw[aA];rfl
theorem VY (l:List UInt8):∃a,l=(l.takeWhile fun c=>c != 10)++a∧((a=[]∧lns l []=[l.takeWhile fun c=>c != 10])∨∃r,a=10::r∧lns l []=(l.takeWhile fun c=>c != 10)::lns r []):=by
 have b:l=l.takeWhile (fun c=>c != 10)++l.dropWhile fun c=>c != 10:=List.takeWhile_append_dropWhile.symm
 refine⟨l.dropWhile fun c=>c != 10,b,?_⟩
 have g:=L2 l []
 have h:=kj (fun c:UInt8=>c != 10) l
 cases hd:l.dropWhile (fun c=>c != 10) with
 |nil=>
  rw[hd] at g b
  rw[aH] at b
  refine .inl ⟨rfl,?_⟩
  rw[g,←b];rfl
 |cons d r=>
  rw[hd] at g h
  have h3:(d != 10)=false:=by simpa using h
  rw[bne_eq_false_iff_eq.1 h3]
  refine .inr ⟨r,rfl,?_⟩
  rw[g];rfl
theorem VZ (text:ad) (l:text.size≤1000000) (J:Int→Option ((Option dk)×zaw)) :
  ∀ (n:Nat) (B A:List UInt8),text.data.toList=A++B→B.length<n→zaC (fun _=>none) (zfx text J) n (A.length:Int)=J ((A.length+(B.takeWhile fun c=>c != 10).length:Nat):Int):=by
 intro n
 induction n with
 |zero=>intro B A _ h;omega
 |succ n i=>
  intro B A b j
  rw[gk]
  generalize g:zaC (fun _=>none) (zfx text J) n=ag
  unfold zfx
  have a:text.size=A.length+B.length:=by rw[gJ,b,aa]
  cases B with
  |nil=>
   rw[aL] at a
   exact fC rfl
  |cons c B=>
   rw[ab] at a j
   have hg:=zJ (s:=text) (k:=A.length) (c:=c) (by rw[b];simp)
   refine eR (aY hg ?_)
   rw[aW]
   by_cases hc:c=10
   ·subst hc
    exact bM rfl rfl
   ·have h1:(((c.toNat:Int):Int) != 10)=true:=cQ.2 fun h=>hc (dZ.1 (by show c.toNat=10;omega))
    have h2:(c != 10)=true:=cQ.2 hc
    rw[h2,am rfl]
    have d:=i B (A++[c]) (by rw[b,aA];rfl) (by omega)
    rw[g,show (A++[c]).length=A.length+1 by simp] at d
    push_cast at d
    refine bS h1 (gO ?_)
    rw[d,ab]
    congr 1
    push_cast;omega
def RR (q:Option cw×zaw) (r:Option ((Option dk)×zaw)):Prop :=
 (∃a w',q=(some a,⟨0,0⟩)∧r=some (some w',⟨0,0⟩)∧lr a w')∨(q.1=none∧r=some (none,q.2))
theorem V0 (text:ad) (Q:text.size≤65536):∀ (n at_:Nat) (o:cw) (w:dk),fI o→lr o w→at_≤text.size+1→text.size+1-at_<n →
  RR (pm o (at_:Int) (if at_≤text.size then lns (text.data.toList.drop at_) [] else []))
   (zaC (fun _ _ _ _ _=>none) (zdD text (fun (o1:List ad) (t:List (ad×List ad)) (s:List ad) (m:List ad)=>some ((some (⟨o1,t,s,m⟩:dk)),(⟨0,0⟩:zaw)))) n w.Units w.Fors w.Skips w.Lines (at_:Int)):=by
 intro n
 induction n with
 |zero=>intro at_ o w _ _ _ h;omega
 |succ n G=>
  intro at_ o w hi hr N R
  rw[gk]
  generalize O:zaC (fun _ _ _ _ _=>none) (zdD text (fun (o1:List ad) (t:List (ad×List ad)) (s:List ad) (m:List ad)=>some ((some (⟨o1,t,s,m⟩:dk)),(⟨0,0⟩:zaw)))) n=ag at G
  by_cases ha:at_≤text.size
  ·rw[am ha]
   have hA:(text.data.toList.take at_).length=at_:=by rw[bD,←gJ];omega
   have d:=fun J=>VZ text (by omega) J zbx (text.data.toList.drop at_) (text.data.toList.take at_) (bZ _ _).symm (by rw[aS,←gJ];unfold zbx;omega)
   rw[hA] at d
   obtain⟨v,g,b⟩:=VY (text.data.toList.drop at_)
   generalize H:(text.data.toList.drop at_).takeWhile (fun c=>c != 10)=run at d g b
   have j:text.size-at_=run.length+v.length:=by
    have:=aM gq g
    rw[aS,←gJ,aa] at this;exact this
   have P:∃xs,lns (text.data.toList.drop at_) []=run::xs∧xs=(if at_+run.length+1≤text.size then lns (text.data.toList.drop (at_+run.length+1)) [] else []):=by
    rcases b with⟨h,F⟩|⟨r,h,F⟩
    ·rw[h,aL] at j
     exact⟨[],F,by rw[aj (by omega)]⟩
    ·rw[h,ab] at j
     refine⟨lns r [],F,?_⟩
     rw[am (by omega)]
     congr 1
     rw[show at_+run.length+1=at_+(run.length+1) by omega,←ff,g,h,show run++10::r=(run++[10])++r by simp,List.drop_left' (by simp)]
   obtain⟨xs,D,C⟩:=P
   rw[D]
   have next:=fun (B:cw) (w':dk) (h1:fI B) (h2:lr B w')=>G (at_+run.length+1) B w' h1 h2 (by omega) (by omega)
   rw[←C] at next
   push_cast at next
   have hc:(at_:Int)+((run.length:Int)+1)=(at_:Int)+(run.length:Int)+1:=by omega
   have I:∀K:Option ((Option dk)×zaw),zdD text (fun (o1:List ad) (t:List (ad×List ad)) (s:List ad) (m:List ad)=>some ((some (⟨o1,t,s,m⟩:dk)),(⟨0,0⟩:zaw))) ag w.Units w.Fors w.Skips w.Lines (at_:Int)=K→RR (pm o (at_:Int) (run::xs)) K→RR (pm o (at_:Int) (run::xs)) (zdD text (fun (o1:List ad) (t:List (ad×List ad)) (s:List ad) (m:List ad)=>some ((some (⟨o1,t,s,m⟩:dk)),(⟨0,0⟩:zaw))) ag w.Units w.Fors w.Skips w.Lines (at_:Int)):=fun K h1 h2=>by rw[h1];exact h2
   have a:=VL text at_ (at_+run.length) (by omega) (by omega) (by omega)
   have E:(text.data.toList.drop at_).take (at_+run.length-at_)=run:=by
    rw[show at_+run.length-at_=run.length by omega,g,ko]
   rw[E] at a
   push_cast at a
   have A:cr ((at_:Int)+(run.length:Int)+1):=⟨by omega,by omega⟩
   obtain⟨w1,w2⟩:=vt run 0 none
   have w2:(gP run 0 none).length≤run.length+0:=w2
   rw[pm]
   by_cases h0:gP run 0 none=[]
   ·rw[am h0,hc]
    refine Eq.mp (aM (RR _) ?_) (next o w hi hr)
    symm
    unfold zdD
    refine eR (cB ((d _).trans ?_))
    push_cast
    refine cB (aY a (bM (al (by rw[z1,h0];show ¬(1:Int)<((0+1:Nat):Int);omega)) (zdG A rfl)))
   ·rw[aj h0]
    have i:0<(gP run 0 none).length:=cV.2 h0
    have l:∀x∈(gP run 0 none).map (jM (at_:Int)),0≤x.at_:=fun x hx=>by
     obtain⟨p,hp,rfl⟩:=aU.1 hx
     show 0≤(at_:Int)+(p.1:Int)
     omega
    have y:∀x∈(gP run 0 none).map (jM (at_:Int)),x.text.size≤65536:=fun x hx=>by
     obtain⟨p,hp,rfl⟩:=aU.1 hx
     show (ba p.2).size≤65536
     rw[s9]
     have:p.2.length≤run.length+0:=w1 p hp
     omega
    have u:=VX hi hr ((gP run 0 none).map (jM (at_:Int))) ((at_:Int)+(run.length:Int)) (by omega) (by rw[az];exact i) (by rw[az];omega) l y
    obtain⟨e1,e2⟩:=VS hr ((gP run 0 none).map (jM (at_:Int))) ((at_:Int)+(run.length:Int))
    have k:=FH hi ((gP run 0 none).map (jM (at_:Int))) ((at_:Int)+(run.length:Int)) (by omega) (by rw[az];exact i) l y
    have M:(lU ((gP run 0 none).map (jM (at_:Int))) ((at_:Int)+(run.length:Int))).length=(gP run 0 none).length+1:=by rw[z1,az]
    have z:(⟨w.Units,w.Fors,w.Skips,w.Lines⟩:dk)=w:=rfl
    generalize xD w o ((gP run 0 none).map (jM (at_:Int))) ((at_:Int)+(run.length:Int))=r at u e1 e2
    generalize oT o ((gP run 0 none).map (jM (at_:Int))) ((at_:Int)+(run.length:Int))=q at e1 e2 k ⊢
    by_cases h1:q.1.Err=0
    ·rw[am h1,hc]
     refine Eq.mp (aM (RR _) ?_) (next q.2 r.2 k e2)
     symm
     unfold zdD
     refine eR (cB ((d _).trans ?_))
     push_cast
     refine cB (aY a (eR ?_))
     rw[z]
     exact aY u (bM (by rw[e1,h1];rfl) (zdG A rfl))
    ·rw[aj h1]
     refine .inr ⟨rfl,?_⟩
     unfold zdD
     refine eR (cB ((d _).trans ?_))
     push_cast
     refine cB (aY a (eR ?_))
     rw[z]
     refine aY u (bS (by rw[e1];exact cQ.2 h1) ?_)
     rw[e1]
  ·rw[aj ha]
   refine .inl ⟨o,w,rfl,?_,hr⟩
   unfold zdD
   exact fC rfl
theorem L3 (text:ad):RR (sb text) (vy text):=by
 unfold sb
 by_cases h:65536<text.size
 ·rw[am h]
  refine .inr ⟨rfl,?_⟩
  unfold vy
  exact eR rfl
 ·rw[aj h]
  have:=V0 text (by omega) zbx 0 sa ⟨us0,[],[],[]⟩ Cf VG (bG _) (by unfold zbx;omega)
  rw[am (bG _),el] at this
  refine Eq.mp (aM (RR _) ?_) this
  symm
  unfold vy
  exact fC (cB (aY VF rfl))
def z7 (a:ad):Option ((Option cw)×(Option dk)) := co (fun (b:(Option cw)→(Option dk)→Option ((Option cw)×(Option dk)))=>aT (vp a) fun (r1:((Option cw)×zaw))=>aT (vy a) fun (r2:((Option dk)×zaw))=>aN ((r2.2.Err:Int) != 0) (aT (vp (⟨#[]⟩:ad)) fun (r3:((Option cw)×zaw))=>aT (vy (⟨#[]⟩:ad)) fun (c:((Option dk)×zaw))=>b r3.1 c.1) (b r1.1 r2.1)) (fun (g:Option cw) (d:Option dk)=>some (g,d))
theorem V1 {a:ad} {r:((Option cw)×(Option dk))} (h:z7 a=some r):Fn prog 14 [.string a] [] (fun b:Value×Value=>.tuple #[b.1,b.2]) (fun b=>[jY nH nI 72 b.1 r.1,jY qv qw 39 b.2 r.2]):=by
 unfold z7 at h
 refine Fn.intro func14 rfl ntmps14 (by simp) (fun w0 K=>zbq h fun q n h=>zaL (β:=(Option cw)×(Option dk)×Value×Value) 3 rfl (fun b=>q b.1 b.2.1=some r) (fun b=>[]) (fun b=>[(4,b.2.2.1),(6,b.2.2.2)]) (fun b=>[jY nH nI 72 b.2.2.1 b.1,jY qv qw 39 b.2.2.2 b.2.1]) (fun cut=>zyG (zyR 2 rfl (zyH (zyR 1 rfl (zbk h fun r1 m h=>zbN (vs:=[.string a]) rfl dc rfl rfl rfl Dj (FC m) ah (fun c=>mn (L':=[jY nH nI 72 c r1.1]) (cp 1) (zyR 1 rfl (eY rfl dc rfl rfl (eY rfl dc rfl rfl (zbi zq8 rfl dc (fun b1=>zyR 1 rfl (eE (k:=1) (vs:=(kN r1.2)) (l':=(kN r1.2)) kC rfl rfl rfl rfl rfl (show _≤_ by simp) rfl rfl (zyH (zyR 1 rfl (zbk h fun r2 l h=>zbN (vs:=[.string a]) rfl dc rfl rfl rfl Hz (LY l) ah (fun d=>mn (L':=[jY nH nI 72 c r1.1,cells b1 (kN r1.2) 26,jY qv qw 39 d r2.1]) (cp 3) (zyR 1 rfl (eY rfl dc rfl rfl (eY rfl dc rfl rfl (zbi zq8 rfl dc (fun b2=>zyR 1 rfl (eE (k:=3) (vs:=(kN r2.2)) (l':=(kN r2.2)) kC rfl rfl rfl rfl rfl (show _≤_ by simp) rfl rfl (zyN (cut (zyG (zab Da rfl dc rfl (show _=0 from rfl) (zas (k:=3) C9 rfl dc rfl rfl rfl (zaT rfl zed (zyN (zyB rfl h (fun h=>zyG (zbk h fun r3 j h=>zbN (vs:=[.string (⟨#[]⟩:ad)]) rfl dc rfl rfl rfl Dj (FC j) ah (fun g=>mn (L':=[jY nH nI 72 c r1.1,cells b1 (kN r1.2) 26,jY qv qw 39 d r2.1,cells b2 (kN r2.2) 26,jY nH nI 72 g r3.1]) (cp 5) (zyR 1 rfl (eY rfl dc rfl rfl (eY rfl dc rfl rfl (zyR 1 rfl (zyN (bX (zbk h fun p i h=>zbN (vs:=[.string (⟨#[]⟩:ad)]) rfl dc rfl rfl rfl Hz (LY i) ah (fun o=>mn (L':=[jY nH nI 72 c r1.1,cells b1 (kN r1.2) 26,jY qv qw 39 d r2.1,cells b2 (kN r2.2) 26,jY nH nI 72 g r3.1,jY qv qw 39 o p.1]) (cp 6) (zyR 1 rfl (eY rfl dc rfl rfl (eY rfl dc rfl rfl (zyR 1 rfl (zaB (cL (r3.1,p.1,g,o) h rfl (bI rfl) (bW [4,5] kr rfl)))))))))))))))))) (fun h=>zap (cL (r1.1,r2.1,c,d) h rfl (bI rfl) (bW [0,2] kr rfl))))))))))))))))))))))))))))))))) ?_)
 rintro⟨t,s,v1,v2⟩ h
 rw[n] at h
 refine zyG (zyR 4 rfl (zyN (zaA ?_)))
 cases h
 exact eu (rs:=[.tmp 2,.tmp 3]) (v1,v2) (.inl rfl) results14 (.cons (.tmp rfl) (.cons (.tmp rfl) .nil)) rfl (cp 2)
theorem V2 (text:ad):∃w,z7 text=some (some (tf text),some w)∧lr (tf text) w:=by
 have a:=L3 text
 have h0:=L3 (⟨#[]⟩:ad)
 unfold z7 tf
 rcases FJ text with⟨o,h,hi⟩|⟨e,h,he⟩
 ·rw[h] at a ⊢
  rcases a with⟨b,w',e1,e2,c⟩|⟨e1,_⟩
  ·injection e1 with e1 _
   injection e1 with e1
   subst e1
   exact⟨w',cB (aY ((FI text).trans (by rw[h])) (aY e2 (bM rfl rfl))),c⟩
  ·cases e1
 ·rw[h] at a ⊢
  rcases a with⟨b,w',e1,_,_⟩|⟨_,e2⟩
  ·injection e1 with e1 _
   cases e1
  ·rw[Lu] at h0
   rcases h0 with⟨b,w',f1,f2,f3⟩|⟨f1,_⟩
   ·injection f1 with f1 _
    injection f1 with f1
    subst f1
    exact⟨w',cB (aY ((FI text).trans (by rw[h])) (aY e2 (bS (cQ.2 he) (aY ((FI _).trans (by rw[Lu])) (aY f2 rfl))))),f3⟩
   ·cases f1
theorem V3 {o:cw} (h:xn o) (a b:ad) (ha:oQ a) (hb:oQ b) {x y:ad}
  (hx:x.data.toList=k1 (gh o a)++(k2 (gh o a)++(k3 (gh o a)++a.data.toList))) (hy:y.data.toList=k1 (gh o b)++(k2 (gh o b)++(k3 (gh o b)++b.data.toList))):bc x.data.toList y.data.toList=(lq 1 (kH o a) (kH o b)).1:=by
 show cb x.data.toList y.data.toList=_
 obtain⟨d,_⟩:=uh h a ha
 obtain⟨c,_⟩:=uh h b hb
 rw[hx,hy,TK d c]
 unfold kH
 rw[Fu d c]
theorem V4 {α:Type} {a b c d k j i g:α} (h:[a,b,c,d]=[k,j,i,g]):d=g:=by
 injection h with _ h
 injection h with _ h
 injection h with _ h
 injection h with h _
theorem V5 {α:Type} (a b c d:α):[a,b,c,d].length=4:=rfl
theorem V6 {o:cw} {a b:ad} (h:kH o a=kH o b):a=b:=by
 unfold kH at h
 exact ow (V4 h)
theorem L4 (o:cw) (a:ad):(kH o a).length=4:=by
 unfold kH
 exact V5 _ _ _ _
theorem V7 (o:cw) (a b:ad):((lq 1 (kH o a) (kH o b)).1=-1∨(lq 1 (kH o a) (kH o b)).1=0∨(lq 1 (kH o a) (kH o b)).1=1)∧((lq 1 (kH o a) (kH o b)).1=0↔a=b):=by
 have d:(kH o a).length=(kH o b).length:=by rw[L4,L4]
 rcases KS (kH o a) (kH o b) 1 (by omega) d with⟨e,h⟩|⟨h1,_,_,h⟩
 ·have c:=V6 h
  rw[e]
  exact⟨.inr (.inl rfl),fun _=>c,fun _=>rfl⟩
 ·exact⟨by omega,fun h0=>by omega,fun c=>absurd (by rw[c]) h⟩
def zcq (d:ad) (g:ad→Option Bool) (c:ad→Int→Option Bool) (b:ad) (a:Int):Option Bool := aN (decide ((a:Int)<(d.size:Int))) (aT (zca (lM b) a) fun (q1:Int)=>aV (cr (a+1)) <|c (tR b (a:Int).toNat 7) (a+1)) (g b)
def Cs (a:ad) (a1:ad) (b1:ad):Option Bool := aT (zM) fun (r1:Bool)=>aN (!r1) (some false) (aT (z7 a) fun (r2:((Option cw)×(Option dk)))=>aN (r2.1.isNone) (some false) (aT (xu a1) fun (r3:ad)=>aT (xu b1) fun (c:ad)=>aT (r2.1) fun (p1:cw)=>aT (vm p1 r3 c) fun (l:(Int×Int))=>aT (r2.2) fun (p2:dk)=>aT (zX p2 r3 c) fun (b:(Int×Int))=>aT (vm p1 c r3) fun (k:(Int×Int))=>aN ((l.1:Int) != b.1) (some false) (aN ((l.2:Int) != b.2) (some false) (aV (cr (-b.1)) <|aN ((k.1:Int) != (-b.1)) (some false) (aN ((k.2:Int) != b.2) (some false) (aT (s8 p1 r3) fun (d:ad)=>aT (s8 p1 c) fun (m:ad)=>aN (((bc d.data.toList m.data.toList):Int) != b.1) (some false) (aT (s8 p1 r3) fun (j:ad)=>aN (!(decide (d=j))) (some false) (co (fun (n:ad→Option Bool)=>zaC (fun _ _=>none) (zcq d n) zbx d 0) (fun (k1:ad)=>aV (k1.size+3≤140737488355328) <|aT (zca (lM (k1++(⟨#[7,7,7]⟩))) 0) fun (q2:Int)=>aN ((q2:Int) != 7) (some false) (aT (s8 p1 r3) fun (i:ad)=>aT (s8 p1 c) fun (h:ad)=>aN (((bc i.data.toList h.data.toList):Int) != b.1) (some false) (aT (zM) fun (g:Bool)=>some g)))))))))))
theorem V8 {m:ad} {a1:ad} {b1:ad} {r:Bool} (h:Cs m a1 b1=some r):dN prog 4 [.string m,.string a1,.string b1] (.bool r):=by
 unfold Cs at h
 refine dN.intro func4 rfl ntmps4 (by simp) (fun w0 K=>zyG (zyR 1 rfl (zyN (zaJ (zyG (zbk h fun r1 aw h=>zaI (v:=.bool r1) (vs:=[]) rfl dc rfl rfl rfl Hy (Lv aw) (jW rfl dc rfl km (zyN (zyB rfl h (fun h=>?_) (fun h=>?_))))))))))
 ·refine zyG (zyR 1 rfl (zyN (zaA (bP ?_))))
  cases h
  exact cX 6 im
 refine zap (zaz (zyG (zyR 1 rfl (zbk h fun r2 ao h=>zbN (vs:=[.string m]) rfl dc rfl rfl rfl NR (V1 ao) ah ?_))))
 rintro⟨v1,v2⟩
 refine mn (L':=[jY nH nI 72 v1 r2.1,jY qv qw 39 v2 r2.2]) (cp 2) (zyR 1 rfl (eY rfl dc rfl rfl (eY rfl dc rfl rfl (zyR 2 rfl (zyN (zaJ (zyG (zyR 1 rfl (Nq (k:=0) rfl (fun S=>zaT rfl (Ns underlying29 S) (zyN (zyB rfl h (fun h=>?_) (fun h=>?_)))))))))))))
 ·refine zyG (zyR 1 rfl (zyN (zaA (bP ?_))))
  cases h
  exact cX 6 im
 refine zap (zaz (zyG (zyR 1 rfl (zbk h fun r3 Z h=>zaI (v:=.string r3) (vs:=[.string a1]) rfl dc rfl rfl rfl HA (Lw Z) (zyR 1 rfl (zbk h fun p Y h=>zaI (v:=.string p) (vs:=[.string b1]) rfl dc rfl rfl rfl HA (Lw Y) (zyR 2 rfl (zyH (zyR 3 rfl (zbk h fun p1 X h=>sC (As:=[jY nH nI 72 v1 r2.1]) (cp 1) (C6 X) ?_))))))))))
 rintro⟨b2,l,g,d,c,a⟩ R
 have x:=h
 subst R
 have h:=x
 refine zbk h fun r5 W h=>lg (v:=.tuple #[zI r5.1,zI r5.2]) (vs:=[zP b2,.string r3,.string p]) (lW:Rd _ _ []) rfl dc rfl rfl rfl Dk (Fg (_h:=b2) (o1:=p1) (_f:=l) (_a:=g) (_c:=d) (_d:=c) (_g:=a) W) (.own (bW [2] kr rfl) (fun _ _ h=>aF.1 h) (.own (bW [3] kr rfl) (fun _ _ h=>aF.1 h) (.own (bW [4] kr rfl) (fun _ _ h=>aF.1 h) (.own (bW [5] kr rfl) (fun _ _ h=>aF.1 h) (.own (bW [6] kr rfl) (fun _ _ h=>aF.1 h) (.own (bW [7] kr rfl) (fun _ _ h=>aF.1 h) .nil)))))) (zyR 1 rfl (eY rfl dc rfl rfl (eY rfl dc rfl rfl (zyR 2 rfl (zyH (zyR 3 rfl (zbk h fun p2 V h=>sC (As:=[jY qv qw 39 v2 r2.2]) (bW [1] kr rfl) (C6 V) ?_)))))))
 rintro⟨b3,a8,a7,a6,a5⟩ Q
 have x:=h
 subst Q
 have h:=x
 refine zbk h fun J U h=>lg (v:=.tuple #[zI J.1,zI J.2]) (vs:=[zP b3,.string r3,.string p]) (lW:Rd _ _ []) rfl dc rfl rfl rfl NS (UJ (_h:=b3) (o1:=p2) (_f:=a8) (_a:=a7) (_c:=a6) (_d:=a5) U) (.own (bW [8] kr rfl) (fun _ _ h=>aF.1 h) (.own (bW [9] kr rfl) (fun _ _ h=>aF.1 h) (.own (bW [10] kr rfl) (fun _ _ h=>aF.1 h) (.own (bW [11] kr rfl) (fun _ _ h=>aF.1 h) (.own (bW [12] kr rfl) (fun _ _ h=>aF.1 h) .nil))))) (zyR 1 rfl (eY rfl dc rfl rfl (eY rfl dc rfl rfl (zyR 2 rfl (zyH (zyR 3 rfl (zbk h fun r7 T h=>lg (v:=.tuple #[zI r7.1,zI r7.2]) (vs:=[zP b2,.string p,.string r3]) (lW:Rd _ _ []) rfl dc rfl rfl rfl Dk (Fg (_h:=b2) (o1:=p1) (_f:=l) (_a:=g) (_c:=d) (_d:=c) (_g:=a) T) (.own (bW [2] kr rfl) (fun _ _ h=>aF.1 h) (.own (bW [3] kr rfl) (fun _ _ h=>aF.1 h) (.own (bW [4] kr rfl) (fun _ _ h=>aF.1 h) (.own (bW [5] kr rfl) (fun _ _ h=>aF.1 h) (.own (bW [6] kr rfl) (fun _ _ h=>aF.1 h) (.own (bW [7] kr rfl) (fun _ _ h=>aF.1 h) .nil)))))) (zyR 1 rfl (eY rfl dc rfl rfl (eY rfl dc rfl rfl (zyR 2 rfl (zyN (zaJ (zyG (zyR 2 rfl (zaT rfl zed (zyR 1 rfl (zyS (s:=54) rfl h (fun h=>?_) (fun h=>?_)))))))))))))))))))
 ·refine zyR 14 rfl (zyR 1 rfl (zyN (ir rfl (zyG (zyR 1 rfl (zyN (zaA (bP ?_))))))))
  cases h
  exact cX 6 im
 refine zyR 2 rfl (zaT rfl zed (zyR 2 rfl (zyS (s:=59) rfl h (fun h=>?_) (fun h=>?_))))
 ·refine zyR 10 rfl (zyN (ir rfl (zaJ (bX (zyR 1 rfl (zyN (zaA (bP ?_))))))))
  cases h
  exact cX 6 im
 refine zyR 2 rfl (zbs h fun a4 h=>jW rfl dc rfl (MC (ai _ a4)) (zaT rfl zed (zyR 2 rfl (zyS (s:=65) rfl h (fun h=>?_) (fun h=>?_)))))
 ·refine zyR 4 rfl (zyN (ir rfl (zyG (zyR 1 rfl (zyN (zaA (bP ?_)))))))
  cases h
  exact cX 6 im
 refine zyR 2 rfl (zaT rfl zed (zyR 1 rfl (zyN (zyB rfl h (fun h=>?_) (fun h=>?_)))))
 ·refine zyG (zyR 1 rfl (zyN (zaA (bP ?_))))
  cases h
  exact cX 6 im
 refine zap (zaz (zyG (zyR 2 rfl (zbk h fun o I h=>pI (vs:=[zP b2,.string r3]) (lW:Rd _ _ []) rfl dc rfl rfl rfl yc (zD (_h:=b2) (o1:=p1) (_f:=l) (_a:=g) (_c:=d) (_d:=c) (_g:=a) I) ah (.own (bW [2] kr rfl) (fun _ _ h=>aF.1 h) (.own (bW [3] kr rfl) (fun _ _ h=>aF.1 h) (.own (bW [4] kr rfl) (fun _ _ h=>aF.1 h) (.own (bW [5] kr rfl) (fun _ _ h=>aF.1 h) (.own (bW [6] kr rfl) (fun _ _ h=>aF.1 h) (.own (bW [7] kr rfl) (fun _ _ h=>aF.1 h) .nil)))))) (fun y=>zyR 1 rfl (zyN (zaJ (zyG (zyR 3 rfl (zbk h fun r9 H h=>pI (vs:=[zP b2,.string p]) (lW:Rd _ _ []) rfl dc rfl rfl rfl yc (zD (_h:=b2) (o1:=p1) (_f:=l) (_a:=g) (_c:=d) (_d:=c) (_g:=a) H) ah (.own (bW [2] kr rfl) (fun _ _ h=>aF.1 h) (.own (bW [3] kr rfl) (fun _ _ h=>aF.1 h) (.own (bW [4] kr rfl) (fun _ _ h=>aF.1 h) (.own (bW [5] kr rfl) (fun _ _ h=>aF.1 h) (.own (bW [6] kr rfl) (fun _ _ h=>aF.1 h) (.own (bW [7] kr rfl) (fun _ _ h=>aF.1 h) .nil)))))) (fun v4=>oJ (v:=zI (bc o.data.toList r9.data.toList)) (vs:=[y,v4]) rfl dc rfl rfl rfl HB (Iw (e:=5) o r9) [13,14] kr rfl (zyR 1 rfl (zaT rfl zed (zyR 1 rfl (zyS (s:=80) rfl h (fun h=>?_) (fun h=>?_))))))))))))))))
 ·refine zyR 7 rfl (zyN (ir rfl (zyG (zyR 1 rfl (zaB (zaz (zaA (bP ?_))))))))
  cases h
  exact cX 6 im
 refine zyR 3 rfl (zbk h fun C G h=>pI (vs:=[zP b2,.string r3]) (lW:Rd _ _ []) rfl dc rfl rfl rfl yc (zD (_h:=b2) (o1:=p1) (_f:=l) (_a:=g) (_c:=d) (_d:=c) (_g:=a) G) ah (.own (bW [2] kr rfl) (fun _ _ h=>aF.1 h) (.own (bW [3] kr rfl) (fun _ _ h=>aF.1 h) (.own (bW [4] kr rfl) (fun _ _ h=>aF.1 h) (.own (bW [5] kr rfl) (fun _ _ h=>aF.1 h) (.own (bW [6] kr rfl) (fun _ _ h=>aF.1 h) (.own (bW [7] kr rfl) (fun _ _ h=>aF.1 h) .nil)))))) (fun v5=>oJ (v:=.bool (decide (o=C))) (vs:=[y,v5]) rfl dc rfl rfl rfl NT (PX o C) [13,15] kr rfl (jW rfl dc rfl km (zyR 1 rfl (zyN (zyB rfl h (fun h=>?_) (fun h=>?_)))))))
 ·refine zyG (zyR 1 rfl (zyN (zaA (bP ?_))))
  cases h
  exact cX 6 im
 refine zap (zaz (zbq h fun N a0 h=>zaL (β:=ad) 0 rfl (fun b=>N b=some r) (fun b=>[]) (fun b=>[(1,.string r3),(2,.string p),(7,zP b2),(11,zI J.1),(15,y)]) (fun b=>[cells b2 [l.v,.map (some (bi g)),.map (some (bi d)),.map (some (bi c)),a.v] 72,bH l.v p1.units,cz (fun n:ad=>af n) (fun n:Int=>aB .i64 n) (bi g) p1.place,dQ (bi d) p1.fors,cz (fun n:ad=>af n) (fun n:Bool=>ay n) (bi c) p1.skips,bH a.v p1.lines,byt 5 y b]) (fun cut=>?_) ?_))
 ·refine cut (zyG (zyR 1 rfl (Ni (k:=13) rfl dc rfl rfl cg (zyR 1 rfl (zyN (zat (eF (β:=Nat×ad×Int) (fun b=>zaC (fun _ _=>none) (zcq o N) b.1 b.2.1 b.2.2=some r) (fun b=>[]) (fun b=>[(1,.string r3),(2,.string p),(7,zP b2),(11,zI J.1),(15,y),(89,zI (o.size:Int)),(90,zI b.2.2)]) (fun b=>[cells b2 [l.v,.map (some (bi g)),.map (some (bi d)),.map (some (bi c)),a.v] 72,bH l.v p1.units,cz (fun n:ad=>af n) (fun n:Int=>aB .i64 n) (bi g) p1.place,dQ (bi d) p1.fors,cz (fun n:ad=>af n) (fun n:Bool=>ay n) (bi c) p1.skips,bH a.v p1.lines,byt 5 y b.2.1]) (fun b=>b.1) (zbx,o,0) h rfl (bI rfl) (bW [2,3,4,5,6,7,13] kr rfl) ?_)))))))
  rintro⟨M,P,z⟩ h
  cases M with
  |zero=>exact ew h
  |succ M=>
   obtain⟨a9,w⟩:∃ag,ag=zaC (fun _ _=>none) (zcq o N) M:=⟨_,rfl⟩
   have h:zcq o N a9 P z=some r:=by rw[w];exact h
   unfold zcq at h
   refine zyG (zaT rfl zbd (zyN (zaJ (zyB rfl h (fun h=>?_) (fun h=>?_)))))
   ·refine zap (zaz (zaJ (zat (zyG (zyR 2 rfl (zyN (bX (zyR 2 rfl (qQ (k:=6) rfl CO (zbk h fun q1 u h=>eJ (k:=6) u cg uE rfl dc rfl rfl rfl rfl (qs (i:=(z:Int).toNat) (j:=0) (k:=6) (q:=q1) (q':=7) uE jE rfl rfl rfl rfl (ei u) rfl dc rfl (fun _ _=>rfl) (qQ (k:=6) rfl (PY ⟨by omega,by omega⟩) (zaB (cd (zaz (bX (zbs h fun a3 h=>zaT rfl (dA (r:=z+1) (ai _ a3)) (zyR 1 rfl (zaB ?_)))))))))))))))))))
    subst w
    exact aD (M,tR P (z:Int).toNat 7,z+1) h 7
   exact dy (bV (bV (dz (mD P h 7))))
 rintro k1 h
 rw[a0] at h
 refine zaJ (zyG (zyR 1 rfl (fx (cs:=[.int .u8 7,.int .u8 7,.int .u8 7]) (te:=5) (ps:=[(0,.const (.int .u8 7)),(1,.const (.int .u8 7)),(2,.const (.int .u8 7))]) rfl dc rfl (fun _=>by kernel_rfl) (fun b4=>zbs h fun a2 h=>sB (k:=6) (k2:=7) (ys:=(⟨#[7,7,7]⟩)) cg oo rfl dc rfl rfl rfl rfl rfl rfl a2 (fun v6=>zyR 1 rfl (zyH (zyR 1 rfl (qQ (k:=6) rfl CO (zbk h fun q2 t h=>eJ (k:=6) t cg uE rfl dc rfl rfl rfl rfl (fw (i:=(0:Int).toNat) (j:=0) (k:=6) (q:=q2) AB jE rfl dc rfl rfl (ei t) rfl dc rfl (zaT rfl zed (zyR 1 rfl (zyS (s:=104) rfl h (fun h=>?_) (fun h=>?_))))))))))))))
 ·refine zyR 10 rfl (zyN (ir rfl (zaJ (bX (zyR 1 rfl (zyN (zaA (bP ?_))))))))
  cases h
  exact cX 6 im
 refine zyR 2 rfl (zbk h fun B F h=>pI (vs:=[zP b2,.string r3]) (lW:Rd _ _ []) rfl dc rfl rfl rfl yc (zD (_h:=b2) (o1:=p1) (_f:=l) (_a:=g) (_c:=d) (_d:=c) (_g:=a) F) ah (.own (cp 1) (fun _ _ h=>aF.1 h) (.own (bW [1] kr rfl) (fun _ _ h=>aF.1 h) (.own (bW [2] kr rfl) (fun _ _ h=>aF.1 h) (.own (bW [3] kr rfl) (fun _ _ h=>aF.1 h) (.own (bW [4] kr rfl) (fun _ _ h=>aF.1 h) (.own (bW [5] kr rfl) (fun _ _ h=>aF.1 h) .nil)))))) (fun v7=>zyR 2 rfl (zbk h fun A E h=>pI (vs:=[zP b2,.string p]) (lW:Rd _ _ []) rfl dc rfl rfl rfl yc (zD (_h:=b2) (o1:=p1) (_f:=l) (_a:=g) (_c:=d) (_d:=c) (_g:=a) E) ah (.own (cp 1) (fun _ _ h=>aF.1 h) (.own (bW [1] kr rfl) (fun _ _ h=>aF.1 h) (.own (bW [2] kr rfl) (fun _ _ h=>aF.1 h) (.own (bW [3] kr rfl) (fun _ _ h=>aF.1 h) (.own (bW [4] kr rfl) (fun _ _ h=>aF.1 h) (.own (bW [5] kr rfl) (fun _ _ h=>aF.1 h) .nil)))))) (fun v8=>oJ (v:=zI (bc B.data.toList A.data.toList)) (vs:=[v7,v8]) rfl dc rfl rfl rfl HB (Iw (e:=5) B A) [8,9] kr rfl (zyR 1 rfl (zaT rfl zed (zyR 1 rfl (zyN (zyB rfl h (fun h=>?_) (fun h=>?_))))))))))
 ·refine zyG (zyR 1 rfl (zyN (zaA (bP ?_))))
  cases h
  exact cX 6 im
 refine zap (zaz (zyG (zbk h fun O D h=>zaI (v:=.bool O) (vs:=[]) rfl dc rfl rfl rfl Hy (Lv D) (zyR 1 rfl (zyN (zaA ?_))))))
 cases h
 exact cX 6 im
theorem L5 (b:ad) (i:Nat):lM (tR b i 7)=(lM b).set i 7:=by
 unfold tR
 refine CN fun x hx=>?_
 rcases List.mem_or_eq_of_mem_set hx with h|h
 ·exact Ix b x h
 ·rw[h];exact⟨by omega,by omega⟩
theorem V9 (b:ad) (i:Nat):(tR b i 7).size=b.size:=by
 rw[←vM,L5,List.length_set,vM]
theorem Wa (a:ad) (j:a.size≤1000000000000) (J:ad→Option Bool) (R:Option Bool) (i:∀k:ad,k.size=a.size→(0<a.size→(lM k)[0]?=some 7)→J k=R) :
  ∀ (n:Nat) (k:ad) (x:Nat),k.size=a.size→(0<x→(lM k)[0]?=some 7)→x≤a.size→a.size-x<n→zaC (fun _ _=>none) (zcq a J) n k (x:Int)=R:=by
 intro n
 induction n with
 |zero=>intro k x _ _ _ h;omega
 |succ n c=>
  intro k x h1 h2 h3 l
  rw[gk]
  generalize g:zaC (fun _ _=>none) (zcq a J) n=ag at c
  unfold zcq
  by_cases hx:x<a.size
  ·have d:x<(lM k).length:=by rw[vM];omega
   have b:=c (tR k x 7) (x+1) (by rw[V9,h1]) (fun _=>by
    rw[L5]
    by_cases h0:x=0
    ·rw[h0,List.getElem?_set_self (by omega)]
    ·rw[List.getElem?_set_ne (by omega)];exact h2 (by omega)) (by omega) (by omega)
   push_cast at b
   refine eR (aY (gM (aJ d)) (gO ?_))
   rw[bz]
   exact b
  ·exact fC (i k h1 fun h=>h2 (by omega))
theorem Wb {o:cw} (h:xn o) (s:ad) (b:oQ s) {k:ad} (hk:k.data.toList=k1 (gh o s)++(k2 (gh o s)++(k3 (gh o s)++s.data.toList))):k.size≤500000000000:=by
 obtain⟨g,d⟩:=uh h s b
 rw[gJ,hk]
 have q1:∀l:List El,(∀e∈l,ju e)→(l.flatMap c1).length≤300007*l.length:=by
  intro l
  induction l with
  |nil=>intro _;simp
  |cons e l a=>
   intro hg
   have:=BZ (hg e (ar ..))
   have:=a (fun x hx=>hg x (ak _ hx))
   rw[aG,aa,ab];omega
 have q2:∀l:List El,(∀e∈l,ju e)→(l.flatMap fun e:El=>e.marks.data.toList++[0]).length≤300001*l.length:=by
  intro l
  induction l with
  |nil=>intro _;simp
  |cons e l a=>
   intro hg
   have:=(hg e (ar ..)).ml
   have:=a (fun x hx=>hg x (ak _ hx))
   rw[aG,aa,ab,aa,←gJ]
   show _+1+_≤_
   omega
 have p1:=q1 _ g
 have p2:=q2 _ g
 have c:=b.1
 unfold k1 k2 k3
 simp only[aa,az,ab,aL]
 rw[←gJ]
 omega
theorem Wc (text a0 b0:ad):Cs text a0 b0=some true:=by
 obtain⟨w,u,l⟩:=V2 text
 have hi:=Um text
 have hu:=UV text
 unfold Cs
 refine aY Lx (bM rfl (aY u (bM rfl (aY (Ly _) (aY (Ly _) (aY (a:=tf text) rfl ?_))))))
 generalize tf text=o at hi hu l
 have hr:=l.rel hi
 have t:=Lz a0;have lb:=Lz b0
 generalize xv a0=a at t ⊢
 generalize xv b0=b at lb ⊢
 have j:oQ a:=KP (by omega)
 have m:oQ b:=KP (by omega)
 have hk:=hi.ok
 refine aY (KY hk a b j m) (aY (a:=w) rfl (aY (VC hi hu hr a b j m) (aY (KY hk b a m j) ?_)))
 obtain⟨n,q,s⟩:=K0 hk a j
 obtain⟨y,r,x⟩:=K0 hk b m
 have d:=V3 hk a b j m s x
 have g:=(V7 o a b).1
 have hsz:=Wb hk a j s
 rw[KT (kH o a) (kH o b)]
 generalize lq 1 (kH o a) (kH o b)=C at d g ⊢
 obtain⟨c,i⟩:=C
 dsimp only at d g ⊢
 refine bM (bne_eq_false_iff_eq.2 rfl) (bM (bne_eq_false_iff_eq.2 rfl) (gO (bM (bne_eq_false_iff_eq.2 rfl) (bM (bne_eq_false_iff_eq.2 rfl) (aY q (aY r (bM (bne_eq_false_iff_eq.2 d) (aY q (bM (by rw[ax rfl];rfl) (cB ?_))))))))))
 refine Wa n (by omega) _ (some true) (fun k h1 h2=>?_) zbx n 0 rfl (fun h=>by omega) (bG _) (by unfold zbx;omega)
 refine gO ?_
 have p:lM (k++(⟨#[7,7,7]⟩:ad))=lM k++[7,7,7]:=by
  unfold lM
  rw[od,cM];rfl
 have v:(lM (k++(⟨#[7,7,7]⟩:ad)))[0]?=some 7:=by
  rw[p]
  by_cases h0:0<n.size
  ·have:=h2 h0
   rw[eK (by rw[vM];omega)]
   exact this
  ·have:lM k=[]:=gY.1 (by rw[vM];omega)
   rw[this];rfl
 exact aY (gM (i:=0) v) (bM rfl (aY q (aY r (bM (bne_eq_false_iff_eq.2 d) (aY Lx rfl)))))
theorem collateCompares_any (text a b:ad) (w:World) (h0:text.size≤140737488351232) (h1:a.size≤140737488351232) (h2:b.size≤140737488351232):Calls prog 4 #[.string text,.string a,.string b] w fun e w'=>e=.returned (.bool true)∧Below w.heap.size w w' :=
 V8 (Wc text a b) w
end Go.Proofs.YtifpjbgnikjglaaGreatDoor
