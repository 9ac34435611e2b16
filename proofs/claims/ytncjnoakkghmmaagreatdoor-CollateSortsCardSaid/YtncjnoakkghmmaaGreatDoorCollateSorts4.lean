/-
  Texts laid together: LfU, Qe, LfW2, LfS, Qf, Qg, Qh, Qk, LfW0, LfW1, LfSa, LfFa, Qi, LfG2, LfW3, LfSg, LfF2, Qj, Qw, Qs, Qp, Qu, Qz, LpR, LcA, LcB, LcC, LcS. Nothing is assumed.
-/
import Derived.Test.YtncjnoakkghmmaaGreatDoorCollateSorts3
import Derived.Test.YtncjnoakkghmmaaGreatDoorCollateSorts2
set_option maxRecDepth 100000
set_option maxHeartbeats 4000000
namespace Go.Proofs.YtncjnoakkghmmaaGreatDoor
open Go.RowKit Go.Lib
open Tryz
set_option linter.unusedVariables false
set_option linter.unusedSimpArgs false
open _root_.Array renaming length_toList->eC,toList_inj->gI
open _root_.Bool renaming false_eq_true->bp,and_eq_true->aN,eq_iff_iff->eF
open _root_.ByteArray renaming empty->af,empty_append->el,append_assoc->dE,size_append->aM
open _root_.Go.IntWalk renaming i64_in->ac
open _root_.Go.Lib renaming extract_data->oH
open _root_.Go.Proofs.Tryz renaming underlying9->am,underlying116->fM,underlying89->bH,underlying154->dr
open ce renaming here->fA,nil->fX
open Hd renaming nil->fe
open aH renaming nil->aC
open Vw renaming get->cq
open evP renaming cons->gW,nil->sM
open _root_.Go.Utf8 renaming encode->ae
open _root_.Go.Value renaming int->az,agg->br
open _root_.List renaming nil_append->bj,append_nil->aE,getElem?_eq_getElem->aJ,drop_eq_getElem_cons->aQ,drop_length->ix,foldl_cons->bz,length_cons->ab,mem_cons_self->ar,mem_append->bv,mem_of_getLast?->sN,mem_map->aT,mem_cons_of_mem->ak,cons_append->aW,map_cons->au,flatMap_cons->aK,map_map->cF,map_nil->fm,mem_of_getElem?->aF,mem_flatMap->jD,mem_cons->bg,eq_nil_of_length_eq_zero->cE,takeWhile_cons->aY,takeWhile_append_dropWhile->eR,length_append->aa,mem_filter->cG,length_map->ax,map_append->dp
open _root_.Nat renaming zero_le->bT,add_mul->dC,one_mul->kW,le_refl->aS
open _root_.Option renaming toList_none->sO
open _root_.Prod renaming fst->bE
def w7 (j:Int->Int->Int->(List Int)->(List Int)->Option (List dy)) (h:(List Int)) (i:Int->Int->Int->(List Int)->(List Int)->Int->Option (List dy)) (e:Int) (d:Int) (c:Int) (b:List Int) (a:List Int) (g:Int):Option (List dy) := G (decide ((g:Int)<((ee h 1 (h.length:Int)).length:Int))) (T (cj (ee h 1 (h.length:Int)) g) λ(q2:Int)=>T (Bt (⟨e,d,c,b,a⟩:dy) q2) λ(f:dy)=>grd (I64 (g+1)) <|i f.at_ f.broken f.base f.low f.high (g+1)) (j e d c b a)
def w8 (k:V) (r1:((List (cM×Int))×(List (Int×cM)))) (x1:dq) (b:(List dy)->Option (List dy)) (a:List dy):Option (List dy) := G (x1.Broken) (T (kY k x1.At) λ(c1:Int)=>grd (a.length+1<=2147483648) <|b (a++[(⟨x1.At,c1,(-1),([]:List Int),([]:List Int)⟩:dy)])) (cm (λ(d:Option (List dy))=>G (decide ((0:Int)<(a.length:Int))) (grd (I64 ((a.length:Int)-1)) <|T (cj a ((a.length:Int)-1)) λ(x2:dy)=>T (vP x2) λ(r3:Bool)=>G (r3) (grd (gJ x1.Rune) <|G (((kind x1.Rune):Int)==2) (grd (I64 ((a.length:Int)-1)) <|T (cj a ((a.length:Int)-1)) λ(f:dy)=>T (Bt f x1.Rune) λ(m:dy)=>b (a.set ((a.length:Int)-1:Int).toNat m)) (d)) (d)) (d)) (cm (λ(e:Int->Int->Int->(List Int)->(List Int)->Option (List dy))=>T (vP (⟨x1.At,0,x1.Rune,([]:List Int),([]:List Int)⟩:dy)) λ(l:Bool)=>G (l) (T (wW r1.2 x1.Rune) λ(c:(List Int))=>T (cj c 0) λ(q1:Int)=>grd (0<=(1:Int)/\(1:Int)<=(c.length:Int)/\((c.length:Int):Int)<=(c.length:Int)) <|bP (λ_ _ _ _ _ _=>none) (w7 e c) bN x1.At 0 q1 ([]:List Int) ([]:List Int) 0) (e x1.At 0 x1.Rune ([]:List Int) ([]:List Int))) (λ(u1:Int) (j:Int) (i:Int) (h:List Int) (g:List Int)=>grd (a.length+1<=2147483648) <|b (a++[(⟨u1,j,i,h,g⟩:dy)]))))
def w9 (c:V):Option (List dy) := cm (λ(f:(List dy)->Option (List dy))=>T (Bw) λ(r1:((List (cM×Int))×(List (Int×cM))))=>T (w6 c) λ(r2:V)=>T (uN r2) λ(a:(List dq))=>cm (λ(b:(List dy)->Option (List dy))=>jZ b (w8 c r1) a ([]:List dy)) (λ(d:List dy)=>f d)) (λ(e:List dy)=>some e)
theorem H6 {A:V} {r:(List dy)} (h:w9 A=some r):Fn prog 72 [.string A] [] (λv0:Value=>v0) (λv0=>[oO nE jB 119 5 v0 r]):=by
 refine Fn.intro func72 rfl ntmps72 (by simp) (λw0 K=>vm (I (lE rfl dc rfl (λb1=>O 1 rfl (Y (KN Unit 0 (λ_=>False) (λ_=>[]) (λ_=>[]) rfl ?_ ?_))))))
 ·refine cJ ((List dy)×Nat×Hd×(List Nat)) h 3 rfl (λj1 b=>j1 b.1=some r) (λb=>qW b.2.2.2) (λb=>[(5,zP b.2.1)]) (λb=>[cells b.2.1 [b.2.2.1.v] 116,oO nE jB 119 5 b.2.2.1.v b.1,iR ((b.2.2.2:List Nat).map iJ)]) (λj1 h cut=>?_) ?_
  ·refine I (aU h λr1 d1 h=>ir [] rfl dc rfl rfl rfl G7 (HR d1) aC ?_);rintro⟨b3,t⟩;refine O 1 rfl (fF rfl dc rfl rfl (fF rfl dc rfl rfl (fZ LQ rfl dc (λJ=>O 1 rfl (fJ 4 [.map (some t)] LP rfl rfl rfl rfl rfl (λ_ _=>rfl) rfl (cw (fZ SD rfl dc (λB=>Y (bV (KC (cu (cut (I (bW 1 eJ rfl dc rfl rfl rfl (aU h λr2 d0 h=>ir [.string A] rfl dc rfl rfl rfl Ay (BC d0) aC (λb7=>Y (ck (aU h λcv dY h=>Sb (enc:=nE) (nest:=jB) (e:=119) (size:=5) (tg h λcc dg h=>wx dq ((List dy)×Hd) Unit Nat [18] Ro.nil rfl AA (BB dY) (λpre b=>∀post,cv=pre++post->jZ cc (w8 A r1) post b.1=some r) (λpre b=>[cells b1 [.string A] 9,cells J [.map (some t)] 112,cH (λn:Int=>az .i32 n) (λp:cM=>br #[.int .i32 p.e0,.int .i32 p.e1]) t r1.2,cells B [b.2.v] 116,oO nE jB 119 5 b.2.v b.1]) (λc pre g=>False) (λc pre g=>[]) (λpre x b j=>[(1,zP b1),(2,.slice none 0 0),(4,zP J),(5,zP B),(17,.func (.func 135) #[] #[zP b7]),(6,zP j)]) (λpre x b j=>[cells b1 [.string A] 9,cells J [.map (some t)] 112,cH (λn:Int=>az .i32 n) (λp:cM=>br #[.int .i32 p.e0,.int .i32 p.e1]) t r1.2,cells B [b.2.v] 116,oO nE jB 119 5 b.2.v b.1,cells j (fC x) 102]) (([]:List dy),fe) (λpost e=>by rw[bj] at e;subst e;exact h) (ct [1,4,3,5,7] kr rfl) ⟨.inl ⟨6,rfl⟩,trivial⟩ (λ_=>rfl) dc ?_ ?_ ?_ ?_)))))))))))))))))))
   ·rintro lp rc pre x1 post ⟨o,f⟩ w1 K1 C df dw M;exact bX (fZ rb rfl dc (λb8=>fI 5 (fC x1) (fC x1) mg rfl rfl rfl rfl rfl (show _<=_ by simp) rfl rfl (bC (λa w ha hw=>⟨b8,(gl rfl) _ _ _ ha,hw.weaken (cO 6)⟩))))
   ·rintro lp rc pre x1 a0 ⟨o,f⟩ y w1 K1 C df dw M;have h:=M (x1::a0) C;obtain⟨eq,N⟩:∃ag,ag=jZ cc (w8 A r1) a0:=⟨_,rfl⟩;have h:w8 A r1 x1 eq o=some r:=by have h2:=h;rw[qn,<-N] at h2;exact h2
    refine ck (bV (I (ci DI rfl dc rfl (show _=3 from rfl) (bW 5 sW rfl dc rfl rfl rfl (Y (bu rfl h (λh=>?_) (λh=>?_)))))))
    ·refine bV (aU h λc1 c3 h=>bi h λd7 h=>Dh Nat 9 8 _ [(0,21,f.v),(1,22,zP y),(2,23,zI x1.At),(3,24,.string A),(4,25,zP y),(5,26,zI x1.At),(6,27,.int .u8 c1),(7,28,.agg #[zI x1.At,.int .u8 c1,.int .i32 (-1),.slice none 0 0,.slice none 0 0])] (λb9=>[(29,.slice (some ⟨b9,0,none⟩) 1 1)]) (λb9=>[cells b1 [.string A] 9,cells J [.map (some t)] 112,cH (λn:Int=>az .i32 n) (λp:cM=>br #[.int .i32 p.e0,.int .i32 p.e1]) t r1.2,cells B [f.v] 116,oO nE jB 119 5 f.v o,cells y (fC x1) 102,cells b9 [zI x1.At,.int .u8 c1,.int .i32 (-1),.slice none 0 0,.slice none 0 0] 119]) mixed kr kr rfl dc dc (by rfl) kr kr (fw (λD n d c u i=>bW 3 wI rfl dc (eG (by rfl) rfl) rfl rfl (bf 0 u i)) (fw (λD n d c u i=>ci nD rfl dc (eG (by rfl) rfl) (show _=0 from rfl) (bf 1 u i)) (fw (λD n d c u i=>bW 5 ed rfl dc (aX 1 u d) rfl rfl (bf 2 u i)) (fw (λD n d c u i=>bW 0 eJ rfl dc (eG (by rfl) rfl) rfl rfl (bf 3 u i)) (fw (λD n d c u i=>ci nD rfl dc (eG (by rfl) rfl) (show _=0 from rfl) (bf 4 u i)) (fw (λD n d c u i=>bW 5 ed rfl dc (aX 4 u d) rfl rfl (bf 5 u i)) (fw (λD n d c u i=>oI rfl dc (aX 3 u d) (aX 5 u d) (qX am c3) (bf 6 u i)) (fw (λD n d c u i=>fH (.agg #[zI x1.At,.int .u8 c1,.int .i32 (-1),.slice none 0 0,.slice none 0 0]) [(0,.tmp 23),(1,.tmp 27),(2,.const (.int .i32 (-1)))] rfl dc (gW (aX 2 u d) (gW (aX 6 u d) (gW rfl sM))) (λ_=>by kernel_rfl) (bf 7 u i)) (fA fX))))))))) (λb9=>(fw (λD n d c u i=>bW 3 wI rfl dc (eG (by rfl) rfl) rfl rfl (bf 0 u i)) (fw (λD n d c u i=>ci nD rfl dc (eG (by rfl) rfl) (show _=0 from rfl) (bf 1 u i)) (fw (λD n d c u i=>bW 5 ed rfl dc (aX 1 u d) rfl rfl (bf 2 u i)) (fw (λD n d c u i=>bW 0 eJ rfl dc (eG (by rfl) rfl) rfl rfl (bf 3 u i)) (fw (λD n d c u i=>ci nD rfl dc (eG (by rfl) rfl) (show _=0 from rfl) (bf 4 u i)) (fw (λD n d c u i=>bW 5 ed rfl dc (aX 4 u d) rfl rfl (bf 5 u i)) (fw (λD n d c u i=>oI rfl dc (aX 3 u d) (aX 5 u d) (qX am c3) (bf 6 u i)) (fw (λD n d c u i=>fH (.agg #[zI x1.At,.int .u8 c1,.int .i32 (-1),.slice none 0 0,.slice none 0 0]) [(0,.tmp 23),(1,.tmp 27),(2,.const (.int .i32 (-1)))] rfl dc (gW (aX 2 u d) (gW (aX 6 u d) (gW rfl sM))) (λ_=>by kernel_rfl) (bf 7 u i)) (fA fX)))))))))) (λD hn hd et=>hQ [(0,.tmp 28)] 119 [zI x1.At,.int .u8 c1,.int .i32 (-1),.slice none 0 0,.slice none 0 0] rfl dc (gW (jY 7 kr rfl (hd 7 dc)) sM) (λ_=>by kernel_rfl) (λb9=>λa w ha hw=>⟨b9,KJ (by rfl) _ _ _ ha,hw⟩)) (λb9=>xJ (mK (.i32)) 21 1 (xJ (mK (.i32)) 21 1 (sV 4 rfl xT (λdj c2=>jJ 4 6 [((⟨x1.At,c1,(-1),([]:List Int),([]:List Int)⟩:dy),(fe,fe))] fM LS re ML rfl dc rfl rfl rfl rfl rfl rfl (by rw[GD c2];exact d7) (λv1=>jk 4 rfl (λb0 eb=>?_)))))));subst eb;exact Ai 9 rfl (ct [7,8] kr rfl) rfl (Lc jB dj ((⟨x1.At,c1,(-1),([]:List Int),([]:List Int)⟩:dy),(fe,fe))) (Ai 4 rfl (ct [9] kr rfl) rfl (Aj nE jB (Ld c2)) (kL [cells b1 [.string A] 9,cells J [.map (some t)] 112,cH (λn:Int=>az .i32 n) (λp:cM=>br #[.int .i32 p.e0,.int .i32 p.e1]) t r1.2,cells B [f.v] 116,oO nE jB 119 5 b0.v (o++[(⟨x1.At,c1,(-1),([]:List Int),([]:List Int)⟩:dy)]),cells y (fC x1) 102,cells b9 [zI x1.At,.int .u8 c1,.int .i32 (-1),.slice none 0 0,.slice none 0 0] 119] (cO 7) (fJ 3 [b0.v] LR rfl rfl rfl rfl rfl (λ_ _=>rfl) rfl (Y (dG (bS (dH (nz (o++[(⟨x1.At,c1,(-1),([]:List Int),([]:List Int)⟩:dy)],b0) (λaw e2=>by have e9:=nA C e2;subst e9;subst N;exact h) (cO 5)))))))))
    refine bw (cu (cJ Unit h 0 rfl (λj2 b=>j2=some r) (λb=>[]) (λb=>[(1,zP b1),(2,.slice none 0 0),(4,zP J),(5,zP B),(6,zP y),(17,.func (.func 135) #[] #[zP b7])]) (λb=>[cells b1 [.string A] 9,cells J [.map (some t)] 112,cH (λn:Int=>az .i32 n) (λp:cM=>br #[.int .i32 p.e0,.int .i32 p.e1]) t r1.2,cells B [f.v] 116,oO nE jB 119 5 f.v o,cells y (fC x1) 102]) (λj2 h cut=>?_) ?_))
    ·refine cut (I (bW 3 wI rfl dc rfl rfl rfl (RL (k:=4) rfl dc rfl rfl fM (O 1 rfl (cw (O 1 rfl (E rfl kF (O 1 rfl (du 35 rfl h (λh=>?_) (λh=>?_))))))))))
     ·refine bW 3 wI rfl dc rfl rfl rfl (O 1 rfl (bi h λd6 h=>E rfl (iV ((o.length:Int)-1) (ac _ d6)) (sV 4 rfl xT (λzs2 a1=>aU h λx2 dX h=>?_))));obtain⟨⟨a9,a8⟩,R⟩:=Al a1 dX;refine eN 4 R fM uB rfl dc rfl rfl rfl rfl (oM 4 (((o.length:Int)-1:Int).toNat) 0 (x2,(a9,a8)) [zI x2.at_,.int .u8 x2.broken,.int .i32 x2.base,a9.v,a8.v] s7 re rfl dc rfl rfl (ei R) rfl rfl rfl (sV 6 rfl (Ak (ei R)) (λ_ _=>aU h λr3 dT h=>ru (.bool r3) [.agg #[zI x2.at_,.int .u8 x2.broken,.int .i32 x2.base,a9.v,a8.v]] rfl dc rfl rfl rfl DS (Ev x2 a9 a8 dT) [7,8] kr rfl (O 2 rfl (du 43 rfl h (λh=>?_) (λh=>?_))))))
      ·refine ci sy rfl dc rfl (show _=2 from rfl) (bW 5 fU rfl dc rfl rfl rfl (bi h λdd h=>dF (zI (kind x1.Rune)) [.int .i32 x1.Rune] rfl dc rfl rfl rfl Hg (pc λw=>AJ x1.Rune w dd.1 dd.2) (E rfl eZ (O 1 rfl (Y (bu rfl h (λh=>?_) (λh=>?_)))))))
       ·refine bV (R7 (k:=6) rfl (ct [7,8] kr rfl) rfl (wG jB (ei R) rfl) (bi h λd5 h=>aU h λx3 dB h=>?_));obtain⟨⟨ek,eg⟩,a7⟩:=Al a1 dB;refine aU h λr4 dA h=>jU 6 [(0,49,f.v),(1,50,zI (o.length:Int)),(2,51,zI ((o.length:Int)-1)),(3,52,.pointer (some ⟨eS f.v,((o.length:Int)-1:Int).toNat*5,none⟩)),(4,53,.pointer (some ⟨y,2,none⟩)),(5,54,.int .i32 x1.Rune)] mixed kr kr dc (by rfl) kr kr (bQ (λD n d c u i=>bW 3 wI rfl dc (eG (by rfl) rfl) rfl rfl (bf 0 u i)) (gD 1 1 rfl (bQ (λD n d c u i=>jX rfl dc (aX 1 u d) rfl (iV ((o.length:Int)-1) (ac _ d5)) (bf 2 u i)) (bQ (λD n d c u i=>eN 4 a7 fM uB rfl dc (aX 0 u d) (aX 2 u d) rfl rfl (bf 3 u i)) (bQ (λD n d c u i=>ci sy rfl dc (eG (by rfl) rfl) (show _=2 from rfl) (bf 4 u i)) (bQ (λD n d c u i=>bW 5 fU rfl dc (aX 4 u d) rfl rfl (bf 5 u i)) bM.nil)))))) (sV 6 rfl (Ak (ei a7)) (λ_ _=>ir [.pointer (some ⟨eS f.v,((o.length:Int)-1:Int).toNat*5,none⟩),.int .i32 x1.Rune] rfl dc rfl rfl rfl Mo (Nb f.v x3 ek eg (ei a7) dA) (ct [4,9,10] kr rfl) ?_));rintro⟨a3,a2⟩;exact kL [cells b1 [.string A] 9,cells J [.map (some t)] 112,cH (λn:Int=>az .i32 n) (λp:cM=>br #[.int .i32 p.e0,.int .i32 p.e1]) t r1.2,cells B [f.v] 116,oV f.v (zs2.set (((o.length:Int)-1:Int).toNat) (r4,(a3,a2))),cells y (fC x1) 102,own jB (zs2.eraseIdx (((o.length:Int)-1:Int).toNat)),cT,cT,cT,cT,fr a3.v r4.low,fr a2.v r4.high] (ct [0,1,2,3,11,5,6,7,8,9,10,12,13] kr rfl) (Ai 6 rfl (ct [11,12] kr rfl) rfl (wG jB (zs:=zs2) (z:=(r4,(a3,a2))) (R9 (ei a7)) Sa) (kL [cells b1 [.string A] 9,cells J [.map (some t)] 112,cH (λn:Int=>az .i32 n) (λp:cM=>br #[.int .i32 p.e0,.int .i32 p.e1]) t r1.2,cells B [f.v] 116,oV f.v (zs2.set (((o.length:Int)-1:Int).toNat) (r4,(a3,a2))),cells y (fC x1) 102,own jB (zs2.set (((o.length:Int)-1:Int).toNat) (r4,(a3,a2))),cT,cT] (cO 9) (Y (dG (bS (dH (vz 4 rfl (ct [6] kr rfl) rfl (Aj nE jB (R8 a1)) (nz (o.set ((o.length:Int)-1:Int).toNat r4,f) (λaw e2=>by have e9:=nA C e2;subst e9;subst N;exact h) (cO 5)))))))))
       exact bw (vz 6 rfl (ct [7,8] kr rfl) rfl (wG jB (ei R) rfl) (vz 4 rfl (ct [6] kr rfl) rfl (Aj nE jB a1) (mD () h 6)))
      exact O 5 rfl (Y (eU rfl (bw (vz 6 rfl (ct [7,8] kr rfl) rfl (wG jB (ei R) rfl) (vz 4 rfl (ct [6] kr rfl) rfl (Aj nE jB a1) (mD () h 6))))))
     exact O 13 rfl (bC (cu (eU rfl (bw (mD () h 6)))))
    refine λ_ h=>cJ (Int×Int×Int×(List Int)×(List Int)×Nat×Hd×Hd) h 1 rfl (λj3 b=>j3 b.1 b.2.1 b.2.2.1 b.2.2.2.1 b.2.2.2.2.1=some r) (λb=>[]) (λb=>[(1,zP b1),(2,.slice none 0 0),(4,zP J),(5,zP B),(8,zP b.2.2.2.2.2.1),(17,.func (.func 135) #[] #[zP b7])]) (λb=>[cells b1 [.string A] 9,cells J [.map (some t)] 112,cH (λn:Int=>az .i32 n) (λp:cM=>br #[.int .i32 p.e0,.int .i32 p.e1]) t r1.2,cells B [f.v] 116,oO nE jB 119 5 f.v o,cells b.2.2.2.2.2.1 [zI b.1,.int .u8 b.2.1,.int .i32 b.2.2.1,b.2.2.2.2.2.2.1.v,b.2.2.2.2.2.2.2.v] 119,fr b.2.2.2.2.2.2.1.v b.2.2.2.1,fr b.2.2.2.2.2.2.2.v b.2.2.2.2.1]) (λj3 h cut=>?_) ?_
    ·refine I (ci nD rfl dc rfl (show _=0 from rfl) (bW 5 ed rfl dc rfl rfl rfl (ci sy rfl dc rfl (show _=2 from rfl) (bW 5 fU rfl dc rfl rfl rfl (fH (.agg #[zI x1.At,.int .u8 0,.int .i32 x1.Rune,.slice none 0 0,.slice none 0 0]) [(0,.tmp 57),(2,.tmp 59)] rfl dc rfl (λ_=>by kernel_rfl) (fZ DM rfl dc (λL=>fI 6 [zI x1.At,.int .u8 0,.int .i32 x1.Rune,.slice none 0 0,.slice none 0 0] [zI x1.At,.int .u8 0,.int .i32 x1.Rune,.slice none 0 0,.slice none 0 0] uB rfl rfl rfl rfl rfl (show _<=_ by simp) rfl rfl (Y (cut (I (ju 6 [zI x1.At,.int .u8 0,.int .i32 x1.Rune,.slice none 0 0,.slice none 0 0] s7 rfl dc rfl rfl rfl rfl (xJ (mK (.i32)) 21 1 (xJ (mK (.i32)) 21 1 (aU h λr5 dz h=>ru (.bool r5) [.agg #[zI x1.At,.int .u8 0,.int .i32 x1.Rune,.slice none 0 0,.slice none 0 0]] rfl dc rfl rfl rfl DS (Ev (⟨x1.At,0,x1.Rune,([]:List Int),([]:List Int)⟩:dy) fe fe dz) [7,8] kr rfl (Y (bu rfl h (λh=>?_) (λh=>?_)))))))))))))))))
     ·refine I (bW 1 DJ rfl dc rfl rfl rfl (ci sy rfl dc rfl (show _=2 from rfl) (bW 5 fU rfl dc rfl rfl rfl (aU h λr6 c5 h=>ir [.map (some t),.int .i32 x1.Rune] rfl dc rfl rfl rfl Hf (Nc c5) (ct [2] kr rfl) (λv2=>kL [cells b1 [.string A] 9,cells J [.map (some t)] 112,cH (λn:Int=>az .i32 n) (λp:cM=>br #[.int .i32 p.e0,.int .i32 p.e1]) t r1.2,cells B [f.v] 116,oO nE jB 119 5 f.v o,cells y (fC x1) 102,cells L [zI x1.At,.int .u8 0,.int .i32 x1.Rune,.slice none 0 0,.slice none 0 0] 119,fr (.slice none 0 0) ([]:List Int),fr (.slice none 0 0) ([]:List Int),fr v2 r6] (ct [0,1,9,3,4,5,6,7,8,10] kr rfl) (jk 9 rfl (λbk d9=>?_)))))));subst d9;refine O 1 rfl (cw (O 1 rfl (aU h λq1 bh h=>eN 9 bh bH mN rfl dc rfl rfl rfl rfl (fl 9 ((0:Int).toNat) 0 q1 fU iq rfl dc rfl rfl (ei bh) rfl dc rfl (ci qH rfl dc rfl (show _=2 from rfl) (fJ 6 [zI x1.At,.int .u8 0,.int .i32 q1,.slice none 0 0,.slice none 0 0] mN rfl rfl rfl rfl rfl (λ_ _=>rfl) rfl (cw (O 1 rfl (lF 9 rfl (λdn=>bi h λd4 h=>?_))))))))));obtain⟨v3,bs,ds⟩:=pf (some (zI 1)) none dn bH mN (.inr rfl) (.inl ⟨rfl,rfl⟩) d4;refine jj rfl dc rfl rfl rfl ds (jl bs rfl dc rfl bH (O 1 rfl (Y (ck (oL (mK (.i32)) 21 1 (oL (mK (.i32)) 21 1 (n9 (Int×Int×Int×(List Int)×(List Int)×Int×Hd×Hd) (w7 j3 r6) (λa b=>a b.1 b.2.1 b.2.2.1 b.2.2.2.1 b.2.2.2.2.1 b.2.2.2.2.2.1=some r) (λb=>[]) (λb=>[(1,zP b1),(2,.slice none 0 0),(4,zP J),(5,zP B),(8,zP L),(17,.func (.func 135) #[] #[zP b7]),(72,v3),(73,zI ((ee r6 1 (r6.length:Int)).length:Int)),(74,zI b.2.2.2.2.2.1)]) (λb=>[cells b1 [.string A] 9,cells J [.map (some t)] 112,cH (λn:Int=>az .i32 n) (λp:cM=>br #[.int .i32 p.e0,.int .i32 p.e1]) t r1.2,cells B [f.v] 116,oO nE jB 119 5 f.v o,cells L [zI b.1,.int .u8 b.2.1,.int .i32 b.2.2.1,b.2.2.2.2.2.2.1.v,b.2.2.2.2.2.2.2.v] 119,fr b.2.2.2.2.2.2.1.v b.2.2.2.1,fr b.2.2.2.2.2.2.2.v b.2.2.2.2.1,fr bk.v r6]) (x1.At,0,q1,([]:List Int),([]:List Int),0,fe,fe) h rfl (gl rfl) (ct [0,1,2,3,4,6,10,11,9] kr rfl) ?_)))))));rintro ex ⟨ao,Z,X,W,S,x6,H,F⟩ h;refine I (E rfl dL (Y (bV (bu rfl h (λh=>?_) (λh=>?_)))))
      ·refine bw (cu (bV (ck (I (aU h λq2 bb h=>gm bs bb bH mN rfl dc rfl rfl rfl (fl 8 (0+(1:Int).toNat+(x6:Int).toNat) 0 q2 fU iq rfl dc rfl rfl (cq bs bb) rfl dc rfl (O 1 rfl (Y (bX (O 1 rfl (pd 5 (enc:=nE) [((⟨ao,Z,X,W,S⟩:dy),(H,F))] rfl re rfl (show 1<=maxLen by decide) (aU h λr7 c4 h=>ir [zP L,.int .i32 q2] rfl dc rfl rfl rfl Mo (Nb (.slice (some ⟨L,0,none⟩) 1 1) (⟨ao,Z,X,W,S⟩:dy) H F (show [((⟨ao,Z,X,W,S⟩:dy),(H,F))][0]?=some ((⟨ao,Z,X,W,S⟩:dy),(H,F)) from rfl) c4) (ct [5,6,7] kr rfl) ?_))))))))))));rintro⟨a6,a5⟩;exact kL [cells b1 [.string A] 9,cells J [.map (some t)] 112,cH (λn:Int=>az .i32 n) (λp:cM=>br #[.int .i32 p.e0,.int .i32 p.e1]) t r1.2,cells B [f.v] 116,oO nE jB 119 5 f.v o,oV (.slice (some ⟨L,0,none⟩) 1 1) [(r7,(a6,a5))],cT,cT,fr bk.v r6,fr a6.v r7.low,fr a5.v r7.high] (ct [0,1,2,3,4,9,6,7,8,10,11] kr rfl) (su 5 rfl (Sc re) (bC (cg (cu (bX (bi h λd3 h=>E rfl (c8 (x6+1) (ac _ d3)) (O 1 rfl (bC (iW (r7.at_,r7.broken,r7.base,r7.low,r7.high,x6+1,a6,a5) h rfl (gl rfl) (ct [0,1,2,3,4,5,9,10,8] kr rfl))))))))))
      exact dG (bS (bS (dH (mD (ao,Z,X,W,S,L,H,F) h 8))))
     exact bw (Dp (mK (.i32)) 21 1 (Dp (mK (.i32)) 21 1 (iW (x1.At,0,x1.Rune,([]:List Int),([]:List Int),L,fe,fe) h rfl (gl rfl) (ct [0,1,2,3,4,6,9,10] kr rfl))))
    rintro⟨u1,u2,u3,u4,u5,en,Q,P⟩ h;refine bX (bW 3 wI rfl dc rfl rfl rfl (ju 5 [zI u1,.int .u8 u2,.int .i32 u3,Q.v,P.v] s7 rfl dc rfl rfl rfl rfl (hQ [(0,.tmp 82)] 119 [zI u1,.int .u8 u2,.int .i32 u3,Q.v,P.v] rfl dc rfl (λ_=>by kernel_rfl) (λem=>sV 4 rfl xT (λdi c0=>bi h λd2 h=>jJ 4 8 [((⟨u1,u2,u3,u4,u5⟩:dy),(Q,P))] fM LS re ML rfl dc rfl rfl rfl rfl rfl rfl (by rw[GD c0];exact d2) (λv4=>jk 4 rfl (λa4 d8=>?_)))))));subst d8;exact Ai 9 rfl (ct [6,7] kr rfl) rfl (Lc jB di ((⟨u1,u2,u3,u4,u5⟩:dy),(Q,P))) (Ai 4 rfl (ct [9] kr rfl) rfl (Aj nE jB (Ld c0)) (kL [cells b1 [.string A] 9,cells J [.map (some t)] 112,cH (λn:Int=>az .i32 n) (λp:cM=>br #[.int .i32 p.e0,.int .i32 p.e1]) t r1.2,cells B [f.v] 116,oO nE jB 119 5 a4.v (o++[(⟨u1,u2,u3,u4,u5⟩:dy)]),cells en [zI u1,.int .u8 u2,.int .i32 u3,Q.v,P.v] 119,cT,cT,cells em [zI u1,.int .u8 u2,.int .i32 u3,Q.v,P.v] 119] (cO 9) (fJ 3 [a4.v] LR rfl rfl rfl rfl rfl (λ_ _=>rfl) rfl (bC (cg (nz (o++[(⟨u1,u2,u3,u4,u5⟩:dy)],a4) (λaw e2=>by have e9:=nA C e2;subst e9;subst N;exact h) (cO 5)))))))
   ·rintro ch ⟨o,f⟩ M;have h:cc o=some r:=M [] (aE _).symm;rw[dg] at h;show TX _ _ _ _ _ _ _ [iR ((([]:List Nat):List Nat).map iJ),cT,cH (λp:cM=>br #[.int .i32 p.e0,.int .i32 p.e1]) (λn:Int=>az .i32 n) b3 r1.1,cT,cT,cT,cells b7 [.string r2] 9,cT,cells b1 [.string A] 9,cells J [.map (some t)] 112,cH (λn:Int=>az .i32 n) (λp:cM=>br #[.int .i32 p.e0,.int .i32 p.e1]) t r1.2,cells B [f.v] 116,oO nE jB 119 5 f.v o,iJ ch];exact vl 13 0 rfl rfl dc (cg (iW (o,B,f,ch::([]:List Nat)) h rfl (gl rfl) (ct [11,12,0] kr rfl)))
   exact λch c pre x1 post g es hX=>(show False from hX).elim
  rintro⟨l1,b2,ec,ds1⟩ h;refine I (bW 0 wI rfl dc rfl rfl rfl (O 1 rfl (Y (bO (Dj (by simp) ?_)))));cases h;exact sw [.tmp 2] ds1 ec.v (.inl rfl) (sq 2 rfl) results72 (.cons (.tmp rfl) .nil) rfl (ct [1] kr rfl)
 exact λb hb=>hb.elim
def mj (b:V):Int:=((b.data.toList.headD 0).toNat:Int)
def gE (c:bn×List bn):dy:=if c.1.Rune<0 then ⟨c.1.At,mj c.1.Text,-1,[],[]⟩ else ⟨c.1.At,0,c.1.Rune,(loI c.2).map (·.Rune),(hiI c.2).map (·.Rune)⟩
def kQ (u:dy) (r:Int):dy:=if ow r then ⟨u.at_,u.broken,u.base,u.low++[r],u.high⟩ else ⟨u.at_,u.broken,u.base,u.low,u.high++[r]⟩
theorem NE (u:dy) (r:Int) (h1:u.low.length<=2000000000) (h2:u.high.length<=2000000000):Bt u r=some (kQ u r):=by
 unfold Bt;refine aV (VX r) ?_;unfold kQ;cases ow r with
 |true=>exact ca rfl (gO rfl)
 |false=>exact bR rfl (gO rfl)
theorem NF (x:bn) (hx:0<=x.Rune) (a:List bn) (y:bn):kQ (gE (x,a)) y.Rune=gE (x,a++[y]):=by
 unfold kQ gE loI hiI;simp only[ai (show ¬x.Rune<0 by omega),List.filter_append];show (if ob y then _ else _)=_
 cases h:ob y<;>simp[h]
theorem Wx (u:dy) (a:List Int) (c:List Int) (b:Int) (hr:c=b::a) (f:u.low.length+u.high.length+a.length<=1000000000) (J:Int->Int->Int->(List Int)->(List Int)->Option (List dy)) : bP (λ_ _ _ _ _ _=>none) (w7 J c) bN u.at_ u.broken u.base u.low u.high 0=J (a.foldl kQ u).at_ (a.foldl kQ u).broken (a.foldl kQ u).base (a.foldl kQ u).low (a.foldl kQ u).high:=by
 have hc:ee c 1 (c.length:Int)=a:=by
  subst hr;unfold ee;simp
 have key:∀ (n k:Nat) (u:dy),k<=a.length->a.length-k<n->u.low.length+u.high.length+(a.length-k)<=1000000000 ->
   bP (λ_ _ _ _ _ _=>none) (w7 J c) n u.at_ u.broken u.base u.low u.high (k:Int)=J ((a.drop k).foldl kQ u).at_ ((a.drop k).foldl kQ u).broken ((a.drop k).foldl kQ u).base ((a.drop k).foldl kQ u).low ((a.drop k).foldl kQ u).high:=by
  intro n
  induction n with
  |zero=>intro k u _ h;omega
  |succ n d=>
   intro k u hk e hb;rw[iB];generalize bP (λ_ _ _ _ _ _=>none) (w7 J c) n=ag at d |-
   unfold w7;rw[hc];by_cases h:k<a.length
   ·have hx:a[k]?=some a[k]:=aJ h;refine ca (oa hx) (aV (mY hx) (aV (NE u _ z1 z1) (dI (kG z1) ?_)));have hm:(kQ u a[k]).low.length+(kQ u a[k]).high.length=u.low.length+u.high.length+1:=by
     unfold kQ;split<;>simp<;>omega
    have:=d (k+1) (kQ u a[k]) z1 z1 z1
    push_cast at this
    rw[this,aQ h];rfl
   ·have:k=a.length:=by omega
    subst this;exact bR nR (by rw[ix];rfl)
 have:=key bN 0 u (bT _) (by have:=jC (n:=a.length) z1;omega) z1;simpa using this
def qb (s:V) (l:List dy) (p:dq):List dy :=
 if p.Broken then l++[⟨p.At,(kY s p.At).getD 0,-1,[],[]⟩]
 else match l.getLast? with
  |some u=>if dx u.base&&fV p.Rune then l.set (l.length-1) (kQ u p.Rune) else l++[if dx p.Rune then (jp p.Rune).tail.foldl kQ ⟨p.At,0,(jp p.Rune).headD 0,[],[]⟩ else ⟨p.At,0,p.Rune,[],[]⟩]
  |none=>l++[if dx p.Rune then (jp p.Rune).tail.foldl kQ ⟨p.At,0,(jp p.Rune).headD 0,[],[]⟩ else ⟨p.At,0,p.Rune,[],[]⟩]
def EE (k:Nat) (l:List dy):Prop:=l.length<=k/\∀u∈l,u.low.length+u.high.length<=3*k/\gJ u.base
theorem NG (u:dy) (r:Int):(kQ u r).low.length+(kQ u r).high.length=u.low.length+u.high.length+1/\(kQ u r).base=u.base:=by
 unfold kQ;split<;>simp<;>omega
theorem Wy (a:List Int):∀u:dy,(a.foldl kQ u).low.length+(a.foldl kQ u).high.length=u.low.length+u.high.length+a.length/\(a.foldl kQ u).base=u.base:=by
 induction a with
 |nil=>intro u;simp
 |cons m a b=>intro u;have:=b (kQ u m);have h2:=NG u m;rw[bz];simp only[ab];constructor;omega;rw[this.2,h2.2]
theorem NH (p:dq) (hp:gJ p.Rune) (k:Nat):((if dx p.Rune then (jp p.Rune).tail.foldl kQ ⟨p.At,0,(jp p.Rune).headD 0,[],[]⟩ else ⟨p.At,0,p.Rune,[],[]⟩:dy).low.length+(if dx p.Rune then (jp p.Rune).tail.foldl kQ ⟨p.At,0,(jp p.Rune).headD 0,[],[]⟩ else ⟨p.At,0,p.Rune,[],[]⟩:dy).high.length<=3*(k+1))/\gJ (if dx p.Rune then (jp p.Rune).tail.foldl kQ ⟨p.At,0,(jp p.Rune).headD 0,[],[]⟩ else ⟨p.At,0,p.Rune,[],[]⟩:dy).base:=by
 cases h:dx p.Rune with
 |false=>simp only[bp,if_false];exact⟨by simp,hp⟩
 |true=>
  simp only[if_true];have h1:=Wy (jp p.Rune).tail ⟨p.At,0,(jp p.Rune).headD 0,[],[]⟩;have h2:=HX p.Rune;have h3:(jp p.Rune).tail.length<=2:=by rw[List.length_tail];omega
  refine⟨by rw[h1.1];simp;omega,?_⟩;rw[h1.2];have c:=EA hp;cases a:jp p.Rune with
  |nil=>rw[a] at h2;simp at h2
  |cons b d=>exact c b (by rw[a];exact ar ..)
theorem WA (s:V) (k:Nat) (p:dq) (l:List dy) (hp:gJ p.Rune) (h:EE k l):EE (k+1) (qb s l p):=by
 obtain⟨h1,h2⟩:=h;have a:∀u:dy,(u.low.length+u.high.length<=3*(k+1)/\gJ u.base)->EE (k+1) (l++[u]):=λu hu=>⟨by simp;omega,λv hv=>by
  rcases bv.1 hv with hv|hv
  ·have:=h2 v hv;exact⟨by omega,this.2⟩
  ·simp at hv;subst hv;exact hu⟩
 unfold qb;split
 ·exact a _ ⟨by simp,(show gJ (-1) from ⟨by omega,by omega⟩)⟩
 ·split
  ·rename_i u hu;split
   ·have hm:=sN hu;refine⟨by simp;omega,λv hv=>?_⟩;rcases List.mem_or_eq_of_mem_set hv with hv|rfl
    ·have:=h2 v hv;exact⟨by omega,this.2⟩
    ·have:=h2 u hm;have h3:=NG u p.Rune;exact⟨by omega,by rw[h3.2];exact this.2⟩
   ·exact a _ (NH p hp k)
  ·exact a _ (NH p hp k)
theorem WB (s:V) (K:s.size<=65536):w9 s=some (((fK s.data.toList).map iH).foldl (qb s) []):=by
 unfold w9;refine cL (aV Ng (aV (a:=s) rfl (aV (BD s z1) (cL ?_))));have hc:=sE s;have hr:∀p∈(fK s.data.toList).map iH,gJ p.Rune/\(p.Broken=true->kY s p.At=some ((kY s p.At).getD 0)):=by
  intro p hp;obtain⟨q,c,rfl⟩:=aT.1 hp;obtain⟨g1,g2,g⟩:=wK s.data.toList q c;have hv:=g.valid;have j:s.data.toList.length=s.size:=by rw[eC];rfl
  refine⟨⟨by simp only[iH];omega,by simp only[iH];omega⟩,λ_=>?_⟩;have J:=g.pos;rw[show (iH q).At=(q.i:Int) from rfl,Gp q.i rfl z1];rfl
 have key:∀ (ps:List dq) (k:Nat) (l:List dy),EE k l->k+ps.length<=65536->(∀p∈ps,gJ p.Rune/\(p.Broken=true->kY s p.At=some ((kY s p.At).getD 0)))->jZ (some:List dy->_) (w8 s (j0,eP)) ps l=some (ps.foldl (qb s) l):=by
  intro ps
  induction ps with
  |nil=>intro k l _ _ _;rfl
  |cons p ps D=>
   intro k l hb hk hp;obtain⟨e,r⟩:=hp p (ar ..);obtain⟨v,m⟩:=hb;simp only[ab] at hk;rw[qn,bz,<-D (k+1) (qb s l p) (WA s k p l e ⟨v,m⟩) z1 (λq c=>hp q (ak _ c))];generalize jZ (some:List dy->_) (w8 s (j0,eP)) ps=ag;unfold w8 qb;cases hB:p.Broken with
   |true=>exact ca rfl (aV (r hB) (gO (by simp)))
   |false=>
    simp only[bp,if_false];refine bR rfl (cL ?_);have d:(cm (λ(w:Int->Int->Int->(List Int)->(List Int)->Option (List dy))=>
      T (vP (⟨p.At,0,p.Rune,([]:List Int),([]:List Int)⟩:dy)) λ(B:Bool)=>
      G (B) (T (wW (j0,eP).2 p.Rune) λ(f:(List Int))=>
       T (cj f 0) λ(q1:Int)=>grd (0<=(1:Int)/\(1:Int)<=(f.length:Int)/\((f.length:Int):Int)<=(f.length:Int)) <|
       bP (λ_ _ _ _ _ _=>none) (w7 w f) bN p.At 0 q1 ([]:List Int) ([]:List Int) 0) (w p.At 0 p.Rune ([]:List Int) ([]:List Int)))
      (λ(u1:Int) (A:Int) (z:Int) (y:List Int) (x:List Int)=>grd (l.length+1<=2147483648)<|ag (l++[(⟨u1,A,z,y,x⟩:dy)]))) =
      ag (l++[if dx p.Rune then (jp p.Rune).tail.foldl kQ ⟨p.At,0,(jp p.Rune).headD 0,[],[]⟩ else ⟨p.At,0,p.Rune,[],[]⟩]):=by
     refine cL (aV (Ey _ e) ?_);show G (dx p.Rune) _ _=_;cases hL:dx p.Rune with
     |false=>exact bR rfl (gO (by simp))
     |true=>
      obtain⟨b,C,c,_,_,_,F⟩:=vQ hL;refine ca rfl (aV (Wc _) (aV (a:=b) (by rw[c];rfl) (dI (by rw[c];simp only[ab];omega) ?_)));refine (Wx (⟨p.At,0,b,[],[]⟩:dy) C (jp p.Rune) b c (by simp;omega) _).trans (gO ?_);rw[c];simp
    cases o:l.getLast? with
    |none=>
     have:l=[]:=List.getLast?_eq_none_iff.1 o;subst this;exact bR (by decide) d
    |some u=>
     have t:l≠[]:=by intro h;subst h;cases o
     have j:0<l.length:=List.length_pos_iff.2 t;have hm:=sN o;have hu:=m u hm;have hg:cj l ((l.length:Int)-1)=some u:=wA (n:=l.length-1) z1 (by rw[<-List.getLast?_eq_getElem?];exact o);refine eQ (gO (aV hg (aV (Ey u hu.2) ?_)));cases hL:dx u.base with
     |false=>exact bR rfl (by simpa [hL] using d)
     |true=>
      refine ca rfl (dI e ?_);rw[Nj];cases H:fV p.Rune with
      |false=>exact bR rfl (by simpa [hL,H] using d)
      |true=>
       refine ca rfl (gO (aV hg (aV (NE u _ z1 z1) ?_)));simp only[Bool.and_self,if_true];rw[show ((l.length:Int)-1).toNat=l.length-1 by omega];simp[hL]
 have:=key ((fK s.data.toList).map iH) 0 [] ⟨by simp,by simp⟩ (by simp;omega) hr;exact this
theorem NI {s:V} {p:Pc} (hp:p∈fK s.data.toList):(p.broken=true->(itG s p).Rune=-1/\(itG s p).Text.size=1/\mj (itG s p).Text=(kY s p.i).getD 0)/\(p.broken=false->(itG s p).Rune=p.r/\(itG s p).Text=ae (p.r:Int)):=by
 obtain⟨g1,g2,b⟩:=wK s.data.toList p hp;have d:s.data.toList.length=s.size:=by rw[eC];rfl
 have hf:=Nx hp;have f:=b.pos;constructor
 ·intro hb;have a:p.w=1:=by unfold Pc.broken at hb;simp at hb;exact hb.2
  refine⟨by simp[itG,hb],by simp[itG,a];omega,?_⟩;have e:(itG s p).Text.data.toList=(s.data.toList.drop p.i).take p.w:=by
   show (s.extract p.i (p.i+p.w)).data.toList=_;rw[oH];simp
  unfold mj;rw[e,a,Gp p.i rfl z1];have hi:p.i<s.data.toList.length:=by omega
  rw[aQ hi];simp;rfl
 ·intro hb;refine⟨by simp[itG,hb],?_⟩;have c:¬(p.r=65533/\p.w=1):=by
   unfold Pc.broken at hb;simpa using hb
  apply ByteArray.ext;apply gI.1;show (s.extract p.i (p.i+p.w)).data.toList=_;rw[oH];have h1:=b.bytes c;rw[pg,h1];simp
theorem WC (a:Option (bn×List bn)) (x:bn) (xs:List bn) (h:∀c,a=some c->(eE c.1&&isM x)=false):gY a (x::xs)=a.toList++gY (some (x,[])) xs:=by
 cases a with
 |none=>rfl
 |some c=>
  show (if eE c.1&&isM x then gY (some (c.1,c.2++[x])) xs else c::gY (some (x,[])) xs)=_
  rw[h c rfl];rfl
theorem EF (x:bn) (hx:eE x=true) (xs:List bn):∀ (a ks:List bn),(∀m∈a,isM m=true)->gY (some (x,ks)) (a++xs)=gY (some (x,ks++a)) xs
 |[],ks,_=>by simp
 |m::a,ks,h=>by
  rw[aW];show (if eE x&&isM m then gY (some (x,ks++[m])) (a++xs) else _)=_
  rw[hx,h m (ar ..)];simp only[Bool.and_self,if_true];rw[EF x hx xs a (ks++[m]) (λz hz=>h z (ak _ hz))];simp
theorem NJ (x:bn) (hx:0<=x.Rune):∀ (a ks:List bn),(a.map (·.Rune)).foldl kQ (gE (x,ks))=gE (x,ks++a)
 |[],ks=>by simp
 |m::a,ks=>by
  rw[au,bz,NF x hx,NJ x hx a];simp
theorem H7 (c:bn×List bn) (h:0<=c.1.Rune):(gE c).base=c.1.Rune:=by
 unfold gE;rw[ai z1]
theorem NK (c:bn×List bn):dx (gE c).base=eE c.1:=by
 unfold gE eE;split
 ·rename_i h;have h1:dx (-1)=false:=by decide
  have h2:dx c.1.Rune=false:=by
   cases e:dx c.1.Rune with
   |false=>rfl
   |true=>have:=(ov _ e).1;omega
  rw[h2];exact h1
 ·rfl
theorem NL (s:V):∀ (ps:List Pc) (a:Option (bn×List bn)) (L:List dy),(∀p∈ps,p∈fK s.data.toList)->(a=none->L=[]) ->
  (ps.map iH).foldl (qb s) (L++a.toList.map gE)=L++(gY a (apL (ps.map (itG s)))).map gE
 |[],a,L,_,_=>by
  cases a<;>simp[apL,gY]
 |p::ps,a,L,hp,hcur=>by
  rw[au,bz,au];have D:apL (itG s p::ps.map (itG s))=ku (itG s p)++apL (ps.map (itG s)):=by unfold apL;rw[aK]
  rw[D];obtain⟨A,t⟩:=NI (hp p (ar ..));have tail:=λw L' hc=>NL s ps w L' (λq y=>hp q (ak _ y)) hc;have hv:p.broken=false->0<=(itG s p).Rune:=λh=>by rw[(t h).1];omega
  have l:∀ (x:bn) (d:List bn),(eE x=false->d=[])->(∀m∈d,isM m=true)->(∀c,a=some c->(eE c.1&&isM x)=false)->qb s (L++a.toList.map gE) (iH p)=(L++a.toList.map gE)++[gE (x,d)]->ku (itG s p)=x::d ->
    (ps.map iH).foldl (qb s) (qb s (L++a.toList.map gE) (iH p))=L++(gY a (ku (itG s p)++apL (ps.map (itG s)))).map gE:=by
   intro x d h1 h2 h3 Q h5;rw[Q,h5,aW,WC a x _ h3];have P:gY (some (x,[])) (d++apL (ps.map (itG s)))=gY (some (x,d)) (apL (ps.map (itG s))):=by
    cases hx:eE x with
    |true=>rw[EF x hx _ d [] h2];rfl
    |false=>rw[h1 hx];rfl
   have:=tail (some (x,d)) (L++a.toList.map gE) (by simp);rw[show (L++a.toList.map gE)++[gE (x,d)]=(L++a.toList.map gE)++(some (x,d)).toList.map gE from rfl,this,P];simp
  cases hB:p.broken with
  |true=>
   obtain⟨e1,e2,R⟩:=A hB;have hL:eE (itG s p)=false:=by unfold eE;rw[e1];decide
   have N:isM (itG s p)=false:=by unfold isM;rw[e1];decide
   refine l (itG s p) [] (λ_=>rfl) (by simp) (λc _=>by rw[N,Bool.and_false]) ?_ (by unfold ku;rw[hL];rfl);unfold qb;rw[show (iH p).Broken=true from hB];simp only[if_true];have:gE (itG s p,[])=⟨(itG s p).At,mj (itG s p).Text,-1,[],[]⟩:=by unfold gE;rw[aj (by rw[e1];omega)]
   rw[this,R];rfl
  |false=>
   obtain⟨e1,e2⟩:=t hB;have h0:0<=(itG s p).Rune:=hv hB;have j:(iH p).Rune=(itG s p).Rune:=by rw[e1];rfl
   have f:∃x d,ku (itG s p)=x::d/\(eE x=false->d=[])/\(∀m∈d,isM m=true)/\eE x=eE (itG s p)/\isM x=isM (itG s p) /\
     (if dx (iH p).Rune then (jp (iH p).Rune).tail.foldl kQ ⟨(iH p).At,0,(jp (iH p).Rune).headD 0,[],[]⟩ else ⟨(iH p).At,0,(iH p).Rune,[],[]⟩)=gE (x,d):=by
    rw[j];cases hL:eE (itG s p) with
    |false=>
     have i:dx (itG s p).Rune=false:=hL;refine⟨itG s p,[],by unfold ku;rw[hL];rfl,λ_=>rfl,by simp,hL,rfl,?_⟩;rw[i];unfold gE;rw[ai (show ¬(itG s p,([]:List bn)).1.Rune<0 by show ¬(itG s p).Rune<0;omega)];rfl
    |true=>
     have i:dx (itG s p).Rune=true:=hL;obtain⟨b,d,y,hb,_,z,_⟩:=vQ i;have B:=(ov b hb).1;refine⟨⟨b,ae b,(itG s p).At⟩,d.map λr=>⟨r,ae r,(itG s p).At⟩,by unfold ku;rw[hL,y];rfl,(λh=>by rw[show eE (⟨b,ae b,(itG s p).At⟩:bn)=true from hb] at h;cases h),?_,hb,?_,?_⟩
     ·intro m hm;obtain⟨r,hr,rfl⟩:=aT.1 hm;exact z r hr
     ·have H:isM (itG s p)=false:=by
       cases e:isM (itG s p) with
       |false=>rfl
       |true=>have:=sF (show fV (itG s p).Rune=true from e);rw[i] at this;cases this
      have F:isM (⟨b,ae b,(itG s p).At⟩:bn)=false:=by
       cases e:isM (⟨b,ae b,(itG s p).At⟩:bn) with
       |false=>rfl
       |true=>have:=sF (show fV b=true from e);rw[hb] at this;cases this
      rw[H,F]
     ·rw[i,y];have:=NJ ⟨b,ae b,(itG s p).At⟩ B (d.map λr=>⟨r,ae r,(itG s p).At⟩) [];have hm:(d.map λr=>(⟨r,ae r,(itG s p).At⟩:bn)).map (·.Rune)=d:=by rw[cF];simp[Function.comp_def]
      rw[hm] at this;rw[bj] at this;rw[<-this];have ht:gE (⟨b,ae b,(itG s p).At⟩,[])=⟨(itG s p).At,0,b,[],[]⟩:=by
       unfold gE;rw[ai (show ¬b<0 by omega)];rfl
      rw[ht];rfl
   obtain⟨x,d,ha,o,hm2,M,n,f⟩:=f;cases a with
   |none=>
    have hL:=hcur rfl;subst hL;refine l x d o hm2 (λc h=>by cases h) ?_ ha;unfold qb;rw[show (iH p).Broken=false from hB];simp only[bp,if_false,sO,fm,aE,List.getLast?_nil];rw[f]
   |some c=>
    have g:(L++[gE c]).getLast?=some (gE c):=by simp
    cases hk:(eE c.1&&isM x) with
    |false=>
     refine l x d o hm2 (λS h=>by cases h;exact hk) ?_ ha;show qb s (L++[gE c]) (iH p)=(L++[gE c])++[gE (x,d)];unfold qb;rw[show (iH p).Broken=false from hB,g];simp only[bp,if_false];rw[NK,show fV (iH p).Rune=isM x by rw[n,j];rfl,hk,f];simp
    |true=>
     have k:=hk;rw[aN] at k;have v:isM (itG s p)=true:=by rw[<-n];exact k.2
     have J:eE (itG s p)=false:=sF v;have C:ku (itG s p)=[itG s p]:=by unfold ku;rw[J];rfl
     rw[C,List.singleton_append];have u:qb s (L++(some c).toList.map gE) (iH p)=L++(some (c.1,c.2++[itG s p])).toList.map gE:=by
      show qb s (L++[gE c]) (iH p)=L++[gE (c.1,c.2++[itG s p])];unfold qb;rw[show (iH p).Broken=false from hB,g];simp only[bp,if_false];rw[NK,show fV (iH p).Rune=isM x by rw[n,j];rfl,hk];simp only[if_true];have K:0<=c.1.Rune:=(ov _ k.1).1;rw[j,NF c.1 K c.2 (itG s p)];simp
     rw[u,tail _ _ (by simp)];congr 2;show _=gY (some c) (itG s p::apL (ps.map (itG s)));show _=(if eE c.1&&isM (itG s p) then gY (some (c.1,c.2++[itG s p])) (apL (ps.map (itG s))) else _)
     rw[k.1,v];rfl
def lS (s:V):List (bn×List bn):=cl (apL (ij s))
theorem H8 (s:V) (a:s.size<=65536):w9 s=some ((lS s).map gE):=by
 rw[WB s a];have:=NL s (fK s.data.toList) none [] (λp hp=>hp) (λ_=>rfl);simp only[sO,fm,aE,bj] at this;rw[this];rfl
def EG (e:List dy) (g:V->Option V) (d:V->Int->Option V) (a:V) (c:Int):Option V := G (decide ((c:Int)<(e.length:Int))) (cm (λ(f:V->Option V)=>T (cj e c) λ(b:dy)=>G (decide ((b.base:Int)<0)) (grd (a.size+1<=140737488355328) <|grd (∀x∈([b.broken]:List Int),U8 x) <|f (a++(kK [b.broken]))) (T (Bu b) λ(r1:V)=>grd (a.size+r1.size<=140737488355328) <|f (a++r1))) (λ(h:V)=>grd (I64 (c+1)) <|d h (c+1))) (g a)
def EH (a:List dy):Option V := cm (λ(b:V->Option V)=>bP (λ_ _=>none) (EG a b) bN af 0) (λ(b1:V)=>some b1)
theorem WD {f n:Value} {c:List (dy×Hd×Hd)} {u:Nat} {s:List (dy×Hd×Hd)} {t:List dy} (g:Vw f c 5 u n s) (p:s.map bE=t) {r:V} (h:EH t=some r):Fn prog 71 [n,.func (.func 104) #[] #[]] [oV f c,own jB c] (λ_b:Unit=>.string r) (λ_b=>[oV f c,own jB c]):=by
 refine Fn.intro func71 rfl ntmps71 (by simp) (λw0 K=>cJ (V×Value) h 2 rfl (λx b=>x b.1=some r) (λb=>[]) (λb=>[(5,b.2)]) (λb=>[oV f c,own jB c,byt 5 b.2 b.1]) (λx h cut=>?_) ?_)
 ·refine I (O 1 rfl (cw (O 1 rfl (Y (cut (I (O 1 rfl (GE p g rfl dc rfl fM (O 1 rfl (Y (ck (Dw (e:=5) (fP (V×Int×Value) (EG t x) (λa b=>a b.1 b.2.1=some r) (λb=>[]) (λb=>[(1,.func (.func 104) #[] #[]),(5,b.2.2),(8,n),(9,zI (t.length:Int)),(10,zI b.2.1)]) (λb=>[oV f c,own jB c,byt 5 b.2.2 b.1]) (af,0,(.slice none 0 0)) h 3 ?_)))))))))))));rintro Q ⟨F,w,N⟩ h;refine I (E rfl dL (Y (bV (bu rfl h (λh=>?_) (λh=>?_)))))
  ·refine bw (cu (cJ (V×Value) h 0 rfl (λH b=>H b.1=some r) (λb=>[]) (λb=>[(1,.func (.func 104) #[] #[]),(5,b.2),(8,n),(9,zI (t.length:Int)),(10,zI w)]) (λb=>[oV f c,own jB c,byt 5 b.2 b.1]) (λH h cut=>?_) ?_))
   ·refine cut (ck (I (aU h λd z h=>?_)));obtain⟨⟨m,l⟩,o⟩:=Al p z;exact gm g o fM uB rfl dc rfl rfl rfl (oM 0 (u+(w:Int).toNat) 0 (d,(m,l)) [zI d.at_,.int .u8 d.broken,.int .i32 d.base,m.v,l.v] s7 re rfl dc rfl rfl (cq g o) rfl rfl rfl (fZ DM rfl dc (λS=>fI 3 [zI d.at_,.int .u8 d.broken,.int .i32 d.base,m.v,l.v] [zI d.at_,.int .u8 d.broken,.int .i32 d.base,m.v,l.v] uB rfl rfl rfl rfl rfl (show _<=_ by simp) rfl rfl (cw (ci qH rfl dc rfl (show _=2 from rfl) (bW 3 fU rfl dc rfl rfl rfl (E rfl dL (Y (bu rfl h (λh=>bX (O 1 rfl (ci GW rfl dc rfl (show _=1 from rfl) (bW 3 GL rfl dc rfl rfl rfl (hQ [(0,.tmp 19)] 5 [.int .u8 d.broken] rfl dc rfl (λ_=>by kernel_rfl) (λR=>bi h λD h=>bi h λC h=>Gk (kK [d.broken]) 4 (k:=2) dr vA rfl dc rfl rfl rfl rfl (GC C) rfl D (λL=>O 1 rfl (bC (cg (mD (F++(kK [d.broken]),L) h 3)))))))))) (λh=>bX (O 2 rfl (ju 3 [zI d.at_,.int .u8 d.broken,.int .i32 d.base,m.v,l.v] s7 rfl dc rfl rfl rfl rfl (sV 1 rfl (Ak (cq g o)) (λ_ _=>aU h λr1 y h=>ru (.string r1) [.agg #[zI d.at_,.int .u8 d.broken,.int .i32 d.base,m.v,l.v]] rfl dc rfl rfl rfl TF (VM d m l y) [4,5] kr rfl (bi h λB h=>z7 2 dr am vA rfl dc rfl rfl rfl B (λJ=>O 1 rfl (bC (cg (vz 1 rfl (ct [4,5] kr rfl) rfl (wG jB (cq g o) rfl) (mD (F++r1,J) h 3))))))))))))))))))))
   rintro⟨P,M⟩ h;exact bX (bi h λA h=>E rfl (c8 (w+1) (ac _ A)) (O 1 rfl (bC (mD (P,w+1,M) h 3))))
  exact dG (bS (bS (dH (mD (F,N) h 3))))
 rintro⟨b1,v1⟩ h;refine I (O 1 rfl (tG 2 rfl dc rfl rfl dr underlying5 am (O 1 rfl (Y (bO ?_)))));cases h;exact eW [.tmp 4] () (.inl rfl) results71 (.cons (.tmp rfl) .nil) rfl (cO 2)
def ri (a:V):Option V := T (w9 a) λ(r1:(List dy))=>T (EH r1) λ(r2:V)=>some r2
theorem tV {a:V} {r:V} (h:ri a=some r):eO prog 54 [.string a] (.string r):=by
 refine eO.intro func54 rfl ntmps54 (by simp) (λw0 K=>I (O 1 rfl (cw (O 1 rfl (aU h λr1 e h=>ir [.string a] rfl dc rfl rfl rfl G9 (H6 e) aC (λv1=>Gw (k:=0) rfl (λg f=>?_)))))));subst f;refine sV 0 rfl xT (λi b=>lF 0 rfl (λc=>aU h λr2 d h=>ru (.string r2) [g.v,.func (.func 104) #[] #[]] rfl dc rfl rfl rfl G8 (WD c b d) [0,1] kr rfl (O 1 rfl (Y (bO ?_)))));cases h;exact dt 2 results54
def EI (r1:Int):Option V := T (ED r1) λ(r2:V)=>T (ri r2) λ(r3:V)=>some r3
theorem NM {r1:Int} {r:V} (h:EI r1=some r):eO prog 49 [.int .i32 r1] (.string r):=by
 refine eO.intro func49 rfl ntmps49 (by simp) (λw0 K=>I (O 1 rfl (cw (O 1 rfl (aU h λr2 b h=>dF (.string r2) [.int .i32 r1] rfl dc rfl rfl rfl Tz (Wq b) (aU h λr3 a h=>dF (.string r3) [.string r2] rfl dc rfl rfl rfl tM (tV a) (O 1 rfl (Y (bO ?_)))))))));cases h;exact dt 2 results49
section
variable {α β:Type}
def J (f:α->V) (l:List α):V:=l.foldl (λs x=>s++f x) af
theorem H9 (f:α->V):∀ (l:List α) (b:V),l.foldl (λs x=>s++f x) b=b++J f l
 |[],b=>by simp[J]
 |x::l,b=>by
  unfold J;rw[bz,H9 f l,bz,H9 f l (af++f x),el,dE]
theorem tn (f:α->V):J f []=af:=rfl
theorem kH (f:α->V) (x:α) (l:List α):J f (x::l)=f x++J f l:=by
 show (l.foldl _ (af++f x))=_;rw[H9,el]
theorem BE (f:α->V):∀ (a b:List α),J f (a++b)=J f a++J f b
 |[],b=>by rw[bj,tn,el]
 |x::a,b=>by rw[aW,kH,kH,BE f a,dE]
theorem Ib (f:β->V) (g:α->List β):∀l:List α,J f (l.flatMap g)=J (λx=>J f (g x)) l
 |[]=>rfl
 |x::l=>by rw[aK,BE,kH,Ib f g l]
theorem tW (f:β->V) (g:α->β):∀l:List α,J f (l.map g)=J (λx=>f (g x)) l
 |[]=>rfl
 |x::l=>by rw[au,kH,kH,tW f g l]
theorem uO {f g:α->V}:∀ {l:List α},(∀x∈l,f x=g x)->J f l=J g l
 |[],_=>rfl
 |x::l,h=>by rw[kH,kH,h x (ar ..),uO (λy hy=>h y (ak _ hy))]
theorem Ic (f:α->V) (m:Nat):∀ {l:List α},(∀x∈l,(f x).size<=m)->(J f l).size<=l.length*m
 |[],_=>by simp[J]
 |x::l,h=>by
  rw[kH,aM,ab,dC,kW];have:=Ic f m (λy hy=>h y (ak _ hy));have:=h x (ar ..);omega
end
theorem tp (l:List Int):kl l=J ae l:=rfl
theorem NN (l:List bn):uM l=J (·.Text) l:=rfl
theorem oX (r:Int):(ae r).size<=4:=by
 rw[Ab];exact (Ac r).2
def wr (a:dy->V) (u:dy):V:=if u.base<0 then kK [u.broken] else a u
theorem WE (a:dy->V) (l:List dy) (d:l.length<=1048576) (h:∀u∈l,u.base<0/\U8 u.broken\/0<=u.base/\Bu u=some (a u)/\(a u).size<=1048576):EH l=some (J (wr a) l):=by
 unfold EH;refine cL ((tj l (λb u=>b++wr a u) some (λk b=>b.size<=k*1048576) ?_ ?_ ?_ (jC z1) (by decide)).trans rfl)
 ·intro ag k u b hu hb;have hk:=pM hu;unfold EG;refine ca (oa hu) (cL (aV (mY hu) ?_));rcases h u (aF hu) with⟨h1,h2⟩|⟨h1,h2,h3⟩
  ·exact ca (an h1) (gO (dI (by simpa using h2) (dI (kG z1) (by simp only[wr,aj h1]))))
  ·exact fc (aV h2 (gO (dI (kG z1) (by simp only[wr,ai (show ¬u.base<0 by omega)]))))
 ·intro k u b hu hb;have c:(wr a u).size<=1048576:=by
   rcases h u (aF hu) with⟨h1,h2⟩|⟨h1,h2,h3⟩
   ·unfold wr;rw[aj h1,Gs];simp
   ·unfold wr;rw[ai z1];exact h3
  rw[aM];omega
 ·intro ag b _;unfold EG;exact bR nR rfl
def mO (x:bn):Prop:=gJ x.Rune/\((x.Rune<0/\x.Text.size=1)\/(0<=x.Rune/\x.Text=ae x.Rune))
theorem yX (s:V):∀x∈ij s,mO x:=by
 intro x hx;unfold ij at hx;obtain⟨p,hp,rfl⟩:=aT.1 hx;obtain⟨h1,h2⟩:=NI hp;obtain⟨g1,g2,a⟩:=wK s.data.toList p hp;have hv:=a.valid;cases hb:p.broken with
 |true=>obtain⟨e1,e2,_⟩:=h1 hb;exact⟨by rw[e1];exact⟨by omega,by omega⟩,.inl ⟨by omega,e2⟩⟩
 |false=>
  obtain⟨e1,e2⟩:=h2 hb;refine⟨by rw[e1];exact⟨by omega,by omega⟩,.inr ⟨by omega,by rw[e2,e1]⟩⟩
theorem Ie {l:List bn} (h:∀x∈l,mO x):∀x∈apL l,mO x:=by
 intro y hy;unfold apL at hy;obtain⟨x,hx,hy⟩:=jD.1 hy;unfold ku at hy;split at hy
 ·rename_i hL;obtain⟨r,hr,rfl⟩:=aT.1 hy;obtain⟨b,d,c,hb,_,a,_⟩:=vQ (show dx x.Rune=true from hL);have h0:0<=r:=by
   rw[c] at hr;rcases bg.1 hr with rfl|hr
   ·exact (ov _ hb).1
   ·have:=a r hr;unfold fV at this;simp at this;omega
  exact⟨EA (h x hx).1 r hr,.inr ⟨h0,rfl⟩⟩
 ·simp at hy;subst hy;exact h _ hx
theorem EJ:∀ (xs:List bn) (f:Option (bn×List bn)) (c:bn×List bn),c∈gY f xs->(∀d,f=some d->eE d.1=false->d.2=[])->((c.1∈xs\/∃d,f=some d/\c.1=d.1)/\(∀m∈c.2,(isM m=true/\m∈xs)\/∃d,f=some d/\m∈d.2)/\(eE c.1=false->c.2=[]))
 |[],none,c,h,_=>by cases h
 |[],some d,c,h,hd=>by
  simp[gY] at h;subst h;exact⟨.inr ⟨c,rfl,rfl⟩,λm hm=>.inr ⟨c,rfl,hm⟩,hd c rfl⟩
 |x::xs,none,c,h,_=>by
  obtain⟨h1,h2,h3⟩:=EJ xs (some (x,[])) c h (λd hd _=>by cases hd;rfl);refine⟨.inl ?_,λm hm=>.inl ?_,h3⟩
  ·rcases h1 with h1|⟨d,hd,h1⟩
   ·exact ak _ h1
   ·cases hd;rw[h1];exact ar ..
  ·rcases h2 m hm with⟨a,b⟩|⟨d,hd,h2⟩
   ·exact⟨a,ak _ b⟩
   ·cases hd;cases h2
 |x::xs,some d,c,h,hd=>by
  have h':c∈(if eE d.1&&isM x then gY (some (d.1,d.2++[x])) xs else d::gY (some (x,[])) xs):=h
  cases hk:(eE d.1&&isM x) with
  |true=>
   rw[hk] at h';rw[aN] at hk;obtain⟨h1,h2,h3⟩:=EJ xs (some (d.1,d.2++[x])) c h' (λe he g=>by cases he;rw[hk.1] at g;cases g);refine⟨?_,λm hm=>?_,h3⟩
   ·rcases h1 with h1|⟨e,he,h1⟩
    ·exact .inl (ak _ h1)
    ·cases he;exact .inr ⟨d,rfl,h1⟩
   ·rcases h2 m hm with⟨a,b⟩|⟨e,he,h2⟩
    ·exact .inl ⟨a,ak _ b⟩
    ·cases he;rcases bv.1 h2 with h2|h2
     ·exact .inr ⟨d,rfl,h2⟩
     ·simp at h2;subst h2;exact .inl ⟨hk.2,ar ..⟩
  |false=>
   rw[hk] at h';rcases bg.1 h' with rfl|h'
   ·exact⟨.inr ⟨c,rfl,rfl⟩,λm hm=>.inr ⟨c,rfl,hm⟩,hd c rfl⟩
   ·obtain⟨h1,h2,h3⟩:=EJ xs (some (x,[])) c h' (λe he _=>by cases he;rfl);refine⟨.inl ?_,λm hm=>.inl ?_,h3⟩
    ·rcases h1 with h1|⟨e,he,h1⟩
     ·exact ak _ h1
     ·cases he;rw[h1];exact ar ..
    ·rcases h2 m hm with⟨a,b⟩|⟨e,he,h2⟩
     ·exact⟨a,ak _ b⟩
     ·cases he;cases h2
theorem Ig {xs:List bn} {c:bn×List bn} (h:c∈cl xs):c.1∈xs/\(∀m∈c.2,isM m=true/\m∈xs)/\(eE c.1=false->c.2=[]):=by
 obtain⟨h1,h2,h3⟩:=EJ xs none c h (λd hd=>by cases hd);refine⟨?_,λm hm=>?_,h3⟩
 ·rcases h1 with h1|⟨d,hd,_⟩
  ·exact h1
  ·cases hd
 ·rcases h2 m hm with h2|⟨d,hd,_⟩
  ·exact h2
  ·cases hd
theorem EK:∀ (xs:List bn) (e:Option (bn×List bn)),(gY e xs).length<=xs.length+e.toList.length/\∀c∈gY e xs,c.2.length<=xs.length+(e.toList.map (·.2.length)).sum
 |[],none=>by simp[gY]
 |[],some d=>by simp[gY]
 |x::xs,none=>by
  have:=EK xs (some (x,[]));refine⟨?_,λc hc=>?_⟩
  ·have h1:=this.1;show (gY (some (x,[])) xs).length<=_;simp at h1 |-;omega
  ·have h1:=this.2 c hc;simp at h1 |-;omega
 |x::xs,some d=>by
  have a:=EK xs (some (d.1,d.2++[x]));have b:=EK xs (some (x,[]));show (if eE d.1&&isM x then gY (some (d.1,d.2++[x])) xs else d::gY (some (x,[])) xs).length<=_/\_
  show _/\∀c∈(if eE d.1&&isM x then gY (some (d.1,d.2++[x])) xs else d::gY (some (x,[])) xs),_
  split
  ·refine⟨by have:=a.1;simp at this |-;omega,λc hc=>by have:=a.2 c hc;simp at this |-;omega⟩
  ·refine⟨by have:=b.1;simp at this |-;omega,λc hc=>?_⟩;rcases bg.1 hc with rfl|hc
   ·simp
   ·have:=b.2 c hc;simp at this |-;omega
theorem NO (xs:List bn):(cl xs).length<=xs.length/\∀c∈cl xs,c.2.length<=xs.length:=by
 have:=EK xs none;simpa [cl] using this
theorem vS {s:V} (d:s.size<=65536):(lS s).length<=196608/\∀c∈lS s,mO c.1/\(∀m∈c.2,isM m=true/\mO m)/\(eE c.1=false->c.2=[])/\c.2.length<=196608:=by
 have h1:=NO (apL (ij s));have h2:=w3 (ij s);have h3:(ij s).length<=s.size:=by unfold ij;simpa using sE s
 have a:=Ie (yX s);refine⟨by unfold lS;omega,λc hc=>?_⟩;obtain⟨g1,g2,b⟩:=Ig hc;exact⟨a _ g1,λm hm=>⟨(g2 m hm).1,a _ (g2 m hm).2⟩,b,by have:=h1.2 c hc;omega⟩
theorem yY (c:bn×List bn) (h:mO c.1):(gE c).base<0/\U8 (gE c).broken/\c.1.Rune<0/\kK [(gE c).broken]=c.1.Text\/0<=(gE c).base/\0<=c.1.Rune/\c.1.Text=ae c.1.Rune/\gE c=⟨c.1.At,0,c.1.Rune,(loI c.2).map (·.Rune),(hiI c.2).map (·.Rune)⟩:=by
 rcases h.2 with⟨h1,h2⟩|⟨h1,h2⟩
 ·left;have e:gE c=⟨c.1.At,mj c.1.Text,-1,[],[]⟩:=by unfold gE;rw[aj h1]
  rw[e];refine⟨by show (-1:Int)<0;omega,?_,h1,?_⟩
  ·show U8 (mj c.1.Text);unfold mj;constructor
   ·omega
   ·have:=(c.1.Text.data.toList.headD 0).toNat_lt;omega
  ·show kK [mj c.1.Text]=_;apply ByteArray.ext;apply gI.1;have a:c.1.Text.data.toList.length=1:=by rw[eC];exact h2
   cases d:c.1.Text.data.toList with
   |nil=>rw[d] at a;cases a
   |cons b l=>
    rw[d] at a;have:l=[]:=cE (by simpa using a);subst this;unfold kK mj;rw[d];simp
 ·right;have e:gE c=⟨c.1.At,0,c.1.Rune,(loI c.2).map (·.Rune),(hiI c.2).map (·.Rune)⟩:=by unfold gE;rw[ai z1]
  rw[e];exact⟨h1,h1,h2,rfl⟩
def qu (xs:List bn):List bn:=(cl xs).map bE
theorem NP:qu []=[]:=rfl
theorem WF {x:bn} (h:eE x=true) (xs:List bn):qu (x::xs)=x::qu (xs.dropWhile isM):=by unfold qu;rw[yS h];rfl
theorem WG {x:bn} (h:eE x=false) (xs:List bn):qu (x::xs)=x::qu xs:=by unfold qu;rw[EB h];rfl
theorem NQ (P R:List bn) (a:∀m∈P,isM m=true) (c:∀y,R.head?=some y->isM y=false):(P++nq R).takeWhile isM=P:=by
 induction P with
 |nil=>
  cases R with
  |nil=>rfl
  |cons y R=>
   have hy:=c y rfl;rw[bj];cases hL:eE y with
   |true=>rw[w4 hL,aY,hy];rfl
   |false=>rw[w5 hL,aY,hy];rfl
 |cons m P b=>
  rw[aW,aY,a m (ar ..)];simp only[if_true];rw[b (λz hz=>a z (ak _ hz))]
theorem NR (xs:List bn):∀y,(xs.dropWhile isM).head?=some y->isM y=false:=by
 intro y hy;have:=List.head?_dropWhile_not (p:=isM) (l:=xs);rw[hy] at this;simpa using this
theorem vT (xs:List bn):(nq xs).length=xs.length:=by
 obtain⟨n,b⟩:∃n,xs.length<=n:=⟨_,aS _⟩
 induction n generalizing xs with
 |zero=>have:xs=[]:=cE z1;subst this;rfl
 |succ n a=>
  cases xs with
  |nil=>rfl
  |cons x xs=>
   simp only[ab] at b;cases hL:eE x with
   |false=>rw[w5 hL,ab,ab,a xs z1]
   |true=>
    have h1:=tU (xs.takeWhile isM);have h2:xs.length=(xs.takeWhile isM).length+(xs.dropWhile isM).length:=by
     have:=aI List.length (eR (p:=isM) (l:=xs));rw[aa] at this;exact this.symm
    rw[w4 hL,ab,aa,h1,a _ z1,ab];omega
theorem WH {xs:List bn} {y:bn} (h:y∈nq xs):y∈xs:=by
 unfold nq at h;obtain⟨c,hc,hy⟩:=jD.1 h;obtain⟨h1,h2,_⟩:=Ig hc;unfold oc loI hiI at hy;rcases bg.1 hy with rfl|hy
 ·exact h1
 ·rw[bv,cG,cG] at hy;rcases hy with hy|hy<;>exact (h2 y hy.1).2
theorem WI (r1:List bn) (J:List bn->Option (List bn)) (hb:r1.length<=1073741824):∀ (m n:Nat) (A B out:List bn),B.length<=m->B.length<n->r1=A++nq B->tk B->out.length<=A.length -> bP (λ_ _=>none) (wV J r1) n out (A.length:Int)=J (out++qu B):=by
 intro m
 induction m with
 |zero=>
  intro n A B out hB o he a s;have:B=[]:=cE z1;subst this;obtain⟨n,rfl⟩:∃k,n=k+1:=⟨n-1,by omega⟩;rw[yT,aE] at he;rw[iB];unfold wV;exact bR (ah (by rw[he];omega)) (by rw[NP,aE])
 |succ m h=>
  intro n A B out hB o he a s;obtain⟨n,rfl⟩:∃k,n=k+1:=⟨n-1,by omega⟩;cases B with
  |nil=>
   rw[yT,aE] at he;rw[iB];unfold wV;exact bR (ah (by rw[he];omega)) (by rw[NP,aE])
  |cons x xs=>
   simp only[ab] at hB o;have c:=a x (ar ..);have p:r1.length=A.length+1+xs.length:=by rw[he,aa,vT];simp;omega
   rw[iB];generalize f:bP (λ_ _=>none) (wV J r1) n=ag at h |-
   unfold wV;have b:cj r1 (A.length:Int)=some x:=iu (by
    rw[he];cases hL:eE x with
    |true=>rw[w4 hL];exact vR A x _
    |false=>rw[w5 hL];exact vR A x _)
   refine eQ (cL (aV b (gO (aV b (aV (yQ x c) ?_)))));have l:dx x.Rune=eE x:=rfl;rw[l];cases hL:eE x with
   |false=>
    rw[w5 hL] at he;refine bR rfl (gO ?_);have:=h n (A++[x]) xs (out++[x]) z1 z1 (by rw[he];simp) (λz hz=>a z (ak _ hz)) (by simp;omega);rw[f] at this;rw[show ((A.length:Int)+1)=((A++[x]).length:Int) by simp,this,WG hL];simp
   |true=>
    rw[w4 hL] at he;obtain⟨M,R,q,j,g⟩:∃M R,M=xs.takeWhile isM/\R=xs.dropWhile isM/\xs=M++R:=⟨_,_,rfl,rfl,(eR).symm⟩;rw[<-q,<-j] at he;have d:=tU M;have r:xs.length=M.length+R.length:=by rw[g];simp
    have e:ee r1 ((A.length:Int)+1) (r1.length:Int)=(loI M++hiI M)++nq R:=by
     rw[he];exact H4 A x _ _ rfl
    refine ca rfl (gO (gO ?_));rw[e];refine aV (HW _ (by rw[aa,vT];omega)) ?_;have i:(((loI M++hiI M)++nq R).takeWhile λx=>fV x.Rune)=loI M++hiI M:=NQ _ _ (H0 (by rw[q];exact H1 xs)) (by rw[j];exact NR xs);rw[i,d];refine gO (gO ?_);have:=h n (A++[x]++(loI M++hiI M)) R (out++[x]) z1 z1 (by rw[he];simp) (λz hz=>a z (by rw[g];exact ak _ (List.mem_append_right _ hz))) (by simp;omega);rw[f] at this;rw[show ((A.length:Int)+(M.length:Int)+1)=((A++[x]++(loI M++hiI M)).length:Int) by rw[aa,d];simp;omega,this,WF hL,<-j];simp
theorem WJ (l:List bn) (a:tk l) (b:l.length<=268435456):Er l=some (qu (apL l)):=by
 unfold Er;refine cL (aV (H5 l a b) ?_);have h1:=w3 l;have h2:=vT (apL l);have:=WI (nq (apL l)) some z1 (apL l).length bN [] (apL l) [] (aS _) (jC z1) rfl (H2 a) (aS _);simpa using this
def xa:List (Int×List UInt8):=[(223,[115,115]),(230,[97,101]),(248,[111]),(240,[100]),(254,[116,104]),(273,[100]),(295,[104]),(305,[105]),(307,[105,106]),(312,[113]),(320,[108]),(322,[108]),(329,[110]),(331,[110,103]),(339,[111,101]),(359,[116]),(383,[115]),(962,[207,131])]
def lT (r:Int):V:=match cf r xa with | some b=>⟨b.toArray⟩ | none=>ae r
theorem WK (r:Int) (hr:gJ r):Eo r=some (lT r):=by
 unfold lT xa;simp only[cf];unfold Eo;simp only[cm];have e:∀n:Int,(((r:Int)==n)=decide (r=n)):=λn=>by rw[eF];simp
 by_cases h1:r=223
 ·subst h1;rfl
 by_cases h2:r=230
 ·subst h2;rfl
 by_cases h3:r=248
 ·subst h3;rfl
 by_cases p:r=240
 ·subst p;rfl
 by_cases h5:r=273
 ·subst h5;rfl
 by_cases o:r=254
 ·subst o;rfl
 by_cases m:r=295
 ·subst m;rfl
 by_cases l:r=305
 ·subst l;rfl
 by_cases k:r=307
 ·subst k;rfl
 by_cases j:r=312
 ·subst j;rfl
 by_cases i:r=320
 ·subst i;rfl
 by_cases h:r=322
 ·subst h;rfl
 by_cases g:r=329
 ·subst g;rfl
 by_cases f:r=331
 ·subst f;rfl
 by_cases d:r=339
 ·subst d;rfl
 by_cases c:r=359
 ·subst c;rfl
 by_cases b:r=383
 ·subst b;rfl
 by_cases a:r=962
 ·subst a;rfl
 simp only[e,ah h1,ah h2,ah h3,ah p,ah h5,ah o,ah m,ah l,ah k,ah j,ah i,ah h,ah g,ah f,ah d,ah c,ah b,ah a,G,cond_false,h1,h2,h3,p,h5,o,m,l,k,j,i,h,g,f,d,c,b,a,if_false];exact aV (Ei r hr) rfl
theorem Ih (r:Int):(lT r).size<=4:=by
 unfold lT;split
 ·rename_i b hb;have h:∀p∈xa,p.2.length<=4:=by decide
  have:=h _ (uL hb);show (b.toArray).size<=4;simpa using this
 ·exact oX r
def ox (x:bn):bn:=if eE x then ⟨x.Rune,lT (cP x.Rune),x.At⟩ else x
theorem NS (r:Int) (h:dx r=true):gJ (cP r):=by
 have:=ov r h;unfold cP;constructor<;>((repeat' split)<;>omega)
theorem WL (s:V) (m:s.size<=65536):Es s=some ((qu (apL (ij s))).map ox):=by
 unfold Es;have h3:(ij s).length<=s.size:=by unfold ij;simpa using sE s
 have d:tk (ij s):=λx hx=>(yX _ x hx).1;refine cL (aV (yR s z1) (aV (WJ _ d z1) ?_));have b:tk (qu (apL (ij s))):=by
  intro x hx;unfold qu at hx;obtain⟨c,hc,rfl⟩:=aT.1 hx;exact H2 d _ (Ig hc).1
 have g:(qu (apL (ij s))).length<=196608:=by
  have h1:=(NO (apL (ij s))).1;have h2:=w3 (ij s);unfold qu;rw[ax];omega
 generalize qu (apL (ij s))=B at b g;have key:∀ (n k:Nat),k<=B.length->B.length-k<n->bP (λ_ _=>none) (Bq some B) n ((B.take k).map ox++B.drop k) (k:Int)=some (B.map ox):=by
  intro n
  induction n with
  |zero=>intro k _ h;omega
  |succ n j=>
   intro k hk o;rw[iB];generalize bP (λ_ _=>none) (Bq some B) n=ag at j |-
   unfold Bq;by_cases h:k<B.length
   ·have hx:B[k]?=some B[k]:=aJ h;have hd:=aQ h;have f:=b B[k] (aF hx);have a:=j (k+1) z1 z1;have ht:B.take (k+1)=B.take k++[B[k]]:=by rw[List.take_add_one,hx];rfl
    generalize l:B[k]=x at *;have e:((B.take k).map ox).length=k:=by simp;omega
    have hg:cj ((B.take k).map ox++B.drop k) (k:Int)=some x:=iu (by
     rw[hd];have:=vR ((B.take k).map ox) x (B.drop (k+1));rwa [e] at this)
    refine eQ (cL (aV hg (aV (yQ x f) ?_)));have i:dx x.Rune=eE x:=rfl;rw[i];rw[ht,dp] at a
    push_cast at a
    cases hL:eE x with
    |false=>
     refine bR rfl (dI (kG z1) ?_);have hf:ox x=x:=by unfold ox;rw[hL];rfl
     rw[<-a,hd];congr 1;simp[hf]
    |true=>
     refine ca rfl (dI f (aV (WK _ (NS _ hL)) (aV hg (dI (kG z1) ?_))));have hf:ox x=⟨x.Rune,lT (cP x.Rune),x.At⟩:=by unfold ox;rw[hL];rfl
     rw[<-a];congr 1;rw[hd,show ((k:Int)).toNat=((B.take k).map ox).length by rw[e];simp,List.set_append_right _ _ (aS _)];simp[hf]
   ·have:k=B.length:=by omega
    subst this;exact bR nR (by rw[List.take_length,ix,aE])
 have:=key bN 0 (bT _) (by have:=jC (n:=B.length) z1;omega);simpa using this
def EL (g:Int) (h:Option V) (f:Int->Bool->Nat->Option V) (a:Int) (b:Bool) (e:Nat):Option V := G (decide (e<(fK iv.data.toList).length)) (T ((fK iv.data.toList)[e]?) λ(p1:Pc)=>cm (λ(c:Int->Option V)=>G (((p1.r:Int):Int)==32) (G (decide ((0:Int)<=a)) (grd (0<=(a:Int)/\(a:Int)<=(p1.i:Int)/\((p1.i:Int):Int)<=(iv.size:Int)) <|some (c6 iv a (p1.i:Int))) (G (((p1.r:Int):Int)==32) (c a) (G (b) (G (((p1.r:Int):Int)==g) (grd (I64 ((p1.i:Int)+((ae (p1.r:Int)).size:Int))) <|c ((p1.i:Int)+((ae (p1.r:Int)).size:Int))) (c a)) (c a)))) (G (((p1.r:Int):Int)==32) (c a) (G (b) (G (((p1.r:Int):Int)==g) (grd (I64 ((p1.i:Int)+((ae (p1.r:Int)).size:Int))) <|c ((p1.i:Int)+((ae (p1.r:Int)).size:Int))) (c a)) (c a)))) (λ(d:Int)=>f d (((p1.r:Int):Int)==32) (e+1))) (h)
def pj:List Pc:=fK iv.data.toList
def Ii (a:Int):Option V:=bP (λ_ _ _=>none) (EL a (some (ae a))) bN (-1) true 0
def hds:List Pc->Bool->List Int
 |[],_=>[]
 |p::ps,h=>(if (p.r==32) then [] else if h then [(p.r:Int)] else [])++hds ps (p.r==32)
theorem WM:hds pj true=xa.map bE:=by decide +kernel
theorem WN:(xa.all λp=>decide (Ii p.1=some (lT p.1)))=true:=by decide +kernel
theorem WO (f:Int) (J:Option V):∀ (n m:Nat) (h:Bool),m<=pj.length->pj.length-m<n->f ∉ hds (pj.drop m) h->bP (λ_ _ _=>none) (EL f J) n (-1) h m=J:=by
 intro n
 induction n with
 |zero=>intro m h _ i;omega
 |succ n g=>
  intro m h hm i c;rw[iB];generalize bP (λ_ _ _=>none) (EL f J) n=ag at g |-
  unfold EL;by_cases a:m<pj.length
  ·have hx:pj[m]?=some pj[m]:=aJ a;rw[aQ a] at c;generalize pj[m]=p at hx c;unfold hds at c;rw[bv,not_or] at c;have e:((p.r:Int)==32)=(p.r==32):=by rw[eF];simp;omega
   refine ca (an a) (aV hx (cL ?_));have d:ag (-1) ((p.r:Int)==32) (m+1)=J:=g (m+1) _ z1 z1 (by rw[e];exact c.2);cases b:((p.r:Int)==32) with
   |true=>
    rw[b] at d;exact ca rfl (bR (by decide) (ca rfl d))
   |false=>
    rw[b] at d;refine bR rfl (bR rfl ?_);cases h with
    |false=>exact bR rfl d
    |true=>
     have h1:=c.1;rw[<-e,b] at h1;refine ca rfl (bR ?_ d);rw[aA];intro e2;exact h1 (by simp[e2])
  ·exact bR (ah a) rfl
theorem WP (a:Int):Ii a=some (lT a):=by
 by_cases h:a∈xa.map bE
 ·obtain⟨p,hp,rfl⟩:=aT.1 h;exact of_decide_eq_true (List.all_eq_true.1 WN p hp)
 ·have:Ii a=some (ae a):=WO a _ bN 0 true (bT _) (by
   have:pj.length<=100000:=by decide +kernel
   unfold bN;omega) (by rw[List.drop_zero,WM];exact h)
  rw[this];unfold lT;cases hg:cf a xa with
  |none=>rfl
  |some b=>exact absurd (aT.2 ⟨_,uL hg,rfl⟩) h
theorem WQ (u:dy) (hu:gJ u.base):Bu u=some (if dx u.base then lT (cP u.base) else ae u.base):=by
 unfold Bu;refine aV (Ey u hu) ?_;cases hL:dx u.base with
 |false=>exact ca rfl rfl
 |true=>exact bR rfl (cL (dI hu (WP (cP u.base))))
def qO (c:bn×List bn):V:=(ox c.1).Text
def jV (s:V):V:=J qO (lS s)
theorem Ij (b:dy->V) (g:bn×List bn->V) (s:V) (e:s.size<=65536) (h:∀c∈lS s,0<=c.1.Rune->b (gE c)=g c) (a:∀c∈lS s,c.1.Rune<0->g c=c.1.Text):J (wr b) ((lS s).map gE)=J g (lS s):=by
 rw[tW];refine uO λc hc=>?_;obtain⟨h1,h2,h3,_⟩:=(vS e).2 c hc;unfold wr;rcases yY c h1 with⟨g1,_,d,g4⟩|⟨g1,g2,d,g4⟩
 ·rw[aj g1,g4,a c hc d]
 ·rw[ai z1,h c hc g2]
theorem EM {x:bn} (h:x.Rune<0):eE x=false:=by
 cases e:eE x with
 |false=>rfl
 |true=>have:=(ov x.Rune e).1;omega
theorem NT (c:bn×List bn) (h:mO c.1):(0<=c.1.Rune->(if dx (gE c).base then lT (cP (gE c).base) else ae (gE c).base)=qO c)/\(c.1.Rune<0->qO c=c.1.Text):=by
 constructor
 ·intro h0;have hb:=H7 c h0;rw[hb];unfold qO ox eE;rcases h.2 with⟨h1,_⟩|⟨_,h2⟩
  ·omega
  ·cases dx c.1.Rune with
   |true=>rfl
   |false=>simp[h2]
 ·intro h0;unfold qO ox;rw[EM h0];rfl
theorem EN (s:V) (b:s.size<=65536):ri s=some (jV s):=by
 unfold ri;obtain⟨d,hc⟩:=vS b;refine aV (H8 s b) (aV (WE (λu=>if dx u.base then lT (cP u.base) else ae u.base) _ (by rw[ax];omega) ?_) ?_)
 ·intro u hu;obtain⟨c,a,rfl⟩:=aT.1 hu;obtain⟨h1,_⟩:=hc c a;rcases yY c h1 with⟨g1,g2,_⟩|⟨g1,g2,e,g4⟩
  ·exact .inl ⟨g1,g2⟩
  ·refine .inr ⟨g1,WQ _ (by rw[H7 c g2];exact h1.1),?_⟩;split
   ·have:=Ih (cP (gE c).base);omega
   ·have:=oX (gE c).base;omega
 ·rw[Ij _ qO s b (λc a h0=>(NT c (hc c a).1).1 h0) (λc a h0=>(NT c (hc c a).1).2 h0)];rfl
theorem NU {l:List bn} {m:Nat} (h:∀x∈l,x.Text.size<=m):qN l<=l.length*m:=by
 unfold qN
 induction l with
 |nil=>simp
 |cons x l a=>
  have:=a (λy hy=>h y (ak _ hy));have:=h x (ar ..);simp only[au,List.sum_cons,ab,dC,kW];omega
theorem vU {x:bn} (h:mO x):x.Text.size<=4:=by
 rcases h.2 with⟨_,h⟩|⟨_,h⟩
 ·omega
 ·rw[h];exact oX _
theorem NV {x:bn} (h:mO x):(ox x).Text.size<=4:=by
 unfold ox;split
 ·exact Ih _
 ·exact vU h
theorem WR (s:V):qu (apL (ij s))=(lS s).map bE:=rfl
theorem Ik (s:V) (b:s.size<=65536):vO s=some (jV s):=by
 unfold vO;obtain⟨d,hc⟩:=vS b;refine aV (WL s b) ?_;rw[WR,cF];have hsz:qN ((lS s).map (ox ∘ bE))<=((lS s).map (ox ∘ bE)).length*4:=NU (λx hx=>by
  obtain⟨c,a,rfl⟩:=aT.1 hx;exact NV (hc c a).1)
 rw[ax] at hsz;refine aV (HU _ (by rw[ax];omega) z1) ?_;rw[NN,tW];rfl
theorem EO (l:List Int):(kl l).size<=l.length*4:=by rw[tp];exact Ic _ 4 λx _=>oX x
def k7 (x:bn):bn:=⟨x.Rune,x.Text,0⟩
def oY (c:bn×List bn):bn×List bn:=(k7 c.1,c.2.map k7)
theorem Il (x:bn):eE (k7 x)=eE x:=rfl
theorem WS (x:bn):isM (k7 x)=isM x:=rfl
theorem EP:∀ (xs:List bn) (a:Option (bn×List bn)),gY (a.map oY) (xs.map k7)=(gY a xs).map oY
 |[],none=>rfl
 |[],some c=>rfl
 |x::xs,none=>EP xs (some (x,[]))
 |x::xs,some c=>by
  show (if eE (k7 c.1)&&isM (k7 x) then gY (some (k7 c.1,c.2.map k7++[k7 x])) (xs.map k7) else oY c::gY (some (k7 x,[])) (xs.map k7))=(if eE c.1&&isM x then gY (some (c.1,c.2++[x])) xs else c::gY (some (x,[])) xs).map oY
  rw[Il,WS];have h1:=EP xs (some (c.1,c.2++[x]));have h2:=EP xs (some (x,[]));simp only[Option.map_some,oY,dp,au,fm] at h1 h2;split
  ·exact h1
  ·rw[au,<-h2]
theorem WT (xs:List bn):cl (xs.map k7)=(cl xs).map oY:=EP xs none
theorem WU (x:bn):ku (k7 x)=(ku x).map k7:=by
 unfold ku;rw[Il];split
 ·rw[cF];rfl
 ·rfl
theorem WV (xs:List bn):apL (xs.map k7)=(apL xs).map k7:=by
 unfold apL
 induction xs with
 |nil=>rfl
 |cons x xs a=>rw[au,aK,aK,dp,a,WU]
theorem WW (c:bn×List bn):qO (oY c)=qO c:=by
 unfold qO ox oY;rw[Il];split<;>rfl
def fG (t:dM):bn:=⟨if t.broken then -1 else (t.r:Int),⟨t.bs.toArray⟩,0⟩
def k8 (ts:List dM):List (bn×List bn):=cl (apL (ts.map fG))
def FT (ts:List dM):V:=J qO (k8 ts)
theorem NW (s:V):∀ (ts pre:List dM),s.data.toList=c7 (pre++ts)->((place (c7 pre).length ts).map (itG s)).map k7=ts.map fG
 |[],pre,_=>rfl
 |t::ts,pre,h=>by
  have e:(c7 pre).length+t.bs.length=(c7 (pre++[t])).length:=by rw[nQ,aa];simp[c7]
  show k7 (itG s ⟨(c7 pre).length,t.bs.length,t.r⟩)::((place ((c7 pre).length+t.bs.length) ts).map (itG s)).map k7=_;rw[e,NW s ts (pre++[t]) (by rw[h];simp),au];congr 1;unfold k7 itG fG;have hb:(⟨(c7 pre).length,t.bs.length,t.r⟩:Pc).broken=t.broken:=rfl;rw[hb];have ht:s.extract (c7 pre).length ((c7 pre).length+t.bs.length)=⟨t.bs.toArray⟩:=by
   apply ByteArray.ext;apply gI.1;rw[oH,h,nQ,nP];simp
  simp only[ht]
theorem NX (s:V):(ij s).map k7=(fO s.data.toList).map fG:=by
 unfold ij fK;rw[MQ];have:=NW s (fO s.data.toList) [] (by rw[bj,vF]);exact this
theorem BF (s:V):(lS s).map oY=k8 (fO s.data.toList):=by
 unfold k8 lS;rw[<-NX,WV,WT]
theorem NY (s:V):jV s=FT (fO s.data.toList):=by
 unfold jV FT;rw[<-BF,tW];exact uO λc _=>(WW c).symm
def kz (r:Int):bn:=⟨r,ae r,0⟩
theorem Io {t:dM} (h:t.valid):fG t=kz (t.r:Int):=by
 unfold fG kz;rw[yo h];have:(⟨t.bs.toArray⟩:V)=ae (t.r:Int):=by
  apply ByteArray.ext;apply gI.1;rw[pg,<-h.2]
 rw[this];rfl
theorem NZ {r:Int} (h:dx r=false):jp r=[r]:=by
 unfold jp;cases e:cf r eP with
 |none=>rfl
 |some p=>have:=(HY e).2.2;rw[h] at this;cases this
theorem WX (r:Int):ku (kz r)=(jp r).map kz:=by
 unfold ku;cases h:eE (kz r) with
 |true=>rfl
 |false=>rw[NZ (show dx r=false from h)];rfl
theorem N0 (rs:List Int):apL (rs.map kz)=(rs.flatMap jp).map kz:=by
 unfold apL
 induction rs with
 |nil=>rfl
 |cons r rs a=>rw[au,aK,aK,dp,a,WX]
def lH (r:Int):dM:=⟨r.toNat,encodeRune r⟩
theorem BG {r:Int} (h:vr r):(lH r).valid:=by
 unfold vr at h;refine⟨?_,?_⟩
 ·show r.toNat<55296\/_;simp only[lH];omega
 ·show encodeRune r=encodeRune ((r.toNat:Nat):Int);rw[show ((r.toNat:Nat):Int)=r by omega]
theorem WY {rs:List Int} (h:∀r∈rs,vr r):fO (kl rs).data.toList=rs.map lH:=by
 have e:(kl rs).data.toList=c7 (rs.map lH):=by
  rw[tp];clear h
  induction rs with
  |nil=>rfl
  |cons r rs a=>
   rw[kH,au,nP,<-a];have:(ae r).data.toList=encodeRune r:=pg r;show (ae r++J ae rs).data.toList=encodeRune r++_;rw[<-this];simp
 rw[e];have:=Hs (vs:=rs.map lH) (λt ht=>by obtain⟨r,hr,rfl⟩:=aT.1 ht;exact BG (h r hr)) [];simpa [wL] using this
theorem WZ {rs:List Int} (h:∀r∈rs,vr r):jV (kl rs)=J qO (cl ((rs.flatMap jp).map kz)):=by
 rw[NY,WY h];unfold FT k8;have:(rs.map lH).map fG=rs.map kz:=by
  rw[cF];refine List.map_congr_left λr hr=>?_;have hv:=h r hr;show fG (lH r)=kz r;rw[Io (BG hv)];show kz ((r.toNat:Nat):Int)=kz r;rw[show ((r.toNat:Nat):Int)=r by unfold vr at hv;omega]
 rw[this,N0]
end Go.Proofs.YtncjnoakkghmmaaGreatDoor


namespace Go.Proofs.YtncjnoakkghmmaaGreatDoor
open Go.RowKit Go.Lib
open Tryz
set_option linter.unusedVariables false
set_option linter.unusedSimpArgs false
open _root_.Bool renaming and_eq_true->aN,not_true->dm,false_eq_true->bp,not_false->db
open _root_.ByteArray renaming empty->af,size_append->aM,append_assoc->dE,append_empty->bF
open _root_.Go.IntWalk renaming i64_in->ac
open _root_.Go.Proofs.Tryz renaming underlying116->fM,underlying154->dr,underlying9->am,underlying21->bl,underlying89->bH,underlying123->lf,underlying75->aG,underlying167->tC
open aH renaming nil->aC
open Vw renaming get->cq
open _root_.Go.Utf8 renaming encode->ae
open _root_.Go.Value renaming agg->br,int->az,bool->ap
open _root_.List renaming mem_of_getElem?->aF,mem_filter->cG,length_filter_le->rX,length_map->ax,mem_map->aT,length_append->aa,all_eq_true->bm,foldl_cons->bz,length_cons->ab,length_nil->aB,mem_cons_self->ar,mem_cons_of_mem->ak,map_cons->au,cons_append->aW,append_nil->aE,mem_append->bv,flatMap_cons->aK,singleton_append->sj,mem_cons->bg,map_append->dp,filter_cons->jG,filter_eq_self->tD,filter_eq_nil_iff->rn
open _root_.List.cons renaming inj->oD
open _root_.Nat renaming zero_add->bY,zero_le->bT,le_refl->aS
open _root_.Option.some renaming inj->kV
open _root_.Prod renaming fst->bE
def EQ (e:List dy) (g:V->Option V) (d:V->Int->Option V) (a:V) (c:Int):Option V := G (decide ((c:Int)<(e.length:Int))) (cm (λ(f:V->Option V)=>T (cj e c) λ(b:dy)=>G (decide ((b.base:Int)<0)) (grd (a.size+1<=140737488355328) <|grd (∀x∈([b.broken]:List Int),U8 x) <|f (a++(kK [b.broken]))) (T (Ew b) λ(r1:V)=>grd (a.size+r1.size<=140737488355328) <|f (a++r1))) (λ(h:V)=>grd (I64 (c+1)) <|d h (c+1))) (g a)
def ER (a:List dy):Option V := cm (λ(b:V->Option V)=>bP (λ_ _=>none) (EQ a b) bN af 0) (λ(b1:V)=>some b1)
theorem W3 {f n:Value} {c:List (dy×Hd×Hd)} {u:Nat} {s:List (dy×Hd×Hd)} {t:List dy} (g:Vw f c 5 u n s) (p:s.map bE=t) {r:V} (h:ER t=some r):Fn prog 71 [n,.func (.func 107) #[] #[]] [oV f c,own jB c] (λ_b:Unit=>.string r) (λ_b=>[oV f c,own jB c]):=by
 refine Fn.intro func71 rfl ntmps71 (by simp) (λw0 K=>cJ (V×Value) h 2 rfl (λx b=>x b.1=some r) (λb=>[]) (λb=>[(5,b.2)]) (λb=>[oV f c,own jB c,byt 5 b.2 b.1]) (λx h cut=>?_) ?_)
 ·refine I (O 1 rfl (cw (O 1 rfl (Y (cut (I (O 1 rfl (GE p g rfl dc rfl fM (O 1 rfl (Y (ck (Dw (e:=5) (fP (V×Int×Value) (EQ t x) (λa b=>a b.1 b.2.1=some r) (λb=>[]) (λb=>[(1,.func (.func 107) #[] #[]),(5,b.2.2),(8,n),(9,zI (t.length:Int)),(10,zI b.2.1)]) (λb=>[oV f c,own jB c,byt 5 b.2.2 b.1]) (af,0,(.slice none 0 0)) h 3 ?_)))))))))))));rintro Z ⟨L,w,S⟩ h;refine I (E rfl dL (Y (bV (bu rfl h (λh=>?_) (λh=>?_)))))
  ·refine bw (cu (cJ (V×Value) h 0 rfl (λM b=>M b.1=some r) (λb=>[]) (λb=>[(1,.func (.func 107) #[] #[]),(5,b.2),(8,n),(9,zI (t.length:Int)),(10,zI w)]) (λb=>[oV f c,own jB c,byt 5 b.2 b.1]) (λM h cut=>?_) ?_))
   ·refine cut (ck (I (aU h λd z h=>?_)));obtain⟨⟨m,l⟩,o⟩:=Al p z;exact gm g o fM uB rfl dc rfl rfl rfl (oM 0 (u+(w:Int).toNat) 0 (d,(m,l)) [zI d.at_,.int .u8 d.broken,.int .i32 d.base,m.v,l.v] s7 re rfl dc rfl rfl (cq g o) rfl rfl rfl (fZ DM rfl dc (λb6=>fI 3 [zI d.at_,.int .u8 d.broken,.int .i32 d.base,m.v,l.v] [zI d.at_,.int .u8 d.broken,.int .i32 d.base,m.v,l.v] uB rfl rfl rfl rfl rfl (show _<=_ by simp) rfl rfl (cw (ci qH rfl dc rfl (show _=2 from rfl) (bW 3 fU rfl dc rfl rfl rfl (E rfl dL (Y (bu rfl h (λh=>bX (O 1 rfl (ci GW rfl dc rfl (show _=1 from rfl) (bW 3 GL rfl dc rfl rfl rfl (hQ [(0,.tmp 19)] 5 [.int .u8 d.broken] rfl dc rfl (λ_=>by kernel_rfl) (λb7=>bi h λJ h=>bi h λH h=>Gk (kK [d.broken]) 4 (k:=2) dr vA rfl dc rfl rfl rfl rfl (GC H) rfl J (λP=>O 1 rfl (bC (cg (mD (L++(kK [d.broken]),P) h 3)))))))))) (λh=>bX (O 2 rfl (ju 3 [zI d.at_,.int .u8 d.broken,.int .i32 d.base,m.v,l.v] s7 rfl dc rfl rfl rfl rfl (sV 1 rfl (Ak (cq g o)) (λ_ _=>aU h λr1 y h=>ru (.string r1) [.agg #[zI d.at_,.int .u8 d.broken,.int .i32 d.base,m.v,l.v]] rfl dc rfl rfl rfl TG (VL d m l y) [4,5] kr rfl (bi h λF h=>z7 2 dr am vA rfl dc rfl rfl rfl F (λN=>O 1 rfl (bC (cg (vz 1 rfl (ct [4,5] kr rfl) rfl (wG jB (cq g o) rfl) (mD (L++r1,N) h 3))))))))))))))))))))
   rintro⟨W,Q⟩ h;exact bX (bi h λD h=>E rfl (c8 (w+1) (ac _ D)) (O 1 rfl (bC (mD (W,w+1,Q) h 3))))
  exact dG (bS (bS (dH (mD (L,S) h 3))))
 rintro⟨b1,v1⟩ h;refine I (O 1 rfl (tG 2 rfl dc rfl rfl dr underlying5 am (O 1 rfl (Y (bO ?_)))));cases h;exact eW [.tmp 4] () (.inl rfl) results71 (.cons (.tmp rfl) .nil) rfl (cO 2)
def BH (a:V):Option V := T (w9 a) λ(r1:(List dy))=>T (ER r1) λ(r2:V)=>some r2
theorem N1 {a:V} {r:V} (h:BH a=some r):eO prog 57 [.string a] (.string r):=by
 refine eO.intro func57 rfl ntmps57 (by simp) (λw0 K=>I (O 1 rfl (cw (O 1 rfl (aU h λr1 e h=>ir [.string a] rfl dc rfl rfl rfl G9 (H6 e) aC (λv1=>Gw (k:=0) rfl (λg f=>?_)))))));subst f;refine sV 0 rfl xT (λi b=>lF 0 rfl (λc=>aU h λr2 d h=>ru (.string r2) [g.v,.func (.func 107) #[] #[]] rfl dc rfl rfl rfl G8 (W3 c b d) [0,1] kr rfl (O 1 rfl (Y (bO ?_)))));cases h;exact dt 2 results57
def BI (a:V):Option V := T (uK a) λ(r1:(List cd))=>T (yM r1) λ(r2:(List cd))=>T (yK r2) λ(r3:V)=>some r3
theorem N2 {a:V} {r:V} (h:BI a=some r):eO prog 36 [.string a] (.string r):=by
 refine eO.intro func36 rfl ntmps36 (by simp) (λw0 K=>I (O 1 rfl (cw (O 1 rfl (aU h λr1 e h=>ir [.string a] rfl dc rfl rfl rfl yi (yJ e) aC (λv1=>lF 0 rfl (λb=>aU h λr2 d h=>ir [v1] rfl dc rfl rfl rfl Hc (HN b d) (cO 1) (λv2=>lF 2 rfl (λhw2=>aU h λr3 c h=>kZ (.string r3) [v2] (Rd.nil:Rd _ _ []) rfl dc rfl rfl rfl Hb (HL hw2 c) (.own (As:=[fE v2 r2]) (ct [2] kr rfl) (λ_ _ h=>pF kO (aP.one1.1 h)) .nil) (O 1 rfl (Y (bO ?_))))))))))));cases h;exact dt 2 results36
theorem W5 (a:dy->V) (l:List dy) (d:l.length<=1048576) (h:∀u∈l,u.base<0/\U8 u.broken\/0<=u.base/\Ew u=some (a u)/\(a u).size<=1048576):ER l=some (J (wr a) l):=by
 unfold ER;refine cL ((tj l (λb u=>b++wr a u) some (λk b=>b.size<=k*1048576) ?_ ?_ ?_ (jC z1) (by decide)).trans rfl)
 ·intro ag k u b hu hb;have hk:=pM hu;unfold EQ;refine ca (oa hu) (cL (aV (mY hu) ?_));rcases h u (aF hu) with⟨h1,h2⟩|⟨h1,h2,h3⟩
  ·exact ca (an h1) (gO (dI (by simpa using h2) (dI (kG z1) (by simp only[wr,aj h1]))))
  ·exact fc (aV h2 (gO (dI (kG z1) (by simp only[wr,ai (show ¬u.base<0 by omega)]))))
 ·intro k u b hu hb;have c:(wr a u).size<=1048576:=by
   rcases h u (aF hu) with⟨h1,h2⟩|⟨h1,h2,h3⟩
   ·unfold wr;rw[aj h1,Gs];simp
   ·unfold wr;rw[ai z1];exact h3
  rw[aM];omega
 ·intro ag b _;unfold EQ;exact bR nR rfl
def N3 (s:V):V:=J (λc=>c.1.Text) (lS s)
def rM (c:bn×List bn):V:=J (·.Text) (oc c)
def iw (s:V):V:=J rM (lS s)
theorem N4 (l:List bn) (h:∀m∈l,isM m=true/\mO m):kl (l.map (·.Rune))=J (·.Text) l:=by
 rw[tp,tW];refine uO λm hm=>?_;obtain⟨h1,h2⟩:=h m hm;rcases h2.2 with⟨h3,_⟩|⟨_,h3⟩
 ·have:fV m.Rune=true:=h1;unfold fV at this;simp at this;omega
 ·exact h3.symm
theorem W6 {a:List bn} {P:bn->Prop} (h:∀m∈a,P m):(∀m∈loI a,P m)/\∀m∈hiI a,P m :=
 ⟨λm hm=>h m (cG.1 hm).1,λm hm=>h m (cG.1 hm).1⟩
theorem BJ (a:List bn):(loI a).length<=a.length/\(hiI a).length<=a.length:=⟨rX _ _,rX _ _⟩
theorem N5 (s:V) (b:s.size<=65536):BH s=some (iw s):=by
 unfold BH;obtain⟨g,hc⟩:=vS b;refine aV (H8 s b) (aV (W5 (λu=>((ae u.base)++(kl u.low))++(kl u.high)) _ (by rw[ax];omega) ?_) ?_)
 ·intro u hu;obtain⟨c,a,rfl⟩:=aT.1 hu;obtain⟨h1,_,_,i⟩:=hc c a;rcases yY c h1 with⟨g1,g2,_⟩|⟨g1,g2,f,g4⟩
  ·exact .inl ⟨g1,g2⟩
  ·have h:=BJ c.2;have e1:(gE c).low.length<=196608:=by rw[g4];simp;omega
   have e2:(gE c).high.length<=196608:=by rw[g4];simp;omega
   have l:=EO (gE c).low;have k:=EO (gE c).high;have j:=oX (gE c).base;refine .inr ⟨g1,?_,?_⟩
   ·unfold Ew;exact gO (dI (by rw[aM];omega) rfl)
   ·rw[aM,aM];have:(gE c).low.length+(gE c).high.length<=196608:=by
     rw[g4];have:=tU c.2;rw[aa] at this;simp;omega
    omega
 ·rw[Ij _ rM s b (λc a h0=>by
   obtain⟨h1,h2,_⟩:=hc c a;obtain⟨d,e⟩:=W6 h2;rcases yY c h1 with⟨_,_,f,_⟩|⟨g1,g2,f,g4⟩
   ·omega
   ·rw[g4];show ae c.1.Rune++kl ((loI c.2).map (·.Rune))++kl ((hiI c.2).map (·.Rune))=_;rw[N4 _ d,N4 _ e];unfold rM oc;rw[kH,BE,f,dE]) (λc a h0=>by
   obtain⟨_,_,h3,_⟩:=hc c a;unfold rM oc;rw[h3 (EM h0)];show J _ [c.1]=_;rw[kH,tn,bF])];rfl
theorem N6 (s:V) (b:s.size<=65536):BI s=some (iw s):=by
 unfold BI;have h3:(ij s).length<=s.size:=by unfold ij;simpa using sE s
 have a:=Ie (yX s);have c:=w3 (ij s);have h5:=vT (apL (ij s));refine aV (yR s z1) (aV (H5 _ (λx hx=>(yX _ x hx).1) z1) ?_);have hsz:qN (nq (apL (ij s)))<=(nq (apL (ij s))).length*4:=NU (λx hx=>vU (a x (WH hx)));refine aV (HU _ z1 z1) ?_;rw[NN];show some (J _ ((lS s).flatMap oc))=_;rw[Ib];rfl
def BK (u1:dy) (f:List (cM×Int)) (j:Int->(List Int)->Option V) (i:Int->(List Int)->Bool->Int->Option V) (e:Int) (a:List Int) (c:Bool) (g:Int):Option V := G (decide ((g:Int)<(u1.low.length:Int))) (cm (λ(h:Int->(List Int)->Bool->Option V)=>T (cj u1.low g) λ(q1:Int)=>G ((cf (⟨e,q1⟩:cM) f).isSome) (G (c) (h ((cf (⟨e,q1⟩:cM) f).getD 0) a c) (grd (a.length+1<=2147483648) <|h e (a++[q1]) false)) (grd (a.length+1<=2147483648) <|h e (a++[q1]) false)) (λ(u8:Int) (b:List Int) (d:Bool)=>grd (I64 (g+1)) <|i u8 b d (g+1))) (j e a)
def xb (u1:dy) (f:List (cM×Int)) (k:Int->(List Int)->Option V) (j:Int->(List Int)->Bool->Int->Option V) (c:Int) (a:List Int) (d:Bool) (g:Int):Option V := G (decide ((g:Int)<(u1.high.length:Int))) (cm (λ(i:Int->(List Int)->Bool->Option V)=>T (cj u1.high g) λ(q2:Int)=>G ((cf (⟨c,q2⟩:cM) f).isSome) (G (d) (i ((cf (⟨c,q2⟩:cM) f).getD 0) a d) (grd (a.length+1<=2147483648) <|i c (a++[q2]) false)) (grd (a.length+1<=2147483648) <|i c (a++[q2]) false)) (λ(h:Int) (b:List Int) (e:Bool)=>grd (I64 (g+1)) <|j h b e (g+1))) (k c a)
def BL (u1:dy) (d:List (cM×Int)):Option V := T (vP u1) λ(r1:Bool)=>G (!r1) (some (ae u1.base)) (cm (λ(j:Int->(List Int)->Option V)=>cm (λ(i:Int->(List Int)->Option V)=>bP (λ_ _ _ _=>none) (BK u1 d i) bN u1.base ([]:List Int) true 0) (λ(g:Int) (c:List Int)=>cm (λ(h:Int->(List Int)->Option V)=>bP (λ_ _ _ _=>none) (xb u1 d h) bN g c true 0) (λ(f:Int) (b:List Int)=>j f b))) (λ(e:Int) (a:List Int)=>grd ((ae e).size+(kl a).size<=9223372036854775807) <|some ((ae e)++(kl a))))
theorem W7 (u1:dy) (_t _s:Hd) {_A:Nat}(_z:Nat) {d:List (cM×Int)} {r:V} (h:BL u1 d=some r):Fn prog 73 [.agg #[zI u1.at_,.int .u8 u1.broken,.int .i32 u1.base,_t.v,_s.v],zP _A] [fr _t.v u1.low,fr _s.v u1.high,cells _A [.map (some _z)] 111,cH (λp:cM=>br #[.int .i32 p.e0,.int .i32 p.e1]) (λn:Int=>az .i32 n) _z d] (λ_b:Unit=>.string r) (λ_b=>[fr _t.v u1.low,fr _s.v u1.high,cells _A [.map (some _z)] 111,cH (λp:cM=>br #[.int .i32 p.e0,.int .i32 p.e1]) (λn:Int=>az .i32 n) _z d]):=by
 refine Fn.intro func73 rfl ntmps73 (by simp) (λw0 K=>I (lE rfl dc rfl (λb1=>O 1 rfl (Y (bV (I (ju 4 [zI u1.at_,.int .u8 u1.broken,.int .i32 u1.base,_t.v,_s.v] s7 rfl dc rfl rfl rfl rfl (aU h λr1 ag h=>ru (.bool r1) [.agg #[zI u1.at_,.int .u8 u1.broken,.int .i32 u1.base,_t.v,_s.v]] rfl dc rfl rfl rfl DS (Ev u1 _t _s ag) [0,1] kr rfl (lh rfl dc rfl lj (Y (bu rfl h (λh=>?_) (λh=>?_))))))))))))
 ·refine I (ci qH rfl dc rfl (show _=2 from rfl) (bW 4 fU rfl dc rfl rfl rfl (jI rfl dc rfl (nM bl am) (O 1 rfl (Y (bO (bZ ?_)))))));cases h;exact eW [.tmp 3] () (.inl rfl) results73 (.cons (.tmp rfl) .nil) rfl (cO 4)
 refine bw (cu (cJ (Int×(List Int)×Hd) h 1 rfl (λj1 b=>j1 b.1 b.2.1=some r) (λb=>[]) (λb=>[(2,zP b1),(4,b.2.2.v)]) (λb=>[cells _A [.map (some _z)] 111,cH (λp:cM=>br #[.int .i32 p.e0,.int .i32 p.e1]) (λn:Int=>az .i32 n) _z d,fr _t.v u1.low,fr _s.v u1.high,cells b1 [zI u1.at_,.int .u8 u1.broken,.int .i32 b.1,_t.v,_s.v] 119,fr b.2.2.v b.2.1]) (λj1 h cut=>?_) ?_))
 ·refine I (O 1 rfl (Y (cut (I (ci DK rfl dc rfl (show _=3 from rfl) (bW 4 yf rfl dc rfl rfl rfl (ci DL rfl dc rfl (show _=4 from rfl) (bW 4 yf rfl dc rfl rfl rfl (fH (.agg #[_t.v,_s.v]) [(0,.tmp 19),(1,.tmp 21)] rfl dc rfl (λ_=>by kernel_rfl) (O 1 rfl (Y (ck (Lb 3 (wF (I (E rfl (wz (show ap (decide ((0:Int)<2))=ap true from aI ap dc) dL) (Y (bV (jy rfl (bw (cu (cJ (Int×(List Int)×Hd) h 0 rfl (λj2 b=>j2 b.1 b.2.1=some r) (λb=>[]) (λb=>[(1,zP _A),(2,zP b1),(4,b.2.2.v),(22,.agg #[_t.v,_s.v]),(23,zI 0)]) (λb=>[cells _A [.map (some _z)] 111,cH (λp:cM=>br #[.int .i32 p.e0,.int .i32 p.e1]) (λn:Int=>az .i32 n) _z d,fr _t.v u1.low,fr _s.v u1.high,cells b1 [zI u1.at_,.int .u8 u1.broken,.int .i32 b.1,_t.v,_s.v] 119,fr b.2.2.v b.2.1]) (λj2 h cut=>?_) ?_))))))))))))))))))))))
  ·refine cut (ck (I (oI (v:=_t.v) rfl dc rfl rfl (λ_=>by kernel_rfl) (O 1 rfl (cw (O 1 rfl (cw (O 1 rfl (io 0 rfl dc rfl rfl bH (O 1 rfl (bC (cu (ck (oL (mK (.i32)) 21 1 (n9 (Int×(List Int)×Bool×Int×Hd) (BK u1 d j2) (λa b=>a b.1 b.2.1 b.2.2.1 b.2.2.2.1=some r) (λb=>[]) (λb=>[(1,zP _A),(2,zP b1),(4,b.2.2.2.2.v),(7,.bool b.2.2.1),(22,.agg #[_t.v,_s.v]),(23,zI 0),(26,_t.v),(27,zI (u1.low.length:Int)),(28,zI b.2.2.2.1)]) (λb=>[cells _A [.map (some _z)] 111,cH (λp:cM=>br #[.int .i32 p.e0,.int .i32 p.e1]) (λn:Int=>az .i32 n) _z d,fr _t.v u1.low,fr _s.v u1.high,cells b1 [zI u1.at_,.int .u8 u1.broken,.int .i32 b.1,_t.v,_s.v] 119,fr b.2.2.2.2.v b.2.1]) (u1.base,([]:List Int),true,0,Hd.nil) h rfl (gl rfl) (ct [2,3,0,1,4,5] kr rfl) ?_)))))))))))))));rintro b6 ⟨w,f,D,S,L⟩ h;refine I (E rfl dL (Y (bV (bu rfl h (λh=>?_) (λh=>?_)))))
   ·refine bw (cu (cJ (Int×(List Int)×Bool×Hd) h 0 rfl (λj3 b=>j3 b.1 b.2.1 b.2.2.1=some r) (λb=>[]) (λb=>[(1,zP _A),(2,zP b1),(4,b.2.2.2.v),(7,.bool b.2.2.1),(22,.agg #[_t.v,_s.v]),(23,zI 0),(26,_t.v),(27,zI (u1.low.length:Int)),(28,zI S)]) (λb=>[cells _A [.map (some _z)] 111,cH (λp:cM=>br #[.int .i32 p.e0,.int .i32 p.e1]) (λn:Int=>az .i32 n) _z d,fr _t.v u1.low,fr _s.v u1.high,cells b1 [zI u1.at_,.int .u8 u1.broken,.int .i32 b.1,_t.v,_s.v] 119,fr b.2.2.2.v b.2.1]) (λj3 h cut=>?_) ?_))
    ·refine cut (ck (I (aU h λq1 J h=>eN 2 J bH mN rfl dc rfl rfl rfl rfl (fl 2 ((S:Int).toNat) 0 q1 fU iq rfl dc rfl rfl (ei J) rfl dc rfl (O 1 rfl (cw (bW 0 Aq rfl dc rfl rfl rfl (ci qH rfl dc rfl (show _=2 from rfl) (bW 4 fU rfl dc rfl rfl rfl (O 1 rfl (fH (.agg #[.int .i32 w,.int .i32 q1]) [(0,.tmp 35),(1,.tmp 36)] rfl dc rfl (λ_=>by kernel_rfl) (Dz 1 (λp:cM=>br #[.int .i32 p.e0,.int .i32 p.e1]) (λn:Int=>az .i32 n) (⟨w,q1⟩:cM) 0 (GG (λp:cM=>p.e0) (λp:cM=>p.e1) (λa b h1 h2=>by cases a;cases b;simp_all) lf bl mN) underlying111 kr rfl dc rfl rfl rfl (O 1 rfl (fF rfl dc rfl rfl (fF rfl dc rfl rfl (O 2 rfl (cw (O 2 rfl (du 42 rfl h (λh=>?_) (λh=>?_))))))))))))))))))))
     ·refine O 2 rfl (Y (bu rfl h (λh=>bX (O 1 rfl (ci qH rfl dc rfl (show _=2 from rfl) (fJ 4 [zI u1.at_,.int .u8 u1.broken,.int .i32 ((cf (⟨w,q1⟩:cM) d).getD 0),_t.v,_s.v] mN rfl rfl rfl rfl rfl (λ_ _=>rfl) rfl (bC (cg (mD (((cf (⟨w,q1⟩:cM) d).getD 0),f,D,L) h 6))))))) (λh=>I (O 2 rfl (hQ [(0,.tmp 48)] 21 [.int .i32 q1] rfl dc rfl (λ_=>by kernel_rfl) (λb2=>bi h λa4 h=>jJ 5 6 [q1] bH vB iq vu rfl dc rfl rfl rfl rfl rfl rfl a4 (λv1=>jk 5 rfl (λbh a8=>?_))))))));subst a8;exact O 1 rfl (Y (bX (O 1 rfl (bC (cg (mD (w,f++[q1],false,bh) h 6))))))
     refine O 2 rfl (Y (eU rfl (I (O 2 rfl (hQ [(0,.tmp 48)] 21 [.int .i32 q1] rfl dc rfl (λ_=>by kernel_rfl) (λb3=>bi h λa3 h=>jJ 5 6 [q1] bH vB iq vu rfl dc rfl rfl rfl rfl rfl rfl a3 (λv2=>jk 5 rfl (λbb a7=>?_))))))));subst a7;exact O 1 rfl (Y (bX (O 1 rfl (bC (cg (mD (w,f++[q1],false,bb) h 6))))))
    rintro⟨u8,o,z,bk⟩ h;exact bX (bi h λa2 h=>E rfl (c8 (S+1) (ac _ a2)) (O 1 rfl (bC (mD (u8,o,z,S+1,bk) h 6))))
   exact dG (bS (bS (dH (cg (mD (w,f,L) h 6)))))
  rintro⟨u3,t,hd2⟩ h;refine bX (E rfl (c8 1 dc) (O 1 rfl (bC (Ah (wF (I (E rfl (wz (show ap (decide ((1:Int)<2))=ap true from aI ap dc) dL) (Y (bV (jy rfl (bw (cu (cJ (Int×(List Int)×Hd) h 0 rfl (λZ b=>Z b.1 b.2.1=some r) (λb=>[]) (λb=>[(1,zP _A),(2,zP b1),(4,b.2.2.v),(22,.agg #[_t.v,_s.v]),(23,zI 1)]) (λb=>[cells _A [.map (some _z)] 111,cH (λp:cM=>br #[.int .i32 p.e0,.int .i32 p.e1]) (λn:Int=>az .i32 n) _z d,fr _t.v u1.low,fr _s.v u1.high,cells b1 [zI u1.at_,.int .u8 u1.broken,.int .i32 b.1,_t.v,_s.v] 119,fr b.2.2.v b.2.1]) (λZ h cut=>?_) ?_)))))))))))))
  ·refine cut (ck (I (oI (v:=_s.v) rfl dc rfl rfl (λ_=>by kernel_rfl) (O 1 rfl (cw (O 1 rfl (cw (O 1 rfl (io 3 rfl dc rfl rfl bH (O 1 rfl (bC (cu (ck (fP (Int×(List Int)×Bool×Int×Hd) (xb u1 d Z) (λa b=>a b.1 b.2.1 b.2.2.1 b.2.2.2.1=some r) (λb=>[]) (λb=>[(1,zP _A),(2,zP b1),(4,b.2.2.2.2.v),(7,.bool b.2.2.1),(22,.agg #[_t.v,_s.v]),(23,zI 1),(26,_s.v),(27,zI (u1.high.length:Int)),(28,zI b.2.2.2.1)]) (λb=>[cells _A [.map (some _z)] 111,cH (λp:cM=>br #[.int .i32 p.e0,.int .i32 p.e1]) (λn:Int=>az .i32 n) _z d,fr _t.v u1.low,fr _s.v u1.high,cells b1 [zI u1.at_,.int .u8 u1.broken,.int .i32 b.1,_t.v,_s.v] 119,fr b.2.2.2.2.v b.2.1]) (u3,t,true,0,hd2) h 6 ?_))))))))))))));rintro b0 ⟨g,c,y,Q,u⟩ h;refine I (E rfl dL (Y (bV (bu rfl h (λh=>?_) (λh=>?_)))))
   ·refine bw (cu (cJ (Int×(List Int)×Bool×Hd) h 0 rfl (λj5 b=>j5 b.1 b.2.1 b.2.2.1=some r) (λb=>[]) (λb=>[(1,zP _A),(2,zP b1),(4,b.2.2.2.v),(7,.bool b.2.2.1),(22,.agg #[_t.v,_s.v]),(23,zI 1),(26,_s.v),(27,zI (u1.high.length:Int)),(28,zI Q)]) (λb=>[cells _A [.map (some _z)] 111,cH (λp:cM=>br #[.int .i32 p.e0,.int .i32 p.e1]) (λn:Int=>az .i32 n) _z d,fr _t.v u1.low,fr _s.v u1.high,cells b1 [zI u1.at_,.int .u8 u1.broken,.int .i32 b.1,_t.v,_s.v] 119,fr b.2.2.2.v b.2.1]) (λj5 h cut=>?_) ?_))
    ·refine cut (ck (I (aU h λq2 H h=>eN 3 H bH mN rfl dc rfl rfl rfl rfl (fl 3 ((Q:Int).toNat) 0 q2 fU iq rfl dc rfl rfl (ei H) rfl dc rfl (O 1 rfl (cw (bW 0 Aq rfl dc rfl rfl rfl (ci qH rfl dc rfl (show _=2 from rfl) (bW 4 fU rfl dc rfl rfl rfl (O 1 rfl (fH (.agg #[.int .i32 g,.int .i32 q2]) [(0,.tmp 35),(1,.tmp 36)] rfl dc rfl (λ_=>by kernel_rfl) (Dz 1 (λp:cM=>br #[.int .i32 p.e0,.int .i32 p.e1]) (λn:Int=>az .i32 n) (⟨g,q2⟩:cM) 0 (GG (λp:cM=>p.e0) (λp:cM=>p.e1) (λa b h1 h2=>by cases a;cases b;simp_all) lf bl mN) underlying111 kr rfl dc rfl rfl rfl (O 1 rfl (fF rfl dc rfl rfl (fF rfl dc rfl rfl (O 2 rfl (cw (O 2 rfl (du 42 rfl h (λh=>?_) (λh=>?_))))))))))))))))))))
     ·refine O 2 rfl (Y (bu rfl h (λh=>bX (O 1 rfl (ci qH rfl dc rfl (show _=2 from rfl) (fJ 4 [zI u1.at_,.int .u8 u1.broken,.int .i32 ((cf (⟨g,q2⟩:cM) d).getD 0),_t.v,_s.v] mN rfl rfl rfl rfl rfl (λ_ _=>rfl) rfl (bC (cg (mD (((cf (⟨g,q2⟩:cM) d).getD 0),c,y,u) h 6))))))) (λh=>I (O 2 rfl (hQ [(0,.tmp 48)] 21 [.int .i32 q2] rfl dc rfl (λ_=>by kernel_rfl) (λb4=>bi h λa1 h=>jJ 5 6 [q2] bH vB iq vu rfl dc rfl rfl rfl rfl rfl rfl a1 (λv3=>jk 5 rfl (λN a6=>?_))))))));subst a6;exact O 1 rfl (Y (bX (O 1 rfl (bC (cg (mD (g,c++[q2],false,N) h 6))))))
     refine O 2 rfl (Y (eU rfl (I (O 2 rfl (hQ [(0,.tmp 48)] 21 [.int .i32 q2] rfl dc rfl (λ_=>by kernel_rfl) (λb5=>bi h λa0 h=>jJ 5 6 [q2] bH vB iq vu rfl dc rfl rfl rfl rfl rfl rfl a0 (λv4=>jk 5 rfl (λM a5=>?_))))))));subst a5;exact O 1 rfl (Y (bX (O 1 rfl (bC (cg (mD (g,c++[q2],false,M) h 6))))))
    rintro⟨W,l,x,P⟩ h;exact bX (bi h λaw h=>E rfl (c8 (Q+1) (ac _ aw)) (O 1 rfl (bC (mD (W,l,x,Q+1,P) h 6))))
   exact dG (bS (bS (dH (cg (mD (g,c,u) h 6)))))
  rintro⟨u9,m,a9⟩ h;exact bX (E rfl (c8 2 dc) (O 1 rfl (bC (Ah (wF (I (E rfl (wz (show ap (decide ((2:Int)<2))=ap false from aI ap dc) dL) (Y (bV (eU rfl (dG (bS (bS (dH (mD (u9,m,a9) h 6)))))))))))))))
 rintro⟨u2,F,bs⟩ h;refine I (ci qH rfl dc rfl (show _=2 from rfl) (bW 4 fU rfl dc rfl rfl rfl (jI rfl dc rfl (nM bl am) (O 1 rfl (GA (k:=5) rfl dc rfl rfl bH bl am (bi h λao h=>E rfl (ni ao) (O 1 rfl (Y (bO ?_)))))))));cases h;exact eW [.tmp 3] () (.inl rfl) results73 (.cons (.tmp rfl) .nil) rfl (ct [2,3,0,1] kr rfl)
def ES (f:List dy) (a:List (cM×Int)) (h:V->Option V) (e:V->Int->Option V) (b:V) (d:Int):Option V := G (decide ((d:Int)<(f.length:Int))) (cm (λ(g:V->Option V)=>T (cj f d) λ(c:dy)=>G (decide ((c.base:Int)<0)) (grd (b.size+1<=140737488355328) <|grd (∀x∈([c.broken]:List Int),U8 x) <|g (b++(kK [c.broken]))) (T (BL c a) λ(r1:V)=>grd (b.size+r1.size<=140737488355328) <|g (b++r1))) (λ(i:V)=>grd (I64 (d+1)) <|e i (d+1))) (h b)
def ET (b:List dy) (a:List (cM×Int)):Option V := cm (λ(c:V->Option V)=>bP (λ_ _=>none) (ES b a c) bN af 0) (λ(b1:V)=>some b1)
theorem W8 {l t:Value} {f:List (dy×Hd×Hd)} {z:Nat} {x:List (dy×Hd×Hd)} {y:List dy} (m:Vw l f 5 z t x) (w:x.map bE=y) {c _y:Nat} {d:List (cM×Int)} {r:V} (h:ET y d=some r):Fn prog 71 [t,.func (.func 73) #[] #[zP c]] [oV l f,own jB f,cells c [.map (some _y)] 111,cH (λp:cM=>br #[.int .i32 p.e0,.int .i32 p.e1]) (λn:Int=>az .i32 n) _y d] (λ_b:Unit=>.string r) (λ_b=>[oV l f,own jB f,cells c [.map (some _y)] 111,cH (λp:cM=>br #[.int .i32 p.e0,.int .i32 p.e1]) (λn:Int=>az .i32 n) _y d]):=by
 refine Fn.intro func71 rfl ntmps71 (by simp) (λw0 K=>cJ (V×Value) h 2 rfl (λF b=>F b.1=some r) (λb=>[]) (λb=>[(5,b.2)]) (λb=>[cells c [.map (some _y)] 111,cH (λp:cM=>br #[.int .i32 p.e0,.int .i32 p.e1]) (λn:Int=>az .i32 n) _y d,oV l f,own jB f,byt 5 b.2 b.1]) (λF h cut=>?_) ?_)
 ·refine I (O 1 rfl (cw (O 1 rfl (Y (cut (I (O 1 rfl (GE w m rfl dc rfl fM (O 1 rfl (Y (ck (Dw (e:=5) (n9 (V×Int×Value) (ES y d F) (λa b=>a b.1 b.2.1=some r) (λb=>[]) (λb=>[(1,.func (.func 73) #[] #[zP c]),(5,b.2.2),(8,t),(9,zI (y.length:Int)),(10,zI b.2.1)]) (λb=>[cells c [.map (some _y)] 111,cH (λp:cM=>br #[.int .i32 p.e0,.int .i32 p.e1]) (λn:Int=>az .i32 n) _y d,oV l f,own jB f,byt 5 b.2.2 b.1]) (af,0,(.slice none 0 0)) h rfl (gl rfl) (ct [2,3,0,1,4] kr rfl) ?_)))))))))))));rintro ag ⟨Q,D,v4⟩ h;refine I (E rfl dL (Y (bV (bu rfl h (λh=>?_) (λh=>?_)))))
  ·refine bw (cu (cJ (V×Value) h 0 rfl (λS b=>S b.1=some r) (λb=>[]) (λb=>[(1,.func (.func 73) #[] #[zP c]),(5,b.2),(8,t),(9,zI (y.length:Int)),(10,zI D)]) (λb=>[cells c [.map (some _y)] 111,cH (λp:cM=>br #[.int .i32 p.e0,.int .i32 p.e1]) (λn:Int=>az .i32 n) _y d,oV l f,own jB f,byt 5 b.2 b.1]) (λS h cut=>?_) ?_))
   ·refine cut (ck (I (aU h λg J h=>?_)));obtain⟨⟨s,o⟩,u⟩:=Al w J;exact gm m u fM uB rfl dc rfl rfl rfl (oM 2 (z+(D:Int).toNat) 0 (g,(s,o)) [zI g.at_,.int .u8 g.broken,.int .i32 g.base,s.v,o.v] s7 re rfl dc rfl rfl (cq m u) rfl rfl rfl (fZ DM rfl dc (λb6=>fI 5 [zI g.at_,.int .u8 g.broken,.int .i32 g.base,s.v,o.v] [zI g.at_,.int .u8 g.broken,.int .i32 g.base,s.v,o.v] uB rfl rfl rfl rfl rfl (show _<=_ by simp) rfl rfl (cw (ci qH rfl dc rfl (show _=2 from rfl) (bW 5 fU rfl dc rfl rfl rfl (E rfl dL (Y (bu rfl h (λh=>bX (O 1 rfl (ci GW rfl dc rfl (show _=1 from rfl) (bW 5 GL rfl dc rfl rfl rfl (hQ [(0,.tmp 19)] 5 [.int .u8 g.broken] rfl dc rfl (λ_=>by kernel_rfl) (λb7=>bi h λP h=>bi h λN h=>Gk (kK [g.broken]) 6 (k:=4) dr vA rfl dc rfl rfl rfl rfl (GC N) rfl P (λZ=>O 1 rfl (bC (cg (mD (Q++(kK [g.broken]),Z) h 5)))))))))) (λh=>bX (O 2 rfl (ju 5 [zI g.at_,.int .u8 g.broken,.int .i32 g.base,s.v,o.v] s7 rfl dc rfl rfl rfl rfl (sV 3 rfl (Ak (cq m u)) (λ_ _=>aU h λr1 H h=>ru (.string r1) [.agg #[zI g.at_,.int .u8 g.broken,.int .i32 g.base,s.v,o.v]] rfl dc rfl rfl rfl Tt (W7 g s o _y H) [6,7,0,1] kr rfl (bi h λM h=>z7 4 dr am vA rfl dc rfl rfl rfl M (λW=>O 1 rfl (bC (cg (vz 3 rfl (ct [6,7] kr rfl) rfl (wG jB (cq m u) rfl) (mD (Q++r1,W) h 5))))))))))))))))))))
   rintro⟨b5,v5⟩ h;exact bX (bi h λL h=>E rfl (c8 (D+1) (ac _ L)) (O 1 rfl (bC (mD (b5,D+1,v5) h 5))))
  exact dG (bS (bS (dH (mD (Q,v4) h 5))))
 rintro⟨b1,v1⟩ h;refine I (O 1 rfl (tG 4 rfl dc rfl rfl dr underlying5 am (O 1 rfl (Y (bO ?_)))));cases h;exact eW [.tmp 4] () (.inl rfl) results71 (.cons (.tmp rfl) .nil) rfl (ct [2,3,0,1] kr rfl)
def yZ (a:V):Option V := T (Bw) λ(r1:((List (cM×Int))×(List (Int×cM))))=>T (w9 a) λ(r2:(List dy))=>T (ET r2 r1.1) λ(r3:V)=>some r3
theorem N7 {a:V} {r:V} (h:yZ a=some r):eO prog 30 [.string a] (.string r):=by
 refine eO.intro func30 rfl ntmps30 (by simp) (λw0 K=>I (O 1 rfl (cw (aU h λr1 f h=>ir [] rfl dc rfl rfl rfl G7 (HR f) aC ?_))));rintro⟨b1,m⟩;refine O 1 rfl (fF rfl dc rfl rfl (fF rfl dc rfl rfl (fZ LO rfl dc (λl=>fJ 2 [.map (some b1)] LN rfl rfl rfl rfl rfl (λ_ _=>rfl) rfl (O 1 rfl (cw (O 1 rfl (aU h λr2 e h=>ir [.string a] rfl dc rfl rfl rfl G9 (H6 e) aC (λv1=>Gw (k:=3) rfl (λi g=>?_))))))))));subst g;refine xC [] [.tmp 3] rfl dc rfl rfl (sV 3 rfl xT (λj b=>lF 3 rfl (λc=>aU h λr3 d h=>ru (.string r3) [i.v,.func (.func 73) #[] #[zP l]] rfl dc rfl rfl rfl G8 (W8 (_y:=b1) c b d) [3,4,2,0] kr rfl (O 1 rfl (Y (bO ?_))))));cases h;exact dt 2 results30
def y0 (r2:(List cd)) (y:Int->Int->V->Int->V->Option V) (q:Int->Int->V->Int->V->Bool->Bool->Int->Option V) (j:Int) (d:Int) (g:V) (f:Int) (a:V) (c:Bool) (b:Bool) (o:Int):Option V := G (decide ((0:Int)<o)) (cm (λ(u:Int->Option V)=>T (cj r2 j) λ(q2:cd)=>T (Bi q2.Rune) λ(v:Bool)=>G (v) (u 1) (u 0)) (λ(k1:Int)=>cm (λ(p:Int->V->Int->V->Bool->Bool->Option V)=>T (cj r2 j) λ(x:cd)=>T (Be d x.Rune) λ(r:Int)=>G ((r:Int) != 0) (T (cj ([c,b]:List Bool) k1) λ(w:Bool)=>G (!w) (T (Bm r (⟨d,g,f⟩:cd)) λ(n:cd)=>p n.Rune n.Text n.At a c b) (T (cj r2 j) λ(t:cd)=>grd (a.size+t.Text.size<=9223372036854775807) <|T (cj ([c,b]:List Bool) k1) λ(D:Bool)=>p d g f (a++t.Text) (if (k1:Int).toNat=0 then true else c) (if (k1:Int).toNat=1 then true else b))) (T (cj r2 j) λ(s:cd)=>grd (a.size+s.Text.size<=9223372036854775807) <|T (cj ([c,b]:List Bool) k1) λ(z:Bool)=>p d g f (a++s.Text) (if (k1:Int).toNat=0 then true else c) (if (k1:Int).toNat=1 then true else b))) (λ(m:Int) (l:V) (k:Int) (e:V) (i:Bool) (h:Bool)=>grd (I64 (j+1)) <|grd (I64 (o-1)) <|q (j+1) m l k e i h (o-1)))) (y j d g f a)
def xc (g:V->Option V) (r2:(List cd)) (d:V->Int->Option V) (b:V) (c:Int):Option V := G (decide ((c:Int)<(r2.length:Int))) (T (cj r2 c) λ(q1:cd)=>grd (I64 (c+1)) <|T (vN q1) λ(r3:Bool)=>G (!r3) (grd (b.size+q1.Text.size<=9223372036854775807) <|d (b++q1.Text) (c+1)) (cm (λ(f:Int->Int->V->Int->V->Option V)=>grd (0<=(c+1:Int)/\(c+1:Int)<=(r2.length:Int)/\((r2.length:Int):Int)<=(r2.length:Int)) <|T (yL (ee r2 (c+1) (r2.length:Int))) λ(e:Int)=>bP (λ_ _ _ _ _ _ _ _=>none) (y0 r2 f) bN (c+1) q1.Rune q1.Text q1.At (⟨#[]⟩:V) false false e) (λ(h:Int) (x1:Int) (x2:V) (i:Int) (a:V)=>grd (x2.size+a.size<=9223372036854775807) <|grd (b.size+(x2++a).size<=9223372036854775807) <|d (b++(x2++a)) h))) (g b)
def EU (b:V):Option V := cm (λ(c:V->Option V)=>T (uK b) λ(r1:(List cd))=>T (yM r1) λ(r2:(List cd))=>bP (λ_ _=>none) (xc c r2) bN (⟨#[]⟩:V) 0) (λ(a:V)=>some a)
theorem W9 {s1:V} {r:V} (h:EU s1=some r):eO prog 78 [.string s1] (.string r):=by
 refine eO.intro func78 rfl ntmps78 (by simp) (λw0 K=>cJ V h 3 rfl (λj1 b=>j1 b=some r) (λb=>[]) (λb=>[(4,.string b)]) (λb=>[]) (λj1 h cut=>?_) ?_)
 ·refine I (O 1 rfl (cw (O 1 rfl (aU h λr1 a9 h=>ir [.string s1] rfl dc rfl rfl rfl yi (yJ a9) aC (λv1=>lF 0 rfl (λa1=>aU h λr2 a8 h=>ir [v1] rfl dc rfl rfl rfl Hc (HN a1 a8) (cO 1) (λv2=>O 1 rfl (cw (O 1 rfl (Y (cut (I (O 1 rfl (Y (ck (n9 (V×Int) (xc j1 r2) (λa b=>a b.1 b.2=some r) (λb=>[]) (λb=>[(3,v2),(4,.string b.1),(5,zI b.2)]) (λb=>[fE v2 r2]) ((⟨#[]⟩:V),0) (by exact h) rfl (gl rfl) (ct [2] kr rfl) ?_))))))))))))))));rintro b9 ⟨l,Q⟩ h;refine bV (I (O 2 rfl (io 0 rfl dc rfl rfl aG (E rfl dL (Y (bu rfl h (λh=>?_) (λh=>?_)))))))
  ·refine bw (cu (ck (I (O 2 rfl (aU h λq1 Z h=>eN 0 Z aG iN rfl dc rfl rfl rfl rfl (oM 0 ((Q:Int).toNat) 0 q1 (ig q1) nC kO rfl dc rfl rfl (ei Z) rfl rfl rfl (fZ sx rfl dc (λb1=>fI 1 (ig q1) (ig q1) iN rfl rfl rfl rfl rfl (show _<=_ by simp) rfl rfl (cw (O 1 rfl (bi h λb6 h=>E rfl (c8 (Q+1) (ac _ b6)) (O 1 rfl (Y (bV (I (ju 1 (ig q1) nC rfl dc rfl rfl rfl rfl (aU h λr3 a7 h=>dF (.bool r3) [.agg (ig q1).toArray] rfl dc rfl rfl rfl Az (Bl q1 a7) (lh rfl dc rfl lj (Y (bu rfl h (λh=>I (O 1 rfl (ci sZ rfl dc rfl (show _=1 from rfl) (bW 1 eJ rfl dc rfl rfl rfl (bi h λb5 h=>E rfl (ni b5) (O 1 rfl (Y (dG (bS (dH (mD (l++q1.Text,Q+1) h 1))))))))))) (λh=>bw (cu (cJ (Int×Int×V×Int×V) h 2 rfl (λj2 b=>j2 b.1 b.2.1 b.2.2.1 b.2.2.2.1 b.2.2.2.2=some r) (λb=>[]) (λb=>[(3,v2),(4,.string l),(5,zI b.1),(6,zP b1),(7,.string b.2.2.2.2)]) (λb=>[fE v2 r2,cells b1 [.int .i32 b.2.1,.string b.2.2.1,zI b.2.2.2.1] 79]) (λj2 h cut=>?_) ?_)))))))))))))))))))))))
   ·refine I (O 1 rfl (cw (fH (.agg #[.bool false,.bool false]) [] rfl dc rfl (λ_=>by kernel_rfl) (fZ SJ rfl dc (λN=>fI 2 [.bool false,.bool false] [.bool false,.bool false] SI rfl rfl rfl rfl rfl (show _<=_ by simp) rfl rfl (Y (cut (I (O 2 rfl (lF 0 rfl (λhw2=>bi h λb4 h=>?_)))))))))));obtain⟨v3,a2,a3⟩:=pf (some (zI (Q+1))) none hw2 aG iN (.inr rfl) (.inl ⟨rfl,rfl⟩) b4;refine jj rfl dc rfl rfl rfl a3 (aU h λr4 a6 h=>ru (zI r4) [v3] rfl dc rfl rfl rfl Hh (HM a2 a6) [0] kr rfl (O 1 rfl (Y (ck (fP (Int×Int×V×Int×V×Bool×Bool×Int) (y0 r2 j2) (λa b=>a b.1 b.2.1 b.2.2.1 b.2.2.2.1 b.2.2.2.2.1 b.2.2.2.2.2.1 b.2.2.2.2.2.2.1 b.2.2.2.2.2.2.2=some r) (λb=>[]) (λb=>[(3,v2),(4,.string l),(5,zI b.1),(6,zP b1),(7,.string b.2.2.2.2.1),(8,zP N),(9,zI b.2.2.2.2.2.2.2)]) (λb=>[fE v2 r2,cells b1 [.int .i32 b.2.1,.string b.2.2.1,zI b.2.2.2.1] 79,cells N [.bool b.2.2.2.2.2.1,.bool b.2.2.2.2.2.2.1] 167]) (Q+1,q1.Rune,q1.Text,q1.At,(⟨#[]⟩:V),false,false,r4) (by exact h) 3 ?_)))));rintro b8 ⟨o,m,t,p,g,f,e,n4⟩ h;refine bV (I (O 1 rfl (E rfl kF (Y (bu rfl h (λh=>?_) (λh=>?_))))))
    ·refine bw (cu (bV (ck (cJ Int h 1 rfl (λj3 b=>j3 b=some r) (λb=>[]) (λb=>[(3,v2),(4,.string l),(5,zI o),(6,zP b1),(7,.string g),(8,zP N),(9,zI n4),(10,zI b)]) (λb=>[fE v2 r2,cells b1 [.int .i32 m,.string t,zI p] 79,cells N [.bool f,.bool e] 167]) (λj3 h cut=>I (O 1 rfl (Y (cut (I (O 2 rfl (aU h λq2 W h=>eN 0 W aG iN rfl dc rfl rfl rfl rfl (ci kx rfl dc rfl (show _=((o:Int).toNat)*3 from rfl) (fl 0 ((o:Int).toNat) 0 q2 fU kO rfl dc rfl rfl (ei W) rfl dc rfl (aU h λr5 a5 h=>dF (.bool r5) [.int .i32 q2.Rune] rfl dc rfl rfl rfl Mt (M9 a5) (Y (bu rfl h (λh=>bX (O 1 rfl (bC (mD 1 h 3)))) (λh=>bw (mD 0 h 3)))))))))))))) (λk1 h=>cJ (Int×V×Int×V×Bool×Bool) h 0 rfl (λj4 b=>j4 b.1 b.2.1 b.2.2.1 b.2.2.2.1 b.2.2.2.2.1 b.2.2.2.2.2=some r) (λb=>[]) (λb=>[(3,v2),(4,.string l),(5,zI o),(6,zP b1),(7,.string b.2.2.2.1),(8,zP N),(9,zI n4)]) (λb=>[fE v2 r2,cells b1 [.int .i32 b.1,.string b.2.1,zI b.2.2.1] 79,cells N [.bool b.2.2.2.2.1,.bool b.2.2.2.2.2] 167]) (λj4 h cut=>?_) ?_)))))
     ·exact cut (bV (aU h λq3 S h=>aU h λr6 a4 h=>jU 7 [(0,47,zP b1),(1,48,.int .i32 m),(2,49,v2),(3,50,zI o),(4,51,.pointer (some ⟨eS v2,(o:Int).toNat*3,none⟩)),(5,52,.pointer (some ⟨eS v2,((o:Int).toNat)*3,none⟩)),(6,53,.int .i32 q3.Rune)] mixed kr kr dc (by rfl) kr kr (bQ (λD n d c u i=>ci kx rfl dc (eG (by rfl) rfl) (show _=0 from rfl) (bf 0 u i)) (bQ (λD n d c u i=>bW 1 fU rfl dc (aX 0 u d) rfl rfl (bf 1 u i)) (gD 2 2 rfl (bQ (λD n d c u i=>eN 0 S aG iN rfl dc (aX 2 u d) (aX 3 u d) rfl rfl (bf 4 u i)) (bQ (λD n d c u i=>ci kx rfl dc (aX 4 u d) (show _=((o:Int).toNat)*3 from rfl) (bf 5 u i)) (bQ (λD n d c u i=>fl 0 ((o:Int).toNat) 0 q3 fU kO rfl dc (aX 5 u d) rfl (ei S) rfl dc rfl (bf 6 u i)) bM.nil)))))) (dF (.int .i32 r6) [.int .i32 m,.int .i32 q3.Rune] rfl dc rfl rfl rfl TM (VD a4) (O 1 rfl (cw (O 1 rfl (E rfl nh (O 1 rfl (du 57 rfl h (λh=>O 1 rfl (aU h λq4 M h=>qD (z8 M) tC qq rfl dc rfl rfl (bY _) (pd 2 (enc:=xM) (size:=1) ([f,e]:List Bool) rfl xN rfl (show 2<=maxLen by decide) (fl 2 ((k1:Int).toNat) 0 q4 sW xN rfl dc rfl rfl (ei M) rfl dc rfl (su 2 rfl (Gx (by rfl)) (lh rfl dc rfl lj (O 1 rfl (Y (bu rfl h (λh=>bX (O 1 rfl (ju 1 [.int .i32 m,.string t,zI p] nC rfl dc rfl rfl rfl rfl (aU h λP ag h=>dF (.agg (ig P).toArray) [.int .i32 r6,.agg #[.int .i32 m,.string t,zI p]] rfl dc rfl rfl rfl Mu (Na (⟨m,t,p⟩:cd) ag) (fI 1 (ig P) (ig P) iN rfl rfl rfl rfl rfl (show _<=_ by simp) rfl rfl (bC (mD (P.Rune,P.Text,P.At,g,f,e) h 3))))))) (λh=>I (O 3 rfl (aU h λq5 L h=>eN 0 L aG iN rfl dc rfl rfl rfl rfl (ci sZ rfl dc rfl (show _=((o:Int).toNat)*3+1 from rfl) (fl 0 ((o:Int).toNat) 1 q5 eJ kO rfl dc rfl rfl (ei L) rfl dc rfl (bi h λb3 h=>E rfl (ni b3) (O 1 rfl (Y (bX (O 1 rfl (aU h λq6 J h=>qD (z8 J) tC qq rfl dc rfl rfl (bY _) (pd 2 (enc:=xM) (size:=1) ([f,e]:List Bool) rfl xN rfl (show 2<=maxLen by decide) (oN 2 ((k1:Int).toNat) 0 q6 true qq xN rfl rfl rfl rfl (ei J) rfl dc rfl (λ_ _=>rfl) (vk 2 rfl (aI (vec xM 167 1 (.slice (some ⟨N,0,none⟩) 2 2)) (show _=([(if (k1:Int).toNat=0 then true else f),(if (k1:Int).toNat=1 then true else e)]:List Bool) from K9 _ _ _)) (su 2 rfl (Gx (by rfl)) (bC (mD (m,t,p,g++q5.Text,if (k1:Int).toNat=0 then true else f,if (k1:Int).toNat=1 then true else e) h 3)))))))))))))))))))))))))) (λh=>O 5 rfl (Y (eU rfl (I (O 3 rfl (aU h λq7 H h=>eN 0 H aG iN rfl dc rfl rfl rfl rfl (ci sZ rfl dc rfl (show _=((o:Int).toNat)*3+1 from rfl) (fl 0 ((o:Int).toNat) 1 q7 eJ kO rfl dc rfl rfl (ei H) rfl dc rfl (bi h λb0 h=>E rfl (ni b0) (O 1 rfl (Y (bX (O 1 rfl (aU h λq8 F h=>qD (z8 F) tC qq rfl dc rfl rfl (bY _) (pd 2 (enc:=xM) (size:=1) ([f,e]:List Bool) rfl xN rfl (show 2<=maxLen by decide) (oN 2 ((k1:Int).toNat) 0 q8 true qq xN rfl rfl rfl rfl (ei F) rfl dc rfl (λ_ _=>rfl) (vk 2 rfl (aI (vec xM 167 1 (.slice (some ⟨N,0,none⟩) 2 2)) (show _=([(if (k1:Int).toNat=0 then true else f),(if (k1:Int).toNat=1 then true else e)]:List Bool) from K9 _ _ _)) (su 2 rfl (Gx (by rfl)) (bC (mD (m,t,p,g++q7.Text,if (k1:Int).toNat=0 then true else f,if (k1:Int).toNat=1 then true else e) h 3)))))))))))))))))))))))))))))
     rintro⟨a0,aw,ao,w,z,y⟩ h;exact bX (O 1 rfl (bi h λbs h=>E rfl (c8 (o+1) (ac _ bs)) (O 1 rfl (bC (cg (cu (bX (O 1 rfl (bi h λbk h=>E rfl (iV (n4-1) (ac _ bk)) (O 1 rfl (bC (mD (o+1,a0,aw,ao,w,z,y,n4-1) h 3))))))))))))
    exact dG (bS (bS (dH (mD (o,m,t,p,g) h 2))))
   rintro⟨i4,x1,x2,x3,x⟩ h;exact bX (O 1 rfl (ci sZ rfl dc rfl (show _=1 from rfl) (bW 1 eJ rfl dc rfl rfl rfl (O 1 rfl (bi h λbh h=>E rfl (ni bh) (bi h λbb h=>E rfl (ni bb) (O 1 rfl (bC (cg (mD (l++(x2++x),i4) h 1))))))))))
  exact dG (bS (bS (dH (mD l h 0))))
 refine λb7 h=>I (O 2 rfl (Y (bO ?_)));cases h;exact dt 2 results78
theorem Xa (M:List (cM×Int)) (a:dy->V) (l:List dy) (d:l.length<=1048576) (h:∀u∈l,u.base<0/\U8 u.broken\/0<=u.base/\BL u M=some (a u)/\(a u).size<=1048576):ET l M=some (J (wr a) l):=by
 unfold ET;refine cL ((tj l (λb u=>b++wr a u) some (λk b=>b.size<=k*1048576) ?_ ?_ ?_ (jC z1) (by decide)).trans rfl)
 ·intro ag k u b hu hb;have hk:=pM hu;unfold ES;refine ca (oa hu) (cL (aV (mY hu) ?_));rcases h u (aF hu) with⟨h1,h2⟩|⟨h1,h2,h3⟩
  ·exact ca (an h1) (gO (dI (by simpa using h2) (dI (kG z1) (by simp only[wr,aj h1]))))
  ·exact fc (aV h2 (gO (dI (kG z1) (by simp only[wr,ai (show ¬u.base<0 by omega)]))))
 ·intro k u b hu hb;have c:(wr a u).size<=1048576:=by
   rcases h u (aF hu) with⟨h1,h2⟩|⟨h1,h2,h3⟩
   ·unfold wr;rw[aj h1,Gs];simp
   ·unfold wr;rw[ai z1];exact h3
  rw[aM];omega
 ·intro ag b _;unfold ES;exact bR nR rfl
theorem Xb:(j0.all λp=>decide (0<p.2/\p.2<=2000)&&dx p.2)=true:=by decide +kernel
theorem Xc {b m j:Int} (h:kn b m=some j):0<j/\j<=2000/\dx j=true:=by
 have:=bm.1 Xb _ (uL h);simp only[aN,decide_eq_true_eq] at this;exact⟨this.1.1,this.1.2,this.2⟩
def kg (a:Int×List Int×Bool) (m:Int):Int×List Int×Bool :=
 match kn a.1 m with
 |some j=>if a.2.2 then (j,a.2.1,true) else (a.1,a.2.1++[m],false)
 |none=>(a.1,a.2.1++[m],false)
def tX (b:Int) (lo hi:List Int):V :=
 ae (hi.foldl kg ((lo.foldl kg (b,[],true)).1,(lo.foldl kg (b,[],true)).2.1,true)).1++kl (hi.foldl kg ((lo.foldl kg (b,[],true)).1,(lo.foldl kg (b,[],true)).2.1,true)).2.1
theorem Ip (a:Int×List Int×Bool) (m:Int):(kg a m).2.1.length<=a.2.1.length+1:=by
 unfold kg;split
 ·split<;>simp
 ·simp
theorem EV (b:List Int):∀a:Int×List Int×Bool,(b.foldl kg a).2.1.length<=a.2.1.length+b.length:=by
 induction b with
 |nil=>intro a;simp
 |cons m b c=>intro a;have:=c (kg a m);have:=Ip a m;rw[bz,ab];omega
section
variable {R X A B C:Type} {xs:List X}
theorem N8 (F:(A->B->C->Int->Option R)->A->B->C->Int->Option R) (bot:A->B->C->Int->Option R) (f:A×B×C->X->A×B×C) (Jf:A->B->Option R) (Inv:Nat->A×B×C->Prop) (c:∀ag k x (a:A×B×C),xs[k]?=some x->Inv k a->F ag a.1 a.2.1 a.2.2 (k:Int)=ag (f a x).1 (f a x).2.1 (f a x).2.2 ((k:Int)+1)) (e:∀k x a,xs[k]?=some x->Inv k a->Inv (k+1) (f a x)) (he:∀ag (a:A×B×C),Inv xs.length a->F ag a.1 a.2.1 a.2.2 (xs.length:Int)=Jf a.1 a.2.1) {n:Nat} (d:xs.length<n) {a:A×B×C} (h0:Inv 0 a):bP bot F n a.1 a.2.1 a.2.2 0=Jf (xs.foldl f a).1 (xs.foldl f a).2.1:=by
 have key:∀ (n k:Nat) (a:A×B×C),k<=xs.length->xs.length-k<n->Inv k a->bP bot F n a.1 a.2.1 a.2.2 (k:Int)=Jf ((xs.drop k).foldl f a).1 ((xs.drop k).foldl f a).2.1:=by
  intro n
  induction n with
  |zero=>intro k a _ h;omega
  |succ n b=>
   intro k a hk d hi;rw[iB];by_cases h:k<xs.length
   ·have hx:xs[k]?=some xs[k]:=List.getElem?_eq_getElem h;rw[c _ k _ a hx hi,List.drop_eq_getElem_cons h,bz];exact b (k+1) _ z1 z1 (e k _ a hx hi)
   ·have:k=xs.length:=by omega
    subst this;rw[he _ a hi,List.drop_length];rfl
 have:=key n 0 a (bT _) z1 h0;simpa using this
end
def EW:Int->List Int->Option V:=λb a=>grd ((ae b).size+(kl a).size<=9223372036854775807)<|some ((ae b)++(kl a))
def N9 (u:dy):Int->List Int->Option V:=λb a=>cm (λ(c:Int->(List Int)->Option V)=>bP (λ_ _ _ _=>none) (xb u j0 c) bN b a true 0) EW
theorem Xd (u:dy) (hu:gJ u.base) (h1:u.low.length<=200000) (h2:u.high.length<=200000):BL u j0=some (if dx u.base then tX u.base u.low u.high else ae u.base):=by
 unfold BL;refine aV (Ey u hu) ?_;cases hL:dx u.base with
 |false=>exact ca rfl rfl
 |true=>
  refine bR rfl (cL (cL ?_));have step:∀ (xs:List Int) (k:Nat) (x:Int) (a:Int×List Int×Bool) (ag:Int->List Int->Bool->Int->Option V),xs[k]?=some x->xs.length<=200000->a.2.1.length<=400000 ->
    (T (cj xs (k:Int)) λ(q1:Int)=>G ((cf (⟨a.1,q1⟩:cM) j0).isSome) (G (a.2.2) ((λ(u8:Int) (b:List Int) (c:Bool)=>grd (I64 ((k:Int)+1))<|ag u8 b c ((k:Int)+1)) ((cf (⟨a.1,q1⟩:cM) j0).getD 0) a.2.1 a.2.2)
     (grd (a.2.1.length+1<=2147483648)<|(λ(u8:Int) (b:List Int) (c:Bool)=>grd (I64 ((k:Int)+1))<|ag u8 b c ((k:Int)+1)) a.1 (a.2.1++[q1]) false))
     (grd (a.2.1.length+1<=2147483648)<|(λ(u8:Int) (b:List Int) (c:Bool)=>grd (I64 ((k:Int)+1))<|ag u8 b c ((k:Int)+1)) a.1 (a.2.1++[q1]) false))=ag (kg a x).1 (kg a x).2.1 (kg a x).2.2 ((k:Int)+1):=by
   intro xs k x a ag hx h ha;have hk:=pM hx;refine aV (mY hx) ?_;unfold kg kn;cases cf (⟨a.1,x⟩:cM) j0 with
   |none=>exact bR rfl (gO (dI (kG z1) rfl))
   |some j=>
    refine ca rfl ?_;cases hf:a.2.2 with
    |true=>exact ca rfl (dI (kG z1) rfl)
    |false=>exact bR rfl (gO (dI (kG z1) rfl))
  have d:=EV u.low (u.base,[],true);have lo:=N8 (BK u j0 (N9 u)) (λ_ _ _ _=>none) kg (N9 u) (xs:=u.low) (λk a=>a.2.1.length<=k) (λag k x a hx hi=>by
     have hk:=pM hx;unfold BK;exact ca (oa hx) (cL (step u.low k x a ag hx h1 z1))) (λk x a _ hi=>by have:=Ip a x;omega) (λag a _=>by unfold BK;exact bR nR rfl) (n:=bN) (jC z1) (a:=(u.base,[],true)) (aS _)
  refine lo.trans ?_;show bP (λ_ _ _ _=>none) (xb u j0 EW) bN _ _ true 0=_;simp only[aB,bY] at d;generalize hA:u.low.foldl kg (u.base,[],true)=A at d |-
  have g:=EV u.high (A.1,A.2.1,true);have e:=N8 (xb u j0 EW) (λ_ _ _ _=>none) kg EW (xs:=u.high) (λk a=>a.2.1.length<=200000+k) (λag k x a hx hi=>by
     have hk:=pM hx;unfold xb;exact ca (oa hx) (cL (step u.high k x a ag hx h2 z1))) (λk x a _ hi=>by have:=Ip a x;omega) (λag a _=>by unfold xb;exact bR nR rfl) (n:=bN) (jC z1) (a:=(A.1,A.2.1,true)) (by show A.2.1.length<=200000+0;omega)
  refine e.trans ?_;simp only at g;have e1:=oX (u.high.foldl kg (A.1,A.2.1,true)).1;have e2:=EO (u.high.foldl kg (A.1,A.2.1,true)).2.1;refine gO ?_;show some _=some (tX _ _ _);unfold tX;rw[hA]
def mz (a:Int×V×V×Bool×Bool) (m:bn):Int×V×V×Bool×Bool :=
 match kn a.1 m.Rune with
 |some j=>if ob m then (if a.2.2.2.2 then (a.1,a.2.1,a.2.2.1++m.Text,a.2.2.2.1,true) else (j,ae j,a.2.2.1,a.2.2.2.1,a.2.2.2.2)) else (if a.2.2.2.1 then (a.1,a.2.1,a.2.2.1++m.Text,true,a.2.2.2.2) else (j,ae j,a.2.2.1,a.2.2.2.1,a.2.2.2.2))
 |none=>if ob m then (a.1,a.2.1,a.2.2.1++m.Text,a.2.2.2.1,true) else (a.1,a.2.1,a.2.2.1++m.Text,true,a.2.2.2.2)
theorem Xe (a:Int×V×V×Bool×Bool) (m:bn) (hm:m.Text.size<=4) (ha:a.2.1.size<=4):(mz a m).2.2.1.size<=a.2.2.1.size+4/\(mz a m).2.1.size<=4:=by
 unfold mz;have:=oX;split
 ·split<;>split<;>simp[aM]<;>(try exact⟨by omega,ha⟩)<;>(try exact oX _)
 ·split<;>simp[aM]<;>exact⟨by omega,ha⟩
theorem Oc:∀ (P:List bn) (b:Int) (st:List Int) (d a:Bool),(∀m∈P,ob m=true/\m.Text=ae m.Rune) ->
  P.foldl mz (b,ae b,kl st,d,a)=(((P.map (·.Rune)).foldl kg (b,st,!a)).1,ae ((P.map (·.Rune)).foldl kg (b,st,!a)).1,kl ((P.map (·.Rune)).foldl kg (b,st,!a)).2.1,d,!((P.map (·.Rune)).foldl kg (b,st,!a)).2.2)
 |[],b,st,d,a,_=>by simp
 |m::P,b,st,d,a,h=>by
  obtain⟨h1,h2⟩:=h m (ar ..);have e:=λb st a=>Oc P b st d a (λz hz=>h z (ak _ hz));have c:kl st++m.Text=kl (st++[m.Rune]):=by rw[tp,tp,BE,kH,tn,bF,h2]
  rw[bz,au,bz];unfold mz kg;simp only[h1,if_true];cases kn b m.Rune with
  |none=>simp only[c];exact e b (st++[m.Rune]) true
  |some j=>
   cases a with
   |true=>simp only[if_true,c,dm,bp,if_false];exact e b (st++[m.Rune]) true
   |false=>simp only[bp,if_false,db,if_true];exact e j st false
theorem Od:∀ (P:List bn) (b:Int) (st:List Int) (a d:Bool),(∀m∈P,ob m=false/\m.Text=ae m.Rune) ->
  P.foldl mz (b,ae b,kl st,a,d)=(((P.map (·.Rune)).foldl kg (b,st,!a)).1,ae ((P.map (·.Rune)).foldl kg (b,st,!a)).1,kl ((P.map (·.Rune)).foldl kg (b,st,!a)).2.1,!((P.map (·.Rune)).foldl kg (b,st,!a)).2.2,d)
 |[],b,st,a,d,_=>by simp
 |m::P,b,st,a,d,h=>by
  obtain⟨h1,h2⟩:=h m (ar ..);have e:=λb st a=>Od P b st a d (λz hz=>h z (ak _ hz));have c:kl st++m.Text=kl (st++[m.Rune]):=by rw[tp,tp,BE,kH,tn,bF,h2]
  rw[bz,au,bz];unfold mz kg;simp only[h1,bp,if_false];cases kn b m.Rune with
  |none=>simp only[c];exact e b (st++[m.Rune]) true
  |some j=>
   cases a with
   |true=>simp only[if_true,c,dm,bp,if_false];exact e b (st++[m.Rune]) true
   |false=>simp only[bp,if_false,db,if_true];exact e j st false
def rN (c:bn×List bn):V:=if eE c.1 then tX c.1.Rune ((loI c.2).map (·.Rune)) ((hiI c.2).map (·.Rune)) else c.1.Text
def xd (s:V):V:=J rN (lS s)
theorem Iq (b:Int) (lo hi:List Int) (h1:lo.length<=200000) (h2:hi.length<=200000):(tX b lo hi).size<=4+4*(lo.length+hi.length):=by
 unfold tX;rw[aM];have a1:=EV lo (b,[],true);have a:=EV hi ((lo.foldl kg (b,[],true)).1,(lo.foldl kg (b,[],true)).2.1,true);have d:=EO (hi.foldl kg ((lo.foldl kg (b,[],true)).1,(lo.foldl kg (b,[],true)).2.1,true)).2.1;have c:=oX (hi.foldl kg ((lo.foldl kg (b,[],true)).1,(lo.foldl kg (b,[],true)).2.1,true)).1;simp only[aB,bY] at a1;simp only at a;omega
theorem Xf (s:V) (b:s.size<=65536):yZ s=some (xd s):=by
 unfold yZ;obtain⟨e,hc⟩:=vS b;refine aV Ng (aV (H8 s b) (aV (Xa j0 (λu=>if dx u.base then tX u.base u.low u.high else ae u.base) _ (by rw[ax];omega) ?_) ?_))
 ·intro u hu;obtain⟨c,a,rfl⟩:=aT.1 hu;obtain⟨h1,_,_,g⟩:=hc c a;rcases yY c h1 with⟨g1,g2,_⟩|⟨g1,g2,d,g4⟩
  ·exact .inl ⟨g1,g2⟩
  ·have f:=BJ c.2;have e1:(gE c).low.length<=196608:=by rw[g4];simp;omega
   have e2:(gE c).high.length<=196608:=by rw[g4];simp;omega
   have h:(gE c).low.length+(gE c).high.length<=196608:=by
    rw[g4];have:=tU c.2;rw[aa] at this;simp;omega
   refine .inr ⟨g1,Xd _ (by rw[H7 c g2];exact h1.1) z1 z1,?_⟩;split
   ·have:=Iq (gE c).base (gE c).low (gE c).high z1 z1;omega
   ·have:=oX (gE c).base;omega
 ·rw[Ij _ rN s b (λc a h0=>by
   obtain⟨h1,_⟩:=hc c a;rcases yY c h1 with⟨_,_,d,_⟩|⟨g1,g2,d,g4⟩
   ·omega
   ·unfold rN eE;rw[g4];show (if dx c.1.Rune then _ else _)=_
    cases dx c.1.Rune with
    |true=>rfl
    |false=>simp[d]) (λc a h0=>by unfold rN;rw[EM h0];rfl)];rfl
theorem Xg (r2:List bn) (J:Int->Int->V->Int->V->Option V) (hb:r2.length<=1000000) (at_:Int):∀ (P A R:List bn) (n:Nat) (a:Int×V×V×Bool×Bool),r2=A++(P++R)->P.length<n->(∀m∈P,m.Text.size<=4)->a.2.1.size<=4->a.2.2.1.size<=4*A.length -> bP (λ_ _ _ _ _ _ _ _=>none) (y0 r2 J) n (A.length:Int) a.1 a.2.1 at_ a.2.2.1 a.2.2.2.1 a.2.2.2.2 (P.length:Int)=J ((A.length+P.length:Nat):Int) (P.foldl mz a).1 (P.foldl mz a).2.1 at_ (P.foldl mz a).2.2.1:=by
 intro P
 induction P with
 |nil=>
  intro A R n a hr y _ _ _;obtain⟨n,rfl⟩:∃k,n=k+1:=⟨n-1,by omega⟩;rw[iB];unfold y0;exact bR (by decide) rfl
 |cons m P K=>
  intro A R n a hr y hm ha Q;obtain⟨n,rfl⟩:∃k,n=k+1:=⟨n-1,by omega⟩;have D:r2.length=A.length+1+P.length+R.length:=by rw[hr];simp;omega
  have c:cj r2 (A.length:Int)=some m:=iu (by rw[hr,aW];exact vR A m _);have L:=hm m (ar ..);have hsz:=Xe a m L ha;have o:=K (A++[m]) R n (mz a m) (by rw[hr];simp) (by simp at y;omega) (λz hz=>hm z (ak _ hz)) hsz.2 (by simp;omega);rw[iB];generalize bP (λ_ _ _ _ _ _ _ _=>none) (y0 r2 J) n=ag at o |-
  unfold y0;have e:∀ (g:Int) (f:V) (st:V) (u t:Bool),(g,f,st,u,t)=mz a m->(grd (I64 ((A.length:Int)+1))<|grd (I64 (((m::P).length:Int)-1))<|ag ((A.length:Int)+1) g f at_ st u t (((m::P).length:Int)-1))=J ((A.length+(m::P).length:Nat):Int) ((m::P).foldl mz a).1 ((m::P).foldl mz a).2.1 at_ ((m::P).foldl mz a).2.2.1:=by
   intro g f st u t he;rw[<-he] at o;simp only[aa,ab,aB,bY] at o
   push_cast at o
   refine gO (dI ⟨by simp only[ab];omega,by simp only[ab];omega⟩ ?_);rw[show (((m::P).length:Int)-1)=(P.length:Int) by simp,o,bz,<-he];congr 1;simp only[ab];push_cast;omega
  refine ca (an (by simp only[ab];omega)) (cL (aV c (aV (Nk _) ?_)));have s:ow m.Rune=ob m:=rfl;rw[s];have body:∀ (k1:Int),k1=(if ob m then 1 else 0)->(cm (λ(r:Int->V->Int->V->Bool->Bool->Option V)=>
    T (cj r2 (A.length:Int)) λ(H:bn)=>T (Be a.1 H.Rune) λ(v:Int)=>
    G ((v:Int) != 0) (T (cj ([a.2.2.2.1,a.2.2.2.2]:List Bool) k1) λ(F:Bool)=>G (!F) (T (Bm v (⟨a.1,a.2.1,at_⟩:bn)) λ(q:bn)=>r q.Rune q.Text q.At a.2.2.1 a.2.2.2.1 a.2.2.2.2)
     (T (cj r2 (A.length:Int)) λ(x:bn)=>grd (a.2.2.1.size+x.Text.size<=9223372036854775807)<|T (cj ([a.2.2.2.1,a.2.2.2.2]:List Bool) k1) λ(N:Bool)=>r a.1 a.2.1 at_ (a.2.2.1++x.Text) (if (k1:Int).toNat=0 then true else a.2.2.2.1) (if (k1:Int).toNat=1 then true else a.2.2.2.2)))
     (T (cj r2 (A.length:Int)) λ(w:bn)=>grd (a.2.2.1.size+w.Text.size<=9223372036854775807)<|T (cj ([a.2.2.2.1,a.2.2.2.2]:List Bool) k1) λ(M:Bool)=>r a.1 a.2.1 at_ (a.2.2.1++w.Text) (if (k1:Int).toNat=0 then true else a.2.2.2.1) (if (k1:Int).toNat=1 then true else a.2.2.2.2)))
    (λ(g:Int) (f:V) (p:Int) (h:V) (l:Bool) (i:Bool)=>grd (I64 ((A.length:Int)+1))<|grd (I64 (((m::P).length:Int)-1))<|ag ((A.length:Int)+1) g f p h l i (((m::P).length:Int)-1)))=J ((A.length+(m::P).length:Nat):Int) ((m::P).foldl mz a).1 ((m::P).foldl mz a).2.1 at_ ((m::P).foldl mz a).2.2.1:=by
   intro k1 b;refine cL (aV c (aV (We _ _) ?_));cases hj:kn a.1 m.Rune with
   |none=>
    refine bR rfl (aV c (gO ?_));cases d:ob m with
    |true=>rw[d] at b;subst b;exact aV rfl (e _ _ _ _ _ (by unfold mz;rw[hj,d];rfl))
    |false=>rw[d] at b;subst b;exact aV rfl (e _ _ _ _ _ (by unfold mz;rw[hj,d];rfl))
   |some j=>
    have hr:=Xc hj;refine ca (by rw[Option.getD_some,cQ];omega) ?_;cases d:ob m with
    |true=>
     rw[d] at b;subst b;refine aV (a:=a.2.2.2.2) rfl ?_;cases hg:a.2.2.2.2 with
     |true=>exact bR rfl (aV c (gO (aV (a:=true) rfl (e _ _ _ _ _ (by unfold mz;rw[hj,d,hg];rfl)))))
     |false=>exact ca rfl (aV (HV j _ ⟨by omega,by omega⟩) (e _ _ _ _ _ (by unfold mz;rw[hj,d,hg];rfl)))
    |false=>
     rw[d] at b;subst b;refine aV (a:=a.2.2.2.1) rfl ?_;cases hg:a.2.2.2.1 with
     |true=>exact bR rfl (aV c (gO (aV (a:=true) rfl (e _ _ _ _ _ (by unfold mz;rw[hj,d,hg];rfl)))))
     |false=>exact ca rfl (aV (HV j _ ⟨by omega,by omega⟩) (e _ _ _ _ _ (by unfold mz;rw[hj,d,hg];rfl)))
  cases d:ob m with
  |true=>rw[d] at body;exact ca rfl (body 1 rfl)
  |false=>rw[d] at body;exact bR rfl (body 0 rfl)
theorem Oe {α:Type} (f:α->V) (x:α) (l:List α) (b:V):(b++f x)++J f l=b++J f (x::l):=by rw[kH,dE]
theorem Xh (x:bn) (M:List bn) (hx:x.Text=ae x.Rune) (a:∀m∈M,m.Text=ae m.Rune) : ((loI M++hiI M).foldl mz (x.Rune,x.Text,(⟨#[]⟩:V),false,false)).2.1++((loI M++hiI M).foldl mz (x.Rune,x.Text,(⟨#[]⟩:V),false,false)).2.2.1=tX x.Rune ((loI M).map (·.Rune)) ((hiI M).map (·.Rune)):=by
 have h1:=Oc (loI M) x.Rune [] false false (λm hm=>by
  unfold loI at hm;rw[cG] at hm;exact⟨hm.2,a m hm.1⟩)
 rw[<-hx,show kl []=(⟨#[]⟩:V) from rfl] at h1;rw[List.foldl_append,h1];have h2:=Od (hiI M) (((loI M).map (·.Rune)).foldl kg (x.Rune,[],!false)).1 (((loI M).map (·.Rune)).foldl kg (x.Rune,[],!false)).2.1 false (!(((loI M).map (·.Rune)).foldl kg (x.Rune,[],!false)).2.2) (λm hm=>by
  unfold hiI at hm;rw[cG] at hm;exact⟨by simpa using hm.2,a m hm.1⟩)
 rw[h2];rfl
theorem Is {m:bn} (h:mO m) (hm:isM m=true):m.Text=ae m.Rune:=by
 rcases h.2 with⟨h3,_⟩|⟨_,h3⟩
 ·have:fV m.Rune=true:=hm;unfold fV at this;simp at this;omega
 ·exact h3
theorem Xi (r1:List bn) (Jf:V->Option V) (hb:r1.length<=200000):∀ (m n:Nat) (A B:List bn) (out:V),B.length<=m->B.length<n->r1=A++nq B->(∀x∈B,mO x)->out.size<=4*A.length -> bP (λ_ _=>none) (xc Jf r1) n out (A.length:Int)=Jf (out++J rN (cl B)):=by
 have l:∀ (n:Nat) (A:List bn) (out:V),0<n->r1=A->bP (λ_ _=>none) (xc Jf r1) n out (A.length:Int)=Jf (out++J rN (cl [])):=by
  intro n A out t he;obtain⟨n,rfl⟩:∃k,n=k+1:=⟨n-1,by omega⟩;rw[iB];unfold xc;exact bR (ah (by rw[he];omega)) (by rw[HZ,tn,bF])
 intro m
 induction m with
 |zero=>
  intro n A B out hB t he c L;have:B=[]:=List.eq_nil_of_length_eq_zero z1;subst this;exact l n A out z1 (by rw[he,yT,aE])
 |succ m o=>
  intro n A B out hB t he c L;cases B with
  |nil=>exact l n A out z1 (by rw[he,yT,aE])
  |cons x xs=>
   simp only[ab] at hB t;obtain⟨n,rfl⟩:∃k,n=k+1:=⟨n-1,by omega⟩;have hx:=c x (ar ..);have s:=vU hx;have F:r1.length=A.length+1+xs.length:=by rw[he,aa,vT];simp;omega
   rw[iB];generalize i:bP (λ_ _=>none) (xc Jf r1) n=ag at o |-
   unfold xc;have g:cj r1 (A.length:Int)=some x:=iu (by
    rw[he];cases hL:eE x with
    |true=>rw[w4 hL];exact vR A x _
    |false=>rw[w5 hL];exact vR A x _)
   refine eQ (aV g (gO (aV (yQ x hx.1) ?_)));have w:dx x.Rune=eE x:=rfl;rw[w];cases hL:eE x with
   |false=>
    rw[w5 hL] at he;refine ca rfl (gO ?_);have:=o n (A++[x]) xs (out++x.Text) z1 z1 (by rw[he];simp) (λz hz=>c z (ak _ hz)) (by rw[aM];simp;omega);rw[i] at this;have ht:rN (x,[])=x.Text:=by unfold rN;rw[hL];rfl
    rw[show ((A.length:Int)+1)=((A++[x]).length:Int) by simp,this,EB hL,<-Oe,ht]
   |true=>
    rw[w4 hL] at he;obtain⟨M,R,v,u,e⟩:∃M R,M=xs.takeWhile isM/\R=xs.dropWhile isM/\xs=M++R:=⟨_,_,rfl,rfl,(List.takeWhile_append_dropWhile).symm⟩;rw[<-v,<-u] at he;have f:=tU M;have K:xs.length=M.length+R.length:=by rw[e];simp
    have j:∀y∈M,isM y=true:=by rw[v];exact H1 xs
    have d:∀y∈M,mO y:=λy hy=>c y (by rw[e];exact ak _ (List.mem_append_left _ hy));have h:ee r1 ((A.length:Int)+1) (r1.length:Int)=(loI M++hiI M)++nq R:=by
     rw[he];exact H4 A x _ _ rfl
    refine bR rfl (cL (gO ?_));rw[h];refine aV (HW _ (by rw[aa,vT];omega)) ?_;have r:(((loI M++hiI M)++nq R).takeWhile λx=>fV x.Rune)=loI M++hiI M:=NQ _ _ (H0 j) (by rw[u];exact NR xs);rw[r];have q:x.Text=ae x.Rune:=by
     rcases hx.2 with⟨h3,_⟩|⟨_,h3⟩
     ·have:=EM h3;rw[hL] at this;cases this
     ·exact h3
    have b:=Xg r1 (λ(H:Int) (x1:Int) (x2:V) (N:Int) (a:V)=>grd (x2.size+a.size<=9223372036854775807)<|grd (out.size+(x2++a).size<=9223372036854775807)<|ag (out++(x2++a)) H) z1 x.At (loI M++hiI M) (A++[x]) (nq R) bN (x.Rune,x.Text,(⟨#[]⟩:V),false,false) (by rw[he];simp) (jC z1) (λy hy=>by
      have p:y∈M:=by
       unfold loI hiI at hy;rw[bv,cG,cG] at hy;rcases hy with hy|hy<;>exact hy.1
      exact vU (d y p)) s (bT _)
    rw[show (((A++[x]).length:Nat):Int)=(A.length:Int)+1 by simp] at b;refine b.trans ?_;have hall:=Xh x M q (λy hy=>Is (d y hy) (j y hy));have hsz:(tX x.Rune ((loI M).map (·.Rune)) ((hiI M).map (·.Rune))).size<=4+4*M.length:=by
     have:=Iq x.Rune ((loI M).map (·.Rune)) ((hiI M).map (·.Rune)) (by simp;have:=(BJ M).1;omega) (by simp;have:=(BJ M).2;omega);rw[aa] at f;simp only[ax] at this;omega
    have D:(((loI M++hiI M).foldl mz (x.Rune,x.Text,(⟨#[]⟩:V),false,false)).2.1.size+((loI M++hiI M).foldl mz (x.Rune,x.Text,(⟨#[]⟩:V),false,false)).2.2.1.size)<=4+4*M.length:=by
     rw[<-aM,hall];exact hsz
    refine gO (dI (by rw[aM];omega) ?_);rw[hall];have ht:rN (x,M)=tX x.Rune ((loI M).map (·.Rune)) ((hiI M).map (·.Rune)):=by unfold rN;rw[hL];rfl
    have:=o n (A++[x]++(loI M++hiI M)) R (out++rN (x,M)) z1 z1 (by rw[he];simp) (λz hz=>c z (by rw[e];exact ak _ (List.mem_append_right _ hz))) (by rw[aM,ht];simp only[aa,ab,aB] at f |-;omega);rw[i] at this;rw[ht] at this;rw[show ((((A++[x]).length+(loI M++hiI M).length:Nat)):Int)=((A++[x]++(loI M++hiI M)).length:Int) by rw[<-aa],this,yS hL,<-v,<-u,<-Oe,ht]
theorem Xj (s:V) (b:s.size<=65536):EU s=some (xd s):=by
 unfold EU;have h3:(ij s).length<=s.size:=by unfold ij;simpa using sE s
 have a:=Ie (yX s);have c:=w3 (ij s);have h5:=vT (apL (ij s));refine cL (aV (yR s z1) (aV (H5 _ (λx hx=>(yX _ x hx).1) z1) ?_));have:=Xi (nq (apL (ij s))) some z1 (apL (ij s)).length bN [] (apL (ij s)) (⟨#[]⟩:V) (aS _) (jC z1) rfl a (by decide);refine this.trans ?_;rw[show (⟨#[]⟩:V)=af from rfl,ByteArray.empty_append];rfl

def lI (t:dM):Prop:=t.valid\/t.broken=true
def y5 (x:bn):dM:=⟨if x.Rune<0 then 65533 else x.Rune.toNat,x.Text.data.toList⟩
theorem y6 {t:dM} (h:lI t):y5 (fG t)=t:=by
 unfold y5 fG;rcases h with h|h
 ·rw[yo h];cases t;simp;intro h;omega
 ·rw[h];have:t.r=65533:=by unfold dM.broken at h;simp at h;exact h.1
  cases t;simp at this;subst this;simp
def LM (t:dM):Prop:=dx (t.r:Int)=true\/fV (t.r:Int)=true
def y7 (g:List dM×(bn×List bn)):Prop :=
 (eE g.2.1=true/\g.1≠[]/\(∀t∈g.1,t.valid/\LM t)/\(∀m∈g.2.2,isM m=true)/\cf g.2.1.Rune eP=none)\/(eE g.2.1=false/\g.2.2=[]/\∃t,g.1=[t]/\lI t/\g.2.1=fG t)
theorem Xk {t:dM} (h:lI t) (hm:isM (fG t)=true):t.valid/\fV (t.r:Int)=true:=by
 rcases h with h|h
 ·refine⟨h,?_⟩;unfold isM fG at hm;rw[yo h] at hm;exact hm
 ·unfold isM fG at hm;rw[h] at hm;exact absurd (show fV (-1)=true from hm) (by decide)
theorem Of {t:dM} (h:lI t):∃x c,ku (fG t)=x::c/\y7 ([t],(x,c))/\(∀m∈c,isM m=true)/\(eE x=false->c=[])/\isM x=isM (fG t):=by
 cases hL:eE (fG t) with
 |false=>
  exact⟨fG t,[],by unfold ku;rw[hL];rfl,.inr ⟨hL,rfl,t,rfl,h,rfl⟩,by simp,λ_=>rfl,rfl⟩
 |true=>
  have a:dx (fG t).Rune=true:=hL;obtain⟨b,c,k,hb,l,f,_⟩:=vQ a;have hv:t.valid:=by
   rcases h with h|h
   ·exact h
   ·unfold fG at a;rw[h] at a;exact absurd (show dx (-1)=true from a) (by decide)
  have g:dx (t.r:Int)=true:=by unfold fG at a;rw[yo hv] at a;exact a
  have j:isM (fG t)=false:=by
   cases e:isM (fG t) with
   |false=>rfl
   |true=>have:=sF (show fV (fG t).Rune=true from e);rw[a] at this;cases this
  have i:isM (⟨b,ae b,(fG t).At⟩:bn)=false:=by
   cases e:isM (⟨b,ae b,(fG t).At⟩:bn) with
   |false=>rfl
   |true=>have:=sF (show fV b=true from e);rw[hb] at this;cases this
  have d:∀m∈c.map (λr=>(⟨r,ae r,(fG t).At⟩:bn)),isM m=true:=λm hm=>by
   obtain⟨r,hr,rfl⟩:=aT.1 hm;exact f r hr
  exact⟨⟨b,ae b,(fG t).At⟩,c.map λr=>⟨r,ae r,(fG t).At⟩,by unfold ku;rw[hL,k];rfl,.inl ⟨hb,by simp,λu hu=>by simp at hu;subst hu;exact⟨hv,.inl g⟩,d,l⟩,d,
   (λe=>by rw[show eE (⟨b,ae b,(fG t).At⟩:bn)=true from hb] at e;cases e),by rw[j,i]⟩
theorem It:∀ (ts gs:List dM) (c:bn×List bn),(∀t∈ts,lI t)->y7 (gs,c)->∃a:List (List dM×(bn×List bn)),gs++ts=a.flatMap (·.1)/\gY (some c) (apL (ts.map fG))=a.map (·.2)/\∀g∈a,y7 g
 |[],gs,c,_,hc=>⟨[(gs,c)],by simp,by simp[apL,gY],by simpa using hc⟩
 |t::ts,gs,c,hok,hc=>by
  have ht:=hok t (ar ..);have d:=λu hu=>hok u (ak _ hu);have f:apL ((t::ts).map fG)=ku (fG t)++apL (ts.map fG):=by unfold apL;rw[au,aK]
  obtain⟨x,b,h1,h2,h3,j,h5⟩:=Of ht;rw[f];cases hk:(eE c.1&&isM (fG t)) with
  |true=>
   rw[aN] at hk;have hL:eE (fG t)=false:=sF (show fV (fG t).Rune=true from hk.2);have ha:ku (fG t)=[fG t]:=by unfold ku;rw[hL];rfl
   obtain⟨hv,hm⟩:=Xk ht hk.2;have e:y7 (gs++[t],(c.1,c.2++[fG t])):=by
    rcases hc with⟨g1,g2,l,g4,k⟩|⟨g1,_⟩
    ·refine .inl ⟨g1,by simp,λu hu=>?_,λm hm2=>?_,k⟩
     ·rcases bv.1 hu with hu|hu
      ·exact l u hu
      ·simp at hu;subst hu;exact⟨hv,.inr hm⟩
     ·rcases bv.1 hm2 with hm2|hm2
      ·exact g4 m hm2
      ·simp at hm2;subst hm2;exact hk.2
    ·rw[hk.1] at g1;cases g1
   obtain⟨a,e1,e2,h⟩:=It ts (gs++[t]) (c.1,c.2++[fG t]) d e;refine⟨a,by rw[<-e1];simp,?_,h⟩;rw[ha,<-e2,sj];show (if eE c.1&&isM (fG t) then gY (some (c.1,c.2++[fG t])) (apL (ts.map fG)) else _)=_
   rw[hk.1,hk.2];rfl
  |false=>
   obtain⟨a,e1,e2,h⟩:=It ts [t] (x,b) d h2;refine⟨(gs,c)::a,by rw[aK,<-e1];simp,?_,λg hg=>?_⟩
   ·rw[h1,aW,au,<-e2];show (if eE c.1&&isM x then _ else c::gY (some (x,[])) (b++apL (ts.map fG)))=_
    rw[h5,hk];have i:gY (some (x,[])) (b++apL (ts.map fG))=gY (some (x,b)) (apL (ts.map fG)):=by
     cases hx:eE x with
     |true=>rw[EF x hx _ b [] h3];rfl
     |false=>rw[j hx];rfl
    rw[<-i];rfl
   ·rcases bg.1 hg with rfl|hg
    ·exact hc
    ·exact h g hg
theorem Og (ts:List dM) (a:∀t∈ts,lI t):∃b:List (List dM×(bn×List bn)),ts=b.flatMap (·.1)/\k8 ts=b.map (·.2)/\∀g∈b,y7 g:=by
 cases ts with
 |nil=>exact⟨[],rfl,rfl,by simp⟩
 |cons t ts=>
  obtain⟨x,c,h1,h2,h3,e,h5⟩:=Of (a t (ar ..));obtain⟨b,e1,e2,f⟩:=It ts [t] (x,c) (λu hu=>a u (ak _ hu)) h2;refine⟨b,by rw[<-e1];rfl,?_,f⟩;unfold k8;have d:apL ((t::ts).map fG)=ku (fG t)++apL (ts.map fG):=by unfold apL;rw[au,aK]
  rw[d,h1,<-e2];show gY (some (x,[])) (c++apL (ts.map fG))=_;cases hx:eE x with
  |true=>rw[EF x hx _ c [] h3];rfl
  |false=>rw[e hx];rfl
structure xe (out:bn×List bn->List dM):Prop where
 other:∀x,eE x=false->out (x,[])=[y5 x]
 ne:∀c,eE c.1=true->out c≠[]
 val:∀c,eE c.1=true->cf c.1.Rune eP=none->(∀m∈c.2,isM m=true)->∀t∈out c,t.valid/\LM t
theorem Oh {out:bn×List bn->List dM} (b:xe out):∀ (a:List (List dM×(bn×List bn))),(∀g∈a,y7 g)->pH (a.flatMap (·.1)) ((a.map (·.2)).flatMap out)
 |[],_=>pH.nil
 |g::a,h=>by
  have c:=Oh b a (λx hx=>h x (ak _ hx));rw[aK,au,aK];rcases h g (ar ..) with⟨g1,g2,f,g4,d⟩|⟨g1,g2,t,f,g4,d⟩
  ·exact pH.val g2 (b.ne _ g1) (λt ht=>(f t ht).1) (λt ht=>(b.val _ g1 d g4 t ht).1) c
  ·have e:out g.2=[t]:=by
    rw[show g.2=(g.2.1,[]) from Prod.ext rfl g2,b.other _ g1,d,y6 g4]
   rw[f,e];rcases g4 with g4|g4
   ·exact pH.one g4 (by simp) (by simpa using g4) c
   ·exact pH.brk g4 c
theorem Iu {out:bn×List bn->List dM} (a:xe out) {s x:V} (hx:x.data.toList=c7 ((k8 (fO s.data.toList)).flatMap out)):fO x.data.toList=(k8 (fO s.data.toList)).flatMap out:=by
 obtain⟨c,e1,e2,b⟩:=Og (fO s.data.toList) (rF _);rw[hx,e2];have:=(Oh a c b).good (by rw[<-e1];exact MP _);exact this
def sp:V:=⟨#[32]⟩
theorem EX (y:bn) (a:List bn) (hy:isM y=false):∀ (X:List bn) (b:Option (bn×List bn)),gY b (X++y::a)=gY b X++gY none (y::a)
 |[],none=>rfl
 |[],some c=>by
  show (if eE c.1&&isM y then _ else c::gY (some (y,[])) a)=_
  rw[hy,Bool.and_false];rfl
 |x::X,none=>EX y a hy X (some (x,[]))
 |x::X,some c=>by
  show (if eE c.1&&isM x then gY (some (c.1,c.2++[x])) (X++y::a) else c::gY (some (x,[])) (X++y::a))=(if eE c.1&&isM x then gY (some (c.1,c.2++[x])) X else c::gY (some (x,[])) X)++_
  split
  ·exact EX y a hy X _
  ·rw[EX y a hy X];rfl
theorem Xl (c a:List dM) (h:∀t,a.head?=some t->fV (fG t).Rune=false):k8 (c++a)=k8 c++k8 a:=by
 unfold k8;rw[dp];have e:∀x y:List bn,apL (x++y)=apL x++apL y:=λx y=>by unfold apL;rw[List.flatMap_append]
 rw[e];cases a with
 |nil=>simp[apL,cl,gY]
 |cons t a=>
  have ht:=h t rfl;obtain⟨y,ys,hy,hm⟩:∃y ys,apL ((t::a).map fG)=y::ys/\isM y=false:=by
   unfold apL;rw[au,aK];unfold ku;split
   ·rename_i hL;obtain⟨b,f,d,hb,_⟩:=vQ (show dx (fG t).Rune=true from hL);rw[d];refine⟨_,_,rfl,?_⟩;cases e:isM (⟨b,ae b,(fG t).At⟩:bn) with
    |false=>rfl
    |true=>have:=sF (show fV b=true from e);rw[hb] at this;cases this
   ·exact⟨_,_,rfl,ht⟩
  rw[hy];exact EX y ys hm _ none
theorem Iv (l:List bn):loI (l.map k7)=(loI l).map k7/\hiI (l.map k7)=(hiI l).map k7:=by
 unfold loI hiI;rw[List.filter_map,List.filter_map];exact⟨rfl,rfl⟩
theorem Oi (c:bn×List bn):rM (oY c)=rM c:=by
 unfold rM oc oY;simp only;rw[(Iv c.2).1,(Iv c.2).2,<-dp,kH,kH,tW];rfl
def lU (g:bn×List bn->List Int) (c:bn×List bn):List dM:=if eE c.1 then (g c).map lH else [y5 c.1]
theorem Xm (rs:List Int):(kl rs).data.toList=c7 (rs.map lH):=by
 rw[tp]
 induction rs with
 |nil=>rfl
 |cons r rs a=>
  rw[kH,au,nP,<-a];have:(ae r).data.toList=encodeRune r:=pg r;show (ae r++J ae rs).data.toList=encodeRune r++_;rw[<-this];simp
theorem vV {r:Int} (h:dx r=true):vr r:=by have:=ov r h;unfold vr;omega
theorem BM {r:Int} (h:fV r=true):vr r:=by unfold fV at h;simp at h;unfold vr;omega
theorem Xn {r:Int} (h:dx r=true\/fV r=true):(lH r).valid/\LM (lH r):=by
 have hv:vr r:=by rcases h with h | h;exact vV h;exact BM h
 refine⟨BG hv,?_⟩;unfold LM;have:(((lH r).r:Nat):Int)=r:=by show ((r.toNat:Nat):Int)=r;unfold vr at hv;omega
 rw[this];exact h
theorem Oj {g:bn×List bn->List Int} (h0:∀c,eE c.1=true->g c≠[]) (h:∀c,eE c.1=true->cf c.1.Rune eP=none->(∀m∈c.2,isM m=true)->∀r∈g c,dx r=true\/fV r=true):xe (lU g) where
 other x hx:=by unfold lU;rw[hx];rfl
 ne c hc:=by unfold lU;rw[hc];simpa using h0 c hc
 val c hc hn hm t ht:=by
  unfold lU at ht;rw[hc] at ht;obtain⟨r,hr,rfl⟩:=aT.1 (show t∈(g c).map lH from ht);exact Xn (h c hc hn hm r hr)
theorem Ok (f:bn×List bn->V) (out:bn×List bn->List dM):∀l:List (bn×List bn),(∀c∈l,(f c).data.toList=c7 (out c))->(J f l).data.toList=c7 (l.flatMap out)
 |[],_=>rfl
 |c::l,h=>by
  rw[kH,aK,nQ,<-Ok f out l (λd hd=>h d (ak _ hd)),<-h c (ar ..)];simp
theorem EY {x:bn} (h:mO x):mO (k7 x):=h
theorem Ol {f:bn×List bn->V} {g:bn×List bn->List Int} (hf:∀c,f (oY c)=f c) (h1:∀c,eE c.1=true->mO c.1->(∀m∈c.2,isM m=true/\mO m)->f c=kl (g c)) (h2:∀c,eE c.1=false->c.2=[]->f c=c.1.Text) (s:V) (h:s.size<=65536):(J f (lS s)).data.toList=c7 ((k8 (fO s.data.toList)).flatMap (lU g)):=by
 have e:J f (lS s)=J f (k8 (fO s.data.toList)):=by
  rw[<-BF,tW];exact uO λc _=>(hf c).symm
 rw[e];refine Ok f _ _ λc hc=>?_;rw[<-BF] at hc;obtain⟨d,hd,rfl⟩:=aT.1 hc;obtain⟨o1,a,b,_⟩:=(vS h).2 d hd;unfold lU;cases hL:eE (oY d).1 with
 |true=>
  rw[h1 _ hL (EY o1) (λm hm=>by obtain⟨y,hy,rfl⟩:=aT.1 (show m∈d.2.map k7 from hm);exact⟨(a y hy).1,EY (a y hy).2⟩),Xm];rfl
 |false=>
  rw[h2 _ hL (by show d.2.map k7=[];rw[b hL];rfl)];show _=c7 [y5 (oY d).1];simp[c7,y5]
def gA (c:bn×List bn):List Int:=(oc c).map (·.Rune)
theorem Iw {c:bn×List bn} {x:bn} (h:x∈oc c):x=c.1\/x∈c.2:=by
 unfold oc at h;rcases bg.1 h with h|h
 ·exact .inl h
 ·unfold loI hiI at h;rw[bv,cG,cG] at h;exact .inr (by rcases h with h | h<;>exact h.1)
theorem Xo:xe (lU gA):=Oj (λc _=>by unfold gA oc;simp) (λc hc a hm r hr=>by
 unfold gA at hr;obtain⟨x,hx,rfl⟩:=aT.1 hr;rcases Iw hx with rfl|hx
 ·exact .inl hc
 ·exact .inr (hm x hx))
theorem Om {x:bn} (h:mO x) (hL:eE x=true):x.Text=ae x.Rune:=by
 rcases h.2 with⟨h1,_⟩|⟨_,h1⟩
 ·have:=(ov _ hL).1;omega
 ·exact h1
theorem Xp (s:V) (a:s.size<=65536):(iw s).data.toList=c7 ((k8 (fO s.data.toList)).flatMap (lU gA)):=by
 refine Ol Oi (λc hL h1 h2=>?_) (λc hL h2=>?_) s a
 ·unfold rM gA;rw[tp,tW];refine uO λx hx=>?_;rcases Iw hx with rfl|hx
  ·exact Om h1 hL
  ·exact Is (h2 x hx).2 (h2 x hx).1
 ·unfold rM oc loI hiI;rw[h2];rw[kH];simp[tn]
theorem EZ {c:bn×List bn} (hm:∀m∈c.2,isM m=true):(∀m∈(loI c.2).map (·.Rune),fV m=true)/\∀m∈(hiI c.2).map (·.Rune),fV m=true:=by
 constructor<;>intro m h<;>obtain⟨x,hx,rfl⟩:=aT.1 h
 ·unfold loI at hx;rw[cG] at hx;exact hm x hx.1
 ·unfold hiI at hx;rw[cG] at hx;exact hm x hx.1
def On (r:Int):Bool:=!dx r||(decide (lT (cP r)=kl (fB (lT (cP r))))&&!(fB (lT (cP r))).isEmpty &&
 ((cf r eP).isSome||(fB (lT (cP r))).all λx=>dx x&&!great x&&(cf x eP).isNone&&decide (lT x=ae x)&&decide (cP x=x)))
theorem Xq:((List.range 1120).all λn=>On (n:Int))=true:=by decide +kernel
theorem Oo {r:Int} (h:dx r=true):lT (cP r)=kl (fB (lT (cP r)))/\fB (lT (cP r))≠[]/\(cf r eP=none->∀x∈fB (lT (cP r)),dx x=true/\great x=false/\cf x eP=none/\lT x=ae x/\cP x=x):=by
 have hr:=ov r h;have:=bm.1 Xq r.toNat (List.mem_range.2 z1);rw[show ((r.toNat:Nat):Int)=r by omega] at this;unfold On at this;rw[h] at this;simp only[dm,Bool.false_or,aN,decide_eq_true_eq,Bool.or_eq_true] at this;obtain⟨⟨h1,h2⟩,h3⟩:=this;refine⟨h1,?_,λf x hx=>?_⟩
 ·intro e;rw[e] at h2;cases h2
 ·rw[f] at h3;rcases h3 with h3|h3
  ·cases h3
  ·have:=bm.1 h3 x hx;simp only[aN,decide_eq_true_eq,Bool.not_eq_true',Option.isNone_iff_eq_none] at this;obtain⟨⟨⟨⟨a,b⟩,c⟩,d⟩,e⟩:=this;exact⟨a,b,c,d,e⟩
def y8:Bool->List (bn×List bn)->Prop
 |_,[]=>True
 |p,c::cs=>(p=true->isM c.1=false)/\y8 (eE c.1) cs
theorem Ix:∀ (xs:List bn) (c:bn×List bn) (p:Bool),(p=true->isM c.1=false)->y8 p (gY (some c) xs)
 |[],c,p,h=>⟨h,trivial⟩
 |x::xs,c,p,h=>by
  show y8 p (if eE c.1&&isM x then gY (some (c.1,c.2++[x])) xs else c::gY (some (x,[])) xs)
  cases e:(eE c.1&&isM x) with
  |true=>exact Ix xs (c.1,c.2++[x]) p h
  |false=>exact⟨h,Ix xs (x,[]) (eE c.1) (λhL=>by rw[hL] at e;exact e)⟩
theorem Xr (xs:List bn):y8 false (cl xs):=by
 cases xs with
 |nil=>trivial
 |cons x xs=>exact Ix xs (x,[]) false (λh=>by cases h)
def Oq (c:bn×List bn):Prop:=(eE c.1=true/\(∀m∈c.2,isM m=true)/\cf c.1.Rune eP=none)\/(eE c.1=false/\c.2=[]/\∃t,lI t/\c.1=fG t)
theorem Iy {ts:List dM} (a:∀t∈ts,lI t):∀c∈k8 ts,Oq c:=by
 obtain⟨f,e1,e2,e⟩:=Og ts a;intro c hc;rw[e2] at hc;obtain⟨g,hg,rfl⟩:=aT.1 hc;rcases e g hg with⟨g1,g2,d,g4,b⟩|⟨g1,g2,t,d,g4,b⟩
 ·exact .inl ⟨g1,g4,b⟩
 ·exact .inr ⟨g1,g2,t,g4,b⟩
theorem Ot (x:bn) (xs:List bn):apL (x::xs)=ku x++apL xs:=by unfold apL;rw[aK]
theorem Iz {t:dM} (h:eE (fG t)=false) (ts:List dM):k8 (t::ts)=(fG t,[])::k8 ts:=by
 unfold k8;rw[au,Ot,show ku (fG t)=[fG t] by unfold ku;rw[h];rfl];exact EB h _
theorem Ou {out:bn×List bn->List dM} (b:xe out) (g:∀c,eE c.1=true->cf c.1.Rune eP=none->(∀m∈c.2,isM m=true)->∀t,(out c).head?=some t->fV (fG t).Rune=false) :
  ∀ (cs:List (bn×List bn)) (p:Bool),(∀c∈cs,Oq c)->y8 p cs->k8 (cs.flatMap out)=cs.flatMap (λc=>k8 (out c))
 |[],_,_,_=>rfl
 |c::cs,p,hc,ha=>by
  have i:=Ou b g cs (eE c.1) (λd hd=>hc d (ak _ hd)) ha.2;rw[aK,aK,<-i];rcases hc c (ar ..) with⟨g1,g2,h⟩|⟨g1,g2,t,h,g4⟩
  ·refine Xl _ _ λt ht=>?_;cases cs with
   |nil=>cases ht
   |cons a cs=>
    have f:=ha.2.1 g1;rw[aK] at ht;rcases hc a (ak _ (ar ..)) with⟨k1,k2,k3⟩|⟨k1,k2,u,k3,k4⟩
    ·obtain⟨v,vs,hv⟩:=List.exists_cons_of_ne_nil (b.ne a k1);rw[hv] at ht;exact g a k1 k3 k2 t (by rw[hv];exact ht)
    ·have e:out a=[u]:=by rw[show a=(a.1,[]) from Prod.ext rfl k2,b.other _ k1,k4,y6 k3]
     rw[e] at ht;have:u=t:=kV ht;subst this;rw[<-k4];exact f
  ·have e:out c=[t]:=by rw[show c=(c.1,[]) from Prod.ext rfl g2,b.other _ g1,g4,y6 h]
   have hL:eE (fG t)=false:=by rw[<-g4];exact g1
   rw[e,sj,Iz hL,Iz hL];rfl
theorem Xs {out:bn×List bn->List dM} (i:xe out) (j:∀c,eE c.1=true->cf c.1.Rune eP=none->(∀m∈c.2,isM m=true)->∀t,(out c).head?=some t->fV (fG t).Rune=false) {f g:bn×List bn->V} (hf:∀c,f (oY c)=f c) (hg:∀c,g (oY c)=g c) {s x:V} (p:s.size<=65536) (hx:x.data.toList=c7 ((k8 (fO s.data.toList)).flatMap out)) (hL:∀c,eE c.1=true->(∀m∈c.2,isM m=true/\mO m)->cf c.1.Rune eP=none->mO c.1->J f (k8 (out c))=g c) (q:∀y,eE y=false->f (y,[])=g (y,[])):J f (lS x)=J g (lS s):=by
 have e:∀ (h:bn×List bn->V) (u:V),(∀c,h (oY c)=h c)->J h (lS u)=J h (k8 (fO u.data.toList)):=λh u j=>by
  rw[<-BF,tW];exact uO λc _=>(j c).symm
 rw[e f x hf,e g s hg,Iu i hx];have b:y8 false (k8 (fO s.data.toList)):=Xr _;have a:=Iy (rF s.data.toList);rw[Ou i j _ false a b,Ib];refine uO λc hc=>?_;rcases a c hc with⟨g1,g2,l⟩|⟨g1,g2,t,l,g4⟩
 ·rw[<-BF] at hc;obtain⟨d,hd,rfl⟩:=aT.1 hc;obtain⟨o1,n,r,_⟩:=(vS p).2 d hd;exact hL _ g1 (λm hm=>by obtain⟨y,hy,rfl⟩:=aT.1 (show m∈d.2.map k7 from hm);exact⟨(n y hy).1,EY (n y hy).2⟩) l (EY o1)
 ·have o:c=(c.1,[]):=Prod.ext rfl g2;have e1:out c=[t]:=by rw[o,i.other _ g1,g4,y6 l]
  have k:eE (fG t)=false:=by rw[<-g4];exact g1
  rw[e1,Iz k];show J f [(fG t,[])]=g c;rw[kH,tn,bF,<-g4,q _ g1,<-o]
theorem IA {r:Int} (h:dx r=true):fV r=false:=by
 cases e:fV r with
 |false=>rfl
 |true=>have:=sF e;rw[h] at this;cases this
theorem Ov {r:Int} (h:vr r):fG (lH r)=kz r:=by
 rw[Io (BG h)];show kz ((r.toNat:Nat):Int)=kz r;rw[show ((r.toNat:Nat):Int)=r by unfold vr at h;omega]
theorem Xt {rs:List Int} (h:∀r∈rs,vr r):(rs.map lH).map fG=rs.map kz:=by
 rw[List.map_map];exact List.map_congr_left λr hr=>Ov (h r hr)
theorem Ow:∀ {st:List Int},(∀m∈st,fV m=true)->st.flatMap jp=st
 |[],_=>rfl
 |m::st,h=>by
  rw[aK,NZ (sF (h m (ar ..))),Ow λx hx=>h x (ak _ hx)];rfl
theorem IB {α:Type} {p:α->Bool}:∀ {l:List α},(∀x∈l,p x=true)->l.takeWhile p=l
 |[],_=>rfl
 |x::l,h=>by rw[List.takeWhile_cons,aj (h x (ar ..)),IB λy hy=>h y (ak _ hy)]
theorem IC {α:Type} {p:α->Bool}:∀ {l:List α},(∀x∈l,p x=true)->l.dropWhile p=[]
 |[],_=>rfl
 |x::l,h=>by rw[List.dropWhile_cons,aj (h x (ar ..)),IC λy hy=>h y (ak _ hy)]
theorem Xu {j b:Int} {st c:List Int} (hj:dx j=true) (a:∀m∈st,fV m=true) (hp:jp j=b::c):k8 ((j::st).map lH)=[(kz b,(c++st).map kz)]:=by
 unfold k8;rw[Xt (λr hr=>by
  rcases bg.1 hr with rfl|hr
  ·exact vV hj
  ·exact BM (a r hr)),N0,aK,hp,Ow a]
 obtain⟨h,f,e,hb,g,d,_⟩:=vQ hj;rw[hp] at e;obtain⟨rfl,rfl⟩:=oD e;rw[aW,au,yS (show eE (kz b)=true from hb)];have hall:∀x∈(c++st).map kz,isM x=true:=λx hx=>by
  obtain⟨r,hr,rfl⟩:=aT.1 hx;show fV r=true;rcases bv.1 hr with hr|hr
  ·exact d r hr
  ·exact a r hr
 have h1:((c++st).map kz).takeWhile isM=(c++st).map kz:=IB hall;have h2:((c++st).map kz).dropWhile isM=[]:=IC hall;rw[h1,h2,HZ]
def pn (c:bn×List bn):List Int:=(loI c.2).map (·.Rune)
def po (c:bn×List bn):List Int:=(hiI c.2).map (·.Rune)
theorem Xv (b:Int) (ks:List Int):pn (kz b,ks.map kz)=ks.filter ow/\po (kz b,ks.map kz)=ks.filter (λr=>!ow r):=by
 unfold pn po loI hiI;constructor
 ·induction ks with
  |nil=>rfl
  |cons k ks a=>
   rw[au,jG,jG,show ob (kz k)=ow k from rfl];split
   ·rw[au];exact aI _ a
   ·exact a
 ·induction ks with
  |nil=>rfl
  |cons k ks a=>
   rw[au,jG,jG,show ob (kz k)=ow k from rfl];split
   ·rw[au];exact aI _ a
   ·exact a
theorem Xw (c:bn×List bn):(∀x∈pn c,ow x=true)/\∀x∈po c,ow x=false:=by
 unfold pn po loI hiI;constructor
 ·intro x hx;obtain⟨y,hy,rfl⟩:=aT.1 hx;rw[cG] at hy;exact hy.2
 ·intro x hx;obtain⟨y,hy,rfl⟩:=aT.1 hx;rw[cG] at hy;simpa [ob] using hy.2
theorem ID (c:bn×List bn):gA c=c.1.Rune::(pn c++po c):=by unfold gA oc pn po;simp
def Xx (c:bn×List bn) (ts:List dM) (d:bn×List bn):Prop:=k8 ts=[d]/\eE d.1=true/\mO d.1/\(∀m∈d.2,isM m=true/\mO m)/\d.1.Rune=c.1.Rune
theorem Ox {r:Int} (h:vr r):mO (kz r):=by
 unfold vr at h;refine⟨?_,.inr ⟨?_,rfl⟩⟩
 ·show gJ r;exact⟨by omega,by omega⟩
 ·show 0<=r;omega
theorem Xy (c:bn×List bn) {j b:Int} (st:List Int){g:List Int} (hj:dx j=true) (a:∀m∈st,fV m=true) (hp:jp j=b::g) (hb:b=c.1.Rune):Xx c ((j::st).map lH) (kz b,(g++st).map kz):=by
 obtain⟨l,i,h,e,k,f,_⟩:=vQ hj;rw[hp] at h;obtain⟨rfl,rfl⟩:=oD h;refine⟨Xu hj a hp,e,Ox (vV e),λm hm=>?_,hb⟩;obtain⟨r,hr,rfl⟩:=aT.1 hm;have d:fV r=true:=by
  rcases bv.1 hr with hr|hr
  ·exact f r hr
  ·exact a r hr
 exact⟨d,Ox (BM d)⟩
theorem Oy {l:List Int} (h:∀x∈l,ow x=true):l.filter ow=l/\l.filter (λr=>!ow r)=[] :=
 ⟨tD.2 h,rn.2 λx hx=>by simp[h x hx]⟩
theorem Oz {l:List Int} (h:∀x∈l,ow x=false):l.filter ow=[]/\l.filter (λr=>!ow r)=l :=
 ⟨rn.2 λx hx=>by simp[h x hx],tD.2 λx hx=>by simp[h x hx]⟩
theorem Xz {c:bn×List bn} (hL:eE c.1=true) (h1:mO c.1) (h2:∀m∈c.2,isM m=true/\mO m):rM c=kl (gA c):=by
 unfold rM gA;rw[tp,tW];refine uO λx hx=>?_;rcases Iw hx with rfl|hx
 ·exact Om h1 hL
 ·exact Is (h2 x hx).2 (h2 x hx).1
theorem OA {c:bn×List bn} (hL:eE c.1=true):qO c=lT (cP c.1.Rune):=by
 unfold qO ox;rw[hL];rfl
theorem XA {r:Int} {rs:List Int} (h:dx r=true):∀t,((r::rs).map lH).head?=some t->fV (fG t).Rune=false:=by
 intro t ht;have:lH r=t:=kV ht;subst this;rw[Ov (vV h)];exact IA h
end Go.Proofs.YtncjnoakkghmmaaGreatDoor


namespace Go.Proofs.YtncjnoakkghmmaaGreatDoor
open Go.RowKit Go.Lib
open Tryz
set_option linter.unusedVariables false
set_option linter.unusedSimpArgs false
open _root_.ByteArray renaming empty->af
open _root_.Go.IntWalk renaming i64_in->ac
open _root_.Go.Lib renaming indexByte->bx
open _root_.Go.Proofs.Tryz renaming underlying9->am,underlying54->cU,results52->qg,underlying21->bl,underlying154->dr,underlying22->ay,results98->qh,results66->nK
open bM renaming nil->bB
open aH renaming nil->aC
open Vw renaming get->cq
open _root_.Go.Utf8 renaming encode->ae
open _root_.Go.Value renaming string->ad,int->az,bool->ap
open _root_.List renaming nil_append->bj,append_nil->aE
def BN (p1:dq):Option Bool := grd (gJ p1.Rune) <|some (((ie p1.Broken p1.Rune):Int)==1)
theorem OB (p1:dq) {r:Bool} (h:BN p1=some r):eO prog 103 [.agg (fC p1).toArray] (.bool r):=by
 refine eO.intro func103 rfl ntmps103 (by simp) (λw0 K=>I (lE rfl dc rfl (λb1=>O 1 rfl (cw (ju 0 (fC p1) nm rfl dc rfl rfl rfl rfl (bi h λa h=>dF (zI (ie p1.Broken p1.Rune)) [.agg (fC p1).toArray] rfl dc rfl rfl rfl yj (yr p1.At p1.Width p1.Rune p1.Broken a.1 a.2) (E rfl eZ (O 1 rfl (Y (bO ?_))))))))));cases h;exact dt 2 results103
def y9 (p1:dq):Option Bool := grd (gJ p1.Rune) <|some (((ie p1.Broken p1.Rune):Int)==2)
theorem OC (p1:dq) {r:Bool} (h:y9 p1=some r):eO prog 64 [.agg (fC p1).toArray] (.bool r):=by
 refine eO.intro func64 rfl ntmps64 (by simp) (λw0 K=>I (lE rfl dc rfl (λb1=>O 1 rfl (cw (ju 0 (fC p1) nm rfl dc rfl rfl rfl rfl (bi h λa h=>dF (zI (ie p1.Broken p1.Rune)) [.agg (fC p1).toArray] rfl dc rfl rfl rfl yj (yr p1.At p1.Width p1.Rune p1.Broken a.1 a.2) (E rfl eZ (O 1 rfl (Y (bO ?_))))))))));cases h;exact dt 2 results64
def BO (a:V) (f:Int) (j:(List iA)->Option (List iA)) (h:(List iA)->Bool->Int->Option (List iA)) (d:List iA) (c:Bool) (b:Int):Option (List iA) := G (decide ((b:Int)<(a.size:Int))) (cm (λ(g:(List iA)->Bool->Option (List iA))=>T (kY a b) λ(c1:Int)=>G ((c1:Int)==32) (g d false) (G (c) (grd (I64 ((d.length:Int)-1)) <|T (cj d ((d.length:Int)-1)) λ(q1:iA)=>grd (I64 (b+1)) <|grd (0<=(b:Int)/\(b:Int)<=(b+1)/\(b+1:Int)<=(a.size:Int)) <|grd (q1.text.size+(c6 a b (b+1)).size<=9223372036854775807) <|g (d.set ((d.length:Int)-1:Int).toNat (⟨q1.at_,q1.text++(c6 a b (b+1))⟩:iA)) c) (grd (I64 (f+b)) <|grd (I64 (b+1)) <|grd (0<=(b:Int)/\(b:Int)<=(b+1)/\(b+1:Int)<=(a.size:Int)) <|grd (d.length+1<=2147483648) <|g (d++[(⟨f+b,c6 a b (b+1)⟩:iA)]) true))) (λ(i:List iA) (e:Bool)=>grd (I64 (b+1)) <|h i e (b+1))) (j d)
def E0 (a:V) (b:Int):Option (List iA) := cm (λ(d:(List iA)->Option (List iA))=>bP (λ_ _ _=>none) (BO a b d) bN ([]:List iA) false 0) (λ(c:List iA)=>some c)
theorem XB {f:V} {l:Int} {r:(List iA)} (h:E0 f l=some r):Fn prog 21 [.string f,zI l] [] (λv0:Value=>v0) (λv0=>[vJ v0 r]):=by
 refine Fn.intro func21 rfl ntmps21 (by simp) (λw0 K=>cJ ((List iA)×Value) h 3 rfl (λw b=>w b.1=some r) (λb=>[]) (λb=>[(5,b.2)]) (λb=>[vJ b.2 b.1]) (λw h cut=>?_) ?_)
 ·refine I (O 1 rfl (cw (O 1 rfl (cw (O 1 rfl (bC (cu (cut (I (O 1 rfl (mw rfl dc rfl am (O 1 rfl (Y (ck (oL wJ 94 2 (fP ((List iA)×Bool×Int×Value) (BO f l w) (λa b=>a b.1 b.2.1 b.2.2.1=some r) (λb=>[]) (λb=>[(0,.string f),(1,zI l),(5,b.2.2.2),(6,.bool b.2.1),(9,zI (f.size:Int)),(10,zI b.2.2.1)]) (λb=>[vJ b.2.2.2 b.1]) (([]:List iA),false,0,(.slice none 0 0)) h 1 ?_))))))))))))))));rintro R ⟨m,t,g,p⟩ h;refine I (E rfl dL (Y (bV (bu rfl h (λh=>?_) (λh=>?_)))))
  ·refine bw (cu (cJ ((List iA)×Bool×Value) h 0 rfl (λM b=>M b.1 b.2.1=some r) (λb=>[]) (λb=>[(0,.string f),(1,zI l),(5,b.2.2),(6,.bool b.2.1),(9,zI (f.size:Int)),(10,zI g)]) (λb=>[vJ b.2.2 b.1]) (λM h cut=>cut (ck (I (O 2 rfl (Y (ck (I (O 2 rfl (aU h λc1 x h=>oI rfl dc rfl rfl (qX am x) (E rfl eZ (O 1 rfl (Y (bu rfl h (λh=>bX (O 1 rfl (bC (cg (cg (mD (m,false,p) h 1)))))) (λh=>I (O 2 rfl (Y (bu rfl h (λh=>bi h λL h=>aU h λq1 o h=>bi h λJ h=>bi h λH h=>bi h λF h=>jU 12 [(0,32,p),(1,33,p),(2,34,zI (m.length:Int)),(3,35,zI ((m.length:Int)-1)),(4,36,.pointer (some ⟨eS p,((m.length:Int)-1:Int).toNat*2,none⟩)),(5,37,.pointer (some ⟨eS p,(((m.length:Int)-1:Int).toNat)*2+1,none⟩)),(6,38,.string q1.text),(7,39,.string f),(8,40,zI g),(9,41,zI g),(10,42,zI (g+1)),(11,43,.string (c6 f g (g+1)))] mixed kr kr dc (by rfl) kr kr (gD 2 0 rfl (bQ (λD n d c u i=>io 0 rfl dc (aX 1 u d) rfl cU (bf 2 u i)) (bQ (λD n d c u i=>jX rfl dc (aX 2 u d) rfl (iV ((m.length:Int)-1) (ac _ L)) (bf 3 u i)) (bQ (λD n d c u i=>eN 0 o cU ra rfl dc (aX 0 u d) (aX 3 u d) rfl rfl (bf 4 u i)) (bQ (λD n d c u i=>ci yg rfl dc (aX 4 u d) (show _=(((m.length:Int)-1:Int).toNat)*2+1 from rfl) (bf 5 u i)) (bQ (λD n d c u i=>fl 0 (((m.length:Int)-1:Int).toNat) 1 q1 eJ DW rfl dc (aX 5 u d) rfl (ei o) rfl dc rfl (bf 6 u i)) (gD 3 7 rfl (bQ (λD n d c u i=>jX rfl dc (aX 9 u d) rfl (c8 (g+1) (ac _ J)) (bf 10 u i)) (bQ (λD n d c u i=>jj rfl dc (aX 7 u d) (evO.some (aX 8 u d)) (evO.some (aX 10 u d)) (lP g (g+1) am (.inr rfl) (.inr rfl) H) (bf 11 u i)) bB))))))))) (E rfl (ni F) (eN 0 o cU ra rfl dc rfl rfl rfl rfl (ci yg rfl dc rfl (show _=(((m.length:Int)-1:Int).toNat)*2+1 from rfl) (oN 0 (((m.length:Int)-1:Int).toNat) 1 q1 (⟨q1.at_,q1.text++(c6 f g (g+1))⟩:iA) gV DW rfl rfl rfl rfl (ei o) rfl dc rfl (λ_ _=>rfl) (bC (cg (cg (mD (m.set ((m.length:Int)-1:Int).toNat (⟨q1.at_,q1.text++(c6 f g (g+1))⟩:iA),t,p) h 1))))))))) (λh=>I (O 3 rfl (bi h λC h=>E rfl (c8 (l+g) (ac _ C)) (O 3 rfl (bi h λB h=>E rfl (c8 (g+1) (ac _ B)) (bi h λA h=>jj rfl dc rfl rfl rfl (lP g (g+1) am (.inr rfl) (.inr rfl) A) (fH (.agg #[zI (l+g),.string (c6 f g (g+1))]) [(0,.tmp 16),(1,.tmp 21)] rfl dc rfl (λ_=>by kernel_rfl) (hQ [(0,.tmp 22)] 94 [zI (l+g),.string (c6 f g (g+1))] rfl dc rfl (λ_=>by kernel_rfl) (λb1=>bi h λz h=>jJ 0 1 [(⟨l+g,c6 f g (g+1)⟩:iA)] cU SA DW T7 rfl dc rfl rfl rfl rfl rfl rfl z (λN=>O 1 rfl (Y (bX (O 1 rfl (bC (cg (cg (mD (m++[(⟨l+g,c6 f g (g+1)⟩:iA)],true,N) h 1)))))))))))))))))))))))))))))))))) ?_));rintro⟨Q,s,P⟩ h;exact bX (bi h λy h=>E rfl (c8 (g+1) (ac _ y)) (O 1 rfl (bC (mD (Q,s,g+1,P) h 1))))
  exact dG (bS (bS (dH (mD (m,p) h 1))))
 rintro⟨S,v1⟩ h;refine I (O 2 rfl (Y (bO ?_)));cases h;exact eW [.tmp 4] v1 (.inl rfl) results21 (.cons (.tmp rfl) .nil) rfl (cO 1)
def E2 (c:List iA) (d:Int):Option Int := cm (λ(e:Int->Int->Option Int)=>T (cj c 0) λ(q1:iA)=>G (decide (q1.text=(⟨#[112,117,116]⟩:V))) (cm (λ(f:Option Int)=>G (decide ((2:Int)<(c.length:Int))) (T (cj c 2) λ(q2:iA)=>G (!decide (q2.text=(⟨#[97,102,116,101,114]⟩:V))) (T (cj c 2) λ(i:iA)=>some i.at_) (f)) (f)) (e 4 4)) (G (decide (q1.text=(⟨#[97,115]⟩:V))) (e 3 6) (G (decide (q1.text=(⟨#[115,107,105,112]⟩:V))) (e 2 2) (T (cj c 0) λ(h:iA)=>some h.at_)))) (λ(b:Int) (a:Int)=>G (decide (((c.length:Int):Int)<b)) (some d) (G (decide ((a:Int)<(c.length:Int))) (T (cj c a) λ(g:iA)=>some g.at_) (some (-1))))
theorem XC {k g:Value} {u:List iA} {c:Nat} {w:List iA} (a:Vw k u 2 c g w) {d:Int} {r:Int} (h:E2 w d=some r):gu prog 52 [g,zI d] [iM wJ 2 k c u] [] (λ_:Unit=>(zI r)) (λ_=>[]):=by
 refine gu.intro func52 rfl ntmps52 (by simp) (λw0 K f=>cJ (Int×Int) h 2 rfl (λy b=>y b.1 b.2=some r) (λb=>[]) (λb=>[(0,g),(1,zI d),(5,zI b.1),(6,zI b.2)]) (λb=>[]) (λy h cut=>?_) ?_)
 ·refine I (O 1 rfl (cw (O 2 rfl (Y (cut (I (O 1 rfl (aU h λq1 t h=>gm a t cU ra rfl dc rfl rfl rfl (ci yg rfl dc rfl (show _=(c+(0:Int).toNat)*2+1 from rfl) (km 0 (c+(0:Int).toNat) 1 q1 f rfl z1 eJ rfl dc rfl (cq a t) rfl rfl (Y (ck (I (E rfl mf (O 1 rfl (Y (bu rfl h (λh=>?_) (λh=>?_))))))))))))))))))
  ·refine cJ Unit h 0 rfl (λx b=>x=some r) (λb=>[]) (λb=>[(0,g),(1,zI d)]) (λb=>[]) (λx h cut=>?_) ?_
   ·refine cut (I (O 1 rfl (jl a rfl dc rfl cU (E rfl kF (O 1 rfl (du 20 rfl h (λh=>?_) (λh=>?_)))))))
    ·refine O 1 rfl (aU h λq2 p h=>gm a p cU ra rfl dc rfl rfl rfl (ci yg rfl dc rfl (show _=(c+(2:Int).toNat)*2+1 from rfl) (km 0 (c+(2:Int).toNat) 1 q2 f rfl z1 eJ rfl dc rfl (cq a p) rfl rfl (E rfl tF (O 1 rfl (Y (bu rfl h (λh=>?_) (λh=>?_))))))))
     ·refine I (O 1 rfl (aU h λB o h=>gm a o cU ra rfl dc rfl rfl rfl (ci vD rfl dc rfl (show _=(c+(2:Int).toNat)*2 from rfl) (km 0 (c+(2:Int).toNat) 0 B f rfl z1 ed rfl dc rfl (cq a o) rfl rfl (O 1 rfl (Y (bO (bZ (cK (bZ ?_))))))))));cases h;exact dt 4 qg
     exact bw (mD () h 0)
    exact O 6 rfl (Y (eU rfl (bw (mD () h 0))))
   exact λ_ h=>bX (O 2 rfl (bC (cg (mD (4,4) h 0))))
  refine I (E rfl mf (O 1 rfl (Y (bu rfl h (λh=>bX (O 2 rfl (bC (cg (mD (3,6) h 0))))) (λh=>I (E rfl mf (O 1 rfl (Y (bu rfl h (λh=>bw (cg (mD (2,2) h 0))) (λh=>I (O 1 rfl (aU h λA m h=>gm a m cU ra rfl dc rfl rfl rfl (ci vD rfl dc rfl (show _=(c+(0:Int).toNat)*2 from rfl) (km 0 (c+(0:Int).toNat) 0 A f rfl z1 ed rfl dc rfl (cq a m) rfl rfl (O 1 rfl (Y (bO (cK (bZ ?_)))))))))))))))))));cases h;exact dt 4 qg
 rintro⟨v,e⟩ h;refine bV (ck (I (O 1 rfl (jl a rfl dc rfl cU (O 1 rfl (E rfl dL (O 1 rfl (Y (bu rfl h (λh=>?_) (λh=>?_))))))))))
 ·refine I (O 2 rfl (Y (bO (cK (bZ ?_)))));cases h;exact dt 4 qg
 refine I (O 1 rfl (jl a rfl dc rfl cU (O 1 rfl (E rfl kF (O 1 rfl (Y (bu rfl h (λh=>?_) (λh=>?_))))))))
 ·refine I (O 2 rfl (aU h λz l h=>gm a l cU ra rfl dc rfl rfl rfl (ci vD rfl dc rfl (show _=(c+(e:Int).toNat)*2 from rfl) (km 0 (c+(e:Int).toNat) 0 z f rfl z1 ed rfl dc rfl (cq a l) rfl rfl (O 1 rfl (Y (bO (cK (bZ ?_)))))))));cases h;exact dt 4 qg
 refine bw (cg (cu (I (O 1 rfl (Y (bO ?_))))));cases h;exact dt 4 qg
def vW (r1:V) (x1:dq) (a:V->Option V) (b:V):Option V := T (BN x1) λ(r3:Bool)=>G (r3) (grd (gJ x1.Rune) <|grd (b.size+(ae (cP x1.Rune)).size<=140737488355328) <|a (b++(ae (cP x1.Rune)))) (grd (I64 (x1.At+x1.Width)) <|grd (0<=(x1.At:Int)/\(x1.At:Int)<=(x1.At+x1.Width)/\(x1.At+x1.Width:Int)<=(r1.size:Int)) <|grd (b.size+(c6 r1 x1.At (x1.At+x1.Width)).size<=140737488355328) <|a (b++(c6 r1 x1.At (x1.At+x1.Width))))
def E3 (c:V):Option V := cm (λ(d:V->Option V)=>T (BH c) λ(r1:V)=>T (w6 r1) λ(r2:V)=>T (uN r2) λ(a:(List dq))=>cm (λ(b:V->Option V)=>jZ b (vW r1) a af) (λ(e:V)=>d e)) (λ(f:V)=>some f)
theorem XD {L:V} {r:V} (h:E3 L=some r):eO prog 101 [.string L] (.string r):=by
 refine eO.intro func101 rfl ntmps101 (by simp) (λw0 K=>vm (cJ (V×Nat×Value×(List Nat)) h 3 rfl (λj1 b=>j1 b.1=some r) (λb=>qW b.2.2.2) (λb=>[(3,zP b.2.1)]) (λb=>[cells b.2.1 [b.2.2.1] 154,byt 5 b.2.2.1 b.1,iR ((b.2.2.2:List Nat).map iJ)]) (λj1 h cut=>?_) ?_))
 ·refine I (lE rfl dc rfl (λJ=>O 1 rfl (cw (bW 1 eJ rfl dc rfl rfl rfl (aU h λr1 R h=>dF (.string r1) [.string L] rfl dc rfl rfl rfl Md (N1 R) (fJ 1 [.string r1] gV rfl rfl rfl rfl rfl (λ_ _=>rfl) rfl (cw (fZ SG rfl dc (λH=>Y (cut (I (bW 1 eJ rfl dc rfl rfl rfl (aU h λr2 Q h=>ir [.string r1] rfl dc rfl rfl rfl Ay (BC Q) aC (λb5=>Y (ck (aU h λA P h=>Dw (e:=5) (tg h λy F h=>wx dq (V×Value) Unit Nat [9] Ro.nil rfl AA (BB P) (λpre b=>∀post,A=pre++post->jZ y (vW r1) post b.1=some r) (λpre b=>[cells J [.string r1] 9,cells H [b.2] 154,byt 5 b.2 b.1]) (λc pre g=>False) (λc pre g=>[]) (λpre x b j=>[(1,zP J),(2,.string (⟨#[]⟩:V)),(3,zP H),(8,.func (.func 135) #[] #[zP b5]),(4,zP j)]) (λpre x b j=>[cells J [.string r1] 9,cells H [b.2] 154,byt 5 b.2 b.1,cells j (fC x) 102]) (af,(.slice none 0 0)) (λpost e=>by rw[bj] at e;subst e;exact h) (ct [1,2,4] kr rfl) ⟨.inl ⟨3,rfl⟩,trivial⟩ (λ_=>rfl) dc ?_ ?_ ?_ ?_)))))))))))))))))
  ·rintro lp rc pre x1 post ⟨q,s⟩ w1 K1 f C M l;exact bX (fZ rb rfl dc (λb9=>fI 3 (fC x1) (fC x1) mg rfl rfl rfl rfl rfl (show _<=_ by simp) rfl rfl (bC (λa w ha hw=>⟨b9,(gl rfl) _ _ _ ha,hw.weaken (cO 4)⟩))))
  ·rintro lp rc pre x1 m ⟨q,s⟩ p w1 K1 f C M l;have h:=l (x1::m) f;obtain⟨ao,o⟩:∃ag,ag=jZ y (vW r1) m:=⟨_,rfl⟩;have h:vW r1 x1 ao q=some r:=by have h2:=h;rw[qn,<-o] at h2;exact h2
   exact ck (I (ju 3 (fC x1) nm rfl dc rfl rfl rfl rfl (aU h λr3 N h=>dF (.bool r3) [.agg (fC x1).toArray] rfl dc rfl rfl rfl Mj (OB x1 N) (Y (bu rfl h (λh=>bi h λB h=>bi h λZ h=>jU 5 [(0,12,s),(1,13,.pointer (some ⟨p,2,none⟩)),(2,14,.int .i32 x1.Rune),(3,15,.int .i32 (cP x1.Rune)),(4,16,.string (ae (cP x1.Rune)))] mixed kr kr dc (by rfl) kr kr (bQ (λD n d c u i=>bW 1 GZ rfl dc (eG (by rfl) rfl) rfl rfl (bf 0 u i)) (bQ (λD n d c u i=>ci sy rfl dc (eG (by rfl) rfl) (show _=2 from rfl) (bf 1 u i)) (bQ (λD n d c u i=>bW 3 fU rfl dc (aX 1 u d) rfl rfl (bf 2 u i)) (bQ (λD n d c u i=>dF (.int .i32 (cP x1.Rune)) [.int .i32 x1.Rune] rfl dc rfl (evL.cons (aX 2 u d) evL.nil) rfl DU (pc λw=>AH x1.Rune w B.1 B.2) (bf 3 u i)) (bQ (λD n d c u i=>jI rfl dc (aX 3 u d) (nM bl am) (bf 4 u i)) bB))))) (z7 2 dr am vA rfl dc rfl rfl rfl Z (λv5=>fJ 1 [v5] LY rfl rfl rfl rfl rfl (λ_ h=>KL h (k:=2) rfl) rfl (bC (cg (nz (q++(ae (cP x1.Rune)),v5) (λt e2=>by have e9:=nA f e2;subst e9;subst o;exact h) (cO 3))))))) (λh=>bi h λX h=>bi h λW h=>bi h λS h=>jU 10 [(0,18,s),(1,19,.string r1),(2,20,zP p),(3,21,zI x1.At),(4,22,zP p),(5,23,zI x1.At),(6,24,.pointer (some ⟨p,1,none⟩)),(7,25,zI x1.Width),(8,26,zI (x1.At+x1.Width)),(9,27,.string (c6 r1 x1.At (x1.At+x1.Width)))] mixed kr kr dc (by rfl) kr kr (bQ (λD n d c u i=>bW 1 GZ rfl dc (eG (by rfl) rfl) rfl rfl (bf 0 u i)) (bQ (λD n d c u i=>bW 0 eJ rfl dc (eG (by rfl) rfl) rfl rfl (bf 1 u i)) (bQ (λD n d c u i=>ci nD rfl dc (eG (by rfl) rfl) (show _=0 from rfl) (bf 2 u i)) (bQ (λD n d c u i=>bW 3 ed rfl dc (aX 2 u d) rfl rfl (bf 3 u i)) (bQ (λD n d c u i=>ci nD rfl dc (eG (by rfl) rfl) (show _=0 from rfl) (bf 4 u i)) (bQ (λD n d c u i=>bW 3 ed rfl dc (aX 4 u d) rfl rfl (bf 5 u i)) (bQ (λD n d c u i=>ci s6 rfl dc (eG (by rfl) rfl) (show _=1 from rfl) (bf 6 u i)) (bQ (λD n d c u i=>bW 3 ed rfl dc (aX 6 u d) rfl rfl (bf 7 u i)) (bQ (λD n d c u i=>jX rfl dc (aX 5 u d) (aX 7 u d) (c8 (x1.At+x1.Width) (ac _ X)) (bf 8 u i)) (bQ (λD n d c u i=>jj rfl dc (aX 1 u d) (evO.some (aX 3 u d)) (evO.some (aX 8 u d)) (lP x1.At (x1.At+x1.Width) am (.inr rfl) (.inr rfl) W) (bf 9 u i)) bB)))))))))) (z7 2 dr am vA rfl dc rfl rfl rfl S (λv6=>fJ 1 [v6] LY rfl rfl rfl rfl rfl (λ_ h=>KL h (k:=2) rfl) rfl (bC (cg (nz (q++(c6 r1 x1.At (x1.At+x1.Width)),v6) (λt e2=>by have e9:=nA f e2;subst e9;subst o;exact h) (cO 3))))))))))))
  ·rintro z ⟨q,s⟩ l;have h:y q=some r:=l [] (aE _).symm;rw[F] at h;show TX _ _ _ _ _ _ _ [iR ((([]:List Nat):List Nat).map iJ),cT,cT,cells b5 [.string r2] 9,cT,cells J [.string r1] 9,cells H [s] 154,byt 5 s q,iJ z];exact vl 8 0 rfl rfl dc (cg (iW (q,H,s,z::([]:List Nat)) h rfl (gl rfl) (ct [6,7,0] kr rfl)))
  exact λz c pre x1 post g aw hX=>(show False from hX).elim
 rintro⟨b2,b1,v1,ds1⟩ h;refine I (bW 0 GZ rfl dc rfl rfl rfl (tG 1 rfl dc rfl rfl dr underlying5 am (O 1 rfl (Y (bO ?_)))));cases h;exact sw [.tmp 2] ds1 () (.inl rfl) (sq 2 rfl) results101 (.cons (.tmp rfl) .nil) rfl aC
def xf (b:Int->Option V) (x1:dq) (c:Int->Option V) (a:Int):Option V := grd (I64 (a+1)) <|G (decide ((8:Int)<(a+1))) (b (a+1)) (T (BN x1) λ(r3:Bool)=>G (!r3) (G (((a+1):Int)==1) (b (a+1)) (T (y9 x1) λ(d:Bool)=>G (!d) (b (a+1)) (c (a+1)))) (c (a+1)))
def BP (e:V):Option V := cm (λ(f:V->Option V)=>T (E3 e) λ(r1:V)=>T (w6 r1) λ(r2:V)=>T (uN r2) λ(a:(List dq))=>cm (λ(b:Int->Option V)=>cm (λ(c:Int->Option V)=>jZ c (xf b) a 0) (λ(h:Int)=>f r1)) (λ(g:Int)=>some (⟨#[]⟩:V))) (λ(d:V)=>some d)
theorem XE {C:V} {r:V} (h:BP C=some r):eO prog 53 [.string C] (.string r):=by
 refine eO.intro func53 rfl ntmps53 (by simp) (λw0 K=>vm (cJ (V×Nat×(List Nat)) h 3 rfl (λS b=>S b.1=some r) (λb=>qW b.2.2) (λb=>[(0,.string b.1),(2,zP b.2.1)]) (λb=>[cells b.2.1 [.string af] 9,iR ((b.2.2:List Nat).map iJ)]) (λS h cut=>?_) ?_))
 ·refine I (fZ GM rfl dc (λt=>cw (O 1 rfl (aU h λr1 M h=>dF (.string r1) [.string C] rfl dc rfl rfl rfl TE (XD M) (O 1 rfl (cw (fZ xY rfl dc (λu=>fJ 2 [zI 0] gL rfl rfl rfl rfl rfl (λ_ _=>rfl) rfl (Y (cut (I (O 1 rfl (aU h λr2 L h=>ir [.string r1] rfl dc rfl rfl rfl Ay (BC L) aC (λQ=>Y (ck (aU h λy J h=>tg h λo A h=>tg h λq B h=>wx dq Int Int Nat [9] Ro.nil rfl AA (BB J) (λpre b=>∀post,y=pre++post->jZ q (xf o) post b=some r) (λpre b=>[cells t [.string af] 9,cells u [zI b] 3]) (λc pre g=>(λg=>c=.ret/\o g=some r) g) (λc pre g=>(λg=>[cells t [.string (⟨#[]⟩:V)] 9,cells u [zI g] 3]) g) (λpre x b j=>[(0,.string r1),(2,zP t),(3,zP u),(8,.func (.func 135) #[] #[zP Q]),(4,zP j)]) (λpre x b j=>[cells t [.string af] 9,cells u [zI b] 3,cells j (fC x) 102]) 0 (λpost e=>by rw[bj] at e;subst e;exact h) (ct [1,2] kr rfl) ⟨.inl ⟨3,rfl⟩,trivial⟩ (λ_=>rfl) dc (λlp X pre x1 post i w1 K1 d z D f=>bX (fZ rb rfl dc (λb5=>fI 2 (fC x1) (fC x1) mg rfl rfl rfl rfl rfl (show _<=_ by simp) rfl rfl (bC (λa w ha hw=>⟨b5,(gl rfl) _ _ _ ha,hw.weaken (cO 3)⟩))))) ?_ ?_ ?_))))))))))))))))
  ·rintro lp X pre x1 l i ao w1 K1 d z D f;have h:=f (x1::l) d;obtain⟨R,m⟩:∃ag,ag=jZ q (xf o) l:=⟨_,rfl⟩;have h:xf o x1 R i=some r:=by have h2:=h;rw[qn,<-m] at h2;exact h2
   exact ck (I (bW 1 ed rfl dc rfl rfl rfl (bi h λN h=>E rfl (c8 (i+1) (ac _ N)) (fJ 1 [zI (i+1)] gL rfl rfl rfl rfl rfl (λ_ _=>rfl) rfl (cw (bW 1 ed rfl dc rfl rfl rfl (E rfl kF (O 1 rfl (du 14 rfl h (λh=>O 13 rfl (bC (cu (jy rfl (I (fJ 0 [.string (⟨#[]⟩:V)] gV rfl rfl rfl rfl rfl (λ_ _=>rfl) rfl (Y (bO (cK (oK (i+1) (show _/\_ from ⟨rfl,h⟩) (cO 2))))))))))) (λh=>ju 2 (fC x1) nm rfl dc rfl rfl rfl rfl (aU h λr3 H h=>dF (.bool r3) [.agg (fC x1).toArray] rfl dc rfl rfl rfl Mj (OB x1 H) (lh rfl dc rfl lj (O 1 rfl (du 18 rfl h (λh=>bW 1 ed rfl dc rfl rfl rfl (E rfl eZ (O 1 rfl (du 21 rfl h (λh=>O 6 rfl (Y (jy rfl (I (fJ 0 [.string (⟨#[]⟩:V)] gV rfl rfl rfl rfl rfl (λ_ _=>rfl) rfl (Y (bO (cK (oK (i+1) (show _/\_ from ⟨rfl,h⟩) (cO 2)))))))))) (λh=>ju 2 (fC x1) nm rfl dc rfl rfl rfl rfl (aU h λZ F h=>dF (.bool Z) [.agg (fC x1).toArray] rfl dc rfl rfl rfl Me (OC x1 F) (lh rfl dc rfl lj (O 3 rfl (Y (bu rfl h (λh=>I (fJ 0 [.string (⟨#[]⟩:V)] gV rfl rfl rfl rfl rfl (λ_ _=>rfl) rfl (Y (bO (cK (oK (i+1) (show _/\_ from ⟨rfl,h⟩) (cO 2))))))) (λh=>bw (cg (nz (i+1) (λp e2=>by have P:=nA d e2;subst P;subst m;exact h) (cO 2)))))))))))))) (λh=>O 9 rfl (Y (eU rfl (bw (cg (nz (i+1) (λp e2=>by have P:=nA d e2;subst P;subst m;exact h) (cO 2)))))))))))))))))))))
  ·rintro n i f;have h:q i=some r:=f [] (aE _).symm;rw[B] at h;show TX _ _ _ _ _ _ _ [iR ((([]:List Nat):List Nat).map iJ),cT,cT,cells Q [.string r2] 9,cells t [.string af] 9,cells u [zI i] 3,iJ n];exact vl 6 0 rfl rfl dc (cg (iW (r1,t,n::([]:List Nat)) h rfl (gl rfl) (ct [4,0] kr rfl)))
  rintro n c pre x1 post g aw hX;obtain⟨rfl,h⟩:=(show _/\_ from hX);generalize g=n4 at *;rw[A] at h;show TC _ _ _ _ _ _ _ _ _ [iR ((([]:List Nat):List Nat).map iJ),cT,cT,cells Q [.string r2] 9,cells t [.string (⟨#[]⟩:V)] 9,cells u [zI n4] 3,iJ n];refine Gu 0 (k:=6) rfl rfl dc (bO (cK (bZ ?_)));cases h;exact sw [.cell 2 9] (n::([]:List Nat)) () (.inl rfl) (sq 0 rfl) results53 (.cons (.cell eJ (k:=4) rfl rfl) .nil) rfl aC
 rintro⟨W,b1,ds1⟩ h;refine I (O 1 rfl (fJ 0 [.string W] gV rfl rfl rfl rfl rfl (λ_ _=>rfl) rfl (Y (bO ?_))));cases h;exact sw [.cell 2 9] ds1 () (.inl rfl) (sq 1 rfl) results53 (.cons (.cell eJ (k:=0) rfl rfl) .nil) rfl aC
def BQ (o1:co) (b:(List (V×Int))->Int->Option co) (c:List (V×Int)) (a:Int):Option co := G (decide ((a:Int)<(o1.units.length:Int))) (T (cj o1.units a) λ(q1:V)=>grd (I64 (a+1)) <|b (jm q1 a c) (a+1)) (some (⟨o1.units,c,o1.fors,o1.skips,o1.lines⟩:co))
def za (o1:co):Option co := bP (λ_ _=>none) (BQ o1) bN o1.place 0
theorem OD (_p:Nat) (o1:co) (_g _c _d _f _q:Hd) {r:co} (h:za o1=some r):Fn prog 50 [zP _p] [cells _p [_g.v,.map (some (bc _c)),.map (some (bc _d)),.map (some (bc _f)),_q.v] 69,bq _g.v o1.units,cH (λn:V=>ad n) (λn:Int=>az .i64 n) (bc _c) o1.place,dV (bc _d) o1.fors,cH (λn:V=>ad n) (λn:Bool=>ap n) (bc _f) o1.skips,bq _q.v o1.lines] (λb:Hd×Hd×Hd×Hd×Hd=>.tuple #[]) (λb=>[cells _p [b.1.v,.map (some (bc b.2.1)),.map (some (bc b.2.2.1)),.map (some (bc b.2.2.2.1)),b.2.2.2.2.v] 69,bq b.1.v r.units,cH (λn:V=>ad n) (λn:Int=>az .i64 n) (bc b.2.1) r.place,dV (bc b.2.2.1) r.fors,cH (λn:V=>ad n) (λn:Bool=>ap n) (bc b.2.2.2.1) r.skips,bq b.2.2.2.2.v r.lines]):=by
 unfold za at h;refine Fn.intro func50 rfl ntmps50 (by simp) (λw0 K=>I (O 1 rfl (iS rfl dc rfl (ci yc rfl dc rfl (show _=0 from rfl) (bW 0 oS rfl dc rfl rfl rfl (io 1 rfl dc rfl rfl ay (O 1 rfl (Y (ck (fP ((List (V×Int))×Int) (BQ o1) (λa b=>a b.1 b.2=some r) (λb=>[]) (λb=>[(0,zP _p),(7,_g.v),(8,zI (o1.units.length:Int)),(9,zI b.2)]) (λb=>[cells _p [_g.v,.map (some (bc _c)),.map (some (bc _d)),.map (some (bc _f)),_q.v] 69,bq _g.v o1.units,cH (λn:V=>ad n) (λn:Int=>az .i64 n) (bc _c) b.1,dV (bc _d) o1.fors,cH (λn:V=>ad n) (λn:Bool=>ap n) (bc _f) o1.skips,bq _q.v o1.lines]) (o1.place,0) h 6 ?_))))))))));rintro g ⟨f,c⟩ h;refine I (E rfl dL (Y (bV (bu rfl h (λh=>bw (cu (bV (ck (I (O 1 rfl (aU h λq1 d h=>eN 1 d ay gV rfl dc rfl rfl rfl rfl (fl 1 ((c:Int).toNat) 0 q1 eJ gG rfl dc rfl rfl (ei d) rfl dc rfl (O 2 rfl (Y (bX (O 1 rfl (iS rfl dc rfl (ci yd rfl dc rfl (show _=1 from rfl) (bW 0 ya rfl dc rfl rfl rfl (O 2 rfl (xW 2 (λn:V=>ad n) (λn:Int=>az .i64 n) q1 c (ou am) underlying65 rfl rfl rfl rfl rfl (bC (cg (cu (bX (bi h λe h=>E rfl (c8 (c+1) (ac _ e)) (O 1 rfl (bC (mD (jm q1 c f,c+1) h 6))))))))))))))))))))))))) (λh=>dG (bS (bS (dH ?_))))))));cases h;exact eW [] (_g,_c,_d,_f,_q) (.inr rfl) results50 .nil rfl (cO 6)
def E4 (o1:co) (u1:V):Option Bool := G ((cf u1 o1.place).isSome) (some true) (some ((cf u1 o1.fors).isSome))
theorem XF (_p:Nat) (o1:co) (_g _c _d _f _q:Hd) {u1:V} {r:Bool} (h:E4 o1 u1=some r):gu prog 55 [zP _p,.string u1] [cells _p [_g.v,.map (some (bc _c)),.map (some (bc _d)),.map (some (bc _f)),_q.v] 69,bq _g.v o1.units,cH (λn:V=>ad n) (λn:Int=>az .i64 n) (bc _c) o1.place,dV (bc _d) o1.fors,cH (λn:V=>ad n) (λn:Bool=>ap n) (bc _f) o1.skips,bq _q.v o1.lines] [] (λ_:Unit=>(.bool r)) (λ_=>[]):=by
 refine gu.intro func55 rfl ntmps55 (by simp) (λw0 K a=>I (O 1 rfl (cw (O 1 rfl (iS rfl dc rfl (ci yd rfl dc rfl (show _=1 from rfl) (ot 0 a rfl ya rfl dc rfl rfl (O 1 rfl (DA 2 (λn:V=>ad n) (λn:Int=>az .i64 n) u1 0 (ou am) underlying65 kr rfl dc rfl rfl a rfl (O 1 rfl (fF rfl dc rfl rfl (fF rfl dc rfl rfl (O 2 rfl (cw (O 1 rfl (iS rfl dc rfl (ci GU rfl dc rfl (show _=2 from rfl) (ot 0 a rfl yb rfl dc rfl rfl (O 1 rfl (Lz u1 (i:=3) am underlying66 kr rfl dc rfl rfl a rfl (λc b=>O 1 rfl (fF rfl dc rfl rfl (fF rfl dc rfl rfl (O 2 rfl (cw (O 2 rfl (du 28 rfl h (λh=>?_) (λh=>?_))))))))))))))))))))))))))))
 ·refine O 3 rfl (Y (bO ?_));cases h;exact dt 4 results55
 refine O 3 rfl (Y (bO ?_));cases h;exact dt 4 results55
def OE (g:(List V)->Option co) (c:(List V)->Int->Option co) (a:List V) (r3:Int):Option co := G (decide ((r3:Int)<1120)) (cm (λ(b:(List V)->Option co)=>grd (gJ r3) <|G (qJ r3) (T (Nd r3) λ(e:(List Int))=>G (((e.length:Int):Int)==1) (T (EI r3) λ(d:V)=>G (decide (d=ae r3)) (grd (a.length+1<=2147483648) <|b (a++[ae r3])) (b a)) (b a)) (b a)) (λ(f:List V)=>grd (gJ (r3+1)) <|c f (r3+1))) (g a)
def BR  : Option co := cm (λ(b:(List V)->Option co)=>bP (λ_ _=>none) (OE b) bN ([]:List V) 97) (λ(o1:List V)=>T (za (⟨o1,([]:List (V×Int)),([]:List (V×List V)),([]:List (V×Bool)),([]:List V)⟩:co)) λ(a:co)=>some a)
theorem XG  {r:co} (h:BR=some r):Fn prog 19 [] [] (λb:Nat×Hd×Hd×Hd×Hd×Hd=>zP b.1) (λb=>[cells b.1 [b.2.1.v,.map (some (bc b.2.2.1)),.map (some (bc b.2.2.2.1)),.map (some (bc b.2.2.2.2.1)),b.2.2.2.2.2.v] 69,bq b.2.1.v r.units,cH (λn:V=>ad n) (λn:Int=>az .i64 n) (bc b.2.2.1) r.place,dV (bc b.2.2.2.1) r.fors,cH (λn:V=>ad n) (λn:Bool=>ap n) (bc b.2.2.2.2.1) r.skips,bq b.2.2.2.2.2.v r.lines]):=by
 refine Fn.intro func19 rfl ntmps19 (by simp) (λw0 K=>cJ ((List V)×Nat×Hd×Nat×Nat×Nat) h 2 rfl (λy b=>y b.1=some r) (λb=>[]) (λb=>[(1,zP b.2.1)]) (λb=>[cells b.2.1 [b.2.2.1.v,.map (some b.2.2.2.1),.map (some b.2.2.2.2.1),.map (some b.2.2.2.2.2),.slice none 0 0] 69,bq b.2.2.1.v b.1,cH (λn:V=>ad n) (λn:Int=>az .i64 n) b.2.2.2.1 ([]:List (V×Int)),dV b.2.2.2.2.1 ([]:List (V×List V)),cH (λn:V=>ad n) (λn:Bool=>ap n) b.2.2.2.2.2 ([]:List (V×Bool))]) (λy h cut=>?_) ?_)
 ·refine I (O 1 rfl (cw (xV (λn:V=>ad n) (λn:Int=>az .i64 n) rfl dc (λo=>xV (λs:V=>ad s) rA rfl dc (λi=>wC [cH (λs:V=>ad s) rA i []] (ct [1] kr rfl) (Lx (b:=i)) (λ_ _=>xV (λn:V=>ad n) (λn:Bool=>ap n) rfl dc (λm=>fH (.agg #[.slice none 0 0,.map (some o),.map (some i),.map (some m),.slice none 0 0]) [(1,.tmp 3),(2,.tmp 4),(3,.tmp 5)] rfl dc rfl (λ_=>by kernel_rfl) (lE rfl dc rfl (λx=>O 1 rfl (Y (cut (I (O 1 rfl (Y (ck (oL gK 9 1 (n9 ((List V)×Int×Hd) (OE y) (λa b=>a b.1 b.2.1=some r) (λb=>[]) (λb=>[(1,zP x),(2,.int .i32 b.2.1)]) (λb=>[cells x [b.2.2.v,.map (some o),.map (some i),.map (some m),.slice none 0 0] 69,bq b.2.2.v b.1,cH (λn:V=>ad n) (λn:Int=>az .i64 n) o ([]:List (V×Int)),dV i ([]:List (V×List V)),cH (λn:V=>ad n) (λn:Bool=>ap n) m ([]:List (V×Bool))]) (([]:List V),97,Hd.nil) h rfl (gl rfl) (ct [4,5,0,2,3] kr rfl) ?_)))))))))))))))));rintro X ⟨q,r3,g⟩ h;refine bV (I (O 1 rfl (E rfl dL (Y (bu rfl h (λh=>?_) (λh=>?_))))))
  ·refine bw (cu (cJ ((List V)×Hd) h 0 rfl (λM b=>M b.1=some r) (λb=>[]) (λb=>[(1,zP x),(2,.int .i32 r3)]) (λb=>[cells x [b.2.v,.map (some o),.map (some i),.map (some m),.slice none 0 0] 69,bq b.2.v b.1,cH (λn:V=>ad n) (λn:Int=>az .i64 n) o ([]:List (V×Int)),dV i ([]:List (V×List V)),cH (λn:V=>ad n) (λn:Bool=>ap n) m ([]:List (V×Bool))]) (λM h cut=>?_) ?_))
   ·refine cut (ck (I (O 1 rfl (bi h λt h=>dF (.bool (qJ r3)) [.int .i32 r3] rfl dc rfl rfl rfl Tb (pc λw=>D4 r3 w t.1 t.2) (O 1 rfl (du 14 rfl h (λh=>?_) (λh=>?_)))))))
    ·refine O 1 rfl (aU h λZ B h=>ir [.int .i32 r3] rfl dc rfl rfl rfl Tc (VO B) aC (λv1=>jk 5 rfl (λQ H=>?_)));subst H;refine io 5 rfl dc rfl rfl underlying89 (E rfl eZ (O 2 rfl (du 20 rfl h (λh=>?_) (λh=>?_))))
     ·refine O 1 rfl (aU h λN A h=>dF (.string N) [.int .i32 r3] rfl dc rfl rfl rfl Ma (NM A) (O 1 rfl (jI rfl dc rfl (nM bl am) (E rfl mf (O 1 rfl (Y (bu rfl h (λh=>?_) (λh=>?_))))))))
      ·refine bX (O 2 rfl (iS rfl dc rfl (ci yc rfl dc rfl (show _=0 from rfl) (bW 0 oS rfl dc rfl rfl rfl (O 1 rfl (jI rfl dc rfl (nM bl am) (hQ [(0,.tmp 33)] 9 [.string (ae r3)] rfl dc rfl (λ_=>by kernel_rfl) (λb9=>bi h λD h=>jJ 1 6 [ae r3] ay oR gG pE rfl dc rfl rfl rfl rfl rfl rfl D (λv2=>jk 1 rfl (λu F=>?_))))))))));subst F;exact iS rfl dc rfl (ci yc rfl dc rfl (show _=0 from rfl) (fJ 0 [u.v,.map (some o),.map (some i),.map (some m),.slice none 0 0] uz rfl rfl rfl rfl rfl (λ_ _=>rfl) rfl (bC (cg (mD (q++[ae r3],u) h 5)))))
      exact bw (cg (mD (q,g) h 5))
     exact O 6 rfl (Y (eU rfl (bw (cg (mD (q,g) h 5)))))
    exact O 12 rfl (Y (eU rfl (bw (cg (mD (q,g) h 5)))))
   rintro⟨P,J⟩ h;exact bX (O 1 rfl (bi h λC h=>E rfl (c8 (r3+1) (IntWalk.i32_in _ C)) (O 1 rfl (bC (mD (P,r3+1,J) h 5)))))
  exact dG (bS (bS (dH (mD (q,x,g,o,i,m) h 5))))
 rintro⟨o1,b1,L,W,S,R⟩ h;refine I (O 1 rfl (xJ gK 9 1 (aU h λp z h=>ir [zP b1] rfl dc rfl rfl rfl Mb (OD b1 (⟨o1,([]:List (V×Int)),([]:List (V×List V)),([]:List (V×Bool)),([]:List V)⟩:co) L (⟨some ⟨W,0,none⟩,0,0⟩:Hd) (⟨some ⟨S,0,none⟩,0,0⟩:Hd) (⟨some ⟨R,0,none⟩,0,0⟩:Hd) Hd.nil z) (cO 6) ?_)));rintro⟨l,j,f,d,c⟩;refine kL [cells b1 [l.v,.map (some (bc j)),.map (some (bc f)),.map (some (bc d)),c.v] 69,bq l.v p.units,cH (λn:V=>ad n) (λn:Int=>az .i64 n) (bc j) p.place,dV (bc f) p.fors,cH (λn:V=>ad n) (λn:Bool=>ap n) (bc d) p.skips,bq c.v p.lines] (ct [6,7,8,9,10,11] kr rfl) (cw (O 2 rfl (Y (bO ?_))));cases h;exact eW [.tmp 0] (b1,l,j,f,d,c) (.inl rfl) results19 (.cons (.tmp rfl) .nil) rfl (cO 6)
def OG (c:Option (List V)) (b:V->Option (List V)) (a:V):Option (List V) := G (decide ((0:Int)<(a.size:Int))) (grd (False) <|grd (0<=(0:Int)/\(0:Int)<=0/\(0:Int)<=(a.size:Int)) <|wE (c6 a 0 0) <|grd (0<=(0:Int)/\(0:Int)<=(a.size:Int)/\((a.size:Int):Int)<=(a.size:Int)) <|b (c6 a 0 (a.size:Int))) (c)
def BS (c0:V) (b:Int) (d:V->Option (List V)) (c:V->Option (List V)) (a:V):Option (List V) := grd (c0=⟨#[10]⟩) <|G (decide (((bx a.data.toList 10):Int)<0)) (d a) (grd (I64 ((bx a.data.toList 10)+b)) <|grd (0<=(0:Int)/\(0:Int)<=((bx a.data.toList 10)+b)/\((bx a.data.toList 10)+b:Int)<=(a.size:Int)) <|wE (c6 a 0 ((bx a.data.toList 10)+b)) <|grd (I64 ((bx a.data.toList 10)+(c0.size:Int))) <|grd (0<=((bx a.data.toList 10)+(c0.size:Int):Int)/\((bx a.data.toList 10)+(c0.size:Int):Int)<=(a.size:Int)/\((a.size:Int):Int)<=(a.size:Int)) <|c (c6 a ((bx a.data.toList 10)+(c0.size:Int)) (a.size:Int)))
def E5 (c0:V) (c1:V) (e:Int):Option (List V) := cm (λ(d:Option (List V))=>G (((c0.size:Int):Int)==0) (cm (λ(c:Option (List V))=>bP (λ_=>none) (OG c) bN c1) (some [])) (d)) (cm (λ(b:V->Option (List V))=>bP (λ_=>none) (BS c0 e b) bN c1) (λ(a:V)=>wE a <|some []))
theorem XH {f:Nat} {c0:V} {c:Nat} {c1:V} {e:Nat} {t:Int} {xs:(List V)} (h:E5 c0 c1 t=some xs):tf prog 98 [zP f,zP c,zP e] (λq:V=>[.string q]) xs [cells f [.string c0] 9,cells c [.string c1] 9,cells e [zI t] 3]:=by
 unfold E5 at h;refine tf.intro func98 rfl ntmps98 (by simp) ?_;intro l w0 K B X  hy;obtain⟨r0,A⟩:∃r,xs=[]++r:=⟨xs,rfl⟩;have Z:xs=r0:=A;rw[Z] at h;refine cJ Unit h 0 rfl (λj1 b=>j1=some r0) (λb=>[]) (λb=>[(0,.func (.yield l) #[] #[]),(1,zP f),(2,zP c),(3,zP e)]) (λb=>[B ([]:List V),cells f [.string c0] 9,cells c [.string c1] 9,cells e [zI t] 3]) (λj1 h cut=>?_) ?_
 ·refine cut (I (bW 1 eJ rfl dc rfl rfl rfl (mw rfl dc rfl am (E rfl eZ (Y (bu rfl h (λh=>?_) (λh=>?_)))))))
  ·refine cJ ((List V)×(List V)) h 0 rfl (λN b=>N=some b.2/\xs=b.1++b.2) (λb=>[]) (λb=>[]) (λb=>[B b.1]) (λN h cut=>?_) ?_
   ·refine cut (ck (n9 (V×(List V)×(List V)) (OG N) (λa b=>a b.1=some b.2.2/\xs=b.2.1++b.2.2) (λb=>[]) (λb=>[(0,.func (.yield l) #[] #[]),(2,zP c)]) (λb=>[B b.2.1,cells c [.string b.1] 9]) (c1,([]:List V),r0) ⟨h,A⟩ rfl (gl rfl) (ct [0,2] kr rfl) ?_));rintro a9 ⟨w,m,L⟩ ⟨h,C⟩;refine bV (I (bW 1 eJ rfl dc rfl rfl rfl (mw rfl dc rfl am (E rfl kF (Y (bu rfl h (λh=>?_) (λh=>?_)))))))
    ·refine bw (cu (ck (I (bW 1 eJ rfl dc rfl rfl rfl (bi h λa4 h=>dF (.tuple #[.int .i32 0,zI 0]) [.string w] rfl dc rfl rfl rfl TB (a4).elim (O 1 rfl (fF rfl dc rfl rfl (fF rfl dc rfl rfl (O 2 rfl (Y (bV (I (O 1 rfl (bW 1 eJ rfl dc rfl rfl rfl (O 1 rfl (bi h λa3 h=>jj rfl dc rfl rfl rfl (lP 0 0 am (.inl ⟨rfl,rfl⟩) (.inr rfl) a3) ?_))))))))))))))));obtain⟨x,W,h⟩:=xS h;have z:xs=m++(c6 w 0 0)::x:=by rw[C,W]
     refine xD 0 hy rfl dc rfl z rfl rfl ?_ ?_
     ·have Q:xs=(m++[c6 w 0 0])++x:=by rw[z];simp
      exact lh rfl dc rfl lj (Y (eU rfl (bw (cu (bX (bW 1 eJ rfl dc rfl rfl rfl (O 1 rfl (bi h λa2 h=>jj rfl dc rfl rfl rfl (lP 0 (w.size:Int) am (.inr rfl) (.inl ⟨rfl,rfl⟩) a2) (fJ 1 [.string (c6 w 0 (w.size:Int))] gV rfl rfl rfl rfl rfl (λ_ _=>rfl) rfl (bC (cg (mD (c6 w 0 (w.size:Int),m++[c6 w 0 0],x) ⟨h,Q⟩ 2))))))))))))
     exact lh rfl dc rfl lj (Y (jy rfl (bO (bZ (cK (bZ (cK (bZ (bZ (xE (ds:=[]) m (c6 w 0 0) x z (.inl rfl) aC qh (cO 1)))))))))))
    exact dG (bS (bS (dH (iW (m,L) ⟨h,C⟩ rfl (ss) (cO 1)))))
   rintro⟨a5,a7⟩ ⟨h,R⟩;refine bO (bZ ?_);cases h;exact zY (ds:=[]) (.inl rfl) aC qh (aI B (R.trans (aE _))) (cO 1)
  exact bw (mD () h 4)
 refine λ_ h=>cJ (V×(List V)×(List V)) h 0 rfl (λM b=>M b.1=some b.2.2/\xs=b.2.1++b.2.2) (λb=>[]) (λb=>[(0,.func (.yield l) #[] #[]),(2,zP c)]) (λb=>[B b.2.1,cells c [.string b.1] 9]) (λM h cut=>?_) ?_
 ·refine cut (ck (fP (V×(List V)×(List V)) (BS c0 t M) (λa b=>a b.1=some b.2.2/\xs=b.2.1++b.2.2) (λb=>[]) (λb=>[(0,.func (.yield l) #[] #[]),(1,zP f),(2,zP c),(3,zP e)]) (λb=>[B b.2.1,cells f [.string c0] 9,cells c [.string b.1] 9,cells e [zI t] 3]) (c1,([]:List V),r0) ⟨h,A⟩ 4 ?_));rintro a8 ⟨d,g,J⟩ ⟨h,y⟩;refine ck (I (bW 2 eJ rfl dc rfl rfl rfl (bW 1 eJ rfl dc rfl rfl rfl (bi h λa1 h=>dF (zI (bx d.data.toList 10)) [.string d,.string c0] rfl dc rfl rfl rfl TD (UI d a1) (O 1 rfl (Y (bV (I (O 1 rfl (E rfl dL (Y (bu rfl h (λh=>dG (bS (Da dc (bS (dH (iW (d,g,J) ⟨h,y⟩ rfl (gl rfl) (ct [0,2] kr rfl))))))) (λh=>bw (cu (I (bW 2 eJ rfl dc rfl rfl rfl (O 1 rfl (bW 3 ed rfl dc rfl rfl rfl (bi h λa0 h=>E rfl (c8 ((bx d.data.toList 10)+t) (ac _ a0)) (bi h λaw h=>jj rfl dc rfl rfl rfl (lP 0 ((bx d.data.toList 10)+t) am (.inl ⟨rfl,rfl⟩) (.inr rfl) aw) (O 1 rfl (Y (bV (I (O 2 rfl ?_)))))))))))))))))))))))));obtain⟨n,hr2,h⟩:=xS h;have s:xs=g++(c6 d 0 ((bx d.data.toList 10)+t))::n:=by rw[y,hr2]
  refine xD 0 hy rfl dc rfl s rfl rfl ?_ ?_
  ·have F:xs=(g++[c6 d 0 ((bx d.data.toList 10)+t)])++n:=by rw[s];simp
   exact lh rfl dc rfl lj (Y (eU rfl (bw (cu (bX (bW 2 eJ rfl dc rfl rfl rfl (O 1 rfl (bW 1 eJ rfl dc rfl rfl rfl (mw rfl dc rfl am (bi h λao h=>E rfl (c8 ((bx d.data.toList 10)+(c0.size:Int)) (ac _ ao)) (bi h λag h=>jj rfl dc rfl rfl rfl (lP ((bx d.data.toList 10)+(c0.size:Int)) (d.size:Int) am (.inr rfl) (.inl ⟨rfl,rfl⟩) ag) (fJ 2 [.string (c6 d ((bx d.data.toList 10)+(c0.size:Int)) (d.size:Int))] gV rfl rfl rfl rfl rfl (λ_ _=>rfl) rfl (bC (cg (mD (c6 d ((bx d.data.toList 10)+(c0.size:Int)) (d.size:Int),g++[c6 d 0 ((bx d.data.toList 10)+t)],n) ⟨h,F⟩ 4)))))))))))))))
  exact lh rfl dc rfl lj (Y (jy rfl (bO (bZ (cK (bZ (cK (bZ (xE (ds:=[]) g (c6 d 0 ((bx d.data.toList 10)+t)) n s (.inl rfl) aC qh (cO 1))))))))))
 rintro⟨H,u,a6⟩ ⟨h,P⟩;refine bX (O 1 rfl (bW 1 eJ rfl dc rfl rfl rfl ?_));obtain⟨o,S,h⟩:=xS h;have p:xs=u++H::o:=by rw[P,S]
 refine xD 0 hy rfl dc rfl p rfl rfl ?_ ?_
 ·have D:xs=(u++[H])++o:=by rw[p];simp
  refine bC ?_;cases h;exact zY (ds:=[]) (.inr rfl) aC qh (aI B (D.trans (aE _))) (cO 1)
 exact bC (xE (ds:=[]) u H o p (.inr rfl) aC qh (cO 1))
def IE (c:V) (b:V) (a:Int):Option (V×V×Int) := some (b,c,a)
theorem XI {d:V} {c:V} {a:Int} {r:(V×V×Int)} (h:IE d c a=some r):Fn prog 51 [.string d,.string c,zI a] [] (λb:Nat×Nat×Nat=>.func (.func 98) #[] #[zP b.1,zP b.2.1,zP b.2.2]) (λb=>[cells b.1 [.string r.1] 9,cells b.2.1 [.string r.2.1] 9,cells b.2.2 [zI r.2.2] 3]):=by
 unfold IE at h;refine Fn.intro func51 rfl ntmps51 (by simp) (λw0 K=>I (lE rfl dc rfl (λb1=>lE rfl dc rfl (λf=>lE rfl dc rfl (λe=>O 1 rfl (cw (xC [] [.tmp 4,.tmp 3,.tmp 5] rfl dc rfl rfl (O 1 rfl (Y (bO ?_))))))))));cases h;exact eW [.tmp 6] (f,b1,e) (.inl rfl) results51 (.cons (.tmp rfl) .nil) rfl (ct [1,0,2] kr rfl)
def OH (b:V) (a:V):Option (V×V×Int) := T (IE b a 0) λ(r1:(V×V×Int))=>some (r1.1,r1.2.1,r1.2.2)
theorem XJ {c:V} {a:V} {r:(V×V×Int)} (h:OH c a=some r):Fn prog 20 [.string c,.string a] [] (λb:Nat×Nat×Nat=>.func (.func 98) #[] #[zP b.1,zP b.2.1,zP b.2.2]) (λb=>[cells b.1 [.string r.1] 9,cells b.2.1 [.string r.2.1] 9,cells b.2.2 [zI r.2.2] 3]):=by
 refine Fn.intro func20 rfl ntmps20 (by simp) (λw0 K=>I (O 1 rfl (cw (O 2 rfl (aU h λr1 d h=>ir [.string c,.string a,zI 0] rfl dc rfl rfl rfl Td (XI d) aC ?_)))));rintro⟨b1,f,e⟩;refine O 1 rfl (Y (bO ?_));cases h;exact eW [.tmp 4] (b1,f,e) (.inl rfl) results20 (.cons (.tmp rfl) .nil) rfl (cO 3)
def xg (x1:dq) (a:(List dq)->Option (List dq)) (b:List dq):Option (List dq) := grd (b.length+1<=2147483648) <|a (b++[x1])
def IF (a:V):Option (List dq) := cm (λ(f:(List dq)->Option (List dq))=>T (uN a) λ(b:(List dq))=>cm (λ(c:(List dq)->Option (List dq))=>jZ c (xg) b ([]:List dq)) (λ(d:List dq)=>f d)) (λ(e:List dq)=>some e)
theorem XK (_x:Nat) {d:V} {r:(List dq)} (h:IF d=some r):Fn prog 138 [.slice none 0 0,.func (.func 135) #[] #[zP _x]] [cells _x [.string d] 9] (λv0:Value=>v0) (λv0=>[cells _x [.string d] 9,rh v0 r]):=by
 refine Fn.intro func138 rfl ntmps138 (by simp) (λw0 K=>vm (cJ ((List dq)×Nat×Value×(List Nat)) h 1 rfl (λF b=>F b.1=some r) (λb=>qW b.2.2.2) (λb=>[(2,zP b.2.1)]) (λb=>[cells _x [.string d] 9,cells b.2.1 [b.2.2.1] 99,rh b.2.2.1 b.1,iR ((b.2.2.2:List Nat).map iJ)]) (λF h cut=>?_) ?_))
 ·refine I (Kz (λ_ _=>rfl) rfl dc rfl (λv=>O 1 rfl (Y (cut (I (O 1 rfl (Y (ck (aU h λs A h=>oL qs 102 4 (tg h λo u h=>wx dq ((List dq)×Value) Unit Nat [7] Ro.nil rfl AA (BB A) (λpre b=>∀post,s=pre++post->jZ o (xg) post b.1=some r) (λpre b=>[cells v [b.2] 99,rh b.2 b.1]) (λc pre g=>False) (λc pre g=>[]) (λpre x b j=>[(2,zP v),(4,.slice none 0 0),(6,.func (.func 135) #[] #[zP _x]),(5,zP j)]) (λpre x b j=>[cells v [b.2] 99,rh b.2 b.1,cells j (fC x) 102]) (([]:List dq),(.slice none 0 0)) (λpost e=>by rw[bj] at e;subst e;exact h) (ct [2,3] kr rfl) ⟨.inl ⟨0,rfl⟩,trivial⟩ (λ_=>rfl) dc ?_ ?_ ?_ ?_))))))))))
  ·rintro J H pre x1 post ⟨n,q⟩ w1 S l t z f;exact bX (fZ rb rfl dc (λR=>fI 2 (fC x1) (fC x1) mg rfl rfl rfl rfl rfl (show _<=_ by simp) rfl rfl (bC (λa w ha N=>⟨R,(gl rfl) _ _ _ ha,N.weaken (cO 3)⟩))))
  ·rintro J H pre x1 i ⟨n,q⟩ L w1 S l t z f;have h:=f (x1::i) l;obtain⟨C,m⟩:∃ag,ag=jZ o (xg) i:=⟨_,rfl⟩;have h:xg x1 C n=some r:=by have h2:=h;rw[qn,<-m] at h2;exact h2
   exact ck (bX (bW 0 LH rfl dc rfl rfl rfl (ju 2 (fC x1) nm rfl dc rfl rfl rfl rfl (hQ [(0,.tmp 9)] 102 (fC x1) rfl dc rfl (λ_=>by kernel_rfl) (λX=>bi h λB h=>jJ 1 3 [x1] underlying99 LK DX MB rfl dc rfl rfl rfl rfl rfl rfl B (λD=>fJ 0 [D] SB rfl rfl rfl rfl rfl (λ_ h=>Ri h (k:=1) rfl) rfl (bC (cg (nz (n++[x1],D) (λy e2=>by have Q:=nA l e2;subst Q;subst m;exact h) (cO 2))))))))))
  ·rintro p ⟨n,q⟩ f;have h:o n=some r:=f [] (aE _).symm;rw[u] at h;show TX _ _ _ _ _ _ _ [cells _x [.string d] 9,iR ((([]:List Nat):List Nat).map iJ),cT,cT,cells v [q] 99,rh q n,iJ p];exact vl 6 1 rfl rfl dc (cg (iW (n,v,q,p::([]:List Nat)) h rfl (gl rfl) (ct [0,4,5,1] kr rfl)))
  exact λp c pre x1 post g M P=>(show False from P).elim
 rintro⟨W,b1,v1,ds1⟩ h;refine I (bW 1 LH rfl dc rfl rfl rfl (O 1 rfl (Y (bO ?_))));cases h;exact sw [.tmp 4] ds1 v1 (.inl rfl) (sq 3 rfl) results138 (.cons (.tmp rfl) .nil) rfl (ct [0,2] kr rfl)
def IG (a:V):Option (List dq) := T (IF a) λ(r1:(List dq))=>some r1
theorem XL (_x:Nat) {a:V} {r:(List dq)} (h:IG a=some r):Fn prog 108 [.func (.func 135) #[] #[zP _x]] [cells _x [.string a] 9] (λv0:Value=>v0) (λv0=>[cells _x [.string a] 9,rh v0 r]):=by
 refine Fn.intro func108 rfl ntmps108 (by simp) (λw0 K=>I (O 1 rfl (cw (O 1 rfl (aU h λr1 b h=>ir [.slice none 0 0,.func (.func 135) #[] #[zP _x]] rfl dc rfl rfl rfl TV (XK _x b) (cO 1) (λv1=>O 1 rfl (Y (bO ?_))))))));cases h;exact eW [.tmp 2] v1 (.inl rfl) results108 (.cons (.tmp rfl) .nil) rfl (ct [1,2] kr rfl)
def BT (a:List Int) (d:Option Int) (c:Int->Option Int) (b:Int):Option Int := G (decide ((b:Int)<(a.length:Int))) (T (cj a b) λ(q1:Int)=>G ((q1:Int) != 0) (some q1) (grd (I64 (b+1)) <|c (b+1))) (d)
def E6 (a:List Int):Option Int := cm (λ(b:Option Int)=>bP (λ_=>none) (BT a b) bN 0) (some 0)
theorem XM {g d:Value} {k:List Int} {f:Nat} {e:List Int} (c:Vw g k 1 f d e) {r:Int} (h:E6 e=some r):gu prog 65 [d] [iM (mK (.i64)) 1 g f k] [] (λ_:Unit=>(zI r)) (λ_=>[]):=by
 refine gu.intro func65 rfl ntmps65 (by simp) (λw0 K p=>cJ Unit h 2 rfl (λo b=>o=some r) (λb=>[]) (λb=>[(3,zI 0)]) (λb=>[]) (λo h cut=>?_) ?_)
 ·refine I (O 1 rfl (cw (O 1 rfl (Y (cut (I (O 1 rfl (jl c rfl dc rfl underlying29 (O 1 rfl (Y (ck (fP Int (BT e o) (λa b=>a b=some r) (λb=>[]) (λb=>[(3,zI 0),(6,d),(7,zI (e.length:Int)),(8,zI b)]) (λb=>[]) 0 h 0 (λt m h=>I (E rfl dL (Y (bV (bu rfl h (λh=>?_) (λh=>?_))))))))))))))))))
  ·refine bw (cu (bV (ck (I (aU h λq1 l h=>gm c l underlying29 gL rfl dc rfl rfl rfl (km 0 (f+(m:Int).toNat) 0 q1 p rfl z1 ed rfl dc rfl (cq c l) rfl rfl (O 1 rfl (cw (O 2 rfl (E rfl nh (Y (bu rfl h (λh=>?_) (λh=>?_)))))))))))))
   ·refine I (O 2 rfl (Y (bO (cK (bZ (bZ (cK (bZ ?_))))))));cases h;exact dt 2 results65
   exact bw (cg (cu (bX (bi h λs h=>E rfl (c8 (m+1) (ac _ s)) (O 1 rfl (bC (mD (m+1) h 0)))))))
  exact dG (bS (bS (dH (mD () h 0))))
 refine λ_ h=>I (O 2 rfl (Y (bO ?_)));cases h;exact dt 2 results65
def BU (x1:Int):Option Bool := some ((x1:Int) != x1)
theorem OI {x1:Int} {r:Bool} (h:BU x1=some r):eO prog 111 [zI x1] (.bool r):=by
 unfold BU at h;refine eO.intro func111 rfl ntmps111 (by simp) (λw0 K=>I (O 1 rfl (cw (O 2 rfl (E rfl nh (O 1 rfl (Y (bO ?_))))))));cases h;exact dt 2 results111
def IH (x1:Int) (a:Int):Option Int := T (BU x1) λ(r1:Bool)=>T (BU a) λ(r2:Bool)=>G (r1) (G (r2) (some 0) (some (-1))) (G (r2) (some 1) (G (decide ((x1:Int)<a)) (some (-1)) (G (decide ((a:Int)<x1)) (some 1) (some 0))))
theorem XN {x1:Int} {a:Int} {r:Int} (h:IH x1 a=some r):eO prog 66 [zI x1,zI a] (zI r):=by
 refine eO.intro func66 rfl ntmps66 (by simp) (λw0 K=>I (O 1 rfl (cw (O 1 rfl (aU h λr1 c h=>dF (.bool r1) [zI x1] rfl dc rfl rfl rfl Mk (OI c) (O 1 rfl (cw (O 1 rfl (aU h λr2 b h=>dF (.bool r2) [zI a] rfl dc rfl rfl rfl Mk (OI b) (O 1 rfl (Y (bV (I (O 1 rfl (Y (bu rfl h (λh=>?_) (λh=>?_)))))))))))))))))
 ·refine bV (I (O 1 rfl (Y (bu rfl h (λh=>?_) (λh=>?_)))))
  ·refine I (O 1 rfl (Y (bO (bZ (bZ ?_)))));cases h;exact dt 4 nK
  refine bw (cu (I (O 1 rfl (Y (bO (bZ ?_))))));cases h;exact dt 4 nK
 refine bw (cu (bV (I (O 1 rfl (Y (bu rfl h (λh=>?_) (λh=>?_)))))))
 ·refine I (O 1 rfl (Y (bO (bZ ?_))));cases h;exact dt 4 nK
 refine bw (cu (bV (I (O 2 rfl (E rfl dL (Y (bu rfl h (λh=>?_) (λh=>?_))))))))
 ·refine I (O 1 rfl (Y (bO (bZ ?_))));cases h;exact dt 4 nK
 refine bw (cu (bV (I (O 2 rfl (E rfl kF (Y (bu rfl h (λh=>?_) (λh=>?_))))))))
 ·refine I (O 1 rfl (Y (bO (bZ ?_))));cases h;exact dt 4 nK
 refine bw (cu (I (O 1 rfl (Y (bO ?_)))));cases h;exact dt 4 nK
end Go.Proofs.YtncjnoakkghmmaaGreatDoor
