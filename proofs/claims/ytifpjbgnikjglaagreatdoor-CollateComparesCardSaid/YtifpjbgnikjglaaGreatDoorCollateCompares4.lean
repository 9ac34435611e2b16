/-
  Texts laid together: LfU, Qe, LfW2, LfS, Qf, Qg, Qh, Qk, LfW0, LfW1, LfSa, LfFa, Qi, LfG2, LfW3, LfSg, LfF2, Qj, Qw, Qs, Qp, Qu, Qz, LpR, LcA, LcB, LcC, LcS. Nothing is assumed.
-/
import Derived.Test.YtifpjbgnikjglaaGreatDoorCollateCompares3
import Derived.Test.YtifpjbgnikjglaaGreatDoorCollateCompares2
set_option maxRecDepth 100000
set_option maxHeartbeats 4000000
namespace Go.Proofs.YtifpjbgnikjglaaGreatDoor
open Go.RowKit Go.Lib
open Tryz
set_option linter.unusedVariables false
set_option linter.unusedSimpArgs false
open _root_.Array renaming length_toList→cU,toList_inj→fA
open _root_.Bool renaming false_eq_true→bj,and_eq_true→aQ,eq_iff_iff→dJ
open _root_.ByteArray renaming empty→ac,empty_append→dD,append_assoc→de,size_append→aE
open _root_.Go.IntWalk renaming i64_in→ai
open _root_.Go.Lib renaming extract_data→nh
open _root_.Go.Proofs.Tryz renaming underlying9→an,underlying120→eT,underlying103→bp,underlying46→cg
open dh renaming nil→iF
open Hd renaming nil→eB
open aq renaming nil→ah
open Vw renaming get→ce
open evP renaming cons→fJ,nil→qG
open _root_.Go.Utf8 renaming encode→ae
open _root_.Go.Value renaming int→aB,agg→bl
open _root_.List renaming nil_append→bg,append_nil→aH,getElem?_eq_getElem→aJ,drop_eq_getElem_cons→aR,drop_length→gp,foldl_cons→bn,length_cons→ab,mem_cons_self→ar,mem_append→bY,mem_of_getLast?→qH,mem_map→aU,mem_cons_of_mem→ak,cons_append→aX,map_cons→av,flatMap_cons→aG,map_map→cn,map_nil→ed,mem_of_getElem?→aP,mem_flatMap→iI,mem_cons→bo,eq_nil_of_length_eq_zero→ck,takeWhile_cons→aW,takeWhile_append_dropWhile→dS,length_append→aa,mem_filter→cq,length_map→az,map_append→cM
open _root_.Nat renaming zero_le→bG,add_mul→c8,one_mul→jO,le_refl→bq
open _root_.Option renaming toList_none→qI
open _root_.Prod renaming fst→bw
def zez (j:Int→Int→Int→(List Int)→(List Int)→Option (List c6)) (h:(List Int)) (i:Int→Int→Int→(List Int)→(List Int)→Int→Option (List c6)) (e:Int) (d:Int) (c:Int) (b:List Int) (a:List Int) (g:Int):Option (List c6) := aN (decide ((g:Int)<((dK h 1 (h.length:Int)).length:Int))) (aT (zca (dK h 1 (h.length:Int)) g) fun (q2:Int)=>aT (wN (⟨e,d,c,b,a⟩:c6) q2) fun (f:c6)=>aV (cr (g+1)) <|i f.at_ f.broken f.base f.low f.high (g+1)) (j e d c b a)
def zfF (k:ad) (r1:((List (zan×Int))×(List (Int×zan)))) (x1:cY) (b:(List c6)→Option (List c6)) (a:List c6):Option (List c6) := aN (x1.Broken) (aT (jQ k x1.At) fun (c1:Int)=>aV (a.length+1≤2147483648) <|b (a++[(⟨x1.At,c1,(-1),([]:List Int),([]:List Int)⟩:c6)])) (co (fun (d:Option (List c6))=>aN (decide ((0:Int)<(a.length:Int))) (aV (cr ((a.length:Int)-1)) <|aT (zca a ((a.length:Int)-1)) fun (x2:c6)=>aT (sS x2) fun (r3:Bool)=>aN (r3) (aV (fB x1.Rune) <|aN (((kind x1.Rune):Int)==2) (aV (cr ((a.length:Int)-1)) <|aT (zca a ((a.length:Int)-1)) fun (f:c6)=>aT (wN f x1.Rune) fun (m:c6)=>b (a.set ((a.length:Int)-1:Int).toNat m)) (d)) (d)) (d)) (co (fun (e:Int→Int→Int→(List Int)→(List Int)→Option (List c6))=>aT (sS (⟨x1.At,0,x1.Rune,([]:List Int),([]:List Int)⟩:c6)) fun (l:Bool)=>aN (l) (aT (uV r1.2 x1.Rune) fun (c:(List Int))=>aT (zca c 0) fun (q1:Int)=>aV (0≤(1:Int)∧(1:Int)≤(c.length:Int)∧((c.length:Int):Int)≤(c.length:Int)) <|zaC (fun _ _ _ _ _ _=>none) (zez e c) zbx x1.At 0 q1 ([]:List Int) ([]:List Int) 0) (e x1.At 0 x1.Rune ([]:List Int) ([]:List Int))) (fun (u1:Int) (j:Int) (i:Int) (h:List Int) (g:List Int)=>aV (a.length+1≤2147483648) <|b (a++[(⟨u1,j,i,h,g⟩:c6)]))))
def tY (c:ad):Option (List c6) := co (fun (f:(List c6)→Option (List c6))=>aT (wP) fun (r1:((List (zan×Int))×(List (Int×zan))))=>aT (vc c) fun (r2:ad)=>aT (sW r2) fun (a:(List cY))=>co (fun (b:(List c6)→Option (List c6))=>zdZ b (zfF c r1) a ([]:List c6)) (fun (d:List c6)=>f d)) (fun (e:List c6)=>some e)
theorem Er {A:ad} {r:(List c6)} (h:tY A=some r):Fn prog 76 [.string A] [] (fun v0:Value=>v0) (fun v0=>[nm l8 iH 123 5 v0 r]):=by
 unfold tY at h
 refine Fn.intro func76 rfl ntmps76 (by simp) (fun w0 K=>zjD (zyG (zfq rfl dc rfl (fun b1=>zyR 1 rfl (zyN (zvE (β:=Unit) (l:=0) (fun _=>False) (fun _=>[]) (fun _=>[]) rfl ?_ ?_))))))
 ·refine zbq h fun j1 d2 h=>zaL (β:=(List c6)×Nat×Hd×(List Nat)) 3 rfl (fun b=>j1 b.1=some r) (fun b=>po b.2.2.2) (fun b=>[(5,zP b.2.1)]) (fun b=>[cells b.2.1 [b.2.2.1.v] 120,nm l8 iH 123 5 b.2.2.1.v b.1,ziH ((b.2.2.2:List Nat).map gL)]) (fun cut=>?_) ?_
  ·refine zyG (zbk h fun r1 dT h=>zbN (vs:=[]) rfl dc rfl rfl rfl Dt (D9 dT) ah ?_)
   rintro⟨b3,t⟩
   refine zyR 1 rfl (eY rfl dc rfl rfl (eY rfl dc rfl rfl (zbi Hn rfl dc (fun G=>zyR 1 rfl (eP (k:=4) (l':=[.map (some t)]) Hm rfl rfl rfl rfl rfl (fun _ _=>rfl) rfl (zyH (zbi NL rfl dc (fun B=>zyN (zaJ (Gg (zaz (cut (zyG (zas (k:=1) dU rfl dc rfl rfl rfl (zbk h fun r2 ds h=>zbN (vs:=[.string A]) rfl dc rfl rfl rfl yh (y9 ds) ah (fun b7=>zyN (zat (zbk h fun bh dn h=>Nj (enc:=l8) (nest:=iH) (e:=123) (size:=5) (zbq h fun a9 c2 h=>ux (α:=cY) (β:=(List c6)×Hd) (γ:=Unit) (δ:=Nat) (ps:=[18]) Ro.nil rfl yj (y8 dn) (fun pre b=>∀post,bh=pre++post→zdZ a9 (zfF A r1) post b.1=some r) (fun pre b=>[cells b1 [.string A] 9,cells G [.map (some t)] 116,cz (fun n:Int=>aB .i32 n) (fun p:zan=>bl #[.int .i32 p.e0,.int .i32 p.e1]) t r1.2,cells B [b.2.v] 120,nm l8 iH 123 5 b.2.v b.1]) (fun c pre g=>False) (fun c pre g=>[]) (fun pre x b j=>[(1,zP b1),(2,.slice none 0 0),(4,zP G),(5,zP B),(17,.func (.func 154) #[] #[zP b7]),(6,zP j)]) (fun pre x b j=>[cells b1 [.string A] 9,cells G [.map (some t)] 116,cz (fun n:Int=>aB .i32 n) (fun p:zan=>bl #[.int .i32 p.e0,.int .i32 p.e1]) t r1.2,cells B [b.2.v] 120,nm l8 iH 123 5 b.2.v b.1,cells j [zI x.At,zI x.Width,.int .i32 x.Rune,.bool x.Broken] 132]) (([]:List c6),eB) (fun post e=>by rw[bg] at e;subst e;exact h) (bW [1,4,3,5,7] kr rfl) ⟨.inl ⟨6,rfl⟩,trivial⟩ (fun _=>rfl) dc ?_ ?_ ?_ ?_)))))))))))))))))))
   ·rintro lp rc pre x1 post ⟨o,f⟩ w1 K1 C c0 db I
    exact bX (zbi zjr rfl dc (fun b8=>eE (k:=5) (vs:=[zI x1.At,zI x1.Width,.int .i32 x1.Rune,.bool x1.Broken]) (l':=[zI x1.At,zI x1.Width,.int .i32 x1.Rune,.bool x1.Broken]) kM rfl rfl rfl rfl rfl (show _≤_ by simp) rfl rfl (zaB (fun a w ha hw=>⟨b8,(bI rfl) _ _ _ ha,hw.weaken (cp 6)⟩))))
   ·rintro lp rc pre x1 V ⟨o,f⟩ y w1 K1 C c0 db I
    have h:=I (x1::V) C
    obtain⟨es,J⟩:∃ag,ag=zdZ a9 (zfF A r1) V:=⟨_,rfl⟩
    have h:zfF A r1 x1 es o=some r:=by have h2:=h;rw[oH,←J] at h2;exact h2
    unfold zfF at h
    refine zat (zaJ (zyG (zab AK rfl dc rfl (show _=3 from rfl) (zas (k:=5) qS rfl dc rfl rfl rfl (zyN (zyB rfl h (fun h=>?_) (fun h=>?_)))))))
    ·refine zaJ (zbk h fun c1 b0 h=>zbs h fun d8 h=>Aj (β:=Nat) 9 8 _ [(0,21,f.v),(1,22,zP y),(2,23,zI x1.At),(3,24,.string A),(4,25,zP y),(5,26,zI x1.At),(6,27,.int .u8 c1),(7,28,.agg #[zI x1.At,.int .u8 c1,.int .i32 (-1),.slice none 0 0,.slice none 0 0])] (fun b9=>[(29,.slice (some ⟨b9,0,none⟩) 1 1)]) (fun b9=>[cells b1 [.string A] 9,cells G [.map (some t)] 116,cz (fun n:Int=>aB .i32 n) (fun p:zan=>bl #[.int .i32 p.e0,.int .i32 p.e1]) t r1.2,cells B [f.v] 120,nm l8 iH 123 5 f.v o,cells y [zI x1.At,zI x1.Width,.int .i32 x1.Rune,.bool x1.Broken] 132,cells b9 [zI x1.At,.int .u8 c1,.int .i32 (-1),.slice none 0 0,.slice none 0 0] 123]) mixed kr kr rfl dc dc (by rfl) kr kr (gQ (fun D n d c u i=>zas (k:=3) uF rfl dc (zbA (by rfl) rfl) rfl rfl (zaN 0 u i)) (gQ (fun D n d c u i=>zab zd2 rfl dc (zbA (by rfl) rfl) (show _=0 from rfl) (zaN 1 u i)) (gQ (fun D n d c u i=>zas (k:=5) dO rfl dc (bt 1 u d) rfl rfl (zaN 2 u i)) (gQ (fun D n d c u i=>zas (k:=0) dU rfl dc (zbA (by rfl) rfl) rfl rfl (zaN 3 u i)) (gQ (fun D n d c u i=>zab zd2 rfl dc (zbA (by rfl) rfl) (show _=0 from rfl) (zaN 4 u i)) (gQ (fun D n d c u i=>zas (k:=5) dO rfl dc (bt 4 u d) rfl rfl (zaN 5 u i)) (gQ (fun D n d c u i=>nj rfl dc (bt 3 u d) (bt 5 u d) (pq an b0) (zaN 6 u i)) (gQ (fun D n d c u i=>zbf (v:=.agg #[zI x1.At,.int .u8 c1,.int .i32 (-1),.slice none 0 0,.slice none 0 0]) (ps:=[(0,.tmp 23),(1,.tmp 27),(2,.const (.int .i32 (-1)))]) rfl dc (fJ (bt 2 u d) (fJ (bt 6 u d) (fJ rfl qG))) (fun _=>by kernel_rfl) (zaN 7 u i)) (tD iF))))))))) (fun b9=>(gQ (fun D n d c u i=>zas (k:=3) uF rfl dc (zbA (by rfl) rfl) rfl rfl (zaN 0 u i)) (gQ (fun D n d c u i=>zab zd2 rfl dc (zbA (by rfl) rfl) (show _=0 from rfl) (zaN 1 u i)) (gQ (fun D n d c u i=>zas (k:=5) dO rfl dc (bt 1 u d) rfl rfl (zaN 2 u i)) (gQ (fun D n d c u i=>zas (k:=0) dU rfl dc (zbA (by rfl) rfl) rfl rfl (zaN 3 u i)) (gQ (fun D n d c u i=>zab zd2 rfl dc (zbA (by rfl) rfl) (show _=0 from rfl) (zaN 4 u i)) (gQ (fun D n d c u i=>zas (k:=5) dO rfl dc (bt 4 u d) rfl rfl (zaN 5 u i)) (gQ (fun D n d c u i=>nj rfl dc (bt 3 u d) (bt 5 u d) (pq an b0) (zaN 6 u i)) (gQ (fun D n d c u i=>zbf (v:=.agg #[zI x1.At,.int .u8 c1,.int .i32 (-1),.slice none 0 0,.slice none 0 0]) (ps:=[(0,.tmp 23),(1,.tmp 27),(2,.const (.int .i32 (-1)))]) rfl dc (fJ (bt 2 u d) (fJ (bt 6 u d) (fJ rfl qG))) (fun _=>by kernel_rfl) (zaN 7 u i)) (tD iF)))))))))) (fun D hn hd ex=>fx (cs:=[zI x1.At,.int .u8 c1,.int .i32 (-1),.slice none 0 0,.slice none 0 0]) (te:=123) (ps:=[(0,.tmp 28)]) rfl dc (fJ (jX (m:=7) kr rfl (hd 7 dc)) qG) (fun _=>by kernel_rfl) (fun b9=>fun a w ha hw=>⟨b9,Gq (by rfl) _ _ _ ha,hw⟩)) (fun b9=>vH (enc:=(kV (.i32))) (e:=21) (size:=1) (vH (enc:=(kV (.i32))) (e:=21) (size:=1) (qR (k:=4) rfl vT (fun c4 bs=>iT (k:=4) (k2:=6) (ys:=[((⟨x1.At,c1,(-1),([]:List Int),([]:List Int)⟩:c6),(eB,eB))]) eT Hq pu Ib rfl dc rfl rfl rfl rfl rfl rfl (by rw[CY bs];exact d8) (fun v1=>iB (k:=4) rfl (fun a8 eb=>?_)))))))
     subst eb
     exact xU (k:=9) rfl (bW [7,8] kr rfl) rfl (GS (nest:=iH) (zs:=c4) (z:=((⟨x1.At,c1,(-1),([]:List Int),([]:List Int)⟩:c6),(eB,eB)))) (xU (k:=4) rfl (bW [9] kr rfl) rfl (xV (enc:=l8) (nest:=iH) (GT bs)) (mn (L':=[cells b1 [.string A] 9,cells G [.map (some t)] 116,cz (fun n:Int=>aB .i32 n) (fun p:zan=>bl #[.int .i32 p.e0,.int .i32 p.e1]) t r1.2,cells B [f.v] 120,nm l8 iH 123 5 a8.v (o++[(⟨x1.At,c1,(-1),([]:List Int),([]:List Int)⟩:c6)]),cells y [zI x1.At,zI x1.Width,.int .i32 x1.Rune,.bool x1.Broken] 132,cells b9 [zI x1.At,.int .u8 c1,.int .i32 (-1),.slice none 0 0,.slice none 0 0] 123]) (cp 7) (eP (k:=3) (l':=[a8.v]) Ho rfl rfl rfl rfl rfl (fun _ _=>rfl) rfl (zyN (dy (bV (dz (lY (o++[(⟨x1.At,c1,(-1),([]:List Int),([]:List Int)⟩:c6)],a8) (fun U e2=>by have e9:=l0 C e2;subst e9;subst J;exact h) (cp 5)))))))))
    refine zap (zaz (zbq h fun j2 d1 h=>zaL (β:=Unit) 0 rfl (fun b=>j2=some r) (fun b=>[]) (fun b=>[(1,zP b1),(2,.slice none 0 0),(4,zP G),(5,zP B),(6,zP y),(17,.func (.func 154) #[] #[zP b7])]) (fun b=>[cells b1 [.string A] 9,cells G [.map (some t)] 116,cz (fun n:Int=>aB .i32 n) (fun p:zan=>bl #[.int .i32 p.e0,.int .i32 p.e1]) t r1.2,cells B [f.v] 120,nm l8 iH 123 5 f.v o,cells y [zI x1.At,zI x1.Width,.int .i32 x1.Rune,.bool x1.Broken] 132]) (fun cut=>?_) ?_))
    ·refine cut (zyG (zas (k:=3) uF rfl dc rfl rfl rfl (MW (k:=4) rfl dc rfl rfl eT (zyR 1 rfl (zyH (zyR 1 rfl (zaT rfl zd4 (zyR 1 rfl (zyS (s:=35) rfl h (fun h=>?_) (fun h=>?_))))))))))
     ·refine zas (k:=3) uF rfl dc rfl rfl rfl (zyR 1 rfl (zbs h fun d7 h=>zaT rfl (k9 (r:=(o.length:Int)-1) (ai _ d7)) (qR (k:=4) rfl vT (fun T W=>zbk h fun x2 dj h=>?_))))
      obtain⟨⟨a2,a1⟩,S⟩:=xX W dj
      refine eJ (k:=4) S eT sI rfl dc rfl rfl rfl rfl (mj (i:=((o.length:Int)-1:Int).toNat) (j:=0) (k:=4) (q:=(x2,(a2,a1))) (cs:=[zI x2.at_,.int .u8 x2.broken,.int .i32 x2.base,a2.v,a1.v]) qU pu rfl dc rfl rfl (ei S) rfl rfl rfl (qR (k:=6) rfl (xW (ei S)) (fun _ _=>zbk h fun r3 di h=>oJ (v:=.bool r3) (vs:=[.agg #[zI x2.at_,.int .u8 x2.broken,.int .i32 x2.base,a2.v,a1.v]]) rfl dc rfl rfl rfl AP (Bg (u1:=x2) (_j:=a2) (_i:=a1) di) [7,8] kr rfl (zyR 2 rfl (zyS (s:=43) rfl h (fun h=>?_) (fun h=>?_))))))
      ·refine zab qu rfl dc rfl (show _=2 from rfl) (zas (k:=5) eZ rfl dc rfl rfl rfl (zbs h fun cv h=>zaI (v:=zI (kind x1.Rune)) (vs:=[.int .i32 x1.Rune]) rfl dc rfl rfl rfl Dz (nC fun w=>yq x1.Rune w cv.1 cv.2) (zaT rfl zbm (zyR 1 rfl (zyN (zyB rfl h (fun h=>?_) (fun h=>?_)))))))
       ·refine zaJ (Nd (k:=6) rfl (bW [7,8] kr rfl) rfl (uD (nest:=iH) (ei S) rfl) (zbs h fun d6 h=>zbk h fun x3 dg h=>?_))
        obtain⟨⟨ek,eg⟩,a0⟩:=xX W dg
        refine zbk h fun r4 df h=>zcI 6 [(0,49,f.v),(1,50,zI (o.length:Int)),(2,51,zI ((o.length:Int)-1)),(3,52,.pointer (some ⟨eO f.v,((o.length:Int)-1:Int).toNat*5,none⟩)),(4,53,.pointer (some ⟨y,2,none⟩)),(5,54,.int .i32 x1.Rune)] mixed kr kr dc (by rfl) kr kr (zac (fun D n d c u i=>zas (k:=3) uF rfl dc (zbA (by rfl) rfl) rfl rfl (zaN 0 u i)) (zyP 1 1 rfl (zac (fun D n d c u i=>mh rfl dc (bt 1 u d) rfl (k9 (r:=(o.length:Int)-1) (ai _ d6)) (zaN 2 u i)) (zac (fun D n d c u i=>eJ (k:=4) a0 eT sI rfl dc (bt 0 u d) (bt 2 u d) rfl rfl (zaN 3 u i)) (zac (fun D n d c u i=>zab qu rfl dc (zbA (by rfl) rfl) (show _=2 from rfl) (zaN 4 u i)) (zac (fun D n d c u i=>zas (k:=5) eZ rfl dc (bt 4 u d) rfl rfl (zaN 5 u i)) bR.nil)))))) (qR (k:=6) rfl (xW (ei a0)) (fun _ _=>zbN (vs:=[.pointer (some ⟨eO f.v,((o.length:Int)-1:Int).toNat*5,none⟩),.int .i32 x1.Rune]) rfl dc rfl rfl rfl HS (IG (_r:=f.v) (u1:=x3) (_j:=ek) (_i:=eg) (ei a0) df) (bW [4,9,10] kr rfl) ?_))
        rintro⟨Y,X⟩
        exact mn (L':=[cells b1 [.string A] 9,cells G [.map (some t)] 116,cz (fun n:Int=>aB .i32 n) (fun p:zan=>bl #[.int .i32 p.e0,.int .i32 p.e1]) t r1.2,cells B [f.v] 120,np f.v (T.set (((o.length:Int)-1:Int).toNat) (r4,(Y,X))),cells y [zI x1.At,zI x1.Width,.int .i32 x1.Rune,.bool x1.Broken] 132,own iH (T.eraseIdx (((o.length:Int)-1:Int).toNat)),cE,cE,cE,cE,eA Y.v r4.low,eA X.v r4.high]) (bW [0,1,2,3,11,5,6,7,8,9,10,12,13] kr rfl) (xU (k:=6) rfl (bW [11,12] kr rfl) rfl (uD (nest:=iH) (zs:=T) (z:=(r4,(Y,X))) (Ng (ei a0)) Nh) (mn (L':=[cells b1 [.string A] 9,cells G [.map (some t)] 116,cz (fun n:Int=>aB .i32 n) (fun p:zan=>bl #[.int .i32 p.e0,.int .i32 p.e1]) t r1.2,cells B [f.v] 120,np f.v (T.set (((o.length:Int)-1:Int).toNat) (r4,(Y,X))),cells y [zI x1.At,zI x1.Width,.int .i32 x1.Rune,.bool x1.Broken] 132,own iH (T.set (((o.length:Int)-1:Int).toNat) (r4,(Y,X))),cE,cE]) (cp 9) (zyN (dy (bV (dz (tK (k:=4) rfl (bW [6] kr rfl) rfl (xV (enc:=l8) (nest:=iH) (Nf W)) (lY (o.set ((o.length:Int)-1:Int).toNat r4,f) (fun U e2=>by have e9:=l0 C e2;subst e9;subst J;exact h) (cp 5)))))))))
       exact zap (tK (k:=6) rfl (bW [7,8] kr rfl) rfl (uD (nest:=iH) (ei S) rfl) (tK (k:=4) rfl (bW [6] kr rfl) rfl (xV (enc:=l8) (nest:=iH) W) (mD () h 6)))
      exact zyR 5 rfl (zyN (za8 rfl (zap (tK (k:=6) rfl (bW [7,8] kr rfl) rfl (uD (nest:=iH) (ei S) rfl) (tK (k:=4) rfl (bW [6] kr rfl) rfl (xV (enc:=l8) (nest:=iH) W) (mD () h 6))))))
     exact zyR 13 rfl (zaB (zaz (za8 rfl (zap (mD () h 6)))))
    rintro _ h
    rw[d1] at h
    refine zbq h fun j3 d0 h=>zaL (β:=Int×Int×Int×(List Int)×(List Int)×Nat×Hd×Hd) 1 rfl (fun b=>j3 b.1 b.2.1 b.2.2.1 b.2.2.2.1 b.2.2.2.2.1=some r) (fun b=>[]) (fun b=>[(1,zP b1),(2,.slice none 0 0),(4,zP G),(5,zP B),(8,zP b.2.2.2.2.2.1),(17,.func (.func 154) #[] #[zP b7])]) (fun b=>[cells b1 [.string A] 9,cells G [.map (some t)] 116,cz (fun n:Int=>aB .i32 n) (fun p:zan=>bl #[.int .i32 p.e0,.int .i32 p.e1]) t r1.2,cells B [f.v] 120,nm l8 iH 123 5 f.v o,cells b.2.2.2.2.2.1 [zI b.1,.int .u8 b.2.1,.int .i32 b.2.2.1,b.2.2.2.2.2.2.1.v,b.2.2.2.2.2.2.2.v] 123,eA b.2.2.2.2.2.2.1.v b.2.2.2.1,eA b.2.2.2.2.2.2.2.v b.2.2.2.2.1]) (fun cut=>?_) ?_
    ·refine zyG (zab zd2 rfl dc rfl (show _=0 from rfl) (zas (k:=5) dO rfl dc rfl rfl rfl (zab qu rfl dc rfl (show _=2 from rfl) (zas (k:=5) eZ rfl dc rfl rfl rfl (zbf (v:=.agg #[zI x1.At,.int .u8 0,.int .i32 x1.Rune,.slice none 0 0,.slice none 0 0]) (ps:=[(0,.tmp 57),(2,.tmp 59)]) rfl dc rfl (fun _=>by kernel_rfl) (zbi AJ rfl dc (fun H=>eE (k:=6) (vs:=[zI x1.At,.int .u8 0,.int .i32 x1.Rune,.slice none 0 0,.slice none 0 0]) (l':=[zI x1.At,.int .u8 0,.int .i32 x1.Rune,.slice none 0 0,.slice none 0 0]) sI rfl rfl rfl rfl rfl (show _≤_ by simp) rfl rfl (zyN (cut (zyG (zbR (k:=6) (cs:=[zI x1.At,.int .u8 0,.int .i32 x1.Rune,.slice none 0 0,.slice none 0 0]) qU rfl dc rfl rfl rfl rfl (vH (enc:=(kV (.i32))) (e:=21) (size:=1) (vH (enc:=(kV (.i32))) (e:=21) (size:=1) (zbk h fun r5 dd h=>oJ (v:=.bool r5) (vs:=[.agg #[zI x1.At,.int .u8 0,.int .i32 x1.Rune,.slice none 0 0,.slice none 0 0]]) rfl dc rfl rfl rfl AP (Bg (u1:=(⟨x1.At,0,x1.Rune,([]:List Int),([]:List Int)⟩:c6)) (_j:=eB) (_i:=eB) dd) [7,8] kr rfl (zyN (zyB rfl h (fun h=>?_) (fun h=>?_)))))))))))))))))
     ·refine zyG (zas (k:=1) AF rfl dc rfl rfl rfl (zab qu rfl dc rfl (show _=2 from rfl) (zas (k:=5) eZ rfl dc rfl rfl rfl (zbk h fun r6 ch h=>zbN (vs:=[.map (some t),.int .i32 x1.Rune]) rfl dc rfl rfl rfl Dy (IH ch) (bW [2] kr rfl) (fun v2=>mn (L':=[cells b1 [.string A] 9,cells G [.map (some t)] 116,cz (fun n:Int=>aB .i32 n) (fun p:zan=>bl #[.int .i32 p.e0,.int .i32 p.e1]) t r1.2,cells B [f.v] 120,nm l8 iH 123 5 f.v o,cells y [zI x1.At,zI x1.Width,.int .i32 x1.Rune,.bool x1.Broken] 132,cells H [zI x1.At,.int .u8 0,.int .i32 x1.Rune,.slice none 0 0,.slice none 0 0] 123,eA (.slice none 0 0) ([]:List Int),eA (.slice none 0 0) ([]:List Int),eA v2 r6]) (bW [0,1,9,3,4,5,6,7,8,10] kr rfl) (iB (k:=9) rfl (fun a5 ea=>?_)))))))
      subst ea
      refine zyR 1 rfl (zyH (zyR 1 rfl (zbk h fun q1 a4 h=>eJ (k:=9) a4 bp lj rfl dc rfl rfl rfl rfl (fw (i:=(0:Int).toNat) (j:=0) (k:=9) (q:=q1) eZ jE rfl dc rfl rfl (ei a4) rfl dc rfl (zab zgo rfl dc rfl (show _=2 from rfl) (eP (k:=6) (l':=[zI x1.At,.int .u8 0,.int .i32 q1,.slice none 0 0,.slice none 0 0]) lj rfl rfl rfl rfl rfl (fun _ _=>rfl) rfl (zyH (zyR 1 rfl (kU (k:=9) rfl (fun c5=>zbs h fun d5 h=>?_))))))))))
      obtain⟨v3,a7,da⟩:=oI (lo:=some (zI 1)) (hi:=none) c5 bp lj (.inr rfl) (.inl ⟨rfl,rfl⟩) d5
      refine iA rfl dc rfl rfl rfl da (zbT a7 rfl dc rfl bp (zyR 1 rfl (zyN (zat (nD (enc:=(kV (.i32))) (e:=21) (size:=1) (nD (enc:=(kV (.i32))) (e:=21) (size:=1) (eF (β:=Nat×Int×Int×Int×(List Int)×(List Int)×Int×Hd×Hd) (fun b=>zaC (fun _ _ _ _ _ _=>none) (zez j3 r6) b.1 b.2.1 b.2.2.1 b.2.2.2.1 b.2.2.2.2.1 b.2.2.2.2.2.1 b.2.2.2.2.2.2.1=some r) (fun b=>[]) (fun b=>[(1,zP b1),(2,.slice none 0 0),(4,zP G),(5,zP B),(8,zP H),(17,.func (.func 154) #[] #[zP b7]),(72,v3),(73,zI ((dK r6 1 (r6.length:Int)).length:Int)),(74,zI b.2.2.2.2.2.2.1)]) (fun b=>[cells b1 [.string A] 9,cells G [.map (some t)] 116,cz (fun n:Int=>aB .i32 n) (fun p:zan=>bl #[.int .i32 p.e0,.int .i32 p.e1]) t r1.2,cells B [f.v] 120,nm l8 iH 123 5 f.v o,cells H [zI b.2.1,.int .u8 b.2.2.1,.int .i32 b.2.2.2.1,b.2.2.2.2.2.2.2.1.v,b.2.2.2.2.2.2.2.2.v] 123,eA b.2.2.2.2.2.2.2.1.v b.2.2.2.2.1,eA b.2.2.2.2.2.2.2.2.v b.2.2.2.2.2.1,eA a5.v r6]) (fun b=>b.1) (zbx,x1.At,0,q1,([]:List Int),([]:List Int),0,eB,eB) h rfl (bI rfl) (bW [0,1,2,3,4,6,10,11,9] kr rfl) ?_)))))))
      rintro⟨n1,P,O,N,M,L,x6,F,E⟩ h
      cases n1 with
      |zero=>exact ew h
      |succ n1=>
       obtain⟨eq,a6⟩:∃ag,ag=zaC (fun _ _ _ _ _ _=>none) (zez j3 r6) n1:=⟨_,rfl⟩
       have h:zez j3 r6 eq P O N M L x6=some r:=by rw[a6];exact h
       unfold zez at h
       refine zyG (zaT rfl zbd (zyN (zaJ (zyB rfl h (fun h=>?_) (fun h=>?_)))))
       ·refine zap (zaz (zaJ (zat (zyG (zbk h fun q2 a3 h=>fy a7 a3 bp lj rfl dc rfl rfl rfl (fw (i:=0+(1:Int).toNat+(x6:Int).toNat) (j:=0) (k:=8) (q:=q2) eZ jE rfl dc rfl rfl (ce a7 a3) rfl dc rfl (zyR 1 rfl (zyN (bX (zyR 1 rfl (nE (enc:=l8) [((⟨P,O,N,M,L⟩:c6),(F,E))] (k:=5) rfl pu rfl (show 1≤maxLen by decide) (zbk h fun r7 cc h=>zbN (vs:=[zP H,.int .i32 q2]) rfl dc rfl rfl rfl HS (IG (_r:=(.slice (some ⟨H,0,none⟩) 1 1)) (u1:=(⟨P,O,N,M,L⟩:c6)) (_j:=F) (_i:=E) (show [((⟨P,O,N,M,L⟩:c6),(F,E))][0]?=some ((⟨P,O,N,M,L⟩:c6),(F,E)) from rfl) cc) (bW [5,6,7] kr rfl) ?_))))))))))))
        rintro⟨aw,ao⟩
        refine mn (L':=[cells b1 [.string A] 9,cells G [.map (some t)] 116,cz (fun n:Int=>aB .i32 n) (fun p:zan=>bl #[.int .i32 p.e0,.int .i32 p.e1]) t r1.2,cells B [f.v] 120,nm l8 iH 123 5 f.v o,np (.slice (some ⟨H,0,none⟩) 1 1) [(r7,(aw,ao))],cE,cE,eA a5.v r6,eA aw.v r7.low,eA ao.v r7.high]) (bW [0,1,2,3,4,9,6,7,8,10,11] kr rfl) (qp (k:=5) rfl (Nk pu) (zaB (cd (zaz (bX (zbs h fun d4 h=>zaT rfl (dA (r:=x6+1) (ai _ d4)) (zyR 1 rfl (zaB ?_))))))))
        subst a6
        exact nB (n1,r7.at_,r7.broken,r7.base,r7.low,r7.high,x6+1,aw,ao) h (Nat.lt_succ_self _) rfl (bI rfl) (bW [0,1,2,3,4,5,9,10,8] kr rfl)
       exact dy (bV (bV (dz (mD (P,O,N,M,L,H,F,E) h 8))))
     exact zap (Aq (enc:=(kV (.i32))) (e:=21) (size:=1) (Aq (enc:=(kV (.i32))) (e:=21) (size:=1) (cL (x1.At,0,x1.Rune,([]:List Int),([]:List Int),H,eB,eB) h rfl (bI rfl) (bW [0,1,2,3,4,6,9,10] kr rfl))))
    rintro⟨u1,u2,u3,u4,u5,en,R,Q⟩ h
    rw[d0] at h
    refine bX (zas (k:=3) uF rfl dc rfl rfl rfl (zbR (k:=5) (cs:=[zI u1,.int .u8 u2,.int .i32 u3,R.v,Q.v]) qU rfl dc rfl rfl rfl rfl (fx (cs:=[zI u1,.int .u8 u2,.int .i32 u3,R.v,Q.v]) (te:=123) (ps:=[(0,.tmp 82)]) rfl dc rfl (fun _=>by kernel_rfl) (fun em=>qR (k:=4) rfl vT (fun c3 bk=>zbs h fun d3 h=>iT (k:=4) (k2:=8) (ys:=[((⟨u1,u2,u3,u4,u5⟩:c6),(R,Q))]) eT Hq pu Ib rfl dc rfl rfl rfl rfl rfl rfl (by rw[CY bk];exact d3) (fun v4=>iB (k:=4) rfl (fun Z d9=>?_)))))))
    subst d9
    exact xU (k:=9) rfl (bW [6,7] kr rfl) rfl (GS (nest:=iH) (zs:=c3) (z:=((⟨u1,u2,u3,u4,u5⟩:c6),(R,Q)))) (xU (k:=4) rfl (bW [9] kr rfl) rfl (xV (enc:=l8) (nest:=iH) (GT bk)) (mn (L':=[cells b1 [.string A] 9,cells G [.map (some t)] 116,cz (fun n:Int=>aB .i32 n) (fun p:zan=>bl #[.int .i32 p.e0,.int .i32 p.e1]) t r1.2,cells B [f.v] 120,nm l8 iH 123 5 Z.v (o++[(⟨u1,u2,u3,u4,u5⟩:c6)]),cells en [zI u1,.int .u8 u2,.int .i32 u3,R.v,Q.v] 123,cE,cE,cells em [zI u1,.int .u8 u2,.int .i32 u3,R.v,Q.v] 123]) (cp 9) (eP (k:=3) (l':=[Z.v]) Ho rfl rfl rfl rfl rfl (fun _ _=>rfl) rfl (zaB (cd (lY (o++[(⟨u1,u2,u3,u4,u5⟩:c6)],Z) (fun U e2=>by have e9:=l0 C e2;subst e9;subst J;exact h) (cp 5)))))))
   ·rintro bb ⟨o,f⟩ I
    have h:a9 o=some r:=I [] (aH _).symm
    rw[c2] at h
    show TX _ _ _ _ _ _ _ [ziH ((([]:List Nat):List Nat).map gL),cE,cz (fun p:zan=>bl #[.int .i32 p.e0,.int .i32 p.e1]) (fun n:Int=>aB .i32 n) b3 r1.1,cE,cE,cE,cells b7 [.string r2] 9,cE,cells b1 [.string A] 9,cells G [.map (some t)] 116,cz (fun n:Int=>aB .i32 n) (fun p:zan=>bl #[.int .i32 p.e0,.int .i32 p.e1]) t r1.2,cells B [f.v] 120,nm l8 iH 123 5 f.v o,gL bb]
    exact tA (k:=13) (j:=0) rfl rfl dc (cd (cL (o,B,f,bb::([]:List Nat)) h rfl (bI rfl) (bW [11,12,0] kr rfl)))
   exact fun bb c pre x1 post g et hX=>(show False from hX).elim
  rintro⟨l1,b2,ec,ds1⟩ h
  rw[d2] at h
  refine zyG (zas (k:=0) uF rfl dc rfl rfl rfl (zyR 1 rfl (zyN (zaA (Ak (by simp) ?_)))))
  cases h
  exact qq (rs:=[.tmp 2]) ds1 ec.v (.inl rfl) (qo (k:=2) rfl) results76 (.cons (.tmp rfl) .nil) rfl (bW [1] kr rfl)
 exact fun b hb=>hb.elim
def kP (b:ad):Int:=((b.data.toList.headD 0).toNat:Int)
def fu (c:bf×List bf):c6:=if c.1.Rune<0 then ⟨c.1.At,kP c.1.Text,-1,[],[]⟩ else ⟨c.1.At,0,c.1.Rune,(loI c.2).map (·.Rune),(hiI c.2).map (·.Rune)⟩
def jK (u:c6) (r:Int):c6:=if mW r then ⟨u.at_,u.broken,u.base,u.low++[r],u.high⟩ else ⟨u.at_,u.broken,u.base,u.low,u.high++[r]⟩
theorem Ja (u:c6) (r:Int) (h1:u.low.length≤2000000000) (h2:u.high.length≤2000000000):wN u r=some (jK u r):=by
 unfold wN
 refine aY (QL r) ?_
 unfold jK
 cases mW r with
 |true=>exact bS rfl (gO rfl)
 |false=>exact bM rfl (gO rfl)
theorem Jb (x:bf) (hx:0≤x.Rune) (a:List bf) (y:bf):jK (fu (x,a)) y.Rune=fu (x,a++[y]):=by
 unfold jK fu loI hiI
 simp only[aj (show ¬x.Rune<0 by omega),List.filter_append]
 show (if mF y then _ else _)=_
 cases h:mF y<;>simp[h]
theorem Re (u:c6) (a:List Int) (c:List Int) (b:Int) (hr:c=b::a) (f:u.low.length+u.high.length+a.length≤1000000000) (J:Int→Int→Int→(List Int)→(List Int)→Option (List c6)) :
  zaC (fun _ _ _ _ _ _=>none) (zez J c) zbx u.at_ u.broken u.base u.low u.high 0=J (a.foldl jK u).at_ (a.foldl jK u).broken (a.foldl jK u).base (a.foldl jK u).low (a.foldl jK u).high:=by
 have hc:dK c 1 (c.length:Int)=a:=by
  subst hr;unfold dK;simp
 have key:∀ (n k:Nat) (u:c6),k≤a.length→a.length-k<n→u.low.length+u.high.length+(a.length-k)≤1000000000 →
   zaC (fun _ _ _ _ _ _=>none) (zez J c) n u.at_ u.broken u.base u.low u.high (k:Int)=J ((a.drop k).foldl jK u).at_ ((a.drop k).foldl jK u).broken ((a.drop k).foldl jK u).base ((a.drop k).foldl jK u).low ((a.drop k).foldl jK u).high:=by
  intro n
  induction n with
  |zero=>intro k u _ h;omega
  |succ n d=>
   intro k u hk e hb
   rw[gk]
   generalize zaC (fun _ _ _ _ _ _=>none) (zez J c) n=ag at d ⊢
   unfold zez
   rw[hc]
   by_cases h:k<a.length
   ·have hx:a[k]?=some a[k]:=aJ h
    refine bS (lR hx) (aY (kO hx) (aY (Ja u _ (by omega) (by omega)) (zdG (ja (by omega)) ?_)))
    have hm:(jK u a[k]).low.length+(jK u a[k]).high.length=u.low.length+u.high.length+1:=by
     unfold jK;split<;>simp<;>omega
    have:=d (k+1) (jK u a[k]) (by omega) (by omega) (by omega)
    push_cast at this
    rw[this,aR h];rfl
   ·have:k=a.length:=by omega
    subst this
    exact bM lC (by rw[gp];rfl)
 have:=key zbx 0 u (bG _) (by have:=j0 (n:=a.length) (by omega);omega) (by omega)
 simpa using this
def ov (s:ad) (l:List c6) (p:cY):List c6 :=
 if p.Broken then l++[⟨p.At,(jQ s p.At).getD 0,-1,[],[]⟩]
 else match l.getLast? with
  |some u=>if cZ u.base&&fc p.Rune then l.set (l.length-1) (jK u p.Rune) else l++[if cZ p.Rune then (iw p.Rune).tail.foldl jK ⟨p.At,0,(iw p.Rune).headD 0,[],[]⟩ else ⟨p.At,0,p.Rune,[],[]⟩]
  |none=>l++[if cZ p.Rune then (iw p.Rune).tail.foldl jK ⟨p.At,0,(iw p.Rune).headD 0,[],[]⟩ else ⟨p.At,0,p.Rune,[],[]⟩]
def Bm (k:Nat) (l:List c6):Prop:=l.length≤k∧∀u∈l,u.low.length+u.high.length≤3*k∧fB u.base
theorem Jc (u:c6) (r:Int):(jK u r).low.length+(jK u r).high.length=u.low.length+u.high.length+1∧(jK u r).base=u.base:=by
 unfold jK;split<;>simp<;>omega
theorem Rf (a:List Int):∀u:c6,(a.foldl jK u).low.length+(a.foldl jK u).high.length=u.low.length+u.high.length+a.length∧(a.foldl jK u).base=u.base:=by
 induction a with
 |nil=>intro u;simp
 |cons m a b=>intro u;have:=b (jK u m);have h2:=Jc u m;rw[bn];simp only[ab];constructor;omega;rw[this.2,h2.2]
theorem Je (p:cY) (hp:fB p.Rune) (k:Nat):((if cZ p.Rune then (iw p.Rune).tail.foldl jK ⟨p.At,0,(iw p.Rune).headD 0,[],[]⟩ else ⟨p.At,0,p.Rune,[],[]⟩:c6).low.length+(if cZ p.Rune then (iw p.Rune).tail.foldl jK ⟨p.At,0,(iw p.Rune).headD 0,[],[]⟩ else ⟨p.At,0,p.Rune,[],[]⟩:c6).high.length≤3*(k+1))∧fB (if cZ p.Rune then (iw p.Rune).tail.foldl jK ⟨p.At,0,(iw p.Rune).headD 0,[],[]⟩ else ⟨p.At,0,p.Rune,[],[]⟩:c6).base:=by
 cases h:cZ p.Rune with
 |false=>simp only[bj,if_false];exact⟨by simp,hp⟩
 |true=>
  simp only[if_true]
  have h1:=Rf (iw p.Rune).tail ⟨p.At,0,(iw p.Rune).headD 0,[],[]⟩
  have h2:=Eg p.Rune
  have h3:(iw p.Rune).tail.length≤2:=by rw[List.length_tail];omega
  refine⟨by rw[h1.1];simp;omega,?_⟩
  rw[h1.2]
  have c:=Bk hp
  cases a:iw p.Rune with
  |nil=>rw[a] at h2;simp at h2
  |cons b d=>exact c b (by rw[a];exact ar ..)
theorem Rg (s:ad) (k:Nat) (p:cY) (l:List c6) (hp:fB p.Rune) (h:Bm k l):Bm (k+1) (ov s l p):=by
 obtain⟨h1,h2⟩:=h
 have a:∀u:c6,(u.low.length+u.high.length≤3*(k+1)∧fB u.base)→Bm (k+1) (l++[u]):=fun u hu=>⟨by simp;omega,fun v hv=>by
  rcases bY.1 hv with hv|hv
  ·have:=h2 v hv;exact⟨by omega,this.2⟩
  ·simp at hv;subst hv;exact hu⟩
 unfold ov
 split
 ·exact a _ ⟨by simp,(show fB (-1) from ⟨by omega,by omega⟩)⟩
 ·split
  ·rename_i u hu
   split
   ·have hm:=qH hu
    refine⟨by simp;omega,fun v hv=>?_⟩
    rcases List.mem_or_eq_of_mem_set hv with hv|rfl
    ·have:=h2 v hv;exact⟨by omega,this.2⟩
    ·have:=h2 u hm;have h3:=Jc u p.Rune;exact⟨by omega,by rw[h3.2];exact this.2⟩
   ·exact a _ (Je p hp k)
  ·exact a _ (Je p hp k)
theorem Rh (s:ad) (H:s.size≤65536):tY s=some (((eQ s.data.toList).map gI).foldl (ov s) []):=by
 unfold tY
 refine cB (aY IJ (aY (a:=s) rfl (aY (za s (by omega)) (cB ?_))))
 have hc:=qz s
 have hr:∀p∈(eQ s.data.toList).map gI,fB p.Rune∧(p.Broken=true→jQ s p.At=some ((jQ s p.At).getD 0)):=by
  intro p hp
  obtain⟨q,c,rfl⟩:=aU.1 hp
  obtain⟨g1,g2,g⟩:=uH s.data.toList q c
  have hv:=g.valid
  have j:s.data.toList.length=s.size:=by rw[cU];rfl
  refine⟨⟨by simp only[gI];omega,by simp only[gI];omega⟩,fun _=>?_⟩
  have G:=g.pos
  rw[show (gI q).At=(q.i:Int) from rfl,CK (n:=q.i) rfl (by omega)];rfl
 have key:∀ (ps:List cY) (k:Nat) (l:List c6),Bm k l→k+ps.length≤65536→(∀p∈ps,fB p.Rune∧(p.Broken=true→jQ s p.At=some ((jQ s p.At).getD 0)))→zdZ (some:List c6→_) (zfF s (iX,tabS)) ps l=some (ps.foldl (ov s) l):=by
  intro ps
  induction ps with
  |nil=>intro k l _ _ _;rfl
  |cons p ps D=>
   intro k l hb hk hp
   obtain⟨e,r⟩:=hp p (ar ..)
   obtain⟨v,m⟩:=hb
   simp only[ab] at hk
   rw[oH,bn,←D (k+1) (ov s l p) (Rg s k p l e ⟨v,m⟩) (by omega) (fun q c=>hp q (ak _ c))]
   generalize zdZ (some:List c6→_) (zfF s (iX,tabS)) ps=ag
   unfold zfF ov
   cases hB:p.Broken with
   |true=>exact bS rfl (aY (r hB) (gO (by simp)))
   |false=>
    simp only[bj,if_false]
    refine bM rfl (cB ?_)
    have d:(co (fun (w:Int→Int→Int→(List Int)→(List Int)→Option (List c6))=>
      aT (sS (⟨p.At,0,p.Rune,([]:List Int),([]:List Int)⟩:c6)) fun (B:Bool)=>
      aN (B) (aT (uV (iX,tabS).2 p.Rune) fun (f:(List Int))=>
       aT (zca f 0) fun (q1:Int)=>aV (0≤(1:Int)∧(1:Int)≤(f.length:Int)∧((f.length:Int):Int)≤(f.length:Int)) <|
       zaC (fun _ _ _ _ _ _=>none) (zez w f) zbx p.At 0 q1 ([]:List Int) ([]:List Int) 0) (w p.At 0 p.Rune ([]:List Int) ([]:List Int)))
      (fun (u1:Int) (A:Int) (z:Int) (y:List Int) (x:List Int)=>aV (l.length+1≤2147483648)<|ag (l++[(⟨u1,A,z,y,x⟩:c6)]))) =
      ag (l++[if cZ p.Rune then (iw p.Rune).tail.foldl jK ⟨p.At,0,(iw p.Rune).headD 0,[],[]⟩ else ⟨p.At,0,p.Rune,[],[]⟩]):=by
     refine cB (aY (Bi _ e) ?_)
     show aN (cZ p.Rune) _ _=_
     cases hL:cZ p.Rune with
     |false=>exact bM rfl (gO (by simp))
     |true=>
      obtain⟨b,C,c,_,_,_,E⟩:=tW hL
      refine bS rfl (aY (QY _) (aY (a:=b) (by rw[c];rfl) (zdG (by rw[c];simp only[ab];omega) ?_)))
      refine (Re (⟨p.At,0,b,[],[]⟩:c6) C (iw p.Rune) b c (by simp;omega) _).trans (gO ?_)
      rw[c];simp
    cases o:l.getLast? with
    |none=>
     have:l=[]:=List.getLast?_eq_none_iff.1 o
     subst this
     exact bM (by decide) d
    |some u=>
     have t:l≠[]:=by intro h;subst h;cases o
     have j:0<l.length:=List.length_pos_iff.2 t
     have hm:=qH o
     have hu:=m u hm
     have hg:zca l ((l.length:Int)-1)=some u:=Al (n:=l.length-1) (by omega) (by rw[←List.getLast?_eq_getElem?];exact o)
     refine eR (gO (aY hg (aY (Bi u hu.2) ?_)))
     cases hL:cZ u.base with
     |false=>exact bM rfl (by simpa [hL] using d)
     |true=>
      refine bS rfl (zdG e ?_)
      rw[IM]
      cases F:fc p.Rune with
      |false=>exact bM rfl (by simpa [hL,F] using d)
      |true=>
       refine bS rfl (gO (aY hg (aY (Ja u _ (by omega) (by omega)) ?_)))
       simp only[Bool.and_self,if_true]
       rw[show ((l.length:Int)-1).toNat=l.length-1 by omega]
       simp[hL]
 have:=key ((eQ s.data.toList).map gI) 0 [] ⟨by simp,by simp⟩ (by simp;omega) hr
 exact this
theorem Jg {s:ad} {p:Pc} (hp:p∈eQ s.data.toList):(p.broken=true→(itG s p).Rune=-1∧(itG s p).Text.size=1∧kP (itG s p).Text=(jQ s p.i).getD 0)∧(p.broken=false→(itG s p).Rune=p.r∧(itG s p).Text=ae (p.r:Int)):=by
 obtain⟨g1,g2,b⟩:=uH s.data.toList p hp
 have d:s.data.toList.length=s.size:=by rw[cU];rfl
 have hf:=I2 hp
 have f:=b.pos
 constructor
 ·intro hb
  have a:p.w=1:=by unfold Pc.broken at hb;simp at hb;exact hb.2
  refine⟨by simp[itG,hb],by simp[itG,a];omega,?_⟩
  have e:(itG s p).Text.data.toList=(s.data.toList.drop p.i).take p.w:=by
   show (s.extract p.i (p.i+p.w)).data.toList=_
   rw[nh];simp
  unfold kP
  rw[e,a,CK (n:=p.i) rfl (by omega)]
  have hi:p.i<s.data.toList.length:=by omega
  rw[aR hi]
  simp
  rfl
 ·intro hb
  refine⟨by simp[itG,hb],?_⟩
  have c:¬(p.r=65533∧p.w=1):=by
   unfold Pc.broken at hb;simpa using hb
  apply _root_.ByteArray.ext;apply fA.1
  show (s.extract p.i (p.i+p.w)).data.toList=_
  rw[nh]
  have h1:=b.bytes c
  rw[nF,h1]
  simp
theorem Ri (a:Option (bf×List bf)) (x:bf) (xs:List bf) (h:∀c,a=some c→(dI c.1&&isM x)=false):fM a (x::xs)=a.toList++fM (some (x,[])) xs:=by
 cases a with
 |none=>rfl
 |some c=>
  show (if dI c.1&&isM x then fM (some (c.1,c.2++[x])) xs else c::fM (some (x,[])) xs)=_
  rw[h c rfl];rfl
theorem Bn (x:bf) (hx:dI x=true) (xs:List bf):∀ (a ks:List bf),(∀m∈a,isM m=true)→fM (some (x,ks)) (a++xs)=fM (some (x,ks++a)) xs
 |[],ks,_=>by simp
 |m::a,ks,h=>by
  rw[aX]
  show (if dI x&&isM m then fM (some (x,ks++[m])) (a++xs) else _)=_
  rw[hx,h m (ar ..)]
  simp only[Bool.and_self,if_true]
  rw[Bn x hx xs a (ks++[m]) (fun z hz=>h z (ak _ hz))]
  simp
theorem Jh (x:bf) (hx:0≤x.Rune):∀ (a ks:List bf),(a.map (·.Rune)).foldl jK (fu (x,ks))=fu (x,ks++a)
 |[],ks=>by simp
 |m::a,ks=>by
  rw[av,bn,Jb x hx,Jh x hx a];simp
theorem Es (c:bf×List bf) (h:0≤c.1.Rune):(fu c).base=c.1.Rune:=by
 unfold fu;rw[aj (by omega)]
theorem Ji (c:bf×List bf):cZ (fu c).base=dI c.1:=by
 unfold fu dI
 split
 ·rename_i h
  have h1:cZ (-1)=false:=by decide
  have h2:cZ c.1.Rune=false:=by
   cases e:cZ c.1.Rune with
   |false=>rfl
   |true=>have:=(mV _ e).1;omega
  rw[h2];exact h1
 ·rfl
theorem Jj (s:ad):∀ (ps:List Pc) (a:Option (bf×List bf)) (L:List c6),(∀p∈ps,p∈eQ s.data.toList)→(a=none→L=[]) →
  (ps.map gI).foldl (ov s) (L++a.toList.map fu)=L++(fM a (apL (ps.map (itG s)))).map fu
 |[],a,L,_,_=>by
  cases a<;>simp[apL,fM]
 |p::ps,a,L,hp,hcur=>by
  rw[av,bn,av]
  have D:apL (itG s p::ps.map (itG s))=jm (itG s p)++apL (ps.map (itG s)):=by unfold apL;rw[aG]
  rw[D]
  obtain⟨A,t⟩:=Jg (hp p (ar ..))
  have tail:=fun w L' hc=>Jj s ps w L' (fun q y=>hp q (ak _ y)) hc
  have hv:p.broken=false→0≤(itG s p).Rune:=fun h=>by rw[(t h).1];omega
  have l:∀ (x:bf) (d:List bf),(dI x=false→d=[])→(∀m∈d,isM m=true)→(∀c,a=some c→(dI c.1&&isM x)=false)→ov s (L++a.toList.map fu) (gI p)=(L++a.toList.map fu)++[fu (x,d)]→jm (itG s p)=x::d →
    (ps.map gI).foldl (ov s) (ov s (L++a.toList.map fu) (gI p))=L++(fM a (jm (itG s p)++apL (ps.map (itG s)))).map fu:=by
   intro x d h1 h2 h3 M h5
   rw[M,h5,aX,Ri a x _ h3]
   have K:fM (some (x,[])) (d++apL (ps.map (itG s)))=fM (some (x,d)) (apL (ps.map (itG s))):=by
    cases hx:dI x with
    |true=>rw[Bn x hx _ d [] h2];rfl
    |false=>rw[h1 hx];rfl
   have:=tail (some (x,d)) (L++a.toList.map fu) (by simp)
   rw[show (L++a.toList.map fu)++[fu (x,d)]=(L++a.toList.map fu)++(some (x,d)).toList.map fu from rfl,this,K]
   simp
  cases hB:p.broken with
  |true=>
   obtain⟨e1,e2,N⟩:=A hB
   have hL:dI (itG s p)=false:=by unfold dI;rw[e1];decide
   have J:isM (itG s p)=false:=by unfold isM;rw[e1];decide
   refine l (itG s p) [] (fun _=>rfl) (by simp) (fun c _=>by rw[J,Bool.and_false]) ?_ (by unfold jm;rw[hL];rfl)
   unfold ov
   rw[show (gI p).Broken=true from hB]
   simp only[if_true]
   have:fu (itG s p,[])=⟨(itG s p).At,kP (itG s p).Text,-1,[],[]⟩:=by unfold fu;rw[am (by rw[e1];omega)]
   rw[this,N];rfl
  |false=>
   obtain⟨e1,e2⟩:=t hB
   have h0:0≤(itG s p).Rune:=hv hB
   have j:(gI p).Rune=(itG s p).Rune:=by rw[e1];rfl
   have f:∃x d,jm (itG s p)=x::d∧(dI x=false→d=[])∧(∀m∈d,isM m=true)∧dI x=dI (itG s p)∧isM x=isM (itG s p) ∧
     (if cZ (gI p).Rune then (iw (gI p).Rune).tail.foldl jK ⟨(gI p).At,0,(iw (gI p).Rune).headD 0,[],[]⟩ else ⟨(gI p).At,0,(gI p).Rune,[],[]⟩)=fu (x,d):=by
    rw[j]
    cases hL:dI (itG s p) with
    |false=>
     have i:cZ (itG s p).Rune=false:=hL
     refine⟨itG s p,[],by unfold jm;rw[hL];rfl,fun _=>rfl,by simp,hL,rfl,?_⟩
     rw[i]
     unfold fu
     rw[aj (show ¬(itG s p,([]:List bf)).1.Rune<0 by show ¬(itG s p).Rune<0;omega)]
     rfl
    |true=>
     have i:cZ (itG s p).Rune=true:=hL
     obtain⟨b,d,y,hb,_,z,_⟩:=tW i
     have B:=(mV b hb).1
     refine⟨⟨b,ae b,(itG s p).At⟩,d.map fun r=>⟨r,ae r,(itG s p).At⟩,by unfold jm;rw[hL,y];rfl,(fun h=>by rw[show dI (⟨b,ae b,(itG s p).At⟩:bf)=true from hb] at h;cases h),?_,hb,?_,?_⟩
     ·intro m hm
      obtain⟨r,hr,rfl⟩:=aU.1 hm
      exact z r hr
     ·have F:isM (itG s p)=false:=by
       cases e:isM (itG s p) with
       |false=>rfl
       |true=>have:=qA (show fc (itG s p).Rune=true from e);rw[i] at this;cases this
      have E:isM (⟨b,ae b,(itG s p).At⟩:bf)=false:=by
       cases e:isM (⟨b,ae b,(itG s p).At⟩:bf) with
       |false=>rfl
       |true=>have:=qA (show fc b=true from e);rw[hb] at this;cases this
      rw[F,E]
     ·rw[i,y]
      have:=Jh ⟨b,ae b,(itG s p).At⟩ B (d.map fun r=>⟨r,ae r,(itG s p).At⟩) []
      have hm:(d.map fun r=>(⟨r,ae r,(itG s p).At⟩:bf)).map (·.Rune)=d:=by rw[cn];simp[Function.comp_def]
      rw[hm] at this
      rw[bg] at this
      rw[←this]
      have ht:fu (⟨b,ae b,(itG s p).At⟩,[])=⟨(itG s p).At,0,b,[],[]⟩:=by
       unfold fu;rw[aj (show ¬b<0 by omega)];rfl
      rw[ht];rfl
   obtain⟨x,d,ha,o,hm2,I,n,f⟩:=f
   cases a with
   |none=>
    have hL:=hcur rfl
    subst hL
    refine l x d o hm2 (fun c h=>by cases h) ?_ ha
    unfold ov
    rw[show (gI p).Broken=false from hB]
    simp only[bj,if_false,qI,ed,aH,List.getLast?_nil]
    rw[f]
   |some c=>
    have g:(L++[fu c]).getLast?=some (fu c):=by simp
    cases hk:(dI c.1&&isM x) with
    |false=>
     refine l x d o hm2 (fun O h=>by cases h;exact hk) ?_ ha
     show ov s (L++[fu c]) (gI p)=(L++[fu c])++[fu (x,d)]
     unfold ov
     rw[show (gI p).Broken=false from hB,g]
     simp only[bj,if_false]
     rw[Ji,show fc (gI p).Rune=isM x by rw[n,j];rfl,hk,f]
     simp
    |true=>
     have k:=hk
     rw[aQ] at k
     have v:isM (itG s p)=true:=by rw[←n];exact k.2
     have G:dI (itG s p)=false:=qA v
     have C:jm (itG s p)=[itG s p]:=by unfold jm;rw[G];rfl
     rw[C,List.singleton_append]
     have u:ov s (L++(some c).toList.map fu) (gI p)=L++(some (c.1,c.2++[itG s p])).toList.map fu:=by
      show ov s (L++[fu c]) (gI p)=L++[fu (c.1,c.2++[itG s p])]
      unfold ov
      rw[show (gI p).Broken=false from hB,g]
      simp only[bj,if_false]
      rw[Ji,show fc (gI p).Rune=isM x by rw[n,j];rfl,hk]
      simp only[if_true]
      have H:0≤c.1.Rune:=(mV _ k.1).1
      rw[j,Jb c.1 H c.2 (itG s p)]
      simp
     rw[u,tail _ _ (by simp)]
     congr 2
     show _=fM (some c) (itG s p::apL (ps.map (itG s)))
     show _=(if dI c.1&&isM (itG s p) then fM (some (c.1,c.2++[itG s p])) (apL (ps.map (itG s))) else _)
     rw[k.1,v];rfl
def kD (s:ad):List (bf×List bf):=cl (apL (fV s))
theorem Et (s:ad) (a:s.size≤65536):tY s=some ((kD s).map fu):=by
 rw[Rh s a]
 have:=Jj s (eQ s.data.toList) none [] (fun p hp=>hp) (fun _=>rfl)
 simp only[qI,ed,aH,bg] at this
 rw[this];rfl
def zdx (e:List c6) (g:ad→Option ad) (d:ad→Int→Option ad) (a:ad) (c:Int):Option ad := aN (decide ((c:Int)<(e.length:Int))) (co (fun (f:ad→Option ad)=>aT (zca e c) fun (b:c6)=>aN (decide ((b.base:Int)<0)) (aV (a.size+1≤140737488355328) <|aV (∀x∈([b.broken]:List Int),U8 x) <|f (a++(gj [b.broken]))) (aT (wO b) fun (r1:ad)=>aV (a.size+r1.size≤140737488355328) <|f (a++r1))) (fun (h:ad)=>aV (cr (c+1)) <|d h (c+1))) (g a)
def zb (a:List c6):Option ad := co (fun (b:ad→Option ad)=>zaC (fun _ _=>none) (zdx a b) zbx ac 0) (fun (b1:ad)=>some b1)
theorem Rj {d m:Value} {a:List (c6×Hd×Hd)} {w:Nat} {t:List (c6×Hd×Hd)} {s:List c6} (f:Vw d a 5 w m t) (o:t.map bw=s) {r:ad} (h:zb s=some r):Fn prog 75 [m,.func (.func 124) #[] #[]] [np d a,own iH a] (fun _b:Unit=>.string r) (fun _b=>[np d a,own iH a]):=by
 unfold zb at h
 refine Fn.intro func75 rfl ntmps75 (by simp) (fun w0 K=>zbq h fun y D h=>zaL (β:=ad×Value) 2 rfl (fun b=>y b.1=some r) (fun b=>[]) (fun b=>[(5,b.2)]) (fun b=>[np d a,own iH a,byt 5 b.2 b.1]) (fun cut=>?_) ?_)
 ·refine zyG (zyR 1 rfl (zyH (zyR 1 rfl (zyN (cut (zyG (zyR 1 rfl (CZ o f rfl dc rfl eT (zyR 1 rfl (zyN (zat (xY (e:=5) (eF (β:=Nat×ad×Int×Value) (fun b=>zaC (fun _ _=>none) (zdx s y) b.1 b.2.1 b.2.2.1=some r) (fun b=>[]) (fun b=>[(1,.func (.func 124) #[] #[]),(5,b.2.2.2),(8,m),(9,zI (s.length:Int)),(10,zI b.2.2.1)]) (fun b=>[np d a,own iH a,byt 5 b.2.2.2 b.2.1]) (fun b=>b.1) (zbx,ac,0,(.slice none 0 0)) h rfl (bI rfl) (cp 3) ?_)))))))))))))
  rintro⟨x,z,u,N⟩ h
  cases x with
  |zero=>exact ew h
  |succ x=>
   obtain⟨I,p⟩:∃ag,ag=zaC (fun _ _=>none) (zdx s y) x:=⟨_,rfl⟩
   have h:zdx s y I z u=some r:=by rw[p];exact h
   unfold zdx at h
   refine zyG (zaT rfl zbd (zyN (zaJ (zyB rfl h (fun h=>?_) (fun h=>?_)))))
   ·refine zap (zaz (zbq h fun O C h=>zaL (β:=ad×Value) 0 rfl (fun b=>O b.1=some r) (fun b=>[]) (fun b=>[(1,.func (.func 124) #[] #[]),(5,b.2),(8,m),(9,zI (s.length:Int)),(10,zI u)]) (fun b=>[np d a,own iH a,byt 5 b.2 b.1]) (fun cut=>?_) ?_))
    ·refine cut (zat (zyG (zbk h fun c B h=>?_)))
     obtain⟨⟨l,g⟩,n⟩:=xX o B
     exact fy f n eT sI rfl dc rfl rfl rfl (mj (i:=w+(u:Int).toNat) (j:=0) (k:=0) (q:=(c,(l,g))) (cs:=[zI c.at_,.int .u8 c.broken,.int .i32 c.base,l.v,g.v]) qU pu rfl dc rfl rfl (ce f n) rfl rfl rfl (zbi AJ rfl dc (fun R=>eE (k:=3) (vs:=[zI c.at_,.int .u8 c.broken,.int .i32 c.base,l.v,g.v]) (l':=[zI c.at_,.int .u8 c.broken,.int .i32 c.base,l.v,g.v]) sI rfl rfl rfl rfl rfl (show _≤_ by simp) rfl rfl (zyH (zab zgo rfl dc rfl (show _=2 from rfl) (zas (k:=3) eZ rfl dc rfl rfl rfl (zaT rfl zbd (zyN (zyB rfl h (fun h=>bX (zyR 1 rfl (zab Dh rfl dc rfl (show _=1 from rfl) (zas (k:=3) AB rfl dc rfl rfl rfl (fx (cs:=[.int .u8 c.broken]) (te:=5) (ps:=[(0,.tmp 19)]) rfl dc rfl (fun _=>by kernel_rfl) (fun Q=>zbs h fun H h=>zbs h fun G h=>sB (k:=2) (k2:=4) (ys:=(gj [c.broken])) cg oo rfl dc rfl rfl rfl rfl (vS G) rfl H (fun L=>zyR 1 rfl (zaB (cd (mD (z++(gj [c.broken]),L) h 3)))))))))) (fun h=>bX (zyR 2 rfl (zbR (k:=3) (cs:=[zI c.at_,.int .u8 c.broken,.int .i32 c.base,l.v,g.v]) qU rfl dc rfl rfl rfl rfl (qR (k:=1) rfl (xW (ce f n)) (fun _ _=>zbk h fun r1 A h=>oJ (v:=.string r1) (vs:=[.agg #[zI c.at_,.int .u8 c.broken,.int .i32 c.base,l.v,g.v]]) rfl dc rfl rfl rfl OI (QA (u1:=c) (_j:=l) (_i:=g) A) [4,5] kr rfl (zbs h fun F h=>tF (k:=2) cg an oo rfl dc rfl rfl rfl F (fun J=>zyR 1 rfl (zaB (cd (tK (k:=1) rfl (bW [4,5] kr rfl) rfl (uD (nest:=iH) (ce f n) rfl) (mD (z++r1,J) h 3))))))))))))))))))))
    rintro⟨P,M⟩ h
    rw[C] at h
    refine bX (zbs h fun E h=>zaT rfl (dA (r:=u+1) (ai _ E)) (zyR 1 rfl (zaB ?_)))
    subst p
    exact aD (x,P,u+1,M) h 3
   exact dy (bV (bV (dz (mD (z,N) h 3))))
 rintro⟨b1,v1⟩ h
 rw[D] at h
 refine zyG (zyR 1 rfl (rC (k:=2) rfl dc rfl rfl cg underlying5 an (zyR 1 rfl (zyN (zaA ?_)))))
 cases h
 exact eu (rs:=[.tmp 4]) () (.inl rfl) results75 (.cons (.tmp rfl) .nil) rfl (cp 2)
def pf (a:ad):Option ad := aT (tY a) fun (r1:(List c6))=>aT (zb r1) fun (r2:ad)=>some r2
theorem rU {a:ad} {r:ad} (h:pf a=some r):dN prog 70 [.string a] (.string r):=by
 unfold pf at h
 refine dN.intro func70 rfl ntmps70 (by simp) (fun w0 K=>zyG (zyR 1 rfl (zyH (zyR 1 rfl (zbk h fun r1 e h=>zbN (vs:=[.string a]) rfl dc rfl rfl rfl Dv (Er e) ah (fun v1=>CR (k:=0) rfl (fun g f=>?_)))))))
 subst f
 refine qR (k:=0) rfl vT (fun i b=>kU (k:=0) rfl (fun c=>zbk h fun r2 d h=>oJ (v:=.string r2) (vs:=[g.v,.func (.func 124) #[] #[]]) rfl dc rfl rfl rfl Du (Rj c b d) [0,1] kr rfl (zyR 1 rfl (zyN (zaA ?_)))))
 cases h
 exact cX 2 results70
def zc (r1:Int):Option ad := aT (y7 r1) fun (r2:ad)=>aT (pf r2) fun (r3:ad)=>some r3
theorem Jk {r1:Int} {r:ad} (h:zc r1=some r):dN prog 65 [.int .i32 r1] (.string r):=by
 unfold zc at h
 refine dN.intro func65 rfl ntmps65 (by simp) (fun w0 K=>zyG (zyR 1 rfl (zyH (zyR 1 rfl (zbk h fun r2 b h=>zaI (v:=.string r2) (vs:=[.int .i32 r1]) rfl dc rfl rfl rfl OC (Ra b) (zbk h fun r3 a h=>zaI (v:=.string r3) (vs:=[.string r2]) rfl dc rfl rfl rfl rK (rU a) (zyR 1 rfl (zyN (zaA ?_)))))))))
 cases h
 exact cX 2 results65
section
variable {α β:Type}
def J (f:α→ad) (l:List α):ad:=l.foldl (fun s x=>s++f x) ac
theorem Eu (f:α→ad):∀ (l:List α) (b:ad),l.foldl (fun s x=>s++f x) b=b++J f l
 |[],b=>by simp[J]
 |x::l,b=>by
  unfold J
  rw[bn,Eu f l,bn,Eu f l (ac++f x),dD,de]
theorem ri (f:α→ad):J f []=ac:=rfl
theorem jA (f:α→ad) (x:α) (l:List α):J f (x::l)=f x++J f l:=by
 show (l.foldl _ (ac++f x))=_
 rw[Eu,dD]
theorem zd (f:α→ad):∀ (a b:List α),J f (a++b)=J f a++J f b
 |[],b=>by rw[bg,ri,dD]
 |x::a,b=>by rw[aX,jA,jA,zd f a,de]
theorem Ev (f:β→ad) (g:α→List β):∀l:List α,J f (l.flatMap g)=J (fun x=>J f (g x)) l
 |[]=>rfl
 |x::l=>by rw[aG,zd,jA,Ev f g l]
theorem rV (f:β→ad) (g:α→β):∀l:List α,J f (l.map g)=J (fun x=>f (g x)) l
 |[]=>rfl
 |x::l=>by rw[av,jA,jA,rV f g l]
theorem sX {f g:α→ad}:∀ {l:List α},(∀x∈l,f x=g x)→J f l=J g l
 |[],_=>rfl
 |x::l,h=>by rw[jA,jA,h x (ar ..),sX (fun y hy=>h y (ak _ hy))]
theorem Ew (f:α→ad) (m:Nat):∀ {l:List α},(∀x∈l,(f x).size≤m)→(J f l).size≤l.length*m
 |[],_=>by simp[J]
 |x::l,h=>by
  rw[jA,aE,ab,c8,jO]
  have:=Ew f m (fun y hy=>h y (ak _ hy))
  have:=h x (ar ..)
  omega
end
theorem rj (l:List Int):jg l=J ae l:=rfl
theorem Jl (l:List bf):sV l=J (·.Text) l:=rfl
theorem nr (r:Int):(ae r).size≤4:=by
 rw[xN];exact (xO r).2
def wr (a:c6→ad) (u:c6):ad:=if u.base<0 then gj [u.broken] else a u
theorem Rk (a:c6→ad) (l:List c6) (d:l.length≤1048576) (h:∀u∈l,u.base<0∧U8 u.broken∨0≤u.base∧wO u=some (a u)∧(a u).size≤1048576):zb l=some (J (wr a) l):=by
 unfold zb
 refine cB ((px (xs:=l) (f:=fun b u=>b++wr a u) (J:=some) (fun k b=>b.size≤k*1048576) ?_ ?_ ?_ (j0 (by omega)) (by decide)).trans rfl)
 ·intro ag k u b hu hb
  have hk:=oc hu
  unfold zdx
  refine bS (lR hu) (cB (aY (kO hu) ?_))
  rcases h u (aP hu) with⟨h1,h2⟩|⟨h1,h2,h3⟩
  ·exact bS (ax h1) (gO (zdG (by simpa using h2) (zdG (ja (by omega)) (by simp only[wr,am h1]))))
  ·exact fC (aY h2 (gO (zdG (ja (by omega)) (by simp only[wr,aj (show ¬u.base<0 by omega)]))))
 ·intro k u b hu hb
  have c:(wr a u).size≤1048576:=by
   rcases h u (aP hu) with⟨h1,h2⟩|⟨h1,h2,h3⟩
   ·unfold wr;rw[am h1,CM];simp
   ·unfold wr;rw[aj (by omega)];exact h3
  rw[aE];omega
 ·intro ag b _;unfold zdx;exact bM lC rfl
def lm (x:bf):Prop:=fB x.Rune∧((x.Rune<0∧x.Text.size=1)∨(0≤x.Rune∧x.Text=ae x.Rune))
theorem wY {s:ad}:∀x∈fV s,lm x:=by
 intro x hx
 unfold fV at hx
 obtain⟨p,hp,rfl⟩:=aU.1 hx
 obtain⟨h1,h2⟩:=Jg hp
 obtain⟨g1,g2,a⟩:=uH s.data.toList p hp
 have hv:=a.valid
 cases hb:p.broken with
 |true=>obtain⟨e1,e2,_⟩:=h1 hb;exact⟨by rw[e1];exact⟨by omega,by omega⟩,.inl ⟨by omega,e2⟩⟩
 |false=>
  obtain⟨e1,e2⟩:=h2 hb
  refine⟨by rw[e1];exact⟨by omega,by omega⟩,.inr ⟨by omega,by rw[e2,e1]⟩⟩
theorem Ex {l:List bf} (h:∀x∈l,lm x):∀x∈apL l,lm x:=by
 intro y hy
 unfold apL at hy
 obtain⟨x,hx,hy⟩:=iI.1 hy
 unfold jm at hy
 split at hy
 ·rename_i hL
  obtain⟨r,hr,rfl⟩:=aU.1 hy
  obtain⟨b,d,c,hb,_,a,_⟩:=tW (show cZ x.Rune=true from hL)
  have h0:0≤r:=by
   rw[c] at hr
   rcases bo.1 hr with rfl|hr
   ·exact (mV _ hb).1
   ·have:=a r hr;unfold fc at this;simp at this;omega
  exact⟨Bk (h x hx).1 r hr,.inr ⟨h0,rfl⟩⟩
 ·simp at hy;subst hy;exact h _ hx
theorem Bo:∀ (xs:List bf) (f:Option (bf×List bf)) (c:bf×List bf),c∈fM f xs→(∀d,f=some d→dI d.1=false→d.2=[])→((c.1∈xs∨∃d,f=some d∧c.1=d.1)∧(∀m∈c.2,(isM m=true∧m∈xs)∨∃d,f=some d∧m∈d.2)∧(dI c.1=false→c.2=[]))
 |[],none,c,h,_=>by cases h
 |[],some d,c,h,hd=>by
  simp[fM] at h;subst h
  exact⟨.inr ⟨c,rfl,rfl⟩,fun m hm=>.inr ⟨c,rfl,hm⟩,hd c rfl⟩
 |x::xs,none,c,h,_=>by
  obtain⟨h1,h2,h3⟩:=Bo xs (some (x,[])) c h (fun d hd _=>by cases hd;rfl)
  refine⟨.inl ?_,fun m hm=>.inl ?_,h3⟩
  ·rcases h1 with h1|⟨d,hd,h1⟩
   ·exact ak _ h1
   ·cases hd;rw[h1];exact ar ..
  ·rcases h2 m hm with⟨a,b⟩|⟨d,hd,h2⟩
   ·exact⟨a,ak _ b⟩
   ·cases hd;cases h2
 |x::xs,some d,c,h,hd=>by
  have h':c∈(if dI d.1&&isM x then fM (some (d.1,d.2++[x])) xs else d::fM (some (x,[])) xs):=h
  cases hk:(dI d.1&&isM x) with
  |true=>
   rw[hk] at h'
   rw[aQ] at hk
   obtain⟨h1,h2,h3⟩:=Bo xs (some (d.1,d.2++[x])) c h' (fun e he g=>by cases he;rw[hk.1] at g;cases g)
   refine⟨?_,fun m hm=>?_,h3⟩
   ·rcases h1 with h1|⟨e,he,h1⟩
    ·exact .inl (ak _ h1)
    ·cases he;exact .inr ⟨d,rfl,h1⟩
   ·rcases h2 m hm with⟨a,b⟩|⟨e,he,h2⟩
    ·exact .inl ⟨a,ak _ b⟩
    ·cases he
     rcases bY.1 h2 with h2|h2
     ·exact .inr ⟨d,rfl,h2⟩
     ·simp at h2;subst h2;exact .inl ⟨hk.2,ar ..⟩
  |false=>
   rw[hk] at h'
   rcases bo.1 h' with rfl|h'
   ·exact⟨.inr ⟨c,rfl,rfl⟩,fun m hm=>.inr ⟨c,rfl,hm⟩,hd c rfl⟩
   ·obtain⟨h1,h2,h3⟩:=Bo xs (some (x,[])) c h' (fun e he _=>by cases he;rfl)
    refine⟨.inl ?_,fun m hm=>.inl ?_,h3⟩
    ·rcases h1 with h1|⟨e,he,h1⟩
     ·exact ak _ h1
     ·cases he;rw[h1];exact ar ..
    ·rcases h2 m hm with⟨a,b⟩|⟨e,he,h2⟩
     ·exact⟨a,ak _ b⟩
     ·cases he;cases h2
theorem Ey {xs:List bf} {c:bf×List bf} (h:c∈cl xs):c.1∈xs∧(∀m∈c.2,isM m=true∧m∈xs)∧(dI c.1=false→c.2=[]):=by
 obtain⟨h1,h2,h3⟩:=Bo xs none c h (fun d hd=>by cases hd)
 refine⟨?_,fun m hm=>?_,h3⟩
 ·rcases h1 with h1|⟨d,hd,_⟩
  ·exact h1
  ·cases hd
 ·rcases h2 m hm with h2|⟨d,hd,_⟩
  ·exact h2
  ·cases hd
theorem Bp:∀ (xs:List bf) (e:Option (bf×List bf)),(fM e xs).length≤xs.length+e.toList.length∧∀c∈fM e xs,c.2.length≤xs.length+(e.toList.map (·.2.length)).sum
 |[],none=>by simp[fM]
 |[],some d=>by simp[fM]
 |x::xs,none=>by
  have:=Bp xs (some (x,[]))
  refine⟨?_,fun c hc=>?_⟩
  ·have h1:=this.1;show (fM (some (x,[])) xs).length≤_;simp at h1 ⊢;omega
  ·have h1:=this.2 c hc;simp at h1 ⊢;omega
 |x::xs,some d=>by
  have a:=Bp xs (some (d.1,d.2++[x]))
  have b:=Bp xs (some (x,[]))
  show (if dI d.1&&isM x then fM (some (d.1,d.2++[x])) xs else d::fM (some (x,[])) xs).length≤_∧_
  show _∧∀c∈(if dI d.1&&isM x then fM (some (d.1,d.2++[x])) xs else d::fM (some (x,[])) xs),_
  split
  ·refine⟨by have:=a.1;simp at this ⊢;omega,fun c hc=>by have:=a.2 c hc;simp at this ⊢;omega⟩
  ·refine⟨by have:=b.1;simp at this ⊢;omega,fun c hc=>?_⟩
   rcases bo.1 hc with rfl|hc
   ·simp
   ·have:=b.2 c hc;simp at this ⊢;omega
theorem Jn (xs:List bf):(cl xs).length≤xs.length∧∀c∈cl xs,c.2.length≤xs.length:=by
 have:=Bp xs none
 simpa [cl] using this
theorem tZ {s:ad} (d:s.size≤65536):(kD s).length≤196608∧∀c∈kD s,lm c.1∧(∀m∈c.2,isM m=true∧lm m)∧(dI c.1=false→c.2=[])∧c.2.length≤196608:=by
 have h1:=Jn (apL (fV s))
 have h2:=uZ (fV s)
 have h3:(fV s).length≤s.size:=by unfold fV;simpa using qz s
 have a:=Ex (wY (s:=s))
 refine⟨by unfold kD;omega,fun c hc=>?_⟩
 obtain⟨g1,g2,b⟩:=Ey hc
 exact⟨a _ g1,fun m hm=>⟨(g2 m hm).1,a _ (g2 m hm).2⟩,b,by have:=h1.2 c hc;omega⟩
theorem wZ (c:bf×List bf) (h:lm c.1):(fu c).base<0∧U8 (fu c).broken∧c.1.Rune<0∧gj [(fu c).broken]=c.1.Text∨0≤(fu c).base∧0≤c.1.Rune∧c.1.Text=ae c.1.Rune∧fu c=⟨c.1.At,0,c.1.Rune,(loI c.2).map (·.Rune),(hiI c.2).map (·.Rune)⟩:=by
 rcases h.2 with⟨h1,h2⟩|⟨h1,h2⟩
 ·left
  have e:fu c=⟨c.1.At,kP c.1.Text,-1,[],[]⟩:=by unfold fu;rw[am h1]
  rw[e]
  refine⟨by show (-1:Int)<0;omega,?_,h1,?_⟩
  ·show U8 (kP c.1.Text);unfold kP;constructor
   ·omega
   ·have:=(c.1.Text.data.toList.headD 0).toNat_lt;omega
  ·show gj [kP c.1.Text]=_
   apply _root_.ByteArray.ext;apply fA.1
   have a:c.1.Text.data.toList.length=1:=by rw[cU];exact h2
   cases d:c.1.Text.data.toList with
   |nil=>rw[d] at a;cases a
   |cons b l=>
    rw[d] at a
    have:l=[]:=ck (by simpa using a)
    subst this
    unfold gj kP
    rw[d];simp
 ·right
  have e:fu c=⟨c.1.At,0,c.1.Rune,(loI c.2).map (·.Rune),(hiI c.2).map (·.Rune)⟩:=by unfold fu;rw[aj (by omega)]
  rw[e]
  exact⟨h1,h1,h2,rfl⟩
def oP (xs:List bf):List bf:=(cl xs).map bw
theorem Jo:oP []=[]:=rfl
theorem Rm {x:bf} (h:dI x=true) (xs:List bf):oP (x::xs)=x::oP (xs.dropWhile isM):=by unfold oP;rw[wU h];rfl
theorem Rp {x:bf} (h:dI x=false) (xs:List bf):oP (x::xs)=x::oP xs:=by unfold oP;rw[Bl h];rfl
theorem Jp (P R:List bf) (a:∀m∈P,isM m=true) (c:∀y,R.head?=some y→isM y=false):(P++lS R).takeWhile isM=P:=by
 induction P with
 |nil=>
  cases R with
  |nil=>rfl
  |cons y R=>
   have hy:=c y rfl
   rw[bg]
   cases hL:dI y with
   |true=>rw[u0 hL,aW,hy];rfl
   |false=>rw[u6 hL,aW,hy];rfl
 |cons m P b=>
  rw[aX,aW,a m (ar ..)]
  simp only[if_true]
  rw[b (fun z hz=>a z (ak _ hz))]
theorem Jq (xs:List bf):∀y,(xs.dropWhile isM).head?=some y→isM y=false:=by
 intro y hy
 have:=List.head?_dropWhile_not (p:=isM) (l:=xs)
 rw[hy] at this
 simpa using this
theorem ua (xs:List bf):(lS xs).length=xs.length:=by
 obtain⟨n,b⟩:∃n,xs.length≤n:=⟨_,bq _⟩
 induction n generalizing xs with
 |zero=>have:xs=[]:=ck (by omega);subst this;rfl
 |succ n a=>
  cases xs with
  |nil=>rfl
  |cons x xs=>
   simp only[ab] at b
   cases hL:dI x with
   |false=>rw[u6 hL,ab,ab,a xs (by omega)]
   |true=>
    have h1:=rT (xs.takeWhile isM)
    have h2:xs.length=(xs.takeWhile isM).length+(xs.dropWhile isM).length:=by
     have:=aM List.length (dS (p:=isM) (l:=xs))
     rw[aa] at this;exact this.symm
    rw[u0 hL,ab,aa,h1,a _ (by omega),ab];omega
theorem Rs {xs:List bf} {y:bf} (h:y∈lS xs):y∈xs:=by
 unfold lS at h
 obtain⟨c,hc,hy⟩:=iI.1 h
 obtain⟨h1,h2,_⟩:=Ey hc
 unfold mG loI hiI at hy
 rcases bo.1 hy with rfl|hy
 ·exact h1
 ·rw[bY,cq,cq] at hy
  rcases hy with hy|hy<;>exact (h2 y hy.1).2
theorem Rt (r1:List bf) (J:List bf→Option (List bf)) (hb:r1.length≤1073741824):∀ (m n:Nat) (A B out:List bf),B.length≤m→B.length<n→r1=A++lS B→rh B→out.length≤A.length →
  zaC (fun _ _=>none) (zev J r1) n out (A.length:Int)=J (out++oP B):=by
 intro m
 induction m with
 |zero=>
  intro n A B out hB o he a s
  have:B=[]:=ck (by omega)
  subst this
  obtain⟨n,rfl⟩:∃k,n=k+1:=⟨n-1,by omega⟩
  rw[wV,aH] at he
  rw[gk]
  unfold zev
  exact bM (al (by rw[he];omega)) (by rw[Jo,aH])
 |succ m h=>
  intro n A B out hB o he a s
  obtain⟨n,rfl⟩:∃k,n=k+1:=⟨n-1,by omega⟩
  cases B with
  |nil=>
   rw[wV,aH] at he
   rw[gk]
   unfold zev
   exact bM (al (by rw[he];omega)) (by rw[Jo,aH])
  |cons x xs=>
   simp only[ab] at hB o
   have c:=a x (ar ..)
   have p:r1.length=A.length+1+xs.length:=by rw[he,aa,ua];simp;omega
   rw[gk]
   generalize f:zaC (fun _ _=>none) (zev J r1) n=ag at h ⊢
   unfold zev
   have b:zca r1 (A.length:Int)=some x:=gM (by
    rw[he]
    cases hL:dI x with
    |true=>rw[u0 hL];exact tX A x _
    |false=>rw[u6 hL];exact tX A x _)
   refine eR (cB (aY b (gO (aY b (aY (wS x c) ?_)))))
   have l:cZ x.Rune=dI x:=rfl
   rw[l]
   cases hL:dI x with
   |false=>
    rw[u6 hL] at he
    refine bM rfl (gO ?_)
    have:=h n (A++[x]) xs (out++[x]) (by omega) (by omega) (by rw[he];simp) (fun z hz=>a z (ak _ hz)) (by simp;omega)
    rw[f] at this
    rw[show ((A.length:Int)+1)=((A++[x]).length:Int) by simp,this,Rp hL];simp
   |true=>
    rw[u0 hL] at he
    obtain⟨M,R,q,j,g⟩:∃M R,M=xs.takeWhile isM∧R=xs.dropWhile isM∧xs=M++R:=⟨_,_,rfl,rfl,(dS).symm⟩
    rw[←q,←j] at he
    have d:=rT M
    have r:xs.length=M.length+R.length:=by rw[g];simp
    have e:dK r1 ((A.length:Int)+1) (r1.length:Int)=(loI M++hiI M)++lS R:=by
     rw[he];exact Eo A x _ _ rfl
    refine bS rfl (gO (gO ?_))
    rw[e]
    refine aY (Ef _ (by rw[aa,ua];omega)) ?_
    have i:(((loI M++hiI M)++lS R).takeWhile fun x=>fc x.Rune)=loI M++hiI M:=Jp _ _ (Ej (by rw[q];exact Ek xs)) (by rw[j];exact Jq xs)
    rw[i,d]
    refine gO (gO ?_)
    have:=h n (A++[x]++(loI M++hiI M)) R (out++[x]) (by omega) (by omega) (by rw[he];simp) (fun z hz=>a z (by rw[g];exact ak _ (List.mem_append_right _ hz))) (by simp;omega)
    rw[f] at this
    rw[show ((A.length:Int)+(M.length:Int)+1)=((A++[x]++(loI M++hiI M)).length:Int) by rw[aa,d];simp;omega,this,Rm hL,←j];simp
theorem Ru (l:List bf) (a:rh l) (b:l.length≤268435456):y0 l=some (oP (apL l)):=by
 unfold y0
 refine cB (aY (Ep l a b) ?_)
 have h1:=uZ l
 have h2:=ua (apL l)
 have:=Rt (lS (apL l)) some (by omega) (apL l).length zbx [] (apL l) [] (bq _) (j0 (by omega)) rfl (Em a) (bq _)
 simpa using this
def vd:List (Int×List UInt8):=[(223,[115,115]),(230,[97,101]),(248,[111]),(240,[100]),(254,[116,104]),(273,[100]),(295,[104]),(305,[105]),(307,[105,106]),(312,[113]),(320,[108]),(322,[108]),(329,[110]),(331,[110,103]),(339,[111,101]),(359,[116]),(383,[115]),(962,[207,131])]
def kE (r:Int):ad:=match zbP r vd with | some b=>⟨b.toArray⟩ | none=>ae r
theorem Rv (r:Int) (hr:fB r):yZ r=some (kE r):=by
 unfold kE vd
 simp only[zbP]
 unfold yZ
 simp only[co]
 have e:∀n:Int,(((r:Int)==n)=decide (r=n)):=fun n=>by rw[dJ];simp
 by_cases h1:r=223
 ·subst h1;rfl
 by_cases h2:r=230
 ·subst h2;rfl
 by_cases h3:r=248
 ·subst h3;rfl
 by_cases p:r=240
 ·subst p;rfl
 by_cases h5:r=273
 ·subst h5;rfl
 by_cases o:r=254
 ·subst o;rfl
 by_cases m:r=295
 ·subst m;rfl
 by_cases l:r=305
 ·subst l;rfl
 by_cases k:r=307
 ·subst k;rfl
 by_cases j:r=312
 ·subst j;rfl
 by_cases i:r=320
 ·subst i;rfl
 by_cases h:r=322
 ·subst h;rfl
 by_cases g:r=329
 ·subst g;rfl
 by_cases f:r=331
 ·subst f;rfl
 by_cases d:r=339
 ·subst d;rfl
 by_cases c:r=359
 ·subst c;rfl
 by_cases b:r=383
 ·subst b;rfl
 by_cases a:r=962
 ·subst a;rfl
 simp only[e,al h1,al h2,al h3,al p,al h5,al o,al m,al l,al k,al j,al i,al h,al g,al f,al d,al c,al b,al a,aN,cond_false,h1,h2,h3,p,h5,o,m,l,k,j,i,h,g,f,d,c,b,a,if_false]
 exact aY (Bb r hr) rfl
theorem Ez (r:Int):(kE r).size≤4:=by
 unfold kE
 split
 ·rename_i b hb
  have h:∀p∈vd,p.2.length≤4:=by decide
  have:=h _ (sU hb)
  show (b.toArray).size≤4;simpa using this
 ·exact nr r
def mX (x:bf):bf:=if dI x then ⟨x.Rune,kE (cA x.Rune),x.At⟩ else x
theorem Jr (r:Int) (h:cZ r=true):fB (cA r):=by
 have:=mV r h
 unfold cA
 constructor<;>((repeat' split)<;>omega)
theorem Rx (s:ad) (m:s.size≤65536):y2 s=some ((oP (apL (fV s))).map mX):=by
 unfold y2
 have h3:(fV s).length≤s.size:=by unfold fV;simpa using qz s
 have d:rh (fV s):=fun x hx=>(wY x hx).1
 refine cB (aY (wT s (by omega)) (aY (Ru _ d (by omega)) ?_))
 have b:rh (oP (apL (fV s))):=by
  intro x hx
  unfold oP at hx
  obtain⟨c,hc,rfl⟩:=aU.1 hx
  exact Em d _ (Ey hc).1
 have g:(oP (apL (fV s))).length≤196608:=by
  have h1:=(Jn (apL (fV s))).1
  have h2:=uZ (fV s)
  unfold oP;rw[az];omega
 generalize oP (apL (fV s))=B at b g
 have key:∀ (n k:Nat),k≤B.length→B.length-k<n→zaC (fun _ _=>none) (zeI some B) n ((B.take k).map mX++B.drop k) (k:Int)=some (B.map mX):=by
  intro n
  induction n with
  |zero=>intro k _ h;omega
  |succ n j=>
   intro k hk o
   rw[gk]
   generalize zaC (fun _ _=>none) (zeI some B) n=ag at j ⊢
   unfold zeI
   by_cases h:k<B.length
   ·have hx:B[k]?=some B[k]:=aJ h
    have hd:=aR h
    have f:=b B[k] (aP hx)
    have a:=j (k+1) (by omega) (by omega)
    have ht:B.take (k+1)=B.take k++[B[k]]:=by rw[List.take_add_one,hx];rfl
    generalize l:B[k]=x at *
    have e:((B.take k).map mX).length=k:=by simp;omega
    have hg:zca ((B.take k).map mX++B.drop k) (k:Int)=some x:=gM (by
     rw[hd]
     have:=tX ((B.take k).map mX) x (B.drop (k+1))
     rwa [e] at this)
    refine eR (cB (aY hg (aY (wS x f) ?_)))
    have i:cZ x.Rune=dI x:=rfl
    rw[i]
    rw[ht,cM] at a
    push_cast at a
    cases hL:dI x with
    |false=>
     refine bM rfl (zdG (ja (by omega)) ?_)
     have hf:mX x=x:=by unfold mX;rw[hL];rfl
     rw[←a,hd]
     congr 1
     simp[hf]
    |true=>
     refine bS rfl (zdG f (aY (Rv _ (Jr _ hL)) (aY hg (zdG (ja (by omega)) ?_))))
     have hf:mX x=⟨x.Rune,kE (cA x.Rune),x.At⟩:=by unfold mX;rw[hL];rfl
     rw[←a]
     congr 1
     rw[hd,show ((k:Int)).toNat=((B.take k).map mX).length by rw[e];simp,List.set_append_right _ _ (bq _)]
     simp[hf]
   ·have:k=B.length:=by omega
    subst this
    exact bM lC (by rw[List.take_length,gp,aH])
 have:=key zbx 0 (bG _) (by have:=j0 (n:=B.length) (by omega);omega)
 simpa using this
def Bq (g:Int) (h:Option ad) (f:Int→Bool→Nat→Option ad) (a:Int) (b:Bool) (e:Nat):Option ad := aN (decide (e<(eQ gl.data.toList).length)) (aT ((eQ gl.data.toList)[e]?) fun (p1:Pc)=>co (fun (c:Int→Option ad)=>aN (((p1.r:Int):Int)==32) (aN (decide ((0:Int)≤a)) (aV (0≤(a:Int)∧(a:Int)≤(p1.i:Int)∧((p1.i:Int):Int)≤(gl.size:Int)) <|some (cO gl a (p1.i:Int))) (aN (((p1.r:Int):Int)==32) (c a) (aN (b) (aN (((p1.r:Int):Int)==g) (aV (cr ((p1.i:Int)+((ae (p1.r:Int)).size:Int))) <|c ((p1.i:Int)+((ae (p1.r:Int)).size:Int))) (c a)) (c a)))) (aN (((p1.r:Int):Int)==32) (c a) (aN (b) (aN (((p1.r:Int):Int)==g) (aV (cr ((p1.i:Int)+((ae (p1.r:Int)).size:Int))) <|c ((p1.i:Int)+((ae (p1.r:Int)).size:Int))) (c a)) (c a)))) (fun (d:Int)=>f d (((p1.r:Int):Int)==32) (e+1))) (h)
def nK:List Pc:=eQ gl.data.toList
def EA (a:Int):Option ad:=zaC (fun _ _ _=>none) (Bq a (some (ae a))) zbx (-1) true 0
def hds:List Pc→Bool→List Int
 |[],_=>[]
 |p::ps,h=>(if (p.r==32) then [] else if h then [(p.r:Int)] else [])++hds ps (p.r==32)
theorem Ry:hds nK true=vd.map bw:=by decide +kernel
theorem Rz:(vd.all fun p=>decide (EA p.1=some (kE p.1)))=true:=by decide +kernel
theorem RA (f:Int) (J:Option ad):∀ (n m:Nat) (h:Bool),m≤nK.length→nK.length-m<n→f ∉ hds (nK.drop m) h→zaC (fun _ _ _=>none) (Bq f J) n (-1) h m=J:=by
 intro n
 induction n with
 |zero=>intro m h _ i;omega
 |succ n g=>
  intro m h hm i c
  rw[gk]
  generalize zaC (fun _ _ _=>none) (Bq f J) n=ag at g ⊢
  unfold Bq
  by_cases a:m<nK.length
  ·have hx:nK[m]?=some nK[m]:=aJ a
   rw[aR a] at c
   generalize nK[m]=p at hx c
   unfold hds at c
   rw[bY,not_or] at c
   have e:((p.r:Int)==32)=(p.r==32):=by rw[dJ];simp;omega
   refine bS (ax a) (aY hx (cB ?_))
   have d:ag (-1) ((p.r:Int)==32) (m+1)=J:=g (m+1) _ (by omega) (by omega) (by rw[e];exact c.2)
   cases b:((p.r:Int)==32) with
   |true=>
    rw[b] at d
    exact bS rfl (bM (by decide) (bS rfl d))
   |false=>
    rw[b] at d
    refine bM rfl (bM rfl ?_)
    cases h with
    |false=>exact bM rfl d
    |true=>
     have h1:=c.1
     rw[←e,b] at h1
     refine bS rfl (bM ?_ d)
     rw[aC]
     intro e2
     exact h1 (by simp[e2])
  ·exact bM (al a) rfl
theorem RC (a:Int):EA a=some (kE a):=by
 by_cases h:a∈vd.map bw
 ·obtain⟨p,hp,rfl⟩:=aU.1 h
  exact of_decide_eq_true (List.all_eq_true.1 Rz p hp)
 ·have:EA a=some (ae a):=RA a _ zbx 0 true (bG _) (by
   have:nK.length≤100000:=by decide +kernel
   unfold zbx;omega) (by rw[List.drop_zero,Ry];exact h)
  rw[this]
  unfold kE
  cases hg:zbP a vd with
  |none=>rfl
  |some b=>exact absurd (aU.2 ⟨_,sU hg,rfl⟩) h
theorem RE (u:c6) (hu:fB u.base):wO u=some (if cZ u.base then kE (cA u.base) else ae u.base):=by
 unfold wO
 refine aY (Bi u hu) ?_
 cases hL:cZ u.base with
 |false=>exact bS rfl rfl
 |true=>exact bM rfl (cB (zdG hu (RC (cA u.base))))
def pg (c:bf×List bf):ad:=(mX c.1).Text
def iU (s:ad):ad:=J pg (kD s)
theorem EB (b:c6→ad) (g:bf×List bf→ad) (s:ad) (e:s.size≤65536) (h:∀c∈kD s,0≤c.1.Rune→b (fu c)=g c) (a:∀c∈kD s,c.1.Rune<0→g c=c.1.Text):J (wr b) ((kD s).map fu)=J g (kD s):=by
 rw[rV]
 refine sX fun c hc=>?_
 obtain⟨h1,h2,h3,_⟩:=(tZ e).2 c hc
 unfold wr
 rcases wZ c h1 with⟨g1,_,d,g4⟩|⟨g1,g2,d,g4⟩
 ·rw[am g1,g4,a c hc d]
 ·rw[aj (by omega),h c hc g2]
theorem Bt {x:bf} (h:x.Rune<0):dI x=false:=by
 cases e:dI x with
 |false=>rfl
 |true=>have:=(mV x.Rune e).1;omega
theorem Js (c:bf×List bf) (h:lm c.1):(0≤c.1.Rune→(if cZ (fu c).base then kE (cA (fu c).base) else ae (fu c).base)=pg c)∧(c.1.Rune<0→pg c=c.1.Text):=by
 constructor
 ·intro h0
  have hb:=Es c h0
  rw[hb]
  unfold pg mX dI
  rcases h.2 with⟨h1,_⟩|⟨_,h2⟩
  ·omega
  ·cases cZ c.1.Rune with
   |true=>rfl
   |false=>simp[h2]
 ·intro h0
  unfold pg mX;rw[Bt h0];rfl
theorem Bu (s:ad) (b:s.size≤65536):pf s=some (iU s):=by
 unfold pf
 obtain⟨d,hc⟩:=tZ b
 refine aY (Et s b) (aY (Rk (fun u=>if cZ u.base then kE (cA u.base) else ae u.base) _ (by rw[az];omega) ?_) ?_)
 ·intro u hu
  obtain⟨c,a,rfl⟩:=aU.1 hu
  obtain⟨h1,_⟩:=hc c a
  rcases wZ c h1 with⟨g1,g2,_⟩|⟨g1,g2,e,g4⟩
  ·exact .inl ⟨g1,g2⟩
  ·refine .inr ⟨g1,RE _ (by rw[Es c g2];exact h1.1),?_⟩
   split
   ·have:=Ez (cA (fu c).base);omega
   ·have:=nr (fu c).base;omega
 ·rw[EB _ pg s b (fun c a h0=>(Js c (hc c a).1).1 h0) (fun c a h0=>(Js c (hc c a).1).2 h0)];rfl
theorem Jt {l:List bf} {m:Nat} (h:∀x∈l,x.Text.size≤m):pd l≤l.length*m:=by
 unfold pd
 induction l with
 |nil=>simp
 |cons x l a=>
  have:=a (fun y hy=>h y (ak _ hy))
  have:=h x (ar ..)
  simp only[av,List.sum_cons,ab,c8,jO];omega
theorem ub {x:bf} (h:lm x):x.Text.size≤4:=by
 rcases h.2 with⟨_,h⟩|⟨_,h⟩
 ·omega
 ·rw[h];exact nr _
theorem Ju {x:bf} (h:lm x):(mX x).Text.size≤4:=by
 unfold mX
 split
 ·exact Ez _
 ·exact ub h
theorem RF (s:ad):oP (apL (fV s))=(kD s).map bw:=rfl
theorem EC (s:ad) (b:s.size≤65536):sR s=some (iU s):=by
 unfold sR
 obtain⟨d,hc⟩:=tZ b
 refine aY (Rx s b) ?_
 rw[RF,cn]
 have hsz:pd ((kD s).map (mX ∘ bw))≤((kD s).map (mX ∘ bw)).length*4:=Jt (fun x hx=>by
  obtain⟨c,a,rfl⟩:=aU.1 hx
  exact Ju (hc c a).1)
 rw[az] at hsz
 refine aY (Ed _ (by rw[az];omega) (by omega)) ?_
 rw[Jl,rV];rfl
theorem Bv (l:List Int):(jg l).size≤l.length*4:=by rw[rj];exact Ew _ 4 fun x _=>nr x
def jR (x:bf):bf:=⟨x.Rune,x.Text,0⟩
def nt (c:bf×List bf):bf×List bf:=(jR c.1,c.2.map jR)
theorem ED (x:bf):dI (jR x)=dI x:=rfl
theorem RG (x:bf):isM (jR x)=isM x:=rfl
theorem Bw:∀ (xs:List bf) (a:Option (bf×List bf)),fM (a.map nt) (xs.map jR)=(fM a xs).map nt
 |[],none=>rfl
 |[],some c=>rfl
 |x::xs,none=>Bw xs (some (x,[]))
 |x::xs,some c=>by
  show (if dI (jR c.1)&&isM (jR x) then fM (some (jR c.1,c.2.map jR++[jR x])) (xs.map jR) else nt c::fM (some (jR x,[])) (xs.map jR))=(if dI c.1&&isM x then fM (some (c.1,c.2++[x])) xs else c::fM (some (x,[])) xs).map nt
  rw[ED,RG]
  have h1:=Bw xs (some (c.1,c.2++[x]))
  have h2:=Bw xs (some (x,[]))
  simp only[Option.map_some,nt,cM,av,ed] at h1 h2
  split
  ·exact h1
  ·rw[av,←h2]
theorem RH (xs:List bf):cl (xs.map jR)=(cl xs).map nt:=Bw xs none
theorem RI (x:bf):jm (jR x)=(jm x).map jR:=by
 unfold jm
 rw[ED]
 split
 ·rw[cn];rfl
 ·rfl
theorem RJ (xs:List bf):apL (xs.map jR)=(apL xs).map jR:=by
 unfold apL
 induction xs with
 |nil=>rfl
 |cons x xs a=>rw[av,aG,aG,cM,a,RI]
theorem RK (c:bf×List bf):pg (nt c)=pg c:=by
 unfold pg mX nt
 rw[ED]
 split<;>rfl
def zf9 (t:dq):bf:=⟨if t.broken then -1 else (t.r:Int),⟨t.bs.toArray⟩,0⟩
def jS (ts:List dq):List (bf×List bf):=cl (apL (ts.map zf9))
def FT (ts:List dq):ad:=J pg (jS ts)
theorem Jv (s:ad):∀ (ts pre:List dq),s.data.toList=cP (pre++ts)→((place (cP pre).length ts).map (itG s)).map jR=ts.map zf9
 |[],pre,_=>rfl
 |t::ts,pre,h=>by
  have e:(cP pre).length+t.bs.length=(cP (pre++[t])).length:=by rw[mr,aa];simp[cP]
  show jR (itG s ⟨(cP pre).length,t.bs.length,t.r⟩)::((place ((cP pre).length+t.bs.length) ts).map (itG s)).map jR=_
  rw[e,Jv s ts (pre++[t]) (by rw[h];simp),av]
  congr 1
  unfold jR itG zf9
  have hb:(⟨(cP pre).length,t.bs.length,t.r⟩:Pc).broken=t.broken:=rfl
  rw[hb]
  have ht:s.extract (cP pre).length ((cP pre).length+t.bs.length)=⟨t.bs.toArray⟩:=by
   apply _root_.ByteArray.ext;apply fA.1
   rw[nh,h,mr,mq]
   simp
  simp only[ht]
theorem Jw (s:ad):(fV s).map jR=(eU s.data.toList).map zf9:=by
 unfold fV eQ
 rw[Ii]
 have:=Jv s (eU s.data.toList) [] (by rw[bg,tP])
 exact this
theorem ze (s:ad):(kD s).map nt=jS (eU s.data.toList):=by
 unfold jS kD
 rw[←Jw,RJ,RH]
theorem Jx (s:ad):iU s=FT (eU s.data.toList):=by
 unfold iU FT
 rw[←ze,rV]
 exact sX fun c _=>(RK c).symm
def jt (r:Int):bf:=⟨r,ae r,0⟩
theorem EE {t:dq} (h:t.valid):zf9 t=jt (t.r:Int):=by
 unfold zf9 jt
 rw[wt h]
 have:(⟨t.bs.toArray⟩:ad)=ae (t.r:Int):=by
  apply _root_.ByteArray.ext;apply fA.1
  rw[nF,←h.2]
 rw[this];rfl
theorem Jy {r:Int} (h:cZ r=false):iw r=[r]:=by
 unfold iw
 cases e:zbP r tabS with
 |none=>rfl
 |some p=>have:=(Eh e).2.2;rw[h] at this;cases this
theorem RL (r:Int):jm (jt r)=(iw r).map jt:=by
 unfold jm
 cases h:dI (jt r) with
 |true=>rfl
 |false=>rw[Jy (show cZ r=false from h)];rfl
theorem Jz (rs:List Int):apL (rs.map jt)=(rs.flatMap iw).map jt:=by
 unfold apL
 induction rs with
 |nil=>rfl
 |cons r rs a=>rw[av,aG,aG,cM,a,RL]
def ku (r:Int):dq:=⟨r.toNat,encodeRune r⟩
theorem zf {r:Int} (h:vr r):(ku r).valid:=by
 unfold vr at h
 refine⟨?_,?_⟩
 ·show r.toNat<55296∨_;simp only[ku];omega
 ·show encodeRune r=encodeRune ((r.toNat:Nat):Int)
  rw[show ((r.toNat:Nat):Int)=r by omega]
theorem RM {rs:List Int} (h:∀r∈rs,vr r):eU (jg rs).data.toList=rs.map ku:=by
 have e:(jg rs).data.toList=cP (rs.map ku):=by
  rw[rj]
  clear h
  induction rs with
  |nil=>rfl
  |cons r rs a=>
   rw[jA,av,mq,←a]
   have:(ae r).data.toList=encodeRune r:=nF r
   show (ae r++J ae rs).data.toList=encodeRune r++_
   rw[←this];simp
 rw[e]
 have:=DK (vs:=rs.map ku) (fun t ht=>by obtain⟨r,hr,rfl⟩:=aU.1 ht;exact zf (h r hr)) []
 simpa [uI] using this
theorem RN {rs:List Int} (h:∀r∈rs,vr r):iU (jg rs)=J pg (cl ((rs.flatMap iw).map jt)):=by
 rw[Jx,RM h]
 unfold FT jS
 have:(rs.map ku).map zf9=rs.map jt:=by
  rw[cn]
  refine List.map_congr_left fun r hr=>?_
  have hv:=h r hr
  show zf9 (ku r)=jt r
  rw[EE (zf hv)]
  show jt ((r.toNat:Nat):Int)=jt r
  rw[show ((r.toNat:Nat):Int)=r by unfold vr at hv;omega]
 rw[this,Jz]
end Go.Proofs.YtifpjbgnikjglaaGreatDoor


namespace Go.Proofs.YtifpjbgnikjglaaGreatDoor
open Go.RowKit Go.Lib
open Tryz
set_option linter.unusedVariables false
set_option linter.unusedSimpArgs false
open _root_.Bool renaming and_eq_true→aQ,not_true→cW,false_eq_true→bj,not_false→cT
open _root_.ByteArray renaming empty→ac,size_append→aE,append_assoc→de,append_empty→bx
open _root_.Go.IntWalk renaming i64_in→ai
open _root_.Go.Proofs.Tryz renaming underlying120→eT,underlying46→cg,underlying9→an,underlying21→aZ,underlying103→bp,underlying127→jV,underlying77→aI,underlying82→tx
open aq renaming nil→ah
open Vw renaming get→ce
open _root_.Go.Utf8 renaming encode→ae
open _root_.Go.Value renaming agg→bl,int→aB,bool→ay
open _root_.List renaming mem_of_getElem?→aP,mem_filter→cq,length_filter_le→qb,length_map→az,mem_map→aU,length_append→aa,all_eq_true→bd,foldl_cons→bn,length_cons→ab,length_nil→aL,mem_cons_self→ar,mem_cons_of_mem→ak,map_cons→av,cons_append→aX,append_nil→aH,mem_append→bY,flatMap_cons→aG,singleton_append→qk,mem_cons→bo,map_append→cM,filter_cons→iK,filter_eq_self→rz,filter_eq_nil_iff→pD
open _root_.List.cons renaming inj→nc
open _root_.Nat renaming zero_add→cf,zero_le→bG,le_refl→bq
open _root_.Option.some renaming inj→mL
open _root_.Prod renaming fst→bw
def zc6 (e:List c6) (g:ad→Option ad) (d:ad→Int→Option ad) (a:ad) (c:Int):Option ad := aN (decide ((c:Int)<(e.length:Int))) (co (fun (f:ad→Option ad)=>aT (zca e c) fun (b:c6)=>aN (decide ((b.base:Int)<0)) (aV (a.size+1≤140737488355328) <|aV (∀x∈([b.broken]:List Int),U8 x) <|f (a++(gj [b.broken]))) (aT (y4 b) fun (r1:ad)=>aV (a.size+r1.size≤140737488355328) <|f (a++r1))) (fun (h:ad)=>aV (cr (c+1)) <|d h (c+1))) (g a)
def zg (a:List c6):Option ad := co (fun (b:ad→Option ad)=>zaC (fun _ _=>none) (zc6 a b) zbx ac 0) (fun (b1:ad)=>some b1)
theorem RP {d m:Value} {a:List (c6×Hd×Hd)} {w:Nat} {t:List (c6×Hd×Hd)} {s:List c6} (f:Vw d a 5 w m t) (o:t.map bw=s) {r:ad} (h:zg s=some r):Fn prog 75 [m,.func (.func 134) #[] #[]] [np d a,own iH a] (fun _b:Unit=>.string r) (fun _b=>[np d a,own iH a]):=by
 unfold zg at h
 refine _root_.Go.Proofs.YtifpjbgnikjglaaGreatDoor.Fn.intro func75 rfl ntmps75 (by simp) (fun w0 K=>zbq h fun y G h=>zaL (β:=ad×Value) 2 rfl (fun b=>y b.1=some r) (fun b=>[]) (fun b=>[(5,b.2)]) (fun b=>[np d a,own iH a,byt 5 b.2 b.1]) (fun cut=>?_) ?_)
 ·refine zyG (zyR 1 rfl (zyH (zyR 1 rfl (zyN (cut (zyG (zyR 1 rfl (CZ o f rfl dc rfl eT (zyR 1 rfl (zyN (zat (xY (e:=5) (eF (β:=Nat×ad×Int×Value) (fun b=>zaC (fun _ _=>none) (zc6 s y) b.1 b.2.1 b.2.2.1=some r) (fun b=>[]) (fun b=>[(1,.func (.func 134) #[] #[]),(5,b.2.2.2),(8,m),(9,zI (s.length:Int)),(10,zI b.2.2.1)]) (fun b=>[np d a,own iH a,byt 5 b.2.2.2 b.2.1]) (fun b=>b.1) (zbx,ac,0,(.slice none 0 0)) h rfl (bI rfl) (cp 3) ?_)))))))))))))
  rintro⟨x,z,u,Q⟩ h
  cases x with
  |zero=>exact ew h
  |succ x=>
   obtain⟨M,p⟩:∃ag,ag=zaC (fun _ _=>none) (zc6 s y) x:=⟨_,rfl⟩
   have h:zc6 s y M z u=some r:=by rw[p];exact h
   unfold zc6 at h
   refine zyG (zaT rfl zbd (zyN (zaJ (zyB rfl h (fun h=>?_) (fun h=>?_)))))
   ·refine zap (zaz (zbq h fun S F h=>zaL (β:=ad×Value) 0 rfl (fun b=>S b.1=some r) (fun b=>[]) (fun b=>[(1,.func (.func 134) #[] #[]),(5,b.2),(8,m),(9,zI (s.length:Int)),(10,zI u)]) (fun b=>[np d a,own iH a,byt 5 b.2 b.1]) (fun cut=>?_) ?_))
    ·refine cut (zat (zyG (zbk h fun c E h=>?_)))
     obtain⟨⟨l,g⟩,n⟩:=xX o E
     exact fy f n eT sI rfl dc rfl rfl rfl (mj (i:=w+(u:Int).toNat) (j:=0) (k:=0) (q:=(c,(l,g))) (cs:=[zI c.at_,.int .u8 c.broken,.int .i32 c.base,l.v,g.v]) qU pu rfl dc rfl rfl (ce f n) rfl rfl rfl (zbi AJ rfl dc (fun V=>eE (k:=3) (vs:=[zI c.at_,.int .u8 c.broken,.int .i32 c.base,l.v,g.v]) (l':=[zI c.at_,.int .u8 c.broken,.int .i32 c.base,l.v,g.v]) sI rfl rfl rfl rfl rfl (show _≤_ by simp) rfl rfl (zyH (zab zgo rfl dc rfl (show _=2 from rfl) (zas (k:=3) eZ rfl dc rfl rfl rfl (zaT rfl zbd (zyN (zyB rfl h (fun h=>bX (zyR 1 rfl (zab Dh rfl dc rfl (show _=1 from rfl) (zas (k:=3) AB rfl dc rfl rfl rfl (fx (cs:=[.int .u8 c.broken]) (te:=5) (ps:=[(0,.tmp 19)]) rfl dc rfl (fun _=>by kernel_rfl) (fun U=>zbs h fun L h=>zbs h fun J h=>sB (k:=2) (k2:=4) (ys:=(gj [c.broken])) cg oo rfl dc rfl rfl rfl rfl (vS J) rfl L (fun O=>zyR 1 rfl (zaB (cd (mD (z++(gj [c.broken]),O) h 3)))))))))) (fun h=>bX (zyR 2 rfl (zbR (k:=3) (cs:=[zI c.at_,.int .u8 c.broken,.int .i32 c.base,l.v,g.v]) qU rfl dc rfl rfl rfl rfl (qR (k:=1) rfl (xW (ce f n)) (fun _ _=>zbk h fun r1 D h=>oJ (v:=.string r1) (vs:=[.agg #[zI c.at_,.int .u8 c.broken,.int .i32 c.base,l.v,g.v]]) rfl dc rfl rfl rfl OL (Qy (u1:=c) (_j:=l) (_i:=g) D) [4,5] kr rfl (zbs h fun I h=>tF (k:=2) cg an oo rfl dc rfl rfl rfl I (fun N=>zyR 1 rfl (zaB (cd (tK (k:=1) rfl (bW [4,5] kr rfl) rfl (uD (nest:=iH) (ce f n) rfl) (mD (z++r1,N) h 3))))))))))))))))))))
    rintro⟨T,P⟩ h
    rw[F] at h
    refine bX (zbs h fun H h=>zaT rfl (dA (r:=u+1) (ai _ H)) (zyR 1 rfl (zaB ?_)))
    subst p
    exact aD (x,T,u+1,P) h 3
   exact dy (bV (bV (dz (mD (z,Q) h 3))))
 rintro⟨b1,v1⟩ h
 rw[G] at h
 refine zyG (zyR 1 rfl (rC (k:=2) rfl dc rfl rfl cg underlying5 an (zyR 1 rfl (zyN (zaA ?_)))))
 cases h
 exact eu (rs:=[.tmp 4]) () (.inl rfl) results75 (.cons (.tmp rfl) .nil) rfl (cp 2)
def w3 (a:ad):Option ad := aT (tY a) fun (r1:(List c6))=>aT (zg r1) fun (r2:ad)=>some r2
theorem JA {a:ad} {r:ad} (h:w3 a=some r):dN prog 85 [.string a] (.string r):=by
 unfold w3 at h
 refine dN.intro func85 rfl ntmps85 (by simp) (fun w0 K=>zyG (zyR 1 rfl (zyH (zyR 1 rfl (zbk h fun r1 e h=>zbN (vs:=[.string a]) rfl dc rfl rfl rfl Dv (Er e) ah (fun v1=>CR (k:=0) rfl (fun g f=>?_)))))))
 subst f
 refine qR (k:=0) rfl vT (fun i b=>kU (k:=0) rfl (fun c=>zbk h fun r2 d h=>oJ (v:=.string r2) (vs:=[g.v,.func (.func 134) #[] #[]]) rfl dc rfl rfl rfl Du (RP c b d) [0,1] kr rfl (zyR 1 rfl (zyN (zaA ?_)))))
 cases h
 exact cX 2 results85
def w4 (a:ad):Option ad := aT (rQ a) fun (r1:(List bN))=>aT (uT r1) fun (r2:(List bN))=>aT (uR r2) fun (r3:ad)=>some r3
theorem JB {a:ad} {r:ad} (h:w4 a=some r):dN prog 96 [.string a] (.string r):=by
 unfold w4 at h
 refine dN.intro func96 rfl ntmps96 (by simp) (fun w0 K=>zyG (zyR 1 rfl (zyH (zyR 1 rfl (zbk h fun r1 f h=>zbN (vs:=[.string a]) rfl dc rfl rfl rfl wj (wL f) ah (fun v1=>kU (k:=0) rfl (fun c=>zbk h fun r2 e h=>zbN (vs:=[v1]) rfl dc rfl rfl rfl Dm (D7 c e) (cp 1) (fun v2=>kU (k:=2) rfl (fun b=>zbk h fun r3 d h=>lg (v:=.string r3) (vs:=[v2]) (Rd.nil:Rd _ _ []) rfl dc rfl rfl rfl Dx (D5 b d) (.own (As:=[eI v2 r2]) (bW [2] kr rfl) (fun _ _ h=>oK jH (aO.one1.1 h)) .nil) (zyR 1 rfl (zyN (zaA ?_))))))))))))
 cases h
 exact cX 2 results96
theorem RS (a:c6→ad) (l:List c6) (d:l.length≤1048576) (h:∀u∈l,u.base<0∧U8 u.broken∨0≤u.base∧y4 u=some (a u)∧(a u).size≤1048576):zg l=some (J (wr a) l):=by
 unfold zg
 refine cB ((px (xs:=l) (f:=fun b u=>b++wr a u) (J:=some) (fun k b=>b.size≤k*1048576) ?_ ?_ ?_ (j0 (by omega)) (by decide)).trans rfl)
 ·intro ag k u b hu hb
  have hk:=oc hu
  unfold zc6
  refine bS (lR hu) (cB (aY (kO hu) ?_))
  rcases h u (aP hu) with⟨h1,h2⟩|⟨h1,h2,h3⟩
  ·exact bS (ax h1) (gO (zdG (by simpa using h2) (zdG (ja (by omega)) (by simp only[wr,am h1]))))
  ·exact fC (aY h2 (gO (zdG (ja (by omega)) (by simp only[wr,aj (show ¬u.base<0 by omega)]))))
 ·intro k u b hu hb
  have c:(wr a u).size≤1048576:=by
   rcases h u (aP hu) with⟨h1,h2⟩|⟨h1,h2,h3⟩
   ·unfold wr;rw[am h1,CM];simp
   ·unfold wr;rw[aj (by omega)];exact h3
  rw[aE];omega
 ·intro ag b _;unfold zc6;exact bM lC rfl
def JC (s:ad):ad:=J (fun c=>c.1.Text) (kD s)
def pW (c:bf×List bf):ad:=J (·.Text) (mG c)
def gm (s:ad):ad:=J pW (kD s)
theorem JD (l:List bf) (h:∀m∈l,isM m=true∧lm m):jg (l.map (·.Rune))=J (·.Text) l:=by
 rw[rj,rV]
 refine sX fun m hm=>?_
 obtain⟨h1,h2⟩:=h m hm
 rcases h2.2 with⟨h3,_⟩|⟨_,h3⟩
 ·have:fc m.Rune=true:=h1
  unfold fc at this;simp at this;omega
 ·exact h3.symm
theorem RT {a:List bf} {P:bf→Prop} (h:∀m∈a,P m):(∀m∈loI a,P m)∧∀m∈hiI a,P m :=
 ⟨fun m hm=>h m (cq.1 hm).1,fun m hm=>h m (cq.1 hm).1⟩
theorem zh (a:List bf):(loI a).length≤a.length∧(hiI a).length≤a.length:=⟨qb _ _,qb _ _⟩
theorem JE (s:ad) (b:s.size≤65536):w3 s=some (gm s):=by
 unfold w3
 obtain⟨g,hc⟩:=tZ b
 refine aY (Et s b) (aY (RS (fun u=>((ae u.base)++(jg u.low))++(jg u.high)) _ (by rw[az];omega) ?_) ?_)
 ·intro u hu
  obtain⟨c,a,rfl⟩:=aU.1 hu
  obtain⟨h1,_,_,i⟩:=hc c a
  rcases wZ c h1 with⟨g1,g2,_⟩|⟨g1,g2,f,g4⟩
  ·exact .inl ⟨g1,g2⟩
  ·have h:=zh c.2
   have e1:(fu c).low.length≤196608:=by rw[g4];simp;omega
   have e2:(fu c).high.length≤196608:=by rw[g4];simp;omega
   have l:=Bv (fu c).low
   have k:=Bv (fu c).high
   have j:=nr (fu c).base
   refine .inr ⟨g1,?_,?_⟩
   ·unfold y4
    exact gO (zdG (by rw[aE];omega) rfl)
   ·rw[aE,aE]
    have:(fu c).low.length+(fu c).high.length≤196608:=by
     rw[g4];have:=rT c.2;rw[aa] at this;simp;omega
    omega
 ·rw[EB _ pW s b (fun c a h0=>by
   obtain⟨h1,h2,_⟩:=hc c a
   obtain⟨d,e⟩:=RT h2
   rcases wZ c h1 with⟨_,_,f,_⟩|⟨g1,g2,f,g4⟩
   ·omega
   ·rw[g4]
    show ae c.1.Rune++jg ((loI c.2).map (·.Rune))++jg ((hiI c.2).map (·.Rune))=_
    rw[JD _ d,JD _ e]
    unfold pW mG
    rw[jA,zd,f,de]) (fun c a h0=>by
   obtain⟨_,_,h3,_⟩:=hc c a
   unfold pW mG
   rw[h3 (Bt h0)]
   show J _ [c.1]=_
   rw[jA,ri,bx])];rfl
theorem JF (s:ad) (b:s.size≤65536):w4 s=some (gm s):=by
 unfold w4
 have h3:(fV s).length≤s.size:=by unfold fV;simpa using qz s
 have a:=Ex (wY (s:=s))
 have c:=uZ (fV s)
 have h5:=ua (apL (fV s))
 refine aY (wT s (by omega)) (aY (Ep _ (fun x hx=>(wY x hx).1) (by omega)) ?_)
 have hsz:pd (lS (apL (fV s)))≤(lS (apL (fV s))).length*4:=Jt (fun x hx=>ub (a x (Rs hx)))
 refine aY (Ed _ (by omega) (by omega)) ?_
 rw[Jl]
 show some (J _ ((kD s).flatMap mG))=_
 rw[Ev];rfl
def zdI (u1:c6) (f:List (zan×Int)) (j:Int→(List Int)→Option ad) (i:Int→(List Int)→Bool→Int→Option ad) (e:Int) (a:List Int) (c:Bool) (g:Int):Option ad := aN (decide ((g:Int)<(u1.low.length:Int))) (co (fun (h:Int→(List Int)→Bool→Option ad)=>aT (zca u1.low g) fun (q1:Int)=>aN ((zbP (⟨e,q1⟩:zan) f).isSome) (aN (c) (h ((zbP (⟨e,q1⟩:zan) f).getD 0) a c) (aV (a.length+1≤2147483648) <|h e (a++[q1]) false)) (aV (a.length+1≤2147483648) <|h e (a++[q1]) false)) (fun (u8:Int) (b:List Int) (d:Bool)=>aV (cr (g+1)) <|i u8 b d (g+1))) (j e a)
def zc0 (u1:c6) (f:List (zan×Int)) (k:Int→(List Int)→Option ad) (j:Int→(List Int)→Bool→Int→Option ad) (c:Int) (a:List Int) (d:Bool) (g:Int):Option ad := aN (decide ((g:Int)<(u1.high.length:Int))) (co (fun (i:Int→(List Int)→Bool→Option ad)=>aT (zca u1.high g) fun (q2:Int)=>aN ((zbP (⟨c,q2⟩:zan) f).isSome) (aN (d) (i ((zbP (⟨c,q2⟩:zan) f).getD 0) a d) (aV (a.length+1≤2147483648) <|i c (a++[q2]) false)) (aV (a.length+1≤2147483648) <|i c (a++[q2]) false)) (fun (h:Int) (b:List Int) (e:Bool)=>aV (cr (g+1)) <|j h b e (g+1))) (k c a)
def w5 (u1:c6) (d:List (zan×Int)):Option ad := aT (sS u1) fun (r1:Bool)=>aN (!r1) (some (ae u1.base)) (co (fun (j:Int→(List Int)→Option ad)=>co (fun (i:Int→(List Int)→Option ad)=>zaC (fun _ _ _ _=>none) (zdI u1 d i) zbx u1.base ([]:List Int) true 0) (fun (g:Int) (c:List Int)=>co (fun (h:Int→(List Int)→Option ad)=>zaC (fun _ _ _ _=>none) (zc0 u1 d h) zbx g c true 0) (fun (f:Int) (b:List Int)=>j f b))) (fun (e:Int) (a:List Int)=>aV ((ae e).size+(jg a).size≤9223372036854775807) <|some ((ae e)++(jg a))))
theorem RU {u1:c6} {_j _i:Hd} {_o _n:Nat} {d:List (zan×Int)} {r:ad} (h:w5 u1 d=some r):Fn prog 77 [.agg #[zI u1.at_,.int .u8 u1.broken,.int .i32 u1.base,_j.v,_i.v],zP _o] [eA _j.v u1.low,eA _i.v u1.high,cells _o [.map (some _n)] 115,cz (fun p:zan=>bl #[.int .i32 p.e0,.int .i32 p.e1]) (fun n:Int=>aB .i32 n) _n d] (fun _b:Unit=>.string r) (fun _b=>[eA _j.v u1.low,eA _i.v u1.high,cells _o [.map (some _n)] 115,cz (fun p:zan=>bl #[.int .i32 p.e0,.int .i32 p.e1]) (fun n:Int=>aB .i32 n) _n d]):=by
 unfold w5 at h
 refine _root_.Go.Proofs.YtifpjbgnikjglaaGreatDoor.Fn.intro func77 rfl ntmps77 (by simp) (fun w0 K=>zyG (zfq rfl dc rfl (fun b1=>zyR 1 rfl (zyN (zaJ (zyG (zbR (k:=4) (cs:=[zI u1.at_,.int .u8 u1.broken,.int .i32 u1.base,_j.v,_i.v]) qU rfl dc rfl rfl rfl rfl (zbk h fun r1 W h=>oJ (v:=.bool r1) (vs:=[.agg #[zI u1.at_,.int .u8 u1.broken,.int .i32 u1.base,_j.v,_i.v]]) rfl dc rfl rfl rfl AP (Bg (u1:=u1) (_j:=_j) (_i:=_i) W) [0,1] kr rfl (jW rfl dc rfl km (zyN (zyB rfl h (fun h=>?_) (fun h=>?_))))))))))))
 ·refine zyG (zab zgo rfl dc rfl (show _=2 from rfl) (zas (k:=4) eZ rfl dc rfl rfl rfl (zcH rfl dc rfl (mi aZ an) (zyR 1 rfl (zyN (zaA (bP ?_)))))))
  cases h
  exact eu (rs:=[.tmp 3]) () (.inl rfl) results77 (.cons (.tmp rfl) .nil) rfl (cp 4)
 refine zap (zaz (zbq h fun j1 a0 h=>zaL (β:=Int×(List Int)×Hd) 1 rfl (fun b=>j1 b.1 b.2.1=some r) (fun b=>[]) (fun b=>[(2,zP b1),(4,b.2.2.v)]) (fun b=>[cells _o [.map (some _n)] 115,cz (fun p:zan=>bl #[.int .i32 p.e0,.int .i32 p.e1]) (fun n:Int=>aB .i32 n) _n d,eA _j.v u1.low,eA _i.v u1.high,cells b1 [zI u1.at_,.int .u8 u1.broken,.int .i32 b.1,_j.v,_i.v] 123,eA b.2.2.v b.2.1]) (fun cut=>?_) ?_))
 ·refine zyG (zyR 1 rfl (zyN (cut (zyG (zab AG rfl dc rfl (show _=3 from rfl) (zas (k:=4) wh rfl dc rfl rfl rfl (zab AH rfl dc rfl (show _=4 from rfl) (zas (k:=4) wh rfl dc rfl rfl rfl (zbf (v:=.agg #[_j.v,_i.v]) (ps:=[(0,.tmp 19),(1,.tmp 21)]) rfl dc rfl (fun _=>by kernel_rfl) (zyR 1 rfl (zyN (zat (GR 3 (uC (zyG (zaT rfl (uy (show ay (decide ((0:Int)<2))=ay true from aM ay dc) zbd) (zyN (zaJ (ir rfl (zap (zaz (zbq h fun U aw h=>zaL (β:=Int×(List Int)×Hd) 0 rfl (fun b=>U b.1 b.2.1=some r) (fun b=>[]) (fun b=>[(1,zP _o),(2,zP b1),(4,b.2.2.v),(22,.agg #[_j.v,_i.v]),(23,zI 0)]) (fun b=>[cells _o [.map (some _n)] 115,cz (fun p:zan=>bl #[.int .i32 p.e0,.int .i32 p.e1]) (fun n:Int=>aB .i32 n) _n d,eA _j.v u1.low,eA _i.v u1.high,cells b1 [zI u1.at_,.int .u8 u1.broken,.int .i32 b.1,_j.v,_i.v] 123,eA b.2.2.v b.2.1]) (fun cut=>?_) ?_))))))))))))))))))))))
  ·refine cut (zat (zyG (nj (v:=_j.v) rfl dc rfl rfl (fun _=>by kernel_rfl) (zyR 1 rfl (zyH (zyR 1 rfl (zyH (zyR 1 rfl (gZ (k:=0) rfl dc rfl rfl bp (zyR 1 rfl (zaB (zaz (zat (nD (enc:=(kV (.i32))) (e:=21) (size:=1) (eF (β:=Nat×Int×(List Int)×Bool×Int×Hd) (fun b=>zaC (fun _ _ _ _=>none) (zdI u1 d U) b.1 b.2.1 b.2.2.1 b.2.2.2.1 b.2.2.2.2.1=some r) (fun b=>[]) (fun b=>[(1,zP _o),(2,zP b1),(4,b.2.2.2.2.2.v),(7,.bool b.2.2.2.1),(22,.agg #[_j.v,_i.v]),(23,zI 0),(26,_j.v),(27,zI (u1.low.length:Int)),(28,zI b.2.2.2.2.1)]) (fun b=>[cells _o [.map (some _n)] 115,cz (fun p:zan=>bl #[.int .i32 p.e0,.int .i32 p.e1]) (fun n:Int=>aB .i32 n) _n d,eA _j.v u1.low,eA _i.v u1.high,cells b1 [zI u1.at_,.int .u8 u1.broken,.int .i32 b.2.1,_j.v,_i.v] 123,eA b.2.2.2.2.2.v b.2.2.1]) (fun b=>b.1) (zbx,u1.base,([]:List Int),true,0,Hd.nil) h rfl (bI rfl) (bW [2,3,0,1,4,5] kr rfl) ?_)))))))))))))))
   rintro⟨S,x,f,w,H,M⟩ h
   cases S with
   |zero=>exact ew h
   |succ S=>
    obtain⟨b9,D⟩:∃ag,ag=zaC (fun _ _ _ _=>none) (zdI u1 d U) S:=⟨_,rfl⟩
    have h:zdI u1 d U b9 x f w H=some r:=by rw[D];exact h
    unfold zdI at h
    refine zyG (zaT rfl zbd (zyN (zaJ (zyB rfl h (fun h=>?_) (fun h=>?_)))))
    ·refine zap (zaz (zbq h fun j3 ao h=>zaL (β:=Int×(List Int)×Bool×Hd) 0 rfl (fun b=>j3 b.1 b.2.1 b.2.2.1=some r) (fun b=>[]) (fun b=>[(1,zP _o),(2,zP b1),(4,b.2.2.2.v),(7,.bool b.2.2.1),(22,.agg #[_j.v,_i.v]),(23,zI 0),(26,_j.v),(27,zI (u1.low.length:Int)),(28,zI H)]) (fun b=>[cells _o [.map (some _n)] 115,cz (fun p:zan=>bl #[.int .i32 p.e0,.int .i32 p.e1]) (fun n:Int=>aB .i32 n) _n d,eA _j.v u1.low,eA _i.v u1.high,cells b1 [zI u1.at_,.int .u8 u1.broken,.int .i32 b.1,_j.v,_i.v] 123,eA b.2.2.2.v b.2.1]) (fun cut=>?_) ?_))
     ·refine cut (zat (zyG (zbk h fun q1 L h=>eJ (k:=2) L bp lj rfl dc rfl rfl rfl rfl (fw (i:=(H:Int).toNat) (j:=0) (k:=2) (q:=q1) eZ jE rfl dc rfl rfl (ei L) rfl dc rfl (zyR 1 rfl (zyH (zas (k:=0) ya rfl dc rfl rfl rfl (zab zgo rfl dc rfl (show _=2 from rfl) (zas (k:=4) eZ rfl dc rfl rfl rfl (zyR 1 rfl (zbf (v:=.agg #[.int .i32 x,.int .i32 q1]) (ps:=[(0,.tmp 35),(1,.tmp 36)]) rfl dc rfl (fun _=>by kernel_rfl) (zkJ (k:=1) (ek:=(fun p:zan=>bl #[.int .i32 p.e0,.int .i32 p.e1])) (ev':=(fun n:Int=>aB .i32 n)) (kk:=(⟨x,q1⟩:zan)) (z0:=0) (C4 (f0:=fun p:zan=>p.e0) (f1:=fun p:zan=>p.e1) (fun a b h1 h2=>by cases a;cases b;simp_all) jV aZ lj) underlying115 kr rfl dc rfl rfl rfl (zyR 1 rfl (eY rfl dc rfl rfl (eY rfl dc rfl rfl (zyR 2 rfl (zyH (zyR 2 rfl (zyS (s:=42) rfl h (fun h=>?_) (fun h=>?_))))))))))))))))))))
      ·refine zyR 2 rfl (zyN (zyB rfl h (fun h=>bX (zyR 1 rfl (zab zgo rfl dc rfl (show _=2 from rfl) (eP (k:=4) (l':=[zI u1.at_,.int .u8 u1.broken,.int .i32 ((zbP (⟨x,q1⟩:zan) d).getD 0),_j.v,_i.v]) lj rfl rfl rfl rfl rfl (fun _ _=>rfl) rfl (zaB (cd (mD (((zbP (⟨x,q1⟩:zan) d).getD 0),f,w,M) h 6))))))) (fun h=>zyG (zyR 2 rfl (fx (cs:=[.int .i32 q1]) (te:=21) (ps:=[(0,.tmp 48)]) rfl dc rfl (fun _=>by kernel_rfl) (fun b2=>zbs h fun a7 h=>iT (k:=5) (k2:=6) (ys:=[q1]) bp tL jE tH rfl dc rfl rfl rfl rfl rfl rfl a7 (fun v1=>iB (k:=5) rfl (fun b0 bh=>?_))))))))
       subst bh
       exact zyR 1 rfl (zyN (bX (zyR 1 rfl (zaB (cd (mD (x,f++[q1],false,b0) h 6))))))
      refine zyR 2 rfl (zyN (za8 rfl (zyG (zyR 2 rfl (fx (cs:=[.int .i32 q1]) (te:=21) (ps:=[(0,.tmp 48)]) rfl dc rfl (fun _=>by kernel_rfl) (fun b3=>zbs h fun a6 h=>iT (k:=5) (k2:=6) (ys:=[q1]) bp tL jE tH rfl dc rfl rfl rfl rfl rfl rfl a6 (fun v2=>iB (k:=5) rfl (fun bs bb=>?_))))))))
      subst bb
      exact zyR 1 rfl (zyN (bX (zyR 1 rfl (zaB (cd (mD (x,f++[q1],false,bs) h 6))))))
     rintro⟨u8,o,F,b6⟩ h
     rw[ao] at h
     refine bX (zbs h fun a5 h=>zaT rfl (dA (r:=H+1) (ai _ a5)) (zyR 1 rfl (zaB ?_)))
     subst D
     exact aD (S,u8,o,F,H+1,b6) h 6
    exact dy (bV (bV (dz (cd (mD (x,f,M) h 6)))))
  rintro⟨u3,t,b7⟩ h
  rw[aw] at h
  refine bX (zaT rfl (dA (r:=1) dc) (zyR 1 rfl (zaB (xT (uC (zyG (zaT rfl (uy (show ay (decide ((1:Int)<2))=ay true from aM ay dc) zbd) (zyN (zaJ (ir rfl (zap (zaz (zbq h fun T Z h=>zaL (β:=Int×(List Int)×Hd) 0 rfl (fun b=>T b.1 b.2.1=some r) (fun b=>[]) (fun b=>[(1,zP _o),(2,zP b1),(4,b.2.2.v),(22,.agg #[_j.v,_i.v]),(23,zI 1)]) (fun b=>[cells _o [.map (some _n)] 115,cz (fun p:zan=>bl #[.int .i32 p.e0,.int .i32 p.e1]) (fun n:Int=>aB .i32 n) _n d,eA _j.v u1.low,eA _i.v u1.high,cells b1 [zI u1.at_,.int .u8 u1.broken,.int .i32 b.1,_j.v,_i.v] 123,eA b.2.2.v b.2.1]) (fun cut=>?_) ?_)))))))))))))
  ·refine cut (zat (zyG (nj (v:=_i.v) rfl dc rfl rfl (fun _=>by kernel_rfl) (zyR 1 rfl (zyH (zyR 1 rfl (zyH (zyR 1 rfl (gZ (k:=3) rfl dc rfl rfl bp (zyR 1 rfl (zaB (zaz (zat (eF (β:=Nat×Int×(List Int)×Bool×Int×Hd) (fun b=>zaC (fun _ _ _ _=>none) (zc0 u1 d T) b.1 b.2.1 b.2.2.1 b.2.2.2.1 b.2.2.2.2.1=some r) (fun b=>[]) (fun b=>[(1,zP _o),(2,zP b1),(4,b.2.2.2.2.2.v),(7,.bool b.2.2.2.1),(22,.agg #[_j.v,_i.v]),(23,zI 1),(26,_i.v),(27,zI (u1.high.length:Int)),(28,zI b.2.2.2.2.1)]) (fun b=>[cells _o [.map (some _n)] 115,cz (fun p:zan=>bl #[.int .i32 p.e0,.int .i32 p.e1]) (fun n:Int=>aB .i32 n) _n d,eA _j.v u1.low,eA _i.v u1.high,cells b1 [zI u1.at_,.int .u8 u1.broken,.int .i32 b.2.1,_j.v,_i.v] 123,eA b.2.2.2.2.2.v b.2.2.1]) (fun b=>b.1) (zbx,u3,t,true,0,b7) h rfl (bI rfl) (cp 6) ?_))))))))))))))
   rintro⟨Q,g,c,u,G,y⟩ h
   cases Q with
   |zero=>exact ew h
   |succ Q=>
    obtain⟨b8,z⟩:∃ag,ag=zaC (fun _ _ _ _=>none) (zc0 u1 d T) Q:=⟨_,rfl⟩
    have h:zc0 u1 d T b8 g c u G=some r:=by rw[z];exact h
    unfold zc0 at h
    refine zyG (zaT rfl zbd (zyN (zaJ (zyB rfl h (fun h=>?_) (fun h=>?_)))))
    ·refine zap (zaz (zbq h fun j5 Y h=>zaL (β:=Int×(List Int)×Bool×Hd) 0 rfl (fun b=>j5 b.1 b.2.1 b.2.2.1=some r) (fun b=>[]) (fun b=>[(1,zP _o),(2,zP b1),(4,b.2.2.2.v),(7,.bool b.2.2.1),(22,.agg #[_j.v,_i.v]),(23,zI 1),(26,_i.v),(27,zI (u1.high.length:Int)),(28,zI G)]) (fun b=>[cells _o [.map (some _n)] 115,cz (fun p:zan=>bl #[.int .i32 p.e0,.int .i32 p.e1]) (fun n:Int=>aB .i32 n) _n d,eA _j.v u1.low,eA _i.v u1.high,cells b1 [zI u1.at_,.int .u8 u1.broken,.int .i32 b.1,_j.v,_i.v] 123,eA b.2.2.2.v b.2.1]) (fun cut=>?_) ?_))
     ·refine cut (zat (zyG (zbk h fun q2 J h=>eJ (k:=3) J bp lj rfl dc rfl rfl rfl rfl (fw (i:=(G:Int).toNat) (j:=0) (k:=3) (q:=q2) eZ jE rfl dc rfl rfl (ei J) rfl dc rfl (zyR 1 rfl (zyH (zas (k:=0) ya rfl dc rfl rfl rfl (zab zgo rfl dc rfl (show _=2 from rfl) (zas (k:=4) eZ rfl dc rfl rfl rfl (zyR 1 rfl (zbf (v:=.agg #[.int .i32 g,.int .i32 q2]) (ps:=[(0,.tmp 35),(1,.tmp 36)]) rfl dc rfl (fun _=>by kernel_rfl) (zkJ (k:=1) (ek:=(fun p:zan=>bl #[.int .i32 p.e0,.int .i32 p.e1])) (ev':=(fun n:Int=>aB .i32 n)) (kk:=(⟨g,q2⟩:zan)) (z0:=0) (C4 (f0:=fun p:zan=>p.e0) (f1:=fun p:zan=>p.e1) (fun a b h1 h2=>by cases a;cases b;simp_all) jV aZ lj) underlying115 kr rfl dc rfl rfl rfl (zyR 1 rfl (eY rfl dc rfl rfl (eY rfl dc rfl rfl (zyR 2 rfl (zyH (zyR 2 rfl (zyS (s:=42) rfl h (fun h=>?_) (fun h=>?_))))))))))))))))))))
      ·refine zyR 2 rfl (zyN (zyB rfl h (fun h=>bX (zyR 1 rfl (zab zgo rfl dc rfl (show _=2 from rfl) (eP (k:=4) (l':=[zI u1.at_,.int .u8 u1.broken,.int .i32 ((zbP (⟨g,q2⟩:zan) d).getD 0),_j.v,_i.v]) lj rfl rfl rfl rfl rfl (fun _ _=>rfl) rfl (zaB (cd (mD (((zbP (⟨g,q2⟩:zan) d).getD 0),c,u,y) h 6))))))) (fun h=>zyG (zyR 2 rfl (fx (cs:=[.int .i32 q2]) (te:=21) (ps:=[(0,.tmp 48)]) rfl dc rfl (fun _=>by kernel_rfl) (fun b4=>zbs h fun a4 h=>iT (k:=5) (k2:=6) (ys:=[q2]) bp tL jE tH rfl dc rfl rfl rfl rfl rfl rfl a4 (fun v3=>iB (k:=5) rfl (fun O a9=>?_))))))))
       subst a9
       exact zyR 1 rfl (zyN (bX (zyR 1 rfl (zaB (cd (mD (g,c++[q2],false,O) h 6))))))
      refine zyR 2 rfl (zyN (za8 rfl (zyG (zyR 2 rfl (fx (cs:=[.int .i32 q2]) (te:=21) (ps:=[(0,.tmp 48)]) rfl dc rfl (fun _=>by kernel_rfl) (fun b5=>zbs h fun a3 h=>iT (k:=5) (k2:=6) (ys:=[q2]) bp tL jE tH rfl dc rfl rfl rfl rfl rfl rfl a3 (fun v4=>iB (k:=5) rfl (fun N a8=>?_))))))))
      subst a8
      exact zyR 1 rfl (zyN (bX (zyR 1 rfl (zaB (cd (mD (g,c++[q2],false,N) h 6))))))
     rintro⟨V,l,E,P⟩ h
     rw[Y] at h
     refine bX (zbs h fun a2 h=>zaT rfl (dA (r:=G+1) (ai _ a2)) (zyR 1 rfl (zaB ?_)))
     subst z
     exact aD (Q,V,l,E,G+1,P) h 6
    exact dy (bV (bV (dz (cd (mD (g,c,y) h 6)))))
  rintro⟨u9,m,bk⟩ h
  rw[Z] at h
  exact bX (zaT rfl (dA (r:=2) dc) (zyR 1 rfl (zaB (xT (uC (zyG (zaT rfl (uy (show ay (decide ((2:Int)<2))=ay false from aM ay dc) zbd) (zyN (zaJ (za8 rfl (dy (bV (bV (dz (mD (u9,m,bk) h 6)))))))))))))))
 rintro⟨u2,I,cc⟩ h
 rw[a0] at h
 refine zyG (zab zgo rfl dc rfl (show _=2 from rfl) (zas (k:=4) eZ rfl dc rfl rfl rfl (zcH rfl dc rfl (mi aZ an) (zyR 1 rfl (CV (k:=5) rfl dc rfl rfl bp aZ an (zbs h fun a1 h=>zaT rfl (lJ a1) (zyR 1 rfl (zyN (zaA ?_)))))))))
 cases h
 exact eu (rs:=[.tmp 3]) () (.inl rfl) results77 (.cons (.tmp rfl) .nil) rfl (bW [2,3,0,1] kr rfl)
def zcv (f:List c6) (a:List (zan×Int)) (h:ad→Option ad) (e:ad→Int→Option ad) (b:ad) (d:Int):Option ad := aN (decide ((d:Int)<(f.length:Int))) (co (fun (g:ad→Option ad)=>aT (zca f d) fun (c:c6)=>aN (decide ((c.base:Int)<0)) (aV (b.size+1≤140737488355328) <|aV (∀x∈([c.broken]:List Int),U8 x) <|g (b++(gj [c.broken]))) (aT (w5 c a) fun (r1:ad)=>aV (b.size+r1.size≤140737488355328) <|g (b++r1))) (fun (i:ad)=>aV (cr (d+1)) <|e i (d+1))) (h b)
def zi (b:List c6) (a:List (zan×Int)):Option ad := co (fun (c:ad→Option ad)=>zaC (fun _ _=>none) (zcv b a c) zbx ac 0) (fun (b1:ad)=>some b1)
theorem RV {g s:Value} {d:List (c6×Hd×Hd)} {D:Nat} {y:List (c6×Hd×Hd)} {x:List c6} (l:Vw g d 5 D s y) (u:y.map bw=x) {c _m:Nat} {a:List (zan×Int)} {r:ad} (h:zi x a=some r):Fn prog 75 [s,.func (.func 77) #[] #[zP c]] [np g d,own iH d,cells c [.map (some _m)] 115,cz (fun p:zan=>bl #[.int .i32 p.e0,.int .i32 p.e1]) (fun n:Int=>aB .i32 n) _m a] (fun _b:Unit=>.string r) (fun _b=>[np g d,own iH d,cells c [.map (some _m)] 115,cz (fun p:zan=>bl #[.int .i32 p.e0,.int .i32 p.e1]) (fun n:Int=>aB .i32 n) _m a]):=by
 unfold zi at h
 refine _root_.Go.Proofs.YtifpjbgnikjglaaGreatDoor.Fn.intro func75 rfl ntmps75 (by simp) (fun w0 K=>zbq h fun F L h=>zaL (β:=ad×Value) 2 rfl (fun b=>F b.1=some r) (fun b=>[]) (fun b=>[(5,b.2)]) (fun b=>[cells c [.map (some _m)] 115,cz (fun p:zan=>bl #[.int .i32 p.e0,.int .i32 p.e1]) (fun n:Int=>aB .i32 n) _m a,np g d,own iH d,byt 5 b.2 b.1]) (fun cut=>?_) ?_)
 ·refine zyG (zyR 1 rfl (zyH (zyR 1 rfl (zyN (cut (zyG (zyR 1 rfl (CZ u l rfl dc rfl eT (zyR 1 rfl (zyN (zat (xY (e:=5) (eF (β:=Nat×ad×Int×Value) (fun b=>zaC (fun _ _=>none) (zcv x a F) b.1 b.2.1 b.2.2.1=some r) (fun b=>[]) (fun b=>[(1,.func (.func 77) #[] #[zP c]),(5,b.2.2.2),(8,s),(9,zI (x.length:Int)),(10,zI b.2.2.1)]) (fun b=>[cells c [.map (some _m)] 115,cz (fun p:zan=>bl #[.int .i32 p.e0,.int .i32 p.e1]) (fun n:Int=>aB .i32 n) _m a,np g d,own iH d,byt 5 b.2.2.2 b.2.1]) (fun b=>b.1) (zbx,ac,0,(.slice none 0 0)) h rfl (bI rfl) (bW [2,3,0,1,4] kr rfl) ?_)))))))))))))
  rintro⟨E,G,z,V⟩ h
  cases E with
  |zero=>exact ew h
  |succ E=>
   obtain⟨Q,w⟩:∃ag,ag=zaC (fun _ _=>none) (zcv x a F) E:=⟨_,rfl⟩
   have h:zcv x a F Q G z=some r:=by rw[w];exact h
   unfold zcv at h
   refine zyG (zaT rfl zbd (zyN (zaJ (zyB rfl h (fun h=>?_) (fun h=>?_)))))
   ·refine zap (zaz (zbq h fun W J h=>zaL (β:=ad×Value) 0 rfl (fun b=>W b.1=some r) (fun b=>[]) (fun b=>[(1,.func (.func 77) #[] #[zP c]),(5,b.2),(8,s),(9,zI (x.length:Int)),(10,zI z)]) (fun b=>[cells c [.map (some _m)] 115,cz (fun p:zan=>bl #[.int .i32 p.e0,.int .i32 p.e1]) (fun n:Int=>aB .i32 n) _m a,np g d,own iH d,byt 5 b.2 b.1]) (fun cut=>?_) ?_))
    ·refine cut (zat (zyG (zbk h fun f I h=>?_)))
     obtain⟨⟨o,m⟩,t⟩:=xX u I
     exact fy l t eT sI rfl dc rfl rfl rfl (mj (i:=D+(z:Int).toNat) (j:=0) (k:=2) (q:=(f,(o,m))) (cs:=[zI f.at_,.int .u8 f.broken,.int .i32 f.base,o.v,m.v]) qU pu rfl dc rfl rfl (ce l t) rfl rfl rfl (zbi AJ rfl dc (fun b6=>eE (k:=5) (vs:=[zI f.at_,.int .u8 f.broken,.int .i32 f.base,o.v,m.v]) (l':=[zI f.at_,.int .u8 f.broken,.int .i32 f.base,o.v,m.v]) sI rfl rfl rfl rfl rfl (show _≤_ by simp) rfl rfl (zyH (zab zgo rfl dc rfl (show _=2 from rfl) (zas (k:=5) eZ rfl dc rfl rfl rfl (zaT rfl zbd (zyN (zyB rfl h (fun h=>bX (zyR 1 rfl (zab Dh rfl dc rfl (show _=1 from rfl) (zas (k:=5) AB rfl dc rfl rfl rfl (fx (cs:=[.int .u8 f.broken]) (te:=5) (ps:=[(0,.tmp 19)]) rfl dc rfl (fun _=>by kernel_rfl) (fun Z=>zbs h fun P h=>zbs h fun O h=>sB (k:=4) (k2:=6) (ys:=(gj [f.broken])) cg oo rfl dc rfl rfl rfl rfl (vS O) rfl P (fun T=>zyR 1 rfl (zaB (cd (mD (G++(gj [f.broken]),T) h 5)))))))))) (fun h=>bX (zyR 2 rfl (zbR (k:=5) (cs:=[zI f.at_,.int .u8 f.broken,.int .i32 f.base,o.v,m.v]) qU rfl dc rfl rfl rfl rfl (qR (k:=3) rfl (xW (ce l t)) (fun _ _=>zbk h fun r1 H h=>oJ (v:=.string r1) (vs:=[.agg #[zI f.at_,.int .u8 f.broken,.int .i32 f.base,o.v,m.v]]) rfl dc rfl rfl rfl Oh (RU (u1:=f) (_j:=o) (_i:=m) (_n:=_m) H) [6,7,0,1] kr rfl (zbs h fun N h=>tF (k:=4) cg an oo rfl dc rfl rfl rfl N (fun S=>zyR 1 rfl (zaB (cd (tK (k:=3) rfl (bW [6,7] kr rfl) rfl (uD (nest:=iH) (ce l t) rfl) (mD (G++r1,S) h 5))))))))))))))))))))
    rintro⟨Y,U⟩ h
    rw[J] at h
    refine bX (zbs h fun M h=>zaT rfl (dA (r:=z+1) (ai _ M)) (zyR 1 rfl (zaB ?_)))
    subst w
    exact aD (E,Y,z+1,U) h 5
   exact dy (bV (bV (dz (mD (G,V) h 5))))
 rintro⟨b1,v1⟩ h
 rw[L] at h
 refine zyG (zyR 1 rfl (rC (k:=4) rfl dc rfl rfl cg underlying5 an (zyR 1 rfl (zyN (zaA ?_)))))
 cases h
 exact eu (rs:=[.tmp 4]) () (.inl rfl) results75 (.cons (.tmp rfl) .nil) rfl (bW [2,3,0,1] kr rfl)
def ve (a:ad):Option ad := aT (wP) fun (r1:((List (zan×Int))×(List (Int×zan))))=>aT (tY a) fun (r2:(List c6))=>aT (zi r2 r1.1) fun (r3:ad)=>some r3
theorem JG {a:ad} {r:ad} (h:ve a=some r):dN prog 35 [.string a] (.string r):=by
 unfold ve at h
 refine dN.intro func35 rfl ntmps35 (by simp) (fun w0 K=>zyG (zyR 1 rfl (zyH (zbk h fun r1 f h=>zbN (vs:=[]) rfl dc rfl rfl rfl Dt (D9 f) ah ?_))))
 rintro⟨b1,b2⟩
 refine zyR 1 rfl (eY rfl dc rfl rfl (eY rfl dc rfl rfl (zbi Hl rfl dc (fun l=>eP (k:=2) (l':=[.map (some b1)]) Hk rfl rfl rfl rfl rfl (fun _ _=>rfl) rfl (zyR 1 rfl (zyH (zyR 1 rfl (zbk h fun r2 e h=>zbN (vs:=[.string a]) rfl dc rfl rfl rfl Dv (Er e) ah (fun v1=>CR (k:=3) rfl (fun i g=>?_))))))))))
 subst g
 refine zjk (x1:=[]) (x2:=[.tmp 3]) rfl dc rfl rfl (qR (k:=3) rfl vT (fun j b=>kU (k:=3) rfl (fun c=>zbk h fun r3 d h=>oJ (v:=.string r3) (vs:=[i.v,.func (.func 77) #[] #[zP l]]) rfl dc rfl rfl rfl Du (RV (_m:=b1) c b d) [3,4,2,0] kr rfl (zyR 1 rfl (zyN (zaA ?_))))))
 cases h
 exact cX 2 results35
def zdE (r2:(List bN)) (y:Int→Int→ad→Int→ad→Option ad) (q:Int→Int→ad→Int→ad→Bool→Bool→Int→Option ad) (j:Int) (d:Int) (g:ad) (f:Int) (a:ad) (c:Bool) (b:Bool) (o:Int):Option ad := aN (decide ((0:Int)<o)) (co (fun (u:Int→Option ad)=>aT (zca r2 j) fun (q2:bN)=>aT (wK q2.Rune) fun (v:Bool)=>aN (v) (u 1) (u 0)) (fun (k1:Int)=>co (fun (p:Int→ad→Int→ad→Bool→Bool→Option ad)=>aT (zca r2 j) fun (x:bN)=>aT (wI d x.Rune) fun (r:Int)=>aN ((r:Int) != 0) (aT (zca ([c,b]:List Bool) k1) fun (w:Bool)=>aN (!w) (aT (wM r (⟨d,g,f⟩:bN)) fun (n:bN)=>p n.Rune n.Text n.At a c b) (aT (zca r2 j) fun (t:bN)=>aV (a.size+t.Text.size≤9223372036854775807) <|aT (zca ([c,b]:List Bool) k1) fun (D:Bool)=>p d g f (a++t.Text) (if (k1:Int).toNat=0 then true else c) (if (k1:Int).toNat=1 then true else b))) (aT (zca r2 j) fun (s:bN)=>aV (a.size+s.Text.size≤9223372036854775807) <|aT (zca ([c,b]:List Bool) k1) fun (z:Bool)=>p d g f (a++s.Text) (if (k1:Int).toNat=0 then true else c) (if (k1:Int).toNat=1 then true else b))) (fun (m:Int) (l:ad) (k:Int) (e:ad) (i:Bool) (h:Bool)=>aV (cr (j+1)) <|aV (cr (o-1)) <|q (j+1) m l k e i h (o-1)))) (y j d g f a)
def zdd (g:ad→Option ad) (r2:(List bN)) (d:ad→Int→Option ad) (b:ad) (c:Int):Option ad := aN (decide ((c:Int)<(r2.length:Int))) (aT (zca r2 c) fun (q1:bN)=>aV (cr (c+1)) <|aT (sQ q1) fun (r3:Bool)=>aN (!r3) (aV (b.size+q1.Text.size≤9223372036854775807) <|d (b++q1.Text) (c+1)) (co (fun (f:Int→Int→ad→Int→ad→Option ad)=>aV (0≤(c+1:Int)∧(c+1:Int)≤(r2.length:Int)∧((r2.length:Int):Int)≤(r2.length:Int)) <|aT (uS (dK r2 (c+1) (r2.length:Int))) fun (e:Int)=>zaC (fun _ _ _ _ _ _ _ _=>none) (zdE r2 f) zbx (c+1) q1.Rune q1.Text q1.At (⟨#[]⟩:ad) false false e) (fun (h:Int) (x1:Int) (x2:ad) (i:Int) (a:ad)=>aV (x2.size+a.size≤9223372036854775807) <|aV (b.size+(x2++a).size≤9223372036854775807) <|d (b++(x2++a)) h))) (g b)
def zj (b:ad):Option ad := co (fun (c:ad→Option ad)=>aT (rQ b) fun (r1:(List bN))=>aT (uT r1) fun (r2:(List bN))=>zaC (fun _ _=>none) (zdd c r2) zbx (⟨#[]⟩:ad) 0) (fun (a:ad)=>some a)
theorem RW {s1:ad} {r:ad} (h:zj s1=some r):dN prog 13 [.string s1] (.string r):=by
 unfold zj at h
 refine dN.intro func13 rfl ntmps13 (by simp) (fun w0 K=>zbq h fun W bk h=>zaL (β:=ad) 3 rfl (fun b=>W b=some r) (fun b=>[]) (fun b=>[(4,.string b)]) (fun b=>[]) (fun cut=>?_) ?_)
 ·refine zyG (zyR 1 rfl (zyH (zyR 1 rfl (zbk h fun r1 a8 h=>zbN (vs:=[.string s1]) rfl dc rfl rfl rfl wj (wL a8) ah (fun v1=>kU (k:=0) rfl (fun a0=>zbk h fun r2 a7 h=>zbN (vs:=[v1]) rfl dc rfl rfl rfl Dm (D7 a0 a7) (cp 1) (fun v2=>zyR 1 rfl (zyH (zyR 1 rfl (zyN (cut (zyG (zyR 1 rfl (zyN (zat (eF (β:=Nat×ad×Int) (fun b=>zaC (fun _ _=>none) (zdd W r2) b.1 b.2.1 b.2.2=some r) (fun b=>[]) (fun b=>[(3,v2),(4,.string b.2.1),(5,zI b.2.2)]) (fun b=>[eI v2 r2]) (fun b=>b.1) (zbx,(⟨#[]⟩:ad),0) (by exact h) rfl (bI rfl) (bW [2] kr rfl) ?_))))))))))))))))
  rintro⟨O,g,M⟩ h
  cases O with
  |zero=>exact ew h
  |succ O=>
   obtain⟨ch,x⟩:∃ag,ag=zaC (fun _ _=>none) (zdd W r2) O:=⟨_,rfl⟩
   have h:zdd W r2 ch g M=some r:=by rw[x];exact h
   unfold zdd at h
   refine zaJ (zyG (zyR 2 rfl (gZ (k:=0) rfl dc rfl rfl aI (zaT rfl zbd (zyN (zyB rfl h (fun h=>?_) (fun h=>?_)))))))
   ·refine zap (zaz (zat (zyG (zyR 2 rfl (zbk h fun q1 S h=>eJ (k:=0) S aI gR rfl dc rfl rfl rfl rfl (mj (i:=(M:Int).toNat) (j:=0) (k:=0) (q:=q1) (cs:=(fU q1)) l7 jH rfl dc rfl rfl (ei S) rfl rfl rfl (zbi zor rfl dc (fun b1=>eE (k:=1) (vs:=(fU q1)) (l':=(fU q1)) gR rfl rfl rfl rfl rfl (show _≤_ by simp) rfl rfl (zyH (zyR 1 rfl (zbs h fun b9 h=>zaT rfl (dA (r:=M+1) (ai _ b9)) (zyR 1 rfl (zyN (zaJ (zyG (zbR (k:=1) (cs:=(fU q1)) l7 rfl dc rfl rfl rfl rfl (zbk h fun r3 a6 h=>zaI (v:=.bool r3) (vs:=[.agg (fU q1).toArray]) rfl dc rfl rfl rfl yd (yX (x1:=q1) a6) (jW rfl dc rfl km (zyN (zyB rfl h (fun h=>?_) (fun h=>?_)))))))))))))))))))))
    ·refine zyG (zyR 1 rfl (zab qT rfl dc rfl (show _=1 from rfl) (zas (k:=1) dU rfl dc rfl rfl rfl (zbs h fun b8 h=>zaT rfl (lJ b8) (zyR 1 rfl (zyN (dy (bV (dz ?_)))))))))
     subst x
     exact aD (O,g++q1.Text,M+1) h 1
    refine zap (zaz (zbq h fun V bh h=>zaL (β:=Int×Int×ad×Int×ad) 2 rfl (fun b=>V b.1 b.2.1 b.2.2.1 b.2.2.2.1 b.2.2.2.2=some r) (fun b=>[]) (fun b=>[(3,v2),(4,.string g),(5,zI b.1),(6,zP b1),(7,.string b.2.2.2.2)]) (fun b=>[eI v2 r2,cells b1 [.int .i32 b.2.1,.string b.2.2.1,zI b.2.2.2.1] 81]) (fun cut=>?_) ?_))
    ·refine zyG (zyR 1 rfl (zyH (zbf (v:=.agg #[.bool false,.bool false]) (ps:=[]) rfl dc rfl (fun _=>by kernel_rfl) (zbi ND rfl dc (fun b2=>eE (k:=2) (vs:=[.bool false,.bool false]) (l':=[.bool false,.bool false]) NC rfl rfl rfl rfl rfl (show _≤_ by simp) rfl rfl (zyN (cut (zyG (zyR 2 rfl (kU (k:=0) rfl (fun aw=>zbs h fun b7 h=>?_)))))))))))
     obtain⟨v3,a1,a2⟩:=oI (lo:=some (zI (M+1))) (hi:=none) aw aI gR (.inr rfl) (.inl ⟨rfl,rfl⟩) b7
     refine iA rfl dc rfl rfl rfl a2 (zbk h fun r4 a5 h=>oJ (v:=zI r4) (vs:=[v3]) rfl dc rfl rfl rfl Dn (D6 a1 a5) [0] kr rfl (zyR 1 rfl (zyN (zat (eF (β:=Nat×Int×Int×ad×Int×ad×Bool×Bool×Int) (fun b=>zaC (fun _ _ _ _ _ _ _ _=>none) (zdE r2 V) b.1 b.2.1 b.2.2.1 b.2.2.2.1 b.2.2.2.2.1 b.2.2.2.2.2.1 b.2.2.2.2.2.2.1 b.2.2.2.2.2.2.2.1 b.2.2.2.2.2.2.2.2=some r) (fun b=>[]) (fun b=>[(3,v2),(4,.string g),(5,zI b.2.1),(6,zP b1),(7,.string b.2.2.2.2.2.1),(8,zP b2),(9,zI b.2.2.2.2.2.2.2.2)]) (fun b=>[eI v2 r2,cells b1 [.int .i32 b.2.2.1,.string b.2.2.2.1,zI b.2.2.2.2.1] 81,cells b2 [.bool b.2.2.2.2.2.2.1,.bool b.2.2.2.2.2.2.2.1] 82]) (fun b=>b.1) (zbx,M+1,q1.Rune,q1.Text,q1.At,(⟨#[]⟩:ad),false,false,r4) (by exact h) rfl (bI rfl) (cp 3) ?_)))))
     rintro⟨U,p,l,o,m,f,e,a,N⟩ h
     cases U with
     |zero=>exact ew h
     |succ U=>
      obtain⟨cc,J⟩:∃ag,ag=zaC (fun _ _ _ _ _ _ _ _=>none) (zdE r2 V) U:=⟨_,rfl⟩
      have h:zdE r2 V cc p l o m f e a N=some r:=by rw[J];exact h
      unfold zdE at h
      refine zaJ (zyG (zyR 1 rfl (zaT rfl zd4 (zyN (zyB rfl h (fun h=>?_) (fun h=>?_))))))
      ·refine zap (zaz (zaJ (zat (zbq h fun j3 bb h=>zaL (β:=Int) 1 rfl (fun b=>j3 b=some r) (fun b=>[]) (fun b=>[(3,v2),(4,.string g),(5,zI p),(6,zP b1),(7,.string f),(8,zP b2),(9,zI N),(10,zI b)]) (fun b=>[eI v2 r2,cells b1 [.int .i32 l,.string o,zI m] 81,cells b2 [.bool e,.bool a] 82]) (fun cut=>zyG (zyR 1 rfl (zyN (cut (zyG (zyR 2 rfl (zbk h fun q2 Q h=>eJ (k:=0) Q aI gR rfl dc rfl rfl rfl rfl (zab zdk rfl dc rfl (show _=((p:Int).toNat)*3 from rfl) (fw (i:=(p:Int).toNat) (j:=0) (k:=0) (q:=q2) eZ jH rfl dc rfl rfl (ei Q) rfl dc rfl (zbk h fun r5 a4 h=>zaI (v:=.bool r5) (vs:=[.int .i32 q2.Rune]) rfl dc rfl rfl rfl HE (IE a4) (zyN (zyB rfl h (fun h=>bX (zyR 1 rfl (zaB (mD 1 h 3)))) (fun h=>zap (mD 0 h 3)))))))))))))) (fun k1 h=>?_)))))
       rw[bb] at h
       refine zbq h fun j4 a9 h=>zaL (β:=Int×ad×Int×ad×Bool×Bool) 0 rfl (fun b=>j4 b.1 b.2.1 b.2.2.1 b.2.2.2.1 b.2.2.2.2.1 b.2.2.2.2.2=some r) (fun b=>[]) (fun b=>[(3,v2),(4,.string g),(5,zI p),(6,zP b1),(7,.string b.2.2.2.1),(8,zP b2),(9,zI N)]) (fun b=>[eI v2 r2,cells b1 [.int .i32 b.1,.string b.2.1,zI b.2.2.1] 81,cells b2 [.bool b.2.2.2.2.1,.bool b.2.2.2.2.2] 82]) (fun cut=>cut (zaJ (zbk h fun q3 P h=>zbk h fun r6 a3 h=>zcI 7 [(0,47,zP b1),(1,48,.int .i32 l),(2,49,v2),(3,50,zI p),(4,51,.pointer (some ⟨eO v2,(p:Int).toNat*3,none⟩)),(5,52,.pointer (some ⟨eO v2,((p:Int).toNat)*3,none⟩)),(6,53,.int .i32 q3.Rune)] mixed kr kr dc (by rfl) kr kr (zac (fun D n d c u i=>zab zdk rfl dc (zbA (by rfl) rfl) (show _=0 from rfl) (zaN 0 u i)) (zac (fun D n d c u i=>zas (k:=1) eZ rfl dc (bt 0 u d) rfl rfl (zaN 1 u i)) (zyP 2 2 rfl (zac (fun D n d c u i=>eJ (k:=0) P aI gR rfl dc (bt 2 u d) (bt 3 u d) rfl rfl (zaN 4 u i)) (zac (fun D n d c u i=>zab zdk rfl dc (bt 4 u d) (show _=((p:Int).toNat)*3 from rfl) (zaN 5 u i)) (zac (fun D n d c u i=>fw (i:=(p:Int).toNat) (j:=0) (k:=0) (q:=q3) eZ jH rfl dc (bt 5 u d) rfl (ei P) rfl dc rfl (zaN 6 u i)) bR.nil)))))) (zaI (v:=.int .i32 r6) (vs:=[.int .i32 l,.int .i32 q3.Rune]) rfl dc rfl rfl rfl N3 (P7 a3) (zyR 1 rfl (zyH (zyR 1 rfl (zaT rfl zed (zyR 1 rfl (zyS (s:=57) rfl h (fun h=>zyR 1 rfl (zbk h fun q4 I h=>o7 (xL I) tx oL rfl dc rfl rfl (cf _) (nE (enc:=vK) (size:=1) ([e,a]:List Bool) (k:=2) rfl vL rfl (show 2≤maxLen by decide) (fw (i:=(k1:Int).toNat) (j:=0) (k:=2) (q:=q4) qS vL rfl dc rfl rfl (ei I) rfl dc rfl (qp (k:=2) rfl (CS (by rfl)) (jW rfl dc rfl km (zyR 1 rfl (zyN (zyB rfl h (fun h=>bX (zyR 1 rfl (zbR (k:=1) (cs:=[.int .i32 l,.string o,zI m]) l7 rfl dc rfl rfl rfl rfl (zbk h fun L T h=>zaI (v:=.agg (fU L).toArray) (vs:=[.int .i32 r6,.agg #[.int .i32 l,.string o,zI m]]) rfl dc rfl rfl rfl HF (IF (x1:=(⟨l,o,m⟩:bN)) T) (eE (k:=1) (vs:=(fU L)) (l':=(fU L)) gR rfl rfl rfl rfl rfl (show _≤_ by simp) rfl rfl (zaB (mD (L.Rune,L.Text,L.At,f,e,a) h 3))))))) (fun h=>zyG (zyR 3 rfl (zbk h fun q5 H h=>eJ (k:=0) H aI gR rfl dc rfl rfl rfl rfl (zab qT rfl dc rfl (show _=((p:Int).toNat)*3+1 from rfl) (fw (i:=(p:Int).toNat) (j:=1) (k:=0) (q:=q5) dU jH rfl dc rfl rfl (ei H) rfl dc rfl (zbs h fun b6 h=>zaT rfl (lJ b6) (zyR 1 rfl (zyN (bX (zyR 1 rfl (zbk h fun q6 G h=>o7 (xL G) tx oL rfl dc rfl rfl (cf _) (nE (enc:=vK) (size:=1) ([e,a]:List Bool) (k:=2) rfl vL rfl (show 2≤maxLen by decide) (qs (i:=(k1:Int).toNat) (j:=0) (k:=2) (q:=q6) (q':=true) oL vL rfl rfl rfl rfl (ei G) rfl dc rfl (fun _ _=>rfl) (qQ (k:=2) rfl (aM (vec vK 82 1 (.slice (some ⟨b2,0,none⟩) 2 2)) (show _=([(if (k1:Int).toNat=0 then true else e),(if (k1:Int).toNat=1 then true else a)]:List Bool) from GP _ _ _)) (qp (k:=2) rfl (CS (by rfl)) (zaB (mD (l,o,m,f++q5.Text,if (k1:Int).toNat=0 then true else e,if (k1:Int).toNat=1 then true else a) h 3)))))))))))))))))))))))))) (fun h=>zyR 5 rfl (zyN (za8 rfl (zyG (zyR 3 rfl (zbk h fun q7 F h=>eJ (k:=0) F aI gR rfl dc rfl rfl rfl rfl (zab qT rfl dc rfl (show _=((p:Int).toNat)*3+1 from rfl) (fw (i:=(p:Int).toNat) (j:=1) (k:=0) (q:=q7) dU jH rfl dc rfl rfl (ei F) rfl dc rfl (zbs h fun b5 h=>zaT rfl (lJ b5) (zyR 1 rfl (zyN (bX (zyR 1 rfl (zbk h fun q8 E h=>o7 (xL E) tx oL rfl dc rfl rfl (cf _) (nE (enc:=vK) (size:=1) ([e,a]:List Bool) (k:=2) rfl vL rfl (show 2≤maxLen by decide) (qs (i:=(k1:Int).toNat) (j:=0) (k:=2) (q:=q8) (q':=true) oL vL rfl rfl rfl rfl (ei E) rfl dc rfl (fun _ _=>rfl) (qQ (k:=2) rfl (aM (vec vK 82 1 (.slice (some ⟨b2,0,none⟩) 2 2)) (show _=([(if (k1:Int).toNat=0 then true else e),(if (k1:Int).toNat=1 then true else a)]:List Bool) from GP _ _ _)) (qp (k:=2) rfl (CS (by rfl)) (zaB (mD (l,o,m,f++q7.Text,if (k1:Int).toNat=0 then true else e,if (k1:Int).toNat=1 then true else a) h 3)))))))))))))))))))))))))))))) ?_
       rintro⟨ao,Z,Y,t,z,y⟩ h
       rw[a9] at h
       refine bX (zyR 1 rfl (zbs h fun b4 h=>zaT rfl (dA (r:=p+1) (ai _ b4)) (zyR 1 rfl (zaB (cd (zaz (bX (zyR 1 rfl (zbs h fun b3 h=>zaT rfl (k9 (r:=N-1) (ai _ b3)) (zyR 1 rfl (zaB ?_)))))))))))
       subst J
       exact aD (U,p+1,ao,Z,Y,t,z,y,N-1) h 3
      exact dy (bV (bV (dz (mD (p,l,o,m,f) h 2))))
    rintro⟨i4,x1,x2,x3,w⟩ h
    rw[bh] at h
    refine bX (zyR 1 rfl (zab qT rfl dc rfl (show _=1 from rfl) (zas (k:=1) dU rfl dc rfl rfl rfl (zyR 1 rfl (zbs h fun b0 h=>zaT rfl (lJ b0) (zbs h fun bs h=>zaT rfl (lJ bs) (zyR 1 rfl (zaB (cd ?_)))))))))
    subst x
    exact aD (O,g++(x2++w),i4) h 1
   exact dy (bV (bV (dz (cL g h rfl (bI rfl) ah))))
 rintro cv h
 rw[bk] at h
 refine zyG (zyR 2 rfl (zyN (zaA ?_)))
 cases h
 exact cX 2 results13
theorem RX (M:List (zan×Int)) (a:c6→ad) (l:List c6) (d:l.length≤1048576) (h:∀u∈l,u.base<0∧U8 u.broken∨0≤u.base∧w5 u M=some (a u)∧(a u).size≤1048576):zi l M=some (J (wr a) l):=by
 unfold zi
 refine cB ((px (xs:=l) (f:=fun b u=>b++wr a u) (J:=some) (fun k b=>b.size≤k*1048576) ?_ ?_ ?_ (j0 (by omega)) (by decide)).trans rfl)
 ·intro ag k u b hu hb
  have hk:=oc hu
  unfold zcv
  refine bS (lR hu) (cB (aY (kO hu) ?_))
  rcases h u (aP hu) with⟨h1,h2⟩|⟨h1,h2,h3⟩
  ·exact bS (ax h1) (gO (zdG (by simpa using h2) (zdG (ja (by omega)) (by simp only[wr,am h1]))))
  ·exact fC (aY h2 (gO (zdG (ja (by omega)) (by simp only[wr,aj (show ¬u.base<0 by omega)]))))
 ·intro k u b hu hb
  have c:(wr a u).size≤1048576:=by
   rcases h u (aP hu) with⟨h1,h2⟩|⟨h1,h2,h3⟩
   ·unfold wr;rw[am h1,CM];simp
   ·unfold wr;rw[aj (by omega)];exact h3
  rw[aE];omega
 ·intro ag b _;unfold zcv;exact bM lC rfl
theorem RY:(iX.all fun p=>decide (0<p.2∧p.2≤2000)&&cZ p.2)=true:=by decide +kernel
theorem RZ {b m j:Int} (h:ji b m=some j):0<j∧j≤2000∧cZ j=true:=by
 have:=bd.1 RY _ (sU h)
 simp only[aQ,decide_eq_true_eq] at this
 exact⟨this.1.1,this.1.2,this.2⟩
def jb (a:Int×List Int×Bool) (m:Int):Int×List Int×Bool :=
 match ji a.1 m with
 |some j=>if a.2.2 then (j,a.2.1,true) else (a.1,a.2.1++[m],false)
 |none=>(a.1,a.2.1++[m],false)
def rX (b:Int) (lo hi:List Int):ad :=
 ae (hi.foldl jb ((lo.foldl jb (b,[],true)).1,(lo.foldl jb (b,[],true)).2.1,true)).1++jg (hi.foldl jb ((lo.foldl jb (b,[],true)).1,(lo.foldl jb (b,[],true)).2.1,true)).2.1
theorem EF (a:Int×List Int×Bool) (m:Int):(jb a m).2.1.length≤a.2.1.length+1:=by
 unfold jb
 split
 ·split<;>simp
 ·simp
theorem Bx (b:List Int):∀a:Int×List Int×Bool,(b.foldl jb a).2.1.length≤a.2.1.length+b.length:=by
 induction b with
 |nil=>intro a;simp
 |cons m b c=>intro a;have:=c (jb a m);have:=EF a m;rw[bn,ab];omega
section
variable {R X A B C:Type} {xs:List X}
theorem JH {F:(A→B→C→Int→Option R)→A→B→C→Int→Option R} {bot:A→B→C→Int→Option R} {f:A×B×C→X→A×B×C} {Jf:A→B→Option R} (Inv:Nat→A×B×C→Prop)
  (c:∀ag k x (a:A×B×C),xs[k]?=some x→Inv k a→F ag a.1 a.2.1 a.2.2 (k:Int)=ag (f a x).1 (f a x).2.1 (f a x).2.2 ((k:Int)+1)) (e:∀k x a,xs[k]?=some x→Inv k a→Inv (k+1) (f a x))
  (he:∀ag (a:A×B×C),Inv xs.length a→F ag a.1 a.2.1 a.2.2 (xs.length:Int)=Jf a.1 a.2.1) {n:Nat} (d:xs.length<n) {a:A×B×C} (h0:Inv 0 a):zaC bot F n a.1 a.2.1 a.2.2 0=Jf (xs.foldl f a).1 (xs.foldl f a).2.1:=by
 have key:∀ (n k:Nat) (a:A×B×C),k≤xs.length→xs.length-k<n→Inv k a→zaC bot F n a.1 a.2.1 a.2.2 (k:Int)=Jf ((xs.drop k).foldl f a).1 ((xs.drop k).foldl f a).2.1:=by
  intro n
  induction n with
  |zero=>intro k a _ h;omega
  |succ n b=>
   intro k a hk d hi
   rw[gk]
   by_cases h:k<xs.length
   ·have hx:xs[k]?=some xs[k]:=List.getElem?_eq_getElem h
    rw[c _ k _ a hx hi,List.drop_eq_getElem_cons h,bn]
    exact b (k+1) _ (by omega) (by omega) (e k _ a hx hi)
   ·have:k=xs.length:=by omega
    subst this
    rw[he _ a hi,List.drop_length];rfl
 have:=key n 0 a (bG _) (by omega) h0
 simpa using this
end
def Bz:Int→List Int→Option ad:=fun b a=>aV ((ae b).size+(jg a).size≤9223372036854775807)<|some ((ae b)++(jg a))
def JI (u:c6):Int→List Int→Option ad:=fun b a=>co (fun (c:Int→(List Int)→Option ad)=>zaC (fun _ _ _ _=>none) (zc0 u iX c) zbx b a true 0) Bz
theorem R2 (u:c6) (hu:fB u.base) (h1:u.low.length≤200000) (h2:u.high.length≤200000):w5 u iX=some (if cZ u.base then rX u.base u.low u.high else ae u.base):=by
 unfold w5
 refine aY (Bi u hu) ?_
 cases hL:cZ u.base with
 |false=>exact bS rfl rfl
 |true=>
  refine bM rfl (cB (cB ?_))
  have step:∀ (xs:List Int) (k:Nat) (x:Int) (a:Int×List Int×Bool) (ag:Int→List Int→Bool→Int→Option ad),xs[k]?=some x→xs.length≤200000→a.2.1.length≤400000 →
    (aT (zca xs (k:Int)) fun (q1:Int)=>aN ((zbP (⟨a.1,q1⟩:zan) iX).isSome) (aN (a.2.2) ((fun (u8:Int) (b:List Int) (c:Bool)=>aV (cr ((k:Int)+1))<|ag u8 b c ((k:Int)+1)) ((zbP (⟨a.1,q1⟩:zan) iX).getD 0) a.2.1 a.2.2)
     (aV (a.2.1.length+1≤2147483648)<|(fun (u8:Int) (b:List Int) (c:Bool)=>aV (cr ((k:Int)+1))<|ag u8 b c ((k:Int)+1)) a.1 (a.2.1++[q1]) false))
     (aV (a.2.1.length+1≤2147483648)<|(fun (u8:Int) (b:List Int) (c:Bool)=>aV (cr ((k:Int)+1))<|ag u8 b c ((k:Int)+1)) a.1 (a.2.1++[q1]) false))=ag (jb a x).1 (jb a x).2.1 (jb a x).2.2 ((k:Int)+1):=by
   intro xs k x a ag hx h ha
   have hk:=oc hx
   refine aY (kO hx) ?_
   unfold jb ji
   cases zbP (⟨a.1,x⟩:zan) iX with
   |none=>exact bM rfl (gO (zdG (ja (by omega)) rfl))
   |some j=>
    refine bS rfl ?_
    cases hf:a.2.2 with
    |true=>exact bS rfl (zdG (ja (by omega)) rfl)
    |false=>exact bM rfl (gO (zdG (ja (by omega)) rfl))
  have d:=Bx u.low (u.base,[],true)
  have lo:=JH (xs:=u.low) (F:=zdI u iX (JI u)) (bot:=fun _ _ _ _=>none) (f:=jb) (Jf:=JI u) (fun k a=>a.2.1.length≤k) (fun ag k x a hx hi=>by
     have hk:=oc hx
     unfold zdI
     exact bS (lR hx) (cB (step u.low k x a ag hx h1 (by omega)))) (fun k x a _ hi=>by have:=EF a x;omega) (fun ag a _=>by unfold zdI;exact bM lC rfl) (n:=zbx) (j0 (by omega)) (a:=(u.base,[],true)) (bq _)
  refine lo.trans ?_
  show zaC (fun _ _ _ _=>none) (zc0 u iX Bz) zbx _ _ true 0=_
  simp only[aL,cf] at d
  generalize hA:u.low.foldl jb (u.base,[],true)=A at d ⊢
  have g:=Bx u.high (A.1,A.2.1,true)
  have e:=JH (xs:=u.high) (F:=zc0 u iX Bz) (bot:=fun _ _ _ _=>none) (f:=jb) (Jf:=Bz) (fun k a=>a.2.1.length≤200000+k) (fun ag k x a hx hi=>by
     have hk:=oc hx
     unfold zc0
     exact bS (lR hx) (cB (step u.high k x a ag hx h2 (by omega)))) (fun k x a _ hi=>by have:=EF a x;omega) (fun ag a _=>by unfold zc0;exact bM lC rfl) (n:=zbx) (j0 (by omega)) (a:=(A.1,A.2.1,true)) (by show A.2.1.length≤200000+0;omega)
  refine e.trans ?_
  simp only at g
  have e1:=nr (u.high.foldl jb (A.1,A.2.1,true)).1
  have e2:=Bv (u.high.foldl jb (A.1,A.2.1,true)).2.1
  refine gO ?_
  show some _=some (rX _ _ _)
  unfold rX
  rw[hA]
def kX (a:Int×ad×ad×Bool×Bool) (m:bf):Int×ad×ad×Bool×Bool :=
 match ji a.1 m.Rune with
 |some j=>if mF m then (if a.2.2.2.2 then (a.1,a.2.1,a.2.2.1++m.Text,a.2.2.2.1,true) else (j,ae j,a.2.2.1,a.2.2.2.1,a.2.2.2.2)) else (if a.2.2.2.1 then (a.1,a.2.1,a.2.2.1++m.Text,true,a.2.2.2.2) else (j,ae j,a.2.2.1,a.2.2.2.1,a.2.2.2.2))
 |none=>if mF m then (a.1,a.2.1,a.2.2.1++m.Text,a.2.2.2.1,true) else (a.1,a.2.1,a.2.2.1++m.Text,true,a.2.2.2.2)
theorem R3 (a:Int×ad×ad×Bool×Bool) (m:bf) (hm:m.Text.size≤4) (ha:a.2.1.size≤4):(kX a m).2.2.1.size≤a.2.2.1.size+4∧(kX a m).2.1.size≤4:=by
 unfold kX
 have:=nr
 split
 ·split<;>split<;>simp[aE]<;>(try exact⟨by omega,ha⟩)<;>(try exact nr _)
 ·split<;>simp[aE]<;>exact⟨by omega,ha⟩
theorem JJ:∀ (P:List bf) (b:Int) (st:List Int) (d a:Bool),(∀m∈P,mF m=true∧m.Text=ae m.Rune) →
  P.foldl kX (b,ae b,jg st,d,a)=(((P.map (·.Rune)).foldl jb (b,st,!a)).1,ae ((P.map (·.Rune)).foldl jb (b,st,!a)).1,jg ((P.map (·.Rune)).foldl jb (b,st,!a)).2.1,d,!((P.map (·.Rune)).foldl jb (b,st,!a)).2.2)
 |[],b,st,d,a,_=>by simp
 |m::P,b,st,d,a,h=>by
  obtain⟨h1,h2⟩:=h m (ar ..)
  have e:=fun b st a=>JJ P b st d a (fun z hz=>h z (ak _ hz))
  have c:jg st++m.Text=jg (st++[m.Rune]):=by rw[rj,rj,zd,jA,ri,bx,h2]
  rw[bn,av,bn]
  unfold kX jb
  simp only[h1,if_true]
  cases ji b m.Rune with
  |none=>simp only[c];exact e b (st++[m.Rune]) true
  |some j=>
   cases a with
   |true=>simp only[if_true,c,cW,bj,if_false];exact e b (st++[m.Rune]) true
   |false=>simp only[bj,if_false,cT,if_true];exact e j st false
theorem JK:∀ (P:List bf) (b:Int) (st:List Int) (a d:Bool),(∀m∈P,mF m=false∧m.Text=ae m.Rune) →
  P.foldl kX (b,ae b,jg st,a,d)=(((P.map (·.Rune)).foldl jb (b,st,!a)).1,ae ((P.map (·.Rune)).foldl jb (b,st,!a)).1,jg ((P.map (·.Rune)).foldl jb (b,st,!a)).2.1,!((P.map (·.Rune)).foldl jb (b,st,!a)).2.2,d)
 |[],b,st,a,d,_=>by simp
 |m::P,b,st,a,d,h=>by
  obtain⟨h1,h2⟩:=h m (ar ..)
  have e:=fun b st a=>JK P b st a d (fun z hz=>h z (ak _ hz))
  have c:jg st++m.Text=jg (st++[m.Rune]):=by rw[rj,rj,zd,jA,ri,bx,h2]
  rw[bn,av,bn]
  unfold kX jb
  simp only[h1,bj,if_false]
  cases ji b m.Rune with
  |none=>simp only[c];exact e b (st++[m.Rune]) true
  |some j=>
   cases a with
   |true=>simp only[if_true,c,cW,bj,if_false];exact e b (st++[m.Rune]) true
   |false=>simp only[bj,if_false,cT,if_true];exact e j st false
def pX (c:bf×List bf):ad:=if dI c.1 then rX c.1.Rune ((loI c.2).map (·.Rune)) ((hiI c.2).map (·.Rune)) else c.1.Text
def zB7 (s:ad):ad:=J pX (kD s)
theorem EG (b:Int) (lo hi:List Int) (h1:lo.length≤200000) (h2:hi.length≤200000):(rX b lo hi).size≤4+4*(lo.length+hi.length):=by
 unfold rX
 rw[aE]
 have a1:=Bx lo (b,[],true)
 have a2:=Bx hi ((lo.foldl jb (b,[],true)).1,(lo.foldl jb (b,[],true)).2.1,true)
 have c:=Bv (hi.foldl jb ((lo.foldl jb (b,[],true)).1,(lo.foldl jb (b,[],true)).2.1,true)).2.1
 have a:=nr (hi.foldl jb ((lo.foldl jb (b,[],true)).1,(lo.foldl jb (b,[],true)).2.1,true)).1
 simp only[aL,cf] at a1
 simp only at a2
 omega
theorem R4 (s:ad) (b:s.size≤65536):ve s=some (zB7 s):=by
 unfold ve
 obtain⟨e,hc⟩:=tZ b
 refine aY IJ (aY (Et s b) (aY (RX iX (fun u=>if cZ u.base then rX u.base u.low u.high else ae u.base) _ (by rw[az];omega) ?_) ?_))
 ·intro u hu
  obtain⟨c,a,rfl⟩:=aU.1 hu
  obtain⟨h1,_,_,g⟩:=hc c a
  rcases wZ c h1 with⟨g1,g2,_⟩|⟨g1,g2,d,g4⟩
  ·exact .inl ⟨g1,g2⟩
  ·have f:=zh c.2
   have e1:(fu c).low.length≤196608:=by rw[g4];simp;omega
   have e2:(fu c).high.length≤196608:=by rw[g4];simp;omega
   have h:(fu c).low.length+(fu c).high.length≤196608:=by
    rw[g4];have:=rT c.2;rw[aa] at this;simp;omega
   refine .inr ⟨g1,R2 _ (by rw[Es c g2];exact h1.1) (by omega) (by omega),?_⟩
   split
   ·have:=EG (fu c).base (fu c).low (fu c).high (by omega) (by omega);omega
   ·have:=nr (fu c).base;omega
 ·rw[EB _ pX s b (fun c a h0=>by
   obtain⟨h1,_⟩:=hc c a
   rcases wZ c h1 with⟨_,_,d,_⟩|⟨g1,g2,d,g4⟩
   ·omega
   ·unfold pX dI
    rw[g4]
    show (if cZ c.1.Rune then _ else _)=_
    cases cZ c.1.Rune with
    |true=>rfl
    |false=>simp[d]) (fun c a h0=>by unfold pX;rw[Bt h0];rfl)];rfl
theorem R5 (r2:List bf) (J:Int→Int→ad→Int→ad→Option ad) (hb:r2.length≤1000000) (at_:Int):∀ (P A R:List bf) (n:Nat) (a:Int×ad×ad×Bool×Bool),r2=A++(P++R)→P.length<n→(∀m∈P,m.Text.size≤4)→a.2.1.size≤4→a.2.2.1.size≤4*A.length →
  zaC (fun _ _ _ _ _ _ _ _=>none) (zdE r2 J) n (A.length:Int) a.1 a.2.1 at_ a.2.2.1 a.2.2.2.1 a.2.2.2.2 (P.length:Int)=J ((A.length+P.length:Nat):Int) (P.foldl kX a).1 (P.foldl kX a).2.1 at_ (P.foldl kX a).2.2.1:=by
 intro P
 induction P with
 |nil=>
  intro A R n a hr y _ _ _
  obtain⟨n,rfl⟩:∃k,n=k+1:=⟨n-1,by omega⟩
  rw[gk]
  unfold zdE
  exact bM (by decide) rfl
 |cons m P G=>
  intro A R n a hr y hm ha L
  obtain⟨n,rfl⟩:∃k,n=k+1:=⟨n-1,by omega⟩
  have D:r2.length=A.length+1+P.length+R.length:=by rw[hr];simp;omega
  have c:zca r2 (A.length:Int)=some m:=gM (by rw[hr,aX];exact tX A m _)
  have H:=hm m (ar ..)
  have hsz:=R3 a m H ha
  have o:=G (A++[m]) R n (kX a m) (by rw[hr];simp) (by simp at y;omega) (fun z hz=>hm z (ak _ hz)) hsz.2 (by simp;omega)
  rw[gk]
  generalize zaC (fun _ _ _ _ _ _ _ _=>none) (zdE r2 J) n=ag at o ⊢
  unfold zdE
  have e:∀ (g:Int) (f:ad) (st:ad) (u t:Bool),(g,f,st,u,t)=kX a m→(aV (cr ((A.length:Int)+1))<|aV (cr (((m::P).length:Int)-1))<|ag ((A.length:Int)+1) g f at_ st u t (((m::P).length:Int)-1))=J ((A.length+(m::P).length:Nat):Int) ((m::P).foldl kX a).1 ((m::P).foldl kX a).2.1 at_ ((m::P).foldl kX a).2.2.1:=by
   intro g f st u t he
   rw[←he] at o
   simp only[aa,ab,aL,cf] at o
   push_cast at o
   refine gO (zdG ⟨by simp only[ab];omega,by simp only[ab];omega⟩ ?_)
   rw[show (((m::P).length:Int)-1)=(P.length:Int) by simp,o,bn,←he]
   congr 1
   simp only[ab];push_cast;omega
  refine bS (ax (by simp only[ab];omega)) (cB (aY c (aY (IP _) ?_)))
  have s:mW m.Rune=mF m:=rfl
  rw[s]
  have body:∀ (k1:Int),k1=(if mF m then 1 else 0)→(co (fun (r:Int→ad→Int→ad→Bool→Bool→Option ad)=>
    aT (zca r2 (A.length:Int)) fun (F:bf)=>aT (wI a.1 F.Rune) fun (v:Int)=>
    aN ((v:Int) != 0) (aT (zca ([a.2.2.2.1,a.2.2.2.2]:List Bool) k1) fun (E:Bool)=>aN (!E) (aT (wM v (⟨a.1,a.2.1,at_⟩:bf)) fun (q:bf)=>r q.Rune q.Text q.At a.2.2.1 a.2.2.2.1 a.2.2.2.2)
     (aT (zca r2 (A.length:Int)) fun (x:bf)=>aV (a.2.2.1.size+x.Text.size≤9223372036854775807)<|aT (zca ([a.2.2.2.1,a.2.2.2.2]:List Bool) k1) fun (K:Bool)=>r a.1 a.2.1 at_ (a.2.2.1++x.Text) (if (k1:Int).toNat=0 then true else a.2.2.2.1) (if (k1:Int).toNat=1 then true else a.2.2.2.2)))
     (aT (zca r2 (A.length:Int)) fun (w:bf)=>aV (a.2.2.1.size+w.Text.size≤9223372036854775807)<|aT (zca ([a.2.2.2.1,a.2.2.2.2]:List Bool) k1) fun (I:Bool)=>r a.1 a.2.1 at_ (a.2.2.1++w.Text) (if (k1:Int).toNat=0 then true else a.2.2.2.1) (if (k1:Int).toNat=1 then true else a.2.2.2.2)))
    (fun (g:Int) (f:ad) (p:Int) (h:ad) (l:Bool) (i:Bool)=>aV (cr ((A.length:Int)+1))<|aV (cr (((m::P).length:Int)-1))<|ag ((A.length:Int)+1) g f p h l i (((m::P).length:Int)-1)))=J ((A.length+(m::P).length:Nat):Int) ((m::P).foldl kX a).1 ((m::P).foldl kX a).2.1 at_ ((m::P).foldl kX a).2.2.1:=by
   intro k1 b
   refine cB (aY c (aY (QZ _ _) ?_))
   cases hj:ji a.1 m.Rune with
   |none=>
    refine bM rfl (aY c (gO ?_))
    cases d:mF m with
    |true=>rw[d] at b;subst b;exact aY rfl (e _ _ _ _ _ (by unfold kX;rw[hj,d];rfl))
    |false=>rw[d] at b;subst b;exact aY rfl (e _ _ _ _ _ (by unfold kX;rw[hj,d];rfl))
   |some j=>
    have hr:=RZ hj
    refine bS (by rw[Option.getD_some,cQ];omega) ?_
    cases d:mF m with
    |true=>
     rw[d] at b;subst b
     refine aY (a:=a.2.2.2.2) rfl ?_
     cases hg:a.2.2.2.2 with
     |true=>exact bM rfl (aY c (gO (aY (a:=true) rfl (e _ _ _ _ _ (by unfold kX;rw[hj,d,hg];rfl)))))
     |false=>exact bS rfl (aY (Ee j _ ⟨by omega,by omega⟩) (e _ _ _ _ _ (by unfold kX;rw[hj,d,hg];rfl)))
    |false=>
     rw[d] at b;subst b
     refine aY (a:=a.2.2.2.1) rfl ?_
     cases hg:a.2.2.2.1 with
     |true=>exact bM rfl (aY c (gO (aY (a:=true) rfl (e _ _ _ _ _ (by unfold kX;rw[hj,d,hg];rfl)))))
     |false=>exact bS rfl (aY (Ee j _ ⟨by omega,by omega⟩) (e _ _ _ _ _ (by unfold kX;rw[hj,d,hg];rfl)))
  cases d:mF m with
  |true=>rw[d] at body;exact bS rfl (body 1 rfl)
  |false=>rw[d] at body;exact bM rfl (body 0 rfl)
theorem JL {α:Type} (f:α→ad) (x:α) (l:List α) (b:ad):(b++f x)++J f l=b++J f (x::l):=by rw[jA,de]
theorem R6 (x:bf) (M:List bf) (hx:x.Text=ae x.Rune) (a:∀m∈M,m.Text=ae m.Rune) :
  ((loI M++hiI M).foldl kX (x.Rune,x.Text,(⟨#[]⟩:ad),false,false)).2.1++((loI M++hiI M).foldl kX (x.Rune,x.Text,(⟨#[]⟩:ad),false,false)).2.2.1=rX x.Rune ((loI M).map (·.Rune)) ((hiI M).map (·.Rune)):=by
 have h1:=JJ (loI M) x.Rune [] false false (fun m hm=>by
  unfold loI at hm;rw[cq] at hm;exact⟨hm.2,a m hm.1⟩)
 rw[←hx,show jg []=(⟨#[]⟩:ad) from rfl] at h1
 rw[List.foldl_append,h1]
 have h2:=JK (hiI M) (((loI M).map (·.Rune)).foldl jb (x.Rune,[],!false)).1 (((loI M).map (·.Rune)).foldl jb (x.Rune,[],!false)).2.1 false (!(((loI M).map (·.Rune)).foldl jb (x.Rune,[],!false)).2.2) (fun m hm=>by
  unfold hiI at hm;rw[cq] at hm;exact⟨by simpa using hm.2,a m hm.1⟩)
 rw[h2]
 rfl
theorem EH {m:bf} (h:lm m) (hm:isM m=true):m.Text=ae m.Rune:=by
 rcases h.2 with⟨h3,_⟩|⟨_,h3⟩
 ·have:fc m.Rune=true:=hm
  unfold fc at this;simp at this;omega
 ·exact h3
theorem R7 (r1:List bf) (Jf:ad→Option ad) (hb:r1.length≤200000):∀ (m n:Nat) (A B:List bf) (out:ad),B.length≤m→B.length<n→r1=A++lS B→(∀x∈B,lm x)→out.size≤4*A.length →
  zaC (fun _ _=>none) (zdd Jf r1) n out (A.length:Int)=Jf (out++J pX (cl B)):=by
 have l:∀ (n:Nat) (A:List bf) (out:ad),0<n→r1=A→zaC (fun _ _=>none) (zdd Jf r1) n out (A.length:Int)=Jf (out++J pX (cl [])):=by
  intro n A out t he
  obtain⟨n,rfl⟩:∃k,n=k+1:=⟨n-1,by omega⟩
  rw[gk]
  unfold zdd
  exact bM (al (by rw[he];omega)) (by rw[Ei,ri,bx])
 intro m
 induction m with
 |zero=>
  intro n A B out hB t he c H
  have:B=[]:=List.eq_nil_of_length_eq_zero (by omega)
  subst this
  exact l n A out (by omega) (by rw[he,wV,aH])
 |succ m o=>
  intro n A B out hB t he c H
  cases B with
  |nil=>exact l n A out (by omega) (by rw[he,wV,aH])
  |cons x xs=>
   simp only[ab] at hB t
   obtain⟨n,rfl⟩:∃k,n=k+1:=⟨n-1,by omega⟩
   have hx:=c x (ar ..)
   have s:=ub hx
   have E:r1.length=A.length+1+xs.length:=by rw[he,aa,ua];simp;omega
   rw[gk]
   generalize i:zaC (fun _ _=>none) (zdd Jf r1) n=ag at o ⊢
   unfold zdd
   have g:zca r1 (A.length:Int)=some x:=gM (by
    rw[he]
    cases hL:dI x with
    |true=>rw[u0 hL];exact tX A x _
    |false=>rw[u6 hL];exact tX A x _)
   refine eR (aY g (gO (aY (wS x hx.1) ?_)))
   have w:cZ x.Rune=dI x:=rfl
   rw[w]
   cases hL:dI x with
   |false=>
    rw[u6 hL] at he
    refine bS rfl (gO ?_)
    have:=o n (A++[x]) xs (out++x.Text) (by omega) (by omega) (by rw[he];simp) (fun z hz=>c z (ak _ hz)) (by rw[aE];simp;omega)
    rw[i] at this
    have ht:pX (x,[])=x.Text:=by unfold pX;rw[hL];rfl
    rw[show ((A.length:Int)+1)=((A++[x]).length:Int) by simp,this,Bl hL,←JL,ht]
   |true=>
    rw[u0 hL] at he
    obtain⟨M,R,v,u,e⟩:∃M R,M=xs.takeWhile isM∧R=xs.dropWhile isM∧xs=M++R:=⟨_,_,rfl,rfl,(List.takeWhile_append_dropWhile).symm⟩
    rw[←v,←u] at he
    have f:=rT M
    have G:xs.length=M.length+R.length:=by rw[e];simp
    have j:∀y∈M,isM y=true:=by rw[v];exact Ek xs
    have d:∀y∈M,lm y:=fun y hy=>c y (by rw[e];exact ak _ (List.mem_append_left _ hy))
    have h:dK r1 ((A.length:Int)+1) (r1.length:Int)=(loI M++hiI M)++lS R:=by
     rw[he];exact Eo A x _ _ rfl
    refine bM rfl (cB (gO ?_))
    rw[h]
    refine aY (Ef _ (by rw[aa,ua];omega)) ?_
    have r:(((loI M++hiI M)++lS R).takeWhile fun x=>fc x.Rune)=loI M++hiI M:=Jp _ _ (Ej j) (by rw[u];exact Jq xs)
    rw[r]
    have q:x.Text=ae x.Rune:=by
     rcases hx.2 with⟨h3,_⟩|⟨_,h3⟩
     ·have:=Bt h3;rw[hL] at this;cases this
     ·exact h3
    have b:=R5 r1 (fun (F:Int) (x1:Int) (x2:ad) (I:Int) (a:ad)=>aV (x2.size+a.size≤9223372036854775807)<|aV (out.size+(x2++a).size≤9223372036854775807)<|ag (out++(x2++a)) F) (by omega) x.At (loI M++hiI M) (A++[x]) (lS R) zbx (x.Rune,x.Text,(⟨#[]⟩:ad),false,false) (by rw[he];simp) (j0 (by omega)) (fun y hy=>by
      have p:y∈M:=by
       unfold loI hiI at hy
       rw[bY,cq,cq] at hy
       rcases hy with hy|hy<;>exact hy.1
      exact ub (d y p)) s (bG _)
    rw[show (((A++[x]).length:Nat):Int)=(A.length:Int)+1 by simp] at b
    refine b.trans ?_
    have hall:=R6 x M q (fun y hy=>EH (d y hy) (j y hy))
    have hsz:(rX x.Rune ((loI M).map (·.Rune)) ((hiI M).map (·.Rune))).size≤4+4*M.length:=by
     have:=EG x.Rune ((loI M).map (·.Rune)) ((hiI M).map (·.Rune)) (by simp;have:=(zh M).1;omega) (by simp;have:=(zh M).2;omega)
     rw[aa] at f
     simp only[az] at this
     omega
    have D:(((loI M++hiI M).foldl kX (x.Rune,x.Text,(⟨#[]⟩:ad),false,false)).2.1.size+((loI M++hiI M).foldl kX (x.Rune,x.Text,(⟨#[]⟩:ad),false,false)).2.2.1.size)≤4+4*M.length:=by
     rw[←aE,hall];exact hsz
    refine gO (zdG (by rw[aE];omega) ?_)
    rw[hall]
    have ht:pX (x,M)=rX x.Rune ((loI M).map (·.Rune)) ((hiI M).map (·.Rune)):=by unfold pX;rw[hL];rfl
    have:=o n (A++[x]++(loI M++hiI M)) R (out++pX (x,M)) (by omega) (by omega) (by rw[he];simp) (fun z hz=>c z (by rw[e];exact ak _ (List.mem_append_right _ hz))) (by rw[aE,ht];simp only[aa,ab,aL] at f ⊢;omega)
    rw[i] at this
    rw[ht] at this
    rw[show ((((A++[x]).length+(loI M++hiI M).length:Nat)):Int)=((A++[x]++(loI M++hiI M)).length:Int) by rw[←aa],this,wU hL,←v,←u,←JL,ht]
theorem R8 (s:ad) (b:s.size≤65536):zj s=some (zB7 s):=by
 unfold zj
 have h3:(fV s).length≤s.size:=by unfold fV;simpa using qz s
 have a:=Ex (wY (s:=s))
 have c:=uZ (fV s)
 have h5:=ua (apL (fV s))
 refine cB (aY (wT s (by omega)) (aY (Ep _ (fun x hx=>(wY x hx).1) (by omega)) ?_))
 have:=R7 (lS (apL (fV s))) some (by omega) (apL (fV s)).length zbx [] (apL (fV s)) (⟨#[]⟩:ad) (bq _) (j0 (by omega)) rfl a (by decide)
 refine this.trans ?_
 rw[show (⟨#[]⟩:ad)=ac from rfl,ByteArray.empty_append];rfl

def kv (t:dq):Prop:=t.valid∨t.broken=true
def w6 (x:bf):dq:=⟨if x.Rune<0 then 65533 else x.Rune.toNat,x.Text.data.toList⟩
theorem w7 {t:dq} (h:kv t):w6 (zf9 t)=t:=by
 unfold w6 zf9
 rcases h with h|h
 ·rw[wt h]
  cases t;simp;intro h;omega
 ·rw[h]
  have:t.r=65533:=by unfold dq.broken at h;simp at h;exact h.1
  cases t;simp at this;subst this;simp
def LM (t:dq):Prop:=cZ (t.r:Int)=true∨fc (t.r:Int)=true
def w8 (g:List dq×(bf×List bf)):Prop :=
 (dI g.2.1=true∧g.1≠[]∧(∀t∈g.1,t.valid∧LM t)∧(∀m∈g.2.2,isM m=true)∧zbP g.2.1.Rune tabS=none)∨(dI g.2.1=false∧g.2.2=[]∧∃t,g.1=[t]∧kv t∧g.2.1=zf9 t)
theorem R9 {t:dq} (h:kv t) (hm:isM (zf9 t)=true):t.valid∧fc (t.r:Int)=true:=by
 rcases h with h|h
 ·refine⟨h,?_⟩
  unfold isM zf9 at hm
  rw[wt h] at hm;exact hm
 ·unfold isM zf9 at hm
  rw[h] at hm;exact absurd (show fc (-1)=true from hm) (by decide)
theorem JM {t:dq} (h:kv t):∃x c,jm (zf9 t)=x::c∧w8 ([t],(x,c))∧(∀m∈c,isM m=true)∧(dI x=false→c=[])∧isM x=isM (zf9 t):=by
 cases hL:dI (zf9 t) with
 |false=>
  exact⟨zf9 t,[],by unfold jm;rw[hL];rfl,.inr ⟨hL,rfl,t,rfl,h,rfl⟩,by simp,fun _=>rfl,rfl⟩
 |true=>
  have a:cZ (zf9 t).Rune=true:=hL
  obtain⟨b,c,k,hb,l,f,_⟩:=tW a
  have hv:t.valid:=by
   rcases h with h|h
   ·exact h
   ·unfold zf9 at a;rw[h] at a;exact absurd (show cZ (-1)=true from a) (by decide)
  have g:cZ (t.r:Int)=true:=by unfold zf9 at a;rw[wt hv] at a;exact a
  have j:isM (zf9 t)=false:=by
   cases e:isM (zf9 t) with
   |false=>rfl
   |true=>have:=qA (show fc (zf9 t).Rune=true from e);rw[a] at this;cases this
  have i:isM (⟨b,ae b,(zf9 t).At⟩:bf)=false:=by
   cases e:isM (⟨b,ae b,(zf9 t).At⟩:bf) with
   |false=>rfl
   |true=>have:=qA (show fc b=true from e);rw[hb] at this;cases this
  have d:∀m∈c.map (fun r=>(⟨r,ae r,(zf9 t).At⟩:bf)),isM m=true:=fun m hm=>by
   obtain⟨r,hr,rfl⟩:=aU.1 hm;exact f r hr
  exact⟨⟨b,ae b,(zf9 t).At⟩,c.map fun r=>⟨r,ae r,(zf9 t).At⟩,by unfold jm;rw[hL,k];rfl,.inl ⟨hb,by simp,fun u hu=>by simp at hu;subst hu;exact⟨hv,.inl g⟩,d,l⟩,d,
   (fun e=>by rw[show dI (⟨b,ae b,(zf9 t).At⟩:bf)=true from hb] at e;cases e),by rw[j,i]⟩
theorem EI:∀ (ts gs:List dq) (c:bf×List bf),(∀t∈ts,kv t)→w8 (gs,c)→∃G:List (List dq×(bf×List bf)),gs++ts=G.flatMap (·.1)∧fM (some c) (apL (ts.map zf9))=G.map (·.2)∧∀g∈G,w8 g
 |[],gs,c,_,hc=>⟨[(gs,c)],by simp,by simp[apL,fM],by simpa using hc⟩
 |t::ts,gs,c,hok,hc=>by
  have ht:=hok t (ar ..)
  have b:=fun u hu=>hok u (ak _ hu)
  have e:apL ((t::ts).map zf9)=jm (zf9 t)++apL (ts.map zf9):=by unfold apL;rw[av,aG]
  obtain⟨x,a,h1,h2,h3,i,h5⟩:=JM ht
  rw[e]
  cases hk:(dI c.1&&isM (zf9 t)) with
  |true=>
   rw[aQ] at hk
   have hL:dI (zf9 t)=false:=qA (show fc (zf9 t).Rune=true from hk.2)
   have ha:jm (zf9 t)=[zf9 t]:=by unfold jm;rw[hL];rfl
   obtain⟨hv,hm⟩:=R9 ht hk.2
   have d:w8 (gs++[t],(c.1,c.2++[zf9 t])):=by
    rcases hc with⟨g1,g2,k,g4,j⟩|⟨g1,_⟩
    ·refine .inl ⟨g1,by simp,fun u hu=>?_,fun m hm2=>?_,j⟩
     ·rcases bY.1 hu with hu|hu
      ·exact k u hu
      ·simp at hu;subst hu;exact⟨hv,.inr hm⟩
     ·rcases bY.1 hm2 with hm2|hm2
      ·exact g4 m hm2
      ·simp at hm2;subst hm2;exact hk.2
    ·rw[hk.1] at g1;cases g1
   obtain⟨G,e1,e2,f⟩:=EI ts (gs++[t]) (c.1,c.2++[zf9 t]) b d
   refine⟨G,by rw[←e1];simp,?_,f⟩
   rw[ha,←e2,qk]
   show (if dI c.1&&isM (zf9 t) then fM (some (c.1,c.2++[zf9 t])) (apL (ts.map zf9)) else _)=_
   rw[hk.1,hk.2];rfl
  |false=>
   obtain⟨G,e1,e2,f⟩:=EI ts [t] (x,a) b h2
   refine⟨(gs,c)::G,by rw[aG,←e1];simp,?_,fun g hg=>?_⟩
   ·rw[h1,aX,av,←e2]
    show (if dI c.1&&isM x then _ else c::fM (some (x,[])) (a++apL (ts.map zf9)))=_
    rw[h5,hk]
    have h:fM (some (x,[])) (a++apL (ts.map zf9))=fM (some (x,a)) (apL (ts.map zf9)):=by
     cases hx:dI x with
     |true=>rw[Bn x hx _ a [] h3];rfl
     |false=>rw[i hx];rfl
    rw[←h];rfl
   ·rcases bo.1 hg with rfl|hg
    ·exact hc
    ·exact f g hg
theorem JN (ts:List dq) (a:∀t∈ts,kv t):∃G:List (List dq×(bf×List bf)),ts=G.flatMap (·.1)∧jS ts=G.map (·.2)∧∀g∈G,w8 g:=by
 cases ts with
 |nil=>exact⟨[],rfl,rfl,by simp⟩
 |cons t ts=>
  obtain⟨x,b,h1,h2,h3,d,h5⟩:=JM (a t (ar ..))
  obtain⟨G,e1,e2,e⟩:=EI ts [t] (x,b) (fun u hu=>a u (ak _ hu)) h2
  refine⟨G,by rw[←e1];rfl,?_,e⟩
  unfold jS
  have c:apL ((t::ts).map zf9)=jm (zf9 t)++apL (ts.map zf9):=by unfold apL;rw[av,aG]
  rw[c,h1,←e2]
  show fM (some (x,[])) (b++apL (ts.map zf9))=_
  cases hx:dI x with
  |true=>rw[Bn x hx _ b [] h3];rfl
  |false=>rw[d hx];rfl
structure vf (out:bf×List bf→List dq):Prop where
 other:∀x,dI x=false→out (x,[])=[w6 x]
 ne:∀c,dI c.1=true→out c≠[]
 val:∀c,dI c.1=true→zbP c.1.Rune tabS=none→(∀m∈c.2,isM m=true)→∀t∈out c,t.valid∧LM t
theorem JO {out:bf×List bf→List dq} (a:vf out):∀ (G:List (List dq×(bf×List bf))),(∀g∈G,w8 g)→nZ (G.flatMap (·.1)) ((G.map (·.2)).flatMap out)
 |[],_=>nZ.nil
 |g::G,h=>by
  have b:=JO a G (fun x hx=>h x (ak _ hx))
  rw[aG,av,aG]
  rcases h g (ar ..) with⟨g1,g2,d,g4,c⟩|⟨g1,g2,t,d,g4,c⟩
  ·exact nZ.val g2 (a.ne _ g1) (fun t ht=>(d t ht).1) (fun t ht=>(a.val _ g1 c g4 t ht).1) b
  ·have e:out g.2=[t]:=by
    rw[show g.2=(g.2.1,[]) from _root_.Prod.ext rfl g2,a.other _ g1,c,w7 g4]
   rw[d,e]
   rcases g4 with g4|g4
   ·exact nZ.one g4 (by simp) (by simpa using g4) b
   ·exact nZ.brk g4 b
theorem EJ {out:bf×List bf→List dq} (a:vf out) {s x:ad} (hx:x.data.toList=cP ((jS (eU s.data.toList)).flatMap out)):eU x.data.toList=(jS (eU s.data.toList)).flatMap out:=by
 obtain⟨G,e1,e2,b⟩:=JN (eU s.data.toList) (pP _)
 rw[hx,e2]
 have:=(JO a G b).good (by rw[←e1];exact Ih _)
 exact this
def sp:ad:=⟨#[32]⟩
theorem BA (y:bf) (Y:List bf) (hy:isM y=false):∀ (X:List bf) (a:Option (bf×List bf)),fM a (X++y::Y)=fM a X++fM none (y::Y)
 |[],none=>rfl
 |[],some c=>by
  show (if dI c.1&&isM y then _ else c::fM (some (y,[])) Y)=_
  rw[hy,Bool.and_false];rfl
 |x::X,none=>BA y Y hy X (some (x,[]))
 |x::X,some c=>by
  show (if dI c.1&&isM x then fM (some (c.1,c.2++[x])) (X++y::Y) else c::fM (some (x,[])) (X++y::Y))=(if dI c.1&&isM x then fM (some (c.1,c.2++[x])) X else c::fM (some (x,[])) X)++_
  split
  ·exact BA y Y hy X _
  ·rw[BA y Y hy X];rfl
theorem Sa (c a:List dq) (h:∀t,a.head?=some t→fc (zf9 t).Rune=false):jS (c++a)=jS c++jS a:=by
 unfold jS
 rw[cM]
 have e:∀x y:List bf,apL (x++y)=apL x++apL y:=fun x y=>by unfold apL;rw[List.flatMap_append]
 rw[e]
 cases a with
 |nil=>simp[apL,cl,fM]
 |cons t a=>
  have ht:=h t rfl
  obtain⟨y,ys,hy,hm⟩:∃y ys,apL ((t::a).map zf9)=y::ys∧isM y=false:=by
   unfold apL
   rw[av,aG]
   unfold jm
   split
   ·rename_i hL
    obtain⟨b,f,d,hb,_⟩:=tW (show cZ (zf9 t).Rune=true from hL)
    rw[d]
    refine⟨_,_,rfl,?_⟩
    cases e:isM (⟨b,ae b,(zf9 t).At⟩:bf) with
    |false=>rfl
    |true=>have:=qA (show fc b=true from e);rw[hb] at this;cases this
   ·exact⟨_,_,rfl,ht⟩
  rw[hy]
  exact BA y ys hm _ none
theorem EK (l:List bf):loI (l.map jR)=(loI l).map jR∧hiI (l.map jR)=(hiI l).map jR:=by
 unfold loI hiI
 rw[List.filter_map,List.filter_map]
 exact⟨rfl,rfl⟩
theorem JP (c:bf×List bf):pW (nt c)=pW c:=by
 unfold pW mG nt
 simp only
 rw[(EK c.2).1,(EK c.2).2,←cM,jA,jA,rV];rfl
def kF (g:bf×List bf→List Int) (c:bf×List bf):List dq:=if dI c.1 then (g c).map ku else [w6 c.1]
theorem Sb (rs:List Int):(jg rs).data.toList=cP (rs.map ku):=by
 rw[rj]
 induction rs with
 |nil=>rfl
 |cons r rs a=>
  rw[jA,av,mq,←a]
  have:(ae r).data.toList=encodeRune r:=nF r
  show (ae r++J ae rs).data.toList=encodeRune r++_
  rw[←this];simp
theorem uc {r:Int} (h:cZ r=true):vr r:=by have:=mV r h;unfold vr;omega
theorem zk {r:Int} (h:fc r=true):vr r:=by unfold fc at h;simp at h;unfold vr;omega
theorem Sc {r:Int} (h:cZ r=true∨fc r=true):(ku r).valid∧LM (ku r):=by
 have hv:vr r:=by rcases h with h | h;exact uc h;exact zk h
 refine⟨zf hv,?_⟩
 unfold LM
 have:(((ku r).r:Nat):Int)=r:=by show ((r.toNat:Nat):Int)=r;unfold vr at hv;omega
 rw[this];exact h
theorem JQ {g:bf×List bf→List Int} (h0:∀c,dI c.1=true→g c≠[]) (h:∀c,dI c.1=true→zbP c.1.Rune tabS=none→(∀m∈c.2,isM m=true)→∀r∈g c,cZ r=true∨fc r=true):vf (kF g) where
 other x hx:=by unfold kF;rw[hx];rfl
 ne c hc:=by unfold kF;rw[hc];simpa using h0 c hc
 val c hc hn hm t ht:=by
  unfold kF at ht;rw[hc] at ht
  obtain⟨r,hr,rfl⟩:=aU.1 (show t∈(g c).map ku from ht)
  exact Sc (h c hc hn hm r hr)
theorem JR (f:bf×List bf→ad) (out:bf×List bf→List dq):∀l:List (bf×List bf),(∀c∈l,(f c).data.toList=cP (out c))→(J f l).data.toList=cP (l.flatMap out)
 |[],_=>rfl
 |c::l,h=>by
  rw[jA,aG,mr,←JR f out l (fun d hd=>h d (ak _ hd)),←h c (ar ..)]
  simp
theorem BB {x:bf} (h:lm x):lm (jR x):=h
theorem JS {f:bf×List bf→ad} {g:bf×List bf→List Int} (hf:∀c,f (nt c)=f c)
  (h1:∀c,dI c.1=true→lm c.1→(∀m∈c.2,isM m=true∧lm m)→f c=jg (g c)) (h2:∀c,dI c.1=false→c.2=[]→f c=c.1.Text)
  (s:ad) (h:s.size≤65536):(J f (kD s)).data.toList=cP ((jS (eU s.data.toList)).flatMap (kF g)):=by
 have e:J f (kD s)=J f (jS (eU s.data.toList)):=by
  rw[←ze,rV];exact sX fun c _=>(hf c).symm
 rw[e]
 refine JR f _ _ fun c hc=>?_
 rw[←ze] at hc
 obtain⟨d,hd,rfl⟩:=aU.1 hc
 obtain⟨o1,a,b,_⟩:=(tZ h).2 d hd
 unfold kF
 cases hL:dI (nt d).1 with
 |true=>
  rw[h1 _ hL (BB o1) (fun m hm=>by obtain⟨y,hy,rfl⟩:=aU.1 (show m∈d.2.map jR from hm);exact⟨(a y hy).1,BB (a y hy).2⟩),Sb];rfl
 |false=>
  rw[h2 _ hL (by show d.2.map jR=[];rw[b hL];rfl)]
  show _=cP [w6 (nt d).1]
  simp[cP,w6]
def gA (c:bf×List bf):List Int:=(mG c).map (·.Rune)
theorem EL {c:bf×List bf} {x:bf} (h:x∈mG c):x=c.1∨x∈c.2:=by
 unfold mG at h
 rcases bo.1 h with h|h
 ·exact .inl h
 ·unfold loI hiI at h
  rw[bY,cq,cq] at h
  exact .inr (by rcases h with h | h<;>exact h.1)
theorem Sd:vf (kF gA):=JQ (fun c _=>by unfold gA mG;simp) (fun c hc a hm r hr=>by
 unfold gA at hr
 obtain⟨x,hx,rfl⟩:=aU.1 hr
 rcases EL hx with rfl|hx
 ·exact .inl hc
 ·exact .inr (hm x hx))
theorem JT {x:bf} (h:lm x) (hL:dI x=true):x.Text=ae x.Rune:=by
 rcases h.2 with⟨h1,_⟩|⟨_,h1⟩
 ·have:=(mV _ hL).1;omega
 ·exact h1
theorem Se (s:ad) (a:s.size≤65536):(gm s).data.toList=cP ((jS (eU s.data.toList)).flatMap (kF gA)):=by
 refine JS JP (fun c hL h1 h2=>?_) (fun c hL h2=>?_) s a
 ·unfold pW gA
  rw[rj,rV]
  refine sX fun x hx=>?_
  rcases EL hx with rfl|hx
  ·exact JT h1 hL
  ·exact EH (h2 x hx).2 (h2 x hx).1
 ·unfold pW mG loI hiI;rw[h2];rw[jA];simp[ri]
theorem BC {c:bf×List bf} (hm:∀m∈c.2,isM m=true):(∀m∈(loI c.2).map (·.Rune),fc m=true)∧∀m∈(hiI c.2).map (·.Rune),fc m=true:=by
 constructor<;>intro m h<;>obtain⟨x,hx,rfl⟩:=aU.1 h
 ·unfold loI at hx;rw[cq] at hx;exact hm x hx.1
 ·unfold hiI at hx;rw[cq] at hx;exact hm x hx.1
def JU (r:Int):Bool:=!cZ r||(decide (kE (cA r)=jg (eH (kE (cA r))))&&!(eH (kE (cA r))).isEmpty &&
 ((zbP r tabS).isSome||(eH (kE (cA r))).all fun x=>cZ x&&!great x&&(zbP x tabS).isNone&&decide (kE x=ae x)&&decide (cA x=x)))
theorem Sf:((List.range 1120).all fun n=>JU (n:Int))=true:=by decide +kernel
theorem JV {r:Int} (h:cZ r=true):kE (cA r)=jg (eH (kE (cA r)))∧eH (kE (cA r))≠[]∧(zbP r tabS=none→∀x∈eH (kE (cA r)),cZ x=true∧great x=false∧zbP x tabS=none∧kE x=ae x∧cA x=x):=by
 have hr:=mV r h
 have:=bd.1 Sf r.toNat (List.mem_range.2 (by omega))
 rw[show ((r.toNat:Nat):Int)=r by omega] at this
 unfold JU at this
 rw[h] at this
 simp only[cW,Bool.false_or,aQ,decide_eq_true_eq,Bool.or_eq_true] at this
 obtain⟨⟨h1,h2⟩,h3⟩:=this
 refine⟨h1,?_,fun f x hx=>?_⟩
 ·intro e;rw[e] at h2;cases h2
 ·rw[f] at h3
  rcases h3 with h3|h3
  ·cases h3
  ·have:=bd.1 h3 x hx
   simp only[aQ,decide_eq_true_eq,Bool.not_eq_true',Option.isNone_iff_eq_none] at this
   obtain⟨⟨⟨⟨a,b⟩,c⟩,d⟩,e⟩:=this
   exact⟨a,b,c,d,e⟩
def w9:Bool→List (bf×List bf)→Prop
 |_,[]=>True
 |p,c::cs=>(p=true→isM c.1=false)∧w9 (dI c.1) cs
theorem EM:∀ (xs:List bf) (c:bf×List bf) (p:Bool),(p=true→isM c.1=false)→w9 p (fM (some c) xs)
 |[],c,p,h=>⟨h,trivial⟩
 |x::xs,c,p,h=>by
  show w9 p (if dI c.1&&isM x then fM (some (c.1,c.2++[x])) xs else c::fM (some (x,[])) xs)
  cases e:(dI c.1&&isM x) with
  |true=>exact EM xs (c.1,c.2++[x]) p h
  |false=>exact⟨h,EM xs (x,[]) (dI c.1) (fun hL=>by rw[hL] at e;exact e)⟩
theorem Sg (xs:List bf):w9 false (cl xs):=by
 cases xs with
 |nil=>trivial
 |cons x xs=>exact EM xs (x,[]) false (fun h=>by cases h)
def JW (c:bf×List bf):Prop:=(dI c.1=true∧(∀m∈c.2,isM m=true)∧zbP c.1.Rune tabS=none)∨(dI c.1=false∧c.2=[]∧∃t,kv t∧c.1=zf9 t)
theorem EN {ts:List dq} (a:∀t∈ts,kv t):∀c∈jS ts,JW c:=by
 obtain⟨G,e1,e2,e⟩:=JN ts a
 intro c hc
 rw[e2] at hc
 obtain⟨g,hg,rfl⟩:=aU.1 hc
 rcases e g hg with⟨g1,g2,d,g4,b⟩|⟨g1,g2,t,d,g4,b⟩
 ·exact .inl ⟨g1,g4,b⟩
 ·exact .inr ⟨g1,g2,t,g4,b⟩
theorem JX (x:bf) (xs:List bf):apL (x::xs)=jm x++apL xs:=by unfold apL;rw[aG]
theorem EO {t:dq} (h:dI (zf9 t)=false) (ts:List dq):jS (t::ts)=(zf9 t,[])::jS ts:=by
 unfold jS
 rw[av,JX,show jm (zf9 t)=[zf9 t] by unfold jm;rw[h];rfl]
 exact Bl h _
theorem JY {out:bf×List bf→List dq} (b:vf out) (h:∀c,dI c.1=true→zbP c.1.Rune tabS=none→(∀m∈c.2,isM m=true)→∀t,(out c).head?=some t→fc (zf9 t).Rune=false) :
  ∀ (cs:List (bf×List bf)) (p:Bool),(∀c∈cs,JW c)→w9 p cs→jS (cs.flatMap out)=cs.flatMap (fun c=>jS (out c))
 |[],_,_,_=>rfl
 |c::cs,p,hc,ha=>by
  have j:=JY b h cs (dI c.1) (fun d hd=>hc d (ak _ hd)) ha.2
  rw[aG,aG,←j]
  rcases hc c (ar ..) with⟨g1,g2,i⟩|⟨g1,g2,t,i,g4⟩
  ·refine Sa _ _ fun t ht=>?_
   cases cs with
   |nil=>cases ht
   |cons a cs=>
    have f:=ha.2.1 g1
    rw[aG] at ht
    rcases hc a (ak _ (ar ..)) with⟨k1,k2,k3⟩|⟨k1,k2,u,k3,g⟩
    ·obtain⟨v,vs,hv⟩:=List.exists_cons_of_ne_nil (b.ne a k1)
     rw[hv] at ht
     exact h a k1 k3 k2 t (by rw[hv];exact ht)
    ·have e:out a=[u]:=by rw[show a=(a.1,[]) from _root_.Prod.ext rfl k2,b.other _ k1,g,w7 k3]
     rw[e] at ht
     have:u=t:=mL ht
     subst this
     rw[←g];exact f
  ·have e:out c=[t]:=by rw[show c=(c.1,[]) from _root_.Prod.ext rfl g2,b.other _ g1,g4,w7 i]
   have hL:dI (zf9 t)=false:=by rw[←g4];exact g1
   rw[e,qk,EO hL,EO hL];rfl
theorem Sh {out:bf×List bf→List dq} (i:vf out) (j:∀c,dI c.1=true→zbP c.1.Rune tabS=none→(∀m∈c.2,isM m=true)→∀t,(out c).head?=some t→fc (zf9 t).Rune=false)
  {f g:bf×List bf→ad} (hf:∀c,f (nt c)=f c) (hg:∀c,g (nt c)=g c) {s x:ad} (p:s.size≤65536) (hx:x.data.toList=cP ((jS (eU s.data.toList)).flatMap out))
  (hL:∀c,dI c.1=true→(∀m∈c.2,isM m=true∧lm m)→zbP c.1.Rune tabS=none→lm c.1→J f (jS (out c))=g c)
  (q:∀y,dI y=false→f (y,[])=g (y,[])):J f (kD x)=J g (kD s):=by
 have e:∀ (h:bf×List bf→ad) (u:ad),(∀c,h (nt c)=h c)→J h (kD u)=J h (jS (eU u.data.toList)):=fun h u j=>by
  rw[←ze,rV];exact sX fun c _=>(j c).symm
 rw[e f x hf,e g s hg,EJ i hx]
 have b:w9 false (jS (eU s.data.toList)):=Sg _
 have a:=EN (pP s.data.toList)
 rw[JY i j _ false a b,Ev]
 refine sX fun c hc=>?_
 rcases a c hc with⟨g1,g2,l⟩|⟨g1,g2,t,l,g4⟩
 ·rw[←ze] at hc
  obtain⟨d,hd,rfl⟩:=aU.1 hc
  obtain⟨o1,n,r,_⟩:=(tZ p).2 d hd
  exact hL _ g1 (fun m hm=>by obtain⟨y,hy,rfl⟩:=aU.1 (show m∈d.2.map jR from hm);exact⟨(n y hy).1,BB (n y hy).2⟩) l (BB o1)
 ·have o:c=(c.1,[]):=_root_.Prod.ext rfl g2
  have e1:out c=[t]:=by rw[o,i.other _ g1,g4,w7 l]
  have k:dI (zf9 t)=false:=by rw[←g4];exact g1
  rw[e1,EO k]
  show J f [(zf9 t,[])]=g c
  rw[jA,ri,bx,←g4,q _ g1,←o]
theorem EP {r:Int} (h:cZ r=true):fc r=false:=by
 cases e:fc r with
 |false=>rfl
 |true=>have:=qA e;rw[h] at this;cases this
theorem JZ {r:Int} (h:vr r):zf9 (ku r)=jt r:=by
 rw[EE (zf h)]
 show jt ((r.toNat:Nat):Int)=jt r
 rw[show ((r.toNat:Nat):Int)=r by unfold vr at h;omega]
theorem Si {rs:List Int} (h:∀r∈rs,vr r):(rs.map ku).map zf9=rs.map jt:=by
 rw[List.map_map]
 exact List.map_congr_left fun r hr=>JZ (h r hr)
theorem J0:∀ {st:List Int},(∀m∈st,fc m=true)→st.flatMap iw=st
 |[],_=>rfl
 |m::st,h=>by
  rw[aG,Jy (qA (h m (ar ..))),J0 fun x hx=>h x (ak _ hx)];rfl
theorem EQ {α:Type} {p:α→Bool}:∀ {l:List α},(∀x∈l,p x=true)→l.takeWhile p=l
 |[],_=>rfl
 |x::l,h=>by rw[List.takeWhile_cons,am (h x (ar ..)),EQ fun y hy=>h y (ak _ hy)]
theorem ER {α:Type} {p:α→Bool}:∀ {l:List α},(∀x∈l,p x=true)→l.dropWhile p=[]
 |[],_=>rfl
 |x::l,h=>by rw[List.dropWhile_cons,am (h x (ar ..)),ER fun y hy=>h y (ak _ hy)]
theorem Sj {j b:Int} {st c:List Int} (hj:cZ j=true) (a:∀m∈st,fc m=true) (hp:iw j=b::c):jS ((j::st).map ku)=[(jt b,(c++st).map jt)]:=by
 unfold jS
 rw[Si (fun r hr=>by
  rcases bo.1 hr with rfl|hr
  ·exact uc hj
  ·exact zk (a r hr)),Jz,aG,hp,J0 a]
 obtain⟨h,f,e,hb,g,d,_⟩:=tW hj
 rw[hp] at e
 obtain⟨rfl,rfl⟩:=nc e
 rw[aX,av,wU (show dI (jt b)=true from hb)]
 have hall:∀x∈(c++st).map jt,isM x=true:=fun x hx=>by
  obtain⟨r,hr,rfl⟩:=aU.1 hx
  show fc r=true
  rcases bY.1 hr with hr|hr
  ·exact d r hr
  ·exact a r hr
 have h1:((c++st).map jt).takeWhile isM=(c++st).map jt:=EQ hall
 have h2:((c++st).map jt).dropWhile isM=[]:=ER hall
 rw[h1,h2,Ei]
def nL (c:bf×List bf):List Int:=(loI c.2).map (·.Rune)
def nM (c:bf×List bf):List Int:=(hiI c.2).map (·.Rune)
theorem Sk (b:Int) (ks:List Int):nL (jt b,ks.map jt)=ks.filter mW∧nM (jt b,ks.map jt)=ks.filter (fun r=>!mW r):=by
 unfold nL nM loI hiI
 constructor
 ·induction ks with
  |nil=>rfl
  |cons k ks a=>
   rw[av,iK,iK,show mF (jt k)=mW k from rfl]
   split
   ·rw[av];exact aM _ a
   ·exact a
 ·induction ks with
  |nil=>rfl
  |cons k ks a=>
   rw[av,iK,iK,show mF (jt k)=mW k from rfl]
   split
   ·rw[av];exact aM _ a
   ·exact a
theorem Sm (c:bf×List bf):(∀x∈nL c,mW x=true)∧∀x∈nM c,mW x=false:=by
 unfold nL nM loI hiI
 constructor
 ·intro x hx
  obtain⟨y,hy,rfl⟩:=aU.1 hx
  rw[cq] at hy;exact hy.2
 ·intro x hx
  obtain⟨y,hy,rfl⟩:=aU.1 hx
  rw[cq] at hy
  simpa [mF] using hy.2
theorem ES (c:bf×List bf):gA c=c.1.Rune::(nL c++nM c):=by unfold gA mG nL nM;simp
def Sn (c:bf×List bf) (ts:List dq) (d:bf×List bf):Prop:=jS ts=[d]∧dI d.1=true∧lm d.1∧(∀m∈d.2,isM m=true∧lm m)∧d.1.Rune=c.1.Rune
theorem J1 {r:Int} (h:vr r):lm (jt r):=by
 unfold vr at h
 refine⟨?_,.inr ⟨?_,rfl⟩⟩
 ·show fB r;exact⟨by omega,by omega⟩
 ·show 0≤r;omega
theorem So {c:bf×List bf} {j b:Int} {st g:List Int} (hj:cZ j=true) (a:∀m∈st,fc m=true) (hp:iw j=b::g) (hb:b=c.1.Rune):Sn c ((j::st).map ku) (jt b,(g++st).map jt):=by
 obtain⟨l,i,h,e,k,f,_⟩:=tW hj
 rw[hp] at h
 obtain⟨rfl,rfl⟩:=nc h
 refine⟨Sj hj a hp,e,J1 (uc e),fun m hm=>?_,hb⟩
 obtain⟨r,hr,rfl⟩:=aU.1 hm
 have d:fc r=true:=by
  rcases bY.1 hr with hr|hr
  ·exact f r hr
  ·exact a r hr
 exact⟨d,J1 (zk d)⟩
theorem J2 {l:List Int} (h:∀x∈l,mW x=true):l.filter mW=l∧l.filter (fun r=>!mW r)=[] :=
 ⟨rz.2 h,pD.2 fun x hx=>by simp[h x hx]⟩
theorem J3 {l:List Int} (h:∀x∈l,mW x=false):l.filter mW=[]∧l.filter (fun r=>!mW r)=l :=
 ⟨pD.2 fun x hx=>by simp[h x hx],rz.2 fun x hx=>by simp[h x hx]⟩
theorem Sp {c:bf×List bf} (hL:dI c.1=true) (h1:lm c.1) (h2:∀m∈c.2,isM m=true∧lm m):pW c=jg (gA c):=by
 unfold pW gA
 rw[rj,rV]
 refine sX fun x hx=>?_
 rcases EL hx with rfl|hx
 ·exact JT h1 hL
 ·exact EH (h2 x hx).2 (h2 x hx).1
theorem J4 {c:bf×List bf} (hL:dI c.1=true):pg c=kE (cA c.1.Rune):=by
 unfold pg mX;rw[hL];rfl
theorem Sq {r:Int} {rs:List Int} (h:cZ r=true):∀t,((r::rs).map ku).head?=some t→fc (zf9 t).Rune=false:=by
 intro t ht
 have:ku r=t:=mL ht
 subst this
 rw[JZ (uc h)]
 exact EP h
end Go.Proofs.YtifpjbgnikjglaaGreatDoor


namespace Go.Proofs.YtifpjbgnikjglaaGreatDoor
open Go.RowKit Go.Lib
open Tryz
set_option linter.unusedVariables false
set_option linter.unusedSimpArgs false
open _root_.ByteArray renaming empty→ac
open _root_.Go.IntWalk renaming i64_in→ai
open _root_.Go.Lib renaming indexByte→br
open _root_.Go.Proofs.Tryz renaming underlying9→an,underlying63→cF,results68→oB,underlying21→aZ,underlying46→cg,underlying36→aK,results118→ni,results95→mf
open bR renaming nil→bQ
open aq renaming nil→ah
open Vw renaming get→ce
open _root_.Go.Utf8 renaming encode→ae
open _root_.Go.Value renaming string→af,int→aB,bool→ay
open _root_.List renaming nil_append→bg,append_nil→aH
def xa (p1:cY):Option Bool := aV (fB p1.Rune) <|some (((fT p1.Broken p1.Rune):Int)==1)
theorem J5 {p1:cY} {r:Bool} (h:xa p1=some r):dN prog 123 [.agg #[zI p1.At,zI p1.Width,.int .i32 p1.Rune,.bool p1.Broken]] (.bool r):=by
 unfold xa at h
 refine dN.intro func123 rfl ntmps123 (by simp) (fun w0 K=>zyG (zfq rfl dc rfl (fun b1=>zyR 1 rfl (zyH (zbR (k:=0) (cs:=[zI p1.At,zI p1.Width,.int .i32 p1.Rune,.bool p1.Broken]) lO rfl dc rfl rfl rfl rfl (zbs h fun a h=>zaI (v:=zI (fT p1.Broken p1.Rune)) (vs:=[.agg #[zI p1.At,zI p1.Width,.int .i32 p1.Rune,.bool p1.Broken]]) rfl dc rfl rfl rfl wl (ww p1.At p1.Width p1.Rune p1.Broken a.1 a.2) (zaT rfl zbm (zyR 1 rfl (zyN (zaA ?_))))))))))
 cases h
 exact cX 2 results123
def vg (p1:cY):Option Bool := aV (fB p1.Rune) <|some (((fT p1.Broken p1.Rune):Int)==2)
theorem J6 {p1:cY} {r:Bool} (h:vg p1=some r):dN prog 92 [.agg #[zI p1.At,zI p1.Width,.int .i32 p1.Rune,.bool p1.Broken]] (.bool r):=by
 unfold vg at h
 refine dN.intro func92 rfl ntmps92 (by simp) (fun w0 K=>zyG (zfq rfl dc rfl (fun b1=>zyR 1 rfl (zyH (zbR (k:=0) (cs:=[zI p1.At,zI p1.Width,.int .i32 p1.Rune,.bool p1.Broken]) lO rfl dc rfl rfl rfl rfl (zbs h fun a h=>zaI (v:=zI (fT p1.Broken p1.Rune)) (vs:=[.agg #[zI p1.At,zI p1.Width,.int .i32 p1.Rune,.bool p1.Broken]]) rfl dc rfl rfl rfl wl (ww p1.At p1.Width p1.Rune p1.Broken a.1 a.2) (zaT rfl zbm (zyR 1 rfl (zyN (zaA ?_))))))))))
 cases h
 exact cX 2 results92
def zeh (a:ad) (f:Int) (j:(List gw)→Option (List gw)) (h:(List gw)→Bool→Int→Option (List gw)) (d:List gw) (c:Bool) (b:Int):Option (List gw) := aN (decide ((b:Int)<(a.size:Int))) (co (fun (g:(List gw)→Bool→Option (List gw))=>aT (jQ a b) fun (c1:Int)=>aN ((c1:Int)==32) (g d false) (aN (c) (aV (cr ((d.length:Int)-1)) <|aT (zca d ((d.length:Int)-1)) fun (q1:gw)=>aV (cr (b+1)) <|aV (0≤(b:Int)∧(b:Int)≤(b+1)∧(b+1:Int)≤(a.size:Int)) <|aV (q1.text.size+(cO a b (b+1)).size≤9223372036854775807) <|g (d.set ((d.length:Int)-1:Int).toNat (⟨q1.at_,q1.text++(cO a b (b+1))⟩:gw)) c) (aV (cr (f+b)) <|aV (cr (b+1)) <|aV (0≤(b:Int)∧(b:Int)≤(b+1)∧(b+1:Int)≤(a.size:Int)) <|aV (d.length+1≤2147483648) <|g (d++[(⟨f+b,cO a b (b+1)⟩:gw)]) true))) (fun (i:List gw) (e:Bool)=>aV (cr (b+1)) <|h i e (b+1))) (j d)
def zl (a:ad) (b:Int):Option (List gw) := co (fun (d:(List gw)→Option (List gw))=>zaC (fun _ _ _=>none) (zeh a b d) zbx ([]:List gw) false 0) (fun (c:List gw)=>some c)
theorem Sr {a:ad} {g:Int} {r:(List gw)} (h:zl a g=some r):Fn prog 30 [.string a,zI g] [] (fun v0:Value=>v0) (fun v0=>[tU v0 r]):=by
 unfold zl at h
 refine _root_.Go.Proofs.YtifpjbgnikjglaaGreatDoor.Fn.intro func30 rfl ntmps30 (by simp) (fun w0 K=>zbq h fun x A h=>zaL (β:=(List gw)×Value) 3 rfl (fun b=>x b.1=some r) (fun b=>[]) (fun b=>[(5,b.2)]) (fun b=>[tU b.2 b.1]) (fun cut=>?_) ?_)
 ·refine zyG (zyR 1 rfl (zyH (zyR 1 rfl (zyH (zyR 1 rfl (zaB (zaz (cut (zyG (zyR 1 rfl (zcG rfl dc rfl an (zyR 1 rfl (zyN (zat (nD (enc:=uG) (e:=111) (size:=2) (eF (β:=Nat×(List gw)×Bool×Int×Value) (fun b=>zaC (fun _ _ _=>none) (zeh a g x) b.1 b.2.1 b.2.2.1 b.2.2.2.1=some r) (fun b=>[]) (fun b=>[(0,.string a),(1,zI g),(5,b.2.2.2.2),(6,.bool b.2.2.1),(9,zI (a.size:Int)),(10,zI b.2.2.2.1)]) (fun b=>[tU b.2.2.2.2 b.2.1]) (fun b=>b.1) (zbx,([]:List gw),false,0,(.slice none 0 0)) h rfl (bI rfl) (cp 1) ?_))))))))))))))))
  rintro⟨w,l,m,f,s⟩ h
  cases w with
  |zero=>exact ew h
  |succ w=>
   obtain⟨M,p⟩:∃ag,ag=zaC (fun _ _ _=>none) (zeh a g x) w:=⟨_,rfl⟩
   have h:zeh a g x M l m f=some r:=by rw[p];exact h
   unfold zeh at h
   refine zyG (zaT rfl zbd (zyN (zaJ (zyB rfl h (fun h=>?_) (fun h=>?_)))))
   ·refine zap (zaz (zbq h fun Q z h=>zaL (β:=(List gw)×Bool×Value) 0 rfl (fun b=>Q b.1 b.2.1=some r) (fun b=>[]) (fun b=>[(0,.string a),(1,zI g),(5,b.2.2),(6,.bool b.2.1),(9,zI (a.size:Int)),(10,zI f)]) (fun b=>[tU b.2.2 b.1]) (fun cut=>cut (zat (zyG (zyR 2 rfl (zyN (zat (zyG (zyR 2 rfl (zbk h fun c1 y h=>nj rfl dc rfl rfl (pq an y) (zaT rfl zbm (zyR 1 rfl (zyN (zyB rfl h (fun h=>bX (zyR 1 rfl (zaB (cd (cd (mD (l,false,s) h 1)))))) (fun h=>zyG (zyR 2 rfl (zyN (zyB rfl h (fun h=>zbs h fun L h=>zbk h fun q1 o h=>zbs h fun J h=>zbs h fun I h=>zbs h fun H h=>zcI 12 [(0,32,s),(1,33,s),(2,34,zI (l.length:Int)),(3,35,zI ((l.length:Int)-1)),(4,36,.pointer (some ⟨eO s,((l.length:Int)-1:Int).toNat*2,none⟩)),(5,37,.pointer (some ⟨eO s,(((l.length:Int)-1:Int).toNat)*2+1,none⟩)),(6,38,.string q1.text),(7,39,.string a),(8,40,zI f),(9,41,zI f),(10,42,zI (f+1)),(11,43,.string (cO a f (f+1)))] mixed kr kr dc (by rfl) kr kr (zyP 2 0 rfl (zac (fun D n d c u i=>gZ (k:=0) rfl dc (bt 1 u d) rfl cF (zaN 2 u i)) (zac (fun D n d c u i=>mh rfl dc (bt 2 u d) rfl (k9 (r:=(l.length:Int)-1) (ai _ L)) (zaN 3 u i)) (zac (fun D n d c u i=>eJ (k:=0) o cF pt rfl dc (bt 0 u d) (bt 3 u d) rfl rfl (zaN 4 u i)) (zac (fun D n d c u i=>zab wi rfl dc (bt 4 u d) (show _=(((l.length:Int)-1:Int).toNat)*2+1 from rfl) (zaN 5 u i)) (zac (fun D n d c u i=>fw (i:=((l.length:Int)-1:Int).toNat) (j:=1) (k:=0) (q:=q1) dU AV rfl dc (bt 5 u d) rfl (ei o) rfl dc rfl (zaN 6 u i)) (zyP 3 7 rfl (zac (fun D n d c u i=>mh rfl dc (bt 9 u d) rfl (dA (r:=f+1) (ai _ J)) (zaN 10 u i)) (zac (fun D n d c u i=>iA rfl dc (bt 7 u d) (evO.some (bt 8 u d)) (evO.some (bt 10 u d)) (kA (i:=f) (j:=f+1) an (.inr rfl) (.inr rfl) I) (zaN 11 u i)) bQ))))))))) (zaT rfl (lJ H) (eJ (k:=0) o cF pt rfl dc rfl rfl rfl rfl (zab wi rfl dc rfl (show _=(((l.length:Int)-1:Int).toNat)*2+1 from rfl) (qs (i:=((l.length:Int)-1:Int).toNat) (j:=1) (k:=0) (q:=q1) (q':=(⟨q1.at_,q1.text++(cO a f (f+1))⟩:gw)) gV AV rfl rfl rfl rfl (ei o) rfl dc rfl (fun _ _=>rfl) (zaB (cd (cd (mD (l.set ((l.length:Int)-1:Int).toNat (⟨q1.at_,q1.text++(cO a f (f+1))⟩:gw),m,s) h 1))))))))) (fun h=>zyG (zyR 3 rfl (zbs h fun G h=>zaT rfl (dA (r:=g+f) (ai _ G)) (zyR 3 rfl (zbs h fun F h=>zaT rfl (dA (r:=f+1) (ai _ F)) (zbs h fun E h=>iA rfl dc rfl rfl rfl (kA (i:=f) (j:=f+1) an (.inr rfl) (.inr rfl) E) (zbf (v:=.agg #[zI (g+f),.string (cO a f (f+1))]) (ps:=[(0,.tmp 16),(1,.tmp 21)]) rfl dc rfl (fun _=>by kernel_rfl) (fx (cs:=[zI (g+f),.string (cO a f (f+1))]) (te:=111) (ps:=[(0,.tmp 22)]) rfl dc rfl (fun _=>by kernel_rfl) (fun b1=>zbs h fun C h=>iT (k:=0) (k2:=1) (ys:=[(⟨g+f,cO a f (f+1)⟩:gw)]) cF NK AV O4 rfl dc rfl rfl rfl rfl rfl rfl C (fun N=>zyR 1 rfl (zyN (bX (zyR 1 rfl (zaB (cd (cd (mD (l++[(⟨g+f,cO a f (f+1)⟩:gw)],true,N) h 1)))))))))))))))))))))))))))))))))) ?_))
    rintro⟨P,t,O⟩ h
    rw[z] at h
    refine bX (zbs h fun B h=>zaT rfl (dA (r:=f+1) (ai _ B)) (zyR 1 rfl (zaB ?_)))
    subst p
    exact aD (w,P,t,f+1,O) h 1
   exact dy (bV (bV (dz (mD (l,s) h 1))))
 rintro⟨R,v1⟩ h
 rw[A] at h
 refine zyG (zyR 2 rfl (zyN (zaA ?_)))
 cases h
 exact eu (rs:=[.tmp 4]) v1 (.inl rfl) results30 (.cons (.tmp rfl) .nil) rfl (cp 1)
def zm (c:List gw) (d:Int):Option Int := co (fun (e:Int→Int→Option Int)=>aT (zca c 0) fun (q1:gw)=>aN (decide (q1.text=(⟨#[112,117,116]⟩:ad))) (co (fun (f:Option Int)=>aN (decide ((2:Int)<(c.length:Int))) (aT (zca c 2) fun (q2:gw)=>aN (!decide (q2.text=(⟨#[97,102,116,101,114]⟩:ad))) (aT (zca c 2) fun (i:gw)=>some i.at_) (f)) (f)) (e 4 4)) (aN (decide (q1.text=(⟨#[97,115]⟩:ad))) (e 3 6) (aN (decide (q1.text=(⟨#[115,107,105,112]⟩:ad))) (e 2 2) (aT (zca c 0) fun (h:gw)=>some h.at_)))) (fun (b:Int) (a:Int)=>aN (decide (((c.length:Int):Int)<b)) (some d) (aN (decide ((a:Int)<(c.length:Int))) (aT (zca c a) fun (g:gw)=>some g.at_) (some (-1))))
theorem Ss {k g:Value} {u:List gw} {c:Nat} {y:List gw} (a:Vw k u 2 c g y) {d:Int} {r:Int} (h:zm y d=some r):iu prog 68 [g,zI d] [jh uG 2 k c u] [] (fun _:Unit=>(zI r)) (fun _=>[]):=by
 unfold zm at h
 refine iu.intro func68 rfl ntmps68 (by simp) (fun w0 K f=>zbq h fun D x h=>zaL (β:=Int×Int) 2 rfl (fun b=>D b.1 b.2=some r) (fun b=>[]) (fun b=>[(0,g),(1,zI d),(5,zI b.1),(6,zI b.2)]) (fun b=>[]) (fun cut=>?_) ?_)
 ·refine zyG (zyR 1 rfl (zyH (zyR 2 rfl (zyN (cut (zyG (zyR 1 rfl (zbk h fun q1 t h=>fy a t cF pt rfl dc rfl rfl rfl (zab wi rfl dc rfl (show _=(c+(0:Int).toNat)*2+1 from rfl) (jG (n:=c+(0:Int).toNat) (j:=1) (i:=0) (q:=q1) f rfl (by omega) dU rfl dc rfl (ce a t) rfl rfl (zyN (zat (zyG (zaT rfl zdp (zyR 1 rfl (zyN (zyB rfl h (fun h=>?_) (fun h=>?_))))))))))))))))))
  ·refine zbq h fun C w h=>zaL (β:=Unit) 0 rfl (fun b=>C=some r) (fun b=>[]) (fun b=>[(0,g),(1,zI d)]) (fun b=>[]) (fun cut=>?_) ?_
   ·refine cut (zyG (zyR 1 rfl (zbT a rfl dc rfl cF (zaT rfl zd4 (zyR 1 rfl (zyS (s:=20) rfl h (fun h=>?_) (fun h=>?_)))))))
    ·refine zyR 1 rfl (zbk h fun q2 p h=>fy a p cF pt rfl dc rfl rfl rfl (zab wi rfl dc rfl (show _=(c+(2:Int).toNat)*2+1 from rfl) (jG (n:=c+(2:Int).toNat) (j:=1) (i:=0) (q:=q2) f rfl (by omega) dU rfl dc rfl (ce a p) rfl rfl (zaT rfl tE (zyR 1 rfl (zyN (zyB rfl h (fun h=>?_) (fun h=>?_))))))))
     ·refine zyG (zyR 1 rfl (zbk h fun B o h=>fy a o cF pt rfl dc rfl rfl rfl (zab tN rfl dc rfl (show _=(c+(2:Int).toNat)*2 from rfl) (jG (n:=c+(2:Int).toNat) (j:=0) (i:=0) (q:=B) f rfl (by omega) dO rfl dc rfl (ce a o) rfl rfl (zyR 1 rfl (zyN (zaA (bP (cx (bP ?_))))))))))
      cases h
      exact cX 4 oB
     exact zap (cL () h rfl (bI rfl) ah)
    exact zyR 6 rfl (zyN (za8 rfl (zap (cL () h rfl (bI rfl) ah))))
   rintro _ h
   rw[w] at h
   exact bX (zyR 2 rfl (zaB (cd (cL (4,4) h rfl (bI rfl) ah))))
  refine zyG (zaT rfl zdp (zyR 1 rfl (zyN (zyB rfl h (fun h=>bX (zyR 2 rfl (zaB (cd (cL (3,6) h rfl (bI rfl) ah))))) (fun h=>zyG (zaT rfl zdp (zyR 1 rfl (zyN (zyB rfl h (fun h=>zap (cd (cL (2,2) h rfl (bI rfl) ah))) (fun h=>zyG (zyR 1 rfl (zbk h fun A m h=>fy a m cF pt rfl dc rfl rfl rfl (zab tN rfl dc rfl (show _=(c+(0:Int).toNat)*2 from rfl) (jG (n:=c+(0:Int).toNat) (j:=0) (i:=0) (q:=A) f rfl (by omega) dO rfl dc rfl (ce a m) rfl rfl (zyR 1 rfl (zyN (zaA (cx (bP ?_)))))))))))))))))))
  cases h
  exact cX 4 oB
 rintro⟨v,e⟩ h
 rw[x] at h
 refine zaJ (zat (zyG (zyR 1 rfl (zbT a rfl dc rfl cF (zyR 1 rfl (zaT rfl zbd (zyR 1 rfl (zyN (zyB rfl h (fun h=>?_) (fun h=>?_))))))))))
 ·refine zyG (zyR 2 rfl (zyN (zaA (cx (bP ?_)))))
  cases h
  exact cX 4 oB
 refine zyG (zyR 1 rfl (zbT a rfl dc rfl cF (zyR 1 rfl (zaT rfl zd4 (zyR 1 rfl (zyN (zyB rfl h (fun h=>?_) (fun h=>?_))))))))
 ·refine zyG (zyR 2 rfl (zbk h fun z l h=>fy a l cF pt rfl dc rfl rfl rfl (zab tN rfl dc rfl (show _=(c+(e:Int).toNat)*2 from rfl) (jG (n:=c+(e:Int).toNat) (j:=0) (i:=0) (q:=z) f rfl (by omega) dO rfl dc rfl (ce a l) rfl rfl (zyR 1 rfl (zyN (zaA (cx (bP ?_)))))))))
  cases h
  exact cX 4 oB
 refine zap (cd (zaz (zyG (zyR 1 rfl (zyN (zaA ?_))))))
 cases h
 exact cX 4 oB
def zdT (r1:ad) (x1:cY) (a:ad→Option ad) (b:ad):Option ad := aT (xa x1) fun (r3:Bool)=>aN (r3) (aV (fB x1.Rune) <|aV (b.size+(ae (cA x1.Rune)).size≤140737488355328) <|a (b++(ae (cA x1.Rune)))) (aV (cr (x1.At+x1.Width)) <|aV (0≤(x1.At:Int)∧(x1.At:Int)≤(x1.At+x1.Width)∧(x1.At+x1.Width:Int)≤(r1.size:Int)) <|aV (b.size+(cO r1 x1.At (x1.At+x1.Width)).size≤140737488355328) <|a (b++(cO r1 x1.At (x1.At+x1.Width))))
def zn (c:ad):Option ad := co (fun (d:ad→Option ad)=>aT (w3 c) fun (r1:ad)=>aT (vc r1) fun (r2:ad)=>aT (sW r2) fun (a:(List cY))=>co (fun (b:ad→Option ad)=>zdZ b (zdT r1) a ac) (fun (e:ad)=>d e)) (fun (b2:ad)=>some b2)
theorem Su {H:ad} {r:ad} (h:zn H=some r):dN prog 121 [.string H] (.string r):=by
 unfold zn at h
 refine dN.intro func121 rfl ntmps121 (by simp) (fun w0 K=>zjD (zbq h fun j1 O h=>zaL (β:=ad×Nat×Value×(List Nat)) 3 rfl (fun b=>j1 b.1=some r) (fun b=>po b.2.2.2) (fun b=>[(3,zP b.2.1)]) (fun b=>[cells b.2.1 [b.2.2.1] 46,byt 5 b.2.2.1 b.1,ziH ((b.2.2.2:List Nat).map gL)]) (fun cut=>?_) ?_))
 ·refine zyG (zfq rfl dc rfl (fun G=>zyR 1 rfl (zyH (zas (k:=1) dU rfl dc rfl rfl rfl (zbk h fun r1 N h=>zaI (v:=.string r1) (vs:=[.string H]) rfl dc rfl rfl rfl HN (JA N) (eP (k:=1) (l':=[.string r1]) gV rfl rfl rfl rfl rfl (fun _ _=>rfl) rfl (zyH (zbi Nz rfl dc (fun F=>zyN (cut (zyG (zas (k:=1) dU rfl dc rfl rfl rfl (zbk h fun r2 M h=>zbN (vs:=[.string r1]) rfl dc rfl rfl rfl yh (y9 M) ah (fun X=>zyN (zat (zbk h fun A L h=>xY (e:=5) (zbq h fun y E h=>ux (α:=cY) (β:=ad×Value) (γ:=Unit) (δ:=Nat) (ps:=[9]) Ro.nil rfl yj (y8 L) (fun pre b=>∀post,A=pre++post→zdZ y (zdT r1) post b.1=some r) (fun pre b=>[cells G [.string r1] 9,cells F [b.2] 46,byt 5 b.2 b.1]) (fun c pre g=>False) (fun c pre g=>[]) (fun pre x b j=>[(1,zP G),(2,.string (⟨#[]⟩:ad)),(3,zP F),(8,.func (.func 154) #[] #[zP X]),(4,zP j)]) (fun pre x b j=>[cells G [.string r1] 9,cells F [b.2] 46,byt 5 b.2 b.1,cells j [zI x.At,zI x.Width,.int .i32 x.Rune,.bool x.Broken] 132]) (ac,(.slice none 0 0)) (fun post e=>by rw[bg] at e;subst e;exact h) (bW [1,2,4] kr rfl) ⟨.inl ⟨3,rfl⟩,trivial⟩ (fun _=>rfl) dc ?_ ?_ ?_ ?_)))))))))))))))))
  ·rintro Z Y pre x1 post ⟨q,s⟩ w1 K1 f C I l
   exact bX (zbi zjr rfl dc (fun b9=>eE (k:=3) (vs:=[zI x1.At,zI x1.Width,.int .i32 x1.Rune,.bool x1.Broken]) (l':=[zI x1.At,zI x1.Width,.int .i32 x1.Rune,.bool x1.Broken]) kM rfl rfl rfl rfl rfl (show _≤_ by simp) rfl rfl (zaB (fun a w ha hw=>⟨b9,(bI rfl) _ _ _ ha,hw.weaken (cp 4)⟩))))
  ·rintro Z Y pre x1 m ⟨q,s⟩ p w1 K1 f C I l
   have h:=l (x1::m) f
   obtain⟨U,o⟩:∃ag,ag=zdZ y (zdT r1) m:=⟨_,rfl⟩
   have h:zdT r1 x1 U q=some r:=by have h2:=h;rw[oH,←o] at h2;exact h2
   unfold zdT at h
   exact zat (zyG (zbR (k:=3) (cs:=[zI x1.At,zI x1.Width,.int .i32 x1.Rune,.bool x1.Broken]) lO rfl dc rfl rfl rfl rfl (zbk h fun r3 J h=>zaI (v:=.bool r3) (vs:=[.agg #[zI x1.At,zI x1.Width,.int .i32 x1.Rune,.bool x1.Broken]]) rfl dc rfl rfl rfl HR (J5 (p1:=x1) J) (zyN (zyB rfl h (fun h=>zbs h fun B h=>zbs h fun S h=>zcI 5 [(0,12,s),(1,13,.pointer (some ⟨p,2,none⟩)),(2,14,.int .i32 x1.Rune),(3,15,.int .i32 (cA x1.Rune)),(4,16,.string (ae (cA x1.Rune)))] mixed kr kr dc (by rfl) kr kr (zac (fun D n d c u i=>zas (k:=1) Db rfl dc (zbA (by rfl) rfl) rfl rfl (zaN 0 u i)) (zac (fun D n d c u i=>zab qu rfl dc (zbA (by rfl) rfl) (show _=2 from rfl) (zaN 1 u i)) (zac (fun D n d c u i=>zas (k:=3) eZ rfl dc (bt 1 u d) rfl rfl (zaN 2 u i)) (zac (fun D n d c u i=>zaI (v:=.int .i32 (cA x1.Rune)) (vs:=[.int .i32 x1.Rune]) rfl dc rfl (evL.cons (bt 2 u d) evL.nil) rfl AU (nC fun w=>yp x1.Rune w B.1 B.2) (zaN 3 u i)) (zac (fun D n d c u i=>zcH rfl dc (bt 3 u d) (mi aZ an) (zaN 4 u i)) bQ))))) (tF (k:=2) cg an oo rfl dc rfl rfl rfl S (fun W=>eP (k:=1) (l':=[W]) He rfl rfl rfl rfl rfl (fun _ h=>Gt h (k:=2) rfl) rfl (zaB (cd (lY (q++(ae (cA x1.Rune)),W) (fun t e2=>by have T:=l0 f e2;subst T;subst o;exact h) (cp 3))))))) (fun h=>zbs h fun R h=>zbs h fun Q h=>zbs h fun P h=>zcI 10 [(0,18,s),(1,19,.string r1),(2,20,zP p),(3,21,zI x1.At),(4,22,zP p),(5,23,zI x1.At),(6,24,.pointer (some ⟨p,1,none⟩)),(7,25,zI x1.Width),(8,26,zI (x1.At+x1.Width)),(9,27,.string (cO r1 x1.At (x1.At+x1.Width)))] mixed kr kr dc (by rfl) kr kr (zac (fun D n d c u i=>zas (k:=1) Db rfl dc (zbA (by rfl) rfl) rfl rfl (zaN 0 u i)) (zac (fun D n d c u i=>zas (k:=0) dU rfl dc (zbA (by rfl) rfl) rfl rfl (zaN 1 u i)) (zac (fun D n d c u i=>zab zd2 rfl dc (zbA (by rfl) rfl) (show _=0 from rfl) (zaN 2 u i)) (zac (fun D n d c u i=>zas (k:=3) dO rfl dc (bt 2 u d) rfl rfl (zaN 3 u i)) (zac (fun D n d c u i=>zab zd2 rfl dc (zbA (by rfl) rfl) (show _=0 from rfl) (zaN 4 u i)) (zac (fun D n d c u i=>zas (k:=3) dO rfl dc (bt 4 u d) rfl rfl (zaN 5 u i)) (zac (fun D n d c u i=>zab qV rfl dc (zbA (by rfl) rfl) (show _=1 from rfl) (zaN 6 u i)) (zac (fun D n d c u i=>zas (k:=3) dO rfl dc (bt 6 u d) rfl rfl (zaN 7 u i)) (zac (fun D n d c u i=>mh rfl dc (bt 5 u d) (bt 7 u d) (dA (r:=x1.At+x1.Width) (ai _ R)) (zaN 8 u i)) (zac (fun D n d c u i=>iA rfl dc (bt 1 u d) (evO.some (bt 3 u d)) (evO.some (bt 8 u d)) (kA (i:=x1.At) (j:=x1.At+x1.Width) an (.inr rfl) (.inr rfl) Q) (zaN 9 u i)) bQ)))))))))) (tF (k:=2) cg an oo rfl dc rfl rfl rfl P (fun V=>eP (k:=1) (l':=[V]) He rfl rfl rfl rfl rfl (fun _ h=>Gt h (k:=2) rfl) rfl (zaB (cd (lY (q++(cO r1 x1.At (x1.At+x1.Width)),V) (fun t e2=>by have T:=l0 f e2;subst T;subst o;exact h) (cp 3))))))))))))
  ·rintro z ⟨q,s⟩ l
   have h:y q=some r:=l [] (aH _).symm
   rw[E] at h
   show TX _ _ _ _ _ _ _ [ziH ((([]:List Nat):List Nat).map gL),cE,cE,cells X [.string r2] 9,cE,cells G [.string r1] 9,cells F [s] 46,byt 5 s q,gL z]
   exact tA (k:=8) (j:=0) rfl rfl dc (cd (cL (q,F,s,z::([]:List Nat)) h rfl (bI rfl) (bW [6,7,0] kr rfl)))
  exact fun z c pre x1 post g ao hX=>(show False from hX).elim
 rintro⟨b2,b1,v1,ds1⟩ h
 rw[O] at h
 refine zyG (zas (k:=0) Db rfl dc rfl rfl rfl (rC (k:=1) rfl dc rfl rfl cg underlying5 an (zyR 1 rfl (zyN (zaA ?_)))))
 cases h
 exact qq (rs:=[.tmp 2]) ds1 () (.inl rfl) (qo (k:=2) rfl) results121 (.cons (.tmp rfl) .nil) rfl ah
def zei (b:Int→Option ad) (x1:cY) (c:Int→Option ad) (a:Int):Option ad := aV (cr (a+1)) <|aN (decide ((8:Int)<(a+1))) (b (a+1)) (aT (xa x1) fun (r3:Bool)=>aN (!r3) (aN (((a+1):Int)==1) (b (a+1)) (aT (vg x1) fun (d:Bool)=>aN (!d) (b (a+1)) (c (a+1)))) (c (a+1)))
def xb (e:ad):Option ad := co (fun (f:ad→Option ad)=>aT (zn e) fun (r1:ad)=>aT (vc r1) fun (r2:ad)=>aT (sW r2) fun (a:(List cY))=>co (fun (b:Int→Option ad)=>co (fun (c:Int→Option ad)=>zdZ c (zei b) a 0) (fun (h:Int)=>f r1)) (fun (g:Int)=>some (⟨#[]⟩:ad))) (fun (d:ad)=>some d)
theorem Sv {B:ad} {r:ad} (h:xb B=some r):dN prog 69 [.string B] (.string r):=by
 unfold xb at h
 refine dN.intro func69 rfl ntmps69 (by simp) (fun w0 K=>zjD (zbq h fun T I h=>zaL (β:=ad×Nat×(List Nat)) 3 rfl (fun b=>T b.1=some r) (fun b=>po b.2.2) (fun b=>[(0,.string b.1),(2,zP b.2.1)]) (fun b=>[cells b.2.1 [.string ac] 9,ziH ((b.2.2:List Nat).map gL)]) (fun cut=>?_) ?_))
 ·refine zyG (zbi Hb rfl dc (fun b2=>zyH (zyR 1 rfl (zbk h fun r1 H h=>zaI (v:=.string r1) (vs:=[.string B]) rfl dc rfl rfl rfl OH (Su H) (zyR 1 rfl (zyH (zbi x0 rfl dc (fun t=>eP (k:=2) (l':=[zI 0]) kp rfl rfl rfl rfl rfl (fun _ _=>rfl) rfl (zyN (cut (zyG (zyR 1 rfl (zbk h fun r2 G h=>zbN (vs:=[.string r1]) rfl dc rfl rfl rfl yh (y9 G) ah (fun M=>zyN (zat (zbk h fun u F h=>zbq h fun o z h=>zbq h fun q A h=>ux (α:=cY) (β:=Int) (γ:=Int) (δ:=Nat) (ps:=[9]) Ro.nil rfl yj (y8 F) (fun pre b=>∀post,u=pre++post→zdZ q (zei o) post b=some r) (fun pre b=>[cells b2 [.string ac] 9,cells t [zI b] 3]) (fun c pre g=>(fun g=>c=.ret∧o g=some r) g) (fun c pre g=>(fun g=>[cells b2 [.string (⟨#[]⟩:ad)] 9,cells t [zI g] 3]) g) (fun pre x b j=>[(0,.string r1),(2,zP b2),(3,zP t),(8,.func (.func 154) #[] #[zP M]),(4,zP j)]) (fun pre x b j=>[cells b2 [.string ac] 9,cells t [zI b] 3,cells j [zI x.At,zI x.Width,.int .i32 x.Rune,.bool x.Broken] 132]) 0 (fun post e=>by rw[bg] at e;subst e;exact h) (bW [1,2] kr rfl) ⟨.inl ⟨3,rfl⟩,trivial⟩ (fun _=>rfl) dc (fun R P pre x1 post i w1 Y d y C f=>bX (zbi zjr rfl dc (fun X=>eE (k:=2) (vs:=[zI x1.At,zI x1.Width,.int .i32 x1.Rune,.bool x1.Broken]) (l':=[zI x1.At,zI x1.Width,.int .i32 x1.Rune,.bool x1.Broken]) kM rfl rfl rfl rfl rfl (show _≤_ by simp) rfl rfl (zaB (fun a w ha V=>⟨X,(bI rfl) _ _ _ ha,V.weaken (cp 3)⟩))))) ?_ ?_ ?_))))))))))))))))
  ·rintro R P pre x1 l i S w1 Y d y C f
   have h:=f (x1::l) d
   obtain⟨N,m⟩:∃ag,ag=zdZ q (zei o) l:=⟨_,rfl⟩
   have h:zei o x1 N i=some r:=by have h2:=h;rw[oH,←m] at h2;exact h2
   unfold zei at h
   exact zat (zyG (zas (k:=1) dO rfl dc rfl rfl rfl (zbs h fun J h=>zaT rfl (dA (r:=i+1) (ai _ J)) (eP (k:=1) (l':=[zI (i+1)]) kp rfl rfl rfl rfl rfl (fun _ _=>rfl) rfl (zyH (zas (k:=1) dO rfl dc rfl rfl rfl (zaT rfl zd4 (zyR 1 rfl (zyS (s:=14) rfl h (fun h=>zyR 13 rfl (zaB (zaz (ir rfl (zyG (eP (k:=0) (l':=[.string (⟨#[]⟩:ad)]) gV rfl rfl rfl rfl rfl (fun _ _=>rfl) rfl (zyN (zaA (cx (nl (i+1) (show _∧_ from ⟨rfl,h⟩) (cp 2))))))))))) (fun h=>zbR (k:=2) (cs:=[zI x1.At,zI x1.Width,.int .i32 x1.Rune,.bool x1.Broken]) lO rfl dc rfl rfl rfl rfl (zbk h fun r3 E h=>zaI (v:=.bool r3) (vs:=[.agg #[zI x1.At,zI x1.Width,.int .i32 x1.Rune,.bool x1.Broken]]) rfl dc rfl rfl rfl HR (J5 (p1:=x1) E) (jW rfl dc rfl km (zyR 1 rfl (zyS (s:=18) rfl h (fun h=>zas (k:=1) dO rfl dc rfl rfl rfl (zaT rfl zbm (zyR 1 rfl (zyS (s:=21) rfl h (fun h=>zyR 6 rfl (zyN (ir rfl (zyG (eP (k:=0) (l':=[.string (⟨#[]⟩:ad)]) gV rfl rfl rfl rfl rfl (fun _ _=>rfl) rfl (zyN (zaA (cx (nl (i+1) (show _∧_ from ⟨rfl,h⟩) (cp 2)))))))))) (fun h=>zbR (k:=2) (cs:=[zI x1.At,zI x1.Width,.int .i32 x1.Rune,.bool x1.Broken]) lO rfl dc rfl rfl rfl rfl (zbk h fun Q D h=>zaI (v:=.bool Q) (vs:=[.agg #[zI x1.At,zI x1.Width,.int .i32 x1.Rune,.bool x1.Broken]]) rfl dc rfl rfl rfl HO (J6 (p1:=x1) D) (jW rfl dc rfl km (zyR 3 rfl (zyN (zyB rfl h (fun h=>zyG (eP (k:=0) (l':=[.string (⟨#[]⟩:ad)]) gV rfl rfl rfl rfl rfl (fun _ _=>rfl) rfl (zyN (zaA (cx (nl (i+1) (show _∧_ from ⟨rfl,h⟩) (cp 2))))))) (fun h=>zap (cd (lY (i+1) (fun p e2=>by have L:=l0 d e2;subst L;subst m;exact h) (cp 2)))))))))))))) (fun h=>zyR 9 rfl (zyN (za8 rfl (zap (cd (lY (i+1) (fun p e2=>by have L:=l0 d e2;subst L;subst m;exact h) (cp 2)))))))))))))))))))))
  ·rintro n i f
   have h:q i=some r:=f [] (aH _).symm
   rw[A] at h
   show TX _ _ _ _ _ _ _ [ziH ((([]:List Nat):List Nat).map gL),cE,cE,cells M [.string r2] 9,cells b2 [.string ac] 9,cells t [zI i] 3,gL n]
   exact tA (k:=6) (j:=0) rfl rfl dc (cd (cL (r1,b2,n::([]:List Nat)) h rfl (bI rfl) (bW [4,0] kr rfl)))
  rintro n c pre x1 post g U W
  obtain⟨rfl,h⟩:=(show _∧_ from W)
  generalize g=n4 at *
  rw[z] at h
  show TC _ _ _ _ _ _ _ _ _ [ziH ((([]:List Nat):List Nat).map gL),cE,cE,cells M [.string r2] 9,cells b2 [.string (⟨#[]⟩:ad)] 9,cells t [zI n4] 3,gL n]
  refine CP (k:=6) (j:=0) rfl rfl dc (zaA (cx (bP ?_)))
  cases h
  exact qq (rs:=[.cell 2 9]) (n::([]:List Nat)) () (.inl rfl) (qo (k:=0) rfl) results69 (.cons (.cell dU (k:=4) rfl rfl) .nil) rfl ah
 rintro⟨O,b1,ds1⟩ h
 rw[I] at h
 refine zyG (zyR 1 rfl (eP (k:=0) (l':=[.string O]) gV rfl rfl rfl rfl rfl (fun _ _=>rfl) rfl (zyN (zaA ?_))))
 cases h
 exact qq (rs:=[.cell 2 9]) ds1 () (.inl rfl) (qo (k:=1) rfl) results69 (.cons (.cell dU (k:=0) rfl rfl) .nil) rfl ah
def zcE (o1:cw) (b:(List (ad×Int))→Int→Option cw) (c:List (ad×Int)) (a:Int):Option cw := aN (decide ((a:Int)<(o1.units.length:Int))) (aT (zca o1.units a) fun (q1:ad)=>aV (cr (a+1)) <|b (iq q1 a c) (a+1)) (some (⟨o1.units,c,o1.fors,o1.skips,o1.lines⟩:cw))
def xc (o1:cw):Option cw := zaC (fun _ _=>none) (zcE o1) zbx o1.place 0
theorem J7 {_h:Nat} {o1:cw} {_f _a _c _d _g:Hd} {r:cw} (h:xc o1=some r):Fn prog 66 [zP _h] [cells _h [_f.v,.map (some (bi _a)),.map (some (bi _c)),.map (some (bi _d)),_g.v] 72,bH _f.v o1.units,cz (fun n:ad=>af n) (fun n:Int=>aB .i64 n) (bi _a) o1.place,dQ (bi _c) o1.fors,cz (fun n:ad=>af n) (fun n:Bool=>ay n) (bi _d) o1.skips,bH _g.v o1.lines] (fun b:Hd×Hd×Hd×Hd×Hd=>.tuple #[]) (fun b=>[cells _h [b.1.v,.map (some (bi b.2.1)),.map (some (bi b.2.2.1)),.map (some (bi b.2.2.2.1)),b.2.2.2.2.v] 72,bH b.1.v r.units,cz (fun n:ad=>af n) (fun n:Int=>aB .i64 n) (bi b.2.1) r.place,dQ (bi b.2.2.1) r.fors,cz (fun n:ad=>af n) (fun n:Bool=>ay n) (bi b.2.2.2.1) r.skips,bH b.2.2.2.2.v r.lines]):=by
 unfold xc at h
 refine _root_.Go.Proofs.YtifpjbgnikjglaaGreatDoor.Fn.intro func66 rfl ntmps66 (by simp) (fun w0 K=>zyG (zyR 1 rfl (zbc rfl dc rfl (zab znT rfl dc rfl (show _=0 from rfl) (zas (k:=0) oq rfl dc rfl rfl rfl (gZ (k:=1) rfl dc rfl rfl aK (zyR 1 rfl (zyN (zat (eF (β:=Nat×(List (ad×Int))×Int) (fun b=>zaC (fun _ _=>none) (zcE o1) b.1 b.2.1 b.2.2=some r) (fun b=>[]) (fun b=>[(0,zP _h),(7,_f.v),(8,zI (o1.units.length:Int)),(9,zI b.2.2)]) (fun b=>[cells _h [_f.v,.map (some (bi _a)),.map (some (bi _c)),.map (some (bi _d)),_g.v] 72,bH _f.v o1.units,cz (fun n:ad=>af n) (fun n:Int=>aB .i64 n) (bi _a) b.2.1,dQ (bi _c) o1.fors,cz (fun n:ad=>af n) (fun n:Bool=>ay n) (bi _d) o1.skips,bH _g.v o1.lines]) (fun b=>b.1) (zbx,o1.place,0) h rfl (bI rfl) (cp 6) ?_))))))))))
 rintro⟨e,l,c⟩ h
 cases e with
 |zero=>exact ew h
 |succ e=>
  obtain⟨g,a⟩:∃ag,ag=zaC (fun _ _=>none) (zcE o1) e:=⟨_,rfl⟩
  have h:zcE o1 g l c=some r:=by rw[a];exact h
  unfold zcE at h
  refine zyG (zaT rfl zbd (zyN (zaJ (zyB rfl h (fun h=>?_) (fun h=>?_)))))
  ·refine zap (zaz (zaJ (zat (zyG (zyR 1 rfl (zbk h fun q1 d h=>eJ (k:=1) d aK gV rfl dc rfl rfl rfl rfl (fw (i:=(c:Int).toNat) (j:=0) (k:=1) (q:=q1) dU gK rfl dc rfl rfl (ei d) rfl dc rfl (zyR 2 rfl (zyN (bX (zyR 1 rfl (zbc rfl dc rfl (zab znS rfl dc rfl (show _=1 from rfl) (zas (k:=0) wa rfl dc rfl rfl rfl (zyR 2 rfl (vW (k:=2) (ek:=(fun n:ad=>af n)) (ev':=(fun n:Int=>aB .i64 n)) (kk:=q1) (vv:=c) (mT an) underlying69 rfl rfl rfl rfl rfl (zaB (cd (zaz (bX (zbs h fun f h=>zaT rfl (dA (r:=c+1) (ai _ f)) (zyR 1 rfl (zaB ?_)))))))))))))))))))))))
   subst a
   exact aD (e,iq q1 c l,c+1) h 6
  refine dy (bV (bV (dz ?_)))
  cases h
  exact eu (rs:=[]) (_f,_a,_c,_d,_g) (.inr rfl) results66 .nil rfl (cp 6)
def zo (o1:cw) (u1:ad):Option Bool := aN ((zbP u1 o1.place).isSome) (some true) (some ((zbP u1 o1.fors).isSome))
theorem Sw {_h:Nat} {o1:cw} {_f _a _c _d _g:Hd} {u1:ad} {r:Bool} (h:zo o1 u1=some r):iu prog 71 [zP _h,.string u1] [cells _h [_f.v,.map (some (bi _a)),.map (some (bi _c)),.map (some (bi _d)),_g.v] 72,bH _f.v o1.units,cz (fun n:ad=>af n) (fun n:Int=>aB .i64 n) (bi _a) o1.place,dQ (bi _c) o1.fors,cz (fun n:ad=>af n) (fun n:Bool=>ay n) (bi _d) o1.skips,bH _g.v o1.lines] [] (fun _:Unit=>(.bool r)) (fun _=>[]):=by
 unfold zo at h
 refine iu.intro func71 rfl ntmps71 (by simp) (fun w0 K a=>zyG (zyR 1 rfl (zyH (zyR 1 rfl (zbc rfl dc rfl (zab znS rfl dc rfl (show _=1 from rfl) (zeo (i:=0) a rfl wa rfl dc rfl rfl (zyR 1 rfl (Ay (k:=2) (ek:=(fun n:ad=>af n)) (ev':=(fun n:Int=>aB .i64 n)) (kk:=u1) (z0:=0) (mT an) underlying69 kr rfl dc rfl rfl a rfl (zyR 1 rfl (eY rfl dc rfl rfl (eY rfl dc rfl rfl (zyR 2 rfl (zyH (zyR 1 rfl (zbc rfl dc rfl (zab Dc rfl dc rfl (show _=2 from rfl) (zeo (i:=0) a rfl vY rfl dc rfl rfl (zyR 1 rfl (Ha (i:=3) (kk:=u1) an underlying37 kr rfl dc rfl rfl a rfl (fun c b=>zyR 1 rfl (eY rfl dc rfl rfl (eY rfl dc rfl rfl (zyR 2 rfl (zyH (zyR 2 rfl (zyS (s:=28) rfl h (fun h=>?_) (fun h=>?_))))))))))))))))))))))))))))
 ·refine zyR 3 rfl (zyN (zaA ?_))
  cases h
  exact cX 4 results71
 refine zyR 3 rfl (zyN (zaA ?_))
 cases h
 exact cX 4 results71
def zgw (g:(List ad)→Option cw) (c:(List ad)→Int→Option cw) (a:List ad) (r3:Int):Option cw := aN (decide ((r3:Int)<1120)) (co (fun (b:(List ad)→Option cw)=>aV (fB r3) <|aN (pa r3) (aT (Ea r3) fun (e:(List Int))=>aN (((e.length:Int):Int)==1) (aT (zc r3) fun (d:ad)=>aN (decide (d=ae r3)) (aV (a.length+1≤2147483648) <|b (a++[ae r3])) (b a)) (b a)) (b a)) (fun (f:List ad)=>aV (fB (r3+1)) <|c f (r3+1))) (g a)
def xd  : Option cw := co (fun (b:(List ad)→Option cw)=>zaC (fun _ _=>none) (zgw b) zbx ([]:List ad) 97) (fun (o1:List ad)=>aT (xc (⟨o1,([]:List (ad×Int)),([]:List (ad×List ad)),([]:List (ad×Bool)),([]:List ad)⟩:cw)) fun (a:cw)=>some a)
theorem Sx  {r:cw} (h:xd=some r):Fn prog 28 [] [] (fun b:Nat×Hd×Hd×Hd×Hd×Hd=>zP b.1) (fun b=>[cells b.1 [b.2.1.v,.map (some (bi b.2.2.1)),.map (some (bi b.2.2.2.1)),.map (some (bi b.2.2.2.2.1)),b.2.2.2.2.2.v] 72,bH b.2.1.v r.units,cz (fun n:ad=>af n) (fun n:Int=>aB .i64 n) (bi b.2.2.1) r.place,dQ (bi b.2.2.2.1) r.fors,cz (fun n:ad=>af n) (fun n:Bool=>ay n) (bi b.2.2.2.2.1) r.skips,bH b.2.2.2.2.2.v r.lines]):=by
 unfold xd at h
 refine _root_.Go.Proofs.YtifpjbgnikjglaaGreatDoor.Fn.intro func28 rfl ntmps28 (by simp) (fun w0 K=>zbq h fun z E h=>zaL (β:=(List ad)×Nat×Hd×Nat×Nat×Nat) 2 rfl (fun b=>z b.1=some r) (fun b=>[]) (fun b=>[(1,zP b.2.1)]) (fun b=>[cells b.2.1 [b.2.2.1.v,.map (some b.2.2.2.1),.map (some b.2.2.2.2.1),.map (some b.2.2.2.2.2),.slice none 0 0] 72,bH b.2.2.1.v b.1,cz (fun n:ad=>af n) (fun n:Int=>aB .i64 n) b.2.2.2.1 ([]:List (ad×Int)),dQ b.2.2.2.2.1 ([]:List (ad×List ad)),cz (fun n:ad=>af n) (fun n:Bool=>ay n) b.2.2.2.2.2 ([]:List (ad×Bool))]) (fun cut=>?_) ?_)
 ·refine zyG (zyR 1 rfl (zyH (vV (fun n:ad=>af n) (fun n:Int=>aB .i64 n) rfl dc (fun o=>vV (fun s:ad=>af s) pK rfl dc (fun g=>sC (As:=[cz (fun s:ad=>af s) pK g []]) (bW [1] kr rfl) (G8 (b:=g)) (fun _ _=>vV (fun n:ad=>af n) (fun n:Bool=>ay n) rfl dc (fun m=>zbf (v:=.agg #[.slice none 0 0,.map (some o),.map (some g),.map (some m),.slice none 0 0]) (ps:=[(1,.tmp 3),(2,.tmp 4),(3,.tmp 5)]) rfl dc rfl (fun _=>by kernel_rfl) (zfq rfl dc rfl (fun x=>zyR 1 rfl (zyN (cut (zyG (zyR 1 rfl (zyN (zat (nD (enc:=hO) (e:=9) (size:=1) (eF (β:=Nat×(List ad)×Int×Hd) (fun b=>zaC (fun _ _=>none) (zgw z) b.1 b.2.1 b.2.2.1=some r) (fun b=>[]) (fun b=>[(1,zP x),(2,.int .i32 b.2.2.1)]) (fun b=>[cells x [b.2.2.2.v,.map (some o),.map (some g),.map (some m),.slice none 0 0] 72,bH b.2.2.2.v b.2.1,cz (fun n:ad=>af n) (fun n:Int=>aB .i64 n) o ([]:List (ad×Int)),dQ g ([]:List (ad×List ad)),cz (fun n:ad=>af n) (fun n:Bool=>ay n) m ([]:List (ad×Bool))]) (fun b=>b.1) (zbx,([]:List ad),97,Hd.nil) h rfl (bI rfl) (bW [4,5,0,2,3] kr rfl) ?_)))))))))))))))))
  rintro⟨y,p,r3,f⟩ h
  cases y with
  |zero=>exact ew h
  |succ y=>
   obtain⟨M,i⟩:∃ag,ag=zaC (fun _ _=>none) (zgw z) y:=⟨_,rfl⟩
   have h:zgw z M p r3=some r:=by rw[i];exact h
   unfold zgw at h
   refine zaJ (zyG (zyR 1 rfl (zaT rfl zbd (zyN (zyB rfl h (fun h=>?_) (fun h=>?_))))))
   ·refine zap (zaz (zbq h fun P D h=>zaL (β:=(List ad)×Hd) 0 rfl (fun b=>P b.1=some r) (fun b=>[]) (fun b=>[(1,zP x),(2,.int .i32 r3)]) (fun b=>[cells x [b.2.v,.map (some o),.map (some g),.map (some m),.slice none 0 0] 72,bH b.2.v b.1,cz (fun n:ad=>af n) (fun n:Int=>aB .i64 n) o ([]:List (ad×Int)),dQ g ([]:List (ad×List ad)),cz (fun n:ad=>af n) (fun n:Bool=>ay n) m ([]:List (ad×Bool))]) (fun cut=>?_) ?_))
    ·refine cut (zat (zyG (zyR 1 rfl (zbs h fun t h=>zaI (v:=.bool (pa r3)) (vs:=[.int .i32 r3]) rfl dc rfl rfl rfl N9 (nC fun w=>A1 r3 w t.1 t.2) (zyR 1 rfl (zyS (s:=14) rfl h (fun h=>?_) (fun h=>?_)))))))
     ·refine zyR 1 rfl (zbk h fun T C h=>zbN (vs:=[.int .i32 r3]) rfl dc rfl rfl rfl Oa (QC C) ah (fun v1=>iB (k:=5) rfl (fun Q I=>?_)))
      subst I
      refine gZ (k:=5) rfl dc rfl rfl underlying103 (zaT rfl zbm (zyR 2 rfl (zyS (s:=20) rfl h (fun h=>?_) (fun h=>?_))))
      ·refine zyR 1 rfl (zbk h fun N B h=>zaI (v:=.string N) (vs:=[.int .i32 r3]) rfl dc rfl rfl rfl HJ (Jk B) (zyR 1 rfl (zcH rfl dc rfl (mi aZ an) (zaT rfl zdp (zyR 1 rfl (zyN (zyB rfl h (fun h=>?_) (fun h=>?_))))))))
       ·refine bX (zyR 2 rfl (zbc rfl dc rfl (zab znT rfl dc rfl (show _=0 from rfl) (zas (k:=0) oq rfl dc rfl rfl rfl (zyR 1 rfl (zcH rfl dc rfl (mi aZ an) (fx (cs:=[.string (ae r3)]) (te:=9) (ps:=[(0,.tmp 33)]) rfl dc rfl (fun _=>by kernel_rfl) (fun U=>zbs h fun G h=>iT (k:=1) (k2:=6) (ys:=[ae r3]) aK oM gK o6 rfl dc rfl rfl rfl rfl rfl rfl G (fun v2=>iB (k:=1) rfl (fun u H=>?_))))))))))
        subst H
        exact zbc rfl dc rfl (zab znT rfl dc rfl (show _=0 from rfl) (eP (k:=0) (l':=[u.v,.map (some o),.map (some g),.map (some m),.slice none 0 0]) sG rfl rfl rfl rfl rfl (fun _ _=>rfl) rfl (zaB (cd (mD (p++[ae r3],u) h 5)))))
       exact zap (cd (mD (p,f) h 5))
      exact zyR 6 rfl (zyN (za8 rfl (zap (cd (mD (p,f) h 5)))))
     exact zyR 12 rfl (zyN (za8 rfl (zap (cd (mD (p,f) h 5)))))
    rintro⟨O,J⟩ h
    rw[D] at h
    refine bX (zyR 1 rfl (zbs h fun F h=>zaT rfl (dA (r:=r3+1) (IntWalk.i32_in _ F)) (zyR 1 rfl (zaB ?_))))
    subst i
    exact aD (y,O,r3+1,J) h 5
   exact dy (bV (bV (dz (mD (p,x,f,o,g,m) h 5))))
 rintro⟨o1,b1,L,b2,S,R⟩ h
 rw[E] at h
 refine zyG (zyR 1 rfl (vH (enc:=hO) (e:=9) (size:=1) (zbk h fun q A h=>zbN (vs:=[zP b1]) rfl dc rfl rfl rfl HK (J7 (_h:=b1) (o1:=(⟨o1,([]:List (ad×Int)),([]:List (ad×List ad)),([]:List (ad×Bool)),([]:List ad)⟩:cw)) (_f:=L) (_a:=(⟨some ⟨b2,0,none⟩,0,0⟩:Hd)) (_c:=(⟨some ⟨S,0,none⟩,0,0⟩:Hd)) (_d:=(⟨some ⟨R,0,none⟩,0,0⟩:Hd)) (_g:=Hd.nil) A) (cp 6) ?_)))
 rintro⟨l,j,d,c,a⟩
 refine mn (L':=[cells b1 [l.v,.map (some (bi j)),.map (some (bi d)),.map (some (bi c)),a.v] 72,bH l.v q.units,cz (fun n:ad=>af n) (fun n:Int=>aB .i64 n) (bi j) q.place,dQ (bi d) q.fors,cz (fun n:ad=>af n) (fun n:Bool=>ay n) (bi c) q.skips,bH a.v q.lines]) (bW [6,7,8,9,10,11] kr rfl) (zyH (zyR 2 rfl (zyN (zaA ?_))))
 cases h
 exact eu (rs:=[.tmp 0]) (b1,l,j,d,c,a) (.inl rfl) results28 (.cons (.tmp rfl) .nil) rfl (cp 6)
def zeE (c:Option (List ad)) (b:ad→Option (List ad)) (a:ad):Option (List ad) := aN (decide ((0:Int)<(a.size:Int))) (aV (False) <|aV (0≤(0:Int)∧(0:Int)≤0∧(0:Int)≤(a.size:Int)) <|uB (cO a 0 0) <|aV (0≤(0:Int)∧(0:Int)≤(a.size:Int)∧((a.size:Int):Int)≤(a.size:Int)) <|b (cO a 0 (a.size:Int))) (c)
def zc1 (c0:ad) (b:Int) (d:ad→Option (List ad)) (c:ad→Option (List ad)) (a:ad):Option (List ad) := aV (c0=⟨#[10]⟩) <|aN (decide (((br a.data.toList 10):Int)<0)) (d a) (aV (cr ((br a.data.toList 10)+b)) <|aV (0≤(0:Int)∧(0:Int)≤((br a.data.toList 10)+b)∧((br a.data.toList 10)+b:Int)≤(a.size:Int)) <|uB (cO a 0 ((br a.data.toList 10)+b)) <|aV (cr ((br a.data.toList 10)+(c0.size:Int))) <|aV (0≤((br a.data.toList 10)+(c0.size:Int):Int)∧((br a.data.toList 10)+(c0.size:Int):Int)≤(a.size:Int)∧((a.size:Int):Int)≤(a.size:Int)) <|c (cO a ((br a.data.toList 10)+(c0.size:Int)) (a.size:Int)))
def BD (c0:ad) (c1:ad) (e:Int):Option (List ad) := co (fun (d:Option (List ad))=>aN (((c0.size:Int):Int)==0) (co (fun (c:Option (List ad))=>zaC (fun _=>none) (zeE c) zbx c1) (some [])) (d)) (co (fun (b:ad→Option (List ad))=>zaC (fun _=>none) (zc1 c0 e b) zbx c1) (fun (a:ad)=>uB a <|some []))
theorem Sy {e:Nat} {c0:ad} {a:Nat} {c1:ad} {d:Nat} {n:Int} {xs:(List ad)} (h:BD c0 c1 n=some xs):ra prog 118 [zP e,zP a,zP d] (fun q:ad=>[.string q]) xs [cells e [.string c0] 9,cells a [.string c1] 9,cells d [zI n] 3]:=by
 unfold BD at h
 refine ra.intro func118 rfl ntmps118 (by simp) ?_
 intro l w0 K I X  hy
 obtain⟨r0,B⟩:∃r,xs=[]++r:=⟨xs,rfl⟩
 have U:xs=r0:=B
 rw[U] at h
 refine zbq h fun j1 Y h=>zaL (β:=Unit) 0 rfl (fun b=>j1=some r0) (fun b=>[]) (fun b=>[(0,.func (.yield l) #[] #[]),(1,zP e),(2,zP a),(3,zP d)]) (fun b=>[I ([]:List ad),cells e [.string c0] 9,cells a [.string c1] 9,cells d [zI n] 3]) (fun cut=>?_) ?_
 ·refine cut (zyG (zas (k:=1) dU rfl dc rfl rfl rfl (zcG rfl dc rfl an (zaT rfl zbm (zyN (zyB rfl h (fun h=>?_) (fun h=>?_)))))))
  ·refine zbq h fun M W h=>zaL (β:=(List ad)×(List ad)) 0 rfl (fun b=>M=some b.2∧xs=b.1++b.2) (fun b=>[]) (fun b=>[]) (fun b=>[I b.1]) (fun cut=>?_) ?_
   ·refine cut (zat (eF (β:=Nat×ad×(List ad)×(List ad)) (fun b=>zaC (fun _=>none) (zeE M) b.1 b.2.1=some b.2.2.2∧xs=b.2.2.1++b.2.2.2) (fun b=>[]) (fun b=>[(0,.func (.yield l) #[] #[]),(2,zP a)]) (fun b=>[I b.2.2.1,cells a [.string b.2.1] 9]) (fun b=>b.1) (zbx,c1,([]:List ad),r0) ⟨h,B⟩ rfl (bI rfl) (bW [0,2] kr rfl) ?_))
    rintro⟨J,o,g,D⟩ ⟨h,E⟩
    cases J with
    |zero=>exact ew h
    |succ J=>
     obtain⟨a6,z⟩:∃ag,ag=zaC (fun _=>none) (zeE M) J:=⟨_,rfl⟩
     have h:zeE M a6 o=some D:=by rw[z];exact h
     unfold zeE at h
     refine zaJ (zyG (zas (k:=1) dU rfl dc rfl rfl rfl (zcG rfl dc rfl an (zaT rfl zd4 (zyN (zyB rfl h (fun h=>?_) (fun h=>?_)))))))
     ·refine zap (zaz (zat (zyG (zas (k:=1) dU rfl dc rfl rfl rfl (zbs h fun a4 h=>zaI (v:=.tuple #[.int .i32 0,zI 0]) (vs:=[.string o]) rfl dc rfl rfl rfl OE (a4).elim (zyR 1 rfl (eY rfl dc rfl rfl (eY rfl dc rfl rfl (zyR 2 rfl (zyN (zaJ (zyG (zyR 1 rfl (zas (k:=1) dU rfl dc rfl rfl rfl (zyR 1 rfl (zbs h fun a3 h=>iA rfl dc rfl rfl rfl (kA (i:=0) (j:=0) an (.inl ⟨rfl,rfl⟩) (.inr rfl) a3) ?_))))))))))))))))
      obtain⟨w,T,h⟩:=vR h
      have A:xs=g++(cO o 0 0)::w:=by rw[E,T]
      refine vA hy rfl dc rfl A rfl (k:=0) rfl ?_ ?_
      ·have P:xs=(g++[cO o 0 0])++w:=by rw[A];simp
       refine jW rfl dc rfl km (zyN (za8 rfl (zap (zaz (bX (zas (k:=1) dU rfl dc rfl rfl rfl (zyR 1 rfl (zbs h fun a2 h=>iA rfl dc rfl rfl rfl (kA (i:=0) (j:=(o.size:Int)) an (.inr rfl) (.inl ⟨rfl,rfl⟩) a2) (eP (k:=1) (l':=[.string (cO o 0 (o.size:Int))]) gV rfl rfl rfl rfl rfl (fun _ _=>rfl) rfl (zaB (cd ?_)))))))))))
       subst z
       exact aD (J,cO o 0 (o.size:Int),g++[cO o 0 0],w) ⟨h,P⟩ 2
      exact jW rfl dc rfl km (zyN (ir rfl (zaA (bP (cx (bP (cx (bP (bP (vB (ds:=[]) g (cO o 0 0) w A (.inl rfl) ah ni (cp 1)))))))))))
     exact dy (bV (bV (dz (cL (g,D) ⟨h,E⟩ rfl (rA) (cp 1)))))
   rintro⟨a7,a9⟩ ⟨h,Q⟩
   rw[W] at h
   refine zaA (bP ?_)
   cases h
   exact xJ (ds:=[]) (.inl rfl) ah ni (aM I (Q.trans (aH _))) (cp 1)
  exact zap (mD () h 4)
 rintro _ h
 rw[Y] at h
 refine zbq h fun L V h=>zaL (β:=ad×(List ad)×(List ad)) 0 rfl (fun b=>L b.1=some b.2.2∧xs=b.2.1++b.2.2) (fun b=>[]) (fun b=>[(0,.func (.yield l) #[] #[]),(2,zP a)]) (fun b=>[I b.2.1,cells a [.string b.1] 9]) (fun cut=>?_) ?_
 ·refine cut (zat (eF (β:=Nat×ad×(List ad)×(List ad)) (fun b=>zaC (fun _=>none) (zc1 c0 n L) b.1 b.2.1=some b.2.2.2∧xs=b.2.2.1++b.2.2.2) (fun b=>[]) (fun b=>[(0,.func (.yield l) #[] #[]),(1,zP e),(2,zP a),(3,zP d)]) (fun b=>[I b.2.2.1,cells e [.string c0] 9,cells a [.string b.2.1] 9,cells d [zI n] 3]) (fun b=>b.1) (zbx,c1,([]:List ad),r0) ⟨h,B⟩ rfl (bI rfl) (cp 4) ?_))
  rintro⟨H,c,f,C⟩ ⟨h,x⟩
  cases H with
  |zero=>exact ew h
  |succ H=>
   obtain⟨a5,y⟩:∃ag,ag=zaC (fun _=>none) (zc1 c0 n L) H:=⟨_,rfl⟩
   have h:zc1 c0 n L a5 c=some C:=by rw[y];exact h
   unfold zc1 at h
   refine zat (zyG (zas (k:=2) dU rfl dc rfl rfl rfl (zas (k:=1) dU rfl dc rfl rfl rfl (zbs h fun a1 h=>zaI (v:=zI (br c.data.toList 10)) (vs:=[.string c,.string c0]) rfl dc rfl rfl rfl OG (PD c a1) (zyR 1 rfl (zyN (zaJ (zyG (zyR 1 rfl (zaT rfl zbd (zyN (zyB rfl h (fun h=>dy (bV (Ac dc (bV (dz (cL (c,f,C) ⟨h,x⟩ rfl (bI rfl) (bW [0,2] kr rfl))))))) (fun h=>zap (zaz (zyG (zas (k:=2) dU rfl dc rfl rfl rfl (zyR 1 rfl (zas (k:=3) dO rfl dc rfl rfl rfl (zbs h fun a0 h=>zaT rfl (dA (r:=(br c.data.toList 10)+n) (ai _ a0)) (zbs h fun aw h=>iA rfl dc rfl rfl rfl (kA (i:=0) (j:=(br c.data.toList 10)+n) an (.inl ⟨rfl,rfl⟩) (.inr rfl) aw) (zyR 1 rfl (zyN (zaJ (zyG (zyR 2 rfl ?_)))))))))))))))))))))))))
   obtain⟨m,S,h⟩:=vR h
   have t:xs=f++(cO c 0 ((br c.data.toList 10)+n))::m:=by rw[x,S]
   refine vA hy rfl dc rfl t rfl (k:=0) rfl ?_ ?_
   ·have G:xs=(f++[cO c 0 ((br c.data.toList 10)+n)])++m:=by rw[t];simp
    refine jW rfl dc rfl km (zyN (za8 rfl (zap (zaz (bX (zas (k:=2) dU rfl dc rfl rfl rfl (zyR 1 rfl (zas (k:=1) dU rfl dc rfl rfl rfl (zcG rfl dc rfl an (zbs h fun ao h=>zaT rfl (dA (r:=(br c.data.toList 10)+(c0.size:Int)) (ai _ ao)) (zbs h fun Z h=>iA rfl dc rfl rfl rfl (kA (i:=(br c.data.toList 10)+(c0.size:Int)) (j:=(c.size:Int)) an (.inr rfl) (.inl ⟨rfl,rfl⟩) Z) (eP (k:=2) (l':=[.string (cO c ((br c.data.toList 10)+(c0.size:Int)) (c.size:Int))]) gV rfl rfl rfl rfl rfl (fun _ _=>rfl) rfl (zaB (cd ?_))))))))))))))
    subst y
    exact aD (H,cO c ((br c.data.toList 10)+(c0.size:Int)) (c.size:Int),f++[cO c 0 ((br c.data.toList 10)+n)],m) ⟨h,G⟩ 4
   exact jW rfl dc rfl km (zyN (ir rfl (zaA (bP (cx (bP (cx (bP (vB (ds:=[]) f (cO c 0 ((br c.data.toList 10)+n)) m t (.inl rfl) ah ni (cp 1))))))))))
 rintro⟨N,u,a8⟩ ⟨h,O⟩
 rw[V] at h
 refine bX (zyR 1 rfl (zas (k:=1) dU rfl dc rfl rfl rfl ?_))
 obtain⟨p,R,h⟩:=vR h
 have s:xs=u++N::p:=by rw[O,R]
 refine vA hy rfl dc rfl s rfl (k:=0) rfl ?_ ?_
 ·have F:xs=(u++[N])++p:=by rw[s];simp
  refine zaB ?_
  cases h
  exact xJ (ds:=[]) (.inr rfl) ah ni (aM I (F.trans (aH _))) (cp 1)
 exact zaB (vB (ds:=[]) u N p s (.inr rfl) ah ni (cp 1))
def ET (c:ad) (b:ad) (a:Int):Option (ad×ad×Int) := some (b,c,a)
theorem Sz {d:ad} {c:ad} {a:Int} {r:(ad×ad×Int)} (h:ET d c a=some r):Fn prog 67 [.string d,.string c,zI a] [] (fun b:Nat×Nat×Nat=>.func (.func 118) #[] #[zP b.1,zP b.2.1,zP b.2.2]) (fun b=>[cells b.1 [.string r.1] 9,cells b.2.1 [.string r.2.1] 9,cells b.2.2 [zI r.2.2] 3]):=by
 unfold ET at h
 refine _root_.Go.Proofs.YtifpjbgnikjglaaGreatDoor.Fn.intro func67 rfl ntmps67 (by simp) (fun w0 K=>zyG (zfq rfl dc rfl (fun b1=>zfq rfl dc rfl (fun b2=>zfq rfl dc rfl (fun e=>zyR 1 rfl (zyH (zjk (x1:=[]) (x2:=[.tmp 4,.tmp 3,.tmp 5]) rfl dc rfl rfl (zyR 1 rfl (zyN (zaA ?_))))))))))
 cases h
 exact eu (rs:=[.tmp 6]) (b2,b1,e) (.inl rfl) results67 (.cons (.tmp rfl) .nil) rfl (bW [1,0,2] kr rfl)
def EU (b:ad) (a:ad):Option (ad×ad×Int) := aT (ET b a 0) fun (r1:(ad×ad×Int))=>some (r1.1,r1.2.1,r1.2.2)
theorem SA {c:ad} {a:ad} {r:(ad×ad×Int)} (h:EU c a=some r):Fn prog 29 [.string c,.string a] [] (fun b:Nat×Nat×Nat=>.func (.func 118) #[] #[zP b.1,zP b.2.1,zP b.2.2]) (fun b=>[cells b.1 [.string r.1] 9,cells b.2.1 [.string r.2.1] 9,cells b.2.2 [zI r.2.2] 3]):=by
 unfold EU at h
 refine _root_.Go.Proofs.YtifpjbgnikjglaaGreatDoor.Fn.intro func29 rfl ntmps29 (by simp) (fun w0 K=>zyG (zyR 1 rfl (zyH (zyR 2 rfl (zbk h fun r1 d h=>zbN (vs:=[.string c,.string a,zI 0]) rfl dc rfl rfl rfl Oc (Sz d) ah ?_)))))
 rintro⟨b1,b2,e⟩
 refine zyR 1 rfl (zyN (zaA ?_))
 cases h
 exact eu (rs:=[.tmp 4]) (b1,b2,e) (.inl rfl) results29 (.cons (.tmp rfl) .nil) rfl (cp 3)
def zbl (x1:cY) (a:(List cY)→Option (List cY)) (b:List cY):Option (List cY) := aV (b.length+1≤2147483648) <|a (b++[x1])
def BE (a:ad):Option (List cY) := co (fun (f:(List cY)→Option (List cY))=>aT (sW a) fun (b:(List cY))=>co (fun (c:(List cY)→Option (List cY))=>zdZ c (zbl) b ([]:List cY)) (fun (d:List cY)=>f d)) (fun (e:List cY)=>some e)
theorem SB {_l:Nat} {d:ad} {r:(List cY)} (h:BE d=some r):Fn prog 161 [.slice none 0 0,.func (.func 154) #[] #[zP _l]] [cells _l [.string d] 9] (fun v0:Value=>v0) (fun v0=>[cells _l [.string d] 9,pw v0 r]):=by
 unfold BE at h
 refine _root_.Go.Proofs.YtifpjbgnikjglaaGreatDoor.Fn.intro func161 rfl ntmps161 (by simp) (fun w0 K=>zjD (zbq h fun H A h=>zaL (β:=(List cY)×Nat×Value×(List Nat)) 1 rfl (fun b=>H b.1=some r) (fun b=>po b.2.2.2) (fun b=>[(2,zP b.2.1)]) (fun b=>[cells _l [.string d] 9,cells b.2.1 [b.2.2.1] 129,pw b.2.2.1 b.1,ziH ((b.2.2.2:List Nat).map gL)]) (fun cut=>?_) ?_))
 ·refine zyG (Mo (fun _ _=>rfl) rfl dc rfl (fun b2=>zyR 1 rfl (zyN (cut (zyG (zyR 1 rfl (zyN (zat (zbk h fun s z h=>nD (enc:=oN) (e:=132) (size:=4) (zbq h fun o u h=>ux (α:=cY) (β:=(List cY)×Value) (γ:=Unit) (δ:=Nat) (ps:=[7]) Ro.nil rfl yj (y8 z) (fun pre b=>∀post,s=pre++post→zdZ o (zbl) post b.1=some r) (fun pre b=>[cells b2 [b.2] 129,pw b.2 b.1]) (fun c pre g=>False) (fun c pre g=>[]) (fun pre x b j=>[(2,zP b2),(4,.slice none 0 0),(6,.func (.func 154) #[] #[zP _l]),(5,zP j)]) (fun pre x b j=>[cells b2 [b.2] 129,pw b.2 b.1,cells j [zI x.At,zI x.Width,.int .i32 x.Rune,.bool x.Broken] 132]) (([]:List cY),(.slice none 0 0)) (fun post e=>by rw[bg] at e;subst e;exact h) (bW [2,3] kr rfl) ⟨.inl ⟨0,rfl⟩,trivial⟩ (fun _=>rfl) dc ?_ ?_ ?_ ?_))))))))))
  ·rintro F E pre x1 post ⟨n,q⟩ w1 O l t y f
   exact bX (zbi zjr rfl dc (fun N=>eE (k:=2) (vs:=[zI x1.At,zI x1.Width,.int .i32 x1.Rune,.bool x1.Broken]) (l':=[zI x1.At,zI x1.Width,.int .i32 x1.Rune,.bool x1.Broken]) kM rfl rfl rfl rfl rfl (show _≤_ by simp) rfl rfl (zaB (fun a w ha J=>⟨N,(bI rfl) _ _ _ ha,J.weaken (cp 3)⟩))))
  ·rintro F E pre x1 i ⟨n,q⟩ G w1 O l t y f
   have h:=f (x1::i) l
   obtain⟨C,m⟩:∃ag,ag=zdZ o (zbl) i:=⟨_,rfl⟩
   have h:zbl x1 C n=some r:=by have h2:=h;rw[oH,←m] at h2;exact h2
   unfold zbl at h
   exact zat (bX (zas (k:=0) Ht rfl dc rfl rfl rfl (zbR (k:=2) (cs:=[zI x1.At,zI x1.Width,.int .i32 x1.Rune,.bool x1.Broken]) lO rfl dc rfl rfl rfl rfl (fx (cs:=[zI x1.At,zI x1.Width,.int .i32 x1.Rune,.bool x1.Broken]) (te:=132) (ps:=[(0,.tmp 9)]) rfl dc rfl (fun _=>by kernel_rfl) (fun Q=>zbs h fun B h=>iT (k:=1) (k2:=3) (ys:=[x1]) underlying129 Hu AW H6 rfl dc rfl rfl rfl rfl rfl rfl B (fun D=>eP (k:=0) (l':=[D]) NO rfl rfl rfl rfl rfl (fun _ h=>MF h (k:=1) rfl) rfl (zaB (cd (lY (n++[x1],D) (fun v e2=>by have M:=l0 l e2;subst M;subst m;exact h) (cp 2))))))))))
  ·rintro p ⟨n,q⟩ f
   have h:o n=some r:=f [] (aH _).symm
   rw[u] at h
   show TX _ _ _ _ _ _ _ [cells _l [.string d] 9,ziH ((([]:List Nat):List Nat).map gL),cE,cE,cells b2 [q] 129,pw q n,gL p]
   exact tA (k:=6) (j:=1) rfl rfl dc (cd (cL (n,b2,q,p::([]:List Nat)) h rfl (bI rfl) (bW [0,4,5,1] kr rfl)))
  exact fun p c pre x1 post g I L=>(show False from L).elim
 rintro⟨P,b1,v1,ds1⟩ h
 rw[A] at h
 refine zyG (zas (k:=1) Ht rfl dc rfl rfl rfl (zyR 1 rfl (zyN (zaA ?_))))
 cases h
 exact qq (rs:=[.tmp 4]) ds1 v1 (.inl rfl) (qo (k:=3) rfl) results161 (.cons (.tmp rfl) .nil) rfl (bW [0,2] kr rfl)
def BF (a:ad):Option (List cY) := aT (BE a) fun (r1:(List cY))=>some r1
theorem SC {_l:Nat} {a:ad} {r:(List cY)} (h:BF a=some r):Fn prog 135 [.func (.func 154) #[] #[zP _l]] [cells _l [.string a] 9] (fun v0:Value=>v0) (fun v0=>[cells _l [.string a] 9,pw v0 r]):=by
 unfold BF at h
 refine _root_.Go.Proofs.YtifpjbgnikjglaaGreatDoor.Fn.intro func135 rfl ntmps135 (by simp) (fun w0 K=>zyG (zyR 1 rfl (zyH (zyR 1 rfl (zbk h fun r1 b h=>zbN (vs:=[.slice none 0 0,.func (.func 154) #[] #[zP _l]]) rfl dc rfl rfl rfl OU (SB (_l:=_l) b) (cp 1) (fun v1=>zyR 1 rfl (zyN (zaA ?_))))))))
 cases h
 exact eu (rs:=[.tmp 2]) v1 (.inl rfl) results135 (.cons (.tmp rfl) .nil) rfl (bW [1,2] kr rfl)
def zfg (a:List Int) (d:Option Int) (c:Int→Option Int) (b:Int):Option Int := aN (decide ((b:Int)<(a.length:Int))) (aT (zca a b) fun (q1:Int)=>aN ((q1:Int) != 0) (some q1) (aV (cr (b+1)) <|c (b+1))) (d)
def zp (a:List Int):Option Int := co (fun (b:Option Int)=>zaC (fun _=>none) (zfg a b) zbx 0) (some 0)
theorem SD {f d:Value} {g:List Int} {e:Nat} {a:List Int} (c:Vw f g 1 e d a) {r:Int} (h:zp a=some r):iu prog 93 [d] [jh (kV (.i64)) 1 f e g] [] (fun _:Unit=>(zI r)) (fun _=>[]):=by
 unfold zp at h
 refine iu.intro func93 rfl ntmps93 (by simp) (fun w0 K s=>zbq h fun p t h=>zaL (β:=Unit) 2 rfl (fun b=>p=some r) (fun b=>[]) (fun b=>[(3,zI 0)]) (fun b=>[]) (fun cut=>?_) ?_)
 ·refine zyG (zyR 1 rfl (zyH (zyR 1 rfl (zyN (cut (zyG (zyR 1 rfl (zbT c rfl dc rfl underlying51 (zyR 1 rfl (zyN (zat (eF (β:=Nat×Int) (fun b=>zaC (fun _=>none) (zfg a p) b.1 b.2=some r) (fun b=>[]) (fun b=>[(3,zI 0),(6,d),(7,zI (a.length:Int)),(8,zI b.2)]) (fun b=>[]) (fun b=>b.1) (zbx,0) h rfl (bI rfl) ah ?_))))))))))))
  rintro⟨o,m⟩ h
  cases o with
  |zero=>exact ew h
  |succ o=>
   obtain⟨v,k⟩:∃ag,ag=zaC (fun _=>none) (zfg a p) o:=⟨_,rfl⟩
   have h:zfg a p v m=some r:=by rw[k];exact h
   unfold zfg at h
   refine zyG (zaT rfl zbd (zyN (zaJ (zyB rfl h (fun h=>?_) (fun h=>?_)))))
   ·refine zap (zaz (zaJ (zat (zyG (zbk h fun q1 l h=>fy c l underlying51 kp rfl dc rfl rfl rfl (jG (n:=e+(m:Int).toNat) (j:=0) (i:=0) (q:=q1) s rfl (by omega) dO rfl dc rfl (ce c l) rfl rfl (zyR 1 rfl (zyH (zyR 2 rfl (zaT rfl zed (zyN (zyB rfl h (fun h=>?_) (fun h=>?_)))))))))))))
    ·refine zyG (zyR 2 rfl (zyN (zaA (cx (bP (bP (cx (bP ?_))))))))
     cases h
     exact cX 2 results93
    refine zap (cd (zaz (bX (zbs h fun u h=>zaT rfl (dA (r:=m+1) (ai _ u)) (zyR 1 rfl (zaB ?_))))))
    subst k
    exact nB (o,m+1) h (Nat.lt_succ_self _) rfl (bI rfl) ah
   exact dy (bV (bV (dz (cL () h rfl (bI rfl) ah))))
 rintro _ h
 rw[t] at h
 refine zyG (zyR 2 rfl (zyN (zaA ?_)))
 cases h
 exact cX 2 results93
def zq (x1:Int):Option Bool := some ((x1:Int) != x1)
theorem J8 {x1:Int} {r:Bool} (h:zq x1=some r):dN prog 138 [zI x1] (.bool r):=by
 unfold zq at h
 refine dN.intro func138 rfl ntmps138 (by simp) (fun w0 K=>zyG (zyR 1 rfl (zyH (zyR 2 rfl (zaT rfl zed (zyR 1 rfl (zyN (zaA ?_))))))))
 cases h
 exact cX 2 results138
def BG (x1:Int) (a:Int):Option Int := aT (zq x1) fun (r1:Bool)=>aT (zq a) fun (r2:Bool)=>aN (r1) (aN (r2) (some 0) (some (-1))) (aN (r2) (some 1) (aN (decide ((x1:Int)<a)) (some (-1)) (aN (decide ((a:Int)<x1)) (some 1) (some 0))))
theorem SE {x1:Int} {a:Int} {r:Int} (h:BG x1 a=some r):dN prog 95 [zI x1,zI a] (zI r):=by
 unfold BG at h
 refine dN.intro func95 rfl ntmps95 (by simp) (fun w0 K=>zyG (zyR 1 rfl (zyH (zyR 1 rfl (zbk h fun r1 c h=>zaI (v:=.bool r1) (vs:=[zI x1]) rfl dc rfl rfl rfl HT (J8 c) (zyR 1 rfl (zyH (zyR 1 rfl (zbk h fun r2 b h=>zaI (v:=.bool r2) (vs:=[zI a]) rfl dc rfl rfl rfl HT (J8 b) (zyR 1 rfl (zyN (zaJ (zyG (zyR 1 rfl (zyN (zyB rfl h (fun h=>?_) (fun h=>?_)))))))))))))))))
 ·refine zaJ (zyG (zyR 1 rfl (zyN (zyB rfl h (fun h=>?_) (fun h=>?_)))))
  ·refine zyG (zyR 1 rfl (zyN (zaA (bP (bP ?_)))))
   cases h
   exact cX 4 mf
  refine zap (zaz (zyG (zyR 1 rfl (zyN (zaA (bP ?_))))))
  cases h
  exact cX 4 mf
 refine zap (zaz (zaJ (zyG (zyR 1 rfl (zyN (zyB rfl h (fun h=>?_) (fun h=>?_)))))))
 ·refine zyG (zyR 1 rfl (zyN (zaA (bP ?_))))
  cases h
  exact cX 4 mf
 refine zap (zaz (zaJ (zyG (zyR 2 rfl (zaT rfl zbd (zyN (zyB rfl h (fun h=>?_) (fun h=>?_))))))))
 ·refine zyG (zyR 1 rfl (zyN (zaA (bP ?_))))
  cases h
  exact cX 4 mf
 refine zap (zaz (zaJ (zyG (zyR 2 rfl (zaT rfl zd4 (zyN (zyB rfl h (fun h=>?_) (fun h=>?_))))))))
 ·refine zyG (zyR 1 rfl (zyN (zaA (bP ?_))))
  cases h
  exact cX 4 mf
 refine zap (zaz (zyG (zyR 1 rfl (zyN (zaA ?_)))))
 cases h
 exact cX 4 mf
end Go.Proofs.YtifpjbgnikjglaaGreatDoor
