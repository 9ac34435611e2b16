/-
  Texts laid together: LfU, Qe, LfW2, LfS, Qf, Qg, Qh, Qk, LfW0, LfW1, LfSa, LfFa, Qi, LfG2, LfW3, LfSg, LfF2, Qj, Qw, Qs, Qp, Qu, Qz, LpR, LcA, LcB, LcC, LcS. Nothing is assumed.
-/
import Derived.Test.YtifpjbgnikjglaaGreatDoorCollateHeadings3
import Derived.Test.YtifpjbgnikjglaaGreatDoorCollateHeadings2
set_option maxRecDepth 100000
set_option maxHeartbeats 4000000
namespace Go.Proofs.YtifpjbgnikjglaaGreatDoor
open Go.RowKit Go.Lib
open Tryz
set_option linter.unusedVariables false
set_option linter.unusedSimpArgs false
open _root_.Array renaming length_toList→dJ,toList_inj→fv
open _root_.Bool renaming false_eq_true→bg,and_eq_true→aN,eq_iff_iff→dL
open _root_.ByteArray renaming empty→ad,empty_append→c8,append_assoc→cu,size_append→aJ
open _root_.Go.IntWalk renaming i64_in→ai
open _root_.Go.Lib renaming extract_data→mP
open _root_.Go.Proofs.Tryz renaming underlying9→al,underlying120→eS,underlying103→bo,underlying46→cO
open c9 renaming nil→io
open Hd renaming nil→eu
open am renaming nil→ah
open Vw renaming get→bX
open evP renaming cons→fF,nil→qg
open _root_.Go.Utf8 renaming encode→ac
open _root_.Go.Value renaming int→aC,agg→bj
open _root_.List renaming nil_append→aW,append_nil→aE,getElem?_eq_getElem→aO,drop_eq_getElem_cons→bB,drop_length→gg,foldl_cons→bn,length_cons→ab,mem_cons_self→aq,mem_append→bH,mem_of_getLast?→qh,mem_map→aS,mem_cons_of_mem→ak,cons_append→bq,map_cons→av,flatMap_cons→aK,map_map→bY,map_nil→dW,mem_of_getElem?→aL,mem_flatMap→gD,mem_cons→aY,eq_nil_of_length_eq_zero→ck,takeWhile_cons→aV,takeWhile_append_dropWhile→dS,length_append→aa,mem_filter→co,length_map→ar,map_append→cQ
open _root_.Nat renaming zero_le→cm,add_mul→c6,one_mul→jx,le_refl→bi
open _root_.Option renaming toList_none→qi
open _root_.Prod renaming fst→bv
def zez (j:Int→Int→Int→(List Int)→(List Int)→Option (List cY)) (h:(List Int)) (i:Int→Int→Int→(List Int)→(List Int)→Int→Option (List cY)) (e:Int) (d:Int) (c:Int) (b:List Int) (a:List Int) (g:Int):Option (List cY) := aM (decide ((g:Int)<((dM h 1 (h.length:Int)).length:Int))) (aT (zcx (dM h 1 (h.length:Int)) g) fun (q2:Int)=>aT (wk (⟨e,d,c,b,a⟩:cY) q2) fun (f:cY)=>aU (cp (g+1)) <|i f.at_ f.broken f.base f.low f.high (g+1)) (j e d c b a)
def zfE (k:ae) (r1:((List (zam×Int))×(List (Int×zam)))) (x1:cT) (b:(List cY)→Option (List cY)) (a:List cY):Option (List cY) := aM (x1.Broken) (aT (jz k x1.At) fun (c1:Int)=>aU (a.length+1≤2147483648) <|b (a++[(⟨x1.At,c1,(-1),([]:List Int),([]:List Int)⟩:cY)])) (cn (fun (d:Option (List cY))=>aM (decide ((0:Int)<(a.length:Int))) (aU (cp ((a.length:Int)-1)) <|aT (zcx a ((a.length:Int)-1)) fun (x2:cY)=>aT (sB x2) fun (r3:Bool)=>aM (r3) (aU (fl x1.Rune) <|aM (((kind x1.Rune):Int)==2) (aU (cp ((a.length:Int)-1)) <|aT (zcx a ((a.length:Int)-1)) fun (f:cY)=>aT (wk f x1.Rune) fun (m:cY)=>b (a.set ((a.length:Int)-1:Int).toNat m)) (d)) (d)) (d)) (cn (fun (e:Int→Int→Int→(List Int)→(List Int)→Option (List cY))=>aT (sB (⟨x1.At,0,x1.Rune,([]:List Int),([]:List Int)⟩:cY)) fun (l:Bool)=>aM (l) (aT (uy r1.2 x1.Rune) fun (c:(List Int))=>aT (zcx c 0) fun (q1:Int)=>aU (0≤(1:Int)∧(1:Int)≤(c.length:Int)∧((c.length:Int):Int)≤(c.length:Int)) <|zaC (fun _ _ _ _ _ _=>none) (zez e c) zbC x1.At 0 q1 ([]:List Int) ([]:List Int) 0) (e x1.At 0 x1.Rune ([]:List Int) ([]:List Int))) (fun (u1:Int) (j:Int) (i:Int) (h:List Int) (g:List Int)=>aU (a.length+1≤2147483648) <|b (a++[(⟨u1,j,i,h,g⟩:cY)]))))
def tE (c:ae):Option (List cY) := cn (fun (f:(List cY)→Option (List cY))=>aT (wm) fun (r1:((List (zam×Int))×(List (Int×zam))))=>aT (uG c) fun (r2:ae)=>aT (sE r2) fun (a:(List cT))=>cn (fun (b:(List cY)→Option (List cY))=>zdw b (zfE c r1) a ([]:List cY)) (fun (d:List cY)=>f d)) (fun (e:List cY)=>some e)
theorem DN {A:ae} {r:(List cY)} (h:tE A=some r):Fn prog 76 [.string A] [] (fun v0:Value=>v0) (fun v0=>[mV lN iv 123 5 v0 r]):=by
 unfold tE at h
 refine Fn.intro func76 rfl ntmps76 (by simp) (fun w0 K=>ziX (zyG (zeV rfl dc rfl (fun b1=>zyR 1 rfl (zyN (zvG (β:=Unit) (l:=0) (fun _=>False) (fun _=>[]) (fun _=>[]) rfl ?_ ?_))))))
 ·refine zbp h fun j1 d5 h=>zaM (β:=(List cY)×Nat×Hd×(List Nat)) 3 rfl (fun b=>j1 b.1=some r) (fun b=>oj b.2.2.2) (fun b=>[(5,zP b.2.1)]) (fun b=>[cells b.2.1 [b.2.2.1.v] 120,mV lN iv 123 5 b.2.2.1.v b.1,zhW ((b.2.2.2:List Nat).map fx)]) (fun cut=>?_) ?_
  ·refine zyG (zbl h fun r1 d2 h=>zbJ (vs:=[]) rfl dc rfl rfl rfl CM (Dx d2) ah ?_)
   rintro⟨b3,t⟩
   refine zyR 1 rfl (eT rfl dc rfl rfl (eT rfl dc rfl rfl (zbk GN rfl dc (fun G=>zyR 1 rfl (ef (k:=4) (l':=[.map (some t)]) GM rfl rfl rfl rfl rfl (fun _ _=>rfl) rfl (zyH (zbk M5 rfl dc (fun B=>zyN (zaL (FA (ct (cut (zyG (zat (k:=1) eb rfl dc rfl rfl rfl (zbl h fun r2 d1 h=>zbJ (vs:=[.string A]) rfl dc rfl rfl rfl xB (yB d1) ah (fun b7=>zyN (zau (zbl h fun bh d0 h=>ME (enc:=lN) (nest:=iv) (e:=123) (size:=5) (zbp h fun a9 c3 h=>tZ (α:=cT) (β:=(List cY)×Hd) (γ:=Unit) (δ:=Nat) (ps:=[18]) Ro.nil rfl xD (yA d0) (fun pre b=>∀post,bh=pre++post→zdw a9 (zfE A r1) post b.1=some r) (fun pre b=>[cells b1 [.string A] 9,cells G [.map (some t)] 116,cG (fun n:Int=>aC .i32 n) (fun p:zam=>bj #[.int .i32 p.e0,.int .i32 p.e1]) t r1.2,cells B [b.2.v] 120,mV lN iv 123 5 b.2.v b.1]) (fun c pre g=>False) (fun c pre g=>[]) (fun pre x b j=>[(1,zP b1),(2,.slice none 0 0),(4,zP G),(5,zP B),(17,.func (.func 154) #[] #[zP b7]),(6,zP j)]) (fun pre x b j=>[cells b1 [.string A] 9,cells G [.map (some t)] 116,cG (fun n:Int=>aC .i32 n) (fun p:zam=>bj #[.int .i32 p.e0,.int .i32 p.e1]) t r1.2,cells B [b.2.v] 120,mV lN iv 123 5 b.2.v b.1,cells j [zI x.At,zI x.Width,.int .i32 x.Rune,.bool x.Broken] 132]) (([]:List cY),eu) (fun post e=>by rw[aW] at e;subst e;exact h) (cg [1,4,3,5,7] kr rfl) ⟨.inl ⟨6,rfl⟩,trivial⟩ (fun _=>rfl) dc ?_ ?_ ?_ ?_)))))))))))))))))))
   ·rintro lp rc pre x1 post ⟨o,f⟩ w1 K1 C c2 dg I
    exact bV (zbk zjz rfl dc (fun b8=>eK (k:=5) (vs:=[zI x1.At,zI x1.Width,.int .i32 x1.Rune,.bool x1.Broken]) (l':=[zI x1.At,zI x1.Width,.int .i32 x1.Rune,.bool x1.Broken]) kC rfl rfl rfl rfl rfl (show _≤_ by simp) rfl rfl (bG (fun a w ha hw=>⟨b8,(bE rfl) _ _ _ ha,hw.weaken (cj 6)⟩))))
   ·rintro lp rc pre x1 V ⟨o,f⟩ y w1 K1 C c2 dg I
    have h:=I (x1::V) C
    obtain⟨eL,J⟩:∃ag,ag=zdw a9 (zfE A r1) V:=⟨_,rfl⟩
    have h:zfE A r1 x1 eL o=some r:=by have h2:=h;rw[nI,←J] at h2;exact h2
    unfold zfE at h
    refine zau (zaL (zyG (zab Ah rfl dc rfl (show _=3 from rfl) (zat (k:=5) lW rfl dc rfl rfl rfl (zyN (zyB rfl h (fun h=>?_) (fun h=>?_)))))))
    ·refine zaL (zbl h fun c1 b0 h=>zbt h fun eg h=>zL (β:=Nat) 9 8 _ [(0,21,f.v),(1,22,zP y),(2,23,zI x1.At),(3,24,.string A),(4,25,zP y),(5,26,zI x1.At),(6,27,.int .u8 c1),(7,28,.agg #[zI x1.At,.int .u8 c1,.int .i32 (-1),.slice none 0 0,.slice none 0 0])] (fun b9=>[(29,.slice (some ⟨b9,0,none⟩) 1 1)]) (fun b9=>[cells b1 [.string A] 9,cells G [.map (some t)] 116,cG (fun n:Int=>aC .i32 n) (fun p:zam=>bj #[.int .i32 p.e0,.int .i32 p.e1]) t r1.2,cells B [f.v] 120,mV lN iv 123 5 f.v o,cells y [zI x1.At,zI x1.Width,.int .i32 x1.Rune,.bool x1.Broken] 132,cells b9 [zI x1.At,.int .u8 c1,.int .i32 (-1),.slice none 0 0,.slice none 0 0] 123]) mixed kr kr rfl dc dc (by rfl) kr kr (gE (fun D n d c u i=>zat (k:=3) uh rfl dc (zbA (by rfl) rfl) rfl rfl (zaT 0 u i)) (gE (fun D n d c u i=>zab zd6 rfl dc (zbA (by rfl) rfl) (show _=0 from rfl) (zaT 1 u i)) (gE (fun D n d c u i=>zat (k:=5) dQ rfl dc (bC 1 u d) rfl rfl (zaT 2 u i)) (gE (fun D n d c u i=>zat (k:=0) eb rfl dc (zbA (by rfl) rfl) rfl rfl (zaT 3 u i)) (gE (fun D n d c u i=>zab zd6 rfl dc (zbA (by rfl) rfl) (show _=0 from rfl) (zaT 4 u i)) (gE (fun D n d c u i=>zat (k:=5) dQ rfl dc (bC 4 u d) rfl rfl (zaT 5 u i)) (gE (fun D n d c u i=>mS rfl dc (bC 3 u d) (bC 5 u d) (oY al b0) (zaT 6 u i)) (gE (fun D n d c u i=>zbb (v:=.agg #[zI x1.At,.int .u8 c1,.int .i32 (-1),.slice none 0 0,.slice none 0 0]) (ps:=[(0,.tmp 23),(1,.tmp 27),(2,.const (.int .i32 (-1)))]) rfl dc (fF (bC 2 u d) (fF (bC 6 u d) (fF rfl qg))) (fun _=>by kernel_rfl) (zaT 7 u i)) (td io))))))))) (fun b9=>(gE (fun D n d c u i=>zat (k:=3) uh rfl dc (zbA (by rfl) rfl) rfl rfl (zaT 0 u i)) (gE (fun D n d c u i=>zab zd6 rfl dc (zbA (by rfl) rfl) (show _=0 from rfl) (zaT 1 u i)) (gE (fun D n d c u i=>zat (k:=5) dQ rfl dc (bC 1 u d) rfl rfl (zaT 2 u i)) (gE (fun D n d c u i=>zat (k:=0) eb rfl dc (zbA (by rfl) rfl) rfl rfl (zaT 3 u i)) (gE (fun D n d c u i=>zab zd6 rfl dc (zbA (by rfl) rfl) (show _=0 from rfl) (zaT 4 u i)) (gE (fun D n d c u i=>zat (k:=5) dQ rfl dc (bC 4 u d) rfl rfl (zaT 5 u i)) (gE (fun D n d c u i=>mS rfl dc (bC 3 u d) (bC 5 u d) (oY al b0) (zaT 6 u i)) (gE (fun D n d c u i=>zbb (v:=.agg #[zI x1.At,.int .u8 c1,.int .i32 (-1),.slice none 0 0,.slice none 0 0]) (ps:=[(0,.tmp 23),(1,.tmp 27),(2,.const (.int .i32 (-1)))]) rfl dc (fF (bC 2 u d) (fF (bC 6 u d) (fF rfl qg))) (fun _=>by kernel_rfl) (zaT 7 u i)) (td io)))))))))) (fun D hn hd e3=>fE (cs:=[zI x1.At,.int .u8 c1,.int .i32 (-1),.slice none 0 0,.slice none 0 0]) (te:=123) (ps:=[(0,.tmp 28)]) rfl dc (fF (jG (m:=7) kr rfl (hd 7 dc)) qg) (fun _=>by kernel_rfl) (fun b9=>fun a w ha hw=>⟨b9,FJ (by rfl) _ _ _ ha,hw⟩)) (fun b9=>vh (enc:=(kl (.i32))) (e:=21) (size:=1) (vh (enc:=(kl (.i32))) (e:=21) (size:=1) (qs (k:=4) rfl vx (fun c5 bs=>iC (k:=4) (k2:=6) (ys:=[((⟨x1.At,c1,(-1),([]:List Int),([]:List Int)⟩:cY),(eu,eu))]) eS GP o9 HG rfl dc rfl rfl rfl rfl rfl rfl (by rw[Cn bs];exact eg) (fun v1=>iq (k:=4) rfl (fun a8 en=>?_)))))))
     subst en
     exact xn (k:=9) rfl (cg [7,8] kr rfl) rfl (Gg (nest:=iv) (zs:=c5) (z:=((⟨x1.At,c1,(-1),([]:List Int),([]:List Int)⟩:cY),(eu,eu)))) (xn (k:=4) rfl (cg [9] kr rfl) rfl (xo (enc:=lN) (nest:=iv) (Gh bs)) (lm (L':=[cells b1 [.string A] 9,cells G [.map (some t)] 116,cG (fun n:Int=>aC .i32 n) (fun p:zam=>bj #[.int .i32 p.e0,.int .i32 p.e1]) t r1.2,cells B [f.v] 120,mV lN iv 123 5 a8.v (o++[(⟨x1.At,c1,(-1),([]:List Int),([]:List Int)⟩:cY)]),cells y [zI x1.At,zI x1.Width,.int .i32 x1.Rune,.bool x1.Broken] 132,cells b9 [zI x1.At,.int .u8 c1,.int .i32 (-1),.slice none 0 0,.slice none 0 0] 123]) (cj 7) (ef (k:=3) (l':=[a8.v]) GO rfl rfl rfl rfl rfl (fun _ _=>rfl) rfl (zyN (dF (bU (dG (lH (o++[(⟨x1.At,c1,(-1),([]:List Int),([]:List Int)⟩:cY)],a8) (fun U e2=>by have e9:=lK C e2;subst e9;subst J;exact h) (cj 5)))))))))
    refine bA (ct (zbp h fun j2 d4 h=>zaM (β:=Unit) 0 rfl (fun b=>j2=some r) (fun b=>[]) (fun b=>[(1,zP b1),(2,.slice none 0 0),(4,zP G),(5,zP B),(6,zP y),(17,.func (.func 154) #[] #[zP b7])]) (fun b=>[cells b1 [.string A] 9,cells G [.map (some t)] 116,cG (fun n:Int=>aC .i32 n) (fun p:zam=>bj #[.int .i32 p.e0,.int .i32 p.e1]) t r1.2,cells B [f.v] 120,mV lN iv 123 5 f.v o,cells y [zI x1.At,zI x1.Width,.int .i32 x1.Rune,.bool x1.Broken] 132]) (fun cut=>?_) ?_))
    ·refine cut (zyG (zat (k:=3) uh rfl dc rfl rfl rfl (Md (k:=4) rfl dc rfl rfl eS (zyR 1 rfl (zyH (zyR 1 rfl (zaR rfl zdV (zyR 1 rfl (zyS (s:=35) rfl h (fun h=>?_) (fun h=>?_))))))))))
     ·refine zat (k:=3) uh rfl dc rfl rfl rfl (zyR 1 rfl (zbt h fun ec h=>zaR rfl (jH (r:=(o.length:Int)-1) (ai _ ec)) (qs (k:=4) rfl vx (fun T W=>zbl h fun x2 dT h=>?_))))
      obtain⟨⟨a2,a1⟩,S⟩:=xq W dT
      refine eY (k:=4) S eS sj rfl dc rfl rfl rfl rfl (mz (i:=((o.length:Int)-1:Int).toNat) (j:=0) (k:=4) (q:=(x2,(a2,a1))) (cs:=[zI x2.at_,.int .u8 x2.broken,.int .i32 x2.base,a2.v,a1.v]) qw o9 rfl dc rfl rfl (ep S) rfl rfl rfl (qs (k:=6) rfl (xp (ep S)) (fun _ _=>zbl h fun r3 ds h=>oZ (v:=.bool r3) (vs:=[.agg #[zI x2.at_,.int .u8 x2.broken,.int .i32 x2.base,a2.v,a1.v]]) rfl dc rfl rfl rfl Ao (AN (u1:=x2) (_j:=a2) (_i:=a1) ds) [7,8] kr rfl (zyR 2 rfl (zyS (s:=43) rfl h (fun h=>?_) (fun h=>?_))))))
      ·refine zab pZ rfl dc rfl (show _=2 from rfl) (zat (k:=5) eP rfl dc rfl rfl rfl (zbt h fun c0 h=>zaI (v:=zI (kind x1.Rune)) (vs:=[.int .i32 x1.Rune]) rfl dc rfl rfl rfl CS (mw fun w=>xL x1.Rune w c0.1 c0.2) (zaR rfl zbe (zyR 1 rfl (zyN (zyB rfl h (fun h=>?_) (fun h=>?_)))))))
       ·refine zaL (Mz (k:=6) rfl (cg [7,8] kr rfl) rfl (ue (nest:=iv) (ep S) rfl) (zbt h fun d9 h=>zbl h fun x3 dn h=>?_))
        obtain⟨⟨et,es⟩,a0⟩:=xq W dn
        refine zbl h fun r4 dj h=>zdb 6 [(0,49,f.v),(1,50,zI (o.length:Int)),(2,51,zI ((o.length:Int)-1)),(3,52,.pointer (some ⟨gn f.v,((o.length:Int)-1:Int).toNat*5,none⟩)),(4,53,.pointer (some ⟨y,2,none⟩)),(5,54,.int .i32 x1.Rune)] mixed kr kr dc (by rfl) kr kr (zae (fun D n d c u i=>zat (k:=3) uh rfl dc (zbA (by rfl) rfl) rfl rfl (zaT 0 u i)) (zyP 1 1 rfl (zae (fun D n d c u i=>lU rfl dc (bC 1 u d) rfl (jH (r:=(o.length:Int)-1) (ai _ d9)) (zaT 2 u i)) (zae (fun D n d c u i=>eY (k:=4) a0 eS sj rfl dc (bC 0 u d) (bC 2 u d) rfl rfl (zaT 3 u i)) (zae (fun D n d c u i=>zab pZ rfl dc (zbA (by rfl) rfl) (show _=2 from rfl) (zaT 4 u i)) (zae (fun D n d c u i=>zat (k:=5) eP rfl dc (bC 4 u d) rfl rfl (zaT 5 u i)) bW.nil)))))) (qs (k:=6) rfl (xp (ep a0)) (fun _ _=>zbJ (vs:=[.pointer (some ⟨gn f.v,((o.length:Int)-1:Int).toNat*5,none⟩),.int .i32 x1.Rune]) rfl dc rfl rfl rfl Hk (H5 (_r:=f.v) (u1:=x3) (_j:=et) (_i:=es) (ep a0) dj) (cg [4,9,10] kr rfl) ?_))
        rintro⟨Y,X⟩
        exact lm (L':=[cells b1 [.string A] 9,cells G [.map (some t)] 116,cG (fun n:Int=>aC .i32 n) (fun p:zam=>bj #[.int .i32 p.e0,.int .i32 p.e1]) t r1.2,cells B [f.v] 120,mZ f.v (T.set (((o.length:Int)-1:Int).toNat) (r4,(Y,X))),cells y [zI x1.At,zI x1.Width,.int .i32 x1.Rune,.bool x1.Broken] 132,own iv (T.eraseIdx (((o.length:Int)-1:Int).toNat)),cy,cy,cy,cy,er Y.v r4.low,er X.v r4.high]) (cg [0,1,2,3,11,5,6,7,8,9,10,12,13] kr rfl) (xn (k:=6) rfl (cg [11,12] kr rfl) rfl (ue (nest:=iv) (zs:=T) (z:=(r4,(Y,X))) (MB (ep a0)) MC) (lm (L':=[cells b1 [.string A] 9,cells G [.map (some t)] 116,cG (fun n:Int=>aC .i32 n) (fun p:zam=>bj #[.int .i32 p.e0,.int .i32 p.e1]) t r1.2,cells B [f.v] 120,mZ f.v (T.set (((o.length:Int)-1:Int).toNat) (r4,(Y,X))),cells y [zI x1.At,zI x1.Width,.int .i32 x1.Rune,.bool x1.Broken] 132,own iv (T.set (((o.length:Int)-1:Int).toNat) (r4,(Y,X))),cy,cy]) (cj 9) (zyN (dF (bU (dG (tj (k:=4) rfl (cg [6] kr rfl) rfl (xo (enc:=lN) (nest:=iv) (MA W)) (lH (o.set ((o.length:Int)-1:Int).toNat r4,f) (fun U e2=>by have e9:=lK C e2;subst e9;subst J;exact h) (cj 5)))))))))
       exact bA (tj (k:=6) rfl (cg [7,8] kr rfl) rfl (ue (nest:=iv) (ep S) rfl) (tj (k:=4) rfl (cg [6] kr rfl) rfl (xo (enc:=lN) (nest:=iv) W) (mD () h 6)))
      exact zyR 5 rfl (zyN (eh rfl (bA (tj (k:=6) rfl (cg [7,8] kr rfl) rfl (ue (nest:=iv) (ep S) rfl) (tj (k:=4) rfl (cg [6] kr rfl) rfl (xo (enc:=lN) (nest:=iv) W) (mD () h 6))))))
     exact zyR 13 rfl (bG (ct (eh rfl (bA (mD () h 6)))))
    rintro _ h
    rw[d4] at h
    refine zbp h fun j3 d3 h=>zaM (β:=Int×Int×Int×(List Int)×(List Int)×Nat×Hd×Hd) 1 rfl (fun b=>j3 b.1 b.2.1 b.2.2.1 b.2.2.2.1 b.2.2.2.2.1=some r) (fun b=>[]) (fun b=>[(1,zP b1),(2,.slice none 0 0),(4,zP G),(5,zP B),(8,zP b.2.2.2.2.2.1),(17,.func (.func 154) #[] #[zP b7])]) (fun b=>[cells b1 [.string A] 9,cells G [.map (some t)] 116,cG (fun n:Int=>aC .i32 n) (fun p:zam=>bj #[.int .i32 p.e0,.int .i32 p.e1]) t r1.2,cells B [f.v] 120,mV lN iv 123 5 f.v o,cells b.2.2.2.2.2.1 [zI b.1,.int .u8 b.2.1,.int .i32 b.2.2.1,b.2.2.2.2.2.2.1.v,b.2.2.2.2.2.2.2.v] 123,er b.2.2.2.2.2.2.1.v b.2.2.2.1,er b.2.2.2.2.2.2.2.v b.2.2.2.2.1]) (fun cut=>?_) ?_
    ·refine zyG (zab zd6 rfl dc rfl (show _=0 from rfl) (zat (k:=5) dQ rfl dc rfl rfl rfl (zab pZ rfl dc rfl (show _=2 from rfl) (zat (k:=5) eP rfl dc rfl rfl rfl (zbb (v:=.agg #[zI x1.At,.int .u8 0,.int .i32 x1.Rune,.slice none 0 0,.slice none 0 0]) (ps:=[(0,.tmp 57),(2,.tmp 59)]) rfl dc rfl (fun _=>by kernel_rfl) (zbk Ag rfl dc (fun H=>eK (k:=6) (vs:=[zI x1.At,.int .u8 0,.int .i32 x1.Rune,.slice none 0 0,.slice none 0 0]) (l':=[zI x1.At,.int .u8 0,.int .i32 x1.Rune,.slice none 0 0,.slice none 0 0]) sj rfl rfl rfl rfl rfl (show _≤_ by simp) rfl rfl (zyN (cut (zyG (zbT (k:=6) (cs:=[zI x1.At,.int .u8 0,.int .i32 x1.Rune,.slice none 0 0,.slice none 0 0]) qw rfl dc rfl rfl rfl rfl (vh (enc:=(kl (.i32))) (e:=21) (size:=1) (vh (enc:=(kl (.i32))) (e:=21) (size:=1) (zbl h fun r5 di h=>oZ (v:=.bool r5) (vs:=[.agg #[zI x1.At,.int .u8 0,.int .i32 x1.Rune,.slice none 0 0,.slice none 0 0]]) rfl dc rfl rfl rfl Ao (AN (u1:=(⟨x1.At,0,x1.Rune,([]:List Int),([]:List Int)⟩:cY)) (_j:=eu) (_i:=eu) di) [7,8] kr rfl (zyN (zyB rfl h (fun h=>?_) (fun h=>?_)))))))))))))))))
     ·refine zyG (zat (k:=1) Ad rfl dc rfl rfl rfl (zab pZ rfl dc rfl (show _=2 from rfl) (zat (k:=5) eP rfl dc rfl rfl rfl (zbl h fun r6 ch h=>zbJ (vs:=[.map (some t),.int .i32 x1.Rune]) rfl dc rfl rfl rfl CR (H6 ch) (cg [2] kr rfl) (fun v2=>lm (L':=[cells b1 [.string A] 9,cells G [.map (some t)] 116,cG (fun n:Int=>aC .i32 n) (fun p:zam=>bj #[.int .i32 p.e0,.int .i32 p.e1]) t r1.2,cells B [f.v] 120,mV lN iv 123 5 f.v o,cells y [zI x1.At,zI x1.Width,.int .i32 x1.Rune,.bool x1.Broken] 132,cells H [zI x1.At,.int .u8 0,.int .i32 x1.Rune,.slice none 0 0,.slice none 0 0] 123,er (.slice none 0 0) ([]:List Int),er (.slice none 0 0) ([]:List Int),er v2 r6]) (cg [0,1,9,3,4,5,6,7,8,10] kr rfl) (iq (k:=9) rfl (fun a5 em=>?_)))))))
      subst em
      refine zyR 1 rfl (zyH (zyR 1 rfl (zbl h fun q1 a4 h=>eY (k:=9) a4 bo k6 rfl dc rfl rfl rfl rfl (fW (i:=(0:Int).toNat) (j:=0) (k:=9) (q:=q1) eP jI rfl dc rfl rfl (ep a4) rfl dc rfl (zab zgo rfl dc rfl (show _=2 from rfl) (ef (k:=6) (l':=[zI x1.At,.int .u8 0,.int .i32 q1,.slice none 0 0,.slice none 0 0]) k6 rfl rfl rfl rfl rfl (fun _ _=>rfl) rfl (zyH (zyR 1 rfl (kj (k:=9) rfl (fun dd=>zbt h fun d8 h=>?_))))))))))
      obtain⟨v3,a7,df⟩:=om (lo:=some (zI 1)) (hi:=none) dd bo k6 (.inr rfl) (.inl ⟨rfl,rfl⟩) d8
      refine ia rfl dc rfl rfl rfl df (zbV a7 rfl dc rfl bo (zyR 1 rfl (zyN (zau (mU (enc:=(kl (.i32))) (e:=21) (size:=1) (mU (enc:=(kl (.i32))) (e:=21) (size:=1) (eO (β:=Nat×Int×Int×Int×(List Int)×(List Int)×Int×Hd×Hd) (fun b=>zaC (fun _ _ _ _ _ _=>none) (zez j3 r6) b.1 b.2.1 b.2.2.1 b.2.2.2.1 b.2.2.2.2.1 b.2.2.2.2.2.1 b.2.2.2.2.2.2.1=some r) (fun b=>[]) (fun b=>[(1,zP b1),(2,.slice none 0 0),(4,zP G),(5,zP B),(8,zP H),(17,.func (.func 154) #[] #[zP b7]),(72,v3),(73,zI ((dM r6 1 (r6.length:Int)).length:Int)),(74,zI b.2.2.2.2.2.2.1)]) (fun b=>[cells b1 [.string A] 9,cells G [.map (some t)] 116,cG (fun n:Int=>aC .i32 n) (fun p:zam=>bj #[.int .i32 p.e0,.int .i32 p.e1]) t r1.2,cells B [f.v] 120,mV lN iv 123 5 f.v o,cells H [zI b.2.1,.int .u8 b.2.2.1,.int .i32 b.2.2.2.1,b.2.2.2.2.2.2.2.1.v,b.2.2.2.2.2.2.2.2.v] 123,er b.2.2.2.2.2.2.2.1.v b.2.2.2.2.1,er b.2.2.2.2.2.2.2.2.v b.2.2.2.2.2.1,er a5.v r6]) (fun b=>b.1) (zbC,x1.At,0,q1,([]:List Int),([]:List Int),0,eu,eu) h rfl (bE rfl) (cg [0,1,2,3,4,6,10,11,9] kr rfl) ?_)))))))
      rintro⟨n1,P,O,N,M,L,x6,F,E⟩ h
      cases n1 with
      |zero=>exact eG h
      |succ n1=>
       obtain⟨ez,a6⟩:∃ag,ag=zaC (fun _ _ _ _ _ _=>none) (zez j3 r6) n1:=⟨_,rfl⟩
       have h:zez j3 r6 ez P O N M L x6=some r:=by rw[a6];exact h
       unfold zez at h
       refine zyG (zaR rfl zbi (zyN (zaL (zyB rfl h (fun h=>?_) (fun h=>?_)))))
       ·refine bA (ct (zaL (zau (zyG (zbl h fun q2 a3 h=>fm a7 a3 bo k6 rfl dc rfl rfl rfl (fW (i:=0+(1:Int).toNat+(x6:Int).toNat) (j:=0) (k:=8) (q:=q2) eP jI rfl dc rfl rfl (bX a7 a3) rfl dc rfl (zyR 1 rfl (zyN (bV (zyR 1 rfl (mA (enc:=lN) [((⟨P,O,N,M,L⟩:cY),(F,E))] (k:=5) rfl o9 rfl (show 1≤maxLen by decide) (zbl h fun r7 cc h=>zbJ (vs:=[zP H,.int .i32 q2]) rfl dc rfl rfl rfl Hk (H5 (_r:=(.slice (some ⟨H,0,none⟩) 1 1)) (u1:=(⟨P,O,N,M,L⟩:cY)) (_j:=F) (_i:=E) (show [((⟨P,O,N,M,L⟩:cY),(F,E))][0]?=some ((⟨P,O,N,M,L⟩:cY),(F,E)) from rfl) cc) (cg [5,6,7] kr rfl) ?_))))))))))))
        rintro⟨aw,ao⟩
        refine lm (L':=[cells b1 [.string A] 9,cells G [.map (some t)] 116,cG (fun n:Int=>aC .i32 n) (fun p:zam=>bj #[.int .i32 p.e0,.int .i32 p.e1]) t r1.2,cells B [f.v] 120,mV lN iv 123 5 f.v o,mZ (.slice (some ⟨H,0,none⟩) 1 1) [(r7,(aw,ao))],cy,cy,er a5.v r6,er aw.v r7.low,er ao.v r7.high]) (cg [0,1,2,3,4,9,6,7,8,10,11] kr rfl) (pX (k:=5) rfl (MF o9) (bG (ca (ct (bV (zbt h fun d7 h=>zaR rfl (dE (r:=x6+1) (ai _ d7)) (zyR 1 rfl (bG ?_))))))))
        subst a6
        exact ni (n1,r7.at_,r7.broken,r7.base,r7.low,r7.high,x6+1,aw,ao) h (Nat.lt_succ_self _) rfl (bE rfl) (cg [0,1,2,3,4,5,9,10,8] kr rfl)
       exact dF (bU (bU (dG (mD (P,O,N,M,L,H,F,E) h 8))))
     exact bA (xe (enc:=(kl (.i32))) (e:=21) (size:=1) (xe (enc:=(kl (.i32))) (e:=21) (size:=1) (cH (x1.At,0,x1.Rune,([]:List Int),([]:List Int),H,eu,eu) h rfl (bE rfl) (cg [0,1,2,3,4,6,9,10] kr rfl))))
    rintro⟨u1,u2,u3,u4,u5,ey,R,Q⟩ h
    rw[d3] at h
    refine bV (zat (k:=3) uh rfl dc rfl rfl rfl (zbT (k:=5) (cs:=[zI u1,.int .u8 u2,.int .i32 u3,R.v,Q.v]) qw rfl dc rfl rfl rfl rfl (fE (cs:=[zI u1,.int .u8 u2,.int .i32 u3,R.v,Q.v]) (te:=123) (ps:=[(0,.tmp 82)]) rfl dc rfl (fun _=>by kernel_rfl) (fun ex=>qs (k:=4) rfl vx (fun c4 bk=>zbt h fun d6 h=>iC (k:=4) (k2:=8) (ys:=[((⟨u1,u2,u3,u4,u5⟩:cY),(R,Q))]) eS GP o9 HG rfl dc rfl rfl rfl rfl rfl rfl (by rw[Cn bk];exact d6) (fun v4=>iq (k:=4) rfl (fun Z ek=>?_)))))))
    subst ek
    exact xn (k:=9) rfl (cg [6,7] kr rfl) rfl (Gg (nest:=iv) (zs:=c4) (z:=((⟨u1,u2,u3,u4,u5⟩:cY),(R,Q)))) (xn (k:=4) rfl (cg [9] kr rfl) rfl (xo (enc:=lN) (nest:=iv) (Gh bk)) (lm (L':=[cells b1 [.string A] 9,cells G [.map (some t)] 116,cG (fun n:Int=>aC .i32 n) (fun p:zam=>bj #[.int .i32 p.e0,.int .i32 p.e1]) t r1.2,cells B [f.v] 120,mV lN iv 123 5 Z.v (o++[(⟨u1,u2,u3,u4,u5⟩:cY)]),cells ey [zI u1,.int .u8 u2,.int .i32 u3,R.v,Q.v] 123,cy,cy,cells ex [zI u1,.int .u8 u2,.int .i32 u3,R.v,Q.v] 123]) (cj 9) (ef (k:=3) (l':=[Z.v]) GO rfl rfl rfl rfl rfl (fun _ _=>rfl) rfl (bG (ca (lH (o++[(⟨u1,u2,u3,u4,u5⟩:cY)],Z) (fun U e2=>by have e9:=lK C e2;subst e9;subst J;exact h) (cj 5)))))))
   ·rintro bb ⟨o,f⟩ I
    have h:a9 o=some r:=I [] (aE _).symm
    rw[c3] at h
    show TX _ _ _ _ _ _ _ [zhW ((([]:List Nat):List Nat).map fx),cy,cG (fun p:zam=>bj #[.int .i32 p.e0,.int .i32 p.e1]) (fun n:Int=>aC .i32 n) b3 r1.1,cy,cy,cy,cells b7 [.string r2] 9,cy,cells b1 [.string A] 9,cells G [.map (some t)] 116,cG (fun n:Int=>aC .i32 n) (fun p:zam=>bj #[.int .i32 p.e0,.int .i32 p.e1]) t r1.2,cells B [f.v] 120,mV lN iv 123 5 f.v o,fx bb]
    exact rU (k:=13) (j:=0) rfl rfl dc (ca (cH (o,B,f,bb::([]:List Nat)) h rfl (bE rfl) (cg [11,12,0] kr rfl)))
   exact fun bb c pre x1 post g eM hX=>(show False from hX).elim
  rintro⟨l1,b2,eq,ds1⟩ h
  rw[d5] at h
  refine zyG (zat (k:=0) uh rfl dc rfl rfl rfl (zyR 1 rfl (zyN (zaz (zN (by simp) ?_)))))
  cases h
  exact lj (rs:=[.tmp 2]) ds1 eq.v (.inl rfl) (lg (k:=2) rfl) results76 (.cons (.tmp rfl) .nil) rfl (cg [1] kr rfl)
 exact fun b hb=>hb.elim
def kG (b:ae):Int:=((b.data.toList.headD 0).toNat:Int)
def fr (c:bc×List bc):cY:=if c.1.Rune<0 then ⟨c.1.At,kG c.1.Text,-1,[],[]⟩ else ⟨c.1.At,0,c.1.Rune,(loI c.2).map (·.Rune),(hiI c.2).map (·.Rune)⟩
def ju (u:cY) (r:Int):cY:=if mG r then ⟨u.at_,u.broken,u.base,u.low++[r],u.high⟩ else ⟨u.at_,u.broken,u.base,u.low,u.high++[r]⟩
theorem Iz (u:cY) (r:Int) (h1:u.low.length≤2000000000) (h2:u.high.length≤2000000000):wk u r=some (ju u r):=by
 unfold wk
 refine bf (PZ r) ?_
 unfold ju
 cases mG r with
 |true=>exact bQ rfl (gO rfl)
 |false=>exact bM rfl (gO rfl)
theorem IA (x:bc) (hx:0≤x.Rune) (a:List bc) (y:bc):ju (fr (x,a)) y.Rune=fr (x,a++[y]):=by
 unfold ju fr loI hiI
 simp only[ap (show ¬x.Rune<0 by omega),List.filter_append]
 show (if mf y then _ else _)=_
 cases h:mf y<;>simp[h]
theorem QL (u:cY) (a:List Int) (c:List Int) (b:Int) (hr:c=b::a) (f:u.low.length+u.high.length+a.length≤1000000000) (J:Int→Int→Int→(List Int)→(List Int)→Option (List cY)) :
  zaC (fun _ _ _ _ _ _=>none) (zez J c) zbC u.at_ u.broken u.base u.low u.high 0=J (a.foldl ju u).at_ (a.foldl ju u).broken (a.foldl ju u).base (a.foldl ju u).low (a.foldl ju u).high:=by
 have hc:dM c 1 (c.length:Int)=a:=by
  subst hr;unfold dM;simp
 have key:∀ (n k:Nat) (u:cY),k≤a.length→a.length-k<n→u.low.length+u.high.length+(a.length-k)≤1000000000 →
   zaC (fun _ _ _ _ _ _=>none) (zez J c) n u.at_ u.broken u.base u.low u.high (k:Int)=J ((a.drop k).foldl ju u).at_ ((a.drop k).foldl ju u).broken ((a.drop k).foldl ju u).base ((a.drop k).foldl ju u).low ((a.drop k).foldl ju u).high:=by
  intro n
  induction n with
  |zero=>intro k u _ h;omega
  |succ n d=>
   intro k u hk e hb
   rw[fX]
   generalize zaC (fun _ _ _ _ _ _=>none) (zez J c) n=ag at d ⊢
   unfold zez
   rw[hc]
   by_cases h:k<a.length
   ·have hx:a[k]?=some a[k]:=aO h
    refine bQ (mE hx) (bf (lX hx) (bf (Iz u _ (by omega) (by omega)) (zdG (jt (by omega)) ?_)))
    have hm:(ju u a[k]).low.length+(ju u a[k]).high.length=u.low.length+u.high.length+1:=by
     unfold ju;split<;>simp<;>omega
    have:=d (k+1) (ju u a[k]) (by omega) (by omega) (by omega)
    push_cast at this
    rw[this,bB h];rfl
   ·have:k=a.length:=by omega
    subst this
    exact bM me (by rw[gg];rfl)
 have:=key zbC 0 u (cm _) (by have:=kF (n:=a.length) (by omega);omega) (by omega)
 simpa using this
def ob (s:ae) (l:List cY) (p:cT):List cY :=
 if p.Broken then l++[⟨p.At,(jz s p.At).getD 0,-1,[],[]⟩]
 else match l.getLast? with
  |some u=>if cW u.base&&eE p.Rune then l.set (l.length-1) (ju u p.Rune) else l++[if cW p.Rune then (ic p.Rune).tail.foldl ju ⟨p.At,0,(ic p.Rune).headD 0,[],[]⟩ else ⟨p.At,0,p.Rune,[],[]⟩]
  |none=>l++[if cW p.Rune then (ic p.Rune).tail.foldl ju ⟨p.At,0,(ic p.Rune).headD 0,[],[]⟩ else ⟨p.At,0,p.Rune,[],[]⟩]
def AV (k:Nat) (l:List cY):Prop:=l.length≤k∧∀u∈l,u.low.length+u.high.length≤3*k∧fl u.base
theorem IB (u:cY) (r:Int):(ju u r).low.length+(ju u r).high.length=u.low.length+u.high.length+1∧(ju u r).base=u.base:=by
 unfold ju;split<;>simp<;>omega
theorem QM (a:List Int):∀u:cY,(a.foldl ju u).low.length+(a.foldl ju u).high.length=u.low.length+u.high.length+a.length∧(a.foldl ju u).base=u.base:=by
 induction a with
 |nil=>intro u;simp
 |cons m a b=>intro u;have:=b (ju u m);have h2:=IB u m;rw[bn];simp only[ab];constructor;omega;rw[this.2,h2.2]
theorem IC (p:cT) (hp:fl p.Rune) (k:Nat):((if cW p.Rune then (ic p.Rune).tail.foldl ju ⟨p.At,0,(ic p.Rune).headD 0,[],[]⟩ else ⟨p.At,0,p.Rune,[],[]⟩:cY).low.length+(if cW p.Rune then (ic p.Rune).tail.foldl ju ⟨p.At,0,(ic p.Rune).headD 0,[],[]⟩ else ⟨p.At,0,p.Rune,[],[]⟩:cY).high.length≤3*(k+1))∧fl (if cW p.Rune then (ic p.Rune).tail.foldl ju ⟨p.At,0,(ic p.Rune).headD 0,[],[]⟩ else ⟨p.At,0,p.Rune,[],[]⟩:cY).base:=by
 cases h:cW p.Rune with
 |false=>simp only[bg,if_false];exact⟨by simp,hp⟩
 |true=>
  simp only[if_true]
  have h1:=QM (ic p.Rune).tail ⟨p.At,0,(ic p.Rune).headD 0,[],[]⟩
  have h2:=DE p.Rune
  have h3:(ic p.Rune).tail.length≤2:=by rw[List.length_tail];omega
  refine⟨by rw[h1.1];simp;omega,?_⟩
  rw[h1.2]
  have c:=AR hp
  cases a:ic p.Rune with
  |nil=>rw[a] at h2;simp at h2
  |cons b d=>exact c b (by rw[a];exact aq ..)
theorem QN (s:ae) (k:Nat) (p:cT) (l:List cY) (hp:fl p.Rune) (h:AV k l):AV (k+1) (ob s l p):=by
 obtain⟨h1,h2⟩:=h
 have a:∀u:cY,(u.low.length+u.high.length≤3*(k+1)∧fl u.base)→AV (k+1) (l++[u]):=fun u hu=>⟨by simp;omega,fun v hv=>by
  rcases bH.1 hv with hv|hv
  ·have:=h2 v hv;exact⟨by omega,this.2⟩
  ·simp at hv;subst hv;exact hu⟩
 unfold ob
 split
 ·exact a _ ⟨by simp,(show fl (-1) from ⟨by omega,by omega⟩)⟩
 ·split
  ·rename_i u hu
   split
   ·have hm:=qh hu
    refine⟨by simp;omega,fun v hv=>?_⟩
    rcases List.mem_or_eq_of_mem_set hv with hv|rfl
    ·have:=h2 v hv;exact⟨by omega,this.2⟩
    ·have:=h2 u hm;have h3:=IB u p.Rune;exact⟨by omega,by rw[h3.2];exact this.2⟩
   ·exact a _ (IC p hp k)
  ·exact a _ (IC p hp k)
theorem QO (s:ae) (H:s.size≤65536):tE s=some (((eA s.data.toList).map gv).foldl (ob s) []):=by
 unfold tE
 refine cA (bf H8 (bf (a:=s) rfl (bf (yC s (by omega)) (cA ?_))))
 have hc:=p6 s
 have hr:∀p∈(eA s.data.toList).map gv,fl p.Rune∧(p.Broken=true→jz s p.At=some ((jz s p.At).getD 0)):=by
  intro p hp
  obtain⟨q,c,rfl⟩:=aS.1 hp
  obtain⟨J,I,g⟩:=uj s.data.toList q c
  have hv:=g.valid
  have j:s.data.toList.length=s.size:=by rw[dJ];rfl
  refine⟨⟨by simp only[gv];omega,by simp only[gv];omega⟩,fun _=>?_⟩
  have G:=g.pos
  rw[show (gv q).At=(q.i:Int) from rfl,B8 (n:=q.i) rfl (by omega)];rfl
 have key:∀ (ps:List cT) (k:Nat) (l:List cY),AV k l→k+ps.length≤65536→(∀p∈ps,fl p.Rune∧(p.Broken=true→jz s p.At=some ((jz s p.At).getD 0)))→zdw (some:List cY→_) (zfE s (iM,tabS)) ps l=some (ps.foldl (ob s) l):=by
  intro ps
  induction ps with
  |nil=>intro k l _ _ _;rfl
  |cons p ps D=>
   intro k l hb hk hp
   obtain⟨e,r⟩:=hp p (aq ..)
   obtain⟨v,m⟩:=hb
   simp only[ab] at hk
   rw[nI,bn,←D (k+1) (ob s l p) (QN s k p l e ⟨v,m⟩) (by omega) (fun q c=>hp q (ak _ c))]
   generalize zdw (some:List cY→_) (zfE s (iM,tabS)) ps=ag
   unfold zfE ob
   cases hB:p.Broken with
   |true=>exact bQ rfl (bf (r hB) (gO (by simp)))
   |false=>
    simp only[bg,if_false]
    refine bM rfl (cA ?_)
    have d:(cn (fun (w:Int→Int→Int→(List Int)→(List Int)→Option (List cY))=>
      aT (sB (⟨p.At,0,p.Rune,([]:List Int),([]:List Int)⟩:cY)) fun (B:Bool)=>
      aM (B) (aT (uy (iM,tabS).2 p.Rune) fun (f:(List Int))=>
       aT (zcx f 0) fun (q1:Int)=>aU (0≤(1:Int)∧(1:Int)≤(f.length:Int)∧((f.length:Int):Int)≤(f.length:Int)) <|
       zaC (fun _ _ _ _ _ _=>none) (zez w f) zbC p.At 0 q1 ([]:List Int) ([]:List Int) 0) (w p.At 0 p.Rune ([]:List Int) ([]:List Int)))
      (fun (u1:Int) (A:Int) (z:Int) (y:List Int) (x:List Int)=>aU (l.length+1≤2147483648)<|ag (l++[(⟨u1,A,z,y,x⟩:cY)]))) =
      ag (l++[if cW p.Rune then (ic p.Rune).tail.foldl ju ⟨p.At,0,(ic p.Rune).headD 0,[],[]⟩ else ⟨p.At,0,p.Rune,[],[]⟩]):=by
     refine cA (bf (AP _ e) ?_)
     show aM (cW p.Rune) _ _=_
     cases hL:cW p.Rune with
     |false=>exact bM rfl (gO (by simp))
     |true=>
      obtain⟨b,C,c,_,_,_,E⟩:=tC hL
      refine bQ rfl (bf (Qq _) (bf (a:=b) (by rw[c];rfl) (zdG (by rw[c];simp only[ab];omega) ?_)))
      refine (QL (⟨p.At,0,b,[],[]⟩:cY) C (ic p.Rune) b c (by simp;omega) _).trans (gO ?_)
      rw[c];simp
    cases o:l.getLast? with
    |none=>
     have:l=[]:=List.getLast?_eq_none_iff.1 o
     subst this
     exact bM (by decide) d
    |some u=>
     have t:l≠[]:=by intro h;subst h;cases o
     have j:0<l.length:=List.length_pos_iff.2 t
     have hm:=qh o
     have hu:=m u hm
     have hg:zcx l ((l.length:Int)-1)=some u:=zO (n:=l.length-1) (by omega) (by rw[←List.getLast?_eq_getElem?];exact o)
     refine eW (gO (bf hg (bf (AP u hu.2) ?_)))
     cases hL:cW u.base with
     |false=>exact bM rfl (by simpa [hL] using d)
     |true=>
      refine bQ rfl (zdG e ?_)
      rw[Ib]
      cases F:eE p.Rune with
      |false=>exact bM rfl (by simpa [hL,F] using d)
      |true=>
       refine bQ rfl (gO (bf hg (bf (Iz u _ (by omega) (by omega)) ?_)))
       simp only[Bool.and_self,if_true]
       rw[show ((l.length:Int)-1).toNat=l.length-1 by omega]
       simp[hL]
 have:=key ((eA s.data.toList).map gv) 0 [] ⟨by simp,by simp⟩ (by simp;omega) hr
 exact this
theorem ID {s:ae} {p:Pc} (hp:p∈eA s.data.toList):(p.broken=true→(itG s p).Rune=-1∧(itG s p).Text.size=1∧kG (itG s p).Text=(jz s p.i).getD 0)∧(p.broken=false→(itG s p).Rune=p.r∧(itG s p).Text=ac (p.r:Int)):=by
 obtain⟨h,g,b⟩:=uj s.data.toList p hp
 have d:s.data.toList.length=s.size:=by rw[dJ];rfl
 have hf:=Is hp
 have f:=b.pos
 constructor
 ·intro hb
  have a:p.w=1:=by unfold Pc.broken at hb;simp at hb;exact hb.2
  refine⟨by simp[itG,hb],by simp[itG,a];omega,?_⟩
  have e:(itG s p).Text.data.toList=(s.data.toList.drop p.i).take p.w:=by
   show (s.extract p.i (p.i+p.w)).data.toList=_
   rw[mP];simp
  unfold kG
  rw[e,a,B8 (n:=p.i) rfl (by omega)]
  have hi:p.i<s.data.toList.length:=by omega
  rw[bB hi]
  simp
  rfl
 ·intro hb
  refine⟨by simp[itG,hb],?_⟩
  have c:¬(p.r=65533∧p.w=1):=by
   unfold Pc.broken at hb;simpa using hb
  apply _root_.ByteArray.ext;apply fv.1
  show (s.extract p.i (p.i+p.w)).data.toList=_
  rw[mP]
  have h1:=b.bytes c
  rw[mW,h1]
  simp
theorem QP (a:Option (bc×List bc)) (x:bc) (xs:List bc) (h:∀c,a=some c→(dI c.1&&isM x)=false):fH a (x::xs)=a.toList++fH (some (x,[])) xs:=by
 cases a with
 |none=>rfl
 |some c=>
  show (if dI c.1&&isM x then fH (some (c.1,c.2++[x])) xs else c::fH (some (x,[])) xs)=_
  rw[h c rfl];rfl
theorem AW (x:bc) (hx:dI x=true) (xs:List bc):∀ (a ks:List bc),(∀m∈a,isM m=true)→fH (some (x,ks)) (a++xs)=fH (some (x,ks++a)) xs
 |[],ks,_=>by simp
 |m::a,ks,h=>by
  rw[bq]
  show (if dI x&&isM m then fH (some (x,ks++[m])) (a++xs) else _)=_
  rw[hx,h m (aq ..)]
  simp only[Bool.and_self,if_true]
  rw[AW x hx xs a (ks++[m]) (fun z hz=>h z (ak _ hz))]
  simp
theorem IE (x:bc) (hx:0≤x.Rune):∀ (a ks:List bc),(a.map (·.Rune)).foldl ju (fr (x,ks))=fr (x,ks++a)
 |[],ks=>by simp
 |m::a,ks=>by
  rw[av,bn,IA x hx,IE x hx a];simp
theorem DO (c:bc×List bc) (h:0≤c.1.Rune):(fr c).base=c.1.Rune:=by
 unfold fr;rw[ap (by omega)]
theorem IF (c:bc×List bc):cW (fr c).base=dI c.1:=by
 unfold fr dI
 split
 ·rename_i h
  have h1:cW (-1)=false:=by decide
  have h2:cW c.1.Rune=false:=by
   cases e:cW c.1.Rune with
   |false=>rfl
   |true=>have:=(mF _ e).1;omega
  rw[h2];exact h1
 ·rfl
theorem IG (s:ae):∀ (ps:List Pc) (a:Option (bc×List bc)) (L:List cY),(∀p∈ps,p∈eA s.data.toList)→(a=none→L=[]) →
  (ps.map gv).foldl (ob s) (L++a.toList.map fr)=L++(fH a (apL (ps.map (itG s)))).map fr
 |[],a,L,_,_=>by
  cases a<;>simp[apL,fH]
 |p::ps,a,L,hp,hcur=>by
  rw[av,bn,av]
  have D:apL (itG s p::ps.map (itG s))=jd (itG s p)++apL (ps.map (itG s)):=by unfold apL;rw[aK]
  rw[D]
  obtain⟨A,t⟩:=ID (hp p (aq ..))
  have tail:=fun w L' hc=>IG s ps w L' (fun q y=>hp q (ak _ y)) hc
  have hv:p.broken=false→0≤(itG s p).Rune:=fun h=>by rw[(t h).1];omega
  have l:∀ (x:bc) (d:List bc),(dI x=false→d=[])→(∀m∈d,isM m=true)→(∀c,a=some c→(dI c.1&&isM x)=false)→ob s (L++a.toList.map fr) (gv p)=(L++a.toList.map fr)++[fr (x,d)]→jd (itG s p)=x::d →
    (ps.map gv).foldl (ob s) (ob s (L++a.toList.map fr) (gv p))=L++(fH a (jd (itG s p)++apL (ps.map (itG s)))).map fr:=by
   intro x d h1 h2 h3 M h5
   rw[M,h5,bq,QP a x _ h3]
   have K:fH (some (x,[])) (d++apL (ps.map (itG s)))=fH (some (x,d)) (apL (ps.map (itG s))):=by
    cases hx:dI x with
    |true=>rw[AW x hx _ d [] h2];rfl
    |false=>rw[h1 hx];rfl
   have:=tail (some (x,d)) (L++a.toList.map fr) (by simp)
   rw[show (L++a.toList.map fr)++[fr (x,d)]=(L++a.toList.map fr)++(some (x,d)).toList.map fr from rfl,this,K]
   simp
  cases hB:p.broken with
  |true=>
   obtain⟨e1,e2,N⟩:=A hB
   have hL:dI (itG s p)=false:=by unfold dI;rw[e1];decide
   have J:isM (itG s p)=false:=by unfold isM;rw[e1];decide
   refine l (itG s p) [] (fun _=>rfl) (by simp) (fun c _=>by rw[J,Bool.and_false]) ?_ (by unfold jd;rw[hL];rfl)
   unfold ob
   rw[show (gv p).Broken=true from hB]
   simp only[if_true]
   have:fr (itG s p,[])=⟨(itG s p).At,kG (itG s p).Text,-1,[],[]⟩:=by unfold fr;rw[ax (by rw[e1];omega)]
   rw[this,N];rfl
  |false=>
   obtain⟨e1,e2⟩:=t hB
   have h0:0≤(itG s p).Rune:=hv hB
   have j:(gv p).Rune=(itG s p).Rune:=by rw[e1];rfl
   have f:∃x d,jd (itG s p)=x::d∧(dI x=false→d=[])∧(∀m∈d,isM m=true)∧dI x=dI (itG s p)∧isM x=isM (itG s p) ∧
     (if cW (gv p).Rune then (ic (gv p).Rune).tail.foldl ju ⟨(gv p).At,0,(ic (gv p).Rune).headD 0,[],[]⟩ else ⟨(gv p).At,0,(gv p).Rune,[],[]⟩)=fr (x,d):=by
    rw[j]
    cases hL:dI (itG s p) with
    |false=>
     have i:cW (itG s p).Rune=false:=hL
     refine⟨itG s p,[],by unfold jd;rw[hL];rfl,fun _=>rfl,by simp,hL,rfl,?_⟩
     rw[i]
     unfold fr
     rw[ap (show ¬(itG s p,([]:List bc)).1.Rune<0 by show ¬(itG s p).Rune<0;omega)]
     rfl
    |true=>
     have i:cW (itG s p).Rune=true:=hL
     obtain⟨b,d,y,hb,_,z,_⟩:=tC i
     have B:=(mF b hb).1
     refine⟨⟨b,ac b,(itG s p).At⟩,d.map fun r=>⟨r,ac r,(itG s p).At⟩,by unfold jd;rw[hL,y];rfl,(fun h=>by rw[show dI (⟨b,ac b,(itG s p).At⟩:bc)=true from hb] at h;cases h),?_,hb,?_,?_⟩
     ·intro m hm
      obtain⟨r,hr,rfl⟩:=aS.1 hm
      exact z r hr
     ·have F:isM (itG s p)=false:=by
       cases e:isM (itG s p) with
       |false=>rfl
       |true=>have:=qa (show eE (itG s p).Rune=true from e);rw[i] at this;cases this
      have E:isM (⟨b,ac b,(itG s p).At⟩:bc)=false:=by
       cases e:isM (⟨b,ac b,(itG s p).At⟩:bc) with
       |false=>rfl
       |true=>have:=qa (show eE b=true from e);rw[hb] at this;cases this
      rw[F,E]
     ·rw[i,y]
      have:=IE ⟨b,ac b,(itG s p).At⟩ B (d.map fun r=>⟨r,ac r,(itG s p).At⟩) []
      have hm:(d.map fun r=>(⟨r,ac r,(itG s p).At⟩:bc)).map (·.Rune)=d:=by rw[bY];simp[Function.comp_def]
      rw[hm] at this
      rw[aW] at this
      rw[←this]
      have ht:fr (⟨b,ac b,(itG s p).At⟩,[])=⟨(itG s p).At,0,b,[],[]⟩:=by
       unfold fr;rw[ap (show ¬b<0 by omega)];rfl
      rw[ht];rfl
   obtain⟨x,d,ha,o,hm2,I,n,f⟩:=f
   cases a with
   |none=>
    have hL:=hcur rfl
    subst hL
    refine l x d o hm2 (fun c h=>by cases h) ?_ ha
    unfold ob
    rw[show (gv p).Broken=false from hB]
    simp only[bg,if_false,qi,dW,aE,List.getLast?_nil]
    rw[f]
   |some c=>
    have g:(L++[fr c]).getLast?=some (fr c):=by simp
    cases hk:(dI c.1&&isM x) with
    |false=>
     refine l x d o hm2 (fun O h=>by cases h;exact hk) ?_ ha
     show ob s (L++[fr c]) (gv p)=(L++[fr c])++[fr (x,d)]
     unfold ob
     rw[show (gv p).Broken=false from hB,g]
     simp only[bg,if_false]
     rw[IF,show eE (gv p).Rune=isM x by rw[n,j];rfl,hk,f]
     simp
    |true=>
     have k:=hk
     rw[aN] at k
     have v:isM (itG s p)=true:=by rw[←n];exact k.2
     have G:dI (itG s p)=false:=qa v
     have C:jd (itG s p)=[itG s p]:=by unfold jd;rw[G];rfl
     rw[C,List.singleton_append]
     have u:ob s (L++(some c).toList.map fr) (gv p)=L++(some (c.1,c.2++[itG s p])).toList.map fr:=by
      show ob s (L++[fr c]) (gv p)=L++[fr (c.1,c.2++[itG s p])]
      unfold ob
      rw[show (gv p).Broken=false from hB,g]
      simp only[bg,if_false]
      rw[IF,show eE (gv p).Rune=isM x by rw[n,j];rfl,hk]
      simp only[if_true]
      have H:0≤c.1.Rune:=(mF _ k.1).1
      rw[j,IA c.1 H c.2 (itG s p)]
      simp
     rw[u,tail _ _ (by simp)]
     congr 2
     show _=fH (some c) (itG s p::apL (ps.map (itG s)))
     show _=(if dI c.1&&isM (itG s p) then fH (some (c.1,c.2++[itG s p])) (apL (ps.map (itG s))) else _)
     rw[k.1,v];rfl
def kq (s:ae):List (bc×List bc):=cl (apL (fQ s))
theorem DP (s:ae) (a:s.size≤65536):tE s=some ((kq s).map fr):=by
 rw[QO s a]
 have:=IG s (eA s.data.toList) none [] (fun p hp=>hp) (fun _=>rfl)
 simp only[qi,dW,aE,aW] at this
 rw[this];rfl
def zdx (e:List cY) (g:ae→Option ae) (d:ae→Int→Option ae) (a:ae) (c:Int):Option ae := aM (decide ((c:Int)<(e.length:Int))) (cn (fun (f:ae→Option ae)=>aT (zcx e c) fun (b:cY)=>aM (decide ((b.base:Int)<0)) (aU (a.size+1≤140737488355328) <|aU (∀x∈([b.broken]:List Int),U8 x) <|f (a++(jp [b.broken]))) (aT (wl b) fun (r1:ae)=>aU (a.size+r1.size≤140737488355328) <|f (a++r1))) (fun (h:ae)=>aU (cp (c+1)) <|d h (c+1))) (g a)
def yD (a:List cY):Option ae := cn (fun (b:ae→Option ae)=>zaC (fun _ _=>none) (zdx a b) zbC ad 0) (fun (b1:ae)=>some b1)
theorem QQ {d m:Value} {a:List (cY×Hd×Hd)} {w:Nat} {t:List (cY×Hd×Hd)} {s:List cY} (f:Vw d a 5 w m t) (o:t.map bv=s) {r:ae} (h:yD s=some r):Fn prog 75 [m,.func (.func 124) #[] #[]] [mZ d a,own iv a] (fun _b:Unit=>.string r) (fun _b=>[mZ d a,own iv a]):=by
 unfold yD at h
 refine Fn.intro func75 rfl ntmps75 (by simp) (fun w0 K=>zbp h fun y D h=>zaM (β:=ae×Value) 2 rfl (fun b=>y b.1=some r) (fun b=>[]) (fun b=>[(5,b.2)]) (fun b=>[mZ d a,own iv a,byt 5 b.2 b.1]) (fun cut=>?_) ?_)
 ·refine zyG (zyR 1 rfl (zyH (zyR 1 rfl (zyN (cut (zyG (zyR 1 rfl (Co o f rfl dc rfl eS (zyR 1 rfl (zyN (zau (xr (e:=5) (eO (β:=Nat×ae×Int×Value) (fun b=>zaC (fun _ _=>none) (zdx s y) b.1 b.2.1 b.2.2.1=some r) (fun b=>[]) (fun b=>[(1,.func (.func 124) #[] #[]),(5,b.2.2.2),(8,m),(9,zI (s.length:Int)),(10,zI b.2.2.1)]) (fun b=>[mZ d a,own iv a,byt 5 b.2.2.2 b.2.1]) (fun b=>b.1) (zbC,ad,0,(.slice none 0 0)) h rfl (bE rfl) (cj 3) ?_)))))))))))))
  rintro⟨x,z,u,N⟩ h
  cases x with
  |zero=>exact eG h
  |succ x=>
   obtain⟨I,p⟩:∃ag,ag=zaC (fun _ _=>none) (zdx s y) x:=⟨_,rfl⟩
   have h:zdx s y I z u=some r:=by rw[p];exact h
   unfold zdx at h
   refine zyG (zaR rfl zbi (zyN (zaL (zyB rfl h (fun h=>?_) (fun h=>?_)))))
   ·refine bA (ct (zbp h fun O C h=>zaM (β:=ae×Value) 0 rfl (fun b=>O b.1=some r) (fun b=>[]) (fun b=>[(1,.func (.func 124) #[] #[]),(5,b.2),(8,m),(9,zI (s.length:Int)),(10,zI u)]) (fun b=>[mZ d a,own iv a,byt 5 b.2 b.1]) (fun cut=>?_) ?_))
    ·refine cut (zau (zyG (zbl h fun c B h=>?_)))
     obtain⟨⟨l,g⟩,n⟩:=xq o B
     exact fm f n eS sj rfl dc rfl rfl rfl (mz (i:=w+(u:Int).toNat) (j:=0) (k:=0) (q:=(c,(l,g))) (cs:=[zI c.at_,.int .u8 c.broken,.int .i32 c.base,l.v,g.v]) qw o9 rfl dc rfl rfl (bX f n) rfl rfl rfl (zbk Ag rfl dc (fun R=>eK (k:=3) (vs:=[zI c.at_,.int .u8 c.broken,.int .i32 c.base,l.v,g.v]) (l':=[zI c.at_,.int .u8 c.broken,.int .i32 c.base,l.v,g.v]) sj rfl rfl rfl rfl rfl (show _≤_ by simp) rfl rfl (zyH (zab zgo rfl dc rfl (show _=2 from rfl) (zat (k:=3) eP rfl dc rfl rfl rfl (zaR rfl zbi (zyN (zyB rfl h (fun h=>bV (zyR 1 rfl (zab CC rfl dc rfl (show _=1 from rfl) (zat (k:=3) Cu rfl dc rfl rfl rfl (fE (cs:=[.int .u8 c.broken]) (te:=5) (ps:=[(0,.tmp 19)]) rfl dc rfl (fun _=>by kernel_rfl) (fun Q=>zbt h fun H h=>zbt h fun G h=>zM (k:=2) (k2:=4) (ys:=(jp [c.broken])) cO qu rfl dc rfl rfl rfl rfl (Cm G) rfl H (fun L=>zyR 1 rfl (bG (ca (mD (z++(jp [c.broken]),L) h 3)))))))))) (fun h=>bV (zyR 2 rfl (zbT (k:=3) (cs:=[zI c.at_,.int .u8 c.broken,.int .i32 c.base,l.v,g.v]) qw rfl dc rfl rfl rfl rfl (qs (k:=1) rfl (xp (bX f n)) (fun _ _=>zbl h fun r1 A h=>oZ (v:=.string r1) (vs:=[.agg #[zI c.at_,.int .u8 c.broken,.int .i32 c.base,l.v,g.v]]) rfl dc rfl rfl rfl N9 (PO (u1:=c) (_j:=l) (_i:=g) A) [4,5] kr rfl (zbt h fun F h=>ub (k:=2) cO al qu rfl dc rfl rfl rfl F (fun J=>zyR 1 rfl (bG (ca (tj (k:=1) rfl (cg [4,5] kr rfl) rfl (ue (nest:=iv) (bX f n) rfl) (mD (z++r1,J) h 3))))))))))))))))))))
    rintro⟨P,M⟩ h
    rw[C] at h
    refine bV (zbt h fun E h=>zaR rfl (dE (r:=u+1) (ai _ E)) (zyR 1 rfl (bG ?_)))
    subst p
    exact aD (x,P,u+1,M) h 3
   exact dF (bU (bU (dG (mD (z,N) h 3))))
 rintro⟨b1,v1⟩ h
 rw[D] at h
 refine zyG (zyR 1 rfl (qq (k:=2) rfl dc rfl rfl cO underlying5 al (zyR 1 rfl (zyN (zaz ?_)))))
 cases h
 exact eB (rs:=[.tmp 4]) () (.inl rfl) results75 (.cons (.tmp rfl) .nil) rfl (cj 2)
def oR (a:ae):Option ae := aT (tE a) fun (r1:(List cY))=>aT (yD r1) fun (r2:ae)=>some r2
theorem ry {a:ae} {r:ae} (h:oR a=some r):dB prog 70 [.string a] (.string r):=by
 unfold oR at h
 refine dB.intro func70 rfl ntmps70 (by simp) (fun w0 K=>zyG (zyR 1 rfl (zyH (zyR 1 rfl (zbl h fun r1 e h=>zbJ (vs:=[.string a]) rfl dc rfl rfl rfl CO (DN e) ah (fun v1=>Ce (k:=0) rfl (fun g f=>?_)))))))
 subst f
 refine qs (k:=0) rfl vx (fun i b=>kj (k:=0) rfl (fun c=>zbl h fun r2 d h=>oZ (v:=.string r2) (vs:=[g.v,.func (.func 124) #[] #[]]) rfl dc rfl rfl rfl CN (QQ c b d) [0,1] kr rfl (zyR 1 rfl (zyN (zaz ?_)))))
 cases h
 exact cZ 2 results70
def yE (r1:Int):Option ae := aT (yz r1) fun (r2:ae)=>aT (oR r2) fun (r3:ae)=>some r3
theorem IH {r1:Int} {r:ae} (h:yE r1=some r):dB prog 65 [.int .i32 r1] (.string r):=by
 unfold yE at h
 refine dB.intro func65 rfl ntmps65 (by simp) (fun w0 K=>zyG (zyR 1 rfl (zyH (zyR 1 rfl (zbl h fun r2 b h=>zaI (v:=.string r2) (vs:=[.int .i32 r1]) rfl dc rfl rfl rfl N4 (QI b) (zbl h fun r3 a h=>zaI (v:=.string r3) (vs:=[.string r2]) rfl dc rfl rfl rfl rf (ry a) (zyR 1 rfl (zyN (zaz ?_)))))))))
 cases h
 exact cZ 2 results65
section
variable {α β:Type}
def J (f:α→ae) (l:List α):ae:=l.foldl (fun s x=>s++f x) ad
theorem DQ (f:α→ae):∀ (l:List α) (b:ae),l.foldl (fun s x=>s++f x) b=b++J f l
 |[],b=>by simp[J]
 |x::l,b=>by
  unfold J
  rw[bn,DQ f l,bn,DQ f l (ad++f x),c8,cu]
theorem pA (f:α→ae):J f []=ad:=rfl
theorem iN (f:α→ae) (x:α) (l:List α):J f (x::l)=f x++J f l:=by
 show (l.foldl _ (ad++f x))=_
 rw[DQ,c8]
theorem yF (f:α→ae):∀ (a b:List α),J f (a++b)=J f a++J f b
 |[],b=>by rw[aW,pA,c8]
 |x::a,b=>by rw[bq,iN,iN,yF f a,cu]
theorem DR (f:β→ae) (g:α→List β):∀l:List α,J f (l.flatMap g)=J (fun x=>J f (g x)) l
 |[]=>rfl
 |x::l=>by rw[aK,yF,iN,DR f g l]
theorem rz (f:β→ae) (g:α→β):∀l:List α,J f (l.map g)=J (fun x=>f (g x)) l
 |[]=>rfl
 |x::l=>by rw[av,iN,iN,rz f g l]
theorem sF {f g:α→ae}:∀ {l:List α},(∀x∈l,f x=g x)→J f l=J g l
 |[],_=>rfl
 |x::l,h=>by rw[iN,iN,h x (aq ..),sF (fun y hy=>h y (ak _ hy))]
theorem DS (f:α→ae) (m:Nat):∀ {l:List α},(∀x∈l,(f x).size≤m)→(J f l).size≤l.length*m
 |[],_=>by simp[J]
 |x::l,h=>by
  rw[iN,aJ,ab,c6,jx]
  have:=DS f m (fun y hy=>h y (ak _ hy))
  have:=h x (aq ..)
  omega
end
theorem zip (l:List Int):iL l=J ac l:=rfl
theorem II (l:List bc):sD l=J (·.Text) l:=rfl
theorem mh (r:Int):(ac r).size≤4:=by
 rw[xg];exact (xh r).2
def wr (a:cY→ae) (u:cY):ae:=if u.base<0 then jp [u.broken] else a u
theorem QR (a:cY→ae) (l:List cY) (d:l.length≤1048576) (h:∀u∈l,u.base<0∧U8 u.broken∨0≤u.base∧wl u=some (a u)∧(a u).size≤1048576):yD l=some (J (wr a) l):=by
 unfold yD
 refine cA ((qE (xs:=l) (f:=fun b u=>b++wr a u) (J:=some) (fun k b=>b.size≤k*1048576) ?_ ?_ ?_ (kF (by omega)) (by decide)).trans rfl)
 ·intro ag k u b hu hb
  have hk:=n0 hu
  unfold zdx
  refine bQ (mE hu) (cA (bf (lX hu) ?_))
  rcases h u (aL hu) with⟨h1,h2⟩|⟨h1,h2,h3⟩
  ·exact bQ (au h1) (gO (zdG (by simpa using h2) (zdG (jt (by omega)) (by simp only[wr,ax h1]))))
  ·exact fP (bf h2 (gO (zdG (jt (by omega)) (by simp only[wr,ap (show ¬u.base<0 by omega)]))))
 ·intro k u b hu hb
  have c:(wr a u).size≤1048576:=by
   rcases h u (aL hu) with⟨h1,h2⟩|⟨h1,h2,h3⟩
   ·unfold wr;rw[ax h1,Ca];simp
   ·unfold wr;rw[ap (by omega)];exact h3
  rw[aJ];omega
 ·intro ag b _;unfold zdx;exact bM me rfl
def k7 (x:bc):Prop:=fl x.Rune∧((x.Rune<0∧x.Text.size=1)∨(0≤x.Rune∧x.Text=ac x.Rune))
theorem wy {s:ae}:∀x∈fQ s,k7 x:=by
 intro x hx
 unfold fQ at hx
 obtain⟨p,hp,rfl⟩:=aS.1 hx
 obtain⟨h1,h2⟩:=ID hp
 obtain⟨c,b,a⟩:=uj s.data.toList p hp
 have hv:=a.valid
 cases hb:p.broken with
 |true=>obtain⟨e1,e2,_⟩:=h1 hb;exact⟨by rw[e1];exact⟨by omega,by omega⟩,.inl ⟨by omega,e2⟩⟩
 |false=>
  obtain⟨e1,e2⟩:=h2 hb
  refine⟨by rw[e1];exact⟨by omega,by omega⟩,.inr ⟨by omega,by rw[e2,e1]⟩⟩
theorem DT {l:List bc} (h:∀x∈l,k7 x):∀x∈apL l,k7 x:=by
 intro y hy
 unfold apL at hy
 obtain⟨x,hx,hy⟩:=gD.1 hy
 unfold jd at hy
 split at hy
 ·rename_i hL
  obtain⟨r,hr,rfl⟩:=aS.1 hy
  obtain⟨b,d,c,hb,_,a,_⟩:=tC (show cW x.Rune=true from hL)
  have h0:0≤r:=by
   rw[c] at hr
   rcases aY.1 hr with rfl|hr
   ·exact (mF _ hb).1
   ·have:=a r hr;unfold eE at this;simp at this;omega
  exact⟨AR (h x hx).1 r hr,.inr ⟨h0,rfl⟩⟩
 ·simp at hy;subst hy;exact h _ hx
theorem AX:∀ (xs:List bc) (f:Option (bc×List bc)) (c:bc×List bc),c∈fH f xs→(∀d,f=some d→dI d.1=false→d.2=[])→((c.1∈xs∨∃d,f=some d∧c.1=d.1)∧(∀m∈c.2,(isM m=true∧m∈xs)∨∃d,f=some d∧m∈d.2)∧(dI c.1=false→c.2=[]))
 |[],none,c,h,_=>by cases h
 |[],some d,c,h,hd=>by
  simp[fH] at h;subst h
  exact⟨.inr ⟨c,rfl,rfl⟩,fun m hm=>.inr ⟨c,rfl,hm⟩,hd c rfl⟩
 |x::xs,none,c,h,_=>by
  obtain⟨h1,h2,h3⟩:=AX xs (some (x,[])) c h (fun d hd _=>by cases hd;rfl)
  refine⟨.inl ?_,fun m hm=>.inl ?_,h3⟩
  ·rcases h1 with h1|⟨d,hd,h1⟩
   ·exact ak _ h1
   ·cases hd;rw[h1];exact aq ..
  ·rcases h2 m hm with⟨a,b⟩|⟨d,hd,h2⟩
   ·exact⟨a,ak _ b⟩
   ·cases hd;cases h2
 |x::xs,some d,c,h,hd=>by
  have h':c∈(if dI d.1&&isM x then fH (some (d.1,d.2++[x])) xs else d::fH (some (x,[])) xs):=h
  cases hk:(dI d.1&&isM x) with
  |true=>
   rw[hk] at h'
   rw[aN] at hk
   obtain⟨h1,h2,h3⟩:=AX xs (some (d.1,d.2++[x])) c h' (fun e he g=>by cases he;rw[hk.1] at g;cases g)
   refine⟨?_,fun m hm=>?_,h3⟩
   ·rcases h1 with h1|⟨e,he,h1⟩
    ·exact .inl (ak _ h1)
    ·cases he;exact .inr ⟨d,rfl,h1⟩
   ·rcases h2 m hm with⟨a,b⟩|⟨e,he,h2⟩
    ·exact .inl ⟨a,ak _ b⟩
    ·cases he
     rcases bH.1 h2 with h2|h2
     ·exact .inr ⟨d,rfl,h2⟩
     ·simp at h2;subst h2;exact .inl ⟨hk.2,aq ..⟩
  |false=>
   rw[hk] at h'
   rcases aY.1 h' with rfl|h'
   ·exact⟨.inr ⟨c,rfl,rfl⟩,fun m hm=>.inr ⟨c,rfl,hm⟩,hd c rfl⟩
   ·obtain⟨h1,h2,h3⟩:=AX xs (some (x,[])) c h' (fun e he _=>by cases he;rfl)
    refine⟨.inl ?_,fun m hm=>.inl ?_,h3⟩
    ·rcases h1 with h1|⟨e,he,h1⟩
     ·exact ak _ h1
     ·cases he;rw[h1];exact aq ..
    ·rcases h2 m hm with⟨a,b⟩|⟨e,he,h2⟩
     ·exact⟨a,ak _ b⟩
     ·cases he;cases h2
theorem DU {xs:List bc} {c:bc×List bc} (h:c∈cl xs):c.1∈xs∧(∀m∈c.2,isM m=true∧m∈xs)∧(dI c.1=false→c.2=[]):=by
 obtain⟨h1,h2,h3⟩:=AX xs none c h (fun d hd=>by cases hd)
 refine⟨?_,fun m hm=>?_,h3⟩
 ·rcases h1 with h1|⟨d,hd,_⟩
  ·exact h1
  ·cases hd
 ·rcases h2 m hm with h2|⟨d,hd,_⟩
  ·exact h2
  ·cases hd
theorem AY:∀ (xs:List bc) (e:Option (bc×List bc)),(fH e xs).length≤xs.length+e.toList.length∧∀c∈fH e xs,c.2.length≤xs.length+(e.toList.map (·.2.length)).sum
 |[],none=>by simp[fH]
 |[],some d=>by simp[fH]
 |x::xs,none=>by
  have:=AY xs (some (x,[]))
  refine⟨?_,fun c hc=>?_⟩
  ·have h1:=this.1;show (fH (some (x,[])) xs).length≤_;simp at h1 ⊢;omega
  ·have h1:=this.2 c hc;simp at h1 ⊢;omega
 |x::xs,some d=>by
  have a:=AY xs (some (d.1,d.2++[x]))
  have b:=AY xs (some (x,[]))
  show (if dI d.1&&isM x then fH (some (d.1,d.2++[x])) xs else d::fH (some (x,[])) xs).length≤_∧_
  show _∧∀c∈(if dI d.1&&isM x then fH (some (d.1,d.2++[x])) xs else d::fH (some (x,[])) xs),_
  split
  ·refine⟨by have:=a.1;simp at this ⊢;omega,fun c hc=>by have:=a.2 c hc;simp at this ⊢;omega⟩
  ·refine⟨by have:=b.1;simp at this ⊢;omega,fun c hc=>?_⟩
   rcases aY.1 hc with rfl|hc
   ·simp
   ·have:=b.2 c hc;simp at this ⊢;omega
theorem IJ (xs:List bc):(cl xs).length≤xs.length∧∀c∈cl xs,c.2.length≤xs.length:=by
 have:=AY xs none
 simpa [cl] using this
theorem tF {s:ae} (f:s.size≤65536):(kq s).length≤196608∧∀c∈kq s,k7 c.1∧(∀m∈c.2,isM m=true∧k7 m)∧(dI c.1=false→c.2=[])∧c.2.length≤196608:=by
 have h1:=IJ (apL (fQ s))
 have h2:=uC (fQ s)
 have h3:(fQ s).length≤s.size:=by unfold fQ;simpa using p6 s
 have a:=DT (wy (s:=s))
 refine⟨by unfold kq;omega,fun c hc=>?_⟩
 obtain⟨e,b,d⟩:=DU hc
 exact⟨a _ e,fun m hm=>⟨(b m hm).1,a _ (b m hm).2⟩,d,by have:=h1.2 c hc;omega⟩
theorem wz (c:bc×List bc) (h:k7 c.1):(fr c).base<0∧U8 (fr c).broken∧c.1.Rune<0∧jp [(fr c).broken]=c.1.Text∨0≤(fr c).base∧0≤c.1.Rune∧c.1.Text=ac c.1.Rune∧fr c=⟨c.1.At,0,c.1.Rune,(loI c.2).map (·.Rune),(hiI c.2).map (·.Rune)⟩:=by
 rcases h.2 with⟨h1,h2⟩|⟨h1,h2⟩
 ·left
  have e:fr c=⟨c.1.At,kG c.1.Text,-1,[],[]⟩:=by unfold fr;rw[ax h1]
  rw[e]
  refine⟨by show (-1:Int)<0;omega,?_,h1,?_⟩
  ·show U8 (kG c.1.Text);unfold kG;constructor
   ·omega
   ·have:=(c.1.Text.data.toList.headD 0).toNat_lt;omega
  ·show jp [kG c.1.Text]=_
   apply _root_.ByteArray.ext;apply fv.1
   have a:c.1.Text.data.toList.length=1:=by rw[dJ];exact h2
   cases d:c.1.Text.data.toList with
   |nil=>rw[d] at a;cases a
   |cons b l=>
    rw[d] at a
    have:l=[]:=ck (by simpa using a)
    subst this
    unfold jp kG
    rw[d];simp
 ·right
  have e:fr c=⟨c.1.At,0,c.1.Rune,(loI c.2).map (·.Rune),(hiI c.2).map (·.Rune)⟩:=by unfold fr;rw[ap (by omega)]
  rw[e]
  exact⟨h1,h1,h2,rfl⟩
def ov (xs:List bc):List bc:=(cl xs).map bv
theorem IK:ov []=[]:=rfl
theorem QS {x:bc} (h:dI x=true) (xs:List bc):ov (x::xs)=x::ov (xs.dropWhile isM):=by unfold ov;rw[wu h];rfl
theorem QT {x:bc} (h:dI x=false) (xs:List bc):ov (x::xs)=x::ov xs:=by unfold ov;rw[AU h];rfl
theorem IL (P R:List bc) (a:∀m∈P,isM m=true) (c:∀y,R.head?=some y→isM y=false):(P++lD R).takeWhile isM=P:=by
 induction P with
 |nil=>
  cases R with
  |nil=>rfl
  |cons y R=>
   have hy:=c y rfl
   rw[aW]
   cases hL:dI y with
   |true=>rw[uD hL,aV,hy];rfl
   |false=>rw[uE hL,aV,hy];rfl
 |cons m P b=>
  rw[bq,aV,a m (aq ..)]
  simp only[if_true]
  rw[b (fun z hz=>a z (ak _ hz))]
theorem IM (xs:List bc):∀y,(xs.dropWhile isM).head?=some y→isM y=false:=by
 intro y hy
 have:=List.head?_dropWhile_not (p:=isM) (l:=xs)
 rw[hy] at this
 simpa using this
theorem tG (xs:List bc):(lD xs).length=xs.length:=by
 obtain⟨n,b⟩:∃n,xs.length≤n:=⟨_,bi _⟩
 induction n generalizing xs with
 |zero=>have:xs=[]:=ck (by omega);subst this;rfl
 |succ n a=>
  cases xs with
  |nil=>rfl
  |cons x xs=>
   simp only[ab] at b
   cases hL:dI x with
   |false=>rw[uE hL,ab,ab,a xs (by omega)]
   |true=>
    have h1:=qG (xs.takeWhile isM)
    have h2:xs.length=(xs.takeWhile isM).length+(xs.dropWhile isM).length:=by
     have:=aH List.length (dS (p:=isM) (l:=xs))
     rw[aa] at this;exact this.symm
    rw[uD hL,ab,aa,h1,a _ (by omega),ab];omega
theorem QU {xs:List bc} {y:bc} (h:y∈lD xs):y∈xs:=by
 unfold lD at h
 obtain⟨c,hc,hy⟩:=gD.1 h
 obtain⟨h1,h2,_⟩:=DU hc
 unfold mg loI hiI at hy
 rcases aY.1 hy with rfl|hy
 ·exact h1
 ·rw[bH,co,co] at hy
  rcases hy with hy|hy<;>exact (h2 y hy.1).2
theorem QV (r1:List bc) (J:List bc→Option (List bc)) (hb:r1.length≤1073741824):∀ (m n:Nat) (A B out:List bc),B.length≤m→B.length<n→r1=A++lD B→qH B→out.length≤A.length →
  zaC (fun _ _=>none) (zev J r1) n out (A.length:Int)=J (out++ov B):=by
 intro m
 induction m with
 |zero=>
  intro n A B out hB o he a s
  have:B=[]:=ck (by omega)
  subst this
  obtain⟨n,rfl⟩:∃k,n=k+1:=⟨n-1,by omega⟩
  rw[wv,aE] at he
  rw[fX]
  unfold zev
  exact bM (aj (by rw[he];omega)) (by rw[IK,aE])
 |succ m h=>
  intro n A B out hB o he a s
  obtain⟨n,rfl⟩:∃k,n=k+1:=⟨n-1,by omega⟩
  cases B with
  |nil=>
   rw[wv,aE] at he
   rw[fX]
   unfold zev
   exact bM (aj (by rw[he];omega)) (by rw[IK,aE])
  |cons x xs=>
   simp only[ab] at hB o
   have c:=a x (aq ..)
   have p:r1.length=A.length+1+xs.length:=by rw[he,aa,tG];simp;omega
   rw[fX]
   generalize f:zaC (fun _ _=>none) (zev J r1) n=ag at h ⊢
   unfold zev
   have b:zcx r1 (A.length:Int)=some x:=gw (by
    rw[he]
    cases hL:dI x with
    |true=>rw[uD hL];exact tD A x _
    |false=>rw[uE hL];exact tD A x _)
   refine eW (cA (bf b (gO (bf b (bf (wq x c) ?_)))))
   have l:cW x.Rune=dI x:=rfl
   rw[l]
   cases hL:dI x with
   |false=>
    rw[uE hL] at he
    refine bM rfl (gO ?_)
    have:=h n (A++[x]) xs (out++[x]) (by omega) (by omega) (by rw[he];simp) (fun z hz=>a z (ak _ hz)) (by simp;omega)
    rw[f] at this
    rw[show ((A.length:Int)+1)=((A++[x]).length:Int) by simp,this,QT hL];simp
   |true=>
    rw[uD hL] at he
    obtain⟨M,R,q,j,g⟩:∃M R,M=xs.takeWhile isM∧R=xs.dropWhile isM∧xs=M++R:=⟨_,_,rfl,rfl,(dS).symm⟩
    rw[←q,←j] at he
    have d:=qG M
    have r:xs.length=M.length+R.length:=by rw[g];simp
    have e:dM r1 ((A.length:Int)+1) (r1.length:Int)=(loI M++hiI M)++lD R:=by
     rw[he];exact DL A x _ _ rfl
    refine bQ rfl (gO (gO ?_))
    rw[e]
    refine bf (DD _ (by rw[aa,tG];omega)) ?_
    have i:(((loI M++hiI M)++lD R).takeWhile fun x=>eE x.Rune)=loI M++hiI M:=IL _ _ (DH (by rw[q];exact DI xs)) (by rw[j];exact IM xs)
    rw[i,d]
    refine gO (gO ?_)
    have:=h n (A++[x]++(loI M++hiI M)) R (out++[x]) (by omega) (by omega) (by rw[he];simp) (fun z hz=>a z (by rw[g];exact ak _ (List.mem_append_right _ hz))) (by simp;omega)
    rw[f] at this
    rw[show ((A.length:Int)+(M.length:Int)+1)=((A++[x]++(loI M++hiI M)).length:Int) by rw[aa,d];simp;omega,this,QS hL,←j];simp
theorem QW (l:List bc) (a:qH l) (b:l.length≤268435456):yr l=some (ov (apL l)):=by
 unfold yr
 refine cA (bf (DM l a b) ?_)
 have h1:=uC l
 have h2:=tG (apL l)
 have:=QV (lD (apL l)) some (by omega) (apL l).length zbC [] (apL l) [] (bi _) (kF (by omega)) rfl (DJ a) (bi _)
 simpa using this
def uH:List (Int×List UInt8):=[(223,[115,115]),(230,[97,101]),(248,[111]),(240,[100]),(254,[116,104]),(273,[100]),(295,[104]),(305,[105]),(307,[105,106]),(312,[113]),(320,[108]),(322,[108]),(329,[110]),(331,[110,103]),(339,[111,101]),(359,[116]),(383,[115]),(962,[207,131])]
def ku (r:Int):ae:=match zbO r uH with | some b=>⟨b.toArray⟩ | none=>ac r
theorem QX (r:Int) (hr:fl r):yq r=some (ku r):=by
 unfold ku uH
 simp only[zbO]
 unfold yq
 simp only[cn]
 have e:∀n:Int,(((r:Int)==n)=decide (r=n)):=fun n=>by rw[dL];simp
 by_cases h1:r=223
 ·subst h1;rfl
 by_cases h2:r=230
 ·subst h2;rfl
 by_cases h3:r=248
 ·subst h3;rfl
 by_cases p:r=240
 ·subst p;rfl
 by_cases h5:r=273
 ·subst h5;rfl
 by_cases o:r=254
 ·subst o;rfl
 by_cases m:r=295
 ·subst m;rfl
 by_cases l:r=305
 ·subst l;rfl
 by_cases k:r=307
 ·subst k;rfl
 by_cases j:r=312
 ·subst j;rfl
 by_cases i:r=320
 ·subst i;rfl
 by_cases h:r=322
 ·subst h;rfl
 by_cases g:r=329
 ·subst g;rfl
 by_cases f:r=331
 ·subst f;rfl
 by_cases d:r=339
 ·subst d;rfl
 by_cases c:r=359
 ·subst c;rfl
 by_cases b:r=383
 ·subst b;rfl
 by_cases a:r=962
 ·subst a;rfl
 simp only[e,aj h1,aj h2,aj h3,aj p,aj h5,aj o,aj m,aj l,aj k,aj j,aj i,aj h,aj g,aj f,aj d,aj c,aj b,aj a,aM,cond_false,h1,h2,h3,p,h5,o,m,l,k,j,i,h,g,f,d,c,b,a,if_false]
 exact bf (AL r hr) rfl
theorem DV (r:Int):(ku r).size≤4:=by
 unfold ku
 split
 ·rename_i b hb
  have h:∀p∈uH,p.2.length≤4:=by decide
  have:=h _ (sC hb)
  show (b.toArray).size≤4;simpa using this
 ·exact mh r
def mH (x:bc):bc:=if dI x then ⟨x.Rune,ku (cr x.Rune),x.At⟩ else x
theorem IP (r:Int) (h:cW r=true):fl (cr r):=by
 have:=mF r h
 unfold cr
 constructor<;>((repeat' split)<;>omega)
theorem QY (s:ae) (m:s.size≤65536):yu s=some ((ov (apL (fQ s))).map mH):=by
 unfold yu
 have h3:(fQ s).length≤s.size:=by unfold fQ;simpa using p6 s
 have d:qH (fQ s):=fun x hx=>(wy x hx).1
 refine cA (bf (wt s (by omega)) (bf (QW _ d (by omega)) ?_))
 have b:qH (ov (apL (fQ s))):=by
  intro x hx
  unfold ov at hx
  obtain⟨c,hc,rfl⟩:=aS.1 hx
  exact DJ d _ (DU hc).1
 have g:(ov (apL (fQ s))).length≤196608:=by
  have h1:=(IJ (apL (fQ s))).1
  have h2:=uC (fQ s)
  unfold ov;rw[ar];omega
 generalize ov (apL (fQ s))=B at b g
 have key:∀ (n k:Nat),k≤B.length→B.length-k<n→zaC (fun _ _=>none) (zeE some B) n ((B.take k).map mH++B.drop k) (k:Int)=some (B.map mH):=by
  intro n
  induction n with
  |zero=>intro k _ h;omega
  |succ n j=>
   intro k hk o
   rw[fX]
   generalize zaC (fun _ _=>none) (zeE some B) n=ag at j ⊢
   unfold zeE
   by_cases h:k<B.length
   ·have hx:B[k]?=some B[k]:=aO h
    have hd:=bB h
    have f:=b B[k] (aL hx)
    have a:=j (k+1) (by omega) (by omega)
    have ht:B.take (k+1)=B.take k++[B[k]]:=by rw[List.take_add_one,hx];rfl
    generalize l:B[k]=x at *
    have e:((B.take k).map mH).length=k:=by simp;omega
    have hg:zcx ((B.take k).map mH++B.drop k) (k:Int)=some x:=gw (by
     rw[hd]
     have:=tD ((B.take k).map mH) x (B.drop (k+1))
     rwa [e] at this)
    refine eW (cA (bf hg (bf (wq x f) ?_)))
    have i:cW x.Rune=dI x:=rfl
    rw[i]
    rw[ht,cQ] at a
    push_cast at a
    cases hL:dI x with
    |false=>
     refine bM rfl (zdG (jt (by omega)) ?_)
     have hf:mH x=x:=by unfold mH;rw[hL];rfl
     rw[←a,hd]
     congr 1
     simp[hf]
    |true=>
     refine bQ rfl (zdG f (bf (QX _ (IP _ hL)) (bf hg (zdG (jt (by omega)) ?_))))
     have hf:mH x=⟨x.Rune,ku (cr x.Rune),x.At⟩:=by unfold mH;rw[hL];rfl
     rw[←a]
     congr 1
     rw[hd,show ((k:Int)).toNat=((B.take k).map mH).length by rw[e];simp,List.set_append_right _ _ (bi _)]
     simp[hf]
   ·have:k=B.length:=by omega
    subst this
    exact bM me (by rw[List.take_length,gg,aE])
 have:=key zbC 0 (cm _) (by have:=kF (n:=B.length) (by omega);omega)
 simpa using this
def AZ (g:Int) (h:Option ae) (f:Int→Bool→Nat→Option ae) (a:Int) (b:Bool) (e:Nat):Option ae := aM (decide (e<(eA ga.data.toList).length)) (aT ((eA ga.data.toList)[e]?) fun (p1:Pc)=>cn (fun (c:Int→Option ae)=>aM (((p1.r:Int):Int)==32) (aM (decide ((0:Int)≤a)) (aU (0≤(a:Int)∧(a:Int)≤(p1.i:Int)∧((p1.i:Int):Int)≤(ga.size:Int)) <|some (cL ga a (p1.i:Int))) (aM (((p1.r:Int):Int)==32) (c a) (aM (b) (aM (((p1.r:Int):Int)==g) (aU (cp ((p1.i:Int)+((ac (p1.r:Int)).size:Int))) <|c ((p1.i:Int)+((ac (p1.r:Int)).size:Int))) (c a)) (c a)))) (aM (((p1.r:Int):Int)==32) (c a) (aM (b) (aM (((p1.r:Int):Int)==g) (aU (cp ((p1.i:Int)+((ac (p1.r:Int)).size:Int))) <|c ((p1.i:Int)+((ac (p1.r:Int)).size:Int))) (c a)) (c a)))) (fun (d:Int)=>f d (((p1.r:Int):Int)==32) (e+1))) (h)
def nn:List Pc:=eA ga.data.toList
def DW (a:Int):Option ae:=zaC (fun _ _ _=>none) (AZ a (some (ac a))) zbC (-1) true 0
def hds:List Pc→Bool→List Int
 |[],_=>[]
 |p::ps,h=>(if (p.r==32) then [] else if h then [(p.r:Int)] else [])++hds ps (p.r==32)
theorem QZ:hds nn true=uH.map bv:=by decide +kernel
theorem Q0:(uH.all fun p=>decide (DW p.1=some (ku p.1)))=true:=by decide +kernel
theorem Q1 (f:Int) (J:Option ae):∀ (n m:Nat) (h:Bool),m≤nn.length→nn.length-m<n→f ∉ hds (nn.drop m) h→zaC (fun _ _ _=>none) (AZ f J) n (-1) h m=J:=by
 intro n
 induction n with
 |zero=>intro m h _ i;omega
 |succ n g=>
  intro m h hm i c
  rw[fX]
  generalize zaC (fun _ _ _=>none) (AZ f J) n=ag at g ⊢
  unfold AZ
  by_cases a:m<nn.length
  ·have hx:nn[m]?=some nn[m]:=aO a
   rw[bB a] at c
   generalize nn[m]=p at hx c
   unfold hds at c
   rw[bH,not_or] at c
   have e:((p.r:Int)==32)=(p.r==32):=by rw[dL];simp;omega
   refine bQ (au a) (bf hx (cA ?_))
   have d:ag (-1) ((p.r:Int)==32) (m+1)=J:=g (m+1) _ (by omega) (by omega) (by rw[e];exact c.2)
   cases b:((p.r:Int)==32) with
   |true=>
    rw[b] at d
    exact bQ rfl (bM (by decide) (bQ rfl d))
   |false=>
    rw[b] at d
    refine bM rfl (bM rfl ?_)
    cases h with
    |false=>exact bM rfl d
    |true=>
     have h1:=c.1
     rw[←e,b] at h1
     refine bQ rfl (bM ?_ d)
     rw[aA]
     intro e2
     exact h1 (by simp[e2])
  ·exact bM (aj a) rfl
theorem Q2 (a:Int):DW a=some (ku a):=by
 by_cases h:a∈uH.map bv
 ·obtain⟨p,hp,rfl⟩:=aS.1 h
  exact of_decide_eq_true (List.all_eq_true.1 Q0 p hp)
 ·have:DW a=some (ac a):=Q1 a _ zbC 0 true (cm _) (by
   have:nn.length≤100000:=by decide +kernel
   unfold zbC;omega) (by rw[List.drop_zero,QZ];exact h)
  rw[this]
  unfold ku
  cases hg:zbO a uH with
  |none=>rfl
  |some b=>exact absurd (aS.2 ⟨_,sC hg,rfl⟩) h
theorem Q3 (u:cY) (hu:fl u.base):wl u=some (if cW u.base then ku (cr u.base) else ac u.base):=by
 unfold wl
 refine bf (AP u hu) ?_
 cases hL:cW u.base with
 |false=>exact bQ rfl rfl
 |true=>exact bM rfl (cA (zdG hu (Q2 (cr u.base))))
def oS (c:bc×List bc):ae:=(mH c.1).Text
def iH (s:ae):ae:=J oS (kq s)
theorem DX (b:cY→ae) (g:bc×List bc→ae) (s:ae) (f:s.size≤65536) (h:∀c∈kq s,0≤c.1.Rune→b (fr c)=g c) (a:∀c∈kq s,c.1.Rune<0→g c=c.1.Text):J (wr b) ((kq s).map fr)=J g (kq s):=by
 rw[rz]
 refine sF fun c hc=>?_
 obtain⟨h1,h2,h3,_⟩:=(tF f).2 c hc
 unfold wr
 rcases wz c h1 with⟨e,_,d,g4⟩|⟨e,i,d,g4⟩
 ·rw[ax e,g4,a c hc d]
 ·rw[ap (by omega),h c hc i]
theorem A0 {x:bc} (h:x.Rune<0):dI x=false:=by
 cases e:dI x with
 |false=>rfl
 |true=>have:=(mF x.Rune e).1;omega
theorem IQ (c:bc×List bc) (h:k7 c.1):(0≤c.1.Rune→(if cW (fr c).base then ku (cr (fr c).base) else ac (fr c).base)=oS c)∧(c.1.Rune<0→oS c=c.1.Text):=by
 constructor
 ·intro h0
  have hb:=DO c h0
  rw[hb]
  unfold oS mH dI
  rcases h.2 with⟨h1,_⟩|⟨_,h2⟩
  ·omega
  ·cases cW c.1.Rune with
   |true=>rfl
   |false=>simp[h2]
 ·intro h0
  unfold oS mH;rw[A0 h0];rfl
theorem A1 (s:ae) (b:s.size≤65536):oR s=some (iH s):=by
 unfold oR
 obtain⟨f,hc⟩:=tF b
 refine bf (DP s b) (bf (QR (fun u=>if cW u.base then ku (cr u.base) else ac u.base) _ (by rw[ar];omega) ?_) ?_)
 ·intro u hu
  obtain⟨c,a,rfl⟩:=aS.1 hu
  obtain⟨h1,_⟩:=hc c a
  rcases wz c h1 with⟨e,d,_⟩|⟨e,d,g,g4⟩
  ·exact .inl ⟨e,d⟩
  ·refine .inr ⟨e,Q3 _ (by rw[DO c d];exact h1.1),?_⟩
   split
   ·have:=DV (cr (fr c).base);omega
   ·have:=mh (fr c).base;omega
 ·rw[DX _ oS s b (fun c a h0=>(IQ c (hc c a).1).1 h0) (fun c a h0=>(IQ c (hc c a).1).2 h0)];rfl
theorem IR {l:List bc} {m:Nat} (h:∀x∈l,x.Text.size≤m):oQ l≤l.length*m:=by
 unfold oQ
 induction l with
 |nil=>simp
 |cons x l a=>
  have:=a (fun y hy=>h y (ak _ hy))
  have:=h x (aq ..)
  simp only[av,List.sum_cons,ab,c6,jx];omega
theorem tH {x:bc} (h:k7 x):x.Text.size≤4:=by
 rcases h.2 with⟨_,h⟩|⟨_,h⟩
 ·omega
 ·rw[h];exact mh _
theorem IU {x:bc} (h:k7 x):(mH x).Text.size≤4:=by
 unfold mH
 split
 ·exact DV _
 ·exact tH h
theorem Q4 (s:ae):ov (apL (fQ s))=(kq s).map bv:=rfl
theorem DY (s:ae) (b:s.size≤65536):sA s=some (iH s):=by
 unfold sA
 obtain⟨d,hc⟩:=tF b
 refine bf (QY s b) ?_
 rw[Q4,bY]
 have hsz:oQ ((kq s).map (mH ∘ bv))≤((kq s).map (mH ∘ bv)).length*4:=IR (fun x hx=>by
  obtain⟨c,a,rfl⟩:=aS.1 hx
  exact IU (hc c a).1)
 rw[ar] at hsz
 refine bf (DB _ (by rw[ar];omega) (by omega)) ?_
 rw[II,rz];rfl
theorem A2 (l:List Int):(iL l).size≤l.length*4:=by rw[zip];exact DS _ 4 fun x _=>mh x
def jB (x:bc):bc:=⟨x.Rune,x.Text,0⟩
def mi (c:bc×List bc):bc×List bc:=(jB c.1,c.2.map jB)
theorem A3 (x:bc):dI (jB x)=dI x:=rfl
theorem Q5 (x:bc):isM (jB x)=isM x:=rfl
theorem A4:∀ (xs:List bc) (a:Option (bc×List bc)),fH (a.map mi) (xs.map jB)=(fH a xs).map mi
 |[],none=>rfl
 |[],some c=>rfl
 |x::xs,none=>A4 xs (some (x,[]))
 |x::xs,some c=>by
  show (if dI (jB c.1)&&isM (jB x) then fH (some (jB c.1,c.2.map jB++[jB x])) (xs.map jB) else mi c::fH (some (jB x,[])) (xs.map jB))=(if dI c.1&&isM x then fH (some (c.1,c.2++[x])) xs else c::fH (some (x,[])) xs).map mi
  rw[A3,Q5]
  have h1:=A4 xs (some (c.1,c.2++[x]))
  have h2:=A4 xs (some (x,[]))
  simp only[Option.map_some,mi,cQ,av,dW] at h1 h2
  split
  ·exact h1
  ·rw[av,←h2]
theorem Q6 (xs:List bc):cl (xs.map jB)=(cl xs).map mi:=A4 xs none
theorem Q7 (x:bc):jd (jB x)=(jd x).map jB:=by
 unfold jd
 rw[A3]
 split
 ·rw[bY];rfl
 ·rfl
theorem Q8 (xs:List bc):apL (xs.map jB)=(apL xs).map jB:=by
 unfold apL
 induction xs with
 |nil=>rfl
 |cons x xs a=>rw[av,aK,aK,cQ,a,Q7]
theorem Q9 (c:bc×List bc):oS (mi c)=oS c:=by
 unfold oS mH mi
 rw[A3]
 split<;>rfl
def zgb (t:cN):bc:=⟨if t.broken then -1 else (t.r:Int),⟨t.bs.toArray⟩,0⟩
def je (ts:List cN):List (bc×List bc):=cl (apL (ts.map zgb))
def FT (ts:List cN):ae:=J oS (je ts)
theorem IV (s:ae):∀ (ts pre:List cN),s.data.toList=bJ (pre++ts)→((place (bJ pre).length ts).map (itG s)).map jB=ts.map zgb
 |[],pre,_=>rfl
 |t::ts,pre,h=>by
  have e:(bJ pre).length+t.bs.length=(bJ (pre++[t])).length:=by rw[kp,aa];simp[bJ]
  show jB (itG s ⟨(bJ pre).length,t.bs.length,t.r⟩)::((place ((bJ pre).length+t.bs.length) ts).map (itG s)).map jB=_
  rw[e,IV s ts (pre++[t]) (by rw[h];simp),av]
  congr 1
  unfold jB itG zgb
  have hb:(⟨(bJ pre).length,t.bs.length,t.r⟩:Pc).broken=t.broken:=rfl
  rw[hb]
  have ht:s.extract (bJ pre).length ((bJ pre).length+t.bs.length)=⟨t.bs.toArray⟩:=by
   apply _root_.ByteArray.ext;apply fv.1
   rw[mP,h,kp,ko]
   simp
  simp only[ht]
theorem IW (s:ae):(fQ s).map jB=(dK s.data.toList).map zgb:=by
 unfold fQ eA
 rw[HL]
 have:=IV s (dK s.data.toList) [] (by rw[aW,pa])
 exact this
theorem yG (s:ae):(kq s).map mi=je (dK s.data.toList):=by
 unfold je kq
 rw[←IW,Q8,Q6]
theorem IX (s:ae):iH s=FT (dK s.data.toList):=by
 unfold iH FT
 rw[←yG,rz]
 exact sF fun c _=>(Q9 c).symm
def ji (r:Int):bc:=⟨r,ac r,0⟩
theorem DZ {t:cN} (h:t.valid):zgb t=ji (t.r:Int):=by
 unfold zgb ji
 rw[vP h]
 have:(⟨t.bs.toArray⟩:ae)=ac (t.r:Int):=by
  apply _root_.ByteArray.ext;apply fv.1
  rw[mW,←h.2]
 rw[this];rfl
theorem IY {r:Int} (h:cW r=false):ic r=[r]:=by
 unfold ic
 cases e:zbO r tabS with
 |none=>rfl
 |some p=>have:=(DF e).2.2;rw[h] at this;cases this
theorem Ra (r:Int):jd (ji r)=(ic r).map ji:=by
 unfold jd
 cases h:dI (ji r) with
 |true=>rfl
 |false=>rw[IY (show cW r=false from h)];rfl
theorem IZ (rs:List Int):apL (rs.map ji)=(rs.flatMap ic).map ji:=by
 unfold apL
 induction rs with
 |nil=>rfl
 |cons r rs a=>rw[av,aK,aK,cQ,a,Ra]
def jL (r:Int):cN:=⟨r.toNat,encodeRune r⟩
theorem wA {r:Int} (h:vr r):(jL r).valid:=by
 unfold vr at h
 refine⟨?_,?_⟩
 ·show r.toNat<55296∨_;simp only[jL];omega
 ·show encodeRune r=encodeRune ((r.toNat:Nat):Int)
  rw[show ((r.toNat:Nat):Int)=r by omega]
theorem Rb {rs:List Int} (h:∀r∈rs,vr r):dK (iL rs).data.toList=rs.map jL:=by
 have e:(iL rs).data.toList=bJ (rs.map jL):=by
  rw[zip]
  clear h
  induction rs with
  |nil=>rfl
  |cons r rs a=>
   rw[iN,av,ko,←a]
   have:(ac r).data.toList=encodeRune r:=mW r
   show (ac r++J ac rs).data.toList=encodeRune r++_
   rw[←this];simp
 rw[e]
 have:=C5 (vs:=rs.map jL) (fun t ht=>by obtain⟨r,hr,rfl⟩:=aS.1 ht;exact wA (h r hr)) []
 simpa [uk] using this
theorem Rc {rs:List Int} (h:∀r∈rs,vr r):iH (iL rs)=J oS (cl ((rs.flatMap ic).map ji)):=by
 rw[IX,Rb h]
 unfold FT je
 have:(rs.map jL).map zgb=rs.map ji:=by
  rw[bY]
  refine List.map_congr_left fun r hr=>?_
  have hv:=h r hr
  show zgb (jL r)=ji r
  rw[DZ (wA hv)]
  show ji ((r.toNat:Nat):Int)=ji r
  rw[show ((r.toNat:Nat):Int)=r by unfold vr at hv;omega]
 rw[this,IZ]
end Go.Proofs.YtifpjbgnikjglaaGreatDoor


namespace Go.Proofs.YtifpjbgnikjglaaGreatDoor
open Go.RowKit Go.Lib
open Tryz
set_option linter.unusedVariables false
set_option linter.unusedSimpArgs false
open _root_.Bool renaming and_eq_true→aN,not_true→dx,false_eq_true→bg,not_false→dR
open _root_.ByteArray renaming empty→ad,size_append→aJ,append_assoc→cu,append_empty→aX
open _root_.Go.IntWalk renaming i64_in→ai
open _root_.Go.Proofs.Tryz renaming underlying120→eS,underlying46→cO,underlying9→al,underlying21→aZ,underlying103→bo,underlying127→jF,underlying77→aF,underlying82→s7
open am renaming nil→ah
open Vw renaming get→bX
open _root_.Go.Utf8 renaming encode→ac
open _root_.Go.Value renaming agg→bj,int→aC,bool→ay
open _root_.List renaming mem_of_getElem?→aL,mem_filter→co,length_filter_le→pI,length_map→ar,mem_map→aS,length_append→aa,all_eq_true→bd,foldl_cons→bn,length_cons→ab,length_nil→aI,mem_cons_self→aq,mem_cons_of_mem→ak,map_cons→av,cons_append→bq,append_nil→aE,mem_append→bH,flatMap_cons→aK,singleton_append→pS,mem_cons→aY,map_append→cQ,map_map→bY,filter_cons→ix,filter_eq_self→qT,filter_eq_nil_iff→pm
open _root_.List.cons renaming inj→mM
open _root_.Nat renaming zero_add→bL,zero_le→cm,le_refl→bi
open _root_.Option.some renaming inj→mo
open _root_.Prod renaming fst→bv
def zc8 (e:List cY) (g:ae→Option ae) (d:ae→Int→Option ae) (a:ae) (c:Int):Option ae := aM (decide ((c:Int)<(e.length:Int))) (cn (fun (f:ae→Option ae)=>aT (zcx e c) fun (b:cY)=>aM (decide ((b.base:Int)<0)) (aU (a.size+1≤140737488355328) <|aU (∀x∈([b.broken]:List Int),U8 x) <|f (a++(jp [b.broken]))) (aT (yw b) fun (r1:ae)=>aU (a.size+r1.size≤140737488355328) <|f (a++r1))) (fun (h:ae)=>aU (cp (c+1)) <|d h (c+1))) (g a)
def yH (a:List cY):Option ae := cn (fun (b:ae→Option ae)=>zaC (fun _ _=>none) (zc8 a b) zbC ad 0) (fun (b1:ae)=>some b1)
theorem Re {d m:Value} {a:List (cY×Hd×Hd)} {w:Nat} {t:List (cY×Hd×Hd)} {s:List cY} (f:Vw d a 5 w m t) (o:t.map bv=s) {r:ae} (h:yH s=some r):Fn prog 75 [m,.func (.func 134) #[] #[]] [mZ d a,own iv a] (fun _b:Unit=>.string r) (fun _b=>[mZ d a,own iv a]):=by
 unfold yH at h
 refine _root_.Go.Proofs.YtifpjbgnikjglaaGreatDoor.Fn.intro func75 rfl ntmps75 (by simp) (fun w0 K=>zbp h fun y G h=>zaM (β:=ae×Value) 2 rfl (fun b=>y b.1=some r) (fun b=>[]) (fun b=>[(5,b.2)]) (fun b=>[mZ d a,own iv a,byt 5 b.2 b.1]) (fun cut=>?_) ?_)
 ·refine zyG (zyR 1 rfl (zyH (zyR 1 rfl (zyN (cut (zyG (zyR 1 rfl (Co o f rfl dc rfl eS (zyR 1 rfl (zyN (zau (xr (e:=5) (eO (β:=Nat×ae×Int×Value) (fun b=>zaC (fun _ _=>none) (zc8 s y) b.1 b.2.1 b.2.2.1=some r) (fun b=>[]) (fun b=>[(1,.func (.func 134) #[] #[]),(5,b.2.2.2),(8,m),(9,zI (s.length:Int)),(10,zI b.2.2.1)]) (fun b=>[mZ d a,own iv a,byt 5 b.2.2.2 b.2.1]) (fun b=>b.1) (zbC,ad,0,(.slice none 0 0)) h rfl (bE rfl) (cj 3) ?_)))))))))))))
  rintro⟨x,z,u,Q⟩ h
  cases x with
  |zero=>exact eG h
  |succ x=>
   obtain⟨M,p⟩:∃ag,ag=zaC (fun _ _=>none) (zc8 s y) x:=⟨_,rfl⟩
   have h:zc8 s y M z u=some r:=by rw[p];exact h
   unfold zc8 at h
   refine zyG (zaR rfl zbi (zyN (zaL (zyB rfl h (fun h=>?_) (fun h=>?_)))))
   ·refine bA (ct (zbp h fun S F h=>zaM (β:=ae×Value) 0 rfl (fun b=>S b.1=some r) (fun b=>[]) (fun b=>[(1,.func (.func 134) #[] #[]),(5,b.2),(8,m),(9,zI (s.length:Int)),(10,zI u)]) (fun b=>[mZ d a,own iv a,byt 5 b.2 b.1]) (fun cut=>?_) ?_))
    ·refine cut (zau (zyG (zbl h fun c E h=>?_)))
     obtain⟨⟨l,g⟩,n⟩:=xq o E
     exact fm f n eS sj rfl dc rfl rfl rfl (mz (i:=w+(u:Int).toNat) (j:=0) (k:=0) (q:=(c,(l,g))) (cs:=[zI c.at_,.int .u8 c.broken,.int .i32 c.base,l.v,g.v]) qw o9 rfl dc rfl rfl (bX f n) rfl rfl rfl (zbk Ag rfl dc (fun V=>eK (k:=3) (vs:=[zI c.at_,.int .u8 c.broken,.int .i32 c.base,l.v,g.v]) (l':=[zI c.at_,.int .u8 c.broken,.int .i32 c.base,l.v,g.v]) sj rfl rfl rfl rfl rfl (show _≤_ by simp) rfl rfl (zyH (zab zgo rfl dc rfl (show _=2 from rfl) (zat (k:=3) eP rfl dc rfl rfl rfl (zaR rfl zbi (zyN (zyB rfl h (fun h=>bV (zyR 1 rfl (zab CC rfl dc rfl (show _=1 from rfl) (zat (k:=3) Cu rfl dc rfl rfl rfl (fE (cs:=[.int .u8 c.broken]) (te:=5) (ps:=[(0,.tmp 19)]) rfl dc rfl (fun _=>by kernel_rfl) (fun U=>zbt h fun L h=>zbt h fun J h=>zM (k:=2) (k2:=4) (ys:=(jp [c.broken])) cO qu rfl dc rfl rfl rfl rfl (Cm J) rfl L (fun O=>zyR 1 rfl (bG (ca (mD (z++(jp [c.broken]),O) h 3)))))))))) (fun h=>bV (zyR 2 rfl (zbT (k:=3) (cs:=[zI c.at_,.int .u8 c.broken,.int .i32 c.base,l.v,g.v]) qw rfl dc rfl rfl rfl rfl (qs (k:=1) rfl (xp (bX f n)) (fun _ _=>zbl h fun r1 D h=>oZ (v:=.string r1) (vs:=[.agg #[zI c.at_,.int .u8 c.broken,.int .i32 c.base,l.v,g.v]]) rfl dc rfl rfl rfl Od (PN (u1:=c) (_j:=l) (_i:=g) D) [4,5] kr rfl (zbt h fun I h=>ub (k:=2) cO al qu rfl dc rfl rfl rfl I (fun N=>zyR 1 rfl (bG (ca (tj (k:=1) rfl (cg [4,5] kr rfl) rfl (ue (nest:=iv) (bX f n) rfl) (mD (z++r1,N) h 3))))))))))))))))))))
    rintro⟨T,P⟩ h
    rw[F] at h
    refine bV (zbt h fun H h=>zaR rfl (dE (r:=u+1) (ai _ H)) (zyR 1 rfl (bG ?_)))
    subst p
    exact aD (x,T,u+1,P) h 3
   exact dF (bU (bU (dG (mD (z,Q) h 3))))
 rintro⟨b1,v1⟩ h
 rw[G] at h
 refine zyG (zyR 1 rfl (qq (k:=2) rfl dc rfl rfl cO underlying5 al (zyR 1 rfl (zyN (zaz ?_)))))
 cases h
 exact eB (rs:=[.tmp 4]) () (.inl rfl) results75 (.cons (.tmp rfl) .nil) rfl (cj 2)
def wB (a:ae):Option ae := aT (tE a) fun (r1:(List cY))=>aT (yH r1) fun (r2:ae)=>some r2
theorem I0 {a:ae} {r:ae} (h:wB a=some r):dB prog 85 [.string a] (.string r):=by
 unfold wB at h
 refine dB.intro func85 rfl ntmps85 (by simp) (fun w0 K=>zyG (zyR 1 rfl (zyH (zyR 1 rfl (zbl h fun r1 e h=>zbJ (vs:=[.string a]) rfl dc rfl rfl rfl CO (DN e) ah (fun v1=>Ce (k:=0) rfl (fun g f=>?_)))))))
 subst f
 refine qs (k:=0) rfl vx (fun i b=>kj (k:=0) rfl (fun c=>zbl h fun r2 d h=>oZ (v:=.string r2) (vs:=[g.v,.func (.func 134) #[] #[]]) rfl dc rfl rfl rfl CN (Re c b d) [0,1] kr rfl (zyR 1 rfl (zyN (zaz ?_)))))
 cases h
 exact cZ 2 results85
def wC (a:ae):Option ae := aT (rr a) fun (r1:(List bK))=>aT (uw r1) fun (r2:(List bK))=>aT (uu r2) fun (r3:ae)=>some r3
theorem I1 {a:ae} {r:ae} (h:wC a=some r):dB prog 96 [.string a] (.string r):=by
 unfold wC at h
 refine dB.intro func96 rfl ntmps96 (by simp) (fun w0 K=>zyG (zyR 1 rfl (zyH (zyR 1 rfl (zbl h fun r1 f h=>zbJ (vs:=[.string a]) rfl dc rfl rfl rfl vJ (wi f) ah (fun v1=>kj (k:=0) rfl (fun c=>zbl h fun r2 e h=>zbJ (vs:=[v1]) rfl dc rfl rfl rfl CF (Dv c e) (cj 1) (fun g=>kj (k:=2) rfl (fun b=>zbl h fun r3 d h=>kZ (v:=.string r3) (vs:=[g]) (Rd.nil:Rd _ _ []) rfl dc rfl rfl rfl CQ (Dt b d) (.own (As:=[eI g r2]) (cg [2] kr rfl) (fun _ _ h=>oo js (aP.one1.1 h)) .nil) (zyR 1 rfl (zyN (zaz ?_))))))))))))
 cases h
 exact cZ 2 results96
theorem Rf (a:cY→ae) (l:List cY) (d:l.length≤1048576) (h:∀u∈l,u.base<0∧U8 u.broken∨0≤u.base∧yw u=some (a u)∧(a u).size≤1048576):yH l=some (J (wr a) l):=by
 unfold yH
 refine cA ((qE (xs:=l) (f:=fun b u=>b++wr a u) (J:=some) (fun k b=>b.size≤k*1048576) ?_ ?_ ?_ (kF (by omega)) (by decide)).trans rfl)
 ·intro ag k u b hu hb
  have hk:=n0 hu
  unfold zc8
  refine bQ (mE hu) (cA (bf (lX hu) ?_))
  rcases h u (aL hu) with⟨h1,h2⟩|⟨h1,h2,h3⟩
  ·exact bQ (au h1) (gO (zdG (by simpa using h2) (zdG (jt (by omega)) (by simp only[wr,ax h1]))))
  ·exact fP (bf h2 (gO (zdG (jt (by omega)) (by simp only[wr,ap (show ¬u.base<0 by omega)]))))
 ·intro k u b hu hb
  have c:(wr a u).size≤1048576:=by
   rcases h u (aL hu) with⟨h1,h2⟩|⟨h1,h2,h3⟩
   ·unfold wr;rw[ax h1,Ca];simp
   ·unfold wr;rw[ap (by omega)];exact h3
  rw[aJ];omega
 ·intro ag b _;unfold zc8;exact bM me rfl
def I2 (s:ae):ae:=J (fun c=>c.1.Text) (kq s)
def pB (c:bc×List bc):ae:=J (·.Text) (mg c)
def fY (s:ae):ae:=J pB (kq s)
theorem I3 (l:List bc) (h:∀m∈l,isM m=true∧k7 m):iL (l.map (·.Rune))=J (·.Text) l:=by
 rw[zip,rz]
 refine sF fun m hm=>?_
 obtain⟨h1,h2⟩:=h m hm
 rcases h2.2 with⟨h3,_⟩|⟨_,h3⟩
 ·have:eE m.Rune=true:=h1
  unfold eE at this;simp at this;omega
 ·exact h3.symm
theorem Rg {a:List bc} {P:bc→Prop} (h:∀m∈a,P m):(∀m∈loI a,P m)∧∀m∈hiI a,P m :=
 ⟨fun m hm=>h m (co.1 hm).1,fun m hm=>h m (co.1 hm).1⟩
theorem yI (a:List bc):(loI a).length≤a.length∧(hiI a).length≤a.length:=⟨pI _ _,pI _ _⟩
theorem I4 (s:ae) (d:s.size≤65536):wB s=some (fY s):=by
 unfold wB
 obtain⟨i,hc⟩:=tF d
 refine bf (DP s d) (bf (Rf (fun u=>((ac u.base)++(iL u.low))++(iL u.high)) _ (by rw[ar];omega) ?_) ?_)
 ·intro u hu
  obtain⟨c,a,rfl⟩:=aS.1 hu
  obtain⟨h1,_,_,k⟩:=hc c a
  rcases wz c h1 with⟨b,h,_⟩|⟨b,h,g,g4⟩
  ·exact .inl ⟨b,h⟩
  ·have j:=yI c.2
   have e1:(fr c).low.length≤196608:=by rw[g4];simp;omega
   have e2:(fr c).high.length≤196608:=by rw[g4];simp;omega
   have n:=A2 (fr c).low
   have m:=A2 (fr c).high
   have l:=mh (fr c).base
   refine .inr ⟨b,?_,?_⟩
   ·unfold yw
    exact gO (zdG (by rw[aJ];omega) rfl)
   ·rw[aJ,aJ]
    have:(fr c).low.length+(fr c).high.length≤196608:=by
     rw[g4];have:=qG c.2;rw[aa] at this;simp;omega
    omega
 ·rw[DX _ pB s d (fun c a h0=>by
   obtain⟨h1,h2,_⟩:=hc c a
   obtain⟨e,f⟩:=Rg h2
   rcases wz c h1 with⟨_,_,g,_⟩|⟨b,h,g,g4⟩
   ·omega
   ·rw[g4]
    show ac c.1.Rune++iL ((loI c.2).map (·.Rune))++iL ((hiI c.2).map (·.Rune))=_
    rw[I3 _ e,I3 _ f]
    unfold pB mg
    rw[iN,yF,g,cu]) (fun c a h0=>by
   obtain⟨_,_,h3,_⟩:=hc c a
   unfold pB mg
   rw[h3 (A0 h0)]
   show J _ [c.1]=_
   rw[iN,pA,aX])];rfl
theorem I5 (s:ae) (b:s.size≤65536):wC s=some (fY s):=by
 unfold wC
 have h3:(fQ s).length≤s.size:=by unfold fQ;simpa using p6 s
 have a:=DT (wy (s:=s))
 have c:=uC (fQ s)
 have h5:=tG (apL (fQ s))
 refine bf (wt s (by omega)) (bf (DM _ (fun x hx=>(wy x hx).1) (by omega)) ?_)
 have hsz:oQ (lD (apL (fQ s)))≤(lD (apL (fQ s))).length*4:=IR (fun x hx=>tH (a x (QU hx)))
 refine bf (DB _ (by omega) (by omega)) ?_
 rw[II]
 show some (J _ ((kq s).flatMap mg))=_
 rw[DR];rfl
def zdK (u1:cY) (f:List (zam×Int)) (j:Int→(List Int)→Option ae) (i:Int→(List Int)→Bool→Int→Option ae) (e:Int) (a:List Int) (c:Bool) (g:Int):Option ae := aM (decide ((g:Int)<(u1.low.length:Int))) (cn (fun (h:Int→(List Int)→Bool→Option ae)=>aT (zcx u1.low g) fun (q1:Int)=>aM ((zbO (⟨e,q1⟩:zam) f).isSome) (aM (c) (h ((zbO (⟨e,q1⟩:zam) f).getD 0) a c) (aU (a.length+1≤2147483648) <|h e (a++[q1]) false)) (aU (a.length+1≤2147483648) <|h e (a++[q1]) false)) (fun (u8:Int) (b:List Int) (d:Bool)=>aU (cp (g+1)) <|i u8 b d (g+1))) (j e a)
def zc0 (u1:cY) (f:List (zam×Int)) (k:Int→(List Int)→Option ae) (j:Int→(List Int)→Bool→Int→Option ae) (c:Int) (a:List Int) (d:Bool) (g:Int):Option ae := aM (decide ((g:Int)<(u1.high.length:Int))) (cn (fun (i:Int→(List Int)→Bool→Option ae)=>aT (zcx u1.high g) fun (q2:Int)=>aM ((zbO (⟨c,q2⟩:zam) f).isSome) (aM (d) (i ((zbO (⟨c,q2⟩:zam) f).getD 0) a d) (aU (a.length+1≤2147483648) <|i c (a++[q2]) false)) (aU (a.length+1≤2147483648) <|i c (a++[q2]) false)) (fun (h:Int) (b:List Int) (e:Bool)=>aU (cp (g+1)) <|j h b e (g+1))) (k c a)
def wD (u1:cY) (d:List (zam×Int)):Option ae := aT (sB u1) fun (r1:Bool)=>aM (!r1) (some (ac u1.base)) (cn (fun (j:Int→(List Int)→Option ae)=>cn (fun (i:Int→(List Int)→Option ae)=>zaC (fun _ _ _ _=>none) (zdK u1 d i) zbC u1.base ([]:List Int) true 0) (fun (g:Int) (c:List Int)=>cn (fun (h:Int→(List Int)→Option ae)=>zaC (fun _ _ _ _=>none) (zc0 u1 d h) zbC g c true 0) (fun (f:Int) (b:List Int)=>j f b))) (fun (e:Int) (a:List Int)=>aU ((ac e).size+(iL a).size≤9223372036854775807) <|some ((ac e)++(iL a))))
theorem Rh {u1:cY} {_j _i:Hd} {_o _n:Nat} {d:List (zam×Int)} {r:ae} (h:wD u1 d=some r):Fn prog 77 [.agg #[zI u1.at_,.int .u8 u1.broken,.int .i32 u1.base,_j.v,_i.v],zP _o] [er _j.v u1.low,er _i.v u1.high,cells _o [.map (some _n)] 115,cG (fun p:zam=>bj #[.int .i32 p.e0,.int .i32 p.e1]) (fun n:Int=>aC .i32 n) _n d] (fun _b:Unit=>.string r) (fun _b=>[er _j.v u1.low,er _i.v u1.high,cells _o [.map (some _n)] 115,cG (fun p:zam=>bj #[.int .i32 p.e0,.int .i32 p.e1]) (fun n:Int=>aC .i32 n) _n d]):=by
 unfold wD at h
 refine _root_.Go.Proofs.YtifpjbgnikjglaaGreatDoor.Fn.intro func77 rfl ntmps77 (by simp) (fun w0 K=>zyG (zeV rfl dc rfl (fun b1=>zyR 1 rfl (zyN (zaL (zyG (zbT (k:=4) (cs:=[zI u1.at_,.int .u8 u1.broken,.int .i32 u1.base,_j.v,_i.v]) qw rfl dc rfl rfl rfl rfl (zbl h fun r1 W h=>oZ (v:=.bool r1) (vs:=[.agg #[zI u1.at_,.int .u8 u1.broken,.int .i32 u1.base,_j.v,_i.v]]) rfl dc rfl rfl rfl Ao (AN (u1:=u1) (_j:=_j) (_i:=_i) W) [0,1] kr rfl (jU rfl dc rfl jV (zyN (zyB rfl h (fun h=>?_) (fun h=>?_))))))))))))
 ·refine zyG (zab zgo rfl dc rfl (show _=2 from rfl) (zat (k:=4) eP rfl dc rfl rfl rfl (zdi rfl dc rfl (lJ aZ al) (zyR 1 rfl (zyN (zaz (bP ?_)))))))
  cases h
  exact eB (rs:=[.tmp 3]) () (.inl rfl) results77 (.cons (.tmp rfl) .nil) rfl (cj 4)
 refine bA (ct (zbp h fun j1 a0 h=>zaM (β:=Int×(List Int)×Hd) 1 rfl (fun b=>j1 b.1 b.2.1=some r) (fun b=>[]) (fun b=>[(2,zP b1),(4,b.2.2.v)]) (fun b=>[cells _o [.map (some _n)] 115,cG (fun p:zam=>bj #[.int .i32 p.e0,.int .i32 p.e1]) (fun n:Int=>aC .i32 n) _n d,er _j.v u1.low,er _i.v u1.high,cells b1 [zI u1.at_,.int .u8 u1.broken,.int .i32 b.1,_j.v,_i.v] 123,er b.2.2.v b.2.1]) (fun cut=>?_) ?_))
 ·refine zyG (zyR 1 rfl (zyN (cut (zyG (zab Ae rfl dc rfl (show _=3 from rfl) (zat (k:=4) vH rfl dc rfl rfl rfl (zab Af rfl dc rfl (show _=4 from rfl) (zat (k:=4) vH rfl dc rfl rfl rfl (zbb (v:=.agg #[_j.v,_i.v]) (ps:=[(0,.tmp 19),(1,.tmp 21)]) rfl dc rfl (fun _=>by kernel_rfl) (zyR 1 rfl (zyN (zau (Gf 3 (ud (zyG (zaR rfl (ua (show ay (decide ((0:Int)<2))=ay true from aH ay dc) zbi) (zyN (zaL (gM rfl (bA (ct (zbp h fun U aw h=>zaM (β:=Int×(List Int)×Hd) 0 rfl (fun b=>U b.1 b.2.1=some r) (fun b=>[]) (fun b=>[(1,zP _o),(2,zP b1),(4,b.2.2.v),(22,.agg #[_j.v,_i.v]),(23,zI 0)]) (fun b=>[cells _o [.map (some _n)] 115,cG (fun p:zam=>bj #[.int .i32 p.e0,.int .i32 p.e1]) (fun n:Int=>aC .i32 n) _n d,er _j.v u1.low,er _i.v u1.high,cells b1 [zI u1.at_,.int .u8 u1.broken,.int .i32 b.1,_j.v,_i.v] 123,er b.2.2.v b.2.1]) (fun cut=>?_) ?_))))))))))))))))))))))
  ·refine cut (zau (zyG (mS (v:=_j.v) rfl dc rfl rfl (fun _=>by kernel_rfl) (zyR 1 rfl (zyH (zyR 1 rfl (zyH (zyR 1 rfl (gK (k:=0) rfl dc rfl rfl bo (zyR 1 rfl (bG (ct (zau (mU (enc:=(kl (.i32))) (e:=21) (size:=1) (eO (β:=Nat×Int×(List Int)×Bool×Int×Hd) (fun b=>zaC (fun _ _ _ _=>none) (zdK u1 d U) b.1 b.2.1 b.2.2.1 b.2.2.2.1 b.2.2.2.2.1=some r) (fun b=>[]) (fun b=>[(1,zP _o),(2,zP b1),(4,b.2.2.2.2.2.v),(7,.bool b.2.2.2.1),(22,.agg #[_j.v,_i.v]),(23,zI 0),(26,_j.v),(27,zI (u1.low.length:Int)),(28,zI b.2.2.2.2.1)]) (fun b=>[cells _o [.map (some _n)] 115,cG (fun p:zam=>bj #[.int .i32 p.e0,.int .i32 p.e1]) (fun n:Int=>aC .i32 n) _n d,er _j.v u1.low,er _i.v u1.high,cells b1 [zI u1.at_,.int .u8 u1.broken,.int .i32 b.2.1,_j.v,_i.v] 123,er b.2.2.2.2.2.v b.2.2.1]) (fun b=>b.1) (zbC,u1.base,([]:List Int),true,0,Hd.nil) h rfl (bE rfl) (cg [2,3,0,1,4,5] kr rfl) ?_)))))))))))))))
   rintro⟨S,x,f,w,H,M⟩ h
   cases S with
   |zero=>exact eG h
   |succ S=>
    obtain⟨b9,D⟩:∃ag,ag=zaC (fun _ _ _ _=>none) (zdK u1 d U) S:=⟨_,rfl⟩
    have h:zdK u1 d U b9 x f w H=some r:=by rw[D];exact h
    unfold zdK at h
    refine zyG (zaR rfl zbi (zyN (zaL (zyB rfl h (fun h=>?_) (fun h=>?_)))))
    ·refine bA (ct (zbp h fun j3 ao h=>zaM (β:=Int×(List Int)×Bool×Hd) 0 rfl (fun b=>j3 b.1 b.2.1 b.2.2.1=some r) (fun b=>[]) (fun b=>[(1,zP _o),(2,zP b1),(4,b.2.2.2.v),(7,.bool b.2.2.1),(22,.agg #[_j.v,_i.v]),(23,zI 0),(26,_j.v),(27,zI (u1.low.length:Int)),(28,zI H)]) (fun b=>[cells _o [.map (some _n)] 115,cG (fun p:zam=>bj #[.int .i32 p.e0,.int .i32 p.e1]) (fun n:Int=>aC .i32 n) _n d,er _j.v u1.low,er _i.v u1.high,cells b1 [zI u1.at_,.int .u8 u1.broken,.int .i32 b.1,_j.v,_i.v] 123,er b.2.2.2.v b.2.1]) (fun cut=>?_) ?_))
     ·refine cut (zau (zyG (zbl h fun q1 L h=>eY (k:=2) L bo k6 rfl dc rfl rfl rfl rfl (fW (i:=(H:Int).toNat) (j:=0) (k:=2) (q:=q1) eP jI rfl dc rfl rfl (ep L) rfl dc rfl (zyR 1 rfl (zyH (zat (k:=0) xv rfl dc rfl rfl rfl (zab zgo rfl dc rfl (show _=2 from rfl) (zat (k:=4) eP rfl dc rfl rfl rfl (zyR 1 rfl (zbb (v:=.agg #[.int .i32 x,.int .i32 q1]) (ps:=[(0,.tmp 35),(1,.tmp 36)]) rfl dc rfl (fun _=>by kernel_rfl) (zkQ (k:=1) (ek:=(fun p:zam=>bj #[.int .i32 p.e0,.int .i32 p.e1])) (ev':=(fun n:Int=>aC .i32 n)) (kk:=(⟨x,q1⟩:zam)) (z0:=0) (Cr (f0:=fun p:zam=>p.e0) (f1:=fun p:zam=>p.e1) (fun a b h1 h2=>by cases a;cases b;simp_all) jF aZ k6) underlying115 kr rfl dc rfl rfl rfl (zyR 1 rfl (eT rfl dc rfl rfl (eT rfl dc rfl rfl (zyR 2 rfl (zyH (zyR 2 rfl (zyS (s:=42) rfl h (fun h=>?_) (fun h=>?_))))))))))))))))))))
      ·refine zyR 2 rfl (zyN (zyB rfl h (fun h=>bV (zyR 1 rfl (zab zgo rfl dc rfl (show _=2 from rfl) (ef (k:=4) (l':=[zI u1.at_,.int .u8 u1.broken,.int .i32 ((zbO (⟨x,q1⟩:zam) d).getD 0),_j.v,_i.v]) k6 rfl rfl rfl rfl rfl (fun _ _=>rfl) rfl (bG (ca (mD (((zbO (⟨x,q1⟩:zam) d).getD 0),f,w,M) h 6))))))) (fun h=>zyG (zyR 2 rfl (fE (cs:=[.int .i32 q1]) (te:=21) (ps:=[(0,.tmp 48)]) rfl dc rfl (fun _=>by kernel_rfl) (fun b2=>zbt h fun a7 h=>iC (k:=5) (k2:=6) (ys:=[q1]) bo tk jI tg rfl dc rfl rfl rfl rfl rfl rfl a7 (fun v1=>iq (k:=5) rfl (fun b0 bh=>?_))))))))
       subst bh
       exact zyR 1 rfl (zyN (bV (zyR 1 rfl (bG (ca (mD (x,f++[q1],false,b0) h 6))))))
      refine zyR 2 rfl (zyN (eh rfl (zyG (zyR 2 rfl (fE (cs:=[.int .i32 q1]) (te:=21) (ps:=[(0,.tmp 48)]) rfl dc rfl (fun _=>by kernel_rfl) (fun b3=>zbt h fun a6 h=>iC (k:=5) (k2:=6) (ys:=[q1]) bo tk jI tg rfl dc rfl rfl rfl rfl rfl rfl a6 (fun v2=>iq (k:=5) rfl (fun bs bb=>?_))))))))
      subst bb
      exact zyR 1 rfl (zyN (bV (zyR 1 rfl (bG (ca (mD (x,f++[q1],false,bs) h 6))))))
     rintro⟨u8,o,F,b6⟩ h
     rw[ao] at h
     refine bV (zbt h fun a5 h=>zaR rfl (dE (r:=H+1) (ai _ a5)) (zyR 1 rfl (bG ?_)))
     subst D
     exact aD (S,u8,o,F,H+1,b6) h 6
    exact dF (bU (bU (dG (ca (mD (x,f,M) h 6)))))
  rintro⟨u3,t,b7⟩ h
  rw[aw] at h
  refine bV (zaR rfl (dE (r:=1) dc) (zyR 1 rfl (bG (xm (ud (zyG (zaR rfl (ua (show ay (decide ((1:Int)<2))=ay true from aH ay dc) zbi) (zyN (zaL (gM rfl (bA (ct (zbp h fun T Z h=>zaM (β:=Int×(List Int)×Hd) 0 rfl (fun b=>T b.1 b.2.1=some r) (fun b=>[]) (fun b=>[(1,zP _o),(2,zP b1),(4,b.2.2.v),(22,.agg #[_j.v,_i.v]),(23,zI 1)]) (fun b=>[cells _o [.map (some _n)] 115,cG (fun p:zam=>bj #[.int .i32 p.e0,.int .i32 p.e1]) (fun n:Int=>aC .i32 n) _n d,er _j.v u1.low,er _i.v u1.high,cells b1 [zI u1.at_,.int .u8 u1.broken,.int .i32 b.1,_j.v,_i.v] 123,er b.2.2.v b.2.1]) (fun cut=>?_) ?_)))))))))))))
  ·refine cut (zau (zyG (mS (v:=_i.v) rfl dc rfl rfl (fun _=>by kernel_rfl) (zyR 1 rfl (zyH (zyR 1 rfl (zyH (zyR 1 rfl (gK (k:=3) rfl dc rfl rfl bo (zyR 1 rfl (bG (ct (zau (eO (β:=Nat×Int×(List Int)×Bool×Int×Hd) (fun b=>zaC (fun _ _ _ _=>none) (zc0 u1 d T) b.1 b.2.1 b.2.2.1 b.2.2.2.1 b.2.2.2.2.1=some r) (fun b=>[]) (fun b=>[(1,zP _o),(2,zP b1),(4,b.2.2.2.2.2.v),(7,.bool b.2.2.2.1),(22,.agg #[_j.v,_i.v]),(23,zI 1),(26,_i.v),(27,zI (u1.high.length:Int)),(28,zI b.2.2.2.2.1)]) (fun b=>[cells _o [.map (some _n)] 115,cG (fun p:zam=>bj #[.int .i32 p.e0,.int .i32 p.e1]) (fun n:Int=>aC .i32 n) _n d,er _j.v u1.low,er _i.v u1.high,cells b1 [zI u1.at_,.int .u8 u1.broken,.int .i32 b.2.1,_j.v,_i.v] 123,er b.2.2.2.2.2.v b.2.2.1]) (fun b=>b.1) (zbC,u3,t,true,0,b7) h rfl (bE rfl) (cj 6) ?_))))))))))))))
   rintro⟨Q,g,c,u,G,y⟩ h
   cases Q with
   |zero=>exact eG h
   |succ Q=>
    obtain⟨b8,z⟩:∃ag,ag=zaC (fun _ _ _ _=>none) (zc0 u1 d T) Q:=⟨_,rfl⟩
    have h:zc0 u1 d T b8 g c u G=some r:=by rw[z];exact h
    unfold zc0 at h
    refine zyG (zaR rfl zbi (zyN (zaL (zyB rfl h (fun h=>?_) (fun h=>?_)))))
    ·refine bA (ct (zbp h fun j5 Y h=>zaM (β:=Int×(List Int)×Bool×Hd) 0 rfl (fun b=>j5 b.1 b.2.1 b.2.2.1=some r) (fun b=>[]) (fun b=>[(1,zP _o),(2,zP b1),(4,b.2.2.2.v),(7,.bool b.2.2.1),(22,.agg #[_j.v,_i.v]),(23,zI 1),(26,_i.v),(27,zI (u1.high.length:Int)),(28,zI G)]) (fun b=>[cells _o [.map (some _n)] 115,cG (fun p:zam=>bj #[.int .i32 p.e0,.int .i32 p.e1]) (fun n:Int=>aC .i32 n) _n d,er _j.v u1.low,er _i.v u1.high,cells b1 [zI u1.at_,.int .u8 u1.broken,.int .i32 b.1,_j.v,_i.v] 123,er b.2.2.2.v b.2.1]) (fun cut=>?_) ?_))
     ·refine cut (zau (zyG (zbl h fun q2 J h=>eY (k:=3) J bo k6 rfl dc rfl rfl rfl rfl (fW (i:=(G:Int).toNat) (j:=0) (k:=3) (q:=q2) eP jI rfl dc rfl rfl (ep J) rfl dc rfl (zyR 1 rfl (zyH (zat (k:=0) xv rfl dc rfl rfl rfl (zab zgo rfl dc rfl (show _=2 from rfl) (zat (k:=4) eP rfl dc rfl rfl rfl (zyR 1 rfl (zbb (v:=.agg #[.int .i32 g,.int .i32 q2]) (ps:=[(0,.tmp 35),(1,.tmp 36)]) rfl dc rfl (fun _=>by kernel_rfl) (zkQ (k:=1) (ek:=(fun p:zam=>bj #[.int .i32 p.e0,.int .i32 p.e1])) (ev':=(fun n:Int=>aC .i32 n)) (kk:=(⟨g,q2⟩:zam)) (z0:=0) (Cr (f0:=fun p:zam=>p.e0) (f1:=fun p:zam=>p.e1) (fun a b h1 h2=>by cases a;cases b;simp_all) jF aZ k6) underlying115 kr rfl dc rfl rfl rfl (zyR 1 rfl (eT rfl dc rfl rfl (eT rfl dc rfl rfl (zyR 2 rfl (zyH (zyR 2 rfl (zyS (s:=42) rfl h (fun h=>?_) (fun h=>?_))))))))))))))))))))
      ·refine zyR 2 rfl (zyN (zyB rfl h (fun h=>bV (zyR 1 rfl (zab zgo rfl dc rfl (show _=2 from rfl) (ef (k:=4) (l':=[zI u1.at_,.int .u8 u1.broken,.int .i32 ((zbO (⟨g,q2⟩:zam) d).getD 0),_j.v,_i.v]) k6 rfl rfl rfl rfl rfl (fun _ _=>rfl) rfl (bG (ca (mD (((zbO (⟨g,q2⟩:zam) d).getD 0),c,u,y) h 6))))))) (fun h=>zyG (zyR 2 rfl (fE (cs:=[.int .i32 q2]) (te:=21) (ps:=[(0,.tmp 48)]) rfl dc rfl (fun _=>by kernel_rfl) (fun b4=>zbt h fun a4 h=>iC (k:=5) (k2:=6) (ys:=[q2]) bo tk jI tg rfl dc rfl rfl rfl rfl rfl rfl a4 (fun v3=>iq (k:=5) rfl (fun O a9=>?_))))))))
       subst a9
       exact zyR 1 rfl (zyN (bV (zyR 1 rfl (bG (ca (mD (g,c++[q2],false,O) h 6))))))
      refine zyR 2 rfl (zyN (eh rfl (zyG (zyR 2 rfl (fE (cs:=[.int .i32 q2]) (te:=21) (ps:=[(0,.tmp 48)]) rfl dc rfl (fun _=>by kernel_rfl) (fun b5=>zbt h fun a3 h=>iC (k:=5) (k2:=6) (ys:=[q2]) bo tk jI tg rfl dc rfl rfl rfl rfl rfl rfl a3 (fun v4=>iq (k:=5) rfl (fun N a8=>?_))))))))
      subst a8
      exact zyR 1 rfl (zyN (bV (zyR 1 rfl (bG (ca (mD (g,c++[q2],false,N) h 6))))))
     rintro⟨V,l,E,P⟩ h
     rw[Y] at h
     refine bV (zbt h fun a2 h=>zaR rfl (dE (r:=G+1) (ai _ a2)) (zyR 1 rfl (bG ?_)))
     subst z
     exact aD (Q,V,l,E,G+1,P) h 6
    exact dF (bU (bU (dG (ca (mD (g,c,y) h 6)))))
  rintro⟨u9,m,bk⟩ h
  rw[Z] at h
  exact bV (zaR rfl (dE (r:=2) dc) (zyR 1 rfl (bG (xm (ud (zyG (zaR rfl (ua (show ay (decide ((2:Int)<2))=ay false from aH ay dc) zbi) (zyN (zaL (eh rfl (dF (bU (bU (dG (mD (u9,m,bk) h 6)))))))))))))))
 rintro⟨u2,I,cc⟩ h
 rw[a0] at h
 refine zyG (zab zgo rfl dc rfl (show _=2 from rfl) (zat (k:=4) eP rfl dc rfl rfl rfl (zdi rfl dc rfl (lJ aZ al) (zyR 1 rfl (Ci (k:=5) rfl dc rfl rfl bo aZ al (zbt h fun a1 h=>zaR rfl (lx a1) (zyR 1 rfl (zyN (zaz ?_)))))))))
 cases h
 exact eB (rs:=[.tmp 3]) () (.inl rfl) results77 (.cons (.tmp rfl) .nil) rfl (cg [2,3,0,1] kr rfl)
def zcC (f:List cY) (a:List (zam×Int)) (h:ae→Option ae) (e:ae→Int→Option ae) (b:ae) (d:Int):Option ae := aM (decide ((d:Int)<(f.length:Int))) (cn (fun (g:ae→Option ae)=>aT (zcx f d) fun (c:cY)=>aM (decide ((c.base:Int)<0)) (aU (b.size+1≤140737488355328) <|aU (∀x∈([c.broken]:List Int),U8 x) <|g (b++(jp [c.broken]))) (aT (wD c a) fun (r1:ae)=>aU (b.size+r1.size≤140737488355328) <|g (b++r1))) (fun (i:ae)=>aU (cp (d+1)) <|e i (d+1))) (h b)
def yJ (b:List cY) (a:List (zam×Int)):Option ae := cn (fun (c:ae→Option ae)=>zaC (fun _ _=>none) (zcC b a c) zbC ad 0) (fun (b1:ae)=>some b1)
theorem Ri {g s:Value} {d:List (cY×Hd×Hd)} {D:Nat} {y:List (cY×Hd×Hd)} {x:List cY} (l:Vw g d 5 D s y) (u:y.map bv=x) {c _m:Nat} {a:List (zam×Int)} {r:ae} (h:yJ x a=some r):Fn prog 75 [s,.func (.func 77) #[] #[zP c]] [mZ g d,own iv d,cells c [.map (some _m)] 115,cG (fun p:zam=>bj #[.int .i32 p.e0,.int .i32 p.e1]) (fun n:Int=>aC .i32 n) _m a] (fun _b:Unit=>.string r) (fun _b=>[mZ g d,own iv d,cells c [.map (some _m)] 115,cG (fun p:zam=>bj #[.int .i32 p.e0,.int .i32 p.e1]) (fun n:Int=>aC .i32 n) _m a]):=by
 unfold yJ at h
 refine _root_.Go.Proofs.YtifpjbgnikjglaaGreatDoor.Fn.intro func75 rfl ntmps75 (by simp) (fun w0 K=>zbp h fun F L h=>zaM (β:=ae×Value) 2 rfl (fun b=>F b.1=some r) (fun b=>[]) (fun b=>[(5,b.2)]) (fun b=>[cells c [.map (some _m)] 115,cG (fun p:zam=>bj #[.int .i32 p.e0,.int .i32 p.e1]) (fun n:Int=>aC .i32 n) _m a,mZ g d,own iv d,byt 5 b.2 b.1]) (fun cut=>?_) ?_)
 ·refine zyG (zyR 1 rfl (zyH (zyR 1 rfl (zyN (cut (zyG (zyR 1 rfl (Co u l rfl dc rfl eS (zyR 1 rfl (zyN (zau (xr (e:=5) (eO (β:=Nat×ae×Int×Value) (fun b=>zaC (fun _ _=>none) (zcC x a F) b.1 b.2.1 b.2.2.1=some r) (fun b=>[]) (fun b=>[(1,.func (.func 77) #[] #[zP c]),(5,b.2.2.2),(8,s),(9,zI (x.length:Int)),(10,zI b.2.2.1)]) (fun b=>[cells c [.map (some _m)] 115,cG (fun p:zam=>bj #[.int .i32 p.e0,.int .i32 p.e1]) (fun n:Int=>aC .i32 n) _m a,mZ g d,own iv d,byt 5 b.2.2.2 b.2.1]) (fun b=>b.1) (zbC,ad,0,(.slice none 0 0)) h rfl (bE rfl) (cg [2,3,0,1,4] kr rfl) ?_)))))))))))))
  rintro⟨E,G,z,V⟩ h
  cases E with
  |zero=>exact eG h
  |succ E=>
   obtain⟨Q,w⟩:∃ag,ag=zaC (fun _ _=>none) (zcC x a F) E:=⟨_,rfl⟩
   have h:zcC x a F Q G z=some r:=by rw[w];exact h
   unfold zcC at h
   refine zyG (zaR rfl zbi (zyN (zaL (zyB rfl h (fun h=>?_) (fun h=>?_)))))
   ·refine bA (ct (zbp h fun W J h=>zaM (β:=ae×Value) 0 rfl (fun b=>W b.1=some r) (fun b=>[]) (fun b=>[(1,.func (.func 77) #[] #[zP c]),(5,b.2),(8,s),(9,zI (x.length:Int)),(10,zI z)]) (fun b=>[cells c [.map (some _m)] 115,cG (fun p:zam=>bj #[.int .i32 p.e0,.int .i32 p.e1]) (fun n:Int=>aC .i32 n) _m a,mZ g d,own iv d,byt 5 b.2 b.1]) (fun cut=>?_) ?_))
    ·refine cut (zau (zyG (zbl h fun f I h=>?_)))
     obtain⟨⟨o,m⟩,t⟩:=xq u I
     exact fm l t eS sj rfl dc rfl rfl rfl (mz (i:=D+(z:Int).toNat) (j:=0) (k:=2) (q:=(f,(o,m))) (cs:=[zI f.at_,.int .u8 f.broken,.int .i32 f.base,o.v,m.v]) qw o9 rfl dc rfl rfl (bX l t) rfl rfl rfl (zbk Ag rfl dc (fun b6=>eK (k:=5) (vs:=[zI f.at_,.int .u8 f.broken,.int .i32 f.base,o.v,m.v]) (l':=[zI f.at_,.int .u8 f.broken,.int .i32 f.base,o.v,m.v]) sj rfl rfl rfl rfl rfl (show _≤_ by simp) rfl rfl (zyH (zab zgo rfl dc rfl (show _=2 from rfl) (zat (k:=5) eP rfl dc rfl rfl rfl (zaR rfl zbi (zyN (zyB rfl h (fun h=>bV (zyR 1 rfl (zab CC rfl dc rfl (show _=1 from rfl) (zat (k:=5) Cu rfl dc rfl rfl rfl (fE (cs:=[.int .u8 f.broken]) (te:=5) (ps:=[(0,.tmp 19)]) rfl dc rfl (fun _=>by kernel_rfl) (fun Z=>zbt h fun P h=>zbt h fun O h=>zM (k:=4) (k2:=6) (ys:=(jp [f.broken])) cO qu rfl dc rfl rfl rfl rfl (Cm O) rfl P (fun T=>zyR 1 rfl (bG (ca (mD (G++(jp [f.broken]),T) h 5)))))))))) (fun h=>bV (zyR 2 rfl (zbT (k:=5) (cs:=[zI f.at_,.int .u8 f.broken,.int .i32 f.base,o.v,m.v]) qw rfl dc rfl rfl rfl rfl (qs (k:=3) rfl (xp (bX l t)) (fun _ _=>zbl h fun r1 H h=>oZ (v:=.string r1) (vs:=[.agg #[zI f.at_,.int .u8 f.broken,.int .i32 f.base,o.v,m.v]]) rfl dc rfl rfl rfl NK (Rh (u1:=f) (_j:=o) (_i:=m) (_n:=_m) H) [6,7,0,1] kr rfl (zbt h fun N h=>ub (k:=4) cO al qu rfl dc rfl rfl rfl N (fun S=>zyR 1 rfl (bG (ca (tj (k:=3) rfl (cg [6,7] kr rfl) rfl (ue (nest:=iv) (bX l t) rfl) (mD (G++r1,S) h 5))))))))))))))))))))
    rintro⟨Y,U⟩ h
    rw[J] at h
    refine bV (zbt h fun M h=>zaR rfl (dE (r:=z+1) (ai _ M)) (zyR 1 rfl (bG ?_)))
    subst w
    exact aD (E,Y,z+1,U) h 5
   exact dF (bU (bU (dG (mD (G,V) h 5))))
 rintro⟨b1,v1⟩ h
 rw[L] at h
 refine zyG (zyR 1 rfl (qq (k:=4) rfl dc rfl rfl cO underlying5 al (zyR 1 rfl (zyN (zaz ?_)))))
 cases h
 exact eB (rs:=[.tmp 4]) () (.inl rfl) results75 (.cons (.tmp rfl) .nil) rfl (cg [2,3,0,1] kr rfl)
def uI (a:ae):Option ae := aT (wm) fun (r1:((List (zam×Int))×(List (Int×zam))))=>aT (tE a) fun (r2:(List cY))=>aT (yJ r2 r1.1) fun (r3:ae)=>some r3
theorem I6 {a:ae} {r:ae} (h:uI a=some r):dB prog 35 [.string a] (.string r):=by
 unfold uI at h
 refine dB.intro func35 rfl ntmps35 (by simp) (fun w0 K=>zyG (zyR 1 rfl (zyH (zbl h fun r1 f h=>zbJ (vs:=[]) rfl dc rfl rfl rfl CM (Dx f) ah ?_))))
 rintro⟨b1,m⟩
 refine zyR 1 rfl (eT rfl dc rfl rfl (eT rfl dc rfl rfl (zbk GL rfl dc (fun l=>ef (k:=2) (l':=[.map (some b1)]) GK rfl rfl rfl rfl rfl (fun _ _=>rfl) rfl (zyR 1 rfl (zyH (zyR 1 rfl (zbl h fun r2 e h=>zbJ (vs:=[.string a]) rfl dc rfl rfl rfl CO (DN e) ah (fun v1=>Ce (k:=3) rfl (fun i g=>?_))))))))))
 subst g
 refine ziy (x1:=[]) (x2:=[.tmp 3]) rfl dc rfl rfl (qs (k:=3) rfl vx (fun j b=>kj (k:=3) rfl (fun c=>zbl h fun r3 d h=>oZ (v:=.string r3) (vs:=[i.v,.func (.func 77) #[] #[zP l]]) rfl dc rfl rfl rfl CN (Ri (_m:=b1) c b d) [3,4,2,0] kr rfl (zyR 1 rfl (zyN (zaz ?_))))))
 cases h
 exact cZ 2 results35
def zdD (r2:(List bK)) (y:Int→Int→ae→Int→ae→Option ae) (q:Int→Int→ae→Int→ae→Bool→Bool→Int→Option ae) (j:Int) (d:Int) (g:ae) (f:Int) (a:ae) (c:Bool) (b:Bool) (o:Int):Option ae := aM (decide ((0:Int)<o)) (cn (fun (u:Int→Option ae)=>aT (zcx r2 j) fun (q2:bK)=>aT (wh q2.Rune) fun (v:Bool)=>aM (v) (u 1) (u 0)) (fun (k1:Int)=>cn (fun (p:Int→ae→Int→ae→Bool→Bool→Option ae)=>aT (zcx r2 j) fun (x:bK)=>aT (we d x.Rune) fun (r:Int)=>aM ((r:Int) != 0) (aT (zcx ([c,b]:List Bool) k1) fun (w:Bool)=>aM (!w) (aT (wj r (⟨d,g,f⟩:bK)) fun (n:bK)=>p n.Rune n.Text n.At a c b) (aT (zcx r2 j) fun (t:bK)=>aU (a.size+t.Text.size≤9223372036854775807) <|aT (zcx ([c,b]:List Bool) k1) fun (D:Bool)=>p d g f (a++t.Text) (if (k1:Int).toNat=0 then true else c) (if (k1:Int).toNat=1 then true else b))) (aT (zcx r2 j) fun (s:bK)=>aU (a.size+s.Text.size≤9223372036854775807) <|aT (zcx ([c,b]:List Bool) k1) fun (z:Bool)=>p d g f (a++s.Text) (if (k1:Int).toNat=0 then true else c) (if (k1:Int).toNat=1 then true else b))) (fun (m:Int) (l:ae) (k:Int) (e:ae) (i:Bool) (h:Bool)=>aU (cp (j+1)) <|aU (cp (o-1)) <|q (j+1) m l k e i h (o-1)))) (y j d g f a)
def zdc (g:ae→Option ae) (r2:(List bK)) (d:ae→Int→Option ae) (b:ae) (c:Int):Option ae := aM (decide ((c:Int)<(r2.length:Int))) (aT (zcx r2 c) fun (q1:bK)=>aU (cp (c+1)) <|aT (sy q1) fun (r3:Bool)=>aM (!r3) (aU (b.size+q1.Text.size≤9223372036854775807) <|d (b++q1.Text) (c+1)) (cn (fun (f:Int→Int→ae→Int→ae→Option ae)=>aU (0≤(c+1:Int)∧(c+1:Int)≤(r2.length:Int)∧((r2.length:Int):Int)≤(r2.length:Int)) <|aT (uv (dM r2 (c+1) (r2.length:Int))) fun (e:Int)=>zaC (fun _ _ _ _ _ _ _ _=>none) (zdD r2 f) zbC (c+1) q1.Rune q1.Text q1.At (⟨#[]⟩:ae) false false e) (fun (h:Int) (x1:Int) (x2:ae) (i:Int) (a:ae)=>aU (x2.size+a.size≤9223372036854775807) <|aU (b.size+(x2++a).size≤9223372036854775807) <|d (b++(x2++a)) h))) (g b)
def wE (b:ae):Option ae := cn (fun (c:ae→Option ae)=>aT (rr b) fun (r1:(List bK))=>aT (uw r1) fun (r2:(List bK))=>zaC (fun _ _=>none) (zdc c r2) zbC (⟨#[]⟩:ae) 0) (fun (a:ae)=>some a)
theorem I7 {s1:ae} {r:ae} (h:wE s1=some r):dB prog 13 [.string s1] (.string r):=by
 unfold wE at h
 refine dB.intro func13 rfl ntmps13 (by simp) (fun w0 K=>zbp h fun Z b0 h=>zaM (β:=ae) 3 rfl (fun b=>Z b=some r) (fun b=>[]) (fun b=>[(4,.string b)]) (fun b=>[]) (fun cut=>?_) ?_)
 ·refine zyG (zyR 1 rfl (zyH (zyR 1 rfl (zbl h fun r1 bb h=>zbJ (vs:=[.string s1]) rfl dc rfl rfl rfl vJ (wi bb) ah (fun v1=>kj (k:=0) rfl (fun a2=>zbl h fun r2 a9 h=>zbJ (vs:=[v1]) rfl dc rfl rfl rfl CF (Dv a2 a9) (cj 1) (fun t=>zyR 1 rfl (zyH (zyR 1 rfl (zyN (cut (zyG (zyR 1 rfl (zyN (zau (eO (β:=Nat×ae×Int) (fun b=>zaC (fun _ _=>none) (zdc Z r2) b.1 b.2.1 b.2.2=some r) (fun b=>[]) (fun b=>[(3,t),(4,.string b.2.1),(5,zI b.2.2)]) (fun b=>[eI t r2]) (fun b=>b.1) (zbC,(⟨#[]⟩:ae),0) (by exact h) rfl (bE rfl) (cg [2] kr rfl) ?_))))))))))))))))
  rintro⟨Q,g,O⟩ h
  cases Q with
  |zero=>exact eG h
  |succ Q=>
   obtain⟨c2,y⟩:∃ag,ag=zaC (fun _ _=>none) (zdc Z r2) Q:=⟨_,rfl⟩
   have h:zdc Z r2 c2 g O=some r:=by rw[y];exact h
   unfold zdc at h
   refine zaL (zyG (zyR 2 rfl (gK (k:=0) rfl dc rfl rfl aF (zaR rfl zbi (zyN (zyB rfl h (fun h=>?_) (fun h=>?_)))))))
   ·refine bA (ct (zau (zyG (zyR 2 rfl (zbl h fun q1 U h=>eY (k:=0) U aF gH rfl dc rfl rfl rfl rfl (mz (i:=(O:Int).toNat) (j:=0) (k:=0) (q:=q1) (cs:=(fO q1)) lM js rfl dc rfl rfl (ep U) rfl rfl rfl (zbk zoE rfl dc (fun b1=>eK (k:=1) (vs:=(fO q1)) (l':=(fO q1)) gH rfl rfl rfl rfl rfl (show _≤_ by simp) rfl rfl (zyH (zyR 1 rfl (zbt h fun ch h=>zaR rfl (dE (r:=O+1) (ai _ ch)) (zyR 1 rfl (zyN (zaL (zyG (zbT (k:=1) (cs:=(fO q1)) lM rfl dc rfl rfl rfl rfl (zbl h fun r3 a8 h=>zaI (v:=.bool r3) (vs:=[.agg (fO q1).toArray]) rfl dc rfl rfl rfl xx (yo (x1:=q1) a8) (jU rfl dc rfl jV (zyN (zyB rfl h (fun h=>?_) (fun h=>?_)))))))))))))))))))))
    ·refine zyG (zyR 1 rfl (zab qv rfl dc rfl (show _=1 from rfl) (zat (k:=1) eb rfl dc rfl rfl rfl (zbt h fun cc h=>zaR rfl (lx cc) (zyR 1 rfl (zyN (dF (bU (dG ?_)))))))))
     subst y
     exact aD (Q,g++q1.Text,O+1) h 1
    refine bA (ct (zbp h fun Y bs h=>zaM (β:=Int×Int×ae×Int×ae) 2 rfl (fun b=>Y b.1 b.2.1 b.2.2.1 b.2.2.2.1 b.2.2.2.2=some r) (fun b=>[]) (fun b=>[(3,t),(4,.string g),(5,zI b.1),(6,zP b1),(7,.string b.2.2.2.2)]) (fun b=>[eI t r2,cells b1 [.int .i32 b.2.1,.string b.2.2.1,zI b.2.2.2.1] 81]) (fun cut=>?_) ?_))
    ·refine zyG (zyR 1 rfl (zyH (zbb (v:=.agg #[.bool false,.bool false]) (ps:=[]) rfl dc rfl (fun _=>by kernel_rfl) (zbk MV rfl dc (fun M=>eK (k:=2) (vs:=[.bool false,.bool false]) (l':=[.bool false,.bool false]) MU rfl rfl rfl rfl rfl (show _≤_ by simp) rfl rfl (zyN (cut (zyG (zyR 2 rfl (kj (k:=0) rfl (fun a1=>zbt h fun b9 h=>?_)))))))))))
     obtain⟨v3,a3,a4⟩:=om (lo:=some (zI (O+1))) (hi:=none) a1 aF gH (.inr rfl) (.inl ⟨rfl,rfl⟩) b9
     refine ia rfl dc rfl rfl rfl a4 (zbl h fun r4 a7 h=>oZ (v:=zI r4) (vs:=[v3]) rfl dc rfl rfl rfl CG (Du a3 a7) [0] kr rfl (zyR 1 rfl (zyN (zau (eO (β:=Nat×Int×Int×ae×Int×ae×Bool×Bool×Int) (fun b=>zaC (fun _ _ _ _ _ _ _ _=>none) (zdD r2 Y) b.1 b.2.1 b.2.2.1 b.2.2.2.1 b.2.2.2.2.1 b.2.2.2.2.2.1 b.2.2.2.2.2.2.1 b.2.2.2.2.2.2.2.1 b.2.2.2.2.2.2.2.2=some r) (fun b=>[]) (fun b=>[(3,t),(4,.string g),(5,zI b.2.1),(6,zP b1),(7,.string b.2.2.2.2.2.1),(8,zP M),(9,zI b.2.2.2.2.2.2.2.2)]) (fun b=>[eI t r2,cells b1 [.int .i32 b.2.2.1,.string b.2.2.2.1,zI b.2.2.2.2.1] 81,cells M [.bool b.2.2.2.2.2.2.1,.bool b.2.2.2.2.2.2.2.1] 82]) (fun b=>b.1) (zbC,O+1,q1.Rune,q1.Text,q1.At,(⟨#[]⟩:ae),false,false,r4) (by exact h) rfl (bE rfl) (cj 3) ?_)))))
     rintro⟨W,p,l,o,m,f,e,a,P⟩ h
     cases W with
     |zero=>exact eG h
     |succ W=>
      obtain⟨c0,L⟩:∃ag,ag=zaC (fun _ _ _ _ _ _ _ _=>none) (zdD r2 Y) W:=⟨_,rfl⟩
      have h:zdD r2 Y c0 p l o m f e a P=some r:=by rw[L];exact h
      unfold zdD at h
      refine zaL (zyG (zyR 1 rfl (zaR rfl zdV (zyN (zyB rfl h (fun h=>?_) (fun h=>?_))))))
      ·refine bA (ct (zaL (zau (zbp h fun j3 bk h=>zaM (β:=Int) 1 rfl (fun b=>j3 b=some r) (fun b=>[]) (fun b=>[(3,t),(4,.string g),(5,zI p),(6,zP b1),(7,.string f),(8,zP M),(9,zI P),(10,zI b)]) (fun b=>[eI t r2,cells b1 [.int .i32 l,.string o,zI m] 81,cells M [.bool e,.bool a] 82]) (fun cut=>zyG (zyR 1 rfl (zyN (cut (zyG (zyR 2 rfl (zbl h fun q2 T h=>eY (k:=0) T aF gH rfl dc rfl rfl rfl rfl (zab zdh rfl dc rfl (show _=((p:Int).toNat)*3 from rfl) (fW (i:=(p:Int).toNat) (j:=0) (k:=0) (q:=q2) eP js rfl dc rfl rfl (ep T) rfl dc rfl (zbl h fun r5 a6 h=>zaI (v:=.bool r5) (vs:=[.int .i32 q2.Rune]) rfl dc rfl rfl rfl G4 (H3 a6) (zyN (zyB rfl h (fun h=>bV (zyR 1 rfl (bG (mD 1 h 3)))) (fun h=>bA (mD 0 h 3)))))))))))))) (fun k1 h=>?_)))))
       rw[bk] at h
       refine zbp h fun j4 bh h=>zaM (β:=Int×ae×Int×ae×Bool×Bool) 0 rfl (fun b=>j4 b.1 b.2.1 b.2.2.1 b.2.2.2.1 b.2.2.2.2.1 b.2.2.2.2.2=some r) (fun b=>[]) (fun b=>[(3,t),(4,.string g),(5,zI p),(6,zP b1),(7,.string b.2.2.2.1),(8,zP M),(9,zI P)]) (fun b=>[eI t r2,cells b1 [.int .i32 b.1,.string b.2.1,zI b.2.2.1] 81,cells M [.bool b.2.2.2.2.1,.bool b.2.2.2.2.2] 82]) (fun cut=>cut (zaL (zbl h fun q3 S h=>zbl h fun r6 a5 h=>zdb 7 [(0,47,zP b1),(1,48,.int .i32 l),(2,49,t),(3,50,zI p),(4,51,.pointer (some ⟨gn t,(p:Int).toNat*3,none⟩)),(5,52,.pointer (some ⟨gn t,((p:Int).toNat)*3,none⟩)),(6,53,.int .i32 q3.Rune)] mixed kr kr dc (by rfl) kr kr (zae (fun D n d c u i=>zab zdh rfl dc (zbA (by rfl) rfl) (show _=0 from rfl) (zaT 0 u i)) (zae (fun D n d c u i=>zat (k:=1) eP rfl dc (bC 0 u d) rfl rfl (zaT 1 u i)) (zyP 2 2 rfl (zae (fun D n d c u i=>eY (k:=0) S aF gH rfl dc (bC 2 u d) (bC 3 u d) rfl rfl (zaT 4 u i)) (zae (fun D n d c u i=>zab zdh rfl dc (bC 4 u d) (show _=((p:Int).toNat)*3 from rfl) (zaT 5 u i)) (zae (fun D n d c u i=>fW (i:=(p:Int).toNat) (j:=0) (k:=0) (q:=q3) eP js rfl dc (bC 5 u d) rfl (ep S) rfl dc rfl (zaT 6 u i)) bW.nil)))))) (zaI (v:=.int .i32 r6) (vs:=[.int .i32 l,.int .i32 q3.Rune]) rfl dc rfl rfl rfl Nv (PF a5) (zyR 1 rfl (zyH (zyR 1 rfl (zaR rfl zf8 (zyR 1 rfl (zyS (s:=57) rfl h (fun h=>zyR 1 rfl (zbl h fun q4 J h=>oH (xd J) s7 jX rfl dc rfl rfl (bL _) (mA (enc:=vl) (size:=1) ([e,a]:List Bool) (k:=2) rfl vm rfl (show 2≤maxLen by decide) (fW (i:=(k1:Int).toNat) (j:=0) (k:=2) (q:=q4) lW vm rfl dc rfl rfl (ep J) rfl dc rfl (pX (k:=2) rfl (Cf (by rfl)) (jU rfl dc rfl jV (zyR 1 rfl (zyN (zyB rfl h (fun h=>bV (zyR 1 rfl (zbT (k:=1) (cs:=[.int .i32 l,.string o,zI m]) lM rfl dc rfl rfl rfl rfl (zbl h fun N V h=>zaI (v:=.agg (fO N).toArray) (vs:=[.int .i32 r6,.agg #[.int .i32 l,.string o,zI m]]) rfl dc rfl rfl rfl G5 (H4 (x1:=(⟨l,o,m⟩:bK)) V) (eK (k:=1) (vs:=(fO N)) (l':=(fO N)) gH rfl rfl rfl rfl rfl (show _≤_ by simp) rfl rfl (bG (mD (N.Rune,N.Text,N.At,f,e,a) h 3))))))) (fun h=>zyG (zyR 3 rfl (zbl h fun q5 I h=>eY (k:=0) I aF gH rfl dc rfl rfl rfl rfl (zab qv rfl dc rfl (show _=((p:Int).toNat)*3+1 from rfl) (fW (i:=(p:Int).toNat) (j:=1) (k:=0) (q:=q5) eb js rfl dc rfl rfl (ep I) rfl dc rfl (zbt h fun b8 h=>zaR rfl (lx b8) (zyR 1 rfl (zyN (bV (zyR 1 rfl (zbl h fun q6 H h=>oH (xd H) s7 jX rfl dc rfl rfl (bL _) (mA (enc:=vl) (size:=1) ([e,a]:List Bool) (k:=2) rfl vm rfl (show 2≤maxLen by decide) (oF (i:=(k1:Int).toNat) (j:=0) (k:=2) (q:=q6) (q':=true) jX vm rfl rfl rfl rfl (ep H) rfl dc rfl (fun _ _=>rfl) (s9 (k:=2) rfl (aH (vec vl 82 1 (.slice (some ⟨M,0,none⟩) 2 2)) (show _=([(if (k1:Int).toNat=0 then true else e),(if (k1:Int).toNat=1 then true else a)]:List Bool) from Gd _ _ _)) (pX (k:=2) rfl (Cf (by rfl)) (bG (mD (l,o,m,f++q5.Text,if (k1:Int).toNat=0 then true else e,if (k1:Int).toNat=1 then true else a) h 3)))))))))))))))))))))))))) (fun h=>zyR 5 rfl (zyN (eh rfl (zyG (zyR 3 rfl (zbl h fun q7 G h=>eY (k:=0) G aF gH rfl dc rfl rfl rfl rfl (zab qv rfl dc rfl (show _=((p:Int).toNat)*3+1 from rfl) (fW (i:=(p:Int).toNat) (j:=1) (k:=0) (q:=q7) eb js rfl dc rfl rfl (ep G) rfl dc rfl (zbt h fun b7 h=>zaR rfl (lx b7) (zyR 1 rfl (zyN (bV (zyR 1 rfl (zbl h fun q8 F h=>oH (xd F) s7 jX rfl dc rfl rfl (bL _) (mA (enc:=vl) (size:=1) ([e,a]:List Bool) (k:=2) rfl vm rfl (show 2≤maxLen by decide) (oF (i:=(k1:Int).toNat) (j:=0) (k:=2) (q:=q8) (q':=true) jX vm rfl rfl rfl rfl (ep F) rfl dc rfl (fun _ _=>rfl) (s9 (k:=2) rfl (aH (vec vl 82 1 (.slice (some ⟨M,0,none⟩) 2 2)) (show _=([(if (k1:Int).toNat=0 then true else e),(if (k1:Int).toNat=1 then true else a)]:List Bool) from Gd _ _ _)) (pX (k:=2) rfl (Cf (by rfl)) (bG (mD (l,o,m,f++q7.Text,if (k1:Int).toNat=0 then true else e,if (k1:Int).toNat=1 then true else a) h 3)))))))))))))))))))))))))))))) ?_
       rintro⟨a0,aw,ao,w,E,z⟩ h
       rw[bh] at h
       refine bV (zyR 1 rfl (zbt h fun b6 h=>zaR rfl (dE (r:=p+1) (ai _ b6)) (zyR 1 rfl (bG (ca (ct (bV (zyR 1 rfl (zbt h fun b5 h=>zaR rfl (jH (r:=P-1) (ai _ b5)) (zyR 1 rfl (bG ?_)))))))))))
       subst L
       exact aD (W,p+1,a0,aw,ao,w,E,z,P-1) h 3
      exact dF (bU (bU (dG (mD (p,l,o,m,f) h 2))))
    rintro⟨i4,x1,x2,x3,x⟩ h
    rw[bs] at h
    refine bV (zyR 1 rfl (zab qv rfl dc rfl (show _=1 from rfl) (zat (k:=1) eb rfl dc rfl rfl rfl (zyR 1 rfl (zbt h fun b4 h=>zaR rfl (lx b4) (zbt h fun b3 h=>zaR rfl (lx b3) (zyR 1 rfl (bG (ca ?_)))))))))
    subst y
    exact aD (Q,g++(x2++x),i4) h 1
   exact dF (bU (bU (dG (cH g h rfl (bE rfl) ah))))
 rintro c3 h
 rw[b0] at h
 refine zyG (zyR 2 rfl (zyN (zaz ?_)))
 cases h
 exact cZ 2 results13
theorem Rj (M:List (zam×Int)) (a:cY→ae) (l:List cY) (d:l.length≤1048576) (h:∀u∈l,u.base<0∧U8 u.broken∨0≤u.base∧wD u M=some (a u)∧(a u).size≤1048576):yJ l M=some (J (wr a) l):=by
 unfold yJ
 refine cA ((qE (xs:=l) (f:=fun b u=>b++wr a u) (J:=some) (fun k b=>b.size≤k*1048576) ?_ ?_ ?_ (kF (by omega)) (by decide)).trans rfl)
 ·intro ag k u b hu hb
  have hk:=n0 hu
  unfold zcC
  refine bQ (mE hu) (cA (bf (lX hu) ?_))
  rcases h u (aL hu) with⟨h1,h2⟩|⟨h1,h2,h3⟩
  ·exact bQ (au h1) (gO (zdG (by simpa using h2) (zdG (jt (by omega)) (by simp only[wr,ax h1]))))
  ·exact fP (bf h2 (gO (zdG (jt (by omega)) (by simp only[wr,ap (show ¬u.base<0 by omega)]))))
 ·intro k u b hu hb
  have c:(wr a u).size≤1048576:=by
   rcases h u (aL hu) with⟨h1,h2⟩|⟨h1,h2,h3⟩
   ·unfold wr;rw[ax h1,Ca];simp
   ·unfold wr;rw[ap (by omega)];exact h3
  rw[aJ];omega
 ·intro ag b _;unfold zcC;exact bM me rfl
theorem Rk:(iM.all fun p=>decide (0<p.2∧p.2≤2000)&&cW p.2)=true:=by decide +kernel
theorem I9 {b m j:Int} (h:iY b m=some j):0<j∧j≤2000∧cW j=true:=by
 have:=bd.1 Rk _ (sC h)
 simp only[aN,decide_eq_true_eq] at this
 exact⟨this.1.1,this.1.2,this.2⟩
def gy (a:Int×List Int×Bool) (m:Int):Int×List Int×Bool :=
 match iY a.1 m with
 |some j=>if a.2.2 then (j,a.2.1,true) else (a.1,a.2.1++[m],false)
 |none=>(a.1,a.2.1++[m],false)
def qI (b:Int) (lo hi:List Int):ae :=
 ac (hi.foldl gy ((lo.foldl gy (b,[],true)).1,(lo.foldl gy (b,[],true)).2.1,true)).1++iL (hi.foldl gy ((lo.foldl gy (b,[],true)).1,(lo.foldl gy (b,[],true)).2.1,true)).2.1
theorem D0 (a:Int×List Int×Bool) (m:Int):(gy a m).2.1.length≤a.2.1.length+1:=by
 unfold gy
 split
 ·split<;>simp
 ·simp
theorem wF (b:List Int):∀a:Int×List Int×Bool,(b.foldl gy a).2.1.length≤a.2.1.length+b.length:=by
 induction b with
 |nil=>intro a;simp
 |cons m b c=>intro a;have:=c (gy a m);have:=D0 a m;rw[bn,ab];omega
section
variable {R X A B C:Type} {xs:List X}
theorem Ja {F:(A→B→C→Int→Option R)→A→B→C→Int→Option R} {bot:A→B→C→Int→Option R} {f:A×B×C→X→A×B×C} {Jf:A→B→Option R} (Inv:Nat→A×B×C→Prop)
  (c:∀ag k x (a:A×B×C),xs[k]?=some x→Inv k a→F ag a.1 a.2.1 a.2.2 (k:Int)=ag (f a x).1 (f a x).2.1 (f a x).2.2 ((k:Int)+1)) (e:∀k x a,xs[k]?=some x→Inv k a→Inv (k+1) (f a x))
  (he:∀ag (a:A×B×C),Inv xs.length a→F ag a.1 a.2.1 a.2.2 (xs.length:Int)=Jf a.1 a.2.1) {n:Nat} (d:xs.length<n) {a:A×B×C} (h0:Inv 0 a):zaC bot F n a.1 a.2.1 a.2.2 0=Jf (xs.foldl f a).1 (xs.foldl f a).2.1:=by
 have key:∀ (n k:Nat) (a:A×B×C),k≤xs.length→xs.length-k<n→Inv k a→zaC bot F n a.1 a.2.1 a.2.2 (k:Int)=Jf ((xs.drop k).foldl f a).1 ((xs.drop k).foldl f a).2.1:=by
  intro n
  induction n with
  |zero=>intro k a _ h;omega
  |succ n b=>
   intro k a hk d hi
   rw[fX]
   by_cases h:k<xs.length
   ·have hx:xs[k]?=some xs[k]:=List.getElem?_eq_getElem h
    rw[c _ k _ a hx hi,List.drop_eq_getElem_cons h,bn]
    exact b (k+1) _ (by omega) (by omega) (e k _ a hx hi)
   ·have:k=xs.length:=by omega
    subst this
    rw[he _ a hi,List.drop_length];rfl
 have:=key n 0 a (cm _) (by omega) h0
 simpa using this
end
def A5:Int→List Int→Option ae:=fun b a=>aU ((ac b).size+(iL a).size≤9223372036854775807)<|some ((ac b)++(iL a))
def Jb (u:cY):Int→List Int→Option ae:=fun b a=>cn (fun (c:Int→(List Int)→Option ae)=>zaC (fun _ _ _ _=>none) (zc0 u iM c) zbC b a true 0) A5
theorem Rm (u:cY) (hu:fl u.base) (h1:u.low.length≤200000) (h2:u.high.length≤200000):wD u iM=some (if cW u.base then qI u.base u.low u.high else ac u.base):=by
 unfold wD
 refine bf (AP u hu) ?_
 cases hL:cW u.base with
 |false=>exact bQ rfl rfl
 |true=>
  refine bM rfl (cA (cA ?_))
  have step:∀ (xs:List Int) (k:Nat) (x:Int) (a:Int×List Int×Bool) (ag:Int→List Int→Bool→Int→Option ae),xs[k]?=some x→xs.length≤200000→a.2.1.length≤400000 →
    (aT (zcx xs (k:Int)) fun (q1:Int)=>aM ((zbO (⟨a.1,q1⟩:zam) iM).isSome) (aM (a.2.2) ((fun (u8:Int) (b:List Int) (c:Bool)=>aU (cp ((k:Int)+1))<|ag u8 b c ((k:Int)+1)) ((zbO (⟨a.1,q1⟩:zam) iM).getD 0) a.2.1 a.2.2)
     (aU (a.2.1.length+1≤2147483648)<|(fun (u8:Int) (b:List Int) (c:Bool)=>aU (cp ((k:Int)+1))<|ag u8 b c ((k:Int)+1)) a.1 (a.2.1++[q1]) false))
     (aU (a.2.1.length+1≤2147483648)<|(fun (u8:Int) (b:List Int) (c:Bool)=>aU (cp ((k:Int)+1))<|ag u8 b c ((k:Int)+1)) a.1 (a.2.1++[q1]) false))=ag (gy a x).1 (gy a x).2.1 (gy a x).2.2 ((k:Int)+1):=by
   intro xs k x a ag hx h ha
   have hk:=n0 hx
   refine bf (lX hx) ?_
   unfold gy iY
   cases zbO (⟨a.1,x⟩:zam) iM with
   |none=>exact bM rfl (gO (zdG (jt (by omega)) rfl))
   |some j=>
    refine bQ rfl ?_
    cases hf:a.2.2 with
    |true=>exact bQ rfl (zdG (jt (by omega)) rfl)
    |false=>exact bM rfl (gO (zdG (jt (by omega)) rfl))
  have d:=wF u.low (u.base,[],true)
  have lo:=Ja (xs:=u.low) (F:=zdK u iM (Jb u)) (bot:=fun _ _ _ _=>none) (f:=gy) (Jf:=Jb u) (fun k a=>a.2.1.length≤k) (fun ag k x a hx hi=>by
     have hk:=n0 hx
     unfold zdK
     exact bQ (mE hx) (cA (step u.low k x a ag hx h1 (by omega)))) (fun k x a _ hi=>by have:=D0 a x;omega) (fun ag a _=>by unfold zdK;exact bM me rfl) (n:=zbC) (kF (by omega)) (a:=(u.base,[],true)) (bi _)
  refine lo.trans ?_
  show zaC (fun _ _ _ _=>none) (zc0 u iM A5) zbC _ _ true 0=_
  simp only[aI,bL] at d
  generalize hA:u.low.foldl gy (u.base,[],true)=A at d ⊢
  have g:=wF u.high (A.1,A.2.1,true)
  have e:=Ja (xs:=u.high) (F:=zc0 u iM A5) (bot:=fun _ _ _ _=>none) (f:=gy) (Jf:=A5) (fun k a=>a.2.1.length≤200000+k) (fun ag k x a hx hi=>by
     have hk:=n0 hx
     unfold zc0
     exact bQ (mE hx) (cA (step u.high k x a ag hx h2 (by omega)))) (fun k x a _ hi=>by have:=D0 a x;omega) (fun ag a _=>by unfold zc0;exact bM me rfl) (n:=zbC) (kF (by omega)) (a:=(A.1,A.2.1,true)) (by show A.2.1.length≤200000+0;omega)
  refine e.trans ?_
  simp only at g
  have e1:=mh (u.high.foldl gy (A.1,A.2.1,true)).1
  have e2:=A2 (u.high.foldl gy (A.1,A.2.1,true)).2.1
  refine gO ?_
  show some _=some (qI _ _ _)
  unfold qI
  rw[hA]
def kN (a:Int×ae×ae×Bool×Bool) (m:bc):Int×ae×ae×Bool×Bool :=
 match iY a.1 m.Rune with
 |some j=>if mf m then (if a.2.2.2.2 then (a.1,a.2.1,a.2.2.1++m.Text,a.2.2.2.1,true) else (j,ac j,a.2.2.1,a.2.2.2.1,a.2.2.2.2)) else (if a.2.2.2.1 then (a.1,a.2.1,a.2.2.1++m.Text,true,a.2.2.2.2) else (j,ac j,a.2.2.1,a.2.2.2.1,a.2.2.2.2))
 |none=>if mf m then (a.1,a.2.1,a.2.2.1++m.Text,a.2.2.2.1,true) else (a.1,a.2.1,a.2.2.1++m.Text,true,a.2.2.2.2)
theorem Rp (a:Int×ae×ae×Bool×Bool) (m:bc) (hm:m.Text.size≤4) (ha:a.2.1.size≤4):(kN a m).2.2.1.size≤a.2.2.1.size+4∧(kN a m).2.1.size≤4:=by
 unfold kN
 have:=mh
 split
 ·split<;>split<;>simp[aJ]<;>(try exact⟨by omega,ha⟩)<;>(try exact mh _)
 ·split<;>simp[aJ]<;>exact⟨by omega,ha⟩
theorem Jc:∀ (P:List bc) (b:Int) (st:List Int) (d a:Bool),(∀m∈P,mf m=true∧m.Text=ac m.Rune) →
  P.foldl kN (b,ac b,iL st,d,a)=(((P.map (·.Rune)).foldl gy (b,st,!a)).1,ac ((P.map (·.Rune)).foldl gy (b,st,!a)).1,iL ((P.map (·.Rune)).foldl gy (b,st,!a)).2.1,d,!((P.map (·.Rune)).foldl gy (b,st,!a)).2.2)
 |[],b,st,d,a,_=>by simp
 |m::P,b,st,d,a,h=>by
  obtain⟨h1,h2⟩:=h m (aq ..)
  have e:=fun b st a=>Jc P b st d a (fun z hz=>h z (ak _ hz))
  have c:iL st++m.Text=iL (st++[m.Rune]):=by rw[zip,zip,yF,iN,pA,aX,h2]
  rw[bn,av,bn]
  unfold kN gy
  simp only[h1,if_true]
  cases iY b m.Rune with
  |none=>simp only[c];exact e b (st++[m.Rune]) true
  |some j=>
   cases a with
   |true=>simp only[if_true,c,dx,bg,if_false];exact e b (st++[m.Rune]) true
   |false=>simp only[bg,if_false,dR,if_true];exact e j st false
theorem Je:∀ (P:List bc) (b:Int) (st:List Int) (a d:Bool),(∀m∈P,mf m=false∧m.Text=ac m.Rune) →
  P.foldl kN (b,ac b,iL st,a,d)=(((P.map (·.Rune)).foldl gy (b,st,!a)).1,ac ((P.map (·.Rune)).foldl gy (b,st,!a)).1,iL ((P.map (·.Rune)).foldl gy (b,st,!a)).2.1,!((P.map (·.Rune)).foldl gy (b,st,!a)).2.2,d)
 |[],b,st,a,d,_=>by simp
 |m::P,b,st,a,d,h=>by
  obtain⟨h1,h2⟩:=h m (aq ..)
  have e:=fun b st a=>Je P b st a d (fun z hz=>h z (ak _ hz))
  have c:iL st++m.Text=iL (st++[m.Rune]):=by rw[zip,zip,yF,iN,pA,aX,h2]
  rw[bn,av,bn]
  unfold kN gy
  simp only[h1,bg,if_false]
  cases iY b m.Rune with
  |none=>simp only[c];exact e b (st++[m.Rune]) true
  |some j=>
   cases a with
   |true=>simp only[if_true,c,dx,bg,if_false];exact e b (st++[m.Rune]) true
   |false=>simp only[bg,if_false,dR,if_true];exact e j st false
def nP (c:bc×List bc):ae:=if dI c.1 then qI c.1.Rune ((loI c.2).map (·.Rune)) ((hiI c.2).map (·.Rune)) else c.1.Text
def zzN (s:ae):ae:=J nP (kq s)
theorem D3 (b:Int) (lo hi:List Int) (h1:lo.length≤200000) (h2:hi.length≤200000):(qI b lo hi).size≤4+4*(lo.length+hi.length):=by
 unfold qI
 rw[aJ]
 have a1:=wF lo (b,[],true)
 have a:=wF hi ((lo.foldl gy (b,[],true)).1,(lo.foldl gy (b,[],true)).2.1,true)
 have d:=A2 (hi.foldl gy ((lo.foldl gy (b,[],true)).1,(lo.foldl gy (b,[],true)).2.1,true)).2.1
 have c:=mh (hi.foldl gy ((lo.foldl gy (b,[],true)).1,(lo.foldl gy (b,[],true)).2.1,true)).1
 simp only[aI,bL] at a1
 simp only at a
 omega
theorem Jg (s:ae) (e:s.size≤65536):uI s=some (zzN s):=by
 unfold uI
 obtain⟨g,hc⟩:=tF e
 refine bf H8 (bf (DP s e) (bf (Rj iM (fun u=>if cW u.base then qI u.base u.low u.high else ac u.base) _ (by rw[ar];omega) ?_) ?_))
 ·intro u hu
  obtain⟨c,a,rfl⟩:=aS.1 hu
  obtain⟨h1,_,_,i⟩:=hc c a
  rcases wz c h1 with⟨d,b,_⟩|⟨d,b,f,g4⟩
  ·exact .inl ⟨d,b⟩
  ·have h:=yI c.2
   have e1:(fr c).low.length≤196608:=by rw[g4];simp;omega
   have e2:(fr c).high.length≤196608:=by rw[g4];simp;omega
   have j:(fr c).low.length+(fr c).high.length≤196608:=by
    rw[g4];have:=qG c.2;rw[aa] at this;simp;omega
   refine .inr ⟨d,Rm _ (by rw[DO c b];exact h1.1) (by omega) (by omega),?_⟩
   split
   ·have:=D3 (fr c).base (fr c).low (fr c).high (by omega) (by omega);omega
   ·have:=mh (fr c).base;omega
 ·rw[DX _ nP s e (fun c a h0=>by
   obtain⟨h1,_⟩:=hc c a
   rcases wz c h1 with⟨_,_,f,_⟩|⟨d,b,f,g4⟩
   ·omega
   ·unfold nP dI
    rw[g4]
    show (if cW c.1.Rune then _ else _)=_
    cases cW c.1.Rune with
    |true=>rfl
    |false=>simp[f]) (fun c a h0=>by unfold nP;rw[A0 h0];rfl)];rfl
theorem Rs (r2:List bc) (J:Int→Int→ae→Int→ae→Option ae) (hb:r2.length≤1000000) (at_:Int):∀ (P A R:List bc) (n:Nat) (a:Int×ae×ae×Bool×Bool),r2=A++(P++R)→P.length<n→(∀m∈P,m.Text.size≤4)→a.2.1.size≤4→a.2.2.1.size≤4*A.length →
  zaC (fun _ _ _ _ _ _ _ _=>none) (zdD r2 J) n (A.length:Int) a.1 a.2.1 at_ a.2.2.1 a.2.2.2.1 a.2.2.2.2 (P.length:Int)=J ((A.length+P.length:Nat):Int) (P.foldl kN a).1 (P.foldl kN a).2.1 at_ (P.foldl kN a).2.2.1:=by
 intro P
 induction P with
 |nil=>
  intro A R n a hr y _ _ _
  obtain⟨n,rfl⟩:∃k,n=k+1:=⟨n-1,by omega⟩
  rw[fX]
  unfold zdD
  exact bM (by decide) rfl
 |cons m P G=>
  intro A R n a hr y hm ha L
  obtain⟨n,rfl⟩:∃k,n=k+1:=⟨n-1,by omega⟩
  have D:r2.length=A.length+1+P.length+R.length:=by rw[hr];simp;omega
  have c:zcx r2 (A.length:Int)=some m:=gw (by rw[hr,bq];exact tD A m _)
  have H:=hm m (aq ..)
  have hsz:=Rp a m H ha
  have o:=G (A++[m]) R n (kN a m) (by rw[hr];simp) (by simp at y;omega) (fun z hz=>hm z (ak _ hz)) hsz.2 (by simp;omega)
  rw[fX]
  generalize zaC (fun _ _ _ _ _ _ _ _=>none) (zdD r2 J) n=ag at o ⊢
  unfold zdD
  have e:∀ (g:Int) (f:ae) (st:ae) (u t:Bool),(g,f,st,u,t)=kN a m→(aU (cp ((A.length:Int)+1))<|aU (cp (((m::P).length:Int)-1))<|ag ((A.length:Int)+1) g f at_ st u t (((m::P).length:Int)-1))=J ((A.length+(m::P).length:Nat):Int) ((m::P).foldl kN a).1 ((m::P).foldl kN a).2.1 at_ ((m::P).foldl kN a).2.2.1:=by
   intro g f st u t he
   rw[←he] at o
   simp only[aa,ab,aI,bL] at o
   push_cast at o
   refine gO (zdG ⟨by simp only[ab];omega,by simp only[ab];omega⟩ ?_)
   rw[show (((m::P).length:Int)-1)=(P.length:Int) by simp,o,bn,←he]
   congr 1
   simp only[ab];push_cast;omega
  refine bQ (au (by simp only[ab];omega)) (cA (bf c (bf (Ic _) ?_)))
  have s:mG m.Rune=mf m:=rfl
  rw[s]
  have body:∀ (k1:Int),k1=(if mf m then 1 else 0)→(cn (fun (r:Int→ae→Int→ae→Bool→Bool→Option ae)=>
    aT (zcx r2 (A.length:Int)) fun (F:bc)=>aT (we a.1 F.Rune) fun (v:Int)=>
    aM ((v:Int) != 0) (aT (zcx ([a.2.2.2.1,a.2.2.2.2]:List Bool) k1) fun (E:Bool)=>aM (!E) (aT (wj v (⟨a.1,a.2.1,at_⟩:bc)) fun (q:bc)=>r q.Rune q.Text q.At a.2.2.1 a.2.2.2.1 a.2.2.2.2)
     (aT (zcx r2 (A.length:Int)) fun (x:bc)=>aU (a.2.2.1.size+x.Text.size≤9223372036854775807)<|aT (zcx ([a.2.2.2.1,a.2.2.2.2]:List Bool) k1) fun (K:Bool)=>r a.1 a.2.1 at_ (a.2.2.1++x.Text) (if (k1:Int).toNat=0 then true else a.2.2.2.1) (if (k1:Int).toNat=1 then true else a.2.2.2.2)))
     (aT (zcx r2 (A.length:Int)) fun (w:bc)=>aU (a.2.2.1.size+w.Text.size≤9223372036854775807)<|aT (zcx ([a.2.2.2.1,a.2.2.2.2]:List Bool) k1) fun (I:Bool)=>r a.1 a.2.1 at_ (a.2.2.1++w.Text) (if (k1:Int).toNat=0 then true else a.2.2.2.1) (if (k1:Int).toNat=1 then true else a.2.2.2.2)))
    (fun (g:Int) (f:ae) (p:Int) (h:ae) (l:Bool) (i:Bool)=>aU (cp ((A.length:Int)+1))<|aU (cp (((m::P).length:Int)-1))<|ag ((A.length:Int)+1) g f p h l i (((m::P).length:Int)-1)))=J ((A.length+(m::P).length:Nat):Int) ((m::P).foldl kN a).1 ((m::P).foldl kN a).2.1 at_ ((m::P).foldl kN a).2.2.1:=by
   intro k1 b
   refine cA (bf c (bf (Qv _ _) ?_))
   cases hj:iY a.1 m.Rune with
   |none=>
    refine bM rfl (bf c (gO ?_))
    cases d:mf m with
    |true=>rw[d] at b;subst b;exact bf rfl (e _ _ _ _ _ (by unfold kN;rw[hj,d];rfl))
    |false=>rw[d] at b;subst b;exact bf rfl (e _ _ _ _ _ (by unfold kN;rw[hj,d];rfl))
   |some j=>
    have hr:=I9 hj
    refine bQ (by rw[Option.getD_some,du];omega) ?_
    cases d:mf m with
    |true=>
     rw[d] at b;subst b
     refine bf (a:=a.2.2.2.2) rfl ?_
     cases hg:a.2.2.2.2 with
     |true=>exact bM rfl (bf c (gO (bf (a:=true) rfl (e _ _ _ _ _ (by unfold kN;rw[hj,d,hg];rfl)))))
     |false=>exact bQ rfl (bf (DC j _ ⟨by omega,by omega⟩) (e _ _ _ _ _ (by unfold kN;rw[hj,d,hg];rfl)))
    |false=>
     rw[d] at b;subst b
     refine bf (a:=a.2.2.2.1) rfl ?_
     cases hg:a.2.2.2.1 with
     |true=>exact bM rfl (bf c (gO (bf (a:=true) rfl (e _ _ _ _ _ (by unfold kN;rw[hj,d,hg];rfl)))))
     |false=>exact bQ rfl (bf (DC j _ ⟨by omega,by omega⟩) (e _ _ _ _ _ (by unfold kN;rw[hj,d,hg];rfl)))
  cases d:mf m with
  |true=>rw[d] at body;exact bQ rfl (body 1 rfl)
  |false=>rw[d] at body;exact bM rfl (body 0 rfl)
theorem Jh {α:Type} (f:α→ae) (x:α) (l:List α) (b:ae):(b++f x)++J f l=b++J f (x::l):=by rw[iN,cu]
theorem Rt (x:bc) (M:List bc) (hx:x.Text=ac x.Rune) (a:∀m∈M,m.Text=ac m.Rune) :
  ((loI M++hiI M).foldl kN (x.Rune,x.Text,(⟨#[]⟩:ae),false,false)).2.1++((loI M++hiI M).foldl kN (x.Rune,x.Text,(⟨#[]⟩:ae),false,false)).2.2.1=qI x.Rune ((loI M).map (·.Rune)) ((hiI M).map (·.Rune)):=by
 have h1:=Jc (loI M) x.Rune [] false false (fun m hm=>by
  unfold loI at hm;rw[co] at hm;exact⟨hm.2,a m hm.1⟩)
 rw[←hx,show iL []=(⟨#[]⟩:ae) from rfl] at h1
 rw[List.foldl_append,h1]
 have h2:=Je (hiI M) (((loI M).map (·.Rune)).foldl gy (x.Rune,[],!false)).1 (((loI M).map (·.Rune)).foldl gy (x.Rune,[],!false)).2.1 false (!(((loI M).map (·.Rune)).foldl gy (x.Rune,[],!false)).2.2) (fun m hm=>by
  unfold hiI at hm;rw[co] at hm;exact⟨by simpa using hm.2,a m hm.1⟩)
 rw[h2]
 rfl
theorem D4 {m:bc} (h:k7 m) (hm:isM m=true):m.Text=ac m.Rune:=by
 rcases h.2 with⟨h3,_⟩|⟨_,h3⟩
 ·have:eE m.Rune=true:=hm
  unfold eE at this;simp at this;omega
 ·exact h3
theorem Ru (r1:List bc) (Jf:ae→Option ae) (hb:r1.length≤200000):∀ (m n:Nat) (A B:List bc) (out:ae),B.length≤m→B.length<n→r1=A++lD B→(∀x∈B,k7 x)→out.size≤4*A.length →
  zaC (fun _ _=>none) (zdc Jf r1) n out (A.length:Int)=Jf (out++J nP (cl B)):=by
 have l:∀ (n:Nat) (A:List bc) (out:ae),0<n→r1=A→zaC (fun _ _=>none) (zdc Jf r1) n out (A.length:Int)=Jf (out++J nP (cl [])):=by
  intro n A out t he
  obtain⟨n,rfl⟩:∃k,n=k+1:=⟨n-1,by omega⟩
  rw[fX]
  unfold zdc
  exact bM (aj (by rw[he];omega)) (by rw[DG,pA,aX])
 intro m
 induction m with
 |zero=>
  intro n A B out hB t he c H
  have:B=[]:=List.eq_nil_of_length_eq_zero (by omega)
  subst this
  exact l n A out (by omega) (by rw[he,wv,aE])
 |succ m o=>
  intro n A B out hB t he c H
  cases B with
  |nil=>exact l n A out (by omega) (by rw[he,wv,aE])
  |cons x xs=>
   simp only[ab] at hB t
   obtain⟨n,rfl⟩:∃k,n=k+1:=⟨n-1,by omega⟩
   have hx:=c x (aq ..)
   have s:=tH hx
   have E:r1.length=A.length+1+xs.length:=by rw[he,aa,tG];simp;omega
   rw[fX]
   generalize i:zaC (fun _ _=>none) (zdc Jf r1) n=ag at o ⊢
   unfold zdc
   have g:zcx r1 (A.length:Int)=some x:=gw (by
    rw[he]
    cases hL:dI x with
    |true=>rw[uD hL];exact tD A x _
    |false=>rw[uE hL];exact tD A x _)
   refine eW (bf g (gO (bf (wq x hx.1) ?_)))
   have w:cW x.Rune=dI x:=rfl
   rw[w]
   cases hL:dI x with
   |false=>
    rw[uE hL] at he
    refine bQ rfl (gO ?_)
    have:=o n (A++[x]) xs (out++x.Text) (by omega) (by omega) (by rw[he];simp) (fun z hz=>c z (ak _ hz)) (by rw[aJ];simp;omega)
    rw[i] at this
    have ht:nP (x,[])=x.Text:=by unfold nP;rw[hL];rfl
    rw[show ((A.length:Int)+1)=((A++[x]).length:Int) by simp,this,AU hL,←Jh,ht]
   |true=>
    rw[uD hL] at he
    obtain⟨M,R,v,u,e⟩:∃M R,M=xs.takeWhile isM∧R=xs.dropWhile isM∧xs=M++R:=⟨_,_,rfl,rfl,(List.takeWhile_append_dropWhile).symm⟩
    rw[←v,←u] at he
    have f:=qG M
    have G:xs.length=M.length+R.length:=by rw[e];simp
    have j:∀y∈M,isM y=true:=by rw[v];exact DI xs
    have d:∀y∈M,k7 y:=fun y hy=>c y (by rw[e];exact ak _ (List.mem_append_left _ hy))
    have h:dM r1 ((A.length:Int)+1) (r1.length:Int)=(loI M++hiI M)++lD R:=by
     rw[he];exact DL A x _ _ rfl
    refine bM rfl (cA (gO ?_))
    rw[h]
    refine bf (DD _ (by rw[aa,tG];omega)) ?_
    have r:(((loI M++hiI M)++lD R).takeWhile fun x=>eE x.Rune)=loI M++hiI M:=IL _ _ (DH j) (by rw[u];exact IM xs)
    rw[r]
    have q:x.Text=ac x.Rune:=by
     rcases hx.2 with⟨h3,_⟩|⟨_,h3⟩
     ·have:=A0 h3;rw[hL] at this;cases this
     ·exact h3
    have b:=Rs r1 (fun (F:Int) (x1:Int) (x2:ae) (I:Int) (a:ae)=>aU (x2.size+a.size≤9223372036854775807)<|aU (out.size+(x2++a).size≤9223372036854775807)<|ag (out++(x2++a)) F) (by omega) x.At (loI M++hiI M) (A++[x]) (lD R) zbC (x.Rune,x.Text,(⟨#[]⟩:ae),false,false) (by rw[he];simp) (kF (by omega)) (fun y hy=>by
      have p:y∈M:=by
       unfold loI hiI at hy
       rw[bH,co,co] at hy
       rcases hy with hy|hy<;>exact hy.1
      exact tH (d y p)) s (cm _)
    rw[show (((A++[x]).length:Nat):Int)=(A.length:Int)+1 by simp] at b
    refine b.trans ?_
    have hall:=Rt x M q (fun y hy=>D4 (d y hy) (j y hy))
    have hsz:(qI x.Rune ((loI M).map (·.Rune)) ((hiI M).map (·.Rune))).size≤4+4*M.length:=by
     have:=D3 x.Rune ((loI M).map (·.Rune)) ((hiI M).map (·.Rune)) (by simp;have:=(yI M).1;omega) (by simp;have:=(yI M).2;omega)
     rw[aa] at f
     simp only[ar] at this
     omega
    have D:(((loI M++hiI M).foldl kN (x.Rune,x.Text,(⟨#[]⟩:ae),false,false)).2.1.size+((loI M++hiI M).foldl kN (x.Rune,x.Text,(⟨#[]⟩:ae),false,false)).2.2.1.size)≤4+4*M.length:=by
     rw[←aJ,hall];exact hsz
    refine gO (zdG (by rw[aJ];omega) ?_)
    rw[hall]
    have ht:nP (x,M)=qI x.Rune ((loI M).map (·.Rune)) ((hiI M).map (·.Rune)):=by unfold nP;rw[hL];rfl
    have:=o n (A++[x]++(loI M++hiI M)) R (out++nP (x,M)) (by omega) (by omega) (by rw[he];simp) (fun z hz=>c z (by rw[e];exact ak _ (List.mem_append_right _ hz))) (by rw[aJ,ht];simp only[aa,ab,aI] at f ⊢;omega)
    rw[i] at this
    rw[ht] at this
    rw[show ((((A++[x]).length+(loI M++hiI M).length:Nat)):Int)=((A++[x]++(loI M++hiI M)).length:Int) by rw[←aa],this,wu hL,←v,←u,←Jh,ht]
theorem Ji (s:ae) (b:s.size≤65536):wE s=some (zzN s):=by
 unfold wE
 have h3:(fQ s).length≤s.size:=by unfold fQ;simpa using p6 s
 have a:=DT (wy (s:=s))
 have c:=uC (fQ s)
 have h5:=tG (apL (fQ s))
 refine cA (bf (wt s (by omega)) (bf (DM _ (fun x hx=>(wy x hx).1) (by omega)) ?_))
 have:=Ru (lD (apL (fQ s))) some (by omega) (apL (fQ s)).length zbC [] (apL (fQ s)) (⟨#[]⟩:ae) (bi _) (kF (by omega)) rfl a (by decide)
 refine this.trans ?_
 rw[show (⟨#[]⟩:ae)=ad from rfl,ByteArray.empty_append];rfl

def jC (t:cN):Prop:=t.valid∨t.broken=true
def wG (x:bc):cN:=⟨if x.Rune<0 then 65533 else x.Rune.toNat,x.Text.data.toList⟩
theorem uJ {t:cN} (h:jC t):wG (zgb t)=t:=by
 unfold wG zgb
 rcases h with h|h
 ·rw[vP h]
  cases t;simp;intro h;omega
 ·rw[h]
  have:t.r=65533:=by unfold cN.broken at h;simp at h;exact h.1
  cases t;simp at this;subst this;simp
def LM (t:cN):Prop:=cW (t.r:Int)=true∨eE (t.r:Int)=true
def wH (g:List cN×(bc×List bc)):Prop :=
 (dI g.2.1=true∧g.1≠[]∧(∀t∈g.1,t.valid∧LM t)∧(∀m∈g.2.2,isM m=true)∧zbO g.2.1.Rune tabS=none)∨(dI g.2.1=false∧g.2.2=[]∧∃t,g.1=[t]∧jC t∧g.2.1=zgb t)
theorem Rv {t:cN} (h:jC t) (hm:isM (zgb t)=true):t.valid∧eE (t.r:Int)=true:=by
 rcases h with h|h
 ·refine⟨h,?_⟩
  unfold isM zgb at hm
  rw[vP h] at hm;exact hm
 ·unfold isM zgb at hm
  rw[h] at hm;exact absurd (show eE (-1)=true from hm) (by decide)
theorem Jj {t:cN} (h:jC t):∃x c,jd (zgb t)=x::c∧wH ([t],(x,c))∧(∀m∈c,isM m=true)∧(dI x=false→c=[])∧isM x=isM (zgb t):=by
 cases hL:dI (zgb t) with
 |false=>
  exact⟨zgb t,[],by unfold jd;rw[hL];rfl,.inr ⟨hL,rfl,t,rfl,h,rfl⟩,by simp,fun _=>rfl,rfl⟩
 |true=>
  have a:cW (zgb t).Rune=true:=hL
  obtain⟨b,c,k,hb,l,f,_⟩:=tC a
  have hv:t.valid:=by
   rcases h with h|h
   ·exact h
   ·unfold zgb at a;rw[h] at a;exact absurd (show cW (-1)=true from a) (by decide)
  have g:cW (t.r:Int)=true:=by unfold zgb at a;rw[vP hv] at a;exact a
  have j:isM (zgb t)=false:=by
   cases e:isM (zgb t) with
   |false=>rfl
   |true=>have:=qa (show eE (zgb t).Rune=true from e);rw[a] at this;cases this
  have i:isM (⟨b,ac b,(zgb t).At⟩:bc)=false:=by
   cases e:isM (⟨b,ac b,(zgb t).At⟩:bc) with
   |false=>rfl
   |true=>have:=qa (show eE b=true from e);rw[hb] at this;cases this
  have d:∀m∈c.map (fun r=>(⟨r,ac r,(zgb t).At⟩:bc)),isM m=true:=fun m hm=>by
   obtain⟨r,hr,rfl⟩:=aS.1 hm;exact f r hr
  exact⟨⟨b,ac b,(zgb t).At⟩,c.map fun r=>⟨r,ac r,(zgb t).At⟩,by unfold jd;rw[hL,k];rfl,.inl ⟨hb,by simp,fun u hu=>by simp at hu;subst hu;exact⟨hv,.inl g⟩,d,l⟩,d,
   (fun e=>by rw[show dI (⟨b,ac b,(zgb t).At⟩:bc)=true from hb] at e;cases e),by rw[j,i]⟩
theorem D5:∀ (ts gs:List cN) (c:bc×List bc),(∀t∈ts,jC t)→wH (gs,c)→∃G:List (List cN×(bc×List bc)),gs++ts=G.flatMap (·.1)∧fH (some c) (apL (ts.map zgb))=G.map (·.2)∧∀g∈G,wH g
 |[],gs,c,_,hc=>⟨[(gs,c)],by simp,by simp[apL,fH],by simpa using hc⟩
 |t::ts,gs,c,hok,hc=>by
  have ht:=hok t (aq ..)
  have b:=fun u hu=>hok u (ak _ hu)
  have f:apL ((t::ts).map zgb)=jd (zgb t)++apL (ts.map zgb):=by unfold apL;rw[av,aK]
  obtain⟨x,a,h1,h2,h3,j,h5⟩:=Jj ht
  rw[f]
  cases hk:(dI c.1&&isM (zgb t)) with
  |true=>
   rw[aN] at hk
   have hL:dI (zgb t)=false:=qa (show eE (zgb t).Rune=true from hk.2)
   have ha:jd (zgb t)=[zgb t]:=by unfold jd;rw[hL];rfl
   obtain⟨hv,hm⟩:=Rv ht hk.2
   have e:wH (gs++[t],(c.1,c.2++[zgb t])):=by
    rcases hc with⟨d,n,l,g4,k⟩|⟨d,_⟩
    ·refine .inl ⟨d,by simp,fun u hu=>?_,fun m hm2=>?_,k⟩
     ·rcases bH.1 hu with hu|hu
      ·exact l u hu
      ·simp at hu;subst hu;exact⟨hv,.inr hm⟩
     ·rcases bH.1 hm2 with hm2|hm2
      ·exact g4 m hm2
      ·simp at hm2;subst hm2;exact hk.2
    ·rw[hk.1] at d;cases d
   obtain⟨G,e1,e2,h⟩:=D5 ts (gs++[t]) (c.1,c.2++[zgb t]) b e
   refine⟨G,by rw[←e1];simp,?_,h⟩
   rw[ha,←e2,pS]
   show (if dI c.1&&isM (zgb t) then fH (some (c.1,c.2++[zgb t])) (apL (ts.map zgb)) else _)=_
   rw[hk.1,hk.2];rfl
  |false=>
   obtain⟨G,e1,e2,h⟩:=D5 ts [t] (x,a) b h2
   refine⟨(gs,c)::G,by rw[aK,←e1];simp,?_,fun g hg=>?_⟩
   ·rw[h1,bq,av,←e2]
    show (if dI c.1&&isM x then _ else c::fH (some (x,[])) (a++apL (ts.map zgb)))=_
    rw[h5,hk]
    have i:fH (some (x,[])) (a++apL (ts.map zgb))=fH (some (x,a)) (apL (ts.map zgb)):=by
     cases hx:dI x with
     |true=>rw[AW x hx _ a [] h3];rfl
     |false=>rw[j hx];rfl
    rw[←i];rfl
   ·rcases aY.1 hg with rfl|hg
    ·exact hc
    ·exact h g hg
theorem Jk (ts:List cN) (a:∀t∈ts,jC t):∃G:List (List cN×(bc×List bc)),ts=G.flatMap (·.1)∧je ts=G.map (·.2)∧∀g∈G,wH g:=by
 cases ts with
 |nil=>exact⟨[],rfl,rfl,by simp⟩
 |cons t ts=>
  obtain⟨x,b,h1,h2,h3,d,h5⟩:=Jj (a t (aq ..))
  obtain⟨G,e1,e2,e⟩:=D5 ts [t] (x,b) (fun u hu=>a u (ak _ hu)) h2
  refine⟨G,by rw[←e1];rfl,?_,e⟩
  unfold je
  have c:apL ((t::ts).map zgb)=jd (zgb t)++apL (ts.map zgb):=by unfold apL;rw[av,aK]
  rw[c,h1,←e2]
  show fH (some (x,[])) (b++apL (ts.map zgb))=_
  cases hx:dI x with
  |true=>rw[AW x hx _ b [] h3];rfl
  |false=>rw[d hx];rfl
structure tI (out:bc×List bc→List cN):Prop where
 other:∀x,dI x=false→out (x,[])=[wG x]
 ne:∀c,dI c.1=true→out c≠[]
 val:∀c,dI c.1=true→zbO c.1.Rune tabS=none→(∀m∈c.2,isM m=true)→∀t∈out c,t.valid∧LM t
theorem Jl {out:bc×List bc→List cN} (a:tI out):∀ (G:List (List cN×(bc×List bc))),(∀g∈G,wH g)→nL (G.flatMap (·.1)) ((G.map (·.2)).flatMap out)
 |[],_=>nL.nil
 |g::G,h=>by
  have c:=Jl a G (fun x hx=>h x (ak _ hx))
  rw[aK,av,aK]
  rcases h g (aq ..) with⟨b,i,f,g4,d⟩|⟨b,i,t,f,g4,d⟩
  ·exact nL.val i (a.ne _ b) (fun t ht=>(f t ht).1) (fun t ht=>(a.val _ b d g4 t ht).1) c
  ·have e:out g.2=[t]:=by
    rw[show g.2=(g.2.1,[]) from _root_.Prod.ext rfl i,a.other _ b,d,uJ g4]
   rw[f,e]
   rcases g4 with g4|g4
   ·exact nL.one g4 (by simp) (by simpa using g4) c
   ·exact nL.brk g4 c
theorem D6 {out:bc×List bc→List cN} (a:tI out) {s x:ae} (hx:x.data.toList=bJ ((je (dK s.data.toList)).flatMap out)):dK x.data.toList=(je (dK s.data.toList)).flatMap out:=by
 obtain⟨G,e1,e2,b⟩:=Jk (dK s.data.toList) (nX _)
 rw[hx,e2]
 have:=(Jl a G b).good (by rw[←e1];exact C6 _)
 exact this
def sp:ae:=⟨#[32]⟩
theorem A6 (y:bc) (Y:List bc) (hy:isM y=false):∀ (X:List bc) (a:Option (bc×List bc)),fH a (X++y::Y)=fH a X++fH none (y::Y)
 |[],none=>rfl
 |[],some c=>by
  show (if dI c.1&&isM y then _ else c::fH (some (y,[])) Y)=_
  rw[hy,Bool.and_false];rfl
 |x::X,none=>A6 y Y hy X (some (x,[]))
 |x::X,some c=>by
  show (if dI c.1&&isM x then fH (some (c.1,c.2++[x])) (X++y::Y) else c::fH (some (x,[])) (X++y::Y))=(if dI c.1&&isM x then fH (some (c.1,c.2++[x])) X else c::fH (some (x,[])) X)++_
  split
  ·exact A6 y Y hy X _
  ·rw[A6 y Y hy X];rfl
theorem Rx (c a:List cN) (h:∀t,a.head?=some t→eE (zgb t).Rune=false):je (c++a)=je c++je a:=by
 unfold je
 rw[cQ]
 have e:∀x y:List bc,apL (x++y)=apL x++apL y:=fun x y=>by unfold apL;rw[List.flatMap_append]
 rw[e]
 cases a with
 |nil=>simp[apL,cl,fH]
 |cons t a=>
  have ht:=h t rfl
  obtain⟨y,ys,hy,hm⟩:∃y ys,apL ((t::a).map zgb)=y::ys∧isM y=false:=by
   unfold apL
   rw[av,aK]
   unfold jd
   split
   ·rename_i hL
    obtain⟨b,f,d,hb,_⟩:=tC (show cW (zgb t).Rune=true from hL)
    rw[d]
    refine⟨_,_,rfl,?_⟩
    cases e:isM (⟨b,ac b,(zgb t).At⟩:bc) with
    |false=>rfl
    |true=>have:=qa (show eE b=true from e);rw[hb] at this;cases this
   ·exact⟨_,_,rfl,ht⟩
  rw[hy]
  exact A6 y ys hm _ none
theorem yK (l:List bc):loI (l.map jB)=(loI l).map jB∧hiI (l.map jB)=(hiI l).map jB:=by
 unfold loI hiI
 rw[List.filter_map,List.filter_map]
 exact⟨rfl,rfl⟩
theorem Jn (c:bc×List bc):pB (mi c)=pB c:=by
 unfold pB mg mi
 simp only
 rw[(yK c.2).1,(yK c.2).2,←cQ,iN,iN,rz];rfl
theorem Ry (c:bc×List bc):nP (mi c)=nP c:=by
 unfold nP mi
 simp only
 rw[A3,(yK c.2).1,(yK c.2).2,bY,bY];rfl
def iO (g:bc×List bc→List Int) (c:bc×List bc):List cN:=if dI c.1 then (g c).map jL else [wG c.1]
theorem Rz (rs:List Int):(iL rs).data.toList=bJ (rs.map jL):=by
 rw[zip]
 induction rs with
 |nil=>rfl
 |cons r rs a=>
  rw[iN,av,ko,←a]
  have:(ac r).data.toList=encodeRune r:=mW r
  show (ac r++J ac rs).data.toList=encodeRune r++_
  rw[←this];simp
theorem tJ {r:Int} (h:cW r=true):vr r:=by have:=mF r h;unfold vr;omega
theorem yL {r:Int} (h:eE r=true):vr r:=by unfold eE at h;simp at h;unfold vr;omega
theorem RA {r:Int} (h:cW r=true∨eE r=true):(jL r).valid∧LM (jL r):=by
 have hv:vr r:=by rcases h with h | h;exact tJ h;exact yL h
 refine⟨wA hv,?_⟩
 unfold LM
 have:(((jL r).r:Nat):Int)=r:=by show ((r.toNat:Nat):Int)=r;unfold vr at hv;omega
 rw[this];exact h
theorem D7 {g:bc×List bc→List Int} (h0:∀c,dI c.1=true→g c≠[]) (h:∀c,dI c.1=true→zbO c.1.Rune tabS=none→(∀m∈c.2,isM m=true)→∀r∈g c,cW r=true∨eE r=true):tI (iO g) where
 other x hx:=by unfold iO;rw[hx];rfl
 ne c hc:=by unfold iO;rw[hc];simpa using h0 c hc
 val c hc hn hm t ht:=by
  unfold iO at ht;rw[hc] at ht
  obtain⟨r,hr,rfl⟩:=aS.1 (show t∈(g c).map jL from ht)
  exact RA (h c hc hn hm r hr)
theorem Jo (f:bc×List bc→ae) (out:bc×List bc→List cN):∀l:List (bc×List bc),(∀c∈l,(f c).data.toList=bJ (out c))→(J f l).data.toList=bJ (l.flatMap out)
 |[],_=>rfl
 |c::l,h=>by
  rw[iN,aK,kp,←Jo f out l (fun d hd=>h d (ak _ hd)),←h c (aq ..)]
  simp
theorem A7 {x:bc} (h:k7 x):k7 (jB x):=h
theorem D8 {f:bc×List bc→ae} {g:bc×List bc→List Int} (hf:∀c,f (mi c)=f c)
  (h1:∀c,dI c.1=true→k7 c.1→(∀m∈c.2,isM m=true∧k7 m)→f c=iL (g c)) (h2:∀c,dI c.1=false→c.2=[]→f c=c.1.Text)
  (s:ae) (h:s.size≤65536):(J f (kq s)).data.toList=bJ ((je (dK s.data.toList)).flatMap (iO g)):=by
 have e:J f (kq s)=J f (je (dK s.data.toList)):=by
  rw[←yG,rz];exact sF fun c _=>(hf c).symm
 rw[e]
 refine Jo f _ _ fun c hc=>?_
 rw[←yG] at hc
 obtain⟨d,hd,rfl⟩:=aS.1 hc
 obtain⟨o1,a,b,_⟩:=(tF h).2 d hd
 unfold iO
 cases hL:dI (mi d).1 with
 |true=>
  rw[h1 _ hL (A7 o1) (fun m hm=>by obtain⟨y,hy,rfl⟩:=aS.1 (show m∈d.2.map jB from hm);exact⟨(a y hy).1,A7 (a y hy).2⟩),Rz];rfl
 |false=>
  rw[h2 _ hL (by show d.2.map jB=[];rw[b hL];rfl)]
  show _=bJ [wG (mi d).1]
  simp[bJ,wG]
def gA (c:bc×List bc):List Int:=(mg c).map (·.Rune)
def gT (c:bc×List bc):List Int:=let hi:=(hiI c.2).map (·.Rune);let lo:=(loI c.2).map (·.Rune)
 (hi.foldl gy ((lo.foldl gy (c.1.Rune,[],true)).1,(lo.foldl gy (c.1.Rune,[],true)).2.1,true)).1::(hi.foldl gy ((lo.foldl gy (c.1.Rune,[],true)).1,(lo.foldl gy (c.1.Rune,[],true)).2.1,true)).2.1
theorem D9 {c:bc×List bc} {x:bc} (h:x∈mg c):x=c.1∨x∈c.2:=by
 unfold mg at h
 rcases aY.1 h with h|h
 ·exact .inl h
 ·unfold loI hiI at h
  rw[bH,co,co] at h
  exact .inr (by rcases h with h | h<;>exact h.1)
theorem RC:tI (iO gA):=D7 (fun c _=>by unfold gA mg;simp) (fun c hc a hm r hr=>by
 unfold gA at hr
 obtain⟨x,hx,rfl⟩:=aS.1 hr
 rcases D9 hx with rfl|hx
 ·exact .inl hc
 ·exact .inr (hm x hx))
theorem Jp {x:bc} (h:k7 x) (hL:dI x=true):x.Text=ac x.Rune:=by
 rcases h.2 with⟨h1,_⟩|⟨_,h1⟩
 ·have:=(mF _ hL).1;omega
 ·exact h1
theorem RE (s:ae) (a:s.size≤65536):(fY s).data.toList=bJ ((je (dK s.data.toList)).flatMap (iO gA)):=by
 refine D8 Jn (fun c hL h1 h2=>?_) (fun c hL h2=>?_) s a
 ·unfold pB gA
  rw[zip,rz]
  refine sF fun x hx=>?_
  rcases D9 hx with rfl|hx
  ·exact Jp h1 hL
  ·exact D4 (h2 x hx).2 (h2 x hx).1
 ·unfold pB mg loI hiI;rw[h2];rw[iN];simp[pA]
theorem RF (x:Int) (l:List Int):iL (x::l)=ac x++iL l:=by rw[zip,zip,iN]
theorem RG {a:Int×List Int×Bool} {m:Int} (h:cW a.1=true∧∀x∈a.2.1,eE x=true) (hm:eE m=true):cW (gy a m).1=true∧∀x∈(gy a m).2.1,eE x=true:=by
 have b:∀x∈a.2.1++[m],eE x=true:=fun x hx=>by
  rcases bH.1 hx with hx|hx
  ·exact h.2 x hx
  ·simp at hx;subst hx;exact hm
 unfold gy
 split
 ·rename_i j hj
  split
  ·exact⟨(I9 hj).2.2,h.2⟩
  ·exact⟨h.1,b⟩
 ·exact⟨h.1,b⟩
theorem Ea:∀ (b:List Int) (a:Int×List Int×Bool),(cW a.1=true∧∀x∈a.2.1,eE x=true)→(∀m∈b,eE m=true)→cW (b.foldl gy a).1=true∧∀x∈(b.foldl gy a).2.1,eE x=true
 |[],a,h,_=>h
 |m::b,a,h,hm=>Ea b _ (RG h (hm m (aq ..))) (fun x hx=>hm x (ak _ hx))
theorem yM {c:bc×List bc} (hm:∀m∈c.2,isM m=true):(∀m∈(loI c.2).map (·.Rune),eE m=true)∧∀m∈(hiI c.2).map (·.Rune),eE m=true:=by
 constructor<;>intro m h<;>obtain⟨x,hx,rfl⟩:=aS.1 h
 ·unfold loI at hx;rw[co] at hx;exact hm x hx.1
 ·unfold hiI at hx;rw[co] at hx;exact hm x hx.1
theorem RH {c:bc×List bc} (hL:dI c.1=true) (hm:∀m∈c.2,isM m=true):∃j st,gT c=j::st∧cW j=true∧∀x∈st,eE x=true:=by
 obtain⟨h1,h2⟩:=yM hm
 have a:=Ea _ (c.1.Rune,[],true) ⟨hL,by simp⟩ h1
 have b:=Ea _ (((loI c.2).map (·.Rune)).foldl gy (c.1.Rune,[],true) |>.1,(((loI c.2).map (·.Rune)).foldl gy (c.1.Rune,[],true)).2.1,true) a h2
 exact⟨_,_,rfl,b.1,b.2⟩
theorem yN:tI (iO gT):=D7 (fun c _=>by unfold gT;simp) (fun c hc a hm r hr=>by
 obtain⟨j,st,e,h1,h2⟩:=RH hc hm
 rw[e] at hr
 rcases aY.1 hr with rfl|hr
 ·exact .inl h1
 ·exact .inr (h2 r hr))
theorem RI (s:ae) (a:s.size≤65536):(zzN s).data.toList=bJ ((je (dK s.data.toList)).flatMap (iO gT)):=by
 refine D8 Ry (fun c hL h1 h2=>?_) (fun c hL h2=>?_) s a
 ·unfold nP qI
  rw[hL]
  exact (RF _ _).symm
 ·unfold nP;rw[hL];rfl
def Jq (r:Int):Bool:=!cW r||(decide (ku (cr r)=iL (eH (ku (cr r))))&&!(eH (ku (cr r))).isEmpty &&
 ((zbO r tabS).isSome||(eH (ku (cr r))).all fun x=>cW x&&!great x&&(zbO x tabS).isNone&&decide (ku x=ac x)&&decide (cr x=x)))
theorem RJ:((List.range 1120).all fun n=>Jq (n:Int))=true:=by decide +kernel
theorem Jr {r:Int} (h:cW r=true):ku (cr r)=iL (eH (ku (cr r)))∧eH (ku (cr r))≠[]∧(zbO r tabS=none→∀x∈eH (ku (cr r)),cW x=true∧great x=false∧zbO x tabS=none∧ku x=ac x∧cr x=x):=by
 have hr:=mF r h
 have:=bd.1 RJ r.toNat (List.mem_range.2 (by omega))
 rw[show ((r.toNat:Nat):Int)=r by omega] at this
 unfold Jq at this
 rw[h] at this
 simp only[dx,Bool.false_or,aN,decide_eq_true_eq,Bool.or_eq_true] at this
 obtain⟨⟨h1,h2⟩,h3⟩:=this
 refine⟨h1,?_,fun f x hx=>?_⟩
 ·intro e;rw[e] at h2;cases h2
 ·rw[f] at h3
  rcases h3 with h3|h3
  ·cases h3
  ·have:=bd.1 h3 x hx
   simp only[aN,decide_eq_true_eq,Bool.not_eq_true',Option.isNone_iff_eq_none] at this
   obtain⟨⟨⟨⟨a,b⟩,c⟩,d⟩,e⟩:=this
   exact⟨a,b,c,d,e⟩
def wI:Bool→List (bc×List bc)→Prop
 |_,[]=>True
 |p,c::cs=>(p=true→isM c.1=false)∧wI (dI c.1) cs
theorem Eb:∀ (xs:List bc) (c:bc×List bc) (p:Bool),(p=true→isM c.1=false)→wI p (fH (some c) xs)
 |[],c,p,h=>⟨h,trivial⟩
 |x::xs,c,p,h=>by
  show wI p (if dI c.1&&isM x then fH (some (c.1,c.2++[x])) xs else c::fH (some (x,[])) xs)
  cases e:(dI c.1&&isM x) with
  |true=>exact Eb xs (c.1,c.2++[x]) p h
  |false=>exact⟨h,Eb xs (x,[]) (dI c.1) (fun hL=>by rw[hL] at e;exact e)⟩
theorem RK (xs:List bc):wI false (cl xs):=by
 cases xs with
 |nil=>trivial
 |cons x xs=>exact Eb xs (x,[]) false (fun h=>by cases h)
def Js (c:bc×List bc):Prop:=(dI c.1=true∧(∀m∈c.2,isM m=true)∧zbO c.1.Rune tabS=none)∨(dI c.1=false∧c.2=[]∧∃t,jC t∧c.1=zgb t)
theorem A8 {ts:List cN} (a:∀t∈ts,jC t):∀c∈je ts,Js c:=by
 obtain⟨G,e1,e2,h⟩:=Jk ts a
 intro c hc
 rw[e2] at hc
 obtain⟨g,hg,rfl⟩:=aS.1 hc
 rcases h g hg with⟨d,e,f,g4,b⟩|⟨d,e,t,f,g4,b⟩
 ·exact .inl ⟨d,g4,b⟩
 ·exact .inr ⟨d,e,t,g4,b⟩
theorem Jt (x:bc) (xs:List bc):apL (x::xs)=jd x++apL xs:=by unfold apL;rw[aK]
theorem Ec {t:cN} (h:dI (zgb t)=false) (ts:List cN):je (t::ts)=(zgb t,[])::je ts:=by
 unfold je
 rw[av,Jt,show jd (zgb t)=[zgb t] by unfold jd;rw[h];rfl]
 exact AU h _
theorem Ju {out:bc×List bc→List cN} (b:tI out) (i:∀c,dI c.1=true→zbO c.1.Rune tabS=none→(∀m∈c.2,isM m=true)→∀t,(out c).head?=some t→eE (zgb t).Rune=false) :
  ∀ (cs:List (bc×List bc)) (p:Bool),(∀c∈cs,Js c)→wI p cs→je (cs.flatMap out)=cs.flatMap (fun c=>je (out c))
 |[],_,_,_=>rfl
 |c::cs,p,hc,ha=>by
  have l:=Ju b i cs (dI c.1) (fun d hd=>hc d (ak _ hd)) ha.2
  rw[aK,aK,←l]
  rcases hc c (aq ..) with⟨f,k,j⟩|⟨f,k,t,j,g4⟩
  ·refine Rx _ _ fun t ht=>?_
   cases cs with
   |nil=>cases ht
   |cons a cs=>
    have g:=ha.2.1 f
    rw[aK] at ht
    rcases hc a (ak _ (aq ..)) with⟨k1,k2,k3⟩|⟨k1,k2,u,k3,h⟩
    ·obtain⟨v,vs,hv⟩:=List.exists_cons_of_ne_nil (b.ne a k1)
     rw[hv] at ht
     exact i a k1 k3 k2 t (by rw[hv];exact ht)
    ·have e:out a=[u]:=by rw[show a=(a.1,[]) from _root_.Prod.ext rfl k2,b.other _ k1,h,uJ k3]
     rw[e] at ht
     have:u=t:=mo ht
     subst this
     rw[←h];exact g
  ·have e:out c=[t]:=by rw[show c=(c.1,[]) from _root_.Prod.ext rfl k,b.other _ f,g4,uJ j]
   have hL:dI (zgb t)=false:=by rw[←g4];exact f
   rw[e,pS,Ec hL,Ec hL];rfl
theorem RL {out:bc×List bc→List cN} (j:tI out) (k:∀c,dI c.1=true→zbO c.1.Rune tabS=none→(∀m∈c.2,isM m=true)→∀t,(out c).head?=some t→eE (zgb t).Rune=false)
  {f g:bc×List bc→ae} (hf:∀c,f (mi c)=f c) (hg:∀c,g (mi c)=g c) {s x:ae} (r:s.size≤65536) (hx:x.data.toList=bJ ((je (dK s.data.toList)).flatMap out))
  (hL:∀c,dI c.1=true→(∀m∈c.2,isM m=true∧k7 m)→zbO c.1.Rune tabS=none→k7 c.1→J f (je (out c))=g c)
  (v:∀y,dI y=false→f (y,[])=g (y,[])):J f (kq x)=J g (kq s):=by
 have e:∀ (h:bc×List bc→ae) (u:ae),(∀c,h (mi c)=h c)→J h (kq u)=J h (je (dK u.data.toList)):=fun h u k=>by
  rw[←yG,rz];exact sF fun c _=>(k c).symm
 rw[e f x hf,e g s hg,D6 j hx]
 have b:wI false (je (dK s.data.toList)):=RK _
 have a:=A8 (nX s.data.toList)
 rw[Ju j k _ false a b,DR]
 refine sF fun c hc=>?_
 rcases a c hc with⟨i,p,n⟩|⟨i,p,t,n,g4⟩
 ·rw[←yG] at hc
  obtain⟨d,hd,rfl⟩:=aS.1 hc
  obtain⟨o1,o,w,_⟩:=(tF r).2 d hd
  exact hL _ i (fun m hm=>by obtain⟨y,hy,rfl⟩:=aS.1 (show m∈d.2.map jB from hm);exact⟨(o y hy).1,A7 (o y hy).2⟩) n (A7 o1)
 ·have q:c=(c.1,[]):=_root_.Prod.ext rfl p
  have e1:out c=[t]:=by rw[q,j.other _ i,g4,uJ n]
  have l:dI (zgb t)=false:=by rw[←g4];exact i
  rw[e1,Ec l]
  show J f [(zgb t,[])]=g c
  rw[iN,pA,aX,←g4,v _ i,←q]
theorem Ed {r:Int} (h:cW r=true):eE r=false:=by
 cases e:eE r with
 |false=>rfl
 |true=>have:=qa e;rw[h] at this;cases this
theorem Jv {r:Int} (h:vr r):zgb (jL r)=ji r:=by
 rw[DZ (wA h)]
 show ji ((r.toNat:Nat):Int)=ji r
 rw[show ((r.toNat:Nat):Int)=r by unfold vr at h;omega]
theorem RM {rs:List Int} (h:∀r∈rs,vr r):(rs.map jL).map zgb=rs.map ji:=by
 rw[bY]
 exact List.map_congr_left fun r hr=>Jv (h r hr)
theorem Jw:∀ {st:List Int},(∀m∈st,eE m=true)→st.flatMap ic=st
 |[],_=>rfl
 |m::st,h=>by
  rw[aK,IY (qa (h m (aq ..))),Jw fun x hx=>h x (ak _ hx)];rfl
theorem Ee {α:Type} {p:α→Bool}:∀ {l:List α},(∀x∈l,p x=true)→l.takeWhile p=l
 |[],_=>rfl
 |x::l,h=>by rw[List.takeWhile_cons,ax (h x (aq ..)),Ee fun y hy=>h y (ak _ hy)]
theorem Ef {α:Type} {p:α→Bool}:∀ {l:List α},(∀x∈l,p x=true)→l.dropWhile p=[]
 |[],_=>rfl
 |x::l,h=>by rw[List.dropWhile_cons,ax (h x (aq ..)),Ef fun y hy=>h y (ak _ hy)]
theorem RN {j b:Int} {st c:List Int} (hj:cW j=true) (a:∀m∈st,eE m=true) (hp:ic j=b::c):je ((j::st).map jL)=[(ji b,(c++st).map ji)]:=by
 unfold je
 rw[RM (fun r hr=>by
  rcases aY.1 hr with rfl|hr
  ·exact tJ hj
  ·exact yL (a r hr)),IZ,aK,hp,Jw a]
 obtain⟨h,f,e,hb,g,d,_⟩:=tC hj
 rw[hp] at e
 obtain⟨rfl,rfl⟩:=mM e
 rw[bq,av,wu (show dI (ji b)=true from hb)]
 have hall:∀x∈(c++st).map ji,isM x=true:=fun x hx=>by
  obtain⟨r,hr,rfl⟩:=aS.1 hx
  show eE r=true
  rcases bH.1 hr with hr|hr
  ·exact d r hr
  ·exact a r hr
 have h1:((c++st).map ji).takeWhile isM=(c++st).map ji:=Ee hall
 have h2:((c++st).map ji).dropWhile isM=[]:=Ef hall
 rw[h1,h2,DG]
def np (c:bc×List bc):List Int:=(loI c.2).map (·.Rune)
def nq (c:bc×List bc):List Int:=(hiI c.2).map (·.Rune)
theorem RP (b:Int) (ks:List Int):np (ji b,ks.map ji)=ks.filter mG∧nq (ji b,ks.map ji)=ks.filter (fun r=>!mG r):=by
 unfold np nq loI hiI
 constructor
 ·induction ks with
  |nil=>rfl
  |cons k ks a=>
   rw[av,ix,ix,show mf (ji k)=mG k from rfl]
   split
   ·rw[av];exact aH _ a
   ·exact a
 ·induction ks with
  |nil=>rfl
  |cons k ks a=>
   rw[av,ix,ix,show mf (ji k)=mG k from rfl]
   split
   ·rw[av];exact aH _ a
   ·exact a
theorem RS (c:bc×List bc):(∀x∈np c,mG x=true)∧∀x∈nq c,mG x=false:=by
 unfold np nq loI hiI
 constructor
 ·intro x hx
  obtain⟨y,hy,rfl⟩:=aS.1 hx
  rw[co] at hy;exact hy.2
 ·intro x hx
  obtain⟨y,hy,rfl⟩:=aS.1 hx
  rw[co] at hy
  simpa [mf] using hy.2
theorem Eg (c:bc×List bc):gA c=c.1.Rune::(np c++nq c):=by unfold gA mg np nq;simp
def RT (c:bc×List bc) (ts:List cN) (d:bc×List bc):Prop:=je ts=[d]∧dI d.1=true∧k7 d.1∧(∀m∈d.2,isM m=true∧k7 m)∧d.1.Rune=c.1.Rune
theorem Jx {r:Int} (h:vr r):k7 (ji r):=by
 unfold vr at h
 refine⟨?_,.inr ⟨?_,rfl⟩⟩
 ·show fl r;exact⟨by omega,by omega⟩
 ·show 0≤r;omega
theorem RU {c:bc×List bc} {j b:Int} {st g:List Int} (hj:cW j=true) (a:∀m∈st,eE m=true) (hp:ic j=b::g) (hb:b=c.1.Rune):RT c ((j::st).map jL) (ji b,(g++st).map ji):=by
 obtain⟨l,i,h,e,k,f,_⟩:=tC hj
 rw[hp] at h
 obtain⟨rfl,rfl⟩:=mM h
 refine⟨RN hj a hp,e,Jx (tJ e),fun m hm=>?_,hb⟩
 obtain⟨r,hr,rfl⟩:=aS.1 hm
 have d:eE r=true:=by
  rcases bH.1 hr with hr|hr
  ·exact f r hr
  ·exact a r hr
 exact⟨d,Jx (yL d)⟩
theorem Jy {l:List Int} (h:∀x∈l,mG x=true):l.filter mG=l∧l.filter (fun r=>!mG r)=[] :=
 ⟨qT.2 h,pm.2 fun x hx=>by simp[h x hx]⟩
theorem Jz {l:List Int} (h:∀x∈l,mG x=false):l.filter mG=[]∧l.filter (fun r=>!mG r)=l :=
 ⟨pm.2 fun x hx=>by simp[h x hx],qT.2 fun x hx=>by simp[h x hx]⟩
theorem RV {c:bc×List bc} (hL:dI c.1=true) (h1:k7 c.1) (h2:∀m∈c.2,isM m=true∧k7 m):pB c=iL (gA c):=by
 unfold pB gA
 rw[zip,rz]
 refine sF fun x hx=>?_
 rcases D9 hx with rfl|hx
 ·exact Jp h1 hL
 ·exact D4 (h2 x hx).2 (h2 x hx).1
theorem JA {c:bc×List bc} (hL:dI c.1=true):oS c=ku (cr c.1.Rune):=by
 unfold oS mH;rw[hL];rfl
theorem RW {r:Int} {rs:List Int} (h:cW r=true):∀t,((r::rs).map jL).head?=some t→eE (zgb t).Rune=false:=by
 intro t ht
 have:jL r=t:=mo ht
 subst this
 rw[Jv (tJ h)]
 exact Ed h
end Go.Proofs.YtifpjbgnikjglaaGreatDoor


namespace Go.Proofs.YtifpjbgnikjglaaGreatDoor
open Go.RowKit Go.Lib
open Tryz
set_option linter.unusedVariables false
set_option linter.unusedSimpArgs false
open _root_.ByteArray renaming empty→ad
open _root_.Go.IntWalk renaming i64_in→ai
open _root_.Go.Lib renaming indexByte→bp
open _root_.Go.Proofs.Tryz renaming underlying9→al,underlying63→cE,results68→og,underlying21→aZ,underlying46→cO,underlying36→aG,results118→mQ,results95→lT
open bW renaming nil→ce
open am renaming nil→ah
open Vw renaming get→bX
open _root_.Go.Utf8 renaming encode→ac
open _root_.Go.Value renaming string→af,int→aC,bool→ay
open _root_.List renaming nil_append→aW,append_nil→aE
def wJ (p1:cT):Option Bool := aU (fl p1.Rune) <|some (((fq p1.Broken p1.Rune):Int)==1)
theorem JB {p1:cT} {r:Bool} (h:wJ p1=some r):dB prog 123 [.agg #[zI p1.At,zI p1.Width,.int .i32 p1.Rune,.bool p1.Broken]] (.bool r):=by
 unfold wJ at h
 refine dB.intro func123 rfl ntmps123 (by simp) (fun w0 K=>zyG (zeV rfl dc rfl (fun b1=>zyR 1 rfl (zyH (zbT (k:=0) (cs:=[zI p1.At,zI p1.Width,.int .i32 p1.Rune,.bool p1.Broken]) lB rfl dc rfl rfl rfl rfl (zbt h fun a h=>zaI (v:=zI (fq p1.Broken p1.Rune)) (vs:=[.agg #[zI p1.At,zI p1.Width,.int .i32 p1.Rune,.bool p1.Broken]]) rfl dc rfl rfl rfl vK (vT p1.At p1.Width p1.Rune p1.Broken a.1 a.2) (zaR rfl zbe (zyR 1 rfl (zyN (zaz ?_))))))))))
 cases h
 exact cZ 2 results123
def uK (p1:cT):Option Bool := aU (fl p1.Rune) <|some (((fq p1.Broken p1.Rune):Int)==2)
theorem JC {p1:cT} {r:Bool} (h:uK p1=some r):dB prog 92 [.agg #[zI p1.At,zI p1.Width,.int .i32 p1.Rune,.bool p1.Broken]] (.bool r):=by
 unfold uK at h
 refine dB.intro func92 rfl ntmps92 (by simp) (fun w0 K=>zyG (zeV rfl dc rfl (fun b1=>zyR 1 rfl (zyH (zbT (k:=0) (cs:=[zI p1.At,zI p1.Width,.int .i32 p1.Rune,.bool p1.Broken]) lB rfl dc rfl rfl rfl rfl (zbt h fun a h=>zaI (v:=zI (fq p1.Broken p1.Rune)) (vs:=[.agg #[zI p1.At,zI p1.Width,.int .i32 p1.Rune,.bool p1.Broken]]) rfl dc rfl rfl rfl vK (vT p1.At p1.Width p1.Rune p1.Broken a.1 a.2) (zaR rfl zbe (zyR 1 rfl (zyN (zaz ?_))))))))))
 cases h
 exact cZ 2 results92
def zej (a:ae) (f:Int) (j:(List gk)→Option (List gk)) (h:(List gk)→Bool→Int→Option (List gk)) (d:List gk) (c:Bool) (b:Int):Option (List gk) := aM (decide ((b:Int)<(a.size:Int))) (cn (fun (g:(List gk)→Bool→Option (List gk))=>aT (jz a b) fun (c1:Int)=>aM ((c1:Int)==32) (g d false) (aM (c) (aU (cp ((d.length:Int)-1)) <|aT (zcx d ((d.length:Int)-1)) fun (q1:gk)=>aU (cp (b+1)) <|aU (0≤(b:Int)∧(b:Int)≤(b+1)∧(b+1:Int)≤(a.size:Int)) <|aU (q1.text.size+(cL a b (b+1)).size≤9223372036854775807) <|g (d.set ((d.length:Int)-1:Int).toNat (⟨q1.at_,q1.text++(cL a b (b+1))⟩:gk)) c) (aU (cp (f+b)) <|aU (cp (b+1)) <|aU (0≤(b:Int)∧(b:Int)≤(b+1)∧(b+1:Int)≤(a.size:Int)) <|aU (d.length+1≤2147483648) <|g (d++[(⟨f+b,cL a b (b+1)⟩:gk)]) true))) (fun (i:List gk) (e:Bool)=>aU (cp (b+1)) <|h i e (b+1))) (j d)
def yO (a:ae) (b:Int):Option (List gk) := cn (fun (d:(List gk)→Option (List gk))=>zaC (fun _ _ _=>none) (zej a b d) zbC ([]:List gk) false 0) (fun (c:List gk)=>some c)
theorem RX {a:ae} {g:Int} {r:(List gk)} (h:yO a g=some r):Fn prog 30 [.string a,zI g] [] (fun v0:Value=>v0) (fun v0=>[tA v0 r]):=by
 unfold yO at h
 refine _root_.Go.Proofs.YtifpjbgnikjglaaGreatDoor.Fn.intro func30 rfl ntmps30 (by simp) (fun w0 K=>zbp h fun x A h=>zaM (β:=(List gk)×Value) 3 rfl (fun b=>x b.1=some r) (fun b=>[]) (fun b=>[(5,b.2)]) (fun b=>[tA b.2 b.1]) (fun cut=>?_) ?_)
 ·refine zyG (zyR 1 rfl (zyH (zyR 1 rfl (zyH (zyR 1 rfl (bG (ct (cut (zyG (zyR 1 rfl (zcX rfl dc rfl al (zyR 1 rfl (zyN (zau (mU (enc:=ui) (e:=111) (size:=2) (eO (β:=Nat×(List gk)×Bool×Int×Value) (fun b=>zaC (fun _ _ _=>none) (zej a g x) b.1 b.2.1 b.2.2.1 b.2.2.2.1=some r) (fun b=>[]) (fun b=>[(0,.string a),(1,zI g),(5,b.2.2.2.2),(6,.bool b.2.2.1),(9,zI (a.size:Int)),(10,zI b.2.2.2.1)]) (fun b=>[tA b.2.2.2.2 b.2.1]) (fun b=>b.1) (zbC,([]:List gk),false,0,(.slice none 0 0)) h rfl (bE rfl) (cj 1) ?_))))))))))))))))
  rintro⟨w,l,m,f,s⟩ h
  cases w with
  |zero=>exact eG h
  |succ w=>
   obtain⟨M,p⟩:∃ag,ag=zaC (fun _ _ _=>none) (zej a g x) w:=⟨_,rfl⟩
   have h:zej a g x M l m f=some r:=by rw[p];exact h
   unfold zej at h
   refine zyG (zaR rfl zbi (zyN (zaL (zyB rfl h (fun h=>?_) (fun h=>?_)))))
   ·refine bA (ct (zbp h fun Q z h=>zaM (β:=(List gk)×Bool×Value) 0 rfl (fun b=>Q b.1 b.2.1=some r) (fun b=>[]) (fun b=>[(0,.string a),(1,zI g),(5,b.2.2),(6,.bool b.2.1),(9,zI (a.size:Int)),(10,zI f)]) (fun b=>[tA b.2.2 b.1]) (fun cut=>cut (zau (zyG (zyR 2 rfl (zyN (zau (zyG (zyR 2 rfl (zbl h fun c1 y h=>mS rfl dc rfl rfl (oY al y) (zaR rfl zbe (zyR 1 rfl (zyN (zyB rfl h (fun h=>bV (zyR 1 rfl (bG (ca (ca (mD (l,false,s) h 1)))))) (fun h=>zyG (zyR 2 rfl (zyN (zyB rfl h (fun h=>zbt h fun L h=>zbl h fun q1 o h=>zbt h fun J h=>zbt h fun I h=>zbt h fun H h=>zdb 12 [(0,32,s),(1,33,s),(2,34,zI (l.length:Int)),(3,35,zI ((l.length:Int)-1)),(4,36,.pointer (some ⟨gn s,((l.length:Int)-1:Int).toNat*2,none⟩)),(5,37,.pointer (some ⟨gn s,(((l.length:Int)-1:Int).toNat)*2+1,none⟩)),(6,38,.string q1.text),(7,39,.string a),(8,40,zI f),(9,41,zI f),(10,42,zI (f+1)),(11,43,.string (cL a f (f+1)))] mixed kr kr dc (by rfl) kr kr (zyP 2 0 rfl (zae (fun D n d c u i=>gK (k:=0) rfl dc (bC 1 u d) rfl cE (zaT 2 u i)) (zae (fun D n d c u i=>lU rfl dc (bC 2 u d) rfl (jH (r:=(l.length:Int)-1) (ai _ L)) (zaT 3 u i)) (zae (fun D n d c u i=>eY (k:=0) o cE o8 rfl dc (bC 0 u d) (bC 3 u d) rfl rfl (zaT 4 u i)) (zae (fun D n d c u i=>zab vI rfl dc (bC 4 u d) (show _=(((l.length:Int)-1:Int).toNat)*2+1 from rfl) (zaT 5 u i)) (zae (fun D n d c u i=>fW (i:=((l.length:Int)-1:Int).toNat) (j:=1) (k:=0) (q:=q1) eb Aw rfl dc (bC 5 u d) rfl (ep o) rfl dc rfl (zaT 6 u i)) (zyP 3 7 rfl (zae (fun D n d c u i=>lU rfl dc (bC 9 u d) rfl (dE (r:=f+1) (ai _ J)) (zaT 10 u i)) (zae (fun D n d c u i=>ia rfl dc (bC 7 u d) (evO.some (bC 8 u d)) (evO.some (bC 10 u d)) (ka (i:=f) (j:=f+1) al (.inr rfl) (.inr rfl) I) (zaT 11 u i)) ce))))))))) (zaR rfl (lx H) (eY (k:=0) o cE o8 rfl dc rfl rfl rfl rfl (zab vI rfl dc rfl (show _=(((l.length:Int)-1:Int).toNat)*2+1 from rfl) (oF (i:=((l.length:Int)-1:Int).toNat) (j:=1) (k:=0) (q:=q1) (q':=(⟨q1.at_,q1.text++(cL a f (f+1))⟩:gk)) gG Aw rfl rfl rfl rfl (ep o) rfl dc rfl (fun _ _=>rfl) (bG (ca (ca (mD (l.set ((l.length:Int)-1:Int).toNat (⟨q1.at_,q1.text++(cL a f (f+1))⟩:gk),m,s) h 1))))))))) (fun h=>zyG (zyR 3 rfl (zbt h fun G h=>zaR rfl (dE (r:=g+f) (ai _ G)) (zyR 3 rfl (zbt h fun F h=>zaR rfl (dE (r:=f+1) (ai _ F)) (zbt h fun E h=>ia rfl dc rfl rfl rfl (ka (i:=f) (j:=f+1) al (.inr rfl) (.inr rfl) E) (zbb (v:=.agg #[zI (g+f),.string (cL a f (f+1))]) (ps:=[(0,.tmp 16),(1,.tmp 21)]) rfl dc rfl (fun _=>by kernel_rfl) (fE (cs:=[zI (g+f),.string (cL a f (f+1))]) (te:=111) (ps:=[(0,.tmp 22)]) rfl dc rfl (fun _=>by kernel_rfl) (fun b1=>zbt h fun C h=>iC (k:=0) (k2:=1) (ys:=[(⟨g+f,cL a f (f+1)⟩:gk)]) cE M4 Aw Oz rfl dc rfl rfl rfl rfl rfl rfl C (fun N=>zyR 1 rfl (zyN (bV (zyR 1 rfl (bG (ca (ca (mD (l++[(⟨g+f,cL a f (f+1)⟩:gk)],true,N) h 1)))))))))))))))))))))))))))))))))) ?_))
    rintro⟨P,t,O⟩ h
    rw[z] at h
    refine bV (zbt h fun B h=>zaR rfl (dE (r:=f+1) (ai _ B)) (zyR 1 rfl (bG ?_)))
    subst p
    exact aD (w,P,t,f+1,O) h 1
   exact dF (bU (bU (dG (mD (l,s) h 1))))
 rintro⟨R,v1⟩ h
 rw[A] at h
 refine zyG (zyR 2 rfl (zyN (zaz ?_)))
 cases h
 exact eB (rs:=[.tmp 4]) v1 (.inl rfl) results30 (.cons (.tmp rfl) .nil) rfl (cj 1)
def yP (c:List gk) (d:Int):Option Int := cn (fun (e:Int→Int→Option Int)=>aT (zcx c 0) fun (q1:gk)=>aM (decide (q1.text=(⟨#[112,117,116]⟩:ae))) (cn (fun (f:Option Int)=>aM (decide ((2:Int)<(c.length:Int))) (aT (zcx c 2) fun (q2:gk)=>aM (!decide (q2.text=(⟨#[97,102,116,101,114]⟩:ae))) (aT (zcx c 2) fun (i:gk)=>some i.at_) (f)) (f)) (e 4 4)) (aM (decide (q1.text=(⟨#[97,115]⟩:ae))) (e 3 6) (aM (decide (q1.text=(⟨#[115,107,105,112]⟩:ae))) (e 2 2) (aT (zcx c 0) fun (h:gk)=>some h.at_)))) (fun (b:Int) (a:Int)=>aM (decide (((c.length:Int):Int)<b)) (some d) (aM (decide ((a:Int)<(c.length:Int))) (aT (zcx c a) fun (g:gk)=>some g.at_) (some (-1))))
theorem RY {k g:Value} {u:List gk} {c:Nat} {y:List gk} (a:Vw k u 2 c g y) {d:Int} {r:Int} (h:yP y d=some r):iu prog 68 [g,zI d] [iX ui 2 k c u] [] (fun _:Unit=>(zI r)) (fun _=>[]):=by
 unfold yP at h
 refine iu.intro func68 rfl ntmps68 (by simp) (fun w0 K f=>zbp h fun D x h=>zaM (β:=Int×Int) 2 rfl (fun b=>D b.1 b.2=some r) (fun b=>[]) (fun b=>[(0,g),(1,zI d),(5,zI b.1),(6,zI b.2)]) (fun b=>[]) (fun cut=>?_) ?_)
 ·refine zyG (zyR 1 rfl (zyH (zyR 2 rfl (zyN (cut (zyG (zyR 1 rfl (zbl h fun q1 t h=>fm a t cE o8 rfl dc rfl rfl rfl (zab vI rfl dc rfl (show _=(c+(0:Int).toNat)*2+1 from rfl) (jr (n:=c+(0:Int).toNat) (j:=1) (i:=0) (q:=q1) f rfl (by omega) eb rfl dc rfl (bX a t) rfl rfl (zyN (zau (zyG (zaR rfl zdn (zyR 1 rfl (zyN (zyB rfl h (fun h=>?_) (fun h=>?_))))))))))))))))))
  ·refine zbp h fun C w h=>zaM (β:=Unit) 0 rfl (fun b=>C=some r) (fun b=>[]) (fun b=>[(0,g),(1,zI d)]) (fun b=>[]) (fun cut=>?_) ?_
   ·refine cut (zyG (zyR 1 rfl (zbV a rfl dc rfl cE (zaR rfl zdV (zyR 1 rfl (zyS (s:=20) rfl h (fun h=>?_) (fun h=>?_)))))))
    ·refine zyR 1 rfl (zbl h fun q2 p h=>fm a p cE o8 rfl dc rfl rfl rfl (zab vI rfl dc rfl (show _=(c+(2:Int).toNat)*2+1 from rfl) (jr (n:=c+(2:Int).toNat) (j:=1) (i:=0) (q:=q2) f rfl (by omega) eb rfl dc rfl (bX a p) rfl rfl (zaR rfl qV (zyR 1 rfl (zyN (zyB rfl h (fun h=>?_) (fun h=>?_))))))))
     ·refine zyG (zyR 1 rfl (zbl h fun B o h=>fm a o cE o8 rfl dc rfl rfl rfl (zab tp rfl dc rfl (show _=(c+(2:Int).toNat)*2 from rfl) (jr (n:=c+(2:Int).toNat) (j:=0) (i:=0) (q:=B) f rfl (by omega) dQ rfl dc rfl (bX a o) rfl rfl (zyR 1 rfl (zyN (zaz (bP (cD (bP ?_))))))))))
      cases h
      exact cZ 4 og
     exact bA (cH () h rfl (bE rfl) ah)
    exact zyR 6 rfl (zyN (eh rfl (bA (cH () h rfl (bE rfl) ah))))
   rintro _ h
   rw[w] at h
   exact bV (zyR 2 rfl (bG (ca (cH (4,4) h rfl (bE rfl) ah))))
  refine zyG (zaR rfl zdn (zyR 1 rfl (zyN (zyB rfl h (fun h=>bV (zyR 2 rfl (bG (ca (cH (3,6) h rfl (bE rfl) ah))))) (fun h=>zyG (zaR rfl zdn (zyR 1 rfl (zyN (zyB rfl h (fun h=>bA (ca (cH (2,2) h rfl (bE rfl) ah))) (fun h=>zyG (zyR 1 rfl (zbl h fun A m h=>fm a m cE o8 rfl dc rfl rfl rfl (zab tp rfl dc rfl (show _=(c+(0:Int).toNat)*2 from rfl) (jr (n:=c+(0:Int).toNat) (j:=0) (i:=0) (q:=A) f rfl (by omega) dQ rfl dc rfl (bX a m) rfl rfl (zyR 1 rfl (zyN (zaz (cD (bP ?_)))))))))))))))))))
  cases h
  exact cZ 4 og
 rintro⟨v,e⟩ h
 rw[x] at h
 refine zaL (zau (zyG (zyR 1 rfl (zbV a rfl dc rfl cE (zyR 1 rfl (zaR rfl zbi (zyR 1 rfl (zyN (zyB rfl h (fun h=>?_) (fun h=>?_))))))))))
 ·refine zyG (zyR 2 rfl (zyN (zaz (cD (bP ?_)))))
  cases h
  exact cZ 4 og
 refine zyG (zyR 1 rfl (zbV a rfl dc rfl cE (zyR 1 rfl (zaR rfl zdV (zyR 1 rfl (zyN (zyB rfl h (fun h=>?_) (fun h=>?_))))))))
 ·refine zyG (zyR 2 rfl (zbl h fun z l h=>fm a l cE o8 rfl dc rfl rfl rfl (zab tp rfl dc rfl (show _=(c+(e:Int).toNat)*2 from rfl) (jr (n:=c+(e:Int).toNat) (j:=0) (i:=0) (q:=z) f rfl (by omega) dQ rfl dc rfl (bX a l) rfl rfl (zyR 1 rfl (zyN (zaz (cD (bP ?_)))))))))
  cases h
  exact cZ 4 og
 refine bA (ca (ct (zyG (zyR 1 rfl (zyN (zaz ?_))))))
 cases h
 exact cZ 4 og
def zdS (r1:ae) (x1:cT) (a:ae→Option ae) (b:ae):Option ae := aT (wJ x1) fun (r3:Bool)=>aM (r3) (aU (fl x1.Rune) <|aU (b.size+(ac (cr x1.Rune)).size≤140737488355328) <|a (b++(ac (cr x1.Rune)))) (aU (cp (x1.At+x1.Width)) <|aU (0≤(x1.At:Int)∧(x1.At:Int)≤(x1.At+x1.Width)∧(x1.At+x1.Width:Int)≤(r1.size:Int)) <|aU (b.size+(cL r1 x1.At (x1.At+x1.Width)).size≤140737488355328) <|a (b++(cL r1 x1.At (x1.At+x1.Width))))
def yQ (c:ae):Option ae := cn (fun (d:ae→Option ae)=>aT (wB c) fun (r1:ae)=>aT (uG r1) fun (r2:ae)=>aT (sE r2) fun (a:(List cT))=>cn (fun (b:ae→Option ae)=>zdw b (zdS r1) a ad) (fun (e:ae)=>d e)) (fun (f:ae)=>some f)
theorem RZ {H:ae} {r:ae} (h:yQ H=some r):dB prog 121 [.string H] (.string r):=by
 unfold yQ at h
 refine dB.intro func121 rfl ntmps121 (by simp) (fun w0 K=>ziX (zbp h fun j1 O h=>zaM (β:=ae×Nat×Value×(List Nat)) 3 rfl (fun b=>j1 b.1=some r) (fun b=>oj b.2.2.2) (fun b=>[(3,zP b.2.1)]) (fun b=>[cells b.2.1 [b.2.2.1] 46,byt 5 b.2.2.1 b.1,zhW ((b.2.2.2:List Nat).map fx)]) (fun cut=>?_) ?_))
 ·refine zyG (zeV rfl dc rfl (fun G=>zyR 1 rfl (zyH (zat (k:=1) eb rfl dc rfl rfl rfl (zbl h fun r1 N h=>zaI (v:=.string r1) (vs:=[.string H]) rfl dc rfl rfl rfl Hc (I0 N) (ef (k:=1) (l':=[.string r1]) gG rfl rfl rfl rfl rfl (fun _ _=>rfl) rfl (zyH (zbk MR rfl dc (fun F=>zyN (cut (zyG (zat (k:=1) eb rfl dc rfl rfl rfl (zbl h fun r2 M h=>zbJ (vs:=[.string r1]) rfl dc rfl rfl rfl xB (yB M) ah (fun X=>zyN (zau (zbl h fun A L h=>xr (e:=5) (zbp h fun y E h=>tZ (α:=cT) (β:=ae×Value) (γ:=Unit) (δ:=Nat) (ps:=[9]) Ro.nil rfl xD (yA L) (fun pre b=>∀post,A=pre++post→zdw y (zdS r1) post b.1=some r) (fun pre b=>[cells G [.string r1] 9,cells F [b.2] 46,byt 5 b.2 b.1]) (fun c pre g=>False) (fun c pre g=>[]) (fun pre x b j=>[(1,zP G),(2,.string (⟨#[]⟩:ae)),(3,zP F),(8,.func (.func 154) #[] #[zP X]),(4,zP j)]) (fun pre x b j=>[cells G [.string r1] 9,cells F [b.2] 46,byt 5 b.2 b.1,cells j [zI x.At,zI x.Width,.int .i32 x.Rune,.bool x.Broken] 132]) (ad,(.slice none 0 0)) (fun post e=>by rw[aW] at e;subst e;exact h) (cg [1,2,4] kr rfl) ⟨.inl ⟨3,rfl⟩,trivial⟩ (fun _=>rfl) dc ?_ ?_ ?_ ?_)))))))))))))))))
  ·rintro Z Y pre x1 post ⟨q,s⟩ w1 K1 f C I l
   exact bV (zbk zjz rfl dc (fun b9=>eK (k:=3) (vs:=[zI x1.At,zI x1.Width,.int .i32 x1.Rune,.bool x1.Broken]) (l':=[zI x1.At,zI x1.Width,.int .i32 x1.Rune,.bool x1.Broken]) kC rfl rfl rfl rfl rfl (show _≤_ by simp) rfl rfl (bG (fun a w ha hw=>⟨b9,(bE rfl) _ _ _ ha,hw.weaken (cj 4)⟩))))
  ·rintro Z Y pre x1 m ⟨q,s⟩ p w1 K1 f C I l
   have h:=l (x1::m) f
   obtain⟨U,o⟩:∃ag,ag=zdw y (zdS r1) m:=⟨_,rfl⟩
   have h:zdS r1 x1 U q=some r:=by have h2:=h;rw[nI,←o] at h2;exact h2
   unfold zdS at h
   exact zau (zyG (zbT (k:=3) (cs:=[zI x1.At,zI x1.Width,.int .i32 x1.Rune,.bool x1.Broken]) lB rfl dc rfl rfl rfl rfl (zbl h fun r3 J h=>zaI (v:=.bool r3) (vs:=[.agg #[zI x1.At,zI x1.Width,.int .i32 x1.Rune,.bool x1.Broken]]) rfl dc rfl rfl rfl Hj (JB (p1:=x1) J) (zyN (zyB rfl h (fun h=>zbt h fun B h=>zbt h fun S h=>zdb 5 [(0,12,s),(1,13,.pointer (some ⟨p,2,none⟩)),(2,14,.int .i32 x1.Rune),(3,15,.int .i32 (cr x1.Rune)),(4,16,.string (ac (cr x1.Rune)))] mixed kr kr dc (by rfl) kr kr (zae (fun D n d c u i=>zat (k:=1) Cx rfl dc (zbA (by rfl) rfl) rfl rfl (zaT 0 u i)) (zae (fun D n d c u i=>zab pZ rfl dc (zbA (by rfl) rfl) (show _=2 from rfl) (zaT 1 u i)) (zae (fun D n d c u i=>zat (k:=3) eP rfl dc (bC 1 u d) rfl rfl (zaT 2 u i)) (zae (fun D n d c u i=>zaI (v:=.int .i32 (cr x1.Rune)) (vs:=[.int .i32 x1.Rune]) rfl dc rfl (evL.cons (bC 2 u d) evL.nil) rfl Av (mw fun w=>xK x1.Rune w B.1 B.2) (zaT 3 u i)) (zae (fun D n d c u i=>zdi rfl dc (bC 3 u d) (lJ aZ al) (zaT 4 u i)) ce))))) (ub (k:=2) cO al qu rfl dc rfl rfl rfl S (fun W=>ef (k:=1) (l':=[W]) GF rfl rfl rfl rfl rfl (fun _ h=>FM h (k:=2) rfl) rfl (bG (ca (lH (q++(ac (cr x1.Rune)),W) (fun t e2=>by have T:=lK f e2;subst T;subst o;exact h) (cj 3))))))) (fun h=>zbt h fun R h=>zbt h fun Q h=>zbt h fun P h=>zdb 10 [(0,18,s),(1,19,.string r1),(2,20,zP p),(3,21,zI x1.At),(4,22,zP p),(5,23,zI x1.At),(6,24,.pointer (some ⟨p,1,none⟩)),(7,25,zI x1.Width),(8,26,zI (x1.At+x1.Width)),(9,27,.string (cL r1 x1.At (x1.At+x1.Width)))] mixed kr kr dc (by rfl) kr kr (zae (fun D n d c u i=>zat (k:=1) Cx rfl dc (zbA (by rfl) rfl) rfl rfl (zaT 0 u i)) (zae (fun D n d c u i=>zat (k:=0) eb rfl dc (zbA (by rfl) rfl) rfl rfl (zaT 1 u i)) (zae (fun D n d c u i=>zab zd6 rfl dc (zbA (by rfl) rfl) (show _=0 from rfl) (zaT 2 u i)) (zae (fun D n d c u i=>zat (k:=3) dQ rfl dc (bC 2 u d) rfl rfl (zaT 3 u i)) (zae (fun D n d c u i=>zab zd6 rfl dc (zbA (by rfl) rfl) (show _=0 from rfl) (zaT 4 u i)) (zae (fun D n d c u i=>zat (k:=3) dQ rfl dc (bC 4 u d) rfl rfl (zaT 5 u i)) (zae (fun D n d c u i=>zab qx rfl dc (zbA (by rfl) rfl) (show _=1 from rfl) (zaT 6 u i)) (zae (fun D n d c u i=>zat (k:=3) dQ rfl dc (bC 6 u d) rfl rfl (zaT 7 u i)) (zae (fun D n d c u i=>lU rfl dc (bC 5 u d) (bC 7 u d) (dE (r:=x1.At+x1.Width) (ai _ R)) (zaT 8 u i)) (zae (fun D n d c u i=>ia rfl dc (bC 1 u d) (evO.some (bC 3 u d)) (evO.some (bC 8 u d)) (ka (i:=x1.At) (j:=x1.At+x1.Width) al (.inr rfl) (.inr rfl) Q) (zaT 9 u i)) ce)))))))))) (ub (k:=2) cO al qu rfl dc rfl rfl rfl P (fun V=>ef (k:=1) (l':=[V]) GF rfl rfl rfl rfl rfl (fun _ h=>FM h (k:=2) rfl) rfl (bG (ca (lH (q++(cL r1 x1.At (x1.At+x1.Width)),V) (fun t e2=>by have T:=lK f e2;subst T;subst o;exact h) (cj 3))))))))))))
  ·rintro z ⟨q,s⟩ l
   have h:y q=some r:=l [] (aE _).symm
   rw[E] at h
   show TX _ _ _ _ _ _ _ [zhW ((([]:List Nat):List Nat).map fx),cy,cy,cells X [.string r2] 9,cy,cells G [.string r1] 9,cells F [s] 46,byt 5 s q,fx z]
   exact rU (k:=8) (j:=0) rfl rfl dc (ca (cH (q,F,s,z::([]:List Nat)) h rfl (bE rfl) (cg [6,7,0] kr rfl)))
  exact fun z c pre x1 post g ao hX=>(show False from hX).elim
 rintro⟨b2,b1,v1,ds1⟩ h
 rw[O] at h
 refine zyG (zat (k:=0) Cx rfl dc rfl rfl rfl (qq (k:=1) rfl dc rfl rfl cO underlying5 al (zyR 1 rfl (zyN (zaz ?_)))))
 cases h
 exact lj (rs:=[.tmp 2]) ds1 () (.inl rfl) (lg (k:=2) rfl) results121 (.cons (.tmp rfl) .nil) rfl ah
def zek (b:Int→Option ae) (x1:cT) (c:Int→Option ae) (a:Int):Option ae := aU (cp (a+1)) <|aM (decide ((8:Int)<(a+1))) (b (a+1)) (aT (wJ x1) fun (r3:Bool)=>aM (!r3) (aM (((a+1):Int)==1) (b (a+1)) (aT (uK x1) fun (d:Bool)=>aM (!d) (b (a+1)) (c (a+1)))) (c (a+1)))
def wK (e:ae):Option ae := cn (fun (f:ae→Option ae)=>aT (yQ e) fun (r1:ae)=>aT (uG r1) fun (r2:ae)=>aT (sE r2) fun (a:(List cT))=>cn (fun (b:Int→Option ae)=>cn (fun (c:Int→Option ae)=>zdw c (zek b) a 0) (fun (h:Int)=>f r1)) (fun (g:Int)=>some (⟨#[]⟩:ae))) (fun (d:ae)=>some d)
theorem R2 {C:ae} {r:ae} (h:wK C=some r):dB prog 69 [.string C] (.string r):=by
 unfold wK at h
 refine dB.intro func69 rfl ntmps69 (by simp) (fun w0 K=>ziX (zbp h fun U J h=>zaM (β:=ae×Nat×(List Nat)) 3 rfl (fun b=>U b.1=some r) (fun b=>oj b.2.2) (fun b=>[(0,.string b.1),(2,zP b.2.1)]) (fun b=>[cells b.2.1 [.string ad] 9,zhW ((b.2.2:List Nat).map fx)]) (fun cut=>?_) ?_))
 ·refine zyG (zbk GD rfl dc (fun t=>zyH (zyR 1 rfl (zbl h fun r1 I h=>zaI (v:=.string r1) (vs:=[.string C]) rfl dc rfl rfl rfl N8 (RZ I) (zyR 1 rfl (zyH (zbk xu rfl dc (fun u=>ef (k:=2) (l':=[zI 0]) jJ rfl rfl rfl rfl rfl (fun _ _=>rfl) rfl (zyN (cut (zyG (zyR 1 rfl (zbl h fun r2 H h=>zbJ (vs:=[.string r1]) rfl dc rfl rfl rfl xB (yB H) ah (fun N=>zyN (zau (zbl h fun y G h=>zbp h fun o A h=>zbp h fun q B h=>tZ (α:=cT) (β:=Int) (γ:=Int) (δ:=Nat) (ps:=[9]) Ro.nil rfl xD (yA G) (fun pre b=>∀post,y=pre++post→zdw q (zek o) post b=some r) (fun pre b=>[cells t [.string ad] 9,cells u [zI b] 3]) (fun c pre g=>(fun g=>c=.ret∧o g=some r) g) (fun c pre g=>(fun g=>[cells t [.string (⟨#[]⟩:ae)] 9,cells u [zI g] 3]) g) (fun pre x b j=>[(0,.string r1),(2,zP t),(3,zP u),(8,.func (.func 154) #[] #[zP N]),(4,zP j)]) (fun pre x b j=>[cells t [.string ad] 9,cells u [zI b] 3,cells j [zI x.At,zI x.Width,.int .i32 x.Rune,.bool x.Broken] 132]) 0 (fun post e=>by rw[aW] at e;subst e;exact h) (cg [1,2] kr rfl) ⟨.inl ⟨3,rfl⟩,trivial⟩ (fun _=>rfl) dc (fun S Q pre x1 post i w1 Z d z D f=>bV (zbk zjz rfl dc (fun Y=>eK (k:=2) (vs:=[zI x1.At,zI x1.Width,.int .i32 x1.Rune,.bool x1.Broken]) (l':=[zI x1.At,zI x1.Width,.int .i32 x1.Rune,.bool x1.Broken]) kC rfl rfl rfl rfl rfl (show _≤_ by simp) rfl rfl (bG (fun a w ha W=>⟨Y,(bE rfl) _ _ _ ha,W.weaken (cj 3)⟩))))) ?_ ?_ ?_))))))))))))))))
  ·rintro S Q pre x1 l i T w1 Z d z D f
   have h:=f (x1::l) d
   obtain⟨O,m⟩:∃ag,ag=zdw q (zek o) l:=⟨_,rfl⟩
   have h:zek o x1 O i=some r:=by have h2:=h;rw[nI,←m] at h2;exact h2
   unfold zek at h
   exact zau (zyG (zat (k:=1) dQ rfl dc rfl rfl rfl (zbt h fun L h=>zaR rfl (dE (r:=i+1) (ai _ L)) (ef (k:=1) (l':=[zI (i+1)]) jJ rfl rfl rfl rfl rfl (fun _ _=>rfl) rfl (zyH (zat (k:=1) dQ rfl dc rfl rfl rfl (zaR rfl zdV (zyR 1 rfl (zyS (s:=14) rfl h (fun h=>zyR 13 rfl (bG (ct (gM rfl (zyG (ef (k:=0) (l':=[.string (⟨#[]⟩:ae)]) gG rfl rfl rfl rfl rfl (fun _ _=>rfl) rfl (zyN (zaz (cD (my (i+1) (show _∧_ from ⟨rfl,h⟩) (cj 2))))))))))) (fun h=>zbT (k:=2) (cs:=[zI x1.At,zI x1.Width,.int .i32 x1.Rune,.bool x1.Broken]) lB rfl dc rfl rfl rfl rfl (zbl h fun r3 F h=>zaI (v:=.bool r3) (vs:=[.agg #[zI x1.At,zI x1.Width,.int .i32 x1.Rune,.bool x1.Broken]]) rfl dc rfl rfl rfl Hj (JB (p1:=x1) F) (jU rfl dc rfl jV (zyR 1 rfl (zyS (s:=18) rfl h (fun h=>zat (k:=1) dQ rfl dc rfl rfl rfl (zaR rfl zbe (zyR 1 rfl (zyS (s:=21) rfl h (fun h=>zyR 6 rfl (zyN (gM rfl (zyG (ef (k:=0) (l':=[.string (⟨#[]⟩:ae)]) gG rfl rfl rfl rfl rfl (fun _ _=>rfl) rfl (zyN (zaz (cD (my (i+1) (show _∧_ from ⟨rfl,h⟩) (cj 2)))))))))) (fun h=>zbT (k:=2) (cs:=[zI x1.At,zI x1.Width,.int .i32 x1.Rune,.bool x1.Broken]) lB rfl dc rfl rfl rfl rfl (zbl h fun R E h=>zaI (v:=.bool R) (vs:=[.agg #[zI x1.At,zI x1.Width,.int .i32 x1.Rune,.bool x1.Broken]]) rfl dc rfl rfl rfl He (JC (p1:=x1) E) (jU rfl dc rfl jV (zyR 3 rfl (zyN (zyB rfl h (fun h=>zyG (ef (k:=0) (l':=[.string (⟨#[]⟩:ae)]) gG rfl rfl rfl rfl rfl (fun _ _=>rfl) rfl (zyN (zaz (cD (my (i+1) (show _∧_ from ⟨rfl,h⟩) (cj 2))))))) (fun h=>bA (ca (lH (i+1) (fun p e2=>by have M:=lK d e2;subst M;subst m;exact h) (cj 2)))))))))))))) (fun h=>zyR 9 rfl (zyN (eh rfl (bA (ca (lH (i+1) (fun p e2=>by have M:=lK d e2;subst M;subst m;exact h) (cj 2)))))))))))))))))))))
  ·rintro n i f
   have h:q i=some r:=f [] (aE _).symm
   rw[B] at h
   show TX _ _ _ _ _ _ _ [zhW ((([]:List Nat):List Nat).map fx),cy,cy,cells N [.string r2] 9,cells t [.string ad] 9,cells u [zI i] 3,fx n]
   exact rU (k:=6) (j:=0) rfl rfl dc (ca (cH (r1,t,n::([]:List Nat)) h rfl (bE rfl) (cg [4,0] kr rfl)))
  rintro n c pre x1 post g V X
  obtain⟨rfl,h⟩:=(show _∧_ from X)
  generalize g=n4 at *
  rw[A] at h
  show TC _ _ _ _ _ _ _ _ _ [zhW ((([]:List Nat):List Nat).map fx),cy,cy,cells N [.string r2] 9,cells t [.string (⟨#[]⟩:ae)] 9,cells u [zI n4] 3,fx n]
  refine zU (k:=6) (j:=0) rfl rfl dc (zaz (cD (bP ?_)))
  cases h
  exact lj (rs:=[.cell 2 9]) (n::([]:List Nat)) () (.inl rfl) (lg (k:=0) rfl) results69 (.cons (.cell eb (k:=4) rfl rfl) .nil) rfl ah
 rintro⟨P,b1,ds1⟩ h
 rw[J] at h
 refine zyG (zyR 1 rfl (ef (k:=0) (l':=[.string P]) gG rfl rfl rfl rfl rfl (fun _ _=>rfl) rfl (zyN (zaz ?_))))
 cases h
 exact lj (rs:=[.cell 2 9]) ds1 () (.inl rfl) (lg (k:=1) rfl) results69 (.cons (.cell eb (k:=0) rfl rfl) .nil) rfl ah
def zcJ (o1:cw) (b:(List (ae×Int))→Int→Option cw) (c:List (ae×Int)) (a:Int):Option cw := aM (decide ((a:Int)<(o1.units.length:Int))) (aT (zcx o1.units a) fun (q1:ae)=>aU (cp (a+1)) <|b (hU q1 a c) (a+1)) (some (⟨o1.units,c,o1.fors,o1.skips,o1.lines⟩:cw))
def wL (o1:cw):Option cw := zaC (fun _ _=>none) (zcJ o1) zbC o1.place 0
theorem JD {_g:Nat} {o1:cw} {_f _a _c _d _h:Hd} {r:cw} (h:wL o1=some r):Fn prog 66 [zP _g] [cells _g [_f.v,.map (some (bm _a)),.map (some (bm _c)),.map (some (bm _d)),_h.v] 72,bD _f.v o1.units,cG (fun n:ae=>af n) (fun n:Int=>aC .i64 n) (bm _a) o1.place,dU (bm _c) o1.fors,cG (fun n:ae=>af n) (fun n:Bool=>ay n) (bm _d) o1.skips,bD _h.v o1.lines] (fun b:Hd×Hd×Hd×Hd×Hd=>.tuple #[]) (fun b=>[cells _g [b.1.v,.map (some (bm b.2.1)),.map (some (bm b.2.2.1)),.map (some (bm b.2.2.2.1)),b.2.2.2.2.v] 72,bD b.1.v r.units,cG (fun n:ae=>af n) (fun n:Int=>aC .i64 n) (bm b.2.1) r.place,dU (bm b.2.2.1) r.fors,cG (fun n:ae=>af n) (fun n:Bool=>ay n) (bm b.2.2.2.1) r.skips,bD b.2.2.2.2.v r.lines]):=by
 unfold wL at h
 refine _root_.Go.Proofs.YtifpjbgnikjglaaGreatDoor.Fn.intro func66 rfl ntmps66 (by simp) (fun w0 K=>zyG (zyR 1 rfl (za8 rfl dc rfl (zab zn6 rfl dc rfl (show _=0 from rfl) (zat (k:=0) nK rfl dc rfl rfl rfl (gK (k:=1) rfl dc rfl rfl aG (zyR 1 rfl (zyN (zau (eO (β:=Nat×(List (ae×Int))×Int) (fun b=>zaC (fun _ _=>none) (zcJ o1) b.1 b.2.1 b.2.2=some r) (fun b=>[]) (fun b=>[(0,zP _g),(7,_f.v),(8,zI (o1.units.length:Int)),(9,zI b.2.2)]) (fun b=>[cells _g [_f.v,.map (some (bm _a)),.map (some (bm _c)),.map (some (bm _d)),_h.v] 72,bD _f.v o1.units,cG (fun n:ae=>af n) (fun n:Int=>aC .i64 n) (bm _a) b.2.1,dU (bm _c) o1.fors,cG (fun n:ae=>af n) (fun n:Bool=>ay n) (bm _d) o1.skips,bD _h.v o1.lines]) (fun b=>b.1) (zbC,o1.place,0) h rfl (bE rfl) (cj 6) ?_))))))))))
 rintro⟨e,l,c⟩ h
 cases e with
 |zero=>exact eG h
 |succ e=>
  obtain⟨g,a⟩:∃ag,ag=zaC (fun _ _=>none) (zcJ o1) e:=⟨_,rfl⟩
  have h:zcJ o1 g l c=some r:=by rw[a];exact h
  unfold zcJ at h
  refine zyG (zaR rfl zbi (zyN (zaL (zyB rfl h (fun h=>?_) (fun h=>?_)))))
  ·refine bA (ct (zaL (zau (zyG (zyR 1 rfl (zbl h fun q1 d h=>eY (k:=1) d aG gG rfl dc rfl rfl rfl rfl (fW (i:=(c:Int).toNat) (j:=0) (k:=1) (q:=q1) eb gj rfl dc rfl rfl (ep d) rfl dc rfl (zyR 2 rfl (zyN (bV (zyR 1 rfl (za8 rfl dc rfl (zab zn5 rfl dc rfl (show _=1 from rfl) (zat (k:=0) vD rfl dc rfl rfl rfl (zyR 2 rfl (vA (k:=2) (ek:=(fun n:ae=>af n)) (ev':=(fun n:Int=>aC .i64 n)) (kk:=q1) (vv:=c) (mC al) underlying69 rfl rfl rfl rfl rfl (bG (ca (ct (bV (zbt h fun f h=>zaR rfl (dE (r:=c+1) (ai _ f)) (zyR 1 rfl (bG ?_)))))))))))))))))))))))
   subst a
   exact aD (e,hU q1 c l,c+1) h 6
  refine dF (bU (bU (dG ?_)))
  cases h
  exact eB (rs:=[]) (_f,_a,_c,_d,_h) (.inr rfl) results66 .nil rfl (cj 6)
def yR (o1:cw) (u1:ae):Option Bool := aM ((zbO u1 o1.place).isSome) (some true) (some ((zbO u1 o1.fors).isSome))
theorem R3 {_g:Nat} {o1:cw} {_f _a _c _d _h:Hd} {u1:ae} {r:Bool} (h:yR o1 u1=some r):iu prog 71 [zP _g,.string u1] [cells _g [_f.v,.map (some (bm _a)),.map (some (bm _c)),.map (some (bm _d)),_h.v] 72,bD _f.v o1.units,cG (fun n:ae=>af n) (fun n:Int=>aC .i64 n) (bm _a) o1.place,dU (bm _c) o1.fors,cG (fun n:ae=>af n) (fun n:Bool=>ay n) (bm _d) o1.skips,bD _h.v o1.lines] [] (fun _:Unit=>(.bool r)) (fun _=>[]):=by
 unfold yR at h
 refine iu.intro func71 rfl ntmps71 (by simp) (fun w0 K a=>zyG (zyR 1 rfl (zyH (zyR 1 rfl (za8 rfl dc rfl (zab zn5 rfl dc rfl (show _=1 from rfl) (zd3 (i:=0) a rfl vD rfl dc rfl rfl (zyR 1 rfl (zZ (k:=2) (ek:=(fun n:ae=>af n)) (ev':=(fun n:Int=>aC .i64 n)) (kk:=u1) (z0:=0) (mC al) underlying69 kr rfl dc rfl rfl a rfl (zyR 1 rfl (eT rfl dc rfl rfl (eT rfl dc rfl rfl (zyR 2 rfl (zyH (zyR 1 rfl (za8 rfl dc rfl (zab Cy rfl dc rfl (show _=2 from rfl) (zd3 (i:=0) a rfl vC rfl dc rfl rfl (zyR 1 rfl (GC (i:=3) (kk:=u1) al underlying37 kr rfl dc rfl rfl a rfl (fun c b=>zyR 1 rfl (eT rfl dc rfl rfl (eT rfl dc rfl rfl (zyR 2 rfl (zyH (zyR 2 rfl (zyS (s:=28) rfl h (fun h=>?_) (fun h=>?_))))))))))))))))))))))))))))
 ·refine zyR 3 rfl (zyN (zaz ?_))
  cases h
  exact cZ 4 results71
 refine zyR 3 rfl (zyN (zaz ?_))
 cases h
 exact cZ 4 results71
def zgy (g:(List ae)→Option cw) (c:(List ae)→Int→Option cw) (a:List ae) (r3:Int):Option cw := aM (decide ((r3:Int)<1120)) (cn (fun (b:(List ae)→Option cw)=>aU (fl r3) <|aM (nZ r3) (aT (Dy r3) fun (e:(List Int))=>aM (((e.length:Int):Int)==1) (aT (yE r3) fun (d:ae)=>aM (decide (d=ac r3)) (aU (a.length+1≤2147483648) <|b (a++[ac r3])) (b a)) (b a)) (b a)) (fun (f:List ae)=>aU (fl (r3+1)) <|c f (r3+1))) (g a)
def wM  : Option cw := cn (fun (b:(List ae)→Option cw)=>zaC (fun _ _=>none) (zgy b) zbC ([]:List ae) 97) (fun (o1:List ae)=>aT (wL (⟨o1,([]:List (ae×Int)),([]:List (ae×List ae)),([]:List (ae×Bool)),([]:List ae)⟩:cw)) fun (a:cw)=>some a)
theorem R4  {r:cw} (h:wM=some r):Fn prog 28 [] [] (fun b:Nat×Hd×Hd×Hd×Hd×Hd=>zP b.1) (fun b=>[cells b.1 [b.2.1.v,.map (some (bm b.2.2.1)),.map (some (bm b.2.2.2.1)),.map (some (bm b.2.2.2.2.1)),b.2.2.2.2.2.v] 72,bD b.2.1.v r.units,cG (fun n:ae=>af n) (fun n:Int=>aC .i64 n) (bm b.2.2.1) r.place,dU (bm b.2.2.2.1) r.fors,cG (fun n:ae=>af n) (fun n:Bool=>ay n) (bm b.2.2.2.2.1) r.skips,bD b.2.2.2.2.2.v r.lines]):=by
 unfold wM at h
 refine _root_.Go.Proofs.YtifpjbgnikjglaaGreatDoor.Fn.intro func28 rfl ntmps28 (by simp) (fun w0 K=>zbp h fun z E h=>zaM (β:=(List ae)×Nat×Hd×Nat×Nat×Nat) 2 rfl (fun b=>z b.1=some r) (fun b=>[]) (fun b=>[(1,zP b.2.1)]) (fun b=>[cells b.2.1 [b.2.2.1.v,.map (some b.2.2.2.1),.map (some b.2.2.2.2.1),.map (some b.2.2.2.2.2),.slice none 0 0] 72,bD b.2.2.1.v b.1,cG (fun n:ae=>af n) (fun n:Int=>aC .i64 n) b.2.2.2.1 ([]:List (ae×Int)),dU b.2.2.2.2.1 ([]:List (ae×List ae)),cG (fun n:ae=>af n) (fun n:Bool=>ay n) b.2.2.2.2.2 ([]:List (ae×Bool))]) (fun cut=>?_) ?_)
 ·refine zyG (zyR 1 rfl (zyH (vz (fun n:ae=>af n) (fun n:Int=>aC .i64 n) rfl dc (fun o=>vz (fun s:ae=>af s) pr rfl dc (fun g=>qX (As:=[cG (fun s:ae=>af s) pr g []]) (cg [1] kr rfl) (GA (b:=g)) (fun _ _=>vz (fun n:ae=>af n) (fun n:Bool=>ay n) rfl dc (fun m=>zbb (v:=.agg #[.slice none 0 0,.map (some o),.map (some g),.map (some m),.slice none 0 0]) (ps:=[(1,.tmp 3),(2,.tmp 4),(3,.tmp 5)]) rfl dc rfl (fun _=>by kernel_rfl) (zeV rfl dc rfl (fun x=>zyR 1 rfl (zyN (cut (zyG (zyR 1 rfl (zyN (zau (mU (enc:=gN) (e:=9) (size:=1) (eO (β:=Nat×(List ae)×Int×Hd) (fun b=>zaC (fun _ _=>none) (zgy z) b.1 b.2.1 b.2.2.1=some r) (fun b=>[]) (fun b=>[(1,zP x),(2,.int .i32 b.2.2.1)]) (fun b=>[cells x [b.2.2.2.v,.map (some o),.map (some g),.map (some m),.slice none 0 0] 72,bD b.2.2.2.v b.2.1,cG (fun n:ae=>af n) (fun n:Int=>aC .i64 n) o ([]:List (ae×Int)),dU g ([]:List (ae×List ae)),cG (fun n:ae=>af n) (fun n:Bool=>ay n) m ([]:List (ae×Bool))]) (fun b=>b.1) (zbC,([]:List ae),97,Hd.nil) h rfl (bE rfl) (cg [4,5,0,2,3] kr rfl) ?_)))))))))))))))))
  rintro⟨y,p,r3,f⟩ h
  cases y with
  |zero=>exact eG h
  |succ y=>
   obtain⟨M,i⟩:∃ag,ag=zaC (fun _ _=>none) (zgy z) y:=⟨_,rfl⟩
   have h:zgy z M p r3=some r:=by rw[i];exact h
   unfold zgy at h
   refine zaL (zyG (zyR 1 rfl (zaR rfl zbi (zyN (zyB rfl h (fun h=>?_) (fun h=>?_))))))
   ·refine bA (ct (zbp h fun P D h=>zaM (β:=(List ae)×Hd) 0 rfl (fun b=>P b.1=some r) (fun b=>[]) (fun b=>[(1,zP x),(2,.int .i32 r3)]) (fun b=>[cells x [b.2.v,.map (some o),.map (some g),.map (some m),.slice none 0 0] 72,bD b.2.v b.1,cG (fun n:ae=>af n) (fun n:Int=>aC .i64 n) o ([]:List (ae×Int)),dU g ([]:List (ae×List ae)),cG (fun n:ae=>af n) (fun n:Bool=>ay n) m ([]:List (ae×Bool))]) (fun cut=>?_) ?_))
    ·refine cut (zau (zyG (zyR 1 rfl (zbt h fun t h=>zaI (v:=.bool (nZ r3)) (vs:=[.int .i32 r3]) rfl dc rfl rfl rfl ND (mw fun w=>AB r3 w t.1 t.2) (zyR 1 rfl (zyS (s:=14) rfl h (fun h=>?_) (fun h=>?_)))))))
     ·refine zyR 1 rfl (zbl h fun V C h=>zbJ (vs:=[.int .i32 r3]) rfl dc rfl rfl rfl NE (PQ C) ah (fun v1=>iq (k:=5) rfl (fun Q I=>?_)))
      subst I
      refine gK (k:=5) rfl dc rfl rfl underlying103 (zaR rfl zbe (zyR 2 rfl (zyS (s:=20) rfl h (fun h=>?_) (fun h=>?_))))
      ·refine zyR 1 rfl (zbl h fun N B h=>zaI (v:=.string N) (vs:=[.int .i32 r3]) rfl dc rfl rfl rfl G8 (IH B) (zyR 1 rfl (zdi rfl dc rfl (lJ aZ al) (zaR rfl zdn (zyR 1 rfl (zyN (zyB rfl h (fun h=>?_) (fun h=>?_))))))))
       ·refine bV (zyR 2 rfl (za8 rfl dc rfl (zab zn6 rfl dc rfl (show _=0 from rfl) (zat (k:=0) nK rfl dc rfl rfl rfl (zyR 1 rfl (zdi rfl dc rfl (lJ aZ al) (fE (cs:=[.string (ac r3)]) (te:=9) (ps:=[(0,.tmp 33)]) rfl dc rfl (fun _=>by kernel_rfl) (fun W=>zbt h fun G h=>iC (k:=1) (k2:=6) (ys:=[ac r3]) aG oq gj oG rfl dc rfl rfl rfl rfl rfl rfl G (fun U=>iq (k:=1) rfl (fun u H=>?_))))))))))
        subst H
        exact za8 rfl dc rfl (zab zn6 rfl dc rfl (show _=0 from rfl) (ef (k:=0) (l':=[u.v,.map (some o),.map (some g),.map (some m),.slice none 0 0]) se rfl rfl rfl rfl rfl (fun _ _=>rfl) rfl (bG (ca (mD (p++[ac r3],u) h 5)))))
       exact bA (ca (mD (p,f) h 5))
      exact zyR 6 rfl (zyN (eh rfl (bA (ca (mD (p,f) h 5)))))
     exact zyR 12 rfl (zyN (eh rfl (bA (ca (mD (p,f) h 5)))))
    rintro⟨O,J⟩ h
    rw[D] at h
    refine bV (zyR 1 rfl (zbt h fun F h=>zaR rfl (dE (r:=r3+1) (IntWalk.i32_in _ F)) (zyR 1 rfl (bG ?_))))
    subst i
    exact aD (y,O,r3+1,J) h 5
   exact dF (bU (bU (dG (mD (p,x,f,o,g,m) h 5))))
 rintro⟨o1,b1,L,T,S,R⟩ h
 rw[E] at h
 refine zyG (zyR 1 rfl (vh (enc:=gN) (e:=9) (size:=1) (zbl h fun q A h=>zbJ (vs:=[zP b1]) rfl dc rfl rfl rfl G9 (JD (_g:=b1) (o1:=(⟨o1,([]:List (ae×Int)),([]:List (ae×List ae)),([]:List (ae×Bool)),([]:List ae)⟩:cw)) (_f:=L) (_a:=(⟨some ⟨T,0,none⟩,0,0⟩:Hd)) (_c:=(⟨some ⟨S,0,none⟩,0,0⟩:Hd)) (_d:=(⟨some ⟨R,0,none⟩,0,0⟩:Hd)) (_h:=Hd.nil) A) (cj 6) ?_)))
 rintro⟨l,j,d,c,a⟩
 refine lm (L':=[cells b1 [l.v,.map (some (bm j)),.map (some (bm d)),.map (some (bm c)),a.v] 72,bD l.v q.units,cG (fun n:ae=>af n) (fun n:Int=>aC .i64 n) (bm j) q.place,dU (bm d) q.fors,cG (fun n:ae=>af n) (fun n:Bool=>ay n) (bm c) q.skips,bD a.v q.lines]) (cg [6,7,8,9,10,11] kr rfl) (zyH (zyR 2 rfl (zyN (zaz ?_))))
 cases h
 exact eB (rs:=[.tmp 0]) (b1,l,j,d,c,a) (.inl rfl) results28 (.cons (.tmp rfl) .nil) rfl (cj 6)
def zeC (c:Option (List ae)) (b:ae→Option (List ae)) (a:ae):Option (List ae) := aM (decide ((0:Int)<(a.size:Int))) (aU (False) <|aU (0≤(0:Int)∧(0:Int)≤0∧(0:Int)≤(a.size:Int)) <|ti (cL a 0 0) <|aU (0≤(0:Int)∧(0:Int)≤(a.size:Int)∧((a.size:Int):Int)≤(a.size:Int)) <|b (cL a 0 (a.size:Int))) (c)
def zc2 (c0:ae) (b:Int) (d:ae→Option (List ae)) (c:ae→Option (List ae)) (a:ae):Option (List ae) := aU (c0=⟨#[10]⟩) <|aM (decide (((bp a.data.toList 10):Int)<0)) (d a) (aU (cp ((bp a.data.toList 10)+b)) <|aU (0≤(0:Int)∧(0:Int)≤((bp a.data.toList 10)+b)∧((bp a.data.toList 10)+b:Int)≤(a.size:Int)) <|ti (cL a 0 ((bp a.data.toList 10)+b)) <|aU (cp ((bp a.data.toList 10)+(c0.size:Int))) <|aU (0≤((bp a.data.toList 10)+(c0.size:Int):Int)∧((bp a.data.toList 10)+(c0.size:Int):Int)≤(a.size:Int)∧((a.size:Int):Int)≤(a.size:Int)) <|c (cL a ((bp a.data.toList 10)+(c0.size:Int)) (a.size:Int)))
def A9 (c0:ae) (c1:ae) (e:Int):Option (List ae) := cn (fun (d:Option (List ae))=>aM (((c0.size:Int):Int)==0) (cn (fun (c:Option (List ae))=>zaC (fun _=>none) (zeC c) zbC c1) (some [])) (d)) (cn (fun (b:ae→Option (List ae))=>zaC (fun _=>none) (zc2 c0 e b) zbC c1) (fun (a:ae)=>ti a <|some []))
theorem R5 {e:Nat} {c0:ae} {a:Nat} {c1:ae} {d:Nat} {n:Int} {xs:(List ae)} (h:A9 c0 c1 n=some xs):qB prog 118 [zP e,zP a,zP d] (fun q:ae=>[.string q]) xs [cells e [.string c0] 9,cells a [.string c1] 9,cells d [zI n] 3]:=by
 unfold A9 at h
 refine qB.intro func118 rfl ntmps118 (by simp) ?_
 intro l w0 K I X  hy
 obtain⟨r0,B⟩:∃r,xs=[]++r:=⟨xs,rfl⟩
 have U:xs=r0:=B
 rw[U] at h
 refine zbp h fun j1 Y h=>zaM (β:=Unit) 0 rfl (fun b=>j1=some r0) (fun b=>[]) (fun b=>[(0,.func (.yield l) #[] #[]),(1,zP e),(2,zP a),(3,zP d)]) (fun b=>[I ([]:List ae),cells e [.string c0] 9,cells a [.string c1] 9,cells d [zI n] 3]) (fun cut=>?_) ?_
 ·refine cut (zyG (zat (k:=1) eb rfl dc rfl rfl rfl (zcX rfl dc rfl al (zaR rfl zbe (zyN (zyB rfl h (fun h=>?_) (fun h=>?_)))))))
  ·refine zbp h fun M W h=>zaM (β:=(List ae)×(List ae)) 0 rfl (fun b=>M=some b.2∧xs=b.1++b.2) (fun b=>[]) (fun b=>[]) (fun b=>[I b.1]) (fun cut=>?_) ?_
   ·refine cut (zau (eO (β:=Nat×ae×(List ae)×(List ae)) (fun b=>zaC (fun _=>none) (zeC M) b.1 b.2.1=some b.2.2.2∧xs=b.2.2.1++b.2.2.2) (fun b=>[]) (fun b=>[(0,.func (.yield l) #[] #[]),(2,zP a)]) (fun b=>[I b.2.2.1,cells a [.string b.2.1] 9]) (fun b=>b.1) (zbC,c1,([]:List ae),r0) ⟨h,B⟩ rfl (bE rfl) (cg [0,2] kr rfl) ?_))
    rintro⟨J,o,g,D⟩ ⟨h,E⟩
    cases J with
    |zero=>exact eG h
    |succ J=>
     obtain⟨a6,z⟩:∃ag,ag=zaC (fun _=>none) (zeC M) J:=⟨_,rfl⟩
     have h:zeC M a6 o=some D:=by rw[z];exact h
     unfold zeC at h
     refine zaL (zyG (zat (k:=1) eb rfl dc rfl rfl rfl (zcX rfl dc rfl al (zaR rfl zdV (zyN (zyB rfl h (fun h=>?_) (fun h=>?_)))))))
     ·refine bA (ct (zau (zyG (zat (k:=1) eb rfl dc rfl rfl rfl (zbt h fun a4 h=>zaI (v:=.tuple #[.int .i32 0,zI 0]) (vs:=[.string o]) rfl dc rfl rfl rfl N6 (a4).elim (zyR 1 rfl (eT rfl dc rfl rfl (eT rfl dc rfl rfl (zyR 2 rfl (zyN (zaL (zyG (zyR 1 rfl (zat (k:=1) eb rfl dc rfl rfl rfl (zyR 1 rfl (zbt h fun a3 h=>ia rfl dc rfl rfl rfl (ka (i:=0) (j:=0) al (.inl ⟨rfl,rfl⟩) (.inr rfl) a3) ?_))))))))))))))))
      obtain⟨w,T,h⟩:=vu h
      have A:xs=g++(cL o 0 0)::w:=by rw[E,T]
      refine uY hy rfl dc rfl A rfl (k:=0) rfl ?_ ?_
      ·have P:xs=(g++[cL o 0 0])++w:=by rw[A];simp
       refine jU rfl dc rfl jV (zyN (eh rfl (bA (ct (bV (zat (k:=1) eb rfl dc rfl rfl rfl (zyR 1 rfl (zbt h fun a2 h=>ia rfl dc rfl rfl rfl (ka (i:=0) (j:=(o.size:Int)) al (.inr rfl) (.inl ⟨rfl,rfl⟩) a2) (ef (k:=1) (l':=[.string (cL o 0 (o.size:Int))]) gG rfl rfl rfl rfl rfl (fun _ _=>rfl) rfl (bG (ca ?_)))))))))))
       subst z
       exact aD (J,cL o 0 (o.size:Int),g++[cL o 0 0],w) ⟨h,P⟩ 2
      exact jU rfl dc rfl jV (zyN (gM rfl (zaz (bP (cD (bP (cD (bP (bP (va (ds:=[]) g (cL o 0 0) w A (.inl rfl) ah mQ (cj 1)))))))))))
     exact dF (bU (bU (dG (cH (g,D) ⟨h,E⟩ rfl (qo) (cj 1)))))
   rintro⟨a7,a9⟩ ⟨h,Q⟩
   rw[W] at h
   refine zaz (bP ?_)
   cases h
   exact u6 (ds:=[]) (.inl rfl) ah mQ (aH I (Q.trans (aE _))) (cj 1)
  exact bA (mD () h 4)
 rintro _ h
 rw[Y] at h
 refine zbp h fun L V h=>zaM (β:=ae×(List ae)×(List ae)) 0 rfl (fun b=>L b.1=some b.2.2∧xs=b.2.1++b.2.2) (fun b=>[]) (fun b=>[(0,.func (.yield l) #[] #[]),(2,zP a)]) (fun b=>[I b.2.1,cells a [.string b.1] 9]) (fun cut=>?_) ?_
 ·refine cut (zau (eO (β:=Nat×ae×(List ae)×(List ae)) (fun b=>zaC (fun _=>none) (zc2 c0 n L) b.1 b.2.1=some b.2.2.2∧xs=b.2.2.1++b.2.2.2) (fun b=>[]) (fun b=>[(0,.func (.yield l) #[] #[]),(1,zP e),(2,zP a),(3,zP d)]) (fun b=>[I b.2.2.1,cells e [.string c0] 9,cells a [.string b.2.1] 9,cells d [zI n] 3]) (fun b=>b.1) (zbC,c1,([]:List ae),r0) ⟨h,B⟩ rfl (bE rfl) (cj 4) ?_))
  rintro⟨H,c,f,C⟩ ⟨h,x⟩
  cases H with
  |zero=>exact eG h
  |succ H=>
   obtain⟨a5,y⟩:∃ag,ag=zaC (fun _=>none) (zc2 c0 n L) H:=⟨_,rfl⟩
   have h:zc2 c0 n L a5 c=some C:=by rw[y];exact h
   unfold zc2 at h
   refine zau (zyG (zat (k:=2) eb rfl dc rfl rfl rfl (zat (k:=1) eb rfl dc rfl rfl rfl (zbt h fun a1 h=>zaI (v:=zI (bp c.data.toList 10)) (vs:=[.string c,.string c0]) rfl dc rfl rfl rfl N7 (O8 c a1) (zyR 1 rfl (zyN (zaL (zyG (zyR 1 rfl (zaR rfl zbi (zyN (zyB rfl h (fun h=>dF (bU (zF dc (bU (dG (cH (c,f,C) ⟨h,x⟩ rfl (bE rfl) (cg [0,2] kr rfl))))))) (fun h=>bA (ct (zyG (zat (k:=2) eb rfl dc rfl rfl rfl (zyR 1 rfl (zat (k:=3) dQ rfl dc rfl rfl rfl (zbt h fun a0 h=>zaR rfl (dE (r:=(bp c.data.toList 10)+n) (ai _ a0)) (zbt h fun aw h=>ia rfl dc rfl rfl rfl (ka (i:=0) (j:=(bp c.data.toList 10)+n) al (.inl ⟨rfl,rfl⟩) (.inr rfl) aw) (zyR 1 rfl (zyN (zaL (zyG (zyR 2 rfl ?_)))))))))))))))))))))))))
   obtain⟨m,S,h⟩:=vu h
   have t:xs=f++(cL c 0 ((bp c.data.toList 10)+n))::m:=by rw[x,S]
   refine uY hy rfl dc rfl t rfl (k:=0) rfl ?_ ?_
   ·have G:xs=(f++[cL c 0 ((bp c.data.toList 10)+n)])++m:=by rw[t];simp
    refine jU rfl dc rfl jV (zyN (eh rfl (bA (ct (bV (zat (k:=2) eb rfl dc rfl rfl rfl (zyR 1 rfl (zat (k:=1) eb rfl dc rfl rfl rfl (zcX rfl dc rfl al (zbt h fun ao h=>zaR rfl (dE (r:=(bp c.data.toList 10)+(c0.size:Int)) (ai _ ao)) (zbt h fun Z h=>ia rfl dc rfl rfl rfl (ka (i:=(bp c.data.toList 10)+(c0.size:Int)) (j:=(c.size:Int)) al (.inr rfl) (.inl ⟨rfl,rfl⟩) Z) (ef (k:=2) (l':=[.string (cL c ((bp c.data.toList 10)+(c0.size:Int)) (c.size:Int))]) gG rfl rfl rfl rfl rfl (fun _ _=>rfl) rfl (bG (ca ?_))))))))))))))
    subst y
    exact aD (H,cL c ((bp c.data.toList 10)+(c0.size:Int)) (c.size:Int),f++[cL c 0 ((bp c.data.toList 10)+n)],m) ⟨h,G⟩ 4
   exact jU rfl dc rfl jV (zyN (gM rfl (zaz (bP (cD (bP (cD (bP (va (ds:=[]) f (cL c 0 ((bp c.data.toList 10)+n)) m t (.inl rfl) ah mQ (cj 1))))))))))
 rintro⟨N,u,a8⟩ ⟨h,O⟩
 rw[V] at h
 refine bV (zyR 1 rfl (zat (k:=1) eb rfl dc rfl rfl rfl ?_))
 obtain⟨p,R,h⟩:=vu h
 have s:xs=u++N::p:=by rw[O,R]
 refine uY hy rfl dc rfl s rfl (k:=0) rfl ?_ ?_
 ·have F:xs=(u++[N])++p:=by rw[s];simp
  refine bG ?_
  cases h
  exact u6 (ds:=[]) (.inr rfl) ah mQ (aH I (F.trans (aE _))) (cj 1)
 exact bG (va (ds:=[]) u N p s (.inr rfl) ah mQ (cj 1))
def Eh (c:ae) (b:ae) (a:Int):Option (ae×ae×Int) := some (b,c,a)
theorem R6 {d:ae} {c:ae} {a:Int} {r:(ae×ae×Int)} (h:Eh d c a=some r):Fn prog 67 [.string d,.string c,zI a] [] (fun b:Nat×Nat×Nat=>.func (.func 118) #[] #[zP b.1,zP b.2.1,zP b.2.2]) (fun b=>[cells b.1 [.string r.1] 9,cells b.2.1 [.string r.2.1] 9,cells b.2.2 [zI r.2.2] 3]):=by
 unfold Eh at h
 refine _root_.Go.Proofs.YtifpjbgnikjglaaGreatDoor.Fn.intro func67 rfl ntmps67 (by simp) (fun w0 K=>zyG (zeV rfl dc rfl (fun b1=>zeV rfl dc rfl (fun f=>zeV rfl dc rfl (fun e=>zyR 1 rfl (zyH (ziy (x1:=[]) (x2:=[.tmp 4,.tmp 3,.tmp 5]) rfl dc rfl rfl (zyR 1 rfl (zyN (zaz ?_))))))))))
 cases h
 exact eB (rs:=[.tmp 6]) (f,b1,e) (.inl rfl) results67 (.cons (.tmp rfl) .nil) rfl (cg [1,0,2] kr rfl)
def Ei (b:ae) (a:ae):Option (ae×ae×Int) := aT (Eh b a 0) fun (r1:(ae×ae×Int))=>some (r1.1,r1.2.1,r1.2.2)
theorem R7 {c:ae} {a:ae} {r:(ae×ae×Int)} (h:Ei c a=some r):Fn prog 29 [.string c,.string a] [] (fun b:Nat×Nat×Nat=>.func (.func 118) #[] #[zP b.1,zP b.2.1,zP b.2.2]) (fun b=>[cells b.1 [.string r.1] 9,cells b.2.1 [.string r.2.1] 9,cells b.2.2 [zI r.2.2] 3]):=by
 unfold Ei at h
 refine _root_.Go.Proofs.YtifpjbgnikjglaaGreatDoor.Fn.intro func29 rfl ntmps29 (by simp) (fun w0 K=>zyG (zyR 1 rfl (zyH (zyR 2 rfl (zbl h fun r1 d h=>zbJ (vs:=[.string c,.string a,zI 0]) rfl dc rfl rfl rfl NF (R6 d) ah ?_)))))
 rintro⟨b1,f,e⟩
 refine zyR 1 rfl (zyN (zaz ?_))
 cases h
 exact eB (rs:=[.tmp 4]) (b1,f,e) (.inl rfl) results29 (.cons (.tmp rfl) .nil) rfl (cj 3)
def zbm (x1:cT) (a:(List cT)→Option (List cT)) (b:List cT):Option (List cT) := aU (b.length+1≤2147483648) <|a (b++[x1])
def Ba (a:ae):Option (List cT) := cn (fun (f:(List cT)→Option (List cT))=>aT (sE a) fun (b:(List cT))=>cn (fun (c:(List cT)→Option (List cT))=>zdw c (zbm) b ([]:List cT)) (fun (d:List cT)=>f d)) (fun (e:List cT)=>some e)
theorem R8 {_l:Nat} {d:ae} {r:(List cT)} (h:Ba d=some r):Fn prog 161 [.slice none 0 0,.func (.func 154) #[] #[zP _l]] [cells _l [.string d] 9] (fun v0:Value=>v0) (fun v0=>[cells _l [.string d] 9,pc v0 r]):=by
 unfold Ba at h
 refine _root_.Go.Proofs.YtifpjbgnikjglaaGreatDoor.Fn.intro func161 rfl ntmps161 (by simp) (fun w0 K=>ziX (zbp h fun I B h=>zaM (β:=(List cT)×Nat×Value×(List Nat)) 1 rfl (fun b=>I b.1=some r) (fun b=>oj b.2.2.2) (fun b=>[(2,zP b.2.1)]) (fun b=>[cells _l [.string d] 9,cells b.2.1 [b.2.2.1] 129,pc b.2.2.1 b.1,zhW ((b.2.2.2:List Nat).map fx)]) (fun cut=>?_) ?_))
 ·refine zyG (zzC (fun _ _=>rfl) rfl dc rfl (fun v=>zyR 1 rfl (zyN (cut (zyG (zyR 1 rfl (zyN (zau (zbl h fun s A h=>mU (enc:=ot) (e:=132) (size:=4) (zbp h fun o u h=>tZ (α:=cT) (β:=(List cT)×Value) (γ:=Unit) (δ:=Nat) (ps:=[7]) Ro.nil rfl xD (yA A) (fun pre b=>∀post,s=pre++post→zdw o (zbm) post b.1=some r) (fun pre b=>[cells v [b.2] 129,pc b.2 b.1]) (fun c pre g=>False) (fun c pre g=>[]) (fun pre x b j=>[(2,zP v),(4,.slice none 0 0),(6,.func (.func 154) #[] #[zP _l]),(5,zP j)]) (fun pre x b j=>[cells v [b.2] 129,pc b.2 b.1,cells j [zI x.At,zI x.Width,.int .i32 x.Rune,.bool x.Broken] 132]) (([]:List cT),(.slice none 0 0)) (fun post e=>by rw[aW] at e;subst e;exact h) (cg [2,3] kr rfl) ⟨.inl ⟨0,rfl⟩,trivial⟩ (fun _=>rfl) dc ?_ ?_ ?_ ?_))))))))))
  ·rintro G F pre x1 post ⟨n,q⟩ w1 P l t z f
   exact bV (zbk zjz rfl dc (fun O=>eK (k:=2) (vs:=[zI x1.At,zI x1.Width,.int .i32 x1.Rune,.bool x1.Broken]) (l':=[zI x1.At,zI x1.Width,.int .i32 x1.Rune,.bool x1.Broken]) kC rfl rfl rfl rfl rfl (show _≤_ by simp) rfl rfl (bG (fun a w ha L=>⟨O,(bE rfl) _ _ _ ha,L.weaken (cj 3)⟩))))
  ·rintro G F pre x1 i ⟨n,q⟩ H w1 P l t z f
   have h:=f (x1::i) l
   obtain⟨D,m⟩:∃ag,ag=zdw o (zbm) i:=⟨_,rfl⟩
   have h:zbm x1 D n=some r:=by have h2:=h;rw[nI,←m] at h2;exact h2
   unfold zbm at h
   exact zau (bV (zat (k:=0) GS rfl dc rfl rfl rfl (zbT (k:=2) (cs:=[zI x1.At,zI x1.Width,.int .i32 x1.Rune,.bool x1.Broken]) lB rfl dc rfl rfl rfl rfl (fE (cs:=[zI x1.At,zI x1.Width,.int .i32 x1.Rune,.bool x1.Broken]) (te:=132) (ps:=[(0,.tmp 9)]) rfl dc rfl (fun _=>by kernel_rfl) (fun R=>zbt h fun C h=>iC (k:=1) (k2:=3) (ys:=[x1]) underlying129 GT Ax HB rfl dc rfl rfl rfl rfl rfl rfl C (fun E=>ef (k:=0) (l':=[E]) M8 rfl rfl rfl rfl rfl (fun _ h=>LS h (k:=1) rfl) rfl (bG (ca (lH (n++[x1],E) (fun y e2=>by have N:=lK l e2;subst N;subst m;exact h) (cj 2))))))))))
  ·rintro p ⟨n,q⟩ f
   have h:o n=some r:=f [] (aE _).symm
   rw[u] at h
   show TX _ _ _ _ _ _ _ [cells _l [.string d] 9,zhW ((([]:List Nat):List Nat).map fx),cy,cy,cells v [q] 129,pc q n,fx p]
   exact rU (k:=6) (j:=1) rfl rfl dc (ca (cH (n,v,q,p::([]:List Nat)) h rfl (bE rfl) (cg [0,4,5,1] kr rfl)))
  exact fun p c pre x1 post g J M=>(show False from M).elim
 rintro⟨Q,b1,v1,ds1⟩ h
 rw[B] at h
 refine zyG (zat (k:=1) GS rfl dc rfl rfl rfl (zyR 1 rfl (zyN (zaz ?_))))
 cases h
 exact lj (rs:=[.tmp 4]) ds1 v1 (.inl rfl) (lg (k:=3) rfl) results161 (.cons (.tmp rfl) .nil) rfl (cg [0,2] kr rfl)
def Bb (a:ae):Option (List cT) := aT (Ba a) fun (r1:(List cT))=>some r1
theorem R9 {_l:Nat} {a:ae} {r:(List cT)} (h:Bb a=some r):Fn prog 135 [.func (.func 154) #[] #[zP _l]] [cells _l [.string a] 9] (fun v0:Value=>v0) (fun v0=>[cells _l [.string a] 9,pc v0 r]):=by
 unfold Bb at h
 refine _root_.Go.Proofs.YtifpjbgnikjglaaGreatDoor.Fn.intro func135 rfl ntmps135 (by simp) (fun w0 K=>zyG (zyR 1 rfl (zyH (zyR 1 rfl (zbl h fun r1 b h=>zbJ (vs:=[.slice none 0 0,.func (.func 154) #[] #[zP _l]]) rfl dc rfl rfl rfl Om (R8 (_l:=_l) b) (cj 1) (fun v1=>zyR 1 rfl (zyN (zaz ?_))))))))
 cases h
 exact eB (rs:=[.tmp 2]) v1 (.inl rfl) results135 (.cons (.tmp rfl) .nil) rfl (cg [1,2] kr rfl)
def zhv (a:List Int) (d:Option Int) (c:Int→Option Int) (b:Int):Option Int := aM (decide ((b:Int)<(a.length:Int))) (aT (zcx a b) fun (q1:Int)=>aM ((q1:Int) != 0) (some q1) (aU (cp (b+1)) <|c (b+1))) (d)
def Ej (a:List Int):Option Int := cn (fun (b:Option Int)=>zaC (fun _=>none) (zhv a b) zbC 0) (some 0)
theorem Sa {f d:Value} {g:List Int} {e:Nat} {a:List Int} (c:Vw f g 1 e d a) {r:Int} (h:Ej a=some r):iu prog 93 [d] [iX (kl (.i64)) 1 f e g] [] (fun _:Unit=>(zI r)) (fun _=>[]):=by
 unfold Ej at h
 refine iu.intro func93 rfl ntmps93 (by simp) (fun w0 K s=>zbp h fun p t h=>zaM (β:=Unit) 2 rfl (fun b=>p=some r) (fun b=>[]) (fun b=>[(3,zI 0)]) (fun b=>[]) (fun cut=>?_) ?_)
 ·refine zyG (zyR 1 rfl (zyH (zyR 1 rfl (zyN (cut (zyG (zyR 1 rfl (zbV c rfl dc rfl underlying51 (zyR 1 rfl (zyN (zau (eO (β:=Nat×Int) (fun b=>zaC (fun _=>none) (zhv a p) b.1 b.2=some r) (fun b=>[]) (fun b=>[(3,zI 0),(6,d),(7,zI (a.length:Int)),(8,zI b.2)]) (fun b=>[]) (fun b=>b.1) (zbC,0) h rfl (bE rfl) ah ?_))))))))))))
  rintro⟨o,m⟩ h
  cases o with
  |zero=>exact eG h
  |succ o=>
   obtain⟨v,k⟩:∃ag,ag=zaC (fun _=>none) (zhv a p) o:=⟨_,rfl⟩
   have h:zhv a p v m=some r:=by rw[k];exact h
   unfold zhv at h
   refine zyG (zaR rfl zbi (zyN (zaL (zyB rfl h (fun h=>?_) (fun h=>?_)))))
   ·refine bA (ct (zaL (zau (zyG (zbl h fun q1 l h=>fm c l underlying51 jJ rfl dc rfl rfl rfl (jr (n:=e+(m:Int).toNat) (j:=0) (i:=0) (q:=q1) s rfl (by omega) dQ rfl dc rfl (bX c l) rfl rfl (zyR 1 rfl (zyH (zyR 2 rfl (zaR rfl zf8 (zyN (zyB rfl h (fun h=>?_) (fun h=>?_)))))))))))))
    ·refine zyG (zyR 2 rfl (zyN (zaz (cD (bP (bP (cD (bP ?_))))))))
     cases h
     exact cZ 2 results93
    refine bA (ca (ct (bV (zbt h fun u h=>zaR rfl (dE (r:=m+1) (ai _ u)) (zyR 1 rfl (bG ?_))))))
    subst k
    exact ni (o,m+1) h (Nat.lt_succ_self _) rfl (bE rfl) ah
   exact dF (bU (bU (dG (cH () h rfl (bE rfl) ah))))
 rintro _ h
 rw[t] at h
 refine zyG (zyR 2 rfl (zyN (zaz ?_)))
 cases h
 exact cZ 2 results93
def Bc (x1:Int):Option Bool := some ((x1:Int) != x1)
theorem JE {x1:Int} {r:Bool} (h:Bc x1=some r):dB prog 138 [zI x1] (.bool r):=by
 unfold Bc at h
 refine dB.intro func138 rfl ntmps138 (by simp) (fun w0 K=>zyG (zyR 1 rfl (zyH (zyR 2 rfl (zaR rfl zf8 (zyR 1 rfl (zyN (zaz ?_))))))))
 cases h
 exact cZ 2 results138
def Ek (x1:Int) (a:Int):Option Int := aT (Bc x1) fun (r1:Bool)=>aT (Bc a) fun (r2:Bool)=>aM (r1) (aM (r2) (some 0) (some (-1))) (aM (r2) (some 1) (aM (decide ((x1:Int)<a)) (some (-1)) (aM (decide ((a:Int)<x1)) (some 1) (some 0))))
theorem Sb {x1:Int} {a:Int} {r:Int} (h:Ek x1 a=some r):dB prog 95 [zI x1,zI a] (zI r):=by
 unfold Ek at h
 refine dB.intro func95 rfl ntmps95 (by simp) (fun w0 K=>zyG (zyR 1 rfl (zyH (zyR 1 rfl (zbl h fun r1 c h=>zaI (v:=.bool r1) (vs:=[zI x1]) rfl dc rfl rfl rfl Hm (JE c) (zyR 1 rfl (zyH (zyR 1 rfl (zbl h fun r2 b h=>zaI (v:=.bool r2) (vs:=[zI a]) rfl dc rfl rfl rfl Hm (JE b) (zyR 1 rfl (zyN (zaL (zyG (zyR 1 rfl (zyN (zyB rfl h (fun h=>?_) (fun h=>?_)))))))))))))))))
 ·refine zaL (zyG (zyR 1 rfl (zyN (zyB rfl h (fun h=>?_) (fun h=>?_)))))
  ·refine zyG (zyR 1 rfl (zyN (zaz (bP (bP ?_)))))
   cases h
   exact cZ 4 lT
  refine bA (ct (zyG (zyR 1 rfl (zyN (zaz (bP ?_))))))
  cases h
  exact cZ 4 lT
 refine bA (ct (zaL (zyG (zyR 1 rfl (zyN (zyB rfl h (fun h=>?_) (fun h=>?_)))))))
 ·refine zyG (zyR 1 rfl (zyN (zaz (bP ?_))))
  cases h
  exact cZ 4 lT
 refine bA (ct (zaL (zyG (zyR 2 rfl (zaR rfl zbi (zyN (zyB rfl h (fun h=>?_) (fun h=>?_))))))))
 ·refine zyG (zyR 1 rfl (zyN (zaz (bP ?_))))
  cases h
  exact cZ 4 lT
 refine bA (ct (zaL (zyG (zyR 2 rfl (zaR rfl zdV (zyN (zyB rfl h (fun h=>?_) (fun h=>?_))))))))
 ·refine zyG (zyR 1 rfl (zyN (zaz (bP ?_))))
  cases h
  exact cZ 4 lT
 refine bA (ct (zyG (zyR 1 rfl (zyN (zaz ?_)))))
 cases h
 exact cZ 4 lT
end Go.Proofs.YtifpjbgnikjglaaGreatDoor
