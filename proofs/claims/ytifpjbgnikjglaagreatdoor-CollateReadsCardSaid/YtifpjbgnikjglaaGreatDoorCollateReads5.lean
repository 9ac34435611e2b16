/-
  Texts laid together: LcE, Ka, Kb, Qm, Kc, Kd, Ke, LcU, LcF, Kg, Kh, Ki, Kj, Kk, Kl, Km, LcD, Kn, Ko, Kp, Kq. Nothing is assumed.
-/
import Derived.Test.YtifpjbgnikjglaaGreatDoorCollateReads4
import Derived.Test.YtifpjbgnikjglaaGreatDoorCollateReads2
set_option maxRecDepth 100000
set_option maxHeartbeats 4000000
namespace Go.Proofs.YtifpjbgnikjglaaGreatDoor
open Go.RowKit Go.Lib
open Tryz
set_option linter.unusedVariables false
set_option linter.unusedSimpArgs false
open _root_.Bool renaming false_or→ik,and_eq_true→aR,not_eq_true'→cN,true_and→jp,false_eq_true→bw
open _root_.ByteArray renaming empty→aA,size_append→aK,append_empty→bW,append_assoc→dS
open _root_.Go.IntWalk renaming i64_in→ai
open _root_.Go.Lib renaming compareBytes→cZ,indexByte→bi
open _root_.Go.Proofs.Tryz renaming underlying9→an,underlying70→eG,underlying129→cG,underlying21→bg,underlying69→mN,underlying36→aD,underlying87→bP,results48→fq,underlying29→jW,results16→nu,underlying63→cD,results31→iJ
open bM renaming nil→bK
open cW renaming nil→gV
open Hd renaming nil→ew
open ap renaming nil→ad
open Vw renaming get→cI
open evL renaming cons→cY,nil→eB
open aN renaming one1→aI
open _root_.Go.Utf8 renaming encode→af
open _root_.Go.Value renaming string→aa,int→ax,bool→am
open _root_.Int renaming toNat_natCast→dI,le_refl→jt
open _root_.List renaming nil_append→bt,append_nil→aQ,length_cons→aj,map_cons→aE,mem_cons_of_mem→aq,mem_cons_self→aB,flatMap_cons→aG,length_append→ah,length_map→aF,mem_cons→bE,mem_append→bO,mem_filter→cp,take_of_length_le→fx,length_drop→ck,all_eq_true→bz,map_map→ce,map_congr_left→dF,filter_append→qE,append_assoc→aM,mem_map→aW,getElem?_eq_some_iff→au,drop_eq_getElem_cons→bB,getElem?_eq_getElem→aP,map_append→eT,set_append_right→oL,drop_eq_nil_of_le→cO,replicate→bA,getD_eq_getElem?_getD→cC,nodup_cons→ix,mem_of_getElem?→aJ,length_take→cj,take_append_drop→dH,length_nil→bl,mem_singleton→cB,length_pos_iff→c6
open _root_.Nat renaming lt_succ_self→av,le_of_not_lt→lF,add_sub_cancel_left→ow,zero_le→cH,le_refl→bJ,sub_self→oV,zero_add→cg
open _root_.Option renaming getD_some→iX
open _root_.Or renaming inr→iI
open _root_.Prod renaming snd→eV,fst→bu
open _root_.UInt8 renaming ofNat→ru
def zdC (o1:cK) (s1:ab) (ek1:Int→Int→Int→Option Int) (x1:cX) (ag1:Int→Int→Bool→Option Int) (from4:Int) (to4:Int) (open3:Bool):Option Int := aY (fN x1.Rune) <| aU (decide ((from4:Int)<0)) ( aU (((gN x1.Broken x1.Rune):Int)==1) ( aY (cR (x1.At+x1.Width)) <| ag1 x1.At (x1.At+x1.Width) open3
) ( aU (decide ((from4:Int)<0)) ( ag1 from4 to4 open3
) ( aU (open3) ( aU (((gN x1.Broken x1.Rune):Int)==1) ( aY (cR (x1.At+x1.Width)) <| ag1 from4 (x1.At+x1.Width) open3
) ( aU (((gN x1.Broken x1.Rune):Int)==2) ( aY (cR (x1.At+x1.Width)) <| ag1 from4 (x1.At+x1.Width) open3
) ( aU (((gN x1.Broken x1.Rune):Int)==1) ( aY (0≤(from4:Int)∧(from4:Int)≤to4∧(to4:Int)≤(s1.size:Int)) <| aX (oo (c7 s1 from4 to4)) fun (r2:ab)=> aU (((zbL r2 o1.skips).getD false)) ( ek1 to4 from4 to4
) ( ek1 0 from4 to4
)
) ( aU (((gN x1.Broken x1.Rune):Int)==3) ( aY (0≤(from4:Int)∧(from4:Int)≤to4∧(to4:Int)≤(s1.size:Int)) <| aX (oo (c7 s1 from4 to4)) fun (r3:ab)=> aU (((zbL r3 o1.skips).getD false)) ( ek1 to4 from4 to4
) ( ek1 0 from4 to4
)
) ( ag1 from4 to4 false
)
)
)
)
) ( aU (((gN x1.Broken x1.Rune):Int)==1) ( aY (0≤(from4:Int)∧(from4:Int)≤to4∧(to4:Int)≤(s1.size:Int)) <| aX (oo (c7 s1 from4 to4)) fun (r4:ab)=> aU (((zbL r4 o1.skips).getD false)) ( ek1 to4 from4 to4
) ( ek1 0 from4 to4
)
) ( aU (((gN x1.Broken x1.Rune):Int)==3) ( aY (0≤(from4:Int)∧(from4:Int)≤to4∧(to4:Int)≤(s1.size:Int)) <| aX (oo (c7 s1 from4 to4)) fun (r5:ab)=> aU (((zbL r5 o1.skips).getD false)) ( ek1 to4 from4 to4
) ( ek1 0 from4 to4
)
) ( ag1 from4 to4 false
)
)
)
)
)
) ( aU (decide ((from4:Int)<0)) ( ag1 from4 to4 open3
) ( aU (open3) ( aU (((gN x1.Broken x1.Rune):Int)==1) ( aY (cR (x1.At+x1.Width)) <| ag1 from4 (x1.At+x1.Width) open3
) ( aU (((gN x1.Broken x1.Rune):Int)==2) ( aY (cR (x1.At+x1.Width)) <| ag1 from4 (x1.At+x1.Width) open3
) ( aU (((gN x1.Broken x1.Rune):Int)==1) ( aY (0≤(from4:Int)∧(from4:Int)≤to4∧(to4:Int)≤(s1.size:Int)) <| aX (oo (c7 s1 from4 to4)) fun (r6:ab)=> aU (((zbL r6 o1.skips).getD false)) ( ek1 to4 from4 to4
) ( ek1 0 from4 to4
)
) ( aU (((gN x1.Broken x1.Rune):Int)==3) ( aY (0≤(from4:Int)∧(from4:Int)≤to4∧(to4:Int)≤(s1.size:Int)) <| aX (oo (c7 s1 from4 to4)) fun (r7:ab)=> aU (((zbL r7 o1.skips).getD false)) ( ek1 to4 from4 to4
) ( ek1 0 from4 to4
)
) ( ag1 from4 to4 false
)
)
)
)
) ( aU (((gN x1.Broken x1.Rune):Int)==1) ( aY (0≤(from4:Int)∧(from4:Int)≤to4∧(to4:Int)≤(s1.size:Int)) <| aX (oo (c7 s1 from4 to4)) fun (r8:ab)=> aU (((zbL r8 o1.skips).getD false)) ( ek1 to4 from4 to4
) ( ek1 0 from4 to4
)
) ( aU (((gN x1.Broken x1.Rune):Int)==3) ( aY (0≤(from4:Int)∧(from4:Int)≤to4∧(to4:Int)≤(s1.size:Int)) <| aX (oo (c7 s1 from4 to4)) fun (r9:ab)=> aU (((zbL r9 o1.skips).getD false)) ( ek1 to4 from4 to4
) ( ek1 0 from4 to4
)
) ( ag1 from4 to4 false
)
)
)
)
)
def Cq (o1:cK) (s1:ab):Option Int := cJ (fun (j1:Option Int)=> aX (tq s1) fun (r1:ab)=> aX (ri r1) fun (its1:(List cX))=> cJ (fun (ek1:Int→Int→Int→Option Int)=> cJ (fun (dn1:Int→Int→Bool→Option Int)=> zcM dn1 (zdC o1 s1 ek1) its1 (-1) 0 true
) (fun (from4:Int) (to4:Int) (open3:Bool)=> j1
)
) (fun (x2:Int) (from5:Int) (to5:Int)=> some x2
)
) ( some 0
)
theorem Pi {bo1:Nat} {o1:cK} {o1_h0 o1_h1 o1_h2 o1_h3 o1_h4:Hd} {B:ab} {r:Int} (h:Cq o1 B=some r):iv prog 86 [zP bo1,.string B] [cells bo1 [o1_h0.v,.map (some (aV o1_h1)),.map (some (aV o1_h2)),.map (some (aV o1_h3)),o1_h4.v] 72,bo o1_h0.v o1.units,cq (fun n:ab=>aa n) (fun n:Int=>ax .i64 n) (aV o1_h1) o1.place,dh (aV o1_h2) o1.fors,cq (fun n:ab=>aa n) (fun n:Bool=>am n) (aV o1_h3) o1.skips,bo o1_h4.v o1.lines] [] (fun _:Unit=>(zI r)) (fun _=>[]):=by
 unfold Cq at h
 refine iv.intro func86 rfl ntmps86 (by simp) ?_
 intro w0 K y
 refine qH ?_
 obtain⟨j1,ch,h⟩:=cP h
 refine c8 (β:=Nat×(List Nat)) 3 rfl (fun b=>j1=some r) (fun b=>mQ b.2) (fun b=>[(4,zP b.1)]) (fun b=>[cells b.1 [zI 0] 3,zgL ((b.2:List Nat).map eZ)]) (fun cut=>?_) ?_
 ·
  refine aC ?_
  refine jy rfl dc rfl (fun Q=>?_)
  refine jy rfl dc rfl (fun P=>?_)
  refine eN ub rfl dc (fun L=>?_)
  refine cv ?_
  refine eN ub rfl dc (fun O=>?_)
  refine eN ub rfl dc (fun N=>?_)
  refine ef (k:=4) (l':=[zI (-1)]) jj rfl rfl rfl rfl rfl (fun _ _=>rfl) rfl ?_
  refine ef (k:=5) (l':=[zI 0]) jj rfl rfl rfl rfl rfl (fun _ _=>rfl) rfl ?_
  refine cv ?_
  refine eN ye rfl dc (fun M=>?_)
  refine ef (k:=6) (l':=[.bool true]) kI rfl rfl rfl rfl rfl (fun _ _=>rfl) rfl ?_
  refine az (cut (aC (bF (k:=2) ea rfl dc rfl rfl rfl ?_)))
  obtain⟨r1,cc,h⟩:=bj h
  refine fY (vs:=[.string B]) rfl dc rfl rfl rfl wg (xb cc) ad ?_
  rintro b8
  refine mj (L':=[zgL ((([]:List Nat):List Nat).map eZ),cells Q [zP bo1] 29,cells P [.string B] 9,cells L [zI 0] 3,cells O [zI (-1)] 3,cells N [zI 0] 3,cells M [.bool true] 4,cells b8 [.string r1] 9]) (aH [0,1,2,3,4,5,6,7] kr rfl) (az (cy ?_))
  obtain⟨U,b0,h⟩:=bj h
  obtain⟨J,a3,h⟩:=cP h
  obtain⟨T,a4,h⟩:=cP h
  refine sJ (α:=cX) (β:=Int×Int×Bool) (γ:=(Int×Int×Int)) (δ:=Nat) (ps:=[12]) Ro.nil rfl wi (xa b0) (fun pre b=>∀post,U=pre++post→zcM T (zdC o1 B J) post b.1 b.2.1 b.2.2=some r) (fun pre b=>[cells Q [zP bo1] 29,cells P [.string B] 9,cells L [zI 0] 3,cells O [zI b.1] 3,cells N [zI b.2.1] 3,cells M [.bool b.2.2] 4]) (fun c pre g=>(fun g=>c=.ret∧J g.1 g.2.1 g.2.2=some r) g) (fun c pre g=>(fun g=>[cells Q [zP bo1] 29,cells P [.string B] 9,cells L [zI g.1] 3,cells O [zI g.2.1] 3,cells N [zI g.2.2] 3,cells M [.bool false] 4]) g) (fun pre x b j=>[(2,zP Q),(3,zP P),(4,zP L),(5,zP O),(6,zP N),(7,zP M),(11,.func (.func 154) #[] #[zP b8]),(8,zP j)]) (fun pre x b j=>[cells Q [zP bo1] 29,cells P [.string B] 9,cells L [zI 0] 3,cells O [zI b.1] 3,cells N [zI b.2.1] 3,cells M [.bool b.2.2] 4,cells j [zI x.At,zI x.Width,.int .i32 x.Rune,.bool x.Broken] 132]) ((-1),0,true) (fun post e=>by rw[bt] at e;subst e;exact h) (aH [1,2,3,4,5,6] kr rfl) ⟨.inl ⟨7,rfl⟩,trivial⟩ (fun _=>rfl) dc ?_ ?_ ?_ ?_
  ·
   rintro lp rc pre x1 post ⟨f,l,p⟩ w1 K1 t G a6 E
   have y:=y.ext G
   refine ct ?_
   refine eN og rfl dc (fun b9=>?_)
   refine eH (k:=6) (vs:=[zI x1.At,zI x1.Width,.int .i32 x1.Rune,.bool x1.Broken]) (l':=[zI x1.At,zI x1.Width,.int .i32 x1.Rune,.bool x1.Broken]) jP rfl rfl rfl rfl rfl (show _≤_ by simp) rfl rfl ?_
   refine bU ?_
   exact fun a w ha hw=>⟨b9,(aT rfl) _ _ _ ha,hw.weaken (aH [0,1,2,3,4,5,6] kr rfl)⟩
  ·
   rintro lp rc pre x1 F ⟨f,l,p⟩ I w1 K1 t G a6 E
   have y:=y.ext G
   have h:=E (x1::F) t
   obtain⟨di,z⟩:∃ag,ag=zcM T (zdC o1 B J) F:=⟨_,rfl⟩
   have h:zdC o1 B J x1 di f l p=some r:=by have h2:=h;rw[nz,← z] at h2;exact h2
   unfold zdC at h
   refine cy (aC (gM (k:=6) (cs:=[zI x1.At,zI x1.Width,.int .i32 x1.Rune,.bool x1.Broken]) kW rfl dc rfl rfl rfl rfl ?_))
   obtain⟨a2,h⟩:=bC h
   refine dq (v:=zI (gN x1.Broken x1.Rune)) (vs:=[.agg #[zI x1.At,zI x1.Width,.int .i32 x1.Rune,.bool x1.Broken]]) rfl dc rfl rfl rfl uj (uv x1.At x1.Width x1.Rune x1.Broken a2.1 a2.2) (ac 1 rfl (az (cy (aC (bF (k:=3) dQ rfl dc rfl rfl rfl (aO rfl ei (ac 1 rfl ?_)))))))
   refine dG (s:=35) rfl h (fun h=>?_) (fun h=>?_)
   ·
    refine ac 1 rfl (aO rfl eE (ac 2 rfl (az ?_)))
    refine bG rfl h (fun h=>?_) (fun h=>?_)
    ·
     obtain⟨W,h⟩:=bC h
     refine xO (β:=Unit) 8 7 _ [(0,39,zP I),(1,40,zI x1.At),(2,41,zP I),(3,42,zI x1.At),(4,43,.pointer (some ⟨I,1,none⟩)),(5,44,zI x1.Width),(6,45,zI (x1.At+x1.Width))] (fun _b=>[]) (fun _b=>[cells Q [zP bo1] 29,cells P [.string B] 9,cells L [zI 0] 3,cells O [zI x1.At] 3,cells N [zI l] 3,cells M [.bool p] 4,cells I [zI x1.At,zI x1.Width,.int .i32 x1.Rune,.bool x1.Broken] 132]) mixed kr kr rfl dc dc (by rfl) kr kr (gk ?_ (gk ?_ (gk ?_ (gk ?_ (gk ?_ (gk ?_ (gk ?_ (rG gV)))))))) (fun _b=>(gk ?_ (gk ?_ (gk ?_ (gk ?_ (gk ?_ (gk ?_ (gk ?_ (rG gV))))))))) ?_ ?_
     · exact fun D n d c u i=>cf lh rfl dc (dE (by rfl) rfl) (show _=0 from rfl) (bm 0 u i)
     · exact fun D n d c u i=>bF (k:=6) dQ rfl dc (bq 0 u d) rfl rfl (bm 1 u i)
     · exact fun D n d c u i=>cf lh rfl dc (dE (by rfl) rfl) (show _=0 from rfl) (bm 2 u i)
     · exact fun D n d c u i=>bF (k:=6) dQ rfl dc (bq 2 u d) rfl rfl (bm 3 u i)
     · exact fun D n d c u i=>cf pw rfl dc (dE (by rfl) rfl) (show _=1 from rfl) (bm 4 u i)
     · exact fun D n d c u i=>bF (k:=6) dQ rfl dc (bq 4 u d) rfl rfl (bm 5 u i)
     · exact fun D n d c u i=>kl rfl dc (bq 3 u d) (bq 5 u d) (dN (r:=x1.At+x1.Width) (ai _ W)) (bm 6 u i)
     · exact fun D n d c u i=>cf lh rfl dc (dE (by rfl) rfl) (show _=0 from rfl) (bm 0 u i)
     · exact fun D n d c u i=>bF (k:=6) dQ rfl dc (bq 0 u d) rfl rfl (bm 1 u i)
     · exact fun D n d c u i=>cf lh rfl dc (dE (by rfl) rfl) (show _=0 from rfl) (bm 2 u i)
     · exact fun D n d c u i=>bF (k:=6) dQ rfl dc (bq 2 u d) rfl rfl (bm 3 u i)
     · exact fun D n d c u i=>cf pw rfl dc (dE (by rfl) rfl) (show _=1 from rfl) (bm 4 u i)
     · exact fun D n d c u i=>bF (k:=6) dQ rfl dc (bq 4 u d) rfl rfl (bm 5 u i)
     · exact fun D n d c u i=>kl rfl dc (bq 3 u d) (bq 5 u d) (dN (r:=x1.At+x1.Width) (ai _ W)) (bm 6 u i)
     ·
      intro D hn hd ds
      refine ef (k:=3) (l':=[zI x1.At]) jj rfl (dE (by rfl) rfl) (ja (m:=1) kr rfl (hd 1 dc)) rfl rfl (fun _ _=>rfl) rfl ?_
      exact fun a w ha hw=>⟨(),ha,hw⟩
     intro _b
     refine ef (k:=4) (l':=[zI (x1.At+x1.Width)]) jj rfl rfl rfl rfl rfl (fun _ _=>rfl) rfl ?_
     refine bU (cw (cw ?_))
     exact kP (x1.At,x1.At+x1.Width,p) (fun q e2=>by have C:=kU t e2;subst C;subst z;exact h) (aH [0,1,2,3,4,5] kr rfl)
    refine aC (bF (k:=3) dQ rfl dc rfl rfl rfl (aO rfl ei (ac 1 rfl (az ?_))))
    refine bG rfl h (fun h=>?_) (fun h=>?_)
    ·
     refine bH (cw (cw ?_))
     exact kP (f,l,p) (fun q e2=>by have C:=kU t e2;subst C;subst z;exact h) (aH [0,1,2,3,4,5] kr rfl)
    refine aC (bF (k:=5) nl rfl dc rfl rfl rfl (ac 1 rfl ?_))
    refine dG (s:=51) rfl h (fun h=>?_) (fun h=>?_)
    ·
     refine ac 1 rfl (aO rfl eE (ac 1 rfl ?_))
     refine dG (s:=54) rfl h (fun h=>?_) (fun h=>?_)
     ·
      refine ac 5 rfl (az (iH rfl (ct (cf lh rfl dc rfl (show _=0 from rfl) (bF (k:=6) dQ rfl dc rfl rfl rfl (cf pw rfl dc rfl (show _=1 from rfl) (bF (k:=6) dQ rfl dc rfl rfl rfl ?_)))))))
      obtain⟨df,h⟩:=bC h
      refine aO rfl (dN (r:=x1.At+x1.Width) (ai _ df)) ?_
      refine ef (k:=4) (l':=[zI (x1.At+x1.Width)]) jj rfl rfl rfl rfl rfl (fun _ _=>rfl) rfl ?_
      refine bU (cw (cw ?_))
      exact kP (f,x1.At+x1.Width,p) (fun q e2=>by have C:=kU t e2;subst C;subst z;exact h) (aH [0,1,2,3,4,5] kr rfl)
     refine ac 1 rfl (aO rfl eE (ac 3 rfl (az ?_)))
     refine bG rfl h (fun h=>?_) (fun h=>?_)
     ·
      refine ct (cf lh rfl dc rfl (show _=0 from rfl) (bF (k:=6) dQ rfl dc rfl rfl rfl (cf pw rfl dc rfl (show _=1 from rfl) (bF (k:=6) dQ rfl dc rfl rfl rfl ?_))))
      obtain⟨dd,h⟩:=bC h
      refine aO rfl (dN (r:=x1.At+x1.Width) (ai _ dd)) ?_
      refine ef (k:=4) (l':=[zI (x1.At+x1.Width)]) jj rfl rfl rfl rfl rfl (fun _ _=>rfl) rfl ?_
      refine bU (cw (cw ?_))
      exact kP (f,x1.At+x1.Width,p) (fun q e2=>by have C:=kU t e2;subst C;subst z;exact h) (aH [0,1,2,3,4,5] kr rfl)
     refine aC ?_
     refine ef (k:=5) (l':=[.bool false]) kI rfl rfl rfl rfl rfl (fun _ _=>rfl) rfl ?_
     refine cv (ac 1 rfl (aO rfl eE (ac 1 rfl ?_)))
     refine dG (s:=17) rfl h (fun h=>?_) (fun h=>?_)
     ·
      refine ac 3 rfl (az (iH rfl (cm (cm ?_))))
      obtain⟨c5,h⟩:=bC h
      obtain⟨r2,bs,h⟩:=bj h
      refine jc 9 [(0,21,zP bo1),(1,22,zP bo1),(2,23,.pointer (some ⟨bo1,3,none⟩)),(3,24,.map (some (aV o1_h3))),(4,25,.string B),(5,26,zI f),(6,27,zI l),(7,28,.string (c7 B f l)),(8,29,.string r2)] mixed kr kr dc (by rfl) kr kr (bR ?_ (bR ?_ (bR ?_ (bR ?_ (bR ?_ (bR ?_ (bR ?_ (bR ?_ (bR ?_ bK))))))))) ?_
      · exact fun D n d c u i=>bF (k:=0) nW rfl dc (dE (by rfl) rfl) rfl rfl (bm 0 u i)
      · exact fun D n d c u i=>fX rfl dc (bq 0 u d) (bm 1 u i)
      · exact fun D n d c u i=>cf qe rfl dc (bq 1 u d) (show _=3 from rfl) (bm 2 u i)
      · exact fun D n d c u i=>lT (i:=0) y rfl qd rfl dc (bq 2 u d) rfl (bm 3 u i)
      · exact fun D n d c u i=>bF (k:=1) ea rfl dc (dE (by rfl) rfl) rfl rfl (bm 4 u i)
      · exact fun D n d c u i=>bF (k:=3) dQ rfl dc (dE (by rfl) rfl) rfl rfl (bm 5 u i)
      · exact fun D n d c u i=>bF (k:=4) dQ rfl dc (dE (by rfl) rfl) rfl rfl (bm 6 u i)
      · exact fun D n d c u i=>iz rfl dc (bq 4 u d) (evO.some (bq 5 u d)) (evO.some (bq 6 u d)) (jZ (i:=f) (j:=l) an (.inr rfl) (.inr rfl) c5) (bm 7 u i)
      · exact fun D n d c u i=>dq (v:=.string r2) (vs:=[.string (c7 B f l)]) rfl dc rfl (cY (bq 7 u d) eB) rfl qg (qv bs) (bm 8 u i)
      refine qP (k:=4) (ek:=(fun n:ab=>aa n)) (ev':=(fun n:Bool=>am n)) (kk:=r2) (z0:=false) (mn an) eG kr rfl dc rfl rfl y rfl ?_
      refine az ?_
      refine bG rfl h (fun h=>?_) (fun h=>?_)
      ·
       refine aC (bF (k:=4) dQ rfl dc rfl rfl rfl ?_)
       refine ef (k:=2) (l':=[zI l]) jj rfl rfl rfl rfl rfl (fun _ _=>rfl) rfl ?_
       refine az (bI (bT (cE (cE ?_))))
       exact lJ (l,f,l) (show _∧_ from ⟨rfl,h⟩) (aH [0,1,2,3,4,5] kr rfl)
      refine bH (cz (aC ?_))
      refine ef (k:=2) (l':=[zI 0]) jj rfl rfl rfl rfl rfl (fun _ _=>rfl) rfl ?_
      refine az (bI (cE (cE ?_)))
      exact lJ (0,f,l) (show _∧_ from ⟨rfl,h⟩) (aH [0,1,2,3,4,5] kr rfl)
     refine ac 1 rfl (aO rfl eE (ac 1 rfl (az ?_)))
     refine bG rfl h (fun h=>?_) (fun h=>?_)
     ·
      refine cm (cm ?_)
      obtain⟨c4,h⟩:=bC h
      obtain⟨r3,bk,h⟩:=bj h
      refine jc 9 [(0,21,zP bo1),(1,22,zP bo1),(2,23,.pointer (some ⟨bo1,3,none⟩)),(3,24,.map (some (aV o1_h3))),(4,25,.string B),(5,26,zI f),(6,27,zI l),(7,28,.string (c7 B f l)),(8,29,.string r3)] mixed kr kr dc (by rfl) kr kr (bR ?_ (bR ?_ (bR ?_ (bR ?_ (bR ?_ (bR ?_ (bR ?_ (bR ?_ (bR ?_ bK))))))))) ?_
      · exact fun D n d c u i=>bF (k:=0) nW rfl dc (dE (by rfl) rfl) rfl rfl (bm 0 u i)
      · exact fun D n d c u i=>fX rfl dc (bq 0 u d) (bm 1 u i)
      · exact fun D n d c u i=>cf qe rfl dc (bq 1 u d) (show _=3 from rfl) (bm 2 u i)
      · exact fun D n d c u i=>lT (i:=0) y rfl qd rfl dc (bq 2 u d) rfl (bm 3 u i)
      · exact fun D n d c u i=>bF (k:=1) ea rfl dc (dE (by rfl) rfl) rfl rfl (bm 4 u i)
      · exact fun D n d c u i=>bF (k:=3) dQ rfl dc (dE (by rfl) rfl) rfl rfl (bm 5 u i)
      · exact fun D n d c u i=>bF (k:=4) dQ rfl dc (dE (by rfl) rfl) rfl rfl (bm 6 u i)
      · exact fun D n d c u i=>iz rfl dc (bq 4 u d) (evO.some (bq 5 u d)) (evO.some (bq 6 u d)) (jZ (i:=f) (j:=l) an (.inr rfl) (.inr rfl) c4) (bm 7 u i)
      · exact fun D n d c u i=>dq (v:=.string r3) (vs:=[.string (c7 B f l)]) rfl dc rfl (cY (bq 7 u d) eB) rfl qg (qv bk) (bm 8 u i)
      refine qP (k:=4) (ek:=(fun n:ab=>aa n)) (ev':=(fun n:Bool=>am n)) (kk:=r3) (z0:=false) (mn an) eG kr rfl dc rfl rfl y rfl ?_
      refine az ?_
      refine bG rfl h (fun h=>?_) (fun h=>?_)
      ·
       refine aC (bF (k:=4) dQ rfl dc rfl rfl rfl ?_)
       refine ef (k:=2) (l':=[zI l]) jj rfl rfl rfl rfl rfl (fun _ _=>rfl) rfl ?_
       refine az (bI (bT (cE (cE ?_))))
       exact lJ (l,f,l) (show _∧_ from ⟨rfl,h⟩) (aH [0,1,2,3,4,5] kr rfl)
      refine bH (cz (aC ?_))
      refine ef (k:=2) (l':=[zI 0]) jj rfl rfl rfl rfl rfl (fun _ _=>rfl) rfl ?_
      refine az (bI (cE (cE ?_)))
      exact lJ (0,f,l) (show _∧_ from ⟨rfl,h⟩) (aH [0,1,2,3,4,5] kr rfl)
     refine bH (cw (cw ?_))
     exact kP (f,l,false) (fun q e2=>by have C:=kU t e2;subst C;subst z;exact h) (aH [0,1,2,3,4,5] kr rfl)
    refine ac 8 rfl (az (eQ rfl (aC ?_)))
    refine ef (k:=5) (l':=[.bool false]) kI rfl rfl rfl rfl rfl (fun _ _=>rfl) rfl ?_
    refine cv (ac 1 rfl (aO rfl eE (ac 1 rfl ?_)))
    refine dG (s:=17) rfl h (fun h=>?_) (fun h=>?_)
    ·
     refine ac 3 rfl (az (iH rfl (cm (cm ?_))))
     obtain⟨c3,h⟩:=bC h
     obtain⟨r4,bh,h⟩:=bj h
     refine jc 9 [(0,21,zP bo1),(1,22,zP bo1),(2,23,.pointer (some ⟨bo1,3,none⟩)),(3,24,.map (some (aV o1_h3))),(4,25,.string B),(5,26,zI f),(6,27,zI l),(7,28,.string (c7 B f l)),(8,29,.string r4)] mixed kr kr dc (by rfl) kr kr (bR ?_ (bR ?_ (bR ?_ (bR ?_ (bR ?_ (bR ?_ (bR ?_ (bR ?_ (bR ?_ bK))))))))) ?_
     · exact fun D n d c u i=>bF (k:=0) nW rfl dc (dE (by rfl) rfl) rfl rfl (bm 0 u i)
     · exact fun D n d c u i=>fX rfl dc (bq 0 u d) (bm 1 u i)
     · exact fun D n d c u i=>cf qe rfl dc (bq 1 u d) (show _=3 from rfl) (bm 2 u i)
     · exact fun D n d c u i=>lT (i:=0) y rfl qd rfl dc (bq 2 u d) rfl (bm 3 u i)
     · exact fun D n d c u i=>bF (k:=1) ea rfl dc (dE (by rfl) rfl) rfl rfl (bm 4 u i)
     · exact fun D n d c u i=>bF (k:=3) dQ rfl dc (dE (by rfl) rfl) rfl rfl (bm 5 u i)
     · exact fun D n d c u i=>bF (k:=4) dQ rfl dc (dE (by rfl) rfl) rfl rfl (bm 6 u i)
     · exact fun D n d c u i=>iz rfl dc (bq 4 u d) (evO.some (bq 5 u d)) (evO.some (bq 6 u d)) (jZ (i:=f) (j:=l) an (.inr rfl) (.inr rfl) c3) (bm 7 u i)
     · exact fun D n d c u i=>dq (v:=.string r4) (vs:=[.string (c7 B f l)]) rfl dc rfl (cY (bq 7 u d) eB) rfl qg (qv bh) (bm 8 u i)
     refine qP (k:=4) (ek:=(fun n:ab=>aa n)) (ev':=(fun n:Bool=>am n)) (kk:=r4) (z0:=false) (mn an) eG kr rfl dc rfl rfl y rfl ?_
     refine az ?_
     refine bG rfl h (fun h=>?_) (fun h=>?_)
     ·
      refine aC (bF (k:=4) dQ rfl dc rfl rfl rfl ?_)
      refine ef (k:=2) (l':=[zI l]) jj rfl rfl rfl rfl rfl (fun _ _=>rfl) rfl ?_
      refine az (bI (bT (cE (cE ?_))))
      exact lJ (l,f,l) (show _∧_ from ⟨rfl,h⟩) (aH [0,1,2,3,4,5] kr rfl)
     refine bH (cz (aC ?_))
     refine ef (k:=2) (l':=[zI 0]) jj rfl rfl rfl rfl rfl (fun _ _=>rfl) rfl ?_
     refine az (bI (cE (cE ?_)))
     exact lJ (0,f,l) (show _∧_ from ⟨rfl,h⟩) (aH [0,1,2,3,4,5] kr rfl)
    refine ac 1 rfl (aO rfl eE (ac 1 rfl (az ?_)))
    refine bG rfl h (fun h=>?_) (fun h=>?_)
    ·
     refine cm (cm ?_)
     obtain⟨c2,h⟩:=bC h
     obtain⟨r5,bb,h⟩:=bj h
     refine jc 9 [(0,21,zP bo1),(1,22,zP bo1),(2,23,.pointer (some ⟨bo1,3,none⟩)),(3,24,.map (some (aV o1_h3))),(4,25,.string B),(5,26,zI f),(6,27,zI l),(7,28,.string (c7 B f l)),(8,29,.string r5)] mixed kr kr dc (by rfl) kr kr (bR ?_ (bR ?_ (bR ?_ (bR ?_ (bR ?_ (bR ?_ (bR ?_ (bR ?_ (bR ?_ bK))))))))) ?_
     · exact fun D n d c u i=>bF (k:=0) nW rfl dc (dE (by rfl) rfl) rfl rfl (bm 0 u i)
     · exact fun D n d c u i=>fX rfl dc (bq 0 u d) (bm 1 u i)
     · exact fun D n d c u i=>cf qe rfl dc (bq 1 u d) (show _=3 from rfl) (bm 2 u i)
     · exact fun D n d c u i=>lT (i:=0) y rfl qd rfl dc (bq 2 u d) rfl (bm 3 u i)
     · exact fun D n d c u i=>bF (k:=1) ea rfl dc (dE (by rfl) rfl) rfl rfl (bm 4 u i)
     · exact fun D n d c u i=>bF (k:=3) dQ rfl dc (dE (by rfl) rfl) rfl rfl (bm 5 u i)
     · exact fun D n d c u i=>bF (k:=4) dQ rfl dc (dE (by rfl) rfl) rfl rfl (bm 6 u i)
     · exact fun D n d c u i=>iz rfl dc (bq 4 u d) (evO.some (bq 5 u d)) (evO.some (bq 6 u d)) (jZ (i:=f) (j:=l) an (.inr rfl) (.inr rfl) c2) (bm 7 u i)
     · exact fun D n d c u i=>dq (v:=.string r5) (vs:=[.string (c7 B f l)]) rfl dc rfl (cY (bq 7 u d) eB) rfl qg (qv bb) (bm 8 u i)
     refine qP (k:=4) (ek:=(fun n:ab=>aa n)) (ev':=(fun n:Bool=>am n)) (kk:=r5) (z0:=false) (mn an) eG kr rfl dc rfl rfl y rfl ?_
     refine az ?_
     refine bG rfl h (fun h=>?_) (fun h=>?_)
     ·
      refine aC (bF (k:=4) dQ rfl dc rfl rfl rfl ?_)
      refine ef (k:=2) (l':=[zI l]) jj rfl rfl rfl rfl rfl (fun _ _=>rfl) rfl ?_
      refine az (bI (bT (cE (cE ?_))))
      exact lJ (l,f,l) (show _∧_ from ⟨rfl,h⟩) (aH [0,1,2,3,4,5] kr rfl)
     refine bH (cz (aC ?_))
     refine ef (k:=2) (l':=[zI 0]) jj rfl rfl rfl rfl rfl (fun _ _=>rfl) rfl ?_
     refine az (bI (cE (cE ?_)))
     exact lJ (0,f,l) (show _∧_ from ⟨rfl,h⟩) (aH [0,1,2,3,4,5] kr rfl)
    refine bH (cw (cw ?_))
    exact kP (f,l,false) (fun q e2=>by have C:=kU t e2;subst C;subst z;exact h) (aH [0,1,2,3,4,5] kr rfl)
   refine ac 4 rfl (az (eQ rfl (aC (bF (k:=3) dQ rfl dc rfl rfl rfl (aO rfl ei (ac 1 rfl (az ?_)))))))
   refine bG rfl h (fun h=>?_) (fun h=>?_)
   ·
    refine bH (cw (cw ?_))
    exact kP (f,l,p) (fun q e2=>by have C:=kU t e2;subst C;subst z;exact h) (aH [0,1,2,3,4,5] kr rfl)
   refine aC (bF (k:=5) nl rfl dc rfl rfl rfl (ac 1 rfl ?_))
   refine dG (s:=51) rfl h (fun h=>?_) (fun h=>?_)
   ·
    refine ac 1 rfl (aO rfl eE (ac 1 rfl ?_))
    refine dG (s:=54) rfl h (fun h=>?_) (fun h=>?_)
    ·
     refine ac 5 rfl (az (iH rfl (ct (cf lh rfl dc rfl (show _=0 from rfl) (bF (k:=6) dQ rfl dc rfl rfl rfl (cf pw rfl dc rfl (show _=1 from rfl) (bF (k:=6) dQ rfl dc rfl rfl rfl ?_)))))))
     obtain⟨c0,h⟩:=bC h
     refine aO rfl (dN (r:=x1.At+x1.Width) (ai _ c0)) ?_
     refine ef (k:=4) (l':=[zI (x1.At+x1.Width)]) jj rfl rfl rfl rfl rfl (fun _ _=>rfl) rfl ?_
     refine bU (cw (cw ?_))
     exact kP (f,x1.At+x1.Width,p) (fun q e2=>by have C:=kU t e2;subst C;subst z;exact h) (aH [0,1,2,3,4,5] kr rfl)
    refine ac 1 rfl (aO rfl eE (ac 3 rfl (az ?_)))
    refine bG rfl h (fun h=>?_) (fun h=>?_)
    ·
     refine ct (cf lh rfl dc rfl (show _=0 from rfl) (bF (k:=6) dQ rfl dc rfl rfl rfl (cf pw rfl dc rfl (show _=1 from rfl) (bF (k:=6) dQ rfl dc rfl rfl rfl ?_))))
     obtain⟨a1,h⟩:=bC h
     refine aO rfl (dN (r:=x1.At+x1.Width) (ai _ a1)) ?_
     refine ef (k:=4) (l':=[zI (x1.At+x1.Width)]) jj rfl rfl rfl rfl rfl (fun _ _=>rfl) rfl ?_
     refine bU (cw (cw ?_))
     exact kP (f,x1.At+x1.Width,p) (fun q e2=>by have C:=kU t e2;subst C;subst z;exact h) (aH [0,1,2,3,4,5] kr rfl)
    refine aC ?_
    refine ef (k:=5) (l':=[.bool false]) kI rfl rfl rfl rfl rfl (fun _ _=>rfl) rfl ?_
    refine cv (ac 1 rfl (aO rfl eE (ac 1 rfl ?_)))
    refine dG (s:=17) rfl h (fun h=>?_) (fun h=>?_)
    ·
     refine ac 3 rfl (az (iH rfl (cm (cm ?_))))
     obtain⟨a0,h⟩:=bC h
     obtain⟨r6,a9,h⟩:=bj h
     refine jc 9 [(0,21,zP bo1),(1,22,zP bo1),(2,23,.pointer (some ⟨bo1,3,none⟩)),(3,24,.map (some (aV o1_h3))),(4,25,.string B),(5,26,zI f),(6,27,zI l),(7,28,.string (c7 B f l)),(8,29,.string r6)] mixed kr kr dc (by rfl) kr kr (bR ?_ (bR ?_ (bR ?_ (bR ?_ (bR ?_ (bR ?_ (bR ?_ (bR ?_ (bR ?_ bK))))))))) ?_
     · exact fun D n d c u i=>bF (k:=0) nW rfl dc (dE (by rfl) rfl) rfl rfl (bm 0 u i)
     · exact fun D n d c u i=>fX rfl dc (bq 0 u d) (bm 1 u i)
     · exact fun D n d c u i=>cf qe rfl dc (bq 1 u d) (show _=3 from rfl) (bm 2 u i)
     · exact fun D n d c u i=>lT (i:=0) y rfl qd rfl dc (bq 2 u d) rfl (bm 3 u i)
     · exact fun D n d c u i=>bF (k:=1) ea rfl dc (dE (by rfl) rfl) rfl rfl (bm 4 u i)
     · exact fun D n d c u i=>bF (k:=3) dQ rfl dc (dE (by rfl) rfl) rfl rfl (bm 5 u i)
     · exact fun D n d c u i=>bF (k:=4) dQ rfl dc (dE (by rfl) rfl) rfl rfl (bm 6 u i)
     · exact fun D n d c u i=>iz rfl dc (bq 4 u d) (evO.some (bq 5 u d)) (evO.some (bq 6 u d)) (jZ (i:=f) (j:=l) an (.inr rfl) (.inr rfl) a0) (bm 7 u i)
     · exact fun D n d c u i=>dq (v:=.string r6) (vs:=[.string (c7 B f l)]) rfl dc rfl (cY (bq 7 u d) eB) rfl qg (qv a9) (bm 8 u i)
     refine qP (k:=4) (ek:=(fun n:ab=>aa n)) (ev':=(fun n:Bool=>am n)) (kk:=r6) (z0:=false) (mn an) eG kr rfl dc rfl rfl y rfl ?_
     refine az ?_
     refine bG rfl h (fun h=>?_) (fun h=>?_)
     ·
      refine aC (bF (k:=4) dQ rfl dc rfl rfl rfl ?_)
      refine ef (k:=2) (l':=[zI l]) jj rfl rfl rfl rfl rfl (fun _ _=>rfl) rfl ?_
      refine az (bI (bT (cE (cE ?_))))
      exact lJ (l,f,l) (show _∧_ from ⟨rfl,h⟩) (aH [0,1,2,3,4,5] kr rfl)
     refine bH (cz (aC ?_))
     refine ef (k:=2) (l':=[zI 0]) jj rfl rfl rfl rfl rfl (fun _ _=>rfl) rfl ?_
     refine az (bI (cE (cE ?_)))
     exact lJ (0,f,l) (show _∧_ from ⟨rfl,h⟩) (aH [0,1,2,3,4,5] kr rfl)
    refine ac 1 rfl (aO rfl eE (ac 1 rfl (az ?_)))
    refine bG rfl h (fun h=>?_) (fun h=>?_)
    ·
     refine cm (cm ?_)
     obtain⟨aw,h⟩:=bC h
     obtain⟨r7,a8,h⟩:=bj h
     refine jc 9 [(0,21,zP bo1),(1,22,zP bo1),(2,23,.pointer (some ⟨bo1,3,none⟩)),(3,24,.map (some (aV o1_h3))),(4,25,.string B),(5,26,zI f),(6,27,zI l),(7,28,.string (c7 B f l)),(8,29,.string r7)] mixed kr kr dc (by rfl) kr kr (bR ?_ (bR ?_ (bR ?_ (bR ?_ (bR ?_ (bR ?_ (bR ?_ (bR ?_ (bR ?_ bK))))))))) ?_
     · exact fun D n d c u i=>bF (k:=0) nW rfl dc (dE (by rfl) rfl) rfl rfl (bm 0 u i)
     · exact fun D n d c u i=>fX rfl dc (bq 0 u d) (bm 1 u i)
     · exact fun D n d c u i=>cf qe rfl dc (bq 1 u d) (show _=3 from rfl) (bm 2 u i)
     · exact fun D n d c u i=>lT (i:=0) y rfl qd rfl dc (bq 2 u d) rfl (bm 3 u i)
     · exact fun D n d c u i=>bF (k:=1) ea rfl dc (dE (by rfl) rfl) rfl rfl (bm 4 u i)
     · exact fun D n d c u i=>bF (k:=3) dQ rfl dc (dE (by rfl) rfl) rfl rfl (bm 5 u i)
     · exact fun D n d c u i=>bF (k:=4) dQ rfl dc (dE (by rfl) rfl) rfl rfl (bm 6 u i)
     · exact fun D n d c u i=>iz rfl dc (bq 4 u d) (evO.some (bq 5 u d)) (evO.some (bq 6 u d)) (jZ (i:=f) (j:=l) an (.inr rfl) (.inr rfl) aw) (bm 7 u i)
     · exact fun D n d c u i=>dq (v:=.string r7) (vs:=[.string (c7 B f l)]) rfl dc rfl (cY (bq 7 u d) eB) rfl qg (qv a8) (bm 8 u i)
     refine qP (k:=4) (ek:=(fun n:ab=>aa n)) (ev':=(fun n:Bool=>am n)) (kk:=r7) (z0:=false) (mn an) eG kr rfl dc rfl rfl y rfl ?_
     refine az ?_
     refine bG rfl h (fun h=>?_) (fun h=>?_)
     ·
      refine aC (bF (k:=4) dQ rfl dc rfl rfl rfl ?_)
      refine ef (k:=2) (l':=[zI l]) jj rfl rfl rfl rfl rfl (fun _ _=>rfl) rfl ?_
      refine az (bI (bT (cE (cE ?_))))
      exact lJ (l,f,l) (show _∧_ from ⟨rfl,h⟩) (aH [0,1,2,3,4,5] kr rfl)
     refine bH (cz (aC ?_))
     refine ef (k:=2) (l':=[zI 0]) jj rfl rfl rfl rfl rfl (fun _ _=>rfl) rfl ?_
     refine az (bI (cE (cE ?_)))
     exact lJ (0,f,l) (show _∧_ from ⟨rfl,h⟩) (aH [0,1,2,3,4,5] kr rfl)
    refine bH (cw (cw ?_))
    exact kP (f,l,false) (fun q e2=>by have C:=kU t e2;subst C;subst z;exact h) (aH [0,1,2,3,4,5] kr rfl)
   refine ac 8 rfl (az (eQ rfl (aC ?_)))
   refine ef (k:=5) (l':=[.bool false]) kI rfl rfl rfl rfl rfl (fun _ _=>rfl) rfl ?_
   refine cv (ac 1 rfl (aO rfl eE (ac 1 rfl ?_)))
   refine dG (s:=17) rfl h (fun h=>?_) (fun h=>?_)
   ·
    refine ac 3 rfl (az (iH rfl (cm (cm ?_))))
    obtain⟨ao,h⟩:=bC h
    obtain⟨r8,a7,h⟩:=bj h
    refine jc 9 [(0,21,zP bo1),(1,22,zP bo1),(2,23,.pointer (some ⟨bo1,3,none⟩)),(3,24,.map (some (aV o1_h3))),(4,25,.string B),(5,26,zI f),(6,27,zI l),(7,28,.string (c7 B f l)),(8,29,.string r8)] mixed kr kr dc (by rfl) kr kr (bR ?_ (bR ?_ (bR ?_ (bR ?_ (bR ?_ (bR ?_ (bR ?_ (bR ?_ (bR ?_ bK))))))))) ?_
    · exact fun D n d c u i=>bF (k:=0) nW rfl dc (dE (by rfl) rfl) rfl rfl (bm 0 u i)
    · exact fun D n d c u i=>fX rfl dc (bq 0 u d) (bm 1 u i)
    · exact fun D n d c u i=>cf qe rfl dc (bq 1 u d) (show _=3 from rfl) (bm 2 u i)
    · exact fun D n d c u i=>lT (i:=0) y rfl qd rfl dc (bq 2 u d) rfl (bm 3 u i)
    · exact fun D n d c u i=>bF (k:=1) ea rfl dc (dE (by rfl) rfl) rfl rfl (bm 4 u i)
    · exact fun D n d c u i=>bF (k:=3) dQ rfl dc (dE (by rfl) rfl) rfl rfl (bm 5 u i)
    · exact fun D n d c u i=>bF (k:=4) dQ rfl dc (dE (by rfl) rfl) rfl rfl (bm 6 u i)
    · exact fun D n d c u i=>iz rfl dc (bq 4 u d) (evO.some (bq 5 u d)) (evO.some (bq 6 u d)) (jZ (i:=f) (j:=l) an (.inr rfl) (.inr rfl) ao) (bm 7 u i)
    · exact fun D n d c u i=>dq (v:=.string r8) (vs:=[.string (c7 B f l)]) rfl dc rfl (cY (bq 7 u d) eB) rfl qg (qv a7) (bm 8 u i)
    refine qP (k:=4) (ek:=(fun n:ab=>aa n)) (ev':=(fun n:Bool=>am n)) (kk:=r8) (z0:=false) (mn an) eG kr rfl dc rfl rfl y rfl ?_
    refine az ?_
    refine bG rfl h (fun h=>?_) (fun h=>?_)
    ·
     refine aC (bF (k:=4) dQ rfl dc rfl rfl rfl ?_)
     refine ef (k:=2) (l':=[zI l]) jj rfl rfl rfl rfl rfl (fun _ _=>rfl) rfl ?_
     refine az (bI (bT (cE (cE ?_))))
     exact lJ (l,f,l) (show _∧_ from ⟨rfl,h⟩) (aH [0,1,2,3,4,5] kr rfl)
    refine bH (cz (aC ?_))
    refine ef (k:=2) (l':=[zI 0]) jj rfl rfl rfl rfl rfl (fun _ _=>rfl) rfl ?_
    refine az (bI (cE (cE ?_)))
    exact lJ (0,f,l) (show _∧_ from ⟨rfl,h⟩) (aH [0,1,2,3,4,5] kr rfl)
   refine ac 1 rfl (aO rfl eE (ac 1 rfl (az ?_)))
   refine bG rfl h (fun h=>?_) (fun h=>?_)
   ·
    refine cm (cm ?_)
    obtain⟨Y,h⟩:=bC h
    obtain⟨r9,V,h⟩:=bj h
    refine jc 9 [(0,21,zP bo1),(1,22,zP bo1),(2,23,.pointer (some ⟨bo1,3,none⟩)),(3,24,.map (some (aV o1_h3))),(4,25,.string B),(5,26,zI f),(6,27,zI l),(7,28,.string (c7 B f l)),(8,29,.string r9)] mixed kr kr dc (by rfl) kr kr (bR ?_ (bR ?_ (bR ?_ (bR ?_ (bR ?_ (bR ?_ (bR ?_ (bR ?_ (bR ?_ bK))))))))) ?_
    · exact fun D n d c u i=>bF (k:=0) nW rfl dc (dE (by rfl) rfl) rfl rfl (bm 0 u i)
    · exact fun D n d c u i=>fX rfl dc (bq 0 u d) (bm 1 u i)
    · exact fun D n d c u i=>cf qe rfl dc (bq 1 u d) (show _=3 from rfl) (bm 2 u i)
    · exact fun D n d c u i=>lT (i:=0) y rfl qd rfl dc (bq 2 u d) rfl (bm 3 u i)
    · exact fun D n d c u i=>bF (k:=1) ea rfl dc (dE (by rfl) rfl) rfl rfl (bm 4 u i)
    · exact fun D n d c u i=>bF (k:=3) dQ rfl dc (dE (by rfl) rfl) rfl rfl (bm 5 u i)
    · exact fun D n d c u i=>bF (k:=4) dQ rfl dc (dE (by rfl) rfl) rfl rfl (bm 6 u i)
    · exact fun D n d c u i=>iz rfl dc (bq 4 u d) (evO.some (bq 5 u d)) (evO.some (bq 6 u d)) (jZ (i:=f) (j:=l) an (.inr rfl) (.inr rfl) Y) (bm 7 u i)
    · exact fun D n d c u i=>dq (v:=.string r9) (vs:=[.string (c7 B f l)]) rfl dc rfl (cY (bq 7 u d) eB) rfl qg (qv V) (bm 8 u i)
    refine qP (k:=4) (ek:=(fun n:ab=>aa n)) (ev':=(fun n:Bool=>am n)) (kk:=r9) (z0:=false) (mn an) eG kr rfl dc rfl rfl y rfl ?_
    refine az ?_
    refine bG rfl h (fun h=>?_) (fun h=>?_)
    ·
     refine aC (bF (k:=4) dQ rfl dc rfl rfl rfl ?_)
     refine ef (k:=2) (l':=[zI l]) jj rfl rfl rfl rfl rfl (fun _ _=>rfl) rfl ?_
     refine az (bI (bT (cE (cE ?_))))
     exact lJ (l,f,l) (show _∧_ from ⟨rfl,h⟩) (aH [0,1,2,3,4,5] kr rfl)
    refine bH (cz (aC ?_))
    refine ef (k:=2) (l':=[zI 0]) jj rfl rfl rfl rfl rfl (fun _ _=>rfl) rfl ?_
    refine az (bI (cE (cE ?_)))
    exact lJ (0,f,l) (show _∧_ from ⟨rfl,h⟩) (aH [0,1,2,3,4,5] kr rfl)
   refine bH (cw (cw ?_))
   exact kP (f,l,false) (fun q e2=>by have C:=kU t e2;subst C;subst z;exact h) (aH [0,1,2,3,4,5] kr rfl)
  ·
   rintro H ⟨f,l,p⟩ E
   have h:T f l p=some r:=E [] (aQ _).symm
   rw[a4] at h
   show TX _ _ _ _ _ _ _ [zgL ((([]:List Nat):List Nat).map eZ),cn,cn,cn,cn,cn,cn,cells b8 [.string r1] 9,cells Q [zP bo1] 29,cells P [.string B] 9,cells L [zI 0] 3,cells O [zI f] 3,cells N [zI l] 3,cells M [.bool p] 4,eZ H]
   refine pY (k:=14) (j:=0) rfl rfl dc ?_
   refine cw ?_
   exact bx (L,H::([]:List Nat)) h rfl (aT rfl) (aH [10,0] kr rfl)
  rintro H c pre x1 post g dj hX
  obtain⟨rfl,h⟩:=(show _∧_ from hX)
  obtain⟨x2,S,a5⟩:=g
  rw[a3] at h
  show TC _ _ _ _ _ _ _ _ _ [zgL ((([]:List Nat):List Nat).map eZ),cn,cn,cn,cn,cn,cn,cells b8 [.string r1] 9,cells Q [zP bo1] 29,cells P [.string B] 9,cells L [zI x2] 3,cells O [zI S] 3,cells N [zI a5] 3,cells M [.bool false] 4,eZ H]
  refine vJ (k:=14) (j:=0) rfl rfl dc ?_
  refine bI (cE (bT ?_))
  cases h
  exact lS (rs:=[.cell 4 3]) (H::([]:List Nat)) () (.inl rfl) (lR (k:=0) rfl) results86 (.cons (.cell dQ (k:=10) rfl rfl) .nil) rfl ad
 rintro⟨b1,dg⟩ h
 rw[ch] at h
 refine aC ?_
 refine ef (k:=0) (l':=[zI 0]) jj rfl rfl rfl rfl rfl (fun _ _=>rfl) rfl ?_
 refine az (bI ?_)
 cases h
 exact lS (rs:=[.cell 4 3]) dg () (.inl rfl) (lR (k:=1) rfl) results86 (.cons (.cell dQ (k:=0) rfl rfl) .nil) rfl ad
def Cr (s1:ab):Option (List cX) := aX (tq s1) fun (r1:ab)=> aX (Cm r1) fun (r2:(List cX))=> some r2
theorem Pj {a:ab} {r:(List cX)} (h:Cr a=some r):Fn prog 88 [.string a] [] (fun v0:Value=>v0) (fun v0=>[om v0 r]):=by
 unfold Cr at h
 refine _root_.Go.Proofs.YtifpjbgnikjglaaGreatDoor.Fn.intro func88 rfl ntmps88 (by simp) ?_
 intro w0 K
 refine aC (ac 1 rfl (cv (ac 1 rfl ?_)))
 obtain⟨f,c,h⟩:=bj h
 refine fY (vs:=[.string a]) rfl dc rfl rfl rfl wg (xb c) ad ?_
 rintro b1
 obtain⟨e,b,h⟩:=bj h
 refine fY (vs:=[.func (.func 154) #[] #[zP b1]]) rfl dc rfl rfl rfl LF (Pf (bseq10:=b1) b) (aH [0] kr rfl) ?_
 rintro d
 refine ac 1 rfl (az (bI ?_))
 cases h
 exact eO (rs:=[.tmp 2]) d (.inl rfl) results88 (.cons (.tmp rfl) .nil) rfl (aH [2] kr rfl)
def zdK (o1:cK) (l1:List cX) (j1:Int→Nat→(List ab)→Option (Int×(List ab))) (ag1:Int→ab→Nat→(List ab)→Int→Option (Int×(List ab))) (best4:Int) (form3:ab) (kd4:Nat) (places4:List ab) (x3:Int):Option (Int×(List ab)) := aU (decide ((x3:Int)<((fi l1 0 (min (l1.length:Int) 8)).length:Int))) ( cJ (fun (j2:Int→ab→Nat→(List ab)→Option (Int×(List ab)))=> aX (zcy (fi l1 0 (min (l1.length:Int) 8)) x3) fun (q1:cX)=> aU (q1.Broken) ( j1 best4 kd4 places4
) ( aY (fN q1.Rune) <| aY (form3.size+(af (ee q1.Rune)).size≤9223372036854775807) <| aU ((zbL (form3++(af (ee q1.Rune))) o1.place).isSome) ( aY (cR (x3+1)) <| j2 (x3+1) (form3++(af (ee q1.Rune))) 1 ([form3++(af (ee q1.Rune))]:List ab)
) ( aU ((zbL (form3++(af (ee q1.Rune))) o1.fors).isSome) ( aY (cR (x3+1)) <| aX ((zbL (form3++(af (ee q1.Rune))) o1.fors)) fun (xs1:List ab)=> j2 (x3+1) (form3++(af (ee q1.Rune))) 2 xs1
) ( j2 best4 (form3++(af (ee q1.Rune))) kd4 places4
)
)
)
) (fun (best5:Int) (form4:ab) (kd5:Nat) (places5:List ab)=> aY (cR (x3+1)) <| ag1 best5 form4 kd5 places5 (x3+1)
)
) ( j1 best4 kd4 places4
)
def zdJ (j3:(List ab)→Option (Int×(List ab))) (r1:ab) (ag2:(List ab)→Nat→Option (Int×(List ab))) (places9:List ab) (m3:Nat):Option (Int×(List ab)) := aU (decide (m3<(fe r1.data.toList).length)) ( aX ((fe r1.data.toList)[m3]?) fun (p1:Pc)=> aY (places9.length+1≤2147483648) <| ag2 (places9++[af (p1.r:Int)]) (m3+1)
) ( j3 places9
)
def Cs (o1:cK) (l1:List cX):Option (Int×(List ab)) := cJ (fun (j1:Int→Nat→(List ab)→Option (Int×(List ab)))=> aY (0≤(0:Int)∧(0:Int)≤(min (l1.length:Int) 8)∧(min (l1.length:Int) 8:Int)≤(l1.length:Int)) <| zaI (fun _ _ _ _ _=>none) (zdK o1 l1 j1) zbH 0 (⟨#[]⟩:ab) 0 ([]:List ab) 0
) (fun (best1:Int) (kd1:Nat) (places1:List ab)=> aU (decide ((0:Int)<best1)) ( some (best1,places1)
) ( cJ (fun (j3:(List ab)→Option (Int×(List ab)))=> aY (kd1=0) <| aX (zcy l1 0) fun (q2:cX)=> aY (fN q2.Rune) <| aX (yR (ee q2.Rune)) fun (r1:ab)=> zaI (fun _ _=>none) (zdJ j3 r1) zbH ([]:List ab) 0
) (fun (places6:List ab)=> some (1,places6)
)
)
)
theorem Pk {bo1:Nat} {o1:cK} {o1_h0 o1_h1 o1_h2 o1_h3 o1_h4:Hd} {u x:Value} {P:List cX} {t:Nat} {B:List cX} (l:Vw u P 4 t x B) {r:(Int×(List ab))} (h:Cs o1 B=some r):wu prog 90 [zP bo1,x] [cells bo1 [o1_h0.v,.map (some (aV o1_h1)),.map (some (aV o1_h2)),.map (some (aV o1_h3)),o1_h4.v] 72,bo o1_h0.v o1.units,cq (fun n:ab=>aa n) (fun n:Int=>ax .i64 n) (aV o1_h1) o1.place,dh (aV o1_h2) o1.fors,cq (fun n:ab=>aa n) (fun n:Bool=>am n) (aV o1_h3) o1.skips,bo o1_h4.v o1.lines,ji nC 4 u t P] (fun v0:Hd=>.tuple #[zI r.1,v0.v]) (fun v0=>[mo gR 1 v0 r.2]):=by
 unfold Cs at h
 refine wu.intro func90 rfl ntmps90 (by simp) ?_
 intro w0 K d
 obtain⟨Lf,c2,d⟩:=d.fors (i:=3) rfl
 replace d:Rd _ _ [cells bo1 [o1_h0.v,.map (some (aV o1_h1)),.map (some (aV o1_h2)),.map (some (aV o1_h3)),o1_h4.v] 72,bo o1_h0.v o1.units,cq (fun n:ab=>aa n) (fun n:Int=>ax .i64 n) (aV o1_h1) o1.place,dh (aV o1_h2) o1.fors,cq (fun n:ab=>aa n) (fun n:Bool=>am n) (aV o1_h3) o1.skips,bo o1_h4.v o1.lines,ji nC 4 u t P,qQ (aV o1_h2) Lf,qb Lf]:=d
 obtain⟨j1,bk,h⟩:=cP h
 refine c8 (β:=Int×Nat×(List ab)×Hd) 3 rfl (fun b=>j1 b.1 b.2.1 b.2.2.1=some r∧oA b.2.1 b.2.2.2 b.2.2.1 Lf) (fun b=>[]) (fun b=>[(1,x),(6,zI b.1),(8,b.2.2.2.v)]) (fun b=>[rV b.2.1 b.2.2.2 b.2.2.1,zse w0 K]) (fun cut=>?_) ?_
 ·
  refine aC (ac 2 rfl (cv (ac 2 rfl (cv ?_))))
  refine ac 1 rfl (tN (enc:=gR) (e:=9) (size:=1) (pp (k:=1) rfl (MN 9) ?_))
  refine az (cut (aC (ac 2 rfl (iO l rfl dc rfl cG (xX rfl dc rfl rfl ?_)))))
  obtain⟨b9,h⟩:=bC h
  obtain⟨v1,L,a5⟩:=oZ (lo:=none) (hi:=some (zI (min (B.length:Int) 8))) l cG jP (.inl ⟨rfl,rfl⟩) (.inr rfl) b9
  refine iz rfl dc rfl rfl rfl a5 (iO L rfl dc rfl cG (ac 1 rfl (az (cy ?_))))
  refine fh (β:=Nat×Int×ab×Nat×(List ab)×Int×Hd) (fun b=>zaI (fun _ _ _ _ _=>none) (zdK o1 B j1) b.1 b.2.1 b.2.2.1 b.2.2.2.1 b.2.2.2.2.1 b.2.2.2.2.2.1=some r∧oA b.2.2.2.1 b.2.2.2.2.2.2 b.2.2.2.2.1 Lf) (fun b=>[]) (fun b=>[(0,zP bo1),(1,x),(6,zI b.2.1),(7,.string b.2.2.1),(8,b.2.2.2.2.2.2.v),(21,v1),(22,zI ((fi B 0 (min (B.length:Int) 8)).length:Int)),(23,zI b.2.2.2.2.2.1)]) (fun b=>[rV b.2.2.2.1 b.2.2.2.2.2.2 b.2.2.2.2.1,zse w0 K]) (fun b=>b.1) (zbH,0,(⟨#[]⟩:ab),0,([]:List ab),0,ew) ⟨h,oA.nil⟩ rfl (aT rfl) (aH [1,0] kr rfl) ?_
  rintro⟨n1,g,a,D,c,C,M⟩ ⟨h,J⟩
  cases n1 with
  | zero=>exact fa h
  | succ n1=>
   obtain⟨c5,G⟩:∃ag,ag=zaI (fun _ _ _ _ _=>none) (zdK o1 B j1) n1:=⟨_,rfl⟩
   have h:zdK o1 B j1 c5 g a D c C=some r:=by rw[G];exact h
   unfold zdK at h
   refine aC (aO rfl ei (az (cm ?_)))
   refine bG rfl h (fun h=>?_) (fun h=>?_)
   ·
    refine bH (cz ?_)
    obtain⟨j2,bh,h⟩:=cP h
    refine c8 (β:=Int×ab×Nat×(List ab)×Hd) 0 rfl (fun b=>j2 b.1 b.2.1 b.2.2.1 b.2.2.2.1=some r∧oA b.2.2.1 b.2.2.2.2 b.2.2.2.1 Lf) (fun b=>[]) (fun b=>[(0,zP bo1),(1,x),(6,zI b.1),(7,.string b.2.1),(8,b.2.2.2.2.v),(21,v1),(22,zI ((fi B 0 (min (B.length:Int) 8)).length:Int)),(23,zI C)]) (fun b=>[rV b.2.2.1 b.2.2.2.2 b.2.2.2.1,zse w0 K]) (fun cut=>?_) ?_
    ·
     refine cut (cy (aC (ac 1 rfl ?_)))
     obtain⟨q1,V,h⟩:=bj h
     refine gq L V cG jP rfl dc rfl rfl rfl (oz (m:=t+(0:Int).toNat+(C:Int).toNat) (j:=0) (i:=6) (q:=q1) (cs:=[zI q1.At,zI q1.Width,.int .i32 q1.Rune,.bool q1.Broken]) d rfl (by omega) kW rfl dc rfl (cI L V) rfl rfl rfl ?_)
     refine eN og rfl dc (fun b1=>?_)
     refine ac 1 rfl (eH (k:=2) (vs:=[zI q1.At,zI q1.Width,.int .i32 q1.Rune,.bool q1.Broken]) (l':=[zI q1.At,zI q1.Width,.int .i32 q1.Rune,.bool q1.Broken]) jP rfl rfl rfl rfl rfl (show _≤_ by simp) rfl rfl ?_)
     refine az (cm (aC (cf ym rfl dc rfl (show _=3 from rfl) (bF (k:=2) nl rfl dc rfl rfl rfl (az ?_)))))
     refine bG rfl h (fun h=>?_) (fun h=>?_)
     ·
      refine dZ (cA (vz dc (cA (cA (ed ?_)))))
      exact bx (g,D,c,M) ⟨h,J⟩ rfl (aT rfl) (aH [0,1] kr rfl)
     refine bH (cz (aC (ac 1 rfl (cf o7 rfl dc rfl (show _=2 from rfl) (bF (k:=2) fT rfl dc rfl rfl rfl ?_)))))
     obtain⟨Y,h⟩:=bC h
     refine dq (v:=.int .i32 (ee q1.Rune)) (vs:=[.int .i32 q1.Rune]) rfl dc rfl rfl rfl yq (nP fun w=>wo q1.Rune w Y.1 Y.2) ?_
     refine jr rfl dc rfl (mf bg an) ?_
     obtain⟨b8,h⟩:=bC h
     refine aO rfl (kQ b8) (ac 1 rfl (cv (ac 1 rfl (fX rfl dc rfl (cf ue rfl dc rfl (show _=1 from rfl) (lT (i:=0) d rfl ud rfl dc rfl rfl (ac 1 rfl ?_)))))))
     refine yc (k:=2) (ek:=(fun n:ab=>aa n)) (ev':=(fun n:Int=>ax .i64 n)) (kk:=a++(af (ee q1.Rune))) (z0:=0) (mn an) mN kr rfl dc rfl rfl d rfl ?_
     refine ac 1 rfl (fS rfl dc rfl rfl (fS rfl dc rfl rfl (ac 2 rfl (cv (ac 1 rfl (az ?_))))))
     refine bG rfl h (fun h=>?_) (fun h=>?_)
     ·
      refine ct (ac 1 rfl ?_)
      obtain⟨b7,h⟩:=bC h
      refine aO rfl (dN (r:=C+1) (ai _ b7)) (ac 1 rfl ?_)
      refine gl (cs:=[.string (a++(af (ee q1.Rune)))]) (te:=9) (ps:=[(0,.tmp 48)]) rfl dc rfl (fun _=>by kernel_rfl) (fun b2=>?_)
      refine ac 2 rfl (mS ([a++(af (ee q1.Rune))]:List ab) (k:=3) rfl ga rfl (show 1≤maxLen by decide) ?_)
      refine pp (k:=3) rfl (ML (hd:=(⟨some ⟨b2,0,none⟩,1,1⟩:Hd))) ?_
      refine bU (cw ?_)
      exact bx (C+1,a++(af (ee q1.Rune)),1,([a++(af (ee q1.Rune))]:List ab),(⟨some ⟨b2,0,none⟩,1,1⟩:Hd)) ⟨h,oA.own⟩ rfl (aT rfl) (aH [3,1] kr rfl)
     refine aC (ac 1 rfl (fX rfl dc rfl (cf Aj rfl dc rfl (show _=2 from rfl) (lT (i:=0) d rfl vZ rfl dc rfl rfl (ac 1 rfl ?_)))))
     refine MQ (i:=7) (kk:=(a++(af (ee q1.Rune)))) c2 an underlying37 kr rfl dc rfl rfl d rfl (fun aw a3=>?_)
     refine ac 1 rfl (fS rfl dc rfl rfl (fS rfl dc rfl rfl (ac 2 rfl (cv (ac 1 rfl (az ?_))))))
     refine bG rfl h (fun h=>?_) (fun h=>?_)
     ·
      refine ct (ac 1 rfl ?_)
      obtain⟨b6,h⟩:=bC h
      refine aO rfl (dN (r:=C+1) (ai _ b6)) (ac 3 rfl ?_)
      obtain⟨H,a8,h⟩:=bj h
      refine JQ ?_
      refine pp (k:=3) rfl (MM (hd:=aw) (xs:=H)) ?_
      refine bU (cw ?_)
      exact bx (C+1,a++(af (ee q1.Rune)),2,H,aw) ⟨h,(oA.map (a3 H a8))⟩ rfl (aT rfl) (aH [3,1] kr rfl)
     refine bH (cw ?_)
     exact bx (g,a++(af (ee q1.Rune)),D,c,M) ⟨h,J⟩ rfl (aT rfl) (aH [0,1] kr rfl)
    rintro⟨O,N,a2,z,ch⟩ ⟨h,a4⟩
    rw[bh] at h
    refine ct ?_
    obtain⟨b5,h⟩:=bC h
    refine aO rfl (dN (r:=C+1) (ai _ b5)) (ac 1 rfl (bU ?_))
    subst G
    exact ff (n1,O,N,a2,z,C+1,ch) ⟨h,a4⟩ (av _) rfl (aT rfl) (aH [0,1] kr rfl)
   refine dZ (cA (cA (ed ?_)))
   exact bx (g,D,c,M) ⟨h,J⟩ rfl (aT rfl) (aH [0,1] kr rfl)
 rintro⟨c3,dd,Q,c0⟩ ⟨h,T⟩
 rw[bk] at h
 refine cm (aC (ac 1 rfl (aO rfl lK (az ?_))))
 refine bG rfl h (fun h=>?_) (fun h=>?_)
 ·
  refine aC (ac 4 rfl (az (bI (bT ?_))))
  cases h
  exact FQ (rs:=[.tmp 4,.tmp 5]) c0 d (.inl rfl) results90 (.cons (.tmp rfl) (.cons (.tmp rfl) .nil)) rfl (aH [1,0] kr rfl) (MO T (i:=8) rfl)
 refine bH (cz ?_)
 obtain⟨j3,bb,h⟩:=cP h
 refine c8 (β:=(List ab)×Hd) 0 rfl (fun b=>j3 b.1=some r) (fun b=>[]) (fun b=>[(8,b.2.v)]) (fun b=>[bo b.2.v b.1,zse w0 K]) (fun cut=>?_) ?_
 ·
  refine cut (cm ?_)
  obtain⟨b0,h⟩:=bC h
  have a9:=h
  obtain⟨rfl,rfl⟩:=T.1 b0
  have h:=a9
  refine ct (ac 1 rfl ?_)
  obtain⟨q2,U,h⟩:=bj h
  refine gq l U cG jP rfl dc rfl rfl rfl (cf o7 rfl dc rfl (show _=(t+(0:Int).toNat)*4+2 from rfl) (kH (n:=t+(0:Int).toNat) (j:=2) (i:=6) (q:=q2) d rfl (by omega) fT rfl dc rfl (cI l U) rfl rfl ?_))
  obtain⟨W,h⟩:=bC h
  refine dq (v:=.int .i32 (ee q2.Rune)) (vs:=[.int .i32 q2.Rune]) rfl dc rfl rfl rfl yq (nP fun w=>wo q2.Rune w W.1 W.2) ?_
  obtain⟨I,a7,h⟩:=bj h
  refine dq (v:=.string I) (vs:=[.int .i32 (ee q2.Rune)]) rfl dc rfl rfl rfl E8 (GM a7) ?_
  refine ur an rfl dc rfl (fun b3=>?_)
  refine az (cy (nf (enc:=gR) (e:=9) (size:=1) ?_))
  refine fh (β:=Nat×(List ab)×Nat×Hd) (fun b=>zaI (fun _ _=>none) (zdJ j3 I) b.1 b.2.1 b.2.2.1=some r) (fun b=>[]) (fun b=>[(8,b.2.2.2.v),(74,zP b3)]) (fun b=>[bo b.2.2.2.v b.2.1,obj b3 (.stringIter I (lV I b.2.2.1)),zse w0 K]) (fun b=>b.1) (zbH,([]:List ab),0,ew) (by exact h) rfl (aT rfl) (aH [3,2,1] kr rfl) ?_
  rintro⟨n2,f,S,a1⟩ h
  cases n2 with
  | zero=>exact fa h
  | succ n2=>
   obtain⟨c4,F⟩:∃ag,ag=zaI (fun _ _=>none) (zdJ j3 I) n2:=⟨_,rfl⟩
   have h:zdJ j3 I c4 f S=some r:=by rw[F];exact h
   unfold zdJ at h
   refine aC ?_
   refine sL (b:=decide (S<(fe I.data.toList).length)) (fun E=>?_) (fun E=>?_)
   ·
    have h:=ng E h
    obtain⟨p1,a6,h⟩:=bj h
    refine ut (k:=1) (m:=S) (p:=p1) rfl dc rfl rfl a6 (fS rfl dc rfl rfl (az (cm (iH rfl (bH (cz (cy (aC (fS rfl dc rfl rfl (ac 1 rfl (bU ?_)))))))))))
    refine cz (ct (ac 2 rfl (jr rfl dc rfl (mf bg an) ?_)))
    refine gl (cs:=[.string (af (p1.r:Int))]) (te:=9) (ps:=[(0,.tmp 80)]) rfl dc rfl (fun _=>by kernel_rfl) (fun b4=>?_)
    obtain⟨bs,h⟩:=bC h
    refine iT (k:=0) (k2:=3) (ys:=[af (p1.r:Int)]) aD nV ga oc rfl dc rfl rfl rfl rfl rfl rfl bs (fun v2=>?_)
    refine jd (k:=0) rfl (fun a0 cc=>?_)
    subst cc
    refine ac 1 rfl (bU (cw ?_))
    subst F
    exact ff (n2,f++[af (p1.r:Int)],S+1,a0) h (av _) rfl (aT rfl) (aH [0,1,2] kr rfl)
   have h:=nh E h
   refine uu (k:=1) (m:=S) rfl dc rfl rfl (lF (of_decide_eq_false E)) (fS rfl dc rfl rfl (az (cm (eQ rfl (dZ (cA (cA (ed ?_))))))))
   exact bx (f,a1) h rfl (aT rfl) (aH [0,2] kr rfl)
 rintro⟨y,ao⟩ h
 rw[bb] at h
 refine aC (ac 3 rfl (az (bI ?_)))
 cases h
 exact FQ (rs:=[.tmp 4,.tmp 5]) ao d (.inl rfl) results90 (.cons (.tmp rfl) (.cons (.tmp rfl) .nil)) rfl (aH [1,0] kr rfl) (MP (e:=9) (hd:=ao) (xs:=y))
def xn (e1:db) (c0:Bool) (c1:List db):Option (Bool×(List db)) := cJ (fun (j1:(List db)→Option (Bool×(List db)))=> aU (c0) ( aU (decide ((0:Int)<(c1.length:Int))) ( aY (c1.length+1≤2147483648) <| j1 (c1++[(⟨1,0,aA,aA,0⟩:db)])
) ( j1 c1
)
) ( j1 c1
)
) (fun (l1:List db)=> aY (l1.length+1≤2147483648) <| some (false,l1++[e1])
)
theorem Ct {e1:db} {bc0:Nat} {c0:Bool} {bc1:Nat} {c1:List db} {c1_h0:Hd} {r:(Bool×(List db))} (h:xn e1 c0 c1=some r):Fn prog 87 [.agg (il e1).toArray,zP bc0,zP bc1] [cells bc0 [.bool c0] 4,cells bc1 [c1_h0.v] 87,jQ c1_h0.v c1] (fun v0:Hd=>.tuple #[]) (fun v0=>[cells bc0 [.bool r.1] 4,cells bc1 [v0.v] 87,jQ v0.v r.2]):=by
 unfold xn at h
 refine _root_.Go.Proofs.YtifpjbgnikjglaaGreatDoor.Fn.intro func87 rfl ntmps87 (by simp) ?_
 intro w0 K
 obtain⟨l,d,h⟩:=cP h
 refine c8 (β:=(List db)×Hd×Nat) 1 rfl (fun b=>l b.1=some r) (fun b=>[]) (fun b=>[(1,zP bc0),(2,zP bc1),(3,zP b.2.2)]) (fun b=>[cells bc1 [b.2.1.v] 87,jQ b.2.1.v b.1,cells bc0 [.bool c0] 4,cells b.2.2 (il e1) 91]) (fun cut=>?_) ?_
 ·
  refine aC ?_
  refine jy rfl dc rfl (fun j=>?_)
  refine az (cut (aC (bF (k:=0) nl rfl dc rfl rfl rfl (ac 1 rfl ?_))))
  refine dG (s:=5) rfl h (fun h=>?_) (fun h=>?_)
  ·
   refine bF (k:=1) ug rfl dc rfl rfl rfl (iA (k:=2) rfl dc rfl rfl bP (aO rfl lK (ac 1 rfl (az ?_))))
   refine bG rfl h (fun h=>?_) (fun h=>?_)
   ·
    refine ct (bF (k:=1) ug rfl dc rfl rfl rfl ?_)
    refine eU (v:=.agg #[zI 1,zI 0,.string aA,.string aA,zI 0]) (ps:=[(0,.const (zI 1))]) rfl dc rfl (fun _=>by kernel_rfl) ?_
    refine gl (cs:=[zI 1,zI 0,.string aA,.string aA,zI 0]) (te:=91) (ps:=[(0,.tmp 11)]) rfl dc rfl (fun _=>by kernel_rfl) (fun u=>?_)
    obtain⟨f,h⟩:=bC h
    refine iT (k:=2) (k2:=4) (ys:=[(⟨1,0,aA,aA,0⟩:db)]) bP EK qi Fp rfl dc rfl rfl rfl rfl rfl rfl f (fun p=>?_)
    refine jd (k:=2) rfl (fun c i=>?_)
    subst i
    refine ef (k:=1) (l':=[c.v]) EI rfl rfl rfl rfl rfl (fun _ _=>rfl) rfl ?_
    refine bU ?_
    exact bx (c1++[(⟨1,0,aA,aA,0⟩:db)],c,j) h rfl (aT rfl) (aH [1,2,0,3] kr rfl)
   refine bH ?_
   exact bx (c1,c1_h0,j) h rfl (aT rfl) (aH [1,2,0,3] kr rfl)
  refine ac 4 rfl (az (eQ rfl (bH ?_)))
  exact bx (c1,c1_h0,j) h rfl (aT rfl) (aH [1,2,0,3] kr rfl)
 rintro⟨q,m,b1⟩ h
 rw[d] at h
 refine aC ?_
 refine ef (k:=2) (l':=[.bool false]) kI rfl rfl rfl rfl rfl (fun _ _=>rfl) rfl ?_
 refine az (ct (bF (k:=0) ug rfl dc rfl rfl rfl (gM (k:=3) (cs:=(il e1)) oe rfl dc rfl rfl rfl rfl ?_)))
 refine gl (cs:=(il e1)) (te:=91) (ps:=[(0,.tmp 15)]) rfl dc rfl (fun _=>by kernel_rfl) (fun t=>?_)
 obtain⟨e,h⟩:=bC h
 refine iT (k:=1) (k2:=4) (ys:=[e1]) bP EK qi Fp rfl dc rfl rfl rfl rfl rfl rfl e (fun n=>?_)
 refine jd (k:=1) rfl (fun a g=>?_)
 subst g
 refine ef (k:=0) (l':=[a.v]) EI rfl rfl rfl rfl rfl (fun _ _=>rfl) rfl ?_
 refine bU ?_
 cases h
 exact eO (rs:=[]) a (.inr rfl) results87 .nil rfl (aH [2,0,1] kr rfl)
def zc8 (l3:List cX) (r4:(Int×(List ab))) (j3:Int→Option (List db)) (ag2:Int→Int→Option (List db)) (great4:Int) (x3:Int):Option (List db) := aU (decide ((x3:Int)<((fi l3 0 r4.1).length:Int))) ( cJ (fun (j4:Int→Option (List db))=> aX (zcy (fi l3 0 r4.1) x3) fun (q2:cX)=> aY (fN q2.Rune) <| aU (great q2.Rune) ( j4 1
) ( j4 great4
)
) (fun (great5:Int)=> aY (cR (x3+1)) <| ag2 great5 (x3+1)
)
) ( j3 great4
)
def zc7 (l3:List cX) (j5:Int→ab→Option (List db)) (ag3:Int→ab→Option (List db)) (n7:Int) (marks4:ab):Option (List db) := aU (decide ((n7:Int)<(l3.length:Int))) ( aX (zcy l3 n7) fun (q3:cX)=> aX (vf q3) fun (r5:Bool)=> aU (r5) ( aX (zcy l3 n7) fun (q4:cX)=> aY (marks4.size+(af q4.Rune).size≤9223372036854775807) <| aY (cR (n7+1)) <| ag3 (n7+1) (marks4++(af q4.Rune))
) ( j5 n7 marks4
)
) ( j5 n7 marks4
)
def zc6 (o1:cK) (r4:(Int×(List ab))) (great1:Int) (j6:(List db)→Bool→Option (List db)) (ag4:(List db)→Bool→Int→Option (List db)) (out9:List db) (space8:Bool) (x6:Int):Option (List db) := aU (decide ((x6:Int)<(r4.2.length:Int))) ( aX (zcy r4.2 x6) fun (q5:ab)=> aX (xn (⟨3,((zbL q5 o1.place).getD 0),aA,aA,great1⟩:db) space8 out9) fun (r6:(Bool×(List db)))=> aY (cR (x6+1)) <| ag4 r6.2 r6.1 (x6+1)
) ( j6 out9 space8
)
def zc5 (l3:List cX) (j7:Int→Option (List db)) (ag5:Int→Option (List db)) (n13:Int):Option (List db) := aU (decide ((n13:Int)<(l3.length:Int))) ( aX (zcy l3 n13) fun (q7:cX)=> aY (fN q7.Rune) <| aU (((gN q7.Broken q7.Rune):Int)==3) ( aY (cR (n13+1)) <| ag5 (n13+1)
) ( j7 n13
)
) ( j7 n13
)
def zc4 (j8:ab→Option (List db)) (ag6:ab→Option (List db)) (digits4:ab):Option (List db) := aU (decide ((0:Int)<(digits4.size:Int))) ( aX (kR digits4 0) fun (c1:Int)=> aU ((c1:Int)==48) ( aY (0≤(1:Int)∧(1:Int)≤(digits4.size:Int)∧((digits4.size:Int):Int)≤(digits4.size:Int)) <| ag6 (c7 digits4 1 (digits4.size:Int))
) ( j8 digits4
)
) ( j8 digits4
)
def zc9 (o1:cK) (j1:(List db)→Option (List db)) (r1:ab) (r2:Int) (ag1:(List db)→Bool→(List cX)→Option (List db)) (out4:List db) (space3:Bool) (l3:List cX):Option (List db) := aU (decide ((0:Int)<(l3.length:Int))) ( cJ (fun (j2:(List db)→Bool→Int→Option (List db))=> aX (zcy l3 0) fun (q1:cX)=> aY (fN q1.Rune) <| aU (((gN q1.Broken q1.Rune):Int)==1) ( aX (Cs o1 l3) fun (r4:(Int×(List ab)))=> cJ (fun (j3:Int→Option (List db))=> aY (0≤(0:Int)∧(0:Int)≤r4.1∧(r4.1:Int)≤(l3.length:Int)) <| zaI (fun _ _=>none) (zc8 l3 r4 j3) zbH 0 0
) (fun (great1:Int)=> cJ (fun (j5:Int→ab→Option (List db))=> zaI (fun _ _=>none) (zc7 l3 j5) zbH r4.1 (⟨#[]⟩:ab)
) (fun (n4:Int) (marks1:ab)=> cJ (fun (j6:(List db)→Bool→Option (List db))=> zaI (fun _ _ _=>none) (zc6 o1 r4 great1 j6) zbH out4 space3 0
) (fun (out6:List db) (space5:Bool)=> aY (cR ((out6.length:Int) - 1)) <| aX (zcy out6 ((out6.length:Int) - 1)) fun (q6:db)=> j2 (out6.set ((out6.length:Int) - 1:Int).toNat (⟨q6.sort,q6.place,q6.digits,marks1,q6.great⟩:db)) space5 n4
)
)
)
) ( aU (((gN q1.Broken q1.Rune):Int)==3) ( cJ (fun (j7:Int→Option (List db))=> zaI (fun _=>none) (zc5 l3 j7) zbH 1
) (fun (n10:Int)=> cJ (fun (j8:ab→Option (List db))=> aY (cR (q1.At+n10)) <| aY (0≤(q1.At:Int)∧(q1.At:Int)≤(q1.At+n10)∧(q1.At+n10:Int)≤((c7 r1 r2 (r1.size:Int)).size:Int)) <| zaI (fun _=>none) (zc4 j8) zbH (c7 (c7 r1 r2 (r1.size:Int)) q1.At (q1.At+n10))
) (fun (digits1:ab)=> aX (xn (⟨2,0,digits1,aA,0⟩:db) space3 out4) fun (r7:(Bool×(List db)))=> j2 r7.2 r7.1 n10
)
)
) ( cJ (fun (j9:Bool→Option (List db))=> aU (((gN q1.Broken q1.Rune):Int)==5) ( j9 (((gN q1.Broken q1.Rune):Int)==5)
) ( aU (((gN q1.Broken q1.Rune):Int)==4) ( j9 (((gN q1.Broken q1.Rune):Int)==4)
) ( j9 (((gN q1.Broken q1.Rune):Int)==6)
)
)
) (fun (x7:Bool)=> aU (x7) ( j2 out4 true 1
) ( aU (((gN q1.Broken q1.Rune):Int)==11) ( aX (kR (c7 r1 r2 (r1.size:Int)) q1.At) fun (c2:Int)=> aY (cR c2) <| aX (xn (⟨4,c2,aA,aA,0⟩:db) space3 out4) fun (r8:(Bool×(List db)))=> j2 r8.2 r8.1 1
) ( j2 out4 space3 1
)
)
)
)
)
) (fun (out5:List db) (space4:Bool) (n2:Int)=> aY (0≤(n2:Int)∧(n2:Int)≤(l3.length:Int)∧((l3.length:Int):Int)≤(l3.length:Int)) <| ag1 out5 space4 (fi l3 n2 (l3.length:Int))
)
) ( j1 out4
)
def xo (o1:cK) (t1:ab):Option (List db) := cJ (fun (j1:(List db)→Option (List db))=> aX (uX t1) fun (r1:ab)=> aX (Cq o1 r1) fun (r2:Int)=> aY (0≤(r2:Int)∧(r2:Int)≤(r1.size:Int)∧((r1.size:Int):Int)≤(r1.size:Int)) <| aX (Cr (c7 r1 r2 (r1.size:Int))) fun (r3:(List cX))=> zaI (fun _ _ _=>none) (zc9 o1 j1 r1 r2) zbH ([]:List db) false r3
) (fun (out1:List db)=> some out1
)
theorem Cu {bo1:Nat} {o1:cK} {o1_h0 o1_h1 o1_h2 o1_h3 o1_h4:Hd} {t1:ab} {r:(List db)} (h:xo o1 t1=some r):iv prog 43 [zP bo1,.string t1] [cells bo1 [o1_h0.v,.map (some (aV o1_h1)),.map (some (aV o1_h2)),.map (some (aV o1_h3)),o1_h4.v] 72,bo o1_h0.v o1.units,cq (fun n:ab=>aa n) (fun n:Int=>ax .i64 n) (aV o1_h1) o1.place,dh (aV o1_h2) o1.fors,cq (fun n:ab=>aa n) (fun n:Bool=>am n) (aV o1_h3) o1.skips,bo o1_h4.v o1.lines] [] (fun v0:Value=>v0) (fun v0=>[jQ v0 r]):=by
 unfold xo at h
 refine iv.intro func43 rfl ntmps43 (by simp) ?_
 intro w0 K p
 obtain⟨j1,e2,h⟩:=cP h
 refine c8 (β:=(List db)×Nat×Hd) 6 rfl (fun b=>j1 b.1=some r) (fun b=>[]) (fun b=>[(6,zP b.2.1)]) (fun b=>[cells b.2.1 [b.2.2.v] 87,jQ b.2.2.v b.1]) (fun cut=>?_) ?_
 ·
  refine aC (ac 1 rfl (cv (ac 1 rfl ?_)))
  obtain⟨u,eq,h⟩:=bj h
  refine dq (v:=.string u) (vs:=[.string t1]) rfl dc rfl rfl rfl Fc (G1 eq) (ac 1 rfl (cv (ac 3 rfl ?_)))
  obtain⟨E,en,h⟩:=bj h
  refine nj (v:=zI E) (vs:=[zP bo1,.string u]) p rfl dc rfl rfl rfl Ld (Pi (bo1:=bo1) (o1:=o1) (o1_h0:=o1_h0) (o1_h1:=o1_h1) (o1_h2:=o1_h2) (o1_h3:=o1_h3) (o1_h4:=o1_h4) en) (.ro 0 rfl (.ro 1 rfl (.ro 2 rfl (.ro 3 rfl (.ro 4 rfl (.ro 5 rfl .nil)))))) ?_
  obtain⟨e9,h⟩:=bC h
  refine iz rfl dc rfl rfl rfl (jZ (i:=E) (j:=(u.size:Int)) an (.inr rfl) (.inl ⟨rfl,rfl⟩) e9) (ac 1 rfl (cv ?_))
  refine eN J8 rfl dc (fun g=>?_)
  refine cv ?_
  refine eN ye rfl dc (fun l=>?_)
  refine ef (k:=1) (l':=[.bool false]) kI rfl rfl rfl rfl rfl (fun _ _=>rfl) rfl ?_
  refine cv (tF (x1:=[]) (x2:=[.tmp 7,.tmp 6]) rfl dc rfl rfl (ac 1 rfl (az (cut (aC (ac 1 rfl ?_))))))
  obtain⟨S,em,h⟩:=bj h
  refine fY (vs:=[.string (c7 u E (u.size:Int))]) rfl dc rfl rfl rfl Le (Pj em) ad ?_
  rintro v1
  refine jd (k:=2) rfl (fun C fd=>?_)
  subst fd
  refine ac 1 rfl ?_
  refine kG (k:=2) rfl (fun d6=>?_)
  refine MK (B:=ji nC 4 C.v 0 S) (As:=[om C.v S]) (aH [2] kr rfl) (fun _ _ h=>nU yu (aI.1 h)) p ?_
  intro f5 f7 b9 p
  replace p:Rd _ _ [cells bo1 [o1_h0.v,.map (some (aV o1_h1)),.map (some (aV o1_h2)),.map (some (aV o1_h3)),o1_h4.v] 72,bo o1_h0.v o1.units,cq (fun n:ab=>aa n) (fun n:Int=>ax .i64 n) (aV o1_h1) o1.place,dh (aV o1_h2) o1.fors,cq (fun n:ab=>aa n) (fun n:Bool=>am n) (aV o1_h3) o1.skips,bo o1_h4.v o1.lines,ji nC 4 C.v 0 S]:=p
  refine az (cy (nf (enc:=py) (e:=91) (size:=5) ?_))
  refine fh (β:=Nat×(List db)×Bool×(List cX)×Hd×Value×Nat) (fun b=>zaI (fun _ _ _=>none) (zc9 o1 j1 u E) b.1 b.2.1 b.2.2.1 b.2.2.2.1=some r∧Vw C.v S 4 b.2.2.2.2.2.2 b.2.2.2.2.2.1 b.2.2.2.1) (fun b=>[]) (fun b=>[(0,zP bo1),(5,.string (c7 u E (u.size:Int))),(6,zP g),(7,zP l),(8,.func (.func 87) #[] #[zP l,zP g]),(9,b.2.2.2.2.2.1)]) (fun b=>[cells g [b.2.2.2.2.1.v] 87,jQ b.2.2.2.2.1.v b.2.1,cells l [.bool b.2.2.1] 4]) (fun b=>b.1) (zbH,([]:List db),false,S,ew,C.v,0) ⟨h,d6⟩ rfl (aT rfl) (aH [0,3,1] kr rfl) ?_
  rintro⟨n1,c,a,O,d,N,F⟩ ⟨h,x⟩
  cases n1 with
  | zero=>exact fa h
  | succ n1=>
   obtain⟨f2,bs⟩:∃ag,ag=zaI (fun _ _ _=>none) (zc9 o1 j1 u E) n1:=⟨_,rfl⟩
   have h:zc9 o1 j1 u E f2 c a O=some r:=by rw[bs];exact h
   unfold zc9 at h
   refine cm (aC (ac 1 rfl (iO x rfl dc rfl cG (aO rfl lK (az ?_)))))
   refine bG rfl h (fun h=>?_) (fun h=>?_)
   ·
    refine bH (cz (cy ?_))
    obtain⟨j2,e0,h⟩:=cP h
    refine c8 (β:=(List db)×Bool×Int×Hd) 2 rfl (fun b=>j2 b.1 b.2.1 b.2.2.1=some r) (fun b=>[]) (fun b=>[(0,zP bo1),(5,.string (c7 u E (u.size:Int))),(6,zP g),(7,zP l),(8,.func (.func 87) #[] #[zP l,zP g]),(9,N),(11,zI b.2.2.1)]) (fun b=>[cells g [b.2.2.2.v] 87,jQ b.2.2.2.v b.1,cells l [.bool b.2.1] 4]) (fun cut=>?_) ?_
    ·
     refine aC (ac 1 rfl ?_)
     obtain⟨q1,c4,h⟩:=bj h
     refine gq x c4 cG jP rfl dc rfl rfl rfl (oz (m:=F+(0:Int).toNat) (j:=0) (i:=6) (q:=q1) (cs:=[zI q1.At,zI q1.Width,.int .i32 q1.Rune,.bool q1.Broken]) p rfl (by omega) kW rfl dc rfl (cI x c4) rfl rfl rfl ?_)
     refine eN og rfl dc (fun b4=>?_)
     refine eH (k:=3) (vs:=[zI q1.At,zI q1.Width,.int .i32 q1.Rune,.bool q1.Broken]) (l':=[zI q1.At,zI q1.Width,.int .i32 q1.Rune,.bool q1.Broken]) jP rfl rfl rfl rfl rfl (show _≤_ by simp) rfl rfl ?_
     refine cv (ac 1 rfl (az (cut (aC (gM (k:=3) (cs:=[zI q1.At,zI q1.Width,.int .i32 q1.Rune,.bool q1.Broken]) kW rfl dc rfl rfl rfl rfl ?_)))))
     obtain⟨ds,h⟩:=bC h
     refine dq (v:=zI (gN q1.Broken q1.Rune)) (vs:=[.agg #[zI q1.At,zI q1.Width,.int .i32 q1.Rune,.bool q1.Broken]]) rfl dc rfl rfl rfl uj (uv q1.At q1.Width q1.Rune q1.Broken ds.1 ds.2) (az (cy (aC (aO rfl eE (ac 1 rfl (az ?_))))))
     refine bG rfl h (fun h=>?_) (fun h=>?_)
     ·
      refine aC (ac 1 rfl (cv (ac 2 rfl ?_)))
      have p:Rd _ _ [cells bo1 [o1_h0.v,.map (some (aV o1_h1)),.map (some (aV o1_h2)),.map (some (aV o1_h3)),o1_h4.v] 72,bo o1_h0.v o1.units,cq (fun n:ab=>aa n) (fun n:Int=>ax .i64 n) (aV o1_h1) o1.place,dh (aV o1_h2) o1.fors,cq (fun n:ab=>aa n) (fun n:Bool=>am n) (aV o1_h3) o1.skips,bo o1_h4.v o1.lines,ji nC 4 C.v 0 S,ji nC 4 C.v F S]:=p.up0 (i:=6) rfl
      obtain⟨L,eg,h⟩:=bj h
      refine MJ (vs:=[zP bo1,N]) p rfl dc rfl rfl rfl Lg (Pk (bo1:=bo1) (o1:=o1) (o1_h0:=o1_h0) (o1_h1:=o1_h1) (o1_h2:=o1_h2) (o1_h3:=o1_h3) (o1_h4:=o1_h4) x eg) (.ro 0 rfl (.ro 1 rfl (.ro 2 rfl (.ro 3 rfl (.ro 4 rfl (.ro 5 rfl (.ro 7 rfl .nil))))))) ?_
      intro J f4 f6 b8 p
      replace p:Rd _ _ [cells bo1 [o1_h0.v,.map (some (aV o1_h1)),.map (some (aV o1_h2)),.map (some (aV o1_h3)),o1_h4.v] 72,bo o1_h0.v o1.units,cq (fun n:ab=>aa n) (fun n:Int=>ax .i64 n) (aV o1_h1) o1.place,dh (aV o1_h2) o1.fors,cq (fun n:ab=>aa n) (fun n:Bool=>am n) (aV o1_h3) o1.skips,bo o1_h4.v o1.lines,ji nC 4 C.v 0 S,ji nC 4 C.v F S,mo gR 1 J L.2]:=p
      obtain⟨d5,k1,L1,b6,p⟩:=p.openSl (i:=8) rfl
      replace p:Rd _ _ [cells bo1 [o1_h0.v,.map (some (aV o1_h1)),.map (some (aV o1_h2)),.map (some (aV o1_h3)),o1_h4.v] 72,bo o1_h0.v o1.units,cq (fun n:ab=>aa n) (fun n:Int=>ax .i64 n) (aV o1_h1) o1.place,dh (aV o1_h2) o1.fors,cq (fun n:ab=>aa n) (fun n:Bool=>am n) (aV o1_h3) o1.skips,bo o1_h4.v o1.lines,ji nC 4 C.v 0 S,ji nC 4 C.v F S,mo gR 1 J L.2,ji gR 1 d5 k1 L1]:=p
      refine ac 1 rfl (fS rfl dc rfl rfl (fS rfl dc rfl rfl (ac 2 rfl (az ?_))))
      obtain⟨j3,eM,h⟩:=cP h
      refine c8 (β:=Int) 1 rfl (fun b=>j3 b=some r) (fun b=>[]) (fun b=>[(0,zP bo1),(5,.string (c7 u E (u.size:Int))),(6,zP g),(7,zP l),(8,.func (.func 87) #[] #[zP l,zP g]),(9,N),(11,zI L.1),(12,J.v),(13,zI b)]) (fun b=>[cells g [d.v] 87,jQ d.v c,cells l [.bool a] 4]) (fun cut=>?_) ?_
      ·
       refine aC (ac 1 rfl (az (cut (aC (ac 2 rfl ?_)))))
       obtain⟨e8,h⟩:=bC h
       obtain⟨v5,b0,d9⟩:=oZ (lo:=none) (hi:=some (zI L.1)) x cG jP (.inl ⟨rfl,rfl⟩) (.inr rfl) e8
       refine iz rfl dc rfl rfl rfl d9 (iO b0 rfl dc rfl cG (ac 1 rfl (az (cy ?_))))
       refine fh (β:=Nat×Int×Int) (fun b=>zaI (fun _ _=>none) (zc8 O L j3) b.1 b.2.1 b.2.2=some r) (fun b=>[]) (fun b=>[(0,zP bo1),(5,.string (c7 u E (u.size:Int))),(6,zP g),(7,zP l),(8,.func (.func 87) #[] #[zP l,zP g]),(9,N),(11,zI L.1),(12,J.v),(13,zI b.2.1),(48,v5),(49,zI ((fi O 0 L.1).length:Int)),(50,zI b.2.2)]) (fun b=>[cells g [d.v] 87,jQ d.v c,cells l [.bool a] 4]) (fun b=>b.1) (zbH,0,0) h rfl (aT rfl) (aH [0,1,2] kr rfl) ?_
       rintro⟨n3,H,x3⟩ h
       cases n3 with
       | zero=>exact fa h
       | succ n3=>
        obtain⟨f1,bk⟩:∃ag,ag=zaI (fun _ _=>none) (zc8 O L j3) n3:=⟨_,rfl⟩
        have h:zc8 O L j3 f1 H x3=some r:=by rw[bk];exact h
        unfold zc8 at h
        refine aC (aO rfl ei (az (cm ?_)))
        refine bG rfl h (fun h=>?_) (fun h=>?_)
        ·
         refine bH (cz ?_)
         obtain⟨j4,eL,h⟩:=cP h
         refine c8 (β:=Int) 0 rfl (fun b=>j4 b=some r) (fun b=>[]) (fun b=>[(0,zP bo1),(5,.string (c7 u E (u.size:Int))),(6,zP g),(7,zP l),(8,.func (.func 87) #[] #[zP l,zP g]),(9,N),(11,zI L.1),(12,J.v),(13,zI b),(48,v5),(49,zI ((fi O 0 L.1).length:Int)),(50,zI x3)]) (fun b=>[cells g [d.v] 87,jQ d.v c,cells l [.bool a] 4]) (fun cut=>?_) ?_
         ·
          refine cut (cy (aC ?_))
          obtain⟨q2,c3,h⟩:=bj h
          refine gq b0 c3 cG jP rfl dc rfl rfl rfl (oz (m:=F+(0:Int).toNat+(x3:Int).toNat) (j:=0) (i:=6) (q:=q2) (cs:=[zI q2.At,zI q2.Width,.int .i32 q2.Rune,.bool q2.Broken]) p rfl (by omega) kW rfl dc rfl (cI b0 c3) rfl rfl rfl ?_)
          refine eN og rfl dc (fun b5=>?_)
          refine eH (k:=3) (vs:=[zI q2.At,zI q2.Width,.int .i32 q2.Rune,.bool q2.Broken]) (l':=[zI q2.At,zI q2.Width,.int .i32 q2.Rune,.bool q2.Broken]) jP rfl rfl rfl rfl rfl (show _≤_ by simp) rfl rfl ?_
          refine cv (cf o7 rfl dc rfl (show _=2 from rfl) (bF (k:=3) fT rfl dc rfl rfl rfl ?_))
          obtain⟨dj,h⟩:=bC h
          refine dq (v:=.bool (great q2.Rune)) (vs:=[.int .i32 q2.Rune]) rfl dc rfl rfl rfl Lh (nP fun w=>wn q2.Rune w dj.1 dj.2) ?_
          refine az ?_
          refine bG rfl h (fun h=>?_) (fun h=>?_)
          ·
           refine ct (ac 1 rfl (bU (cw ?_)))
           exact bx 1 h rfl (aT rfl) (aH [0,1,2] kr rfl)
          refine bH (cw ?_)
          exact bx H h rfl (aT rfl) (aH [0,1,2] kr rfl)
         rintro a2 h
         rw[eL] at h
         refine ct ?_
         obtain⟨e7,h⟩:=bC h
         refine aO rfl (dN (r:=x3+1) (ai _ e7)) (ac 1 rfl (bU ?_))
         subst bk
         exact ff (n3,a2,x3+1) h (av _) rfl (aT rfl) (aH [0,1,2] kr rfl)
        refine dZ (cA (cA (ed ?_)))
        exact bx H h rfl (aT rfl) (aH [0,1,2] kr rfl)
      rintro f h
      rw[eM] at h
      obtain⟨j5,ez,h⟩:=cP h
      refine c8 (β:=Int×ab) 1 rfl (fun b=>j5 b.1 b.2=some r) (fun b=>[]) (fun b=>[(0,zP bo1),(5,.string (c7 u E (u.size:Int))),(6,zP g),(7,zP l),(8,.func (.func 87) #[] #[zP l,zP g]),(9,N),(11,zI b.1),(12,J.v),(13,zI f),(16,.string b.2)]) (fun b=>[cells g [d.v] 87,jQ d.v c,cells l [.bool a] 4]) (fun cut=>?_) ?_
      ·
       refine aC (ac 1 rfl (az (cut (cy ?_))))
       refine fh (β:=Nat×Int×ab) (fun b=>zaI (fun _ _=>none) (zc7 O j5) b.1 b.2.1 b.2.2=some r) (fun b=>[]) (fun b=>[(0,zP bo1),(5,.string (c7 u E (u.size:Int))),(6,zP g),(7,zP l),(8,.func (.func 87) #[] #[zP l,zP g]),(9,N),(11,zI b.2.1),(12,J.v),(13,zI f),(16,.string b.2.2)]) (fun b=>[cells g [d.v] 87,jQ d.v c,cells l [.bool a] 4]) (fun b=>b.1) (zbH,L.1,(⟨#[]⟩:ab)) (by exact h) rfl (aT rfl) (aH [0,1,2] kr rfl) ?_
       rintro⟨n8,n7,y⟩ h
       cases n8 with
       | zero=>exact fa h
       | succ n8=>
        obtain⟨f0,bh⟩:∃ag,ag=zaI (fun _ _=>none) (zc7 O j5) n8:=⟨_,rfl⟩
        have h:zc7 O j5 f0 n7 y=some r:=by rw[bh];exact h
        unfold zc7 at h
        refine cm (aC (ac 2 rfl (iO x rfl dc rfl cG (aO rfl ei (ac 1 rfl ?_)))))
        refine dG (s:=62) rfl h (fun h=>?_) (fun h=>?_)
        ·
         refine ac 2 rfl ?_
         obtain⟨Y,ch,h⟩:=bj h
         refine gq x ch cG jP rfl dc rfl rfl rfl (oz (m:=F+(n7:Int).toNat) (j:=0) (i:=6) (q:=Y) (cs:=[zI Y.At,zI Y.Width,.int .i32 Y.Rune,.bool Y.Broken]) p rfl (by omega) kW rfl dc rfl (cI x ch) rfl rfl rfl ?_)
         obtain⟨r5,ec,h⟩:=bj h
         refine dq (v:=.bool r5) (vs:=[.agg #[zI Y.At,zI Y.Width,.int .i32 Y.Rune,.bool Y.Broken]]) rfl dc rfl rfl rfl Fe (HC (p1:=Y) ec) (ac 1 rfl (az ?_))
         refine bG rfl h (fun h=>?_) (fun h=>?_)
         ·
          refine bH (cz (cy (aC (ac 3 rfl ?_))))
          obtain⟨q4,cc,h⟩:=bj h
          refine gq x cc cG jP rfl dc rfl rfl rfl (cf o7 rfl dc rfl (show _=(F+(n7:Int).toNat)*4+2 from rfl) (kH (n:=F+(n7:Int).toNat) (j:=2) (i:=6) (q:=q4) p rfl (by omega) fT rfl dc rfl (cI x cc) rfl rfl (jr rfl dc rfl (mf bg an) ?_)))
          obtain⟨e6,h⟩:=bC h
          refine aO rfl (kQ e6) (ac 1 rfl (az (ct (ac 1 rfl ?_))))
          obtain⟨e5,h⟩:=bC h
          refine aO rfl (dN (r:=n7+1) (ai _ e5)) (ac 1 rfl (bU (cw ?_)))
          subst bh
          exact ff (n8,n7+1,y++(af q4.Rune)) h (av _) rfl (aT rfl) (aH [0,1,2] kr rfl)
         refine dZ (cA (cA (ed ?_)))
         exact bx (n7,y) h rfl (aT rfl) (aH [0,1,2] kr rfl)
        refine ac 6 rfl (az (eQ rfl (dZ (cA (cA (ed ?_))))))
        exact bx (n7,y) h rfl (aT rfl) (aH [0,1,2] kr rfl)
      rintro⟨n4,z⟩ h
      rw[ez] at h
      obtain⟨j6,ey,h⟩:=cP h
      refine c8 (β:=(List db)×Bool×Hd) 0 rfl (fun b=>j6 b.1 b.2.1=some r) (fun b=>[]) (fun b=>[(0,zP bo1),(5,.string (c7 u E (u.size:Int))),(6,zP g),(7,zP l),(8,.func (.func 87) #[] #[zP l,zP g]),(9,N),(11,zI n4),(16,.string z)]) (fun b=>[cells g [b.2.2.v] 87,jQ b.2.2.v b.1,cells l [.bool b.2.1] 4]) (fun cut=>?_) ?_
      ·
       refine cut (aC (ac 1 rfl (iO b6 rfl dc rfl aD (ac 1 rfl (az (cy ?_))))))
       refine fh (β:=Nat×(List db)×Bool×Int×Hd) (fun b=>zaI (fun _ _ _=>none) (zc6 o1 L f j6) b.1 b.2.1 b.2.2.1 b.2.2.2.1=some r) (fun b=>[]) (fun b=>[(0,zP bo1),(5,.string (c7 u E (u.size:Int))),(6,zP g),(7,zP l),(8,.func (.func 87) #[] #[zP l,zP g]),(9,N),(11,zI n4),(13,zI f),(16,.string z),(79,J.v),(80,zI (L.2.length:Int)),(81,zI b.2.2.2.1)]) (fun b=>[cells g [b.2.2.2.2.v] 87,jQ b.2.2.2.2.v b.2.1,cells l [.bool b.2.2.1] 4]) (fun b=>b.1) (zbH,c,a,0,d) h rfl (aT rfl) (aH [0,1,2] kr rfl) ?_
       rintro⟨n9,T,G,x6,a7⟩ h
       cases n9 with
       | zero=>exact fa h
       | succ n9=>
        obtain⟨fz,bb⟩:∃ag,ag=zaI (fun _ _ _=>none) (zc6 o1 L f j6) n9:=⟨_,rfl⟩
        have h:zc6 o1 L f j6 fz T G x6=some r:=by rw[bb];exact h
        unfold zc6 at h
        refine aC (aO rfl ei (az (cm ?_)))
        refine bG rfl h (fun h=>?_) (fun h=>?_)
        ·
         refine bH (cz (cm (cy (aC ?_))))
         obtain⟨q5,a5,h⟩:=bj h
         refine gq b6 a5 aD gm rfl dc rfl rfl rfl (kH (n:=k1+(x6:Int).toNat) (j:=0) (i:=9) (q:=q5) p rfl (by omega) ea rfl dc rfl (cI b6 a5) rfl rfl (ac 1 rfl (az (ct (ac 2 rfl (fX rfl dc rfl (cf ue rfl dc rfl (show _=1 from rfl) (lT (i:=0) p rfl ud rfl dc rfl rfl (ac 1 rfl ?_)))))))))
         refine qP (k:=2) (ek:=(fun n:ab=>aa n)) (ev':=(fun n:Int=>ax .i64 n)) (kk:=q5) (z0:=0) (mn an) mN kr rfl dc rfl rfl p rfl ?_
         refine ac 1 rfl ?_
         refine eU (v:=.agg #[zI 3,zI ((zbL q5 o1.place).getD 0),.string aA,.string aA,zI f]) (ps:=[(0,.const (zI 3)),(1,.tmp 91),(4,.tmp 92)]) rfl dc rfl (fun _=>by kernel_rfl) ?_
         obtain⟨r6,di,h⟩:=bj h
         refine fY (vs:=[.agg #[zI 3,zI ((zbL q5 o1.place).getD 0),.string aA,.string aA,zI f]]) rfl dc rfl rfl rfl AK (Ct (e1:=(⟨3,((zbL q5 o1.place).getD 0),aA,aA,f⟩:db)) (bc0:=l) (c0:=G) (bc1:=g) (c1:=T) (c1_h0:=a7) di) (aH [2,0,1] kr rfl) ?_
         rintro W
         refine mj (L':=[cells g [W.v] 87,jQ W.v r6.2,cells l [.bool r6.1] 4]) (aH [4,5,3] kr rfl) (bU (cw (cz (ct ?_))))
         obtain⟨e4,h⟩:=bC h
         refine aO rfl (dN (r:=x6+1) (ai _ e4)) (ac 1 rfl (bU ?_))
         subst bb
         exact ff (n9,r6.2,r6.1,x6+1,W) h (av _) rfl (aT rfl) (aH [0,1,2] kr rfl)
        refine dZ (cA (cA (ed ?_)))
        exact bx (T,G,a7) h rfl (aT rfl) (aH [0,1,2] kr rfl)
      rintro⟨I,ao,fk⟩ h
      rw[ey] at h
      refine ct (bF (k:=0) ug rfl dc rfl rfl rfl (bF (k:=0) ug rfl dc rfl rfl rfl (iA (k:=1) rfl dc rfl rfl bP ?_)))
      obtain⟨e3,h⟩:=bC h
      refine aO rfl (mD (r:=(I.length:Int) - 1) (ai _ e3)) (ac 1 rfl ?_)
      obtain⟨q6,a4,h⟩:=bj h
      refine fO (k:=1) a4 bP nX rfl dc rfl rfl rfl rfl (cf Am rfl dc rfl (show _=(((I.length:Int) - 1:Int).toNat)*5+3 from rfl) ?_)
      refine p4 (i:=((I.length:Int) - 1:Int).toNat) (j:=3) (k:=1) (q:=q6) (q':=(⟨q6.sort,q6.place,q6.digits,z,q6.great⟩:db)) gm qi rfl rfl rfl rfl (fb a4) rfl dc rfl (fun _ _=>rfl) ?_
      refine bU (cw (FSz b8 ?_))
      exact bx (I.set ((I.length:Int) - 1:Int).toNat (⟨q6.sort,q6.place,q6.digits,z,q6.great⟩:db),ao,n4,fk) h rfl (aT rfl) (aH [0,1,2] kr rfl)
     refine aC (aO rfl eE (ac 1 rfl (az ?_)))
     refine bG rfl h (fun h=>?_) (fun h=>?_)
     ·
      obtain⟨j7,ex,h⟩:=cP h
      refine c8 (β:=Int) 0 rfl (fun b=>j7 b=some r) (fun b=>[]) (fun b=>[(0,zP bo1),(5,.string (c7 u E (u.size:Int))),(6,zP g),(7,zP l),(8,.func (.func 87) #[] #[zP l,zP g]),(9,N),(10,zP b4),(11,zI b)]) (fun b=>[cells g [d.v] 87,jQ d.v c,cells l [.bool a] 4,cells b4 [zI q1.At,zI q1.Width,.int .i32 q1.Rune,.bool q1.Broken] 132]) (fun cut=>?_) ?_
      ·
       refine cut (cy ?_)
       refine fh (β:=Nat×Int) (fun b=>zaI (fun _=>none) (zc5 O j7) b.1 b.2=some r) (fun b=>[]) (fun b=>[(0,zP bo1),(5,.string (c7 u E (u.size:Int))),(6,zP g),(7,zP l),(8,.func (.func 87) #[] #[zP l,zP g]),(9,N),(10,zP b4),(11,zI b.2)]) (fun b=>[cells g [d.v] 87,jQ d.v c,cells l [.bool a] 4,cells b4 [zI q1.At,zI q1.Width,.int .i32 q1.Rune,.bool q1.Broken] 132]) (fun b=>b.1) (zbH,1) h rfl (aT rfl) (aH [0,1,2,3] kr rfl) ?_
       rintro⟨a1,P⟩ h
       cases a1 with
       | zero=>exact fa h
       | succ a1=>
        obtain⟨ft,a9⟩:∃ag,ag=zaI (fun _=>none) (zc5 O j7) a1:=⟨_,rfl⟩
        have h:zc5 O j7 ft P=some r:=by rw[a9];exact h
        unfold zc5 at h
        refine cm (aC (ac 2 rfl (iO x rfl dc rfl cG (aO rfl ei (ac 1 rfl ?_)))))
        refine dG (s:=109) rfl h (fun h=>?_) (fun h=>?_)
        ·
         refine ac 2 rfl ?_
         obtain⟨M,a3,h⟩:=bj h
         refine gq x a3 cG jP rfl dc rfl rfl rfl (oz (m:=F+(P:Int).toNat) (j:=0) (i:=6) (q:=M) (cs:=[zI M.At,zI M.Width,.int .i32 M.Rune,.bool M.Broken]) p rfl (by omega) kW rfl dc rfl (cI x a3) rfl rfl rfl ?_)
         obtain⟨a6,h⟩:=bC h
         refine dq (v:=zI (gN M.Broken M.Rune)) (vs:=[.agg #[zI M.At,zI M.Width,.int .i32 M.Rune,.bool M.Broken]]) rfl dc rfl rfl rfl uj (uv M.At M.Width M.Rune M.Broken a6.1 a6.2) (aO rfl eE (ac 1 rfl (az ?_)))
         refine bG rfl h (fun h=>?_) (fun h=>?_)
         ·
          refine bH (cz (cy (ct (ac 1 rfl ?_))))
          obtain⟨d4,h⟩:=bC h
          refine aO rfl (dN (r:=P+1) (ai _ d4)) (ac 1 rfl (bU (cw ?_)))
          subst a9
          exact ff (a1,P+1) h (av _) rfl (aT rfl) (aH [0,1,2,3] kr rfl)
         refine dZ (cA (cA (ed ?_)))
         exact bx P h rfl (aT rfl) (aH [0,1,2,3] kr rfl)
        refine ac 7 rfl (az (eQ rfl (dZ (cA (cA (ed ?_))))))
        exact bx P h rfl (aT rfl) (aH [0,1,2,3] kr rfl)
      rintro Q h
      rw[ex] at h
      obtain⟨j8,et,h⟩:=cP h
      refine c8 (β:=ab) 1 rfl (fun b=>j8 b=some r) (fun b=>[]) (fun b=>[(0,zP bo1),(5,.string (c7 u E (u.size:Int))),(6,zP g),(7,zP l),(8,.func (.func 87) #[] #[zP l,zP g]),(9,N),(11,zI Q),(19,.string b)]) (fun b=>[cells g [d.v] 87,jQ d.v c,cells l [.bool a] 4]) (fun cut=>?_) ?_
      ·
       refine aC (ac 1 rfl (cf lh rfl dc rfl (show _=0 from rfl) (bF (k:=3) dQ rfl dc rfl rfl rfl (cf lh rfl dc rfl (show _=0 from rfl) (bF (k:=3) dQ rfl dc rfl rfl rfl (ac 1 rfl ?_))))))
       obtain⟨d3,h⟩:=bC h
       refine aO rfl (dN (r:=q1.At+Q) (ai _ d3)) ?_
       obtain⟨d2,h⟩:=bC h
       refine iz rfl dc rfl rfl rfl (jZ (i:=q1.At) (j:=q1.At+Q) an (.inr rfl) (.inr rfl) d2) (ac 1 rfl (az (cut (cy ?_))))
       refine fh (β:=Nat×ab) (fun b=>zaI (fun _=>none) (zc4 j8) b.1 b.2=some r) (fun b=>[]) (fun b=>[(0,zP bo1),(5,.string (c7 u E (u.size:Int))),(6,zP g),(7,zP l),(8,.func (.func 87) #[] #[zP l,zP g]),(9,N),(11,zI Q),(19,.string b.2)]) (fun b=>[cells g [d.v] 87,jQ d.v c,cells l [.bool a] 4]) (fun b=>b.1) (zbH,c7 (c7 u E (u.size:Int)) q1.At (q1.At+Q)) h rfl (aT rfl) (aH [0,1,2] kr rfl) ?_
       rintro⟨a0,t⟩ h
       cases a0 with
       | zero=>exact fa h
       | succ a0=>
        obtain⟨fs,a8⟩:∃ag,ag=zaI (fun _=>none) (zc4 j8) a0:=⟨_,rfl⟩
        have h:zc4 j8 fs t=some r:=by rw[a8];exact h
        unfold zc4 at h
        refine cm (aC (ac 1 rfl (ly rfl dc rfl an (aO rfl lK (ac 1 rfl ?_)))))
        refine dG (s:=130) rfl h (fun h=>?_) (fun h=>?_)
        ·
         refine ac 1 rfl ?_
         obtain⟨c1,dg,h⟩:=bj h
         refine ny rfl dc rfl rfl (p6 an dg) (aO rfl eE (ac 1 rfl (az ?_)))
         refine bG rfl h (fun h=>?_) (fun h=>?_)
         ·
          refine bH (cz (cy (ct (ac 1 rfl ?_))))
          obtain⟨d1,h⟩:=bC h
          refine iz rfl dc rfl rfl rfl (jZ (i:=1) (j:=(t.size:Int)) an (.inr rfl) (.inl ⟨rfl,rfl⟩) d1) (ac 1 rfl (bU (cw ?_)))
          subst a8
          exact ff (a0,c7 t 1 (t.size:Int)) h (av _) rfl (aT rfl) (aH [0,1,2] kr rfl)
         refine dZ (cA (cA (ed ?_)))
         exact bx t h rfl (aT rfl) (aH [0,1,2] kr rfl)
        refine ac 4 rfl (az (eQ rfl (dZ (cA (cA (ed ?_))))))
        exact bx t h rfl (aT rfl) (aH [0,1,2] kr rfl)
      rintro D h
      rw[et] at h
      refine ct (ac 2 rfl ?_)
      refine eU (v:=.agg #[zI 2,zI 0,.string D,.string aA,zI 0]) (ps:=[(0,.const (zI 2)),(2,.tmp 138)]) rfl dc rfl (fun _=>by kernel_rfl) ?_
      obtain⟨r7,df,h⟩:=bj h
      refine fY (vs:=[.agg #[zI 2,zI 0,.string D,.string aA,zI 0]]) rfl dc rfl rfl rfl AK (Ct (e1:=(⟨2,0,D,aA,0⟩:db)) (bc0:=l) (c0:=a) (bc1:=g) (c1:=c) (c1_h0:=d) df) (aH [2,0,1] kr rfl) ?_
      rintro V
      refine mj (L':=[cells g [V.v] 87,jQ V.v r7.2,cells l [.bool r7.1] 4]) (aH [4,5,3] kr rfl) (bU (cw ?_))
      exact bx (r7.2,r7.1,Q,V) h rfl (aT rfl) (aH [0,1,2] kr rfl)
     obtain⟨j9,es,h⟩:=cP h
     refine c8 (β:=Bool) 0 rfl (fun b=>j9 b=some r) (fun b=>[]) (fun b=>[(0,zP bo1),(5,.string (c7 u E (u.size:Int))),(6,zP g),(7,zP l),(8,.func (.func 87) #[] #[zP l,zP g]),(9,N),(10,zP b4),(11,zI 1),(37,zI (gN q1.Broken q1.Rune)),(141,.bool b)]) (fun b=>[cells g [d.v] 87,jQ d.v c,cells l [.bool a] 4,cells b4 [zI q1.At,zI q1.Width,.int .i32 q1.Rune,.bool q1.Broken] 132]) (fun cut=>?_) ?_
     ·
      refine cut (aC (aO rfl eE (ac 1 rfl (az ?_))))
      refine bG rfl h (fun h=>?_) (fun h=>?_)
      ·
       refine bH ?_
       exact bx (((gN q1.Broken q1.Rune):Int)==5) h rfl (aT rfl) (aH [0,1,2,3] kr rfl)
      refine aC (aO rfl eE (ac 1 rfl (az ?_)))
      refine bG rfl h (fun h=>?_) (fun h=>?_)
      ·
       refine bH ?_
       exact bx (((gN q1.Broken q1.Rune):Int)==4) h rfl (aT rfl) (aH [0,1,2,3] kr rfl)
      refine ct (aO rfl eE (ac 1 rfl (bU ?_)))
      exact bx (((gN q1.Broken q1.Rune):Int)==6) h rfl (aT rfl) (aH [0,1,2,3] kr rfl)
     rintro x7 h
     rw[es] at h
     refine bG rfl h (fun h=>?_) (fun h=>?_)
     ·
      refine ct ?_
      refine ef (k:=2) (l':=[.bool true]) kI rfl rfl rfl rfl rfl (fun _ _=>rfl) rfl ?_
      refine bU (cw ?_)
      exact bx (c,true,1,d) h rfl (aT rfl) (aH [0,1,2] kr rfl)
     refine aC (aO rfl eE (ac 1 rfl (az ?_)))
     refine bG rfl h (fun h=>?_) (fun h=>?_)
     ·
      refine ct (ac 2 rfl (cf lh rfl dc rfl (show _=0 from rfl) (bF (k:=3) dQ rfl dc rfl rfl rfl ?_)))
      obtain⟨c2,dd,h⟩:=bj h
      refine ny rfl dc rfl rfl (p6 an dd) ?_
      obtain⟨d0,h⟩:=bC h
      refine jr rfl dc rfl (vF (r:=c2) underlying5 underlying3 (ai _ d0)) ?_
      refine eU (v:=.agg #[zI 4,zI c2,.string aA,.string aA,zI 0]) (ps:=[(0,.const (zI 4)),(1,.tmp 152)]) rfl dc rfl (fun _=>by kernel_rfl) ?_
      obtain⟨r8,c5,h⟩:=bj h
      refine fY (vs:=[.agg #[zI 4,zI c2,.string aA,.string aA,zI 0]]) rfl dc rfl rfl rfl AK (Ct (e1:=(⟨4,c2,aA,aA,0⟩:db)) (bc0:=l) (c0:=a) (bc1:=g) (c1:=c) (c1_h0:=d) c5) (aH [2,0,1] kr rfl) ?_
      rintro U
      refine mj (L':=[cells g [U.v] 87,jQ U.v r8.2,cells l [.bool r8.1] 4,cells b4 [zI q1.At,zI q1.Width,.int .i32 q1.Rune,.bool q1.Broken] 132]) (aH [5,6,4,3] kr rfl) (bU (cw ?_))
      exact bx (r8.2,r8.1,1,U) h rfl (aT rfl) (aH [0,1,2] kr rfl)
     refine bH (cw ?_)
     exact bx (c,a,1,d) h rfl (aT rfl) (aH [0,1,2] kr rfl)
    rintro⟨b7,aw,n2,fn⟩ h
    rw[e0] at h
    refine ct (ac 2 rfl ?_)
    obtain⟨dT,h⟩:=bC h
    obtain⟨v6,d7,d8⟩:=oZ (lo:=some (zI n2)) (hi:=none) x cG jP (.inr rfl) (.inl ⟨rfl,rfl⟩) dT
    refine iz rfl dc rfl rfl rfl d8 (ac 1 rfl (bU (cw ?_)))
    subst bs
    exact ff (n1,b7,aw,fi O n2 (O.length:Int),fn,v6,F+(n2:Int).toNat) ⟨h,d7⟩ (av _) rfl (aT rfl) (aH [0,1,2] kr rfl)
   refine dZ (cA (cA (ed (FSz b9 ?_))))
   exact bx (c,g,d) h rfl (aT rfl) (aH [0,1] kr rfl)
 rintro⟨f3,b1,fo⟩ h
 rw[e2] at h
 refine aC (bF (k:=0) ug rfl dc rfl rfl rfl (ac 1 rfl (az (bI ?_))))
 cases h
 exact eO (rs:=[.tmp 4]) fo.v (.inl rfl) results43 (.cons (.tmp rfl) .nil) rfl (aH [1] kr rfl)
abbrev Tk:=Int×ab
def tkT (t:dV):Tk:=(if t.broken then -1 else (t.r:Int),⟨t.bs.toArray⟩)
def kT (x:Tk):Int:=if x.1<0 then 11 else kind x.1
def kK (x:Tk):Bool:=dw x.1
def pb (x:Tk):Bool:=eC x.1
def HF (x:Tk):Bool:=decide (48≤x.1∧x.1≤57)
def mX (l:List Tk):ab:=J (·.2) l
abbrev El:=db
structure zc where
 p:ab→Option Int
 f:ab→Option (List ab)
 s:ab→Bool
def oI (t:ab):List dV:=gj (lZ t).data.toList
def ky (t:ab):List Tk:=(oI t).map tkT
def HG (o:cK):zc:=⟨fun u=>zbL u o.place,fun u=>zbL u o.fors,fun f=>(zbL f o.skips).getD false⟩
def pT (i:Nat) (t:dV):cX:=⟨(i:Int),(t.bs.length:Int),(t.r:Int),t.broken⟩
def pL:Nat→List dV→List cX
 | _,[]=>[]
 | i,t::ts=>pT i t::pL (i+t.bs.length) ts
theorem HH:∀ (ts:List dV) (i:Nat),(place i ts).map gh=pL i ts
 | [],_=>rfl
 | t::ts,i=>by
  show gh ⟨i,t.bs.length,t.r⟩::(place (i+t.bs.length) ts).map gh=_
  rw[HH ts];rfl
theorem Cv (l:List UInt8):(fe l).map gh=pL 0 (gj l):=by
 show (mi 0 l).map gh=_
 rw[FK,HH]
theorem HI:∀ (ts:List dV) (i:Nat),(pL i ts).length=ts.length
 | [],_=>rfl
 | t::ts,i=>by rw[pL,aj,aj,HI ts]
theorem zd {t:dV} (h:nF t):fN (t.r:Int):=by
 rcases h with h | h
 ·obtain⟨h,_⟩:=h
  exact⟨by omega,by omega⟩
 ·unfold dV.broken at h
  simp at h
  exact⟨by omega,by omega⟩
theorem HJ (t:dV):gN t.broken (t.r:Int)=kT (tkT t):=by
 have h1:∀r:Int,kT (r,(⟨t.bs.toArray⟩:ab))=if r<0 then 11 else kind r:=fun r=>rfl
 unfold tkT
 cases b:t.broken with
 | true=>rw[ay rfl,h1,ay (by omega)];rfl
 | false=>
  rw[ar (by simp),h1]
  have h2:¬ ((t.r:Int)<0):=by omega
  have a:gN false (t.r:Int)=kind (t.r:Int):=ar (by simp)
  rw[ar h2,a]
theorem Pl (x:Tk):((kT x:Int)==1)=kK x:=by
 unfold kT kK
 split
 ·rename_i h
  have:dw x.1=false:=by
   cases hL:dw x.1 with
   | false=>rfl
   | true=>have:=mG _ hL;omega
  rw[this];rfl
 ·exact Gf x.1
theorem Pm (x:Tk):((kT x:Int)==2)=pb x:=by
 unfold kT pb
 split
 ·have:eC x.1=false:=by unfold eC;exact ae (by omega)
  rw[this];rfl
 ·exact Gg x.1
theorem pO (a b:ab):(a++b).data.toList=a.data.toList++b.data.toList:=by simp
theorem pP {a b:ab} (h:a.data.toList=b.data.toList):a=b:=ByteArray.ext (Array.toList_inj.1 h)
theorem Cw:∀ts:List dV,(mX (ts.map tkT)).data.toList=ep ts
 | []=>rfl
 | t::ts=>by
  rw[aE,qk,← Cw ts]
  show (J (·.2) (tkT t::ts.map tkT)).data.toList=_
  rw[j0,pO];rfl
theorem xp (s:ab) (a b:Nat):(c7 s (a:Int) (b:Int)).data.toList=(s.data.toList.drop a).take (b - a):=by
 unfold c7
 simp[ByteArray.data_extract]
theorem Pn {s:ab} {A W Z:List dV} (h:s.data.toList=ep (A++(W++Z))) {a b:Nat} (c:a=(ep A).length) (d:b=a+(ep W).length):c7 s (a:Int) (b:Int)=mX (W.map tkT):=by
 apply pP
 rw[xp,Cw,h,oi,oi,c,List.drop_left,d,c,ow,List.take_left]
theorem kL (s:ab):s.size=s.data.toList.length:=by rw[Array.length_toList];rfl
section
variable {o:cK} {s:ab} {ek:Int→Int→Int→Option Int} {dn:Int→Int→Bool→Option Int} {Z:Option Int}
abbrev RX (x:Tk):Bool:=kK x||HF x
end

section
variable {R X A:Type} {xs:List X}
end
theorem xq (f:bd×List bd→ab):∀ {l:List (bd×List bd)},(∀c∈l,(f c).size≤4*(lN c).length)→(J f l).size≤4*(l.flatMap lN).length
 | [],_=>cH _
 | c::l,h=>by
  have:=xq f (l:=l) fun d hd=>h d (aq _ hd)
  have h1:=h c (aB ..)
  rw[j0,aK,aG,ah];omega
theorem Po (s:ab):((jL s).flatMap lN).length≤3*s.size:=by
 have h1:=sq (apL (gw s))
 have h2:=tk (gw s)
 have b:=sb s
 have a:(gw s).length=(fe s.data.toList).length:=by unfold gw;rw[aF]
 show (k5 (apL (gw s))).length≤_
 omega
theorem ze (c:bd×List bd):(lN c).length=1+c.2.length:=by
 unfold lN;rw[aj,pI];omega
theorem vj (s:ab) (d:s.size≤65536):(lY s).size≤12*s.size∧(lZ s).size≤12*s.size∧(G2 s).size≤12*s.size∧(zoJ s).size≤12*s.size:=by
 obtain⟨g,hc⟩:=sn d
 have f:=Po s
 refine⟨?_,?_,?_,?_⟩
 ·have:=xq tu (l:=jL s) (fun c a=>by have:=GW (hc c a).1;have:=ze c;show (mH c.1).Text.size≤_;omega)
  unfold lY;omega
 ·have:=xq oH (l:=jL s) (fun c a=>by
   obtain⟨h1,h2,_,e⟩:=hc c a
   have:=BO (fun x:bd=>x.Text) 4 (l:=lN c) (fun x hx=>by
    unfold lN at hx
    rcases bE.1 hx with rfl | hx
    ·exact sr h1
    ·have b:x∈c.2:=by
      unfold loI hiI at hx
      rw[bO,cp,cp] at hx
      rcases hx with hx | hx <;> exact hx.1
     exact sr (h2 x b).2)
   unfold oH;omega)
  unfold lZ;omega
 ·have:=xq (fun c:bd×List bd=>c.1.Text) (l:=jL s) (fun c a=>by have:=sr (hc c a).1;have:=ze c;show c.1.Text.size≤_;omega)
  unfold G2;omega
 ·have:=xq mW (l:=jL s) (fun c a=>by
   obtain⟨h1,h2,_,e⟩:=hc c a
   have h:=xg c.2
   have h5:=pI c.2
   have i:=ze c
   rw[ah] at h5
   unfold mW
   split
   ·have:=BX c.1.Rune ((loI c.2).map (·.Rune)) ((hiI c.2).map (·.Rune)) (by simp;omega) (by simp;omega)
    simp only[aF] at this;omega
   ·have:=sr h1;omega)
  unfold zoJ;omega
def Pp (o:zc):Prop:=∀u xs,o.f u=some xs→xs≠[]∧xs.length≤4
theorem Pq {t:dV} (h:0≤(tkT t).1):(tkT t).1=(t.r:Int)∧t.broken=false:=by
 unfold tkT at h ⊢
 cases a:t.broken with
 | true=>rw[a,ay rfl] at h;exact absurd h (by omega)
 | false=>exact⟨rfl,rfl⟩
theorem Pr {t:dV} (h:kK (tkT t)=true):(tkT t).1=(t.r:Int)∧t.broken=false∧dw (t.r:Int)=true:=by
 have h':dw (tkT t).1=true:=h
 have:=mG _ h'
 obtain⟨h1,h2⟩:=Pq (t:=t) (by omega)
 rw[h1] at h'
 exact⟨h1,h2,h'⟩
theorem HK {α:Type} (l:List α) (c:Nat):fi l (c:Int) (l.length:Int)=l.drop c:=by
 unfold fi
 rw[dI,dI,fx (by rw[ck];exact bJ _)]
theorem zf (s:ab):(gj s.data.toList).length≤s.size:=by
 have a:=sb s
 have e:(fe s.data.toList).length=(gj s.data.toList).length:=by rw[← HI (gj s.data.toList) 0,← Cv,aF]
 omega
def Cx (s1:ab) (prefix1:ab):Option Bool := aU (decide (((prefix1.size:Int):Int)≤(s1.size:Int))) ( aY (0≤(0:Int)∧(0:Int)≤(prefix1.size:Int)∧((prefix1.size:Int):Int)≤(s1.size:Int)) <| some (decide (c7 s1 0 (prefix1.size:Int)=prefix1))
) ( some false
)
theorem Ps {c:ab} {a:ab} {r:Bool} (h:Cx c a=some r):dO prog 174 [.string c,.string a] (.bool r):=by
 unfold Cx at h
 refine dO.intro func174 rfl ntmps174 (by simp) ?_
 intro w0 K
 refine aC (ac 1 rfl (cv (ac 1 rfl (ly rfl dc rfl an (ac 1 rfl (ly rfl dc rfl an (aO rfl fG (ac 1 rfl ?_))))))))
 refine dG (s:=10) rfl h (fun h=>?_) (fun h=>?_)
 ·
  refine ac 2 rfl (ly rfl dc rfl an ?_)
  obtain⟨b,h⟩:=bC h
  refine iz rfl dc rfl rfl rfl (jZ (i:=0) (j:=(a.size:Int)) an (.inl ⟨rfl,rfl⟩) (.inr rfl) b) (ac 1 rfl (aO rfl lf (ac 2 rfl (az (bI ?_)))))
  cases h
  exact dk 4 results174
 refine ac 8 rfl (az (bI ?_))
 cases h
 exact dk 4 results174
def Cy (s1:ab) (prefix1:ab):Option Bool := aX (Cx s1 prefix1) fun (r1:Bool)=> some r1
theorem Pt {b:ab} {a:ab} {r:Bool} (h:Cy b a=some r):dO prog 166 [.string b,.string a] (.bool r):=by
 unfold Cy at h
 refine dO.intro func166 rfl ntmps166 (by simp) ?_
 intro w0 K
 refine aC (ac 1 rfl (cv (ac 2 rfl ?_)))
 obtain⟨d,c,h⟩:=bj h
 refine dq (v:=.bool d) (vs:=[.string b,.string a]) rfl dc rfl rfl rfl LU (Ps c) (ac 1 rfl (az (bI ?_)))
 cases h
 exact dk 4 results166
def zfh (c0:ab) (ag1:Nat→Option (List cX)) (m3:Nat):Option (List cX) := aU (decide (m3<(fe c0.data.toList).length)) ( aX ((fe c0.data.toList)[m3]?) fun (p1:Pc)=> cJ (fun (j1:Int→Bool→Option (List cX))=> aU (((p1.r:Int):Int)==65533) ( aY (0≤((p1.i:Int):Int)∧((p1.i:Int):Int)≤(c0.size:Int)∧((c0.size:Int):Int)≤(c0.size:Int)) <| aX (Cy (c7 c0 (p1.i:Int) (c0.size:Int)) (⟨#[239,191,189]⟩:ab)) fun (r1:Bool)=> aU (!r1) ( j1 1 true
) ( j1 ((af (p1.r:Int)).size:Int) false
)
) ( j1 ((af (p1.r:Int)).size:Int) false
)
) (fun (p2:Int) (p3:Bool)=> rM (⟨(p1.i:Int),p2,(p1.r:Int),p3⟩:cX) <| ag1 (m3+1)
)
) ( some []
)
def CA (c0:ab):Option (List cX) := zaI (fun _=>none) (zfh c0) zbH 0
theorem Pu {c:Nat} {c0:ab} {xs:(List cX)} (h:CA c0=some xs):qJ prog 165 [zP c] (fun q:cX=>[.agg #[zI q.At,zI q.Width,.int .i32 q.Rune,.bool q.Broken]]) xs [(c,.cells #[.string c0] 9 (0,0))]:=by
 unfold CA at h
 refine qJ.intro func165 rfl ntmps165 (by simp) ?_
 intro l w0 K I X z hy
 obtain⟨r0,y⟩:∃r,xs=[]++r:=⟨xs,rfl⟩
 have E:xs=r0:=y
 rw[E] at h
 refine aC (xL (i:=0) z ea rfl dc rfl rfl rfl ?_)
 refine ur an rfl dc rfl (fun b1=>?_)
 refine az (cy ?_)
 refine fh (β:=Nat×Nat×(List cX)×(List cX)) (fun b=>zaI (fun _=>none) (zfh c0) b.1 b.2.1=some b.2.2.2∧xs=b.2.2.1++b.2.2.2) (fun b=>[]) (fun b=>[(0,.func (.yield l) #[] #[]),(1,zP c),(7,zP b1)]) (fun b=>[I b.2.2.1,obj b1 (.stringIter c0 (lV c0 b.2.1))]) (fun b=>b.1) (zbH,0,([]:List cX),r0) ⟨h,y⟩ rfl (aT rfl) (aH [0,1] kr rfl) ?_
 rintro⟨B,n,a,t⟩ ⟨h,x⟩
 cases B with
 | zero=>exact fa h
 | succ B=>
  obtain⟨M,f⟩:∃ag,ag=zaI (fun _=>none) (zfh c0) B:=⟨_,rfl⟩
  have h:zfh c0 M n=some t:=by rw[f];exact h
  unfold zfh at h
  refine aC ?_
  refine sL (b:=decide (n<(fe c0.data.toList).length)) (fun e=>?_) (fun e=>?_)
  ·
   have h:=ng e h
   obtain⟨p1,G,h⟩:=bj h
   refine ut (k:=1) (m:=n) (p:=p1) rfl dc rfl rfl G (fS rfl dc rfl rfl (az (cm (iH rfl (bH (cz (cy ?_)))))))
   obtain⟨O,H,h⟩:=cP h
   refine c8 (β:=Int×Bool×Nat) 2 rfl (fun b=>O b.1 b.2.1=some t) (fun b=>[]) (fun b=>[(0,.func (.yield l) #[] #[]),(1,zP c),(5,zP b.2.2),(7,zP b1)]) (fun b=>[I a,cells b.2.2 [zI (p1.i:Int),zI b.1,.int .i32 (p1.r:Int),.bool b.2.1] 132,obj b1 (.stringIter c0 (lV c0 (n+1)))]) (fun cut=>?_) ?_
   ·
    refine aC (fS rfl dc rfl rfl (fS rfl dc rfl rfl (ac 2 rfl (cv (ac 2 rfl (jr rfl dc rfl (mf bg an) (ly rfl dc rfl an ?_)))))))
    refine ac 1 rfl ?_
    refine eU (v:=.agg #[zI (p1.i:Int),zI ((af (p1.r:Int)).size:Int),.int .i32 (p1.r:Int),.bool false]) (ps:=[(0,.tmp 12),(1,.tmp 15),(2,.tmp 16)]) rfl dc rfl (fun _=>by kernel_rfl) ?_
    refine eN og rfl dc (fun L=>?_)
    refine eH (k:=2) (vs:=[zI (p1.i:Int),zI ((af (p1.r:Int)).size:Int),.int .i32 (p1.r:Int),.bool false]) (l':=[zI (p1.i:Int),zI ((af (p1.r:Int)).size:Int),.int .i32 (p1.r:Int),.bool false]) jP rfl rfl rfl rfl rfl (show _≤_ by simp) rfl rfl (az (cut (aC (ac 1 rfl (aO rfl eE (ac 1 rfl ?_))))))
    refine dG (s:=20) rfl h (fun h=>?_) (fun h=>?_)
    ·
     refine xL (i:=0) z ea rfl dc rfl rfl rfl (ac 1 rfl ?_)
     obtain⟨J,h⟩:=bC h
     refine iz rfl dc rfl rfl rfl (jZ (i:=(p1.i:Int)) (j:=(c0.size:Int)) an (.inr rfl) (.inl ⟨rfl,rfl⟩) J) ?_
     obtain⟨N,F,h⟩:=bj h
     refine dq (v:=.bool N) (vs:=[.string (c7 c0 (p1.i:Int) (c0.size:Int)),.string (⟨#[239,191,189]⟩:ab)]) rfl dc rfl rfl rfl LS (Pt F) (jq rfl dc rfl js (ac 1 rfl (az ?_)))
     refine bG rfl h (fun h=>?_) (fun h=>?_)
     ·
      refine ct (cf pw rfl dc rfl (show _=1 from rfl) ?_)
      refine ef (k:=2) (l':=[zI (p1.i:Int),zI 1,.int .i32 (p1.r:Int),.bool false]) jj rfl rfl rfl rfl rfl (fun _ _=>rfl) rfl ?_
      refine cf ym rfl dc rfl (show _=3 from rfl) ?_
      refine ef (k:=2) (l':=[zI (p1.i:Int),zI 1,.int .i32 (p1.r:Int),.bool true]) kI rfl rfl rfl rfl rfl (fun _ _=>rfl) rfl ?_
      refine bU ?_
      exact bx (1,true,L) h rfl (aT rfl) (aH [0,2,1] kr rfl)
     refine bH ?_
     exact bx (((af (p1.r:Int)).size:Int),false,L) h rfl (aT rfl) (aH [0,2,1] kr rfl)
    refine ac 6 rfl (az (eQ rfl (bH ?_)))
    exact bx (((af (p1.r:Int)).size:Int),false,L) h rfl (aT rfl) (aH [0,2,1] kr rfl)
   rintro⟨w,u,P⟩ h
   rw[H] at h
   refine aC (ac 1 rfl (gM (k:=1) (cs:=[zI (p1.i:Int),zI w,.int .i32 (p1.r:Int),.bool u]) kW rfl dc rfl rfl rfl rfl ?_))
   obtain⟨d,D,h⟩:=sO h
   have g:xs=a++(⟨(p1.i:Int),w,(p1.r:Int),u⟩:cX)::d:=by rw[x,D]
   refine sG hy rfl dc rfl g rfl (k:=0) rfl ?_ ?_
   ·
    have C:xs=(a++[(⟨(p1.i:Int),w,(p1.r:Int),u⟩:cX)])++d:=by rw[g];simp
    refine jq rfl dc rfl js (az (eQ rfl (bH (cw ?_))))
    subst f
    exact ff (B,n+1,a++[(⟨(p1.i:Int),w,(p1.r:Int),u⟩:cX)],d) ⟨h,C⟩ (av _) rfl (aT rfl) (aH [0,2] kr rfl)
   refine jq rfl dc rfl js (az (iH rfl (bI (cE (bT (cE ?_))))))
   exact sI (ds:=[]) a (⟨(p1.i:Int),w,(p1.r:Int),u⟩:cX) d g (.inl rfl) ad results165 (aH [0] kr rfl)
  have h:=nh e h
  refine uu (k:=1) (m:=n) rfl dc rfl rfl (lF (of_decide_eq_false e)) (fS rfl dc rfl rfl (az (cm (eQ rfl (dZ (cA (cA (ed ?_))))))))
  cases h
  exact tI (ds:=[]) (.inr rfl) ad results165 (aL I (x.trans (aQ _))) (aH [0] kr rfl)
def CB (s1:ab):Option ab := some s1
theorem Pv {a:ab} {r:ab} (h:CB a=some r):Fn prog 146 [.string a] [] (fun v0:Nat=>.func (.func 165) #[] #[zP v0]) (fun v0=>[cells v0 [.string r] 9]):=by
 unfold CB at h
 refine _root_.Go.Proofs.YtifpjbgnikjglaaGreatDoor.Fn.intro func146 rfl ntmps146 (by simp) ?_
 intro w0 K
 refine aC ?_
 refine jy rfl dc rfl (fun b1=>?_)
 refine ac 1 rfl (cv (tF (x1:=[]) (x2:=[.tmp 1]) rfl dc rfl rfl (ac 1 rfl (az (bI ?_)))))
 cases h
 exact eO (rs:=[.tmp 2]) b1 (.inl rfl) results146 (.cons (.tmp rfl) .nil) rfl (aH [0] kr rfl)
def CC (r1:Int) (x1:Bool) (x2:ab):Option ab := aU ((r1:Int)==223) ( some (⟨#[83,83]⟩:ab)
) ( aY (fN r1) <| some (af (wm r1))
)
theorem Pw {a:Int} {x1:Bool} {x2:ab} {r:ab} (h:CC a x1 x2=some r):dO prog 106 [.int .i32 a,.bool x1,.string x2] (.string r):=by
 unfold CC at h
 refine dO.intro func106 rfl ntmps106 (by simp) ?_
 intro w0 K
 refine aC (ac 1 rfl (az (cm (aC (ac 1 rfl (aO rfl eE (az ?_)))))))
 refine bG rfl h (fun h=>?_) (fun h=>?_)
 ·
  refine aC (ac 1 rfl (az (bI (bT ?_))))
  cases h
  exact dk 6 results106
 refine bH (cz (aC (ac 1 rfl ?_)))
 obtain⟨b,h⟩:=bC h
 refine dq (v:=.int .i32 (wm a)) (vs:=[.int .i32 a]) rfl dc rfl rfl rfl Lp (nP fun w=>Mu a w b.1 b.2) ?_
 refine jr rfl dc rfl (mf bg an) (ac 1 rfl (az (bI ?_)))
 cases h
 exact dk 6 results106
def zda (s1:ab) (x1:cX) (ag1:ab→Bool→Option ab) (b10:ab) (led3:Bool):Option ab := cJ (fun (j2:ab→Option ab)=> aY (cR (x1.At+x1.Width)) <| aY (fN x1.Rune) <| aU (((gN x1.Broken x1.Rune):Int)==1) ( aY (0≤(x1.At+x1.Width:Int)∧(x1.At+x1.Width:Int)≤(s1.size:Int)∧((s1.size:Int):Int)≤(s1.size:Int)) <| aX (CC x1.Rune led3 (c7 s1 (x1.At+x1.Width) (s1.size:Int))) fun (r2:ab)=> aY (b10.size+r2.size≤140737488355328) <| j2 (b10++r2)
) ( aY (0≤(x1.At:Int)∧(x1.At:Int)≤(x1.At+x1.Width)∧(x1.At+x1.Width:Int)≤(s1.size:Int)) <| aY (b10.size+(c7 s1 x1.At (x1.At+x1.Width)).size≤140737488355328) <| j2 (b10++(c7 s1 x1.At (x1.At+x1.Width)))
)
) (fun (b12:ab)=> aU (((gN x1.Broken x1.Rune):Int) != 2) ( ag1 b12 (((gN x1.Broken x1.Rune):Int)==1)
) ( ag1 b12 led3
)
)
def CD (s1:ab):Option ab := cJ (fun (j1:ab→Option ab)=> aX (CB s1) fun (r1:ab)=> aX (CA r1) fun (its1:(List cX))=> cJ (fun (dn1:ab→Bool→Option ab)=> zcM dn1 (zda s1) its1 (⟨#[]⟩:ab) false
) (fun (b10:ab) (led3:Bool)=> j1 b10
)
) (fun (b2:ab)=> some b2
)
theorem Px {m:ab} {r:ab} (h:CD m=some r):dO prog 105 [.string m,.func (.func 106) #[] #[]] (.string r):=by
 unfold CD at h
 refine dO.intro func105 rfl ntmps105 (by simp) ?_
 intro w0 K
 refine qH ?_
 obtain⟨j1,W,h⟩:=cP h
 refine c8 (β:=ab×Nat×(List Nat)) 3 rfl (fun b=>j1 b.1=some r) (fun b=>mQ b.2.2) (fun b=>[(5,zP b.2.1)]) (fun b=>[pE b.2.1 b.1,zgL ((b.2.2:List Nat).map eZ)]) (fun cut=>?_) ?_
 ·
  refine aC ?_
  refine jy rfl dc rfl (fun H=>?_)
  refine jy rfl dc rfl (fun G=>?_)
  refine ac 1 rfl (cv ?_)
  refine eN EH rfl dc (fun z=>?_)
  refine pp (k:=3) rfl FX ?_
  refine cv ?_
  refine eN ye rfl dc (fun F=>?_)
  refine ef (k:=4) (l':=[.bool false]) kI rfl rfl rfl rfl rfl (fun _ _=>rfl) rfl ?_
  refine az (cut (aC (bF (k:=1) ea rfl dc rfl rfl rfl ?_)))
  obtain⟨r1,U,h⟩:=bj h
  refine fY (vs:=[.string m]) rfl dc rfl rfl rfl LG (Pv U) ad ?_
  rintro b7
  refine az (cy ?_)
  obtain⟨I,T,h⟩:=bj h
  obtain⟨C,M,h⟩:=cP h
  refine sJ (α:=cX) (β:=ab×Bool) (γ:=Unit) (δ:=Nat) (ps:=[12]) Ro.nil rfl LR (Pu T) (fun pre b=>∀post,I=pre++post→zcM C (zda m) post b.1 b.2=some r) (fun pre b=>[cells H [.string m] 9,cells G [.func (.func 106) #[] #[]] 152,pE z b.1,cells F [.bool b.2] 4]) (fun c pre g=>False) (fun c pre g=>[]) (fun pre x b j=>[(2,zP H),(3,zP G),(4,.string (⟨#[]⟩:ab)),(5,zP z),(6,zP F),(11,.func (.func 165) #[] #[zP b7]),(7,zP j)]) (fun pre x b j=>[cells H [.string m] 9,cells G [.func (.func 106) #[] #[]] 152,pE z b.1,cells F [.bool b.2] 4,cells j [zI x.At,zI x.Width,.int .i32 x.Rune,.bool x.Broken] 132]) ((⟨#[]⟩:ab),false) (fun post e=>by rw[bt] at e;subst e;exact h) (aH [1,2,3,4] kr rfl) ⟨.inl ⟨5,rfl⟩,trivial⟩ (fun _=>rfl) dc ?_ ?_ ?_ ?_
  ·
   rintro lp rc pre x1 post ⟨l,f⟩ w1 K1 p L Q q
   refine ct ?_
   refine eN og rfl dc (fun a3=>?_)
   refine eH (k:=4) (vs:=[zI x1.At,zI x1.Width,.int .i32 x1.Rune,.bool x1.Broken]) (l':=[zI x1.At,zI x1.Width,.int .i32 x1.Rune,.bool x1.Broken]) jP rfl rfl rfl rfl rfl (show _≤_ by simp) rfl rfl ?_
   refine bU ?_
   exact fun a w ha hw=>⟨a3,(aT rfl) _ _ _ ha,hw.weaken (aH [0,1,2,3,4] kr rfl)⟩
  ·
   rintro lp rc pre x1 t ⟨l,f⟩ P w1 K1 p L Q q
   have h:=q (x1::t) p
   obtain⟨a4,y⟩:∃ag,ag=zcM C (zda m) t:=⟨_,rfl⟩
   have h:zda m x1 a4 l f=some r:=by have h2:=h;rw[nz,← y] at h2;exact h2
   unfold zda at h
   refine cy ?_
   obtain⟨j2,V,h⟩:=cP h
   refine c8 (β:=ab) 2 rfl (fun b=>j2 b=some r) (fun b=>[]) (fun b=>[(2,zP H),(3,zP G),(4,.string (⟨#[]⟩:ab)),(5,zP z),(6,zP F),(9,zI (gN x1.Broken x1.Rune)),(11,.func (.func 165) #[] #[zP b7])]) (fun b=>[cells H [.string m] 9,cells G [.func (.func 106) #[] #[]] 152,pE z b,cells F [.bool f] 4]) (fun cut=>?_) ?_
   ·
    refine aC (cf lh rfl dc rfl (show _=0 from rfl) (bF (k:=4) dQ rfl dc rfl rfl rfl (cf pw rfl dc rfl (show _=1 from rfl) (bF (k:=4) dQ rfl dc rfl rfl rfl ?_))))
    obtain⟨a1,h⟩:=bC h
    refine aO rfl (dN (r:=x1.At+x1.Width) (ai _ a1)) (ac 1 rfl (cv (gM (k:=4) (cs:=[zI x1.At,zI x1.Width,.int .i32 x1.Rune,.bool x1.Broken]) kW rfl dc rfl rfl rfl rfl ?_)))
    obtain⟨J,h⟩:=bC h
    refine dq (v:=zI (gN x1.Broken x1.Rune)) (vs:=[.agg #[zI x1.At,zI x1.Width,.int .i32 x1.Rune,.bool x1.Broken]]) rfl dc rfl rfl rfl uj (uv x1.At x1.Width x1.Rune x1.Broken J.1 J.2) (ac 1 rfl (az (cut (aC (ac 1 rfl (aO rfl eE (az ?_)))))))
    refine bG rfl h (fun h=>?_) (fun h=>?_)
    ·
     obtain⟨a0,h⟩:=bC h
     obtain⟨O,S,h⟩:=bj h
     obtain⟨aw,h⟩:=bC h
     refine jc 7 [(0,22,.func (.func 106) #[] #[]),(1,23,.pointer (some ⟨P,2,none⟩)),(2,24,.int .i32 x1.Rune),(3,25,.bool f),(4,26,.string m),(5,27,zI (x1.At+x1.Width)),(6,28,.string (c7 m (x1.At+x1.Width) (m.size:Int)))] mixed kr kr dc (by rfl) kr kr (bR ?_ (bR ?_ (bR ?_ (bR ?_ (bR ?_ (gY 1 5 rfl (bR ?_ bK))))))) ?_
     · exact fun D n d c u i=>bF (k:=1) KG rfl dc (dE (by rfl) rfl) rfl rfl (bm 0 u i)
     · exact fun D n d c u i=>cf o7 rfl dc (dE (by rfl) rfl) (show _=2 from rfl) (bm 1 u i)
     · exact fun D n d c u i=>bF (k:=4) fT rfl dc (bq 1 u d) rfl rfl (bm 2 u i)
     · exact fun D n d c u i=>bF (k:=3) nl rfl dc (dE (by rfl) rfl) rfl rfl (bm 3 u i)
     · exact fun D n d c u i=>bF (k:=0) ea rfl dc (dE (by rfl) rfl) rfl rfl (bm 4 u i)
     · exact fun D n d c u i=>iz rfl dc (bq 4 u d) (evO.some (bq 5 u d)) vE (jZ (i:=x1.At+x1.Width) (j:=(m.size:Int)) an (.inr rfl) (.inl ⟨rfl,rfl⟩) a0) (bm 6 u i)
     refine dq (v:=.string O) (vs:=[.int .i32 x1.Rune,.bool f,.string (c7 m (x1.At+x1.Width) (m.size:Int))]) rfl dc rfl rfl rfl Lo (Pw S) (fY (vs:=[zP z,.string O]) rfl dc rfl rfl rfl Av (A6 z l O aw) (aH [2] kr rfl) ?_)
     rintro u1
     refine bU ?_
     exact bx (l++O) h rfl (aT rfl) (aH [0,1,5,3] kr rfl)
    refine ct (bF (k:=0) ea rfl dc rfl rfl rfl (cf lh rfl dc rfl (show _=0 from rfl) (bF (k:=4) dQ rfl dc rfl rfl rfl (ac 1 rfl ?_))))
    obtain⟨ao,h⟩:=bC h
    refine iz rfl dc rfl rfl rfl (jZ (i:=x1.At) (j:=x1.At+x1.Width) an (.inr rfl) (.inr rfl) ao) ?_
    obtain⟨Y,h⟩:=bC h
    refine fY (vs:=[zP z,.string (c7 m x1.At (x1.At+x1.Width))]) rfl dc rfl rfl rfl Av (A6 z l (c7 m x1.At (x1.At+x1.Width)) Y) (aH [2] kr rfl) ?_
    rintro u2
    refine bU ?_
    exact bx (l++(c7 m x1.At (x1.At+x1.Width))) h rfl (aT rfl) (aH [0,1,5,3] kr rfl)
   rintro N h
   rw[V] at h
   refine aC (ac 1 rfl (aO rfl nc (az ?_)))
   refine bG rfl h (fun h=>?_) (fun h=>?_)
   ·
    refine ct (ac 1 rfl (aO rfl eE ?_))
    refine ef (k:=3) (l':=[.bool (((gN x1.Broken x1.Rune):Int)==1)]) kI rfl rfl rfl rfl rfl (fun _ _=>rfl) rfl ?_
    refine bU (cw ?_)
    exact kP (N,((gN x1.Broken x1.Rune):Int)==1) (fun B e2=>by have e9:=kU p e2;subst e9;subst y;exact h) (aH [0,1,2,3] kr rfl)
   refine bH (cw ?_)
   exact kP (N,f) (fun B e2=>by have e9:=kU p e2;subst e9;subst y;exact h) (aH [0,1,2,3] kr rfl)
  ·
   rintro E ⟨l,f⟩ q
   have h:C l f=some r:=q [] (aQ _).symm
   rw[M] at h
   show TX _ _ _ _ _ _ _ [zgL ((([]:List Nat):List Nat).map eZ),cn,cn,cn,cn,cells b7 [.string r1] 9,cells H [.string m] 9,cells G [.func (.func 106) #[] #[]] 152,pE z l,cells F [.bool f] 4,eZ E]
   refine pY (k:=10) (j:=0) rfl rfl dc ?_
   refine cw ?_
   exact bx (l,z,E::([]:List Nat)) h rfl (aT rfl) (aH [8,0] kr rfl)
  rintro E c pre x1 post g a5 hX
  exact (show False from hX).elim
 rintro⟨b2,b1,a2⟩ h
 rw[W] at h
 refine aC (fY (vs:=[zP b1]) rfl dc rfl rfl rfl E2 (FW b1 b2) (aH [0] kr rfl) ?_)
 rintro _
 refine ac 1 rfl (az (bI ?_))
 cases h
 exact lS (rs:=[.tmp 4]) a2 () (.inl rfl) (lR (k:=1) rfl) results105 (.cons (.tmp rfl) .nil) rfl ad
def CE (s1:ab):Option ab := aX (CD s1) fun (r1:ab)=> some r1
theorem Py {a:ab} {r:ab} (h:CE a=some r):dO prog 55 [.string a] (.string r):=by
 unfold CE at h
 refine dO.intro func55 rfl ntmps55 (by simp) ?_
 intro w0 K
 refine aC (ac 1 rfl (cv (ac 1 rfl ?_)))
 obtain⟨c,b,h⟩:=bj h
 refine dq (v:=.string c) (vs:=[.string a,.func (.func 106) #[] #[]]) rfl dc rfl rfl rfl Ln (Px b) (ac 1 rfl (az (bI ?_)))
 cases h
 exact dk 2 results55
def CF (a1:db) (b1:db):Option Int := aY (cR (a1.sort - b1.sort)) <| aY (cR (a1.place - b1.place)) <| aY (cR ((a1.digits.size:Int) - (b1.digits.size:Int))) <| aX (Cn ([a1.sort - b1.sort,a1.place - b1.place,(a1.digits.size:Int) - (b1.digits.size:Int),cZ a1.digits.data.toList b1.digits.data.toList]:List Int)) fun (r1:Int)=> some r1
theorem Pz {a1:db} {b1:db} {r:Int} (h:CF a1 b1=some r):dO prog 44 [.agg (il a1).toArray,.agg (il b1).toArray] (zI r):=by
 unfold CF at h
 refine dO.intro func44 rfl ntmps44 (by simp) ?_
 intro w0 K
 refine aC ?_
 refine jy rfl dc rfl (fun b=>?_)
 refine jy rfl dc rfl (fun a=>?_)
 refine ac 1 rfl (az (cm ?_))
 obtain⟨l,h⟩:=bC h
 obtain⟨j,h⟩:=bC h
 obtain⟨g,h⟩:=bC h
 obtain⟨p,f,h⟩:=bj h
 refine jc 22 [(0,5,zP b),(1,6,zI a1.sort),(2,7,zP a),(3,8,zI b1.sort),(4,9,zI (a1.sort - b1.sort)),(5,10,.pointer (some ⟨b,1,none⟩)),(6,11,zI a1.place),(7,12,.pointer (some ⟨a,1,none⟩)),(8,13,zI b1.place),(9,14,zI (a1.place - b1.place)),(10,15,.pointer (some ⟨b,2,none⟩)),(11,16,.string a1.digits),(12,17,zI (a1.digits.size:Int)),(13,18,.pointer (some ⟨a,2,none⟩)),(14,19,.string b1.digits),(15,20,zI (b1.digits.size:Int)),(16,21,zI ((a1.digits.size:Int) - (b1.digits.size:Int))),(17,22,.pointer (some ⟨b,2,none⟩)),(18,23,.string a1.digits),(19,24,.pointer (some ⟨a,2,none⟩)),(20,25,.string b1.digits),(21,26,zI (cZ a1.digits.data.toList b1.digits.data.toList))] mixed kr kr dc (by rfl) kr kr (bR ?_ (bR ?_ (bR ?_ (bR ?_ (bR ?_ (bR ?_ (bR ?_ (bR ?_ (bR ?_ (bR ?_ (bR ?_ (bR ?_ (bR ?_ (bR ?_ (bR ?_ (bR ?_ (bR ?_ (bR ?_ (bR ?_ (bR ?_ (bR ?_ (bR ?_ bK)))))))))))))))))))))) ?_
 · exact fun D n d c u i=>cf Ak rfl dc (dE (by rfl) rfl) (show _=0 from rfl) (bm 0 u i)
 · exact fun D n d c u i=>bF (k:=0) dQ rfl dc (bq 0 u d) rfl rfl (bm 1 u i)
 · exact fun D n d c u i=>cf Ak rfl dc (dE (by rfl) rfl) (show _=0 from rfl) (bm 2 u i)
 · exact fun D n d c u i=>bF (k:=1) dQ rfl dc (bq 2 u d) rfl rfl (bm 3 u i)
 · exact fun D n d c u i=>kl rfl dc (bq 1 u d) (bq 3 u d) (mD (r:=a1.sort - b1.sort) (ai _ l)) (bm 4 u i)
 · exact fun D n d c u i=>cf Al rfl dc (dE (by rfl) rfl) (show _=1 from rfl) (bm 5 u i)
 · exact fun D n d c u i=>bF (k:=0) dQ rfl dc (bq 5 u d) rfl rfl (bm 6 u i)
 · exact fun D n d c u i=>cf Al rfl dc (dE (by rfl) rfl) (show _=1 from rfl) (bm 7 u i)
 · exact fun D n d c u i=>bF (k:=1) dQ rfl dc (bq 7 u d) rfl rfl (bm 8 u i)
 · exact fun D n d c u i=>kl rfl dc (bq 6 u d) (bq 8 u d) (mD (r:=a1.place - b1.place) (ai _ j)) (bm 9 u i)
 · exact fun D n d c u i=>cf yh rfl dc (dE (by rfl) rfl) (show _=2 from rfl) (bm 10 u i)
 · exact fun D n d c u i=>bF (k:=0) ea rfl dc (bq 10 u d) rfl rfl (bm 11 u i)
 · exact fun D n d c u i=>ly rfl dc (bq 11 u d) an (bm 12 u i)
 · exact fun D n d c u i=>cf yh rfl dc (dE (by rfl) rfl) (show _=2 from rfl) (bm 13 u i)
 · exact fun D n d c u i=>bF (k:=1) ea rfl dc (bq 13 u d) rfl rfl (bm 14 u i)
 · exact fun D n d c u i=>ly rfl dc (bq 14 u d) an (bm 15 u i)
 · exact fun D n d c u i=>kl rfl dc (bq 12 u d) (bq 15 u d) (mD (r:=(a1.digits.size:Int) - (b1.digits.size:Int)) (ai _ g)) (bm 16 u i)
 · exact fun D n d c u i=>cf yh rfl dc (dE (by rfl) rfl) (show _=2 from rfl) (bm 17 u i)
 · exact fun D n d c u i=>bF (k:=0) ea rfl dc (bq 17 u d) rfl rfl (bm 18 u i)
 · exact fun D n d c u i=>cf yh rfl dc (dE (by rfl) rfl) (show _=2 from rfl) (bm 19 u i)
 · exact fun D n d c u i=>bF (k:=1) ea rfl dc (bq 19 u d) rfl rfl (bm 20 u i)
 · exact fun D n d c u i=>dq (v:=zI (cZ a1.digits.data.toList b1.digits.data.toList)) (vs:=[.string a1.digits,.string b1.digits]) rfl dc rfl (cY (bq 18 u d) (cY (bq 20 u d) eB)) rfl AA (A5 a1.digits b1.digits) (bm 21 u i)
 refine gl (cs:=[zI (a1.sort - b1.sort),zI (a1.place - b1.place),zI ((a1.digits.size:Int) - (b1.digits.size:Int)),zI (cZ a1.digits.data.toList b1.digits.data.toList)]) (te:=3) (ps:=[(0,.tmp 9),(1,.tmp 14),(2,.tmp 21),(3,.tmp 26)]) rfl dc rfl (fun _=>by kernel_rfl) (fun m=>?_)
 refine mS ([a1.sort - b1.sort,a1.place - b1.place,(a1.digits.size:Int) - (b1.digits.size:Int),cZ a1.digits.data.toList b1.digits.data.toList]:List Int) (k:=2) rfl jh rfl (show 4≤maxLen by decide) ?_
 refine kG (k:=2) rfl (fun e=>?_)
 refine nj (v:=zI p) (vs:=[.slice (some ⟨m,0,none⟩) 4 4]) (Rd.nil:Rd _ _ []) rfl dc rfl rfl rfl Li (Pg e f) (.own (As:=[vec (kn (.i64)) 3 1 (.slice (some ⟨m,0,none⟩) 4 4) ([a1.sort - b1.sort,a1.place - b1.place,(a1.digits.size:Int) - (b1.digits.size:Int),cZ a1.digits.data.toList b1.digits.data.toList]:List Int)]) (aH [2] kr rfl) (fun _ _ h=>nU jh (aI.1 h)) .nil) ?_
 refine ac 1 rfl (az (bI ?_))
 cases h
 exact dk 4 results44
def CG (p1:db) (q1:db):Option Int := some (cZ p1.marks.data.toList q1.marks.data.toList)
theorem PA {p1:db} {q1:db} {r:Int} (h:CG p1 q1=some r):dO prog 45 [.agg (il p1).toArray,.agg (il q1).toArray] (zI r):=by
 unfold CG at h
 refine dO.intro func45 rfl ntmps45 (by simp) ?_
 intro w0 K
 refine aC ?_
 refine jy rfl dc rfl (fun b1=>?_)
 refine jy rfl dc rfl (fun a=>?_)
 refine ac 1 rfl (cv (cf Am rfl dc rfl (show _=3 from rfl) (bF (k:=0) ea rfl dc rfl rfl rfl (cf Am rfl dc rfl (show _=3 from rfl) (bF (k:=1) ea rfl dc rfl rfl rfl (dq (v:=zI (cZ p1.marks.data.toList q1.marks.data.toList)) (vs:=[.string p1.marks,.string q1.marks]) rfl dc rfl rfl rfl AA (A5 p1.marks q1.marks) (ac 1 rfl (az (bI ?_)))))))))
 cases h
 exact dk 4 results45
def CH (p1:db) (q1:db):Option Int := aY (cR (p1.great - q1.great)) <| some (p1.great - q1.great)
theorem PB {p1:db} {q1:db} {r:Int} (h:CH p1 q1=some r):dO prog 47 [.agg (il p1).toArray,.agg (il q1).toArray] (zI r):=by
 unfold CH at h
 refine dO.intro func47 rfl ntmps47 (by simp) ?_
 intro w0 K
 refine aC ?_
 refine jy rfl dc rfl (fun b1=>?_)
 refine jy rfl dc rfl (fun b=>?_)
 refine ac 1 rfl (cv (cf EJ rfl dc rfl (show _=4 from rfl) (bF (k:=0) dQ rfl dc rfl rfl rfl (cf EJ rfl dc rfl (show _=4 from rfl) (bF (k:=1) dQ rfl dc rfl rfl rfl ?_)))))
 obtain⟨a,h⟩:=bC h
 refine aO rfl (mD (r:=p1.great - q1.great) (ai _ a)) (ac 1 rfl (az (bI ?_)))
 cases h
 exact dk 4 results47
def xr (n1:Int):Option Int := aX (Co n1 0) fun (r1:Int)=> some r1
theorem CI {a:Int} {r:Int} (h:xr a=some r):dO prog 49 [zI a] (zI r):=by
 unfold xr at h
 refine dO.intro func49 rfl ntmps49 (by simp) ?_
 intro w0 K
 refine aC (ac 1 rfl (cv (ac 1 rfl ?_)))
 obtain⟨c,b,h⟩:=bj h
 refine dq (v:=zI c) (vs:=[zI a,zI 0]) rfl dc rfl rfl rfl Lj (Ph b) (ac 1 rfl (az (bI ?_)))
 cases h
 exact dk 2 results49
def zaK (s1x1:List db) (s2x1:List db) (j1:Option Int) (ag1:Int→Option Int) (x3:Int):Option Int := aU (decide ((x3:Int)<(s1x1.length:Int))) ( aX (zcy s1x1 x3) fun (q1:db)=> aU (decide (((s2x1.length:Int):Int)≤x3)) ( some 1
) ( aX (zcy s2x1 x3) fun (q2:db)=> aX (CF q1 q2) fun (r1:Int)=> aU ((r1:Int) != 0) ( some r1
) ( aY (cR (x3+1)) <| ag1 (x3+1)
)
)
) ( j1
)
def CJ (s1x1:List db) (s2x1:List db):Option Int := cJ (fun (j1:Option Int)=> zaI (fun _=>none) (zaK s1x1 s2x1 j1) zbH 0
) ( aU (decide (((s1x1.length:Int):Int)<(s2x1.length:Int))) ( some (-1)
) ( some 0
)
)
theorem PC {t d:Value} {w:List db} {n:Nat} {e:List db} (c:Vw t w 5 n d e) {p f:Value} {u:List db} {l:Nat} {g:List db} (a:Vw p u 5 l f g) {r:Int} (h:CJ e g=some r):iv prog 48 [d,f,.func (.func 44) #[] #[]] [ji py 5 t n w,ji py 5 p l u] [] (fun _:Unit=>(zI r)) (fun _=>[]):=by
 unfold CJ at h
 refine iv.intro func48 rfl ntmps48 (by simp) ?_
 intro w0 K z
 obtain⟨E,G,h⟩:=cP h
 refine c8 (β:=Unit) 1 rfl (fun b=>E=some r) (fun b=>[]) (fun b=>[(0,d),(1,f)]) (fun b=>[]) (fun cut=>?_) ?_
 ·
  refine aC (ac 1 rfl (az (cut (aC (ac 1 rfl (iO c rfl dc rfl bP (ac 1 rfl (az (cy ?_)))))))))
  refine fh (β:=Nat×Int) (fun b=>zaI (fun _=>none) (zaK e g E) b.1 b.2=some r) (fun b=>[]) (fun b=>[(0,d),(1,f),(2,.func (.func 44) #[] #[]),(11,d),(12,zI (e.length:Int)),(13,zI b.2)]) (fun b=>[]) (fun b=>b.1) (zbH,0) h rfl (aT rfl) ad ?_
  rintro⟨D,y⟩ h
  cases D with
  | zero=>exact fa h
  | succ D=>
   obtain⟨I,x⟩:∃ag,ag=zaI (fun _=>none) (zaK e g E) D:=⟨_,rfl⟩
   have h:zaK e g E I y=some r:=by rw[x];exact h
   unfold zaK at h
   refine aC (aO rfl ei (az (cm ?_)))
   refine bG rfl h (fun h=>?_) (fun h=>?_)
   ·
    refine bH (cz (cm (cy (aC (ac 1 rfl ?_)))))
    obtain⟨q1,C,h⟩:=bj h
    refine gq c C bP nX rfl dc rfl rfl rfl (oz (m:=n+(y:Int).toNat) (j:=0) (i:=0) (q:=q1) (cs:=(il q1)) z rfl (by omega) oe rfl dc rfl (cI c C) rfl rfl rfl ?_)
    refine eN sS rfl dc (fun b1=>?_)
    refine ac 1 rfl (eH (k:=0) (vs:=(il q1)) (l':=(il q1)) nX rfl rfl rfl rfl rfl (show _≤_ by simp) rfl rfl ?_)
    refine az (cm (aC (ac 2 rfl (iO a rfl dc rfl bP (aO rfl fG (az ?_))))))
    refine bG rfl h (fun h=>?_) (fun h=>?_)
    ·
     refine aC (ac 1 rfl (az (bI (bT (cE (bT (bT (cE (bT ?_)))))))))
     cases h
     exact dk 6 fq
    refine bH (cz (aC (ac 2 rfl ?_)))
    obtain⟨q2,B,h⟩:=bj h
    refine gq a B bP nX rfl dc rfl rfl rfl (oz (m:=l+(y:Int).toNat) (j:=0) (i:=1) (q:=q2) (cs:=(il q2)) z rfl (by omega) oe rfl dc rfl (cI a B) rfl rfl rfl ?_)
    refine eN sS rfl dc (fun L=>?_)
    refine eH (k:=1) (vs:=(il q2)) (l':=(il q2)) nX rfl rfl rfl rfl rfl (show _≤_ by simp) rfl rfl ?_
    refine cv (ac 1 rfl (gM (k:=0) (cs:=(il q1)) oe rfl dc rfl rfl rfl rfl (gM (k:=1) (cs:=(il q2)) oe rfl dc rfl rfl rfl rfl ?_)))
    obtain⟨J,F,h⟩:=bj h
    refine dq (v:=zI J) (vs:=[.agg (il q1).toArray,.agg (il q2).toArray]) rfl dc rfl rfl rfl KV (Pz (a1:=q1) (b1:=q2) F) (ac 1 rfl (cv (ac 1 rfl (aO rfl nc (az ?_)))))
    refine bG rfl h (fun h=>?_) (fun h=>?_)
    ·
     refine aC (ac 2 rfl (az (bI (cE (bT (bT (cE (bT ?_))))))))
     cases h
     exact dk 6 fq
    refine bH (cw (cz (ct ?_)))
    obtain⟨H,h⟩:=bC h
    refine aO rfl (dN (r:=y+1) (ai _ H)) (ac 1 rfl (bU ?_))
    subst x
    exact ff (D,y+1) h (av _) rfl (aT rfl) ad
   refine dZ (cA (cA (ed ?_)))
   exact bx () h rfl (aT rfl) ad
 rintro _ h
 rw[G] at h
 refine cm (aC (ac 1 rfl (iO c rfl dc rfl bP (ac 1 rfl (iO a rfl dc rfl bP (aO rfl ei (az ?_)))))))
 refine bG rfl h (fun h=>?_) (fun h=>?_)
 ·
  refine aC (ac 1 rfl (az (bI (bT ?_))))
  cases h
  exact dk 6 fq
 refine bH (cz (aC (ac 1 rfl (az (bI ?_)))))
 cases h
 exact dk 6 fq
def zaE (s1x1:List db) (s2x1:List db) (j1:Option Int) (ag1:Int→Option Int) (x3:Int):Option Int := aU (decide ((x3:Int)<(s1x1.length:Int))) ( aX (zcy s1x1 x3) fun (q1:db)=> aU (decide (((s2x1.length:Int):Int)≤x3)) ( some 1
) ( aX (zcy s2x1 x3) fun (q2:db)=> aX (CG q1 q2) fun (r1:Int)=> aU ((r1:Int) != 0) ( some r1
) ( aY (cR (x3+1)) <| ag1 (x3+1)
)
)
) ( j1
)
def CK (s1x1:List db) (s2x1:List db):Option Int := cJ (fun (j1:Option Int)=> zaI (fun _=>none) (zaE s1x1 s2x1 j1) zbH 0
) ( aU (decide (((s1x1.length:Int):Int)<(s2x1.length:Int))) ( some (-1)
) ( some 0
)
)
theorem PD {t d:Value} {w:List db} {n:Nat} {e:List db} (c:Vw t w 5 n d e) {p f:Value} {u:List db} {l:Nat} {g:List db} (a:Vw p u 5 l f g) {r:Int} (h:CK e g=some r):iv prog 48 [d,f,.func (.func 45) #[] #[]] [ji py 5 t n w,ji py 5 p l u] [] (fun _:Unit=>(zI r)) (fun _=>[]):=by
 unfold CK at h
 refine iv.intro func48 rfl ntmps48 (by simp) ?_
 intro w0 K z
 obtain⟨E,G,h⟩:=cP h
 refine c8 (β:=Unit) 1 rfl (fun b=>E=some r) (fun b=>[]) (fun b=>[(0,d),(1,f)]) (fun b=>[]) (fun cut=>?_) ?_
 ·
  refine aC (ac 1 rfl (az (cut (aC (ac 1 rfl (iO c rfl dc rfl bP (ac 1 rfl (az (cy ?_)))))))))
  refine fh (β:=Nat×Int) (fun b=>zaI (fun _=>none) (zaE e g E) b.1 b.2=some r) (fun b=>[]) (fun b=>[(0,d),(1,f),(2,.func (.func 45) #[] #[]),(11,d),(12,zI (e.length:Int)),(13,zI b.2)]) (fun b=>[]) (fun b=>b.1) (zbH,0) h rfl (aT rfl) ad ?_
  rintro⟨D,y⟩ h
  cases D with
  | zero=>exact fa h
  | succ D=>
   obtain⟨I,x⟩:∃ag,ag=zaI (fun _=>none) (zaE e g E) D:=⟨_,rfl⟩
   have h:zaE e g E I y=some r:=by rw[x];exact h
   unfold zaE at h
   refine aC (aO rfl ei (az (cm ?_)))
   refine bG rfl h (fun h=>?_) (fun h=>?_)
   ·
    refine bH (cz (cm (cy (aC (ac 1 rfl ?_)))))
    obtain⟨q1,C,h⟩:=bj h
    refine gq c C bP nX rfl dc rfl rfl rfl (oz (m:=n+(y:Int).toNat) (j:=0) (i:=0) (q:=q1) (cs:=(il q1)) z rfl (by omega) oe rfl dc rfl (cI c C) rfl rfl rfl ?_)
    refine eN sS rfl dc (fun b1=>?_)
    refine ac 1 rfl (eH (k:=0) (vs:=(il q1)) (l':=(il q1)) nX rfl rfl rfl rfl rfl (show _≤_ by simp) rfl rfl ?_)
    refine az (cm (aC (ac 2 rfl (iO a rfl dc rfl bP (aO rfl fG (az ?_))))))
    refine bG rfl h (fun h=>?_) (fun h=>?_)
    ·
     refine aC (ac 1 rfl (az (bI (bT (cE (bT (bT (cE (bT ?_)))))))))
     cases h
     exact dk 6 fq
    refine bH (cz (aC (ac 2 rfl ?_)))
    obtain⟨q2,B,h⟩:=bj h
    refine gq a B bP nX rfl dc rfl rfl rfl (oz (m:=l+(y:Int).toNat) (j:=0) (i:=1) (q:=q2) (cs:=(il q2)) z rfl (by omega) oe rfl dc rfl (cI a B) rfl rfl rfl ?_)
    refine eN sS rfl dc (fun L=>?_)
    refine eH (k:=1) (vs:=(il q2)) (l':=(il q2)) nX rfl rfl rfl rfl rfl (show _≤_ by simp) rfl rfl ?_
    refine cv (ac 1 rfl (gM (k:=0) (cs:=(il q1)) oe rfl dc rfl rfl rfl rfl (gM (k:=1) (cs:=(il q2)) oe rfl dc rfl rfl rfl rfl ?_)))
    obtain⟨J,F,h⟩:=bj h
    refine dq (v:=zI J) (vs:=[.agg (il q1).toArray,.agg (il q2).toArray]) rfl dc rfl rfl rfl KW (PA (p1:=q1) (q1:=q2) F) (ac 1 rfl (cv (ac 1 rfl (aO rfl nc (az ?_)))))
    refine bG rfl h (fun h=>?_) (fun h=>?_)
    ·
     refine aC (ac 2 rfl (az (bI (cE (bT (bT (cE (bT ?_))))))))
     cases h
     exact dk 6 fq
    refine bH (cw (cz (ct ?_)))
    obtain⟨H,h⟩:=bC h
    refine aO rfl (dN (r:=y+1) (ai _ H)) (ac 1 rfl (bU ?_))
    subst x
    exact ff (D,y+1) h (av _) rfl (aT rfl) ad
   refine dZ (cA (cA (ed ?_)))
   exact bx () h rfl (aT rfl) ad
 rintro _ h
 rw[G] at h
 refine cm (aC (ac 1 rfl (iO c rfl dc rfl bP (ac 1 rfl (iO a rfl dc rfl bP (aO rfl ei (az ?_)))))))
 refine bG rfl h (fun h=>?_) (fun h=>?_)
 ·
  refine aC (ac 1 rfl (az (bI (bT ?_))))
  cases h
  exact dk 6 fq
 refine bH (cz (aC (ac 1 rfl (az (bI ?_)))))
 cases h
 exact dk 6 fq
def zaD (s1x1:List db) (s2x1:List db) (j1:Option Int) (ag1:Int→Option Int) (x3:Int):Option Int := aU (decide ((x3:Int)<(s1x1.length:Int))) ( aX (zcy s1x1 x3) fun (q1:db)=> aU (decide (((s2x1.length:Int):Int)≤x3)) ( some 1
) ( aX (zcy s2x1 x3) fun (q2:db)=> aX (CH q1 q2) fun (r1:Int)=> aU ((r1:Int) != 0) ( some r1
) ( aY (cR (x3+1)) <| ag1 (x3+1)
)
)
) ( j1
)
def CL (s1x1:List db) (s2x1:List db):Option Int := cJ (fun (j1:Option Int)=> zaI (fun _=>none) (zaD s1x1 s2x1 j1) zbH 0
) ( aU (decide (((s1x1.length:Int):Int)<(s2x1.length:Int))) ( some (-1)
) ( some 0
)
)
theorem PE {t d:Value} {w:List db} {n:Nat} {e:List db} (c:Vw t w 5 n d e) {p f:Value} {u:List db} {l:Nat} {g:List db} (a:Vw p u 5 l f g) {r:Int} (h:CL e g=some r):iv prog 48 [d,f,.func (.func 47) #[] #[]] [ji py 5 t n w,ji py 5 p l u] [] (fun _:Unit=>(zI r)) (fun _=>[]):=by
 unfold CL at h
 refine iv.intro func48 rfl ntmps48 (by simp) ?_
 intro w0 K z
 obtain⟨E,G,h⟩:=cP h
 refine c8 (β:=Unit) 1 rfl (fun b=>E=some r) (fun b=>[]) (fun b=>[(0,d),(1,f)]) (fun b=>[]) (fun cut=>?_) ?_
 ·
  refine aC (ac 1 rfl (az (cut (aC (ac 1 rfl (iO c rfl dc rfl bP (ac 1 rfl (az (cy ?_)))))))))
  refine fh (β:=Nat×Int) (fun b=>zaI (fun _=>none) (zaD e g E) b.1 b.2=some r) (fun b=>[]) (fun b=>[(0,d),(1,f),(2,.func (.func 47) #[] #[]),(11,d),(12,zI (e.length:Int)),(13,zI b.2)]) (fun b=>[]) (fun b=>b.1) (zbH,0) h rfl (aT rfl) ad ?_
  rintro⟨D,y⟩ h
  cases D with
  | zero=>exact fa h
  | succ D=>
   obtain⟨I,x⟩:∃ag,ag=zaI (fun _=>none) (zaD e g E) D:=⟨_,rfl⟩
   have h:zaD e g E I y=some r:=by rw[x];exact h
   unfold zaD at h
   refine aC (aO rfl ei (az (cm ?_)))
   refine bG rfl h (fun h=>?_) (fun h=>?_)
   ·
    refine bH (cz (cm (cy (aC (ac 1 rfl ?_)))))
    obtain⟨q1,C,h⟩:=bj h
    refine gq c C bP nX rfl dc rfl rfl rfl (oz (m:=n+(y:Int).toNat) (j:=0) (i:=0) (q:=q1) (cs:=(il q1)) z rfl (by omega) oe rfl dc rfl (cI c C) rfl rfl rfl ?_)
    refine eN sS rfl dc (fun b1=>?_)
    refine ac 1 rfl (eH (k:=0) (vs:=(il q1)) (l':=(il q1)) nX rfl rfl rfl rfl rfl (show _≤_ by simp) rfl rfl ?_)
    refine az (cm (aC (ac 2 rfl (iO a rfl dc rfl bP (aO rfl fG (az ?_))))))
    refine bG rfl h (fun h=>?_) (fun h=>?_)
    ·
     refine aC (ac 1 rfl (az (bI (bT (cE (bT (bT (cE (bT ?_)))))))))
     cases h
     exact dk 6 fq
    refine bH (cz (aC (ac 2 rfl ?_)))
    obtain⟨q2,B,h⟩:=bj h
    refine gq a B bP nX rfl dc rfl rfl rfl (oz (m:=l+(y:Int).toNat) (j:=0) (i:=1) (q:=q2) (cs:=(il q2)) z rfl (by omega) oe rfl dc rfl (cI a B) rfl rfl rfl ?_)
    refine eN sS rfl dc (fun L=>?_)
    refine eH (k:=1) (vs:=(il q2)) (l':=(il q2)) nX rfl rfl rfl rfl rfl (show _≤_ by simp) rfl rfl ?_
    refine cv (ac 1 rfl (gM (k:=0) (cs:=(il q1)) oe rfl dc rfl rfl rfl rfl (gM (k:=1) (cs:=(il q2)) oe rfl dc rfl rfl rfl rfl ?_)))
    obtain⟨J,F,h⟩:=bj h
    refine dq (v:=zI J) (vs:=[.agg (il q1).toArray,.agg (il q2).toArray]) rfl dc rfl rfl rfl KX (PB (p1:=q1) (q1:=q2) F) (ac 1 rfl (cv (ac 1 rfl (aO rfl nc (az ?_)))))
    refine bG rfl h (fun h=>?_) (fun h=>?_)
    ·
     refine aC (ac 2 rfl (az (bI (cE (bT (bT (cE (bT ?_))))))))
     cases h
     exact dk 6 fq
    refine bH (cw (cz (ct ?_)))
    obtain⟨H,h⟩:=bC h
    refine aO rfl (dN (r:=y+1) (ai _ H)) (ac 1 rfl (bU ?_))
    subst x
    exact ff (D,y+1) h (av _) rfl (aT rfl) ad
   refine dZ (cA (cA (ed ?_)))
   exact bx () h rfl (aT rfl) ad
 rintro _ h
 rw[G] at h
 refine cm (aC (ac 1 rfl (iO c rfl dc rfl bP (ac 1 rfl (iO a rfl dc rfl bP (aO rfl ei (az ?_)))))))
 refine bG rfl h (fun h=>?_) (fun h=>?_)
 ·
  refine aC (ac 1 rfl (az (bI (bT ?_))))
  cases h
  exact dk 6 fq
 refine bH (cz (aC (ac 1 rfl (az (bI ?_)))))
 cases h
 exact dk 6 fq
def CM (o1:cK) (a1:ab) (b1:ab):Option (Int×Int) := aU (decide (a1=b1)) ( some (0,0)
) ( cJ (fun (j1:Option (Int×Int))=> aX (xo o1 a1) fun (r1:(List db))=> aX (xo o1 b1) fun (r2:(List db))=> aX (CJ r1 r2) fun (r3:Int)=> aU ((r3:Int) != 0) ( aX (xr r3) fun (r4:Int)=> some (r4,1)
) ( aX (CK r1 r2) fun (r5:Int)=> aU ((r5:Int) != 0) ( aX (xr r5) fun (r6:Int)=> some (r6,2)
) ( aX (CL r1 r2) fun (r7:Int)=> aU ((r7:Int) != 0) ( aX (xr r7) fun (r8:Int)=> some (r8,3)
) ( j1
)
)
)
) ( some (cZ a1.data.toList b1.data.toList,4)
)
)
theorem PF {bo1:Nat} {o1:cK} {o1_h0 o1_h1 o1_h2 o1_h3 o1_h4:Hd} {a1:ab} {b1:ab} {r:(Int×Int)} (h:CM o1 a1 b1=some r):iv prog 16 [zP bo1,.string a1,.string b1] [cells bo1 [o1_h0.v,.map (some (aV o1_h1)),.map (some (aV o1_h2)),.map (some (aV o1_h3)),o1_h4.v] 72,bo o1_h0.v o1.units,cq (fun n:ab=>aa n) (fun n:Int=>ax .i64 n) (aV o1_h1) o1.place,dh (aV o1_h2) o1.fors,cq (fun n:ab=>aa n) (fun n:Bool=>am n) (aV o1_h3) o1.skips,bo o1_h4.v o1.lines] [] (fun _:Unit=>(.tuple #[zI r.1,zI r.2])) (fun _=>[]):=by
 unfold CM at h
 refine iv.intro func16 rfl ntmps16 (by simp) ?_
 intro w0 K d
 refine aC (ac 2 rfl (az (cm (aC (ac 1 rfl (aO rfl (vI jW) (ac 3 rfl ?_)))))))
 refine aO rfl lf (ac 1 rfl (az ?_))
 refine bG rfl h (fun h=>?_) (fun h=>?_)
 ·
  refine aC (ac 2 rfl (az (bI (bT ?_))))
  cases h
  exact eO (rs:=[.tmp 6,.tmp 7]) () (.inl rfl) nu (.cons (.tmp rfl) (.cons (.tmp rfl) .nil)) rfl ad
 refine bH (cz ?_)
 obtain⟨M,C,h⟩:=cP h
 refine c8 (β:=Unit) 2 rfl (fun b=>M=some r) (fun b=>[]) (fun b=>[(1,.string a1),(2,.string b1)]) (fun b=>[]) (fun cut=>?_) ?_
 ·
  refine aC (ac 2 rfl ?_)
  obtain⟨f,B,h⟩:=bj h
  refine ua (vs:=[zP bo1,.string a1]) d rfl dc rfl rfl rfl Az (Cu (bo1:=bo1) (o1:=o1) (o1_h0:=o1_h0) (o1_h1:=o1_h1) (o1_h2:=o1_h2) (o1_h3:=o1_h3) (o1_h4:=o1_h4) B) ad (.ro 0 rfl (.ro 1 rfl (.ro 2 rfl (.ro 3 rfl (.ro 4 rfl (.ro 5 rfl .nil)))))) ?_
  rintro O
  refine jd (k:=0) rfl (fun c E=>?_)
  subst E
  refine ac 2 rfl ?_
  obtain⟨e,z,h⟩:=bj h
  refine ua (vs:=[zP bo1,.string b1]) d rfl dc rfl rfl rfl Az (Cu (bo1:=bo1) (o1:=o1) (o1_h0:=o1_h0) (o1_h1:=o1_h1) (o1_h2:=o1_h2) (o1_h3:=o1_h3) (o1_h4:=o1_h4) z) ad (.ro 0 rfl (.ro 1 rfl (.ro 2 rfl (.ro 3 rfl (.ro 4 rfl (.ro 5 rfl .nil)))))) ?_
  rintro N
  refine jd (k:=1) rfl (fun a D=>?_)
  subst D
  refine ac 2 rfl (cv ?_)
  refine eU (v:=.agg #[.func (.func 44) #[] #[],.func (.func 45) #[] #[],.func (.func 47) #[] #[]]) (ps:=[(0,.func 44),(1,.func 45),(2,.func 47)]) rfl dc rfl (fun _=>by kernel_rfl) ?_
  refine eN Ks rfl dc (fun P=>?_)
  refine eH (k:=2) (vs:=[.func (.func 44) #[] #[],.func (.func 45) #[] #[],.func (.func 47) #[] #[]]) (l':=[.func (.func 44) #[] #[],.func (.func 45) #[] #[],.func (.func 47) #[] #[]]) Kf rfl rfl rfl rfl rfl (show _≤_ by simp) rfl rfl ?_
  refine az (cut (aC (gM (k:=2) (cs:=[.func (.func 44) #[] #[],.func (.func 45) #[] #[],.func (.func 47) #[] #[]]) J9 rfl dc rfl rfl rfl rfl (ac 1 rfl (az (cy (Ef 4 (sP (aC ?_)))))))))
  refine aO rfl (sK (show am (decide ((0:Int)<3))=am true from aL am dc) ei) (az (cm (iH rfl (bH (cz (cm (cy (aC (ac 1 rfl ?_)))))))))
  refine ny (v:=.func (.func 44) #[] #[]) rfl dc rfl rfl (fun _=>by kernel_rfl) ?_
  refine ac 2 rfl (cv (ac 3 rfl ?_))
  refine kG (k:=0) rfl (fun p=>?_)
  refine kG (k:=1) rfl (fun m=>?_)
  obtain⟨H,y,h⟩:=bj h
  refine nj (v:=zI H) (vs:=[c.v,a.v,.func (.func 44) #[] #[]]) d rfl dc rfl rfl rfl AB (PC p m y) (.own (As:=[jQ c.v f]) (aH [0] kr rfl) (fun _ _ h=>nU qi (aI.1 h)) (.own (As:=[jQ a.v e]) (aH [1] kr rfl) (fun _ _ h=>nU qi (aI.1 h)) .nil)) ?_
  refine ac 1 rfl (cv (ac 1 rfl (aO rfl nc (az ?_))))
  refine bG rfl h (fun h=>?_) (fun h=>?_)
  ·
   refine aC (ac 1 rfl ?_)
   obtain⟨L,x,h⟩:=bj h
   refine dq (v:=zI L) (vs:=[zI H]) rfl dc rfl rfl rfl AC (CI x) (ac 1 rfl (aO rfl (dN (r:=1) dc) (ac 2 rfl (az (bI (cE (bT (bT (cE (bT ?_))))))))))
   cases h
   exact eO (rs:=[.tmp 6,.tmp 7]) () (.inl rfl) nu (.cons (.tmp rfl) (.cons (.tmp rfl) .nil)) rfl ad
  refine bH (cw (cz (ct (aO rfl (dN (r:=1) dc) (ac 1 rfl (bU (vQ (sP (aC (aO rfl (sK (show am (decide ((1:Int)<3))=am true from aL am dc) ei) (az ?_)))))))))))
  refine cm (iH rfl (bH (cz (cm (cy (aC (ac 1 rfl ?_)))))))
  refine ny (v:=.func (.func 45) #[] #[]) rfl dc rfl rfl (fun _=>by kernel_rfl) ?_
  refine ac 2 rfl (cv (ac 3 rfl ?_))
  refine kG (k:=0) rfl (fun l=>?_)
  refine kG (k:=1) rfl (fun j=>?_)
  obtain⟨G,w,h⟩:=bj h
  refine nj (v:=zI G) (vs:=[c.v,a.v,.func (.func 45) #[] #[]]) d rfl dc rfl rfl rfl AB (PD l j w) (.own (As:=[jQ c.v f]) (aH [0] kr rfl) (fun _ _ h=>nU qi (aI.1 h)) (.own (As:=[jQ a.v e]) (aH [1] kr rfl) (fun _ _ h=>nU qi (aI.1 h)) .nil)) ?_
  refine ac 1 rfl (cv (ac 1 rfl (aO rfl nc (az ?_))))
  refine bG rfl h (fun h=>?_) (fun h=>?_)
  ·
   refine aC (ac 1 rfl ?_)
   obtain⟨J,u,h⟩:=bj h
   refine dq (v:=zI J) (vs:=[zI G]) rfl dc rfl rfl rfl AC (CI u) (ac 1 rfl (aO rfl (dN (r:=2) dc) (ac 2 rfl (az (bI (cE (bT (bT (cE (bT ?_))))))))))
   cases h
   exact eO (rs:=[.tmp 6,.tmp 7]) () (.inl rfl) nu (.cons (.tmp rfl) (.cons (.tmp rfl) .nil)) rfl ad
  refine bH (cw (cz (ct (aO rfl (dN (r:=2) dc) (ac 1 rfl (bU (vQ (sP (aC (aO rfl (sK (show am (decide ((2:Int)<3))=am true from aL am dc) ei) (az ?_)))))))))))
  refine cm (iH rfl (bH (cz (cm (cy (aC (ac 1 rfl ?_)))))))
  refine ny (v:=.func (.func 47) #[] #[]) rfl dc rfl rfl (fun _=>by kernel_rfl) ?_
  refine ac 2 rfl (cv (ac 3 rfl ?_))
  refine kG (k:=0) rfl (fun i=>?_)
  refine kG (k:=1) rfl (fun g=>?_)
  obtain⟨F,t,h⟩:=bj h
  refine nj (v:=zI F) (vs:=[c.v,a.v,.func (.func 47) #[] #[]]) d rfl dc rfl rfl rfl AB (PE i g t) (.own (As:=[jQ c.v f]) (aH [0] kr rfl) (fun _ _ h=>nU qi (aI.1 h)) (.own (As:=[jQ a.v e]) (aH [1] kr rfl) (fun _ _ h=>nU qi (aI.1 h)) .nil)) ?_
  refine ac 1 rfl (cv (ac 1 rfl (aO rfl nc (az ?_))))
  refine bG rfl h (fun h=>?_) (fun h=>?_)
  ·
   refine aC (ac 1 rfl ?_)
   obtain⟨I,q,h⟩:=bj h
   refine dq (v:=zI I) (vs:=[zI F]) rfl dc rfl rfl rfl AC (CI q) (ac 1 rfl (aO rfl (dN (r:=3) dc) (ac 2 rfl (az (bI (cE (bT (bT (cE (bT ?_))))))))))
   cases h
   exact eO (rs:=[.tmp 6,.tmp 7]) () (.inl rfl) nu (.cons (.tmp rfl) (.cons (.tmp rfl) .nil)) rfl ad
  refine bH (cw (cz (ct (aO rfl (dN (r:=3) dc) (ac 1 rfl (bU (vQ (sP (aC (aO rfl (sK (show am (decide ((3:Int)<3))=am false from aL am dc) ei) (az ?_)))))))))))
  refine cm (eQ rfl (dZ (cA (cA (ed ?_)))))
  exact bx () h rfl (aT rfl) ad
 rintro _ h
 rw[C] at h
 refine aC (ac 2 rfl (dq (v:=zI (cZ a1.data.toList b1.data.toList)) (vs:=[.string a1,.string b1]) rfl dc rfl rfl rfl AA (A5 a1 b1) (ac 2 rfl (az (bI ?_)))))
 cases h
 exact eO (rs:=[.tmp 6,.tmp 7]) () (.inl rfl) nu (.cons (.tmp rfl) (.cons (.tmp rfl) .nil)) rfl ad
def zds (o1:cK) (j1:Option ab) (r1:(List db)) (ag1:Option ab):Option ab := aU (decide ((0:Int)<(r1.length:Int))) ( aX (zcy r1 0) fun (q1:db)=> aU ((q1.sort:Int)==3) ( aX (zcy o1.units q1.place) fun (q2:ab)=> aX (ss q2) fun (r2:ab)=> aX (CE r2) fun (r3:ab)=> some r3
) ( aU ((q1.sort:Int)==2) ( some (⟨#[48,45,57]⟩:ab)
) ( j1
)
)
) ( j1
)
def CN (o1:cK) (s1:ab):Option ab := cJ (fun (j1:Option ab)=> aX (xo o1 s1) fun (r1:(List db))=> zaI none (zds o1 j1 r1) zbH
) ( some (⟨#[63]⟩:ab)
)
theorem PG {bo1:Nat} {o1:cK} {o1_h0 o1_h1 o1_h2 o1_h3 o1_h4:Hd} {t:ab} {r:ab} (h:CN o1 t=some r):iv prog 23 [zP bo1,.string t] [cells bo1 [o1_h0.v,.map (some (aV o1_h1)),.map (some (aV o1_h2)),.map (some (aV o1_h3)),o1_h4.v] 72,bo o1_h0.v o1.units,cq (fun n:ab=>aa n) (fun n:Int=>ax .i64 n) (aV o1_h1) o1.place,dh (aV o1_h2) o1.fors,cq (fun n:ab=>aa n) (fun n:Bool=>am n) (aV o1_h3) o1.skips,bo o1_h4.v o1.lines] [] (fun _:Unit=>(.string r)) (fun _=>[]):=by
 unfold CN at h
 refine iv.intro func23 rfl ntmps23 (by simp) ?_
 intro w0 K a
 obtain⟨p,B,h⟩:=cP h
 refine c8 (β:=Unit) 1 rfl (fun b=>p=some r) (fun b=>[]) (fun b=>[]) (fun b=>[]) (fun cut=>?_) ?_
 ·
  refine aC (ac 1 rfl (az (cut (aC (ac 1 rfl (aO rfl (Jn jW) (az (iH rfl (cm ?_)))))))))
  refine ct (ac 2 rfl ?_)
  obtain⟨e,z,h⟩:=bj h
  refine ua (vs:=[zP bo1,.string t]) a rfl dc rfl rfl rfl Az (Cu (bo1:=bo1) (o1:=o1) (o1_h0:=o1_h0) (o1_h1:=o1_h1) (o1_h2:=o1_h2) (o1_h3:=o1_h3) (o1_h4:=o1_h4) z) ad (.ro 0 rfl (.ro 1 rfl (.ro 2 rfl (.ro 3 rfl (.ro 4 rfl (.ro 5 rfl .nil)))))) ?_
  rintro H
  refine jd (k:=0) rfl (fun l C=>?_)
  subst C
  refine iA (k:=0) rfl dc rfl rfl bP (ac 1 rfl (az (cy ?_)))
  refine fh (β:=Nat) (fun b=>zaI none (zds o1 p e) b=some r) (fun b=>[]) (fun b=>[(0,zP bo1),(11,l.v),(12,zI (e.length:Int)),(13,zI 0)]) (fun b=>[jQ l.v e]) (fun b=>b) zbH h rfl (aT rfl) (aH [0] kr rfl) ?_
  rintro w h
  cases w with
  | zero=>exact fa h
  | succ w=>
   obtain⟨E,m⟩:∃ag,ag=zaI none (zds o1 p e) w:=⟨_,rfl⟩
   have h:zds o1 p e E=some r:=by rw[m];exact h
   unfold zds at h
   refine aC (aO rfl ei (az (cm ?_)))
   refine bG rfl h (fun h=>?_) (fun h=>?_)
   ·
    refine bH (cz (cm (cy (aC ?_))))
    obtain⟨q1,g,h⟩:=bj h
    refine fO (k:=0) g bP nX rfl dc rfl rfl rfl rfl (mR (i:=(0:Int).toNat) (j:=0) (k:=0) (q:=q1) (cs:=(il q1)) oe qi rfl dc rfl rfl (fb g) rfl rfl rfl ?_)
    refine eN sS rfl dc (fun b1=>?_)
    refine eH (k:=1) (vs:=(il q1)) (l':=(il q1)) nX rfl rfl rfl rfl rfl (show _≤_ by simp) rfl rfl ?_
    refine az (cm (aC (cf Ak rfl dc rfl (show _=0 from rfl) (bF (k:=1) dQ rfl dc rfl rfl rfl (az (cy (aC (aO rfl eE (ac 1 rfl ?_)))))))))
    refine az ?_
    refine bG rfl h (fun h=>?_) (fun h=>?_)
    ·
     refine cm ?_
     obtain⟨q2,f,h⟩:=bj h
     obtain⟨F,y,h⟩:=bj h
     obtain⟨G,x,h⟩:=bj h
     refine jc 6 [(0,21,zP bo1),(1,22,zP bo1),(2,23,zP bo1),(3,24,o1_h0.v),(4,25,.pointer (some ⟨b1,1,none⟩)),(5,26,zI q1.place)] mixed kr kr dc (by rfl) kr kr (gY 1 0 rfl (bR ?_ (bR ?_ (bR ?_ (bR ?_ (bR ?_ bK)))))) ?_
     · exact fun D n d c u i=>fX rfl dc (bq 0 u d) (bm 1 u i)
     · exact fun D n d c u i=>cf sR rfl dc (bq 1 u d) (show _=0 from rfl) (bm 2 u i)
     · exact fun D n d c u i=>lT (i:=0) a rfl lA rfl dc (bq 2 u d) rfl (bm 3 u i)
     · exact fun D n d c u i=>cf Al rfl dc (dE (by rfl) rfl) (show _=1 from rfl) (bm 4 u i)
     · exact fun D n d c u i=>bF (k:=1) dQ rfl dc (bq 4 u d) rfl rfl (bm 5 u i)
     refine gq (a.vw (i:=1) rfl) f aD gm rfl dc rfl rfl rfl (vW (n:=0+(q1.place:Int).toNat) (j:=0) (i:=1) (q:=q2) a rfl ea ga rfl dc rfl (cI (a.vw (i:=1) rfl) f) rfl dc rfl (dq (v:=.string F) (vs:=[.string q2]) rfl dc rfl rfl rfl Aw (BV y) (dq (v:=.string G) (vs:=[.string F]) rfl dc rfl rfl rfl KY (Py x) (ac 1 rfl (az (bI (cE (bT (cE (bT (bT (cE ?_))))))))))))
     refine bT ?_
     cases h
     exact dk 4 results23
    refine aC (aO rfl eE (ac 1 rfl (az ?_)))
    refine bG rfl h (fun h=>?_) (fun h=>?_)
    ·
     refine aC (ac 1 rfl (az (bI (cE (bT (cE (bT (bT (cE (bT ?_))))))))))
     cases h
     exact dk 4 results23
    refine bH (cw (cz (dZ (vz dc (cA (cA (ed ?_)))))))
    exact bx () h rfl (qG) ad
   refine dZ (cA (cA (ed ?_)))
   exact bx () h rfl (qG) ad
 rintro _ h
 rw[B] at h
 refine aC (ac 1 rfl (az (bI ?_)))
 cases h
 exact dk 4 results23
abbrev cb:=cZ
def be:Nat→Nat→List UInt8
 | 0,_=>[]
 | k+1,m=>ru (m / 256 ^ k)::be k (m % 256 ^ k)
structure RY (e:El):Prop where
 so:e.sort=1∨e.sort=2∨e.sort=3∨e.sort=4
 pl:0≤e.place∧e.place<65536
 di:e.digits.size≤300000
 nd:e.sort≠2→e.digits=aA
 ma:∀c∈e.marks.data.toList,c≠0
 ml:e.marks.size≤300000
 gr:e.great=0∨e.great=1
def c1 (e:El):List UInt8:=be 1 e.sort.toNat++be 2 e.place.toNat++(if e.sort=2 then be 4 e.digits.size++e.digits.data.toList else [])
def k1 (x:List El):List UInt8:=x.flatMap c1++[0]
def k2 (x:List El):List UInt8:=x.flatMap fun e=>e.marks.data.toList++[0]
def k3 (x:List El):List UInt8:=x.map fun e=>ru e.great.toNat
def PH (o:zc):Prop:=∀u i,o.p u=some i→0≤i∧i<65536
theorem zg:∀ {l:List Tk},(∀x∈l,x.2.size≤4)→(mX l).size≤4*l.length
 | [],_=>bJ _
 | x::l,h=>by
  have h2:=zg (l:=l) fun y hy=>h y (aq _ hy)
  have h1:=h x (aB ..)
  unfold mX at h2 ⊢
  rw[j0,aK,aj];omega
theorem vk {t:dV} (h:nF t):t.bs.length≤4:=by
 rcases h with h | h
 ·rw[h.2];exact (xZ t.r).2
 ·unfold dV.broken at h;simp at h;omega
structure RZ (o:cK):Prop where
 fo:Pp (HG o)
 pl:PH (HG o)
def ba (l:List UInt8):ab:=⟨l.toArray⟩
theorem pc (l:List UInt8):(ba l).data.toList=l:=by unfold ba;simp
theorem tw (l:List UInt8):(ba l).size=l.length:=by rw[kL,pc]
theorem PI:((List.range 1120).all fun n=>!dw (n:Int)||(dw (ee (n:Int))&&decide (ee (ee (n:Int))=ee (n:Int))&&!great (ee (n:Int))&&(decide (zbL (n:Int) tabS≠none)||decide (zbL (ee (n:Int)) tabS=none))))=true:=by decide +kernel
theorem sv {r:Int} (h:dw r=true):dw (ee r)=true∧ee (ee r)=ee r∧great (ee r)=false∧(zbL r tabS=none→zbL (ee r) tabS=none):=by
 have h1:=mG r h
 have:=bz.1 PI r.toNat (List.mem_range.2 (by omega))
 rw[show ((r.toNat:Nat):Int)=r by omega,h] at this
 simp only[Bool.not_true,ik,aR,decide_eq_true_eq,Bool.or_eq_true,cN] at this
 exact⟨this.1.1.1,this.1.1.2,this.1.2,fun a=>this.2.resolve_left (fun h=>h a)⟩
def gI (x:Tk):Tk:=if kK x then (ee x.1,af (ee x.1)) else x
def iL (s:ab):ab:=mX ((ky s).map gI)
def gS (c:bd×List bd):List Int:=ee c.1.Rune::(kx c++lm c)
theorem HL:su (gZ gS):=B4 (fun c _=>by unfold gS;simp) (fun c hc a hm r hr=>by
 obtain⟨h1,h2⟩:=y5 hm
 unfold gS at hr
 rcases bE.1 hr with rfl | hr
 ·exact .inl (sv hc).1
 ·rcases bO.1 hr with hr | hr
  ·exact .inr (h1 r hr)
  ·exact .inr (h2 r hr))
theorem PJ:∀c:bd×List bd,dz c.1=true→zbL c.1.Rune tabS=none→(∀m∈c.2,isM m=true)→∀t,(gZ gS c).head?=some t→eC (zfM t).Rune=false:=by
 intro c hL a hm t ht
 have e:gZ gS c=(ee c.1.Rune::(kx c++lm c)).map kw:=by unfold gZ;rw[hL];rfl
 rw[e] at ht
 exact HA (sv hL).1 t ht
theorem CO (s:ab) (a:s.size≤65536):oI s=(iQ (gj s.data.toList)).flatMap (gZ gA):=B3 OO (OP s a)
theorem CP {r:Int} (h:vr r):tkT (kw r)=(r,af r):=by
 have hv:=s0 (BU h)
 have e:(kw r).bs=(af r).data.toList:=(o0 r).symm
 unfold tkT
 rw[hv,ar (by simp),e]
 have:(((kw r).r:Nat):Int)=r:=by show ((r.toNat:Nat):Int)=r;unfold vr at h;omega
 rw[this]
def oJ (t:dV):dV:=if kK (tkT t) then kw (ee (tkT t).1) else t
theorem zh (t:dV):tkT (oJ t)=gI (tkT t):=by
 unfold oJ gI
 cases h:kK (tkT t) with
 | true=>
  rw[ay rfl,ay rfl]
  exact CP (vc (sv (show dw (tkT t).1=true from h)).1)
 | false=>rw[ar (by simp),ar (by simp)]
theorem PK {s:ab} (f:s.size≤65536):∀c∈iQ (gj s.data.toList),(gZ gA c).map oJ=gZ gS c:=by
 intro c hc
 rcases y6 (ql _) c hc with⟨a,e,d⟩ | ⟨a,e,t,d,g4⟩
 ·obtain⟨h1,h2⟩:=y5 e
  have e1:gZ gA c=(c.1.Rune::(kx c++lm c)).map kw:=by unfold gZ;rw[a,y7];rfl
  have e2:gZ gS c=(ee c.1.Rune::(kx c++lm c)).map kw:=by unfold gZ;rw[a];rfl
  rw[e1,e2,aE,aE,aE]
  have hx:tkT (kw c.1.Rune)=(c.1.Rune,af c.1.Rune):=CP (vc a)
  congr 1
  ·unfold oJ
   rw[hx]
   exact ay (show dw c.1.Rune=true from a)
  ·rw[ce]
   refine dF fun m hm=>?_
   have b:eC m=true:=by
    rcases bO.1 hm with hm | hm
    ·exact h1 m hm
    ·exact h2 m hm
   show oJ (kw m)=kw m
   unfold oJ
   rw[CP (y3 b)]
   exact ar (by show ¬ dw m=true;rw[pH b];simp)
 ·have e1:∀g,gZ g c=[t]:=fun g=>by unfold gZ;rw[a,g4,tv d];rfl
  rw[e1,e1]
  have hL:kK (tkT t)=false:=by
   have:dz (zfM t)=false:=by rw[← g4];exact a
   exact this
  show [oJ t]=[t]
  unfold oJ
  rw[hL,ar (by simp)]
theorem HM {α β:Type} {f g:α→List β}:∀ {l:List α},(∀x∈l,f x=g x)→l.flatMap f=l.flatMap g
 | [],_=>rfl
 | x::l,h=>by rw[aG,aG,h x (aB ..),HM fun y hy=>h y (aq _ hy)]
theorem HN {s:ab} (a:s.size≤65536):(oI s).map oJ=(iQ (gj s.data.toList)).flatMap (gZ gS):=by
 rw[CO s a,List.map_flatMap]
 exact HM (PK a)
theorem PL (ts:List dV):(mX ((ts.map tkT).map gI)).data.toList=ep (ts.map oJ):=by
 rw[← Cw,ce,ce]
 congr 1;congr 1;congr 1
 exact dF fun t _=>(zh t).symm
theorem CQ (s:ab) (a:s.size≤65536):(iL s).data.toList=ep ((iQ (gj s.data.toList)).flatMap (gZ gS)):=by
 rw[← HN a];exact PL _
theorem CR (s:ab) (a:s.size≤65536):gj (iL s).data.toList=(oI s).map oJ:=by
 rw[HN a];exact B3 HL (CQ s a)
def rl (c:bd×List bd):ab:=if dz c.1 then iU (gS c) else c.1.Text
theorem HO (c:bd×List bd):kx (mw c)=kx c∧lm (mw c)=lm c:=by
 unfold kx lm
 have:=xi c.2
 constructor
 ·show (loI (c.2.map je)).map _=_;rw[this.1,ce];rfl
 ·show (hiI (c.2.map je)).map _=_;rw[this.2,ce];rfl
theorem HP (c:bd×List bd):rl (mw c)=rl c:=by
 unfold rl gS
 rw[(HO c).1,(HO c).2];rfl
theorem HQ (s:ab) (a:s.size≤65536):J rl (jL s)=iL s:=by
 apply pP
 rw[CQ s a]
 exact B5 HP (fun c hL _ _=>by unfold rl;rw[hL];rfl) (fun c hL _=>by unfold rl;rw[hL];rfl) s a
theorem PM {c:bd×List bd} (hL:dz c.1=true) (hm:∀m∈c.2,isM m=true) (i:zbL c.1.Rune tabS=none):∃d:bd×List bd,iQ (gZ gS c)=[d]∧dz d.1=true∧kv d.1∧(∀m∈d.2,isM m=true∧kv m)∧d.1.Rune=ee c.1.Rune∧kx d=kx c∧lm d=lm c:=by
 obtain⟨h1,h2⟩:=y5 hm
 have e:gZ gS c=(ee c.1.Rune::(kx c++lm c)).map kw:=by unfold gZ;rw[hL];rfl
 have hp:gp (ee c.1.Rune)=[ee c.1.Rune]:=by unfold gp;rw[(sv hL).2.2.2 i]
 have:=Hz (c:=(jR (ee c.1.Rune),[])) (sv hL).1 (st:=kx c++lm c) (fun m hm=>by
  rcases bO.1 hm with hm | hm
  ·exact h1 m hm
  ·exact h2 m hm) hp rfl
 obtain⟨o1,h,g,f,j⟩:=this
 rw[← e] at o1
 refine⟨_,o1,h,g,f,rfl,?_⟩
 obtain⟨k1,k2⟩:=Ht (ee c.1.Rune) ([]++(kx c++lm c))
 obtain⟨b,a⟩:=Hu c
 rw[k1,k2,bt,qE,qE,(y8 b).1,(y8 b).2,(y9 a).1,(y9 a).2]
 simp
theorem CS (s:ab) (a:s.size≤65536):lZ (iL s)=iL s:=by
 rw[← HQ s a]
 refine Hm HL PJ y2 HP a (x:=J rl (jL s)) (by rw[HQ s a];exact CQ s a) (fun c hL hm e b=>?_) (fun y hy=>by unfold rl;rw[hy];rfl)
 obtain⟨d,d1,d2,d3,d4,d5,d6,d7⟩:=PM hL (fun m h=>(hm m h).1) e
 rw[d1,j0,qw,bW,Ch d2 d3 d4,y7,d5,d6,d7]
 unfold rl
 rw[hL];rfl
theorem PN (s:ab) (a:s.size≤65536):oI (iL s)=(oI s).map oJ:=by
 unfold oI
 rw[CS s a];exact CR s a
theorem HR (s:ab) (a:s.size≤65536):ky (iL s)=(ky s).map gI:=by
 unfold ky
 rw[PN s a,ce,ce]
 exact dF fun t _=>zh t
theorem HS (i:Nat) (t:dV) (h:nF t):ve (pT i t)=some (kK (tkT t)):=by
 unfold ve
 refine zbx (zd h) ?_
 show some ((gN t.broken (t.r:Int):Int)==1)=_
 rw[HJ,Pl]
theorem PO (i:Nat) (t:dV) (h:nF t):vf (pT i t)=some (pb (tkT t)):=by
 unfold vf
 refine zbx (zd h) ?_
 show some ((gN t.broken (t.r:Int):Int)==2)=_
 rw[HJ,Pm]
theorem zi {x:Tk} (h:x.2.size≤4):(gI x).2.size≤4:=by
 unfold gI
 split
 ·exact oG _
 ·exact h
theorem HT (S:ab) (j:S.size≤1000000000):∀ (ts A:List dV) (b:ab),S.data.toList=ep (A++ts)→(∀t∈ts,nF t)→b.size+4*ts.length≤100000000000 →
  zcM (fun c=>(some c:Option ab)) (zde S) (pL (ep A).length ts) b=some (b++mX ((ts.map tkT).map gI))
 | [],A,b,_,_,_=>by
  rw[pL,zM]
  show some b=some (b++aA)
  rw[bW]
 | t::ts,A,b,hd,hok,hb=>by
  have ht:=hok t (aB ..)
  have g:(ep A).length+(t.bs.length+(ep ts).length)=S.size:=by rw[kL,hd,oi,qk,ah,ah]
  have e:(ep A).length+t.bs.length=(ep (A++[t])).length:=by rw[oi,ah];simp[ep]
  rw[aj] at hb
  have next:∀x:ab,x.size≤4→zcM (fun c=>(some c:Option ab)) (zde S) (pL ((ep A).length+t.bs.length) ts) (b++x)=some ((b++x)++mX ((ts.map tkT).map gI)):=fun x hx=>by
   rw[e]
   exact HT S j ts (A++[t]) (b++x) (by rw[hd,aM];rfl) (fun y hy=>hok y (aq _ hy)) (by rw[aK];omega)
  rw[pL,nz]
  generalize i:zcM (fun c=>(some c:Option ab)) (zde S) (pL ((ep A).length+t.bs.length) ts)=ag at next ⊢
  unfold zde
  refine bN (HS _ t ht) ?_
  have k:mX (((t::ts).map tkT).map gI)=(gI (tkT t)).2++mX ((ts.map tkT).map gI):=by unfold mX;rw[aE,aE,j0]
  rw[k,← dS]
  cases f:kK (tkT t) with
  | true=>
   obtain⟨h1,h2,m⟩:=Pr f
   have e2:(gI (tkT t)).2=af (ee (t.r:Int)):=by unfold gI;rw[f,h1];rfl
   have l:=oG (ee (t.r:Int))
   rw[e2]
   exact cu rfl (zbx (zd ht) (zbx (by show b.size+(af (ee (t.r:Int))).size≤_;omega) (next _ l)))
  | false=>
   have e2:(gI (tkT t)).2=(tkT t).2:=by unfold gI;rw[f];rfl
   have hsz:=vk ht
   have h:(pT (ep A).length t).At+(pT (ep A).length t).Width=(((ep A).length+t.bs.length:Nat):Int):=by
    show ((ep A).length:Int)+(t.bs.length:Int)=_;push_cast;rfl
   have a:c7 S (pT (ep A).length t).At (((ep A).length+t.bs.length:Nat):Int)=(tkT t).2:=by
    have:=Pn (s:=S) (A:=A) (W:=[t]) (Z:=ts) (by rw[hd];rfl) rfl (b:=(ep A).length+t.bs.length) (by simp[ep])
    rw[show (pT (ep A).length t).At=((ep A).length:Int) from rfl,this]
    show J (·.2) [tkT t]=_
    rw[j0,qw,bW]
   have d:(tkT t).2.size≤4:=by rw[kL];show t.bs.toArray.toList.length≤4;simpa using hsz
   rw[e2]
   refine cr rfl ?_
   rw[h,a]
   exact zbx ⟨by omega,by omega⟩ (zbx ⟨by show (0:Int)≤((ep A).length:Int);omega,by show ((ep A).length:Int)≤_;omega,by omega⟩ (zbx (by omega) (next _ d)))
theorem PP (s:ab) (b:s.size≤65536):xl s=some (iL s):=by
 have h1:=(vj s b).2.1
 have h2:=zf (lZ s)
 unfold xl
 refine dv (bN (Ox s b) (bN (a:=lZ s) rfl (bN (BI _ (by omega)) (dv ?_))))
 rw[Cv]
 have:=HT (lZ s) (by omega) (gj (lZ s).data.toList) [] aA (by rw[bt,AX]) (ql _) (by show 0+_≤_;omega)
 rw[ByteArray.empty_append] at this
 exact this
def lO:Nat→List Tk→Bool
 | _,[]=>true
 | k,x::l=>decide (k+1≤8)&&(kK x||(decide (k≠0)&&pb x))&&lO (k+1) l
def zdT (s:ab):ab:=if lO 0 (ky s) then iL s else ⟨#[]⟩
theorem HU (x:Tk):kK (gI x)=kK x:=by
 unfold gI
 cases h:kK x with
 | true=>rw[ay rfl];exact (sv (show dw x.1=true from h)).1
 | false=>rw[ar (by simp)];exact h
theorem PQ (x:Tk):pb (gI x)=pb x:=by
 unfold gI
 cases h:kK x with
 | true=>
  rw[ay rfl]
  have h1:=Ce (sv (show dw x.1=true from h)).1
  have h2:=Ce (show dw x.1=true from h)
  show eC _=eC _
  rw[h1,h2]
 | false=>rw[ar (by simp)]
theorem zj:∀ (l:List Tk) (k:Nat),lO k (l.map gI)=lO k l
 | [],k=>rfl
 | x::l,k=>by rw[aE,lO,lO,zj l,HU,PQ]
theorem HV (r:ab):∀ (ts:List dV) (i k:Nat),(∀t∈ts,nF t)→k≤8 →
  zcM (fun (e:Int)=>(some r:Option ab)) (zdF (fun (d:Int)=>some (⟨#[]⟩:ab))) (pL i ts) (k:Int)=some (if lO k (ts.map tkT) then r else ⟨#[]⟩)
 | [],i,k,_,_=>rfl
 | t::ts,i,k,hok,hk=>by
  have ht:=hok t (aB ..)
  have next:=fun h=>HV r ts (i+t.bs.length) (k+1) (fun y hy=>hok y (aq _ hy)) h
  rw[pL,nz,aE,lO]
  generalize f:zcM (fun (e:Int)=>(some r:Option ab)) (zdF (fun (d:Int)=>some (⟨#[]⟩:ab))) (pL (i+t.bs.length) ts)=ag at next ⊢
  unfold zdF
  refine zbx ⟨by omega,by omega⟩ ?_
  by_cases c:k+1≤8
  ·refine cr (ae (by omega)) (bN (HS i t ht) ?_)
   have a:=next c
   push_cast at a
   rw[al c,jp]
   cases g:kK (tkT t) with
   | true=>refine cr rfl ?_;rw[a];simp
   | false=>
    refine cu rfl ?_
    by_cases h0:k=0
    ·subst h0
     refine cu (by decide) ?_
     simp
    ·have b:(((k:Int)+1:Int)==1)=false:=aS.2 (by omega)
     refine cr b (bN (PO i t ht) ?_)
     rw[ik,al h0,jp]
     cases hm:pb (tkT t) with
     | true=>refine cr rfl ?_;rw[a];simp
     | false=>refine cu rfl ?_;simp
  ·refine cu (al (by omega)) ?_
   rw[ae c];simp
theorem PR (s:ab) (b:s.size≤65536):vg s=some (zdT s):=by
 have h1:=(vj s b).2.1
 have h2:=zf (lZ s)
 have c:(iL s).size≤1000000000:=by
  have:(iL s).size≤4*((ky s).map gI).length:=zg fun y hy=>by
   obtain⟨x,hx,rfl⟩:=aW.1 hy
   obtain⟨t,ht,rfl⟩:=aW.1 hx
   refine zi ?_
   rw[kL]
   have:=vk (ql _ t ht)
   show t.bs.toArray.toList.length≤4
   simpa using this
  unfold ky oI at this
  rw[aF,aF] at this
  omega
 unfold vg
 refine dv (bN (PP s b) (bN (a:=iL s) rfl (bN (BI _ (by omega)) (dv (dv ?_)))))
 rw[Cv]
 have:=HV (iL s) (gj (iL s).data.toList) 0 0 (ql _) (by omega)
 refine this.trans ?_
 unfold zdT
 rw[CR s b]
 have e:((oI s).map oJ).map tkT=(ky s).map gI:=by
  unfold ky
  rw[ce,ce]
  exact dF fun t _=>zh t
 rw[e,zj]
def fH:List UInt8→Nat→Option (Nat×List UInt8)→List (Nat×List UInt8)
 | [],_,cur=>cur.toList
 | c::l,i,cur=>if c=32 then cur.toList++fH l (i+1) none else match cur with
  | none=>fH l (i+1) (some (i,[c]))
  | some (a,w)=>fH l (i+1) (some (a,w++[c]))
theorem vl (l:List UInt8) (i:Nat) (a:Option (Nat×List UInt8)):fH (32::l) i a=a.toList++fH l (i+1) none:=by
 cases a <;> rfl
theorem CT {c:UInt8} (h:c≠32) (l:List UInt8) (i:Nat):fH (c::l) i none=fH l (i+1) (some (i,[c])):=by
 rw[fH,ar h]
theorem CU {c:UInt8} (h:c≠32) (l:List UInt8) (i a:Nat) (w:List UInt8):fH (c::l) i (some (a,w))=fH l (i+1) (some (a,w++[c])):=by
 rw[fH,ar h]
def iB (at_:Int) (p:Nat×List UInt8):fU:=⟨at_+(p.1:Int),ba p.2⟩
theorem CV {s:ab} {k:Nat} {c:UInt8} (h:s.data.toList[k]?=some c):kR s (k:Int)=some (c.toNat:Int):=by
 unfold kR
 rw[ay (by omega),dI]
 have:s.data[k]?=some c:=by rw[← Array.getElem?_toList];exact h
 rw[this];rfl
theorem PS {s:ab} {k:Nat} {c:UInt8} (h:s.data.toList[k]?=some c):c7 s (k:Int) ((k:Int)+1)=ba [c]:=by
 apply pP
 have hk:=(au.1 h)
 have e:=xp s k (k+1)
 push_cast at e
 rw[e,pc,ow]
 obtain⟨h1,h2⟩:=hk
 rw[bB h1,h2];rfl
theorem PT (b:ab) (at_:Int) (D:b.size≤1000000000) (G : -1000000000≤at_∧at_≤1000000000) (J:List fU→Option (List fU)) :
  ∀ (n k:Nat) (E:List (Nat×List UInt8)) (d:Option (Nat×List UInt8)),k≤b.size→b.size - k<n→E.length≤k→(∀a w,d=some (a,w)→w.length≤k)→E.length+d.toList.length≤k →
   zaI (fun _ _ _=>none) (zdE b at_ J) n ((E++d.toList).map (iB at_)) d.isSome (k:Int)=J ((E++fH (b.data.toList.drop k) k d).map (iB at_)):=by
 intro n
 induction n with
 | zero=>intro k E d _ h;omega
 | succ n u=>
  intro k E d hk F H x hc
  rw[ic]
  generalize r:zaI (fun _ _ _=>none) (zdE b at_ J) n=ag
  unfold zdE
  by_cases p:k<b.size
  ·have q:k<b.data.toList.length:=by rw[← kL];exact p
   obtain⟨c,g⟩:∃c,b.data.toList[k]?=some c:=⟨_,aP q⟩
   have f:b.data.toList.drop k=c::b.data.toList.drop (k+1):=by
    rw[bB q]
    have:=aP q
    rw[g] at this
    injection this with this
    rw[this]
   refine cu (al (by omega)) (dv (bN (CV g) ?_))
   have t:(((c.toNat:Int):Int)==32)=decide (c=32):=by
    rw[Bool.eq_iff_iff,beq_iff_eq,decide_eq_true_iff]
    constructor
    ·intro h;exact UInt8.toNat_inj.1 (by show c.toNat=32;omega)
    ·intro h;subst h;rfl
   have i:=fun (C:List (Nat×List UInt8)) (m:Option (Nat×List UInt8)) h1 h2 z=>u (k+1) C m (by omega) (by omega) h1 h2 z
   push_cast at i
   rw[r] at i
   rw[t,f]
   by_cases h:c=32
   ·rw[al h,h,vl]
    refine cu rfl (zbx ⟨by omega,by omega⟩ ?_)
    have:=i (E++d.toList) none (by rw[ah];omega) (by intro a w h;cases h) (by rw[ah];show _+0≤_;omega)
    rw[show (none:Option (Nat×List UInt8)).toList=[] from rfl,aQ] at this
    refine this.trans ?_
    rw[aM]
   ·rw[ae h]
    refine cr rfl ?_
    have e:=PS g
    cases d with
    | none=>
     rw[CT h]
     refine cr rfl (zbx ⟨by omega,by omega⟩ (zbx ⟨by omega,by omega⟩ (zbx ⟨by omega,by omega,by omega⟩ (zbx (by rw[aF,ah];show _+0+1≤_;omega) (zbx ⟨by omega,by omega⟩ ?_)))))
     rw[e]
     have:=i E (some (k,[c])) (by omega) (by intro a w h;injection h with h;injection h with _ h;rw[← h];show 1≤_;omega) (by show _+1≤_;omega)
     refine Eq.trans ?_ this
     congr 1
     rw[eT,eT]
     show List.map (iB at_) E++[]++_=_
     rw[aQ];rfl
    | some B=>
     obtain⟨a,w⟩:=B
     rw[CU h]
     have v:=x a w rfl
     have j:(E++(some (a,w)).toList).map (iB at_)=E.map (iB at_)++[iB at_ (a,w)]:=by rw[eT];rfl
     have y:E.length+1≤k:=hc
     rw[j]
     have l:((E.map (iB at_)++[iB at_ (a,w)]).length:Int) - 1=(E.length:Int):=by rw[ah,aF];simp
     rw[l]
     refine cu rfl (zbx ⟨by omega,by omega⟩ (bN (jz (show (E.map (iB at_)++[iB at_ (a,w)])[E.length]?=some (iB at_ (a,w)) by
      rw[List.getElem?_append_right (by rw[aF];exact bJ _),aF,oV];rfl)) (zbx ⟨by omega,by omega⟩ (zbx ⟨by omega,by omega,by omega⟩ ?_))))
     rw[e]
     refine zbx (by show (ba w).size+(ba [c]).size≤_;rw[tw,tw];show _+1≤_;omega) (zbx ⟨by omega,by omega⟩ ?_)
     have:=i E (some (a,w++[c])) (by omega) (by intro I w' h;injection h with h;injection h with _ h;rw[← h,ah];show _+1≤_;omega) (by show _+1≤_;omega)
     refine Eq.trans ?_ this
     congr 1
     rw[dI,oL _ _ (by rw[aF];exact bJ _),aF,oV,eT]
     have e2:(iB at_ (a,w)).text++ba [c]=ba (w++[c]):=by
      apply pP
      rw[pO,pc,pc]
      show (ba w).data.toList++_=_
      rw[pc]
     show _++[(⟨(iB at_ (a,w)).at_,(iB at_ (a,w)).text++ba [c]⟩:fU)]=_++[iB at_ (a,w++[c])]
     rw[e2];rfl
  ·have:k=b.size:=by omega
   refine cr (ae (by omega)) ?_
   rw[cO (by rw[← kL];omega)];rfl
theorem PU (b:ab) (at_:Int) (c:b.size≤1000000000) (d : -1000000000≤at_∧at_≤1000000000):xj b at_=some ((fH b.data.toList 0 none).map (iB at_)):=by
 unfold xj
 refine dv ?_
 have:=PT b at_ c d some zbH 0 [] none (cH _) (by unfold zbH;omega) (cH _) (by intro a w h;cases h) (cH _)
 exact this
def zcp (o1:cK) (l1:List fU) (j1:ab→ab→(List ab)→Option (zat×cK)) (q2:fU) (ag1:ab→(List ab)→Int→Option (zat×cK)) (said4:ab) (forms4:List ab) (x4:Int):Option (zat×cK) := aU (decide ((x4:Int)<(l1.length:Int))) ( cJ (fun (j2:ab→(List ab)→Option (zat×cK))=> cJ (fun (j3:Int→ab→Bool→Bool→Option (zat×cK))=> aX (zcy l1 x4) fun (q3:fU)=> aU ((x4:Int)==0) ( cJ (fun (j4:ab→Option (zat×cK))=> aU (decide ((0:Int)<x4)) ( aY (said4.size+(⟨#[32,97,102,116,101,114]⟩:ab).size≤9223372036854775807) <| j4 (said4++(⟨#[32,97,102,116,101,114]⟩:ab))
) ( j4 said4
)
) (fun (said6:ab)=> j2 said6 forms4
)
) ( aU (decide (q2.text=(⟨#[112,117,116]⟩:ab))) ( aU ((x4:Int)==2) ( cJ (fun (j5:ab→Option (zat×cK))=> aU (decide ((0:Int)<x4)) ( aY (said4.size+(⟨#[32,97,102,116,101,114]⟩:ab).size≤9223372036854775807) <| j5 (said4++(⟨#[32,97,102,116,101,114]⟩:ab))
) ( j5 said4
)
) (fun (said7:ab)=> j2 said7 forms4
)
) ( j3 q3.at_ q3.text true ((x4:Int)==2)
)
) ( j3 q3.at_ q3.text false false
)
)
) (fun (wv1:Int) (wv2:ab) (x5:Bool) (x6:Bool)=> aX (vg wv2) fun (r2:ab)=> aX (zcy forms4 x4) fun (q4:ab)=> aX (zcy (forms4.set (x4:Int).toNat r2) x4) fun (q5:ab)=> aU (decide (q5=(⟨#[]⟩:ab))) ( some ((⟨221,wv1⟩:zat),o1)
) ( aX (zcy (forms4.set (x4:Int).toNat r2) x4) fun (q6:ab)=> aX (ss q6) fun (r3:ab)=> aY ((⟨#[32]⟩:ab).size+r3.size≤9223372036854775807) <| aY (said4.size+((⟨#[32]⟩:ab)++r3).size≤9223372036854775807) <| j2 (said4++((⟨#[32]⟩:ab)++r3)) (forms4.set (x4:Int).toNat r2)
)
)
) (fun (said5:ab) (forms5:List ab)=> aY (cR (x4+1)) <| ag1 said5 forms5 (x4+1)
)
) ( j1 q2.text said4 forms4
)
def zco (o1:cK) (l1:List fU) (forms1:List ab) (j6:Option (zat×cK)) (ag2:Int→Option (zat×cK)) (x9:Int):Option (zat×cK) := aU (decide ((x9:Int)<(forms1.length:Int))) ( cJ (fun (j7:Option (zat×cK))=> aX (zcy forms1 x9) fun (q11:ab)=> aU (decide ((1:Int)<x9)) ( aU (!decide (q11=(⟨#[]⟩:ab))) ( aU (!((zbL q11 o1.place).isSome)) ( aX (zcy l1 x9) fun (q12:fU)=> some ((⟨223,q12.at_⟩:zat),o1)
) ( j7
)
) ( j7
)
) ( j7
)
) ( aY (cR (x9+1)) <| ag2 (x9+1)
)
) ( j6
)
def xt (o1:cK) (l1:List fU) (end1:Int):Option (zat×cK) := aU (((o1.lines.length:Int):Int)==256) ( aX (zcy l1 0) fun (q1:fU)=> some ((⟨3,q1.at_⟩:zat),o1)
) ( aX (xk l1 end1) fun (r1:Int)=> aU (decide ((0:Int)≤r1)) ( some ((⟨220,r1⟩:zat),o1)
) ( cJ (fun (j1:ab→ab→(List ab)→Option (zat×cK))=> aX (zcy l1 0) fun (q2:fU)=> aY (0≤(l1.length:Int)∧(l1.length:Int)≤2147483648) <| zaI (fun _ _ _=>none) (zcp o1 l1 j1 q2) zbH q2.text (bA ((l1.length:Int):Int).toNat aA:List ab) 0
) (fun (verb1:ab) (said1:ab) (forms1:List ab)=> aU (decide (verb1=(⟨#[115,107,105,112]⟩:ab))) ( aX (zcy forms1 1) fun (q7:ab)=> aX (oo q7) fun (r4:ab)=> aU (((zbL r4 o1.skips).getD false)) ( aX (zcy l1 1) fun (q8:fU)=> some ((⟨222,q8.at_⟩:zat),o1)
) ( aY (o1.lines.length+1≤2147483648) <| some ((⟨0,0⟩:zat),(⟨o1.units,o1.place,o1.fors,gH r4 true o1.skips,o1.lines++[said1]⟩:cK))
)
) ( aX (zcy forms1 1) fun (q9:ab)=> aX (xm o1 q9) fun (r5:Bool)=> aU (r5) ( aX (zcy l1 1) fun (q10:fU)=> some ((⟨222,q10.at_⟩:zat),o1)
) ( cJ (fun (j6:Option (zat×cK))=> zaI (fun _=>none) (zco o1 l1 forms1 j6) zbH 0
) ( cJ (fun (j8:(List ab)→(List (ab×Int))→(List (ab×List ab))→(List (ab×Bool))→(List ab)→Option (zat×cK))=> aU (decide (verb1=(⟨#[112,117,116]⟩:ab))) ( aX (zcy forms1 3) fun (q13:ab)=> aY (cR (((zbL q13 o1.place).getD 0)+1)) <| aX (zcy forms1 1) fun (q14:ab)=> aY (0≤(((zbL q13 o1.place).getD 0)+1:Int)∧(((zbL q13 o1.place).getD 0)+1:Int)≤(o1.units.length:Int)∧o1.units.length≤2147483648) <| aX (vh (⟨iK o1.units (((zbL q13 o1.place).getD 0)+1) q14,o1.place,o1.fors,o1.skips,o1.lines⟩:cK)) fun (r6:cK)=> j8 r6.units r6.place r6.fors r6.skips r6.lines
) ( aX (zcy forms1 1) fun (q15:ab)=> aY (0≤(2:Int)∧(2:Int)≤(forms1.length:Int)∧((forms1.length:Int):Int)≤(forms1.length:Int)) <| j8 o1.units o1.place (gH q15 (fi forms1 2 (forms1.length:Int)) o1.fors) o1.skips o1.lines
)
) (fun (l2:List ab) (m1:List (ab×Int)) (m2:List (ab×List ab)) (m3:List (ab×Bool)) (l3:List ab)=> aY (l3.length+1≤2147483648) <| some ((⟨0,0⟩:zat),(⟨l2,m1,m2,m3,l3++[said1]⟩:cK))
)
)
)
)
)
)
)
theorem PV {bo1:Nat} {o1:cK} {o1_h0 o1_h1 o1_h2 o1_h3 o1_h4:Hd} {ao y:Value} {ec:List fU} {B:Nat} {M:List fU} (f:Vw ao ec 2 B y M) {T:Int} {r:(zat×cK)} (h:xt o1 M T=some r):iv prog 31 [zP bo1,y,zI T] [ji sV 2 ao B ec] [cells bo1 [o1_h0.v,.map (some (aV o1_h1)),.map (some (aV o1_h2)),.map (some (aV o1_h3)),o1_h4.v] 72,bo o1_h0.v o1.units,cq (fun n:ab=>aa n) (fun n:Int=>ax .i64 n) (aV o1_h1) o1.place,dh (aV o1_h2) o1.fors,cq (fun n:ab=>aa n) (fun n:Bool=>am n) (aV o1_h3) o1.skips,bo o1_h4.v o1.lines] (fun b:Hd×Hd×Hd×Hd×Hd=>.agg (ku r.1).toArray) (fun b=>[cells bo1 [b.1.v,.map (some (aV b.2.1)),.map (some (aV b.2.2.1)),.map (some (aV b.2.2.2.1)),b.2.2.2.2.v] 72,bo b.1.v r.2.units,cq (fun n:ab=>aa n) (fun n:Int=>ax .i64 n) (aV b.2.1) r.2.place,dh (aV b.2.2.1) r.2.fors,cq (fun n:ab=>aa n) (fun n:Bool=>am n) (aV b.2.2.2.1) r.2.skips,bo b.2.2.2.2.v r.2.lines]):=by
 unfold xt at h
 refine iv.intro func31 rfl ntmps31 (by simp) ?_
 intro w0 K H
 refine aC ?_
 refine eN qR rfl dc (fun b1=>?_)
 refine az (cm (aC (ac 1 rfl (fX rfl dc rfl (cf uf rfl dc rfl (show _=4 from rfl) (bF (k:=0) lA rfl dc rfl rfl rfl (iA (k:=5) rfl dc rfl rfl aD (aO rfl eE (az ?_)))))))))
 refine bG rfl h (fun h=>?_) (fun h=>?_)
 ·
  refine aC (ac 1 rfl ?_)
  obtain⟨q1,d2,h⟩:=bj h
  refine gq f d2 cD zip rfl dc rfl rfl rfl (cf rS rfl dc rfl (show _=(B+(0:Int).toNat)*2 from rfl) (kH (n:=B+(0:Int).toNat) (j:=0) (i:=0) (q:=q1) H rfl (by omega) dQ rfl dc rfl (cI f d2) rfl rfl ?_))
  refine eU (v:=.agg #[zI 3,zI q1.at_]) (ps:=[(0,.const (zI 3)),(1,.tmp 27)]) rfl dc rfl (fun _=>by kernel_rfl) ?_
  refine eH (k:=6) (vs:=[zI 3,zI q1.at_]) (l':=[zI 3,zI q1.at_]) jK rfl rfl rfl rfl rfl (show _≤_ by simp) rfl rfl ?_
  refine az (bI (bT ?_))
  cases h
  exact eO (rs:=[.cell 6 26]) (o1_h0,o1_h1,o1_h2,o1_h3,o1_h4) (.inl rfl) iJ (.cons (.cells jJ (k:=6) rfl rfl rfl) .nil) rfl (aH [0,1,2,3,4,5] kr rfl)
 refine bH (cz (cm (aC (ac 2 rfl ?_))))
 obtain⟨r1,eL,h⟩:=bj h
 refine nj (v:=zI r1) (vs:=[y,zI T]) H rfl dc rfl rfl rfl K5 (O5 f eL) (.ro 0 rfl .nil) (ac 1 rfl (cv (ac 1 rfl (aO rfl fG (az ?_)))))
 refine bG rfl h (fun h=>?_) (fun h=>?_)
 ·
  refine aC (ac 1 rfl ?_)
  refine eU (v:=.agg #[zI 220,zI r1]) (ps:=[(0,.const (zI 220)),(1,.tmp 34)]) rfl dc rfl (fun _=>by kernel_rfl) ?_
  refine eH (k:=6) (vs:=[zI 220,zI r1]) (l':=[zI 220,zI r1]) jK rfl rfl rfl rfl rfl (show _≤_ by simp) rfl rfl ?_
  refine az (bI (bT ?_))
  cases h
  exact eO (rs:=[.cell 6 26]) (o1_h0,o1_h1,o1_h2,o1_h3,o1_h4) (.inl rfl) iJ (.cons (.cells jJ (k:=6) rfl rfl rfl) .nil) rfl (aH [0,1,2,3,4,5] kr rfl)
 refine bH (cz ?_)
 obtain⟨j1,e7,h⟩:=cP h
 refine c8 (β:=ab×ab×(List ab)×Value) 3 rfl (fun b=>j1 b.1 b.2.1 b.2.2.1=some r) (fun b=>[]) (fun b=>[(0,zP bo1),(1,y),(6,zP b1),(8,.string b.1),(9,.string b.2.1),(10,b.2.2.2)]) (fun b=>[cells bo1 [o1_h0.v,.map (some (aV o1_h1)),.map (some (aV o1_h2)),.map (some (aV o1_h3)),o1_h4.v] 72,bo o1_h0.v o1.units,cq (fun n:ab=>aa n) (fun n:Int=>ax .i64 n) (aV o1_h1) o1.place,dh (aV o1_h2) o1.fors,cq (fun n:ab=>aa n) (fun n:Bool=>am n) (aV o1_h3) o1.skips,bo o1_h4.v o1.lines,cells b1 [zI 0,zI 0] 26,bo b.2.2.2 b.2.2.1]) (fun cut=>?_) ?_
 ·
  refine aC (ac 1 rfl ?_)
  obtain⟨q2,ds,h⟩:=bj h
  refine gq f ds cD zip rfl dc rfl rfl rfl (cf ui rfl dc rfl (show _=(B+(0:Int).toNat)*2+1 from rfl) (kH (n:=B+(0:Int).toNat) (j:=1) (i:=0) (q:=q2) H rfl (by omega) ea rfl dc rfl (cI f ds) rfl rfl (ac 1 rfl (cv (ac 2 rfl (cv ?_))))))
  refine ac 1 rfl (iO f rfl dc rfl cD ?_)
  obtain⟨fz,h⟩:=bC h
  refine DZ (z:=aA) aD nV ED ga rfl dc rfl fz (fun Q=>?_)
  refine ac 1 rfl (az (cut (aC (ac 1 rfl (iO f rfl dc rfl cD (ac 1 rfl (az (cy ?_))))))))
  refine fh (β:=Nat×ab×(List ab)×Int) (fun b=>zaI (fun _ _ _=>none) (zcp o1 M j1 q2) b.1 b.2.1 b.2.2.1 b.2.2.2=some r) (fun b=>[]) (fun b=>[(0,zP bo1),(1,y),(6,zP b1),(8,.string q2.text),(9,.string b.2.1),(10,Q),(44,y),(45,zI (M.length:Int)),(46,zI b.2.2.2)]) (fun b=>[cells bo1 [o1_h0.v,.map (some (aV o1_h1)),.map (some (aV o1_h2)),.map (some (aV o1_h3)),o1_h4.v] 72,bo o1_h0.v o1.units,cq (fun n:ab=>aa n) (fun n:Int=>ax .i64 n) (aV o1_h1) o1.place,dh (aV o1_h2) o1.fors,cq (fun n:ab=>aa n) (fun n:Bool=>am n) (aV o1_h3) o1.skips,bo o1_h4.v o1.lines,cells b1 [zI 0,zI 0] 26,bo Q b.2.2.1]) (fun b=>b.1) (zbH,q2.text,(bA ((M.length:Int):Int).toNat aA:List ab),0) h rfl (aT rfl) (aH [0,1,2,3,4,5,6,7] kr rfl) ?_
  rintro⟨n1,p,g,F⟩ h
  cases n1 with
  | zero=>exact fa h
  | succ n1=>
   obtain⟨f4,bb⟩:∃ag,ag=zaI (fun _ _ _=>none) (zcp o1 M j1 q2) n1:=⟨_,rfl⟩
   have h:zcp o1 M j1 q2 f4 p g F=some r:=by rw[bb];exact h
   unfold zcp at h
   refine aC (aO rfl ei (az (cm ?_)))
   refine bG rfl h (fun h=>?_) (fun h=>?_)
   ·
    refine bH (cz ?_)
    obtain⟨j2,e6,h⟩:=cP h
    refine c8 (β:=ab×(List ab)) 0 rfl (fun b=>j2 b.1 b.2=some r) (fun b=>[]) (fun b=>[(0,zP bo1),(1,y),(6,zP b1),(8,.string q2.text),(9,.string b.1),(10,Q),(44,y),(45,zI (M.length:Int)),(46,zI F)]) (fun b=>[cells bo1 [o1_h0.v,.map (some (aV o1_h1)),.map (some (aV o1_h2)),.map (some (aV o1_h3)),o1_h4.v] 72,bo o1_h0.v o1.units,cq (fun n:ab=>aa n) (fun n:Int=>ax .i64 n) (aV o1_h1) o1.place,dh (aV o1_h2) o1.fors,cq (fun n:ab=>aa n) (fun n:Bool=>am n) (aV o1_h3) o1.skips,bo o1_h4.v o1.lines,cells b1 [zI 0,zI 0] 26,bo Q b.2]) (fun cut=>?_) ?_
    ·
     refine cut (cy ?_)
     obtain⟨j3,e5,h⟩:=cP h
     refine c8 (β:=Int×ab×Bool×Bool×Nat) 1 rfl (fun b=>j3 b.1 b.2.1 b.2.2.1 b.2.2.2.1=some r) (fun b=>[]) (fun b=>[(0,zP bo1),(1,y),(6,zP b1),(8,.string q2.text),(9,.string p),(10,Q),(11,zI F),(12,zP b.2.2.2.2),(44,y),(45,zI (M.length:Int)),(46,zI F),(54,.string q2.text),(55,.bool (decide (q2.text=(⟨#[112,117,116]⟩:ab)))),(56,.bool b.2.2.1),(59,.bool b.2.2.2.1)]) (fun b=>[cells bo1 [o1_h0.v,.map (some (aV o1_h1)),.map (some (aV o1_h2)),.map (some (aV o1_h3)),o1_h4.v] 72,bo o1_h0.v o1.units,cq (fun n:ab=>aa n) (fun n:Int=>ax .i64 n) (aV o1_h1) o1.place,dh (aV o1_h2) o1.fors,cq (fun n:ab=>aa n) (fun n:Bool=>am n) (aV o1_h3) o1.skips,bo o1_h4.v o1.lines,cells b1 [zI 0,zI 0] 26,bo Q g,cells b.2.2.2.2 [zI b.1,.string b.2.1] 111]) (fun cut=>?_) ?_
     ·
      refine aC (ac 1 rfl ?_)
      obtain⟨S,dj,h⟩:=bj h
      refine gq f dj cD zip rfl dc rfl rfl rfl (oz (m:=B+(F:Int).toNat) (j:=0) (i:=0) (q:=S) (cs:=[zI S.at_,.string S.text]) H rfl (by omega) Kz rfl dc rfl (cI f dj) rfl rfl rfl ?_)
      refine eN KA rfl dc (fun b3=>?_)
      refine ac 1 rfl (eH (k:=8) (vs:=[zI S.at_,.string S.text]) (l':=[zI S.at_,.string S.text]) zip rfl rfl rfl rfl rfl (show _≤_ by simp) rfl rfl ?_)
      refine az (cut (aC (ac 1 rfl (aO rfl eE (ac 1 rfl ?_)))))
      refine dG (s:=53) rfl h (fun h=>?_) (fun h=>?_)
      ·
       refine ac 7 rfl (az (iH rfl ?_))
       obtain⟨j4,e4,h⟩:=cP h
       refine c8 (β:=ab) 0 rfl (fun b=>j4 b=some r) (fun b=>[]) (fun b=>[(0,zP bo1),(1,y),(6,zP b1),(8,.string q2.text),(9,.string b),(10,Q),(44,y),(45,zI (M.length:Int)),(46,zI F),(54,undef),(55,undef),(56,undef),(57,undef),(58,undef),(59,undef)]) (fun b=>[cells bo1 [o1_h0.v,.map (some (aV o1_h1)),.map (some (aV o1_h2)),.map (some (aV o1_h3)),o1_h4.v] 72,bo o1_h0.v o1.units,cq (fun n:ab=>aa n) (fun n:Int=>ax .i64 n) (aV o1_h1) o1.place,dh (aV o1_h2) o1.fors,cq (fun n:ab=>aa n) (fun n:Bool=>am n) (aV o1_h3) o1.skips,bo o1_h4.v o1.lines,cells b1 [zI 0,zI 0] 26,bo Q g]) (fun cut=>?_) ?_
       ·
        refine cut (aC (ac 1 rfl (aO rfl lK (az ?_))))
        refine bG rfl h (fun h=>?_) (fun h=>?_)
        ·
         refine ct (ac 1 rfl ?_)
         obtain⟨ft,h⟩:=bC h
         refine aO rfl (kQ ft) (ac 1 rfl (bU ?_))
         exact bx (p++(⟨#[32,97,102,116,101,114]⟩:ab)) h rfl (aT rfl) (aH [0,1,2,3,4,5,6,7] kr rfl)
        refine bH ?_
        exact bx p h rfl (aT rfl) (aH [0,1,2,3,4,5,6,7] kr rfl)
       rintro b0 h
       rw[e4] at h
       refine dZ (cA (ed ?_))
       exact bx (b0,g) h rfl (aT rfl) (aH [0,1,2,3,4,5,6,7] kr rfl)
      refine ac 1 rfl (aO rfl lf (ac 1 rfl ?_))
      refine dG (s:=56) rfl h (fun h=>?_) (fun h=>?_)
      ·
       refine ac 1 rfl (aO rfl eE (ac 2 rfl (az ?_)))
       refine bG rfl h (fun h=>?_) (fun h=>?_)
       ·
        obtain⟨j5,e3,h⟩:=cP h
        refine c8 (β:=ab) 0 rfl (fun b=>j5 b=some r) (fun b=>[]) (fun b=>[(0,zP bo1),(1,y),(6,zP b1),(8,.string q2.text),(9,.string b),(10,Q),(44,y),(45,zI (M.length:Int)),(46,zI F),(54,.string q2.text),(55,.bool (decide (q2.text=(⟨#[112,117,116]⟩:ab)))),(56,.bool true),(57,zI F),(58,.bool ((F:Int)==2)),(59,.bool ((F:Int)==2))]) (fun b=>[cells bo1 [o1_h0.v,.map (some (aV o1_h1)),.map (some (aV o1_h2)),.map (some (aV o1_h3)),o1_h4.v] 72,bo o1_h0.v o1.units,cq (fun n:ab=>aa n) (fun n:Int=>ax .i64 n) (aV o1_h1) o1.place,dh (aV o1_h2) o1.fors,cq (fun n:ab=>aa n) (fun n:Bool=>am n) (aV o1_h3) o1.skips,bo o1_h4.v o1.lines,cells b1 [zI 0,zI 0] 26,bo Q g]) (fun cut=>?_) ?_
        ·
         refine cut (aC (ac 1 rfl (aO rfl lK (az ?_))))
         refine bG rfl h (fun h=>?_) (fun h=>?_)
         ·
          refine ct (ac 1 rfl ?_)
          obtain⟨fs,h⟩:=bC h
          refine aO rfl (kQ fs) (ac 1 rfl (bU ?_))
          exact bx (p++(⟨#[32,97,102,116,101,114]⟩:ab)) h rfl (aT rfl) (aH [0,1,2,3,4,5,6,7] kr rfl)
         refine bH ?_
         exact bx p h rfl (aT rfl) (aH [0,1,2,3,4,5,6,7] kr rfl)
        rintro bs h
        rw[e3] at h
        refine dZ (cA (ed ?_))
        exact bx (bs,g) h rfl (aT rfl) (aH [0,1,2,3,4,5,6,7] kr rfl)
       refine bH ?_
       exact bx (S.at_,S.text,true,(F:Int)==2,b3) h rfl (aT rfl) (aH [0,1,2,3,4,5,6,7,8] kr rfl)
      refine ac 4 rfl (az (eQ rfl (bH ?_)))
      exact bx (S.at_,S.text,false,false,b3) h rfl (aT rfl) (aH [0,1,2,3,4,5,6,7,8] kr rfl)
     rintro⟨bh,es,x5,x6,b2⟩ h
     rw[e5] at h
     refine cm (aC (ac 2 rfl (cf ui rfl dc rfl (show _=1 from rfl) (bF (k:=8) ea rfl dc rfl rfl rfl ?_))))
     obtain⟨r2,ez,h⟩:=bj h
     refine dq (v:=.string r2) (vs:=[.string es]) rfl dc rfl rfl rfl K6 (O7 ez) ?_
     obtain⟨q4,di,h⟩:=bj h
     refine fO (k:=7) di aD gm rfl dc rfl rfl rfl rfl ?_
     refine p4 (i:=(F:Int).toNat) (j:=0) (k:=7) (q:=q4) (q':=r2) gm ga rfl rfl rfl rfl (fb di) rfl dc rfl (fun _ _=>rfl) ?_
     refine cv (ac 2 rfl ?_)
     obtain⟨q5,dg,h⟩:=bj h
     refine fO (k:=7) dg aD gm rfl dc rfl rfl rfl rfl (ib (i:=(F:Int).toNat) (j:=0) (k:=7) (q:=q5) ea ga rfl dc rfl rfl (fb dg) rfl dc rfl (aO rfl lf (az ?_)))
     refine bG rfl h (fun h=>?_) (fun h=>?_)
     ·
      refine aC (cf rS rfl dc rfl (show _=0 from rfl) (bF (k:=8) dQ rfl dc rfl rfl rfl ?_))
      refine eU (v:=.agg #[zI 221,zI bh]) (ps:=[(0,.const (zI 221)),(1,.tmp 77)]) rfl dc rfl (fun _=>by kernel_rfl) ?_
      refine eH (k:=6) (vs:=[zI 221,zI bh]) (l':=[zI 221,zI bh]) jK rfl rfl rfl rfl rfl (show _≤_ by simp) rfl rfl ?_
      refine az (bI (bT (cE (bT (bT (cE (bT ?_)))))))
      cases h
      exact eO (rs:=[.cell 6 26]) (o1_h0,o1_h1,o1_h2,o1_h3,o1_h4) (.inl rfl) iJ (.cons (.cells jJ (k:=6) rfl rfl rfl) .nil) rfl (aH [0,1,2,3,4,5] kr rfl)
     refine bH (cz (ct (ac 3 rfl ?_)))
     obtain⟨q6,df,h⟩:=bj h
     refine fO (k:=7) df aD gm rfl dc rfl rfl rfl rfl (ib (i:=(F:Int).toNat) (j:=0) (k:=7) (q:=q6) ea ga rfl dc rfl rfl (fb df) rfl dc rfl ?_)
     obtain⟨r3,ey,h⟩:=bj h
     refine dq (v:=.string r3) (vs:=[.string q6]) rfl dc rfl rfl rfl Aw (BV ey) ?_
     obtain⟨fo,h⟩:=bC h
     refine aO rfl (kQ fo) ?_
     obtain⟨fn,h⟩:=bC h
     refine aO rfl (kQ fn) (ac 1 rfl (bU (cw ?_)))
     exact bx (p++((⟨#[32]⟩:ab)++r3),g.set (F:Int).toNat r2) h rfl (aT rfl) (aH [0,1,2,3,4,5,6,7] kr rfl)
    rintro⟨cc,Y⟩ h
    rw[e6] at h
    refine ct ?_
    obtain⟨fk,h⟩:=bC h
    refine aO rfl (dN (r:=F+1) (ai _ fk)) (ac 1 rfl (bU ?_))
    subst bb
    exact ff (n1,cc,Y,F+1) h (av _) rfl (aT rfl) (aH [0,1,2,3,4,5,6,7] kr rfl)
   refine dZ (cA (cA (ed ?_)))
   exact bx (q2.text,p,g,Q) h rfl (aT rfl) (aH [0,1,2,3,4,5,6,7] kr rfl)
 rintro⟨I,t,a,G⟩ h
 rw[e7] at h
 refine cm (aC (ac 1 rfl (aO rfl lf (az ?_))))
 refine bG rfl h (fun h=>?_) (fun h=>?_)
 ·
  refine aC (ac 1 rfl ?_)
  obtain⟨q7,a7,h⟩:=bj h
  refine fO (k:=7) a7 aD gm rfl dc rfl rfl rfl rfl (ib (i:=(1:Int).toNat) (j:=0) (k:=7) (q:=q7) ea ga rfl dc rfl rfl (fb a7) rfl dc rfl ?_)
  obtain⟨r4,d1,h⟩:=bj h
  refine dq (v:=.string r4) (vs:=[.string q7]) rfl dc rfl rfl rfl qg (qv d1) (ac 1 rfl (az (cm (aC (ac 1 rfl (fX rfl dc rfl (cf qe rfl dc rfl (show _=3 from rfl) (bF (k:=0) qd rfl dc rfl rfl rfl (ac 1 rfl ?_)))))))))
  refine Es (k:=4) (ek:=(fun n:ab=>aa n)) (ev':=(fun n:Bool=>am n)) (kk:=r4) (z0:=false) (mn an) eG kr rfl dc rfl rfl rfl ?_
  refine az ?_
  refine bG rfl h (fun h=>?_) (fun h=>?_)
  ·
   refine aC (ac 1 rfl ?_)
   obtain⟨q8,a6,h⟩:=bj h
   refine gq f a6 cD zip rfl dc rfl rfl rfl (cf rS rfl dc rfl (show _=(B+(1:Int).toNat)*2 from rfl) (kH (n:=B+(1:Int).toNat) (j:=0) (i:=0) (q:=q8) H rfl (by omega) dQ rfl dc rfl (cI f a6) rfl rfl ?_))
   refine eU (v:=.agg #[zI 222,zI q8.at_]) (ps:=[(0,.const (zI 222)),(1,.tmp 103)]) rfl dc rfl (fun _=>by kernel_rfl) ?_
   refine eH (k:=6) (vs:=[zI 222,zI q8.at_]) (l':=[zI 222,zI q8.at_]) jK rfl rfl rfl rfl rfl (show _≤_ by simp) rfl rfl (az (bI (bT (bT ?_))))
   cases h
   exact eO (rs:=[.cell 6 26]) (o1_h0,o1_h1,o1_h2,o1_h3,o1_h4) (.inl rfl) iJ (.cons (.cells jJ (k:=6) rfl rfl rfl) .nil) rfl (aH [0,1,2,3,4,5] kr rfl)
  refine bH (cz (aC (ac 1 rfl (fX rfl dc rfl (cf qe rfl dc rfl (show _=3 from rfl) (bF (k:=0) qd rfl dc rfl rfl rfl (ac 1 rfl ?_)))))))
  refine tZ (k:=4) (ek:=(fun n:ab=>aa n)) (ev':=(fun n:Bool=>am n)) (kk:=r4) (vv:=true) (mn an) eG rfl rfl rfl rfl rfl ?_
  refine cv (ac 2 rfl (fX rfl dc rfl (cf uf rfl dc rfl (show _=4 from rfl) (bF (k:=0) lA rfl dc rfl rfl rfl (ac 1 rfl ?_)))))
  refine gl (cs:=[.string t]) (te:=9) (ps:=[(0,.tmp 115)]) rfl dc rfl (fun _=>by kernel_rfl) (fun b4=>?_)
  obtain⟨fd,h⟩:=bC h
  refine iT (k:=5) (k2:=8) (ys:=[t]) aD nV ga oc rfl dc rfl rfl rfl rfl rfl rfl fd (fun v3=>?_)
  refine jd (k:=5) rfl (fun d8 f2=>?_)
  subst f2
  refine fX rfl dc rfl (cf uf rfl dc rfl (show _=4 from rfl) ?_)
  refine ef (k:=0) (l':=[o1_h0.v,.map (some (aV o1_h1)),.map (some (aV o1_h2)),.map (some (aV o1_h3)),d8.v]) qS rfl rfl rfl rfl rfl (fun _ _=>rfl) rfl ?_
  refine cv ?_
  refine eU (v:=.agg #[zI 0,zI 0]) (ps:=[]) rfl dc rfl (fun _=>by kernel_rfl) ?_
  refine eH (k:=6) (vs:=[zI 0,zI 0]) (l':=[zI 0,zI 0]) jK rfl rfl rfl rfl rfl (show _≤_ by simp) rfl rfl (az (bI (bT ?_)))
  cases h
  exact eO (rs:=[.cell 6 26]) (o1_h0,o1_h1,o1_h2,o1_h3,d8) (.inl rfl) iJ (.cons (.cells jJ (k:=6) rfl rfl rfl) .nil) rfl (aH [0,1,2,3,4,5] kr rfl)
 refine bH (cz (cm (aC (ac 2 rfl ?_))))
 obtain⟨q9,a5,h⟩:=bj h
 refine fO (k:=7) a5 aD gm rfl dc rfl rfl rfl rfl (ib (i:=(1:Int).toNat) (j:=0) (k:=7) (q:=q9) ea ga rfl dc rfl rfl (fb a5) rfl dc rfl ?_)
 obtain⟨r5,d0,h⟩:=bj h
 refine nj (v:=.bool r5) (vs:=[zP bo1,.string q9]) H rfl dc rfl rfl rfl K7 (O8 (bo1:=bo1) (o1:=o1) (o1_h0:=o1_h0) (o1_h1:=o1_h1) (o1_h2:=o1_h2) (o1_h3:=o1_h3) (o1_h4:=o1_h4) d0) (.own (aH [0] kr rfl) (fun _ _ h=>aI.1 h) (.own (aH [1] kr rfl) (fun _ _ h=>aI.1 h) (.own (aH [2] kr rfl) (fun _ _ h=>aI.1 h) (.own (aH [3] kr rfl) (fun _ _ h=>aI.1 h) (.own (aH [4] kr rfl) (fun _ _ h=>aI.1 h) (.own (aH [5] kr rfl) (fun _ _ h=>aI.1 h) .nil)))))) ?_
 refine az ?_
 refine bG rfl h (fun h=>?_) (fun h=>?_)
 ·
  refine aC (ac 1 rfl ?_)
  obtain⟨W,a4,h⟩:=bj h
  refine gq f a4 cD zip rfl dc rfl rfl rfl (cf rS rfl dc rfl (show _=(B+(1:Int).toNat)*2 from rfl) (kH (n:=B+(1:Int).toNat) (j:=0) (i:=0) (q:=W) H rfl (by omega) dQ rfl dc rfl (cI f a4) rfl rfl ?_))
  refine eU (v:=.agg #[zI 222,zI W.at_]) (ps:=[(0,.const (zI 222)),(1,.tmp 129)]) rfl dc rfl (fun _=>by kernel_rfl) ?_
  refine eH (k:=6) (vs:=[zI 222,zI W.at_]) (l':=[zI 222,zI W.at_]) jK rfl rfl rfl rfl rfl (show _≤_ by simp) rfl rfl (az (bI (bT ?_)))
  cases h
  exact eO (rs:=[.cell 6 26]) (o1_h0,o1_h1,o1_h2,o1_h3,o1_h4) (.inl rfl) iJ (.cons (.cells jJ (k:=6) rfl rfl rfl) .nil) rfl (aH [0,1,2,3,4,5] kr rfl)
 refine bH (cz ?_)
 obtain⟨j6,e2,h⟩:=cP h
 refine c8 (β:=Unit) 0 rfl (fun b=>j6=some r) (fun b=>[]) (fun b=>[(0,zP bo1),(6,zP b1),(8,.string I),(9,.string t),(10,G)]) (fun b=>[cells bo1 [o1_h0.v,.map (some (aV o1_h1)),.map (some (aV o1_h2)),.map (some (aV o1_h3)),o1_h4.v] 72,bo o1_h0.v o1.units,cq (fun n:ab=>aa n) (fun n:Int=>ax .i64 n) (aV o1_h1) o1.place,dh (aV o1_h2) o1.fors,cq (fun n:ab=>aa n) (fun n:Bool=>am n) (aV o1_h3) o1.skips,bo o1_h4.v o1.lines,cells b1 [zI 0,zI 0] 26,bo G a]) (fun cut=>?_) ?_
 ·
  refine cut (aC (ac 1 rfl (iA (k:=7) rfl dc rfl rfl aD (ac 1 rfl (az (cy ?_))))))
  refine fh (β:=Nat×Int) (fun b=>zaI (fun _=>none) (zco o1 M a j6) b.1 b.2=some r) (fun b=>[]) (fun b=>[(0,zP bo1),(1,y),(6,zP b1),(8,.string I),(9,.string t),(10,G),(131,G),(132,zI (a.length:Int)),(133,zI b.2)]) (fun b=>[cells bo1 [o1_h0.v,.map (some (aV o1_h1)),.map (some (aV o1_h2)),.map (some (aV o1_h3)),o1_h4.v] 72,bo o1_h0.v o1.units,cq (fun n:ab=>aa n) (fun n:Int=>ax .i64 n) (aV o1_h1) o1.place,dh (aV o1_h2) o1.fors,cq (fun n:ab=>aa n) (fun n:Bool=>am n) (aV o1_h3) o1.skips,bo o1_h4.v o1.lines,cells b1 [zI 0,zI 0] 26,bo G a]) (fun b=>b.1) (zbH,0) h rfl (aT rfl) (aH [0,1,2,3,4,5,6,7] kr rfl) ?_
  rintro⟨n2,x9⟩ h
  cases n2 with
  | zero=>exact fa h
  | succ n2=>
   obtain⟨f3,a9⟩:∃ag,ag=zaI (fun _=>none) (zco o1 M a j6) n2:=⟨_,rfl⟩
   have h:zco o1 M a j6 f3 x9=some r:=by rw[a9];exact h
   unfold zco at h
   refine aC (aO rfl ei (az (cm ?_)))
   refine bG rfl h (fun h=>?_) (fun h=>?_)
   ·
    refine bH (cz ?_)
    obtain⟨j7,e1,h⟩:=cP h
    refine c8 (β:=Unit) 0 rfl (fun b=>j7=some r) (fun b=>[]) (fun b=>[(0,zP bo1),(1,y),(6,zP b1),(8,.string I),(9,.string t),(10,G),(131,G),(132,zI (a.length:Int)),(133,zI x9)]) (fun b=>[cells bo1 [o1_h0.v,.map (some (aV o1_h1)),.map (some (aV o1_h2)),.map (some (aV o1_h3)),o1_h4.v] 72,bo o1_h0.v o1.units,cq (fun n:ab=>aa n) (fun n:Int=>ax .i64 n) (aV o1_h1) o1.place,dh (aV o1_h2) o1.fors,cq (fun n:ab=>aa n) (fun n:Bool=>am n) (aV o1_h3) o1.skips,bo o1_h4.v o1.lines,cells b1 [zI 0,zI 0] 26,bo G a]) (fun cut=>?_) ?_
    ·
     refine cut (cy (aC (ac 1 rfl ?_)))
     obtain⟨c5,a3,h⟩:=bj h
     refine fO (k:=7) a3 aD gm rfl dc rfl rfl rfl rfl (ib (i:=(x9:Int).toNat) (j:=0) (k:=7) (q:=c5) ea ga rfl dc rfl rfl (fb a3) rfl dc rfl (ac 2 rfl (cv (ac 1 rfl (fX rfl dc rfl (cf ue rfl dc rfl (show _=1 from rfl) (bF (k:=0) ud rfl dc rfl rfl rfl (ac 1 rfl ?_))))))))
     refine yb (k:=2) (ek:=(fun n:ab=>aa n)) (ev':=(fun n:Int=>ax .i64 n)) (kk:=c5) (z0:=0) (mn an) mN kr rfl dc rfl rfl rfl ?_
     refine ac 1 rfl (fS rfl dc rfl rfl (fS rfl dc rfl rfl (ac 2 rfl (cv (ac 1 rfl (aO rfl lK (ac 1 rfl ?_)))))))
     refine dG (s:=149) rfl h (fun h=>?_) (fun h=>?_)
     ·
      refine ac 1 rfl (aO rfl qK (ac 2 rfl ?_))
      refine dG (s:=153) rfl h (fun h=>?_) (fun h=>?_)
      ·
       refine ac 1 rfl (jq rfl dc rfl js (ac 1 rfl (az ?_)))
       refine bG rfl h (fun h=>?_) (fun h=>?_)
       ·
        refine aC (ac 2 rfl ?_)
        obtain⟨V,a2,h⟩:=bj h
        refine gq f a2 cD zip rfl dc rfl rfl rfl (cf rS rfl dc rfl (show _=(B+(x9:Int).toNat)*2 from rfl) (kH (n:=B+(x9:Int).toNat) (j:=0) (i:=0) (q:=V) H rfl (by omega) dQ rfl dc rfl (cI f a2) rfl rfl ?_))
        refine eU (v:=.agg #[zI 223,zI V.at_]) (ps:=[(0,.const (zI 223)),(1,.tmp 161)]) rfl dc rfl (fun _=>by kernel_rfl) ?_
        refine eH (k:=6) (vs:=[zI 223,zI V.at_]) (l':=[zI 223,zI V.at_]) jK rfl rfl rfl rfl rfl (show _≤_ by simp) rfl rfl (az (bI (cE (bT (bT (cE (bT ?_)))))))
        cases h
        exact eO (rs:=[.cell 6 26]) (o1_h0,o1_h1,o1_h2,o1_h3,o1_h4) (.inl rfl) iJ (.cons (.cells jJ (k:=6) rfl rfl rfl) .nil) rfl (aH [0,1,2,3,4,5] kr rfl)
       refine bH (cw ?_)
       exact bx () h rfl (aT rfl) (aH [0,1,2,3,4,5,6,7] kr rfl)
      refine ac 3 rfl (az (eQ rfl (bH (cw ?_))))
      exact bx () h rfl (aT rfl) (aH [0,1,2,3,4,5,6,7] kr rfl)
     refine ac 7 rfl (az (eQ rfl (bH (cw ?_))))
     exact bx () h rfl (aT rfl) (aH [0,1,2,3,4,5,6,7] kr rfl)
    rintro _ h
    rw[e1] at h
    refine ct ?_
    obtain⟨e9,h⟩:=bC h
    refine aO rfl (dN (r:=x9+1) (ai _ e9)) (ac 1 rfl (bU ?_))
    subst a9
    exact ff (n2,x9+1) h (av _) rfl (aT rfl) (aH [0,1,2,3,4,5,6,7] kr rfl)
   refine dZ (cA (cA (ed ?_)))
   exact bx () h rfl (aT rfl) (aH [0,1,2,3,4,5,6,7] kr rfl)
 rintro _ h
 rw[e2] at h
 obtain⟨j8,e0,h⟩:=cP h
 refine c8 (β:=(List ab)×(List (ab×Int))×(List (ab×List ab))×(List (ab×Bool))×(List ab)×Hd×Nat×Nat×Nat×Hd) 0 rfl (fun b=>j8 b.1 b.2.1 b.2.2.1 b.2.2.2.1 b.2.2.2.2.1=some r) (fun b=>[]) (fun b=>[(0,zP bo1),(6,zP b1),(9,.string t)]) (fun b=>[cells bo1 [b.2.2.2.2.2.1.v,.map (some b.2.2.2.2.2.2.1),.map (some b.2.2.2.2.2.2.2.1),.map (some b.2.2.2.2.2.2.2.2.1),b.2.2.2.2.2.2.2.2.2.v] 72,bo b.2.2.2.2.2.1.v b.1,cq (fun n:ab=>aa n) (fun n:Int=>ax .i64 n) b.2.2.2.2.2.2.1 b.2.1,dh b.2.2.2.2.2.2.2.1 b.2.2.1,cq (fun n:ab=>aa n) (fun n:Bool=>am n) b.2.2.2.2.2.2.2.2.1 b.2.2.2.1,bo b.2.2.2.2.2.2.2.2.2.v b.2.2.2.2.1,cells b1 [zI 0,zI 0] 26]) (fun cut=>?_) ?_
 ·
  refine cut (aC (ac 1 rfl (aO rfl lf (az ?_))))
  refine bG rfl h (fun h=>?_) (fun h=>?_)
  ·
   refine cm ?_
   obtain⟨C,a1,h⟩:=bj h
   obtain⟨e8,h⟩:=bC h
   obtain⟨J,a0,h⟩:=bj h
   obtain⟨d5,h⟩:=bC h
   refine tU 2 ?_
   refine let bk:(Nat×Hd)→List (Nat×Nat×Value):=fun b=>[(0,166,zP bo1),(1,167,zP bo1),(2,168,zP bo1),(3,169,zP bo1),(4,170,o1_h0.v),(5,171,zP bo1),(6,172,zP bo1),(7,173,.pointer (some ⟨bo1,1,none⟩)),(8,174,.map (some (aV o1_h1))),(9,175,G),(10,176,.pointer (some ⟨gG G,(3:Int).toNat*1,none⟩)),(11,177,.string C),(12,178,zI ((zbL C o1.place).getD 0)),(13,179,zI (((zbL C o1.place).getD 0)+1)),(14,180,G),(15,181,.pointer (some ⟨gG G,(1:Int).toNat*1,none⟩)),(16,182,.string J),(17,183,.slice (some ⟨b.1,0,none⟩) 1 1),(18,184,b.2.v)];let em:(Nat→Prop)→(Nat×Hd)→List Asn:=fun D b=>[cells bo1 [o1_h0.v,.map (some (aV o1_h1)),.map (some (aV o1_h2)),.map (some (aV o1_h3)),o1_h4.v] 72,eD D (bo o1_h0.v o1.units) [(18,cn)],cq (fun n:ab=>aa n) (fun n:Int=>ax .i64 n) (aV o1_h1) o1.place,dh (aV o1_h2) o1.fors,cq (fun n:ab=>aa n) (fun n:Bool=>am n) (aV o1_h3) o1.skips,bo o1_h4.v o1.lines,cells b1 [zI 0,zI 0] 26,bo G a,eD D cn [(18,cn),(17,cells b.1 [.string J] 9)],eD D cn [(18,bo b.2.v (iK o1.units (((zbL C o1.place).getD 0)+1) J))]];?_
   have w:rY [17,18] em:=fun i h D b=>bY rfl (bY (pF rfl h) (bY rfl (bY rfl (bY rfl (bY rfl (bY rfl (bY rfl (bY (pF rfl h) (bY (pF rfl h) rfl)))))))))
   refine tT (β:=Nat×Hd) 19 ((0:Nat),ew) bk em mixed kr kr dc (fun _=>rfl) (bY rfl (bY nS (oB (bY nS (bY nS rfl))))) (oC w (fun _=>rfl) (fun _=>rfl) 2 0 (fun _=>rfl) rfl (pG w rfl (fun _=>rfl) (fun _=>rfl) ?_ (pG w rfl (fun _=>rfl) (fun _=>rfl) ?_ (kY w rfl (fun _=>rfl) (fun _=>rfl) ?_ (oC w (fun _=>rfl) (fun _=>rfl) 1 5 (fun _=>rfl) rfl (pG w rfl (fun _=>rfl) (fun _=>rfl) ?_ (pG w rfl (fun _=>rfl) (fun _=>rfl) ?_ (kY w rfl (fun _=>rfl) (fun _=>rfl) ?_ (oC w (fun _=>rfl) (fun _=>rfl) 1 9 (fun _=>rfl) rfl (kY w rfl (fun _=>rfl) (fun _=>rfl) ?_ (kY w rfl (fun _=>rfl) (fun _=>rfl) ?_ (kY w rfl (fun _=>rfl) (fun _=>rfl) ?_ (pG w rfl (fun _=>rfl) (fun _=>rfl) ?_ (oC w (fun _=>rfl) (fun _=>rfl) 1 14 (fun _=>rfl) rfl (kY w rfl (fun _=>rfl) (fun _=>rfl) ?_ (kY w rfl (fun _=>rfl) (fun _=>rfl) ?_ (kV ?_ (kV ?_ fj.nil)))))))))))))))))) ?_
   · exact fun D ⟨E,l⟩ n d c u i=>fX rfl dc (bq 1 u d) (bm 2 u i)
   · exact fun D ⟨E,l⟩ n d c u i=>cf sR rfl dc (bq 2 u d) (show _=0 from rfl) (bm 3 u i)
   · exact fun D ⟨E,l⟩ n d c u i=>⟨_,(bY rfl (bY (dC (fun e=>n (c 18 _ rfl e 4 dc)) fc) (oB (bY (dC (fun e=>n (c 18 _ rfl e 4 dc)) rfl) (bY (dC (fun e=>n (c 18 _ rfl e 4 dc)) fc) rfl))))),bF (k:=0) lA rfl dc (bq 3 u d) rfl rfl (bm 4 u i)⟩
   · exact fun D ⟨E,l⟩ n d c u i=>fX rfl dc (bq 5 u d) (bm 6 u i)
   · exact fun D ⟨E,l⟩ n d c u i=>cf ue rfl dc (bq 6 u d) (show _=1 from rfl) (bm 7 u i)
   · exact fun D ⟨E,l⟩ n d c u i=>⟨_,(bY rfl (bY (dC (fun e=>n (c 12 _ rfl (c 13 _ rfl (c 18 _ rfl e 13 dc) 12 dc) 8 dc)) fc) (oB (bY (dC (fun e=>n (c 12 _ rfl (c 13 _ rfl (c 18 _ rfl e 13 dc) 12 dc) 8 dc)) rfl) (bY (dC (fun e=>n (c 12 _ rfl (c 13 _ rfl (c 18 _ rfl e 13 dc) 12 dc) 8 dc)) fc) rfl))))),bF (k:=0) ud rfl dc (bq 7 u d) rfl rfl (bm 8 u i)⟩
   · exact fun D ⟨E,l⟩ n d c u i=>⟨_,(bY rfl (bY (dC (fun e=>n (c 11 _ rfl (c 12 _ rfl (c 13 _ rfl (c 18 _ rfl e 13 dc) 12 dc) 11 dc) 10 dc)) fc) (oB (bY (dC (fun e=>n (c 11 _ rfl (c 12 _ rfl (c 13 _ rfl (c 18 _ rfl e 13 dc) 12 dc) 11 dc) 10 dc)) rfl) (bY (dC (fun e=>n (c 11 _ rfl (c 12 _ rfl (c 13 _ rfl (c 18 _ rfl e 13 dc) 12 dc) 11 dc) 10 dc)) fc) rfl))))),fO (k:=7) a1 aD gm rfl dc (bq 9 u d) rfl rfl rfl (bm 10 u i)⟩
   · exact fun D ⟨E,l⟩ n d c u i=>⟨_,(bY rfl (bY (dC (fun e=>n (c 12 _ rfl (c 13 _ rfl (c 18 _ rfl e 13 dc) 12 dc) 11 dc)) fc) (oB (bY (dC (fun e=>n (c 12 _ rfl (c 13 _ rfl (c 18 _ rfl e 13 dc) 12 dc) 11 dc)) rfl) (bY (dC (fun e=>n (c 12 _ rfl (c 13 _ rfl (c 18 _ rfl e 13 dc) 12 dc) 11 dc)) fc) rfl))))),ib (i:=(3:Int).toNat) (j:=0) (k:=7) (q:=C) ea ga rfl dc (bq 10 u d) rfl (fb a1) rfl dc rfl (bm 11 u i)⟩
   · exact fun D ⟨E,l⟩ n d c u i=>⟨_,(bY rfl (bY (dC (fun e=>n (c 13 _ rfl (c 18 _ rfl e 13 dc) 12 dc)) fc) (oB (bY (dC (fun e=>n (c 13 _ rfl (c 18 _ rfl e 13 dc) 12 dc)) rfl) (bY (dC (fun e=>n (c 13 _ rfl (c 18 _ rfl e 13 dc) 12 dc)) fc) rfl))))),Es (k:=2) (ek:=(fun n:ab=>aa n)) (ev':=(fun n:Int=>ax .i64 n)) (kk:=C) (z0:=0) (mn an) mN kr rfl dc (bq 8 u d) (bq 11 u d) rfl (bm 12 u i)⟩
   · exact fun D ⟨E,l⟩ n d c u i=>kl rfl dc (bq 12 u d) rfl (dN (r:=((zbL C o1.place).getD 0)+1) (ai _ e8)) (bm 13 u i)
   · exact fun D ⟨E,l⟩ n d c u i=>⟨_,(bY rfl (bY (dC (fun e=>n (c 16 _ rfl (c 17 _ rfl (c 18 _ rfl e 17 dc) 16 dc) 15 dc)) fc) (oB (bY (dC (fun e=>n (c 16 _ rfl (c 17 _ rfl (c 18 _ rfl e 17 dc) 16 dc) 15 dc)) (dC (fun e=>n (c 16 _ rfl (c 17 _ rfl e 16 dc) 15 dc)) fc)) (bY (dC (fun e=>n (c 16 _ rfl (c 17 _ rfl (c 18 _ rfl e 17 dc) 16 dc) 15 dc)) fc) rfl))))),fO (k:=7) a0 aD gm rfl dc (bq 14 u d) rfl rfl rfl (bm 15 u i)⟩
   · exact fun D ⟨E,l⟩ n d c u i=>⟨_,(bY rfl (bY (dC (fun e=>n (c 17 _ rfl (c 18 _ rfl e 17 dc) 16 dc)) fc) (oB (bY (dC (fun e=>n (c 17 _ rfl (c 18 _ rfl e 17 dc) 16 dc)) (dC (fun e=>n (c 17 _ rfl e 16 dc)) fc)) (bY (dC (fun e=>n (c 17 _ rfl (c 18 _ rfl e 17 dc) 16 dc)) fc) rfl))))),ib (i:=(1:Int).toNat) (j:=0) (k:=7) (q:=J) ea ga rfl dc (bq 15 u d) rfl (fb a0) rfl dc rfl (bm 16 u i)⟩
   ·
    intro D b P hd L
    obtain⟨eq,l⟩:=b
    refine jI (bY rfl (bY (dC (fun e=>P (L 18 _ rfl e 17 dc)) fc) (oB (bY (dC (fun e=>P (L 18 _ rfl e 17 dc)) (dC P fc)) (bY (dC (fun e=>P (L 18 _ rfl e 17 dc)) fc) rfl))))) ?_
    refine gl (cs:=[.string J]) (te:=9) (ps:=[(0,.tmp 182)]) rfl dc (evP.cons (ja (m:=16) rfl rfl (hd 16 dc)) evP.nil) (fun _=>by kernel_rfl) (fun E=>?_)
    refine oy 8 rfl rfl ?_
    exact lg (b:=(eq,l)) (E,l) 17 (by rfl) (by rfl) rfl (Ba (s6 (dP (fun e=>absurd e P) (dP (fun _=>rfl) rfl)))) (bY rfl (bY ((gW (by rfl)).trans (dC (fun e=>P (L 18 _ rfl e 17 dc)) fc)) (oB (bY (dC (fun h=>h.elim (fun e=>P (L 18 _ rfl e 17 dc)) (fun h=>absurd h dc)) (gU (iI rfl) rfl)) (bY ((gW (by rfl)).trans (dC (fun e=>P (L 18 _ rfl e 17 dc)) fc)) rfl)))))
   ·
    intro D b P hd L
    obtain⟨E,en⟩:=b
    refine jI (bY rfl (bY (dC P fc) (oB (bY (dC P (gU (hd 17 dc) rfl)) (bY (dC P fc) rfl))))) ?_
    refine fY (vs:=[o1_h0.v,zI (((zbL C o1.place).getD 0)+1),.slice (some ⟨E,0,none⟩) 1 1]) rfl dc rfl (cY (ja (m:=4) rfl rfl (hd 4 dc)) (cY (ja (m:=13) rfl rfl (hd 13 dc)) (cY (ja (m:=17) rfl rfl (hd 17 dc)) eB))) rfl K8 (MX (x:=J) d5) (aH [1,8] kr rfl) ?_
    rintro v4
    refine jd (k:=10) rfl (fun l f1=>?_)
    subst f1
    refine oy 9 rfl rfl ?_
    exact lg (b:=(E,en)) (E,l) 18 (by rfl) (by rfl) rfl (Bb (s6 (dP (fun e=>absurd e P) rfl))) (bY rfl (bY (gU (iI rfl) rfl) (oB (bY (gU (iI rfl) rfl) (bY (gU (iI rfl) rfl) rfl)))))
   intro D b hall
   obtain⟨E,l⟩:=b
   refine jI (bY rfl (bY (gU (hall 18 dc) rfl) (oB (bY (gU (hall 18 dc) rfl) (bY (gU (hall 18 dc) rfl) rfl))))) ?_
   refine fX rfl dc rfl (cf sR rfl dc rfl (show _=0 from rfl) ?_)
   refine ef (k:=0) (l':=[l.v,.map (some (aV o1_h1)),.map (some (aV o1_h2)),.map (some (aV o1_h3)),o1_h4.v]) qS rfl rfl rfl rfl rfl (fun _ _=>rfl) rfl ?_
   refine az (ct (ac 1 rfl ?_))
   obtain⟨U,dT,h⟩:=bj h
   refine fY (vs:=[zP bo1]) rfl dc rfl rfl rfl E9 (HD (bo1:=bo1) (o1:=(⟨iK o1.units (((zbL C o1.place).getD 0)+1) J,o1.place,o1.fors,o1.skips,o1.lines⟩:cK)) (o1_h0:=l) (o1_h1:=o1_h1) (o1_h2:=o1_h2) (o1_h3:=o1_h3) (o1_h4:=o1_h4) dT) (aH [0,9,2,3,4,5] kr rfl) ?_
   rintro⟨c4,c3,c2,c0,ch⟩
   refine mj (L':=[cells bo1 [c4.v,.map (some (aV c3)),.map (some (aV c2)),.map (some (aV c0)),ch.v] 72,cn,cq (fun n:ab=>aa n) (fun n:Int=>ax .i64 n) (aV c3) U.place,dh (aV c2) U.fors,cq (fun n:ab=>aa n) (fun n:Bool=>am n) (aV c0) U.skips,bo ch.v U.lines,cells b1 [zI 0,zI 0] 26,bo G a,cn,bo c4.v U.units]) (aH [10,1,12,13,14,15,6,7,8,11] kr rfl) ?_
   refine bU ?_
   exact bx (U.units,U.place,U.fors,U.skips,U.lines,c4,(aV c3),(aV c2),(aV c0),ch) h rfl (aT rfl) (aH [0,9,2,3,4,5,6] kr rfl)
  obtain⟨O,aw,h⟩:=bj h
  obtain⟨d4,h⟩:=bC h
  refine xT (k:=7) rfl (fun et=>?_)
  obtain⟨v5,dd,ex⟩:=oZ (lo:=some (zI 2)) (hi:=none) et aD gm (.inr rfl) (.inl ⟨rfl,rfl⟩) d4
  refine jc 9 [(0,189,zP bo1),(1,190,zP bo1),(2,191,.pointer (some ⟨bo1,2,none⟩)),(3,192,.map (some (aV o1_h2))),(4,193,G),(5,194,.pointer (some ⟨gG G,(1:Int).toNat*1,none⟩)),(6,195,.string O),(7,196,G),(8,197,v5)] mixed kr kr dc (by rfl) kr kr (gY 1 0 rfl (bR ?_ (bR ?_ (bR ?_ (gY 1 4 rfl (bR ?_ (bR ?_ (gY 1 7 rfl (bR ?_ bK))))))))) ?_
  · exact fun D n d c u i=>fX rfl dc (bq 0 u d) (bm 1 u i)
  · exact fun D n d c u i=>cf Aj rfl dc (bq 1 u d) (show _=2 from rfl) (bm 2 u i)
  · exact fun D n d c u i=>bF (k:=0) vZ rfl dc (bq 2 u d) rfl rfl (bm 3 u i)
  · exact fun D n d c u i=>fO (k:=7) aw aD gm rfl dc (bq 4 u d) rfl rfl rfl (bm 5 u i)
  · exact fun D n d c u i=>ib (i:=(1:Int).toNat) (j:=0) (k:=7) (q:=O) ea ga rfl dc (bq 5 u d) rfl (fb aw) rfl dc rfl (bm 6 u i)
  · exact fun D n d c u i=>iz rfl dc (bq 7 u d) (evO.some rfl) vE ex (bm 8 u i)
  obtain⟨N,d7⟩:=Vw.head dd
  have eM:=h
  subst d7
  have h:=eM
  refine sM (As:=[dh (aV o1_h2) o1.fors]) (aH [3] kr rfl) Ez ?_
  rintro eg d9
  refine tZ (k:=8) (ek:=(fun s:ab=>aa s)) (ev':=pu) (kk:=O) (vv:=(fi a 2 (a.length:Int),N)) (mn an) underlying37 rfl rfl rfl rfl rfl ?_
  refine pp (k:=7) rfl (FU ga dd) ?_
  refine sM (As:=[qQ (aV o1_h2) (gH O (fi a 2 (a.length:Int),N) eg),qb eg,mo gR 1 N (fi a 2 (a.length:Int))]) (aH [8,9,7] kr rfl) (EB O (fi a 2 (a.length:Int)) N d9) ?_
  rintro _ _
  refine bU ?_
  exact bx (o1.units,o1.place,gH O (fi a 2 (a.length:Int)) o1.fors,o1.skips,o1.lines,o1_h0,(aV o1_h1),(aV o1_h2),(aV o1_h3),o1_h4) h rfl (aT rfl) (aH [0,1,2,10,4,5,6] kr rfl)
 rintro⟨l2,m1,m2,m3,l3,d6,b5,b6,b7,f5⟩ h
 rw[e0] at h
 refine aC (ac 2 rfl (fX rfl dc rfl (cf uf rfl dc rfl (show _=4 from rfl) (bF (k:=0) lA rfl dc rfl rfl rfl (ac 1 rfl ?_)))))
 refine gl (cs:=[.string t]) (te:=9) (ps:=[(0,.tmp 203)]) rfl dc rfl (fun _=>by kernel_rfl) (fun b9=>?_)
 obtain⟨d3,h⟩:=bC h
 refine iT (k:=5) (k2:=7) (ys:=[t]) aD nV ga oc rfl dc rfl rfl rfl rfl rfl rfl d3 (fun v6=>?_)
 refine jd (k:=5) rfl (fun a8 f0=>?_)
 subst f0
 refine fX rfl dc rfl (cf uf rfl dc rfl (show _=4 from rfl) ?_)
 refine ef (k:=0) (l':=[d6.v,.map (some b5),.map (some b6),.map (some b7),a8.v]) qS rfl rfl rfl rfl rfl (fun _ _=>rfl) rfl ?_
 refine cv ?_
 refine eU (v:=.agg #[zI 0,zI 0]) (ps:=[]) rfl dc rfl (fun _=>by kernel_rfl) ?_
 refine eH (k:=6) (vs:=[zI 0,zI 0]) (l':=[zI 0,zI 0]) jK rfl rfl rfl rfl rfl (show _≤_ by simp) rfl rfl ?_
 refine az (bI ?_)
 cases h
 exact eO (rs:=[.cell 6 26]) (d6,(⟨some ⟨b5,0,none⟩,0,0⟩:Hd),(⟨some ⟨b6,0,none⟩,0,0⟩:Hd),(⟨some ⟨b7,0,none⟩,0,0⟩:Hd),a8) (.inl rfl) iJ (.cons (.cells jJ (k:=6) rfl rfl rfl) .nil) rfl (aH [0,1,2,3,4,5] kr rfl)
def zew (ek1:Int→Int→(List ab)→(List (ab×Int))→(List (ab×List ab))→(List (ab×Bool))→(List ab)→Int→Option ((Option cK)×zat)) (x1:ab) (ag1:(List ab)→(List (ab×Int))→(List (ab×List ab))→(List (ab×Bool))→(List ab)→Int→Option ((Option cK)×zat)) (o16:List ab) (o17:List (ab×Int)) (o18:List (ab×List ab)) (o19:List (ab×Bool)) (o20:List ab) (at3:Int):Option ((Option cK)×zat) := aY (cR ((x1.size:Int)+1)) <| aY (cR (at3+((x1.size:Int)+1))) <| aX (xj x1 at3) fun (r3:(List fU))=> aU (((r3.length:Int):Int)==0) ( ag1 o16 o17 o18 o19 o20 (at3+((x1.size:Int)+1))
) ( aY (cR (at3+(x1.size:Int))) <| aX (xt (⟨o16,o17,o18,o19,o20⟩:cK) r3 (at3+(x1.size:Int))) fun (r4:(zat×cK))=> aU ((r4.1.Err:Int) != 0) ( ek1 r4.1.Err r4.1.At r4.2.units r4.2.place r4.2.fors r4.2.skips r4.2.lines (at3+((x1.size:Int)+1))
) ( ag1 r4.2.units r4.2.place r4.2.fors r4.2.skips r4.2.lines (at3+((x1.size:Int)+1))
)
)
def vm (text1:ab):Option ((Option cK)×zat) := aU (decide ((65536:Int)<(text1.size:Int))) ( some (none,(⟨3,65536⟩:zat))
) ( cJ (fun (j1:(List ab)→(List (ab×Int))→(List (ab×List ab))→(List (ab×Bool))→(List ab)→Option ((Option cK)×zat))=> aX (vi) fun (r1:cK)=> aX (Cj text1 (⟨#[10]⟩:ab)) fun (r2:(ab×ab×Int))=> aX (za r2.1 r2.2.1 r2.2.2) fun (its1:(List ab))=> cJ (fun (ek1:Int→Int→(List ab)→(List (ab×Int))→(List (ab×List ab))→(List (ab×Bool))→(List ab)→Int→Option ((Option cK)×zat))=> cJ (fun (dn1:(List ab)→(List (ab×Int))→(List (ab×List ab))→(List (ab×Bool))→(List ab)→Int→Option ((Option cK)×zat))=> zcM dn1 (zew ek1) its1 r1.units r1.place r1.fors r1.skips r1.lines 0
) (fun (o16:List ab) (o17:List (ab×Int)) (o18:List (ab×List ab)) (o19:List (ab×Bool)) (o20:List ab) (at3:Int)=> j1 o16 o17 o18 o19 o20
)
) (fun (x2:Int) (x3:Int) (o21:List ab) (o22:List (ab×Int)) (o23:List (ab×List ab)) (o24:List (ab×Bool)) (o25:List ab) (at4:Int)=> some (none,(⟨x2,x3⟩:zat))
)
) (fun (o1:List ab) (o2:List (ab×Int)) (o3:List (ab×List ab)) (o4:List (ab×Bool)) (o5:List ab)=> some ((some (⟨o1,o2,o3,o4,o5⟩:cK)),(⟨0,0⟩:zat))
)
)
theorem HW {a1:ab} {r:((Option cK)×zat)} (h:vm a1=some r):Fn prog 9 [.string a1] [] (fun v0:Value=>.tuple #[v0,.agg (ku r.2).toArray]) (fun v0=>[lU pz pA 72 v0 r.1]):=by
 unfold vm at h
 refine _root_.Go.Proofs.YtifpjbgnikjglaaGreatDoor.Fn.intro func9 rfl ntmps9 (by simp) ?_
 intro w0 K
 refine qH ?_
 show TC _ _ _ _ _ _ _ _ _ [zgL ((([]:List Nat):List Nat).map eZ)]
 refine aC ?_
 refine eN EE rfl dc (fun b1=>?_)
 refine eN qR rfl dc (fun F=>?_)
 show TO _ _ _ _ _ _ _ _ _ _ [zgL ((([]:List Nat):List Nat).map eZ),cells b1 [.pointer none] 29,cells F [zI 0,zI 0] 26]
 refine az ?_
 refine DO (β:=Unit) (l:=0) (fun _=>False) (fun _=>[]) (fun _=>[]) rfl ?_ ?_
 ·
  refine cm (aC (ac 1 rfl (ly rfl dc rfl an (aO rfl lK (az ?_)))))
  refine bG rfl h (fun h=>?_) (fun h=>?_)
  ·
   refine aC ?_
   refine eU (v:=.agg #[zI 3,zI 65536]) (ps:=[(0,.const (zI 3)),(1,.const (zI 65536))]) rfl dc rfl (fun _=>by kernel_rfl) ?_
   refine ef (k:=1) (l':=[.pointer none]) yg rfl rfl rfl rfl rfl (fun _ _=>rfl) rfl ?_
   refine eH (k:=2) (vs:=[zI 3,zI 65536]) (l':=[zI 3,zI 65536]) jK rfl rfl rfl rfl rfl (show _≤_ by simp) rfl rfl ?_
   show TO _ _ _ _ _ _ _ _ _ _ [zgL ((([]:List Nat):List Nat).map eZ),cells b1 [.pointer none] 29,cells F [zI 3,zI 65536] 26]
   refine az (bI (bT (xP (by simp) (yd pz pA 72 ?_))))
   show TX _ _ _ _ _ _ _ [zgL ((([]:List Nat):List Nat).map eZ),cells b1 [.pointer none] 29,cells F [zI 3,zI 65536] 26,lU pz pA 72 (.pointer none) none]
   cases h
   exact lS (rs:=[.cell 2 29,.cell 3 26]) ([]:List Nat) (.pointer none) (.inl rfl) (lR (k:=0) rfl) results9 (.cons (.cell nW (k:=1) rfl rfl) (.cons (.cells jJ (k:=2) rfl rfl rfl) .nil)) rfl (aH [3] kr rfl)
  refine bH (cz ?_)
  obtain⟨j1,d7,h⟩:=cP h
  refine c8 (β:=(List ab)×(List (ab×Int))×(List (ab×List ab))×(List (ab×Bool))×(List ab)×Nat×Nat×Hd×Nat×Nat×Nat×Hd×(List Nat)) 3 rfl (fun b=>j1 b.1 b.2.1 b.2.2.1 b.2.2.2.1 b.2.2.2.2.1=some r) (fun b=>mQ b.2.2.2.2.2.2.2.2.2.2.2.2) (fun b=>[(2,zP b1),(3,zP F),(4,zP b.2.2.2.2.2.1)]) (fun b=>[cells b1 [.pointer none] 29,cells F [zI 0,zI 0] 26,cells b.2.2.2.2.2.1 [zP b.2.2.2.2.2.2.1] 29,cells b.2.2.2.2.2.2.1 [b.2.2.2.2.2.2.2.1.v,.map (some b.2.2.2.2.2.2.2.2.1),.map (some b.2.2.2.2.2.2.2.2.2.1),.map (some b.2.2.2.2.2.2.2.2.2.2.1),b.2.2.2.2.2.2.2.2.2.2.2.1.v] 72,bo b.2.2.2.2.2.2.2.1.v b.1,cq (fun n:ab=>aa n) (fun n:Int=>ax .i64 n) b.2.2.2.2.2.2.2.2.1 b.2.1,dh b.2.2.2.2.2.2.2.2.2.1 b.2.2.1,cq (fun n:ab=>aa n) (fun n:Bool=>am n) b.2.2.2.2.2.2.2.2.2.2.1 b.2.2.2.1,bo b.2.2.2.2.2.2.2.2.2.2.2.1.v b.2.2.2.2.1,zgL ((b.2.2.2.2.2.2.2.2.2.2.2.2:List Nat).map eZ)]) (fun cut=>?_) ?_
  ·
   refine aC ?_
   obtain⟨G,d6,h⟩:=bj h
   refine fY (vs:=[]) rfl dc rfl rfl rfl KQ (O9 d6) ad ?_
   rintro⟨q,aw,ao,Y,W,V⟩
   show TO _ _ _ _ _ _ _ _ _ _ [zgL ((([]:List Nat):List Nat).map eZ),cells b1 [.pointer none] 29,cells F [zI 0,zI 0] 26,cells q [aw.v,.map (some (aV ao)),.map (some (aV Y)),.map (some (aV W)),V.v] 72,bo aw.v G.units,cq (fun n:ab=>aa n) (fun n:Int=>ax .i64 n) (aV ao) G.place,dh (aV Y) G.fors,cq (fun n:ab=>aa n) (fun n:Bool=>am n) (aV W) G.skips,bo V.v G.lines]
   refine eN EE rfl dc (fun b9=>?_)
   refine ef (k:=9) (l':=[zP q]) yg rfl rfl rfl rfl rfl (fun _ _=>rfl) rfl ?_
   show TO _ _ _ _ _ _ _ _ _ _ [zgL ((([]:List Nat):List Nat).map eZ),cells b1 [.pointer none] 29,cells F [zI 0,zI 0] 26,cells q [aw.v,.map (some (aV ao)),.map (some (aV Y)),.map (some (aV W)),V.v] 72,bo aw.v G.units,cq (fun n:ab=>aa n) (fun n:Int=>ax .i64 n) (aV ao) G.place,dh (aV Y) G.fors,cq (fun n:ab=>aa n) (fun n:Bool=>am n) (aV W) G.skips,bo V.v G.lines,cells b9 [zP q] 29]
   refine cv ?_
   refine eN ub rfl dc (fun y=>?_)
   refine ef (k:=10) (l':=[zI 0]) jj rfl rfl rfl rfl rfl (fun _ _=>rfl) rfl ?_
   show TO _ _ _ _ _ _ _ _ _ _ [zgL ((([]:List Nat):List Nat).map eZ),cells b1 [.pointer none] 29,cells F [zI 0,zI 0] 26,cells q [aw.v,.map (some (aV ao)),.map (some (aV Y)),.map (some (aV W)),V.v] 72,bo aw.v G.units,cq (fun n:ab=>aa n) (fun n:Int=>ax .i64 n) (aV ao) G.place,dh (aV Y) G.fors,cq (fun n:ab=>aa n) (fun n:Bool=>am n) (aV W) G.skips,bo V.v G.lines,cells b9 [zP q] 29,cells y [zI 0] 3]
   refine az (cm (DB (cz (cut (aC (ac 1 rfl ?_))))))
   obtain⟨r2,d5,h⟩:=bj h
   refine fY (vs:=[.string a1,.string (⟨#[10]⟩:ab)]) rfl dc rfl rfl rfl KR (Pd d5) ad ?_
   rintro⟨df,dd,c5⟩
   show TO _ _ _ _ _ _ _ _ _ _ [zgL ((([]:List Nat):List Nat).map eZ),cells b1 [.pointer none] 29,cells F [zI 0,zI 0] 26,cells q [aw.v,.map (some (aV ao)),.map (some (aV Y)),.map (some (aV W)),V.v] 72,bo aw.v G.units,cq (fun n:ab=>aa n) (fun n:Int=>ax .i64 n) (aV ao) G.place,dh (aV Y) G.fors,cq (fun n:ab=>aa n) (fun n:Bool=>am n) (aV W) G.skips,bo V.v G.lines,cells b9 [zP q] 29,cells y [zI 0] 3,cells df [.string r2.1] 9,cells dd [.string r2.2.1] 9,cells c5 [zI r2.2.2] 3]
   refine az (cy ?_)
   obtain⟨di,d4,h⟩:=bj h
   obtain⟨bs,ds,h⟩:=cP h
   obtain⟨c4,dT,h⟩:=cP h
   refine MD (α:=ab) (β:=(List ab)×(List (ab×Int))×(List (ab×List ab))×(List (ab×Bool))×(List ab)×Int×Hd×Nat×Nat×Nat×Hd) (γ:=(Int×Int×(List ab)×(List (ab×Int))×(List (ab×List ab))×(List (ab×Bool))×(List ab)×Int×Hd×Nat×Nat×Nat×Hd)) (δ:=Unit) (ps:=[17]) Ro.nil rfl Lw (Pa d4) (fun pre b=>∀post,di=pre++post→zcM c4 (zew bs) post b.1 b.2.1 b.2.2.1 b.2.2.2.1 b.2.2.2.2.1 b.2.2.2.2.2.1=some r) (fun pre b=>[cells b1 [.pointer none] 29,cells F [zI 0,zI 0] 26,cells b9 [zP q] 29,cells q [b.2.2.2.2.2.2.1.v,.map (some b.2.2.2.2.2.2.2.1),.map (some b.2.2.2.2.2.2.2.2.1),.map (some b.2.2.2.2.2.2.2.2.2.1),b.2.2.2.2.2.2.2.2.2.2.v] 72,bo b.2.2.2.2.2.2.1.v b.1,cq (fun n:ab=>aa n) (fun n:Int=>ax .i64 n) b.2.2.2.2.2.2.2.1 b.2.1,dh b.2.2.2.2.2.2.2.2.1 b.2.2.1,cq (fun n:ab=>aa n) (fun n:Bool=>am n) b.2.2.2.2.2.2.2.2.2.1 b.2.2.2.1,bo b.2.2.2.2.2.2.2.2.2.2.v b.2.2.2.2.1,cells y [zI b.2.2.2.2.2.1] 3]) (fun c pre g=>(fun g=>c=.ret∧bs g.1 g.2.1 g.2.2.1 g.2.2.2.1 g.2.2.2.2.1 g.2.2.2.2.2.1 g.2.2.2.2.2.2.1 g.2.2.2.2.2.2.2.1=some r) g) (fun c pre g=>(fun g=>[cells b1 [.pointer none] 29,cells F [zI g.1,zI g.2.1] 26,cells b9 [zP q] 29,cells q [g.2.2.2.2.2.2.2.2.1.v,.map (some g.2.2.2.2.2.2.2.2.2.1),.map (some g.2.2.2.2.2.2.2.2.2.2.1),.map (some g.2.2.2.2.2.2.2.2.2.2.2.1),g.2.2.2.2.2.2.2.2.2.2.2.2.v] 72,bo g.2.2.2.2.2.2.2.2.1.v g.2.2.1,cq (fun n:ab=>aa n) (fun n:Int=>ax .i64 n) g.2.2.2.2.2.2.2.2.2.1 g.2.2.2.1,dh g.2.2.2.2.2.2.2.2.2.2.1 g.2.2.2.2.1,cq (fun n:ab=>aa n) (fun n:Bool=>am n) g.2.2.2.2.2.2.2.2.2.2.2.1 g.2.2.2.2.2.1,bo g.2.2.2.2.2.2.2.2.2.2.2.2.v g.2.2.2.2.2.2.1,cells y [zI g.2.2.2.2.2.2.2.1] 3]) g) (fun pre x b j=>[(2,zP b1),(3,zP F),(4,zP b9),(5,zP y),(16,.func (.func 118) #[] #[zP df,zP dd,zP c5]),(6,.string x)]) (fun pre x b j=>[cells b1 [.pointer none] 29,cells F [zI 0,zI 0] 26,cells b9 [zP q] 29,cells q [b.2.2.2.2.2.2.1.v,.map (some b.2.2.2.2.2.2.2.1),.map (some b.2.2.2.2.2.2.2.2.1),.map (some b.2.2.2.2.2.2.2.2.2.1),b.2.2.2.2.2.2.2.2.2.2.v] 72,bo b.2.2.2.2.2.2.1.v b.1,cq (fun n:ab=>aa n) (fun n:Int=>ax .i64 n) b.2.2.2.2.2.2.2.1 b.2.1,dh b.2.2.2.2.2.2.2.2.1 b.2.2.1,cq (fun n:ab=>aa n) (fun n:Bool=>am n) b.2.2.2.2.2.2.2.2.2.1 b.2.2.2.1,bo b.2.2.2.2.2.2.2.2.2.2.v b.2.2.2.2.1,cells y [zI b.2.2.2.2.2.1] 3]) (G.units,G.place,G.fors,G.skips,G.lines,0,aw,(aV ao),(aV Y),(aV W),V) (fun post e=>by rw[bt] at e;subst e;exact h) (aH [1,2,9,3,4,5,6,7,8,10] kr rfl) (aH [11,12,13] kr rfl) (fun _=>rfl) dc ?_ ?_ ?_ ?_
   ·
    rintro lp rc pre x1 post ⟨M,L,J,I,H,p,m,E,C,B,f⟩ w1 K1 a4 dj d1 a5
    refine ct (ac 1 rfl (bU ?_))
    exact fun a w ha hw=>⟨(),(aT rfl) _ _ _ ha,hw.weaken (aH [0,1,2,3,4,5,6,7,8,9] kr rfl)⟩
   ·
    rintro lp rc pre x1 bb ⟨M,L,J,I,H,p,m,E,C,B,f⟩ _ w1 K1 a4 dj d1 a5
    have h:=a5 (x1::bb) a4
    obtain⟨en,bh⟩:∃ag,ag=zcM c4 (zew bs) bb:=⟨_,rfl⟩
    have h:zew bs x1 en M L J I H p=some r:=by have h2:=h;rw[nz,← bh] at h2;exact h2
    unfold zew at h
    show TC _ _ _ _ _ _ _ _ [(2,zP b1),(3,zP F),(4,zP b9),(5,zP y),(16,.func (.func 118) #[] #[zP df,zP dd,zP c5]),(6,.string x1)] [cells b1 [.pointer none] 29,cells F [zI 0,zI 0] 26,cells b9 [zP q] 29,cells q [m.v,.map (some E),.map (some C),.map (some B),f.v] 72,bo m.v M,cq (fun n:ab=>aa n) (fun n:Int=>ax .i64 n) E L,dh C J,cq (fun n:ab=>aa n) (fun n:Bool=>am n) B I,bo f.v H,cells y [zI p] 3]
    refine cy (aC (bF (k:=9) dQ rfl dc rfl rfl rfl (ac 1 rfl (cv (bF (k:=9) dQ rfl dc rfl rfl rfl (ac 1 rfl (ly rfl dc rfl an ?_)))))))
    obtain⟨ec,h⟩:=bC h
    refine aO rfl (dN (r:=(x1.size:Int)+1) (ai _ ec)) ?_
    obtain⟨d9,h⟩:=bC h
    refine aO rfl (dN (r:=p+((x1.size:Int)+1)) (ai _ d9)) ?_
    refine ef (k:=9) (l':=[zI (p+((x1.size:Int)+1))]) jj rfl rfl rfl rfl rfl (fun _ _=>rfl) rfl ?_
    refine cv (ac 2 rfl ?_)
    obtain⟨r3,d3,h⟩:=bj h
    refine fY (vs:=[.string x1,zI p]) rfl dc rfl rfl rfl KS (O4 d3) ad ?_
    rintro v1
    show TO _ _ _ _ _ _ _ _ _ _ [cells b1 [.pointer none] 29,cells F [zI 0,zI 0] 26,cells b9 [zP q] 29,cells q [m.v,.map (some E),.map (some C),.map (some B),f.v] 72,bo m.v M,cq (fun n:ab=>aa n) (fun n:Int=>ax .i64 n) E L,dh C J,cq (fun n:ab=>aa n) (fun n:Bool=>am n) B I,bo f.v H,cells y [zI (p+((x1.size:Int)+1))] 3,rZ v1 r3]
    refine jd (k:=10) rfl (fun a6 eg=>?_)
    subst eg
    refine ac 1 rfl (az (cm (aC (ac 1 rfl (iA (k:=10) rfl dc rfl rfl cD (aO rfl eE (az ?_)))))))
    refine bG rfl h (fun h=>?_) (fun h=>?_)
    ·
     refine dZ (cA (ed ?_))
     exact kP (M,L,J,I,H,p+((x1.size:Int)+1),m,E,C,B,f) (fun b0 e2=>by have e9:=kU a4 e2;subst e9;subst bh;exact h) (aH [0,1,2,3,4,5,6,7,8,9] kr rfl)
    refine bH (cz (aC (bF (k:=2) nW rfl dc rfl rfl rfl (ac 3 rfl (ly rfl dc rfl an ?_)))))
    obtain⟨d8,h⟩:=bC h
    refine aO rfl (dN (r:=p+(x1.size:Int)) (ai _ d8)) ?_
    refine kG (k:=10) rfl (fun d0=>?_)
    obtain⟨z,d2,h⟩:=bj h
    refine ua (vs:=[zP q,a6.v,zI (p+(x1.size:Int))]) (Rd.nil:Rd _ _ []) rfl dc rfl rfl rfl KT (PV (bo1:=q) (o1:=(⟨M,L,J,I,H⟩:cK)) (o1_h0:=m) (o1_h1:=(⟨some ⟨E,0,none⟩,0,0⟩:Hd)) (o1_h2:=(⟨some ⟨C,0,none⟩,0,0⟩:Hd)) (o1_h3:=(⟨some ⟨B,0,none⟩,0,0⟩:Hd)) (o1_h4:=f) d0 d2) (aH [3,4,5,6,7,8] kr rfl) (.own (As:=[rZ a6.v r3]) (aH [10] kr rfl) (fun _ _ h=>nU yr (aI.1 h)) .nil) ?_
    rintro⟨S,Q,P,O,N⟩
    refine mj (L':=[cells b1 [.pointer none] 29,cells F [zI 0,zI 0] 26,cells b9 [zP q] 29,cells q [S.v,.map (some (aV Q)),.map (some (aV P)),.map (some (aV O)),N.v] 72,bo S.v z.2.units,cq (fun n:ab=>aa n) (fun n:Int=>ax .i64 n) (aV Q) z.2.place,dh (aV P) z.2.fors,cq (fun n:ab=>aa n) (fun n:Bool=>am n) (aV O) z.2.skips,bo N.v z.2.lines,cells y [zI (p+((x1.size:Int)+1))] 3,rZ a6.v r3]) (aH [0,1,2,11,12,13,14,15,16,9,10] kr rfl) ?_
    refine eN qR rfl dc (fun em=>?_)
    refine eH (k:=11) (vs:=(ku z.1)) (l':=(ku z.1)) jK rfl rfl rfl rfl rfl (show _≤_ by simp) rfl rfl ?_
    show TO _ _ _ _ _ _ _ _ _ _ [cells b1 [.pointer none] 29,cells F [zI 0,zI 0] 26,cells b9 [zP q] 29,cells q [S.v,.map (some (aV Q)),.map (some (aV P)),.map (some (aV O)),N.v] 72,bo S.v z.2.units,cq (fun n:ab=>aa n) (fun n:Int=>ax .i64 n) (aV Q) z.2.place,dh (aV P) z.2.fors,cq (fun n:ab=>aa n) (fun n:Bool=>am n) (aV O) z.2.skips,bo N.v z.2.lines,cells y [zI (p+((x1.size:Int)+1))] 3,rZ a6.v r3,cells em (ku z.1) 26]
    refine cv (cf Ag rfl dc rfl (show _=0 from rfl) (bF (k:=11) Af rfl dc rfl rfl rfl (aO rfl nc (az ?_))))
    refine bG rfl h (fun h=>?_) (fun h=>?_)
    ·
     refine cm ?_
     refine jc 2 [(0,40,.agg (ku z.1).toArray)] mixed kr kr dc (by rfl) kr kr (bR ?_ (bR ?_ bK)) ?_
     · exact fun D n d c u i=>gM (k:=11) (cs:=(ku z.1)) jJ rfl dc (dE (by rfl) rfl) rfl rfl rfl (bm 0 u i)
     · exact fun D n d c u i=>ef (k:=0) (l':=[.pointer none]) yg rfl (dE (by rfl) rfl) rfl rfl rfl (fun _ _=>rfl) rfl (I5 (by rfl))
     refine eH (k:=1) (vs:=(ku z.1)) (l':=(ku z.1)) jK rfl rfl rfl rfl rfl (show _≤_ by simp) rfl rfl (az (bI (cE ?_)))
     exact lJ (z.1.Err,z.1.At,z.2.units,z.2.place,z.2.fors,z.2.skips,z.2.lines,p+((x1.size:Int)+1),S,(aV Q),(aV P),(aV O),N) (show _∧_ from ⟨rfl,h⟩) (aH [0,1,2,3,4,5,6,7,8,9] kr rfl)
    refine bH (cw ?_)
    exact kP (z.2.units,z.2.place,z.2.fors,z.2.skips,z.2.lines,p+((x1.size:Int)+1),S,(aV Q),(aV P),(aV O),N) (fun b0 e2=>by have e9:=kU a4 e2;subst e9;subst bh;exact h) (aH [0,1,2,3,4,5,6,7,8,9] kr rfl)
   ·
    rintro a0 ⟨M,L,J,I,H,p,m,E,C,B,f⟩ a5
    have h:c4 M L J I H p=some r:=a5 [] (aQ _).symm
    rw[dT] at h
    show TX _ _ _ _ _ _ _ [zgL ((([]:List Nat):List Nat).map eZ),cn,cn,cn,cn,cn,cn,cn,cn,cn,cn,cn,cn,cn,cells b1 [.pointer none] 29,cells F [zI 0,zI 0] 26,cells b9 [zP q] 29,cells q [m.v,.map (some E),.map (some C),.map (some B),f.v] 72,bo m.v M,cq (fun n:ab=>aa n) (fun n:Int=>ax .i64 n) E L,dh C J,cq (fun n:ab=>aa n) (fun n:Bool=>am n) B I,bo f.v H,cells y [zI p] 3,eZ a0]
    refine pY (k:=24) (j:=0) rfl rfl dc ?_
    show TX _ _ _ _ _ _ _ [zgL ((a0::([]:List Nat):List Nat).map eZ),cn,cn,cn,cn,cn,cn,cn,cn,cn,cn,cn,cn,cn,cells b1 [.pointer none] 29,cells F [zI 0,zI 0] 26,cells b9 [zP q] 29,cells q [m.v,.map (some E),.map (some C),.map (some B),f.v] 72,bo m.v M,cq (fun n:ab=>aa n) (fun n:Int=>ax .i64 n) E L,dh C J,cq (fun n:ab=>aa n) (fun n:Bool=>am n) B I,bo f.v H,cells y [zI p] 3,cn]
    refine cw ?_
    exact bx (M,L,J,I,H,b9,q,m,E,C,B,f,a0::([]:List Nat)) h rfl (aT rfl) (aH [14,15,16,17,18,19,20,21,22,0] kr rfl)
   rintro a0 c pre x1 post g eq hX
   obtain⟨rfl,h⟩:=(show _∧_ from hX)
   obtain⟨x2,x3,c3,c2,c0,ch,cc,dg,U,a9,a8,a7,T⟩:=g
   rw[ds] at h
   show TC _ _ _ _ _ _ _ _ _ [zgL ((([]:List Nat):List Nat).map eZ),cn,cn,cn,cn,cn,cn,cn,cn,cn,cn,cn,cn,cn,cells b1 [.pointer none] 29,cells F [zI x2,zI x3] 26,cells b9 [zP q] 29,cells q [U.v,.map (some a9),.map (some a8),.map (some a7),T.v] 72,bo U.v c3,cq (fun n:ab=>aa n) (fun n:Int=>ax .i64 n) a9 c2,dh a8 c0,cq (fun n:ab=>aa n) (fun n:Bool=>am n) a7 ch,bo T.v cc,cells y [zI dg] 3,eZ a0]
   refine vJ (k:=24) (j:=0) rfl rfl dc ?_
   show TC _ _ _ _ _ _ _ _ _ [zgL ((a0::([]:List Nat):List Nat).map eZ),cn,cn,cn,cn,cn,cn,cn,cn,cn,cn,cn,cn,cn,cells b1 [.pointer none] 29,cells F [zI x2,zI x3] 26,cells b9 [zP q] 29,cells q [U.v,.map (some a9),.map (some a8),.map (some a7),T.v] 72,bo U.v c3,cq (fun n:ab=>aa n) (fun n:Int=>ax .i64 n) a9 c2,dh a8 c0,cq (fun n:ab=>aa n) (fun n:Bool=>am n) a7 ch,bo T.v cc,cells y [zI dg] 3,cn]
   refine bI (cE (bT (xP (by simp) (yd pz pA 72 ?_))))
   show TX _ _ _ _ _ _ _ [zgL ((a0::([]:List Nat):List Nat).map eZ),cn,cn,cn,cn,cn,cn,cn,cn,cn,cn,cn,cn,cn,cells b1 [.pointer none] 29,cells F [zI x2,zI x3] 26,cells b9 [zP q] 29,cells q [U.v,.map (some a9),.map (some a8),.map (some a7),T.v] 72,bo U.v c3,cq (fun n:ab=>aa n) (fun n:Int=>ax .i64 n) a9 c2,dh a8 c0,cq (fun n:ab=>aa n) (fun n:Bool=>am n) a7 ch,bo T.v cc,cells y [zI dg] 3,cn,lU pz pA 72 (.pointer none) none]
   cases h
   exact lS (rs:=[.cell 2 29,.cell 3 26]) (a0::([]:List Nat)) (.pointer none) (.inl rfl) (lR (k:=0) rfl) results9 (.cons (.cell nW (k:=14) rfl rfl) (.cons (.cells jJ (k:=15) rfl rfl rfl) .nil)) rfl (aH [25] kr rfl)
  rintro⟨o1,o2,o3,o4,o5,b3,b4,a3,b5,b6,b7,a2,bk⟩ h
  rw[d7] at h
  show TC _ _ _ _ _ (mQ bk) _ _ [(2,zP b1),(3,zP F),(4,zP b3)] [cells b1 [.pointer none] 29,cells F [zI 0,zI 0] 26,cells b3 [zP b4] 29,cells b4 [a3.v,.map (some b5),.map (some b6),.map (some b7),a2.v] 72,bo a3.v o1,cq (fun n:ab=>aa n) (fun n:Int=>ax .i64 n) b5 o2,dh b6 o3,cq (fun n:ab=>aa n) (fun n:Bool=>am n) b7 o4,bo a2.v o5,zgL ((bk:List Nat).map eZ)]
  refine aC (bF (k:=2) nW rfl dc rfl rfl rfl ?_)
  refine eU (v:=.agg #[zI 0,zI 0]) (ps:=[]) rfl dc rfl (fun _=>by kernel_rfl) ?_
  refine ef (k:=0) (l':=[zP b4]) yg rfl rfl rfl rfl rfl (fun _ _=>rfl) rfl ?_
  refine eH (k:=1) (vs:=[zI 0,zI 0]) (l':=[zI 0,zI 0]) jK rfl rfl rfl rfl rfl (show _≤_ by simp) rfl rfl ?_
  show TO _ _ _ _ _ _ _ _ _ _ [cells b1 [zP b4] 29,cells F [zI 0,zI 0] 26,cells b3 [zP b4] 29,cells b4 [a3.v,.map (some b5),.map (some b6),.map (some b7),a2.v] 72,bo a3.v o1,cq (fun n:ab=>aa n) (fun n:Int=>ax .i64 n) b5 o2,dh b6 o3,cq (fun n:ab=>aa n) (fun n:Bool=>am n) b7 o4,bo a2.v o5,zgL ((bk:List Nat).map eZ)]
  refine az (bI (xP (by simp) ?_))
  refine D3 (As:=[cells b4 [a3.v,.map (some b5),.map (some b6),.map (some b7),a2.v] 72,bo a3.v o1,cq (fun n:ab=>aa n) (fun n:Int=>ax .i64 n) b5 o2,dh b6 o3,cq (fun n:ab=>aa n) (fun n:Bool=>am n) b7 o4,bo a2.v o5]) (aH [3,4,5,6,7,8] kr rfl) (Eo (enc:=pz) (nest:=pA) (t:=72) (x:=(⟨o1,o2,o3,o4,o5⟩:cK)) (b:=b4) (hd:=(a3,(⟨some ⟨b5,0,none⟩,0,0⟩:Hd),(⟨some ⟨b6,0,none⟩,0,0⟩:Hd),(⟨some ⟨b7,0,none⟩,0,0⟩:Hd),a2))) (fun _ _=>?_)
  show TX _ _ _ _ _ _ _ [cells b1 [zP b4] 29,cells F [zI 0,zI 0] 26,cells b3 [zP b4] 29,cn,cn,cn,cn,cn,cn,zgL ((bk:List Nat).map eZ),lU pz pA 72 (zP b4) (some (⟨o1,o2,o3,o4,o5⟩:cK))]
  cases h
  exact lS (rs:=[.cell 2 29,.cell 3 26]) bk (zP b4) (.inl rfl) (lR (k:=9) rfl) results9 (.cons (.cell nW (k:=0) rfl rfl) (.cons (.cells jJ (k:=1) rfl rfl rfl) .nil)) rfl (aH [10] kr rfl)
 exact fun b hb=>hb.elim
def zcg (o1:cK) (j1:ab→Option ab) (ag1:ab→Int→Option ab) (b6:ab) (x3:Int):Option ab := aU (decide ((x3:Int)<(o1.lines.length:Int))) ( aX (zcy o1.lines x3) fun (q1:ab)=> aY (q1.size+(⟨#[10]⟩:ab).size≤9223372036854775807) <| aY (b6.size+(q1++(⟨#[10]⟩:ab)).size≤140737488355328) <| aY (cR (x3+1)) <| ag1 (b6++(q1++(⟨#[10]⟩:ab))) (x3+1)
) ( j1 b6
)
def xu (o1:cK):Option ab := cJ (fun (j1:ab→Option ab)=> zaI (fun _ _=>none) (zcg o1 j1) zbH (⟨#[]⟩:ab) 0
) (fun (b2:ab)=> some b2
)
theorem PW {bo1:Nat} {o1:cK} {o1_h0 o1_h1 o1_h2 o1_h3 o1_h4:Hd} {r:ab} (h:xu o1=some r):iv prog 10 [zP bo1] [cells bo1 [o1_h0.v,.map (some (aV o1_h1)),.map (some (aV o1_h2)),.map (some (aV o1_h3)),o1_h4.v] 72,bo o1_h0.v o1.units,cq (fun n:ab=>aa n) (fun n:Int=>ax .i64 n) (aV o1_h1) o1.place,dh (aV o1_h2) o1.fors,cq (fun n:ab=>aa n) (fun n:Bool=>am n) (aV o1_h3) o1.skips,bo o1_h4.v o1.lines] [] (fun _:Unit=>(.string r)) (fun _=>[]):=by
 unfold xu at h
 refine iv.intro func10 rfl ntmps10 (by simp) ?_
 intro w0 K a
 refine aC (ac 1 rfl (az (cm (aC (ac 1 rfl (aO rfl (vI jW) (az (eQ rfl (bH ?_)))))))))
 refine cz ?_
 obtain⟨l,p,h⟩:=cP h
 refine c8 (β:=ab×Nat) 1 rfl (fun b=>l b.1=some r) (fun b=>[]) (fun b=>[(3,zP b.2)]) (fun b=>[pE b.2 b.1]) (fun cut=>?_) ?_
 ·
  refine aC ?_
  refine eN EH rfl dc (fun e=>?_)
  refine pp (k:=0) rfl FX ?_
  refine az (cut (aC (ac 1 rfl (fX rfl dc rfl (cf uf rfl dc rfl (show _=4 from rfl) (lT (i:=0) a rfl lA rfl dc rfl rfl (iO (a.vw (i:=5) rfl) rfl dc rfl aD (ac 1 rfl (az (cy ?_))))))))))
  refine fh (β:=Nat×ab×Int) (fun b=>zaI (fun _ _=>none) (zcg o1 l) b.1 b.2.1 b.2.2=some r) (fun b=>[]) (fun b=>[(3,zP e),(11,o1_h4.v),(12,zI (o1.lines.length:Int)),(13,zI b.2.2)]) (fun b=>[pE e b.2.1]) (fun b=>b.1) (zbH,(⟨#[]⟩:ab),0) (by exact h) rfl (aT rfl) (aH [0] kr rfl) ?_
  rintro⟨g,m,f⟩ h
  cases g with
  | zero=>exact fa h
  | succ g=>
   obtain⟨x,c⟩:∃ag,ag=zaI (fun _ _=>none) (zcg o1 l) g:=⟨_,rfl⟩
   have h:zcg o1 l x m f=some r:=by rw[c];exact h
   unfold zcg at h
   refine aC (aO rfl ei (az (cm ?_)))
   refine bG rfl h (fun h=>?_) (fun h=>?_)
   ·
    refine bH (cz (cm (cy (aC ?_))))
    obtain⟨q1,d,h⟩:=bj h
    refine gq (a.vw (i:=5) rfl) d aD gm rfl dc rfl rfl rfl (vW (n:=0+(f:Int).toNat) (j:=0) (i:=5) (q:=q1) a rfl ea ga rfl dc rfl (cI (a.vw (i:=5) rfl) d) rfl dc rfl (ac 1 rfl (az (ct (ac 1 rfl ?_)))))
    obtain⟨w,h⟩:=bC h
    refine aO rfl (kQ w) ?_
    obtain⟨u,h⟩:=bC h
    refine fY (vs:=[zP e,.string (q1++(⟨#[10]⟩:ab))]) rfl dc rfl rfl rfl Av (A6 e m (q1++(⟨#[10]⟩:ab)) u) (aH [0] kr rfl) ?_
    rintro u1
    refine bU (cw (cz (ct ?_)))
    obtain⟨t,h⟩:=bC h
    refine aO rfl (dN (r:=f+1) (ai _ t)) (ac 1 rfl (bU ?_))
    subst c
    exact ff (g,m++(q1++(⟨#[10]⟩:ab)),f+1) h (av _) rfl (aT rfl) (aH [1] kr rfl)
   refine dZ (cA (cA (ed ?_)))
   exact bx (m,e) h rfl (aT rfl) (aH [0] kr rfl)
 rintro⟨y,b1⟩ h
 rw[p] at h
 refine aC (fY (vs:=[zP b1]) rfl dc rfl rfl rfl E2 (FW b1 y) (aH [0] kr rfl) ?_)
 rintro _
 refine ac 1 rfl (az (bI ?_))
 cases h
 exact dk 2 results10
abbrev Wd:=fU
abbrev zhg:ab:=⟨#[112,117,116]⟩
abbrev oq:ab:=⟨#[97,102,116,101,114]⟩
abbrev cAs:ab:=⟨#[97,115]⟩
abbrev lB:ab:=⟨#[115,107,105,112]⟩
abbrev zeB:ab:=⟨#[]⟩
def w0:Wd:=⟨0,zeB⟩
def l0 (l:List Wd) (k:Nat):Int:=(l.getD k w0).at_
def pQ (l:List Wd) (e:Int) (least most:Nat):Int:=if l.length<least then e else if most<l.length then l0 l most else -1
def kz (l:List Wd) (e:Int):Int :=
 if (l.getD 0 w0).text=zhg then (if 2<l.length∧(l.getD 2 w0).text≠oq then l0 l 2 else pQ l e 4 4)
 else if (l.getD 0 w0).text=cAs then pQ l e 3 6
 else if (l.getD 0 w0).text=lB then pQ l e 2 2
 else l0 l 0
theorem n0 {α:Type} {l:List α} {k:Nat} {d:α} (h:k<l.length):l[k]?=some (l.getD k d):=by
 rw[cC,aP h];rfl
theorem pd {α:Type} {l:List α} {k:Nat} (d:α) (h:k<l.length):zcy l (k:Int)=some (l.getD k d):=jz (n0 h)
theorem PX (l:List Wd) (e:Int) (h0:0<l.length):xk l e=some (kz l e):=by
 have c:∀ (a b:Nat),(aU (decide (((l.length:Int):Int)<(a:Int))) (some e) (aU (decide (((b:Int):Int)<(l.length:Int))) (aX (zcy l (b:Int)) fun (f:Wd)=>some f.at_) (some (-1))))=some (pQ l e a b):=by
  intro a b
  unfold pQ
  by_cases h1:l.length<a
  ·rw[ay h1];exact cu (al (by omega)) rfl
  ·rw[ar h1]
   refine cr (ae (by omega)) ?_
   by_cases h2:b<l.length
   ·rw[ay h2];exact cu (al (by omega)) (bN (pd w0 h2) rfl)
   ·rw[ar h2];exact cr (ae (by omega)) rfl
 unfold xk kz
 refine dv (bN (pd (k:=0) w0 h0) ?_)
 by_cases h1:(l.getD 0 w0).text=zhg
 ·rw[ay h1]
  refine cu (al h1) (dv ?_)
  by_cases h2:2<l.length
  ·refine cu (al (by omega)) (bN (pd (k:=2) w0 h2) ?_)
   by_cases d:(l.getD 2 w0).text=oq
   ·rw[ar (fun h=>h.2 d)]
    exact cr (by rw[al d];rfl) (c 4 4)
   ·rw[ay ⟨h2,d⟩]
    exact cu (by rw[ae d];rfl) (bN (pd (k:=2) w0 h2) rfl)
  ·rw[ar (fun h=>h2 h.1)]
   exact cr (ae (by omega)) (c 4 4)
 ·rw[ar h1]
  refine cr (ae h1) ?_
  by_cases h2:(l.getD 0 w0).text=cAs
  ·rw[ay h2];exact cu (al h2) (c 3 6)
  ·rw[ar h2]
   refine cr (ae h2) ?_
   by_cases d:(l.getD 0 w0).text=lB
   ·rw[ay d];exact cu (al d) (c 2 2)
   ·rw[ar d];exact cr (ae d) (bN (pd (k:=0) w0 h0) rfl)
abbrev zsX:ab:=⟨#[32,97,102,116,101,114]⟩
abbrev zuZ:ab:=⟨#[32]⟩
def fmS (put:Bool):Nat→List Wd→Int ⊕ (List ab×ab)
 | _,[]=>.inr ([],zeB)
 | i,w::ws=>
  if i=0∨(put=true∧i=2) then (match fmS put (i+1) ws with | .inl a=>.inl a | .inr (f,s)=>.inr (zeB::f,(if i=0 then zeB else zsX)++s))
  else if zdT w.text=zeB then .inl w.at_
  else match fmS put (i+1) ws with | .inl a=>.inl a | .inr (f,s)=>.inr (zdT w.text::f,(zuZ++zoJ (zdT w.text))++s)
theorem zk:∀ (l:List Tk) (k:Nat),k≤8→lO k l=true→k+l.length≤8
 | [],k,hk,_=>hk
 | x::l,k,hk,h=>by
  rw[lO,aR,aR] at h
  have a:=of_decide_eq_true h.1.1
  have:=zk l (k+1) a h.2
  rw[aj];omega
theorem HX (s:ab):∀y∈ky s,y.2.size≤4:=by
 intro y hy
 obtain⟨x,hx,rfl⟩:=aW.1 hy
 have:=vk (ql _ x hx)
 show (⟨x.bs.toArray⟩:ab).size≤4
 rw[kL]
 simpa using this
theorem xv (s:ab):(zdT s).size≤32:=by
 unfold zdT
 by_cases h:lO 0 (ky s)=true
 ·rw[ay h]
  have h1:=zk _ 0 (by omega) h
  have h2:(iL s).size≤4*((ky s).map gI).length:=zg fun y hy=>by
   obtain⟨x,hx,rfl⟩:=aW.1 hy
   exact zi (HX s x hx)
  rw[aF] at h2
  omega
 ·rw[ar h];show 0≤32;omega
theorem PY {α:Type} (D:List α) (x y:α) (R:List α):(D++x::R).set ((D.length:Int)).toNat y=D++y::R:=by
 rw[dI,oL _ _ (bJ _),oV];rfl
theorem PZ (o:cK) (l:List Wd) (q2:Wd) (J:ab→ab→List ab→Option (zat×cK)) (L:l.length≤2147483648) (I:∀w∈l,w.text.size≤65536) :
  ∀ (n:Nat) (B A:List Wd) (D:List ab) (said:ab),l=A++B→D.length=A.length→B.length<n→said.size≤65536+1000*A.length →
   zaI (fun _ _ _=>none) (zcp o l J q2) n said (D++bA B.length zeB) (A.length:Int) =
    match fmS (decide (q2.text=zhg)) A.length B with
    | .inl a=>some ((⟨221,a⟩:zat),o)
    | .inr (f,s)=>J q2.text (said++s) (D++f):=by
 intro n
 induction n with
 | zero=>intro B A D said _ _ h;omega
 | succ n H=>
  intro B A D said hA C K Q
  rw[ic]
  generalize y:zaI (fun _ _ _=>none) (zcp o l J q2) n=ag
  unfold zcp
  cases B with
  | nil=>
   refine cr (ae (by rw[hA];simp)) ?_
   show J q2.text said (D++[])=J q2.text (said++zeB) (D++[])
   rw[show zeB=aA from rfl,bW]
  | cons w B=>
   have N:A.length≤2147483648:=by rw[hA,ah] at L;omega
   have k:l[A.length]?=some w:=by rw[hA];simp
   have E:l=(A++[w])++B:=by rw[hA,aM];rfl
   have b:(A++[w]).length=A.length+1:=by simp
   have r:=fun (x e:ab) (v:e.size≤65536+1000*(A.length+1))=>H B (A++[w]) (D++[x]) e E (by rw[ah,b,C];rfl) (by rw[aj] at K;omega) (by rw[b];exact v)
   rw[y,b] at r
   have m:cR ((A.length:Int)+1):=⟨by omega,by omega⟩
   have j:bA (w::B).length zeB=zeB::bA B.length zeB:=rfl
   have g:∀ (x:ab) (R:List ab),(D++[x])++R=D++x::R:=fun x R=>by rw[aM];rfl
   have d:∀ (z:ab),z.size≤6→(A.length=0∨(decide (q2.text=zhg)=true∧A.length=2))→z=(if A.length=0 then zeB else zsX) →
     (aY (cR ((A.length:Int)+1))<|ag (said++z) (D++zeB::bA B.length zeB) ((A.length:Int)+1))=match fmS (decide (q2.text=zhg)) A.length (w::B) with | .inl a=>some ((⟨221,a⟩:zat),o) | .inr (f,s)=>J q2.text (said++s) (D++f):=by
    intro z hz hc t
    refine zbx m ?_
    have:=r zeB (said++z) (by rw[aK];omega)
    rw[g] at this
    push_cast at this
    rw[this,fmS,ay hc]
    cases fmS (decide (q2.text=zhg)) (A.length+1) B with
    | inl a=>rfl
    | inr fs=>
     obtain⟨f,s⟩:=fs
     show J q2.text ((said++z)++s) ((D++[zeB])++f)=J q2.text (said++(_++s)) (D++zeB::f)
     rw[g,dS,t]
   have c:¬ (A.length=0∨(decide (q2.text=zhg)=true∧A.length=2)) →
     (aX (vg w.text) fun (q:ab)=>aX (zcy (D++zeB::bA B.length zeB) (A.length:Int)) fun (P:ab)=>aX (zcy ((D++zeB::bA B.length zeB).set ((A.length:Int):Int).toNat q) (A.length:Int)) fun (G:ab)=>
      aU (decide (G=(⟨#[]⟩:ab))) (some ((⟨221,w.at_⟩:zat),o)) (
       aX (zcy ((D++zeB::bA B.length zeB).set ((A.length:Int):Int).toNat q) (A.length:Int)) fun (F:ab)=>aX (ss F) fun (p:ab)=>
        aY ((⟨#[32]⟩:ab).size+p.size≤9223372036854775807)<|aY (said.size+((⟨#[32]⟩:ab)++p).size≤9223372036854775807) <|
         aY (cR ((A.length:Int)+1))<|ag (said++((⟨#[32]⟩:ab)++p)) ((D++zeB::bA B.length zeB).set ((A.length:Int):Int).toNat q) ((A.length:Int)+1)))=match fmS (decide (q2.text=zhg)) A.length (w::B) with | .inl a=>some ((⟨221,a⟩:zat),o) | .inr (f,s)=>J q2.text (said++s) (D++f):=by
    intro hc
    have u:w.text.size≤65536:=I w (by rw[hA];simp)
    have O:=xv w.text
    have i:=PY D zeB (zdT w.text) (bA B.length zeB)
    rw[C] at i
    have hg:∀ (x:ab) (R:List ab),zcy (D++x::R) (A.length:Int)=some x:=fun x R=>jz (by rw[← C];simp)
    refine bN (PR w.text u) (bN (hg _ _) ?_)
    rw[i,fmS,ar hc]
    refine bN (hg _ _) ?_
    by_cases he:zdT w.text=zeB
    ·rw[ay he];exact cu (al he) rfl
    ·rw[ar he]
     have ht:=(vj (zdT w.text) (by omega)).2.2.2
     have M:(⟨#[32]⟩:ab).size=1:=rfl
     refine cr (ae he) (bN (hg _ _) (bN (Hb _ (by omega)) (zbx (by omega) (zbx (by rw[aK];omega) (zbx m ?_)))))
     have:=r (zdT w.text) (said++(zuZ++zoJ (zdT w.text))) (by rw[aK,aK];show _+(1+_)≤_;omega)
     rw[g] at this
     push_cast at this
     rw[this]
     cases fmS (decide (q2.text=zhg)) (A.length+1) B with
     | inl a=>rfl
     | inr fs=>
      obtain⟨f,s⟩:=fs
      show J q2.text ((said++_)++s) ((D++[_])++f)=J q2.text (said++(_++s)) (D++_::f)
      rw[g,dS]
   rw[j]
   refine cu (al (by rw[hA];simp;omega)) (dv (dv (bN (jz k) ?_)))
   by_cases h0:A.length=0
   ·refine cu (by rw[h0];rfl) (dv (cr (by rw[h0];rfl) ?_))
    have:=d zeB (by show 0≤6;omega) (.inl h0) (by rw[ay h0])
    rw[show zeB=aA from rfl,bW] at this
    exact this
   ·refine cr (aS.2 (by omega)) ?_
    by_cases hp:q2.text=zhg
    ·refine cu (al hp) ?_
     by_cases h2:A.length=2
     ·refine cu (by rw[h2];rfl) (dv (cu (al (by omega)) (zbx (by show said.size+6≤_;omega) ?_)))
      exact d zsX (by show 6≤6;omega) (.inr ⟨al hp,h2⟩) (by rw[ar h0])
     ·exact cr (aS.2 (by omega)) (c (fun h=>by rcases h with h | h;exact h0 h;exact h2 h.2))
    ·exact cr (ae hp) (c (fun h=>by rcases h with h | h;exact h0 h;exact hp (of_decide_eq_true h.1)))
section
variable {κ ν:Type} [DecidableEq κ]
theorem vn (k:κ) (v:ν) (q:κ):∀L:List (κ×ν),zbL q (gH k v L)=if q=k then some v else zbL q L
 | []=>rfl
 | p::L=>by
  have b:=vn k v q L
  unfold gH
  by_cases h:k=p.1
  ·rw[ay h]
   unfold zbL
   by_cases a:q=k
   ·rw[ay a,ay a]
   ·rw[ar a,ar a,ar (by rw[← h];exact a)]
  ·rw[ar h]
   unfold zbL
   by_cases a:q=p.1
   ·rw[ay a,ay a,ar (by rw[a];exact fun e=>h e.symm)]
   ·rw[ar a,ar a,b]
end
def ln:List ab→ab→Option Int
 | [],_=>none
 | x::l,u=>if u=x then some 0 else (ln l u).map (· + 1)
theorem xw:∀ {l:List ab} {u:ab} {i:Int},ln l u=some i→0≤i∧i<(l.length:Int)∧l[i.toNat]?=some u
 | [],u,i,h=>by cases h
 | x::l,u,i,h=>by
  rw[ln] at h
  split at h
  ·rename_i e
   injection h with h
   subst h
   exact⟨jt _,by rw[aj];push_cast;omega,by rw[e];rfl⟩
  ·cases h1:ln l u with
   | none=>rw[h1] at h;cases h
   | some j=>
    rw[h1] at h
    injection h with h
    subst h
    obtain⟨a,b,c⟩:=xw h1
    show 0≤j+1∧_
    refine⟨by omega,by rw[aj];push_cast;omega,?_⟩
    rw[show (j+1).toNat=j.toNat+1 by omega,List.getElem?_cons_succ]
    exact c
theorem iw:∀ {l:List ab} {u:ab},(ln l u).isSome=true↔u∈l
 | [],u=>by simp[ln]
 | x::l,u=>by
  rw[ln]
  by_cases h:u=x
  ·rw[ay h];simp[h]
  ·rw[ar h,Option.isSome_map,iw];simp[h]
def zun:List ab→Int→List (ab×Int)→List (ab×Int)
 | [],_,m=>m
 | u::us,i,m=>zun us (i+1) (gH u i m)
theorem CW:∀ (us:List ab) (i:Int) (m:List (ab×Int)) (u:ab),us.Nodup→zbL u (zun us i m)=match ln us u with | some k=>some (i+k) | none=>zbL u m
 | [],i,m,u,_=>rfl
 | x::us,i,m,u,h=>by
  rw[ix] at h
  rw[zun,CW us (i+1) _ u h.2,ln,vn]
  by_cases hu:u=x
  ·subst hu
   have:ln us u=none:=by
    cases hi:ln us u with
    | none=>rfl
    | some j=>
     exact absurd (iw.1 (by rw[hi];rfl)) h.1
   rw[this,ay rfl]
   simp
  ·rw[ar hu,ar hu]
   cases ln us u with
   | none=>rfl
   | some j=>
    show some (i+1+j)=some (i+(j+1))
    congr 1;omega
theorem P0 (o:cK) (h:o.units.length≤1000000000):vh o=some ⟨o.units,zun o.units 0 o.place,o.fors,o.skips,o.lines⟩:=by
 unfold vh
 have key:∀ (n k:Nat) (m:List (ab×Int)),k≤o.units.length→o.units.length - k<n→zaI (fun _ _=>none) (zcc o) n m (k:Int)=some ⟨o.units,zun (o.units.drop k) (k:Int) m,o.fors,o.skips,o.lines⟩:=by
  intro n
  induction n with
  | zero=>intro k m _ h;omega
  | succ n c=>
   intro k m hk d
   rw[ic]
   generalize b:zaI (fun _ _=>none) (zcc o) n=ag
   unfold zcc
   by_cases a:k<o.units.length
   ·refine cu (al (by omega)) (bN (pd zeB a) (zbx ⟨by omega,by omega⟩ ?_))
    have:=c (k+1) (gH (o.units.getD k zeB) (k:Int) m) (by omega) (by omega)
    rw[b] at this
    push_cast at this
    rw[this,bB a,zun]
    congr 3
    rw[cC,aP a];rfl
   ·refine cr (ae (by omega)) ?_
    rw[cO (by omega)];rfl
 have:=key zbH 0 o.place (cH _) (by unfold zbH;omega)
 rw[List.drop_zero] at this
 exact this
def oa (o:cK) (u:ab):Bool:=(zbL u o.place).isSome||(zbL u o.fors).isSome
theorem P1 (o:cK) (u:ab):xm o u=some (oa o u):=by
 unfold xm oa
 cases (zbL u o.place).isSome with
 | true=>exact cu rfl rfl
 | false=>exact cr rfl (by rw[ik])
def k6 (o:cK):Nat→List ab→List Wd→Option Int
 | i,f::fs,w::ws=>if 1<i∧f≠zeB∧(zbL f o.place).isSome=false then some w.at_ else k6 o (i+1) fs ws
 | _,_,_=>none
def np (l:List Wd) (s:ab):ab:=(l.getD 0 w0).text++s
def fD (fs:List ab) (k:Nat):ab:=fs.getD k zeB
def zl (o:cK) (fs:List ab) (sd:ab):cK :=
 let us:=iK o.units ((zbL (fD fs 3) o.place).getD 0+1) (fD fs 1)
 ⟨us,zun us 0 o.place,o.fors,o.skips,o.lines++[sd]⟩
def kA (o:cK) (l:List Wd) (e:Int):zat×cK :=
 if o.lines.length=256 then (⟨3,l0 l 0⟩,o)
 else if 0≤kz l e then (⟨220,kz l e⟩,o)
 else match fmS (decide ((l.getD 0 w0).text=zhg)) 0 l with
  | .inl a=>(⟨221,a⟩,o)
  | .inr (fs,s)=>
   if (l.getD 0 w0).text=lB then
    (if (zbL (lY (fD fs 1)) o.skips).getD false=true then (⟨222,l0 l 1⟩,o) else (⟨0,0⟩,⟨o.units,o.place,o.fors,gH (lY (fD fs 1)) true o.skips,o.lines++[np l s]⟩))
   else if oa o (fD fs 1)=true then (⟨222,l0 l 1⟩,o)
   else match k6 o 0 fs l with
    | some a=>(⟨223,a⟩,o)
    | none=>(⟨0,0⟩,if (l.getD 0 w0).text=zhg then zl o fs (np l s) else ⟨o.units,o.place,gH (fD fs 1) (fs.drop 2) o.fors,o.skips,o.lines++[np l s]⟩)
theorem P2 (o:cK) (l:List Wd) (fs:List ab) (J:Option (zat×cK)) (q:fs.length=l.length) (r:l.length≤2147483648):∀ (n:Nat) (A B:List ab) (C D:List Wd),fs=A++B→l=C++D→A.length=C.length→B.length<n →
  zaI (fun _=>none) (zco o l fs J) n (A.length:Int)=match k6 o A.length B D with | some a=>some ((⟨223,a⟩:zat),o) | none=>J:=by
 intro n
 induction n with
 | zero=>intro A B C D _ _ _ h;omega
 | succ n m=>
  intro A B C D hA c b p
  rw[ic]
  generalize i:zaI (fun _=>none) (zco o l fs J) n=ag
  unfold zco
  have j:B.length=D.length:=by
   rw[hA,c,ah,ah] at q;omega
  cases B with
  | nil=>exact cr (ae (by rw[hA];simp)) rfl
  | cons f B=>
   cases D with
   | nil=>cases j
   | cons w D=>
    have t:A.length≤2147483648:=by rw[c,ah] at r;omega
    have g:fs[A.length]?=some f:=by rw[hA];simp
    have e:l[A.length]?=some w:=by rw[c,b];simp
    have d:=m (A++[f]) B (C++[w]) D (by rw[hA,aM];rfl) (by rw[c,aM];rfl) (by simp[b]) (by rw[aj] at p;omega)
    rw[i,show (A++[f]).length=A.length+1 by simp] at d
    push_cast at d
    have k:(aY (cR ((A.length:Int)+1))<|ag ((A.length:Int)+1))=match k6 o (A.length+1) B D with | some a=>some ((⟨223,a⟩:zat),o) | none=>J:=zbx ⟨by omega,by omega⟩ d
    refine cu (al (by rw[hA];simp;omega)) (dv (bN (jz g) ?_))
    rw[k6]
    by_cases h1:1<A.length
    ·refine cu (al (by omega)) ?_
     by_cases h2:f=zeB
     ·rw[ar (fun h=>h.2.1 h2)]
      exact cr (by rw[al h2];rfl) k
     ·refine cu (by rw[ae h2];rfl) ?_
      cases u:(zbL f o.place).isSome with
      | true=>rw[ar (fun h=>by cases h.2.2)];exact cr rfl k
      | false=>rw[ay ⟨h1,h2,rfl⟩];exact cu rfl (bN (jz e) rfl)
    ·rw[ar (fun h=>h1 h.1)]
     exact cr (ae (by omega)) k
theorem xx (put:Bool):∀ (l:List Wd) (i:Nat) (f:List ab) (s:ab),fmS put i l=.inr (f,s)→f.length=l.length
 | [],i,f,s,h=>by
  rw[fmS] at h
  injection h with h
  injection h with h1 h2
  rw[← h1];rfl
 | w::l,i,f,s,h=>by
  rw[fmS] at h
  cases hr:fmS put (i+1) l with
  | inl a=>
   rw[hr] at h
   split at h
   ·cases h
   ·split at h <;> cases h
  | inr fs=>
   obtain⟨f',c⟩:=fs
   have b:=xx put l (i+1) f' c hr
   rw[hr] at h
   split at h
   ·injection h with h
    injection h with h1 h2
    rw[← h1,aj,aj,b]
   ·split at h
    ·cases h
    ·injection h with h
     injection h with h1 h2
     rw[← h1,aj,aj,b]
theorem tx {l:List Wd} {e:Int} (he:0≤e) (i:∀w∈l,0≤w.at_) (h0:0<l.length) (h:¬ 0≤kz l e) :
  ((l.getD 0 w0).text=zhg∧l.length=4∧(l.getD 2 w0).text=oq)∨((l.getD 0 w0).text=cAs∧3≤l.length∧l.length≤6)∨((l.getD 0 w0).text=lB∧l.length=2):=by
 have f:∀k,k<l.length→0≤l0 l k:=fun k hk=>i _ (aJ (n0 hk))
 have d:∀a b,¬ 0≤pQ l e a b→a≤l.length∧l.length≤b:=by
  intro a b c
  unfold pQ at c
  by_cases h1:l.length<a
  ·rw[ay h1] at c;exact absurd he c
  ·rw[ar h1] at c
   by_cases h2:b<l.length
   ·rw[ay h2] at c;exact absurd (f b h2) c
   ·omega
 unfold kz at h
 by_cases h1:(l.getD 0 w0).text=zhg
 ·rw[ay h1] at h
  by_cases h2:2<l.length∧(l.getD 2 w0).text≠oq
  ·rw[ay h2] at h;exact absurd (f 2 h2.1) h
  ·rw[ar h2] at h
   have:=d 4 4 h
   refine .inl ⟨h1,by omega,?_⟩
   exact Decidable.byContradiction fun c=>h2 ⟨by omega,c⟩
 ·rw[ar h1] at h
  by_cases h2:(l.getD 0 w0).text=cAs
  ·rw[ay h2] at h;exact .inr (.inl ⟨h2,d 3 6 h⟩)
  ·rw[ar h2] at h
   by_cases g:(l.getD 0 w0).text=lB
   ·rw[ay g] at h
    have:=d 2 2 h
    exact .inr (.inr ⟨g,by omega⟩)
   ·rw[ar g] at h;exact absurd (f 0 h0) h
theorem P3 (x:Tk):gI (gI x)=gI x:=by
 cases h:kK x with
 | true=>
  have e:gI x=(ee x.1,af (ee x.1)):=by unfold gI;rw[h];rfl
  have h1:kK (gI x)=true:=by rw[HU];exact h
  rw[e] at h1 ⊢
  unfold gI
  rw[h1,ay rfl]
  show (ee (ee x.1),af (ee (ee x.1)))=_
  rw[(sv (show dw x.1=true from h)).2.1]
 | false=>
  have e:gI x=x:=by unfold gI;rw[h];rfl
  rw[e,e]
def qx (u:ab):Prop:=u≠zeB∧zdT u=u
theorem P4 (s:ab) (a:s.size≤65536):iL (iL s)=iL s:=by
 show mX ((ky (iL s)).map gI)=mX ((ky s).map gI)
 rw[HR s a,ce]
 exact aL mX (dF fun x _=>P3 x)
theorem CX (s:ab) (a:s.size≤65536) (h:zdT s≠zeB):qx (zdT s):=by
 refine⟨h,?_⟩
 unfold zdT at h ⊢
 by_cases hk:lO 0 (ky s)=true
 ·rw[ay hk,HR s a,zj,ay hk,P4 s a]
 ·rw[ar hk] at h;exact absurd rfl h
theorem CY (put:Bool):∀ (l:List Wd) (i:Nat) (f:List ab) (s:ab),fmS put i l=.inr (f,s)→∀k w,l[k]?=some w →
  f[k]?=some (if i+k=0∨(put=true∧i+k=2) then zeB else zdT w.text)∧(¬ (i+k=0∨(put=true∧i+k=2))→zdT w.text≠zeB)
 | [],i,f,s,_,k,w,hk=>by simp at hk
 | w'::l,i,f,s,h,k,w,hk=>by
  rw[fmS] at h
  cases hr:fmS put (i+1) l with
  | inl a=>
   rw[hr] at h
   split at h
   ·cases h
   ·split at h <;> cases h
  | inr fs=>
   obtain⟨f',c⟩:=fs
   have b:=CY put l (i+1) f' c hr
   rw[hr] at h
   by_cases hc:i=0∨(put=true∧i=2)
   ·rw[ay hc] at h
    injection h with h
    injection h with h1 h2
    subst h1
    cases k with
    | zero=>
     injection hk with hk
     subst hk
     rw[Nat.add_zero,ay hc]
     exact⟨rfl,fun h=>absurd hc h⟩
    | succ k=>
     have:=b k w hk
     rw[show i+1+k=i+(k+1) by omega] at this
     exact this
   ·rw[ar hc] at h
    by_cases he:zdT w'.text=zeB
    ·rw[ay he] at h;cases h
    ·rw[ar he] at h
     injection h with h
     injection h with h1 h2
     subst h1
     cases k with
     | zero=>
      injection hk with hk
      subst hk
      rw[Nat.add_zero,ar hc]
      exact⟨rfl,fun _=>he⟩
     | succ k=>
      have:=b k w hk
      rw[show i+1+k=i+(k+1) by omega] at this
      exact this
theorem zm (o:cK):∀ (fs:List ab) (a:List Wd) (i:Nat),fs.length=a.length→k6 o i fs a=none→∀k f,fs[k]?=some f→1<i+k→f≠zeB→(zbL f o.place).isSome=true
 | [],a,i,_,_,k,f,hk,_,_=>by simp at hk
 | f'::fs,[],i,hl,_,_,_,_,_,_=>by cases hl
 | f'::fs,w::a,i,hl,h,k,f,hk,h1,hf=>by
  rw[k6] at h
  split at h
  ·cases h
  ·rename_i b
   cases k with
   | zero=>
    injection hk with hk
    subst hk
    cases hp:(zbL f' o.place).isSome with
    | true=>rfl
    | false=>exact absurd ⟨by omega,hf,hp⟩ b
   | succ k=>exact zm o fs a (i+1) (by simpa using hl) h k f hk (by omega) hf
structure k7 (o:cK):Prop where
 pl:∀u,zbL u o.place=ln o.units u
 nd:o.units.Nodup
 ul:o.units.length≤90+o.lines.length
 ll:o.lines.length≤256
 fo:∀u xs,zbL u o.fors=some xs→xs≠[]∧xs.length≤4∧∀x∈xs,x∈o.units
 dj:∀u,(zbL u o.fors).isSome=true→u ∉ o.units
 us:∀u∈o.units,qx u
 fk:∀u,(zbL u o.fors).isSome=true→qx u
 lw:26≤o.units.length
theorem zn {fs:List ab} {k:Nat} (h:k<fs.length):fs[k]?=some (fD fs k):=n0 h
theorem vo {l:List Wd} {put:Bool} {f:List ab} {s:ab} (h:fmS put 0 l=.inr (f,s)) (k:Nat) (hk:k<l.length) (a:¬ (k=0∨(put=true∧k=2))):fD f k=zdT (l.getD k w0).text∧fD f k≠zeB:=by
 have b:=xx put l 0 f s h
 obtain⟨h1,h2⟩:=CY put l 0 f s h k _ (n0 hk)
 rw[cg,ar a,zn (by omega)] at h1
 injection h1 with h1
 rw[cg] at h2
 exact⟨h1,by rw[h1];exact h2 a⟩
theorem P5 {o:cK} (h:k7 o) {u:ab} (hu:(zbL u o.place).isSome=false):u ∉ o.units:=by
 intro hm
 have:=iw.2 hm
 rw[← h.pl,hu] at this
 cases this
theorem P6 {o:cK} (h:k7 o) {u:ab} (hu:(zbL u o.place).isSome=true):u∈o.units:=by
 rw[h.pl] at hu
 exact iw.1 hu
theorem P7 {o:cK} (h:k7 o) (l:List Wd) (e:Int) (he:0≤e) (h0:0<l.length) (F:l.length≤1000000000) (B:∀w∈l,0≤w.at_) (t:∀w∈l,w.text.size≤65536):xt o l e=some (kA o l e):=by
 have x:=h.ul;have y:=h.ll
 unfold xt kA
 by_cases h1:o.lines.length=256
 ·rw[ay h1]
  exact cu (by rw[h1];rfl) (bN (pd (k:=0) w0 h0) rfl)
 rw[ar h1]
 refine cr (aS.2 (by omega)) (bN (PX l e h0) ?_)
 by_cases h2:0≤kz l e
 ·rw[ay h2];exact cu (al h2) rfl
 rw[ar h2]
 have i:=tx he B h0 h2
 refine cr (ae h2) (dv (bN (pd (k:=0) w0 h0) (zbx ⟨by omega,by omega⟩ ?_)))
 have E:(l.getD 0 w0).text.size≤65536:=t _ (aJ (n0 h0))
 have f:=fun J=>PZ o l (l.getD 0 w0) J (by omega) t zbH l [] [] (l.getD 0 w0).text rfl rfl (by unfold zbH;omega) (by show _≤_+1000*0;omega)
 rw[dI]
 refine (f _).trans ?_
 cases hf:fmS (decide ((l.getD 0 w0).text=zhg)) ([]:List Wd).length l with
 | inl a=>rfl
 | inr fs=>
  obtain⟨fs,s⟩:=fs
  have hf:fmS (decide ((l.getD 0 w0).text=zhg)) 0 l=.inr (fs,s):=hf
  have c:=xx _ _ _ _ _ hf
  have D:2≤l.length:=by rcases i with h | h | h <;> omega
  have hg:=fun (k:Nat) (hk:k<l.length)=>pd (l:=fs) (k:=k) zeB (by omega)
  show aU (decide ((l.getD 0 w0).text=lB)) _ _=some (ite ((l.getD 0 w0).text=lB) _ _)
  by_cases b:(l.getD 0 w0).text=lB
  ·rw[ay b]
   have r:(fD fs 1).size≤65536:=by
    have:=(vo hf 1 (by omega) (by omega)).1
    rw[this];have:=xv (l.getD 1 w0).text;omega
   refine cu (al b) (bN (hg 1 (by omega)) (bN (Oh _ r) ?_))
   show aU ((zbL (lY (fD fs 1)) o.skips).getD false) _ _=_
   cases z:(zbL (lY (fD fs 1)) o.skips).getD false with
   | true=>rw[ay rfl];exact cu rfl (bN (pd (k:=1) w0 (by omega)) rfl)
   | false=>rw[ar (by simp)];exact cr rfl (zbx (by omega) rfl)
  ·rw[ar b]
   refine cr (ae b) (bN (hg 1 (by omega)) (bN (P1 o _) ?_))
   show aU (oa o (fD fs 1)) _ _=_
   cases z:oa o (fD fs 1) with
   | true=>rw[ay rfl];exact cu rfl (bN (pd (k:=1) w0 (by omega)) rfl)
   | false=>
    rw[ar (by simp)]
    refine cr rfl (dv ?_)
    have n:=fun J=>P2 o l fs J c (by omega) zbH [] fs [] l rfl rfl rfl (by unfold zbH;omega)
    refine (n _).trans ?_
    cases g:k6 o ([]:List ab).length fs l with
    | some a=>rfl
    | none=>
     have g:k6 o 0 fs l=none:=g
     show cJ _ _=some ((⟨0,0⟩:zat),ite ((l.getD 0 w0).text=zhg) _ _)
     refine dv ?_
     by_cases hp:(l.getD 0 w0).text=zhg
     ·rw[ay hp]
      have G:l.length=4:=by
       rcases i with h | h | h
       ·exact h.2.1
       ·rw[h.1] at hp;exact absurd hp (by decide)
       ·exact absurd h.1 b
      have m:=(vo hf 3 (by omega) (by omega)).2
      have C:=zm o fs l 0 c g 3 _ (zn (by omega)) (by omega) m
      obtain⟨p,d⟩:=Option.isSome_iff_exists.1 C
      have hr:=d
      rw[h.pl] at hr
      have u:=xw hr
      have q:fs.getD 3 zeB=fD fs 3:=rfl
      have v:(iK o.units (p+1) (fD fs 1)).length=o.units.length+1:=by
       unfold iK
       rw[ah,aj,cj,ck];omega
      refine cu (al hp) (bN (hg 3 (by omega)) ?_)
      rw[q,d,iX]
      refine zbx ⟨by omega,by omega⟩ (bN (hg 1 (by omega)) (zbx ⟨by omega,by omega,by omega⟩ (bN (P0 _ (by show (iK o.units (p+1) (fD fs 1)).length≤_;omega)) ?_)))
      show (aY (o.lines.length+1≤2147483648) _)=_
      refine zbx (by omega) ?_
      unfold zl
      rw[d,iX];rfl
     ·rw[ar hp]
      have j:fi ([]++fs) 2 ((([]++fs:List ab).length:Nat):Int)=fs.drop 2:=HK fs 2
      refine cr (ae hp) (bN (hg 1 (by omega)) (zbx ⟨by omega,by show (2:Int)≤(fs.length:Int);omega,jt _⟩ ?_))
      rw[j]
      exact zbx (by omega) rfl
theorem jS {xs:List ab} {i:Int} {x u:ab}:u∈iK xs i x↔u=x∨u∈xs:=by
 unfold iK
 rw[bO,bE]
 have:u∈xs↔u∈xs.take i.toNat∨u∈xs.drop i.toNat:=by rw[← bO,dH]
 rw[this]
 constructor
 ·rintro (h | h | h)
  ·exact .inr (.inl h)
  ·exact .inl h
  ·exact .inr (.inr h)
 ·rintro (h | h | h)
  ·exact .inr (.inl h)
  ·exact .inl h
  ·exact .inr (.inr h)
theorem P8 {xs:List ab} {i:Int} {x:ab} (h:xs.Nodup) (hx:x ∉ xs):(iK xs i x).Nodup:=by
 have hp:(iK xs i x).Perm (x::xs):=by
  unfold iK
  have:(xs.take i.toNat++x::xs.drop i.toNat).Perm (x::(xs.take i.toNat++xs.drop i.toNat)):=List.perm_middle
  rw[dH] at this
  exact this
 exact hp.nodup_iff.2 (ix.2 ⟨hx,h⟩)
theorem CZ {o:cK} (h:k7 o) (l:List Wd) (e:Int) (he:0≤e) (h0:0<l.length) (F:∀w∈l,0≤w.at_) (C:∀w∈l,w.text.size≤65536):k7 (kA o l e).2:=by
 have D:=h.ul;have E:=h.ll
 unfold kA
 by_cases h1:o.lines.length=256
 ·rw[ay h1];exact h
 rw[ar h1]
 by_cases h2:0≤kz l e
 ·rw[ay h2];exact h
 rw[ar h2]
 have c:=tx he F h0 h2
 cases hf:fmS (decide ((l.getD 0 w0).text=zhg)) 0 l with
 | inl a=>exact h
 | inr fs=>
  obtain⟨fs,s⟩:=fs
  have q:=xx _ _ _ _ _ hf
  have H:2≤l.length:=by rcases c with h | h | h <;> omega
  show k7 (eV (ite _ _ _))
  by_cases b:(l.getD 0 w0).text=lB
  ·rw[ay b]
   cases B:(zbL (lY (fD fs 1)) o.skips).getD false with
   | true=>rw[ay rfl];exact h
   | false=>
    rw[ar (by simp)]
    exact⟨h.pl,h.nd,by show o.units.length≤90+(o.lines++_).length;rw[ah];omega,by show (o.lines++_).length≤_;rw[ah];show _+1≤_;omega,h.fo,h.dj,h.us,h.fk,h.lw⟩
  ·rw[ar b]
   cases B:oa o (fD fs 1) with
   | true=>rw[ay rfl];exact h
   | false=>
    rw[ar (by simp)]
    have r:(zbL (fD fs 1) o.place).isSome=false∧(zbL (fD fs 1) o.fors).isSome=false:=by
     unfold oa at B
     exact Bool.or_eq_false_iff.1 B
    have n:=P5 h r.1
    cases v:k6 o 0 fs l with
    | some a=>exact h
    | none=>
     obtain⟨t,f⟩:=vo hf 1 (by omega) (by omega)
     have d:qx (fD fs 1):=by
      rw[t] at f ⊢
      exact CX _ (C _ (aJ (n0 (by omega)))) f
     show k7 (ite _ _ _)
     by_cases hp:(l.getD 0 w0).text=zhg
     ·rw[ay hp]
      have I:l.length=4:=by
       rcases c with h | h | h
       ·exact h.2.1
       ·rw[h.1] at hp;exact absurd hp (by decide)
       ·exact absurd h.1 b
      unfold zl
      generalize (zbL (fD fs 3) o.place).getD 0+1=i
      have hnd:=P8 (i:=i) h.nd n
      refine⟨fun u=>?_,hnd,?_,?_,fun u xs hx=>?_,fun u hu=>?_,fun u hu=>?_,h.fk,?_⟩
      ·show zbL u (zun (iK o.units i (fD fs 1)) 0 o.place)=ln (iK o.units i (fD fs 1)) u
       rw[CW _ _ _ _ hnd]
       cases hi:ln (iK o.units i (fD fs 1)) u with
       | some k=>show some (0+k)=_;rw[Int.zero_add]
       | none=>
        show zbL u o.place=none
        rw[h.pl]
        cases hj:ln o.units u with
        | none=>rfl
        | some j=>
         have hm:u∈iK o.units i (fD fs 1):=jS.2 (.inr (iw.1 (by rw[hj];rfl)))
         have:=iw.2 hm
         rw[hi] at this;cases this
      ·show (iK o.units i (fD fs 1)).length≤90+(o.lines++_).length
       unfold iK
       simp only[ah,aj,bl,cj,ck]
       omega
      ·show (o.lines++_).length≤256
       rw[ah];show _+1≤_;omega
      ·have:=h.fo u xs hx
       exact⟨this.1,this.2.1,fun x hx=>jS.2 (.inr (this.2.2 x hx))⟩
      ·intro hm
       rcases jS.1 hm with rfl | hm
       ·have hu:(zbL (fD fs 1) o.fors).isSome=true:=hu
        rw[r.2] at hu;cases hu
       ·exact h.dj u hu hm
      ·rcases jS.1 hu with rfl | hm
       ·exact d
       ·exact h.us u hm
      ·have:=h.lw
       show 26≤(iK o.units i (fD fs 1)).length
       unfold iK
       rw[ah,aj,cj,ck];omega
     ·rw[ar hp]
      have G:3≤l.length∧l.length≤6:=by
       rcases c with h | h | h
       ·exact absurd h.1 hp
       ·exact h.2
       ·exact absurd h.1 b
      have m:decide ((l.getD 0 w0).text=zhg)=false:=ae hp
      refine⟨h.pl,h.nd,by show o.units.length≤90+(o.lines++_).length;rw[ah];omega,by show (o.lines++_).length≤_;rw[ah];show _+1≤_;omega,fun u xs hx=>?_,fun u hu=>?_,h.us,fun u hu=>?_,h.lw⟩
      ·have hx:zbL u (gH (fD fs 1) (fs.drop 2) o.fors)=some xs:=hx
       rw[vn] at hx
       by_cases hu:u=fD fs 1
       ·rw[ay hu] at hx
        injection hx with hx
        subst hx
        refine⟨fun e=>?_,by rw[ck];omega,fun x hx=>?_⟩
        ·have:=aL List.length e
         rw[ck,bl] at this;omega
        ·obtain⟨k,hk⟩:=List.mem_iff_getElem?.1 hx
         rw[List.getElem?_drop] at hk
         have y:=(au.1 hk).1
         have z:fD fs (2+k)=x:=by
          have:=zn (fs:=fs) (k:=2+k) y
          rw[hk] at this
          injection this with this
          exact this.symm
         have p:=(vo hf (2+k) (by omega) (by rw[m];rintro (h | h);omega;cases h.1)).2
         rw[z] at p
         exact P6 h (zm o fs l 0 q v (2+k) x hk (by omega) p)
       ·rw[ar hu] at hx
        exact h.fo u xs hx
      ·have hu:(zbL u (gH (fD fs 1) (fs.drop 2) o.fors)).isSome=true:=hu
       rw[vn] at hu
       by_cases g:u=fD fs 1
       ·rw[g];exact n
       ·rw[ar g] at hu
        exact h.dj u hu
      ·have hu:(zbL u (gH (fD fs 1) (fs.drop 2) o.fors)).isSome=true:=hu
       rw[vn] at hu
       by_cases g:u=fD fs 1
       ·rw[g];exact d
       ·rw[ar g] at hu
        exact h.fk u hu
def tz:List Int:=[97,98,99,100,101,102,103,104,105,106,107,108,109,110,111,112,113,114,115,116,117,118,119,120,121,122,945,946,947,948,949,950,951,952,953,954,955,956,957,958,959,960,961,963,964,965,966,967,968,969,1072,1073,1074,1075,1076,1077,1078,1079,1080,1082,1083,1084,1085,1086,1087,1088,1089,1090,1091,1092,1093,1094,1095,1096,1097,1098,1099,1100,1101,1102,1103,1106,1108,1109,1110,1112,1113,1114,1115,1119]
def us0:List ab:=tz.map af
def qy:cK:=⟨us0,zun us0 0 [],[],[],[]⟩
theorem P9:(match vi with | some o=>decide (o.units=us0)&&(decide (o.place.map bu=(zun us0 0 []).map bu)&&decide (o.place.map eV=(zun us0 0 []).map eV))&&o.fors.isEmpty&&o.skips.isEmpty&&o.lines.isEmpty | none=>false)=true:=by decide +kernel
theorem HY {α β:Type}:∀ {a b:List (α×β)},a.map bu=b.map bu→a.map eV=b.map eV→a=b
 | [],[],_,_=>rfl
 | [],_::_,h,_=>by cases h
 | _::_,[],h,_=>by cases h
 | x::a,y::b,h1,h2=>by
  rw[aE,aE] at h1 h2
  injection h1 with p1 q1
  injection h2 with c q2
  rw[Prod.ext p1 c,HY q1 q2]
theorem Qn:vi=some qy:=by
 have h:=P9
 cases a:vi with
 | none=>rw[a] at h;cases h
 | some o=>
  rw[a] at h
  simp only[aR,decide_eq_true_eq,List.isEmpty_iff] at h
  obtain⟨⟨⟨⟨h1,h2,d⟩,c⟩,h5⟩,b⟩:=h
  obtain⟨u,p,f,s,l⟩:=o
  simp only at h1 h2 d c h5 b
  subst h1;subst c;subst h5;subst b
  rw[HY h2 d];rfl
theorem HZ:us0.Nodup:=by decide +kernel
theorem Qo:(us0.all fun u=>!decide (u=zeB)&&decide (zdT u=u))=true:=by decide +kernel
theorem C3:k7 qy where
 pl:=fun u=>by
  show zbL u (zun us0 0 [])=ln us0 u
  rw[CW _ _ _ _ HZ]
  cases ln us0 u with
  | none=>rfl
  | some k=>show some (0+k)=_;rw[Int.zero_add]
 nd:=HZ
 ul:=by show us0.length≤90+0;decide
 ll:=by show 0≤256;omega
 fo:=fun u xs h=>by cases h
 dj:=fun u h=>by cases h
 fk:=fun u h=>by cases h
 lw:=by show 26≤us0.length;decide
 us:=fun u hu=>by
  have:=bz.1 Qo u hu
  rw[aR,cN,decide_eq_false_iff_not,decide_eq_true_iff] at this
  exact this
def lns:List UInt8→List UInt8→List (List UInt8)
 | [],cur=>[cur]
 | c::l,cur=>if c=10 then cur::lns l [] else lns l (cur++[c])
theorem H0:∀ (l a:List UInt8),bi l 10<0→lns l a=[a++l]
 | [],a,_=>by rw[lns,aQ]
 | c::l,a,h=>by
  unfold bi at h
  by_cases hc:c=10
  ·rw[hc] at h;exact absurd (show (0:Int)<0 from h) (by decide)
  ·have b:(c==(10:UInt8))=false:=aS.2 hc
   rw[b] at h
   simp only[bw,if_false] at h
   have:bi l 10<0:=by
    by_cases h1:bi l 10=-1
    ·omega
    ·rw[aS.2 h1] at h
     simp only[bw,if_false] at h
     have:=indexByte_ge l 10
     omega
   rw[lns,ar hc,H0 l _ this,aM];rfl
theorem H1:∀ (l a:List UInt8) (m:Nat),bi l 10=(m:Int)→lns l a=(a++l.take m)::lns (l.drop (m+1)) []∧m<l.length
 | [],a,m,h=>by
  have:(-1:Int)=(m:Int):=h
  omega
 | c::l,a,m,h=>by
  unfold bi at h
  by_cases hc:c=10
  ·rw[hc] at h
   have hm:(0:Int)=(m:Int):=h
   obtain rfl:m=0:=by omega
   rw[lns,ay hc,List.take_zero,aQ]
   exact⟨rfl,by rw[aj];omega⟩
  ·have b:(c==(10:UInt8))=false:=aS.2 hc
   rw[b] at h
   simp only[bw,if_false] at h
   by_cases h1:bi l 10=-1
   ·rw[h1] at h
    have:(-1:Int)=(m:Int):=h
    omega
   ·rw[aS.2 h1] at h
    simp only[bw,if_false] at h
    have:=indexByte_ge l 10
    obtain⟨k,hk⟩:∃k:Nat,bi l 10=(k:Int):=⟨(bi l 10).toNat,by omega⟩
    obtain rfl:m=k+1:=by omega
    obtain⟨e1,e2⟩:=H1 l (a++[c]) k hk
    rw[lns,ar hc,e1,aM]
    exact⟨rfl,by rw[aj];omega⟩
theorem Qq (J:ab→Option (List ab)) (g:∀x,J x=some [x]):∀ (n:Nat) (x:ab),x.size<n→x.size≤1000000000→zaI (fun _=>none) (zcl (⟨#[10]⟩:ab) 0 J) n x=some ((lns x.data.toList []).map ba):=by
 intro n
 induction n with
 | zero=>intro x h;omega
 | succ n e=>
  intro x i j
  rw[ic]
  generalize c:zaI (fun _=>none) (zcl (⟨#[10]⟩:ab) 0 J) n=ag
  unfold zcl
  have f:=indexByte_ge x.data.toList 10
  refine zbx rfl ?_
  by_cases h:bi x.data.toList 10<0
  ·refine cu (al h) ?_
   rw[g,H0 _ _ h]
   show some [x]=some [ba ([]++x.data.toList)]
   rw[bt,show ba x.data.toList=x from pP (pc _)]
  ·obtain⟨m,hm⟩:∃m:Nat,bi x.data.toList 10=(m:Int):=⟨(bi x.data.toList 10).toNat,by omega⟩
   obtain⟨e1,e2⟩:=H1 x.data.toList [] m hm
   rw[← kL] at e2
   rw[hm,e1]
   have a:((⟨#[10]⟩:ab).size:Int)=1:=rfl
   rw[a,Int.add_zero]
   refine cr (ae (by omega)) (zbx ⟨by omega,by omega⟩ (zbx ⟨by omega,by omega,by omega⟩ ?_))
   have c1:c7 x 0 (m:Int)=ba ([]++x.data.toList.take m):=by
    apply pP
    have:=xp x 0 m
    rw[show ((0:Nat):Int)=0 from rfl] at this
    rw[this,pc];rfl
   have d:(c7 x ((m:Int)+1) (x.size:Int)).data.toList=x.data.toList.drop (m+1):=by
    have:=xp x (m+1) x.size
    push_cast at this
    rw[this,fx (by rw[ck,← kL];omega)]
   have k:(c7 x ((m:Int)+1) (x.size:Int)).size=x.size - (m+1):=by rw[kL,d,ck,← kL]
   have:=e (c7 x ((m:Int)+1) (x.size:Int)) (by omega) (by omega)
   rw[c,d] at this
   rw[c1]
   have b:(aY (cR ((m:Int)+1))<|aY (0≤((m:Int)+1:Int)∧((m:Int)+1:Int)≤(x.size:Int)∧((x.size:Int):Int)≤(x.size:Int))<|ag (c7 x ((m:Int)+1) (x.size:Int)))=some ((lns (x.data.toList.drop (m+1)) []).map ba):=zbx ⟨by omega,by omega⟩ (zbx ⟨by omega,by omega,by omega⟩ this)
   rw[b];rfl
def mx:cK→Int→List (List UInt8)→(Option cK)×zat
 | o,_,[]=>(some o,⟨0,0⟩)
 | o,at_,x::xs=>
  if fH x 0 none=[] then mx o (at_+((x.length:Int)+1)) xs
  else if (kA o ((fH x 0 none).map (iB at_)) (at_+(x.length:Int))).1.Err=0 then mx (kA o ((fH x 0 none).map (iB at_)) (at_+(x.length:Int))).2 (at_+((x.length:Int)+1)) xs
  else (none,(kA o ((fH x 0 none).map (iB at_)) (at_+(x.length:Int))).1)
def zAg (xs:List (List UInt8)):Nat:=(xs.map fun x=>x.length+1).sum
theorem zo (x:List UInt8) (xs:List (List UInt8)):zAg (x::xs)=x.length+1+zAg xs:=by unfold zAg;simp
theorem zp:∀ (l a:List UInt8),zAg (lns l a)=l.length+a.length+1
 | [],a=>by rw[lns,zo];show a.length+1+0=0+a.length+1;omega
 | c::l,a=>by
  rw[lns]
  split
  ·rw[zo,zp l []];simp;omega
  ·rw[zp l];simp;omega
theorem sw:∀ (l:List UInt8) (i:Nat) (b:Option (Nat×List UInt8)),(∀p∈fH l i b,p.2.length≤l.length+(b.toList.map fun p=>p.2.length).sum)∧(fH l i b).length≤l.length+b.toList.length
 | [],i,none=>⟨(fun p h=>by cases h),by show 0≤0;omega⟩
 | [],i,some q=>⟨fun p h=>by
   have:p=q:=cB.1 h
   subst this;simp,by show 1≤0+1;omega⟩
 | c::l,i,b=>by
  by_cases hc:c=32
  ·subst hc
   obtain⟨h1,h2⟩:=sw l (i+1) none
   rw[vl]
   have h2:(fH l (i+1) none).length≤l.length+0:=h2
   refine⟨fun p hp=>?_,by rw[ah,aj];omega⟩
   rcases bO.1 hp with hp | hp
   ·cases b with
    | none=>cases hp
    | some q=>rw[cB.1 hp];simp
   ·have:=h1 p hp
    simp at this ⊢
    omega
  ·cases b with
   | none=>
    obtain⟨h1,h2⟩:=sw l (i+1) (some (i,[c]))
    rw[CT hc]
    have h2:(fH l (i+1) (some (i,[c]))).length≤l.length+1:=h2
    refine⟨fun p hp=>?_,by rw[aj];show _≤l.length+1+0;omega⟩
    have:=h1 p hp
    simp at this ⊢
    omega
   | some q=>
    obtain⟨a,w⟩:=q
    obtain⟨h1,h2⟩:=sw l (i+1) (some (a,w++[c]))
    rw[CU hc]
    have h2:(fH l (i+1) (some (a,w++[c]))).length≤l.length+1:=h2
    refine⟨fun p hp=>?_,by rw[aj];show _≤l.length+1+1;omega⟩
    have:=h1 p hp
    simp at this ⊢
    omega
theorem H2:∀ (xs:List (List UInt8)) (o:cK) (at_:Int),k7 o→0≤at_→at_+(zAg xs:Int)≤200000→(∀x∈xs,x.length≤65536) →
  zcM (fun (h:List ab) (g:List (ab×Int)) (f:List (ab×List ab)) (d:List (ab×Bool)) (c:List ab) (l:Int)=>(some ((some (⟨h,g,f,d,c⟩:cK)),(⟨0,0⟩:zat)):Option ((Option cK)×zat)))
   (zew (fun (x2:Int) (q:Int) (C:List ab) (B:List (ab×Int)) (z:List (ab×List ab)) (v:List (ab×Bool)) (u:List ab) (G:Int)=>some (none,(⟨x2,q⟩:zat)))) (xs.map ba) o.units o.place o.fors o.skips o.lines at_=some (mx o at_ xs)
 | [],o,at_,_,_,_,_=>rfl
 | x::xs,o,at_,hi,ha,hb,hx=>by
  have D:=hx x (aB ..)
  rw[zo] at hb
  push_cast at hb
  have next:=fun (n:cK) (h':k7 n)=>H2 xs n (at_+((x.length:Int)+1)) h' (by omega) (by omega) (fun y hy=>hx y (aq _ hy))
  rw[aE,nz]
  generalize F:zcM (fun (h:List ab) (g:List (ab×Int)) (f:List (ab×List ab)) (d:List (ab×Bool)) (c:List ab) (l:Int)=>(some ((some (⟨h,g,f,d,c⟩:cK)),(⟨0,0⟩:zat)):Option ((Option cK)×zat))) _ (xs.map ba)=ag at next ⊢
  unfold zew
  have E:(ba x).size=x.length:=tw x
  obtain⟨t,m⟩:=sw x 0 none
  have m:(fH x 0 none).length≤x.length+0:=m
  refine zbx ⟨by omega,by omega⟩ (zbx ⟨by omega,by omega⟩ (bN (PU (ba x) at_ (by omega) ⟨by omega,by omega⟩) ?_))
  rw[pc,E,aF,mx]
  by_cases h0:fH x 0 none=[]
  ·rw[ay h0,h0]
   exact cu rfl (next o hi)
  ·rw[ar h0]
   have a:0<(fH x 0 none).length:=c6.2 h0
   have j:∀w∈(fH x 0 none).map (iB at_),0≤w.at_:=fun w k=>by
    obtain⟨p,hp,rfl⟩:=aW.1 k
    show 0≤at_+(p.1:Int)
    omega
   have i:∀w∈(fH x 0 none).map (iB at_),w.text.size≤65536:=fun w k=>by
    obtain⟨p,hp,rfl⟩:=aW.1 k
    show (ba p.2).size≤65536
    rw[tw]
    have:=t p hp
    have:p.2.length≤x.length+0:=this
    omega
   have e:(⟨o.units,o.place,o.fors,o.skips,o.lines⟩:cK)=o:=rfl
   refine cr (aS.2 (by omega)) (zbx ⟨by omega,by omega⟩ ?_)
   rw[e]
   refine bN (P7 hi _ _ (by omega) (by rw[aF];exact a) (by rw[aF];omega) j i) ?_
   have b:=CZ hi ((fH x 0 none).map (iB at_)) (at_+(x.length:Int)) (by omega) (by rw[aF];exact a) j i
   generalize kA o ((fH x 0 none).map (iB at_)) (at_+(x.length:Int))=r at b ⊢
   by_cases h1:r.1.Err=0
   ·rw[ay h1]
    exact cr (by rw[h1];rfl) (next r.2 b)
   ·rw[ar h1]
    exact cu (er.2 h1) rfl
theorem H3:∀ (xs:List (List UInt8)) (o:cK) (at_:Int),k7 o→0≤at_→(∀x∈xs,x.length≤65536)→(∃a,mx o at_ xs=(some a,⟨0,0⟩)∧k7 a)∨(∃e,mx o at_ xs=(none,e)∧e.Err≠0)
 | [],o,at_,hi,_,_=>.inl ⟨o,rfl,hi⟩
 | x::xs,o,at_,hi,ha,hx=>by
  have d:=hx x (aB ..)
  have next:=fun (a:cK) (h':k7 a)=>H3 xs a (at_+((x.length:Int)+1)) h' (by omega) (fun y hy=>hx y (aq _ hy))
  obtain⟨c,f⟩:=sw x 0 none
  rw[mx]
  by_cases h0:fH x 0 none=[]
  ·rw[ay h0];exact next o hi
  ·rw[ar h0]
   by_cases h1:(kA o ((fH x 0 none).map (iB at_)) (at_+(x.length:Int))).1.Err=0
   ·rw[ay h1]
    refine next _ (CZ hi _ _ (by omega) (by rw[aF];exact c6.2 h0) (fun w b=>?_) (fun w b=>?_))
    ·obtain⟨p,hp,rfl⟩:=aW.1 b
     show 0≤at_+(p.1:Int)
     omega
    ·obtain⟨p,hp,rfl⟩:=aW.1 b
     show (ba p.2).size≤65536
     rw[tw]
     have:p.2.length≤x.length+0:=c p hp
     omega
   ·rw[ar h1];exact .inr ⟨_,rfl,h1⟩
def rm (text:ab):(Option cK)×zat:=if 65536<text.size then (none,⟨3,65536⟩) else mx qy 0 (lns text.data.toList [])
theorem C4 (l a:List UInt8):∀x∈lns l a,x.length≤l.length+a.length:=by
 intro x hx
 have h1:=zp l a
 have:∀ (xs:List (List UInt8)),x∈xs→x.length+1≤zAg xs:=by
  intro xs
  induction xs with
  | nil=>intro h;cases h
  | cons y ys b=>
   intro h
   rw[zo]
   rcases bE.1 h with rfl | h
   ·omega
   ·have:=b h;omega
 have:=this _ hx
 omega
theorem H4 (text:ab):vm text=some (rm text):=by
 unfold vm rm
 by_cases h:65536<text.size
 ·rw[ay h];exact cu (al (by omega)) rfl
 ·rw[ar h]
  refine cr (ae (by omega)) (dv (bN Qn (bN (a:=((⟨#[10]⟩:ab),text,0)) rfl (bN (a:=(lns text.data.toList []).map ba) ?_ (dv (dv ?_))))))
  ·unfold za
   exact dv (cr rfl (dv (Qq _ (fun x=>rfl) zbH text (by unfold zbH;omega) (by omega))))
  ·have b:=zp text.data.toList []
   rw[← kL,bl] at b
   exact H2 (lns text.data.toList []) qy 0 C3 (jt _) (by omega) (fun x hx=>by have:=C4 text.data.toList [] x hx;rw[← kL,bl] at this;omega)
theorem H5 (text:ab):(∃a,rm text=(some a,⟨0,0⟩)∧k7 a)∨(∃e,rm text=(none,e)∧e.Err≠0):=by
 unfold rm
 by_cases h:65536<text.size
 ·rw[ay h];exact .inr ⟨_,rfl,by show (3:Int)≠0;omega⟩
 ·rw[ar h]
  exact H3 _ _ _ C3 (jt _) (fun x hx=>by have:=C4 text.data.toList [] x hx;rw[← kL,bl] at this;omega)
def zq (text:ab):cK:=(rm text).1.getD qy
end Go.Proofs.YtifpjbgnikjglaaGreatDoor
