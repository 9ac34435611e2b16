/-
  Texts laid together: LcE, Ka, Kb, Qm, Kc, Kd, Ke, LcU, LcF, Kg, Kh, Ki, Kj, Kk, Kl, Km. Nothing is assumed.
-/
import Derived.Test.YtifpjbgnikjglaaGreatDoorCollateCompares4
import Derived.Test.YtifpjbgnikjglaaGreatDoorCollateCompares2
set_option maxRecDepth 100000
set_option maxHeartbeats 4000000
namespace Go.Proofs.YtifpjbgnikjglaaGreatDoor
open Go.RowKit Go.Lib
open Tryz
set_option linter.unusedVariables false
set_option linter.unusedSimpArgs false
open _root_.Array renaming toList_inj→fA,getElem?_toList→kl
open _root_.Bool renaming or_eq_true→dC,false_eq_true→bj,false_or→dp,true_and→fG,not_false→cT,eq_iff_iff→dJ,not_true→cW
open _root_.ByteArray renaming empty→ac,size_append→aE,append_empty→bx,append_assoc→de,empty_append→dD
open _root_.Go.IntWalk renaming i64_in→ai
open _root_.Go.Lib renaming compareBytes→bc
open _root_.Go.Proofs.Tryz renaming underlying9→an,underlying70→gu,underlying129→cG,underlying21→aZ,underlying36→aK,underlying87→bA,underlying5→cu,underlying3→fZ,results48→fH,underlying29→tr,results16→oD,underlying46→cg
open bR renaming nil→bQ
open dh renaming nil→iF
open Hd renaming nil→eB
open aq renaming nil→ah
open dq renaming broken→tv
open Vw renaming get→ce
open evL renaming cons→dv,nil→eX
open aO renaming one1→aF
open _root_.Go.Utf8 renaming encode→ae
open _root_.Go.Value renaming string→af,int→aB,bool→ay
open _root_.Int renaming fdiv_eq_ediv_of_nonneg→fL,le_refl→eN,toNat_natCast→bz
open _root_.List renaming nil_append→bg,append_nil→aH,length_cons→ab,length_append→aa,take_append_drop→bZ,drop_succ_cons→kZ,take_succ_cons→dY,map_cons→av,drop_left→ic,takeWhile_cons→aW,mem_cons_of_mem→ak,mem_cons_self→ar,any_cons→jl,dropWhile_cons→cD,length_nil→aL,takeWhile_map→sw,cons_append→aX,takeWhile_append_dropWhile→dS,length_map→az,append_assoc→aA,mem_singleton→bO,mem_cons→bo,not_mem_nil→dm,getElem?_eq_getElem→aJ,drop_eq_getElem_cons→aR,foldl_cons→bn,take_length→mN,take_of_length_le→ee,flatMap_cons→aG,mem_append→bY,mem_filter→cq,getElem?_eq_some_iff→au,map_map→cn,map_congr_left→dw,mem_of_mem_take→qK,range→eW,all_eq_true→bd,mem_range→kL,flatMap_nil→mO,mem_map→aU,takeWhile_sublist→dt,getElem_mem→mR,length_drop→aS,mem_of_mem_drop→gg,map_drop→ki,length_take→bD,set_append_right→p6,all_takeWhile→su,length→gq,drop_eq_nil_of_le→bJ,map_nil→ed,filter_append→sv,map_append→cM
open _root_.Nat renaming le_of_not_lt→iS,add_assoc→fN,add_sub_cancel_left→ik,zero_le→bG,min_eq_left→lH,le_refl→bq,sub_self→oC,lt_succ_self→ct,lt_irrefl→fq,mod_lt→nV,pow_pos→nA,div_lt_of_lt_mul→rp,mul_le_mul_left→sx,pow_zero→ql,div_one→mA
open _root_.Option renaming getD_none→mg,getD_some→fi
open _root_.UInt8 renaming toNat_inj→dZ,ofNat→bB,toNat_ofNat'→fg
def zbY (o1:cw) (f:ad) (d:Int→Int→Int→Option Int) (x1:cY) (e:Int→Int→Bool→Option Int) (a:Int) (b:Int) (c:Bool):Option Int := aV (fB x1.Rune) <|aN (decide ((a:Int)<0)) (aN (((fT x1.Broken x1.Rune):Int)==1) (aV (cr (x1.At+x1.Width)) <|e x1.At (x1.At+x1.Width) c) (aN (decide ((a:Int)<0)) (e a b c) (aN (c) (aN (((fT x1.Broken x1.Rune):Int)==1) (aV (cr (x1.At+x1.Width)) <|e a (x1.At+x1.Width) c) (aN (((fT x1.Broken x1.Rune):Int)==2) (aV (cr (x1.At+x1.Width)) <|e a (x1.At+x1.Width) c) (aN (((fT x1.Broken x1.Rune):Int)==1) (aV (0≤(a:Int)∧(a:Int)≤b∧(b:Int)≤(f.size:Int)) <|aT (pf (cO f a b)) fun (r2:ad)=>aN (((zbP r2 o1.skips).getD false)) (d b a b) (d 0 a b)) (aN (((fT x1.Broken x1.Rune):Int)==3) (aV (0≤(a:Int)∧(a:Int)≤b∧(b:Int)≤(f.size:Int)) <|aT (pf (cO f a b)) fun (r3:ad)=>aN (((zbP r3 o1.skips).getD false)) (d b a b) (d 0 a b)) (e a b false))))) (aN (((fT x1.Broken x1.Rune):Int)==1) (aV (0≤(a:Int)∧(a:Int)≤b∧(b:Int)≤(f.size:Int)) <|aT (pf (cO f a b)) fun (l:ad)=>aN (((zbP l o1.skips).getD false)) (d b a b) (d 0 a b)) (aN (((fT x1.Broken x1.Rune):Int)==3) (aV (0≤(a:Int)∧(a:Int)≤b∧(b:Int)≤(f.size:Int)) <|aT (pf (cO f a b)) fun (k:ad)=>aN (((zbP k o1.skips).getD false)) (d b a b) (d 0 a b)) (e a b false)))))) (aN (decide ((a:Int)<0)) (e a b c) (aN (c) (aN (((fT x1.Broken x1.Rune):Int)==1) (aV (cr (x1.At+x1.Width)) <|e a (x1.At+x1.Width) c) (aN (((fT x1.Broken x1.Rune):Int)==2) (aV (cr (x1.At+x1.Width)) <|e a (x1.At+x1.Width) c) (aN (((fT x1.Broken x1.Rune):Int)==1) (aV (0≤(a:Int)∧(a:Int)≤b∧(b:Int)≤(f.size:Int)) <|aT (pf (cO f a b)) fun (j:ad)=>aN (((zbP j o1.skips).getD false)) (d b a b) (d 0 a b)) (aN (((fT x1.Broken x1.Rune):Int)==3) (aV (0≤(a:Int)∧(a:Int)≤b∧(b:Int)≤(f.size:Int)) <|aT (pf (cO f a b)) fun (i:ad)=>aN (((zbP i o1.skips).getD false)) (d b a b) (d 0 a b)) (e a b false))))) (aN (((fT x1.Broken x1.Rune):Int)==1) (aV (0≤(a:Int)∧(a:Int)≤b∧(b:Int)≤(f.size:Int)) <|aT (pf (cO f a b)) fun (h:ad)=>aN (((zbP h o1.skips).getD false)) (d b a b) (d 0 a b)) (aN (((fT x1.Broken x1.Rune):Int)==3) (aV (0≤(a:Int)∧(a:Int)≤b∧(b:Int)≤(f.size:Int)) <|aT (pf (cO f a b)) fun (g:ad)=>aN (((zbP g o1.skips).getD false)) (d b a b) (d 0 a b)) (e a b false)))))
def zr (o1:cw) (g:ad):Option Int := co (fun (j:Option Int)=>aT (vc g) fun (r1:ad)=>aT (sW r1) fun (a:(List cY))=>co (fun (e:Int→Int→Int→Option Int)=>co (fun (f:Int→Int→Bool→Option Int)=>zdZ f (zbY o1 g e) a (-1) 0 true) (fun (d:Int) (i:Int) (b:Bool)=>j)) (fun (x2:Int) (c:Int) (h:Int)=>some x2)) (some 0)
theorem SF {_h:Nat} {o1:cw} {_f _a _c _d _g:Hd} {B:ad} {r:Int} (h:zr o1 B=some r):iu prog 86 [zP _h,.string B] [cells _h [_f.v,.map (some (bi _a)),.map (some (bi _c)),.map (some (bi _d)),_g.v] 72,bH _f.v o1.units,cz (fun n:ad=>af n) (fun n:Int=>aB .i64 n) (bi _a) o1.place,dQ (bi _c) o1.fors,cz (fun n:ad=>af n) (fun n:Bool=>ay n) (bi _d) o1.skips,bH _g.v o1.lines] [] (fun _:Unit=>(zI r)) (fun _=>[]):=by
 unfold zr at h
 refine iu.intro func86 rfl ntmps86 (by simp) (fun w0 K y=>zjD (zbq h fun j1 cc h=>zaL (β:=Nat×(List Nat)) 3 rfl (fun b=>j1=some r) (fun b=>po b.2) (fun b=>[(4,zP b.1)]) (fun b=>[cells b.1 [zI 0] 3,ziH ((b.2:List Nat).map gL)]) (fun cut=>?_) ?_))
 ·refine zyG (zfq rfl dc rfl (fun b2=>zfq rfl dc rfl (fun P=>zbi x0 rfl dc (fun L=>zyH (zbi x0 rfl dc (fun O=>zbi x0 rfl dc (fun N=>eP (k:=4) (l':=[zI (-1)]) kp rfl rfl rfl rfl rfl (fun _ _=>rfl) rfl (eP (k:=5) (l':=[zI 0]) kp rfl rfl rfl rfl rfl (fun _ _=>rfl) rfl (zyH (zbi C8 rfl dc (fun M=>eP (k:=6) (l':=[.bool true]) oL rfl rfl rfl rfl rfl (fun _ _=>rfl) rfl (zyN (cut (zyG (zas (k:=2) dU rfl dc rfl rfl rfl (zbk h fun r1 b0 h=>zbN (vs:=[.string B]) rfl dc rfl rfl rfl yh (y9 b0) ah (fun b8=>mn (L':=[ziH ((([]:List Nat):List Nat).map gL),cells b2 [zP _h] 29,cells P [.string B] 9,cells L [zI 0] 3,cells O [zI (-1)] 3,cells N [zI 0] 3,cells M [.bool true] 4,cells b8 [.string r1] 9]) (cp 8) (zyN (zat (zbk h fun T bs h=>zbq h fun J a2 h=>zbq h fun S a3 h=>ux (α:=cY) (β:=Int×Int×Bool) (γ:=(Int×Int×Int)) (δ:=Nat) (ps:=[12]) Ro.nil rfl yj (y8 bs) (fun pre b=>∀post,T=pre++post→zdZ S (zbY o1 B J) post b.1 b.2.1 b.2.2=some r) (fun pre b=>[cells b2 [zP _h] 29,cells P [.string B] 9,cells L [zI 0] 3,cells O [zI b.1] 3,cells N [zI b.2.1] 3,cells M [.bool b.2.2] 4]) (fun c pre g=>(fun g=>c=.ret∧J g.1 g.2.1 g.2.2=some r) g) (fun c pre g=>(fun g=>[cells b2 [zP _h] 29,cells P [.string B] 9,cells L [zI g.1] 3,cells O [zI g.2.1] 3,cells N [zI g.2.2] 3,cells M [.bool false] 4]) g) (fun pre x b j=>[(2,zP b2),(3,zP P),(4,zP L),(5,zP O),(6,zP N),(7,zP M),(11,.func (.func 154) #[] #[zP b8]),(8,zP j)]) (fun pre x b j=>[cells b2 [zP _h] 29,cells P [.string B] 9,cells L [zI 0] 3,cells O [zI b.1] 3,cells N [zI b.2.1] 3,cells M [.bool b.2.2] 4,cells j [zI x.At,zI x.Width,.int .i32 x.Rune,.bool x.Broken] 132]) ((-1),0,true) (fun post e=>by rw[bg] at e;subst e;exact h) (bW [1,2,3,4,5,6] kr rfl) ⟨.inl ⟨7,rfl⟩,trivial⟩ (fun _=>rfl) dc ?_ ?_ ?_ ?_))))))))))))))))))))
  ·rintro lp rc pre x1 post ⟨f,l,p⟩ w1 K1 t G a5 E
   have y:=y.ext G
   exact bX (zbi zjr rfl dc (fun b9=>eE (k:=6) (vs:=[zI x1.At,zI x1.Width,.int .i32 x1.Rune,.bool x1.Broken]) (l':=[zI x1.At,zI x1.Width,.int .i32 x1.Rune,.bool x1.Broken]) kM rfl rfl rfl rfl rfl (show _≤_ by simp) rfl rfl (zaB (fun a w ha hw=>⟨b9,(bI rfl) _ _ _ ha,hw.weaken (cp 7)⟩))))
  ·rintro lp rc pre x1 F ⟨f,l,p⟩ I w1 K1 t G a5 E
   have y:=y.ext G
   have h:=E (x1::F) t
   obtain⟨da,z⟩:∃ag,ag=zdZ S (zbY o1 B J) F:=⟨_,rfl⟩
   have h:zbY o1 B J x1 da f l p=some r:=by have h2:=h;rw[oH,←z] at h2;exact h2
   unfold zbY at h
   refine zat (zyG (zbR (k:=6) (cs:=[zI x1.At,zI x1.Width,.int .i32 x1.Rune,.bool x1.Broken]) lO rfl dc rfl rfl rfl rfl (zbs h fun a1 h=>zaI (v:=zI (fT x1.Broken x1.Rune)) (vs:=[.agg #[zI x1.At,zI x1.Width,.int .i32 x1.Rune,.bool x1.Broken]]) rfl dc rfl rfl rfl wl (ww x1.At x1.Width x1.Rune x1.Broken a1.1 a1.2) (zyR 1 rfl (zyN (zat (zyG (zas (k:=3) dO rfl dc rfl rfl rfl (zaT rfl zbd (zyR 1 rfl (zyS (s:=35) rfl h (fun h=>?_) (fun h=>?_))))))))))))
   ·refine zyR 1 rfl (zaT rfl zbm (zyR 2 rfl (zyN (zyB rfl h (fun h=>zbs h fun V h=>Aj (β:=Unit) 8 7 _ [(0,39,zP I),(1,40,zI x1.At),(2,41,zP I),(3,42,zI x1.At),(4,43,.pointer (some ⟨I,1,none⟩)),(5,44,zI x1.Width),(6,45,zI (x1.At+x1.Width))] (fun _b=>[]) (fun _b=>[cells b2 [zP _h] 29,cells P [.string B] 9,cells L [zI 0] 3,cells O [zI x1.At] 3,cells N [zI l] 3,cells M [.bool p] 4,cells I [zI x1.At,zI x1.Width,.int .i32 x1.Rune,.bool x1.Broken] 132]) mixed kr kr rfl dc dc (by rfl) kr kr (gQ (fun D n d c u i=>zab zd2 rfl dc (zbA (by rfl) rfl) (show _=0 from rfl) (zaN 0 u i)) (gQ (fun D n d c u i=>zas (k:=6) dO rfl dc (bt 0 u d) rfl rfl (zaN 1 u i)) (gQ (fun D n d c u i=>zab zd2 rfl dc (zbA (by rfl) rfl) (show _=0 from rfl) (zaN 2 u i)) (gQ (fun D n d c u i=>zas (k:=6) dO rfl dc (bt 2 u d) rfl rfl (zaN 3 u i)) (gQ (fun D n d c u i=>zab qV rfl dc (zbA (by rfl) rfl) (show _=1 from rfl) (zaN 4 u i)) (gQ (fun D n d c u i=>zas (k:=6) dO rfl dc (bt 4 u d) rfl rfl (zaN 5 u i)) (gQ (fun D n d c u i=>mh rfl dc (bt 3 u d) (bt 5 u d) (dA (r:=x1.At+x1.Width) (ai _ V)) (zaN 6 u i)) (tD iF)))))))) (fun _b=>(gQ (fun D n d c u i=>zab zd2 rfl dc (zbA (by rfl) rfl) (show _=0 from rfl) (zaN 0 u i)) (gQ (fun D n d c u i=>zas (k:=6) dO rfl dc (bt 0 u d) rfl rfl (zaN 1 u i)) (gQ (fun D n d c u i=>zab zd2 rfl dc (zbA (by rfl) rfl) (show _=0 from rfl) (zaN 2 u i)) (gQ (fun D n d c u i=>zas (k:=6) dO rfl dc (bt 2 u d) rfl rfl (zaN 3 u i)) (gQ (fun D n d c u i=>zab qV rfl dc (zbA (by rfl) rfl) (show _=1 from rfl) (zaN 4 u i)) (gQ (fun D n d c u i=>zas (k:=6) dO rfl dc (bt 4 u d) rfl rfl (zaN 5 u i)) (gQ (fun D n d c u i=>mh rfl dc (bt 3 u d) (bt 5 u d) (dA (r:=x1.At+x1.Width) (ai _ V)) (zaN 6 u i)) (tD iF))))))))) (fun D hn hd dd=>eP (k:=3) (l':=[zI x1.At]) kp rfl (zbA (by rfl) rfl) (jX (m:=1) kr rfl (hd 1 dc)) rfl rfl (fun _ _=>rfl) rfl (fun a w ha hw=>⟨(),ha,hw⟩)) (fun _b=>eP (k:=4) (l':=[zI (x1.At+x1.Width)]) kp rfl rfl rfl rfl rfl (fun _ _=>rfl) rfl (zaB (cd (cd (lY (x1.At,x1.At+x1.Width,p) (fun q e2=>by have C:=l0 t e2;subst C;subst z;exact h) (cp 6))))))) (fun h=>zyG (zas (k:=3) dO rfl dc rfl rfl rfl (zaT rfl zbd (zyR 1 rfl (zyN (zyB rfl h (fun h=>zap (cd (cd (lY (f,l,p) (fun q e2=>by have C:=l0 t e2;subst C;subst z;exact h) (cp 6))))) (fun h=>zyG (zas (k:=5) qS rfl dc rfl rfl rfl (zyR 1 rfl (zyS (s:=51) rfl h (fun h=>?_) (fun h=>?_)))))))))))))))
    ·refine zyR 1 rfl (zaT rfl zbm (zyR 1 rfl (zyS (s:=54) rfl h (fun h=>zyR 5 rfl (zyN (ir rfl (bX (zab zd2 rfl dc rfl (show _=0 from rfl) (zas (k:=6) dO rfl dc rfl rfl rfl (zab qV rfl dc rfl (show _=1 from rfl) (zas (k:=6) dO rfl dc rfl rfl rfl (zbs h fun c5 h=>zaT rfl (dA (r:=x1.At+x1.Width) (ai _ c5)) (eP (k:=4) (l':=[zI (x1.At+x1.Width)]) kp rfl rfl rfl rfl rfl (fun _ _=>rfl) rfl (zaB (cd (cd (lY (f,x1.At+x1.Width,p) (fun q e2=>by have C:=l0 t e2;subst C;subst z;exact h) (cp 6))))))))))))))) (fun h=>zyR 1 rfl (zaT rfl zbm (zyR 3 rfl (zyN (zyB rfl h (fun h=>bX (zab zd2 rfl dc rfl (show _=0 from rfl) (zas (k:=6) dO rfl dc rfl rfl rfl (zab qV rfl dc rfl (show _=1 from rfl) (zas (k:=6) dO rfl dc rfl rfl rfl (zbs h fun c4 h=>zaT rfl (dA (r:=x1.At+x1.Width) (ai _ c4)) (eP (k:=4) (l':=[zI (x1.At+x1.Width)]) kp rfl rfl rfl rfl rfl (fun _ _=>rfl) rfl (zaB (cd (cd (lY (f,x1.At+x1.Width,p) (fun q e2=>by have C:=l0 t e2;subst C;subst z;exact h) (cp 6)))))))))))) (fun h=>zyG (eP (k:=5) (l':=[.bool false]) oL rfl rfl rfl rfl rfl (fun _ _=>rfl) rfl (zyH (zyR 1 rfl (zaT rfl zbm (zyR 1 rfl (zyS (s:=17) rfl h (fun h=>zyR 3 rfl (zyN (ir rfl (zaJ (zaJ (zbs h fun c3 h=>zbk h fun r2 bk h=>zcI 9 [(0,21,zP _h),(1,22,zP _h),(2,23,.pointer (some ⟨_h,3,none⟩)),(3,24,.map (some (bi _d))),(4,25,.string B),(5,26,zI f),(6,27,zI l),(7,28,.string (cO B f l)),(8,29,.string r2)] mixed kr kr dc (by rfl) kr kr (zac (fun D n d c u i=>zas (k:=0) pN rfl dc (zbA (by rfl) rfl) rfl rfl (zaN 0 u i)) (zac (fun D n d c u i=>zbc rfl dc (bt 0 u d) (zaN 1 u i)) (zac (fun D n d c u i=>zab rI rfl dc (bt 1 u d) (show _=3 from rfl) (zaN 2 u i)) (zac (fun D n d c u i=>zeo (i:=0) y rfl rH rfl dc (bt 2 u d) rfl (zaN 3 u i)) (zac (fun D n d c u i=>zas (k:=1) dU rfl dc (zbA (by rfl) rfl) rfl rfl (zaN 4 u i)) (zac (fun D n d c u i=>zas (k:=3) dO rfl dc (zbA (by rfl) rfl) rfl rfl (zaN 5 u i)) (zac (fun D n d c u i=>zas (k:=4) dO rfl dc (zbA (by rfl) rfl) rfl rfl (zaN 6 u i)) (zac (fun D n d c u i=>iA rfl dc (bt 4 u d) (evO.some (bt 5 u d)) (evO.some (bt 6 u d)) (kA (i:=f) (j:=l) an (.inr rfl) (.inr rfl) c3) (zaN 7 u i)) (zac (fun D n d c u i=>zaI (v:=.string r2) (vs:=[.string (cO B f l)]) rfl dc rfl (dv (bt 7 u d) eX) rfl rK (rU bk) (zaN 8 u i)) bQ))))))))) (rG (k:=4) (ek:=(fun n:ad=>af n)) (ev':=(fun n:Bool=>ay n)) (kk:=r2) (z0:=false) (mT an) gu kr rfl dc rfl rfl y rfl (zyN (zyB rfl h (fun h=>zyG (zas (k:=4) dO rfl dc rfl rfl rfl (eP (k:=2) (l':=[zI l]) kp rfl rfl rfl rfl rfl (fun _ _=>rfl) rfl (zyN (zaA (bP (cx (cx (nl (l,f,l) (show _∧_ from ⟨rfl,h⟩) (cp 6)))))))))) (fun h=>zap (zaz (zyG (eP (k:=2) (l':=[zI 0]) kp rfl rfl rfl rfl rfl (fun _ _=>rfl) rfl (zyN (zaA (cx (cx (nl (0,f,l) (show _∧_ from ⟨rfl,h⟩) (cp 6))))))))))))))))))) (fun h=>zyR 1 rfl (zaT rfl zbm (zyR 1 rfl (zyN (zyB rfl h (fun h=>?_) (fun h=>?_)))))))))))))))))))))
     ·exact zaJ (zaJ (zbs h fun c2 h=>zbk h fun r3 bh h=>zcI 9 [(0,21,zP _h),(1,22,zP _h),(2,23,.pointer (some ⟨_h,3,none⟩)),(3,24,.map (some (bi _d))),(4,25,.string B),(5,26,zI f),(6,27,zI l),(7,28,.string (cO B f l)),(8,29,.string r3)] mixed kr kr dc (by rfl) kr kr (zac (fun D n d c u i=>zas (k:=0) pN rfl dc (zbA (by rfl) rfl) rfl rfl (zaN 0 u i)) (zac (fun D n d c u i=>zbc rfl dc (bt 0 u d) (zaN 1 u i)) (zac (fun D n d c u i=>zab rI rfl dc (bt 1 u d) (show _=3 from rfl) (zaN 2 u i)) (zac (fun D n d c u i=>zeo (i:=0) y rfl rH rfl dc (bt 2 u d) rfl (zaN 3 u i)) (zac (fun D n d c u i=>zas (k:=1) dU rfl dc (zbA (by rfl) rfl) rfl rfl (zaN 4 u i)) (zac (fun D n d c u i=>zas (k:=3) dO rfl dc (zbA (by rfl) rfl) rfl rfl (zaN 5 u i)) (zac (fun D n d c u i=>zas (k:=4) dO rfl dc (zbA (by rfl) rfl) rfl rfl (zaN 6 u i)) (zac (fun D n d c u i=>iA rfl dc (bt 4 u d) (evO.some (bt 5 u d)) (evO.some (bt 6 u d)) (kA (i:=f) (j:=l) an (.inr rfl) (.inr rfl) c2) (zaN 7 u i)) (zac (fun D n d c u i=>zaI (v:=.string r3) (vs:=[.string (cO B f l)]) rfl dc rfl (dv (bt 7 u d) eX) rfl rK (rU bh) (zaN 8 u i)) bQ))))))))) (rG (k:=4) (ek:=(fun n:ad=>af n)) (ev':=(fun n:Bool=>ay n)) (kk:=r3) (z0:=false) (mT an) gu kr rfl dc rfl rfl y rfl (zyN (zyB rfl h (fun h=>zyG (zas (k:=4) dO rfl dc rfl rfl rfl (eP (k:=2) (l':=[zI l]) kp rfl rfl rfl rfl rfl (fun _ _=>rfl) rfl (zyN (zaA (bP (cx (cx (nl (l,f,l) (show _∧_ from ⟨rfl,h⟩) (cp 6)))))))))) (fun h=>zap (zaz (zyG (eP (k:=2) (l':=[zI 0]) kp rfl rfl rfl rfl rfl (fun _ _=>rfl) rfl (zyN (zaA (cx (cx (nl (0,f,l) (show _∧_ from ⟨rfl,h⟩) (cp 6)))))))))))))))
     exact zap (cd (cd (lY (f,l,false) (fun q e2=>by have C:=l0 t e2;subst C;subst z;exact h) (cp 6))))
    exact zyR 8 rfl (zyN (za8 rfl (zyG (eP (k:=5) (l':=[.bool false]) oL rfl rfl rfl rfl rfl (fun _ _=>rfl) rfl (zyH (zyR 1 rfl (zaT rfl zbm (zyR 1 rfl (zyS (s:=17) rfl h (fun h=>zyR 3 rfl (zyN (ir rfl (zaJ (zaJ (zbs h fun c0 h=>zbk h fun r4 bb h=>zcI 9 [(0,21,zP _h),(1,22,zP _h),(2,23,.pointer (some ⟨_h,3,none⟩)),(3,24,.map (some (bi _d))),(4,25,.string B),(5,26,zI f),(6,27,zI l),(7,28,.string (cO B f l)),(8,29,.string r4)] mixed kr kr dc (by rfl) kr kr (zac (fun D n d c u i=>zas (k:=0) pN rfl dc (zbA (by rfl) rfl) rfl rfl (zaN 0 u i)) (zac (fun D n d c u i=>zbc rfl dc (bt 0 u d) (zaN 1 u i)) (zac (fun D n d c u i=>zab rI rfl dc (bt 1 u d) (show _=3 from rfl) (zaN 2 u i)) (zac (fun D n d c u i=>zeo (i:=0) y rfl rH rfl dc (bt 2 u d) rfl (zaN 3 u i)) (zac (fun D n d c u i=>zas (k:=1) dU rfl dc (zbA (by rfl) rfl) rfl rfl (zaN 4 u i)) (zac (fun D n d c u i=>zas (k:=3) dO rfl dc (zbA (by rfl) rfl) rfl rfl (zaN 5 u i)) (zac (fun D n d c u i=>zas (k:=4) dO rfl dc (zbA (by rfl) rfl) rfl rfl (zaN 6 u i)) (zac (fun D n d c u i=>iA rfl dc (bt 4 u d) (evO.some (bt 5 u d)) (evO.some (bt 6 u d)) (kA (i:=f) (j:=l) an (.inr rfl) (.inr rfl) c0) (zaN 7 u i)) (zac (fun D n d c u i=>zaI (v:=.string r4) (vs:=[.string (cO B f l)]) rfl dc rfl (dv (bt 7 u d) eX) rfl rK (rU bb) (zaN 8 u i)) bQ))))))))) (rG (k:=4) (ek:=(fun n:ad=>af n)) (ev':=(fun n:Bool=>ay n)) (kk:=r4) (z0:=false) (mT an) gu kr rfl dc rfl rfl y rfl (zyN (zyB rfl h (fun h=>zyG (zas (k:=4) dO rfl dc rfl rfl rfl (eP (k:=2) (l':=[zI l]) kp rfl rfl rfl rfl rfl (fun _ _=>rfl) rfl (zyN (zaA (bP (cx (cx (nl (l,f,l) (show _∧_ from ⟨rfl,h⟩) (cp 6)))))))))) (fun h=>zap (zaz (zyG (eP (k:=2) (l':=[zI 0]) kp rfl rfl rfl rfl rfl (fun _ _=>rfl) rfl (zyN (zaA (cx (cx (nl (0,f,l) (show _∧_ from ⟨rfl,h⟩) (cp 6))))))))))))))))))) (fun h=>zyR 1 rfl (zaT rfl zbm (zyR 1 rfl (zyN (zyB rfl h (fun h=>zaJ (zaJ (zbs h fun cv h=>zbk h fun r5 a9 h=>zcI 9 [(0,21,zP _h),(1,22,zP _h),(2,23,.pointer (some ⟨_h,3,none⟩)),(3,24,.map (some (bi _d))),(4,25,.string B),(5,26,zI f),(6,27,zI l),(7,28,.string (cO B f l)),(8,29,.string r5)] mixed kr kr dc (by rfl) kr kr (zac (fun D n d c u i=>zas (k:=0) pN rfl dc (zbA (by rfl) rfl) rfl rfl (zaN 0 u i)) (zac (fun D n d c u i=>zbc rfl dc (bt 0 u d) (zaN 1 u i)) (zac (fun D n d c u i=>zab rI rfl dc (bt 1 u d) (show _=3 from rfl) (zaN 2 u i)) (zac (fun D n d c u i=>zeo (i:=0) y rfl rH rfl dc (bt 2 u d) rfl (zaN 3 u i)) (zac (fun D n d c u i=>zas (k:=1) dU rfl dc (zbA (by rfl) rfl) rfl rfl (zaN 4 u i)) (zac (fun D n d c u i=>zas (k:=3) dO rfl dc (zbA (by rfl) rfl) rfl rfl (zaN 5 u i)) (zac (fun D n d c u i=>zas (k:=4) dO rfl dc (zbA (by rfl) rfl) rfl rfl (zaN 6 u i)) (zac (fun D n d c u i=>iA rfl dc (bt 4 u d) (evO.some (bt 5 u d)) (evO.some (bt 6 u d)) (kA (i:=f) (j:=l) an (.inr rfl) (.inr rfl) cv) (zaN 7 u i)) (zac (fun D n d c u i=>zaI (v:=.string r5) (vs:=[.string (cO B f l)]) rfl dc rfl (dv (bt 7 u d) eX) rfl rK (rU a9) (zaN 8 u i)) bQ))))))))) (rG (k:=4) (ek:=(fun n:ad=>af n)) (ev':=(fun n:Bool=>ay n)) (kk:=r5) (z0:=false) (mT an) gu kr rfl dc rfl rfl y rfl (zyN (zyB rfl h (fun h=>zyG (zas (k:=4) dO rfl dc rfl rfl rfl (eP (k:=2) (l':=[zI l]) kp rfl rfl rfl rfl rfl (fun _ _=>rfl) rfl (zyN (zaA (bP (cx (cx (nl (l,f,l) (show _∧_ from ⟨rfl,h⟩) (cp 6)))))))))) (fun h=>zap (zaz (zyG (eP (k:=2) (l':=[zI 0]) kp rfl rfl rfl rfl rfl (fun _ _=>rfl) rfl (zyN (zaA (cx (cx (nl (0,f,l) (show _∧_ from ⟨rfl,h⟩) (cp 6)))))))))))))))) (fun h=>zap (cd (cd (lY (f,l,false) (fun q e2=>by have C:=l0 t e2;subst C;subst z;exact h) (cp 6)))))))))))))))))))
   refine zyR 4 rfl (zyN (za8 rfl (zyG (zas (k:=3) dO rfl dc rfl rfl rfl (zaT rfl zbd (zyR 1 rfl (zyN (zyB rfl h (fun h=>zap (cd (cd (lY (f,l,p) (fun q e2=>by have C:=l0 t e2;subst C;subst z;exact h) (cp 6))))) (fun h=>zyG (zas (k:=5) qS rfl dc rfl rfl rfl (zyR 1 rfl (zyS (s:=51) rfl h (fun h=>?_) (fun h=>?_)))))))))))))
   ·refine zyR 1 rfl (zaT rfl zbm (zyR 1 rfl (zyS (s:=54) rfl h (fun h=>zyR 5 rfl (zyN (ir rfl (bX (zab zd2 rfl dc rfl (show _=0 from rfl) (zas (k:=6) dO rfl dc rfl rfl rfl (zab qV rfl dc rfl (show _=1 from rfl) (zas (k:=6) dO rfl dc rfl rfl rfl (zbs h fun ch h=>zaT rfl (dA (r:=x1.At+x1.Width) (ai _ ch)) (eP (k:=4) (l':=[zI (x1.At+x1.Width)]) kp rfl rfl rfl rfl rfl (fun _ _=>rfl) rfl (zaB (cd (cd (lY (f,x1.At+x1.Width,p) (fun q e2=>by have C:=l0 t e2;subst C;subst z;exact h) (cp 6))))))))))))))) (fun h=>zyR 1 rfl (zaT rfl zbm (zyR 3 rfl (zyN (zyB rfl h (fun h=>bX (zab zd2 rfl dc rfl (show _=0 from rfl) (zas (k:=6) dO rfl dc rfl rfl rfl (zab qV rfl dc rfl (show _=1 from rfl) (zas (k:=6) dO rfl dc rfl rfl rfl (zbs h fun a0 h=>zaT rfl (dA (r:=x1.At+x1.Width) (ai _ a0)) (eP (k:=4) (l':=[zI (x1.At+x1.Width)]) kp rfl rfl rfl rfl rfl (fun _ _=>rfl) rfl (zaB (cd (cd (lY (f,x1.At+x1.Width,p) (fun q e2=>by have C:=l0 t e2;subst C;subst z;exact h) (cp 6)))))))))))) (fun h=>zyG (eP (k:=5) (l':=[.bool false]) oL rfl rfl rfl rfl rfl (fun _ _=>rfl) rfl (zyH (zyR 1 rfl (zaT rfl zbm (zyR 1 rfl (zyS (s:=17) rfl h (fun h=>zyR 3 rfl (zyN (ir rfl (zaJ (zaJ (zbs h fun aw h=>zbk h fun r6 a8 h=>zcI 9 [(0,21,zP _h),(1,22,zP _h),(2,23,.pointer (some ⟨_h,3,none⟩)),(3,24,.map (some (bi _d))),(4,25,.string B),(5,26,zI f),(6,27,zI l),(7,28,.string (cO B f l)),(8,29,.string r6)] mixed kr kr dc (by rfl) kr kr (zac (fun D n d c u i=>zas (k:=0) pN rfl dc (zbA (by rfl) rfl) rfl rfl (zaN 0 u i)) (zac (fun D n d c u i=>zbc rfl dc (bt 0 u d) (zaN 1 u i)) (zac (fun D n d c u i=>zab rI rfl dc (bt 1 u d) (show _=3 from rfl) (zaN 2 u i)) (zac (fun D n d c u i=>zeo (i:=0) y rfl rH rfl dc (bt 2 u d) rfl (zaN 3 u i)) (zac (fun D n d c u i=>zas (k:=1) dU rfl dc (zbA (by rfl) rfl) rfl rfl (zaN 4 u i)) (zac (fun D n d c u i=>zas (k:=3) dO rfl dc (zbA (by rfl) rfl) rfl rfl (zaN 5 u i)) (zac (fun D n d c u i=>zas (k:=4) dO rfl dc (zbA (by rfl) rfl) rfl rfl (zaN 6 u i)) (zac (fun D n d c u i=>iA rfl dc (bt 4 u d) (evO.some (bt 5 u d)) (evO.some (bt 6 u d)) (kA (i:=f) (j:=l) an (.inr rfl) (.inr rfl) aw) (zaN 7 u i)) (zac (fun D n d c u i=>zaI (v:=.string r6) (vs:=[.string (cO B f l)]) rfl dc rfl (dv (bt 7 u d) eX) rfl rK (rU a8) (zaN 8 u i)) bQ))))))))) (rG (k:=4) (ek:=(fun n:ad=>af n)) (ev':=(fun n:Bool=>ay n)) (kk:=r6) (z0:=false) (mT an) gu kr rfl dc rfl rfl y rfl (zyN (zyB rfl h (fun h=>zyG (zas (k:=4) dO rfl dc rfl rfl rfl (eP (k:=2) (l':=[zI l]) kp rfl rfl rfl rfl rfl (fun _ _=>rfl) rfl (zyN (zaA (bP (cx (cx (nl (l,f,l) (show _∧_ from ⟨rfl,h⟩) (cp 6)))))))))) (fun h=>zap (zaz (zyG (eP (k:=2) (l':=[zI 0]) kp rfl rfl rfl rfl rfl (fun _ _=>rfl) rfl (zyN (zaA (cx (cx (nl (0,f,l) (show _∧_ from ⟨rfl,h⟩) (cp 6))))))))))))))))))) (fun h=>zyR 1 rfl (zaT rfl zbm (zyR 1 rfl (zyN (zyB rfl h (fun h=>?_) (fun h=>?_)))))))))))))))))))))
    ·exact zaJ (zaJ (zbs h fun ao h=>zbk h fun r7 a7 h=>zcI 9 [(0,21,zP _h),(1,22,zP _h),(2,23,.pointer (some ⟨_h,3,none⟩)),(3,24,.map (some (bi _d))),(4,25,.string B),(5,26,zI f),(6,27,zI l),(7,28,.string (cO B f l)),(8,29,.string r7)] mixed kr kr dc (by rfl) kr kr (zac (fun D n d c u i=>zas (k:=0) pN rfl dc (zbA (by rfl) rfl) rfl rfl (zaN 0 u i)) (zac (fun D n d c u i=>zbc rfl dc (bt 0 u d) (zaN 1 u i)) (zac (fun D n d c u i=>zab rI rfl dc (bt 1 u d) (show _=3 from rfl) (zaN 2 u i)) (zac (fun D n d c u i=>zeo (i:=0) y rfl rH rfl dc (bt 2 u d) rfl (zaN 3 u i)) (zac (fun D n d c u i=>zas (k:=1) dU rfl dc (zbA (by rfl) rfl) rfl rfl (zaN 4 u i)) (zac (fun D n d c u i=>zas (k:=3) dO rfl dc (zbA (by rfl) rfl) rfl rfl (zaN 5 u i)) (zac (fun D n d c u i=>zas (k:=4) dO rfl dc (zbA (by rfl) rfl) rfl rfl (zaN 6 u i)) (zac (fun D n d c u i=>iA rfl dc (bt 4 u d) (evO.some (bt 5 u d)) (evO.some (bt 6 u d)) (kA (i:=f) (j:=l) an (.inr rfl) (.inr rfl) ao) (zaN 7 u i)) (zac (fun D n d c u i=>zaI (v:=.string r7) (vs:=[.string (cO B f l)]) rfl dc rfl (dv (bt 7 u d) eX) rfl rK (rU a7) (zaN 8 u i)) bQ))))))))) (rG (k:=4) (ek:=(fun n:ad=>af n)) (ev':=(fun n:Bool=>ay n)) (kk:=r7) (z0:=false) (mT an) gu kr rfl dc rfl rfl y rfl (zyN (zyB rfl h (fun h=>zyG (zas (k:=4) dO rfl dc rfl rfl rfl (eP (k:=2) (l':=[zI l]) kp rfl rfl rfl rfl rfl (fun _ _=>rfl) rfl (zyN (zaA (bP (cx (cx (nl (l,f,l) (show _∧_ from ⟨rfl,h⟩) (cp 6)))))))))) (fun h=>zap (zaz (zyG (eP (k:=2) (l':=[zI 0]) kp rfl rfl rfl rfl rfl (fun _ _=>rfl) rfl (zyN (zaA (cx (cx (nl (0,f,l) (show _∧_ from ⟨rfl,h⟩) (cp 6)))))))))))))))
    exact zap (cd (cd (lY (f,l,false) (fun q e2=>by have C:=l0 t e2;subst C;subst z;exact h) (cp 6))))
   exact zyR 8 rfl (zyN (za8 rfl (zyG (eP (k:=5) (l':=[.bool false]) oL rfl rfl rfl rfl rfl (fun _ _=>rfl) rfl (zyH (zyR 1 rfl (zaT rfl zbm (zyR 1 rfl (zyS (s:=17) rfl h (fun h=>zyR 3 rfl (zyN (ir rfl (zaJ (zaJ (zbs h fun Y h=>zbk h fun r8 a6 h=>zcI 9 [(0,21,zP _h),(1,22,zP _h),(2,23,.pointer (some ⟨_h,3,none⟩)),(3,24,.map (some (bi _d))),(4,25,.string B),(5,26,zI f),(6,27,zI l),(7,28,.string (cO B f l)),(8,29,.string r8)] mixed kr kr dc (by rfl) kr kr (zac (fun D n d c u i=>zas (k:=0) pN rfl dc (zbA (by rfl) rfl) rfl rfl (zaN 0 u i)) (zac (fun D n d c u i=>zbc rfl dc (bt 0 u d) (zaN 1 u i)) (zac (fun D n d c u i=>zab rI rfl dc (bt 1 u d) (show _=3 from rfl) (zaN 2 u i)) (zac (fun D n d c u i=>zeo (i:=0) y rfl rH rfl dc (bt 2 u d) rfl (zaN 3 u i)) (zac (fun D n d c u i=>zas (k:=1) dU rfl dc (zbA (by rfl) rfl) rfl rfl (zaN 4 u i)) (zac (fun D n d c u i=>zas (k:=3) dO rfl dc (zbA (by rfl) rfl) rfl rfl (zaN 5 u i)) (zac (fun D n d c u i=>zas (k:=4) dO rfl dc (zbA (by rfl) rfl) rfl rfl (zaN 6 u i)) (zac (fun D n d c u i=>iA rfl dc (bt 4 u d) (evO.some (bt 5 u d)) (evO.some (bt 6 u d)) (kA (i:=f) (j:=l) an (.inr rfl) (.inr rfl) Y) (zaN 7 u i)) (zac (fun D n d c u i=>zaI (v:=.string r8) (vs:=[.string (cO B f l)]) rfl dc rfl (dv (bt 7 u d) eX) rfl rK (rU a6) (zaN 8 u i)) bQ))))))))) (rG (k:=4) (ek:=(fun n:ad=>af n)) (ev':=(fun n:Bool=>ay n)) (kk:=r8) (z0:=false) (mT an) gu kr rfl dc rfl rfl y rfl (zyN (zyB rfl h (fun h=>zyG (zas (k:=4) dO rfl dc rfl rfl rfl (eP (k:=2) (l':=[zI l]) kp rfl rfl rfl rfl rfl (fun _ _=>rfl) rfl (zyN (zaA (bP (cx (cx (nl (l,f,l) (show _∧_ from ⟨rfl,h⟩) (cp 6)))))))))) (fun h=>zap (zaz (zyG (eP (k:=2) (l':=[zI 0]) kp rfl rfl rfl rfl rfl (fun _ _=>rfl) rfl (zyN (zaA (cx (cx (nl (0,f,l) (show _∧_ from ⟨rfl,h⟩) (cp 6))))))))))))))))))) (fun h=>zyR 1 rfl (zaT rfl zbm (zyR 1 rfl (zyN (zyB rfl h (fun h=>zaJ (zaJ (zbs h fun W h=>zbk h fun r9 U h=>zcI 9 [(0,21,zP _h),(1,22,zP _h),(2,23,.pointer (some ⟨_h,3,none⟩)),(3,24,.map (some (bi _d))),(4,25,.string B),(5,26,zI f),(6,27,zI l),(7,28,.string (cO B f l)),(8,29,.string r9)] mixed kr kr dc (by rfl) kr kr (zac (fun D n d c u i=>zas (k:=0) pN rfl dc (zbA (by rfl) rfl) rfl rfl (zaN 0 u i)) (zac (fun D n d c u i=>zbc rfl dc (bt 0 u d) (zaN 1 u i)) (zac (fun D n d c u i=>zab rI rfl dc (bt 1 u d) (show _=3 from rfl) (zaN 2 u i)) (zac (fun D n d c u i=>zeo (i:=0) y rfl rH rfl dc (bt 2 u d) rfl (zaN 3 u i)) (zac (fun D n d c u i=>zas (k:=1) dU rfl dc (zbA (by rfl) rfl) rfl rfl (zaN 4 u i)) (zac (fun D n d c u i=>zas (k:=3) dO rfl dc (zbA (by rfl) rfl) rfl rfl (zaN 5 u i)) (zac (fun D n d c u i=>zas (k:=4) dO rfl dc (zbA (by rfl) rfl) rfl rfl (zaN 6 u i)) (zac (fun D n d c u i=>iA rfl dc (bt 4 u d) (evO.some (bt 5 u d)) (evO.some (bt 6 u d)) (kA (i:=f) (j:=l) an (.inr rfl) (.inr rfl) W) (zaN 7 u i)) (zac (fun D n d c u i=>zaI (v:=.string r9) (vs:=[.string (cO B f l)]) rfl dc rfl (dv (bt 7 u d) eX) rfl rK (rU U) (zaN 8 u i)) bQ))))))))) (rG (k:=4) (ek:=(fun n:ad=>af n)) (ev':=(fun n:Bool=>ay n)) (kk:=r9) (z0:=false) (mT an) gu kr rfl dc rfl rfl y rfl (zyN (zyB rfl h (fun h=>zyG (zas (k:=4) dO rfl dc rfl rfl rfl (eP (k:=2) (l':=[zI l]) kp rfl rfl rfl rfl rfl (fun _ _=>rfl) rfl (zyN (zaA (bP (cx (cx (nl (l,f,l) (show _∧_ from ⟨rfl,h⟩) (cp 6)))))))))) (fun h=>zap (zaz (zyG (eP (k:=2) (l':=[zI 0]) kp rfl rfl rfl rfl rfl (fun _ _=>rfl) rfl (zyN (zaA (cx (cx (nl (0,f,l) (show _∧_ from ⟨rfl,h⟩) (cp 6)))))))))))))))) (fun h=>zap (cd (cd (lY (f,l,false) (fun q e2=>by have C:=l0 t e2;subst C;subst z;exact h) (cp 6)))))))))))))))))))
  ·rintro H ⟨f,l,p⟩ E
   have h:S f l p=some r:=E [] (aH _).symm
   rw[a3] at h
   show TX _ _ _ _ _ _ _ [ziH ((([]:List Nat):List Nat).map gL),cE,cE,cE,cE,cE,cE,cells b8 [.string r1] 9,cells b2 [zP _h] 29,cells P [.string B] 9,cells L [zI 0] 3,cells O [zI f] 3,cells N [zI l] 3,cells M [.bool p] 4,gL H]
   exact tA (k:=14) (j:=0) rfl rfl dc (cd (cL (L,H::([]:List Nat)) h rfl (bI rfl) (bW [10,0] kr rfl)))
  rintro H c pre x1 post g db hX
  obtain⟨rfl,h⟩:=(show _∧_ from hX)
  obtain⟨x2,Q,a4⟩:=g
  rw[a2] at h
  show TC _ _ _ _ _ _ _ _ _ [ziH ((([]:List Nat):List Nat).map gL),cE,cE,cE,cE,cE,cE,cells b8 [.string r1] 9,cells b2 [zP _h] 29,cells P [.string B] 9,cells L [zI x2] 3,cells O [zI Q] 3,cells N [zI a4] 3,cells M [.bool false] 4,gL H]
  refine CP (k:=14) (j:=0) rfl rfl dc (zaA (cx (bP ?_)))
  cases h
  exact qq (rs:=[.cell 4 3]) (H::([]:List Nat)) () (.inl rfl) (qo (k:=0) rfl) results86 (.cons (.cell dO (k:=10) rfl rfl) .nil) rfl ah
 rintro⟨b1,ds1⟩ h
 rw[cc] at h
 refine zyG (eP (k:=0) (l':=[zI 0]) kp rfl rfl rfl rfl rfl (fun _ _=>rfl) rfl (zyN (zaA ?_)))
 cases h
 exact qq (rs:=[.cell 4 3]) ds1 () (.inl rfl) (qo (k:=1) rfl) results86 (.cons (.cell dO (k:=0) rfl rfl) .nil) rfl ah
def zt (a:ad):Option (List cY) := aT (vc a) fun (r1:ad)=>aT (BF r1) fun (r2:(List cY))=>some r2
theorem SG {a:ad} {r:(List cY)} (h:zt a=some r):Fn prog 88 [.string a] [] (fun v0:Value=>v0) (fun v0=>[pw v0 r]):=by
 unfold zt at h
 refine _root_.Go.Proofs.YtifpjbgnikjglaaGreatDoor.Fn.intro func88 rfl ntmps88 (by simp) (fun w0 K=>zyG (zyR 1 rfl (zyH (zyR 1 rfl (zbk h fun r1 c h=>zbN (vs:=[.string a]) rfl dc rfl rfl rfl yh (y9 c) ah (fun b1=>zbk h fun r2 b h=>zbN (vs:=[.func (.func 154) #[] #[zP b1]]) rfl dc rfl rfl rfl OM (SC (_l:=b1) b) (cp 1) (fun v1=>zyR 1 rfl (zyN (zaA ?_)))))))))
 cases h
 exact eu (rs:=[.tmp 2]) v1 (.inl rfl) results88 (.cons (.tmp rfl) .nil) rfl (bW [2] kr rfl)
def zcT (o1:cw) (i:List cY) (n:Int→Nat→(List ad)→Option (Int×(List ad))) (m:Int→ad→Nat→(List ad)→Int→Option (Int×(List ad))) (c:Int) (a:ad) (f:Nat) (b:List ad) (e:Int):Option (Int×(List ad)) := aN (decide ((e:Int)<((dK i 0 (min (i.length:Int) 8)).length:Int))) (co (fun (l:Int→ad→Nat→(List ad)→Option (Int×(List ad)))=>aT (zca (dK i 0 (min (i.length:Int) 8)) e) fun (q1:cY)=>aN (q1.Broken) (n c f b) (aV (fB q1.Rune) <|aV (a.size+(ae (cA q1.Rune)).size≤9223372036854775807) <|aN ((zbP (a++(ae (cA q1.Rune))) o1.place).isSome) (aV (cr (e+1)) <|l (e+1) (a++(ae (cA q1.Rune))) 1 ([a++(ae (cA q1.Rune))]:List ad)) (aN ((zbP (a++(ae (cA q1.Rune))) o1.fors).isSome) (aV (cr (e+1)) <|aT ((zbP (a++(ae (cA q1.Rune))) o1.fors)) fun (j:List ad)=>l (e+1) (a++(ae (cA q1.Rune))) 2 j) (l c (a++(ae (cA q1.Rune))) f b)))) (fun (h:Int) (g:ad) (k:Nat) (d:List ad)=>aV (cr (e+1)) <|m h g k d (e+1))) (n c f b)
def zcp (d:(List ad)→Option (Int×(List ad))) (r1:ad) (c:(List ad)→Nat→Option (Int×(List ad))) (a:List ad) (b:Nat):Option (Int×(List ad)) := aN (decide (b<(eQ r1.data.toList).length)) (aT ((eQ r1.data.toList)[b]?) fun (p1:Pc)=>aV (a.length+1≤2147483648) <|c (a++[ae (p1.r:Int)]) (b+1)) (d a)
def zu (o1:cw) (d:List cY):Option (Int×(List ad)) := co (fun (g:Int→Nat→(List ad)→Option (Int×(List ad)))=>aV (0≤(0:Int)∧(0:Int)≤(min (d.length:Int) 8)∧(min (d.length:Int) 8:Int)≤(d.length:Int)) <|zaC (fun _ _ _ _ _=>none) (zcT o1 d g) zbx 0 (⟨#[]⟩:ad) 0 ([]:List ad) 0) (fun (c:Int) (e:Nat) (b:List ad)=>aN (decide ((0:Int)<c)) (some (c,b)) (co (fun (f:(List ad)→Option (Int×(List ad)))=>aV (e=0) <|aT (zca d 0) fun (q2:cY)=>aV (fB q2.Rune) <|aT (zc (cA q2.Rune)) fun (r1:ad)=>zaC (fun _ _=>none) (zcp f r1) zbx ([]:List ad) 0) (fun (a:List ad)=>some (1,a))))
theorem SH {_h:Nat} {o1:cw} {_f _a _c _d _g:Hd} {u x:Value} {O:List cY} {t:Nat} {B:List cY} (l:Vw u O 4 t x B) {r:(Int×(List ad))} (h:zu o1 B=some r):yu prog 90 [zP _h,x] [cells _h [_f.v,.map (some (bi _a)),.map (some (bi _c)),.map (some (bi _d)),_g.v] 72,bH _f.v o1.units,cz (fun n:ad=>af n) (fun n:Int=>aB .i64 n) (bi _a) o1.place,dQ (bi _c) o1.fors,cz (fun n:ad=>af n) (fun n:Bool=>ay n) (bi _d) o1.skips,bH _g.v o1.lines,jh oN 4 u t O] (fun v0:Hd=>.tuple #[zI r.1,v0.v]) (fun v0=>[mo hO 1 v0 r.2]):=by
 unfold zu at h
 refine yu.intro func90 rfl ntmps90 (by simp) (fun w0 K d=>?_)
 obtain⟨Lf,cv,d⟩:=d.fors (i:=3) rfl
 replace d:Rd _ _ [cells _h [_f.v,.map (some (bi _a)),.map (some (bi _c)),.map (some (bi _d)),_g.v] 72,bH _f.v o1.units,cz (fun n:ad=>af n) (fun n:Int=>aB .i64 n) (bi _a) o1.place,dQ (bi _c) o1.fors,cz (fun n:ad=>af n) (fun n:Bool=>ay n) (bi _d) o1.skips,bH _g.v o1.lines,jh oN 4 u t O,pM (bi _c) Lf,pr Lf]:=d
 refine zbq h fun j1 bh h=>zaL (β:=Int×Nat×(List ad)×Hd) 3 rfl (fun b=>j1 b.1 b.2.1 b.2.2.1=some r∧n0 b.2.1 b.2.2.2 b.2.2.1 Lf) (fun b=>[]) (fun b=>[(1,x),(6,zI b.1),(8,b.2.2.2.v)]) (fun b=>[pb b.2.1 b.2.2.2 b.2.2.1,zua w0 K]) (fun cut=>?_) ?_
 ·refine zyG (zyR 2 rfl (zyH (zyR 2 rfl (zyH (zyR 1 rfl (vH (enc:=hO) (e:=9) (size:=1) (qp (k:=1) rfl (PG 9) (zyN (cut (zyG (zyR 2 rfl (zbT l rfl dc rfl cG (Au rfl dc rfl rfl (zbs h fun b8 h=>?_))))))))))))))
  obtain⟨v1,J,a4⟩:=oI (lo:=none) (hi:=some (zI (min (B.length:Int) 8))) l cG kM (.inl ⟨rfl,rfl⟩) (.inr rfl) b8
  refine iA rfl dc rfl rfl rfl a4 (zbT J rfl dc rfl cG (zyR 1 rfl (zyN (zat (eF (β:=Nat×Int×ad×Nat×(List ad)×Int×Hd) (fun b=>zaC (fun _ _ _ _ _=>none) (zcT o1 B j1) b.1 b.2.1 b.2.2.1 b.2.2.2.1 b.2.2.2.2.1 b.2.2.2.2.2.1=some r∧n0 b.2.2.2.1 b.2.2.2.2.2.2 b.2.2.2.2.1 Lf) (fun b=>[]) (fun b=>[(0,zP _h),(1,x),(6,zI b.2.1),(7,.string b.2.2.1),(8,b.2.2.2.2.2.2.v),(21,v1),(22,zI ((dK B 0 (min (B.length:Int) 8)).length:Int)),(23,zI b.2.2.2.2.2.1)]) (fun b=>[pb b.2.2.2.1 b.2.2.2.2.2.2 b.2.2.2.2.1,zua w0 K]) (fun b=>b.1) (zbx,0,(⟨#[]⟩:ad),0,([]:List ad),0,eB) ⟨h,n0.nil⟩ rfl (bI rfl) (bW [1,0] kr rfl) ?_)))))
  rintro⟨n1,g,a,D,c,C,L⟩ ⟨h,I⟩
  cases n1 with
  |zero=>exact ew h
  |succ n1=>
   obtain⟨c3,G⟩:∃ag,ag=zaC (fun _ _ _ _ _=>none) (zcT o1 B j1) n1:=⟨_,rfl⟩
   have h:zcT o1 B j1 c3 g a D c C=some r:=by rw[G];exact h
   unfold zcT at h
   refine zyG (zaT rfl zbd (zyN (zaJ (zyB rfl h (fun h=>?_) (fun h=>?_)))))
   ·refine zap (zaz (zbq h fun j2 bb h=>zaL (β:=Int×ad×Nat×(List ad)×Hd) 0 rfl (fun b=>j2 b.1 b.2.1 b.2.2.1 b.2.2.2.1=some r∧n0 b.2.2.1 b.2.2.2.2 b.2.2.2.1 Lf) (fun b=>[]) (fun b=>[(0,zP _h),(1,x),(6,zI b.1),(7,.string b.2.1),(8,b.2.2.2.2.v),(21,v1),(22,zI ((dK B 0 (min (B.length:Int) 8)).length:Int)),(23,zI C)]) (fun b=>[pb b.2.2.1 b.2.2.2.2 b.2.2.2.1,zua w0 K]) (fun cut=>cut (zat (zyG (zyR 1 rfl (zbk h fun q1 U h=>fy J U cG kM rfl dc rfl rfl rfl (pJ (m:=t+(0:Int).toNat+(C:Int).toNat) (j:=0) (i:=6) (q:=q1) (cs:=[zI q1.At,zI q1.Width,.int .i32 q1.Rune,.bool q1.Broken]) d rfl (by omega) lO rfl dc rfl (ce J U) rfl rfl rfl (zbi zjr rfl dc (fun b1=>zyR 1 rfl (eE (k:=2) (vs:=[zI q1.At,zI q1.Width,.int .i32 q1.Rune,.bool q1.Broken]) (l':=[zI q1.At,zI q1.Width,.int .i32 q1.Rune,.bool q1.Broken]) kM rfl rfl rfl rfl rfl (show _≤_ by simp) rfl rfl (zyN (zaJ (zyG (zab AK rfl dc rfl (show _=3 from rfl) (zas (k:=2) qS rfl dc rfl rfl rfl (zyN (zyB rfl h (fun h=>dy (bV (Ac dc (bV (bV (dz (mD (g,D,c,L) ⟨h,I⟩ 2))))))) (fun h=>zap (zaz (zyG (zyR 1 rfl (zab qu rfl dc rfl (show _=2 from rfl) (zas (k:=2) eZ rfl dc rfl rfl rfl (zbs h fun W h=>zaI (v:=.int .i32 (cA q1.Rune)) (vs:=[.int .i32 q1.Rune]) rfl dc rfl rfl rfl AU (nC fun w=>yp q1.Rune w W.1 W.2) (zcH rfl dc rfl (mi aZ an) (zbs h fun b7 h=>zaT rfl (lJ b7) (zyR 1 rfl (zyH (zyR 1 rfl (zbc rfl dc rfl (zab znS rfl dc rfl (show _=1 from rfl) (zeo (i:=0) d rfl wa rfl dc rfl rfl (zyR 1 rfl (Ay (k:=2) (ek:=(fun n:ad=>af n)) (ev':=(fun n:Int=>aB .i64 n)) (kk:=a++(ae (cA q1.Rune))) (z0:=0) (mT an) underlying69 kr rfl dc rfl rfl d rfl (zyR 1 rfl (eY rfl dc rfl rfl (eY rfl dc rfl rfl (zyR 2 rfl (zyH (zyR 1 rfl (zyN (zyB rfl h (fun h=>bX (zyR 1 rfl (zbs h fun b6 h=>zaT rfl (dA (r:=C+1) (ai _ b6)) (zyR 1 rfl (fx (cs:=[.string (a++(ae (cA q1.Rune)))]) (te:=9) (ps:=[(0,.tmp 48)]) rfl dc rfl (fun _=>by kernel_rfl) (fun b2=>zyR 2 rfl (nE ([a++(ae (cA q1.Rune))]:List ad) (k:=3) rfl gK rfl (show 1≤maxLen by decide) (qp (k:=3) rfl (DP (hd:=(⟨some ⟨b2,0,none⟩,1,1⟩:Hd))) (zaB (cd (cL (C+1,a++(ae (cA q1.Rune)),1,([a++(ae (cA q1.Rune))]:List ad),(⟨some ⟨b2,0,none⟩,1,1⟩:Hd)) ⟨h,n0.own⟩ rfl (bI rfl) (bW [3,1] kr rfl)))))))))))) (fun h=>zyG (zyR 1 rfl (zbc rfl dc rfl (zab Dc rfl dc rfl (show _=2 from rfl) (zeo (i:=0) d rfl vY rfl dc rfl rfl (zyR 1 rfl (PI (i:=7) (kk:=(a++(ae (cA q1.Rune)))) cv an underlying37 kr rfl dc rfl rfl d rfl (fun ao a2=>zyR 1 rfl (eY rfl dc rfl rfl (eY rfl dc rfl rfl (zyR 2 rfl (zyH (zyR 1 rfl (zyN (zyB rfl h (fun h=>bX (zyR 1 rfl (zbs h fun b5 h=>zaT rfl (dA (r:=C+1) (ai _ b5)) (zyR 3 rfl (zbk h fun H a7 h=>GU (qp (k:=3) rfl (Iq (hd:=ao) (xs:=H)) (zaB (cd (cL (C+1,a++(ae (cA q1.Rune)),2,H,ao) ⟨h,(n0.map (a2 H a7))⟩ rfl (bI rfl) (bW [3,1] kr rfl)))))))))) (fun h=>zap (cd (mD (g,a++(ae (cA q1.Rune)),D,c,L) ⟨h,I⟩ 2))))))))))))))))))))))))))))))))))))))))))))))))))))))))))) ?_))
    rintro⟨N,M,a1,z,cc⟩ ⟨h,a3⟩
    rw[bb] at h
    refine bX (zbs h fun b0 h=>zaT rfl (dA (r:=C+1) (ai _ b0)) (zyR 1 rfl (zaB ?_)))
    subst G
    exact aD (n1,N,M,a1,z,C+1,cc) ⟨h,a3⟩ 2
   exact dy (bV (bV (dz (mD (g,D,c,L) ⟨h,I⟩ 2))))
 rintro⟨c0,c4,P,ch⟩ ⟨h,S⟩
 rw[bh] at h
 refine zaJ (zyG (zyR 1 rfl (zaT rfl zd4 (zyN (zyB rfl h (fun h=>?_) (fun h=>?_))))))
 ·refine zyG (zyR 4 rfl (zyN (zaA (bP ?_))))
  cases h
  exact Io (rs:=[.tmp 4,.tmp 5]) ch d (.inl rfl) results90 (.cons (.tmp rfl) (.cons (.tmp rfl) .nil)) rfl (bW [1,0] kr rfl) (Is S (i:=8) rfl)
 refine zap (zaz (zbq h fun j3 a9 h=>zaL (β:=(List ad)×Hd) 0 rfl (fun b=>j3 b.1=some r) (fun b=>[]) (fun b=>[(8,b.2.v)]) (fun b=>[bH b.2.v b.1,zua w0 K]) (fun cut=>?_) ?_))
 ·refine cut (zaJ (zbs h fun bs h=>?_))
  have a8:=h
  obtain⟨rfl,rfl⟩:=S.1 bs
  have h:=a8
  refine bX (zyR 1 rfl (zbk h fun q2 T h=>fy l T cG kM rfl dc rfl rfl rfl (zab qu rfl dc rfl (show _=(t+(0:Int).toNat)*4+2 from rfl) (jG (n:=t+(0:Int).toNat) (j:=2) (i:=6) (q:=q2) d rfl (by omega) eZ rfl dc rfl (ce l T) rfl rfl (zbs h fun V h=>zaI (v:=.int .i32 (cA q2.Rune)) (vs:=[.int .i32 q2.Rune]) rfl dc rfl rfl rfl AU (nC fun w=>yp q2.Rune w V.1 V.2) (zbk h fun r1 a6 h=>zaI (v:=.string r1) (vs:=[.int .i32 (cA q2.Rune)]) rfl dc rfl rfl rfl HJ (Jk a6) (uL an rfl dc rfl (fun b3=>zyN (zat (nD (enc:=hO) (e:=9) (size:=1) (eF (β:=Nat×(List ad)×Nat×Hd) (fun b=>zaC (fun _ _=>none) (zcp j3 r1) b.1 b.2.1 b.2.2.1=some r) (fun b=>[]) (fun b=>[(8,b.2.2.2.v),(74,zP b3)]) (fun b=>[bH b.2.2.2.v b.2.1,obj b3 (.stringIter r1 (mE r1 b.2.2.1)),zua w0 K]) (fun b=>b.1) (zbx,([]:List ad),0,eB) (by exact h) rfl (bI rfl) (bW [3,2,1] kr rfl) ?_)))))))))))
  rintro⟨n2,f,Q,a0⟩ h
  cases n2 with
  |zero=>exact ew h
  |succ n2=>
   obtain⟨c2,F⟩:∃ag,ag=zaC (fun _ _=>none) (zcp j3 r1) n2:=⟨_,rfl⟩
   have h:zcp j3 r1 c2 f Q=some r:=by rw[F];exact h
   unfold zcp at h
   refine zyG (tI (b:=decide (Q<(eQ r1.data.toList).length)) (fun E=>?_) (fun E=>?_))
   ·have h:=oF E h
    refine zbk h fun p1 a5 h=>uM (k:=1) (m:=Q) (p:=p1) rfl dc rfl rfl a5 (eY rfl dc rfl rfl (zyN (zaJ (ir rfl (zap (zaz (zat (zyG (eY rfl dc rfl rfl (zyR 1 rfl (zaB (zaz (bX (zyR 2 rfl (zcH rfl dc rfl (mi aZ an) (fx (cs:=[.string (ae (p1.r:Int))]) (te:=9) (ps:=[(0,.tmp 80)]) rfl dc rfl (fun _=>by kernel_rfl) (fun b4=>zbs h fun bk h=>iT (k:=0) (k2:=3) (ys:=[ae (p1.r:Int)]) aK oM gK o6 rfl dc rfl rfl rfl rfl rfl rfl bk (fun v2=>iB (k:=0) rfl (fun aw b9=>?_)))))))))))))))))))
    subst b9
    refine zyR 1 rfl (zaB (cd ?_))
    subst F
    exact aD (n2,f++[ae (p1.r:Int)],Q+1,aw) h 3
   have h:=oG E h
   exact uN (k:=1) (m:=Q) rfl dc rfl rfl (iS (of_decide_eq_false E)) (eY rfl dc rfl rfl (zyN (zaJ (za8 rfl (dy (bV (bV (dz (cL (f,a0) h rfl (bI rfl) (bW [0,2] kr rfl))))))))))
 rintro⟨y,Y⟩ h
 rw[a9] at h
 refine zyG (zyR 3 rfl (zyN (zaA ?_)))
 cases h
 exact Io (rs:=[.tmp 4,.tmp 5]) Y d (.inl rfl) results90 (.cons (.tmp rfl) (.cons (.tmp rfl) .nil)) rfl (bW [1,0] kr rfl) (PH (e:=9) (hd:=Y) (xs:=y))
def vh (e1:c7) (c0:Bool) (c1:List c7):Option (Bool×(List c7)) := co (fun (a:(List c7)→Option (Bool×(List c7)))=>aN (c0) (aN (decide ((0:Int)<(c1.length:Int))) (aV (c1.length+1≤2147483648) <|a (c1++[(⟨1,0,ac,ac,0⟩:c7)])) (a c1)) (a c1)) (fun (b:List c7)=>aV (b.length+1≤2147483648) <|some (false,b++[e1]))
theorem EV {e1:c7} {_o:Nat} {c0:Bool} {_q:Nat} {c1:List c7} {_p:Hd} {r:(Bool×(List c7))} (h:vh e1 c0 c1=some r):Fn prog 87 [.agg (gX e1).toArray,zP _o,zP _q] [cells _o [.bool c0] 4,cells _q [_p.v] 87,jI _p.v c1] (fun v0:Hd=>.tuple #[]) (fun v0=>[cells _o [.bool r.1] 4,cells _q [v0.v] 87,jI v0.v r.2]):=by
 unfold vh at h
 refine _root_.Go.Proofs.YtifpjbgnikjglaaGreatDoor.Fn.intro func87 rfl ntmps87 (by simp) (fun w0 K=>zbq h fun j d h=>zaL (β:=(List c7)×Hd×Nat) 1 rfl (fun b=>j b.1=some r) (fun b=>[]) (fun b=>[(1,zP _o),(2,zP _q),(3,zP b.2.2)]) (fun b=>[cells _q [b.2.1.v] 87,jI b.2.1.v b.1,cells _o [.bool c0] 4,cells b.2.2 (gX e1) 91]) (fun cut=>?_) ?_)
 ·refine zyG (zfq rfl dc rfl (fun b2=>zyN (cut (zyG (zas (k:=0) qS rfl dc rfl rfl rfl (zyR 1 rfl (zyS (s:=5) rfl h (fun h=>?_) (fun h=>?_))))))))
  ·refine zas (k:=1) wb rfl dc rfl rfl rfl (gZ (k:=2) rfl dc rfl rfl bA (zaT rfl zd4 (zyR 1 rfl (zyN (zyB rfl h (fun h=>?_) (fun h=>?_))))))
   ·refine bX (zas (k:=1) wb rfl dc rfl rfl rfl (zbf (v:=.agg #[zI 1,zI 0,.string ac,.string ac,zI 0]) (ps:=[(0,.const (zI 1))]) rfl dc rfl (fun _=>by kernel_rfl) (fx (cs:=[zI 1,zI 0,.string ac,.string ac,zI 0]) (te:=91) (ps:=[(0,.tmp 11)]) rfl dc rfl (fun _=>by kernel_rfl) (fun p=>zbs h fun f h=>iT (k:=2) (k2:=4) (ys:=[(⟨1,0,ac,ac,0⟩:c7)]) bA Hg pO HX rfl dc rfl rfl rfl rfl rfl rfl f (fun v1=>iB (k:=2) rfl (fun c i=>?_))))))
    subst i
    exact eP (k:=1) (l':=[c.v]) Hf rfl rfl rfl rfl rfl (fun _ _=>rfl) rfl (zaB (cL (c1++[(⟨1,0,ac,ac,0⟩:c7)],c,b2) h rfl (bI rfl) (bW [1,2,0,3] kr rfl)))
   exact zap (cL (c1,_p,b2) h rfl (bI rfl) (bW [1,2,0,3] kr rfl))
  exact zyR 4 rfl (zyN (za8 rfl (zap (cL (c1,_p,b2) h rfl (bI rfl) (bW [1,2,0,3] kr rfl)))))
 rintro⟨m,l,b1⟩ h
 rw[d] at h
 refine zyG (eP (k:=2) (l':=[.bool false]) oL rfl rfl rfl rfl rfl (fun _ _=>rfl) rfl (zyN (bX (zas (k:=0) wb rfl dc rfl rfl rfl (zbR (k:=3) (cs:=(gX e1)) ot rfl dc rfl rfl rfl rfl (fx (cs:=(gX e1)) (te:=91) (ps:=[(0,.tmp 15)]) rfl dc rfl (fun _=>by kernel_rfl) (fun n=>zbs h fun e h=>iT (k:=1) (k2:=4) (ys:=[e1]) bA Hg pO HX rfl dc rfl rfl rfl rfl rfl rfl e (fun v2=>iB (k:=1) rfl (fun a g=>?_)))))))))
 subst g
 refine eP (k:=0) (l':=[a.v]) Hf rfl rfl rfl rfl rfl (fun _ _=>rfl) rfl (zaB ?_)
 cases h
 exact eu (rs:=[]) a (.inr rfl) results87 .nil rfl (bW [2,0,1] kr rfl)
def zb5 (f:List cY) (e:(Int×(List ad))) (h:Int→Option (List c7)) (d:Int→Int→Option (List c7)) (a:Int) (c:Int):Option (List c7) := aN (decide ((c:Int)<((dK f 0 e.1).length:Int))) (co (fun (g:Int→Option (List c7))=>aT (zca (dK f 0 e.1) c) fun (q2:cY)=>aV (fB q2.Rune) <|aN (great q2.Rune) (g 1) (g a)) (fun (b:Int)=>aV (cr (c+1)) <|d b (c+1))) (h a)
def zci (c:List cY) (f:Int→ad→Option (List c7)) (d:Int→ad→Option (List c7)) (b:Int) (a:ad):Option (List c7) := aN (decide ((b:Int)<(c.length:Int))) (aT (zca c b) fun (h:cY)=>aT (vg h) fun (g:Bool)=>aN (g) (aT (zca c b) fun (e:cY)=>aV (a.size+(ae e.Rune).size≤9223372036854775807) <|aV (cr (b+1)) <|d (b+1) (a++(ae e.Rune))) (f b a)) (f b a)
def zbZ (o1:cw) (g:(Int×(List ad))) (b:Int) (i:(List c7)→Bool→Option (List c7)) (e:(List c7)→Bool→Int→Option (List c7)) (c:List c7) (a:Bool) (d:Int):Option (List c7) := aN (decide ((d:Int)<(g.2.length:Int))) (aT (zca g.2 d) fun (h:ad)=>aT (vh (⟨3,((zbP h o1.place).getD 0),ac,ac,b⟩:c7) a c) fun (f:(Bool×(List c7)))=>aV (cr (d+1)) <|e f.2 f.1 (d+1)) (i c a)
def zch (d:List cY) (e:Int→Option (List c7)) (c:Int→Option (List c7)) (a:Int):Option (List c7) := aN (decide ((a:Int)<(d.length:Int))) (aT (zca d a) fun (b:cY)=>aV (fB b.Rune) <|aN (((fT b.Broken b.Rune):Int)==3) (aV (cr (a+1)) <|c (a+1)) (e a)) (e a)
def zcg (c:ad→Option (List c7)) (b:ad→Option (List c7)) (a:ad):Option (List c7) := aN (decide ((0:Int)<(a.size:Int))) (aT (jQ a 0) fun (c1:Int)=>aN ((c1:Int)==48) (aV (0≤(1:Int)∧(1:Int)≤(a.size:Int)∧((a.size:Int):Int)≤(a.size:Int)) <|b (cO a 1 (a.size:Int))) (c a)) (c a)
def zcj (o1:cw) (E:(List c7)→Option (List c7)) (r1:ad) (r2:Int) (r:(List c7)→Bool→(List cY)→Option (List c7)) (b:List c7) (a:Bool) (d:List cY):Option (List c7) := aN (decide ((0:Int)<(d.length:Int))) (co (fun (m:(List c7)→Bool→Int→Option (List c7))=>aT (zca d 0) fun (q1:cY)=>aV (fB q1.Rune) <|aN (((fT q1.Broken q1.Rune):Int)==1) (aT (zu o1 d) fun (k:(Int×(List ad)))=>co (fun (D:Int→Option (List c7))=>aV (0≤(0:Int)∧(0:Int)≤k.1∧(k.1:Int)≤(d.length:Int)) <|zaC (fun _ _=>none) (zb5 d k D) zbx 0 0) (fun (j:Int)=>co (fun (C:Int→ad→Option (List c7))=>zaC (fun _ _=>none) (zci d C) zbx k.1 (⟨#[]⟩:ad)) (fun (x:Int) (i:ad)=>co (fun (B:(List c7)→Bool→Option (List c7))=>zaC (fun _ _ _=>none) (zbZ o1 k j B) zbx b a 0) (fun (c:List c7) (g:Bool)=>aV (cr ((c.length:Int)-1)) <|aT (zca c ((c.length:Int)-1)) fun (n:c7)=>m (c.set ((c.length:Int)-1:Int).toNat (⟨n.sort,n.place,n.digits,i,n.great⟩:c7)) g x)))) (aN (((fT q1.Broken q1.Rune):Int)==3) (co (fun (z:Int→Option (List c7))=>zaC (fun _=>none) (zch d z) zbx 1) (fun (e:Int)=>co (fun (y:ad→Option (List c7))=>aV (cr (q1.At+e)) <|aV (0≤(q1.At:Int)∧(q1.At:Int)≤(q1.At+e)∧(q1.At+e:Int)≤((cO r1 r2 (r1.size:Int)).size:Int)) <|zaC (fun _=>none) (zcg y) zbx (cO (cO r1 r2 (r1.size:Int)) q1.At (q1.At+e))) (fun (f:ad)=>aT (vh (⟨2,0,f,ac,0⟩:c7) a b) fun (u:(Bool×(List c7)))=>m u.2 u.1 e))) (co (fun (q:Bool→Option (List c7))=>aN (((fT q1.Broken q1.Rune):Int)==5) (q (((fT q1.Broken q1.Rune):Int)==5)) (aN (((fT q1.Broken q1.Rune):Int)==4) (q (((fT q1.Broken q1.Rune):Int)==4)) (q (((fT q1.Broken q1.Rune):Int)==6)))) (fun (w:Bool)=>aN (w) (m b true 1) (aN (((fT q1.Broken q1.Rune):Int)==11) (aT (jQ (cO r1 r2 (r1.size:Int)) q1.At) fun (v:Int)=>aV (cr v) <|aT (vh (⟨4,v,ac,ac,0⟩:c7) a b) fun (t:(Bool×(List c7)))=>m t.2 t.1 1) (m b a 1)))))) (fun (l:List c7) (h:Bool) (p:Int)=>aV (0≤(p:Int)∧(p:Int)≤(d.length:Int)∧((d.length:Int):Int)≤(d.length:Int)) <|r l h (dK d p (d.length:Int)))) (E b)
def ud (o1:cw) (t1:ad):Option (List c7) := co (fun (b:(List c7)→Option (List c7))=>aT (w3 t1) fun (r1:ad)=>aT (zr o1 r1) fun (r2:Int)=>aV (0≤(r2:Int)∧(r2:Int)≤(r1.size:Int)∧((r1.size:Int):Int)≤(r1.size:Int)) <|aT (zt (cO r1 r2 (r1.size:Int))) fun (r3:(List cY))=>zaC (fun _ _ _=>none) (zcj o1 b r1 r2) zbx ([]:List c7) false r3) (fun (a:List c7)=>some a)
theorem BH {_h:Nat} {o1:cw} {_f _a _c _d _g:Hd} {t1:ad} {r:(List c7)} (h:ud o1 t1=some r):iu prog 43 [zP _h,.string t1] [cells _h [_f.v,.map (some (bi _a)),.map (some (bi _c)),.map (some (bi _d)),_g.v] 72,bH _f.v o1.units,cz (fun n:ad=>af n) (fun n:Int=>aB .i64 n) (bi _a) o1.place,dQ (bi _c) o1.fors,cz (fun n:ad=>af n) (fun n:Bool=>ay n) (bi _d) o1.skips,bH _g.v o1.lines] [] (fun v0:Value=>v0) (fun v0=>[jI v0 r]):=by
 unfold ud at h
 refine iu.intro func43 rfl ntmps43 (by simp) (fun w0 K l=>zbq h fun j1 es h=>zaL (β:=(List c7)×Nat×Hd) 6 rfl (fun b=>j1 b.1=some r) (fun b=>[]) (fun b=>[(6,zP b.2.1)]) (fun b=>[cells b.2.1 [b.2.2.v] 87,jI b.2.2.v b.1]) (fun cut=>?_) ?_)
 ·refine zyG (zyR 1 rfl (zyH (zyR 1 rfl (zbk h fun r1 d8 h=>zaI (v:=.string r1) (vs:=[.string t1]) rfl dc rfl rfl rfl HN (JA d8) (zyR 1 rfl (zyH (zyR 3 rfl (zbk h fun r2 d7 h=>lg (v:=zI r2) (vs:=[zP _h,.string r1]) l rfl dc rfl rfl rfl Ok (SF (_h:=_h) (o1:=o1) (_f:=_f) (_a:=_a) (_c:=_c) (_d:=_d) (_g:=_g) d7) (.ro 0 rfl (.ro 1 rfl (.ro 2 rfl (.ro 3 rfl (.ro 4 rfl (.ro 5 rfl .nil)))))) (zbs h fun e0 h=>iA rfl dc rfl rfl rfl (kA (i:=r2) (j:=(r1.size:Int)) an (.inr rfl) (.inl ⟨rfl,rfl⟩) e0) (zyR 1 rfl (zyH (zbi NE rfl dc (fun b2=>zyH (zbi C8 rfl dc (fun g=>eP (k:=1) (l':=[.bool false]) oL rfl rfl rfl rfl rfl (fun _ _=>rfl) rfl (zyH (zjk (x1:=[]) (x2:=[.tmp 7,.tmp 6]) rfl dc rfl rfl (zyR 1 rfl (zyN (cut (zyG (zyR 1 rfl (zbk h fun r3 d6 h=>zbN (vs:=[.string (cO r1 r2 (r1.size:Int))]) rfl dc rfl rfl rfl Ol (SG d6) ah (fun v1=>iB (k:=2) rfl (fun y e2=>?_)))))))))))))))))))))))))
  subst e2
  refine zyR 1 rfl (kU (k:=2) rfl (fun d0=>PF (B:=jh oN 4 y.v 0 r3) (As:=[pw y.v r3]) (bW [2] kr rfl) (fun _ _ h=>oK AW (aF.1 h)) l (fun fn fs b6 l=>?_)))
  replace l:Rd _ _ [cells _h [_f.v,.map (some (bi _a)),.map (some (bi _c)),.map (some (bi _d)),_g.v] 72,bH _f.v o1.units,cz (fun n:ad=>af n) (fun n:Int=>aB .i64 n) (bi _a) o1.place,dQ (bi _c) o1.fors,cz (fun n:ad=>af n) (fun n:Bool=>ay n) (bi _d) o1.skips,bH _g.v o1.lines,jh oN 4 y.v 0 r3]:=l
  refine zyN (zat (nD (enc:=qW) (e:=91) (size:=5) (eF (β:=Nat×(List c7)×Bool×(List cY)×Hd×Value×Nat) (fun b=>zaC (fun _ _ _=>none) (zcj o1 j1 r1 r2) b.1 b.2.1 b.2.2.1 b.2.2.2.1=some r∧Vw y.v r3 4 b.2.2.2.2.2.2 b.2.2.2.2.2.1 b.2.2.2.1) (fun b=>[]) (fun b=>[(0,zP _h),(5,.string (cO r1 r2 (r1.size:Int))),(6,zP b2),(7,zP g),(8,.func (.func 87) #[] #[zP g,zP b2]),(9,b.2.2.2.2.2.1)]) (fun b=>[cells b2 [b.2.2.2.2.1.v] 87,jI b.2.2.2.2.1.v b.2.1,cells g [.bool b.2.2.1] 4]) (fun b=>b.1) (zbx,([]:List c7),false,r3,eB,y.v,0) ⟨h,d0⟩ rfl (bI rfl) (bW [0,3,1] kr rfl) ?_)))
  rintro⟨n1,c,a,L,d,J,C⟩ ⟨h,t⟩
  cases n1 with
  |zero=>exact ew h
  |succ n1=>
   obtain⟨fb,bb⟩:∃ag,ag=zaC (fun _ _ _=>none) (zcj o1 j1 r1 r2) n1:=⟨_,rfl⟩
   have h:zcj o1 j1 r1 r2 fb c a L=some r:=by rw[bb];exact h
   unfold zcj at h
   refine zaJ (zyG (zyR 1 rfl (zbT t rfl dc rfl cG (zaT rfl zd4 (zyN (zyB rfl h (fun h=>?_) (fun h=>?_)))))))
   ·refine zap (zaz (zat (zbq h fun j2 eq h=>zaL (β:=(List c7)×Bool×Int×Hd) 2 rfl (fun b=>j2 b.1 b.2.1 b.2.2.1=some r) (fun b=>[]) (fun b=>[(0,zP _h),(5,.string (cO r1 r2 (r1.size:Int))),(6,zP b2),(7,zP g),(8,.func (.func 87) #[] #[zP g,zP b2]),(9,J),(11,zI b.2.2.1)]) (fun b=>[cells b2 [b.2.2.2.v] 87,jI b.2.2.2.v b.1,cells g [.bool b.2.1] 4]) (fun cut=>?_) ?_)))
    ·refine zyG (zyR 1 rfl (zbk h fun q1 cc h=>fy t cc cG kM rfl dc rfl rfl rfl (pJ (m:=C+(0:Int).toNat) (j:=0) (i:=6) (q:=q1) (cs:=[zI q1.At,zI q1.Width,.int .i32 q1.Rune,.bool q1.Broken]) l rfl (by omega) lO rfl dc rfl (ce t cc) rfl rfl rfl (zbi zjr rfl dc (fun b4=>eE (k:=3) (vs:=[zI q1.At,zI q1.Width,.int .i32 q1.Rune,.bool q1.Broken]) (l':=[zI q1.At,zI q1.Width,.int .i32 q1.Rune,.bool q1.Broken]) kM rfl rfl rfl rfl rfl (show _≤_ by simp) rfl rfl (zyH (zyR 1 rfl (zyN (cut (zyG (zbR (k:=3) (cs:=[zI q1.At,zI q1.Width,.int .i32 q1.Rune,.bool q1.Broken]) lO rfl dc rfl rfl rfl rfl (zbs h fun db h=>zaI (v:=zI (fT q1.Broken q1.Rune)) (vs:=[.agg #[zI q1.At,zI q1.Width,.int .i32 q1.Rune,.bool q1.Broken]]) rfl dc rfl rfl rfl wl (ww q1.At q1.Width q1.Rune q1.Broken db.1 db.2) (zyN (zat (zyG (zaT rfl zbm (zyR 1 rfl (zyN (zyB rfl h (fun h=>?_) (fun h=>?_))))))))))))))))))))
     ·refine zyG (zyR 1 rfl (zyH (zyR 2 rfl ?_)))
      have l:Rd _ _ [cells _h [_f.v,.map (some (bi _a)),.map (some (bi _c)),.map (some (bi _d)),_g.v] 72,bH _f.v o1.units,cz (fun n:ad=>af n) (fun n:Int=>aB .i64 n) (bi _a) o1.place,dQ (bi _c) o1.fors,cz (fun n:ad=>af n) (fun n:Bool=>ay n) (bi _d) o1.skips,bH _g.v o1.lines,jh oN 4 y.v 0 r3,jh oN 4 y.v C r3]:=l.up0 (i:=6) rfl
      refine zbk h fun H d5 h=>PE (vs:=[zP _h,J]) l rfl dc rfl rfl rfl Om (SH (_h:=_h) (o1:=o1) (_f:=_f) (_a:=_a) (_c:=_c) (_d:=_d) (_g:=_g) t d5) (.ro 0 rfl (.ro 1 rfl (.ro 2 rfl (.ro 3 rfl (.ro 4 rfl (.ro 5 rfl (.ro 7 rfl .nil))))))) (fun G fk fo b0 l=>?_)
      replace l:Rd _ _ [cells _h [_f.v,.map (some (bi _a)),.map (some (bi _c)),.map (some (bi _d)),_g.v] 72,bH _f.v o1.units,cz (fun n:ad=>af n) (fun n:Int=>aB .i64 n) (bi _a) o1.place,dQ (bi _c) o1.fors,cz (fun n:ad=>af n) (fun n:Bool=>ay n) (bi _d) o1.skips,bH _g.v o1.lines,jh oN 4 y.v 0 r3,jh oN 4 y.v C r3,mo hO 1 G H.2]:=l
      obtain⟨dT,k1,L1,bk,l⟩:=l.openSl (i:=8) rfl
      replace l:Rd _ _ [cells _h [_f.v,.map (some (bi _a)),.map (some (bi _c)),.map (some (bi _d)),_g.v] 72,bH _f.v o1.units,cz (fun n:ad=>af n) (fun n:Int=>aB .i64 n) (bi _a) o1.place,dQ (bi _c) o1.fors,cz (fun n:ad=>af n) (fun n:Bool=>ay n) (bi _d) o1.skips,bH _g.v o1.lines,jh oN 4 y.v 0 r3,jh oN 4 y.v C r3,mo hO 1 G H.2,jh hO 1 dT k1 L1]:=l
      refine zyR 1 rfl (eY rfl dc rfl rfl (eY rfl dc rfl rfl (zyR 2 rfl (zyN (zbq h fun j3 en h=>zaL (β:=Int) 1 rfl (fun b=>j3 b=some r) (fun b=>[]) (fun b=>[(0,zP _h),(5,.string (cO r1 r2 (r1.size:Int))),(6,zP b2),(7,zP g),(8,.func (.func 87) #[] #[zP g,zP b2]),(9,J),(11,zI H.1),(12,G.v),(13,zI b)]) (fun b=>[cells b2 [d.v] 87,jI d.v c,cells g [.bool a] 4]) (fun cut=>?_) ?_)))))
      ·refine zyG (zyR 1 rfl (zyN (cut (zyG (zyR 2 rfl (zbs h fun eM h=>?_))))))
       obtain⟨v5,bh,d3⟩:=oI (lo:=none) (hi:=some (zI H.1)) t cG kM (.inl ⟨rfl,rfl⟩) (.inr rfl) eM
       refine iA rfl dc rfl rfl rfl d3 (zbT bh rfl dc rfl cG (zyR 1 rfl (zyN (zat (eF (β:=Nat×Int×Int) (fun b=>zaC (fun _ _=>none) (zb5 L H j3) b.1 b.2.1 b.2.2=some r) (fun b=>[]) (fun b=>[(0,zP _h),(5,.string (cO r1 r2 (r1.size:Int))),(6,zP b2),(7,zP g),(8,.func (.func 87) #[] #[zP g,zP b2]),(9,J),(11,zI H.1),(12,G.v),(13,zI b.2.1),(48,v5),(49,zI ((dK L 0 H.1).length:Int)),(50,zI b.2.2)]) (fun b=>[cells b2 [d.v] 87,jI d.v c,cells g [.bool a] 4]) (fun b=>b.1) (zbx,0,0) h rfl (bI rfl) (cp 3) ?_)))))
       rintro⟨n3,E,x3⟩ h
       cases n3 with
       |zero=>exact ew h
       |succ n3=>
        obtain⟨fa,a9⟩:∃ag,ag=zaC (fun _ _=>none) (zb5 L H j3) n3:=⟨_,rfl⟩
        have h:zb5 L H j3 fa E x3=some r:=by rw[a9];exact h
        unfold zb5 at h
        refine zyG (zaT rfl zbd (zyN (zaJ (zyB rfl h (fun h=>?_) (fun h=>?_)))))
        ·refine zap (zaz (zbq h fun j4 em h=>zaL (β:=Int) 0 rfl (fun b=>j4 b=some r) (fun b=>[]) (fun b=>[(0,zP _h),(5,.string (cO r1 r2 (r1.size:Int))),(6,zP b2),(7,zP g),(8,.func (.func 87) #[] #[zP g,zP b2]),(9,J),(11,zI H.1),(12,G.v),(13,zI b),(48,v5),(49,zI ((dK L 0 H.1).length:Int)),(50,zI x3)]) (fun b=>[cells b2 [d.v] 87,jI d.v c,cells g [.bool a] 4]) (fun cut=>cut (zat (zyG (zbk h fun q2 b9 h=>fy bh b9 cG kM rfl dc rfl rfl rfl (pJ (m:=C+(0:Int).toNat+(x3:Int).toNat) (j:=0) (i:=6) (q:=q2) (cs:=[zI q2.At,zI q2.Width,.int .i32 q2.Rune,.bool q2.Broken]) l rfl (by omega) lO rfl dc rfl (ce bh b9) rfl rfl rfl (zbi zjr rfl dc (fun b5=>eE (k:=3) (vs:=[zI q2.At,zI q2.Width,.int .i32 q2.Rune,.bool q2.Broken]) (l':=[zI q2.At,zI q2.Width,.int .i32 q2.Rune,.bool q2.Broken]) kM rfl rfl rfl rfl rfl (show _≤_ by simp) rfl rfl (zyH (zab qu rfl dc rfl (show _=2 from rfl) (zas (k:=3) eZ rfl dc rfl rfl rfl (zbs h fun da h=>zaI (v:=.bool (great q2.Rune)) (vs:=[.int .i32 q2.Rune]) rfl dc rfl rfl rfl On (nC fun w=>yo q2.Rune w da.1 da.2) (zyN (zyB rfl h (fun h=>bX (zyR 1 rfl (zaB (cd (mD 1 h 3))))) (fun h=>zap (cd (mD E h 3)))))))))))))))) (fun aw h=>?_)))
         rw[em] at h
         refine bX (zbs h fun eL h=>zaT rfl (dA (r:=x3+1) (ai _ eL)) (zyR 1 rfl (zaB ?_)))
         subst a9
         exact aD (n3,aw,x3+1) h 3
        exact dy (bV (bV (dz (mD E h 3))))
      rintro f h
      rw[en] at h
      refine zbq h fun j5 eg h=>zaL (β:=Int×ad) 1 rfl (fun b=>j5 b.1 b.2=some r) (fun b=>[]) (fun b=>[(0,zP _h),(5,.string (cO r1 r2 (r1.size:Int))),(6,zP b2),(7,zP g),(8,.func (.func 87) #[] #[zP g,zP b2]),(9,J),(11,zI b.1),(12,G.v),(13,zI f),(16,.string b.2)]) (fun b=>[cells b2 [d.v] 87,jI d.v c,cells g [.bool a] 4]) (fun cut=>?_) ?_
      ·refine zyG (zyR 1 rfl (zyN (cut (zat (eF (β:=Nat×Int×ad) (fun b=>zaC (fun _ _=>none) (zci L j5) b.1 b.2.1 b.2.2=some r) (fun b=>[]) (fun b=>[(0,zP _h),(5,.string (cO r1 r2 (r1.size:Int))),(6,zP b2),(7,zP g),(8,.func (.func 87) #[] #[zP g,zP b2]),(9,J),(11,zI b.2.1),(12,G.v),(13,zI f),(16,.string b.2.2)]) (fun b=>[cells b2 [d.v] 87,jI d.v c,cells g [.bool a] 4]) (fun b=>b.1) (zbx,H.1,(⟨#[]⟩:ad)) (by exact h) rfl (bI rfl) (cp 3) ?_)))))
       rintro⟨n8,n7,u⟩ h
       cases n8 with
       |zero=>exact ew h
       |succ n8=>
        obtain⟨e9,a8⟩:∃ag,ag=zaC (fun _ _=>none) (zci L j5) n8:=⟨_,rfl⟩
        have h:zci L j5 e9 n7 u=some r:=by rw[a8];exact h
        unfold zci at h
        refine zaJ (zyG (zyR 2 rfl (zbT t rfl dc rfl cG (zaT rfl zbd (zyR 1 rfl (zyS (s:=62) rfl h (fun h=>?_) (fun h=>?_)))))))
        ·refine zyR 2 rfl (zbk h fun T b8 h=>fy t b8 cG kM rfl dc rfl rfl rfl (pJ (m:=C+(n7:Int).toNat) (j:=0) (i:=6) (q:=T) (cs:=[zI T.At,zI T.Width,.int .i32 T.Rune,.bool T.Broken]) l rfl (by omega) lO rfl dc rfl (ce t b8) rfl rfl rfl (zbk h fun r5 d4 h=>zaI (v:=.bool r5) (vs:=[.agg #[zI T.At,zI T.Width,.int .i32 T.Rune,.bool T.Broken]]) rfl dc rfl rfl rfl HO (J6 (p1:=T) d4) (zyR 1 rfl (zyN (zyB rfl h (fun h=>?_) (fun h=>?_)))))))
         ·refine zap (zaz (zat (zyG (zyR 3 rfl (zbk h fun q4 b7 h=>fy t b7 cG kM rfl dc rfl rfl rfl (zab qu rfl dc rfl (show _=(C+(n7:Int).toNat)*4+2 from rfl) (jG (n:=C+(n7:Int).toNat) (j:=2) (i:=6) (q:=q4) l rfl (by omega) eZ rfl dc rfl (ce t b7) rfl rfl (zcH rfl dc rfl (mi aZ an) (zbs h fun ez h=>zaT rfl (lJ ez) (zyR 1 rfl (zyN (bX (zyR 1 rfl (zbs h fun ey h=>zaT rfl (dA (r:=n7+1) (ai _ ey)) (zyR 1 rfl (zaB (cd ?_)))))))))))))))))
          subst a8
          exact aD (n8,n7+1,u++(ae q4.Rune)) h 3
         exact dy (bV (bV (dz (mD (n7,u) h 3))))
        exact zyR 6 rfl (zyN (za8 rfl (dy (bV (bV (dz (mD (n7,u) h 3)))))))
      rintro⟨n4,x⟩ h
      rw[eg] at h
      refine zbq h fun j6 ec h=>zaL (β:=(List c7)×Bool×Hd) 0 rfl (fun b=>j6 b.1 b.2.1=some r) (fun b=>[]) (fun b=>[(0,zP _h),(5,.string (cO r1 r2 (r1.size:Int))),(6,zP b2),(7,zP g),(8,.func (.func 87) #[] #[zP g,zP b2]),(9,J),(11,zI n4),(16,.string x)]) (fun b=>[cells b2 [b.2.2.v] 87,jI b.2.2.v b.1,cells g [.bool b.2.1] 4]) (fun cut=>?_) ?_
      ·refine cut (zyG (zyR 1 rfl (zbT bk rfl dc rfl aK (zyR 1 rfl (zyN (zat (eF (β:=Nat×(List c7)×Bool×Int×Hd) (fun b=>zaC (fun _ _ _=>none) (zbZ o1 H f j6) b.1 b.2.1 b.2.2.1 b.2.2.2.1=some r) (fun b=>[]) (fun b=>[(0,zP _h),(5,.string (cO r1 r2 (r1.size:Int))),(6,zP b2),(7,zP g),(8,.func (.func 87) #[] #[zP g,zP b2]),(9,J),(11,zI n4),(13,zI f),(16,.string x),(79,G.v),(80,zI (H.2.length:Int)),(81,zI b.2.2.2.1)]) (fun b=>[cells b2 [b.2.2.2.2.v] 87,jI b.2.2.2.2.v b.2.1,cells g [.bool b.2.2.1] 4]) (fun b=>b.1) (zbx,c,a,0,d) h rfl (bI rfl) (cp 3) ?_)))))))
       rintro⟨n9,O,D,x6,a4⟩ h
       cases n9 with
       |zero=>exact ew h
       |succ n9=>
        obtain⟨e8,a7⟩:∃ag,ag=zaC (fun _ _ _=>none) (zbZ o1 H f j6) n9:=⟨_,rfl⟩
        have h:zbZ o1 H f j6 e8 O D x6=some r:=by rw[a7];exact h
        unfold zbZ at h
        refine zyG (zaT rfl zbd (zyN (zaJ (zyB rfl h (fun h=>?_) (fun h=>?_)))))
        ·refine zap (zaz (zaJ (zat (zyG (zbk h fun q5 a2 h=>fy bk a2 aK gV rfl dc rfl rfl rfl (jG (n:=k1+(x6:Int).toNat) (j:=0) (i:=9) (q:=q5) l rfl (by omega) dU rfl dc rfl (ce bk a2) rfl rfl (zyR 1 rfl (zyN (bX (zyR 2 rfl (zbc rfl dc rfl (zab znS rfl dc rfl (show _=1 from rfl) (zeo (i:=0) l rfl wa rfl dc rfl rfl (zyR 1 rfl (rG (k:=2) (ek:=(fun n:ad=>af n)) (ev':=(fun n:Int=>aB .i64 n)) (kk:=q5) (z0:=0) (mT an) underlying69 kr rfl dc rfl rfl l rfl (zyR 1 rfl (zbf (v:=.agg #[zI 3,zI ((zbP q5 o1.place).getD 0),.string ac,.string ac,zI f]) (ps:=[(0,.const (zI 3)),(1,.tmp 91),(4,.tmp 92)]) rfl dc rfl (fun _=>by kernel_rfl) (zbk h fun r6 c5 h=>zbN (vs:=[.agg #[zI 3,zI ((zbP q5 o1.place).getD 0),.string ac,.string ac,zI f]]) rfl dc rfl rfl rfl Dw (EV (e1:=(⟨3,((zbP q5 o1.place).getD 0),ac,ac,f⟩:c7)) (_o:=g) (c0:=D) (_q:=b2) (c1:=O) (_p:=a4) c5) (bW [2,0,1] kr rfl) (fun S=>mn (L':=[cells b2 [S.v] 87,jI S.v r6.2,cells g [.bool r6.1] 4]) (bW [4,5,3] kr rfl) (zaB (cd (zaz (bX (zbs h fun ex h=>zaT rfl (dA (r:=x6+1) (ai _ ex)) (zyR 1 rfl (zaB ?_))))))))))))))))))))))))))
         subst a7
         exact aD (n9,r6.2,r6.1,x6+1,S) h 3
        exact dy (bV (bV (dz (mD (O,D,a4) h 3))))
      rintro⟨F,U,e3⟩ h
      rw[ec] at h
      exact bX (zas (k:=0) wb rfl dc rfl rfl rfl (zas (k:=0) wb rfl dc rfl rfl rfl (gZ (k:=1) rfl dc rfl rfl bA (zbs h fun et h=>zaT rfl (k9 (r:=(F.length:Int)-1) (ai _ et)) (zyR 1 rfl (zbk h fun W a1 h=>eJ (k:=1) a1 bA mU rfl dc rfl rfl rfl rfl (zab zrI rfl dc rfl (show _=(((F.length:Int)-1:Int).toNat)*5+3 from rfl) (qs (i:=((F.length:Int)-1:Int).toNat) (j:=3) (k:=1) (q:=W) (q':=(⟨W.sort,W.place,W.digits,x,W.great⟩:c7)) gV pO rfl rfl rfl rfl (ei a1) rfl dc rfl (fun _ _=>rfl) (zaB (cd (DO b0 (mD (F.set ((F.length:Int)-1:Int).toNat (⟨W.sort,W.place,W.digits,x,W.great⟩:c7),U,n4,e3) h 3))))))))))))
     refine zyG (zaT rfl zbm (zyR 1 rfl (zyN (zyB rfl h (fun h=>?_) (fun h=>?_)))))
     ·refine zbq h fun j7 eb h=>zaL (β:=Int) 0 rfl (fun b=>j7 b=some r) (fun b=>[]) (fun b=>[(0,zP _h),(5,.string (cO r1 r2 (r1.size:Int))),(6,zP b2),(7,zP g),(8,.func (.func 87) #[] #[zP g,zP b2]),(9,J),(10,zP b4),(11,zI b)]) (fun b=>[cells b2 [d.v] 87,jI d.v c,cells g [.bool a] 4,cells b4 [zI q1.At,zI q1.Width,.int .i32 q1.Rune,.bool q1.Broken] 132]) (fun cut=>?_) ?_
      ·refine cut (zat (eF (β:=Nat×Int) (fun b=>zaC (fun _=>none) (zch L j7) b.1 b.2=some r) (fun b=>[]) (fun b=>[(0,zP _h),(5,.string (cO r1 r2 (r1.size:Int))),(6,zP b2),(7,zP g),(8,.func (.func 87) #[] #[zP g,zP b2]),(9,J),(10,zP b4),(11,zI b.2)]) (fun b=>[cells b2 [d.v] 87,jI d.v c,cells g [.bool a] 4,cells b4 [zI q1.At,zI q1.Width,.int .i32 q1.Rune,.bool q1.Broken] 132]) (fun b=>b.1) (zbx,1) h rfl (bI rfl) (cp 4) ?_))
       rintro⟨ao,M⟩ h
       cases ao with
       |zero=>exact ew h
       |succ ao=>
        obtain⟨e7,a6⟩:∃ag,ag=zaC (fun _=>none) (zch L j7) ao:=⟨_,rfl⟩
        have h:zch L j7 e7 M=some r:=by rw[a6];exact h
        unfold zch at h
        refine zaJ (zyG (zyR 2 rfl (zbT t rfl dc rfl cG (zaT rfl zbd (zyR 1 rfl (zyS (s:=109) rfl h (fun h=>?_) (fun h=>?_)))))))
        ·refine zyR 2 rfl (zbk h fun I a0 h=>fy t a0 cG kM rfl dc rfl rfl rfl (pJ (m:=C+(M:Int).toNat) (j:=0) (i:=6) (q:=I) (cs:=[zI I.At,zI I.Width,.int .i32 I.Rune,.bool I.Broken]) l rfl (by omega) lO rfl dc rfl (ce t a0) rfl rfl rfl (zbs h fun a3 h=>zaI (v:=zI (fT I.Broken I.Rune)) (vs:=[.agg #[zI I.At,zI I.Width,.int .i32 I.Rune,.bool I.Broken]]) rfl dc rfl rfl rfl wl (ww I.At I.Width I.Rune I.Broken a3.1 a3.2) (zaT rfl zbm (zyR 1 rfl (zyN (zyB rfl h (fun h=>?_) (fun h=>?_))))))))
         ·refine zap (zaz (zat (bX (zyR 1 rfl (zbs h fun ds h=>zaT rfl (dA (r:=M+1) (ai _ ds)) (zyR 1 rfl (zaB (cd ?_))))))))
          subst a6
          exact aD (ao,M+1) h 4
         exact dy (bV (bV (dz (mD M h 4))))
        exact zyR 7 rfl (zyN (za8 rfl (dy (bV (bV (dz (mD M h 4)))))))
      rintro N h
      rw[eb] at h
      refine zbq h fun j8 ea h=>zaL (β:=ad) 1 rfl (fun b=>j8 b=some r) (fun b=>[]) (fun b=>[(0,zP _h),(5,.string (cO r1 r2 (r1.size:Int))),(6,zP b2),(7,zP g),(8,.func (.func 87) #[] #[zP g,zP b2]),(9,J),(11,zI N),(19,.string b)]) (fun b=>[cells b2 [d.v] 87,jI d.v c,cells g [.bool a] 4]) (fun cut=>?_) ?_
      ·refine zyG (zyR 1 rfl (zab zd2 rfl dc rfl (show _=0 from rfl) (zas (k:=3) dO rfl dc rfl rfl rfl (zab zd2 rfl dc rfl (show _=0 from rfl) (zas (k:=3) dO rfl dc rfl rfl rfl (zyR 1 rfl (zbs h fun dj h=>zaT rfl (dA (r:=q1.At+N) (ai _ dj)) (zbs h fun di h=>iA rfl dc rfl rfl rfl (kA (i:=q1.At) (j:=q1.At+N) an (.inr rfl) (.inr rfl) di) (zyR 1 rfl (zyN (cut (zat (eF (β:=Nat×ad) (fun b=>zaC (fun _=>none) (zcg j8) b.1 b.2=some r) (fun b=>[]) (fun b=>[(0,zP _h),(5,.string (cO r1 r2 (r1.size:Int))),(6,zP b2),(7,zP g),(8,.func (.func 87) #[] #[zP g,zP b2]),(9,J),(11,zI N),(19,.string b.2)]) (fun b=>[cells b2 [d.v] 87,jI d.v c,cells g [.bool a] 4]) (fun b=>b.1) (zbx,cO (cO r1 r2 (r1.size:Int)) q1.At (q1.At+N)) h rfl (bI rfl) (cp 3) ?_)))))))))))))
       rintro⟨Y,p⟩ h
       cases Y with
       |zero=>exact ew h
       |succ Y=>
        obtain⟨e6,a5⟩:∃ag,ag=zaC (fun _=>none) (zcg j8) Y:=⟨_,rfl⟩
        have h:zcg j8 e6 p=some r:=by rw[a5];exact h
        unfold zcg at h
        refine zaJ (zyG (zyR 1 rfl (zcG rfl dc rfl an (zaT rfl zd4 (zyR 1 rfl (zyS (s:=130) rfl h (fun h=>?_) (fun h=>?_)))))))
        ·refine zyR 1 rfl (zbk h fun c1 c4 h=>nj rfl dc rfl rfl (pq an c4) (zaT rfl zbm (zyR 1 rfl (zyN (zyB rfl h (fun h=>?_) (fun h=>?_))))))
         ·refine zap (zaz (zat (bX (zyR 1 rfl (zbs h fun dg h=>iA rfl dc rfl rfl rfl (kA (i:=1) (j:=(p.size:Int)) an (.inr rfl) (.inl ⟨rfl,rfl⟩) dg) (zyR 1 rfl (zaB (cd ?_))))))))
          subst a5
          exact aD (Y,cO p 1 (p.size:Int)) h 3
         exact dy (bV (bV (dz (mD p h 3))))
        exact zyR 4 rfl (zyN (za8 rfl (dy (bV (bV (dz (mD p h 3)))))))
      rintro z h
      rw[ea] at h
      exact bX (zyR 2 rfl (zbf (v:=.agg #[zI 2,zI 0,.string z,.string ac,zI 0]) (ps:=[(0,.const (zI 2)),(2,.tmp 138)]) rfl dc rfl (fun _=>by kernel_rfl) (zbk h fun r7 c3 h=>zbN (vs:=[.agg #[zI 2,zI 0,.string z,.string ac,zI 0]]) rfl dc rfl rfl rfl Dw (EV (e1:=(⟨2,0,z,ac,0⟩:c7)) (_o:=g) (c0:=a) (_q:=b2) (c1:=c) (_p:=d) c3) (bW [2,0,1] kr rfl) (fun Q=>mn (L':=[cells b2 [Q.v] 87,jI Q.v r7.2,cells g [.bool r7.1] 4]) (bW [4,5,3] kr rfl) (zaB (cd (mD (r7.2,r7.1,N,Q) h 3)))))))
     refine zbq h fun j9 d9 h=>zaL (β:=Bool) 0 rfl (fun b=>j9 b=some r) (fun b=>[]) (fun b=>[(0,zP _h),(5,.string (cO r1 r2 (r1.size:Int))),(6,zP b2),(7,zP g),(8,.func (.func 87) #[] #[zP g,zP b2]),(9,J),(10,zP b4),(11,zI 1),(37,zI (fT q1.Broken q1.Rune)),(141,.bool b)]) (fun b=>[cells b2 [d.v] 87,jI d.v c,cells g [.bool a] 4,cells b4 [zI q1.At,zI q1.Width,.int .i32 q1.Rune,.bool q1.Broken] 132]) (fun cut=>cut (zyG (zaT rfl zbm (zyR 1 rfl (zyN (zyB rfl h (fun h=>zap (mD (((fT q1.Broken q1.Rune):Int)==5) h 4)) (fun h=>zyG (zaT rfl zbm (zyR 1 rfl (zyN (zyB rfl h (fun h=>zap (mD (((fT q1.Broken q1.Rune):Int)==4) h 4)) (fun h=>bX (zaT rfl zbm (zyR 1 rfl (zaB (mD (((fT q1.Broken q1.Rune):Int)==6) h 4)))))))))))))))) (fun x7 h=>?_)
     rw[d9] at h
     exact zyB rfl h (fun h=>bX (eP (k:=2) (l':=[.bool true]) oL rfl rfl rfl rfl rfl (fun _ _=>rfl) rfl (zaB (cd (mD (c,true,1,d) h 3))))) (fun h=>zyG (zaT rfl zbm (zyR 1 rfl (zyN (zyB rfl h (fun h=>bX (zyR 2 rfl (zab zd2 rfl dc rfl (show _=0 from rfl) (zas (k:=3) dO rfl dc rfl rfl rfl (zbk h fun c2 cv h=>nj rfl dc rfl rfl (pq an cv) (zbs h fun df h=>zcH rfl dc rfl (vG (r:=c2) cu fZ (ai _ df)) (zbf (v:=.agg #[zI 4,zI c2,.string ac,.string ac,zI 0]) (ps:=[(0,.const (zI 4)),(1,.tmp 152)]) rfl dc rfl (fun _=>by kernel_rfl) (zbk h fun r8 ch h=>zbN (vs:=[.agg #[zI 4,zI c2,.string ac,.string ac,zI 0]]) rfl dc rfl rfl rfl Dw (EV (e1:=(⟨4,c2,ac,ac,0⟩:c7)) (_o:=g) (c0:=a) (_q:=b2) (c1:=c) (_p:=d) ch) (bW [2,0,1] kr rfl) (fun P=>mn (L':=[cells b2 [P.v] 87,jI P.v r8.2,cells g [.bool r8.1] 4,cells b4 [zI q1.At,zI q1.Width,.int .i32 q1.Rune,.bool q1.Broken] 132]) (bW [5,6,4,3] kr rfl) (zaB (cd (mD (r8.2,r8.1,1,P) h 3)))))))))))) (fun h=>zap (cd (mD (c,a,1,d) h 3))))))))
    rintro⟨bs,V,n2,e4⟩ h
    rw[eq] at h
    refine bX (zyR 2 rfl (zbs h fun dd h=>?_))
    obtain⟨v6,d1,d2⟩:=oI (lo:=some (zI n2)) (hi:=none) t cG kM (.inr rfl) (.inl ⟨rfl,rfl⟩) dd
    refine iA rfl dc rfl rfl rfl d2 (zyR 1 rfl (zaB (cd ?_)))
    subst bb
    exact aD (n1,bs,V,dK L n2 (L.length:Int),e4,v6,C+(n2:Int).toNat) ⟨h,d1⟩ 3
   exact dy (bV (bV (dz (DO b6 (mD (c,b2,d) h 2)))))
 rintro⟨fd,b1,e5⟩ h
 rw[es] at h
 refine zyG (zas (k:=0) wb rfl dc rfl rfl rfl (zyR 1 rfl (zyN (zaA ?_))))
 cases h
 exact eu (rs:=[.tmp 4]) e5.v (.inl rfl) results43 (.cons (.tmp rfl) .nil) rfl (bW [1] kr rfl)
abbrev Tk:=Int×ad
def tkT (t:dq):Tk:=(if t.broken then -1 else (t.r:Int),⟨t.bs.toArray⟩)
def kT (x:Tk):Int:=if x.1<0 then 11 else kind x.1
def ej (x:Tk):Bool:=cZ x.1
def iQ (x:Tk):Bool:=fc x.1
def fE (x:Tk):Bool:=decide (48≤x.1∧x.1≤57)
def jc (x:Tk):Bool:=ej x||iQ x
def iD (l:List Tk):ad:=J (·.2) l
abbrev El:=c7
structure mu where
 p:ad→Option Int
 f:ad→Option (List ad)
 s:ad→Bool
def rk (l:List Tk):List Tk:=(l.dropWhile fun x=>!ej x).dropWhile jc
def nN (l:List Tk):List Tk:=(l.dropWhile fun x=>!ej x).takeWhile jc
def rl (o:mu) (l:List Tk):Nat :=
 if (rk l).any (fun x=>ej x||fE x)&&o.s (iU (iD (nN l))) then (l.takeWhile fun x=>!ej x).length+(nN l).length else 0
def py (o:mu) (a:ad×Nat×Option (Nat×List ad)) (x:Tk):ad×Nat×Option (Nat×List ad) :=
 let f:=a.1++ae (cA x.1)
 (f,a.2.1+1,if (o.p f).isSome then some (a.2.1+1,[f]) else match o.f f with | some xs=>some (a.2.1+1,xs) | none=>a.2.2)
def vi (l:List Tk):List Tk:=(l.take 8).takeWhile fun x=>!decide (x.1<0)
def ue (o:mu) (l:List Tk):Option (Nat×List ad):=((vi l).foldl (py o) (ac,0,none)).2.2
def rY (r:Int):List ad:=(eH (iU (ae (cA r)))).map ae
def kG (o:mu) (x:Tk) (l:List Tk):Nat×List ad:=(ue o (x::l)).getD (1,rY x.1)
def iE (o:mu) (g:Int) (u:ad):El:=⟨3,(o.p u).getD 0,ac,ac,g⟩
def ph (m:ad):List El→List El
 |[]=>[]
 |[e]=>[⟨e.sort,e.place,e.digits,m,e.great⟩]
 |e::a::es=>e::ph m (a::es)
def qB (l:List Tk):Int:=if l.any (fun x=>great x.1) then 1 else 0
def mv (l:List Tk):ad:=J (fun x=>ae x.1) l
def sY:List UInt8→List UInt8:=List.dropWhile (· == 48)
def rZ (l:List Tk):ad:=⟨(sY (iD l).data.toList).toArray⟩
def lD (o:mu) (x:Tk) (l:List Tk):Nat×Option (List El) :=
 if kT x=1 then
  let m:=kG o x l
  let a:=((x::l).drop m.1).takeWhile iQ
  (m.1+a.length,some (ph (mv a) (m.2.map (iE o (qB ((x::l).take m.1))))))
 else if kT x=3 then (1+(l.takeWhile fE).length,some [⟨2,0,rZ (x::l.takeWhile fE),ac,0⟩])
 else if kT x=5∨kT x=4∨kT x=6 then (1,none)
 else if kT x=11 then (1,some [⟨4,kP x.2,ac,ac,0⟩])
 else (1,some [])
def mY (o:mu):Nat→List Tk→List (Option (List El))
 |0,_=>[]
 |_+1,[]=>[]
 |n+1,x::l=>(lD o x l).2::mY o n ((x::l).drop (lD o x l).1)
def lT:El:=⟨1,0,ac,ac,0⟩
def mZ:List (Option (List El))→List El→Bool→List El
 |[],out,_=>out
 |none::cs,out,_=>mZ cs out true
 |some []::cs,out,sp=>mZ cs out sp
 |some (e::es)::cs,out,sp=>mZ cs (out++(if sp&&!out.isEmpty then [lT] else [])++e::es) false
def vj (o:mu) (l:List Tk):List El:=mZ (mY o l.length (l.drop (rl o l))) [] false
def nu (t:ad):List dq:=eU (gm t).data.toList
def gE (t:ad):List Tk:=(nu t).map tkT
def dB (o:cw):mu:=⟨fun u=>zbP u o.place,fun u=>zbP u o.fors,fun f=>(zbP f o.skips).getD false⟩
def pT (i:Nat) (t:dq):cY:=⟨(i:Int),(t.bs.length:Int),(t.r:Int),t.broken⟩
def pL:Nat→List dq→List cY
 |_,[]=>[]
 |i,t::ts=>pT i t::pL (i+t.bs.length) ts
theorem J9:∀ (ts:List dq) (i:Nat),(place i ts).map gI=pL i ts
 |[],_=>rfl
 |t::ts,i=>by
  show gI ⟨i,t.bs.length,t.r⟩::(place (i+t.bs.length) ts).map gI=_
  rw[J9 ts];rfl
theorem xe (l:List UInt8):(eQ l).map gI=pL 0 (eU l):=by
 show (nn 0 l).map gI=_
 rw[Ii,J9]
theorem pY:∀ (ts:List dq) (i:Nat),(pL i ts).length=ts.length
 |[],_=>rfl
 |t::ts,i=>by rw[pL,ab,ab,pY ts]
theorem SI (ts:List dq) (n:Nat):(cP (ts.take n)).length+(cP (ts.drop n)).length=(cP ts).length:=by
 rw[←aa,←mr,bZ]
theorem Kf:∀ (n:Nat) (ts:List dq) (i:Nat),(pL i ts).drop n=pL (i+(cP (ts.take n)).length) (ts.drop n)
 |0,ts,i=>by simp[cP]
 |n+1,[],i=>by simp[pL,cP]
 |n+1,t::ts,i=>by
  rw[pL,kZ,Kf n ts,dY,mq,aa,kZ,fN]
theorem sZ:∀ (ts:List dq) (i k:Nat) (t:dq),ts[k]?=some t→(pL i ts)[k]?=some (pT (i+(cP (ts.take k)).length) t)
 |[],_,_,_,h=>by simp at h
 |t'::ts,i,0,t,h=>by simp at h;subst h;simp[pL,cP]
 |t'::ts,i,k+1,t,h=>by
  rw[pL,List.getElem?_cons_succ,sZ ts _ k t (by simpa using h),dY,mq,aa,fN]
theorem pi {t:dq} (h:kv t):fB (t.r:Int):=by
 rcases h with h|h
 ·obtain⟨h,_⟩:=h
  exact⟨by omega,by omega⟩
 ·unfold tv at h
  simp at h
  exact⟨by omega,by omega⟩
theorem uf (t:dq):fT t.broken (t.r:Int)=kT (tkT t):=by
 have h1:∀r:Int,kT (r,(⟨t.bs.toArray⟩:ad))=if r<0 then 11 else kind r:=fun r=>rfl
 unfold tkT
 cases hb:t.broken with
 |true=>rw[am rfl,h1,am (by omega)];rfl
 |false=>
  rw[aj (by simp),h1]
  have h2:¬((t.r:Int)<0):=by omega
  have h3:fT false (t.r:Int)=kind (t.r:Int):=aj (by simp)
  rw[aj h2,h3]
theorem xf (x:Tk):((kT x:Int)==1)=ej x:=by
 unfold kT ej
 split
 ·rename_i h
  have:cZ x.1=false:=by
   cases hL:cZ x.1 with
   |false=>rfl
   |true=>have:=mV _ hL;omega
  rw[this];rfl
 ·exact zmo x.1
theorem zw (x:Tk):((kT x:Int)==2)=iQ x:=by
 unfold kT iQ
 split
 ·have:fc x.1=false:=by unfold fc;exact al (by omega)
  rw[this];rfl
 ·exact IM x.1
theorem SJ (r:Int):((kind r:Int)==3)=decide (48≤r∧r≤57):=by
 by_cases h:48≤r∧r≤57
 ·have b:cZ r=false:=by
   cases hL:cZ r with
   |false=>rfl
   |true=>
    unfold cZ great pa at hL
    simp only[dC,decide_eq_true_eq] at hL
    unfold pQ qZ at hL
    omega
  have:kind r=3:=by
   unfold kind rN
   rw[aj (by omega),b]
   simp only[bj,if_false]
   rw[aj (by omega),am h]
  rw[this,ax h];rfl
 ·rw[al h]
  have:kind r≠3:=by
   unfold kind rN
   intro a
   repeat' split at a
   all_goals first | omega | cases a
  exact aC.2 this
theorem vk (x:Tk):((kT x:Int)==3)=fE x:=by
 unfold kT fE
 split
 ·have:decide (48≤x.1∧x.1≤57)=false:=al (by omega)
  rw[this];rfl
 ·exact SJ x.1
theorem EW (o:cw) (s:ad) (ek:Int→Int→Int→Option Int) (x:cY) (ag:Int→Int→Bool→Option Int) (f t:Int) (op:Bool) (a:fB x.Rune) :
  zbY o s ek x ag f t op=aN (decide ((f:Int)<0)) (aN (((fT x.Broken x.Rune):Int)==1) (aV (cr (x.At+x.Width))<|ag x.At (x.At+x.Width) op) (ag f t op))
   (aN (op&&((((fT x.Broken x.Rune):Int)==1)||(((fT x.Broken x.Rune):Int)==2))) (aV (cr (x.At+x.Width))<|ag f (x.At+x.Width) op)
    (aN ((((fT x.Broken x.Rune):Int)==1)||(((fT x.Broken x.Rune):Int)==3)) (aV (0≤(f:Int)∧(f:Int)≤t∧(t:Int)≤(s.size:Int))<|aT (pf (cO s f t)) fun (r2:ad)=>aN (((zbP r2 o.skips).getD false)) (ek t f t) (ek 0 f t)) (ag f t false))):=by
 unfold zbY
 rw[Gw a]
 generalize (((fT x.Broken x.Rune):Int)==1)=b1
 generalize (((fT x.Broken x.Rune):Int)==2)=b2
 generalize (((fT x.Broken x.Rune):Int)==3)=b3
 generalize decide ((f:Int)<0)=b0
 cases b0<;>cases b1<;>cases b2<;>cases b3<;>cases op<;>rfl
theorem od (a b:ad):(a++b).data.toList=a.data.toList++b.data.toList:=by simp
theorem ow {a b:ad} (h:a.data.toList=b.data.toList):a=b:=_root_.ByteArray.ext (fA.1 h)
theorem xg:∀ts:List dq,(iD (ts.map tkT)).data.toList=cP ts
 |[]=>rfl
 |t::ts=>by
  rw[av,mq,←xg ts]
  show (J (·.2) (tkT t::ts.map tkT)).data.toList=_
  rw[jA,od];rfl
theorem s6 (s:ad) (a b:Nat):(cO s (a:Int) (b:Int)).data.toList=(s.data.toList.drop a).take (b-a):=by
 unfold cO
 simp[ByteArray.data_extract]
theorem EX {s:ad} {A W Z:List dq} (h:s.data.toList=cP (A++(W++Z))) {a b:Nat} (ha:a=(cP A).length) (hb:b=a+(cP W).length):cO s (a:Int) (b:Int)=iD (W.map tkT):=by
 apply ow
 rw[s6,xg,h,mr,mr,ha,ic,hb,ha,ik,List.take_left]
theorem gJ (s:ad):s.size=s.data.toList.length:=by rw[Array.length_toList];rfl
theorem Ks (s:ad) (a b:Int):(cO s a b).size≤s.size:=by
 unfold cO
 rw[ByteArray.size_extract]
 omega
theorem Kz {α:Type} (p:α→Bool):∀l:List α,l.take (l.takeWhile p).length=l.takeWhile p
 |[]=>rfl
 |x::l=>by
  rw[aW]
  cases p x with
  |true=>simp only[if_true,ab,dY];rw[Kz p l]
  |false=>rfl
section
variable {o:cw} {s:ad} {ek:Int→Int→Int→Option Int} {dn:Int→Int→Bool→Option Int} {Z:Option Int}
abbrev pz (x:Tk):Bool:=ej x||fE x
def zx (o:cw) (s:ad) (a b:Nat):Int:=if (dB o).s (iU (cO s (a:Int) (b:Int))) then (b:Int) else 0
theorem KA (hz:∀a b c,dn a b c=some 0) (he:∀v a b,ek v a b=some v) (g:s.size≤65536) {a b:Nat} (e:a≤b) (d:b≤s.size):∀ (ts:List dq) (i:Nat),(∀t∈ts,kv t) →
  zdZ dn (zbY o s ek) (pL i ts) (a:Int) (b:Int) false=if (ts.map tkT).any pz then some (zx o s a b) else some 0
 |[],i,_=>hz _ _ _
 |t::ts,i,hok=>by
  have f:=KA hz he g e d ts (i+t.bs.length) (fun x hx=>hok x (ak _ hx))
  rw[pL,oH,EW o s ek (pT i t) _ _ _ _ (pi (hok t (ar ..)))]
  show aN (decide ((a:Int)<0)) _ _=_
  have hk:fT (pT i t).Broken (pT i t).Rune=kT (tkT t):=uf t
  rw[hk,xf,zw,vk,av,jl]
  refine fC (bM (by simp) ?_)
  cases hb:(ej (tkT t)||fE (tkT t)) with
  |false=>
   refine bM rfl (f.trans ?_)
   show _=if (pz (tkT t)||_) then _ else _
   rw[show pz (tkT t)=false from hb,dp]
  |true=>
   refine bS rfl (gO ?_)
   have:(pz (tkT t)||(ts.map tkT).any pz)=true:=by rw[show pz (tkT t)=true from hb];rfl
   rw[this,am rfl]
   refine aY (Bu _ (by have:=Ks s (a:Int) (b:Int);omega)) ?_
   unfold zx
   show aN ((dB o).s (iU (cO s (a:Int) (b:Int)))) _ _=_
   cases h:(dB o).s (iU (cO s (a:Int) (b:Int))) with
   |true=>exact bS rfl (by rw[he,am rfl])
   |false=>exact bM rfl (by rw[he];rfl)
theorem KB (hz:∀a b c,dn a b c=some 0) (he:∀v a b,ek v a b=some v) (g:s.size≤65536) {a:Nat}:∀ (ts:List dq) (i:Nat),(∀t∈ts,kv t)→a≤i→i+(cP ts).length=s.size →
  zdZ dn (zbY o s ek) (pL i ts) (a:Int) (i:Int) true =
   if ((ts.map tkT).dropWhile jc).any pz then some (zx o s a (i+(cP (ts.takeWhile fun t=>jc (tkT t))).length)) else some 0
 |[],i,_,_,_=>hz _ _ _
 |t::ts,i,hok,hai,hsz=>by
  have d:∀x∈ts,kv x:=fun x hx=>hok x (ak _ hx)
  rw[mq,aa] at hsz
  have h:=KB hz he g (a:=a) ts (i+t.bs.length) d (by omega) (by omega)
  rw[pL,oH,EW o s ek (pT i t) _ _ _ _ (pi (hok t (ar ..)))]
  show aN (decide ((a:Int)<0)) _ _=_
  have hk:fT (pT i t).Broken (pT i t).Rune=kT (tkT t):=uf t
  rw[hk,xf,zw,vk,av,aW,cD]
  refine fC ?_
  cases hb:jc (tkT t) with
  |true=>
   refine bS (by rw[show (ej (tkT t)||iQ (tkT t))=true from hb];rfl) (zdG ⟨?_,?_⟩ ?_)
   ·show (-9223372036854775808:Int)≤(i:Int)+(t.bs.length:Int);omega
   ·show (i:Int)+(t.bs.length:Int)≤(9223372036854775807:Int);omega
   ·simp only[if_true]
    rw[mq,aa,←fN]
    have e:(pT i t).At+(pT i t).Width=((i+t.bs.length:Nat):Int):=by show (i:Int)+(t.bs.length:Int)=_;push_cast;rfl
    rw[e]
    exact h
  |false=>
   refine bM (by rw[show (ej (tkT t)||iQ (tkT t))=false from hb];rfl) ?_
   simp only[bj,if_false]
   rw[show cP []=([]:List UInt8) from rfl,aL,Nat.add_zero,jl]
   have f:ej (tkT t)=false:=by
    have:(ej (tkT t)||iQ (tkT t))=false:=hb
    revert this;cases ej (tkT t)<;>simp
   cases hd:fE (tkT t) with
   |true=>
    refine bS (by rw[f];rfl) (gO ?_)
    have:(pz (tkT t)||(ts.map tkT).any pz)=true:=by rw[show pz (tkT t)=true by unfold pz;rw[hd,Bool.or_true]];rfl
    rw[this,am rfl]
    refine aY (Bu _ (by have:=Ks s (a:Int) (i:Int);omega)) ?_
    unfold zx
    show aN ((dB o).s (iU (cO s (a:Int) (i:Int)))) _ _=_
    cases j:(dB o).s (iU (cO s (a:Int) (i:Int))) with
    |true=>exact bS rfl (by rw[he,am rfl])
    |false=>exact bM rfl (by rw[he];rfl)
   |false=>
    refine bM (by rw[f];rfl) ?_
    rw[show pz (tkT t)=false by unfold pz;rw[hd,f];rfl,dp]
    exact KA hz he g hai (by omega) ts _ d
def zy (o:mu) (l:List Tk):Bool:=(rk l).any (fun x=>ej x||fE x)&&o.s (iU (iD (nN l)))
def BI (l:List Tk):Nat:=(l.takeWhile fun x=>!ej x).length+(nN l).length
theorem SK (o:mu) (l:List Tk):rl o l=if zy o l then BI l else 0:=rfl
theorem KC (hz:∀a b c,dn a b c=some 0) (he:∀v a b,ek v a b=some v) (h:s.size≤65536):∀ (ts A:List dq),(∀t∈ts,kv t)→s.data.toList=cP (A++ts) →
  zdZ dn (zbY o s ek) (pL (cP A).length ts) (-1) 0 true=some (if zy (dB o) (ts.map tkT) then (((cP A).length+(cP (ts.take (BI (ts.map tkT)))).length:Nat):Int) else 0)
 |[],A,_,_=>by
  rw[pL,CJ,hz];rfl
 |t::ts,A,hok,hsz=>by
  have d:∀x∈ts,kv x:=fun x hx=>hok x (ak _ hx)
  have j:(cP A).length+(t.bs.length+(cP ts).length)=s.size:=by rw[gJ,hsz,mr,mq,aa,aa]
  rw[pL,oH,EW o s ek (pT _ t) _ _ _ _ (pi (hok t (ar ..)))]
  have hk:∀i,fT (pT i t).Broken (pT i t).Rune=kT (tkT t):=fun _=>uf t
  rw[hk,xf,zw,vk]
  refine bS (by decide) ?_
  cases f:ej (tkT t) with
  |true=>
   refine bS rfl (zdG ⟨?_,?_⟩ ?_)
   ·show (-9223372036854775808:Int)≤((cP A).length:Int)+(t.bs.length:Int);omega
   ·show ((cP A).length:Int)+(t.bs.length:Int)≤(9223372036854775807:Int);omega
   ·have e:(pT (cP A).length t).At+(pT (cP A).length t).Width=(((cP A).length+t.bs.length:Nat):Int):=by show ((cP A).length:Int)+(t.bs.length:Int)=_;push_cast;rfl
    rw[e]
    refine (KB (o:=o) (ek:=ek) hz he h (a:=(cP A).length) ts ((cP A).length+t.bs.length) d (by omega) (by omega)).trans ?_
    have hd:((t::ts).map tkT).dropWhile (fun x=>!ej x)=tkT t::ts.map tkT:=by rw[av,cD,f];rfl
    have ht:((t::ts).map tkT).takeWhile (fun x=>!ej x)=[]:=by rw[av,aW,f];rfl
    have hm:jc (tkT t)=true:=by unfold jc;rw[f];rfl
    have e1:rk ((t::ts).map tkT)=(ts.map tkT).dropWhile jc:=by unfold rk;rw[hd,cD,hm];rfl
    have e2:nN ((t::ts).map tkT)=((t::ts).takeWhile fun t=>jc (tkT t)).map tkT:=by
     unfold nN;rw[hd,←av,sw];rfl
    have g:(t::ts).takeWhile (fun t=>jc (tkT t))=t::ts.takeWhile fun t=>jc (tkT t):=by rw[aW,hm];rfl
    unfold zy BI
    rw[e1,e2,ht]
    have hB:∀W:List dq,W=ts.takeWhile (fun t=>jc (tkT t))→cO s (((cP A).length:Nat):Int) ((((cP A).length+t.bs.length)+(cP W).length:Nat):Int)=iD (((t::ts).takeWhile fun t=>jc (tkT t)).map tkT):=by
     intro W hW
     rw[g,←hW]
     refine EX (A:=A) (W:=t::W) (Z:=ts.dropWhile fun t=>jc (tkT t)) ?_ rfl (by rw[mq,aa];omega)
     rw[hsz,aX,hW,dS]
    cases k:((ts.map tkT).dropWhile jc).any pz with
    |false=>rfl
    |true=>
     rw[am rfl,fG]
     unfold zx
     rw[hB _ rfl]
     cases l:(dB o).s (iU (iD (((t::ts).takeWhile fun t=>jc (tkT t)).map tkT))) with
     |false=>rfl
     |true=>
      rw[am rfl,am rfl,aL,Nat.zero_add,az]
      rw[g,ab,dY,mq,aa,Kz,fN]
  |false=>
   refine bM rfl ?_
   have e:(cP A).length+t.bs.length=(cP (A++[t])).length:=by rw[mr,aa];simp[cP]
   rw[e]
   refine (KC hz he h ts (A++[t]) d (by rw[hsz,aA];rfl)).trans ?_
   have e1:rk ((t::ts).map tkT)=rk (ts.map tkT):=by unfold rk;rw[av,cD,f];rfl
   have e2:nN ((t::ts).map tkT)=nN (ts.map tkT):=by unfold nN;rw[av,cD,f];rfl
   have g:(((t::ts).map tkT).takeWhile fun x=>!ej x).length=((ts.map tkT).takeWhile fun x=>!ej x).length+1:=by rw[av,aW,f];rfl
   unfold zy BI
   rw[e1,e2,g,show ((ts.map tkT).takeWhile fun x=>!ej x).length+1+(nN (ts.map tkT)).length=(((ts.map tkT).takeWhile fun x=>!ej x).length+(nN (ts.map tkT)).length)+1 by omega,dY,mq,aa,←e,fN]
end
theorem SL (o:cw) (s:ad) (b:s.size≤65536):zr o s=some ((cP ((eU s.data.toList).take (rl (dB o) ((eU s.data.toList).map tkT)))).length:Int):=by
 unfold zr
 refine cB (aY (a:=s) rfl (aY (za s (by omega)) (cB (cB ?_))))
 rw[xe]
 refine (KC (o:=o) (s:=s) (fun _ _ _=>rfl) (fun _ _ _=>rfl) b (eU s.data.toList) [] (pP _) (by rw[bg,tP])).trans ?_
 rw[SK]
 cases zy (dB o) ((eU s.data.toList).map tkT) with
 |true=>simp[cP]
 |false=>simp[cP]
theorem SM:∀n:Fin 256,Am .u8 ((n.val:Nat):Int) 63=((n.val % 64:Nat):Int):=by decide +kernel
theorem SN:∀n:Fin 64,lL .u8 ((n.val:Nat):Int) 128=((n.val+128:Nat):Int):=by decide +kernel
theorem SO:∀n:Fin 32,lL .u8 192 ((n.val:Nat):Int)=((n.val+192:Nat):Int):=by decide +kernel
theorem SP:∀n:Fin 16,lL .u8 224 ((n.val:Nat):Int)=((n.val+224:Nat):Int):=by decide +kernel
theorem SQ:∀n:Fin 8,lL .u8 240 ((n.val:Nat):Int)=((n.val+240:Nat):Int):=by decide +kernel
theorem xh (n:Nat):IntKind.u8.wrap (n:Int)=((n % 256:Nat):Int):=by
 simp[IntKind.wrap,IntKind.bits,IntKind.signed]
theorem xi (n:Nat):oO (n:Int)=some ((n % 64+128:Nat):Int):=by
 unfold oO
 rw[xh]
 have h1:=SM ⟨n % 256,by omega⟩
 simp only at h1
 rw[h1]
 have h2:=SN ⟨n % 256 % 64,by omega⟩
 simp only at h2
 rw[h2,show n % 256 % 64=n % 64 by omega]
theorem EY (n:Nat):fh .i32 (n:Int) 6=((n / 64:Nat):Int):=by
 show Int.fdiv (n:Int) 64=_
 rw[fL _ (by decide)];omega
theorem KD (n:Nat):fh .i32 (n:Int) 12=((n / 4096:Nat):Int):=by
 show Int.fdiv (n:Int) 4096=_
 rw[fL _ (by decide)];omega
theorem SR (n:Nat):fh .i32 (n:Int) 18=((n / 262144:Nat):Int):=by
 show Int.fdiv (n:Int) 262144=_
 rw[fL _ (by decide)];omega
theorem KE (n:Nat) (hv:n<55296∨(57343<n∧n≤1114111)):(aN (decide (((n:Int):Int)<128)) (aV (∀x∈([IntKind.u8.wrap (n:Int)]:List Int),U8 x)<|some (gj ([IntKind.u8.wrap (n:Int)]:List Int)))
  (aN (decide (((n:Int):Int)<2048)) (aT (oO (n:Int)) fun (i:Int)=>aV (∀x∈([lL .u8 192 (IntKind.u8.wrap (fh .i32 (n:Int) 6)),i]:List Int),U8 x)<|some (gj ([lL .u8 192 (IntKind.u8.wrap (fh .i32 (n:Int) 6)),i]:List Int)))
  (aN (decide (((n:Int):Int)<65536)) (aT (oO (fh .i32 (n:Int) 6)) fun (g:Int)=>aT (oO (n:Int)) fun (f:Int)=>aV (∀x∈([lL .u8 224 (IntKind.u8.wrap (fh .i32 (n:Int) 12)),g,f]:List Int),U8 x)<|some (gj ([lL .u8 224 (IntKind.u8.wrap (fh .i32 (n:Int) 12)),g,f]:List Int)))
  (aT (oO (fh .i32 (n:Int) 12)) fun (d:Int)=>aT (oO (fh .i32 (n:Int) 6)) fun (c:Int)=>aT (oO (n:Int)) fun (b:Int)=>aV (∀x∈([lL .u8 240 (IntKind.u8.wrap (fh .i32 (n:Int) 18)),d,c,b]:List Int),U8 x)<|some (gj ([lL .u8 240 (IntKind.u8.wrap (fh .i32 (n:Int) 18)),d,c,b]:List Int))))))=some (ae (n:Int)):=by
 have a:encodeRune (n:Int)=(encodeRuneZ (n:Int)).map fun x=>x.toNat.toUInt8:=rfl
 rcases DJ n hv with⟨h,e⟩|⟨h,h',e⟩|⟨h,h',e⟩|⟨h,h',e⟩
 ·refine eR ?_
  rw[xh]
  refine zdG (by intro x hx;simp only[bO] at hx;subst hx;exact⟨by omega,by omega⟩) (aM some (tV ?_))
  rw[nF,a,e,show n % 256=n by omega]
 ·refine fC (eR (aY (xi n) ?_))
  have h1:=SO ⟨n / 64,by omega⟩
  simp only at h1
  rw[EY,xh,show n / 64 % 256=n / 64 by omega,h1]
  refine zdG (by intro x hx;simp only[bo,dm,or_false] at hx;rcases hx with rfl | rfl<;>exact⟨by omega,by omega⟩) (aM some (tV ?_))
  rw[nF,a,e,show ((n / 64+192:Nat):Int)=192+(n:Int) / 64 by omega,show ((n % 64+128:Nat):Int)=128+(n:Int) % 64 by omega]
 ·refine fC (fC (eR ?_))
  have h1:=SP ⟨n / 4096,by omega⟩
  simp only at h1
  rw[EY,KD,xh,show n / 4096 % 256=n / 4096 by omega,h1]
  refine aY (xi _) (aY (xi _) ?_)
  refine zdG (by intro x hx;simp only[bo,dm,or_false] at hx;rcases hx with rfl | rfl | rfl<;>exact⟨by omega,by omega⟩) (aM some (tV ?_))
  rw[nF,a,e,show ((n / 4096+224:Nat):Int)=224+(n:Int) / 4096 by omega,show ((n / 64 % 64+128:Nat):Int)=128+(n:Int) / 64 % 64 by omega,show ((n % 64+128:Nat):Int)=128+(n:Int) % 64 by omega]
 ·refine fC (fC (fC ?_))
  have h1:=SQ ⟨n / 262144,by omega⟩
  simp only at h1
  rw[EY,KD,SR,xh,show n / 262144 % 256=n / 262144 by omega,h1]
  refine aY (xi _) (aY (xi _) (aY (xi _) ?_))
  refine zdG (by intro x hx;simp only[bo,dm,or_false] at hx;rcases hx with rfl | rfl | rfl | rfl<;>exact⟨by omega,by omega⟩) (aM some (tV ?_))
  rw[nF,a,e,show ((n / 262144+240:Nat):Int)=240+(n:Int) / 262144 by omega,show ((n / 4096 % 64+128:Nat):Int)=128+(n:Int) / 4096 % 64 by omega,show ((n / 64 % 64+128:Nat):Int)=128+(n:Int) / 64 % 64 by omega,show ((n % 64+128:Nat):Int)=128+(n:Int) % 64 by omega]
theorem KF {r:Int} (h:¬vr r):ae r=ae 65533:=by
 apply _root_.ByteArray.ext;apply fA.1
 rw[nF,nF]
 unfold encodeRune
 congr 1
 unfold vr at h
 unfold encodeRuneZ
 (repeat' split)<;>first | rfl | (exfalso;omega)
theorem SU (r:Int):y7 r=some (ae r):=by
 unfold y7
 refine cB ?_
 by_cases hv:vr r
 ·refine aY (I9 r hv) ?_
  have c:0<(ae r).size:=by rw[xN];exact (xO r).1
  refine bM (by rw[aC];omega) ?_
  obtain⟨n,rfl⟩:∃n:Nat,r=n:=⟨r.toNat,by unfold vr at hv;omega⟩
  exact KE n (by unfold vr at hv;omega)
 ·have b:r≠65533:=by intro e;subst e;exact hv (by unfold vr;omega)
  have d:ae r=(⟨#[239,191,189]⟩:ad):=by rw[KF hv];decide
  refine aY (a:=0) ?_ (bS rfl ?_)
  ·unfold va
   exact cB (bS (cQ.2 b) (bS (ax d) rfl))
  ·rw[KF hv];exact KE 65533 (by omega)
theorem SV (r:Int):zc r=some (iU (ae r)):=aY (SU r) (aY (Bu _ (by have:=nr r;omega)) rfl)
section
variable {R X A:Type} {xs:List X}
theorem KG {F:(A→Nat→Option R)→A→Nat→Option R} {bot:A→Nat→Option R} {f:A→X→A} {J:A→Option R} (Inv:Nat→A→Prop)
  (c:∀ag k x a,xs[k]?=some x→Inv k a→F ag a k=ag (f a x) (k+1)) (e:∀k x a,xs[k]?=some x→Inv k a→Inv (k+1) (f a x))
  (he:∀ag a,Inv xs.length a→F ag a xs.length=J a) {n:Nat} (d:xs.length<n) {a:A} (h0:Inv 0 a):zaC bot F n a 0=J (xs.foldl f a):=by
 have key:∀ (n k:Nat) (a:A),k≤xs.length→xs.length-k<n→Inv k a→zaC bot F n a k=J ((xs.drop k).foldl f a):=by
  intro n
  induction n with
  |zero=>intro k a _ h;omega
  |succ n b=>
   intro k a hk d hi
   rw[gk]
   by_cases h:k<xs.length
   ·have hx:xs[k]?=some xs[k]:=aJ h
    rw[c _ k _ a hx hi,aR h,bn]
    exact b (k+1) _ (by omega) (by omega) (e k _ a hx hi)
   ·have:k=xs.length:=by omega
    subst this
    rw[he _ a hi,List.drop_length];rfl
 have:=key n 0 a (bG _) (by omega) h0
 simpa using this
end
theorem BJ {α β:Type} (g:α→β):∀ (xs:List α) (a:List β),xs.foldl (fun a x=>a++[g x]) a=a++xs.map g
 |[],a=>by simp
 |x::xs,a=>by rw[bn,BJ g xs];simp
theorem EZ:∀ (n:Nat) (ts:List dq) (i:Nat),(pL i ts).take n=pL i (ts.take n)
 |0,ts,i=>rfl
 |n+1,[],i=>rfl
 |n+1,t::ts,i=>by rw[pL,dY,dY,pL,EZ n ts]
theorem KH {α:Type} (l:List α) (n:Nat):dK l 0 (n:Int)=l.take n:=by unfold dK;simp
theorem SW {α:Type} (l:List α) (n:Nat):l.take (min l.length n)=l.take n:=by
 rcases Nat.le_total l.length n with h|h
 ·rw[lH h,mN,ee h]
 ·rw[Nat.min_eq_right h]
def okB (x:Tk):Bool:=!decide (x.1<0)
theorem SX (t:dq):okB (tkT t)=!t.broken:=by
 unfold okB tkT
 cases t.broken with
 |true=>rfl
 |false=>
  have:¬(((t.r:Int),(⟨t.bs.toArray⟩:ad)).1<0):=by show ¬((t.r:Int)<0);omega
  rw[aj (by simp),al this]
def BK (b:Int) (k:Nat) (p:List ad):Option (Nat×List ad)→Prop
 |none=>b=0∧k=0∧p=[]
 |some (m,xs)=>b=(m:Int)∧0<m∧p=xs
theorem SY (o:cw) (D:List cY) (E:Int→Nat→List ad→Option (Int×List ad)) (i:Nat) (x:List dq) (P:x.length≤8) (hc:dK D 0 (min (D.length:Int) 8)=pL i x) (I:∀t∈x,kv t) :
  ∀ (n:Nat) (B A:List dq) (b:Int) (k:Nat) (p:List ad) (f:ad) (r:Option (Nat×List ad)),x=A++B→B.length<n→BK b k p r→f.size≤4*A.length →
   ∃w m l,BK w m l (((B.map tkT).takeWhile okB).foldl (py (dB o)) (f,A.length,r)).2.2∧zaC (fun _ _ _ _ _=>none) (zcT o D E) n b f k p (A.length:Int)=E w m l:=by
 intro n
 induction n with
 |zero=>intro B A b k p f r _ h;omega
 |succ n N=>
  intro B A b k p f r y O hr hf
  rw[gk]
  generalize L:zaC (fun _ _ _ _ _=>none) (zcT o D E) n=ag
  unfold zcT
  rw[hc]
  have e:(pL i x).length=A.length+B.length:=by rw[pY,y,aa]
  cases B with
  |nil=>
   refine⟨b,k,p,hr,bM (al (by rw[e];simp)) rfl⟩
  |cons t B=>
   have g:x[A.length]?=some t:=by rw[y];simp
   have hA:A.length<8:=by rw[y,aa,ab] at P;omega
   have j:=I t (by rw[y];simp)
   have M:x=(A++[t])++B:=by rw[y,aA];rfl
   have q:(A++[t]).length=A.length+1:=by simp
   have u:(A.length:Int)+1=((A++[t]).length:Int):=by rw[q];push_cast;rfl
   rw[av,aW,SX]
   cases hb:t.broken with
   |true=>
    refine⟨b,k,p,hr,bS (ax (by rw[e];simp;omega)) (cB (aY (gM (sZ _ _ _ _ g)) (bS hb rfl)))⟩
   |false=>
    simp only[cT,if_true,bn]
    have Q:=nr (cA (t.r:Int))
    have hx:(tkT t).1=(t.r:Int):=by unfold tkT;rw[hb];rfl
    have F:py (dB o) (f,A.length,r) (tkT t)=(f++ae (cA (t.r:Int)),A.length+1,if (zbP (f++ae (cA (t.r:Int))) o.place).isSome then some (A.length+1,[f++ae (cA (t.r:Int))]) else match zbP (f++ae (cA (t.r:Int))) o.fors with | some xs=>some (A.length+1,xs) | none=>r):=by
     unfold py;rw[hx];rfl
    rw[F]
    have K:(f++ae (cA (t.r:Int))).size≤4*(A++[t]).length:=by rw[aE,q];omega
    have J:B.length<n:=by rw[ab] at O;omega
    have v:∀ (w:Int) (m:Nat) (l:List ad) (C:Option (Nat×List ad)),BK w m l C→∃d c a,BK d c a (((B.map tkT).takeWhile okB).foldl (py (dB o)) (f++ae (cA (t.r:Int)),A.length+1,C)).2.2 ∧
      (aV (cr ((A.length:Int)+1))<|ag w (f++ae (cA (t.r:Int))) m l ((A.length:Int)+1))=E d c a:=by
     intro w m l C G
     obtain⟨d,c,a,h1,h2⟩:=N B (A++[t]) w m l _ C M J G K
     rw[q] at h1
     rw[←u,L] at h2
     exact⟨d,c,a,h1,gO h2⟩
    have z:cr ((A.length:Int)+1):=⟨by omega,by omega⟩
    cases hp:(zbP (f++ae (cA (t.r:Int))) o.place).isSome with
    |true=>
     obtain⟨d,c,a,h1,h2⟩:=v ((A.length:Int)+1) 1 [f++ae (cA (t.r:Int))] (some (A.length+1,[f++ae (cA (t.r:Int))])) ⟨by push_cast;rfl,by omega,rfl⟩
     refine⟨d,c,a,h1,bS (ax (by rw[e];simp;omega)) (cB (aY (gM (sZ _ _ _ _ g)) (bM hb (zdG (pi j) (zdG (by show f.size+(ae (cA (t.r:Int))).size≤_;omega) (bS hp (zdG z h2)))))))⟩
    |false=>
     simp only[bj,if_false]
     cases H:zbP (f++ae (cA (t.r:Int))) o.fors with
     |some xs=>
      obtain⟨d,c,a,h1,h2⟩:=v ((A.length:Int)+1) 2 xs (some (A.length+1,xs)) ⟨by push_cast;rfl,by omega,rfl⟩
      refine⟨d,c,a,h1,bS (ax (by rw[e];simp;omega)) (cB (aY (gM (sZ _ _ _ _ g)) (bM hb (zdG (pi j) (zdG (by show f.size+(ae (cA (t.r:Int))).size≤_;omega) (bM hp (bS (by show (zbP (f++ae (cA (t.r:Int))) o.fors).isSome=true;rw[H];rfl) (zdG z (aY H h2)))))))))⟩
     |none=>
      obtain⟨d,c,a,h1,h2⟩:=v b k p r hr
      refine⟨d,c,a,h1,bS (ax (by rw[e];simp;omega)) (cB (aY (gM (sZ _ _ _ _ g)) (bM hb (zdG (pi j) (zdG (by show f.size+(ae (cA (t.r:Int))).size≤_;omega) (bM hp (bM (by show (zbP (f++ae (cA (t.r:Int))) o.fors).isSome=false;rw[H];rfl) h2)))))))⟩
theorem zz (f:bf×List bf→ad):∀ {l:List (bf×List bf)},(∀c∈l,(f c).size≤4*(mG c).length)→(J f l).size≤4*(l.flatMap mG).length
 |[],_=>bG _
 |c::l,h=>by
  have:=zz f (l:=l) fun d hd=>h d (ak _ hd)
  have h1:=h c (ar ..)
  rw[jA,aE,aG,aa];omega
theorem SZ (s:ad):((kD s).flatMap mG).length≤3*s.size:=by
 have h1:=ua (apL (fV s))
 have h2:=uZ (fV s)
 have h3:=qz s
 have a:(fV s).length=(eQ s.data.toList).length:=by unfold fV;rw[az]
 show (lS (apL (fV s))).length≤_
 omega
theorem E0 (c:bf×List bf):(mG c).length=1+c.2.length:=by
 unfold mG;rw[ab,rT];omega
theorem s7 (s:ad) (d:s.size≤65536):(iU s).size≤12*s.size∧(gm s).size≤12*s.size∧(JC s).size≤12*s.size∧(zB7 s).size≤12*s.size:=by
 obtain⟨g,hc⟩:=tZ d
 have f:=SZ s
 refine⟨?_,?_,?_,?_⟩
 ·have:=zz pg (l:=kD s) (fun c a=>by have:=Ju (hc c a).1;have:=E0 c;show (mX c.1).Text.size≤_;omega)
  unfold iU;omega
 ·have:=zz pW (l:=kD s) (fun c a=>by
   obtain⟨h1,h2,_,e⟩:=hc c a
   have:=Ew (fun x:bf=>x.Text) 4 (l:=mG c) (fun x hx=>by
    unfold mG at hx
    rcases bo.1 hx with rfl|hx
    ·exact ub h1
    ·have b:x∈c.2:=by
      unfold loI hiI at hx
      rw[bY,cq,cq] at hx
      rcases hx with hx|hx<;>exact hx.1
     exact ub (h2 x b).2)
   unfold pW;omega)
  unfold gm;omega
 ·have:=zz (fun c:bf×List bf=>c.1.Text) (l:=kD s) (fun c a=>by have:=ub (hc c a).1;have:=E0 c;show c.1.Text.size≤_;omega)
  unfold JC;omega
 ·have:=zz pX (l:=kD s) (fun c a=>by
   obtain⟨h1,h2,_,e⟩:=hc c a
   have h:=zh c.2
   have h5:=rT c.2
   have i:=E0 c
   rw[aa] at h5
   unfold pX
   split
   ·have:=EG c.1.Rune ((loI c.2).map (·.Rune)) ((hiI c.2).map (·.Rune)) (by simp;omega) (by simp;omega)
    simp only[az] at this;omega
   ·have:=ub h1;omega)
  unfold zB7;omega
theorem S0 (r:ad) (hr:r.size≤1000) (J:List ad→Option (Int×List ad)):zaC (fun _ _=>none) (zcp J r) zbx [] 0=J ((eH r).map ae):=by
 have b:=qz r
 have:=KG (xs:=eQ r.data.toList) (F:=zcp J r) (bot:=fun _ _=>none) (f:=fun a (p:Pc)=>a++[ae (p.r:Int)]) (J:=J) (fun k a=>a.length=k) (fun ag k x a hx hi=>by
   have hk:=(au.1 hx).1
   unfold zcp
   exact bS (ax hk) (aY hx (gO rfl))) (fun k x a _ hi=>by simp[hi]) (fun ag a _=>by unfold zcp;exact fC rfl) (n:=zbx) (j0 (by omega)) (a:=[]) rfl
 refine this.trans ?_
 have e:(eQ r.data.toList).map (fun p=>ae (p.r:Int))=(eH r).map ae:=by
  unfold eH
  rw[cn]
  exact dw fun p _=>by rw[Function.comp_apply]
 rw[BJ,bg,e]
theorem S1 (o:cw) (i:Nat) (t:dq) (ts:List dq) (hb:t.broken=false) (d:∀x∈t::ts,kv x) (l:(t::ts).length≤1000000000) :
  zu o (pL i (t::ts))=some (((kG (dB o) (tkT t) (ts.map tkT)).1:Int),(kG (dB o) (tkT t) (ts.map tkT)).2):=by
 unfold zu
 have e:min ((pL i (t::ts)).length:Int) 8=((min (pL i (t::ts)).length 8:Nat):Int):=by omega
 have g:dK (pL i (t::ts)) 0 (min ((pL i (t::ts)).length:Int) 8)=pL i ((t::ts).take 8):=by rw[e,KH,SW,EZ]
 refine cB (zdG ⟨eN _,by omega,by omega⟩ ?_)
 have c:∀x∈(t::ts).take 8,kv x:=fun x hx=>d x (qK hx)
 have f:((t::ts).take 8).length≤8:=List.length_take_le _ _
 obtain⟨m,k,h,h1,h2⟩:=SY o (pL i (t::ts)) _ i ((t::ts).take 8) f g c zbx ((t::ts).take 8) [] 0 0 [] ⟨#[]⟩ none rfl (by unfold zbx;omega) ⟨rfl,rfl,rfl⟩ (by decide)
 refine h2.trans ?_
 have b:(((((t::ts).take 8).map tkT).takeWhile okB).foldl (py (dB o)) ((⟨#[]⟩:ad),([]:List dq).length,none)).2.2=ue (dB o) (tkT t::ts.map tkT):=by
  unfold ue vi
  rw[List.map_take];rfl
 rw[b] at h1
 unfold kG
 cases hB:ue (dB o) (tkT t::ts.map tkT) with
 |some j=>
  rw[hB] at h1
  obtain⟨rfl,h0,rfl⟩:=h1
  exact eR rfl
 |none=>
  rw[hB] at h1
  obtain⟨rfl,rfl,rfl⟩:=h1
  refine bM (by decide) (cB (zdG rfl (aY (a:=pT i t) rfl (zdG (pi (d t (ar ..))) ?_))))
  refine aY (SV (cA (t.r:Int))) ?_
  have hx:(tkT t).1=(t.r:Int):=by unfold tkT;rw[hb];rfl
  rw[S0 _ (by have h2:=nr (cA (t.r:Int));have h3:=(s7 (ae (cA (t.r:Int))) (by omega)).1;omega),hx,mg]
  unfold rY
  generalize (eH (iU (ae (cA (t.r:Int))))).map ae=X
  rfl
theorem KI {r:Int} (h:cZ r=true):∃b,cZ b=true∧zbP b tabS=none∧rY r=(eH (kE (cA b))).map ae:=by
 have hL:cZ (cA r)=true:=by
  have h1:=mV r h
  have key:((eW 1120).all fun n=>!cZ (n:Int)||cZ (cA (n:Int)))=true:=by decide +kernel
  have:=bd.1 key r.toNat (kL.2 (by omega))
  rw[show ((r.toNat:Nat):Int)=r by omega,h] at this
  simpa using this
 obtain⟨b,a,hp,hb,c,hm,_⟩:=tW hL
 refine⟨b,hb,c,?_⟩
 unfold rY
 have e:ae (cA r)=jg [cA r]:=by rw[rj,jA,ri,bx]
 rw[e,RN (by intro x hx;rw[bO.1 hx];exact uc hL),aG,mO,aH,hp,av,wU (by exact hb)]
 have h1:(a.map jt).takeWhile isM=a.map jt:=EQ (fun x hx=>by obtain⟨y,hy,rfl⟩:=aU.1 hx;exact hm y hy)
 have h2:(a.map jt).dropWhile isM=[]:=ER (fun x hx=>by obtain⟨y,hy,rfl⟩:=aU.1 hx;exact hm y hy)
 rw[h1,h2,Ei,jA,ri,bx,J4 (by exact hb)]
 rfl
theorem S2 {r:Int} (h:cZ r=true):rY r≠[]∧(rY r).length≤4:=by
 obtain⟨b,hb,a,e⟩:=KI h
 rw[e]
 have h1:=(JV hb).2.1
 have h2:=Ez (cA b)
 have h3:=qz (kE (cA b))
 refine⟨by simpa using h1,?_⟩
 rw[az]
 unfold eH
 rw[az];omega
def ug (o:mu):Prop:=∀u xs,o.f u=some xs→xs≠[]∧xs.length≤4
theorem KJ (o:mu) (c:ug o):∀ (l:List Tk) (a:ad×Nat×Option (Nat×List ad)),(∀m xs,a.2.2=some (m,xs)→1≤m∧m≤a.2.1∧xs≠[]∧xs.length≤4) →
  (l.foldl (py o) a).2.1=a.2.1+l.length∧∀m xs,(l.foldl (py o) a).2.2=some (m,xs)→1≤m∧m≤a.2.1+l.length∧xs≠[]∧xs.length≤4
 |[],a,h=>⟨rfl,h⟩
 |x::l,a,h=>by
  rw[bn,ab]
  have b:(py o a x).2.1=a.2.1+1:=rfl
  obtain⟨h1,h2⟩:=KJ o c l (py o a x) (by
   intro m xs hm
   rw[b]
   unfold py at hm
   simp only at hm
   split at hm
   ·injection hm with hm;injection hm with e1 e2;subst e1;subst e2;exact⟨by omega,by omega,by simp,by simp⟩
   ·split at hm
    ·rename_i ys hy
     injection hm with hm;injection hm with e1 e2;subst e1;subst e2
     have:=c _ _ hy
     exact⟨by omega,by omega,this.1,this.2⟩
    ·have:=h m xs hm
     exact⟨this.1,by omega,this.2.2⟩)
  rw[b] at h1 h2
  exact⟨by omega,fun m xs hm=>by have:=h2 m xs hm;exact⟨this.1,by omega,this.2.2⟩⟩
theorem E2 (o:mu) (b:ug o) (x:Tk) (l:List Tk) (hx:cZ x.1=true):1≤(kG o x l).1∧(kG o x l).1≤(x::l).length∧(kG o x l).2≠[]∧(kG o x l).2.length≤4:=by
 unfold kG
 cases hb:ue o (x::l) with
 |none=>
  have:=S2 hx
  rw[mg]
  generalize rY x.1=X at this
  exact⟨bq 1,by rw[ab];omega,this.1,this.2⟩
 |some a=>
  obtain⟨m,xs⟩:=a
  unfold ue at hb
  have:=(KJ o b (vi (x::l)) (ac,0,none) (by intro m xs h;cases h)).2 m xs hb
  have c:(vi (x::l)).length≤(x::l).length:=by
   unfold vi
   exact Nat.le_trans (dt _).length_le (List.take_sublist _ _).length_le
  have h0:=this.2.1
  rw[fi]
  have e0:((ac,0,none):ad×Nat×Option (Nat×List ad)).2.1=0:=rfl
  rw[e0] at h0
  exact⟨this.1,by omega,this.2.2.1,this.2.2.2⟩
theorem KK (m:ad):∀l:List El,(ph m l).length=l.length
 |[]=>rfl
 |[e]=>rfl
 |e::a::es=>by rw[ph,ab,KK m (a::es)];rfl
theorem E3 (m:ad):∀ (l:List El) (e:El),ph m (l++[e])=l++[⟨e.sort,e.place,e.digits,m,e.great⟩]
 |[],e=>rfl
 |[a],e=>rfl
 |a::b::l,e=>by
  have:=E3 m (b::l) e
  simp only[aX] at this ⊢
  rw[ph,this]
theorem S3 {a:List El} (h:a≠[]) (cs:List (Option (List El))) (out:List El) (sp:Bool):mZ (some a::cs) out sp=mZ cs (out++(if sp&&!out.isEmpty then [lT] else [])++a) false:=by
 cases a with
 |nil=>exact absurd rfl h
 |cons e b=>rfl
def jj (sp:Bool) (out:List El):List El:=if sp&&!out.isEmpty then [lT] else []
theorem zA (sp:Bool) (out:List El):(jj sp out).length≤1:=by unfold jj;split<;>simp
theorem E4 (e:El) (sp:Bool) (out:List El) (h:out.length≤2000000000):vh e sp out=some (false,out++jj sp out++[e]):=by
 unfold vh
 refine cB ?_
 have b:∀l:List El,l.length≤2000000001→(aV (l.length+1≤2147483648)<|some (false,l++[e]))=some (false,l++[e]):=fun l c=>gO rfl
 cases sp with
 |false=>
  refine bM rfl ((b out (by omega)).trans ?_)
  unfold jj
  simp
 |true=>
  refine bS rfl ?_
  cases out with
  |nil=>exact bM rfl (b [] (by simp))
  |cons a out=>
   refine bS (ax (by rw[ab];omega)) (gO ((b _ (by rw[aa];simp only[ab,aL] at h ⊢;omega)).trans ?_))
   rfl
theorem S4 (d:List cY) (c:Int×List ad) (J:Int→Option (List El)) (b:List dq) (i:Nat) (hc:dK d 0 c.1=pL i b) (e:∀t∈b,kv t) (hb:b.length≤1000000000) (l:∀t∈b,great (tkT t).1=great (t.r:Int)) :
  zaC (fun _ _=>none) (zb5 d c J) zbx 0 0=J (qB (b.map tkT)):=by
 have hm:∀ (k:Nat) (x:cY),(pL i b)[k]?=some x→fB x.Rune∧k<b.length:=fun k x hx=>by
  have hk:=(au.1 hx).1
  rw[pY] at hk
  have:=sZ b i k b[k] (aJ hk)
  rw[this] at hx
  injection hx with hx
  subst hx
  exact⟨pi (e _ (mR _)),hk⟩
 have:=px (xs:=pL i b) (F:=zb5 d c J) (bot:=fun _ _=>none) (f:=fun (g:Int) (p:cY)=>if great p.Rune then 1 else g) (J:=J) (fun _ _=>True) (fun ag k x a hx hi=>by
   obtain⟨h1,h2⟩:=hm k x hx
   unfold zb5
   rw[hc]
   refine bS (lR hx) (cB (aY (kO hx) (zdG h1 ?_)))
   cases hg:great x.Rune with
   |true=>exact bS rfl (zdG (ja (by omega)) rfl)
   |false=>exact bM rfl (zdG (ja (by omega)) rfl)) (fun _ _ _ _ _=>trivial) (fun ag a _=>by unfold zb5;rw[hc];exact bM lC rfl) (n:=zbx) (by rw[pY];exact j0 (by omega)) (a:=0) trivial
 refine this.trans (aM J ?_)
 clear this hm
 have key:∀ (b:List dq) (i:Nat) (g:Int),(∀t∈b,great (tkT t).1=great (t.r:Int))→(pL i b).foldl (fun (g:Int) (p:cY)=>if great p.Rune then 1 else g) g=if (b.map tkT).any (fun x=>great x.1) then 1 else g:=by
  intro b
  induction b with
  |nil=>intro i g _;rfl
  |cons t b j=>
   intro i g h
   rw[pL,bn,j _ _ (fun x hx=>h x (ak _ hx)),av,jl,h t (ar ..)]
   show (if _ then (1:Int) else if great (t.r:Int) then 1 else g)=_
   cases great (t.r:Int)<;>cases (b.map tkT).any (fun x=>great x.1)<;>rfl
 exact key b i 0 l
theorem S5 {t:dq} (h:iQ (tkT t)=true):(tkT t).1=(t.r:Int)∧t.broken=false:=by
 unfold iQ tkT at h
 unfold tkT
 cases hb:t.broken with
 |true=>rw[hb,am rfl] at h;exact absurd h (show ¬fc (-1)=true by decide)
 |false=>exact⟨rfl,rfl⟩
theorem S6 (i:Nat) (e:List dq) (J:Int→ad→Option (List El)) (j:∀t∈e,kv t) (q:e.length≤1000000000):∀ (n:Nat) (B A:List dq) (m:ad),e=A++B→B.length<n→m.size≤4*A.length →
  zaC (fun _ _=>none) (zci (pL i e) J) n (A.length:Int) m=J ((A.length:Int)+(((B.map tkT).takeWhile iQ).length:Nat)) (m++mv ((B.map tkT).takeWhile iQ)):=by
 intro n
 induction n with
 |zero=>intro B A m _ h;omega
 |succ n l=>
  intro B A m g p hm
  rw[gk]
  generalize k:zaC (fun _ _=>none) (zci (pL i e) J) n=ag
  unfold zci
  have c:(pL i e).length=A.length+B.length:=by rw[pY,g,aa]
  cases B with
  |nil=>
   refine bM (al (by rw[c];simp)) ?_
   show J _ m=J _ (m++ac)
   rw[bx];simp
  |cons t B=>
   have d:e[A.length]?=some t:=by rw[g];simp
   have f:=j t (by rw[g];simp)
   have hA:A.length≤1000000000:=by rw[g,aa] at q;omega
   refine bS (ax (by rw[c];simp;omega)) (aY (gM (sZ _ _ _ _ d)) (aY (a:=iQ (tkT t)) ?_ ?_))
   ·unfold vg
    refine zdG (pi f) ?_
    show some ((fT t.broken (t.r:Int):Int)==2)=_
    rw[uf,zw]
   ·rw[av,aW]
    cases hk:iQ (tkT t) with
    |false=>
     refine bM rfl ?_
     show J _ m=J _ (m++ac)
     rw[bx];simp
    |true=>
     have u:=nr (t.r:Int)
     refine bS rfl (aY (gM (sZ _ _ _ _ d)) (zdG (by show m.size+(ae (t.r:Int)).size≤_;omega) (gO ?_)))
     have:=l B (A++[t]) (m++ae (t.r:Int)) (by rw[g,aA];rfl) (by rw[ab] at p;omega) (by rw[aE,aa];simp;omega)
     rw[k] at this
     have b:(A.length:Int)+1=((A++[t]).length:Int):=by simp
     rw[b]
     refine this.trans ?_
     simp only[if_true]
     unfold mv
     rw[jA,(S5 hk).1,de,ab,←b]
     congr 1
     push_cast;omega
theorem S7 (o:cw) (b:Int×List ad) (g:Int) (J:List El→Bool→Option (List El)) (h:b.2.length≤4) (out:List El) (sp:Bool) (d:out.length≤1999999000) :
  zaC (fun _ _ _=>none) (zbZ o b g J) zbx out sp 0=if b.2=[] then J out sp else J (out++jj sp out++b.2.map (iE (dB o) g)) false:=by
 have:=IB (xs:=b.2) (F:=zbZ o b g J) (bot:=fun _ _ _=>none) (f:=fun (a:List El×Bool) u=>(a.1++jj a.2 a.1++[iE (dB o) g u],false)) (J:=J) (fun k a=>a.1.length≤1999999000+2*k) (fun ag k x a hx hi=>by
   have hk:=oc hx
   unfold zbZ
   exact bS (lR hx) (aY (kO hx) (aY (E4 _ a.2 a.1 (by omega)) (zdG (ja (by omega)) rfl)))) (fun k x a _ hi=>by
    have:=zA a.2 a.1
    simp only[aa,ab,aL];omega) (fun ag a _=>by unfold zbZ;exact bM lC rfl) (n:=zbx) (j0 (by omega)) (a:=(out,sp)) (by simpa using d)
 refine this.trans ?_
 have e:∀l:List El,jj false l=[]:=fun _=>rfl
 have key:∀ (us:List ad) (l:List El),us.foldl (fun (a:List El×Bool) u=>(a.1++jj a.2 a.1++[iE (dB o) g u],false)) (l,false)=(l++us.map (iE (dB o) g),false):=by
  intro us
  induction us with
  |nil=>intro l;simp
  |cons u us c=>intro l;rw[bn];simp only[e,aH];rw[c];simp
 cases hr:b.2 with
 |nil=>rw[am rfl];rfl
 |cons u us=>
  rw[aj (by simp),bn,key]
  simp
theorem KL {t:dq} (h:0≤(tkT t).1):(tkT t).1=(t.r:Int)∧t.broken=false:=by
 unfold tkT at h ⊢
 cases hb:t.broken with
 |true=>rw[hb,am rfl] at h;exact absurd h (by omega)
 |false=>exact⟨rfl,rfl⟩
theorem KM {t:dq} (a:kv t) (h:fE (tkT t)=true):t.bs.length=1:=by
 have h:=of_decide_eq_true h
 obtain⟨h1,h2⟩:=KL (t:=t) (by omega)
 rcases a with hv|hb
 ·obtain⟨_,b⟩:=hv
  rw[h1] at h
  rw[b,←xN]
  have key:((eW 58).all fun n=>decide ((ae (n:Int)).size=1))=true:=by decide +kernel
  exact of_decide_eq_true (bd.1 key t.r (kL.2 (by omega)))
 ·rw[hb] at h2;cases h2
theorem S8 (i:Nat) (c:List dq) (J:Int→Option (List El)) (g:∀t∈c,kv t) (m:c.length≤1000000000):∀ (n:Nat) (B A:List dq),c=A++B→B.length<n →
  zaC (fun _=>none) (zch (pL i c) J) n (A.length:Int)=J ((A.length:Int)+(((B.map tkT).takeWhile fE).length:Nat)):=by
 intro n
 induction n with
 |zero=>intro B A _ h;omega
 |succ n k=>
  intro B A f l
  rw[gk]
  generalize j:zaC (fun _=>none) (zch (pL i c) J) n=ag
  unfold zch
  have b:(pL i c).length=A.length+B.length:=by rw[pY,f,aa]
  cases B with
  |nil=>
   refine bM (al (by rw[b];simp)) ?_
   show J _=J _
   congr 1
  |cons t B=>
   have e:c[A.length]?=some t:=by rw[f];simp
   have d:=g t (by rw[f];simp)
   have hA:A.length≤1000000000:=by rw[f,aa] at m;omega
   refine bS (ax (by rw[b];simp;omega)) (aY (gM (sZ _ _ _ _ e)) (zdG (pi d) ?_))
   have hk:∀i,fT (pT i t).Broken (pT i t).Rune=kT (tkT t):=fun _=>uf t
   rw[hk,vk,av,aW]
   cases hd:fE (tkT t) with
   |false=>
    refine bM rfl ?_
    congr 1
   |true=>
    refine bS rfl (gO ?_)
    have:=k B (A++[t]) (by rw[f,aA];rfl) (by rw[ab] at l;omega)
    rw[j] at this
    have a:(A.length:Int)+1=((A++[t]).length:Int):=by simp
    rw[a]
    refine this.trans ?_
    simp only[if_true]
    rw[ab,←a]
    congr 1
    push_cast;omega
theorem S9 (J:ad→Option (List El)):∀ (n:Nat) (d:ad),d.size<n→d.size≤1000000000→zaC (fun _=>none) (zcg J) n d=J ⟨(sY d.data.toList).toArray⟩:=by
 intro n
 induction n with
 |zero=>intro d h;omega
 |succ n e=>
  intro d g hb
  rw[gk]
  generalize b:zaC (fun _=>none) (zcg J) n=ag
  unfold zcg
  cases hd:d.data.toList with
  |nil=>
   have h0:d.size=0:=by rw[gJ,hd];rfl
   refine fC ?_
   have:d=⟨([]:List UInt8).toArray⟩:=ow (by rw[hd])
   rw[this];rfl
  |cons c l=>
   have h0:d.size=l.length+1:=by rw[gJ,hd];rfl
   have hg:jQ d 0=some (c.toNat:Int):=by
    unfold jQ
    rw[am (eN 0)]
    have:d.data[(0:Int).toNat]?=some c:=by
     rw[←kl,hd];rfl
    rw[this];rfl
   refine eR (aY hg ?_)
   unfold sY
   rw[cD]
   have hc:(((c.toNat:Int):Int)==48)=(c==48):=by
    rw[dJ,beq_iff_eq,beq_iff_eq]
    constructor
    ·intro h;exact dZ.1 (by show c.toNat=48;omega)
    ·intro h;subst h;rfl
   rw[hc]
   cases hz:(c==48) with
   |false=>
    refine bM rfl ?_
    simp only[bj,if_false]
    rw[←hd]
   |true=>
    refine bS rfl (gO ?_)
    have a:(cO d 1 (d.size:Int)).data.toList=l:=by
     have:=s6 d 1 d.size
     rw[hd,kZ,List.drop_zero,h0,Nat.add_sub_cancel,mN] at this
     rw[h0];exact this
    have f:(cO d 1 (d.size:Int)).size=l.length:=by rw[gJ,a]
    have:=e (cO d 1 (d.size:Int)) (by omega) (by omega)
    rw[b] at this
    rw[this,a]
    rfl
theorem zB (x:Tk):(kT x=1↔ej x=true)∧(kT x=3↔fE x=true):=by
 constructor
 ·rw[←xf,beq_iff_eq]
 ·rw[←vk,beq_iff_eq]
theorem KN {t:dq} (h:ej (tkT t)=true):(tkT t).1=(t.r:Int)∧t.broken=false∧cZ (t.r:Int)=true:=by
 have h':cZ (tkT t).1=true:=h
 have:=mV _ h'
 obtain⟨h1,h2⟩:=KL (t:=t) (by omega)
 rw[h1] at h'
 exact⟨h1,h2,h'⟩
theorem Ta (t:dq):great (tkT t).1=great (t.r:Int):=by
 unfold tkT
 cases hb:t.broken with
 |true=>
  rw[am rfl]
  have:t.r=65533:=by unfold tv at hb;simp at hb;exact hb.1
  rw[this];show great (-1)=great ((65533:Nat):Int);decide
 |false=>rfl
theorem Tb {S:ad} {A ts:List dq} {t:dq} (a:kv t) (h:S.data.toList=cP (A++t::ts)):jQ S ((cP A).length:Int)=some (kP (tkT t).2):=by
 have b:=AY a
 cases hb:t.bs with
 |nil=>exact absurd hb b
 |cons c l=>
  unfold jQ
  rw[am (by omega),bz]
  have h1:S.data.toList[(cP A).length]?=some c:=by
   rw[h,mr,mq,hb];simp
  have h2:S.data[(cP A).length]?=some c:=by rw[←kl];exact h1
  rw[h2]
  unfold kP tkT
  rw[hb];rfl
theorem E5 {α:Type} (l:List α) (c:Nat):dK l (c:Int) (l.length:Int)=l.drop c:=by
 unfold dK
 rw[bz,bz,ee (by rw[aS];exact bq _)]
theorem Tc {x:Tk} (h:ej x=true):kT x=1:=(zB x).1.2 h
set_option maxHeartbeats 1000000 in
theorem Td (o:cw) (ho:ug (dB o)) (r1:ad) (r2:Int) (S:ad) (hS:cO r1 r2 (r1.size:Int)=S) (b5:S.size≤1000000000) (J:List El→Option (List El)) :
  ∀ (n:Nat) (ts A:List dq) (out:List El) (sp:Bool) (m:Nat),S.data.toList=cP (A++ts)→(∀t∈ts,kv t)→ts.length<n→ts.length≤m→out.length+6*ts.length≤1999999000 →
   zaC (fun _ _ _=>none) (zcj o J r1 r2) n out sp (pL (cP A).length ts)=J (mZ (mY (dB o) m (ts.map tkT)) out sp):=by
 intro n
 induction n with
 |zero=>intro ts A out sp m _ _ h;omega
 |succ n ih=>
  intro ts A out sp m hd e hn hm hb
  rw[gk]
  generalize a5:zaC (fun _ _ _=>none) (zcj o J r1 r2) n=ag
  unfold zcj
  rw[hS]
  cases ts with
  |nil=>
   refine bM (al (by rw[pY];simp)) ?_
   cases m<;>rfl
  |cons t ts=>
   obtain⟨m,rfl⟩:∃k,m=k+1:=⟨m-1,by rw[ab] at hm;omega⟩
   have ht:=e t (ar ..)
   have a3:(cP A).length+(t.bs.length+(cP ts).length)=S.size:=by rw[gJ,hd,mr,mq,aa,aa]
   have w:(t::ts).length≤1000000000:=by omega
   have r:∀ (c:Nat) (Q:Option (List El)) (d:List El) (v:Bool),1≤c→c≤(t::ts).length→lD (dB o) (tkT t) (ts.map tkT)=(c,Q)→(∀cs,mZ (Q::cs) out sp=mZ cs d v)→d.length≤out.length+5 →
     (aV (0≤(c:Int)∧(c:Int)≤((pL (cP A).length (t::ts)).length:Int)∧(((pL (cP A).length (t::ts)).length:Int):Int)≤((pL (cP A).length (t::ts)).length:Int))<|ag d v (dK (pL (cP A).length (t::ts)) (c:Int) ((pL (cP A).length (t::ts)).length:Int))) =
      J (mZ (mY (dB o) (m+1) ((t::ts).map tkT)) out sp):=by
    intro c Q d v h1 h2 h3 h4 h5
    refine zdG ⟨by omega,by rw[pY];omega,eN _⟩ ?_
    rw[E5,Kf]
    have hA:(cP A).length+(cP ((t::ts).take c)).length=(cP (A++(t::ts).take c)).length:=by rw[mr,aa]
    have L:((t::ts).drop c).length+c=(t::ts).length:=by rw[aS];omega
    have:=ih ((t::ts).drop c) (A++(t::ts).take c) d v m (by rw[hd,aA,bZ]) (fun x hx=>e x (gg hx)) (by omega) (by omega) (by omega)
    rw[a5] at this
    rw[hA,this,av]
    show _=J (mZ ((lD (dB o) (tkT t) (ts.map tkT)).2::mY (dB o) m ((tkT t::ts.map tkT).drop (lD (dB o) (tkT t) (ts.map tkT)).1)) out sp)
    rw[h3,h4,←av,ki]
   have hk:∀i,fT (pT i t).Broken (pT i t).Rune=kT (tkT t):=fun _=>uf t
   refine bS (ax (by rw[pY,ab];omega)) (cB (aY (a:=pT (cP A).length t) rfl (zdG (pi ht) ?_)))
   rw[hk,xf,vk]
   cases hl:ej (tkT t) with
   |true=>
    obtain⟨bb,G,T⟩:=KN hl
    have f:=E2 (dB o) ho (tkT t) (ts.map tkT) hl
    have b:lD (dB o) (tkT t) (ts.map tkT)=((kG (dB o) (tkT t) (ts.map tkT)).1+(((tkT t::ts.map tkT).drop (kG (dB o) (tkT t) (ts.map tkT)).1).takeWhile iQ).length,some (ph (mv (((tkT t::ts.map tkT).drop (kG (dB o) (tkT t) (ts.map tkT)).1).takeWhile iQ)) ((kG (dB o) (tkT t) (ts.map tkT)).2.map (iE (dB o) (qB ((tkT t::ts.map tkT).take (kG (dB o) (tkT t) (ts.map tkT)).1)))))):=by
     unfold lD;rw[am (Tc hl)]
    refine bS rfl (aY (S1 o (cP A).length t ts G e w) ?_)
    generalize hM:kG (dB o) (tkT t) (ts.map tkT)=M at f b ⊢
    rw[←av,←ki,←List.map_take] at b
    have bk:M.1≤(t::ts).length:=by have:=f.2.1;rw[ab,az] at this;exact this
    refine cB (zdG ⟨eN _,by show (0:Int)≤(M.1:Int);omega,by rw[pY];show (M.1:Int)≤_;omega⟩ ?_)
    refine (S4 _ (((M.1:Nat):Int),M.2) _ ((t::ts).take M.1) (cP A).length (by show dK _ 0 (M.1:Int)=_;rw[KH,EZ]) (fun x hx=>e x (qK hx)) (by rw[bD];omega) (fun x _=>Ta x)).trans ?_
    refine cB ?_
    have Y:=fun Jm=>S6 (cP A).length (t::ts) Jm e w zbx ((t::ts).drop M.1) ((t::ts).take M.1) ⟨#[]⟩ (bZ _ _).symm (by rw[aS];unfold zbx;omega) (by show 0≤_;omega)
    have a8:((t::ts).take M.1).length=M.1:=by rw[bD];omega
    simp only[a8] at Y
    refine (Y _).trans ?_
    rw[show (⟨#[]⟩:ad)=ac from rfl,dD]
    refine cB ?_
    refine (S7 o (((M.1:Nat):Int),M.2) _ _ f.2.2.2 out sp (by omega)).trans ?_
    rw[aj f.2.2.1]
    generalize a2:(((t::ts).drop M.1).map tkT).takeWhile iQ=ms at b ⊢
    generalize b1:qB (((t::ts).take M.1).map tkT)=gr at b ⊢
    obtain⟨us,u,U⟩:∃us u,M.2=us++[u]:=⟨M.2.dropLast,M.2.getLast f.2.2.1,(List.dropLast_concat_getLast f.2.2.1).symm⟩
    have E:M.2.map (iE (dB o) gr)=us.map (iE (dB o) gr)++[iE (dB o) gr u]:=by rw[U];simp
    have D:ph (mv ms) (M.2.map (iE (dB o) gr))=us.map (iE (dB o) gr)++[⟨3,((dB o).p u).getD 0,ac,mv ms,gr⟩]:=by rw[E,E3];rfl
    have bh:us.length≤3:=by have:=f.2.2.2;rw[U,aa,ab,aL] at this;omega
    have ao:=zA sp out
    generalize hP:out++jj sp out++us.map (iE (dB o) gr)=P at *
    have b6:P.length≤out.length+4:=by rw[←hP];simp only[aa,az];omega
    have hall:out++jj sp out++M.2.map (iE (dB o) gr)=P++[iE (dB o) gr u]:=by rw[E,←aA,hP]
    rw[hall]
    have H:((P++[iE (dB o) gr u]).length:Int)-1=(P.length:Int):=by rw[aa,ab,aL];push_cast;omega
    rw[H]
    refine gO (aY (gM (show (P++[iE (dB o) gr u])[P.length]?=some (iE (dB o) gr u) by simp)) ?_)
    have V:(P++[iE (dB o) gr u]).set ((P.length:Int)).toNat (⟨(iE (dB o) gr u).sort,(iE (dB o) gr u).place,(iE (dB o) gr u).digits,mv ms,(iE (dB o) gr u).great⟩:El)=P++[⟨3,((dB o).p u).getD 0,ac,mv ms,gr⟩]:=by
     rw[bz,p6 _ _ (bq _),oC];rfl
    have a9:ms.length+M.1≤(t::ts).length:=by
     rw[←a2]
     have:=(dt iQ (l:=((t::ts).drop M.1).map tkT)).length_le
     rw[az,aS] at this;omega
    have:=r (M.1+ms.length) (some (ph (mv ms) (M.2.map (iE (dB o) gr)))) (P++[⟨3,((dB o).p u).getD 0,ac,mv ms,gr⟩]) false (by omega) (by omega) b (fun cs=>by
     rw[S3 (by rw[D];simp),D,←aA]
     show mZ cs (out++jj sp out++us.map (iE (dB o) gr)++_) false=_
     rw[hP]) (by rw[aa,ab,aL];omega)
    rw[V]
    have g:((M.1:Nat):Int)+((ms.length:Nat):Int)=((M.1+ms.length:Nat):Int):=by push_cast;rfl
    rw[g]
    exact this
   |false=>
    refine bM rfl ?_
    have z:¬kT (tkT t)=1:=fun h=>by have:=(zB (tkT t)).1.1 h;rw[hl] at this;cases this
    have F:=(zB (tkT t)).2
    cases N:fE (tkT t) with
    |true=>
     have q:kT (tkT t)=3:=F.2 N
     have b:lD (dB o) (tkT t) (ts.map tkT)=(1+((ts.map tkT).takeWhile fE).length,some [⟨2,0,rZ (tkT t::(ts.map tkT).takeWhile fE),ac,0⟩]):=by
      unfold lD;rw[aj z,am q]
     refine bS rfl (cB ?_)
     have L:=fun Jd=>S8 (cP A).length (t::ts) Jd e w zbx ts [t] rfl (by rw[ab] at w;unfold zbx;omega)
     have e1:(([t]:List dq).length:Int)=1:=rfl
     simp only[e1] at L
     refine (L _).trans ?_
     have a7:(ts.map tkT).takeWhile fE=(ts.takeWhile fun x=>fE (tkT x)).map tkT:=by rw[sw];rfl
     rw[a7,az] at b ⊢
     generalize hW:(ts.takeWhile fun x=>fE (tkT x))=W at b ⊢
     have b4:W.length≤ts.length:=by rw[←hW];exact (dt _).length_le
     have a6:∀x∈t::W,x.bs.length=1:=by
      intro x hx
      rcases bo.1 hx with rfl|hx
      ·exact KM ht N
      ·have G:x∈ts:=by rw[←hW] at hx;exact (dt _).subset hx
       have T:fE (tkT x)=true:=by
        rw[←hW] at hx
        exact bd.1 (su (p:=fun x=>fE (tkT x)) (l:=ts)) x hx
       exact KM (e x (ak _ G)) T
     have a4:∀l:List dq,(∀x∈l,x.bs.length=1)→(cP l).length=l.length:=by
      intro l
      induction l with
      |nil=>intro _;rfl
      |cons x l a0=>intro h;rw[mq,aa,ab,h x (ar ..),a0 (fun y hy=>h y (ak _ hy))];omega
     have I:(cP (t::W)).length=1+W.length:=by rw[a4 _ a6,ab];omega
     have C:t::ts=(t::W)++ts.dropWhile fun x=>fE (tkT x):=by rw[aX,←hW,dS]
     have aw:cO S ((cP A).length:Int) (((cP A).length+(1+W.length):Nat):Int)=iD ((t::W).map tkT) :=
      EX (A:=A) (W:=t::W) (Z:=ts.dropWhile fun x=>fE (tkT x)) (by rw[hd,C]) rfl (by rw[I])
     have b0:(cP A).length+(1+W.length)≤S.size:=by
      rw[gJ,hd,C,mr,mr,aa,aa,I];omega
     have hq:(pT (cP A).length t).At+(1+((W.length:Nat):Int))=(((cP A).length+(1+W.length):Nat):Int):=by
      show ((cP A).length:Int)+(1+((W.length:Nat):Int))=_
      push_cast;omega
     refine cB ?_
     rw[hq]
     refine gO (zdG ⟨by show (0:Int)≤((cP A).length:Int);omega,by show ((cP A).length:Int)≤_;omega,by omega⟩ ?_)
     have O:cO S (pT (cP A).length t).At (((cP A).length+(1+W.length):Nat):Int)=iD ((t::W).map tkT):=aw
     rw[O]
     have b2:(iD ((t::W).map tkT)).size=1+W.length:=by rw[gJ,xg,I]
     refine (S9 _ zbx (iD ((t::W).map tkT)) (by unfold zbx;omega) (by omega)).trans ?_
     refine aY (E4 _ sp out (by omega)) ?_
     have ao:=zA sp out
     have:=r (1+W.length) (some [⟨2,0,rZ (tkT t::W.map tkT),ac,0⟩]) (out++jj sp out++[⟨2,0,rZ (tkT t::W.map tkT),ac,0⟩]) false (by omega) (by rw[ab];omega) b (fun cs=>rfl) (by simp only[aa,ab,aL];omega)
     have g:(1:Int)+((W.length:Nat):Int)=((1+W.length:Nat):Int):=by push_cast;rfl
     rw[g]
     exact this
    |false=>
     have q:¬kT (tkT t)=3:=fun h=>by have:=F.1 h;rw[N] at this;cases this
     refine bM rfl ?_
     have a1:∀K:Bool→Option (List El),co (fun (j9:Bool→Option (List El))=>aN (((kT (tkT t)):Int)==5) (j9 (((kT (tkT t)):Int)==5)) (aN (((kT (tkT t)):Int)==4) (j9 (((kT (tkT t)):Int)==4)) (j9 (((kT (tkT t)):Int)==6)))) K=K (decide (kT (tkT t)=5∨kT (tkT t)=4∨kT (tkT t)=6)):=by
      intro K
      unfold co
      by_cases h5:kT (tkT t)=5
      ·rw[h5];rfl
      ·by_cases h4:kT (tkT t)=4
       ·rw[h4];rfl
       ·rw[aC.2 h5,aC.2 h4]
        by_cases h6:kT (tkT t)=6
        ·rw[h6];rfl
        ·rw[aC.2 h6,al (by simp[h5,h4,h6])];rfl
     refine (a1 _).trans ?_
     by_cases j:kT (tkT t)=5∨kT (tkT t)=4∨kT (tkT t)=6
     ·rw[ax j]
      refine bS rfl ?_
      exact r 1 none out true (bq 1) (by rw[ab];omega) (by unfold lD;rw[aj z,aj q,am j]) (fun cs=>rfl) (by omega)
     ·rw[al j]
      refine bM rfl ?_
      by_cases B:kT (tkT t)=11
      ·rw[beq_iff_eq.2 B]
       have b3:0≤kP (tkT t).2∧kP (tkT t).2≤255:=by unfold kP;have:=((tkT t).2.data.toList.headD 0).toNat_lt;omega
       refine bS rfl (aY (Tb ht hd) (gO (aY (E4 _ sp out (by omega)) ?_)))
       have ao:=zA sp out
       exact r 1 (some [⟨4,kP (tkT t).2,ac,ac,0⟩]) (out++jj sp out++[⟨4,kP (tkT t).2,ac,ac,0⟩]) false (bq 1) (by rw[ab];omega)
        (by unfold lD;rw[aj z,aj q,aj j,am B]) (fun cs=>rfl) (by simp only[aa,ab,aL];omega)
      ·rw[aC.2 B]
       refine bM rfl ?_
       exact r 1 (some []) out sp (bq 1) (by rw[ab];omega) (by unfold lD;rw[aj z,aj q,aj j,aj B]) (fun cs=>rfl) (by omega)
theorem Te (s:ad) (f:s.size≤1000000000):zt s=some (pL 0 (eU s.data.toList)):=by
 unfold zt
 refine aY (a:=s) rfl (aY (a:=pL 0 (eU s.data.toList)) ?_ rfl)
 unfold BF
 refine aY (a:=pL 0 (eU s.data.toList)) ?_ rfl
 unfold BE
 refine cB (aY (za s (by omega)) (cB ?_))
 rw[xe]
 have b:(pL 0 (eU s.data.toList)).length≤s.size:=by
  rw[pY]
  have:=qz s
  have e:(eQ s.data.toList).length=(eU s.data.toList).length:=by rw[←pY (eU s.data.toList) 0,←xe,az]
  omega
 have key:∀ (l acc:List cY),acc.length+l.length≤1000000000→zdZ (fun c=>(some c:Option (List cY))) zbl l acc=some (acc++l):=by
  intro l
  induction l with
  |nil=>intro acc _;rw[CJ,aH]
  |cons x l d=>
   intro acc h
   rw[ab] at h
   rw[oH]
   unfold zbl
   refine gO ?_
   have:=d (acc++[x]) (by simp;omega)
   unfold zbl at this
   rw[this,aA];rfl
 have:=key (pL 0 (eU s.data.toList)) [] (by simp;omega)
 rw[bg] at this
 exact this
theorem KO (o:mu) (l:List Tk):rl o l≤l.length:=by
 unfold rl
 split
 ·unfold nN
  have h1:=aM gq (dS (p:=fun x=>!ej x) (l:=l))
  have h2:=aM gq (dS (p:=jc) (l:=l.dropWhile fun x=>!ej x))
  rw[aa] at h1 h2
  omega
 ·omega
theorem xj (s:ad):(eU s.data.toList).length≤s.size:=by
 have h3:=qz s
 have e:(eQ s.data.toList).length=(eU s.data.toList).length:=by rw[←pY (eU s.data.toList) 0,←xe,az]
 omega
theorem Tf {s:ad} {X Y:List UInt8} (h:s.data.toList=X++Y):(cO s (X.length:Int) (s.size:Int)).data.toList=Y:=by
 rw[s6,h,ic,gJ,h,aa,ik,mN]
def oQ (t:ad):Prop:=t.size≤65536∧(gm t).size≤65536
theorem KP {t:ad} (h:t.size≤5000):oQ t:=⟨by omega,by have:=(s7 t (by omega)).2.1;omega⟩
theorem E6 (o:cw) (g:ug (dB o)) (t:ad) (ht:oQ t):ud o t=some (vj (dB o) (gE t)):=by
 obtain⟨h0,h1⟩:=ht
 unfold ud
 refine cB (aY (JE t h0) (aY (SL o (gm t) (by omega)) ?_))
 have b:=KO (dB o) ((eU (gm t).data.toList).map tkT)
 generalize hp:rl (dB o) ((eU (gm t).data.toList).map tkT)=p at b ⊢
 have c:=SI (eU (gm t).data.toList) p
 rw[tP,←gJ] at c
 refine zdG ⟨by omega,by omega,eN _⟩ ?_
 have d:(cO (gm t) ((cP ((eU (gm t).data.toList).take p)).length:Int) ((gm t).size:Int)).data.toList=cP ((eU (gm t).data.toList).drop p):=by
  exact Tf (by rw[←mr,bZ,tP])
 have hg:eU (cP ((eU (gm t).data.toList).drop p))=(eU (gm t).data.toList).drop p:=A0 (a:=(eU (gm t).data.toList).take p) (by rw[bZ];exact Ih _)
 generalize e:cO (gm t) ((cP ((eU (gm t).data.toList).take p)).length:Int) ((gm t).size:Int)=SS at d ⊢
 have h:SS.size≤65536:=by rw[gJ,d];omega
 refine aY (Te SS (by omega)) ?_
 rw[d,hg]
 have f:=xj (gm t)
 have:=Td o g (gm t) ((cP ((eU (gm t).data.toList).take p)).length:Int) SS e (by omega) some zbx ((eU (gm t).data.toList).drop p) [] [] false (((eU (gm t).data.toList).map tkT).length) (by rw[bg,d]) (fun x hx=>pP _ x (gg hx)) (by rw[aS];unfold zbx;omega) (by rw[aS,az];omega) (by rw[aS];simp only[aL];omega)
 refine this.trans ?_
 unfold vj gE nu
 rw[hp,ki]
def E7 (b:ad) (a:ad):Option Bool := aN (decide (((a.size:Int):Int)≤(b.size:Int))) (aV (0≤(0:Int)∧(0:Int)≤(a.size:Int)∧((a.size:Int):Int)≤(b.size:Int)) <|some (decide (cO b 0 (a.size:Int)=a))) (some false)
theorem Tg {c:ad} {a:ad} {r:Bool} (h:E7 c a=some r):dN prog 174 [.string c,.string a] (.bool r):=by
 unfold E7 at h
 refine dN.intro func174 rfl ntmps174 (by simp) (fun w0 K=>zyG (zyR 1 rfl (zyH (zyR 1 rfl (zcG rfl dc rfl an (zyR 1 rfl (zcG rfl dc rfl an (zaT rfl zbF (zyR 1 rfl (zyS (s:=10) rfl h (fun h=>?_) (fun h=>?_)))))))))))
 ·refine zyR 2 rfl (zcG rfl dc rfl an (zbs h fun b h=>iA rfl dc rfl rfl rfl (kA (i:=0) (j:=(a.size:Int)) an (.inl ⟨rfl,rfl⟩) (.inr rfl) b) (zyR 1 rfl (zaT rfl zdp (zyR 2 rfl (zyN (zaA ?_)))))))
  cases h
  exact cX 4 results174
 refine zyR 8 rfl (zyN (zaA ?_))
 cases h
 exact cX 4 results174
def E8 (b:ad) (a:ad):Option Bool := aT (E7 b a) fun (r1:Bool)=>some r1
theorem Th {b:ad} {a:ad} {r:Bool} (h:E8 b a=some r):dN prog 166 [.string b,.string a] (.bool r):=by
 unfold E8 at h
 refine dN.intro func166 rfl ntmps166 (by simp) (fun w0 K=>zyG (zyR 1 rfl (zyH (zyR 2 rfl (zbk h fun r1 c h=>zaI (v:=.bool r1) (vs:=[.string b,.string a]) rfl dc rfl rfl rfl OX (Tg c) (zyR 1 rfl (zyN (zaA ?_))))))))
 cases h
 exact cX 4 results166
def zf6 (c0:ad) (c:Nat→Option (List cY)) (a:Nat):Option (List cY) := aN (decide (a<(eQ c0.data.toList).length)) (aT ((eQ c0.data.toList)[a]?) fun (p1:Pc)=>co (fun (b:Int→Bool→Option (List cY))=>aN (((p1.r:Int):Int)==65533) (aV (0≤((p1.i:Int):Int)∧((p1.i:Int):Int)≤(c0.size:Int)∧((c0.size:Int):Int)≤(c0.size:Int)) <|aT (E8 (cO c0 (p1.i:Int) (c0.size:Int)) (⟨#[239,191,189]⟩:ad)) fun (r1:Bool)=>aN (!r1) (b 1 true) (b ((ae (p1.r:Int)).size:Int) false)) (b ((ae (p1.r:Int)).size:Int) false)) (fun (p2:Int) (d:Bool)=>uB (⟨(p1.i:Int),p2,(p1.r:Int),d⟩:cY) <|c (a+1))) (some [])
def E9 (c0:ad):Option (List cY) := zaC (fun _=>none) (zf6 c0) zbx 0
theorem Ti {c:Nat} {c0:ad} {xs:(List cY)} (h:E9 c0=some xs):sA prog 165 [zP c] (fun q:cY=>[.agg #[zI q.At,zI q.Width,.int .i32 q.Rune,.bool q.Broken]]) xs [(c,.cells #[.string c0] 9 (0,0))]:=by
 unfold E9 at h
 refine sA.intro func165 rfl ntmps165 (by simp) (fun l w0 K I X y hy=>?_)
 obtain⟨r0,x⟩:∃r,xs=[]++r:=⟨xs,rfl⟩
 have D:xs=r0:=x
 rw[D] at h
 refine zyG (Ad (i:=0) y dU rfl dc rfl rfl rfl (uL an rfl dc rfl (fun b1=>zyN (zat (eF (β:=Nat×Nat×(List cY)×(List cY)) (fun b=>zaC (fun _=>none) (zf6 c0) b.1 b.2.1=some b.2.2.2∧xs=b.2.2.1++b.2.2.2) (fun b=>[]) (fun b=>[(0,.func (.yield l) #[] #[]),(1,zP c),(7,zP b1)]) (fun b=>[I b.2.2.1,obj b1 (.stringIter c0 (mE c0 b.2.1))]) (fun b=>b.1) (zbx,0,([]:List cY),r0) ⟨h,x⟩ rfl (bI rfl) (cp 2) ?_)))))
 rintro⟨z,n,a,t⟩ ⟨h,w⟩
 cases z with
 |zero=>exact ew h
 |succ z=>
  obtain⟨L,f⟩:∃ag,ag=zaC (fun _=>none) (zf6 c0) z:=⟨_,rfl⟩
  have h:zf6 c0 L n=some t:=by rw[f];exact h
  unfold zf6 at h
  refine zyG (tI (b:=decide (n<(eQ c0.data.toList).length)) (fun e=>?_) (fun e=>?_))
  ·have h:=oF e h
   refine zbk h fun p1 F h=>uM (k:=1) (m:=n) (p:=p1) rfl dc rfl rfl F (eY rfl dc rfl rfl (zyN (zaJ (ir rfl (zap (zaz (zat (zbq h fun M G h=>zaL (β:=Int×Bool×Nat) 2 rfl (fun b=>M b.1 b.2.1=some t) (fun b=>[]) (fun b=>[(0,.func (.yield l) #[] #[]),(1,zP c),(5,zP b.2.2),(7,zP b1)]) (fun b=>[I a,cells b.2.2 [zI (p1.i:Int),zI b.1,.int .i32 (p1.r:Int),.bool b.2.1] 132,obj b1 (.stringIter c0 (mE c0 (n+1)))]) (fun cut=>zyG (eY rfl dc rfl rfl (eY rfl dc rfl rfl (zyR 2 rfl (zyH (zyR 2 rfl (zcH rfl dc rfl (mi aZ an) (zcG rfl dc rfl an (zyR 1 rfl (zbf (v:=.agg #[zI (p1.i:Int),zI ((ae (p1.r:Int)).size:Int),.int .i32 (p1.r:Int),.bool false]) (ps:=[(0,.tmp 12),(1,.tmp 15),(2,.tmp 16)]) rfl dc rfl (fun _=>by kernel_rfl) (zbi zjr rfl dc (fun J=>eE (k:=2) (vs:=[zI (p1.i:Int),zI ((ae (p1.r:Int)).size:Int),.int .i32 (p1.r:Int),.bool false]) (l':=[zI (p1.i:Int),zI ((ae (p1.r:Int)).size:Int),.int .i32 (p1.r:Int),.bool false]) kM rfl rfl rfl rfl rfl (show _≤_ by simp) rfl rfl (zyN (cut (zyG (zyR 1 rfl (zaT rfl zbm (zyR 1 rfl (zyS (s:=20) rfl h (fun h=>Ad (i:=0) y dU rfl dc rfl rfl rfl (zyR 1 rfl (zbs h fun H h=>iA rfl dc rfl rfl rfl (kA (i:=(p1.i:Int)) (j:=(c0.size:Int)) an (.inr rfl) (.inl ⟨rfl,rfl⟩) H) (zbk h fun r1 E h=>zaI (v:=.bool r1) (vs:=[.string (cO c0 (p1.i:Int) (c0.size:Int)),.string (⟨#[239,191,189]⟩:ad)]) rfl dc rfl rfl rfl OW (Th E) (jW rfl dc rfl km (zyR 1 rfl (zyN (zyB rfl h (fun h=>bX (zab qV rfl dc rfl (show _=1 from rfl) (eP (k:=2) (l':=[zI (p1.i:Int),zI 1,.int .i32 (p1.r:Int),.bool false]) kp rfl rfl rfl rfl rfl (fun _ _=>rfl) rfl (zab AK rfl dc rfl (show _=3 from rfl) (eP (k:=2) (l':=[zI (p1.i:Int),zI 1,.int .i32 (p1.r:Int),.bool true]) oL rfl rfl rfl rfl rfl (fun _ _=>rfl) rfl (zaB (cL (1,true,J) h rfl (bI rfl) (bW [0,2,1] kr rfl)))))))) (fun h=>zap (cL (((ae (p1.r:Int)).size:Int),false,J) h rfl (bI rfl) (bW [0,2,1] kr rfl))))))))))) (fun h=>zyR 6 rfl (zyN (za8 rfl (zap (cL (((ae (p1.r:Int)).size:Int),false,J) h rfl (bI rfl) (bW [0,2,1] kr rfl))))))))))))))))))))))))) ?_))))))))
   rintro⟨p2,u,b2⟩ h
   rw[G] at h
   refine zyG (zyR 1 rfl (zbR (k:=1) (cs:=[zI (p1.i:Int),zI p2,.int .i32 (p1.r:Int),.bool u]) lO rfl dc rfl rfl rfl rfl ?_))
   obtain⟨d,C,h⟩:=vR h
   have g:xs=a++(⟨(p1.i:Int),p2,(p1.r:Int),u⟩:cY)::d:=by rw[w,C]
   refine vA hy rfl dc rfl g rfl (k:=0) rfl ?_ ?_
   ·have B:xs=(a++[(⟨(p1.i:Int),p2,(p1.r:Int),u⟩:cY)])++d:=by rw[g];simp
    refine jW rfl dc rfl km (zyN (za8 rfl (zap (cd ?_))))
    subst f
    exact nB (z,n+1,a++[(⟨(p1.i:Int),p2,(p1.r:Int),u⟩:cY)],d) ⟨h,B⟩ (ct _) rfl (bI rfl) (bW [0,2] kr rfl)
   exact jW rfl dc rfl km (zyN (ir rfl (zaA (cx (bP (cx (vB (ds:=[]) a (⟨(p1.i:Int),p2,(p1.r:Int),u⟩:cY) d g (.inl rfl) ah results165 (cp 1))))))))
  have h:=oG e h
  refine uN (k:=1) (m:=n) rfl dc rfl rfl (iS (of_decide_eq_false e)) (eY rfl dc rfl rfl (zyN (zaJ (za8 rfl (dy (bV (bV (dz ?_))))))))
  cases h
  exact xJ (ds:=[]) (.inr rfl) ah results165 (aM I (w.trans (aH _))) (cp 1)
def Fa (a:ad):Option ad := some a
theorem Tj {a:ad} {r:ad} (h:Fa a=some r):Fn prog 146 [.string a] [] (fun v0:Nat=>.func (.func 165) #[] #[zP v0]) (fun v0=>[cells v0 [.string r] 9]):=by
 unfold Fa at h
 refine _root_.Go.Proofs.YtifpjbgnikjglaaGreatDoor.Fn.intro func146 rfl ntmps146 (by simp) (fun w0 K=>zyG (zfq rfl dc rfl (fun b1=>zyR 1 rfl (zyH (zjk (x1:=[]) (x2:=[.tmp 1]) rfl dc rfl rfl (zyR 1 rfl (zyN (zaA ?_))))))))
 cases h
 exact eu (rs:=[.tmp 2]) b1 (.inl rfl) results146 (.cons (.tmp rfl) .nil) rfl (cp 1)
def Fb (r1:Int) (x1:Bool) (x2:ad):Option ad := aN ((r1:Int)==223) (some (⟨#[83,83]⟩:ad)) (aV (fB r1) <|some (ae (yn r1)))
theorem Tm {r1:Int} {x1:Bool} {x2:ad} {r:ad} (h:Fb r1 x1 x2=some r):dN prog 106 [.int .i32 r1,.bool x1,.string x2] (.string r):=by
 unfold Fb at h
 refine dN.intro func106 rfl ntmps106 (by simp) (fun w0 K=>zyG (zyR 1 rfl (zyN (zaJ (zyG (zyR 1 rfl (zaT rfl zbm (zyN (zyB rfl h (fun h=>?_) (fun h=>?_))))))))))
 ·refine zyG (zyR 1 rfl (zyN (zaA (bP ?_))))
  cases h
  exact cX 6 results106
 refine zap (zaz (zyG (zyR 1 rfl (zbs h fun a h=>zaI (v:=.int .i32 (yn r1)) (vs:=[.int .i32 r1]) rfl dc rfl rfl rfl Oz (nC fun w=>Pp r1 w a.1 a.2) (zcH rfl dc rfl (mi aZ an) (zyR 1 rfl (zyN (zaA ?_))))))))
 cases h
 exact cX 6 results106
def zdQ (b:ad) (x1:cY) (e:ad→Bool→Option ad) (a:ad) (c:Bool):Option ad := co (fun (f:ad→Option ad)=>aV (cr (x1.At+x1.Width)) <|aV (fB x1.Rune) <|aN (((fT x1.Broken x1.Rune):Int)==1) (aV (0≤(x1.At+x1.Width:Int)∧(x1.At+x1.Width:Int)≤(b.size:Int)∧((b.size:Int):Int)≤(b.size:Int)) <|aT (Fb x1.Rune c (cO b (x1.At+x1.Width) (b.size:Int))) fun (r2:ad)=>aV (a.size+r2.size≤140737488355328) <|f (a++r2)) (aV (0≤(x1.At:Int)∧(x1.At:Int)≤(x1.At+x1.Width)∧(x1.At+x1.Width:Int)≤(b.size:Int)) <|aV (a.size+(cO b x1.At (x1.At+x1.Width)).size≤140737488355328) <|f (a++(cO b x1.At (x1.At+x1.Width))))) (fun (d:ad)=>aN (((fT x1.Broken x1.Rune):Int) != 2) (e d (((fT x1.Broken x1.Rune):Int)==1)) (e d c))
def Fc (d:ad):Option ad := co (fun (f:ad→Option ad)=>aT (Fa d) fun (r1:ad)=>aT (E9 r1) fun (a:(List cY))=>co (fun (b:ad→Bool→Option ad)=>zdZ b (zdQ d) a (⟨#[]⟩:ad) false) (fun (c:ad) (e:Bool)=>f c)) (fun (b2:ad)=>some b2)
theorem Tn {m:ad} {r:ad} (h:Fc m=some r):dN prog 105 [.string m,.func (.func 106) #[] #[]] (.string r):=by
 unfold Fc at h
 refine dN.intro func105 rfl ntmps105 (by simp) (fun w0 K=>zjD (zbq h fun j1 V h=>zaL (β:=ad×Nat×(List Nat)) 3 rfl (fun b=>j1 b.1=some r) (fun b=>po b.2.2) (fun b=>[(5,zP b.2.1)]) (fun b=>[sL b.2.1 b.1,ziH ((b.2.2:List Nat).map gL)]) (fun cut=>?_) ?_))
 ·refine zyG (zfq rfl dc rfl (fun H=>zfq rfl dc rfl (fun G=>zyR 1 rfl (zyH (zbi NA rfl dc (fun z=>qp (k:=3) rfl PQ (zyH (zbi C8 rfl dc (fun F=>eP (k:=4) (l':=[.bool false]) oL rfl rfl rfl rfl rfl (fun _ _=>rfl) rfl (zyN (cut (zyG (zas (k:=1) dU rfl dc rfl rfl rfl (zbk h fun r1 T h=>zbN (vs:=[.string m]) rfl dc rfl rfl rfl OO (Tj T) ah (fun b7=>zyN (zat (zbk h fun I S h=>zbq h fun C M h=>ux (α:=cY) (β:=ad×Bool) (γ:=Unit) (δ:=Nat) (ps:=[12]) Ro.nil rfl OV (Ti S) (fun pre b=>∀post,I=pre++post→zdZ C (zdQ m) post b.1 b.2=some r) (fun pre b=>[cells H [.string m] 9,cells G [.func (.func 106) #[] #[]] 152,sL z b.1,cells F [.bool b.2] 4]) (fun c pre g=>False) (fun c pre g=>[]) (fun pre x b j=>[(2,zP H),(3,zP G),(4,.string (⟨#[]⟩:ad)),(5,zP z),(6,zP F),(11,.func (.func 165) #[] #[zP b7]),(7,zP j)]) (fun pre x b j=>[cells H [.string m] 9,cells G [.func (.func 106) #[] #[]] 152,sL z b.1,cells F [.bool b.2] 4,cells j [zI x.At,zI x.Width,.int .i32 x.Rune,.bool x.Broken] 132]) ((⟨#[]⟩:ad),false) (fun post e=>by rw[bg] at e;subst e;exact h) (bW [1,2,3,4] kr rfl) ⟨.inl ⟨5,rfl⟩,trivial⟩ (fun _=>rfl) dc ?_ ?_ ?_ ?_)))))))))))))))))
  ·rintro lp rc pre x1 post ⟨l,f⟩ w1 K1 p L P q
   exact bX (zbi zjr rfl dc (fun a1=>eE (k:=4) (vs:=[zI x1.At,zI x1.Width,.int .i32 x1.Rune,.bool x1.Broken]) (l':=[zI x1.At,zI x1.Width,.int .i32 x1.Rune,.bool x1.Broken]) kM rfl rfl rfl rfl rfl (show _≤_ by simp) rfl rfl (zaB (fun a w ha hw=>⟨a1,(bI rfl) _ _ _ ha,hw.weaken (cp 5)⟩))))
  ·rintro lp rc pre x1 t ⟨l,f⟩ O w1 K1 p L P q
   have h:=q (x1::t) p
   obtain⟨a2,y⟩:∃ag,ag=zdZ C (zdQ m) t:=⟨_,rfl⟩
   have h:zdQ m x1 a2 l f=some r:=by have h2:=h;rw[oH,←y] at h2;exact h2
   unfold zdQ at h
   refine zat (zbq h fun j2 U h=>zaL (β:=ad) 2 rfl (fun b=>j2 b=some r) (fun b=>[]) (fun b=>[(2,zP H),(3,zP G),(4,.string (⟨#[]⟩:ad)),(5,zP z),(6,zP F),(9,zI (fT x1.Broken x1.Rune)),(11,.func (.func 165) #[] #[zP b7])]) (fun b=>[cells H [.string m] 9,cells G [.func (.func 106) #[] #[]] 152,sL z b,cells F [.bool f] 4]) (fun cut=>zyG (zab zd2 rfl dc rfl (show _=0 from rfl) (zas (k:=4) dO rfl dc rfl rfl rfl (zab qV rfl dc rfl (show _=1 from rfl) (zas (k:=4) dO rfl dc rfl rfl rfl (zbs h fun a0 h=>zaT rfl (dA (r:=x1.At+x1.Width) (ai _ a0)) (zyR 1 rfl (zyH (zbR (k:=4) (cs:=[zI x1.At,zI x1.Width,.int .i32 x1.Rune,.bool x1.Broken]) lO rfl dc rfl rfl rfl rfl (zbs h fun J h=>zaI (v:=zI (fT x1.Broken x1.Rune)) (vs:=[.agg #[zI x1.At,zI x1.Width,.int .i32 x1.Rune,.bool x1.Broken]]) rfl dc rfl rfl rfl wl (ww x1.At x1.Width x1.Rune x1.Broken J.1 J.2) (zyR 1 rfl (zyN (cut (zyG (zyR 1 rfl (zaT rfl zbm (zyN (zyB rfl h (fun h=>zbs h fun aw h=>zbk h fun r2 Q h=>zbs h fun ao h=>zcI 7 [(0,22,.func (.func 106) #[] #[]),(1,23,.pointer (some ⟨O,2,none⟩)),(2,24,.int .i32 x1.Rune),(3,25,.bool f),(4,26,.string m),(5,27,zI (x1.At+x1.Width)),(6,28,.string (cO m (x1.At+x1.Width) (m.size:Int)))] mixed kr kr dc (by rfl) kr kr (zac (fun D n d c u i=>zas (k:=1) NP rfl dc (zbA (by rfl) rfl) rfl rfl (zaN 0 u i)) (zac (fun D n d c u i=>zab qu rfl dc (zbA (by rfl) rfl) (show _=2 from rfl) (zaN 1 u i)) (zac (fun D n d c u i=>zas (k:=4) eZ rfl dc (bt 1 u d) rfl rfl (zaN 2 u i)) (zac (fun D n d c u i=>zas (k:=3) qS rfl dc (zbA (by rfl) rfl) rfl rfl (zaN 3 u i)) (zac (fun D n d c u i=>zas (k:=0) dU rfl dc (zbA (by rfl) rfl) rfl rfl (zaN 4 u i)) (zyP 1 5 rfl (zac (fun D n d c u i=>iA rfl dc (bt 4 u d) (evO.some (bt 5 u d)) xK (kA (i:=x1.At+x1.Width) (j:=(m.size:Int)) an (.inr rfl) (.inl ⟨rfl,rfl⟩) aw) (zaN 6 u i)) bQ))))))) (zaI (v:=.string r2) (vs:=[.int .i32 x1.Rune,.bool f,.string (cO m (x1.At+x1.Width) (m.size:Int))]) rfl dc rfl rfl rfl Oy (Tm Q) (zbN (vs:=[zP z,.string r2]) rfl dc rfl rfl rfl HC (Iu z l r2 ao) (bW [2] kr rfl) (fun u1=>zaB (cL (l++r2) h rfl (bI rfl) (bW [0,1,5,3] kr rfl)))))) (fun h=>bX (zas (k:=0) dU rfl dc rfl rfl rfl (zab zd2 rfl dc rfl (show _=0 from rfl) (zas (k:=4) dO rfl dc rfl rfl rfl (zyR 1 rfl (zbs h fun Y h=>iA rfl dc rfl rfl rfl (kA (i:=x1.At) (j:=x1.At+x1.Width) an (.inr rfl) (.inr rfl) Y) (zbs h fun W h=>zbN (vs:=[zP z,.string (cO m x1.At (x1.At+x1.Width))]) rfl dc rfl rfl rfl HC (Iu z l (cO m x1.At (x1.At+x1.Width)) W) (bW [2] kr rfl) (fun u2=>zaB (cL (l++(cO m x1.At (x1.At+x1.Width))) h rfl (bI rfl) (bW [0,1,5,3] kr rfl)))))))))))))))))))))))))))) (fun N h=>?_))
   rw[U] at h
   exact zyG (zyR 1 rfl (zaT rfl zed (zyN (zyB rfl h (fun h=>bX (zyR 1 rfl (zaT rfl zbm (eP (k:=3) (l':=[.bool (((fT x1.Broken x1.Rune):Int)==1)]) oL rfl rfl rfl rfl rfl (fun _ _=>rfl) rfl (zaB (cd (lY (N,((fT x1.Broken x1.Rune):Int)==1) (fun B e2=>by have e9:=l0 p e2;subst e9;subst y;exact h) (cp 4)))))))) (fun h=>zap (cd (lY (N,f) (fun B e2=>by have e9:=l0 p e2;subst e9;subst y;exact h) (cp 4))))))))
  ·rintro E ⟨l,f⟩ q
   have h:C l f=some r:=q [] (aH _).symm
   rw[M] at h
   show TX _ _ _ _ _ _ _ [ziH ((([]:List Nat):List Nat).map gL),cE,cE,cE,cE,cells b7 [.string r1] 9,cells H [.string m] 9,cells G [.func (.func 106) #[] #[]] 152,sL z l,cells F [.bool f] 4,gL E]
   exact tA (k:=10) (j:=0) rfl rfl dc (cd (cL (l,z,E::([]:List Nat)) h rfl (bI rfl) (bW [8,0] kr rfl)))
  exact fun E c pre x1 post g a3 hX=>(show False from hX).elim
 rintro⟨b2,b1,ds1⟩ h
 rw[V] at h
 refine zyG (zbN (vs:=[zP b1]) rfl dc rfl rfl rfl N2 (PP b1 b2) (cp 1) (fun _=>zyR 1 rfl (zyN (zaA ?_))))
 cases h
 exact qq (rs:=[.tmp 4]) ds1 () (.inl rfl) (qo (k:=1) rfl) results105 (.cons (.tmp rfl) .nil) rfl ah
def Fe (a:ad):Option ad := aT (Fc a) fun (r1:ad)=>some r1
theorem To {a:ad} {r:ad} (h:Fe a=some r):dN prog 55 [.string a] (.string r):=by
 unfold Fe at h
 refine dN.intro func55 rfl ntmps55 (by simp) (fun w0 K=>zyG (zyR 1 rfl (zyH (zyR 1 rfl (zbk h fun r1 b h=>zaI (v:=.string r1) (vs:=[.string a,.func (.func 106) #[] #[]]) rfl dc rfl rfl rfl Ox (Tn b) (zyR 1 rfl (zyN (zaA ?_))))))))
 cases h
 exact cX 2 results55
def xk (a1:c7) (b1:c7):Option Int := aV (cr (a1.sort-b1.sort)) <|aV (cr (a1.place-b1.place)) <|aV (cr ((a1.digits.size:Int)-(b1.digits.size:Int))) <|aT (zp ([a1.sort-b1.sort,a1.place-b1.place,(a1.digits.size:Int)-(b1.digits.size:Int),bc a1.digits.data.toList b1.digits.data.toList]:List Int)) fun (r1:Int)=>some r1
theorem Tp {a1:c7} {b1:c7} {r:Int} (h:xk a1 b1=some r):dN prog 44 [.agg (gX a1).toArray,.agg (gX b1).toArray] (zI r):=by
 unfold xk at h
 refine dN.intro func44 rfl ntmps44 (by simp) (fun w0 K=>zyG (zfq rfl dc rfl (fun b2=>zfq rfl dc rfl (fun a=>zyR 1 rfl (zyN (zaJ (zbs h fun j h=>zbs h fun g h=>zbs h fun f h=>zbk h fun r1 e h=>zcI 22 [(0,5,zP b2),(1,6,zI a1.sort),(2,7,zP a),(3,8,zI b1.sort),(4,9,zI (a1.sort-b1.sort)),(5,10,.pointer (some ⟨b2,1,none⟩)),(6,11,zI a1.place),(7,12,.pointer (some ⟨a,1,none⟩)),(8,13,zI b1.place),(9,14,zI (a1.place-b1.place)),(10,15,.pointer (some ⟨b2,2,none⟩)),(11,16,.string a1.digits),(12,17,zI (a1.digits.size:Int)),(13,18,.pointer (some ⟨a,2,none⟩)),(14,19,.string b1.digits),(15,20,zI (b1.digits.size:Int)),(16,21,zI ((a1.digits.size:Int)-(b1.digits.size:Int))),(17,22,.pointer (some ⟨b2,2,none⟩)),(18,23,.string a1.digits),(19,24,.pointer (some ⟨a,2,none⟩)),(20,25,.string b1.digits),(21,26,zI (bc a1.digits.data.toList b1.digits.data.toList))] mixed kr kr dc (by rfl) kr kr (zac (fun D n d c u i=>zab zpF rfl dc (zbA (by rfl) rfl) (show _=0 from rfl) (zaN 0 u i)) (zac (fun D n d c u i=>zas (k:=0) dO rfl dc (bt 0 u d) rfl rfl (zaN 1 u i)) (zac (fun D n d c u i=>zab zpF rfl dc (zbA (by rfl) rfl) (show _=0 from rfl) (zaN 2 u i)) (zac (fun D n d c u i=>zas (k:=1) dO rfl dc (bt 2 u d) rfl rfl (zaN 3 u i)) (zac (fun D n d c u i=>mh rfl dc (bt 1 u d) (bt 3 u d) (k9 (r:=a1.sort-b1.sort) (ai _ j)) (zaN 4 u i)) (zac (fun D n d c u i=>zab x8 rfl dc (zbA (by rfl) rfl) (show _=1 from rfl) (zaN 5 u i)) (zac (fun D n d c u i=>zas (k:=0) dO rfl dc (bt 5 u d) rfl rfl (zaN 6 u i)) (zac (fun D n d c u i=>zab x8 rfl dc (zbA (by rfl) rfl) (show _=1 from rfl) (zaN 7 u i)) (zac (fun D n d c u i=>zas (k:=1) dO rfl dc (bt 7 u d) rfl rfl (zaN 8 u i)) (zac (fun D n d c u i=>mh rfl dc (bt 6 u d) (bt 8 u d) (k9 (r:=a1.place-b1.place) (ai _ g)) (zaN 9 u i)) (zac (fun D n d c u i=>zab wc rfl dc (zbA (by rfl) rfl) (show _=2 from rfl) (zaN 10 u i)) (zac (fun D n d c u i=>zas (k:=0) dU rfl dc (bt 10 u d) rfl rfl (zaN 11 u i)) (zac (fun D n d c u i=>zcG rfl dc (bt 11 u d) an (zaN 12 u i)) (zac (fun D n d c u i=>zab wc rfl dc (zbA (by rfl) rfl) (show _=2 from rfl) (zaN 13 u i)) (zac (fun D n d c u i=>zas (k:=1) dU rfl dc (bt 13 u d) rfl rfl (zaN 14 u i)) (zac (fun D n d c u i=>zcG rfl dc (bt 14 u d) an (zaN 15 u i)) (zac (fun D n d c u i=>mh rfl dc (bt 12 u d) (bt 15 u d) (k9 (r:=(a1.digits.size:Int)-(b1.digits.size:Int)) (ai _ f)) (zaN 16 u i)) (zac (fun D n d c u i=>zab wc rfl dc (zbA (by rfl) rfl) (show _=2 from rfl) (zaN 17 u i)) (zac (fun D n d c u i=>zas (k:=0) dU rfl dc (bt 17 u d) rfl rfl (zaN 18 u i)) (zac (fun D n d c u i=>zab wc rfl dc (zbA (by rfl) rfl) (show _=2 from rfl) (zaN 19 u i)) (zac (fun D n d c u i=>zas (k:=1) dU rfl dc (bt 19 u d) rfl rfl (zaN 20 u i)) (zac (fun D n d c u i=>zaI (v:=zI (bc a1.digits.data.toList b1.digits.data.toList)) (vs:=[.string a1.digits,.string b1.digits]) rfl dc rfl (dv (bt 18 u d) (dv (bt 20 u d) eX)) rfl wk (wx a1.digits b1.digits) (zaN 21 u i)) bQ)))))))))))))))))))))) (fx (cs:=[zI (a1.sort-b1.sort),zI (a1.place-b1.place),zI ((a1.digits.size:Int)-(b1.digits.size:Int)),zI (bc a1.digits.data.toList b1.digits.data.toList)]) (te:=3) (ps:=[(0,.tmp 9),(1,.tmp 14),(2,.tmp 21),(3,.tmp 26)]) rfl dc rfl (fun _=>by kernel_rfl) (fun l=>nE ([a1.sort-b1.sort,a1.place-b1.place,(a1.digits.size:Int)-(b1.digits.size:Int),bc a1.digits.data.toList b1.digits.data.toList]:List Int) (k:=2) rfl jE rfl (show 4≤maxLen by decide) (kU (k:=2) rfl (fun b=>lg (v:=zI r1) (vs:=[.slice (some ⟨l,0,none⟩) 4 4]) (Rd.nil:Rd _ _ []) rfl dc rfl rfl rfl Oo (SD b e) (.own (As:=[vec (kV (.i64)) 3 1 (.slice (some ⟨l,0,none⟩) 4 4) ([a1.sort-b1.sort,a1.place-b1.place,(a1.digits.size:Int)-(b1.digits.size:Int),bc a1.digits.data.toList b1.digits.data.toList]:List Int)]) (bW [2] kr rfl) (fun _ _ h=>oK jE (aF.1 h)) .nil) (zyR 1 rfl (zyN (zaA ?_))))))))))))))
 cases h
 exact cX 4 results44
def BL (p1:c7) (q1:c7):Option Int := some (bc p1.marks.data.toList q1.marks.data.toList)
theorem Tq {p1:c7} {q1:c7} {r:Int} (h:BL p1 q1=some r):dN prog 45 [.agg (gX p1).toArray,.agg (gX q1).toArray] (zI r):=by
 unfold BL at h
 refine dN.intro func45 rfl ntmps45 (by simp) (fun w0 K=>zyG (zfq rfl dc rfl (fun b1=>zfq rfl dc rfl (fun b2=>zyR 1 rfl (zyH (zab zrI rfl dc rfl (show _=3 from rfl) (zas (k:=0) dU rfl dc rfl rfl rfl (zab zrI rfl dc rfl (show _=3 from rfl) (zas (k:=1) dU rfl dc rfl rfl rfl (zaI (v:=zI (bc p1.marks.data.toList q1.marks.data.toList)) (vs:=[.string p1.marks,.string q1.marks]) rfl dc rfl rfl rfl wk (wx p1.marks q1.marks) (zyR 1 rfl (zyN (zaA ?_)))))))))))))
 cases h
 exact cX 4 results45
def BM (p1:c7) (q1:c7):Option Int := aV (cr (p1.great-q1.great)) <|some (p1.great-q1.great)
theorem Tr {p1:c7} {q1:c7} {r:Int} (h:BM p1 q1=some r):dN prog 47 [.agg (gX p1).toArray,.agg (gX q1).toArray] (zI r):=by
 unfold BM at h
 refine dN.intro func47 rfl ntmps47 (by simp) (fun w0 K=>zyG (zfq rfl dc rfl (fun b1=>zfq rfl dc rfl (fun b2=>zyR 1 rfl (zyH (zab zui rfl dc rfl (show _=4 from rfl) (zas (k:=0) dO rfl dc rfl rfl rfl (zab zui rfl dc rfl (show _=4 from rfl) (zas (k:=1) dO rfl dc rfl rfl rfl (zbs h fun a h=>zaT rfl (k9 (r:=p1.great-q1.great) (ai _ a)) (zyR 1 rfl (zyN (zaA ?_)))))))))))))
 cases h
 exact cX 4 results47
def vl (a:Int):Option Int := aT (BG a 0) fun (r1:Int)=>some r1
theorem Ff {a:Int} {r:Int} (h:vl a=some r):dN prog 49 [zI a] (zI r):=by
 unfold vl at h
 refine dN.intro func49 rfl ntmps49 (by simp) (fun w0 K=>zyG (zyR 1 rfl (zyH (zyR 1 rfl (zbk h fun r1 b h=>zaI (v:=zI r1) (vs:=[zI a,zI 0]) rfl dc rfl rfl rfl Oq (SE b) (zyR 1 rfl (zyN (zaA ?_))))))))
 cases h
 exact cX 2 results49
def zaR (b:List c7) (a:List c7) (e:Option Int) (d:Int→Option Int) (c:Int):Option Int := aN (decide ((c:Int)<(b.length:Int))) (aT (zca b c) fun (q1:c7)=>aN (decide (((a.length:Int):Int)≤c)) (some 1) (aT (zca a c) fun (q2:c7)=>aT (xk q1 q2) fun (r1:Int)=>aN ((r1:Int) != 0) (some r1) (aV (cr (c+1)) <|d (c+1)))) (e)
def zC (b:List c7) (a:List c7):Option Int := co (fun (c:Option Int)=>zaC (fun _=>none) (zaR b a c) zbx 0) (aN (decide (((b.length:Int):Int)<(a.length:Int))) (some (-1)) (some 0))
theorem Ts {t d:Value} {w:List c7} {n:Nat} {e:List c7} (c:Vw t w 5 n d e) {p f:Value} {u:List c7} {l:Nat} {g:List c7} (a:Vw p u 5 l f g) {r:Int} (h:zC e g=some r):iu prog 48 [d,f,.func (.func 44) #[] #[]] [jh qW 5 t n w,jh qW 5 p l u] [] (fun _:Unit=>(zI r)) (fun _=>[]):=by
 unfold zC at h
 refine iu.intro func48 rfl ntmps48 (by simp) (fun w0 K z=>zbq h fun E G h=>zaL (β:=Unit) 1 rfl (fun b=>E=some r) (fun b=>[]) (fun b=>[(0,d),(1,f)]) (fun b=>[]) (fun cut=>?_) ?_)
 ·refine zyG (zyR 1 rfl (zyN (cut (zyG (zyR 1 rfl (zbT c rfl dc rfl bA (zyR 1 rfl (zyN (zat (eF (β:=Nat×Int) (fun b=>zaC (fun _=>none) (zaR e g E) b.1 b.2=some r) (fun b=>[]) (fun b=>[(0,d),(1,f),(2,.func (.func 44) #[] #[]),(11,d),(12,zI (e.length:Int)),(13,zI b.2)]) (fun b=>[]) (fun b=>b.1) (zbx,0) h rfl (bI rfl) ah ?_))))))))))
  rintro⟨D,y⟩ h
  cases D with
  |zero=>exact ew h
  |succ D=>
   obtain⟨I,x⟩:∃ag,ag=zaC (fun _=>none) (zaR e g E) D:=⟨_,rfl⟩
   have h:zaR e g E I y=some r:=by rw[x];exact h
   unfold zaR at h
   refine zyG (zaT rfl zbd (zyN (zaJ (zyB rfl h (fun h=>?_) (fun h=>?_)))))
   ·refine zap (zaz (zaJ (zat (zyG (zyR 1 rfl (zbk h fun q1 C h=>fy c C bA mU rfl dc rfl rfl rfl (pJ (m:=n+(y:Int).toNat) (j:=0) (i:=0) (q:=q1) (cs:=(gX q1)) z rfl (by omega) ot rfl dc rfl (ce c C) rfl rfl rfl (zbi rJ rfl dc (fun b1=>zyR 1 rfl (eE (k:=0) (vs:=(gX q1)) (l':=(gX q1)) mU rfl rfl rfl rfl rfl (show _≤_ by simp) rfl rfl (zyN (zaJ (zyG (zyR 2 rfl (zbT a rfl dc rfl bA (zaT rfl zbF (zyN (zyB rfl h (fun h=>?_) (fun h=>?_)))))))))))))))))))
    ·refine zyG (zyR 1 rfl (zyN (zaA (bP (cx (bP (bP (cx (bP ?_)))))))))
     cases h
     exact cX 6 fH
    refine zap (zaz (zyG (zyR 2 rfl (zbk h fun q2 B h=>fy a B bA mU rfl dc rfl rfl rfl (pJ (m:=l+(y:Int).toNat) (j:=0) (i:=1) (q:=q2) (cs:=(gX q2)) z rfl (by omega) ot rfl dc rfl (ce a B) rfl rfl rfl (zbi rJ rfl dc (fun b2=>eE (k:=1) (vs:=(gX q2)) (l':=(gX q2)) mU rfl rfl rfl rfl rfl (show _≤_ by simp) rfl rfl (zyH (zyR 1 rfl (zbR (k:=0) (cs:=(gX q1)) ot rfl dc rfl rfl rfl rfl (zbR (k:=1) (cs:=(gX q2)) ot rfl dc rfl rfl rfl rfl (zbk h fun r1 F h=>zaI (v:=zI r1) (vs:=[.agg (gX q1).toArray,.agg (gX q2).toArray]) rfl dc rfl rfl rfl N4 (Tp (a1:=q1) (b1:=q2) F) (zyR 1 rfl (zyH (zyR 1 rfl (zaT rfl zed (zyN (zyB rfl h (fun h=>?_) (fun h=>?_)))))))))))))))))))
    ·refine zyG (zyR 2 rfl (zyN (zaA (cx (bP (bP (cx (bP ?_))))))))
     cases h
     exact cX 6 fH
    refine zap (cd (zaz (bX (zbs h fun H h=>zaT rfl (dA (r:=y+1) (ai _ H)) (zyR 1 rfl (zaB ?_))))))
    subst x
    exact nB (D,y+1) h (ct _) rfl (bI rfl) ah
   exact dy (bV (bV (dz (cL () h rfl (bI rfl) ah))))
 rintro _ h
 rw[G] at h
 refine zaJ (zyG (zyR 1 rfl (zbT c rfl dc rfl bA (zyR 1 rfl (zbT a rfl dc rfl bA (zaT rfl zbd (zyN (zyB rfl h (fun h=>?_) (fun h=>?_)))))))))
 ·refine zyG (zyR 1 rfl (zyN (zaA (bP ?_))))
  cases h
  exact cX 6 fH
 refine zap (zaz (zyG (zyR 1 rfl (zyN (zaA ?_)))))
 cases h
 exact cX 6 fH
def zaP (b:List c7) (a:List c7) (e:Option Int) (d:Int→Option Int) (c:Int):Option Int := aN (decide ((c:Int)<(b.length:Int))) (aT (zca b c) fun (q1:c7)=>aN (decide (((a.length:Int):Int)≤c)) (some 1) (aT (zca a c) fun (q2:c7)=>aT (BL q1 q2) fun (r1:Int)=>aN ((r1:Int) != 0) (some r1) (aV (cr (c+1)) <|d (c+1)))) (e)
def BN (b:List c7) (a:List c7):Option Int := co (fun (c:Option Int)=>zaC (fun _=>none) (zaP b a c) zbx 0) (aN (decide (((b.length:Int):Int)<(a.length:Int))) (some (-1)) (some 0))
theorem Tt {t d:Value} {w:List c7} {n:Nat} {e:List c7} (c:Vw t w 5 n d e) {p f:Value} {u:List c7} {l:Nat} {g:List c7} (a:Vw p u 5 l f g) {r:Int} (h:BN e g=some r):iu prog 48 [d,f,.func (.func 45) #[] #[]] [jh qW 5 t n w,jh qW 5 p l u] [] (fun _:Unit=>(zI r)) (fun _=>[]):=by
 unfold BN at h
 refine iu.intro func48 rfl ntmps48 (by simp) (fun w0 K z=>zbq h fun E G h=>zaL (β:=Unit) 1 rfl (fun b=>E=some r) (fun b=>[]) (fun b=>[(0,d),(1,f)]) (fun b=>[]) (fun cut=>?_) ?_)
 ·refine zyG (zyR 1 rfl (zyN (cut (zyG (zyR 1 rfl (zbT c rfl dc rfl bA (zyR 1 rfl (zyN (zat (eF (β:=Nat×Int) (fun b=>zaC (fun _=>none) (zaP e g E) b.1 b.2=some r) (fun b=>[]) (fun b=>[(0,d),(1,f),(2,.func (.func 45) #[] #[]),(11,d),(12,zI (e.length:Int)),(13,zI b.2)]) (fun b=>[]) (fun b=>b.1) (zbx,0) h rfl (bI rfl) ah ?_))))))))))
  rintro⟨D,y⟩ h
  cases D with
  |zero=>exact ew h
  |succ D=>
   obtain⟨I,x⟩:∃ag,ag=zaC (fun _=>none) (zaP e g E) D:=⟨_,rfl⟩
   have h:zaP e g E I y=some r:=by rw[x];exact h
   unfold zaP at h
   refine zyG (zaT rfl zbd (zyN (zaJ (zyB rfl h (fun h=>?_) (fun h=>?_)))))
   ·refine zap (zaz (zaJ (zat (zyG (zyR 1 rfl (zbk h fun q1 C h=>fy c C bA mU rfl dc rfl rfl rfl (pJ (m:=n+(y:Int).toNat) (j:=0) (i:=0) (q:=q1) (cs:=(gX q1)) z rfl (by omega) ot rfl dc rfl (ce c C) rfl rfl rfl (zbi rJ rfl dc (fun b1=>zyR 1 rfl (eE (k:=0) (vs:=(gX q1)) (l':=(gX q1)) mU rfl rfl rfl rfl rfl (show _≤_ by simp) rfl rfl (zyN (zaJ (zyG (zyR 2 rfl (zbT a rfl dc rfl bA (zaT rfl zbF (zyN (zyB rfl h (fun h=>?_) (fun h=>?_)))))))))))))))))))
    ·refine zyG (zyR 1 rfl (zyN (zaA (bP (cx (bP (bP (cx (bP ?_)))))))))
     cases h
     exact cX 6 fH
    refine zap (zaz (zyG (zyR 2 rfl (zbk h fun q2 B h=>fy a B bA mU rfl dc rfl rfl rfl (pJ (m:=l+(y:Int).toNat) (j:=0) (i:=1) (q:=q2) (cs:=(gX q2)) z rfl (by omega) ot rfl dc rfl (ce a B) rfl rfl rfl (zbi rJ rfl dc (fun b2=>eE (k:=1) (vs:=(gX q2)) (l':=(gX q2)) mU rfl rfl rfl rfl rfl (show _≤_ by simp) rfl rfl (zyH (zyR 1 rfl (zbR (k:=0) (cs:=(gX q1)) ot rfl dc rfl rfl rfl rfl (zbR (k:=1) (cs:=(gX q2)) ot rfl dc rfl rfl rfl rfl (zbk h fun r1 F h=>zaI (v:=zI r1) (vs:=[.agg (gX q1).toArray,.agg (gX q2).toArray]) rfl dc rfl rfl rfl N5 (Tq (p1:=q1) (q1:=q2) F) (zyR 1 rfl (zyH (zyR 1 rfl (zaT rfl zed (zyN (zyB rfl h (fun h=>?_) (fun h=>?_)))))))))))))))))))
    ·refine zyG (zyR 2 rfl (zyN (zaA (cx (bP (bP (cx (bP ?_))))))))
     cases h
     exact cX 6 fH
    refine zap (cd (zaz (bX (zbs h fun H h=>zaT rfl (dA (r:=y+1) (ai _ H)) (zyR 1 rfl (zaB ?_))))))
    subst x
    exact nB (D,y+1) h (ct _) rfl (bI rfl) ah
   exact dy (bV (bV (dz (cL () h rfl (bI rfl) ah))))
 rintro _ h
 rw[G] at h
 refine zaJ (zyG (zyR 1 rfl (zbT c rfl dc rfl bA (zyR 1 rfl (zbT a rfl dc rfl bA (zaT rfl zbd (zyN (zyB rfl h (fun h=>?_) (fun h=>?_)))))))))
 ·refine zyG (zyR 1 rfl (zyN (zaA (bP ?_))))
  cases h
  exact cX 6 fH
 refine zap (zaz (zyG (zyR 1 rfl (zyN (zaA ?_)))))
 cases h
 exact cX 6 fH
def zaO (b:List c7) (a:List c7) (e:Option Int) (d:Int→Option Int) (c:Int):Option Int := aN (decide ((c:Int)<(b.length:Int))) (aT (zca b c) fun (q1:c7)=>aN (decide (((a.length:Int):Int)≤c)) (some 1) (aT (zca a c) fun (q2:c7)=>aT (BM q1 q2) fun (r1:Int)=>aN ((r1:Int) != 0) (some r1) (aV (cr (c+1)) <|d (c+1)))) (e)
def BO (b:List c7) (a:List c7):Option Int := co (fun (c:Option Int)=>zaC (fun _=>none) (zaO b a c) zbx 0) (aN (decide (((b.length:Int):Int)<(a.length:Int))) (some (-1)) (some 0))
theorem Tu {t d:Value} {w:List c7} {n:Nat} {e:List c7} (c:Vw t w 5 n d e) {p f:Value} {u:List c7} {l:Nat} {g:List c7} (a:Vw p u 5 l f g) {r:Int} (h:BO e g=some r):iu prog 48 [d,f,.func (.func 47) #[] #[]] [jh qW 5 t n w,jh qW 5 p l u] [] (fun _:Unit=>(zI r)) (fun _=>[]):=by
 unfold BO at h
 refine iu.intro func48 rfl ntmps48 (by simp) (fun w0 K z=>zbq h fun E G h=>zaL (β:=Unit) 1 rfl (fun b=>E=some r) (fun b=>[]) (fun b=>[(0,d),(1,f)]) (fun b=>[]) (fun cut=>?_) ?_)
 ·refine zyG (zyR 1 rfl (zyN (cut (zyG (zyR 1 rfl (zbT c rfl dc rfl bA (zyR 1 rfl (zyN (zat (eF (β:=Nat×Int) (fun b=>zaC (fun _=>none) (zaO e g E) b.1 b.2=some r) (fun b=>[]) (fun b=>[(0,d),(1,f),(2,.func (.func 47) #[] #[]),(11,d),(12,zI (e.length:Int)),(13,zI b.2)]) (fun b=>[]) (fun b=>b.1) (zbx,0) h rfl (bI rfl) ah ?_))))))))))
  rintro⟨D,y⟩ h
  cases D with
  |zero=>exact ew h
  |succ D=>
   obtain⟨I,x⟩:∃ag,ag=zaC (fun _=>none) (zaO e g E) D:=⟨_,rfl⟩
   have h:zaO e g E I y=some r:=by rw[x];exact h
   unfold zaO at h
   refine zyG (zaT rfl zbd (zyN (zaJ (zyB rfl h (fun h=>?_) (fun h=>?_)))))
   ·refine zap (zaz (zaJ (zat (zyG (zyR 1 rfl (zbk h fun q1 C h=>fy c C bA mU rfl dc rfl rfl rfl (pJ (m:=n+(y:Int).toNat) (j:=0) (i:=0) (q:=q1) (cs:=(gX q1)) z rfl (by omega) ot rfl dc rfl (ce c C) rfl rfl rfl (zbi rJ rfl dc (fun b1=>zyR 1 rfl (eE (k:=0) (vs:=(gX q1)) (l':=(gX q1)) mU rfl rfl rfl rfl rfl (show _≤_ by simp) rfl rfl (zyN (zaJ (zyG (zyR 2 rfl (zbT a rfl dc rfl bA (zaT rfl zbF (zyN (zyB rfl h (fun h=>?_) (fun h=>?_)))))))))))))))))))
    ·refine zyG (zyR 1 rfl (zyN (zaA (bP (cx (bP (bP (cx (bP ?_)))))))))
     cases h
     exact cX 6 fH
    refine zap (zaz (zyG (zyR 2 rfl (zbk h fun q2 B h=>fy a B bA mU rfl dc rfl rfl rfl (pJ (m:=l+(y:Int).toNat) (j:=0) (i:=1) (q:=q2) (cs:=(gX q2)) z rfl (by omega) ot rfl dc rfl (ce a B) rfl rfl rfl (zbi rJ rfl dc (fun b2=>eE (k:=1) (vs:=(gX q2)) (l':=(gX q2)) mU rfl rfl rfl rfl rfl (show _≤_ by simp) rfl rfl (zyH (zyR 1 rfl (zbR (k:=0) (cs:=(gX q1)) ot rfl dc rfl rfl rfl rfl (zbR (k:=1) (cs:=(gX q2)) ot rfl dc rfl rfl rfl rfl (zbk h fun r1 F h=>zaI (v:=zI r1) (vs:=[.agg (gX q1).toArray,.agg (gX q2).toArray]) rfl dc rfl rfl rfl N6 (Tr (p1:=q1) (q1:=q2) F) (zyR 1 rfl (zyH (zyR 1 rfl (zaT rfl zed (zyN (zyB rfl h (fun h=>?_) (fun h=>?_)))))))))))))))))))
    ·refine zyG (zyR 2 rfl (zyN (zaA (cx (bP (bP (cx (bP ?_))))))))
     cases h
     exact cX 6 fH
    refine zap (cd (zaz (bX (zbs h fun H h=>zaT rfl (dA (r:=y+1) (ai _ H)) (zyR 1 rfl (zaB ?_))))))
    subst x
    exact nB (D,y+1) h (ct _) rfl (bI rfl) ah
   exact dy (bV (bV (dz (cL () h rfl (bI rfl) ah))))
 rintro _ h
 rw[G] at h
 refine zaJ (zyG (zyR 1 rfl (zbT c rfl dc rfl bA (zyR 1 rfl (zbT a rfl dc rfl bA (zaT rfl zbd (zyN (zyB rfl h (fun h=>?_) (fun h=>?_)))))))))
 ·refine zyG (zyR 1 rfl (zyN (zaA (bP ?_))))
  cases h
  exact cX 6 fH
 refine zap (zaz (zyG (zyR 1 rfl (zyN (zaA ?_)))))
 cases h
 exact cX 6 fH
def vm (o1:cw) (a1:ad) (b1:ad):Option (Int×Int) := aN (decide (a1=b1)) (some (0,0)) (co (fun (f:Option (Int×Int))=>aT (ud o1 a1) fun (r1:(List c7))=>aT (ud o1 b1) fun (r2:(List c7))=>aT (zC r1 r2) fun (r3:Int)=>aN ((r3:Int) != 0) (aT (vl r3) fun (e:Int)=>some (e,1)) (aT (BN r1 r2) fun (b:Int)=>aN ((b:Int) != 0) (aT (vl b) fun (d:Int)=>some (d,2)) (aT (BO r1 r2) fun (a:Int)=>aN ((a:Int) != 0) (aT (vl a) fun (c:Int)=>some (c,3)) (f)))) (some (bc a1.data.toList b1.data.toList,4)))
theorem Fg {_h:Nat} {o1:cw} {_f _a _c _d _g:Hd} {a1:ad} {b1:ad} {r:(Int×Int)} (h:vm o1 a1 b1=some r):iu prog 16 [zP _h,.string a1,.string b1] [cells _h [_f.v,.map (some (bi _a)),.map (some (bi _c)),.map (some (bi _d)),_g.v] 72,bH _f.v o1.units,cz (fun n:ad=>af n) (fun n:Int=>aB .i64 n) (bi _a) o1.place,dQ (bi _c) o1.fors,cz (fun n:ad=>af n) (fun n:Bool=>ay n) (bi _d) o1.skips,bH _g.v o1.lines] [] (fun _:Unit=>(.tuple #[zI r.1,zI r.2])) (fun _=>[]):=by
 unfold vm at h
 refine iu.intro func16 rfl ntmps16 (by simp) (fun w0 K d=>zyG (zyR 2 rfl (zyN (zaJ (zyG (zyR 1 rfl (zaT rfl (zjU tr) (zyR 3 rfl (zaT rfl zdp (zyR 1 rfl (zyN (zyB rfl h (fun h=>?_) (fun h=>?_)))))))))))))
 ·refine zyG (zyR 2 rfl (zyN (zaA (bP ?_))))
  cases h
  exact eu (rs:=[.tmp 6,.tmp 7]) () (.inl rfl) oD (.cons (.tmp rfl) (.cons (.tmp rfl) .nil)) rfl ah
 refine zap (zaz (zbq h fun I z h=>zaL (β:=Unit) 2 rfl (fun b=>I=some r) (fun b=>[]) (fun b=>[(1,.string a1),(2,.string b1)]) (fun b=>[]) (fun cut=>?_) ?_))
 ·refine zyG (zyR 2 rfl (zbk h fun r1 y h=>pI (vs:=[zP _h,.string a1]) d rfl dc rfl rfl rfl AM (BH (_h:=_h) (o1:=o1) (_f:=_f) (_a:=_a) (_c:=_c) (_d:=_d) (_g:=_g) y) ah (.ro 0 rfl (.ro 1 rfl (.ro 2 rfl (.ro 3 rfl (.ro 4 rfl (.ro 5 rfl .nil)))))) (fun v1=>iB (k:=0) rfl (fun c C=>?_))))
  subst C
  refine zyR 2 rfl (zbk h fun r2 x h=>pI (vs:=[zP _h,.string b1]) d rfl dc rfl rfl rfl AM (BH (_h:=_h) (o1:=o1) (_f:=_f) (_a:=_a) (_c:=_c) (_d:=_d) (_g:=_g) x) ah (.ro 0 rfl (.ro 1 rfl (.ro 2 rfl (.ro 3 rfl (.ro 4 rfl (.ro 5 rfl .nil)))))) (fun v2=>iB (k:=1) rfl (fun a B=>?_)))
  subst B
  refine zyR 2 rfl (zyH (zbf (v:=.agg #[.func (.func 44) #[] #[],.func (.func 45) #[] #[],.func (.func 47) #[] #[]]) (ps:=[(0,.func 44),(1,.func 45),(2,.func 47)]) rfl dc rfl (fun _=>by kernel_rfl) (zbi NH rfl dc (fun b2=>eE (k:=2) (vs:=[.func (.func 44) #[] #[],.func (.func 45) #[] #[],.func (.func 47) #[] #[]]) (l':=[.func (.func 44) #[] #[],.func (.func 45) #[] #[],.func (.func 47) #[] #[]]) NG rfl rfl rfl rfl rfl (show _≤_ by simp) rfl rfl (zyN (cut (zyG (zbR (k:=2) (cs:=[.func (.func 44) #[] #[],.func (.func 45) #[] #[],.func (.func 47) #[] #[]]) NF rfl dc rfl rfl rfl rfl (zyR 1 rfl (zyN (zat (GR 4 (uC (zyG (zaT rfl (uy (show ay (decide ((0:Int)<3))=ay true from aM ay dc) zbd) (zyN (zaJ (ir rfl (zap (zaz (zaJ (zat (zyG (zyR 1 rfl (nj (v:=.func (.func 44) #[] #[]) rfl dc rfl rfl (fun _=>by kernel_rfl) (zyR 2 rfl (zyH (zyR 3 rfl (kU (k:=0) rfl (fun l=>kU (k:=1) rfl (fun j=>zbk h fun r3 w h=>lg (v:=zI r3) (vs:=[c.v,a.v,.func (.func 44) #[] #[]]) d rfl dc rfl rfl rfl Do (Ts l j w) (.own (As:=[jI c.v r1]) (cp 1) (fun _ _ h=>oK pO (aF.1 h)) (.own (As:=[jI a.v r2]) (bW [1] kr rfl) (fun _ _ h=>oK pO (aF.1 h)) .nil)) (zyR 1 rfl (zyH (zyR 1 rfl (zaT rfl zed (zyN (zyB rfl h (fun h=>?_) (fun h=>?_))))))))))))))))))))))))))))))))))))))
  ·refine zyG (zyR 1 rfl (zbk h fun H u h=>zaI (v:=zI H) (vs:=[zI r3]) rfl dc rfl rfl rfl Dp (Ff u) (zyR 1 rfl (zaT rfl (dA (r:=1) dc) (zyR 2 rfl (zyN (zaA (cx (bP (bP (cx (bP ?_))))))))))))
   cases h
   exact eu (rs:=[.tmp 6,.tmp 7]) () (.inl rfl) oD (.cons (.tmp rfl) (.cons (.tmp rfl) .nil)) rfl ah
  refine zap (cd (zaz (bX (zaT rfl (dA (r:=1) dc) (zyR 1 rfl (zaB (xT (uC (zyG (zaT rfl (uy (show ay (decide ((1:Int)<3))=ay true from aM ay dc) zbd) (zyN (zaJ (ir rfl (zap (zaz (zaJ (zat (zyG (zyR 1 rfl (nj (v:=.func (.func 45) #[] #[]) rfl dc rfl rfl (fun _=>by kernel_rfl) (zyR 2 rfl (zyH (zyR 3 rfl (kU (k:=0) rfl (fun i=>kU (k:=1) rfl (fun g=>zbk h fun E t h=>lg (v:=zI E) (vs:=[c.v,a.v,.func (.func 45) #[] #[]]) d rfl dc rfl rfl rfl Do (Tt i g t) (.own (As:=[jI c.v r1]) (cp 1) (fun _ _ h=>oK pO (aF.1 h)) (.own (As:=[jI a.v r2]) (bW [1] kr rfl) (fun _ _ h=>oK pO (aF.1 h)) .nil)) (zyR 1 rfl (zyH (zyR 1 rfl (zaT rfl zed (zyN (zyB rfl h (fun h=>?_) (fun h=>?_)))))))))))))))))))))))))))))))))
  ·refine zyG (zyR 1 rfl (zbk h fun G q h=>zaI (v:=zI G) (vs:=[zI E]) rfl dc rfl rfl rfl Dp (Ff q) (zyR 1 rfl (zaT rfl (dA (r:=2) dc) (zyR 2 rfl (zyN (zaA (cx (bP (bP (cx (bP ?_))))))))))))
   cases h
   exact eu (rs:=[.tmp 6,.tmp 7]) () (.inl rfl) oD (.cons (.tmp rfl) (.cons (.tmp rfl) .nil)) rfl ah
  refine zap (cd (zaz (bX (zaT rfl (dA (r:=2) dc) (zyR 1 rfl (zaB (xT (uC (zyG (zaT rfl (uy (show ay (decide ((2:Int)<3))=ay true from aM ay dc) zbd) (zyN (zaJ (ir rfl (zap (zaz (zaJ (zat (zyG (zyR 1 rfl (nj (v:=.func (.func 47) #[] #[]) rfl dc rfl rfl (fun _=>by kernel_rfl) (zyR 2 rfl (zyH (zyR 3 rfl (kU (k:=0) rfl (fun f=>kU (k:=1) rfl (fun e=>zbk h fun D p h=>lg (v:=zI D) (vs:=[c.v,a.v,.func (.func 47) #[] #[]]) d rfl dc rfl rfl rfl Do (Tu f e p) (.own (As:=[jI c.v r1]) (cp 1) (fun _ _ h=>oK pO (aF.1 h)) (.own (As:=[jI a.v r2]) (bW [1] kr rfl) (fun _ _ h=>oK pO (aF.1 h)) .nil)) (zyR 1 rfl (zyH (zyR 1 rfl (zaT rfl zed (zyN (zyB rfl h (fun h=>?_) (fun h=>?_)))))))))))))))))))))))))))))))))
  ·refine zyG (zyR 1 rfl (zbk h fun F m h=>zaI (v:=zI F) (vs:=[zI D]) rfl dc rfl rfl rfl Dp (Ff m) (zyR 1 rfl (zaT rfl (dA (r:=3) dc) (zyR 2 rfl (zyN (zaA (cx (bP (bP (cx (bP ?_))))))))))))
   cases h
   exact eu (rs:=[.tmp 6,.tmp 7]) () (.inl rfl) oD (.cons (.tmp rfl) (.cons (.tmp rfl) .nil)) rfl ah
  exact zap (cd (zaz (bX (zaT rfl (dA (r:=3) dc) (zyR 1 rfl (zaB (xT (uC (zyG (zaT rfl (uy (show ay (decide ((3:Int)<3))=ay false from aM ay dc) zbd) (zyN (zaJ (za8 rfl (dy (bV (bV (dz (cL () h rfl (bI rfl) ah))))))))))))))))))
 rintro _ h
 rw[z] at h
 refine zyG (zyR 2 rfl (zaI (v:=zI (bc a1.data.toList b1.data.toList)) (vs:=[.string a1,.string b1]) rfl dc rfl rfl rfl wk (wx a1 b1) (zyR 2 rfl (zyN (zaA ?_)))))
 cases h
 exact eu (rs:=[.tmp 6,.tmp 7]) () (.inl rfl) oD (.cons (.tmp rfl) (.cons (.tmp rfl) .nil)) rfl ah
def zcU (e:(List c7)→ad→Option ad) (r1:(List c7)) (c:ad→Int→Option ad) (a:ad) (b:Int):Option ad := aN (decide ((b:Int)<(r1.length:Int))) (co (fun (d:ad→Option ad)=>aT (zca r1 b) fun (q1:c7)=>aV (a.size+3≤140737488355328) <|aV (∀x∈([IntKind.u8.wrap q1.sort,IntKind.u8.wrap (fh .i64 q1.place 8),IntKind.u8.wrap q1.place]:List Int),U8 x) <|aN ((q1.sort:Int)==2) (aV ((a++(gj [IntKind.u8.wrap q1.sort,IntKind.u8.wrap (fh .i64 q1.place 8),IntKind.u8.wrap q1.place])).size+4≤140737488355328) <|aV (∀x∈([IntKind.u8.wrap (fh .i64 (q1.digits.size:Int) 24),IntKind.u8.wrap (fh .i64 (q1.digits.size:Int) 16),IntKind.u8.wrap (fh .i64 (q1.digits.size:Int) 8),IntKind.u8.wrap (q1.digits.size:Int)]:List Int),U8 x) <|aV (((a++(gj [IntKind.u8.wrap q1.sort,IntKind.u8.wrap (fh .i64 q1.place 8),IntKind.u8.wrap q1.place]))++(gj [IntKind.u8.wrap (fh .i64 (q1.digits.size:Int) 24),IntKind.u8.wrap (fh .i64 (q1.digits.size:Int) 16),IntKind.u8.wrap (fh .i64 (q1.digits.size:Int) 8),IntKind.u8.wrap (q1.digits.size:Int)])).size+q1.digits.size≤140737488355328) <|d (((a++(gj [IntKind.u8.wrap q1.sort,IntKind.u8.wrap (fh .i64 q1.place 8),IntKind.u8.wrap q1.place]))++(gj [IntKind.u8.wrap (fh .i64 (q1.digits.size:Int) 24),IntKind.u8.wrap (fh .i64 (q1.digits.size:Int) 16),IntKind.u8.wrap (fh .i64 (q1.digits.size:Int) 8),IntKind.u8.wrap (q1.digits.size:Int)]))++q1.digits)) (d (a++(gj [IntKind.u8.wrap q1.sort,IntKind.u8.wrap (fh .i64 q1.place 8),IntKind.u8.wrap q1.place])))) (fun (f:ad)=>aV (cr (b+1)) <|c f (b+1))) (e r1 a)
def zdi (d:List c7) (e:ad→Option ad) (c:ad→Int→Option ad) (a:ad) (b:Int):Option ad := aN (decide ((b:Int)<(d.length:Int))) (aT (zca d b) fun (q2:c7)=>aV (a.size+q2.marks.size≤140737488355328) <|aV ((a++q2.marks).size+1≤140737488355328) <|aV (cr (b+1)) <|c ((a++q2.marks)++(⟨#[0]⟩)) (b+1)) (e a)
def zdh (e:List c7) (f:ad→Option ad) (c:ad→Int→Option ad) (a:ad) (b:Int):Option ad := aN (decide ((b:Int)<(e.length:Int))) (aT (zca e b) fun (d:c7)=>aV (a.size+1≤140737488355328) <|aV (∀x∈([IntKind.u8.wrap d.great]:List Int),U8 x) <|aV (cr (b+1)) <|c (a++(gj [IntKind.u8.wrap d.great])) (b+1)) (f a)
def s8 (o1:cw) (b:ad):Option ad := co (fun (f:(List c7)→ad→Option ad)=>aT (ud o1 b) fun (r1:(List c7))=>zaC (fun _ _=>none) (zcU f r1) zbx ac 0) (fun (c:List c7) (b1:ad)=>co (fun (e:ad→Option ad)=>aV (b1.size+1≤140737488355328) <|zaC (fun _ _=>none) (zdi c e) zbx (b1++(⟨#[0]⟩)) 0) (fun (g:ad)=>co (fun (d:ad→Option ad)=>zaC (fun _ _=>none) (zdh c d) zbx g 0) (fun (a:ad)=>aV (a.size+b.size≤140737488355328) <|some (a++b))))
theorem zD {_h:Nat} {o1:cw} {_f _a _c _d _g:Hd} {f:ad} {r:ad} (h:s8 o1 f=some r):iu prog 18 [zP _h,.string f] [cells _h [_f.v,.map (some (bi _a)),.map (some (bi _c)),.map (some (bi _d)),_g.v] 72,bH _f.v o1.units,cz (fun n:ad=>af n) (fun n:Int=>aB .i64 n) (bi _a) o1.place,dQ (bi _c) o1.fors,cz (fun n:ad=>af n) (fun n:Bool=>ay n) (bi _d) o1.skips,bH _g.v o1.lines] [] (fun v0:Value=>v0) (fun v0=>[byt 5 v0 r]):=by
 unfold s8 at h
 refine iu.intro func18 rfl ntmps18 (by simp) (fun w0 K ao=>zyG (zyR 1 rfl (zyN (zaJ (zyG (zyR 1 rfl (zaT rfl (zjU tr) (zyN (za8 rfl (zap (zaz (zbq h fun O a3 h=>zaL (β:=(List c7)×ad×Hd×Value) 2 rfl (fun b=>O b.1 b.2.1=some r) (fun b=>[]) (fun b=>[(1,.string f),(5,b.2.2.1.v),(6,b.2.2.2)]) (fun b=>[jI b.2.2.1.v b.1,byt 5 b.2.2.2 b.2.1]) (fun cut=>?_) ?_))))))))))))
 ·refine zyG (zyR 2 rfl (zbk h fun r1 aw h=>pI (vs:=[zP _h,.string f]) ao rfl dc rfl rfl rfl AM (BH (_h:=_h) (o1:=o1) (_f:=_f) (_a:=_a) (_c:=_c) (_d:=_d) (_g:=_g) aw) ah (.ro 0 rfl (.ro 1 rfl (.ro 2 rfl (.ro 3 rfl (.ro 4 rfl (.ro 5 rfl .nil)))))) (fun v2=>iB (k:=0) rfl (fun a bs=>?_))))
  subst bs
  refine zyR 1 rfl (zyH (zyR 1 rfl (zyN (cut (zyG (zyR 1 rfl (gZ (k:=0) rfl dc rfl rfl bA (zyR 1 rfl (zyN (zat (xY (e:=5) (eF (β:=Nat×ad×Int×Value) (fun b=>zaC (fun _ _=>none) (zcU O r1) b.1 b.2.1 b.2.2.1=some r) (fun b=>[]) (fun b=>[(1,.string f),(5,a.v),(6,b.2.2.2),(19,a.v),(20,zI (r1.length:Int)),(21,zI b.2.2.1)]) (fun b=>[jI a.v r1,byt 5 b.2.2.2 b.2.1]) (fun b=>b.1) (zbx,ac,0,(.slice none 0 0)) h rfl (bI rfl) (cp 2) ?_))))))))))))
  rintro⟨L,P,w,v5⟩ h
  cases L with
  |zero=>exact ew h
  |succ L=>
   obtain⟨b3,m⟩:∃ag,ag=zaC (fun _ _=>none) (zcU O r1) L:=⟨_,rfl⟩
   have h:zcU O r1 b3 P w=some r:=by rw[m];exact h
   unfold zcU at h
   refine zyG (zaT rfl zbd (zyN (zaJ (zyB rfl h (fun h=>?_) (fun h=>?_)))))
   ·refine zap (zaz (zbq h fun j2 a2 h=>zaL (β:=ad×Value) 0 rfl (fun b=>j2 b.1=some r) (fun b=>[]) (fun b=>[(1,.string f),(5,a.v),(6,b.2),(19,a.v),(20,zI (r1.length:Int)),(21,zI w)]) (fun b=>[jI a.v r1,byt 5 b.2 b.1]) (fun cut=>cut (zat (zyG (zbk h fun q1 z h=>eJ (k:=0) z bA mU rfl dc rfl rfl rfl rfl (mj (i:=(w:Int).toNat) (j:=0) (k:=0) (q:=q1) (cs:=(gX q1)) ot pO rfl dc rfl rfl (ei z) rfl rfl rfl (zbi rJ rfl dc (fun b6=>eE (k:=2) (vs:=(gX q1)) (l':=(gX q1)) mU rfl rfl rfl rfl rfl (show _≤_ by simp) rfl rfl (zyH (zyR 1 rfl (zab zpF rfl dc rfl (show _=0 from rfl) (zas (k:=2) dO rfl dc rfl rfl rfl (zcH rfl dc rfl (zeW fZ cu) (zab x8 rfl dc rfl (show _=1 from rfl) (zas (k:=2) dO rfl dc rfl rfl rfl (zaT rfl (rD dc) (zcH rfl dc rfl (zeW fZ cu) (zab x8 rfl dc rfl (show _=1 from rfl) (zas (k:=2) dO rfl dc rfl rfl rfl (zcH rfl dc rfl (zeW fZ cu) (fx (cs:=[.int .u8 (IntKind.u8.wrap q1.sort),.int .u8 (IntKind.u8.wrap (fh .i64 q1.place 8)),.int .u8 (IntKind.u8.wrap q1.place)]) (te:=5) (ps:=[(0,.tmp 28),(1,.tmp 32),(2,.tmp 35)]) rfl dc rfl (fun _=>by kernel_rfl) (fun b7=>zbs h fun bk h=>zbs h fun bh h=>sB (k:=1) (k2:=3) (ys:=(gj [IntKind.u8.wrap q1.sort,IntKind.u8.wrap (fh .i64 q1.place 8),IntKind.u8.wrap q1.place])) cg oo rfl dc rfl rfl rfl rfl (vS bh) rfl bk (fun v7=>zyR 1 rfl (zyH (zab zpF rfl dc rfl (show _=0 from rfl) (zas (k:=2) dO rfl dc rfl rfl rfl (zaT rfl zbm (zyN (zyB rfl h (fun h=>zyG (zab wc rfl dc rfl (show _=2 from rfl) (zas (k:=2) dU rfl dc rfl rfl rfl (zcG rfl dc rfl an (zyR 1 rfl (zyH (zyR 2 rfl (zaT rfl (rD dc) (zcH rfl dc rfl (zeW fZ cu) (zyR 1 rfl (zaT rfl (rD dc) (zcH rfl dc rfl (zeW fZ cu) (zyR 1 rfl (zaT rfl (rD dc) (zcH rfl dc rfl (zeW fZ cu) (zyR 1 rfl (zcH rfl dc rfl (zeW fZ cu) (fx (cs:=[.int .u8 (IntKind.u8.wrap (fh .i64 (q1.digits.size:Int) 24)),.int .u8 (IntKind.u8.wrap (fh .i64 (q1.digits.size:Int) 16)),.int .u8 (IntKind.u8.wrap (fh .i64 (q1.digits.size:Int) 8)),.int .u8 (IntKind.u8.wrap (q1.digits.size:Int))]) (te:=5) (ps:=[(0,.tmp 47),(1,.tmp 50),(2,.tmp 53),(3,.tmp 55)]) rfl dc rfl (fun _=>by kernel_rfl) (fun b8=>zbs h fun bb h=>zbs h fun a9 h=>sB (k:=1) (k2:=4) (ys:=(gj [IntKind.u8.wrap (fh .i64 (q1.digits.size:Int) 24),IntKind.u8.wrap (fh .i64 (q1.digits.size:Int) 16),IntKind.u8.wrap (fh .i64 (q1.digits.size:Int) 8),IntKind.u8.wrap (q1.digits.size:Int)])) cg oo rfl dc rfl rfl rfl rfl (vS a9) rfl bb (fun v8=>zyR 1 rfl (zyN (bX (zyR 1 rfl (zab wc rfl dc rfl (show _=2 from rfl) (zas (k:=2) dU rfl dc rfl rfl rfl (zbs h fun a8 h=>tF (k:=1) cg an oo rfl dc rfl rfl rfl a8 (fun v9=>zyR 1 rfl (zaB (cd (mD (((P++(gj [IntKind.u8.wrap q1.sort,IntKind.u8.wrap (fh .i64 q1.place 8),IntKind.u8.wrap q1.place]))++(gj [IntKind.u8.wrap (fh .i64 (q1.digits.size:Int) 24),IntKind.u8.wrap (fh .i64 (q1.digits.size:Int) 16),IntKind.u8.wrap (fh .i64 (q1.digits.size:Int) 8),IntKind.u8.wrap (q1.digits.size:Int)]))++q1.digits,v9) h 2)))))))))))))))))))))))))))))) (fun h=>zap (cd (mD (P++(gj [IntKind.u8.wrap q1.sort,IntKind.u8.wrap (fh .i64 q1.place 8),IntKind.u8.wrap q1.place]),v7) h 2))))))))))))))))))))))))))))))) ?_))
    rintro⟨b5,v6⟩ h
    rw[a2] at h
    refine bX (zbs h fun a7 h=>zaT rfl (dA (r:=w+1) (ai _ a7)) (zyR 1 rfl (zaB ?_)))
    subst m
    exact aD (L,b5,w+1,v6) h 2
   exact dy (bV (bV (dz (mD (r1,P,a,v5) h 2))))
 rintro⟨d,b1,c,v1⟩ h
 rw[a3] at h
 refine zbq h fun N a1 h=>zaL (β:=ad×Value) 1 rfl (fun b=>N b.1=some r) (fun b=>[]) (fun b=>[(1,.string f),(5,c.v),(6,b.2)]) (fun b=>[jI c.v d,byt 5 b.2 b.1]) (fun cut=>?_) ?_
 ·refine zyG (zyR 1 rfl (fx (cs:=[.int .u8 0]) (te:=5) (ps:=[(0,.const (.int .u8 0))]) rfl dc rfl (fun _=>by kernel_rfl) (fun c5=>zbs h fun a6 h=>sB (k:=1) (k2:=2) (ys:=(⟨#[0]⟩)) cg oo rfl dc rfl rfl rfl rfl rfl rfl a6 (fun W=>zyR 1 rfl (zyN (cut (zyG (zyR 1 rfl (gZ (k:=0) rfl dc rfl rfl bA (zyR 1 rfl (zyN (zat (eF (β:=Nat×ad×Int×Value) (fun b=>zaC (fun _ _=>none) (zdi d N) b.1 b.2.1 b.2.2.1=some r) (fun b=>[]) (fun b=>[(1,.string f),(5,c.v),(6,b.2.2.2),(66,c.v),(67,zI (d.length:Int)),(68,zI b.2.2.1)]) (fun b=>[jI c.v d,byt 5 b.2.2.2 b.2.1]) (fun b=>b.1) (zbx,b1++(⟨#[0]⟩),0,W) (by exact h) rfl (bI rfl) (cp 2) ?_)))))))))))))
  rintro⟨J,u,H,V⟩ h
  cases J with
  |zero=>exact ew h
  |succ J=>
   obtain⟨b2,l⟩:∃ag,ag=zaC (fun _ _=>none) (zdi d N) J:=⟨_,rfl⟩
   have h:zdi d N b2 u H=some r:=by rw[l];exact h
   unfold zdi at h
   refine zyG (zaT rfl zbd (zyN (zaJ (zyB rfl h (fun h=>?_) (fun h=>?_)))))
   ·refine zap (zaz (zaJ (zat (zyG (zbk h fun q2 y h=>eJ (k:=0) y bA mU rfl dc rfl rfl rfl rfl (mj (i:=(H:Int).toNat) (j:=0) (k:=0) (q:=q2) (cs:=(gX q2)) ot pO rfl dc rfl rfl (ei y) rfl rfl rfl (zbi rJ rfl dc (fun c4=>eE (k:=2) (vs:=(gX q2)) (l':=(gX q2)) mU rfl rfl rfl rfl rfl (show _≤_ by simp) rfl rfl (zyH (zyR 1 rfl (zab zrI rfl dc rfl (show _=3 from rfl) (zas (k:=2) dU rfl dc rfl rfl rfl (zbs h fun a5 h=>tF (k:=1) cg an oo rfl dc rfl rfl rfl a5 (fun ch=>zyR 1 rfl (zyN (bX (zyR 1 rfl (fx (cs:=[.int .u8 0]) (te:=5) (ps:=[(0,.const (.int .u8 0))]) rfl dc rfl (fun _=>by kernel_rfl) (fun c3=>zbs h fun a4 h=>sB (k:=1) (k2:=3) (ys:=(⟨#[0]⟩)) cg oo rfl dc rfl rfl rfl rfl rfl rfl a4 (fun U=>zyR 1 rfl (zaB (cd (zaz (bX (zbs h fun F h=>zaT rfl (dA (r:=H+1) (ai _ F)) (zyR 1 rfl (zaB ?_)))))))))))))))))))))))))))
    subst l
    exact aD (J,(u++q2.marks)++(⟨#[0]⟩),H+1,U) h 2
   exact dy (bV (bV (dz (mD (u,V) h 2))))
 rintro⟨b9,Y⟩ h
 rw[a1] at h
 refine zbq h fun M a0 h=>zaL (β:=ad×Value) 0 rfl (fun b=>M b.1=some r) (fun b=>[]) (fun b=>[(1,.string f),(6,b.2)]) (fun b=>[byt 5 b.2 b.1]) (fun cut=>?_) ?_
 ·refine cut (zyG (zyR 1 rfl (gZ (k:=0) rfl dc rfl rfl bA (zyR 1 rfl (zyN (zat (eF (β:=Nat×ad×Int×Value) (fun b=>zaC (fun _ _=>none) (zdh d M) b.1 b.2.1 b.2.2.1=some r) (fun b=>[]) (fun b=>[(1,.string f),(6,b.2.2.2),(80,c.v),(81,zI (d.length:Int)),(82,zI b.2.2.1)]) (fun b=>[byt 5 b.2.2.2 b.2.1,jI c.v d]) (fun b=>b.1) (zbx,b9,0,Y) h rfl (bI rfl) (bW [1,0] kr rfl) ?_)))))))
  rintro⟨I,t,G,T⟩ h
  cases I with
  |zero=>exact ew h
  |succ I=>
   obtain⟨b0,g⟩:∃ag,ag=zaC (fun _ _=>none) (zdh d M) I:=⟨_,rfl⟩
   have h:zdh d M b0 t G=some r:=by rw[g];exact h
   unfold zdh at h
   refine zyG (zaT rfl zbd (zyN (zaJ (zyB rfl h (fun h=>?_) (fun h=>?_)))))
   ·refine zap (zaz (zaJ (zat (zyG (zbk h fun p x h=>eJ (k:=1) x bA mU rfl dc rfl rfl rfl rfl (mj (i:=(G:Int).toNat) (j:=0) (k:=1) (q:=p) (cs:=(gX p)) ot pO rfl dc rfl rfl (ei x) rfl rfl rfl (zbi rJ rfl dc (fun c0=>eE (k:=2) (vs:=(gX p)) (l':=(gX p)) mU rfl rfl rfl rfl rfl (show _≤_ by simp) rfl rfl (zyN (bX (zyR 1 rfl (zab zui rfl dc rfl (show _=4 from rfl) (zas (k:=2) dO rfl dc rfl rfl rfl (zcH rfl dc rfl (zeW fZ cu) (fx (cs:=[.int .u8 (IntKind.u8.wrap p.great)]) (te:=5) (ps:=[(0,.tmp 89)]) rfl dc rfl (fun _=>by kernel_rfl) (fun cv=>zbs h fun E h=>zbs h fun D h=>sB (k:=0) (k2:=3) (ys:=(gj [IntKind.u8.wrap p.great])) cg oo rfl dc rfl rfl rfl rfl (vS D) rfl E (fun S=>zyR 1 rfl (zaB (cd (zaz (bX (zbs h fun C h=>zaT rfl (dA (r:=G+1) (ai _ C)) (zyR 1 rfl (zaB ?_))))))))))))))))))))))))
    subst g
    exact aD (I,t++(gj [IntKind.u8.wrap p.great]),G+1,S) h 2
   exact dy (bV (bV (dz (mD (t,T) h 1))))
 rintro⟨c2,cc⟩ h
 rw[a0] at h
 refine zyG (zyR 2 rfl (zbs h fun B h=>tF (k:=0) cg an oo rfl dc rfl rfl rfl B (fun Q=>zyR 1 rfl (zyN (zaA ?_)))))
 cases h
 exact eu (rs:=[.tmp 4]) Q (.inl rfl) results18 (.cons (.tmp rfl) .nil) rfl (cp 1)
def zd1 (o1:cw) (a:Option ad) (r1:(List c7)) (b:Option ad):Option ad := aN (decide ((0:Int)<(r1.length:Int))) (aT (zca r1 0) fun (q1:c7)=>aN ((q1.sort:Int)==3) (aT (zca o1.units q1.place) fun (q2:ad)=>aT (ve q2) fun (r2:ad)=>aT (Fe r2) fun (r3:ad)=>some r3) (aN ((q1.sort:Int)==2) (some (⟨#[48,45,57]⟩:ad)) (a))) (a)
def Fh (o1:cw) (a:ad):Option ad := co (fun (b:Option ad)=>aT (ud o1 a) fun (r1:(List c7))=>zaC none (zd1 o1 b r1) zbx) (some (⟨#[63]⟩:ad))
theorem Tv {_h:Nat} {o1:cw} {_f _a _c _d _g:Hd} {p:ad} {r:ad} (h:Fh o1 p=some r):iu prog 23 [zP _h,.string p] [cells _h [_f.v,.map (some (bi _a)),.map (some (bi _c)),.map (some (bi _d)),_g.v] 72,bH _f.v o1.units,cz (fun n:ad=>af n) (fun n:Int=>aB .i64 n) (bi _a) o1.place,dQ (bi _c) o1.fors,cz (fun n:ad=>af n) (fun n:Bool=>ay n) (bi _d) o1.skips,bH _g.v o1.lines] [] (fun _:Unit=>(.string r)) (fun _=>[]):=by
 unfold Fh at h
 refine iu.intro func23 rfl ntmps23 (by simp) (fun w0 K a=>zbq h fun m z h=>zaL (β:=Unit) 1 rfl (fun b=>m=some r) (fun b=>[]) (fun b=>[]) (fun b=>[]) (fun cut=>?_) ?_)
 ·refine zyG (zyR 1 rfl (zyN (cut (zyG (zyR 1 rfl (zaT rfl (MP tr) (zyN (ir rfl (zaJ (bX (zyR 2 rfl (zbk h fun r1 y h=>pI (vs:=[zP _h,.string p]) a rfl dc rfl rfl rfl AM (BH (_h:=_h) (o1:=o1) (_f:=_f) (_a:=_a) (_c:=_c) (_d:=_d) (_g:=_g) y) ah (.ro 0 rfl (.ro 1 rfl (.ro 2 rfl (.ro 3 rfl (.ro 4 rfl (.ro 5 rfl .nil)))))) (fun v1=>iB (k:=0) rfl (fun g B=>?_))))))))))))))
  subst B
  refine gZ (k:=0) rfl dc rfl rfl bA (zyR 1 rfl (zyN (zat (eF (β:=Nat) (fun b=>zaC none (zd1 o1 m r1) b=some r) (fun b=>[]) (fun b=>[(0,zP _h),(11,g.v),(12,zI (r1.length:Int)),(13,zI 0)]) (fun b=>[jI g.v r1]) (fun b=>b) zbx h rfl (bI rfl) (cp 1) (fun t h=>?_)))))
  cases t with
  |zero=>exact ew h
  |succ t=>
   obtain⟨C,l⟩:∃ag,ag=zaC none (zd1 o1 m r1) t:=⟨_,rfl⟩
   have h:zd1 o1 m r1 C=some r:=by rw[l];exact h
   unfold zd1 at h
   refine zyG (zaT rfl zbd (zyN (zaJ (zyB rfl h (fun h=>?_) (fun h=>?_)))))
   ·refine zap (zaz (zaJ (zat (zyG (zbk h fun q1 f h=>eJ (k:=0) f bA mU rfl dc rfl rfl rfl rfl (mj (i:=(0:Int).toNat) (j:=0) (k:=0) (q:=q1) (cs:=(gX q1)) ot pO rfl dc rfl rfl (ei f) rfl rfl rfl (zbi rJ rfl dc (fun b1=>eE (k:=1) (vs:=(gX q1)) (l':=(gX q1)) mU rfl rfl rfl rfl rfl (show _≤_ by simp) rfl rfl (zyN (zaJ (zyG (zab zpF rfl dc rfl (show _=0 from rfl) (zas (k:=1) dO rfl dc rfl rfl rfl (zyN (zat (zyG (zaT rfl zbm (zyR 1 rfl (zyN (zyB rfl h (fun h=>?_) (fun h=>?_)))))))))))))))))))))
    ·refine zaJ (zbk h fun q2 e h=>zbk h fun r2 x h=>zbk h fun r3 w h=>zcI 6 [(0,21,zP _h),(1,22,zP _h),(2,23,zP _h),(3,24,_f.v),(4,25,.pointer (some ⟨b1,1,none⟩)),(5,26,zI q1.place)] mixed kr kr dc (by rfl) kr kr (zyP 1 0 rfl (zac (fun D n d c u i=>zbc rfl dc (bt 0 u d) (zaN 1 u i)) (zac (fun D n d c u i=>zab znT rfl dc (bt 1 u d) (show _=0 from rfl) (zaN 2 u i)) (zac (fun D n d c u i=>zeo (i:=0) a rfl oq rfl dc (bt 2 u d) rfl (zaN 3 u i)) (zac (fun D n d c u i=>zab x8 rfl dc (zbA (by rfl) rfl) (show _=1 from rfl) (zaN 4 u i)) (zac (fun D n d c u i=>zas (k:=1) dO rfl dc (bt 4 u d) rfl rfl (zaN 5 u i)) bQ)))))) (fy (a.vw (i:=1) rfl) e aK gV rfl dc rfl rfl rfl (C5 (n:=0+(q1.place:Int).toNat) (j:=0) (i:=1) (q:=q2) a rfl dU gK rfl dc rfl (ce (a.vw (i:=1) rfl) e) rfl dc rfl (zaI (v:=.string r2) (vs:=[.string q2]) rfl dc rfl rfl rfl HD (JG x) (zaI (v:=.string r3) (vs:=[.string r2]) rfl dc rfl rfl rfl N7 (To w) (zyR 1 rfl (zyN (zaA (cx (bP (cx (bP (bP (cx (bP ?_)))))))))))))))
     cases h
     exact cX 4 results23
    refine zyG (zaT rfl zbm (zyR 1 rfl (zyN (zyB rfl h (fun h=>?_) (fun h=>?_)))))
    ·refine zyG (zyR 1 rfl (zyN (zaA (cx (bP (cx (bP (bP (cx (bP ?_))))))))))
     cases h
     exact cX 4 results23
    exact zap (cd (zaz (dy (Ac dc (bV (bV (dz (cL () h rfl (rA) ah))))))))
   exact dy (bV (bV (dz (cL () h rfl (rA) ah))))
 rintro _ h
 rw[z] at h
 refine zyG (zyR 1 rfl (zyN (zaA ?_)))
 cases h
 exact cX 4 results23
abbrev cb:=bc
theorem oR (a b:UInt8) (x y:List UInt8):cb (a::x) (b::y)=if a.toNat<b.toNat then -1 else if b.toNat<a.toNat then 1 else cb x y:=by
 show (if a<b then (-1:Int) else if b<a then 1 else cb x y)=_
 simp only[UInt8.lt_iff_toNat_lt]
theorem Tw (b:UInt8) (y:List UInt8):cb [] (b::y)=-1:=rfl
theorem Tx (b:UInt8) (y:List UInt8):cb (b::y) []=1:=rfl
theorem xl:∀x:List UInt8,cb x x=0
 |[]=>rfl
 |a::x=>by rw[oR,aj (fq _),aj (fq _),xl x]
theorem BP:∀ {x y:List UInt8},cb x y=0→x=y
 |[],[],_=>rfl
 |[],_::_,h=>by cases h
 |_::_,[],h=>by cases h
 |a::x,b::y,h=>by
  rw[oR] at h
  split at h
  ·cases h
  ·split at h
   ·cases h
   ·have:a=b:=dZ.1 (by omega)
    rw[this,BP h]
theorem KQ:∀x y:List UInt8,cb y x=- cb x y
 |[],[]=>rfl
 |[],_::_=>rfl
 |_::_,[]=>rfl
 |a::x,b::y=>by
  rw[oR,oR,KQ x y]
  by_cases h1:b.toNat<a.toNat
  ·rw[am h1,aj (by omega),am h1]
  ·rw[aj h1,aj h1]
   by_cases h2:a.toNat<b.toNat
   ·rw[am h2,am h2];rfl
   ·rw[aj h2,aj h2]
theorem Fi:∀x y:List UInt8,cb x y=-1∨cb x y=0∨cb x y=1
 |[],[]=>.inr (.inl rfl)
 |[],_::_=>.inl rfl
 |_::_,[]=>.inr (.inr rfl)
 |a::x,b::y=>by
  rw[oR]
  split
  ·exact .inl rfl
  ·split
   ·exact .inr (.inr rfl)
   ·exact Fi x y
def lq:Int→List (List UInt8)→List (List UInt8)→Int×Int
 |i,x::xs,y::ys=>if cb x y=0 then lq (i+1) xs ys else (cb x y,i)
 |_,_,_=>(0,0)
theorem KR:∀ (l:List (List UInt8)) (i:Int),lq i l l=(0,0)
 |[],i=>rfl
 |x::xs,i=>by rw[lq,am (xl x),KR xs]
theorem KS:∀ (x y:List (List UInt8)) (i:Int),0<i→x.length=y.length→(lq i x y=(0,0)∧x=y)∨((lq i x y).1=-1∨(lq i x y).1=1)∧i≤(lq i x y).2∧(lq i x y).2<i+x.length∧x≠y
 |[],[],i,_,_=>.inl ⟨rfl,rfl⟩
 |x::xs,y::ys,i,hi,h=>by
  rw[lq]
  by_cases h0:cb x y=0
  ·rw[am h0]
   rcases KS xs ys (i+1) (by omega) (by simpa using h) with⟨h1,h2⟩|⟨h1,h2,h3,a⟩
   ·exact .inl ⟨h1,by rw[BP h0,h2]⟩
   ·exact .inr ⟨h1,by omega,by rw[ab];push_cast;omega,fun e=>a (by injection e)⟩
  ·rw[aj h0]
   refine .inr ⟨?_,eN _,by rw[ab];push_cast;omega,fun e=>h0 (by injection e with e1 e2;rw[e1,xl])⟩
   rcases Fi x y with h|h|h
   ·exact .inl h
   ·exact absurd h h0
   ·exact .inr h
theorem KT:∀ (x y:List (List UInt8)) (i:Int),lq i y x=(-(lq i x y).1,(lq i x y).2)
 |[],[],i=>rfl
 |[],_::_,i=>rfl
 |_::_,[],i=>rfl
 |x::xs,y::ys,i=>by
  rw[lq,lq,KQ x y,KT xs ys]
  by_cases h:cb x y=0
  ·rw[am (by omega),am h]
  ·rw[aj (by omega),aj h]
theorem Fj:∀ (a:List UInt8) (x y:List UInt8),cb (a++x) (a++y)=cb x y
 |[],x,y=>rfl
 |c::a,x,y=>by rw[aX,aX,oR,aj (fq _),aj (fq _),Fj a]
def be:Nat→Nat→List UInt8
 |0,_=>[]
 |k+1,m=>bB (m / 256 ^ k)::be k (m % 256 ^ k)
theorem BQ:∀ (k m n:Nat) (r s:List UInt8),m<256 ^ k→n<256 ^ k→cb (be k m++r) (be k n++s)=if m<n then -1 else if n<m then 1 else cb r s
 |0,m,n,r,s,hm,hn=>by
  have:m=0:=by simpa using hm
  have:n=0:=by simpa using hn
  subst m;subst n;rfl
 |k+1,m,n,r,s,hm,hn=>by
  rw[be,be,aX,aX,oR,BQ k _ _ r s (nV _ (nA (by omega))) (nV _ (nA (by omega)))]
  have e1:=Nat.div_add_mod m (256 ^ k)
  have e2:=Nat.div_add_mod n (256 ^ k)
  have g:m / 256 ^ k<256:=rp (by rw[Nat.pow_succ] at hm;exact hm)
  have f:n / 256 ^ k<256:=rp (by rw[Nat.pow_succ] at hn;exact hn)
  have i:=nV m (nA (n:=k) (show 0<256 by omega))
  have h:=nV n (nA (n:=k) (show 0<256 by omega))
  generalize 256 ^ k=P at *
  generalize m / P=a at *
  generalize n / P=b at *
  have hu:∀x:Nat,x<256→(bB x).toNat=x:=fun x hx=>by
   simp only[fg]
   omega
  rw[hu a g,hu b f]
  by_cases c1:a<b
  ·rw[am c1,am]
   have:P*(a+1)≤P*b:=sx P c1
   rw[Nat.mul_add] at this
   omega
  ·rw[aj c1]
   by_cases c:b<a
   ·have:P*(b+1)≤P*a:=sx P c
    rw[Nat.mul_add] at this
    rw[am c,aj (by omega),am (by omega)]
   ·have:a=b:=by omega
    subst this
    rw[aj c]
    by_cases e:m % P<n % P
    ·rw[am e,am (by omega)]
    ·rw[aj e]
     by_cases d:n % P<m % P
     ·rw[am d,aj (by omega),am (by omega)]
     ·rw[aj d,aj (by omega),aj (by omega)]
def sg (n:Int):Int:=if n<0 then -1 else if 0<n then 1 else 0
theorem BR (x y:List UInt8):sg (cb x y)=cb x y:=by rcases Fi x y with h | h | h<;>rw[h]<;>rfl
theorem gN {n:Int}:sg n=0↔n=0:=by
 unfold sg
 by_cases h:n<0
 ·rw[am h];omega
 ·rw[aj h]
  by_cases h2:0<n
  ·rw[am h2];omega
  ·rw[aj h2];omega
def mH (a b:Int):Int:=if a=0 then b else a
def iM (a b:El):Int:=mH (a.sort-b.sort) (mH (a.place-b.place) (mH ((a.digits.size:Int)-(b.digits.size:Int)) (cb a.digits.data.toList b.digits.data.toList)))
def mI (a b:El):Int:=cb a.marks.data.toList b.marks.data.toList
def ox (a b:El):Int:=a.great-b.great
def gn (c:El→El→Int):List El→List El→Int
 |[],[]=>0
 |[],_::_=>-1
 |_::_,[]=>1
 |x::xs,y::ys=>if c x y=0 then gn c xs ys else c x y
theorem zE {c:El→El→Int}:∀ {x y:List El},gn c x y=0→x.length=y.length
 |[],[],_=>rfl
 |[],_::_,h=>by cases h
 |_::_,[],h=>by cases h
 |x::xs,y::ys,h=>by
  rw[gn] at h
  split at h
  ·rw[ab,ab,zE h]
  ·rename_i h1;exact absurd h h1
structure ju (e:El):Prop where
 so:e.sort=1∨e.sort=2∨e.sort=3∨e.sort=4
 pl:0≤e.place∧e.place<65536
 di:e.digits.size≤300000
 nd:e.sort≠2→e.digits=ac
 ma:∀c∈e.marks.data.toList,c≠0
 ml:e.marks.size≤300000
 gr:e.great=0∨e.great=1
def c1 (e:El):List UInt8:=be 1 e.sort.toNat++be 2 e.place.toNat++(if e.sort=2 then be 4 e.digits.size++e.digits.data.toList else [])
def k1 (x:List El):List UInt8:=x.flatMap c1++[0]
def k2 (x:List El):List UInt8:=x.flatMap fun e=>e.marks.data.toList++[0]
def k3 (x:List El):List UInt8:=x.map fun e=>bB e.great.toNat
theorem KU:∀ {x y r s:List UInt8},x.length=y.length→cb (x++r) (y++s)=if cb x y=0 then cb r s else cb x y
 |[],[],r,s,_=>by rw[xl,am rfl];rfl
 |a::x,b::y,r,s,h=>by
  rw[aX,aX,oR,oR,KU (by simpa using h)]
  by_cases h1:a.toNat<b.toNat
  ·simp only[am h1];rfl
  ·simp only[aj h1]
   by_cases h2:b.toNat<a.toNat
   ·simp only[am h2];rfl
   ·simp only[aj h2]
theorem Ty {a b:El} (ha:ju a) (hb:ju b) (r s:List UInt8):cb (c1 a++r) (c1 b++s)=if iM a b=0 then cb r s else sg (iM a b):=by
 have e:=ha.so;have d:=hb.so;have p1:=ha.pl;have p2:=hb.pl;have d1:=ha.di;have d2:=hb.di
 unfold c1 iM mH
 rw[aA,aA,aA,aA,BQ 1 _ _ _ _ (by omega) (by omega),BQ 2 _ _ _ _ (by omega) (by omega)]
 by_cases h1:a.sort-b.sort=0
 ·have e1:a.sort=b.sort:=by omega
  rw[am h1,e1,aj (fq _),aj (fq _)]
  by_cases h2:a.place-b.place=0
  ·have e2:a.place=b.place:=by omega
   rw[am h2,e2,aj (fq _),aj (fq _)]
   by_cases h3:b.sort=2
   ·rw[am h3,am h3,aA,aA,BQ 4 _ _ _ _ (by omega) (by omega)]
    by_cases c:(a.digits.size:Int)-(b.digits.size:Int)=0
    ·rw[am c,aj (by omega),aj (by omega),KU (by rw[←gJ,←gJ];omega),BR]
    ·rw[aj c,aj c]
     unfold sg
     by_cases h5:a.digits.size<b.digits.size
     ·rw[am h5,am (by omega)]
     ·rw[aj h5,am (by omega),aj (by omega),am (by omega)]
   ·rw[aj h3,aj h3,ha.nd (by omega),hb.nd h3]
    rfl
  ·rw[aj h2,aj h2]
   unfold sg
   by_cases h5:a.place.toNat<b.place.toNat
   ·rw[am h5,am (by omega)]
   ·rw[aj h5,am (by omega),aj (by omega),am (by omega)]
 ·rw[aj h1,aj h1]
  unfold sg
  by_cases h5:a.sort.toNat<b.sort.toNat
  ·rw[am h5,am (by omega)]
  ·rw[aj h5,am (by omega),aj (by omega),am (by omega)]
theorem KV {e:El} (h:ju e):∃c l,c1 e=c::l∧0<c.toNat:=by
 have:=h.so
 refine⟨bB (e.sort.toNat / 256 ^ 0),_,rfl,?_⟩
 rw[ql,mA,fg]
 omega
theorem Fk:∀ {x y:List El} (r s:List UInt8),(∀e∈x,ju e)→(∀e∈y,ju e)→cb (k1 x++r) (k1 y++s)=if gn iM x y=0 then cb r s else sg (gn iM x y)
 |[],[],r,s,_,_=>Fj [0] r s
 |[],b::y,r,s,_,hb=>by
  obtain⟨c,l,e,hc⟩:=KV (hb b (ar ..))
  unfold k1
  rw[aG,e,mO]
  show cb (0::([]++r)) (c::_)=_
  rw[oR,am (by show (0:UInt8).toNat<_;exact hc)];rfl
 |a::x,[],r,s,ha,_=>by
  obtain⟨c,l,e,hc⟩:=KV (ha a (ar ..))
  unfold k1
  rw[aG,e,mO]
  show cb (c::_) (0::([]++s))=_
  rw[oR,aj (by show ¬_<(0:UInt8).toNat;exact Nat.not_lt_zero _),am (by show (0:UInt8).toNat<_;exact hc)];rfl
 |a::x,b::y,r,s,ha,hb=>by
  have e1:∀ (e:El) (l:List El) (r:List UInt8),k1 (e::l)++r=c1 e++(k1 l++r):=fun e l r=>by unfold k1;rw[aG];simp
  rw[e1,e1,Ty (ha a (ar ..)) (hb b (ar ..)),Fk r s (fun e h=>ha e (ak _ h)) (fun e h=>hb e (ak _ h)),gn]
  by_cases h:iM a b=0
  ·simp only[am h]
  ·simp only[aj h]
theorem KW:∀ {x y r s:List UInt8},(∀c∈x,c≠0)→(∀c∈y,c≠0)→cb (x++0::r) (y++0::s)=if cb x y=0 then cb r s else cb x y
 |[],[],r,s,_,_=>by rw[xl,am rfl];exact Fj [0] r s
 |[],b::y,r,s,_,hb=>by
  have:b.toNat≠0:=fun h=>hb b (ar ..) (dZ.1 h)
  show cb (0::r) (b::(y++0::s))=_
  rw[oR,am (by show (0:UInt8).toNat<_;show 0<_;omega),Tw];rfl
 |a::x,[],r,s,ha,_=>by
  have:a.toNat≠0:=fun h=>ha a (ar ..) (dZ.1 h)
  show cb (a::(x++0::r)) (0::s)=_
  rw[oR,aj (by show ¬_<(0:UInt8).toNat;exact Nat.not_lt_zero _),am (by show (0:UInt8).toNat<_;show 0<_;omega),Tx];rfl
 |a::x,b::y,r,s,ha,hb=>by
  rw[aX,aX,oR,oR,KW (fun c h=>ha c (ak _ h)) (fun c h=>hb c (ak _ h))]
  by_cases h1:a.toNat<b.toNat
  ·simp only[am h1];rfl
  ·simp only[aj h1]
   by_cases h2:b.toNat<a.toNat
   ·simp only[am h2];rfl
   ·simp only[aj h2]
theorem Fl:∀ {x y:List El} (r s:List UInt8),(∀e∈x,ju e)→(∀e∈y,ju e)→x.length=y.length→cb (k2 x++r) (k2 y++s)=if gn mI x y=0 then cb r s else sg (gn mI x y)
 |[],[],r,s,_,_,_=>rfl
 |a::x,b::y,r,s,ha,hb,h=>by
  have e1:∀ (e:El) (l:List El) (r:List UInt8),k2 (e::l)++r=e.marks.data.toList++0::(k2 l++r):=fun e l r=>by unfold k2;rw[aG];simp
  rw[e1,e1,KW (ha a (ar ..)).ma (hb b (ar ..)).ma,Fl r s (fun e h=>ha e (ak _ h)) (fun e h=>hb e (ak _ h)) (by simpa using h),gn]
  show (if mI a b=0 then _ else mI a b)=_
  by_cases h:mI a b=0
  ·simp only[am h]
  ·simp only[aj h];exact (BR _ _).symm
theorem Fm:∀ {x y:List El} (r s:List UInt8),(∀e∈x,ju e)→(∀e∈y,ju e)→x.length=y.length→cb (k3 x++r) (k3 y++s)=if gn ox x y=0 then cb r s else sg (gn ox x y)
 |[],[],r,s,_,_,_=>rfl
 |a::x,b::y,r,s,ha,hb,h=>by
  have g1:=(ha a (ar ..)).gr
  have g2:=(hb b (ar ..)).gr
  have c:=Fm r s (fun e h=>ha e (ak _ h)) (fun e h=>hb e (ak _ h)) (x:=x) (y:=y) (by simpa using h)
  show cb (bB a.great.toNat::(k3 x++r)) (bB b.great.toNat::(k3 y++s))=_
  rw[oR,c,gn]
  unfold ox
  rcases g1 with g1|g1<;>rcases g2 with g2|g2<;>rw[g1,g2]<;>rfl
theorem Tz (l:List Int) (c:l.length≤1000):zp l=some ((l.find? fun x=>!decide (x=0)).getD 0):=by
 unfold zp
 refine cB ?_
 have:=wG (xs:=l) (F:=zfg l (some 0)) (bot:=fun _=>none) (g:=fun x=>if x=0 then none else some (some x)) (J:=some 0) (fun ag k x hx=>by
  have hk:=oc hx
  unfold zfg
  refine bS (lR hx) (aY (kO hx) ?_)
  by_cases h:x=0
  ·rw[am h];exact bM (by rw[h];rfl) (zdG (ja (by omega)) rfl)
  ·rw[aj h];exact bS (cQ.2 h) rfl) (fun ag=>by unfold zfg;exact bM lC rfl) (n:=zbx) (j0 (by omega))
 refine this.trans ?_
 clear this c
 induction l with
 |nil=>rfl
 |cons a l b=>
  rw[List.findSome?_cons,List.find?_cons]
  by_cases h:a=0
  ·rw[am h,h];exact b
  ·rw[aj h,al h];rfl
theorem TA (a b:El) (ha:ju a) (hb:ju b):xk a b=some (iM a b):=by
 have e:=ha.so;have d:=hb.so;have p1:=ha.pl;have p2:=hb.pl;have d1:=ha.di;have d2:=hb.di
 unfold xk
 refine gO (gO (gO (aY (Tz _ (show 4≤1000 by omega)) ?_)))
 congr 1
 unfold iM mH
 simp only[List.find?_cons,List.find?_nil]
 by_cases h1:a.sort-b.sort=0
 ·simp only[h1,decide_true,cW,if_true]
  by_cases h2:a.place-b.place=0
  ·simp only[h2,decide_true,cW,if_true]
   by_cases h3:(a.digits.size:Int)-(b.digits.size:Int)=0
   ·simp only[h3,decide_true,cW,if_true]
    by_cases c:bc a.digits.data.toList b.digits.data.toList=0
    ·simp only[c,decide_true,cW];rfl
    ·simp only[c,decide_false,cT];rfl
   ·simp only[h3,decide_false,cT,if_false];rfl
  ·simp only[h2,decide_false,cT,if_false];rfl
 ·simp only[h1,decide_false,cT,if_false];rfl
theorem Fo {F:(Int→Option Int)→Int→Option Int} {cv:El→El→Option Int} {c:El→El→Int} (x y:List El) (j:x.length≤1000000000)
  (g:∀ag k,F ag k=aN (decide ((k:Int)<(x.length:Int))) (aT (zca x k) fun (q1:El)=>aN (decide (((y.length:Int):Int)≤k)) (some 1) (aT (zca y k) fun (q2:El)=>aT (cv q1 q2) fun (r1:Int)=>aN ((r1:Int) != 0) (some r1) (aV (cr (k+1))<|ag (k+1)))) (aN (decide (((x.length:Int):Int)<(y.length:Int))) (some (-1)) (some 0)))
  (hc:∀a∈x,∀b∈y,cv a b=some (c a b)):zaC (fun _=>none) F zbx 0=some (gn c x y):=by
 have key:∀ (n k:Nat),k≤x.length→k≤y.length→x.length-k<n→zaC (fun _=>none) F n (k:Int)=some (gn c (x.drop k) (y.drop k)):=by
  intro n
  induction n with
  |zero=>intro k _ _ h;omega
  |succ n d=>
   intro k f e i
   rw[gk,g]
   by_cases h:k<x.length
   ·have hx:x[k]?=some x[k]:=aJ h
    refine eR (aY (kO hx) ?_)
    rw[aR h]
    by_cases h2:k<y.length
    ·have hy:y[k]?=some y[k]:=aJ h2
     refine fC (aY (kO hy) (aY (hc _ (mR _) _ (mR _)) ?_))
     rw[aR h2,gn]
     by_cases h0:c x[k] y[k]=0
     ·rw[am h0]
      refine bM (by rw[h0];rfl) (gO ?_)
      have:=d (k+1) (by omega) (by omega) (by omega)
      push_cast at this
      exact this
     ·rw[aj h0];exact bS (cQ.2 h0) rfl
    ·refine eR ?_
     rw[bJ (show y.length≤k by omega)];rfl
   ·refine fC ?_
    rw[bJ (show x.length≤k by omega)]
    by_cases h2:k<y.length
    ·rw[aR h2]
     exact eR rfl
    ·rw[bJ (show y.length≤k by omega)]
     exact fC rfl
 have:=key zbx 0 (bG _) (bG _) (by unfold zbx;omega)
 simpa using this
theorem Fp (n:Int):vl n=some (sg n):=by
 unfold vl
 refine aY (a:=sg n) ?_ rfl
 unfold BG
 refine aY (a:=false) (by unfold zq;simp) (aY (a:=false) (by decide) (bM rfl (bM rfl ?_)))
 unfold sg
 by_cases h:n<0
 ·rw[am h];exact bS (ax h) rfl
 ·rw[aj h]
  refine bM (al h) ?_
  by_cases h2:0<n
  ·rw[am h2];exact bS (ax h2) rfl
  ·rw[aj h2];exact bM (al h2) rfl
def BS (o:mu):Prop:=∀u i,o.p u=some i→0≤i∧i<65536
theorem Fq (m:ad):∀ {l:List El} {e:El},e∈ph m l→e∈l∨∃c∈l,e=⟨c.sort,c.place,c.digits,m,c.great⟩
 |[],e,h=>.inl h
 |[a],e,h=>.inr ⟨a,ar ..,bO.1 h⟩
 |a::b::l,e,h=>by
  rw[ph] at h
  rcases bo.1 h with rfl|h
  ·exact .inl (ar ..)
  ·rcases Fq m h with h|⟨c,h1,h2⟩
   ·exact .inl (ak _ h)
   ·exact .inr ⟨c,ak _ h1,h2⟩
theorem TB {r:Int} (h:fc r=true):∀c∈(ae r).data.toList,c≠0:=by
 have h:=of_decide_eq_true h
 have key:((eW 880).all fun n=>decide (n<768)||((ae (n:Int)).data.toList.all fun c=>c != 0))=true:=by decide +kernel
 have:=bd.1 key r.toNat (kL.2 (by omega))
 rw[show ((r.toNat:Nat):Int)=r by omega,al (by omega),dp] at this
 intro c hc
 exact cQ.1 (bd.1 this c hc)
theorem KX:∀ {l:List Tk},(∀x∈l,iQ x=true)→(∀c∈(mv l).data.toList,c≠0)∧(mv l).size≤4*l.length
 |[],_=>⟨(fun c h=>nomatch (show c∈([]:List UInt8) from h)),bq _⟩
 |x::l,h=>by
  obtain⟨h1,h2⟩:=KX (l:=l) fun y hy=>h y (ak _ hy)
  unfold mv at h1 h2 ⊢
  rw[jA,od,aE,ab]
  have:=nr x.1
  refine⟨fun c hc=>?_,by omega⟩
  rcases bY.1 hc with hc|hc
  ·exact TB (h x (ar ..)) c hc
  ·exact h1 c hc
theorem xm:∀ {l:List Tk},(∀x∈l,x.2.size≤4)→(iD l).size≤4*l.length
 |[],_=>bq _
 |x::l,h=>by
  have h2:=xm (l:=l) fun y hy=>h y (ak _ hy)
  have h1:=h x (ar ..)
  unfold iD at h2 ⊢
  rw[jA,aE,ab];omega
theorem vn {α:Type} {p:α→Bool} {l:List α} {x:α} (h:x∈l.takeWhile p):p x=true∧x∈l :=
 ⟨bd.1 (su (p:=p) (l:=l)) x h,(dt p).subset h⟩
theorem TD:ju lT:=⟨.inl rfl,(by show (0:Int)≤0∧(0:Int)<65536;omega),by decide,fun _=>rfl,(fun c h=>nomatch (show c∈([]:List UInt8) from h)),by decide,.inl rfl⟩
theorem TE (l:List Tk):qB l=0∨qB l=1:=by unfold qB;split<;>simp
theorem TF (o:mu) (hf:ug o) (hp:BS o) (x:Tk) (l:List Tk) (q:∀y∈x::l,y.2.size≤4) (m:(x::l).length≤65536) (g:List El) (h:(lD o x l).2=some g):(∀e∈g,ju e)∧g.length≤4:=by
 unfold lD at h
 split at h
 ·rename_i hk
  have hL:cZ x.1=true:=(zB x).1.1 hk
  have hm:=E2 o hf x l hL
  injection h with h
  subst h
  have d:∀y∈((x::l).drop (kG o x l).1).takeWhile iQ,iQ y=true:=fun y hy=>(vn hy).1
  have n:(((x::l).drop (kG o x l).1).takeWhile iQ).length≤65536:=by
   have:=(dt iQ (l:=(x::l).drop (kG o x l).1)).length_le
   rw[aS] at this;omega
  obtain⟨j,t⟩:=KX d
  refine⟨fun e he=>?_,by rw[KK,az];exact hm.2.2.2⟩
  have base:∀u,ju (iE o (qB ((x::l).take (kG o x l).1)) u):=fun u=>by
   have a:0≤(o.p u).getD 0∧(o.p u).getD 0<65536:=by
    cases k:o.p u with
    |none=>rw[mg];omega
    |some i=>rw[fi];exact hp u i k
   exact⟨.inr (.inr (.inl rfl)),a,by show (0:Nat)≤_;omega,fun _=>rfl,(fun c h=>nomatch (show c∈([]:List UInt8) from h)),by show (0:Nat)≤_;omega,TE _⟩
  rcases Fq _ he with he|⟨v,f,rfl⟩
  ·obtain⟨u,_,rfl⟩:=aU.1 he
   exact base u
  ·obtain⟨u,_,rfl⟩:=aU.1 f
   have b:=base u
   exact⟨b.so,b.pl,b.di,b.nd,j,by show (mv _).size≤_;omega,b.gr⟩
 ·split at h
  ·injection h with h
   subst h
   refine⟨fun e he=>?_,by simp⟩
   rw[bO] at he
   subst he
   have h1:(iD (x::l.takeWhile fE)).size≤4*(x::l.takeWhile fE).length:=xm fun y hy=>q y (by
    rcases bo.1 hy with rfl|hy
    ·exact ar ..
    ·exact ak _ (vn hy).2)
   have h2:=(dt fE (l:=l)).length_le
   have h3:(rZ (x::l.takeWhile fE)).size≤(iD (x::l.takeWhile fE)).size:=by
    rw[gJ,gJ]
    exact (List.dropWhile_sublist _).length_le
   rw[ab] at m h1
   exact⟨.inr (.inl rfl),by show (0:Int)≤0∧(0:Int)<65536;omega,by show (rZ _).size≤_;omega,fun h=>absurd rfl h,(fun c h=>nomatch (show c∈([]:List UInt8) from h)),by show (0:Nat)≤_;omega,.inl rfl⟩
  ·split at h
   ·cases h
   ·split at h
    ·injection h with h
     subst h
     refine⟨fun e he=>?_,by simp⟩
     rw[bO] at he
     subst he
     have r:0≤kP x.2∧kP x.2≤255:=by unfold kP;have:=(x.2.data.toList.headD 0).toNat_lt;omega
     exact⟨.inr (.inr (.inr rfl)),by show 0≤kP x.2∧kP x.2<65536;omega,by show (0:Nat)≤_;omega,fun _=>rfl,(fun c h=>nomatch (show c∈([]:List UInt8) from h)),by show (0:Nat)≤_;omega,.inl rfl⟩
    ·injection h with h
     subst h
     exact⟨(fun e he=>by cases he),by simp⟩
theorem Fs (o:mu) (hf:ug o) (hp:BS o):∀ (n:Nat) (l:List Tk),(∀y∈l,y.2.size≤4)→l.length≤65536→(∀a,some a∈mY o n l→(∀e∈a,ju e)∧a.length≤4)∧(mY o n l).length≤n
 |0,l,_,_=>⟨(fun a h=>by cases h),bq _⟩
 |n+1,[],_,_=>⟨(fun a h=>by cases h),bG _⟩
 |n+1,x::l,hl,hn=>by
  obtain⟨h1,h2⟩:=Fs o hf hp n ((x::l).drop (lD o x l).1) (fun y hy=>hl y (gg hy)) (by rw[aS];omega)
  rw[mY]
  refine⟨fun a h=>?_,by rw[ab];omega⟩
  rcases bo.1 h with h|h
  ·exact TF o hf hp x l hl hn a h.symm
  ·exact h1 a h
theorem BT:∀ (cs:List (Option (List El))) (out:List El) (sp:Bool),(∀b,some b∈cs→(∀e∈b,ju e)∧b.length≤4)→(∀e∈out,ju e)→(∀e∈mZ cs out sp,ju e)∧(mZ cs out sp).length≤out.length+5*cs.length
 |[],out,sp,_,h=>⟨h,bq _⟩
 |none::cs,out,sp,hc,h=>by
  obtain⟨h1,h2⟩:=BT cs out true (fun b he=>hc b (ak _ he)) h
  exact⟨h1,by rw[ab];show (mZ cs out true).length≤_;omega⟩
 |some []::cs,out,sp,hc,h=>by
  obtain⟨h1,h2⟩:=BT cs out sp (fun b he=>hc b (ak _ he)) h
  exact⟨h1,by rw[ab];show (mZ cs out sp).length≤_;omega⟩
 |some (e::b)::cs,out,sp,hc,h=>by
  have he:=hc _ (ar ..)
  have hg:=zA sp out
  obtain⟨h1,h2⟩:=BT cs (out++jj sp out++e::b) false (fun b he=>hc b (ak _ he)) (fun a ha=>by
   rcases bY.1 ha with ha|ha
   ·rcases bY.1 ha with ha|ha
    ·exact h a ha
    ·unfold jj at ha
     split at ha
     ·rw[bO.1 ha];exact TD
     ·cases ha
   ·exact he.1 a ha)
  refine⟨h1,?_⟩
  show (mZ cs (out++jj sp out++e::b) false).length≤_
  have:=he.2
  simp only[aa,ab] at h2 this ⊢
  omega
theorem TG (o:mu) (hf:ug o) (hp:BS o) (l:List Tk) (a:∀y∈l,y.2.size≤4) (c:l.length≤65536):(∀e∈vj o l,ju e)∧(vj o l).length≤327680:=by
 unfold vj
 obtain⟨h1,h2⟩:=Fs o hf hp l.length (l.drop (rl o l)) (fun y hy=>a y (gg hy)) (by rw[aS];omega)
 obtain⟨h3,b⟩:=BT (mY o l.length (l.drop (rl o l))) [] false h1 (fun e h=>by cases h)
 exact⟨h3,by rw[aL] at b;omega⟩
theorem zF {t:dq} (h:kv t):t.bs.length≤4:=by
 rcases h with h|h
 ·rw[h.2];exact (xO t.r).2
 ·unfold tv at h;simp at h;omega
theorem Ft (t:ad) (ht:oQ t):(∀y∈gE t,y.2.size≤4)∧(gE t).length≤65536:=by
 have h1:=ht.2
 have h2:=xj (gm t)
 refine⟨fun y hy=>?_,by unfold gE nu;rw[az];omega⟩
 obtain⟨x,hx,rfl⟩:=aU.1 hy
 have:=zF (pP _ x hx)
 show (⟨x.bs.toArray⟩:ad).size≤4
 rw[gJ]
 simpa using this
def gh (o:cw) (t:ad):List El:=vj (dB o) (gE t)
def kH (o:cw) (t:ad):List (List UInt8):=[k1 (gh o t),k2 (gh o t),k3 (gh o t),t.data.toList]
structure xn (o:cw):Prop where
 fo:ug (dB o)
 pl:BS (dB o)
theorem uh {o:cw} (h:xn o) (t:ad) (ht:oQ t):(∀e∈gh o t,ju e)∧(gh o t).length≤327680 :=
 TG _ h.fo h.pl _ (Ft t ht).1 (Ft t ht).2
theorem TH {x y:List El} (hx:∀e∈x,ju e) (hy:∀e∈y,ju e):cb (k1 x) (k1 y)=sg (gn iM x y):=by
 have:=Fk [] [] hx hy
 rw[aH,aH] at this
 rw[this]
 split
 ·rename_i h;rw[h];rfl
 ·rfl
theorem TI {x y:List El} (hx:∀e∈x,ju e) (hy:∀e∈y,ju e) (a:x.length=y.length):cb (k2 x) (k2 y)=sg (gn mI x y):=by
 have:=Fl [] [] hx hy a
 rw[aH,aH] at this
 rw[this]
 split
 ·rename_i h;rw[h];rfl
 ·rfl
theorem TJ {x y:List El} (hx:∀e∈x,ju e) (hy:∀e∈y,ju e) (a:x.length=y.length):cb (k3 x) (k3 y)=sg (gn ox x y):=by
 have:=Fm [] [] hx hy a
 rw[aH,aH] at this
 rw[this]
 split
 ·rename_i h;rw[h];rfl
 ·rfl
def xo (x y:List El) (a b:List UInt8):Int×Int :=
 if gn iM x y=0 then (if gn mI x y=0 then (if gn ox x y=0 then (if cb a b=0 then (0,0) else (cb a b,4)) else (sg (gn ox x y),3)) else (sg (gn mI x y),2)) else (sg (gn iM x y),1)
theorem Fu {x y:List El} (hx:∀e∈x,ju e) (hy:∀e∈y,ju e) (a b:List UInt8):lq 1 [k1 x,k2 x,k3 x,a] [k1 y,k2 y,k3 y,b]=xo x y a b:=by
 unfold xo
 rw[lq,TH hx hy]
 by_cases h1:gn iM x y=0
 ·rw[am (gN.2 h1),am h1,lq,TI hx hy (zE h1)]
  by_cases h2:gn mI x y=0
  ·rw[am (gN.2 h2),am h2,lq,TJ hx hy (zE h1)]
   by_cases h3:gn ox x y=0
   ·rw[am (gN.2 h3),am h3,lq]
    by_cases c:cb a b=0
    ·rw[am c,am c];rfl
    ·rw[aj c,aj c];rfl
   ·rw[aj (fun h=>h3 (gN.1 h)),aj h3];rfl
  ·rw[aj (fun h=>h2 (gN.1 h)),aj h2];rfl
 ·rw[aj (fun h=>h1 (gN.1 h)),aj h1]
theorem TK {x y:List El} (hx:∀e∈x,ju e) (hy:∀e∈y,ju e) (a b:List UInt8):cb (k1 x++(k2 x++(k3 x++a))) (k1 y++(k2 y++(k3 y++b)))=(xo x y a b).1:=by
 unfold xo
 rw[Fk _ _ hx hy]
 by_cases h1:gn iM x y=0
 ·rw[am h1,am h1,Fl _ _ hx hy (zE h1)]
  by_cases h2:gn mI x y=0
  ·rw[am h2,am h2,Fm _ _ hx hy (zE h1)]
   by_cases h3:gn ox x y=0
   ·rw[am h3,am h3]
    by_cases c:cb a b=0
    ·rw[am c,c]
    ·rw[aj c]
   ·rw[aj h3,aj h3]
  ·rw[aj h2,aj h2]
 ·rw[aj h1,aj h1]
theorem Fv {n:Int} (h:n≠0):((n:Int) != 0)=true:=cQ.2 h
theorem Fw {n:Int} (h:n=0):((n:Int) != 0)=false:=by rw[h];rfl
theorem KY {o:cw} (h:xn o) (a b:ad) (ha:oQ a) (hb:oQ b):vm o a b=some (lq 1 (kH o a) (kH o b)):=by
 obtain⟨f,i⟩:=uh h a ha
 obtain⟨e,lb⟩:=uh h b hb
 unfold vm
 by_cases c:a=b
 ·subst c
  refine bS (ax rfl) ?_
  rw[KR]
 ·refine bM (al c) (cB (aY (E6 o h.fo a ha) (aY (E6 o h.fo b hb) ?_)))
  show aT (zC (gh o a) (gh o b)) _=_
  have e1:zC (gh o a) (gh o b)=some (gn iM (gh o a) (gh o b)) :=
   cB (Fo (cv:=xk) _ _ (by omega) (fun _ _=>rfl) (fun p hp q d=>TA p q (f p hp) (e q d)))
  have e2:BN (gh o a) (gh o b)=some (gn mI (gh o a) (gh o b)) :=
   cB (Fo (cv:=BL) _ _ (by omega) (fun _ _=>rfl) (fun p hp q d=>rfl))
  have g:BO (gh o a) (gh o b)=some (gn ox (gh o a) (gh o b)) :=
   cB (Fo (cv:=BM) _ _ (by omega) (fun _ _=>rfl) (fun p hp q d=>by
    have g1:=(f p hp).gr;have g2:=(e q d).gr
    exact gO rfl))
  unfold kH
  rw[Fu f e]
  unfold xo
  refine aY e1 ?_
  by_cases h1:gn iM (gh o a) (gh o b)=0
  ·rw[am h1]
   refine bM (Fw h1) (aY e2 ?_)
   by_cases h2:gn mI (gh o a) (gh o b)=0
   ·rw[am h2]
    refine bM (Fw h2) (aY g ?_)
    by_cases h3:gn ox (gh o a) (gh o b)=0
    ·rw[am h3]
     refine bM (Fw h3) ?_
     rw[aj (fun h=>c (ow (BP h)))]
    ·rw[aj h3];exact bS (Fv h3) (aY (Fp _) rfl)
   ·rw[aj h2];exact bS (Fv h2) (aY (Fp _) rfl)
  ·rw[aj h1];exact bS (Fv h1) (aY (Fp _) rfl)
theorem BU (l:List Int):(gj l).data.toList=l.map fun x=>bB x.toNat:=by unfold gj;simp
theorem BV (n k:Nat) (h:k≤63):fh .i64 (n:Int) (k:Int)=((n / 2 ^ k:Nat):Int):=by
 unfold fh
 have:min ((k:Int)).toNat (IntKind.bits .i64)=k:=by
  rw[bz]
  exact lH (by show k≤64;omega)
 rw[this,fL _ (by exact Int.pow_nonneg (by omega))]
 push_cast
 rfl
theorem vo (n:Nat):bB (IntKind.u8.wrap (n:Int)).toNat=bB n:=by
 rw[xh,bz]
 apply dZ.1
 rw[fg,fg]
 omega
theorem TL (n:Nat):be 2 n=[bB (n / 256),bB (n % 256)]:=by
 show [bB (n / 256 ^ 1),bB (n % 256 ^ 1 / 256 ^ 0)]=_
 rw[Nat.pow_one,ql,mA]
theorem BW (n m:Nat) (h:n % 256=m % 256):bB n=bB m:=by
 apply dZ.1
 rw[fg,fg]
 exact h
theorem KZ {e:El} (h:ju e):(gj [IntKind.u8.wrap e.sort,IntKind.u8.wrap (fh .i64 e.place 8),IntKind.u8.wrap e.place]).data.toList=be 1 e.sort.toNat++be 2 e.place.toNat:=by
 have h1:=h.so;have h2:=h.pl
 obtain⟨s,b⟩:∃s:Nat,e.sort=s:=⟨e.sort.toNat,by omega⟩
 obtain⟨p,hp⟩:∃p:Nat,e.place=p:=⟨e.place.toNat,by omega⟩
 rw[BU,b,hp,bz,bz,TL]
 have a:=BV p 8 (by omega)
 rw[show ((8:Nat):Int)=8 from rfl] at a
 rw[a]
 simp only[av,ed]
 rw[vo,vo,vo]
 show [bB s,bB (p / 2 ^ 8),bB p]=[bB (s / 256 ^ 0),bB (p / 256),bB (p % 256)]
 rw[ql,mA,BW p (p % 256) (by omega)]
theorem TM (n:Nat) (h:n<4294967296):(gj [IntKind.u8.wrap (fh .i64 (n:Int) 24),IntKind.u8.wrap (fh .i64 (n:Int) 16),IntKind.u8.wrap (fh .i64 (n:Int) 8),IntKind.u8.wrap (n:Int)]).data.toList=be 4 n:=by
 have e1:=BV n 24 (by omega)
 have e2:=BV n 16 (by omega)
 have a:=BV n 8 (by omega)
 rw[show ((24:Nat):Int)=24 from rfl] at e1
 rw[show ((16:Nat):Int)=16 from rfl] at e2
 rw[show ((8:Nat):Int)=8 from rfl] at a
 rw[BU,e1,e2,a]
 simp only[av,ed]
 rw[vo,vo,vo,vo]
 show _=[bB (n / 256 ^ 3),bB (n % 256 ^ 3 / 256 ^ 2),bB (n % 256 ^ 3 % 256 ^ 2 / 256 ^ 1),bB (n % 256 ^ 3 % 256 ^ 2 % 256 ^ 1 / 256 ^ 0)]
 simp only[Nat.reducePow,mA]
 rw[BW (n / 65536) (n % 16777216 / 65536) (by omega),BW (n / 256) (n % 16777216 % 65536 / 256) (by omega),BW n (n % 16777216 % 65536 % 256) (by omega)]
theorem Fx (l:List Int):∀x∈l.map IntKind.u8.wrap,U8 x:=by
 intro x hx
 obtain⟨y,_,rfl⟩:=aU.1 hx
 have:=IntKind.wrap_u8 y
 rw[this]
 exact⟨by omega,by omega⟩
theorem BX:∀k n,(be k n).length=k
 |0,_=>rfl
 |k+1,n=>by rw[be,ab,BX]
theorem BZ {e:El} (h:ju e):(c1 e).length≤300007:=by
 have:=h.di
 unfold c1
 rw[aa,aa,BX,BX]
 split
 ·rw[aa,BX,←gJ];omega
 ·rw[aL];omega
def ba (l:List UInt8):ad:=⟨l.toArray⟩
theorem oS (l:List UInt8):(ba l).data.toList=l:=by unfold ba;simp
theorem s9 (l:List UInt8):(ba l).size=l.length:=by rw[gJ,oS]
theorem B4 {α:Type} (g:α→List UInt8):∀ (l:List α) (b:ad),(l.foldl (fun b e=>b++ba (g e)) b).data.toList=b.data.toList++l.flatMap g
 |[],b=>by simp
 |x::l,b=>by rw[bn,B4 g l,od,oS,aG,aA]
theorem K0 {o:cw} (h:xn o) (s:ad) (j:oQ s):∃k,s8 o s=some k∧k.data.toList=k1 (gh o s)++(k2 (gh o s)++(k3 (gh o s)++s.data.toList)):=by
 obtain⟨i,w⟩:=uh h s j
 have r:=j
 have j:=j.1
 unfold s8
 have hm:∀ {k:Nat} {x:El},(gh o s)[k]?=some x→ju x∧k<327680:=fun {k x} hx=>⟨i x (List.mem_of_getElem? hx),by have:=(au.1 hx).1;omega⟩
 have q:=fun (J:List El→ad→Option ad)=>px (xs:=gh o s) (F:=zcU J (gh o s)) (bot:=fun _ _=>none) (f:=fun b e=>b++ba (c1 e)) (J:=J (gh o s)) (fun k b=>b.size≤300007*k) (fun ag k x a hx hi=>by
   obtain⟨g,hk⟩:=hm hx
   have hc:=BZ g
   have hd:=g.di
   have d:∀l:List Int,(gj l).size=l.length:=fun l=>by rw[gJ,BU,az]
   unfold zcU
   refine bS (lR hx) (cB (aY (kO hx) (gO (zdG (Fx [x.sort,fh .i64 x.place 8,x.place]) ?_))))
   by_cases h2:x.sort=2
   ·have e:((a++gj [IntKind.u8.wrap x.sort,IntKind.u8.wrap (fh .i64 x.place 8),IntKind.u8.wrap x.place])++gj [IntKind.u8.wrap (fh .i64 (x.digits.size:Int) 24),IntKind.u8.wrap (fh .i64 (x.digits.size:Int) 16),IntKind.u8.wrap (fh .i64 (x.digits.size:Int) 8),IntKind.u8.wrap (x.digits.size:Int)])++x.digits=a++ba (c1 x):=by
     apply ow
     rw[od,od,od,KZ g,TM _ (by omega),od,oS]
     unfold c1
     rw[am h2]
     simp only[aA]
    refine bS (by rw[h2];rfl) (zdG (by rw[aE,d];simp only[ab,aL];omega) (zdG (Fx [fh .i64 (x.digits.size:Int) 24,fh .i64 (x.digits.size:Int) 16,fh .i64 (x.digits.size:Int) 8,(x.digits.size:Int)]) (zdG (by rw[aE,aE,d,d];simp only[ab,aL];omega) ?_)))
    rw[e]
    exact zdG (ja (by omega)) rfl
   ·have e:a++gj [IntKind.u8.wrap x.sort,IntKind.u8.wrap (fh .i64 x.place 8),IntKind.u8.wrap x.place]=a++ba (c1 x):=by
     apply ow
     rw[od,KZ g,od,oS]
     unfold c1
     rw[aj h2,aH]
    refine bM (aC.2 h2) ?_
    rw[e]
    exact zdG (ja (by omega)) rfl) (fun k x a hx hi=>by
     have hc:=BZ (hm hx).1
     rw[aE,s9];omega) (fun ag a _=>by unfold zcU;exact bM lC rfl) (n:=zbx) (j0 (by omega)) (a:=ac) (bG _)
 have f1:=B4 c1 (gh o s) ac
 have b1:((gh o s).foldl (fun b e=>b++ba (c1 e)) ac).size≤100000000000:=by
  rw[gJ,f1]
  have key:∀l:List El,(∀e∈l,ju e)→(l.flatMap c1).length≤300007*l.length:=by
   intro l
   induction l with
   |nil=>intro _;simp
   |cons e l c=>
    intro hg
    have:=BZ (hg e (ar ..))
    have:=c (fun x hx=>hg x (ak _ hx))
    rw[aG,aa,ab];omega
  have:=key _ i
  rw[aa]
  show (0:Nat)+_≤_
  omega
 generalize v:(gh o s).foldl (fun b e=>b++ba (c1 e)) ac=B1 at *
 have p:=fun (J:ad→Option ad)=>px (xs:=gh o s) (F:=zdi (gh o s) J) (bot:=fun _ _=>none) (f:=fun b e=>b++ba (e.marks.data.toList++[0])) (J:=J) (fun k b=>b.size≤100000000001+300001*k) (fun ag k x a hx hi=>by
   obtain⟨g,hk⟩:=hm hx
   have hd:=g.ml
   unfold zdi
   have e:(a++x.marks)++(⟨#[0]⟩:ad)=a++ba (x.marks.data.toList++[0]):=by
    apply ow
    rw[od,od,od,oS,aA]
   refine bS (lR hx) (aY (kO hx) (gO (zdG (by rw[aE];omega) (zdG (ja (by omega)) ?_))))
   rw[e]) (fun k x a hx hi=>by
     have hc:=(hm hx).1.ml
     rw[aE,s9,aa,←gJ]
     show _+(_+1)≤_
     omega) (fun ag a _=>by unfold zdi;exact bM lC rfl) (n:=zbx) (j0 (by omega)) (a:=B1++(⟨#[0]⟩:ad)) (by rw[aE];show _+1≤_;omega)
 have f2:=B4 (fun e:El=>e.marks.data.toList++[0]) (gh o s) (B1++(⟨#[0]⟩:ad))
 have b2:((gh o s).foldl (fun b e=>b++ba (e.marks.data.toList++[0])) (B1++(⟨#[0]⟩:ad))).size≤300000000000:=by
  rw[gJ,f2]
  have key:∀l:List El,(∀e∈l,ju e)→(l.flatMap fun e:El=>e.marks.data.toList++[0]).length≤300001*l.length:=by
   intro l
   induction l with
   |nil=>intro _;simp
   |cons e l c=>
    intro hg
    have:=(hg e (ar ..)).ml
    have:=c (fun x hx=>hg x (ak _ hx))
    rw[aG,aa,ab,aa,←gJ]
    show _+1+_≤_
    omega
  have:=key _ i
  rw[aa,←gJ,aE]
  show _+1+_≤_
  omega
 generalize u:(gh o s).foldl (fun b e=>b++ba (e.marks.data.toList++[0])) (B1++(⟨#[0]⟩:ad))=B2 at *
 have m:=fun (J:ad→Option ad)=>px (xs:=gh o s) (F:=zdh (gh o s) J) (bot:=fun _ _=>none) (f:=fun b e=>b++ba [bB e.great.toNat]) (J:=J) (fun k b=>b.size≤300000000000+k) (fun ag k x a hx hi=>by
   obtain⟨g,hk⟩:=hm hx
   unfold zdh
   have e:a++gj [IntKind.u8.wrap x.great]=a++ba [bB x.great.toNat]:=by
    apply ow
    rw[od,od,oS,BU]
    rcases g.gr with hg|hg<;>rw[hg]<;>rfl
   refine bS (lR hx) (aY (kO hx) (gO (zdG (Fx [x.great]) (zdG (ja (by omega)) ?_))))
   rw[e]) (fun k x a hx hi=>by
     rw[aE,s9]
     show _+1≤_
     omega) (fun ag a _=>by unfold zdh;exact bM lC rfl) (n:=zbx) (j0 (by omega)) (a:=B2) (by omega)
 have f3:=B4 (fun e:El=>[bB e.great.toNat]) (gh o s) B2
 have y:((gh o s).foldl (fun b e=>b++ba [bB e.great.toNat]) B2).size≤400000000000:=by
  rw[gJ,f3]
  have key:∀l:List El,(l.flatMap fun e:El=>[bB e.great.toNat]).length=l.length:=by
   intro l
   induction l with
   |nil=>rfl
   |cons e l c=>rw[aG,aa,c,ab,ab];simp;omega
  rw[aa,←gJ,key];omega
 generalize t:(gh o s).foldl (fun b e=>b++ba [bB e.great.toNat]) B2=B3 at *
 refine⟨B3++s,cB (aY (E6 o h.fo s r) ?_),?_⟩
 ·show zaC (fun _ _=>none) (zcU _ (gh o s)) zbx ac 0=_
  refine (q _).trans (cB (gO ?_))
  refine (p _).trans (cB ((m _).trans (gO rfl)))
 ·rw[od,f3,f2,od,f1]
  unfold k1 k2 k3
  have:∀l:List El,(l.flatMap fun e:El=>[bB e.great.toNat])=l.map fun e=>bB e.great.toNat:=by
   intro l
   induction l with
   |nil=>rfl
   |cons e l c=>rw[aG,c];rfl
  rw[this]
  show ([]++_++[0])++_++_++_=_
  simp only[bg,aA]
theorem TN:((eW 1120).all fun n=>!cZ (n:Int)||(cZ (cA (n:Int))&&decide (cA (cA (n:Int))=cA (n:Int))&&!great (cA (n:Int))&&(decide (zbP (n:Int) tabS≠none)||decide (zbP (cA (n:Int)) tabS=none))))=true:=by decide +kernel
theorem ui {r:Int} (h:cZ r=true):cZ (cA r)=true∧cA (cA r)=cA r∧great (cA r)=false∧(zbP r tabS=none→zbP (cA r) tabS=none):=by
 have h1:=mV r h
 have:=bd.1 TN r.toNat (kL.2 (by omega))
 rw[show ((r.toNat:Nat):Int)=r by omega,h] at this
 simp only[cW,dp,Bool.and_eq_true,decide_eq_true_eq,dC,Bool.not_eq_true'] at this
 exact⟨this.1.1.1,this.1.1.2,this.1.2,fun a=>this.2.resolve_left (fun h=>h a)⟩
theorem TP {r:Int} (h:cZ r=false):cA r=r:=by
 unfold cA
 have:great r=false:=by
  unfold cZ at h
  cases hg:great r with
  |false=>rfl
  |true=>rw[hg] at h;cases h
 rw[this];rfl
def ie (x:Tk):Tk:=if ej x then (cA x.1,ae (cA x.1)) else x
def jL (s:ad):ad:=iD ((gE s).map ie)
def gS (c:bf×List bf):List Int:=cA c.1.Rune::(nL c++nM c)
theorem K2:vf (kF gS):=JQ (fun c _=>by unfold gS;simp) (fun c hc a hm r hr=>by
 obtain⟨h1,h2⟩:=BC hm
 unfold gS at hr
 rcases bo.1 hr with rfl|hr
 ·exact .inl (ui hc).1
 ·rcases bY.1 hr with hr|hr
  ·exact .inr (h1 r hr)
  ·exact .inr (h2 r hr))
theorem TQ:∀c:bf×List bf,dI c.1=true→zbP c.1.Rune tabS=none→(∀m∈c.2,isM m=true)→∀t,(kF gS c).head?=some t→fc (zf9 t).Rune=false:=by
 intro c hL a hm t ht
 have e:kF gS c=(cA c.1.Rune::(nL c++nM c)).map ku:=by unfold kF;rw[hL];rfl
 rw[e] at ht
 exact Sq (ui hL).1 t ht
theorem K3 (s:ad) (a:s.size≤65536):nu s=(jS (eU s.data.toList)).flatMap (kF gA):=EJ Sd (Se s a)
theorem zG {r:Int} (h:vr r):tkT (ku r)=(r,ae r):=by
 have hv:=wt (zf h)
 have e:(ku r).bs=(ae r).data.toList:=(nF r).symm
 unfold tkT
 rw[hv,aj (by simp),e]
 have:(((ku r).r:Nat):Int)=r:=by show ((r.toNat:Nat):Int)=r;unfold vr at h;omega
 rw[this]
def pZ (t:dq):dq:=if ej (tkT t) then ku (cA (tkT t).1) else t
theorem B5 (t:dq):tkT (pZ t)=ie (tkT t):=by
 unfold pZ ie
 cases h:ej (tkT t) with
 |true=>
  rw[am rfl,am rfl]
  exact zG (uc (ui (show cZ (tkT t).1=true from h)).1)
 |false=>rw[aj (by simp),aj (by simp)]
theorem TS {s:ad} (d:s.size≤65536):∀c∈jS (eU s.data.toList),(kF gA c).map pZ=kF gS c:=by
 intro c hc
 rcases EN (pP _) c hc with⟨g1,g2,b⟩|⟨g1,g2,t,b,g4⟩
 ·obtain⟨h1,h2⟩:=BC g2
  have e1:kF gA c=(c.1.Rune::(nL c++nM c)).map ku:=by unfold kF;rw[g1,ES];rfl
  have e2:kF gS c=(cA c.1.Rune::(nL c++nM c)).map ku:=by unfold kF;rw[g1];rfl
  rw[e1,e2,av,av,av]
  have hx:tkT (ku c.1.Rune)=(c.1.Rune,ae c.1.Rune):=zG (uc g1)
  congr 1
  ·unfold pZ
   rw[hx]
   exact am (show cZ c.1.Rune=true from g1)
  ·rw[cn]
   refine dw fun m hm=>?_
   have a:fc m=true:=by
    rcases bY.1 hm with hm|hm
    ·exact h1 m hm
    ·exact h2 m hm
   show pZ (ku m)=ku m
   unfold pZ
   rw[zG (zk a)]
   exact aj (by show ¬cZ m=true;rw[qA a];simp)
 ·have e1:∀g,kF g c=[t]:=fun g=>by unfold kF;rw[g1,g4,w7 b];rfl
  rw[e1,e1]
  have hL:ej (tkT t)=false:=by
   have:dI (zf9 t)=false:=by rw[←g4];exact g1
   exact this
  show [pZ t]=[t]
  unfold pZ
  rw[hL,aj (by simp)]
theorem K4 {α β:Type} {f g:α→List β}:∀ {l:List α},(∀x∈l,f x=g x)→l.flatMap f=l.flatMap g
 |[],_=>rfl
 |x::l,h=>by rw[aG,aG,h x (ar ..),K4 fun y hy=>h y (ak _ hy)]
theorem K5 {s:ad} (a:s.size≤65536):(nu s).map pZ=(jS (eU s.data.toList)).flatMap (kF gS):=by
 rw[K3 s a,List.map_flatMap]
 exact K4 (TS a)
theorem TU (ts:List dq):(iD ((ts.map tkT).map ie)).data.toList=cP (ts.map pZ):=by
 rw[←xg,cn,cn]
 congr 1;congr 1;congr 1
 exact dw fun t _=>(B5 t).symm
theorem Fy (s:ad) (a:s.size≤65536):(jL s).data.toList=cP ((jS (eU s.data.toList)).flatMap (kF gS)):=by
 rw[←K5 a];exact TU _
theorem Fz (s:ad) (a:s.size≤65536):eU (jL s).data.toList=(nu s).map pZ:=by
 rw[K5 a];exact EJ K2 (Fy s a)
def tc (c:bf×List bf):ad:=if dI c.1 then jg (gS c) else c.1.Text
theorem K6 (c:bf×List bf):nL (nt c)=nL c∧nM (nt c)=nM c:=by
 unfold nL nM
 have:=EK c.2
 constructor
 ·show (loI (c.2.map jR)).map _=_;rw[this.1,cn];rfl
 ·show (hiI (c.2.map jR)).map _=_;rw[this.2,cn];rfl
theorem K7 (c:bf×List bf):tc (nt c)=tc c:=by
 unfold tc gS
 rw[(K6 c).1,(K6 c).2];rfl
theorem K8 (s:ad) (a:s.size≤65536):J tc (kD s)=jL s:=by
 apply ow
 rw[Fy s a]
 exact JS K7 (fun c hL _ _=>by unfold tc;rw[hL];rfl) (fun c hL _=>by unfold tc;rw[hL];rfl) s a
theorem TV {c:bf×List bf} (hL:dI c.1=true) (hm:∀m∈c.2,isM m=true) (i:zbP c.1.Rune tabS=none):∃d:bf×List bf,jS (kF gS c)=[d]∧dI d.1=true∧lm d.1∧(∀m∈d.2,isM m=true∧lm m)∧d.1.Rune=cA c.1.Rune∧nL d=nL c∧nM d=nM c:=by
 obtain⟨h1,h2⟩:=BC hm
 have e:kF gS c=(cA c.1.Rune::(nL c++nM c)).map ku:=by unfold kF;rw[hL];rfl
 have hp:iw (cA c.1.Rune)=[cA c.1.Rune]:=by unfold iw;rw[(ui hL).2.2.2 i]
 have:=So (c:=(jt (cA c.1.Rune),[])) (ui hL).1 (st:=nL c++nM c) (fun m hm=>by
  rcases bY.1 hm with hm|hm
  ·exact h1 m hm
  ·exact h2 m hm) hp rfl
 obtain⟨o1,h,g,f,j⟩:=this
 rw[←e] at o1
 refine⟨_,o1,h,g,f,rfl,?_⟩
 obtain⟨k1,k2⟩:=Sk (cA c.1.Rune) ([]++(nL c++nM c))
 obtain⟨b,a⟩:=Sm c
 rw[k1,k2,bg,sv,sv,(J2 b).1,(J2 b).2,(J3 a).1,(J3 a).2]
 simp
theorem K9 (s:ad) (a:s.size≤65536):gm (jL s)=jL s:=by
 rw[←K8 s a]
 refine Sh K2 TQ JP K7 a (x:=J tc (kD s)) (by rw[K8 s a];exact Fy s a) (fun c hL hm e b=>?_) (fun y hy=>by unfold tc;rw[hy];rfl)
 obtain⟨d,d1,d2,d3,d4,d5,d6,d7⟩:=TV hL (fun m h=>(hm m h).1) e
 rw[d1,jA,ri,bx,Sp d2 d3 d4,ES,d5,d6,d7]
 unfold tc
 rw[hL];rfl
theorem TW (s:ad) (a:s.size≤65536):nu (jL s)=(nu s).map pZ:=by
 unfold nu
 rw[K9 s a];exact Fz s a
theorem La (s:ad) (a:s.size≤65536):gE (jL s)=(gE s).map ie:=by
 unfold gE
 rw[TW s a,cn,cn]
 exact dw fun t _=>B5 t
theorem Lb (i:Nat) (t:dq) (h:kv t):xa (pT i t)=some (ej (tkT t)):=by
 unfold xa
 refine zdG (pi h) ?_
 show some ((fT t.broken (t.r:Int):Int)==1)=_
 rw[uf,xf]
theorem TY (i:Nat) (t:dq) (h:kv t):vg (pT i t)=some (iQ (tkT t)):=by
 unfold vg
 refine zdG (pi h) ?_
 show some ((fT t.broken (t.r:Int):Int)==2)=_
 rw[uf,zw]
theorem B6 {x:Tk} (h:x.2.size≤4):(ie x).2.size≤4:=by
 unfold ie
 split
 ·exact nr _
 ·exact h
theorem Lc (S:ad) (j:S.size≤1000000000):∀ (ts A:List dq) (b:ad),S.data.toList=cP (A++ts)→(∀t∈ts,kv t)→b.size+4*ts.length≤100000000000 →
  zdZ (fun c=>(some c:Option ad)) (zdT S) (pL (cP A).length ts) b=some (b++iD ((ts.map tkT).map ie))
 |[],A,b,_,_,_=>by
  rw[pL,CJ]
  show some b=some (b++ac)
  rw[bx]
 |t::ts,A,b,hd,hok,hb=>by
  have ht:=hok t (ar ..)
  have g:(cP A).length+(t.bs.length+(cP ts).length)=S.size:=by rw[gJ,hd,mr,mq,aa,aa]
  have e:(cP A).length+t.bs.length=(cP (A++[t])).length:=by rw[mr,aa];simp[cP]
  rw[ab] at hb
  have next:∀x:ad,x.size≤4→zdZ (fun c=>(some c:Option ad)) (zdT S) (pL ((cP A).length+t.bs.length) ts) (b++x)=some ((b++x)++iD ((ts.map tkT).map ie)):=fun x hx=>by
   rw[e]
   exact Lc S j ts (A++[t]) (b++x) (by rw[hd,aA];rfl) (fun y hy=>hok y (ak _ hy)) (by rw[aE];omega)
  rw[pL,oH]
  generalize i:zdZ (fun c=>(some c:Option ad)) (zdT S) (pL ((cP A).length+t.bs.length) ts)=ag at next ⊢
  unfold zdT
  refine aY (Lb _ t ht) ?_
  have k:iD (((t::ts).map tkT).map ie)=(ie (tkT t)).2++iD ((ts.map tkT).map ie):=by unfold iD;rw[av,av,jA]
  rw[k,←de]
  cases f:ej (tkT t) with
  |true=>
   obtain⟨h1,h2,h3⟩:=KN f
   have e2:(ie (tkT t)).2=ae (cA (t.r:Int)):=by unfold ie;rw[f,h1];rfl
   have l:=nr (cA (t.r:Int))
   rw[e2]
   exact bS rfl (zdG (pi ht) (zdG (by show b.size+(ae (cA (t.r:Int))).size≤_;omega) (next _ l)))
  |false=>
   have e2:(ie (tkT t)).2=(tkT t).2:=by unfold ie;rw[f];rfl
   have hsz:=zF ht
   have h:(pT (cP A).length t).At+(pT (cP A).length t).Width=(((cP A).length+t.bs.length:Nat):Int):=by
    show ((cP A).length:Int)+(t.bs.length:Int)=_;push_cast;rfl
   have a:cO S (pT (cP A).length t).At (((cP A).length+t.bs.length:Nat):Int)=(tkT t).2:=by
    have:=EX (s:=S) (A:=A) (W:=[t]) (Z:=ts) (by rw[hd];rfl) rfl (b:=(cP A).length+t.bs.length) (by simp[cP])
    rw[show (pT (cP A).length t).At=((cP A).length:Int) from rfl,this]
    show J (·.2) [tkT t]=_
    rw[jA,ri,bx]
   have d:(tkT t).2.size≤4:=by rw[gJ];show t.bs.toArray.toList.length≤4;simpa using hsz
   rw[e2]
   refine bM rfl ?_
   rw[h,a]
   exact gO (zdG ⟨by show (0:Int)≤((cP A).length:Int);omega,by show ((cP A).length:Int)≤_;omega,by omega⟩ (gO (next _ d)))
theorem TZ (s:ad) (b:s.size≤65536):zn s=some (jL s):=by
 have h1:=(s7 s b).2.1
 have h2:=xj (gm s)
 unfold zn
 refine cB (aY (JE s b) (aY (a:=gm s) rfl (aY (za _ (by omega)) (cB ?_))))
 rw[xe]
 have:=Lc (gm s) (by omega) (eU (gm s).data.toList) [] ac (by rw[bg,tP]) (pP _) (by show 0+_≤_;omega)
 rw[dD] at this
 exact this
def oe:Nat→List Tk→Bool
 |_,[]=>true
 |k,x::l=>decide (k+1≤8)&&(ej x||(decide (k≠0)&&iQ x))&&oe (k+1) l
def zfX (s:ad):ad:=if oe 0 (gE s) then jL s else ⟨#[]⟩
theorem Ld (x:Tk):ej (ie x)=ej x:=by
 unfold ie
 cases h:ej x with
 |true=>rw[am rfl];exact (ui (show cZ x.1=true from h)).1
 |false=>rw[aj (by simp)];exact h
theorem T0 (x:Tk):iQ (ie x)=iQ x:=by
 unfold ie
 cases h:ej x with
 |true=>
  rw[am rfl]
  have h1:=EP (ui (show cZ x.1=true from h)).1
  have h2:=EP (show cZ x.1=true from h)
  show fc _=fc _
  rw[h1,h2]
 |false=>rw[aj (by simp)]
theorem B7:∀ (l:List Tk) (k:Nat),oe k (l.map ie)=oe k l
 |[],k=>rfl
 |x::l,k=>by rw[av,oe,oe,B7 l,Ld,T0]
theorem Le (r:ad):∀ (ts:List dq) (i k:Nat),(∀t∈ts,kv t)→k≤8 →
  zdZ (fun (e:Int)=>(some r:Option ad)) (zei (fun (d:Int)=>some (⟨#[]⟩:ad))) (pL i ts) (k:Int)=some (if oe k (ts.map tkT) then r else ⟨#[]⟩)
 |[],i,k,_,_=>rfl
 |t::ts,i,k,hok,hk=>by
  have ht:=hok t (ar ..)
  have next:=fun h=>Le r ts (i+t.bs.length) (k+1) (fun y hy=>hok y (ak _ hy)) h
  rw[pL,oH,av,oe]
  generalize f:zdZ (fun (e:Int)=>(some r:Option ad)) (zei (fun (d:Int)=>some (⟨#[]⟩:ad))) (pL (i+t.bs.length) ts)=ag at next ⊢
  unfold zei
  refine gO ?_
  by_cases c:k+1≤8
  ·refine fC (aY (Lb i t ht) ?_)
   have a:=next c
   push_cast at a
   rw[ax c,fG]
   cases g:ej (tkT t) with
   |true=>refine bM rfl ?_;rw[a];simp
   |false=>
    refine bS rfl ?_
    by_cases h0:k=0
    ·subst h0
     refine bS (by decide) ?_
     simp
    ·have b:(((k:Int)+1:Int)==1)=false:=aC.2 (by omega)
     refine bM b (aY (TY i t ht) ?_)
     rw[dp,ax h0,fG]
     cases hm:iQ (tkT t) with
     |true=>refine bM rfl ?_;rw[a];simp
     |false=>refine bS rfl ?_;simp
  ·refine eR ?_
   rw[al c];simp
theorem T1 (s:ad) (b:s.size≤65536):xb s=some (zfX s):=by
 have h1:=(s7 s b).2.1
 have h2:=xj (gm s)
 have h3:(jL s).size≤1000000000:=by
  have:(jL s).size≤4*((gE s).map ie).length:=xm fun y hy=>by
   obtain⟨x,hx,rfl⟩:=aU.1 hy
   obtain⟨t,ht,rfl⟩:=aU.1 hx
   refine B6 ?_
   rw[gJ]
   have:=zF (pP _ t ht)
   show t.bs.toArray.toList.length≤4
   simpa using this
  unfold gE nu at this
  rw[az,az] at this
  omega
 unfold xb
 refine cB (aY (TZ s b) (aY (a:=jL s) rfl (aY (za _ (by omega)) (cB (cB ?_)))))
 rw[xe]
 have:=Le (jL s) (eU (jL s).data.toList) 0 0 (pP _) (by omega)
 refine this.trans ?_
 unfold zfX
 rw[Fz s b]
 have e:((nu s).map pZ).map tkT=(gE s).map ie:=by
  unfold gE
  rw[cn,cn]
  exact dw fun t _=>B5 t
 rw[e,B7]
def gP:List UInt8→Nat→Option (Nat×List UInt8)→List (Nat×List UInt8)
 |[],_,cur=>cur.toList
 |c::l,i,cur=>if c=32 then cur.toList++gP l (i+1) none else match cur with
  |none=>gP l (i+1) (some (i,[c]))
  |some (a,w)=>gP l (i+1) (some (a,w++[c]))
theorem zH (l:List UInt8) (i:Nat) (a:Option (Nat×List UInt8)):gP (32::l) i a=a.toList++gP l (i+1) none:=by
 cases a<;>rfl
theorem FA {c:UInt8} (h:c≠32) (l:List UInt8) (i:Nat):gP (c::l) i none=gP l (i+1) (some (i,[c])):=by
 rw[gP,aj h]
theorem FB {c:UInt8} (h:c≠32) (l:List UInt8) (i a:Nat) (w:List UInt8):gP (c::l) i (some (a,w))=gP l (i+1) (some (a,w++[c])):=by
 rw[gP,aj h]
def jM (at_:Int) (p:Nat×List UInt8):gw:=⟨at_+(p.1:Int),ba p.2⟩
theorem zJ {s:ad} {k:Nat} {c:UInt8} (h:s.data.toList[k]?=some c):jQ s (k:Int)=some (c.toNat:Int):=by
 unfold jQ
 rw[am (by omega),bz]
 have:s.data[k]?=some c:=by rw[←kl];exact h
 rw[this];rfl
theorem T2 {s:ad} {k:Nat} {c:UInt8} (h:s.data.toList[k]?=some c):cO s (k:Int) ((k:Int)+1)=ba [c]:=by
 apply ow
 have hk:=(au.1 h)
 have e:=s6 s k (k+1)
 push_cast at e
 rw[e,oS,ik]
 obtain⟨h1,h2⟩:=hk
 rw[aR h1,h2];rfl
theorem T3 (b:ad) (at_:Int) (C:b.size≤1000000000) (ha : -1000000000≤at_∧at_≤1000000000) (J:List gw→Option (List gw)) :
  ∀ (n k:Nat) (E:List (Nat×List UInt8)) (d:Option (Nat×List UInt8)),k≤b.size→b.size-k<n→E.length≤k→(∀a w,d=some (a,w)→w.length≤k)→E.length+d.toList.length≤k →
   zaC (fun _ _ _=>none) (zeh b at_ J) n ((E++d.toList).map (jM at_)) d.isSome (k:Int)=J ((E++gP (b.data.toList.drop k) k d).map (jM at_)):=by
 intro n
 induction n with
 |zero=>intro k E d _ h;omega
 |succ n u=>
  intro k E d hk D F x hc
  rw[gk]
  generalize r:zaC (fun _ _ _=>none) (zeh b at_ J) n=ag
  unfold zeh
  by_cases p:k<b.size
  ·have q:k<b.data.toList.length:=by rw[←gJ];exact p
   obtain⟨c,g⟩:∃c,b.data.toList[k]?=some c:=⟨_,aJ q⟩
   have f:b.data.toList.drop k=c::b.data.toList.drop (k+1):=by
    rw[aR q]
    have:=aJ q
    rw[g] at this
    injection this with this
    rw[this]
   refine eR (cB (aY (zJ g) ?_))
   have t:(((c.toNat:Int):Int)==32)=decide (c=32):=by
    rw[dJ,beq_iff_eq,decide_eq_true_iff]
    constructor
    ·intro h;exact dZ.1 (by show c.toNat=32;omega)
    ·intro h;subst h;rfl
   have i:=fun (B:List (Nat×List UInt8)) (m:Option (Nat×List UInt8)) h1 h2 h3=>u (k+1) B m (by omega) (by omega) h1 h2 h3
   push_cast at i
   rw[r] at i
   rw[t,f]
   by_cases h:c=32
   ·rw[ax h,h,zH]
    refine bS rfl (gO ?_)
    have:=i (E++d.toList) none (by rw[aa];omega) (by intro a w h;cases h) (by rw[aa];show _+0≤_;omega)
    rw[show (none:Option (Nat×List UInt8)).toList=[] from rfl,aH] at this
    refine this.trans ?_
    rw[aA]
   ·rw[al h]
    refine bM rfl ?_
    have e:=T2 g
    cases d with
    |none=>
     rw[FA h]
     refine bM rfl (gO (gO (gO (zdG (by rw[az,aa];show _+0+1≤_;omega) (gO ?_)))))
     rw[e]
     have:=i E (some (k,[c])) (by omega) (by intro a w h;injection h with h;injection h with _ h;rw[←h];show 1≤_;omega) (by show _+1≤_;omega)
     refine Eq.trans ?_ this
     congr 1
     rw[cM,cM]
     show List.map (jM at_) E++[]++_=_
     rw[aH];rfl
    |some z=>
     obtain⟨a,w⟩:=z
     rw[FB h]
     have v:=x a w rfl
     have j:(E++(some (a,w)).toList).map (jM at_)=E.map (jM at_)++[jM at_ (a,w)]:=by rw[cM];rfl
     have y:E.length+1≤k:=hc
     rw[j]
     have l:((E.map (jM at_)++[jM at_ (a,w)]).length:Int)-1=(E.length:Int):=by rw[aa,az];simp
     rw[l]
     refine bS rfl (gO (aY (gM (show (E.map (jM at_)++[jM at_ (a,w)])[E.length]?=some (jM at_ (a,w)) by
      rw[List.getElem?_append_right (by rw[az];exact bq _),az,oC];rfl)) (gO (gO ?_))))
     rw[e]
     refine zdG (by show (ba w).size+(ba [c]).size≤_;rw[s9,s9];show _+1≤_;omega) (gO ?_)
     have:=i E (some (a,w++[c])) (by omega) (by intro G w' h;injection h with h;injection h with _ h;rw[←h,aa];show _+1≤_;omega) (by show _+1≤_;omega)
     refine Eq.trans ?_ this
     congr 1
     rw[bz,p6 _ _ (by rw[az];exact bq _),az,oC,cM]
     have e2:(jM at_ (a,w)).text++ba [c]=ba (w++[c]):=by
      apply ow
      rw[od,oS,oS]
      show (ba w).data.toList++_=_
      rw[oS]
     show _++[(⟨(jM at_ (a,w)).at_,(jM at_ (a,w)).text++ba [c]⟩:gw)]=_++[jM at_ (a,w++[c])]
     rw[e2];rfl
  ·have:k=b.size:=by omega
   refine fC ?_
   rw[bJ (by rw[←gJ];omega)];rfl
theorem T4 (b:ad) (at_:Int) (c:b.size≤1000000000) (ha : -1000000000≤at_∧at_≤1000000000):zl b at_=some ((gP b.data.toList 0 none).map (jM at_)):=by
 unfold zl
 refine cB ?_
 have:=T3 b at_ c ha some zbx 0 [] none (bG _) (by unfold zbx;omega) (bG _) (by intro a w h;cases h) (bG _)
 exact this
end Go.Proofs.YtifpjbgnikjglaaGreatDoor
