/-
  Texts laid together: LcE, Ka, Kb, Qm, Kc, Kd, Ke, LcU, LcF, Kg, Kh, Ki, Kj, Kk, Kl, Km, LcD. Nothing is assumed.
-/
import Derived.Test.YtifpjbgnikjglaaGreatDoorCollateHeadings4
import Derived.Test.YtifpjbgnikjglaaGreatDoorCollateHeadings2
set_option maxRecDepth 100000
set_option maxHeartbeats 4000000
namespace Go.Proofs.YtifpjbgnikjglaaGreatDoor
open Go.RowKit Go.Lib
open Tryz
set_option linter.unusedVariables false
set_option linter.unusedSimpArgs false
open _root_.Array renaming toList_inj→fv,getElem?_toList→jT
open _root_.Bool renaming or_eq_true→dy,false_eq_true→bg,false_or→dk,true_and→fB,eq_iff_iff→dL
open _root_.ByteArray renaming empty→ad,size_append→aJ,append_empty→aX,append_assoc→cu,empty_append→c8
open _root_.Go.IntWalk renaming i64_in→ai
open _root_.Go.Lib renaming compareBytes→dh
open _root_.Go.Proofs.Tryz renaming underlying9→al,underlying70→eQ,underlying129→cI,underlying21→aZ,underlying69→nD,underlying36→aG,underlying87→bS,results48→fC,results16→oh,underlying63→cE,results31→jg
open bW renaming nil→ce
open c9 renaming nil→io
open Hd renaming nil→eu
open am renaming nil→ah
open cN renaming broken→pN
open Vw renaming get→bX
open evL renaming cons→da,nil→eJ
open aP renaming one1→aQ
open _root_.Go.Utf8 renaming encode→ac
open _root_.Go.Value renaming string→af,int→aC,bool→ay
open _root_.Int renaming fdiv_eq_ediv_of_nonneg→iR,le_refl→fg,toNat_natCast→bN
open _root_.List renaming nil_append→aW,append_nil→aE,length_cons→ab,length_append→aa,take_append_drop→bO,drop_succ_cons→kQ,take_succ_cons→ea,map_cons→av,drop_left→gV,takeWhile_cons→aV,mem_cons_of_mem→ak,mem_cons_self→aq,any_cons→jb,dropWhile_cons→cC,length_nil→aI,takeWhile_map→rR,cons_append→bq,takeWhile_append_dropWhile→dS,length_map→ar,append_assoc→aB,mem_singleton→bl,mem_cons→aY,not_mem_nil→cX,getElem?_eq_getElem→aO,drop_eq_getElem_cons→bB,foldl_cons→bn,take_length→mr,take_of_length_le→dX,flatMap_cons→aK,mem_append→bH,mem_filter→co,getElem?_eq_some_iff→az,map_map→bY,map_congr_left→dt,mem_of_mem_take→qk,range→eV,all_eq_true→bd,mem_range→kz,mem_map→aS,takeWhile_sublist→cV,length_drop→aR,mem_of_mem_drop→fV,map_drop→jR,length_take→bw,set_append_right→pG,all_takeWhile→rP,length→fu,filter_append→rQ,map_append→cQ,replicate→bF
open _root_.Nat renaming le_of_not_lt→iG,add_assoc→fI,add_sub_cancel_left→fh,zero_le→cm,le_refl→bi,sub_self→mR,lt_succ_self→cq
open _root_.Option renaming getD_none→hO,getD_some→ei
open _root_.Or renaming inr→jf
open _root_.UInt8 renaming toNat_inj→kA,ofNat→sX
def zb5 (o1:cw) (f:ae) (d:Int→Int→Int→Option Int) (x1:cT) (e:Int→Int→Bool→Option Int) (a:Int) (b:Int) (c:Bool):Option Int := aU (fl x1.Rune) <|aM (decide ((a:Int)<0)) (aM (((fq x1.Broken x1.Rune):Int)==1) (aU (cp (x1.At+x1.Width)) <|e x1.At (x1.At+x1.Width) c) (aM (decide ((a:Int)<0)) (e a b c) (aM (c) (aM (((fq x1.Broken x1.Rune):Int)==1) (aU (cp (x1.At+x1.Width)) <|e a (x1.At+x1.Width) c) (aM (((fq x1.Broken x1.Rune):Int)==2) (aU (cp (x1.At+x1.Width)) <|e a (x1.At+x1.Width) c) (aM (((fq x1.Broken x1.Rune):Int)==1) (aU (0≤(a:Int)∧(a:Int)≤b∧(b:Int)≤(f.size:Int)) <|aT (oR (cL f a b)) fun (r2:ae)=>aM (((zbO r2 o1.skips).getD false)) (d b a b) (d 0 a b)) (aM (((fq x1.Broken x1.Rune):Int)==3) (aU (0≤(a:Int)∧(a:Int)≤b∧(b:Int)≤(f.size:Int)) <|aT (oR (cL f a b)) fun (r3:ae)=>aM (((zbO r3 o1.skips).getD false)) (d b a b) (d 0 a b)) (e a b false))))) (aM (((fq x1.Broken x1.Rune):Int)==1) (aU (0≤(a:Int)∧(a:Int)≤b∧(b:Int)≤(f.size:Int)) <|aT (oR (cL f a b)) fun (l:ae)=>aM (((zbO l o1.skips).getD false)) (d b a b) (d 0 a b)) (aM (((fq x1.Broken x1.Rune):Int)==3) (aU (0≤(a:Int)∧(a:Int)≤b∧(b:Int)≤(f.size:Int)) <|aT (oR (cL f a b)) fun (k:ae)=>aM (((zbO k o1.skips).getD false)) (d b a b) (d 0 a b)) (e a b false)))))) (aM (decide ((a:Int)<0)) (e a b c) (aM (c) (aM (((fq x1.Broken x1.Rune):Int)==1) (aU (cp (x1.At+x1.Width)) <|e a (x1.At+x1.Width) c) (aM (((fq x1.Broken x1.Rune):Int)==2) (aU (cp (x1.At+x1.Width)) <|e a (x1.At+x1.Width) c) (aM (((fq x1.Broken x1.Rune):Int)==1) (aU (0≤(a:Int)∧(a:Int)≤b∧(b:Int)≤(f.size:Int)) <|aT (oR (cL f a b)) fun (j:ae)=>aM (((zbO j o1.skips).getD false)) (d b a b) (d 0 a b)) (aM (((fq x1.Broken x1.Rune):Int)==3) (aU (0≤(a:Int)∧(a:Int)≤b∧(b:Int)≤(f.size:Int)) <|aT (oR (cL f a b)) fun (i:ae)=>aM (((zbO i o1.skips).getD false)) (d b a b) (d 0 a b)) (e a b false))))) (aM (((fq x1.Broken x1.Rune):Int)==1) (aU (0≤(a:Int)∧(a:Int)≤b∧(b:Int)≤(f.size:Int)) <|aT (oR (cL f a b)) fun (h:ae)=>aM (((zbO h o1.skips).getD false)) (d b a b) (d 0 a b)) (aM (((fq x1.Broken x1.Rune):Int)==3) (aU (0≤(a:Int)∧(a:Int)≤b∧(b:Int)≤(f.size:Int)) <|aT (oR (cL f a b)) fun (g:ae)=>aM (((zbO g o1.skips).getD false)) (d b a b) (d 0 a b)) (e a b false)))))
def yS (o1:cw) (g:ae):Option Int := cn (fun (j:Option Int)=>aT (uG g) fun (r1:ae)=>aT (sE r1) fun (a:(List cT))=>cn (fun (e:Int→Int→Int→Option Int)=>cn (fun (f:Int→Int→Bool→Option Int)=>zdw f (zb5 o1 g e) a (-1) 0 true) (fun (d:Int) (i:Int) (b:Bool)=>j)) (fun (x2:Int) (c:Int) (h:Int)=>some x2)) (some 0)
theorem Sc {_g:Nat} {o1:cw} {_f _a _c _d _h:Hd} {B:ae} {r:Int} (h:yS o1 B=some r):iu prog 86 [zP _g,.string B] [cells _g [_f.v,.map (some (bm _a)),.map (some (bm _c)),.map (some (bm _d)),_h.v] 72,bD _f.v o1.units,cG (fun n:ae=>af n) (fun n:Int=>aC .i64 n) (bm _a) o1.place,dU (bm _c) o1.fors,cG (fun n:ae=>af n) (fun n:Bool=>ay n) (bm _d) o1.skips,bD _h.v o1.lines] [] (fun _:Unit=>(zI r)) (fun _=>[]):=by
 unfold yS at h
 refine iu.intro func86 rfl ntmps86 (by simp) (fun w0 K y=>ziX (zbp h fun j1 ch h=>zaM (β:=Nat×(List Nat)) 3 rfl (fun b=>j1=some r) (fun b=>oj b.2) (fun b=>[(4,zP b.1)]) (fun b=>[cells b.1 [zI 0] 3,zhW ((b.2:List Nat).map fx)]) (fun cut=>?_) ?_))
 ·refine zyG (zeV rfl dc rfl (fun Q=>zeV rfl dc rfl (fun P=>zbk xu rfl dc (fun L=>zyH (zbk xu rfl dc (fun O=>zbk xu rfl dc (fun N=>ef (k:=4) (l':=[zI (-1)]) jJ rfl rfl rfl rfl rfl (fun _ _=>rfl) rfl (ef (k:=5) (l':=[zI 0]) jJ rfl rfl rfl rfl rfl (fun _ _=>rfl) rfl (zyH (zbk zFC rfl dc (fun M=>ef (k:=6) (l':=[.bool true]) jX rfl rfl rfl rfl rfl (fun _ _=>rfl) rfl (zyN (cut (zyG (zat (k:=2) eb rfl dc rfl rfl rfl (zbl h fun r1 cc h=>zbJ (vs:=[.string B]) rfl dc rfl rfl rfl xB (yB cc) ah (fun b8=>lm (L':=[zhW ((([]:List Nat):List Nat).map fx),cells Q [zP _g] 29,cells P [.string B] 9,cells L [zI 0] 3,cells O [zI (-1)] 3,cells N [zI 0] 3,cells M [.bool true] 4,cells b8 [.string r1] 9]) (cj 8) (zyN (zau (zbl h fun U b0 h=>zbp h fun J a3 h=>zbp h fun T a4 h=>tZ (α:=cT) (β:=Int×Int×Bool) (γ:=(Int×Int×Int)) (δ:=Nat) (ps:=[12]) Ro.nil rfl xD (yA b0) (fun pre b=>∀post,U=pre++post→zdw T (zb5 o1 B J) post b.1 b.2.1 b.2.2=some r) (fun pre b=>[cells Q [zP _g] 29,cells P [.string B] 9,cells L [zI 0] 3,cells O [zI b.1] 3,cells N [zI b.2.1] 3,cells M [.bool b.2.2] 4]) (fun c pre g=>(fun g=>c=.ret∧J g.1 g.2.1 g.2.2=some r) g) (fun c pre g=>(fun g=>[cells Q [zP _g] 29,cells P [.string B] 9,cells L [zI g.1] 3,cells O [zI g.2.1] 3,cells N [zI g.2.2] 3,cells M [.bool false] 4]) g) (fun pre x b j=>[(2,zP Q),(3,zP P),(4,zP L),(5,zP O),(6,zP N),(7,zP M),(11,.func (.func 154) #[] #[zP b8]),(8,zP j)]) (fun pre x b j=>[cells Q [zP _g] 29,cells P [.string B] 9,cells L [zI 0] 3,cells O [zI b.1] 3,cells N [zI b.2.1] 3,cells M [.bool b.2.2] 4,cells j [zI x.At,zI x.Width,.int .i32 x.Rune,.bool x.Broken] 132]) ((-1),0,true) (fun post e=>by rw[aW] at e;subst e;exact h) (cg [1,2,3,4,5,6] kr rfl) ⟨.inl ⟨7,rfl⟩,trivial⟩ (fun _=>rfl) dc ?_ ?_ ?_ ?_))))))))))))))))))))
  ·rintro lp rc pre x1 post ⟨f,l,p⟩ w1 K1 t G a6 E
   have y:=y.ext G
   exact bV (zbk zjz rfl dc (fun b9=>eK (k:=6) (vs:=[zI x1.At,zI x1.Width,.int .i32 x1.Rune,.bool x1.Broken]) (l':=[zI x1.At,zI x1.Width,.int .i32 x1.Rune,.bool x1.Broken]) kC rfl rfl rfl rfl rfl (show _≤_ by simp) rfl rfl (bG (fun a w ha hw=>⟨b9,(bE rfl) _ _ _ ha,hw.weaken (cj 7)⟩))))
  ·rintro lp rc pre x1 F ⟨f,l,p⟩ I w1 K1 t G a6 E
   have y:=y.ext G
   have h:=E (x1::F) t
   obtain⟨dg,z⟩:∃ag,ag=zdw T (zb5 o1 B J) F:=⟨_,rfl⟩
   have h:zb5 o1 B J x1 dg f l p=some r:=by have h2:=h;rw[nI,←z] at h2;exact h2
   unfold zb5 at h
   refine zau (zyG (zbT (k:=6) (cs:=[zI x1.At,zI x1.Width,.int .i32 x1.Rune,.bool x1.Broken]) lB rfl dc rfl rfl rfl rfl (zbt h fun a2 h=>zaI (v:=zI (fq x1.Broken x1.Rune)) (vs:=[.agg #[zI x1.At,zI x1.Width,.int .i32 x1.Rune,.bool x1.Broken]]) rfl dc rfl rfl rfl vK (vT x1.At x1.Width x1.Rune x1.Broken a2.1 a2.2) (zyR 1 rfl (zyN (zau (zyG (zat (k:=3) dQ rfl dc rfl rfl rfl (zaR rfl zbi (zyR 1 rfl (zyS (s:=35) rfl h (fun h=>?_) (fun h=>?_))))))))))))
   ·refine zyR 1 rfl (zaR rfl zbe (zyR 2 rfl (zyN (zyB rfl h (fun h=>zbt h fun W h=>zL (β:=Unit) 8 7 _ [(0,39,zP I),(1,40,zI x1.At),(2,41,zP I),(3,42,zI x1.At),(4,43,.pointer (some ⟨I,1,none⟩)),(5,44,zI x1.Width),(6,45,zI (x1.At+x1.Width))] (fun _b=>[]) (fun _b=>[cells Q [zP _g] 29,cells P [.string B] 9,cells L [zI 0] 3,cells O [zI x1.At] 3,cells N [zI l] 3,cells M [.bool p] 4,cells I [zI x1.At,zI x1.Width,.int .i32 x1.Rune,.bool x1.Broken] 132]) mixed kr kr rfl dc dc (by rfl) kr kr (gE (fun D n d c u i=>zab zd6 rfl dc (zbA (by rfl) rfl) (show _=0 from rfl) (zaT 0 u i)) (gE (fun D n d c u i=>zat (k:=6) dQ rfl dc (bC 0 u d) rfl rfl (zaT 1 u i)) (gE (fun D n d c u i=>zab zd6 rfl dc (zbA (by rfl) rfl) (show _=0 from rfl) (zaT 2 u i)) (gE (fun D n d c u i=>zat (k:=6) dQ rfl dc (bC 2 u d) rfl rfl (zaT 3 u i)) (gE (fun D n d c u i=>zab qx rfl dc (zbA (by rfl) rfl) (show _=1 from rfl) (zaT 4 u i)) (gE (fun D n d c u i=>zat (k:=6) dQ rfl dc (bC 4 u d) rfl rfl (zaT 5 u i)) (gE (fun D n d c u i=>lU rfl dc (bC 3 u d) (bC 5 u d) (dE (r:=x1.At+x1.Width) (ai _ W)) (zaT 6 u i)) (td io)))))))) (fun _b=>(gE (fun D n d c u i=>zab zd6 rfl dc (zbA (by rfl) rfl) (show _=0 from rfl) (zaT 0 u i)) (gE (fun D n d c u i=>zat (k:=6) dQ rfl dc (bC 0 u d) rfl rfl (zaT 1 u i)) (gE (fun D n d c u i=>zab zd6 rfl dc (zbA (by rfl) rfl) (show _=0 from rfl) (zaT 2 u i)) (gE (fun D n d c u i=>zat (k:=6) dQ rfl dc (bC 2 u d) rfl rfl (zaT 3 u i)) (gE (fun D n d c u i=>zab qx rfl dc (zbA (by rfl) rfl) (show _=1 from rfl) (zaT 4 u i)) (gE (fun D n d c u i=>zat (k:=6) dQ rfl dc (bC 4 u d) rfl rfl (zaT 5 u i)) (gE (fun D n d c u i=>lU rfl dc (bC 3 u d) (bC 5 u d) (dE (r:=x1.At+x1.Width) (ai _ W)) (zaT 6 u i)) (td io))))))))) (fun D hn hd dj=>ef (k:=3) (l':=[zI x1.At]) jJ rfl (zbA (by rfl) rfl) (jG (m:=1) kr rfl (hd 1 dc)) rfl rfl (fun _ _=>rfl) rfl (fun a w ha hw=>⟨(),ha,hw⟩)) (fun _b=>ef (k:=4) (l':=[zI (x1.At+x1.Width)]) jJ rfl rfl rfl rfl rfl (fun _ _=>rfl) rfl (bG (ca (ca (lH (x1.At,x1.At+x1.Width,p) (fun q e2=>by have C:=lK t e2;subst C;subst z;exact h) (cj 6))))))) (fun h=>zyG (zat (k:=3) dQ rfl dc rfl rfl rfl (zaR rfl zbi (zyR 1 rfl (zyN (zyB rfl h (fun h=>bA (ca (ca (lH (f,l,p) (fun q e2=>by have C:=lK t e2;subst C;subst z;exact h) (cj 6))))) (fun h=>zyG (zat (k:=5) lW rfl dc rfl rfl rfl (zyR 1 rfl (zyS (s:=51) rfl h (fun h=>?_) (fun h=>?_)))))))))))))))
    ·refine zyR 1 rfl (zaR rfl zbe (zyR 1 rfl (zyS (s:=54) rfl h (fun h=>zyR 5 rfl (zyN (gM rfl (bV (zab zd6 rfl dc rfl (show _=0 from rfl) (zat (k:=6) dQ rfl dc rfl rfl rfl (zab qx rfl dc rfl (show _=1 from rfl) (zat (k:=6) dQ rfl dc rfl rfl rfl (zbt h fun df h=>zaR rfl (dE (r:=x1.At+x1.Width) (ai _ df)) (ef (k:=4) (l':=[zI (x1.At+x1.Width)]) jJ rfl rfl rfl rfl rfl (fun _ _=>rfl) rfl (bG (ca (ca (lH (f,x1.At+x1.Width,p) (fun q e2=>by have C:=lK t e2;subst C;subst z;exact h) (cj 6))))))))))))))) (fun h=>zyR 1 rfl (zaR rfl zbe (zyR 3 rfl (zyN (zyB rfl h (fun h=>bV (zab zd6 rfl dc rfl (show _=0 from rfl) (zat (k:=6) dQ rfl dc rfl rfl rfl (zab qx rfl dc rfl (show _=1 from rfl) (zat (k:=6) dQ rfl dc rfl rfl rfl (zbt h fun dd h=>zaR rfl (dE (r:=x1.At+x1.Width) (ai _ dd)) (ef (k:=4) (l':=[zI (x1.At+x1.Width)]) jJ rfl rfl rfl rfl rfl (fun _ _=>rfl) rfl (bG (ca (ca (lH (f,x1.At+x1.Width,p) (fun q e2=>by have C:=lK t e2;subst C;subst z;exact h) (cj 6)))))))))))) (fun h=>zyG (ef (k:=5) (l':=[.bool false]) jX rfl rfl rfl rfl rfl (fun _ _=>rfl) rfl (zyH (zyR 1 rfl (zaR rfl zbe (zyR 1 rfl (zyS (s:=17) rfl h (fun h=>zyR 3 rfl (zyN (gM rfl (zaL (zaL (zbt h fun c5 h=>zbl h fun r2 bs h=>zdb 9 [(0,21,zP _g),(1,22,zP _g),(2,23,.pointer (some ⟨_g,3,none⟩)),(3,24,.map (some (bm _d))),(4,25,.string B),(5,26,zI f),(6,27,zI l),(7,28,.string (cL B f l)),(8,29,.string r2)] mixed kr kr dc (by rfl) kr kr (zae (fun D n d c u i=>zat (k:=0) oJ rfl dc (zbA (by rfl) rfl) rfl rfl (zaT 0 u i)) (zae (fun D n d c u i=>za8 rfl dc (bC 0 u d) (zaT 1 u i)) (zae (fun D n d c u i=>zab rb rfl dc (bC 1 u d) (show _=3 from rfl) (zaT 2 u i)) (zae (fun D n d c u i=>zd3 (i:=0) y rfl ra rfl dc (bC 2 u d) rfl (zaT 3 u i)) (zae (fun D n d c u i=>zat (k:=1) eb rfl dc (zbA (by rfl) rfl) rfl rfl (zaT 4 u i)) (zae (fun D n d c u i=>zat (k:=3) dQ rfl dc (zbA (by rfl) rfl) rfl rfl (zaT 5 u i)) (zae (fun D n d c u i=>zat (k:=4) dQ rfl dc (zbA (by rfl) rfl) rfl rfl (zaT 6 u i)) (zae (fun D n d c u i=>ia rfl dc (bC 4 u d) (evO.some (bC 5 u d)) (evO.some (bC 6 u d)) (ka (i:=f) (j:=l) al (.inr rfl) (.inr rfl) c5) (zaT 7 u i)) (zae (fun D n d c u i=>zaI (v:=.string r2) (vs:=[.string (cL B f l)]) rfl dc rfl (da (bC 7 u d) eJ) rfl rf (ry bs) (zaT 8 u i)) ce))))))))) (qZ (k:=4) (ek:=(fun n:ae=>af n)) (ev':=(fun n:Bool=>ay n)) (kk:=r2) (z0:=false) (mC al) eQ kr rfl dc rfl rfl y rfl (zyN (zyB rfl h (fun h=>zyG (zat (k:=4) dQ rfl dc rfl rfl rfl (ef (k:=2) (l':=[zI l]) jJ rfl rfl rfl rfl rfl (fun _ _=>rfl) rfl (zyN (zaz (bP (cD (cD (my (l,f,l) (show _∧_ from ⟨rfl,h⟩) (cj 6)))))))))) (fun h=>bA (ct (zyG (ef (k:=2) (l':=[zI 0]) jJ rfl rfl rfl rfl rfl (fun _ _=>rfl) rfl (zyN (zaz (cD (cD (my (0,f,l) (show _∧_ from ⟨rfl,h⟩) (cj 6))))))))))))))))))) (fun h=>zyR 1 rfl (zaR rfl zbe (zyR 1 rfl (zyN (zyB rfl h (fun h=>?_) (fun h=>?_)))))))))))))))))))))
     ·exact zaL (zaL (zbt h fun c4 h=>zbl h fun r3 bk h=>zdb 9 [(0,21,zP _g),(1,22,zP _g),(2,23,.pointer (some ⟨_g,3,none⟩)),(3,24,.map (some (bm _d))),(4,25,.string B),(5,26,zI f),(6,27,zI l),(7,28,.string (cL B f l)),(8,29,.string r3)] mixed kr kr dc (by rfl) kr kr (zae (fun D n d c u i=>zat (k:=0) oJ rfl dc (zbA (by rfl) rfl) rfl rfl (zaT 0 u i)) (zae (fun D n d c u i=>za8 rfl dc (bC 0 u d) (zaT 1 u i)) (zae (fun D n d c u i=>zab rb rfl dc (bC 1 u d) (show _=3 from rfl) (zaT 2 u i)) (zae (fun D n d c u i=>zd3 (i:=0) y rfl ra rfl dc (bC 2 u d) rfl (zaT 3 u i)) (zae (fun D n d c u i=>zat (k:=1) eb rfl dc (zbA (by rfl) rfl) rfl rfl (zaT 4 u i)) (zae (fun D n d c u i=>zat (k:=3) dQ rfl dc (zbA (by rfl) rfl) rfl rfl (zaT 5 u i)) (zae (fun D n d c u i=>zat (k:=4) dQ rfl dc (zbA (by rfl) rfl) rfl rfl (zaT 6 u i)) (zae (fun D n d c u i=>ia rfl dc (bC 4 u d) (evO.some (bC 5 u d)) (evO.some (bC 6 u d)) (ka (i:=f) (j:=l) al (.inr rfl) (.inr rfl) c4) (zaT 7 u i)) (zae (fun D n d c u i=>zaI (v:=.string r3) (vs:=[.string (cL B f l)]) rfl dc rfl (da (bC 7 u d) eJ) rfl rf (ry bk) (zaT 8 u i)) ce))))))))) (qZ (k:=4) (ek:=(fun n:ae=>af n)) (ev':=(fun n:Bool=>ay n)) (kk:=r3) (z0:=false) (mC al) eQ kr rfl dc rfl rfl y rfl (zyN (zyB rfl h (fun h=>zyG (zat (k:=4) dQ rfl dc rfl rfl rfl (ef (k:=2) (l':=[zI l]) jJ rfl rfl rfl rfl rfl (fun _ _=>rfl) rfl (zyN (zaz (bP (cD (cD (my (l,f,l) (show _∧_ from ⟨rfl,h⟩) (cj 6)))))))))) (fun h=>bA (ct (zyG (ef (k:=2) (l':=[zI 0]) jJ rfl rfl rfl rfl rfl (fun _ _=>rfl) rfl (zyN (zaz (cD (cD (my (0,f,l) (show _∧_ from ⟨rfl,h⟩) (cj 6)))))))))))))))
     exact bA (ca (ca (lH (f,l,false) (fun q e2=>by have C:=lK t e2;subst C;subst z;exact h) (cj 6))))
    exact zyR 8 rfl (zyN (eh rfl (zyG (ef (k:=5) (l':=[.bool false]) jX rfl rfl rfl rfl rfl (fun _ _=>rfl) rfl (zyH (zyR 1 rfl (zaR rfl zbe (zyR 1 rfl (zyS (s:=17) rfl h (fun h=>zyR 3 rfl (zyN (gM rfl (zaL (zaL (zbt h fun c3 h=>zbl h fun r4 bh h=>zdb 9 [(0,21,zP _g),(1,22,zP _g),(2,23,.pointer (some ⟨_g,3,none⟩)),(3,24,.map (some (bm _d))),(4,25,.string B),(5,26,zI f),(6,27,zI l),(7,28,.string (cL B f l)),(8,29,.string r4)] mixed kr kr dc (by rfl) kr kr (zae (fun D n d c u i=>zat (k:=0) oJ rfl dc (zbA (by rfl) rfl) rfl rfl (zaT 0 u i)) (zae (fun D n d c u i=>za8 rfl dc (bC 0 u d) (zaT 1 u i)) (zae (fun D n d c u i=>zab rb rfl dc (bC 1 u d) (show _=3 from rfl) (zaT 2 u i)) (zae (fun D n d c u i=>zd3 (i:=0) y rfl ra rfl dc (bC 2 u d) rfl (zaT 3 u i)) (zae (fun D n d c u i=>zat (k:=1) eb rfl dc (zbA (by rfl) rfl) rfl rfl (zaT 4 u i)) (zae (fun D n d c u i=>zat (k:=3) dQ rfl dc (zbA (by rfl) rfl) rfl rfl (zaT 5 u i)) (zae (fun D n d c u i=>zat (k:=4) dQ rfl dc (zbA (by rfl) rfl) rfl rfl (zaT 6 u i)) (zae (fun D n d c u i=>ia rfl dc (bC 4 u d) (evO.some (bC 5 u d)) (evO.some (bC 6 u d)) (ka (i:=f) (j:=l) al (.inr rfl) (.inr rfl) c3) (zaT 7 u i)) (zae (fun D n d c u i=>zaI (v:=.string r4) (vs:=[.string (cL B f l)]) rfl dc rfl (da (bC 7 u d) eJ) rfl rf (ry bh) (zaT 8 u i)) ce))))))))) (qZ (k:=4) (ek:=(fun n:ae=>af n)) (ev':=(fun n:Bool=>ay n)) (kk:=r4) (z0:=false) (mC al) eQ kr rfl dc rfl rfl y rfl (zyN (zyB rfl h (fun h=>zyG (zat (k:=4) dQ rfl dc rfl rfl rfl (ef (k:=2) (l':=[zI l]) jJ rfl rfl rfl rfl rfl (fun _ _=>rfl) rfl (zyN (zaz (bP (cD (cD (my (l,f,l) (show _∧_ from ⟨rfl,h⟩) (cj 6)))))))))) (fun h=>bA (ct (zyG (ef (k:=2) (l':=[zI 0]) jJ rfl rfl rfl rfl rfl (fun _ _=>rfl) rfl (zyN (zaz (cD (cD (my (0,f,l) (show _∧_ from ⟨rfl,h⟩) (cj 6))))))))))))))))))) (fun h=>zyR 1 rfl (zaR rfl zbe (zyR 1 rfl (zyN (zyB rfl h (fun h=>zaL (zaL (zbt h fun c2 h=>zbl h fun r5 bb h=>zdb 9 [(0,21,zP _g),(1,22,zP _g),(2,23,.pointer (some ⟨_g,3,none⟩)),(3,24,.map (some (bm _d))),(4,25,.string B),(5,26,zI f),(6,27,zI l),(7,28,.string (cL B f l)),(8,29,.string r5)] mixed kr kr dc (by rfl) kr kr (zae (fun D n d c u i=>zat (k:=0) oJ rfl dc (zbA (by rfl) rfl) rfl rfl (zaT 0 u i)) (zae (fun D n d c u i=>za8 rfl dc (bC 0 u d) (zaT 1 u i)) (zae (fun D n d c u i=>zab rb rfl dc (bC 1 u d) (show _=3 from rfl) (zaT 2 u i)) (zae (fun D n d c u i=>zd3 (i:=0) y rfl ra rfl dc (bC 2 u d) rfl (zaT 3 u i)) (zae (fun D n d c u i=>zat (k:=1) eb rfl dc (zbA (by rfl) rfl) rfl rfl (zaT 4 u i)) (zae (fun D n d c u i=>zat (k:=3) dQ rfl dc (zbA (by rfl) rfl) rfl rfl (zaT 5 u i)) (zae (fun D n d c u i=>zat (k:=4) dQ rfl dc (zbA (by rfl) rfl) rfl rfl (zaT 6 u i)) (zae (fun D n d c u i=>ia rfl dc (bC 4 u d) (evO.some (bC 5 u d)) (evO.some (bC 6 u d)) (ka (i:=f) (j:=l) al (.inr rfl) (.inr rfl) c2) (zaT 7 u i)) (zae (fun D n d c u i=>zaI (v:=.string r5) (vs:=[.string (cL B f l)]) rfl dc rfl (da (bC 7 u d) eJ) rfl rf (ry bb) (zaT 8 u i)) ce))))))))) (qZ (k:=4) (ek:=(fun n:ae=>af n)) (ev':=(fun n:Bool=>ay n)) (kk:=r5) (z0:=false) (mC al) eQ kr rfl dc rfl rfl y rfl (zyN (zyB rfl h (fun h=>zyG (zat (k:=4) dQ rfl dc rfl rfl rfl (ef (k:=2) (l':=[zI l]) jJ rfl rfl rfl rfl rfl (fun _ _=>rfl) rfl (zyN (zaz (bP (cD (cD (my (l,f,l) (show _∧_ from ⟨rfl,h⟩) (cj 6)))))))))) (fun h=>bA (ct (zyG (ef (k:=2) (l':=[zI 0]) jJ rfl rfl rfl rfl rfl (fun _ _=>rfl) rfl (zyN (zaz (cD (cD (my (0,f,l) (show _∧_ from ⟨rfl,h⟩) (cj 6)))))))))))))))) (fun h=>bA (ca (ca (lH (f,l,false) (fun q e2=>by have C:=lK t e2;subst C;subst z;exact h) (cj 6)))))))))))))))))))
   refine zyR 4 rfl (zyN (eh rfl (zyG (zat (k:=3) dQ rfl dc rfl rfl rfl (zaR rfl zbi (zyR 1 rfl (zyN (zyB rfl h (fun h=>bA (ca (ca (lH (f,l,p) (fun q e2=>by have C:=lK t e2;subst C;subst z;exact h) (cj 6))))) (fun h=>zyG (zat (k:=5) lW rfl dc rfl rfl rfl (zyR 1 rfl (zyS (s:=51) rfl h (fun h=>?_) (fun h=>?_)))))))))))))
   ·refine zyR 1 rfl (zaR rfl zbe (zyR 1 rfl (zyS (s:=54) rfl h (fun h=>zyR 5 rfl (zyN (gM rfl (bV (zab zd6 rfl dc rfl (show _=0 from rfl) (zat (k:=6) dQ rfl dc rfl rfl rfl (zab qx rfl dc rfl (show _=1 from rfl) (zat (k:=6) dQ rfl dc rfl rfl rfl (zbt h fun c0 h=>zaR rfl (dE (r:=x1.At+x1.Width) (ai _ c0)) (ef (k:=4) (l':=[zI (x1.At+x1.Width)]) jJ rfl rfl rfl rfl rfl (fun _ _=>rfl) rfl (bG (ca (ca (lH (f,x1.At+x1.Width,p) (fun q e2=>by have C:=lK t e2;subst C;subst z;exact h) (cj 6))))))))))))))) (fun h=>zyR 1 rfl (zaR rfl zbe (zyR 3 rfl (zyN (zyB rfl h (fun h=>bV (zab zd6 rfl dc rfl (show _=0 from rfl) (zat (k:=6) dQ rfl dc rfl rfl rfl (zab qx rfl dc rfl (show _=1 from rfl) (zat (k:=6) dQ rfl dc rfl rfl rfl (zbt h fun a1 h=>zaR rfl (dE (r:=x1.At+x1.Width) (ai _ a1)) (ef (k:=4) (l':=[zI (x1.At+x1.Width)]) jJ rfl rfl rfl rfl rfl (fun _ _=>rfl) rfl (bG (ca (ca (lH (f,x1.At+x1.Width,p) (fun q e2=>by have C:=lK t e2;subst C;subst z;exact h) (cj 6)))))))))))) (fun h=>zyG (ef (k:=5) (l':=[.bool false]) jX rfl rfl rfl rfl rfl (fun _ _=>rfl) rfl (zyH (zyR 1 rfl (zaR rfl zbe (zyR 1 rfl (zyS (s:=17) rfl h (fun h=>zyR 3 rfl (zyN (gM rfl (zaL (zaL (zbt h fun a0 h=>zbl h fun r6 a9 h=>zdb 9 [(0,21,zP _g),(1,22,zP _g),(2,23,.pointer (some ⟨_g,3,none⟩)),(3,24,.map (some (bm _d))),(4,25,.string B),(5,26,zI f),(6,27,zI l),(7,28,.string (cL B f l)),(8,29,.string r6)] mixed kr kr dc (by rfl) kr kr (zae (fun D n d c u i=>zat (k:=0) oJ rfl dc (zbA (by rfl) rfl) rfl rfl (zaT 0 u i)) (zae (fun D n d c u i=>za8 rfl dc (bC 0 u d) (zaT 1 u i)) (zae (fun D n d c u i=>zab rb rfl dc (bC 1 u d) (show _=3 from rfl) (zaT 2 u i)) (zae (fun D n d c u i=>zd3 (i:=0) y rfl ra rfl dc (bC 2 u d) rfl (zaT 3 u i)) (zae (fun D n d c u i=>zat (k:=1) eb rfl dc (zbA (by rfl) rfl) rfl rfl (zaT 4 u i)) (zae (fun D n d c u i=>zat (k:=3) dQ rfl dc (zbA (by rfl) rfl) rfl rfl (zaT 5 u i)) (zae (fun D n d c u i=>zat (k:=4) dQ rfl dc (zbA (by rfl) rfl) rfl rfl (zaT 6 u i)) (zae (fun D n d c u i=>ia rfl dc (bC 4 u d) (evO.some (bC 5 u d)) (evO.some (bC 6 u d)) (ka (i:=f) (j:=l) al (.inr rfl) (.inr rfl) a0) (zaT 7 u i)) (zae (fun D n d c u i=>zaI (v:=.string r6) (vs:=[.string (cL B f l)]) rfl dc rfl (da (bC 7 u d) eJ) rfl rf (ry a9) (zaT 8 u i)) ce))))))))) (qZ (k:=4) (ek:=(fun n:ae=>af n)) (ev':=(fun n:Bool=>ay n)) (kk:=r6) (z0:=false) (mC al) eQ kr rfl dc rfl rfl y rfl (zyN (zyB rfl h (fun h=>zyG (zat (k:=4) dQ rfl dc rfl rfl rfl (ef (k:=2) (l':=[zI l]) jJ rfl rfl rfl rfl rfl (fun _ _=>rfl) rfl (zyN (zaz (bP (cD (cD (my (l,f,l) (show _∧_ from ⟨rfl,h⟩) (cj 6)))))))))) (fun h=>bA (ct (zyG (ef (k:=2) (l':=[zI 0]) jJ rfl rfl rfl rfl rfl (fun _ _=>rfl) rfl (zyN (zaz (cD (cD (my (0,f,l) (show _∧_ from ⟨rfl,h⟩) (cj 6))))))))))))))))))) (fun h=>zyR 1 rfl (zaR rfl zbe (zyR 1 rfl (zyN (zyB rfl h (fun h=>?_) (fun h=>?_)))))))))))))))))))))
    ·exact zaL (zaL (zbt h fun aw h=>zbl h fun r7 a8 h=>zdb 9 [(0,21,zP _g),(1,22,zP _g),(2,23,.pointer (some ⟨_g,3,none⟩)),(3,24,.map (some (bm _d))),(4,25,.string B),(5,26,zI f),(6,27,zI l),(7,28,.string (cL B f l)),(8,29,.string r7)] mixed kr kr dc (by rfl) kr kr (zae (fun D n d c u i=>zat (k:=0) oJ rfl dc (zbA (by rfl) rfl) rfl rfl (zaT 0 u i)) (zae (fun D n d c u i=>za8 rfl dc (bC 0 u d) (zaT 1 u i)) (zae (fun D n d c u i=>zab rb rfl dc (bC 1 u d) (show _=3 from rfl) (zaT 2 u i)) (zae (fun D n d c u i=>zd3 (i:=0) y rfl ra rfl dc (bC 2 u d) rfl (zaT 3 u i)) (zae (fun D n d c u i=>zat (k:=1) eb rfl dc (zbA (by rfl) rfl) rfl rfl (zaT 4 u i)) (zae (fun D n d c u i=>zat (k:=3) dQ rfl dc (zbA (by rfl) rfl) rfl rfl (zaT 5 u i)) (zae (fun D n d c u i=>zat (k:=4) dQ rfl dc (zbA (by rfl) rfl) rfl rfl (zaT 6 u i)) (zae (fun D n d c u i=>ia rfl dc (bC 4 u d) (evO.some (bC 5 u d)) (evO.some (bC 6 u d)) (ka (i:=f) (j:=l) al (.inr rfl) (.inr rfl) aw) (zaT 7 u i)) (zae (fun D n d c u i=>zaI (v:=.string r7) (vs:=[.string (cL B f l)]) rfl dc rfl (da (bC 7 u d) eJ) rfl rf (ry a8) (zaT 8 u i)) ce))))))))) (qZ (k:=4) (ek:=(fun n:ae=>af n)) (ev':=(fun n:Bool=>ay n)) (kk:=r7) (z0:=false) (mC al) eQ kr rfl dc rfl rfl y rfl (zyN (zyB rfl h (fun h=>zyG (zat (k:=4) dQ rfl dc rfl rfl rfl (ef (k:=2) (l':=[zI l]) jJ rfl rfl rfl rfl rfl (fun _ _=>rfl) rfl (zyN (zaz (bP (cD (cD (my (l,f,l) (show _∧_ from ⟨rfl,h⟩) (cj 6)))))))))) (fun h=>bA (ct (zyG (ef (k:=2) (l':=[zI 0]) jJ rfl rfl rfl rfl rfl (fun _ _=>rfl) rfl (zyN (zaz (cD (cD (my (0,f,l) (show _∧_ from ⟨rfl,h⟩) (cj 6)))))))))))))))
    exact bA (ca (ca (lH (f,l,false) (fun q e2=>by have C:=lK t e2;subst C;subst z;exact h) (cj 6))))
   exact zyR 8 rfl (zyN (eh rfl (zyG (ef (k:=5) (l':=[.bool false]) jX rfl rfl rfl rfl rfl (fun _ _=>rfl) rfl (zyH (zyR 1 rfl (zaR rfl zbe (zyR 1 rfl (zyS (s:=17) rfl h (fun h=>zyR 3 rfl (zyN (gM rfl (zaL (zaL (zbt h fun ao h=>zbl h fun r8 a7 h=>zdb 9 [(0,21,zP _g),(1,22,zP _g),(2,23,.pointer (some ⟨_g,3,none⟩)),(3,24,.map (some (bm _d))),(4,25,.string B),(5,26,zI f),(6,27,zI l),(7,28,.string (cL B f l)),(8,29,.string r8)] mixed kr kr dc (by rfl) kr kr (zae (fun D n d c u i=>zat (k:=0) oJ rfl dc (zbA (by rfl) rfl) rfl rfl (zaT 0 u i)) (zae (fun D n d c u i=>za8 rfl dc (bC 0 u d) (zaT 1 u i)) (zae (fun D n d c u i=>zab rb rfl dc (bC 1 u d) (show _=3 from rfl) (zaT 2 u i)) (zae (fun D n d c u i=>zd3 (i:=0) y rfl ra rfl dc (bC 2 u d) rfl (zaT 3 u i)) (zae (fun D n d c u i=>zat (k:=1) eb rfl dc (zbA (by rfl) rfl) rfl rfl (zaT 4 u i)) (zae (fun D n d c u i=>zat (k:=3) dQ rfl dc (zbA (by rfl) rfl) rfl rfl (zaT 5 u i)) (zae (fun D n d c u i=>zat (k:=4) dQ rfl dc (zbA (by rfl) rfl) rfl rfl (zaT 6 u i)) (zae (fun D n d c u i=>ia rfl dc (bC 4 u d) (evO.some (bC 5 u d)) (evO.some (bC 6 u d)) (ka (i:=f) (j:=l) al (.inr rfl) (.inr rfl) ao) (zaT 7 u i)) (zae (fun D n d c u i=>zaI (v:=.string r8) (vs:=[.string (cL B f l)]) rfl dc rfl (da (bC 7 u d) eJ) rfl rf (ry a7) (zaT 8 u i)) ce))))))))) (qZ (k:=4) (ek:=(fun n:ae=>af n)) (ev':=(fun n:Bool=>ay n)) (kk:=r8) (z0:=false) (mC al) eQ kr rfl dc rfl rfl y rfl (zyN (zyB rfl h (fun h=>zyG (zat (k:=4) dQ rfl dc rfl rfl rfl (ef (k:=2) (l':=[zI l]) jJ rfl rfl rfl rfl rfl (fun _ _=>rfl) rfl (zyN (zaz (bP (cD (cD (my (l,f,l) (show _∧_ from ⟨rfl,h⟩) (cj 6)))))))))) (fun h=>bA (ct (zyG (ef (k:=2) (l':=[zI 0]) jJ rfl rfl rfl rfl rfl (fun _ _=>rfl) rfl (zyN (zaz (cD (cD (my (0,f,l) (show _∧_ from ⟨rfl,h⟩) (cj 6))))))))))))))))))) (fun h=>zyR 1 rfl (zaR rfl zbe (zyR 1 rfl (zyN (zyB rfl h (fun h=>zaL (zaL (zbt h fun Y h=>zbl h fun r9 V h=>zdb 9 [(0,21,zP _g),(1,22,zP _g),(2,23,.pointer (some ⟨_g,3,none⟩)),(3,24,.map (some (bm _d))),(4,25,.string B),(5,26,zI f),(6,27,zI l),(7,28,.string (cL B f l)),(8,29,.string r9)] mixed kr kr dc (by rfl) kr kr (zae (fun D n d c u i=>zat (k:=0) oJ rfl dc (zbA (by rfl) rfl) rfl rfl (zaT 0 u i)) (zae (fun D n d c u i=>za8 rfl dc (bC 0 u d) (zaT 1 u i)) (zae (fun D n d c u i=>zab rb rfl dc (bC 1 u d) (show _=3 from rfl) (zaT 2 u i)) (zae (fun D n d c u i=>zd3 (i:=0) y rfl ra rfl dc (bC 2 u d) rfl (zaT 3 u i)) (zae (fun D n d c u i=>zat (k:=1) eb rfl dc (zbA (by rfl) rfl) rfl rfl (zaT 4 u i)) (zae (fun D n d c u i=>zat (k:=3) dQ rfl dc (zbA (by rfl) rfl) rfl rfl (zaT 5 u i)) (zae (fun D n d c u i=>zat (k:=4) dQ rfl dc (zbA (by rfl) rfl) rfl rfl (zaT 6 u i)) (zae (fun D n d c u i=>ia rfl dc (bC 4 u d) (evO.some (bC 5 u d)) (evO.some (bC 6 u d)) (ka (i:=f) (j:=l) al (.inr rfl) (.inr rfl) Y) (zaT 7 u i)) (zae (fun D n d c u i=>zaI (v:=.string r9) (vs:=[.string (cL B f l)]) rfl dc rfl (da (bC 7 u d) eJ) rfl rf (ry V) (zaT 8 u i)) ce))))))))) (qZ (k:=4) (ek:=(fun n:ae=>af n)) (ev':=(fun n:Bool=>ay n)) (kk:=r9) (z0:=false) (mC al) eQ kr rfl dc rfl rfl y rfl (zyN (zyB rfl h (fun h=>zyG (zat (k:=4) dQ rfl dc rfl rfl rfl (ef (k:=2) (l':=[zI l]) jJ rfl rfl rfl rfl rfl (fun _ _=>rfl) rfl (zyN (zaz (bP (cD (cD (my (l,f,l) (show _∧_ from ⟨rfl,h⟩) (cj 6)))))))))) (fun h=>bA (ct (zyG (ef (k:=2) (l':=[zI 0]) jJ rfl rfl rfl rfl rfl (fun _ _=>rfl) rfl (zyN (zaz (cD (cD (my (0,f,l) (show _∧_ from ⟨rfl,h⟩) (cj 6)))))))))))))))) (fun h=>bA (ca (ca (lH (f,l,false) (fun q e2=>by have C:=lK t e2;subst C;subst z;exact h) (cj 6)))))))))))))))))))
  ·rintro H ⟨f,l,p⟩ E
   have h:T f l p=some r:=E [] (aE _).symm
   rw[a4] at h
   show TX _ _ _ _ _ _ _ [zhW ((([]:List Nat):List Nat).map fx),cy,cy,cy,cy,cy,cy,cells b8 [.string r1] 9,cells Q [zP _g] 29,cells P [.string B] 9,cells L [zI 0] 3,cells O [zI f] 3,cells N [zI l] 3,cells M [.bool p] 4,fx H]
   exact rU (k:=14) (j:=0) rfl rfl dc (ca (cH (L,H::([]:List Nat)) h rfl (bE rfl) (cg [10,0] kr rfl)))
  rintro H c pre x1 post g di hX
  obtain⟨rfl,h⟩:=(show _∧_ from hX)
  obtain⟨x2,S,a5⟩:=g
  rw[a3] at h
  show TC _ _ _ _ _ _ _ _ _ [zhW ((([]:List Nat):List Nat).map fx),cy,cy,cy,cy,cy,cy,cells b8 [.string r1] 9,cells Q [zP _g] 29,cells P [.string B] 9,cells L [zI x2] 3,cells O [zI S] 3,cells N [zI a5] 3,cells M [.bool false] 4,fx H]
  refine zU (k:=14) (j:=0) rfl rfl dc (zaz (cD (bP ?_)))
  cases h
  exact lj (rs:=[.cell 4 3]) (H::([]:List Nat)) () (.inl rfl) (lg (k:=0) rfl) results86 (.cons (.cell dQ (k:=10) rfl rfl) .nil) rfl ah
 rintro⟨b1,ds1⟩ h
 rw[ch] at h
 refine zyG (ef (k:=0) (l':=[zI 0]) jJ rfl rfl rfl rfl rfl (fun _ _=>rfl) rfl (zyN (zaz ?_)))
 cases h
 exact lj (rs:=[.cell 4 3]) ds1 () (.inl rfl) (lg (k:=1) rfl) results86 (.cons (.cell dQ (k:=0) rfl rfl) .nil) rfl ah
def yT (a:ae):Option (List cT) := aT (uG a) fun (r1:ae)=>aT (Bb r1) fun (r2:(List cT))=>some r2
theorem Sd {a:ae} {r:(List cT)} (h:yT a=some r):Fn prog 88 [.string a] [] (fun v0:Value=>v0) (fun v0=>[pc v0 r]):=by
 unfold yT at h
 refine _root_.Go.Proofs.YtifpjbgnikjglaaGreatDoor.Fn.intro func88 rfl ntmps88 (by simp) (fun w0 K=>zyG (zyR 1 rfl (zyH (zyR 1 rfl (zbl h fun r1 c h=>zbJ (vs:=[.string a]) rfl dc rfl rfl rfl xB (yB c) ah (fun b1=>zbl h fun r2 b h=>zbJ (vs:=[.func (.func 154) #[] #[zP b1]]) rfl dc rfl rfl rfl Oe (R9 (_l:=b1) b) (cj 1) (fun v1=>zyR 1 rfl (zyN (zaz ?_)))))))))
 cases h
 exact eB (rs:=[.tmp 2]) v1 (.inl rfl) results88 (.cons (.tmp rfl) .nil) rfl (cg [2] kr rfl)
def zcR (o1:cw) (i:List cT) (n:Int→Nat→(List ae)→Option (Int×(List ae))) (m:Int→ae→Nat→(List ae)→Int→Option (Int×(List ae))) (c:Int) (a:ae) (f:Nat) (b:List ae) (e:Int):Option (Int×(List ae)) := aM (decide ((e:Int)<((dM i 0 (min (i.length:Int) 8)).length:Int))) (cn (fun (l:Int→ae→Nat→(List ae)→Option (Int×(List ae)))=>aT (zcx (dM i 0 (min (i.length:Int) 8)) e) fun (q1:cT)=>aM (q1.Broken) (n c f b) (aU (fl q1.Rune) <|aU (a.size+(ac (cr q1.Rune)).size≤9223372036854775807) <|aM ((zbO (a++(ac (cr q1.Rune))) o1.place).isSome) (aU (cp (e+1)) <|l (e+1) (a++(ac (cr q1.Rune))) 1 ([a++(ac (cr q1.Rune))]:List ae)) (aM ((zbO (a++(ac (cr q1.Rune))) o1.fors).isSome) (aU (cp (e+1)) <|aT ((zbO (a++(ac (cr q1.Rune))) o1.fors)) fun (j:List ae)=>l (e+1) (a++(ac (cr q1.Rune))) 2 j) (l c (a++(ac (cr q1.Rune))) f b)))) (fun (h:Int) (g:ae) (k:Nat) (d:List ae)=>aU (cp (e+1)) <|m h g k d (e+1))) (n c f b)
def zcu (d:(List ae)→Option (Int×(List ae))) (r1:ae) (c:(List ae)→Nat→Option (Int×(List ae))) (a:List ae) (b:Nat):Option (Int×(List ae)) := aM (decide (b<(eA r1.data.toList).length)) (aT ((eA r1.data.toList)[b]?) fun (p1:Pc)=>aU (a.length+1≤2147483648) <|c (a++[ac (p1.r:Int)]) (b+1)) (d a)
def yU (o1:cw) (d:List cT):Option (Int×(List ae)) := cn (fun (g:Int→Nat→(List ae)→Option (Int×(List ae)))=>aU (0≤(0:Int)∧(0:Int)≤(min (d.length:Int) 8)∧(min (d.length:Int) 8:Int)≤(d.length:Int)) <|zaC (fun _ _ _ _ _=>none) (zcR o1 d g) zbC 0 (⟨#[]⟩:ae) 0 ([]:List ae) 0) (fun (c:Int) (e:Nat) (b:List ae)=>aM (decide ((0:Int)<c)) (some (c,b)) (cn (fun (f:(List ae)→Option (Int×(List ae)))=>aU (e=0) <|aT (zcx d 0) fun (q2:cT)=>aU (fl q2.Rune) <|aT (yE (cr q2.Rune)) fun (r1:ae)=>zaC (fun _ _=>none) (zcu f r1) zbC ([]:List ae) 0) (fun (a:List ae)=>some (1,a))))
theorem Se {_g:Nat} {o1:cw} {_f _a _c _d _h:Hd} {u x:Value} {O:List cT} {t:Nat} {B:List cT} (l:Vw u O 4 t x B) {r:(Int×(List ae))} (h:yU o1 B=some r):xM prog 90 [zP _g,x] [cells _g [_f.v,.map (some (bm _a)),.map (some (bm _c)),.map (some (bm _d)),_h.v] 72,bD _f.v o1.units,cG (fun n:ae=>af n) (fun n:Int=>aC .i64 n) (bm _a) o1.place,dU (bm _c) o1.fors,cG (fun n:ae=>af n) (fun n:Bool=>ay n) (bm _d) o1.skips,bD _h.v o1.lines,iX ot 4 u t O] (fun v0:Hd=>.tuple #[zI r.1,v0.v]) (fun v0=>[lV gN 1 v0 r.2]):=by
 unfold yU at h
 refine xM.intro func90 rfl ntmps90 (by simp) (fun w0 K d=>?_)
 obtain⟨Lf,c0,d⟩:=d.fors (i:=3) rfl
 replace d:Rd _ _ [cells _g [_f.v,.map (some (bm _a)),.map (some (bm _c)),.map (some (bm _d)),_h.v] 72,bD _f.v o1.units,cG (fun n:ae=>af n) (fun n:Int=>aC .i64 n) (bm _a) o1.place,dU (bm _c) o1.fors,cG (fun n:ae=>af n) (fun n:Bool=>ay n) (bm _d) o1.skips,bD _h.v o1.lines,iX ot 4 u t O,pt (bm _c) Lf,o6 Lf]:=d
 refine zbp h fun j1 bh h=>zaM (β:=Int×Nat×(List ae)×Hd) 3 rfl (fun b=>j1 b.1 b.2.1 b.2.2.1=some r∧nM b.2.1 b.2.2.2 b.2.2.1 Lf) (fun b=>[]) (fun b=>[(1,x),(6,zI b.1),(8,b.2.2.2.v)]) (fun b=>[oO b.2.1 b.2.2.2 b.2.2.1,zug w0 K]) (fun cut=>?_) ?_
 ·refine zyG (zyR 2 rfl (zyH (zyR 2 rfl (zyH (zyR 1 rfl (vh (enc:=gN) (e:=9) (size:=1) (pX (k:=1) rfl (Pb 9) (zyN (cut (zyG (zyR 2 rfl (zbV l rfl dc rfl cI (zT rfl dc rfl rfl (zbt h fun b8 h=>?_))))))))))))))
  obtain⟨v1,J,a4⟩:=om (lo:=none) (hi:=some (zI (min (B.length:Int) 8))) l cI kC (.inl ⟨rfl,rfl⟩) (.inr rfl) b8
  refine ia rfl dc rfl rfl rfl a4 (zbV J rfl dc rfl cI (zyR 1 rfl (zyN (zau (eO (β:=Nat×Int×ae×Nat×(List ae)×Int×Hd) (fun b=>zaC (fun _ _ _ _ _=>none) (zcR o1 B j1) b.1 b.2.1 b.2.2.1 b.2.2.2.1 b.2.2.2.2.1 b.2.2.2.2.2.1=some r∧nM b.2.2.2.1 b.2.2.2.2.2.2 b.2.2.2.2.1 Lf) (fun b=>[]) (fun b=>[(0,zP _g),(1,x),(6,zI b.2.1),(7,.string b.2.2.1),(8,b.2.2.2.2.2.2.v),(21,v1),(22,zI ((dM B 0 (min (B.length:Int) 8)).length:Int)),(23,zI b.2.2.2.2.2.1)]) (fun b=>[oO b.2.2.2.1 b.2.2.2.2.2.2 b.2.2.2.2.1,zug w0 K]) (fun b=>b.1) (zbC,0,(⟨#[]⟩:ae),0,([]:List ae),0,eu) ⟨h,nM.nil⟩ rfl (bE rfl) (cg [1,0] kr rfl) ?_)))))
  rintro⟨n1,g,a,D,c,C,L⟩ ⟨h,I⟩
  cases n1 with
  |zero=>exact eG h
  |succ n1=>
   obtain⟨c4,G⟩:∃ag,ag=zaC (fun _ _ _ _ _=>none) (zcR o1 B j1) n1:=⟨_,rfl⟩
   have h:zcR o1 B j1 c4 g a D c C=some r:=by rw[G];exact h
   unfold zcR at h
   refine zyG (zaR rfl zbi (zyN (zaL (zyB rfl h (fun h=>?_) (fun h=>?_)))))
   ·refine bA (ct (zbp h fun j2 bb h=>zaM (β:=Int×ae×Nat×(List ae)×Hd) 0 rfl (fun b=>j2 b.1 b.2.1 b.2.2.1 b.2.2.2.1=some r∧nM b.2.2.1 b.2.2.2.2 b.2.2.2.1 Lf) (fun b=>[]) (fun b=>[(0,zP _g),(1,x),(6,zI b.1),(7,.string b.2.1),(8,b.2.2.2.2.v),(21,v1),(22,zI ((dM B 0 (min (B.length:Int) 8)).length:Int)),(23,zI C)]) (fun b=>[oO b.2.2.1 b.2.2.2.2 b.2.2.2.1,zug w0 K]) (fun cut=>cut (zau (zyG (zyR 1 rfl (zbl h fun q1 U h=>fm J U cI kC rfl dc rfl rfl rfl (pq (m:=t+(0:Int).toNat+(C:Int).toNat) (j:=0) (i:=6) (q:=q1) (cs:=[zI q1.At,zI q1.Width,.int .i32 q1.Rune,.bool q1.Broken]) d rfl (by omega) lB rfl dc rfl (bX J U) rfl rfl rfl (zbk zjz rfl dc (fun b1=>zyR 1 rfl (eK (k:=2) (vs:=[zI q1.At,zI q1.Width,.int .i32 q1.Rune,.bool q1.Broken]) (l':=[zI q1.At,zI q1.Width,.int .i32 q1.Rune,.bool q1.Broken]) kC rfl rfl rfl rfl rfl (show _≤_ by simp) rfl rfl (zyN (zaL (zyG (zab Ah rfl dc rfl (show _=3 from rfl) (zat (k:=2) lW rfl dc rfl rfl rfl (zyN (zyB rfl h (fun h=>dF (bU (zF dc (bU (bU (dG (mD (g,D,c,L) ⟨h,I⟩ 2))))))) (fun h=>bA (ct (zyG (zyR 1 rfl (zab pZ rfl dc rfl (show _=2 from rfl) (zat (k:=2) eP rfl dc rfl rfl rfl (zbt h fun W h=>zaI (v:=.int .i32 (cr q1.Rune)) (vs:=[.int .i32 q1.Rune]) rfl dc rfl rfl rfl Av (mw fun w=>xK q1.Rune w W.1 W.2) (zdi rfl dc rfl (lJ aZ al) (zbt h fun b7 h=>zaR rfl (lx b7) (zyR 1 rfl (zyH (zyR 1 rfl (za8 rfl dc rfl (zab zn5 rfl dc rfl (show _=1 from rfl) (zd3 (i:=0) d rfl vD rfl dc rfl rfl (zyR 1 rfl (zZ (k:=2) (ek:=(fun n:ae=>af n)) (ev':=(fun n:Int=>aC .i64 n)) (kk:=a++(ac (cr q1.Rune))) (z0:=0) (mC al) nD kr rfl dc rfl rfl d rfl (zyR 1 rfl (eT rfl dc rfl rfl (eT rfl dc rfl rfl (zyR 2 rfl (zyH (zyR 1 rfl (zyN (zyB rfl h (fun h=>bV (zyR 1 rfl (zbt h fun b6 h=>zaR rfl (dE (r:=C+1) (ai _ b6)) (zyR 1 rfl (fE (cs:=[.string (a++(ac (cr q1.Rune)))]) (te:=9) (ps:=[(0,.tmp 48)]) rfl dc rfl (fun _=>by kernel_rfl) (fun b2=>zyR 2 rfl (mA ([a++(ac (cr q1.Rune))]:List ae) (k:=3) rfl gj rfl (show 1≤maxLen by decide) (pX (k:=3) rfl (Db (hd:=(⟨some ⟨b2,0,none⟩,1,1⟩:Hd))) (bG (ca (cH (C+1,a++(ac (cr q1.Rune)),1,([a++(ac (cr q1.Rune))]:List ae),(⟨some ⟨b2,0,none⟩,1,1⟩:Hd)) ⟨h,nM.own⟩ rfl (bE rfl) (cg [3,1] kr rfl)))))))))))) (fun h=>zyG (zyR 1 rfl (za8 rfl dc rfl (zab Cy rfl dc rfl (show _=2 from rfl) (zd3 (i:=0) d rfl vC rfl dc rfl rfl (zyR 1 rfl (Pe (i:=7) (kk:=(a++(ac (cr q1.Rune)))) c0 al underlying37 kr rfl dc rfl rfl d rfl (fun ao a2=>zyR 1 rfl (eT rfl dc rfl rfl (eT rfl dc rfl rfl (zyR 2 rfl (zyH (zyR 1 rfl (zyN (zyB rfl h (fun h=>bV (zyR 1 rfl (zbt h fun b5 h=>zaR rfl (dE (r:=C+1) (ai _ b5)) (zyR 3 rfl (zbl h fun H a7 h=>Gi (pX (k:=3) rfl (HS (hd:=ao) (xs:=H)) (bG (ca (cH (C+1,a++(ac (cr q1.Rune)),2,H,ao) ⟨h,(nM.map (a2 H a7))⟩ rfl (bE rfl) (cg [3,1] kr rfl)))))))))) (fun h=>bA (ca (mD (g,a++(ac (cr q1.Rune)),D,c,L) ⟨h,I⟩ 2))))))))))))))))))))))))))))))))))))))))))))))))))))))))))) ?_))
    rintro⟨N,M,a1,z,cc⟩ ⟨h,a3⟩
    rw[bb] at h
    refine bV (zbt h fun b0 h=>zaR rfl (dE (r:=C+1) (ai _ b0)) (zyR 1 rfl (bG ?_)))
    subst G
    exact aD (n1,N,M,a1,z,C+1,cc) ⟨h,a3⟩ 2
   exact dF (bU (bU (dG (mD (g,D,c,L) ⟨h,I⟩ 2))))
 rintro⟨c2,c5,P,ch⟩ ⟨h,S⟩
 rw[bh] at h
 refine zaL (zyG (zyR 1 rfl (zaR rfl zdV (zyN (zyB rfl h (fun h=>?_) (fun h=>?_))))))
 ·refine zyG (zyR 4 rfl (zyN (zaz (bP ?_))))
  cases h
  exact HQ (rs:=[.tmp 4,.tmp 5]) ch d (.inl rfl) results90 (.cons (.tmp rfl) (.cons (.tmp rfl) .nil)) rfl (cg [1,0] kr rfl) (HT S (i:=8) rfl)
 refine bA (ct (zbp h fun j3 a9 h=>zaM (β:=(List ae)×Hd) 0 rfl (fun b=>j3 b.1=some r) (fun b=>[]) (fun b=>[(8,b.2.v)]) (fun b=>[bD b.2.v b.1,zug w0 K]) (fun cut=>?_) ?_))
 ·refine cut (zaL (zbt h fun bs h=>?_))
  have a8:=h
  obtain⟨rfl,rfl⟩:=S.1 bs
  have h:=a8
  refine bV (zyR 1 rfl (zbl h fun q2 T h=>fm l T cI kC rfl dc rfl rfl rfl (zab pZ rfl dc rfl (show _=(t+(0:Int).toNat)*4+2 from rfl) (jr (n:=t+(0:Int).toNat) (j:=2) (i:=6) (q:=q2) d rfl (by omega) eP rfl dc rfl (bX l T) rfl rfl (zbt h fun V h=>zaI (v:=.int .i32 (cr q2.Rune)) (vs:=[.int .i32 q2.Rune]) rfl dc rfl rfl rfl Av (mw fun w=>xK q2.Rune w V.1 V.2) (zbl h fun r1 a6 h=>zaI (v:=.string r1) (vs:=[.int .i32 (cr q2.Rune)]) rfl dc rfl rfl rfl G8 (IH a6) (tu al rfl dc rfl (fun b3=>zyN (zau (mU (enc:=gN) (e:=9) (size:=1) (eO (β:=Nat×(List ae)×Nat×Hd) (fun b=>zaC (fun _ _=>none) (zcu j3 r1) b.1 b.2.1 b.2.2.1=some r) (fun b=>[]) (fun b=>[(8,b.2.2.2.v),(74,zP b3)]) (fun b=>[bD b.2.2.2.v b.2.1,obj b3 (.stringIter r1 (lO r1 b.2.2.1)),zug w0 K]) (fun b=>b.1) (zbC,([]:List ae),0,eu) (by exact h) rfl (bE rfl) (cg [3,2,1] kr rfl) ?_)))))))))))
  rintro⟨n2,f,Q,a0⟩ h
  cases n2 with
  |zero=>exact eG h
  |succ n2=>
   obtain⟨c3,F⟩:∃ag,ag=zaC (fun _ _=>none) (zcu j3 r1) n2:=⟨_,rfl⟩
   have h:zcu j3 r1 c3 f Q=some r:=by rw[F];exact h
   unfold zcu at h
   refine zyG (qW (b:=decide (Q<(eA r1.data.toList).length)) (fun E=>?_) (fun E=>?_))
   ·have h:=nG E h
    refine zbl h fun p1 a5 h=>tv (k:=1) (m:=Q) (p:=p1) rfl dc rfl rfl a5 (eT rfl dc rfl rfl (zyN (zaL (gM rfl (bA (ct (zau (zyG (eT rfl dc rfl rfl (zyR 1 rfl (bG (ct (bV (zyR 2 rfl (zdi rfl dc rfl (lJ aZ al) (fE (cs:=[.string (ac (p1.r:Int))]) (te:=9) (ps:=[(0,.tmp 80)]) rfl dc rfl (fun _=>by kernel_rfl) (fun b4=>zbt h fun bk h=>iC (k:=0) (k2:=3) (ys:=[ac (p1.r:Int)]) aG oq gj oG rfl dc rfl rfl rfl rfl rfl rfl bk (fun v2=>iq (k:=0) rfl (fun aw b9=>?_)))))))))))))))))))
    subst b9
    refine zyR 1 rfl (bG (ca ?_))
    subst F
    exact aD (n2,f++[ac (p1.r:Int)],Q+1,aw) h 3
   have h:=nH E h
   exact tw (k:=1) (m:=Q) rfl dc rfl rfl (iG (of_decide_eq_false E)) (eT rfl dc rfl rfl (zyN (zaL (eh rfl (dF (bU (bU (dG (cH (f,a0) h rfl (bE rfl) (cg [0,2] kr rfl))))))))))
 rintro⟨y,Y⟩ h
 rw[a9] at h
 refine zyG (zyR 3 rfl (zyN (zaz ?_)))
 cases h
 exact HQ (rs:=[.tmp 4,.tmp 5]) Y d (.inl rfl) results90 (.cons (.tmp rfl) (.cons (.tmp rfl) .nil)) rfl (cg [1,0] kr rfl) (Pd (e:=9) (hd:=Y) (xs:=y))
def uL (e1:dq) (c0:Bool) (c1:List dq):Option (Bool×(List dq)) := cn (fun (a:(List dq)→Option (Bool×(List dq)))=>aM (c0) (aM (decide ((0:Int)<(c1.length:Int))) (aU (c1.length+1≤2147483648) <|a (c1++[(⟨1,0,ad,ad,0⟩:dq)])) (a c1)) (a c1)) (fun (b:List dq)=>aU (b.length+1≤2147483648) <|some (false,b++[e1]))
theorem Em {e1:dq} {_o:Nat} {c0:Bool} {_q:Nat} {c1:List dq} {_p:Hd} {r:(Bool×(List dq))} (h:uL e1 c0 c1=some r):Fn prog 87 [.agg (iD e1).toArray,zP _o,zP _q] [cells _o [.bool c0] 4,cells _q [_p.v] 87,kE _p.v c1] (fun v0:Hd=>.tuple #[]) (fun v0=>[cells _o [.bool r.1] 4,cells _q [v0.v] 87,kE v0.v r.2]):=by
 unfold uL at h
 refine _root_.Go.Proofs.YtifpjbgnikjglaaGreatDoor.Fn.intro func87 rfl ntmps87 (by simp) (fun w0 K=>zbp h fun l d h=>zaM (β:=(List dq)×Hd×Nat) 1 rfl (fun b=>l b.1=some r) (fun b=>[]) (fun b=>[(1,zP _o),(2,zP _q),(3,zP b.2.2)]) (fun b=>[cells _q [b.2.1.v] 87,kE b.2.1.v b.1,cells _o [.bool c0] 4,cells b.2.2 (iD e1) 91]) (fun cut=>?_) ?_)
 ·refine zyG (zeV rfl dc rfl (fun j=>zyN (cut (zyG (zat (k:=0) lW rfl dc rfl rfl rfl (zyR 1 rfl (zyS (s:=5) rfl h (fun h=>?_) (fun h=>?_))))))))
  ·refine zat (k:=1) vE rfl dc rfl rfl rfl (gK (k:=2) rfl dc rfl rfl bS (zaR rfl zdV (zyR 1 rfl (zyN (zyB rfl h (fun h=>?_) (fun h=>?_))))))
   ·refine bV (zat (k:=1) vE rfl dc rfl rfl rfl (zbb (v:=.agg #[zI 1,zI 0,.string ad,.string ad,zI 0]) (ps:=[(0,.const (zI 1))]) rfl dc rfl (fun _=>by kernel_rfl) (fE (cs:=[zI 1,zI 0,.string ad,.string ad,zI 0]) (te:=91) (ps:=[(0,.tmp 11)]) rfl dc rfl (fun _=>by kernel_rfl) (fun t=>zbt h fun f h=>iC (k:=2) (k2:=4) (ys:=[(⟨1,0,ad,ad,0⟩:dq)]) bS GH rh Hr rfl dc rfl rfl rfl rfl rfl rfl f (fun v1=>iq (k:=2) rfl (fun c i=>?_))))))
    subst i
    exact ef (k:=1) (l':=[c.v]) GG rfl rfl rfl rfl rfl (fun _ _=>rfl) rfl (bG (cH (c1++[(⟨1,0,ad,ad,0⟩:dq)],c,j) h rfl (bE rfl) (cg [1,2,0,3] kr rfl)))
   exact bA (cH (c1,_p,j) h rfl (bE rfl) (cg [1,2,0,3] kr rfl))
  exact zyR 4 rfl (zyN (eh rfl (bA (cH (c1,_p,j) h rfl (bE rfl) (cg [1,2,0,3] kr rfl)))))
 rintro⟨p,m,b1⟩ h
 rw[d] at h
 refine zyG (ef (k:=2) (l':=[.bool false]) jX rfl rfl rfl rfl rfl (fun _ _=>rfl) rfl (zyN (bV (zat (k:=0) vE rfl dc rfl rfl rfl (zbT (k:=3) (cs:=(iD e1)) o7 rfl dc rfl rfl rfl rfl (fE (cs:=(iD e1)) (te:=91) (ps:=[(0,.tmp 15)]) rfl dc rfl (fun _=>by kernel_rfl) (fun q=>zbt h fun e h=>iC (k:=1) (k2:=4) (ys:=[e1]) bS GH rh Hr rfl dc rfl rfl rfl rfl rfl rfl e (fun n=>iq (k:=1) rfl (fun a g=>?_)))))))))
 subst g
 refine ef (k:=0) (l':=[a.v]) GG rfl rfl rfl rfl rfl (fun _ _=>rfl) rfl (bG ?_)
 cases h
 exact eB (rs:=[]) a (.inr rfl) results87 .nil rfl (cg [2,0,1] kr rfl)
def zb7 (f:List cT) (e:(Int×(List ae))) (h:Int→Option (List dq)) (d:Int→Int→Option (List dq)) (a:Int) (c:Int):Option (List dq) := aM (decide ((c:Int)<((dM f 0 e.1).length:Int))) (cn (fun (g:Int→Option (List dq))=>aT (zcx (dM f 0 e.1) c) fun (q2:cT)=>aU (fl q2.Rune) <|aM (great q2.Rune) (g 1) (g a)) (fun (b:Int)=>aU (cp (c+1)) <|d b (c+1))) (h a)
def zcm (c:List cT) (f:Int→ae→Option (List dq)) (d:Int→ae→Option (List dq)) (b:Int) (a:ae):Option (List dq) := aM (decide ((b:Int)<(c.length:Int))) (aT (zcx c b) fun (h:cT)=>aT (uK h) fun (g:Bool)=>aM (g) (aT (zcx c b) fun (e:cT)=>aU (a.size+(ac e.Rune).size≤9223372036854775807) <|aU (cp (b+1)) <|d (b+1) (a++(ac e.Rune))) (f b a)) (f b a)
def zb6 (o1:cw) (g:(Int×(List ae))) (b:Int) (i:(List dq)→Bool→Option (List dq)) (e:(List dq)→Bool→Int→Option (List dq)) (c:List dq) (a:Bool) (d:Int):Option (List dq) := aM (decide ((d:Int)<(g.2.length:Int))) (aT (zcx g.2 d) fun (h:ae)=>aT (uL (⟨3,((zbO h o1.place).getD 0),ad,ad,b⟩:dq) a c) fun (f:(Bool×(List dq)))=>aU (cp (d+1)) <|e f.2 f.1 (d+1)) (i c a)
def zcl (d:List cT) (e:Int→Option (List dq)) (c:Int→Option (List dq)) (a:Int):Option (List dq) := aM (decide ((a:Int)<(d.length:Int))) (aT (zcx d a) fun (b:cT)=>aU (fl b.Rune) <|aM (((fq b.Broken b.Rune):Int)==3) (aU (cp (a+1)) <|c (a+1)) (e a)) (e a)
def zck (c:ae→Option (List dq)) (b:ae→Option (List dq)) (a:ae):Option (List dq) := aM (decide ((0:Int)<(a.size:Int))) (aT (jz a 0) fun (c1:Int)=>aM ((c1:Int)==48) (aU (0≤(1:Int)∧(1:Int)≤(a.size:Int)∧((a.size:Int):Int)≤(a.size:Int)) <|b (cL a 1 (a.size:Int))) (c a)) (c a)
def zcn (o1:cw) (E:(List dq)→Option (List dq)) (r1:ae) (r2:Int) (r:(List dq)→Bool→(List cT)→Option (List dq)) (b:List dq) (a:Bool) (d:List cT):Option (List dq) := aM (decide ((0:Int)<(d.length:Int))) (cn (fun (m:(List dq)→Bool→Int→Option (List dq))=>aT (zcx d 0) fun (q1:cT)=>aU (fl q1.Rune) <|aM (((fq q1.Broken q1.Rune):Int)==1) (aT (yU o1 d) fun (k:(Int×(List ae)))=>cn (fun (D:Int→Option (List dq))=>aU (0≤(0:Int)∧(0:Int)≤k.1∧(k.1:Int)≤(d.length:Int)) <|zaC (fun _ _=>none) (zb7 d k D) zbC 0 0) (fun (j:Int)=>cn (fun (C:Int→ae→Option (List dq))=>zaC (fun _ _=>none) (zcm d C) zbC k.1 (⟨#[]⟩:ae)) (fun (x:Int) (i:ae)=>cn (fun (B:(List dq)→Bool→Option (List dq))=>zaC (fun _ _ _=>none) (zb6 o1 k j B) zbC b a 0) (fun (c:List dq) (g:Bool)=>aU (cp ((c.length:Int)-1)) <|aT (zcx c ((c.length:Int)-1)) fun (n:dq)=>m (c.set ((c.length:Int)-1:Int).toNat (⟨n.sort,n.place,n.digits,i,n.great⟩:dq)) g x)))) (aM (((fq q1.Broken q1.Rune):Int)==3) (cn (fun (z:Int→Option (List dq))=>zaC (fun _=>none) (zcl d z) zbC 1) (fun (e:Int)=>cn (fun (y:ae→Option (List dq))=>aU (cp (q1.At+e)) <|aU (0≤(q1.At:Int)∧(q1.At:Int)≤(q1.At+e)∧(q1.At+e:Int)≤((cL r1 r2 (r1.size:Int)).size:Int)) <|zaC (fun _=>none) (zck y) zbC (cL (cL r1 r2 (r1.size:Int)) q1.At (q1.At+e))) (fun (f:ae)=>aT (uL (⟨2,0,f,ad,0⟩:dq) a b) fun (u:(Bool×(List dq)))=>m u.2 u.1 e))) (cn (fun (q:Bool→Option (List dq))=>aM (((fq q1.Broken q1.Rune):Int)==5) (q (((fq q1.Broken q1.Rune):Int)==5)) (aM (((fq q1.Broken q1.Rune):Int)==4) (q (((fq q1.Broken q1.Rune):Int)==4)) (q (((fq q1.Broken q1.Rune):Int)==6)))) (fun (w:Bool)=>aM (w) (m b true 1) (aM (((fq q1.Broken q1.Rune):Int)==11) (aT (jz (cL r1 r2 (r1.size:Int)) q1.At) fun (v:Int)=>aU (cp v) <|aT (uL (⟨4,v,ad,ad,0⟩:dq) a b) fun (t:(Bool×(List dq)))=>m t.2 t.1 1) (m b a 1)))))) (fun (l:List dq) (h:Bool) (p:Int)=>aU (0≤(p:Int)∧(p:Int)≤(d.length:Int)∧((d.length:Int):Int)≤(d.length:Int)) <|r l h (dM d p (d.length:Int)))) (E b)
def uM (o1:cw) (t1:ae):Option (List dq) := cn (fun (b:(List dq)→Option (List dq))=>aT (wB t1) fun (r1:ae)=>aT (yS o1 r1) fun (r2:Int)=>aU (0≤(r2:Int)∧(r2:Int)≤(r1.size:Int)∧((r1.size:Int):Int)≤(r1.size:Int)) <|aT (yT (cL r1 r2 (r1.size:Int))) fun (r3:(List cT))=>zaC (fun _ _ _=>none) (zcn o1 b r1 r2) zbC ([]:List dq) false r3) (fun (a:List dq)=>some a)
theorem En {_g:Nat} {o1:cw} {_f _a _c _d _h:Hd} {t1:ae} {r:(List dq)} (h:uM o1 t1=some r):iu prog 43 [zP _g,.string t1] [cells _g [_f.v,.map (some (bm _a)),.map (some (bm _c)),.map (some (bm _d)),_h.v] 72,bD _f.v o1.units,cG (fun n:ae=>af n) (fun n:Int=>aC .i64 n) (bm _a) o1.place,dU (bm _c) o1.fors,cG (fun n:ae=>af n) (fun n:Bool=>ay n) (bm _d) o1.skips,bD _h.v o1.lines] [] (fun v0:Value=>v0) (fun v0=>[kE v0 r]):=by
 unfold uM at h
 refine iu.intro func43 rfl ntmps43 (by simp) (fun w0 K p=>zbp h fun j1 eM h=>zaM (β:=(List dq)×Nat×Hd) 6 rfl (fun b=>j1 b.1=some r) (fun b=>[]) (fun b=>[(6,zP b.2.1)]) (fun b=>[cells b.2.1 [b.2.2.v] 87,kE b.2.2.v b.1]) (fun cut=>?_) ?_)
 ·refine zyG (zyR 1 rfl (zyH (zyR 1 rfl (zbl h fun r1 em h=>zaI (v:=.string r1) (vs:=[.string t1]) rfl dc rfl rfl rfl Hc (I0 em) (zyR 1 rfl (zyH (zyR 3 rfl (zbl h fun r2 eg h=>kZ (v:=zI r2) (vs:=[zP _g,.string r1]) p rfl dc rfl rfl rfl NN (Sc (_g:=_g) (o1:=o1) (_f:=_f) (_a:=_a) (_c:=_c) (_d:=_d) (_h:=_h) eg) (.ro 0 rfl (.ro 1 rfl (.ro 2 rfl (.ro 3 rfl (.ro 4 rfl (.ro 5 rfl .nil)))))) (zbt h fun e7 h=>ia rfl dc rfl rfl rfl (ka (i:=r2) (j:=(r1.size:Int)) al (.inr rfl) (.inl ⟨rfl,rfl⟩) e7) (zyR 1 rfl (zyH (zbk MW rfl dc (fun g=>zyH (zbk zFC rfl dc (fun l=>ef (k:=1) (l':=[.bool false]) jX rfl rfl rfl rfl rfl (fun _ _=>rfl) rfl (zyH (ziy (x1:=[]) (x2:=[.tmp 7,.tmp 6]) rfl dc rfl rfl (zyR 1 rfl (zyN (cut (zyG (zyR 1 rfl (zbl h fun r3 ec h=>zbJ (vs:=[.string (cL r1 r2 (r1.size:Int))]) rfl dc rfl rfl rfl NO (Sd ec) ah (fun v1=>iq (k:=2) rfl (fun z e8=>?_)))))))))))))))))))))))))
  subst e8
  refine zyR 1 rfl (kj (k:=2) rfl (fun d4=>Pa (B:=iX ot 4 z.v 0 r3) (As:=[pc z.v r3]) (cg [2] kr rfl) (fun _ _ h=>oo Ax (aQ.1 h)) p (fun f4 f6 b7 p=>?_)))
  replace p:Rd _ _ [cells _g [_f.v,.map (some (bm _a)),.map (some (bm _c)),.map (some (bm _d)),_h.v] 72,bD _f.v o1.units,cG (fun n:ae=>af n) (fun n:Int=>aC .i64 n) (bm _a) o1.place,dU (bm _c) o1.fors,cG (fun n:ae=>af n) (fun n:Bool=>ay n) (bm _d) o1.skips,bD _h.v o1.lines,iX ot 4 z.v 0 r3]:=p
  refine zyN (zau (mU (enc:=qy) (e:=91) (size:=5) (eO (β:=Nat×(List dq)×Bool×(List cT)×Hd×Value×Nat) (fun b=>zaC (fun _ _ _=>none) (zcn o1 j1 r1 r2) b.1 b.2.1 b.2.2.1 b.2.2.2.1=some r∧Vw z.v r3 4 b.2.2.2.2.2.2 b.2.2.2.2.2.1 b.2.2.2.1) (fun b=>[]) (fun b=>[(0,zP _g),(5,.string (cL r1 r2 (r1.size:Int))),(6,zP g),(7,zP l),(8,.func (.func 87) #[] #[zP l,zP g]),(9,b.2.2.2.2.2.1)]) (fun b=>[cells g [b.2.2.2.2.1.v] 87,kE b.2.2.2.2.1.v b.2.1,cells l [.bool b.2.2.1] 4]) (fun b=>b.1) (zbC,([]:List dq),false,r3,eu,z.v,0) ⟨h,d4⟩ rfl (bE rfl) (cg [0,3,1] kr rfl) ?_)))
  rintro⟨n1,c,a,M,d,L,D⟩ ⟨h,u⟩
  cases n1 with
  |zero=>exact eG h
  |succ n1=>
   obtain⟨f0,bh⟩:∃ag,ag=zaC (fun _ _ _=>none) (zcn o1 j1 r1 r2) n1:=⟨_,rfl⟩
   have h:zcn o1 j1 r1 r2 f0 c a M=some r:=by rw[bh];exact h
   unfold zcn at h
   refine zaL (zyG (zyR 1 rfl (zbV u rfl dc rfl cI (zaR rfl zdV (zyN (zyB rfl h (fun h=>?_) (fun h=>?_)))))))
   ·refine bA (ct (zau (zbp h fun j2 eL h=>zaM (β:=(List dq)×Bool×Int×Hd) 2 rfl (fun b=>j2 b.1 b.2.1 b.2.2.1=some r) (fun b=>[]) (fun b=>[(0,zP _g),(5,.string (cL r1 r2 (r1.size:Int))),(6,zP g),(7,zP l),(8,.func (.func 87) #[] #[zP l,zP g]),(9,L),(11,zI b.2.2.1)]) (fun b=>[cells g [b.2.2.2.v] 87,kE b.2.2.2.v b.1,cells l [.bool b.2.1] 4]) (fun cut=>?_) ?_)))
    ·refine zyG (zyR 1 rfl (zbl h fun q1 ch h=>fm u ch cI kC rfl dc rfl rfl rfl (pq (m:=D+(0:Int).toNat) (j:=0) (i:=6) (q:=q1) (cs:=[zI q1.At,zI q1.Width,.int .i32 q1.Rune,.bool q1.Broken]) p rfl (by omega) lB rfl dc rfl (bX u ch) rfl rfl rfl (zbk zjz rfl dc (fun b4=>eK (k:=3) (vs:=[zI q1.At,zI q1.Width,.int .i32 q1.Rune,.bool q1.Broken]) (l':=[zI q1.At,zI q1.Width,.int .i32 q1.Rune,.bool q1.Broken]) kC rfl rfl rfl rfl rfl (show _≤_ by simp) rfl rfl (zyH (zyR 1 rfl (zyN (cut (zyG (zbT (k:=3) (cs:=[zI q1.At,zI q1.Width,.int .i32 q1.Rune,.bool q1.Broken]) lB rfl dc rfl rfl rfl rfl (zbt h fun di h=>zaI (v:=zI (fq q1.Broken q1.Rune)) (vs:=[.agg #[zI q1.At,zI q1.Width,.int .i32 q1.Rune,.bool q1.Broken]]) rfl dc rfl rfl rfl vK (vT q1.At q1.Width q1.Rune q1.Broken di.1 di.2) (zyN (zau (zyG (zaR rfl zbe (zyR 1 rfl (zyN (zyB rfl h (fun h=>?_) (fun h=>?_))))))))))))))))))))
     ·refine zyG (zyR 1 rfl (zyH (zyR 2 rfl ?_)))
      have p:Rd _ _ [cells _g [_f.v,.map (some (bm _a)),.map (some (bm _c)),.map (some (bm _d)),_h.v] 72,bD _f.v o1.units,cG (fun n:ae=>af n) (fun n:Int=>aC .i64 n) (bm _a) o1.place,dU (bm _c) o1.fors,cG (fun n:ae=>af n) (fun n:Bool=>ay n) (bm _d) o1.skips,bD _h.v o1.lines,iX ot 4 z.v 0 r3,iX ot 4 z.v D r3]:=p.up0 (i:=6) rfl
      refine zbl h fun I d9 h=>O9 (vs:=[zP _g,L]) p rfl dc rfl rfl rfl NP (Se (_g:=_g) (o1:=o1) (_f:=_f) (_a:=_a) (_c:=_c) (_d:=_d) (_h:=_h) u d9) (.ro 0 rfl (.ro 1 rfl (.ro 2 rfl (.ro 3 rfl (.ro 4 rfl (.ro 5 rfl (.ro 7 rfl .nil))))))) (fun H f2 f5 b6 p=>?_)
      replace p:Rd _ _ [cells _g [_f.v,.map (some (bm _a)),.map (some (bm _c)),.map (some (bm _d)),_h.v] 72,bD _f.v o1.units,cG (fun n:ae=>af n) (fun n:Int=>aC .i64 n) (bm _a) o1.place,dU (bm _c) o1.fors,cG (fun n:ae=>af n) (fun n:Bool=>ay n) (bm _d) o1.skips,bD _h.v o1.lines,iX ot 4 z.v 0 r3,iX ot 4 z.v D r3,lV gN 1 H I.2]:=p
      obtain⟨d3,k1,L1,bs,p⟩:=p.openSl (i:=8) rfl
      replace p:Rd _ _ [cells _g [_f.v,.map (some (bm _a)),.map (some (bm _c)),.map (some (bm _d)),_h.v] 72,bD _f.v o1.units,cG (fun n:ae=>af n) (fun n:Int=>aC .i64 n) (bm _a) o1.place,dU (bm _c) o1.fors,cG (fun n:ae=>af n) (fun n:Bool=>ay n) (bm _d) o1.skips,bD _h.v o1.lines,iX ot 4 z.v 0 r3,iX ot 4 z.v D r3,lV gN 1 H I.2,iX gN 1 d3 k1 L1]:=p
      refine zyR 1 rfl (eT rfl dc rfl rfl (eT rfl dc rfl rfl (zyR 2 rfl (zyN (zbp h fun j3 ez h=>zaM (β:=Int) 1 rfl (fun b=>j3 b=some r) (fun b=>[]) (fun b=>[(0,zP _g),(5,.string (cL r1 r2 (r1.size:Int))),(6,zP g),(7,zP l),(8,.func (.func 87) #[] #[zP l,zP g]),(9,L),(11,zI I.1),(12,H.v),(13,zI b)]) (fun b=>[cells g [d.v] 87,kE d.v c,cells l [.bool a] 4]) (fun cut=>?_) ?_)))))
      ·refine zyG (zyR 1 rfl (zyN (cut (zyG (zyR 2 rfl (zbt h fun e6 h=>?_))))))
       obtain⟨v5,bk,d7⟩:=om (lo:=none) (hi:=some (zI I.1)) u cI kC (.inl ⟨rfl,rfl⟩) (.inr rfl) e6
       refine ia rfl dc rfl rfl rfl d7 (zbV bk rfl dc rfl cI (zyR 1 rfl (zyN (zau (eO (β:=Nat×Int×Int) (fun b=>zaC (fun _ _=>none) (zb7 M I j3) b.1 b.2.1 b.2.2=some r) (fun b=>[]) (fun b=>[(0,zP _g),(5,.string (cL r1 r2 (r1.size:Int))),(6,zP g),(7,zP l),(8,.func (.func 87) #[] #[zP l,zP g]),(9,L),(11,zI I.1),(12,H.v),(13,zI b.2.1),(48,v5),(49,zI ((dM M 0 I.1).length:Int)),(50,zI b.2.2)]) (fun b=>[cells g [d.v] 87,kE d.v c,cells l [.bool a] 4]) (fun b=>b.1) (zbC,0,0) h rfl (bE rfl) (cj 3) ?_)))))
       rintro⟨n3,F,x3⟩ h
       cases n3 with
       |zero=>exact eG h
       |succ n3=>
        obtain⟨fz,bb⟩:∃ag,ag=zaC (fun _ _=>none) (zb7 M I j3) n3:=⟨_,rfl⟩
        have h:zb7 M I j3 fz F x3=some r:=by rw[bb];exact h
        unfold zb7 at h
        refine zyG (zaR rfl zbi (zyN (zaL (zyB rfl h (fun h=>?_) (fun h=>?_)))))
        ·refine bA (ct (zbp h fun j4 ey h=>zaM (β:=Int) 0 rfl (fun b=>j4 b=some r) (fun b=>[]) (fun b=>[(0,zP _g),(5,.string (cL r1 r2 (r1.size:Int))),(6,zP g),(7,zP l),(8,.func (.func 87) #[] #[zP l,zP g]),(9,L),(11,zI I.1),(12,H.v),(13,zI b),(48,v5),(49,zI ((dM M 0 I.1).length:Int)),(50,zI x3)]) (fun b=>[cells g [d.v] 87,kE d.v c,cells l [.bool a] 4]) (fun cut=>cut (zau (zyG (zbl h fun q2 cc h=>fm bk cc cI kC rfl dc rfl rfl rfl (pq (m:=D+(0:Int).toNat+(x3:Int).toNat) (j:=0) (i:=6) (q:=q2) (cs:=[zI q2.At,zI q2.Width,.int .i32 q2.Rune,.bool q2.Broken]) p rfl (by omega) lB rfl dc rfl (bX bk cc) rfl rfl rfl (zbk zjz rfl dc (fun b5=>eK (k:=3) (vs:=[zI q2.At,zI q2.Width,.int .i32 q2.Rune,.bool q2.Broken]) (l':=[zI q2.At,zI q2.Width,.int .i32 q2.Rune,.bool q2.Broken]) kC rfl rfl rfl rfl rfl (show _≤_ by simp) rfl rfl (zyH (zab pZ rfl dc rfl (show _=2 from rfl) (zat (k:=3) eP rfl dc rfl rfl rfl (zbt h fun dg h=>zaI (v:=.bool (great q2.Rune)) (vs:=[.int .i32 q2.Rune]) rfl dc rfl rfl rfl NQ (mw fun w=>xJ q2.Rune w dg.1 dg.2) (zyN (zyB rfl h (fun h=>bV (zyR 1 rfl (bG (ca (mD 1 h 3))))) (fun h=>bA (ca (mD F h 3)))))))))))))))) (fun a0 h=>?_)))
         rw[ey] at h
         refine bV (zbt h fun e5 h=>zaR rfl (dE (r:=x3+1) (ai _ e5)) (zyR 1 rfl (bG ?_)))
         subst bb
         exact aD (n3,a0,x3+1) h 3
        exact dF (bU (bU (dG (mD F h 3))))
      rintro f h
      rw[ez] at h
      refine zbp h fun j5 ex h=>zaM (β:=Int×ae) 1 rfl (fun b=>j5 b.1 b.2=some r) (fun b=>[]) (fun b=>[(0,zP _g),(5,.string (cL r1 r2 (r1.size:Int))),(6,zP g),(7,zP l),(8,.func (.func 87) #[] #[zP l,zP g]),(9,L),(11,zI b.1),(12,H.v),(13,zI f),(16,.string b.2)]) (fun b=>[cells g [d.v] 87,kE d.v c,cells l [.bool a] 4]) (fun cut=>?_) ?_
      ·refine zyG (zyR 1 rfl (zyN (cut (zau (eO (β:=Nat×Int×ae) (fun b=>zaC (fun _ _=>none) (zcm M j5) b.1 b.2.1 b.2.2=some r) (fun b=>[]) (fun b=>[(0,zP _g),(5,.string (cL r1 r2 (r1.size:Int))),(6,zP g),(7,zP l),(8,.func (.func 87) #[] #[zP l,zP g]),(9,L),(11,zI b.2.1),(12,H.v),(13,zI f),(16,.string b.2.2)]) (fun b=>[cells g [d.v] 87,kE d.v c,cells l [.bool a] 4]) (fun b=>b.1) (zbC,I.1,(⟨#[]⟩:ae)) (by exact h) rfl (bE rfl) (cj 3) ?_)))))
       rintro⟨n8,n7,x⟩ h
       cases n8 with
       |zero=>exact eG h
       |succ n8=>
        obtain⟨ft,a9⟩:∃ag,ag=zaC (fun _ _=>none) (zcm M j5) n8:=⟨_,rfl⟩
        have h:zcm M j5 ft n7 x=some r:=by rw[a9];exact h
        unfold zcm at h
        refine zaL (zyG (zyR 2 rfl (zbV u rfl dc rfl cI (zaR rfl zbi (zyR 1 rfl (zyS (s:=62) rfl h (fun h=>?_) (fun h=>?_)))))))
        ·refine zyR 2 rfl (zbl h fun U b9 h=>fm u b9 cI kC rfl dc rfl rfl rfl (pq (m:=D+(n7:Int).toNat) (j:=0) (i:=6) (q:=U) (cs:=[zI U.At,zI U.Width,.int .i32 U.Rune,.bool U.Broken]) p rfl (by omega) lB rfl dc rfl (bX u b9) rfl rfl rfl (zbl h fun r5 d8 h=>zaI (v:=.bool r5) (vs:=[.agg #[zI U.At,zI U.Width,.int .i32 U.Rune,.bool U.Broken]]) rfl dc rfl rfl rfl He (JC (p1:=U) d8) (zyR 1 rfl (zyN (zyB rfl h (fun h=>?_) (fun h=>?_)))))))
         ·refine bA (ct (zau (zyG (zyR 3 rfl (zbl h fun q4 b8 h=>fm u b8 cI kC rfl dc rfl rfl rfl (zab pZ rfl dc rfl (show _=(D+(n7:Int).toNat)*4+2 from rfl) (jr (n:=D+(n7:Int).toNat) (j:=2) (i:=6) (q:=q4) p rfl (by omega) eP rfl dc rfl (bX u b8) rfl rfl (zdi rfl dc rfl (lJ aZ al) (zbt h fun e4 h=>zaR rfl (lx e4) (zyR 1 rfl (zyN (bV (zyR 1 rfl (zbt h fun e3 h=>zaR rfl (dE (r:=n7+1) (ai _ e3)) (zyR 1 rfl (bG (ca ?_)))))))))))))))))
          subst a9
          exact aD (n8,n7+1,x++(ac q4.Rune)) h 3
         exact dF (bU (bU (dG (mD (n7,x) h 3))))
        exact zyR 6 rfl (zyN (eh rfl (dF (bU (bU (dG (mD (n7,x) h 3)))))))
      rintro⟨n4,y⟩ h
      rw[ex] at h
      refine zbp h fun j6 et h=>zaM (β:=(List dq)×Bool×Hd) 0 rfl (fun b=>j6 b.1 b.2.1=some r) (fun b=>[]) (fun b=>[(0,zP _g),(5,.string (cL r1 r2 (r1.size:Int))),(6,zP g),(7,zP l),(8,.func (.func 87) #[] #[zP l,zP g]),(9,L),(11,zI n4),(16,.string y)]) (fun b=>[cells g [b.2.2.v] 87,kE b.2.2.v b.1,cells l [.bool b.2.1] 4]) (fun cut=>?_) ?_
      ·refine cut (zyG (zyR 1 rfl (zbV bs rfl dc rfl aG (zyR 1 rfl (zyN (zau (eO (β:=Nat×(List dq)×Bool×Int×Hd) (fun b=>zaC (fun _ _ _=>none) (zb6 o1 I f j6) b.1 b.2.1 b.2.2.1 b.2.2.2.1=some r) (fun b=>[]) (fun b=>[(0,zP _g),(5,.string (cL r1 r2 (r1.size:Int))),(6,zP g),(7,zP l),(8,.func (.func 87) #[] #[zP l,zP g]),(9,L),(11,zI n4),(13,zI f),(16,.string y),(79,H.v),(80,zI (I.2.length:Int)),(81,zI b.2.2.2.1)]) (fun b=>[cells g [b.2.2.2.2.v] 87,kE b.2.2.2.2.v b.2.1,cells l [.bool b.2.2.1] 4]) (fun b=>b.1) (zbC,c,a,0,d) h rfl (bE rfl) (cj 3) ?_)))))))
       rintro⟨n9,P,E,x6,a5⟩ h
       cases n9 with
       |zero=>exact eG h
       |succ n9=>
        obtain⟨fs,a8⟩:∃ag,ag=zaC (fun _ _ _=>none) (zb6 o1 I f j6) n9:=⟨_,rfl⟩
        have h:zb6 o1 I f j6 fs P E x6=some r:=by rw[a8];exact h
        unfold zb6 at h
        refine zyG (zaR rfl zbi (zyN (zaL (zyB rfl h (fun h=>?_) (fun h=>?_)))))
        ·refine bA (ct (zaL (zau (zyG (zbl h fun q5 a3 h=>fm bs a3 aG gG rfl dc rfl rfl rfl (jr (n:=k1+(x6:Int).toNat) (j:=0) (i:=9) (q:=q5) p rfl (by omega) eb rfl dc rfl (bX bs a3) rfl rfl (zyR 1 rfl (zyN (bV (zyR 2 rfl (za8 rfl dc rfl (zab zn5 rfl dc rfl (show _=1 from rfl) (zd3 (i:=0) p rfl vD rfl dc rfl rfl (zyR 1 rfl (qZ (k:=2) (ek:=(fun n:ae=>af n)) (ev':=(fun n:Int=>aC .i64 n)) (kk:=q5) (z0:=0) (mC al) nD kr rfl dc rfl rfl p rfl (zyR 1 rfl (zbb (v:=.agg #[zI 3,zI ((zbO q5 o1.place).getD 0),.string ad,.string ad,zI f]) (ps:=[(0,.const (zI 3)),(1,.tmp 91),(4,.tmp 92)]) rfl dc rfl (fun _=>by kernel_rfl) (zbl h fun r6 df h=>zbJ (vs:=[.agg #[zI 3,zI ((zbO q5 o1.place).getD 0),.string ad,.string ad,zI f]]) rfl dc rfl rfl rfl CP (Em (e1:=(⟨3,((zbO q5 o1.place).getD 0),ad,ad,f⟩:dq)) (_o:=l) (c0:=E) (_q:=g) (c1:=P) (_p:=a5) df) (cg [2,0,1] kr rfl) (fun T=>lm (L':=[cells g [T.v] 87,kE T.v r6.2,cells l [.bool r6.1] 4]) (cg [4,5,3] kr rfl) (bG (ca (ct (bV (zbt h fun e2 h=>zaR rfl (dE (r:=x6+1) (ai _ e2)) (zyR 1 rfl (bG ?_))))))))))))))))))))))))))
         subst a8
         exact aD (n9,r6.2,r6.1,x6+1,T) h 3
        exact dF (bU (bU (dG (mD (P,E,a5) h 3))))
      rintro⟨G,V,e9⟩ h
      rw[et] at h
      exact bV (zat (k:=0) vE rfl dc rfl rfl rfl (zat (k:=0) vE rfl dc rfl rfl rfl (gK (k:=1) rfl dc rfl rfl bS (zbt h fun e0 h=>zaR rfl (jH (r:=(G.length:Int)-1) (ai _ e0)) (zyR 1 rfl (zbl h fun Y a2 h=>eY (k:=1) a2 bS oK rfl dc rfl rfl rfl rfl (zab zup rfl dc rfl (show _=(((G.length:Int)-1:Int).toNat)*5+3 from rfl) (oF (i:=((G.length:Int)-1:Int).toNat) (j:=3) (k:=1) (q:=Y) (q':=(⟨Y.sort,Y.place,Y.digits,y,Y.great⟩:dq)) gG rh rfl rfl rfl rfl (ep a2) rfl dc rfl (fun _ _=>rfl) (bG (ca (Da b6 (mD (G.set ((G.length:Int)-1:Int).toNat (⟨Y.sort,Y.place,Y.digits,y,Y.great⟩:dq),V,n4,e9) h 3))))))))))))
     refine zyG (zaR rfl zbe (zyR 1 rfl (zyN (zyB rfl h (fun h=>?_) (fun h=>?_)))))
     ·refine zbp h fun j7 es h=>zaM (β:=Int) 0 rfl (fun b=>j7 b=some r) (fun b=>[]) (fun b=>[(0,zP _g),(5,.string (cL r1 r2 (r1.size:Int))),(6,zP g),(7,zP l),(8,.func (.func 87) #[] #[zP l,zP g]),(9,L),(10,zP b4),(11,zI b)]) (fun b=>[cells g [d.v] 87,kE d.v c,cells l [.bool a] 4,cells b4 [zI q1.At,zI q1.Width,.int .i32 q1.Rune,.bool q1.Broken] 132]) (fun cut=>?_) ?_
      ·refine cut (zau (eO (β:=Nat×Int) (fun b=>zaC (fun _=>none) (zcl M j7) b.1 b.2=some r) (fun b=>[]) (fun b=>[(0,zP _g),(5,.string (cL r1 r2 (r1.size:Int))),(6,zP g),(7,zP l),(8,.func (.func 87) #[] #[zP l,zP g]),(9,L),(10,zP b4),(11,zI b.2)]) (fun b=>[cells g [d.v] 87,kE d.v c,cells l [.bool a] 4,cells b4 [zI q1.At,zI q1.Width,.int .i32 q1.Rune,.bool q1.Broken] 132]) (fun b=>b.1) (zbC,1) h rfl (bE rfl) (cj 4) ?_))
       rintro⟨aw,N⟩ h
       cases aw with
       |zero=>exact eG h
       |succ aw=>
        obtain⟨fo,a7⟩:∃ag,ag=zaC (fun _=>none) (zcl M j7) aw:=⟨_,rfl⟩
        have h:zcl M j7 fo N=some r:=by rw[a7];exact h
        unfold zcl at h
        refine zaL (zyG (zyR 2 rfl (zbV u rfl dc rfl cI (zaR rfl zbi (zyR 1 rfl (zyS (s:=109) rfl h (fun h=>?_) (fun h=>?_)))))))
        ·refine zyR 2 rfl (zbl h fun J a1 h=>fm u a1 cI kC rfl dc rfl rfl rfl (pq (m:=D+(N:Int).toNat) (j:=0) (i:=6) (q:=J) (cs:=[zI J.At,zI J.Width,.int .i32 J.Rune,.bool J.Broken]) p rfl (by omega) lB rfl dc rfl (bX u a1) rfl rfl rfl (zbt h fun a4 h=>zaI (v:=zI (fq J.Broken J.Rune)) (vs:=[.agg #[zI J.At,zI J.Width,.int .i32 J.Rune,.bool J.Broken]]) rfl dc rfl rfl rfl vK (vT J.At J.Width J.Rune J.Broken a4.1 a4.2) (zaR rfl zbe (zyR 1 rfl (zyN (zyB rfl h (fun h=>?_) (fun h=>?_))))))))
         ·refine bA (ct (zau (bV (zyR 1 rfl (zbt h fun d2 h=>zaR rfl (dE (r:=N+1) (ai _ d2)) (zyR 1 rfl (bG (ca ?_))))))))
          subst a7
          exact aD (aw,N+1) h 4
         exact dF (bU (bU (dG (mD N h 4))))
        exact zyR 7 rfl (zyN (eh rfl (dF (bU (bU (dG (mD N h 4)))))))
      rintro O h
      rw[es] at h
      refine zbp h fun j8 eq h=>zaM (β:=ae) 1 rfl (fun b=>j8 b=some r) (fun b=>[]) (fun b=>[(0,zP _g),(5,.string (cL r1 r2 (r1.size:Int))),(6,zP g),(7,zP l),(8,.func (.func 87) #[] #[zP l,zP g]),(9,L),(11,zI O),(19,.string b)]) (fun b=>[cells g [d.v] 87,kE d.v c,cells l [.bool a] 4]) (fun cut=>?_) ?_
      ·refine zyG (zyR 1 rfl (zab zd6 rfl dc rfl (show _=0 from rfl) (zat (k:=3) dQ rfl dc rfl rfl rfl (zab zd6 rfl dc rfl (show _=0 from rfl) (zat (k:=3) dQ rfl dc rfl rfl rfl (zyR 1 rfl (zbt h fun d1 h=>zaR rfl (dE (r:=q1.At+O) (ai _ d1)) (zbt h fun d0 h=>ia rfl dc rfl rfl rfl (ka (i:=q1.At) (j:=q1.At+O) al (.inr rfl) (.inr rfl) d0) (zyR 1 rfl (zyN (cut (zau (eO (β:=Nat×ae) (fun b=>zaC (fun _=>none) (zck j8) b.1 b.2=some r) (fun b=>[]) (fun b=>[(0,zP _g),(5,.string (cL r1 r2 (r1.size:Int))),(6,zP g),(7,zP l),(8,.func (.func 87) #[] #[zP l,zP g]),(9,L),(11,zI O),(19,.string b.2)]) (fun b=>[cells g [d.v] 87,kE d.v c,cells l [.bool a] 4]) (fun b=>b.1) (zbC,cL (cL r1 r2 (r1.size:Int)) q1.At (q1.At+O)) h rfl (bE rfl) (cj 3) ?_)))))))))))))
       rintro⟨ao,t⟩ h
       cases ao with
       |zero=>exact eG h
       |succ ao=>
        obtain⟨fn,a6⟩:∃ag,ag=zaC (fun _=>none) (zck j8) ao:=⟨_,rfl⟩
        have h:zck j8 fn t=some r:=by rw[a6];exact h
        unfold zck at h
        refine zaL (zyG (zyR 1 rfl (zcX rfl dc rfl al (zaR rfl zdV (zyR 1 rfl (zyS (s:=130) rfl h (fun h=>?_) (fun h=>?_)))))))
        ·refine zyR 1 rfl (zbl h fun c1 dd h=>mS rfl dc rfl rfl (oY al dd) (zaR rfl zbe (zyR 1 rfl (zyN (zyB rfl h (fun h=>?_) (fun h=>?_))))))
         ·refine bA (ct (zau (bV (zyR 1 rfl (zbt h fun dT h=>ia rfl dc rfl rfl rfl (ka (i:=1) (j:=(t.size:Int)) al (.inr rfl) (.inl ⟨rfl,rfl⟩) dT) (zyR 1 rfl (bG (ca ?_))))))))
          subst a6
          exact aD (ao,cL t 1 (t.size:Int)) h 3
         exact dF (bU (bU (dG (mD t h 3))))
        exact zyR 4 rfl (zyN (eh rfl (dF (bU (bU (dG (mD t h 3)))))))
      rintro C h
      rw[eq] at h
      exact bV (zyR 2 rfl (zbb (v:=.agg #[zI 2,zI 0,.string C,.string ad,zI 0]) (ps:=[(0,.const (zI 2)),(2,.tmp 138)]) rfl dc rfl (fun _=>by kernel_rfl) (zbl h fun r7 c5 h=>zbJ (vs:=[.agg #[zI 2,zI 0,.string C,.string ad,zI 0]]) rfl dc rfl rfl rfl CP (Em (e1:=(⟨2,0,C,ad,0⟩:dq)) (_o:=l) (c0:=a) (_q:=g) (c1:=c) (_p:=d) c5) (cg [2,0,1] kr rfl) (fun S=>lm (L':=[cells g [S.v] 87,kE S.v r7.2,cells l [.bool r7.1] 4]) (cg [4,5,3] kr rfl) (bG (ca (mD (r7.2,r7.1,O,S) h 3)))))))
     refine zbp h fun j9 en h=>zaM (β:=Bool) 0 rfl (fun b=>j9 b=some r) (fun b=>[]) (fun b=>[(0,zP _g),(5,.string (cL r1 r2 (r1.size:Int))),(6,zP g),(7,zP l),(8,.func (.func 87) #[] #[zP l,zP g]),(9,L),(10,zP b4),(11,zI 1),(37,zI (fq q1.Broken q1.Rune)),(141,.bool b)]) (fun b=>[cells g [d.v] 87,kE d.v c,cells l [.bool a] 4,cells b4 [zI q1.At,zI q1.Width,.int .i32 q1.Rune,.bool q1.Broken] 132]) (fun cut=>cut (zyG (zaR rfl zbe (zyR 1 rfl (zyN (zyB rfl h (fun h=>bA (mD (((fq q1.Broken q1.Rune):Int)==5) h 4)) (fun h=>zyG (zaR rfl zbe (zyR 1 rfl (zyN (zyB rfl h (fun h=>bA (mD (((fq q1.Broken q1.Rune):Int)==4) h 4)) (fun h=>bV (zaR rfl zbe (zyR 1 rfl (bG (mD (((fq q1.Broken q1.Rune):Int)==6) h 4)))))))))))))))) (fun x7 h=>?_)
     rw[en] at h
     exact zyB rfl h (fun h=>bV (ef (k:=2) (l':=[.bool true]) jX rfl rfl rfl rfl rfl (fun _ _=>rfl) rfl (bG (ca (mD (c,true,1,d) h 3))))) (fun h=>zyG (zaR rfl zbe (zyR 1 rfl (zyN (zyB rfl h (fun h=>bV (zyR 2 rfl (zab zd6 rfl dc rfl (show _=0 from rfl) (zat (k:=3) dQ rfl dc rfl rfl rfl (zbl h fun c2 c4 h=>mS rfl dc rfl rfl (oY al c4) (zbt h fun ds h=>zdi rfl dc rfl (vg (r:=c2) underlying5 underlying3 (ai _ ds)) (zbb (v:=.agg #[zI 4,zI c2,.string ad,.string ad,zI 0]) (ps:=[(0,.const (zI 4)),(1,.tmp 152)]) rfl dc rfl (fun _=>by kernel_rfl) (zbl h fun r8 c3 h=>zbJ (vs:=[.agg #[zI 4,zI c2,.string ad,.string ad,zI 0]]) rfl dc rfl rfl rfl CP (Em (e1:=(⟨4,c2,ad,ad,0⟩:dq)) (_o:=l) (c0:=a) (_q:=g) (c1:=c) (_p:=d) c3) (cg [2,0,1] kr rfl) (fun Q=>lm (L':=[cells g [Q.v] 87,kE Q.v r8.2,cells l [.bool r8.1] 4,cells b4 [zI q1.At,zI q1.Width,.int .i32 q1.Rune,.bool q1.Broken] 132]) (cg [5,6,4,3] kr rfl) (bG (ca (mD (r8.2,r8.1,1,Q) h 3)))))))))))) (fun h=>bA (ca (mD (c,a,1,d) h 3))))))))
    rintro⟨b0,W,n2,fd⟩ h
    rw[eL] at h
    refine bV (zyR 2 rfl (zbt h fun dj h=>?_))
    obtain⟨v6,d5,d6⟩:=om (lo:=some (zI n2)) (hi:=none) u cI kC (.inr rfl) (.inl ⟨rfl,rfl⟩) dj
    refine ia rfl dc rfl rfl rfl d6 (zyR 1 rfl (bG (ca ?_)))
    subst bh
    exact aD (n1,b0,W,dM M n2 (M.length:Int),fd,v6,D+(n2:Int).toNat) ⟨h,d5⟩ 3
   exact dF (bU (bU (dG (Da b7 (mD (c,g,d) h 2)))))
 rintro⟨f1,b1,fk⟩ h
 rw[eM] at h
 refine zyG (zat (k:=0) vE rfl dc rfl rfl rfl (zyR 1 rfl (zyN (zaz ?_))))
 cases h
 exact eB (rs:=[.tmp 4]) fk.v (.inl rfl) results43 (.cons (.tmp rfl) .nil) rfl (cg [1] kr rfl)
abbrev Tk:=Int×ae
def tkT (t:cN):Tk:=(if t.broken then -1 else (t.r:Int),⟨t.bs.toArray⟩)
def kT (x:Tk):Int:=if x.1<0 then 11 else kind x.1
def dY (x:Tk):Bool:=cW x.1
def iE (x:Tk):Bool:=eE x.1
def fy (x:Tk):Bool:=decide (48≤x.1∧x.1≤57)
def iS (x:Tk):Bool:=dY x||iE x
def im (l:List Tk):ae:=J (·.2) l
abbrev El:=dq
structure lP where
 p:ae→Option Int
 f:ae→Option (List ae)
 s:ae→Bool
def qJ (l:List Tk):List Tk:=(l.dropWhile fun x=>!dY x).dropWhile iS
def nr (l:List Tk):List Tk:=(l.dropWhile fun x=>!dY x).takeWhile iS
def qK (o:lP) (l:List Tk):Nat :=
 if (qJ l).any (fun x=>dY x||fy x)&&o.s (iH (im (nr l))) then (l.takeWhile fun x=>!dY x).length+(nr l).length else 0
def pd (o:lP) (a:ae×Nat×Option (Nat×List ae)) (x:Tk):ae×Nat×Option (Nat×List ae) :=
 let f:=a.1++ac (cr x.1)
 (f,a.2.1+1,if (o.p f).isSome then some (a.2.1+1,[f]) else match o.f f with | some xs=>some (a.2.1+1,xs) | none=>a.2.2)
def uN (l:List Tk):List Tk:=(l.take 8).takeWhile fun x=>!decide (x.1<0)
def tK (o:lP) (l:List Tk):Option (Nat×List ae):=((uN l).foldl (pd o) (ad,0,none)).2.2
def rA (r:Int):List ae:=(eH (iH (ac (cr r)))).map ac
def kv (o:lP) (x:Tk) (l:List Tk):Nat×List ae:=(tK o (x::l)).getD (1,rA x.1)
def ie (o:lP) (g:Int) (u:ae):El:=⟨3,(o.p u).getD 0,ad,ad,g⟩
def ow (m:ae):List El→List El
 |[]=>[]
 |[e]=>[⟨e.sort,e.place,e.digits,m,e.great⟩]
 |e::a::es=>e::ow m (a::es)
def qb (l:List Tk):Int:=if l.any (fun x=>great x.1) then 1 else 0
def lY (l:List Tk):ae:=J (fun x=>ac x.1) l
def sG:List UInt8→List UInt8:=List.dropWhile (· == 48)
def rB (l:List Tk):ae:=⟨(sG (im l).data.toList).toArray⟩
def kO (o:lP) (x:Tk) (l:List Tk):Nat×Option (List El) :=
 if kT x=1 then
  let m:=kv o x l
  let a:=((x::l).drop m.1).takeWhile iE
  (m.1+a.length,some (ow (lY a) (m.2.map (ie o (qb ((x::l).take m.1))))))
 else if kT x=3 then (1+(l.takeWhile fy).length,some [⟨2,0,rB (x::l.takeWhile fy),ad,0⟩])
 else if kT x=5∨kT x=4∨kT x=6 then (1,none)
 else if kT x=11 then (1,some [⟨4,kG x.2,ad,ad,0⟩])
 else (1,some [])
def lZ (o:lP):Nat→List Tk→List (Option (List El))
 |0,_=>[]
 |_+1,[]=>[]
 |n+1,x::l=>(kO o x l).2::lZ o n ((x::l).drop (kO o x l).1)
def kH:El:=⟨1,0,ad,ad,0⟩
def l0:List (Option (List El))→List El→Bool→List El
 |[],out,_=>out
 |none::cs,out,_=>l0 cs out true
 |some []::cs,out,sp=>l0 cs out sp
 |some (e::es)::cs,out,sp=>l0 cs (out++(if sp&&!out.isEmpty then [kH] else [])++e::es) false
def sH (o:lP) (l:List Tk):List El:=l0 (lZ o l.length (l.drop (qK o l))) [] false
def mI (t:ae):List cN:=dK (fY t).data.toList
def fR (t:ae):List Tk:=(mI t).map tkT
def dw (o:cw):lP:=⟨fun u=>zbO u o.place,fun u=>zbO u o.fors,fun f=>(zbO f o.skips).getD false⟩
def pT (i:Nat) (t:cN):cT:=⟨(i:Int),(t.bs.length:Int),(t.r:Int),t.broken⟩
def pL:Nat→List cN→List cT
 |_,[]=>[]
 |i,t::ts=>pT i t::pL (i+t.bs.length) ts
theorem JF:∀ (ts:List cN) (i:Nat),(place i ts).map gv=pL i ts
 |[],_=>rfl
 |t::ts,i=>by
  show gv ⟨i,t.bs.length,t.r⟩::(place (i+t.bs.length) ts).map gv=_
  rw[JF ts];rfl
theorem sI (l:List UInt8):(eA l).map gv=pL 0 (dK l):=by
 show (mX 0 l).map gv=_
 rw[HL,JF]
theorem mJ:∀ (ts:List cN) (i:Nat),(pL i ts).length=ts.length
 |[],_=>rfl
 |t::ts,i=>by rw[pL,ab,ab,mJ ts]
theorem Sf (ts:List cN) (n:Nat):(bJ (ts.take n)).length+(bJ (ts.drop n)).length=(bJ ts).length:=by
 rw[←aa,←kp,bO]
theorem JG:∀ (n:Nat) (ts:List cN) (i:Nat),(pL i ts).drop n=pL (i+(bJ (ts.take n)).length) (ts.drop n)
 |0,ts,i=>by simp[bJ]
 |n+1,[],i=>by simp[pL,bJ]
 |n+1,t::ts,i=>by
  rw[pL,kQ,JG n ts,ea,ko,aa,kQ,fI]
theorem qL:∀ (ts:List cN) (i k:Nat) (t:cN),ts[k]?=some t→(pL i ts)[k]?=some (pT (i+(bJ (ts.take k)).length) t)
 |[],_,_,_,h=>by simp at h
 |t'::ts,i,0,t,h=>by simp at h;subst h;simp[pL,bJ]
 |t'::ts,i,k+1,t,h=>by
  rw[pL,List.getElem?_cons_succ,qL ts _ k t (by simpa using h),ea,ko,aa,fI]
theorem nt {t:cN} (h:jC t):fl (t.r:Int):=by
 rcases h with h|h
 ·obtain⟨h,_⟩:=h
  exact⟨by omega,by omega⟩
 ·unfold pN at h
  simp at h
  exact⟨by omega,by omega⟩
theorem rC (t:cN):fq t.broken (t.r:Int)=kT (tkT t):=by
 have h1:∀r:Int,kT (r,(⟨t.bs.toArray⟩:ae))=if r<0 then 11 else kind r:=fun r=>rfl
 unfold tkT
 cases hb:t.broken with
 |true=>rw[ax rfl,h1,ax (by omega)];rfl
 |false=>
  rw[ap (by simp),h1]
  have h2:¬((t.r:Int)<0):=by omega
  have h3:fq false (t.r:Int)=kind (t.r:Int):=ap (by simp)
  rw[ap h2,h3]
theorem tL (x:Tk):((kT x:Int)==1)=dY x:=by
 unfold kT dY
 split
 ·rename_i h
  have:cW x.1=false:=by
   cases hL:cW x.1 with
   |false=>rfl
   |true=>have:=mF _ hL;omega
  rw[this];rfl
 ·exact zmD x.1
theorem yV (x:Tk):((kT x:Int)==2)=iE x:=by
 unfold kT iE
 split
 ·have:eE x.1=false:=by unfold eE;exact aj (by omega)
  rw[this];rfl
 ·exact Ib x.1
theorem Sg (r:Int):((kind r:Int)==3)=decide (48≤r∧r≤57):=by
 by_cases h:48≤r∧r≤57
 ·have b:cW r=false:=by
   cases hL:cW r with
   |false=>rfl
   |true=>
    unfold cW great nZ at hL
    simp only[dy,decide_eq_true_eq] at hL
    unfold nY qA at hL
    omega
  have:kind r=3:=by
   unfold kind rl
   rw[ap (by omega),b]
   simp only[bg,if_false]
   rw[ap (by omega),ax h]
  rw[this,au h];rfl
 ·rw[aj h]
  have:kind r≠3:=by
   unfold kind rl
   intro a
   repeat' split at a
   all_goals first | omega | cases a
  exact aA.2 this
theorem uO (x:Tk):((kT x:Int)==3)=fy x:=by
 unfold kT fy
 split
 ·have:decide (48≤x.1∧x.1≤57)=false:=aj (by omega)
  rw[this];rfl
 ·exact Sg x.1
theorem Eo (o:cw) (s:ae) (ek:Int→Int→Int→Option Int) (x:cT) (ag:Int→Int→Bool→Option Int) (f t:Int) (op:Bool) (a:fl x.Rune) :
  zb5 o s ek x ag f t op=aM (decide ((f:Int)<0)) (aM (((fq x.Broken x.Rune):Int)==1) (aU (cp (x.At+x.Width))<|ag x.At (x.At+x.Width) op) (ag f t op))
   (aM (op&&((((fq x.Broken x.Rune):Int)==1)||(((fq x.Broken x.Rune):Int)==2))) (aU (cp (x.At+x.Width))<|ag f (x.At+x.Width) op)
    (aM ((((fq x.Broken x.Rune):Int)==1)||(((fq x.Broken x.Rune):Int)==3)) (aU (0≤(f:Int)∧(f:Int)≤t∧(t:Int)≤(s.size:Int))<|aT (oR (cL s f t)) fun (r2:ae)=>aM (((zbO r2 o.skips).getD false)) (ek t f t) (ek 0 f t)) (ag f t false))):=by
 unfold zb5
 rw[FP a]
 generalize (((fq x.Broken x.Rune):Int)==1)=b1
 generalize (((fq x.Broken x.Rune):Int)==2)=b2
 generalize (((fq x.Broken x.Rune):Int)==3)=b3
 generalize decide ((f:Int)<0)=b0
 cases b0<;>cases b1<;>cases b2<;>cases b3<;>cases op<;>rfl
theorem Ep (a b:ae):(a++b).data.toList=a.data.toList++b.data.toList:=by simp
theorem qM {a b:ae} (h:a.data.toList=b.data.toList):a=b:=_root_.ByteArray.ext (fv.1 h)
theorem wN:∀ts:List cN,(im (ts.map tkT)).data.toList=bJ ts
 |[]=>rfl
 |t::ts=>by
  rw[av,ko,←wN ts]
  show (J (·.2) (tkT t::ts.map tkT)).data.toList=_
  rw[iN,Ep];rfl
theorem rD (s:ae) (a b:Nat):(cL s (a:Int) (b:Int)).data.toList=(s.data.toList.drop a).take (b-a):=by
 unfold cL
 simp[ByteArray.data_extract]
theorem yW {s:ae} {A W Z:List cN} (h:s.data.toList=bJ (A++(W++Z))) {a b:Nat} (ha:a=(bJ A).length) (hb:b=a+(bJ W).length):cL s (a:Int) (b:Int)=im (W.map tkT):=by
 apply qM
 rw[rD,wN,h,kp,kp,ha,gV,hb,ha,fh,List.take_left]
theorem gJ (s:ae):s.size=s.data.toList.length:=by rw[Array.length_toList];rfl
theorem JH (s:ae) (a b:Int):(cL s a b).size≤s.size:=by
 unfold cL
 rw[ByteArray.size_extract]
 omega
theorem JI {α:Type} (p:α→Bool):∀l:List α,l.take (l.takeWhile p).length=l.takeWhile p
 |[]=>rfl
 |x::l=>by
  rw[aV]
  cases p x with
  |true=>simp only[if_true,ab,ea];rw[JI p l]
  |false=>rfl
section
variable {o:cw} {s:ae} {ek:Int→Int→Int→Option Int} {dn:Int→Int→Bool→Option Int} {Z:Option Int}
abbrev pf (x:Tk):Bool:=dY x||fy x
def yX (o:cw) (s:ae) (a b:Nat):Int:=if (dw o).s (iH (cL s (a:Int) (b:Int))) then (b:Int) else 0
theorem JJ (hz:∀a b c,dn a b c=some 0) (he:∀v a b,ek v a b=some v) (g:s.size≤65536) {a b:Nat} (e:a≤b) (d:b≤s.size):∀ (ts:List cN) (i:Nat),(∀t∈ts,jC t) →
  zdw dn (zb5 o s ek) (pL i ts) (a:Int) (b:Int) false=if (ts.map tkT).any pf then some (yX o s a b) else some 0
 |[],i,_=>hz _ _ _
 |t::ts,i,hok=>by
  have f:=JJ hz he g e d ts (i+t.bs.length) (fun x hx=>hok x (ak _ hx))
  rw[pL,nI,Eo o s ek (pT i t) _ _ _ _ (nt (hok t (aq ..)))]
  show aM (decide ((a:Int)<0)) _ _=_
  have hk:fq (pT i t).Broken (pT i t).Rune=kT (tkT t):=rC t
  rw[hk,tL,yV,uO,av,jb]
  refine fP (bM (by simp) ?_)
  cases hb:(dY (tkT t)||fy (tkT t)) with
  |false=>
   refine bM rfl (f.trans ?_)
   show _=if (pf (tkT t)||_) then _ else _
   rw[show pf (tkT t)=false from hb,dk]
  |true=>
   refine bQ rfl (gO ?_)
   have:(pf (tkT t)||(ts.map tkT).any pf)=true:=by rw[show pf (tkT t)=true from hb];rfl
   rw[this,ax rfl]
   refine bf (A1 _ (by have:=JH s (a:Int) (b:Int);omega)) ?_
   unfold yX
   show aM ((dw o).s (iH (cL s (a:Int) (b:Int)))) _ _=_
   cases h:(dw o).s (iH (cL s (a:Int) (b:Int))) with
   |true=>exact bQ rfl (by rw[he,ax rfl])
   |false=>exact bM rfl (by rw[he];rfl)
theorem JK (hz:∀a b c,dn a b c=some 0) (he:∀v a b,ek v a b=some v) (g:s.size≤65536) {a:Nat}:∀ (ts:List cN) (i:Nat),(∀t∈ts,jC t)→a≤i→i+(bJ ts).length=s.size →
  zdw dn (zb5 o s ek) (pL i ts) (a:Int) (i:Int) true =
   if ((ts.map tkT).dropWhile iS).any pf then some (yX o s a (i+(bJ (ts.takeWhile fun t=>iS (tkT t))).length)) else some 0
 |[],i,_,_,_=>hz _ _ _
 |t::ts,i,hok,hai,hsz=>by
  have d:∀x∈ts,jC x:=fun x hx=>hok x (ak _ hx)
  rw[ko,aa] at hsz
  have h:=JK hz he g (a:=a) ts (i+t.bs.length) d (by omega) (by omega)
  rw[pL,nI,Eo o s ek (pT i t) _ _ _ _ (nt (hok t (aq ..)))]
  show aM (decide ((a:Int)<0)) _ _=_
  have hk:fq (pT i t).Broken (pT i t).Rune=kT (tkT t):=rC t
  rw[hk,tL,yV,uO,av,aV,cC]
  refine fP ?_
  cases hb:iS (tkT t) with
  |true=>
   refine bQ (by rw[show (dY (tkT t)||iE (tkT t))=true from hb];rfl) (zdG ⟨?_,?_⟩ ?_)
   ·show (-9223372036854775808:Int)≤(i:Int)+(t.bs.length:Int);omega
   ·show (i:Int)+(t.bs.length:Int)≤(9223372036854775807:Int);omega
   ·simp only[if_true]
    rw[ko,aa,←fI]
    have e:(pT i t).At+(pT i t).Width=((i+t.bs.length:Nat):Int):=by show (i:Int)+(t.bs.length:Int)=_;push_cast;rfl
    rw[e]
    exact h
  |false=>
   refine bM (by rw[show (dY (tkT t)||iE (tkT t))=false from hb];rfl) ?_
   simp only[bg,if_false]
   rw[show bJ []=([]:List UInt8) from rfl,aI,Nat.add_zero,jb]
   have f:dY (tkT t)=false:=by
    have:(dY (tkT t)||iE (tkT t))=false:=hb
    revert this;cases dY (tkT t)<;>simp
   cases hd:fy (tkT t) with
   |true=>
    refine bQ (by rw[f];rfl) (gO ?_)
    have:(pf (tkT t)||(ts.map tkT).any pf)=true:=by rw[show pf (tkT t)=true by unfold pf;rw[hd,Bool.or_true]];rfl
    rw[this,ax rfl]
    refine bf (A1 _ (by have:=JH s (a:Int) (i:Int);omega)) ?_
    unfold yX
    show aM ((dw o).s (iH (cL s (a:Int) (i:Int)))) _ _=_
    cases j:(dw o).s (iH (cL s (a:Int) (i:Int))) with
    |true=>exact bQ rfl (by rw[he,ax rfl])
    |false=>exact bM rfl (by rw[he];rfl)
   |false=>
    refine bM (by rw[f];rfl) ?_
    rw[show pf (tkT t)=false by unfold pf;rw[hd,f];rfl,dk]
    exact JJ hz he g hai (by omega) ts _ d
def yY (o:lP) (l:List Tk):Bool:=(qJ l).any (fun x=>dY x||fy x)&&o.s (iH (im (nr l)))
def Bd (l:List Tk):Nat:=(l.takeWhile fun x=>!dY x).length+(nr l).length
theorem Sh (o:lP) (l:List Tk):qK o l=if yY o l then Bd l else 0:=rfl
theorem JL (hz:∀a b c,dn a b c=some 0) (he:∀v a b,ek v a b=some v) (h:s.size≤65536):∀ (ts A:List cN),(∀t∈ts,jC t)→s.data.toList=bJ (A++ts) →
  zdw dn (zb5 o s ek) (pL (bJ A).length ts) (-1) 0 true=some (if yY (dw o) (ts.map tkT) then (((bJ A).length+(bJ (ts.take (Bd (ts.map tkT)))).length:Nat):Int) else 0)
 |[],A,_,_=>by
  rw[pL,xc,hz];rfl
 |t::ts,A,hok,hsz=>by
  have d:∀x∈ts,jC x:=fun x hx=>hok x (ak _ hx)
  have j:(bJ A).length+(t.bs.length+(bJ ts).length)=s.size:=by rw[gJ,hsz,kp,ko,aa,aa]
  rw[pL,nI,Eo o s ek (pT _ t) _ _ _ _ (nt (hok t (aq ..)))]
  have hk:∀i,fq (pT i t).Broken (pT i t).Rune=kT (tkT t):=fun _=>rC t
  rw[hk,tL,yV,uO]
  refine bQ (by decide) ?_
  cases f:dY (tkT t) with
  |true=>
   refine bQ rfl (zdG ⟨?_,?_⟩ ?_)
   ·show (-9223372036854775808:Int)≤((bJ A).length:Int)+(t.bs.length:Int);omega
   ·show ((bJ A).length:Int)+(t.bs.length:Int)≤(9223372036854775807:Int);omega
   ·have e:(pT (bJ A).length t).At+(pT (bJ A).length t).Width=(((bJ A).length+t.bs.length:Nat):Int):=by show ((bJ A).length:Int)+(t.bs.length:Int)=_;push_cast;rfl
    rw[e]
    refine (JK (o:=o) (ek:=ek) hz he h (a:=(bJ A).length) ts ((bJ A).length+t.bs.length) d (by omega) (by omega)).trans ?_
    have hd:((t::ts).map tkT).dropWhile (fun x=>!dY x)=tkT t::ts.map tkT:=by rw[av,cC,f];rfl
    have ht:((t::ts).map tkT).takeWhile (fun x=>!dY x)=[]:=by rw[av,aV,f];rfl
    have hm:iS (tkT t)=true:=by unfold iS;rw[f];rfl
    have e1:qJ ((t::ts).map tkT)=(ts.map tkT).dropWhile iS:=by unfold qJ;rw[hd,cC,hm];rfl
    have e2:nr ((t::ts).map tkT)=((t::ts).takeWhile fun t=>iS (tkT t)).map tkT:=by
     unfold nr;rw[hd,←av,rR];rfl
    have g:(t::ts).takeWhile (fun t=>iS (tkT t))=t::ts.takeWhile fun t=>iS (tkT t):=by rw[aV,hm];rfl
    unfold yY Bd
    rw[e1,e2,ht]
    have hB:∀W:List cN,W=ts.takeWhile (fun t=>iS (tkT t))→cL s (((bJ A).length:Nat):Int) ((((bJ A).length+t.bs.length)+(bJ W).length:Nat):Int)=im (((t::ts).takeWhile fun t=>iS (tkT t)).map tkT):=by
     intro W hW
     rw[g,←hW]
     refine yW (A:=A) (W:=t::W) (Z:=ts.dropWhile fun t=>iS (tkT t)) ?_ rfl (by rw[ko,aa];omega)
     rw[hsz,bq,hW,dS]
    cases k:((ts.map tkT).dropWhile iS).any pf with
    |false=>rfl
    |true=>
     rw[ax rfl,fB]
     unfold yX
     rw[hB _ rfl]
     cases l:(dw o).s (iH (im (((t::ts).takeWhile fun t=>iS (tkT t)).map tkT))) with
     |false=>rfl
     |true=>
      rw[ax rfl,ax rfl,aI,Nat.zero_add,ar]
      rw[g,ab,ea,ko,aa,JI,fI]
  |false=>
   refine bM rfl ?_
   have e:(bJ A).length+t.bs.length=(bJ (A++[t])).length:=by rw[kp,aa];simp[bJ]
   rw[e]
   refine (JL hz he h ts (A++[t]) d (by rw[hsz,aB];rfl)).trans ?_
   have e1:qJ ((t::ts).map tkT)=qJ (ts.map tkT):=by unfold qJ;rw[av,cC,f];rfl
   have e2:nr ((t::ts).map tkT)=nr (ts.map tkT):=by unfold nr;rw[av,cC,f];rfl
   have g:(((t::ts).map tkT).takeWhile fun x=>!dY x).length=((ts.map tkT).takeWhile fun x=>!dY x).length+1:=by rw[av,aV,f];rfl
   unfold yY Bd
   rw[e1,e2,g,show ((ts.map tkT).takeWhile fun x=>!dY x).length+1+(nr (ts.map tkT)).length=(((ts.map tkT).takeWhile fun x=>!dY x).length+(nr (ts.map tkT)).length)+1 by omega,ea,ko,aa,←e,fI]
end
theorem Si (o:cw) (s:ae) (b:s.size≤65536):yS o s=some ((bJ ((dK s.data.toList).take (qK (dw o) ((dK s.data.toList).map tkT)))).length:Int):=by
 unfold yS
 refine cA (bf (a:=s) rfl (bf (yC s (by omega)) (cA (cA ?_))))
 rw[sI]
 refine (JL (o:=o) (s:=s) (fun _ _ _=>rfl) (fun _ _ _=>rfl) b (dK s.data.toList) [] (nX _) (by rw[aW,pa])).trans ?_
 rw[Sh]
 cases yY (dw o) ((dK s.data.toList).map tkT) with
 |true=>simp[bJ]
 |false=>simp[bJ]
theorem Sj:∀n:Fin 256,zQ .u8 ((n.val:Nat):Int) 63=((n.val % 64:Nat):Int):=by decide +kernel
theorem Sk:∀n:Fin 64,lz .u8 ((n.val:Nat):Int) 128=((n.val+128:Nat):Int):=by decide +kernel
theorem Sm:∀n:Fin 32,lz .u8 192 ((n.val:Nat):Int)=((n.val+192:Nat):Int):=by decide +kernel
theorem Sn:∀n:Fin 16,lz .u8 224 ((n.val:Nat):Int)=((n.val+224:Nat):Int):=by decide +kernel
theorem So:∀n:Fin 8,lz .u8 240 ((n.val:Nat):Int)=((n.val+240:Nat):Int):=by decide +kernel
theorem yZ (n:Nat):IntKind.u8.wrap (n:Int)=((n % 256:Nat):Int):=by
 simp[IntKind.wrap,IntKind.bits,IntKind.signed]
theorem wO (n:Nat):ou (n:Int)=some ((n % 64+128:Nat):Int):=by
 unfold ou
 rw[yZ]
 have h1:=Sj ⟨n % 256,by omega⟩
 simp only at h1
 rw[h1]
 have h2:=Sk ⟨n % 256 % 64,by omega⟩
 simp only at h2
 rw[h2,show n % 256 % 64=n % 64 by omega]
theorem Er (n:Nat):jW .i32 (n:Int) 6=((n / 64:Nat):Int):=by
 show Int.fdiv (n:Int) 64=_
 rw[iR _ (by decide)];omega
theorem JM (n:Nat):jW .i32 (n:Int) 12=((n / 4096:Nat):Int):=by
 show Int.fdiv (n:Int) 4096=_
 rw[iR _ (by decide)];omega
theorem Sp (n:Nat):jW .i32 (n:Int) 18=((n / 262144:Nat):Int):=by
 show Int.fdiv (n:Int) 262144=_
 rw[iR _ (by decide)];omega
theorem JN (n:Nat) (hv:n<55296∨(57343<n∧n≤1114111)):(aM (decide (((n:Int):Int)<128)) (aU (∀x∈([IntKind.u8.wrap (n:Int)]:List Int),U8 x)<|some (jp ([IntKind.u8.wrap (n:Int)]:List Int)))
  (aM (decide (((n:Int):Int)<2048)) (aT (ou (n:Int)) fun (i:Int)=>aU (∀x∈([lz .u8 192 (IntKind.u8.wrap (jW .i32 (n:Int) 6)),i]:List Int),U8 x)<|some (jp ([lz .u8 192 (IntKind.u8.wrap (jW .i32 (n:Int) 6)),i]:List Int)))
  (aM (decide (((n:Int):Int)<65536)) (aT (ou (jW .i32 (n:Int) 6)) fun (g:Int)=>aT (ou (n:Int)) fun (f:Int)=>aU (∀x∈([lz .u8 224 (IntKind.u8.wrap (jW .i32 (n:Int) 12)),g,f]:List Int),U8 x)<|some (jp ([lz .u8 224 (IntKind.u8.wrap (jW .i32 (n:Int) 12)),g,f]:List Int)))
  (aT (ou (jW .i32 (n:Int) 12)) fun (d:Int)=>aT (ou (jW .i32 (n:Int) 6)) fun (c:Int)=>aT (ou (n:Int)) fun (b:Int)=>aU (∀x∈([lz .u8 240 (IntKind.u8.wrap (jW .i32 (n:Int) 18)),d,c,b]:List Int),U8 x)<|some (jp ([lz .u8 240 (IntKind.u8.wrap (jW .i32 (n:Int) 18)),d,c,b]:List Int))))))=some (ac (n:Int)):=by
 have a:encodeRune (n:Int)=(encodeRuneZ (n:Int)).map fun x=>x.toNat.toUInt8:=rfl
 rcases C4 n hv with⟨h,e⟩|⟨h,h',e⟩|⟨h,h',e⟩|⟨h,h',e⟩
 ·refine eW ?_
  rw[yZ]
  refine zdG (by intro x hx;simp only[bl] at hx;subst hx;exact⟨by omega,by omega⟩) (aH some (tB ?_))
  rw[mW,a,e,show n % 256=n by omega]
 ·refine fP (eW (bf (wO n) ?_))
  have h1:=Sm ⟨n / 64,by omega⟩
  simp only at h1
  rw[Er,yZ,show n / 64 % 256=n / 64 by omega,h1]
  refine zdG (by intro x hx;simp only[aY,cX,or_false] at hx;rcases hx with rfl | rfl<;>exact⟨by omega,by omega⟩) (aH some (tB ?_))
  rw[mW,a,e,show ((n / 64+192:Nat):Int)=192+(n:Int) / 64 by omega,show ((n % 64+128:Nat):Int)=128+(n:Int) % 64 by omega]
 ·refine fP (fP (eW ?_))
  have h1:=Sn ⟨n / 4096,by omega⟩
  simp only at h1
  rw[Er,JM,yZ,show n / 4096 % 256=n / 4096 by omega,h1]
  refine bf (wO _) (bf (wO _) ?_)
  refine zdG (by intro x hx;simp only[aY,cX,or_false] at hx;rcases hx with rfl | rfl | rfl<;>exact⟨by omega,by omega⟩) (aH some (tB ?_))
  rw[mW,a,e,show ((n / 4096+224:Nat):Int)=224+(n:Int) / 4096 by omega,show ((n / 64 % 64+128:Nat):Int)=128+(n:Int) / 64 % 64 by omega,show ((n % 64+128:Nat):Int)=128+(n:Int) % 64 by omega]
 ·refine fP (fP (fP ?_))
  have h1:=So ⟨n / 262144,by omega⟩
  simp only at h1
  rw[Er,JM,Sp,yZ,show n / 262144 % 256=n / 262144 by omega,h1]
  refine bf (wO _) (bf (wO _) (bf (wO _) ?_))
  refine zdG (by intro x hx;simp only[aY,cX,or_false] at hx;rcases hx with rfl | rfl | rfl | rfl<;>exact⟨by omega,by omega⟩) (aH some (tB ?_))
  rw[mW,a,e,show ((n / 262144+240:Nat):Int)=240+(n:Int) / 262144 by omega,show ((n / 4096 % 64+128:Nat):Int)=128+(n:Int) / 4096 % 64 by omega,show ((n / 64 % 64+128:Nat):Int)=128+(n:Int) / 64 % 64 by omega,show ((n % 64+128:Nat):Int)=128+(n:Int) % 64 by omega]
theorem JO {r:Int} (h:¬vr r):ac r=ac 65533:=by
 apply _root_.ByteArray.ext;apply fv.1
 rw[mW,mW]
 unfold encodeRune
 congr 1
 unfold vr at h
 unfold encodeRuneZ
 (repeat' split)<;>first | rfl | (exfalso;omega)
theorem Sq (r:Int):yz r=some (ac r):=by
 unfold yz
 refine cA ?_
 by_cases hv:vr r
 ·refine bf (Iy r hv) ?_
  have c:0<(ac r).size:=by rw[xg];exact (xh r).1
  refine bM (by rw[aA];omega) ?_
  obtain⟨n,rfl⟩:∃n:Nat,r=n:=⟨r.toNat,by unfold vr at hv;omega⟩
  exact JN n (by unfold vr at hv;omega)
 ·have b:r≠65533:=by intro e;subst e;exact hv (by unfold vr;omega)
  have d:ac r=(⟨#[239,191,189]⟩:ae):=by rw[JO hv];decide
  refine bf (a:=0) ?_ (bQ rfl ?_)
  ·unfold uF
   exact cA (bQ (du.2 b) (bQ (au d) rfl))
  ·rw[JO hv];exact JN 65533 (by omega)
theorem Sr (r:Int):yE r=some (iH (ac r)):=bf (Sq r) (bf (A1 _ (by have:=mh r;omega)) rfl)
section
variable {R X A:Type} {xs:List X}
theorem JP {F:(A→Nat→Option R)→A→Nat→Option R} {bot:A→Nat→Option R} {f:A→X→A} {J:A→Option R} (Inv:Nat→A→Prop)
  (c:∀ag k x a,xs[k]?=some x→Inv k a→F ag a k=ag (f a x) (k+1)) (e:∀k x a,xs[k]?=some x→Inv k a→Inv (k+1) (f a x))
  (he:∀ag a,Inv xs.length a→F ag a xs.length=J a) {n:Nat} (d:xs.length<n) {a:A} (h0:Inv 0 a):zaC bot F n a 0=J (xs.foldl f a):=by
 have key:∀ (n k:Nat) (a:A),k≤xs.length→xs.length-k<n→Inv k a→zaC bot F n a k=J ((xs.drop k).foldl f a):=by
  intro n
  induction n with
  |zero=>intro k a _ h;omega
  |succ n b=>
   intro k a hk d hi
   rw[fX]
   by_cases h:k<xs.length
   ·have hx:xs[k]?=some xs[k]:=aO h
    rw[c _ k _ a hx hi,bB h,bn]
    exact b (k+1) _ (by omega) (by omega) (e k _ a hx hi)
   ·have:k=xs.length:=by omega
    subst this
    rw[he _ a hi,List.drop_length];rfl
 have:=key n 0 a (cm _) (by omega) h0
 simpa using this
end
theorem Be {α β:Type} (g:α→β):∀ (xs:List α) (a:List β),xs.foldl (fun a x=>a++[g x]) a=a++xs.map g
 |[],a=>by simp
 |x::xs,a=>by rw[bn,Be g xs];simp
theorem Es:∀ (n:Nat) (ts:List cN) (i:Nat),(pL i ts).take n=pL i (ts.take n)
 |0,ts,i=>rfl
 |n+1,[],i=>rfl
 |n+1,t::ts,i=>by rw[pL,ea,ea,pL,Es n ts]
theorem JQ {α:Type} (l:List α) (n:Nat):dM l 0 (n:Int)=l.take n:=by unfold dM;simp
theorem Ss {α:Type} (l:List α) (n:Nat):l.take (min l.length n)=l.take n:=by
 rcases Nat.le_total l.length n with h|h
 ·rw[Nat.min_eq_left h,mr,dX h]
 ·rw[Nat.min_eq_right h]
def okB (x:Tk):Bool:=!decide (x.1<0)
theorem Su (t:cN):okB (tkT t)=!t.broken:=by
 unfold okB tkT
 cases t.broken with
 |true=>rfl
 |false=>
  have:¬(((t.r:Int),(⟨t.bs.toArray⟩:ae)).1<0):=by show ¬((t.r:Int)<0);omega
  rw[ap (by simp),aj this]
def Bg (b:Int) (k:Nat) (p:List ae):Option (Nat×List ae)→Prop
 |none=>b=0∧k=0∧p=[]
 |some (m,xs)=>b=(m:Int)∧0<m∧p=xs
theorem Sv (o:cw) (D:List cT) (E:Int→Nat→List ae→Option (Int×List ae)) (i:Nat) (x:List cN) (P:x.length≤8) (hc:dM D 0 (min (D.length:Int) 8)=pL i x) (I:∀t∈x,jC t) :
  ∀ (n:Nat) (B A:List cN) (b:Int) (k:Nat) (p:List ae) (f:ae) (r:Option (Nat×List ae)),x=A++B→B.length<n→Bg b k p r→f.size≤4*A.length →
   ∃w m l,Bg w m l (((B.map tkT).takeWhile okB).foldl (pd (dw o)) (f,A.length,r)).2.2∧zaC (fun _ _ _ _ _=>none) (zcR o D E) n b f k p (A.length:Int)=E w m l:=by
 intro n
 induction n with
 |zero=>intro B A b k p f r _ h;omega
 |succ n N=>
  intro B A b k p f r y O hr hf
  rw[fX]
  generalize L:zaC (fun _ _ _ _ _=>none) (zcR o D E) n=ag
  unfold zcR
  rw[hc]
  have e:(pL i x).length=A.length+B.length:=by rw[mJ,y,aa]
  cases B with
  |nil=>
   refine⟨b,k,p,hr,bM (aj (by rw[e];simp)) rfl⟩
  |cons t B=>
   have g:x[A.length]?=some t:=by rw[y];simp
   have hA:A.length<8:=by rw[y,aa,ab] at P;omega
   have j:=I t (by rw[y];simp)
   have M:x=(A++[t])++B:=by rw[y,aB];rfl
   have q:(A++[t]).length=A.length+1:=by simp
   have u:(A.length:Int)+1=((A++[t]).length:Int):=by rw[q];push_cast;rfl
   rw[av,aV,Su]
   cases hb:t.broken with
   |true=>
    refine⟨b,k,p,hr,bQ (au (by rw[e];simp;omega)) (cA (bf (gw (qL _ _ _ _ g)) (bQ hb rfl)))⟩
   |false=>
    simp only[Bool.not_false,if_true,bn]
    have Q:=mh (cr (t.r:Int))
    have hx:(tkT t).1=(t.r:Int):=by unfold tkT;rw[hb];rfl
    have F:pd (dw o) (f,A.length,r) (tkT t)=(f++ac (cr (t.r:Int)),A.length+1,if (zbO (f++ac (cr (t.r:Int))) o.place).isSome then some (A.length+1,[f++ac (cr (t.r:Int))]) else match zbO (f++ac (cr (t.r:Int))) o.fors with | some xs=>some (A.length+1,xs) | none=>r):=by
     unfold pd;rw[hx];rfl
    rw[F]
    have K:(f++ac (cr (t.r:Int))).size≤4*(A++[t]).length:=by rw[aJ,q];omega
    have J:B.length<n:=by rw[ab] at O;omega
    have v:∀ (w:Int) (m:Nat) (l:List ae) (C:Option (Nat×List ae)),Bg w m l C→∃d c a,Bg d c a (((B.map tkT).takeWhile okB).foldl (pd (dw o)) (f++ac (cr (t.r:Int)),A.length+1,C)).2.2 ∧
      (aU (cp ((A.length:Int)+1))<|ag w (f++ac (cr (t.r:Int))) m l ((A.length:Int)+1))=E d c a:=by
     intro w m l C G
     obtain⟨d,c,a,h1,h2⟩:=N B (A++[t]) w m l _ C M J G K
     rw[q] at h1
     rw[←u,L] at h2
     exact⟨d,c,a,h1,gO h2⟩
    have z:cp ((A.length:Int)+1):=⟨by omega,by omega⟩
    cases hp:(zbO (f++ac (cr (t.r:Int))) o.place).isSome with
    |true=>
     obtain⟨d,c,a,h1,h2⟩:=v ((A.length:Int)+1) 1 [f++ac (cr (t.r:Int))] (some (A.length+1,[f++ac (cr (t.r:Int))])) ⟨by push_cast;rfl,by omega,rfl⟩
     refine⟨d,c,a,h1,bQ (au (by rw[e];simp;omega)) (cA (bf (gw (qL _ _ _ _ g)) (bM hb (zdG (nt j) (zdG (by show f.size+(ac (cr (t.r:Int))).size≤_;omega) (bQ hp (zdG z h2)))))))⟩
    |false=>
     simp only[bg,if_false]
     cases H:zbO (f++ac (cr (t.r:Int))) o.fors with
     |some xs=>
      obtain⟨d,c,a,h1,h2⟩:=v ((A.length:Int)+1) 2 xs (some (A.length+1,xs)) ⟨by push_cast;rfl,by omega,rfl⟩
      refine⟨d,c,a,h1,bQ (au (by rw[e];simp;omega)) (cA (bf (gw (qL _ _ _ _ g)) (bM hb (zdG (nt j) (zdG (by show f.size+(ac (cr (t.r:Int))).size≤_;omega) (bM hp (bQ (by show (zbO (f++ac (cr (t.r:Int))) o.fors).isSome=true;rw[H];rfl) (zdG z (bf H h2)))))))))⟩
     |none=>
      obtain⟨d,c,a,h1,h2⟩:=v b k p r hr
      refine⟨d,c,a,h1,bQ (au (by rw[e];simp;omega)) (cA (bf (gw (qL _ _ _ _ g)) (bM hb (zdG (nt j) (zdG (by show f.size+(ac (cr (t.r:Int))).size≤_;omega) (bM hp (bM (by show (zbO (f++ac (cr (t.r:Int))) o.fors).isSome=false;rw[H];rfl) h2)))))))⟩
theorem y0 (f:bc×List bc→ae):∀ {l:List (bc×List bc)},(∀c∈l,(f c).size≤4*(mg c).length)→(J f l).size≤4*(l.flatMap mg).length
 |[],_=>cm _
 |c::l,h=>by
  have:=y0 f (l:=l) fun d hd=>h d (ak _ hd)
  have h1:=h c (aq ..)
  rw[iN,aJ,aK,aa];omega
theorem Sw (s:ae):((kq s).flatMap mg).length≤3*s.size:=by
 have h1:=tG (apL (fQ s))
 have h2:=uC (fQ s)
 have h3:=p6 s
 have a:(fQ s).length=(eA s.data.toList).length:=by unfold fQ;rw[ar]
 show (lD (apL (fQ s))).length≤_
 omega
theorem Bh (c:bc×List bc):(mg c).length=1+c.2.length:=by
 unfold mg;rw[ab,qG];omega
theorem sJ (s:ae) (d:s.size≤65536):(iH s).size≤12*s.size∧(fY s).size≤12*s.size∧(I2 s).size≤12*s.size∧(zzN s).size≤12*s.size:=by
 obtain⟨g,hc⟩:=tF d
 have f:=Sw s
 refine⟨?_,?_,?_,?_⟩
 ·have:=y0 oS (l:=kq s) (fun c a=>by have:=IU (hc c a).1;have:=Bh c;show (mH c.1).Text.size≤_;omega)
  unfold iH;omega
 ·have:=y0 pB (l:=kq s) (fun c a=>by
   obtain⟨h1,h2,_,e⟩:=hc c a
   have:=DS (fun x:bc=>x.Text) 4 (l:=mg c) (fun x hx=>by
    unfold mg at hx
    rcases aY.1 hx with rfl|hx
    ·exact tH h1
    ·have b:x∈c.2:=by
      unfold loI hiI at hx
      rw[bH,co,co] at hx
      rcases hx with hx|hx<;>exact hx.1
     exact tH (h2 x b).2)
   unfold pB;omega)
  unfold fY;omega
 ·have:=y0 (fun c:bc×List bc=>c.1.Text) (l:=kq s) (fun c a=>by have:=tH (hc c a).1;have:=Bh c;show c.1.Text.size≤_;omega)
  unfold I2;omega
 ·have:=y0 nP (l:=kq s) (fun c a=>by
   obtain⟨h1,h2,_,e⟩:=hc c a
   have h:=yI c.2
   have h5:=qG c.2
   have i:=Bh c
   rw[aa] at h5
   unfold nP
   split
   ·have:=D3 c.1.Rune ((loI c.2).map (·.Rune)) ((hiI c.2).map (·.Rune)) (by simp;omega) (by simp;omega)
    simp only[ar] at this;omega
   ·have:=tH h1;omega)
  unfold zzN;omega
theorem Sx (r:ae) (hr:r.size≤1000) (J:List ae→Option (Int×List ae)):zaC (fun _ _=>none) (zcu J r) zbC [] 0=J ((eH r).map ac):=by
 have b:=p6 r
 have:=JP (xs:=eA r.data.toList) (F:=zcu J r) (bot:=fun _ _=>none) (f:=fun a (p:Pc)=>a++[ac (p.r:Int)]) (J:=J) (fun k a=>a.length=k) (fun ag k x a hx hi=>by
   have hk:=(az.1 hx).1
   unfold zcu
   exact bQ (au hk) (bf hx (gO rfl))) (fun k x a _ hi=>by simp[hi]) (fun ag a _=>by unfold zcu;exact fP rfl) (n:=zbC) (kF (by omega)) (a:=[]) rfl
 refine this.trans ?_
 have e:(eA r.data.toList).map (fun p=>ac (p.r:Int))=(eH r).map ac:=by
  unfold eH
  rw[bY]
  exact dt fun p _=>by rw[Function.comp_apply]
 rw[Be,aW,e]
theorem Sy (o:cw) (i:Nat) (t:cN) (ts:List cN) (hb:t.broken=false) (d:∀x∈t::ts,jC x) (l:(t::ts).length≤1000000000) :
  yU o (pL i (t::ts))=some (((kv (dw o) (tkT t) (ts.map tkT)).1:Int),(kv (dw o) (tkT t) (ts.map tkT)).2):=by
 unfold yU
 have e:min ((pL i (t::ts)).length:Int) 8=((min (pL i (t::ts)).length 8:Nat):Int):=by omega
 have g:dM (pL i (t::ts)) 0 (min ((pL i (t::ts)).length:Int) 8)=pL i ((t::ts).take 8):=by rw[e,JQ,Ss,Es]
 refine cA (zdG ⟨fg _,by omega,by omega⟩ ?_)
 have c:∀x∈(t::ts).take 8,jC x:=fun x hx=>d x (qk hx)
 have f:((t::ts).take 8).length≤8:=List.length_take_le _ _
 obtain⟨m,k,h,h1,h2⟩:=Sv o (pL i (t::ts)) _ i ((t::ts).take 8) f g c zbC ((t::ts).take 8) [] 0 0 [] ⟨#[]⟩ none rfl (by unfold zbC;omega) ⟨rfl,rfl,rfl⟩ (by decide)
 refine h2.trans ?_
 have b:(((((t::ts).take 8).map tkT).takeWhile okB).foldl (pd (dw o)) ((⟨#[]⟩:ae),([]:List cN).length,none)).2.2=tK (dw o) (tkT t::ts.map tkT):=by
  unfold tK uN
  rw[List.map_take];rfl
 rw[b] at h1
 unfold kv
 cases hB:tK (dw o) (tkT t::ts.map tkT) with
 |some j=>
  rw[hB] at h1
  obtain⟨rfl,h0,rfl⟩:=h1
  exact eW rfl
 |none=>
  rw[hB] at h1
  obtain⟨rfl,rfl,rfl⟩:=h1
  refine bM (by decide) (cA (zdG rfl (bf (a:=pT i t) rfl (zdG (nt (d t (aq ..))) ?_))))
  refine bf (Sr (cr (t.r:Int))) ?_
  have hx:(tkT t).1=(t.r:Int):=by unfold tkT;rw[hb];rfl
  rw[Sx _ (by have h2:=mh (cr (t.r:Int));have h3:=(sJ (ac (cr (t.r:Int))) (by omega)).1;omega),hx,hO]
  unfold rA
  generalize (eH (iH (ac (cr (t.r:Int))))).map ac=X
  rfl
theorem JR {r:Int} (h:cW r=true):∃b,cW b=true∧zbO b tabS=none∧rA r=(eH (ku (cr b))).map ac:=by
 have hL:cW (cr r)=true:=by
  have h1:=mF r h
  have key:((eV 1120).all fun n=>!cW (n:Int)||cW (cr (n:Int)))=true:=by decide +kernel
  have:=bd.1 key r.toNat (kz.2 (by omega))
  rw[show ((r.toNat:Nat):Int)=r by omega,h] at this
  simpa using this
 obtain⟨b,a,hp,hb,c,hm,_⟩:=tC hL
 refine⟨b,hb,c,?_⟩
 unfold rA
 have e:ac (cr r)=iL [cr r]:=by rw[zip,iN,pA,aX]
 rw[e,Rc (by intro x hx;rw[bl.1 hx];exact tJ hL),aK,List.flatMap_nil,aE,hp,av,wu (by exact hb)]
 have h1:(a.map ji).takeWhile isM=a.map ji:=Ee (fun x hx=>by obtain⟨y,hy,rfl⟩:=aS.1 hx;exact hm y hy)
 have h2:(a.map ji).dropWhile isM=[]:=Ef (fun x hx=>by obtain⟨y,hy,rfl⟩:=aS.1 hx;exact hm y hy)
 rw[h1,h2,DG,iN,pA,aX,JA (by exact hb)]
 rfl
theorem Sz {r:Int} (h:cW r=true):rA r≠[]∧(rA r).length≤4:=by
 obtain⟨b,hb,a,e⟩:=JR h
 rw[e]
 have h1:=(Jr hb).2.1
 have h2:=DV (cr b)
 have h3:=p6 (ku (cr b))
 refine⟨by simpa using h1,?_⟩
 rw[ar]
 unfold eH
 rw[ar];omega
def tM (o:lP):Prop:=∀u xs,o.f u=some xs→xs≠[]∧xs.length≤4
theorem JS (o:lP) (c:tM o):∀ (l:List Tk) (a:ae×Nat×Option (Nat×List ae)),(∀m xs,a.2.2=some (m,xs)→1≤m∧m≤a.2.1∧xs≠[]∧xs.length≤4) →
  (l.foldl (pd o) a).2.1=a.2.1+l.length∧∀m xs,(l.foldl (pd o) a).2.2=some (m,xs)→1≤m∧m≤a.2.1+l.length∧xs≠[]∧xs.length≤4
 |[],a,h=>⟨rfl,h⟩
 |x::l,a,h=>by
  rw[bn,ab]
  have b:(pd o a x).2.1=a.2.1+1:=rfl
  obtain⟨h1,h2⟩:=JS o c l (pd o a x) (by
   intro m xs hm
   rw[b]
   unfold pd at hm
   simp only at hm
   split at hm
   ·injection hm with hm;injection hm with e1 e2;subst e1;subst e2;exact⟨by omega,by omega,by simp,by simp⟩
   ·split at hm
    ·rename_i ys hy
     injection hm with hm;injection hm with e1 e2;subst e1;subst e2
     have:=c _ _ hy
     exact⟨by omega,by omega,this.1,this.2⟩
    ·have:=h m xs hm
     exact⟨this.1,by omega,this.2.2⟩)
  rw[b] at h1 h2
  exact⟨by omega,fun m xs hm=>by have:=h2 m xs hm;exact⟨this.1,by omega,this.2.2⟩⟩
theorem Et (o:lP) (b:tM o) (x:Tk) (l:List Tk) (hx:cW x.1=true):1≤(kv o x l).1∧(kv o x l).1≤(x::l).length∧(kv o x l).2≠[]∧(kv o x l).2.length≤4:=by
 unfold kv
 cases hb:tK o (x::l) with
 |none=>
  have:=Sz hx
  rw[hO]
  generalize rA x.1=X at this
  exact⟨bi 1,by rw[ab];omega,this.1,this.2⟩
 |some a=>
  obtain⟨m,xs⟩:=a
  unfold tK at hb
  have:=(JS o b (uN (x::l)) (ad,0,none) (by intro m xs h;cases h)).2 m xs hb
  have c:(uN (x::l)).length≤(x::l).length:=by
   unfold uN
   exact Nat.le_trans (cV _).length_le (List.take_sublist _ _).length_le
  have h0:=this.2.1
  rw[ei]
  have e0:((ad,0,none):ae×Nat×Option (Nat×List ae)).2.1=0:=rfl
  rw[e0] at h0
  exact⟨this.1,by omega,this.2.2.1,this.2.2.2⟩
theorem JT (m:ae):∀l:List El,(ow m l).length=l.length
 |[]=>rfl
 |[e]=>rfl
 |e::a::es=>by rw[ow,ab,JT m (a::es)];rfl
theorem Eu (m:ae):∀ (l:List El) (e:El),ow m (l++[e])=l++[⟨e.sort,e.place,e.digits,m,e.great⟩]
 |[],e=>rfl
 |[a],e=>rfl
 |a::b::l,e=>by
  have:=Eu m (b::l) e
  simp only[bq] at this ⊢
  rw[ow,this]
theorem SA {a:List El} (h:a≠[]) (cs:List (Option (List El))) (out:List El) (sp:Bool):l0 (some a::cs) out sp=l0 cs (out++(if sp&&!out.isEmpty then [kH] else [])++a) false:=by
 cases a with
 |nil=>exact absurd rfl h
 |cons e b=>rfl
def iZ (sp:Bool) (out:List El):List El:=if sp&&!out.isEmpty then [kH] else []
theorem y2 (sp:Bool) (out:List El):(iZ sp out).length≤1:=by unfold iZ;split<;>simp
theorem Ev (e:El) (sp:Bool) (out:List El) (h:out.length≤2000000000):uL e sp out=some (false,out++iZ sp out++[e]):=by
 unfold uL
 refine cA ?_
 have b:∀l:List El,l.length≤2000000001→(aU (l.length+1≤2147483648)<|some (false,l++[e]))=some (false,l++[e]):=fun l c=>gO rfl
 cases sp with
 |false=>
  refine bM rfl ((b out (by omega)).trans ?_)
  unfold iZ
  simp
 |true=>
  refine bQ rfl ?_
  cases out with
  |nil=>exact bM rfl (b [] (by simp))
  |cons a out=>
   refine bQ (au (by rw[ab];omega)) (gO ((b _ (by rw[aa];simp only[ab,aI] at h ⊢;omega)).trans ?_))
   rfl
theorem SB (d:List cT) (c:Int×List ae) (J:Int→Option (List El)) (b:List cN) (i:Nat) (hc:dM d 0 c.1=pL i b) (e:∀t∈b,jC t) (hb:b.length≤1000000000) (l:∀t∈b,great (tkT t).1=great (t.r:Int)) :
  zaC (fun _ _=>none) (zb7 d c J) zbC 0 0=J (qb (b.map tkT)):=by
 have hm:∀ (k:Nat) (x:cT),(pL i b)[k]?=some x→fl x.Rune∧k<b.length:=fun k x hx=>by
  have hk:=(az.1 hx).1
  rw[mJ] at hk
  have:=qL b i k b[k] (aO hk)
  rw[this] at hx
  injection hx with hx
  subst hx
  exact⟨nt (e _ (List.getElem_mem _)),hk⟩
 have:=qE (xs:=pL i b) (F:=zb7 d c J) (bot:=fun _ _=>none) (f:=fun (g:Int) (p:cT)=>if great p.Rune then 1 else g) (J:=J) (fun _ _=>True) (fun ag k x a hx hi=>by
   obtain⟨h1,h2⟩:=hm k x hx
   unfold zb7
   rw[hc]
   refine bQ (mE hx) (cA (bf (lX hx) (zdG h1 ?_)))
   cases hg:great x.Rune with
   |true=>exact bQ rfl (zdG (jt (by omega)) rfl)
   |false=>exact bM rfl (zdG (jt (by omega)) rfl)) (fun _ _ _ _ _=>trivial) (fun ag a _=>by unfold zb7;rw[hc];exact bM me rfl) (n:=zbC) (by rw[mJ];exact kF (by omega)) (a:=0) trivial
 refine this.trans (aH J ?_)
 clear this hm
 have key:∀ (b:List cN) (i:Nat) (g:Int),(∀t∈b,great (tkT t).1=great (t.r:Int))→(pL i b).foldl (fun (g:Int) (p:cT)=>if great p.Rune then 1 else g) g=if (b.map tkT).any (fun x=>great x.1) then 1 else g:=by
  intro b
  induction b with
  |nil=>intro i g _;rfl
  |cons t b j=>
   intro i g h
   rw[pL,bn,j _ _ (fun x hx=>h x (ak _ hx)),av,jb,h t (aq ..)]
   show (if _ then (1:Int) else if great (t.r:Int) then 1 else g)=_
   cases great (t.r:Int)<;>cases (b.map tkT).any (fun x=>great x.1)<;>rfl
 exact key b i 0 l
theorem SC {t:cN} (h:iE (tkT t)=true):(tkT t).1=(t.r:Int)∧t.broken=false:=by
 unfold iE tkT at h
 unfold tkT
 cases hb:t.broken with
 |true=>rw[hb,ax rfl] at h;exact absurd h (show ¬eE (-1)=true by decide)
 |false=>exact⟨rfl,rfl⟩
theorem SD (i:Nat) (e:List cN) (J:Int→ae→Option (List El)) (j:∀t∈e,jC t) (q:e.length≤1000000000):∀ (n:Nat) (B A:List cN) (m:ae),e=A++B→B.length<n→m.size≤4*A.length →
  zaC (fun _ _=>none) (zcm (pL i e) J) n (A.length:Int) m=J ((A.length:Int)+(((B.map tkT).takeWhile iE).length:Nat)) (m++lY ((B.map tkT).takeWhile iE)):=by
 intro n
 induction n with
 |zero=>intro B A m _ h;omega
 |succ n l=>
  intro B A m g p hm
  rw[fX]
  generalize k:zaC (fun _ _=>none) (zcm (pL i e) J) n=ag
  unfold zcm
  have c:(pL i e).length=A.length+B.length:=by rw[mJ,g,aa]
  cases B with
  |nil=>
   refine bM (aj (by rw[c];simp)) ?_
   show J _ m=J _ (m++ad)
   rw[aX];simp
  |cons t B=>
   have d:e[A.length]?=some t:=by rw[g];simp
   have f:=j t (by rw[g];simp)
   have hA:A.length≤1000000000:=by rw[g,aa] at q;omega
   refine bQ (au (by rw[c];simp;omega)) (bf (gw (qL _ _ _ _ d)) (bf (a:=iE (tkT t)) ?_ ?_))
   ·unfold uK
    refine zdG (nt f) ?_
    show some ((fq t.broken (t.r:Int):Int)==2)=_
    rw[rC,yV]
   ·rw[av,aV]
    cases hk:iE (tkT t) with
    |false=>
     refine bM rfl ?_
     show J _ m=J _ (m++ad)
     rw[aX];simp
    |true=>
     have u:=mh (t.r:Int)
     refine bQ rfl (bf (gw (qL _ _ _ _ d)) (zdG (by show m.size+(ac (t.r:Int)).size≤_;omega) (gO ?_)))
     have:=l B (A++[t]) (m++ac (t.r:Int)) (by rw[g,aB];rfl) (by rw[ab] at p;omega) (by rw[aJ,aa];simp;omega)
     rw[k] at this
     have b:(A.length:Int)+1=((A++[t]).length:Int):=by simp
     rw[b]
     refine this.trans ?_
     simp only[if_true]
     unfold lY
     rw[iN,(SC hk).1,cu,ab,←b]
     congr 1
     push_cast;omega
theorem SE (o:cw) (b:Int×List ae) (g:Int) (J:List El→Bool→Option (List El)) (h:b.2.length≤4) (out:List El) (sp:Bool) (d:out.length≤1999999000) :
  zaC (fun _ _ _=>none) (zb6 o b g J) zbC out sp 0=if b.2=[] then J out sp else J (out++iZ sp out++b.2.map (ie (dw o) g)) false:=by
 have:=H0 (xs:=b.2) (F:=zb6 o b g J) (bot:=fun _ _ _=>none) (f:=fun (a:List El×Bool) u=>(a.1++iZ a.2 a.1++[ie (dw o) g u],false)) (J:=J) (fun k a=>a.1.length≤1999999000+2*k) (fun ag k x a hx hi=>by
   have hk:=n0 hx
   unfold zb6
   exact bQ (mE hx) (bf (lX hx) (bf (Ev _ a.2 a.1 (by omega)) (zdG (jt (by omega)) rfl)))) (fun k x a _ hi=>by
    have:=y2 a.2 a.1
    simp only[aa,ab,aI];omega) (fun ag a _=>by unfold zb6;exact bM me rfl) (n:=zbC) (kF (by omega)) (a:=(out,sp)) (by simpa using d)
 refine this.trans ?_
 have e:∀l:List El,iZ false l=[]:=fun _=>rfl
 have key:∀ (us:List ae) (l:List El),us.foldl (fun (a:List El×Bool) u=>(a.1++iZ a.2 a.1++[ie (dw o) g u],false)) (l,false)=(l++us.map (ie (dw o) g),false):=by
  intro us
  induction us with
  |nil=>intro l;simp
  |cons u us c=>intro l;rw[bn];simp only[e,aE];rw[c];simp
 cases hr:b.2 with
 |nil=>rw[ax rfl];rfl
 |cons u us=>
  rw[ap (by simp),bn,key]
  simp
theorem JU {t:cN} (h:0≤(tkT t).1):(tkT t).1=(t.r:Int)∧t.broken=false:=by
 unfold tkT at h ⊢
 cases hb:t.broken with
 |true=>rw[hb,ax rfl] at h;exact absurd h (by omega)
 |false=>exact⟨rfl,rfl⟩
theorem JV {t:cN} (a:jC t) (h:fy (tkT t)=true):t.bs.length=1:=by
 have h:=of_decide_eq_true h
 obtain⟨h1,h2⟩:=JU (t:=t) (by omega)
 rcases a with hv|hb
 ·obtain⟨_,b⟩:=hv
  rw[h1] at h
  rw[b,←xg]
  have key:((eV 58).all fun n=>decide ((ac (n:Int)).size=1))=true:=by decide +kernel
  exact of_decide_eq_true (bd.1 key t.r (kz.2 (by omega)))
 ·rw[hb] at h2;cases h2
theorem SF (i:Nat) (c:List cN) (J:Int→Option (List El)) (g:∀t∈c,jC t) (m:c.length≤1000000000):∀ (n:Nat) (B A:List cN),c=A++B→B.length<n →
  zaC (fun _=>none) (zcl (pL i c) J) n (A.length:Int)=J ((A.length:Int)+(((B.map tkT).takeWhile fy).length:Nat)):=by
 intro n
 induction n with
 |zero=>intro B A _ h;omega
 |succ n k=>
  intro B A f l
  rw[fX]
  generalize j:zaC (fun _=>none) (zcl (pL i c) J) n=ag
  unfold zcl
  have b:(pL i c).length=A.length+B.length:=by rw[mJ,f,aa]
  cases B with
  |nil=>
   refine bM (aj (by rw[b];simp)) ?_
   show J _=J _
   congr 1
  |cons t B=>
   have e:c[A.length]?=some t:=by rw[f];simp
   have d:=g t (by rw[f];simp)
   have hA:A.length≤1000000000:=by rw[f,aa] at m;omega
   refine bQ (au (by rw[b];simp;omega)) (bf (gw (qL _ _ _ _ e)) (zdG (nt d) ?_))
   have hk:∀i,fq (pT i t).Broken (pT i t).Rune=kT (tkT t):=fun _=>rC t
   rw[hk,uO,av,aV]
   cases hd:fy (tkT t) with
   |false=>
    refine bM rfl ?_
    congr 1
   |true=>
    refine bQ rfl (gO ?_)
    have:=k B (A++[t]) (by rw[f,aB];rfl) (by rw[ab] at l;omega)
    rw[j] at this
    have a:(A.length:Int)+1=((A++[t]).length:Int):=by simp
    rw[a]
    refine this.trans ?_
    simp only[if_true]
    rw[ab,←a]
    congr 1
    push_cast;omega
theorem SG (J:ae→Option (List El)):∀ (n:Nat) (d:ae),d.size<n→d.size≤1000000000→zaC (fun _=>none) (zck J) n d=J ⟨(sG d.data.toList).toArray⟩:=by
 intro n
 induction n with
 |zero=>intro d h;omega
 |succ n e=>
  intro d g hb
  rw[fX]
  generalize b:zaC (fun _=>none) (zck J) n=ag
  unfold zck
  cases hd:d.data.toList with
  |nil=>
   have h0:d.size=0:=by rw[gJ,hd];rfl
   refine fP ?_
   have:d=⟨([]:List UInt8).toArray⟩:=qM (by rw[hd])
   rw[this];rfl
  |cons c l=>
   have h0:d.size=l.length+1:=by rw[gJ,hd];rfl
   have hg:jz d 0=some (c.toNat:Int):=by
    unfold jz
    rw[ax (fg 0)]
    have:d.data[(0:Int).toNat]?=some c:=by
     rw[←jT,hd];rfl
    rw[this];rfl
   refine eW (bf hg ?_)
   unfold sG
   rw[cC]
   have hc:(((c.toNat:Int):Int)==48)=(c==48):=by
    rw[dL,beq_iff_eq,beq_iff_eq]
    constructor
    ·intro h;exact kA.1 (by show c.toNat=48;omega)
    ·intro h;subst h;rfl
   rw[hc]
   cases hz:(c==48) with
   |false=>
    refine bM rfl ?_
    simp only[bg,if_false]
    rw[←hd]
   |true=>
    refine bQ rfl (gO ?_)
    have a:(cL d 1 (d.size:Int)).data.toList=l:=by
     have:=rD d 1 d.size
     rw[hd,kQ,List.drop_zero,h0,Nat.add_sub_cancel,mr] at this
     rw[h0];exact this
    have f:(cL d 1 (d.size:Int)).size=l.length:=by rw[gJ,a]
    have:=e (cL d 1 (d.size:Int)) (by omega) (by omega)
    rw[b] at this
    rw[this,a]
    rfl
theorem y3 (x:Tk):(kT x=1↔dY x=true)∧(kT x=3↔fy x=true):=by
 constructor
 ·rw[←tL,beq_iff_eq]
 ·rw[←uO,beq_iff_eq]
theorem JW {t:cN} (h:dY (tkT t)=true):(tkT t).1=(t.r:Int)∧t.broken=false∧cW (t.r:Int)=true:=by
 have h':cW (tkT t).1=true:=h
 have:=mF _ h'
 obtain⟨h1,h2⟩:=JU (t:=t) (by omega)
 rw[h1] at h'
 exact⟨h1,h2,h'⟩
theorem SH (t:cN):great (tkT t).1=great (t.r:Int):=by
 unfold tkT
 cases hb:t.broken with
 |true=>
  rw[ax rfl]
  have:t.r=65533:=by unfold pN at hb;simp at hb;exact hb.1
  rw[this];show great (-1)=great ((65533:Nat):Int);decide
 |false=>rfl
theorem SI {S:ae} {A ts:List cN} {t:cN} (a:jC t) (h:S.data.toList=bJ (A++t::ts)):jz S ((bJ A).length:Int)=some (kG (tkT t).2):=by
 have b:=Az a
 cases hb:t.bs with
 |nil=>exact absurd hb b
 |cons c l=>
  unfold jz
  rw[ax (by omega),bN]
  have h1:S.data.toList[(bJ A).length]?=some c:=by
   rw[h,kp,ko,hb];simp
  have h2:S.data[(bJ A).length]?=some c:=by rw[←jT];exact h1
  rw[h2]
  unfold kG tkT
  rw[hb];rfl
theorem Ew {α:Type} (l:List α) (c:Nat):dM l (c:Int) (l.length:Int)=l.drop c:=by
 unfold dM
 rw[bN,bN,dX (by rw[aR];exact bi _)]
theorem SJ {x:Tk} (h:dY x=true):kT x=1:=(y3 x).1.2 h
set_option maxHeartbeats 1000000 in
theorem SK (o:cw) (ho:tM (dw o)) (r1:ae) (r2:Int) (S:ae) (hS:cL r1 r2 (r1.size:Int)=S) (b5:S.size≤1000000000) (J:List El→Option (List El)) :
  ∀ (n:Nat) (ts A:List cN) (out:List El) (sp:Bool) (m:Nat),S.data.toList=bJ (A++ts)→(∀t∈ts,jC t)→ts.length<n→ts.length≤m→out.length+6*ts.length≤1999999000 →
   zaC (fun _ _ _=>none) (zcn o J r1 r2) n out sp (pL (bJ A).length ts)=J (l0 (lZ (dw o) m (ts.map tkT)) out sp):=by
 intro n
 induction n with
 |zero=>intro ts A out sp m _ _ h;omega
 |succ n ih=>
  intro ts A out sp m hd e hn hm hb
  rw[fX]
  generalize a5:zaC (fun _ _ _=>none) (zcn o J r1 r2) n=ag
  unfold zcn
  rw[hS]
  cases ts with
  |nil=>
   refine bM (aj (by rw[mJ];simp)) ?_
   cases m<;>rfl
  |cons t ts=>
   obtain⟨m,rfl⟩:∃k,m=k+1:=⟨m-1,by rw[ab] at hm;omega⟩
   have ht:=e t (aq ..)
   have a3:(bJ A).length+(t.bs.length+(bJ ts).length)=S.size:=by rw[gJ,hd,kp,ko,aa,aa]
   have w:(t::ts).length≤1000000000:=by omega
   have r:∀ (c:Nat) (Q:Option (List El)) (d:List El) (v:Bool),1≤c→c≤(t::ts).length→kO (dw o) (tkT t) (ts.map tkT)=(c,Q)→(∀cs,l0 (Q::cs) out sp=l0 cs d v)→d.length≤out.length+5 →
     (aU (0≤(c:Int)∧(c:Int)≤((pL (bJ A).length (t::ts)).length:Int)∧(((pL (bJ A).length (t::ts)).length:Int):Int)≤((pL (bJ A).length (t::ts)).length:Int))<|ag d v (dM (pL (bJ A).length (t::ts)) (c:Int) ((pL (bJ A).length (t::ts)).length:Int))) =
      J (l0 (lZ (dw o) (m+1) ((t::ts).map tkT)) out sp):=by
    intro c Q d v h1 h2 h3 h4 h5
    refine zdG ⟨by omega,by rw[mJ];omega,fg _⟩ ?_
    rw[Ew,JG]
    have hA:(bJ A).length+(bJ ((t::ts).take c)).length=(bJ (A++(t::ts).take c)).length:=by rw[kp,aa]
    have L:((t::ts).drop c).length+c=(t::ts).length:=by rw[aR];omega
    have:=ih ((t::ts).drop c) (A++(t::ts).take c) d v m (by rw[hd,aB,bO]) (fun x hx=>e x (fV hx)) (by omega) (by omega) (by omega)
    rw[a5] at this
    rw[hA,this,av]
    show _=J (l0 ((kO (dw o) (tkT t) (ts.map tkT)).2::lZ (dw o) m ((tkT t::ts.map tkT).drop (kO (dw o) (tkT t) (ts.map tkT)).1)) out sp)
    rw[h3,h4,←av,jR]
   have hk:∀i,fq (pT i t).Broken (pT i t).Rune=kT (tkT t):=fun _=>rC t
   refine bQ (au (by rw[mJ,ab];omega)) (cA (bf (a:=pT (bJ A).length t) rfl (zdG (nt ht) ?_)))
   rw[hk,tL,uO]
   cases hl:dY (tkT t) with
   |true=>
    obtain⟨bb,G,T⟩:=JW hl
    have f:=Et (dw o) ho (tkT t) (ts.map tkT) hl
    have b:kO (dw o) (tkT t) (ts.map tkT)=((kv (dw o) (tkT t) (ts.map tkT)).1+(((tkT t::ts.map tkT).drop (kv (dw o) (tkT t) (ts.map tkT)).1).takeWhile iE).length,some (ow (lY (((tkT t::ts.map tkT).drop (kv (dw o) (tkT t) (ts.map tkT)).1).takeWhile iE)) ((kv (dw o) (tkT t) (ts.map tkT)).2.map (ie (dw o) (qb ((tkT t::ts.map tkT).take (kv (dw o) (tkT t) (ts.map tkT)).1)))))):=by
     unfold kO;rw[ax (SJ hl)]
    refine bQ rfl (bf (Sy o (bJ A).length t ts G e w) ?_)
    generalize hM:kv (dw o) (tkT t) (ts.map tkT)=M at f b ⊢
    rw[←av,←jR,←List.map_take] at b
    have bk:M.1≤(t::ts).length:=by have:=f.2.1;rw[ab,ar] at this;exact this
    refine cA (zdG ⟨fg _,by show (0:Int)≤(M.1:Int);omega,by rw[mJ];show (M.1:Int)≤_;omega⟩ ?_)
    refine (SB _ (((M.1:Nat):Int),M.2) _ ((t::ts).take M.1) (bJ A).length (by show dM _ 0 (M.1:Int)=_;rw[JQ,Es]) (fun x hx=>e x (qk hx)) (by rw[bw];omega) (fun x _=>SH x)).trans ?_
    refine cA ?_
    have Y:=fun Jm=>SD (bJ A).length (t::ts) Jm e w zbC ((t::ts).drop M.1) ((t::ts).take M.1) ⟨#[]⟩ (bO _ _).symm (by rw[aR];unfold zbC;omega) (by show 0≤_;omega)
    have a8:((t::ts).take M.1).length=M.1:=by rw[bw];omega
    simp only[a8] at Y
    refine (Y _).trans ?_
    rw[show (⟨#[]⟩:ae)=ad from rfl,c8]
    refine cA ?_
    refine (SE o (((M.1:Nat):Int),M.2) _ _ f.2.2.2 out sp (by omega)).trans ?_
    rw[ap f.2.2.1]
    generalize a2:(((t::ts).drop M.1).map tkT).takeWhile iE=ms at b ⊢
    generalize b1:qb (((t::ts).take M.1).map tkT)=gr at b ⊢
    obtain⟨us,u,U⟩:∃us u,M.2=us++[u]:=⟨M.2.dropLast,M.2.getLast f.2.2.1,(List.dropLast_concat_getLast f.2.2.1).symm⟩
    have E:M.2.map (ie (dw o) gr)=us.map (ie (dw o) gr)++[ie (dw o) gr u]:=by rw[U];simp
    have D:ow (lY ms) (M.2.map (ie (dw o) gr))=us.map (ie (dw o) gr)++[⟨3,((dw o).p u).getD 0,ad,lY ms,gr⟩]:=by rw[E,Eu];rfl
    have bh:us.length≤3:=by have:=f.2.2.2;rw[U,aa,ab,aI] at this;omega
    have ao:=y2 sp out
    generalize hP:out++iZ sp out++us.map (ie (dw o) gr)=P at *
    have b6:P.length≤out.length+4:=by rw[←hP];simp only[aa,ar];omega
    have hall:out++iZ sp out++M.2.map (ie (dw o) gr)=P++[ie (dw o) gr u]:=by rw[E,←aB,hP]
    rw[hall]
    have H:((P++[ie (dw o) gr u]).length:Int)-1=(P.length:Int):=by rw[aa,ab,aI];push_cast;omega
    rw[H]
    refine gO (bf (gw (show (P++[ie (dw o) gr u])[P.length]?=some (ie (dw o) gr u) by simp)) ?_)
    have V:(P++[ie (dw o) gr u]).set ((P.length:Int)).toNat (⟨(ie (dw o) gr u).sort,(ie (dw o) gr u).place,(ie (dw o) gr u).digits,lY ms,(ie (dw o) gr u).great⟩:El)=P++[⟨3,((dw o).p u).getD 0,ad,lY ms,gr⟩]:=by
     rw[bN,pG _ _ (bi _),mR];rfl
    have a9:ms.length+M.1≤(t::ts).length:=by
     rw[←a2]
     have:=(cV iE (l:=((t::ts).drop M.1).map tkT)).length_le
     rw[ar,aR] at this;omega
    have:=r (M.1+ms.length) (some (ow (lY ms) (M.2.map (ie (dw o) gr)))) (P++[⟨3,((dw o).p u).getD 0,ad,lY ms,gr⟩]) false (by omega) (by omega) b (fun cs=>by
     rw[SA (by rw[D];simp),D,←aB]
     show l0 cs (out++iZ sp out++us.map (ie (dw o) gr)++_) false=_
     rw[hP]) (by rw[aa,ab,aI];omega)
    rw[V]
    have g:((M.1:Nat):Int)+((ms.length:Nat):Int)=((M.1+ms.length:Nat):Int):=by push_cast;rfl
    rw[g]
    exact this
   |false=>
    refine bM rfl ?_
    have z:¬kT (tkT t)=1:=fun h=>by have:=(y3 (tkT t)).1.1 h;rw[hl] at this;cases this
    have F:=(y3 (tkT t)).2
    cases N:fy (tkT t) with
    |true=>
     have q:kT (tkT t)=3:=F.2 N
     have b:kO (dw o) (tkT t) (ts.map tkT)=(1+((ts.map tkT).takeWhile fy).length,some [⟨2,0,rB (tkT t::(ts.map tkT).takeWhile fy),ad,0⟩]):=by
      unfold kO;rw[ap z,ax q]
     refine bQ rfl (cA ?_)
     have L:=fun Jd=>SF (bJ A).length (t::ts) Jd e w zbC ts [t] rfl (by rw[ab] at w;unfold zbC;omega)
     have e1:(([t]:List cN).length:Int)=1:=rfl
     simp only[e1] at L
     refine (L _).trans ?_
     have a7:(ts.map tkT).takeWhile fy=(ts.takeWhile fun x=>fy (tkT x)).map tkT:=by rw[rR];rfl
     rw[a7,ar] at b ⊢
     generalize hW:(ts.takeWhile fun x=>fy (tkT x))=W at b ⊢
     have b4:W.length≤ts.length:=by rw[←hW];exact (cV _).length_le
     have a6:∀x∈t::W,x.bs.length=1:=by
      intro x hx
      rcases aY.1 hx with rfl|hx
      ·exact JV ht N
      ·have G:x∈ts:=by rw[←hW] at hx;exact (cV _).subset hx
       have T:fy (tkT x)=true:=by
        rw[←hW] at hx
        exact bd.1 (rP (p:=fun x=>fy (tkT x)) (l:=ts)) x hx
       exact JV (e x (ak _ G)) T
     have a4:∀l:List cN,(∀x∈l,x.bs.length=1)→(bJ l).length=l.length:=by
      intro l
      induction l with
      |nil=>intro _;rfl
      |cons x l a0=>intro h;rw[ko,aa,ab,h x (aq ..),a0 (fun y hy=>h y (ak _ hy))];omega
     have I:(bJ (t::W)).length=1+W.length:=by rw[a4 _ a6,ab];omega
     have C:t::ts=(t::W)++ts.dropWhile fun x=>fy (tkT x):=by rw[bq,←hW,dS]
     have aw:cL S ((bJ A).length:Int) (((bJ A).length+(1+W.length):Nat):Int)=im ((t::W).map tkT) :=
      yW (A:=A) (W:=t::W) (Z:=ts.dropWhile fun x=>fy (tkT x)) (by rw[hd,C]) rfl (by rw[I])
     have b0:(bJ A).length+(1+W.length)≤S.size:=by
      rw[gJ,hd,C,kp,kp,aa,aa,I];omega
     have hq:(pT (bJ A).length t).At+(1+((W.length:Nat):Int))=(((bJ A).length+(1+W.length):Nat):Int):=by
      show ((bJ A).length:Int)+(1+((W.length:Nat):Int))=_
      push_cast;omega
     refine cA ?_
     rw[hq]
     refine gO (zdG ⟨by show (0:Int)≤((bJ A).length:Int);omega,by show ((bJ A).length:Int)≤_;omega,by omega⟩ ?_)
     have O:cL S (pT (bJ A).length t).At (((bJ A).length+(1+W.length):Nat):Int)=im ((t::W).map tkT):=aw
     rw[O]
     have b2:(im ((t::W).map tkT)).size=1+W.length:=by rw[gJ,wN,I]
     refine (SG _ zbC (im ((t::W).map tkT)) (by unfold zbC;omega) (by omega)).trans ?_
     refine bf (Ev _ sp out (by omega)) ?_
     have ao:=y2 sp out
     have:=r (1+W.length) (some [⟨2,0,rB (tkT t::W.map tkT),ad,0⟩]) (out++iZ sp out++[⟨2,0,rB (tkT t::W.map tkT),ad,0⟩]) false (by omega) (by rw[ab];omega) b (fun cs=>rfl) (by simp only[aa,ab,aI];omega)
     have g:(1:Int)+((W.length:Nat):Int)=((1+W.length:Nat):Int):=by push_cast;rfl
     rw[g]
     exact this
    |false=>
     have q:¬kT (tkT t)=3:=fun h=>by have:=F.1 h;rw[N] at this;cases this
     refine bM rfl ?_
     have a1:∀K:Bool→Option (List El),cn (fun (j9:Bool→Option (List El))=>aM (((kT (tkT t)):Int)==5) (j9 (((kT (tkT t)):Int)==5)) (aM (((kT (tkT t)):Int)==4) (j9 (((kT (tkT t)):Int)==4)) (j9 (((kT (tkT t)):Int)==6)))) K=K (decide (kT (tkT t)=5∨kT (tkT t)=4∨kT (tkT t)=6)):=by
      intro K
      unfold cn
      by_cases h5:kT (tkT t)=5
      ·rw[h5];rfl
      ·by_cases h4:kT (tkT t)=4
       ·rw[h4];rfl
       ·rw[aA.2 h5,aA.2 h4]
        by_cases h6:kT (tkT t)=6
        ·rw[h6];rfl
        ·rw[aA.2 h6,aj (by simp[h5,h4,h6])];rfl
     refine (a1 _).trans ?_
     by_cases j:kT (tkT t)=5∨kT (tkT t)=4∨kT (tkT t)=6
     ·rw[au j]
      refine bQ rfl ?_
      exact r 1 none out true (bi 1) (by rw[ab];omega) (by unfold kO;rw[ap z,ap q,ax j]) (fun cs=>rfl) (by omega)
     ·rw[aj j]
      refine bM rfl ?_
      by_cases B:kT (tkT t)=11
      ·rw[beq_iff_eq.2 B]
       have b3:0≤kG (tkT t).2∧kG (tkT t).2≤255:=by unfold kG;have:=((tkT t).2.data.toList.headD 0).toNat_lt;omega
       refine bQ rfl (bf (SI ht hd) (gO (bf (Ev _ sp out (by omega)) ?_)))
       have ao:=y2 sp out
       exact r 1 (some [⟨4,kG (tkT t).2,ad,ad,0⟩]) (out++iZ sp out++[⟨4,kG (tkT t).2,ad,ad,0⟩]) false (bi 1) (by rw[ab];omega)
        (by unfold kO;rw[ap z,ap q,ap j,ax B]) (fun cs=>rfl) (by simp only[aa,ab,aI];omega)
      ·rw[aA.2 B]
       refine bM rfl ?_
       exact r 1 (some []) out sp (bi 1) (by rw[ab];omega) (by unfold kO;rw[ap z,ap q,ap j,ap B]) (fun cs=>rfl) (by omega)
theorem SL (s:ae) (f:s.size≤1000000000):yT s=some (pL 0 (dK s.data.toList)):=by
 unfold yT
 refine bf (a:=s) rfl (bf (a:=pL 0 (dK s.data.toList)) ?_ rfl)
 unfold Bb
 refine bf (a:=pL 0 (dK s.data.toList)) ?_ rfl
 unfold Ba
 refine cA (bf (yC s (by omega)) (cA ?_))
 rw[sI]
 have b:(pL 0 (dK s.data.toList)).length≤s.size:=by
  rw[mJ]
  have:=p6 s
  have e:(eA s.data.toList).length=(dK s.data.toList).length:=by rw[←mJ (dK s.data.toList) 0,←sI,ar]
  omega
 have key:∀ (l acc:List cT),acc.length+l.length≤1000000000→zdw (fun c=>(some c:Option (List cT))) zbm l acc=some (acc++l):=by
  intro l
  induction l with
  |nil=>intro acc _;rw[xc,aE]
  |cons x l d=>
   intro acc h
   rw[ab] at h
   rw[nI]
   unfold zbm
   refine gO ?_
   have:=d (acc++[x]) (by simp;omega)
   unfold zbm at this
   rw[this,aB];rfl
 have:=key (pL 0 (dK s.data.toList)) [] (by simp;omega)
 rw[aW] at this
 exact this
theorem JX (o:lP) (l:List Tk):qK o l≤l.length:=by
 unfold qK
 split
 ·unfold nr
  have h1:=aH fu (dS (p:=fun x=>!dY x) (l:=l))
  have h2:=aH fu (dS (p:=iS) (l:=l.dropWhile fun x=>!dY x))
  rw[aa] at h1 h2
  omega
 ·omega
theorem qc (s:ae):(dK s.data.toList).length≤s.size:=by
 have h3:=p6 s
 have e:(eA s.data.toList).length=(dK s.data.toList).length:=by rw[←mJ (dK s.data.toList) 0,←sI,ar]
 omega
theorem JY {s:ae} {X Y:List UInt8} (h:s.data.toList=X++Y):(cL s (X.length:Int) (s.size:Int)).data.toList=Y:=by
 rw[rD,h,gV,gJ,h,aa,fh,mr]
def sK (t:ae):Prop:=t.size≤65536∧(fY t).size≤65536
theorem SM {t:ae} (h:t.size≤5000):sK t:=⟨by omega,by have:=(sJ t (by omega)).2.1;omega⟩
theorem SN (o:cw) (g:tM (dw o)) (t:ae) (ht:sK t):uM o t=some (sH (dw o) (fR t)):=by
 obtain⟨h0,h1⟩:=ht
 unfold uM
 refine cA (bf (I4 t h0) (bf (Si o (fY t) (by omega)) ?_))
 have b:=JX (dw o) ((dK (fY t).data.toList).map tkT)
 generalize hp:qK (dw o) ((dK (fY t).data.toList).map tkT)=p at b ⊢
 have c:=Sf (dK (fY t).data.toList) p
 rw[pa,←gJ] at c
 refine zdG ⟨by omega,by omega,fg _⟩ ?_
 have d:(cL (fY t) ((bJ ((dK (fY t).data.toList).take p)).length:Int) ((fY t).size:Int)).data.toList=bJ ((dK (fY t).data.toList).drop p):=by
  exact JY (by rw[←kp,bO,pa])
 have hg:dK (bJ ((dK (fY t).data.toList).drop p))=(dK (fY t).data.toList).drop p:=xH (a:=(dK (fY t).data.toList).take p) (by rw[bO];exact C6 _)
 generalize e:cL (fY t) ((bJ ((dK (fY t).data.toList).take p)).length:Int) ((fY t).size:Int)=SS at d ⊢
 have h:SS.size≤65536:=by rw[gJ,d];omega
 refine bf (SL SS (by omega)) ?_
 rw[d,hg]
 have f:=qc (fY t)
 have:=SK o g (fY t) ((bJ ((dK (fY t).data.toList).take p)).length:Int) SS e (by omega) some zbC ((dK (fY t).data.toList).drop p) [] [] false (((dK (fY t).data.toList).map tkT).length) (by rw[aW,d]) (fun x hx=>nX _ x (fV hx)) (by rw[aR];unfold zbC;omega) (by rw[aR,ar];omega) (by rw[aR];simp only[aI];omega)
 refine this.trans ?_
 unfold sH fR mI
 rw[hp,jR]
def Bi (b:ae) (a:ae):Option Bool := aM (decide (((a.size:Int):Int)≤(b.size:Int))) (aU (0≤(0:Int)∧(0:Int)≤(a.size:Int)∧((a.size:Int):Int)≤(b.size:Int)) <|some (decide (cL b 0 (a.size:Int)=a))) (some false)
theorem SO {c:ae} {a:ae} {r:Bool} (h:Bi c a=some r):dB prog 174 [.string c,.string a] (.bool r):=by
 unfold Bi at h
 refine dB.intro func174 rfl ntmps174 (by simp) (fun w0 K=>zyG (zyR 1 rfl (zyH (zyR 1 rfl (zcX rfl dc rfl al (zyR 1 rfl (zcX rfl dc rfl al (zaR rfl zbF (zyR 1 rfl (zyS (s:=10) rfl h (fun h=>?_) (fun h=>?_)))))))))))
 ·refine zyR 2 rfl (zcX rfl dc rfl al (zbt h fun b h=>ia rfl dc rfl rfl rfl (ka (i:=0) (j:=(a.size:Int)) al (.inl ⟨rfl,rfl⟩) (.inr rfl) b) (zyR 1 rfl (zaR rfl zdn (zyR 2 rfl (zyN (zaz ?_)))))))
  cases h
  exact cZ 4 results174
 refine zyR 8 rfl (zyN (zaz ?_))
 cases h
 exact cZ 4 results174
def y4 (b:ae) (a:ae):Option Bool := aT (Bi b a) fun (r1:Bool)=>some r1
theorem SP {b:ae} {a:ae} {r:Bool} (h:y4 b a=some r):dB prog 166 [.string b,.string a] (.bool r):=by
 unfold y4 at h
 refine dB.intro func166 rfl ntmps166 (by simp) (fun w0 K=>zyG (zyR 1 rfl (zyH (zyR 2 rfl (zbl h fun r1 c h=>zaI (v:=.bool r1) (vs:=[.string b,.string a]) rfl dc rfl rfl rfl Oq (SO c) (zyR 1 rfl (zyN (zaz ?_))))))))
 cases h
 exact cZ 4 results166
def zd2 (c0:ae) (c:Nat→Option (List cT)) (a:Nat):Option (List cT) := aM (decide (a<(eA c0.data.toList).length)) (aT ((eA c0.data.toList)[a]?) fun (p1:Pc)=>cn (fun (b:Int→Bool→Option (List cT))=>aM (((p1.r:Int):Int)==65533) (aU (0≤((p1.i:Int):Int)∧((p1.i:Int):Int)≤(c0.size:Int)∧((c0.size:Int):Int)≤(c0.size:Int)) <|aT (y4 (cL c0 (p1.i:Int) (c0.size:Int)) (⟨#[239,191,189]⟩:ae)) fun (r1:Bool)=>aM (!r1) (b 1 true) (b ((ac (p1.r:Int)).size:Int) false)) (b ((ac (p1.r:Int)).size:Int) false)) (fun (e:Int) (d:Bool)=>ti (⟨(p1.i:Int),e,(p1.r:Int),d⟩:cT) <|c (a+1))) (some [])
def y5 (c0:ae):Option (List cT) := zaC (fun _=>none) (zd2 c0) zbC 0
theorem SQ {c:Nat} {c0:ae} {xs:(List cT)} (h:y5 c0=some xs):rX prog 165 [zP c] (fun q:cT=>[.agg #[zI q.At,zI q.Width,.int .i32 q.Rune,.bool q.Broken]]) xs [(c,.cells #[.string c0] 9 (0,0))]:=by
 unfold y5 at h
 refine rX.intro func165 rfl ntmps165 (by simp) (fun l w0 K I X z hy=>?_)
 obtain⟨r0,y⟩:∃r,xs=[]++r:=⟨xs,rfl⟩
 have E:xs=r0:=y
 rw[E] at h
 refine zyG (zG (i:=0) z eb rfl dc rfl rfl rfl (tu al rfl dc rfl (fun b1=>zyN (zau (eO (β:=Nat×Nat×(List cT)×(List cT)) (fun b=>zaC (fun _=>none) (zd2 c0) b.1 b.2.1=some b.2.2.2∧xs=b.2.2.1++b.2.2.2) (fun b=>[]) (fun b=>[(0,.func (.yield l) #[] #[]),(1,zP c),(7,zP b1)]) (fun b=>[I b.2.2.1,obj b1 (.stringIter c0 (lO c0 b.2.1))]) (fun b=>b.1) (zbC,0,([]:List cT),r0) ⟨h,y⟩ rfl (bE rfl) (cj 2) ?_)))))
 rintro⟨B,n,a,t⟩ ⟨h,x⟩
 cases B with
 |zero=>exact eG h
 |succ B=>
  obtain⟨M,f⟩:∃ag,ag=zaC (fun _=>none) (zd2 c0) B:=⟨_,rfl⟩
  have h:zd2 c0 M n=some t:=by rw[f];exact h
  unfold zd2 at h
  refine zyG (qW (b:=decide (n<(eA c0.data.toList).length)) (fun e=>?_) (fun e=>?_))
  ·have h:=nG e h
   refine zbl h fun p1 G h=>tv (k:=1) (m:=n) (p:=p1) rfl dc rfl rfl G (eT rfl dc rfl rfl (zyN (zaL (gM rfl (bA (ct (zau (zbp h fun N H h=>zaM (β:=Int×Bool×Nat) 2 rfl (fun b=>N b.1 b.2.1=some t) (fun b=>[]) (fun b=>[(0,.func (.yield l) #[] #[]),(1,zP c),(5,zP b.2.2),(7,zP b1)]) (fun b=>[I a,cells b.2.2 [zI (p1.i:Int),zI b.1,.int .i32 (p1.r:Int),.bool b.2.1] 132,obj b1 (.stringIter c0 (lO c0 (n+1)))]) (fun cut=>zyG (eT rfl dc rfl rfl (eT rfl dc rfl rfl (zyR 2 rfl (zyH (zyR 2 rfl (zdi rfl dc rfl (lJ aZ al) (zcX rfl dc rfl al (zyR 1 rfl (zbb (v:=.agg #[zI (p1.i:Int),zI ((ac (p1.r:Int)).size:Int),.int .i32 (p1.r:Int),.bool false]) (ps:=[(0,.tmp 12),(1,.tmp 15),(2,.tmp 16)]) rfl dc rfl (fun _=>by kernel_rfl) (zbk zjz rfl dc (fun L=>eK (k:=2) (vs:=[zI (p1.i:Int),zI ((ac (p1.r:Int)).size:Int),.int .i32 (p1.r:Int),.bool false]) (l':=[zI (p1.i:Int),zI ((ac (p1.r:Int)).size:Int),.int .i32 (p1.r:Int),.bool false]) kC rfl rfl rfl rfl rfl (show _≤_ by simp) rfl rfl (zyN (cut (zyG (zyR 1 rfl (zaR rfl zbe (zyR 1 rfl (zyS (s:=20) rfl h (fun h=>zG (i:=0) z eb rfl dc rfl rfl rfl (zyR 1 rfl (zbt h fun J h=>ia rfl dc rfl rfl rfl (ka (i:=(p1.i:Int)) (j:=(c0.size:Int)) al (.inr rfl) (.inl ⟨rfl,rfl⟩) J) (zbl h fun r1 F h=>zaI (v:=.bool r1) (vs:=[.string (cL c0 (p1.i:Int) (c0.size:Int)),.string (⟨#[239,191,189]⟩:ae)]) rfl dc rfl rfl rfl Oo (SP F) (jU rfl dc rfl jV (zyR 1 rfl (zyN (zyB rfl h (fun h=>bV (zab qx rfl dc rfl (show _=1 from rfl) (ef (k:=2) (l':=[zI (p1.i:Int),zI 1,.int .i32 (p1.r:Int),.bool false]) jJ rfl rfl rfl rfl rfl (fun _ _=>rfl) rfl (zab Ah rfl dc rfl (show _=3 from rfl) (ef (k:=2) (l':=[zI (p1.i:Int),zI 1,.int .i32 (p1.r:Int),.bool true]) jX rfl rfl rfl rfl rfl (fun _ _=>rfl) rfl (bG (cH (1,true,L) h rfl (bE rfl) (cg [0,2,1] kr rfl)))))))) (fun h=>bA (cH (((ac (p1.r:Int)).size:Int),false,L) h rfl (bE rfl) (cg [0,2,1] kr rfl))))))))))) (fun h=>zyR 6 rfl (zyN (eh rfl (bA (cH (((ac (p1.r:Int)).size:Int),false,L) h rfl (bE rfl) (cg [0,2,1] kr rfl))))))))))))))))))))))))) ?_))))))))
   rintro⟨w,u,O⟩ h
   rw[H] at h
   refine zyG (zyR 1 rfl (zbT (k:=1) (cs:=[zI (p1.i:Int),zI w,.int .i32 (p1.r:Int),.bool u]) lB rfl dc rfl rfl rfl rfl ?_))
   obtain⟨d,D,h⟩:=vu h
   have g:xs=a++(⟨(p1.i:Int),w,(p1.r:Int),u⟩:cT)::d:=by rw[x,D]
   refine uY hy rfl dc rfl g rfl (k:=0) rfl ?_ ?_
   ·have C:xs=(a++[(⟨(p1.i:Int),w,(p1.r:Int),u⟩:cT)])++d:=by rw[g];simp
    refine jU rfl dc rfl jV (zyN (eh rfl (bA (ca ?_))))
    subst f
    exact ni (B,n+1,a++[(⟨(p1.i:Int),w,(p1.r:Int),u⟩:cT)],d) ⟨h,C⟩ (cq _) rfl (bE rfl) (cg [0,2] kr rfl)
   exact jU rfl dc rfl jV (zyN (gM rfl (zaz (cD (bP (cD (va (ds:=[]) a (⟨(p1.i:Int),w,(p1.r:Int),u⟩:cT) d g (.inl rfl) ah results165 (cj 1))))))))
  have h:=nH e h
  refine tw (k:=1) (m:=n) rfl dc rfl rfl (iG (of_decide_eq_false e)) (eT rfl dc rfl rfl (zyN (zaL (eh rfl (dF (bU (bU (dG ?_))))))))
  cases h
  exact u6 (ds:=[]) (.inr rfl) ah results165 (aH I (x.trans (aE _))) (cj 1)
def Ex (a:ae):Option ae := some a
theorem SR {a:ae} {r:ae} (h:Ex a=some r):Fn prog 146 [.string a] [] (fun v0:Nat=>.func (.func 165) #[] #[zP v0]) (fun v0=>[cells v0 [.string r] 9]):=by
 unfold Ex at h
 refine _root_.Go.Proofs.YtifpjbgnikjglaaGreatDoor.Fn.intro func146 rfl ntmps146 (by simp) (fun w0 K=>zyG (zeV rfl dc rfl (fun b1=>zyR 1 rfl (zyH (ziy (x1:=[]) (x2:=[.tmp 1]) rfl dc rfl rfl (zyR 1 rfl (zyN (zaz ?_))))))))
 cases h
 exact eB (rs:=[.tmp 2]) b1 (.inl rfl) results146 (.cons (.tmp rfl) .nil) rfl (cj 1)
def Bj (r1:Int) (x1:Bool) (x2:ae):Option ae := aM ((r1:Int)==223) (some (⟨#[83,83]⟩:ae)) (aU (fl r1) <|some (ac (mY r1)))
theorem SU {r1:Int} {x1:Bool} {x2:ae} {r:ae} (h:Bj r1 x1 x2=some r):dB prog 106 [.int .i32 r1,.bool x1,.string x2] (.string r):=by
 unfold Bj at h
 refine dB.intro func106 rfl ntmps106 (by simp) (fun w0 K=>zyG (zyR 1 rfl (zyN (zaL (zyG (zyR 1 rfl (zaR rfl zbe (zyN (zyB rfl h (fun h=>?_) (fun h=>?_))))))))))
 ·refine zyG (zyR 1 rfl (zyN (zaz (bP ?_))))
  cases h
  exact cZ 6 results106
 refine bA (ct (zyG (zyR 1 rfl (zbt h fun a h=>zaI (v:=.int .i32 (mY r1)) (vs:=[.int .i32 r1]) rfl dc rfl rfl rfl NY (mw fun w=>OV r1 w a.1 a.2) (zdi rfl dc rfl (lJ aZ al) (zyR 1 rfl (zyN (zaz ?_))))))))
 cases h
 exact cZ 6 results106
def zb8 (b:ae) (x1:cT) (e:ae→Bool→Option ae) (a:ae) (c:Bool):Option ae := cn (fun (f:ae→Option ae)=>aU (cp (x1.At+x1.Width)) <|aU (fl x1.Rune) <|aM (((fq x1.Broken x1.Rune):Int)==1) (aU (0≤(x1.At+x1.Width:Int)∧(x1.At+x1.Width:Int)≤(b.size:Int)∧((b.size:Int):Int)≤(b.size:Int)) <|aT (Bj x1.Rune c (cL b (x1.At+x1.Width) (b.size:Int))) fun (r2:ae)=>aU (a.size+r2.size≤140737488355328) <|f (a++r2)) (aU (0≤(x1.At:Int)∧(x1.At:Int)≤(x1.At+x1.Width)∧(x1.At+x1.Width:Int)≤(b.size:Int)) <|aU (a.size+(cL b x1.At (x1.At+x1.Width)).size≤140737488355328) <|f (a++(cL b x1.At (x1.At+x1.Width))))) (fun (d:ae)=>aM (((fq x1.Broken x1.Rune):Int) != 2) (e d (((fq x1.Broken x1.Rune):Int)==1)) (e d c))
def Bk (d:ae):Option ae := cn (fun (f:ae→Option ae)=>aT (Ex d) fun (r1:ae)=>aT (y5 r1) fun (a:(List cT))=>cn (fun (b:ae→Bool→Option ae)=>zdw b (zb8 d) a (⟨#[]⟩:ae) false) (fun (c:ae) (e:Bool)=>f c)) (fun (g:ae)=>some g)
theorem SV {m:ae} {r:ae} (h:Bk m=some r):dB prog 105 [.string m,.func (.func 106) #[] #[]] (.string r):=by
 unfold Bk at h
 refine dB.intro func105 rfl ntmps105 (by simp) (fun w0 K=>ziX (zbp h fun j1 V h=>zaM (β:=ae×Nat×(List Nat)) 3 rfl (fun b=>j1 b.1=some r) (fun b=>oj b.2.2) (fun b=>[(5,zP b.2.1)]) (fun b=>[ss b.2.1 b.1,zhW ((b.2.2:List Nat).map fx)]) (fun cut=>?_) ?_))
 ·refine zyG (zeV rfl dc rfl (fun H=>zeV rfl dc rfl (fun G=>zyR 1 rfl (zyH (zbk MS rfl dc (fun z=>pX (k:=3) rfl Pm (zyH (zbk zFC rfl dc (fun F=>ef (k:=4) (l':=[.bool false]) jX rfl rfl rfl rfl rfl (fun _ _=>rfl) rfl (zyN (cut (zyG (zat (k:=1) eb rfl dc rfl rfl rfl (zbl h fun r1 T h=>zbJ (vs:=[.string m]) rfl dc rfl rfl rfl Og (SR T) ah (fun b7=>zyN (zau (zbl h fun I S h=>zbp h fun C M h=>tZ (α:=cT) (β:=ae×Bool) (γ:=Unit) (δ:=Nat) (ps:=[12]) Ro.nil rfl On (SQ S) (fun pre b=>∀post,I=pre++post→zdw C (zb8 m) post b.1 b.2=some r) (fun pre b=>[cells H [.string m] 9,cells G [.func (.func 106) #[] #[]] 152,ss z b.1,cells F [.bool b.2] 4]) (fun c pre g=>False) (fun c pre g=>[]) (fun pre x b j=>[(2,zP H),(3,zP G),(4,.string (⟨#[]⟩:ae)),(5,zP z),(6,zP F),(11,.func (.func 165) #[] #[zP b7]),(7,zP j)]) (fun pre x b j=>[cells H [.string m] 9,cells G [.func (.func 106) #[] #[]] 152,ss z b.1,cells F [.bool b.2] 4,cells j [zI x.At,zI x.Width,.int .i32 x.Rune,.bool x.Broken] 132]) ((⟨#[]⟩:ae),false) (fun post e=>by rw[aW] at e;subst e;exact h) (cg [1,2,3,4] kr rfl) ⟨.inl ⟨5,rfl⟩,trivial⟩ (fun _=>rfl) dc ?_ ?_ ?_ ?_)))))))))))))))))
  ·rintro lp rc pre x1 post ⟨l,f⟩ w1 K1 p L P q
   exact bV (zbk zjz rfl dc (fun a1=>eK (k:=4) (vs:=[zI x1.At,zI x1.Width,.int .i32 x1.Rune,.bool x1.Broken]) (l':=[zI x1.At,zI x1.Width,.int .i32 x1.Rune,.bool x1.Broken]) kC rfl rfl rfl rfl rfl (show _≤_ by simp) rfl rfl (bG (fun a w ha hw=>⟨a1,(bE rfl) _ _ _ ha,hw.weaken (cj 5)⟩))))
  ·rintro lp rc pre x1 t ⟨l,f⟩ O w1 K1 p L P q
   have h:=q (x1::t) p
   obtain⟨a2,y⟩:∃ag,ag=zdw C (zb8 m) t:=⟨_,rfl⟩
   have h:zb8 m x1 a2 l f=some r:=by have h2:=h;rw[nI,←y] at h2;exact h2
   unfold zb8 at h
   refine zau (zbp h fun j2 U h=>zaM (β:=ae) 2 rfl (fun b=>j2 b=some r) (fun b=>[]) (fun b=>[(2,zP H),(3,zP G),(4,.string (⟨#[]⟩:ae)),(5,zP z),(6,zP F),(9,zI (fq x1.Broken x1.Rune)),(11,.func (.func 165) #[] #[zP b7])]) (fun b=>[cells H [.string m] 9,cells G [.func (.func 106) #[] #[]] 152,ss z b,cells F [.bool f] 4]) (fun cut=>zyG (zab zd6 rfl dc rfl (show _=0 from rfl) (zat (k:=4) dQ rfl dc rfl rfl rfl (zab qx rfl dc rfl (show _=1 from rfl) (zat (k:=4) dQ rfl dc rfl rfl rfl (zbt h fun a0 h=>zaR rfl (dE (r:=x1.At+x1.Width) (ai _ a0)) (zyR 1 rfl (zyH (zbT (k:=4) (cs:=[zI x1.At,zI x1.Width,.int .i32 x1.Rune,.bool x1.Broken]) lB rfl dc rfl rfl rfl rfl (zbt h fun J h=>zaI (v:=zI (fq x1.Broken x1.Rune)) (vs:=[.agg #[zI x1.At,zI x1.Width,.int .i32 x1.Rune,.bool x1.Broken]]) rfl dc rfl rfl rfl vK (vT x1.At x1.Width x1.Rune x1.Broken J.1 J.2) (zyR 1 rfl (zyN (cut (zyG (zyR 1 rfl (zaR rfl zbe (zyN (zyB rfl h (fun h=>zbt h fun aw h=>zbl h fun r2 Q h=>zbt h fun ao h=>zdb 7 [(0,22,.func (.func 106) #[] #[]),(1,23,.pointer (some ⟨O,2,none⟩)),(2,24,.int .i32 x1.Rune),(3,25,.bool f),(4,26,.string m),(5,27,zI (x1.At+x1.Width)),(6,28,.string (cL m (x1.At+x1.Width) (m.size:Int)))] mixed kr kr dc (by rfl) kr kr (zae (fun D n d c u i=>zat (k:=1) M9 rfl dc (zbA (by rfl) rfl) rfl rfl (zaT 0 u i)) (zae (fun D n d c u i=>zab pZ rfl dc (zbA (by rfl) rfl) (show _=2 from rfl) (zaT 1 u i)) (zae (fun D n d c u i=>zat (k:=4) eP rfl dc (bC 1 u d) rfl rfl (zaT 2 u i)) (zae (fun D n d c u i=>zat (k:=3) lW rfl dc (zbA (by rfl) rfl) rfl rfl (zaT 3 u i)) (zae (fun D n d c u i=>zat (k:=0) eb rfl dc (zbA (by rfl) rfl) rfl rfl (zaT 4 u i)) (zyP 1 5 rfl (zae (fun D n d c u i=>ia rfl dc (bC 4 u d) (evO.some (bC 5 u d)) xb (ka (i:=x1.At+x1.Width) (j:=(m.size:Int)) al (.inr rfl) (.inl ⟨rfl,rfl⟩) aw) (zaT 6 u i)) ce))))))) (zaI (v:=.string r2) (vs:=[.int .i32 x1.Rune,.bool f,.string (cL m (x1.At+x1.Width) (m.size:Int))]) rfl dc rfl rfl rfl NX (SU Q) (zbJ (vs:=[zP z,.string r2]) rfl dc rfl rfl rfl G2 (HV z l r2 ao) (cg [2] kr rfl) (fun u1=>bG (cH (l++r2) h rfl (bE rfl) (cg [0,1,5,3] kr rfl)))))) (fun h=>bV (zat (k:=0) eb rfl dc rfl rfl rfl (zab zd6 rfl dc rfl (show _=0 from rfl) (zat (k:=4) dQ rfl dc rfl rfl rfl (zyR 1 rfl (zbt h fun Y h=>ia rfl dc rfl rfl rfl (ka (i:=x1.At) (j:=x1.At+x1.Width) al (.inr rfl) (.inr rfl) Y) (zbt h fun W h=>zbJ (vs:=[zP z,.string (cL m x1.At (x1.At+x1.Width))]) rfl dc rfl rfl rfl G2 (HV z l (cL m x1.At (x1.At+x1.Width)) W) (cg [2] kr rfl) (fun u2=>bG (cH (l++(cL m x1.At (x1.At+x1.Width))) h rfl (bE rfl) (cg [0,1,5,3] kr rfl)))))))))))))))))))))))))))) (fun N h=>?_))
   rw[U] at h
   exact zyG (zyR 1 rfl (zaR rfl zf8 (zyN (zyB rfl h (fun h=>bV (zyR 1 rfl (zaR rfl zbe (ef (k:=3) (l':=[.bool (((fq x1.Broken x1.Rune):Int)==1)]) jX rfl rfl rfl rfl rfl (fun _ _=>rfl) rfl (bG (ca (lH (N,((fq x1.Broken x1.Rune):Int)==1) (fun B e2=>by have e9:=lK p e2;subst e9;subst y;exact h) (cj 4)))))))) (fun h=>bA (ca (lH (N,f) (fun B e2=>by have e9:=lK p e2;subst e9;subst y;exact h) (cj 4))))))))
  ·rintro E ⟨l,f⟩ q
   have h:C l f=some r:=q [] (aE _).symm
   rw[M] at h
   show TX _ _ _ _ _ _ _ [zhW ((([]:List Nat):List Nat).map fx),cy,cy,cy,cy,cells b7 [.string r1] 9,cells H [.string m] 9,cells G [.func (.func 106) #[] #[]] 152,ss z l,cells F [.bool f] 4,fx E]
   exact rU (k:=10) (j:=0) rfl rfl dc (ca (cH (l,z,E::([]:List Nat)) h rfl (bE rfl) (cg [8,0] kr rfl)))
  exact fun E c pre x1 post g a3 hX=>(show False from hX).elim
 rintro⟨b2,b1,ds1⟩ h
 rw[V] at h
 refine zyG (zbJ (vs:=[zP b1]) rfl dc rfl rfl rfl Nt (Pl b1 b2) (cj 1) (fun _=>zyR 1 rfl (zyN (zaz ?_))))
 cases h
 exact lj (rs:=[.tmp 4]) ds1 () (.inl rfl) (lg (k:=1) rfl) results105 (.cons (.tmp rfl) .nil) rfl ah
def y6 (a:ae):Option ae := aT (Bk a) fun (r1:ae)=>some r1
theorem SW {a:ae} {r:ae} (h:y6 a=some r):dB prog 55 [.string a] (.string r):=by
 unfold y6 at h
 refine dB.intro func55 rfl ntmps55 (by simp) (fun w0 K=>zyG (zyR 1 rfl (zyH (zyR 1 rfl (zbl h fun r1 b h=>zaI (v:=.string r1) (vs:=[.string a,.func (.func 106) #[] #[]]) rfl dc rfl rfl rfl NW (SV b) (zyR 1 rfl (zyN (zaz ?_))))))))
 cases h
 exact cZ 2 results55
def Ey (a1:dq) (b1:dq):Option Int := aU (cp (a1.sort-b1.sort)) <|aU (cp (a1.place-b1.place)) <|aU (cp ((a1.digits.size:Int)-(b1.digits.size:Int))) <|aT (Ej ([a1.sort-b1.sort,a1.place-b1.place,(a1.digits.size:Int)-(b1.digits.size:Int),dh a1.digits.data.toList b1.digits.data.toList]:List Int)) fun (r1:Int)=>some r1
theorem SX {a1:dq} {b1:dq} {r:Int} (h:Ey a1 b1=some r):dB prog 44 [.agg (iD a1).toArray,.agg (iD b1).toArray] (zI r):=by
 unfold Ey at h
 refine dB.intro func44 rfl ntmps44 (by simp) (fun w0 K=>zyG (zeV rfl dc rfl (fun b=>zeV rfl dc rfl (fun a=>zyR 1 rfl (zyN (zaL (zbt h fun l h=>zbt h fun j h=>zbt h fun g h=>zbl h fun r1 f h=>zdb 22 [(0,5,zP b),(1,6,zI a1.sort),(2,7,zP a),(3,8,zI b1.sort),(4,9,zI (a1.sort-b1.sort)),(5,10,.pointer (some ⟨b,1,none⟩)),(6,11,zI a1.place),(7,12,.pointer (some ⟨a,1,none⟩)),(8,13,zI b1.place),(9,14,zI (a1.place-b1.place)),(10,15,.pointer (some ⟨b,2,none⟩)),(11,16,.string a1.digits),(12,17,zI (a1.digits.size:Int)),(13,18,.pointer (some ⟨a,2,none⟩)),(14,19,.string b1.digits),(15,20,zI (b1.digits.size:Int)),(16,21,zI ((a1.digits.size:Int)-(b1.digits.size:Int))),(17,22,.pointer (some ⟨b,2,none⟩)),(18,23,.string a1.digits),(19,24,.pointer (some ⟨a,2,none⟩)),(20,25,.string b1.digits),(21,26,zI (dh a1.digits.data.toList b1.digits.data.toList))] mixed kr kr dc (by rfl) kr kr (zae (fun D n d c u i=>zab zur rfl dc (zbA (by rfl) rfl) (show _=0 from rfl) (zaT 0 u i)) (zae (fun D n d c u i=>zat (k:=0) dQ rfl dc (bC 0 u d) rfl rfl (zaT 1 u i)) (zae (fun D n d c u i=>zab zur rfl dc (zbA (by rfl) rfl) (show _=0 from rfl) (zaT 2 u i)) (zae (fun D n d c u i=>zat (k:=1) dQ rfl dc (bC 2 u d) rfl rfl (zaT 3 u i)) (zae (fun D n d c u i=>lU rfl dc (bC 1 u d) (bC 3 u d) (jH (r:=a1.sort-b1.sort) (ai _ l)) (zaT 4 u i)) (zae (fun D n d c u i=>zab CA rfl dc (zbA (by rfl) rfl) (show _=1 from rfl) (zaT 5 u i)) (zae (fun D n d c u i=>zat (k:=0) dQ rfl dc (bC 5 u d) rfl rfl (zaT 6 u i)) (zae (fun D n d c u i=>zab CA rfl dc (zbA (by rfl) rfl) (show _=1 from rfl) (zaT 7 u i)) (zae (fun D n d c u i=>zat (k:=1) dQ rfl dc (bC 7 u d) rfl rfl (zaT 8 u i)) (zae (fun D n d c u i=>lU rfl dc (bC 6 u d) (bC 8 u d) (jH (r:=a1.place-b1.place) (ai _ j)) (zaT 9 u i)) (zae (fun D n d c u i=>zab Ac rfl dc (zbA (by rfl) rfl) (show _=2 from rfl) (zaT 10 u i)) (zae (fun D n d c u i=>zat (k:=0) eb rfl dc (bC 10 u d) rfl rfl (zaT 11 u i)) (zae (fun D n d c u i=>zcX rfl dc (bC 11 u d) al (zaT 12 u i)) (zae (fun D n d c u i=>zab Ac rfl dc (zbA (by rfl) rfl) (show _=2 from rfl) (zaT 13 u i)) (zae (fun D n d c u i=>zat (k:=1) eb rfl dc (bC 13 u d) rfl rfl (zaT 14 u i)) (zae (fun D n d c u i=>zcX rfl dc (bC 14 u d) al (zaT 15 u i)) (zae (fun D n d c u i=>lU rfl dc (bC 12 u d) (bC 15 u d) (jH (r:=(a1.digits.size:Int)-(b1.digits.size:Int)) (ai _ g)) (zaT 16 u i)) (zae (fun D n d c u i=>zab Ac rfl dc (zbA (by rfl) rfl) (show _=2 from rfl) (zaT 17 u i)) (zae (fun D n d c u i=>zat (k:=0) eb rfl dc (bC 17 u d) rfl rfl (zaT 18 u i)) (zae (fun D n d c u i=>zab Ac rfl dc (zbA (by rfl) rfl) (show _=2 from rfl) (zaT 19 u i)) (zae (fun D n d c u i=>zat (k:=1) eb rfl dc (bC 19 u d) rfl rfl (zaT 20 u i)) (zae (fun D n d c u i=>zaI (v:=zI (dh a1.digits.data.toList b1.digits.data.toList)) (vs:=[.string a1.digits,.string b1.digits]) rfl dc rfl (da (bC 18 u d) (da (bC 20 u d) eJ)) rfl CI (C9 a1.digits b1.digits) (zaT 21 u i)) ce)))))))))))))))))))))) (fE (cs:=[zI (a1.sort-b1.sort),zI (a1.place-b1.place),zI ((a1.digits.size:Int)-(b1.digits.size:Int)),zI (dh a1.digits.data.toList b1.digits.data.toList)]) (te:=3) (ps:=[(0,.tmp 9),(1,.tmp 14),(2,.tmp 21),(3,.tmp 26)]) rfl dc rfl (fun _=>by kernel_rfl) (fun m=>mA ([a1.sort-b1.sort,a1.place-b1.place,(a1.digits.size:Int)-(b1.digits.size:Int),dh a1.digits.data.toList b1.digits.data.toList]:List Int) (k:=2) rfl jI rfl (show 4≤maxLen by decide) (kj (k:=2) rfl (fun e=>kZ (v:=zI r1) (vs:=[.slice (some ⟨m,0,none⟩) 4 4]) (Rd.nil:Rd _ _ []) rfl dc rfl rfl rfl NR (Sa e f) (.own (As:=[vec (kl (.i64)) 3 1 (.slice (some ⟨m,0,none⟩) 4 4) ([a1.sort-b1.sort,a1.place-b1.place,(a1.digits.size:Int)-(b1.digits.size:Int),dh a1.digits.data.toList b1.digits.data.toList]:List Int)]) (cg [2] kr rfl) (fun _ _ h=>oo jI (aQ.1 h)) .nil) (zyR 1 rfl (zyN (zaz ?_))))))))))))))
 cases h
 exact cZ 4 results44
def Ez (p1:dq) (q1:dq):Option Int := some (dh p1.marks.data.toList q1.marks.data.toList)
theorem SY {p1:dq} {q1:dq} {r:Int} (h:Ez p1 q1=some r):dB prog 45 [.agg (iD p1).toArray,.agg (iD q1).toArray] (zI r):=by
 unfold Ez at h
 refine dB.intro func45 rfl ntmps45 (by simp) (fun w0 K=>zyG (zeV rfl dc rfl (fun b1=>zeV rfl dc rfl (fun a=>zyR 1 rfl (zyH (zab zup rfl dc rfl (show _=3 from rfl) (zat (k:=0) eb rfl dc rfl rfl rfl (zab zup rfl dc rfl (show _=3 from rfl) (zat (k:=1) eb rfl dc rfl rfl rfl (zaI (v:=zI (dh p1.marks.data.toList q1.marks.data.toList)) (vs:=[.string p1.marks,.string q1.marks]) rfl dc rfl rfl rfl CI (C9 p1.marks q1.marks) (zyR 1 rfl (zyN (zaz ?_)))))))))))))
 cases h
 exact cZ 4 results45
def EA (p1:dq) (q1:dq):Option Int := aU (cp (p1.great-q1.great)) <|some (p1.great-q1.great)
theorem SZ {p1:dq} {q1:dq} {r:Int} (h:EA p1 q1=some r):dB prog 47 [.agg (iD p1).toArray,.agg (iD q1).toArray] (zI r):=by
 unfold EA at h
 refine dB.intro func47 rfl ntmps47 (by simp) (fun w0 K=>zyG (zeV rfl dc rfl (fun b1=>zeV rfl dc rfl (fun b=>zyR 1 rfl (zyH (zab zyI rfl dc rfl (show _=4 from rfl) (zat (k:=0) dQ rfl dc rfl rfl rfl (zab zyI rfl dc rfl (show _=4 from rfl) (zat (k:=1) dQ rfl dc rfl rfl rfl (zbt h fun a h=>zaR rfl (jH (r:=p1.great-q1.great) (ai _ a)) (zyR 1 rfl (zyN (zaz ?_)))))))))))))
 cases h
 exact cZ 4 results47
def y7 (a:Int):Option Int := aT (Ek a 0) fun (r1:Int)=>some r1
theorem EB {a:Int} {r:Int} (h:y7 a=some r):dB prog 49 [zI a] (zI r):=by
 unfold y7 at h
 refine dB.intro func49 rfl ntmps49 (by simp) (fun w0 K=>zyG (zyR 1 rfl (zyH (zyR 1 rfl (zbl h fun r1 b h=>zaI (v:=zI r1) (vs:=[zI a,zI 0]) rfl dc rfl rfl rfl NS (Sb b) (zyR 1 rfl (zyN (zaz ?_))))))))
 cases h
 exact cZ 2 results49
def zaQ (b:List dq) (a:List dq) (e:Option Int) (d:Int→Option Int) (c:Int):Option Int := aM (decide ((c:Int)<(b.length:Int))) (aT (zcx b c) fun (q1:dq)=>aM (decide (((a.length:Int):Int)≤c)) (some 1) (aT (zcx a c) fun (q2:dq)=>aT (Ey q1 q2) fun (r1:Int)=>aM ((r1:Int) != 0) (some r1) (aU (cp (c+1)) <|d (c+1)))) (e)
def EC (b:List dq) (a:List dq):Option Int := cn (fun (c:Option Int)=>zaC (fun _=>none) (zaQ b a c) zbC 0) (aM (decide (((b.length:Int):Int)<(a.length:Int))) (some (-1)) (some 0))
theorem S0 {t d:Value} {w:List dq} {n:Nat} {e:List dq} (c:Vw t w 5 n d e) {p f:Value} {u:List dq} {l:Nat} {g:List dq} (a:Vw p u 5 l f g) {r:Int} (h:EC e g=some r):iu prog 48 [d,f,.func (.func 44) #[] #[]] [iX qy 5 t n w,iX qy 5 p l u] [] (fun _:Unit=>(zI r)) (fun _=>[]):=by
 unfold EC at h
 refine iu.intro func48 rfl ntmps48 (by simp) (fun w0 K z=>zbp h fun E G h=>zaM (β:=Unit) 1 rfl (fun b=>E=some r) (fun b=>[]) (fun b=>[(0,d),(1,f)]) (fun b=>[]) (fun cut=>?_) ?_)
 ·refine zyG (zyR 1 rfl (zyN (cut (zyG (zyR 1 rfl (zbV c rfl dc rfl bS (zyR 1 rfl (zyN (zau (eO (β:=Nat×Int) (fun b=>zaC (fun _=>none) (zaQ e g E) b.1 b.2=some r) (fun b=>[]) (fun b=>[(0,d),(1,f),(2,.func (.func 44) #[] #[]),(11,d),(12,zI (e.length:Int)),(13,zI b.2)]) (fun b=>[]) (fun b=>b.1) (zbC,0) h rfl (bE rfl) ah ?_))))))))))
  rintro⟨D,y⟩ h
  cases D with
  |zero=>exact eG h
  |succ D=>
   obtain⟨I,x⟩:∃ag,ag=zaC (fun _=>none) (zaQ e g E) D:=⟨_,rfl⟩
   have h:zaQ e g E I y=some r:=by rw[x];exact h
   unfold zaQ at h
   refine zyG (zaR rfl zbi (zyN (zaL (zyB rfl h (fun h=>?_) (fun h=>?_)))))
   ·refine bA (ct (zaL (zau (zyG (zyR 1 rfl (zbl h fun q1 C h=>fm c C bS oK rfl dc rfl rfl rfl (pq (m:=n+(y:Int).toNat) (j:=0) (i:=0) (q:=q1) (cs:=(iD q1)) z rfl (by omega) o7 rfl dc rfl (bX c C) rfl rfl rfl (zbk ug rfl dc (fun b1=>zyR 1 rfl (eK (k:=0) (vs:=(iD q1)) (l':=(iD q1)) oK rfl rfl rfl rfl rfl (show _≤_ by simp) rfl rfl (zyN (zaL (zyG (zyR 2 rfl (zbV a rfl dc rfl bS (zaR rfl zbF (zyN (zyB rfl h (fun h=>?_) (fun h=>?_)))))))))))))))))))
    ·refine zyG (zyR 1 rfl (zyN (zaz (bP (cD (bP (bP (cD (bP ?_)))))))))
     cases h
     exact cZ 6 fC
    refine bA (ct (zyG (zyR 2 rfl (zbl h fun q2 B h=>fm a B bS oK rfl dc rfl rfl rfl (pq (m:=l+(y:Int).toNat) (j:=0) (i:=1) (q:=q2) (cs:=(iD q2)) z rfl (by omega) o7 rfl dc rfl (bX a B) rfl rfl rfl (zbk ug rfl dc (fun J=>eK (k:=1) (vs:=(iD q2)) (l':=(iD q2)) oK rfl rfl rfl rfl rfl (show _≤_ by simp) rfl rfl (zyH (zyR 1 rfl (zbT (k:=0) (cs:=(iD q1)) o7 rfl dc rfl rfl rfl rfl (zbT (k:=1) (cs:=(iD q2)) o7 rfl dc rfl rfl rfl rfl (zbl h fun r1 F h=>zaI (v:=zI r1) (vs:=[.agg (iD q1).toArray,.agg (iD q2).toArray]) rfl dc rfl rfl rfl Nw (SX (a1:=q1) (b1:=q2) F) (zyR 1 rfl (zyH (zyR 1 rfl (zaR rfl zf8 (zyN (zyB rfl h (fun h=>?_) (fun h=>?_)))))))))))))))))))
    ·refine zyG (zyR 2 rfl (zyN (zaz (cD (bP (bP (cD (bP ?_))))))))
     cases h
     exact cZ 6 fC
    refine bA (ca (ct (bV (zbt h fun H h=>zaR rfl (dE (r:=y+1) (ai _ H)) (zyR 1 rfl (bG ?_))))))
    subst x
    exact ni (D,y+1) h (cq _) rfl (bE rfl) ah
   exact dF (bU (bU (dG (cH () h rfl (bE rfl) ah))))
 rintro _ h
 rw[G] at h
 refine zaL (zyG (zyR 1 rfl (zbV c rfl dc rfl bS (zyR 1 rfl (zbV a rfl dc rfl bS (zaR rfl zbi (zyN (zyB rfl h (fun h=>?_) (fun h=>?_)))))))))
 ·refine zyG (zyR 1 rfl (zyN (zaz (bP ?_))))
  cases h
  exact cZ 6 fC
 refine bA (ct (zyG (zyR 1 rfl (zyN (zaz ?_)))))
 cases h
 exact cZ 6 fC
def zaO (b:List dq) (a:List dq) (e:Option Int) (d:Int→Option Int) (c:Int):Option Int := aM (decide ((c:Int)<(b.length:Int))) (aT (zcx b c) fun (q1:dq)=>aM (decide (((a.length:Int):Int)≤c)) (some 1) (aT (zcx a c) fun (q2:dq)=>aT (Ez q1 q2) fun (r1:Int)=>aM ((r1:Int) != 0) (some r1) (aU (cp (c+1)) <|d (c+1)))) (e)
def ED (b:List dq) (a:List dq):Option Int := cn (fun (c:Option Int)=>zaC (fun _=>none) (zaO b a c) zbC 0) (aM (decide (((b.length:Int):Int)<(a.length:Int))) (some (-1)) (some 0))
theorem S1 {t d:Value} {w:List dq} {n:Nat} {e:List dq} (c:Vw t w 5 n d e) {p f:Value} {u:List dq} {l:Nat} {g:List dq} (a:Vw p u 5 l f g) {r:Int} (h:ED e g=some r):iu prog 48 [d,f,.func (.func 45) #[] #[]] [iX qy 5 t n w,iX qy 5 p l u] [] (fun _:Unit=>(zI r)) (fun _=>[]):=by
 unfold ED at h
 refine iu.intro func48 rfl ntmps48 (by simp) (fun w0 K z=>zbp h fun E G h=>zaM (β:=Unit) 1 rfl (fun b=>E=some r) (fun b=>[]) (fun b=>[(0,d),(1,f)]) (fun b=>[]) (fun cut=>?_) ?_)
 ·refine zyG (zyR 1 rfl (zyN (cut (zyG (zyR 1 rfl (zbV c rfl dc rfl bS (zyR 1 rfl (zyN (zau (eO (β:=Nat×Int) (fun b=>zaC (fun _=>none) (zaO e g E) b.1 b.2=some r) (fun b=>[]) (fun b=>[(0,d),(1,f),(2,.func (.func 45) #[] #[]),(11,d),(12,zI (e.length:Int)),(13,zI b.2)]) (fun b=>[]) (fun b=>b.1) (zbC,0) h rfl (bE rfl) ah ?_))))))))))
  rintro⟨D,y⟩ h
  cases D with
  |zero=>exact eG h
  |succ D=>
   obtain⟨I,x⟩:∃ag,ag=zaC (fun _=>none) (zaO e g E) D:=⟨_,rfl⟩
   have h:zaO e g E I y=some r:=by rw[x];exact h
   unfold zaO at h
   refine zyG (zaR rfl zbi (zyN (zaL (zyB rfl h (fun h=>?_) (fun h=>?_)))))
   ·refine bA (ct (zaL (zau (zyG (zyR 1 rfl (zbl h fun q1 C h=>fm c C bS oK rfl dc rfl rfl rfl (pq (m:=n+(y:Int).toNat) (j:=0) (i:=0) (q:=q1) (cs:=(iD q1)) z rfl (by omega) o7 rfl dc rfl (bX c C) rfl rfl rfl (zbk ug rfl dc (fun b1=>zyR 1 rfl (eK (k:=0) (vs:=(iD q1)) (l':=(iD q1)) oK rfl rfl rfl rfl rfl (show _≤_ by simp) rfl rfl (zyN (zaL (zyG (zyR 2 rfl (zbV a rfl dc rfl bS (zaR rfl zbF (zyN (zyB rfl h (fun h=>?_) (fun h=>?_)))))))))))))))))))
    ·refine zyG (zyR 1 rfl (zyN (zaz (bP (cD (bP (bP (cD (bP ?_)))))))))
     cases h
     exact cZ 6 fC
    refine bA (ct (zyG (zyR 2 rfl (zbl h fun q2 B h=>fm a B bS oK rfl dc rfl rfl rfl (pq (m:=l+(y:Int).toNat) (j:=0) (i:=1) (q:=q2) (cs:=(iD q2)) z rfl (by omega) o7 rfl dc rfl (bX a B) rfl rfl rfl (zbk ug rfl dc (fun J=>eK (k:=1) (vs:=(iD q2)) (l':=(iD q2)) oK rfl rfl rfl rfl rfl (show _≤_ by simp) rfl rfl (zyH (zyR 1 rfl (zbT (k:=0) (cs:=(iD q1)) o7 rfl dc rfl rfl rfl rfl (zbT (k:=1) (cs:=(iD q2)) o7 rfl dc rfl rfl rfl rfl (zbl h fun r1 F h=>zaI (v:=zI r1) (vs:=[.agg (iD q1).toArray,.agg (iD q2).toArray]) rfl dc rfl rfl rfl Nx (SY (p1:=q1) (q1:=q2) F) (zyR 1 rfl (zyH (zyR 1 rfl (zaR rfl zf8 (zyN (zyB rfl h (fun h=>?_) (fun h=>?_)))))))))))))))))))
    ·refine zyG (zyR 2 rfl (zyN (zaz (cD (bP (bP (cD (bP ?_))))))))
     cases h
     exact cZ 6 fC
    refine bA (ca (ct (bV (zbt h fun H h=>zaR rfl (dE (r:=y+1) (ai _ H)) (zyR 1 rfl (bG ?_))))))
    subst x
    exact ni (D,y+1) h (cq _) rfl (bE rfl) ah
   exact dF (bU (bU (dG (cH () h rfl (bE rfl) ah))))
 rintro _ h
 rw[G] at h
 refine zaL (zyG (zyR 1 rfl (zbV c rfl dc rfl bS (zyR 1 rfl (zbV a rfl dc rfl bS (zaR rfl zbi (zyN (zyB rfl h (fun h=>?_) (fun h=>?_)))))))))
 ·refine zyG (zyR 1 rfl (zyN (zaz (bP ?_))))
  cases h
  exact cZ 6 fC
 refine bA (ct (zyG (zyR 1 rfl (zyN (zaz ?_)))))
 cases h
 exact cZ 6 fC
def zaN (b:List dq) (a:List dq) (e:Option Int) (d:Int→Option Int) (c:Int):Option Int := aM (decide ((c:Int)<(b.length:Int))) (aT (zcx b c) fun (q1:dq)=>aM (decide (((a.length:Int):Int)≤c)) (some 1) (aT (zcx a c) fun (q2:dq)=>aT (EA q1 q2) fun (r1:Int)=>aM ((r1:Int) != 0) (some r1) (aU (cp (c+1)) <|d (c+1)))) (e)
def EE (b:List dq) (a:List dq):Option Int := cn (fun (c:Option Int)=>zaC (fun _=>none) (zaN b a c) zbC 0) (aM (decide (((b.length:Int):Int)<(a.length:Int))) (some (-1)) (some 0))
theorem S2 {t d:Value} {w:List dq} {n:Nat} {e:List dq} (c:Vw t w 5 n d e) {p f:Value} {u:List dq} {l:Nat} {g:List dq} (a:Vw p u 5 l f g) {r:Int} (h:EE e g=some r):iu prog 48 [d,f,.func (.func 47) #[] #[]] [iX qy 5 t n w,iX qy 5 p l u] [] (fun _:Unit=>(zI r)) (fun _=>[]):=by
 unfold EE at h
 refine iu.intro func48 rfl ntmps48 (by simp) (fun w0 K z=>zbp h fun E G h=>zaM (β:=Unit) 1 rfl (fun b=>E=some r) (fun b=>[]) (fun b=>[(0,d),(1,f)]) (fun b=>[]) (fun cut=>?_) ?_)
 ·refine zyG (zyR 1 rfl (zyN (cut (zyG (zyR 1 rfl (zbV c rfl dc rfl bS (zyR 1 rfl (zyN (zau (eO (β:=Nat×Int) (fun b=>zaC (fun _=>none) (zaN e g E) b.1 b.2=some r) (fun b=>[]) (fun b=>[(0,d),(1,f),(2,.func (.func 47) #[] #[]),(11,d),(12,zI (e.length:Int)),(13,zI b.2)]) (fun b=>[]) (fun b=>b.1) (zbC,0) h rfl (bE rfl) ah ?_))))))))))
  rintro⟨D,y⟩ h
  cases D with
  |zero=>exact eG h
  |succ D=>
   obtain⟨I,x⟩:∃ag,ag=zaC (fun _=>none) (zaN e g E) D:=⟨_,rfl⟩
   have h:zaN e g E I y=some r:=by rw[x];exact h
   unfold zaN at h
   refine zyG (zaR rfl zbi (zyN (zaL (zyB rfl h (fun h=>?_) (fun h=>?_)))))
   ·refine bA (ct (zaL (zau (zyG (zyR 1 rfl (zbl h fun q1 C h=>fm c C bS oK rfl dc rfl rfl rfl (pq (m:=n+(y:Int).toNat) (j:=0) (i:=0) (q:=q1) (cs:=(iD q1)) z rfl (by omega) o7 rfl dc rfl (bX c C) rfl rfl rfl (zbk ug rfl dc (fun b1=>zyR 1 rfl (eK (k:=0) (vs:=(iD q1)) (l':=(iD q1)) oK rfl rfl rfl rfl rfl (show _≤_ by simp) rfl rfl (zyN (zaL (zyG (zyR 2 rfl (zbV a rfl dc rfl bS (zaR rfl zbF (zyN (zyB rfl h (fun h=>?_) (fun h=>?_)))))))))))))))))))
    ·refine zyG (zyR 1 rfl (zyN (zaz (bP (cD (bP (bP (cD (bP ?_)))))))))
     cases h
     exact cZ 6 fC
    refine bA (ct (zyG (zyR 2 rfl (zbl h fun q2 B h=>fm a B bS oK rfl dc rfl rfl rfl (pq (m:=l+(y:Int).toNat) (j:=0) (i:=1) (q:=q2) (cs:=(iD q2)) z rfl (by omega) o7 rfl dc rfl (bX a B) rfl rfl rfl (zbk ug rfl dc (fun J=>eK (k:=1) (vs:=(iD q2)) (l':=(iD q2)) oK rfl rfl rfl rfl rfl (show _≤_ by simp) rfl rfl (zyH (zyR 1 rfl (zbT (k:=0) (cs:=(iD q1)) o7 rfl dc rfl rfl rfl rfl (zbT (k:=1) (cs:=(iD q2)) o7 rfl dc rfl rfl rfl rfl (zbl h fun r1 F h=>zaI (v:=zI r1) (vs:=[.agg (iD q1).toArray,.agg (iD q2).toArray]) rfl dc rfl rfl rfl Ny (SZ (p1:=q1) (q1:=q2) F) (zyR 1 rfl (zyH (zyR 1 rfl (zaR rfl zf8 (zyN (zyB rfl h (fun h=>?_) (fun h=>?_)))))))))))))))))))
    ·refine zyG (zyR 2 rfl (zyN (zaz (cD (bP (bP (cD (bP ?_))))))))
     cases h
     exact cZ 6 fC
    refine bA (ca (ct (bV (zbt h fun H h=>zaR rfl (dE (r:=y+1) (ai _ H)) (zyR 1 rfl (bG ?_))))))
    subst x
    exact ni (D,y+1) h (cq _) rfl (bE rfl) ah
   exact dF (bU (bU (dG (cH () h rfl (bE rfl) ah))))
 rintro _ h
 rw[G] at h
 refine zaL (zyG (zyR 1 rfl (zbV c rfl dc rfl bS (zyR 1 rfl (zbV a rfl dc rfl bS (zaR rfl zbi (zyN (zyB rfl h (fun h=>?_) (fun h=>?_)))))))))
 ·refine zyG (zyR 1 rfl (zyN (zaz (bP ?_))))
  cases h
  exact cZ 6 fC
 refine bA (ct (zyG (zyR 1 rfl (zyN (zaz ?_)))))
 cases h
 exact cZ 6 fC
def EF (o1:cw) (a1:ae) (b1:ae):Option (Int×Int) := aM (decide (a1=b1)) (some (0,0)) (cn (fun (f:Option (Int×Int))=>aT (uM o1 a1) fun (r1:(List dq))=>aT (uM o1 b1) fun (r2:(List dq))=>aT (EC r1 r2) fun (r3:Int)=>aM ((r3:Int) != 0) (aT (y7 r3) fun (e:Int)=>some (e,1)) (aT (ED r1 r2) fun (b:Int)=>aM ((b:Int) != 0) (aT (y7 b) fun (d:Int)=>some (d,2)) (aT (EE r1 r2) fun (a:Int)=>aM ((a:Int) != 0) (aT (y7 a) fun (c:Int)=>some (c,3)) (f)))) (some (dh a1.data.toList b1.data.toList,4)))
theorem S3 {_g:Nat} {o1:cw} {_f _a _c _d _h:Hd} {a1:ae} {b1:ae} {r:(Int×Int)} (h:EF o1 a1 b1=some r):iu prog 16 [zP _g,.string a1,.string b1] [cells _g [_f.v,.map (some (bm _a)),.map (some (bm _c)),.map (some (bm _d)),_h.v] 72,bD _f.v o1.units,cG (fun n:ae=>af n) (fun n:Int=>aC .i64 n) (bm _a) o1.place,dU (bm _c) o1.fors,cG (fun n:ae=>af n) (fun n:Bool=>ay n) (bm _d) o1.skips,bD _h.v o1.lines] [] (fun _:Unit=>(.tuple #[zI r.1,zI r.2])) (fun _=>[]):=by
 unfold EF at h
 refine iu.intro func16 rfl ntmps16 (by simp) (fun w0 K d=>zyG (zyR 2 rfl (zyN (zaL (zyG (zyR 1 rfl (zaR rfl (zmn underlying29) (zyR 3 rfl (zaR rfl zdn (zyR 1 rfl (zyN (zyB rfl h (fun h=>?_) (fun h=>?_)))))))))))))
 ·refine zyG (zyR 2 rfl (zyN (zaz (bP ?_))))
  cases h
  exact eB (rs:=[.tmp 6,.tmp 7]) () (.inl rfl) oh (.cons (.tmp rfl) (.cons (.tmp rfl) .nil)) rfl ah
 refine bA (ct (zbp h fun I z h=>zaM (β:=Unit) 2 rfl (fun b=>I=some r) (fun b=>[]) (fun b=>[(1,.string a1),(2,.string b1)]) (fun b=>[]) (fun cut=>?_) ?_))
 ·refine zyG (zyR 2 rfl (zbl h fun r1 y h=>zlS (vs:=[zP _g,.string a1]) d rfl dc rfl rfl rfl CH (En (_g:=_g) (o1:=o1) (_f:=_f) (_a:=_a) (_c:=_c) (_d:=_d) (_h:=_h) y) ah (.ro 0 rfl (.ro 1 rfl (.ro 2 rfl (.ro 3 rfl (.ro 4 rfl (.ro 5 rfl .nil)))))) (fun v1=>iq (k:=0) rfl (fun c C=>?_))))
  subst C
  refine zyR 2 rfl (zbl h fun r2 x h=>zlS (vs:=[zP _g,.string b1]) d rfl dc rfl rfl rfl CH (En (_g:=_g) (o1:=o1) (_f:=_f) (_a:=_a) (_c:=_c) (_d:=_d) (_h:=_h) x) ah (.ro 0 rfl (.ro 1 rfl (.ro 2 rfl (.ro 3 rfl (.ro 4 rfl (.ro 5 rfl .nil)))))) (fun J=>iq (k:=1) rfl (fun a B=>?_)))
  subst B
  refine zyR 2 rfl (zyH (zbb (v:=.agg #[.func (.func 44) #[] #[],.func (.func 45) #[] #[],.func (.func 47) #[] #[]]) (ps:=[(0,.func 44),(1,.func 45),(2,.func 47)]) rfl dc rfl (fun _=>by kernel_rfl) (zbk MZ rfl dc (fun L=>eK (k:=2) (vs:=[.func (.func 44) #[] #[],.func (.func 45) #[] #[],.func (.func 47) #[] #[]]) (l':=[.func (.func 44) #[] #[],.func (.func 45) #[] #[],.func (.func 47) #[] #[]]) MY rfl rfl rfl rfl rfl (show _≤_ by simp) rfl rfl (zyN (cut (zyG (zbT (k:=2) (cs:=[.func (.func 44) #[] #[],.func (.func 45) #[] #[],.func (.func 47) #[] #[]]) MX rfl dc rfl rfl rfl rfl (zyR 1 rfl (zyN (zau (Gf 4 (ud (zyG (zaR rfl (ua (show ay (decide ((0:Int)<3))=ay true from aH ay dc) zbi) (zyN (zaL (gM rfl (bA (ct (zaL (zau (zyG (zyR 1 rfl (mS (v:=.func (.func 44) #[] #[]) rfl dc rfl rfl (fun _=>by kernel_rfl) (zyR 2 rfl (zyH (zyR 3 rfl (kj (k:=0) rfl (fun l=>kj (k:=1) rfl (fun j=>zbl h fun r3 w h=>kZ (v:=zI r3) (vs:=[c.v,a.v,.func (.func 44) #[] #[]]) d rfl dc rfl rfl rfl CJ (S0 l j w) (.own (As:=[kE c.v r1]) (cj 1) (fun _ _ h=>oo rh (aQ.1 h)) (.own (As:=[kE a.v r2]) (cg [1] kr rfl) (fun _ _ h=>oo rh (aQ.1 h)) .nil)) (zyR 1 rfl (zyH (zyR 1 rfl (zaR rfl zf8 (zyN (zyB rfl h (fun h=>?_) (fun h=>?_))))))))))))))))))))))))))))))))))))))
  ·refine zyG (zyR 1 rfl (zbl h fun H u h=>zaI (v:=zI H) (vs:=[zI r3]) rfl dc rfl rfl rfl CK (EB u) (zyR 1 rfl (zaR rfl (dE (r:=1) dc) (zyR 2 rfl (zyN (zaz (cD (bP (bP (cD (bP ?_))))))))))))
   cases h
   exact eB (rs:=[.tmp 6,.tmp 7]) () (.inl rfl) oh (.cons (.tmp rfl) (.cons (.tmp rfl) .nil)) rfl ah
  refine bA (ca (ct (bV (zaR rfl (dE (r:=1) dc) (zyR 1 rfl (bG (xm (ud (zyG (zaR rfl (ua (show ay (decide ((1:Int)<3))=ay true from aH ay dc) zbi) (zyN (zaL (gM rfl (bA (ct (zaL (zau (zyG (zyR 1 rfl (mS (v:=.func (.func 45) #[] #[]) rfl dc rfl rfl (fun _=>by kernel_rfl) (zyR 2 rfl (zyH (zyR 3 rfl (kj (k:=0) rfl (fun i=>kj (k:=1) rfl (fun g=>zbl h fun E t h=>kZ (v:=zI E) (vs:=[c.v,a.v,.func (.func 45) #[] #[]]) d rfl dc rfl rfl rfl CJ (S1 i g t) (.own (As:=[kE c.v r1]) (cj 1) (fun _ _ h=>oo rh (aQ.1 h)) (.own (As:=[kE a.v r2]) (cg [1] kr rfl) (fun _ _ h=>oo rh (aQ.1 h)) .nil)) (zyR 1 rfl (zyH (zyR 1 rfl (zaR rfl zf8 (zyN (zyB rfl h (fun h=>?_) (fun h=>?_)))))))))))))))))))))))))))))))))
  ·refine zyG (zyR 1 rfl (zbl h fun G q h=>zaI (v:=zI G) (vs:=[zI E]) rfl dc rfl rfl rfl CK (EB q) (zyR 1 rfl (zaR rfl (dE (r:=2) dc) (zyR 2 rfl (zyN (zaz (cD (bP (bP (cD (bP ?_))))))))))))
   cases h
   exact eB (rs:=[.tmp 6,.tmp 7]) () (.inl rfl) oh (.cons (.tmp rfl) (.cons (.tmp rfl) .nil)) rfl ah
  refine bA (ca (ct (bV (zaR rfl (dE (r:=2) dc) (zyR 1 rfl (bG (xm (ud (zyG (zaR rfl (ua (show ay (decide ((2:Int)<3))=ay true from aH ay dc) zbi) (zyN (zaL (gM rfl (bA (ct (zaL (zau (zyG (zyR 1 rfl (mS (v:=.func (.func 47) #[] #[]) rfl dc rfl rfl (fun _=>by kernel_rfl) (zyR 2 rfl (zyH (zyR 3 rfl (kj (k:=0) rfl (fun f=>kj (k:=1) rfl (fun e=>zbl h fun D p h=>kZ (v:=zI D) (vs:=[c.v,a.v,.func (.func 47) #[] #[]]) d rfl dc rfl rfl rfl CJ (S2 f e p) (.own (As:=[kE c.v r1]) (cj 1) (fun _ _ h=>oo rh (aQ.1 h)) (.own (As:=[kE a.v r2]) (cg [1] kr rfl) (fun _ _ h=>oo rh (aQ.1 h)) .nil)) (zyR 1 rfl (zyH (zyR 1 rfl (zaR rfl zf8 (zyN (zyB rfl h (fun h=>?_) (fun h=>?_)))))))))))))))))))))))))))))))))
  ·refine zyG (zyR 1 rfl (zbl h fun F m h=>zaI (v:=zI F) (vs:=[zI D]) rfl dc rfl rfl rfl CK (EB m) (zyR 1 rfl (zaR rfl (dE (r:=3) dc) (zyR 2 rfl (zyN (zaz (cD (bP (bP (cD (bP ?_))))))))))))
   cases h
   exact eB (rs:=[.tmp 6,.tmp 7]) () (.inl rfl) oh (.cons (.tmp rfl) (.cons (.tmp rfl) .nil)) rfl ah
  exact bA (ca (ct (bV (zaR rfl (dE (r:=3) dc) (zyR 1 rfl (bG (xm (ud (zyG (zaR rfl (ua (show ay (decide ((3:Int)<3))=ay false from aH ay dc) zbi) (zyN (zaL (eh rfl (dF (bU (bU (dG (cH () h rfl (bE rfl) ah))))))))))))))))))
 rintro _ h
 rw[z] at h
 refine zyG (zyR 2 rfl (zaI (v:=zI (dh a1.data.toList b1.data.toList)) (vs:=[.string a1,.string b1]) rfl dc rfl rfl rfl CI (C9 a1 b1) (zyR 2 rfl (zyN (zaz ?_)))))
 cases h
 exact eB (rs:=[.tmp 6,.tmp 7]) () (.inl rfl) oh (.cons (.tmp rfl) (.cons (.tmp rfl) .nil)) rfl ah
def zcv (o1:cw) (a:Option ae) (r1:(List dq)) (b:Option ae):Option ae := aM (decide ((0:Int)<(r1.length:Int))) (aT (zcx r1 0) fun (q1:dq)=>aM ((q1.sort:Int)==3) (aT (zcx o1.units q1.place) fun (q2:ae)=>aT (uI q2) fun (r2:ae)=>aT (y6 r2) fun (r3:ae)=>some r3) (aM ((q1.sort:Int)==2) (some (⟨#[48,45,57]⟩:ae)) (a))) (a)
def wP (o1:cw) (a:ae):Option ae := cn (fun (b:Option ae)=>aT (uM o1 a) fun (r1:(List dq))=>zaC none (zcv o1 b r1) zbC) (some (⟨#[63]⟩:ae))
theorem JZ {_g:Nat} {o1:cw} {_f _a _c _d _h:Hd} {p:ae} {r:ae} (h:wP o1 p=some r):iu prog 23 [zP _g,.string p] [cells _g [_f.v,.map (some (bm _a)),.map (some (bm _c)),.map (some (bm _d)),_h.v] 72,bD _f.v o1.units,cG (fun n:ae=>af n) (fun n:Int=>aC .i64 n) (bm _a) o1.place,dU (bm _c) o1.fors,cG (fun n:ae=>af n) (fun n:Bool=>ay n) (bm _d) o1.skips,bD _h.v o1.lines] [] (fun _:Unit=>(.string r)) (fun _=>[]):=by
 unfold wP at h
 refine iu.intro func23 rfl ntmps23 (by simp) (fun w0 K a=>zbp h fun m z h=>zaM (β:=Unit) 1 rfl (fun b=>m=some r) (fun b=>[]) (fun b=>[]) (fun b=>[]) (fun cut=>?_) ?_)
 ·refine zyG (zyR 1 rfl (zyN (cut (zyG (zyR 1 rfl (zaR rfl (FX underlying29) (zyN (gM rfl (zaL (bV (zyR 2 rfl (zbl h fun r1 y h=>zlS (vs:=[zP _g,.string p]) a rfl dc rfl rfl rfl CH (En (_g:=_g) (o1:=o1) (_f:=_f) (_a:=_a) (_c:=_c) (_d:=_d) (_h:=_h) y) ah (.ro 0 rfl (.ro 1 rfl (.ro 2 rfl (.ro 3 rfl (.ro 4 rfl (.ro 5 rfl .nil)))))) (fun v1=>iq (k:=0) rfl (fun g B=>?_))))))))))))))
  subst B
  refine gK (k:=0) rfl dc rfl rfl bS (zyR 1 rfl (zyN (zau (eO (β:=Nat) (fun b=>zaC none (zcv o1 m r1) b=some r) (fun b=>[]) (fun b=>[(0,zP _g),(11,g.v),(12,zI (r1.length:Int)),(13,zI 0)]) (fun b=>[kE g.v r1]) (fun b=>b) zbC h rfl (bE rfl) (cj 1) (fun t h=>?_)))))
  cases t with
  |zero=>exact eG h
  |succ t=>
   obtain⟨C,l⟩:∃ag,ag=zaC none (zcv o1 m r1) t:=⟨_,rfl⟩
   have h:zcv o1 m r1 C=some r:=by rw[l];exact h
   unfold zcv at h
   refine zyG (zaR rfl zbi (zyN (zaL (zyB rfl h (fun h=>?_) (fun h=>?_)))))
   ·refine bA (ct (zaL (zau (zyG (zbl h fun q1 f h=>eY (k:=0) f bS oK rfl dc rfl rfl rfl rfl (mz (i:=(0:Int).toNat) (j:=0) (k:=0) (q:=q1) (cs:=(iD q1)) o7 rh rfl dc rfl rfl (ep f) rfl rfl rfl (zbk ug rfl dc (fun b1=>eK (k:=1) (vs:=(iD q1)) (l':=(iD q1)) oK rfl rfl rfl rfl rfl (show _≤_ by simp) rfl rfl (zyN (zaL (zyG (zab zur rfl dc rfl (show _=0 from rfl) (zat (k:=1) dQ rfl dc rfl rfl rfl (zyN (zau (zyG (zaR rfl zbe (zyR 1 rfl (zyN (zyB rfl h (fun h=>?_) (fun h=>?_)))))))))))))))))))))
    ·refine zaL (zbl h fun q2 e h=>zbl h fun r2 x h=>zbl h fun r3 w h=>zdb 6 [(0,21,zP _g),(1,22,zP _g),(2,23,zP _g),(3,24,_f.v),(4,25,.pointer (some ⟨b1,1,none⟩)),(5,26,zI q1.place)] mixed kr kr dc (by rfl) kr kr (zyP 1 0 rfl (zae (fun D n d c u i=>za8 rfl dc (bC 0 u d) (zaT 1 u i)) (zae (fun D n d c u i=>zab zn6 rfl dc (bC 1 u d) (show _=0 from rfl) (zaT 2 u i)) (zae (fun D n d c u i=>zd3 (i:=0) a rfl nK rfl dc (bC 2 u d) rfl (zaT 3 u i)) (zae (fun D n d c u i=>zab CA rfl dc (zbA (by rfl) rfl) (show _=1 from rfl) (zaT 4 u i)) (zae (fun D n d c u i=>zat (k:=1) dQ rfl dc (bC 4 u d) rfl rfl (zaT 5 u i)) ce)))))) (fm (a.vw (i:=1) rfl) e aG gG rfl dc rfl rfl rfl (zY (n:=0+(q1.place:Int).toNat) (j:=0) (i:=1) (q:=q2) a rfl eb gj rfl dc rfl (bX (a.vw (i:=1) rfl) e) rfl dc rfl (zaI (v:=.string r2) (vs:=[.string q2]) rfl dc rfl rfl rfl G3 (I6 x) (zaI (v:=.string r3) (vs:=[.string r2]) rfl dc rfl rfl rfl NA (SW w) (zyR 1 rfl (zyN (zaz (cD (bP (cD (bP (bP (cD (bP ?_)))))))))))))))
     cases h
     exact cZ 4 results23
    refine zyG (zaR rfl zbe (zyR 1 rfl (zyN (zyB rfl h (fun h=>?_) (fun h=>?_)))))
    ·refine zyG (zyR 1 rfl (zyN (zaz (cD (bP (cD (bP (bP (cD (bP ?_))))))))))
     cases h
     exact cZ 4 results23
    exact bA (ca (ct (dF (zF dc (bU (bU (dG (cH () h rfl (qo) ah))))))))
   exact dF (bU (bU (dG (cH () h rfl (qo) ah))))
 rintro _ h
 rw[z] at h
 refine zyG (zyR 1 rfl (zyN (zaz ?_)))
 cases h
 exact cZ 4 results23
abbrev cb:=dh
def be:Nat→Nat→List UInt8
 |0,_=>[]
 |k+1,m=>sX (m / 256 ^ k)::be k (m % 256 ^ k)
structure sL (e:El):Prop where
 so:e.sort=1∨e.sort=2∨e.sort=3∨e.sort=4
 pl:0≤e.place∧e.place<65536
 di:e.digits.size≤300000
 nd:e.sort≠2→e.digits=ad
 ma:∀c∈e.marks.data.toList,c≠0
 ml:e.marks.size≤300000
 gr:e.great=0∨e.great=1
def c1 (e:El):List UInt8:=be 1 e.sort.toNat++be 2 e.place.toNat++(if e.sort=2 then be 4 e.digits.size++e.digits.data.toList else [])
def k1 (x:List El):List UInt8:=x.flatMap c1++[0]
def k2 (x:List El):List UInt8:=x.flatMap fun e=>e.marks.data.toList++[0]
def k3 (x:List El):List UInt8:=x.map fun e=>sX e.great.toNat
def Bl (o:lP):Prop:=∀u i,o.p u=some i→0≤i∧i<65536
theorem Bm (m:ae):∀ {l:List El} {e:El},e∈ow m l→e∈l∨∃c∈l,e=⟨c.sort,c.place,c.digits,m,c.great⟩
 |[],e,h=>.inl h
 |[a],e,h=>.inr ⟨a,aq ..,bl.1 h⟩
 |a::b::l,e,h=>by
  rw[ow] at h
  rcases aY.1 h with rfl|h
  ·exact .inl (aq ..)
  ·rcases Bm m h with h|⟨c,h1,h2⟩
   ·exact .inl (ak _ h)
   ·exact .inr ⟨c,ak _ h1,h2⟩
theorem S4 {r:Int} (h:eE r=true):∀c∈(ac r).data.toList,c≠0:=by
 have h:=of_decide_eq_true h
 have key:((eV 880).all fun n=>decide (n<768)||((ac (n:Int)).data.toList.all fun c=>c != 0))=true:=by decide +kernel
 have:=bd.1 key r.toNat (kz.2 (by omega))
 rw[show ((r.toNat:Nat):Int)=r by omega,aj (by omega),dk] at this
 intro c hc
 exact du.1 (bd.1 this c hc)
theorem J0:∀ {l:List Tk},(∀x∈l,iE x=true)→(∀c∈(lY l).data.toList,c≠0)∧(lY l).size≤4*l.length
 |[],_=>⟨(fun c h=>nomatch (show c∈([]:List UInt8) from h)),bi _⟩
 |x::l,h=>by
  obtain⟨h1,h2⟩:=J0 (l:=l) fun y hy=>h y (ak _ hy)
  unfold lY at h1 h2 ⊢
  rw[iN,Ep,aJ,ab]
  have:=mh x.1
  refine⟨fun c hc=>?_,by omega⟩
  rcases bH.1 hc with hc|hc
  ·exact S4 (h x (aq ..)) c hc
  ·exact h1 c hc
theorem wQ:∀ {l:List Tk},(∀x∈l,x.2.size≤4)→(im l).size≤4*l.length
 |[],_=>bi _
 |x::l,h=>by
  have h2:=wQ (l:=l) fun y hy=>h y (ak _ hy)
  have h1:=h x (aq ..)
  unfold im at h2 ⊢
  rw[iN,aJ,ab];omega
theorem uP {α:Type} {p:α→Bool} {l:List α} {x:α} (h:x∈l.takeWhile p):p x=true∧x∈l :=
 ⟨bd.1 (rP (p:=p) (l:=l)) x h,(cV p).subset h⟩
theorem S5:sL kH:=⟨.inl rfl,(by show (0:Int)≤0∧(0:Int)<65536;omega),by decide,fun _=>rfl,(fun c h=>nomatch (show c∈([]:List UInt8) from h)),by decide,.inl rfl⟩
theorem S6 (l:List Tk):qb l=0∨qb l=1:=by unfold qb;split<;>simp
theorem S7 (o:lP) (hf:tM o) (hp:Bl o) (x:Tk) (l:List Tk) (q:∀y∈x::l,y.2.size≤4) (m:(x::l).length≤65536) (g:List El) (h:(kO o x l).2=some g):(∀e∈g,sL e)∧g.length≤4:=by
 unfold kO at h
 split at h
 ·rename_i hk
  have hL:cW x.1=true:=(y3 x).1.1 hk
  have hm:=Et o hf x l hL
  injection h with h
  subst h
  have d:∀y∈((x::l).drop (kv o x l).1).takeWhile iE,iE y=true:=fun y hy=>(uP hy).1
  have n:(((x::l).drop (kv o x l).1).takeWhile iE).length≤65536:=by
   have:=(cV iE (l:=(x::l).drop (kv o x l).1)).length_le
   rw[aR] at this;omega
  obtain⟨j,t⟩:=J0 d
  refine⟨fun e he=>?_,by rw[JT,ar];exact hm.2.2.2⟩
  have base:∀u,sL (ie o (qb ((x::l).take (kv o x l).1)) u):=fun u=>by
   have a:0≤(o.p u).getD 0∧(o.p u).getD 0<65536:=by
    cases k:o.p u with
    |none=>rw[hO];omega
    |some i=>rw[ei];exact hp u i k
   exact⟨.inr (.inr (.inl rfl)),a,by show (0:Nat)≤_;omega,fun _=>rfl,(fun c h=>nomatch (show c∈([]:List UInt8) from h)),by show (0:Nat)≤_;omega,S6 _⟩
  rcases Bm _ he with he|⟨v,f,rfl⟩
  ·obtain⟨u,_,rfl⟩:=aS.1 he
   exact base u
  ·obtain⟨u,_,rfl⟩:=aS.1 f
   have b:=base u
   exact⟨b.so,b.pl,b.di,b.nd,j,by show (lY _).size≤_;omega,b.gr⟩
 ·split at h
  ·injection h with h
   subst h
   refine⟨fun e he=>?_,by simp⟩
   rw[bl] at he
   subst he
   have h1:(im (x::l.takeWhile fy)).size≤4*(x::l.takeWhile fy).length:=wQ fun y hy=>q y (by
    rcases aY.1 hy with rfl|hy
    ·exact aq ..
    ·exact ak _ (uP hy).2)
   have h2:=(cV fy (l:=l)).length_le
   have h3:(rB (x::l.takeWhile fy)).size≤(im (x::l.takeWhile fy)).size:=by
    rw[gJ,gJ]
    exact (List.dropWhile_sublist _).length_le
   rw[ab] at m h1
   exact⟨.inr (.inl rfl),by show (0:Int)≤0∧(0:Int)<65536;omega,by show (rB _).size≤_;omega,fun h=>absurd rfl h,(fun c h=>nomatch (show c∈([]:List UInt8) from h)),by show (0:Nat)≤_;omega,.inl rfl⟩
  ·split at h
   ·cases h
   ·split at h
    ·injection h with h
     subst h
     refine⟨fun e he=>?_,by simp⟩
     rw[bl] at he
     subst he
     have r:0≤kG x.2∧kG x.2≤255:=by unfold kG;have:=(x.2.data.toList.headD 0).toNat_lt;omega
     exact⟨.inr (.inr (.inr rfl)),by show 0≤kG x.2∧kG x.2<65536;omega,by show (0:Nat)≤_;omega,fun _=>rfl,(fun c h=>nomatch (show c∈([]:List UInt8) from h)),by show (0:Nat)≤_;omega,.inl rfl⟩
    ·injection h with h
     subst h
     exact⟨(fun e he=>by cases he),by simp⟩
theorem EG (o:lP) (hf:tM o) (hp:Bl o):∀ (n:Nat) (l:List Tk),(∀y∈l,y.2.size≤4)→l.length≤65536→(∀a,some a∈lZ o n l→(∀e∈a,sL e)∧a.length≤4)∧(lZ o n l).length≤n
 |0,l,_,_=>⟨(fun a h=>by cases h),bi _⟩
 |n+1,[],_,_=>⟨(fun a h=>by cases h),cm _⟩
 |n+1,x::l,hl,hn=>by
  obtain⟨h1,h2⟩:=EG o hf hp n ((x::l).drop (kO o x l).1) (fun y hy=>hl y (fV hy)) (by rw[aR];omega)
  rw[lZ]
  refine⟨fun a h=>?_,by rw[ab];omega⟩
  rcases aY.1 h with h|h
  ·exact S7 o hf hp x l hl hn a h.symm
  ·exact h1 a h
theorem Bn:∀ (cs:List (Option (List El))) (out:List El) (sp:Bool),(∀b,some b∈cs→(∀e∈b,sL e)∧b.length≤4)→(∀e∈out,sL e)→(∀e∈l0 cs out sp,sL e)∧(l0 cs out sp).length≤out.length+5*cs.length
 |[],out,sp,_,h=>⟨h,bi _⟩
 |none::cs,out,sp,hc,h=>by
  obtain⟨h1,h2⟩:=Bn cs out true (fun b he=>hc b (ak _ he)) h
  exact⟨h1,by rw[ab];show (l0 cs out true).length≤_;omega⟩
 |some []::cs,out,sp,hc,h=>by
  obtain⟨h1,h2⟩:=Bn cs out sp (fun b he=>hc b (ak _ he)) h
  exact⟨h1,by rw[ab];show (l0 cs out sp).length≤_;omega⟩
 |some (e::b)::cs,out,sp,hc,h=>by
  have he:=hc _ (aq ..)
  have hg:=y2 sp out
  obtain⟨h1,h2⟩:=Bn cs (out++iZ sp out++e::b) false (fun b he=>hc b (ak _ he)) (fun a ha=>by
   rcases bH.1 ha with ha|ha
   ·rcases bH.1 ha with ha|ha
    ·exact h a ha
    ·unfold iZ at ha
     split at ha
     ·rw[bl.1 ha];exact S5
     ·cases ha
   ·exact he.1 a ha)
  refine⟨h1,?_⟩
  show (l0 cs (out++iZ sp out++e::b) false).length≤_
  have:=he.2
  simp only[aa,ab] at h2 this ⊢
  omega
theorem S8 (o:lP) (hf:tM o) (hp:Bl o) (l:List Tk) (a:∀y∈l,y.2.size≤4) (c:l.length≤65536):(∀e∈sH o l,sL e)∧(sH o l).length≤327680:=by
 unfold sH
 obtain⟨h1,h2⟩:=EG o hf hp l.length (l.drop (qK o l)) (fun y hy=>a y (fV hy)) (by rw[aR];omega)
 obtain⟨h3,b⟩:=Bn (lZ o l.length (l.drop (qK o l))) [] false h1 (fun e h=>by cases h)
 exact⟨h3,by rw[aI] at b;omega⟩
theorem sM {t:cN} (h:jC t):t.bs.length≤4:=by
 rcases h with h|h
 ·rw[h.2];exact (xh t.r).2
 ·unfold pN at h;simp at h;omega
theorem EH (t:ae) (ht:sK t):(∀y∈fR t,y.2.size≤4)∧(fR t).length≤65536:=by
 have h1:=ht.2
 have h2:=qc (fY t)
 refine⟨fun y hy=>?_,by unfold fR mI;rw[ar];omega⟩
 obtain⟨x,hx,rfl⟩:=aS.1 hy
 have:=sM (nX _ x hx)
 show (⟨x.bs.toArray⟩:ae).size≤4
 rw[gJ]
 simpa using this
def pC (o:cw) (t:ae):List El:=sH (dw o) (fR t)
structure J1 (o:cw):Prop where
 fo:tM (dw o)
 pl:Bl (dw o)
theorem S9 {o:cw} (h:J1 o) (t:ae) (ht:sK t):(∀e∈pC o t,sL e)∧(pC o t).length≤327680 :=
 S8 _ h.fo h.pl _ (EH t ht).1 (EH t ht).2
def ba (l:List UInt8):ae:=⟨l.toArray⟩
theorem qN (l:List UInt8):(ba l).data.toList=l:=by unfold ba;simp
theorem wR (l:List UInt8):(ba l).size=l.length:=by rw[gJ,qN]
theorem Ta:((eV 1120).all fun n=>!cW (n:Int)||(cW (cr (n:Int))&&decide (cr (cr (n:Int))=cr (n:Int))&&!great (cr (n:Int))&&(decide (zbO (n:Int) tabS≠none)||decide (zbO (cr (n:Int)) tabS=none))))=true:=by decide +kernel
theorem tN {r:Int} (h:cW r=true):cW (cr r)=true∧cr (cr r)=cr r∧great (cr r)=false∧(zbO r tabS=none→zbO (cr r) tabS=none):=by
 have h1:=mF r h
 have:=bd.1 Ta r.toNat (kz.2 (by omega))
 rw[show ((r.toNat:Nat):Int)=r by omega,h] at this
 simp only[Bool.not_true,dk,Bool.and_eq_true,decide_eq_true_eq,dy,Bool.not_eq_true'] at this
 exact⟨this.1.1.1,this.1.1.2,this.1.2,fun a=>this.2.resolve_left (fun h=>h a)⟩
theorem Tb {r:Int} (h:cW r=false):cr r=r:=by
 unfold cr
 have:great r=false:=by
  unfold cW at h
  cases hg:great r with
  |false=>rfl
  |true=>rw[hg] at h;cases h
 rw[this];rfl
def gW (x:Tk):Tk:=if dY x then (cr x.1,ac (cr x.1)) else x
def jm (s:ae):ae:=im ((fR s).map gW)
def gS (c:bc×List bc):List Int:=cr c.1.Rune::(np c++nq c)
theorem J2:tI (iO gS):=D7 (fun c _=>by unfold gS;simp) (fun c hc a hm r hr=>by
 obtain⟨h1,h2⟩:=yM hm
 unfold gS at hr
 rcases aY.1 hr with rfl|hr
 ·exact .inl (tN hc).1
 ·rcases bH.1 hr with hr|hr
  ·exact .inr (h1 r hr)
  ·exact .inr (h2 r hr))
theorem Tc:∀c:bc×List bc,dI c.1=true→zbO c.1.Rune tabS=none→(∀m∈c.2,isM m=true)→∀t,(iO gS c).head?=some t→eE (zgb t).Rune=false:=by
 intro c hL a hm t ht
 have e:iO gS c=(cr c.1.Rune::(np c++nq c)).map jL:=by unfold iO;rw[hL];rfl
 rw[e] at ht
 exact RW (tN hL).1 t ht
theorem EI (s:ae) (a:s.size≤65536):mI s=(je (dK s.data.toList)).flatMap (iO gA):=D6 RC (RE s a)
theorem y8 {r:Int} (h:vr r):tkT (jL r)=(r,ac r):=by
 have hv:=vP (wA h)
 have e:(jL r).bs=(ac r).data.toList:=(mW r).symm
 unfold tkT
 rw[hv,ap (by simp),e]
 have:(((jL r).r:Nat):Int)=r:=by show ((r.toNat:Nat):Int)=r;unfold vr at h;omega
 rw[this]
def pD (t:cN):cN:=if dY (tkT t) then jL (cr (tkT t).1) else t
theorem Bo (t:cN):tkT (pD t)=gW (tkT t):=by
 unfold pD gW
 cases h:dY (tkT t) with
 |true=>
  rw[ax rfl,ax rfl]
  exact y8 (tJ (tN (show cW (tkT t).1=true from h)).1)
 |false=>rw[ap (by simp),ap (by simp)]
theorem Td {s:ae} (f:s.size≤65536):∀c∈je (dK s.data.toList),(iO gA c).map pD=iO gS c:=by
 intro c hc
 rcases A8 (nX _) c hc with⟨a,e,d⟩|⟨a,e,t,d,g4⟩
 ·obtain⟨h1,h2⟩:=yM e
  have e1:iO gA c=(c.1.Rune::(np c++nq c)).map jL:=by unfold iO;rw[a,Eg];rfl
  have e2:iO gS c=(cr c.1.Rune::(np c++nq c)).map jL:=by unfold iO;rw[a];rfl
  rw[e1,e2,av,av,av]
  have hx:tkT (jL c.1.Rune)=(c.1.Rune,ac c.1.Rune):=y8 (tJ a)
  congr 1
  ·unfold pD
   rw[hx]
   exact ax (show cW c.1.Rune=true from a)
  ·rw[bY]
   refine dt fun m hm=>?_
   have b:eE m=true:=by
    rcases bH.1 hm with hm|hm
    ·exact h1 m hm
    ·exact h2 m hm
   show pD (jL m)=jL m
   unfold pD
   rw[y8 (yL b)]
   exact ap (by show ¬cW m=true;rw[qa b];simp)
 ·have e1:∀g,iO g c=[t]:=fun g=>by unfold iO;rw[a,g4,uJ d];rfl
  rw[e1,e1]
  have hL:dY (tkT t)=false:=by
   have:dI (zgb t)=false:=by rw[←g4];exact a
   exact this
  show [pD t]=[t]
  unfold pD
  rw[hL,ap (by simp)]
theorem J3 {α β:Type} {f g:α→List β}:∀ {l:List α},(∀x∈l,f x=g x)→l.flatMap f=l.flatMap g
 |[],_=>rfl
 |x::l,h=>by rw[aK,aK,h x (aq ..),J3 fun y hy=>h y (ak _ hy)]
theorem J4 {s:ae} (a:s.size≤65536):(mI s).map pD=(je (dK s.data.toList)).flatMap (iO gS):=by
 rw[EI s a,List.map_flatMap]
 exact J3 (Td a)
theorem Te (ts:List cN):(im ((ts.map tkT).map gW)).data.toList=bJ (ts.map pD):=by
 rw[←wN,bY,bY]
 congr 1;congr 1;congr 1
 exact dt fun t _=>(Bo t).symm
theorem EJ (s:ae) (a:s.size≤65536):(jm s).data.toList=bJ ((je (dK s.data.toList)).flatMap (iO gS)):=by
 rw[←J4 a];exact Te _
theorem EK (s:ae) (a:s.size≤65536):dK (jm s).data.toList=(mI s).map pD:=by
 rw[J4 a];exact D6 J2 (EJ s a)
def sN (c:bc×List bc):ae:=if dI c.1 then iL (gS c) else c.1.Text
theorem J5 (c:bc×List bc):np (mi c)=np c∧nq (mi c)=nq c:=by
 unfold np nq
 have:=yK c.2
 constructor
 ·show (loI (c.2.map jB)).map _=_;rw[this.1,bY];rfl
 ·show (hiI (c.2.map jB)).map _=_;rw[this.2,bY];rfl
theorem J6 (c:bc×List bc):sN (mi c)=sN c:=by
 unfold sN gS
 rw[(J5 c).1,(J5 c).2];rfl
theorem J7 (s:ae) (a:s.size≤65536):J sN (kq s)=jm s:=by
 apply qM
 rw[EJ s a]
 exact D8 J6 (fun c hL _ _=>by unfold sN;rw[hL];rfl) (fun c hL _=>by unfold sN;rw[hL];rfl) s a
theorem Tf {c:bc×List bc} (hL:dI c.1=true) (hm:∀m∈c.2,isM m=true) (i:zbO c.1.Rune tabS=none):∃d:bc×List bc,je (iO gS c)=[d]∧dI d.1=true∧k7 d.1∧(∀m∈d.2,isM m=true∧k7 m)∧d.1.Rune=cr c.1.Rune∧np d=np c∧nq d=nq c:=by
 obtain⟨h1,h2⟩:=yM hm
 have e:iO gS c=(cr c.1.Rune::(np c++nq c)).map jL:=by unfold iO;rw[hL];rfl
 have hp:ic (cr c.1.Rune)=[cr c.1.Rune]:=by unfold ic;rw[(tN hL).2.2.2 i]
 have:=RU (c:=(ji (cr c.1.Rune),[])) (tN hL).1 (st:=np c++nq c) (fun m hm=>by
  rcases bH.1 hm with hm|hm
  ·exact h1 m hm
  ·exact h2 m hm) hp rfl
 obtain⟨o1,h,g,f,j⟩:=this
 rw[←e] at o1
 refine⟨_,o1,h,g,f,rfl,?_⟩
 obtain⟨k1,k2⟩:=RP (cr c.1.Rune) ([]++(np c++nq c))
 obtain⟨b,a⟩:=RS c
 rw[k1,k2,aW,rQ,rQ,(Jy b).1,(Jy b).2,(Jz a).1,(Jz a).2]
 simp
theorem EL (s:ae) (a:s.size≤65536):fY (jm s)=jm s:=by
 rw[←J7 s a]
 refine RL J2 Tc Jn J6 a (x:=J sN (kq s)) (by rw[J7 s a];exact EJ s a) (fun c hL hm e b=>?_) (fun y hy=>by unfold sN;rw[hy];rfl)
 obtain⟨d,d1,d2,d3,d4,d5,d6,d7⟩:=Tf hL (fun m h=>(hm m h).1) e
 rw[d1,iN,pA,aX,RV d2 d3 d4,Eg,d5,d6,d7]
 unfold sN
 rw[hL];rfl
theorem Tg (s:ae) (a:s.size≤65536):mI (jm s)=(mI s).map pD:=by
 unfold mI
 rw[EL s a];exact EK s a
theorem J8 (s:ae) (a:s.size≤65536):fR (jm s)=(fR s).map gW:=by
 unfold fR
 rw[Tg s a,bY,bY]
 exact dt fun t _=>Bo t
theorem J9 (i:Nat) (t:cN) (h:jC t):wJ (pT i t)=some (dY (tkT t)):=by
 unfold wJ
 refine zdG (nt h) ?_
 show some ((fq t.broken (t.r:Int):Int)==1)=_
 rw[rC,tL]
theorem Th (i:Nat) (t:cN) (h:jC t):uK (pT i t)=some (iE (tkT t)):=by
 unfold uK
 refine zdG (nt h) ?_
 show some ((fq t.broken (t.r:Int):Int)==2)=_
 rw[rC,yV]
theorem Bp {x:Tk} (h:x.2.size≤4):(gW x).2.size≤4:=by
 unfold gW
 split
 ·exact mh _
 ·exact h
theorem Kf (S:ae) (j:S.size≤1000000000):∀ (ts A:List cN) (b:ae),S.data.toList=bJ (A++ts)→(∀t∈ts,jC t)→b.size+4*ts.length≤100000000000 →
  zdw (fun c=>(some c:Option ae)) (zdS S) (pL (bJ A).length ts) b=some (b++im ((ts.map tkT).map gW))
 |[],A,b,_,_,_=>by
  rw[pL,xc]
  show some b=some (b++ad)
  rw[aX]
 |t::ts,A,b,hd,hok,hb=>by
  have ht:=hok t (aq ..)
  have g:(bJ A).length+(t.bs.length+(bJ ts).length)=S.size:=by rw[gJ,hd,kp,ko,aa,aa]
  have e:(bJ A).length+t.bs.length=(bJ (A++[t])).length:=by rw[kp,aa];simp[bJ]
  rw[ab] at hb
  have next:∀x:ae,x.size≤4→zdw (fun c=>(some c:Option ae)) (zdS S) (pL ((bJ A).length+t.bs.length) ts) (b++x)=some ((b++x)++im ((ts.map tkT).map gW)):=fun x hx=>by
   rw[e]
   exact Kf S j ts (A++[t]) (b++x) (by rw[hd,aB];rfl) (fun y hy=>hok y (ak _ hy)) (by rw[aJ];omega)
  rw[pL,nI]
  generalize i:zdw (fun c=>(some c:Option ae)) (zdS S) (pL ((bJ A).length+t.bs.length) ts)=ag at next ⊢
  unfold zdS
  refine bf (J9 _ t ht) ?_
  have k:im (((t::ts).map tkT).map gW)=(gW (tkT t)).2++im ((ts.map tkT).map gW):=by unfold im;rw[av,av,iN]
  rw[k,←cu]
  cases f:dY (tkT t) with
  |true=>
   obtain⟨h1,h2,h3⟩:=JW f
   have e2:(gW (tkT t)).2=ac (cr (t.r:Int)):=by unfold gW;rw[f,h1];rfl
   have l:=mh (cr (t.r:Int))
   rw[e2]
   exact bQ rfl (zdG (nt ht) (zdG (by show b.size+(ac (cr (t.r:Int))).size≤_;omega) (next _ l)))
  |false=>
   have e2:(gW (tkT t)).2=(tkT t).2:=by unfold gW;rw[f];rfl
   have hsz:=sM ht
   have h:(pT (bJ A).length t).At+(pT (bJ A).length t).Width=(((bJ A).length+t.bs.length:Nat):Int):=by
    show ((bJ A).length:Int)+(t.bs.length:Int)=_;push_cast;rfl
   have a:cL S (pT (bJ A).length t).At (((bJ A).length+t.bs.length:Nat):Int)=(tkT t).2:=by
    have:=yW (s:=S) (A:=A) (W:=[t]) (Z:=ts) (by rw[hd];rfl) rfl (b:=(bJ A).length+t.bs.length) (by simp[bJ])
    rw[show (pT (bJ A).length t).At=((bJ A).length:Int) from rfl,this]
    show J (·.2) [tkT t]=_
    rw[iN,pA,aX]
   have d:(tkT t).2.size≤4:=by rw[gJ];show t.bs.toArray.toList.length≤4;simpa using hsz
   rw[e2]
   refine bM rfl ?_
   rw[h,a]
   exact gO (zdG ⟨by show (0:Int)≤((bJ A).length:Int);omega,by show ((bJ A).length:Int)≤_;omega,by omega⟩ (gO (next _ d)))
theorem Ti (s:ae) (b:s.size≤65536):yQ s=some (jm s):=by
 have h1:=(sJ s b).2.1
 have h2:=qc (fY s)
 unfold yQ
 refine cA (bf (I4 s b) (bf (a:=fY s) rfl (bf (yC _ (by omega)) (cA ?_))))
 rw[sI]
 have:=Kf (fY s) (by omega) (dK (fY s).data.toList) [] ad (by rw[aW,pa]) (nX _) (by show 0+_≤_;omega)
 rw[c8] at this
 exact this
def nb:Nat→List Tk→Bool
 |_,[]=>true
 |k,x::l=>decide (k+1≤8)&&(dY x||(decide (k≠0)&&iE x))&&nb (k+1) l
def zfV (s:ae):ae:=if nb 0 (fR s) then jm s else ⟨#[]⟩
theorem Ks (x:Tk):dY (gW x)=dY x:=by
 unfold gW
 cases h:dY x with
 |true=>rw[ax rfl];exact (tN (show cW x.1=true from h)).1
 |false=>rw[ap (by simp)];exact h
theorem Tj (x:Tk):iE (gW x)=iE x:=by
 unfold gW
 cases h:dY x with
 |true=>
  rw[ax rfl]
  have h1:=Ed (tN (show cW x.1=true from h)).1
  have h2:=Ed (show cW x.1=true from h)
  show eE _=eE _
  rw[h1,h2]
 |false=>rw[ap (by simp)]
theorem Bq:∀ (l:List Tk) (k:Nat),nb k (l.map gW)=nb k l
 |[],k=>rfl
 |x::l,k=>by rw[av,nb,nb,Bq l,Ks,Tj]
theorem Kz (r:ae):∀ (ts:List cN) (i k:Nat),(∀t∈ts,jC t)→k≤8 →
  zdw (fun (e:Int)=>(some r:Option ae)) (zek (fun (d:Int)=>some (⟨#[]⟩:ae))) (pL i ts) (k:Int)=some (if nb k (ts.map tkT) then r else ⟨#[]⟩)
 |[],i,k,_,_=>rfl
 |t::ts,i,k,hok,hk=>by
  have ht:=hok t (aq ..)
  have next:=fun h=>Kz r ts (i+t.bs.length) (k+1) (fun y hy=>hok y (ak _ hy)) h
  rw[pL,nI,av,nb]
  generalize f:zdw (fun (e:Int)=>(some r:Option ae)) (zek (fun (d:Int)=>some (⟨#[]⟩:ae))) (pL (i+t.bs.length) ts)=ag at next ⊢
  unfold zek
  refine gO ?_
  by_cases c:k+1≤8
  ·refine fP (bf (J9 i t ht) ?_)
   have a:=next c
   push_cast at a
   rw[au c,fB]
   cases g:dY (tkT t) with
   |true=>refine bM rfl ?_;rw[a];simp
   |false=>
    refine bQ rfl ?_
    by_cases h0:k=0
    ·subst h0
     refine bQ (by decide) ?_
     simp
    ·have b:(((k:Int)+1:Int)==1)=false:=aA.2 (by omega)
     refine bM b (bf (Th i t ht) ?_)
     rw[dk,au h0,fB]
     cases hm:iE (tkT t) with
     |true=>refine bM rfl ?_;rw[a];simp
     |false=>refine bQ rfl ?_;simp
  ·refine eW ?_
   rw[aj c];simp
theorem Tm (s:ae) (b:s.size≤65536):wK s=some (zfV s):=by
 have h1:=(sJ s b).2.1
 have h2:=qc (fY s)
 have h3:(jm s).size≤1000000000:=by
  have:(jm s).size≤4*((fR s).map gW).length:=wQ fun y hy=>by
   obtain⟨x,hx,rfl⟩:=aS.1 hy
   obtain⟨t,ht,rfl⟩:=aS.1 hx
   refine Bp ?_
   rw[gJ]
   have:=sM (nX _ t ht)
   show t.bs.toArray.toList.length≤4
   simpa using this
  unfold fR mI at this
  rw[ar,ar] at this
  omega
 unfold wK
 refine cA (bf (Ti s b) (bf (a:=jm s) rfl (bf (yC _ (by omega)) (cA (cA ?_)))))
 rw[sI]
 have:=Kz (jm s) (dK (jm s).data.toList) 0 0 (nX _) (by omega)
 refine this.trans ?_
 unfold zfV
 rw[EK s b]
 have e:((mI s).map pD).map tkT=(fR s).map gW:=by
  unfold fR
  rw[bY,bY]
  exact dt fun t _=>Bo t
 rw[e,Bq]
def gC:List UInt8→Nat→Option (Nat×List UInt8)→List (Nat×List UInt8)
 |[],_,cur=>cur.toList
 |c::l,i,cur=>if c=32 then cur.toList++gC l (i+1) none else match cur with
  |none=>gC l (i+1) (some (i,[c]))
  |some (a,w)=>gC l (i+1) (some (a,w++[c]))
theorem y9 (l:List UInt8) (i:Nat) (a:Option (Nat×List UInt8)):gC (32::l) i a=a.toList++gC l (i+1) none:=by
 cases a<;>rfl
theorem EM {c:UInt8} (h:c≠32) (l:List UInt8) (i:Nat):gC (c::l) i none=gC l (i+1) (some (i,[c])):=by
 rw[gC,ap h]
theorem EN {c:UInt8} (h:c≠32) (l:List UInt8) (i a:Nat) (w:List UInt8):gC (c::l) i (some (a,w))=gC l (i+1) (some (a,w++[c])):=by
 rw[gC,ap h]
def jv (at_:Int) (p:Nat×List UInt8):gk:=⟨at_+(p.1:Int),ba p.2⟩
theorem za {s:ae} {k:Nat} {c:UInt8} (h:s.data.toList[k]?=some c):jz s (k:Int)=some (c.toNat:Int):=by
 unfold jz
 rw[ax (by omega),bN]
 have:s.data[k]?=some c:=by rw[←jT];exact h
 rw[this];rfl
theorem Tn {s:ae} {k:Nat} {c:UInt8} (h:s.data.toList[k]?=some c):cL s (k:Int) ((k:Int)+1)=ba [c]:=by
 apply qM
 have hk:=(az.1 h)
 have e:=rD s k (k+1)
 push_cast at e
 rw[e,qN,fh]
 obtain⟨h1,h2⟩:=hk
 rw[bB h1,h2];rfl
theorem To (b:ae) (at_:Int) (C:b.size≤1000000000) (ha : -1000000000≤at_∧at_≤1000000000) (J:List gk→Option (List gk)) :
  ∀ (n k:Nat) (E:List (Nat×List UInt8)) (d:Option (Nat×List UInt8)),k≤b.size→b.size-k<n→E.length≤k→(∀a w,d=some (a,w)→w.length≤k)→E.length+d.toList.length≤k →
   zaC (fun _ _ _=>none) (zej b at_ J) n ((E++d.toList).map (jv at_)) d.isSome (k:Int)=J ((E++gC (b.data.toList.drop k) k d).map (jv at_)):=by
 intro n
 induction n with
 |zero=>intro k E d _ h;omega
 |succ n u=>
  intro k E d hk D F x hc
  rw[fX]
  generalize r:zaC (fun _ _ _=>none) (zej b at_ J) n=ag
  unfold zej
  by_cases p:k<b.size
  ·have q:k<b.data.toList.length:=by rw[←gJ];exact p
   obtain⟨c,g⟩:∃c,b.data.toList[k]?=some c:=⟨_,aO q⟩
   have f:b.data.toList.drop k=c::b.data.toList.drop (k+1):=by
    rw[bB q]
    have:=aO q
    rw[g] at this
    injection this with this
    rw[this]
   refine eW (cA (bf (za g) ?_))
   have t:(((c.toNat:Int):Int)==32)=decide (c=32):=by
    rw[dL,beq_iff_eq,decide_eq_true_iff]
    constructor
    ·intro h;exact kA.1 (by show c.toNat=32;omega)
    ·intro h;subst h;rfl
   have i:=fun (B:List (Nat×List UInt8)) (m:Option (Nat×List UInt8)) h1 h2 h3=>u (k+1) B m (by omega) (by omega) h1 h2 h3
   push_cast at i
   rw[r] at i
   rw[t,f]
   by_cases h:c=32
   ·rw[au h,h,y9]
    refine bQ rfl (gO ?_)
    have:=i (E++d.toList) none (by rw[aa];omega) (by intro a w h;cases h) (by rw[aa];show _+0≤_;omega)
    rw[show (none:Option (Nat×List UInt8)).toList=[] from rfl,aE] at this
    refine this.trans ?_
    rw[aB]
   ·rw[aj h]
    refine bM rfl ?_
    have e:=Tn g
    cases d with
    |none=>
     rw[EM h]
     refine bM rfl (gO (gO (gO (zdG (by rw[ar,aa];show _+0+1≤_;omega) (gO ?_)))))
     rw[e]
     have:=i E (some (k,[c])) (by omega) (by intro a w h;injection h with h;injection h with _ h;rw[←h];show 1≤_;omega) (by show _+1≤_;omega)
     refine Eq.trans ?_ this
     congr 1
     rw[cQ,cQ]
     show List.map (jv at_) E++[]++_=_
     rw[aE];rfl
    |some z=>
     obtain⟨a,w⟩:=z
     rw[EN h]
     have v:=x a w rfl
     have j:(E++(some (a,w)).toList).map (jv at_)=E.map (jv at_)++[jv at_ (a,w)]:=by rw[cQ];rfl
     have y:E.length+1≤k:=hc
     rw[j]
     have l:((E.map (jv at_)++[jv at_ (a,w)]).length:Int)-1=(E.length:Int):=by rw[aa,ar];simp
     rw[l]
     refine bQ rfl (gO (bf (gw (show (E.map (jv at_)++[jv at_ (a,w)])[E.length]?=some (jv at_ (a,w)) by
      rw[List.getElem?_append_right (by rw[ar];exact bi _),ar,mR];rfl)) (gO (gO ?_))))
     rw[e]
     refine zdG (by show (ba w).size+(ba [c]).size≤_;rw[wR,wR];show _+1≤_;omega) (gO ?_)
     have:=i E (some (a,w++[c])) (by omega) (by intro G w' h;injection h with h;injection h with _ h;rw[←h,aa];show _+1≤_;omega) (by show _+1≤_;omega)
     refine Eq.trans ?_ this
     congr 1
     rw[bN,pG _ _ (by rw[ar];exact bi _),ar,mR,cQ]
     have e2:(jv at_ (a,w)).text++ba [c]=ba (w++[c]):=by
      apply qM
      rw[Ep,qN,qN]
      show (ba w).data.toList++_=_
      rw[qN]
     show _++[(⟨(jv at_ (a,w)).at_,(jv at_ (a,w)).text++ba [c]⟩:gk)]=_++[jv at_ (a,w++[c])]
     rw[e2];rfl
  ·have:k=b.size:=by omega
   refine fP ?_
   rw[List.drop_eq_nil_of_le (by rw[←gJ];omega)];rfl
theorem Tp (b:ae) (at_:Int) (c:b.size≤1000000000) (ha : -1000000000≤at_∧at_≤1000000000):yO b at_=some ((gC b.data.toList 0 none).map (jv at_)):=by
 unfold yO
 refine cA ?_
 have:=To b at_ c ha some zbC 0 [] none (cm _) (by unfold zbC;omega) (cm _) (by intro a w h;cases h) (cm _)
 exact this
def zc4 (o1:cw) (m:List gk) (u:ae→ae→(List ae)→Option (zaw×cw)) (q2:gk) (l:ae→(List ae)→Int→Option (zaw×cw)) (a:ae) (b:List ae) (c:Int):Option (zaw×cw) := aM (decide ((c:Int)<(m.length:Int))) (cn (fun (k:ae→(List ae)→Option (zaw×cw))=>cn (fun (q:Int→ae→Bool→Bool→Option (zaw×cw))=>aT (zcx m c) fun (h:gk)=>aM ((c:Int)==0) (cn (fun (p:ae→Option (zaw×cw))=>aM (decide ((0:Int)<c)) (aU (a.size+(⟨#[32,97,102,116,101,114]⟩:ae).size≤9223372036854775807) <|p (a++(⟨#[32,97,102,116,101,114]⟩:ae))) (p a)) (fun (f:ae)=>k f b)) (aM (decide (q2.text=(⟨#[112,117,116]⟩:ae))) (aM ((c:Int)==2) (cn (fun (n:ae→Option (zaw×cw))=>aM (decide ((0:Int)<c)) (aU (a.size+(⟨#[32,97,102,116,101,114]⟩:ae).size≤9223372036854775807) <|n (a++(⟨#[32,97,102,116,101,114]⟩:ae))) (n a)) (fun (e:ae)=>k e b)) (q h.at_ h.text true ((c:Int)==2))) (q h.at_ h.text false false))) (fun (j:Int) (i:ae) (w:Bool) (v:Bool)=>aT (wK i) fun (r2:ae)=>aT (zcx b c) fun (x:ae)=>aT (zcx (b.set (c:Int).toNat r2) c) fun (t:ae)=>aM (decide (t=(⟨#[]⟩:ae))) (some ((⟨221,j⟩:zaw),o1)) (aT (zcx (b.set (c:Int).toNat r2) c) fun (r:ae)=>aT (uI r) fun (r3:ae)=>aU ((⟨#[32]⟩:ae).size+r3.size≤9223372036854775807) <|aU (a.size+((⟨#[32]⟩:ae)++r3).size≤9223372036854775807) <|k (a++((⟨#[32]⟩:ae)++r3)) (b.set (c:Int).toNat r2)))) (fun (g:ae) (d:List ae)=>aU (cp (c+1)) <|l g d (c+1))) (u q2.text a b)
def zc3 (o1:cw) (g:List gk) (a:List ae) (h:Option (zaw×cw)) (f:Int→Option (zaw×cw)) (b:Int):Option (zaw×cw) := aM (decide ((b:Int)<(a.length:Int))) (cn (fun (e:Option (zaw×cw))=>aT (zcx a b) fun (c:ae)=>aM (decide ((1:Int)<b)) (aM (!decide (c=(⟨#[]⟩:ae))) (aM (!((zbO c o1.place).isSome)) (aT (zcx g b) fun (d:gk)=>some ((⟨223,d.at_⟩:zaw),o1)) (e)) (e)) (e)) (aU (cp (b+1)) <|f (b+1))) (h)
def zb (o1:cw) (d:List gk) (g:Int):Option (zaw×cw) := aM (((o1.lines.length:Int):Int)==256) (aT (zcx d 0) fun (q1:gk)=>some ((⟨3,q1.at_⟩:zaw),o1)) (aT (yP d g) fun (r1:Int)=>aM (decide ((0:Int)≤r1)) (some ((⟨220,r1⟩:zaw),o1)) (cn (fun (y:ae→ae→(List ae)→Option (zaw×cw))=>aT (zcx d 0) fun (q2:gk)=>aU (0≤(d.length:Int)∧(d.length:Int)≤2147483648) <|zaC (fun _ _ _=>none) (zc4 o1 d y q2) zbC q2.text (bF ((d.length:Int):Int).toNat ad:List ae) 0) (fun (b:ae) (c:ae) (a:List ae)=>aM (decide (b=(⟨#[115,107,105,112]⟩:ae))) (aT (zcx a 1) fun (r:ae)=>aT (oR r) fun (k:ae)=>aM (((zbO k o1.skips).getD false)) (aT (zcx d 1) fun (q:gk)=>some ((⟨222,q.at_⟩:zaw),o1)) (aU (o1.lines.length+1≤2147483648) <|some ((⟨0,0⟩:zaw),(⟨o1.units,o1.place,o1.fors,hU k true o1.skips,o1.lines++[c]⟩:cw)))) (aT (zcx a 1) fun (p:ae)=>aT (yR o1 p) fun (n:Bool)=>aM (n) (aT (zcx d 1) fun (j:gk)=>some ((⟨222,j.at_⟩:zaw),o1)) (cn (fun (x:Option (zaw×cw))=>zaC (fun _=>none) (zc3 o1 d a x) zbC 0) (cn (fun (m:(List ae)→(List (ae×Int))→(List (ae×List ae))→(List (ae×Bool))→(List ae)→Option (zaw×cw))=>aM (decide (b=(⟨#[112,117,116]⟩:ae))) (aT (zcx a 3) fun (e:ae)=>aU (cp (((zbO e o1.place).getD 0)+1)) <|aT (zcx a 1) fun (i:ae)=>aU (0≤(((zbO e o1.place).getD 0)+1:Int)∧(((zbO e o1.place).getD 0)+1:Int)≤(o1.units.length:Int)∧o1.units.length≤2147483648) <|aT (wL (⟨jh o1.units (((zbO e o1.place).getD 0)+1) i,o1.place,o1.fors,o1.skips,o1.lines⟩:cw)) fun (f:cw)=>m f.units f.place f.fors f.skips f.lines) (aT (zcx a 1) fun (h:ae)=>aU (0≤(2:Int)∧(2:Int)≤(a.length:Int)∧((a.length:Int):Int)≤(a.length:Int)) <|m o1.units o1.place (hU h (dM a 2 (a.length:Int)) o1.fors) o1.skips o1.lines)) (fun (w:List ae) (v:List (ae×Int)) (u:List (ae×List ae)) (t:List (ae×Bool)) (l:List ae)=>aU (l.length+1≤2147483648) <|some ((⟨0,0⟩:zaw),(⟨w,v,u,t,l++[c]⟩:cw)))))))))
theorem Tq {_g:Nat} {o1:cw} {_f _a _c _d _h:Hd} {Y y:Value} {d9:List gk} {B:Nat} {L:List gk} (f:Vw Y d9 2 B y L) {S:Int} {r:(zaw×cw)} (h:zb o1 L S=some r):iu prog 31 [zP _g,y,zI S] [iX ui 2 Y B d9] [cells _g [_f.v,.map (some (bm _a)),.map (some (bm _c)),.map (some (bm _d)),_h.v] 72,bD _f.v o1.units,cG (fun n:ae=>af n) (fun n:Int=>aC .i64 n) (bm _a) o1.place,dU (bm _c) o1.fors,cG (fun n:ae=>af n) (fun n:Bool=>ay n) (bm _d) o1.skips,bD _h.v o1.lines] (fun b:Hd×Hd×Hd×Hd×Hd=>.agg (kD r.1).toArray) (fun b=>[cells _g [b.1.v,.map (some (bm b.2.1)),.map (some (bm b.2.2.1)),.map (some (bm b.2.2.2.1)),b.2.2.2.2.v] 72,bD b.1.v r.2.units,cG (fun n:ae=>af n) (fun n:Int=>aC .i64 n) (bm b.2.1) r.2.place,dU (bm b.2.2.1) r.2.fors,cG (fun n:ae=>af n) (fun n:Bool=>ay n) (bm b.2.2.2.1) r.2.skips,bD b.2.2.2.2.v r.2.lines]):=by
 unfold zb at h
 refine iu.intro func31 rfl ntmps31 (by simp) (fun w0 K G=>zyG (zbk zrj rfl dc (fun b1=>zyN (zaL (zyG (zyR 1 rfl (za8 rfl dc rfl (zab zpY rfl dc rfl (show _=4 from rfl) (zat (k:=0) nK rfl dc rfl rfl rfl (gK (k:=5) rfl dc rfl rfl aG (zaR rfl zbe (zyN (zyB rfl h (fun h=>?_) (fun h=>?_))))))))))))))
 ·refine zyG (zyR 1 rfl (zbl h fun q1 d1 h=>fm f d1 cE o8 rfl dc rfl rfl rfl (zab tp rfl dc rfl (show _=(B+(0:Int).toNat)*2 from rfl) (jr (n:=B+(0:Int).toNat) (j:=0) (i:=0) (q:=q1) G rfl (by omega) dQ rfl dc rfl (bX f d1) rfl rfl (zbb (v:=.agg #[zI 3,zI q1.at_]) (ps:=[(0,.const (zI 3)),(1,.tmp 27)]) rfl dc rfl (fun _=>by kernel_rfl) (eK (k:=6) (vs:=[zI 3,zI q1.at_]) (l':=[zI 3,zI q1.at_]) kn rfl rfl rfl rfl rfl (show _≤_ by simp) rfl rfl (zyN (zaz (bP ?_)))))))))
  cases h
  exact eB (rs:=[.cell 6 26]) (_f,_a,_c,_d,_h) (.inl rfl) jg (.cons (.cells kM (k:=6) rfl rfl rfl) .nil) rfl (cj 6)
 refine bA (ct (zaL (zyG (zyR 2 rfl (zbl h fun r1 ez h=>kZ (v:=zI r1) (vs:=[y,zI S]) G rfl dc rfl rfl rfl NG (RY f ez) (.ro 0 rfl .nil) (zyR 1 rfl (zyH (zyR 1 rfl (zaR rfl zbF (zyN (zyB rfl h (fun h=>?_) (fun h=>?_))))))))))))
 ·refine zyG (zyR 1 rfl (zbb (v:=.agg #[zI 220,zI r1]) (ps:=[(0,.const (zI 220)),(1,.tmp 34)]) rfl dc rfl (fun _=>by kernel_rfl) (eK (k:=6) (vs:=[zI 220,zI r1]) (l':=[zI 220,zI r1]) kn rfl rfl rfl rfl rfl (show _≤_ by simp) rfl rfl (zyN (zaz (bP ?_))))))
  cases h
  exact eB (rs:=[.cell 6 26]) (_f,_a,_c,_d,_h) (.inl rfl) jg (.cons (.cells kM (k:=6) rfl rfl rfl) .nil) rfl (cj 6)
 refine bA (ct (zbp h fun j1 e6 h=>zaM (β:=ae×ae×(List ae)×Value) 3 rfl (fun b=>j1 b.1 b.2.1 b.2.2.1=some r) (fun b=>[]) (fun b=>[(0,zP _g),(1,y),(6,zP b1),(8,.string b.1),(9,.string b.2.1),(10,b.2.2.2)]) (fun b=>[cells _g [_f.v,.map (some (bm _a)),.map (some (bm _c)),.map (some (bm _d)),_h.v] 72,bD _f.v o1.units,cG (fun n:ae=>af n) (fun n:Int=>aC .i64 n) (bm _a) o1.place,dU (bm _c) o1.fors,cG (fun n:ae=>af n) (fun n:Bool=>ay n) (bm _d) o1.skips,bD _h.v o1.lines,cells b1 [zI 0,zI 0] 26,bD b.2.2.2 b.2.2.1]) (fun cut=>?_) ?_))
 ·refine zyG (zyR 1 rfl (zbl h fun q2 dj h=>fm f dj cE o8 rfl dc rfl rfl rfl (zab vI rfl dc rfl (show _=(B+(0:Int).toNat)*2+1 from rfl) (jr (n:=B+(0:Int).toNat) (j:=1) (i:=0) (q:=q2) G rfl (by omega) eb rfl dc rfl (bX f dj) rfl rfl (zyR 1 rfl (zyH (zyR 2 rfl (zyH (zyR 1 rfl (zbV f rfl dc rfl cE (zbt h fun ft h=>F2 (z:=ad) aG oq GD gj rfl dc rfl ft (fun P=>zyR 1 rfl (zyN (cut (zyG (zyR 1 rfl (zbV f rfl dc rfl cE (zyR 1 rfl (zyN (zau (eO (β:=Nat×ae×(List ae)×Int) (fun b=>zaC (fun _ _ _=>none) (zc4 o1 L j1 q2) b.1 b.2.1 b.2.2.1 b.2.2.2=some r) (fun b=>[]) (fun b=>[(0,zP _g),(1,y),(6,zP b1),(8,.string q2.text),(9,.string b.2.1),(10,P),(44,y),(45,zI (L.length:Int)),(46,zI b.2.2.2)]) (fun b=>[cells _g [_f.v,.map (some (bm _a)),.map (some (bm _c)),.map (some (bm _d)),_h.v] 72,bD _f.v o1.units,cG (fun n:ae=>af n) (fun n:Int=>aC .i64 n) (bm _a) o1.place,dU (bm _c) o1.fors,cG (fun n:ae=>af n) (fun n:Bool=>ay n) (bm _d) o1.skips,bD _h.v o1.lines,cells b1 [zI 0,zI 0] 26,bD P b.2.2.1]) (fun b=>b.1) (zbC,q2.text,(bF ((L.length:Int):Int).toNat ad:List ae),0) h rfl (bE rfl) (cj 8) ?_)))))))))))))))))))))
  rintro⟨n1,p,g,F⟩ h
  cases n1 with
  |zero=>exact eG h
  |succ n1=>
   obtain⟨f4,a9⟩:∃ag,ag=zaC (fun _ _ _=>none) (zc4 o1 L j1 q2) n1:=⟨_,rfl⟩
   have h:zc4 o1 L j1 q2 f4 p g F=some r:=by rw[a9];exact h
   unfold zc4 at h
   refine zyG (zaR rfl zbi (zyN (zaL (zyB rfl h (fun h=>?_) (fun h=>?_)))))
   ·refine bA (ct (zbp h fun j2 e5 h=>zaM (β:=ae×(List ae)) 0 rfl (fun b=>j2 b.1 b.2=some r) (fun b=>[]) (fun b=>[(0,zP _g),(1,y),(6,zP b1),(8,.string q2.text),(9,.string b.1),(10,P),(44,y),(45,zI (L.length:Int)),(46,zI F)]) (fun b=>[cells _g [_f.v,.map (some (bm _a)),.map (some (bm _c)),.map (some (bm _d)),_h.v] 72,bD _f.v o1.units,cG (fun n:ae=>af n) (fun n:Int=>aC .i64 n) (bm _a) o1.place,dU (bm _c) o1.fors,cG (fun n:ae=>af n) (fun n:Bool=>ay n) (bm _d) o1.skips,bD _h.v o1.lines,cells b1 [zI 0,zI 0] 26,bD P b.2]) (fun cut=>?_) ?_))
    ·refine cut (zau (zbp h fun j3 e4 h=>zaM (β:=Int×ae×Bool×Bool×Nat) 1 rfl (fun b=>j3 b.1 b.2.1 b.2.2.1 b.2.2.2.1=some r) (fun b=>[]) (fun b=>[(0,zP _g),(1,y),(6,zP b1),(8,.string q2.text),(9,.string p),(10,P),(11,zI F),(12,zP b.2.2.2.2),(44,y),(45,zI (L.length:Int)),(46,zI F),(54,.string q2.text),(55,.bool (decide (q2.text=(⟨#[112,117,116]⟩:ae)))),(56,.bool b.2.2.1),(59,.bool b.2.2.2.1)]) (fun b=>[cells _g [_f.v,.map (some (bm _a)),.map (some (bm _c)),.map (some (bm _d)),_h.v] 72,bD _f.v o1.units,cG (fun n:ae=>af n) (fun n:Int=>aC .i64 n) (bm _a) o1.place,dU (bm _c) o1.fors,cG (fun n:ae=>af n) (fun n:Bool=>ay n) (bm _d) o1.skips,bD _h.v o1.lines,cells b1 [zI 0,zI 0] 26,bD P g,cells b.2.2.2.2 [zI b.1,.string b.2.1] 111]) (fun cut=>?_) ?_))
     ·refine zyG (zyR 1 rfl (zbl h fun Q di h=>fm f di cE o8 rfl dc rfl rfl rfl (pq (m:=B+(F:Int).toNat) (j:=0) (i:=0) (q:=Q) (cs:=[zI Q.at_,.string Q.text]) G rfl (by omega) M2 rfl dc rfl (bX f di) rfl rfl rfl (zbk M3 rfl dc (fun b3=>zyR 1 rfl (eK (k:=8) (vs:=[zI Q.at_,.string Q.text]) (l':=[zI Q.at_,.string Q.text]) o8 rfl rfl rfl rfl rfl (show _≤_ by simp) rfl rfl (zyN (cut (zyG (zyR 1 rfl (zaR rfl zbe (zyR 1 rfl (zyS (s:=53) rfl h (fun h=>?_) (fun h=>?_))))))))))))))
      ·refine zyR 7 rfl (zyN (gM rfl (zbp h fun j4 e3 h=>zaM (β:=ae) 0 rfl (fun b=>j4 b=some r) (fun b=>[]) (fun b=>[(0,zP _g),(1,y),(6,zP b1),(8,.string q2.text),(9,.string b),(10,P),(44,y),(45,zI (L.length:Int)),(46,zI F),(54,undef),(55,undef),(56,undef),(57,undef),(58,undef),(59,undef)]) (fun b=>[cells _g [_f.v,.map (some (bm _a)),.map (some (bm _c)),.map (some (bm _d)),_h.v] 72,bD _f.v o1.units,cG (fun n:ae=>af n) (fun n:Int=>aC .i64 n) (bm _a) o1.place,dU (bm _c) o1.fors,cG (fun n:ae=>af n) (fun n:Bool=>ay n) (bm _d) o1.skips,bD _h.v o1.lines,cells b1 [zI 0,zI 0] 26,bD P g]) (fun cut=>cut (zyG (zyR 1 rfl (zaR rfl zdV (zyN (zyB rfl h (fun h=>bV (zyR 1 rfl (zbt h fun fs h=>zaR rfl (lx fs) (zyR 1 rfl (bG (mD (p++(⟨#[32,97,102,116,101,114]⟩:ae)) h 8)))))) (fun h=>bA (mD p h 8)))))))) (fun bs h=>?_))))
       rw[e3] at h
       exact dF (bU (dG (mD (bs,g) h 8)))
      refine zyR 1 rfl (zaR rfl zdn (zyR 1 rfl (zyS (s:=56) rfl h (fun h=>?_) (fun h=>?_))))
      ·refine zyR 1 rfl (zaR rfl zbe (zyR 2 rfl (zyN (zyB rfl h (fun h=>?_) (fun h=>?_)))))
       ·refine zbp h fun j5 e2 h=>zaM (β:=ae) 0 rfl (fun b=>j5 b=some r) (fun b=>[]) (fun b=>[(0,zP _g),(1,y),(6,zP b1),(8,.string q2.text),(9,.string b),(10,P),(44,y),(45,zI (L.length:Int)),(46,zI F),(54,.string q2.text),(55,.bool (decide (q2.text=(⟨#[112,117,116]⟩:ae)))),(56,.bool true),(57,zI F),(58,.bool ((F:Int)==2)),(59,.bool ((F:Int)==2))]) (fun b=>[cells _g [_f.v,.map (some (bm _a)),.map (some (bm _c)),.map (some (bm _d)),_h.v] 72,bD _f.v o1.units,cG (fun n:ae=>af n) (fun n:Int=>aC .i64 n) (bm _a) o1.place,dU (bm _c) o1.fors,cG (fun n:ae=>af n) (fun n:Bool=>ay n) (bm _d) o1.skips,bD _h.v o1.lines,cells b1 [zI 0,zI 0] 26,bD P g]) (fun cut=>cut (zyG (zyR 1 rfl (zaR rfl zdV (zyN (zyB rfl h (fun h=>bV (zyR 1 rfl (zbt h fun fo h=>zaR rfl (lx fo) (zyR 1 rfl (bG (mD (p++(⟨#[32,97,102,116,101,114]⟩:ae)) h 8)))))) (fun h=>bA (mD p h 8)))))))) (fun bk h=>?_)
        rw[e2] at h
        exact dF (bU (dG (mD (bk,g) h 8)))
       exact bA (mD (Q.at_,Q.text,true,(F:Int)==2,b3) h 9)
      exact zyR 4 rfl (zyN (eh rfl (bA (mD (Q.at_,Q.text,false,false,b3) h 9))))
     rintro⟨bb,eq,x5,x6,b2⟩ h
     rw[e4] at h
     refine zaL (zyG (zyR 2 rfl (zab vI rfl dc rfl (show _=1 from rfl) (zat (k:=8) eb rfl dc rfl rfl rfl (zbl h fun r2 ey h=>zaI (v:=.string r2) (vs:=[.string eq]) rfl dc rfl rfl rfl NH (R2 ey) (zbl h fun q4 dg h=>eY (k:=7) dg aG gG rfl dc rfl rfl rfl rfl (oF (i:=(F:Int).toNat) (j:=0) (k:=7) (q:=q4) (q':=r2) gG gj rfl rfl rfl rfl (ep dg) rfl dc rfl (fun _ _=>rfl) (zyH (zyR 2 rfl (zbl h fun q5 df h=>eY (k:=7) df aG gG rfl dc rfl rfl rfl rfl (fW (i:=(F:Int).toNat) (j:=0) (k:=7) (q:=q5) eb gj rfl dc rfl rfl (ep df) rfl dc rfl (zaR rfl zdn (zyN (zyB rfl h (fun h=>?_) (fun h=>?_)))))))))))))))
     ·refine zyG (zab tp rfl dc rfl (show _=0 from rfl) (zat (k:=8) dQ rfl dc rfl rfl rfl (zbb (v:=.agg #[zI 221,zI bb]) (ps:=[(0,.const (zI 221)),(1,.tmp 77)]) rfl dc rfl (fun _=>by kernel_rfl) (eK (k:=6) (vs:=[zI 221,zI bb]) (l':=[zI 221,zI bb]) kn rfl rfl rfl rfl rfl (show _≤_ by simp) rfl rfl (zyN (zaz (bP (cD (bP (bP (cD (bP ?_))))))))))))
      cases h
      exact eB (rs:=[.cell 6 26]) (_f,_a,_c,_d,_h) (.inl rfl) jg (.cons (.cells kM (k:=6) rfl rfl rfl) .nil) rfl (cj 6)
     exact bA (ct (bV (zyR 3 rfl (zbl h fun q6 dd h=>eY (k:=7) dd aG gG rfl dc rfl rfl rfl rfl (fW (i:=(F:Int).toNat) (j:=0) (k:=7) (q:=q6) eb gj rfl dc rfl rfl (ep dd) rfl dc rfl (zbl h fun r3 ex h=>zaI (v:=.string r3) (vs:=[.string q6]) rfl dc rfl rfl rfl G3 (I6 ex) (zbt h fun fn h=>zaR rfl (lx fn) (zbt h fun fk h=>zaR rfl (lx fk) (zyR 1 rfl (bG (ca (mD (p++((⟨#[32]⟩:ae)++r3),g.set (F:Int).toNat r2) h 8))))))))))))
    rintro⟨b0,W⟩ h
    rw[e5] at h
    refine bV (zbt h fun fd h=>zaR rfl (dE (r:=F+1) (ai _ fd)) (zyR 1 rfl (bG ?_)))
    subst a9
    exact aD (n1,b0,W,F+1) h 8
   exact dF (bU (bU (dG (mD (q2.text,p,g,P) h 8))))
 rintro⟨H,t,a,v1⟩ h
 rw[e6] at h
 refine zaL (zyG (zyR 1 rfl (zaR rfl zdn (zyN (zyB rfl h (fun h=>?_) (fun h=>?_))))))
 ·refine zyG (zyR 1 rfl (zbl h fun q7 a6 h=>eY (k:=7) a6 aG gG rfl dc rfl rfl rfl rfl (fW (i:=(1:Int).toNat) (j:=0) (k:=7) (q:=q7) eb gj rfl dc rfl rfl (ep a6) rfl dc rfl (zbl h fun r4 d0 h=>zaI (v:=.string r4) (vs:=[.string q7]) rfl dc rfl rfl rfl rf (ry d0) (zyR 1 rfl (zyN (zaL (zyG (zyR 1 rfl (za8 rfl dc rfl (zab rb rfl dc rfl (show _=3 from rfl) (zat (k:=0) ra rfl dc rfl rfl rfl (zyR 1 rfl (Gt (k:=4) (ek:=(fun n:ae=>af n)) (ev':=(fun n:Bool=>ay n)) (kk:=r4) (z0:=false) (mC al) eQ kr rfl dc rfl rfl rfl (zyN (zyB rfl h (fun h=>?_) (fun h=>?_)))))))))))))))))
  ·refine zyG (zyR 1 rfl (zbl h fun q8 a5 h=>fm f a5 cE o8 rfl dc rfl rfl rfl (zab tp rfl dc rfl (show _=(B+(1:Int).toNat)*2 from rfl) (jr (n:=B+(1:Int).toNat) (j:=0) (i:=0) (q:=q8) G rfl (by omega) dQ rfl dc rfl (bX f a5) rfl rfl (zbb (v:=.agg #[zI 222,zI q8.at_]) (ps:=[(0,.const (zI 222)),(1,.tmp 103)]) rfl dc rfl (fun _=>by kernel_rfl) (eK (k:=6) (vs:=[zI 222,zI q8.at_]) (l':=[zI 222,zI q8.at_]) kn rfl rfl rfl rfl rfl (show _≤_ by simp) rfl rfl (zyN (zaz (bP (bP ?_))))))))))
   cases h
   exact eB (rs:=[.cell 6 26]) (_f,_a,_c,_d,_h) (.inl rfl) jg (.cons (.cells kM (k:=6) rfl rfl rfl) .nil) rfl (cj 6)
  refine bA (ct (zyG (zyR 1 rfl (za8 rfl dc rfl (zab rb rfl dc rfl (show _=3 from rfl) (zat (k:=0) ra rfl dc rfl rfl rfl (zyR 1 rfl (vA (k:=4) (ek:=(fun n:ae=>af n)) (ev':=(fun n:Bool=>ay n)) (kk:=r4) (vv:=true) (mC al) eQ rfl rfl rfl rfl rfl (zyH (zyR 2 rfl (za8 rfl dc rfl (zab zpY rfl dc rfl (show _=4 from rfl) (zat (k:=0) nK rfl dc rfl rfl rfl (zyR 1 rfl (fE (cs:=[.string t]) (te:=9) (ps:=[(0,.tmp 115)]) rfl dc rfl (fun _=>by kernel_rfl) (fun b4=>zbt h fun e9 h=>iC (k:=5) (k2:=8) (ys:=[t]) aG oq gj oG rfl dc rfl rfl rfl rfl rfl rfl e9 (fun v3=>iq (k:=5) rfl (fun d7 f1=>?_))))))))))))))))))
  subst f1
  refine za8 rfl dc rfl (zab zpY rfl dc rfl (show _=4 from rfl) (ef (k:=0) (l':=[_f.v,.map (some (bm _a)),.map (some (bm _c)),.map (some (bm _d)),d7.v]) se rfl rfl rfl rfl rfl (fun _ _=>rfl) rfl (zyH (zbb (v:=.agg #[zI 0,zI 0]) (ps:=[]) rfl dc rfl (fun _=>by kernel_rfl) (eK (k:=6) (vs:=[zI 0,zI 0]) (l':=[zI 0,zI 0]) kn rfl rfl rfl rfl rfl (show _≤_ by simp) rfl rfl (zyN (zaz (bP ?_))))))))
  cases h
  exact eB (rs:=[.cell 6 26]) (_f,_a,_c,_d,d7) (.inl rfl) jg (.cons (.cells kM (k:=6) rfl rfl rfl) .nil) rfl (cj 6)
 refine bA (ct (zaL (zyG (zyR 2 rfl (zbl h fun q9 a4 h=>eY (k:=7) a4 aG gG rfl dc rfl rfl rfl rfl (fW (i:=(1:Int).toNat) (j:=0) (k:=7) (q:=q9) eb gj rfl dc rfl rfl (ep a4) rfl dc rfl (zbl h fun r5 dT h=>kZ (v:=.bool r5) (vs:=[zP _g,.string q9]) G rfl dc rfl rfl rfl NI (R3 (_g:=_g) (o1:=o1) (_f:=_f) (_a:=_a) (_c:=_c) (_d:=_d) (_h:=_h) dT) (.own (cj 1) (fun _ _ h=>aQ.1 h) (.own (cg [1] kr rfl) (fun _ _ h=>aQ.1 h) (.own (cg [2] kr rfl) (fun _ _ h=>aQ.1 h) (.own (cg [3] kr rfl) (fun _ _ h=>aQ.1 h) (.own (cg [4] kr rfl) (fun _ _ h=>aQ.1 h) (.own (cg [5] kr rfl) (fun _ _ h=>aQ.1 h) .nil)))))) (zyN (zyB rfl h (fun h=>?_) (fun h=>?_))))))))))
 ·refine zyG (zyR 1 rfl (zbl h fun V a3 h=>fm f a3 cE o8 rfl dc rfl rfl rfl (zab tp rfl dc rfl (show _=(B+(1:Int).toNat)*2 from rfl) (jr (n:=B+(1:Int).toNat) (j:=0) (i:=0) (q:=V) G rfl (by omega) dQ rfl dc rfl (bX f a3) rfl rfl (zbb (v:=.agg #[zI 222,zI V.at_]) (ps:=[(0,.const (zI 222)),(1,.tmp 129)]) rfl dc rfl (fun _=>by kernel_rfl) (eK (k:=6) (vs:=[zI 222,zI V.at_]) (l':=[zI 222,zI V.at_]) kn rfl rfl rfl rfl rfl (show _≤_ by simp) rfl rfl (zyN (zaz (bP ?_)))))))))
  cases h
  exact eB (rs:=[.cell 6 26]) (_f,_a,_c,_d,_h) (.inl rfl) jg (.cons (.cells kM (k:=6) rfl rfl rfl) .nil) rfl (cj 6)
 refine bA (ct (zbp h fun j6 e1 h=>zaM (β:=Unit) 0 rfl (fun b=>j6=some r) (fun b=>[]) (fun b=>[(0,zP _g),(6,zP b1),(8,.string H),(9,.string t),(10,v1)]) (fun b=>[cells _g [_f.v,.map (some (bm _a)),.map (some (bm _c)),.map (some (bm _d)),_h.v] 72,bD _f.v o1.units,cG (fun n:ae=>af n) (fun n:Int=>aC .i64 n) (bm _a) o1.place,dU (bm _c) o1.fors,cG (fun n:ae=>af n) (fun n:Bool=>ay n) (bm _d) o1.skips,bD _h.v o1.lines,cells b1 [zI 0,zI 0] 26,bD v1 a]) (fun cut=>?_) ?_))
 ·refine cut (zyG (zyR 1 rfl (gK (k:=7) rfl dc rfl rfl aG (zyR 1 rfl (zyN (zau (eO (β:=Nat×Int) (fun b=>zaC (fun _=>none) (zc3 o1 L a j6) b.1 b.2=some r) (fun b=>[]) (fun b=>[(0,zP _g),(1,y),(6,zP b1),(8,.string H),(9,.string t),(10,v1),(131,v1),(132,zI (a.length:Int)),(133,zI b.2)]) (fun b=>[cells _g [_f.v,.map (some (bm _a)),.map (some (bm _c)),.map (some (bm _d)),_h.v] 72,bD _f.v o1.units,cG (fun n:ae=>af n) (fun n:Int=>aC .i64 n) (bm _a) o1.place,dU (bm _c) o1.fors,cG (fun n:ae=>af n) (fun n:Bool=>ay n) (bm _d) o1.skips,bD _h.v o1.lines,cells b1 [zI 0,zI 0] 26,bD v1 a]) (fun b=>b.1) (zbC,0) h rfl (bE rfl) (cj 8) ?_)))))))
  rintro⟨n2,x9⟩ h
  cases n2 with
  |zero=>exact eG h
  |succ n2=>
   obtain⟨f2,a8⟩:∃ag,ag=zaC (fun _=>none) (zc3 o1 L a j6) n2:=⟨_,rfl⟩
   have h:zc3 o1 L a j6 f2 x9=some r:=by rw[a8];exact h
   unfold zc3 at h
   refine zyG (zaR rfl zbi (zyN (zaL (zyB rfl h (fun h=>?_) (fun h=>?_)))))
   ·refine bA (ct (zbp h fun j7 e0 h=>zaM (β:=Unit) 0 rfl (fun b=>j7=some r) (fun b=>[]) (fun b=>[(0,zP _g),(1,y),(6,zP b1),(8,.string H),(9,.string t),(10,v1),(131,v1),(132,zI (a.length:Int)),(133,zI x9)]) (fun b=>[cells _g [_f.v,.map (some (bm _a)),.map (some (bm _c)),.map (some (bm _d)),_h.v] 72,bD _f.v o1.units,cG (fun n:ae=>af n) (fun n:Int=>aC .i64 n) (bm _a) o1.place,dU (bm _c) o1.fors,cG (fun n:ae=>af n) (fun n:Bool=>ay n) (bm _d) o1.skips,bD _h.v o1.lines,cells b1 [zI 0,zI 0] 26,bD v1 a]) (fun cut=>?_) ?_))
    ·refine cut (zau (zyG (zyR 1 rfl (zbl h fun c4 a2 h=>eY (k:=7) a2 aG gG rfl dc rfl rfl rfl rfl (fW (i:=(x9:Int).toNat) (j:=0) (k:=7) (q:=c4) eb gj rfl dc rfl rfl (ep a2) rfl dc rfl (zyR 2 rfl (zyH (zyR 1 rfl (za8 rfl dc rfl (zab zn5 rfl dc rfl (show _=1 from rfl) (zat (k:=0) vD rfl dc rfl rfl rfl (zyR 1 rfl (zkQ (k:=2) (ek:=(fun n:ae=>af n)) (ev':=(fun n:Int=>aC .i64 n)) (kk:=c4) (z0:=0) (mC al) nD kr rfl dc rfl rfl rfl (zyR 1 rfl (eT rfl dc rfl rfl (eT rfl dc rfl rfl (zyR 2 rfl (zyH (zyR 1 rfl (zaR rfl zdV (zyR 1 rfl (zyS (s:=149) rfl h (fun h=>?_) (fun h=>?_)))))))))))))))))))))))
     ·refine zyR 1 rfl (zaR rfl qV (zyR 2 rfl (zyS (s:=153) rfl h (fun h=>?_) (fun h=>?_))))
      ·refine zyR 1 rfl (jU rfl dc rfl jV (zyR 1 rfl (zyN (zyB rfl h (fun h=>?_) (fun h=>?_)))))
       ·refine zyG (zyR 2 rfl (zbl h fun U a1 h=>fm f a1 cE o8 rfl dc rfl rfl rfl (zab tp rfl dc rfl (show _=(B+(x9:Int).toNat)*2 from rfl) (jr (n:=B+(x9:Int).toNat) (j:=0) (i:=0) (q:=U) G rfl (by omega) dQ rfl dc rfl (bX f a1) rfl rfl (zbb (v:=.agg #[zI 223,zI U.at_]) (ps:=[(0,.const (zI 223)),(1,.tmp 161)]) rfl dc rfl (fun _=>by kernel_rfl) (eK (k:=6) (vs:=[zI 223,zI U.at_]) (l':=[zI 223,zI U.at_]) kn rfl rfl rfl rfl rfl (show _≤_ by simp) rfl rfl (zyN (zaz (cD (bP (bP (cD (bP ?_)))))))))))))
        cases h
        exact eB (rs:=[.cell 6 26]) (_f,_a,_c,_d,_h) (.inl rfl) jg (.cons (.cells kM (k:=6) rfl rfl rfl) .nil) rfl (cj 6)
       exact bA (ca (mD () h 8))
      exact zyR 3 rfl (zyN (eh rfl (bA (ca (mD () h 8)))))
     exact zyR 7 rfl (zyN (eh rfl (bA (ca (mD () h 8)))))
    rintro _ h
    rw[e0] at h
    refine bV (zbt h fun e8 h=>zaR rfl (dE (r:=x9+1) (ai _ e8)) (zyR 1 rfl (bG ?_)))
    subst a8
    exact aD (n2,x9+1) h 8
   exact dF (bU (bU (dG (mD () h 8))))
 rintro _ h
 rw[e1] at h
 refine zbp h fun j8 eM h=>zaM (β:=(List ae)×(List (ae×Int))×(List (ae×List ae))×(List (ae×Bool))×(List ae)×Hd×Nat×Nat×Nat×Hd) 0 rfl (fun b=>j8 b.1 b.2.1 b.2.2.1 b.2.2.2.1 b.2.2.2.2.1=some r) (fun b=>[]) (fun b=>[(0,zP _g),(6,zP b1),(9,.string t)]) (fun b=>[cells _g [b.2.2.2.2.2.1.v,.map (some b.2.2.2.2.2.2.1),.map (some b.2.2.2.2.2.2.2.1),.map (some b.2.2.2.2.2.2.2.2.1),b.2.2.2.2.2.2.2.2.2.v] 72,bD b.2.2.2.2.2.1.v b.1,cG (fun n:ae=>af n) (fun n:Int=>aC .i64 n) b.2.2.2.2.2.2.1 b.2.1,dU b.2.2.2.2.2.2.2.1 b.2.2.1,cG (fun n:ae=>af n) (fun n:Bool=>ay n) b.2.2.2.2.2.2.2.2.1 b.2.2.2.1,bD b.2.2.2.2.2.2.2.2.2.v b.2.2.2.2.1,cells b1 [zI 0,zI 0] 26]) (fun cut=>?_) ?_
 ·refine cut (zyG (zyR 1 rfl (zaR rfl zdn (zyN (zyB rfl h (fun h=>?_) (fun h=>?_))))))
  ·refine zaL (zbl h fun C a0 h=>zbt h fun e7 h=>zbl h fun I aw h=>zbt h fun d4 h=>vp 2 (let bh:(Nat×Hd)→List (Nat×Nat×Value):=fun b=>[(0,166,zP _g),(1,167,zP _g),(2,168,zP _g),(3,169,zP _g),(4,170,_f.v),(5,171,zP _g),(6,172,zP _g),(7,173,.pointer (some ⟨_g,1,none⟩)),(8,174,.map (some (bm _a))),(9,175,v1),(10,176,.pointer (some ⟨gn v1,(3:Int).toNat*1,none⟩)),(11,177,.string C),(12,178,zI ((zbO C o1.place).getD 0)),(13,179,zI (((zbO C o1.place).getD 0)+1)),(14,180,v1),(15,181,.pointer (some ⟨gn v1,(1:Int).toNat*1,none⟩)),(16,182,.string I),(17,183,.slice (some ⟨b.1,0,none⟩) 1 1),(18,184,b.2.v)];let eg:(Nat→Prop)→(Nat×Hd)→List Asn:=fun D b=>[cells _g [_f.v,.map (some (bm _a)),.map (some (bm _c)),.map (some (bm _d)),_h.v] 72,eD D (bD _f.v o1.units) [(18,cy)],cG (fun n:ae=>af n) (fun n:Int=>aC .i64 n) (bm _a) o1.place,dU (bm _c) o1.fors,cG (fun n:ae=>af n) (fun n:Bool=>ay n) (bm _d) o1.skips,bD _h.v o1.lines,cells b1 [zI 0,zI 0] 26,bD v1 a,eD D cy [(18,cy),(17,cells b.1 [.string I] 9)],eD D cy [(18,bD b.2.v (jh o1.units (((zbO C o1.place).getD 0)+1) I))]];?_))
   have w:tz [17,18] eg:=fun i h D b=>bZ rfl (bZ (qC rfl h) (bZ rfl (bZ rfl (bZ rfl (bZ rfl (bZ rfl (bZ rfl (bZ (qC rfl h) (bZ (qC rfl h) rfl)))))))))
   refine vo (β:=Nat×Hd) 19 ((0:Nat),eu) bh eg mixed kr kr dc (fun _=>rfl) (bZ rfl (bZ oI (pw (bZ oI (bZ oI rfl))))) (px w (fun _=>rfl) (fun _=>rfl) 2 0 (fun _=>rfl) rfl (qD w rfl (fun _=>rfl) (fun _=>rfl) (fun D ⟨E,l⟩ n d c u i=>za8 rfl dc (bC 1 u d) (zaT 2 u i)) (qD w rfl (fun _=>rfl) (fun _=>rfl) (fun D ⟨E,l⟩ n d c u i=>zab zn6 rfl dc (bC 2 u d) (show _=0 from rfl) (zaT 3 u i)) (lC w rfl (fun _=>rfl) (fun _=>rfl) (fun D ⟨E,l⟩ n d c u i=>⟨_,(bZ rfl (bZ (dO (fun e=>n (c 18 _ rfl e 4 dc)) fi) (pw (bZ (dO (fun e=>n (c 18 _ rfl e 4 dc)) rfl) (bZ (dO (fun e=>n (c 18 _ rfl e 4 dc)) fi) rfl))))),zat (k:=0) nK rfl dc (bC 3 u d) rfl rfl (zaT 4 u i)⟩) (px w (fun _=>rfl) (fun _=>rfl) 1 5 (fun _=>rfl) rfl (qD w rfl (fun _=>rfl) (fun _=>rfl) (fun D ⟨E,l⟩ n d c u i=>za8 rfl dc (bC 5 u d) (zaT 6 u i)) (qD w rfl (fun _=>rfl) (fun _=>rfl) (fun D ⟨E,l⟩ n d c u i=>zab zn5 rfl dc (bC 6 u d) (show _=1 from rfl) (zaT 7 u i)) (lC w rfl (fun _=>rfl) (fun _=>rfl) (fun D ⟨E,l⟩ n d c u i=>⟨_,(bZ rfl (bZ (dO (fun e=>n (c 12 _ rfl (c 13 _ rfl (c 18 _ rfl e 13 dc) 12 dc) 8 dc)) fi) (pw (bZ (dO (fun e=>n (c 12 _ rfl (c 13 _ rfl (c 18 _ rfl e 13 dc) 12 dc) 8 dc)) rfl) (bZ (dO (fun e=>n (c 12 _ rfl (c 13 _ rfl (c 18 _ rfl e 13 dc) 12 dc) 8 dc)) fi) rfl))))),zat (k:=0) vD rfl dc (bC 7 u d) rfl rfl (zaT 8 u i)⟩) (px w (fun _=>rfl) (fun _=>rfl) 1 9 (fun _=>rfl) rfl (lC w rfl (fun _=>rfl) (fun _=>rfl) (fun D ⟨E,l⟩ n d c u i=>⟨_,(bZ rfl (bZ (dO (fun e=>n (c 11 _ rfl (c 12 _ rfl (c 13 _ rfl (c 18 _ rfl e 13 dc) 12 dc) 11 dc) 10 dc)) fi) (pw (bZ (dO (fun e=>n (c 11 _ rfl (c 12 _ rfl (c 13 _ rfl (c 18 _ rfl e 13 dc) 12 dc) 11 dc) 10 dc)) rfl) (bZ (dO (fun e=>n (c 11 _ rfl (c 12 _ rfl (c 13 _ rfl (c 18 _ rfl e 13 dc) 12 dc) 11 dc) 10 dc)) fi) rfl))))),eY (k:=7) a0 aG gG rfl dc (bC 9 u d) rfl rfl rfl (zaT 10 u i)⟩) (lC w rfl (fun _=>rfl) (fun _=>rfl) (fun D ⟨E,l⟩ n d c u i=>⟨_,(bZ rfl (bZ (dO (fun e=>n (c 12 _ rfl (c 13 _ rfl (c 18 _ rfl e 13 dc) 12 dc) 11 dc)) fi) (pw (bZ (dO (fun e=>n (c 12 _ rfl (c 13 _ rfl (c 18 _ rfl e 13 dc) 12 dc) 11 dc)) rfl) (bZ (dO (fun e=>n (c 12 _ rfl (c 13 _ rfl (c 18 _ rfl e 13 dc) 12 dc) 11 dc)) fi) rfl))))),fW (i:=(3:Int).toNat) (j:=0) (k:=7) (q:=C) eb gj rfl dc (bC 10 u d) rfl (ep a0) rfl dc rfl (zaT 11 u i)⟩) (lC w rfl (fun _=>rfl) (fun _=>rfl) (fun D ⟨E,l⟩ n d c u i=>⟨_,(bZ rfl (bZ (dO (fun e=>n (c 13 _ rfl (c 18 _ rfl e 13 dc) 12 dc)) fi) (pw (bZ (dO (fun e=>n (c 13 _ rfl (c 18 _ rfl e 13 dc) 12 dc)) rfl) (bZ (dO (fun e=>n (c 13 _ rfl (c 18 _ rfl e 13 dc) 12 dc)) fi) rfl))))),Gt (k:=2) (ek:=(fun n:ae=>af n)) (ev':=(fun n:Int=>aC .i64 n)) (kk:=C) (z0:=0) (mC al) nD kr rfl dc (bC 8 u d) (bC 11 u d) rfl (zaT 12 u i)⟩) (qD w rfl (fun _=>rfl) (fun _=>rfl) (fun D ⟨E,l⟩ n d c u i=>lU rfl dc (bC 12 u d) rfl (dE (r:=((zbO C o1.place).getD 0)+1) (ai _ e7)) (zaT 13 u i)) (px w (fun _=>rfl) (fun _=>rfl) 1 14 (fun _=>rfl) rfl (lC w rfl (fun _=>rfl) (fun _=>rfl) (fun D ⟨E,l⟩ n d c u i=>⟨_,(bZ rfl (bZ (dO (fun e=>n (c 16 _ rfl (c 17 _ rfl (c 18 _ rfl e 17 dc) 16 dc) 15 dc)) fi) (pw (bZ (dO (fun e=>n (c 16 _ rfl (c 17 _ rfl (c 18 _ rfl e 17 dc) 16 dc) 15 dc)) (dO (fun e=>n (c 16 _ rfl (c 17 _ rfl e 16 dc) 15 dc)) fi)) (bZ (dO (fun e=>n (c 16 _ rfl (c 17 _ rfl (c 18 _ rfl e 17 dc) 16 dc) 15 dc)) fi) rfl))))),eY (k:=7) aw aG gG rfl dc (bC 14 u d) rfl rfl rfl (zaT 15 u i)⟩) (lC w rfl (fun _=>rfl) (fun _=>rfl) (fun D ⟨E,l⟩ n d c u i=>⟨_,(bZ rfl (bZ (dO (fun e=>n (c 17 _ rfl (c 18 _ rfl e 17 dc) 16 dc)) fi) (pw (bZ (dO (fun e=>n (c 17 _ rfl (c 18 _ rfl e 17 dc) 16 dc)) (dO (fun e=>n (c 17 _ rfl e 16 dc)) fi)) (bZ (dO (fun e=>n (c 17 _ rfl (c 18 _ rfl e 17 dc) 16 dc)) fi) rfl))))),fW (i:=(1:Int).toNat) (j:=0) (k:=7) (q:=I) eb gj rfl dc (bC 15 u d) rfl (ep aw) rfl dc rfl (zaT 16 u i)⟩) (lA ?_ (lA ?_ fp.nil)))))))))))))))))) ?_
   ·intro D b O hd J
    obtain⟨en,l⟩:=b
    exact km (bZ rfl (bZ (dO (fun e=>O (J 18 _ rfl e 17 dc)) fi) (pw (bZ (dO (fun e=>O (J 18 _ rfl e 17 dc)) (dO O fi)) (bZ (dO (fun e=>O (J 18 _ rfl e 17 dc)) fi) rfl))))) (fE (cs:=[.string I]) (te:=9) (ps:=[(0,.tmp 182)]) rfl dc (evP.cons (jG (m:=16) rfl rfl (hd 16 dc)) evP.nil) (fun _=>by kernel_rfl) (fun E=>pp 8 rfl rfl (lL (b:=(en,l)) (E,l) 17 (by rfl) (by rfl) rfl (Df (uq (dV (fun e=>absurd e O) (dV (fun _=>rfl) rfl)))) (bZ rfl (bZ ((ir (by rfl)).trans (dO (fun e=>O (J 18 _ rfl e 17 dc)) fi)) (pw (bZ (dO (fun h=>h.elim (fun e=>O (J 18 _ rfl e 17 dc)) (fun h=>absurd h dc)) (il (jf rfl) rfl)) (bZ ((ir (by rfl)).trans (dO (fun e=>O (J 18 _ rfl e 17 dc)) fi)) rfl))))))))
   ·intro D b O hd J
    obtain⟨E,em⟩:=b
    refine km (bZ rfl (bZ (dO O fi) (pw (bZ (dO O (il (hd 17 dc) rfl)) (bZ (dO O fi) rfl))))) (zbJ (vs:=[_f.v,zI (((zbO C o1.place).getD 0)+1),.slice (some ⟨E,0,none⟩) 1 1]) rfl dc rfl (da (jG (m:=4) rfl rfl (hd 4 dc)) (da (jG (m:=13) rfl rfl (hd 13 dc)) (da (jG (m:=17) rfl rfl (hd 17 dc)) eJ))) rfl NJ (Pn (x:=I) d4) (cg [1,8] kr rfl) (fun v4=>iq (k:=10) rfl (fun l f0=>?_)))
    subst f0
    exact pp 9 rfl rfl (lL (b:=(E,em)) (E,l) 18 (by rfl) (by rfl) rfl (Dh (uq (dV (fun e=>absurd e O) rfl))) (bZ rfl (bZ (il (jf rfl) rfl) (pw (bZ (il (jf rfl) rfl) (bZ (il (jf rfl) rfl) rfl))))))
   intro D b hall
   obtain⟨E,l⟩:=b
   refine km (bZ rfl (bZ (il (hall 18 dc) rfl) (pw (bZ (il (hall 18 dc) rfl) (bZ (il (hall 18 dc) rfl) rfl))))) (za8 rfl dc rfl (zab zn6 rfl dc rfl (show _=0 from rfl) (ef (k:=0) (l':=[l.v,.map (some (bm _a)),.map (some (bm _c)),.map (some (bm _d)),_h.v]) se rfl rfl rfl rfl rfl (fun _ _=>rfl) rfl (zyN (bV (zyR 1 rfl (zbl h fun T ds h=>zbJ (vs:=[zP _g]) rfl dc rfl rfl rfl G9 (JD (_g:=_g) (o1:=(⟨jh o1.units (((zbO C o1.place).getD 0)+1) I,o1.place,o1.fors,o1.skips,o1.lines⟩:cw)) (_f:=l) (_a:=_a) (_c:=_c) (_d:=_d) (_h:=_h) ds) (cg [0,9,2,3,4,5] kr rfl) ?_)))))))
   rintro⟨c3,c2,c0,ch,cc⟩
   exact lm (L':=[cells _g [c3.v,.map (some (bm c2)),.map (some (bm c0)),.map (some (bm ch)),cc.v] 72,cy,cG (fun n:ae=>af n) (fun n:Int=>aC .i64 n) (bm c2) T.place,dU (bm c0) T.fors,cG (fun n:ae=>af n) (fun n:Bool=>ay n) (bm ch) T.skips,bD cc.v T.lines,cells b1 [zI 0,zI 0] 26,bD v1 a,cy,bD c3.v T.units]) (cg [10,1,12,13,14,15,6,7,8,11] kr rfl) (bG (cH (T.units,T.place,T.fors,T.skips,T.lines,c3,(bm c2),(bm c0),(bm ch),cc) h rfl (bE rfl) (cg [0,9,2,3,4,5,6] kr rfl)))
  refine zbl h fun N ao h=>zbt h fun d3 h=>zS (k:=7) rfl (fun es=>?_)
  obtain⟨v5,c5,et⟩:=om (lo:=some (zI 2)) (hi:=none) es aG gG (.inr rfl) (.inl ⟨rfl,rfl⟩) d3
  refine zdb 9 [(0,189,zP _g),(1,190,zP _g),(2,191,.pointer (some ⟨_g,2,none⟩)),(3,192,.map (some (bm _c))),(4,193,v1),(5,194,.pointer (some ⟨gn v1,(1:Int).toNat*1,none⟩)),(6,195,.string N),(7,196,v1),(8,197,v5)] mixed kr kr dc (by rfl) kr kr (zyP 1 0 rfl (zae (fun D n d c u i=>za8 rfl dc (bC 0 u d) (zaT 1 u i)) (zae (fun D n d c u i=>zab Cy rfl dc (bC 1 u d) (show _=2 from rfl) (zaT 2 u i)) (zae (fun D n d c u i=>zat (k:=0) vC rfl dc (bC 2 u d) rfl rfl (zaT 3 u i)) (zyP 1 4 rfl (zae (fun D n d c u i=>eY (k:=7) ao aG gG rfl dc (bC 4 u d) rfl rfl rfl (zaT 5 u i)) (zae (fun D n d c u i=>fW (i:=(1:Int).toNat) (j:=0) (k:=7) (q:=N) eb gj rfl dc (bC 5 u d) rfl (ep ao) rfl dc rfl (zaT 6 u i)) (zyP 1 7 rfl (zae (fun D n d c u i=>ia rfl dc (bC 7 u d) (evO.some rfl) xb et (zaT 8 u i)) ce))))))))) ?_
  obtain⟨M,d6⟩:=Vw.head c5
  have eL:=h
  subst d6
  have h:=eL
  exact qX (As:=[dU (bm _c) o1.fors]) (cg [3] kr rfl) Gz (fun ec d8=>vA (k:=8) (ek:=(fun s:ae=>af s)) (ev':=pr) (kk:=N) (vv:=(dM a 2 (a.length:Int),M)) (mC al) underlying37 rfl rfl rfl rfl rfl (pX (k:=7) rfl (HR gj c5) (qX (As:=[pt (bm _c) (hU N (dM a 2 (a.length:Int),M) ec),o6 ec,lV gN 1 M (dM a 2 (a.length:Int))]) (cg [8,9,7] kr rfl) (GB N (dM a 2 (a.length:Int)) M d8) (fun _ _=>bG (cH (o1.units,o1.place,hU N (dM a 2 (a.length:Int)) o1.fors,o1.skips,o1.lines,_f,(bm _a),(bm _c),(bm _d),_h) h rfl (bE rfl) (cg [0,1,2,10,4,5,6] kr rfl))))))
 rintro⟨l2,m1,m2,m3,l3,d5,b5,b6,b7,f5⟩ h
 rw[eM] at h
 refine zyG (zyR 2 rfl (za8 rfl dc rfl (zab zpY rfl dc rfl (show _=4 from rfl) (zat (k:=0) nK rfl dc rfl rfl rfl (zyR 1 rfl (fE (cs:=[.string t]) (te:=9) (ps:=[(0,.tmp 203)]) rfl dc rfl (fun _=>by kernel_rfl) (fun b9=>zbt h fun d2 h=>iC (k:=5) (k2:=7) (ys:=[t]) aG oq gj oG rfl dc rfl rfl rfl rfl rfl rfl d2 (fun v6=>iq (k:=5) rfl (fun a7 fz=>?_)))))))))
 subst fz
 refine za8 rfl dc rfl (zab zpY rfl dc rfl (show _=4 from rfl) (ef (k:=0) (l':=[d5.v,.map (some b5),.map (some b6),.map (some b7),a7.v]) se rfl rfl rfl rfl rfl (fun _ _=>rfl) rfl (zyH (zbb (v:=.agg #[zI 0,zI 0]) (ps:=[]) rfl dc rfl (fun _=>by kernel_rfl) (eK (k:=6) (vs:=[zI 0,zI 0]) (l':=[zI 0,zI 0]) kn rfl rfl rfl rfl rfl (show _≤_ by simp) rfl rfl (zyN (zaz ?_)))))))
 cases h
 exact eB (rs:=[.cell 6 26]) (d5,(⟨some ⟨b5,0,none⟩,0,0⟩:Hd),(⟨some ⟨b6,0,none⟩,0,0⟩:Hd),(⟨some ⟨b7,0,none⟩,0,0⟩:Hd),a7) (.inl rfl) jg (.cons (.cells kM (k:=6) rfl rfl rfl) .nil) rfl (cj 6)
def zfi (i:Int→Int→(List ae)→(List (ae×Int))→(List (ae×List ae))→(List (ae×Bool))→(List ae)→Int→Option ((Option cw)×zaw)) (x1:ae) (h:(List ae)→(List (ae×Int))→(List (ae×List ae))→(List (ae×Bool))→(List ae)→Int→Option ((Option cw)×zaw)) (g:List ae) (f:List (ae×Int)) (e:List (ae×List ae)) (d:List (ae×Bool)) (c:List ae) (a:Int):Option ((Option cw)×zaw) := aU (cp ((x1.size:Int)+1)) <|aU (cp (a+((x1.size:Int)+1))) <|aT (yO x1 a) fun (r3:(List gk))=>aM (((r3.length:Int):Int)==0) (h g f e d c (a+((x1.size:Int)+1))) (aU (cp (a+(x1.size:Int))) <|aT (zb (⟨g,f,e,d,c⟩:cw) r3 (a+(x1.size:Int))) fun (b:(zaw×cw))=>aM ((b.1.Err:Int) != 0) (i b.1.Err b.1.At b.2.units b.2.place b.2.fors b.2.skips b.2.lines (a+((x1.size:Int)+1))) (h b.2.units b.2.place b.2.fors b.2.skips b.2.lines (a+((x1.size:Int)+1))))
def uQ (a:ae):Option ((Option cw)×zaw) := aM (decide ((65536:Int)<(a.size:Int))) (some (none,(⟨3,65536⟩:zaw))) (cn (fun (v:(List ae)→(List (ae×Int))→(List (ae×List ae))→(List (ae×Bool))→(List ae)→Option ((Option cw)×zaw))=>aT (wM) fun (r1:cw)=>aT (Ei a (⟨#[10]⟩:ae)) fun (r2:(ae×ae×Int))=>aT (A9 r2.1 r2.2.1 r2.2.2) fun (b:(List ae))=>cn (fun (h:Int→Int→(List ae)→(List (ae×Int))→(List (ae×List ae))→(List (ae×Bool))→(List ae)→Int→Option ((Option cw)×zaw))=>cn (fun (i:(List ae)→(List (ae×Int))→(List (ae×List ae))→(List (ae×Bool))→(List ae)→Int→Option ((Option cw)×zaw))=>zdw i (zfi h) b r1.units r1.place r1.fors r1.skips r1.lines 0) (fun (g:List ae) (f:List (ae×Int)) (e:List (ae×List ae)) (d:List (ae×Bool)) (c:List ae) (x:Int)=>v g f e d c)) (fun (x2:Int) (j:Int) (t:List ae) (r:List (ae×Int)) (q:List (ae×List ae)) (p:List (ae×Bool)) (n:List ae) (w:Int)=>some (none,(⟨x2,j⟩:zaw)))) (fun (o1:List ae) (u:List (ae×Int)) (m:List (ae×List ae)) (l:List (ae×Bool)) (k:List ae)=>some ((some (⟨o1,u,m,l,k⟩:cw)),(⟨0,0⟩:zaw))))
theorem EO {a0:ae} {r:((Option cw)×zaw)} (h:uQ a0=some r):Fn prog 9 [.string a0] [] (fun v0:Value=>.tuple #[v0,.agg (kD r.2).toArray]) (fun v0=>[jA nj nk 72 v0 r.1]):=by
 unfold uQ at h
 refine _root_.Go.Proofs.YtifpjbgnikjglaaGreatDoor.Fn.intro func9 rfl ntmps9 (by simp) (fun w0 K=>ziX ?_)
 show TC _ _ _ _ _ _ _ _ _ [zhW ((([]:List Nat):List Nat).map fx)]
 refine zyG (zbk GE rfl dc (fun b1=>zbk zrj rfl dc (fun F=>?_)))
 show TO _ _ _ _ _ _ _ _ _ _ [zhW ((([]:List Nat):List Nat).map fx),cells b1 [.pointer none] 29,cells F [zI 0,zI 0] 26]
 refine zyN (zvG (β:=Unit) (l:=0) (fun _=>False) (fun _=>[]) (fun _=>[]) rfl ?_ ?_)
 ·refine zaL (zyG (zyR 1 rfl (zcX rfl dc rfl al (zaR rfl zdV (zyN (zyB rfl h (fun h=>?_) (fun h=>?_)))))))
  ·refine zyG (zbb (v:=.agg #[zI 3,zI 65536]) (ps:=[(0,.const (zI 3)),(1,.const (zI 65536))]) rfl dc rfl (fun _=>by kernel_rfl) (ef (k:=1) (l':=[.pointer none]) Aa rfl rfl rfl rfl rfl (fun _ _=>rfl) rfl (eK (k:=2) (vs:=[zI 3,zI 65536]) (l':=[zI 3,zI 65536]) kn rfl rfl rfl rfl rfl (show _≤_ by simp) rfl rfl ?_)))
   show TO _ _ _ _ _ _ _ _ _ _ [zhW ((([]:List Nat):List Nat).map fx),cells b1 [.pointer none] 29,cells F [zI 3,zI 65536] 26]
   refine zyN (zaz (bP (zN (by simp) (z1 nj nk 72 ?_))))
   show TX _ _ _ _ _ _ _ [zhW ((([]:List Nat):List Nat).map fx),cells b1 [.pointer none] 29,cells F [zI 3,zI 65536] 26,jA nj nk 72 (.pointer none) none]
   cases h
   exact lj (rs:=[.cell 2 29,.cell 3 26]) ([]:List Nat) (.pointer none) (.inl rfl) (lg (k:=0) rfl) results9 (.cons (.cell oJ (k:=1) rfl rfl) (.cons (.cells kM (k:=2) rfl rfl rfl) .nil)) rfl (cg [3] kr rfl)
  refine bA (ct (zbp h fun j1 d5 h=>zaM (β:=(List ae)×(List (ae×Int))×(List (ae×List ae))×(List (ae×Bool))×(List ae)×Nat×Nat×Hd×Nat×Nat×Nat×Hd×(List Nat)) 3 rfl (fun b=>j1 b.1 b.2.1 b.2.2.1 b.2.2.2.1 b.2.2.2.2.1=some r) (fun b=>oj b.2.2.2.2.2.2.2.2.2.2.2.2) (fun b=>[(2,zP b1),(3,zP F),(4,zP b.2.2.2.2.2.1)]) (fun b=>[cells b1 [.pointer none] 29,cells F [zI 0,zI 0] 26,cells b.2.2.2.2.2.1 [zP b.2.2.2.2.2.2.1] 29,cells b.2.2.2.2.2.2.1 [b.2.2.2.2.2.2.2.1.v,.map (some b.2.2.2.2.2.2.2.2.1),.map (some b.2.2.2.2.2.2.2.2.2.1),.map (some b.2.2.2.2.2.2.2.2.2.2.1),b.2.2.2.2.2.2.2.2.2.2.2.1.v] 72,bD b.2.2.2.2.2.2.2.1.v b.1,cG (fun n:ae=>af n) (fun n:Int=>aC .i64 n) b.2.2.2.2.2.2.2.2.1 b.2.1,dU b.2.2.2.2.2.2.2.2.2.1 b.2.2.1,cG (fun n:ae=>af n) (fun n:Bool=>ay n) b.2.2.2.2.2.2.2.2.2.2.1 b.2.2.2.1,bD b.2.2.2.2.2.2.2.2.2.2.2.1.v b.2.2.2.2.1,zhW ((b.2.2.2.2.2.2.2.2.2.2.2.2:List Nat).map fx)]) (fun cut=>?_) ?_))
  ·refine zyG (zbl h fun r1 d4 h=>zbJ (vs:=[]) rfl dc rfl rfl rfl Np (R4 d4) ah ?_)
   rintro⟨q,ao,Y,W,V,U⟩
   show TO _ _ _ _ _ _ _ _ _ _ [zhW ((([]:List Nat):List Nat).map fx),cells b1 [.pointer none] 29,cells F [zI 0,zI 0] 26,cells q [ao.v,.map (some (bm Y)),.map (some (bm W)),.map (some (bm V)),U.v] 72,bD ao.v r1.units,cG (fun n:ae=>af n) (fun n:Int=>aC .i64 n) (bm Y) r1.place,dU (bm W) r1.fors,cG (fun n:ae=>af n) (fun n:Bool=>ay n) (bm V) r1.skips,bD U.v r1.lines]
   refine zbk GE rfl dc (fun b9=>ef (k:=9) (l':=[zP q]) Aa rfl rfl rfl rfl rfl (fun _ _=>rfl) rfl ?_)
   show TO _ _ _ _ _ _ _ _ _ _ [zhW ((([]:List Nat):List Nat).map fx),cells b1 [.pointer none] 29,cells F [zI 0,zI 0] 26,cells q [ao.v,.map (some (bm Y)),.map (some (bm W)),.map (some (bm V)),U.v] 72,bD ao.v r1.units,cG (fun n:ae=>af n) (fun n:Int=>aC .i64 n) (bm Y) r1.place,dU (bm W) r1.fors,cG (fun n:ae=>af n) (fun n:Bool=>ay n) (bm V) r1.skips,bD U.v r1.lines,cells b9 [zP q] 29]
   refine zyH (zbk xu rfl dc (fun y=>ef (k:=10) (l':=[zI 0]) jJ rfl rfl rfl rfl rfl (fun _ _=>rfl) rfl ?_))
   show TO _ _ _ _ _ _ _ _ _ _ [zhW ((([]:List Nat):List Nat).map fx),cells b1 [.pointer none] 29,cells F [zI 0,zI 0] 26,cells q [ao.v,.map (some (bm Y)),.map (some (bm W)),.map (some (bm V)),U.v] 72,bD ao.v r1.units,cG (fun n:ae=>af n) (fun n:Int=>aC .i64 n) (bm Y) r1.place,dU (bm W) r1.fors,cG (fun n:ae=>af n) (fun n:Bool=>ay n) (bm V) r1.skips,bD U.v r1.lines,cells b9 [zP q] 29,cells y [zI 0] 3]
   refine zyN (zaL (FA (ct (cut (zyG (zyR 1 rfl (zbl h fun r2 d3 h=>zbJ (vs:=[.string a0,.string (⟨#[10]⟩:ae)]) rfl dc rfl rfl rfl Nq (R7 d3) ah ?_)))))))
   rintro⟨c5,c4,c3⟩
   show TO _ _ _ _ _ _ _ _ _ _ [zhW ((([]:List Nat):List Nat).map fx),cells b1 [.pointer none] 29,cells F [zI 0,zI 0] 26,cells q [ao.v,.map (some (bm Y)),.map (some (bm W)),.map (some (bm V)),U.v] 72,bD ao.v r1.units,cG (fun n:ae=>af n) (fun n:Int=>aC .i64 n) (bm Y) r1.place,dU (bm W) r1.fors,cG (fun n:ae=>af n) (fun n:Bool=>ay n) (bm V) r1.skips,bD U.v r1.lines,cells b9 [zP q] 29,cells y [zI 0] 3,cells c5 [.string r2.1] 9,cells c4 [.string r2.2.1] 9,cells c3 [zI r2.2.2] 3]
   refine zyN (zau (zbl h fun df d2 h=>zbp h fun bh di h=>zbp h fun c2 dj h=>O3 (α:=ae) (β:=(List ae)×(List (ae×Int))×(List (ae×List ae))×(List (ae×Bool))×(List ae)×Int×Hd×Nat×Nat×Nat×Hd) (γ:=(Int×Int×(List ae)×(List (ae×Int))×(List (ae×List ae))×(List (ae×Bool))×(List ae)×Int×Hd×Nat×Nat×Nat×Hd)) (δ:=Unit) (ps:=[17]) Ro.nil rfl N5 (R5 d2) (fun pre b=>∀post,df=pre++post→zdw c2 (zfi bh) post b.1 b.2.1 b.2.2.1 b.2.2.2.1 b.2.2.2.2.1 b.2.2.2.2.2.1=some r) (fun pre b=>[cells b1 [.pointer none] 29,cells F [zI 0,zI 0] 26,cells b9 [zP q] 29,cells q [b.2.2.2.2.2.2.1.v,.map (some b.2.2.2.2.2.2.2.1),.map (some b.2.2.2.2.2.2.2.2.1),.map (some b.2.2.2.2.2.2.2.2.2.1),b.2.2.2.2.2.2.2.2.2.2.v] 72,bD b.2.2.2.2.2.2.1.v b.1,cG (fun n:ae=>af n) (fun n:Int=>aC .i64 n) b.2.2.2.2.2.2.2.1 b.2.1,dU b.2.2.2.2.2.2.2.2.1 b.2.2.1,cG (fun n:ae=>af n) (fun n:Bool=>ay n) b.2.2.2.2.2.2.2.2.2.1 b.2.2.2.1,bD b.2.2.2.2.2.2.2.2.2.2.v b.2.2.2.2.1,cells y [zI b.2.2.2.2.2.1] 3]) (fun c pre g=>(fun g=>c=.ret∧bh g.1 g.2.1 g.2.2.1 g.2.2.2.1 g.2.2.2.2.1 g.2.2.2.2.2.1 g.2.2.2.2.2.2.1 g.2.2.2.2.2.2.2.1=some r) g) (fun c pre g=>(fun g=>[cells b1 [.pointer none] 29,cells F [zI g.1,zI g.2.1] 26,cells b9 [zP q] 29,cells q [g.2.2.2.2.2.2.2.2.1.v,.map (some g.2.2.2.2.2.2.2.2.2.1),.map (some g.2.2.2.2.2.2.2.2.2.2.1),.map (some g.2.2.2.2.2.2.2.2.2.2.2.1),g.2.2.2.2.2.2.2.2.2.2.2.2.v] 72,bD g.2.2.2.2.2.2.2.2.1.v g.2.2.1,cG (fun n:ae=>af n) (fun n:Int=>aC .i64 n) g.2.2.2.2.2.2.2.2.2.1 g.2.2.2.1,dU g.2.2.2.2.2.2.2.2.2.2.1 g.2.2.2.2.1,cG (fun n:ae=>af n) (fun n:Bool=>ay n) g.2.2.2.2.2.2.2.2.2.2.2.1 g.2.2.2.2.2.1,bD g.2.2.2.2.2.2.2.2.2.2.2.2.v g.2.2.2.2.2.2.1,cells y [zI g.2.2.2.2.2.2.2.1] 3]) g) (fun pre x b j=>[(2,zP b1),(3,zP F),(4,zP b9),(5,zP y),(16,.func (.func 118) #[] #[zP c5,zP c4,zP c3]),(6,.string x)]) (fun pre x b j=>[cells b1 [.pointer none] 29,cells F [zI 0,zI 0] 26,cells b9 [zP q] 29,cells q [b.2.2.2.2.2.2.1.v,.map (some b.2.2.2.2.2.2.2.1),.map (some b.2.2.2.2.2.2.2.2.1),.map (some b.2.2.2.2.2.2.2.2.2.1),b.2.2.2.2.2.2.2.2.2.2.v] 72,bD b.2.2.2.2.2.2.1.v b.1,cG (fun n:ae=>af n) (fun n:Int=>aC .i64 n) b.2.2.2.2.2.2.2.1 b.2.1,dU b.2.2.2.2.2.2.2.2.1 b.2.2.1,cG (fun n:ae=>af n) (fun n:Bool=>ay n) b.2.2.2.2.2.2.2.2.2.1 b.2.2.2.1,bD b.2.2.2.2.2.2.2.2.2.2.v b.2.2.2.2.1,cells y [zI b.2.2.2.2.2.1] 3]) (r1.units,r1.place,r1.fors,r1.skips,r1.lines,0,ao,(bm Y),(bm W),(bm V),U) (fun post e=>by rw[aW] at e;subst e;exact h) (cg [1,2,9,3,4,5,6,7,8,10] kr rfl) (cg [11,12,13] kr rfl) (fun _=>rfl) dc ?_ ?_ ?_ ?_))
   ·rintro lp rc pre x1 post ⟨L,J,I,H,G,p,m,E,C,B,f⟩ w1 K1 a3 dg dT a4
    exact bV (zyR 1 rfl (bG (fun a w ha hw=>⟨(),(bE rfl) _ _ _ ha,hw.weaken (cj 10)⟩)))
   ·rintro lp rc pre x1 a9 ⟨L,J,I,H,G,p,m,E,C,B,f⟩ _ w1 K1 a3 dg dT a4
    have h:=a4 (x1::a9) a3
    obtain⟨eg,bb⟩:∃ag,ag=zdw c2 (zfi bh) a9:=⟨_,rfl⟩
    have h:zfi bh x1 eg L J I H G p=some r:=by have h2:=h;rw[nI,←bb] at h2;exact h2
    unfold zfi at h
    show TC _ _ _ _ _ _ _ _ [(2,zP b1),(3,zP F),(4,zP b9),(5,zP y),(16,.func (.func 118) #[] #[zP c5,zP c4,zP c3]),(6,.string x1)] [cells b1 [.pointer none] 29,cells F [zI 0,zI 0] 26,cells b9 [zP q] 29,cells q [m.v,.map (some E),.map (some C),.map (some B),f.v] 72,bD m.v L,cG (fun n:ae=>af n) (fun n:Int=>aC .i64 n) E J,dU C I,cG (fun n:ae=>af n) (fun n:Bool=>ay n) B H,bD f.v G,cells y [zI p] 3]
    refine zau (zyG (zat (k:=9) dQ rfl dc rfl rfl rfl (zyR 1 rfl (zyH (zat (k:=9) dQ rfl dc rfl rfl rfl (zyR 1 rfl (zcX rfl dc rfl al (zbt h fun d8 h=>zaR rfl (dE (r:=(x1.size:Int)+1) (ai _ d8)) (zbt h fun d7 h=>zaR rfl (dE (r:=p+((x1.size:Int)+1)) (ai _ d7)) (ef (k:=9) (l':=[zI (p+((x1.size:Int)+1))]) jJ rfl rfl rfl rfl rfl (fun _ _=>rfl) rfl (zyH (zyR 2 rfl (zbl h fun r3 d1 h=>zbJ (vs:=[.string x1,zI p]) rfl dc rfl rfl rfl Nr (RX d1) ah (fun v1=>?_))))))))))))))
    show TO _ _ _ _ _ _ _ _ _ _ [cells b1 [.pointer none] 29,cells F [zI 0,zI 0] 26,cells b9 [zP q] 29,cells q [m.v,.map (some E),.map (some C),.map (some B),f.v] 72,bD m.v L,cG (fun n:ae=>af n) (fun n:Int=>aC .i64 n) E J,dU C I,cG (fun n:ae=>af n) (fun n:Bool=>ay n) B H,bD f.v G,cells y [zI (p+((x1.size:Int)+1))] 3,tA v1 r3]
    refine iq (k:=10) rfl (fun a5 d9=>?_)
    subst d9
    refine zyR 1 rfl (zyN (zaL (zyG (zyR 1 rfl (gK (k:=10) rfl dc rfl rfl cE (zaR rfl zbe (zyN (zyB rfl h (fun h=>dF (bU (dG (lH (L,J,I,H,G,p+((x1.size:Int)+1),m,E,C,B,f) (fun bk e2=>by have e9:=lK a3 e2;subst e9;subst bb;exact h) (cj 10))))) (fun h=>bA (ct (zyG (zat (k:=2) oJ rfl dc rfl rfl rfl (zyR 3 rfl (zcX rfl dc rfl al (zbt h fun d6 h=>zaR rfl (dE (r:=p+(x1.size:Int)) (ai _ d6)) (kj (k:=10) rfl (fun ds=>zbl h fun z d0 h=>zlS (vs:=[zP q,a5.v,zI (p+(x1.size:Int))]) (Rd.nil:Rd _ _ []) rfl dc rfl rfl rfl Ns (Tq (_g:=q) (o1:=(⟨L,J,I,H,G⟩:cw)) (_f:=m) (_a:=(⟨some ⟨E,0,none⟩,0,0⟩:Hd)) (_c:=(⟨some ⟨C,0,none⟩,0,0⟩:Hd)) (_d:=(⟨some ⟨B,0,none⟩,0,0⟩:Hd)) (_h:=f) ds d0) (cg [3,4,5,6,7,8] kr rfl) (.own (As:=[tA a5.v r3]) (cg [10] kr rfl) (fun _ _ h=>oo Aw (aQ.1 h)) .nil) ?_)))))))))))))))))
    rintro⟨Q,P,O,N,M⟩
    refine lm (L':=[cells b1 [.pointer none] 29,cells F [zI 0,zI 0] 26,cells b9 [zP q] 29,cells q [Q.v,.map (some (bm P)),.map (some (bm O)),.map (some (bm N)),M.v] 72,bD Q.v z.2.units,cG (fun n:ae=>af n) (fun n:Int=>aC .i64 n) (bm P) z.2.place,dU (bm O) z.2.fors,cG (fun n:ae=>af n) (fun n:Bool=>ay n) (bm N) z.2.skips,bD M.v z.2.lines,cells y [zI (p+((x1.size:Int)+1))] 3,tA a5.v r3]) (cg [0,1,2,11,12,13,14,15,16,9,10] kr rfl) (zbk zrj rfl dc (fun ec=>eK (k:=11) (vs:=(kD z.1)) (l':=(kD z.1)) kn rfl rfl rfl rfl rfl (show _≤_ by simp) rfl rfl ?_))
    show TO _ _ _ _ _ _ _ _ _ _ [cells b1 [.pointer none] 29,cells F [zI 0,zI 0] 26,cells b9 [zP q] 29,cells q [Q.v,.map (some (bm P)),.map (some (bm O)),.map (some (bm N)),M.v] 72,bD Q.v z.2.units,cG (fun n:ae=>af n) (fun n:Int=>aC .i64 n) (bm P) z.2.place,dU (bm O) z.2.fors,cG (fun n:ae=>af n) (fun n:Bool=>ay n) (bm N) z.2.skips,bD M.v z.2.lines,cells y [zI (p+((x1.size:Int)+1))] 3,tA a5.v r3,cells ec (kD z.1) 26]
    exact zyH (zab Cw rfl dc rfl (show _=0 from rfl) (zat (k:=11) Cv rfl dc rfl rfl rfl (zaR rfl zf8 (zyN (zyB rfl h (fun h=>zaL (zdb 2 [(0,40,.agg (kD z.1).toArray)] mixed kr kr dc (by rfl) kr kr (zae (fun D n d c u i=>zbT (k:=11) (cs:=(kD z.1)) kM rfl dc (zbA (by rfl) rfl) rfl rfl rfl (zaT 0 u i)) (zae (fun D n d c u i=>ef (k:=0) (l':=[.pointer none]) Aa rfl (zbA (by rfl) rfl) rfl rfl rfl (fun _ _=>rfl) rfl (LH (by rfl))) ce)) (eK (k:=1) (vs:=(kD z.1)) (l':=(kD z.1)) kn rfl rfl rfl rfl rfl (show _≤_ by simp) rfl rfl (zyN (zaz (cD (my (z.1.Err,z.1.At,z.2.units,z.2.place,z.2.fors,z.2.skips,z.2.lines,p+((x1.size:Int)+1),Q,(bm P),(bm O),(bm N),M) (show _∧_ from ⟨rfl,h⟩) (cj 10)))))))) (fun h=>bA (ca (lH (z.2.units,z.2.place,z.2.fors,z.2.skips,z.2.lines,p+((x1.size:Int)+1),Q,(bm P),(bm O),(bm N),M) (fun bk e2=>by have e9:=lK a3 e2;subst e9;subst bb;exact h) (cj 10)))))))))
   ·rintro aw ⟨L,J,I,H,G,p,m,E,C,B,f⟩ a4
    have h:c2 L J I H G p=some r:=a4 [] (aE _).symm
    rw[dj] at h
    show TX _ _ _ _ _ _ _ [zhW ((([]:List Nat):List Nat).map fx),cy,cy,cy,cy,cy,cy,cy,cy,cy,cy,cy,cy,cy,cells b1 [.pointer none] 29,cells F [zI 0,zI 0] 26,cells b9 [zP q] 29,cells q [m.v,.map (some E),.map (some C),.map (some B),f.v] 72,bD m.v L,cG (fun n:ae=>af n) (fun n:Int=>aC .i64 n) E J,dU C I,cG (fun n:ae=>af n) (fun n:Bool=>ay n) B H,bD f.v G,cells y [zI p] 3,fx aw]
    refine rU (k:=24) (j:=0) rfl rfl dc ?_
    show TX _ _ _ _ _ _ _ [zhW ((aw::([]:List Nat):List Nat).map fx),cy,cy,cy,cy,cy,cy,cy,cy,cy,cy,cy,cy,cy,cells b1 [.pointer none] 29,cells F [zI 0,zI 0] 26,cells b9 [zP q] 29,cells q [m.v,.map (some E),.map (some C),.map (some B),f.v] 72,bD m.v L,cG (fun n:ae=>af n) (fun n:Int=>aC .i64 n) E J,dU C I,cG (fun n:ae=>af n) (fun n:Bool=>ay n) B H,bD f.v G,cells y [zI p] 3,cy]
    exact ca (cH (L,J,I,H,G,b9,q,m,E,C,B,f,aw::([]:List Nat)) h rfl (bE rfl) (cg [14,15,16,17,18,19,20,21,22,0] kr rfl))
   rintro aw c pre x1 post g em hX
   obtain⟨rfl,h⟩:=(show _∧_ from hX)
   obtain⟨x2,x3,c0,ch,cc,b0,bs,dd,T,a8,a7,a6,S⟩:=g
   rw[di] at h
   show TC _ _ _ _ _ _ _ _ _ [zhW ((([]:List Nat):List Nat).map fx),cy,cy,cy,cy,cy,cy,cy,cy,cy,cy,cy,cy,cy,cells b1 [.pointer none] 29,cells F [zI x2,zI x3] 26,cells b9 [zP q] 29,cells q [T.v,.map (some a8),.map (some a7),.map (some a6),S.v] 72,bD T.v c0,cG (fun n:ae=>af n) (fun n:Int=>aC .i64 n) a8 ch,dU a7 cc,cG (fun n:ae=>af n) (fun n:Bool=>ay n) a6 b0,bD S.v bs,cells y [zI dd] 3,fx aw]
   refine zU (k:=24) (j:=0) rfl rfl dc ?_
   show TC _ _ _ _ _ _ _ _ _ [zhW ((aw::([]:List Nat):List Nat).map fx),cy,cy,cy,cy,cy,cy,cy,cy,cy,cy,cy,cy,cy,cells b1 [.pointer none] 29,cells F [zI x2,zI x3] 26,cells b9 [zP q] 29,cells q [T.v,.map (some a8),.map (some a7),.map (some a6),S.v] 72,bD T.v c0,cG (fun n:ae=>af n) (fun n:Int=>aC .i64 n) a8 ch,dU a7 cc,cG (fun n:ae=>af n) (fun n:Bool=>ay n) a6 b0,bD S.v bs,cells y [zI dd] 3,cy]
   refine zaz (cD (bP (zN (by simp) (z1 nj nk 72 ?_))))
   show TX _ _ _ _ _ _ _ [zhW ((aw::([]:List Nat):List Nat).map fx),cy,cy,cy,cy,cy,cy,cy,cy,cy,cy,cy,cy,cy,cells b1 [.pointer none] 29,cells F [zI x2,zI x3] 26,cells b9 [zP q] 29,cells q [T.v,.map (some a8),.map (some a7),.map (some a6),S.v] 72,bD T.v c0,cG (fun n:ae=>af n) (fun n:Int=>aC .i64 n) a8 ch,dU a7 cc,cG (fun n:ae=>af n) (fun n:Bool=>ay n) a6 b0,bD S.v bs,cells y [zI dd] 3,cy,jA nj nk 72 (.pointer none) none]
   cases h
   exact lj (rs:=[.cell 2 29,.cell 3 26]) (aw::([]:List Nat)) (.pointer none) (.inl rfl) (lg (k:=0) rfl) results9 (.cons (.cell oJ (k:=14) rfl rfl) (.cons (.cells kM (k:=15) rfl rfl rfl) .nil)) rfl (cg [25] kr rfl)
  rintro⟨o1,o2,o3,o4,o5,b3,b4,a2,b5,b6,b7,a1,ds1⟩ h
  rw[d5] at h
  show TC _ _ _ _ _ (oj ds1) _ _ [(2,zP b1),(3,zP F),(4,zP b3)] [cells b1 [.pointer none] 29,cells F [zI 0,zI 0] 26,cells b3 [zP b4] 29,cells b4 [a2.v,.map (some b5),.map (some b6),.map (some b7),a1.v] 72,bD a2.v o1,cG (fun n:ae=>af n) (fun n:Int=>aC .i64 n) b5 o2,dU b6 o3,cG (fun n:ae=>af n) (fun n:Bool=>ay n) b7 o4,bD a1.v o5,zhW ((ds1:List Nat).map fx)]
  refine zyG (zat (k:=2) oJ rfl dc rfl rfl rfl (zbb (v:=.agg #[zI 0,zI 0]) (ps:=[]) rfl dc rfl (fun _=>by kernel_rfl) (ef (k:=0) (l':=[zP b4]) Aa rfl rfl rfl rfl rfl (fun _ _=>rfl) rfl (eK (k:=1) (vs:=[zI 0,zI 0]) (l':=[zI 0,zI 0]) kn rfl rfl rfl rfl rfl (show _≤_ by simp) rfl rfl ?_))))
  show TO _ _ _ _ _ _ _ _ _ _ [cells b1 [zP b4] 29,cells F [zI 0,zI 0] 26,cells b3 [zP b4] 29,cells b4 [a2.v,.map (some b5),.map (some b6),.map (some b7),a1.v] 72,bD a2.v o1,cG (fun n:ae=>af n) (fun n:Int=>aC .i64 n) b5 o2,dU b6 o3,cG (fun n:ae=>af n) (fun n:Bool=>ay n) b7 o4,bD a1.v o5,zhW ((ds1:List Nat).map fx)]
  refine zyN (zaz (zN (by simp) (F3 (As:=[cells b4 [a2.v,.map (some b5),.map (some b6),.map (some b7),a1.v] 72,bD a2.v o1,cG (fun n:ae=>af n) (fun n:Int=>aC .i64 n) b5 o2,dU b6 o3,cG (fun n:ae=>af n) (fun n:Bool=>ay n) b7 o4,bD a1.v o5]) (cg [3,4,5,6,7,8] kr rfl) (Gq (enc:=nj) (nest:=nk) (t:=72) (x:=(⟨o1,o2,o3,o4,o5⟩:cw)) (b:=b4) (hd:=(a2,(⟨some ⟨b5,0,none⟩,0,0⟩:Hd),(⟨some ⟨b6,0,none⟩,0,0⟩:Hd),(⟨some ⟨b7,0,none⟩,0,0⟩:Hd),a1))) (fun _ _=>?_))))
  show TX _ _ _ _ _ _ _ [cells b1 [zP b4] 29,cells F [zI 0,zI 0] 26,cells b3 [zP b4] 29,cy,cy,cy,cy,cy,cy,zhW ((ds1:List Nat).map fx),jA nj nk 72 (zP b4) (some (⟨o1,o2,o3,o4,o5⟩:cw))]
  cases h
  exact lj (rs:=[.cell 2 29,.cell 3 26]) ds1 (zP b4) (.inl rfl) (lg (k:=9) rfl) results9 (.cons (.cell oJ (k:=0) rfl rfl) (.cons (.cells kM (k:=1) rfl rfl rfl) .nil)) rfl (cg [10] kr rfl)
 exact fun b hb=>hb.elim
end Go.Proofs.YtifpjbgnikjglaaGreatDoor
